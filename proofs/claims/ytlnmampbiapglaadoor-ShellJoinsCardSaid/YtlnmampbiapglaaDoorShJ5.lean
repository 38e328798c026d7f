/- ShellJoins: the law's function answers true. -/
import Derived.Test.YtlnmampbiapglaaDoorShJ4
set_option linter.unusedSimpArgs false
set_option linter.unusedSectionVars false
set_option linter.unusedVariables false
set_option maxRecDepth 10000
namespace Go.Sh
open Go Go.X Go.Proofs
variable [WI]

def jBB (nw : Nat) (cm : ByteArray) (W : Nat → Wd) : BlkS := fun S K =>
  match nth undef S.tmps 0 with
  | .slice (some ⟨0, 3, some 0⟩) _ c => jB nw c cm W S K
  | _ => False
theorem j_all (nw : Nat) (hnw : nw ≤ 9223372036854775807) (cm : ByteArray) (W : Nat → Wd) (S : VSt) (K : Exit → VSt → Prop) (hB : jBB nw cm W S K) : Does Tryd.prog (.block 0 (.loop (roundOf Tryd.f6 0))) S K := by
  unfold jBB at hB
  split at hB
  · exact j_loop nw _ hnw cm W S K hB
  · exact hB.elim

structure JTail (W : Nat → Wd) (nw : Nat) (s : ByteArray) (n : Int) (cm : ByteArray) : Prop where
  words : ∃ j : Nat, n = j ∧ j ≤ nw ∧ refOut (s ++ ⟨#[9, 35]⟩ ++ cm) = some (wordsL (wT W) j)
theorem JEnd.tail {W : Nat → Wd} {nw : Nat} {s : ByteArray} {n : Int} (h : JEnd W nw s n) (cm : ByteArray) : JTail W nw s n cm := by
  obtain ⟨j, rfl, h1, h2, h3⟩ := h
  refine ⟨j, rfl, h1, ref_join (wT W) j (bytesL cm) _ ?_⟩
  rw [bytes_app, bytes_app, h2]
  simp [bytesL]
theorem words_row {W : Nat → Wd} {j n : Nat} {h : Nat → ByteArray} (ho : SOut (wordsL (wT W) j) n h) : n = j ∧ KRow W n n fun j => [Value.string (h j)] := by
  obtain ⟨h1, h2⟩ := ho
  have e : n = j := by rw [h1]; simp [wordsL]
  refine ⟨e, h, rfl, rfl, fun i hi => ?_⟩
  have := h2 i ⟨(wT W i).toArray⟩ (by rw [wordsL, List.getElem?_map, List.getElem?_range (by omega)]; rfl)
  rw [this]; rfl

variable (hesc : FnOK Tryd.prog 20 (g1 dStr escV))
include hesc
theorem lj_run (nw c : Nat) (hnw : nw ≤ 9223372036854775807) (cm : ByteArray) (W : Nat → Wd) :
    CallDoes Tryd.prog 6 [.slice (some ⟨0, 3, some 0⟩) nw c, .string cm] (jV nw W) fun v _ => v = .bool true := by
  refine of_run (ctxG_ok (l := []) (cs := [(11, frameT (quoteF [120])), (7, wordsT refOut)]) (bs := [(0, jBB nw cm W), (2, kB nw W)]) .nil (.cons ((quoteF_ok [120]).framed) (.cons (words_ok hesc) .nil))) (n := 200) Tryd.func6 rfl
    (BlksOK.two2 rfl rfl rfl (j_all nw hnw cm W) (k_loop nw hnw W)) ?_
  refine by_nf (B := ((Value.slice (some { block := (0 : Nat), off := (3 : Nat), spot := some (0 : Nat) : Addr }) nw c = Value.slice (some { block := (0 : Nat), off := { block := (0 : Nat), off := (3 : Nat), spot := some (0 : Nat) : Addr }.off, spot := some (0 : Nat) : Addr }) nw c ∧
    Value.string cm = Value.string cm ∧
    Value.string { data := #[] : ByteArray } = Value.string { data := #[] : ByteArray } ∧
    Value.int IntKind.i64 (0 : Int) = Value.int IntKind.i64 (0 : Int) ∧
    Value.int IntKind.i64 (0 : Int) = Value.int IntKind.i64 (0 : Int) ∧
    True) ∧
    QSt { tmps := [], V := [VObj.tab (33 : TypeId) (1 : Nat) nw fun i => (W i).c] : VSt } { tmps := [], V := [VObj.tab (33 : TypeId) (1 : Nat) nw fun i => (W i).c] : VSt } ∧
    JAt W nw nw { data := #[] : ByteArray } (0 : Int) (0 : Int)) ∧
    (1 : Nat) = (1 : Nat) ∧
    ∀ (s : ByteArray) (n : Int), JEnd W nw s n → bsplit (decide ((↑cm.size : Int) > (1000 : Int))) (((0 : Int) ≤ (0 : Int) ∧
    (0 : Int) ≤ (1000 : Int) ∧
    (1000 : Int) ≤ (↑cm.size : Int)) ∧
    (↑(s.size + { data := #[(9 : UInt8), (35 : UInt8)] : ByteArray }.size) : Int) ≤ IntKind.i64.max ∧
    (↑((s ++ { data := #[(9 : UInt8), (35 : UInt8)] : ByteArray }).size + (cm.extract (Int.toNat (0 : Int)) (Int.toNat (1000 : Int))).size) : Int) ≤ IntKind.i64.max ∧
    (s ++ { data := #[(9 : UInt8), (35 : UInt8)] : ByteArray } ++ cm.extract (Int.toNat (0 : Int)) (Int.toNat (1000 : Int))).size ≤ (2147483648 : Nat) ∧
    (refOut (s ++ { data := #[(9 : UInt8), (35 : UInt8)] : ByteArray } ++ cm.extract (Int.toNat (0 : Int)) (Int.toNat (1000 : Int))) = none → Value.bool false = Value.bool true) ∧
    ∀ (ws : List ByteArray) (n_1 : Nat) (h : Nat → ByteArray), refOut (s ++ { data := #[(9 : UInt8), (35 : UInt8)] : ByteArray } ++ cm.extract (Int.toNat (0 : Int)) (Int.toNat (1000 : Int))) = some ws → SOut ws n_1 h → bsplit ((↑n_1 : Int) != n) (Value.bool false = Value.bool true) (n_1 ≤ nw ∧
    (KRow W n_1 n_1 fun j => [Value.string (h j)]) ∧
    ((Value.slice (some { block := (0 : Nat), off := (3 : Nat), spot := some (0 : Nat) : Addr }) nw c = Value.slice (some { block := (0 : Nat), off := { block := (0 : Nat), off := (3 : Nat), spot := some (0 : Nat) : Addr }.off, spot := some (0 : Nat) : Addr }) nw c ∧
    Value.int IntKind.i64 (↑n_1 : Int) = Value.int IntKind.i64 n ∧
    Value.slice (some { block := (1 : Nat), off := (2 : Nat), spot := some (0 : Nat) : Addr }) n_1 (0 : Nat) = Value.slice (some { block := (1 : Nat), off := { block := (1 : Nat), off := (2 : Nat), spot := some (0 : Nat) : Addr }.off, spot := some (0 : Nat) : Addr }) n_1 (0 : Nat) ∧
    Value.int IntKind.i64 (0 : Int) = Value.int IntKind.i64 (0 : Int) ∧
    True) ∧
    QSt { tmps := [], V := [VObj.tab (33 : TypeId) (1 : Nat) nw fun i => (W i).c, VObj.vec (9 : TypeId) (1 : Nat) n_1 fun j => [Value.string (h j)]] : VSt } { tmps := [], V := [VObj.tab (33 : TypeId) (1 : Nat) nw fun i => (W i).c, VObj.vec (9 : TypeId) (1 : Nat) n_1 fun j => [Value.string (h j)]] : VSt } ∧
    KAt n_1 n_1 n (0 : Int)) ∧
    (2 : Nat) = (2 : Nat) ∧
    True ∧
    QPreF (0 : Nat) (1 : Nat) (1 : Nat) (nth [] [[Value.int IntKind.u8 (120 : Int)]]) [(120 : UInt8)] ∧
    ∀ (s : ByteArray), QOut [(120 : UInt8)] s → Value.bool (s.data.toList == { data := #[(34 : UInt8), (120 : UInt8), (34 : UInt8)] : ByteArray }.data.toList) = Value.bool true)) ((↑(s.size + { data := #[(9 : UInt8), (35 : UInt8)] : ByteArray }.size) : Int) ≤ IntKind.i64.max ∧
    (↑((s ++ { data := #[(9 : UInt8), (35 : UInt8)] : ByteArray }).size + cm.size) : Int) ≤ IntKind.i64.max ∧
    (s ++ { data := #[(9 : UInt8), (35 : UInt8)] : ByteArray } ++ cm).size ≤ (2147483648 : Nat) ∧
    (refOut (s ++ { data := #[(9 : UInt8), (35 : UInt8)] : ByteArray } ++ cm) = none → Value.bool false = Value.bool true) ∧
    ∀ (ws : List ByteArray) (n_1 : Nat) (h : Nat → ByteArray), refOut (s ++ { data := #[(9 : UInt8), (35 : UInt8)] : ByteArray } ++ cm) = some ws → SOut ws n_1 h → bsplit ((↑n_1 : Int) != n) (Value.bool false = Value.bool true) (n_1 ≤ nw ∧
    (KRow W n_1 n_1 fun j => [Value.string (h j)]) ∧
    ((Value.slice (some { block := (0 : Nat), off := (3 : Nat), spot := some (0 : Nat) : Addr }) nw c = Value.slice (some { block := (0 : Nat), off := { block := (0 : Nat), off := (3 : Nat), spot := some (0 : Nat) : Addr }.off, spot := some (0 : Nat) : Addr }) nw c ∧
    Value.int IntKind.i64 (↑n_1 : Int) = Value.int IntKind.i64 n ∧
    Value.slice (some { block := (1 : Nat), off := (2 : Nat), spot := some (0 : Nat) : Addr }) n_1 (0 : Nat) = Value.slice (some { block := (1 : Nat), off := { block := (1 : Nat), off := (2 : Nat), spot := some (0 : Nat) : Addr }.off, spot := some (0 : Nat) : Addr }) n_1 (0 : Nat) ∧
    Value.int IntKind.i64 (0 : Int) = Value.int IntKind.i64 (0 : Int) ∧
    True) ∧
    QSt { tmps := [], V := [VObj.tab (33 : TypeId) (1 : Nat) nw fun i => (W i).c, VObj.vec (9 : TypeId) (1 : Nat) n_1 fun j => [Value.string (h j)]] : VSt } { tmps := [], V := [VObj.tab (33 : TypeId) (1 : Nat) nw fun i => (W i).c, VObj.vec (9 : TypeId) (1 : Nat) n_1 fun j => [Value.string (h j)]] : VSt } ∧
    KAt n_1 n_1 n (0 : Int)) ∧
    (2 : Nat) = (2 : Nat) ∧
    True ∧
    QPreF (0 : Nat) (1 : Nat) (1 : Nat) (nth [] [[Value.int IntKind.u8 (120 : Int)]]) [(120 : UInt8)] ∧
    ∀ (s : ByteArray), QOut [(120 : UInt8)] s → Value.bool (s.data.toList == { data := #[(34 : UInt8), (120 : UInt8), (34 : UInt8)] : ByteArray }.data.toList) = Value.bool true))) (by kernel_rfl) ?_
  have hmx : IntKind.i64.max = 9223372036854775807 := by decide
  have h2z : (⟨#[9, 35]⟩ : ByteArray).size = 2 := rfl
  have q1 : QPreF 0 1 1 (nth [] [[Value.int IntKind.u8 (120 : Int)]]) [120] := ⟨rfl, rfl, by decide, by decide, fun _ => 120, ⟨fun j b hj => by
    match j, hj with
    | 0, hj => simp at hj; subst hj; rfl
    | j + 1, hj => simp at hj⟩, fun j hj => by
    match j, hj with
    | 0, _ => rfl
    | j + 1, h => omega⟩
  have q2 : ∀ s : ByteArray, QOut [120] s → Value.bool (s.data.toList == (⟨#[34, 120, 34]⟩ : ByteArray).data.toList) = Value.bool true := fun s hq => by
    have h1 : s.data.toList = [34, 120, 34] := hq.eq.trans (by decide)
    rw [h1]; rfl
  have tail : ∀ (s : ByteArray) (n : Int) (x : ByteArray) (ws : List ByteArray) (m : Nat) (h : Nat → ByteArray), JEnd W nw s n → refOut (s ++ ⟨#[9, 35]⟩ ++ x) = some ws → SOut ws m h → n = (m : Nat) ∧ m ≤ nw ∧ KRow W m m fun j => [Value.string (h j)] := by
    intro s n x ws m h hE hr ho
    obtain ⟨j, rfl, h1, h2⟩ := (hE.tail x).words
    rw [h2] at hr
    cases hr
    obtain ⟨h3, h4⟩ := words_row ho
    exact ⟨by omega, by omega, h4⟩
  refine ⟨⟨⟨rfl, rfl, rfl, rfl, rfl, trivial⟩, ⟨rfl⟩, ⟨0, rfl, rfl, by omega, rfl, by decide⟩⟩, rfl, fun s n hE => ?_⟩
  have hsz : s.size < 40000 := by obtain ⟨_, _, _, _, h⟩ := hE; exact h
  rw [h2z, hmx]
  refine bsplit_iff.2 ⟨fun hgt => ?_, fun hle => ?_⟩
  · have hgt : 1000 < cm.size := by simp only [decide_eq_true_eq] at hgt; omega
    have hx : (cm.extract (Int.toNat (0 : Int)) (Int.toNat (1000 : Int))).size ≤ 1000 := by
      rw [ByteArray.size_extract]
      show min 1000 _ - 0 ≤ 1000
      omega
    generalize cm.extract (Int.toNat (0 : Int)) (Int.toNat (1000 : Int)) = x at hx
    refine ⟨⟨by omega, by omega, by omega⟩, by omega, by rw [size_app, h2z]; omega, by rw [size_app, size_app, h2z]; omega, fun hno => ?_, fun ws m h hr ho => ?_⟩
    · obtain ⟨j, _, _, h2⟩ := (hE.tail x).words
      rw [h2] at hno; cases hno
    · obtain ⟨rfl, h1, h2⟩ := tail s n x ws m h hE hr ho
      refine bsplit_iff.2 ⟨fun hne => (by simp at hne), fun _ => ⟨h1, h2, ⟨⟨rfl, rfl, rfl, rfl, trivial⟩, ⟨rfl⟩, ⟨0, rfl, rfl, by omega⟩⟩, rfl, trivial, q1, q2⟩⟩
  · have hle : ¬ 1000 < cm.size := by simp only [decide_eq_false_iff_not] at hle; omega
    refine ⟨by omega, by rw [size_app, h2z]; omega, by rw [size_app, size_app, h2z]; omega, fun hno => ?_, fun ws m h hr ho => ?_⟩
    · obtain ⟨j, _, _, h2⟩ := (hE.tail cm).words
      rw [h2] at hno; cases hno
    · obtain ⟨rfl, h1, h2⟩ := tail s n cm ws m h hE hr ho
      refine bsplit_iff.2 ⟨fun hne => (by simp at hne), fun _ => ⟨h1, h2, ⟨⟨rfl, rfl, rfl, rfl, trivial⟩, ⟨rfl⟩, ⟨0, rfl, rfl, by omega⟩⟩, rfl, trivial, q1, q2⟩⟩
end Go.Sh
