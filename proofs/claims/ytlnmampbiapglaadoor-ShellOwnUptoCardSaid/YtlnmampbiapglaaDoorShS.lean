/- Two lists of words, compared; the first question of the law. -/
import Derived.Test.YtlnmampbiapglaaDoorShW
set_option linter.unusedSimpArgs false
set_option linter.unusedSectionVars false
set_option linter.unusedVariables false
namespace Go.Sh
open Go Go.X Go.Proofs
variable [WI]

structure SamePre (n m : Nat) (h h' : Nat → ByteArray) : Prop where
  nm : m = n
  le : n ≤ 4294967296
  rows : ∀ j, j < n → h j = h' j
structure SameIn (n m n1 m1 : Nat) (f1 g1 : Nat → List Value) : Prop where
  ex : ∃ h h', n1 = n ∧ m1 = m ∧ f1 = (fun j => [.string (h j)]) ∧ g1 = (fun j => [.string (h' j)]) ∧ SamePre n m h h'
def sameT : CallS := fun args V K =>
  match args, V with
  | [.slice none 0 0, .slice none 0 0], [.vec 9 1 n0 f0] => K (.bool true) [.vec 9 1 n0 f0]
  | [.slice (some ⟨1, 2, some 0⟩) n 0, .slice (some ⟨2, 2, some 0⟩) m 0], [.vec 9 1 n0 f0, .vec 9 1 n1 f1, .vec 9 1 m1 g1] =>
    SameIn n m n1 m1 f1 g1 ∧ K (.bool true) [.vec 9 1 n0 f0, .vec 9 1 n1 f1, .vec 9 1 m1 g1]
  | _, _ => False

structure SAt (n : Nat) (k : Nat) (i : Int) : Prop where
  ex : ∃ j : Nat, i = j ∧ j + k = n
def sameTm (n : Nat) (i : Int) : List Value := [.slice (some ⟨1, 2, some 0⟩) n 0, .slice (some ⟨2, 2, some 0⟩) n 0, unk, unk, unk, .int .i64 i] ++ List.replicate 20 unk
def sameV (n0 : Nat) (f0 : Nat → List Value) (n : Nat) (h h' : Nat → ByteArray) : VW := [.vec 9 1 n0 f0, .vec 9 1 n fun j => [.string (h j)], .vec 9 1 n fun j => [.string (h' j)]]
def sameJ (n0 : Nat) (f0 : Nat → List Value) (n : Nat) (h h' : Nat → ByteArray) (k : Nat) (S : VSt) : Prop :=
  match nth undef S.tmps 5, S.V with
  | .int .i64 i, V => leT (sameTm n i) S.tmps ∧ QSt ⟨[], V⟩ ⟨[], sameV n0 f0 n h h'⟩ ∧ SAt n k i
  | _, _ => False
def sameE (n0 : Nat) (f0 : Nat → List Value) (n : Nat) (h h' : Nat → ByteArray) : VSt := ⟨List.replicate 26 unk, sameV n0 f0 n h h'⟩
def sameK (n0 : Nat) (f0 : Nat → List Value) (n : Nat) (h h' : Nat → ByteArray) (e : Exit) (S : VSt) : Prop :=
  match e with
  | .normal => QSt S (sameE n0 f0 n h h')
  | _ => False
def sameSel (_ : Exit) (_ : VSt) : List Sel := [.keep 0, .keep 1, .keep 2]
def sameKs (e : Exit) : List Nat := match e with | .normal => [0, 1, 5] | _ => []

theorem sameJ_eq {n0 : Nat} {f0 : Nat → List Value} {n : Nat} {h h' : Nat → ByteArray} {k : Nat} {S : VSt} (hJ : sameJ n0 f0 n h h' k S) : ∃ j : Nat, leT (sameTm n j) S.tmps ∧ S.V = sameV n0 f0 n h h' ∧ j + k = n := by
  unfold sameJ at hJ
  split at hJ
  · obtain ⟨h1, ⟨h2⟩, ⟨j, rfl, h3⟩⟩ := hJ
    exact ⟨j, h1, (VSt.mk.inj h2).2, h3⟩
  · exact hJ.elim

theorem same_round (n0 : Nat) (f0 : Nat → List Value) (hf0 : ∀ r, r < n0 → ∀ v ∈ f0 r, Sc 0 v ∧ cellC v = true) (n : Nat) (h h' : Nat → ByteArray) (hl : n ≤ 4294967296) (hh : ∀ j, j < n → h j = h' j) (k : Nat) (S : VSt) (hJ : sameJ n0 f0 n h h' k S) :
    Does Tryd.prog (roundOf Tryd.f9 0) S fun e S' => reshape 3 (sameSel e S') (sameKs e) [] [] S' (roundR 0 (sameJ n0 f0 n h h') k (sameK n0 f0 n h h') e) := by
  obtain ⟨j, ht, hV, hj⟩ := sameJ_eq hJ
  refine Does.weaken (S' := ⟨sameTm n j, sameV n0 f0 n h h'⟩) ?_ ht hV.symm (.of rfl fun k o hk => ?_)
  · refine of_code (ctxG_ok (l := []) (cs := []) (bs := []) .nil .nil) (n := 200) .g ?_
    refine by_nf (B := bsplit (decide ((↑j : Int) < (↑n : Int))) (((0 : Int) ≤ (↑j : Int) ∧
      (↑j : Int) + (1 : Int) ≤ (↑n : Int) ∧
      (0 : Nat) + n ≤ n) ∧
      ((0 : Nat) + (↑j : Int).toNat).succ ≤ n ∧
      ((0 : Int) ≤ (↑j : Int) ∧
      (↑j : Int) + (1 : Int) ≤ (↑n : Int) ∧
      (0 : Nat) + n ≤ n) ∧
      ((0 : Nat) + (↑j : Int).toNat).succ ≤ n ∧
      bsplit (!(h ((0 : Nat) + (↑j : Int).toNat)).data.toList == (h' ((0 : Nat) + (↑j : Int).toNat)).data.toList) False ((k = (0 : Nat) → False) ∧
      (Value.slice (some { block := (1 : Nat), off := (2 : Nat), spot := some (0 : Nat) : Addr }) n (0 : Nat) = Value.slice (some { block := (1 : Nat), off := { block := (1 : Nat), off := (2 : Nat), spot := some (0 : Nat) : Addr }.off, spot := some (0 : Nat) : Addr }) n (0 : Nat) ∧
      Value.slice (some { block := (2 : Nat), off := (2 : Nat), spot := some (0 : Nat) : Addr }) n (0 : Nat) = Value.slice (some { block := (2 : Nat), off := { block := (2 : Nat), off := (2 : Nat), spot := some (0 : Nat) : Addr }.off, spot := some (0 : Nat) : Addr }) n (0 : Nat) ∧
      Value.int IntKind.i64 (IntKind.i64.wrap ((↑j : Int) + (1 : Int))) = Value.int IntKind.i64 (IntKind.i64.wrap ((↑j : Int) + (1 : Int))) ∧
      True) ∧
      QSt { tmps := [], V := [VObj.vec (9 : TypeId) (1 : Nat) n0 f0, VObj.vec (9 : TypeId) (1 : Nat) n fun j => [Value.string (h j)], VObj.vec (9 : TypeId) (1 : Nat) n fun j => [Value.string (h' j)]] : VSt } { tmps := [], V := [VObj.vec (9 : TypeId) (1 : Nat) n0 f0, VObj.vec (9 : TypeId) (1 : Nat) n fun j => [Value.string (h j)], VObj.vec (9 : TypeId) (1 : Nat) n fun j => [Value.string (h' j)]] : VSt } ∧
      SAt n (k - (1 : Nat)) (IntKind.i64.wrap ((↑j : Int) + (1 : Int))))) (QSt { tmps := [unk, unk, unk, unk, unk, unk, unk, unk, unk, unk, unk, unk, unk, unk, unk, unk, unk, unk, unk, unk, unk, unk, unk, unk, unk, unk], V := [VObj.vec (9 : TypeId) (1 : Nat) n0 f0, VObj.vec (9 : TypeId) (1 : Nat) n fun j => [Value.string (h j)], VObj.vec (9 : TypeId) (1 : Nat) n fun j => [Value.string (h' j)]] : VSt } { tmps := [unk, unk, unk, unk, unk, unk, unk, unk, unk, unk, unk, unk, unk, unk, unk, unk, unk, unk, unk, unk, unk, unk, unk, unk, unk, unk], V := [VObj.vec (9 : TypeId) (1 : Nat) n0 f0, VObj.vec (9 : TypeId) (1 : Nat) n fun j => [Value.string (h j)], VObj.vec (9 : TypeId) (1 : Nat) n fun j => [Value.string (h' j)]] : VSt })) (by kernel_rfl) ?_
    refine bsplit_iff.2 ⟨fun hlt => ?_, fun hge => ⟨rfl⟩⟩
    have hlt : j < n := by simpa using hlt
    refine ⟨⟨by omega, by omega, by omega⟩, by omega, ⟨by omega, by omega, by omega⟩, by omega, bsplit_iff.2 ⟨fun hne => ?_, fun _ => ⟨by omega, ⟨rfl, rfl, rfl, trivial⟩, ⟨rfl⟩, ⟨j + 1, ?_, by omega⟩⟩⟩⟩
    · simp [hh j hlt] at hne
    · rw [w64 _ (by omega)]; rfl
  · match k, hk with
    | 0, hk => cases hk; exact hf0
    | 1, hk => cases hk; intro r _ v hv; simp at hv; subst hv; exact ⟨.plain rfl, rfl⟩
    | 2, hk => cases hk; intro r _ v hv; simp at hv; subst hv; exact ⟨.plain rfl, rfl⟩

def sameB (n0 : Nat) (f0 : Nat → List Value) (n : Nat) (h h' : Nat → ByteArray) : BlkS := fun S K =>
  reshape S.V.length (sameSel .normal S) [0, 1, 5] [] [] S (sameJ n0 f0 n h h' n) ∧ S.V.length = 3 ∧ K .normal (sameE n0 f0 n h h')

theorem same_loop (n0 : Nat) (f0 : Nat → List Value) (hf0 : ∀ r, r < n0 → ∀ v ∈ f0 r, Sc 0 v ∧ cellC v = true) (n : Nat) (h h' : Nat → ByteArray) (hl : n ≤ 4294967296) (hh : ∀ j, j < n → h j = h' j) (S : VSt) (K : Exit → VSt → Prop)
    (hB : sameB n0 f0 n h h' S K) : Does Tryd.prog (.block 0 (.loop (roundOf Tryd.f9 0))) S K := by
  obtain ⟨h1, h2, h3⟩ := hB
  refine Does.mono (Does.loopR (K := sameK n0 f0 n h h') sameKs sameSel [] [] (sameJ n0 f0 n h h') S (reshape_mono (fun S hS => ⟨_, hS⟩) h1) fun k S' hJ => ?_) fun e S' hK => ?_
  · rw [h2]; exact same_round n0 f0 hf0 n h h' hl hh k S' hJ
  · cases e with
    | normal => obtain ⟨rfl⟩ := hK; exact h3
    | _ => exact hK.elim

theorem same_ok : CallOK Tryd.prog 9 sameT := by
  refine ⟨callable Tryd.func9 rfl (by decide +kernel), fun args V K hT => ?_⟩
  unfold sameT at hT
  split at hT
  · rename_i n0 f0
    refine of_run (ctxG_ok (l := []) (cs := []) (bs := []) .nil .nil) (n := 200) Tryd.func9 rfl .g ?_
    refine by_nf (B := K (Value.bool true) [VObj.vec (9 : Nat) (1 : Nat) n0 f0]) (by kernel_rfl) ?_
    exact hT
  · rename_i n m n0 f0 n1 f1 m1 g1
    obtain ⟨⟨h, h', rfl, rfl, rfl, rfl, ⟨rfl, hl, hh⟩⟩, hK⟩ := hT
    intro env w hW hsc
    have hf0 : ∀ r, r < n0 → ∀ v ∈ f0 r, Sc 0 v ∧ cellC v = true := hW.sc 0 _ rfl
    revert env w hW hsc
    refine of_run (ctxG_ok (l := []) (cs := []) (bs := [(0, sameB n0 f0 _ h h')]) .nil .nil) (n := 200) Tryd.func9 rfl (.one rfl rfl (same_loop n0 f0 hf0 _ h h' hl hh)) ?_
    refine by_nf (B := bsplit ((↑m1 : Int) != (↑m1 : Int)) (K (Value.bool false) [VObj.vec (9 : Nat) (1 : Nat) n0 f0, VObj.vec (9 : Nat) (1 : Nat) m1 fun j => [Value.string (h j)], VObj.vec (9 : Nat) (1 : Nat) m1 fun j => [Value.string (h' j)]]) (((Value.slice (some { block := (1 : Nat), off := (2 : Nat), spot := some (0 : Nat) : Addr }) m1 (0 : Nat) = Value.slice (some { block := (1 : Nat), off := { block := (1 : Nat), off := (2 : Nat), spot := some (0 : Nat) : Addr }.off, spot := some (0 : Nat) : Addr }) m1 (0 : Nat) ∧
      Value.slice (some { block := (2 : Nat), off := (2 : Nat), spot := some (0 : Nat) : Addr }) m1 (0 : Nat) = Value.slice (some { block := (2 : Nat), off := { block := (2 : Nat), off := (2 : Nat), spot := some (0 : Nat) : Addr }.off, spot := some (0 : Nat) : Addr }) m1 (0 : Nat) ∧
      Value.int IntKind.i64 (0 : Int) = Value.int IntKind.i64 (0 : Int) ∧
      True) ∧
      QSt { tmps := [], V := [VObj.vec (9 : Nat) (1 : Nat) n0 f0, VObj.vec (9 : Nat) (1 : Nat) m1 fun j => [Value.string (h j)], VObj.vec (9 : Nat) (1 : Nat) m1 fun j => [Value.string (h' j)]] : VSt } { tmps := [], V := [VObj.vec (9 : TypeId) (1 : Nat) n0 f0, VObj.vec (9 : TypeId) (1 : Nat) m1 fun j => [Value.string (h j)], VObj.vec (9 : TypeId) (1 : Nat) m1 fun j => [Value.string (h' j)]] : VSt } ∧
      SAt m1 m1 (0 : Int)) ∧
      (3 : Nat) = (3 : Nat) ∧
      K (Value.bool true) [VObj.vec (9 : TypeId) (1 : Nat) n0 f0, VObj.vec (9 : TypeId) (1 : Nat) m1 fun j => [Value.string (h j)], VObj.vec (9 : TypeId) (1 : Nat) m1 fun j => [Value.string (h' j)]])) (by kernel_rfl) ?_
    refine bsplit_iff.2 ⟨fun hne => ?_, fun _ => ⟨⟨⟨rfl, rfl, rfl, trivial⟩, ⟨rfl⟩, ⟨0, rfl, by omega⟩⟩, rfl, hK⟩⟩
    simp at hne
  · exact hT.elim

theorem runL_len : ∀ (l : List UInt8) (σ : RS), (runL l σ).Ws.length ≤ σ.Ws.length + l.length
  | [], σ => by simp [runL]
  | c :: cs, σ => by
    unfold runL
    split
    · simp
    · have := runL_len cs (stepNext σ c)
      have := (stepNext_len σ c).2
      simp only [List.length_cons]
      omega
theorem refOut_len {s : ByteArray} {ws : List ByteArray} (h : refOut s = some ws) : ws.length ≤ s.size + 1 := by
  have h1 := runL_len (bytesL s) rs0
  have h2 : (bytesL s).length = s.size := rfl
  have h3 := (stepEnds_len (runL (bytesL s) rs0) 0).2
  have h4 : (rs0 : RS).Ws.length = 0 := rfl
  have h5 : ∀ {a : Option (List ByteArray)}, refOut s = a → a = some ws → ws.length ≤ s.size + 1 := by
    intro a ha he
    subst he
    unfold refOut at ha
    by_cases hI : (runL (bytesL s) rs0).In = 1
    · simp only [hI, if_true] at ha
      by_cases hB : (stepEnds (runL (bytesL s) rs0) 0).B = true ∨ (2 ≤ (stepEnds (runL (bytesL s) rs0) 0).In ∧ (stepEnds (runL (bytesL s) rs0) 0).In ≤ 5)
      · rw [if_pos hB] at ha; simp at ha
      · rw [if_neg hB] at ha; simp at ha; subst ha; omega
    · simp only [hI, if_false] at ha
      by_cases hB : (runL (bytesL s) rs0).B = true ∨ (2 ≤ (runL (bytesL s) rs0).In ∧ (runL (bytesL s) rs0).In ≤ 5)
      · rw [if_pos hB] at ha; simp at ha
      · rw [if_neg hB] at ha; simp at ha; subst ha; omega
  exact h5 rfl h

variable (hesc : FnOK Tryd.prog 20 (g1 dStr escV))
include hesc
theorem law_runs (s : ByteArray) (hs : s.size ≤ 2147483648) : CallDoes Tryd.prog 3 [.string s] [] fun v _ => v = .bool true := by
  refine of_run (ctxG_ok (l := []) (cs := [(7, wordsT refOut), (8, wordsT refOut), (9, sameT)]) (bs := []) .nil (.cons (words_ok hesc) (.cons refWords_ok (.cons same_ok .nil)))) (n := 200) Tryd.func3 rfl .g ?_
  refine by_nf (B := { data := #[(97 : UInt8)] : ByteArray }.size ≤ (2147483648 : Nat) ∧
    (some (if (runL (bytesL { data := #[(97 : UInt8)] : ByteArray }) rs0).In = (1 : Int) then stepEnds (runL (bytesL { data := #[(97 : UInt8)] : ByteArray }) rs0) (0 : Int) else runL (bytesL { data := #[(97 : UInt8)] : ByteArray }) rs0).Ws = none → Value.bool false = Value.bool true) ∧
    ∀ (ws : List ByteArray) (n : Nat) (h : Nat → ByteArray), some (if (runL (bytesL { data := #[(97 : UInt8)] : ByteArray }) rs0).In = (1 : Int) then stepEnds (runL (bytesL { data := #[(97 : UInt8)] : ByteArray }) rs0) (0 : Int) else runL (bytesL { data := #[(97 : UInt8)] : ByteArray }) rs0).Ws = some ws → SOut ws n h → bsplit ((↑n : Int) != (1 : Int)) (Value.bool false = Value.bool true) (((0 : Int) ≤ (0 : Int) ∧
    (0 : Int) + (1 : Int) ≤ (↑n : Int) ∧
    (0 : Nat) + n ≤ n) ∧
    Nat.succ (0 : Nat) ≤ n ∧
    bsplit (!(h (0 : Nat)).data.toList == { data := #[(97 : UInt8)] : ByteArray }.data.toList) (Value.bool false = Value.bool true) (s.size ≤ (2147483648 : Nat) ∧
    (refOut s = none → s.size ≤ (2147483648 : Nat) ∧
    (refOut s = none → Value.bool true = Value.bool true) ∧
    ∀ (ws : List ByteArray) (n : Nat) (h : Nat → ByteArray), refOut s = some ws → SOut ws n h → Value.bool false = Value.bool true) ∧
    ∀ (ws : List ByteArray) (n : Nat) (h : Nat → ByteArray), refOut s = some ws → SOut ws n h → s.size ≤ (2147483648 : Nat) ∧
    (refOut s = none → Value.bool false = Value.bool true) ∧
    ∀ (ws : List ByteArray) (n_1 : Nat) (h_1 : Nat → ByteArray), refOut s = some ws → SOut ws n_1 h_1 → (SameIn n n_1 n n_1 (fun j => [Value.string (h j)]) fun j => [Value.string (h_1 j)]) ∧
    Value.bool true = Value.bool true))) (by kernel_rfl) ?_
  refine ⟨by decide, fun h => by simp at h, fun ws n h hws ho => ?_⟩
  have hws : ws = [⟨#[97]⟩] := by
    have := Option.some.inj hws
    rw [← this]; decide
  subst hws
  obtain ⟨rfl, ho⟩ := ho
  have ha : h 0 = ⟨#[97]⟩ := ho 0 _ rfl
  refine bsplit_iff.2 ⟨fun hne => by simp at hne, fun _ => ⟨⟨by omega, by simp, by simp⟩, by simp, bsplit_iff.2 ⟨fun hne => by simp [ha] at hne, fun _ => ⟨hs, fun h0 => ⟨hs, fun _ => rfl, fun ws n h h1 _ => by rw [h0] at h1; cases h1⟩, fun ws n h h1 o1 => ⟨hs, (fun h0 => by rw [h0] at h1; cases h1), fun ws' m h' h2 o2 => ⟨?_, rfl⟩⟩⟩⟩⟩⟩
  rw [h1] at h2
  cases h2
  obtain ⟨rfl, o1⟩ := o1
  obtain ⟨rfl, o2⟩ := o2
  have := refOut_len h1
  refine ⟨h, h', rfl, rfl, rfl, rfl, rfl, by omega, fun j hj => ?_⟩
  rw [o1 j ws[j] (by simp [hj]), o2 j ws[j] (by simp [hj])]
end Go.Sh
