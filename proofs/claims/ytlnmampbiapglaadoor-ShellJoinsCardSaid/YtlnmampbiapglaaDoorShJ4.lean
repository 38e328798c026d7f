/- ShellJoins: the law's function: its loops. -/
import Derived.Test.YtlnmampbiapglaaDoorShJ3
import Derived.Test.YtlnmampbiapglaaDoorShQ7
set_option linter.unusedSimpArgs false
set_option linter.unusedSectionVars false
set_option linter.unusedVariables false
set_option maxRecDepth 10000
namespace Go.Sh
open Go Go.X Go.Proofs
variable [WI]

/-- a word that came in -/
structure Wd where
  n : Nat
  b : Nat → UInt8
def Wd.l (x : Wd) : List UInt8 := (List.range x.n).map x.b
def Wd.h (x : Wd) (j : Nat) : Int := ((x.b j).toNat : Int)
def Wd.c (x : Wd) : List ACell := [.sl 5 1 x.n fun j => [.int .u8 (x.h j)]]
/-- its first 4000 bytes -/
def Wd.t (x : Wd) : List UInt8 := x.l.take 4000

theorem Wd.len (x : Wd) : x.l.length = x.n := by simp [Wd.l]
theorem Wd.tlen (x : Wd) : x.t.length = min 4000 x.n := by simp [Wd.t, Wd.len]
theorem Wd.int (x : Wd) : IntB x.h x.l := ⟨fun j b hj => by
  obtain ⟨i, h1, h2⟩ := Option.map_eq_some_iff.1 (by rw [Wd.l, List.getElem?_map] at hj; exact hj)
  obtain ⟨h3, h4⟩ := List.getElem?_eq_some_iff.1 h1
  simp at h4
  subst h4
  rw [← h2]; rfl⟩
theorem Wd.intT (x : Wd) : IntB x.h x.t := ⟨fun j b hj => x.int.at_ j b (by rw [Wd.t, List.getElem?_take] at hj; split at hj; exact hj; cases hj)⟩

def wT (W : Nat → Wd) (i : Nat) : List UInt8 := (W i).t

structure JAt (W : Nat → Wd) (nw : Nat) (k : Nat) (s : ByteArray) (n i : Int) : Prop where
  ex : ∃ j : Nat, i = j ∧ n = j ∧ j + k = nw ∧ bytesL s = joinL (wT W) j ∧ s.size < 40000
structure JEnd (W : Nat → Wd) (nw : Nat) (s : ByteArray) (n : Int) : Prop where
  ex : ∃ j : Nat, n = j ∧ j ≤ nw ∧ bytesL s = joinL (wT W) j ∧ s.size < 40000

def jV (nw : Nat) (W : Nat → Wd) : VW := [.tab 33 1 nw fun i => (W i).c]
def jTm (nw c : Nat) (cm s : ByteArray) (n i : Int) : List Value := [.slice (some ⟨0, 3, some 0⟩) nw c, .string cm, unk, unk, unk, .string s, .int .i64 n, .int .i64 i] ++ List.replicate 78 unk
def jJ (nw c : Nat) (cm : ByteArray) (W : Nat → Wd) (k : Nat) (S : VSt) : Prop :=
  match nth undef S.tmps 5, nth undef S.tmps 6, nth undef S.tmps 7 with
  | .string s, .int .i64 n, .int .i64 i => leT (jTm nw c cm s n i) S.tmps ∧ QSt ⟨[], S.V⟩ ⟨[], jV nw W⟩ ∧ JAt W nw k s n i
  | _, _, _ => False
def jE (nw c : Nat) (cm : ByteArray) (W : Nat → Wd) (s : ByteArray) (n : Int) : VSt := ⟨[.slice (some ⟨0, 3, some 0⟩) nw c, .string cm, unk, unk, unk, .string s, .int .i64 n] ++ List.replicate 79 unk, jV nw W⟩
def jK (nw c : Nat) (cm : ByteArray) (W : Nat → Wd) (e : Exit) (S : VSt) : Prop :=
  match e with
  | .normal => match nth undef S.tmps 5, nth undef S.tmps 6 with
    | .string s, .int .i64 n => JEnd W nw s n ∧ QSt S (jE nw c cm W s n)
    | _, _ => False
  | _ => False
def jKs (e : Exit) : List Nat := match e with | .normal => [0, 1, 5, 6, 7] | .exit _ => [0, 1, 5, 6] | _ => []
def jSel (_ : Exit) (_ : VSt) : List Sel := [.keep 0]

theorem jJ_eq {nw c : Nat} {cm : ByteArray} {W : Nat → Wd} {k : Nat} {S : VSt} (hJ : jJ nw c cm W k S) :
    ∃ (j : Nat) (s : ByteArray), leT (jTm nw c cm s j j) S.tmps ∧ S.V = jV nw W ∧ j + k = nw ∧ bytesL s = joinL (wT W) j ∧ s.size < 40000 := by
  unfold jJ at hJ
  split at hJ
  · obtain ⟨h1, ⟨h2⟩, ⟨j, rfl, rfl, h3, h4, h5⟩⟩ := hJ
    exact ⟨j, _, h1, (VSt.mk.inj h2).2, h3, h4, h5⟩
  · exact hJ.elim

theorem bytes_app (a b : ByteArray) : bytesL (a ++ b) = bytesL a ++ bytesL b := by
  show (a ++ b).data.toList = a.data.toList ++ b.data.toList
  rw [ByteArray.data_append, Array.toList_append]
theorem size_app (a b : ByteArray) : (a ++ b).size = a.size + b.size := by
  have h := congrArg List.length (bytes_app a b)
  rw [List.length_append] at h
  exact h
theorem quote_sz {l : List UInt8} {s : ByteArray} (h : QOut l s) : s.size ≤ 4 * l.length + 2 := by
  have h1 : s.size = (quoteL l).length := by rw [← h.eq]; rfl
  have h2 := qbs_len l
  rw [h1]
  simp only [quoteL, List.length_cons, List.length_append, List.length_nil]
  omega

theorem frQA (l : List UInt8) : CallOK Tryd.prog 11 (frameT (quoteA l)) := (quoteA_ok l).framed

theorem j_round (nw c : Nat) (hnw : nw ≤ 9223372036854775807) (cm : ByteArray) (W : Nat → Wd) (k : Nat) (S : VSt) (hJ : jJ nw c cm W k S) :
    Does Tryd.prog (roundOf Tryd.f6 0) S fun e S' => reshape 1 (jSel e S') (jKs e) [] [] S' (roundR 0 (jJ nw c cm W) k (jK nw c cm W) e) := by
  obtain ⟨j, s, ht, hV, hj, hs, hsz⟩ := jJ_eq hJ
  refine Does.weaken (S' := ⟨jTm nw c cm s j j, jV nw W⟩) ?_ ht hV.symm (.of rfl fun k o hk => ?_)
  · refine of_code (ctxG_ok (l := []) (cs := [(11, frameT (quoteA (wT W j)))]) (bs := []) .nil (.cons (frQA _) .nil)) (n := 200) .g ?_
    refine by_nf (B := bsplit (decide ((↑j : Int) < (↑nw : Int)))
      (bsplit (decide ((↑s.size : Int) < (20000 : Int))) (((0 : Int) ≤ (↑j : Int) ∧
      (↑j : Int) + (1 : Int) ≤ (↑nw : Int) ∧
      (0 : Nat) + nw ≤ nw) ∧
      ((0 : Nat) + (↑j : Int).toNat).succ ≤ nw ∧
      bsplit (decide ((↑(W ((0 : Nat) + (↑j : Int).toNat)).n : Int) > (4000 : Int))) (((0 : Int) ≤ (0 : Int) ∧
      (0 : Int) ≤ (4000 : Int) ∧
      (4000 : Int) ≤ (↑(W ((0 : Nat) + (↑j : Int).toNat)).n : Int) ∧
      (0 : Nat) + (W ((0 : Nat) + (↑j : Int).toNat)).n ≤ (W ((0 : Nat) + (↑j : Int).toNat)).n ∧
      ((0 : Int) = (0 : Int) ∨ (0 : Int) < (↑(W ((0 : Nat) + (↑j : Int).toNat)).n : Int))) ∧
      (↑(s.size + { data := #[(32 : UInt8)] : ByteArray }.size) : Int) ≤ IntKind.i64.max ∧
      QPre (0 : Nat) (Int.toNat (4000 : Int) - Int.toNat (0 : Int)) (W ((0 : Nat) + (↑j : Int).toNat)).n (fun j_1 => [Value.int IntKind.u8 ((W ((0 : Nat) + (↑j : Int).toNat)).h j_1)]) (wT W j) ∧
      ∀ (s_1 : ByteArray), QOut (wT W j) s_1 → (↑((s ++ { data := #[(32 : UInt8)] : ByteArray }).size + s_1.size) : Int) ≤ IntKind.i64.max ∧
      (k = (0 : Nat) → False) ∧
      (Value.slice (some { block := (0 : Nat), off := (3 : Nat), spot := some (0 : Nat) : Addr }) nw c = Value.slice (some { block := (0 : Nat), off := { block := (0 : Nat), off := (3 : Nat), spot := some (0 : Nat) : Addr }.off, spot := some (0 : Nat) : Addr }) nw c ∧
      Value.string cm = Value.string cm ∧
      Value.string (s ++ { data := #[(32 : UInt8)] : ByteArray } ++ s_1) = Value.string (s ++ { data := #[(32 : UInt8)] : ByteArray } ++ s_1) ∧
      Value.int IntKind.i64 (IntKind.i64.wrap ((↑j : Int) + (1 : Int))) = Value.int IntKind.i64 (IntKind.i64.wrap ((↑j : Int) + (1 : Int))) ∧
      Value.int IntKind.i64 (IntKind.i64.wrap ((↑j : Int) + (1 : Int))) = Value.int IntKind.i64 (IntKind.i64.wrap ((↑j : Int) + (1 : Int))) ∧
      True) ∧
      QSt { tmps := [], V := [VObj.tab (33 : TypeId) (1 : Nat) nw fun i => (W i).c] : VSt } { tmps := [], V := [VObj.tab (33 : TypeId) (1 : Nat) nw fun i => (W i).c] : VSt } ∧
      JAt W nw (k - (1 : Nat)) (s ++ { data := #[(32 : UInt8)] : ByteArray } ++ s_1) (IntKind.i64.wrap ((↑j : Int) + (1 : Int))) (IntKind.i64.wrap ((↑j : Int) + (1 : Int)))) ((↑(s.size + { data := #[(32 : UInt8)] : ByteArray }.size) : Int) ≤ IntKind.i64.max ∧
      QPre (0 : Nat) (W ((0 : Nat) + (↑j : Int).toNat)).n (W ((0 : Nat) + (↑j : Int).toNat)).n (fun j_1 => [Value.int IntKind.u8 ((W ((0 : Nat) + (↑j : Int).toNat)).h j_1)]) (wT W j) ∧
      ∀ (s_1 : ByteArray), QOut (wT W j) s_1 → (↑((s ++ { data := #[(32 : UInt8)] : ByteArray }).size + s_1.size) : Int) ≤ IntKind.i64.max ∧
      (k = (0 : Nat) → False) ∧
      (Value.slice (some { block := (0 : Nat), off := (3 : Nat), spot := some (0 : Nat) : Addr }) nw c = Value.slice (some { block := (0 : Nat), off := { block := (0 : Nat), off := (3 : Nat), spot := some (0 : Nat) : Addr }.off, spot := some (0 : Nat) : Addr }) nw c ∧
      Value.string cm = Value.string cm ∧
      Value.string (s ++ { data := #[(32 : UInt8)] : ByteArray } ++ s_1) = Value.string (s ++ { data := #[(32 : UInt8)] : ByteArray } ++ s_1) ∧
      Value.int IntKind.i64 (IntKind.i64.wrap ((↑j : Int) + (1 : Int))) = Value.int IntKind.i64 (IntKind.i64.wrap ((↑j : Int) + (1 : Int))) ∧
      Value.int IntKind.i64 (IntKind.i64.wrap ((↑j : Int) + (1 : Int))) = Value.int IntKind.i64 (IntKind.i64.wrap ((↑j : Int) + (1 : Int))) ∧
      True) ∧
      QSt { tmps := [], V := [VObj.tab (33 : TypeId) (1 : Nat) nw fun i => (W i).c] : VSt } { tmps := [], V := [VObj.tab (33 : TypeId) (1 : Nat) nw fun i => (W i).c] : VSt } ∧
      JAt W nw (k - (1 : Nat)) (s ++ { data := #[(32 : UInt8)] : ByteArray } ++ s_1) (IntKind.i64.wrap ((↑j : Int) + (1 : Int))) (IntKind.i64.wrap ((↑j : Int) + (1 : Int))))) (JEnd W nw s (↑j : Int) ∧
      QSt { tmps := [Value.slice (some { block := (0 : Nat), off := { block := (0 : Nat), off := (3 : Nat), spot := some (0 : Nat) : Addr }.off, spot := some (0 : Nat) : Addr }) nw c, Value.string cm, unk, unk, unk, Value.string s, Value.int IntKind.i64 (↑j : Int), unk, unk, unk, unk, unk, unk, unk, unk, unk, unk, unk, unk, unk, unk, unk, unk, unk, unk, unk, unk, unk, unk, unk, unk, unk, unk, unk, unk, unk, unk, unk, unk, unk, unk, unk, unk, unk, unk, unk, unk, unk, unk, unk, unk, unk, unk, unk, unk, unk, unk, unk, unk, unk, unk, unk, unk, unk, unk, unk, unk, unk, unk, unk, unk, unk, unk, unk, unk, unk, unk, unk, unk, unk, unk, unk, unk, unk, unk, unk], V := [VObj.tab (33 : TypeId) (1 : Nat) nw fun i => (W i).c] : VSt } { tmps := [Value.slice (some { block := (0 : Nat), off := (3 : Nat), spot := some (0 : Nat) : Addr }) nw c, Value.string cm, unk, unk, unk, Value.string s, Value.int IntKind.i64 (↑j : Int), unk, unk, unk, unk, unk, unk, unk, unk, unk, unk, unk, unk, unk, unk, unk, unk, unk, unk, unk, unk, unk, unk, unk, unk, unk, unk, unk, unk, unk, unk, unk, unk, unk, unk, unk, unk, unk, unk, unk, unk, unk, unk, unk, unk, unk, unk, unk, unk, unk, unk, unk, unk, unk, unk, unk, unk, unk, unk, unk, unk, unk, unk, unk, unk, unk, unk, unk, unk, unk, unk, unk, unk, unk, unk, unk, unk, unk, unk, unk], V := [VObj.tab (33 : TypeId) (1 : Nat) nw fun i => (W i).c] : VSt })) (JEnd W nw s (↑j : Int) ∧
      QSt { tmps := [Value.slice (some { block := (0 : Nat), off := { block := (0 : Nat), off := (3 : Nat), spot := some (0 : Nat) : Addr }.off, spot := some (0 : Nat) : Addr }) nw c, Value.string cm, unk, unk, unk, Value.string s, Value.int IntKind.i64 (↑j : Int), unk, unk, unk, unk, unk, unk, unk, unk, unk, unk, unk, unk, unk, unk, unk, unk, unk, unk, unk, unk, unk, unk, unk, unk, unk, unk, unk, unk, unk, unk, unk, unk, unk, unk, unk, unk, unk, unk, unk, unk, unk, unk, unk, unk, unk, unk, unk, unk, unk, unk, unk, unk, unk, unk, unk, unk, unk, unk, unk, unk, unk, unk, unk, unk, unk, unk, unk, unk, unk, unk, unk, unk, unk, unk, unk, unk, unk, unk, unk], V := [VObj.tab (33 : TypeId) (1 : Nat) nw fun i => (W i).c] : VSt } { tmps := [Value.slice (some { block := (0 : Nat), off := (3 : Nat), spot := some (0 : Nat) : Addr }) nw c, Value.string cm, unk, unk, unk, Value.string s, Value.int IntKind.i64 (↑j : Int), unk, unk, unk, unk, unk, unk, unk, unk, unk, unk, unk, unk, unk, unk, unk, unk, unk, unk, unk, unk, unk, unk, unk, unk, unk, unk, unk, unk, unk, unk, unk, unk, unk, unk, unk, unk, unk, unk, unk, unk, unk, unk, unk, unk, unk, unk, unk, unk, unk, unk, unk, unk, unk, unk, unk, unk, unk, unk, unk, unk, unk, unk, unk, unk, unk, unk, unk, unk, unk, unk, unk, unk, unk, unk, unk, unk, unk, unk, unk], V := [VObj.tab (33 : TypeId) (1 : Nat) nw fun i => (W i).c] : VSt })) (by kernel_rfl) ?_
    have ej : 0 + (j : Int).toNat = j := by simp
    have stop : JEnd W nw s j := ⟨j, rfl, by omega, hs, hsz⟩
    rw [ej]
    refine bsplit_iff.2 ⟨fun hlt => ?_, fun _ => ⟨stop, ⟨rfl⟩⟩⟩
    generalize hb2 : decide ((s.size : Int) < 20000) = b2
    refine bsplit_iff.2 ⟨fun h2 => ?_, fun _ => ⟨stop, ⟨rfl⟩⟩⟩
    rw [h2] at hb2
    clear h2
    have hlt : j < nw := by simp only [decide_eq_true_eq] at hlt; omega
    have h2 : s.size < 20000 := by simp only [decide_eq_true_eq] at hb2; omega
    have hw : IntKind.i64.wrap ((j : Int) + 1) = ((j + 1 : Nat) : Int) := by rw [w64 _ (by omega)]; rfl
    have htl := (W j).tlen
    have hmx : IntKind.i64.max = 9223372036854775807 := by decide
    have h1z : (⟨#[32]⟩ : ByteArray).size = 1 := rfl
    have fin : ∀ s1, QOut (wT W j) s1 → ((((s ++ ⟨#[32]⟩).size + s1.size : Nat) : Int) ≤ IntKind.i64.max) ∧ JAt W nw (k - 1) (s ++ ⟨#[32]⟩ ++ s1) ((j + 1 : Nat) : Int) ((j + 1 : Nat) : Int) := by
      intro s1 hq
      have hz := quote_sz hq
      have htl' : (wT W j).length ≤ 4000 := by show (W j).t.length ≤ 4000; omega
      rw [size_app, h1z, hmx]
      refine ⟨by omega, j + 1, rfl, rfl, by omega, ?_, by rw [size_app, size_app, h1z]; omega⟩
      rw [bytes_app, bytes_app, hs, hq.eq]
      simp [joinL, bytesL]
    rw [hw, h1z, hmx]
    refine ⟨⟨by omega, by omega, by omega⟩, by omega, bsplit_iff.2 ⟨fun hgt => ?_, fun hle => ?_⟩⟩
    · have hgt : 4000 < (W j).n := by simp only [decide_eq_true_eq] at hgt; omega
      refine ⟨⟨by omega, by omega, by omega, by omega, .inl rfl⟩, by omega, ⟨rfl, (W j).h, rfl, ?_, ?_, ?_, (W j).intT⟩, fun s1 hq => ?_⟩
      · show _ = (W j).t.length; omega
      · show (W j).t.length ≤ _; omega
      · show (W j).t.length ≤ _; omega
      · have h := fin s1 hq
        rw [hmx] at h
        exact ⟨h.1, by omega, ⟨rfl, rfl, rfl, rfl, rfl, trivial⟩, ⟨rfl⟩, h.2⟩
    · have hle : ¬ 4000 < (W j).n := by simp only [decide_eq_false_iff_not] at hle; omega
      refine ⟨by omega, ⟨rfl, (W j).h, rfl, ?_, ?_, ?_, (W j).intT⟩, fun s1 hq => ?_⟩
      · show _ = (W j).t.length; omega
      · show (W j).t.length ≤ _; omega
      · show (W j).t.length ≤ _; omega
      · have h := fin s1 hq
        rw [hmx] at h
        exact ⟨h.1, by omega, ⟨rfl, rfl, rfl, rfl, rfl, trivial⟩, ⟨rfl⟩, h.2⟩
  · match k, hk with
    | 0, hk => cases hk; trivial

def jB (nw c : Nat) (cm : ByteArray) (W : Nat → Wd) : BlkS := fun S K =>
  reshape S.V.length (jSel .normal S) (jKs .normal) [] [] S (jJ nw c cm W nw) ∧ S.V.length = 1 ∧ ∀ s n, JEnd W nw s n → K .normal (jE nw c cm W s n)
theorem j_loop (nw c : Nat) (hnw : nw ≤ 9223372036854775807) (cm : ByteArray) (W : Nat → Wd) (S : VSt) (K : Exit → VSt → Prop) (hB : jB nw c cm W S K) : Does Tryd.prog (.block 0 (.loop (roundOf Tryd.f6 0))) S K := by
  obtain ⟨h2, h3, h4⟩ := hB
  refine Does.mono (Does.loopR (K := jK nw c cm W) jKs jSel [] [] (jJ nw c cm W) S (reshape_mono (fun S hS => ⟨_, hS⟩) h2) fun k S' hJ => ?_) fun e S' hK => ?_
  · rw [h3]; exact j_round nw c hnw cm W k S' hJ
  · unfold jK at hK
    split at hK
    · split at hK
      · obtain ⟨h5, ⟨rfl⟩⟩ := hK
        exact h4 _ _ h5
      · exact hK.elim
    · exact hK.elim

/-! ### The second loop: each word is what came in -/
structure KAt (N : Nat) (k : Nat) (n i : Int) : Prop where
  ex : ∃ j : Nat, i = j ∧ n = N ∧ j + k = N
structure KRow (W : Nat → Wd) (N m : Nat) (f : Nat → List Value) : Prop where
  ex : ∃ h : Nat → ByteArray, f = (fun j => [.string (h j)]) ∧ m = N ∧ ∀ j, j < N → bytesL (h j) = wT W j
def kV (nw : Nat) (W : Nat → Wd) (N : Nat) (f : Nat → List Value) : VW := [.tab 33 1 nw fun i => (W i).c, .vec 9 1 N f]
def kTm (nw c N : Nat) (i : Int) : List Value := [.slice (some ⟨0, 3, some 0⟩) nw c, unk, unk, unk, unk, unk, .int .i64 (N : Nat), unk, unk, .slice (some ⟨1, 2, some 0⟩) N 0, unk, .int .i64 i] ++ List.replicate 74 unk
def kJ (nw c : Nat) (W : Nat → Wd) (N : Nat) (f : Nat → List Value) (k : Nat) (S : VSt) : Prop :=
  match nth undef S.tmps 6, nth undef S.tmps 11 with
  | .int .i64 n, .int .i64 i => leT (kTm nw c N i) S.tmps ∧ QSt ⟨[], S.V⟩ ⟨[], kV nw W N f⟩ ∧ KAt N k n i
  | _, _ => False
def kE (nw : Nat) (W : Nat → Wd) (N : Nat) (f : Nat → List Value) : VSt := ⟨List.replicate 86 unk, kV nw W N f⟩
def kK (nw : Nat) (W : Nat → Wd) (N : Nat) (f : Nat → List Value) (e : Exit) (S : VSt) : Prop := match e with | .normal => QSt S (kE nw W N f) | _ => False
def kKs (e : Exit) : List Nat := match e with | .normal => [0, 6, 9, 11] | _ => []
def kSel (_ : Exit) (_ : VSt) : List Sel := [.keep 0, .keep 1]
theorem kJ_eq {nw c : Nat} {W : Nat → Wd} {N : Nat} {f : Nat → List Value} {k : Nat} {S : VSt} (hJ : kJ nw c W N f k S) :
    ∃ (j : Nat), leT (kTm nw c N j) S.tmps ∧ S.V = kV nw W N f ∧ j + k = N := by
  unfold kJ at hJ
  split at hJ
  · obtain ⟨h1, ⟨h2⟩, ⟨j, rfl, rfl, h3⟩⟩ := hJ
    exact ⟨j, h1, (VSt.mk.inj h2).2, h3⟩
  · exact hJ.elim

theorem k_round (nw c : Nat) (hnw : nw ≤ 9223372036854775807) (W : Nat → Wd) (N : Nat) (hN : N ≤ nw) (h : Nat → ByteArray) (hh : ∀ j, j < N → bytesL (h j) = wT W j) (k : Nat) (S : VSt) (hJ : kJ nw c W N (fun j => [.string (h j)]) k S) :
    Does Tryd.prog (roundOf Tryd.f6 2) S fun e S' => reshape 2 (kSel e S') (kKs e) [] [] S' (roundR 2 (kJ nw c W N (fun j => [.string (h j)])) k (kK nw W N (fun j => [.string (h j)])) e) := by
  obtain ⟨j, ht, hV, hj⟩ := kJ_eq hJ
  refine Does.weaken (S' := ⟨kTm nw c N j, kV nw W N (fun j => [.string (h j)])⟩) ?_ ht hV.symm (.of rfl fun k o hk => ?_)
  · refine of_code (ctxG_ok (l := []) (cs := []) (bs := []) .nil .nil) (n := 200) .g ?_
    refine by_nf (B := bsplit (decide ((↑j : Int) < (↑N : Int))) (((0 : Int) ≤ (↑j : Int) ∧
      (↑j : Int) + (1 : Int) ≤ (↑nw : Int) ∧
      (0 : Nat) + nw ≤ nw) ∧
      ((0 : Nat) + (↑j : Int).toNat).succ ≤ nw ∧
      bsplit (decide ((↑(W ((0 : Nat) + (↑j : Int).toNat)).n : Int) > (4000 : Int))) (((0 : Int) ≤ (0 : Int) ∧
      (0 : Int) ≤ (4000 : Int) ∧
      (4000 : Int) ≤ (↑(W ((0 : Nat) + (↑j : Int).toNat)).n : Int) ∧
      (0 : Nat) + (W ((0 : Nat) + (↑j : Int).toNat)).n ≤ (W ((0 : Nat) + (↑j : Int).toNat)).n ∧
      ((0 : Int) = (0 : Int) ∨ (0 : Int) < (↑(W ((0 : Nat) + (↑j : Int).toNat)).n : Int))) ∧
      ((0 : Int) ≤ (↑j : Int) ∧
      (↑j : Int) + (1 : Int) ≤ (↑N : Int) ∧
      (0 : Nat) + N ≤ N) ∧
      ((0 : Nat) + (↑j : Int).toNat).succ ≤ N ∧
      ((4000 : Nat) ≤ (W ((0 : Nat) + (↑j : Int).toNat)).n ∧
      areBytes (fun j_1 => [Value.int IntKind.u8 ((W ((0 : Nat) + (↑j : Int).toNat)).h j_1)]) (0 : Nat) (Int.toNat (4000 : Int) - Int.toNat (0 : Int))) ∧
      bsplit (!(h ((0 : Nat) + (↑j : Int).toNat)).data.toList == (strOf (fun j_1 => [Value.int IntKind.u8 ((W ((0 : Nat) + (↑j : Int).toNat)).h j_1)]) (0 : Nat) (Int.toNat (4000 : Int) - Int.toNat (0 : Int))).data.toList) False ((k = (0 : Nat) → False) ∧
      (Value.slice (some { block := (0 : Nat), off := (3 : Nat), spot := some (0 : Nat) : Addr }) nw c = Value.slice (some { block := (0 : Nat), off := { block := (0 : Nat), off := (3 : Nat), spot := some (0 : Nat) : Addr }.off, spot := some (0 : Nat) : Addr }) nw c ∧
      Value.int IntKind.i64 (↑N : Int) = Value.int IntKind.i64 (↑N : Int) ∧
      Value.slice (some { block := (1 : Nat), off := (2 : Nat), spot := some (0 : Nat) : Addr }) N (0 : Nat) = Value.slice (some { block := (1 : Nat), off := { block := (1 : Nat), off := (2 : Nat), spot := some (0 : Nat) : Addr }.off, spot := some (0 : Nat) : Addr }) N (0 : Nat) ∧
      Value.int IntKind.i64 (IntKind.i64.wrap ((↑j : Int) + (1 : Int))) = Value.int IntKind.i64 (IntKind.i64.wrap ((↑j : Int) + (1 : Int))) ∧
      True) ∧
      QSt { tmps := [], V := [VObj.tab (33 : TypeId) (1 : Nat) nw fun i => (W i).c, VObj.vec (9 : TypeId) (1 : Nat) N fun j => [Value.string (h j)]] : VSt } { tmps := [], V := [VObj.tab (33 : TypeId) (1 : Nat) nw fun i => (W i).c, VObj.vec (9 : TypeId) (1 : Nat) N fun j => [Value.string (h j)]] : VSt } ∧
      KAt N (k - (1 : Nat)) (↑N : Int) (IntKind.i64.wrap ((↑j : Int) + (1 : Int))))) (((0 : Int) ≤ (↑j : Int) ∧
      (↑j : Int) + (1 : Int) ≤ (↑N : Int) ∧
      (0 : Nat) + N ≤ N) ∧
      ((0 : Nat) + (↑j : Int).toNat).succ ≤ N ∧
      ((0 : Nat) + (W ((0 : Nat) + (↑j : Int).toNat)).n ≤ (W ((0 : Nat) + (↑j : Int).toNat)).n ∧
      areBytes (fun j_1 => [Value.int IntKind.u8 ((W ((0 : Nat) + (↑j : Int).toNat)).h j_1)]) (0 : Nat) (W ((0 : Nat) + (↑j : Int).toNat)).n) ∧
      bsplit (!(h ((0 : Nat) + (↑j : Int).toNat)).data.toList == (strOf (fun j_1 => [Value.int IntKind.u8 ((W ((0 : Nat) + (↑j : Int).toNat)).h j_1)]) (0 : Nat) (W ((0 : Nat) + (↑j : Int).toNat)).n).data.toList) False ((k = (0 : Nat) → False) ∧
      (Value.slice (some { block := (0 : Nat), off := (3 : Nat), spot := some (0 : Nat) : Addr }) nw c = Value.slice (some { block := (0 : Nat), off := { block := (0 : Nat), off := (3 : Nat), spot := some (0 : Nat) : Addr }.off, spot := some (0 : Nat) : Addr }) nw c ∧
      Value.int IntKind.i64 (↑N : Int) = Value.int IntKind.i64 (↑N : Int) ∧
      Value.slice (some { block := (1 : Nat), off := (2 : Nat), spot := some (0 : Nat) : Addr }) N (0 : Nat) = Value.slice (some { block := (1 : Nat), off := { block := (1 : Nat), off := (2 : Nat), spot := some (0 : Nat) : Addr }.off, spot := some (0 : Nat) : Addr }) N (0 : Nat) ∧
      Value.int IntKind.i64 (IntKind.i64.wrap ((↑j : Int) + (1 : Int))) = Value.int IntKind.i64 (IntKind.i64.wrap ((↑j : Int) + (1 : Int))) ∧
      True) ∧
      QSt { tmps := [], V := [VObj.tab (33 : TypeId) (1 : Nat) nw fun i => (W i).c, VObj.vec (9 : TypeId) (1 : Nat) N fun j => [Value.string (h j)]] : VSt } { tmps := [], V := [VObj.tab (33 : TypeId) (1 : Nat) nw fun i => (W i).c, VObj.vec (9 : TypeId) (1 : Nat) N fun j => [Value.string (h j)]] : VSt } ∧
      KAt N (k - (1 : Nat)) (↑N : Int) (IntKind.i64.wrap ((↑j : Int) + (1 : Int)))))) (QSt { tmps := [unk, unk, unk, unk, unk, unk, unk, unk, unk, unk, unk, unk, unk, unk, unk, unk, unk, unk, unk, unk, unk, unk, unk, unk, unk, unk, unk, unk, unk, unk, unk, unk, unk, unk, unk, unk, unk, unk, unk, unk, unk, unk, unk, unk, unk, unk, unk, unk, unk, unk, unk, unk, unk, unk, unk, unk, unk, unk, unk, unk, unk, unk, unk, unk, unk, unk, unk, unk, unk, unk, unk, unk, unk, unk, unk, unk, unk, unk, unk, unk, unk, unk, unk, unk, unk, unk], V := [VObj.tab (33 : TypeId) (1 : Nat) nw fun i => (W i).c, VObj.vec (9 : TypeId) (1 : Nat) N fun j => [Value.string (h j)]] : VSt } { tmps := [unk, unk, unk, unk, unk, unk, unk, unk, unk, unk, unk, unk, unk, unk, unk, unk, unk, unk, unk, unk, unk, unk, unk, unk, unk, unk, unk, unk, unk, unk, unk, unk, unk, unk, unk, unk, unk, unk, unk, unk, unk, unk, unk, unk, unk, unk, unk, unk, unk, unk, unk, unk, unk, unk, unk, unk, unk, unk, unk, unk, unk, unk, unk, unk, unk, unk, unk, unk, unk, unk, unk, unk, unk, unk, unk, unk, unk, unk, unk, unk, unk, unk, unk, unk, unk, unk], V := [VObj.tab (33 : TypeId) (1 : Nat) nw fun i => (W i).c, VObj.vec (9 : TypeId) (1 : Nat) N fun j => [Value.string (h j)]] : VSt })) (by kernel_rfl) ?_
    have ej : 0 + (j : Int).toNat = j := by simp
    rw [ej]
    refine bsplit_iff.2 ⟨fun hlt => ?_, fun _ => ⟨rfl⟩⟩
    have hlt : j < N := by simp only [decide_eq_true_eq] at hlt; omega
    have hw : IntKind.i64.wrap ((j : Int) + 1) = ((j + 1 : Nat) : Int) := by rw [w64 _ (by omega)]; rfl
    have htl := (W j).tlen
    rw [hw]
    have hrow := (W j).intT.rowB
    have hst := hrow.str
    have hby := hrow.bytes
    have heq : h j = ⟨(W j).t.toArray⟩ := by
      have h1 := hh j hlt
      generalize h j = x at h1
      obtain ⟨⟨x⟩⟩ := x
      have h2 : x = (W j).t := h1
      rw [h2]
    refine ⟨⟨by omega, by omega, by omega⟩, by omega, bsplit_iff.2 ⟨fun hgt => ?_, fun hle => ?_⟩⟩
    · have hgt : 4000 < (W j).n := by simp only [decide_eq_true_eq] at hgt; omega
      have hk : Int.toNat (4000 : Int) - Int.toNat (0 : Int) = (W j).t.length := by show 4000 - 0 = _; omega
      rw [hk, hst, heq]
      refine ⟨⟨by omega, by omega, by omega, by omega, .inl rfl⟩, ⟨by omega, by omega, by omega⟩, by omega, ⟨by omega, hby⟩, bsplit_iff.2 ⟨fun hne => (by simp at hne), fun _ => ⟨by omega, ⟨rfl, rfl, rfl, rfl, trivial⟩, ⟨rfl⟩, ⟨j + 1, rfl, rfl, by omega⟩⟩⟩⟩
    · have hle : ¬ 4000 < (W j).n := by simp only [decide_eq_false_iff_not] at hle; omega
      have hk : (W j).n = (W j).t.length := by omega
      have hst2 : strOf (fun j_1 => [Value.int IntKind.u8 ((W j).h j_1)]) 0 (W j).n = ⟨(W j).t.toArray⟩ := by rw [hk]; exact hst
      rw [hst2, heq]
      refine ⟨⟨by omega, by omega, by omega⟩, by omega, ⟨by omega, by rw [hk]; exact hby⟩, bsplit_iff.2 ⟨fun hne => (by simp at hne), fun _ => ⟨by omega, ⟨rfl, rfl, rfl, rfl, trivial⟩, ⟨rfl⟩, ⟨j + 1, rfl, rfl, by omega⟩⟩⟩⟩
  · match k, hk with
    | 0, hk => cases hk; trivial
    | 1, hk => cases hk; intro r _ v hv; simp at hv; subst hv; exact ⟨.plain rfl, rfl⟩

def kB (nw : Nat) (W : Nat → Wd) : BlkS := fun S K =>
  match nth undef S.tmps 0, (S.V[1]? : Option VObj) with
  | .slice (some ⟨0, 3, some 0⟩) nw' c, some (.vec 9 1 N f) => N ≤ nw ∧ KRow W N N f ∧ reshape S.V.length (kSel .normal S) (kKs .normal) [] [] S (kJ nw c W N f N) ∧ S.V.length = 2 ∧ K .normal (kE nw W N f)
  | _, _ => False
theorem k_loop (nw : Nat) (hnw : nw ≤ 9223372036854775807) (W : Nat → Wd) (S : VSt) (K : Exit → VSt → Prop) (hB : kB nw W S K) : Does Tryd.prog (.block 2 (.loop (roundOf Tryd.f6 2))) S K := by
  unfold kB at hB
  split at hB
  · rename_i nw' c N f _ _
    obtain ⟨hN, ⟨h, rfl, _, hh⟩, h2, h3, h4⟩ := hB
    refine Does.mono (Does.loopR (K := kK nw W N (fun j => [.string (h j)])) kKs kSel [] [] (kJ nw c W N (fun j => [.string (h j)])) S (reshape_mono (fun S hS => ⟨_, hS⟩) h2) fun k S' hJ => ?_) fun e S' hK => ?_
    · rw [h3]; exact k_round nw c hnw W N hN h hh k S' hJ
    · unfold kK at hK
      split at hK
      · obtain ⟨rfl⟩ := hK
        exact h4
      · exact hK.elim
  · exact hB.elim
end Go.Sh
