/- ShellQuotes: the law's function, walked. -/
import Derived.Test.YtlnmampbiapglaaDoorShQ5
set_option linter.unusedSimpArgs false
set_option linter.unusedSectionVars false
set_option linter.unusedVariables false
set_option maxRecDepth 10000
namespace Go.Sh
open Go Go.X Go.Proofs
variable [WI]

/-- the room: the bytes, what is behind them up to j, and how it is told -/
structure FlAt (l : List UInt8) (N k : Nat) (i : Int) (m : Nat) (f : Nat → List Value) : Prop where
  ex : ∃ (j : Nat) (h : Nat → Int), i = j ∧ j + k = N ∧ l.length ≤ j ∧ m = N ∧ f = (fun j => [.int .u8 (h j)]) ∧ IntB h l ∧ ∀ r, l.length ≤ r → r < j → h r = 7
structure FlEnd (l : List UInt8) (N m : Nat) (f : Nat → List Value) : Prop where
  ex : ∃ (h : Nat → Int), m = N ∧ f = (fun j => [.int .u8 (h j)]) ∧ IntB h l ∧ ∀ r, l.length ≤ r → r < N → h r = 7
structure CkAt (L N k : Nat) (i : Int) : Prop where
  ex : ∃ j : Nat, i = j ∧ j + k = N ∧ L ≤ j

theorem IntB.store {h : Nat → Int} {l : List UInt8} (hb : IntB h l) {j : Nat} (hj : l.length ≤ j) (v : Int) : IntB (fun r => if r = j then v else h r) l := by
  refine ⟨fun r b hr => ?_⟩
  have : r < l.length := (List.getElem?_eq_some_iff.1 hr).1
  rw [if_neg (by omega)]
  exact hb.at_ r b hr
theorem row_store (h : Nat → Int) (j : Nat) (v : Int) : (fun r => if r = j then [Value.int .u8 v] else [Value.int .u8 (h r)]) = fun r => [Value.int .u8 (if r = j then v else h r)] := by
  funext r; split <;> rfl
theorem scI (h : Nat → Int) (n : Nat) : ∀ r, r < n → ∀ v ∈ (fun j => [Value.int .u8 (h j)]) r, Sc 0 v ∧ cellC v = true := by
  intro r _ v hv; simp at hv; subst hv; exact ⟨.plain rfl, rfl⟩

def lqVS (r n cap : Nat) (n0 c0 : Nat) (f0 : Nat → List Value) (N : Nat) (f : Nat → List Value) : VW := [.rows false 5 1 n0 c0 f0, .rows true 5 1 N N f]
def flTmS (r n cap : Nat) (n0 c0 : Nat) (f0 : Nat → List Value) (N : Nat) (i : Int) : List Value := [.slice (some ⟨0, 0, some r⟩) n cap, unk, unk, .slice (some ⟨1, 0, some 0⟩) N N, .int .i64 i] ++ List.replicate 78 unk
def flJS (r n cap : Nat) (n0 c0 : Nat) (f0 : Nat → List Value) (l : List UInt8) (N : Nat) (k : Nat) (S : VSt) : Prop :=
  match nth undef S.tmps 4, (S.V[1]? : Option VObj) with
  | .int .i64 i, some (.rows true 5 1 m m' f) => leT (flTmS r n cap n0 c0 f0 N i) S.tmps ∧ QSt ⟨[], S.V⟩ ⟨[], lqVS r n cap n0 c0 f0 N f⟩ ∧ FlAt l N k i m f
  | _, _ => False
def flES (r n cap : Nat) (n0 c0 : Nat) (f0 : Nat → List Value) (N : Nat) (f : Nat → List Value) : VSt := ⟨[.slice (some ⟨0, 0, some r⟩) n cap, unk, unk, .slice (some ⟨1, 0, some 0⟩) N N] ++ List.replicate 79 unk, lqVS r n cap n0 c0 f0 N f⟩
def flKS (r n cap : Nat) (n0 c0 : Nat) (f0 : Nat → List Value) (l : List UInt8) (N : Nat) (e : Exit) (S : VSt) : Prop :=
  match e with
  | .normal => match (S.V[1]? : Option VObj) with
    | some (.rows true 5 1 m m' f) => FlEnd l N m f ∧ QSt S (flES r n cap n0 c0 f0 N f)
    | _ => False
  | _ => False
def flKsS (e : Exit) : List Nat := match e with | .normal => [0, 3, 4] | .exit _ => [0, 3] | _ => []
def flSelS (_ : Exit) (_ : VSt) : List Sel := [.keep 0, .keep 1]

theorem flJ_eqS {r n cap : Nat} {n0 c0 : Nat} {f0 : Nat → List Value} {l : List UInt8} {N k : Nat} {S : VSt} (hJ : flJS r n cap n0 c0 f0 l N k S) :
    ∃ (j : Nat) (h : Nat → Int), leT (flTmS r n cap n0 c0 f0 N j) S.tmps ∧ S.V = lqVS r n cap n0 c0 f0 N (fun j => [.int .u8 (h j)]) ∧ j + k = N ∧ l.length ≤ j ∧ IntB h l ∧ ∀ r, l.length ≤ r → r < j → h r = 7 := by
  unfold flJS at hJ
  split at hJ
  · obtain ⟨h1, ⟨h2⟩, ⟨j, h, rfl, h3, h4, rfl, rfl, h5, h6⟩⟩ := hJ
    exact ⟨j, h, h1, (VSt.mk.inj h2).2, h3, h4, h5, h6⟩
  · exact hJ.elim

theorem fl_roundS (r n cap : Nat) (n0 c0 : Nat) (f0 : Nat → List Value) (hf0 : ∀ r, r < n0 → ∀ v ∈ f0 r, Sc 0 v ∧ cellC v = true) (l : List UInt8) (N : Nat) (hN : N ≤ 16777216) (k : Nat) (S : VSt) (hJ : flJS r n cap n0 c0 f0 l N k S) :
    Does Tryd.prog (roundOf Tryd.f5 0) S fun e S' => reshape 2 (flSelS e S') (flKsS e) [] [] S' (roundR 0 (flJS r n cap n0 c0 f0 l N) k (flKS r n cap n0 c0 f0 l N) e) := by
  obtain ⟨j, h, ht, hV, hj, hlj, hb, h7⟩ := flJ_eqS hJ
  refine Does.weaken (S' := ⟨flTmS r n cap n0 c0 f0 N j, lqVS r n cap n0 c0 f0 N (fun j => [.int .u8 (h j)])⟩) ?_ ht hV.symm (.of rfl fun k o hk => ?_)
  · refine of_code (ctxG_ok (l := []) (cs := []) (bs := []) .nil .nil) (n := 200) .g ?_
    refine by_nf (B := bsplit (decide ((↑j : Int) < (↑N : Int))) (((0 : Int) ≤ (↑j : Int) ∧
      (↑j : Int) + (1 : Int) ≤ (↑N : Int)) ∧
      ((0 : Nat) + (↑j : Int).toNat).succ ≤ N ∧
      (k = (0 : Nat) → False) ∧
      (Value.slice (some { block := (0 : Nat), off := (0 : Nat), spot := some r : Addr }) n cap = Value.slice (some { block := (0 : Nat), off := { block := (0 : Nat), off := (0 : Nat), spot := some r : Addr }.off, spot := some r : Addr }) n cap ∧
      Value.slice (some { block := (1 : Nat), off := (0 : Nat), spot := some (0 : Nat) : Addr }) N N = Value.slice (some { block := (1 : Nat), off := { block := (1 : Nat), off := (0 : Nat), spot := some (0 : Nat) : Addr }.off, spot := some (0 : Nat) : Addr }) N N ∧
      Value.int IntKind.i64 (IntKind.i64.wrap ((↑j : Int) + (1 : Int))) = Value.int IntKind.i64 (IntKind.i64.wrap ((↑j : Int) + (1 : Int))) ∧
      True) ∧
      QSt { tmps := [], V := [VObj.rows false (5 : TypeId) (1 : Nat) n0 c0 f0, VObj.rows true (5 : TypeId) (1 : Nat) N N fun j_1 => if j_1 = (0 : Nat) + (↑j : Int).toNat then [Value.int IntKind.u8 (7 : Int)] else [Value.int IntKind.u8 (h j_1)]] : VSt } { tmps := [], V := [VObj.rows false (5 : TypeId) (1 : Nat) n0 c0 f0, VObj.rows true (5 : TypeId) (1 : Nat) N N fun j_1 => if j_1 = (0 : Nat) + (↑j : Int).toNat then [Value.int IntKind.u8 (7 : Int)] else [Value.int IntKind.u8 (h j_1)]] : VSt } ∧
      FlAt l N (k - (1 : Nat)) (IntKind.i64.wrap ((↑j : Int) + (1 : Int))) N fun j_1 => if j_1 = (0 : Nat) + (↑j : Int).toNat then [Value.int IntKind.u8 (7 : Int)] else [Value.int IntKind.u8 (h j_1)]) ((FlEnd l N N fun j => [Value.int IntKind.u8 (h j)]) ∧
      QSt { tmps := [Value.slice (some { block := (0 : Nat), off := { block := (0 : Nat), off := (0 : Nat), spot := some r : Addr }.off, spot := some r : Addr }) n cap, unk, unk, Value.slice (some { block := (1 : Nat), off := { block := (1 : Nat), off := (0 : Nat), spot := some (0 : Nat) : Addr }.off, spot := some (0 : Nat) : Addr }) N N, unk, unk, unk, unk, unk, unk, unk, unk, unk, unk, unk, unk, unk, unk, unk, unk, unk, unk, unk, unk, unk, unk, unk, unk, unk, unk, unk, unk, unk, unk, unk, unk, unk, unk, unk, unk, unk, unk, unk, unk, unk, unk, unk, unk, unk, unk, unk, unk, unk, unk, unk, unk, unk, unk, unk, unk, unk, unk, unk, unk, unk, unk, unk, unk, unk, unk, unk, unk, unk, unk, unk, unk, unk, unk, unk, unk, unk, unk, unk], V := [VObj.rows false (5 : TypeId) (1 : Nat) n0 c0 f0, VObj.rows true (5 : TypeId) (1 : Nat) N N fun j => [Value.int IntKind.u8 (h j)]] : VSt } { tmps := [Value.slice (some { block := (0 : Nat), off := (0 : Nat), spot := some r : Addr }) n cap, unk, unk, Value.slice (some { block := (1 : Nat), off := (0 : Nat), spot := some (0 : Nat) : Addr }) N N, unk, unk, unk, unk, unk, unk, unk, unk, unk, unk, unk, unk, unk, unk, unk, unk, unk, unk, unk, unk, unk, unk, unk, unk, unk, unk, unk, unk, unk, unk, unk, unk, unk, unk, unk, unk, unk, unk, unk, unk, unk, unk, unk, unk, unk, unk, unk, unk, unk, unk, unk, unk, unk, unk, unk, unk, unk, unk, unk, unk, unk, unk, unk, unk, unk, unk, unk, unk, unk, unk, unk, unk, unk, unk, unk, unk, unk, unk, unk], V := [VObj.rows false (5 : TypeId) (1 : Nat) n0 c0 f0, VObj.rows true (5 : TypeId) (1 : Nat) N N fun j => [Value.int IntKind.u8 (h j)]] : VSt })) (by kernel_rfl) ?_
    refine bsplit_iff.2 ⟨fun hlt => ?_, fun hge => ?_⟩
    · have hlt : j < N := by simp only [decide_eq_true_eq] at hlt; omega
      have hw : IntKind.i64.wrap ((j : Int) + 1) = ((j + 1 : Nat) : Int) := by rw [w64 _ (by omega)]; rfl
      have ej : 0 + (j : Int).toNat = j := by simp
      rw [ej, row_store h j 7, hw]
      refine ⟨⟨by omega, by omega⟩, by omega, by omega, ⟨rfl, rfl, rfl, trivial⟩, ⟨rfl⟩, ⟨j + 1, _, rfl, by omega, by omega, rfl, rfl, hb.store hlj 7, fun r h1 h2 => ?_⟩⟩
      split
      · rfl
      · exact h7 r h1 (by omega)
    · have hge : ¬ j < N := by simp only [decide_eq_false_iff_not] at hge; omega
      exact ⟨⟨h, rfl, rfl, hb, fun r h1 h2 => h7 r h1 (by omega)⟩, ⟨rfl⟩⟩
  · match k, hk with
    | 0, hk => cases hk; exact hf0
    | 1, hk => cases hk; exact scI h N

def flBS (r n cap : Nat) (n0 c0 : Nat) (f0 : Nat → List Value) (l : List UInt8) (N : Nat) : BlkS := fun S K =>
  reshape S.V.length (flSelS .normal S) (flKsS .normal) [] [] S (flJS r n cap n0 c0 f0 l N (N - l.length)) ∧ S.V.length = 2 ∧ ∀ f, FlEnd l N N f → K .normal (flES r n cap n0 c0 f0 N f)

theorem fl_loopS (r n cap : Nat) (n0 c0 : Nat) (f0 : Nat → List Value) (hf0 : ∀ r, r < n0 → ∀ v ∈ f0 r, Sc 0 v ∧ cellC v = true) (l : List UInt8) (N : Nat) (hN : N ≤ 16777216) (S : VSt) (K : Exit → VSt → Prop) (hB : flBS r n cap n0 c0 f0 l N S K) :
    Does Tryd.prog (.block 0 (.loop (roundOf Tryd.f5 0))) S K := by
  obtain ⟨h2, h3, h4⟩ := hB
  refine Does.mono (Does.loopR (K := flKS r n cap n0 c0 f0 l N) flKsS flSelS [] [] (flJS r n cap n0 c0 f0 l N) S (reshape_mono (fun S hS => ⟨_, hS⟩) h2) fun k S' hJ => ?_) fun e S' hK => ?_
  · rw [h3]; exact fl_roundS r n cap n0 c0 f0 hf0 l N hN k S' hJ
  · unfold flKS at hK
    split at hK
    · split at hK
      · obtain ⟨⟨h, rfl, rfl, h5, h6⟩, ⟨rfl⟩⟩ := hK
        exact h4 _ ⟨h, rfl, rfl, h5, h6⟩
      · exact hK.elim
    · exact hK.elim

/-! the second loop -/
def ckTmS (r n cap : Nat) (n0 c0 : Nat) (f0 : Nat → List Value) (N : Nat) (s : ByteArray) (i : Int) : List Value := [.slice (some ⟨0, 0, some r⟩) n cap, unk, unk, .slice (some ⟨1, 0, some 0⟩) N N, unk, unk, .string s, .int .i64 i] ++ List.replicate 75 unk
def ckJS (r n cap : Nat) (n0 c0 : Nat) (f0 : Nat → List Value) (L N : Nat) (f : Nat → List Value) (s : ByteArray) (k : Nat) (S : VSt) : Prop :=
  match nth undef S.tmps 7 with
  | .int .i64 i => leT (ckTmS r n cap n0 c0 f0 N s i) S.tmps ∧ QSt ⟨[], S.V⟩ ⟨[], lqVS r n cap n0 c0 f0 N f⟩ ∧ CkAt L N k i
  | _ => False
def ckES (r n cap : Nat) (n0 c0 : Nat) (f0 : Nat → List Value) (N : Nat) (f : Nat → List Value) (s : ByteArray) : VSt := ⟨[.slice (some ⟨0, 0, some r⟩) n cap, unk, unk, unk, unk, unk, .string s] ++ List.replicate 76 unk, lqVS r n cap n0 c0 f0 N f⟩
def ckKS (r n cap : Nat) (n0 c0 : Nat) (f0 : Nat → List Value) (N : Nat) (f : Nat → List Value) (s : ByteArray) (e : Exit) (S : VSt) : Prop :=
  match e with
  | .normal => QSt S (ckES r n cap n0 c0 f0 N f s)
  | _ => False
def ckKsS (e : Exit) : List Nat := match e with | .normal => [0, 3, 6, 7] | .exit _ => [0, 6] | _ => []
theorem ckJ_eqS {r n cap : Nat} {n0 c0 : Nat} {f0 : Nat → List Value} {L N : Nat} {f : Nat → List Value} {s : ByteArray} {k : Nat} {S : VSt} (hJ : ckJS r n cap n0 c0 f0 L N f s k S) :
    ∃ (j : Nat), leT (ckTmS r n cap n0 c0 f0 N s j) S.tmps ∧ S.V = lqVS r n cap n0 c0 f0 N f ∧ j + k = N ∧ L ≤ j := by
  unfold ckJS at hJ
  split at hJ
  · obtain ⟨h1, ⟨h2⟩, ⟨j, rfl, h3, h4⟩⟩ := hJ
    exact ⟨j, h1, (VSt.mk.inj h2).2, h3, h4⟩
  · exact hJ.elim

theorem ck_roundS (r n cap : Nat) (n0 c0 : Nat) (f0 : Nat → List Value) (hf0 : ∀ r, r < n0 → ∀ v ∈ f0 r, Sc 0 v ∧ cellC v = true) (L N : Nat) (hN : N ≤ 16777216) (h : Nat → Int) (h7 : ∀ r, L ≤ r → r < N → h r = 7) (s : ByteArray) (k : Nat) (S : VSt)
    (hJ : ckJS r n cap n0 c0 f0 L N (fun j => [.int .u8 (h j)]) s k S) :
    Does Tryd.prog (roundOf Tryd.f5 2) S fun e S' => reshape 2 (flSelS e S') (ckKsS e) [] [] S' (roundR 2 (ckJS r n cap n0 c0 f0 L N (fun j => [.int .u8 (h j)]) s) k (ckKS r n cap n0 c0 f0 N (fun j => [.int .u8 (h j)]) s) e) := by
  obtain ⟨j, ht, hV, hj, hlj⟩ := ckJ_eqS hJ
  refine Does.weaken (S' := ⟨ckTmS r n cap n0 c0 f0 N s j, lqVS r n cap n0 c0 f0 N (fun j => [.int .u8 (h j)])⟩) ?_ ht hV.symm (.of rfl fun k o hk => ?_)
  · refine of_code (ctxG_ok (l := []) (cs := []) (bs := []) .nil .nil) (n := 200) .g ?_
    refine by_nf (B := bsplit (decide ((↑j : Int) < (↑N : Int))) (((0 : Int) ≤ (↑j : Int) ∧
      (↑j : Int) + (1 : Int) ≤ (↑N : Int)) ∧
      ((0 : Nat) + (↑j : Int).toNat).succ ≤ N ∧
      bsplit (h ((0 : Nat) + (↑j : Int).toNat) != (7 : Int)) False ((k = (0 : Nat) → False) ∧
      (Value.slice (some { block := (0 : Nat), off := (0 : Nat), spot := some r : Addr }) n cap = Value.slice (some { block := (0 : Nat), off := { block := (0 : Nat), off := (0 : Nat), spot := some r : Addr }.off, spot := some r : Addr }) n cap ∧
      Value.slice (some { block := (1 : Nat), off := (0 : Nat), spot := some (0 : Nat) : Addr }) N N = Value.slice (some { block := (1 : Nat), off := { block := (1 : Nat), off := (0 : Nat), spot := some (0 : Nat) : Addr }.off, spot := some (0 : Nat) : Addr }) N N ∧
      Value.string s = Value.string s ∧
      Value.int IntKind.i64 (IntKind.i64.wrap ((↑j : Int) + (1 : Int))) = Value.int IntKind.i64 (IntKind.i64.wrap ((↑j : Int) + (1 : Int))) ∧
      True) ∧
      QSt { tmps := [], V := [VObj.rows false (5 : TypeId) (1 : Nat) n0 c0 f0, VObj.rows true (5 : TypeId) (1 : Nat) N N fun j => [Value.int IntKind.u8 (h j)]] : VSt } { tmps := [], V := [VObj.rows false (5 : TypeId) (1 : Nat) n0 c0 f0, VObj.rows true (5 : TypeId) (1 : Nat) N N fun j => [Value.int IntKind.u8 (h j)]] : VSt } ∧
      CkAt L N (k - (1 : Nat)) (IntKind.i64.wrap ((↑j : Int) + (1 : Int))))) (QSt { tmps := [Value.slice (some { block := (0 : Nat), off := { block := (0 : Nat), off := (0 : Nat), spot := some r : Addr }.off, spot := some r : Addr }) n cap, unk, unk, unk, unk, unk, Value.string s, unk, unk, unk, unk, unk, unk, unk, unk, unk, unk, unk, unk, unk, unk, unk, unk, unk, unk, unk, unk, unk, unk, unk, unk, unk, unk, unk, unk, unk, unk, unk, unk, unk, unk, unk, unk, unk, unk, unk, unk, unk, unk, unk, unk, unk, unk, unk, unk, unk, unk, unk, unk, unk, unk, unk, unk, unk, unk, unk, unk, unk, unk, unk, unk, unk, unk, unk, unk, unk, unk, unk, unk, unk, unk, unk, unk], V := [VObj.rows false (5 : TypeId) (1 : Nat) n0 c0 f0, VObj.rows true (5 : TypeId) (1 : Nat) N N fun j => [Value.int IntKind.u8 (h j)]] : VSt } { tmps := [Value.slice (some { block := (0 : Nat), off := (0 : Nat), spot := some r : Addr }) n cap, unk, unk, unk, unk, unk, Value.string s, unk, unk, unk, unk, unk, unk, unk, unk, unk, unk, unk, unk, unk, unk, unk, unk, unk, unk, unk, unk, unk, unk, unk, unk, unk, unk, unk, unk, unk, unk, unk, unk, unk, unk, unk, unk, unk, unk, unk, unk, unk, unk, unk, unk, unk, unk, unk, unk, unk, unk, unk, unk, unk, unk, unk, unk, unk, unk, unk, unk, unk, unk, unk, unk, unk, unk, unk, unk, unk, unk, unk, unk, unk, unk, unk, unk], V := [VObj.rows false (5 : TypeId) (1 : Nat) n0 c0 f0, VObj.rows true (5 : TypeId) (1 : Nat) N N fun j => [Value.int IntKind.u8 (h j)]] : VSt })) (by kernel_rfl) ?_
    refine bsplit_iff.2 ⟨fun hlt => ?_, fun hge => ⟨rfl⟩⟩
    have hlt : j < N := by simp only [decide_eq_true_eq] at hlt; omega
    have hw : IntKind.i64.wrap ((j : Int) + 1) = ((j + 1 : Nat) : Int) := by rw [w64 _ (by omega)]; rfl
    have ej : 0 + (j : Int).toNat = j := by simp
    rw [ej, hw, h7 j hlj hlt]
    exact ⟨⟨by omega, by omega⟩, by omega, bsplit_iff.2 ⟨fun hne => (by simp at hne), fun _ => ⟨by omega, ⟨rfl, rfl, rfl, rfl, trivial⟩, ⟨rfl⟩, ⟨j + 1, rfl, by omega, by omega⟩⟩⟩⟩
  · match k, hk with
    | 0, hk => cases hk; exact hf0
    | 1, hk => cases hk; exact scI h N

structure Ck7 (L N : Nat) (f : Nat → List Value) : Prop where
  ex : ∃ h : Nat → Int, f = (fun j => [.int .u8 (h j)]) ∧ ∀ r, L ≤ r → r < N → h r = 7
def ckBS (r n cap : Nat) (n0 c0 : Nat) (f0 : Nat → List Value) (L N : Nat) : BlkS := fun S K =>
  match nth undef S.tmps 6, (S.V[1]? : Option VObj) with
  | .string s, some (.rows true 5 1 m m' f) => Ck7 L N f ∧ L ≤ N ∧ reshape S.V.length (flSelS .normal S) (ckKsS .normal) [] [] S (ckJS r n cap n0 c0 f0 L N f s (N - L)) ∧ S.V.length = 2 ∧ K .normal (ckES r n cap n0 c0 f0 N f s)
  | _, _ => False

theorem ck_loopS (r n cap : Nat) (n0 c0 : Nat) (f0 : Nat → List Value) (hf0 : ∀ r, r < n0 → ∀ v ∈ f0 r, Sc 0 v ∧ cellC v = true) (L N : Nat) (hN : N ≤ 16777216) (S : VSt) (K : Exit → VSt → Prop) (hB : ckBS r n cap n0 c0 f0 L N S K) :
    Does Tryd.prog (.block 2 (.loop (roundOf Tryd.f5 2))) S K := by
  unfold ckBS at hB
  split at hB
  · rename_i s m m' f _ _
    obtain ⟨⟨h, rfl, h7⟩, hLN, h2, h3, h4⟩ := hB
    refine Does.mono (Does.loopR (K := ckKS r n cap n0 c0 f0 N (fun j => [.int .u8 (h j)]) s) ckKsS flSelS [] [] (ckJS r n cap n0 c0 f0 L N (fun j => [.int .u8 (h j)]) s) S (reshape_mono (fun S hS => ⟨_, hS⟩) h2) fun k S' hJ => ?_) fun e S' hK => ?_
    · rw [h3]; exact ck_roundS r n cap n0 c0 f0 hf0 L N hN h h7 s k S' hJ
    · unfold ckKS at hK
      split at hK
      · obtain ⟨rfl⟩ := hK
        exact h4
      · exact hK.elim
  · exact hB.elim

def lqVN (n0 c0 : Nat) (f0 : Nat → List Value) (N : Nat) (f : Nat → List Value) : VW := [.rows false 5 1 n0 c0 f0, .rows true 5 1 N N f]
def flTmN (n0 c0 : Nat) (f0 : Nat → List Value) (N : Nat) (i : Int) : List Value := [.slice none 0 0, unk, unk, .slice (some ⟨1, 0, some 0⟩) N N, .int .i64 i] ++ List.replicate 78 unk
def flJN (n0 c0 : Nat) (f0 : Nat → List Value) (l : List UInt8) (N : Nat) (k : Nat) (S : VSt) : Prop :=
  match nth undef S.tmps 4, (S.V[1]? : Option VObj) with
  | .int .i64 i, some (.rows true 5 1 m m' f) => leT (flTmN n0 c0 f0 N i) S.tmps ∧ QSt ⟨[], S.V⟩ ⟨[], lqVN n0 c0 f0 N f⟩ ∧ FlAt l N k i m f
  | _, _ => False
def flEN (n0 c0 : Nat) (f0 : Nat → List Value) (N : Nat) (f : Nat → List Value) : VSt := ⟨[.slice none 0 0, unk, unk, .slice (some ⟨1, 0, some 0⟩) N N] ++ List.replicate 79 unk, lqVN n0 c0 f0 N f⟩
def flKN (n0 c0 : Nat) (f0 : Nat → List Value) (l : List UInt8) (N : Nat) (e : Exit) (S : VSt) : Prop :=
  match e with
  | .normal => match (S.V[1]? : Option VObj) with
    | some (.rows true 5 1 m m' f) => FlEnd l N m f ∧ QSt S (flEN n0 c0 f0 N f)
    | _ => False
  | _ => False
def flKsN (e : Exit) : List Nat := match e with | .normal => [0, 3, 4] | .exit _ => [0, 3] | _ => []
def flSelN (_ : Exit) (_ : VSt) : List Sel := [.keep 0, .keep 1]

theorem flJ_eqN {n0 c0 : Nat} {f0 : Nat → List Value} {l : List UInt8} {N k : Nat} {S : VSt} (hJ : flJN n0 c0 f0 l N k S) :
    ∃ (j : Nat) (h : Nat → Int), leT (flTmN n0 c0 f0 N j) S.tmps ∧ S.V = lqVN n0 c0 f0 N (fun j => [.int .u8 (h j)]) ∧ j + k = N ∧ l.length ≤ j ∧ IntB h l ∧ ∀ r, l.length ≤ r → r < j → h r = 7 := by
  unfold flJN at hJ
  split at hJ
  · obtain ⟨h1, ⟨h2⟩, ⟨j, h, rfl, h3, h4, rfl, rfl, h5, h6⟩⟩ := hJ
    exact ⟨j, h, h1, (VSt.mk.inj h2).2, h3, h4, h5, h6⟩
  · exact hJ.elim

theorem fl_roundN (n0 c0 : Nat) (f0 : Nat → List Value) (hf0 : ∀ r, r < n0 → ∀ v ∈ f0 r, Sc 0 v ∧ cellC v = true) (l : List UInt8) (N : Nat) (hN : N ≤ 16777216) (k : Nat) (S : VSt) (hJ : flJN n0 c0 f0 l N k S) :
    Does Tryd.prog (roundOf Tryd.f5 0) S fun e S' => reshape 2 (flSelN e S') (flKsN e) [] [] S' (roundR 0 (flJN n0 c0 f0 l N) k (flKN n0 c0 f0 l N) e) := by
  obtain ⟨j, h, ht, hV, hj, hlj, hb, h7⟩ := flJ_eqN hJ
  refine Does.weaken (S' := ⟨flTmN n0 c0 f0 N j, lqVN n0 c0 f0 N (fun j => [.int .u8 (h j)])⟩) ?_ ht hV.symm (.of rfl fun k o hk => ?_)
  · refine of_code (ctxG_ok (l := []) (cs := []) (bs := []) .nil .nil) (n := 200) .g ?_
    refine by_nf (B := bsplit (decide ((↑j : Int) < (↑N : Int))) (((0 : Int) ≤ (↑j : Int) ∧
      (↑j : Int) + (1 : Int) ≤ (↑N : Int)) ∧
      ((0 : Nat) + (↑j : Int).toNat).succ ≤ N ∧
      (k = (0 : Nat) → False) ∧
      (Value.slice none (0 : Nat) (0 : Nat) = Value.slice none (0 : Nat) (0 : Nat) ∧
      Value.slice (some { block := (1 : Nat), off := (0 : Nat), spot := some (0 : Nat) : Addr }) N N = Value.slice (some { block := (1 : Nat), off := { block := (1 : Nat), off := (0 : Nat), spot := some (0 : Nat) : Addr }.off, spot := some (0 : Nat) : Addr }) N N ∧
      Value.int IntKind.i64 (IntKind.i64.wrap ((↑j : Int) + (1 : Int))) = Value.int IntKind.i64 (IntKind.i64.wrap ((↑j : Int) + (1 : Int))) ∧
      True) ∧
      QSt { tmps := [], V := [VObj.rows false (5 : TypeId) (1 : Nat) n0 c0 f0, VObj.rows true (5 : TypeId) (1 : Nat) N N fun j_1 => if j_1 = (0 : Nat) + (↑j : Int).toNat then [Value.int IntKind.u8 (7 : Int)] else [Value.int IntKind.u8 (h j_1)]] : VSt } { tmps := [], V := [VObj.rows false (5 : TypeId) (1 : Nat) n0 c0 f0, VObj.rows true (5 : TypeId) (1 : Nat) N N fun j_1 => if j_1 = (0 : Nat) + (↑j : Int).toNat then [Value.int IntKind.u8 (7 : Int)] else [Value.int IntKind.u8 (h j_1)]] : VSt } ∧
      FlAt l N (k - (1 : Nat)) (IntKind.i64.wrap ((↑j : Int) + (1 : Int))) N fun j_1 => if j_1 = (0 : Nat) + (↑j : Int).toNat then [Value.int IntKind.u8 (7 : Int)] else [Value.int IntKind.u8 (h j_1)]) ((FlEnd l N N fun j => [Value.int IntKind.u8 (h j)]) ∧
      QSt { tmps := [Value.slice none (0 : Nat) (0 : Nat), unk, unk, Value.slice (some { block := (1 : Nat), off := { block := (1 : Nat), off := (0 : Nat), spot := some (0 : Nat) : Addr }.off, spot := some (0 : Nat) : Addr }) N N, unk, unk, unk, unk, unk, unk, unk, unk, unk, unk, unk, unk, unk, unk, unk, unk, unk, unk, unk, unk, unk, unk, unk, unk, unk, unk, unk, unk, unk, unk, unk, unk, unk, unk, unk, unk, unk, unk, unk, unk, unk, unk, unk, unk, unk, unk, unk, unk, unk, unk, unk, unk, unk, unk, unk, unk, unk, unk, unk, unk, unk, unk, unk, unk, unk, unk, unk, unk, unk, unk, unk, unk, unk, unk, unk, unk, unk, unk, unk], V := [VObj.rows false (5 : TypeId) (1 : Nat) n0 c0 f0, VObj.rows true (5 : TypeId) (1 : Nat) N N fun j => [Value.int IntKind.u8 (h j)]] : VSt } { tmps := [Value.slice none (0 : Nat) (0 : Nat), unk, unk, Value.slice (some { block := (1 : Nat), off := (0 : Nat), spot := some (0 : Nat) : Addr }) N N, unk, unk, unk, unk, unk, unk, unk, unk, unk, unk, unk, unk, unk, unk, unk, unk, unk, unk, unk, unk, unk, unk, unk, unk, unk, unk, unk, unk, unk, unk, unk, unk, unk, unk, unk, unk, unk, unk, unk, unk, unk, unk, unk, unk, unk, unk, unk, unk, unk, unk, unk, unk, unk, unk, unk, unk, unk, unk, unk, unk, unk, unk, unk, unk, unk, unk, unk, unk, unk, unk, unk, unk, unk, unk, unk, unk, unk, unk, unk], V := [VObj.rows false (5 : TypeId) (1 : Nat) n0 c0 f0, VObj.rows true (5 : TypeId) (1 : Nat) N N fun j => [Value.int IntKind.u8 (h j)]] : VSt })) (by kernel_rfl) ?_
    refine bsplit_iff.2 ⟨fun hlt => ?_, fun hge => ?_⟩
    · have hlt : j < N := by simp only [decide_eq_true_eq] at hlt; omega
      have hw : IntKind.i64.wrap ((j : Int) + 1) = ((j + 1 : Nat) : Int) := by rw [w64 _ (by omega)]; rfl
      have ej : 0 + (j : Int).toNat = j := by simp
      rw [ej, row_store h j 7, hw]
      refine ⟨⟨by omega, by omega⟩, by omega, by omega, ⟨rfl, rfl, rfl, trivial⟩, ⟨rfl⟩, ⟨j + 1, _, rfl, by omega, by omega, rfl, rfl, hb.store hlj 7, fun r h1 h2 => ?_⟩⟩
      split
      · rfl
      · exact h7 r h1 (by omega)
    · have hge : ¬ j < N := by simp only [decide_eq_false_iff_not] at hge; omega
      exact ⟨⟨h, rfl, rfl, hb, fun r h1 h2 => h7 r h1 (by omega)⟩, ⟨rfl⟩⟩
  · match k, hk with
    | 0, hk => cases hk; exact hf0
    | 1, hk => cases hk; exact scI h N

def flBN (n0 c0 : Nat) (f0 : Nat → List Value) (l : List UInt8) (N : Nat) : BlkS := fun S K =>
  reshape S.V.length (flSelN .normal S) (flKsN .normal) [] [] S (flJN n0 c0 f0 l N (N - l.length)) ∧ S.V.length = 2 ∧ ∀ f, FlEnd l N N f → K .normal (flEN n0 c0 f0 N f)

theorem fl_loopN (n0 c0 : Nat) (f0 : Nat → List Value) (hf0 : ∀ r, r < n0 → ∀ v ∈ f0 r, Sc 0 v ∧ cellC v = true) (l : List UInt8) (N : Nat) (hN : N ≤ 16777216) (S : VSt) (K : Exit → VSt → Prop) (hB : flBN n0 c0 f0 l N S K) :
    Does Tryd.prog (.block 0 (.loop (roundOf Tryd.f5 0))) S K := by
  obtain ⟨h2, h3, h4⟩ := hB
  refine Does.mono (Does.loopR (K := flKN n0 c0 f0 l N) flKsN flSelN [] [] (flJN n0 c0 f0 l N) S (reshape_mono (fun S hS => ⟨_, hS⟩) h2) fun k S' hJ => ?_) fun e S' hK => ?_
  · rw [h3]; exact fl_roundN n0 c0 f0 hf0 l N hN k S' hJ
  · unfold flKN at hK
    split at hK
    · split at hK
      · obtain ⟨⟨h, rfl, rfl, h5, h6⟩, ⟨rfl⟩⟩ := hK
        exact h4 _ ⟨h, rfl, rfl, h5, h6⟩
      · exact hK.elim
    · exact hK.elim

/-! the second loop -/
def ckTmN (n0 c0 : Nat) (f0 : Nat → List Value) (N : Nat) (s : ByteArray) (i : Int) : List Value := [.slice none 0 0, unk, unk, .slice (some ⟨1, 0, some 0⟩) N N, unk, unk, .string s, .int .i64 i] ++ List.replicate 75 unk
def ckJN (n0 c0 : Nat) (f0 : Nat → List Value) (L N : Nat) (f : Nat → List Value) (s : ByteArray) (k : Nat) (S : VSt) : Prop :=
  match nth undef S.tmps 7 with
  | .int .i64 i => leT (ckTmN n0 c0 f0 N s i) S.tmps ∧ QSt ⟨[], S.V⟩ ⟨[], lqVN n0 c0 f0 N f⟩ ∧ CkAt L N k i
  | _ => False
def ckEN (n0 c0 : Nat) (f0 : Nat → List Value) (N : Nat) (f : Nat → List Value) (s : ByteArray) : VSt := ⟨[.slice none 0 0, unk, unk, unk, unk, unk, .string s] ++ List.replicate 76 unk, lqVN n0 c0 f0 N f⟩
def ckKN (n0 c0 : Nat) (f0 : Nat → List Value) (N : Nat) (f : Nat → List Value) (s : ByteArray) (e : Exit) (S : VSt) : Prop :=
  match e with
  | .normal => QSt S (ckEN n0 c0 f0 N f s)
  | _ => False
def ckKsN (e : Exit) : List Nat := match e with | .normal => [0, 3, 6, 7] | .exit _ => [0, 6] | _ => []
theorem ckJ_eqN {n0 c0 : Nat} {f0 : Nat → List Value} {L N : Nat} {f : Nat → List Value} {s : ByteArray} {k : Nat} {S : VSt} (hJ : ckJN n0 c0 f0 L N f s k S) :
    ∃ (j : Nat), leT (ckTmN n0 c0 f0 N s j) S.tmps ∧ S.V = lqVN n0 c0 f0 N f ∧ j + k = N ∧ L ≤ j := by
  unfold ckJN at hJ
  split at hJ
  · obtain ⟨h1, ⟨h2⟩, ⟨j, rfl, h3, h4⟩⟩ := hJ
    exact ⟨j, h1, (VSt.mk.inj h2).2, h3, h4⟩
  · exact hJ.elim

theorem ck_roundN (n0 c0 : Nat) (f0 : Nat → List Value) (hf0 : ∀ r, r < n0 → ∀ v ∈ f0 r, Sc 0 v ∧ cellC v = true) (L N : Nat) (hN : N ≤ 16777216) (h : Nat → Int) (h7 : ∀ r, L ≤ r → r < N → h r = 7) (s : ByteArray) (k : Nat) (S : VSt)
    (hJ : ckJN n0 c0 f0 L N (fun j => [.int .u8 (h j)]) s k S) :
    Does Tryd.prog (roundOf Tryd.f5 2) S fun e S' => reshape 2 (flSelN e S') (ckKsN e) [] [] S' (roundR 2 (ckJN n0 c0 f0 L N (fun j => [.int .u8 (h j)]) s) k (ckKN n0 c0 f0 N (fun j => [.int .u8 (h j)]) s) e) := by
  obtain ⟨j, ht, hV, hj, hlj⟩ := ckJ_eqN hJ
  refine Does.weaken (S' := ⟨ckTmN n0 c0 f0 N s j, lqVN n0 c0 f0 N (fun j => [.int .u8 (h j)])⟩) ?_ ht hV.symm (.of rfl fun k o hk => ?_)
  · refine of_code (ctxG_ok (l := []) (cs := []) (bs := []) .nil .nil) (n := 200) .g ?_
    refine by_nf (B := bsplit (decide ((↑j : Int) < (↑N : Int))) (((0 : Int) ≤ (↑j : Int) ∧
      (↑j : Int) + (1 : Int) ≤ (↑N : Int)) ∧
      ((0 : Nat) + (↑j : Int).toNat).succ ≤ N ∧
      bsplit (h ((0 : Nat) + (↑j : Int).toNat) != (7 : Int)) False ((k = (0 : Nat) → False) ∧
      (Value.slice none (0 : Nat) (0 : Nat) = Value.slice none (0 : Nat) (0 : Nat) ∧
      Value.slice (some { block := (1 : Nat), off := (0 : Nat), spot := some (0 : Nat) : Addr }) N N = Value.slice (some { block := (1 : Nat), off := { block := (1 : Nat), off := (0 : Nat), spot := some (0 : Nat) : Addr }.off, spot := some (0 : Nat) : Addr }) N N ∧
      Value.string s = Value.string s ∧
      Value.int IntKind.i64 (IntKind.i64.wrap ((↑j : Int) + (1 : Int))) = Value.int IntKind.i64 (IntKind.i64.wrap ((↑j : Int) + (1 : Int))) ∧
      True) ∧
      QSt { tmps := [], V := [VObj.rows false (5 : TypeId) (1 : Nat) n0 c0 f0, VObj.rows true (5 : TypeId) (1 : Nat) N N fun j => [Value.int IntKind.u8 (h j)]] : VSt } { tmps := [], V := [VObj.rows false (5 : TypeId) (1 : Nat) n0 c0 f0, VObj.rows true (5 : TypeId) (1 : Nat) N N fun j => [Value.int IntKind.u8 (h j)]] : VSt } ∧
      CkAt L N (k - (1 : Nat)) (IntKind.i64.wrap ((↑j : Int) + (1 : Int))))) (QSt { tmps := [Value.slice none (0 : Nat) (0 : Nat), unk, unk, unk, unk, unk, Value.string s, unk, unk, unk, unk, unk, unk, unk, unk, unk, unk, unk, unk, unk, unk, unk, unk, unk, unk, unk, unk, unk, unk, unk, unk, unk, unk, unk, unk, unk, unk, unk, unk, unk, unk, unk, unk, unk, unk, unk, unk, unk, unk, unk, unk, unk, unk, unk, unk, unk, unk, unk, unk, unk, unk, unk, unk, unk, unk, unk, unk, unk, unk, unk, unk, unk, unk, unk, unk, unk, unk, unk, unk, unk, unk, unk, unk], V := [VObj.rows false (5 : TypeId) (1 : Nat) n0 c0 f0, VObj.rows true (5 : TypeId) (1 : Nat) N N fun j => [Value.int IntKind.u8 (h j)]] : VSt } { tmps := [Value.slice none (0 : Nat) (0 : Nat), unk, unk, unk, unk, unk, Value.string s, unk, unk, unk, unk, unk, unk, unk, unk, unk, unk, unk, unk, unk, unk, unk, unk, unk, unk, unk, unk, unk, unk, unk, unk, unk, unk, unk, unk, unk, unk, unk, unk, unk, unk, unk, unk, unk, unk, unk, unk, unk, unk, unk, unk, unk, unk, unk, unk, unk, unk, unk, unk, unk, unk, unk, unk, unk, unk, unk, unk, unk, unk, unk, unk, unk, unk, unk, unk, unk, unk, unk, unk, unk, unk, unk, unk], V := [VObj.rows false (5 : TypeId) (1 : Nat) n0 c0 f0, VObj.rows true (5 : TypeId) (1 : Nat) N N fun j => [Value.int IntKind.u8 (h j)]] : VSt })) (by kernel_rfl) ?_
    refine bsplit_iff.2 ⟨fun hlt => ?_, fun hge => ⟨rfl⟩⟩
    have hlt : j < N := by simp only [decide_eq_true_eq] at hlt; omega
    have hw : IntKind.i64.wrap ((j : Int) + 1) = ((j + 1 : Nat) : Int) := by rw [w64 _ (by omega)]; rfl
    have ej : 0 + (j : Int).toNat = j := by simp
    rw [ej, hw, h7 j hlj hlt]
    exact ⟨⟨by omega, by omega⟩, by omega, bsplit_iff.2 ⟨fun hne => (by simp at hne), fun _ => ⟨by omega, ⟨rfl, rfl, rfl, rfl, trivial⟩, ⟨rfl⟩, ⟨j + 1, rfl, by omega, by omega⟩⟩⟩⟩
  · match k, hk with
    | 0, hk => cases hk; exact hf0
    | 1, hk => cases hk; exact scI h N

def ckBN (n0 c0 : Nat) (f0 : Nat → List Value) (L N : Nat) : BlkS := fun S K =>
  match nth undef S.tmps 6, (S.V[1]? : Option VObj) with
  | .string s, some (.rows true 5 1 m m' f) => Ck7 L N f ∧ L ≤ N ∧ reshape S.V.length (flSelN .normal S) (ckKsN .normal) [] [] S (ckJN n0 c0 f0 L N f s (N - L)) ∧ S.V.length = 2 ∧ K .normal (ckEN n0 c0 f0 N f s)
  | _, _ => False

theorem ck_loopN (n0 c0 : Nat) (f0 : Nat → List Value) (hf0 : ∀ r, r < n0 → ∀ v ∈ f0 r, Sc 0 v ∧ cellC v = true) (L N : Nat) (hN : N ≤ 16777216) (S : VSt) (K : Exit → VSt → Prop) (hB : ckBN n0 c0 f0 L N S K) :
    Does Tryd.prog (.block 2 (.loop (roundOf Tryd.f5 2))) S K := by
  unfold ckBN at hB
  split at hB
  · rename_i s m m' f _ _
    obtain ⟨⟨h, rfl, h7⟩, hLN, h2, h3, h4⟩ := hB
    refine Does.mono (Does.loopR (K := ckKN n0 c0 f0 N (fun j => [.int .u8 (h j)]) s) ckKsN flSelN [] [] (ckJN n0 c0 f0 L N (fun j => [.int .u8 (h j)]) s) S (reshape_mono (fun S hS => ⟨_, hS⟩) h2) fun k S' hJ => ?_) fun e S' hK => ?_
    · rw [h3]; exact ck_roundN n0 c0 f0 hf0 L N hN h h7 s k S' hJ
    · unfold ckKN at hK
      split at hK
      · obtain ⟨rfl⟩ := hK
        exact h4
      · exact hK.elim
  · exact hB.elim

end Go.Sh
