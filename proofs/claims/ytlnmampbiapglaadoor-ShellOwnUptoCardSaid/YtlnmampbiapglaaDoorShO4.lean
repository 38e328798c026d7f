/- ShellOwn: the second loop's round: a list's words are written over. -/
import Derived.Test.YtlnmampbiapglaaDoorShO3
set_option linter.unusedSimpArgs false
set_option linter.unusedSectionVars false
set_option linter.unusedVariables false
set_option maxRecDepth 100000
namespace Go.Sh
open Go Go.X Go.Proofs
variable [WI]

def keptS (i : Nat) : ByteArray := ⟨#[107, 101, 112, 116, 32]⟩ ++ markS i
def o2Tm (n : Nat) (i : Int) : List Value := [unk, unk, unk, unk, unk, .slice (some ⟨1, 1, some 0⟩) n 0, .slice none 0 0, unk, unk, unk, unk, unk, unk, unk, .int .i64 i] ++ List.replicate 218 unk
def o2Nil (N n : Nat) (ls : Nat → ByteArray) (f : Nat → List Value) (i : Nat) : VW := [.arg 9 1 N fun i => [.string (ls i)], .raw 22 1 n 0 f [(i, [.slice none 0 0])]]
def o2Vec (N n : Nat) (ls : Nat → ByteArray) (f : Nat → List Value) (i m cap : Nat) (h : Nat → ByteArray) : VW :=
  [.arg 9 1 N fun i => [.string (ls i)], .raw 22 1 n 0 f [(i, [.slice (some ⟨2, 1, some 0⟩) m 0])], .rows true 9 1 m cap fun r => [.string (h r)]]

def mkTm (n i : Nat) (j : Int) : List Value := [unk, unk, unk, unk, unk, .slice (some ⟨1, 1, some 0⟩) n 0, .slice none 0 0, unk, unk, unk, unk, unk, unk, unk, .int .i64 i, .string (keptS i), .int .i64 j] ++ List.replicate 216 unk
structure MkAt (m i k : Nat) (j : Int) (h : Nat → ByteArray) : Prop where
  ex : ∃ j' : Nat, j = j' ∧ j' + k = m ∧ ∀ r, r < j' → h r = keptS i
structure MkEnd (m i : Nat) (h : Nat → ByteArray) : Prop where
  at_ : ∀ r, r < m → h r = keptS i
/-- some row of texts -/
structure MkV (N n : Nat) (ls : Nat → ByteArray) (f : Nat → List Value) (i m cap : Nat) (P : (Nat → ByteArray) → Prop) (V : VW) : Prop where
  ex : ∃ h, V = o2Vec N n ls f i m cap h ∧ P h
def mkJ (N n : Nat) (ls : Nat → ByteArray) (f : Nat → List Value) (i m cap : Nat) (k : Nat) (S : VSt) : Prop :=
  match nth undef S.tmps 16 with
  | .int .i64 j => leT (mkTm n i j) S.tmps ∧ MkV N n ls f i m cap (MkAt m i k j) S.V
  | _ => False
def mkE (n i : Nat) : List Value := [unk, unk, unk, unk, unk, .slice (some ⟨1, 1, some 0⟩) n 0, .slice none 0 0, unk, unk, unk, unk, unk, unk, unk, .int .i64 i] ++ List.replicate 218 unk
def mkK (N n : Nat) (ls : Nat → ByteArray) (f : Nat → List Value) (i m cap : Nat) (e : Exit) (S : VSt) : Prop :=
  match e with
  | .normal => QSt ⟨S.tmps, []⟩ ⟨mkE n i, []⟩ ∧ MkV N n ls f i m cap (MkEnd m i) S.V
  | _ => False
def mkSel (_ : Exit) (_ : VSt) : List Sel := [.keep 0, .keep 1, .keep 2]
def mkKs (e : Exit) : List Nat := match e with | .normal => [5, 6, 14, 15, 16] | .exit _ => [5, 6, 14] | _ => []

theorem mk_round (N n : Nat) (ls : Nat → ByteArray) (f : Nat → List Value) (i m cap : Nat) (hi : i < n) (hm : m ≤ 4294967296) (k : Nat) (j : Nat) (h : Nat → ByteArray) (hj : j + k = m) (hh : ∀ r, r < j → h r = keptS i) :
    Does Tryd.prog (roundOf Tryd.f4 4) ⟨mkTm n i j, o2Vec N n ls f i m cap h⟩ fun e S' => reshape 3 (mkSel e S') (mkKs e) [] [] S' (roundR 4 (mkJ N n ls f i m cap) k (mkK N n ls f i m cap) e) := by
  refine of_code (ctxG_ok (l := []) (cs := []) (bs := []) .nil .nil) (n := 200) .g ?_
  refine by_nf (B := ((0 : Int) ≤ (↑i : Int) ∧
    (↑i : Int) + (1 : Int) ≤ (↑n : Int)) ∧
    ((0 : Nat) + (↑i : Int).toNat = i ∧
    ((0 : Nat) + (↑i : Int).toNat).succ ≤ n) ∧
    bsplit (decide ((↑j : Int) < (↑m : Int))) (((0 : Int) ≤ (↑i : Int) ∧
    (↑i : Int) + (1 : Int) ≤ (↑n : Int)) ∧
    ((0 : Nat) + (↑i : Int).toNat = i ∧
    ((0 : Nat) + (↑i : Int).toNat).succ ≤ n) ∧
    ((0 : Int) ≤ (↑j : Int) ∧
    (↑j : Int) + (1 : Int) ≤ (↑m : Int)) ∧
    ((0 : Nat) + (↑j : Int).toNat).succ ≤ m ∧
    (k = (0 : Nat) → False) ∧
    (Value.slice (some { block := (1 : Nat), off := (1 : Nat), spot := some (0 : Nat) : Addr }) n (0 : Nat) = Value.slice (some { block := (1 : Nat), off := { block := (1 : Nat), off := (1 : Nat), spot := some (0 : Nat) : Addr }.off, spot := some (0 : Nat) : Addr }) n (0 : Nat) ∧
    Value.slice none (0 : Nat) (0 : Nat) = Value.slice none (0 : Nat) (0 : Nat) ∧
    Value.int IntKind.i64 (↑i : Int) = Value.int IntKind.i64 (↑i : Int) ∧
    Value.string (keptS i) = Value.string (keptS i) ∧
    Value.int IntKind.i64 (IntKind.i64.wrap ((↑j : Int) + (1 : Int))) = Value.int IntKind.i64 (IntKind.i64.wrap ((↑j : Int) + (1 : Int))) ∧
    True) ∧
    MkV N n ls f i m cap (MkAt m i (k - (1 : Nat)) (IntKind.i64.wrap ((↑j : Int) + (1 : Int)))) [VObj.arg (9 : TypeId) (1 : Nat) N fun i => [Value.string (ls i)], VObj.raw (22 : TypeId) (1 : Nat) n (0 : Nat) f [(i, [Value.slice (some { block := (2 : Nat), off := { block := (2 : Nat), off := (1 : Nat), spot := some (0 : Nat) : Addr }.off, spot := some (0 : Nat) : Addr }) m (0 : Nat)])], VObj.rows true (9 : TypeId) (1 : Nat) m cap fun j_1 => if j_1 = (0 : Nat) + (↑j : Int).toNat then [Value.string (keptS i)] else [Value.string (h j_1)]]) (QSt { tmps := [unk, unk, unk, unk, unk, Value.slice (some { block := (1 : Nat), off := { block := (1 : Nat), off := (1 : Nat), spot := some (0 : Nat) : Addr }.off, spot := some (0 : Nat) : Addr }) n (0 : Nat), Value.slice none (0 : Nat) (0 : Nat), unk, unk, unk, unk, unk, unk, unk, Value.int IntKind.i64 (↑i : Int), unk, unk, unk, unk, unk, unk, unk, unk, unk, unk, unk, unk, unk, unk, unk, unk, unk, unk, unk, unk, unk, unk, unk, unk, unk, unk, unk, unk, unk, unk, unk, unk, unk, unk, unk, unk, unk, unk, unk, unk, unk, unk, unk, unk, unk, unk, unk, unk, unk, unk, unk, unk, unk, unk, unk, unk, unk, unk, unk, unk, unk, unk, unk, unk, unk, unk, unk, unk, unk, unk, unk, unk, unk, unk, unk, unk, unk, unk, unk, unk, unk, unk, unk, unk, unk, unk, unk, unk, unk, unk, unk, unk, unk, unk, unk, unk, unk, unk, unk, unk, unk, unk, unk, unk, unk, unk, unk, unk, unk, unk, unk, unk, unk, unk, unk, unk, unk, unk, unk, unk, unk, unk, unk, unk, unk, unk, unk, unk, unk, unk, unk, unk, unk, unk, unk, unk, unk, unk, unk, unk, unk, unk, unk, unk, unk, unk, unk, unk, unk, unk, unk, unk, unk, unk, unk, unk, unk, unk, unk, unk, unk, unk, unk, unk, unk, unk, unk, unk, unk, unk, unk, unk, unk, unk, unk, unk, unk, unk, unk, unk, unk, unk, unk, unk, unk, unk, unk, unk, unk, unk, unk, unk, unk, unk, unk, unk, unk, unk, unk, unk, unk, unk, unk, unk, unk, unk, unk, unk, unk, unk, unk, unk, unk, unk, unk, unk, unk, unk], V := [] : VSt } { tmps := [unk, unk, unk, unk, unk, Value.slice (some { block := (1 : Nat), off := (1 : Nat), spot := some (0 : Nat) : Addr }) n (0 : Nat), Value.slice none (0 : Nat) (0 : Nat), unk, unk, unk, unk, unk, unk, unk, Value.int IntKind.i64 (↑i : Int), unk, unk, unk, unk, unk, unk, unk, unk, unk, unk, unk, unk, unk, unk, unk, unk, unk, unk, unk, unk, unk, unk, unk, unk, unk, unk, unk, unk, unk, unk, unk, unk, unk, unk, unk, unk, unk, unk, unk, unk, unk, unk, unk, unk, unk, unk, unk, unk, unk, unk, unk, unk, unk, unk, unk, unk, unk, unk, unk, unk, unk, unk, unk, unk, unk, unk, unk, unk, unk, unk, unk, unk, unk, unk, unk, unk, unk, unk, unk, unk, unk, unk, unk, unk, unk, unk, unk, unk, unk, unk, unk, unk, unk, unk, unk, unk, unk, unk, unk, unk, unk, unk, unk, unk, unk, unk, unk, unk, unk, unk, unk, unk, unk, unk, unk, unk, unk, unk, unk, unk, unk, unk, unk, unk, unk, unk, unk, unk, unk, unk, unk, unk, unk, unk, unk, unk, unk, unk, unk, unk, unk, unk, unk, unk, unk, unk, unk, unk, unk, unk, unk, unk, unk, unk, unk, unk, unk, unk, unk, unk, unk, unk, unk, unk, unk, unk, unk, unk, unk, unk, unk, unk, unk, unk, unk, unk, unk, unk, unk, unk, unk, unk, unk, unk, unk, unk, unk, unk, unk, unk, unk, unk, unk, unk, unk, unk, unk, unk, unk, unk, unk, unk, unk, unk, unk, unk, unk, unk, unk, unk, unk, unk, unk, unk, unk, unk, unk, unk], V := [] : VSt } ∧
    MkV N n ls f i m cap (MkEnd m i) [VObj.arg (9 : TypeId) (1 : Nat) N fun i => [Value.string (ls i)], VObj.raw (22 : TypeId) (1 : Nat) n (0 : Nat) f [(i, [Value.slice (some { block := (2 : Nat), off := { block := (2 : Nat), off := (1 : Nat), spot := some (0 : Nat) : Addr }.off, spot := some (0 : Nat) : Addr }) m (0 : Nat)])], VObj.rows true (9 : TypeId) (1 : Nat) m cap fun r => [Value.string (h r)]])) (by kernel_rfl) ?_
  have idx : ((0 : Int) ≤ (↑i : Int) ∧ (↑i : Int) + (1 : Int) ≤ (↑n : Int)) := ⟨by omega, by omega⟩
  have e0 : (0 : Nat) + (↑i : Int).toNat = i := by omega
  have idx2 : ((0 : Nat) + (↑i : Int).toNat = i ∧ ((0 : Nat) + (↑i : Int).toNat).succ ≤ n) := ⟨e0, by omega⟩
  refine ⟨idx, idx2, bsplit_iff.2 ⟨fun hlt => ?_, fun hge => ?_⟩⟩
  · have hlt : j < m := by simp at hlt; omega
    have hw : IntKind.i64.wrap ((j : Int) + 1) = ((j + 1 : Nat) : Int) := by rw [w64 _ (by omega)]; rfl
    rw [hw]
    refine ⟨idx, idx2, ⟨by omega, by omega⟩, by omega, by omega, ⟨rfl, rfl, rfl, rfl, rfl, trivial⟩, ⟨fun r => if r = (0 : Nat) + (↑j : Int).toNat then keptS i else h r, ?_, j + 1, rfl, by omega, fun r hr => ?_⟩⟩
    · have : (fun j_1 => if j_1 = (0 : Nat) + (↑j : Int).toNat then [Value.string (keptS i)] else [Value.string (h j_1)]) = fun r => [.string (if r = (0 : Nat) + (↑j : Int).toNat then keptS i else h r)] := by
        funext r; split <;> rfl
      rw [this]; rfl
    · show (if r = (0 : Nat) + (↑j : Int).toNat then keptS i else h r) = keptS i
      split
      · rfl
      · exact hh r (by omega)
  · have hge : ¬ j < m := by simp at hge; omega
    exact ⟨⟨rfl⟩, ⟨h, rfl, ⟨fun r hr => hh r (by omega)⟩⟩⟩

theorem mkJ_eq {N n : Nat} {ls : Nat → ByteArray} {f : Nat → List Value} {i m cap k : Nat} {S : VSt} (hJ : mkJ N n ls f i m cap k S) :
    ∃ (j : Nat) (h : Nat → ByteArray), leT (mkTm n i j) S.tmps ∧ S.V = o2Vec N n ls f i m cap h ∧ j + k = m ∧ ∀ r, r < j → h r = keptS i := by
  unfold mkJ at hJ
  split at hJ
  · obtain ⟨h1, ⟨h, h2, ⟨j, rfl, h3, h4⟩⟩⟩ := hJ
    exact ⟨j, h, h1, h2, h3, h4⟩
  · exact hJ.elim

def mkB (N n : Nat) (ls : Nat → ByteArray) (f : Nat → List Value) (i m cap : Nat) : BlkS := fun S K =>
  reshape S.V.length (mkSel .normal S) [5, 6, 14, 15, 16] [] [] S (mkJ N n ls f i m cap m) ∧ S.V.length = 3 ∧ ∀ h, MkEnd m i h → K .normal ⟨mkE n i, o2Vec N n ls f i m cap h⟩

theorem vec_sc {N n : Nat} {ls : Nat → ByteArray} {f : Nat → List Value} {i m cap : Nat} {h : Nat → ByteArray} (k : Nat) (o : VObj) (hk : (o2Vec N n ls f i m cap h)[k]? = some o) : ScO (o2Vec N n ls f i m cap h).length o := by
  match k, hk with
  | 0, hk => cases hk; trivial
  | 1, hk =>
    cases hk
    intro x hx v hv
    rw [List.mem_singleton] at hx; subst hx
    rw [List.mem_singleton] at hv; subst hv
    exact ⟨.slice (by show 2 < 3; omega), rfl⟩
  | 2, hk => cases hk; exact fun r hr v hv => by rw [List.mem_singleton] at hv; subst hv; exact ⟨.plain rfl, rfl⟩

theorem mk_loop (N n : Nat) (ls : Nat → ByteArray) (f : Nat → List Value) (i m cap : Nat) (hi : i < n) (hm : m ≤ 4294967296) (S : VSt) (K : Exit → VSt → Prop)
    (hB : mkB N n ls f i m cap S K) : Does Tryd.prog (.block 4 (.loop (roundOf Tryd.f4 4))) S K := by
  obtain ⟨h1, h2, h3⟩ := hB
  refine Does.mono (Does.loopR (K := mkK N n ls f i m cap) mkKs mkSel [] [] (mkJ N n ls f i m cap) S (reshape_mono (fun S hS => ⟨_, hS⟩) h1) fun k S' hJ => ?_) fun e S' hK => ?_
  · obtain ⟨j, h, ht, hV, hj, hh⟩ := mkJ_eq hJ
    rw [h2]
    exact Does.weaken (S' := ⟨mkTm n i j, o2Vec N n ls f i m cap h⟩) (mk_round N n ls f i m cap hi hm k j h hj hh) ht hV.symm (.of rfl vec_sc)
  · unfold mkK at hK
    split at hK
    · obtain ⟨⟨hq⟩, h, hV, hh⟩ := hK
      have : S' = ⟨mkE n i, o2Vec N n ls f i m cap h⟩ := by
        cases S'; cases hV; exact congrArg (fun t => VSt.mk t _) (VSt.mk.inj hq).1
      rw [this]; exact h3 h hh
    · exact hK.elim

/-! ### The round -/
def o2Ks (_ : Exit) : List Nat := [5, 6, 14]
def o2Leaf (N n : Nat) (ls : Nat → ByteArray) (f : Nat → List Value) (i m cap : Nat) (e : Exit) (S : VSt) : Prop :=
  match e with
  | .normal => QSt ⟨S.tmps, []⟩ ⟨o2Tm n ((i + 1 : Nat) : Int), []⟩ ∧ MkV N n ls f i m cap (MkEnd m i) S.V
  | _ => False
def o2LeafN (N n : Nat) (ls : Nat → ByteArray) (f : Nat → List Value) (i : Nat) (e : Exit) (S : VSt) : Prop :=
  match e with
  | .normal => QSt S ⟨o2Tm n ((i + 1 : Nat) : Int), o2Nil N n ls f i⟩
  | _ => False
def o2LeafE (N n : Nat) (ls : Nat → ByteArray) (f : Nat → List Value) (e : Exit) (S : VSt) : Prop :=
  match e with
  | .exit 2 => QSt S ⟨o2Tm n n, oV1 N n ls f⟩
  | _ => False
def two (_ : Exit) (_ : VSt) : List Sel := [.keep 0, .keep 1]

abbrev mark10 : Nat × FnS := (10, g1p (dInt .i64) (fun x => 0 ≤ x ∧ x < (1000000 : Nat)) fun x => .string (markS x.toNat))
def noB : BlkS := fun _ _ => False
theorem five_size (i : Nat) (b : ByteArray) (hb : b.size ≤ 5) (hi : i ≤ 10000) : ((b.size + (markS i).size : Nat) : Int) ≤ IntKind.i64.max := by
  have := markS_size i
  have : IntKind.i64.max = 9223372036854775807 := by decide
  omega
theorem o2_vec (N n : Nat) (ls : Nat → ByteArray) (f : Nat → List Value) (i m cap : Nat) (h : Nat → ByteArray) (hi : i < n) (hn : n ≤ 10000) (hm : m ≤ 4294967296) :
    Does Tryd.prog (roundOf Tryd.f4 2) ⟨o2Tm n i, o2Vec N n ls f i m cap h⟩ fun e S' => tame (o2Vec N n ls f i m cap h) S'.V (reshape 0 (mkSel e S') (o2Ks e) [] [] S' (o2Leaf N n ls f i m cap e)) := by
  refine of_code (ctxG_ok (l := [mark10]) (cs := []) (bs := [(4, mkB N n ls f i m cap)]) (.cons mark_ok .nil) .nil) (n := 200) (.one rfl rfl (mk_loop N n ls f i m cap hi hm)) ?_
  refine by_nf (B := bsplit (decide ((↑i : Int) < (↑n : Int))) (((0 : Int) ≤ (↑i : Int) ∧
    (↑i : Int) + (1 : Int) ≤ (↑(1000000 : Nat) : Int)) ∧
    (↑({ data := #[(107 : UInt8), (101 : UInt8), (112 : UInt8), (116 : UInt8), (32 : UInt8)] : ByteArray }.size + (markS (↑i : Int).toNat).size) : Int) ≤ IntKind.i64.max ∧
    ((Value.slice (some { block := (1 : Nat), off := (1 : Nat), spot := some (0 : Nat) : Addr }) n (0 : Nat) = Value.slice (some { block := (1 : Nat), off := { block := (1 : Nat), off := (1 : Nat), spot := some (0 : Nat) : Addr }.off, spot := some (0 : Nat) : Addr }) n (0 : Nat) ∧
    Value.slice none (0 : Nat) (0 : Nat) = Value.slice none (0 : Nat) (0 : Nat) ∧
    Value.int IntKind.i64 (↑i : Int) = Value.int IntKind.i64 (↑i : Int) ∧
    Value.string (keptS i) = Value.string ({ data := #[(107 : UInt8), (101 : UInt8), (112 : UInt8), (116 : UInt8), (32 : UInt8)] : ByteArray } ++ markS (↑i : Int).toNat) ∧
    Value.int IntKind.i64 (0 : Int) = Value.int IntKind.i64 (0 : Int) ∧
    True) ∧
    MkV N n ls f i m cap (MkAt m i m (0 : Int)) [VObj.arg (9 : TypeId) (1 : Nat) N fun i => [Value.string (ls i)], VObj.raw (22 : TypeId) (1 : Nat) n (0 : Nat) f [(i, [Value.slice (some { block := (2 : Nat), off := { block := (2 : Nat), off := (1 : Nat), spot := some (0 : Nat) : Addr }.off, spot := some (0 : Nat) : Addr }) m (0 : Nat)])], VObj.rows true (9 : TypeId) (1 : Nat) m cap fun r => [Value.string (h r)]]) ∧
    (3 : Nat) = (3 : Nat) ∧
    ∀ (h : Nat → ByteArray), MkEnd m i h → some (VObj.arg (9 : TypeId) (1 : Nat) N fun i => [Value.string (ls i)]) = some (VObj.arg (9 : TypeId) (1 : Nat) N fun i => [Value.string (ls i)]) ∧
    QSt { tmps := [unk, unk, unk, unk, unk, Value.slice (some { block := (1 : Nat), off := { block := (1 : Nat), off := (1 : Nat), spot := some (0 : Nat) : Addr }.off, spot := some (0 : Nat) : Addr }) n (0 : Nat), Value.slice none (0 : Nat) (0 : Nat), unk, unk, unk, unk, unk, unk, unk, Value.int IntKind.i64 (IntKind.i64.wrap ((↑i : Int) + (1 : Int))), unk, unk, unk, unk, unk, unk, unk, unk, unk, unk, unk, unk, unk, unk, unk, unk, unk, unk, unk, unk, unk, unk, unk, unk, unk, unk, unk, unk, unk, unk, unk, unk, unk, unk, unk, unk, unk, unk, unk, unk, unk, unk, unk, unk, unk, unk, unk, unk, unk, unk, unk, unk, unk, unk, unk, unk, unk, unk, unk, unk, unk, unk, unk, unk, unk, unk, unk, unk, unk, unk, unk, unk, unk, unk, unk, unk, unk, unk, unk, unk, unk, unk, unk, unk, unk, unk, unk, unk, unk, unk, unk, unk, unk, unk, unk, unk, unk, unk, unk, unk, unk, unk, unk, unk, unk, unk, unk, unk, unk, unk, unk, unk, unk, unk, unk, unk, unk, unk, unk, unk, unk, unk, unk, unk, unk, unk, unk, unk, unk, unk, unk, unk, unk, unk, unk, unk, unk, unk, unk, unk, unk, unk, unk, unk, unk, unk, unk, unk, unk, unk, unk, unk, unk, unk, unk, unk, unk, unk, unk, unk, unk, unk, unk, unk, unk, unk, unk, unk, unk, unk, unk, unk, unk, unk, unk, unk, unk, unk, unk, unk, unk, unk, unk, unk, unk, unk, unk, unk, unk, unk, unk, unk, unk, unk, unk, unk, unk, unk, unk, unk, unk, unk, unk, unk, unk, unk, unk, unk, unk, unk, unk, unk, unk, unk, unk, unk, unk, unk], V := [] : VSt } { tmps := [unk, unk, unk, unk, unk, Value.slice (some { block := (1 : Nat), off := (1 : Nat), spot := some (0 : Nat) : Addr }) n (0 : Nat), Value.slice none (0 : Nat) (0 : Nat), unk, unk, unk, unk, unk, unk, unk, Value.int IntKind.i64 (↑(i + (1 : Nat)) : Int), unk, unk, unk, unk, unk, unk, unk, unk, unk, unk, unk, unk, unk, unk, unk, unk, unk, unk, unk, unk, unk, unk, unk, unk, unk, unk, unk, unk, unk, unk, unk, unk, unk, unk, unk, unk, unk, unk, unk, unk, unk, unk, unk, unk, unk, unk, unk, unk, unk, unk, unk, unk, unk, unk, unk, unk, unk, unk, unk, unk, unk, unk, unk, unk, unk, unk, unk, unk, unk, unk, unk, unk, unk, unk, unk, unk, unk, unk, unk, unk, unk, unk, unk, unk, unk, unk, unk, unk, unk, unk, unk, unk, unk, unk, unk, unk, unk, unk, unk, unk, unk, unk, unk, unk, unk, unk, unk, unk, unk, unk, unk, unk, unk, unk, unk, unk, unk, unk, unk, unk, unk, unk, unk, unk, unk, unk, unk, unk, unk, unk, unk, unk, unk, unk, unk, unk, unk, unk, unk, unk, unk, unk, unk, unk, unk, unk, unk, unk, unk, unk, unk, unk, unk, unk, unk, unk, unk, unk, unk, unk, unk, unk, unk, unk, unk, unk, unk, unk, unk, unk, unk, unk, unk, unk, unk, unk, unk, unk, unk, unk, unk, unk, unk, unk, unk, unk, unk, unk, unk, unk, unk, unk, unk, unk, unk, unk, unk, unk, unk, unk, unk, unk, unk, unk, unk, unk, unk, unk, unk, unk, unk, unk, unk, unk, unk, unk, unk, unk], V := [] : VSt } ∧
    MkV N n ls f i m cap (MkEnd m i) [VObj.arg (9 : TypeId) (1 : Nat) N fun i => [Value.string (ls i)], VObj.raw (22 : TypeId) (1 : Nat) n (0 : Nat) f [(i, [Value.slice (some { block := (2 : Nat), off := { block := (2 : Nat), off := (1 : Nat), spot := some (0 : Nat) : Addr }.off, spot := some (0 : Nat) : Addr }) m (0 : Nat)])], VObj.rows true (9 : TypeId) (1 : Nat) m cap fun r => [Value.string (h r)]]) (some (VObj.arg (9 : TypeId) (1 : Nat) N fun i => [Value.string (ls i)]) = some (VObj.arg (9 : TypeId) (1 : Nat) N fun i => [Value.string (ls i)]) ∧
    False)) (by kernel_rfl) ?_
  have hw : IntKind.i64.wrap ((i : Int) + 1) = ((i + 1 : Nat) : Int) := by rw [w64 _ (by omega)]; rfl
  rw [hw]
  refine bsplit_iff.2 ⟨fun hlt => ?_, fun hge => ?_⟩
  · exact ⟨⟨by omega, by omega⟩, five_size i _ (by decide) (by omega), ⟨⟨rfl, rfl, rfl, rfl, rfl, trivial⟩, ⟨h, rfl, ⟨0, rfl, by omega, fun r hr => absurd hr (Nat.not_lt_zero r)⟩⟩⟩, rfl, fun h' hh' => ⟨rfl, ⟨rfl⟩, ⟨h', rfl, hh'⟩⟩⟩
  · simp at hge; omega
theorem o2_nil (N n : Nat) (ls : Nat → ByteArray) (f : Nat → List Value) (i : Nat) (hi : i < n) (hn : n ≤ 10000) :
    Does Tryd.prog (roundOf Tryd.f4 2) ⟨o2Tm n i, o2Nil N n ls f i⟩ fun e S' => tame (o2Nil N n ls f i) S'.V (reshape 0 (two e S') (o2Ks e) [] [] S' (o2LeafN N n ls f i e)) := by
  refine of_code (ctxG_ok (l := [mark10]) (cs := []) (bs := []) (.cons mark_ok .nil) .nil) (n := 200) .g ?_
  refine by_nf (B := bsplit (decide ((↑i : Int) < (↑n : Int))) (((0 : Int) ≤ (↑i : Int) ∧
    (↑i : Int) + (1 : Int) ≤ (↑(1000000 : Nat) : Int)) ∧
    (↑({ data := #[(107 : UInt8), (101 : UInt8), (112 : UInt8), (116 : UInt8), (32 : UInt8)] : ByteArray }.size + (markS (↑i : Int).toNat).size) : Int) ≤ IntKind.i64.max ∧
    ((0 : Int) ≤ (↑i : Int) ∧
    (↑i : Int) + (1 : Int) ≤ (↑n : Int)) ∧
    ((0 : Nat) + (↑i : Int).toNat = i ∧
    ((0 : Nat) + (↑i : Int).toNat).succ ≤ n) ∧
    some (VObj.arg (9 : TypeId) (1 : Nat) N fun i => [Value.string (ls i)]) = some (VObj.arg (9 : TypeId) (1 : Nat) N fun i => [Value.string (ls i)]) ∧
    QSt { tmps := [unk, unk, unk, unk, unk, Value.slice (some { block := (1 : Nat), off := { block := (1 : Nat), off := (1 : Nat), spot := some (0 : Nat) : Addr }.off, spot := some (0 : Nat) : Addr }) n (0 : Nat), Value.slice none (0 : Nat) (0 : Nat), unk, unk, unk, unk, unk, unk, unk, Value.int IntKind.i64 (IntKind.i64.wrap ((↑i : Int) + (1 : Int))), unk, unk, unk, unk, unk, unk, unk, unk, unk, unk, unk, unk, unk, unk, unk, unk, unk, unk, unk, unk, unk, unk, unk, unk, unk, unk, unk, unk, unk, unk, unk, unk, unk, unk, unk, unk, unk, unk, unk, unk, unk, unk, unk, unk, unk, unk, unk, unk, unk, unk, unk, unk, unk, unk, unk, unk, unk, unk, unk, unk, unk, unk, unk, unk, unk, unk, unk, unk, unk, unk, unk, unk, unk, unk, unk, unk, unk, unk, unk, unk, unk, unk, unk, unk, unk, unk, unk, unk, unk, unk, unk, unk, unk, unk, unk, unk, unk, unk, unk, unk, unk, unk, unk, unk, unk, unk, unk, unk, unk, unk, unk, unk, unk, unk, unk, unk, unk, unk, unk, unk, unk, unk, unk, unk, unk, unk, unk, unk, unk, unk, unk, unk, unk, unk, unk, unk, unk, unk, unk, unk, unk, unk, unk, unk, unk, unk, unk, unk, unk, unk, unk, unk, unk, unk, unk, unk, unk, unk, unk, unk, unk, unk, unk, unk, unk, unk, unk, unk, unk, unk, unk, unk, unk, unk, unk, unk, unk, unk, unk, unk, unk, unk, unk, unk, unk, unk, unk, unk, unk, unk, unk, unk, unk, unk, unk, unk, unk, unk, unk, unk, unk, unk, unk, unk, unk, unk, unk, unk, unk, unk, unk, unk, unk, unk, unk, unk, unk, unk], V := [VObj.arg (9 : TypeId) (1 : Nat) N fun i => [Value.string (ls i)], VObj.raw (22 : TypeId) (1 : Nat) n (0 : Nat) f [(i, [Value.slice none (0 : Nat) (0 : Nat)])]] : VSt } { tmps := [unk, unk, unk, unk, unk, Value.slice (some { block := (1 : Nat), off := (1 : Nat), spot := some (0 : Nat) : Addr }) n (0 : Nat), Value.slice none (0 : Nat) (0 : Nat), unk, unk, unk, unk, unk, unk, unk, Value.int IntKind.i64 (↑(i + (1 : Nat)) : Int), unk, unk, unk, unk, unk, unk, unk, unk, unk, unk, unk, unk, unk, unk, unk, unk, unk, unk, unk, unk, unk, unk, unk, unk, unk, unk, unk, unk, unk, unk, unk, unk, unk, unk, unk, unk, unk, unk, unk, unk, unk, unk, unk, unk, unk, unk, unk, unk, unk, unk, unk, unk, unk, unk, unk, unk, unk, unk, unk, unk, unk, unk, unk, unk, unk, unk, unk, unk, unk, unk, unk, unk, unk, unk, unk, unk, unk, unk, unk, unk, unk, unk, unk, unk, unk, unk, unk, unk, unk, unk, unk, unk, unk, unk, unk, unk, unk, unk, unk, unk, unk, unk, unk, unk, unk, unk, unk, unk, unk, unk, unk, unk, unk, unk, unk, unk, unk, unk, unk, unk, unk, unk, unk, unk, unk, unk, unk, unk, unk, unk, unk, unk, unk, unk, unk, unk, unk, unk, unk, unk, unk, unk, unk, unk, unk, unk, unk, unk, unk, unk, unk, unk, unk, unk, unk, unk, unk, unk, unk, unk, unk, unk, unk, unk, unk, unk, unk, unk, unk, unk, unk, unk, unk, unk, unk, unk, unk, unk, unk, unk, unk, unk, unk, unk, unk, unk, unk, unk, unk, unk, unk, unk, unk, unk, unk, unk, unk, unk, unk, unk, unk, unk, unk, unk, unk, unk, unk, unk, unk, unk, unk, unk, unk, unk, unk, unk, unk, unk], V := [VObj.arg (9 : TypeId) (1 : Nat) N fun i => [Value.string (ls i)], VObj.raw (22 : TypeId) (1 : Nat) n (0 : Nat) f [(i, [Value.slice none (0 : Nat) (0 : Nat)])]] : VSt }) (some (VObj.arg (9 : TypeId) (1 : Nat) N fun i => [Value.string (ls i)]) = some (VObj.arg (9 : TypeId) (1 : Nat) N fun i => [Value.string (ls i)]) ∧
    False)) (by kernel_rfl) ?_
  have hw : IntKind.i64.wrap ((i : Int) + 1) = ((i + 1 : Nat) : Int) := by rw [w64 _ (by omega)]; rfl
  rw [hw]
  refine bsplit_iff.2 ⟨fun hlt => ?_, fun hge => ?_⟩
  · exact ⟨⟨by omega, by omega⟩, five_size i _ (by decide) (by omega), ⟨by omega, by omega⟩, ⟨by omega, by omega⟩, rfl, ⟨rfl⟩⟩
  · simp at hge; omega
theorem o2_end (N n : Nat) (ls : Nat → ByteArray) (f : Nat → List Value) :
    Does Tryd.prog (roundOf Tryd.f4 2) ⟨o2Tm n n, oV1 N n ls f⟩ fun e S' => tame (oV1 N n ls f) S'.V (reshape 0 (two e S') (o2Ks e) [] [] S' (o2LeafE N n ls f e)) := by
  refine of_code (ctxG_ok (l := [mark10]) (cs := []) (bs := [(4, noB)]) (.cons mark_ok .nil) .nil) (n := 200) (.one rfl rfl fun S K h => h.elim) ?_
  refine by_nf (B := bsplit (decide ((↑n : Int) < (↑n : Int))) (((0 : Int) ≤ (↑n : Int) ∧
    (↑n : Int) + (1 : Int) ≤ (↑(1000000 : Nat) : Int)) ∧
    (↑({ data := #[(107 : UInt8), (101 : UInt8), (112 : UInt8), (116 : UInt8), (32 : UInt8)] : ByteArray }.size + (markS (↑n : Int).toNat).size) : Int) ≤ IntKind.i64.max ∧
    False) (some (VObj.arg (9 : TypeId) (1 : Nat) N fun i => [Value.string (ls i)]) = some (VObj.arg (9 : TypeId) (1 : Nat) N fun i => [Value.string (ls i)]) ∧
    QSt { tmps := [unk, unk, unk, unk, unk, Value.slice (some { block := (1 : Nat), off := { block := (1 : Nat), off := (1 : Nat), spot := some (0 : Nat) : Addr }.off, spot := some (0 : Nat) : Addr }) n (0 : Nat), Value.slice none (0 : Nat) (0 : Nat), unk, unk, unk, unk, unk, unk, unk, Value.int IntKind.i64 (↑n : Int), unk, unk, unk, unk, unk, unk, unk, unk, unk, unk, unk, unk, unk, unk, unk, unk, unk, unk, unk, unk, unk, unk, unk, unk, unk, unk, unk, unk, unk, unk, unk, unk, unk, unk, unk, unk, unk, unk, unk, unk, unk, unk, unk, unk, unk, unk, unk, unk, unk, unk, unk, unk, unk, unk, unk, unk, unk, unk, unk, unk, unk, unk, unk, unk, unk, unk, unk, unk, unk, unk, unk, unk, unk, unk, unk, unk, unk, unk, unk, unk, unk, unk, unk, unk, unk, unk, unk, unk, unk, unk, unk, unk, unk, unk, unk, unk, unk, unk, unk, unk, unk, unk, unk, unk, unk, unk, unk, unk, unk, unk, unk, unk, unk, unk, unk, unk, unk, unk, unk, unk, unk, unk, unk, unk, unk, unk, unk, unk, unk, unk, unk, unk, unk, unk, unk, unk, unk, unk, unk, unk, unk, unk, unk, unk, unk, unk, unk, unk, unk, unk, unk, unk, unk, unk, unk, unk, unk, unk, unk, unk, unk, unk, unk, unk, unk, unk, unk, unk, unk, unk, unk, unk, unk, unk, unk, unk, unk, unk, unk, unk, unk, unk, unk, unk, unk, unk, unk, unk, unk, unk, unk, unk, unk, unk, unk, unk, unk, unk, unk, unk, unk, unk, unk, unk, unk, unk, unk, unk, unk, unk, unk, unk, unk, unk, unk, unk, unk, unk], V := [VObj.arg (9 : TypeId) (1 : Nat) N fun i => [Value.string (ls i)], VObj.raw (22 : TypeId) (1 : Nat) n (0 : Nat) f []] : VSt } { tmps := [unk, unk, unk, unk, unk, Value.slice (some { block := (1 : Nat), off := (1 : Nat), spot := some (0 : Nat) : Addr }) n (0 : Nat), Value.slice none (0 : Nat) (0 : Nat), unk, unk, unk, unk, unk, unk, unk, Value.int IntKind.i64 (↑n : Int), unk, unk, unk, unk, unk, unk, unk, unk, unk, unk, unk, unk, unk, unk, unk, unk, unk, unk, unk, unk, unk, unk, unk, unk, unk, unk, unk, unk, unk, unk, unk, unk, unk, unk, unk, unk, unk, unk, unk, unk, unk, unk, unk, unk, unk, unk, unk, unk, unk, unk, unk, unk, unk, unk, unk, unk, unk, unk, unk, unk, unk, unk, unk, unk, unk, unk, unk, unk, unk, unk, unk, unk, unk, unk, unk, unk, unk, unk, unk, unk, unk, unk, unk, unk, unk, unk, unk, unk, unk, unk, unk, unk, unk, unk, unk, unk, unk, unk, unk, unk, unk, unk, unk, unk, unk, unk, unk, unk, unk, unk, unk, unk, unk, unk, unk, unk, unk, unk, unk, unk, unk, unk, unk, unk, unk, unk, unk, unk, unk, unk, unk, unk, unk, unk, unk, unk, unk, unk, unk, unk, unk, unk, unk, unk, unk, unk, unk, unk, unk, unk, unk, unk, unk, unk, unk, unk, unk, unk, unk, unk, unk, unk, unk, unk, unk, unk, unk, unk, unk, unk, unk, unk, unk, unk, unk, unk, unk, unk, unk, unk, unk, unk, unk, unk, unk, unk, unk, unk, unk, unk, unk, unk, unk, unk, unk, unk, unk, unk, unk, unk, unk, unk, unk, unk, unk, unk, unk, unk, unk, unk, unk, unk, unk, unk, unk, unk, unk, unk], V := [VObj.arg (9 : TypeId) (1 : Nat) N fun i => [Value.string (ls i)], VObj.raw (22 : TypeId) (1 : Nat) n (0 : Nat) f []] : VSt })) (by kernel_rfl) ?_
  refine bsplit_iff.2 ⟨fun hlt => ?_, fun hge => ?_⟩
  · simp at hlt
  · exact ⟨rfl, ⟨rfl⟩⟩
end Go.Sh
