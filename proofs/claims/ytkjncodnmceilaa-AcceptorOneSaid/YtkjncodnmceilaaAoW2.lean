/- AcceptorOne: a proposal more (begin). -/
import Derived.Test.YtkjncodnmceilaaAoW1
set_option linter.unusedSimpArgs false
set_option linter.unusedVariables false
set_option linter.unusedSectionVars false
set_option maxRecDepth 100000
namespace Go.Acc
open Go Go.X Go.Proofs
variable [WI]

structure GAct where
  Kind : Int
  P : Int
  S : Int
  Ballot : GStamp
  Lost : Bool
def GAct.c (x : GAct) : List Value := [.int .i64 x.Kind, .int .i64 x.P, .int .i64 x.S, .int .i64 x.Ballot.N, .int .i64 x.Ballot.Client, .bool x.Lost]
instance : Inhabited GAct := ⟨⟨0, 0, 0, ⟨0, 0⟩, false⟩⟩

/-- the cells of a proposal; its lists are the slices u1, u2 -/
def gpc (x : GP) (u1 u2 : Value) : List Value := [.int .i64 x.B.N, .int .i64 x.B.Client, u1, .int .i64 x.H.N, .int .i64 x.H.Client,
  .int .i64 x.C.Kind, .int .i64 x.C.Client, .int .i64 x.C.Op, .string x.C.Name, .int .i64 x.C.File.Client, .int .i64 x.C.File.Op, .int .i64 x.C.New.Client, .int .i64 x.C.New.Op, .int .i64 x.C.Size, .bool x.ch, u2]
def oA (N : Nat) (A : Nat → GAct) : VObj := .arg 73 6 N fun i => (A i).c
def oP (F nI : Nat) (lv : Value) (D : GCommand) : VObj := .cells 71 [.int .i64 F, .slice (some ⟨2, 0, some 0⟩) nI nI, lv,
  .int .i64 D.Kind, .int .i64 D.Client, .int .i64 D.Op, .string D.Name, .int .i64 D.File.Client, .int .i64 D.File.Op, .int .i64 D.New.Client, .int .i64 D.New.Op, .int .i64 D.Size]
def oI (nI : Nat) (I : Nat → GInst) : VObj := .rows true 32 14 nI nI fun r => (I r).c
def rawF (P : Nat → GP) (u1 u2 : Nat → Value) (r : Nat) : List Value := gpc (P r) (u1 r) (u2 r)
def oL (n : Nat) (P : Nat → GP) (u1 u2 : Nat → Value) : VObj := .raw 91 16 n 0 (fun r => gpc (P r) (u1 r) (u2 r)) []
def hv (n : Nat) : Value := .slice (some ⟨3, 1, some 0⟩) n 0
def h5 (n : Nat) : Value := .slice (some ⟨5, 1, some 0⟩) n 0
def nilS : Value := .slice none 0 0
def oAct (a : GAct) : VObj := .cells 73 a.c
def pp : Value := .pointer (some ⟨1, 0, none⟩)

def begVF (N : Nat) (A : Nat → GAct) (F nI n : Nat) (P : Nat → GP) (u1 u2 : Nat → Value) (I : Nat → GInst) (D : GCommand) (a : GAct) : VW := [oA N A, oP F nI (hv n) D, oI nI I, oL n P u1 u2, oAct a]
def begVT (N : Nat) (A : Nat → GAct) (F nI : Nat) (I : Nat → GInst) (D : GCommand) (a : GAct) : VW := [oA N A, oP F nI nilS D, oI nI I, .dead, oAct a]
def newP (b : GStamp) (n : Nat) : GP := ⟨b, [], st0, ownC b (n + 1), false, []⟩
def rawNewF (n : Nat) (P : Nat → GP) (u1 u2 : Nat → Value) (b : GStamp) : VObj := .raw 91 16 (n + 1) 0 (joinF n (fun r => gpc (P r) (u1 r) (u2 r)) fun _ => []) [(n + 0, gpc (newP b n) nilS nilS)]
def rawNewT (b : GStamp) : VObj := .raw 91 16 1 0 (fun _ => []) [(0, gpc (newP b 0) nilS nilS)]
def begun (P : Nat → GP) (n : Nat) (b : GStamp) : Bool := one_ b && !usedIn P b n

/-! ### The loop -/
def begTm (i : Int) : List Value := [pp, unk, unk, .pointer (some ⟨5, 0, none⟩), .int .i64 i] ++ List.replicate 44 unk
def bg6 (N : Nat) (A : Nat → GAct) (F nI n : Nat) (P : Nat → GP) (u1 u2 : Nat → Value) (I : Nat → GInst) (D : GCommand) (a : GAct) (b : GStamp) : VW := [oA N A, oP F nI (hv n) D, oI nI I, oL n P u1 u2, oAct a, .cells 26 b.c]
structure BgAt (P : Nat → GP) (b : GStamp) (n k : Nat) (j : Int) : Prop where
  ex : ∃ j' : Nat, j = j' ∧ j' + k = n ∧ usedIn P b j' = false
def begJ (N : Nat) (A : Nat → GAct) (F nI n : Nat) (P : Nat → GP) (u1 u2 : Nat → Value) (I : Nat → GInst) (D : GCommand) (a : GAct) (b : GStamp) (k : Nat) (S : VSt) : Prop :=
  match nth undef S.tmps 4 with
  | .int .i64 j => leT (begTm j) S.tmps ∧ QSt ⟨[], S.V⟩ ⟨[], bg6 N A F nI n P u1 u2 I D a b⟩ ∧ BgAt P b n k j
  | _ => False
def begE : List Value := [pp, unk, unk, .pointer (some ⟨5, 0, none⟩)] ++ List.replicate 45 unk
def begK (N : Nat) (A : Nat → GAct) (F nI n : Nat) (P : Nat → GP) (u1 u2 : Nat → Value) (I : Nat → GInst) (D : GCommand) (a : GAct) (b : GStamp) (e : Exit) (S : VSt) : Prop :=
  match e with
  | .normal => Is (usedIn P b n = false) ∧ QSt S ⟨begE, bg6 N A F nI n P u1 u2 I D a b⟩
  | .ret => Is (usedIn P b n = true) ∧ QSt S ⟨List.replicate 49 unk, bg6 N A F nI n P u1 u2 I D a b⟩
  | _ => False
def begKs (e : Exit) : List Nat := match e with | .normal => [0, 3, 4] | .exit _ => [0, 3] | _ => []
def keep6 (_ : Exit) (_ : VSt) : List Sel := [.keep 0, .keep 1, .keep 2, .keep 3, .keep 4, .keep 5]

theorem used_true {P : Nat → GP} {b : GStamp} {j : Nat} (h : stampEq (P j).B b = true) : ∀ {n : Nat}, j < n → usedIn P b n = true
  | 0, hj => absurd hj (Nat.not_lt_zero j)
  | n + 1, hj => by
    simp only [usedIn, Bool.or_eq_true]
    by_cases hjn : j = n
    · subst hjn; exact .inr h
    · exact .inl (used_true h (by omega))

theorem beg_round (N : Nat) (A : Nat → GAct) (F nI n : Nat) (P : Nat → GP) (u1 u2 : Nat → Value) (I : Nat → GInst) (D : GCommand) (a : GAct) (b : GStamp) (hn : n ≤ 1000) (k j : Nat) (hj : j + k = n) (hno : usedIn P b j = false) :
    Does Try.prog (roundOf Try.f27 0) ⟨begTm j, bg6 N A F nI n P u1 u2 I D a b⟩ fun e S' => reshape 6 (keep6 e S') (begKs e) [] [] S' (Go.X.roundR 0 (begJ N A F nI n P u1 u2 I D a b) k (begK N A F nI n P u1 u2 I D a b) e) := by
  refine of_code (ctxG_ok (l := []) (cs := []) (bs := []) .nil .nil) (n := 200) .g ?_
  refine by_nf (B := bsplit (decide ((↑j : Int) < (↑n : Int))) (((0 : Int) ≤ (↑j : Int) ∧
    (↑j : Int) + (1 : Int) ≤ (↑n : Int)) ∧
    ((0 : Nat) + (↑j : Int).toNat).succ ≤ n ∧
    bsplit ((P ((0 : Nat) + (↑j : Int).toNat)).B.N == b.N && ((P ((0 : Nat) + (↑j : Int).toNat)).B.Client == b.Client && true)) (Is (usedIn P b n = true) ∧
    QSt { tmps := [unk, unk, unk, unk, unk, unk, unk, unk, unk, unk, unk, unk, unk, unk, unk, unk, unk, unk, unk, unk, unk, unk, unk, unk, unk, unk, unk, unk, unk, unk, unk, unk, unk, unk, unk, unk, unk, unk, unk, unk, unk, unk, unk, unk, unk, unk, unk, unk, unk], V := [VObj.arg (73 : TypeId) (6 : Nat) N fun i => (A i).c, VObj.cells (71 : TypeId) [Value.int IntKind.i64 (↑F : Int), Value.slice (some { block := (2 : Nat), off := { block := (2 : Nat), off := (0 : Nat), spot := some (0 : Nat) : Addr }.off, spot := some (0 : Nat) : Addr }) nI nI, Value.slice (some { block := (3 : Nat), off := { block := (3 : Nat), off := (1 : Nat), spot := some (0 : Nat) : Addr }.off, spot := some (0 : Nat) : Addr }) n (0 : Nat), Value.int IntKind.i64 D.Kind, Value.int IntKind.i64 D.Client, Value.int IntKind.i64 D.Op, Value.string D.Name, Value.int IntKind.i64 D.File.Client, Value.int IntKind.i64 D.File.Op, Value.int IntKind.i64 D.New.Client, Value.int IntKind.i64 D.New.Op, Value.int IntKind.i64 D.Size], VObj.rows true (32 : TypeId) (14 : Nat) nI nI fun r => (I r).c, VObj.raw (91 : TypeId) (16 : Nat) n (0 : Nat) (fun r => gpc (P r) (u1 r) (u2 r)) [], VObj.cells (73 : TypeId) [Value.int IntKind.i64 a.Kind, Value.int IntKind.i64 a.P, Value.int IntKind.i64 a.S, Value.int IntKind.i64 a.Ballot.N, Value.int IntKind.i64 a.Ballot.Client, Value.bool a.Lost], VObj.cells (26 : TypeId) [Value.int IntKind.i64 b.N, Value.int IntKind.i64 b.Client]] : VSt } { tmps := [unk, unk, unk, unk, unk, unk, unk, unk, unk, unk, unk, unk, unk, unk, unk, unk, unk, unk, unk, unk, unk, unk, unk, unk, unk, unk, unk, unk, unk, unk, unk, unk, unk, unk, unk, unk, unk, unk, unk, unk, unk, unk, unk, unk, unk, unk, unk, unk, unk], V := bg6 N A F nI n P u1 u2 I D a b : VSt }) ((k = (0 : Nat) → False) ∧
    (pp = Value.pointer (some { block := (1 : Nat), off := { block := (1 : Nat), off := (0 : Nat) : Addr }.off : Addr }) ∧
    Value.pointer (some { block := (5 : Nat), off := (0 : Nat) : Addr }) = Value.pointer (some { block := (5 : Nat), off := { block := (5 : Nat), off := (0 : Nat) : Addr }.off : Addr }) ∧
    Value.int IntKind.i64 (IntKind.i64.wrap ((↑j : Int) + (1 : Int))) = Value.int IntKind.i64 (IntKind.i64.wrap ((↑j : Int) + (1 : Int))) ∧
    True) ∧
    QSt { tmps := [], V := [VObj.arg (73 : TypeId) (6 : Nat) N fun i => (A i).c, VObj.cells (71 : TypeId) [Value.int IntKind.i64 (↑F : Int), Value.slice (some { block := (2 : Nat), off := { block := (2 : Nat), off := (0 : Nat), spot := some (0 : Nat) : Addr }.off, spot := some (0 : Nat) : Addr }) nI nI, Value.slice (some { block := (3 : Nat), off := { block := (3 : Nat), off := (1 : Nat), spot := some (0 : Nat) : Addr }.off, spot := some (0 : Nat) : Addr }) n (0 : Nat), Value.int IntKind.i64 D.Kind, Value.int IntKind.i64 D.Client, Value.int IntKind.i64 D.Op, Value.string D.Name, Value.int IntKind.i64 D.File.Client, Value.int IntKind.i64 D.File.Op, Value.int IntKind.i64 D.New.Client, Value.int IntKind.i64 D.New.Op, Value.int IntKind.i64 D.Size], VObj.rows true (32 : TypeId) (14 : Nat) nI nI fun r => (I r).c, VObj.raw (91 : TypeId) (16 : Nat) n (0 : Nat) (fun r => gpc (P r) (u1 r) (u2 r)) [], VObj.cells (73 : TypeId) [Value.int IntKind.i64 a.Kind, Value.int IntKind.i64 a.P, Value.int IntKind.i64 a.S, Value.int IntKind.i64 a.Ballot.N, Value.int IntKind.i64 a.Ballot.Client, Value.bool a.Lost], VObj.cells (26 : TypeId) [Value.int IntKind.i64 b.N, Value.int IntKind.i64 b.Client]] : VSt } { tmps := [], V := bg6 N A F nI n P u1 u2 I D a b : VSt } ∧
    BgAt P b n (k - (1 : Nat)) (IntKind.i64.wrap ((↑j : Int) + (1 : Int))))) (Is (usedIn P b n = false) ∧
    QSt { tmps := [Value.pointer (some { block := (1 : Nat), off := { block := (1 : Nat), off := (0 : Nat) : Addr }.off : Addr }), unk, unk, Value.pointer (some { block := (5 : Nat), off := { block := (5 : Nat), off := (0 : Nat) : Addr }.off : Addr }), unk, unk, unk, unk, unk, unk, unk, unk, unk, unk, unk, unk, unk, unk, unk, unk, unk, unk, unk, unk, unk, unk, unk, unk, unk, unk, unk, unk, unk, unk, unk, unk, unk, unk, unk, unk, unk, unk, unk, unk, unk, unk, unk, unk, unk], V := [VObj.arg (73 : TypeId) (6 : Nat) N fun i => (A i).c, VObj.cells (71 : TypeId) [Value.int IntKind.i64 (↑F : Int), Value.slice (some { block := (2 : Nat), off := { block := (2 : Nat), off := (0 : Nat), spot := some (0 : Nat) : Addr }.off, spot := some (0 : Nat) : Addr }) nI nI, Value.slice (some { block := (3 : Nat), off := { block := (3 : Nat), off := (1 : Nat), spot := some (0 : Nat) : Addr }.off, spot := some (0 : Nat) : Addr }) n (0 : Nat), Value.int IntKind.i64 D.Kind, Value.int IntKind.i64 D.Client, Value.int IntKind.i64 D.Op, Value.string D.Name, Value.int IntKind.i64 D.File.Client, Value.int IntKind.i64 D.File.Op, Value.int IntKind.i64 D.New.Client, Value.int IntKind.i64 D.New.Op, Value.int IntKind.i64 D.Size], VObj.rows true (32 : TypeId) (14 : Nat) nI nI fun r => (I r).c, VObj.raw (91 : TypeId) (16 : Nat) n (0 : Nat) (fun r => gpc (P r) (u1 r) (u2 r)) [], VObj.cells (73 : TypeId) [Value.int IntKind.i64 a.Kind, Value.int IntKind.i64 a.P, Value.int IntKind.i64 a.S, Value.int IntKind.i64 a.Ballot.N, Value.int IntKind.i64 a.Ballot.Client, Value.bool a.Lost], VObj.cells (26 : TypeId) [Value.int IntKind.i64 b.N, Value.int IntKind.i64 b.Client]] : VSt } { tmps := begE, V := bg6 N A F nI n P u1 u2 I D a b : VSt })) (by kernel_rfl) ?_
  have e0 : (0 : Nat) + (j : Int).toNat = j := by omega
  refine bsplit_iff.2 ⟨fun hlt => ?_, fun hge => ?_⟩
  · have hlt : j < n := by simpa using hlt
    have hw : IntKind.i64.wrap ((j : Int) + 1) = ((j + 1 : Nat) : Int) := by rw [w64 _ (by omega)]; rfl
    rw [hw, e0]
    refine ⟨⟨by omega, by omega⟩, by omega, bsplit_iff.2 ⟨fun h => ?_, fun h => ?_⟩⟩
    · rw [Bool.and_true] at h
      exact ⟨⟨used_true h hlt⟩, ⟨rfl⟩⟩
    · rw [Bool.and_true] at h
      refine ⟨by omega, ⟨rfl, rfl, rfl, trivial⟩, ⟨rfl⟩, ⟨j + 1, rfl, by omega, ?_⟩⟩
      simp only [usedIn, Bool.or_eq_false_iff]
      exact ⟨hno, h⟩
  · have hge : ¬ j < n := by simpa using hge
    obtain rfl : j = n := by omega
    exact ⟨⟨hno⟩, ⟨rfl⟩⟩

theorem begJ_eq {N : Nat} {A : Nat → GAct} {F nI n : Nat} {P : Nat → GP} {u1 u2 : Nat → Value} {I : Nat → GInst} {D : GCommand} {a : GAct} {b : GStamp} {k : Nat} {S : VSt} (hJ : begJ N A F nI n P u1 u2 I D a b k S) :
    ∃ j : Nat, leT (begTm j) S.tmps ∧ S.V = bg6 N A F nI n P u1 u2 I D a b ∧ j + k = n ∧ usedIn P b j = false := by
  unfold begJ at hJ
  split at hJ
  · obtain ⟨h1, ⟨h2⟩, ⟨j, rfl, h3, h4⟩⟩ := hJ
    exact ⟨j, h1, (VSt.mk.inj h2).2, h3, h4⟩
  · exact hJ.elim

theorem plain_sc {n : Nat} {l : List Value} (h : l.all (scB n 6) = true) : ∀ v ∈ l, Sc n v := fun v hv => scB_ok 6 v (List.all_eq_true.1 h v hv)
theorem bg6_sc (N : Nat) (A : Nat → GAct) (F nI n : Nat) (P : Nat → GP) (u1 u2 : Nat → Value) (I : Nat → GInst) (D : GCommand) (a : GAct) (b : GStamp) (i : Nat) (o : VObj) (hi : (bg6 N A F nI n P u1 u2 I D a b)[i]? = some o) : ScO (bg6 N A F nI n P u1 u2 I D a b).length o := by
  match i, hi with
  | 0, hi => cases hi; trivial
  | 1, hi => cases hi; exact plain_sc (by kernel_rfl)
  | 2, hi =>
    cases hi
    intro r hr v hv
    have h1 : (I r).c.all (scB 0 6) = true := by kernel_rfl
    have h2 : (I r).c.all cellC = true := by kernel_rfl
    exact ⟨scB_ok 6 v (List.all_eq_true.1 h1 v hv), List.all_eq_true.1 h2 v hv⟩
  | 3, hi => cases hi; exact fun h hh => absurd hh List.not_mem_nil
  | 4, hi => cases hi; exact plain_sc (by kernel_rfl)
  | 5, hi => cases hi; exact plain_sc (by kernel_rfl)

def begB (N : Nat) (A : Nat → GAct) (F nI n : Nat) (P : Nat → GP) (u1 u2 : Nat → Value) (I : Nat → GInst) (D : GCommand) (a : GAct) (b : GStamp) : BlkS := fun S K =>
  reshape S.V.length (keep6 .normal S) [0, 3, 4] [] [] S (begJ N A F nI n P u1 u2 I D a b n) ∧ S.V.length = 6 ∧ (usedIn P b n = false → K .normal ⟨begE, bg6 N A F nI n P u1 u2 I D a b⟩) ∧ (usedIn P b n = true → K .ret ⟨List.replicate 49 unk, bg6 N A F nI n P u1 u2 I D a b⟩)
theorem beg_loop (N : Nat) (A : Nat → GAct) (F nI n : Nat) (P : Nat → GP) (u1 u2 : Nat → Value) (I : Nat → GInst) (D : GCommand) (a : GAct) (b : GStamp) (hn : n ≤ 1000) (S : VSt) (K : Exit → VSt → Prop) (hB : begB N A F nI n P u1 u2 I D a b S K) : Does Try.prog (.block 0 (.loop (roundOf Try.f27 0))) S K := by
  obtain ⟨h1, h2, h3, h4⟩ := hB
  refine Does.mono (Does.loopR (K := begK N A F nI n P u1 u2 I D a b) begKs keep6 [] [] (begJ N A F nI n P u1 u2 I D a b) S (reshape_mono (fun S hS => ⟨_, hS⟩) h1) fun k S' hJ => ?_) fun e S' hK => ?_
  · obtain ⟨j, ht, hV, hj, hno⟩ := begJ_eq hJ
    rw [h2]
    exact Does.weaken (S' := ⟨begTm j, bg6 N A F nI n P u1 u2 I D a b⟩) (beg_round N A F nI n P u1 u2 I D a b hn k j hj hno) ht hV.symm (.of rfl (bg6_sc N A F nI n P u1 u2 I D a b))
  · cases e with
    | normal => obtain ⟨⟨h⟩, ⟨rfl⟩⟩ := hK; exact h3 h
    | ret => obtain ⟨⟨h⟩, ⟨rfl⟩⟩ := hK; exact h4 h
    | _ => exact hK.elim

def noB : BlkS := fun _ _ => False
def blk1 (fn : Func) : Code := match blkAt 1 (bodyOf fn) with | some c => c | none => .skip
/-! ### The contract -/
def uno : Value := .tuple ⟨[]⟩
def begOutF (N : Nat) (A : Nat → GAct) (F nI n : Nat) (P : Nat → GP) (u1 u2 : Nat → Value) (I : Nat → GInst) (D : GCommand) (a : GAct) (b : GStamp) : VW := [oA N A, oP F nI (h5 (n + 1)) D, oI nI I, .dead, oAct a, rawNewF n P u1 u2 b]
def begOutT (N : Nat) (A : Nat → GAct) (F nI : Nat) (I : Nat → GInst) (D : GCommand) (a : GAct) (b : GStamp) : VW := [oA N A, oP F nI (h5 1) D, oI nI I, .dead, oAct a, rawNewT b]
/-- what comes of it -/
def begLeaf (y : Bool) (V0 V1 : VW) (v : Value) (V : VW) : Prop := bsplit y (QSt ⟨[v], V⟩ ⟨[uno], V1⟩) (QSt ⟨[v], V⟩ ⟨[uno], V0⟩)
def begSel (_ : Value) (V : VW) : List Sel := match V with | [_, _, _, _, _, _] => [.keep 0, .keep 1, .keep 2, .keep 3, .keep 4] | _ => [.keep 0, .keep 1, .keep 2, .keep 3, .keep 4, .keep 8]
def one1' (K : Value → VW → Prop) (S : VSt) : Prop := match S.tmps with | [v] => K v S.V | _ => False

theorem beg_F (N : Nat) (A : Nat → GAct) (F nI n : Nat) (P : Nat → GP) (u1 u2 : Nat → Value) (I : Nat → GInst) (D : GCommand) (a : GAct) (b : GStamp) (hn : n ≤ 1000) :
    CallDoes Try.prog 27 [pp, .agg ⟨b.c⟩] (begVF N A F nI n P u1 u2 I D a) fun v V' => reshape 5 (begSel v V') [0] [] [] ⟨[v], V'⟩ (one1 (begLeaf (begun P n b) (begVF N A F nI n P u1 u2 I D a) (begOutF N A F nI n P u1 u2 I D a b))) := by
  refine of_run (ctxG_ok (l := [(14, oneG)]) (cs := []) (bs := [(0, begB N A F nI n P u1 u2 I D a b)]) (.cons one_ok .nil) .nil) (n := 200) Try.func27 rfl (.one rfl rfl (beg_loop N A F nI n P u1 u2 I D a b hn)) ?_
  refine by_nf (B := bsplit (!one_ b)
    (bsplit (begun P n b) (QSt { tmps := [Value.tuple { toList := [] : Array Value }], V := [VObj.arg (73 : TypeId) (6 : Nat) N fun i => (A i).c, VObj.cells (71 : TypeId) [Value.int IntKind.i64 (↑F : Int), Value.slice (some { block := (2 : Nat), off := { block := (2 : Nat), off := (0 : Nat), spot := some (0 : Nat) : Addr }.off, spot := some (0 : Nat) : Addr }) nI nI, Value.slice (some { block := (3 : Nat), off := { block := (3 : Nat), off := (1 : Nat), spot := some (0 : Nat) : Addr }.off, spot := some (0 : Nat) : Addr }) n (0 : Nat), Value.int IntKind.i64 D.Kind, Value.int IntKind.i64 D.Client, Value.int IntKind.i64 D.Op, Value.string D.Name, Value.int IntKind.i64 D.File.Client, Value.int IntKind.i64 D.File.Op, Value.int IntKind.i64 D.New.Client, Value.int IntKind.i64 D.New.Op, Value.int IntKind.i64 D.Size], VObj.rows true (32 : TypeId) (14 : Nat) nI nI fun r => (I r).c, VObj.raw (91 : TypeId) (16 : Nat) n (0 : Nat) (fun r => gpc (P r) (u1 r) (u2 r)) [], VObj.cells (73 : TypeId) [Value.int IntKind.i64 a.Kind, Value.int IntKind.i64 a.P, Value.int IntKind.i64 a.S, Value.int IntKind.i64 a.Ballot.N, Value.int IntKind.i64 a.Ballot.Client, Value.bool a.Lost]] : VSt } { tmps := [uno], V := begOutF N A F nI n P u1 u2 I D a b : VSt }) (QSt { tmps := [Value.tuple { toList := [] : Array Value }], V := [VObj.arg (73 : TypeId) (6 : Nat) N fun i => (A i).c, VObj.cells (71 : TypeId) [Value.int IntKind.i64 (↑F : Int), Value.slice (some { block := (2 : Nat), off := { block := (2 : Nat), off := (0 : Nat), spot := some (0 : Nat) : Addr }.off, spot := some (0 : Nat) : Addr }) nI nI, Value.slice (some { block := (3 : Nat), off := { block := (3 : Nat), off := (1 : Nat), spot := some (0 : Nat) : Addr }.off, spot := some (0 : Nat) : Addr }) n (0 : Nat), Value.int IntKind.i64 D.Kind, Value.int IntKind.i64 D.Client, Value.int IntKind.i64 D.Op, Value.string D.Name, Value.int IntKind.i64 D.File.Client, Value.int IntKind.i64 D.File.Op, Value.int IntKind.i64 D.New.Client, Value.int IntKind.i64 D.New.Op, Value.int IntKind.i64 D.Size], VObj.rows true (32 : TypeId) (14 : Nat) nI nI fun r => (I r).c, VObj.raw (91 : TypeId) (16 : Nat) n (0 : Nat) (fun r => gpc (P r) (u1 r) (u2 r)) [], VObj.cells (73 : TypeId) [Value.int IntKind.i64 a.Kind, Value.int IntKind.i64 a.P, Value.int IntKind.i64 a.S, Value.int IntKind.i64 a.Ballot.N, Value.int IntKind.i64 a.Ballot.Client, Value.bool a.Lost]] : VSt } { tmps := [uno], V := begVF N A F nI n P u1 u2 I D a : VSt })) (((pp = Value.pointer (some { block := (1 : Nat), off := { block := (1 : Nat), off := (0 : Nat) : Addr }.off : Addr }) ∧
    Value.pointer (some { block := (5 : Nat), off := (0 : Nat) : Addr }) = Value.pointer (some { block := (5 : Nat), off := { block := (5 : Nat), off := (0 : Nat) : Addr }.off : Addr }) ∧
    Value.int IntKind.i64 (0 : Int) = Value.int IntKind.i64 (0 : Int) ∧
    True) ∧
    QSt { tmps := [], V := [VObj.arg (73 : TypeId) (6 : Nat) N fun i => (A i).c, VObj.cells (71 : TypeId) [Value.int IntKind.i64 (↑F : Int), Value.slice (some { block := (2 : Nat), off := { block := (2 : Nat), off := (0 : Nat), spot := some (0 : Nat) : Addr }.off, spot := some (0 : Nat) : Addr }) nI nI, Value.slice (some { block := (3 : Nat), off := { block := (3 : Nat), off := (1 : Nat), spot := some (0 : Nat) : Addr }.off, spot := some (0 : Nat) : Addr }) n (0 : Nat), Value.int IntKind.i64 D.Kind, Value.int IntKind.i64 D.Client, Value.int IntKind.i64 D.Op, Value.string D.Name, Value.int IntKind.i64 D.File.Client, Value.int IntKind.i64 D.File.Op, Value.int IntKind.i64 D.New.Client, Value.int IntKind.i64 D.New.Op, Value.int IntKind.i64 D.Size], VObj.rows true (32 : TypeId) (14 : Nat) nI nI fun r => (I r).c, VObj.raw (91 : TypeId) (16 : Nat) n (0 : Nat) (fun r => gpc (P r) (u1 r) (u2 r)) [], VObj.cells (73 : TypeId) [Value.int IntKind.i64 a.Kind, Value.int IntKind.i64 a.P, Value.int IntKind.i64 a.S, Value.int IntKind.i64 a.Ballot.N, Value.int IntKind.i64 a.Ballot.Client, Value.bool a.Lost], VObj.cells (26 : Nat) [Value.int IntKind.i64 b.N, Value.int IntKind.i64 b.Client]] : VSt } { tmps := [], V := bg6 N A F nI n P u1 u2 I D a b : VSt } ∧
    BgAt P b n n (0 : Int)) ∧
    (6 : Nat) = (6 : Nat) ∧
    (usedIn P b n = false → ((1 : Nat) = (1 : Nat) ∧
    n = n ∧
    True ∧
    fitsN (n + (1 : Nat)) (168 : Nat)) ∧
    bsplit (begun P n b) (QSt { tmps := [Value.tuple { toList := [] : Array Value }], V := [VObj.arg (73 : TypeId) (6 : Nat) N fun i => (A i).c, VObj.cells (71 : TypeId) [Value.int IntKind.i64 (↑F : Int), Value.slice (some { block := (2 : Nat), off := { block := (2 : Nat), off := (0 : Nat), spot := some (0 : Nat) : Addr }.off, spot := some (0 : Nat) : Addr }) nI nI, Value.slice (some { block := (5 : Nat), off := { block := (8 : Nat), off := (1 : Nat), spot := some (0 : Nat) : Addr }.off, spot := some (0 : Nat) : Addr }) (n + (1 : Nat)) (0 : Nat), Value.int IntKind.i64 D.Kind, Value.int IntKind.i64 D.Client, Value.int IntKind.i64 D.Op, Value.string D.Name, Value.int IntKind.i64 D.File.Client, Value.int IntKind.i64 D.File.Op, Value.int IntKind.i64 D.New.Client, Value.int IntKind.i64 D.New.Op, Value.int IntKind.i64 D.Size], VObj.rows true (32 : TypeId) (14 : Nat) nI nI fun r => (I r).c, VObj.dead, VObj.cells (73 : TypeId) [Value.int IntKind.i64 a.Kind, Value.int IntKind.i64 a.P, Value.int IntKind.i64 a.S, Value.int IntKind.i64 a.Ballot.N, Value.int IntKind.i64 a.Ballot.Client, Value.bool a.Lost], VObj.raw (91 : Nat) (16 : Nat) (n + (1 : Nat)) (0 : Nat) (joinF n (fun r => gpc (P r) (u1 r) (u2 r)) fun x => []) [(n + (0 : Nat), [Value.int IntKind.i64 b.N, Value.int IntKind.i64 b.Client, Value.slice none (0 : Nat) (0 : Nat), Value.int IntKind.i64 (0 : Int), Value.int IntKind.i64 (0 : Int), Value.int IntKind.i64 (4 : Int), Value.int IntKind.i64 b.Client, Value.int IntKind.i64 (IntKind.i64.wrap ((↑n : Int) + (1 : Int))), Value.string { data := #[] : ByteArray }, Value.int IntKind.i64 (0 : Int), Value.int IntKind.i64 (0 : Int), Value.int IntKind.i64 (0 : Int), Value.int IntKind.i64 (0 : Int), Value.int IntKind.i64 (0 : Int), Value.bool false, Value.slice none (0 : Nat) (0 : Nat)])]] : VSt } { tmps := [uno], V := begOutF N A F nI n P u1 u2 I D a b : VSt }) (QSt { tmps := [Value.tuple { toList := [] : Array Value }], V := [VObj.arg (73 : TypeId) (6 : Nat) N fun i => (A i).c, VObj.cells (71 : TypeId) [Value.int IntKind.i64 (↑F : Int), Value.slice (some { block := (2 : Nat), off := { block := (2 : Nat), off := (0 : Nat), spot := some (0 : Nat) : Addr }.off, spot := some (0 : Nat) : Addr }) nI nI, Value.slice (some { block := (5 : Nat), off := { block := (8 : Nat), off := (1 : Nat), spot := some (0 : Nat) : Addr }.off, spot := some (0 : Nat) : Addr }) (n + (1 : Nat)) (0 : Nat), Value.int IntKind.i64 D.Kind, Value.int IntKind.i64 D.Client, Value.int IntKind.i64 D.Op, Value.string D.Name, Value.int IntKind.i64 D.File.Client, Value.int IntKind.i64 D.File.Op, Value.int IntKind.i64 D.New.Client, Value.int IntKind.i64 D.New.Op, Value.int IntKind.i64 D.Size], VObj.rows true (32 : TypeId) (14 : Nat) nI nI fun r => (I r).c, VObj.dead, VObj.cells (73 : TypeId) [Value.int IntKind.i64 a.Kind, Value.int IntKind.i64 a.P, Value.int IntKind.i64 a.S, Value.int IntKind.i64 a.Ballot.N, Value.int IntKind.i64 a.Ballot.Client, Value.bool a.Lost], VObj.raw (91 : Nat) (16 : Nat) (n + (1 : Nat)) (0 : Nat) (joinF n (fun r => gpc (P r) (u1 r) (u2 r)) fun x => []) [(n + (0 : Nat), [Value.int IntKind.i64 b.N, Value.int IntKind.i64 b.Client, Value.slice none (0 : Nat) (0 : Nat), Value.int IntKind.i64 (0 : Int), Value.int IntKind.i64 (0 : Int), Value.int IntKind.i64 (4 : Int), Value.int IntKind.i64 b.Client, Value.int IntKind.i64 (IntKind.i64.wrap ((↑n : Int) + (1 : Int))), Value.string { data := #[] : ByteArray }, Value.int IntKind.i64 (0 : Int), Value.int IntKind.i64 (0 : Int), Value.int IntKind.i64 (0 : Int), Value.int IntKind.i64 (0 : Int), Value.int IntKind.i64 (0 : Int), Value.bool false, Value.slice none (0 : Nat) (0 : Nat)])]] : VSt } { tmps := [uno], V := begVF N A F nI n P u1 u2 I D a : VSt })) ∧
    (usedIn P b n = true → bsplit (begun P n b) (QSt { tmps := [Value.tuple { toList := [] : Array Value }], V := [VObj.arg (73 : TypeId) (6 : Nat) N fun i => (A i).c, VObj.cells (71 : TypeId) [Value.int IntKind.i64 (↑F : Int), Value.slice (some { block := (2 : Nat), off := { block := (2 : Nat), off := (0 : Nat), spot := some (0 : Nat) : Addr }.off, spot := some (0 : Nat) : Addr }) nI nI, Value.slice (some { block := (3 : Nat), off := { block := (3 : Nat), off := (1 : Nat), spot := some (0 : Nat) : Addr }.off, spot := some (0 : Nat) : Addr }) n (0 : Nat), Value.int IntKind.i64 D.Kind, Value.int IntKind.i64 D.Client, Value.int IntKind.i64 D.Op, Value.string D.Name, Value.int IntKind.i64 D.File.Client, Value.int IntKind.i64 D.File.Op, Value.int IntKind.i64 D.New.Client, Value.int IntKind.i64 D.New.Op, Value.int IntKind.i64 D.Size], VObj.rows true (32 : TypeId) (14 : Nat) nI nI fun r => (I r).c, VObj.raw (91 : TypeId) (16 : Nat) n (0 : Nat) (fun r => gpc (P r) (u1 r) (u2 r)) [], VObj.cells (73 : TypeId) [Value.int IntKind.i64 a.Kind, Value.int IntKind.i64 a.P, Value.int IntKind.i64 a.S, Value.int IntKind.i64 a.Ballot.N, Value.int IntKind.i64 a.Ballot.Client, Value.bool a.Lost]] : VSt } { tmps := [uno], V := begOutF N A F nI n P u1 u2 I D a b : VSt }) (QSt { tmps := [Value.tuple { toList := [] : Array Value }], V := [VObj.arg (73 : TypeId) (6 : Nat) N fun i => (A i).c, VObj.cells (71 : TypeId) [Value.int IntKind.i64 (↑F : Int), Value.slice (some { block := (2 : Nat), off := { block := (2 : Nat), off := (0 : Nat), spot := some (0 : Nat) : Addr }.off, spot := some (0 : Nat) : Addr }) nI nI, Value.slice (some { block := (3 : Nat), off := { block := (3 : Nat), off := (1 : Nat), spot := some (0 : Nat) : Addr }.off, spot := some (0 : Nat) : Addr }) n (0 : Nat), Value.int IntKind.i64 D.Kind, Value.int IntKind.i64 D.Client, Value.int IntKind.i64 D.Op, Value.string D.Name, Value.int IntKind.i64 D.File.Client, Value.int IntKind.i64 D.File.Op, Value.int IntKind.i64 D.New.Client, Value.int IntKind.i64 D.New.Op, Value.int IntKind.i64 D.Size], VObj.rows true (32 : TypeId) (14 : Nat) nI nI fun r => (I r).c, VObj.raw (91 : TypeId) (16 : Nat) n (0 : Nat) (fun r => gpc (P r) (u1 r) (u2 r)) [], VObj.cells (73 : TypeId) [Value.int IntKind.i64 a.Kind, Value.int IntKind.i64 a.P, Value.int IntKind.i64 a.S, Value.int IntKind.i64 a.Ballot.N, Value.int IntKind.i64 a.Ballot.Client, Value.bool a.Lost]] : VSt } { tmps := [uno], V := begVF N A F nI n P u1 u2 I D a : VSt })))) (by kernel_rfl) ?_
  have hw : IntKind.i64.wrap ((n : Int) + 1) = (n : Int) + 1 := w64 _ (by omega)
  rw [hw]
  refine bsplit_iff.2 ⟨fun h => ?_, fun h => ⟨⟨⟨rfl, rfl, rfl, trivial⟩, ⟨rfl⟩, ⟨0, rfl, by omega, rfl⟩⟩, rfl, fun hu => ⟨⟨rfl, rfl, trivial, ⟨by omega, by omega⟩⟩, ?_⟩, fun hu => ?_⟩⟩
  · have hb : begun P n b = false := by unfold begun; rw [show one_ b = false by simpa using h]; rfl
    rw [hb]; exact bsplit_iff.2 ⟨(fun h => by cases h), fun _ => ⟨rfl⟩⟩
  · have hb : begun P n b = true := by unfold begun; rw [show one_ b = true by simpa using h, hu]; rfl
    rw [hb]; exact bsplit_iff.2 ⟨fun _ => ⟨rfl⟩, (fun h => by cases h)⟩
  · have hb : begun P n b = false := by unfold begun; rw [hu]; cases one_ b <;> rfl
    rw [hb]; exact bsplit_iff.2 ⟨(fun h => by cases h), fun _ => ⟨rfl⟩⟩
theorem beg_T (N : Nat) (A : Nat → GAct) (F nI : Nat) (P : Nat → GP) (I : Nat → GInst) (D : GCommand) (a : GAct) (b : GStamp) :
    CallDoes Try.prog 27 [pp, .agg ⟨b.c⟩] (begVT N A F nI I D a) fun v V' => reshape 5 (begSel v V') [0] [] [] ⟨[v], V'⟩ (one1 (begLeaf (begun P 0 b) (begVT N A F nI I D a) (begOutT N A F nI I D a b))) := by
  refine of_run (ctxG_ok (l := [(14, oneG)]) (cs := []) (bs := [(1, noB)]) (.cons one_ok .nil) .nil) (n := 200) Try.func27 rfl (.list (l := [(1, blk1 Try.f27)]) rfl fun x hx T hT S K hTS => by
    rw [List.mem_singleton] at hx; subst hx
    cases hT; exact hTS.elim) ?_
  refine by_nf (B := bsplit (!one_ b)
    (bsplit (begun P (0 : Nat) b) (QSt { tmps := [Value.tuple { toList := [] : Array Value }], V := [VObj.arg (73 : TypeId) (6 : Nat) N fun i => (A i).c, VObj.cells (71 : TypeId) [Value.int IntKind.i64 (↑F : Int), Value.slice (some { block := (2 : Nat), off := { block := (2 : Nat), off := (0 : Nat), spot := some (0 : Nat) : Addr }.off, spot := some (0 : Nat) : Addr }) nI nI, Value.slice none (0 : Nat) (0 : Nat), Value.int IntKind.i64 D.Kind, Value.int IntKind.i64 D.Client, Value.int IntKind.i64 D.Op, Value.string D.Name, Value.int IntKind.i64 D.File.Client, Value.int IntKind.i64 D.File.Op, Value.int IntKind.i64 D.New.Client, Value.int IntKind.i64 D.New.Op, Value.int IntKind.i64 D.Size], VObj.rows true (32 : TypeId) (14 : Nat) nI nI fun r => (I r).c, VObj.dead, VObj.cells (73 : TypeId) [Value.int IntKind.i64 a.Kind, Value.int IntKind.i64 a.P, Value.int IntKind.i64 a.S, Value.int IntKind.i64 a.Ballot.N, Value.int IntKind.i64 a.Ballot.Client, Value.bool a.Lost]] : VSt } { tmps := [uno], V := begOutT N A F nI I D a b : VSt }) (QSt { tmps := [Value.tuple { toList := [] : Array Value }], V := [VObj.arg (73 : TypeId) (6 : Nat) N fun i => (A i).c, VObj.cells (71 : TypeId) [Value.int IntKind.i64 (↑F : Int), Value.slice (some { block := (2 : Nat), off := { block := (2 : Nat), off := (0 : Nat), spot := some (0 : Nat) : Addr }.off, spot := some (0 : Nat) : Addr }) nI nI, Value.slice none (0 : Nat) (0 : Nat), Value.int IntKind.i64 D.Kind, Value.int IntKind.i64 D.Client, Value.int IntKind.i64 D.Op, Value.string D.Name, Value.int IntKind.i64 D.File.Client, Value.int IntKind.i64 D.File.Op, Value.int IntKind.i64 D.New.Client, Value.int IntKind.i64 D.New.Op, Value.int IntKind.i64 D.Size], VObj.rows true (32 : TypeId) (14 : Nat) nI nI fun r => (I r).c, VObj.dead, VObj.cells (73 : TypeId) [Value.int IntKind.i64 a.Kind, Value.int IntKind.i64 a.P, Value.int IntKind.i64 a.S, Value.int IntKind.i64 a.Ballot.N, Value.int IntKind.i64 a.Ballot.Client, Value.bool a.Lost]] : VSt } { tmps := [uno], V := begVT N A F nI I D a : VSt })) (((1 : Nat) = (1 : Nat) ∧
    Nat.succ (0 : Nat) ≤ (1 : Nat) ∧
    fitsN (1 : Nat) (168 : Nat)) ∧
    bsplit (begun P (0 : Nat) b) (QSt { tmps := [Value.tuple { toList := [] : Array Value }], V := [VObj.arg (73 : TypeId) (6 : Nat) N fun i => (A i).c, VObj.cells (71 : TypeId) [Value.int IntKind.i64 (↑F : Int), Value.slice (some { block := (2 : Nat), off := { block := (2 : Nat), off := (0 : Nat), spot := some (0 : Nat) : Addr }.off, spot := some (0 : Nat) : Addr }) nI nI, Value.slice (some { block := (5 : Nat), off := { block := (8 : Nat), off := (1 : Nat), spot := some (0 : Nat) : Addr }.off, spot := some (0 : Nat) : Addr }) (1 : Nat) (0 : Nat), Value.int IntKind.i64 D.Kind, Value.int IntKind.i64 D.Client, Value.int IntKind.i64 D.Op, Value.string D.Name, Value.int IntKind.i64 D.File.Client, Value.int IntKind.i64 D.File.Op, Value.int IntKind.i64 D.New.Client, Value.int IntKind.i64 D.New.Op, Value.int IntKind.i64 D.Size], VObj.rows true (32 : TypeId) (14 : Nat) nI nI fun r => (I r).c, VObj.dead, VObj.cells (73 : TypeId) [Value.int IntKind.i64 a.Kind, Value.int IntKind.i64 a.P, Value.int IntKind.i64 a.S, Value.int IntKind.i64 a.Ballot.N, Value.int IntKind.i64 a.Ballot.Client, Value.bool a.Lost], VObj.raw (91 : Nat) (16 : Nat) (1 : Nat) (0 : Nat) (fun x => []) [((0 : Nat), [Value.int IntKind.i64 b.N, Value.int IntKind.i64 b.Client, Value.slice none (0 : Nat) (0 : Nat), Value.int IntKind.i64 (0 : Int), Value.int IntKind.i64 (0 : Int), Value.int IntKind.i64 (4 : Int), Value.int IntKind.i64 b.Client, Value.int IntKind.i64 (IntKind.i64.wrap ((↑(0 : Nat) : Int) + (1 : Int))), Value.string { data := #[] : ByteArray }, Value.int IntKind.i64 (0 : Int), Value.int IntKind.i64 (0 : Int), Value.int IntKind.i64 (0 : Int), Value.int IntKind.i64 (0 : Int), Value.int IntKind.i64 (0 : Int), Value.bool false, Value.slice none (0 : Nat) (0 : Nat)])]] : VSt } { tmps := [uno], V := begOutT N A F nI I D a b : VSt }) (QSt { tmps := [Value.tuple { toList := [] : Array Value }], V := [VObj.arg (73 : TypeId) (6 : Nat) N fun i => (A i).c, VObj.cells (71 : TypeId) [Value.int IntKind.i64 (↑F : Int), Value.slice (some { block := (2 : Nat), off := { block := (2 : Nat), off := (0 : Nat), spot := some (0 : Nat) : Addr }.off, spot := some (0 : Nat) : Addr }) nI nI, Value.slice (some { block := (5 : Nat), off := { block := (8 : Nat), off := (1 : Nat), spot := some (0 : Nat) : Addr }.off, spot := some (0 : Nat) : Addr }) (1 : Nat) (0 : Nat), Value.int IntKind.i64 D.Kind, Value.int IntKind.i64 D.Client, Value.int IntKind.i64 D.Op, Value.string D.Name, Value.int IntKind.i64 D.File.Client, Value.int IntKind.i64 D.File.Op, Value.int IntKind.i64 D.New.Client, Value.int IntKind.i64 D.New.Op, Value.int IntKind.i64 D.Size], VObj.rows true (32 : TypeId) (14 : Nat) nI nI fun r => (I r).c, VObj.dead, VObj.cells (73 : TypeId) [Value.int IntKind.i64 a.Kind, Value.int IntKind.i64 a.P, Value.int IntKind.i64 a.S, Value.int IntKind.i64 a.Ballot.N, Value.int IntKind.i64 a.Ballot.Client, Value.bool a.Lost], VObj.raw (91 : Nat) (16 : Nat) (1 : Nat) (0 : Nat) (fun x => []) [((0 : Nat), [Value.int IntKind.i64 b.N, Value.int IntKind.i64 b.Client, Value.slice none (0 : Nat) (0 : Nat), Value.int IntKind.i64 (0 : Int), Value.int IntKind.i64 (0 : Int), Value.int IntKind.i64 (4 : Int), Value.int IntKind.i64 b.Client, Value.int IntKind.i64 (IntKind.i64.wrap ((↑(0 : Nat) : Int) + (1 : Int))), Value.string { data := #[] : ByteArray }, Value.int IntKind.i64 (0 : Int), Value.int IntKind.i64 (0 : Int), Value.int IntKind.i64 (0 : Int), Value.int IntKind.i64 (0 : Int), Value.int IntKind.i64 (0 : Int), Value.bool false, Value.slice none (0 : Nat) (0 : Nat)])]] : VSt } { tmps := [uno], V := begVT N A F nI I D a : VSt }))) (by kernel_rfl) ?_
  have hw : IntKind.i64.wrap ((0 : Int) + 1) = 1 := by decide
  refine bsplit_iff.2 ⟨fun h => ?_, fun h => ?_⟩
  · have hb : begun P 0 b = false := by unfold begun; rw [show one_ b = false by simpa using h]; rfl
    rw [hb]; exact bsplit_iff.2 ⟨(fun h => by cases h), fun _ => ⟨rfl⟩⟩
  · have hb : begun P 0 b = true := by unfold begun; rw [show one_ b = true by simpa using h]; rfl
    rw [hb]
    exact ⟨⟨rfl, by decide, ⟨by omega, by omega⟩⟩, bsplit_iff.2 ⟨fun _ => ⟨rfl⟩, (fun h => by cases h)⟩⟩

/-- the contract of begin -/
def begCF (N : Nat) (A : Nat → GAct) (F nI n : Nat) (P : Nat → GP) (u1 u2 : Nat → Value) (I : Nat → GInst) (D : GCommand) (a : GAct) (b : GStamp) : CallS := fun args V K =>
  QSt ⟨args, V⟩ ⟨[pp, .agg ⟨b.c⟩], begVF N A F nI n P u1 u2 I D a⟩ ∧ (begun P n b = true → K uno (begOutF N A F nI n P u1 u2 I D a b)) ∧ (begun P n b = false → K uno (begVF N A F nI n P u1 u2 I D a))
def begCT (N : Nat) (A : Nat → GAct) (F nI : Nat) (P : Nat → GP) (I : Nat → GInst) (D : GCommand) (a : GAct) (b : GStamp) : CallS := fun args V K =>
  QSt ⟨args, V⟩ ⟨[pp, .agg ⟨b.c⟩], begVT N A F nI I D a⟩ ∧ (begun P 0 b = true → K uno (begOutT N A F nI I D a b)) ∧ (begun P 0 b = false → K uno (begVT N A F nI I D a))
theorem begCF_ok (N : Nat) (A : Nat → GAct) (F nI n : Nat) (P : Nat → GP) (u1 u2 : Nat → Value) (I : Nat → GInst) (D : GCommand) (a : GAct) (b : GStamp) (hn : n ≤ 1000) : CallOK Try.prog 27 (begCF N A F nI n P u1 u2 I D a b) := by
  refine ⟨callable Try.func27 rfl (by decide +kernel), fun args V K hT => ?_⟩
  obtain ⟨⟨hq⟩, h1, h2⟩ := hT
  obtain ⟨rfl, rfl⟩ := VSt.mk.inj hq
  refine CallDoes.reshape begSel [] [] ?_
  intro env w hW hsc
  refine (beg_F N A F nI n P u1 u2 I D a b hn env w hW hsc).mono ?_
  rintro e w' ⟨u, env', V', v, rfl, hrv, hW', hF, hk⟩
  refine ⟨u, env', V', v, rfl, hrv, hW', hF, reshape_mono (fun S hS => ?_) hk⟩
  unfold one1 at hS ⊢
  split at hS
  · rename_i v hv
    rcases bsplit_spec hS with ⟨hb, ⟨hq⟩⟩ | ⟨hb, ⟨hq⟩⟩
    · obtain ⟨e1, e2⟩ := VSt.mk.inj hq
      simp only [List.cons.injEq, and_true] at e1
      subst e1
      rw [e2]; exact h1 hb
    · obtain ⟨e1, e2⟩ := VSt.mk.inj hq
      simp only [List.cons.injEq, and_true] at e1
      subst e1
      rw [e2]; exact h2 hb
  · exact hS.elim
theorem begCT_ok (N : Nat) (A : Nat → GAct) (F nI : Nat) (P : Nat → GP) (I : Nat → GInst) (D : GCommand) (a : GAct) (b : GStamp) : CallOK Try.prog 27 (begCT N A F nI P I D a b) := by
  refine ⟨callable Try.func27 rfl (by decide +kernel), fun args V K hT => ?_⟩
  obtain ⟨⟨hq⟩, h1, h2⟩ := hT
  obtain ⟨rfl, rfl⟩ := VSt.mk.inj hq
  refine CallDoes.reshape begSel [] [] ?_
  intro env w hW hsc
  refine (beg_T N A F nI P I D a b env w hW hsc).mono ?_
  rintro e w' ⟨u, env', V', v, rfl, hrv, hW', hF, hk⟩
  refine ⟨u, env', V', v, rfl, hrv, hW', hF, reshape_mono (fun S hS => ?_) hk⟩
  unfold one1 at hS ⊢
  split at hS
  · rename_i v hv
    rcases bsplit_spec hS with ⟨hb, ⟨hq⟩⟩ | ⟨hb, ⟨hq⟩⟩
    · obtain ⟨e1, e2⟩ := VSt.mk.inj hq
      simp only [List.cons.injEq, and_true] at e1
      subst e1
      rw [e2]; exact h1 hb
    · obtain ⟨e1, e2⟩ := VSt.mk.inj hq
      simp only [List.cons.injEq, and_true] at e1
      subst e1
      rw [e2]; exact h2 hb
  · exact hS.elim
end Go.Acc
