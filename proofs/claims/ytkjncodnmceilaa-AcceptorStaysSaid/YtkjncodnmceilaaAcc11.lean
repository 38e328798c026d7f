/- A part of a proof: what is proved here is said at each theorem; it holds without any condition but those that the theorem names. -/
import Derived.Test.YtkjncodnmceilaaAcc10
import Derived.Test.YtkjncodnmceilaaAcc6
import Derived.Test.YtkjncodnmceilaaAcc12
set_option linter.unusedSimpArgs false
set_option linter.unusedVariables false
namespace Go.Acc
open Go Go.X Go.Proofs

/-- AcceptorStays: its loop -/
def staysTm (n cap : Nat) (i : Int) : List Value := [unk, .slice (some ⟨0, 0, some 0⟩) n cap, .pointer (some ⟨1, 0, none⟩), unk, unk, .int .i64 i] ++ List.replicate 146 unk
def staysV (n cap : Nat) (st : Nat → GStep) (c : List Value) : VW := [stepsRows n cap st, .cells 32 c, wideO]
def staysS (n cap : Nat) (st : Nat → GStep) (i : Int) (x : GInst) : VSt := ⟨staysTm n cap i, staysV n cap st x.c⟩
structure StaysInv (n k : Nat) (i : Int) (c : List Value) : Prop where
  at_ : ∃ j : Nat, i = j ∧ j + k = n
  inst : ∃ x : GInst, c = x.c ∧ isInstance x wideCfg = true
def staysJ (n cap : Nat) (st : Nat → GStep) (k : Nat) (S : VSt) : Prop :=
  match nth undef S.tmps 5, S.V with
  | .int .i64 i, [o0, .cells t c, o2] => leT (staysTm n cap i) S.tmps ∧ (o0 = stepsRows n cap st ∧ o2 = wideO ∧ t = 32) ∧ StaysInv n k i c
  | _, _ => False
structure StaysEnd (n cap : Nat) (st : Nat → GStep) (S : VSt) : Prop where
  ex : ∃ i x, S = staysS n cap st i x
def staysK (n cap : Nat) (st : Nat → GStep) (e : Exit) (S : VSt) : Prop :=
  match e with
  | .normal => StaysEnd n cap st S
  | _ => False

theorem staysJ_eq {n cap k : Nat} {st : Nat → GStep} {S : VSt} (h : staysJ n cap st k S) :
    ∃ j x, j + k = n ∧ isInstance x wideCfg = true ∧ leT (staysTm n cap (j : Nat)) S.tmps ∧ S.V = staysV n cap st (GInst.c x) := by
  unfold staysJ at h
  split at h
  · rename_i i o0 t c o2 h1 h2
    obtain ⟨h3, ⟨rfl, rfl, rfl⟩, ⟨j, rfl, hj⟩, ⟨x, rfl, hx⟩⟩ := h
    exact ⟨j, x, hj, hx, h3, h2⟩
  · exact h.elim

theorem staysS_sc (n cap : Nat) (st : Nat → GStep) (i : Int) (x : GInst) : ScS (staysS n cap st i x) := by
  refine .of rfl fun k o h => ?_
  match k, h with
  | 0, h => cases h; exact fun r hr v hv => scB_ok 6 v (List.all_eq_true.1 (show (st r).c.all (scB 3 6) = true from rfl) v hv)
  | 1, h => cases h; exact fun v hv => scB_ok 6 v (List.all_eq_true.1 (show x.c.all (scB 3 6) = true from rfl) v hv)
  | 2, h =>
    cases h
    intro r hr v hv
    match r, hr with
    | 0, _ => exact scB_ok 6 v (List.all_eq_true.1 (show (nth [] [[Value.int .i64 1], [.int .i64 2], [.int .i64 3]] 0).all (scB 3 6) = true from rfl) v hv)
    | 1, _ => exact scB_ok 6 v (List.all_eq_true.1 (show (nth [] [[Value.int .i64 1], [.int .i64 2], [.int .i64 3]] 1).all (scB 3 6) = true from rfl) v hv)
    | 2, _ => exact scB_ok 6 v (List.all_eq_true.1 (show (nth [] [[Value.int .i64 1], [.int .i64 2], [.int .i64 3]] 2).all (scB 3 6) = true from rfl) v hv)

theorem stays_ctx : AllOK Try.prog [(13, wideG), (14, oneG), (15, isCommandG), (23, callG), (12, isInstanceG), (24, aboveG), (25, toldG)] :=
  .cons wide_ok (.cons one_ok (.cons isCommand_ok (.cons call_ok (.cons isInstance_ok (.cons above_ok (.cons told_ok .nil))))))

theorem instE (a b : GInst) : (a.Promised.N == b.Promised.N && a.Promised.Client == b.Promised.Client && (a.Accepted.N == b.Accepted.N && a.Accepted.Client == b.Accepted.Client &&
    (a.Command.Kind == b.Command.Kind && (a.Command.Client == b.Command.Client && (a.Command.Op == b.Command.Op && (a.Command.Name.data.toList == b.Command.Name.data.toList &&
    (a.Command.File.Client == b.Command.File.Client && a.Command.File.Op == b.Command.File.Op && (a.Command.New.Client == b.Command.New.Client && a.Command.New.Op == b.Command.New.Op && a.Command.Size == b.Command.Size))))) &&
    a.Decided == b.Decided))) = instEq a b := by simp [instEq, stampEq, cmdEq, fileEq, Bool.and_assoc]

theorem stays_loop (n cap : Nat) (st : Nat → GStep) (hn : n ≤ 9223372036854775807) : ∀ k S, staysJ n cap st k S → Does Try.prog (.block 0 (.loop (roundOf Try.f8 0))) S (staysK n cap st) := by
  refine Does.roundsC [1, 2, 5] (staysJ n cap st) fun k S hJ => ?_
  obtain ⟨j, x, hj, hx, ht, hV⟩ := staysJ_eq hJ
  refine Does.weaken (S' := staysS n cap st j x) ?_ ht hV.symm (staysS_sc ..)
  have hS : roundC 0 [1, 2, 5] (staysJ n cap st) k (staysK n cap st) S = roundC 0 [1, 2, 5] (staysJ n cap st) k (staysK n cap st) (staysS n cap st j x) := by
    have : S.V = (staysS n cap st j x).V := hV
    funext e S'
    simp only [roundC, okCut, this]
  rw [hS]
  refine of_code (ctxL_ok stays_ctx) (n := 200) .l ?_
  refine by_nf (B := bsplit (decide ((↑j : Int) < (↑n : Int))) (((0 : Int) ≤ (↑j : Int) ∧
    (↑j : Int) + (1 : Int) ≤ (↑n : Int)) ∧
    ((0 : Nat) + (↑j : Int).toNat).succ ≤ n ∧
    bsplit ((st ((0 : Nat) + (↑j : Int).toNat)).Kind != (3 : Int))
    (bsplit (!one_ (st ((0 : Nat) + (↑j : Int).toNat)).Ballot) (stepsRows n cap st = stepsRows n cap st ∧
    wideO = wideO ∧
    (k = (0 : Nat) → False) ∧
    (Value.slice (some { block := (0 : Nat), off := (0 : Nat), spot := some (0 : Nat) : Addr }) n cap = Value.slice (some { block := (0 : Nat), off := (0 : Nat), spot := some (0 : Nat) : Addr }) n cap ∧
    Value.pointer (some { block := (1 : Nat), off := (0 : Nat) : Addr }) = Value.pointer (some { block := (1 : Nat), off := (0 : Nat) : Addr }) ∧
    Value.int IntKind.i64 (IntKind.i64.wrap ((↑j : Int) + (1 : Int))) = Value.int IntKind.i64 (IntKind.i64.wrap ((↑j : Int) + (1 : Int))) ∧
    True) ∧
    (stepsRows n cap st = stepsRows n cap st ∧
    wideO = wideO ∧
    (32 : TypeId) = (32 : TypeId)) ∧
    StaysInv n (k - (1 : Nat)) (IntKind.i64.wrap ((↑j : Int) + (1 : Int))) x.c)
    (bsplit ((st ((0 : Nat) + (↑j : Int).toNat)).Kind != (1 : Int)) (True ∧
    bsplit (!isCommand (st ((0 : Nat) + (↑j : Int).toNat)).C { h := { len := wideCfg.h.len, cap := wideCfg.h.cap, t := (3 : TypeId), m := (1 : Nat) : Hd }, F := wideCfg.F, Points := wideCfg.Points, Buckets := wideCfg.Buckets, Block := wideCfg.Block, Room := wideCfg.Room : GCfg }) (stepsRows n cap st = stepsRows n cap st ∧
    wideO = wideO ∧
    (k = (0 : Nat) → False) ∧
    (Value.slice (some { block := (0 : Nat), off := (0 : Nat), spot := some (0 : Nat) : Addr }) n cap = Value.slice (some { block := (0 : Nat), off := (0 : Nat), spot := some (0 : Nat) : Addr }) n cap ∧
    Value.pointer (some { block := (1 : Nat), off := (0 : Nat) : Addr }) = Value.pointer (some { block := (1 : Nat), off := (0 : Nat) : Addr }) ∧
    Value.int IntKind.i64 (IntKind.i64.wrap ((↑j : Int) + (1 : Int))) = Value.int IntKind.i64 (IntKind.i64.wrap ((↑j : Int) + (1 : Int))) ∧
    True) ∧
    (stepsRows n cap st = stepsRows n cap st ∧
    wideO = wideO ∧
    (32 : TypeId) = (32 : TypeId)) ∧
    StaysInv n (k - (1 : Nat)) (IntKind.i64.wrap ((↑j : Int) + (1 : Int))) x.c)
    (bsplit (!((callR x (st ((0 : Nat) + (↑j : Int).toNat))).fst.Promised.N == (callR x (st ((0 : Nat) + (↑j : Int).toNat))).fst.Promised.N && ((callR x (st ((0 : Nat) + (↑j : Int).toNat))).fst.Promised.Client == (callR x (st ((0 : Nat) + (↑j : Int).toNat))).fst.Promised.Client && true) && ((callR x (st ((0 : Nat) + (↑j : Int).toNat))).fst.Accepted.N == (callR x (st ((0 : Nat) + (↑j : Int).toNat))).fst.Accepted.N && ((callR x (st ((0 : Nat) + (↑j : Int).toNat))).fst.Accepted.Client == (callR x (st ((0 : Nat) + (↑j : Int).toNat))).fst.Accepted.Client && true) && ((callR x (st ((0 : Nat) + (↑j : Int).toNat))).fst.Command.Kind == (callR x (st ((0 : Nat) + (↑j : Int).toNat))).fst.Command.Kind && ((callR x (st ((0 : Nat) + (↑j : Int).toNat))).fst.Command.Client == (callR x (st ((0 : Nat) + (↑j : Int).toNat))).fst.Command.Client && ((callR x (st ((0 : Nat) + (↑j : Int).toNat))).fst.Command.Op == (callR x (st ((0 : Nat) + (↑j : Int).toNat))).fst.Command.Op && ((callR x (st ((0 : Nat) + (↑j : Int).toNat))).fst.Command.Name.data.toList == (callR x (st ((0 : Nat) + (↑j : Int).toNat))).fst.Command.Name.data.toList && ((callR x (st ((0 : Nat) + (↑j : Int).toNat))).fst.Command.File.Client == (callR x (st ((0 : Nat) + (↑j : Int).toNat))).fst.Command.File.Client && ((callR x (st ((0 : Nat) + (↑j : Int).toNat))).fst.Command.File.Op == (callR x (st ((0 : Nat) + (↑j : Int).toNat))).fst.Command.File.Op && true) && ((callR x (st ((0 : Nat) + (↑j : Int).toNat))).fst.Command.New.Client == (callR x (st ((0 : Nat) + (↑j : Int).toNat))).fst.Command.New.Client && ((callR x (st ((0 : Nat) + (↑j : Int).toNat))).fst.Command.New.Op == (callR x (st ((0 : Nat) + (↑j : Int).toNat))).fst.Command.New.Op && true) && ((callR x (st ((0 : Nat) + (↑j : Int).toNat))).fst.Command.Size == (callR x (st ((0 : Nat) + (↑j : Int).toNat))).fst.Command.Size && true)))))) && ((callR x (st ((0 : Nat) + (↑j : Int).toNat))).fst.Decided == (callR x (st ((0 : Nat) + (↑j : Int).toNat))).fst.Decided && true))))) (stepsRows n cap st = stepsRows n cap st ∧
    wideO = wideO ∧
    False)
    (bsplit (!(callR x (st ((0 : Nat) + (↑j : Int).toNat))).snd.snd == (callR x (st ((0 : Nat) + (↑j : Int).toNat))).snd.snd) (stepsRows n cap st = stepsRows n cap st ∧
    wideO = wideO ∧
    False)
    (bsplit ((callR x (st ((0 : Nat) + (↑j : Int).toNat))).snd.fst.Kind != (callR x (st ((0 : Nat) + (↑j : Int).toNat))).snd.fst.Kind) (stepsRows n cap st = stepsRows n cap st ∧
    wideO = wideO ∧
    False)
    (bsplit (!((callR x (st ((0 : Nat) + (↑j : Int).toNat))).snd.fst.Stamp.N == (callR x (st ((0 : Nat) + (↑j : Int).toNat))).snd.fst.Stamp.N && ((callR x (st ((0 : Nat) + (↑j : Int).toNat))).snd.fst.Stamp.Client == (callR x (st ((0 : Nat) + (↑j : Int).toNat))).snd.fst.Stamp.Client && true))) (stepsRows n cap st = stepsRows n cap st ∧
    wideO = wideO ∧
    False)
    (bsplit (!((callR x (st ((0 : Nat) + (↑j : Int).toNat))).snd.fst.Held.N == (callR x (st ((0 : Nat) + (↑j : Int).toNat))).snd.fst.Held.N && ((callR x (st ((0 : Nat) + (↑j : Int).toNat))).snd.fst.Held.Client == (callR x (st ((0 : Nat) + (↑j : Int).toNat))).snd.fst.Held.Client && true))) (stepsRows n cap st = stepsRows n cap st ∧
    wideO = wideO ∧
    False)
    (bsplit (!((callR x (st ((0 : Nat) + (↑j : Int).toNat))).snd.fst.Command.Kind == (callR x (st ((0 : Nat) + (↑j : Int).toNat))).snd.fst.Command.Kind && ((callR x (st ((0 : Nat) + (↑j : Int).toNat))).snd.fst.Command.Client == (callR x (st ((0 : Nat) + (↑j : Int).toNat))).snd.fst.Command.Client && ((callR x (st ((0 : Nat) + (↑j : Int).toNat))).snd.fst.Command.Op == (callR x (st ((0 : Nat) + (↑j : Int).toNat))).snd.fst.Command.Op && ((callR x (st ((0 : Nat) + (↑j : Int).toNat))).snd.fst.Command.Name.data.toList == (callR x (st ((0 : Nat) + (↑j : Int).toNat))).snd.fst.Command.Name.data.toList && ((callR x (st ((0 : Nat) + (↑j : Int).toNat))).snd.fst.Command.File.Client == (callR x (st ((0 : Nat) + (↑j : Int).toNat))).snd.fst.Command.File.Client && ((callR x (st ((0 : Nat) + (↑j : Int).toNat))).snd.fst.Command.File.Op == (callR x (st ((0 : Nat) + (↑j : Int).toNat))).snd.fst.Command.File.Op && true) && ((callR x (st ((0 : Nat) + (↑j : Int).toNat))).snd.fst.Command.New.Client == (callR x (st ((0 : Nat) + (↑j : Int).toNat))).snd.fst.Command.New.Client && ((callR x (st ((0 : Nat) + (↑j : Int).toNat))).snd.fst.Command.New.Op == (callR x (st ((0 : Nat) + (↑j : Int).toNat))).snd.fst.Command.New.Op && true) && ((callR x (st ((0 : Nat) + (↑j : Int).toNat))).snd.fst.Command.Size == (callR x (st ((0 : Nat) + (↑j : Int).toNat))).snd.fst.Command.Size && true)))))))) (stepsRows n cap st = stepsRows n cap st ∧
    wideO = wideO ∧
    False) (True ∧
    bsplit (!isInstance (callR x (st ((0 : Nat) + (↑j : Int).toNat))).fst { h := { len := wideCfg.h.len, cap := wideCfg.h.cap, t := (3 : TypeId), m := (1 : Nat) : Hd }, F := wideCfg.F, Points := wideCfg.Points, Buckets := wideCfg.Buckets, Block := wideCfg.Block, Room := wideCfg.Room : GCfg }) (stepsRows n cap st = stepsRows n cap st ∧
    wideO = wideO ∧
    False)
    (bsplit (!(callR x (st ((0 : Nat) + (↑j : Int).toNat))).snd.snd == !((callR x (st ((0 : Nat) + (↑j : Int).toNat))).fst.Promised.N == x.Promised.N && ((callR x (st ((0 : Nat) + (↑j : Int).toNat))).fst.Promised.Client == x.Promised.Client && true) && ((callR x (st ((0 : Nat) + (↑j : Int).toNat))).fst.Accepted.N == x.Accepted.N && ((callR x (st ((0 : Nat) + (↑j : Int).toNat))).fst.Accepted.Client == x.Accepted.Client && true) && ((callR x (st ((0 : Nat) + (↑j : Int).toNat))).fst.Command.Kind == x.Command.Kind && ((callR x (st ((0 : Nat) + (↑j : Int).toNat))).fst.Command.Client == x.Command.Client && ((callR x (st ((0 : Nat) + (↑j : Int).toNat))).fst.Command.Op == x.Command.Op && ((callR x (st ((0 : Nat) + (↑j : Int).toNat))).fst.Command.Name.data.toList == x.Command.Name.data.toList && ((callR x (st ((0 : Nat) + (↑j : Int).toNat))).fst.Command.File.Client == x.Command.File.Client && ((callR x (st ((0 : Nat) + (↑j : Int).toNat))).fst.Command.File.Op == x.Command.File.Op && true) && ((callR x (st ((0 : Nat) + (↑j : Int).toNat))).fst.Command.New.Client == x.Command.New.Client && ((callR x (st ((0 : Nat) + (↑j : Int).toNat))).fst.Command.New.Op == x.Command.New.Op && true) && ((callR x (st ((0 : Nat) + (↑j : Int).toNat))).fst.Command.Size == x.Command.Size && true)))))) && ((callR x (st ((0 : Nat) + (↑j : Int).toNat))).fst.Decided == x.Decided && true))))) (stepsRows n cap st = stepsRows n cap st ∧
    wideO = wideO ∧
    False)
    (bsplit x.Decided
    (bsplit (callR x (st ((0 : Nat) + (↑j : Int).toNat))).snd.snd (stepsRows n cap st = stepsRows n cap st ∧
    wideO = wideO ∧
    False)
    (bsplit (!(callR x (st ((0 : Nat) + (↑j : Int).toNat))).fst.Decided)
    (bsplit (above x.Promised (callR x (st ((0 : Nat) + (↑j : Int).toNat))).fst.Promised) (stepsRows n cap st = stepsRows n cap st ∧
    wideO = wideO ∧
    False)
    (bsplit (above x.Accepted (callR x (st ((0 : Nat) + (↑j : Int).toNat))).fst.Accepted) (stepsRows n cap st = stepsRows n cap st ∧
    wideO = wideO ∧
    False)
    (bsplit ((st ((0 : Nat) + (↑j : Int).toNat)).Kind == (1 : Int))
    (bsplit (!told x (callR x (st ((0 : Nat) + (↑j : Int).toNat))).fst (callR x (st ((0 : Nat) + (↑j : Int).toNat))).snd.fst (st ((0 : Nat) + (↑j : Int).toNat))) (stepsRows n cap st = stepsRows n cap st ∧
    wideO = wideO ∧
    False) (stepsRows n cap st = stepsRows n cap st ∧
    wideO = wideO ∧
    (k = (0 : Nat) → False) ∧
    (Value.slice (some { block := (0 : Nat), off := (0 : Nat), spot := some (0 : Nat) : Addr }) n cap = Value.slice (some { block := (0 : Nat), off := (0 : Nat), spot := some (0 : Nat) : Addr }) n cap ∧
    Value.pointer (some { block := (1 : Nat), off := (0 : Nat) : Addr }) = Value.pointer (some { block := (1 : Nat), off := (0 : Nat) : Addr }) ∧
    Value.int IntKind.i64 (IntKind.i64.wrap ((↑j : Int) + (1 : Int))) = Value.int IntKind.i64 (IntKind.i64.wrap ((↑j : Int) + (1 : Int))) ∧
    True) ∧
    (stepsRows n cap st = stepsRows n cap st ∧
    wideO = wideO ∧
    (32 : TypeId) = (32 : TypeId)) ∧
    StaysInv n (k - (1 : Nat)) (IntKind.i64.wrap ((↑j : Int) + (1 : Int))) [Value.int IntKind.i64 (callR x (st ((0 : Nat) + (↑j : Int).toNat))).fst.Promised.N, Value.int IntKind.i64 (callR x (st ((0 : Nat) + (↑j : Int).toNat))).fst.Promised.Client, Value.int IntKind.i64 (callR x (st ((0 : Nat) + (↑j : Int).toNat))).fst.Accepted.N, Value.int IntKind.i64 (callR x (st ((0 : Nat) + (↑j : Int).toNat))).fst.Accepted.Client, Value.int IntKind.i64 (callR x (st ((0 : Nat) + (↑j : Int).toNat))).fst.Command.Kind, Value.int IntKind.i64 (callR x (st ((0 : Nat) + (↑j : Int).toNat))).fst.Command.Client, Value.int IntKind.i64 (callR x (st ((0 : Nat) + (↑j : Int).toNat))).fst.Command.Op, Value.string (callR x (st ((0 : Nat) + (↑j : Int).toNat))).fst.Command.Name, Value.int IntKind.i64 (callR x (st ((0 : Nat) + (↑j : Int).toNat))).fst.Command.File.Client, Value.int IntKind.i64 (callR x (st ((0 : Nat) + (↑j : Int).toNat))).fst.Command.File.Op, Value.int IntKind.i64 (callR x (st ((0 : Nat) + (↑j : Int).toNat))).fst.Command.New.Client, Value.int IntKind.i64 (callR x (st ((0 : Nat) + (↑j : Int).toNat))).fst.Command.New.Op, Value.int IntKind.i64 (callR x (st ((0 : Nat) + (↑j : Int).toNat))).fst.Command.Size, Value.bool (callR x (st ((0 : Nat) + (↑j : Int).toNat))).fst.Decided]))
    (bsplit ((st ((0 : Nat) + (↑j : Int).toNat)).Kind == (2 : Int))
    (bsplit (!told x (callR x (st ((0 : Nat) + (↑j : Int).toNat))).fst (callR x (st ((0 : Nat) + (↑j : Int).toNat))).snd.fst (st ((0 : Nat) + (↑j : Int).toNat))) (stepsRows n cap st = stepsRows n cap st ∧
    wideO = wideO ∧
    False) (stepsRows n cap st = stepsRows n cap st ∧
    wideO = wideO ∧
    (k = (0 : Nat) → False) ∧
    (Value.slice (some { block := (0 : Nat), off := (0 : Nat), spot := some (0 : Nat) : Addr }) n cap = Value.slice (some { block := (0 : Nat), off := (0 : Nat), spot := some (0 : Nat) : Addr }) n cap ∧
    Value.pointer (some { block := (1 : Nat), off := (0 : Nat) : Addr }) = Value.pointer (some { block := (1 : Nat), off := (0 : Nat) : Addr }) ∧
    Value.int IntKind.i64 (IntKind.i64.wrap ((↑j : Int) + (1 : Int))) = Value.int IntKind.i64 (IntKind.i64.wrap ((↑j : Int) + (1 : Int))) ∧
    True) ∧
    (stepsRows n cap st = stepsRows n cap st ∧
    wideO = wideO ∧
    (32 : TypeId) = (32 : TypeId)) ∧
    StaysInv n (k - (1 : Nat)) (IntKind.i64.wrap ((↑j : Int) + (1 : Int))) [Value.int IntKind.i64 (callR x (st ((0 : Nat) + (↑j : Int).toNat))).fst.Promised.N, Value.int IntKind.i64 (callR x (st ((0 : Nat) + (↑j : Int).toNat))).fst.Promised.Client, Value.int IntKind.i64 (callR x (st ((0 : Nat) + (↑j : Int).toNat))).fst.Accepted.N, Value.int IntKind.i64 (callR x (st ((0 : Nat) + (↑j : Int).toNat))).fst.Accepted.Client, Value.int IntKind.i64 (callR x (st ((0 : Nat) + (↑j : Int).toNat))).fst.Command.Kind, Value.int IntKind.i64 (callR x (st ((0 : Nat) + (↑j : Int).toNat))).fst.Command.Client, Value.int IntKind.i64 (callR x (st ((0 : Nat) + (↑j : Int).toNat))).fst.Command.Op, Value.string (callR x (st ((0 : Nat) + (↑j : Int).toNat))).fst.Command.Name, Value.int IntKind.i64 (callR x (st ((0 : Nat) + (↑j : Int).toNat))).fst.Command.File.Client, Value.int IntKind.i64 (callR x (st ((0 : Nat) + (↑j : Int).toNat))).fst.Command.File.Op, Value.int IntKind.i64 (callR x (st ((0 : Nat) + (↑j : Int).toNat))).fst.Command.New.Client, Value.int IntKind.i64 (callR x (st ((0 : Nat) + (↑j : Int).toNat))).fst.Command.New.Op, Value.int IntKind.i64 (callR x (st ((0 : Nat) + (↑j : Int).toNat))).fst.Command.Size, Value.bool (callR x (st ((0 : Nat) + (↑j : Int).toNat))).fst.Decided])) (stepsRows n cap st = stepsRows n cap st ∧
    wideO = wideO ∧
    (k = (0 : Nat) → False) ∧
    (Value.slice (some { block := (0 : Nat), off := (0 : Nat), spot := some (0 : Nat) : Addr }) n cap = Value.slice (some { block := (0 : Nat), off := (0 : Nat), spot := some (0 : Nat) : Addr }) n cap ∧
    Value.pointer (some { block := (1 : Nat), off := (0 : Nat) : Addr }) = Value.pointer (some { block := (1 : Nat), off := (0 : Nat) : Addr }) ∧
    Value.int IntKind.i64 (IntKind.i64.wrap ((↑j : Int) + (1 : Int))) = Value.int IntKind.i64 (IntKind.i64.wrap ((↑j : Int) + (1 : Int))) ∧
    True) ∧
    (stepsRows n cap st = stepsRows n cap st ∧
    wideO = wideO ∧
    (32 : TypeId) = (32 : TypeId)) ∧
    StaysInv n (k - (1 : Nat)) (IntKind.i64.wrap ((↑j : Int) + (1 : Int))) [Value.int IntKind.i64 (callR x (st ((0 : Nat) + (↑j : Int).toNat))).fst.Promised.N, Value.int IntKind.i64 (callR x (st ((0 : Nat) + (↑j : Int).toNat))).fst.Promised.Client, Value.int IntKind.i64 (callR x (st ((0 : Nat) + (↑j : Int).toNat))).fst.Accepted.N, Value.int IntKind.i64 (callR x (st ((0 : Nat) + (↑j : Int).toNat))).fst.Accepted.Client, Value.int IntKind.i64 (callR x (st ((0 : Nat) + (↑j : Int).toNat))).fst.Command.Kind, Value.int IntKind.i64 (callR x (st ((0 : Nat) + (↑j : Int).toNat))).fst.Command.Client, Value.int IntKind.i64 (callR x (st ((0 : Nat) + (↑j : Int).toNat))).fst.Command.Op, Value.string (callR x (st ((0 : Nat) + (↑j : Int).toNat))).fst.Command.Name, Value.int IntKind.i64 (callR x (st ((0 : Nat) + (↑j : Int).toNat))).fst.Command.File.Client, Value.int IntKind.i64 (callR x (st ((0 : Nat) + (↑j : Int).toNat))).fst.Command.File.Op, Value.int IntKind.i64 (callR x (st ((0 : Nat) + (↑j : Int).toNat))).fst.Command.New.Client, Value.int IntKind.i64 (callR x (st ((0 : Nat) + (↑j : Int).toNat))).fst.Command.New.Op, Value.int IntKind.i64 (callR x (st ((0 : Nat) + (↑j : Int).toNat))).fst.Command.Size, Value.bool (callR x (st ((0 : Nat) + (↑j : Int).toNat))).fst.Decided])))))
    (bsplit ((st ((0 : Nat) + (↑j : Int).toNat)).Kind == (1 : Int))
    (bsplit (!told x (callR x (st ((0 : Nat) + (↑j : Int).toNat))).fst (callR x (st ((0 : Nat) + (↑j : Int).toNat))).snd.fst (st ((0 : Nat) + (↑j : Int).toNat))) (stepsRows n cap st = stepsRows n cap st ∧
    wideO = wideO ∧
    False) (stepsRows n cap st = stepsRows n cap st ∧
    wideO = wideO ∧
    (k = (0 : Nat) → False) ∧
    (Value.slice (some { block := (0 : Nat), off := (0 : Nat), spot := some (0 : Nat) : Addr }) n cap = Value.slice (some { block := (0 : Nat), off := (0 : Nat), spot := some (0 : Nat) : Addr }) n cap ∧
    Value.pointer (some { block := (1 : Nat), off := (0 : Nat) : Addr }) = Value.pointer (some { block := (1 : Nat), off := (0 : Nat) : Addr }) ∧
    Value.int IntKind.i64 (IntKind.i64.wrap ((↑j : Int) + (1 : Int))) = Value.int IntKind.i64 (IntKind.i64.wrap ((↑j : Int) + (1 : Int))) ∧
    True) ∧
    (stepsRows n cap st = stepsRows n cap st ∧
    wideO = wideO ∧
    (32 : TypeId) = (32 : TypeId)) ∧
    StaysInv n (k - (1 : Nat)) (IntKind.i64.wrap ((↑j : Int) + (1 : Int))) [Value.int IntKind.i64 (callR x (st ((0 : Nat) + (↑j : Int).toNat))).fst.Promised.N, Value.int IntKind.i64 (callR x (st ((0 : Nat) + (↑j : Int).toNat))).fst.Promised.Client, Value.int IntKind.i64 (callR x (st ((0 : Nat) + (↑j : Int).toNat))).fst.Accepted.N, Value.int IntKind.i64 (callR x (st ((0 : Nat) + (↑j : Int).toNat))).fst.Accepted.Client, Value.int IntKind.i64 (callR x (st ((0 : Nat) + (↑j : Int).toNat))).fst.Command.Kind, Value.int IntKind.i64 (callR x (st ((0 : Nat) + (↑j : Int).toNat))).fst.Command.Client, Value.int IntKind.i64 (callR x (st ((0 : Nat) + (↑j : Int).toNat))).fst.Command.Op, Value.string (callR x (st ((0 : Nat) + (↑j : Int).toNat))).fst.Command.Name, Value.int IntKind.i64 (callR x (st ((0 : Nat) + (↑j : Int).toNat))).fst.Command.File.Client, Value.int IntKind.i64 (callR x (st ((0 : Nat) + (↑j : Int).toNat))).fst.Command.File.Op, Value.int IntKind.i64 (callR x (st ((0 : Nat) + (↑j : Int).toNat))).fst.Command.New.Client, Value.int IntKind.i64 (callR x (st ((0 : Nat) + (↑j : Int).toNat))).fst.Command.New.Op, Value.int IntKind.i64 (callR x (st ((0 : Nat) + (↑j : Int).toNat))).fst.Command.Size, Value.bool (callR x (st ((0 : Nat) + (↑j : Int).toNat))).fst.Decided]))
    (bsplit ((st ((0 : Nat) + (↑j : Int).toNat)).Kind == (2 : Int))
    (bsplit (!told x (callR x (st ((0 : Nat) + (↑j : Int).toNat))).fst (callR x (st ((0 : Nat) + (↑j : Int).toNat))).snd.fst (st ((0 : Nat) + (↑j : Int).toNat))) (stepsRows n cap st = stepsRows n cap st ∧
    wideO = wideO ∧
    False) (stepsRows n cap st = stepsRows n cap st ∧
    wideO = wideO ∧
    (k = (0 : Nat) → False) ∧
    (Value.slice (some { block := (0 : Nat), off := (0 : Nat), spot := some (0 : Nat) : Addr }) n cap = Value.slice (some { block := (0 : Nat), off := (0 : Nat), spot := some (0 : Nat) : Addr }) n cap ∧
    Value.pointer (some { block := (1 : Nat), off := (0 : Nat) : Addr }) = Value.pointer (some { block := (1 : Nat), off := (0 : Nat) : Addr }) ∧
    Value.int IntKind.i64 (IntKind.i64.wrap ((↑j : Int) + (1 : Int))) = Value.int IntKind.i64 (IntKind.i64.wrap ((↑j : Int) + (1 : Int))) ∧
    True) ∧
    (stepsRows n cap st = stepsRows n cap st ∧
    wideO = wideO ∧
    (32 : TypeId) = (32 : TypeId)) ∧
    StaysInv n (k - (1 : Nat)) (IntKind.i64.wrap ((↑j : Int) + (1 : Int))) [Value.int IntKind.i64 (callR x (st ((0 : Nat) + (↑j : Int).toNat))).fst.Promised.N, Value.int IntKind.i64 (callR x (st ((0 : Nat) + (↑j : Int).toNat))).fst.Promised.Client, Value.int IntKind.i64 (callR x (st ((0 : Nat) + (↑j : Int).toNat))).fst.Accepted.N, Value.int IntKind.i64 (callR x (st ((0 : Nat) + (↑j : Int).toNat))).fst.Accepted.Client, Value.int IntKind.i64 (callR x (st ((0 : Nat) + (↑j : Int).toNat))).fst.Command.Kind, Value.int IntKind.i64 (callR x (st ((0 : Nat) + (↑j : Int).toNat))).fst.Command.Client, Value.int IntKind.i64 (callR x (st ((0 : Nat) + (↑j : Int).toNat))).fst.Command.Op, Value.string (callR x (st ((0 : Nat) + (↑j : Int).toNat))).fst.Command.Name, Value.int IntKind.i64 (callR x (st ((0 : Nat) + (↑j : Int).toNat))).fst.Command.File.Client, Value.int IntKind.i64 (callR x (st ((0 : Nat) + (↑j : Int).toNat))).fst.Command.File.Op, Value.int IntKind.i64 (callR x (st ((0 : Nat) + (↑j : Int).toNat))).fst.Command.New.Client, Value.int IntKind.i64 (callR x (st ((0 : Nat) + (↑j : Int).toNat))).fst.Command.New.Op, Value.int IntKind.i64 (callR x (st ((0 : Nat) + (↑j : Int).toNat))).fst.Command.Size, Value.bool (callR x (st ((0 : Nat) + (↑j : Int).toNat))).fst.Decided])) (stepsRows n cap st = stepsRows n cap st ∧
    wideO = wideO ∧
    (k = (0 : Nat) → False) ∧
    (Value.slice (some { block := (0 : Nat), off := (0 : Nat), spot := some (0 : Nat) : Addr }) n cap = Value.slice (some { block := (0 : Nat), off := (0 : Nat), spot := some (0 : Nat) : Addr }) n cap ∧
    Value.pointer (some { block := (1 : Nat), off := (0 : Nat) : Addr }) = Value.pointer (some { block := (1 : Nat), off := (0 : Nat) : Addr }) ∧
    Value.int IntKind.i64 (IntKind.i64.wrap ((↑j : Int) + (1 : Int))) = Value.int IntKind.i64 (IntKind.i64.wrap ((↑j : Int) + (1 : Int))) ∧
    True) ∧
    (stepsRows n cap st = stepsRows n cap st ∧
    wideO = wideO ∧
    (32 : TypeId) = (32 : TypeId)) ∧
    StaysInv n (k - (1 : Nat)) (IntKind.i64.wrap ((↑j : Int) + (1 : Int))) [Value.int IntKind.i64 (callR x (st ((0 : Nat) + (↑j : Int).toNat))).fst.Promised.N, Value.int IntKind.i64 (callR x (st ((0 : Nat) + (↑j : Int).toNat))).fst.Promised.Client, Value.int IntKind.i64 (callR x (st ((0 : Nat) + (↑j : Int).toNat))).fst.Accepted.N, Value.int IntKind.i64 (callR x (st ((0 : Nat) + (↑j : Int).toNat))).fst.Accepted.Client, Value.int IntKind.i64 (callR x (st ((0 : Nat) + (↑j : Int).toNat))).fst.Command.Kind, Value.int IntKind.i64 (callR x (st ((0 : Nat) + (↑j : Int).toNat))).fst.Command.Client, Value.int IntKind.i64 (callR x (st ((0 : Nat) + (↑j : Int).toNat))).fst.Command.Op, Value.string (callR x (st ((0 : Nat) + (↑j : Int).toNat))).fst.Command.Name, Value.int IntKind.i64 (callR x (st ((0 : Nat) + (↑j : Int).toNat))).fst.Command.File.Client, Value.int IntKind.i64 (callR x (st ((0 : Nat) + (↑j : Int).toNat))).fst.Command.File.Op, Value.int IntKind.i64 (callR x (st ((0 : Nat) + (↑j : Int).toNat))).fst.Command.New.Client, Value.int IntKind.i64 (callR x (st ((0 : Nat) + (↑j : Int).toNat))).fst.Command.New.Op, Value.int IntKind.i64 (callR x (st ((0 : Nat) + (↑j : Int).toNat))).fst.Command.Size, Value.bool (callR x (st ((0 : Nat) + (↑j : Int).toNat))).fst.Decided])))))
    (bsplit (!(callR x (st ((0 : Nat) + (↑j : Int).toNat))).fst.Decided)
    (bsplit (above x.Promised (callR x (st ((0 : Nat) + (↑j : Int).toNat))).fst.Promised) (stepsRows n cap st = stepsRows n cap st ∧
    wideO = wideO ∧
    False)
    (bsplit (above x.Accepted (callR x (st ((0 : Nat) + (↑j : Int).toNat))).fst.Accepted) (stepsRows n cap st = stepsRows n cap st ∧
    wideO = wideO ∧
    False)
    (bsplit ((st ((0 : Nat) + (↑j : Int).toNat)).Kind == (1 : Int))
    (bsplit (!told x (callR x (st ((0 : Nat) + (↑j : Int).toNat))).fst (callR x (st ((0 : Nat) + (↑j : Int).toNat))).snd.fst (st ((0 : Nat) + (↑j : Int).toNat))) (stepsRows n cap st = stepsRows n cap st ∧
    wideO = wideO ∧
    False) (stepsRows n cap st = stepsRows n cap st ∧
    wideO = wideO ∧
    (k = (0 : Nat) → False) ∧
    (Value.slice (some { block := (0 : Nat), off := (0 : Nat), spot := some (0 : Nat) : Addr }) n cap = Value.slice (some { block := (0 : Nat), off := (0 : Nat), spot := some (0 : Nat) : Addr }) n cap ∧
    Value.pointer (some { block := (1 : Nat), off := (0 : Nat) : Addr }) = Value.pointer (some { block := (1 : Nat), off := (0 : Nat) : Addr }) ∧
    Value.int IntKind.i64 (IntKind.i64.wrap ((↑j : Int) + (1 : Int))) = Value.int IntKind.i64 (IntKind.i64.wrap ((↑j : Int) + (1 : Int))) ∧
    True) ∧
    (stepsRows n cap st = stepsRows n cap st ∧
    wideO = wideO ∧
    (32 : TypeId) = (32 : TypeId)) ∧
    StaysInv n (k - (1 : Nat)) (IntKind.i64.wrap ((↑j : Int) + (1 : Int))) [Value.int IntKind.i64 (callR x (st ((0 : Nat) + (↑j : Int).toNat))).fst.Promised.N, Value.int IntKind.i64 (callR x (st ((0 : Nat) + (↑j : Int).toNat))).fst.Promised.Client, Value.int IntKind.i64 (callR x (st ((0 : Nat) + (↑j : Int).toNat))).fst.Accepted.N, Value.int IntKind.i64 (callR x (st ((0 : Nat) + (↑j : Int).toNat))).fst.Accepted.Client, Value.int IntKind.i64 (callR x (st ((0 : Nat) + (↑j : Int).toNat))).fst.Command.Kind, Value.int IntKind.i64 (callR x (st ((0 : Nat) + (↑j : Int).toNat))).fst.Command.Client, Value.int IntKind.i64 (callR x (st ((0 : Nat) + (↑j : Int).toNat))).fst.Command.Op, Value.string (callR x (st ((0 : Nat) + (↑j : Int).toNat))).fst.Command.Name, Value.int IntKind.i64 (callR x (st ((0 : Nat) + (↑j : Int).toNat))).fst.Command.File.Client, Value.int IntKind.i64 (callR x (st ((0 : Nat) + (↑j : Int).toNat))).fst.Command.File.Op, Value.int IntKind.i64 (callR x (st ((0 : Nat) + (↑j : Int).toNat))).fst.Command.New.Client, Value.int IntKind.i64 (callR x (st ((0 : Nat) + (↑j : Int).toNat))).fst.Command.New.Op, Value.int IntKind.i64 (callR x (st ((0 : Nat) + (↑j : Int).toNat))).fst.Command.Size, Value.bool (callR x (st ((0 : Nat) + (↑j : Int).toNat))).fst.Decided]))
    (bsplit ((st ((0 : Nat) + (↑j : Int).toNat)).Kind == (2 : Int))
    (bsplit (!told x (callR x (st ((0 : Nat) + (↑j : Int).toNat))).fst (callR x (st ((0 : Nat) + (↑j : Int).toNat))).snd.fst (st ((0 : Nat) + (↑j : Int).toNat))) (stepsRows n cap st = stepsRows n cap st ∧
    wideO = wideO ∧
    False) (stepsRows n cap st = stepsRows n cap st ∧
    wideO = wideO ∧
    (k = (0 : Nat) → False) ∧
    (Value.slice (some { block := (0 : Nat), off := (0 : Nat), spot := some (0 : Nat) : Addr }) n cap = Value.slice (some { block := (0 : Nat), off := (0 : Nat), spot := some (0 : Nat) : Addr }) n cap ∧
    Value.pointer (some { block := (1 : Nat), off := (0 : Nat) : Addr }) = Value.pointer (some { block := (1 : Nat), off := (0 : Nat) : Addr }) ∧
    Value.int IntKind.i64 (IntKind.i64.wrap ((↑j : Int) + (1 : Int))) = Value.int IntKind.i64 (IntKind.i64.wrap ((↑j : Int) + (1 : Int))) ∧
    True) ∧
    (stepsRows n cap st = stepsRows n cap st ∧
    wideO = wideO ∧
    (32 : TypeId) = (32 : TypeId)) ∧
    StaysInv n (k - (1 : Nat)) (IntKind.i64.wrap ((↑j : Int) + (1 : Int))) [Value.int IntKind.i64 (callR x (st ((0 : Nat) + (↑j : Int).toNat))).fst.Promised.N, Value.int IntKind.i64 (callR x (st ((0 : Nat) + (↑j : Int).toNat))).fst.Promised.Client, Value.int IntKind.i64 (callR x (st ((0 : Nat) + (↑j : Int).toNat))).fst.Accepted.N, Value.int IntKind.i64 (callR x (st ((0 : Nat) + (↑j : Int).toNat))).fst.Accepted.Client, Value.int IntKind.i64 (callR x (st ((0 : Nat) + (↑j : Int).toNat))).fst.Command.Kind, Value.int IntKind.i64 (callR x (st ((0 : Nat) + (↑j : Int).toNat))).fst.Command.Client, Value.int IntKind.i64 (callR x (st ((0 : Nat) + (↑j : Int).toNat))).fst.Command.Op, Value.string (callR x (st ((0 : Nat) + (↑j : Int).toNat))).fst.Command.Name, Value.int IntKind.i64 (callR x (st ((0 : Nat) + (↑j : Int).toNat))).fst.Command.File.Client, Value.int IntKind.i64 (callR x (st ((0 : Nat) + (↑j : Int).toNat))).fst.Command.File.Op, Value.int IntKind.i64 (callR x (st ((0 : Nat) + (↑j : Int).toNat))).fst.Command.New.Client, Value.int IntKind.i64 (callR x (st ((0 : Nat) + (↑j : Int).toNat))).fst.Command.New.Op, Value.int IntKind.i64 (callR x (st ((0 : Nat) + (↑j : Int).toNat))).fst.Command.Size, Value.bool (callR x (st ((0 : Nat) + (↑j : Int).toNat))).fst.Decided])) (stepsRows n cap st = stepsRows n cap st ∧
    wideO = wideO ∧
    (k = (0 : Nat) → False) ∧
    (Value.slice (some { block := (0 : Nat), off := (0 : Nat), spot := some (0 : Nat) : Addr }) n cap = Value.slice (some { block := (0 : Nat), off := (0 : Nat), spot := some (0 : Nat) : Addr }) n cap ∧
    Value.pointer (some { block := (1 : Nat), off := (0 : Nat) : Addr }) = Value.pointer (some { block := (1 : Nat), off := (0 : Nat) : Addr }) ∧
    Value.int IntKind.i64 (IntKind.i64.wrap ((↑j : Int) + (1 : Int))) = Value.int IntKind.i64 (IntKind.i64.wrap ((↑j : Int) + (1 : Int))) ∧
    True) ∧
    (stepsRows n cap st = stepsRows n cap st ∧
    wideO = wideO ∧
    (32 : TypeId) = (32 : TypeId)) ∧
    StaysInv n (k - (1 : Nat)) (IntKind.i64.wrap ((↑j : Int) + (1 : Int))) [Value.int IntKind.i64 (callR x (st ((0 : Nat) + (↑j : Int).toNat))).fst.Promised.N, Value.int IntKind.i64 (callR x (st ((0 : Nat) + (↑j : Int).toNat))).fst.Promised.Client, Value.int IntKind.i64 (callR x (st ((0 : Nat) + (↑j : Int).toNat))).fst.Accepted.N, Value.int IntKind.i64 (callR x (st ((0 : Nat) + (↑j : Int).toNat))).fst.Accepted.Client, Value.int IntKind.i64 (callR x (st ((0 : Nat) + (↑j : Int).toNat))).fst.Command.Kind, Value.int IntKind.i64 (callR x (st ((0 : Nat) + (↑j : Int).toNat))).fst.Command.Client, Value.int IntKind.i64 (callR x (st ((0 : Nat) + (↑j : Int).toNat))).fst.Command.Op, Value.string (callR x (st ((0 : Nat) + (↑j : Int).toNat))).fst.Command.Name, Value.int IntKind.i64 (callR x (st ((0 : Nat) + (↑j : Int).toNat))).fst.Command.File.Client, Value.int IntKind.i64 (callR x (st ((0 : Nat) + (↑j : Int).toNat))).fst.Command.File.Op, Value.int IntKind.i64 (callR x (st ((0 : Nat) + (↑j : Int).toNat))).fst.Command.New.Client, Value.int IntKind.i64 (callR x (st ((0 : Nat) + (↑j : Int).toNat))).fst.Command.New.Op, Value.int IntKind.i64 (callR x (st ((0 : Nat) + (↑j : Int).toNat))).fst.Command.Size, Value.bool (callR x (st ((0 : Nat) + (↑j : Int).toNat))).fst.Decided])))))
    (bsplit ((st ((0 : Nat) + (↑j : Int).toNat)).Kind == (1 : Int))
    (bsplit (!told x (callR x (st ((0 : Nat) + (↑j : Int).toNat))).fst (callR x (st ((0 : Nat) + (↑j : Int).toNat))).snd.fst (st ((0 : Nat) + (↑j : Int).toNat))) (stepsRows n cap st = stepsRows n cap st ∧
    wideO = wideO ∧
    False) (stepsRows n cap st = stepsRows n cap st ∧
    wideO = wideO ∧
    (k = (0 : Nat) → False) ∧
    (Value.slice (some { block := (0 : Nat), off := (0 : Nat), spot := some (0 : Nat) : Addr }) n cap = Value.slice (some { block := (0 : Nat), off := (0 : Nat), spot := some (0 : Nat) : Addr }) n cap ∧
    Value.pointer (some { block := (1 : Nat), off := (0 : Nat) : Addr }) = Value.pointer (some { block := (1 : Nat), off := (0 : Nat) : Addr }) ∧
    Value.int IntKind.i64 (IntKind.i64.wrap ((↑j : Int) + (1 : Int))) = Value.int IntKind.i64 (IntKind.i64.wrap ((↑j : Int) + (1 : Int))) ∧
    True) ∧
    (stepsRows n cap st = stepsRows n cap st ∧
    wideO = wideO ∧
    (32 : TypeId) = (32 : TypeId)) ∧
    StaysInv n (k - (1 : Nat)) (IntKind.i64.wrap ((↑j : Int) + (1 : Int))) [Value.int IntKind.i64 (callR x (st ((0 : Nat) + (↑j : Int).toNat))).fst.Promised.N, Value.int IntKind.i64 (callR x (st ((0 : Nat) + (↑j : Int).toNat))).fst.Promised.Client, Value.int IntKind.i64 (callR x (st ((0 : Nat) + (↑j : Int).toNat))).fst.Accepted.N, Value.int IntKind.i64 (callR x (st ((0 : Nat) + (↑j : Int).toNat))).fst.Accepted.Client, Value.int IntKind.i64 (callR x (st ((0 : Nat) + (↑j : Int).toNat))).fst.Command.Kind, Value.int IntKind.i64 (callR x (st ((0 : Nat) + (↑j : Int).toNat))).fst.Command.Client, Value.int IntKind.i64 (callR x (st ((0 : Nat) + (↑j : Int).toNat))).fst.Command.Op, Value.string (callR x (st ((0 : Nat) + (↑j : Int).toNat))).fst.Command.Name, Value.int IntKind.i64 (callR x (st ((0 : Nat) + (↑j : Int).toNat))).fst.Command.File.Client, Value.int IntKind.i64 (callR x (st ((0 : Nat) + (↑j : Int).toNat))).fst.Command.File.Op, Value.int IntKind.i64 (callR x (st ((0 : Nat) + (↑j : Int).toNat))).fst.Command.New.Client, Value.int IntKind.i64 (callR x (st ((0 : Nat) + (↑j : Int).toNat))).fst.Command.New.Op, Value.int IntKind.i64 (callR x (st ((0 : Nat) + (↑j : Int).toNat))).fst.Command.Size, Value.bool (callR x (st ((0 : Nat) + (↑j : Int).toNat))).fst.Decided]))
    (bsplit ((st ((0 : Nat) + (↑j : Int).toNat)).Kind == (2 : Int))
    (bsplit (!told x (callR x (st ((0 : Nat) + (↑j : Int).toNat))).fst (callR x (st ((0 : Nat) + (↑j : Int).toNat))).snd.fst (st ((0 : Nat) + (↑j : Int).toNat))) (stepsRows n cap st = stepsRows n cap st ∧
    wideO = wideO ∧
    False) (stepsRows n cap st = stepsRows n cap st ∧
    wideO = wideO ∧
    (k = (0 : Nat) → False) ∧
    (Value.slice (some { block := (0 : Nat), off := (0 : Nat), spot := some (0 : Nat) : Addr }) n cap = Value.slice (some { block := (0 : Nat), off := (0 : Nat), spot := some (0 : Nat) : Addr }) n cap ∧
    Value.pointer (some { block := (1 : Nat), off := (0 : Nat) : Addr }) = Value.pointer (some { block := (1 : Nat), off := (0 : Nat) : Addr }) ∧
    Value.int IntKind.i64 (IntKind.i64.wrap ((↑j : Int) + (1 : Int))) = Value.int IntKind.i64 (IntKind.i64.wrap ((↑j : Int) + (1 : Int))) ∧
    True) ∧
    (stepsRows n cap st = stepsRows n cap st ∧
    wideO = wideO ∧
    (32 : TypeId) = (32 : TypeId)) ∧
    StaysInv n (k - (1 : Nat)) (IntKind.i64.wrap ((↑j : Int) + (1 : Int))) [Value.int IntKind.i64 (callR x (st ((0 : Nat) + (↑j : Int).toNat))).fst.Promised.N, Value.int IntKind.i64 (callR x (st ((0 : Nat) + (↑j : Int).toNat))).fst.Promised.Client, Value.int IntKind.i64 (callR x (st ((0 : Nat) + (↑j : Int).toNat))).fst.Accepted.N, Value.int IntKind.i64 (callR x (st ((0 : Nat) + (↑j : Int).toNat))).fst.Accepted.Client, Value.int IntKind.i64 (callR x (st ((0 : Nat) + (↑j : Int).toNat))).fst.Command.Kind, Value.int IntKind.i64 (callR x (st ((0 : Nat) + (↑j : Int).toNat))).fst.Command.Client, Value.int IntKind.i64 (callR x (st ((0 : Nat) + (↑j : Int).toNat))).fst.Command.Op, Value.string (callR x (st ((0 : Nat) + (↑j : Int).toNat))).fst.Command.Name, Value.int IntKind.i64 (callR x (st ((0 : Nat) + (↑j : Int).toNat))).fst.Command.File.Client, Value.int IntKind.i64 (callR x (st ((0 : Nat) + (↑j : Int).toNat))).fst.Command.File.Op, Value.int IntKind.i64 (callR x (st ((0 : Nat) + (↑j : Int).toNat))).fst.Command.New.Client, Value.int IntKind.i64 (callR x (st ((0 : Nat) + (↑j : Int).toNat))).fst.Command.New.Op, Value.int IntKind.i64 (callR x (st ((0 : Nat) + (↑j : Int).toNat))).fst.Command.Size, Value.bool (callR x (st ((0 : Nat) + (↑j : Int).toNat))).fst.Decided])) (stepsRows n cap st = stepsRows n cap st ∧
    wideO = wideO ∧
    (k = (0 : Nat) → False) ∧
    (Value.slice (some { block := (0 : Nat), off := (0 : Nat), spot := some (0 : Nat) : Addr }) n cap = Value.slice (some { block := (0 : Nat), off := (0 : Nat), spot := some (0 : Nat) : Addr }) n cap ∧
    Value.pointer (some { block := (1 : Nat), off := (0 : Nat) : Addr }) = Value.pointer (some { block := (1 : Nat), off := (0 : Nat) : Addr }) ∧
    Value.int IntKind.i64 (IntKind.i64.wrap ((↑j : Int) + (1 : Int))) = Value.int IntKind.i64 (IntKind.i64.wrap ((↑j : Int) + (1 : Int))) ∧
    True) ∧
    (stepsRows n cap st = stepsRows n cap st ∧
    wideO = wideO ∧
    (32 : TypeId) = (32 : TypeId)) ∧
    StaysInv n (k - (1 : Nat)) (IntKind.i64.wrap ((↑j : Int) + (1 : Int))) [Value.int IntKind.i64 (callR x (st ((0 : Nat) + (↑j : Int).toNat))).fst.Promised.N, Value.int IntKind.i64 (callR x (st ((0 : Nat) + (↑j : Int).toNat))).fst.Promised.Client, Value.int IntKind.i64 (callR x (st ((0 : Nat) + (↑j : Int).toNat))).fst.Accepted.N, Value.int IntKind.i64 (callR x (st ((0 : Nat) + (↑j : Int).toNat))).fst.Accepted.Client, Value.int IntKind.i64 (callR x (st ((0 : Nat) + (↑j : Int).toNat))).fst.Command.Kind, Value.int IntKind.i64 (callR x (st ((0 : Nat) + (↑j : Int).toNat))).fst.Command.Client, Value.int IntKind.i64 (callR x (st ((0 : Nat) + (↑j : Int).toNat))).fst.Command.Op, Value.string (callR x (st ((0 : Nat) + (↑j : Int).toNat))).fst.Command.Name, Value.int IntKind.i64 (callR x (st ((0 : Nat) + (↑j : Int).toNat))).fst.Command.File.Client, Value.int IntKind.i64 (callR x (st ((0 : Nat) + (↑j : Int).toNat))).fst.Command.File.Op, Value.int IntKind.i64 (callR x (st ((0 : Nat) + (↑j : Int).toNat))).fst.Command.New.Client, Value.int IntKind.i64 (callR x (st ((0 : Nat) + (↑j : Int).toNat))).fst.Command.New.Op, Value.int IntKind.i64 (callR x (st ((0 : Nat) + (↑j : Int).toNat))).fst.Command.Size, Value.bool (callR x (st ((0 : Nat) + (↑j : Int).toNat))).fst.Decided]))))))))))))))
    (bsplit (!((callR x (st ((0 : Nat) + (↑j : Int).toNat))).fst.Promised.N == (callR x (st ((0 : Nat) + (↑j : Int).toNat))).fst.Promised.N && ((callR x (st ((0 : Nat) + (↑j : Int).toNat))).fst.Promised.Client == (callR x (st ((0 : Nat) + (↑j : Int).toNat))).fst.Promised.Client && true) && ((callR x (st ((0 : Nat) + (↑j : Int).toNat))).fst.Accepted.N == (callR x (st ((0 : Nat) + (↑j : Int).toNat))).fst.Accepted.N && ((callR x (st ((0 : Nat) + (↑j : Int).toNat))).fst.Accepted.Client == (callR x (st ((0 : Nat) + (↑j : Int).toNat))).fst.Accepted.Client && true) && ((callR x (st ((0 : Nat) + (↑j : Int).toNat))).fst.Command.Kind == (callR x (st ((0 : Nat) + (↑j : Int).toNat))).fst.Command.Kind && ((callR x (st ((0 : Nat) + (↑j : Int).toNat))).fst.Command.Client == (callR x (st ((0 : Nat) + (↑j : Int).toNat))).fst.Command.Client && ((callR x (st ((0 : Nat) + (↑j : Int).toNat))).fst.Command.Op == (callR x (st ((0 : Nat) + (↑j : Int).toNat))).fst.Command.Op && ((callR x (st ((0 : Nat) + (↑j : Int).toNat))).fst.Command.Name.data.toList == (callR x (st ((0 : Nat) + (↑j : Int).toNat))).fst.Command.Name.data.toList && ((callR x (st ((0 : Nat) + (↑j : Int).toNat))).fst.Command.File.Client == (callR x (st ((0 : Nat) + (↑j : Int).toNat))).fst.Command.File.Client && ((callR x (st ((0 : Nat) + (↑j : Int).toNat))).fst.Command.File.Op == (callR x (st ((0 : Nat) + (↑j : Int).toNat))).fst.Command.File.Op && true) && ((callR x (st ((0 : Nat) + (↑j : Int).toNat))).fst.Command.New.Client == (callR x (st ((0 : Nat) + (↑j : Int).toNat))).fst.Command.New.Client && ((callR x (st ((0 : Nat) + (↑j : Int).toNat))).fst.Command.New.Op == (callR x (st ((0 : Nat) + (↑j : Int).toNat))).fst.Command.New.Op && true) && ((callR x (st ((0 : Nat) + (↑j : Int).toNat))).fst.Command.Size == (callR x (st ((0 : Nat) + (↑j : Int).toNat))).fst.Command.Size && true)))))) && ((callR x (st ((0 : Nat) + (↑j : Int).toNat))).fst.Decided == (callR x (st ((0 : Nat) + (↑j : Int).toNat))).fst.Decided && true))))) (stepsRows n cap st = stepsRows n cap st ∧
    wideO = wideO ∧
    False)
    (bsplit (!(callR x (st ((0 : Nat) + (↑j : Int).toNat))).snd.snd == (callR x (st ((0 : Nat) + (↑j : Int).toNat))).snd.snd) (stepsRows n cap st = stepsRows n cap st ∧
    wideO = wideO ∧
    False)
    (bsplit ((callR x (st ((0 : Nat) + (↑j : Int).toNat))).snd.fst.Kind != (callR x (st ((0 : Nat) + (↑j : Int).toNat))).snd.fst.Kind) (stepsRows n cap st = stepsRows n cap st ∧
    wideO = wideO ∧
    False)
    (bsplit (!((callR x (st ((0 : Nat) + (↑j : Int).toNat))).snd.fst.Stamp.N == (callR x (st ((0 : Nat) + (↑j : Int).toNat))).snd.fst.Stamp.N && ((callR x (st ((0 : Nat) + (↑j : Int).toNat))).snd.fst.Stamp.Client == (callR x (st ((0 : Nat) + (↑j : Int).toNat))).snd.fst.Stamp.Client && true))) (stepsRows n cap st = stepsRows n cap st ∧
    wideO = wideO ∧
    False)
    (bsplit (!((callR x (st ((0 : Nat) + (↑j : Int).toNat))).snd.fst.Held.N == (callR x (st ((0 : Nat) + (↑j : Int).toNat))).snd.fst.Held.N && ((callR x (st ((0 : Nat) + (↑j : Int).toNat))).snd.fst.Held.Client == (callR x (st ((0 : Nat) + (↑j : Int).toNat))).snd.fst.Held.Client && true))) (stepsRows n cap st = stepsRows n cap st ∧
    wideO = wideO ∧
    False)
    (bsplit (!((callR x (st ((0 : Nat) + (↑j : Int).toNat))).snd.fst.Command.Kind == (callR x (st ((0 : Nat) + (↑j : Int).toNat))).snd.fst.Command.Kind && ((callR x (st ((0 : Nat) + (↑j : Int).toNat))).snd.fst.Command.Client == (callR x (st ((0 : Nat) + (↑j : Int).toNat))).snd.fst.Command.Client && ((callR x (st ((0 : Nat) + (↑j : Int).toNat))).snd.fst.Command.Op == (callR x (st ((0 : Nat) + (↑j : Int).toNat))).snd.fst.Command.Op && ((callR x (st ((0 : Nat) + (↑j : Int).toNat))).snd.fst.Command.Name.data.toList == (callR x (st ((0 : Nat) + (↑j : Int).toNat))).snd.fst.Command.Name.data.toList && ((callR x (st ((0 : Nat) + (↑j : Int).toNat))).snd.fst.Command.File.Client == (callR x (st ((0 : Nat) + (↑j : Int).toNat))).snd.fst.Command.File.Client && ((callR x (st ((0 : Nat) + (↑j : Int).toNat))).snd.fst.Command.File.Op == (callR x (st ((0 : Nat) + (↑j : Int).toNat))).snd.fst.Command.File.Op && true) && ((callR x (st ((0 : Nat) + (↑j : Int).toNat))).snd.fst.Command.New.Client == (callR x (st ((0 : Nat) + (↑j : Int).toNat))).snd.fst.Command.New.Client && ((callR x (st ((0 : Nat) + (↑j : Int).toNat))).snd.fst.Command.New.Op == (callR x (st ((0 : Nat) + (↑j : Int).toNat))).snd.fst.Command.New.Op && true) && ((callR x (st ((0 : Nat) + (↑j : Int).toNat))).snd.fst.Command.Size == (callR x (st ((0 : Nat) + (↑j : Int).toNat))).snd.fst.Command.Size && true)))))))) (stepsRows n cap st = stepsRows n cap st ∧
    wideO = wideO ∧
    False) (True ∧
    bsplit (!isInstance (callR x (st ((0 : Nat) + (↑j : Int).toNat))).fst { h := { len := wideCfg.h.len, cap := wideCfg.h.cap, t := (3 : TypeId), m := (1 : Nat) : Hd }, F := wideCfg.F, Points := wideCfg.Points, Buckets := wideCfg.Buckets, Block := wideCfg.Block, Room := wideCfg.Room : GCfg }) (stepsRows n cap st = stepsRows n cap st ∧
    wideO = wideO ∧
    False)
    (bsplit (!(callR x (st ((0 : Nat) + (↑j : Int).toNat))).snd.snd == !((callR x (st ((0 : Nat) + (↑j : Int).toNat))).fst.Promised.N == x.Promised.N && ((callR x (st ((0 : Nat) + (↑j : Int).toNat))).fst.Promised.Client == x.Promised.Client && true) && ((callR x (st ((0 : Nat) + (↑j : Int).toNat))).fst.Accepted.N == x.Accepted.N && ((callR x (st ((0 : Nat) + (↑j : Int).toNat))).fst.Accepted.Client == x.Accepted.Client && true) && ((callR x (st ((0 : Nat) + (↑j : Int).toNat))).fst.Command.Kind == x.Command.Kind && ((callR x (st ((0 : Nat) + (↑j : Int).toNat))).fst.Command.Client == x.Command.Client && ((callR x (st ((0 : Nat) + (↑j : Int).toNat))).fst.Command.Op == x.Command.Op && ((callR x (st ((0 : Nat) + (↑j : Int).toNat))).fst.Command.Name.data.toList == x.Command.Name.data.toList && ((callR x (st ((0 : Nat) + (↑j : Int).toNat))).fst.Command.File.Client == x.Command.File.Client && ((callR x (st ((0 : Nat) + (↑j : Int).toNat))).fst.Command.File.Op == x.Command.File.Op && true) && ((callR x (st ((0 : Nat) + (↑j : Int).toNat))).fst.Command.New.Client == x.Command.New.Client && ((callR x (st ((0 : Nat) + (↑j : Int).toNat))).fst.Command.New.Op == x.Command.New.Op && true) && ((callR x (st ((0 : Nat) + (↑j : Int).toNat))).fst.Command.Size == x.Command.Size && true)))))) && ((callR x (st ((0 : Nat) + (↑j : Int).toNat))).fst.Decided == x.Decided && true))))) (stepsRows n cap st = stepsRows n cap st ∧
    wideO = wideO ∧
    False)
    (bsplit x.Decided
    (bsplit (callR x (st ((0 : Nat) + (↑j : Int).toNat))).snd.snd (stepsRows n cap st = stepsRows n cap st ∧
    wideO = wideO ∧
    False)
    (bsplit (!(callR x (st ((0 : Nat) + (↑j : Int).toNat))).fst.Decided)
    (bsplit (above x.Promised (callR x (st ((0 : Nat) + (↑j : Int).toNat))).fst.Promised) (stepsRows n cap st = stepsRows n cap st ∧
    wideO = wideO ∧
    False)
    (bsplit (above x.Accepted (callR x (st ((0 : Nat) + (↑j : Int).toNat))).fst.Accepted) (stepsRows n cap st = stepsRows n cap st ∧
    wideO = wideO ∧
    False)
    (bsplit ((st ((0 : Nat) + (↑j : Int).toNat)).Kind == (1 : Int))
    (bsplit (!told x (callR x (st ((0 : Nat) + (↑j : Int).toNat))).fst (callR x (st ((0 : Nat) + (↑j : Int).toNat))).snd.fst (st ((0 : Nat) + (↑j : Int).toNat))) (stepsRows n cap st = stepsRows n cap st ∧
    wideO = wideO ∧
    False) (stepsRows n cap st = stepsRows n cap st ∧
    wideO = wideO ∧
    (k = (0 : Nat) → False) ∧
    (Value.slice (some { block := (0 : Nat), off := (0 : Nat), spot := some (0 : Nat) : Addr }) n cap = Value.slice (some { block := (0 : Nat), off := (0 : Nat), spot := some (0 : Nat) : Addr }) n cap ∧
    Value.pointer (some { block := (1 : Nat), off := (0 : Nat) : Addr }) = Value.pointer (some { block := (1 : Nat), off := (0 : Nat) : Addr }) ∧
    Value.int IntKind.i64 (IntKind.i64.wrap ((↑j : Int) + (1 : Int))) = Value.int IntKind.i64 (IntKind.i64.wrap ((↑j : Int) + (1 : Int))) ∧
    True) ∧
    (stepsRows n cap st = stepsRows n cap st ∧
    wideO = wideO ∧
    (32 : TypeId) = (32 : TypeId)) ∧
    StaysInv n (k - (1 : Nat)) (IntKind.i64.wrap ((↑j : Int) + (1 : Int))) [Value.int IntKind.i64 (callR x (st ((0 : Nat) + (↑j : Int).toNat))).fst.Promised.N, Value.int IntKind.i64 (callR x (st ((0 : Nat) + (↑j : Int).toNat))).fst.Promised.Client, Value.int IntKind.i64 (callR x (st ((0 : Nat) + (↑j : Int).toNat))).fst.Accepted.N, Value.int IntKind.i64 (callR x (st ((0 : Nat) + (↑j : Int).toNat))).fst.Accepted.Client, Value.int IntKind.i64 (callR x (st ((0 : Nat) + (↑j : Int).toNat))).fst.Command.Kind, Value.int IntKind.i64 (callR x (st ((0 : Nat) + (↑j : Int).toNat))).fst.Command.Client, Value.int IntKind.i64 (callR x (st ((0 : Nat) + (↑j : Int).toNat))).fst.Command.Op, Value.string (callR x (st ((0 : Nat) + (↑j : Int).toNat))).fst.Command.Name, Value.int IntKind.i64 (callR x (st ((0 : Nat) + (↑j : Int).toNat))).fst.Command.File.Client, Value.int IntKind.i64 (callR x (st ((0 : Nat) + (↑j : Int).toNat))).fst.Command.File.Op, Value.int IntKind.i64 (callR x (st ((0 : Nat) + (↑j : Int).toNat))).fst.Command.New.Client, Value.int IntKind.i64 (callR x (st ((0 : Nat) + (↑j : Int).toNat))).fst.Command.New.Op, Value.int IntKind.i64 (callR x (st ((0 : Nat) + (↑j : Int).toNat))).fst.Command.Size, Value.bool (callR x (st ((0 : Nat) + (↑j : Int).toNat))).fst.Decided]))
    (bsplit ((st ((0 : Nat) + (↑j : Int).toNat)).Kind == (2 : Int))
    (bsplit (!told x (callR x (st ((0 : Nat) + (↑j : Int).toNat))).fst (callR x (st ((0 : Nat) + (↑j : Int).toNat))).snd.fst (st ((0 : Nat) + (↑j : Int).toNat))) (stepsRows n cap st = stepsRows n cap st ∧
    wideO = wideO ∧
    False) (stepsRows n cap st = stepsRows n cap st ∧
    wideO = wideO ∧
    (k = (0 : Nat) → False) ∧
    (Value.slice (some { block := (0 : Nat), off := (0 : Nat), spot := some (0 : Nat) : Addr }) n cap = Value.slice (some { block := (0 : Nat), off := (0 : Nat), spot := some (0 : Nat) : Addr }) n cap ∧
    Value.pointer (some { block := (1 : Nat), off := (0 : Nat) : Addr }) = Value.pointer (some { block := (1 : Nat), off := (0 : Nat) : Addr }) ∧
    Value.int IntKind.i64 (IntKind.i64.wrap ((↑j : Int) + (1 : Int))) = Value.int IntKind.i64 (IntKind.i64.wrap ((↑j : Int) + (1 : Int))) ∧
    True) ∧
    (stepsRows n cap st = stepsRows n cap st ∧
    wideO = wideO ∧
    (32 : TypeId) = (32 : TypeId)) ∧
    StaysInv n (k - (1 : Nat)) (IntKind.i64.wrap ((↑j : Int) + (1 : Int))) [Value.int IntKind.i64 (callR x (st ((0 : Nat) + (↑j : Int).toNat))).fst.Promised.N, Value.int IntKind.i64 (callR x (st ((0 : Nat) + (↑j : Int).toNat))).fst.Promised.Client, Value.int IntKind.i64 (callR x (st ((0 : Nat) + (↑j : Int).toNat))).fst.Accepted.N, Value.int IntKind.i64 (callR x (st ((0 : Nat) + (↑j : Int).toNat))).fst.Accepted.Client, Value.int IntKind.i64 (callR x (st ((0 : Nat) + (↑j : Int).toNat))).fst.Command.Kind, Value.int IntKind.i64 (callR x (st ((0 : Nat) + (↑j : Int).toNat))).fst.Command.Client, Value.int IntKind.i64 (callR x (st ((0 : Nat) + (↑j : Int).toNat))).fst.Command.Op, Value.string (callR x (st ((0 : Nat) + (↑j : Int).toNat))).fst.Command.Name, Value.int IntKind.i64 (callR x (st ((0 : Nat) + (↑j : Int).toNat))).fst.Command.File.Client, Value.int IntKind.i64 (callR x (st ((0 : Nat) + (↑j : Int).toNat))).fst.Command.File.Op, Value.int IntKind.i64 (callR x (st ((0 : Nat) + (↑j : Int).toNat))).fst.Command.New.Client, Value.int IntKind.i64 (callR x (st ((0 : Nat) + (↑j : Int).toNat))).fst.Command.New.Op, Value.int IntKind.i64 (callR x (st ((0 : Nat) + (↑j : Int).toNat))).fst.Command.Size, Value.bool (callR x (st ((0 : Nat) + (↑j : Int).toNat))).fst.Decided])) (stepsRows n cap st = stepsRows n cap st ∧
    wideO = wideO ∧
    (k = (0 : Nat) → False) ∧
    (Value.slice (some { block := (0 : Nat), off := (0 : Nat), spot := some (0 : Nat) : Addr }) n cap = Value.slice (some { block := (0 : Nat), off := (0 : Nat), spot := some (0 : Nat) : Addr }) n cap ∧
    Value.pointer (some { block := (1 : Nat), off := (0 : Nat) : Addr }) = Value.pointer (some { block := (1 : Nat), off := (0 : Nat) : Addr }) ∧
    Value.int IntKind.i64 (IntKind.i64.wrap ((↑j : Int) + (1 : Int))) = Value.int IntKind.i64 (IntKind.i64.wrap ((↑j : Int) + (1 : Int))) ∧
    True) ∧
    (stepsRows n cap st = stepsRows n cap st ∧
    wideO = wideO ∧
    (32 : TypeId) = (32 : TypeId)) ∧
    StaysInv n (k - (1 : Nat)) (IntKind.i64.wrap ((↑j : Int) + (1 : Int))) [Value.int IntKind.i64 (callR x (st ((0 : Nat) + (↑j : Int).toNat))).fst.Promised.N, Value.int IntKind.i64 (callR x (st ((0 : Nat) + (↑j : Int).toNat))).fst.Promised.Client, Value.int IntKind.i64 (callR x (st ((0 : Nat) + (↑j : Int).toNat))).fst.Accepted.N, Value.int IntKind.i64 (callR x (st ((0 : Nat) + (↑j : Int).toNat))).fst.Accepted.Client, Value.int IntKind.i64 (callR x (st ((0 : Nat) + (↑j : Int).toNat))).fst.Command.Kind, Value.int IntKind.i64 (callR x (st ((0 : Nat) + (↑j : Int).toNat))).fst.Command.Client, Value.int IntKind.i64 (callR x (st ((0 : Nat) + (↑j : Int).toNat))).fst.Command.Op, Value.string (callR x (st ((0 : Nat) + (↑j : Int).toNat))).fst.Command.Name, Value.int IntKind.i64 (callR x (st ((0 : Nat) + (↑j : Int).toNat))).fst.Command.File.Client, Value.int IntKind.i64 (callR x (st ((0 : Nat) + (↑j : Int).toNat))).fst.Command.File.Op, Value.int IntKind.i64 (callR x (st ((0 : Nat) + (↑j : Int).toNat))).fst.Command.New.Client, Value.int IntKind.i64 (callR x (st ((0 : Nat) + (↑j : Int).toNat))).fst.Command.New.Op, Value.int IntKind.i64 (callR x (st ((0 : Nat) + (↑j : Int).toNat))).fst.Command.Size, Value.bool (callR x (st ((0 : Nat) + (↑j : Int).toNat))).fst.Decided])))))
    (bsplit ((st ((0 : Nat) + (↑j : Int).toNat)).Kind == (1 : Int))
    (bsplit (!told x (callR x (st ((0 : Nat) + (↑j : Int).toNat))).fst (callR x (st ((0 : Nat) + (↑j : Int).toNat))).snd.fst (st ((0 : Nat) + (↑j : Int).toNat))) (stepsRows n cap st = stepsRows n cap st ∧
    wideO = wideO ∧
    False) (stepsRows n cap st = stepsRows n cap st ∧
    wideO = wideO ∧
    (k = (0 : Nat) → False) ∧
    (Value.slice (some { block := (0 : Nat), off := (0 : Nat), spot := some (0 : Nat) : Addr }) n cap = Value.slice (some { block := (0 : Nat), off := (0 : Nat), spot := some (0 : Nat) : Addr }) n cap ∧
    Value.pointer (some { block := (1 : Nat), off := (0 : Nat) : Addr }) = Value.pointer (some { block := (1 : Nat), off := (0 : Nat) : Addr }) ∧
    Value.int IntKind.i64 (IntKind.i64.wrap ((↑j : Int) + (1 : Int))) = Value.int IntKind.i64 (IntKind.i64.wrap ((↑j : Int) + (1 : Int))) ∧
    True) ∧
    (stepsRows n cap st = stepsRows n cap st ∧
    wideO = wideO ∧
    (32 : TypeId) = (32 : TypeId)) ∧
    StaysInv n (k - (1 : Nat)) (IntKind.i64.wrap ((↑j : Int) + (1 : Int))) [Value.int IntKind.i64 (callR x (st ((0 : Nat) + (↑j : Int).toNat))).fst.Promised.N, Value.int IntKind.i64 (callR x (st ((0 : Nat) + (↑j : Int).toNat))).fst.Promised.Client, Value.int IntKind.i64 (callR x (st ((0 : Nat) + (↑j : Int).toNat))).fst.Accepted.N, Value.int IntKind.i64 (callR x (st ((0 : Nat) + (↑j : Int).toNat))).fst.Accepted.Client, Value.int IntKind.i64 (callR x (st ((0 : Nat) + (↑j : Int).toNat))).fst.Command.Kind, Value.int IntKind.i64 (callR x (st ((0 : Nat) + (↑j : Int).toNat))).fst.Command.Client, Value.int IntKind.i64 (callR x (st ((0 : Nat) + (↑j : Int).toNat))).fst.Command.Op, Value.string (callR x (st ((0 : Nat) + (↑j : Int).toNat))).fst.Command.Name, Value.int IntKind.i64 (callR x (st ((0 : Nat) + (↑j : Int).toNat))).fst.Command.File.Client, Value.int IntKind.i64 (callR x (st ((0 : Nat) + (↑j : Int).toNat))).fst.Command.File.Op, Value.int IntKind.i64 (callR x (st ((0 : Nat) + (↑j : Int).toNat))).fst.Command.New.Client, Value.int IntKind.i64 (callR x (st ((0 : Nat) + (↑j : Int).toNat))).fst.Command.New.Op, Value.int IntKind.i64 (callR x (st ((0 : Nat) + (↑j : Int).toNat))).fst.Command.Size, Value.bool (callR x (st ((0 : Nat) + (↑j : Int).toNat))).fst.Decided]))
    (bsplit ((st ((0 : Nat) + (↑j : Int).toNat)).Kind == (2 : Int))
    (bsplit (!told x (callR x (st ((0 : Nat) + (↑j : Int).toNat))).fst (callR x (st ((0 : Nat) + (↑j : Int).toNat))).snd.fst (st ((0 : Nat) + (↑j : Int).toNat))) (stepsRows n cap st = stepsRows n cap st ∧
    wideO = wideO ∧
    False) (stepsRows n cap st = stepsRows n cap st ∧
    wideO = wideO ∧
    (k = (0 : Nat) → False) ∧
    (Value.slice (some { block := (0 : Nat), off := (0 : Nat), spot := some (0 : Nat) : Addr }) n cap = Value.slice (some { block := (0 : Nat), off := (0 : Nat), spot := some (0 : Nat) : Addr }) n cap ∧
    Value.pointer (some { block := (1 : Nat), off := (0 : Nat) : Addr }) = Value.pointer (some { block := (1 : Nat), off := (0 : Nat) : Addr }) ∧
    Value.int IntKind.i64 (IntKind.i64.wrap ((↑j : Int) + (1 : Int))) = Value.int IntKind.i64 (IntKind.i64.wrap ((↑j : Int) + (1 : Int))) ∧
    True) ∧
    (stepsRows n cap st = stepsRows n cap st ∧
    wideO = wideO ∧
    (32 : TypeId) = (32 : TypeId)) ∧
    StaysInv n (k - (1 : Nat)) (IntKind.i64.wrap ((↑j : Int) + (1 : Int))) [Value.int IntKind.i64 (callR x (st ((0 : Nat) + (↑j : Int).toNat))).fst.Promised.N, Value.int IntKind.i64 (callR x (st ((0 : Nat) + (↑j : Int).toNat))).fst.Promised.Client, Value.int IntKind.i64 (callR x (st ((0 : Nat) + (↑j : Int).toNat))).fst.Accepted.N, Value.int IntKind.i64 (callR x (st ((0 : Nat) + (↑j : Int).toNat))).fst.Accepted.Client, Value.int IntKind.i64 (callR x (st ((0 : Nat) + (↑j : Int).toNat))).fst.Command.Kind, Value.int IntKind.i64 (callR x (st ((0 : Nat) + (↑j : Int).toNat))).fst.Command.Client, Value.int IntKind.i64 (callR x (st ((0 : Nat) + (↑j : Int).toNat))).fst.Command.Op, Value.string (callR x (st ((0 : Nat) + (↑j : Int).toNat))).fst.Command.Name, Value.int IntKind.i64 (callR x (st ((0 : Nat) + (↑j : Int).toNat))).fst.Command.File.Client, Value.int IntKind.i64 (callR x (st ((0 : Nat) + (↑j : Int).toNat))).fst.Command.File.Op, Value.int IntKind.i64 (callR x (st ((0 : Nat) + (↑j : Int).toNat))).fst.Command.New.Client, Value.int IntKind.i64 (callR x (st ((0 : Nat) + (↑j : Int).toNat))).fst.Command.New.Op, Value.int IntKind.i64 (callR x (st ((0 : Nat) + (↑j : Int).toNat))).fst.Command.Size, Value.bool (callR x (st ((0 : Nat) + (↑j : Int).toNat))).fst.Decided])) (stepsRows n cap st = stepsRows n cap st ∧
    wideO = wideO ∧
    (k = (0 : Nat) → False) ∧
    (Value.slice (some { block := (0 : Nat), off := (0 : Nat), spot := some (0 : Nat) : Addr }) n cap = Value.slice (some { block := (0 : Nat), off := (0 : Nat), spot := some (0 : Nat) : Addr }) n cap ∧
    Value.pointer (some { block := (1 : Nat), off := (0 : Nat) : Addr }) = Value.pointer (some { block := (1 : Nat), off := (0 : Nat) : Addr }) ∧
    Value.int IntKind.i64 (IntKind.i64.wrap ((↑j : Int) + (1 : Int))) = Value.int IntKind.i64 (IntKind.i64.wrap ((↑j : Int) + (1 : Int))) ∧
    True) ∧
    (stepsRows n cap st = stepsRows n cap st ∧
    wideO = wideO ∧
    (32 : TypeId) = (32 : TypeId)) ∧
    StaysInv n (k - (1 : Nat)) (IntKind.i64.wrap ((↑j : Int) + (1 : Int))) [Value.int IntKind.i64 (callR x (st ((0 : Nat) + (↑j : Int).toNat))).fst.Promised.N, Value.int IntKind.i64 (callR x (st ((0 : Nat) + (↑j : Int).toNat))).fst.Promised.Client, Value.int IntKind.i64 (callR x (st ((0 : Nat) + (↑j : Int).toNat))).fst.Accepted.N, Value.int IntKind.i64 (callR x (st ((0 : Nat) + (↑j : Int).toNat))).fst.Accepted.Client, Value.int IntKind.i64 (callR x (st ((0 : Nat) + (↑j : Int).toNat))).fst.Command.Kind, Value.int IntKind.i64 (callR x (st ((0 : Nat) + (↑j : Int).toNat))).fst.Command.Client, Value.int IntKind.i64 (callR x (st ((0 : Nat) + (↑j : Int).toNat))).fst.Command.Op, Value.string (callR x (st ((0 : Nat) + (↑j : Int).toNat))).fst.Command.Name, Value.int IntKind.i64 (callR x (st ((0 : Nat) + (↑j : Int).toNat))).fst.Command.File.Client, Value.int IntKind.i64 (callR x (st ((0 : Nat) + (↑j : Int).toNat))).fst.Command.File.Op, Value.int IntKind.i64 (callR x (st ((0 : Nat) + (↑j : Int).toNat))).fst.Command.New.Client, Value.int IntKind.i64 (callR x (st ((0 : Nat) + (↑j : Int).toNat))).fst.Command.New.Op, Value.int IntKind.i64 (callR x (st ((0 : Nat) + (↑j : Int).toNat))).fst.Command.Size, Value.bool (callR x (st ((0 : Nat) + (↑j : Int).toNat))).fst.Decided])))))
    (bsplit (!(callR x (st ((0 : Nat) + (↑j : Int).toNat))).fst.Decided)
    (bsplit (above x.Promised (callR x (st ((0 : Nat) + (↑j : Int).toNat))).fst.Promised) (stepsRows n cap st = stepsRows n cap st ∧
    wideO = wideO ∧
    False)
    (bsplit (above x.Accepted (callR x (st ((0 : Nat) + (↑j : Int).toNat))).fst.Accepted) (stepsRows n cap st = stepsRows n cap st ∧
    wideO = wideO ∧
    False)
    (bsplit ((st ((0 : Nat) + (↑j : Int).toNat)).Kind == (1 : Int))
    (bsplit (!told x (callR x (st ((0 : Nat) + (↑j : Int).toNat))).fst (callR x (st ((0 : Nat) + (↑j : Int).toNat))).snd.fst (st ((0 : Nat) + (↑j : Int).toNat))) (stepsRows n cap st = stepsRows n cap st ∧
    wideO = wideO ∧
    False) (stepsRows n cap st = stepsRows n cap st ∧
    wideO = wideO ∧
    (k = (0 : Nat) → False) ∧
    (Value.slice (some { block := (0 : Nat), off := (0 : Nat), spot := some (0 : Nat) : Addr }) n cap = Value.slice (some { block := (0 : Nat), off := (0 : Nat), spot := some (0 : Nat) : Addr }) n cap ∧
    Value.pointer (some { block := (1 : Nat), off := (0 : Nat) : Addr }) = Value.pointer (some { block := (1 : Nat), off := (0 : Nat) : Addr }) ∧
    Value.int IntKind.i64 (IntKind.i64.wrap ((↑j : Int) + (1 : Int))) = Value.int IntKind.i64 (IntKind.i64.wrap ((↑j : Int) + (1 : Int))) ∧
    True) ∧
    (stepsRows n cap st = stepsRows n cap st ∧
    wideO = wideO ∧
    (32 : TypeId) = (32 : TypeId)) ∧
    StaysInv n (k - (1 : Nat)) (IntKind.i64.wrap ((↑j : Int) + (1 : Int))) [Value.int IntKind.i64 (callR x (st ((0 : Nat) + (↑j : Int).toNat))).fst.Promised.N, Value.int IntKind.i64 (callR x (st ((0 : Nat) + (↑j : Int).toNat))).fst.Promised.Client, Value.int IntKind.i64 (callR x (st ((0 : Nat) + (↑j : Int).toNat))).fst.Accepted.N, Value.int IntKind.i64 (callR x (st ((0 : Nat) + (↑j : Int).toNat))).fst.Accepted.Client, Value.int IntKind.i64 (callR x (st ((0 : Nat) + (↑j : Int).toNat))).fst.Command.Kind, Value.int IntKind.i64 (callR x (st ((0 : Nat) + (↑j : Int).toNat))).fst.Command.Client, Value.int IntKind.i64 (callR x (st ((0 : Nat) + (↑j : Int).toNat))).fst.Command.Op, Value.string (callR x (st ((0 : Nat) + (↑j : Int).toNat))).fst.Command.Name, Value.int IntKind.i64 (callR x (st ((0 : Nat) + (↑j : Int).toNat))).fst.Command.File.Client, Value.int IntKind.i64 (callR x (st ((0 : Nat) + (↑j : Int).toNat))).fst.Command.File.Op, Value.int IntKind.i64 (callR x (st ((0 : Nat) + (↑j : Int).toNat))).fst.Command.New.Client, Value.int IntKind.i64 (callR x (st ((0 : Nat) + (↑j : Int).toNat))).fst.Command.New.Op, Value.int IntKind.i64 (callR x (st ((0 : Nat) + (↑j : Int).toNat))).fst.Command.Size, Value.bool (callR x (st ((0 : Nat) + (↑j : Int).toNat))).fst.Decided]))
    (bsplit ((st ((0 : Nat) + (↑j : Int).toNat)).Kind == (2 : Int))
    (bsplit (!told x (callR x (st ((0 : Nat) + (↑j : Int).toNat))).fst (callR x (st ((0 : Nat) + (↑j : Int).toNat))).snd.fst (st ((0 : Nat) + (↑j : Int).toNat))) (stepsRows n cap st = stepsRows n cap st ∧
    wideO = wideO ∧
    False) (stepsRows n cap st = stepsRows n cap st ∧
    wideO = wideO ∧
    (k = (0 : Nat) → False) ∧
    (Value.slice (some { block := (0 : Nat), off := (0 : Nat), spot := some (0 : Nat) : Addr }) n cap = Value.slice (some { block := (0 : Nat), off := (0 : Nat), spot := some (0 : Nat) : Addr }) n cap ∧
    Value.pointer (some { block := (1 : Nat), off := (0 : Nat) : Addr }) = Value.pointer (some { block := (1 : Nat), off := (0 : Nat) : Addr }) ∧
    Value.int IntKind.i64 (IntKind.i64.wrap ((↑j : Int) + (1 : Int))) = Value.int IntKind.i64 (IntKind.i64.wrap ((↑j : Int) + (1 : Int))) ∧
    True) ∧
    (stepsRows n cap st = stepsRows n cap st ∧
    wideO = wideO ∧
    (32 : TypeId) = (32 : TypeId)) ∧
    StaysInv n (k - (1 : Nat)) (IntKind.i64.wrap ((↑j : Int) + (1 : Int))) [Value.int IntKind.i64 (callR x (st ((0 : Nat) + (↑j : Int).toNat))).fst.Promised.N, Value.int IntKind.i64 (callR x (st ((0 : Nat) + (↑j : Int).toNat))).fst.Promised.Client, Value.int IntKind.i64 (callR x (st ((0 : Nat) + (↑j : Int).toNat))).fst.Accepted.N, Value.int IntKind.i64 (callR x (st ((0 : Nat) + (↑j : Int).toNat))).fst.Accepted.Client, Value.int IntKind.i64 (callR x (st ((0 : Nat) + (↑j : Int).toNat))).fst.Command.Kind, Value.int IntKind.i64 (callR x (st ((0 : Nat) + (↑j : Int).toNat))).fst.Command.Client, Value.int IntKind.i64 (callR x (st ((0 : Nat) + (↑j : Int).toNat))).fst.Command.Op, Value.string (callR x (st ((0 : Nat) + (↑j : Int).toNat))).fst.Command.Name, Value.int IntKind.i64 (callR x (st ((0 : Nat) + (↑j : Int).toNat))).fst.Command.File.Client, Value.int IntKind.i64 (callR x (st ((0 : Nat) + (↑j : Int).toNat))).fst.Command.File.Op, Value.int IntKind.i64 (callR x (st ((0 : Nat) + (↑j : Int).toNat))).fst.Command.New.Client, Value.int IntKind.i64 (callR x (st ((0 : Nat) + (↑j : Int).toNat))).fst.Command.New.Op, Value.int IntKind.i64 (callR x (st ((0 : Nat) + (↑j : Int).toNat))).fst.Command.Size, Value.bool (callR x (st ((0 : Nat) + (↑j : Int).toNat))).fst.Decided])) (stepsRows n cap st = stepsRows n cap st ∧
    wideO = wideO ∧
    (k = (0 : Nat) → False) ∧
    (Value.slice (some { block := (0 : Nat), off := (0 : Nat), spot := some (0 : Nat) : Addr }) n cap = Value.slice (some { block := (0 : Nat), off := (0 : Nat), spot := some (0 : Nat) : Addr }) n cap ∧
    Value.pointer (some { block := (1 : Nat), off := (0 : Nat) : Addr }) = Value.pointer (some { block := (1 : Nat), off := (0 : Nat) : Addr }) ∧
    Value.int IntKind.i64 (IntKind.i64.wrap ((↑j : Int) + (1 : Int))) = Value.int IntKind.i64 (IntKind.i64.wrap ((↑j : Int) + (1 : Int))) ∧
    True) ∧
    (stepsRows n cap st = stepsRows n cap st ∧
    wideO = wideO ∧
    (32 : TypeId) = (32 : TypeId)) ∧
    StaysInv n (k - (1 : Nat)) (IntKind.i64.wrap ((↑j : Int) + (1 : Int))) [Value.int IntKind.i64 (callR x (st ((0 : Nat) + (↑j : Int).toNat))).fst.Promised.N, Value.int IntKind.i64 (callR x (st ((0 : Nat) + (↑j : Int).toNat))).fst.Promised.Client, Value.int IntKind.i64 (callR x (st ((0 : Nat) + (↑j : Int).toNat))).fst.Accepted.N, Value.int IntKind.i64 (callR x (st ((0 : Nat) + (↑j : Int).toNat))).fst.Accepted.Client, Value.int IntKind.i64 (callR x (st ((0 : Nat) + (↑j : Int).toNat))).fst.Command.Kind, Value.int IntKind.i64 (callR x (st ((0 : Nat) + (↑j : Int).toNat))).fst.Command.Client, Value.int IntKind.i64 (callR x (st ((0 : Nat) + (↑j : Int).toNat))).fst.Command.Op, Value.string (callR x (st ((0 : Nat) + (↑j : Int).toNat))).fst.Command.Name, Value.int IntKind.i64 (callR x (st ((0 : Nat) + (↑j : Int).toNat))).fst.Command.File.Client, Value.int IntKind.i64 (callR x (st ((0 : Nat) + (↑j : Int).toNat))).fst.Command.File.Op, Value.int IntKind.i64 (callR x (st ((0 : Nat) + (↑j : Int).toNat))).fst.Command.New.Client, Value.int IntKind.i64 (callR x (st ((0 : Nat) + (↑j : Int).toNat))).fst.Command.New.Op, Value.int IntKind.i64 (callR x (st ((0 : Nat) + (↑j : Int).toNat))).fst.Command.Size, Value.bool (callR x (st ((0 : Nat) + (↑j : Int).toNat))).fst.Decided])))))
    (bsplit ((st ((0 : Nat) + (↑j : Int).toNat)).Kind == (1 : Int))
    (bsplit (!told x (callR x (st ((0 : Nat) + (↑j : Int).toNat))).fst (callR x (st ((0 : Nat) + (↑j : Int).toNat))).snd.fst (st ((0 : Nat) + (↑j : Int).toNat))) (stepsRows n cap st = stepsRows n cap st ∧
    wideO = wideO ∧
    False) (stepsRows n cap st = stepsRows n cap st ∧
    wideO = wideO ∧
    (k = (0 : Nat) → False) ∧
    (Value.slice (some { block := (0 : Nat), off := (0 : Nat), spot := some (0 : Nat) : Addr }) n cap = Value.slice (some { block := (0 : Nat), off := (0 : Nat), spot := some (0 : Nat) : Addr }) n cap ∧
    Value.pointer (some { block := (1 : Nat), off := (0 : Nat) : Addr }) = Value.pointer (some { block := (1 : Nat), off := (0 : Nat) : Addr }) ∧
    Value.int IntKind.i64 (IntKind.i64.wrap ((↑j : Int) + (1 : Int))) = Value.int IntKind.i64 (IntKind.i64.wrap ((↑j : Int) + (1 : Int))) ∧
    True) ∧
    (stepsRows n cap st = stepsRows n cap st ∧
    wideO = wideO ∧
    (32 : TypeId) = (32 : TypeId)) ∧
    StaysInv n (k - (1 : Nat)) (IntKind.i64.wrap ((↑j : Int) + (1 : Int))) [Value.int IntKind.i64 (callR x (st ((0 : Nat) + (↑j : Int).toNat))).fst.Promised.N, Value.int IntKind.i64 (callR x (st ((0 : Nat) + (↑j : Int).toNat))).fst.Promised.Client, Value.int IntKind.i64 (callR x (st ((0 : Nat) + (↑j : Int).toNat))).fst.Accepted.N, Value.int IntKind.i64 (callR x (st ((0 : Nat) + (↑j : Int).toNat))).fst.Accepted.Client, Value.int IntKind.i64 (callR x (st ((0 : Nat) + (↑j : Int).toNat))).fst.Command.Kind, Value.int IntKind.i64 (callR x (st ((0 : Nat) + (↑j : Int).toNat))).fst.Command.Client, Value.int IntKind.i64 (callR x (st ((0 : Nat) + (↑j : Int).toNat))).fst.Command.Op, Value.string (callR x (st ((0 : Nat) + (↑j : Int).toNat))).fst.Command.Name, Value.int IntKind.i64 (callR x (st ((0 : Nat) + (↑j : Int).toNat))).fst.Command.File.Client, Value.int IntKind.i64 (callR x (st ((0 : Nat) + (↑j : Int).toNat))).fst.Command.File.Op, Value.int IntKind.i64 (callR x (st ((0 : Nat) + (↑j : Int).toNat))).fst.Command.New.Client, Value.int IntKind.i64 (callR x (st ((0 : Nat) + (↑j : Int).toNat))).fst.Command.New.Op, Value.int IntKind.i64 (callR x (st ((0 : Nat) + (↑j : Int).toNat))).fst.Command.Size, Value.bool (callR x (st ((0 : Nat) + (↑j : Int).toNat))).fst.Decided]))
    (bsplit ((st ((0 : Nat) + (↑j : Int).toNat)).Kind == (2 : Int))
    (bsplit (!told x (callR x (st ((0 : Nat) + (↑j : Int).toNat))).fst (callR x (st ((0 : Nat) + (↑j : Int).toNat))).snd.fst (st ((0 : Nat) + (↑j : Int).toNat))) (stepsRows n cap st = stepsRows n cap st ∧
    wideO = wideO ∧
    False) (stepsRows n cap st = stepsRows n cap st ∧
    wideO = wideO ∧
    (k = (0 : Nat) → False) ∧
    (Value.slice (some { block := (0 : Nat), off := (0 : Nat), spot := some (0 : Nat) : Addr }) n cap = Value.slice (some { block := (0 : Nat), off := (0 : Nat), spot := some (0 : Nat) : Addr }) n cap ∧
    Value.pointer (some { block := (1 : Nat), off := (0 : Nat) : Addr }) = Value.pointer (some { block := (1 : Nat), off := (0 : Nat) : Addr }) ∧
    Value.int IntKind.i64 (IntKind.i64.wrap ((↑j : Int) + (1 : Int))) = Value.int IntKind.i64 (IntKind.i64.wrap ((↑j : Int) + (1 : Int))) ∧
    True) ∧
    (stepsRows n cap st = stepsRows n cap st ∧
    wideO = wideO ∧
    (32 : TypeId) = (32 : TypeId)) ∧
    StaysInv n (k - (1 : Nat)) (IntKind.i64.wrap ((↑j : Int) + (1 : Int))) [Value.int IntKind.i64 (callR x (st ((0 : Nat) + (↑j : Int).toNat))).fst.Promised.N, Value.int IntKind.i64 (callR x (st ((0 : Nat) + (↑j : Int).toNat))).fst.Promised.Client, Value.int IntKind.i64 (callR x (st ((0 : Nat) + (↑j : Int).toNat))).fst.Accepted.N, Value.int IntKind.i64 (callR x (st ((0 : Nat) + (↑j : Int).toNat))).fst.Accepted.Client, Value.int IntKind.i64 (callR x (st ((0 : Nat) + (↑j : Int).toNat))).fst.Command.Kind, Value.int IntKind.i64 (callR x (st ((0 : Nat) + (↑j : Int).toNat))).fst.Command.Client, Value.int IntKind.i64 (callR x (st ((0 : Nat) + (↑j : Int).toNat))).fst.Command.Op, Value.string (callR x (st ((0 : Nat) + (↑j : Int).toNat))).fst.Command.Name, Value.int IntKind.i64 (callR x (st ((0 : Nat) + (↑j : Int).toNat))).fst.Command.File.Client, Value.int IntKind.i64 (callR x (st ((0 : Nat) + (↑j : Int).toNat))).fst.Command.File.Op, Value.int IntKind.i64 (callR x (st ((0 : Nat) + (↑j : Int).toNat))).fst.Command.New.Client, Value.int IntKind.i64 (callR x (st ((0 : Nat) + (↑j : Int).toNat))).fst.Command.New.Op, Value.int IntKind.i64 (callR x (st ((0 : Nat) + (↑j : Int).toNat))).fst.Command.Size, Value.bool (callR x (st ((0 : Nat) + (↑j : Int).toNat))).fst.Decided])) (stepsRows n cap st = stepsRows n cap st ∧
    wideO = wideO ∧
    (k = (0 : Nat) → False) ∧
    (Value.slice (some { block := (0 : Nat), off := (0 : Nat), spot := some (0 : Nat) : Addr }) n cap = Value.slice (some { block := (0 : Nat), off := (0 : Nat), spot := some (0 : Nat) : Addr }) n cap ∧
    Value.pointer (some { block := (1 : Nat), off := (0 : Nat) : Addr }) = Value.pointer (some { block := (1 : Nat), off := (0 : Nat) : Addr }) ∧
    Value.int IntKind.i64 (IntKind.i64.wrap ((↑j : Int) + (1 : Int))) = Value.int IntKind.i64 (IntKind.i64.wrap ((↑j : Int) + (1 : Int))) ∧
    True) ∧
    (stepsRows n cap st = stepsRows n cap st ∧
    wideO = wideO ∧
    (32 : TypeId) = (32 : TypeId)) ∧
    StaysInv n (k - (1 : Nat)) (IntKind.i64.wrap ((↑j : Int) + (1 : Int))) [Value.int IntKind.i64 (callR x (st ((0 : Nat) + (↑j : Int).toNat))).fst.Promised.N, Value.int IntKind.i64 (callR x (st ((0 : Nat) + (↑j : Int).toNat))).fst.Promised.Client, Value.int IntKind.i64 (callR x (st ((0 : Nat) + (↑j : Int).toNat))).fst.Accepted.N, Value.int IntKind.i64 (callR x (st ((0 : Nat) + (↑j : Int).toNat))).fst.Accepted.Client, Value.int IntKind.i64 (callR x (st ((0 : Nat) + (↑j : Int).toNat))).fst.Command.Kind, Value.int IntKind.i64 (callR x (st ((0 : Nat) + (↑j : Int).toNat))).fst.Command.Client, Value.int IntKind.i64 (callR x (st ((0 : Nat) + (↑j : Int).toNat))).fst.Command.Op, Value.string (callR x (st ((0 : Nat) + (↑j : Int).toNat))).fst.Command.Name, Value.int IntKind.i64 (callR x (st ((0 : Nat) + (↑j : Int).toNat))).fst.Command.File.Client, Value.int IntKind.i64 (callR x (st ((0 : Nat) + (↑j : Int).toNat))).fst.Command.File.Op, Value.int IntKind.i64 (callR x (st ((0 : Nat) + (↑j : Int).toNat))).fst.Command.New.Client, Value.int IntKind.i64 (callR x (st ((0 : Nat) + (↑j : Int).toNat))).fst.Command.New.Op, Value.int IntKind.i64 (callR x (st ((0 : Nat) + (↑j : Int).toNat))).fst.Command.Size, Value.bool (callR x (st ((0 : Nat) + (↑j : Int).toNat))).fst.Decided])))))))))))))))
    (bsplit ((st ((0 : Nat) + (↑j : Int).toNat)).Kind != (1 : Int)) (True ∧
    bsplit (!isCommand (st ((0 : Nat) + (↑j : Int).toNat)).C { h := { len := wideCfg.h.len, cap := wideCfg.h.cap, t := (3 : TypeId), m := (1 : Nat) : Hd }, F := wideCfg.F, Points := wideCfg.Points, Buckets := wideCfg.Buckets, Block := wideCfg.Block, Room := wideCfg.Room : GCfg }) (stepsRows n cap st = stepsRows n cap st ∧
    wideO = wideO ∧
    (k = (0 : Nat) → False) ∧
    (Value.slice (some { block := (0 : Nat), off := (0 : Nat), spot := some (0 : Nat) : Addr }) n cap = Value.slice (some { block := (0 : Nat), off := (0 : Nat), spot := some (0 : Nat) : Addr }) n cap ∧
    Value.pointer (some { block := (1 : Nat), off := (0 : Nat) : Addr }) = Value.pointer (some { block := (1 : Nat), off := (0 : Nat) : Addr }) ∧
    Value.int IntKind.i64 (IntKind.i64.wrap ((↑j : Int) + (1 : Int))) = Value.int IntKind.i64 (IntKind.i64.wrap ((↑j : Int) + (1 : Int))) ∧
    True) ∧
    (stepsRows n cap st = stepsRows n cap st ∧
    wideO = wideO ∧
    (32 : TypeId) = (32 : TypeId)) ∧
    StaysInv n (k - (1 : Nat)) (IntKind.i64.wrap ((↑j : Int) + (1 : Int))) x.c)
    (bsplit (!((callR x (st ((0 : Nat) + (↑j : Int).toNat))).fst.Promised.N == (callR x (st ((0 : Nat) + (↑j : Int).toNat))).fst.Promised.N && ((callR x (st ((0 : Nat) + (↑j : Int).toNat))).fst.Promised.Client == (callR x (st ((0 : Nat) + (↑j : Int).toNat))).fst.Promised.Client && true) && ((callR x (st ((0 : Nat) + (↑j : Int).toNat))).fst.Accepted.N == (callR x (st ((0 : Nat) + (↑j : Int).toNat))).fst.Accepted.N && ((callR x (st ((0 : Nat) + (↑j : Int).toNat))).fst.Accepted.Client == (callR x (st ((0 : Nat) + (↑j : Int).toNat))).fst.Accepted.Client && true) && ((callR x (st ((0 : Nat) + (↑j : Int).toNat))).fst.Command.Kind == (callR x (st ((0 : Nat) + (↑j : Int).toNat))).fst.Command.Kind && ((callR x (st ((0 : Nat) + (↑j : Int).toNat))).fst.Command.Client == (callR x (st ((0 : Nat) + (↑j : Int).toNat))).fst.Command.Client && ((callR x (st ((0 : Nat) + (↑j : Int).toNat))).fst.Command.Op == (callR x (st ((0 : Nat) + (↑j : Int).toNat))).fst.Command.Op && ((callR x (st ((0 : Nat) + (↑j : Int).toNat))).fst.Command.Name.data.toList == (callR x (st ((0 : Nat) + (↑j : Int).toNat))).fst.Command.Name.data.toList && ((callR x (st ((0 : Nat) + (↑j : Int).toNat))).fst.Command.File.Client == (callR x (st ((0 : Nat) + (↑j : Int).toNat))).fst.Command.File.Client && ((callR x (st ((0 : Nat) + (↑j : Int).toNat))).fst.Command.File.Op == (callR x (st ((0 : Nat) + (↑j : Int).toNat))).fst.Command.File.Op && true) && ((callR x (st ((0 : Nat) + (↑j : Int).toNat))).fst.Command.New.Client == (callR x (st ((0 : Nat) + (↑j : Int).toNat))).fst.Command.New.Client && ((callR x (st ((0 : Nat) + (↑j : Int).toNat))).fst.Command.New.Op == (callR x (st ((0 : Nat) + (↑j : Int).toNat))).fst.Command.New.Op && true) && ((callR x (st ((0 : Nat) + (↑j : Int).toNat))).fst.Command.Size == (callR x (st ((0 : Nat) + (↑j : Int).toNat))).fst.Command.Size && true)))))) && ((callR x (st ((0 : Nat) + (↑j : Int).toNat))).fst.Decided == (callR x (st ((0 : Nat) + (↑j : Int).toNat))).fst.Decided && true))))) (stepsRows n cap st = stepsRows n cap st ∧
    wideO = wideO ∧
    False)
    (bsplit (!(callR x (st ((0 : Nat) + (↑j : Int).toNat))).snd.snd == (callR x (st ((0 : Nat) + (↑j : Int).toNat))).snd.snd) (stepsRows n cap st = stepsRows n cap st ∧
    wideO = wideO ∧
    False)
    (bsplit ((callR x (st ((0 : Nat) + (↑j : Int).toNat))).snd.fst.Kind != (callR x (st ((0 : Nat) + (↑j : Int).toNat))).snd.fst.Kind) (stepsRows n cap st = stepsRows n cap st ∧
    wideO = wideO ∧
    False)
    (bsplit (!((callR x (st ((0 : Nat) + (↑j : Int).toNat))).snd.fst.Stamp.N == (callR x (st ((0 : Nat) + (↑j : Int).toNat))).snd.fst.Stamp.N && ((callR x (st ((0 : Nat) + (↑j : Int).toNat))).snd.fst.Stamp.Client == (callR x (st ((0 : Nat) + (↑j : Int).toNat))).snd.fst.Stamp.Client && true))) (stepsRows n cap st = stepsRows n cap st ∧
    wideO = wideO ∧
    False)
    (bsplit (!((callR x (st ((0 : Nat) + (↑j : Int).toNat))).snd.fst.Held.N == (callR x (st ((0 : Nat) + (↑j : Int).toNat))).snd.fst.Held.N && ((callR x (st ((0 : Nat) + (↑j : Int).toNat))).snd.fst.Held.Client == (callR x (st ((0 : Nat) + (↑j : Int).toNat))).snd.fst.Held.Client && true))) (stepsRows n cap st = stepsRows n cap st ∧
    wideO = wideO ∧
    False)
    (bsplit (!((callR x (st ((0 : Nat) + (↑j : Int).toNat))).snd.fst.Command.Kind == (callR x (st ((0 : Nat) + (↑j : Int).toNat))).snd.fst.Command.Kind && ((callR x (st ((0 : Nat) + (↑j : Int).toNat))).snd.fst.Command.Client == (callR x (st ((0 : Nat) + (↑j : Int).toNat))).snd.fst.Command.Client && ((callR x (st ((0 : Nat) + (↑j : Int).toNat))).snd.fst.Command.Op == (callR x (st ((0 : Nat) + (↑j : Int).toNat))).snd.fst.Command.Op && ((callR x (st ((0 : Nat) + (↑j : Int).toNat))).snd.fst.Command.Name.data.toList == (callR x (st ((0 : Nat) + (↑j : Int).toNat))).snd.fst.Command.Name.data.toList && ((callR x (st ((0 : Nat) + (↑j : Int).toNat))).snd.fst.Command.File.Client == (callR x (st ((0 : Nat) + (↑j : Int).toNat))).snd.fst.Command.File.Client && ((callR x (st ((0 : Nat) + (↑j : Int).toNat))).snd.fst.Command.File.Op == (callR x (st ((0 : Nat) + (↑j : Int).toNat))).snd.fst.Command.File.Op && true) && ((callR x (st ((0 : Nat) + (↑j : Int).toNat))).snd.fst.Command.New.Client == (callR x (st ((0 : Nat) + (↑j : Int).toNat))).snd.fst.Command.New.Client && ((callR x (st ((0 : Nat) + (↑j : Int).toNat))).snd.fst.Command.New.Op == (callR x (st ((0 : Nat) + (↑j : Int).toNat))).snd.fst.Command.New.Op && true) && ((callR x (st ((0 : Nat) + (↑j : Int).toNat))).snd.fst.Command.Size == (callR x (st ((0 : Nat) + (↑j : Int).toNat))).snd.fst.Command.Size && true)))))))) (stepsRows n cap st = stepsRows n cap st ∧
    wideO = wideO ∧
    False) (True ∧
    bsplit (!isInstance (callR x (st ((0 : Nat) + (↑j : Int).toNat))).fst { h := { len := wideCfg.h.len, cap := wideCfg.h.cap, t := (3 : TypeId), m := (1 : Nat) : Hd }, F := wideCfg.F, Points := wideCfg.Points, Buckets := wideCfg.Buckets, Block := wideCfg.Block, Room := wideCfg.Room : GCfg }) (stepsRows n cap st = stepsRows n cap st ∧
    wideO = wideO ∧
    False)
    (bsplit (!(callR x (st ((0 : Nat) + (↑j : Int).toNat))).snd.snd == !((callR x (st ((0 : Nat) + (↑j : Int).toNat))).fst.Promised.N == x.Promised.N && ((callR x (st ((0 : Nat) + (↑j : Int).toNat))).fst.Promised.Client == x.Promised.Client && true) && ((callR x (st ((0 : Nat) + (↑j : Int).toNat))).fst.Accepted.N == x.Accepted.N && ((callR x (st ((0 : Nat) + (↑j : Int).toNat))).fst.Accepted.Client == x.Accepted.Client && true) && ((callR x (st ((0 : Nat) + (↑j : Int).toNat))).fst.Command.Kind == x.Command.Kind && ((callR x (st ((0 : Nat) + (↑j : Int).toNat))).fst.Command.Client == x.Command.Client && ((callR x (st ((0 : Nat) + (↑j : Int).toNat))).fst.Command.Op == x.Command.Op && ((callR x (st ((0 : Nat) + (↑j : Int).toNat))).fst.Command.Name.data.toList == x.Command.Name.data.toList && ((callR x (st ((0 : Nat) + (↑j : Int).toNat))).fst.Command.File.Client == x.Command.File.Client && ((callR x (st ((0 : Nat) + (↑j : Int).toNat))).fst.Command.File.Op == x.Command.File.Op && true) && ((callR x (st ((0 : Nat) + (↑j : Int).toNat))).fst.Command.New.Client == x.Command.New.Client && ((callR x (st ((0 : Nat) + (↑j : Int).toNat))).fst.Command.New.Op == x.Command.New.Op && true) && ((callR x (st ((0 : Nat) + (↑j : Int).toNat))).fst.Command.Size == x.Command.Size && true)))))) && ((callR x (st ((0 : Nat) + (↑j : Int).toNat))).fst.Decided == x.Decided && true))))) (stepsRows n cap st = stepsRows n cap st ∧
    wideO = wideO ∧
    False)
    (bsplit x.Decided
    (bsplit (callR x (st ((0 : Nat) + (↑j : Int).toNat))).snd.snd (stepsRows n cap st = stepsRows n cap st ∧
    wideO = wideO ∧
    False)
    (bsplit (!(callR x (st ((0 : Nat) + (↑j : Int).toNat))).fst.Decided)
    (bsplit (above x.Promised (callR x (st ((0 : Nat) + (↑j : Int).toNat))).fst.Promised) (stepsRows n cap st = stepsRows n cap st ∧
    wideO = wideO ∧
    False)
    (bsplit (above x.Accepted (callR x (st ((0 : Nat) + (↑j : Int).toNat))).fst.Accepted) (stepsRows n cap st = stepsRows n cap st ∧
    wideO = wideO ∧
    False)
    (bsplit ((st ((0 : Nat) + (↑j : Int).toNat)).Kind == (1 : Int))
    (bsplit (!told x (callR x (st ((0 : Nat) + (↑j : Int).toNat))).fst (callR x (st ((0 : Nat) + (↑j : Int).toNat))).snd.fst (st ((0 : Nat) + (↑j : Int).toNat))) (stepsRows n cap st = stepsRows n cap st ∧
    wideO = wideO ∧
    False) (stepsRows n cap st = stepsRows n cap st ∧
    wideO = wideO ∧
    (k = (0 : Nat) → False) ∧
    (Value.slice (some { block := (0 : Nat), off := (0 : Nat), spot := some (0 : Nat) : Addr }) n cap = Value.slice (some { block := (0 : Nat), off := (0 : Nat), spot := some (0 : Nat) : Addr }) n cap ∧
    Value.pointer (some { block := (1 : Nat), off := (0 : Nat) : Addr }) = Value.pointer (some { block := (1 : Nat), off := (0 : Nat) : Addr }) ∧
    Value.int IntKind.i64 (IntKind.i64.wrap ((↑j : Int) + (1 : Int))) = Value.int IntKind.i64 (IntKind.i64.wrap ((↑j : Int) + (1 : Int))) ∧
    True) ∧
    (stepsRows n cap st = stepsRows n cap st ∧
    wideO = wideO ∧
    (32 : TypeId) = (32 : TypeId)) ∧
    StaysInv n (k - (1 : Nat)) (IntKind.i64.wrap ((↑j : Int) + (1 : Int))) [Value.int IntKind.i64 (callR x (st ((0 : Nat) + (↑j : Int).toNat))).fst.Promised.N, Value.int IntKind.i64 (callR x (st ((0 : Nat) + (↑j : Int).toNat))).fst.Promised.Client, Value.int IntKind.i64 (callR x (st ((0 : Nat) + (↑j : Int).toNat))).fst.Accepted.N, Value.int IntKind.i64 (callR x (st ((0 : Nat) + (↑j : Int).toNat))).fst.Accepted.Client, Value.int IntKind.i64 (callR x (st ((0 : Nat) + (↑j : Int).toNat))).fst.Command.Kind, Value.int IntKind.i64 (callR x (st ((0 : Nat) + (↑j : Int).toNat))).fst.Command.Client, Value.int IntKind.i64 (callR x (st ((0 : Nat) + (↑j : Int).toNat))).fst.Command.Op, Value.string (callR x (st ((0 : Nat) + (↑j : Int).toNat))).fst.Command.Name, Value.int IntKind.i64 (callR x (st ((0 : Nat) + (↑j : Int).toNat))).fst.Command.File.Client, Value.int IntKind.i64 (callR x (st ((0 : Nat) + (↑j : Int).toNat))).fst.Command.File.Op, Value.int IntKind.i64 (callR x (st ((0 : Nat) + (↑j : Int).toNat))).fst.Command.New.Client, Value.int IntKind.i64 (callR x (st ((0 : Nat) + (↑j : Int).toNat))).fst.Command.New.Op, Value.int IntKind.i64 (callR x (st ((0 : Nat) + (↑j : Int).toNat))).fst.Command.Size, Value.bool (callR x (st ((0 : Nat) + (↑j : Int).toNat))).fst.Decided]))
    (bsplit ((st ((0 : Nat) + (↑j : Int).toNat)).Kind == (2 : Int))
    (bsplit (!told x (callR x (st ((0 : Nat) + (↑j : Int).toNat))).fst (callR x (st ((0 : Nat) + (↑j : Int).toNat))).snd.fst (st ((0 : Nat) + (↑j : Int).toNat))) (stepsRows n cap st = stepsRows n cap st ∧
    wideO = wideO ∧
    False) (stepsRows n cap st = stepsRows n cap st ∧
    wideO = wideO ∧
    (k = (0 : Nat) → False) ∧
    (Value.slice (some { block := (0 : Nat), off := (0 : Nat), spot := some (0 : Nat) : Addr }) n cap = Value.slice (some { block := (0 : Nat), off := (0 : Nat), spot := some (0 : Nat) : Addr }) n cap ∧
    Value.pointer (some { block := (1 : Nat), off := (0 : Nat) : Addr }) = Value.pointer (some { block := (1 : Nat), off := (0 : Nat) : Addr }) ∧
    Value.int IntKind.i64 (IntKind.i64.wrap ((↑j : Int) + (1 : Int))) = Value.int IntKind.i64 (IntKind.i64.wrap ((↑j : Int) + (1 : Int))) ∧
    True) ∧
    (stepsRows n cap st = stepsRows n cap st ∧
    wideO = wideO ∧
    (32 : TypeId) = (32 : TypeId)) ∧
    StaysInv n (k - (1 : Nat)) (IntKind.i64.wrap ((↑j : Int) + (1 : Int))) [Value.int IntKind.i64 (callR x (st ((0 : Nat) + (↑j : Int).toNat))).fst.Promised.N, Value.int IntKind.i64 (callR x (st ((0 : Nat) + (↑j : Int).toNat))).fst.Promised.Client, Value.int IntKind.i64 (callR x (st ((0 : Nat) + (↑j : Int).toNat))).fst.Accepted.N, Value.int IntKind.i64 (callR x (st ((0 : Nat) + (↑j : Int).toNat))).fst.Accepted.Client, Value.int IntKind.i64 (callR x (st ((0 : Nat) + (↑j : Int).toNat))).fst.Command.Kind, Value.int IntKind.i64 (callR x (st ((0 : Nat) + (↑j : Int).toNat))).fst.Command.Client, Value.int IntKind.i64 (callR x (st ((0 : Nat) + (↑j : Int).toNat))).fst.Command.Op, Value.string (callR x (st ((0 : Nat) + (↑j : Int).toNat))).fst.Command.Name, Value.int IntKind.i64 (callR x (st ((0 : Nat) + (↑j : Int).toNat))).fst.Command.File.Client, Value.int IntKind.i64 (callR x (st ((0 : Nat) + (↑j : Int).toNat))).fst.Command.File.Op, Value.int IntKind.i64 (callR x (st ((0 : Nat) + (↑j : Int).toNat))).fst.Command.New.Client, Value.int IntKind.i64 (callR x (st ((0 : Nat) + (↑j : Int).toNat))).fst.Command.New.Op, Value.int IntKind.i64 (callR x (st ((0 : Nat) + (↑j : Int).toNat))).fst.Command.Size, Value.bool (callR x (st ((0 : Nat) + (↑j : Int).toNat))).fst.Decided])) (stepsRows n cap st = stepsRows n cap st ∧
    wideO = wideO ∧
    (k = (0 : Nat) → False) ∧
    (Value.slice (some { block := (0 : Nat), off := (0 : Nat), spot := some (0 : Nat) : Addr }) n cap = Value.slice (some { block := (0 : Nat), off := (0 : Nat), spot := some (0 : Nat) : Addr }) n cap ∧
    Value.pointer (some { block := (1 : Nat), off := (0 : Nat) : Addr }) = Value.pointer (some { block := (1 : Nat), off := (0 : Nat) : Addr }) ∧
    Value.int IntKind.i64 (IntKind.i64.wrap ((↑j : Int) + (1 : Int))) = Value.int IntKind.i64 (IntKind.i64.wrap ((↑j : Int) + (1 : Int))) ∧
    True) ∧
    (stepsRows n cap st = stepsRows n cap st ∧
    wideO = wideO ∧
    (32 : TypeId) = (32 : TypeId)) ∧
    StaysInv n (k - (1 : Nat)) (IntKind.i64.wrap ((↑j : Int) + (1 : Int))) [Value.int IntKind.i64 (callR x (st ((0 : Nat) + (↑j : Int).toNat))).fst.Promised.N, Value.int IntKind.i64 (callR x (st ((0 : Nat) + (↑j : Int).toNat))).fst.Promised.Client, Value.int IntKind.i64 (callR x (st ((0 : Nat) + (↑j : Int).toNat))).fst.Accepted.N, Value.int IntKind.i64 (callR x (st ((0 : Nat) + (↑j : Int).toNat))).fst.Accepted.Client, Value.int IntKind.i64 (callR x (st ((0 : Nat) + (↑j : Int).toNat))).fst.Command.Kind, Value.int IntKind.i64 (callR x (st ((0 : Nat) + (↑j : Int).toNat))).fst.Command.Client, Value.int IntKind.i64 (callR x (st ((0 : Nat) + (↑j : Int).toNat))).fst.Command.Op, Value.string (callR x (st ((0 : Nat) + (↑j : Int).toNat))).fst.Command.Name, Value.int IntKind.i64 (callR x (st ((0 : Nat) + (↑j : Int).toNat))).fst.Command.File.Client, Value.int IntKind.i64 (callR x (st ((0 : Nat) + (↑j : Int).toNat))).fst.Command.File.Op, Value.int IntKind.i64 (callR x (st ((0 : Nat) + (↑j : Int).toNat))).fst.Command.New.Client, Value.int IntKind.i64 (callR x (st ((0 : Nat) + (↑j : Int).toNat))).fst.Command.New.Op, Value.int IntKind.i64 (callR x (st ((0 : Nat) + (↑j : Int).toNat))).fst.Command.Size, Value.bool (callR x (st ((0 : Nat) + (↑j : Int).toNat))).fst.Decided])))))
    (bsplit ((st ((0 : Nat) + (↑j : Int).toNat)).Kind == (1 : Int))
    (bsplit (!told x (callR x (st ((0 : Nat) + (↑j : Int).toNat))).fst (callR x (st ((0 : Nat) + (↑j : Int).toNat))).snd.fst (st ((0 : Nat) + (↑j : Int).toNat))) (stepsRows n cap st = stepsRows n cap st ∧
    wideO = wideO ∧
    False) (stepsRows n cap st = stepsRows n cap st ∧
    wideO = wideO ∧
    (k = (0 : Nat) → False) ∧
    (Value.slice (some { block := (0 : Nat), off := (0 : Nat), spot := some (0 : Nat) : Addr }) n cap = Value.slice (some { block := (0 : Nat), off := (0 : Nat), spot := some (0 : Nat) : Addr }) n cap ∧
    Value.pointer (some { block := (1 : Nat), off := (0 : Nat) : Addr }) = Value.pointer (some { block := (1 : Nat), off := (0 : Nat) : Addr }) ∧
    Value.int IntKind.i64 (IntKind.i64.wrap ((↑j : Int) + (1 : Int))) = Value.int IntKind.i64 (IntKind.i64.wrap ((↑j : Int) + (1 : Int))) ∧
    True) ∧
    (stepsRows n cap st = stepsRows n cap st ∧
    wideO = wideO ∧
    (32 : TypeId) = (32 : TypeId)) ∧
    StaysInv n (k - (1 : Nat)) (IntKind.i64.wrap ((↑j : Int) + (1 : Int))) [Value.int IntKind.i64 (callR x (st ((0 : Nat) + (↑j : Int).toNat))).fst.Promised.N, Value.int IntKind.i64 (callR x (st ((0 : Nat) + (↑j : Int).toNat))).fst.Promised.Client, Value.int IntKind.i64 (callR x (st ((0 : Nat) + (↑j : Int).toNat))).fst.Accepted.N, Value.int IntKind.i64 (callR x (st ((0 : Nat) + (↑j : Int).toNat))).fst.Accepted.Client, Value.int IntKind.i64 (callR x (st ((0 : Nat) + (↑j : Int).toNat))).fst.Command.Kind, Value.int IntKind.i64 (callR x (st ((0 : Nat) + (↑j : Int).toNat))).fst.Command.Client, Value.int IntKind.i64 (callR x (st ((0 : Nat) + (↑j : Int).toNat))).fst.Command.Op, Value.string (callR x (st ((0 : Nat) + (↑j : Int).toNat))).fst.Command.Name, Value.int IntKind.i64 (callR x (st ((0 : Nat) + (↑j : Int).toNat))).fst.Command.File.Client, Value.int IntKind.i64 (callR x (st ((0 : Nat) + (↑j : Int).toNat))).fst.Command.File.Op, Value.int IntKind.i64 (callR x (st ((0 : Nat) + (↑j : Int).toNat))).fst.Command.New.Client, Value.int IntKind.i64 (callR x (st ((0 : Nat) + (↑j : Int).toNat))).fst.Command.New.Op, Value.int IntKind.i64 (callR x (st ((0 : Nat) + (↑j : Int).toNat))).fst.Command.Size, Value.bool (callR x (st ((0 : Nat) + (↑j : Int).toNat))).fst.Decided]))
    (bsplit ((st ((0 : Nat) + (↑j : Int).toNat)).Kind == (2 : Int))
    (bsplit (!told x (callR x (st ((0 : Nat) + (↑j : Int).toNat))).fst (callR x (st ((0 : Nat) + (↑j : Int).toNat))).snd.fst (st ((0 : Nat) + (↑j : Int).toNat))) (stepsRows n cap st = stepsRows n cap st ∧
    wideO = wideO ∧
    False) (stepsRows n cap st = stepsRows n cap st ∧
    wideO = wideO ∧
    (k = (0 : Nat) → False) ∧
    (Value.slice (some { block := (0 : Nat), off := (0 : Nat), spot := some (0 : Nat) : Addr }) n cap = Value.slice (some { block := (0 : Nat), off := (0 : Nat), spot := some (0 : Nat) : Addr }) n cap ∧
    Value.pointer (some { block := (1 : Nat), off := (0 : Nat) : Addr }) = Value.pointer (some { block := (1 : Nat), off := (0 : Nat) : Addr }) ∧
    Value.int IntKind.i64 (IntKind.i64.wrap ((↑j : Int) + (1 : Int))) = Value.int IntKind.i64 (IntKind.i64.wrap ((↑j : Int) + (1 : Int))) ∧
    True) ∧
    (stepsRows n cap st = stepsRows n cap st ∧
    wideO = wideO ∧
    (32 : TypeId) = (32 : TypeId)) ∧
    StaysInv n (k - (1 : Nat)) (IntKind.i64.wrap ((↑j : Int) + (1 : Int))) [Value.int IntKind.i64 (callR x (st ((0 : Nat) + (↑j : Int).toNat))).fst.Promised.N, Value.int IntKind.i64 (callR x (st ((0 : Nat) + (↑j : Int).toNat))).fst.Promised.Client, Value.int IntKind.i64 (callR x (st ((0 : Nat) + (↑j : Int).toNat))).fst.Accepted.N, Value.int IntKind.i64 (callR x (st ((0 : Nat) + (↑j : Int).toNat))).fst.Accepted.Client, Value.int IntKind.i64 (callR x (st ((0 : Nat) + (↑j : Int).toNat))).fst.Command.Kind, Value.int IntKind.i64 (callR x (st ((0 : Nat) + (↑j : Int).toNat))).fst.Command.Client, Value.int IntKind.i64 (callR x (st ((0 : Nat) + (↑j : Int).toNat))).fst.Command.Op, Value.string (callR x (st ((0 : Nat) + (↑j : Int).toNat))).fst.Command.Name, Value.int IntKind.i64 (callR x (st ((0 : Nat) + (↑j : Int).toNat))).fst.Command.File.Client, Value.int IntKind.i64 (callR x (st ((0 : Nat) + (↑j : Int).toNat))).fst.Command.File.Op, Value.int IntKind.i64 (callR x (st ((0 : Nat) + (↑j : Int).toNat))).fst.Command.New.Client, Value.int IntKind.i64 (callR x (st ((0 : Nat) + (↑j : Int).toNat))).fst.Command.New.Op, Value.int IntKind.i64 (callR x (st ((0 : Nat) + (↑j : Int).toNat))).fst.Command.Size, Value.bool (callR x (st ((0 : Nat) + (↑j : Int).toNat))).fst.Decided])) (stepsRows n cap st = stepsRows n cap st ∧
    wideO = wideO ∧
    (k = (0 : Nat) → False) ∧
    (Value.slice (some { block := (0 : Nat), off := (0 : Nat), spot := some (0 : Nat) : Addr }) n cap = Value.slice (some { block := (0 : Nat), off := (0 : Nat), spot := some (0 : Nat) : Addr }) n cap ∧
    Value.pointer (some { block := (1 : Nat), off := (0 : Nat) : Addr }) = Value.pointer (some { block := (1 : Nat), off := (0 : Nat) : Addr }) ∧
    Value.int IntKind.i64 (IntKind.i64.wrap ((↑j : Int) + (1 : Int))) = Value.int IntKind.i64 (IntKind.i64.wrap ((↑j : Int) + (1 : Int))) ∧
    True) ∧
    (stepsRows n cap st = stepsRows n cap st ∧
    wideO = wideO ∧
    (32 : TypeId) = (32 : TypeId)) ∧
    StaysInv n (k - (1 : Nat)) (IntKind.i64.wrap ((↑j : Int) + (1 : Int))) [Value.int IntKind.i64 (callR x (st ((0 : Nat) + (↑j : Int).toNat))).fst.Promised.N, Value.int IntKind.i64 (callR x (st ((0 : Nat) + (↑j : Int).toNat))).fst.Promised.Client, Value.int IntKind.i64 (callR x (st ((0 : Nat) + (↑j : Int).toNat))).fst.Accepted.N, Value.int IntKind.i64 (callR x (st ((0 : Nat) + (↑j : Int).toNat))).fst.Accepted.Client, Value.int IntKind.i64 (callR x (st ((0 : Nat) + (↑j : Int).toNat))).fst.Command.Kind, Value.int IntKind.i64 (callR x (st ((0 : Nat) + (↑j : Int).toNat))).fst.Command.Client, Value.int IntKind.i64 (callR x (st ((0 : Nat) + (↑j : Int).toNat))).fst.Command.Op, Value.string (callR x (st ((0 : Nat) + (↑j : Int).toNat))).fst.Command.Name, Value.int IntKind.i64 (callR x (st ((0 : Nat) + (↑j : Int).toNat))).fst.Command.File.Client, Value.int IntKind.i64 (callR x (st ((0 : Nat) + (↑j : Int).toNat))).fst.Command.File.Op, Value.int IntKind.i64 (callR x (st ((0 : Nat) + (↑j : Int).toNat))).fst.Command.New.Client, Value.int IntKind.i64 (callR x (st ((0 : Nat) + (↑j : Int).toNat))).fst.Command.New.Op, Value.int IntKind.i64 (callR x (st ((0 : Nat) + (↑j : Int).toNat))).fst.Command.Size, Value.bool (callR x (st ((0 : Nat) + (↑j : Int).toNat))).fst.Decided])))))
    (bsplit (!(callR x (st ((0 : Nat) + (↑j : Int).toNat))).fst.Decided)
    (bsplit (above x.Promised (callR x (st ((0 : Nat) + (↑j : Int).toNat))).fst.Promised) (stepsRows n cap st = stepsRows n cap st ∧
    wideO = wideO ∧
    False)
    (bsplit (above x.Accepted (callR x (st ((0 : Nat) + (↑j : Int).toNat))).fst.Accepted) (stepsRows n cap st = stepsRows n cap st ∧
    wideO = wideO ∧
    False)
    (bsplit ((st ((0 : Nat) + (↑j : Int).toNat)).Kind == (1 : Int))
    (bsplit (!told x (callR x (st ((0 : Nat) + (↑j : Int).toNat))).fst (callR x (st ((0 : Nat) + (↑j : Int).toNat))).snd.fst (st ((0 : Nat) + (↑j : Int).toNat))) (stepsRows n cap st = stepsRows n cap st ∧
    wideO = wideO ∧
    False) (stepsRows n cap st = stepsRows n cap st ∧
    wideO = wideO ∧
    (k = (0 : Nat) → False) ∧
    (Value.slice (some { block := (0 : Nat), off := (0 : Nat), spot := some (0 : Nat) : Addr }) n cap = Value.slice (some { block := (0 : Nat), off := (0 : Nat), spot := some (0 : Nat) : Addr }) n cap ∧
    Value.pointer (some { block := (1 : Nat), off := (0 : Nat) : Addr }) = Value.pointer (some { block := (1 : Nat), off := (0 : Nat) : Addr }) ∧
    Value.int IntKind.i64 (IntKind.i64.wrap ((↑j : Int) + (1 : Int))) = Value.int IntKind.i64 (IntKind.i64.wrap ((↑j : Int) + (1 : Int))) ∧
    True) ∧
    (stepsRows n cap st = stepsRows n cap st ∧
    wideO = wideO ∧
    (32 : TypeId) = (32 : TypeId)) ∧
    StaysInv n (k - (1 : Nat)) (IntKind.i64.wrap ((↑j : Int) + (1 : Int))) [Value.int IntKind.i64 (callR x (st ((0 : Nat) + (↑j : Int).toNat))).fst.Promised.N, Value.int IntKind.i64 (callR x (st ((0 : Nat) + (↑j : Int).toNat))).fst.Promised.Client, Value.int IntKind.i64 (callR x (st ((0 : Nat) + (↑j : Int).toNat))).fst.Accepted.N, Value.int IntKind.i64 (callR x (st ((0 : Nat) + (↑j : Int).toNat))).fst.Accepted.Client, Value.int IntKind.i64 (callR x (st ((0 : Nat) + (↑j : Int).toNat))).fst.Command.Kind, Value.int IntKind.i64 (callR x (st ((0 : Nat) + (↑j : Int).toNat))).fst.Command.Client, Value.int IntKind.i64 (callR x (st ((0 : Nat) + (↑j : Int).toNat))).fst.Command.Op, Value.string (callR x (st ((0 : Nat) + (↑j : Int).toNat))).fst.Command.Name, Value.int IntKind.i64 (callR x (st ((0 : Nat) + (↑j : Int).toNat))).fst.Command.File.Client, Value.int IntKind.i64 (callR x (st ((0 : Nat) + (↑j : Int).toNat))).fst.Command.File.Op, Value.int IntKind.i64 (callR x (st ((0 : Nat) + (↑j : Int).toNat))).fst.Command.New.Client, Value.int IntKind.i64 (callR x (st ((0 : Nat) + (↑j : Int).toNat))).fst.Command.New.Op, Value.int IntKind.i64 (callR x (st ((0 : Nat) + (↑j : Int).toNat))).fst.Command.Size, Value.bool (callR x (st ((0 : Nat) + (↑j : Int).toNat))).fst.Decided]))
    (bsplit ((st ((0 : Nat) + (↑j : Int).toNat)).Kind == (2 : Int))
    (bsplit (!told x (callR x (st ((0 : Nat) + (↑j : Int).toNat))).fst (callR x (st ((0 : Nat) + (↑j : Int).toNat))).snd.fst (st ((0 : Nat) + (↑j : Int).toNat))) (stepsRows n cap st = stepsRows n cap st ∧
    wideO = wideO ∧
    False) (stepsRows n cap st = stepsRows n cap st ∧
    wideO = wideO ∧
    (k = (0 : Nat) → False) ∧
    (Value.slice (some { block := (0 : Nat), off := (0 : Nat), spot := some (0 : Nat) : Addr }) n cap = Value.slice (some { block := (0 : Nat), off := (0 : Nat), spot := some (0 : Nat) : Addr }) n cap ∧
    Value.pointer (some { block := (1 : Nat), off := (0 : Nat) : Addr }) = Value.pointer (some { block := (1 : Nat), off := (0 : Nat) : Addr }) ∧
    Value.int IntKind.i64 (IntKind.i64.wrap ((↑j : Int) + (1 : Int))) = Value.int IntKind.i64 (IntKind.i64.wrap ((↑j : Int) + (1 : Int))) ∧
    True) ∧
    (stepsRows n cap st = stepsRows n cap st ∧
    wideO = wideO ∧
    (32 : TypeId) = (32 : TypeId)) ∧
    StaysInv n (k - (1 : Nat)) (IntKind.i64.wrap ((↑j : Int) + (1 : Int))) [Value.int IntKind.i64 (callR x (st ((0 : Nat) + (↑j : Int).toNat))).fst.Promised.N, Value.int IntKind.i64 (callR x (st ((0 : Nat) + (↑j : Int).toNat))).fst.Promised.Client, Value.int IntKind.i64 (callR x (st ((0 : Nat) + (↑j : Int).toNat))).fst.Accepted.N, Value.int IntKind.i64 (callR x (st ((0 : Nat) + (↑j : Int).toNat))).fst.Accepted.Client, Value.int IntKind.i64 (callR x (st ((0 : Nat) + (↑j : Int).toNat))).fst.Command.Kind, Value.int IntKind.i64 (callR x (st ((0 : Nat) + (↑j : Int).toNat))).fst.Command.Client, Value.int IntKind.i64 (callR x (st ((0 : Nat) + (↑j : Int).toNat))).fst.Command.Op, Value.string (callR x (st ((0 : Nat) + (↑j : Int).toNat))).fst.Command.Name, Value.int IntKind.i64 (callR x (st ((0 : Nat) + (↑j : Int).toNat))).fst.Command.File.Client, Value.int IntKind.i64 (callR x (st ((0 : Nat) + (↑j : Int).toNat))).fst.Command.File.Op, Value.int IntKind.i64 (callR x (st ((0 : Nat) + (↑j : Int).toNat))).fst.Command.New.Client, Value.int IntKind.i64 (callR x (st ((0 : Nat) + (↑j : Int).toNat))).fst.Command.New.Op, Value.int IntKind.i64 (callR x (st ((0 : Nat) + (↑j : Int).toNat))).fst.Command.Size, Value.bool (callR x (st ((0 : Nat) + (↑j : Int).toNat))).fst.Decided])) (stepsRows n cap st = stepsRows n cap st ∧
    wideO = wideO ∧
    (k = (0 : Nat) → False) ∧
    (Value.slice (some { block := (0 : Nat), off := (0 : Nat), spot := some (0 : Nat) : Addr }) n cap = Value.slice (some { block := (0 : Nat), off := (0 : Nat), spot := some (0 : Nat) : Addr }) n cap ∧
    Value.pointer (some { block := (1 : Nat), off := (0 : Nat) : Addr }) = Value.pointer (some { block := (1 : Nat), off := (0 : Nat) : Addr }) ∧
    Value.int IntKind.i64 (IntKind.i64.wrap ((↑j : Int) + (1 : Int))) = Value.int IntKind.i64 (IntKind.i64.wrap ((↑j : Int) + (1 : Int))) ∧
    True) ∧
    (stepsRows n cap st = stepsRows n cap st ∧
    wideO = wideO ∧
    (32 : TypeId) = (32 : TypeId)) ∧
    StaysInv n (k - (1 : Nat)) (IntKind.i64.wrap ((↑j : Int) + (1 : Int))) [Value.int IntKind.i64 (callR x (st ((0 : Nat) + (↑j : Int).toNat))).fst.Promised.N, Value.int IntKind.i64 (callR x (st ((0 : Nat) + (↑j : Int).toNat))).fst.Promised.Client, Value.int IntKind.i64 (callR x (st ((0 : Nat) + (↑j : Int).toNat))).fst.Accepted.N, Value.int IntKind.i64 (callR x (st ((0 : Nat) + (↑j : Int).toNat))).fst.Accepted.Client, Value.int IntKind.i64 (callR x (st ((0 : Nat) + (↑j : Int).toNat))).fst.Command.Kind, Value.int IntKind.i64 (callR x (st ((0 : Nat) + (↑j : Int).toNat))).fst.Command.Client, Value.int IntKind.i64 (callR x (st ((0 : Nat) + (↑j : Int).toNat))).fst.Command.Op, Value.string (callR x (st ((0 : Nat) + (↑j : Int).toNat))).fst.Command.Name, Value.int IntKind.i64 (callR x (st ((0 : Nat) + (↑j : Int).toNat))).fst.Command.File.Client, Value.int IntKind.i64 (callR x (st ((0 : Nat) + (↑j : Int).toNat))).fst.Command.File.Op, Value.int IntKind.i64 (callR x (st ((0 : Nat) + (↑j : Int).toNat))).fst.Command.New.Client, Value.int IntKind.i64 (callR x (st ((0 : Nat) + (↑j : Int).toNat))).fst.Command.New.Op, Value.int IntKind.i64 (callR x (st ((0 : Nat) + (↑j : Int).toNat))).fst.Command.Size, Value.bool (callR x (st ((0 : Nat) + (↑j : Int).toNat))).fst.Decided])))))
    (bsplit ((st ((0 : Nat) + (↑j : Int).toNat)).Kind == (1 : Int))
    (bsplit (!told x (callR x (st ((0 : Nat) + (↑j : Int).toNat))).fst (callR x (st ((0 : Nat) + (↑j : Int).toNat))).snd.fst (st ((0 : Nat) + (↑j : Int).toNat))) (stepsRows n cap st = stepsRows n cap st ∧
    wideO = wideO ∧
    False) (stepsRows n cap st = stepsRows n cap st ∧
    wideO = wideO ∧
    (k = (0 : Nat) → False) ∧
    (Value.slice (some { block := (0 : Nat), off := (0 : Nat), spot := some (0 : Nat) : Addr }) n cap = Value.slice (some { block := (0 : Nat), off := (0 : Nat), spot := some (0 : Nat) : Addr }) n cap ∧
    Value.pointer (some { block := (1 : Nat), off := (0 : Nat) : Addr }) = Value.pointer (some { block := (1 : Nat), off := (0 : Nat) : Addr }) ∧
    Value.int IntKind.i64 (IntKind.i64.wrap ((↑j : Int) + (1 : Int))) = Value.int IntKind.i64 (IntKind.i64.wrap ((↑j : Int) + (1 : Int))) ∧
    True) ∧
    (stepsRows n cap st = stepsRows n cap st ∧
    wideO = wideO ∧
    (32 : TypeId) = (32 : TypeId)) ∧
    StaysInv n (k - (1 : Nat)) (IntKind.i64.wrap ((↑j : Int) + (1 : Int))) [Value.int IntKind.i64 (callR x (st ((0 : Nat) + (↑j : Int).toNat))).fst.Promised.N, Value.int IntKind.i64 (callR x (st ((0 : Nat) + (↑j : Int).toNat))).fst.Promised.Client, Value.int IntKind.i64 (callR x (st ((0 : Nat) + (↑j : Int).toNat))).fst.Accepted.N, Value.int IntKind.i64 (callR x (st ((0 : Nat) + (↑j : Int).toNat))).fst.Accepted.Client, Value.int IntKind.i64 (callR x (st ((0 : Nat) + (↑j : Int).toNat))).fst.Command.Kind, Value.int IntKind.i64 (callR x (st ((0 : Nat) + (↑j : Int).toNat))).fst.Command.Client, Value.int IntKind.i64 (callR x (st ((0 : Nat) + (↑j : Int).toNat))).fst.Command.Op, Value.string (callR x (st ((0 : Nat) + (↑j : Int).toNat))).fst.Command.Name, Value.int IntKind.i64 (callR x (st ((0 : Nat) + (↑j : Int).toNat))).fst.Command.File.Client, Value.int IntKind.i64 (callR x (st ((0 : Nat) + (↑j : Int).toNat))).fst.Command.File.Op, Value.int IntKind.i64 (callR x (st ((0 : Nat) + (↑j : Int).toNat))).fst.Command.New.Client, Value.int IntKind.i64 (callR x (st ((0 : Nat) + (↑j : Int).toNat))).fst.Command.New.Op, Value.int IntKind.i64 (callR x (st ((0 : Nat) + (↑j : Int).toNat))).fst.Command.Size, Value.bool (callR x (st ((0 : Nat) + (↑j : Int).toNat))).fst.Decided]))
    (bsplit ((st ((0 : Nat) + (↑j : Int).toNat)).Kind == (2 : Int))
    (bsplit (!told x (callR x (st ((0 : Nat) + (↑j : Int).toNat))).fst (callR x (st ((0 : Nat) + (↑j : Int).toNat))).snd.fst (st ((0 : Nat) + (↑j : Int).toNat))) (stepsRows n cap st = stepsRows n cap st ∧
    wideO = wideO ∧
    False) (stepsRows n cap st = stepsRows n cap st ∧
    wideO = wideO ∧
    (k = (0 : Nat) → False) ∧
    (Value.slice (some { block := (0 : Nat), off := (0 : Nat), spot := some (0 : Nat) : Addr }) n cap = Value.slice (some { block := (0 : Nat), off := (0 : Nat), spot := some (0 : Nat) : Addr }) n cap ∧
    Value.pointer (some { block := (1 : Nat), off := (0 : Nat) : Addr }) = Value.pointer (some { block := (1 : Nat), off := (0 : Nat) : Addr }) ∧
    Value.int IntKind.i64 (IntKind.i64.wrap ((↑j : Int) + (1 : Int))) = Value.int IntKind.i64 (IntKind.i64.wrap ((↑j : Int) + (1 : Int))) ∧
    True) ∧
    (stepsRows n cap st = stepsRows n cap st ∧
    wideO = wideO ∧
    (32 : TypeId) = (32 : TypeId)) ∧
    StaysInv n (k - (1 : Nat)) (IntKind.i64.wrap ((↑j : Int) + (1 : Int))) [Value.int IntKind.i64 (callR x (st ((0 : Nat) + (↑j : Int).toNat))).fst.Promised.N, Value.int IntKind.i64 (callR x (st ((0 : Nat) + (↑j : Int).toNat))).fst.Promised.Client, Value.int IntKind.i64 (callR x (st ((0 : Nat) + (↑j : Int).toNat))).fst.Accepted.N, Value.int IntKind.i64 (callR x (st ((0 : Nat) + (↑j : Int).toNat))).fst.Accepted.Client, Value.int IntKind.i64 (callR x (st ((0 : Nat) + (↑j : Int).toNat))).fst.Command.Kind, Value.int IntKind.i64 (callR x (st ((0 : Nat) + (↑j : Int).toNat))).fst.Command.Client, Value.int IntKind.i64 (callR x (st ((0 : Nat) + (↑j : Int).toNat))).fst.Command.Op, Value.string (callR x (st ((0 : Nat) + (↑j : Int).toNat))).fst.Command.Name, Value.int IntKind.i64 (callR x (st ((0 : Nat) + (↑j : Int).toNat))).fst.Command.File.Client, Value.int IntKind.i64 (callR x (st ((0 : Nat) + (↑j : Int).toNat))).fst.Command.File.Op, Value.int IntKind.i64 (callR x (st ((0 : Nat) + (↑j : Int).toNat))).fst.Command.New.Client, Value.int IntKind.i64 (callR x (st ((0 : Nat) + (↑j : Int).toNat))).fst.Command.New.Op, Value.int IntKind.i64 (callR x (st ((0 : Nat) + (↑j : Int).toNat))).fst.Command.Size, Value.bool (callR x (st ((0 : Nat) + (↑j : Int).toNat))).fst.Decided])) (stepsRows n cap st = stepsRows n cap st ∧
    wideO = wideO ∧
    (k = (0 : Nat) → False) ∧
    (Value.slice (some { block := (0 : Nat), off := (0 : Nat), spot := some (0 : Nat) : Addr }) n cap = Value.slice (some { block := (0 : Nat), off := (0 : Nat), spot := some (0 : Nat) : Addr }) n cap ∧
    Value.pointer (some { block := (1 : Nat), off := (0 : Nat) : Addr }) = Value.pointer (some { block := (1 : Nat), off := (0 : Nat) : Addr }) ∧
    Value.int IntKind.i64 (IntKind.i64.wrap ((↑j : Int) + (1 : Int))) = Value.int IntKind.i64 (IntKind.i64.wrap ((↑j : Int) + (1 : Int))) ∧
    True) ∧
    (stepsRows n cap st = stepsRows n cap st ∧
    wideO = wideO ∧
    (32 : TypeId) = (32 : TypeId)) ∧
    StaysInv n (k - (1 : Nat)) (IntKind.i64.wrap ((↑j : Int) + (1 : Int))) [Value.int IntKind.i64 (callR x (st ((0 : Nat) + (↑j : Int).toNat))).fst.Promised.N, Value.int IntKind.i64 (callR x (st ((0 : Nat) + (↑j : Int).toNat))).fst.Promised.Client, Value.int IntKind.i64 (callR x (st ((0 : Nat) + (↑j : Int).toNat))).fst.Accepted.N, Value.int IntKind.i64 (callR x (st ((0 : Nat) + (↑j : Int).toNat))).fst.Accepted.Client, Value.int IntKind.i64 (callR x (st ((0 : Nat) + (↑j : Int).toNat))).fst.Command.Kind, Value.int IntKind.i64 (callR x (st ((0 : Nat) + (↑j : Int).toNat))).fst.Command.Client, Value.int IntKind.i64 (callR x (st ((0 : Nat) + (↑j : Int).toNat))).fst.Command.Op, Value.string (callR x (st ((0 : Nat) + (↑j : Int).toNat))).fst.Command.Name, Value.int IntKind.i64 (callR x (st ((0 : Nat) + (↑j : Int).toNat))).fst.Command.File.Client, Value.int IntKind.i64 (callR x (st ((0 : Nat) + (↑j : Int).toNat))).fst.Command.File.Op, Value.int IntKind.i64 (callR x (st ((0 : Nat) + (↑j : Int).toNat))).fst.Command.New.Client, Value.int IntKind.i64 (callR x (st ((0 : Nat) + (↑j : Int).toNat))).fst.Command.New.Op, Value.int IntKind.i64 (callR x (st ((0 : Nat) + (↑j : Int).toNat))).fst.Command.Size, Value.bool (callR x (st ((0 : Nat) + (↑j : Int).toNat))).fst.Decided]))))))))))))))
    (bsplit (!((callR x (st ((0 : Nat) + (↑j : Int).toNat))).fst.Promised.N == (callR x (st ((0 : Nat) + (↑j : Int).toNat))).fst.Promised.N && ((callR x (st ((0 : Nat) + (↑j : Int).toNat))).fst.Promised.Client == (callR x (st ((0 : Nat) + (↑j : Int).toNat))).fst.Promised.Client && true) && ((callR x (st ((0 : Nat) + (↑j : Int).toNat))).fst.Accepted.N == (callR x (st ((0 : Nat) + (↑j : Int).toNat))).fst.Accepted.N && ((callR x (st ((0 : Nat) + (↑j : Int).toNat))).fst.Accepted.Client == (callR x (st ((0 : Nat) + (↑j : Int).toNat))).fst.Accepted.Client && true) && ((callR x (st ((0 : Nat) + (↑j : Int).toNat))).fst.Command.Kind == (callR x (st ((0 : Nat) + (↑j : Int).toNat))).fst.Command.Kind && ((callR x (st ((0 : Nat) + (↑j : Int).toNat))).fst.Command.Client == (callR x (st ((0 : Nat) + (↑j : Int).toNat))).fst.Command.Client && ((callR x (st ((0 : Nat) + (↑j : Int).toNat))).fst.Command.Op == (callR x (st ((0 : Nat) + (↑j : Int).toNat))).fst.Command.Op && ((callR x (st ((0 : Nat) + (↑j : Int).toNat))).fst.Command.Name.data.toList == (callR x (st ((0 : Nat) + (↑j : Int).toNat))).fst.Command.Name.data.toList && ((callR x (st ((0 : Nat) + (↑j : Int).toNat))).fst.Command.File.Client == (callR x (st ((0 : Nat) + (↑j : Int).toNat))).fst.Command.File.Client && ((callR x (st ((0 : Nat) + (↑j : Int).toNat))).fst.Command.File.Op == (callR x (st ((0 : Nat) + (↑j : Int).toNat))).fst.Command.File.Op && true) && ((callR x (st ((0 : Nat) + (↑j : Int).toNat))).fst.Command.New.Client == (callR x (st ((0 : Nat) + (↑j : Int).toNat))).fst.Command.New.Client && ((callR x (st ((0 : Nat) + (↑j : Int).toNat))).fst.Command.New.Op == (callR x (st ((0 : Nat) + (↑j : Int).toNat))).fst.Command.New.Op && true) && ((callR x (st ((0 : Nat) + (↑j : Int).toNat))).fst.Command.Size == (callR x (st ((0 : Nat) + (↑j : Int).toNat))).fst.Command.Size && true)))))) && ((callR x (st ((0 : Nat) + (↑j : Int).toNat))).fst.Decided == (callR x (st ((0 : Nat) + (↑j : Int).toNat))).fst.Decided && true))))) (stepsRows n cap st = stepsRows n cap st ∧
    wideO = wideO ∧
    False)
    (bsplit (!(callR x (st ((0 : Nat) + (↑j : Int).toNat))).snd.snd == (callR x (st ((0 : Nat) + (↑j : Int).toNat))).snd.snd) (stepsRows n cap st = stepsRows n cap st ∧
    wideO = wideO ∧
    False)
    (bsplit ((callR x (st ((0 : Nat) + (↑j : Int).toNat))).snd.fst.Kind != (callR x (st ((0 : Nat) + (↑j : Int).toNat))).snd.fst.Kind) (stepsRows n cap st = stepsRows n cap st ∧
    wideO = wideO ∧
    False)
    (bsplit (!((callR x (st ((0 : Nat) + (↑j : Int).toNat))).snd.fst.Stamp.N == (callR x (st ((0 : Nat) + (↑j : Int).toNat))).snd.fst.Stamp.N && ((callR x (st ((0 : Nat) + (↑j : Int).toNat))).snd.fst.Stamp.Client == (callR x (st ((0 : Nat) + (↑j : Int).toNat))).snd.fst.Stamp.Client && true))) (stepsRows n cap st = stepsRows n cap st ∧
    wideO = wideO ∧
    False)
    (bsplit (!((callR x (st ((0 : Nat) + (↑j : Int).toNat))).snd.fst.Held.N == (callR x (st ((0 : Nat) + (↑j : Int).toNat))).snd.fst.Held.N && ((callR x (st ((0 : Nat) + (↑j : Int).toNat))).snd.fst.Held.Client == (callR x (st ((0 : Nat) + (↑j : Int).toNat))).snd.fst.Held.Client && true))) (stepsRows n cap st = stepsRows n cap st ∧
    wideO = wideO ∧
    False)
    (bsplit (!((callR x (st ((0 : Nat) + (↑j : Int).toNat))).snd.fst.Command.Kind == (callR x (st ((0 : Nat) + (↑j : Int).toNat))).snd.fst.Command.Kind && ((callR x (st ((0 : Nat) + (↑j : Int).toNat))).snd.fst.Command.Client == (callR x (st ((0 : Nat) + (↑j : Int).toNat))).snd.fst.Command.Client && ((callR x (st ((0 : Nat) + (↑j : Int).toNat))).snd.fst.Command.Op == (callR x (st ((0 : Nat) + (↑j : Int).toNat))).snd.fst.Command.Op && ((callR x (st ((0 : Nat) + (↑j : Int).toNat))).snd.fst.Command.Name.data.toList == (callR x (st ((0 : Nat) + (↑j : Int).toNat))).snd.fst.Command.Name.data.toList && ((callR x (st ((0 : Nat) + (↑j : Int).toNat))).snd.fst.Command.File.Client == (callR x (st ((0 : Nat) + (↑j : Int).toNat))).snd.fst.Command.File.Client && ((callR x (st ((0 : Nat) + (↑j : Int).toNat))).snd.fst.Command.File.Op == (callR x (st ((0 : Nat) + (↑j : Int).toNat))).snd.fst.Command.File.Op && true) && ((callR x (st ((0 : Nat) + (↑j : Int).toNat))).snd.fst.Command.New.Client == (callR x (st ((0 : Nat) + (↑j : Int).toNat))).snd.fst.Command.New.Client && ((callR x (st ((0 : Nat) + (↑j : Int).toNat))).snd.fst.Command.New.Op == (callR x (st ((0 : Nat) + (↑j : Int).toNat))).snd.fst.Command.New.Op && true) && ((callR x (st ((0 : Nat) + (↑j : Int).toNat))).snd.fst.Command.Size == (callR x (st ((0 : Nat) + (↑j : Int).toNat))).snd.fst.Command.Size && true)))))))) (stepsRows n cap st = stepsRows n cap st ∧
    wideO = wideO ∧
    False) (True ∧
    bsplit (!isInstance (callR x (st ((0 : Nat) + (↑j : Int).toNat))).fst { h := { len := wideCfg.h.len, cap := wideCfg.h.cap, t := (3 : TypeId), m := (1 : Nat) : Hd }, F := wideCfg.F, Points := wideCfg.Points, Buckets := wideCfg.Buckets, Block := wideCfg.Block, Room := wideCfg.Room : GCfg }) (stepsRows n cap st = stepsRows n cap st ∧
    wideO = wideO ∧
    False)
    (bsplit (!(callR x (st ((0 : Nat) + (↑j : Int).toNat))).snd.snd == !((callR x (st ((0 : Nat) + (↑j : Int).toNat))).fst.Promised.N == x.Promised.N && ((callR x (st ((0 : Nat) + (↑j : Int).toNat))).fst.Promised.Client == x.Promised.Client && true) && ((callR x (st ((0 : Nat) + (↑j : Int).toNat))).fst.Accepted.N == x.Accepted.N && ((callR x (st ((0 : Nat) + (↑j : Int).toNat))).fst.Accepted.Client == x.Accepted.Client && true) && ((callR x (st ((0 : Nat) + (↑j : Int).toNat))).fst.Command.Kind == x.Command.Kind && ((callR x (st ((0 : Nat) + (↑j : Int).toNat))).fst.Command.Client == x.Command.Client && ((callR x (st ((0 : Nat) + (↑j : Int).toNat))).fst.Command.Op == x.Command.Op && ((callR x (st ((0 : Nat) + (↑j : Int).toNat))).fst.Command.Name.data.toList == x.Command.Name.data.toList && ((callR x (st ((0 : Nat) + (↑j : Int).toNat))).fst.Command.File.Client == x.Command.File.Client && ((callR x (st ((0 : Nat) + (↑j : Int).toNat))).fst.Command.File.Op == x.Command.File.Op && true) && ((callR x (st ((0 : Nat) + (↑j : Int).toNat))).fst.Command.New.Client == x.Command.New.Client && ((callR x (st ((0 : Nat) + (↑j : Int).toNat))).fst.Command.New.Op == x.Command.New.Op && true) && ((callR x (st ((0 : Nat) + (↑j : Int).toNat))).fst.Command.Size == x.Command.Size && true)))))) && ((callR x (st ((0 : Nat) + (↑j : Int).toNat))).fst.Decided == x.Decided && true))))) (stepsRows n cap st = stepsRows n cap st ∧
    wideO = wideO ∧
    False)
    (bsplit x.Decided
    (bsplit (callR x (st ((0 : Nat) + (↑j : Int).toNat))).snd.snd (stepsRows n cap st = stepsRows n cap st ∧
    wideO = wideO ∧
    False)
    (bsplit (!(callR x (st ((0 : Nat) + (↑j : Int).toNat))).fst.Decided)
    (bsplit (above x.Promised (callR x (st ((0 : Nat) + (↑j : Int).toNat))).fst.Promised) (stepsRows n cap st = stepsRows n cap st ∧
    wideO = wideO ∧
    False)
    (bsplit (above x.Accepted (callR x (st ((0 : Nat) + (↑j : Int).toNat))).fst.Accepted) (stepsRows n cap st = stepsRows n cap st ∧
    wideO = wideO ∧
    False)
    (bsplit ((st ((0 : Nat) + (↑j : Int).toNat)).Kind == (1 : Int))
    (bsplit (!told x (callR x (st ((0 : Nat) + (↑j : Int).toNat))).fst (callR x (st ((0 : Nat) + (↑j : Int).toNat))).snd.fst (st ((0 : Nat) + (↑j : Int).toNat))) (stepsRows n cap st = stepsRows n cap st ∧
    wideO = wideO ∧
    False) (stepsRows n cap st = stepsRows n cap st ∧
    wideO = wideO ∧
    (k = (0 : Nat) → False) ∧
    (Value.slice (some { block := (0 : Nat), off := (0 : Nat), spot := some (0 : Nat) : Addr }) n cap = Value.slice (some { block := (0 : Nat), off := (0 : Nat), spot := some (0 : Nat) : Addr }) n cap ∧
    Value.pointer (some { block := (1 : Nat), off := (0 : Nat) : Addr }) = Value.pointer (some { block := (1 : Nat), off := (0 : Nat) : Addr }) ∧
    Value.int IntKind.i64 (IntKind.i64.wrap ((↑j : Int) + (1 : Int))) = Value.int IntKind.i64 (IntKind.i64.wrap ((↑j : Int) + (1 : Int))) ∧
    True) ∧
    (stepsRows n cap st = stepsRows n cap st ∧
    wideO = wideO ∧
    (32 : TypeId) = (32 : TypeId)) ∧
    StaysInv n (k - (1 : Nat)) (IntKind.i64.wrap ((↑j : Int) + (1 : Int))) [Value.int IntKind.i64 (callR x (st ((0 : Nat) + (↑j : Int).toNat))).fst.Promised.N, Value.int IntKind.i64 (callR x (st ((0 : Nat) + (↑j : Int).toNat))).fst.Promised.Client, Value.int IntKind.i64 (callR x (st ((0 : Nat) + (↑j : Int).toNat))).fst.Accepted.N, Value.int IntKind.i64 (callR x (st ((0 : Nat) + (↑j : Int).toNat))).fst.Accepted.Client, Value.int IntKind.i64 (callR x (st ((0 : Nat) + (↑j : Int).toNat))).fst.Command.Kind, Value.int IntKind.i64 (callR x (st ((0 : Nat) + (↑j : Int).toNat))).fst.Command.Client, Value.int IntKind.i64 (callR x (st ((0 : Nat) + (↑j : Int).toNat))).fst.Command.Op, Value.string (callR x (st ((0 : Nat) + (↑j : Int).toNat))).fst.Command.Name, Value.int IntKind.i64 (callR x (st ((0 : Nat) + (↑j : Int).toNat))).fst.Command.File.Client, Value.int IntKind.i64 (callR x (st ((0 : Nat) + (↑j : Int).toNat))).fst.Command.File.Op, Value.int IntKind.i64 (callR x (st ((0 : Nat) + (↑j : Int).toNat))).fst.Command.New.Client, Value.int IntKind.i64 (callR x (st ((0 : Nat) + (↑j : Int).toNat))).fst.Command.New.Op, Value.int IntKind.i64 (callR x (st ((0 : Nat) + (↑j : Int).toNat))).fst.Command.Size, Value.bool (callR x (st ((0 : Nat) + (↑j : Int).toNat))).fst.Decided]))
    (bsplit ((st ((0 : Nat) + (↑j : Int).toNat)).Kind == (2 : Int))
    (bsplit (!told x (callR x (st ((0 : Nat) + (↑j : Int).toNat))).fst (callR x (st ((0 : Nat) + (↑j : Int).toNat))).snd.fst (st ((0 : Nat) + (↑j : Int).toNat))) (stepsRows n cap st = stepsRows n cap st ∧
    wideO = wideO ∧
    False) (stepsRows n cap st = stepsRows n cap st ∧
    wideO = wideO ∧
    (k = (0 : Nat) → False) ∧
    (Value.slice (some { block := (0 : Nat), off := (0 : Nat), spot := some (0 : Nat) : Addr }) n cap = Value.slice (some { block := (0 : Nat), off := (0 : Nat), spot := some (0 : Nat) : Addr }) n cap ∧
    Value.pointer (some { block := (1 : Nat), off := (0 : Nat) : Addr }) = Value.pointer (some { block := (1 : Nat), off := (0 : Nat) : Addr }) ∧
    Value.int IntKind.i64 (IntKind.i64.wrap ((↑j : Int) + (1 : Int))) = Value.int IntKind.i64 (IntKind.i64.wrap ((↑j : Int) + (1 : Int))) ∧
    True) ∧
    (stepsRows n cap st = stepsRows n cap st ∧
    wideO = wideO ∧
    (32 : TypeId) = (32 : TypeId)) ∧
    StaysInv n (k - (1 : Nat)) (IntKind.i64.wrap ((↑j : Int) + (1 : Int))) [Value.int IntKind.i64 (callR x (st ((0 : Nat) + (↑j : Int).toNat))).fst.Promised.N, Value.int IntKind.i64 (callR x (st ((0 : Nat) + (↑j : Int).toNat))).fst.Promised.Client, Value.int IntKind.i64 (callR x (st ((0 : Nat) + (↑j : Int).toNat))).fst.Accepted.N, Value.int IntKind.i64 (callR x (st ((0 : Nat) + (↑j : Int).toNat))).fst.Accepted.Client, Value.int IntKind.i64 (callR x (st ((0 : Nat) + (↑j : Int).toNat))).fst.Command.Kind, Value.int IntKind.i64 (callR x (st ((0 : Nat) + (↑j : Int).toNat))).fst.Command.Client, Value.int IntKind.i64 (callR x (st ((0 : Nat) + (↑j : Int).toNat))).fst.Command.Op, Value.string (callR x (st ((0 : Nat) + (↑j : Int).toNat))).fst.Command.Name, Value.int IntKind.i64 (callR x (st ((0 : Nat) + (↑j : Int).toNat))).fst.Command.File.Client, Value.int IntKind.i64 (callR x (st ((0 : Nat) + (↑j : Int).toNat))).fst.Command.File.Op, Value.int IntKind.i64 (callR x (st ((0 : Nat) + (↑j : Int).toNat))).fst.Command.New.Client, Value.int IntKind.i64 (callR x (st ((0 : Nat) + (↑j : Int).toNat))).fst.Command.New.Op, Value.int IntKind.i64 (callR x (st ((0 : Nat) + (↑j : Int).toNat))).fst.Command.Size, Value.bool (callR x (st ((0 : Nat) + (↑j : Int).toNat))).fst.Decided])) (stepsRows n cap st = stepsRows n cap st ∧
    wideO = wideO ∧
    (k = (0 : Nat) → False) ∧
    (Value.slice (some { block := (0 : Nat), off := (0 : Nat), spot := some (0 : Nat) : Addr }) n cap = Value.slice (some { block := (0 : Nat), off := (0 : Nat), spot := some (0 : Nat) : Addr }) n cap ∧
    Value.pointer (some { block := (1 : Nat), off := (0 : Nat) : Addr }) = Value.pointer (some { block := (1 : Nat), off := (0 : Nat) : Addr }) ∧
    Value.int IntKind.i64 (IntKind.i64.wrap ((↑j : Int) + (1 : Int))) = Value.int IntKind.i64 (IntKind.i64.wrap ((↑j : Int) + (1 : Int))) ∧
    True) ∧
    (stepsRows n cap st = stepsRows n cap st ∧
    wideO = wideO ∧
    (32 : TypeId) = (32 : TypeId)) ∧
    StaysInv n (k - (1 : Nat)) (IntKind.i64.wrap ((↑j : Int) + (1 : Int))) [Value.int IntKind.i64 (callR x (st ((0 : Nat) + (↑j : Int).toNat))).fst.Promised.N, Value.int IntKind.i64 (callR x (st ((0 : Nat) + (↑j : Int).toNat))).fst.Promised.Client, Value.int IntKind.i64 (callR x (st ((0 : Nat) + (↑j : Int).toNat))).fst.Accepted.N, Value.int IntKind.i64 (callR x (st ((0 : Nat) + (↑j : Int).toNat))).fst.Accepted.Client, Value.int IntKind.i64 (callR x (st ((0 : Nat) + (↑j : Int).toNat))).fst.Command.Kind, Value.int IntKind.i64 (callR x (st ((0 : Nat) + (↑j : Int).toNat))).fst.Command.Client, Value.int IntKind.i64 (callR x (st ((0 : Nat) + (↑j : Int).toNat))).fst.Command.Op, Value.string (callR x (st ((0 : Nat) + (↑j : Int).toNat))).fst.Command.Name, Value.int IntKind.i64 (callR x (st ((0 : Nat) + (↑j : Int).toNat))).fst.Command.File.Client, Value.int IntKind.i64 (callR x (st ((0 : Nat) + (↑j : Int).toNat))).fst.Command.File.Op, Value.int IntKind.i64 (callR x (st ((0 : Nat) + (↑j : Int).toNat))).fst.Command.New.Client, Value.int IntKind.i64 (callR x (st ((0 : Nat) + (↑j : Int).toNat))).fst.Command.New.Op, Value.int IntKind.i64 (callR x (st ((0 : Nat) + (↑j : Int).toNat))).fst.Command.Size, Value.bool (callR x (st ((0 : Nat) + (↑j : Int).toNat))).fst.Decided])))))
    (bsplit ((st ((0 : Nat) + (↑j : Int).toNat)).Kind == (1 : Int))
    (bsplit (!told x (callR x (st ((0 : Nat) + (↑j : Int).toNat))).fst (callR x (st ((0 : Nat) + (↑j : Int).toNat))).snd.fst (st ((0 : Nat) + (↑j : Int).toNat))) (stepsRows n cap st = stepsRows n cap st ∧
    wideO = wideO ∧
    False) (stepsRows n cap st = stepsRows n cap st ∧
    wideO = wideO ∧
    (k = (0 : Nat) → False) ∧
    (Value.slice (some { block := (0 : Nat), off := (0 : Nat), spot := some (0 : Nat) : Addr }) n cap = Value.slice (some { block := (0 : Nat), off := (0 : Nat), spot := some (0 : Nat) : Addr }) n cap ∧
    Value.pointer (some { block := (1 : Nat), off := (0 : Nat) : Addr }) = Value.pointer (some { block := (1 : Nat), off := (0 : Nat) : Addr }) ∧
    Value.int IntKind.i64 (IntKind.i64.wrap ((↑j : Int) + (1 : Int))) = Value.int IntKind.i64 (IntKind.i64.wrap ((↑j : Int) + (1 : Int))) ∧
    True) ∧
    (stepsRows n cap st = stepsRows n cap st ∧
    wideO = wideO ∧
    (32 : TypeId) = (32 : TypeId)) ∧
    StaysInv n (k - (1 : Nat)) (IntKind.i64.wrap ((↑j : Int) + (1 : Int))) [Value.int IntKind.i64 (callR x (st ((0 : Nat) + (↑j : Int).toNat))).fst.Promised.N, Value.int IntKind.i64 (callR x (st ((0 : Nat) + (↑j : Int).toNat))).fst.Promised.Client, Value.int IntKind.i64 (callR x (st ((0 : Nat) + (↑j : Int).toNat))).fst.Accepted.N, Value.int IntKind.i64 (callR x (st ((0 : Nat) + (↑j : Int).toNat))).fst.Accepted.Client, Value.int IntKind.i64 (callR x (st ((0 : Nat) + (↑j : Int).toNat))).fst.Command.Kind, Value.int IntKind.i64 (callR x (st ((0 : Nat) + (↑j : Int).toNat))).fst.Command.Client, Value.int IntKind.i64 (callR x (st ((0 : Nat) + (↑j : Int).toNat))).fst.Command.Op, Value.string (callR x (st ((0 : Nat) + (↑j : Int).toNat))).fst.Command.Name, Value.int IntKind.i64 (callR x (st ((0 : Nat) + (↑j : Int).toNat))).fst.Command.File.Client, Value.int IntKind.i64 (callR x (st ((0 : Nat) + (↑j : Int).toNat))).fst.Command.File.Op, Value.int IntKind.i64 (callR x (st ((0 : Nat) + (↑j : Int).toNat))).fst.Command.New.Client, Value.int IntKind.i64 (callR x (st ((0 : Nat) + (↑j : Int).toNat))).fst.Command.New.Op, Value.int IntKind.i64 (callR x (st ((0 : Nat) + (↑j : Int).toNat))).fst.Command.Size, Value.bool (callR x (st ((0 : Nat) + (↑j : Int).toNat))).fst.Decided]))
    (bsplit ((st ((0 : Nat) + (↑j : Int).toNat)).Kind == (2 : Int))
    (bsplit (!told x (callR x (st ((0 : Nat) + (↑j : Int).toNat))).fst (callR x (st ((0 : Nat) + (↑j : Int).toNat))).snd.fst (st ((0 : Nat) + (↑j : Int).toNat))) (stepsRows n cap st = stepsRows n cap st ∧
    wideO = wideO ∧
    False) (stepsRows n cap st = stepsRows n cap st ∧
    wideO = wideO ∧
    (k = (0 : Nat) → False) ∧
    (Value.slice (some { block := (0 : Nat), off := (0 : Nat), spot := some (0 : Nat) : Addr }) n cap = Value.slice (some { block := (0 : Nat), off := (0 : Nat), spot := some (0 : Nat) : Addr }) n cap ∧
    Value.pointer (some { block := (1 : Nat), off := (0 : Nat) : Addr }) = Value.pointer (some { block := (1 : Nat), off := (0 : Nat) : Addr }) ∧
    Value.int IntKind.i64 (IntKind.i64.wrap ((↑j : Int) + (1 : Int))) = Value.int IntKind.i64 (IntKind.i64.wrap ((↑j : Int) + (1 : Int))) ∧
    True) ∧
    (stepsRows n cap st = stepsRows n cap st ∧
    wideO = wideO ∧
    (32 : TypeId) = (32 : TypeId)) ∧
    StaysInv n (k - (1 : Nat)) (IntKind.i64.wrap ((↑j : Int) + (1 : Int))) [Value.int IntKind.i64 (callR x (st ((0 : Nat) + (↑j : Int).toNat))).fst.Promised.N, Value.int IntKind.i64 (callR x (st ((0 : Nat) + (↑j : Int).toNat))).fst.Promised.Client, Value.int IntKind.i64 (callR x (st ((0 : Nat) + (↑j : Int).toNat))).fst.Accepted.N, Value.int IntKind.i64 (callR x (st ((0 : Nat) + (↑j : Int).toNat))).fst.Accepted.Client, Value.int IntKind.i64 (callR x (st ((0 : Nat) + (↑j : Int).toNat))).fst.Command.Kind, Value.int IntKind.i64 (callR x (st ((0 : Nat) + (↑j : Int).toNat))).fst.Command.Client, Value.int IntKind.i64 (callR x (st ((0 : Nat) + (↑j : Int).toNat))).fst.Command.Op, Value.string (callR x (st ((0 : Nat) + (↑j : Int).toNat))).fst.Command.Name, Value.int IntKind.i64 (callR x (st ((0 : Nat) + (↑j : Int).toNat))).fst.Command.File.Client, Value.int IntKind.i64 (callR x (st ((0 : Nat) + (↑j : Int).toNat))).fst.Command.File.Op, Value.int IntKind.i64 (callR x (st ((0 : Nat) + (↑j : Int).toNat))).fst.Command.New.Client, Value.int IntKind.i64 (callR x (st ((0 : Nat) + (↑j : Int).toNat))).fst.Command.New.Op, Value.int IntKind.i64 (callR x (st ((0 : Nat) + (↑j : Int).toNat))).fst.Command.Size, Value.bool (callR x (st ((0 : Nat) + (↑j : Int).toNat))).fst.Decided])) (stepsRows n cap st = stepsRows n cap st ∧
    wideO = wideO ∧
    (k = (0 : Nat) → False) ∧
    (Value.slice (some { block := (0 : Nat), off := (0 : Nat), spot := some (0 : Nat) : Addr }) n cap = Value.slice (some { block := (0 : Nat), off := (0 : Nat), spot := some (0 : Nat) : Addr }) n cap ∧
    Value.pointer (some { block := (1 : Nat), off := (0 : Nat) : Addr }) = Value.pointer (some { block := (1 : Nat), off := (0 : Nat) : Addr }) ∧
    Value.int IntKind.i64 (IntKind.i64.wrap ((↑j : Int) + (1 : Int))) = Value.int IntKind.i64 (IntKind.i64.wrap ((↑j : Int) + (1 : Int))) ∧
    True) ∧
    (stepsRows n cap st = stepsRows n cap st ∧
    wideO = wideO ∧
    (32 : TypeId) = (32 : TypeId)) ∧
    StaysInv n (k - (1 : Nat)) (IntKind.i64.wrap ((↑j : Int) + (1 : Int))) [Value.int IntKind.i64 (callR x (st ((0 : Nat) + (↑j : Int).toNat))).fst.Promised.N, Value.int IntKind.i64 (callR x (st ((0 : Nat) + (↑j : Int).toNat))).fst.Promised.Client, Value.int IntKind.i64 (callR x (st ((0 : Nat) + (↑j : Int).toNat))).fst.Accepted.N, Value.int IntKind.i64 (callR x (st ((0 : Nat) + (↑j : Int).toNat))).fst.Accepted.Client, Value.int IntKind.i64 (callR x (st ((0 : Nat) + (↑j : Int).toNat))).fst.Command.Kind, Value.int IntKind.i64 (callR x (st ((0 : Nat) + (↑j : Int).toNat))).fst.Command.Client, Value.int IntKind.i64 (callR x (st ((0 : Nat) + (↑j : Int).toNat))).fst.Command.Op, Value.string (callR x (st ((0 : Nat) + (↑j : Int).toNat))).fst.Command.Name, Value.int IntKind.i64 (callR x (st ((0 : Nat) + (↑j : Int).toNat))).fst.Command.File.Client, Value.int IntKind.i64 (callR x (st ((0 : Nat) + (↑j : Int).toNat))).fst.Command.File.Op, Value.int IntKind.i64 (callR x (st ((0 : Nat) + (↑j : Int).toNat))).fst.Command.New.Client, Value.int IntKind.i64 (callR x (st ((0 : Nat) + (↑j : Int).toNat))).fst.Command.New.Op, Value.int IntKind.i64 (callR x (st ((0 : Nat) + (↑j : Int).toNat))).fst.Command.Size, Value.bool (callR x (st ((0 : Nat) + (↑j : Int).toNat))).fst.Decided])))))
    (bsplit (!(callR x (st ((0 : Nat) + (↑j : Int).toNat))).fst.Decided)
    (bsplit (above x.Promised (callR x (st ((0 : Nat) + (↑j : Int).toNat))).fst.Promised) (stepsRows n cap st = stepsRows n cap st ∧
    wideO = wideO ∧
    False)
    (bsplit (above x.Accepted (callR x (st ((0 : Nat) + (↑j : Int).toNat))).fst.Accepted) (stepsRows n cap st = stepsRows n cap st ∧
    wideO = wideO ∧
    False)
    (bsplit ((st ((0 : Nat) + (↑j : Int).toNat)).Kind == (1 : Int))
    (bsplit (!told x (callR x (st ((0 : Nat) + (↑j : Int).toNat))).fst (callR x (st ((0 : Nat) + (↑j : Int).toNat))).snd.fst (st ((0 : Nat) + (↑j : Int).toNat))) (stepsRows n cap st = stepsRows n cap st ∧
    wideO = wideO ∧
    False) (stepsRows n cap st = stepsRows n cap st ∧
    wideO = wideO ∧
    (k = (0 : Nat) → False) ∧
    (Value.slice (some { block := (0 : Nat), off := (0 : Nat), spot := some (0 : Nat) : Addr }) n cap = Value.slice (some { block := (0 : Nat), off := (0 : Nat), spot := some (0 : Nat) : Addr }) n cap ∧
    Value.pointer (some { block := (1 : Nat), off := (0 : Nat) : Addr }) = Value.pointer (some { block := (1 : Nat), off := (0 : Nat) : Addr }) ∧
    Value.int IntKind.i64 (IntKind.i64.wrap ((↑j : Int) + (1 : Int))) = Value.int IntKind.i64 (IntKind.i64.wrap ((↑j : Int) + (1 : Int))) ∧
    True) ∧
    (stepsRows n cap st = stepsRows n cap st ∧
    wideO = wideO ∧
    (32 : TypeId) = (32 : TypeId)) ∧
    StaysInv n (k - (1 : Nat)) (IntKind.i64.wrap ((↑j : Int) + (1 : Int))) [Value.int IntKind.i64 (callR x (st ((0 : Nat) + (↑j : Int).toNat))).fst.Promised.N, Value.int IntKind.i64 (callR x (st ((0 : Nat) + (↑j : Int).toNat))).fst.Promised.Client, Value.int IntKind.i64 (callR x (st ((0 : Nat) + (↑j : Int).toNat))).fst.Accepted.N, Value.int IntKind.i64 (callR x (st ((0 : Nat) + (↑j : Int).toNat))).fst.Accepted.Client, Value.int IntKind.i64 (callR x (st ((0 : Nat) + (↑j : Int).toNat))).fst.Command.Kind, Value.int IntKind.i64 (callR x (st ((0 : Nat) + (↑j : Int).toNat))).fst.Command.Client, Value.int IntKind.i64 (callR x (st ((0 : Nat) + (↑j : Int).toNat))).fst.Command.Op, Value.string (callR x (st ((0 : Nat) + (↑j : Int).toNat))).fst.Command.Name, Value.int IntKind.i64 (callR x (st ((0 : Nat) + (↑j : Int).toNat))).fst.Command.File.Client, Value.int IntKind.i64 (callR x (st ((0 : Nat) + (↑j : Int).toNat))).fst.Command.File.Op, Value.int IntKind.i64 (callR x (st ((0 : Nat) + (↑j : Int).toNat))).fst.Command.New.Client, Value.int IntKind.i64 (callR x (st ((0 : Nat) + (↑j : Int).toNat))).fst.Command.New.Op, Value.int IntKind.i64 (callR x (st ((0 : Nat) + (↑j : Int).toNat))).fst.Command.Size, Value.bool (callR x (st ((0 : Nat) + (↑j : Int).toNat))).fst.Decided]))
    (bsplit ((st ((0 : Nat) + (↑j : Int).toNat)).Kind == (2 : Int))
    (bsplit (!told x (callR x (st ((0 : Nat) + (↑j : Int).toNat))).fst (callR x (st ((0 : Nat) + (↑j : Int).toNat))).snd.fst (st ((0 : Nat) + (↑j : Int).toNat))) (stepsRows n cap st = stepsRows n cap st ∧
    wideO = wideO ∧
    False) (stepsRows n cap st = stepsRows n cap st ∧
    wideO = wideO ∧
    (k = (0 : Nat) → False) ∧
    (Value.slice (some { block := (0 : Nat), off := (0 : Nat), spot := some (0 : Nat) : Addr }) n cap = Value.slice (some { block := (0 : Nat), off := (0 : Nat), spot := some (0 : Nat) : Addr }) n cap ∧
    Value.pointer (some { block := (1 : Nat), off := (0 : Nat) : Addr }) = Value.pointer (some { block := (1 : Nat), off := (0 : Nat) : Addr }) ∧
    Value.int IntKind.i64 (IntKind.i64.wrap ((↑j : Int) + (1 : Int))) = Value.int IntKind.i64 (IntKind.i64.wrap ((↑j : Int) + (1 : Int))) ∧
    True) ∧
    (stepsRows n cap st = stepsRows n cap st ∧
    wideO = wideO ∧
    (32 : TypeId) = (32 : TypeId)) ∧
    StaysInv n (k - (1 : Nat)) (IntKind.i64.wrap ((↑j : Int) + (1 : Int))) [Value.int IntKind.i64 (callR x (st ((0 : Nat) + (↑j : Int).toNat))).fst.Promised.N, Value.int IntKind.i64 (callR x (st ((0 : Nat) + (↑j : Int).toNat))).fst.Promised.Client, Value.int IntKind.i64 (callR x (st ((0 : Nat) + (↑j : Int).toNat))).fst.Accepted.N, Value.int IntKind.i64 (callR x (st ((0 : Nat) + (↑j : Int).toNat))).fst.Accepted.Client, Value.int IntKind.i64 (callR x (st ((0 : Nat) + (↑j : Int).toNat))).fst.Command.Kind, Value.int IntKind.i64 (callR x (st ((0 : Nat) + (↑j : Int).toNat))).fst.Command.Client, Value.int IntKind.i64 (callR x (st ((0 : Nat) + (↑j : Int).toNat))).fst.Command.Op, Value.string (callR x (st ((0 : Nat) + (↑j : Int).toNat))).fst.Command.Name, Value.int IntKind.i64 (callR x (st ((0 : Nat) + (↑j : Int).toNat))).fst.Command.File.Client, Value.int IntKind.i64 (callR x (st ((0 : Nat) + (↑j : Int).toNat))).fst.Command.File.Op, Value.int IntKind.i64 (callR x (st ((0 : Nat) + (↑j : Int).toNat))).fst.Command.New.Client, Value.int IntKind.i64 (callR x (st ((0 : Nat) + (↑j : Int).toNat))).fst.Command.New.Op, Value.int IntKind.i64 (callR x (st ((0 : Nat) + (↑j : Int).toNat))).fst.Command.Size, Value.bool (callR x (st ((0 : Nat) + (↑j : Int).toNat))).fst.Decided])) (stepsRows n cap st = stepsRows n cap st ∧
    wideO = wideO ∧
    (k = (0 : Nat) → False) ∧
    (Value.slice (some { block := (0 : Nat), off := (0 : Nat), spot := some (0 : Nat) : Addr }) n cap = Value.slice (some { block := (0 : Nat), off := (0 : Nat), spot := some (0 : Nat) : Addr }) n cap ∧
    Value.pointer (some { block := (1 : Nat), off := (0 : Nat) : Addr }) = Value.pointer (some { block := (1 : Nat), off := (0 : Nat) : Addr }) ∧
    Value.int IntKind.i64 (IntKind.i64.wrap ((↑j : Int) + (1 : Int))) = Value.int IntKind.i64 (IntKind.i64.wrap ((↑j : Int) + (1 : Int))) ∧
    True) ∧
    (stepsRows n cap st = stepsRows n cap st ∧
    wideO = wideO ∧
    (32 : TypeId) = (32 : TypeId)) ∧
    StaysInv n (k - (1 : Nat)) (IntKind.i64.wrap ((↑j : Int) + (1 : Int))) [Value.int IntKind.i64 (callR x (st ((0 : Nat) + (↑j : Int).toNat))).fst.Promised.N, Value.int IntKind.i64 (callR x (st ((0 : Nat) + (↑j : Int).toNat))).fst.Promised.Client, Value.int IntKind.i64 (callR x (st ((0 : Nat) + (↑j : Int).toNat))).fst.Accepted.N, Value.int IntKind.i64 (callR x (st ((0 : Nat) + (↑j : Int).toNat))).fst.Accepted.Client, Value.int IntKind.i64 (callR x (st ((0 : Nat) + (↑j : Int).toNat))).fst.Command.Kind, Value.int IntKind.i64 (callR x (st ((0 : Nat) + (↑j : Int).toNat))).fst.Command.Client, Value.int IntKind.i64 (callR x (st ((0 : Nat) + (↑j : Int).toNat))).fst.Command.Op, Value.string (callR x (st ((0 : Nat) + (↑j : Int).toNat))).fst.Command.Name, Value.int IntKind.i64 (callR x (st ((0 : Nat) + (↑j : Int).toNat))).fst.Command.File.Client, Value.int IntKind.i64 (callR x (st ((0 : Nat) + (↑j : Int).toNat))).fst.Command.File.Op, Value.int IntKind.i64 (callR x (st ((0 : Nat) + (↑j : Int).toNat))).fst.Command.New.Client, Value.int IntKind.i64 (callR x (st ((0 : Nat) + (↑j : Int).toNat))).fst.Command.New.Op, Value.int IntKind.i64 (callR x (st ((0 : Nat) + (↑j : Int).toNat))).fst.Command.Size, Value.bool (callR x (st ((0 : Nat) + (↑j : Int).toNat))).fst.Decided])))))
    (bsplit ((st ((0 : Nat) + (↑j : Int).toNat)).Kind == (1 : Int))
    (bsplit (!told x (callR x (st ((0 : Nat) + (↑j : Int).toNat))).fst (callR x (st ((0 : Nat) + (↑j : Int).toNat))).snd.fst (st ((0 : Nat) + (↑j : Int).toNat))) (stepsRows n cap st = stepsRows n cap st ∧
    wideO = wideO ∧
    False) (stepsRows n cap st = stepsRows n cap st ∧
    wideO = wideO ∧
    (k = (0 : Nat) → False) ∧
    (Value.slice (some { block := (0 : Nat), off := (0 : Nat), spot := some (0 : Nat) : Addr }) n cap = Value.slice (some { block := (0 : Nat), off := (0 : Nat), spot := some (0 : Nat) : Addr }) n cap ∧
    Value.pointer (some { block := (1 : Nat), off := (0 : Nat) : Addr }) = Value.pointer (some { block := (1 : Nat), off := (0 : Nat) : Addr }) ∧
    Value.int IntKind.i64 (IntKind.i64.wrap ((↑j : Int) + (1 : Int))) = Value.int IntKind.i64 (IntKind.i64.wrap ((↑j : Int) + (1 : Int))) ∧
    True) ∧
    (stepsRows n cap st = stepsRows n cap st ∧
    wideO = wideO ∧
    (32 : TypeId) = (32 : TypeId)) ∧
    StaysInv n (k - (1 : Nat)) (IntKind.i64.wrap ((↑j : Int) + (1 : Int))) [Value.int IntKind.i64 (callR x (st ((0 : Nat) + (↑j : Int).toNat))).fst.Promised.N, Value.int IntKind.i64 (callR x (st ((0 : Nat) + (↑j : Int).toNat))).fst.Promised.Client, Value.int IntKind.i64 (callR x (st ((0 : Nat) + (↑j : Int).toNat))).fst.Accepted.N, Value.int IntKind.i64 (callR x (st ((0 : Nat) + (↑j : Int).toNat))).fst.Accepted.Client, Value.int IntKind.i64 (callR x (st ((0 : Nat) + (↑j : Int).toNat))).fst.Command.Kind, Value.int IntKind.i64 (callR x (st ((0 : Nat) + (↑j : Int).toNat))).fst.Command.Client, Value.int IntKind.i64 (callR x (st ((0 : Nat) + (↑j : Int).toNat))).fst.Command.Op, Value.string (callR x (st ((0 : Nat) + (↑j : Int).toNat))).fst.Command.Name, Value.int IntKind.i64 (callR x (st ((0 : Nat) + (↑j : Int).toNat))).fst.Command.File.Client, Value.int IntKind.i64 (callR x (st ((0 : Nat) + (↑j : Int).toNat))).fst.Command.File.Op, Value.int IntKind.i64 (callR x (st ((0 : Nat) + (↑j : Int).toNat))).fst.Command.New.Client, Value.int IntKind.i64 (callR x (st ((0 : Nat) + (↑j : Int).toNat))).fst.Command.New.Op, Value.int IntKind.i64 (callR x (st ((0 : Nat) + (↑j : Int).toNat))).fst.Command.Size, Value.bool (callR x (st ((0 : Nat) + (↑j : Int).toNat))).fst.Decided]))
    (bsplit ((st ((0 : Nat) + (↑j : Int).toNat)).Kind == (2 : Int))
    (bsplit (!told x (callR x (st ((0 : Nat) + (↑j : Int).toNat))).fst (callR x (st ((0 : Nat) + (↑j : Int).toNat))).snd.fst (st ((0 : Nat) + (↑j : Int).toNat))) (stepsRows n cap st = stepsRows n cap st ∧
    wideO = wideO ∧
    False) (stepsRows n cap st = stepsRows n cap st ∧
    wideO = wideO ∧
    (k = (0 : Nat) → False) ∧
    (Value.slice (some { block := (0 : Nat), off := (0 : Nat), spot := some (0 : Nat) : Addr }) n cap = Value.slice (some { block := (0 : Nat), off := (0 : Nat), spot := some (0 : Nat) : Addr }) n cap ∧
    Value.pointer (some { block := (1 : Nat), off := (0 : Nat) : Addr }) = Value.pointer (some { block := (1 : Nat), off := (0 : Nat) : Addr }) ∧
    Value.int IntKind.i64 (IntKind.i64.wrap ((↑j : Int) + (1 : Int))) = Value.int IntKind.i64 (IntKind.i64.wrap ((↑j : Int) + (1 : Int))) ∧
    True) ∧
    (stepsRows n cap st = stepsRows n cap st ∧
    wideO = wideO ∧
    (32 : TypeId) = (32 : TypeId)) ∧
    StaysInv n (k - (1 : Nat)) (IntKind.i64.wrap ((↑j : Int) + (1 : Int))) [Value.int IntKind.i64 (callR x (st ((0 : Nat) + (↑j : Int).toNat))).fst.Promised.N, Value.int IntKind.i64 (callR x (st ((0 : Nat) + (↑j : Int).toNat))).fst.Promised.Client, Value.int IntKind.i64 (callR x (st ((0 : Nat) + (↑j : Int).toNat))).fst.Accepted.N, Value.int IntKind.i64 (callR x (st ((0 : Nat) + (↑j : Int).toNat))).fst.Accepted.Client, Value.int IntKind.i64 (callR x (st ((0 : Nat) + (↑j : Int).toNat))).fst.Command.Kind, Value.int IntKind.i64 (callR x (st ((0 : Nat) + (↑j : Int).toNat))).fst.Command.Client, Value.int IntKind.i64 (callR x (st ((0 : Nat) + (↑j : Int).toNat))).fst.Command.Op, Value.string (callR x (st ((0 : Nat) + (↑j : Int).toNat))).fst.Command.Name, Value.int IntKind.i64 (callR x (st ((0 : Nat) + (↑j : Int).toNat))).fst.Command.File.Client, Value.int IntKind.i64 (callR x (st ((0 : Nat) + (↑j : Int).toNat))).fst.Command.File.Op, Value.int IntKind.i64 (callR x (st ((0 : Nat) + (↑j : Int).toNat))).fst.Command.New.Client, Value.int IntKind.i64 (callR x (st ((0 : Nat) + (↑j : Int).toNat))).fst.Command.New.Op, Value.int IntKind.i64 (callR x (st ((0 : Nat) + (↑j : Int).toNat))).fst.Command.Size, Value.bool (callR x (st ((0 : Nat) + (↑j : Int).toNat))).fst.Decided])) (stepsRows n cap st = stepsRows n cap st ∧
    wideO = wideO ∧
    (k = (0 : Nat) → False) ∧
    (Value.slice (some { block := (0 : Nat), off := (0 : Nat), spot := some (0 : Nat) : Addr }) n cap = Value.slice (some { block := (0 : Nat), off := (0 : Nat), spot := some (0 : Nat) : Addr }) n cap ∧
    Value.pointer (some { block := (1 : Nat), off := (0 : Nat) : Addr }) = Value.pointer (some { block := (1 : Nat), off := (0 : Nat) : Addr }) ∧
    Value.int IntKind.i64 (IntKind.i64.wrap ((↑j : Int) + (1 : Int))) = Value.int IntKind.i64 (IntKind.i64.wrap ((↑j : Int) + (1 : Int))) ∧
    True) ∧
    (stepsRows n cap st = stepsRows n cap st ∧
    wideO = wideO ∧
    (32 : TypeId) = (32 : TypeId)) ∧
    StaysInv n (k - (1 : Nat)) (IntKind.i64.wrap ((↑j : Int) + (1 : Int))) [Value.int IntKind.i64 (callR x (st ((0 : Nat) + (↑j : Int).toNat))).fst.Promised.N, Value.int IntKind.i64 (callR x (st ((0 : Nat) + (↑j : Int).toNat))).fst.Promised.Client, Value.int IntKind.i64 (callR x (st ((0 : Nat) + (↑j : Int).toNat))).fst.Accepted.N, Value.int IntKind.i64 (callR x (st ((0 : Nat) + (↑j : Int).toNat))).fst.Accepted.Client, Value.int IntKind.i64 (callR x (st ((0 : Nat) + (↑j : Int).toNat))).fst.Command.Kind, Value.int IntKind.i64 (callR x (st ((0 : Nat) + (↑j : Int).toNat))).fst.Command.Client, Value.int IntKind.i64 (callR x (st ((0 : Nat) + (↑j : Int).toNat))).fst.Command.Op, Value.string (callR x (st ((0 : Nat) + (↑j : Int).toNat))).fst.Command.Name, Value.int IntKind.i64 (callR x (st ((0 : Nat) + (↑j : Int).toNat))).fst.Command.File.Client, Value.int IntKind.i64 (callR x (st ((0 : Nat) + (↑j : Int).toNat))).fst.Command.File.Op, Value.int IntKind.i64 (callR x (st ((0 : Nat) + (↑j : Int).toNat))).fst.Command.New.Client, Value.int IntKind.i64 (callR x (st ((0 : Nat) + (↑j : Int).toNat))).fst.Command.New.Op, Value.int IntKind.i64 (callR x (st ((0 : Nat) + (↑j : Int).toNat))).fst.Command.Size, Value.bool (callR x (st ((0 : Nat) + (↑j : Int).toNat))).fst.Decided]))))))))))))))) (stepsRows n cap st = stepsRows n cap st ∧
    wideO = wideO ∧
    StaysEnd n cap st { tmps := [Value.complex FloatKind.f32 (0 : Nat) (0 : Nat), Value.slice (some { block := (0 : Nat), off := (0 : Nat), spot := some (0 : Nat) : Addr }) n cap, Value.pointer (some { block := (1 : Nat), off := (0 : Nat) : Addr }), Value.complex FloatKind.f32 (0 : Nat) (0 : Nat), Value.complex FloatKind.f32 (0 : Nat) (0 : Nat), Value.int IntKind.i64 (↑j : Int), Value.complex FloatKind.f32 (0 : Nat) (0 : Nat), Value.complex FloatKind.f32 (0 : Nat) (0 : Nat), Value.complex FloatKind.f32 (0 : Nat) (0 : Nat), Value.complex FloatKind.f32 (0 : Nat) (0 : Nat), Value.complex FloatKind.f32 (0 : Nat) (0 : Nat), Value.complex FloatKind.f32 (0 : Nat) (0 : Nat), Value.complex FloatKind.f32 (0 : Nat) (0 : Nat), Value.complex FloatKind.f32 (0 : Nat) (0 : Nat), Value.complex FloatKind.f32 (0 : Nat) (0 : Nat), Value.complex FloatKind.f32 (0 : Nat) (0 : Nat), Value.complex FloatKind.f32 (0 : Nat) (0 : Nat), Value.complex FloatKind.f32 (0 : Nat) (0 : Nat), Value.complex FloatKind.f32 (0 : Nat) (0 : Nat), Value.complex FloatKind.f32 (0 : Nat) (0 : Nat), Value.complex FloatKind.f32 (0 : Nat) (0 : Nat), Value.complex FloatKind.f32 (0 : Nat) (0 : Nat), Value.complex FloatKind.f32 (0 : Nat) (0 : Nat), Value.complex FloatKind.f32 (0 : Nat) (0 : Nat), Value.complex FloatKind.f32 (0 : Nat) (0 : Nat), Value.complex FloatKind.f32 (0 : Nat) (0 : Nat), Value.complex FloatKind.f32 (0 : Nat) (0 : Nat), Value.complex FloatKind.f32 (0 : Nat) (0 : Nat), Value.complex FloatKind.f32 (0 : Nat) (0 : Nat), Value.complex FloatKind.f32 (0 : Nat) (0 : Nat), Value.complex FloatKind.f32 (0 : Nat) (0 : Nat), Value.complex FloatKind.f32 (0 : Nat) (0 : Nat), Value.complex FloatKind.f32 (0 : Nat) (0 : Nat), Value.complex FloatKind.f32 (0 : Nat) (0 : Nat), Value.complex FloatKind.f32 (0 : Nat) (0 : Nat), Value.complex FloatKind.f32 (0 : Nat) (0 : Nat), Value.complex FloatKind.f32 (0 : Nat) (0 : Nat), Value.complex FloatKind.f32 (0 : Nat) (0 : Nat), Value.complex FloatKind.f32 (0 : Nat) (0 : Nat), Value.complex FloatKind.f32 (0 : Nat) (0 : Nat), Value.complex FloatKind.f32 (0 : Nat) (0 : Nat), Value.complex FloatKind.f32 (0 : Nat) (0 : Nat), Value.complex FloatKind.f32 (0 : Nat) (0 : Nat), Value.complex FloatKind.f32 (0 : Nat) (0 : Nat), Value.complex FloatKind.f32 (0 : Nat) (0 : Nat), Value.complex FloatKind.f32 (0 : Nat) (0 : Nat), Value.complex FloatKind.f32 (0 : Nat) (0 : Nat), Value.complex FloatKind.f32 (0 : Nat) (0 : Nat), Value.complex FloatKind.f32 (0 : Nat) (0 : Nat), Value.complex FloatKind.f32 (0 : Nat) (0 : Nat), Value.complex FloatKind.f32 (0 : Nat) (0 : Nat), Value.complex FloatKind.f32 (0 : Nat) (0 : Nat), Value.complex FloatKind.f32 (0 : Nat) (0 : Nat), Value.complex FloatKind.f32 (0 : Nat) (0 : Nat), Value.complex FloatKind.f32 (0 : Nat) (0 : Nat), Value.complex FloatKind.f32 (0 : Nat) (0 : Nat), Value.complex FloatKind.f32 (0 : Nat) (0 : Nat), Value.complex FloatKind.f32 (0 : Nat) (0 : Nat), Value.complex FloatKind.f32 (0 : Nat) (0 : Nat), Value.complex FloatKind.f32 (0 : Nat) (0 : Nat), Value.complex FloatKind.f32 (0 : Nat) (0 : Nat), Value.complex FloatKind.f32 (0 : Nat) (0 : Nat), Value.complex FloatKind.f32 (0 : Nat) (0 : Nat), Value.complex FloatKind.f32 (0 : Nat) (0 : Nat), Value.complex FloatKind.f32 (0 : Nat) (0 : Nat), Value.complex FloatKind.f32 (0 : Nat) (0 : Nat), Value.complex FloatKind.f32 (0 : Nat) (0 : Nat), Value.complex FloatKind.f32 (0 : Nat) (0 : Nat), Value.complex FloatKind.f32 (0 : Nat) (0 : Nat), Value.complex FloatKind.f32 (0 : Nat) (0 : Nat), Value.complex FloatKind.f32 (0 : Nat) (0 : Nat), Value.complex FloatKind.f32 (0 : Nat) (0 : Nat), Value.complex FloatKind.f32 (0 : Nat) (0 : Nat), Value.complex FloatKind.f32 (0 : Nat) (0 : Nat), Value.complex FloatKind.f32 (0 : Nat) (0 : Nat), Value.complex FloatKind.f32 (0 : Nat) (0 : Nat), Value.complex FloatKind.f32 (0 : Nat) (0 : Nat), Value.complex FloatKind.f32 (0 : Nat) (0 : Nat), Value.complex FloatKind.f32 (0 : Nat) (0 : Nat), Value.complex FloatKind.f32 (0 : Nat) (0 : Nat), Value.complex FloatKind.f32 (0 : Nat) (0 : Nat), Value.complex FloatKind.f32 (0 : Nat) (0 : Nat), Value.complex FloatKind.f32 (0 : Nat) (0 : Nat), Value.complex FloatKind.f32 (0 : Nat) (0 : Nat), Value.complex FloatKind.f32 (0 : Nat) (0 : Nat), Value.complex FloatKind.f32 (0 : Nat) (0 : Nat), Value.complex FloatKind.f32 (0 : Nat) (0 : Nat), Value.complex FloatKind.f32 (0 : Nat) (0 : Nat), Value.complex FloatKind.f32 (0 : Nat) (0 : Nat), Value.complex FloatKind.f32 (0 : Nat) (0 : Nat), Value.complex FloatKind.f32 (0 : Nat) (0 : Nat), Value.complex FloatKind.f32 (0 : Nat) (0 : Nat), Value.complex FloatKind.f32 (0 : Nat) (0 : Nat), Value.complex FloatKind.f32 (0 : Nat) (0 : Nat), Value.complex FloatKind.f32 (0 : Nat) (0 : Nat), Value.complex FloatKind.f32 (0 : Nat) (0 : Nat), Value.complex FloatKind.f32 (0 : Nat) (0 : Nat), Value.complex FloatKind.f32 (0 : Nat) (0 : Nat), Value.complex FloatKind.f32 (0 : Nat) (0 : Nat), Value.complex FloatKind.f32 (0 : Nat) (0 : Nat), Value.complex FloatKind.f32 (0 : Nat) (0 : Nat), Value.complex FloatKind.f32 (0 : Nat) (0 : Nat), Value.complex FloatKind.f32 (0 : Nat) (0 : Nat), Value.complex FloatKind.f32 (0 : Nat) (0 : Nat), Value.complex FloatKind.f32 (0 : Nat) (0 : Nat), Value.complex FloatKind.f32 (0 : Nat) (0 : Nat), Value.complex FloatKind.f32 (0 : Nat) (0 : Nat), Value.complex FloatKind.f32 (0 : Nat) (0 : Nat), Value.complex FloatKind.f32 (0 : Nat) (0 : Nat), Value.complex FloatKind.f32 (0 : Nat) (0 : Nat), Value.complex FloatKind.f32 (0 : Nat) (0 : Nat), Value.complex FloatKind.f32 (0 : Nat) (0 : Nat), Value.complex FloatKind.f32 (0 : Nat) (0 : Nat), Value.complex FloatKind.f32 (0 : Nat) (0 : Nat), Value.complex FloatKind.f32 (0 : Nat) (0 : Nat), Value.complex FloatKind.f32 (0 : Nat) (0 : Nat), Value.complex FloatKind.f32 (0 : Nat) (0 : Nat), Value.complex FloatKind.f32 (0 : Nat) (0 : Nat), Value.complex FloatKind.f32 (0 : Nat) (0 : Nat), Value.complex FloatKind.f32 (0 : Nat) (0 : Nat), Value.complex FloatKind.f32 (0 : Nat) (0 : Nat), Value.complex FloatKind.f32 (0 : Nat) (0 : Nat), Value.complex FloatKind.f32 (0 : Nat) (0 : Nat), Value.complex FloatKind.f32 (0 : Nat) (0 : Nat), Value.complex FloatKind.f32 (0 : Nat) (0 : Nat), Value.complex FloatKind.f32 (0 : Nat) (0 : Nat), Value.complex FloatKind.f32 (0 : Nat) (0 : Nat), Value.complex FloatKind.f32 (0 : Nat) (0 : Nat), Value.complex FloatKind.f32 (0 : Nat) (0 : Nat), Value.complex FloatKind.f32 (0 : Nat) (0 : Nat), Value.complex FloatKind.f32 (0 : Nat) (0 : Nat), Value.complex FloatKind.f32 (0 : Nat) (0 : Nat), Value.complex FloatKind.f32 (0 : Nat) (0 : Nat), Value.complex FloatKind.f32 (0 : Nat) (0 : Nat), Value.complex FloatKind.f32 (0 : Nat) (0 : Nat), Value.complex FloatKind.f32 (0 : Nat) (0 : Nat), Value.complex FloatKind.f32 (0 : Nat) (0 : Nat), Value.complex FloatKind.f32 (0 : Nat) (0 : Nat), Value.complex FloatKind.f32 (0 : Nat) (0 : Nat), Value.complex FloatKind.f32 (0 : Nat) (0 : Nat), Value.complex FloatKind.f32 (0 : Nat) (0 : Nat), Value.complex FloatKind.f32 (0 : Nat) (0 : Nat), Value.complex FloatKind.f32 (0 : Nat) (0 : Nat), Value.complex FloatKind.f32 (0 : Nat) (0 : Nat), Value.complex FloatKind.f32 (0 : Nat) (0 : Nat), Value.complex FloatKind.f32 (0 : Nat) (0 : Nat), Value.complex FloatKind.f32 (0 : Nat) (0 : Nat), Value.complex FloatKind.f32 (0 : Nat) (0 : Nat), Value.complex FloatKind.f32 (0 : Nat) (0 : Nat), Value.complex FloatKind.f32 (0 : Nat) (0 : Nat), Value.complex FloatKind.f32 (0 : Nat) (0 : Nat), Value.complex FloatKind.f32 (0 : Nat) (0 : Nat)], V := [stepsRows n cap st, VObj.cells (32 : TypeId) x.c, wideO] : VSt })) (by kernel_rfl) ?_
  have e0 : (0 : Nat) + (j : Int).toNat = j := by simp
  simp only [e0, beq_self_eq_true, Bool.and_true, Bool.and_self, Bool.not_true, true_and, and_true, eq_self, bne_self_eq_false, bsplit_false]
  generalize st j = s
  refine bsplit_iff.2 ⟨fun hlt => ?_, fun hge => ?_⟩
  · have hlt : j < n := by simpa using hlt
    have hw : IntKind.i64.wrap ((j : Int) + 1) = ((j + 1 : Nat) : Int) := by rw [w64 _ (by omega)]; rfl
    rw [hw]
    have fin : ∀ y : GInst, isInstance y wideCfg = true → StaysInv n (k - 1) ((j + 1 : Nat) : Int) y.c := fun y hy => ⟨⟨j + 1, rfl, by omega⟩, y, rfl, hy⟩
    refine ⟨⟨by omega, by omega⟩, by omega, ?_⟩
    have eK : (k = 0 → False) = True := by simp; omega
    simp only [eK, true_and]
    have eC : ({ h := { len := wideCfg.h.len, cap := wideCfg.h.cap, t := 3, m := 1 }, F := wideCfg.F, Points := wideCfg.Points, Buckets := wideCfg.Buckets, Block := wideCfg.Block, Room := wideCfg.Room } : GCfg) = wideCfg := rfl
    simp only [eC, instE]
    have rest : ∀ (h1 : s.Kind = 3 ∨ one_ s.Ballot = true) (h2 : s.Kind = 1 ∨ isCommand s.C wideCfg = true), Facts x s (callR x s) := fun h1 h2 => facts hx h1 h2
    have hx0 := hx
    clear hJ ht hV hS hx
    generalize callR x s = r at rest ⊢
    have e2 : ∀ F : Facts x s r, (!(r.2.2 == !instEq r.1 x)) = false := fun F => by rw [F.chg]; simp
    refine bsplit_iff.2 ⟨fun k3 => bsplit_iff.2 ⟨fun k4 => fin x hx0, fun k4 => bsplit_iff.2 ⟨fun k5 => bsplit_iff.2 ⟨fun k6 => fin x hx0, fun k6 => ?_⟩, fun k5 => ?_⟩⟩, fun k3 => bsplit_iff.2 ⟨fun k5 => bsplit_iff.2 ⟨fun k6 => fin x hx0, fun k6 => ?_⟩, fun k5 => ?_⟩⟩
    · have F := rest (.inr (by simpa using k4)) (.inr (by simpa using k6))
      simp only [F.inst, e2 F, Bool.not_true, bsplit_false]
      have fd := F.dec
      have fp := F.prom
      have fa := F.acc
      have f1 := F.told1
      have f2 := F.told2
      clear e2
      repeat' (refine bsplit_iff.2 ⟨fun _ => ?_, fun _ => ?_⟩)
      all_goals first | exact fin r.1 F.inst | (exfalso; clear fin eC hx0 hw eK hn hj hlt; simp_all; done)
    · have F := rest (.inr (by simpa using k4)) (.inl (by simpa using k5))
      simp only [F.inst, e2 F, Bool.not_true, bsplit_false]
      have fd := F.dec
      have fp := F.prom
      have fa := F.acc
      have f1 := F.told1
      have f2 := F.told2
      clear e2
      repeat' (refine bsplit_iff.2 ⟨fun _ => ?_, fun _ => ?_⟩)
      all_goals first | exact fin r.1 F.inst | (exfalso; clear fin eC hx0 hw eK hn hj hlt; simp_all; done)
    · have F := rest (.inl (by simpa using k3)) (.inr (by simpa using k6))
      simp only [F.inst, e2 F, Bool.not_true, bsplit_false]
      have fd := F.dec
      have fp := F.prom
      have fa := F.acc
      have f1 := F.told1
      have f2 := F.told2
      clear e2
      repeat' (refine bsplit_iff.2 ⟨fun _ => ?_, fun _ => ?_⟩)
      all_goals first | exact fin r.1 F.inst | (exfalso; clear fin eC hx0 hw eK hn hj hlt; simp_all; done)
    · have F := rest (.inl (by simpa using k3)) (.inl (by simpa using k5))
      simp only [F.inst, e2 F, Bool.not_true, bsplit_false]
      have fd := F.dec
      have fp := F.prom
      have fa := F.acc
      have f1 := F.told1
      have f2 := F.told2
      clear e2
      repeat' (refine bsplit_iff.2 ⟨fun _ => ?_, fun _ => ?_⟩)
      all_goals first | exact fin r.1 F.inst | (exfalso; clear fin eC hx0 hw eK hn hj hlt; simp_all; done)
  · exact ⟨⟨_, _, rfl⟩⟩
end Go.Acc
