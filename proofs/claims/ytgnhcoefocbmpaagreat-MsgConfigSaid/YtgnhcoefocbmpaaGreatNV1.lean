/- The tests of commands, of a bucket's lasts, of instances, of keys: the program's and the reference's. -/
import Derived.Test.YtgnhcoefocbmpaaGreatNV0
import Derived.Test.YtgnhcoefocbmpaaGreatNM2
set_option linter.unusedSimpArgs false
set_option linter.unusedVariables false
set_option linter.unusedSectionVars false
set_option maxRecDepth 100000
namespace Go.Msg
open Go Go.X Go.Proofs
variable [WI]
noncomputable abbrev gName : FnS := gB dStr pName
theorem gName_of {f : FuncId} (hc : Callable Tryz.prog f) (h : ∀ s, CallDoes Tryz.prog f [.string s] [] fun v V => BoolV (pName s) v ∧ VEq V []) : FnOK Tryz.prog f gName := by
  refine FnOK.of hc (fun args V p os v h => by unfold gName gB at h; (repeat' split at h) <;> cases h) fun args V v hg => ?_
  unfold gName gB at hg
  split at hg
  · rename_i x hx
    rw [Gives.val_iff] at hg
    subst hg
    rw [dStr_eq hx]
    exact ⟨rfl, rfl, CallDoes.mono1 (fun v V hv => hv.1.eq) (h x)⟩
  · exact (Gives.bad.1 hg).elim
theorem ok151 : FnOK Tryz.prog 151 gName := gName_of (callable Tryz.func151 rfl (by decide +kernel)) name_does
theorem ok155 : FnOK Tryz.prog 155 gName := gName_of (callable Tryz.func155 rfl (by decide +kernel)) isName_does
noncomputable def pCmdP (x : Cm) (L : Int) : Bool := pCmd x L && pSize x.sz L
noncomputable def pCmdR (x : Cm) (L : Int) : Bool := pCmd x L && (decide (x.k < 5) || pSize x.sz L)
structure Ls where
  cl : Int
  op : Int
  ins : Int
  err : Int
  f1 : Int
  f2 : Int
  sz : Int
def Ls.cells (x : Ls) : List Value := [.int .i64 x.cl, .int .i64 x.op, .int .i64 x.ins, .int .i64 x.err, .int .i64 x.f1, .int .i64 x.f2, .int .i64 x.sz]
def pLast (x : Ls) (u L : Int) : Bool := inR x.cl 1 255 && inR x.op 1 1099511627776 && inR x.ins 1 u && (if x.err = 102 ∨ x.err = 103 then pNone x.f1 x.f2 && x.sz == 0 else decide (x.err = 0 ∨ x.err = 101 ∨ x.err = 104) && pFile x.f1 x.f2 && pSize x.sz L)
def unLs (v : Value) : Option Ls := match v with
  | .agg ⟨[.int .i64 cl, .int .i64 op, .int .i64 ins, .int .i64 err, .int .i64 f1, .int .i64 f2, .int .i64 sz]⟩ => some ⟨cl, op, ins, err, f1, f2, sz⟩
  | _ => none
theorem unLs_eq {v : Value} {x : Ls} (h : unLs v = some x) : v = .agg ⟨x.cells⟩ := by
  unfold unLs at h
  split at h
  · cases h; rfl
  · cases h
def dLs (l : List Value) : Option (Ls × Int × Cg) := match l with | [v, .int .i64 u, c] => (match unLs v, unCg c with | some v, some c => some (v, u, c) | _, _ => none) | _ => none
theorem dLs_eq {l : List Value} {x : Ls × Int × Cg} (h : dLs l = some x) : l = [.agg ⟨x.1.cells⟩, .int .i64 x.2.1, x.2.2.v x.2.2.p] := by
  unfold dLs at h
  split at h
  · split at h
    · rename_i h1 h2; cases h; rw [unLs_eq h1, unCg_eq h2]
    · cases h
  · cases h
structure Ky where
  k : Int
  a : Int
  b : Int
  c : Int
def Ky.cells (x : Ky) : List Value := [.int .i64 x.k, .int .i64 x.a, .int .i64 x.b, .int .i64 x.c]
def pKey (x : Ky) (low : Bool) : Bool := if x.k = 1 then inR x.a 1 255 && inR x.b 1 1099511627776 && inR x.c 0 1048575 else if x.k = 2 then decide (x.a ≥ 0) && low && x.b == 0 && x.c == 0 else if x.k = 3 then decide (x.a ≥ 0) && low && inR x.b 1 1048576 && x.c == 0 else false
def unKy (v : Value) : Option Ky := match v with
  | .agg ⟨[.int .i64 k, .int .i64 a, .int .i64 b, .int .i64 c]⟩ => some ⟨k, a, b, c⟩
  | _ => none
theorem unKy_eq {v : Value} {x : Ky} (h : unKy v = some x) : v = .agg ⟨x.cells⟩ := by
  unfold unKy at h
  split at h
  · cases h; rfl
  · cases h
def dKy (l : List Value) : Option (Ky × Cg) := match l with | [v, c] => (match unKy v, unCg c with | some v, some c => some (v, c) | _, _ => none) | _ => none
theorem dKy_eq {l : List Value} {x : Ky × Cg} (h : dKy l = some x) : l = [.agg ⟨x.1.cells⟩, x.2.v x.2.p] := by
  unfold dKy at h
  split at h
  · split at h
    · rename_i h1 h2; cases h; rw [unKy_eq h1, unCg_eq h2]
    · cases h
  · cases h
noncomputable abbrev g77 : FnS := gB dCc fun x => pCmdP x.1 x.2.L
theorem do77 (x : Cm × Cg) : CallDoes Tryz.prog 77 ([.agg ⟨x.1.cells⟩, x.2.v 0]) [.dead] fun v _ => BoolV (pCmdP x.1 x.2.L) v := by
  refine of_run (ctxG_ok (l := [(150, g150), (151, gName), (152, g152), (153, g153)]) (cs := []) (bs := []) (.cons ok150 (.cons ok151 (.cons ok152 (.cons ok153 .nil)))) .nil) (n := 400) Tryz.func77 rfl (BlksOK.none fun _ => rfl) ?_
  refine by_nf (B := bsplit (!(fun x => inR x.fst x.snd.fst x.snd.snd) (x.fst.k, (1 : Int), (7 : Int))) (BoolV (pCmdP x.fst x.snd.L) (Value.bool false))
    (bsplit (!(fun x => inR x.fst x.snd.fst x.snd.snd) (x.fst.cl, (1 : Int), (255 : Int))) (BoolV (pCmdP x.fst x.snd.L) (Value.bool false))
    (bsplit (!(fun x => inR x.fst x.snd.fst x.snd.snd) (x.fst.op, (1 : Int), (1099511627776 : Int))) (BoolV (pCmdP x.fst x.snd.L) (Value.bool false))
    (bsplit (!(x.fst.k != (4 : Int)) == pName x.fst.nm) (BoolV (pCmdP x.fst x.snd.L) (Value.bool false))
    (bsplit (!x.fst.k != (4 : Int))
    (bsplit (!x.fst.nm.data.toList == { data := #[] : ByteArray }.data.toList) (BoolV (pCmdP x.fst x.snd.L) (Value.bool false))
    (bsplit (!decide (x.fst.k ≥ (5 : Int)) == (fun x => pFile x.fst x.snd) (x.fst.f1, x.fst.f2)) (BoolV (pCmdP x.fst x.snd.L) (Value.bool false))
    (bsplit (!decide (x.fst.k ≥ (5 : Int)))
    (bsplit (!(x.fst.f1 == (0 : Int) && (x.fst.f2 == (0 : Int) && true))) (BoolV (pCmdP x.fst x.snd.L) (Value.bool false))
    (bsplit (x.fst.sz != (0 : Int)) (BoolV (pCmdP x.fst x.snd.L) (Value.bool false))
    (bsplit (!(fun x => pSize x.fst x.snd.L) (x.fst.sz, { p := (0 : Nat), m := x.snd.m, F := x.snd.F, P := x.snd.P, B := x.snd.B, L := x.snd.L, R := x.snd.R : Cg })) (BoolV (pCmdP x.fst x.snd.L) (Value.bool false))
    (bsplit ((x.fst.k == (7 : Int)) == (fun x => pFile x.fst x.snd) (x.fst.n1, x.fst.n2))
    (bsplit (x.fst.k == (7 : Int)) (BoolV (pCmdP x.fst x.snd.L) (Value.bool true)) (BoolV (pCmdP x.fst x.snd.L) (Value.bool (x.fst.n1 == (0 : Int) && (x.fst.n2 == (0 : Int) && true))))) (BoolV (pCmdP x.fst x.snd.L) (Value.bool false))))))
    (bsplit (!(fun x => pSize x.fst x.snd.L) (x.fst.sz, { p := (0 : Nat), m := x.snd.m, F := x.snd.F, P := x.snd.P, B := x.snd.B, L := x.snd.L, R := x.snd.R : Cg })) (BoolV (pCmdP x.fst x.snd.L) (Value.bool false))
    (bsplit ((x.fst.k == (7 : Int)) == (fun x => pFile x.fst x.snd) (x.fst.n1, x.fst.n2))
    (bsplit (x.fst.k == (7 : Int)) (BoolV (pCmdP x.fst x.snd.L) (Value.bool true)) (BoolV (pCmdP x.fst x.snd.L) (Value.bool (x.fst.n1 == (0 : Int) && (x.fst.n2 == (0 : Int) && true))))) (BoolV (pCmdP x.fst x.snd.L) (Value.bool false)))))))
    (bsplit (!decide (x.fst.k ≥ (5 : Int)) == (fun x => pFile x.fst x.snd) (x.fst.f1, x.fst.f2)) (BoolV (pCmdP x.fst x.snd.L) (Value.bool false))
    (bsplit (!decide (x.fst.k ≥ (5 : Int)))
    (bsplit (!(x.fst.f1 == (0 : Int) && (x.fst.f2 == (0 : Int) && true))) (BoolV (pCmdP x.fst x.snd.L) (Value.bool false))
    (bsplit (x.fst.sz != (0 : Int)) (BoolV (pCmdP x.fst x.snd.L) (Value.bool false))
    (bsplit (!(fun x => pSize x.fst x.snd.L) (x.fst.sz, { p := (0 : Nat), m := x.snd.m, F := x.snd.F, P := x.snd.P, B := x.snd.B, L := x.snd.L, R := x.snd.R : Cg })) (BoolV (pCmdP x.fst x.snd.L) (Value.bool false))
    (bsplit ((x.fst.k == (7 : Int)) == (fun x => pFile x.fst x.snd) (x.fst.n1, x.fst.n2))
    (bsplit (x.fst.k == (7 : Int)) (BoolV (pCmdP x.fst x.snd.L) (Value.bool true)) (BoolV (pCmdP x.fst x.snd.L) (Value.bool (x.fst.n1 == (0 : Int) && (x.fst.n2 == (0 : Int) && true))))) (BoolV (pCmdP x.fst x.snd.L) (Value.bool false))))))
    (bsplit (!(fun x => pSize x.fst x.snd.L) (x.fst.sz, { p := (0 : Nat), m := x.snd.m, F := x.snd.F, P := x.snd.P, B := x.snd.B, L := x.snd.L, R := x.snd.R : Cg })) (BoolV (pCmdP x.fst x.snd.L) (Value.bool false))
    (bsplit ((x.fst.k == (7 : Int)) == (fun x => pFile x.fst x.snd) (x.fst.n1, x.fst.n2))
    (bsplit (x.fst.k == (7 : Int)) (BoolV (pCmdP x.fst x.snd.L) (Value.bool true)) (BoolV (pCmdP x.fst x.snd.L) (Value.bool (x.fst.n1 == (0 : Int) && (x.fst.n2 == (0 : Int) && true))))) (BoolV (pCmdP x.fst x.snd.L) (Value.bool false))))))))))) (by kernel_rfl) ?_
  obtain ⟨⟨k, cl, op, nm, f1, f2, n1, n2, sz⟩, cg⟩ := x
  have hne : pEmp nm = true → pName nm = false := fun h => pName_no fun hn => by
    have := hn.h1
    have h : nm.data.toList = [] := by simpa [pEmp] using h
    have : nm.data.size = 0 := by rw [← Array.length_toList, h]; rfl
    have : nm.size = 0 := this
    omega
  have hF : pFile f1 f2 = true → pNone f1 f2 = false := by
    simp [pFile, pNone, inR]; omega
  have hG : pFile n1 n2 = true → pNone n1 n2 = false := by
    simp [pFile, pNone, inR]; omega
  have e1 : ∀ s : ByteArray, (s.data.toList == ({ data := #[] } : ByteArray).data.toList) = pEmp s := fun _ => rfl
  have e2 : ∀ a b : Int, (a == 0 && (b == 0 && true)) = pNone a b := fun a b => by simp [pNone]
  have e3 : ∀ a : Int, (a != 0) = !(a == 0) := fun _ => rfl
  simp only [e1, e2, e3, pCmdP, pCmdR, pCmd]
  clear e1 e2 e3
  generalize pName nm = N at *
  generalize pEmp nm = E at *
  generalize pFile f1 f2 = F at *
  generalize pNone f1 f2 = F0 at *
  generalize pFile n1 n2 = G at *
  generalize pNone n1 n2 = G0 at *
  generalize pSize sz cg.L = S at *
  generalize inR cl 1 255 = C at *
  generalize inR op 1 1099511627776 = O at *
  generalize (sz == 0) = Z at *
  rcases (show k < 1 ∨ k = 1 ∨ k = 2 ∨ k = 3 ∨ k = 4 ∨ k = 5 ∨ k = 6 ∨ k = 7 ∨ 7 < k by omega) with hk | rfl | rfl | rfl | rfl | rfl | rfl | rfl | hk
  case inl => exact bsplit_iff.2 ⟨fun _ => ⟨by simp [inR, hk]; omega⟩, fun h => by simp [inR] at h; omega⟩
  case inr.inr.inr.inr.inr.inr.inr.inr => exact bsplit_iff.2 ⟨fun _ => ⟨by simp [inR]; omega⟩, fun h => by simp [inR] at h; omega⟩
  all_goals simp only [show inR 1 1 7 = true from rfl, show inR 2 1 7 = true from rfl, show inR 3 1 7 = true from rfl, show inR 4 1 7 = true from rfl, show inR 5 1 7 = true from rfl, show inR 6 1 7 = true from rfl, show inR 7 1 7 = true from rfl, Bool.true_and, Bool.not_true]
  all_goals (repeat' (first | (refine bsplit_iff.2 ⟨fun h => ?_, fun h => ?_⟩)))
  all_goals first | exact ⟨rfl⟩ | (refine ⟨?_⟩; simp_all; done) | (exfalso; simp_all; done)
theorem ok77 : FnOK Tryz.prog 77 g77 := by
  refine blindB (callable Tryz.func77 rfl (by decide +kernel)) _ _ (fun x => [.agg ⟨x.1.cells⟩, x.2.v 0]) (fun x _ => x.2.p) (fun l x h => ?_) (fun x => rfl) do77
  rw [dCc_eq h]
  simp [renB, Cg.ren, renB_agg1, Cm.cells, Ls.cells, Ky.cells, plainC]
noncomputable abbrev g78 : FnS := gB dCc fun x => pCmdR x.1 x.2.L
theorem do78 (x : Cm × Cg) : CallDoes Tryz.prog 78 ([.agg ⟨x.1.cells⟩, x.2.v 0]) [.dead] fun v _ => BoolV (pCmdR x.1 x.2.L) v := by
  refine of_run (ctxG_ok (l := [(154, g154), (155, gName), (156, g156), (157, g157)]) (cs := []) (bs := []) (.cons ok154 (.cons ok155 (.cons ok156 (.cons ok157 .nil)))) .nil) (n := 400) Tryz.func78 rfl (BlksOK.none fun _ => rfl) ?_
  refine by_nf (B := bsplit (!(fun x => inR x.fst x.snd.fst x.snd.snd) (x.fst.k, (1 : Int), (7 : Int))) (BoolV (pCmdR x.fst x.snd.L) (Value.bool false))
    (bsplit (!(fun x => inR x.fst x.snd.fst x.snd.snd) (x.fst.cl, (1 : Int), (255 : Int))) (BoolV (pCmdR x.fst x.snd.L) (Value.bool false))
    (bsplit (!(fun x => inR x.fst x.snd.fst x.snd.snd) (x.fst.op, (1 : Int), (1099511627776 : Int))) (BoolV (pCmdR x.fst x.snd.L) (Value.bool false))
    (bsplit (x.fst.k == (4 : Int))
    (bsplit (!x.fst.nm.data.toList == { data := #[] : ByteArray }.data.toList) (BoolV (pCmdR x.fst x.snd.L) (Value.bool false))
    (bsplit (x.fst.k != (4 : Int))
    (bsplit (!pName x.fst.nm) (BoolV (pCmdR x.fst x.snd.L) (Value.bool false))
    (bsplit (decide (x.fst.k < (5 : Int)))
    (bsplit (x.fst.f1 == (0 : Int) && (x.fst.f2 == (0 : Int) && true))
    (bsplit (x.fst.n1 == (0 : Int) && (x.fst.n2 == (0 : Int) && true)) (BoolV (pCmdR x.fst x.snd.L) (Value.bool (x.fst.sz == (0 : Int)))) (BoolV (pCmdR x.fst x.snd.L) (Value.bool false))) (BoolV (pCmdR x.fst x.snd.L) (Value.bool false)))
    (bsplit (x.fst.k == (7 : Int))
    (bsplit (!(fun x => pFile x.fst x.snd) (x.fst.n1, x.fst.n2)) (BoolV (pCmdR x.fst x.snd.L) (Value.bool false))
    (bsplit (x.fst.k != (7 : Int))
    (bsplit (!(x.fst.n1 == (0 : Int) && (x.fst.n2 == (0 : Int) && true))) (BoolV (pCmdR x.fst x.snd.L) (Value.bool false))
    (bsplit ((fun x => pFile x.fst x.snd) (x.fst.f1, x.fst.f2)) (BoolV (pCmdR x.fst x.snd.L) (Value.bool ((fun x => pSize x.fst x.snd.L) (x.fst.sz, { p := (0 : Nat), m := x.snd.m, F := x.snd.F, P := x.snd.P, B := x.snd.B, L := x.snd.L, R := x.snd.R : Cg })))) (BoolV (pCmdR x.fst x.snd.L) (Value.bool false))))
    (bsplit ((fun x => pFile x.fst x.snd) (x.fst.f1, x.fst.f2)) (BoolV (pCmdR x.fst x.snd.L) (Value.bool ((fun x => pSize x.fst x.snd.L) (x.fst.sz, { p := (0 : Nat), m := x.snd.m, F := x.snd.F, P := x.snd.P, B := x.snd.B, L := x.snd.L, R := x.snd.R : Cg })))) (BoolV (pCmdR x.fst x.snd.L) (Value.bool false)))))
    (bsplit (x.fst.k != (7 : Int))
    (bsplit (!(x.fst.n1 == (0 : Int) && (x.fst.n2 == (0 : Int) && true))) (BoolV (pCmdR x.fst x.snd.L) (Value.bool false))
    (bsplit ((fun x => pFile x.fst x.snd) (x.fst.f1, x.fst.f2)) (BoolV (pCmdR x.fst x.snd.L) (Value.bool ((fun x => pSize x.fst x.snd.L) (x.fst.sz, { p := (0 : Nat), m := x.snd.m, F := x.snd.F, P := x.snd.P, B := x.snd.B, L := x.snd.L, R := x.snd.R : Cg })))) (BoolV (pCmdR x.fst x.snd.L) (Value.bool false))))
    (bsplit ((fun x => pFile x.fst x.snd) (x.fst.f1, x.fst.f2)) (BoolV (pCmdR x.fst x.snd.L) (Value.bool ((fun x => pSize x.fst x.snd.L) (x.fst.sz, { p := (0 : Nat), m := x.snd.m, F := x.snd.F, P := x.snd.P, B := x.snd.B, L := x.snd.L, R := x.snd.R : Cg })))) (BoolV (pCmdR x.fst x.snd.L) (Value.bool false)))))))
    (bsplit (decide (x.fst.k < (5 : Int)))
    (bsplit (x.fst.f1 == (0 : Int) && (x.fst.f2 == (0 : Int) && true))
    (bsplit (x.fst.n1 == (0 : Int) && (x.fst.n2 == (0 : Int) && true)) (BoolV (pCmdR x.fst x.snd.L) (Value.bool (x.fst.sz == (0 : Int)))) (BoolV (pCmdR x.fst x.snd.L) (Value.bool false))) (BoolV (pCmdR x.fst x.snd.L) (Value.bool false)))
    (bsplit (x.fst.k == (7 : Int))
    (bsplit (!(fun x => pFile x.fst x.snd) (x.fst.n1, x.fst.n2)) (BoolV (pCmdR x.fst x.snd.L) (Value.bool false))
    (bsplit (x.fst.k != (7 : Int))
    (bsplit (!(x.fst.n1 == (0 : Int) && (x.fst.n2 == (0 : Int) && true))) (BoolV (pCmdR x.fst x.snd.L) (Value.bool false))
    (bsplit ((fun x => pFile x.fst x.snd) (x.fst.f1, x.fst.f2)) (BoolV (pCmdR x.fst x.snd.L) (Value.bool ((fun x => pSize x.fst x.snd.L) (x.fst.sz, { p := (0 : Nat), m := x.snd.m, F := x.snd.F, P := x.snd.P, B := x.snd.B, L := x.snd.L, R := x.snd.R : Cg })))) (BoolV (pCmdR x.fst x.snd.L) (Value.bool false))))
    (bsplit ((fun x => pFile x.fst x.snd) (x.fst.f1, x.fst.f2)) (BoolV (pCmdR x.fst x.snd.L) (Value.bool ((fun x => pSize x.fst x.snd.L) (x.fst.sz, { p := (0 : Nat), m := x.snd.m, F := x.snd.F, P := x.snd.P, B := x.snd.B, L := x.snd.L, R := x.snd.R : Cg })))) (BoolV (pCmdR x.fst x.snd.L) (Value.bool false)))))
    (bsplit (x.fst.k != (7 : Int))
    (bsplit (!(x.fst.n1 == (0 : Int) && (x.fst.n2 == (0 : Int) && true))) (BoolV (pCmdR x.fst x.snd.L) (Value.bool false))
    (bsplit ((fun x => pFile x.fst x.snd) (x.fst.f1, x.fst.f2)) (BoolV (pCmdR x.fst x.snd.L) (Value.bool ((fun x => pSize x.fst x.snd.L) (x.fst.sz, { p := (0 : Nat), m := x.snd.m, F := x.snd.F, P := x.snd.P, B := x.snd.B, L := x.snd.L, R := x.snd.R : Cg })))) (BoolV (pCmdR x.fst x.snd.L) (Value.bool false))))
    (bsplit ((fun x => pFile x.fst x.snd) (x.fst.f1, x.fst.f2)) (BoolV (pCmdR x.fst x.snd.L) (Value.bool ((fun x => pSize x.fst x.snd.L) (x.fst.sz, { p := (0 : Nat), m := x.snd.m, F := x.snd.F, P := x.snd.P, B := x.snd.B, L := x.snd.L, R := x.snd.R : Cg })))) (BoolV (pCmdR x.fst x.snd.L) (Value.bool false))))))))
    (bsplit (x.fst.k != (4 : Int))
    (bsplit (!pName x.fst.nm) (BoolV (pCmdR x.fst x.snd.L) (Value.bool false))
    (bsplit (decide (x.fst.k < (5 : Int)))
    (bsplit (x.fst.f1 == (0 : Int) && (x.fst.f2 == (0 : Int) && true))
    (bsplit (x.fst.n1 == (0 : Int) && (x.fst.n2 == (0 : Int) && true)) (BoolV (pCmdR x.fst x.snd.L) (Value.bool (x.fst.sz == (0 : Int)))) (BoolV (pCmdR x.fst x.snd.L) (Value.bool false))) (BoolV (pCmdR x.fst x.snd.L) (Value.bool false)))
    (bsplit (x.fst.k == (7 : Int))
    (bsplit (!(fun x => pFile x.fst x.snd) (x.fst.n1, x.fst.n2)) (BoolV (pCmdR x.fst x.snd.L) (Value.bool false))
    (bsplit (x.fst.k != (7 : Int))
    (bsplit (!(x.fst.n1 == (0 : Int) && (x.fst.n2 == (0 : Int) && true))) (BoolV (pCmdR x.fst x.snd.L) (Value.bool false))
    (bsplit ((fun x => pFile x.fst x.snd) (x.fst.f1, x.fst.f2)) (BoolV (pCmdR x.fst x.snd.L) (Value.bool ((fun x => pSize x.fst x.snd.L) (x.fst.sz, { p := (0 : Nat), m := x.snd.m, F := x.snd.F, P := x.snd.P, B := x.snd.B, L := x.snd.L, R := x.snd.R : Cg })))) (BoolV (pCmdR x.fst x.snd.L) (Value.bool false))))
    (bsplit ((fun x => pFile x.fst x.snd) (x.fst.f1, x.fst.f2)) (BoolV (pCmdR x.fst x.snd.L) (Value.bool ((fun x => pSize x.fst x.snd.L) (x.fst.sz, { p := (0 : Nat), m := x.snd.m, F := x.snd.F, P := x.snd.P, B := x.snd.B, L := x.snd.L, R := x.snd.R : Cg })))) (BoolV (pCmdR x.fst x.snd.L) (Value.bool false)))))
    (bsplit (x.fst.k != (7 : Int))
    (bsplit (!(x.fst.n1 == (0 : Int) && (x.fst.n2 == (0 : Int) && true))) (BoolV (pCmdR x.fst x.snd.L) (Value.bool false))
    (bsplit ((fun x => pFile x.fst x.snd) (x.fst.f1, x.fst.f2)) (BoolV (pCmdR x.fst x.snd.L) (Value.bool ((fun x => pSize x.fst x.snd.L) (x.fst.sz, { p := (0 : Nat), m := x.snd.m, F := x.snd.F, P := x.snd.P, B := x.snd.B, L := x.snd.L, R := x.snd.R : Cg })))) (BoolV (pCmdR x.fst x.snd.L) (Value.bool false))))
    (bsplit ((fun x => pFile x.fst x.snd) (x.fst.f1, x.fst.f2)) (BoolV (pCmdR x.fst x.snd.L) (Value.bool ((fun x => pSize x.fst x.snd.L) (x.fst.sz, { p := (0 : Nat), m := x.snd.m, F := x.snd.F, P := x.snd.P, B := x.snd.B, L := x.snd.L, R := x.snd.R : Cg })))) (BoolV (pCmdR x.fst x.snd.L) (Value.bool false)))))))
    (bsplit (decide (x.fst.k < (5 : Int)))
    (bsplit (x.fst.f1 == (0 : Int) && (x.fst.f2 == (0 : Int) && true))
    (bsplit (x.fst.n1 == (0 : Int) && (x.fst.n2 == (0 : Int) && true)) (BoolV (pCmdR x.fst x.snd.L) (Value.bool (x.fst.sz == (0 : Int)))) (BoolV (pCmdR x.fst x.snd.L) (Value.bool false))) (BoolV (pCmdR x.fst x.snd.L) (Value.bool false)))
    (bsplit (x.fst.k == (7 : Int))
    (bsplit (!(fun x => pFile x.fst x.snd) (x.fst.n1, x.fst.n2)) (BoolV (pCmdR x.fst x.snd.L) (Value.bool false))
    (bsplit (x.fst.k != (7 : Int))
    (bsplit (!(x.fst.n1 == (0 : Int) && (x.fst.n2 == (0 : Int) && true))) (BoolV (pCmdR x.fst x.snd.L) (Value.bool false))
    (bsplit ((fun x => pFile x.fst x.snd) (x.fst.f1, x.fst.f2)) (BoolV (pCmdR x.fst x.snd.L) (Value.bool ((fun x => pSize x.fst x.snd.L) (x.fst.sz, { p := (0 : Nat), m := x.snd.m, F := x.snd.F, P := x.snd.P, B := x.snd.B, L := x.snd.L, R := x.snd.R : Cg })))) (BoolV (pCmdR x.fst x.snd.L) (Value.bool false))))
    (bsplit ((fun x => pFile x.fst x.snd) (x.fst.f1, x.fst.f2)) (BoolV (pCmdR x.fst x.snd.L) (Value.bool ((fun x => pSize x.fst x.snd.L) (x.fst.sz, { p := (0 : Nat), m := x.snd.m, F := x.snd.F, P := x.snd.P, B := x.snd.B, L := x.snd.L, R := x.snd.R : Cg })))) (BoolV (pCmdR x.fst x.snd.L) (Value.bool false)))))
    (bsplit (x.fst.k != (7 : Int))
    (bsplit (!(x.fst.n1 == (0 : Int) && (x.fst.n2 == (0 : Int) && true))) (BoolV (pCmdR x.fst x.snd.L) (Value.bool false))
    (bsplit ((fun x => pFile x.fst x.snd) (x.fst.f1, x.fst.f2)) (BoolV (pCmdR x.fst x.snd.L) (Value.bool ((fun x => pSize x.fst x.snd.L) (x.fst.sz, { p := (0 : Nat), m := x.snd.m, F := x.snd.F, P := x.snd.P, B := x.snd.B, L := x.snd.L, R := x.snd.R : Cg })))) (BoolV (pCmdR x.fst x.snd.L) (Value.bool false))))
    (bsplit ((fun x => pFile x.fst x.snd) (x.fst.f1, x.fst.f2)) (BoolV (pCmdR x.fst x.snd.L) (Value.bool ((fun x => pSize x.fst x.snd.L) (x.fst.sz, { p := (0 : Nat), m := x.snd.m, F := x.snd.F, P := x.snd.P, B := x.snd.B, L := x.snd.L, R := x.snd.R : Cg })))) (BoolV (pCmdR x.fst x.snd.L) (Value.bool false))))))))))) (by kernel_rfl) ?_
  obtain ⟨⟨k, cl, op, nm, f1, f2, n1, n2, sz⟩, cg⟩ := x
  have hne : pEmp nm = true → pName nm = false := fun h => pName_no fun hn => by
    have := hn.h1
    have h : nm.data.toList = [] := by simpa [pEmp] using h
    have : nm.data.size = 0 := by rw [← Array.length_toList, h]; rfl
    have : nm.size = 0 := this
    omega
  have hF : pFile f1 f2 = true → pNone f1 f2 = false := by
    simp [pFile, pNone, inR]; omega
  have hG : pFile n1 n2 = true → pNone n1 n2 = false := by
    simp [pFile, pNone, inR]; omega
  have e1 : ∀ s : ByteArray, (s.data.toList == ({ data := #[] } : ByteArray).data.toList) = pEmp s := fun _ => rfl
  have e2 : ∀ a b : Int, (a == 0 && (b == 0 && true)) = pNone a b := fun a b => by simp [pNone]
  have e3 : ∀ a : Int, (a != 0) = !(a == 0) := fun _ => rfl
  simp only [e1, e2, e3, pCmdP, pCmdR, pCmd]
  clear e1 e2 e3
  generalize pName nm = N at *
  generalize pEmp nm = E at *
  generalize pFile f1 f2 = F at *
  generalize pNone f1 f2 = F0 at *
  generalize pFile n1 n2 = G at *
  generalize pNone n1 n2 = G0 at *
  generalize pSize sz cg.L = S at *
  generalize inR cl 1 255 = C at *
  generalize inR op 1 1099511627776 = O at *
  generalize (sz == 0) = Z at *
  rcases (show k < 1 ∨ k = 1 ∨ k = 2 ∨ k = 3 ∨ k = 4 ∨ k = 5 ∨ k = 6 ∨ k = 7 ∨ 7 < k by omega) with hk | rfl | rfl | rfl | rfl | rfl | rfl | rfl | hk
  case inl => exact bsplit_iff.2 ⟨fun _ => ⟨by simp [inR, hk]; omega⟩, fun h => by simp [inR] at h; omega⟩
  case inr.inr.inr.inr.inr.inr.inr.inr => exact bsplit_iff.2 ⟨fun _ => ⟨by simp [inR]; omega⟩, fun h => by simp [inR] at h; omega⟩
  all_goals simp only [show inR 1 1 7 = true from rfl, show inR 2 1 7 = true from rfl, show inR 3 1 7 = true from rfl, show inR 4 1 7 = true from rfl, show inR 5 1 7 = true from rfl, show inR 6 1 7 = true from rfl, show inR 7 1 7 = true from rfl, Bool.true_and, Bool.not_true]
  all_goals (repeat' (first | (refine bsplit_iff.2 ⟨fun h => ?_, fun h => ?_⟩)))
  all_goals first | exact ⟨rfl⟩ | (refine ⟨?_⟩; simp_all; done) | (exfalso; simp_all; done)
theorem ok78 : FnOK Tryz.prog 78 g78 := by
  refine blindB (callable Tryz.func78 rfl (by decide +kernel)) _ _ (fun x => [.agg ⟨x.1.cells⟩, x.2.v 0]) (fun x _ => x.2.p) (fun l x h => ?_) (fun x => rfl) do78
  rw [dCc_eq h]
  simp [renB, Cg.ren, renB_agg1, Cm.cells, Ls.cells, Ky.cells, plainC]
noncomputable abbrev g158 : FnS := gB dLs fun x => pLast x.1 x.2.1 x.2.2.L
theorem do158 (x : Ls × Int × Cg) : CallDoes Tryz.prog 158 ([.agg ⟨x.1.cells⟩, .int .i64 x.2.1, x.2.2.v 0]) [.dead] fun v _ => BoolV (pLast x.1 x.2.1 x.2.2.L) v := by
  refine of_run (ctxG_ok (l := [(150, g150), (152, g152), (153, g153)]) (cs := []) (bs := []) (.cons ok150 (.cons ok152 (.cons ok153 .nil))) .nil) (n := 400) Tryz.func158 rfl (BlksOK.none fun _ => rfl) ?_
  refine by_nf (B := bsplit (!(fun x => inR x.fst x.snd.fst x.snd.snd) (x.fst.cl, (1 : Int), (255 : Int))) (BoolV (pLast x.fst x.snd.fst x.snd.snd.L) (Value.bool false))
    (bsplit (!(fun x => inR x.fst x.snd.fst x.snd.snd) (x.fst.op, (1 : Int), (1099511627776 : Int))) (BoolV (pLast x.fst x.snd.fst x.snd.snd.L) (Value.bool false))
    (bsplit (!(fun x => inR x.fst x.snd.fst x.snd.snd) (x.fst.ins, (1 : Int), x.snd.fst)) (BoolV (pLast x.fst x.snd.fst x.snd.snd.L) (Value.bool false))
    (bsplit (x.fst.err == (102 : Int))
    (bsplit (x.fst.err == (102 : Int))
    (bsplit (x.fst.f1 == (0 : Int) && (x.fst.f2 == (0 : Int) && true)) (BoolV (pLast x.fst x.snd.fst x.snd.snd.L) (Value.bool (x.fst.sz == (0 : Int)))) (BoolV (pLast x.fst x.snd.fst x.snd.snd.L) (Value.bool false)))
    (bsplit (x.fst.err == (0 : Int))
    (bsplit (x.fst.err == (0 : Int))
    (bsplit ((fun x => pFile x.fst x.snd) (x.fst.f1, x.fst.f2)) (BoolV (pLast x.fst x.snd.fst x.snd.snd.L) (Value.bool ((fun x => pSize x.fst x.snd.L) (x.fst.sz, { p := (0 : Nat), m := x.snd.snd.m, F := x.snd.snd.F, P := x.snd.snd.P, B := x.snd.snd.B, L := x.snd.snd.L, R := x.snd.snd.R : Cg })))) (BoolV (pLast x.fst x.snd.fst x.snd.snd.L) (Value.bool false))) (BoolV (pLast x.fst x.snd.fst x.snd.snd.L) (Value.bool false)))
    (bsplit (x.fst.err == (101 : Int))
    (bsplit (x.fst.err == (101 : Int))
    (bsplit ((fun x => pFile x.fst x.snd) (x.fst.f1, x.fst.f2)) (BoolV (pLast x.fst x.snd.fst x.snd.snd.L) (Value.bool ((fun x => pSize x.fst x.snd.L) (x.fst.sz, { p := (0 : Nat), m := x.snd.snd.m, F := x.snd.snd.F, P := x.snd.snd.P, B := x.snd.snd.B, L := x.snd.snd.L, R := x.snd.snd.R : Cg })))) (BoolV (pLast x.fst x.snd.fst x.snd.snd.L) (Value.bool false))) (BoolV (pLast x.fst x.snd.fst x.snd.snd.L) (Value.bool false)))
    (bsplit (x.fst.err == (104 : Int))
    (bsplit ((fun x => pFile x.fst x.snd) (x.fst.f1, x.fst.f2)) (BoolV (pLast x.fst x.snd.fst x.snd.snd.L) (Value.bool ((fun x => pSize x.fst x.snd.L) (x.fst.sz, { p := (0 : Nat), m := x.snd.snd.m, F := x.snd.snd.F, P := x.snd.snd.P, B := x.snd.snd.B, L := x.snd.snd.L, R := x.snd.snd.R : Cg })))) (BoolV (pLast x.fst x.snd.fst x.snd.snd.L) (Value.bool false))) (BoolV (pLast x.fst x.snd.fst x.snd.snd.L) (Value.bool false))))))
    (bsplit (x.fst.err == (103 : Int))
    (bsplit (x.fst.f1 == (0 : Int) && (x.fst.f2 == (0 : Int) && true)) (BoolV (pLast x.fst x.snd.fst x.snd.snd.L) (Value.bool (x.fst.sz == (0 : Int)))) (BoolV (pLast x.fst x.snd.fst x.snd.snd.L) (Value.bool false)))
    (bsplit (x.fst.err == (0 : Int))
    (bsplit (x.fst.err == (0 : Int))
    (bsplit ((fun x => pFile x.fst x.snd) (x.fst.f1, x.fst.f2)) (BoolV (pLast x.fst x.snd.fst x.snd.snd.L) (Value.bool ((fun x => pSize x.fst x.snd.L) (x.fst.sz, { p := (0 : Nat), m := x.snd.snd.m, F := x.snd.snd.F, P := x.snd.snd.P, B := x.snd.snd.B, L := x.snd.snd.L, R := x.snd.snd.R : Cg })))) (BoolV (pLast x.fst x.snd.fst x.snd.snd.L) (Value.bool false))) (BoolV (pLast x.fst x.snd.fst x.snd.snd.L) (Value.bool false)))
    (bsplit (x.fst.err == (101 : Int))
    (bsplit (x.fst.err == (101 : Int))
    (bsplit ((fun x => pFile x.fst x.snd) (x.fst.f1, x.fst.f2)) (BoolV (pLast x.fst x.snd.fst x.snd.snd.L) (Value.bool ((fun x => pSize x.fst x.snd.L) (x.fst.sz, { p := (0 : Nat), m := x.snd.snd.m, F := x.snd.snd.F, P := x.snd.snd.P, B := x.snd.snd.B, L := x.snd.snd.L, R := x.snd.snd.R : Cg })))) (BoolV (pLast x.fst x.snd.fst x.snd.snd.L) (Value.bool false))) (BoolV (pLast x.fst x.snd.fst x.snd.snd.L) (Value.bool false)))
    (bsplit (x.fst.err == (104 : Int))
    (bsplit ((fun x => pFile x.fst x.snd) (x.fst.f1, x.fst.f2)) (BoolV (pLast x.fst x.snd.fst x.snd.snd.L) (Value.bool ((fun x => pSize x.fst x.snd.L) (x.fst.sz, { p := (0 : Nat), m := x.snd.snd.m, F := x.snd.snd.F, P := x.snd.snd.P, B := x.snd.snd.B, L := x.snd.snd.L, R := x.snd.snd.R : Cg })))) (BoolV (pLast x.fst x.snd.fst x.snd.snd.L) (Value.bool false))) (BoolV (pLast x.fst x.snd.fst x.snd.snd.L) (Value.bool false)))))))))) (by kernel_rfl) ?_
  (repeat' (first | (refine bsplit_iff.2 ⟨fun h => ?_, fun h => ?_⟩)))
  all_goals first | exact ⟨rfl⟩ | (refine ⟨?_⟩; simp_all [inR, pFile, pOne, pNone, pSize, pBelow, pFrom, pClient, pCz, pEmp, Bool.and_assoc, pCmdP, pCmdR, pCmd, pLast, pKey]; done) | (refine ⟨?_⟩; congr 1; rw [Bool.eq_iff_iff]; simp [inR, pFile, pOne, pNone, pSize, pBelow, pFrom, pClient, pCz, pEmp, Bool.and_assoc, pCmdP, pCmdR, pCmd, pLast, pKey] at *; omega) | (refine ⟨?_⟩; congr 1; rw [Bool.eq_iff_iff]; simp_all [inR, pFile, pOne, pNone, pSize, pBelow, pFrom, pClient, pCz, pEmp, Bool.and_assoc, pCmdP, pCmdR, pCmd, pLast, pKey]; omega)
theorem ok158 : FnOK Tryz.prog 158 g158 := by
  refine blindB (callable Tryz.func158 rfl (by decide +kernel)) _ _ (fun x => [.agg ⟨x.1.cells⟩, .int .i64 x.2.1, x.2.2.v 0]) (fun x _ => x.2.2.p) (fun l x h => ?_) (fun x => rfl) do158
  rw [dLs_eq h]
  simp [renB, Cg.ren, renB_agg1, Cm.cells, Ls.cells, Ky.cells, plainC]
noncomputable abbrev g159 : FnS := gB dLs fun x => pLast x.1 x.2.1 x.2.2.L
theorem do159 (x : Ls × Int × Cg) : CallDoes Tryz.prog 159 ([.agg ⟨x.1.cells⟩, .int .i64 x.2.1, x.2.2.v 0]) [.dead] fun v _ => BoolV (pLast x.1 x.2.1 x.2.2.L) v := by
  refine of_run (ctxG_ok (l := [(154, g154), (156, g156), (157, g157)]) (cs := []) (bs := []) (.cons ok154 (.cons ok156 (.cons ok157 .nil))) .nil) (n := 400) Tryz.func159 rfl (BlksOK.none fun _ => rfl) ?_
  refine by_nf (B := bsplit (!(fun x => inR x.fst x.snd.fst x.snd.snd) (x.fst.cl, (1 : Int), (255 : Int))) (BoolV (pLast x.fst x.snd.fst x.snd.snd.L) (Value.bool false))
    (bsplit (!(fun x => inR x.fst x.snd.fst x.snd.snd) (x.fst.op, (1 : Int), (1099511627776 : Int))) (BoolV (pLast x.fst x.snd.fst x.snd.snd.L) (Value.bool false))
    (bsplit (!(fun x => inR x.fst x.snd.fst x.snd.snd) (x.fst.ins, (1 : Int), x.snd.fst)) (BoolV (pLast x.fst x.snd.fst x.snd.snd.L) (Value.bool false))
    (bsplit (x.fst.err == (102 : Int))
    (bsplit (x.fst.err == (102 : Int))
    (bsplit (x.fst.f1 == (0 : Int) && (x.fst.f2 == (0 : Int) && true)) (BoolV (pLast x.fst x.snd.fst x.snd.snd.L) (Value.bool (x.fst.sz == (0 : Int)))) (BoolV (pLast x.fst x.snd.fst x.snd.snd.L) (Value.bool false)))
    (bsplit (x.fst.err == (0 : Int))
    (bsplit (x.fst.err == (0 : Int))
    (bsplit ((fun x => pFile x.fst x.snd) (x.fst.f1, x.fst.f2)) (BoolV (pLast x.fst x.snd.fst x.snd.snd.L) (Value.bool ((fun x => pSize x.fst x.snd.L) (x.fst.sz, { p := (0 : Nat), m := x.snd.snd.m, F := x.snd.snd.F, P := x.snd.snd.P, B := x.snd.snd.B, L := x.snd.snd.L, R := x.snd.snd.R : Cg })))) (BoolV (pLast x.fst x.snd.fst x.snd.snd.L) (Value.bool false))) (BoolV (pLast x.fst x.snd.fst x.snd.snd.L) (Value.bool false)))
    (bsplit (x.fst.err == (101 : Int))
    (bsplit (x.fst.err == (101 : Int))
    (bsplit ((fun x => pFile x.fst x.snd) (x.fst.f1, x.fst.f2)) (BoolV (pLast x.fst x.snd.fst x.snd.snd.L) (Value.bool ((fun x => pSize x.fst x.snd.L) (x.fst.sz, { p := (0 : Nat), m := x.snd.snd.m, F := x.snd.snd.F, P := x.snd.snd.P, B := x.snd.snd.B, L := x.snd.snd.L, R := x.snd.snd.R : Cg })))) (BoolV (pLast x.fst x.snd.fst x.snd.snd.L) (Value.bool false))) (BoolV (pLast x.fst x.snd.fst x.snd.snd.L) (Value.bool false)))
    (bsplit (x.fst.err == (104 : Int))
    (bsplit ((fun x => pFile x.fst x.snd) (x.fst.f1, x.fst.f2)) (BoolV (pLast x.fst x.snd.fst x.snd.snd.L) (Value.bool ((fun x => pSize x.fst x.snd.L) (x.fst.sz, { p := (0 : Nat), m := x.snd.snd.m, F := x.snd.snd.F, P := x.snd.snd.P, B := x.snd.snd.B, L := x.snd.snd.L, R := x.snd.snd.R : Cg })))) (BoolV (pLast x.fst x.snd.fst x.snd.snd.L) (Value.bool false))) (BoolV (pLast x.fst x.snd.fst x.snd.snd.L) (Value.bool false))))))
    (bsplit (x.fst.err == (103 : Int))
    (bsplit (x.fst.f1 == (0 : Int) && (x.fst.f2 == (0 : Int) && true)) (BoolV (pLast x.fst x.snd.fst x.snd.snd.L) (Value.bool (x.fst.sz == (0 : Int)))) (BoolV (pLast x.fst x.snd.fst x.snd.snd.L) (Value.bool false)))
    (bsplit (x.fst.err == (0 : Int))
    (bsplit (x.fst.err == (0 : Int))
    (bsplit ((fun x => pFile x.fst x.snd) (x.fst.f1, x.fst.f2)) (BoolV (pLast x.fst x.snd.fst x.snd.snd.L) (Value.bool ((fun x => pSize x.fst x.snd.L) (x.fst.sz, { p := (0 : Nat), m := x.snd.snd.m, F := x.snd.snd.F, P := x.snd.snd.P, B := x.snd.snd.B, L := x.snd.snd.L, R := x.snd.snd.R : Cg })))) (BoolV (pLast x.fst x.snd.fst x.snd.snd.L) (Value.bool false))) (BoolV (pLast x.fst x.snd.fst x.snd.snd.L) (Value.bool false)))
    (bsplit (x.fst.err == (101 : Int))
    (bsplit (x.fst.err == (101 : Int))
    (bsplit ((fun x => pFile x.fst x.snd) (x.fst.f1, x.fst.f2)) (BoolV (pLast x.fst x.snd.fst x.snd.snd.L) (Value.bool ((fun x => pSize x.fst x.snd.L) (x.fst.sz, { p := (0 : Nat), m := x.snd.snd.m, F := x.snd.snd.F, P := x.snd.snd.P, B := x.snd.snd.B, L := x.snd.snd.L, R := x.snd.snd.R : Cg })))) (BoolV (pLast x.fst x.snd.fst x.snd.snd.L) (Value.bool false))) (BoolV (pLast x.fst x.snd.fst x.snd.snd.L) (Value.bool false)))
    (bsplit (x.fst.err == (104 : Int))
    (bsplit ((fun x => pFile x.fst x.snd) (x.fst.f1, x.fst.f2)) (BoolV (pLast x.fst x.snd.fst x.snd.snd.L) (Value.bool ((fun x => pSize x.fst x.snd.L) (x.fst.sz, { p := (0 : Nat), m := x.snd.snd.m, F := x.snd.snd.F, P := x.snd.snd.P, B := x.snd.snd.B, L := x.snd.snd.L, R := x.snd.snd.R : Cg })))) (BoolV (pLast x.fst x.snd.fst x.snd.snd.L) (Value.bool false))) (BoolV (pLast x.fst x.snd.fst x.snd.snd.L) (Value.bool false)))))))))) (by kernel_rfl) ?_
  (repeat' (first | (refine bsplit_iff.2 ⟨fun h => ?_, fun h => ?_⟩)))
  all_goals first | exact ⟨rfl⟩ | (refine ⟨?_⟩; simp_all [inR, pFile, pOne, pNone, pSize, pBelow, pFrom, pClient, pCz, pEmp, Bool.and_assoc, pCmdP, pCmdR, pCmd, pLast, pKey]; done) | (refine ⟨?_⟩; congr 1; rw [Bool.eq_iff_iff]; simp [inR, pFile, pOne, pNone, pSize, pBelow, pFrom, pClient, pCz, pEmp, Bool.and_assoc, pCmdP, pCmdR, pCmd, pLast, pKey] at *; omega) | (refine ⟨?_⟩; congr 1; rw [Bool.eq_iff_iff]; simp_all [inR, pFile, pOne, pNone, pSize, pBelow, pFrom, pClient, pCz, pEmp, Bool.and_assoc, pCmdP, pCmdR, pCmd, pLast, pKey]; omega)
theorem ok159 : FnOK Tryz.prog 159 g159 := by
  refine blindB (callable Tryz.func159 rfl (by decide +kernel)) _ _ (fun x => [.agg ⟨x.1.cells⟩, .int .i64 x.2.1, x.2.2.v 0]) (fun x _ => x.2.2.p) (fun l x h => ?_) (fun x => rfl) do159
  rw [dLs_eq h]
  simp [renB, Cg.ren, renB_agg1, Cm.cells, Ls.cells, Ky.cells, plainC]
noncomputable abbrev g201 : FnS := gB dKy fun x => pKey x.1 (decide (x.1.a < x.2.B))
theorem do201 (x : Ky × Cg) : CallDoes Tryz.prog 201 ([.agg ⟨x.1.cells⟩, x.2.v 0]) [.dead] fun v _ => BoolV (pKey x.1 (decide (x.1.a < x.2.B))) v := by
  refine of_run (ctxG_ok (l := []) (cs := []) (bs := []) .nil .nil) (n := 400) Tryz.func201 rfl (BlksOK.none fun _ => rfl) ?_
  refine by_nf (B := bsplit (decide (x.fst.a ≥ (0 : Int)))
    (bsplit (decide (x.fst.a < x.snd.B))
    (bsplit (x.fst.k == (1 : Int))
    (bsplit (decide (x.fst.a ≥ (1 : Int)))
    (bsplit (decide (x.fst.a ≤ (255 : Int)))
    (bsplit (decide (x.fst.b ≥ (1 : Int)))
    (bsplit (decide (x.fst.b ≤ (1099511627776 : Int)))
    (bsplit (decide (x.fst.c ≥ (0 : Int))) (BoolV (pKey x.fst (decide (x.fst.a < x.snd.B))) (Value.bool (decide (x.fst.c < (1048576 : Int))))) (BoolV (pKey x.fst (decide (x.fst.a < x.snd.B))) (Value.bool false))) (BoolV (pKey x.fst (decide (x.fst.a < x.snd.B))) (Value.bool false))) (BoolV (pKey x.fst (decide (x.fst.a < x.snd.B))) (Value.bool false))) (BoolV (pKey x.fst (decide (x.fst.a < x.snd.B))) (Value.bool false))) (BoolV (pKey x.fst (decide (x.fst.a < x.snd.B))) (Value.bool false)))
    (bsplit (x.fst.k == (2 : Int))
    (bsplit (x.fst.c == (0 : Int)) (BoolV (pKey x.fst (decide (x.fst.a < x.snd.B))) (Value.bool (x.fst.b == (0 : Int)))) (BoolV (pKey x.fst (decide (x.fst.a < x.snd.B))) (Value.bool false)))
    (bsplit (x.fst.k == (3 : Int))
    (bsplit (x.fst.c == (0 : Int))
    (bsplit (decide (x.fst.b ≥ (1 : Int))) (BoolV (pKey x.fst (decide (x.fst.a < x.snd.B))) (Value.bool (decide (x.fst.b ≤ (1048576 : Int))))) (BoolV (pKey x.fst (decide (x.fst.a < x.snd.B))) (Value.bool false))) (BoolV (pKey x.fst (decide (x.fst.a < x.snd.B))) (Value.bool false))) (BoolV (pKey x.fst (decide (x.fst.a < x.snd.B))) (Value.bool false)))))
    (bsplit (x.fst.k == (1 : Int))
    (bsplit (decide (x.fst.a ≥ (1 : Int)))
    (bsplit (decide (x.fst.a ≤ (255 : Int)))
    (bsplit (decide (x.fst.b ≥ (1 : Int)))
    (bsplit (decide (x.fst.b ≤ (1099511627776 : Int)))
    (bsplit (decide (x.fst.c ≥ (0 : Int))) (BoolV (pKey x.fst (decide (x.fst.a < x.snd.B))) (Value.bool (decide (x.fst.c < (1048576 : Int))))) (BoolV (pKey x.fst (decide (x.fst.a < x.snd.B))) (Value.bool false))) (BoolV (pKey x.fst (decide (x.fst.a < x.snd.B))) (Value.bool false))) (BoolV (pKey x.fst (decide (x.fst.a < x.snd.B))) (Value.bool false))) (BoolV (pKey x.fst (decide (x.fst.a < x.snd.B))) (Value.bool false))) (BoolV (pKey x.fst (decide (x.fst.a < x.snd.B))) (Value.bool false)))
    (bsplit (x.fst.k == (2 : Int)) (BoolV (pKey x.fst (decide (x.fst.a < x.snd.B))) (Value.bool false))
    (bsplit (x.fst.k == (3 : Int)) (BoolV (pKey x.fst (decide (x.fst.a < x.snd.B))) (Value.bool false)) (BoolV (pKey x.fst (decide (x.fst.a < x.snd.B))) (Value.bool false))))))
    (bsplit (x.fst.k == (1 : Int))
    (bsplit (decide (x.fst.a ≥ (1 : Int)))
    (bsplit (decide (x.fst.a ≤ (255 : Int)))
    (bsplit (decide (x.fst.b ≥ (1 : Int)))
    (bsplit (decide (x.fst.b ≤ (1099511627776 : Int)))
    (bsplit (decide (x.fst.c ≥ (0 : Int))) (BoolV (pKey x.fst (decide (x.fst.a < x.snd.B))) (Value.bool (decide (x.fst.c < (1048576 : Int))))) (BoolV (pKey x.fst (decide (x.fst.a < x.snd.B))) (Value.bool false))) (BoolV (pKey x.fst (decide (x.fst.a < x.snd.B))) (Value.bool false))) (BoolV (pKey x.fst (decide (x.fst.a < x.snd.B))) (Value.bool false))) (BoolV (pKey x.fst (decide (x.fst.a < x.snd.B))) (Value.bool false))) (BoolV (pKey x.fst (decide (x.fst.a < x.snd.B))) (Value.bool false)))
    (bsplit (x.fst.k == (2 : Int)) (BoolV (pKey x.fst (decide (x.fst.a < x.snd.B))) (Value.bool false))
    (bsplit (x.fst.k == (3 : Int)) (BoolV (pKey x.fst (decide (x.fst.a < x.snd.B))) (Value.bool false)) (BoolV (pKey x.fst (decide (x.fst.a < x.snd.B))) (Value.bool false)))))) (by kernel_rfl) ?_
  (repeat' (first | (refine bsplit_iff.2 ⟨fun h => ?_, fun h => ?_⟩)))
  all_goals first | exact ⟨rfl⟩ | (refine ⟨?_⟩; simp_all [inR, pFile, pOne, pNone, pSize, pBelow, pFrom, pClient, pCz, pEmp, Bool.and_assoc, pCmdP, pCmdR, pCmd, pLast, pKey]; done) | (refine ⟨?_⟩; congr 1; rw [Bool.eq_iff_iff]; simp [inR, pFile, pOne, pNone, pSize, pBelow, pFrom, pClient, pCz, pEmp, Bool.and_assoc, pCmdP, pCmdR, pCmd, pLast, pKey] at *; omega) | (refine ⟨?_⟩; congr 1; rw [Bool.eq_iff_iff]; simp_all [inR, pFile, pOne, pNone, pSize, pBelow, pFrom, pClient, pCz, pEmp, Bool.and_assoc, pCmdP, pCmdR, pCmd, pLast, pKey]; omega)
theorem ok201 : FnOK Tryz.prog 201 g201 := by
  refine blindB (callable Tryz.func201 rfl (by decide +kernel)) _ _ (fun x => [.agg ⟨x.1.cells⟩, x.2.v 0]) (fun x _ => x.2.p) (fun l x h => ?_) (fun x => rfl) do201
  rw [dKy_eq h]
  simp [renB, Cg.ren, renB_agg1, Cm.cells, Ls.cells, Ky.cells, plainC]
noncomputable abbrev g120 : FnS := gB dKy fun x => pKey x.1 (decide (x.1.a ≤ IntKind.i64.wrap (x.2.B - 1)))
theorem do120 (x : Ky × Cg) : CallDoes Tryz.prog 120 ([.agg ⟨x.1.cells⟩, x.2.v 0]) [.dead] fun v _ => BoolV (pKey x.1 (decide (x.1.a ≤ IntKind.i64.wrap (x.2.B - 1)))) v := by
  refine of_run (ctxG_ok (l := [(119, g119)]) (cs := []) (bs := []) (.cons ok119 .nil) .nil) (n := 400) Tryz.func120 rfl (BlksOK.none fun _ => rfl) ?_
  refine by_nf (B := bsplit (x.fst.k == (1 : Int))
    (bsplit ((fun x => inR x.fst x.snd.fst x.snd.snd) (x.fst.a, (1 : Int), (255 : Int)))
    (bsplit ((fun x => inR x.fst x.snd.fst x.snd.snd) (x.fst.b, (1 : Int), (1099511627776 : Int))) (BoolV (pKey x.fst (decide (x.fst.a ≤ IntKind.i64.wrap (x.snd.B - (1 : Int))))) (Value.bool ((fun x => inR x.fst x.snd.fst x.snd.snd) (x.fst.c, (0 : Int), (1048575 : Int))))) (BoolV (pKey x.fst (decide (x.fst.a ≤ IntKind.i64.wrap (x.snd.B - (1 : Int))))) (Value.bool false))) (BoolV (pKey x.fst (decide (x.fst.a ≤ IntKind.i64.wrap (x.snd.B - (1 : Int))))) (Value.bool false)))
    (bsplit (x.fst.k == (2 : Int))
    (bsplit ((fun x => inR x.fst x.snd.fst x.snd.snd) (x.fst.a, (0 : Int), IntKind.i64.wrap (x.snd.B - (1 : Int))))
    (bsplit (x.fst.b == (0 : Int)) (BoolV (pKey x.fst (decide (x.fst.a ≤ IntKind.i64.wrap (x.snd.B - (1 : Int))))) (Value.bool (x.fst.c == (0 : Int)))) (BoolV (pKey x.fst (decide (x.fst.a ≤ IntKind.i64.wrap (x.snd.B - (1 : Int))))) (Value.bool false))) (BoolV (pKey x.fst (decide (x.fst.a ≤ IntKind.i64.wrap (x.snd.B - (1 : Int))))) (Value.bool false)))
    (bsplit (x.fst.k == (3 : Int))
    (bsplit ((fun x => inR x.fst x.snd.fst x.snd.snd) (x.fst.a, (0 : Int), IntKind.i64.wrap (x.snd.B - (1 : Int))))
    (bsplit ((fun x => inR x.fst x.snd.fst x.snd.snd) (x.fst.b, (1 : Int), (1048576 : Int))) (BoolV (pKey x.fst (decide (x.fst.a ≤ IntKind.i64.wrap (x.snd.B - (1 : Int))))) (Value.bool (x.fst.c == (0 : Int)))) (BoolV (pKey x.fst (decide (x.fst.a ≤ IntKind.i64.wrap (x.snd.B - (1 : Int))))) (Value.bool false))) (BoolV (pKey x.fst (decide (x.fst.a ≤ IntKind.i64.wrap (x.snd.B - (1 : Int))))) (Value.bool false))) (BoolV (pKey x.fst (decide (x.fst.a ≤ IntKind.i64.wrap (x.snd.B - (1 : Int))))) (Value.bool false))))) (by kernel_rfl) ?_
  (repeat' (first | (refine bsplit_iff.2 ⟨fun h => ?_, fun h => ?_⟩)))
  all_goals first | exact ⟨rfl⟩ | (refine ⟨?_⟩; simp_all [inR, pFile, pOne, pNone, pSize, pBelow, pFrom, pClient, pCz, pEmp, Bool.and_assoc, pCmdP, pCmdR, pCmd, pLast, pKey]; done) | (refine ⟨?_⟩; congr 1; rw [Bool.eq_iff_iff]; simp [inR, pFile, pOne, pNone, pSize, pBelow, pFrom, pClient, pCz, pEmp, Bool.and_assoc, pCmdP, pCmdR, pCmd, pLast, pKey] at *; omega) | (refine ⟨?_⟩; congr 1; rw [Bool.eq_iff_iff]; simp_all [inR, pFile, pOne, pNone, pSize, pBelow, pFrom, pClient, pCz, pEmp, Bool.and_assoc, pCmdP, pCmdR, pCmd, pLast, pKey]; omega)
theorem ok120 : FnOK Tryz.prog 120 g120 := by
  refine blindB (callable Tryz.func120 rfl (by decide +kernel)) _ _ (fun x => [.agg ⟨x.1.cells⟩, x.2.v 0]) (fun x _ => x.2.p) (fun l x h => ?_) (fun x => rfl) do120
  rw [dKy_eq h]
  simp [renB, Cg.ren, renB_agg1, Cm.cells, Ls.cells, Ky.cells, plainC]
end Go.Msg
