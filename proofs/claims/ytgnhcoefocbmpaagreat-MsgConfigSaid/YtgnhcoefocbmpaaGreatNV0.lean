/- The small tests of the parts of messages: the program's and the reference's, each told by one function. -/
import Derived.Test.YtgnhcoefocbmpaaGreatNM1
import Derived.Test.YtgnhcoefocbmpaaGreatXSL
set_option linter.unusedSimpArgs false
set_option linter.unusedVariables false
set_option linter.unusedSectionVars false
set_option maxRecDepth 100000
namespace Go.Msg
open Go Go.X Go.Proofs
variable [WI]
/-- a function that looks at no place and answers yes or no -/
abbrev gB {α : Type} (dec : List Value → Option α) (res : α → Bool) : FnS := fun args _ => match dec args with | some x => .val (.bool (res x)) | none => .bad
theorem blindB {f : FuncId} {α : Type} (hc : Callable Tryz.prog f) (dec : List Value → Option α) (res : α → Bool) (enc : α → List Value) (ρ : α → Nat → Nat) (hde : ∀ l x, dec l = some x → l = (enc x).map (renB (ρ x)))
    (hs : ∀ x, (enc x).all (scB 1 6) = true) (h : ∀ x, CallDoes Tryz.prog f (enc x) [.dead] fun v _ => BoolV (res x) v) : FnOK Tryz.prog f (gB dec res) := by
  refine ⟨hc, fun env w V args os v hW hsc hg => ?_⟩
  unfold gB at hg
  split at hg
  · rename_i x hx
    rcases hg with ⟨rfl, hg⟩ | ⟨p, hg, _⟩
    · rw [Gives.val_iff] at hg
      subst hg
      obtain rfl := hde args x hx
      have := CallDoes.blind (P := Tryz.prog) (V := V) (K := fun v V' => v = .bool (res x) ∧ V' = V) (fun v => BoolV (res x) v) 1 (ρ x) rfl (scA (hs x)) (h x) (fun v hv => by rw [hv.eq]; exact ⟨rfl, rfl, rfl⟩)
      refine (this env w hW hsc).mono ?_
      rintro e w' ⟨u, env', V', v, rfl, hrv, hW', hF, rfl, rfl⟩
      rw [List.append_nil]
      exact ⟨u, env', rfl, hrv, hW', hF⟩
    · cases hg
  · rcases hg with ⟨_, hg⟩ | ⟨p, hg, _⟩
    · exact (Gives.bad.1 hg).elim
    · cases hg
def inR (n lo hi : Int) : Bool := decide (n ≥ lo) && decide (n ≤ hi)
def pFile (a b : Int) : Bool := inR a 1 255 && inR b 1 1099511627776
def pOne (n c : Int) : Bool := inR n 1 1099511627776 && inR c 1 255
def pNone (n c : Int) : Bool := n == 0 && c == 0
def pSize (n L : Int) : Bool := inR n 0 (IntKind.i64.wrap (1048576 * L))
def pBelow (a b c d : Int) : Bool := decide (a < c) || (a == c && decide (b < d))
def pFrom (n c : Int) : Bool := inR n 1 1048577 && c == 0
def pClient (b : Bool) (i : Int) : Bool := b && inR i 1 255
/-- a command -/
structure Cm where
  k : Int
  cl : Int
  op : Int
  nm : ByteArray
  f1 : Int
  f2 : Int
  n1 : Int
  n2 : Int
  sz : Int
def Cm.cells (x : Cm) : List Value := [.int .i64 x.k, .int .i64 x.cl, .int .i64 x.op, .string x.nm, .int .i64 x.f1, .int .i64 x.f2, .int .i64 x.n1, .int .i64 x.n2, .int .i64 x.sz]
def pEmp (s : ByteArray) : Bool := s.data.toList == []
noncomputable def pCmd (x : Cm) (L : Int) : Bool := inR x.k 1 7 && inR x.cl 1 255 && inR x.op 1 1099511627776 && (if x.k = 4 then pEmp x.nm else pName x.nm) &&
  (if x.k < 5 then pNone x.f1 x.f2 && x.sz == 0 else pFile x.f1 x.f2) && (if x.k = 7 then pFile x.n1 x.n2 else pNone x.n1 x.n2)
def pCz (x : Cm) : Bool := x.k == 0 && x.cl == 0 && x.op == 0 && pEmp x.nm && x.f1 == 0 && x.f2 == 0 && x.n1 == 0 && x.n2 == 0 && x.sz == 0
/-- a configuration's value, in place p -/
structure Cg where
  p : Nat
  m : Nat
  F : Int
  P : Int
  B : Int
  L : Int
  R : Int
def Cg.v (c : Cg) (p : Nat) : Value := .agg ⟨[.slice (some ⟨p, 3, some 0⟩) c.m 0, .int .i64 c.F, .int .i64 c.P, .int .i64 c.B, .int .i64 c.L, .int .i64 c.R]⟩
def unCg (v : Value) : Option Cg := match v with
  | .agg ⟨[.slice (some ⟨p, 3, some 0⟩) m 0, .int .i64 F, .int .i64 P, .int .i64 B, .int .i64 L, .int .i64 R]⟩ => some ⟨p, m, F, P, B, L, R⟩
  | _ => none
theorem unCg_eq {v : Value} {c : Cg} (h : unCg v = some c) : v = c.v c.p := by
  unfold unCg at h
  split at h
  · cases h; rfl
  · cases h
theorem Cg.ren (c : Cg) : renB (fun _ => c.p) (c.v 0) = c.v c.p := by
  simp [Cg.v, renB]
theorem Cg.sc (c : Cg) : scB 1 5 (c.v 0) = true := rfl
def dI3 (l : List Value) : Option (Int × Int × Int) := match l with | [.int .i64 a, .int .i64 b, .int .i64 c] => some (a, b, c) | _ => none
theorem dI3_eq {l : List Value} {x : Int × Int × Int} (h : dI3 l = some x) : l = [.int .i64 x.1, .int .i64 x.2.1, .int .i64 x.2.2] := by
  unfold dI3 at h
  split at h
  · cases h; rfl
  · cases h
def d2 (l : List Value) : Option (Int × Int) := match l with | [.agg ⟨[.int .i64 a, .int .i64 b]⟩] => some (a, b) | _ => none
theorem d2_eq {l : List Value} {x : Int × Int} (h : d2 l = some x) : l = [.agg ⟨[.int .i64 x.1, .int .i64 x.2]⟩] := by
  unfold d2 at h
  split at h
  · cases h; rfl
  · cases h
def d4 (l : List Value) : Option (Int × Int × Int × Int) := match l with | [.agg ⟨[.int .i64 a, .int .i64 b]⟩, .agg ⟨[.int .i64 c, .int .i64 d]⟩] => some (a, b, c, d) | _ => none
theorem d4_eq {l : List Value} {x : Int × Int × Int × Int} (h : d4 l = some x) : l = [.agg ⟨[.int .i64 x.1, .int .i64 x.2.1]⟩, .agg ⟨[.int .i64 x.2.2.1, .int .i64 x.2.2.2]⟩] := by
  unfold d4 at h
  split at h
  · cases h; rfl
  · cases h
def dAd (l : List Value) : Option (Bool × Int) := match l with | [.agg ⟨[.bool a, .int .i64 b]⟩] => some (a, b) | _ => none
theorem dAd_eq {l : List Value} {x : Bool × Int} (h : dAd l = some x) : l = [.agg ⟨[.bool x.1, .int .i64 x.2]⟩] := by
  unfold dAd at h
  split at h
  · cases h; rfl
  · cases h
def dStr (l : List Value) : Option ByteArray := match l with | [.string s] => some s | _ => none
theorem dStr_eq {l : List Value} {x : ByteArray} (h : dStr l = some x) : l = [.string x] := by
  unfold dStr at h
  split at h
  · cases h; rfl
  · cases h
def dSz (l : List Value) : Option (Int × Cg) := match l with | [.int .i64 n, c] => (match unCg c with | some c => some (n, c) | none => none) | _ => none
theorem dSz_eq {l : List Value} {x : Int × Cg} (h : dSz l = some x) : l = [.int .i64 x.1, x.2.v x.2.p] := by
  unfold dSz at h
  split at h
  · split at h
    · rename_i hc; cases h; rw [unCg_eq hc]
    · cases h
  · cases h
def unCm (v : Value) : Option Cm := match v with
  | .agg ⟨[.int .i64 k, .int .i64 cl, .int .i64 op, .string nm, .int .i64 f1, .int .i64 f2, .int .i64 n1, .int .i64 n2, .int .i64 sz]⟩ => some ⟨k, cl, op, nm, f1, f2, n1, n2, sz⟩
  | _ => none
theorem unCm_eq {v : Value} {x : Cm} (h : unCm v = some x) : v = .agg ⟨x.cells⟩ := by
  unfold unCm at h
  split at h
  · cases h; rfl
  · cases h
def dCm (l : List Value) : Option Cm := match l with | [v] => unCm v | _ => none
theorem dCm_eq {l : List Value} {x : Cm} (h : dCm l = some x) : l = [.agg ⟨x.cells⟩] := by
  unfold dCm at h
  split at h
  · rw [unCm_eq h]
  · cases h
def dCc (l : List Value) : Option (Cm × Cg) := match l with | [v, c] => (match unCm v, unCg c with | some v, some c => some (v, c) | _, _ => none) | _ => none
theorem dCc_eq {l : List Value} {x : Cm × Cg} (h : dCc l = some x) : l = [.agg ⟨x.1.cells⟩, x.2.v x.2.p] := by
  unfold dCc at h
  split at h
  · split at h
    · rename_i h1 h2; cases h; rw [unCm_eq h1, unCg_eq h2]
    · cases h
  · cases h
theorem renB_plain1 (ρ : Nat → Nat) (l : List Value) (h : l.all plainC = true) : l.map (renB ρ) = l := by
  induction l with
  | nil => rfl
  | cons x xs ih =>
    simp only [List.all_cons, Bool.and_eq_true] at h
    rw [List.map_cons, ih h.2]
    congr 1
    have h := h.1
    unfold plainC at h
    cases x with
    | pointer a => cases a with | none => simp [renB] | some a => cases h
    | slice a l c => cases a with | none => simp [renB] | some a => cases h
    | map a => cases a with | none => simp [renB] | some a => cases h
    | _ => first | (simp [renB]; done) | cases h
theorem renB_agg1 (ρ : Nat → Nat) (l : List Value) (h : l.all plainC = true) : renB ρ (.agg ⟨l⟩) = .agg ⟨l⟩ := by rw [renB_agg, renB_plain1 ρ l h]
abbrev g150 : FnS := gB dI3 fun x => inR x.1 x.2.1 x.2.2
theorem do150 (x : Int × Int × Int) : CallDoes Tryz.prog 150 ([.int .i64 x.1, .int .i64 x.2.1, .int .i64 x.2.2]) [.dead] fun v _ => BoolV (inR x.1 x.2.1 x.2.2) v := by
  refine of_run (ctxG_ok (l := []) (cs := []) (bs := []) .nil .nil) (n := 300) Tryz.func150 rfl (BlksOK.none fun _ => rfl) ?_
  refine by_nf (B := bsplit (decide (x.fst ≥ x.snd.fst)) (BoolV (inR x.fst x.snd.fst x.snd.snd) (Value.bool (decide (x.fst ≤ x.snd.snd)))) (BoolV (inR x.fst x.snd.fst x.snd.snd) (Value.bool false))) (by kernel_rfl) ?_
  (repeat' (first | (refine bsplit_iff.2 ⟨fun h => ?_, fun h => ?_⟩)))
  all_goals first | exact ⟨rfl⟩ | (refine ⟨?_⟩; congr 1; rw [Bool.eq_iff_iff]; simp [inR, pFile, pOne, pNone, pSize, pBelow, pFrom, pClient, pCz, pEmp] at *; omega) | (refine ⟨?_⟩; simp_all [inR, pFile, pOne, pNone, pSize, pBelow, pFrom, pClient, pCz, pEmp, Bool.and_assoc]; done)
theorem ok150 : FnOK Tryz.prog 150 g150 := by
  refine blindB (callable Tryz.func150 rfl (by decide +kernel)) _ _ (fun x => [.int .i64 x.1, .int .i64 x.2.1, .int .i64 x.2.2]) (fun _ _ => 0) (fun l x h => ?_) (fun x => rfl) do150
  rw [dI3_eq h]
  simp [renB, Cg.ren, renB_agg1, Cm.cells]
abbrev g119 : FnS := gB dI3 fun x => inR x.1 x.2.1 x.2.2
theorem do119 (x : Int × Int × Int) : CallDoes Tryz.prog 119 ([.int .i64 x.1, .int .i64 x.2.1, .int .i64 x.2.2]) [.dead] fun v _ => BoolV (inR x.1 x.2.1 x.2.2) v := by
  refine of_run (ctxG_ok (l := []) (cs := []) (bs := []) .nil .nil) (n := 300) Tryz.func119 rfl (BlksOK.none fun _ => rfl) ?_
  refine by_nf (B := bsplit (decide (x.fst ≥ x.snd.fst)) (BoolV (inR x.fst x.snd.fst x.snd.snd) (Value.bool (decide (x.fst ≤ x.snd.snd)))) (BoolV (inR x.fst x.snd.fst x.snd.snd) (Value.bool false))) (by kernel_rfl) ?_
  (repeat' (first | (refine bsplit_iff.2 ⟨fun h => ?_, fun h => ?_⟩)))
  all_goals first | exact ⟨rfl⟩ | (refine ⟨?_⟩; congr 1; rw [Bool.eq_iff_iff]; simp [inR, pFile, pOne, pNone, pSize, pBelow, pFrom, pClient, pCz, pEmp] at *; omega) | (refine ⟨?_⟩; simp_all [inR, pFile, pOne, pNone, pSize, pBelow, pFrom, pClient, pCz, pEmp, Bool.and_assoc]; done)
theorem ok119 : FnOK Tryz.prog 119 g119 := by
  refine blindB (callable Tryz.func119 rfl (by decide +kernel)) _ _ (fun x => [.int .i64 x.1, .int .i64 x.2.1, .int .i64 x.2.2]) (fun _ _ => 0) (fun l x h => ?_) (fun x => rfl) do119
  rw [dI3_eq h]
  simp [renB, Cg.ren, renB_agg1, Cm.cells]
abbrev g154 : FnS := gB dI3 fun x => inR x.1 x.2.1 x.2.2
theorem do154 (x : Int × Int × Int) : CallDoes Tryz.prog 154 ([.int .i64 x.1, .int .i64 x.2.1, .int .i64 x.2.2]) [.dead] fun v _ => BoolV (inR x.1 x.2.1 x.2.2) v := by
  refine of_run (ctxG_ok (l := []) (cs := []) (bs := []) .nil .nil) (n := 300) Tryz.func154 rfl (BlksOK.none fun _ => rfl) ?_
  refine by_nf (B := bsplit (decide (x.fst ≥ x.snd.fst)) (BoolV (inR x.fst x.snd.fst x.snd.snd) (Value.bool (decide (x.fst ≤ x.snd.snd)))) (BoolV (inR x.fst x.snd.fst x.snd.snd) (Value.bool false))) (by kernel_rfl) ?_
  (repeat' (first | (refine bsplit_iff.2 ⟨fun h => ?_, fun h => ?_⟩)))
  all_goals first | exact ⟨rfl⟩ | (refine ⟨?_⟩; congr 1; rw [Bool.eq_iff_iff]; simp [inR, pFile, pOne, pNone, pSize, pBelow, pFrom, pClient, pCz, pEmp] at *; omega) | (refine ⟨?_⟩; simp_all [inR, pFile, pOne, pNone, pSize, pBelow, pFrom, pClient, pCz, pEmp, Bool.and_assoc]; done)
theorem ok154 : FnOK Tryz.prog 154 g154 := by
  refine blindB (callable Tryz.func154 rfl (by decide +kernel)) _ _ (fun x => [.int .i64 x.1, .int .i64 x.2.1, .int .i64 x.2.2]) (fun _ _ => 0) (fun l x h => ?_) (fun x => rfl) do154
  rw [dI3_eq h]
  simp [renB, Cg.ren, renB_agg1, Cm.cells]
abbrev g152 : FnS := gB d2 fun x => pFile x.1 x.2
theorem do152 (x : Int × Int) : CallDoes Tryz.prog 152 ([.agg ⟨[.int .i64 x.1, .int .i64 x.2]⟩]) [.dead] fun v _ => BoolV (pFile x.1 x.2) v := by
  refine of_run (ctxG_ok (l := [(150, g150)]) (cs := []) (bs := []) (.cons ok150 .nil) .nil) (n := 300) Tryz.func152 rfl (BlksOK.none fun _ => rfl) ?_
  refine by_nf (B := bsplit ((fun x => inR x.fst x.snd.fst x.snd.snd) (x.fst, (1 : Int), (255 : Int))) (BoolV (pFile x.fst x.snd) (Value.bool ((fun x => inR x.fst x.snd.fst x.snd.snd) (x.snd, (1 : Int), (1099511627776 : Int))))) (BoolV (pFile x.fst x.snd) (Value.bool false))) (by kernel_rfl) ?_
  (repeat' (first | (refine bsplit_iff.2 ⟨fun h => ?_, fun h => ?_⟩)))
  all_goals first | exact ⟨rfl⟩ | (refine ⟨?_⟩; congr 1; rw [Bool.eq_iff_iff]; simp [inR, pFile, pOne, pNone, pSize, pBelow, pFrom, pClient, pCz, pEmp] at *; omega) | (refine ⟨?_⟩; simp_all [inR, pFile, pOne, pNone, pSize, pBelow, pFrom, pClient, pCz, pEmp, Bool.and_assoc]; done)
theorem ok152 : FnOK Tryz.prog 152 g152 := by
  refine blindB (callable Tryz.func152 rfl (by decide +kernel)) _ _ (fun x => [.agg ⟨[.int .i64 x.1, .int .i64 x.2]⟩]) (fun _ _ => 0) (fun l x h => ?_) (fun x => rfl) do152
  rw [d2_eq h]
  simp [renB, Cg.ren, renB_agg1, Cm.cells]
abbrev g156 : FnS := gB d2 fun x => pFile x.1 x.2
theorem do156 (x : Int × Int) : CallDoes Tryz.prog 156 ([.agg ⟨[.int .i64 x.1, .int .i64 x.2]⟩]) [.dead] fun v _ => BoolV (pFile x.1 x.2) v := by
  refine of_run (ctxG_ok (l := [(154, g154)]) (cs := []) (bs := []) (.cons ok154 .nil) .nil) (n := 300) Tryz.func156 rfl (BlksOK.none fun _ => rfl) ?_
  refine by_nf (B := bsplit ((fun x => inR x.fst x.snd.fst x.snd.snd) (x.fst, (1 : Int), (255 : Int))) (BoolV (pFile x.fst x.snd) (Value.bool ((fun x => inR x.fst x.snd.fst x.snd.snd) (x.snd, (1 : Int), (1099511627776 : Int))))) (BoolV (pFile x.fst x.snd) (Value.bool false))) (by kernel_rfl) ?_
  (repeat' (first | (refine bsplit_iff.2 ⟨fun h => ?_, fun h => ?_⟩)))
  all_goals first | exact ⟨rfl⟩ | (refine ⟨?_⟩; congr 1; rw [Bool.eq_iff_iff]; simp [inR, pFile, pOne, pNone, pSize, pBelow, pFrom, pClient, pCz, pEmp] at *; omega) | (refine ⟨?_⟩; simp_all [inR, pFile, pOne, pNone, pSize, pBelow, pFrom, pClient, pCz, pEmp, Bool.and_assoc]; done)
theorem ok156 : FnOK Tryz.prog 156 g156 := by
  refine blindB (callable Tryz.func156 rfl (by decide +kernel)) _ _ (fun x => [.agg ⟨[.int .i64 x.1, .int .i64 x.2]⟩]) (fun _ _ => 0) (fun l x h => ?_) (fun x => rfl) do156
  rw [d2_eq h]
  simp [renB, Cg.ren, renB_agg1, Cm.cells]
abbrev g160 : FnS := gB d2 fun x => pOne x.1 x.2
theorem do160 (x : Int × Int) : CallDoes Tryz.prog 160 ([.agg ⟨[.int .i64 x.1, .int .i64 x.2]⟩]) [.dead] fun v _ => BoolV (pOne x.1 x.2) v := by
  refine of_run (ctxG_ok (l := [(150, g150)]) (cs := []) (bs := []) (.cons ok150 .nil) .nil) (n := 300) Tryz.func160 rfl (BlksOK.none fun _ => rfl) ?_
  refine by_nf (B := bsplit ((fun x => inR x.fst x.snd.fst x.snd.snd) (x.fst, (1 : Int), (1099511627776 : Int))) (BoolV (pOne x.fst x.snd) (Value.bool ((fun x => inR x.fst x.snd.fst x.snd.snd) (x.snd, (1 : Int), (255 : Int))))) (BoolV (pOne x.fst x.snd) (Value.bool false))) (by kernel_rfl) ?_
  (repeat' (first | (refine bsplit_iff.2 ⟨fun h => ?_, fun h => ?_⟩)))
  all_goals first | exact ⟨rfl⟩ | (refine ⟨?_⟩; congr 1; rw [Bool.eq_iff_iff]; simp [inR, pFile, pOne, pNone, pSize, pBelow, pFrom, pClient, pCz, pEmp] at *; omega) | (refine ⟨?_⟩; simp_all [inR, pFile, pOne, pNone, pSize, pBelow, pFrom, pClient, pCz, pEmp, Bool.and_assoc]; done)
theorem ok160 : FnOK Tryz.prog 160 g160 := by
  refine blindB (callable Tryz.func160 rfl (by decide +kernel)) _ _ (fun x => [.agg ⟨[.int .i64 x.1, .int .i64 x.2]⟩]) (fun _ _ => 0) (fun l x h => ?_) (fun x => rfl) do160
  rw [d2_eq h]
  simp [renB, Cg.ren, renB_agg1, Cm.cells]
abbrev g162 : FnS := gB d2 fun x => pOne x.1 x.2
theorem do162 (x : Int × Int) : CallDoes Tryz.prog 162 ([.agg ⟨[.int .i64 x.1, .int .i64 x.2]⟩]) [.dead] fun v _ => BoolV (pOne x.1 x.2) v := by
  refine of_run (ctxG_ok (l := [(154, g154)]) (cs := []) (bs := []) (.cons ok154 .nil) .nil) (n := 300) Tryz.func162 rfl (BlksOK.none fun _ => rfl) ?_
  refine by_nf (B := bsplit ((fun x => inR x.fst x.snd.fst x.snd.snd) (x.fst, (1 : Int), (1099511627776 : Int))) (BoolV (pOne x.fst x.snd) (Value.bool ((fun x => inR x.fst x.snd.fst x.snd.snd) (x.snd, (1 : Int), (255 : Int))))) (BoolV (pOne x.fst x.snd) (Value.bool false))) (by kernel_rfl) ?_
  (repeat' (first | (refine bsplit_iff.2 ⟨fun h => ?_, fun h => ?_⟩)))
  all_goals first | exact ⟨rfl⟩ | (refine ⟨?_⟩; congr 1; rw [Bool.eq_iff_iff]; simp [inR, pFile, pOne, pNone, pSize, pBelow, pFrom, pClient, pCz, pEmp] at *; omega) | (refine ⟨?_⟩; simp_all [inR, pFile, pOne, pNone, pSize, pBelow, pFrom, pClient, pCz, pEmp, Bool.and_assoc]; done)
theorem ok162 : FnOK Tryz.prog 162 g162 := by
  refine blindB (callable Tryz.func162 rfl (by decide +kernel)) _ _ (fun x => [.agg ⟨[.int .i64 x.1, .int .i64 x.2]⟩]) (fun _ _ => 0) (fun l x h => ?_) (fun x => rfl) do162
  rw [d2_eq h]
  simp [renB, Cg.ren, renB_agg1, Cm.cells]
abbrev g138 : FnS := gB d2 fun x => pNone x.1 x.2
theorem do138 (x : Int × Int) : CallDoes Tryz.prog 138 ([.agg ⟨[.int .i64 x.1, .int .i64 x.2]⟩]) [.dead] fun v _ => BoolV (pNone x.1 x.2) v := by
  refine of_run (ctxG_ok (l := []) (cs := []) (bs := []) .nil .nil) (n := 300) Tryz.func138 rfl (BlksOK.none fun _ => rfl) ?_
  refine by_nf (B := BoolV (pNone x.fst x.snd) (Value.bool (x.fst == (0 : Int) && (x.snd == (0 : Int) && true)))) (by kernel_rfl) ?_
  (repeat' (first | (refine bsplit_iff.2 ⟨fun h => ?_, fun h => ?_⟩)))
  all_goals first | exact ⟨rfl⟩ | (refine ⟨?_⟩; congr 1; rw [Bool.eq_iff_iff]; simp [inR, pFile, pOne, pNone, pSize, pBelow, pFrom, pClient, pCz, pEmp] at *; omega) | (refine ⟨?_⟩; simp_all [inR, pFile, pOne, pNone, pSize, pBelow, pFrom, pClient, pCz, pEmp, Bool.and_assoc]; done)
theorem ok138 : FnOK Tryz.prog 138 g138 := by
  refine blindB (callable Tryz.func138 rfl (by decide +kernel)) _ _ (fun x => [.agg ⟨[.int .i64 x.1, .int .i64 x.2]⟩]) (fun _ _ => 0) (fun l x h => ?_) (fun x => rfl) do138
  rw [d2_eq h]
  simp [renB, Cg.ren, renB_agg1, Cm.cells]
abbrev g163 : FnS := gB d2 fun x => pNone x.1 x.2
theorem do163 (x : Int × Int) : CallDoes Tryz.prog 163 ([.agg ⟨[.int .i64 x.1, .int .i64 x.2]⟩]) [.dead] fun v _ => BoolV (pNone x.1 x.2) v := by
  refine of_run (ctxG_ok (l := []) (cs := []) (bs := []) .nil .nil) (n := 300) Tryz.func163 rfl (BlksOK.none fun _ => rfl) ?_
  refine by_nf (B := bsplit (x.fst == (0 : Int)) (BoolV (pNone x.fst x.snd) (Value.bool (x.snd == (0 : Int)))) (BoolV (pNone x.fst x.snd) (Value.bool false))) (by kernel_rfl) ?_
  (repeat' (first | (refine bsplit_iff.2 ⟨fun h => ?_, fun h => ?_⟩)))
  all_goals first | exact ⟨rfl⟩ | (refine ⟨?_⟩; congr 1; rw [Bool.eq_iff_iff]; simp [inR, pFile, pOne, pNone, pSize, pBelow, pFrom, pClient, pCz, pEmp] at *; omega) | (refine ⟨?_⟩; simp_all [inR, pFile, pOne, pNone, pSize, pBelow, pFrom, pClient, pCz, pEmp, Bool.and_assoc]; done)
theorem ok163 : FnOK Tryz.prog 163 g163 := by
  refine blindB (callable Tryz.func163 rfl (by decide +kernel)) _ _ (fun x => [.agg ⟨[.int .i64 x.1, .int .i64 x.2]⟩]) (fun _ _ => 0) (fun l x h => ?_) (fun x => rfl) do163
  rw [d2_eq h]
  simp [renB, Cg.ren, renB_agg1, Cm.cells]
abbrev g153 : FnS := gB dSz fun x => pSize x.1 x.2.L
theorem do153 (x : Int × Cg) : CallDoes Tryz.prog 153 ([.int .i64 x.1, x.2.v 0]) [.dead] fun v _ => BoolV (pSize x.1 x.2.L) v := by
  refine of_run (ctxG_ok (l := [(150, g150)]) (cs := []) (bs := []) (.cons ok150 .nil) .nil) (n := 300) Tryz.func153 rfl (BlksOK.none fun _ => rfl) ?_
  refine by_nf (B := BoolV (pSize x.fst x.snd.L) (Value.bool ((fun x => inR x.fst x.snd.fst x.snd.snd) (x.fst, (0 : Int), IntKind.i64.wrap ((1048576 : Int) * x.snd.L))))) (by kernel_rfl) ?_
  (repeat' (first | (refine bsplit_iff.2 ⟨fun h => ?_, fun h => ?_⟩)))
  all_goals first | exact ⟨rfl⟩ | (refine ⟨?_⟩; congr 1; rw [Bool.eq_iff_iff]; simp [inR, pFile, pOne, pNone, pSize, pBelow, pFrom, pClient, pCz, pEmp] at *; omega) | (refine ⟨?_⟩; simp_all [inR, pFile, pOne, pNone, pSize, pBelow, pFrom, pClient, pCz, pEmp, Bool.and_assoc]; done)
theorem ok153 : FnOK Tryz.prog 153 g153 := by
  refine blindB (callable Tryz.func153 rfl (by decide +kernel)) _ _ (fun x => [.int .i64 x.1, x.2.v 0]) (fun x _ => x.2.p) (fun l x h => ?_) (fun x => rfl) do153
  rw [dSz_eq h]
  simp [renB, Cg.ren, renB_agg1, Cm.cells]
abbrev g157 : FnS := gB dSz fun x => pSize x.1 x.2.L
theorem do157 (x : Int × Cg) : CallDoes Tryz.prog 157 ([.int .i64 x.1, x.2.v 0]) [.dead] fun v _ => BoolV (pSize x.1 x.2.L) v := by
  refine of_run (ctxG_ok (l := [(154, g154)]) (cs := []) (bs := []) (.cons ok154 .nil) .nil) (n := 300) Tryz.func157 rfl (BlksOK.none fun _ => rfl) ?_
  refine by_nf (B := BoolV (pSize x.fst x.snd.L) (Value.bool ((fun x => inR x.fst x.snd.fst x.snd.snd) (x.fst, (0 : Int), IntKind.i64.wrap ((1048576 : Int) * x.snd.L))))) (by kernel_rfl) ?_
  (repeat' (first | (refine bsplit_iff.2 ⟨fun h => ?_, fun h => ?_⟩)))
  all_goals first | exact ⟨rfl⟩ | (refine ⟨?_⟩; congr 1; rw [Bool.eq_iff_iff]; simp [inR, pFile, pOne, pNone, pSize, pBelow, pFrom, pClient, pCz, pEmp] at *; omega) | (refine ⟨?_⟩; simp_all [inR, pFile, pOne, pNone, pSize, pBelow, pFrom, pClient, pCz, pEmp, Bool.and_assoc]; done)
theorem ok157 : FnOK Tryz.prog 157 g157 := by
  refine blindB (callable Tryz.func157 rfl (by decide +kernel)) _ _ (fun x => [.int .i64 x.1, x.2.v 0]) (fun x _ => x.2.p) (fun l x h => ?_) (fun x => rfl) do157
  rw [dSz_eq h]
  simp [renB, Cg.ren, renB_agg1, Cm.cells]
abbrev g165 : FnS := gB d4 fun x => pBelow x.1 x.2.1 x.2.2.1 x.2.2.2
theorem do165 (x : Int × Int × Int × Int) : CallDoes Tryz.prog 165 ([.agg ⟨[.int .i64 x.1, .int .i64 x.2.1]⟩, .agg ⟨[.int .i64 x.2.2.1, .int .i64 x.2.2.2]⟩]) [.dead] fun v _ => BoolV (pBelow x.1 x.2.1 x.2.2.1 x.2.2.2) v := by
  refine of_run (ctxG_ok (l := []) (cs := []) (bs := []) .nil .nil) (n := 300) Tryz.func165 rfl (BlksOK.none fun _ => rfl) ?_
  refine by_nf (B := bsplit (decide (x.fst < x.snd.snd.fst)) (BoolV (pBelow x.fst x.snd.fst x.snd.snd.fst x.snd.snd.snd) (Value.bool true))
    (bsplit (x.fst == x.snd.snd.fst) (BoolV (pBelow x.fst x.snd.fst x.snd.snd.fst x.snd.snd.snd) (Value.bool (decide (x.snd.fst < x.snd.snd.snd)))) (BoolV (pBelow x.fst x.snd.fst x.snd.snd.fst x.snd.snd.snd) (Value.bool false)))) (by kernel_rfl) ?_
  (repeat' (first | (refine bsplit_iff.2 ⟨fun h => ?_, fun h => ?_⟩)))
  all_goals first | exact ⟨rfl⟩ | (refine ⟨?_⟩; congr 1; rw [Bool.eq_iff_iff]; simp [inR, pFile, pOne, pNone, pSize, pBelow, pFrom, pClient, pCz, pEmp] at *; omega) | (refine ⟨?_⟩; simp_all [inR, pFile, pOne, pNone, pSize, pBelow, pFrom, pClient, pCz, pEmp, Bool.and_assoc]; done)
theorem ok165 : FnOK Tryz.prog 165 g165 := by
  refine blindB (callable Tryz.func165 rfl (by decide +kernel)) _ _ (fun x => [.agg ⟨[.int .i64 x.1, .int .i64 x.2.1]⟩, .agg ⟨[.int .i64 x.2.2.1, .int .i64 x.2.2.2]⟩]) (fun _ _ => 0) (fun l x h => ?_) (fun x => rfl) do165
  rw [d4_eq h]
  simp [renB, Cg.ren, renB_agg1, Cm.cells]
abbrev g168 : FnS := gB d4 fun x => pBelow x.2.2.1 x.2.2.2 x.1 x.2.1
theorem do168 (x : Int × Int × Int × Int) : CallDoes Tryz.prog 168 ([.agg ⟨[.int .i64 x.1, .int .i64 x.2.1]⟩, .agg ⟨[.int .i64 x.2.2.1, .int .i64 x.2.2.2]⟩]) [.dead] fun v _ => BoolV (pBelow x.2.2.1 x.2.2.2 x.1 x.2.1) v := by
  refine of_run (ctxG_ok (l := []) (cs := []) (bs := []) .nil .nil) (n := 300) Tryz.func168 rfl (BlksOK.none fun _ => rfl) ?_
  refine by_nf (B := bsplit (decide (x.fst > x.snd.snd.fst)) (BoolV (pBelow x.snd.snd.fst x.snd.snd.snd x.fst x.snd.fst) (Value.bool true))
    (bsplit (x.fst == x.snd.snd.fst) (BoolV (pBelow x.snd.snd.fst x.snd.snd.snd x.fst x.snd.fst) (Value.bool (decide (x.snd.fst > x.snd.snd.snd)))) (BoolV (pBelow x.snd.snd.fst x.snd.snd.snd x.fst x.snd.fst) (Value.bool false)))) (by kernel_rfl) ?_
  (repeat' (first | (refine bsplit_iff.2 ⟨fun h => ?_, fun h => ?_⟩)))
  all_goals first | exact ⟨rfl⟩ | (refine ⟨?_⟩; congr 1; rw [Bool.eq_iff_iff]; simp [inR, pFile, pOne, pNone, pSize, pBelow, pFrom, pClient, pCz, pEmp] at *; omega) | (refine ⟨?_⟩; simp_all [inR, pFile, pOne, pNone, pSize, pBelow, pFrom, pClient, pCz, pEmp, Bool.and_assoc]; done)
theorem ok168 : FnOK Tryz.prog 168 g168 := by
  refine blindB (callable Tryz.func168 rfl (by decide +kernel)) _ _ (fun x => [.agg ⟨[.int .i64 x.1, .int .i64 x.2.1]⟩, .agg ⟨[.int .i64 x.2.2.1, .int .i64 x.2.2.2]⟩]) (fun _ _ => 0) (fun l x h => ?_) (fun x => rfl) do168
  rw [d4_eq h]
  simp [renB, Cg.ren, renB_agg1, Cm.cells]
abbrev g202 : FnS := gB d2 fun x => pFrom x.1 x.2
theorem do202 (x : Int × Int) : CallDoes Tryz.prog 202 ([.agg ⟨[.int .i64 x.1, .int .i64 x.2]⟩]) [.dead] fun v _ => BoolV (pFrom x.1 x.2) v := by
  refine of_run (ctxG_ok (l := [(150, g150)]) (cs := []) (bs := []) (.cons ok150 .nil) .nil) (n := 300) Tryz.func202 rfl (BlksOK.none fun _ => rfl) ?_
  refine by_nf (B := bsplit ((fun x => inR x.fst x.snd.fst x.snd.snd) (x.fst, (1 : Int), (1048577 : Int))) (BoolV (pFrom x.fst x.snd) (Value.bool (x.snd == (0 : Int)))) (BoolV (pFrom x.fst x.snd) (Value.bool false))) (by kernel_rfl) ?_
  (repeat' (first | (refine bsplit_iff.2 ⟨fun h => ?_, fun h => ?_⟩)))
  all_goals first | exact ⟨rfl⟩ | (refine ⟨?_⟩; congr 1; rw [Bool.eq_iff_iff]; simp [inR, pFile, pOne, pNone, pSize, pBelow, pFrom, pClient, pCz, pEmp] at *; omega) | (refine ⟨?_⟩; simp_all [inR, pFile, pOne, pNone, pSize, pBelow, pFrom, pClient, pCz, pEmp, Bool.and_assoc]; done)
theorem ok202 : FnOK Tryz.prog 202 g202 := by
  refine blindB (callable Tryz.func202 rfl (by decide +kernel)) _ _ (fun x => [.agg ⟨[.int .i64 x.1, .int .i64 x.2]⟩]) (fun _ _ => 0) (fun l x h => ?_) (fun x => rfl) do202
  rw [d2_eq h]
  simp [renB, Cg.ren, renB_agg1, Cm.cells]
abbrev g189 : FnS := gB d2 fun x => pFrom x.1 x.2
theorem do189 (x : Int × Int) : CallDoes Tryz.prog 189 ([.agg ⟨[.int .i64 x.1, .int .i64 x.2]⟩]) [.dead] fun v _ => BoolV (pFrom x.1 x.2) v := by
  refine of_run (ctxG_ok (l := [(154, g154)]) (cs := []) (bs := []) (.cons ok154 .nil) .nil) (n := 300) Tryz.func189 rfl (BlksOK.none fun _ => rfl) ?_
  refine by_nf (B := bsplit ((fun x => inR x.fst x.snd.fst x.snd.snd) (x.fst, (1 : Int), (1048577 : Int))) (BoolV (pFrom x.fst x.snd) (Value.bool (x.snd == (0 : Int)))) (BoolV (pFrom x.fst x.snd) (Value.bool false))) (by kernel_rfl) ?_
  (repeat' (first | (refine bsplit_iff.2 ⟨fun h => ?_, fun h => ?_⟩)))
  all_goals first | exact ⟨rfl⟩ | (refine ⟨?_⟩; congr 1; rw [Bool.eq_iff_iff]; simp [inR, pFile, pOne, pNone, pSize, pBelow, pFrom, pClient, pCz, pEmp] at *; omega) | (refine ⟨?_⟩; simp_all [inR, pFile, pOne, pNone, pSize, pBelow, pFrom, pClient, pCz, pEmp, Bool.and_assoc]; done)
theorem ok189 : FnOK Tryz.prog 189 g189 := by
  refine blindB (callable Tryz.func189 rfl (by decide +kernel)) _ _ (fun x => [.agg ⟨[.int .i64 x.1, .int .i64 x.2]⟩]) (fun _ _ => 0) (fun l x h => ?_) (fun x => rfl) do189
  rw [d2_eq h]
  simp [renB, Cg.ren, renB_agg1, Cm.cells]
abbrev g205 : FnS := gB dAd fun x => pClient x.1 x.2
theorem do205 (x : Bool × Int) : CallDoes Tryz.prog 205 ([.agg ⟨[.bool x.1, .int .i64 x.2]⟩]) [.dead] fun v _ => BoolV (pClient x.1 x.2) v := by
  refine of_run (ctxG_ok (l := [(150, g150)]) (cs := []) (bs := []) (.cons ok150 .nil) .nil) (n := 300) Tryz.func205 rfl (BlksOK.none fun _ => rfl) ?_
  refine by_nf (B := bsplit x.fst (BoolV (pClient x.fst x.snd) (Value.bool ((fun x => inR x.fst x.snd.fst x.snd.snd) (x.snd, (1 : Int), (255 : Int))))) (BoolV (pClient x.fst x.snd) (Value.bool false))) (by kernel_rfl) ?_
  (repeat' (first | (refine bsplit_iff.2 ⟨fun h => ?_, fun h => ?_⟩)))
  all_goals first | exact ⟨rfl⟩ | (refine ⟨?_⟩; congr 1; rw [Bool.eq_iff_iff]; simp [inR, pFile, pOne, pNone, pSize, pBelow, pFrom, pClient, pCz, pEmp] at *; omega) | (refine ⟨?_⟩; simp_all [inR, pFile, pOne, pNone, pSize, pBelow, pFrom, pClient, pCz, pEmp, Bool.and_assoc]; done)
theorem ok205 : FnOK Tryz.prog 205 g205 := by
  refine blindB (callable Tryz.func205 rfl (by decide +kernel)) _ _ (fun x => [.agg ⟨[.bool x.1, .int .i64 x.2]⟩]) (fun _ _ => 0) (fun l x h => ?_) (fun x => rfl) do205
  rw [dAd_eq h]
  simp [renB, Cg.ren, renB_agg1, Cm.cells]
abbrev g121 : FnS := gB dAd fun x => pClient x.1 x.2
theorem do121 (x : Bool × Int) : CallDoes Tryz.prog 121 ([.agg ⟨[.bool x.1, .int .i64 x.2]⟩]) [.dead] fun v _ => BoolV (pClient x.1 x.2) v := by
  refine of_run (ctxG_ok (l := [(154, g154)]) (cs := []) (bs := []) (.cons ok154 .nil) .nil) (n := 300) Tryz.func121 rfl (BlksOK.none fun _ => rfl) ?_
  refine by_nf (B := bsplit x.fst (BoolV (pClient x.fst x.snd) (Value.bool ((fun x => inR x.fst x.snd.fst x.snd.snd) (x.snd, (1 : Int), (255 : Int))))) (BoolV (pClient x.fst x.snd) (Value.bool false))) (by kernel_rfl) ?_
  (repeat' (first | (refine bsplit_iff.2 ⟨fun h => ?_, fun h => ?_⟩)))
  all_goals first | exact ⟨rfl⟩ | (refine ⟨?_⟩; congr 1; rw [Bool.eq_iff_iff]; simp [inR, pFile, pOne, pNone, pSize, pBelow, pFrom, pClient, pCz, pEmp] at *; omega) | (refine ⟨?_⟩; simp_all [inR, pFile, pOne, pNone, pSize, pBelow, pFrom, pClient, pCz, pEmp, Bool.and_assoc]; done)
theorem ok121 : FnOK Tryz.prog 121 g121 := by
  refine blindB (callable Tryz.func121 rfl (by decide +kernel)) _ _ (fun x => [.agg ⟨[.bool x.1, .int .i64 x.2]⟩]) (fun _ _ => 0) (fun l x h => ?_) (fun x => rfl) do121
  rw [dAd_eq h]
  simp [renB, Cg.ren, renB_agg1, Cm.cells]
abbrev g169 : FnS := gB dCm fun x => pCz x
theorem do169 (x : Cm) : CallDoes Tryz.prog 169 ([.agg ⟨x.cells⟩]) [.dead] fun v _ => BoolV (pCz x) v := by
  refine of_run (ctxG_ok (l := []) (cs := []) (bs := []) .nil .nil) (n := 300) Tryz.func169 rfl (BlksOK.none fun _ => rfl) ?_
  refine by_nf (B := BoolV (pCz x) (Value.bool (x.k == (0 : Int) && (x.cl == (0 : Int) && (x.op == (0 : Int) && (x.nm.data.toList == { data := #[] : ByteArray }.data.toList && (x.f1 == (0 : Int) && (x.f2 == (0 : Int) && true) && (x.n1 == (0 : Int) && (x.n2 == (0 : Int) && true) && (x.sz == (0 : Int) && true))))))))) (by kernel_rfl) ?_
  (repeat' (first | (refine bsplit_iff.2 ⟨fun h => ?_, fun h => ?_⟩)))
  all_goals first | exact ⟨rfl⟩ | (refine ⟨?_⟩; congr 1; rw [Bool.eq_iff_iff]; simp [inR, pFile, pOne, pNone, pSize, pBelow, pFrom, pClient, pCz, pEmp] at *; omega) | (refine ⟨?_⟩; simp_all [inR, pFile, pOne, pNone, pSize, pBelow, pFrom, pClient, pCz, pEmp, Bool.and_assoc]; done)
theorem ok169 : FnOK Tryz.prog 169 g169 := by
  refine blindB (callable Tryz.func169 rfl (by decide +kernel)) _ _ (fun x => [.agg ⟨x.cells⟩]) (fun _ _ => 0) (fun l x h => ?_) (fun x => rfl) do169
  rw [dCm_eq h]
  simp [renB, Cg.ren, renB_agg1, Cm.cells]
end Go.Msg
