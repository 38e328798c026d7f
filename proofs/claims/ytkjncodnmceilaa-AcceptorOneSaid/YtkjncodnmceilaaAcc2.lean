/- A part of a proof: what is proved here is said at each theorem; it holds without any condition but those that the theorem names. -/
import Derived.Test.YtkjncodnmceilaaAcc1
set_option linter.unusedSimpArgs false
set_option linter.unusedVariables false
set_option linter.unusedSectionVars false
namespace Go.Acc
open Go Go.X Go.Proofs
variable [WI]

theorem renB_plainV (σ : Nat → Nat) {v : Value} (hv : plainV v = true) : renB σ v = v := by
  unfold plainV at hv
  split at hv
  · rename_i cs
    have : ∀ (l : List Value), l.all plainC = true → l.map (renB σ) = l := by
      intro l
      induction l with
      | nil => intro _; rfl
      | cons x xs ih =>
        intro hl
        simp only [List.all_cons, Bool.and_eq_true] at hl
        simp [renB_plain σ hl.1, ih hl.2]
    have e := renB_agg σ cs.toList
    rw [this _ hv] at e
    exact e
  · exact renB_plain σ hv

structure GCfg where
  h : Hd
  F : Int
  Points : Int
  Buckets : Int
  Block : Int
  Room : Int
def GCfg.v (x : GCfg) (b : Nat) : Value := .agg ⟨[x.h.v b, .int .i64 x.F, .int .i64 x.Points, .int .i64 x.Buckets, .int .i64 x.Block, .int .i64 x.Room]⟩
def cfgOf (V : VW) (v : Value) : Option (Nat × GCfg) :=
  match v with
  | .agg ⟨[s, .int .i64 a, .int .i64 b, .int .i64 c, .int .i64 d, .int .i64 e]⟩ =>
    match hdOf V s with
    | some (n, h) => some (n, ⟨h, a, b, c, d, e⟩)
    | none => none
  | _ => none
theorem cfgOf_ok {V : VW} {v : Value} {b : Nat} {k : GCfg} (h : cfgOf V v = some (b, k)) : v = k.v b ∧ flatO k.h.o ∧ ∃ o', V[b]? = some o' ∧ Weak k.h.o o' := by
  unfold cfgOf at h
  split at h
  · split at h
    · rename_i n hd hh
      cases h
      obtain ⟨rfl, h2, h3⟩ := hdOf_ok hh
      exact ⟨rfl, h2, h3⟩
    · cases h
  · cases h
theorem GCfg.v_ren (k : GCfg) (b : Nat) : k.v b = renB (fun _ => b) (k.v 0) := by
  rw [GCfg.v, GCfg.v, renB_agg]
  simp [Hd.v, renB_slice, renB_plain (v := Value.int _ _) _ rfl]
theorem GCfg.v_sc (k : GCfg) : Sc 1 (k.v 0) := scB_ok 6 _ rfl

def gC {α : Type} (A : Dec α) (res : α → GCfg → Value) : List Value → VW → Res := fun args V =>
  match args with | [x, y] => (match A.dec x, cfgOf V y with | some a, some (_, k) => .val (res a k) | _, _ => .bad) | _ => .bad
theorem FnOK.gC {α : Type} {P : Program} {f : FuncId} (hc : Callable P f) (A : Dec α) (res : α → GCfg → Value) (hpr : ∀ a k, plainR (res a k) = true)
    (h : ∀ a k, CallDoes P f [A.enc a, k.v 0] [k.h.o] fun v V' => v = res a k ∧ leV [k.h.o] V') : FnOK P f (gC A res) :=
  FnOK.sub hc (fun args V p os v h => by unfold Acc.gC at h; (repeat' split at h) <;> cases h) fun args V v hg => by
    unfold Acc.gC at hg
    split at hg
    · rename_i x y
      split at hg
      · rename_i a b k ha hk
        rw [Gives.val_iff] at hg; subst hg
        obtain rfl := A.ok _ _ ha
        obtain ⟨rfl, h2, h3⟩ := cfgOf_ok hk
        refine ⟨fun _ => b, [A.enc a, k.v 0], [k.h.o], ?_, fun i o hi => ?_, fun x hx => ?_, hpr a k, h a k⟩
        · have e1 : renB (fun _ => b) (A.enc a) = A.enc a := renB_plainV _ (A.plain a)
          simp [e1, ← GCfg.v_ren]
        · match i, hi with
          | 0, hi => cases hi; exact ⟨h2, h3⟩
        · simp only [List.mem_cons, List.not_mem_nil, or_false] at hx
          rcases hx with rfl | rfl
          · exact (Sc.plainV (A.plain a)).mono (Nat.zero_le _)
          · exact k.v_sc
      · exact (Gives.bad.1 hg).elim
    · exact (Gives.bad.1 hg).elim

def isSize (n : Int) (k : GCfg) : Bool := within n 0 (IntKind.i64.wrap (1048576 * k.Block))
abbrev isSizeG := gC (dInt .i64) fun n k => .bool (isSize n k)
theorem isSize_ok : FnOK Try.prog 35 isSizeG := by
  refine FnOK.gC (callable Try.func35 rfl (by decide +kernel)) _ _ (fun _ _ => rfl) fun n k => ?_
  refine of_run (ctxL_ok (.cons within_ok .nil)) (n := 200) Try.func35 rfl .l ?_
  refine by_nf (B := Value.bool (within n (0 : Int) (IntKind.i64.wrap ((1048576 : Int) * k.Block))) = Value.bool (isSize n k) ∧
    ((VObj.rows false k.h.t k.h.m (0 : Nat) (0 : Nat) fun x => []) = VObj.rows false k.h.t k.h.m (0 : Nat) (0 : Nat) fun x => []) ∧
    True) (by kernel_rfl) ?_
  exact ⟨rfl, rfl, trivial⟩

def isCommand (x : GCommand) (k : GCfg) : Bool :=
  within x.Kind 1 7 && within x.Client 1 255 && within x.Op 1 1099511627776 &&
  (if x.Kind = 4 then x.Name.data.toList == [] else isName x.Name) &&
  (if x.Kind < 5 then file0 x.File && file0 x.New && x.Size == 0
   else (if x.Kind = 7 then isFile x.New else file0 x.New) && isFile x.File && isSize x.Size k)
abbrev isCommandG := gC dGCommand fun x k => .bool (isCommand x k)
theorem isCommand_ok : FnOK Try.prog 15 isCommandG := by
  refine FnOK.gC (callable Try.func15 rfl (by decide +kernel)) _ _ (fun _ _ => rfl) fun x k => ?_
  refine of_run (ctxL_ok (.cons within_ok (.cons isName_ok (.cons isFile_ok (.cons isSize_ok .nil))))) (n := 200) Try.func15 rfl .l ?_
  refine by_nf (B := bsplit (!within x.Kind (1 : Int) (7 : Int)) (Value.bool false = Value.bool (isCommand x k) ∧
    ((VObj.rows false k.h.t k.h.m (0 : Nat) (0 : Nat) fun x => []) = VObj.rows false k.h.t k.h.m (0 : Nat) (0 : Nat) fun x => []) ∧
    True)
    (bsplit (!within x.Client (1 : Int) (255 : Int)) (Value.bool false = Value.bool (isCommand x k) ∧
    ((VObj.rows false k.h.t k.h.m (0 : Nat) (0 : Nat) fun x => []) = VObj.rows false k.h.t k.h.m (0 : Nat) (0 : Nat) fun x => []) ∧
    True)
    (bsplit (!within x.Op (1 : Int) (1099511627776 : Int)) (Value.bool false = Value.bool (isCommand x k) ∧
    ((VObj.rows false k.h.t k.h.m (0 : Nat) (0 : Nat) fun x => []) = VObj.rows false k.h.t k.h.m (0 : Nat) (0 : Nat) fun x => []) ∧
    True)
    (bsplit (x.Kind == (4 : Int))
    (bsplit (!x.Name.data.toList == { data := #[] : ByteArray }.data.toList) (Value.bool false = Value.bool (isCommand x k) ∧
    ((VObj.rows false k.h.t k.h.m (0 : Nat) (0 : Nat) fun x => []) = VObj.rows false k.h.t k.h.m (0 : Nat) (0 : Nat) fun x => []) ∧
    True)
    (bsplit (x.Kind != (4 : Int))
    (bsplit (!isName x.Name) (Value.bool false = Value.bool (isCommand x k) ∧
    ((VObj.rows false k.h.t k.h.m (0 : Nat) (0 : Nat) fun x => []) = VObj.rows false k.h.t k.h.m (0 : Nat) (0 : Nat) fun x => []) ∧
    True)
    (bsplit (decide (x.Kind < (5 : Int)))
    (bsplit (x.File.Client == (0 : Int) && (x.File.Op == (0 : Int) && true))
    (bsplit (x.New.Client == (0 : Int) && (x.New.Op == (0 : Int) && true)) (Value.bool (x.Size == (0 : Int)) = Value.bool (isCommand x k) ∧
    ((VObj.rows false k.h.t k.h.m (0 : Nat) (0 : Nat) fun x => []) = VObj.rows false k.h.t k.h.m (0 : Nat) (0 : Nat) fun x => []) ∧
    True) (Value.bool false = Value.bool (isCommand x k) ∧
    ((VObj.rows false k.h.t k.h.m (0 : Nat) (0 : Nat) fun x => []) = VObj.rows false k.h.t k.h.m (0 : Nat) (0 : Nat) fun x => []) ∧
    True)) (Value.bool false = Value.bool (isCommand x k) ∧
    ((VObj.rows false k.h.t k.h.m (0 : Nat) (0 : Nat) fun x => []) = VObj.rows false k.h.t k.h.m (0 : Nat) (0 : Nat) fun x => []) ∧
    True))
    (bsplit (x.Kind == (7 : Int))
    (bsplit (!isFile x.New) (Value.bool false = Value.bool (isCommand x k) ∧
    ((VObj.rows false k.h.t k.h.m (0 : Nat) (0 : Nat) fun x => []) = VObj.rows false k.h.t k.h.m (0 : Nat) (0 : Nat) fun x => []) ∧
    True)
    (bsplit (x.Kind != (7 : Int))
    (bsplit (!(x.New.Client == (0 : Int) && (x.New.Op == (0 : Int) && true))) (Value.bool false = Value.bool (isCommand x k) ∧
    ((VObj.rows false k.h.t k.h.m (0 : Nat) (0 : Nat) fun x => []) = VObj.rows false k.h.t k.h.m (0 : Nat) (0 : Nat) fun x => []) ∧
    True)
    (bsplit (isFile x.File) (Value.bool (isSize x.Size k) = Value.bool (isCommand x k) ∧
    ((VObj.rows false k.h.t k.h.m (0 : Nat) (0 : Nat) fun x => []) = VObj.rows false k.h.t k.h.m (0 : Nat) (0 : Nat) fun x => []) ∧
    True) (Value.bool false = Value.bool (isCommand x k) ∧
    ((VObj.rows false k.h.t k.h.m (0 : Nat) (0 : Nat) fun x => []) = VObj.rows false k.h.t k.h.m (0 : Nat) (0 : Nat) fun x => []) ∧
    True)))
    (bsplit (isFile x.File) (Value.bool (isSize x.Size k) = Value.bool (isCommand x k) ∧
    ((VObj.rows false k.h.t k.h.m (0 : Nat) (0 : Nat) fun x => []) = VObj.rows false k.h.t k.h.m (0 : Nat) (0 : Nat) fun x => []) ∧
    True) (Value.bool false = Value.bool (isCommand x k) ∧
    ((VObj.rows false k.h.t k.h.m (0 : Nat) (0 : Nat) fun x => []) = VObj.rows false k.h.t k.h.m (0 : Nat) (0 : Nat) fun x => []) ∧
    True))))
    (bsplit (x.Kind != (7 : Int))
    (bsplit (!(x.New.Client == (0 : Int) && (x.New.Op == (0 : Int) && true))) (Value.bool false = Value.bool (isCommand x k) ∧
    ((VObj.rows false k.h.t k.h.m (0 : Nat) (0 : Nat) fun x => []) = VObj.rows false k.h.t k.h.m (0 : Nat) (0 : Nat) fun x => []) ∧
    True)
    (bsplit (isFile x.File) (Value.bool (isSize x.Size k) = Value.bool (isCommand x k) ∧
    ((VObj.rows false k.h.t k.h.m (0 : Nat) (0 : Nat) fun x => []) = VObj.rows false k.h.t k.h.m (0 : Nat) (0 : Nat) fun x => []) ∧
    True) (Value.bool false = Value.bool (isCommand x k) ∧
    ((VObj.rows false k.h.t k.h.m (0 : Nat) (0 : Nat) fun x => []) = VObj.rows false k.h.t k.h.m (0 : Nat) (0 : Nat) fun x => []) ∧
    True)))
    (bsplit (isFile x.File) (Value.bool (isSize x.Size k) = Value.bool (isCommand x k) ∧
    ((VObj.rows false k.h.t k.h.m (0 : Nat) (0 : Nat) fun x => []) = VObj.rows false k.h.t k.h.m (0 : Nat) (0 : Nat) fun x => []) ∧
    True) (Value.bool false = Value.bool (isCommand x k) ∧
    ((VObj.rows false k.h.t k.h.m (0 : Nat) (0 : Nat) fun x => []) = VObj.rows false k.h.t k.h.m (0 : Nat) (0 : Nat) fun x => []) ∧
    True))))))
    (bsplit (decide (x.Kind < (5 : Int)))
    (bsplit (x.File.Client == (0 : Int) && (x.File.Op == (0 : Int) && true))
    (bsplit (x.New.Client == (0 : Int) && (x.New.Op == (0 : Int) && true)) (Value.bool (x.Size == (0 : Int)) = Value.bool (isCommand x k) ∧
    ((VObj.rows false k.h.t k.h.m (0 : Nat) (0 : Nat) fun x => []) = VObj.rows false k.h.t k.h.m (0 : Nat) (0 : Nat) fun x => []) ∧
    True) (Value.bool false = Value.bool (isCommand x k) ∧
    ((VObj.rows false k.h.t k.h.m (0 : Nat) (0 : Nat) fun x => []) = VObj.rows false k.h.t k.h.m (0 : Nat) (0 : Nat) fun x => []) ∧
    True)) (Value.bool false = Value.bool (isCommand x k) ∧
    ((VObj.rows false k.h.t k.h.m (0 : Nat) (0 : Nat) fun x => []) = VObj.rows false k.h.t k.h.m (0 : Nat) (0 : Nat) fun x => []) ∧
    True))
    (bsplit (x.Kind == (7 : Int))
    (bsplit (!isFile x.New) (Value.bool false = Value.bool (isCommand x k) ∧
    ((VObj.rows false k.h.t k.h.m (0 : Nat) (0 : Nat) fun x => []) = VObj.rows false k.h.t k.h.m (0 : Nat) (0 : Nat) fun x => []) ∧
    True)
    (bsplit (x.Kind != (7 : Int))
    (bsplit (!(x.New.Client == (0 : Int) && (x.New.Op == (0 : Int) && true))) (Value.bool false = Value.bool (isCommand x k) ∧
    ((VObj.rows false k.h.t k.h.m (0 : Nat) (0 : Nat) fun x => []) = VObj.rows false k.h.t k.h.m (0 : Nat) (0 : Nat) fun x => []) ∧
    True)
    (bsplit (isFile x.File) (Value.bool (isSize x.Size k) = Value.bool (isCommand x k) ∧
    ((VObj.rows false k.h.t k.h.m (0 : Nat) (0 : Nat) fun x => []) = VObj.rows false k.h.t k.h.m (0 : Nat) (0 : Nat) fun x => []) ∧
    True) (Value.bool false = Value.bool (isCommand x k) ∧
    ((VObj.rows false k.h.t k.h.m (0 : Nat) (0 : Nat) fun x => []) = VObj.rows false k.h.t k.h.m (0 : Nat) (0 : Nat) fun x => []) ∧
    True)))
    (bsplit (isFile x.File) (Value.bool (isSize x.Size k) = Value.bool (isCommand x k) ∧
    ((VObj.rows false k.h.t k.h.m (0 : Nat) (0 : Nat) fun x => []) = VObj.rows false k.h.t k.h.m (0 : Nat) (0 : Nat) fun x => []) ∧
    True) (Value.bool false = Value.bool (isCommand x k) ∧
    ((VObj.rows false k.h.t k.h.m (0 : Nat) (0 : Nat) fun x => []) = VObj.rows false k.h.t k.h.m (0 : Nat) (0 : Nat) fun x => []) ∧
    True))))
    (bsplit (x.Kind != (7 : Int))
    (bsplit (!(x.New.Client == (0 : Int) && (x.New.Op == (0 : Int) && true))) (Value.bool false = Value.bool (isCommand x k) ∧
    ((VObj.rows false k.h.t k.h.m (0 : Nat) (0 : Nat) fun x => []) = VObj.rows false k.h.t k.h.m (0 : Nat) (0 : Nat) fun x => []) ∧
    True)
    (bsplit (isFile x.File) (Value.bool (isSize x.Size k) = Value.bool (isCommand x k) ∧
    ((VObj.rows false k.h.t k.h.m (0 : Nat) (0 : Nat) fun x => []) = VObj.rows false k.h.t k.h.m (0 : Nat) (0 : Nat) fun x => []) ∧
    True) (Value.bool false = Value.bool (isCommand x k) ∧
    ((VObj.rows false k.h.t k.h.m (0 : Nat) (0 : Nat) fun x => []) = VObj.rows false k.h.t k.h.m (0 : Nat) (0 : Nat) fun x => []) ∧
    True)))
    (bsplit (isFile x.File) (Value.bool (isSize x.Size k) = Value.bool (isCommand x k) ∧
    ((VObj.rows false k.h.t k.h.m (0 : Nat) (0 : Nat) fun x => []) = VObj.rows false k.h.t k.h.m (0 : Nat) (0 : Nat) fun x => []) ∧
    True) (Value.bool false = Value.bool (isCommand x k) ∧
    ((VObj.rows false k.h.t k.h.m (0 : Nat) (0 : Nat) fun x => []) = VObj.rows false k.h.t k.h.m (0 : Nat) (0 : Nat) fun x => []) ∧
    True)))))))
    (bsplit (x.Kind != (4 : Int))
    (bsplit (!isName x.Name) (Value.bool false = Value.bool (isCommand x k) ∧
    ((VObj.rows false k.h.t k.h.m (0 : Nat) (0 : Nat) fun x => []) = VObj.rows false k.h.t k.h.m (0 : Nat) (0 : Nat) fun x => []) ∧
    True)
    (bsplit (decide (x.Kind < (5 : Int)))
    (bsplit (x.File.Client == (0 : Int) && (x.File.Op == (0 : Int) && true))
    (bsplit (x.New.Client == (0 : Int) && (x.New.Op == (0 : Int) && true)) (Value.bool (x.Size == (0 : Int)) = Value.bool (isCommand x k) ∧
    ((VObj.rows false k.h.t k.h.m (0 : Nat) (0 : Nat) fun x => []) = VObj.rows false k.h.t k.h.m (0 : Nat) (0 : Nat) fun x => []) ∧
    True) (Value.bool false = Value.bool (isCommand x k) ∧
    ((VObj.rows false k.h.t k.h.m (0 : Nat) (0 : Nat) fun x => []) = VObj.rows false k.h.t k.h.m (0 : Nat) (0 : Nat) fun x => []) ∧
    True)) (Value.bool false = Value.bool (isCommand x k) ∧
    ((VObj.rows false k.h.t k.h.m (0 : Nat) (0 : Nat) fun x => []) = VObj.rows false k.h.t k.h.m (0 : Nat) (0 : Nat) fun x => []) ∧
    True))
    (bsplit (x.Kind == (7 : Int))
    (bsplit (!isFile x.New) (Value.bool false = Value.bool (isCommand x k) ∧
    ((VObj.rows false k.h.t k.h.m (0 : Nat) (0 : Nat) fun x => []) = VObj.rows false k.h.t k.h.m (0 : Nat) (0 : Nat) fun x => []) ∧
    True)
    (bsplit (x.Kind != (7 : Int))
    (bsplit (!(x.New.Client == (0 : Int) && (x.New.Op == (0 : Int) && true))) (Value.bool false = Value.bool (isCommand x k) ∧
    ((VObj.rows false k.h.t k.h.m (0 : Nat) (0 : Nat) fun x => []) = VObj.rows false k.h.t k.h.m (0 : Nat) (0 : Nat) fun x => []) ∧
    True)
    (bsplit (isFile x.File) (Value.bool (isSize x.Size k) = Value.bool (isCommand x k) ∧
    ((VObj.rows false k.h.t k.h.m (0 : Nat) (0 : Nat) fun x => []) = VObj.rows false k.h.t k.h.m (0 : Nat) (0 : Nat) fun x => []) ∧
    True) (Value.bool false = Value.bool (isCommand x k) ∧
    ((VObj.rows false k.h.t k.h.m (0 : Nat) (0 : Nat) fun x => []) = VObj.rows false k.h.t k.h.m (0 : Nat) (0 : Nat) fun x => []) ∧
    True)))
    (bsplit (isFile x.File) (Value.bool (isSize x.Size k) = Value.bool (isCommand x k) ∧
    ((VObj.rows false k.h.t k.h.m (0 : Nat) (0 : Nat) fun x => []) = VObj.rows false k.h.t k.h.m (0 : Nat) (0 : Nat) fun x => []) ∧
    True) (Value.bool false = Value.bool (isCommand x k) ∧
    ((VObj.rows false k.h.t k.h.m (0 : Nat) (0 : Nat) fun x => []) = VObj.rows false k.h.t k.h.m (0 : Nat) (0 : Nat) fun x => []) ∧
    True))))
    (bsplit (x.Kind != (7 : Int))
    (bsplit (!(x.New.Client == (0 : Int) && (x.New.Op == (0 : Int) && true))) (Value.bool false = Value.bool (isCommand x k) ∧
    ((VObj.rows false k.h.t k.h.m (0 : Nat) (0 : Nat) fun x => []) = VObj.rows false k.h.t k.h.m (0 : Nat) (0 : Nat) fun x => []) ∧
    True)
    (bsplit (isFile x.File) (Value.bool (isSize x.Size k) = Value.bool (isCommand x k) ∧
    ((VObj.rows false k.h.t k.h.m (0 : Nat) (0 : Nat) fun x => []) = VObj.rows false k.h.t k.h.m (0 : Nat) (0 : Nat) fun x => []) ∧
    True) (Value.bool false = Value.bool (isCommand x k) ∧
    ((VObj.rows false k.h.t k.h.m (0 : Nat) (0 : Nat) fun x => []) = VObj.rows false k.h.t k.h.m (0 : Nat) (0 : Nat) fun x => []) ∧
    True)))
    (bsplit (isFile x.File) (Value.bool (isSize x.Size k) = Value.bool (isCommand x k) ∧
    ((VObj.rows false k.h.t k.h.m (0 : Nat) (0 : Nat) fun x => []) = VObj.rows false k.h.t k.h.m (0 : Nat) (0 : Nat) fun x => []) ∧
    True) (Value.bool false = Value.bool (isCommand x k) ∧
    ((VObj.rows false k.h.t k.h.m (0 : Nat) (0 : Nat) fun x => []) = VObj.rows false k.h.t k.h.m (0 : Nat) (0 : Nat) fun x => []) ∧
    True))))))
    (bsplit (decide (x.Kind < (5 : Int)))
    (bsplit (x.File.Client == (0 : Int) && (x.File.Op == (0 : Int) && true))
    (bsplit (x.New.Client == (0 : Int) && (x.New.Op == (0 : Int) && true)) (Value.bool (x.Size == (0 : Int)) = Value.bool (isCommand x k) ∧
    ((VObj.rows false k.h.t k.h.m (0 : Nat) (0 : Nat) fun x => []) = VObj.rows false k.h.t k.h.m (0 : Nat) (0 : Nat) fun x => []) ∧
    True) (Value.bool false = Value.bool (isCommand x k) ∧
    ((VObj.rows false k.h.t k.h.m (0 : Nat) (0 : Nat) fun x => []) = VObj.rows false k.h.t k.h.m (0 : Nat) (0 : Nat) fun x => []) ∧
    True)) (Value.bool false = Value.bool (isCommand x k) ∧
    ((VObj.rows false k.h.t k.h.m (0 : Nat) (0 : Nat) fun x => []) = VObj.rows false k.h.t k.h.m (0 : Nat) (0 : Nat) fun x => []) ∧
    True))
    (bsplit (x.Kind == (7 : Int))
    (bsplit (!isFile x.New) (Value.bool false = Value.bool (isCommand x k) ∧
    ((VObj.rows false k.h.t k.h.m (0 : Nat) (0 : Nat) fun x => []) = VObj.rows false k.h.t k.h.m (0 : Nat) (0 : Nat) fun x => []) ∧
    True)
    (bsplit (x.Kind != (7 : Int))
    (bsplit (!(x.New.Client == (0 : Int) && (x.New.Op == (0 : Int) && true))) (Value.bool false = Value.bool (isCommand x k) ∧
    ((VObj.rows false k.h.t k.h.m (0 : Nat) (0 : Nat) fun x => []) = VObj.rows false k.h.t k.h.m (0 : Nat) (0 : Nat) fun x => []) ∧
    True)
    (bsplit (isFile x.File) (Value.bool (isSize x.Size k) = Value.bool (isCommand x k) ∧
    ((VObj.rows false k.h.t k.h.m (0 : Nat) (0 : Nat) fun x => []) = VObj.rows false k.h.t k.h.m (0 : Nat) (0 : Nat) fun x => []) ∧
    True) (Value.bool false = Value.bool (isCommand x k) ∧
    ((VObj.rows false k.h.t k.h.m (0 : Nat) (0 : Nat) fun x => []) = VObj.rows false k.h.t k.h.m (0 : Nat) (0 : Nat) fun x => []) ∧
    True)))
    (bsplit (isFile x.File) (Value.bool (isSize x.Size k) = Value.bool (isCommand x k) ∧
    ((VObj.rows false k.h.t k.h.m (0 : Nat) (0 : Nat) fun x => []) = VObj.rows false k.h.t k.h.m (0 : Nat) (0 : Nat) fun x => []) ∧
    True) (Value.bool false = Value.bool (isCommand x k) ∧
    ((VObj.rows false k.h.t k.h.m (0 : Nat) (0 : Nat) fun x => []) = VObj.rows false k.h.t k.h.m (0 : Nat) (0 : Nat) fun x => []) ∧
    True))))
    (bsplit (x.Kind != (7 : Int))
    (bsplit (!(x.New.Client == (0 : Int) && (x.New.Op == (0 : Int) && true))) (Value.bool false = Value.bool (isCommand x k) ∧
    ((VObj.rows false k.h.t k.h.m (0 : Nat) (0 : Nat) fun x => []) = VObj.rows false k.h.t k.h.m (0 : Nat) (0 : Nat) fun x => []) ∧
    True)
    (bsplit (isFile x.File) (Value.bool (isSize x.Size k) = Value.bool (isCommand x k) ∧
    ((VObj.rows false k.h.t k.h.m (0 : Nat) (0 : Nat) fun x => []) = VObj.rows false k.h.t k.h.m (0 : Nat) (0 : Nat) fun x => []) ∧
    True) (Value.bool false = Value.bool (isCommand x k) ∧
    ((VObj.rows false k.h.t k.h.m (0 : Nat) (0 : Nat) fun x => []) = VObj.rows false k.h.t k.h.m (0 : Nat) (0 : Nat) fun x => []) ∧
    True)))
    (bsplit (isFile x.File) (Value.bool (isSize x.Size k) = Value.bool (isCommand x k) ∧
    ((VObj.rows false k.h.t k.h.m (0 : Nat) (0 : Nat) fun x => []) = VObj.rows false k.h.t k.h.m (0 : Nat) (0 : Nat) fun x => []) ∧
    True) (Value.bool false = Value.bool (isCommand x k) ∧
    ((VObj.rows false k.h.t k.h.m (0 : Nat) (0 : Nat) fun x => []) = VObj.rows false k.h.t k.h.m (0 : Nat) (0 : Nat) fun x => []) ∧
    True)))))))))) (by kernel_rfl) ?_
  simp only [bsplit_iff, and_true, Value.bool.injEq, isCommand, file0]
  generalize (x.Name.data.toList == []) = bn
  generalize (x.Size == 0) = bs
  generalize (x.File.Client == 0) = b1
  generalize (x.File.Op == 0) = b2
  generalize (x.New.Client == 0) = b3
  generalize (x.New.Op == 0) = b4
  cases within x.Kind 1 7 <;> cases within x.Client 1 255 <;> cases within x.Op 1 1099511627776 <;> try (simp; done)
  by_cases h4 : x.Kind = 4
  · rw [h4]
    cases bn <;> try (simp; done)
    cases b1 <;> cases b2 <;> cases b3 <;> cases b4 <;> simp
  · rw [beq_false_of_ne h4, bne_iff_ne.2 h4]
    cases isName x.Name <;> try (simp [h4]; done)
    by_cases h5 : x.Kind < 5
    · cases b1 <;> cases b2 <;> cases b3 <;> cases b4 <;> simp [h4, h5]
    · by_cases h7 : x.Kind = 7
      · rw [h7]
        cases isFile x.New <;> cases isFile x.File <;> simp
      · rw [beq_false_of_ne h7, bne_iff_ne.2 h7]
        cases b3 <;> cases b4 <;> cases isFile x.File <;> simp [h4, h5, h7]

def isInstance (x : GInst) (k : GCfg) : Bool :=
  if x.Decided then none_ x.Promised && none_ x.Accepted && isCommand x.Command k
  else (none_ x.Promised || one_ x.Promised) && !above x.Accepted x.Promised &&
    (if none_ x.Accepted then cmd0 x.Command else one_ x.Accepted && isCommand x.Command k)
abbrev isInstanceG := gC dGInst fun x k => .bool (isInstance x k)
theorem isInstance_ok : FnOK Try.prog 12 isInstanceG := by
  refine FnOK.gC (callable Try.func12 rfl (by decide +kernel)) _ _ (fun _ _ => rfl) fun x k => ?_
  refine of_run (ctxL_ok (.cons none_ok (.cons one_ok (.cons above_ok (.cons cmd0_ok (.cons isCommand_ok .nil)))))) (n := 200) Try.func12 rfl .l ?_
  refine by_nf (B := bsplit x.Decided
    (bsplit (none_ x.Promised)
    (bsplit (none_ x.Accepted) (Value.bool (isCommand x.Command k) = Value.bool (isInstance x k) ∧
    ((VObj.rows false k.h.t k.h.m (0 : Nat) (0 : Nat) fun x => []) = VObj.rows false k.h.t k.h.m (0 : Nat) (0 : Nat) fun x => []) ∧
    True) (Value.bool false = Value.bool (isInstance x k) ∧
    ((VObj.rows false k.h.t k.h.m (0 : Nat) (0 : Nat) fun x => []) = VObj.rows false k.h.t k.h.m (0 : Nat) (0 : Nat) fun x => []) ∧
    True)) (Value.bool false = Value.bool (isInstance x k) ∧
    ((VObj.rows false k.h.t k.h.m (0 : Nat) (0 : Nat) fun x => []) = VObj.rows false k.h.t k.h.m (0 : Nat) (0 : Nat) fun x => []) ∧
    True))
    (bsplit (!none_ x.Promised)
    (bsplit (!one_ x.Promised) (Value.bool false = Value.bool (isInstance x k) ∧
    ((VObj.rows false k.h.t k.h.m (0 : Nat) (0 : Nat) fun x => []) = VObj.rows false k.h.t k.h.m (0 : Nat) (0 : Nat) fun x => []) ∧
    True)
    (bsplit (above x.Accepted x.Promised) (Value.bool false = Value.bool (isInstance x k) ∧
    ((VObj.rows false k.h.t k.h.m (0 : Nat) (0 : Nat) fun x => []) = VObj.rows false k.h.t k.h.m (0 : Nat) (0 : Nat) fun x => []) ∧
    True)
    (bsplit (none_ x.Accepted) (Value.bool (cmd0 x.Command) = Value.bool (isInstance x k) ∧
    ((VObj.rows false k.h.t k.h.m (0 : Nat) (0 : Nat) fun x => []) = VObj.rows false k.h.t k.h.m (0 : Nat) (0 : Nat) fun x => []) ∧
    True)
    (bsplit (one_ x.Accepted) (Value.bool (isCommand x.Command k) = Value.bool (isInstance x k) ∧
    ((VObj.rows false k.h.t k.h.m (0 : Nat) (0 : Nat) fun x => []) = VObj.rows false k.h.t k.h.m (0 : Nat) (0 : Nat) fun x => []) ∧
    True) (Value.bool false = Value.bool (isInstance x k) ∧
    ((VObj.rows false k.h.t k.h.m (0 : Nat) (0 : Nat) fun x => []) = VObj.rows false k.h.t k.h.m (0 : Nat) (0 : Nat) fun x => []) ∧
    True)))))
    (bsplit (above x.Accepted x.Promised) (Value.bool false = Value.bool (isInstance x k) ∧
    ((VObj.rows false k.h.t k.h.m (0 : Nat) (0 : Nat) fun x => []) = VObj.rows false k.h.t k.h.m (0 : Nat) (0 : Nat) fun x => []) ∧
    True)
    (bsplit (none_ x.Accepted) (Value.bool (cmd0 x.Command) = Value.bool (isInstance x k) ∧
    ((VObj.rows false k.h.t k.h.m (0 : Nat) (0 : Nat) fun x => []) = VObj.rows false k.h.t k.h.m (0 : Nat) (0 : Nat) fun x => []) ∧
    True)
    (bsplit (one_ x.Accepted) (Value.bool (isCommand x.Command k) = Value.bool (isInstance x k) ∧
    ((VObj.rows false k.h.t k.h.m (0 : Nat) (0 : Nat) fun x => []) = VObj.rows false k.h.t k.h.m (0 : Nat) (0 : Nat) fun x => []) ∧
    True) (Value.bool false = Value.bool (isInstance x k) ∧
    ((VObj.rows false k.h.t k.h.m (0 : Nat) (0 : Nat) fun x => []) = VObj.rows false k.h.t k.h.m (0 : Nat) (0 : Nat) fun x => []) ∧
    True)))))) (by kernel_rfl) ?_
  simp only [bsplit_iff, and_true, Value.bool.injEq, isInstance]
  cases x.Decided <;> cases none_ x.Promised <;> cases none_ x.Accepted <;> cases one_ x.Promised <;> cases above x.Accepted x.Promised <;> cases one_ x.Accepted <;> simp
end Go.Acc
