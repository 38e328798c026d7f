/- A part of a proof: what is proved here is said at each theorem; it holds without any condition but those that the theorem names. -/
import Derived.Test.YtkjncodnmceilaaAccTypes
import Derived.Test.YtkjncodnmceilaaXS9
import Derived.Test.YtkjncodnmceilaaProg
set_option linter.unusedSimpArgs false
set_option linter.unusedVariables false
set_option linter.unusedSectionVars false
namespace Go.Acc
open Go Go.X Go.Proofs
variable [WI]
theorem callable {f : FuncId} {fn : Func} (h : Try.prog.funcs[f]? = some fn) (hb : fn.body.isSome = true) (hn : (fn.name == "runtime.NumGoroutine") = false) : Callable Try.prog f := ⟨fn, h, hb, hn⟩

theorem w64 (n : Int) (h : -9223372036854775808 ≤ n ∧ n ≤ 9223372036854775807) : IntKind.i64.wrap n = n := by rw [IntKind.wrap_i64]; omega

def less (a b : GStamp) : Bool := decide (a.N < b.N) || (a.N == b.N && decide (a.Client < b.Client))
abbrev lessG := g2 dGStamp dGStamp fun a b => .bool (less a b)
theorem less_ok : FnOK Try.prog 42 lessG := by
  refine FnOK.g2 (callable Try.func42 rfl (by decide +kernel)) _ _ _ (fun _ _ => rfl) fun a b => ?_
  refine of_run (ctxL_ok .nil) (n := 200) Try.func42 rfl .l ?_
  refine by_nf (B := bsplit (decide (a.N < b.N)) (Value.bool true = Value.bool (less a b))
    (bsplit (a.N == b.N) (Value.bool (decide (a.Client < b.Client)) = Value.bool (less a b)) (Value.bool false = Value.bool (less a b)))) (by kernel_rfl) ?_
  by_cases h : a.N < b.N <;> by_cases h2 : a.N = b.N <;> simp_all [bsplit_iff, less]

def above (a b : GStamp) : Bool := decide (a.N > b.N) || (a.N == b.N && decide (a.Client > b.Client))
abbrev aboveG := g2 dGStamp dGStamp fun a b => .bool (above a b)
theorem above_ok : FnOK Try.prog 24 aboveG := by
  refine FnOK.g2 (callable Try.func24 rfl (by decide +kernel)) _ _ _ (fun _ _ => rfl) fun a b => ?_
  refine of_run (ctxL_ok .nil) (n := 200) Try.func24 rfl .l ?_
  refine by_nf (B := bsplit (decide (a.N > b.N)) (Value.bool true = Value.bool (above a b))
    (bsplit (a.N == b.N) (Value.bool (decide (a.Client > b.Client)) = Value.bool (above a b)) (Value.bool false = Value.bool (above a b)))) (by kernel_rfl) ?_
  by_cases h : a.N > b.N <;> by_cases h2 : a.N = b.N <;> simp_all [bsplit_iff, above]

def none_ (a : GStamp) : Bool := a.N == 0 && a.Client == 0
abbrev noneG := g1 dGStamp fun a => .bool (none_ a)
theorem none_ok : FnOK Try.prog 30 noneG := by
  refine FnOK.g1 (callable Try.func30 rfl (by decide +kernel)) _ _ (fun _ => rfl) fun a => ?_
  refine of_run (ctxL_ok .nil) (n := 200) Try.func30 rfl .l ?_
  refine by_nf (B := bsplit (a.N == (0 : Int)) (Value.bool (a.Client == (0 : Int)) = Value.bool (none_ a)) (Value.bool false = Value.bool (none_ a))) (by kernel_rfl) ?_
  by_cases h : a.N = 0 <;> simp_all [bsplit_iff, none_]

def within (n lo hi : Int) : Bool := decide (lo ≤ n) && decide (n ≤ hi)
abbrev withinG := g3 (dInt .i64) (dInt .i64) (dInt .i64) fun n lo hi => .bool (within n lo hi)
theorem within_ok : FnOK Try.prog 32 withinG := by
  refine FnOK.g3 (callable Try.func32 rfl (by decide +kernel)) _ _ _ _ (fun _ _ _ => rfl) fun n lo hi => ?_
  refine of_run (ctxL_ok .nil) (n := 200) Try.func32 rfl .l ?_
  refine by_nf (B := bsplit (decide (n ≥ lo)) (Value.bool (decide (n ≤ hi)) = Value.bool (within n lo hi)) (Value.bool false = Value.bool (within n lo hi))) (by kernel_rfl) ?_
  simp [bsplit_iff, within]; omega

def one_ (a : GStamp) : Bool := within a.N 1 1099511627776 && within a.Client 1 255
abbrev oneG := g1 dGStamp fun a => .bool (one_ a)
theorem one_ok : FnOK Try.prog 14 oneG := by
  refine FnOK.g1 (callable Try.func14 rfl (by decide +kernel)) _ _ (fun _ => rfl) fun a => ?_
  refine of_run (ctxL_ok (.cons within_ok .nil)) (n := 200) Try.func14 rfl .l ?_
  refine by_nf (B := bsplit (within a.N (1 : Int) (1099511627776 : Int)) (Value.bool (within a.Client (1 : Int) (255 : Int)) = Value.bool (one_ a)) (Value.bool false = Value.bool (one_ a))) (by kernel_rfl) ?_
  cases h : within a.N 1 1099511627776 <;> simp_all [bsplit_iff, one_]

def isFile (a : GFile) : Bool := within a.Client 1 255 && within a.Op 1 1099511627776
abbrev isFileG := g1 dGFile fun a => .bool (isFile a)
theorem isFile_ok : FnOK Try.prog 34 isFileG := by
  refine FnOK.g1 (callable Try.func34 rfl (by decide +kernel)) _ _ (fun _ => rfl) fun a => ?_
  refine of_run (ctxL_ok (.cons within_ok .nil)) (n := 200) Try.func34 rfl .l ?_
  refine by_nf (B := bsplit (within a.Client (1 : Int) (255 : Int)) (Value.bool (within a.Op (1 : Int) (1099511627776 : Int)) = Value.bool (isFile a)) (Value.bool false = Value.bool (isFile a))) (by kernel_rfl) ?_
  cases h : within a.Client 1 255 <;> simp_all [bsplit_iff, isFile]

def file0 (a : GFile) : Bool := a.Client == 0 && a.Op == 0
def cmd0 (x : GCommand) : Bool := x.Kind == 0 && x.Client == 0 && x.Op == 0 && x.Name.data.toList == [] && file0 x.File && file0 x.New && x.Size == 0
abbrev cmd0G := g1 dGCommand fun x => .bool (cmd0 x)
theorem cmd0_ok : FnOK Try.prog 31 cmd0G := by
  refine FnOK.g1 (callable Try.func31 rfl (by decide +kernel)) _ _ (fun _ => rfl) fun x => ?_
  refine of_run (ctxL_ok .nil) (n := 200) Try.func31 rfl .l ?_
  refine by_nf (B := Value.bool (x.Kind == (0 : Int) && (x.Client == (0 : Int) && (x.Op == (0 : Int) && (x.Name.data.toList == { data := #[] : ByteArray }.data.toList && (x.File.Client == (0 : Int) && (x.File.Op == (0 : Int) && true) && (x.New.Client == (0 : Int) && (x.New.Op == (0 : Int) && true) && (x.Size == (0 : Int) && true))))))) = Value.bool (cmd0 x)) (by kernel_rfl) ?_
  simp [cmd0, file0, Bool.and_assoc]

/-- IsName: the last n bytes hold none that may not be -/
def badByte (c : Nat) : Bool := c == 0 || c == 47
def nameFrom (s : ByteArray) : Nat → Bool
  | 0 => true
  | n + 1 => !badByte (strAt s (s.size - (n + 1))) && nameFrom s n
def isName (s : ByteArray) : Bool := decide (1 ≤ s.size) && decide (s.size ≤ 255) && nameFrom s s.size


def nameS (s : ByteArray) (i : Int) : VSt := ⟨.string s :: unk :: unk :: .int .i64 i :: List.replicate 24 unk, []⟩
def nameR (s : ByteArray) : VSt := ⟨.string s :: unk :: .bool false :: List.replicate 25 unk, []⟩
def nameN (s : ByteArray) : VSt := ⟨.string s :: List.replicate 27 unk, []⟩
def noV : VW → Prop
  | [] => True
  | _ => False
theorem noV_eq {V : VW} (h : noV V) : V = [] := by
  cases V with
  | nil => rfl
  | cons => exact h.elim
def nameT (S : VSt) (K : Exit → VSt → Prop) : Prop :=
  match nth undef S.tmps 0, nth undef S.tmps 3 with
  | .string s, .int _ n => (s.size ≤ 255 ∧ n = 0 ∧ leT (nameS s n).tmps S.tmps ∧ noV S.V) ∧ bsplit (nameFrom s s.size) (K .normal (nameN s)) (K .ret (nameR s))
  | _, _ => False
def nameJ (s : ByteArray) (S : VSt) : Prop := ∃ i : Nat, i ≤ s.size ∧ nameFrom s (s.size - i) = nameFrom s s.size ∧ S = nameS s i
def nameM (s : ByteArray) (S : VSt) : Nat := match nth undef S.tmps 3 with | .int _ i => s.size - i.toNat | _ => 0

theorem name_loop (s : ByteArray) (hs : s.size ≤ 255) (K : Exit → VSt → Prop) (hK : bsplit (nameFrom s s.size) (K .normal (nameN s)) (K .ret (nameR s))) :
    Does Try.prog (.block 0 (.loop (roundOf Try.f33 0))) (nameS s 0) K := by
  refine Does.rounds (nameJ s) (nameM s) ?_ _ ⟨0, Nat.zero_le _, by simp, rfl⟩
  rintro S ⟨i, hi, hn, rfl⟩
  refine of_code (ctxL_ok .nil) (n := 100) .l ?_
  refine by_nf (B := bsplit (decide ((↑i : Int) < (↑s.size : Int))) (((0 : Int) ≤ (↑i : Int) ∧
    (↑i : Int) + (1 : Int) ≤ (↑s.size : Int)) ∧
    bsplit ((↑(strAt s (↑i : Int).toNat) : Int) == (0 : Int)) (∃ S'', Less (nameS s (↑i : Int)) S'' { tmps := [Value.string s, unk, Value.bool false, Value.int IntKind.i64 (↑i : Int), unk, unk, unk, unk, unk, unk, unk, unk, Value.int IntKind.i64 (↑i : Int), Value.string s, Value.int IntKind.i64 (↑s.size : Int), Value.bool (decide ((↑i : Int) < (↑s.size : Int))), unk, unk, Value.string s, Value.int IntKind.i64 (↑i : Int), Value.int IntKind.u8 (↑(strAt s (↑i : Int).toNat) : Int), Value.bool ((↑(strAt s (↑i : Int).toNat) : Int) == (0 : Int)), Value.bool true, Value.tuple #[], Value.tuple #[], Value.tuple #[], Value.tuple #[], Value.bool true], V := [] : VSt } ∧
    K Exit.ret S'') (((0 : Int) ≤ (↑i : Int) ∧
    (↑i : Int) + (1 : Int) ≤ (↑s.size : Int)) ∧
    bsplit ((↑(strAt s (↑i : Int).toNat) : Int) == (47 : Int)) (∃ S'', Less (nameS s (↑i : Int)) S'' { tmps := [Value.string s, unk, Value.bool false, Value.int IntKind.i64 (↑i : Int), unk, unk, unk, unk, unk, unk, unk, unk, Value.int IntKind.i64 (↑i : Int), Value.string s, Value.int IntKind.i64 (↑s.size : Int), Value.bool (decide ((↑i : Int) < (↑s.size : Int))), unk, unk, Value.string s, Value.int IntKind.i64 (↑i : Int), Value.int IntKind.u8 (↑(strAt s (↑i : Int).toNat) : Int), Value.bool ((↑(strAt s (↑i : Int).toNat) : Int) == (0 : Int)), Value.bool false, Value.string s, Value.int IntKind.i64 (↑i : Int), Value.int IntKind.u8 (↑(strAt s (↑i : Int).toNat) : Int), Value.bool ((↑(strAt s (↑i : Int).toNat) : Int) == (47 : Int)), Value.bool ((↑(strAt s (↑i : Int).toNat) : Int) == (47 : Int))], V := [] : VSt } ∧
    K Exit.ret S'') (∃ S'', Less (nameS s (↑i : Int)) S'' { tmps := [Value.string s, unk, unk, Value.int IntKind.i64 (IntKind.i64.wrap ((↑i : Int) + (1 : Int))), unk, unk, unk, unk, unk, unk, unk, unk, Value.int IntKind.i64 (↑i : Int), Value.string s, Value.int IntKind.i64 (↑s.size : Int), Value.bool (decide ((↑i : Int) < (↑s.size : Int))), Value.int IntKind.i64 (↑i : Int), Value.int IntKind.i64 (IntKind.i64.wrap ((↑i : Int) + (1 : Int))), Value.string s, Value.int IntKind.i64 (↑i : Int), Value.int IntKind.u8 (↑(strAt s (↑i : Int).toNat) : Int), Value.bool ((↑(strAt s (↑i : Int).toNat) : Int) == (0 : Int)), Value.bool false, Value.string s, Value.int IntKind.i64 (↑i : Int), Value.int IntKind.u8 (↑(strAt s (↑i : Int).toNat) : Int), Value.bool ((↑(strAt s (↑i : Int).toNat) : Int) == (47 : Int)), Value.bool ((↑(strAt s (↑i : Int).toNat) : Int) == (47 : Int))], V := [] : VSt } ∧
    nameJ s S'' ∧
    nameM s S'' < nameM s (nameS s (↑i : Int))))) (∃ S'', Less (nameS s (↑i : Int)) S'' { tmps := [Value.string s, unk, unk, Value.int IntKind.i64 (↑i : Int), unk, unk, unk, unk, unk, unk, unk, unk, Value.int IntKind.i64 (↑i : Int), Value.string s, Value.int IntKind.i64 (↑s.size : Int), Value.bool (decide ((↑i : Int) < (↑s.size : Int))), unk, unk, unk, unk, unk, unk, unk, unk, unk, unk, unk, unk], V := [] : VSt } ∧
    K Exit.normal S'')) (by kernel_rfl) ?_
  rw [w64 _ (by omega)]
  have hr : ∀ h : i < s.size, nameFrom s (s.size - i) = (!badByte (strAt s i) && nameFrom s (s.size - (i + 1))) := by
    intro h
    obtain ⟨k, hk⟩ : ∃ k, s.size - i = k + 1 := ⟨s.size - i - 1, by omega⟩
    rw [hk, nameFrom, show s.size - (k + 1) = i by omega, show s.size - (i + 1) = k by omega]
  rw [bsplit_iff] at hK
  refine bsplit_iff.2 ⟨fun h => ?_, fun h => ?_⟩
  · have h : i < s.size := by simpa using h
    have hr := hr h
    refine ⟨⟨by omega, by omega⟩, bsplit_iff.2 ⟨fun hb => ?_, fun hb => ⟨⟨by omega, by omega⟩, bsplit_iff.2 ⟨fun hb' => ?_, fun hb' => ?_⟩⟩⟩⟩
    · refine ⟨nameR s, .nil rfl (by simp [leT, unk]) (by rfl), hK.2 ?_⟩
      have : strAt s i = 0 := by have := eq_of_beq hb; simp at this; omega
      rw [← hn, hr, this]; rfl
    · refine ⟨nameR s, .nil rfl (by simp [leT, unk]) (by rfl), hK.2 ?_⟩
      have : strAt s i = 47 := by have := eq_of_beq hb'; simp at this; omega
      rw [← hn, hr, this]; rfl
    · refine ⟨nameS s (i + 1), .nil rfl (by simp [leT, unk]) (by rfl), ⟨i + 1, h, ?_, by simp⟩, ?_⟩
      · have h0 : (strAt s i == 0) = false := by simpa using hb
        have h1 : (strAt s i == 47) = false := by have := ne_of_beq_false hb'; simp at this ⊢; omega
        rw [← hn, hr, badByte, h0, h1]; rfl
      · show s.size - ((i : Int) + 1).toNat < s.size - (i : Int).toNat
        omega
  · have h : i = s.size := by
      have : ¬ ((i : Int) < s.size) := by simpa using h
      omega
    refine ⟨nameN s, .nil rfl (by simp [leT, unk]) (by rfl), hK.1 ?_⟩
    rw [← hn, h, Nat.sub_self]; rfl

abbrev isNameG := g1 dStr fun s => .bool (isName s)
theorem isName_ok : FnOK Try.prog 33 isNameG := by
  refine FnOK.g1 (callable Try.func33 rfl (by decide +kernel)) _ _ (fun _ => rfl) fun s => ?_
  refine of_run (ctxB_ok (id := 0) (T := nameT) .nil) (n := 200) Try.func33 rfl (.one rfl rfl fun S K h => ?_) ?_
  · unfold nameT at h
    split at h
    · obtain ⟨⟨h1, rfl, h2, h3⟩, h4⟩ := h
      exact Does.weaken (name_loop _ h1 K h4) h2 (noV_eq h3).symm (.nil (by rfl))
    · exact h.elim
  refine by_nf (B := bsplit (decide ((↑s.size : Int) < (1 : Int))) (Value.bool false = Value.bool (isName s))
    (bsplit (decide ((↑s.size : Int) > (255 : Int))) (Value.bool false = Value.bool (isName s)) ((s.size ≤ (255 : Nat) ∧
    (0 : Int) = (0 : Int) ∧
    (Value.string s = Value.string s ∧
    Value.int IntKind.i64 (0 : Int) = Value.int IntKind.i64 (0 : Int) ∧
    True) ∧
    True) ∧
    bsplit (nameFrom s s.size) (Value.bool true = Value.bool (isName s)) (Value.bool false = Value.bool (isName s))))) (by kernel_rfl) ?_
  simp only [bsplit_iff, decide_eq_true_eq, decide_eq_false_iff_not, Value.bool.injEq, isName]
  refine ⟨fun h => ?_, fun h => ⟨fun h' => ?_, fun h' => ⟨⟨by omega, by simp⟩, fun hn => ?_, fun hn => ?_⟩⟩⟩
  · simp [show ¬ 1 ≤ s.size by omega]
  · simp [show ¬ s.size ≤ 255 by omega]
  · simp [hn]; omega
  · simp [hn]
end Go.Acc
