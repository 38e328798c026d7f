/- A row with holes is closed: what its cells really are is some function. -/
import Derived.Test.YtgnhcoefocbmpaaGreatXSP
set_option linter.unusedSimpArgs false
set_option linter.unusedSectionVars false
set_option linter.unusedVariables false
namespace Go.X
open Go
variable [WI]
variable {P : Program}

/-- the row at a place is closed -/
def shutS (q : Nat) (S : VSt) (k : VSt → Prop) : Prop :=
  match S.V[q]? with
  | some (.raw t m n cap f hs) => ∀ f' : Nat → List Value, setK S.V q (.raw t m n cap f' []) fun V' => k ⟨S.tmps, V'⟩
  | _ => k S

/-- the place of the slice that a tmp holds -/
def blkT (t : Nat) (S : VSt) : Nat := match nth undef S.tmps t with | .slice (some a) _ _ => a.block | _ => S.V.length
theorem Does.shut {c : Code} {S : VSt} {K : Exit → VSt → Prop} (q : Exit → VSt → Nat) (h : Does P c S fun e S' => shutS (q e S') S' (K e)) : Does P c S K := by
  intro env a w hR
  refine wp_mono (h env a w hR) ?_
  rintro e a' w' ⟨hne, env', S', hF, hR', hK⟩
  refine ⟨hne, ?_⟩
  unfold shutS at hK
  split at hK
  · rename_i t m n cap f hs hq
    have hK := hK (rawRow env' f hs)
    rw [setK_eq] at hK
    refine ⟨env', ⟨S'.tmps, S'.V.set (q e S') (.raw t m n cap (rawRow env' f hs) [])⟩, ⟨hF.agree, by simpa using hF.len, hF.os, hF.tape, hF.output, hF.size, hF.keep, fun i o hi ho => ?_⟩, ?_, hK⟩
    · rcases setV_get hi with ⟨rfl, rfl, _⟩ | ⟨_, hi⟩
      · exact hF.own _ _ hq ⟨rfl, trivial⟩
      · exact hF.own i o hi ho
    · exact hR'.swap (hR'.mem.closeR hq) (by simp) fun _ _ => rfl
  · exact ⟨env', S', hF, hR', hK⟩

theorem shutS_mono {q : Nat} {S : VSt} {k k' : VSt → Prop} (hk : ∀ S, k S → k' S) (h : shutS q S k) : shutS q S k' := by
  unfold shutS at h ⊢
  split at h
  · intro f'
    have h := h f'
    rw [setK_eq] at h ⊢
    exact hk _ h
  · exact hk _ h
theorem Does.shutIn {c : Code} {S : VSt} {K : Exit → VSt → Prop} (q : Nat) (h : shutS q S fun S1 => Does P c S1 K) : Does P c S K := by
  intro env a w hR
  unfold shutS at h
  split at h
  · rename_i t m n cap f hs hq
    have h1 := h (rawRow env f hs)
    rw [setK_eq] at h1
    have hR1 : Rep env ⟨S.tmps, S.V.set q (.raw t m n cap (rawRow env f hs) [])⟩ a w := hR.swap (hR.mem.closeR hq) (by simp) fun _ _ => rfl
    refine wp_mono (h1 env a w hR1) ?_
    rintro e a' w' ⟨hne, env', S', hF, hR', hK⟩
    refine ⟨hne, env', S', ⟨by simpa using hF.agree, by simpa using hF.len, hF.os, hF.tape, hF.output, hF.size, fun b hb hno => hF.keep b hb fun i o hi ho => ?_, fun i o hi ho => ?_⟩, hR', hK⟩
    · rcases setV_get hi with ⟨rfl, rfl, _⟩ | ⟨_, hi⟩
      · exact hno _ _ hq ⟨rfl, trivial⟩
      · exact hno i o hi ho
    · rcases hF.own i o hi ho with ⟨j, oj, hj, hoj, he⟩ | h
      · rcases setV_get hj with ⟨rfl, rfl, _⟩ | ⟨_, hj⟩
        · exact .inl ⟨_, _, hq, ⟨rfl, trivial⟩, he⟩
        · exact .inl ⟨j, oj, hj, hoj, he⟩
      · exact .inr h
  · exact h env a w hR

/-- an empty map is told by what a lookup gives -/
def asQ (q : Nat) (S : VSt) (k : VSt → Prop) : Prop :=
  match S.V[q]? with
  | some (.mp [] _) => setK S.V q (.mq fun _ => 0) fun V' => k ⟨S.tmps, V'⟩
  | _ => k S
theorem Does.qIn {c : Code} {S : VSt} {K : Exit → VSt → Prop} (q : Nat) (h : asQ q S fun S1 => Does P c S1 K) : Does P c S K := by
  intro env a w hR
  unfold asQ at h
  split at h
  · rename_i cl hq
    rw [setK_eq] at h
    have hR1 : Rep env ⟨S.tmps, S.V.set q (.mq fun _ => 0)⟩ a w := hR.swap (hR.mem.hideQ hq ⟨(fun e he => by simp at he), fun n => rfl⟩) (by simp) fun _ _ => rfl
    refine wp_mono (h env a w hR1) ?_
    rintro e a' w' ⟨hne, env', S', hF, hR', hK⟩
    refine ⟨hne, env', S', ⟨by simpa using hF.agree, by simpa using hF.len, hF.os, hF.tape, hF.output, hF.size, fun b hb hno => hF.keep b hb fun i o hi ho => ?_, fun i o hi ho => ?_⟩, hR', hK⟩
    · rcases setV_get hi with ⟨rfl, rfl, _⟩ | ⟨_, hi⟩
      · exact hno _ _ hq ⟨rfl, trivial⟩
      · exact hno i o hi ho
    · rcases hF.own i o hi ho with ⟨j, oj, hj, hoj, he⟩ | h
      · rcases setV_get hj with ⟨rfl, rfl, _⟩ | ⟨_, hj⟩
        · exact .inl ⟨_, _, hq, ⟨rfl, trivial⟩, he⟩
        · exact .inl ⟨j, oj, hj, hoj, he⟩
      · exact .inr h
  · exact h env a w hR

def shutV (q : Nat) (V : VW) (k : VW → Prop) : Prop :=
  match V[q]? with
  | some (.raw t m n cap f hs) => ∀ f' : Nat → List Value, setK V q (.raw t m n cap f' []) k
  | _ => k V
def blkV (v : Value) (V : VW) : Nat := match v with | .slice (some a) _ _ => a.block | _ => V.length
theorem CallDoes.shut {f : FuncId} {args : List Value} {V : VW} {K : Value → VW → Prop} (q : Value → VW → Nat) (h : CallDoes P f args V fun v V' => shutV (q v V') V' (K v)) : CallDoes P f args V K := by
  intro env w hW hsc
  refine (h env w hW hsc).mono ?_
  rintro e w' ⟨u, env', V', v, rfl, hrv, hW', hF, hK⟩
  unfold shutV at hK
  split at hK
  · rename_i t m n cap f hs hq
    have hK := hK (rawRow env' f hs)
    rw [setK_eq] at hK
    refine ⟨u, env', V'.set (q v V') (.raw t m n cap (rawRow env' f hs) []), v, rfl, hrv, hW'.closeR hq, ⟨hF.agree, by simpa using hF.len, hF.os, hF.tape, hF.output, hF.size, hF.keep, fun i o hi ho => ?_⟩, hK⟩
    rcases setV_get hi with ⟨rfl, rfl, _⟩ | ⟨_, hi⟩
    · exact hF.own _ _ hq ⟨rfl, trivial⟩
    · exact hF.own i o hi ho
  · exact ⟨u, env', V', v, rfl, hrv, hW', hF, hK⟩
end Go.X
