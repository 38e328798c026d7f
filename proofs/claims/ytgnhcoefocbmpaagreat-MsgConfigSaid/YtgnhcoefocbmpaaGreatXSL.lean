/- A call of a function that looks at no place: it serves in any memory. -/
import Derived.Test.YtgnhcoefocbmpaaGreatXSQ
set_option linter.unusedSimpArgs false
set_option linter.unusedSectionVars false
set_option linter.unusedVariables false
namespace Go.X
open Go
variable [WI]
variable {P : Program}

theorem CallDoes.blind {f : FuncId} {args args' : List Value} {V : VW} {K : Value → VW → Prop} (Kp : Value → Prop) (N : Nat) (ρ : Nat → Nat) (ha : args = args'.map (renB ρ)) (hs : ∀ x ∈ args', Sc N x)
    (h : CallDoes P f args' (List.replicate N .dead) fun v _ => Kp v) (hK : ∀ v, Kp v → plainR v = true ∧ K v V) : CallDoes P f args V K := by
  intro env w hW hsc
  have hd : ∀ {i : Nat} {o : VObj}, (List.replicate N VObj.dead)[i]? = some o → o = .dead := by
    intro i o h
    rw [List.getElem?_replicate] at h
    split at h
    · exact (Option.some.inj h).symm
    · cases h
  have h0 : RepW (fun i => env (ρ i)) (List.replicate N .dead) w := by
    refine ⟨fun i o h => ?_, fun i o h => ?_, fun i o h hB => ?_, fun i j oi oj h _ _ hw => ?_, hW.inv, fun i o h ho => ?_, hW.room⟩
    · rw [hd h]; trivial
    · rw [hd h]; trivial
    · rw [hd h] at hB; exact hB.elim
    · rw [hd h] at hw; cases hw
    · rw [hd h] at ho; exact ho.2.elim
  have hc := h _ w h0 (by simpa using hs)
  have he : args'.map (ren fun i => env (ρ i)) = args.map (ren env) := by
    rw [ha, List.map_map]
    exact List.map_congr_left fun v _ => (ren_renB env ρ v).symm
  rw [he] at hc
  refine hc.mono ?_
  rintro e w' ⟨u, env1, V', v, rfl, hrv, hW1, hF, hk⟩
  obtain ⟨hp, hK⟩ := hK v hk
  have hkeep : ∀ b, b < w.heap.size → w'.heap[b]? = w.heap[b]? := fun b hb => hF.keep b hb (fun i o h ho => by rw [hd h] at ho; exact ho.2.elim)
  have := pairRF hW (env' := env) (V' := V) (w' := w') (fun i o hi => (hW.mat i o hi).keep (fun hB => hkeep _ (hW.blk i o hi hB)) (hW.sc i o hi) fun _ _ => rfl) hW.sc
    (fun i o hi hB => Nat.lt_of_lt_of_le (hW.blk i o hi hB) hF.size) hW.sep
    ⟨fun _ _ => rfl, Nat.le_refl _, hF.os, hF.tape, hF.output, hF.size, fun b hb _ => hkeep b hb, fun i o hi ho => .inl ⟨i, o, hi, ho, rfl⟩⟩
  refine ⟨u, env, V, v, rfl, ?_, this.1, this.2, hK⟩
  rcases hrv with h1 | h1
  · exact .inl h1
  · exact .inr (by rw [h1, ren_plainR _ hp, ren_plainR _ hp])
end Go.X
