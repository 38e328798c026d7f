/- A part of a proof: what is proved here is said at each theorem; it holds without any condition but those that the theorem names. -/
import Derived.Test.YtkjncodnmceilaaAcc10
set_option linter.unusedSimpArgs false
set_option linter.unusedVariables false
namespace Go.Acc
open Go Go.X Go.Proofs

theorem cmdEq_self' (c : GCommand) : cmdEq c c = true := by simp [cmdEq, fileEq]
theorem stampEq_self (a : GStamp) : stampEq a a = true := by simp [stampEq]
theorem stampEq_comm (a b : GStamp) : stampEq a b = stampEq b a := by
  rw [Bool.eq_iff_iff]; simp only [stampEq, Bool.and_eq_true, beq_iff_eq]
  constructor <;> (rintro ⟨h1, h2⟩; exact ⟨h1.symm, h2.symm⟩)
theorem fileEq_comm (a b : GFile) : fileEq a b = fileEq b a := by
  rw [Bool.eq_iff_iff]; simp only [fileEq, Bool.and_eq_true, beq_iff_eq]
  constructor <;> (rintro ⟨h1, h2⟩; exact ⟨h1.symm, h2.symm⟩)
theorem cmdEq_comm (a b : GCommand) : cmdEq a b = cmdEq b a := by
  unfold cmdEq
  rw [BEq.comm (a := a.Kind), BEq.comm (a := a.Client), BEq.comm (a := a.Op), BEq.comm (a := a.Name.data.toList), BEq.comm (a := a.Size), fileEq_comm a.File, fileEq_comm a.New]
def instEq (a b : GInst) : Bool := stampEq a.Promised b.Promised && (stampEq a.Accepted b.Accepted && (cmdEq a.Command b.Command && (a.Decided == b.Decided && true)))
theorem instEq_self (a : GInst) : instEq a a = true := by simp [instEq, stampEq_self, cmdEq_self']
theorem above_self (a : GStamp) : above a a = false := by simp [above]
theorem above_trans {a b c : GStamp} (h1 : above a b = false) (h2 : above b c = false) : above a c = false := by
  have e : ∀ p q : GStamp, above p q = false ↔ ¬ (p.N > q.N ∨ (p.N = q.N ∧ p.Client > q.Client)) := fun p q => by
    rw [← Bool.not_eq_true]; simp [above]
  rw [e] at *
  omega

structure Facts (x : GInst) (s : GStep) (r : GInst × GMsg0 × Bool) : Prop where
  inst : isInstance r.1 wideCfg = true
  chg : r.2.2 = !instEq r.1 x
  dec : x.Decided = true → r.2.2 = false
  prom : r.1.Decided = false → above x.Promised r.1.Promised = false
  acc : r.1.Decided = false → above x.Accepted r.1.Accepted = false
  told1 : s.Kind = 1 → told x r.1 r.2.1 s = true
  told2 : s.Kind = 2 → told x r.1 r.2.1 s = true

theorem facts_same {x : GInst} {s : GStep} (hx : isInstance x wideCfg = true) (m : GMsg0) (h1 : s.Kind = 1 → told x x m s = true) (h2 : s.Kind = 2 → told x x m s = true) : Facts x s (x, m, false) :=
  ⟨hx, by simp [instEq_self], fun _ => rfl, fun _ => above_self _, fun _ => above_self _, h1, h2⟩

theorem refused_cases (x : GInst) (b : GStamp) : (x.Decided = true ∧ refused x b = (msgOf 16 st0 st0 x.Command, true)) ∨ (x.Decided = false ∧ above x.Promised b = true ∧ refused x b = (msgOf 14 x.Promised st0 cmdZ, true)) ∨
    (x.Decided = false ∧ above x.Promised b = false ∧ refused x b = (msg0, false)) := by
  cases hd : x.Decided with
  | true => left; simp [refused, hd]
  | false =>
    right
    cases hl : above x.Promised b with
    | true => left; simp [refused, hd, less_of_above, hl]
    | false => right; simp [refused, hd, less_of_above, hl]

theorem inst_open {x : GInst} (hx : isInstance x wideCfg = true) (hd : x.Decided = false) : above x.Accepted x.Promised = false ∧ (if none_ x.Accepted then cmd0 x.Command else one_ x.Accepted && isCommand x.Command wideCfg) = true := by
  simp only [isInstance, hd, Bool.false_eq_true, if_false, Bool.and_eq_true, Bool.not_eq_true'] at hx
  exact ⟨hx.1.2, hx.2⟩

theorem one_not_none {b : GStamp} (h : one_ b = true) : none_ b = false := by
  simp only [one_, within, Bool.and_eq_true, decide_eq_true_eq] at h
  simp only [none_, Bool.and_eq_false_iff, beq_eq_false_iff_ne]
  left; omega

theorem facts {x : GInst} {s : GStep} (hx : isInstance x wideCfg = true) (h1 : s.Kind = 3 ∨ one_ s.Ballot = true) (h2 : s.Kind = 1 ∨ isCommand s.C wideCfg = true) : Facts x s (callR x s) := by
  unfold callR
  split
  · rename_i hk
    have hb : one_ s.Ballot = true := h1.resolve_left (by omega)
    rcases refused_cases x s.Ballot with ⟨hd, hr⟩ | ⟨hd, ha, hr⟩ | ⟨hd, ha, hr⟩
    · have e : prepare x s.Ballot = (x, msgOf 16 st0 st0 x.Command, false) := by simp [prepare, hr]
      rw [e]
      exact facts_same hx _ (fun _ => by simp [told, msgOf, keyEq, hd, cmdEq_self']) (fun h => by omega)
    · have e : prepare x s.Ballot = (x, msgOf 14 x.Promised st0 cmdZ, false) := by simp [prepare, hr]
      rw [e]
      exact facts_same hx _ (fun _ => by simp [told, msgOf, keyEq, stampEq_self, ha]) (fun h => by omega)
    · have e : prepare x s.Ballot = (⟨s.Ballot, x.Accepted, x.Command, x.Decided⟩, msgOf 13 s.Ballot x.Accepted x.Command, !stampEq x.Promised s.Ballot) := by simp [prepare, hr]
      rw [e]
      obtain ⟨g1, g2⟩ := inst_open hx hd
      refine ⟨?_, ?_, fun h => (by rw [hd] at h; cases h), fun _ => ha, fun _ => above_self _, fun _ => ?_, fun h => by omega⟩
      · simp only [isInstance, hd, Bool.false_eq_true, if_false, Bool.and_eq_true, Bool.not_eq_true', Bool.or_eq_true]
        exact ⟨⟨.inr hb, above_trans g1 ha⟩, g2⟩
      · simp [instEq, stampEq_self, cmdEq_self', stampEq_comm s.Ballot]
      · simp [told, msgOf, keyEq, hk, stampEq_self, cmdEq_self']
  · split
    · rename_i _ hk
      have hb : one_ s.Ballot = true := h1.resolve_left (by omega)
      have hc : isCommand s.C wideCfg = true := h2.resolve_left (by omega)
      rcases refused_cases x s.Ballot with ⟨hd, hr⟩ | ⟨hd, ha, hr⟩ | ⟨hd, ha, hr⟩
      · have e : accept x s.Ballot s.C = (x, msgOf 16 st0 st0 x.Command, false) := by simp [accept, hr]
        rw [e]
        exact facts_same hx _ (fun h => by omega) (fun _ => by simp [told, msgOf, keyEq, hd, cmdEq_self'])
      · have e : accept x s.Ballot s.C = (x, msgOf 14 x.Promised st0 cmdZ, false) := by simp [accept, hr]
        rw [e]
        exact facts_same hx _ (fun h => by omega) (fun _ => by simp [told, msgOf, keyEq, stampEq_self, ha])
      · have e : accept x s.Ballot s.C = (⟨s.Ballot, s.Ballot, s.C, false⟩, msgOf 15 s.Ballot st0 cmdZ, !(stampEq x.Promised s.Ballot && stampEq x.Accepted s.Ballot && cmdEq x.Command s.C)) := by simp [accept, hr]
        rw [e]
        obtain ⟨g1, g2⟩ := inst_open hx hd
        refine ⟨?_, ?_, fun h => (by rw [hd] at h; cases h), fun _ => ha, fun _ => above_trans g1 ha, fun h => by omega, fun _ => ?_⟩
        · simp [isInstance, hb, above_self, one_not_none hb, hc]
        · simp [instEq, stampEq_comm s.Ballot, cmdEq_comm s.C, hd, Bool.and_assoc, Bool.or_assoc]
        · simp [told, msgOf, keyEq, hk, stampEq_self, cmdEq_self']
    · split
      · rename_i _ _ hk
        have hc : isCommand s.C wideCfg = true := h2.resolve_left (by omega)
        cases hd : x.Decided with
        | true =>
          have e : learned x s.C = (x, false) := by simp [learned, hd]
          rw [e]
          exact facts_same hx _ (fun h => by omega) (fun h => by omega)
        | false =>
          have e : learned x s.C = (⟨st0, st0, s.C, true⟩, true) := by simp [learned, hd]
          rw [e]
          refine ⟨?_, ?_, fun h => (by rw [hd] at h; cases h), fun h => (by cases h), fun h => (by cases h), fun h => by omega, fun h => by omega⟩
          · simp [isInstance, none_, st0, hc]
          · simp [instEq, hd]
      · exact facts_same hx _ (fun h => by omega) (fun h => by omega)
end Go.Acc
