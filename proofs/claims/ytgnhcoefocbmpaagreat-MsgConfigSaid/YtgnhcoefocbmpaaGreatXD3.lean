/- What the symbolic run says of the real one: regions that draw their order and make variables: the places of these lie ahead, dead until they are made. -/
import Derived.Test.YtgnhcoefocbmpaaGreatXD2
set_option linter.unusedSimpArgs false
set_option linter.unusedSectionVars false
set_option linter.unusedVariables false
namespace Go.X
open Go
variable [WI] [WD]
variable {P : Program} {C : Ctx}

/-! ### Values that do not name a place -/
def FreeV (p : Nat) (v : Value) : Prop := ∀ e e' : Nat → Loc, (∀ j, j ≠ p → e j = e' j) → ren e v = ren e' v

theorem FreeV.plain {p : Nat} {v : Value} (h : plainC v = true) : FreeV p v := fun e e' _ => by rw [ren_plain e h, ren_plain e' h]
theorem FreeV.of_sc {p n : Nat} {v : Value} (h : Sc n v) (hn : n ≤ p) : FreeV p v := fun e e' he => h e e' fun i hi => he i (by omega)

theorem freeB_ok {p : Nat} : ∀ (d : Nat) (v : Value), freeB p d v = true → FreeV p v
  | 0, v, h => by simp [freeB] at h
  | d + 1, v, h => by
    have ihl : ∀ l : List Value, l.all (freeB p d) = true → ∀ e e' : Nat → Loc, (∀ j, j ≠ p → e j = e' j) → l.map (ren e) = l.map (ren e') := fun l hl e e' he =>
      List.map_congr_left fun x hx => freeB_ok d x (List.all_eq_true.1 hl x hx) e e' he
    have hne : ∀ {b : Nat}, (!Nat.beq b p) = true → b ≠ p := fun {b} hb e => by
      subst e
      rw [Nat.beq_refl] at hb; cases hb
    cases v <;> simp only [freeB] at h <;> first | exact .plain rfl | skip
    case float k n => exact fun e e' _ => by simp [ren]
    case complex k x y => exact fun e e' _ => by simp [ren]
    case chan r => exact fun e e' _ => by simp [ren]
    case pointer a =>
      cases a with
      | none => exact .plain rfl
      | some a => exact fun e e' he => by rw [ren_ptr, ren_ptr, renA, renA, he _ (hne h)]
    case slice a l c =>
      cases a with
      | none => exact .plain rfl
      | some a =>
        intro e e' he
        have : renS e a l c = renS e' a l c := by unfold renS renA rcap; simp only [he _ (hne h)]
        rw [ren_sliceS, ren_sliceS, this]
    case map a =>
      cases a with
      | none => exact .plain rfl
      | some a => exact fun e e' he => by rw [ren_map, ren_map, he _ (hne h)]
    case iface t v => exact fun e e' he => by rw [ren_iface, ren_iface, freeB_ok d v h e e' he]
    case agg cs => exact fun e e' he => by rw [ren_agg, ren_agg]; congr 1; apply Array.ext'; simp only [Array.toList_map]; exact ihl _ h e e' he
    case tuple cs => exact fun e e' he => by rw [ren_tuple, ren_tuple]; congr 1; apply Array.ext'; simp only [Array.toList_map]; exact ihl _ h e e' he
    case func fn a b =>
      simp only [Bool.and_eq_true] at h
      exact fun e e' he => by
        rw [ren_func, ren_func]; congr 1
        · apply Array.ext'; simp only [Array.toList_map]; exact ihl _ h.1 e e' he
        · apply Array.ext'; simp only [Array.toList_map]; exact ihl _ h.2 e e' he

theorem map_free {p : Nat} {l : List Value} (h : ∀ v ∈ l, FreeV p v) {e e' : Nat → Loc} (he : ∀ j, j ≠ p → e j = e' j) : l.map (ren e) = l.map (ren e') := List.map_congr_left fun v hv => h v hv e e' he

/-- an object that does not name a place -/
def FreeO (p : Nat) : VObj → Prop
  | .cells _ c => ∀ v ∈ c, FreeV p v
  | .raw _ _ _ _ _ hs => ∀ h ∈ hs, ∀ v ∈ h.2, FreeV p v
  | .mp es _ => ∀ e ∈ es, FreeV p e.1 ∧ FreeV p e.2.1
  | _ => True
theorem freeO_ok {p : Nat} {o : VObj} (h : freeO p o = true) : FreeO p o := by
  cases o <;> try trivial
  case cells t c => exact fun v hv => freeB_ok 6 v (List.all_eq_true.1 h v hv)
  case raw t m n cap f hs => exact fun x hx v hv => freeB_ok 6 v (List.all_eq_true.1 (List.all_eq_true.1 h x hx) v hv)
  case mp es c => exact fun e he => by have := List.all_eq_true.1 h e he; rw [Bool.and_eq_true] at this; exact ⟨freeB_ok 6 _ this.1, freeB_ok 6 _ this.2⟩
theorem FreeO.of_sc {p n : Nat} {o : VObj} (h : ScO n o) (hn : n ≤ p) : FreeO p o := by
  cases o <;> try trivial
  case cells t c => exact fun v hv => .of_sc (h v hv) hn
  case raw t m k cap f hs => exact fun x hx v hv => .of_sc (h x hx v hv).1 hn
  case mp es c => exact fun e he => ⟨.of_sc (h e he).1 hn, .of_sc (h e he).2 hn⟩

theorem Mat.free {w : World} {e e' : Nat → Loc} {p n : Nat} {l : Loc} {o : VObj} (h : Mat e w l o) (hs : ScO n o) (hf : FreeO p o) (he : ∀ j, j ≠ p → e' j = e j) : Mat e' w l o := by
  have he' : ∀ j, j ≠ p → e j = e' j := fun j hj => (he j hj).symm
  cases o with
  | cells t c => obtain ⟨h1, h2⟩ := h; exact ⟨by rw [← map_free hf he']; exact h1, h2⟩
  | rows own t m k cap f =>
    obtain ⟨h1, h2, h3⟩ := h
    exact ⟨h1, fun r hr => ⟨(h2 r hr).1, by
      rw [← map_congr_sc (e := e) (fun v hv => (hs r hr v hv).1) (fun i hi => absurd hi (Nat.not_lt_zero i))]; exact (h2 r hr).2⟩, h3⟩
  | vec t m k f =>
    obtain ⟨h1, h2, h3⟩ := h
    refine ⟨h1, h2, fun hc => ?_⟩
    obtain ⟨h4, h5⟩ := h3 hc
    exact ⟨fun r hr => ⟨(h4 r hr).1, by
      rw [← map_congr_sc (e := e) (fun v hv => (hs r hr v hv).1) (fun i hi => absurd hi (Nat.not_lt_zero i))]; exact (h4 r hr).2⟩, h5⟩
  | iter s pos => exact h
  | arg t m k f => exact h
  | tab t m k f => exact h
  | raw t m k cap f hz =>
    obtain ⟨h0, h1, h2, h3, h4⟩ := h
    have hrow : ∀ r, rawRow e' f hz r = rawRow e f hz r := fun r => by
      unfold rawRow
      split
      · rename_i x hx
        exact (map_free (hf x (List.mem_of_find?_eq_some hx)) he').symm
      · rfl
    exact ⟨h0, h1, fun r hr => by rw [hrow r]; exact h2 r hr, h3, h4⟩
  | mp es c =>
    obtain ⟨h1, h2⟩ := h
    refine ⟨?_, h2⟩
    rw [h1]
    congr 3
    exact List.map_congr_left fun e hm => by simp only [renE]; rw [(hf e hm).1 _ _ he', (hf e hm).2 _ _ he']
  | mq g => exact h
  | dead => trivial

/-- a variable is made at a place that is dead -/
theorem RepW.allocAt {env : Nat → Loc} {V : VW} {w : World} (hR : RepW env V w) {p : Nat} (hp : V[p]? = some .dead) {t : TypeId} {c : List Value} (hc : c.all plainC = true) (hf : ∀ (j : Nat) (o : VObj), V[j]? = some o → FreeO p o) :
    RepW (fun j => if j = p then ⟨w.heap.size, 0, 1, 0⟩ else env j) (V.set p (.cells t c)) (w.alloc (.cells (c.map (ren env)).toArray t)) := by
  have get : ∀ {j : Nat} {o : VObj}, (V.set p (.cells t c))[j]? = some o → (j = p ∧ o = .cells t c) ∨ (j ≠ p ∧ V[j]? = some o) := by
    intro j o h
    rcases setV_get h with ⟨h1, h2, _⟩ | h
    · exact .inl ⟨h1, h2⟩
    · exact .inr h
  have hold : ∀ b, b < w.heap.size → (w.alloc (.cells (c.map (ren env)).toArray t)).heap[b]? = w.heap[b]? := fun b hb => heap_alloc_old w _ b hb
  have hsize : w.heap.size ≤ (w.alloc (.cells (c.map (ren env)).toArray t)).heap.size ∧ w.heap.size < (w.alloc (.cells (c.map (ren env)).toArray t)).heap.size := by
    have : w.heap.size < (w.alloc (.cells (c.map (ren env)).toArray t)).heap.size := (Array.getElem?_eq_some_iff.1 (heap_alloc_new w (.cells (c.map (ren env)).toArray t))).1
    exact ⟨Nat.le_of_lt this, this⟩
  refine ⟨fun j o hj => ?_, fun j o hj => ?_, fun j o hj hB => ?_, fun j k oj ok hj hk hjk hw hl hBj hBk => ?_, ?_, fun j o hj ho => ?_, Nat.le_trans hR.room hsize.1⟩
  · rcases get hj with ⟨rfl, rfl⟩ | ⟨hne, hj'⟩
    · show Mat _ _ (if j = j then _ else _) _
      rw [if_pos rfl]
      refine ⟨?_, rfl⟩
      show (w.alloc _).heap[w.heap.size]? = _
      rw [heap_alloc_new, map_ren_plain _ hc, map_ren_plain _ hc]
    · show Mat _ _ (if j = p then _ else _) _
      rw [if_neg hne]
      have h4 : Mat env (w.alloc (.cells (c.map (ren env)).toArray t)) (env j) o := (hR.mat j o hj').keep (fun hB => hold _ (hR.blk j o hj' hB)) (hR.sc j o hj') (fun _ _ => rfl)
      exact h4.free (hR.sc j o hj') (hf j o hj') fun j hj => if_neg hj
  · rw [List.length_set]
    rcases get hj with ⟨rfl, rfl⟩ | ⟨_, hj'⟩
    · exact fun v hv => .plain (List.all_eq_true.1 hc v hv)
    · exact hR.sc j o hj'
  · skip
    rcases get hj with ⟨rfl, rfl⟩ | ⟨hne, hj'⟩
    · rw [if_pos rfl]; exact hsize.2
    · rw [if_neg hne] at hB ⊢; exact Nat.lt_of_lt_of_le (hR.blk j o hj' hB) hsize.1
  · skip
    rcases get hj with ⟨rfl, rfl⟩ | ⟨hne, hj'⟩
    · rcases get hk with ⟨rfl, rfl⟩ | ⟨hne2, hk'⟩
      · exact absurd rfl hjk
      · rw [if_neg hne2] at hBk ⊢
        rw [if_pos rfl]
        have := hR.blk k ok hk' hBk
        show w.heap.size ≠ _
        omega
    · rcases get hk with ⟨rfl, rfl⟩ | ⟨hne2, hk'⟩
      · rw [if_neg hne] at hBj ⊢
        rw [if_pos rfl]
        have := hR.blk j oj hj' hBj
        show _ ≠ w.heap.size
        omega
      · rw [if_neg hne] at hBj ⊢
        rw [if_neg hne2] at hBk ⊢
        exact hR.sep j k oj ok hj' hk' hjk hw hl hBj hBk
  · exact WI.keep w _ (fun b hb => hold b (Nat.lt_of_lt_of_le hb hR.room)) hR.inv
  · skip
    rcases get hj with ⟨rfl, rfl⟩ | ⟨hne, hj'⟩
    · rw [if_pos rfl]; exact hR.room
    · rw [if_neg hne] at ho ⊢; exact hR.low j o hj' ho

/-! ### The places of the variables -/
theorem allocPl_spec : ∀ (os : List Oper) (i p : Nat), ∀ x ∈ allocPl P os i p, ∃ j o t c, x.1 = i + j ∧ os[j]? = some o ∧ allocOf P o = some (t, c) ∧ p ≤ x.2 ∧ (allocObs P os)[x.2 - p]? = some (.cells t c)
  | [], i, p, x, h => by simp [allocPl] at h
  | o :: os, i, p, x, h => by
    unfold allocPl at h
    split at h
    · rename_i tc htc
      rcases List.mem_cons.1 h with rfl | h
      · exact ⟨0, o, tc.1, tc.2, rfl, rfl, htc, Nat.le_refl _, by unfold allocObs; rw [htc]; simp⟩
      · obtain ⟨j, o', t, c, h1, h2, h3, h4, h5⟩ := allocPl_spec os (i + 1) (p + 1) x h
        refine ⟨j + 1, o', t, c, by omega, by simpa using h2, h3, by omega, ?_⟩
        unfold allocObs; rw [htc]
        rw [show x.2 - p = (x.2 - (p + 1)) + 1 by omega]
        simpa using h5
    · rename_i htc
      obtain ⟨j, o', t, c, h1, h2, h3, h4, h5⟩ := allocPl_spec os (i + 1) p x h
      refine ⟨j + 1, o', t, c, by omega, by simpa using h2, h3, h4, ?_⟩
      unfold allocObs; rw [htc]; exact h5

theorem allocPl_inj : ∀ (os : List Oper) (i p : Nat), ∀ x ∈ allocPl P os i p, ∀ y ∈ allocPl P os i p, (x.1 = y.1 ↔ x.2 = y.2)
  | [], i, p, x, h => by simp [allocPl] at h
  | o :: os, i, p, x, hx => by
    intro y hy
    unfold allocPl at hx hy
    split at hx
    · rename_i tc htc
      rw [htc] at hy
      dsimp only at hy
      rcases List.mem_cons.1 hx with rfl | hx <;> rcases List.mem_cons.1 hy with rfl | hy
      · exact ⟨fun _ => rfl, fun _ => rfl⟩
      · obtain ⟨j, _, _, _, h1, _, _, h4, _⟩ := allocPl_spec os (i + 1) (p + 1) y hy
        dsimp only
        constructor <;> intro h <;> omega
      · obtain ⟨j, _, _, _, h1, _, _, h4, _⟩ := allocPl_spec os (i + 1) (p + 1) x hx
        dsimp only
        constructor <;> intro h <;> omega
      · exact allocPl_inj os (i + 1) (p + 1) x hx y hy
    · rename_i htc
      rw [htc] at hy
      exact allocPl_inj os (i + 1) p x hx y hy

theorem allocPl_all : ∀ (os : List Oper) (i p k : Nat), k < (allocObs P os).length → ∃ i', (i', p + k) ∈ allocPl P os i p
  | [], i, p, k, h => by simp [allocObs] at h
  | o :: os, i, p, k, h => by
    unfold allocObs at h
    unfold allocPl
    split at h
    · rename_i t c htc
      rw [htc]
      dsimp only
      cases k with
      | zero => exact ⟨i, List.mem_cons_self⟩
      | succ k =>
        obtain ⟨i', h1⟩ := allocPl_all os (i + 1) (p + 1) k (by simpa using h)
        exact ⟨i', List.mem_cons_of_mem _ (by rw [show p + (k + 1) = p + 1 + k by omega]; exact h1)⟩
    · rename_i htc
      rw [htc]
      exact allocPl_all os (i + 1) p k h
theorem allocObs_free {q : Nat} : ∀ (os : List Oper) (o : VObj), o ∈ allocObs P os → FreeO q o
  | [], o, h => by simp [allocObs] at h
  | x :: os, o, h => by
    unfold allocObs at h
    split at h
    · rename_i t c htc
      rcases List.mem_cons.1 h with rfl | h
      · have : c.all plainC = true := by
          unfold allocOf at htc
          (repeat' split at htc) <;> first | (cases htc; done) | (cases htc; assumption)
        exact fun v hv => .plain (List.all_eq_true.1 this v hv)
      · exact allocObs_free os o h
    · exact allocObs_free os o h

/-- the memory, the places that are not made yet dead -/
def maskV (L : Nat → Bool) : List (Nat × Nat) → VW → VW
  | [], V => V
  | x :: r, V => maskV L r (match L x.1 with | true => V | false => V.set x.2 .dead)

theorem maskV_len (L : Nat → Bool) : ∀ (al : List (Nat × Nat)) (V : VW), (maskV L al V).length = V.length
  | [], V => rfl
  | x :: r, V => by
    unfold maskV
    rw [maskV_len]
    split
    · rfl
    · rw [List.length_set]
theorem maskV_ne (L : Nat → Bool) : ∀ (al : List (Nat × Nat)) (V : VW) (b : Nat), (∀ x ∈ al, x.2 = b → L x.1 = true) → (maskV L al V)[b]? = V[b]?
  | [], V, b, _ => rfl
  | x :: r, V, b, h => by
    unfold maskV
    rw [maskV_ne L r _ b fun y hy => h y (List.mem_cons_of_mem _ hy)]
    split
    · rfl
    · rename_i hL
      rw [List.getElem?_set, if_neg (fun e => by rw [h x List.mem_cons_self e] at hL; cases hL)]
theorem maskV_dead (L : Nat → Bool) : ∀ (al : List (Nat × Nat)) (V : VW) (b : Nat), b < V.length → (∃ x ∈ al, x.2 = b ∧ L x.1 = false) → (maskV L al V)[b]? = some .dead
  | [], V, b, _, h => by obtain ⟨x, hx, _⟩ := h; cases hx
  | x :: r, V, b, hb, h => by
    unfold maskV
    by_cases hr : ∃ y ∈ r, y.2 = b ∧ L y.1 = false
    · exact maskV_dead L r _ b (by split; exact hb; rw [List.length_set]; exact hb) hr
    · rw [maskV_ne L r _ b fun y hy he => by
        cases hl : L y.1 with
        | true => rfl
        | false => exact absurd ⟨y, hy, he, hl⟩ hr]
      obtain ⟨y, hy, he, hl⟩ := h
      rcases List.mem_cons.1 hy with rfl | hy
      · rw [hl, List.getElem?_set, if_pos he, if_pos (by rw [he]; exact hb)]
      · exact absurd ⟨y, hy, he, hl⟩ hr

theorem allocOf_facts {o : Oper} {t : TypeId} {c : List Value} (h : allocOf P o = some (t, c)) : o.guard = none ∧ c.all plainC = true ∧ ∀ S, xop P S o.op = .alc t c := by
  unfold allocOf at h
  split at h
  · rename_i t' hg ho
    split at h
    · rename_i i hi
      split at h
      · rename_i z hz
        split at h
        · rename_i h1 h2
          cases h
          refine ⟨hg, h1, fun S => ?_⟩
          simp only [xop, ho, hi, hz, h1, h2]
        · cases h
      · cases h
    · cases h
  · cases h

/-! ### The run in the text's order -/
def allocE (o : Oper) (p : Nat) : TE := ⟨o.dst, .pointer (some ⟨p, 0, none⟩), none, none, []⟩
def PathA (P : Program) (C : Ctx) (all : List Oper) : List Oper → Nat → VSt → List TE → VSt → Prop
  | [], _, S, es, Sn => es = [] ∧ Sn = S
  | o :: os, p, S, es, Sn =>
    match allocOf P o with
    | some _ => ∃ es', es = allocE o p :: es' ∧ PathA P C all os (p + 1) ((allocE o p).apply S) es' Sn
    | none => ∃ e es', es = e :: es' ∧ EStep P C all S o e ∧ PathA P C all os p (e.apply S) es' Sn

theorem drawGoA_path (all : List Oper) : ∀ (os : List Oper) (p : Nat) (S : VSt) (tr : List TE) (k : VSt → List TE → Prop), drawGoA P C all os p S tr k →
    ∃ es Sn, PathA P C all os p S es Sn ∧ k Sn (tr ++ es)
  | [], p, S, tr, k, h => ⟨[], S, ⟨rfl, rfl⟩, by rw [List.append_nil]; exact h⟩
  | o :: os, p, S, tr, k, h => by
    unfold drawGoA at h
    unfold PathA
    split at h
    · rename_i tc htc
      obtain ⟨_, h⟩ := norm_spec h
      have h' : appK tr (allocE o p) (fun tr' => drawGoA P C all os (p + 1) ((allocE o p).apply S) tr' k) := by
        unfold TE.apply allocE
        dsimp only
        cases hd : o.dst with
        | none => simp only [hd, List.append_nil] at h ⊢; exact h
        | some d => simp only [hd, setK_eq, List.append_nil] at h ⊢; exact h
      rw [appK_eq] at h'
      obtain ⟨es, Sn, hp, hk⟩ := drawGoA_path all os _ _ _ k h'
      exact ⟨allocE o p :: es, Sn, by rw [htc]; exact ⟨es, rfl, hp⟩, by simpa using hk⟩
    · rename_i htc
      have run : Wants all S o → drawOne P C S o (fun S' e => appK tr e fun tr' => drawGoA P C all os p S' tr' k) → ∃ es Sn, (∃ e es', es = e :: es' ∧ EStep P C all S o e ∧ PathA P C all os p (e.apply S) es' Sn) ∧ k Sn (tr ++ es) := by
        intro hw h
        obtain ⟨e, hr, h⟩ := drawOne_ok h
        rw [appK_eq] at h
        obtain ⟨es, Sn, hp, hk⟩ := drawGoA_path all os _ _ _ k h
        exact ⟨e :: es, Sn, ⟨e, es, rfl, .inl ⟨hw, hr⟩, hp⟩, by simpa using hk⟩
      have skip : Skips all S o → skipK S o (fun S' => appK tr ⟨o.dst, undef, none, none, []⟩ fun tr' => drawGoA P C all os p S' tr' k) → ∃ es Sn, (∃ e es', es = e :: es' ∧ EStep P C all S o e ∧ PathA P C all os p (e.apply S) es' Sn) ∧ k Sn (tr ++ es) := by
        intro hw h
        have h := skipE h
        rw [appK_eq] at h
        obtain ⟨es, Sn, hp, hk⟩ := drawGoA_path all os _ _ _ k h
        exact ⟨_ :: es, Sn, ⟨_, es, rfl, .inr ⟨hw, rfl⟩, hp⟩, by simpa using hk⟩
      rw [htc]
      dsimp only
      split at h
      · rename_i hg; exact run (.inl hg) h
      · rename_i j want hg
        split at h
        · exact h.elim
        · rename_i g hgt
          split at h
          · rename_i b hb
            split at h
            · rcases bsplit_spec h with ⟨rfl, h'⟩ | ⟨rfl, h'⟩
              · rw [setK_eq, set_self hb] at h'; exact run (.inr ⟨j, true, g, hg, hgt, hb⟩) h'
              · rw [setK_eq, set_self hb] at h'; exact skip ⟨j, true, g, hg, hgt, .inl hb⟩ h'
            · rcases bsplit_spec h with ⟨rfl, h'⟩ | ⟨rfl, h'⟩
              · rw [setK_eq, set_self hb] at h'; exact skip ⟨j, false, g, hg, hgt, .inl hb⟩ h'
              · rw [setK_eq, set_self hb] at h'; exact run (.inr ⟨j, false, g, hg, hgt, hb⟩) h'
          · rename_i hu; exact skip ⟨j, want, g, hg, hgt, .inr hu⟩ h
          · exact h.elim

theorem EStep.st_rd {all : List Oper} {S : VSt} {o : Oper} {e : TE} (h : EStep P C all S o e) {b : Nat} {ob : VObj} (hs : e.st = some (b, ob)) : e.rd = some none ∨ e.rd = some (some b) :=
  (Path.lens [o] S [e] (e.apply S) ⟨e, [], rfl, h, rfl, rfl⟩).2 0 e b ob rfl hs

theorem PathA.lens {all : List Oper} : ∀ (os : List Oper) (p : Nat) (S : VSt) (es : List TE) (Sn : VSt), PathA P C all os p S es Sn →
    os.length = es.length ∧ ∀ (j : Nat) (e : TE) (b : Nat) (o : VObj), es[j]? = some e → e.st = some (b, o) → e.rd = some none ∨ e.rd = some (some b)
  | [], p, S, es, Sn, h => by obtain ⟨rfl, _⟩ := h; exact ⟨rfl, fun j e b o h => by simp at h⟩
  | o :: os, p, S, es, Sn, h => by
    unfold PathA at h
    split at h
    · obtain ⟨es', rfl, hp⟩ := h
      obtain ⟨h1, h2⟩ := PathA.lens os _ _ _ _ hp
      refine ⟨by simp [h1], fun j e' b o' hj hst => ?_⟩
      cases j with
      | zero => simp at hj; subst hj; cases hst
      | succ j => exact h2 j e' b o' (by simpa using hj) hst
    · obtain ⟨e, es', rfl, hs, hp⟩ := h
      obtain ⟨h1, h2⟩ := PathA.lens os _ _ _ _ hp
      refine ⟨by simp [h1], fun j e' b o' hj hst => ?_⟩
      cases j with
      | zero => simp at hj; subst hj; exact hs.st_rd hst
      | succ j => exact h2 j e' b o' (by simpa using hj) hst

theorem PathA.states {ops : Array Oper} {tr : List TE} {S0 : VSt} {AL : List (Nat × Nat)} (hT : Tr ops tr S0.tmps.length S0.V.length)
    (hst : ∀ (j : Nat) (e : TE) (b : Nat) (o : VObj), tr[j]? = some e → e.st = some (b, o) → e.rd = some none ∨ e.rd = some (some b)) :
    ∀ (os : List Oper) (n p : Nat) (S : VSt) (es : List TE) (Sn : VSt), (∀ x ∈ allocPl P os n p, x ∈ AL) → (∀ j, os[j]? = ops[n + j]?) → (∀ j, es[j]? = tr[n + j]?) → IsL tr S0 (fun j => Nat.blt j n) S → PathA P C ops.toList os p S es Sn →
      (∀ (i : Nat) (o : Oper) (e : TE), n ≤ i → ops[i]? = some o → tr[i]? = some e → ∃ Si, IsL tr S0 (fun j => Nat.blt j i) Si ∧ (allocOf P o = none → EStep P C ops.toList Si o e) ∧ (allocOf P o ≠ none → ∃ q, (i, q) ∈ AL ∧ e = allocE o q)) ∧ IsL tr S0 (fun j => Nat.blt j (n + os.length)) Sn
  | [], n, p, S, es, Sn, _, ho, he, hS, h => by
    obtain ⟨rfl, rfl⟩ := h
    refine ⟨fun i o e hi hoi _ => ?_, by simpa using hS⟩
    have := ho (i - n)
    rw [show n + (i - n) = i by omega, hoi] at this
    simp at this
  | o :: os, n, p, S, es, Sn, hal, ho, he, hS, h => by
    have hnn : Nat.blt n n = false := by
      cases hb : Nat.blt n n with
      | false => rfl
      | true => rw [Nat.blt_eq] at hb; omega
    have hop : ops[n]? = some o := by simpa using (ho 0).symm
    have hstep : ∀ e, tr[n]? = some e → IsL tr S0 (fun j => Nat.blt j (n + 1)) (e.apply S) := fun e htr => hS.step hT htr hnn hst (fun _ j ej hj _ _ => by
      cases hb : Nat.blt j n with
      | false => rfl
      | true => rw [Nat.blt_eq] at hb; omega) (fun j => by
      rw [Bool.eq_iff_iff]
      simp only [Nat.blt_eq, Bool.or_eq_true]
      constructor
      · intro hj
        rcases Nat.lt_or_ge j n with h | h
        · exact .inl h
        · right; have : j = n := by omega
          subst this; exact Nat.beq_refl _
      · rintro (h | h)
        · omega
        · have := Nat.eq_of_beq_eq_true h; omega)
    have go : ∀ (e : TE) (es' : List TE) (q : Nat), es = e :: es' → (∀ x ∈ allocPl P os (n + 1) q, x ∈ AL) → PathA P C ops.toList os q (e.apply S) es' Sn → ((allocOf P o = none → EStep P C ops.toList S o e) ∧ (allocOf P o ≠ none → ∃ q, (n, q) ∈ AL ∧ e = allocE o q)) →
        (∀ (i : Nat) (o : Oper) (e : TE), n ≤ i → ops[i]? = some o → tr[i]? = some e → ∃ Si, IsL tr S0 (fun j => Nat.blt j i) Si ∧ (allocOf P o = none → EStep P C ops.toList Si o e) ∧ (allocOf P o ≠ none → ∃ q, (i, q) ∈ AL ∧ e = allocE o q)) ∧ IsL tr S0 (fun j => Nat.blt j (n + (o :: os).length)) Sn := by
      intro e es' q hes hal' hp hone
      subst hes
      have htr : tr[n]? = some e := by simpa using (he 0).symm
      obtain ⟨h1, h2⟩ := PathA.states hT hst os (n + 1) q _ es' Sn hal' (fun j => by have := ho (j + 1); simpa [Nat.add_assoc, Nat.add_comm 1 j] using this)
        (fun j => by have := he (j + 1); simpa [Nat.add_assoc, Nat.add_comm 1 j] using this) (hstep e htr) hp
      refine ⟨fun i oi ei hi hoi hei => ?_, by simpa [Nat.add_assoc, Nat.add_comm 1] using h2⟩
      by_cases hin : i = n
      · subst hin
        rw [hop] at hoi; cases hoi
        rw [htr] at hei; cases hei
        exact ⟨S, hS, hone⟩
      · exact h1 i oi ei (by omega) hoi hei
    unfold PathA at h
    split at h
    · rename_i tc htc
      obtain ⟨es', hes, hp⟩ := h
      have hal2 : ∀ x ∈ (n, p) :: allocPl P os (n + 1) (p + 1), x ∈ AL := by
        intro x hx
        refine hal x ?_
        unfold allocPl; rw [htc]; exact hx
      exact go _ es' (p + 1) hes (fun x hx => hal2 x (List.mem_cons_of_mem _ hx)) hp ⟨(fun hn => by rw [htc] at hn; cases hn), fun _ => ⟨p, hal2 _ List.mem_cons_self, rfl⟩⟩
    · rename_i htc
      obtain ⟨e, es', hes, hs, hp⟩ := h
      have hal2 : ∀ x ∈ allocPl P os (n + 1) p, x ∈ AL := by
        intro x hx
        refine hal x ?_
        unfold allocPl; rw [htc]; exact hx
      exact go e es' p hes hal2 hp ⟨fun _ => hs, fun hn => absurd htc hn⟩

theorem newFrom_mem {L : Nat → Bool} {o : VObj} : ∀ (l : List TE) (k : Nat), o ∈ newFrom l k L → ∃ j e, l[j]? = some e ∧ L (k + j) = true ∧ o ∈ e.nw
  | [], k, h => by simp [newFrom] at h
  | e :: es, k, h => by
    unfold newFrom at h
    rcases List.mem_append.1 h with h | h
    · cases hl : L k with
      | true => rw [hl] at h; exact ⟨0, e, rfl, hl, h⟩
      | false => rw [hl] at h; cases h
    · obtain ⟨j, e', h1, h2, h3⟩ := newFrom_mem es (k + 1) h
      exact ⟨j + 1, e', by simpa using h1, by rw [show k + (j + 1) = k + 1 + j by omega]; exact h2, h3⟩

theorem apartsOk_ok {ms : List Nat} {i p : Nat} : ∀ (l : List TE) (k : Nat), apartsOk ms i p l k = true → ∀ j e, l[j]? = some e → apartOk ms i p (k + j) e = true
  | [], k, _, j, e, h => by simp at h
  | x :: xs, k, h, j, e, hj => by
    simp only [apartsOk, Bool.and_eq_true] at h
    cases j with
    | zero => simp at hj; subst hj; exact h.1
    | succ j =>
      have := apartsOk_ok xs (k + 1) h.2 j e (by simpa using hj)
      rwa [show k + (j + 1) = k + 1 + j by omega]

/-- what an operation that is apart from a place does not do -/
structure ApartE (p : Nat) (e : TE) : Prop where
  v : FreeV p e.v
  st : ∀ b o, e.st = some (b, o) → b ≠ p ∧ FreeO p o
  rd : e.rd ≠ some none ∧ e.rd ≠ some (some p)
  nw : ∀ o ∈ e.nw, FreeO p o

theorem apart_of {ops : Array Oper} {i p j : Nat} {e : TE} (h : apartOk (masks ops.toList []) i p j e = true) : j = i ∨ Reach ops j i ∨ ApartE p e := by
  unfold apartOk at h
  split at h
  · exact .inl (Nat.eq_of_beq_eq_true (by assumption))
  · split at h
    · exact .inr (.inl (masks_ok ops.toList [] (by simp) (by simp) _ _ (by assumption)))
    · simp only [Bool.and_eq_true] at h
      obtain ⟨⟨⟨h1, h2⟩, h3⟩, h4⟩ := h
      refine .inr (.inr ⟨freeB_ok 6 _ h1, fun b o hs => ?_, ⟨fun hr => ?_, fun hr => ?_⟩, fun o ho => freeO_ok (List.all_eq_true.1 h4 o ho)⟩)
      · rw [hs] at h2
        simp only [Bool.and_eq_true] at h2
        refine ⟨fun e => ?_, freeO_ok h2.2⟩
        subst e
        have h5 := h2.1
        rw [Nat.beq_refl] at h5; cases h5
      · rw [hr] at h3; cases h3
      · rw [hr] at h3
        dsimp only at h3
        rw [Nat.beq_refl] at h3; cases h3

theorem mask_set {L : Nat → Bool} {b : Nat} {o : VObj} : ∀ (al : List (Nat × Nat)) (V : VW), (∀ x ∈ al, x.2 = b → L x.1 = true) → maskV L al (V.set b o) = (maskV L al V).set b o
  | [], V, _ => rfl
  | x :: r, V, h => by
    unfold maskV
    cases hl : L x.1 with
    | true => exact mask_set r V fun y hy => h y (List.mem_cons_of_mem _ hy)
    | false =>
      dsimp only
      have hne : x.2 ≠ b := fun e => by rw [h x List.mem_cons_self e] at hl; cases hl
      rw [List.set_comm _ _ (Ne.symm hne)]
      exact mask_set r (V.set x.2 .dead) fun y hy => h y (List.mem_cons_of_mem _ hy)
theorem mask_append {L : Nat → Bool} {nw : VW} : ∀ (al : List (Nat × Nat)) (V : VW), (∀ x ∈ al, x.2 < V.length) → maskV L al (V ++ nw) = maskV L al V ++ nw
  | [], V, _ => rfl
  | x :: r, V, h => by
    unfold maskV
    cases hl : L x.1 with
    | true => exact mask_append r V fun y hy => h y (List.mem_cons_of_mem _ hy)
    | false =>
      dsimp only
      rw [List.set_append_left _ _ (h x List.mem_cons_self)]
      exact mask_append r (V.set x.2 .dead) fun y hy => by rw [List.length_set]; exact h y (List.mem_cons_of_mem _ hy)
theorem mask_congrL {L L' : Nat → Bool} : ∀ (al : List (Nat × Nat)) (V : VW), (∀ x ∈ al, L' x.1 = L x.1) → maskV L' al V = maskV L al V
  | [], V, _ => rfl
  | x :: r, V, h => by
    unfold maskV
    rw [h x List.mem_cons_self]
    exact mask_congrL r _ fun y hy => h y (List.mem_cons_of_mem _ hy)

theorem mask_apply {L L' : Nat → Bool} {al : List (Nat × Nat)} {S : VSt} {e : TE} (hL : ∀ x ∈ al, L' x.1 = L x.1) (hp : ∀ x ∈ al, x.2 < S.V.length) (hst : ∀ b o, e.st = some (b, o) → ∀ x ∈ al, x.2 = b → L x.1 = true) :
    (⟨(e.apply S).tmps, maskV L' al (e.apply S).V⟩ : VSt) = e.apply ⟨S.tmps, maskV L al S.V⟩ := by
  have hV : maskV L' al (e.apply S).V = (e.apply ⟨S.tmps, maskV L al S.V⟩).V := by
    obtain ⟨d, v, st, rd, nw⟩ := e
    unfold TE.apply
    cases st with
    | none =>
      dsimp only
      rw [mask_append al _ hp, mask_congrL al _ hL]
    | some y =>
      obtain ⟨b, o⟩ := y
      dsimp only
      rw [mask_append al _ (fun x hx => by rw [List.length_set]; exact hp x hx), mask_congrL al _ hL, mask_set al _ (hst b o rfl)]
  rw [hV]
  rfl

theorem mask_made {L L' : Nat → Bool} {al : List (Nat × Nat)} {V : VW} {i p : Nat} {o : VObj} (hinj : ∀ x ∈ al, ∀ y ∈ al, (x.1 = y.1 ↔ x.2 = y.2)) (hip : (i, p) ∈ al) (hL : ∀ j, L' j = (L j || Nat.beq j i)) (hlt : ∀ x ∈ al, x.2 < V.length) (ho : V[p]? = some o) :
    maskV L' al V = (maskV L al V).set p o := by
  have hi : L' i = true := by rw [hL, Nat.beq_refl, Bool.or_true]
  apply List.ext_getElem?
  intro b
  rw [List.getElem?_set, maskV_len]
  by_cases hbp : p = b
  · subst hbp
    rw [if_pos rfl, if_pos (hlt _ hip), maskV_ne L' al V p fun x hx hb => by rw [(hinj x hx _ hip).2 hb]; exact hi, ho]
  · rw [if_neg hbp]
    by_cases hd : ∃ x ∈ al, x.2 = b ∧ L x.1 = false
    · obtain ⟨x, hx, hb, hl⟩ := hd
      have hbl : b < V.length := by rw [← hb]; exact hlt x hx
      have hne : x.1 ≠ i := fun e => hbp (by rw [← hb]; exact ((hinj x hx _ hip).1 e).symm)
      rw [maskV_dead L' al V b hbl ⟨x, hx, hb, by rw [hL, hl, beq_ne hne]; rfl⟩, maskV_dead L al V b hbl ⟨x, hx, hb, hl⟩]
    · have hno : ∀ x ∈ al, x.2 = b → L x.1 = true := fun x hx hb => by
        cases hl : L x.1 with
        | true => rfl
        | false => exact absurd ⟨x, hx, hb, hl⟩ hd
      rw [maskV_ne L al V b hno, maskV_ne L' al V b fun x hx hb => by rw [hL, hno x hx hb]; rfl]

/-- an operation sees only what it reads -/
theorem Runs.congr {S S' : VSt} {o : Oper} {e : TE} (h : Runs P C S o e) (hT : S.tmps = S'.tmps) (hl : S.V.length = S'.V.length) (hmem : ∀ r, e.rd = some r → match r with | none => S.V = S'.V | some b => S.V[b]? = S'.V[b]?) : Runs P C S' o e := by
  have hops : ∀ x ∈ o.op.operands, ev S x = ev S' x := fun x _ => by
    cases x with
    | tmp t => simp only [ev, hT]
    | _ => rfl
  rcases or_assoc7 h with h7 | ⟨f, args, g, v, q1, q2, q3, q4, q5, q6⟩ | hr
  rotate_left
  · exact .inr (.inr (.inr (.inr (.inr (.inr (.inr (.inl ⟨f, args, g, v, xop_call_congr hops q1, q2, q3, q4, q5, q6⟩)))))))
  · have hrd : e.rd = mrd S o.op := by rcases hr with ⟨_, _, _, _, _, _, _, _, _, _, _, _, _, _, _, rfl⟩ | ⟨_, _, _, _, _, _, _, rfl⟩ | ⟨_, _, _, _, rfl⟩ | ⟨_, _, _, _, _, _, _, rfl⟩ <;> rfl
    have hmem' : ∀ r, mrd S o.op = some r → match r with | none => S.V = S'.V | some b => S.V[b]? = S'.V[b]? := fun r hr => hmem r (hrd.trans hr)
    have hxr := xraw_congr (P := P) hops hmem'
    obtain ⟨hxop, hm'⟩ := xop_congr (P := P) hops hmem'
    refine .inr (.inr (.inr (.inr (.inr (.inr (.inr (.inr ?_)))))))
    rcases hr with ⟨q, i', r, c, own, t, m, n, cap, f, hx1, hq, hd, hV, hsc, rfl⟩ | ⟨q, i', ob, hx1, hq, hd, hsc, rfl⟩ | ⟨ob, n, hx1, hsc, rfl⟩ | ⟨q, i', ob, n, hx1, hq, hsc, rfl⟩
    · have h5 := hmem' (some i') (sob_facts hx1)
      exact .inl ⟨q, i', r, c, own, t, m, n, cap, f, hxop ▸ hx1, hq, hd, by rw [← h5]; exact hV, hsc, by rw [hm']⟩
    · exact .inr (.inl ⟨q, i', ob, hxr ▸ hx1, hq, hd, hl ▸ hsc, by rw [hm']⟩)
    · exact .inr (.inr (.inl ⟨ob, n, hxr ▸ hx1, hl ▸ hsc, by rw [hm', hl]⟩))
    · exact .inr (.inr (.inr ⟨q, i', ob, n, hxr ▸ hx1, hq, hl ▸ hsc, by rw [hm', hl]⟩))
  · have hrd : e.rd = mrd S o.op := by rcases h7 with ⟨v, _, _, rfl⟩ | ⟨_, _, _, _, _, _, rfl⟩ | ⟨_, _, _, _, rfl⟩ | ⟨_, _, _, _, _, _, rfl⟩ | ⟨_, _, _, _, _, rfl⟩ | ⟨_, _, _, _, _, _, _, rfl⟩ | ⟨_, _, _, _, _, _, _, rfl⟩ <;> rfl
    have hmem' : ∀ r, mrd S o.op = some r → match r with | none => S.V = S'.V | some b => S.V[b]? = S'.V[b]? := fun r hr => hmem r (hrd.trans hr)
    obtain ⟨hx, hm'⟩ := xval_congr (P := P) (C := C) hops hmem'
    rcases h7 with ⟨v, hg, hs, rfl⟩ | ⟨i', t, c, hxx, hd, hsc, rfl⟩ | ⟨t, c, hxx, hsc, rfl⟩ | ⟨p, os, v, hxx, hp, hs, rfl⟩ | ⟨t, m, rows, hxx, hsc, rfl⟩ | ⟨p, i', ob, v, hxx, hp, hs, rfl⟩ | ⟨p, i', ob, v, hxx, hp, hs, rfl⟩
    · exact .inl ⟨v, hx ▸ hg, hl ▸ hs, by rw [hm']⟩
    · exact .inr (.inl ⟨i', t, c, hx ▸ hxx, hd, fun x hxc => hl ▸ hsc x hxc, by rw [hm']⟩)
    · exact .inr (.inr (.inl ⟨t, c, hx ▸ hxx, fun x hxc => hl ▸ hsc x hxc, by rw [hm', hl]⟩))
    · exact .inr (.inr (.inr (.inl ⟨p, os, v, hx ▸ hxx, hp, by rw [List.length_append, ← hl, ← List.length_append]; exact hs, by rw [hm']⟩)))
    · exact .inr (.inr (.inr (.inr (.inl ⟨t, m, rows, hx ▸ hxx, hsc, by rw [hm', hl]⟩))))
    · exact .inr (.inr (.inr (.inr (.inr (.inl ⟨p, i', ob, v, hx ▸ hxx, hp, hl ▸ hs, by rw [hm', hl]⟩)))))
    · exact .inr (.inr (.inr (.inr (.inr (.inr (.inl ⟨p, i', ob, v, hx ▸ hxx, hp, hl ▸ hs, by rw [hm']⟩))))))

theorem draw2_wp (hC : CtxOK P C) {env : Nat → Loc} {id : Nat} {ops : Array Oper} {S : VSt} {a : Act} {w : World} {k : VSt → Prop} {Q : Exit → Act → World → Prop} (hm : P.follows .mixedOrders = true) (hR : Rep env S a w)
    (h : xdraw2 P C ops.toList S k) (next : ∀ env' a' w' S', Fr env S.V w env' S'.V w' → Rep env' S' a' w' → k S' → Q .normal a' w') : (Code.region id ops true).wp P Q a w := by
  unfold xdraw2 at h
  rw [appsK_eq] at h
  obtain ⟨tr, Sn, hpath, hk⟩ := drawGoA_path ops.toList ops.toList _ _ [] _ h
  rw [List.nil_append] at hk
  split at hk
  case' h_2 => exact hk.elim
  rename_i hchk hachk
  obtain ⟨S0, hS0⟩ : ∃ S0 : VSt, S0 = ⟨S.tmps, S.V ++ allocObs P ops.toList⟩ := ⟨_, rfl⟩
  obtain ⟨al, hal⟩ : ∃ al, al = allocPl P ops.toList 0 S.V.length := ⟨_, rfl⟩
  have hT0 : S0.tmps = S.tmps := by rw [hS0]
  have hV0 : S0.V = S.V ++ allocObs P ops.toList := by rw [hS0]
  rw [← hS0] at hpath
  have hT : Tr ops tr S0.tmps.length S0.V.length := by
    rw [hT0, hV0]; exact Tr.of hchk
  rw [← hal] at hachk
  obtain ⟨hlen, hst⟩ := PathA.lens _ _ _ _ _ hpath
  have hb0 : ∀ j, Nat.blt j 0 = false := fun j => rfl
  have hn0 : newObjs tr (fun j => Nat.blt j 0) = [] := newFrom_none tr 0 fun j _ _ _ => hb0 _
  have h0 : IsL tr S0 (fun j => Nat.blt j 0) S0 := ⟨rfl, (by rw [hn0]; rfl), fun j e t _ hL => (by rw [hb0] at hL; cases hL), fun _ _ => rfl, fun j e b o _ hL => (by rw [hb0] at hL; cases hL), fun _ _ _ => rfl,
    fun b hb => (by rw [hn0, List.getElem?_eq_none hb]; simp)⟩
  obtain ⟨hstates, hfinal⟩ := PathA.states (AL := al) hT hst ops.toList 0 S.V.length S0 tr Sn (fun x hx => hal ▸ hx) (by simp) (by simp) h0 hpath
  -- the places of the variables
  have hsp : ∀ x ∈ al, ∃ j o t c, x.1 = j ∧ ops.toList[j]? = some o ∧ allocOf P o = some (t, c) ∧ S.V.length ≤ x.2 ∧ S0.V[x.2]? = some (.cells t c) ∧ x.2 < S0.V.length := by
    intro x hx
    rw [hal] at hx
    obtain ⟨j, o, t, c, h1, h2, h3, h4, h5⟩ := allocPl_spec _ _ _ x hx
    have h6 : S0.V[x.2]? = some (.cells t c) := by rw [hV0, List.getElem?_append_right h4]; exact h5
    exact ⟨j, o, t, c, by omega, h2, h3, h4, h6, (List.getElem?_eq_some_iff.1 h6).1⟩
  have hinj : ∀ x ∈ al, ∀ y ∈ al, (x.1 = y.1 ↔ x.2 = y.2) := by rw [hal]; exact allocPl_inj _ _ _
  have hap : ∀ x ∈ al, ∀ (j : Nat) (e : TE), tr[j]? = some e → j = x.1 ∨ Reach ops j x.1 ∨ ApartE x.2 e := by
    intro x hx j e hj
    have h1 := List.all_eq_true.1 hachk x hx
    have h2 := apartsOk_ok tr 0 h1 j e hj
    rw [Nat.zero_add] at h2
    exact apart_of h2
  refine wp_region_any hm ?_
  have main : ∀ (fuel : Nat) (listed : Array Bool) (env1 : Nat → Loc) (a1 : Act) (w1 : World) (S1 : VSt), listed.size = ops.size → listed.toList.count false = fuel →
      (∀ j o, ops[j]? = some o → listed.getD j false = true → ∀ e ∈ o.after, Region.binds .any e = true → listed.getD e.on false = true) →
      IsL tr S0 (fun j => listed.getD j false) S1 → Rep env1 ⟨S1.tmps, maskV (fun j => listed.getD j false) al S1.V⟩ a1 w1 → Fr env S.V w env1 (maskV (fun j => listed.getD j false) al S1.V) w1 → wpAny P .any ops Q fuel listed a1 w1 := by
      intro fuel
      induction fuel with
      | zero =>
        intro listed env1 a1 w1 S1 hsz hcnt hdc hS1 hR1 hF1
        have hall : ∀ j, j < ops.size → listed.getD j false = true := by
          intro j hj
          have hj' : j < listed.size := by omega
          have hnot : false ∉ listed.toList := List.count_eq_zero.1 hcnt
          have : listed[j] ≠ false := fun hf => hnot (by rw [← hf]; simp)
          simp [hj', this]
        have hready : Region.ready .any ops listed = [] := by
          rw [List.eq_nil_iff_forall_not_mem]
          intro j hj
          obtain ⟨hun, o, ho, _⟩ := mem_ready.1 hj
          have hlt := (Array.getElem?_eq_some_iff.1 ho).1
          have := hall j hlt
          have hj' : j < listed.size := by omega
          simp [hj'] at this hun
          simp [this] at hun
        refine ⟨hready, ?_⟩
        have e1 : S1 = Sn := by
          refine (hS1.congr (L' := fun _ => true) fun j hj => hall j (by rw [← hT.size]; exact hj)).unique (hfinal.congr fun j hj => ?_)
          simp only [Nat.zero_add]
          exact bltI (by rw [hlen]; exact hj)
        have e2 : maskV (fun j => listed.getD j false) al S1.V = S1.V := List.ext_getElem? fun b => maskV_ne _ al _ b fun x hx _ => by
          obtain ⟨j, o', t, c, h1, h2, _⟩ := hsp x hx
          have hj := (List.getElem?_eq_some_iff.1 h2).1
          exact hall x.1 (by rw [h1]; simpa using hj)
        rw [e2] at hR1 hF1
        exact next env1 a1 w1 S1 hF1 hR1 (e1 ▸ hk)
      | succ fuel ih =>
        intro listed env1 a1 w1 S1 hsz hcnt hdc hS1 hR1 hF1
        refine ⟨fun hready => ?_, fun i hi => ?_⟩
        · exfalso
          have hex : ∃ j, j < ops.size ∧ listed.getD j true = false := by
            have hmem : false ∈ listed.toList := List.count_pos_iff.1 (by omega)
            obtain ⟨j, hj, he⟩ := List.getElem_of_mem hmem
            have hj' : j < listed.size := by simpa using hj
            refine ⟨j, by omega, ?_⟩
            have : listed[j] = false := by simpa using he
            simp [hj', this]
          obtain ⟨j, hj, hun⟩ := hex
          have key : ∀ (n j : Nat), j < n → j < ops.size → listed.getD j true = false → False := by
            intro n
            induction n with
            | zero => intro j hj; omega
            | succ n ihn =>
              intro j hjn hj hun
              have ho : ops[j]? = some ops[j] := by simp [hj]
              by_cases hp : ∀ e ∈ ops[j].after, Region.binds .any e = true → listed.getD e.on false = true
              · have : j ∈ Region.ready .any ops listed := mem_ready.2 ⟨hun, ops[j], ho, hp⟩
                rw [hready] at this; cases this
              · have : ∃ e ∈ ops[j].after, Region.binds .any e = true ∧ listed.getD e.on false = false := by
                  refine Classical.byContradiction fun hno => hp fun e he hb => ?_
                  cases hl : listed.getD e.on false with
                  | true => rfl
                  | false => exact absurd ⟨e, he, hb, hl⟩ hno
                obtain ⟨e, he, hb, hl⟩ := this
                have hlt := hT.edges j ops[j] ho e he hb
                refine ihn e.on (by omega) (by omega) ?_
                have hs : e.on < listed.size := by omega
                simp [hs] at hl ⊢
                exact hl
          exact key (j + 1) j (by omega) hj hun
        · obtain ⟨hun, o, ho, hpre⟩ := mem_ready.1 hi
          have hilt := (Array.getElem?_eq_some_iff.1 ho).1
          have hitr : i < tr.length := by rw [hT.size]; exact hilt
          obtain ⟨e, he⟩ : ∃ e, tr[i]? = some e := ⟨tr[i], by simp [hitr]⟩
          obtain ⟨Si, hSi, hstepN, hstepA⟩ := hstates i o e (Nat.zero_le _) ho he
          have hunf : listed.getD i false = false := by
            have : i < listed.size := by omega
            simp [this] at hun ⊢; exact hun
          -- what is reached from i is listed; what reaches i is not
          have reachL : ∀ {x y : Nat}, Reach ops x y → (∀ o', ops[x]? = some o' → ∀ e ∈ o'.after, Region.binds .any e = true → listed.getD e.on false = true) → listed.getD y false = true := by
            intro x y hr
            induction hr with
            | edge ho' he' hb => intro hp; exact hp _ ho' _ he' hb
            | trans h1 h2 ih1 ih2 => intro hp; exact ih2 fun o' ho' => hdc _ o' ho' (ih1 hp)
          have hprei : ∀ o', ops[i]? = some o' → ∀ e ∈ o'.after, Region.binds .any e = true → listed.getD e.on false = true := by
            intro o' ho'; rw [ho] at ho'; cases ho'; exact hpre
          have reach1 : ∀ {j : Nat}, Reach ops i j → listed.getD j false = true := fun h => reachL h hprei
          have reach2 : ∀ {j : Nat}, Reach ops j i → listed.getD j false = false := by
            intro j hr
            cases hl : listed.getD j false with
            | false => rfl
            | true =>
              have := reachL hr (fun o' ho' => hdc j o' ho' hl)
              rw [hunf] at this; cases this
          have tmp_eq : ∀ t ∈ o.looksAt ops, nth undef Si.tmps t = nth undef S1.tmps t := by
            intro t ht
            by_cases hw : ∃ j ej, tr[j]? = some ej ∧ ej.dst = some t ∧ i ≠ j
            · obtain ⟨j, ej, hj, hd, hij⟩ := hw
              have uniq : ∀ j' ej', tr[j']? = some ej' → ej'.dst = some t → j' = j := by
                intro j' ej' hj' hd'
                refine Classical.byContradiction fun hne => ?_
                exact hT.apart j' j ej' ej t hj' hj hne hd hd'
              rcases hT.looks i j o e ej t ho he hj hij hd ht with ⟨hlt, hr⟩ | ⟨hlt, hr⟩
              · rw [hSi.done j ej t hj (bltI hlt) hd, hS1.done j ej t hj (reach1 hr) hd]
              · rw [hSi.same t fun j' ej' hj' hL hd' => ?_, hS1.same t fun j' ej' hj' hL hd' => ?_]
                · have := uniq j' ej' hj' hd'; subst this
                  (try dsimp only at hL)
                  rw [reach2 hr] at hL; cases hL
                · have := uniq j' ej' hj' hd'; subst this
                  have := bltE hL; omega
            · have only : ∀ j' ej', tr[j']? = some ej' → ej'.dst = some t → j' = i := by
                intro j' ej' hj' hd'
                refine Classical.byContradiction fun hne => hw ⟨j', ej', hj', hd', fun h => hne h.symm⟩
              rw [hSi.same t fun j' ej' hj' hL hd' => ?_, hS1.same t fun j' ej' hj' hL hd' => ?_]
              · have := only j' ej' hj' hd'; subst this
                (try dsimp only at hL)
                rw [hunf] at hL; cases hL
              · have := only j' ej' hj' hd'; subst this
                have := bltE hL; omega
          -- the new places: as many in both, or not looked at
          have newSame : (∀ (j : Nat) (ej : TE), tr[j]? = some ej → ej.nw ≠ [] → i = j ∨ (j < i ∧ Reach ops i j) ∨ (i < j ∧ Reach ops j i)) → newObjs tr (fun j => Nat.blt j i) = newObjs tr (fun j => listed.getD j false) := by
            intro hall
            refine newObjs_congr' fun j ej hj hne => ?_
            rcases hall j ej hj hne with rfl | ⟨hlt, hr⟩ | ⟨hlt, hr⟩
            · have : Nat.blt i i = false := by
                cases hb : Nat.blt i i with
                | false => rfl
                | true => have := bltE hb; omega
              rw [this, hunf]
            · rw [bltI hlt, reach1 hr]
            · have : Nat.blt j i = false := by
                cases hb : Nat.blt j i with
                | false => rfl
                | true => have := bltE hb; omega
              rw [this, reach2 hr]
          have mem_eqN : ∀ b, S0.V.length ≤ b → newObjs tr (fun j => Nat.blt j i) = newObjs tr (fun j => listed.getD j false) → Si.V[b]? = S1.V[b]? := by
            intro b hb hn
            rw [hSi.newV b hb, hS1.newV b hb, hn]
          have mem_eqO : ∀ b, b < S0.V.length → (e.rd = some none ∨ e.rd = some (some b)) → Si.V[b]? = S1.V[b]? := by
            intro b hbl hrd
            have late : ∀ j ej ob, tr[j]? = some ej → ej.st = some (b, ob) → j ≠ i → listed.getD j false = false ∧ ¬ j < i := by
              intro j ej ob hj hs hji
              obtain ⟨h1, h2⟩ := hT.mem i j e ej b ob he hj (Ne.symm hji) hs hrd
              exact ⟨reach2 h2, by omega⟩
            rw [hSi.sameV b hbl fun j ej ob hj hL hs => ?_, hS1.sameV b hbl fun j ej ob hj hL hs => ?_]
            · by_cases hji : j = i
              · subst hji; (try dsimp only at hL); rw [hunf] at hL; cases hL
              · (try dsimp only at hL); rw [(late j ej ob hj hs hji).1] at hL; cases hL
            · by_cases hji : j = i
              · subst hji; have := bltE hL; omega
              · exact (late j ej ob hj hs hji).2 (bltE hL)
          -- where it stands to the one that makes new places
          have hside := hT.new i e he
          have hscope : S0.V.length ≤ S1.V.length ∧ (Si.V.length = S1.V.length ∨ (scB S0.V.length 6 e.v = true ∧ (∀ b t c, e.st = some (b, .cells t c) → c.all (scB S0.V.length 6) = true) ∧ e.nw = [] ∧ ∀ b t m n cap f hs, e.st = some (b, .raw t m n cap f hs) → holesOk S0.V.length hs = true)) := by
            refine ⟨by rw [hS1.lenV]; omega, ?_⟩
            rcases hside with h1 | ⟨h1, _, h2, h3, h4⟩
            · left; rw [hSi.lenV, hS1.lenV, newSame h1]
            · exact .inr ⟨h2, h3, h1, h4⟩
          have mem_eq : ∀ b, (e.rd = some none ∨ e.rd = some (some b)) → Si.V[b]? = S1.V[b]? := by
            intro b hrd
            by_cases hbl : b < S0.V.length
            · exact mem_eqO b hbl hrd
            · refine mem_eqN b (by omega) ?_
              rcases hside with h1 | ⟨_, h1, _⟩
              · exact newSame h1
              · exfalso
                unfold rdIn at h1
                rcases hrd with hrd | hrd
                · rw [hrd] at h1; exact h1
                · rw [hrd] at h1; exact hbl h1
          have hguard : ∀ {j : Nat} {want : Bool} {g : Tmp}, o.guard = some (j, want) → guardTmp ops.toList j = some g → g ∈ o.looksAt ops := by
            intro j want g hg hgt
            unfold Oper.looksAt
            simp [hg, guardTmp_list hgt]
          have hstep1 : allocOf P o = none → EStep P C ops.toList S1 o e := by
            intro hna
            have hstep := hstepN hna
            rcases hstep with ⟨hw, hruns⟩ | ⟨hsk, rfl⟩
            · left
              refine ⟨?_, ?_⟩
              · rcases hw with hg | ⟨j, want, g, hg, hgt, hv⟩
                · exact .inl hg
                · exact .inr ⟨j, want, g, hg, hgt, by rw [← tmp_eq g (hguard hg hgt)]; exact hv⟩
              · by_cases hpure : ∃ f args g v, xop P Si o.op = .call f args ∧ C.fn f = some g ∧ Gives (g args []) v ∧ (∀ x ∈ args, Sc 0 x) ∧ Sc 0 v ∧ e = ⟨o.dst, v, none, none, []⟩
                · obtain ⟨f, args, g, v, q1, q2, q3, q4, q5, q6⟩ := hpure
                  have hops : ∀ x ∈ o.op.operands, ev Si x = ev S1 x := by
                    intro x hx
                    cases x with
                    | tmp t =>
                      refine tmp_eq t ?_
                      unfold Oper.looksAt
                      refine List.mem_append_left _ (List.mem_filterMap.2 ⟨.tmp t, by simpa using hx, rfl⟩)
                    | _ => rfl
                  exact .inr (.inr (.inr (.inr (.inr (.inr (.inr (.inl ⟨f, args, g, v, xop_call_congr hops q1, q2, q3, q4, q5, q6⟩)))))))
                have hrd : e.rd = mrd Si o.op := by
                  rcases or_assoc7 hruns with hruns | hp | hr
                  · rcases hruns with ⟨v, _, _, rfl⟩ | ⟨_, _, _, _, _, _, rfl⟩ | ⟨_, _, _, _, rfl⟩ | ⟨_, _, _, _, _, _, rfl⟩ | ⟨_, _, _, _, _, rfl⟩ | ⟨_, _, _, _, _, _, _, rfl⟩ | ⟨_, _, _, _, _, _, _, rfl⟩ <;> rfl
                  · exact absurd hp hpure
                  · rcases hr with ⟨_, _, _, _, _, _, _, _, _, _, _, _, _, _, _, rfl⟩ | ⟨_, _, _, _, _, _, _, rfl⟩ | ⟨_, _, _, _, rfl⟩ | ⟨_, _, _, _, _, _, _, rfl⟩ <;> rfl
                have hops : ∀ x ∈ o.op.operands, ev Si x = ev S1 x := by
                  intro x hx
                  cases x with
                  | tmp t =>
                    refine tmp_eq t ?_
                    unfold Oper.looksAt
                    refine List.mem_append_left _ (List.mem_filterMap.2 ⟨.tmp t, by simpa using hx, rfl⟩)
                  | _ => rfl
                have hmem : ∀ r, mrd Si o.op = some r → match r with | none => Si.V = S1.V | some b => Si.V[b]? = S1.V[b]? := by
                  intro r hr
                  cases r with
                  | none => exact List.ext_getElem? fun b => mem_eq b (.inl (hrd.trans hr))
                  | some b => exact mem_eq b (.inr (hrd.trans hr))
                obtain ⟨hx, hm'⟩ := xval_congr (P := P) (C := C) hops hmem
                have hxr := xraw_congr (P := P) hops hmem
                obtain ⟨hxop, _⟩ := xop_congr (P := P) hops hmem
                obtain ⟨hle, hlens⟩ := hscope
                rcases or_assoc7 hruns with hruns | hp | hr
                rotate_left
                · exact absurd hp hpure
                · refine .inr (.inr (.inr (.inr (.inr (.inr (.inr (.inr ?_)))))))
                  have hscO : ∀ {b : Nat} {ob : VObj} {d : Option Tmp} {v : Value} {rd : Option (Option Nat)}, e = ⟨d, v, some (b, ob), rd, []⟩ → (∃ t m n cap f hs, ob = .raw t m n cap f hs) → ScO Si.V.length ob → ScO S1.V.length ob := by
                    intro b ob d v rd he' ⟨t, m, n, cap, f, hs, hob⟩ hsc
                    rcases hlens with hl | ⟨_, _, _, h4⟩
                    · exact hl ▸ hsc
                    · subst hob
                      subst he'
                      have hk := h4 b t m n cap f hs rfl
                      intro x hx y hy
                      have h5 := List.all_eq_true.1 (List.all_eq_true.1 hk x hx) y hy
                      rw [Bool.and_eq_true] at h5
                      exact ⟨(scB_ok 6 y h5.1).mono hle, h5.2⟩
                  rcases hr with ⟨q, i', r, c, own, t, m, n, cap, f, hx1, hq, hd, hV, hsc, rfl⟩ | ⟨q, i', ob, hx1, hq, hd, hsc, rfl⟩ | ⟨ob, n, hx1, hsc, rfl⟩ | ⟨q, i', ob, n, hx1, hq, hsc, rfl⟩
                  · exact .inl ⟨q, i', r, c, own, t, m, n, cap, f, hxop ▸ hx1, hq, hd, by rw [← mem_eq i' (.inr (sob_facts hx1))]; exact hV, hsc, by rw [hm']⟩
                  · exact .inr (.inl ⟨q, i', ob, hxr ▸ hx1, hq, hd, hscO rfl (rawsto_kind hx1) hsc, by rw [hm']⟩)
                  · rcases hlens with hl | ⟨_, _, h3, _⟩
                    · exact .inr (.inr (.inl ⟨ob, n, hxr ▸ hx1, hl ▸ hsc, by rw [hm', hl]⟩))
                    · cases h3
                  · rcases hlens with hl | ⟨_, _, h3, _⟩
                    · exact .inr (.inr (.inr ⟨q, i', ob, n, hxr ▸ hx1, hq, hl ▸ hsc, by rw [hm', hl]⟩))
                    · cases h3
                rcases hruns with ⟨v, hg, hs, rfl⟩ | ⟨i', t, c, hxx, hd, hsc, rfl⟩ | ⟨t, c, hxx, hsc, rfl⟩ | ⟨p, os, v, hxx, hp, hs, rfl⟩ | ⟨t, m, rows, hxx, hsc, rfl⟩ | ⟨p, i', ob, v, hxx, hp, hs, rfl⟩ | ⟨p, i', ob, v, hxx, hp, hs, rfl⟩
                · refine .inl ⟨v, hx ▸ hg, ?_, by rw [hm']⟩
                  rcases hlens with hl | ⟨h1, _, _, _⟩
                  · exact hl ▸ hs
                  · exact (scB_ok 6 v h1).mono hle
                · refine .inr (.inl ⟨i', t, c, hx ▸ hxx, hd, ?_, by rw [hm']⟩)
                  rcases hlens with hl | ⟨_, h2, _, _⟩
                  · exact fun x hxc => hl ▸ hsc x hxc
                  · exact fun x hxc => (scB_ok 6 x (List.all_eq_true.1 (h2 i' t c rfl) x hxc)).mono hle
                · rcases hlens with hl | ⟨_, _, h3, _⟩
                  · exact .inr (.inr (.inl ⟨t, c, hx ▸ hxx, fun x hxc => hl ▸ hsc x hxc, by rw [hm', hl]⟩))
                  · cases h3
                · rcases hlens with hl | ⟨h1, _, h3, _⟩
                  · exact .inr (.inr (.inr (.inl ⟨p, os, v, hx ▸ hxx, hp, by rw [List.length_append, ← hl, ← List.length_append]; exact hs, by rw [hm']⟩)))
                  · dsimp only at h3
                    subst h3
                    exact .inr (.inr (.inr (.inl ⟨p, [], v, hx ▸ hxx, hp, by rw [List.append_nil]; exact (scB_ok 6 v h1).mono hle, by rw [hm']⟩)))
                · rcases hlens with hl | ⟨_, _, h3, _⟩
                  · exact .inr (.inr (.inr (.inr (.inl ⟨t, m, rows, hx ▸ hxx, hsc, by rw [hm', hl]⟩))))
                  · cases h3
                · rcases hlens with hl | ⟨_, _, h3, _⟩
                  · exact .inr (.inr (.inr (.inr (.inr (.inl ⟨p, i', ob, v, hx ▸ hxx, hp, hl ▸ hs, by rw [hm', hl]⟩)))))
                  · cases h3
                · refine .inr (.inr (.inr (.inr (.inr (.inr (.inl ⟨p, i', ob, v, hx ▸ hxx, hp, ?_, by rw [hm']⟩))))))
                  rcases hlens with hl | ⟨h1, _, _, _⟩
                  · exact hl ▸ hs
                  · exact (scB_ok 6 v h1).mono hle
            · right
              obtain ⟨j, want, g, hg, hgt, hv⟩ := hsk
              exact ⟨⟨j, want, g, hg, hgt, by rw [← tmp_eq g (hguard hg hgt)]; exact hv⟩, rfl⟩
          have hlt : ∀ x ∈ al, x.2 < S1.V.length := fun x hx => by
            obtain ⟨_, _, _, _, _, _, _, _, _, h1⟩ := hsp x hx
            rw [hS1.lenV]; omega
          have hget : ∀ j, (listed.setIfInBounds i true).getD j false = (listed.getD j false || Nat.beq j i) := by
            intro j
            have his : i < listed.size := by omega
            by_cases hji : j = i
            · subst hji
              rw [Nat.beq_refl]
              simp [his]
            · have : Nat.beq j i = false := by
                cases hb : Nat.beq j i with
                | false => rfl
                | true => exact absurd (Nat.eq_of_beq_eq_true hb) hji
              rw [this, Bool.or_false, getD_set_ne false (Ne.symm hji)]
          -- behind it
          have hcont : ∀ env' a' w', Fr env S.V w env' (maskV (fun j => (listed.setIfInBounds i true).getD j false) al (e.apply S1).V) w' → Rep env' ⟨(e.apply S1).tmps, maskV (fun j => (listed.setIfInBounds i true).getD j false) al (e.apply S1).V⟩ a' w' → wpAny P .any ops Q fuel (listed.setIfInBounds i true) a' w' := by
            intro env' a' w' hF' hR'
            refine ih _ env' a' w' _ (by simp [hsz]) ?_ ?_ (hS1.step hT he hunf hst (fun hne j ej hlt hj hne' => by
              rcases hside with h1 | ⟨h1, _⟩
              · rcases h1 j ej hj hne' with h1 | ⟨h1, _⟩ | ⟨_, h2⟩
                · omega
                · omega
                · exact reach2 h2
              · exact absurd h1 hne) hget) hR' hF'
            · have his : i < listed.toList.length := by simp; omega
              have hv : listed.toList[i] = false := by
                have : i < listed.size := by omega
                simp [this] at hunf
                simpa using hunf
              rw [Array.toList_setIfInBounds]
              have : (listed.toList.set i true).count false = listed.toList.count false - 1 := by
                rw [List.count_set his]
                simp [hv]
              rw [this, hcnt]; omega
            · intro j o' ho' hL e' he' hb
              rw [hget] at hL
              rw [hget]
              simp only [Bool.or_eq_true] at hL ⊢
              rcases hL with hL | hL
              · exact .inl (hdc j o' ho' hL e' he' hb)
              · have := Nat.eq_of_beq_eq_true hL
                subst this
                exact .inl (hprei o' ho' e' he' hb)
          unfold wpOp
          simp only [ho]
          by_cases hna : allocOf P o = none
          · -- no variable is made
            have hnot : ∀ x ∈ al, x.1 ≠ i := fun x hx e' => by
              obtain ⟨j, o', t, c, h1, h2, h3, _⟩ := hsp x hx
              rw [← h1, e'] at h2
              have : ops[i]? = some o' := by simpa using h2
              rw [ho] at this; cases this
              rw [hna] at h3; cases h3
            have hapt : ∀ x ∈ al, listed.getD x.1 false = false → ApartE x.2 e := fun x hx hl => by
              rcases hap x hx i e he with h1 | h1 | h1
              · exact absurd h1.symm (hnot x hx)
              · rw [reach1 h1] at hl; cases hl
              · exact h1
            have hL' : ∀ x ∈ al, (listed.setIfInBounds i true).getD x.1 false = listed.getD x.1 false := fun x hx => by
              rw [hget, beq_ne (hnot x hx), Bool.or_false]
            have hcomm := mask_apply (L := fun j => listed.getD j false) (L' := fun j => (listed.setIfInBounds i true).getD j false) (al := al) (S := S1) (e := e) hL' hlt (fun b ob hs x hx hb => by
              cases hl : listed.getD x.1 false with
              | true => rfl
              | false => exact absurd hb.symm ((hapt x hx hl).st b ob hs).1)
            rcases hstep1 hna with ⟨hw, hruns⟩ | ⟨hsk, he'⟩
            · have hw1 : Wants ops.toList ⟨S1.tmps, maskV (fun j => listed.getD j false) al S1.V⟩ o := hw
              rw [if_pos (wants_wanted hR1 hw1)]
              have hruns1 : Runs P C ⟨S1.tmps, maskV (fun j => listed.getD j false) al S1.V⟩ o e := hruns.congr rfl (maskV_len _ al _).symm (fun r hr => by
                have hno : ∀ b, (r = none ∨ r = some b) → (maskV (fun j => listed.getD j false) al S1.V)[b]? = S1.V[b]? := fun b hrb => maskV_ne _ al _ b fun x hx hb => by
                  cases hl : listed.getD x.1 false with
                  | true => rfl
                  | false =>
                    have h1 := (hapt x hx hl).rd
                    rcases hrb with rfl | rfl
                    · exact absurd hr h1.1
                    · exact absurd (hb ▸ hr) h1.2
                cases r with
                | none => exact List.ext_getElem? fun b => (hno b (.inl rfl)).symm
                | some b => exact (hno b (.inr rfl)).symm)
              refine .inl (runs_wp hC hR1 hruns1 fun env' a' w' hF' hR' => hcont env' a' w' ?_ ?_)
              · have h1 := hF1.trans hF'
                rw [← hcomm] at h1
                exact h1
              · rw [← hcomm] at hR'
                exact hR'
            · have hsk1 : Skips ops.toList ⟨S1.tmps, maskV (fun j => listed.getD j false) al S1.V⟩ o := hsk
              rw [if_neg (by rw [skips_wanted hR1 hsk1]; simp)]
              subst he'
              refine hcont env1 _ w1 ?_ ?_
              · have h1 : maskV (fun j => (listed.setIfInBounds i true).getD j false) al (TE.apply ⟨o.dst, undef, none, none, []⟩ S1).V = maskV (fun j => listed.getD j false) al S1.V := by
                  have h2 := congrArg VSt.V hcomm
                  have h3 : (TE.apply ⟨o.dst, undef, none, none, []⟩ (⟨S1.tmps, maskV (fun j => listed.getD j false) al S1.V⟩ : VSt)).V = maskV (fun j => listed.getD j false) al S1.V := by unfold TE.apply; simp
                  exact h2.trans h3
                rw [h1]; exact hF1
              · rw [hcomm]
                unfold TE.apply
                simp only [List.append_nil]
                cases hd : o.dst with
                | none => exact hR1
                | some d => exact hR1.put (.inr (ren_undef env1).symm) .undef
          · -- a variable is made
            obtain ⟨q, hiq, rfl⟩ := hstepA hna
            obtain ⟨j, o', t, c, h1, h2, h3, h4, h5, h6⟩ := hsp _ hiq
            dsimp only at h1 h4 h5 h6
            subst h1
            have ho' : ops[i]? = some o' := by simpa using h2
            rw [ho] at ho'; cases ho'
            obtain ⟨hg, hc, hxop⟩ := allocOf_facts h3
            have hdone : ∀ (j : Nat) (ej : TE), tr[j]? = some ej → listed.getD j false = true → ApartE q ej := fun j ej hj hL => by
              rcases hap _ hiq j ej hj with e1 | e1 | e1
              · dsimp only at e1; subst e1; rw [hunf] at hL; cases hL
              · rw [reach2 e1] at hL; cases hL
              · exact e1
            have hs1q : S1.V[q]? = some (.cells t c) := by
              rw [hS1.sameV q h6 fun j ej ob hj hL hs => ((hdone j ej hj hL).st q ob hs).1 rfl]; exact h5
            have hdead : (maskV (fun j => listed.getD j false) al S1.V)[q]? = some .dead := maskV_dead _ al _ q (hlt _ hiq) ⟨_, hiq, rfl, hunf⟩
            have hfreeT : ∀ t', FreeV q (nth undef S1.tmps t') := fun t' => by
              by_cases hx : ∃ j ej, tr[j]? = some ej ∧ listed.getD j false = true ∧ ej.dst = some t'
              · obtain ⟨j, ej, g1, g2, g3⟩ := hx
                rw [hS1.done j ej t' g1 g2 g3]; exact (hdone j ej g1 g2).v
              · rw [hS1.same t' fun j ej g1 g2 g3 => hx ⟨j, ej, g1, g2, g3⟩, hT0]
                by_cases hlt' : t' < S.tmps.length
                · have hmem : nth undef S.tmps t' ∈ S.tmps := by
                    rw [nth_eq, List.getD_eq_getElem?_getD, List.getElem?_eq_getElem hlt']
                    exact List.getElem_mem hlt'
                  exact .of_sc (hR.sc _ hmem) h4
                · rw [nth_eq, List.getD_eq_getElem?_getD, List.getElem?_eq_none (Nat.le_of_not_lt hlt')]
                  exact .of_sc (Sc.undef (n := 0)) (Nat.zero_le _)
            have hfreeV : ∀ (b : Nat) (ob : VObj), (maskV (fun j => listed.getD j false) al S1.V)[b]? = some ob → FreeO q ob := fun b ob hb => by
              by_cases hd : ∃ x ∈ al, x.2 = b ∧ listed.getD x.1 false = false
              · have hbl : b < S1.V.length := by obtain ⟨x, hx, hxb, _⟩ := hd; rw [← hxb]; exact hlt x hx
                rw [maskV_dead _ al _ b hbl hd] at hb
                cases hb; trivial
              · rw [maskV_ne _ al _ b fun x hx hxb => by
                  cases hl : listed.getD x.1 false with
                  | true => rfl
                  | false => exact absurd ⟨x, hx, hxb, hl⟩ hd] at hb
                by_cases hb0 : b < S0.V.length
                · by_cases hx : ∃ j ej ob', tr[j]? = some ej ∧ listed.getD j false = true ∧ ej.st = some (b, ob')
                  · obtain ⟨j, ej, ob', g1, g2, g3⟩ := hx
                    have g4 := hS1.doneV j ej b ob' g1 g2 g3
                    rw [hb] at g4; cases g4
                    exact ((hdone j ej g1 g2).st b ob g3).2
                  · rw [hS1.sameV b hb0 fun j ej ob' g1 g2 g3 => hx ⟨j, ej, ob', g1, g2, g3⟩, hV0] at hb
                    by_cases hbS : b < S.V.length
                    · rw [List.getElem?_append_left hbS] at hb
                      exact .of_sc (hR.mem.sc b ob hb) h4
                    · rw [List.getElem?_append_right (by omega)] at hb
                      exact allocObs_free _ _ (List.mem_of_getElem? hb)
                · rw [hS1.newV b (by omega)] at hb
                  obtain ⟨j, ej, g1, g2, g3⟩ := newFrom_mem tr 0 (List.mem_of_getElem? hb)
                  rw [Nat.zero_add] at g2
                  exact (hdone j ej g1 g2).nw ob g3
            have hW2 := hR1.mem.allocAt hdead (t := t) hc hfreeV
            have hVm : maskV (fun j => (listed.setIfInBounds i true).getD j false) al S1.V = (maskV (fun j => listed.getD j false) al S1.V).set q (.cells t c) := mask_made hinj hiq hget hlt hs1q
            have hR2 : Rep (fun j => if j = q then ⟨w1.heap.size, 0, 1, 0⟩ else env1 j) ⟨S1.tmps, (maskV (fun j => listed.getD j false) al S1.V).set q (.cells t c)⟩ a1 (w1.alloc (.cells (c.map (ren env1)).toArray t)) :=
              ⟨hW2, hR1.def_, hR1.size, fun t' ht' => by
                rcases hR1.tm t' ht' with h | h
                · exact .inl h
                · exact .inr (h.trans (hfreeT t' _ _ fun j hj => (if_neg hj).symm)), fun v hv => by rw [List.length_set]; exact hR1.sc v hv⟩
            have haV : ((allocE o q).apply S1).V = S1.V := by unfold TE.apply allocE; simp
            have hold : ∀ b, b < w1.heap.size → (w1.alloc (.cells (c.map (ren env1)).toArray t)).heap[b]? = w1.heap[b]? := fun b hb => heap_alloc_old w1 _ b hb
            have hsz1 : w1.heap.size < (w1.alloc (.cells (c.map (ren env1)).toArray t)).heap.size := (Array.getElem?_eq_some_iff.1 (heap_alloc_new w1 (.cells (c.map (ren env1)).toArray t))).1
            rw [if_pos (by simp [Region.wanted, hg])]
            refine .inl ?_
            unfold Oper.wp
            rw [run_alc hR1 (hxop _), Oper.upon_value]
            refine hcont (fun j => if j = q then ⟨w1.heap.size, 0, 1, 0⟩ else env1 j) _ _ ?_ ?_
            · rw [haV, hVm]
              refine ⟨fun b hb => ?_, by rw [List.length_set]; exact hF1.len, hF1.os, hF1.tape, hF1.output, Nat.le_trans hF1.size (Nat.le_of_lt hsz1), fun b hb hno => ?_, fun b ob hb hob => ?_⟩
              · show (if b = q then _ else _) = _
                rw [if_neg (by omega)]; exact hF1.agree b hb
              · rw [hold b (Nat.lt_of_lt_of_le hb hF1.size)]; exact hF1.keep b hb hno
              · skip
                rcases setV_get hb with ⟨rfl, rfl, _⟩ | ⟨hne, hb'⟩
                · rw [if_pos rfl]; exact .inr hF1.size
                · rw [if_neg hne] at hob ⊢; exact hF1.own b ob hb' hob
            · rw [haV, hVm]
              unfold TE.apply allocE
              dsimp only
              cases hd : o.dst with
              | none => exact hR2
              | some d => exact hR2.put (.inr (by simp [ren_ptr, renA])) (.ptr (by show q < _; rw [List.length_set, maskV_len]; exact hlt _ hiq))
  have hstart : ∀ (b : Nat) (o : VObj), (maskV (fun j => (Array.replicate ops.size false).getD j false) al S0.V)[b]? = some o → (b < S.V.length ∧ S.V[b]? = some o) ∨ o = .dead := by
    intro b o hb
    by_cases hbS : b < S.V.length
    · rw [maskV_ne _ al _ b fun x hx hxb => by
        obtain ⟨_, _, _, _, _, _, _, h4, _⟩ := hsp x hx
        omega, hV0, List.getElem?_append_left hbS] at hb
      exact .inl ⟨hbS, hb⟩
    · right
      have hbl : b < S0.V.length := by
        have := (List.getElem?_eq_some_iff.1 hb).1
        rwa [maskV_len] at this
      have hk : b - S.V.length < (allocObs P ops.toList).length := by
        rw [hV0, List.length_append] at hbl; omega
      obtain ⟨i', hi'⟩ := allocPl_all ops.toList 0 S.V.length _ hk
      rw [show S.V.length + (b - S.V.length) = b by omega, ← hal] at hi'
      have : (Array.replicate ops.size false).getD i' false = false := by
        rcases Nat.lt_or_ge i' ops.size with h | h <;> simp [h]
      rw [maskV_dead _ al _ b hbl ⟨_, hi', rfl, this⟩] at hb
      cases hb; rfl
  have hlenS : S.V.length ≤ (maskV (fun j => (Array.replicate ops.size false).getD j false) al S0.V).length := by rw [maskV_len, hV0, List.length_append]; omega
  have hRd := hR.drew
  refine main ops.size _ env a _ S0 (by simp) ?_ ?_ (h0.congr fun j hj => ?_) ⟨⟨fun b o hb => ?_, fun b o hb => ?_, fun b o hb hB => ?_, fun b b' o o' hb hb' hne hw hl hB hB' => ?_, hRd.mem.inv, fun b o hb ho => ?_, hRd.mem.room⟩, hRd.def_, by rw [hT0]; exact hRd.size, by rw [hT0]; exact hRd.tm, by rw [hT0]; exact fun v hv => (hRd.sc v hv).mono hlenS⟩
    ⟨fun _ _ => rfl, hlenS, rfl, rfl, rfl, Nat.le_refl _, fun _ _ _ => rfl, fun b o hb ho => ?_⟩
  · simp [List.count_replicate]
  · intro j o _ hL
    have : (Array.replicate ops.size false).getD j false = false := by
      rcases Nat.lt_or_ge j ops.size with h | h <;> simp [h]
    rw [this] at hL; cases hL
  · have : (Array.replicate ops.size false).getD j false = false := by
      rcases Nat.lt_or_ge j ops.size with h | h <;> simp [h]
    rw [this]; rfl
  · rcases hstart b o hb with ⟨_, h1⟩ | rfl
    · exact hRd.mem.mat b o h1
    · trivial
  · rcases hstart b o hb with ⟨_, h1⟩ | rfl
    · exact (hRd.mem.sc b o h1).mono hlenS
    · trivial
  · rcases hstart b o hb with ⟨_, h1⟩ | rfl
    · exact hRd.mem.blk b o h1 hB
    · exact hB.elim
  · rcases hstart b o hb with ⟨_, h1⟩ | rfl
    · rcases hstart b' o' hb' with ⟨_, h2⟩ | rfl
      · exact hRd.mem.sep b b' o o' h1 h2 hne hw hl hB hB'
      · exact hB'.elim
    · exact hB.elim
  · rcases hstart b o hb with ⟨_, h1⟩ | rfl
    · exact hRd.mem.low b o h1 ho
    · exact ho.2.elim
  · rcases hstart b o hb with ⟨_, h1⟩ | rfl
    · exact .inl ⟨b, o, h1, ho, rfl⟩
    · exact ho.2.elim

theorem draw_wp (hC : CtxOK P C) {env : Nat → Loc} {id : Nat} {ops : Array Oper} {S : VSt} {a : Act} {w : World} {k : VSt → Prop} {Q : Exit → Act → World → Prop} (hR : Rep env S a w)
    (h : xdraw P C ops.toList S k) (next : ∀ env' a' w' S', Fr env S.V w env' S'.V w' → Rep env' S' a' w' → k S' → Q .normal a' w') : (Code.region id ops true).wp P Q a w :=
  draw_wp0 hC hR h (fun hm h2 => draw2_wp hC hm hR h2 next) next
end Go.X
