/- What the symbolic run says of the real one, fifth part: one operation, and a region in its text's order. -/
import Derived.Test.YtgnhcoefocbmpaaGreatXS4
set_option linter.unusedSimpArgs false
set_option linter.unusedSectionVars false
set_option linter.unusedVariables false
namespace Go.X
open Go
variable [WI] [WD]
variable {P : Program} {env : Nat → Loc} {S : VSt} {a : Act} {w : World} {C : Ctx}

/-! ### The memory, later -/
theorem Mat.keep {w w' : World} {env env' : Nat → Loc} {n : Nat} {l : Loc} {o : VObj} (h : Mat env w l o) (hb0 : hasB l o → w'.heap[l.blk]? = w.heap[l.blk]?) (hs : ScO n o) (he : ∀ i, i < n → env' i = env i) :
    Mat env' w' l o := by
  have hcc : w'.heap[l.blk]? = w.heap[l.blk]? → ∀ p : Addr, p.block = l.blk → w'.cell? p = w.cell? p := fun hb p hp => by simp only [World.cell?, hp, hb]
  cases o with
  | cells t c =>
    have hb := hb0 trivial
    obtain ⟨h1, h2⟩ := h
    refine ⟨?_, h2⟩
    rw [hb, h1, map_congr_sc hs (fun i hi => (he i hi).symm)]
  | vec t m k f =>
    obtain ⟨h1, h2, h3⟩ := h
    refine ⟨h1, h2, fun hcap => ?_⟩
    have hb := hb0 hcap
    have hc := hcc hb
    obtain ⟨h3, h4, h5⟩ := h3 hcap
    refine ⟨fun r hr => ⟨(h3 r hr).1, fun j v hv => ?_⟩, h4, by rw [hb]; exact h5⟩
    rw [hc _ rfl]
    refine (h3 r hr).2 j v ?_
    rw [map_congr_sc (fun v hv => (hs r hr v hv).1) (fun i hi => absurd hi (Nat.not_lt_zero i))]
    exact hv
  | rows own t m k cap f =>
    have hb := hb0 trivial
    have hc := hcc hb
    obtain ⟨h1, h2, h3⟩ := h
    refine ⟨h1, fun r hr => ⟨(h2 r hr).1, fun j v hv => ?_⟩, fun ho => ?_⟩
    · rw [hc _ rfl]
      refine (h2 r hr).2 j v ?_
      rw [map_congr_sc (fun v hv => (hs r hr v hv).1) (fun i hi => absurd hi (Nat.not_lt_zero i))]
      exact hv
    · rw [hb]; exact h3 ho
  | iter s pos => exact ⟨by rw [hb0 trivial]; exact h.1, h.2⟩
  | mp es clock =>
    refine ⟨?_, h.2⟩
    rw [hb0 trivial, h.1]
    congr 2
    apply congrArg
    exact List.map_congr_left fun e hm => by simp only [renE]; rw [(hs e hm).1 _ _ (fun i hi => (he i hi).symm), (hs e hm).2 _ _ (fun i hi => (he i hi).symm)]
  | mq g =>
    obtain ⟨⟨es, c, hq, h1⟩, h2⟩ := h
    exact ⟨⟨es, c, hq, by rw [hb0 trivial]; exact h1⟩, h2⟩
  | arg t m n f =>
    obtain ⟨h1, h2, h3⟩ := h
    refine ⟨h1, h2, fun r hr => ?_⟩
    obtain ⟨h4, h5, h6⟩ := h3 r hr
    have hb : 2 ≤ l.cap := Nat.le_of_not_lt fun hc => by have := h1 hc; omega
    exact ⟨h4, h5, fun j v hj => by rw [hcc (hb0 hb) _ rfl]; exact h6 j v hj⟩
  | tab t m n f => exact h
  | raw t m k cap f hz =>
    have hb := hb0 trivial
    have hc := hcc hb
    obtain ⟨h0, h1, h2, h3, h4⟩ := h
    have hrow : ∀ r, rawRow env' f hz r = rawRow env f hz r := fun r => by
      unfold rawRow
      split
      · rename_i x hx
        exact map_congr_sc (fun v hv => (hs x (List.mem_of_find?_eq_some hx) v hv).1) he
      · rfl
    refine ⟨h0, h1, fun r hr => ?_, h3, by rw [hb]; exact h4⟩
    rw [hrow r]
    exact ⟨(h2 r hr).1, (h2 r hr).2.1, fun j v hv => by rw [hc _ rfl]; exact (h2 r hr).2.2 j v hv⟩
  | dead => trivial

theorem Mat.still {w w' : World} {env env' : Nat → Loc} {l : Loc} {o : VObj} (h : Mat env w l o) (hl : o.live = false) : Mat env' w' l o := by
  cases o with
  | tab t m n f => exact h
  | dead => trivial
  | _ => cases hl

/-- the tmps, when the memory has gone on -/
theorem Rep.later {env' : Nat → Loc} {V' : VW} {w' : World} (hR : Rep env S a w) (hW : RepW env' V' w') (hF : Fr env S.V w env' V' w') : Rep env' ⟨S.tmps, V'⟩ a w' :=
  ⟨hW, hR.def_, hR.size, fun t ht => by
    rcases hR.tm t ht with h | h
    · exact .inl h
    · right
      have hsc : Sc S.V.length (nth undef S.tmps t) := by
        rw [nth_eq]
        have : S.tmps.getD t undef ∈ S.tmps := by simp [List.getD, ht]
        exact hR.sc _ this
      rw [h, hsc env env' (fun i hi => (hF.agree i hi).symm)], fun v hv => (hR.sc v hv).mono hF.len⟩

theorem Rep.put {d : Tmp} {v u : Value} (hR : Rep env S a w) (hv : Rv env v u) (hs : Sc S.V.length v) : Rep env ⟨S.tmps.set d v, S.V⟩ (a.put (some d) u) w :=
  ⟨hR.mem, hR.def_, by simp [Act.put, hR.size], fun t ht => by
    simp only [List.length_set] at ht
    have hts : t < a.tmps.size := by rw [hR.size]; exact ht
    have := hR.tm t ht
    simp only [nth_eq, Act.put, Array.getD_eq_getD_getElem?, List.getD_eq_getElem?_getD, Array.getElem?_setIfInBounds, List.getElem?_set] at this ⊢
    by_cases hd : d = t
    · subst hd; simpa [ht, hts] using hv
    · simpa [hd] using this, fun x hx => by
    rcases List.mem_or_eq_of_mem_set hx with h | h
    · exact hR.sc x h
    · subst h; exact hs⟩

theorem Rep.put' {dst : Option Tmp} {v u : Value} (hR : Rep env S a w) (hv : Rv env v u) (hs : Sc S.V.length v) {k : VSt → Prop}
    (h : (match dst with | some d => setK S.tmps d v fun l => k ⟨l, S.V⟩ | none => k S)) : ∃ S', S'.V = S.V ∧ Rep env S' (a.put dst u) w ∧ k S' := by
  cases dst with
  | none => exact ⟨S, rfl, hR, h⟩
  | some d => exact ⟨⟨S.tmps.set d v, S.V⟩, rfl, hR.put hv hs, by simpa only [setK_eq] using h⟩

theorem putK_ok {dst : Option Tmp} {v u : Value} {cl : Bool} (hR : Rep env S a w) (hv : Rv env v u) {k : VSt → Prop} (h : putK cl S dst v k) : ∃ S', S'.V = S.V ∧ Rep env S' (a.put dst u) w ∧ k S' := by
  obtain ⟨hs, h⟩ := norm_spec h
  exact hR.put' hv hs h

/-- a literal in the place of a bool that is equal to it -/
theorem Rep.lit {g : Tmp} {v v' : Value} (hR : Rep env S a w) (hg : nth undef S.tmps g = v) (he : v = v') (hv : v ≠ undef) : Rep env ⟨S.tmps.set g v', S.V⟩ a w := by
  subst he
  have hg' : g < S.tmps.length := by
    rcases Nat.lt_or_ge g S.tmps.length with h | h
    · exact h
    · rw [nth_eq] at hg; simp [List.getD, List.getElem?_eq_none h] at hg; exact absurd hg.symm hv
  have : S.tmps.set g v = S.tmps := by
    apply List.ext_getElem?
    intro j
    rw [List.getElem?_set]
    split
    · rename_i hj; subst hj
      rw [nth_eq, List.getD_eq_getElem?_getD, List.getElem?_eq_getElem hg'] at hg
      first | rw [if_pos hg'] | skip
      rw [List.getElem?_eq_getElem hg']
      simpa using hg.symm
    · rfl
  simp only [this]
  exact hR

/-! ### A store -/
theorem take_app_drop (L vs : List Value) (o : Nat) (h : o + vs.length ≤ L.length) (j : Nat) :
    (L.take o ++ vs ++ L.drop (o + vs.length))[j]? = if o ≤ j ∧ j < o + vs.length then vs[j - o]? else L[j]? := by
  simp only [List.getElem?_append, List.length_append, List.length_take, List.getElem?_take, List.getElem?_drop]
  rw [show min o L.length = o by omega]
  by_cases h1 : j < o
  · rw [if_pos (by omega), if_pos h1, if_pos h1, if_neg (by omega)]
  · by_cases h2 : j < o + vs.length
    · rw [if_pos h2, if_neg h1, if_pos ⟨by omega, h2⟩]
    · rw [if_neg h2, if_neg (by omega)]
      congr 1; omega

theorem setRow_other (w : World) (g : Nat) (cs : Array Value) (b : Nat) (h : b ≠ g) : (w.setRow g cs).heap[b]? = w.heap[b]? := by
  simp only [World.setRow, Array.getElem?_modify]
  rw [if_neg (fun e => h e.symm)]

theorem setRow_size (w : World) (g : Nat) (cs : Array Value) : (w.setRow g cs).heap.size = w.heap.size := by simp [World.setRow]

theorem storeVar_row {t : TypeId} {i : TypeInfo} {v : Value} (hi : P.info? t = some i) (hl : (vcells v).length = i.size) (hc : isC v = false) (hcell : (vcells v).all cellC = true)
    (env : Nat → Loc) (w : World) (g o : Nat) (cur : Array Value) (t' : TypeId) (hg : w.heap[g]? = some (.cells cur t' (0, 0))) (hle : o + (vcells v).length ≤ cur.size) :
    (storeVar t ⟨g, o, none⟩ (ren env v)).run P w = .ok () (w.setRow g (cur.toList.take o ++ (vcells v).map (ren env) ++ cur.toList.drop (o + (vcells v).length)).toArray) := by
  have hcs := vcells_ren env hc
  have h1 : ∀ x ∈ (vcells v).map (ren env), x.oneCell' = true := by
    intro x hx
    obtain ⟨y, hy, rfl⟩ := List.mem_map.1 hx
    have hy' := (List.all_eq_true.1 hcell) y hy
    cases y <;> first | (simp [cellC] at hy'; done) | simp [Value.oneCell', ren_iface, ren_func] | skip
    case pointer a => cases a <;> simp [ren_ptr, Value.oneCell']
    case slice a l c =>
      cases a with
      | none => simp [Value.oneCell']
      | some a => obtain ⟨p, c', h'⟩ := ren_slice_form env a l c; simp [h', Value.oneCell']
    case map a => cases a <;> simp [ren_map, Value.oneCell']
  have := run_storeCells_at (P := P) g o t' ((vcells v).map (ren env)) 0 cur w hg (by simpa using hle) h1
  simp only [Nat.add_zero, List.length_map] at this
  simp [storeVar, run_size hi, hcs, hl, this]

theorem splice_eq {cs new c' : List Value} {off : Nat} (h : splice cs off new = some c') : off + new.length ≤ cs.length ∧ c' = cs.take off ++ new ++ cs.drop (off + new.length) := by
  unfold splice at h
  split at h
  · cases h; exact ⟨‹_›, rfl⟩
  · cases h

theorem setV_get {V : VW} {i j : Nat} {o oj : VObj} (h : (V.set i o)[j]? = some oj) : (j = i ∧ oj = o ∧ i < V.length) ∨ (j ≠ i ∧ V[j]? = some oj) := by
  rw [List.getElem?_set] at h
  split at h
  · rename_i hij; subst hij
    split at h
    · left; exact ⟨rfl, by simpa using h.symm, ‹_›⟩
    · cases h
  · right; exact ⟨fun e => ‹¬ _› e.symm, h⟩

/-- the memory behind a row that is written -/
theorem RepW.setRow {V : VW} (hR : RepW env V w) {i : Nat} {o o' : VObj} (hi : V[i]? = some o) (ho : o.writes = true) (ho' : o'.writes = true)
    (cs : Array Value) (hm : Mat env (w.setRow (env i).blk cs) (env i) o') (hsc : ScO V.length o') (hB : hasB (env i) o) :
    RepW env (V.set i o') (w.setRow (env i).blk cs) ∧ Fr env V w env (V.set i o') (w.setRow (env i).blk cs) := by
  have hown : o.owned = true := by cases o <;> simp_all [VObj.writes, VObj.owned]
  refine pairRF hR (fun j oj hj => ?_) (fun j oj hj => ?_) (fun j oj hj hBj => ?_) (fun j k oj ok hj hk hjk hw hl hBj hBk => ?_) ⟨fun _ _ => rfl, by simp, rfl, rfl, rfl, by rw [setRow_size]; exact Nat.le_refl _, fun b hb hno => ?_, fun j oj hj hoj => ?_⟩
  · rcases setV_get hj with ⟨rfl, rfl, _⟩ | ⟨hne, hj'⟩
    · exact hm
    · cases hlv : oj.live with
      | false => exact (hR.mat j oj hj').still hlv
      | true =>
        exact (hR.mat j oj hj').keep (fun hBj => setRow_other _ _ _ _ (Ne.symm (hR.sep i j o oj hi hj' (Ne.symm hne) ho hlv hB hBj))) (hR.sc j oj hj') (fun _ _ => rfl)
  · rw [List.length_set]
    rcases setV_get hj with ⟨rfl, rfl, _⟩ | ⟨hne, hj'⟩
    · exact hsc
    · exact hR.sc j oj hj'
  · rw [setRow_size]
    rcases setV_get hj with ⟨rfl, rfl, _⟩ | ⟨hne, hj'⟩
    · exact hR.blk _ o hi hB
    · exact hR.blk j oj hj' hBj
  · rcases setV_get hj with ⟨rfl, rfl, _⟩ | ⟨hne, hj'⟩
    · rcases setV_get hk with ⟨rfl, rfl, _⟩ | ⟨hne, hk'⟩
      · exact absurd rfl hjk
      · exact hR.sep _ _ o ok hi hk' hjk ho hl hB hBk
    · rcases setV_get hk with ⟨rfl, rfl, _⟩ | ⟨hne, hk'⟩
      · exact hR.sep _ _ oj o hj' hi hjk hw (by cases o <;> simp_all [VObj.writes, VObj.live]) hBj hB
      · exact hR.sep _ _ oj ok hj' hk' hjk hw hl hBj hBk
  · exact setRow_other _ _ _ _ (fun e => hno i o hi ⟨hown, hB⟩ e.symm)
  · rcases setV_get hj with ⟨rfl, rfl, _⟩ | ⟨hne, hj'⟩
    · exact .inl ⟨_, o, hi, ⟨hown, hB⟩, rfl⟩
    · exact .inl ⟨j, oj, hj', hoj, rfl⟩

/-- a block of one place turned: the place is another -/
theorem RepW.turn {V : VW} (hR : RepW env V w) {w' : World} {i : Nat} {o o' : VObj} (hi : V[i]? = some o) (ho : o.writes = true) (hB : hasB (env i) o) (hm : Mat env w' (env i) o') (hsc : ScO V.length o')
    (hk : ∀ k, k ≠ (env i).blk → w'.heap[k]? = w.heap[k]?) (hos : w'.os = w.os) (htp : w'.tape = w.tape) (hout : w'.output = w.output) (hsz : w'.heap.size = w.heap.size) :
    RepW env (V.set i o') w' ∧ Fr env V w env (V.set i o') w' := by
  have hown : o.owned = true := by cases o <;> simp_all [VObj.writes, VObj.owned]
  have hlive : o.live = true := by cases o <;> simp_all [VObj.writes, VObj.live]
  refine pairRF hR (fun j oj hj => ?_) (fun j oj hj => ?_) (fun j oj hj hBj => ?_) (fun j k oj ok hj hk2 hjk hw hl hBj hBk => ?_) ⟨fun _ _ => rfl, by simp, hos, htp, hout, by rw [hsz]; exact Nat.le_refl _, fun b hb hno => ?_, fun j oj hj hoj => ?_⟩
  · rcases setV_get hj with ⟨rfl, rfl, _⟩ | ⟨hne, hj'⟩
    · exact hm
    · cases hlv : oj.live with
      | false => exact (hR.mat j oj hj').still hlv
      | true => exact (hR.mat j oj hj').keep (fun hBj => hk _ (Ne.symm (hR.sep i j o oj hi hj' (Ne.symm hne) ho hlv hB hBj))) (hR.sc j oj hj') (fun _ _ => rfl)
  · rw [List.length_set]
    rcases setV_get hj with ⟨rfl, rfl, _⟩ | ⟨hne, hj'⟩
    · exact hsc
    · exact hR.sc j oj hj'
  · rw [hsz]
    rcases setV_get hj with ⟨rfl, rfl, _⟩ | ⟨hne, hj'⟩
    · exact hR.blk _ o hi hB
    · exact hR.blk j oj hj' hBj
  · rcases setV_get hj with ⟨rfl, rfl, _⟩ | ⟨hne, hj'⟩
    · rcases setV_get hk2 with ⟨rfl, rfl, _⟩ | ⟨hne, hk'⟩
      · exact absurd rfl hjk
      · exact hR.sep _ _ o ok hi hk' hjk ho hl hB hBk
    · rcases setV_get hk2 with ⟨rfl, rfl, _⟩ | ⟨hne, hk'⟩
      · exact hR.sep _ _ oj o hj' hi hjk hw hlive hBj hB
      · exact hR.sep _ _ oj ok hj' hk' hjk hw hl hBj hBk
  · exact hk _ (fun e => hno i o hi ⟨hown, hB⟩ e.symm)
  · rcases setV_get hj with ⟨rfl, rfl, _⟩ | ⟨hne, hj'⟩
    · exact .inl ⟨_, o, hi, ⟨hown, hB⟩, rfl⟩
    · exact .inl ⟨j, oj, hj', hoj, rfl⟩

theorem store_cells_ok {V : VW} (hR : RepW env V w) {t : TypeId} {p : Addr} {v : Value} {i : Nat} {t' : TypeId} {c' : List Value} (h : xstore P V t p v = .sto i t' c') (hsc : ∀ x ∈ c', Sc V.length x) :
    ∃ w', (storeVar t (renA env p) (ren env v)).run P w = .ok () w' ∧ RepW env (V.set i (.cells t' c')) w' ∧ Fr env V w env (V.set i (.cells t' c')) w' := by
  unfold xstore at h
  split at h
  · rename_i inf hc hcell hi
    split at h
    · rename_i hl
      split at h
      · rename_i tt c hv hs
        split at h
        · rename_i c'' hsp
          cases h
          obtain ⟨hle, rfl⟩ := splice_eq hsp
          obtain ⟨hh, hb⟩ := hR.mat _ _ hv
          have hrow := storeVar_row hi hl hc hcell env w (env p.block).blk p.off _ _ hh (by simpa using hle)
          have hra : renA env p = ⟨(env p.block).blk, p.off, none⟩ := by simp [renA, hs, hb]
          rw [hra, hrow]
          refine ⟨_, rfl, hR.setRow hv rfl rfl _ ⟨?_, hb⟩ hsc trivial⟩
          rw [setRow_heap w _ _ _ _ _ hh]
          simp [List.map_take, List.map_drop]
        · cases h
      · split at h <;> cases h
      · cases h
    · cases h
  · cases h

theorem store_rows_ok {V : VW} (hR : RepW env V w) {t : TypeId} {p : Addr} {v : Value} {i r : Nat} {q : Prop} {c' : List Value} (h : xstore P V t p v = .sob q i r c') (hq : q) (hsc : ∀ x ∈ c', Sc 0 x ∧ cellC x = true)
    {own : Bool} {t' : TypeId} {m n cap : Nat} {f : Nat → List Value} (hV : V[i]? = some (.rows own t' m n cap f)) :
    ∃ w', (storeVar t (renA env p) (ren env v)).run P w = .ok () w' ∧ RepW env (V.set i (.rows own t' m n cap fun j => if j = r then c' else f j)) w' ∧
      Fr env V w env (V.set i (.rows own t' m n cap fun j => if j = r then c' else f j)) w' := by
  unfold xstore at h
  split at h
  · rename_i inf hc hcell hi
    split at h
    · rename_i hl
      split at h
      · split at h <;> cases h
      · rename_i tt m' n' cap' f' r' hv hs
        split at h
        · rename_i c'' hsp
          cases h
          rw [hv] at hV
          cases hV
          obtain ⟨hle, rfl⟩ := splice_eq hsp
          obtain ⟨hm, hrows, hown⟩ := hR.mat _ _ hv
          obtain ⟨hb, cs, hh, hcs, hn⟩ := hown rfl
          have hlen := (hrows r hq).1
          have hrm : (r + 1) * m ≤ (env p.block).cap * m := Nat.mul_le_mul_right m (by omega)
          rw [Nat.add_mul, Nat.one_mul] at hrm
          have hle' : (r * m + p.off) + (vcells v).length ≤ cs.size := by omega
          have hrow := storeVar_row hi hl hc hcell env w (env p.block).blk (r * m + p.off) _ _ hh hle'
          have hra : renA env p = ⟨(env p.block).blk, r * m + p.off, none⟩ := by simp [renA, hs, hb, hm]
          rw [hra, hrow]
          refine ⟨_, rfl, hR.setRow hv rfl rfl _ ⟨hm, fun k hk => ⟨?_, ?_⟩, fun _ => ⟨hb, _, setRow_heap w _ _ _ _ _ hh, ?_, hn⟩⟩ ?_ trivial⟩
          · by_cases hkr : k = r
            · simp only [hkr, if_true]; simp; omega
            · simp only [hkr, if_false]; exact (hrows k hk).1
          · intro j u hu
            rw [cell_of_row _ _ _ _ _ _ (setRow_heap w _ _ _ _ _ hh)]
            have hlenm : (vcells v).length = ((vcells v).map (ren env)).length := by simp
            rw [List.getElem?_toArray, hlenm, take_app_drop _ _ _ (by simp; omega)]
            simp only [List.length_map, Array.getElem?_toList]
            by_cases hkr : k = r
            · subst hkr
              simp only [if_true] at hu
              rw [List.map_append, List.map_append, List.map_take, List.map_drop, hlenm] at hu
              rw [take_app_drop _ _ _ (by simp; omega)] at hu
              simp only [List.length_map] at hu
              rw [hb, Nat.zero_add]
              by_cases hin : p.off ≤ j ∧ j < p.off + (vcells v).length
              · rw [if_pos (by omega)]
                rw [if_pos hin] at hu
                rw [← hu]; congr 1; omega
              · rw [if_neg (by omega)]
                rw [if_neg hin] at hu
                have := (hrows k hk).2 j u hu
                rw [hb, Nat.zero_add, cell_of_row _ _ _ _ _ _ hh] at this
                exact this
            · simp only [hkr, if_false] at hu
              have hj : j < m := by
                have := (List.getElem?_eq_some_iff.1 hu).1
                simpa [(hrows k hk).1] using this
              have hne : ¬ (r * m + p.off ≤ (env p.block).base + k * m + j ∧ (env p.block).base + k * m + j < r * m + p.off + (vcells v).length) := by
                rw [hb]
                rcases Nat.lt_or_gt_of_ne hkr with hlt | hgt
                · have : (k + 1) * m ≤ r * m := Nat.mul_le_mul_right m (by omega)
                  rw [Nat.add_mul, Nat.one_mul] at this
                  omega
                · have : (r + 1) * m ≤ k * m := Nat.mul_le_mul_right m (by omega)
                  rw [Nat.add_mul, Nat.one_mul] at this
                  omega
              rw [if_neg hne]
              have := (hrows k hk).2 j u hu
              rw [cell_of_row _ _ _ _ _ _ hh] at this
              exact this
          · simp; omega
          · intro k hk x hx
            by_cases hkr : k = r
            · simp only [hkr, if_true] at hx; exact hsc x hx
            · simp only [hkr, if_false] at hx; exact hR.sc _ _ hv k hk x hx
        · cases h
      · cases h
    · cases h
  · cases h

/-! ### A new block -/
theorem RepW.allocO {V : VW} (hR : RepW env V w) {o : VObj} {ob : Obj} {m q : Nat} (hsc : ScO V.length o)
    (hm : ∀ env' : Nat → Loc, (∀ i, i < V.length → env' i = env i) → Mat env' (w.alloc ob) ⟨w.heap.size, 0, m, q⟩ o) :
    let env' : Nat → Loc := fun i => if i = V.length then ⟨w.heap.size, 0, m, q⟩ else env i
    RepW env' (V ++ [o]) (w.alloc ob) ∧ Fr env V w env' (V ++ [o]) (w.alloc ob) := by
  intro env'
  have hag : ∀ i, i < V.length → env' i = env i := fun i hi => by simp [env', Nat.ne_of_lt hi]
  have hget : ∀ {i : Nat} {o' : VObj}, (V ++ [o])[i]? = some o' → (i < V.length ∧ V[i]? = some o') ∨ (i = V.length ∧ o' = o) := by
    intro i o' h
    rw [List.getElem?_append] at h
    split at h
    · exact .inl ⟨‹_›, h⟩
    · right
      have : i - V.length = 0 := by
        rcases Nat.eq_zero_or_pos (i - V.length) with h0 | h0
        · exact h0
        · rw [List.getElem?_eq_none (by simp; omega)] at h; cases h
      rw [this] at h
      exact ⟨by omega, by simpa using h.symm⟩
  have hold : ∀ b, b < w.heap.size → (w.alloc ob).heap[b]? = w.heap[b]? := fun b hb => heap_alloc_old w _ b hb
  have hsz : (w.alloc ob).heap.size = w.heap.size + 1 := by show (w.heap.push _).size = _; simp
  refine pairRF hR (fun i o' h => ?_) (fun i o' h => ?_) (fun i oi h hBi => ?_) (fun i j oi oj h1 h2 hij hw hl hBi hBj => ?_) ⟨hag, by simp, rfl, rfl, rfl, by rw [hsz]; omega, fun b hb _ => hold b hb, fun i o' h ho => ?_⟩
  · rcases hget h with ⟨hi, h⟩ | ⟨rfl, rfl⟩
    · rw [hag i hi]
      exact (hR.mat i o' h).keep (fun hB => hold _ (hR.blk i o' h hB)) (hR.sc i o' h) hag
    · have : env' V.length = ⟨w.heap.size, 0, m, q⟩ := by simp [env']
      rw [this]
      exact hm env' hag
  · rw [List.length_append, List.length_singleton]
    have mono : ∀ o : VObj, ScO V.length o → ScO (V.length + 1) o := by
      intro o this
      cases o with
      | cells _ _ => exact fun x hx => (this x hx).mono (by omega)
      | rows _ _ _ _ _ _ => exact this
      | iter _ _ => trivial
      | mp es _ => exact fun e hm => ⟨(this e hm).1.mono (by omega), (this e hm).2.mono (by omega)⟩
      | mq _ => trivial
      | vec _ _ _ _ => exact this
      | arg _ _ _ _ => trivial
      | tab _ _ _ _ => trivial
      | raw _ _ _ _ _ _ => exact fun x hx v hv => ⟨(this x hx v hv).1.mono (by omega), (this x hx v hv).2⟩
      | dead => trivial
    rcases hget h with ⟨hi, h⟩ | ⟨rfl, rfl⟩
    · exact mono _ (hR.sc i o' h)
    · exact mono _ hsc
  · rw [hsz]
    rcases hget h with ⟨hi, h⟩ | ⟨rfl, rfl⟩
    · rw [hag i hi] at hBi ⊢
      have := hR.blk i oi h hBi
      omega
    · simp [env']
  · rcases hget h1 with ⟨hi, h1'⟩ | ⟨rfl, rfl⟩
    · rcases hget h2 with ⟨hj, h2'⟩ | ⟨rfl, rfl⟩
      · rw [hag i hi] at hBi ⊢; rw [hag j hj] at hBj ⊢; exact hR.sep i j oi oj h1' h2' hij hw hl hBi hBj
      · rw [hag i hi] at hBi ⊢
        have := hR.blk i oi h1' hBi
        simp [env']; omega
    · rcases hget h2 with ⟨hj, h2'⟩ | ⟨rfl, rfl⟩
      · rw [hag j hj] at hBj ⊢
        have := hR.blk j oj h2' hBj
        simp [env']; omega
      · exact absurd rfl hij
  · rcases hget h with ⟨hi, h⟩ | ⟨rfl, rfl⟩
    · left; rw [hag i hi] at ho ⊢; exact ⟨i, o', h, ho, rfl⟩
    · right; simp [env']

theorem RepW.alloc {V : VW} (hR : RepW env V w) {t : TypeId} {c : List Value} (hsc : ∀ x ∈ c, Sc V.length x) :
    let env' : Nat → Loc := fun i => if i = V.length then ⟨w.heap.size, 0, 1, 0⟩ else env i
    RepW env' (V ++ [.cells t c]) (w.alloc (.cells (c.map (ren env)).toArray t)) ∧ Fr env V w env' (V ++ [.cells t c]) (w.alloc (.cells (c.map (ren env)).toArray t)) :=
  hR.allocO hsc fun env' hag => ⟨by
    show (w.alloc _).heap[w.heap.size]? = _
    rw [heap_alloc_new, map_congr_sc hsc (fun i hi => (hag i hi).symm)], rfl⟩

theorem flatten_get : ∀ (rows : List (List Value)) (m r j : Nat), (∀ x ∈ rows, x.length = m) → r < rows.length → j < m → rows.flatten[r * m + j]? = (nth [] rows r)[j]?
  | [], m, r, j, _, hr, _ => by simp at hr
  | x :: xs, m, r, j, h, hr, hj => by
    have hx : x.length = m := h x (by simp)
    simp only [List.flatten_cons]
    cases r with
    | zero =>
      rw [List.getElem?_append_left (by omega)]
      simp [nth]
    | succ r =>
      have e : (r + 1) * m + j = m + (r * m + j) := by rw [Nat.add_mul]; omega
      rw [List.getElem?_append_right (by rw [e]; omega), hx, e, show m + (r * m + j) - m = r * m + j by omega]
      exact flatten_get xs m r j (fun y hy => h y (by simp [hy])) (by simpa using hr) hj

theorem RepW.allocRows {V : VW} (hR : RepW env V w) {t : TypeId} {m : Nat} {rows : List (List Value)} (hsc : ∀ x ∈ rows, ∀ v ∈ x, Sc 0 v ∧ cellC v = true) (hm : ∀ x ∈ rows, x.length = m) :
    let env' : Nat → Loc := fun i => if i = V.length then ⟨w.heap.size, 0, m, rows.length⟩ else env i
    RepW env' (V ++ [rowsObj t m rows]) (w.alloc (.cells (rows.flatten.map (ren env)).toArray t)) ∧ Fr env V w env' (V ++ [rowsObj t m rows]) (w.alloc (.cells (rows.flatten.map (ren env)).toArray t)) := by
  have hmem : ∀ r, r < rows.length → nth [] rows r ∈ rows := fun r hr => by rw [nth_eq]; simp [List.getD, hr]
  refine hR.allocO (fun r hr v hv => hsc _ (hmem r hr) v hv) fun env' hag => ⟨rfl, fun r hr => ⟨hm _ (hmem r hr), fun j v hv => ?_⟩, fun _ => ⟨rfl, _, heap_alloc_new w _, ?_, Nat.le_refl _, fun _ => rfl⟩⟩
  · have hj : j < m := by
      have := (List.getElem?_eq_some_iff.1 hv).1
      rw [List.length_map, hm _ (hmem r hr)] at this
      exact this
    rw [cell_of_row _ _ _ _ _ _ (heap_alloc_new w _)]
    simp only [List.getElem?_toArray, List.getElem?_map, Nat.zero_add]
    rw [flatten_get rows m r j hm hr hj, ← List.getElem?_map, map_congr_sc (fun v hv => (hsc _ (hmem r hr) v hv).1) (fun i hi => absurd hi (Nat.not_lt_zero i))]
    exact hv
  · simp only [List.size_toArray, List.length_map]
    have : ∀ (l : List (List Value)), (∀ x ∈ l, x.length = m) → l.flatten.length = l.length * m := by
      intro l
      induction l with
      | nil => intro _; simp
      | cons x xs ih =>
        intro h
        simp only [List.flatten_cons, List.length_append, List.length_cons]
        rw [ih (fun y hy => h y (by simp [hy])), h x (by simp), Nat.add_mul, Nat.one_mul, Nat.add_comm]
    exact this rows hm
end Go.X
