/- What the symbolic run says of the real one, third part: what single operations yield, all of them. -/
import Derived.Test.YtgnhcoefocbmpaaGreatXS2
set_option linter.unusedSimpArgs false
set_option linter.unusedSectionVars false
set_option linter.unusedVariables false
namespace Go.X
open Go
variable [WI] [WD]
variable {P : Program}

/-- 'val v', or 'ob p v' with p -/
def Gives (r : Res) (v : Value) : Prop := r = .val v ∨ ∃ p, r = .ob p v ∧ p

theorem Gives.val_iff {v u : Value} : Gives (.val v) u ↔ v = u := by simp [Gives]
theorem Gives.ob_iff {p : Prop} {v u : Value} : Gives (.ob p v) u ↔ v = u ∧ p := by
  simp only [Gives]
  constructor
  · rintro (h | ⟨q, h, hq⟩)
    · cases h
    · cases h; exact ⟨rfl, hq⟩
  · rintro ⟨rfl, hp⟩; exact .inr ⟨p, rfl, hp⟩
theorem Gives.bad {u : Value} : Gives .bad u ↔ False := ⟨(by rintro (h | ⟨q, h, hq⟩) <;> cases h), False.elim⟩
theorem Gives.sto {u : Value} {i t o} : Gives (.sto i t o) u ↔ False := ⟨(by rintro (h | ⟨q, h, hq⟩) <;> cases h), False.elim⟩
theorem Gives.sob {u : Value} {p i r o} : Gives (.sob p i r o) u ↔ False := ⟨(by rintro (h | ⟨q, h, hq⟩) <;> cases h), False.elim⟩
theorem Gives.alc {u : Value} {t o} : Gives (.alc t o) u ↔ False := ⟨(by rintro (h | ⟨q, h, hq⟩) <;> cases h), False.elim⟩
theorem Gives.alr {u : Value} {t m o} : Gives (.alr t m o) u ↔ False := ⟨(by rintro (h | ⟨q, h, hq⟩) <;> cases h), False.elim⟩
theorem Gives.call {u : Value} {f l} : Gives (.call f l) u ↔ False := ⟨(by rintro (h | ⟨q, h, hq⟩) <;> cases h), False.elim⟩
theorem Gives.new {u : Value} {p os v} : Gives (.new p os v) u ↔ False := ⟨(by rintro (h | ⟨q, h, hq⟩) <;> cases h), False.elim⟩
theorem Gives.cpy {u : Value} {p i o v} : Gives (.cpy p i o v) u ↔ False := ⟨(by rintro (h | ⟨q, h, hq⟩) <;> cases h), False.elim⟩
theorem Gives.opt {o : Option Value} {u : Value} : Gives (.ofOpt o) u ↔ o = some u := by
  cases o <;> simp [Res.ofOpt, Gives]

/-- a value, and new places -/
def GivesN (r : Res) (os : List VObj) (v : Value) : Prop := (os = [] ∧ Gives r v) ∨ ∃ p, r = .new p os v ∧ p

theorem eqGuard_ints (op : BinOp) (t : TypeId) (x y : Operand) (k k' : IntKind) (a b : Int) (w : World) : (eqGuard op t x y (.int k a) (.int k' b)).run P w = .ok () w := by
  cases op <;> simp [eqGuard]
theorem eqGuard_strings (op : BinOp) (t : TypeId) (x y : Operand) (a b : ByteArray) (w : World) : (eqGuard op t x y (.string a) (.string b)).run P w = .ok () w := by
  cases op <;> simp [eqGuard]
theorem eqGuard_other (op : BinOp) (t : TypeId) (x y : Operand) (a b : Value) (h1 : ¬ (a = .nilIface ∧ b = .nilIface)) (h2 : ∀ c d, ¬ (a = .agg c ∧ b = .agg d)) (w : World) :
    (eqGuard op t x y a b).run P w = .ok () w := by
  cases op <;> first | (simp [eqGuard]; done) | skip
  all_goals
    cases a <;> first | (simp [eqGuard]; done) | skip
    case nilIface => cases b <;> first | (simp [eqGuard]; done) | exact absurd ⟨rfl, rfl⟩ h1
    case agg c => cases b <;> first | (simp [eqGuard]; done) | exact absurd ⟨rfl, rfl⟩ (h2 _ _)

def numeric : Value → Bool
  | .int .. | .string _ | .float .. | .complex .. => true
  | _ => false

theorem binOp_eql {t : TypeId} {x y : Value} (h : numeric x = false) : binOp .eql t x y = (do pure (.bool (← Op.equal t x y))) := by
  cases x <;> first | rfl | (simp [numeric] at h; done)
theorem binOp_neq {t : TypeId} {x y : Value} (h : numeric x = false) : binOp .neq t x y = (do pure (.bool (!(← Op.equal t x y)))) := by
  cases x <;> first | rfl | (simp [numeric] at h; done)

theorem ren_numeric (env : Nat → Loc) (x : Value) : numeric (ren env x) = numeric x := by
  cases x <;> first | (simp [numeric, ren_agg, ren_tuple, ren_iface, ren_func, ren]; done) | skip
  case pointer a => cases a <;> simp [numeric, ren_ptr]
  case slice a l c =>
    cases a with
    | none => simp [numeric]
    | some a => obtain ⟨p, c', h⟩ := ren_slice_form env a l c; rw [h]; simp [numeric]
  case map a => cases a <;> simp [numeric, ren_map]

theorem ren_agg_inv {env : Nat → Loc} {x : Value} {c : Array Value} (h : ren env x = .agg c) : ∃ c', x = .agg c' := by
  cases x <;> first | exact ⟨_, rfl⟩ | (simp [ren_tuple, ren_iface, ren_func, ren] at h; done) | skip
  case pointer a => cases a <;> simp [ren_ptr] at h
  case slice a l c =>
    cases a with
    | none => simp at h
    | some a => obtain ⟨p, c', h'⟩ := ren_slice_form env a l c; rw [h'] at h; cases h
  case map a => cases a <;> simp [ren_map] at h

theorem ren_nilIface_inv {env : Nat → Loc} {x : Value} (h : ren env x = .nilIface) : x = .nilIface := by
  cases x <;> first | rfl | (simp [ren_agg, ren_tuple, ren_iface, ren_func, ren] at h; done) | skip
  case pointer a => cases a <;> simp [ren_ptr] at h
  case slice a l c =>
    cases a with
    | none => simp at h
    | some a => obtain ⟨p, c', h'⟩ := ren_slice_form env a l c; rw [h'] at h; cases h
  case map a => cases a <;> simp [ren_map] at h

theorem veq_not_nils {d : Nat} {t : TypeId} {b : Bool} (h : veq P d t .nilIface .nilIface = some b) : False := by
  cases d with
  | zero => simp [veq] at h
  | succ d =>
    simp only [veq] at h
    cases hu : P.underlying t with
    | none => simp [hu] at h
    | some u => cases u <;> simp [hu] at h

theorem xeq_run {t : TypeId} {x y : Value} {b : Bool} (env : Nat → Loc) (h : xeq P t x y = some b) (op : BinOp) (ox oy : Operand) (w : World) :
    numeric x = false ∧ (eqGuard op t ox oy (ren env x) (ren env y)).run P w = .ok () w ∧ (Op.equal t (ren env x) (ren env y)).run P w = .ok b w := by
  have main : ∀ b', veq P 20 t x y = some b' → (Op.equal t (ren env x) (ren env y)).run P w = .ok b' w := fun b' hb => by
    unfold Op.equal Op.maxDepth
    exact veq_ok 20 9980 env t x y b' hb w
  unfold xeq at h
  split at h
  · rename_i xs ys
    split at h
    · cases h
    · rename_i hg
      refine ⟨rfl, ?_, main _ h⟩
      rw [ren_agg, ren_agg]
      exact run_eqGuard_agg w op t ox oy _ _ hg
  · cases h
  · cases h
  · cases h
  · cases h
  · rename_i h1 h2 h3 h4 h5
    have hn : numeric x = false := by
      cases x <;> first | rfl | (exfalso; simp_all; done)
    refine ⟨hn, eqGuard_other op t ox oy _ _ ?_ ?_ w, main _ h⟩
    · rintro ⟨ha, hb⟩
      have ha := ren_nilIface_inv ha
      have hb := ren_nilIface_inv hb
      subst ha; subst hb
      exact veq_not_nils h
    · rintro c d ⟨ha, hb⟩
      obtain ⟨c', hc⟩ := ren_agg_inv ha
      obtain ⟨d', hd⟩ := ren_agg_inv hb
      subst hc; subst hd; simp_all

theorem xbin_run {op : BinOp} {t : TypeId} {x y v : Value} (env : Nat → Loc) (h : Gives (xbin P op t x y) v) (ox oy : Operand) (w : World) :
    (do eqGuard op t ox oy (ren env x) (ren env y); binOp op t (ren env x) (ren env y)).run P w = .ok (ren env v) w := by
  unfold xbin at h
  split at h
  · rename_i k a k' b
    simp only [ren_int, Sem.run_bind, eqGuard_ints, Result.andThen_ok]
    cases op <;> simp only [Gives.val_iff, Gives.ob_iff, Gives.bad] at h <;> first | exact h.elim | skip
    case shl => obtain ⟨rfl, hb⟩ := h; simp [binOp, Op.shift, show ¬ b < 0 by omega]
    case shr => obtain ⟨rfl, hb⟩ := h; simp [binOp, Op.shift, show ¬ b < 0 by omega]
    all_goals
      split at h
      · rename_i hk
        subst hk
        simp only [Gives.val_iff, Gives.ob_iff, Gives.bad] at h
        first
          | (subst h; simp [binOp, Op.intArith, Op.intCmp, Op.intBits]; done)
          | (obtain ⟨rfl, hb⟩ := h; simp [binOp, Op.intDiv, hb]; done)
      · simp only [Gives.bad] at h
  · rename_i a b
    simp only [ren_string, Sem.run_bind, eqGuard_strings, Result.andThen_ok]
    cases op <;> simp only [Gives.val_iff, Gives.ob_iff, Gives.bad] at h <;> first | exact h.elim | skip
    case add => obtain ⟨rfl, hb⟩ := h; simp only [binOp, Op.stringOp]; rw [if_neg (by omega)]; simp
    all_goals (subst h; simp [binOp, Op.stringOp, Go.ByteArray.toList_eq])
  · cases op <;> simp only [Gives.bad] at h
    case eql =>
      split at h
      · rename_i b hb
        simp only [Gives.val_iff] at h
        subst h
        obtain ⟨hn, h1, h2⟩ := xeq_run env hb .eql ox oy w
        rw [binOp_eql (by rw [ren_numeric]; exact hn)]
        simp [h1, h2]
      · simp only [Gives.bad] at h
    case neq =>
      split at h
      · rename_i b hb
        simp only [Gives.val_iff] at h
        subst h
        obtain ⟨hn, h1, h2⟩ := xeq_run env hb .neq ox oy w
        rw [binOp_neq (by rw [ren_numeric]; exact hn)]
        simp [h1, h2]
      · simp only [Gives.bad] at h

theorem xbinN_run {op : BinOp} {t : TypeId} {x y v : Value} (env : Nat → Loc) (ox oy : Operand) (h : Gives (xbinN P op t (match isK ox with | true => true | false => isK oy) x y) v) (w : World) :
    (do eqGuard op t ox oy (ren env x) (ren env y); binOp op t (ren env x) (ren env y)).run P w = .ok (ren env v) w := by
  unfold xbinN at h
  split at h
  · rename_i r hr
    rw [Gives.val_iff] at h
    subst h
    have hg : ∀ op', (match isK ox with | true => true | false => isK oy) = true → (eqGuard op' t ox oy .nilIface .nilIface).run P w = .ok () w := by
      intro op' hl
      cases ox <;> cases oy <;> simp [isK] at hl <;> cases op' <;> simp [eqGuard]
    have he : ∀ m, P.underlying t = some (.interface m) → (Op.equal t .nilIface .nilIface).run P w = .ok true w := fun m hu => by
      have key : ∀ d, (Op.equalIn (d + 1) t .nilIface .nilIface).run P w = .ok true w := fun d => by simp [Op.equalIn, run_underlying hu]
      unfold Op.equal Op.maxDepth
      exact key 9999
    generalize hlit : (match isK ox with | true => true | false => isK oy) = lit at hr
    unfold xnil at hr
    split at hr
    · rename_i hu
      cases hr
      simp only [ren_nilIface, ren_bool, Sem.run_bind, hg .eql hlit, Result.andThen_ok]
      rw [binOp_eql rfl]
      simp [he _ hu]
    · rename_i hu
      cases hr
      simp only [ren_nilIface, ren_bool, Sem.run_bind, hg .neq hlit, Result.andThen_ok]
      rw [binOp_neq rfl]
      simp [he _ hu]
    · cases hr
  · exact xbin_run env h ox oy w

/-! ### build -/
theorem foldl_splice (cs : List Value) : ∀ (off : Nat) (new : List Value), off + new.length ≤ cs.length →
    (new.toArray.zipIdx.foldl (fun (a : Array Value) (x : Value × Nat) => a.setIfInBounds (off + x.2) x.1) cs.toArray) = (cs.take off ++ new ++ cs.drop (off + new.length)).toArray := by
  intro off new
  have key : ∀ (new : List Value) (k : Nat) (cs : List Value), off + k + new.length ≤ cs.length →
      (new.zipIdx k).foldl (fun (a : Array Value) (x : Value × Nat) => a.setIfInBounds (off + x.2) x.1) cs.toArray = (cs.take (off + k) ++ new ++ cs.drop (off + k + new.length)).toArray := by
    intro new
    induction new with
    | nil => intro k cs h; simp
    | cons v vs ih =>
      intro k cs h
      simp only [List.length_cons] at h
      simp only [List.zipIdx_cons, List.foldl_cons, List.setIfInBounds_toArray]
      rw [ih (k + 1) (cs.set (off + k) v) (by simp; omega)]
      congr 1
      have e1 : (cs.set (off + k) v).take (off + (k + 1)) = cs.take (off + k) ++ [v] := by
        apply List.ext_getElem?
        intro j
        simp only [List.getElem?_take, List.getElem?_set, List.getElem?_append, List.length_take, List.getElem?_cons, List.getElem?_nil]
        by_cases hj : j < off + k
        · simp [hj, show j < off + (k + 1) by omega, show off + k ≠ j by omega, show j < cs.length by omega]
          intro hx; omega
        · by_cases hj2 : j = off + k
          · subst hj2; simp [show min (off + k) cs.length = off + k by omega, show off + k < cs.length by omega, show off + k < off + (k + 1) by omega]
          · simp [show ¬ j < off + (k + 1) by omega, show ¬ j < min (off + k) cs.length by omega, show j - min (off + k) cs.length ≠ 0 by omega]
      have e2 : (cs.set (off + k) v).drop (off + (k + 1) + vs.length) = cs.drop (off + k + (vs.length + 1)) := by
        rw [List.drop_set, if_pos (by omega)]
        congr 1; omega
      rw [e1, e2]
      simp
  intro h
  have := key new 0 cs (by simpa using h)
  simpa [← Array.foldl_toList] using this

theorem fill_ren (env : Nat → Loc) (pl : Nat → Option (Nat × Nat)) (places : List (Nat × Nat)) (hpl : ∀ i x, places[i]? = some x → pl i = some x) :
    ∀ (parts : List (Nat × Value)) (cells l : List Value), fillL places cells parts = some l →
      Instr.fill pl ((cells.map (ren env)).toArray) (parts.map fun x => (x.1, ren env x.2)) = some (l.map (ren env)).toArray
  | [], cells, l, h => by simp [fillL] at h; subst h; simp [Instr.fill]
  | (i, v) :: rest, cells, l, h => by
    simp only [fillL] at h
    split at h
    · cases h
    · rename_i off size hp
      split at h
      · rename_i hlen
        split at h
        · rename_i c hc hs
          have ih := fill_ren env pl places hpl rest c l h
          simp only [List.map_cons, Instr.fill, hpl _ _ hp]
          have hcells := vcells_ren env hc
          unfold splice at hs
          split at hs
          · rename_i hle
            cases hs
            have hsz : (ren env v).cells.size = size := by rw [hcells]; simpa using hlen
            rw [if_neg (by rw [hcells]; simp; omega)]
            rw [hcells]
            have := foldl_splice (cells.map (ren env)) off ((vcells v).map (ren env)) (by simpa using hle)
            rw [this]
            rw [← ih]
            congr 2
            simp [List.map_take, List.map_drop]
          · cases hs
        · cases h
      · cases h

theorem placesOf_ok : ∀ (fs : List Field) (pl : List (Nat × Nat)), placesOf P fs = some pl → fs.mapM (fun f => (P.info? f.type).map fun i => (f.offset, i.size)) = some pl
  | [], pl, h => by simp [placesOf] at h; subst h; simp
  | f :: fs, pl, h => by
    simp only [placesOf] at h
    split at h
    · rename_i i l hi hl
      cases h
      have := placesOf_ok fs l hl
      simp [List.mapM_cons, hi, this]
    · cases h

theorem xbuild_run {t : TypeId} {parts : List (Nat × Value)} {v : Value} (env : Nat → Loc) (h : Gives (xbuild P t parts) v) (w : World) (parts' : Array (Nat × Value))
    (hp : parts'.toList = parts.map fun x => (x.1, ren env x.2)) : (Instr.build t parts').run P w = .ok (ren env v) w := by
  unfold xbuild at h
  split at h
  · rename_i i fs hi hu
    split at h
    · rename_i z pl hz hpl
      split at h
      · rename_i l hpc hc hf
        simp only [Gives.val_iff] at h
        subst h
        rw [run_build w t parts' (l.map (ren env)).toArray ?_]
        · simp [ren_agg]
        · have hfill := fill_ren env (pl.toArray[·]?) pl (fun i x hx => by simpa using hx) parts (vcells z) l hf
          rw [map_ren_plain env hpc] at hfill
          have hzc := vcells_ren env hc
          have hzz : z.cells = (vcells z).toArray := by
            cases z <;> simp_all [vcells, Value.cells, isC]
          unfold Program.built
          simp only [hi, hu, hz, placesOf_ok _ _ hpl, hzz, hp, hfill]
      · simp only [Gives.bad] at h
    · simp only [Gives.bad] at h
  · rename_i i n e hi hu
    split at h
    · rename_i z ie hz hie
      split at h
      · rename_i l hpc hc hf
        simp only [Gives.val_iff] at h
        subst h
        rw [run_build w t parts' (l.map (ren env)).toArray ?_]
        · simp [ren_agg]
        · have hfill := fill_ren env (fun i => some (i * ie.size, ie.size)) _ (fun i x hx => by
            simp only [List.getElem?_map, List.getElem?_range] at hx
            cases hr : (List.range (vcells z).length)[i]? with
            | none => simp [hr] at hx
            | some j =>
              have : j = i := by
                obtain ⟨hlt, hj⟩ := List.getElem?_eq_some_iff.1 hr
                simpa using hj.symm
              subst this
              simpa [hr] using hx) parts (vcells z) l hf
          rw [map_ren_plain env hpc] at hfill
          have hzz : z.cells = (vcells z).toArray := by
            cases z <;> simp_all [vcells, Value.cells, isC]
          unfold Program.built
          simp only [hi, hu, hz, hie, hzz, hp, hfill]
      · simp only [Gives.bad] at h
    · simp only [Gives.bad] at h
  · simp only [Gives.bad] at h
end Go.X
