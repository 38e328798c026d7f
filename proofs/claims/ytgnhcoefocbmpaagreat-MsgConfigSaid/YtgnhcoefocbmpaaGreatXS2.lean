/- What the symbolic run says of the real one, second part: what single operations yield. -/
import Derived.Test.YtgnhcoefocbmpaaGreatXS1
set_option linter.unusedSectionVars false
set_option linter.unusedSimpArgs false
set_option linter.unusedVariables false
namespace Go.X
open Go
variable {P : Program}

theorem run_tinfo {t : TypeId} {i : TypeInfo} (h : P.info? t = some i) (w : World) : (typeInfo t).run P w = .ok i w := by simp [typeInfo, h]
theorem run_size {t : TypeId} {i : TypeInfo} (h : P.info? t = some i) (w : World) : (sizeOf t).run P w = .ok i.size w := by simp [sizeOf, typeInfo, h]
theorem run_zero {t : TypeId} {i : TypeInfo} {z : Value} (h : P.info? t = some i) (hz : i.zero = some z) (w : World) : (zeroValue t).run P w = .ok z w := by simp [zeroValue, typeInfo, h, hz]

theorem arr_map (f : Value → Value) (cs : Array Value) : cs.map f = (cs.toList.map f).toArray := by apply Array.ext'; simp

theorem drop_head {l : List Value} {n : Nat} {v : Value} (h : (l.drop n).head? = some v) : l[n]? = some v := by
  rw [List.head?_drop] at h; exact h

/-- a part of a row of cells, as the model takes it -/
theorem run_part {t : TypeId} {cs : List Value} {off : Nat} {v : Value} (env : Nat → Loc) (h : partOf P t cs off = some v) (w : World) :
    (part t (cs.map (ren env)).toArray off).run P w = .ok (ren env v) w := by
  unfold partOf at h
  have take_ok : ∀ {i : TypeInfo} {l : List Value}, take? i.size (cs.drop off) = some l → ((cs.map (ren env)).drop off).take i.size = l.map (ren env) := by
    intro i l hl
    unfold take? at hl
    split at hl
    · cases hl
      rw [← List.map_drop, ← List.map_take]
    · cases hl
  split at h
  · rename_i fs i hu hi
    cases hl : take? i.size (cs.drop off) with
    | none => simp [hl] at h
    | some l =>
      simp only [hl, Option.map_some, Option.some.injEq] at h
      subst h
      simp [part, isAgg, run_underlying hu, run_size hi, take_ok hl, ren_agg]
  · rename_i n e i hu hi
    cases hl : take? i.size (cs.drop off) with
    | none => simp [hl] at h
    | some l =>
      simp only [hl, Option.map_some, Option.some.injEq] at h
      subst h
      simp [part, isAgg, run_underlying hu, run_size hi, take_ok hl, ren_agg]
  · rename_i d i hns hna hu hi
    have hc := drop_head h
    have hagg : (isAgg t).run P w = .ok false w := by
      unfold isAgg
      rw [Sem.run_bind, run_underlying hu]
      cases d <;> simp_all
    simp [part, hagg, hc]
  · cases h

theorem isAgg_of {t : TypeId} {d : TypeDesc} (hu : P.underlying t = some d) (hns : ∀ fs, d ≠ .struct fs) (hna : ∀ n e, d ≠ .array n e) (w : World) : (isAgg t).run P w = .ok false w := by
  unfold isAgg
  rw [Sem.run_bind, run_underlying hu]
  cases d <;> simp_all

/-- a load of a variable whose cells are known -/
theorem run_loadVar_of {t : TypeId} {cs : List Value} {off : Nat} {v : Value} {env : Nat → Loc} {w : World} {b o : Nat} (h : partOf P t cs off = some v)
    (hc : w.rangeAt b o (cs.map (ren env))) : (loadVar t ⟨b, o + off, none⟩).run P w = .ok (ren env v) w := by
  unfold partOf at h
  have go : ∀ {d : TypeDesc} {i : TypeInfo}, P.underlying t = some d → d.isRow = true → P.info? t = some i → ∀ l, take? i.size (cs.drop off) = some l → v = .agg ⟨l⟩ →
      (loadVar t ⟨b, o + off, none⟩).run P w = .ok (ren env v) w := by
    intro d i hu hd hi l hl hv
    unfold take? at hl
    split at hl
    · rename_i hlen
      cases hl
      subst hv
      have := run_loadVar_mid (P := P) w b (o + off) t (((cs.drop off).take i.size).map (ren env)) d (fun j v hv => by
        have : (cs.map (ren env))[off + j]? = some v := by
          simp only [List.getElem?_map, List.getElem?_take, List.getElem?_drop] at hv ⊢
          split at hv
          · exact hv
          · simp at hv
        have := hc _ _ this
        rwa [show o + off + j = o + (off + j) by omega]) hu hd (by simp [hi]; simpa using hlen.symm)
      rw [this, ren_agg]
      simp
    · cases hl
  split at h
  · rename_i fs i hu hi
    cases hl : take? i.size (cs.drop off) with
    | none => simp [hl] at h
    | some l => simp only [hl, Option.map_some, Option.some.injEq] at h; exact go hu rfl hi l hl h.symm
  · rename_i n e i hu hi
    cases hl : take? i.size (cs.drop off) with
    | none => simp [hl] at h
    | some l => simp only [hl, Option.map_some, Option.some.injEq] at h; exact go hu rfl hi l hl h.symm
  · rename_i d i hns hna hu hi
    have hcell := drop_head h
    have := hc off (ren env v) (by simp [hcell])
    have hagg := isAgg_of hu (fun fs e => hns fs e) (fun n e' e => hna n e' e) w
    simp [loadVar, hagg, this]
  · cases h

/-- the same of its real cells -/
theorem run_loadVar_real {t : TypeId} {cs : List Value} {off : Nat} {v : Value} {w : World} {b o : Nat} (h : partOf P t cs off = some v)
    (hc : w.rangeAt b o cs) : (loadVar t ⟨b, o + off, none⟩).run P w = .ok v w := by
  unfold partOf at h
  have go : ∀ {d : TypeDesc} {i : TypeInfo}, P.underlying t = some d → d.isRow = true → P.info? t = some i → ∀ l, take? i.size (cs.drop off) = some l → v = .agg ⟨l⟩ →
      (loadVar t ⟨b, o + off, none⟩).run P w = .ok v w := by
    intro d i hu hd hi l hl hv
    unfold take? at hl
    split at hl
    · rename_i hlen
      cases hl
      subst hv
      have := run_loadVar_mid (P := P) w b (o + off) t ((cs.drop off).take i.size) d (fun j v hv => by
        have : cs[off + j]? = some v := by
          simp only [List.getElem?_take, List.getElem?_drop] at hv ⊢
          split at hv
          · exact hv
          · simp at hv
        have := hc _ _ this
        rwa [show o + off + j = o + (off + j) by omega]) hu hd (by simp [hi]; simpa using hlen.symm)
      rw [this]
    · cases hl
  split at h
  · rename_i fs i hu hi
    cases hl : take? i.size (cs.drop off) with
    | none => simp [hl] at h
    | some l => simp only [hl, Option.map_some, Option.some.injEq] at h; exact go hu rfl hi l hl h.symm
  · rename_i n e i hu hi
    cases hl : take? i.size (cs.drop off) with
    | none => simp [hl] at h
    | some l => simp only [hl, Option.map_some, Option.some.injEq] at h; exact go hu rfl hi l hl h.symm
  · rename_i d i hns hna hu hi
    have hcell := drop_head h
    have := hc off v hcell
    have hagg := isAgg_of hu (fun fs e => hns fs e) (fun n e' e => hna n e' e) w
    simp [loadVar, hagg, this]
  · cases h

/-! ### Equality -/
def EqOk (P : Program) (eq : TypeId → Value → Value → Option Bool) (d : Nat) : Prop :=
  ∀ (env : Nat → Loc) t x y b, eq t x y = some b → ∀ w, (Op.equalIn d t (ren env x) (ren env y)).run P w = .ok b w

theorem eqFields_run {eq : TypeId → Value → Value → Option Bool} {d : Nat} (he : EqOk P eq d) (env : Nat → Loc) {xs ys : List Value} :
    ∀ (fs : List Field) (b : Bool), veqF P eq xs ys fs = some b → ∀ w, (Op.eqFields d (xs.map (ren env)).toArray (ys.map (ren env)).toArray fs).run P w = .ok b w
  | [], b, h, w => by simp [veqF] at h; subst h; simp [Op.eqFields]
  | f :: fs, b, h, w => by
    simp only [veqF] at h
    split at h
    · cases h
    · rename_i hn
      split at h
      · rename_i x y hx hy
        split at h
        · rename_i b1 b2 h1 h2
          cases h
          have ih := eqFields_run he env fs b2 h2 w
          simp only [Op.eqFields, ne_eq, hn, not_false_eq_true, if_true, Sem.run_bind, run_part env hx, run_part env hy, Result.andThen_ok, he env _ _ _ _ h1]
          cases b1 <;> simp [ih]
        · cases h
      · cases h

theorem veq_ok : ∀ d k, EqOk P (veq P d) (d + k)
  | 0, k => fun env t x y b h => by simp [veq] at h
  | d + 1, k => fun env t x y b h w => by
    have ih := veq_ok d k
    rw [show d + 1 + k = (d + k) + 1 by omega]
    simp only [veq] at h
    split at h
    · rename_i a b' hu; cases h; simp [run_equalIn_bool' w (d + k) t _ _ hu]
    · rename_i kk k1 a k2 b' hu
      split at h
      · rename_i hk; cases h; subst hk; simp [run_equalIn_int w (d + k) t _ _ _ _ hu]
      · cases h
    · rename_i a b' hu; cases h; simp only [ren_string, run_equalIn_string w (d + k) t _ _ hu, Go.ByteArray.toList_eq]
    · rename_i fs xs ys hu
      split at h
      · cases h
      · rename_i hs
        have hf : P.fieldsOf t = fs := by simp [Program.fieldsOf, hu]
        rw [ren_agg, ren_agg, run_equalIn_struct w (d + k) t _ _ (by rw [hf]; exact hu) hs, hf]
        have := eqFields_run ih env fs.toList b h w
        rwa [← arr_map, ← arr_map] at this
    · rename_i e b' hu; cases h
      cases b' <;> simp [Op.equalIn, run_underlying hu, ren_ptr]
    · rename_i e a hna hu; cases h
      cases a <;> simp [Op.equalIn, run_underlying hu, ren_ptr]
    · rename_i e l c b' l' c' hu
      cases b' with
      | none => cases h; simp [Op.equalIn, run_underlying hu]
      | some a =>
        simp only [nilq] at h
        split at h
        · rename_i hoff
          cases h
          rw [ren_slice env _ _ (Nat.blt_eq ▸ hoff)]
          simp [Op.equalIn, run_underlying hu]
        · cases h
    · rename_i e a l c l' c' hna hu
      cases a with
      | none => cases h; simp [Op.equalIn, run_underlying hu]
      | some a =>
        simp only [nilq] at h
        split at h
        · rename_i hoff
          cases h
          rw [ren_slice env _ _ (Nat.blt_eq ▸ hoff)]
          simp [Op.equalIn, run_underlying hu]
        · cases h
    · rename_i e e' b' hu; cases h
      cases b' <;> simp [Op.equalIn, run_underlying hu, ren_map]
    · rename_i e e' a hna hu; cases h
      cases a <;> simp [Op.equalIn, run_underlying hu, ren_map]
    · rename_i hu; cases h; simp [Op.equalIn, run_underlying hu]
    · rename_i hu; cases h; simp [Op.equalIn, run_underlying hu, ren_func]
    · rename_i hu; cases h; simp [Op.equalIn, run_underlying hu, ren_func]
    · rename_i hu; cases h; simp [Op.equalIn, run_underlying hu, ren_iface]
    · rename_i hu; cases h; simp [Op.equalIn, run_underlying hu, ren_iface]
    · rename_i m t1 a' t2 b' hu
      split at h
      · rename_i hb
        have hne : t1 ≠ t2 := fun e => by subst e; rw [Nat.beq_refl] at hb; cases hb
        cases h
        simp [Op.equalIn, run_underlying hu, ren_iface, hne]
      · rename_i hb
        have := Nat.eq_of_beq_eq_true hb
        subst this
        split at h
        · rename_i i hi
          split at h
          · rename_i hc
            have := ih env _ _ _ _ h w
            simp [Op.equalIn, run_underlying hu, ren_iface, typeInfo, hi, hc, this]
          · cases h
        · cases h
    · cases h

end Go.X
