/- What the symbolic run says of the real one, fourth part: each operation that yields a value; stores; new blocks. -/
import Derived.Test.YtgnhcoefocbmpaaGreatXS3
import Derived.Laws.Slices
import Derived.Laws.BytesString
import Derived.Laws.Append
set_option linter.unusedSimpArgs false
set_option linter.unusedSectionVars false
set_option linter.unusedVariables false
namespace Go.X
open Go
variable [WI] [WD]
variable {P : Program} {env : Nat → Loc} {S : VSt} {a : Act} {w : World}

theorem rowsAt {V : VW} (hR : RepW env V w) {i : Nat} {own t m n cap f} (h : V[i]? = some (.rows own t m n cap f)) {r : Nat} (hr : r < n) :
    w.rangeAt (env i).blk ((env i).base + r * (env i).m) ((f r).map (ren env)) := by
  have := hR.mat i _ h
  obtain ⟨hm, hrow, _⟩ := this
  rw [hm]
  exact (hrow r hr).2

theorem vecAt {V : VW} (hR : RepW env V w) {i : Nat} {t m n f} (h : V[i]? = some (.vec t m n f)) {r : Nat} (hr : r < n) :
    (env i).cap ≠ 0 ∧ (env i).m = m ∧ (f r).length = m ∧ w.rangeAt (env i).blk ((env i).base + r * (env i).m) ((f r).map (ren env)) := by
  obtain ⟨hm, h0, h1⟩ := hR.mat i _ h
  have hc : (env i).cap ≠ 0 := fun hc => by have := h0 hc; omega
  obtain ⟨hrow, _⟩ := h1 hc
  exact ⟨hc, hm, (hrow r hr).1, by rw [hm]; exact (hrow r hr).2⟩

theorem argAt {V : VW} (hR : RepW env V w) {i : Nat} {t m n f} (h : V[i]? = some (.arg t m n f)) {r : Nat} (hr : r < n) :
    2 ≤ (env i).cap ∧ (env i).m = m ∧ (f r).length = m ∧ (f r).all plainC = true ∧ w.rangeAt (env i).blk ((env i).base + r * (env i).m) ((f r).map (ren env)) := by
  obtain ⟨h0, h2, h1⟩ := hR.mat i _ h
  have hc : 2 ≤ (env i).cap := Nat.le_of_not_lt fun hc => by have := h0 hc; omega
  have hm := (h2 hc).1
  obtain ⟨h2, h3, h4⟩ := h1 r hr
  exact ⟨hc, hm, h2, h3, by rw [map_ren_plain env h3, hm]; exact h4⟩

theorem tabAt {V : VW} (hR : RepW env V w) {i : Nat} {t m n f} (h : V[i]? = some (.tab t m n f)) {r : Nat} (hr : r < n) :
    2 ≤ (env i).cap ∧ (env i).m = m ∧ (f r).length = m ∧ ∀ (j : Nat) (c : ACell), (f r)[j]? = some c → ∃ u, w.cell? ⟨(env i).blk, (env i).base + r * (env i).m + j, none⟩ = some u ∧ ARead c u := by
  obtain ⟨h0, h2, h1⟩ := hR.mat i _ h
  have hc : 2 ≤ (env i).cap := Nat.le_of_not_lt fun hc => by have := h0 hc; omega
  have hm := (h2 hc).1
  obtain ⟨h2, h3⟩ := h1 w hR.inv r hr
  exact ⟨hc, hm, h2, fun j c hj => by rw [hm]; exact h3 j c hj⟩

theorem slice3 (env : Nat → Loc) {p : Addr} (len c : Nat) (ho : p.off = 3) (hcap : 2 ≤ (env p.block).cap) : ren env (.slice (some p) len c) = .slice (some (renA env { p with off := 0 })) len ((env p.block).cap - 1 - p.spot.getD 0) := by
  rw [ren_slice3 env _ _ ho]
  match hcc : (env p.block).cap, hcap with
  | k + 2, _ => simp
theorem slice30 (env : Nat → Loc) {p : Addr} (len c : Nat) (ho : p.off = 3) (hcap : (env p.block).cap = 0) : ren env (.slice (some p) len c) = .slice none len 0 := by
  rw [ren_slice3 env _ _ ho, hcap]
theorem slice31 (env : Nat → Loc) {p : Addr} (len c : Nat) (ho : p.off = 3) (hcap : (env p.block).cap = 1) : ren env (.slice (some p) len c) = .slice (some ⟨(env p.block).blk, (env p.block).base, spotOf (env p.block).m⟩) len 0 := by
  rw [ren_slice3 env _ _ ho, hcap]
theorem cap3 (c : Nat) : c = 0 ∨ c = 1 ∨ 2 ≤ c := by omega

theorem cellsAt {V : VW} (hR : RepW env V w) {i : Nat} {t c} (h : V[i]? = some (.cells t c)) :
    w.rangeAt (env i).blk (env i).base (c.map (ren env)) := fun j v hv => by
  have := hR.mat i _ h
  obtain ⟨hh, hb⟩ := this
  rw [hb, Nat.zero_add, cell_of_row w _ j _ _ _ hh]
  simpa using hv

theorem rawAt {V : VW} (hR : RepW env V w) {i : Nat} {t m n cap f hs} (h : V[i]? = some (.raw t m n cap f hs)) {r : Nat} (hr : r < n) :
    w.rangeAt (env i).blk ((env i).base + r * (env i).m) (rawRow env f hs r) := by
  obtain ⟨_, hm, hrow, _⟩ := hR.mat i _ h
  rw [hm]
  exact (hrow r hr).2.2

theorem ren_vcells (env : Nat → Loc) {v : Value} (hc : isC v = false) (h : (vcells v).all plainC = true) : ren env v = v := by
  cases v with
  | agg cs =>
    rw [ren_agg]
    congr 1
    apply Array.ext'
    rw [Array.toList_map]
    exact map_ren_plain env h
  | tuple cs => cases hc
  | _ => exact ren_plain env (by simpa [vcells] using h)

theorem xload_run {V : VW} (hR : RepW env V w) {t : TypeId} {p : Addr} {v : Value} (h : Gives (xload P V t p) v) :
    (loadVar t (renA env p)).run P w = .ok (ren env v) w := by
  unfold xload at h
  split at h
  · rename_i t' c hv hs
    rw [Gives.opt] at h
    simp only [renA, hs]
    exact run_loadVar_of h (cellsAt hR hv)
  · rename_i own t' m n cap f r hv hs
    split at h
    · rename_i u hu
      rw [Gives.ob_iff] at h
      obtain ⟨rfl, hr⟩ := h
      simp only [renA, hs]
      exact run_loadVar_of hu (rowsAt hR hv hr)
    · exact (Gives.bad.1 h).elim
  · rename_i t' m n f r hv hs
    split at h
    · rename_i u hu
      rw [Gives.ob_iff] at h
      obtain ⟨rfl, hr⟩ := h
      simp only [renA, hs]
      exact run_loadVar_of hu (vecAt hR hv hr).2.2.2
    · exact (Gives.bad.1 h).elim
  · rename_i t' m n f r hv hs
    split at h
    · rename_i u hu
      rw [Gives.ob_iff] at h
      obtain ⟨rfl, hr⟩ := h
      simp only [renA, hs]
      exact run_loadVar_of hu (argAt hR hv hr).2.2.2.2
    · exact (Gives.bad.1 h).elim
  · rename_i t' m n cap f hz r hv hs
    split at h
    · split at h
      · rename_i u hu
        split at h
        · rename_i hc hp
          rw [Gives.ob_iff] at h
          obtain ⟨rfl, hr⟩ := h
          simp only [renA, hs]
          rw [ren_vcells env hc hp]
          exact run_loadVar_real hu (rawAt hR hv hr)
        · exact (Gives.bad.1 h).elim
      · exact (Gives.bad.1 h).elim
    · rename_i k c
      split at h
      · rename_i u hu
        rw [Gives.ob_iff] at h
        obtain ⟨rfl, hk, hr⟩ := h
        subst hk
        simp only [renA, hs]
        have hrow : rawRow env f [(r, c)] r = c.map (ren env) := by simp [rawRow]
        exact run_loadVar_of hu (hrow ▸ rawAt hR hv hr)
      · exact (Gives.bad.1 h).elim
    · exact (Gives.bad.1 h).elim
  · exact (Gives.bad.1 h).elim

theorem xtab_gives {N : Nat} {t : TypeId} {n r : Nat} {cs : List ACell} {off : Nat} {v : Value} (h : Gives (xtab P N t n r cs off) v) : False := by
  unfold xtab at h
  (repeat' split at h) <;> first | exact Gives.new.1 h | exact Gives.bad.1 h

theorem xloadX_run {V : VW} (hR : RepW env V w) {t : TypeId} {p : Addr} {v : Value} (h : Gives (xloadX P V t p) v) :
    (loadVar t (renA env p)).run P w = .ok (ren env v) w := by
  unfold xloadX at h
  split at h
  · split at h
    · exact (xtab_gives h).elim
    · exact (Gives.bad.1 h).elim
  · exact xload_run hR h

theorem renA_add (env : Nat → Loc) (p : Addr) (n : Nat) : renA env { p with off := p.off + n } = (renA env p).add n := by
  unfold renA Addr.add
  cases p.spot <;> (by_cases hn : n = 0 <;> simp [hn, Nat.add_assoc])

theorem xfieldAddr_run {s : TypeId} {x v : Value} {k : Nat} (h : Gives (xfieldAddr P s x k) v) (w : World) :
    (Instr.fieldAt s (ren env x) k).run P w = .ok (ren env v) w := by
  unfold xfieldAddr at h
  split at h
  · rename_i fs p hu
    split at h
    · rename_i f hf
      split at h
      · rename_i i hi
        split at h
        · exact (Gives.bad.1 h).elim
        · rename_i hz
          rw [Gives.val_iff] at h
          subst h
          have hf' : fs[k]? = some f := by simpa using hf
          rw [ren_ptr, ren_ptr, renA_add]
          simp [Instr.fieldAt, run_underlying hu, hf', Instr.sureAddr, fieldPlace, run_size hi, hz]
      · exact (Gives.bad.1 h).elim
    · exact (Gives.bad.1 h).elim
  · exact (Gives.bad.1 h).elim

theorem xfield_run {s : TypeId} {x v : Value} {k : Nat} (h : Gives (xfield P s x k) v) (w : World) :
    (Instr.field s (ren env x) k).run P w = .ok (ren env v) w := by
  unfold xfield at h
  split at h
  · rename_i fs cs hu
    split at h
    · rename_i f hf
      rw [Gives.opt] at h
      have hf' : fs[k]? = some f := by simpa using hf
      have := run_part env h w
      rw [ren_agg, arr_map]
      simp [Instr.field, run_underlying hu, hf', asAgg, this]
    · exact (Gives.bad.1 h).elim
  · exact (Gives.bad.1 h).elim

theorem xindexAddr_run (hR : RepW env S.V w) {t : TypeId} {x ix v : Value} (h : Gives (xindexAddr P S.V t x ix) v) :
    (Instr.indexAt t (ren env x) (ren env ix)).run P w = .ok (ren env v) w := by
  unfold xindexAddr at h
  split at h
  · rename_i e p len c k i hu
    split at h
    · rename_i r own t' m n cap f ie hs hv hie
      split at h
      · rename_i hm
        split at h
        · exact (Gives.bad.1 h).elim
        rename_i hoff
        have hoff : p.off < 2 := Nat.blt_eq ▸ hoff
        rw [Gives.ob_iff] at h
        obtain ⟨rfl, h0, h1⟩ := h
        have hmm : (env p.block).m = m := (hR.mat _ _ hv).1
        have : (renA env { p with off := 0 }).add (i.toNat * ie.size) = renA env { p with off := 0, spot := some (r + i.toNat) } := by
          unfold renA Addr.add
          simp only [hs, hmm, hm]
          by_cases hz : i.toNat * m = 0
          · have e1 : (r + i.toNat) * m = r * m := by rw [Nat.add_mul, hz, Nat.add_zero]
            simp [hz, e1]
          · simp only [hz, if_false, Nat.add_mul]
            congr 1
            omega
        rw [ren_slice env _ _ hoff, ren_int, ren_ptr, ← this]
        simp [Instr.indexAt, asIntOf, run_underlying hu, h0, h1, run_size hie]
      · exact (Gives.bad.1 h).elim
    · rename_i r t' m n cap f hz ie hs hv hie
      split at h
      · rename_i hm
        split at h
        · exact (Gives.bad.1 h).elim
        rename_i hoff
        have hoff : p.off < 2 := Nat.blt_eq ▸ hoff
        rw [Gives.ob_iff] at h
        obtain ⟨rfl, h0, h1⟩ := h
        have hmm : (env p.block).m = m := (hR.mat _ _ hv).2.1
        have : (renA env { p with off := 0 }).add (i.toNat * ie.size) = renA env { p with off := 0, spot := some (r + i.toNat) } := by
          unfold renA Addr.add
          simp only [hs, hmm, hm]
          by_cases hz : i.toNat * m = 0
          · have e1 : (r + i.toNat) * m = r * m := by rw [Nat.add_mul, hz, Nat.add_zero]
            simp [hz, e1]
          · simp only [hz, if_false, Nat.add_mul]
            congr 1
            omega
        rw [ren_slice env _ _ hoff, ren_int, ren_ptr, ← this]
        simp [Instr.indexAt, asIntOf, run_underlying hu, h0, h1, run_size hie]
      · exact (Gives.bad.1 h).elim
    · rename_i r t' m n f ie hs hv hie
      split at h
      · rename_i hm
        split at h
        case' h_2 => exact (Gives.bad.1 h).elim
        rename_i hoff
        have hoff : p.off < 3 := Nat.blt_eq ▸ hoff
        rw [Gives.ob_iff] at h
        obtain ⟨rfl, h0, h1, h2⟩ := h
        obtain ⟨hcap, hmm, _⟩ := vecAt hR hv (r := r) (by omega)
        have : (renA env { p with off := 0 }).add (i.toNat * ie.size) = renA env { p with off := 0, spot := some (r + i.toNat) } := by
          unfold renA Addr.add
          simp only [hs, hmm, hm]
          by_cases hz : i.toNat * m = 0
          · have e1 : (r + i.toNat) * m = r * m := by rw [Nat.add_mul, hz, Nat.add_zero]
            simp [hz, e1]
          · simp only [hz, if_false, Nat.add_mul]
            congr 1
            omega
        have hsl : ∃ c', ren env (.slice (some p) len c) = .slice (some (renA env { p with off := 0 })) len c' := by
          by_cases ho : p.off = 2
          · rw [ren_slice2 env _ _ ho]
            cases hcc : (env p.block).cap with
            | zero => exact absurd hcc hcap
            | succ q => exact ⟨_, rfl⟩
          · exact ⟨_, ren_slice env _ _ (by omega)⟩
        obtain ⟨c', hsl⟩ := hsl
        rw [hsl, ren_int, ren_ptr, ← this]
        simp [Instr.indexAt, asIntOf, run_underlying hu, h0, h1, run_size hie]
      · exact (Gives.bad.1 h).elim
    · rename_i r t' m n f ie hs hv hie
      split at h
      · rename_i hm
        split at h
        case' h_2 => exact (Gives.bad.1 h).elim
        rename_i hoff
        have hoff : p.off = 3 := Nat.eq_of_beq_eq_true hoff
        rw [Gives.ob_iff] at h
        obtain ⟨rfl, h0, h1, h2⟩ := h
        obtain ⟨hcap, hmm, _⟩ := argAt hR hv (r := r) (by omega)
        have : (renA env { p with off := 0 }).add (i.toNat * ie.size) = renA env { p with off := 0, spot := some (r + i.toNat) } := by
          unfold renA Addr.add
          simp only [hs, hmm, hm]
          by_cases hz : i.toNat * m = 0
          · have e1 : (r + i.toNat) * m = r * m := by rw [Nat.add_mul, hz, Nat.add_zero]
            simp [hz, e1]
          · simp only [hz, if_false, Nat.add_mul]
            congr 1
            omega
        have hsl := slice3 env len c hoff hcap
        rw [hsl, ren_int, ren_ptr, ← this]
        simp [Instr.indexAt, asIntOf, run_underlying hu, h0, h1, run_size hie]
      · exact (Gives.bad.1 h).elim
    · rename_i r t' m n f ie hs hv hie
      split at h
      · rename_i hm
        split at h
        case' h_2 => exact (Gives.bad.1 h).elim
        rename_i hoff
        have hoff : p.off = 3 := Nat.eq_of_beq_eq_true hoff
        rw [Gives.ob_iff] at h
        obtain ⟨rfl, h0, h1, h2⟩ := h
        obtain ⟨hcap, hmm, _⟩ := tabAt hR hv (r := r) (by omega)
        have : (renA env { p with off := 0 }).add (i.toNat * ie.size) = renA env { p with off := 0, spot := some (r + i.toNat) } := by
          unfold renA Addr.add
          simp only [hs, hmm, hm]
          by_cases hz : i.toNat * m = 0
          · have e1 : (r + i.toNat) * m = r * m := by rw [Nat.add_mul, hz, Nat.add_zero]
            simp [hz, e1]
          · simp only [hz, if_false, Nat.add_mul]
            congr 1
            omega
        have hsl := slice3 env len c hoff hcap
        rw [hsl, ren_int, ren_ptr, ← this]
        simp [Instr.indexAt, asIntOf, run_underlying hu, h0, h1, run_size hie]
      · exact (Gives.bad.1 h).elim
    · exact (Gives.bad.1 h).elim
  · rename_i n e p k i hu
    split at h
    · rename_i ie hie
      rw [Gives.ob_iff] at h
      obtain ⟨rfl, h0, h1⟩ := h
      rw [ren_ptr, ren_int, ren_ptr, renA_add]
      simp [Instr.indexAt, asIntOf, run_underlying hu, Instr.sureAddr, h0, h1, run_size hie]
    · exact (Gives.bad.1 h).elim
  · exact (Gives.bad.1 h).elim

theorem xindex_run {t : TypeId} {x ix v : Value} (h : Gives (xindex P t x ix) v) (w : World) :
    (Instr.index t (ren env x) (ren env ix)).run P w = .ok (ren env v) w := by
  unfold xindex at h
  split at h
  · rename_i s k i hu
    rw [Gives.ob_iff] at h
    obtain ⟨rfl, h0, h1⟩ := h
    have hlt : i.toNat < s.data.size := by
      have : s.data.size = s.size := rfl
      omega
    have hb : s[i.toNat]? = some s.data[i.toNat] := by
      show (if h : i.toNat < s.size then _ else _) = _
      have : i.toNat < s.size := hlt
      simp [this]
      rfl
    have h1' : i.toNat < s.size := hlt
    simp [Instr.index, asIntOf, run_underlying hu, h0, hb, strAt, Array.getD, h1', h1]
    rfl
  · rename_i n e cs k i hu
    split at h
    · rename_i ie hie
      split at h
      · rename_i u hp
        rw [Gives.ob_iff] at h
        obtain ⟨rfl, h0, h1⟩ := h
        have := run_part env hp w
        rw [ren_agg, arr_map, ren_int]
        simp [Instr.index, asIntOf, run_underlying hu, h0, h1, run_size hie, this]
      · exact (Gives.bad.1 h).elim
    · exact (Gives.bad.1 h).elim
  · exact (Gives.bad.1 h).elim

theorem xlen_run {t : TypeId} {x v : Value} (h : Gives (xlen P t x) v) (ts : List TypeId) (ty : TypeId) (w : World) :
    (Builtin.len_ ⟨t :: ts⟩ ty #[ren env x]).run P w = .ok (ren env v) w := by
  unfold xlen at h
  split at h
  · rename_i s hu
    rw [Gives.val_iff] at h; subst h
    simp [Builtin.len_, run_underlying hu, goInt]
  · rename_i e p n c hu
    rw [Gives.val_iff] at h; subst h
    cases p with
    | none => simp [Builtin.len_, run_underlying hu, goInt]
    | some a => obtain ⟨p', c', h'⟩ := ren_slice_form env a n c; rw [h']; simp [Builtin.len_, run_underlying hu, goInt]
  · rename_i n e hu
    rw [Gives.val_iff] at h; subst h
    simp [Builtin.len_, run_underlying hu, goInt]
  · exact (Gives.bad.1 h).elim

theorem known_of {x : Operand} (hR : Rep env S a w) (h : ev S x = unk → False) : a.eval x = ren env (ev S x) := ev_of hR rfl h

theorem xbin_unk {op : BinOp} {t : TypeId} {x y v : Value} (h : Gives (xbin P op t x y) v) : x ≠ unk ∧ y ≠ unk := by
  unfold xbin at h
  split at h
  · exact ⟨by simp [unk], by simp [unk]⟩
  · exact ⟨by simp [unk], by simp [unk]⟩
  · have key : ∀ b, xeq P t x y = some b → x ≠ unk ∧ y ≠ unk := by
      intro b hb
      constructor
      · rintro rfl; simp [xeq, unk] at hb
      · rintro rfl
        unfold xeq at hb
        split at hb <;> simp_all [unk]
        unfold veq at hb
        split at hb <;> simp_all
    cases op <;> simp only [Gives.bad] at h
    all_goals
      split at h
      · rename_i b hb; exact key b hb
      · exact (Gives.bad.1 h).elim

theorem xbinN_unk {op : BinOp} {t : TypeId} {l : Bool} {x y v : Value} (h : Gives (xbinN P op t l x y) v) : x ≠ unk ∧ y ≠ unk := by
  unfold xbinN at h
  split at h
  · rename_i r hr
    unfold xnil at hr
    split at hr
    · exact ⟨by simp [unk], by simp [unk]⟩
    · exact ⟨by simp [unk], by simp [unk]⟩
    · cases hr
  · exact xbin_unk h

theorem parts_eval (hR : Rep env S a w) : ∀ (places : List (Nat × Nat)) (cells l : List Value) (parts : List (Nat × Operand)),
    fillL places cells (parts.map fun (i, x) => (i, ev S x)) = some l → (parts.map fun (i, x) => (i, a.eval x)) = (parts.map fun (i, x) => (i, ev S x)).map fun x => (x.1, ren env x.2)
  | _, _, _, [], _ => rfl
  | places, cells, l, (i, x) :: rest, h => by
    simp only [List.map_cons, fillL] at h
    split at h
    · cases h
    · split at h
      · split at h
        · rename_i hc hs
          simp only [List.map_cons]
          rw [ev_known hR hc, parts_eval hR _ _ _ rest h]
        · cases h
      · cases h

theorem intOr_cases {d l : Int} {o : Option Value} (h : intOr d o = some l) : (o = none ∧ l = d) ∨ ∃ k, o = some (.int k l) := by
  unfold intOr at h
  split at h
  · left; cases h; exact ⟨rfl, rfl⟩
  · right; cases h; exact ⟨_, rfl⟩
  · cases h

theorem bounds_run (isSlice : Bool) (len cap : Nat) {lo hi : Option Value} {l h : Int} (hl : intOr 0 lo = some l) (hh : intOr (len : Nat) hi = some h) (h0 : 0 ≤ l) (h1 : l ≤ h) (h2 : h ≤ (cap : Int)) (w : World) :
    (Instr.sliceBounds isSlice len cap (lo.map (ren env)) (hi.map (ren env)) none).run P w = .ok (l.toNat, h.toNat, cap) w := by
  have e : ((h.toNat : Nat) : Int) = h := by omega
  rcases intOr_cases hl with ⟨rfl, rfl⟩ | ⟨k, rfl⟩ <;> rcases intOr_cases hh with ⟨rfl, rfl⟩ | ⟨k', rfl⟩
  · simp [Instr.sliceBounds]
  · cases isSlice <;> simp [Instr.sliceBounds, run_sliceBound w k' h cap _ (by omega) h2]
  · simp [Instr.sliceBounds, run_sliceBound w k l len _ h0 h1]
  · cases isSlice <;> simp [Instr.sliceBounds, run_sliceBound w k' h cap _ (by omega) h2, run_sliceBound w k l h.toNat _ h0 (by omega)]

theorem xslice_run (hR : RepW env S.V w) {t : TypeId} {x v : Value} {lo hi : Option Value} (h : Gives (xslice P S.V t x lo hi) v) :
    (Instr.slice t (ren env x) (lo.map (ren env)) (hi.map (ren env)) none).run P w = .ok (ren env v) w := by
  unfold xslice at h
  split at h
  · rename_i s hu
    split at h
    · rename_i l hh hl hhi
      rw [Gives.ob_iff] at h
      obtain ⟨rfl, h0, h1, h2⟩ := h
      simp [Instr.slice, run_underlying hu, bounds_run false s.size s.size hl hhi h0 h1 h2]
    · exact (Gives.bad.1 h).elim
  · rename_i e len cap hu
    split at h
    · rename_i l hh ie hl hhi hie
      rw [Gives.ob_iff] at h
      obtain ⟨rfl, h0, h1, h2⟩ := h
      simp [Instr.slice, run_underlying hu, bounds_run true len cap hl hhi h0 h1 h2, run_size hie]
    · exact (Gives.bad.1 h).elim
  · rename_i e p len cap hu
    split at h
    · rename_i l hh r own t' m n c f ie hl hhi hs hv hie
      split at h
      · rename_i hm
        have hmm : (env p.block).m = m := (hR.mat _ _ hv).1
        split at h
        case' h_3 => exact (Gives.bad.1 h).elim
        case' h_2 =>
          rename_i hoff
          split at h
          · rw [Gives.ob_iff] at h
            obtain ⟨rfl, h0, h1, h2, h3⟩ := h
            obtain ⟨_, _, hown⟩ := hR.mat _ _ hv
            obtain ⟨_, _, _, _, hnc, _⟩ := hown rfl
            have hrc : rcap env p cap = (env p.block).cap - r := by unfold rcap; rw [hoff]; simp [hs]
            have hrc' : rcap env { p with spot := some (r + l.toNat) } 0 = (env p.block).cap - (r + l.toNat) := by unfold rcap; simp only [hoff]; rfl
            have key : (if (env p.block).cap - r = l.toNat then some (renA env { p with off := 0 }) else some ((renA env { p with off := 0 }).add (l.toNat * ie.size))) = some (renA env { p with off := 0, spot := some (r + l.toNat) }) := by
              by_cases hl0 : l = 0
              · subst hl0
                simp [renA, hs, Addr.add]
              · have hc : ¬ ((env p.block).cap - r = l.toNat) := by omega
                simp only [hc, if_false, renA, hs, hmm, Addr.add, hm]
                by_cases hz : l.toNat * m = 0
                · simp [hz, Nat.add_mul]
                · simp only [hz, if_false, Nat.add_mul]
                  congr 2
                  omega
            rw [ren_slice env _ _ (by rw [hoff]; decide), ren_slice env _ _ (a := { p with spot := some (r + l.toNat) }) (by show p.off < 2; rw [hoff]; decide), hrc, hrc']
            simp only [Instr.slice, Sem.run_bind, run_underlying hu, Result.andThen_ok, bounds_run true len ((env p.block).cap - r) hl hhi h0 h1 (by omega), run_size hie, Option.map_some, Sem.run_pure]
            rw [key, show (env p.block).cap - r - l.toNat = (env p.block).cap - (r + l.toNat) by omega]
          · exact (Gives.bad.1 h).elim
        rename_i hoff
        rw [Gives.ob_iff] at h
        obtain ⟨rfl, h0, h1, h2⟩ := h
        obtain ⟨pb, po, ps⟩ := p
        dsimp only at hoff hs hmm hv
        subst hoff
        have key : (if cap = l.toNat then some (renA env ⟨pb, 0, ps⟩) else some ((renA env ⟨pb, 0, ps⟩).add (l.toNat * ie.size))) = some (renA env ⟨pb, 0, some (r + if cap = l.toNat then 0 else l.toNat)⟩) := by
          by_cases hc : cap = l.toNat
          · simp [hc, renA, hs]
          · simp only [hc, if_false, renA, hs, hmm, Addr.add, hm]
            by_cases hz : l.toNat * m = 0
            · simp [hz, Nat.add_mul]
            · simp only [hz, if_false, Nat.add_mul]
              congr 2
              omega
        rw [ren_slice0, ren_slice0]
        simp only [Instr.slice, Sem.run_bind, run_underlying hu, Result.andThen_ok, bounds_run true len cap hl hhi h0 h1 h2, run_size hie, Option.map_some, Sem.run_pure]
        rw [key]
      · exact (Gives.bad.1 h).elim
    · rename_i l hh r t' m n f ie hl hhi hs hv hie
      split at h
      · rename_i hm
        split at h
        case' h_2 => exact (Gives.bad.1 h).elim
        rename_i hoff
        have hoff : p.off = 3 := Nat.eq_of_beq_eq_true hoff
        rw [Gives.ob_iff] at h
        obtain ⟨rfl, h0, h1, h2, h3, h4⟩ := h
        obtain ⟨hz, hnz, _⟩ := hR.mat _ _ hv
        rcases cap3 (env p.block).cap with hcap | hcap | hcap
        · have hn := hz (by omega)
          have hlen : len = 0 := by omega
          rw [slice30 env _ _ hoff hcap, slice30 env (p := { p with spot := some (r + l.toNat) }) _ _ hoff hcap]
          subst hlen
          simp only [Instr.slice, Sem.run_bind, run_underlying hu, Result.andThen_ok, bounds_run true 0 0 hl hhi h0 h1 h2, run_size hie, Option.map_none, Sem.run_pure, Nat.zero_sub, ite_self]
        · have hn := hz (by omega)
          have hlen : len = 0 := by omega
          rw [slice31 env _ _ hoff hcap, slice31 env (p := { p with spot := some (r + l.toNat) }) _ _ hoff hcap]
          subst hlen
          have hl0 : l.toNat = 0 := by omega
          simp only [Instr.slice, Sem.run_bind, run_underlying hu, Result.andThen_ok, bounds_run true 0 0 hl hhi h0 h1 h2, run_size hie, Option.map_some, Sem.run_pure, Nat.zero_sub, hl0, if_true]
        · obtain ⟨hmm, hnc⟩ := hnz hcap
          have hs3 : p.spot.getD 0 = r := by rw [hs]; rfl
          have e1 := slice3 env (p := p) len cap hoff hcap
          have e2 := slice3 env (p := { p with spot := some (r + l.toNat) }) (hh.toNat - l.toNat) 0 hoff hcap
          simp only [hs3] at e1
          simp only [Option.getD_some] at e2
          rw [e1, e2]
          have key : (if (env p.block).cap - 1 - r = l.toNat then some (renA env { p with off := 0 }) else some ((renA env { p with off := 0 }).add (l.toNat * ie.size))) = some (renA env { p with off := 0, spot := some (r + l.toNat) }) := by
            by_cases hl0 : l = 0
            · subst hl0
              simp [renA, hs, Addr.add]
            · have hc : ¬ ((env p.block).cap - 1 - r = l.toNat) := by omega
              simp only [hc, if_false, renA, hs, hmm, Addr.add, hm]
              by_cases hz : l.toNat * m = 0
              · simp [hz, Nat.add_mul]
              · simp only [hz, if_false, Nat.add_mul]
                congr 2
                omega
          simp only [Instr.slice, Sem.run_bind, run_underlying hu, Result.andThen_ok, bounds_run true len ((env p.block).cap - 1 - r) hl hhi h0 h1 (by omega), run_size hie, Option.map_some, Sem.run_pure]
          rw [key, show (env p.block).cap - 1 - r - l.toNat = (env p.block).cap - 1 - (r + l.toNat) by omega]
      · exact (Gives.bad.1 h).elim
    · rename_i l hh r t' m n f ie hl hhi hs hv hie
      split at h
      · rename_i hm
        split at h
        case' h_2 => exact (Gives.bad.1 h).elim
        rename_i hoff
        have hoff : p.off = 3 := Nat.eq_of_beq_eq_true hoff
        rw [Gives.ob_iff] at h
        obtain ⟨rfl, h0, h1, h2, h3, h4⟩ := h
        obtain ⟨hz, hnz, _⟩ := hR.mat _ _ hv
        rcases cap3 (env p.block).cap with hcap | hcap | hcap
        · have hn := hz (by omega)
          have hlen : len = 0 := by omega
          rw [slice30 env _ _ hoff hcap, slice30 env (p := { p with spot := some (r + l.toNat) }) _ _ hoff hcap]
          subst hlen
          simp only [Instr.slice, Sem.run_bind, run_underlying hu, Result.andThen_ok, bounds_run true 0 0 hl hhi h0 h1 h2, run_size hie, Option.map_none, Sem.run_pure, Nat.zero_sub, ite_self]
        · have hn := hz (by omega)
          have hlen : len = 0 := by omega
          rw [slice31 env _ _ hoff hcap, slice31 env (p := { p with spot := some (r + l.toNat) }) _ _ hoff hcap]
          subst hlen
          have hl0 : l.toNat = 0 := by omega
          simp only [Instr.slice, Sem.run_bind, run_underlying hu, Result.andThen_ok, bounds_run true 0 0 hl hhi h0 h1 h2, run_size hie, Option.map_some, Sem.run_pure, Nat.zero_sub, hl0, if_true]
        · obtain ⟨hmm, hnc⟩ := hnz hcap
          have hs3 : p.spot.getD 0 = r := by rw [hs]; rfl
          have e1 := slice3 env (p := p) len cap hoff hcap
          have e2 := slice3 env (p := { p with spot := some (r + l.toNat) }) (hh.toNat - l.toNat) 0 hoff hcap
          simp only [hs3] at e1
          simp only [Option.getD_some] at e2
          rw [e1, e2]
          have key : (if (env p.block).cap - 1 - r = l.toNat then some (renA env { p with off := 0 }) else some ((renA env { p with off := 0 }).add (l.toNat * ie.size))) = some (renA env { p with off := 0, spot := some (r + l.toNat) }) := by
            by_cases hl0 : l = 0
            · subst hl0
              simp [renA, hs, Addr.add]
            · have hc : ¬ ((env p.block).cap - 1 - r = l.toNat) := by omega
              simp only [hc, if_false, renA, hs, hmm, Addr.add, hm]
              by_cases hz : l.toNat * m = 0
              · simp [hz, Nat.add_mul]
              · simp only [hz, if_false, Nat.add_mul]
                congr 2
                omega
          simp only [Instr.slice, Sem.run_bind, run_underlying hu, Result.andThen_ok, bounds_run true len ((env p.block).cap - 1 - r) hl hhi h0 h1 (by omega), run_size hie, Option.map_some, Sem.run_pure]
          rw [key, show (env p.block).cap - 1 - r - l.toNat = (env p.block).cap - 1 - (r + l.toNat) by omega]
      · exact (Gives.bad.1 h).elim
    · exact (Gives.bad.1 h).elim
  · exact (Gives.bad.1 h).elim

theorem xsliceAt_run (hR : RepW env S.V w) {t : TypeId} {x v : Value} {lo hi : Option Value} (h : Gives (xslice P S.V t x lo hi) v) :
    (Instr.sliceAt t (ren env x) (lo.map (ren env)) (hi.map (ren env)) none).run P w = .ok (ren env v) w := by
  have hs := xslice_run hR h
  unfold xslice at h
  split at h
  · rename_i s hu; simp only [Instr.sliceAt, Sem.run_bind, run_underlying hu, Result.andThen_ok]; exact hs
  · rename_i e len cap hu; simp only [Instr.sliceAt, Sem.run_bind, run_underlying hu, Result.andThen_ok]; exact hs
  · rename_i e p len cap hu; simp only [Instr.sliceAt, Sem.run_bind, run_underlying hu, Result.andThen_ok]; exact hs
  · exact (Gives.bad.1 h).elim

theorem xcap_run {t : TypeId} {x v : Value} (h : Gives (xcap P t x) v) (ts : List TypeId) (ty : TypeId) (w : World) :
    (Builtin.cap_ ⟨t :: ts⟩ ty #[ren env x]).run P w = .ok (ren env v) w := by
  unfold xcap at h
  split at h
  · rename_i e n c hu
    rw [Gives.val_iff] at h; subst h
    simp [Builtin.cap_, run_underlying hu, goInt, ren_slice]
  · rename_i e p n c hu
    obtain ⟨pb, po, ps⟩ := p
    split at h
    · rename_i hoff
      dsimp only at hoff; subst hoff
      rw [Gives.val_iff] at h; subst h
      rw [ren_slice0]
      simp [Builtin.cap_, run_underlying hu, goInt]
    · exact (Gives.bad.1 h).elim
  · exact (Gives.bad.1 h).elim

theorem foldl_push : ∀ (ns : List Int) (s : ByteArray), ns.foldl (fun r n => r.push (UInt8.ofNat n.toNat)) s = ⟨(s.data.toList ++ ns.map fun n => UInt8.ofNat n.toNat).toArray⟩
  | [], s => by simp
  | n :: ns, s => by
    rw [List.foldl_cons, foldl_push ns]
    simp [ByteArray.push]

theorem xtext_run (hR : RepW env S.V w) {src dst e : TypeId} {x v : Value} (hs : P.underlying src = some (.slice e)) (hd : P.underlying dst = some .string) (h : Gives (xtext P S.V e x) v) :
    (convert src dst (ren env x)).run P w = .ok (ren env v) w := by
  unfold xtext at h
  split at h
  · rename_i ie he hie
    split at h
    · rw [Gives.val_iff] at h; subst h
      rw [ren_snone, run_convert_bytes_string w src dst e none 0 0 hs he hd]
      simp [Conv.bytesToString]
      rfl
    · exact (Gives.bad.1 h).elim
  · rename_i ie a k c he hie
    split at h
    · rename_i r own t' n cap f hsp hv hsz
      split at h
      · exact (Gives.bad.1 h).elim
      rename_i hoff
      have hoff : a.off < 2 := Nat.blt_eq ▸ hoff
      rw [Gives.ob_iff] at h
      obtain ⟨rfl, hk, hb⟩ := h
      rw [ren_slice env _ _ hoff, run_convert_bytes_string w src dst e _ _ _ hs he hd]
      obtain ⟨hm, hrows, _⟩ := hR.mat _ _ hv
      have hcells : (loadCells (renA env { a with off := 0 }) k).run P w = .ok ((((List.range k).map fun j => ((byteOf (f (r + j))).toNat : Int)).map (Value.int .u8)).toArray) w := by
        have := run_loadCells_list (P := P) w (renA env { a with off := 0 }) (((List.range k).map fun j => ((byteOf (f (r + j))).toNat : Int)).map (Value.int .u8)) (fun j u hj => by
          have hjk : j < k := by
            have := (List.getElem?_eq_some_iff.1 hj).1
            simpa using this
          obtain ⟨b, hb'⟩ := hb.at_ j hjk
          have := (hrows (r + j) (by omega)).2 0 (.int .u8 (b.toNat : Int)) (by rw [hb']; simp)
          simp only [List.map_map, List.getElem?_map, List.getElem?_range hjk, Option.map_some, Function.comp] at hj
          rw [hb'] at hj
          have hbb : byteOf [Value.int IntKind.u8 (b.toNat : Int)] = b := by simp [byteOf]
          rw [hbb] at hj
          cases hj
          have hadd : (renA env { a with off := 0 }).add j = ⟨(env a.block).blk, (env a.block).base + (r + j) * 1 + 0, none⟩ := by
            unfold renA Addr.add
            simp only [hsp, hm]
            by_cases hj0 : j = 0
            · simp [hj0]
            · simp only [hj0, if_false]
              congr 1
              omega
          rw [hadd]
          exact this)
        simpa using this
      rw [run_bytesToString w _ k _ _ hcells, foldl_push]
      congr 1
      rw [ren_string, strOf]
      congr 2
      simp [Function.comp_def]
    · rename_i t' n f hsp hv hsz
      split at h
      · exact (Gives.bad.1 h).elim
      rename_i hoff
      have hoff : a.off < 3 := Nat.blt_eq ▸ hoff
      rw [Gives.ob_iff] at h
      obtain ⟨rfl, hk, hb⟩ := h
      subst hk
      have hz : k = 0 → ∀ p c', (convert src dst (.slice p k c')).run P w = .ok (ren env (.string (strOf f 0 k))) w := by
        intro hk0 p c'
        subst hk0
        rw [run_convert_bytes_string w src dst e _ _ _ hs he hd]
        cases p with
        | none => simp [Conv.bytesToString, strOf]; rfl
        | some p =>
          have hc0 : (loadCells p 0).run P w = .ok (([] : List Int).map (Value.int .u8)).toArray w := by
            simpa using run_loadCells_list (P := P) w p [] (fun j v hj => by simp at hj)
          rw [run_bytesToString w p 0 c' [] hc0]
          simp [strOf]
          rfl
      by_cases hk0 : k = 0
      · obtain ⟨p, c', h'⟩ := ren_slice_form env a k c
        rw [h']; exact hz hk0 p c'
      obtain ⟨hcap, hm, _⟩ := vecAt hR hv (r := 0) (by omega)
      have hrows : ∀ r, r < k → w.rangeAt (env a.block).blk ((env a.block).base + r * (env a.block).m) ((f r).map (ren env)) := fun r hr => (vecAt hR hv hr).2.2.2
      have hsl : ∃ c', ren env (.slice (some a) k c) = .slice (some (renA env { a with off := 0 })) k c' := by
        by_cases ho : a.off = 2
        · rw [ren_slice2 env _ _ ho]
          cases hcc : (env a.block).cap with
          | zero => exact absurd hcc hcap
          | succ q => exact ⟨_, rfl⟩
        · exact ⟨_, ren_slice env _ _ (by omega)⟩
      obtain ⟨c', hsl⟩ := hsl
      rw [hsl, run_convert_bytes_string w src dst e _ _ _ hs he hd]
      have hcells : (loadCells (renA env { a with off := 0 }) k).run P w = .ok ((((List.range k).map fun j => ((byteOf (f (0 + j))).toNat : Int)).map (Value.int .u8)).toArray) w := by
        have := run_loadCells_list (P := P) w (renA env { a with off := 0 }) (((List.range k).map fun j => ((byteOf (f (0 + j))).toNat : Int)).map (Value.int .u8)) (fun j u hj => by
          have hjk : j < k := by
            have := (List.getElem?_eq_some_iff.1 hj).1
            simpa using this
          obtain ⟨b, hb'⟩ := hb.at_ j hjk
          have := (hrows (0 + j) (by omega)) 0 (.int .u8 (b.toNat : Int)) (by rw [hb']; simp)
          simp only [List.map_map, List.getElem?_map, List.getElem?_range hjk, Option.map_some, Function.comp] at hj
          rw [hb'] at hj
          have hbb : byteOf [Value.int IntKind.u8 (b.toNat : Int)] = b := by simp [byteOf]
          rw [hbb] at hj
          cases hj
          rw [hm] at this
          have hadd : (renA env { a with off := 0 }).add j = ⟨(env a.block).blk, (env a.block).base + (0 + j) * 1 + 0, none⟩ := by
            unfold renA Addr.add
            simp only [hsp, hm]
            by_cases hj0 : j = 0
            · simp [hj0]
            · simp only [hj0, if_false]
              congr 1
              omega
          rw [hadd]
          exact this)
        simpa using this
      rw [run_bytesToString w _ k _ _ hcells, foldl_push]
      congr 1
      rw [ren_string, strOf]
      congr 2
      simp [Function.comp_def]
    · rename_i r t' n f hsp hv hsz
      split at h
      · exact (Gives.bad.1 h).elim
      rename_i hoff
      have hoff : a.off = 3 := Nat.eq_of_beq_eq_true hoff
      rw [Gives.ob_iff] at h
      obtain ⟨rfl, hk, hb⟩ := h
      have hz : k = 0 → ∀ p c', (convert src dst (.slice p k c')).run P w = .ok (ren env (.string (strOf f r k))) w := by
        intro hk0 p c'
        subst hk0
        rw [run_convert_bytes_string w src dst e _ _ _ hs he hd]
        cases p with
        | none => simp [Conv.bytesToString, strOf]; rfl
        | some p =>
          have hc0 : (loadCells p 0).run P w = .ok (([] : List Int).map (Value.int .u8)).toArray w := by
            simpa using run_loadCells_list (P := P) w p [] (fun j v hj => by simp at hj)
          rw [run_bytesToString w p 0 c' [] hc0]
          simp [strOf]
          rfl
      by_cases hk0 : k = 0
      · obtain ⟨p, c', h'⟩ := ren_slice_form env a k c
        rw [h']; exact hz hk0 p c'
      obtain ⟨hcap, hm, _⟩ := argAt hR hv (r := r) (by omega)
      have hrows : ∀ q, q < n → w.rangeAt (env a.block).blk ((env a.block).base + q * (env a.block).m) ((f q).map (ren env)) := fun q hq => (argAt hR hv hq).2.2.2.2
      have hsl := slice3 env k c hoff hcap
      rw [hsl, run_convert_bytes_string w src dst e _ _ _ hs he hd]
      have hcells : (loadCells (renA env { a with off := 0 }) k).run P w = .ok ((((List.range k).map fun j => ((byteOf (f (r + j))).toNat : Int)).map (Value.int .u8)).toArray) w := by
        have := run_loadCells_list (P := P) w (renA env { a with off := 0 }) (((List.range k).map fun j => ((byteOf (f (r + j))).toNat : Int)).map (Value.int .u8)) (fun j u hj => by
          have hjk : j < k := by
            have := (List.getElem?_eq_some_iff.1 hj).1
            simpa using this
          obtain ⟨b, hb'⟩ := hb.at_ j hjk
          have := (hrows (r + j) (by omega)) 0 (.int .u8 (b.toNat : Int)) (by rw [hb']; simp)
          simp only [List.map_map, List.getElem?_map, List.getElem?_range hjk, Option.map_some, Function.comp] at hj
          rw [hb'] at hj
          have hbb : byteOf [Value.int IntKind.u8 (b.toNat : Int)] = b := by simp [byteOf]
          rw [hbb] at hj
          cases hj
          rw [hm] at this
          have hadd : (renA env { a with off := 0 }).add j = ⟨(env a.block).blk, (env a.block).base + (r + j) * 1 + 0, none⟩ := by
            unfold renA Addr.add
            simp only [hsp, hm]
            by_cases hj0 : j = 0
            · simp [hj0]
            · simp only [hj0, if_false]
              congr 1
              omega
          rw [hadd]
          exact this)
        simpa using this
      rw [run_bytesToString w _ k _ _ hcells, foldl_push]
      congr 1
      rw [ren_string, strOf]
      congr 2
      simp [Function.comp_def]
    · exact (Gives.bad.1 h).elim
  · exact (Gives.bad.1 h).elim

theorem opt_eval (hR : Rep env S a w) {lo : Option Operand} {d l : Int} (h : intOr d (lo.map (ev S)) = some l) : lo.map a.eval = (lo.map (ev S)).map (ren env) := by
  cases lo with
  | none => rfl
  | some x =>
    have hx := known_of (x := x) hR (fun hu => by simp [hu, intOr, unk] at h)
    simp [hx]

theorem xappendK_kind {V : VW} {t u : TypeId} {a : Addr} {len : Nat} {x : Value} {room : Bool} : (∃ p i ob v, xappendK P V t u a len x room = .grow p i ob v ∧ room = false) ∨ (∃ p i ob v, xappendK P V t u a len x room = .cpy p i ob v ∧ room = true) ∨ xappendK P V t u a len x room = .bad := by
  unfold xappendK
  (repeat' split) <;> first | exact .inr (.inr rfl) | exact .inl ⟨_, _, _, _, rfl, rfl⟩ | exact .inr (.inl ⟨_, _, _, _, rfl, rfl⟩)

theorem xappend_kind {V : VW} {t u : TypeId} {s x : Value} : (∃ p i ob v, xappend P V t u s x = .grow p i ob v) ∨ (∃ p i ob v, xappend P V t u s x = .cpy p i ob v) ∨ xappend P V t u s x = .bad := by
  have h0 : ∀ s, (∃ p i ob v, xappend0 P V t u s x = .grow p i ob v) ∨ (∃ p i ob v, xappend0 P V t u s x = .cpy p i ob v) ∨ xappend0 P V t u s x = .bad := by
    intro s
    unfold xappend0
    (repeat' split) <;> first | exact .inr (.inr rfl) | exact .inl ⟨_, _, _, _, rfl⟩
  have hK : ∀ a len room, (∃ p i ob v, xappendK P V t u a len x room = .grow p i ob v) ∨ (∃ p i ob v, xappendK P V t u a len x room = .cpy p i ob v) ∨ xappendK P V t u a len x room = .bad := by
    intro a len room
    rcases xappendK_kind (P := P) (V := V) (t := t) (u := u) (a := a) (len := len) (x := x) (room := room) with ⟨p, i, ob, v, h, _⟩ | ⟨p, i, ob, v, h, _⟩ | h
    · exact .inl ⟨p, i, ob, v, h⟩
    · exact .inr (.inl ⟨p, i, ob, v, h⟩)
    · exact .inr (.inr h)
  unfold xappend
  split
  · split
    · exact hK _ _ _
    · exact hK _ _ _
    · split
      · unfold xappendV
        (repeat' split) <;> first | exact .inr (.inr rfl) | exact .inl ⟨_, _, _, _, rfl⟩
      · exact .inr (.inr rfl)
    · exact h0 _
    · exact h0 _
  · exact h0 _

theorem gives_append {V : VW} {t u : TypeId} {s x v : Value} (h : Gives (xappend P V t u s x) v) : False := by
  rcases xappend_kind (P := P) (V := V) (t := t) (u := u) (s := s) (x := x) with ⟨p, i, ob, v', he⟩ | ⟨p, i, ob, v', he⟩ | he <;> rw [he] at h <;> rcases h with h | ⟨q, h, _⟩ <;> cases h

/-- EACH OPERATION THAT YIELDS A VALUE -/
theorem run_val {o : Oper} {v : Value} (hR : Rep env S a w) (h : Gives (xop P S o.op) v) : ∃ u, (execOp a.eval o).run P w = .ok (.value u) w ∧ Rv env v u := by
  obtain ⟨dst, op, ty, pos, after, guard⟩ := o
  cases op <;> simp only [xop, Gives.bad] at h
  case move x => rw [Gives.val_iff] at h; subst h; exact ⟨_, by simp [execOp], ev_rv hR x⟩
  case assign x => rw [Gives.val_iff] at h; subst h; exact ⟨_, by simp [execOp], ev_rv hR x⟩
  case pick c x y =>
    split at h
    · rename_i b hc
      have hc' := ev_of hR hc (by simp [unk])
      simp only [ren_bool] at hc'
      split at h
      · rename_i p q hx hy
        have hx' := ev_of hR hx (by simp [unk])
        have hy' := ev_of hR hy (by simp [unk])
        rw [Gives.val_iff] at h; subst h
        refine ⟨_, by simp [execOp, hc', asBool]; rfl, .inr ?_⟩
        cases b <;> simp [hx', hy']
      · cases b
        · rw [Gives.val_iff] at h; subst h; exact ⟨_, by simp [execOp, hc', asBool], ev_rv hR y⟩
        · rw [Gives.val_iff] at h; subst h; exact ⟨_, by simp [execOp, hc', asBool], ev_rv hR x⟩
    · exact (Gives.bad.1 h).elim
  case alloc t =>
    split at h
    · split at h
      · split at h
        · exact (Gives.alc.1 h).elim
        · exact (Gives.bad.1 h).elim
      · exact (Gives.bad.1 h).elim
    · exact (Gives.bad.1 h).elim
  case box t x =>
    split at h
    · exact (Gives.alc.1 h).elim
    · exact (Gives.bad.1 h).elim
  case build t parts =>
    have hp : (parts.map fun (i, x) => (i, a.eval x)).toList = (parts.toList.map fun (i, x) => (i, ev S x)).map fun x => (x.1, ren env x.2) := by
      have h' := h
      rw [Array.toList_map]
      unfold xbuild at h'
      (repeat' split at h') <;> first | (exact (Gives.bad.1 h').elim) | (rename_i hf; exact parts_eval hR _ _ _ _ hf)
    exact ⟨_, by simp only [execOp, Sem.run_bind, xbuild_run env h w _ hp]; rfl, .inr rfl⟩
  case buildSlice t len parts =>
    exfalso
    unfold xbuildSlice at h
    (repeat' split at h) <;> simp only [Gives.bad, Gives.alr] at h
  case load t x =>
    split at h
    · rename_i p hp
      have hp' := ev_of hR hp (by simp [unk])
      rw [ren_ptr] at hp'
      exact ⟨_, by simp [execOp, hp', Instr.loadAt, Instr.sureAddr, xload_run hR.mem h], .inr rfl⟩
    · exact (Gives.bad.1 h).elim
  case store t x y =>
    exfalso
    split at h
    · unfold xstore at h
      (repeat' split at h) <;> simp only [Gives.bad, Gives.sto, Gives.sob] at h
    · exact (Gives.bad.1 h).elim
  case makeSlice t x y =>
    exfalso
    unfold xmake at h
    (repeat' split at h) <;> first | exact (Gives.bad.1 h).elim | (rcases h with h | ⟨q, h, hq⟩ <;> cases h)
  case nilCheck x =>
    split at h
    · rename_i p hp
      have hp' := ev_of hR hp (by simp [unk])
      rw [Gives.val_iff] at h; subst h
      refine ⟨_, ?_, .inr rfl⟩
      rw [ren_ptr] at hp'
      simp [execOp, hp', ren_ptr]
    · exact (Gives.bad.1 h).elim
  case binOp op t x y yt =>
    obtain ⟨hx, hy⟩ := xbinN_unk h
    have := xbinN_run env x y h w
    rw [← ev_of hR rfl hx, ← ev_of hR rfl hy] at this
    exact ⟨_, by simp only [execOp, Sem.run_bind, this] at this ⊢; simp [this], .inr rfl⟩
  case unOp op t x =>
    cases op <;> simp only [Gives.bad] at h
    · split at h
      · rename_i k n hx
        have hx' := ev_of hR hx (by simp [unk])
        rw [Gives.val_iff] at h; subst h
        refine ⟨_, ?_, .inr rfl⟩
        simp [execOp, hx', Op.unary, Op.intArith]
      · exact (Gives.bad.1 h).elim
    · split at h
      · rename_i k n hx
        have hx' := ev_of hR hx (by simp [unk])
        rw [Gives.val_iff] at h; subst h
        refine ⟨_, ?_, .inr rfl⟩
        cases hs : k.signed <;> simp [execOp, hx', Op.unary, Op.intBits, hs]
      · exact (Gives.bad.1 h).elim
    · split at h
      · rename_i b hx
        have hx' := ev_of hR hx (by simp [unk])
        rw [Gives.val_iff] at h; subst h
        refine ⟨_, ?_, .inr rfl⟩
        simp [execOp, hx', Op.unary]
      · exact (Gives.bad.1 h).elim
  case convert src dst x =>
    split at h
    · rename_i k' k k'' n h1 h2 hx
      have hx' := ev_of hR hx (by simp [unk])
      rw [Gives.val_iff] at h; subst h
      refine ⟨_, ?_, .inr rfl⟩
      simp [execOp, hx', convert, run_underlying h1, run_underlying h2, Conv.intToInt]
    · rename_i k' k'' n h1 h2 hx
      have hx' := ev_of hR hx (by simp [unk])
      rw [Gives.val_iff] at h; subst h
      refine ⟨_, ?_, .inr rfl⟩
      simp [execOp, hx', convert, run_underlying h1, run_underlying h2, Conv.intToString]
    · rename_i s h1 h2 hx
      have hx' := ev_of hR hx (by simp [unk])
      rw [Gives.val_iff] at h; subst h
      refine ⟨_, ?_, .inr rfl⟩
      simp [execOp, hx', convert, run_underlying h1, run_underlying h2]
    · rename_i e h1 h2
      have hx' := known_of (x := x) hR (fun hu => by simp [hu, xtext, unk, Gives.bad] at h)
      refine ⟨_, ?_, .inr rfl⟩
      have := xtext_run (P := P) hR.mem h1 h2 h
      rw [← hx'] at this
      simp [execOp, this]
    · split at h
      · rcases h with h | ⟨_, h, _⟩ <;> cases h
      · exact (Gives.bad.1 h).elim
    · exact (Gives.bad.1 h).elim
  case range t x =>
    exfalso
    (repeat' split at h) <;> first | exact Gives.bad.1 h | (rcases h with h | ⟨_, h, _⟩ <;> cases h)
  case next x b =>
    exfalso
    (repeat' split at h) <;> first | exact Gives.bad.1 h | (rcases h with h | ⟨_, h, _⟩ <;> cases h)
  case makeInterface t x =>
    split at h
    · exact (Gives.bad.1 h).elim
    · rename_i d hni hu hx
      have hx' := ev_known hR hx
      rw [Gives.val_iff] at h; subst h
      refine ⟨_, ?_, .inr rfl⟩
      rw [ren_iface, ← hx']
      cases d <;> simp_all [execOp, Instr.makeInterface, run_underlying hu]
    · exact (Gives.bad.1 h).elim
  case makeFunc fn first cap =>
    split at h
    · rename_i h1 h2
      rw [Gives.val_iff] at h; subst h
      refine ⟨_, by simp [execOp, Instr.makeFunc]; rfl, .inr ?_⟩
      rw [ren_func]
      congr 1
      · apply Array.ext'; simpa using evs_known hR _ h1
      · apply Array.ext'; simpa using evs_known hR _ h2
    · exact (Gives.bad.1 h).elim
  case fieldAddr s x k =>
    have hx := known_of (x := x) hR (fun hu => by rw [hu] at h; unfold xfieldAddr at h; split at h <;> simp_all [unk, Gives.bad])
    exact ⟨_, by simp [execOp, hx, xfieldAddr_run h w], .inr rfl⟩
  case field s x k =>
    have hx := known_of (x := x) hR (fun hu => by rw [hu] at h; unfold xfield at h; split at h <;> simp_all [unk, Gives.bad])
    exact ⟨_, by simp [execOp, hx, xfield_run h w], .inr rfl⟩
  case indexAddr t x i =>
    have hx := known_of (x := x) hR (fun hu => by rw [hu] at h; unfold xindexAddr at h; split at h <;> simp_all [unk, Gives.bad])
    have hi := known_of (x := i) hR (fun hu => by rw [hu] at h; unfold xindexAddr at h; split at h <;> simp_all [unk, Gives.bad])
    exact ⟨_, by simp [execOp, hx, hi, xindexAddr_run hR.mem h], .inr rfl⟩
  case index t x i =>
    have hx := known_of (x := x) hR (fun hu => by rw [hu] at h; unfold xindex at h; split at h <;> simp_all [unk, Gives.bad])
    have hi := known_of (x := i) hR (fun hu => by rw [hu] at h; unfold xindex at h; split at h <;> simp_all [unk, Gives.bad])
    exact ⟨_, by simp [execOp, hx, hi, xindex_run h w], .inr rfl⟩
  case slice t x lo hi mx =>
    cases mx with
    | some m => exact (Gives.bad.1 h).elim
    | none =>
      have hx := known_of (x := x) hR (fun hu => by rw [hu] at h; unfold xslice at h; split at h <;> simp_all [unk, Gives.bad])
      obtain ⟨d, l, hl⟩ : ∃ d l, intOr d (lo.map (ev S)) = some l := by
        unfold xslice at h
        (repeat' split at h) <;> first | (exact (Gives.bad.1 h).elim) | exact ⟨_, _, by assumption⟩
      obtain ⟨d', l', hl'⟩ : ∃ d l, intOr d (hi.map (ev S)) = some l := by
        unfold xslice at h
        (repeat' split at h) <;> first | (exact (Gives.bad.1 h).elim) | exact ⟨_, _, by assumption⟩
      refine ⟨_, ?_, .inr rfl⟩
      have := xsliceAt_run hR.mem h
      rw [← opt_eval hR hl, ← opt_eval hR hl', ← hx] at this
      simp only [execOp, Sem.run_bind, Option.map_none, this, Result.andThen_ok, Sem.run_pure]
  case extract t k =>
    split at h
    · rename_i vs ht
      have ht' := ev_of hR ht (by simp [unk])
      rw [Gives.opt] at h
      rw [ren_tuple] at ht'
      have : vs[k]? = some v := by simpa using h
      refine ⟨_, ?_, .inr rfl⟩
      simp [execOp, ht', Instr.extract, this]
    · exact (Gives.bad.1 h).elim
  case call c =>
    split at h
    · rename_i b hc
      unfold xbi at h
      split at h
      · rename_i x t ts ha ht
        have hx := known_of (x := x) hR (fun hu => by
          rw [hu] at h; unfold xlen at h; split at h <;> simp_all [unk, Gives.bad])
        have hlen := fun ty => xlen_run (env := env) h ts ty w
        refine ⟨_, ?_, .inr rfl⟩
        have hargs : c.args.map a.eval = #[ren env (ev S x)] := by
          apply Array.ext'; simp [ha, hx]
        have htys : c.argTypes = ⟨t :: ts⟩ := by apply Array.ext'; simp [ht]
        simp [execOp, resolve, hc, invoke, builtin, hargs, htys, hlen]
      · rename_i x t ts ha ht
        have hx := known_of (x := x) hR (fun hu => by
          rw [hu] at h; unfold xcap at h; split at h <;> simp_all [unk, Gives.bad])
        have hargs : c.args.map a.eval = #[ren env (ev S x)] := by
          apply Array.ext'; simp [ha, hx]
        have htys : c.argTypes = ⟨t :: ts⟩ := by apply Array.ext'; simp [ht]
        refine ⟨_, ?_, .inr rfl⟩
        have hcap := fun ty => xcap_run (env := env) h ts ty w
        simp [execOp, resolve, hc, invoke, builtin, hargs, htys, hcap]
      · rename_i x y ha
        unfold xmin at h
        split at h
        · rename_i k n k' n' hx hy
          have hx' := ev_of hR hx (by simp [unk])
          have hy' := ev_of hR hy (by simp [unk])
          split at h
          · rename_i hk; subst hk
            rw [Gives.val_iff] at h; subst h
            have hargs : c.args.map a.eval = #[.int k n, .int k n'] := by
              apply Array.ext'; simp [ha, hx', hy']
            exact ⟨_, by simp [execOp, resolve, hc, invoke, builtin, hargs, Builtin.min_, Builtin.min2]; rfl, .inr (by simp)⟩
          · exact (Gives.bad.1 h).elim
        · exact (Gives.bad.1 h).elim
      · rename_i x y ha
        unfold xmax at h
        split at h
        · rename_i k n k' n' hx hy
          have hx' := ev_of hR hx (by simp [unk])
          have hy' := ev_of hR hy (by simp [unk])
          split at h
          · rename_i hk; subst hk
            rw [Gives.val_iff] at h; subst h
            have hargs : c.args.map a.eval = #[.int k n, .int k n'] := by
              apply Array.ext'; simp [ha, hx', hy']
            exact ⟨_, by simp [execOp, resolve, hc, invoke, builtin, hargs, Builtin.max_, Builtin.max2]; rfl, .inr (by simp)⟩
          · exact (Gives.bad.1 h).elim
        · exact (Gives.bad.1 h).elim
      · exact (gives_append h).elim
      · exfalso
        unfold xcopy at h
        (repeat' split at h) <;> simp only [Gives.bad, Gives.cpy] at h
      · exact (Gives.bad.1 h).elim
    · split at h
      · split at h
        · exact (Gives.call.1 h).elim
        · exact (Gives.bad.1 h).elim
      · exact (Gives.bad.1 h).elim
    · exact (Gives.bad.1 h).elim
end Go.X
