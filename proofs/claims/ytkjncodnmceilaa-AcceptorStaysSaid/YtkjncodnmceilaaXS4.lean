/- What the symbolic run says of the real one, fourth part: each operation that yields a value; stores; new blocks. -/
import Derived.Test.YtkjncodnmceilaaXS3
set_option linter.unusedSimpArgs false
set_option linter.unusedVariables false
namespace Go.X
open Go
variable {P : Program} {env : Nat → Loc} {S : VSt} {a : Act} {w : World}

theorem rowsAt {V : VW} (hR : RepW env V w) {i : Nat} {own t m n cap f} (h : V[i]? = some (.rows own t m n cap f)) {r : Nat} (hr : r < n) :
    w.rangeAt (env i).blk ((env i).base + r * (env i).m) ((f r).map (ren env)) := by
  have := hR.mat i _ h
  obtain ⟨hm, hrow, _⟩ := this
  rw [hm]
  exact (hrow r hr).2

theorem cellsAt {V : VW} (hR : RepW env V w) {i : Nat} {t c} (h : V[i]? = some (.cells t c)) :
    w.rangeAt (env i).blk (env i).base (c.map (ren env)) := fun j v hv => by
  have := hR.mat i _ h
  obtain ⟨hh, hb⟩ := this
  rw [hb, Nat.zero_add, cell_of_row w _ j _ _ _ hh]
  simpa using hv

theorem xload_run {V : VW} (hR : RepW env V w) {t : TypeId} {p : Addr} {v : Value} (h : Gives (xload P V t p) v) :
    (loadVar t (renA env p)).run P w = .ok (ren env v) w := by
  unfold xload at h
  split at h
  · rename_i t' c hv hs
    rw [Gives.opt] at h
    simp only [renA, hs]
    exact run_loadVar_of h (cellsAt hR hv)
  · rename_i own t' m n cap f r hv hs
    split at h
    · rename_i u hu
      rw [Gives.ob_iff] at h
      obtain ⟨rfl, hr⟩ := h
      simp only [renA, hs]
      exact run_loadVar_of hu (rowsAt hR hv hr)
    · exact (Gives.bad.1 h).elim
  · exact (Gives.bad.1 h).elim

theorem renA_add (env : Nat → Loc) (p : Addr) (n : Nat) : renA env { p with off := p.off + n } = (renA env p).add n := by
  unfold renA Addr.add
  cases p.spot <;> (by_cases hn : n = 0 <;> simp [hn, Nat.add_assoc])

theorem xfieldAddr_run {s : TypeId} {x v : Value} {k : Nat} (h : Gives (xfieldAddr P s x k) v) (w : World) :
    (Instr.fieldAt s (ren env x) k).run P w = .ok (ren env v) w := by
  unfold xfieldAddr at h
  split at h
  · rename_i fs p hu
    split at h
    · rename_i f hf
      split at h
      · rename_i i hi
        split at h
        · exact (Gives.bad.1 h).elim
        · rename_i hz
          rw [Gives.val_iff] at h
          subst h
          have hf' : fs[k]? = some f := by simpa using hf
          rw [ren_ptr, ren_ptr, renA_add]
          simp [Instr.fieldAt, run_underlying hu, hf', Instr.sureAddr, fieldPlace, run_size hi, hz]
      · exact (Gives.bad.1 h).elim
    · exact (Gives.bad.1 h).elim
  · exact (Gives.bad.1 h).elim

theorem xfield_run {s : TypeId} {x v : Value} {k : Nat} (h : Gives (xfield P s x k) v) (w : World) :
    (Instr.field s (ren env x) k).run P w = .ok (ren env v) w := by
  unfold xfield at h
  split at h
  · rename_i fs cs hu
    split at h
    · rename_i f hf
      rw [Gives.opt] at h
      have hf' : fs[k]? = some f := by simpa using hf
      have := run_part env h w
      rw [ren_agg, arr_map]
      simp [Instr.field, run_underlying hu, hf', asAgg, this]
    · exact (Gives.bad.1 h).elim
  · exact (Gives.bad.1 h).elim

theorem xindexAddr_run (hR : RepW env S.V w) {t : TypeId} {x ix v : Value} (h : Gives (xindexAddr P S.V t x ix) v) :
    (Instr.indexAt t (ren env x) (ren env ix)).run P w = .ok (ren env v) w := by
  unfold xindexAddr at h
  split at h
  · rename_i e p len c k i hu
    split at h
    · rename_i r own t' m n cap f ie hs hv hie
      split at h
      · rename_i hm
        rw [Gives.ob_iff] at h
        obtain ⟨rfl, h0, h1⟩ := h
        have hmm : (env p.block).m = m := (hR.mat _ _ hv).1
        have : (renA env p).add (i.toNat * ie.size) = renA env { p with spot := some (r + i.toNat) } := by
          unfold renA Addr.add
          simp only [hs, hmm, hm]
          by_cases hz : i.toNat * m = 0
          · have e1 : (r + i.toNat) * m = r * m := by rw [Nat.add_mul, hz, Nat.add_zero]
            simp [hz, e1]
          · simp only [hz, if_false, Nat.add_mul]
            congr 1
            omega
        rw [ren_slice, ren_int, ren_ptr, ← this]
        simp [Instr.indexAt, asIntOf, run_underlying hu, h0, h1, run_size hie]
      · exact (Gives.bad.1 h).elim
    · exact (Gives.bad.1 h).elim
  · rename_i n e p k i hu
    split at h
    · rename_i ie hie
      rw [Gives.ob_iff] at h
      obtain ⟨rfl, h0, h1⟩ := h
      rw [ren_ptr, ren_int, ren_ptr, renA_add]
      simp [Instr.indexAt, asIntOf, run_underlying hu, Instr.sureAddr, h0, h1, run_size hie]
    · exact (Gives.bad.1 h).elim
  · exact (Gives.bad.1 h).elim

theorem xindex_run {t : TypeId} {x ix v : Value} (h : Gives (xindex P t x ix) v) (w : World) :
    (Instr.index t (ren env x) (ren env ix)).run P w = .ok (ren env v) w := by
  unfold xindex at h
  split at h
  · rename_i s k i hu
    rw [Gives.ob_iff] at h
    obtain ⟨rfl, h0, h1⟩ := h
    have hlt : i.toNat < s.data.size := by
      have : s.data.size = s.size := rfl
      omega
    have hb : s[i.toNat]? = some s.data[i.toNat] := by
      show (if h : i.toNat < s.size then _ else _) = _
      have : i.toNat < s.size := hlt
      simp [this]
      rfl
    have h1' : i.toNat < s.size := hlt
    simp [Instr.index, asIntOf, run_underlying hu, h0, hb, strAt, Array.getD, h1', h1]
    rfl
  · rename_i n e cs k i hu
    split at h
    · rename_i ie hie
      split at h
      · rename_i u hp
        rw [Gives.ob_iff] at h
        obtain ⟨rfl, h0, h1⟩ := h
        have := run_part env hp w
        rw [ren_agg, arr_map, ren_int]
        simp [Instr.index, asIntOf, run_underlying hu, h0, h1, run_size hie, this]
      · exact (Gives.bad.1 h).elim
    · exact (Gives.bad.1 h).elim
  · exact (Gives.bad.1 h).elim

theorem xlen_run {t : TypeId} {x v : Value} (h : Gives (xlen P t x) v) (ts : List TypeId) (ty : TypeId) (w : World) :
    (Builtin.len_ ⟨t :: ts⟩ ty #[ren env x]).run P w = .ok (ren env v) w := by
  unfold xlen at h
  split at h
  · rename_i s hu
    rw [Gives.val_iff] at h; subst h
    simp [Builtin.len_, run_underlying hu, goInt]
  · rename_i e p n c hu
    rw [Gives.val_iff] at h; subst h
    cases p <;> simp [Builtin.len_, run_underlying hu, goInt, ren_slice]
  · rename_i n e hu
    rw [Gives.val_iff] at h; subst h
    simp [Builtin.len_, run_underlying hu, goInt]
  · exact (Gives.bad.1 h).elim

theorem known_of {x : Operand} (hR : Rep env S a w) (h : ev S x = unk → False) : a.eval x = ren env (ev S x) := ev_of hR rfl h

theorem xbin_unk {op : BinOp} {t : TypeId} {x y v : Value} (h : Gives (xbin P op t x y) v) : x ≠ unk ∧ y ≠ unk := by
  unfold xbin at h
  split at h
  · exact ⟨by simp [unk], by simp [unk]⟩
  · exact ⟨by simp [unk], by simp [unk]⟩
  · have key : ∀ b, xeq P t x y = some b → x ≠ unk ∧ y ≠ unk := by
      intro b hb
      constructor
      · rintro rfl; simp [xeq, unk] at hb
      · rintro rfl
        unfold xeq at hb
        split at hb <;> simp_all [unk]
        unfold veq at hb
        split at hb <;> simp_all
    cases op <;> simp only [Gives.bad] at h
    all_goals
      split at h
      · rename_i b hb; exact key b hb
      · exact (Gives.bad.1 h).elim

theorem parts_eval (hR : Rep env S a w) : ∀ (places : List (Nat × Nat)) (cells l : List Value) (parts : List (Nat × Operand)),
    fillL places cells (parts.map fun (i, x) => (i, ev S x)) = some l → (parts.map fun (i, x) => (i, a.eval x)) = (parts.map fun (i, x) => (i, ev S x)).map fun x => (x.1, ren env x.2)
  | _, _, _, [], _ => rfl
  | places, cells, l, (i, x) :: rest, h => by
    simp only [List.map_cons, fillL] at h
    split at h
    · cases h
    · split at h
      · split at h
        · rename_i hc hs
          simp only [List.map_cons]
          rw [ev_known hR hc, parts_eval hR _ _ _ rest h]
        · cases h
      · cases h

/-- EACH OPERATION THAT YIELDS A VALUE -/
theorem run_val {o : Oper} {v : Value} (hR : Rep env S a w) (h : Gives (xop P S o.op) v) : ∃ u, (execOp a.eval o).run P w = .ok (.value u) w ∧ Rv env v u := by
  obtain ⟨dst, op, ty, pos, after, guard⟩ := o
  cases op <;> simp only [xop, Gives.bad] at h
  case move x => rw [Gives.val_iff] at h; subst h; exact ⟨_, by simp [execOp], ev_rv hR x⟩
  case assign x => rw [Gives.val_iff] at h; subst h; exact ⟨_, by simp [execOp], ev_rv hR x⟩
  case pick c x y =>
    split at h
    · rename_i b hc
      have hc' := ev_of hR hc (by simp [unk])
      simp only [ren_bool] at hc'
      split at h
      · rename_i p q hx hy
        have hx' := ev_of hR hx (by simp [unk])
        have hy' := ev_of hR hy (by simp [unk])
        rw [Gives.val_iff] at h; subst h
        refine ⟨_, by simp [execOp, hc', asBool]; rfl, .inr ?_⟩
        cases b <;> simp [hx', hy']
      · cases b
        · rw [Gives.val_iff] at h; subst h; exact ⟨_, by simp [execOp, hc', asBool], ev_rv hR y⟩
        · rw [Gives.val_iff] at h; subst h; exact ⟨_, by simp [execOp, hc', asBool], ev_rv hR x⟩
    · exact (Gives.bad.1 h).elim
  case alloc t =>
    split at h
    · split at h
      · split at h
        · exact (Gives.alc.1 h).elim
        · exact (Gives.bad.1 h).elim
      · exact (Gives.bad.1 h).elim
    · exact (Gives.bad.1 h).elim
  case box t x =>
    split at h
    · exact (Gives.alc.1 h).elim
    · exact (Gives.bad.1 h).elim
  case build t parts =>
    have hp : (parts.map fun (i, x) => (i, a.eval x)).toList = (parts.toList.map fun (i, x) => (i, ev S x)).map fun x => (x.1, ren env x.2) := by
      have h' := h
      rw [Array.toList_map]
      unfold xbuild at h'
      (repeat' split at h') <;> first | (exact (Gives.bad.1 h').elim) | (rename_i hf; exact parts_eval hR _ _ _ _ hf)
    exact ⟨_, by simp only [execOp, Sem.run_bind, xbuild_run env h w _ hp]; rfl, .inr rfl⟩
  case buildSlice t len parts =>
    exfalso
    unfold xbuildSlice at h
    (repeat' split at h) <;> simp only [Gives.bad, Gives.alr] at h
  case load t x =>
    split at h
    · rename_i p hp
      have hp' := ev_of hR hp (by simp [unk])
      rw [ren_ptr] at hp'
      exact ⟨_, by simp [execOp, hp', Instr.loadAt, Instr.sureAddr, xload_run hR.mem h], .inr rfl⟩
    · exact (Gives.bad.1 h).elim
  case store t x y =>
    exfalso
    split at h
    · unfold xstore at h
      (repeat' split at h) <;> simp only [Gives.bad, Gives.sto, Gives.sob] at h
    · exact (Gives.bad.1 h).elim
  case nilCheck x =>
    split at h
    · rename_i p hp
      have hp' := ev_of hR hp (by simp [unk])
      rw [Gives.val_iff] at h; subst h
      refine ⟨_, ?_, .inr rfl⟩
      rw [ren_ptr] at hp'
      simp [execOp, hp', ren_ptr]
    · exact (Gives.bad.1 h).elim
  case binOp op t x y yt =>
    obtain ⟨hx, hy⟩ := xbin_unk h
    have := xbin_run env h x y w
    rw [← ev_of hR rfl hx, ← ev_of hR rfl hy] at this
    exact ⟨_, by simp only [execOp, Sem.run_bind, this] at this ⊢; simp [this], .inr rfl⟩
  case unOp op t x =>
    cases op <;> simp only [Gives.bad] at h
    · split at h
      · rename_i k n hx
        have hx' := ev_of hR hx (by simp [unk])
        rw [Gives.val_iff] at h; subst h
        refine ⟨_, ?_, .inr rfl⟩
        simp [execOp, hx', Op.unary, Op.intArith]
      · exact (Gives.bad.1 h).elim
    · split at h
      · rename_i b hx
        have hx' := ev_of hR hx (by simp [unk])
        rw [Gives.val_iff] at h; subst h
        refine ⟨_, ?_, .inr rfl⟩
        simp [execOp, hx', Op.unary]
      · exact (Gives.bad.1 h).elim
  case convert src dst x =>
    split at h
    · rename_i k' k k'' n h1 h2 hx
      have hx' := ev_of hR hx (by simp [unk])
      rw [Gives.val_iff] at h; subst h
      refine ⟨_, ?_, .inr rfl⟩
      simp [execOp, hx', convert, run_underlying h1, run_underlying h2, Conv.intToInt]
    · rename_i s h1 h2 hx
      have hx' := ev_of hR hx (by simp [unk])
      rw [Gives.val_iff] at h; subst h
      refine ⟨_, ?_, .inr rfl⟩
      simp [execOp, hx', convert, run_underlying h1, run_underlying h2]
    · exact (Gives.bad.1 h).elim
  case makeInterface t x =>
    split at h
    · exact (Gives.bad.1 h).elim
    · rename_i d hni hu hx
      have hx' := ev_known hR hx
      rw [Gives.val_iff] at h; subst h
      refine ⟨_, ?_, .inr rfl⟩
      rw [ren_iface, ← hx']
      cases d <;> simp_all [execOp, Instr.makeInterface, run_underlying hu]
    · exact (Gives.bad.1 h).elim
  case makeFunc fn first cap =>
    split at h
    · rename_i h1 h2
      rw [Gives.val_iff] at h; subst h
      refine ⟨_, by simp [execOp, Instr.makeFunc]; rfl, .inr ?_⟩
      rw [ren_func]
      congr 1
      · apply Array.ext'; simpa using evs_known hR _ h1
      · apply Array.ext'; simpa using evs_known hR _ h2
    · exact (Gives.bad.1 h).elim
  case fieldAddr s x k =>
    have hx := known_of (x := x) hR (fun hu => by rw [hu] at h; unfold xfieldAddr at h; split at h <;> simp_all [unk, Gives.bad])
    exact ⟨_, by simp [execOp, hx, xfieldAddr_run h w], .inr rfl⟩
  case field s x k =>
    have hx := known_of (x := x) hR (fun hu => by rw [hu] at h; unfold xfield at h; split at h <;> simp_all [unk, Gives.bad])
    exact ⟨_, by simp [execOp, hx, xfield_run h w], .inr rfl⟩
  case indexAddr t x i =>
    have hx := known_of (x := x) hR (fun hu => by rw [hu] at h; unfold xindexAddr at h; split at h <;> simp_all [unk, Gives.bad])
    have hi := known_of (x := i) hR (fun hu => by rw [hu] at h; unfold xindexAddr at h; split at h <;> simp_all [unk, Gives.bad])
    exact ⟨_, by simp [execOp, hx, hi, xindexAddr_run hR.mem h], .inr rfl⟩
  case index t x i =>
    have hx := known_of (x := x) hR (fun hu => by rw [hu] at h; unfold xindex at h; split at h <;> simp_all [unk, Gives.bad])
    have hi := known_of (x := i) hR (fun hu => by rw [hu] at h; unfold xindex at h; split at h <;> simp_all [unk, Gives.bad])
    exact ⟨_, by simp [execOp, hx, hi, xindex_run h w], .inr rfl⟩
  case extract t k =>
    split at h
    · rename_i vs ht
      have ht' := ev_of hR ht (by simp [unk])
      rw [Gives.opt] at h
      rw [ren_tuple] at ht'
      have : vs[k]? = some v := by simpa using h
      refine ⟨_, ?_, .inr rfl⟩
      simp [execOp, ht', Instr.extract, this]
    · exact (Gives.bad.1 h).elim
  case call c =>
    split at h
    · rename_i hc
      split at h
      · rename_i x t ts ha ht
        have hx := known_of (x := x) hR (fun hu => by
          rw [hu] at h; unfold xlen at h; split at h <;> simp_all [unk, Gives.bad])
        have hlen := fun ty => xlen_run (env := env) h ts ty w
        refine ⟨_, ?_, .inr rfl⟩
        have hargs : c.args.map a.eval = #[ren env (ev S x)] := by
          apply Array.ext'; simp [ha, hx]
        have htys : c.argTypes = ⟨t :: ts⟩ := by apply Array.ext'; simp [ht]
        simp [execOp, resolve, hc, invoke, builtin, hargs, htys, hlen]
      · exact (Gives.bad.1 h).elim
    · split at h
      · split at h
        · exact (Gives.call.1 h).elim
        · exact (Gives.bad.1 h).elim
      · exact (Gives.bad.1 h).elim
    · exact (Gives.bad.1 h).elim
end Go.X
