/- What the symbolic run says of the real one: regions that draw their order, the proof. -/
import Derived.Test.YtgnhcoefocbmpaaGreatXD1
set_option linter.unusedSimpArgs false
set_option linter.unusedSectionVars false
set_option linter.unusedVariables false
namespace Go.X
open Go
variable [WI] [WD]
variable {P : Program} {C : Ctx}

theorem bltI {a b : Nat} (h : a < b) : Nat.blt a b = true := by rw [Nat.blt_eq]; exact h
theorem bltE {a b : Nat} (h : Nat.blt a b = true) : a < b := by rw [Nat.blt_eq] at h; exact h

theorem RepW.drew {env : Nat → Loc} {V : VW} {w : World} (h : RepW env V w) : RepW env V { w with drawn := w.drawn + 1 } :=
  ⟨fun i o hi => by
    have := h.mat i o hi
    cases o with
    | cells t c => exact this
    | rows own t m n cap f => exact this
    | iter s pos => exact this
    | mp => exact this
    | mq g => exact this
    | vec t m n f => exact this
    | arg t m n f => exact this
    | tab t m n f => exact this
    | raw t m n cap f hs => exact this
    | dead => trivial, h.sc, h.blk, h.sep, WI.keep w _ (fun _ _ => rfl) h.inv, h.low, h.room⟩

theorem Rep.drew {env : Nat → Loc} {S : VSt} {a : Act} {w : World} (h : Rep env S a w) : Rep env S a { w with drawn := w.drawn + 1 } :=
  ⟨h.mem.drew, h.def_, h.size, h.tm, h.sc⟩

theorem Fr.drew (env : Nat → Loc) (V : VW) (w : World) : Fr env V w env V { w with drawn := w.drawn + 1 } :=
  ⟨fun _ _ => rfl, Nat.le_refl _, rfl, rfl, rfl, Nat.le_refl _, fun _ _ _ => rfl, fun i o h ho => .inl ⟨i, o, h, ho, rfl⟩⟩

theorem newObjs_congr {tr : List TE} {L L' : Nat → Bool} (hl : ∀ j, j < tr.length → L j = L' j) : newObjs tr L = newObjs tr L' :=
  newObjs_congr' fun j e hj _ => hl j (List.getElem?_eq_some_iff.1 hj).1

theorem IsL.congr {tr : List TE} {S0 S : VSt} {L L' : Nat → Bool} (h : IsL tr S0 L S) (hl : ∀ j, j < tr.length → L j = L' j) : IsL tr S0 L' S := by
  have lt : ∀ {j : Nat} {e : TE}, tr[j]? = some e → j < tr.length := fun h => (List.getElem?_eq_some_iff.1 h).1
  have hn := newObjs_congr hl
  exact ⟨h.lenT, hn ▸ h.lenV, fun j e t hj hL => h.done j e t hj (by rw [hl j (lt hj)]; exact hL), fun t hno => h.same t fun j e hj hL => hno j e hj (by rw [← hl j (lt hj)]; exact hL),
    fun j e b o hj hL => h.doneV j e b o hj (by rw [hl j (lt hj)]; exact hL), fun b hb hno => h.sameV b hb fun j e o hj hL => hno j e o hj (by rw [← hl j (lt hj)]; exact hL), fun b hb => hn ▸ h.newV b hb⟩

theorem or_assoc7 {A B C D E F G H : Prop} (h : A ∨ B ∨ C ∨ D ∨ E ∨ F ∨ G ∨ H) : (A ∨ B ∨ C ∨ D ∨ E ∨ F ∨ G) ∨ H := by
  rcases h with h | h | h | h | h | h | h | h
  · exact .inl (.inl h)
  · exact .inl (.inr (.inl h))
  · exact .inl (.inr (.inr (.inl h)))
  · exact .inl (.inr (.inr (.inr (.inl h))))
  · exact .inl (.inr (.inr (.inr (.inr (.inl h)))))
  · exact .inl (.inr (.inr (.inr (.inr (.inr (.inl h))))))
  · exact .inl (.inr (.inr (.inr (.inr (.inr (.inr h))))))
  · exact .inr h

theorem rawsto_kind {S : VSt} {o : Op} {p : Prop} {i : Nat} {ob : VObj} (hx : xraw P S o = .sto p i ob) : ∃ t m n cap f hs, ob = .raw t m n cap f hs := by
  unfold xraw at hx
  split at hx
  · split at hx
    case' h_2 => cases hx
    unfold xstoreR at hx
    (repeat' split at hx) <;> first | (cases hx; done) | (cases hx; exact ⟨_, _, _, _, _, _, rfl⟩)
  · unfold xbuildR at hx
    split at hx <;> cases hx
  · split at hx
    · split at hx
      · unfold xappR at hx
        (repeat' split at hx) <;> cases hx
      · cases hx
    · cases hx
  · cases hx

/-- an operation that is run -/
theorem runs_wp (hC : CtxOK P C) {env : Nat → Loc} {S : VSt} {a : Act} {w : World} {o : Oper} {e : TE} {K : Act → World → Prop} {Q : Exit → Act → World → Prop} (hR : Rep env S a w) (h : Runs P C S o e)
    (next : ∀ env' a' w', Fr env S.V w env' (e.apply S).V w' → Rep env' (e.apply S) a' w' → K a' w') : o.wp P a w K Q := by
  have hput : ∀ {env' : Nat → Loc} {u v : Value} {w' : World} {rd : Option (Option Nat)} {os : List VObj}, Rep env' ⟨S.tmps, S.V ++ os⟩ a w' → Rv env' v u → Sc (S.V ++ os).length v → Rep env' (TE.apply ⟨o.dst, v, none, rd, os⟩ S) (a.put o.dst u) w' := by
    intro env' u v w' rd os hR' hv hs
    unfold TE.apply
    cases hd : o.dst with
    | none => exact hR'
    | some d => exact hR'.put hv hs
  have hcall : ∀ f args g os v, (xop P S o.op = .call f args ∨ xmapOp P S o.op = .call f args) → C.fn f = some g → GivesN (g args S.V) os v → Sc (S.V ++ os).length v →
      (∀ env' a' w', Fr env S.V w env' (TE.apply ⟨o.dst, v, none, mrd S o.op, os⟩ S).V w' → Rep env' (TE.apply ⟨o.dst, v, none, mrd S o.op, os⟩ S) a' w' → K a' w') → o.wp P a w K Q := by
    intro f args g os v hx hgf hx' hs next
    have hfn := hC.fn f g hgf
    have hrun : (execOp a.eval o).run P w = .ok (.enter f (args.map (ren env)).toArray) w ∧ ∀ x ∈ args, Sc S.V.length x := by
      rcases hx with hx | hx
      · exact ⟨run_call hR hx hfn.callable, arg_sc hR hx⟩
      · exact run_callM hR hx hfn.callable
    unfold Oper.wp
    rw [hrun.1, Oper.upon_enter]
    refine (hfn.gives env w S.V args os v hR.mem hrun.2 hx').mono ?_
    rintro e w' ⟨u, env', rfl, hrv, hW, hF⟩
    exact next env' _ w' hF (hput (hR.later hW hF) hrv hs)
  rcases h with ⟨v, hg, hs, rfl⟩ | ⟨i, t, c, hx, hd, hsc, rfl⟩ | ⟨t, c, hx, hsc, rfl⟩ | ⟨p, os, v, hx, hp, hs, rfl⟩ | ⟨t, m, rows, hx, hsc, rfl⟩ | ⟨p, i, ob, v, hx, hp, hs, rfl⟩ | ⟨p, i, ob, v, hx, hp, hs, rfl⟩ | ⟨f, args, g, v, hx, hgf, hg, hasc, hvsc, rfl⟩ | ⟨q, i, r, c, own, t, m, n, cap, f, hx, hq, hd, hV, hsc, rfl⟩ | ⟨q, i, ob, hxr, hp, hd, hsc, rfl⟩ | ⟨ob, n, hxr, hsc, rfl⟩ | ⟨q, i, ob, n, hxr, hp, hsc, rfl⟩
  · have hx : (Gives (xop P S o.op) v ∨ ∃ p, xmapOp P S o.op = .val p v ∧ p) ∨ ∃ f args g, (xop P S o.op = .call f args ∨ xmapOp P S o.op = .call f args) ∧ C.fn f = some g ∧ Gives (g args S.V) v := by
      unfold xval at hg
      split at hg
      · rename_i f args hx
        right
        split at hg
        · rename_i g hgf
          refine ⟨f, args, g, .inl hx, hgf, ?_⟩
          split at hg
          · rename_i v' hv'; rw [Gives.val_iff] at hg; exact .inl (hg ▸ hv')
          · rename_i p v' hv'; rw [Gives.ob_iff] at hg; exact .inr ⟨p, hg.1 ▸ hv', hg.2⟩
          · exact (Gives.new.1 hg).elim
          · exact (Gives.bad.1 hg).elim
        · exact (Gives.bad.1 hg).elim
      · unfold xvalM at hg
        split at hg
        · rename_i p v' hm
          rw [Gives.ob_iff] at hg
          exact .inl (.inr ⟨p, hg.1 ▸ hm, hg.2⟩)
        · rename_i f args hx
          right
          split at hg
          · rename_i g hgf
            refine ⟨f, args, g, .inr hx, hgf, ?_⟩
            split at hg
            · rename_i v' hv'; rw [Gives.val_iff] at hg; exact .inl (hg ▸ hv')
            · rename_i p v' hv'; rw [Gives.ob_iff] at hg; exact .inr ⟨p, hg.1 ▸ hv', hg.2⟩
            · exact (Gives.new.1 hg).elim
            · exact (Gives.bad.1 hg).elim
          · exact (Gives.bad.1 hg).elim
        · exact (Gives.bad.1 hg).elim
      · exact .inl (.inl hg)
    rcases hx with (hx | ⟨p, hm, hp⟩) | ⟨f, args, g, hx, hgf, hx'⟩
    rotate_left
    · unfold Oper.wp
      rw [run_morval hR hm hp, Oper.upon_value]
      have hV : (TE.apply ⟨o.dst, v, none, mrd S o.op, []⟩ S).V = S.V := by unfold TE.apply; simp
      exact next env _ w (hV ▸ Fr.refl _ _ _) (hput (by rw [List.append_nil]; exact hR) (.inr rfl) (by rw [List.append_nil]; exact hs))
    rotate_left
    · obtain ⟨u, hrun, hrv⟩ := run_val hR hx
      unfold Oper.wp
      rw [hrun, Oper.upon_value]
      have hV : (TE.apply ⟨o.dst, v, none, mrd S o.op, []⟩ S).V = S.V := by unfold TE.apply; simp
      exact next env _ w (hV ▸ Fr.refl _ _ _) (hput (by rw [List.append_nil]; exact hR) hrv (by rw [List.append_nil]; exact hs))
    · exact hcall f args g [] v hx hgf (.inl ⟨rfl, hx'⟩) (by rw [List.append_nil]; exact hs) next
  · obtain ⟨_, _, hx⟩ := sto_facts hx
    have hk := xop_kind (P := P) (S := S) (o := o.op) (by rw [hx]; rfl)
    rcases hk with ⟨_, _, _, _, hbs⟩ | ⟨t', he⟩ | ⟨t', x, he⟩ | ⟨t', x, v, p, he, hp, hxs⟩ | ⟨cc, he⟩
    · exfalso; rcases alr_or_bad hbs with ⟨_, _, _, e⟩ | e <;> (rw [e] at hx; cases hx)
    · rw [he] at hx; simp only [xop] at hx; (repeat' split at hx) <;> cases hx
    · rw [he] at hx; simp only [xop] at hx; (repeat' split at hx) <;> cases hx
    · rw [hxs] at hx
      obtain ⟨w', hrun, hW, hF⟩ := store_cells_ok hR.mem hx hsc
      have hp' := ev_of hR hp (by simp [unk])
      rw [ren_ptr] at hp'
      have hv' : a.eval v = ren env (ev S v) := by
        rcases xstore_kind (P := P) (V := S.V) (t := t') (p := p) (v := ev S v) with ⟨_, _, _, _, hc⟩ | ⟨_, _, _, _, he', _⟩ | he'
        · exact ev_known hR hc
        · rw [he'] at hx; cases hx
        · rw [he'] at hx; cases hx
      unfold Oper.wp
      have : (execOp a.eval o).run P w = .ok .skip w' := by
        rw [show execOp a.eval o = (do Instr.storeAt t' (a.eval x) (a.eval v); pure .skip) by simp only [execOp, he]]
        simp [hp', hv', Instr.storeAt, Instr.sureAddr, hrun]
      rw [this, Oper.upon_skip, hd]
      have hV : (TE.apply ⟨none, undef, some (i, .cells t c), mrd S o.op, []⟩ S) = ⟨S.tmps, S.V.set i (.cells t c)⟩ := by unfold TE.apply; simp
      exact next env a w' (by rw [hV]; exact hF) (by rw [hV]; exact hR.later hW hF)
    · rw [he] at hx
      simp only [xop] at hx
      (repeat' split at hx) <;> first | (cases hx; done) | (have hpl := congrArg Res.mostly hx; rw [bi_mostly] at hpl; cases hpl)
  · have hx' : xop P S o.op = .alc t c := by
      unfold xval at hx
      split at hx
      · exfalso
        (repeat' split at hx) <;> cases hx
      · exfalso
        unfold xvalM at hx
        (repeat' split at hx) <;> cases hx
      · exact hx
    obtain ⟨hW, hF⟩ := hR.mem.alloc (t := t) hsc
    have hR' := hR.later hW hF
    unfold Oper.wp
    rw [run_alc hR hx', Oper.upon_value]
    exact next _ _ _ hF (hput hR' (.inr (by simp [ren_ptr, renA])) (.ptr (by simp)))
  · have hx' : ∃ f args g, (xop P S o.op = .call f args ∨ xmapOp P S o.op = .call f args) ∧ C.fn f = some g ∧ g args S.V = .new p os v := by
      unfold xval at hx
      split at hx
      · rename_i f args hxx
        split at hx
        · rename_i g hgf
          refine ⟨f, args, g, .inl hxx, hgf, ?_⟩
          split at hx <;> cases hx
          assumption
        · cases hx
      · unfold xvalM at hx
        split at hx
        · cases hx
        · rename_i f args hxx
          split at hx
          · rename_i g hgf
            refine ⟨f, args, g, .inr hxx, hgf, ?_⟩
            split at hx <;> cases hx
            assumption
          · cases hx
        · cases hx
      · rename_i hnc
        exfalso
        have hk := xop_kind (P := P) (S := S) (o := o.op) (by rw [hx]; rfl)
        rcases hk with ⟨_, _, _, _, hbs⟩ | ⟨t', he⟩ | ⟨t', x, he⟩ | ⟨t', x, v, p, he, hp, hxs⟩ | ⟨cc, he⟩
        · exfalso; rcases alr_or_bad hbs with ⟨_, _, _, e⟩ | e <;> (rw [e] at hx; cases hx)
        · rw [he] at hx; simp only [xop] at hx; (repeat' split at hx) <;> cases hx
        · rw [he] at hx; simp only [xop] at hx; (repeat' split at hx) <;> cases hx
        · rw [hxs] at hx
          rcases xstore_kind (P := P) (V := S.V) (t := t') (p := p) (v := ev S v) with ⟨_, _, _, he', _⟩ | ⟨_, _, _, _, he', _⟩ | he' <;> (rw [he'] at hx; cases hx)
        · rw [he] at hx
          simp only [xop] at hx
          (repeat' split at hx) <;> first | (cases hx; done) | (have hpl := congrArg Res.mostly hx; rw [bi_mostly] at hpl; cases hpl)
    obtain ⟨f, args, g, hxx, hgf, hge⟩ := hx'
    exact hcall f args g os v hxx hgf (.inr ⟨p, hge, hp⟩) hs next
  · have hxx : xop P S o.op = .alr t m rows := by
      unfold xval at hx
      split at hx
      · exfalso
        (repeat' split at hx) <;> cases hx
      · exfalso
        unfold xvalM at hx
        (repeat' split at hx) <;> cases hx
      · exact hx
    obtain ⟨hrun, hlen⟩ := run_alr hR hxx
    obtain ⟨hW, hF⟩ := hR.mem.allocRows (t := t) hsc hlen
    have hR' := hR.later hW hF
    unfold Oper.wp
    rw [hrun, Oper.upon_value]
    exact next _ _ _ hF (hput hR' (.inr (by simp [ren_slice0, renA])) (.slice (by simp)))
  · obtain ⟨_, hxx⟩ := grow_facts hx
    obtain ⟨u', w', env', hrun, hu, hW, hF⟩ := run_grow hR hxx hp
    have hR' := hR.later hW hF
    unfold Oper.wp
    rw [hrun, Oper.upon_value]
    have hap : TE.apply ⟨o.dst, v S.V.length, i.map fun i => (i, .dead), mrd S o.op, [ob]⟩ S = ⟨match o.dst with | some t => S.tmps.set t (v S.V.length) | none => S.tmps, killV S.V i ++ [ob]⟩ := by
      unfold TE.apply
      cases i <;> rfl
    refine next env' _ w' (by rw [hap]; exact hF) ?_
    rw [hap]
    cases hd : o.dst with
    | none => exact hR'
    | some d => exact hR'.put (.inr hu) (by rw [List.length_append, killV_len]; exact hs)
  · obtain ⟨_, hxx⟩ := cpy_facts hx
    obtain ⟨w', hrun, hW, hF⟩ := run_cpy hR hxx hp
    have hR' := hR.later hW hF
    unfold Oper.wp
    rw [hrun, Oper.upon_value]
    have hap : TE.apply ⟨o.dst, v, some (i, ob), mrd S o.op, []⟩ S = ⟨match o.dst with | some t => S.tmps.set t v | none => S.tmps, S.V.set i ob⟩ := by
      unfold TE.apply
      simp only [List.append_nil]
      rfl
    refine next env _ w' (by rw [hap]; exact hF) ?_
    rw [hap]
    cases hd : o.dst with
    | none => exact hR'
    | some d => exact hR'.put (.inr rfl) (by rw [List.length_set]; exact hs)
  · have hfn := hC.fn f g hgf
    unfold Oper.wp
    rw [run_call hR hx hfn.callable, Oper.upon_enter]
    have h0 : RepW env [] w := ⟨fun i o hi => by simp at hi, fun i o hi => by simp at hi, fun i o hi => by simp at hi, fun i j oi oj hi => by simp at hi, hR.mem.inv, fun i o hi => by simp at hi, hR.mem.room⟩
    refine (hfn.gives env w [] args [] v h0 hasc (.inl ⟨rfl, hg⟩)).mono ?_
    rintro e w' ⟨u, env', rfl, hrv, hW, hF⟩
    have hkeep : ∀ b, b < w.heap.size → w'.heap[b]? = w.heap[b]? := fun b hb => hF.keep b hb fun i o hi => by simp at hi
    have hV : (TE.apply ⟨o.dst, v, none, none, []⟩ S).V = S.V := by unfold TE.apply; simp
    have hF' : Fr env S.V w env S.V w' := ⟨fun _ _ => rfl, Nat.le_refl _, hF.os, hF.tape, hF.output, hF.size, fun b hb _ => hkeep b hb, fun i o hi ho => .inl ⟨i, o, hi, ho, rfl⟩⟩
    have hW' : RepW env S.V w' := hR.mem.mk' hF' (fun i o hi => (hR.mem.mat i o hi).keep (fun hB => hkeep _ (hR.mem.blk i o hi hB)) (hR.mem.sc i o hi) fun _ _ => rfl) hR.mem.sc
      (fun i o hi hB => Nat.lt_of_lt_of_le (hR.mem.blk i o hi hB) hF.size) hR.mem.sep
    have hrv' : Rv env v u := by
      rcases hrv with h | h
      · exact .inl h
      · right; rw [h]; exact hvsc env' env fun i hi => absurd hi (Nat.not_lt_zero i)
    exact next env _ w' (hV ▸ hF') (hput (by rw [List.append_nil]; exact hR.later hW' hF') hrv' (hvsc.mono (Nat.zero_le _)))
  · have hk := xop_kind (P := P) (S := S) (o := o.op) (by rw [hx]; rfl)
    rcases hk with ⟨_, _, _, _, hbs⟩ | ⟨t, he⟩ | ⟨t, x, he⟩ | ⟨t', x, v, p, he, hp, hxs⟩ | ⟨cc, he⟩
    · exfalso; rcases alr_or_bad hbs with ⟨_, _, _, e⟩ | e <;> (rw [e] at hx; cases hx)
    · rw [he] at hx; simp only [xop] at hx; (repeat' split at hx) <;> cases hx
    · rw [he] at hx; simp only [xop] at hx; (repeat' split at hx) <;> cases hx
    · rw [hxs] at hx
      obtain ⟨w', hrun, hW, hF⟩ := store_rows_ok hR.mem hx hq hsc hV
      have hp' := ev_of hR hp (by simp [unk])
      rw [ren_ptr] at hp'
      have hv' : a.eval v = ren env (ev S v) := by
        rcases xstore_kind (P := P) (V := S.V) (t := t') (p := p) (v := ev S v) with ⟨_, _, _, he', _⟩ | ⟨_, _, _, _, _, hc⟩ | he'
        · rw [he'] at hx; cases hx
        · exact ev_known hR hc
        · rw [he'] at hx; cases hx
      unfold Oper.wp
      have : (execOp a.eval o).run P w = .ok .skip w' := by
        rw [show execOp a.eval o = (do Instr.storeAt t' (a.eval x) (a.eval v); pure .skip) by simp only [execOp, he]]
        simp [hp', hv', Instr.storeAt, Instr.sureAddr, hrun]
      rw [this, Oper.upon_skip, hd]
      have hap : (TE.apply ⟨none, undef, some (i, .rows own t m n cap fun j => if j = r then c else f j), mrd S o.op, []⟩ S) = ⟨S.tmps, S.V.set i (.rows own t m n cap fun j => if j = r then c else f j)⟩ := by unfold TE.apply; simp
      exact next env a w' (by rw [hap]; exact hF) (by rw [hap]; exact hR.later hW hF)
    · rw [he] at hx
      simp only [xop] at hx
      (repeat' split at hx) <;> first | (cases hx; done) | (have hpl := congrArg Res.mostly hx; rw [bi_mostly] at hpl; cases hpl)
  · unfold xraw at hxr
    split at hxr
    · rename_i t x v ho
      split at hxr
      case' h_2 => cases hxr
      rename_i p hp'
      obtain ⟨w', hrun, hW, hF⟩ := store_raw_ok hR.mem hxr hp hsc
      have hq' := ev_of hR hp' (by simp [unk])
      rw [ren_ptr] at hq'
      have hv' : a.eval v = ren env (ev S v) := ev_known hR (storeR_known hxr)
      unfold Oper.wp
      have : (execOp a.eval o).run P w = .ok .skip w' := by
        rw [show execOp a.eval o = (do Instr.storeAt t (a.eval x) (a.eval v); pure .skip) by simp only [execOp, ho]]
        simp [hq', hv', Instr.storeAt, Instr.sureAddr, hrun]
      rw [this, Oper.upon_skip, hd]
      have hap : (TE.apply ⟨none, undef, some (i, ob), mrd S o.op, []⟩ S) = ⟨S.tmps, S.V.set i ob⟩ := by unfold TE.apply; simp
      rw [ho] at hap
      exact next env a w' (by rw [ho, hap]; exact hF) (by rw [ho, hap]; exact hR.later hW hF)
    · unfold xbuildR at hxr
      split at hxr <;> cases hxr
    · split at hxr
      · split at hxr
        · unfold xappR at hxr
          (repeat' split at hxr) <;> cases hxr
        · cases hxr
      · cases hxr
    · cases hxr
  · have hap : ∀ {u : Value} {w' : World} {env' : Nat → Loc} {a' : Act}, Rep env' ⟨S.tmps, S.V ++ [ob]⟩ a' w' → Rv env' (.slice (some ⟨S.V.length, 0, some 0⟩) n n) u → Rep env' (TE.apply ⟨o.dst, .slice (some ⟨S.V.length, 0, some 0⟩) n n, none, mrd S o.op, [ob]⟩ S) (a'.put o.dst u) w' := by
      intro u w' env' a' hR' hu
      unfold TE.apply
      cases hd : o.dst with
      | none => exact hR'
      | some d => exact hR'.put hu (.slice (by simp))
    unfold xraw at hxr
    split at hxr
    · split at hxr
      · unfold xstoreR at hxr
        (repeat' split at hxr) <;> cases hxr
      · cases hxr
    · rename_i t len parts ho
      unfold xbuildR at hxr
      split at hxr
      case' h_2 => cases hxr
      rename_i e m rows hrows
      cases hxr
      obtain ⟨hrun, hlen⟩ := run_rows hR hrows ho
      obtain ⟨hW, hF⟩ := allocRaw_ok hR.mem (t := e) hsc hlen
      have hR' := hR.later hW hF
      unfold Oper.wp
      rw [hrun, Oper.upon_value]
      exact next _ _ _ hF (hap hR' (.inr (by simp [ren_slice0, renA])))
    · split at hxr
      · split at hxr
        · unfold xappR at hxr
          (repeat' split at hxr) <;> cases hxr
        · cases hxr
      · cases hxr
    · cases hxr
  · have hap : TE.apply ⟨o.dst, .slice (some ⟨S.V.length, 1, some 0⟩) n 0, i.map fun i => (i, .dead), mrd S o.op, [ob]⟩ S = ⟨match o.dst with | some t => S.tmps.set t (.slice (some ⟨S.V.length, 1, some 0⟩) n 0) | none => S.tmps, killV S.V i ++ [ob]⟩ := by
      unfold TE.apply
      cases i <;> rfl
    generalize hmr : mrd S o.op = mr at hap next
    unfold xraw at hxr
    split at hxr
    · split at hxr
      · unfold xstoreR at hxr
        (repeat' split at hxr) <;> cases hxr
      · cases hxr
    · unfold xbuildR at hxr
      split at hxr <;> cases hxr
    · rename_i c ho
      split at hxr
      case' h_2 => cases hxr
      rename_i hcal
      split at hxr
      case' h_2 => cases hxr
      rename_i x y t u hargs htys
      obtain ⟨u', w', env', hrun, hu, hW, hF⟩ := append_raw_ok (ty := o.type) hR.mem hxr hp hsc
      have hR' := hR.later hW hF
      obtain ⟨hk1, hk2⟩ := appR_known hxr
      have h1 := ev_of hR (x := x) rfl hk1
      have h2 := ev_of hR (x := y) rfl hk2
      have hargs' : c.args.map a.eval = #[ren env (ev S x), ren env (ev S y)] := by
        apply Array.ext'; simp [hargs, h1, h2]
      have hts : c.argTypes = #[t, u] := by
        apply Array.ext'; simp [htys]
      have hrun' : (execOp a.eval o).run P w = .ok (.value u') w' := by
        simp [execOp, ho, resolve, hcal, invoke, builtin, hargs', hts, hrun]
      unfold Oper.wp
      rw [hrun', Oper.upon_value]
      refine next env' _ w' (by rw [hap]; exact hF) ?_
      rw [hap]
      cases hd : o.dst with
      | none => exact hR'
      | some d => exact hR'.put (.inr hu) (.slice (by rw [List.length_append, killV_len]; simp))
    · cases hxr

theorem guardTmp_list {ops : Array Oper} {j : Nat} {g : Tmp} (h : guardTmp ops.toList j = some g) : (ops[j]?).bind (·.dst) = some g := by
  have := guardTmp_eq h
  simpa using this

theorem wants_wanted {env : Nat → Loc} {ops : Array Oper} {S : VSt} {a : Act} {w : World} {o : Oper} (hR : Rep env S a w) (h : Wants ops.toList S o) : Region.wanted o (yielded ops a.tmps) = true := by
  rcases h with hg | ⟨j, want, g, hg, hgt, hv⟩
  · simp [Region.wanted, hg]
  · have hy : yielded ops a.tmps j = some want := by rw [yielded, guardTmp_list hgt, Option.bind_some, tmp_bool hR hv]
    simp only [Region.wanted, hg, hy]
    cases want <;> rfl

theorem skips_wanted {env : Nat → Loc} {ops : Array Oper} {S : VSt} {a : Act} {w : World} {o : Oper} (hR : Rep env S a w) (h : Skips ops.toList S o) : Region.wanted o (yielded ops a.tmps) = false := by
  obtain ⟨j, want, g, hg, hgt, hv⟩ := h
  rcases hv with hv | hu
  · have hy : yielded ops a.tmps j = some (!want) := by rw [yielded, guardTmp_list hgt, Option.bind_some, tmp_bool hR hv]
    simp only [Region.wanted, hg, hy]
    cases want <;> rfl
  · have hy : yielded ops a.tmps j = none := by
      have hrv := ev_rv hR (.tmp g)
      simp only [ev, hu] at hrv
      have hu' : a.eval (.tmp g) = undef := by
        rcases hrv with h' | h'
        · simp [unk, undef] at h'
        · rw [h']; exact ren_undef env
      simp only [Act.eval] at hu'
      rw [yielded, guardTmp_list hgt, Option.bind_some]
      cases ht : a.tmps[g]? with
      | none => rfl
      | some v =>
        rw [Array.getD_eq_getD_getElem?, ht] at hu'
        simp only [Option.getD_some] at hu'
        subst hu'
        rfl
    simp [Region.wanted, hg, hy]

theorem draw_wp0 (hC : CtxOK P C) {env : Nat → Loc} {id : Nat} {ops : Array Oper} {S : VSt} {a : Act} {w : World} {k : VSt → Prop} {Q : Exit → Act → World → Prop} (hR : Rep env S a w)
    (h : xdraw P C ops.toList S k) (hA : P.follows .mixedOrders = true → xdraw2 P C ops.toList S k → (Code.region id ops true).wp P Q a w) (next : ∀ env' a' w' S', Fr env S.V w env' S'.V w' → Rep env' S' a' w' → k S' → Q .normal a' w') : (Code.region id ops true).wp P Q a w := by
  unfold xdraw at h
  split at h
  · exact h.elim
  · rename_i hm
    obtain ⟨tr, Sn, hpath, hk⟩ := drawGo_path ops.toList ops.toList S [] _ h
    rw [List.nil_append] at hk
    split at hk
    · rename_i hchk
      have hT := Tr.of hchk
      obtain ⟨hlen, hst⟩ := Path.lens _ _ _ _ hpath
      have hb0 : ∀ j, Nat.blt j 0 = false := fun j => rfl
      have hn0 : newObjs tr (fun j => Nat.blt j 0) = [] := newFrom_none tr 0 fun j _ _ _ => hb0 _
      have h0 : IsL tr S (fun j => Nat.blt j 0) S := ⟨rfl, (by rw [hn0]; rfl), fun j e t _ hL => (by rw [hb0] at hL; cases hL), fun _ _ => rfl, fun j e b o _ hL => (by rw [hb0] at hL; cases hL), fun _ _ _ => rfl,
        fun b hb => (by rw [hn0, List.getElem?_eq_none hb]; simp)⟩
      obtain ⟨hstates, hfinal⟩ := Path.states hT hst ops.toList 0 S tr Sn (by simp) (by simp) h0 hpath
      refine wp_region_any hm ?_
      have main : ∀ (fuel : Nat) (listed : Array Bool) (env1 : Nat → Loc) (a1 : Act) (w1 : World) (S1 : VSt), listed.size = ops.size → listed.toList.count false = fuel →
          (∀ j o, ops[j]? = some o → listed.getD j false = true → ∀ e ∈ o.after, Region.binds .any e = true → listed.getD e.on false = true) →
          IsL tr S (fun j => listed.getD j false) S1 → Rep env1 S1 a1 w1 → Fr env S.V w env1 S1.V w1 → wpAny P .any ops Q fuel listed a1 w1 := by
        intro fuel
        induction fuel with
        | zero =>
          intro listed env1 a1 w1 S1 hsz hcnt hdc hS1 hR1 hF1
          have hall : ∀ j, j < ops.size → listed.getD j false = true := by
            intro j hj
            have hj' : j < listed.size := by omega
            have hnot : false ∉ listed.toList := List.count_eq_zero.1 hcnt
            have : listed[j] ≠ false := fun hf => hnot (by rw [← hf]; simp)
            simp [hj', this]
          have hready : Region.ready .any ops listed = [] := by
            rw [List.eq_nil_iff_forall_not_mem]
            intro j hj
            obtain ⟨hun, o, ho, _⟩ := mem_ready.1 hj
            have hlt := (Array.getElem?_eq_some_iff.1 ho).1
            have := hall j hlt
            have hj' : j < listed.size := by omega
            simp [hj'] at this hun
            simp [this] at hun
          refine ⟨hready, ?_⟩
          have e1 : S1 = Sn := by
            refine (hS1.congr (L' := fun _ => true) fun j hj => hall j (by rw [← hT.size]; exact hj)).unique (hfinal.congr fun j hj => ?_)
            simp only [Nat.zero_add]
            exact bltI (by rw [hlen]; exact hj)
          exact next env1 a1 w1 S1 hF1 hR1 (e1 ▸ hk)
        | succ fuel ih =>
          intro listed env1 a1 w1 S1 hsz hcnt hdc hS1 hR1 hF1
          refine ⟨fun hready => ?_, fun i hi => ?_⟩
          · exfalso
            have hex : ∃ j, j < ops.size ∧ listed.getD j true = false := by
              have hmem : false ∈ listed.toList := List.count_pos_iff.1 (by omega)
              obtain ⟨j, hj, he⟩ := List.getElem_of_mem hmem
              have hj' : j < listed.size := by simpa using hj
              refine ⟨j, by omega, ?_⟩
              have : listed[j] = false := by simpa using he
              simp [hj', this]
            obtain ⟨j, hj, hun⟩ := hex
            have key : ∀ (n j : Nat), j < n → j < ops.size → listed.getD j true = false → False := by
              intro n
              induction n with
              | zero => intro j hj; omega
              | succ n ihn =>
                intro j hjn hj hun
                have ho : ops[j]? = some ops[j] := by simp [hj]
                by_cases hp : ∀ e ∈ ops[j].after, Region.binds .any e = true → listed.getD e.on false = true
                · have : j ∈ Region.ready .any ops listed := mem_ready.2 ⟨hun, ops[j], ho, hp⟩
                  rw [hready] at this; cases this
                · have : ∃ e ∈ ops[j].after, Region.binds .any e = true ∧ listed.getD e.on false = false := by
                    refine Classical.byContradiction fun hno => hp fun e he hb => ?_
                    cases hl : listed.getD e.on false with
                    | true => rfl
                    | false => exact absurd ⟨e, he, hb, hl⟩ hno
                  obtain ⟨e, he, hb, hl⟩ := this
                  have hlt := hT.edges j ops[j] ho e he hb
                  refine ihn e.on (by omega) (by omega) ?_
                  have hs : e.on < listed.size := by omega
                  simp [hs] at hl ⊢
                  exact hl
            exact key (j + 1) j (by omega) hj hun
          · obtain ⟨hun, o, ho, hpre⟩ := mem_ready.1 hi
            have hilt := (Array.getElem?_eq_some_iff.1 ho).1
            have hitr : i < tr.length := by rw [hT.size]; exact hilt
            obtain ⟨e, he⟩ : ∃ e, tr[i]? = some e := ⟨tr[i], by simp [hitr]⟩
            obtain ⟨Si, hSi, hstep⟩ := hstates i o e (Nat.zero_le _) ho he
            have hunf : listed.getD i false = false := by
              have : i < listed.size := by omega
              simp [this] at hun ⊢; exact hun
            -- what is reached from i is listed; what reaches i is not
            have reachL : ∀ {x y : Nat}, Reach ops x y → (∀ o', ops[x]? = some o' → ∀ e ∈ o'.after, Region.binds .any e = true → listed.getD e.on false = true) → listed.getD y false = true := by
              intro x y hr
              induction hr with
              | edge ho' he' hb => intro hp; exact hp _ ho' _ he' hb
              | trans h1 h2 ih1 ih2 => intro hp; exact ih2 fun o' ho' => hdc _ o' ho' (ih1 hp)
            have hprei : ∀ o', ops[i]? = some o' → ∀ e ∈ o'.after, Region.binds .any e = true → listed.getD e.on false = true := by
              intro o' ho'; rw [ho] at ho'; cases ho'; exact hpre
            have reach1 : ∀ {j : Nat}, Reach ops i j → listed.getD j false = true := fun h => reachL h hprei
            have reach2 : ∀ {j : Nat}, Reach ops j i → listed.getD j false = false := by
              intro j hr
              cases hl : listed.getD j false with
              | false => rfl
              | true =>
                have := reachL hr (fun o' ho' => hdc j o' ho' hl)
                rw [hunf] at this; cases this
            have tmp_eq : ∀ t ∈ o.looksAt ops, nth undef Si.tmps t = nth undef S1.tmps t := by
              intro t ht
              by_cases hw : ∃ j ej, tr[j]? = some ej ∧ ej.dst = some t ∧ i ≠ j
              · obtain ⟨j, ej, hj, hd, hij⟩ := hw
                have uniq : ∀ j' ej', tr[j']? = some ej' → ej'.dst = some t → j' = j := by
                  intro j' ej' hj' hd'
                  refine Classical.byContradiction fun hne => ?_
                  exact hT.apart j' j ej' ej t hj' hj hne hd hd'
                rcases hT.looks i j o e ej t ho he hj hij hd ht with ⟨hlt, hr⟩ | ⟨hlt, hr⟩
                · rw [hSi.done j ej t hj (bltI hlt) hd, hS1.done j ej t hj (reach1 hr) hd]
                · rw [hSi.same t fun j' ej' hj' hL hd' => ?_, hS1.same t fun j' ej' hj' hL hd' => ?_]
                  · have := uniq j' ej' hj' hd'; subst this
                    (try dsimp only at hL)
                    rw [reach2 hr] at hL; cases hL
                  · have := uniq j' ej' hj' hd'; subst this
                    have := bltE hL; omega
              · have only : ∀ j' ej', tr[j']? = some ej' → ej'.dst = some t → j' = i := by
                  intro j' ej' hj' hd'
                  refine Classical.byContradiction fun hne => hw ⟨j', ej', hj', hd', fun h => hne h.symm⟩
                rw [hSi.same t fun j' ej' hj' hL hd' => ?_, hS1.same t fun j' ej' hj' hL hd' => ?_]
                · have := only j' ej' hj' hd'; subst this
                  (try dsimp only at hL)
                  rw [hunf] at hL; cases hL
                · have := only j' ej' hj' hd'; subst this
                  have := bltE hL; omega
            -- the new places: as many in both, or not looked at
            have newSame : (∀ (j : Nat) (ej : TE), tr[j]? = some ej → ej.nw ≠ [] → i = j ∨ (j < i ∧ Reach ops i j) ∨ (i < j ∧ Reach ops j i)) → newObjs tr (fun j => Nat.blt j i) = newObjs tr (fun j => listed.getD j false) := by
              intro hall
              refine newObjs_congr' fun j ej hj hne => ?_
              rcases hall j ej hj hne with rfl | ⟨hlt, hr⟩ | ⟨hlt, hr⟩
              · have : Nat.blt i i = false := by
                  cases hb : Nat.blt i i with
                  | false => rfl
                  | true => have := bltE hb; omega
                rw [this, hunf]
              · rw [bltI hlt, reach1 hr]
              · have : Nat.blt j i = false := by
                  cases hb : Nat.blt j i with
                  | false => rfl
                  | true => have := bltE hb; omega
                rw [this, reach2 hr]
            have mem_eqN : ∀ b, S.V.length ≤ b → newObjs tr (fun j => Nat.blt j i) = newObjs tr (fun j => listed.getD j false) → Si.V[b]? = S1.V[b]? := by
              intro b hb hn
              rw [hSi.newV b hb, hS1.newV b hb, hn]
            have mem_eqO : ∀ b, b < S.V.length → (e.rd = some none ∨ e.rd = some (some b)) → Si.V[b]? = S1.V[b]? := by
              intro b hbl hrd
              have late : ∀ j ej ob, tr[j]? = some ej → ej.st = some (b, ob) → j ≠ i → listed.getD j false = false ∧ ¬ j < i := by
                intro j ej ob hj hs hji
                obtain ⟨h1, h2⟩ := hT.mem i j e ej b ob he hj (Ne.symm hji) hs hrd
                exact ⟨reach2 h2, by omega⟩
              rw [hSi.sameV b hbl fun j ej ob hj hL hs => ?_, hS1.sameV b hbl fun j ej ob hj hL hs => ?_]
              · by_cases hji : j = i
                · subst hji; (try dsimp only at hL); rw [hunf] at hL; cases hL
                · (try dsimp only at hL); rw [(late j ej ob hj hs hji).1] at hL; cases hL
              · by_cases hji : j = i
                · subst hji; have := bltE hL; omega
                · exact (late j ej ob hj hs hji).2 (bltE hL)
            -- where it stands to the one that makes new places
            have hside := hT.new i e he
            have hscope : S.V.length ≤ S1.V.length ∧ (Si.V.length = S1.V.length ∨ (scB S.V.length 6 e.v = true ∧ (∀ b t c, e.st = some (b, .cells t c) → c.all (scB S.V.length 6) = true) ∧ e.nw = [] ∧ ∀ b t m n cap f hs, e.st = some (b, .raw t m n cap f hs) → holesOk S.V.length hs = true)) := by
              refine ⟨by rw [hS1.lenV]; omega, ?_⟩
              rcases hside with h1 | ⟨h1, _, h2, h3, h4⟩
              · left; rw [hSi.lenV, hS1.lenV, newSame h1]
              · exact .inr ⟨h2, h3, h1, h4⟩
            have mem_eq : ∀ b, (e.rd = some none ∨ e.rd = some (some b)) → Si.V[b]? = S1.V[b]? := by
              intro b hrd
              by_cases hbl : b < S.V.length
              · exact mem_eqO b hbl hrd
              · refine mem_eqN b (by omega) ?_
                rcases hside with h1 | ⟨_, h1, _⟩
                · exact newSame h1
                · exfalso
                  unfold rdIn at h1
                  rcases hrd with hrd | hrd
                  · rw [hrd] at h1; exact h1
                  · rw [hrd] at h1; exact hbl h1
            have hguard : ∀ {j : Nat} {want : Bool} {g : Tmp}, o.guard = some (j, want) → guardTmp ops.toList j = some g → g ∈ o.looksAt ops := by
              intro j want g hg hgt
              unfold Oper.looksAt
              simp [hg, guardTmp_list hgt]
            have hstep1 : EStep P C ops.toList S1 o e := by
              rcases hstep with ⟨hw, hruns⟩ | ⟨hsk, rfl⟩
              · left
                refine ⟨?_, ?_⟩
                · rcases hw with hg | ⟨j, want, g, hg, hgt, hv⟩
                  · exact .inl hg
                  · exact .inr ⟨j, want, g, hg, hgt, by rw [← tmp_eq g (hguard hg hgt)]; exact hv⟩
                · by_cases hpure : ∃ f args g v, xop P Si o.op = .call f args ∧ C.fn f = some g ∧ Gives (g args []) v ∧ (∀ x ∈ args, Sc 0 x) ∧ Sc 0 v ∧ e = ⟨o.dst, v, none, none, []⟩
                  · obtain ⟨f, args, g, v, q1, q2, q3, q4, q5, q6⟩ := hpure
                    have hops : ∀ x ∈ o.op.operands, ev Si x = ev S1 x := by
                      intro x hx
                      cases x with
                      | tmp t =>
                        refine tmp_eq t ?_
                        unfold Oper.looksAt
                        refine List.mem_append_left _ (List.mem_filterMap.2 ⟨.tmp t, by simpa using hx, rfl⟩)
                      | _ => rfl
                    exact .inr (.inr (.inr (.inr (.inr (.inr (.inr (.inl ⟨f, args, g, v, xop_call_congr hops q1, q2, q3, q4, q5, q6⟩)))))))
                  have hrd : e.rd = mrd Si o.op := by
                    rcases or_assoc7 hruns with hruns | hp | hr
                    · rcases hruns with ⟨v, _, _, rfl⟩ | ⟨_, _, _, _, _, _, rfl⟩ | ⟨_, _, _, _, rfl⟩ | ⟨_, _, _, _, _, _, rfl⟩ | ⟨_, _, _, _, _, rfl⟩ | ⟨_, _, _, _, _, _, _, rfl⟩ | ⟨_, _, _, _, _, _, _, rfl⟩ <;> rfl
                    · exact absurd hp hpure
                    · rcases hr with ⟨_, _, _, _, _, _, _, _, _, _, _, _, _, _, _, rfl⟩ | ⟨_, _, _, _, _, _, _, rfl⟩ | ⟨_, _, _, _, rfl⟩ | ⟨_, _, _, _, _, _, _, rfl⟩ <;> rfl
                  have hops : ∀ x ∈ o.op.operands, ev Si x = ev S1 x := by
                    intro x hx
                    cases x with
                    | tmp t =>
                      refine tmp_eq t ?_
                      unfold Oper.looksAt
                      refine List.mem_append_left _ (List.mem_filterMap.2 ⟨.tmp t, by simpa using hx, rfl⟩)
                    | _ => rfl
                  have hmem : ∀ r, mrd Si o.op = some r → match r with | none => Si.V = S1.V | some b => Si.V[b]? = S1.V[b]? := by
                    intro r hr
                    cases r with
                    | none => exact List.ext_getElem? fun b => mem_eq b (.inl (hrd.trans hr))
                    | some b => exact mem_eq b (.inr (hrd.trans hr))
                  obtain ⟨hx, hm'⟩ := xval_congr (P := P) (C := C) hops hmem
                  have hxr := xraw_congr (P := P) hops hmem
                  obtain ⟨hxop, _⟩ := xop_congr (P := P) hops hmem
                  obtain ⟨hle, hlens⟩ := hscope
                  rcases or_assoc7 hruns with hruns | hp | hr
                  rotate_left
                  · exact absurd hp hpure
                  · refine .inr (.inr (.inr (.inr (.inr (.inr (.inr (.inr ?_)))))))
                    have hscO : ∀ {b : Nat} {ob : VObj} {d : Option Tmp} {v : Value} {rd : Option (Option Nat)}, e = ⟨d, v, some (b, ob), rd, []⟩ → (∃ t m n cap f hs, ob = .raw t m n cap f hs) → ScO Si.V.length ob → ScO S1.V.length ob := by
                      intro b ob d v rd he' ⟨t, m, n, cap, f, hs, hob⟩ hsc
                      rcases hlens with hl | ⟨_, _, _, h4⟩
                      · exact hl ▸ hsc
                      · subst hob
                        subst he'
                        have hk := h4 b t m n cap f hs rfl
                        intro x hx y hy
                        have h5 := List.all_eq_true.1 (List.all_eq_true.1 hk x hx) y hy
                        rw [Bool.and_eq_true] at h5
                        exact ⟨(scB_ok 6 y h5.1).mono hle, h5.2⟩
                    rcases hr with ⟨q, i', r, c, own, t, m, n, cap, f, hx1, hq, hd, hV, hsc, rfl⟩ | ⟨q, i', ob, hx1, hq, hd, hsc, rfl⟩ | ⟨ob, n, hx1, hsc, rfl⟩ | ⟨q, i', ob, n, hx1, hq, hsc, rfl⟩
                    · exact .inl ⟨q, i', r, c, own, t, m, n, cap, f, hxop ▸ hx1, hq, hd, by rw [← mem_eq i' (.inr (sob_facts hx1))]; exact hV, hsc, by rw [hm']⟩
                    · exact .inr (.inl ⟨q, i', ob, hxr ▸ hx1, hq, hd, hscO rfl (rawsto_kind hx1) hsc, by rw [hm']⟩)
                    · rcases hlens with hl | ⟨_, _, h3, _⟩
                      · exact .inr (.inr (.inl ⟨ob, n, hxr ▸ hx1, hl ▸ hsc, by rw [hm', hl]⟩))
                      · cases h3
                    · rcases hlens with hl | ⟨_, _, h3, _⟩
                      · exact .inr (.inr (.inr ⟨q, i', ob, n, hxr ▸ hx1, hq, hl ▸ hsc, by rw [hm', hl]⟩))
                      · cases h3
                  rcases hruns with ⟨v, hg, hs, rfl⟩ | ⟨i', t, c, hxx, hd, hsc, rfl⟩ | ⟨t, c, hxx, hsc, rfl⟩ | ⟨p, os, v, hxx, hp, hs, rfl⟩ | ⟨t, m, rows, hxx, hsc, rfl⟩ | ⟨p, i', ob, v, hxx, hp, hs, rfl⟩ | ⟨p, i', ob, v, hxx, hp, hs, rfl⟩
                  · refine .inl ⟨v, hx ▸ hg, ?_, by rw [hm']⟩
                    rcases hlens with hl | ⟨h1, _, _, _⟩
                    · exact hl ▸ hs
                    · exact (scB_ok 6 v h1).mono hle
                  · refine .inr (.inl ⟨i', t, c, hx ▸ hxx, hd, ?_, by rw [hm']⟩)
                    rcases hlens with hl | ⟨_, h2, _, _⟩
                    · exact fun x hxc => hl ▸ hsc x hxc
                    · exact fun x hxc => (scB_ok 6 x (List.all_eq_true.1 (h2 i' t c rfl) x hxc)).mono hle
                  · rcases hlens with hl | ⟨_, _, h3, _⟩
                    · exact .inr (.inr (.inl ⟨t, c, hx ▸ hxx, fun x hxc => hl ▸ hsc x hxc, by rw [hm', hl]⟩))
                    · cases h3
                  · rcases hlens with hl | ⟨h1, _, h3, _⟩
                    · exact .inr (.inr (.inr (.inl ⟨p, os, v, hx ▸ hxx, hp, by rw [List.length_append, ← hl, ← List.length_append]; exact hs, by rw [hm']⟩)))
                    · dsimp only at h3
                      subst h3
                      exact .inr (.inr (.inr (.inl ⟨p, [], v, hx ▸ hxx, hp, by rw [List.append_nil]; exact (scB_ok 6 v h1).mono hle, by rw [hm']⟩)))
                  · rcases hlens with hl | ⟨_, _, h3, _⟩
                    · exact .inr (.inr (.inr (.inr (.inl ⟨t, m, rows, hx ▸ hxx, hsc, by rw [hm', hl]⟩))))
                    · cases h3
                  · rcases hlens with hl | ⟨_, _, h3, _⟩
                    · exact .inr (.inr (.inr (.inr (.inr (.inl ⟨p, i', ob, v, hx ▸ hxx, hp, hl ▸ hs, by rw [hm', hl]⟩)))))
                    · cases h3
                  · refine .inr (.inr (.inr (.inr (.inr (.inr (.inl ⟨p, i', ob, v, hx ▸ hxx, hp, ?_, by rw [hm']⟩))))))
                    rcases hlens with hl | ⟨h1, _, _, _⟩
                    · exact hl ▸ hs
                    · exact (scB_ok 6 v h1).mono hle
              · right
                obtain ⟨j, want, g, hg, hgt, hv⟩ := hsk
                exact ⟨⟨j, want, g, hg, hgt, by rw [← tmp_eq g (hguard hg hgt)]; exact hv⟩, rfl⟩
            -- behind it
            have hcont : ∀ env' a' w', Fr env1 S1.V w1 env' (e.apply S1).V w' → Rep env' (e.apply S1) a' w' → wpAny P .any ops Q fuel (listed.setIfInBounds i true) a' w' := by
              intro env' a' w' hF' hR'
              have hget : ∀ j, (listed.setIfInBounds i true).getD j false = (listed.getD j false || Nat.beq j i) := by
                intro j
                have his : i < listed.size := by omega
                by_cases hji : j = i
                · subst hji
                  rw [Nat.beq_refl]
                  simp [his]
                · have : Nat.beq j i = false := by
                    cases hb : Nat.beq j i with
                    | false => rfl
                    | true => exact absurd (Nat.eq_of_beq_eq_true hb) hji
                  rw [this, Bool.or_false, getD_set_ne false (Ne.symm hji)]
              refine ih _ env' a' w' _ (by simp [hsz]) ?_ ?_ (hS1.step hT he hunf hst (fun hne j ej hlt hj hne' => by
                rcases hside with h1 | ⟨h1, _⟩
                · rcases h1 j ej hj hne' with h1 | ⟨h1, _⟩ | ⟨_, h2⟩
                  · omega
                  · omega
                  · exact reach2 h2
                · exact absurd h1 hne) hget) hR' (hF1.trans hF')
              · have his : i < listed.toList.length := by simp; omega
                have hv : listed.toList[i] = false := by
                  have : i < listed.size := by omega
                  simp [this] at hunf
                  simpa using hunf
                rw [Array.toList_setIfInBounds]
                have : (listed.toList.set i true).count false = listed.toList.count false - 1 := by
                  rw [List.count_set his]
                  simp [hv]
                rw [this, hcnt]; omega
              · intro j o' ho' hL e' he' hb
                rw [hget] at hL
                rw [hget]
                simp only [Bool.or_eq_true] at hL ⊢
                rcases hL with hL | hL
                · exact .inl (hdc j o' ho' hL e' he' hb)
                · have := Nat.eq_of_beq_eq_true hL
                  subst this
                  exact .inl (hprei o' ho' e' he' hb)
            unfold wpOp
            simp only [ho]
            rcases hstep1 with ⟨hw, hruns⟩ | ⟨hsk, rfl⟩
            · rw [if_pos (wants_wanted hR1 hw)]
              exact .inl (runs_wp hC hR1 hruns hcont)
            · rw [if_neg (by rw [skips_wanted hR1 hsk]; simp)]
              have hV : (TE.apply ⟨o.dst, undef, none, none, []⟩ S1).V = S1.V := by unfold TE.apply; simp
              refine hcont env1 _ w1 ?_ ?_
              · rw [hV]; exact Fr.refl _ _ _
              · unfold TE.apply
                simp only [List.append_nil]
                cases hd : o.dst with
                | none => exact hR1
                | some d => exact hR1.put (.inr (ren_undef env1).symm) .undef
      refine main ops.size _ env a _ S (by simp) ?_ ?_ (h0.congr fun j hj => ?_) hR.drew (Fr.drew env S.V w)
      · simp [List.count_replicate]
      · intro j o _ hL
        have : (Array.replicate ops.size false).getD j false = false := by
          rcases Nat.lt_or_ge j ops.size with h | h <;> simp [h]
        rw [this] at hL; cases hL
      · have : (Array.replicate ops.size false).getD j false = false := by
          rcases Nat.lt_or_ge j ops.size with h | h <;> simp [h]
        rw [this]; rfl
    · exact hA hm hk
end Go.X
