/- What the symbolic run says of the real one: maps, type assertions, calls of methods, slices with three numbers. -/
import Derived.Test.YtgnhcoefocbmpaaGreatXSW
import Derived.MapKept
set_option linter.unusedSimpArgs false
set_option linter.unusedSectionVars false
set_option linter.unusedVariables false
namespace Go.X
open Go Go.MapKept
variable [WI] [WD]
variable {P : Program} {C : Ctx} {S : VSt} {env : Nat → Loc} {a : Act} {w : World}

/-! ### Keys -/
theorem keyB_ne {d : Nat} {t : TypeId} {v : Value} (h : keyB P d t v = true) : v ≠ unk := by
  intro he
  subst he
  cases d with
  | zero => simp [keyB] at h
  | succ d => unfold keyB at h; split at h <;> simp_all [unk]

theorem run_checkKeyX : ∀ (d : Nat) {t : TypeId} {v : Value} {n : Nat} {em : Bool} (env : Nat → Loc) (w : World), keyB P d t v = true → (Instr.checkKey em (n + d) t (ren env v)).run P w = .ok () w
  | 0, t, v, n, em, env, w, h => by simp [keyB] at h
  | d + 1, t, v, n, em, env, w, h => by
    rw [show n + (d + 1) = (n + d) + 1 from rfl]
    unfold keyB at h
    split at h
    · rename_i hu; simp [Instr.checkKey, run_underlying hu]
    · rename_i hu; simp [Instr.checkKey, run_underlying hu]
    · rename_i hu; simp [Instr.checkKey, run_underlying hu]
    · rename_i fs cs hu
      rw [ren_agg]
      simp only [Instr.checkKey, Sem.run_bind, run_underlying hu, Result.andThen_ok]
      rw [← Array.forIn_toList, arr_map]
      have each : ∀ f ∈ fs.toList, f.name ≠ "_" ∧ ∃ x, partOf P f.type cs.toList f.offset = some x ∧ keyB P d f.type x = true := fun f hf => by
        have := List.all_eq_true.1 h f hf
        simp only [Bool.and_eq_true, Bool.not_eq_true', beq_eq_false_iff_ne] at this
        obtain ⟨h1, h2⟩ := this
        refine ⟨h1, ?_⟩
        split at h2
        · exact ⟨_, ‹_›, h2⟩
        · cases h2
      generalize fs.toList = L at each
      induction L with
      | nil => simp
      | cons f L ih =>
        obtain ⟨hn, x, hx, hk⟩ := each f (by simp)
        have p2 := run_checkKeyX d (n := n) (em := em) env w hk
        simp only [List.forIn_cons, Sem.run_bind, hn, ne_eq, not_false_eq_true, if_true, Result.andThen_ok, run_part env hx, p2, Sem.run_pure]
        exact ih (fun y hy => each y (by simp [hy]))
    · cases h

theorem ba_beq (a b : ByteArray) : (a.data.toList == b.data.toList) = (a == b) := by
  have h : (a == b) = (a.data == b.data) := by cases a; cases b; rfl
  rw [h, Bool.eq_iff_iff, beq_iff_eq, beq_iff_eq]
  exact ⟨fun e => Array.ext' e, fun e => by rw [e]⟩

/-- the search, as the model runs it -/
theorem run_findX {kt : TypeId} {k : Value} (env : Nat → Loc) : ∀ (es : List (Value × Value × Nat)) (i : Nat) {r : Option (Nat × Value × Value × Nat)}, mfind P kt k es i = some r →
    (r = none → ∀ w, (Instr.findAsking kt (ren env k) (es.map (renE env)) i).run P w = .ok none w ∧ ∀ d, P.underlying kt = some d → (∀ fs, d ≠ .struct fs) → Instr.findNow d (ren env k) (es.map (renE env)) i = some none) ∧
    (∀ j k' v b, r = some (j, k', v, b) → i ≤ j ∧ es[j - i]? = some (k', v, b) ∧ ∀ w, (Instr.findAsking kt (ren env k) (es.map (renE env)) i).run P w = .ok (some (j, ren env v)) w ∧
      ∀ d, P.underlying kt = some d → (∀ fs, d ≠ .struct fs) → Instr.findNow d (ren env k) (es.map (renE env)) i = some (some (j, ren env v)))
  | [], i, r, h => by
    simp [mfind] at h
    subst h
    exact ⟨fun _ w => ⟨by simp [Instr.findAsking], fun d _ _ => by simp [Instr.findNow]⟩, fun j k' v b h => by cases h⟩
  | (k0, v0, b0) :: es, i, r, h => by
    unfold mfind at h
    -- one comparison
    have step : ∀ b, kmeq P kt k k0 = some b → (∀ w, (Op.equal kt (ren env k) (ren env k0)).run P w = .ok b w) ∧ ∀ d, P.underlying kt = some d → (∀ fs, d ≠ .struct fs) → Instr.sameNow d (ren env k) (ren env k0) = some b := by
      intro b hb
      unfold kmeq at hb
      split at hb
      · rename_i q ka kb ka' kb' hu
        split at hb
        · rename_i hk
          cases hb
          subst hk
          exact ⟨fun w => by simp [Op.equal, Op.maxDepth, run_equalIn_int w 9999 kt _ _ _ _ hu], fun d hd _ => by rw [hu] at hd; cases hd; simp [Instr.sameNow]⟩
        · cases hb
      · rename_i x y hu
        cases hb
        exact ⟨fun w => by simp only [Op.equal, Op.maxDepth, ren_string, run_equalIn_string w 9999 kt _ _ hu, Go.ByteArray.toList_eq], fun d hd _ => by rw [hu] at hd; cases hd; simp only [ren_string, Instr.sameNow, ba_beq]⟩
      · rename_i fs xs ys hu
        exact ⟨fun w => by have := veq_ok (P := P) 20 9980 env _ _ _ _ hb w; exact this, fun d hd hns => by rw [hu] at hd; cases hd; exact absurd rfl (hns _)⟩
      · cases hb
    split at h
    · rename_i hm
      cases h
      obtain ⟨s1, s2⟩ := step true hm
      refine ⟨fun h => (by cases h), fun j k' v b h => ?_⟩
      cases h
      refine ⟨Nat.le_refl _, by simp, fun w => ⟨?_, fun d hd hns => ?_⟩⟩
      · simp [Instr.findAsking, renE, s1]
      · simp [Instr.findNow, renE, s2 d hd hns]
    · rename_i hm
      obtain ⟨s1, s2⟩ := step false hm
      obtain ⟨ih1, ih2⟩ := run_findX env es (i + 1) h
      refine ⟨fun hn w => ⟨?_, fun d hd hns => ?_⟩, fun j k' v b hr => ?_⟩
      · simp [Instr.findAsking, renE, s1, (ih1 hn w).1]
      · simp [Instr.findNow, renE, s2 d hd hns, (ih1 hn w).2 d hd hns]
      · obtain ⟨a1, a2, a3⟩ := ih2 j k' v b hr
        refine ⟨by omega, ?_, fun w => ⟨?_, fun d hd hns => ?_⟩⟩
        · rw [show j - i = (j - (i + 1)) + 1 by omega]; simpa using a2
        · simp [Instr.findAsking, renE, s1, (a3 w).1]
        · simp [Instr.findNow, renE, s2 d hd hns, (a3 w).2 d hd hns]
    · cases h

theorem keyB_kind {d : Nat} {t : TypeId} {v : Value} (h : keyB P d t v = true) : ∃ k, P.underlying t = some k ∧ (∀ fs, k = .struct fs → ∃ cs, v = .agg cs) := by
  cases d with
  | zero => simp [keyB] at h
  | succ d =>
    unfold keyB at h
    split at h
    · rename_i hu; exact ⟨_, hu, fun fs h => by cases h⟩
    · rename_i hu; exact ⟨_, hu, fun fs h => by cases h⟩
    · rename_i hu; exact ⟨_, hu, fun fs h => by cases h⟩
    · rename_i hu; exact ⟨_, hu, fun fs h => ⟨_, rfl⟩⟩
    · cases h

theorem run_findKeyX {kt : TypeId} {k : Value} {d : Nat} {es : List (Value × Value × Nat)} {r : Option (Nat × Value × Value × Nat)} (env : Nat → Loc) (w : World) (hk : keyB P d kt k = true) (h : mfind P kt k es 0 = some r) :
    (r = none → (Instr.findKey kt (ren env k) (es.map (renE env))).run P w = .ok none w) ∧
    (∀ j k' v b, r = some (j, k', v, b) → es[j]? = some (k', v, b) ∧ (Instr.findKey kt (ren env k) (es.map (renE env))).run P w = .ok (some (j, ren env v)) w) := by
  obtain ⟨h1, h2⟩ := run_findX env es 0 h
  obtain ⟨q, hu, hq⟩ := keyB_kind hk
  by_cases hs : ∃ fs, q = .struct fs
  · obtain ⟨fs, rfl⟩ := hs
    obtain ⟨cs, rfl⟩ := hq fs rfl
    have e : ∀ l : List MapEntry, (Instr.findKey kt (ren env (.agg cs)) l).run P w = (Instr.findAsking kt (ren env (.agg cs)) l 0).run P w := fun l => by
      cases l with
      | nil => simp [Instr.findKey, run_underlying hu, Instr.findNow, Instr.findAsking]
      | cons x l => simp [Instr.findKey, run_underlying hu, Instr.findNow, Instr.sameNow]
    refine ⟨fun hr => by rw [e]; exact (h1 hr w).1, fun j k' v b hr => ?_⟩
    obtain ⟨_, a2, a3⟩ := h2 j k' v b hr
    exact ⟨by simpa using a2, by rw [e]; exact (a3 w).1⟩
  · have hns : ∀ fs, q ≠ .struct fs := fun fs h => hs ⟨fs, h⟩
    refine ⟨fun hr => run_findKey hu ((h1 hr w).2 q hu hns), fun j k' v b hr => ?_⟩
    obtain ⟨_, a2, a3⟩ := h2 j k' v b hr
    exact ⟨by simpa using a2, run_findKey hu ((a3 w).2 q hu hns)⟩

theorem sameC_ok {x y : Value} (env : Nat → Loc) (n : Nat) (h : sameC x y = true) : Instr.sameBits (n + 1) (ren env x) (ren env y) = true := by
  unfold sameC at h
  split at h
  · simp only [Bool.and_eq_true, decide_eq_true_eq] at h
    obtain ⟨rfl, h⟩ := h
    simpa [Instr.sameBits] using h
  · simp only [ren_string, Instr.sameBits]; rw [ba_beq] at h; exact h
  · simpa [Instr.sameBits] using h
  · cases h

theorem sameK_ok {x y : Value} (env : Nat → Loc) (h : sameK x y = true) : Instr.sameBits 10000 (ren env x) (ren env y) = true := by
  unfold sameK at h
  split at h
  · rename_i xs ys
    simp only [Bool.and_eq_true] at h
    obtain ⟨h1, h2⟩ := h
    have h1 := Nat.eq_of_beq_eq_true h1
    simp only [Array.length_toList] at h1
    rw [ren_agg, ren_agg]
    simp only [Instr.sameBits, Array.size_map, h1, beq_self_eq_true, Bool.true_and, Array.toList_map]
    rw [List.zip_map, List.all_map, List.all_eq_true]
    intro p hp
    exact sameC_ok env 9998 (List.all_eq_true.1 h2 p hp)
  · exact sameC_ok env 9999 h

theorem run_staysX {x y : Value} (env : Nat → Loc) (w : World) (h : sameK x y = true) : (Instr.keyThatStays (ren env x) (ren env y)).run P w = .ok (ren env y) w := by
  simp [Instr.keyThatStays, sameK_ok env h]

theorem zeroOf_run {t : TypeId} {z : Value} (h : zeroOf P t = some z) (env : Nat → Loc) (w : World) : (zeroValue t).run P w = .ok (ren env z) w ∧ isC z = false := by
  unfold zeroOf at h
  split at h
  · rename_i i hi
    split at h
    · rename_i z' hz
      split at h
      · rename_i hp hc
        cases h
        refine ⟨?_, hc⟩
        rw [run_zero hi hz]
        congr 1
        cases z <;> first | rfl | (simp [isC] at hc; done) | skip
        case agg cs =>
          rw [ren_agg]
          congr 1
          apply Array.ext'
          simp only [Array.toList_map]
          exact (map_ren_plain env (by simpa [vcells] using hp)).symm
        all_goals (simp only [vcells, List.all_cons, List.all_nil, Bool.and_true] at hp; rw [ren_plain env hp])
      · cases h
    · cases h
  · cases h

theorem isC_ne {v : Value} (h : isC v = false) : v ≠ unk := fun he => by subst he; simp [isC, unk] at h

theorem ren_two (env : Nat → Loc) (ok : Bool) (v : Value) (b : Bool) : ren env (two ok v b) = if ok then .tuple #[ren env v, .bool b] else ren env v := by
  cases ok <;> simp [two, ren_tuple]

theorem mapAt_run {x : Value} {es : List (Value × Value × Nat)} (hR : RepW env S.V w) (h : mapAt S.V x = some es) :
    x ≠ unk ∧ ((ren env x = .map none ∧ es = []) ∨ ∃ r c, x = .map (some r) ∧ ren env x = .map (some (env r).blk) ∧ w.heap[(env r).blk]? = some (.map (es.map (renE env)).toArray c)) := by
  unfold mapAt at h
  split at h
  · cases h; exact ⟨by simp [unk], .inl ⟨by simp, rfl⟩⟩
  · rename_i r
    split at h
    · rename_i es' c hv
      cases h
      exact ⟨by simp [unk], .inr ⟨r, c, rfl, ren_map _ _, (hR.mat _ _ hv).1⟩⟩
    · cases h
  · cases h

theorem lookup0_ok {t : TypeId} {x k v : Value} {ok : Bool} {p : Prop} (hR : RepW env S.V w) (h : xlookup0 P S.V t x k ok = .val p v) :
    x ≠ unk ∧ k ≠ unk ∧ (Instr.lookup t (ren env x) (ren env k) ok).run P w = .ok (ren env v) w := by
  unfold xlookup0 at h
  split at h
  · rename_i kt et hu
    split at h
    · rename_i es hm hk
      obtain ⟨hx, hat⟩ := mapAt_run hR hm
      refine ⟨hx, keyB_ne hk, ?_⟩
      have hck : ∀ em, (Instr.checkKey em 10000 kt (ren env k)).run P w = .ok () w := fun em => run_checkKeyX 4 (n := 9996) (em := em) env w hk
      have hfind : ∀ {r}, mfind P kt k es 0 = some r → _ := fun {r} h => run_findKeyX (P := P) (kt := kt) env w hk h
      have key : ∀ (r : Option (Nat × Value)) (res : Value), (Instr.findKey kt (ren env k) (es.map (renE env))).run P w = .ok r w →
          (∀ w, ((match r with | some (_, v) => pure (v, true) | none => do pure (← zeroValue et, false) : Sem (Value × Bool)).run P w = .ok (match r with | some (_, v) => (v, true) | none => (res, false)) w)) →
          (Instr.lookup t (ren env x) (ren env k) ok).run P w = .ok (if ok then .tuple #[(match r with | some (_, v) => v | none => res), .bool r.isSome] else (match r with | some (_, v) => v | none => res)) w := by
        intro r res hf hz
        rcases hat with ⟨hx1, rfl⟩ | ⟨r', c, _, hx1, hh⟩
        · rw [hx1]
          cases r with
          | none =>
            have hz' := hz w
            simp only [Sem.run_bind] at hz'
            simp only [Instr.lookup, Sem.run_bind, run_underlying hu, Result.andThen_ok, Sem.run_pure, hck]
            simp only [List.map_nil] at hf
            rw [hf]
            simp only [Result.andThen_ok, Sem.run_bind]
            cases hzz : (zeroValue et).run P w with
            | ok z w2 => rw [hzz] at hz'; simp at hz'; obtain ⟨rfl, rfl⟩ := hz'; simp
            | halt _ _ => rw [hzz] at hz'; simp at hz'
          | some p =>
            simp only [Instr.lookup, Sem.run_bind, run_underlying hu, Result.andThen_ok, Sem.run_pure, hck]
            simp only [List.map_nil] at hf
            rw [hf]
            simp
        · rw [hx1]
          cases r with
          | none =>
            have hz' := hz w
            simp only [Sem.run_bind] at hz'
            simp only [Instr.lookup, Sem.run_bind, run_underlying hu, Result.andThen_ok, Sem.run_pure, MapKept.run_getObj_map hh, hck, List.toList_toArray, hf]
            cases hzz : (zeroValue et).run P w with
            | ok z w2 => rw [hzz] at hz'; simp at hz'; obtain ⟨rfl, rfl⟩ := hz'; simp [hzz]
            | halt _ _ => rw [hzz] at hz'; simp at hz'
          | some p =>
            simp only [Instr.lookup, Sem.run_bind, run_underlying hu, Result.andThen_ok, Sem.run_pure, MapKept.run_getObj_map hh, hck, List.toList_toArray, hf]
            simp
      split at h
      · rename_i j k' v' b hf
        split at h
        · cases h
          obtain ⟨_, h2⟩ := (run_findKeyX (P := P) (kt := kt) env w hk hf).2 _ _ _ _ rfl
          have := key _ undef h2 (fun w => by simp)
          rw [this, ren_two]
          simp
        · cases h
      · rename_i hf
        split at h
        · rename_i z hz
          cases h
          have h2 := (run_findKeyX (P := P) (kt := kt) env w hk hf).1 rfl
          have := key _ (ren env z) h2 (fun w => by simp [(zeroOf_run hz env w).1])
          rw [this, ren_two]
          simp
        · cases h
      · cases h
    · cases h
  · cases h

/-! ### Maps of ints that are told by what a lookup gives -/
theorem Qm.ren {g : Int → Int} {es : List (Value × Value × Nat)} (h : Qm g es) (env : Nat → Loc) : es.map (renE env) = es.map entE :=
  List.map_congr_left fun e he => by
    obtain ⟨k, v, h1, h2⟩ := h.ints e he
    simp only [renE, entE, h1, h2, ren_int]
theorem qAt_eq {V : VW} {x : Value} {r : Nat} {g : Int → Int} (h : qAt V x = some (r, g)) : x = .map (some r) ∧ V[r]? = some (.mq g) := by
  unfold qAt at h
  split at h
  · split at h
    · cases h; exact ⟨rfl, ‹_›⟩
    · cases h
  · cases h
/-- an object told in another way -/
theorem RepW.swapO {V : VW} (hR : RepW env V w) {r : Nat} {o o' : VObj} (hv : V[r]? = some o) (hf : o'.owned = o.owned ∧ o'.writes = o.writes ∧ o'.live = o.live ∧ ∀ l, hasB l o' ↔ hasB l o) (hm : Mat env w (env r) o') (hs : ScO V.length o') :
    RepW env (V.set r o') w := by
  have get : ∀ {j : Nat} {q : VObj}, (V.set r o')[j]? = some q → (j = r ∧ q = o') ∨ (j ≠ r ∧ V[j]? = some q) := by
    intro j q h
    rcases setV_get h with ⟨h1, h2, _⟩ | h
    · exact .inl ⟨h1, h2⟩
    · exact .inr h
  obtain ⟨f1, f2, f3, f4⟩ := hf
  refine ⟨fun j q hj => ?_, fun j q hj => ?_, fun j q hj hB => ?_, fun j k oj ok hj hk hjk hw hl hBj hBk => ?_, hR.inv, fun j q hj ho => ?_, hR.room⟩
  · rcases get hj with ⟨rfl, rfl⟩ | ⟨_, hj'⟩
    · exact hm
    · exact hR.mat j q hj'
  · rw [List.length_set]
    rcases get hj with ⟨rfl, rfl⟩ | ⟨_, hj'⟩
    · exact hs
    · exact hR.sc j q hj'
  · rcases get hj with ⟨rfl, rfl⟩ | ⟨_, hj'⟩
    · exact hR.blk _ _ hv ((f4 _).1 hB)
    · exact hR.blk j q hj' hB
  · rcases get hj with ⟨rfl, rfl⟩ | ⟨_, hj'⟩
    · rcases get hk with ⟨rfl, rfl⟩ | ⟨_, hk'⟩
      · exact absurd rfl hjk
      · exact hR.sep _ _ _ _ hv hk' hjk (by rw [← f2]; exact hw) hl ((f4 _).1 hBj) hBk
    · rcases get hk with ⟨rfl, rfl⟩ | ⟨_, hk'⟩
      · exact hR.sep _ _ _ _ hj' hv hjk hw (by rw [← f3]; exact hl) hBj ((f4 _).1 hBk)
      · exact hR.sep _ _ _ _ hj' hk' hjk hw hl hBj hBk
  · rcases get hj with ⟨rfl, rfl⟩ | ⟨_, hj'⟩
    · exact hR.low _ _ hv ⟨by rw [← f1]; exact ho.1, (f4 _).1 ho.2⟩
    · exact hR.low j q hj' ho
theorem mq_flags (g : Int → Int) (es : List (Value × Value × Nat)) (c : Nat) : (VObj.mp es c).owned = (VObj.mq g).owned ∧ (VObj.mp es c).writes = (VObj.mq g).writes ∧ (VObj.mp es c).live = (VObj.mq g).live ∧ ∀ l, hasB l (.mp es c) ↔ hasB l (.mq g) :=
  ⟨rfl, rfl, rfl, fun _ => Iff.rfl⟩
/-- the map's entries, shown -/
theorem RepW.showQ {V : VW} (hR : RepW env V w) {r : Nat} {g : Int → Int} (hv : V[r]? = some (.mq g)) : ∃ es c, Qm g es ∧ RepW env (V.set r (.mp es c)) w := by
  obtain ⟨⟨es, c, hq, hh⟩, hb⟩ := hR.mat _ _ hv
  refine ⟨es, c, hq, hR.swapO hv (mq_flags g es c) ⟨by rw [hq.ren env]; exact hh, hb⟩ fun e he => ?_⟩
  obtain ⟨k, v, h1, h2⟩ := hq.ints e he
  rw [h1, h2]
  exact ⟨.plain rfl, .plain rfl⟩
theorem RepW.hideQ {V : VW} (hR : RepW env V w) {r c : Nat} {es : List (Value × Value × Nat)} {g : Int → Int} (hv : V[r]? = some (.mp es c)) (hq : Qm g es) : RepW env (V.set r (.mq g)) w := by
  obtain ⟨hh, hb⟩ := hR.mat _ _ hv
  exact hR.swapO hv ⟨rfl, rfl, rfl, fun _ => Iff.rfl⟩ ⟨⟨es, c, hq, by rw [← hq.ren env]; exact hh⟩, hb⟩ trivial

theorem intMap_eq {t : TypeId} (h : intMap P t = true) : ∃ kt et, P.underlying t = some (.map kt et) ∧ P.underlying kt = some (.int .i64) ∧ zeroOf P et = some (.int .i64 0) := by
  unfold intMap at h
  split at h
  · rename_i kt et hu
    split at h
    · rename_i h1 h2
      split at h
      · rename_i h3
        exact ⟨kt, et, hu, h1, h3⟩
      · cases h
    · cases h
  · cases h
theorem lookE_cons (k v n : Int) (b : Nat) (es : List (Value × Value × Nat)) : lookE ((.int .i64 k, .int .i64 v, b) :: es) n = if k = n then v else lookE es n := by
  unfold lookE
  by_cases h : k = n
  · subst h
    simp [List.find?, keyIs, valOf]
  · have : (k == n) = false := by simpa using h
    simp only [List.find?, keyIs, this, if_neg h]
theorem mfind_int {kt : TypeId} (hk : P.underlying kt = some (.int .i64)) (n : Int) : ∀ (es : List (Value × Value × Nat)) (i : Nat), (∀ e ∈ es, intE e) →
    (∃ j v b, mfind P kt (.int .i64 n) es i = some (some (i + j, .int .i64 n, .int .i64 v, b)) ∧ es[j]? = some (.int .i64 n, .int .i64 v, b) ∧ lookE es n = v ∧
      ∀ m n', lookE (es.set j (.int .i64 n, .int .i64 m, b)) n' = updQ (lookE es) n m n') ∨
    (mfind P kt (.int .i64 n) es i = some none ∧ lookE es n = 0 ∧ ∀ m n' c, lookE (es ++ [(.int .i64 n, .int .i64 m, c)]) n' = updQ (lookE es) n m n')
  | [], i, _ => .inr ⟨rfl, rfl, fun m n' c => by
      rw [List.nil_append, lookE_cons]
      unfold updQ
      by_cases h : n = n'
      · rw [if_pos h, if_pos h.symm]
      · rw [if_neg h, if_neg (fun e => h e.symm)]⟩
  | (k', v', b') :: es, i, h => by
    obtain ⟨k, v, h1, h2⟩ := h (k', v', b') (List.mem_cons_self ..)
    simp only at h1 h2
    subst h1
    subst h2
    have hkm : kmeq P kt (.int .i64 n) (.int .i64 k) = some (n == k) := by
      unfold kmeq
      rw [hk]
      simp
    by_cases he : n = k
    · subst he
      left
      refine ⟨0, v, b', ?_, rfl, ?_, fun m n' => ?_⟩
      · unfold mfind
        rw [hkm]
        simp
      · rw [lookE_cons, if_pos rfl]
      · rw [List.set_cons_zero, lookE_cons]
        unfold updQ
        rw [lookE_cons]
        by_cases h : n = n'
        · rw [if_pos h, if_pos h.symm]
        · rw [if_neg h, if_neg (fun e => h e.symm), if_neg h]
    · have hnk : (n == k) = false := by simpa using he
      rcases mfind_int hk n es (i + 1) (fun e hm => h e (List.mem_cons_of_mem _ hm)) with ⟨j, v2, b2, h3, h4, h5, h6⟩ | ⟨h3, h5, h6⟩
      · left
        refine ⟨j + 1, v2, b2, ?_, by simpa using h4, ?_, fun m n' => ?_⟩
        · unfold mfind
          rw [hkm, hnk]
          simp only []
          rw [h3]
          simp
          omega
        · rw [lookE_cons, if_neg (fun e => he e.symm), h5]
        · rw [List.set_cons_succ, lookE_cons, h6]
          unfold updQ
          rw [lookE_cons]
          by_cases h : k = n'
          · rw [if_pos h, if_neg (fun e => he (e.symm.trans h.symm)), if_pos h]
          · rw [if_neg h]
            by_cases h' : n' = n
            · rw [if_pos h', if_pos h']
            · rw [if_neg h', if_neg h', if_neg h]
      · right
        refine ⟨?_, ?_, fun m n' c => ?_⟩
        · unfold mfind
          rw [hkm, hnk]
          exact h3
        · rw [lookE_cons, if_neg (fun e => he e.symm), h5]
        · rw [List.cons_append, lookE_cons, h6]
          unfold updQ
          rw [lookE_cons]
          by_cases h : k = n'
          · rw [if_pos h, if_neg (fun e => he (e.symm.trans h.symm)), if_pos h]
          · rw [if_neg h]
            by_cases h' : n' = n
            · rw [if_pos h', if_pos h']
            · rw [if_neg h', if_neg h', if_neg h]
theorem keyB_int {kt : TypeId} (hk : P.underlying kt = some (.int .i64)) (n : Int) : keyB P 4 kt (.int .i64 n) = true := by
  unfold keyB
  rw [hk]
theorem look_int {t : TypeId} {V : VW} {r c : Nat} {es : List (Value × Value × Nat)} {g : Int → Int} (hi : intMap P t = true) (hq : Qm g es) (hv : V[r]? = some (.mp es c)) (n : Int) :
    xlookup0 P V t (.map (some r)) (.int .i64 n) false = .val True (.int .i64 (g n)) := by
  obtain ⟨kt, et, h1, h2, h3⟩ := intMap_eq hi
  unfold xlookup0
  have hm : mapAt V (.map (some r)) = some es := by unfold mapAt; simp only [hv]
  simp only [h1, hm, keyB_int h2]
  rcases mfind_int h2 n es 0 hq.ints with ⟨j, v, b, h4, h5, h6, _⟩ | ⟨h4, h6, _⟩
  · rw [h4]
    have hg : g n = v := by rw [hq.look, h6]
    simp [isC, two, hg]
  · rw [h4]
    have hg : g n = 0 := by rw [hq.look, h6]
    simp [h3, two, hg]

theorem lookup_ok {t : TypeId} {x k v : Value} {ok : Bool} {p : Prop} (hR : RepW env S.V w) (h : xlookup P S.V t x k ok = .val p v) :
    x ≠ unk ∧ k ≠ unk ∧ (Instr.lookup t (ren env x) (ren env k) ok).run P w = .ok (ren env v) w := by
  unfold xlookup at h
  split at h
  · rename_i r g hq
    obtain ⟨rfl, hv⟩ := qAt_eq hq
    split at h
    · rename_i n hi
      cases h
      obtain ⟨es, c, hQ, hR'⟩ := hR.showQ hv
      have hlt : r < S.V.length := (List.getElem?_eq_some_iff.1 hv).1
      exact lookup0_ok (S := ⟨S.tmps, S.V.set r (.mp es c)⟩) hR' (look_int (c := c) hi hQ (by simp [hlt]) n)
    · cases h
  · exact lookup0_ok hR h

/-- a map that is written -/
theorem RepW.setMap {V : VW} (hR : RepW env V w) {r c c' : Nat} {es es' : List (Value × Value × Nat)} (hv : V[r]? = some (.mp es c)) (hsc : ∀ e ∈ es', Sc V.length e.1 ∧ Sc V.length e.2.1) :
    let w' : World := { w with heap := w.heap.setIfInBounds (env r).blk (.map (es'.map (renE env)).toArray c') }
    RepW env (V.set r (.mp es' c')) w' ∧ Fr env V w env (V.set r (.mp es' c')) w' := by
  intro w'
  obtain ⟨hh, hb⟩ := hR.mat _ _ hv
  have hlt : (env r).blk < w.heap.size := hR.blk _ _ hv trivial
  exact hR.turn (w' := w') hv rfl trivial ⟨by show (w.heap.setIfInBounds _ _)[_]? = _; simp [hlt], hb⟩ hsc
    (fun k hk => by show (w.heap.setIfInBounds _ _)[_]? = _; rw [Array.getElem?_setIfInBounds, if_neg (fun e => hk e.symm)]) rfl rfl rfl (by show (w.heap.setIfInBounds _ _).size = _; simp)

theorem normE_spec {g : Value → (Value → Prop) → Prop} {n : Nat} (hg : ∀ v k, g v k → Sc n v ∧ k v) : ∀ (l : List (Value × Value × Nat)) (k : List (Value × Value × Nat) → Prop), normE g l k → (∀ e ∈ l, Sc n e.1 ∧ Sc n e.2.1) ∧ k l
  | [], k, h => ⟨by simp, h⟩
  | (x, v, b) :: r, k, h => by
    unfold normE at h
    obtain ⟨h1, h⟩ := hg _ _ h
    obtain ⟨h2, h⟩ := hg _ _ h
    rw [fN_eq] at h
    obtain ⟨h3, h4⟩ := normE_spec hg r _ h
    refine ⟨fun e he => ?_, h4⟩
    rcases List.mem_cons.1 he with rfl | he
    · exact ⟨h1, h2⟩
    · exact h3 e he

theorem map_modify (env : Nat → Loc) {es : List (Value × Value × Nat)} {i : Nat} {k v : Value} {b : Nat} {e' : Value × Value × Nat} (hi : es[i]? = some (k, v, b)) (f : MapEntry → MapEntry) (hf : f ⟨ren env k, ren env v, b⟩ = renE env e') :
    (es.map (renE env)).toArray.modify i f = ((es.set i e').map (renE env)).toArray := by
  apply Array.ext'
  apply List.ext_getElem?
  intro j
  simp only [Array.toList_modify, List.getElem?_modify, List.getElem?_map, List.getElem?_set]
  by_cases hij : i = j
  · subst hij
    have hl := (List.getElem?_eq_some_iff.1 hi).1
    rw [hi]
    simp only [if_true, hl, eq_self_iff_true]
    exact congrArg some hf
  · simp [hij]

theorem push_entry (env : Nat → Loc) (es : List (Value × Value × Nat)) (k v : Value) (c : Nat) : (es.map (renE env)).toArray.push ⟨ren env k, ren env v, c⟩ = ((es ++ [(k, v, c)]).map (renE env)).toArray := by
  apply Array.ext'; simp [renE]

theorem update0_ok {t : TypeId} {x k v : Value} {r c : Nat} {es : List (Value × Value × Nat)} {ov : Option Value} (hR : RepW env S.V w) (h : xmapUpdate0 P S.V t x k v = .mset r es c ov) :
    ov = none ∧ x ≠ unk ∧ k ≠ unk ∧ v ≠ unk ∧ (∃ es0 c0, S.V[r]? = some (.mp es0 c0)) ∧
      (Instr.mapUpdate t (ren env x) (ren env k) (ren env v)).run P w = .ok () { w with heap := w.heap.setIfInBounds (env r).blk (.map (es.map (renE env)).toArray c) } := by
  unfold xmapUpdate0 at h
  split at h
  · rename_i kt et r' hu
    split at h
    · rename_i es0 c0 hv hk hc
      obtain ⟨hh, hb⟩ := hR.mat _ _ hv
      have hck : ∀ em, (Instr.checkKey em 10000 kt (ren env k)).run P w = .ok () w := fun em => run_checkKeyX 4 (n := 9996) (em := em) env w hk
      split at h
      · rename_i i k' v0 b hf
        split at h
        · rename_i hs
          cases h
          obtain ⟨h1, h2⟩ := (run_findKeyX (P := P) (kt := kt) env w hk hf).2 _ _ _ _ rfl
          refine ⟨rfl, by simp [unk], keyB_ne hk, isC_ne hc, ⟨_, _, hv⟩, ?_⟩
          rw [ren_map]
          have hi : ((es0.map (renE env)).toArray)[i]? = some ⟨ren env k', ren env v0, b⟩ := by simp [h1, renE]
          simp only [Instr.mapUpdate, Sem.run_bind, run_underlying hu, Result.andThen_ok, MapKept.run_getObj_map hh, hck, List.toList_toArray, h2, hi, Option.map_some, Option.getD_some, run_staysX env w hs, MapKept.run_setObj_map _ hh]
          rw [map_modify env (e' := (k, v, b)) h1 _ rfl]
        · cases h
      · rename_i hf
        cases h
        have h2 := (run_findKeyX (P := P) (kt := kt) env w hk hf).1 rfl
        refine ⟨rfl, by simp [unk], keyB_ne hk, isC_ne hc, ⟨_, _, hv⟩, ?_⟩
        rw [ren_map]
        simp only [Instr.mapUpdate, Sem.run_bind, run_underlying hu, Result.andThen_ok, MapKept.run_getObj_map hh, hck, List.toList_toArray, h2, MapKept.run_setObj_map _ hh]
        rw [push_entry]
      · cases h
    · cases h
  · cases h

theorem update_ok {t : TypeId} {x k v : Value} {r c : Nat} {es : List (Value × Value × Nat)} {ov : Option Value} (hR : RepW env S.V w) (h : xmapUpdate P S.V t x k v = .mset r es c ov) :
    ov = none ∧ x ≠ unk ∧ k ≠ unk ∧ v ≠ unk ∧ (∃ es0 c0, S.V[r]? = some (.mp es0 c0)) ∧
      (Instr.mapUpdate t (ren env x) (ren env k) (ren env v)).run P w = .ok () { w with heap := w.heap.setIfInBounds (env r).blk (.map (es.map (renE env)).toArray c) } := by
  unfold xmapUpdate at h
  split at h
  · split at h <;> cases h
  · exact update0_ok hR h

theorem qset_ok {t : TypeId} {x k v : Value} {r : Nat} {g' : Int → Int} (hR : RepW env S.V w) (h : xmapUpdate P S.V t x k v = .qset r g') :
    x ≠ unk ∧ k ≠ unk ∧ v ≠ unk ∧ ∃ w', (Instr.mapUpdate t (ren env x) (ren env k) (ren env v)).run P w = .ok () w' ∧ RepW env (S.V.set r (.mq g')) w' ∧ Fr env S.V w env (S.V.set r (.mq g')) w' := by
  unfold xmapUpdate at h
  split at h
  · rename_i r0 g hq
    obtain ⟨rfl, hv⟩ := qAt_eq hq
    split at h
    · rename_i n m hi
      cases h
      obtain ⟨es, c, hQ, hR'⟩ := hR.showQ hv
      obtain ⟨kt, et, h1, h2, h3⟩ := intMap_eq hi
      have hlt : r < S.V.length := (List.getElem?_eq_some_iff.1 hv).1
      have hv' : (S.V.set r (.mp es c))[r]? = some (.mp es c) := by simp [hlt]
      have main : ∃ es' c', xmapUpdate0 P (S.V.set r (.mp es c)) t (.map (some r)) (.int .i64 n) (.int .i64 m) = .mset r es' c' none ∧ Qm (updQ g n m) es' := by
        unfold xmapUpdate0
        simp only [h1, hv', keyB_int h2, isC]
        rcases mfind_int h2 n es 0 hQ.ints with ⟨j, v0, b, h4, h5, h6, h7⟩ | ⟨h4, h6, h7⟩
        · rw [h4]
          refine ⟨es.set j (.int .i64 n, .int .i64 m, b), c, ?_, fun e he => ?_, fun n' => ?_⟩
          · simp [sameK, sameC]
          · rcases List.mem_or_eq_of_mem_set he with he | rfl
            · exact hQ.ints e he
            · exact ⟨n, m, rfl, rfl⟩
          · rw [h7]; unfold updQ; rw [hQ.look]
        · rw [h4]
          refine ⟨es ++ [(.int .i64 n, .int .i64 m, c)], c + 1, rfl, fun e he => ?_, fun n' => ?_⟩
          · rcases List.mem_append.1 he with he | he
            · exact hQ.ints e he
            · simp at he; subst he; exact ⟨n, m, rfl, rfl⟩
          · rw [h7]; unfold updQ; rw [hQ.look]
      obtain ⟨es', c', hup, hQ'⟩ := main
      obtain ⟨_, u1, u2, u3, _, hrun⟩ := update0_ok (S := ⟨S.tmps, S.V.set r (.mp es c)⟩) hR' hup
      obtain ⟨hW, hF⟩ := hR'.setMap (c' := c') (es' := es') hv' (fun e he => by
        obtain ⟨k, v, h1, h2⟩ := hQ'.ints e he
        rw [h1, h2]
        exact ⟨.plain rfl, .plain rfl⟩)
      rw [List.set_set] at hW hF
      have hW2 := hW.hideQ (r := r) (c := c') (es := es') (g := updQ g n m) (by simp [hlt]) hQ'
      rw [List.set_set] at hW2
      refine ⟨u1, u2, u3, _, hrun, hW2, ⟨fun i hi => rfl, by simp, hF.os, hF.tape, hF.output, hF.size, fun b hb hno => hF.keep b hb fun i o hi ho => ?_, fun i o hi ho => ?_⟩⟩
      · rcases setV_get hi with ⟨rfl, rfl, _⟩ | ⟨_, hi⟩
        · exact hno _ _ hv ⟨rfl, trivial⟩
        · exact hno i o hi ho
      · rcases setV_get hi with ⟨rfl, rfl, _⟩ | ⟨hne, hi⟩
        · exact .inl ⟨_, _, hv, ⟨rfl, trivial⟩, rfl⟩
        · exact .inl ⟨i, o, hi, ho, rfl⟩
    · cases h
  · unfold xmapUpdate0 at h
    (repeat' split at h) <;> cases h

theorem entry_ok {t : TypeId} {x k : Value} {r c : Nat} {es : List (Value × Value × Nat)} {ov : Option Value} (hR : RepW env S.V w) (h : xmapEntry P S.V t x k = .mset r es c ov) :
    ∃ v, ov = some v ∧ x ≠ unk ∧ k ≠ unk ∧ (∃ es0 c0, S.V[r]? = some (.mp es0 c0)) ∧
      (Instr.mapEntry t (ren env x) (ren env k)).run P w = .ok (ren env v) { w with heap := w.heap.setIfInBounds (env r).blk (.map (es.map (renE env)).toArray c) } := by
  unfold xmapEntry at h
  split at h
  · rename_i kt et r' hu
    split at h
    · rename_i es0 c0 hv hk
      obtain ⟨hh, hb⟩ := hR.mat _ _ hv
      have hck : ∀ em, (Instr.checkKey em 10000 kt (ren env k)).run P w = .ok () w := fun em => run_checkKeyX 4 (n := 9996) (em := em) env w hk
      split at h
      · rename_i i k' v0 b hf
        split at h
        · rename_i hs hc
          cases h
          obtain ⟨h1, h2⟩ := (run_findKeyX (P := P) (kt := kt) env w hk hf).2 _ _ _ _ rfl
          refine ⟨_, rfl, by simp [unk], keyB_ne hk, ⟨_, _, hv⟩, ?_⟩
          rw [ren_map]
          have hi : ((es0.map (renE env)).toArray)[i]? = some ⟨ren env k', ren env v0, b⟩ := by simp [h1, renE]
          simp only [Instr.mapEntry, Sem.run_bind, run_underlying hu, Result.andThen_ok, MapKept.run_getObj_map hh, hck, List.toList_toArray, h2, hi, Option.map_some, Option.getD_some, run_staysX env w hs, MapKept.run_setObj_map _ hh]
          rw [map_modify env (e' := (k, v0, b)) h1 _ rfl]
          simp [ren_tuple, goInt]
        · cases h
      · rename_i hf
        split at h
        · rename_i z hz
          cases h
          have h2 := (run_findKeyX (P := P) (kt := kt) env w hk hf).1 rfl
          refine ⟨_, rfl, by simp [unk], keyB_ne hk, ⟨_, _, hv⟩, ?_⟩
          rw [ren_map]
          simp only [Instr.mapEntry, Sem.run_bind, run_underlying hu, Result.andThen_ok, MapKept.run_getObj_map hh, hck, List.toList_toArray, h2, MapKept.run_setObj_map _ hh, (zeroOf_run hz env w).1]
          rw [push_entry]
          simp [ren_tuple, goInt]
        · cases h
      · cases h
    · cases h
  · cases h

theorem bornIx_ok {n : Int} : ∀ (es : List (Value × Value × Nat)) (i : Nat) {j : Nat} {k : Value} {b : Nat}, bornIx es n i = some (j, k, b) → i ≤ j ∧ (∃ v, es[j - i]? = some (k, v, b)) ∧ ∀ env, (es.map (renE env)).findIdx? (fun e => (e.born : Int) == n) = some (j - i)
  | [], i, j, k, b, h => by simp [bornIx] at h
  | (k0, v0, b0) :: es, i, j, k, b, h => by
    unfold bornIx at h
    split at h
    · rename_i hb
      cases h
      have hb' : (b0 : Int) = n := of_decide_eq_true hb
      exact ⟨Nat.le_refl _, ⟨v0, by simp⟩, fun env => by simp [List.findIdx?_cons, renE, hb']⟩
    · rename_i hb
      have hb' : ¬ (b0 : Int) = n := of_decide_eq_false hb
      obtain ⟨h1, ⟨v, h2⟩, h3⟩ := bornIx_ok es (i + 1) h
      refine ⟨by omega, ⟨v, by rw [show j - i = (j - (i + 1)) + 1 by omega]; simpa using h2⟩, fun env => ?_⟩
      simp [List.findIdx?_cons, renE, hb', h3 env]
      omega

theorem entryStore_ok {t : TypeId} {x s v : Value} {r c : Nat} {es : List (Value × Value × Nat)} {ov : Option Value} (hR : RepW env S.V w) (h : xentryStore S.V x s v = .mset r es c ov) :
    ov = none ∧ x ≠ unk ∧ s ≠ unk ∧ v ≠ unk ∧ (∃ es0 c0, S.V[r]? = some (.mp es0 c0)) ∧
      (Instr.entryStore t (ren env x) (ren env s) (ren env v)).run P w = .ok () { w with heap := w.heap.setIfInBounds (env r).blk (.map (es.map (renE env)).toArray c) } := by
  unfold xentryStore at h
  split at h
  · rename_i r' q n
    split at h
    · rename_i es0 c0 hv hc
      split at h
      · rename_i i k b hb
        cases h
        obtain ⟨hh, _⟩ := hR.mat _ _ hv
        obtain ⟨h1, ⟨v0, h2⟩, h3⟩ := bornIx_ok es0 0 hb
        refine ⟨rfl, by simp [unk], by simp [unk], isC_ne hc, ⟨_, _, hv⟩, ?_⟩
        rw [ren_map, ren_int]
        have hix : (es0.map (renE env)).toArray.findIdx? (fun e => (e.born : Int) == n) = some i := by
          rw [List.findIdx?_toArray]; exact h3 env
        rw [Nat.sub_zero] at h2
        simp only [Instr.entryStore, Sem.run_bind, MapKept.run_getObj_map hh, Result.andThen_ok, asInt, asIntOf, Sem.run_pure, hix, MapKept.run_setObj_map _ hh]
        rw [map_modify env (e' := (k, v, b)) h2 _ rfl]
      · cases h
    · cases h
  · cases h

theorem assert_ok {x v : Value} {t xt : TypeId} {ok : Bool} {p : Prop} (h : xassert P x t ok = .val p v) (env : Nat → Loc) (w : World) :
    x ≠ unk ∧ (Instr.typeAssert (ren env x) xt t ok).run P w = .ok (ren env v) w := by
  unfold xassert at h
  split at h
  · cases h
  · rename_i d t' v' hni hu
    have hni' : ∀ ms, d ≠ .interface ms := fun ms e => hni ms e
    refine ⟨by simp [unk], ?_⟩
    rw [ren_iface]
    cases hb : Nat.beq t' t with
    | true =>
      have := Nat.eq_of_beq_eq_true hb
      subst this
      simp only [hb] at h
      cases hc : isC v' with
      | true => simp [hc] at h
      | false =>
        simp only [hc] at h
        cases h
        rw [ren_two]
        cases d <;> first | exact absurd rfl (hni' _) | (cases ok <;> simp [Instr.typeAssert, run_underlying hu])
    | false =>
      have hne : t' ≠ t := fun e => by subst e; rw [Nat.beq_refl] at hb; cases hb
      simp only [hb] at h
      cases ok with
      | false => cases h
      | true =>
        dsimp only at h
        split at h
        · rename_i z hz
          cases h
          rw [ren_tuple]
          cases d <;> first | exact absurd rfl (hni' _) | (simp [Instr.typeAssert, run_underlying hu, hne, (zeroOf_run hz env w).1])
        · cases h
  · rename_i d hni hu
    have hni' : ∀ ms, d ≠ .interface ms := fun ms e => hni ms e
    refine ⟨by simp [unk], ?_⟩
    split at h
    · rename_i z hz
      cases h
      rw [ren_tuple]
      cases d <;> first | exact absurd rfl (hni' _) | (simp [Instr.typeAssert, run_underlying hu, (zeroOf_run hz env w).1])
    · cases h
  · cases h

theorem zeroK_ok {o : Option Operand} (h : zeroK o = true) : ∃ q, o = some (.const (.int q 0)) := by
  unfold zeroK at h
  split at h
  · rename_i q n; exact ⟨q, by rw [of_decide_eq_true h]⟩
  · cases h

theorem slice3_ok {x v : Value} {t : TypeId} {lo hi mx : Option Operand} {p : Prop} (h : xslice3 P t x lo hi mx = .val p v) (env : Nat → Loc) (w : World) (ρ : Operand → Value) (hρ : ∀ v, ρ (.const v) = v) :
    x ≠ unk ∧ (Instr.sliceAt t (ren env x) (lo.map ρ) (hi.map ρ) (mx.map ρ)).run P w = .ok (ren env v) w := by
  unfold xslice3 at h
  split at h
  · rename_i hh hm
    obtain ⟨q, rfl⟩ := zeroK_ok hh
    obtain ⟨q', rfl⟩ := zeroK_ok hm
    split at h
    · rename_i e hu
      split at h
      · rename_i ie hi
        cases h
        refine ⟨by simp [unk], ?_⟩
        simp [hρ, Instr.sliceAt, run_underlying hu, Instr.slice, Instr.sliceBounds, Instr.sliceBound, asIntOf, run_size hi]
      · cases h
    · rename_i e ad l c hu
      split at h
      · rename_i ie hi hoff
        cases h
        refine ⟨by simp [unk], ?_⟩
        rw [ren_slice env _ _ (Nat.blt_eq ▸ hoff), ren_slice6 env _ _ rfl]
        simp [hρ, Instr.sliceAt, run_underlying hu, Instr.slice, Instr.sliceBounds, Instr.sliceBound, asIntOf, run_size hi]
      · cases h
    · cases h
  · cases h

theorem mlen_ok {x v : Value} {t : TypeId} {p : Prop} (hR : RepW env S.V w) (h : xmlen P S.V t x = .val p v) (ts : List TypeId) (ty : TypeId) :
    x ≠ unk ∧ (Builtin.len_ ⟨t :: ts⟩ ty #[ren env x]).run P w = .ok (ren env v) w := by
  unfold xmlen at h
  split at h
  · rename_i kt et hu
    split at h
    · rename_i es hm
      cases h
      obtain ⟨hx, hat⟩ := mapAt_run hR hm
      refine ⟨hx, ?_⟩
      rcases hat with ⟨hx1, rfl⟩ | ⟨r', c, _, hx1, hh⟩
      · rw [hx1]; simp [Builtin.len_, run_underlying hu, goInt]
      · rw [hx1]; simp [Builtin.len_, run_underlying hu, goInt, MapKept.run_getObj_map hh]
    · cases h
  · cases h

theorem append1_val {t u ty : TypeId} {s x v : Value} {p : Prop} {V : VW} (h : xappend1 P V t u s x = .val p v) (env : Nat → Loc) (w : World) :
    s ≠ unk ∧ x ≠ unk ∧ (Builtin.append_ #[t, u] ty #[ren env s, ren env x]).run P w = .ok (ren env v) w := by
  unfold xappend1 at h
  split at h
  · rename_i e e' ht hu
    split at h
    · rename_i ie hi
      cases h
      refine ⟨by simp [unk], by simp [unk], ?_⟩
      simp [Builtin.append_, run_underlying ht, run_underlying hu, sizeOf, typeInfo, hi, Builtin.lenOf, Builtin.firstCells]
    · cases h
  · split at h
    · split at h
      · split at h <;> cases h
      · cases h
    · cases h
  · cases h

theorem append1_new {t u ty : TypeId} {s x : Value} {v : Nat → Value} {p : Prop} {ob : VObj} {V : VW} (hR : RepW env V w) (h : xappend1 P V t u s x = .new p ob v) (hp : p) :
    s ≠ unk ∧ x ≠ unk ∧ ∃ u' w' env', (Builtin.append_ #[t, u] ty #[ren env s, ren env x]).run P w = .ok u' w' ∧ u' = ren env' (v V.length) ∧ RepW env' (V ++ [ob]) w' ∧ Fr env V w env' (V ++ [ob]) w' := by
  unfold xappend1 at h
  split at h
  · split at h <;> cases h
  · rename_i x _ _ _ _ e b sp ht
    split at h
    · rename_i ie hie
      split at h
      · rename_i z hz
        split at h
        · rename_i q k g hc hzl hpos hsrc
          cases h
          have hxn : x ≠ unk := fun he => by
            subst he
            unfold xsrc at hsrc
            split at hsrc <;> simp_all [unk]
          refine ⟨by simp [unk], hxn, ?_⟩
          have hzs : z.cells.size = ie.size := zsize hc (Nat.eq_of_beq_eq_true hzl)
          have hm : 0 < ie.size := by rwa [Nat.blt_eq] at hpos
          obtain ⟨hq, hk, h63, h47⟩ := hp
          obtain ⟨⟨d, hu, hd⟩, hg, hsok⟩ := xsrc_ok hR hsrc hq hm
          rw [ren_slice6 env _ _ rfl]
          have holds := run_firstCells_some (P := P) w.drew ie.size 0 (renA env { (⟨b, 6, sp⟩ : Addr) with off := 0 }) 0 0 [] (by simp) (fun j v hj => by simp at hj)
          have hrun := run_app_grow t u ty e ie z d ht hu hd hie hz _ 0 0 k [] holds (ren env x) _ hsok (by omega) (by omega) (growslice_fits (by omega) (by simpa using h47))
          rw [hrun]
          have hcap := grownCap_ge w (0 + k) 0 e
          obtain ⟨hW, hF⟩ := grown_ok hR (e := e) (m := ie.size) (k := k) (q := grownCap w (0 + k) 0 e) (g := g)
            (cs := #[] ++ ((rowsOf k g).map (ren env)).toArray ++ Builtin.zeroCells z.cells (grownCap w (0 + k) 0 e - (0 + k))) (fun j hj => (hg j hj).1) (fun j hj => (hg j hj).2)
            (by
              simp only [Array.size_append, size_zeroCells, hzs, List.size_toArray, List.length_map, rowsOf_length (m := ie.size) (fun j hj => (hg j hj).1), Array.size_empty]
              simp only [Nat.zero_add] at hcap ⊢
              rw [List.length_nil, Nat.zero_add, ← Nat.add_mul]
              congr 1; omega) (by omega) (fun j v hj => by
              have hlt := (List.getElem?_eq_some_iff.1 hj).1
              simp only [Array.empty_append]
              rw [Array.getElem?_append_left (by simpa using hlt)]
              simpa using hj)
          refine ⟨_, _, _, rfl, ?_, hW, hF⟩
          dsimp only
          rw [ren_slice1]
          simp [renA]
        · cases h
      · cases h
    · cases h
  · cases h

/-! ### A call of a method -/
theorem xmeth_run {t : TypeId} {name : String} {f : FuncId} (h : xmeth P t name = some f) (v : Value) (n : Nat) (w : World) : (method (n + 1) t v name).run P w = .ok (f, v) w := by
  unfold xmeth at h
  split at h
  · rename_i i u hi hu
    split at h
    · rename_i m hm
      have hm' : i.methods.find? (fun m => m.name == name) = some m := by rw [← Array.find?_toList]; exact hm
      split at h
      · rename_i f' e hp hf
        cases h
        simp [method, typeInfo, hi, hm', hp, hf, follow, receiverAt, run_underlying hu, Place.get]
      · rename_i f' fs hp hf
        cases h
        simp [method, typeInfo, hi, hm', hp, hf, follow, receiverAt, run_underlying hu, Place.get]
      · rename_i f' k hp hf
        cases h
        simp [method, typeInfo, hi, hm', hp, hf, follow, receiverAt, run_underlying hu, Place.get]
      · cases h
    · cases h
  · cases h

theorem mapOp_call {o : Op} {f : FuncId} {args : List Value} (h : xmapOp P S o = .call f args) :
    ∃ c x name t v, o = .call c ∧ c.callee = .invoke x name ∧ ev S x = .iface t v ∧ xmeth P t name = some f ∧ isC v = false ∧ (c.args.toList.map (ev S)).any isC = false ∧ args = v :: c.args.toList.map (ev S) := by
  cases o <;> simp only [xmapOp] at h <;> try (cases h; done)
  case makeMap t r => (repeat' split at h) <;> cases h
  case buildSlice t len parts => unfold xempty at h; (repeat' split at h) <;> cases h
  case lookup t x k ok => unfold xlookup xlookup0 at h; (repeat' split at h) <;> cases h
  case mapUpdate t x k v => unfold xmapUpdate xmapUpdate0 at h; (repeat' split at h) <;> cases h
  case insert t x k v => unfold xmapUpdate xmapUpdate0 at h; (repeat' split at h) <;> cases h
  case mapEntry t x k => unfold xmapEntry at h; (repeat' split at h) <;> cases h
  case entryStore t x s v => unfold xentryStore at h; (repeat' split at h) <;> cases h
  case typeAssert x xt t ok => unfold xassert at h; (repeat' split at h) <;> cases h
  case slice t x lo hi mx => unfold xslice3 at h; (repeat' split at h) <;> cases h
  case call c =>
    split at h
    · split at h
      · unfold xmlen at h; (repeat' split at h) <;> cases h
      · cases h
    · split at h
      · unfold xappend1 at h; (repeat' split at h) <;> cases h
      · cases h
    · rename_i x name hc
      split at h
      · rename_i t v hx
        split at h
        · rename_i f' hm hv ha
          cases h
          exact ⟨c, x, name, t, v, rfl, hc, hx, hm, hv, ha, rfl⟩
        · cases h
      · cases h
    · cases h

end Go.X
