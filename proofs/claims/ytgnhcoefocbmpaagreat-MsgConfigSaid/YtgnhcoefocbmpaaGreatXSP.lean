/- Pieces of code told by predicates on the real state; families of slices, each with a block of its own. -/
import Derived.Test.YtgnhcoefocbmpaaGreatXSV
set_option linter.unusedSimpArgs false
set_option linter.unusedSectionVars false
set_option linter.unusedVariables false
namespace Go.X
open Go
variable [WI]
variable {P : Program}

/-- what a piece of code does, from any state of which A holds -/
def Do (P : Program) (c : Code) (A : Act → World → Prop) (B : Exit → Act → World → Prop) : Prop :=
  ∀ a w, A a w → c.wp P (fun e a' w' => e ≠ .outgrown ∧ B e a' w') a w

theorem Do.mono {c : Code} {A A' : Act → World → Prop} {B B' : Exit → Act → World → Prop} (h : Do P c A B) (ha : ∀ a w, A' a w → A a w) (hb : ∀ e a w, B e a w → B' e a w) : Do P c A' B' :=
  fun a w hA => wp_mono (h a w (ha a w hA)) fun e a' w' ⟨h1, h2⟩ => ⟨h1, hb _ _ _ h2⟩

/-- the end of a piece that another follows -/
def thenB (M : Act → World → Prop) (B : Exit → Act → World → Prop) (e : Exit) (a : Act) (w : World) : Prop :=
  match e with
  | .normal => M a w
  | e => B e a w

theorem Do.seq {x y : Code} {A M : Act → World → Prop} {B : Exit → Act → World → Prop} (h1 : Do P x A (thenB M B)) (h2 : Do P y M B) : Do P (.seq x y) A B := by
  intro a w hA
  refine wp_seq (wp_mono (h1 a w hA) ?_)
  rintro e a' w' ⟨hne, hB⟩
  cases e with
  | normal => exact h2 a' w' hB
  | exit i => exact ⟨hne, hB⟩
  | goto l => exact ⟨hne, hB⟩
  | ret => exact ⟨hne, hB⟩
  | panic c => exact ⟨hne, hB⟩
  | outgrown => exact absurd rfl hne

def blockB (id : Nat) (B : Exit → Act → World → Prop) (e : Exit) (a : Act) (w : World) : Prop :=
  match e with
  | .exit i => if i = id then B .normal a w else B (.exit i) a w
  | e => B e a w

theorem Do.block {id : Nat} {c : Code} {A : Act → World → Prop} {B : Exit → Act → World → Prop} (h : Do P c A (blockB id B)) : Do P (.block id c) A B := by
  intro a w hA
  refine wp_block (wp_mono (h a w hA) ?_)
  rintro e a' w' ⟨hne, hB⟩
  cases e with
  | exit i =>
    simp only [Exit.inBlock]
    simp only [blockB] at hB
    split
    · rename_i hi
      rw [if_pos hi] at hB
      exact ⟨by simp, hB⟩
    · rename_i hi
      rw [if_neg hi] at hB
      exact ⟨by simp, hB⟩
  | normal => exact ⟨hne, hB⟩
  | goto l => exact ⟨hne, hB⟩
  | ret => exact ⟨hne, hB⟩
  | panic c => exact ⟨hne, hB⟩
  | outgrown => exact absurd rfl hne

/-- the end of a round -/
def roundB (id : Nat) (I : Nat → Act → World → Prop) (k : Nat) (B : Exit → Act → World → Prop) (e : Exit) (a : Act) (w : World) : Prop :=
  match e with
  | .normal => ∃ k', k' < k ∧ I k' a w
  | .exit i => if i = id then B .normal a w else B (.exit i) a w
  | e => B e a w

theorem Do.loop {id : Nat} {body : Code} {B : Exit → Act → World → Prop} (I : Nat → Act → World → Prop) (round : ∀ k, Do P body (I k) (roundB id I k B)) (k0 : Nat) : Do P (.block id (.loop body)) (I k0) B := by
  intro a w hA
  refine wp_block ?_
  intro b k cs
  have key : ∀ (n : Nat) (a1 : Act) (w1 : World), I n a1 w1 →
      ∃ e a' w', (Exit.inBlock id fun e a' w' => e ≠ .outgrown ∧ B e a' w') e a' w' ∧ Arrives P (lone (b.at a1 (.code body :: .inLoop body :: k)) cs w1) b k cs e a' w' := by
    intro n
    induction n using Nat.strongRecOn with
    | _ n ih =>
      intro a1 w1 hI
      obtain ⟨e, a2, w2, ⟨hne, hB⟩, harr⟩ := round n a1 w1 hI b (.inLoop body :: k) cs
      cases e with
      | normal =>
        obtain ⟨n', hlt, hI'⟩ := hB
        obtain ⟨e₂, a₂, w₂, hq₂, harr₂⟩ := ih n' hlt a2 w2 hI'
        exact ⟨e₂, a₂, w₂, hq₂, .of_steps (Steps.trans harr (.one step_inLoop)) harr₂⟩
      | exit i =>
        refine ⟨.exit i, a2, w2, ?_, .pass (x := .inLoop body) rfl (fun _ _ => .inl (by simp)) harr⟩
        simp only [Exit.inBlock]
        simp only [roundB] at hB
        by_cases hi : i = id
        · rw [if_pos hi] at hB; rw [if_pos hi]; exact ⟨by simp, hB⟩
        · rw [if_neg hi] at hB; rw [if_neg hi]; exact ⟨by simp, hB⟩
      | goto l => exact ⟨.goto l, a2, w2, ⟨hne, hB⟩, .pass (x := .inLoop body) rfl (fun _ _ => .inl (by simp)) harr⟩
      | ret => exact ⟨.ret, a2, w2, ⟨hne, hB⟩, .pass (x := .inLoop body) rfl (fun _ _ => .inl (by simp)) harr⟩
      | panic ch => exact ⟨.panic ch, a2, w2, ⟨hne, hB⟩, .pass (x := .inLoop body) rfl (fun _ _ => .inl (by simp)) harr⟩
      | outgrown => exact absurd rfl hne
  obtain ⟨e, a', w', hq, harr⟩ := key k0 a w hA
  exact ⟨e, a', w', hq, .of_steps (.one step_loop) harr⟩

/-- a piece that the runner runs -/
theorem Do.of {c : Code} {A : Act → World → Prop} {B : Exit → Act → World → Prop}
    (h : ∀ a w, A a w → ∃ env S K, Rep env S a w ∧ Does P c S K ∧ ∀ e env' S' a' w', Fr env S.V w env' S'.V w' → Rep env' S' a' w' → K e S' → B e a' w') : Do P c A B := by
  intro a w hA
  obtain ⟨env, S, K, hR, hD, hK⟩ := h a w hA
  exact wp_mono (hD env a w hR) fun e a' w' ⟨hne, env', S', hF, hR', hk⟩ => ⟨hne, hK e env' S' a' w' hF hR' hk⟩

theorem Do.assoc {x y z : Code} {A : Act → World → Prop} {B : Exit → Act → World → Prop} {M : Act → World → Prop} (h1 : Do P (.seq x y) A (thenB M B)) (h2 : Do P z M B) : Do P (.seq (.seq x y) z) A B := h1.seq h2

/-! ### Pieces behind one another -/
def Xs (P : Program) (C : Ctx) (n : Nat) : List Code → VSt → (Exit → VSt → Prop) → Prop
  | [], S, K => K .normal S
  | c :: cs, S, K => X P C n c S fun e S' => match e with | .normal => Xs P C n cs S' K | e => K e S'

def seqs : List Code → Code → Code
  | [], r => r
  | c :: cs, r => .seq c (seqs cs r)

theorem Do.run {C : Ctx} (hC : CtxOK P C) {n : Nat} {B : Exit → Act → World → Prop} {rest : Code} {M : Act → World → Prop} (h2 : Do P rest M B) : ∀ (cs : List Code) (S : VSt) (K : Exit → VSt → Prop) (env0 env : Nat → Loc) (V0 : VW) (w0 : World) (a : Act) (w : World),
    (∀ c ∈ cs, BlksOK P C c) → Fr env0 V0 w0 env S.V w → Rep env S a w → Xs P C n cs S K →
    (∀ e env' S' a' w', Fr env0 V0 w0 env' S'.V w' → Rep env' S' a' w' → K e S' → thenB M B e a' w') → (seqs cs rest).wp P (fun e a' w' => e ≠ .outgrown ∧ B e a' w') a w
  | [], S, K, env0, env, V0, w0, a, w, hB, hF, hR, h, hK => h2 a w (hK .normal env S a w hF hR h)
  | c :: cs, S, K, env0, env, V0, w0, a, w, hB, hF, hR, h, hK => by
    refine wp_seq (wp_mono (X_ok hC n c S _ (hB c (by simp)) h env a w hR) ?_)
    rintro e a' w' ⟨hne, env', S', hF', hR', hk⟩
    cases e with
    | normal => exact Do.run hC h2 cs S' K env0 env' V0 w0 a' w' (fun x hx => hB x (List.mem_cons_of_mem _ hx)) (hF.trans hF') hR' hk hK
    | exit i => exact ⟨hne, hK _ env' S' a' w' (hF.trans hF') hR' hk⟩
    | goto l => exact ⟨hne, hK _ env' S' a' w' (hF.trans hF') hR' hk⟩
    | ret => exact ⟨hne, hK _ env' S' a' w' (hF.trans hF') hR' hk⟩
    | panic ch => exact ⟨hne, hK _ env' S' a' w' (hF.trans hF') hR' hk⟩
    | outgrown => exact absurd rfl hne

/-- pieces that the runner runs, and the rest -/
theorem Do.pieces {C : Ctx} (hC : CtxOK P C) (n : Nat) (cs : List Code) {rest : Code} {A M : Act → World → Prop} {B : Exit → Act → World → Prop} (hB : ∀ c ∈ cs, BlksOK P C c) (h2 : Do P rest M B)
    (h : ∀ a w, A a w → ∃ env S K, Rep env S a w ∧ Hold (Xs P C n cs S K) ∧ ∀ e env' S' a' w', Fr env S.V w env' S'.V w' → Rep env' S' a' w' → K e S' → thenB M B e a' w') : Do P (seqs cs rest) A B := by
  intro a w hA
  obtain ⟨env, S, K, hR, hX, hK⟩ := h a w hA
  exact Do.run hC h2 cs S K env env S.V w a w hB (Fr.refl _ _ _) hR hX.out hK

/-- A FUNCTION, by what its body does -/
theorem calls_of_does {C : Ctx} {f : FuncId} {fn : Func} {c : Code} {args : List Value} {V : VW} {K : Value → VW → Prop} (hf : P.funcs[f]? = some fn) (hb : fn.body = some c) (hle : args.length ≤ fn.ntmps)
    (h : Does P c ⟨args ++ List.replicate (fn.ntmps - args.length) undef, V⟩ (xend P C fn K)) : CallDoes P f args V K := by
  intro env w hW hsc
  refine calls_of_wp hf hb ?_
  have hR : Rep env ⟨args ++ List.replicate (fn.ntmps - args.length) undef, V⟩ { tmps := (args.map (ren env)).toArray ++ Array.replicate (fn.ntmps - (args.map (ren env)).toArray.size) undef, defers := [] } w := by
    refine ⟨hW, rfl, by simp, fun t ht => .inr ?_, fun v hv => ?_⟩
    · simp only [List.length_append, List.length_replicate] at ht
      rw [nth_eq, Array.getD_eq_getD_getElem?, List.getD_eq_getElem?_getD]
      simp only [Array.getElem?_append, List.getElem?_append, List.getElem?_toArray, List.size_toArray, List.length_map, List.getElem?_map, Array.getElem?_replicate, List.getElem?_replicate]
      by_cases h1 : t < args.length
      · simp [h1]
      · simp only [h1, if_false]
        split <;> simp
    · simp only [List.mem_append, List.mem_replicate] at hv
      rcases hv with hv | ⟨_, rfl⟩
      · exact hsc v hv
      · exact .undef
  refine wp_mono (h env _ w hR) ?_
  rintro e a' w' ⟨hne, env', S', hF, hR', hK⟩
  obtain ⟨he, v, hrun, hk⟩ := xend_ok hR' hK
  have : a'.defers = [] ∧ ∃ u, (results fn a'.tmps).run P w' = .ok u w' ∧ ∃ u' env' V' v, Ending.returned u = .returned u' ∧ Rv env' v u' ∧ RepW env' V' w' ∧ Fr env V w env' V' w' ∧ K v V' :=
    ⟨hR'.def_, _, hrun, _, env', S'.V, v, rfl, .inr rfl, hR'.mem, hF, hk⟩
  rcases he with rfl | rfl
  · exact this
  · exact this

/-- Does, by Do -/
theorem Does.ofDo {c : Code} {S : VSt} {K : Exit → VSt → Prop} (h : ∀ env w, Do P c (fun a w' => Rep env S a w' ∧ w' = w) (fun e a' w' => ∃ env' S', Fr env S.V w env' S'.V w' ∧ Rep env' S' a' w' ∧ K e S')) : Does P c S K :=
  fun env a w hR => h env w a w ⟨hR, rfl⟩

/-! ### Other memory under the same tmps -/
theorem Rep.swap {env env' : Nat → Loc} {S : VSt} {V' : VW} {a : Act} {w : World} (hR : Rep env S a w) (hW : RepW env' V' w) (hl : S.V.length ≤ V'.length) (hag : ∀ i, i < S.V.length → env' i = env i) : Rep env' ⟨S.tmps, V'⟩ a w :=
  ⟨hW, hR.def_, hR.size, fun t ht => by
    rcases hR.tm t ht with h | h
    · exact .inl h
    · right
      have hsc : Sc S.V.length (nth undef S.tmps t) := by
        rw [nth_eq]
        have : S.tmps.getD t undef ∈ S.tmps := by simp [List.getD, ht]
        exact hR.sc _ this
      rw [h, hsc env env' (fun i hi => (hag i hi).symm)], fun v hv => (hR.sc v hv).mono hl⟩

/-- the world of the start alone -/
def World.cut (w : World) (n : Nat) : World := { w with heap := w.heap.extract 0 n }

/-- a state under other numbers, with nothing asked of what there was -/
theorem Rep.shape {env : Nat → Loc} {S : VSt} {a : Act} {w : World} {sel : List Sel} {ks : List Nat} {nt : List (Nat × Nat)} {nc : List (Nat × Nat × Nat)} {k : VSt → Prop} (hR : Rep env S a w)
    (h : reshape 0 sel ks nt nc S k) : ∃ env' S', Rep env' S' a w ∧ k S' ∧ S'.V.length = sel.length ∧ (∀ (j p : Nat), sel[j]? = some (.keep p) → env' j = env p) ∧ ∀ (j : Nat) (o' : VObj), S'.V[j]? = some o' → o'.live = true → hasB (env' j) o' → ∃ p o, S.V[p]? = some o ∧ env' j = env p ∧ o.live = true ∧ hasB (env p) o := by
  have hsz : (World.cut w WI.n).heap.size = WI.n := by
    have := hR.mem.room
    show (w.heap.extract 0 WI.n).size = _
    simp; omega
  have hF : Fr env [] (World.cut w WI.n) env S.V w := ⟨fun i hi => by simp at hi, Nat.zero_le _, rfl, rfl, rfl, by rw [hsz]; exact hR.mem.room, fun b hb _ => by
    rw [hsz] at hb
    show _ = (w.heap.extract 0 WI.n)[b]?
    rw [Array.getElem?_extract]
    have := hR.mem.room
    simp
    omega, fun i o hi ho => .inr (by rw [hsz]; exact hR.mem.low i o hi ho)⟩
  obtain ⟨env', S', _, h1, h2, h3, h4⟩ := reshape_ok hF hR h
  exact ⟨env', S', h1, h2, h3, h4⟩

theorem rawRow_raw (env : Nat → Loc) (f : Nat → List Value) (hs : List (Nat × List Value)) (r : Nat) : rawRow env (rawRow env f hs) [] r = rawRow env f hs r := rfl

/-- holes are closed -/
theorem RepW.closeR {env : Nat → Loc} {V : VW} {w : World} (hW : RepW env V w) {q : Nat} {t : TypeId} {m n cap : Nat} {f : Nat → List Value} {hs : List (Nat × List Value)} (hq : V[q]? = some (.raw t m n cap f hs)) :
    RepW env (V.set q (.raw t m n cap (rawRow env f hs) [])) w := by
  have get : ∀ {j : Nat} {o : VObj}, (V.set q (.raw t m n cap (rawRow env f hs) []))[j]? = some o → (j = q ∧ o = .raw t m n cap (rawRow env f hs) []) ∨ (j ≠ q ∧ V[j]? = some o) := by
    intro j o h
    rcases setV_get h with ⟨h1, h2, _⟩ | h
    · exact .inl ⟨h1, h2⟩
    · exact .inr h
  refine ⟨fun j o hj => ?_, fun j o hj => ?_, fun j o hj hB => ?_, fun j k oj ok hj hk hjk hw hl hBj hBk => ?_, hW.inv, fun j o hj ho => ?_, hW.room⟩
  · rcases get hj with ⟨rfl, rfl⟩ | ⟨_, hj'⟩
    · obtain ⟨h0, h1, h2, h3⟩ := hW.mat _ _ hq
      exact ⟨fun x hx => by simp at hx, h1, h2, h3⟩
    · exact hW.mat j o hj'
  · rw [List.length_set]
    rcases get hj with ⟨rfl, rfl⟩ | ⟨_, hj'⟩
    · exact fun x hx => by simp at hx
    · exact hW.sc j o hj'
  · rcases get hj with ⟨rfl, rfl⟩ | ⟨_, hj'⟩
    · exact hW.blk _ _ hq trivial
    · exact hW.blk j o hj' hB
  · rcases get hj with ⟨rfl, rfl⟩ | ⟨_, hj'⟩
    · rcases get hk with ⟨rfl, rfl⟩ | ⟨_, hk'⟩
      · exact absurd rfl hjk
      · exact hW.sep _ _ _ _ hq hk' hjk rfl hl trivial hBk
    · rcases get hk with ⟨rfl, rfl⟩ | ⟨_, hk'⟩
      · exact hW.sep _ _ _ _ hj' hq hjk hw rfl hBj trivial
      · exact hW.sep _ _ _ _ hj' hk' hjk hw hl hBj hBk
  · rcases get hj with ⟨rfl, rfl⟩ | ⟨_, hj'⟩
    · exact hW.low _ _ hq ⟨rfl, trivial⟩
    · exact hW.low j o hj' ho

/-- a place more -/
theorem RepW.addP {env : Nat → Loc} {V : VW} {w : World} (hW : RepW env V w) {env' : Nat → Loc} {l : Loc} {o : VObj} (hag : ∀ j, j < V.length → env' j = env j) (hnew : env' V.length = l)
    (hm : Mat env' w l o) (hsc : ScO (V.length + 1) o) (hb : hasB l o → l.blk < w.heap.size) (hlow : ownB l o → WI.n ≤ l.blk)
    (hap : ∀ (j : Nat) (oj : VObj), V[j]? = some oj → oj.live = true → hasB (env j) oj → hasB l o → (o.writes = true ∨ oj.writes = true) → l.blk ≠ (env j).blk) :
    RepW env' (V ++ [o]) w := by
  refine ⟨fun j oj hj => ?_, fun j oj hj => ?_, fun j oj hj hB => ?_, fun j k oj ok hj hk hjk hw hl hBj hBk => ?_, hW.inv, fun j oj hj ho => ?_, hW.room⟩
  · rcases get_app hj with ⟨hlt, hj'⟩ | ⟨rfl, rfl⟩
    · rw [hag j hlt]; exact (hW.mat j oj hj').keep (fun _ => rfl) (hW.sc j oj hj') hag
    · rw [hnew]; exact hm
  · rw [List.length_append, List.length_singleton]
    rcases get_app hj with ⟨hlt, hj'⟩ | ⟨rfl, rfl⟩
    · exact (hW.sc j oj hj').mono (by omega)
    · exact hsc
  · rcases get_app hj with ⟨hlt, hj'⟩ | ⟨rfl, rfl⟩
    · rw [hag j hlt] at hB ⊢; exact hW.blk j oj hj' hB
    · rw [hnew] at hB ⊢; exact hb hB
  · rcases get_app hj with ⟨hlt, hj'⟩ | ⟨rfl, rfl⟩
    · rcases get_app hk with ⟨hlk, hk'⟩ | ⟨rfl, rfl⟩
      · rw [hag j hlt] at hBj ⊢; rw [hag k hlk] at hBk ⊢; exact hW.sep j k oj ok hj' hk' hjk hw hl hBj hBk
      · rw [hag j hlt] at hBj ⊢; rw [hnew] at hBk ⊢; exact (hap j oj hj' (by cases oj <;> simp_all [VObj.writes, VObj.live]) hBj hBk (.inr hw)).symm
    · rcases get_app hk with ⟨hlk, hk'⟩ | ⟨rfl, rfl⟩
      · rw [hag k hlk] at hBk ⊢; rw [hnew] at hBj ⊢; exact hap k ok hk' hl hBk hBj (.inl hw)
      · exact absurd rfl hjk
  · rcases get_app hj with ⟨hlt, hj'⟩ | ⟨rfl, rfl⟩
    · rw [hag j hlt] at ho ⊢; exact hW.low j oj hj' ho
    · rw [hnew] at ho ⊢; exact hlow ho

/-- a row of real values becomes a hole -/
theorem RepW.holeR {env : Nat → Loc} {V : VW} {w : World} (hW : RepW env V w) {q : Nat} {t : TypeId} {m n cap : Nat} {f : Nat → List Value} (hq : V[q]? = some (.raw t m n cap f [])) {i : Nat} (hi : i < n) (c : List Value)
    (hc : c.map (ren env) = f i) (hcs : ∀ v ∈ c, Sc V.length v ∧ cellC v = true) : RepW env (V.set q (.raw t m n cap f [(i, c)])) w := by
  have hrow : ∀ r, rawRow env f [(i, c)] r = rawRow env f [] r := fun r => by
    by_cases h : r = i
    · subst h; rw [rawRow_one_at, hc]; rfl
    · rw [rawRow_one_ne _ _ h]; rfl
  have get : ∀ {j : Nat} {o : VObj}, (V.set q (.raw t m n cap f [(i, c)]))[j]? = some o → (j = q ∧ o = .raw t m n cap f [(i, c)]) ∨ (j ≠ q ∧ V[j]? = some o) := by
    intro j o h
    rcases setV_get h with ⟨h1, h2, _⟩ | h
    · exact .inl ⟨h1, h2⟩
    · exact .inr h
  refine ⟨fun j o hj => ?_, fun j o hj => ?_, fun j o hj hB => ?_, fun j k oj ok hj hk hjk hw hl hBj hBk => ?_, hW.inv, fun j o hj ho => ?_, hW.room⟩
  · rcases get hj with ⟨rfl, rfl⟩ | ⟨_, hj'⟩
    · obtain ⟨h0, h1, h2, h3⟩ := hW.mat _ _ hq
      refine ⟨fun x hx => by rw [List.mem_singleton] at hx; subst hx; exact hi, h1, fun r hr => ?_, h3⟩
      rw [hrow r]; exact h2 r hr
    · exact hW.mat j o hj'
  · rw [List.length_set]
    rcases get hj with ⟨rfl, rfl⟩ | ⟨_, hj'⟩
    · exact fun x hx => by rw [List.mem_singleton] at hx; subst hx; exact hcs
    · exact hW.sc j o hj'
  · rcases get hj with ⟨rfl, rfl⟩ | ⟨_, hj'⟩
    · exact hW.blk _ _ hq trivial
    · exact hW.blk j o hj' hB
  · rcases get hj with ⟨rfl, rfl⟩ | ⟨_, hj'⟩
    · rcases get hk with ⟨rfl, rfl⟩ | ⟨_, hk'⟩
      · exact absurd rfl hjk
      · exact hW.sep _ _ _ _ hq hk' hjk rfl hl trivial hBk
    · rcases get hk with ⟨rfl, rfl⟩ | ⟨_, hk'⟩
      · exact hW.sep _ _ _ _ hj' hq hjk hw rfl hBj trivial
      · exact hW.sep _ _ _ _ hj' hk' hjk hw hl hBj hBk
  · rcases get hj with ⟨rfl, rfl⟩ | ⟨_, hj'⟩
    · exact hW.low _ _ hq ⟨rfl, trivial⟩
    · exact hW.low j o hj' ho

/-! ### Families -/
/-- the slice of a member, as it really is -/
def memV (l : Loc) (n : Nat) : Value := ren (fun _ => l) (.slice (some ⟨0, 2, some 0⟩) n 0)

theorem memV_of (env : Nat → Loc) (p n c : Nat) : ren env (.slice (some ⟨p, 2, some 0⟩) n c) = memV (env p) n := by
  unfold memV
  rw [ren_slice2 env _ _ rfl, ren_slice2 _ _ _ rfl]
  rfl
theorem memV_of1 (env : Nat → Loc) {p n c o : Nat} (hc : (env p).cap ≠ 0) (h2 : o ≠ 2) (h3 : o ≠ 3) (h0 : o ≠ 0) (h6 : o ≠ 6 := by decide) : ren env (.slice (some ⟨p, o, some 0⟩) n c) = memV (env p) n := by
  unfold memV
  rw [ren_sliceK env _ _ h2 h3 h6, ren_slice2 _ _ _ rfl]
  cases hcc : (env p).cap with
  | zero => exact absurd hcc hc
  | succ k =>
    cases o with
    | zero => exact absurd rfl h0
    | succ o => simp [rcap, renA, hcc]
theorem memV_nil {l : Loc} (h : l.cap = 0) (n : Nat) : memV l n = .slice none n 0 := by
  unfold memV
  rw [ren_slice2 _ _ _ rfl]
  simp [h]
/-- the same, told by a place that is only read -/
def seenL (l : Loc) : Loc := match l.cap with | 0 => { l with cap := 0 } | k + 1 => { l with cap := k + 2 }
theorem memV_of3 (env : Nat → Loc) {p n c : Nat} {l : Loc} (h : env p = seenL l) : ren env (.slice (some ⟨p, 3, some 0⟩) n c) = memV l n := by
  unfold memV
  rw [ren_slice3 env _ _ rfl, ren_slice2 _ _ _ rfl, h]
  unfold seenL
  cases hcc : l.cap with
  | zero => simp
  | succ k => simp [renA, h, seenL, hcc]

structure Fam (G : Nat → Nat) (env : Nat → Loc) (V : VW) (w : World) (t : TypeId) (m n : Nat) (L : Nat → Loc) (N : Nat → Nat) (F : Nat → Nat → List Value) : Prop where
  mat : ∀ i, i < n → Mat env w (L i) (.vec t m (N i) (F i))
  plain : ∀ i, i < n → ∀ r, r < N i → (F i r).all plainC = true
  blk : ∀ i, i < n → (L i).cap ≠ 0 → (L i).blk < w.heap.size ∧ WI.n ≤ (L i).blk
  apart : ∀ i, i < n → (L i).cap ≠ 0 → ∀ (j : Nat) (o : VObj), V[j]? = some o → o.live = true → hasB (env j) o → (L i).blk ≠ (env j).blk
  sep : ∀ i j, i < n → j < n → G i ≠ G j → (L i).cap ≠ 0 → (L j).cap ≠ 0 → (L i).blk ≠ (L j).blk

theorem vec_mat {env env' : Nat → Loc} {w : World} {l : Loc} {t : TypeId} {m n : Nat} {f : Nat → List Value} (hp : ∀ r, r < n → (f r).all plainC = true) (h : Mat env w l (.vec t m n f)) : Mat env' w l (.vec t m n f) :=
  flatO.mat (o := .vec t m n f) hp h

theorem vec_keep {env : Nat → Loc} {w w' : World} {l : Loc} {t : TypeId} {m n : Nat} {f : Nat → List Value} (hk : l.cap ≠ 0 → w'.heap[l.blk]? = w.heap[l.blk]?) (hp : ∀ r, r < n → (f r).all plainC = true) (h : Mat env w l (.vec t m n f)) : Mat env w' l (.vec t m n f) :=
  h.keep (n := 0) hk (flatO.sc (o := .vec t m n f) hp) fun i hi => absurd hi (Nat.not_lt_zero i)

/-- a family, later -/
theorem Fam.later {G : Nat → Nat} {env env' : Nat → Loc} {V V' : VW} {w w' : World} {t : TypeId} {m n : Nat} {L : Nat → Loc} {N : Nat → Nat} {F : Nat → Nat → List Value} (h : Fam G env V w t m n L N F) (hF : Fr env V w env' V' w')
    (hnew : ∀ (j : Nat) (o : VObj), V'[j]? = some o → o.owned = false → V[j]? = some o ∨ o.live = false) : Fam G env' V' w' t m n L N F := by
  refine ⟨fun i hi => vec_mat (h.plain i hi) (vec_keep (fun hc => hF.keep _ (h.blk i hi hc).1 fun j o hj ho => (h.apart i hi hc j o hj (live_of_hasB ho.2) ho.2).symm) (h.plain i hi) (h.mat i hi)), h.plain, fun i hi hc => ?_, fun i hi hc j o hj hl hB => ?_, h.sep⟩
  · exact ⟨Nat.lt_of_lt_of_le (h.blk i hi hc).1 hF.size, (h.blk i hi hc).2⟩
  · cases ho : o.owned with
    | true =>
      rcases hF.own j o hj ⟨ho, hB⟩ with ⟨k, ok, hk, hok, he⟩ | hge
      · rw [← he]; exact h.apart i hi hc k ok hk (live_of_hasB hok.2) hok.2
      · have := (h.blk i hi hc).1; omega
    | false =>
      rcases hnew j o hj ho with hj0 | hd
      · have hlt := (List.getElem?_eq_some_iff.1 hj0).1
        rw [hF.agree j hlt] at hB ⊢
        exact h.apart i hi hc j o hj0 hl hB
      · rw [hd] at hl; cases hl

/-- the places that are not ours are those that there were -/
def tame : VW → VW → Prop → Prop
  | _, [], k => k
  | V, o :: os, k =>
    match o.owned with
    | true => tame V.tail os k
    | false => match o.live with | false => tame V.tail os k | true => V.head? = some o ∧ tame V.tail os k

theorem tame_ok : ∀ {V' V : VW} {k : Prop}, tame V V' k → k ∧ ∀ (j : Nat) (o : VObj), V'[j]? = some o → o.owned = false → V[j]? = some o ∨ o.live = false
  | [], V, k, h => ⟨h, fun j o hj => by simp at hj⟩
  | o :: os, V, k, h => by
    unfold tame at h
    have fin : tame V.tail os k → (o.owned = false → V.head? = some o ∨ o.live = false) → k ∧ ∀ (j : Nat) (o' : VObj), (o :: os)[j]? = some o' → o'.owned = false → V[j]? = some o' ∨ o'.live = false := by
      intro h1 h2
      obtain ⟨hk, hi⟩ := tame_ok h1
      refine ⟨hk, fun j o' hj ho => ?_⟩
      cases j with
      | zero =>
        simp at hj; subst hj
        rcases h2 ho with h | h
        · left; rw [← h]; cases V <;> rfl
        · exact .inr h
      | succ j =>
        rcases hi j o' (by simpa using hj) ho with h | h
        · left; rw [← h]; cases V <;> simp
        · exact .inr h
    split at h
    · rename_i ho; exact fin h fun h' => by rw [ho] at h'; cases h'
    · split at h
      · rename_i hl; exact fin h fun _ => .inr hl
      · exact fin h.2 fun _ => .inl h.1

/-- fewer places -/
theorem Fam.less {G : Nat → Nat} {env env' : Nat → Loc} {V V' : VW} {w : World} {t : TypeId} {m n : Nat} {L : Nat → Loc} {N : Nat → Nat} {F : Nat → Nat → List Value} (h : Fam G env V w t m n L N F)
    (hv : ∀ (j : Nat) (o : VObj), V'[j]? = some o → o.live = true → hasB (env' j) o → ∃ k ok, V[k]? = some ok ∧ ok.live = true ∧ hasB (env k) ok ∧ (env k).blk = (env' j).blk) : Fam G env' V' w t m n L N F :=
  ⟨fun i hi => vec_mat (h.plain i hi) (h.mat i hi), h.plain, h.blk, fun i hi hc j o hj hl hB => by
    obtain ⟨k, ok, h1, h2, h3, h4⟩ := hv j o hj hl hB
    rw [← h4]; exact h.apart i hi hc k ok h1 h2 h3, h.sep⟩

def updN {α : Type} (f : Nat → α) (n : Nat) (v : α) (i : Nat) : α := if i = n then v else f i

/-- a place goes into the family -/
theorem Fam.push {G : Nat → Nat} {env : Nat → Loc} {V : VW} {w : World} {t : TypeId} {m n : Nat} {L : Nat → Loc} {N : Nat → Nat} {F : Nat → Nat → List Value} (h : Fam G env V w t m n L N F) (hW : RepW env V w) {p k : Nat} {f : Nat → List Value}
    (hp : V[p]? = some (.vec t m k f)) (hf : ∀ r, r < k → (f r).all plainC = true) : Fam G env (V.set p .dead) w t m (n + 1) (updN L n (env p)) (updN N n k) (updN F n f) := by
  have hcases : ∀ i, i < n + 1 → (i < n ∧ updN L n (env p) i = L i ∧ updN N n k i = N i ∧ updN F n f i = F i) ∨ (i = n ∧ updN L n (env p) i = env p ∧ updN N n k i = k ∧ updN F n f i = f) := by
    intro i hi
    unfold updN
    by_cases hn : i = n
    · exact .inr ⟨hn, by rw [if_pos hn], by rw [if_pos hn], by rw [if_pos hn]⟩
    · exact .inl ⟨by omega, by rw [if_neg hn], by rw [if_neg hn], by rw [if_neg hn]⟩
  refine ⟨fun i hi => ?_, fun i hi r hr => ?_, fun i hi hc => ?_, fun i hi hc j o hj hl hB => ?_, fun i j hi hj hij hci hcj => ?_⟩
  · rcases hcases i hi with ⟨h1, h2, h3, h4⟩ | ⟨h1, h2, h3, h4⟩ <;> rw [h2, h3, h4]
    · exact h.mat i h1
    · exact hW.mat p _ hp
  · rcases hcases i hi with ⟨h1, h2, h3, h4⟩ | ⟨h1, h2, h3, h4⟩ <;> rw [h4] <;> rw [h3] at hr
    · exact h.plain i h1 r hr
    · exact hf r hr
  · rcases hcases i hi with ⟨h1, h2, h3, h4⟩ | ⟨h1, h2, h3, h4⟩ <;> rw [h2] at hc ⊢
    · exact h.blk i h1 hc
    · exact ⟨hW.blk p _ hp hc, hW.low p _ hp ⟨rfl, hc⟩⟩
  · rcases setV_get hj with ⟨rfl, rfl, _⟩ | ⟨hne, hj'⟩
    · cases hl
    · rcases hcases i hi with ⟨h1, h2, h3, h4⟩ | ⟨h1, h2, h3, h4⟩ <;> rw [h2] at hc ⊢
      · exact h.apart i h1 hc j o hj' hl hB
      · exact hW.sep p j _ o hp hj' (Ne.symm hne) rfl hl hc hB
  · rcases hcases i hi with ⟨h1, h2, h3, h4⟩ | ⟨h1, h2, h3, h4⟩ <;> rcases hcases j hj with ⟨g1, g2, g3, g4⟩ | ⟨g1, g2, g3, g4⟩ <;> rw [h2] at hci ⊢ <;> rw [g2] at hcj ⊢
    · exact h.sep i j h1 g1 hij hci hcj
    · exact h.apart i h1 hci p _ hp rfl hcj
    · exact (h.apart j g1 hcj p _ hp rfl hci).symm
    · exact absurd (by rw [h1, g1]) hij

/-- a member that is nil -/
theorem Fam.pushNil {G : Nat → Nat} {env : Nat → Loc} {V : VW} {w : World} {t : TypeId} {m n : Nat} {L : Nat → Loc} {N : Nat → Nat} {F : Nat → Nat → List Value} (h : Fam G env V w t m n L N F) (g : Nat → List Value) : Fam G env V w t m (n + 1) (updN L n ⟨0, 0, m, 0⟩) (updN N n 0) (updN F n g) := by
  have hcases : ∀ i, i < n + 1 → (i < n ∧ updN L n ⟨0, 0, m, 0⟩ i = L i ∧ updN N n 0 i = N i ∧ updN F n g i = F i) ∨ (i = n ∧ updN L n ⟨0, 0, m, 0⟩ i = ⟨0, 0, m, 0⟩ ∧ updN N n 0 i = 0 ∧ updN F n g i = g) := by
    intro i hi
    unfold updN
    by_cases hn : i = n
    · exact .inr ⟨hn, by rw [if_pos hn], by rw [if_pos hn], by rw [if_pos hn]⟩
    · exact .inl ⟨by omega, by rw [if_neg hn], by rw [if_neg hn], by rw [if_neg hn]⟩
  refine ⟨fun i hi => ?_, fun i hi r hr => ?_, fun i hi hc => ?_, fun i hi hc j o hj hl hB => ?_, fun i j hi hj hij hci hcj => ?_⟩
  · rcases hcases i hi with ⟨h1, h2, h3, h4⟩ | ⟨h1, h2, h3, h4⟩ <;> rw [h2, h3, h4]
    · exact h.mat i h1
    · exact ⟨rfl, fun _ => rfl, fun h => absurd rfl h⟩
  · rcases hcases i hi with ⟨h1, h2, h3, h4⟩ | ⟨h1, h2, h3, h4⟩ <;> rw [h3] at hr
    · rw [h4]; exact h.plain i h1 r hr
    · exact absurd hr (Nat.not_lt_zero r)
  · rcases hcases i hi with ⟨h1, h2, h3, h4⟩ | ⟨h1, h2, h3, h4⟩ <;> rw [h2] at hc ⊢
    · exact h.blk i h1 hc
    · exact absurd rfl hc
  · rcases hcases i hi with ⟨h1, h2, h3, h4⟩ | ⟨h1, h2, h3, h4⟩ <;> rw [h2] at hc ⊢
    · exact h.apart i h1 hc j o hj hl hB
    · exact absurd rfl hc
  · rcases hcases i hi with ⟨h1, h2, h3, h4⟩ | ⟨h1, h2, h3, h4⟩ <;> rcases hcases j hj with ⟨g1, g2, g3, g4⟩ | ⟨g1, g2, g3, g4⟩ <;> rw [h2] at hci ⊢ <;> rw [g2] at hcj ⊢
    · exact h.sep i j h1 g1 hij hci hcj
    · exact absurd rfl hcj
    · exact absurd rfl hci
    · exact absurd rfl hci

/-- another grouping -/
theorem Fam.regroup {G G' : Nat → Nat} {env : Nat → Loc} {V : VW} {w : World} {t : TypeId} {m n : Nat} {L : Nat → Loc} {N : Nat → Nat} {F : Nat → Nat → List Value} (h : Fam G env V w t m n L N F)
    (hG : ∀ i j, i < n → j < n → G' i ≠ G' j → G i ≠ G j) : Fam G' env V w t m n L N F :=
  ⟨h.mat, h.plain, h.blk, h.apart, fun i j hi hj hij => h.sep i j hi hj (hG i j hi hj hij)⟩

theorem updN_at {α : Type} (f : Nat → α) (n : Nat) (v : α) : updN f n v n = v := if_pos rfl
theorem updN_ne {α : Type} (f : Nat → α) {n i : Nat} (v : α) (h : i ≠ n) : updN f n v i = f i := if_neg h

/-- a member is set -/
theorem Fam.set {G : Nat → Nat} {env : Nat → Loc} {V : VW} {w : World} {t : TypeId} {m n : Nat} {L : Nat → Loc} {N : Nat → Nat} {F : Nat → Nat → List Value} (h : Fam G env V w t m n L N F) (n' i : Nat) (hn : ∀ j, j < n' → j ≠ i → j < n)
    {l : Loc} {k : Nat} {f : Nat → List Value} (hm : Mat env w l (.vec t m k f)) (hf : ∀ r, r < k → (f r).all plainC = true) (hb : l.cap ≠ 0 → l.blk < w.heap.size ∧ WI.n ≤ l.blk)
    (ha : l.cap ≠ 0 → ∀ (j : Nat) (o : VObj), V[j]? = some o → o.live = true → hasB (env j) o → l.blk ≠ (env j).blk)
    (hs : l.cap ≠ 0 → ∀ j, j < n → j ≠ i → G j ≠ G i → (L j).cap ≠ 0 → (L j).blk ≠ l.blk) : Fam G env V w t m n' (updN L i l) (updN N i k) (updN F i f) := by
  have hcases : ∀ j, j < n' → (j < n ∧ j ≠ i ∧ updN L i l j = L j ∧ updN N i k j = N j ∧ updN F i f j = F j) ∨ (j = i ∧ updN L i l j = l ∧ updN N i k j = k ∧ updN F i f j = f) := by
    intro j hj
    by_cases hji : j = i
    · subst hji; exact .inr ⟨rfl, updN_at _ _ _, updN_at _ _ _, updN_at _ _ _⟩
    · exact .inl ⟨hn j hj hji, hji, updN_ne _ _ hji, updN_ne _ _ hji, updN_ne _ _ hji⟩
  refine ⟨fun j hj => ?_, fun j hj r hr => ?_, fun j hj hc => ?_, fun j hj hc p o hp hl hB => ?_, fun j p hj hp hjp hcj hcp => ?_⟩
  · rcases hcases j hj with ⟨h1, _, h2, h3, h4⟩ | ⟨h1, h2, h3, h4⟩ <;> rw [h2, h3, h4]
    · exact h.mat j h1
    · exact hm
  · rcases hcases j hj with ⟨h1, _, h2, h3, h4⟩ | ⟨h1, h2, h3, h4⟩ <;> rw [h4] <;> rw [h3] at hr
    · exact h.plain j h1 r hr
    · exact hf r hr
  · rcases hcases j hj with ⟨h1, _, h2, h3, h4⟩ | ⟨h1, h2, h3, h4⟩ <;> rw [h2] at hc ⊢
    · exact h.blk j h1 hc
    · exact hb hc
  · rcases hcases j hj with ⟨h1, _, h2, h3, h4⟩ | ⟨h1, h2, h3, h4⟩ <;> rw [h2] at hc ⊢
    · exact h.apart j h1 hc p o hp hl hB
    · exact ha hc p o hp hl hB
  · rcases hcases j hj with ⟨h1, h1', h2, h3, h4⟩ | ⟨h1, h2, h3, h4⟩ <;> rcases hcases p hp with ⟨g1, g1', g2, g3, g4⟩ | ⟨g1, g2, g3, g4⟩ <;> rw [h2] at hcj ⊢ <;> rw [g2] at hcp ⊢
    · exact h.sep j p h1 g1 hjp hcj hcp
    · subst g1; exact hs hcp j h1 h1' hjp hcj
    · subst h1; exact (hs hcj p g1 g1' (Ne.symm hjp) hcp).symm
    · subst h1 g1; exact absurd rfl hjp

abbrev nilL (m : Nat) : Loc := ⟨0, 0, m, 0⟩

/-- a member is taken out: a place -/
theorem Fam.take {G : Nat → Nat} {env : Nat → Loc} {V : VW} {w : World} {t : TypeId} {m n : Nat} {L : Nat → Loc} {N : Nat → Nat} {F : Nat → Nat → List Value} (h : Fam G env V w t m n L N F) (hW : RepW env V w) {i : Nat} (hi : i < n)
    (hc : (L i).cap ≠ 0) (hG : ∀ j, j < n → j ≠ i → G j = G i → (L j).cap = 0) {env' : Nat → Loc} (hag : ∀ j, j < V.length → env' j = env j) (hnew : env' V.length = L i) :
    RepW env' (V ++ [.rows true t m (N i) (L i).cap (F i)]) w ∧ Fam G env' (V ++ [.rows true t m (N i) (L i).cap (F i)]) w t m n (updN L i (nilL m)) (updN N i 0) (updN F i fun _ => []) := by
  obtain ⟨m1, m2, m3⟩ := h.mat i hi
  obtain ⟨m4, m5, cs, m6, m7, m8⟩ := m3 hc
  have hpl := h.plain i hi
  have hm : Mat env' w (L i) (.rows true t m (N i) (L i).cap (F i)) :=
    ⟨m1, fun r hr => ⟨(m4 r hr).1, by rw [map_ren_plain env' (hpl r hr), ← map_ren_plain env (hpl r hr)]; exact (m4 r hr).2⟩, fun _ => ⟨m5, cs, m6, m7, m8, fun _ => rfl⟩⟩
  have hW' : RepW env' (V ++ [.rows true t m (N i) (L i).cap (F i)]) w :=
    hW.addP hag hnew hm (flatO.sc (o := .rows true t m (N i) (L i).cap (F i)) hpl) (fun _ => (h.blk i hi hc).1) (fun _ => (h.blk i hi hc).2)
      (fun j oj hj hl hB _ _ => h.apart i hi hc j oj hj hl hB)
  refine ⟨hW', ?_⟩
  have h0 : Fam G env V w t m n (updN L i (nilL m)) (updN N i 0) (updN F i fun _ => []) := by
    refine h.set n i (fun j hj _ => hj) ⟨rfl, fun _ => rfl, fun h => absurd rfl h⟩ (fun r hr => absurd hr (Nat.not_lt_zero r)) (fun h => absurd rfl h) (fun h => absurd rfl h) (fun h => absurd rfl h)
  refine ⟨fun j hj => vec_mat (h0.plain j hj) (h0.mat j hj), h0.plain, h0.blk, fun j hj hcj p o hp hl hB => ?_, h0.sep⟩
  rcases get_app hp with ⟨hlt, hp'⟩ | ⟨rfl, rfl⟩
  · rw [hag p hlt] at hB ⊢; exact h0.apart j hj hcj p o hp' hl hB
  · rw [hnew]
    have hji : j ≠ i := fun e => hcj (by rw [e, updN_at])
    rw [updN_ne _ _ hji] at hcj ⊢
    exact h.sep j i hj hi (fun e => hcj (hG j hj hji e)) hcj hc

theorem vec_of_rows {env : Nat → Loc} {w : World} {l : Loc} {t : TypeId} {m n k cap : Nat} {f : Nat → List Value} (hk : k ≤ n) (h : Mat env w l (.rows true t m n cap f)) : Mat env w l (.vec t m k f) := by
  obtain ⟨h1, h2, h3⟩ := h
  obtain ⟨h4, cs, h5, h6, h7, h8⟩ := h3 rfl
  exact ⟨h1, fun hc => by omega, fun _ => ⟨fun r hr => h2 r (by omega), h4, cs, h5, h6, by omega⟩⟩

/-- a place goes into the family as member i, with its first k rows -/
theorem Fam.put {G : Nat → Nat} {env : Nat → Loc} {V : VW} {w : World} {t : TypeId} {m n : Nat} {L : Nat → Loc} {N : Nat → Nat} {F : Nat → Nat → List Value} (h : Fam G env V w t m n L N F) (hW : RepW env V w) (n' i : Nat) (hn : ∀ j, j < n' → j ≠ i → j < n)
    {p k c cap : Nat} {f : Nat → List Value} (hp : V[p]? = some (.rows true t m c cap f)) (hk : k ≤ c) (hf : ∀ r, r < k → (f r).all plainC = true) :
    Fam G env (V.set p .dead) w t m n' (updN L i (env p)) (updN N i k) (updN F i f) := by
  have hlive : ∀ (j : Nat) (o : VObj), (V.set p .dead)[j]? = some o → o.live = true → j ≠ p ∧ V[j]? = some o := fun j o hj hl => by
    rcases setV_get hj with ⟨rfl, rfl, _⟩ | ⟨hne, hj'⟩
    · cases hl
    · exact ⟨hne, hj'⟩
  have h0 : Fam G env (V.set p .dead) w t m n L N F := h.less fun j o hj hl hB => ⟨j, o, (hlive j o hj hl).2, hl, hB, rfl⟩
  refine h0.set n' i hn (vec_of_rows hk (hW.mat p _ hp)) hf (fun _ => ⟨hW.blk p _ hp trivial, hW.low p _ hp ⟨rfl, trivial⟩⟩) (fun _ j o hj hl hB => ?_) (fun _ j hj _ _ hcj => h.apart j hj hcj p _ hp rfl trivial)
  obtain ⟨hne, hj'⟩ := hlive j o hj hl
  exact hW.sep p j _ o hp hj' (Ne.symm hne) rfl hl trivial hB

/-- the same place as two members of one group -/
theorem Fam.put2 {G : Nat → Nat} {env : Nat → Loc} {V : VW} {w : World} {t : TypeId} {m n : Nat} {L : Nat → Loc} {N : Nat → Nat} {F : Nat → Nat → List Value} (h : Fam G env V w t m n L N F) (hW : RepW env V w) {i : Nat} (hi : i < n) (hG : G i = G n)
    {p k c cap : Nat} {f : Nat → List Value} (hp : V[p]? = some (.rows true t m c cap f)) (hk : k ≤ c) (hf : ∀ r, r < c → (f r).all plainC = true) :
    Fam G env (V.set p .dead) w t m (n + 1) (updN (updN L i (env p)) n (env p)) (updN (updN N i k) n c) (updN (updN F i f) n f) := by
  have h1 := h.put hW n i (fun j hj _ => hj) hp hk (fun r hr => hf r (by omega))
  have hlive : ∀ (j : Nat) (o : VObj), (V.set p .dead)[j]? = some o → o.live = true → j ≠ p ∧ V[j]? = some o := fun j o hj hl => by
    rcases setV_get hj with ⟨rfl, rfl, _⟩ | ⟨hne, hj'⟩
    · cases hl
    · exact ⟨hne, hj'⟩
  refine h1.set (n + 1) n (fun j hj hne => by omega) (vec_of_rows (Nat.le_refl _) (hW.mat p _ hp)) hf (fun _ => ⟨hW.blk p _ hp trivial, hW.low p _ hp ⟨rfl, trivial⟩⟩) (fun _ j o hj hl hB => ?_) (fun _ j hj _ hg hcj => ?_)
  · obtain ⟨hne, hj'⟩ := hlive j o hj hl
    exact hW.sep p j _ o hp hj' (Ne.symm hne) rfl hl trivial hB
  · have hji : j ≠ i := fun e => hg (by rw [e, hG])
    rw [updN_ne _ _ hji] at hcj ⊢
    exact h.apart j hj hcj p _ hp rfl trivial

/-- a member, as a place that is only read -/
theorem arg_of_vec {env : Nat → Loc} {w : World} {l : Loc} {t : TypeId} {m n : Nat} {f : Nat → List Value} (hp : ∀ r, r < n → (f r).all plainC = true) (h : Mat env w l (.vec t m n f)) : Mat env w (seenL l) (.arg t m n f) := by
  obtain ⟨h1, h2, h3⟩ := h
  unfold seenL
  cases hc : l.cap with
  | zero =>
    have h0 := h2 hc
    subst h0
    exact ⟨fun _ => rfl, fun h => by simp at h, fun r hr => absurd hr (Nat.not_lt_zero r)⟩
  | succ k =>
    obtain ⟨h4, h5, cs, h6, h7, h8⟩ := h3 (by omega)
    refine ⟨fun h => absurd h (by simp), fun _ => ⟨h1, by simp; omega⟩, fun r hr => ⟨(h4 r hr).1, hp r hr, ?_⟩⟩
    have := (h4 r hr).2
    rw [map_ren_plain env (hp r hr)] at this
    exact this

/-! ### Places at the end that are given up; another name for a value -/
theorem RepW.drop {env : Nat → Loc} {V V2 : VW} {w : World} (hW : RepW env (V ++ V2) w) (ho : ∀ (i : Nat) (o : VObj), V[i]? = some o → ScO V.length o) : RepW env V w := by
  have get : ∀ {i : Nat} {o : VObj}, V[i]? = some o → (V ++ V2)[i]? = some o := fun {i o} h => by
    rw [List.getElem?_append_left (List.getElem?_eq_some_iff.1 h).1]; exact h
  exact ⟨fun i o h => hW.mat i o (get h), ho, fun i o h hB => hW.blk i o (get h) hB, fun i j oi oj hi hj => hW.sep i j oi oj (get hi) (get hj), hW.inv, fun i o h hB => hW.low i o (get h) hB, hW.room⟩

theorem Rep.drop {env : Nat → Loc} {tms : List Value} {V V2 : VW} {a : Act} {w : World} (hR : Rep env ⟨tms, V ++ V2⟩ a w) (ho : ∀ (i : Nat) (o : VObj), V[i]? = some o → ScO V.length o)
    (hs : tms.all (scB V.length 6) = true) : Rep env ⟨tms, V⟩ a w :=
  ⟨hR.mem.drop ho, hR.def_, hR.size, hR.tm, fun v hv => scB_ok 6 v (List.all_eq_true.1 hs v hv)⟩

/-- a value under another name -/
theorem Rep.rename {env : Nat → Loc} {tms : List Value} {V : VW} {a : Act} {w : World} (hR : Rep env ⟨tms, V⟩ a w) {t : Nat} {v v' : Value} (ht : tms[t]? = some v) (hu : v ≠ unk) (he : ren env v = ren env v') (hs : Sc V.length v') : Rep env ⟨tms.set t v', V⟩ a w := by
  refine ⟨hR.mem, hR.def_, by rw [List.length_set]; exact hR.size, fun i hi => ?_, fun x hx => ?_⟩
  · rw [List.length_set] at hi
    by_cases hit : i = t
    · subst hit
      have h1 := hR.tm i hi
      rw [nth_eq, List.getD_eq_getElem?_getD] at h1 ⊢
      show Rv env ((tms.set i v')[i]?.getD undef) _
      rw [List.getElem?_set_self hi]
      have h1 : Rv env (tms[i]?.getD undef) (a.tmps.getD i undef) := h1
      rw [ht] at h1
      rcases h1 with h1 | h1
      · exact absurd h1 hu
      · right; rw [h1]; exact he
    · have h1 := hR.tm i hi
      rw [nth_eq, List.getD_eq_getElem?_getD] at h1 ⊢
      show Rv env ((tms.set t v')[i]?.getD undef) _
      rw [List.getElem?_set_ne (Ne.symm hit)]
      exact h1
  · rcases List.mem_or_eq_of_mem_set hx with h | rfl
    · exact hR.sc x h
    · exact hs
end Go.X
