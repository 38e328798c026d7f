/- Loops and views: what is convenient in proofs over the symbolic run. -/
import Derived.Test.YtgnhcoefocbmpaaGreatXS8
set_option linter.unusedSimpArgs false
set_option linter.unusedSectionVars false
set_option linter.unusedVariables false
namespace Go.X
open Go
variable [WI]
variable {P : Program} {C : Ctx}

/-- the block of a number in a code -/
def blkAt (id : Nat) : Code → Option Code
  | .seq a b => match blkAt id a with | some c => some c | none => blkAt id b
  | .cond _ a b => match blkAt id a with | some c => some c | none => blkAt id b
  | .block i body => match Nat.beq i id with | true => some body | false => blkAt id body
  | .loop body => blkAt id body
  | .scope body => blkAt id body
  | _ => none

def unloop : Code → Code
  | .loop b => b
  | c => c

/-- the round of the loop in the block of that number -/
def roundOf (fn : Func) (id : Nat) : Code :=
  match fn.body with
  | some c => (match blkAt id c with | some b => unloop b | none => .skip)
  | none => .skip

def bodyOf (fn : Func) : Code := match fn.body with | some c => c | none => .skip

theorem BlksOK.list {c : Code} {l : List (Nat × Code)} (hl : blksOf C c = l) (h : ∀ x ∈ l, ∀ T, C.blk x.1 = some T → ∀ S K, T S K → Does P (.block x.1 x.2) S K) : BlksOK P C c :=
  fun id body T hm hT S K hTS => h (id, body) (hl ▸ hm) T hT S K hTS

theorem BlksOK.one {c : Code} {id : Nat} {body : Code} {T : VSt → (Exit → VSt → Prop) → Prop} (hl : blksOf C c = [(id, .loop body)]) (hT : C.blk id = some T)
    (h : ∀ S K, T S K → Does P (.block id (.loop body)) S K) : BlksOK P C c :=
  BlksOK.list hl fun x hx T' hT' S K hTS => by
    simp only [List.mem_singleton] at hx
    subst hx
    rw [hT] at hT'; cases hT'
    exact h S K hTS

theorem of_code (hC : CtxOK P C) {n : Nat} {c : Code} {S : VSt} {K : Exit → VSt → Prop} (hB : BlksOK P C c) (h : Hold (X P C n c S K)) : Does P c S K := X_ok hC n c S K hB h.out

theorem Does.weaken {c : Code} {S S' : VSt} {K : Exit → VSt → Prop} (h : Does P c S' K) (ht : leT S'.tmps S.tmps) (hv : S'.V = S.V) (hsc : ScS S') : Does P c S K := by
  intro env a w hR
  have hle : Le S' S := ⟨ht, by rw [hv]; exact (by
    have : ∀ V : VW, leV V V := by
      intro V
      induction V with
      | nil => trivial
      | cons o os ih => exact ⟨rfl, ih⟩
    exact this _)⟩
  have := h env a w (hR.le hle hsc)
  rw [hv] at this
  exact this

theorem ScS.of {S : VSt} (h : S.tmps.all (scB S.V.length 6) = true) (hV : ∀ (i : Nat) (o : VObj), S.V[i]? = some o → ScO S.V.length o) : ScS S :=
  ⟨fun v hv => scB_ok 6 v (List.all_eq_true.1 h v hv), hV⟩

theorem ScS.nil {l : List Value} (h : l.all (scB 0 6) = true) : ScS ⟨l, []⟩ := .of h fun i o h => by simp at h

/-- S'' says less than S', and no less of the memory than S does -/
def Less (S S'' S' : VSt) : Prop := Le S'' S' ∧ ScS S'' ∧ S.V.length ≤ S''.V.length

theorem Does.weakPost {c : Code} {S : VSt} {K : Exit → VSt → Prop} (h : Does P c S fun e S' => ∃ S'', Less S S'' S' ∧ K e S'') : Does P c S K :=
  fun env a w hR => wp_mono (h env a w hR) fun e a' w' ⟨hne, env', S', hF, hR', S'', ⟨hle, hsc, hl⟩, hK⟩ =>
    ⟨hne, env', S'', hF.le hle.2 hl, hR'.le hle hsc, hK⟩

theorem Does.weakPost' {c : Code} {S : VSt} {K : Exit → VSt → Prop} (h : Does P c S fun e S' => ∃ S'', Less S S'' S' ∧ K e S'') : Does P c S fun e S'' => K e S'' ∧ ScS S'' ∧ S.V.length ≤ S''.V.length :=
  Does.weakPost (h.mono fun e S' ⟨S'', h1, h2⟩ => ⟨S'', h1, h2, h1.2.1, h1.2.2⟩)

theorem leT_refl : ∀ (l : List Value), leT l l
  | [] => trivial
  | x :: xs => by
    unfold leT
    split
    · exact leT_refl xs
    · exact ⟨rfl, leT_refl xs⟩

theorem leV_refl : ∀ (V : VW), leV V V
  | [] => trivial
  | _ :: os => ⟨rfl, leV_refl os⟩

/-- what is asked of the end of a round -/
def roundK (id : Nat) (J : VSt → Prop) (μ : VSt → Nat) (K : Exit → VSt → Prop) (S : VSt) (e : Exit) (S' : VSt) : Prop :=
  match e with
  | .normal => ∃ S'', Less S S'' S' ∧ J S'' ∧ μ S'' < μ S
  | .exit i => match Nat.beq i id with | true => ∃ S'', Less S S'' S' ∧ K .normal S'' | false => ∃ S'', Less S S'' S' ∧ K (.exit i) S''
  | e => ∃ S'', Less S S'' S' ∧ K e S''

theorem Less.of (S : VSt) {S'' S' : VSt} (h1 : leT S''.tmps S'.tmps) (h2 : leV S''.V S'.V) (h3 : S''.tmps.all (scB S''.V.length 6) = true) (h4 : ∀ (i : Nat) (o : VObj), S''.V[i]? = some o → ScO S''.V.length o) (h5 : S.V.length ≤ S''.V.length) : Less S S'' S' :=
  ⟨⟨h1, h2⟩, .of h3 h4, h5⟩

theorem Less.nil {S : VSt} {l : List Value} {S' : VSt} (hS : S.V = []) (h1 : leT l S'.tmps) (h3 : l.all (scB 0 6) = true) : Less S ⟨l, []⟩ S' :=
  ⟨⟨h1, trivial⟩, .nil h3, by rw [hS]; exact Nat.le_refl _⟩

theorem Does.rounds {id : Nat} {body : Code} {K : Exit → VSt → Prop} (J : VSt → Prop) (μ : VSt → Nat)
    (round : ∀ S, J S → Does P body S (roundK id J μ K S)) : ∀ S, J S → Does P (.block id (.loop body)) S K := by
  intro S hJ
  refine Does.loop J μ (fun S hJ => ?_) S hJ
  have h := round S hJ
  have h2 : Does P body S fun e S' => ∃ S'', Less S S'' S' ∧ (match e with
      | .normal => J S'' ∧ μ S'' < μ S
      | .exit i => if i = id then K .normal S'' else K (.exit i) S''
      | e => K e S'') := h.mono fun e S' h => by
    cases e with
    | normal => obtain ⟨S'', h1, h2⟩ := h; exact ⟨S'', h1, h2⟩
    | exit i =>
      simp only [roundK] at h
      by_cases hi : i = id
      · subst hi; simp only [Nat.beq_refl] at h; obtain ⟨S'', h1, h2⟩ := h; exact ⟨S'', h1, by simp only [if_true]; exact h2⟩
      · rw [beq_ne hi] at h; obtain ⟨S'', h1, h2⟩ := h; exact ⟨S'', h1, by simp only [hi, if_false]; exact h2⟩
    | goto l => obtain ⟨S'', h1, h2⟩ := h; exact ⟨S'', h1, h2⟩
    | ret => obtain ⟨S'', h1, h2⟩ := h; exact ⟨S'', h1, h2⟩
    | panic c => obtain ⟨S'', h1, h2⟩ := h; exact ⟨S'', h1, h2⟩
    | outgrown => obtain ⟨S'', h1, h2⟩ := h; exact ⟨S'', h1, h2⟩
  refine (Does.weakPost' h2).mono fun e S' h => ?_
  obtain ⟨h, hsc, hl⟩ := h
  cases e with
  | normal => exact ⟨S', ⟨leT_refl _, leV_refl _⟩, hsc, hl, h⟩
  | exit i => exact h
  | goto l => exact h
  | ret => exact h
  | panic c => exact h
  | outgrown => exact h

/-! ### Functions that are handed a view of memory which they only read, and answer plain data -/
theorem FnOK.sub {f : FuncId} {g : List Value → VW → Res} (hc : Callable P f) (hn : ∀ args V p os v, g args V ≠ .new p os v)
    (h : ∀ args V v, Gives (g args V) v → ∃ (σ : Nat → Nat) (args' : List Value) (Vs : VW), args = args'.map (renB σ) ∧
      (∀ (i : Nat) (o : VObj), Vs[i]? = some o → flatO o ∧ ∃ o', V[σ i]? = some o' ∧ Weak o o') ∧ (∀ x ∈ args', Sc Vs.length x) ∧ plainR v = true ∧
      CallDoes P f args' Vs fun v' V' => v' = v ∧ leV Vs V') : FnOK P f g := by
  refine ⟨hc, fun env w V args os v hW hsc hg => ?_⟩
  obtain ⟨rfl, hg'⟩ : os = [] ∧ Gives (g args V) v := by
    rcases hg with h | ⟨p, h, _⟩
    · exact h
    · exact absurd h (hn _ _ _ _ _)
  obtain ⟨σ, args', Vs, rfl, hσ, hsc', hpl, hd⟩ := h args V v hg'
  have hren : ∀ σ, renB σ v = v := fun σ => by
    unfold plainR at hpl
    have hV : ∀ {v : Value}, plainV v = true → renB σ v = v := by
      intro v hv
      unfold plainV at hv
      split at hv
      · rename_i cs
        have : ∀ (l : List Value), l.all plainC = true → l.map (renB σ) = l := by
          intro l
          induction l with
          | nil => intro _; rfl
          | cons x xs ih =>
            intro hl
            simp only [List.all_cons, Bool.and_eq_true] at hl
            simp [renB_plain σ hl.1, ih hl.2]
        have e := renB_agg σ cs.toList
        rw [this _ hv] at e
        exact e
      · exact renB_plain σ hv
    split at hpl
    · rename_i vs
      have : ∀ (l : List Value), l.all plainV = true → l.map (renB σ) = l := by
        intro l
        induction l with
        | nil => intro _; rfl
        | cons x xs ih =>
          intro hl
          simp only [List.all_cons, Bool.and_eq_true] at hl
          simp [hV hl.1, ih hl.2]
      have e := renB_tuple σ vs.toList
      rw [this _ hpl] at e
      exact e
    · exact hV hpl
  have hd' : CallDoes P f args' Vs fun v' V' => leV Vs V' ∧ ∃ τ : Nat → Nat, v' = renB (fun i => if i < Vs.length then i else τ (i - Vs.length)) v ∧
      ∀ (j : Nat) (o : VObj), ([] : List VObj)[j]? = some o → Vs.length ≤ τ j ∧ V'[τ j]? = some o ∧ flatO o ∧ o.writes = true ∧ o.live = true ∧ ∀ k, k < ([] : List VObj).length → k ≠ j → τ k ≠ τ j := by
    intro env w hW hsc
    refine (hd env w hW hsc).mono ?_
    rintro e w' ⟨u, env', V', v', he, hrv, hW', hF, rfl, hle⟩
    exact ⟨u, env', V', v', he, hrv, hW', hF, hle, fun i => i, (hren _).symm, fun j o h => by simp at h⟩
  have := embed hσ hsc' hd' env w hW
  rw [hren] at this
  exact this

/-- a slice of a configuration that is handed on unread: its header and where it lies -/
structure Hd where
  len : Nat
  cap : Nat
  t : TypeId
  m : Nat

def Hd.o (h : Hd) : VObj := .rows false h.t h.m 0 0 fun _ => []
def Hd.v (h : Hd) (b : Nat) : Value := .slice (some ⟨b, 0, some 0⟩) h.len h.cap

/-- a slice's header, whatever lies behind it -/
def hdOf (V : VW) (v : Value) : Option (Nat × Hd) :=
  match v with
  | .slice (some ⟨b, 0, some 0⟩) l c =>
    match V[b]? with
    | some (.rows _ t m _ _ _) => some (b, ⟨l, c, t, m⟩)
    | _ => none
  | _ => none

theorem hdOf_ok {V : VW} {v : Value} {b : Nat} {h : Hd} (hh : hdOf V v = some (b, h)) : v = h.v b ∧ flatO h.o ∧ ∃ o', V[b]? = some o' ∧ Weak h.o o' := by
  unfold hdOf at hh
  split at hh
  · rename_i b' l c
    split at hh
    · rename_i own t m n cap f hV
      cases hh
      exact ⟨rfl, fun r hr => by omega, _, hV, t, m, 0, n, 0, cap, own, _, f, rfl, rfl, Nat.zero_le _, fun r hr => by omega⟩
    · cases hh
  · cases hh
end Go.X

namespace Go.X
open Go
variable [WI]
variable {P : Program}

def look (l : List (Nat × (List Value → VW → Res))) (f : Nat) : Option (List Value → VW → Res) :=
  match l with
  | [] => none
  | (k, g) :: r => match Nat.beq k f with | true => some g | false => look r f

/-- what is known of the functions that are called, as a list -/
def ctxL (l : List (Nat × (List Value → VW → Res))) : Ctx := ⟨false, look l, fun _ => none, fun _ => none, fun _ => none⟩
/-- and of one loop -/
def ctxB (l : List (Nat × (List Value → VW → Res))) (id : Nat) (T : VSt → (Exit → VSt → Prop) → Prop) : Ctx :=
  ⟨false, look l, fun _ => none, fun i => match Nat.beq i id with | true => some T | false => none, fun _ => none⟩

inductive AllOK (P : Program) : List (Nat × (List Value → VW → Res)) → Prop
  | nil : AllOK P []
  | cons {f g l} : FnOK P f g → AllOK P l → AllOK P ((f, g) :: l)

theorem AllOK.look {l : List (Nat × (List Value → VW → Res))} (h : AllOK P l) : ∀ f g, look l f = some g → FnOK P f g := by
  induction h with
  | nil => intro f g h; simp [X.look] at h
  | cons h1 _ ih =>
    intro f g h
    unfold X.look at h
    split at h
    · rename_i hb
      cases h
      have := Nat.eq_of_beq_eq_true hb
      subst this
      exact h1
    · exact ih f g h

theorem ctxL_ok {l : List (Nat × (List Value → VW → Res))} (h : AllOK P l) : CtxOK P (ctxL l) := ⟨h.look, (fun f T h => nomatch h), (fun f T h => nomatch h)⟩
theorem ctxB_ok {l : List (Nat × (List Value → VW → Res))} {id : Nat} {T : VSt → (Exit → VSt → Prop) → Prop} (h : AllOK P l) : CtxOK P (ctxB l id T) := ⟨h.look, (fun f T h => nomatch h), (fun f T h => nomatch h)⟩
theorem BlksOK.l {l : List (Nat × (List Value → VW → Res))} {c : Code} : BlksOK P (ctxL l) c := BlksOK.none fun _ => rfl
end Go.X
