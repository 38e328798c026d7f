/- What the symbolic run says of the real one: regions that draw their order. -/
import Derived.Test.YtgnhcoefocbmpaaGreatXS6
set_option linter.unusedSimpArgs false
set_option linter.unusedSectionVars false
set_option linter.unusedVariables false
namespace Go.X
open Go
variable [WI] [WD]
variable {P : Program} {C : Ctx}

theorem guardTmp_eq {all : List Oper} {j : Nat} {g : Tmp} (h : guardTmp all j = some g) : (all.toArray[j]?).bind (·.dst) = some g := by
  unfold guardTmp at h
  split at h
  · rename_i o ho; simp [ho, h]
  · cases h

theorem skipK_ok {env : Nat → Loc} {S : VSt} {a : Act} {w : World} {o : Oper} {k : VSt → Prop} (hR : Rep env S a w) (h : skipK S o k) :
    ∃ S', S'.V = S.V ∧ Rep env S' (a.put o.dst undef) w ∧ k S' := by
  unfold skipK at h
  exact hR.put' (.inr (ren_undef env).symm) .undef h

theorem tmp_bool {env : Nat → Loc} {S : VSt} {a : Act} {w : World} {g : Tmp} {b : Bool} (hR : Rep env S a w) (h : nth undef S.tmps g = .bool b) : a.tmps[g]? = some (.bool b) := by
  have hg : g < S.tmps.length := by
    rcases Nat.lt_or_ge g S.tmps.length with h' | h'
    · exact h'
    · rw [nth_eq] at h; simp [List.getD, List.getElem?_eq_none h', undef] at h
  have := hR.tm g hg
  rw [h] at this
  rcases this with h' | h'
  · simp [unk] at h'
  · simp only [ren_bool] at h'
    have hs : g < a.tmps.size := by rw [hR.size]; exact hg
    simp [Array.getD, hs] at h'
    simp [hs, h']


/-! ### The edges -/
inductive Reach (ops : Array Oper) : Nat → Nat → Prop
  | edge {i : Nat} {o : Oper} {e : Edge} : ops[i]? = some o → e ∈ o.after → Region.binds .any e = true → Reach ops i e.on
  | trans {i j k : Nat} : Reach ops i j → Reach ops j k → Reach ops i k

theorem maskOf_ok {ops : Array Oper} {acc : List Nat} {i : Nat} {o : Oper} (ho : ops[i]? = some o) (hacc : ∀ a j, (acc.getD a 0).testBit j = true → Reach ops a j) :
    ∀ j, (maskOf acc o).testBit j = true → Reach ops i j := by
  unfold maskOf
  have key : ∀ (l : List Edge) (s : Nat), (∀ e ∈ l, e ∈ o.after) → (∀ j, s.testBit j = true → Reach ops i j) →
      ∀ j, (l.foldl (fun s e => match Region.binds .any e with | true => s ||| (1 <<< e.on) ||| acc.getD e.on 0 | false => s) s).testBit j = true → Reach ops i j := by
    intro l
    induction l with
    | nil => intro s _ hs j hj; exact hs j hj
    | cons e l ih =>
      intro s hl hs
      simp only [List.foldl_cons]
      refine ih _ (fun e' he' => hl e' (by simp [he'])) ?_
      intro j hj
      cases hb : Region.binds .any e with
      | false => simp only [hb] at hj; exact hs j hj
      | true =>
        simp only [hb, Nat.testBit_or, Bool.or_eq_true] at hj
        have he : Reach ops i e.on := .edge ho (hl e (by simp)) hb
        rcases hj with (hj | hj) | hj
        · exact hs j hj
        · have : e.on = j := by
            rw [Nat.one_shiftLeft, Nat.testBit_two_pow] at hj
            simpa using hj
          exact this ▸ he
        · exact .trans he (hacc _ _ hj)
  exact key o.after.toList 0 (fun e he => by simpa using he) (fun j hj => by simp at hj)

theorem masks_ok {ops : Array Oper} : ∀ (l : List Oper) (acc : List Nat), (∀ j, l[j]? = ops[acc.length + j]?) → (∀ a j, (acc.getD a 0).testBit j = true → Reach ops a j) →
    ∀ a j, ((masks l acc).getD a 0).testBit j = true → Reach ops a j
  | [], acc, _, hacc => hacc
  | o :: os, acc, hl, hacc => by
    simp only [masks]
    refine masks_ok os _ (fun j => ?_) ?_
    · have := hl (j + 1)
      simpa [Nat.add_assoc, Nat.add_comm 1 j] using this
    · intro a j hj
      by_cases ha : a < acc.length
      · refine hacc a j ?_
        simpa [List.getD_eq_getElem?_getD, List.getElem?_append, ha] using hj
      · by_cases ha2 : a = acc.length
        · subst ha2
          refine maskOf_ok (by simpa using (hl 0).symm) hacc j ?_
          simpa [List.getD_eq_getElem?_getD, List.getElem?_append] using hj
        · exfalso
          have : (acc ++ [maskOf acc o])[a]? = none := List.getElem?_eq_none (by simp; omega)
          simp [List.getD_eq_getElem?_getD, this] at hj

theorem edgesOk_ok {ops : Array Oper} : ∀ (l : List Oper) (i : Nat), (∀ j, l[j]? = ops[i + j]?) → edgesOk l i = true →
    ∀ j o, i ≤ j → ops[j]? = some o → ∀ e ∈ o.after, Region.binds .any e = true → e.on < j
  | [], i, hl, _ => fun j o hij ho => by
    have := hl (j - i)
    rw [show i + (j - i) = j by omega, ho] at this
    simp at this
  | x :: xs, i, hl, h => fun j o hij ho e he hb => by
    simp only [edgesOk, Bool.and_eq_true] at h
    by_cases hj : j = i
    · subst hj
      have hx : ops[j]? = some x := by simpa using (hl 0).symm
      rw [hx] at ho; cases ho
      have := (List.all_eq_true.1 h.1) e (by simpa using he)
      simp only [hb, Bool.not_true, Bool.false_or, Nat.blt_eq] at this
      exact this
    · exact edgesOk_ok xs (i + 1) (fun j => by have := hl (j + 1); simpa [Nat.add_assoc, Nat.add_comm 1 j] using this) h.2 j o (by omega) ho e he hb

/-! ### The states between -/
def rdIn (nV : Nat) (e : TE) : Prop := match e.rd with | some none => False | some (some b) => b < nV | none => True

structure Tr (ops : Array Oper) (tr : List TE) (nT nV : Nat) : Prop where
  size : tr.length = ops.size
  edges : ∀ (j : Nat) (o : Oper), ops[j]? = some o → ∀ e ∈ o.after, Region.binds .any e = true → e.on < j
  dst : ∀ (i : Nat) (e : TE) t, tr[i]? = some e → e.dst = some t → t < nT
  stV : ∀ (i : Nat) (e : TE) (b : Nat) (o : VObj), tr[i]? = some e → e.st = some (b, o) → b < nV
  apart : ∀ (i j : Nat) (ei ej : TE) t, tr[i]? = some ei → tr[j]? = some ej → i ≠ j → ej.dst = some t → ei.dst ≠ some t
  looks : ∀ (i j : Nat) (o : Oper) (ei ej : TE) t, ops[i]? = some o → tr[i]? = some ei → tr[j]? = some ej → i ≠ j → ej.dst = some t → t ∈ o.looksAt ops → (j < i ∧ Reach ops i j) ∨ (i < j ∧ Reach ops j i)
  mem : ∀ (i j : Nat) (ei ej : TE) b o, tr[i]? = some ei → tr[j]? = some ej → i ≠ j → ej.st = some (b, o) → (ei.rd = some none ∨ ei.rd = some (some b)) → i < j ∧ Reach ops j i
  new : ∀ (i : Nat) (e : TE), tr[i]? = some e → (∀ (j : Nat) (ej : TE), tr[j]? = some ej → ej.nw ≠ [] → i = j ∨ (j < i ∧ Reach ops i j) ∨ (i < j ∧ Reach ops j i)) ∨
    (e.nw = [] ∧ rdIn nV e ∧ scB nV 6 e.v = true ∧ (∀ b t c, e.st = some (b, .cells t c) → c.all (scB nV 6) = true) ∧ ∀ b t m n cap f hs, e.st = some (b, .raw t m n cap f hs) → holesOk nV hs = true)

theorem rowOk_ok {ms : List Nat} {looks : List Tmp} {i : Nat} {ei : TE} : ∀ (l : List TE) (k : Nat), rowOk ms looks i ei l k = true → ∀ j ej, l[j]? = some ej → pairOk ms looks i ei (k + j) ej = true
  | [], k, _, j, ej, h => by simp at h
  | e :: es, k, h, j, ej, hj => by
    simp only [rowOk, Bool.and_eq_true] at h
    cases j with
    | zero => simp at hj; subst hj; exact h.1
    | succ j =>
      have := rowOk_ok es (k + 1) h.2 j ej (by simpa using hj)
      rwa [show k + (j + 1) = k + 1 + j by omega]

theorem rowsOk_ok {all : Array Oper} {ms : List Nat} {tr : List TE} : ∀ (os : List Oper) (es : List TE) (k : Nat), rowsOk all ms tr os es k = true →
    os.length = es.length ∧ ∀ i o e, os[i]? = some o → es[i]? = some e → rowOk ms (o.looksAt all) (k + i) e tr 0 = true
  | [], [], k, _ => ⟨rfl, fun i o e h => by simp at h⟩
  | o :: os, e :: es, k, h => by
    simp only [rowsOk, Bool.and_eq_true] at h
    obtain ⟨h1, h2⟩ := rowsOk_ok os es (k + 1) h.2
    refine ⟨by simp [h1], fun i o' e' ho he => ?_⟩
    cases i with
    | zero => simp at ho he; subst ho; subst he; exact h.1
    | succ i =>
      have := h2 i o' e' (by simpa using ho) (by simpa using he)
      rwa [show k + (i + 1) = k + 1 + i by omega]
  | [], _ :: _, _, h => by simp [rowsOk] at h
  | _ :: _, [], _, h => by simp [rowsOk] at h

theorem newsOk_ok {ms : List Nat} {nV : Nat} {all : List TE} : ∀ (l : List TE) (k : Nat), newsOk ms nV all l k = true → ∀ i e, l[i]? = some e → oldOk nV e = true ∨ ordsOk ms (k + i) all 0 = true
  | [], k, _, i, e, h => by simp at h
  | x :: xs, k, h, i, e, hi => by
    simp only [newsOk, Bool.and_eq_true] at h
    cases i with
    | zero =>
      simp at hi; subst hi
      have h1 := h.1
      split at h1
      · exact .inl ‹_›
      · exact .inr h1
    | succ i =>
      have := newsOk_ok xs (k + 1) h.2 i e (by simpa using hi)
      rwa [show k + (i + 1) = k + 1 + i by omega]

theorem ordsOk_ok {ms : List Nat} {i : Nat} : ∀ (l : List TE) (k : Nat), ordsOk ms i l k = true → ∀ j e, l[j]? = some e → ordOk ms i (k + j) e = true
  | [], k, _, j, e, h => by simp at h
  | x :: xs, k, h, j, e, hj => by
    simp only [ordsOk, Bool.and_eq_true] at h
    cases j with
    | zero => simp at hj; subst hj; exact h.1
    | succ j =>
      have := ordsOk_ok xs (k + 1) h.2 j e (by simpa using hj)
      rwa [show k + (j + 1) = k + 1 + j by omega]

theorem beq_ne {i j : Nat} (h : i ≠ j) : Nat.beq i j = false := by
  cases hb : Nat.beq i j with
  | false => rfl
  | true => exact absurd (Nat.eq_of_beq_eq_true hb) h

theorem Tr.of {nT nV : Nat} {ops : Array Oper} {tr : List TE} (h : dchk nT nV ops.toList tr = true) : Tr ops tr nT nV := by
  unfold dchk at h
  simp only [Bool.and_eq_true] at h
  obtain ⟨⟨⟨he, hd⟩, hr⟩, hn⟩ := h
  obtain ⟨hlen, hrows⟩ := rowsOk_ok _ _ _ hr
  have hms : ∀ a j, ((masks ops.toList []).getD a 0).testBit j = true → Reach ops a j := masks_ok ops.toList [] (by simp) (by simp)
  have pair : ∀ i j o ei ej, ops[i]? = some o → tr[i]? = some ei → tr[j]? = some ej → pairOk (masks ops.toList []) (o.looksAt ops) i ei j ej = true := by
    intro i j o ei ej ho hi hj
    have h1 := hrows i o ei (by simpa using ho) hi
    have h2 := rowOk_ok tr 0 h1 j ej hj
    simpa using h2
  have opOf : ∀ {i : Nat} {e : TE}, tr[i]? = some e → ∃ o, ops[i]? = some o := by
    intro i e hi
    have hlt := (List.getElem?_eq_some_iff.1 hi).1
    have : i < ops.size := by simp at hlen; omega
    exact ⟨ops[i], by simp [this]⟩
  refine ⟨by simpa using hlen.symm, edgesOk_ok ops.toList 0 (by simp) he |> fun h j o ho => h j o (Nat.zero_le _) ho, ?_, ?_, ?_, ?_, ?_, ?_⟩
  · intro i e t hi ht
    have := (List.all_eq_true.1 hd) e (List.mem_of_getElem? hi)
    simp only [ht, Bool.and_eq_true, Nat.blt_eq] at this
    exact this.1
  · intro i e b o hi hs
    have := (List.all_eq_true.1 hd) e (List.mem_of_getElem? hi)
    simp only [hs, Bool.and_eq_true, Nat.blt_eq] at this
    exact this.2
  · intro i j ei ej t hi hj hij ht
    obtain ⟨o, ho⟩ := opOf hi
    have := pair i j o ei ej ho hi hj
    unfold pairOk at this
    simp only [beq_ne hij, ht, Bool.and_eq_true, bne_iff_ne] at this
    exact this.1.1
  · intro i j o ei ej t ho hi hj hij ht hl
    have := pair i j o ei ej ho hi hj
    unfold pairOk at this
    simp only [beq_ne hij, ht, Bool.and_eq_true, Bool.or_eq_true, Bool.not_eq_true', Nat.blt_eq] at this
    rcases this.1.2 with (h1 | h1) | h1
    · exact absurd hl (by simpa using h1)
    · exact .inl ⟨h1.1, hms _ _ h1.2⟩
    · exact .inr ⟨h1.1, hms _ _ h1.2⟩
  · intro i j ei ej b ob hi hj hij hst hrd
    obtain ⟨o, ho⟩ := opOf hi
    have := pair i j o ei ej ho hi hj
    unfold pairOk at this
    simp only [beq_ne hij, hst, Bool.and_eq_true] at this
    have h2 := this.2
    rcases hrd with hrd | hrd
    · simp only [hrd, Bool.and_eq_true, Nat.blt_eq] at h2
      exact ⟨h2.1, hms _ _ h2.2⟩
    · simp only [hrd, Bool.or_eq_true, bne_iff_ne, ne_eq, not_true_eq_false, false_or, Bool.and_eq_true, Nat.blt_eq] at h2
      exact ⟨h2.1, hms _ _ h2.2⟩
  · intro i e hi
    split at hn
    · rename_i hall
      left
      intro j ej hj hne
      have := List.all_eq_true.1 hall ej (List.mem_of_getElem? hj)
      exact absurd (List.isEmpty_iff.1 this) hne
    · rcases newsOk_ok tr 0 hn i e hi with h1 | h1
      · right
        unfold oldOk at h1
        simp only [Bool.and_eq_true, List.isEmpty_iff] at h1
        obtain ⟨⟨⟨h1, h2⟩, h3⟩, h4⟩ := h1
        refine ⟨h1, ?_, h3, fun b t c hs => by simpa [hs] using h4, fun b t m n cap f l hs => by simpa [hs] using h4⟩
        unfold rdIn
        cases hrd : e.rd with
        | none => trivial
        | some r =>
          cases r with
          | none => simp [hrd] at h2
          | some b => simpa [hrd, Nat.blt_eq] using h2
      · left
        intro j ej hj hne
        have h2 := ordsOk_ok tr 0 h1 j ej hj
        rw [Nat.zero_add, Nat.zero_add] at h2
        unfold ordOk at h2
        split at h2
        · exact absurd (by assumption) hne
        · by_cases hij : i = j
          · exact .inl hij
          · rw [beq_ne hij] at h2
            simp only [Bool.or_eq_true, Bool.and_eq_true, Nat.blt_eq] at h2
            rcases h2 with h2 | h2
            · exact .inr (.inl ⟨h2.1, hms _ _ h2.2⟩)
            · exact .inr (.inr ⟨h2.1, hms _ _ h2.2⟩)

/-- the places that have been made, if the operations of L have been run -/
def newFrom : List TE → Nat → (Nat → Bool) → List VObj
  | [], _, _ => []
  | e :: es, k, L => (match L k with | true => e.nw | false => []) ++ newFrom es (k + 1) L

def newObjs (tr : List TE) (L : Nat → Bool) : List VObj := newFrom tr 0 L

theorem newFrom_congr {L L' : Nat → Bool} : ∀ (l : List TE) (k : Nat), (∀ (j : Nat) (e : TE), l[j]? = some e → e.nw ≠ [] → L (k + j) = L' (k + j)) → newFrom l k L = newFrom l k L'
  | [], _, _ => rfl
  | e :: es, k, h => by
    unfold newFrom
    have ih : newFrom es (k + 1) L = newFrom es (k + 1) L' := newFrom_congr es (k + 1) fun j e' hj hne => by have := h (j + 1) e' (by simpa using hj) hne; rwa [show k + 1 + j = k + (j + 1) by omega]
    rw [ih]
    congr 1
    by_cases hne : e.nw = []
    · cases L k <;> cases L' k <;> simp [hne]
    · have := h 0 e (by simp) hne
      simp only [Nat.add_zero] at this
      rw [this]

theorem newFrom_none {L : Nat → Bool} : ∀ (l : List TE) (k : Nat), (∀ (j : Nat) (e : TE), l[j]? = some e → e.nw ≠ [] → L (k + j) = false) → newFrom l k L = []
  | [], _, _ => rfl
  | e :: es, k, h => by
    unfold newFrom
    rw [newFrom_none es (k + 1) fun j e' hj hne => by have := h (j + 1) e' (by simpa using hj) hne; rwa [show k + 1 + j = k + (j + 1) by omega]]
    rw [List.append_nil]
    by_cases hne : e.nw = []
    · cases L k <;> simp [hne]
    · have := h 0 e (by simp) hne
      simp only [Nat.add_zero] at this
      rw [this]

theorem newObjs_congr' {tr : List TE} {L L' : Nat → Bool} (h : ∀ (j : Nat) (e : TE), tr[j]? = some e → e.nw ≠ [] → L j = L' j) : newObjs tr L = newObjs tr L' :=
  newFrom_congr tr 0 fun j e hj hne => by rw [Nat.zero_add]; exact h j e hj hne

theorem newFrom_of {L L' : Nat → Bool} {i : Nat} {e : TE} (hLi : L i = false) (hL : ∀ j, L' j = (L j || Nat.beq j i)) : ∀ (l : List TE) (k : Nat), k ≤ i → l[i - k]? = some e →
    (∀ (j : Nat) (ej : TE), i < k + j → l[j]? = some ej → ej.nw ≠ [] → L (k + j) = false) → newFrom l k L' = newFrom l k L ++ e.nw
  | [], k, hk, hi, _ => by simp at hi
  | x :: xs, k, hk, hi, ha => by
    unfold newFrom
    by_cases hki : k = i
    · subst hki
      simp at hi
      subst hi
      rw [hLi, hL, hLi, Nat.beq_refl]
      have h1 : newFrom xs (k + 1) L = [] := newFrom_none xs (k + 1) fun j ej hj hne => by
        have := ha (j + 1) ej (by omega) (by simpa using hj) hne
        rwa [show k + 1 + j = k + (j + 1) by omega]
      have h2 : newFrom xs (k + 1) L' = [] := newFrom_none xs (k + 1) fun j ej hj hne => by
        have := ha (j + 1) ej (by omega) (by simpa using hj) hne
        rw [hL, show k + 1 + j = k + (j + 1) by omega, this, beq_ne (by omega)]
        rfl
      rw [h1, h2]
      simp
    · have ih := newFrom_of hLi hL xs (k + 1) (by omega) (by rw [show i - k = (i - (k + 1)) + 1 by omega] at hi; simpa using hi) fun j ej hlt hj hne => by
        have := ha (j + 1) ej (by omega) (by simpa using hj) hne
        rwa [show k + 1 + j = k + (j + 1) by omega]
      rw [ih, hL, beq_ne hki, Bool.or_false, List.append_assoc]

/-- the state in which just the operations of L have been run -/
structure IsL (tr : List TE) (S0 : VSt) (L : Nat → Bool) (S : VSt) : Prop where
  lenT : S.tmps.length = S0.tmps.length
  lenV : S.V.length = S0.V.length + (newObjs tr L).length
  done : ∀ (j : Nat) (e : TE) t, tr[j]? = some e → L j = true → e.dst = some t → nth undef S.tmps t = e.v
  same : ∀ t, (∀ (j : Nat) (e : TE), tr[j]? = some e → L j = true → e.dst ≠ some t) → nth undef S.tmps t = nth undef S0.tmps t
  doneV : ∀ (j : Nat) (e : TE) (b : Nat) (o : VObj), tr[j]? = some e → L j = true → e.st = some (b, o) → S.V[b]? = some o
  sameV : ∀ (b : Nat), b < S0.V.length → (∀ (j : Nat) (e : TE) (o : VObj), tr[j]? = some e → L j = true → e.st ≠ some (b, o)) → S.V[b]? = S0.V[b]?
  newV : ∀ (b : Nat), S0.V.length ≤ b → S.V[b]? = (newObjs tr L)[b - S0.V.length]?

theorem nth_ext {l l' : List Value} (hl : l.length = l'.length) (h : ∀ t, nth undef l t = nth undef l' t) : l = l' := by
  apply List.ext_getElem?
  intro t
  by_cases ht : t < l.length
  · have := h t
    rw [nth_eq, nth_eq, List.getD_eq_getElem?_getD, List.getD_eq_getElem?_getD] at this
    rw [List.getElem?_eq_getElem ht, List.getElem?_eq_getElem (hl ▸ ht)] at this ⊢
    simpa using this
  · rw [List.getElem?_eq_none (Nat.le_of_not_lt ht), List.getElem?_eq_none (by omega)]

theorem IsL.unique {tr : List TE} {S0 S S' : VSt} {L : Nat → Bool} (h : IsL tr S0 L S) (h' : IsL tr S0 L S') : S = S' := by
  have ht : S.tmps = S'.tmps := nth_ext (h.lenT.trans h'.lenT.symm) fun t => by
    by_cases hx : ∃ j e, tr[j]? = some e ∧ L j = true ∧ e.dst = some t
    · obtain ⟨j, e, h1, h2, h3⟩ := hx
      rw [h.done j e t h1 h2 h3, h'.done j e t h1 h2 h3]
    · have : ∀ j e, tr[j]? = some e → L j = true → e.dst ≠ some t := fun j e h1 h2 h3 => hx ⟨j, e, h1, h2, h3⟩
      rw [h.same t this, h'.same t this]
  have hv : S.V = S'.V := List.ext_getElem? fun b => by
    by_cases hb : b < S0.V.length
    · by_cases hx : ∃ j e o, tr[j]? = some e ∧ L j = true ∧ e.st = some (b, o)
      · obtain ⟨j, e, o, h1, h2, h3⟩ := hx
        rw [h.doneV j e b o h1 h2 h3, h'.doneV j e b o h1 h2 h3]
      · have : ∀ (j : Nat) (e : TE) (o : VObj), tr[j]? = some e → L j = true → e.st ≠ some (b, o) := fun j e o h1 h2 h3 => hx ⟨j, e, o, h1, h2, h3⟩
        rw [h.sameV b hb this, h'.sameV b hb this]
    · rw [h.newV b (by omega), h'.newV b (by omega)]
  cases S; cases S'; simp_all

/-- an entry, done -/
def TE.apply (e : TE) (S : VSt) : VSt :=
  ⟨match e.dst with | some t => S.tmps.set t e.v | none => S.tmps, (match e.st with | some (b, o) => S.V.set b o | none => S.V) ++ e.nw⟩

theorem nth_set {l : List Value} {t t' : Nat} {v : Value} : nth undef (l.set t v) t' = if t = t' ∧ t < l.length then v else nth undef l t' := by
  rw [nth_eq, nth_eq, List.getD_eq_getElem?_getD, List.getD_eq_getElem?_getD, List.getElem?_set]
  by_cases h : t = t'
  · subst h
    by_cases h2 : t < l.length
    · simp [h2]
    · simp [h2, List.getElem?_eq_none (Nat.le_of_not_lt h2)]
  · simp [h]

theorem newObjs_of {tr : List TE} {i : Nat} {e : TE} (hi : tr[i]? = some e) {L L' : Nat → Bool} (hLi : L i = false) (hL : ∀ j, L' j = (L j || Nat.beq j i))
    (hafter : e.nw ≠ [] → ∀ (j : Nat) (ej : TE), i < j → tr[j]? = some ej → ej.nw ≠ [] → L j = false) : newObjs tr L' = newObjs tr L ++ e.nw := by
  by_cases hne : e.nw = []
  · rw [hne, List.append_nil]
    refine newObjs_congr' fun j ej hj hne' => ?_
    have hji : j ≠ i := by
      rintro rfl
      rw [hi] at hj; cases hj
      exact hne' hne
    rw [hL, beq_ne hji, Bool.or_false]
  · exact newFrom_of hLi hL tr 0 (Nat.zero_le _) (by simpa using hi) fun j ej hlt hj hne' => by
      rw [Nat.zero_add] at hlt ⊢
      exact hafter hne j ej hlt hj hne'

theorem IsL.step {ops : Array Oper} {tr : List TE} {S0 S : VSt} {L : Nat → Bool} (hT : Tr ops tr S0.tmps.length S0.V.length) (h : IsL tr S0 L S) {i : Nat} {e : TE} (hi : tr[i]? = some e) (hLi : L i = false)
    (hst : ∀ (j : Nat) (e : TE) (b : Nat) (o : VObj), tr[j]? = some e → e.st = some (b, o) → e.rd = some none ∨ e.rd = some (some b))
    (hafter : e.nw ≠ [] → ∀ (j : Nat) (ej : TE), i < j → tr[j]? = some ej → ej.nw ≠ [] → L j = false) {L' : Nat → Bool} (hL : ∀ j, L' j = (L j || Nat.beq j i)) : IsL tr S0 L' (e.apply S) := by
  have beqi : ∀ {j : Nat}, Nat.beq j i = true ↔ j = i := fun {j} => ⟨Nat.eq_of_beq_eq_true, fun h => by subst h; exact Nat.beq_refl _⟩
  have mem : ∀ j, L' j = true ↔ (L j = true ∨ j = i) := fun j => by rw [hL, Bool.or_eq_true, beqi]
  have hnew := newObjs_of hi hLi hL hafter
  -- the known memory, ahead of what is new
  have hV : ∀ b, b < S.V.length → (e.apply S).V[b]? = (match e.st with | some (b', o) => S.V.set b' o | none => S.V)[b]? := by
    intro b hb
    unfold TE.apply; dsimp only
    rw [List.getElem?_append_left]
    cases e.st <;> simp [hb]
  have hle : S0.V.length ≤ S.V.length := by rw [h.lenV]; omega
  refine ⟨?_, ?_, ?_, ?_, ?_, ?_, ?_⟩
  · unfold TE.apply; dsimp only; cases e.dst <;> simp [h.lenT]
  · rw [hnew, List.length_append, ← Nat.add_assoc, ← h.lenV]
    unfold TE.apply; dsimp only
    cases e.st <;> simp
  · intro j ej t hj hLj ht
    unfold TE.apply; dsimp only
    by_cases hji : j = i
    · subst hji
      rw [hi] at hj; cases hj
      rw [ht]
      dsimp only
      rw [nth_set, if_pos ⟨rfl, by rw [h.lenT]; exact hT.dst j e t hi ht⟩]
    · have hLj' : L j = true := ((mem j).1 hLj).resolve_right hji
      have hne := hT.apart i j e ej t hi hj (Ne.symm hji) ht
      cases hd : e.dst with
      | none => exact h.done j ej t hj hLj' ht
      | some t' =>
        dsimp only
        rw [nth_set, if_neg (fun hh => hne (by rw [hd, hh.1]))]
        exact h.done j ej t hj hLj' ht
  · intro t hno
    unfold TE.apply; dsimp only
    have hs := h.same t fun j ej hj hLj => hno j ej hj ((mem j).2 (.inl hLj))
    cases hd : e.dst with
    | none => exact hs
    | some t' =>
      dsimp only
      rw [nth_set, if_neg (fun hh => hno i e hi ((mem i).2 (.inr rfl)) (by rw [hd, hh.1]))]
      exact hs
  · intro j ej b o hj hLj hs
    have hb : b < S0.V.length := hT.stV j ej b o hj hs
    rw [hV b (by omega)]
    by_cases hji : j = i
    · subst hji
      rw [hi] at hj; cases hj
      rw [hs]
      dsimp only
      rw [List.getElem?_set, if_pos rfl, if_pos (by omega)]
    · have hLj' : L j = true := ((mem j).1 hLj).resolve_right hji
      cases hd : e.st with
      | none => exact h.doneV j ej b o hj hLj' hs
      | some x =>
        obtain ⟨b', o'⟩ := x
        dsimp only
        by_cases hbb : b' = b
        · exfalso
          subst hbb
          have h1 := hT.mem i j e ej b' o hi hj (Ne.symm hji) hs (hst i e b' o' hi hd)
          have h2 := hT.mem j i ej e b' o' hj hi hji hd (hst j ej b' o hj hs)
          omega
        · rw [List.getElem?_set, if_neg hbb]
          exact h.doneV j ej b o hj hLj' hs
  · intro b hb hno
    rw [hV b (by omega)]
    have hs := h.sameV b hb fun j ej o hj hLj => hno j ej o hj ((mem j).2 (.inl hLj))
    cases hd : e.st with
    | none => exact hs
    | some x =>
      obtain ⟨b', o'⟩ := x
      dsimp only
      rw [List.getElem?_set, if_neg (fun hh => hno i e o' hi ((mem i).2 (.inr rfl)) (by rw [hd, hh]))]
      exact hs
  · intro b hb
    rw [hnew]
    by_cases hbS : b < S.V.length
    · rw [hV b hbS, List.getElem?_append_left (by have := h.lenV; omega), ← h.newV b hb]
      cases hd : e.st with
      | none => rfl
      | some x =>
        obtain ⟨b', o'⟩ := x
        dsimp only
        rw [List.getElem?_set, if_neg (fun hh => by have := hT.stV i e b' o' hi hd; omega)]
    · have hlen : ((match e.st with | some (b', o) => S.V.set b' o | none => S.V)).length = S.V.length := by cases e.st <;> simp
      unfold TE.apply; dsimp only
      rw [List.getElem?_append_right (by rw [hlen]; omega), List.getElem?_append_right (by have := h.lenV; omega), hlen]
      congr 1
      have := h.lenV
      omega

/-! ### An operation sees only what it looks at -/
theorem evs_congr {S S' : VSt} {l : List Operand} (h : ∀ x ∈ l, ev S x = ev S' x) : l.map (ev S) = l.map (ev S') := List.map_congr_left h

theorem xop_congr {S S' : VSt} {o : Op} (hops : ∀ x ∈ o.operands, ev S x = ev S' x)
    (hmem : ∀ r, mrd S o = some r → match r with | none => S.V = S'.V | some b => S.V[b]? = S'.V[b]?) : xop P S o = xop P S' o ∧ mrd S o = mrd S' o := by
  cases o <;> simp only [Op.operands] at hops <;> first | exact ⟨rfl, rfl⟩ | skip
  case move x => simp [xop, mrd, hops x (by simp)]
  case assign x => simp [xop, mrd, hops x (by simp)]
  case pick c x y => simp [xop, mrd, hops c (by simp), hops x (by simp), hops y (by simp)]
  case box t x => simp [xop, mrd, hops x (by simp)]
  case build t parts =>
    have : (parts.toList.map fun (i, x) => (i, ev S x)) = parts.toList.map fun (i, x) => (i, ev S' x) := List.map_congr_left fun p hp => by
      obtain ⟨i, x⟩ := p
      simp only [hops x (by simp; exact ⟨i, by simpa using hp⟩)]
    simp [xop, mrd, this]
  case buildSlice t len parts =>
    have : (parts.toList.map fun (i, x) => (i, ev S x)) = parts.toList.map fun (i, x) => (i, ev S' x) := List.map_congr_left fun p hp => by
      obtain ⟨i, x⟩ := p
      simp only [hops x (by simp; exact ⟨i, by simpa using hp⟩)]
    simp [xop, mrd, this]
  case load t x =>
    have hx := hops x (by simp)
    refine ⟨?_, by simp [mrd, hx]⟩
    simp only [xop, hx]
    split
    · rename_i p hp
      have := hmem (some p.block) (by simp [mrd, hx, hp])
      simp only [xload]
      simp only at this
      rw [this]
    · rfl
  case store t x y =>
    have hx := hops x (by simp)
    have hy := hops y (by simp)
    refine ⟨?_, by simp [mrd, hx]⟩
    simp only [xop, hx, hy]
    split
    · rename_i p hp
      have := hmem (some p.block) (by simp [mrd, hx, hp])
      simp only [xstore]
      simp only at this
      rw [this]
    · rfl
  case nilCheck x => simp [xop, mrd, hops x (by simp)]
  case binOp op t x y yt => simp [xop, mrd, hops x (by simp), hops y (by simp)]
  case unOp op t x => cases op <;> simp [xop, mrd, hops x (by simp)]
  case convert s d x =>
    have hx := hops x (by simp)
    refine ⟨?_, by simp [mrd, hx]⟩
    simp only [xop, hx]
    split
    · rfl
    · rfl
    · rfl
    · rename_i e _ _
      unfold xtext
      split
      · rfl
      · rename_i ie a k c he hie hv
        have := hmem (some a.block) (by simp [mrd, hx, hv])
        simp only at this
        rw [this]
      · rfl
    · rfl
    · rfl
  case range t x => simp [xop, mrd, hops x (by simp)]
  case makeSlice t x y => simp [xop, mrd, hops x (by simp), hops y (by simp)]
  case next x b =>
    have hx := hops x (by simp)
    refine ⟨?_, by simp [mrd, hx]⟩
    simp only [xop, hx]
    split
    · rename_i p hp
      have := hmem (some p.block) (by simp [mrd, hx, hp])
      simp only at this
      rw [this]
    · rfl
  case makeInterface t x => simp [xop, mrd, hops x (by simp)]
  case makeFunc fn f c =>
    have h1 := evs_congr (S := S) (S' := S') (l := f.toList) (fun x hx => hops x (by simp; exact .inl (by simpa using hx)))
    have h2 := evs_congr (S := S) (S' := S') (l := c.toList) (fun x hx => hops x (by simp; exact .inr (by simpa using hx)))
    simp only [xop, mrd, h1, h2, and_self]
  case fieldAddr t x k => simp [xop, mrd, hops x (by simp)]
  case field t x k => simp [xop, mrd, hops x (by simp)]
  case indexAddr t x i =>
    have hx := hops x (by simp)
    have hi := hops i (by simp)
    refine ⟨?_, by simp [mrd, hx]⟩
    simp only [xop, hx, hi]
    unfold xindexAddr
    split
    · rename_i e p len c k n hu hv hix
      have := hmem (some p.block) (by simp [mrd, hx, hv])
      simp only at this
      rw [this]
    · rfl
    · rfl
  case index t x i => simp [xop, mrd, hops x (by simp), hops i (by simp)]
  case slice t x lo hi mx =>
    have hx := hops x (by simp)
    have hlo : lo.map (ev S) = lo.map (ev S') := by
      cases lo with
      | none => rfl
      | some l => simp [hops l (by simp)]
    have hhi : hi.map (ev S) = hi.map (ev S') := by
      cases hi with
      | none => rfl
      | some l => simp [hops l (by simp)]
    refine ⟨?_, by simp [mrd, hx]⟩
    cases mx with
    | some m => simp [xop]
    | none =>
      simp only [xop, hx, hlo, hhi]
      unfold xslice
      split
      · rfl
      · rfl
      · rename_i e p len c hu hv
        have := hmem (some p.block) (by simp [mrd, hx, hv])
        simp only at this
        rw [this]
      · rfl
  case extract t k => simp [xop, mrd, hops t (by simp)]
  case lookup t x k ok => exact ⟨rfl, by simp [mrd, hops x (by simp)]⟩
  case call c =>
    have hargs := evs_congr (S := S) (S' := S') (l := c.args.toList) (fun x hx => hops x (by simp [Call.operands]; exact .inr (by simpa using hx)))
    refine ⟨?_, by simp only [mrd, hargs]⟩
    cases hc : c.callee with
    | value x =>
      have hx := hops x (by simp [Call.operands, hc])
      simp only [xop, hc, hx, hargs]
    | invoke r m => simp only [xop, hc]
    | builtin b =>
      have he : ∀ x ∈ c.args.toList, ev S x = ev S' x := fun x hx => hops x (by simp [Call.operands]; exact .inr (by simpa using hx))
      simp only [xop, hc]
      unfold xbi
      split
      · rename_i x t ts ha _; rw [he x (by rw [ha]; simp)]
      · rename_i x t ts ha _; rw [he x (by rw [ha]; simp)]
      · rename_i x y ha; rw [he x (by rw [ha]; simp), he y (by rw [ha]; simp)]
      · rename_i x y ha; rw [he x (by rw [ha]; simp), he y (by rw [ha]; simp)]
      · rename_i x y t u ha _
        have := hmem none (by simp [mrd, hc])
        simp only at this
        rw [he x (by rw [ha]; simp), he y (by rw [ha]; simp), this]
      · rename_i x y t u ha _
        have := hmem none (by simp [mrd, hc])
        simp only at this
        rw [he x (by rw [ha]; simp), he y (by rw [ha]; simp), this]
      · rfl

theorem mapAt_congr {S S' : VSt} {v : Value} (h : ∀ r, v = .map (some r) → S.V[r]? = S'.V[r]?) : mapAt S.V v = mapAt S'.V v := by
  unfold mapAt
  split
  · rfl
  · rename_i r; rw [h r rfl]
  · rfl

theorem qAt_congr {S S' : VSt} {x : Value} (h : ∀ r, x = .map (some r) → S.V[r]? = S'.V[r]?) : qAt S.V x = qAt S'.V x := by
  unfold qAt
  split
  · rename_i r; rw [h r rfl]
  · rfl

theorem xmapOp_congr {S S' : VSt} {o : Op} (hops : ∀ x ∈ o.operands, ev S x = ev S' x)
    (hmem : ∀ r, mrd S o = some r → match r with | none => S.V = S'.V | some b => S.V[b]? = S'.V[b]?) : xmapOp P S o = xmapOp P S' o := by
  cases o <;> simp only [Op.operands] at hops <;> first | rfl | skip
  case makeMap t r =>
    cases r with
    | none => rfl
    | some x => simp only [xmapOp, hops x (by simp)]
  case lookup t x k ok =>
    have hx := hops x (by simp)
    simp only [xmapOp, hx, hops k (by simp)]
    unfold xlookup xlookup0
    rw [mapAt_congr (S := S) (S' := S') fun r hr => by have := hmem (some r) (by simp [mrd, hx, hr]); exact this,
      qAt_congr (S := S) (S' := S') fun r hr => by have := hmem (some r) (by simp [mrd, hx, hr]); exact this]
  case mapUpdate t x k v =>
    have := hmem none (by simp [mrd]); dsimp only at this
    simp only [xmapOp, hops x (by simp), hops k (by simp), hops v (by simp), this]
  case insert t x k v =>
    have := hmem none (by simp [mrd]); dsimp only at this
    simp only [xmapOp, hops x (by simp), hops k (by simp), hops v (by simp), this]
  case mapEntry t x k =>
    have := hmem none (by simp [mrd]); dsimp only at this
    simp only [xmapOp, hops x (by simp), hops k (by simp), this]
  case entryStore t x s v =>
    have := hmem none (by simp [mrd]); dsimp only at this
    simp only [xmapOp, hops x (by simp), hops s (by simp), hops v (by simp), this]
  case typeAssert x xt t ok => simp only [xmapOp, hops x (by simp)]
  case slice t x lo hi mx => simp only [xmapOp, hops x (by simp)]
  case call c =>
    have hargs := evs_congr (S := S) (S' := S') (l := c.args.toList) (fun x hx => hops x (by simp [Call.operands]; exact .inr (by simpa using hx)))
    have he : ∀ x ∈ c.args.toList, ev S x = ev S' x := fun x hx => hops x (by simp [Call.operands]; exact .inr (by simpa using hx))
    unfold xmapOp
    dsimp only
    split
    · rename_i hc
      split
      · rename_i x t ts ha _
        rw [he x (by rw [ha]; simp)]
        unfold xmlen
        rw [mapAt_congr (S := S) (S' := S') fun r hr => by have := hmem (some r) (by simp [mrd, hc, ha, he x (by rw [ha]; simp), hr]); exact this]
      · rfl
    · rename_i hc
      split
      · rename_i x y t u ha _
        have := hmem none (by simp [mrd, hc])
        simp only at this
        rw [he x (by rw [ha]; simp), he y (by rw [ha]; simp), this]
      · rfl
    · rename_i x name hc
      have hx := hops x (by simp [Call.operands, hc])
      simp only [hx, hargs]
    · rfl

theorem plain_builtin {S : VSt} {c : Call} {b : Builtin} (hc : c.callee = .builtin b) : (xop P S (.call c)).mostly = true := by
  simp only [xop, hc]
  exact bi_mostly b c

theorem xval_congr {S S' : VSt} {o : Op} (hops : ∀ x ∈ o.operands, ev S x = ev S' x)
    (hmem : ∀ r, mrd S o = some r → match r with | none => S.V = S'.V | some b => S.V[b]? = S'.V[b]?) : xval P C S o = xval P C S' o ∧ mrd S o = mrd S' o := by
  obtain ⟨h1, h2⟩ := xop_congr (P := P) hops hmem
  refine ⟨?_, h2⟩
  unfold xval
  rw [h1]
  cases hx : xop P S' o with
  | bad =>
    simp only []
    unfold xvalM
    rw [xmapOp_congr (P := P) hops hmem]
    cases hm : xmapOp P S' o with
    | call f args =>
      simp only []
      obtain ⟨c, x, name, t, v, rfl, hc, _⟩ := mapOp_call hm
      have := hmem none (by simp [mrd, hc])
      simp only at this
      rw [this]
    | _ => rfl
  | call f args =>
    simp only []
    -- a call of a function: all the memory is the same
    have hk := xop_kind (P := P) (S := S) (o := o) (by rw [h1, hx]; rfl)
    rcases hk with ⟨_, _, _, _, hbs⟩ | ⟨t, rfl⟩ | ⟨t, x, rfl⟩ | ⟨t, x, v, p, rfl, hp, he⟩ | ⟨c, rfl⟩
    · exfalso; rcases alr_or_bad hbs with ⟨_, _, _, e⟩ | e <;> (rw [← h1, e] at hx; cases hx)
    · rw [← h1] at hx; simp only [xop] at hx; (repeat' split at hx) <;> cases hx
    · rw [← h1] at hx; simp only [xop] at hx; (repeat' split at hx) <;> cases hx
    · rw [← h1, he] at hx
      rcases xstore_kind (P := P) (V := S.V) (t := t) (p := p) (v := ev S v) with ⟨_, _, _, he', _⟩ | ⟨_, _, _, _, he', _⟩ | he' <;> (rw [he'] at hx; cases hx)
    · have hcal : ∃ x, c.callee = .value x := by
        cases hc : c.callee with
        | value x => exact ⟨x, rfl⟩
        | invoke r m => exfalso; simp only [xop, hc] at hx; cases hx
        | builtin b => exfalso; have := plain_builtin (P := P) (S := S') hc; rw [hx] at this; cases this
      obtain ⟨x, hc⟩ := hcal
      have := hmem none (by simp [mrd, hc])
      simp only at this
      rw [this]
  | _ => rfl

theorem xraw_congr {S S' : VSt} {o : Op} (hops : ∀ x ∈ o.operands, ev S x = ev S' x)
    (hmem : ∀ r, mrd S o = some r → match r with | none => S.V = S'.V | some b => S.V[b]? = S'.V[b]?) : xraw P S o = xraw P S' o := by
  cases o <;> simp only [Op.operands] at hops <;> first | rfl | skip
  case buildSlice t len parts =>
    have : (parts.toList.map fun (i, x) => (i, ev S x)) = parts.toList.map fun (i, x) => (i, ev S' x) := List.map_congr_left fun p hp => by
      obtain ⟨i, x⟩ := p
      simp only [hops x (by simp; exact ⟨i, by simpa using hp⟩)]
    simp [xraw, this]
  case store t x y =>
    have hx := hops x (by simp)
    have hy := hops y (by simp)
    simp only [xraw, hx, hy]
    split
    · rename_i p hp
      have := hmem (some p.block) (by simp [mrd, hx, hp])
      simp only [xstoreR]
      simp only at this
      rw [this]
    · rfl
  case call c =>
    have he : ∀ x ∈ c.args.toList, ev S x = ev S' x := fun x hx => hops x (by simp [Call.operands]; exact .inr (by simpa using hx))
    unfold xraw
    dsimp only
    split
    · rename_i hc
      split
      · rename_i x y t u ha _
        have := hmem none (by simp [mrd, hc])
        simp only at this
        rw [he x (by rw [ha]; simp), he y (by rw [ha]; simp), this]
      · rfl
    · rfl

theorem xop_call_congr {S S' : VSt} {o : Op} (hops : ∀ x ∈ o.operands, ev S x = ev S' x) {f : FuncId} {args : List Value} (hx : xop P S o = .call f args) : xop P S' o = .call f args := by
  have hk := xop_kind (P := P) (S := S) (o := o) (by rw [hx]; rfl)
  rcases hk with ⟨_, _, _, _, hbs⟩ | ⟨t, rfl⟩ | ⟨t, x, rfl⟩ | ⟨t, x, v, p, rfl, hp, he⟩ | ⟨c, rfl⟩
  · exfalso; rcases alr_or_bad hbs with ⟨_, _, _, e⟩ | e <;> (rw [e] at hx; cases hx)
  · simp only [xop] at hx; (repeat' split at hx) <;> cases hx
  · simp only [xop] at hx; (repeat' split at hx) <;> cases hx
  · rw [he] at hx
    rcases xstore_kind (P := P) (V := S.V) (t := t) (p := p) (v := ev S v) with ⟨_, _, _, he', _⟩ | ⟨_, _, _, _, he', _⟩ | he' <;> (rw [he'] at hx; cases hx)
  · have hcal : ∃ x, c.callee = .value x := by
      cases hc : c.callee with
      | value x => exact ⟨x, rfl⟩
      | invoke r m => exfalso; simp only [xop, hc] at hx; cases hx
      | builtin b => exfalso; have := plain_builtin (P := P) (S := S) hc; rw [hx] at this; cases this
    obtain ⟨x, hc⟩ := hcal
    simp only [Op.operands] at hops
    have h1 := hops x (by simp [Call.operands, hc])
    have h2 : c.args.toList.map (ev S) = c.args.toList.map (ev S') := evs_congr fun x hx => hops x (by simp [Call.operands]; exact .inr (by simpa using hx))
    simp only [xop, hc, h1, h2] at hx ⊢
    exact hx

/-! ### The run in the text's order, as a path -/
def Wants (all : List Oper) (S : VSt) (o : Oper) : Prop :=
  o.guard = none ∨ ∃ j want g, o.guard = some (j, want) ∧ guardTmp all j = some g ∧ nth undef S.tmps g = .bool want
def Skips (all : List Oper) (S : VSt) (o : Oper) : Prop :=
  ∃ j want g, o.guard = some (j, want) ∧ guardTmp all j = some g ∧ (nth undef S.tmps g = .bool (!want) ∨ nth undef S.tmps g = undef)
def RunsR (P : Program) (S : VSt) (o : Oper) (e : TE) : Prop :=
  (∃ p i r c own t m n cap f, xop P S o.op = .sob p i r c ∧ p ∧ o.dst = none ∧ S.V[i]? = some (.rows own t m n cap f) ∧ (∀ x ∈ c, Sc 0 x ∧ cellC x = true) ∧ e = ⟨none, undef, some (i, .rows own t m n cap fun j => if j = r then c else f j), mrd S o.op, []⟩) ∨
  (∃ p i ob, xraw P S o.op = .sto p i ob ∧ p ∧ o.dst = none ∧ ScO S.V.length ob ∧ e = ⟨none, undef, some (i, ob), mrd S o.op, []⟩) ∨
  (∃ ob n, xraw P S o.op = .bld ob n ∧ ScO S.V.length ob ∧ e = ⟨o.dst, .slice (some ⟨S.V.length, 0, some 0⟩) n n, none, mrd S o.op, [ob]⟩) ∨
  (∃ p i ob n, xraw P S o.op = .app p i ob n ∧ p ∧ ScO S.V.length ob ∧ e = ⟨o.dst, .slice (some ⟨S.V.length, 1, some 0⟩) n 0, i.map fun i => (i, .dead), mrd S o.op, [ob]⟩)
def Runs (P : Program) (C : Ctx) (S : VSt) (o : Oper) (e : TE) : Prop :=
  (∃ v, Gives (xval P C S o.op) v ∧ Sc S.V.length v ∧ e = ⟨o.dst, v, none, mrd S o.op, []⟩) ∨
  (∃ i t c, xval P C S o.op = .sto i t c ∧ o.dst = none ∧ (∀ x ∈ c, Sc S.V.length x) ∧ e = ⟨none, undef, some (i, .cells t c), mrd S o.op, []⟩) ∨
  (∃ t c, xval P C S o.op = .alc t c ∧ (∀ x ∈ c, Sc S.V.length x) ∧ e = ⟨o.dst, .pointer (some ⟨S.V.length, 0, none⟩), none, mrd S o.op, [.cells t c]⟩) ∨
  (∃ p os v, xval P C S o.op = .new p os v ∧ p ∧ Sc (S.V ++ os).length v ∧ e = ⟨o.dst, v, none, mrd S o.op, os⟩) ∨
  (∃ t m rows, xval P C S o.op = .alr t m rows ∧ (∀ x ∈ rows, ∀ v ∈ x, Sc 0 v ∧ cellC v = true) ∧ e = ⟨o.dst, .slice (some ⟨S.V.length, 0, some 0⟩) rows.length rows.length, none, mrd S o.op, [rowsObj t m rows]⟩) ∨
  (∃ p i ob v, xval P C S o.op = .grow p i ob v ∧ p ∧ Sc (S.V.length + 1) (v S.V.length) ∧ e = ⟨o.dst, v S.V.length, i.map fun i => (i, .dead), mrd S o.op, [ob]⟩) ∨
  (∃ p i ob v, xval P C S o.op = .cpy p i ob v ∧ p ∧ Sc S.V.length v ∧ e = ⟨o.dst, v, some (i, ob), mrd S o.op, []⟩) ∨
  (∃ f args g v, xop P S o.op = .call f args ∧ C.fn f = some g ∧ Gives (g args []) v ∧ (∀ x ∈ args, Sc 0 x) ∧ Sc 0 v ∧ e = ⟨o.dst, v, none, none, []⟩) ∨ RunsR P S o e
def EStep (P : Program) (C : Ctx) (all : List Oper) (S : VSt) (o : Oper) (e : TE) : Prop :=
  (Wants all S o ∧ Runs P C S o e) ∨ (Skips all S o ∧ e = ⟨o.dst, undef, none, none, []⟩)

def Path (P : Program) (C : Ctx) (all : List Oper) : List Oper → VSt → List TE → VSt → Prop
  | [], S, es, Sn => es = [] ∧ Sn = S
  | o :: os, S, es, Sn => ∃ e es', es = e :: es' ∧ EStep P C all S o e ∧ Path P C all os (e.apply S) es' Sn

theorem set_self {l : List Value} {g : Nat} {v : Value} (h : nth undef l g = v) : l.set g v = l := by
  apply List.ext_getElem?
  intro j
  rw [List.getElem?_set]
  split
  · rename_i hj; subst hj
    split
    · rename_i hg
      rw [nth_eq, List.getD_eq_getElem?_getD, List.getElem?_eq_getElem hg] at h
      rw [List.getElem?_eq_getElem hg]
      simpa using h.symm
    · rename_i hg; rw [List.getElem?_eq_none (Nat.le_of_not_lt hg)]
  · rfl

theorem drawOne1_ok {S : VSt} {o : Oper} {k : VSt → TE → Prop} (h : drawOne1 P C S o k) : ∃ e, Runs P C S o e ∧ k (e.apply S) e := by
  have hval : ∀ v, Gives (xval P C S o.op) v → (norm C.cl S.V.length v fun v' => putK C.cl S o.dst v' fun S' => k S' ⟨o.dst, v', none, mrd S o.op, []⟩) → ∃ e, Runs P C S o e ∧ k (e.apply S) e := by
    intro v hg hn
    obtain ⟨hs, hn⟩ := norm_spec hn
    obtain ⟨_, hn⟩ := norm_spec hn
    refine ⟨⟨o.dst, v, none, mrd S o.op, []⟩, .inl ⟨v, hg, hs, rfl⟩, ?_⟩
    unfold TE.apply
    cases hd : o.dst with
    | none => simp only [hd, List.append_nil] at hn ⊢; exact hn
    | some d => simp only [hd, setK_eq, List.append_nil] at hn ⊢; exact hn
  unfold drawOne1 at h
  split at h
  · rename_i v hx; exact hval v (.inl hx) h
  · rename_i p v hx
    have h := andC_ok (fun hb => (by
      rw [Bool.and_eq_true] at hb
      have h1 := seen_ok hb.1
      have h2 := hb.2
      unfold notM at h2
      split at h2
      · rename_i p' v' hxx
        have h3 : xval P C S o.op = .ob p' v' := by unfold xval; rw [hxx]
        rw [hx] at h3
        cases h3
        rw [hxx] at h1
        exact h1
      · cases h2)) h
    exact hval v (.inr ⟨p, hx, h.1⟩) h.2
  · rename_i i t c hx
    unfold nodst at h
    split at h
    · rename_i hd
      obtain ⟨hs, h⟩ := normL_spec (normV_spec C.cl S.V.length 6) _ _ h
      rw [setK_eq] at h
      exact ⟨_, .inr (.inl ⟨i, t, c, hx, hd, hs, rfl⟩), by unfold TE.apply; simp only [List.append_nil]; exact h⟩
    · exact h.elim
  · rename_i t c hx
    obtain ⟨hs, h⟩ := normL_spec (normV_spec C.cl S.V.length 6) _ _ h
    rw [appK_eq] at h
    obtain ⟨_, h⟩ := norm_spec h
    refine ⟨_, .inr (.inr (.inl ⟨t, c, hx, hs, rfl⟩)), ?_⟩
    unfold TE.apply
    cases hd : o.dst with
    | none => simp only [hd] at h ⊢; exact h
    | some d => simp only [hd, setK_eq] at h ⊢; exact h
  · rename_i t m rows hx
    obtain ⟨hs, h⟩ := normRows_spec (normV_spec C.cl 0 6) _ _ h
    split at h
    case' h_2 => exact h.elim
    rename_i hcell
    replace hs : ∀ x ∈ rows, ∀ v ∈ x, Sc 0 v ∧ cellC v = true := fun x hx v hv => ⟨hs x hx v hv, List.all_eq_true.1 (List.all_eq_true.1 hcell x hx) v hv⟩
    rw [appK_eq] at h
    obtain ⟨_, h⟩ := norm_spec h
    refine ⟨_, .inr (.inr (.inr (.inr (.inl ⟨t, m, rows, hx, hs, rfl⟩)))), ?_⟩
    unfold TE.apply
    cases hd : o.dst with
    | none => simp only [hd] at h ⊢; exact h
    | some d => simp only [hd, setK_eq] at h ⊢; exact h
  · rename_i p os v hx
    obtain ⟨hp, h⟩ := h
    rw [appsK_eq] at h
    obtain ⟨hs, h⟩ := norm_spec h
    obtain ⟨_, h⟩ := norm_spec h
    refine ⟨_, .inr (.inr (.inr (.inl ⟨p, os, v, hx, hp, hs, rfl⟩))), ?_⟩
    unfold TE.apply
    cases hd : o.dst with
    | none => simp only [hd] at h ⊢; exact h
    | some d => simp only [hd, setK_eq] at h ⊢; exact h
  · rename_i p i ob v hx
    obtain ⟨hp, h⟩ := h
    rw [setK_eq] at h
    obtain ⟨hs, h⟩ := norm_spec h
    obtain ⟨_, h⟩ := norm_spec h
    refine ⟨_, .inr (.inr (.inr (.inr (.inr (.inr (.inl ⟨p, i, ob, v, hx, hp, hs, rfl⟩)))))), ?_⟩
    unfold TE.apply
    cases hd : o.dst with
    | none => simp only [hd, List.append_nil] at h ⊢; exact h
    | some d => simp only [hd, setK_eq, List.append_nil] at h ⊢; exact h
  · rename_i p i ob v hx
    obtain ⟨hp, h⟩ := h
    rw [killK_eq, appK_eq] at h
    obtain ⟨hs, h⟩ := norm_spec h
    obtain ⟨_, h⟩ := norm_spec h
    rw [List.length_append, killV_len] at hs
    refine ⟨_, .inr (.inr (.inr (.inr (.inr (.inl ⟨p, i, ob, v, hx, hp, hs, rfl⟩))))), ?_⟩
    unfold TE.apply
    have hkv : (match Option.map (fun i => (i, VObj.dead)) i with | some (b, o) => S.V.set b o | none => S.V) = killV S.V i := by cases i <;> rfl
    dsimp only
    rw [hkv]
    cases hd : o.dst with
    | none => simp only [hd] at h ⊢; exact h
    | some d => simp only [hd, setK_eq] at h ⊢; exact h
  · rename_i p i r c hx
    obtain ⟨hp, h⟩ := h
    unfold nodst at h
    split at h
    case' h_2 => exact h.elim
    rename_i hd
    obtain ⟨hs, h⟩ := normL_spec (normV_spec C.cl 0 6) _ _ h
    split at h
    · rename_i own t m n cap f hV hcell
      rw [setK_eq] at h
      have hxx : xop P S o.op = .sob p i r c := by
        unfold xval at hx
        split at hx
        · exfalso
          (repeat' split at hx) <;> cases hx
        · exfalso
          unfold xvalM at hx
          (repeat' split at hx) <;> cases hx
        · exact hx
      exact ⟨_, .inr (.inr (.inr (.inr (.inr (.inr (.inr (.inr (.inl ⟨p, i, r, c, own, t, m, n, cap, f, hxx, hp, hd, hV, fun x hx => ⟨hs x hx, List.all_eq_true.1 hcell x hx⟩, rfl⟩)))))))), by unfold TE.apply; simp only [List.append_nil]; exact h⟩
    · exact h.elim
  · split at h
    · rename_i p i ob hxr
      obtain ⟨hp, h⟩ := h
      unfold nodst at h
      split at h
      case' h_2 => exact h.elim
      rename_i hd
      obtain ⟨hsc, h⟩ := okRaw_ok h
      rw [setK_eq] at h
      exact ⟨_, .inr (.inr (.inr (.inr (.inr (.inr (.inr (.inr (.inr (.inl ⟨p, i, ob, hxr, hp, hd, hsc, rfl⟩))))))))), by unfold TE.apply; simp only [List.append_nil]; exact h⟩
    · rename_i ob n hxr
      obtain ⟨hsc, h⟩ := okRaw_ok h
      rw [appK_eq] at h
      obtain ⟨_, h⟩ := norm_spec h
      refine ⟨_, .inr (.inr (.inr (.inr (.inr (.inr (.inr (.inr (.inr (.inr (.inl ⟨ob, n, hxr, hsc, rfl⟩)))))))))), ?_⟩
      unfold TE.apply
      cases hd : o.dst with
      | none => simp only [hd] at h ⊢; exact h
      | some d => simp only [hd, setK_eq] at h ⊢; exact h
    · rename_i p i ob n hxr
      obtain ⟨hp, h⟩ := h
      obtain ⟨hsc, h⟩ := okRaw_ok h
      rw [killK_eq, appK_eq] at h
      obtain ⟨_, h⟩ := norm_spec h
      refine ⟨_, .inr (.inr (.inr (.inr (.inr (.inr (.inr (.inr (.inr (.inr (.inr ⟨p, i, ob, n, hxr, hp, hsc, rfl⟩)))))))))), ?_⟩
      unfold TE.apply
      have hkv : (match Option.map (fun i => (i, VObj.dead)) i with | some (b, o) => S.V.set b o | none => S.V) = killV S.V i := by cases i <;> rfl
      dsimp only
      rw [hkv]
      cases hd : o.dst with
      | none => simp only [hd] at h ⊢; exact h
      | some d => simp only [hd, setK_eq] at h ⊢; exact h
    · exact h.elim
  · exact h.elim

theorem pureC_ok {S : VSt} {o : Op} {v : Value} (h : Gives (pureC P C S o) v) : ∃ f args g, xop P S o = .call f args ∧ C.fn f = some g ∧ Gives (g args []) v ∧ (∀ x ∈ args, Sc 0 x) ∧ Sc 0 v := by
  unfold pureC at h
  split at h
  · rename_i f args hx
    split at h
    · rename_i g hg hsc
      split at h
      · rename_i u hu
        split at h
        · rename_i hs
          rw [Gives.val_iff] at h
          subst h
          exact ⟨f, args, g, hx, hg, .inl hu, fun x hx => scB_ok 6 x (List.all_eq_true.1 hsc x hx), scB_ok 6 _ hs⟩
        · exact (Gives.bad.1 h).elim
      · rename_i p u hu
        split at h
        · rename_i hs
          rw [Gives.ob_iff] at h
          obtain ⟨rfl, hp⟩ := h
          exact ⟨f, args, g, hx, hg, .inr ⟨p, hu, hp⟩, fun x hx => scB_ok 6 x (List.all_eq_true.1 hsc x hx), scB_ok 6 _ hs⟩
        · exact (Gives.bad.1 h).elim
      · exact (Gives.bad.1 h).elim
    · exact (Gives.bad.1 h).elim
  · exact (Gives.bad.1 h).elim

theorem drawOne_ok {S : VSt} {o : Oper} {k : VSt → TE → Prop} (h : drawOne P C S o k) : ∃ e, Runs P C S o e ∧ k (e.apply S) e := by
  have hval : ∀ v, Gives (pureC P C S o.op) v → (norm C.cl S.V.length v fun v' => putK C.cl S o.dst v' fun S' => k S' ⟨o.dst, v', none, none, []⟩) → ∃ e, Runs P C S o e ∧ k (e.apply S) e := by
    intro v hg hn
    obtain ⟨_, hn⟩ := norm_spec hn
    obtain ⟨_, hn⟩ := norm_spec hn
    obtain ⟨f, args, g, h1, h2, h3, h4, h5⟩ := pureC_ok hg
    refine ⟨⟨o.dst, v, none, none, []⟩, .inr (.inr (.inr (.inr (.inr (.inr (.inr (.inl ⟨f, args, g, v, h1, h2, h3, h4, h5, rfl⟩))))))), ?_⟩
    unfold TE.apply
    cases hd : o.dst with
    | none => simp only [hd, List.append_nil] at hn ⊢; exact hn
    | some d => simp only [hd, setK_eq, List.append_nil] at hn ⊢; exact hn
  unfold drawOne at h
  split at h
  · rename_i v hx; exact hval v (.inl hx) h
  · rename_i p v hx; exact hval v (.inr ⟨p, hx, h.1⟩) h.2
  · exact drawOne1_ok h

theorem skipE {S : VSt} {o : Oper} {k : VSt → Prop} (h : skipK S o k) : k (TE.apply ⟨o.dst, undef, none, none, []⟩ S) := by
  unfold skipK at h
  unfold TE.apply
  cases hd : o.dst with
  | none => simp only [hd, List.append_nil] at h ⊢; exact h
  | some d => simp only [hd, setK_eq, List.append_nil] at h ⊢; exact h

theorem drawGo_path (all : List Oper) : ∀ (os : List Oper) (S : VSt) (tr : List TE) (k : VSt → List TE → Prop), drawGo P C all os S tr k →
    ∃ es Sn, Path P C all os S es Sn ∧ k Sn (tr ++ es)
  | [], S, tr, k, h => ⟨[], S, ⟨rfl, rfl⟩, by rw [List.append_nil]; exact h⟩
  | o :: os, S, tr, k, h => by
    have run : Wants all S o → drawOne P C S o (fun S' e => appK tr e fun tr' => drawGo P C all os S' tr' k) → ∃ es Sn, Path P C all (o :: os) S es Sn ∧ k Sn (tr ++ es) := by
      intro hw h
      obtain ⟨e, hr, h⟩ := drawOne_ok h
      rw [appK_eq] at h
      obtain ⟨es, Sn, hp, hk⟩ := drawGo_path all os _ _ k h
      exact ⟨e :: es, Sn, ⟨e, es, rfl, .inl ⟨hw, hr⟩, hp⟩, by simpa using hk⟩
    have skip : Skips all S o → skipK S o (fun S' => appK tr ⟨o.dst, undef, none, none, []⟩ fun tr' => drawGo P C all os S' tr' k) → ∃ es Sn, Path P C all (o :: os) S es Sn ∧ k Sn (tr ++ es) := by
      intro hw h
      have h := skipE h
      rw [appK_eq] at h
      obtain ⟨es, Sn, hp, hk⟩ := drawGo_path all os _ _ k h
      exact ⟨_ :: es, Sn, ⟨_, es, rfl, .inr ⟨hw, rfl⟩, hp⟩, by simpa using hk⟩
    unfold drawGo at h
    split at h
    · rename_i hg; exact run (.inl hg) h
    · rename_i j want hg
      split at h
      · exact h.elim
      · rename_i g hgt
        split at h
        · rename_i b hb
          split at h
          · rcases bsplit_spec h with ⟨rfl, h'⟩ | ⟨rfl, h'⟩
            · rw [setK_eq, set_self hb] at h'; exact run (.inr ⟨j, true, g, hg, hgt, hb⟩) h'
            · rw [setK_eq, set_self hb] at h'; exact skip ⟨j, true, g, hg, hgt, .inl hb⟩ h'
          · rcases bsplit_spec h with ⟨rfl, h'⟩ | ⟨rfl, h'⟩
            · rw [setK_eq, set_self hb] at h'; exact skip ⟨j, false, g, hg, hgt, .inl hb⟩ h'
            · rw [setK_eq, set_self hb] at h'; exact run (.inr ⟨j, false, g, hg, hgt, hb⟩) h'
        · rename_i hu; exact skip ⟨j, want, g, hg, hgt, .inr hu⟩ h
        · exact h.elim

theorem sto_facts {S : VSt} {o : Op} {i : Nat} {t : TypeId} {c : List Value} (h : xval P C S o = .sto i t c) : i < S.V.length ∧ mrd S o = some (some i) ∧ xop P S o = .sto i t c := by
  have hx : xop P S o = .sto i t c := by
    unfold xval at h
    split at h
    · exfalso
      (repeat' split at h) <;> cases h
    · exfalso
      unfold xvalM at h
      (repeat' split at h) <;> cases h
    · exact h
  have hk := xop_kind (P := P) (S := S) (o := o) (by rw [hx]; rfl)
  rcases hk with ⟨_, _, _, _, hbs⟩ | ⟨t', rfl⟩ | ⟨t', x, rfl⟩ | ⟨t', x, v, p, rfl, hp, he⟩ | ⟨cc, rfl⟩
  · exfalso; rcases alr_or_bad hbs with ⟨_, _, _, e⟩ | e <;> (rw [e] at hx; cases hx)
  · simp only [xop] at hx; (repeat' split at hx) <;> cases hx
  · simp only [xop] at hx; (repeat' split at hx) <;> cases hx
  · refine ⟨?_, ?_, hx⟩ <;> rw [he] at hx <;> unfold xstore at hx
    · (repeat' split at hx) <;> first | (cases hx; done) | skip
      rename_i hv _ _ _
      cases hx
      exact (List.getElem?_eq_some_iff.1 (by assumption)).1
    · (repeat' split at hx) <;> first | (cases hx; done) | skip
      cases hx
      simp [mrd, hp]
  · exfalso
    simp only [xop] at hx
    (repeat' split at hx) <;> first | (cases hx; done) | (have hpl := congrArg Res.mostly hx; rw [bi_mostly] at hpl; cases hpl)

theorem grow_facts {S : VSt} {o : Op} {p : Prop} {i : Option Nat} {ob : VObj} {v : Nat → Value} (h : xval P C S o = .grow p i ob v) : (i = none ∨ mrd S o = some none) ∧ xop P S o = .grow p i ob v := by
  have hx : xop P S o = .grow p i ob v := by
    unfold xval at h
    split at h
    · exfalso
      (repeat' split at h) <;> cases h
    · exfalso
      unfold xvalM at h
      (repeat' split at h) <;> cases h
    · exact h
  refine ⟨?_, hx⟩
  rcases xop_grow hx with ⟨c, x, y, t, u, rfl, hb, ha, ht, hg⟩ | ⟨src, dst, x, e, b, he, h1, h2, h3, h4, rfl, rfl, rfl⟩ | ⟨t, x, b, he, h1, h2, rfl, rfl, rfl⟩ | ⟨t, x, y, he, hg⟩
  · right; simp [mrd, hb]
  · exact .inl rfl
  · exact .inl rfl
  · left
    rcases xmake_kind (P := P) (t := t) (x := ev S x) (y := ev S y) with ⟨_, _, _, he'⟩ | he'
    · rw [he'] at hg; cases hg; rfl
    · rw [he'] at hg; cases hg

theorem cpy_facts {S : VSt} {o : Op} {p : Prop} {i : Nat} {ob : VObj} {v : Value} (h : xval P C S o = .cpy p i ob v) : mrd S o = some none ∧ xop P S o = .cpy p i ob v := by
  have hx : xop P S o = .cpy p i ob v := by
    unfold xval at h
    split at h
    · exfalso
      (repeat' split at h) <;> cases h
    · exfalso
      unfold xvalM at h
      (repeat' split at h) <;> cases h
    · exact h
  refine ⟨?_, hx⟩
  rcases xop_cpy hx with ⟨c, x, y, t, u, rfl, hb, ha, ht, hg⟩ | ⟨c, x, y, t, u, rfl, hb, ha, ht, hg⟩ <;> simp [mrd, hb]

theorem sob_facts {S : VSt} {o : Op} {p : Prop} {i r : Nat} {c : List Value} (hx : xop P S o = .sob p i r c) : mrd S o = some (some i) := by
  have hk := xop_kind (P := P) (S := S) (o := o) (by rw [hx]; rfl)
  rcases hk with ⟨_, _, _, _, hbs⟩ | ⟨t', rfl⟩ | ⟨t', x, rfl⟩ | ⟨t', x, v, p, rfl, hp, he⟩ | ⟨cc, rfl⟩
  · exfalso; rcases alr_or_bad hbs with ⟨_, _, _, e⟩ | e <;> (rw [e] at hx; cases hx)
  · simp only [xop] at hx; (repeat' split at hx) <;> cases hx
  · simp only [xop] at hx; (repeat' split at hx) <;> cases hx
  · rw [he] at hx
    unfold xstore at hx
    (repeat' split at hx) <;> first | (cases hx; done) | skip
    cases hx
    simp [mrd, hp]
  · exfalso
    simp only [xop] at hx
    (repeat' split at hx) <;> first | (cases hx; done) | (have hpl := congrArg Res.mostly hx; rw [bi_mostly] at hpl; cases hpl)

theorem rawsto_facts {S : VSt} {o : Op} {p : Prop} {i : Nat} {ob : VObj} (hx : xraw P S o = .sto p i ob) : mrd S o = some (some i) := by
  unfold xraw at hx
  split at hx
  · split at hx
    case' h_2 => cases hx
    rename_i q hq
    unfold xstoreR at hx
    (repeat' split at hx) <;> first | (cases hx; done) | (cases hx; simp [mrd, hq])
  · unfold xbuildR at hx
    split at hx <;> cases hx
  · split at hx
    · split at hx
      · unfold xappR at hx
        (repeat' split at hx) <;> cases hx
      · cases hx
    · cases hx
  · cases hx

theorem rawapp_facts {S : VSt} {o : Op} {p : Prop} {i : Option Nat} {ob : VObj} {n : Nat} (hx : xraw P S o = .app p i ob n) : i = none ∨ mrd S o = some none := by
  unfold xraw at hx
  split at hx
  · split at hx
    · unfold xstoreR at hx
      (repeat' split at hx) <;> cases hx
    · cases hx
  · unfold xbuildR at hx
    split at hx <;> cases hx
  · rename_i c
    split at hx
    · rename_i hcal
      right; simp [mrd, hcal]
    · cases hx
  · cases hx

theorem Path.lens {all : List Oper} : ∀ (os : List Oper) (S : VSt) (es : List TE) (Sn : VSt), Path P C all os S es Sn →
    os.length = es.length ∧ ∀ (j : Nat) (e : TE) (b : Nat) (o : VObj), es[j]? = some e → e.st = some (b, o) → e.rd = some none ∨ e.rd = some (some b)
  | [], S, es, Sn, h => by obtain ⟨rfl, _⟩ := h; exact ⟨rfl, fun j e b o h => by simp at h⟩
  | o :: os, S, es, Sn, h => by
    obtain ⟨e, es', rfl, hs, hp⟩ := h
    obtain ⟨h1, h2⟩ := Path.lens os _ _ _ hp
    refine ⟨by simp [h1], fun j e' b o' hj hst => ?_⟩
    cases j with
    | zero =>
      simp at hj; subst hj
      rcases hs with ⟨_, ⟨v, _, _, rfl⟩ | ⟨i, t, c, hx, _, _, rfl⟩ | ⟨t, c, _, _, rfl⟩ | ⟨p, os, v, _, _, _, rfl⟩ | ⟨t, m, rows, _, _, rfl⟩ | ⟨p, i, ob, v, hx, _, _, rfl⟩ | ⟨p, i, ob, v, hx, _, _, rfl⟩ | ⟨f, args, g, v, _, _, _, _, _, rfl⟩ | ⟨p, i, r, c, own, t, m, n, cap, f, hx, _, _, _, _, rfl⟩ | ⟨p, i, ob, hx, _, _, _, rfl⟩ | ⟨ob, n, hx, _, rfl⟩ | ⟨p, i, ob, n, hx, _, _, rfl⟩⟩ | ⟨_, rfl⟩
      · simp at hst
      · simp at hst
        obtain ⟨rfl, rfl⟩ := hst
        exact .inr (sto_facts hx).2.1
      · simp at hst
      · simp at hst
      · simp at hst
      · rcases (grow_facts hx).1 with h | h
        · subst h; simp at hst
        · exact .inl h
      · exact .inl (cpy_facts hx).1
      · simp at hst
      · simp at hst
        obtain ⟨rfl, rfl⟩ := hst
        exact .inr (sob_facts hx)
      · simp at hst
        obtain ⟨rfl, rfl⟩ := hst
        exact .inr (rawsto_facts hx)
      · simp at hst
      · rcases rawapp_facts hx with h | h
        · subst h; simp at hst
        · exact .inl h
      · simp at hst
    | succ j => exact h2 j e' b o' (by simpa using hj) hst

/-- the states of the path are those in which the operations ahead have been run -/
theorem Path.states {ops : Array Oper} {tr : List TE} {S0 : VSt} (hT : Tr ops tr S0.tmps.length S0.V.length)
    (hst : ∀ (j : Nat) (e : TE) (b : Nat) (o : VObj), tr[j]? = some e → e.st = some (b, o) → e.rd = some none ∨ e.rd = some (some b)) :
    ∀ (os : List Oper) (n : Nat) (S : VSt) (es : List TE) (Sn : VSt), (∀ j, os[j]? = ops[n + j]?) → (∀ j, es[j]? = tr[n + j]?) → IsL tr S0 (fun j => Nat.blt j n) S → Path P C ops.toList os S es Sn →
      (∀ (i : Nat) (o : Oper) (e : TE), n ≤ i → ops[i]? = some o → tr[i]? = some e → ∃ Si, IsL tr S0 (fun j => Nat.blt j i) Si ∧ EStep P C ops.toList Si o e) ∧ IsL tr S0 (fun j => Nat.blt j (n + os.length)) Sn
  | [], n, S, es, Sn, ho, he, hS, h => by
    obtain ⟨rfl, rfl⟩ := h
    refine ⟨fun i o e hi hoi _ => ?_, by simpa using hS⟩
    have := ho (i - n)
    rw [show n + (i - n) = i by omega, hoi] at this
    simp at this
  | o :: os, n, S, es, Sn, ho, he, hS, h => by
    obtain ⟨e, es', rfl, hs, hp⟩ := h
    have htr : tr[n]? = some e := by simpa using (he 0).symm
    have hop : ops[n]? = some o := by simpa using (ho 0).symm
    have hnn : Nat.blt n n = false := by
      cases hb : Nat.blt n n with
      | false => rfl
      | true => rw [Nat.blt_eq] at hb; omega
    have hstep : IsL tr S0 (fun j => Nat.blt j (n + 1)) (e.apply S) := hS.step hT htr hnn hst (fun _ j ej hj _ _ => by
      cases hb : Nat.blt j n with
      | false => rfl
      | true => rw [Nat.blt_eq] at hb; omega) (fun j => by
      rw [Bool.eq_iff_iff]
      simp only [Nat.blt_eq, Bool.or_eq_true]
      constructor
      · intro hj
        rcases Nat.lt_or_ge j n with h | h
        · exact .inl h
        · right; have : j = n := by omega
          subst this; exact Nat.beq_refl _
      · rintro (h | h)
        · omega
        · have := Nat.eq_of_beq_eq_true h; omega)
    obtain ⟨h1, h2⟩ := Path.states hT hst os (n + 1) _ es' Sn (fun j => by have := ho (j + 1); simpa [Nat.add_assoc, Nat.add_comm 1 j] using this)
      (fun j => by have := he (j + 1); simpa [Nat.add_assoc, Nat.add_comm 1 j] using this) hstep hp
    refine ⟨fun i oi ei hi hoi hei => ?_, by simpa [Nat.add_assoc, Nat.add_comm 1] using h2⟩
    by_cases hin : i = n
    · subst hin
      rw [hop] at hoi; cases hoi
      rw [htr] at hei; cases hei
      exact ⟨S, hS, hs⟩
    · exact h1 i oi ei (by omega) hoi hei

end Go.X
