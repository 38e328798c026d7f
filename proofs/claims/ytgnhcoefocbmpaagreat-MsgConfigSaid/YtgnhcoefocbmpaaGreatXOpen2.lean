/- What comes in, opened as places of what was there at the start. -/
import Derived.Test.YtgnhcoefocbmpaaGreatXOpen
import Derived.Test.YtgnhcoefocbmpaaGreatXST
set_option linter.unusedSimpArgs false
set_option linter.unusedVariables false
set_option linter.unusedSectionVars false
namespace Go.X
open Go
open Go.ChangeShapes Go.WideShapes Go.ChangeAt Go.RowKit

/-- the memory of the start stays as it is -/
@[reducible] def oldWI (W : World) : WI where
  I := fun w => ∀ b, b < W.heap.size → w.heap[b]? = W.heap[b]?
  n := W.heap.size
  keep := fun w w' h hI b hb => (h b hb).trans (hI b hb)

section
variable [WI] {H : Type} {enc : TypeId × Value → H} {P : Program}

theorem cells_spot {w : World} {a : Addr} {n : Nat} {cs : List Value} (h : w.cells? 0 a n = some cs) (hn : 0 < n) : a.spot = none ∧ a.block < w.heap.size := by
  unfold World.cells? at h
  rw [if_pos (Nat.zero_le _)] at h
  have hl := mapM_some_length h
  have := mapM_some_get h 0 0 (by simp [hn])
  have hlen : cs.length = n := by simpa using hl
  have hc : ∃ v, cs[0]? = some v := ⟨cs[0]'(by omega), List.getElem?_eq_getElem (by omega)⟩
  obtain ⟨v0, hc⟩ := hc
  rw [hc] at this
  have ha : a.add 0 = a := by unfold Addr.add; simp
  rw [ha] at this
  unfold World.cell? at this
  split at this
  · rename_i hh
    refine ⟨?_, (Array.getElem?_eq_some_iff.1 hh).1⟩
    cases hs : a.spot with
    | none => rfl
    | some r => rw [hs] at this; simp at this
  · cases this

theorem add_spot {a : Addr} (k : Nat) (hs : a.spot = none) : (a.add k).spot = none ∧ (a.add k).block = a.block ∧ (a.add k).off = a.off + k := by
  unfold Addr.add
  split
  · rename_i h; subst h; exact ⟨hs, rfl, rfl⟩
  · exact ⟨rfl, rfl, rfl⟩

theorem range_old {W w : World} {b o : Nat} {cs : List Value} (hb : b < W.heap.size) (h : W.rangeAt b o cs) (hI : ∀ b, b < W.heap.size → w.heap[b]? = W.heap[b]?) : w.rangeAt b o cs := fun j v hj => by
  rw [World.cell?_of_block (hI b hb)]
  exact h j v hj

theorem AReads.get : ∀ {cs us}, AReads cs us → ∀ (j : Nat) (c : ACell), cs[j]? = some c → ∃ u, us[j]? = some u ∧ ARead c u
  | _, _, .nil, j, c, h => by simp at h
  | _, _, .cons h hs, 0, c, hc => by simp at hc; subst hc; exact ⟨_, rfl, h⟩
  | _, _, .cons h hs, j + 1, c, hc => by
    obtain ⟨u, h1, h2⟩ := hs.get j c (by simpa using hc)
    exact ⟨u, by simpa using h1, h2⟩

/-- a slice that reads, with slices in its rows -/
theorem tab_of_trod {α : Type} [Inhabited α] (cf : α → List ACell) {W : World} (hI : ∀ w', WI.I w' → ∀ b, b < W.heap.size → w'.heap[b]? = W.heap[b]?) (hN : W.heap.size ≤ WI.n) {held : Bool} {e t : TypeId} {m : Nat} (hm : 0 < m)
    (hof : ∀ (fuel : Nat) (us : List Value) (x : DataW H × List MemPlace), DataW.trod enc P W 0 (fun _ => true) held fuel e us = some x → ∃ s : α, AReads (cf s) us)
    (ht : P.underlying t = some (.slice e)) (hc : P.cellsOf e = m) {fuel : Nat} {cs : List Value} {x : DataW H × List MemPlace} (h : DataW.trod enc P W 0 (fun _ => true) held fuel t cs = some x) :
    ∃ (l : Loc) (n : Nat) (st : Nat → α) (u : Value), cs = [u] ∧ n ≤ maxLen ∧ ren (fun _ => l) (.slice (some ⟨0, 3, some 0⟩) n 0) = u ∧ (l.cap < 2 → n = 0) ∧ (2 ≤ l.cap → l.m = m ∧ n + 1 ≤ l.cap ∧ l.blk < WI.n) ∧
      ∀ w, WI.I w → ∀ r, r < n → (cf (st r)).length = m ∧ ∀ (j : Nat) (c : ACell), (cf (st r))[j]? = some c → ∃ u, w.cell? ⟨l.blk, l.base + r * m + j, none⟩ = some u ∧ ARead c u := by
  rcases DataW.trod_slice ht h with ⟨rfl, _⟩ | ⟨a, len, cap, elems, rest, k, rfl, rfl, rfl, _, hl, hmx, hlen, hel, hsp, _⟩
  · refine ⟨⟨0, 0, 0, 0⟩, 0, fun _ => default, _, rfl, Nat.zero_le _, ?_, fun _ => rfl, fun h => by simp at h, fun w _ r hr => absurd hr (Nat.not_lt_zero r)⟩
    rw [ren_slice3 _ (a := ⟨0, 3, some 0⟩) _ _ rfl]
  · by_cases hcap : cap = 0
    · have hlen0 : len = 0 := by omega
      subst hcap
      subst hlen0
      refine ⟨⟨a.block, a.off, match a.spot with | none => 0 | some r => r + 1, 1⟩, 0, fun _ => default, _, rfl, Nat.zero_le _, ?_, fun _ => rfl, fun h => by simp at h, fun w _ r hr => absurd hr (Nat.not_lt_zero r)⟩
      rw [ren_slice3 _ (a := ⟨0, 3, some 0⟩) _ _ rfl]
      obtain ⟨b, o, s⟩ := a
      cases s <;> rfl
    · -- the first element stands somewhere
      obtain ⟨hrl, hrest⟩ := hsp rfl
      have first : ∃ cs0, W.cells? 0 a m = some cs0 := by
        by_cases hl0 : 0 < len
        · have := hel 0 hl0
          rw [List.getElem?_eq_getElem (by omega)] at this
          obtain ⟨cs0, h1, _⟩ := Option.bind_eq_some_iff.1 this
          rw [hc, Nat.zero_mul] at h1
          have ha : a.add 0 = a := by unfold Addr.add; simp
          rw [ha] at h1
          exact ⟨cs0, h1⟩
        · have := hrest 0 (by omega)
          rw [List.getElem?_eq_getElem (by omega)] at this
          obtain ⟨cs0, h1, _⟩ := Option.bind_eq_some_iff.1 this
          have hl00 : len = 0 := by omega
          rw [hc, hl00] at h1
          simp only [Nat.add_zero, Nat.zero_mul] at h1
          have ha : a.add 0 = a := by unfold Addr.add; simp
          rw [ha] at h1
          exact ⟨cs0, h1⟩
      obtain ⟨cs0, hcs0⟩ := first
      obtain ⟨hs, hb⟩ := cells_spot hcs0 hm
      have key : ∀ i, ∃ s : α, i < len → ∃ us, AReads (cf s) us ∧ us.length = m ∧ W.rangeAt a.block (a.off + i * m) us := fun i => by
        by_cases hi : i < len
        · have := hel i hi
          rw [List.getElem?_eq_getElem (by omega)] at this
          obtain ⟨us, h1, h2⟩ := Option.bind_eq_some_iff.1 this
          obtain ⟨s, hs'⟩ := hof _ _ _ h2
          rw [hc] at h1
          obtain ⟨e1, e2, e3⟩ := add_spot (i * m) hs
          obtain ⟨h3, h4⟩ := cells_range e1 h1
          rw [e2, e3] at h4
          exact ⟨s, fun _ => ⟨us, hs', h3, h4⟩⟩
        · exact ⟨default, fun h => absurd h hi⟩
      obtain ⟨st, hst⟩ := Classical.axiomOfChoice key
      refine ⟨⟨a.block, a.off, m, cap + 1⟩, len, st, _, rfl, by omega, ?_, fun h => by simp at h; omega, fun _ => ⟨rfl, by simp; omega, Nat.lt_of_lt_of_le hb hN⟩, fun w hw r hr => ?_⟩
      · match cap, hcap with
        | k + 1, _ =>
          rw [ren_slice3 _ (a := ⟨0, 3, some 0⟩) _ _ rfl]
          obtain ⟨b, o, s⟩ := a
          simp only at hs
          subst hs
          simp [renA]
      · obtain ⟨us, h1, h2, h3⟩ := hst r hr
        refine ⟨by rw [← h1.len]; exact h2, fun j c hj => ?_⟩
        obtain ⟨u, h4, h5⟩ := h1.get j c hj
        exact ⟨u, range_old hb h3 (hI w hw) j u h4, h5⟩

theorem areads_val : ∀ {vs : List Value}, vs.all plainC = true → AReads (vs.map .val) vs
  | [], _ => .nil
  | v :: vs, h => by
    simp only [List.all_cons, Bool.and_eq_true] at h
    exact .cons ⟨rfl, h.1⟩ (areads_val h.2)
theorem areads_val_eq : ∀ {vs us : List Value}, AReads (vs.map .val) us → us = vs
  | [], _, .nil => rfl
  | v :: vs, _, .cons h hs => by rw [h.1, areads_val_eq hs]

/-- a cell that is a slice of plain rows -/
theorem sl_of_trod {α : Type} [Inhabited α] (cf : α → List Value) (hp : ∀ s, (cf s).all plainC = true) {W : World} (hI : ∀ w', WI.I w' → ∀ b, b < W.heap.size → w'.heap[b]? = W.heap[b]?) (hN : W.heap.size ≤ WI.n) {held : Bool} {e t : TypeId} {m : Nat} (hm : 0 < m)
    (hof : ∀ (fuel : Nat) (us : List Value) (x : DataW H × List MemPlace), DataW.trod enc P W 0 (fun _ => true) held fuel e us = some x → ∃ s : α, us = cf s)
    (ht : P.underlying t = some (.slice e)) (hc : P.cellsOf e = m) {fuel : Nat} {cs : List Value} {x : DataW H × List MemPlace} (h : DataW.trod enc P W 0 (fun _ => true) held fuel t cs = some x) :
    ∃ (n : Nat) (st : Nat → α), n ≤ maxLen ∧ AReads [.sl e m n fun j => cf (st j)] cs := by
  obtain ⟨l, n, st, u, rfl, h0, h1, h2, h3, h4⟩ := tab_of_trod (fun s => (cf s).map .val) hI hN hm (fun fuel us x hx => by
    obtain ⟨s, rfl⟩ := hof fuel us x hx
    exact ⟨s, areads_val (hp s)⟩) ht hc h
  refine ⟨n, st, h0, .cons ⟨l, h2, h3, h1, fun w hw r hr => ?_⟩ .nil⟩
  obtain ⟨h5, h6⟩ := h4 w hw r hr
  refine ⟨by simpa using h5, hp _, fun j v hj => ?_⟩
  obtain ⟨u, h7, h8⟩ := h6 j (.val v) (by simp [hj])
  obtain ⟨rfl, _⟩ := h8
  exact h7
end
end Go.X
