/- Arguments that are slices, opened as places of the known memory. -/
import Derived.Test.YtgnhcoefocbmpaaGreatXSQ
import Derived.WalkKit
import Derived.ProofKit
import Derived.OpenShut
import Derived.ChangeOld
import Derived.Below
import Derived.SizedLaws
import Derived.Carry
set_option linter.unusedSimpArgs false
set_option linter.unusedVariables false
set_option linter.unusedSectionVars false
namespace Go.X
open Go
open Go.ChangeShapes Go.WideShapes Go.ChangeAt Go.RowKit

section
variable {H : Type} {enc : TypeId × Value → H} {P : Program}

theorem trod_len {w : World} {base fuel : Nat} {sp : Nat → Bool} {held : Bool} {t : TypeId} {cs : List Value} {x : DataW H × List MemPlace} {fs : Array Field} {n : Nat} (ht : P.underlying t = some (.struct fs))
    (h : DataW.trod enc P w base sp held fuel t cs = some x) (hc : P.cellsOf t = n) : cs.length = n := by
  obtain ⟨_, _, _, _, hl, _⟩ := DataW.trod_struct ht h
  exact hl.trans hc

theorem trod_field {w : World} {base fuel : Nat} {sp : Nat → Bool} {held : Bool} {t : TypeId} {cs : List Value} {x : DataW H × List MemPlace} {fs : Array Field} {k : Nat} (ht : P.underlying t = some (.struct fs))
    (h : DataW.trod enc P w base sp held fuel t cs = some x) (i : Nat) {f : Field} (hf : fs[i]? = some f) (hc : P.cellsOf f.type = k) :
    ∃ n y, DataW.trod enc P w base sp held n f.type ((cs.drop f.offset).take k) = some y := by
  obtain ⟨xs, n, _, _, _, hx, hi⟩ := DataW.trod_struct ht h
  have := hi i f hf
  have hlt : i < xs.length := by
    rw [hx]
    exact (Array.getElem?_eq_some_iff.1 hf).1
  rw [hc, List.getElem?_eq_getElem hlt] at this
  exact ⟨n, _, this⟩

theorem cells_range {w : World} {a : Addr} {n : Nat} {cs : List Value} (hs : a.spot = none) (h : w.cells? 0 a n = some cs) : cs.length = n ∧ w.rangeAt a.block a.off cs := by
  unfold World.cells? at h
  rw [if_pos (Nat.zero_le _)] at h
  have hl := mapM_some_length h
  have hl' : cs.length = n := by simpa using hl
  refine ⟨hl', fun j v hj => ?_⟩
  have hjn : j < n := by
    have := (List.getElem?_eq_some_iff.1 hj).1
    omega
  have := mapM_some_get h j j (by simp [hjn])
  rw [hj] at this
  rw [← this]
  congr 1
  unfold Addr.add
  split
  · rename_i h0
    subst h0
    cases a; simp_all
  · rfl

/-- a slice that reads: nil, or rows that are known -/
theorem open_rows {α : Type} [Inhabited α] (cf : α → List Value) {W : World} {b0 : Nat} {sp : Nat → Bool} {held : Bool} {t e : TypeId} {m : Nat} {v : Value} {d : DataW H} {p : List MemPlace}
    (hof : ∀ (fuel : Nat) (cs : List Value) (x : DataW H × List MemPlace), DataW.trod enc P W 0 sp held fuel e cs = some x → ∃ s : α, cs = cf s)
    (ht : P.underlying t = some (.slice e)) (hc : P.cellsOf e = m) (hval : Value.okWide P W .any b0 t v) (hd : DataW.Trod enc P W 0 sp held t v d p) :
    v = .slice none 0 0 ∨ ∃ (a : Addr) (len cap : Nat) (st : Nat → α), v = .slice (some a) len cap ∧ a.spot = none ∧ a.block < W.heap.size ∧ len ≤ cap ∧ cap ≤ maxLen ∧
      ∀ i, i < len → W.rangeAt a.block (a.off + i * m) (cf (st i)) := by
  obtain ⟨ao, len, cap, rfl⟩ := okWide_slice ht hval
  obtain ⟨fuel, hf⟩ := hd
  rcases DataW.trod_slice ht hf with ⟨h, _⟩ | ⟨a, l, c, elems, rest, n, _, h, _, _, hl, hm, hlen, hel, _⟩
  · left
    simpa [Value.cells] using h
  · right
    simp [Value.cells] at h
    obtain ⟨rfl, rfl, rfl⟩ := h
    simp only [Value.okWide, ht, Cell.okWide, Cell.ok] at hval
    obtain ⟨_, _, _, hs, row, cells, hsh, _⟩ := hval
    have hb : a.block < W.heap.size := by
      unfold World.shape? at hsh
      split at hsh
      · rename_i h1
        exact (Array.getElem?_eq_some_iff.1 h1).1
      · cases hsh
    have key : ∀ i, ∃ s : α, i < len → W.rangeAt a.block (a.off + i * m) (cf s) := fun i => by
      by_cases hi : i < len
      · have := hel i hi
        rw [List.getElem?_eq_getElem (by omega)] at this
        obtain ⟨cs, h1, h2⟩ := Option.bind_eq_some_iff.1 this
        obtain ⟨s, rfl⟩ := hof _ _ _ h2
        rw [hc] at h1
        have hs2 : (a.add (i * m)).spot = none := by unfold Addr.add; split <;> simp [hs]
        obtain ⟨_, hr⟩ := cells_range hs2 h1
        have e1 : (a.add (i * m)).block = a.block := by unfold Addr.add; split <;> rfl
        have e2 : (a.add (i * m)).off = a.off + i * m := by
          unfold Addr.add
          split
          · rename_i h0; simp [h0]
          · rfl
        rw [e1, e2] at hr
        exact ⟨s, fun _ => hr⟩
      · exact ⟨default, fun h => absurd h hi⟩
    obtain ⟨st, hst⟩ := Classical.axiomOfChoice key
    exact ⟨a, len, cap, st, rfl, hs, hb, hl, hm, hst⟩

/-- a byte that reads -/
theorem byte_of_trod {W : World} {base fuel : Nat} {sp : Nat → Bool} {held : Bool} {t : TypeId} {cs : List Value} {x : DataW H × List MemPlace} (ht : P.underlying t = some (.int .u8))
    (h : DataW.trod enc P W base sp held fuel t cs = some x) : ∃ b : UInt8, cs = [.int .u8 (b.toNat : Int)] := by
  obtain ⟨n, rfl, _, hw⟩ := DataW.trod_int ht h
  have hn : IntKind.u8.min ≤ n ∧ n ≤ IntKind.u8.max := by simpa [Lit.wf] using hw
  have h0 : (0 : Int) ≤ n ∧ n ≤ 255 := hn
  refine ⟨UInt8.ofNat n.toNat, ?_⟩
  have : (UInt8.ofNat n.toNat).toNat = n.toNat := by
    rw [UInt8.toNat_ofNat']
    omega
  rw [this]
  congr 2
  omega
end

section
variable [WI]
theorem RepW.ofRows {w : World} {b off m n cap k : Nat} {e : TypeId} {f : Nat → List Value} (hb : b < w.heap.size) (hp : ∀ r, (f r).all plainC = true) (hcc : ∀ r, (f r).all cellC = true) (hl : ∀ r, r < n → (f r).length = m)
    (hr : ∀ r, r < n → w.rangeAt b (off + r * m) (f r)) (hI : WI.I w) (hn : WI.n ≤ w.heap.size) : RepW (fun _ => ⟨b, off, m, k⟩) [.rows false e m n cap f] w := by
  have hpl : ∀ (env : Nat → X.Loc) r, (f r).map (ren env) = f r := fun env r => map_ren_plain env (hp r)
  refine ⟨fun i o hi => ?_, fun i o hi => ?_, fun i o hi _ => hb, fun i j oi oj hi hj hij => ?_, hI, fun i o hi ho => ?_, hn⟩
  · match i, hi with
    | 0, hi =>
      cases hi
      exact ⟨rfl, fun r hr' => ⟨hl r hr', by rw [hpl]; exact hr r hr'⟩, fun h => by cases h⟩
  · match i, hi with
    | 0, hi =>
      cases hi
      exact fun r _ v hv => ⟨Sc.plain (List.all_eq_true.1 (hp r) v hv), List.all_eq_true.1 (hcc r) v hv⟩
  · match i, j, hi, hj with
    | 0, 0, _, _ => exact absurd rfl hij
  · match i, hi with
    | 0, hi => cases hi; exact absurd ho.1 Bool.noConfusion

theorem Fr.below {env env' : Nat → X.Loc} {V V' : VW} {w w' : World} (h : Fr env V w env' V' w') (hV : ∀ (i : Nat) (o : VObj), V[i]? = some o → o.owned = false) : Below w.heap.size w w' :=
  ⟨h.os, h.tape, h.output, h.size, fun k hk => h.keep k hk fun i o hi ho => by have := ho.1; rw [hV i o hi] at this; cases this⟩
end
end Go.X
