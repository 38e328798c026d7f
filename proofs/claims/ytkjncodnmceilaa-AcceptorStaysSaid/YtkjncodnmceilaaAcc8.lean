/- A part of a proof: what is proved here is said at each theorem; it holds without any condition but those that the theorem names. -/
import Derived.Test.YtkjncodnmceilaaAcc7
import Derived.WalkKit
import Derived.ProofKit
import Derived.OpenShut
import Derived.ShutString
import Derived.ChangeOld
import Derived.Below
import Derived.SizedLaws
import Derived.Carry
set_option linter.unusedSimpArgs false
set_option linter.unusedVariables false
namespace Go.Acc
open Go Go.X Go.Proofs
open Go.ChangeShapes Go.WideShapes Go.ChangeAt Go.RowKit

section
variable {H : Type} {enc : TypeId × Value → H} {P : Program}

theorem trod_len {w : World} {base fuel : Nat} {sp : Nat → Bool} {held : Bool} {t : TypeId} {cs : List Value} {x : DataW H × List MemPlace} {fs : Array Field} {n : Nat} (ht : P.underlying t = some (.struct fs))
    (h : DataW.trod enc P w base sp held fuel t cs = some x) (hc : P.cellsOf t = n) : cs.length = n := by
  obtain ⟨_, _, _, _, hl, _⟩ := DataW.trod_struct ht h
  exact hl.trans hc

theorem trod_field {w : World} {base fuel : Nat} {sp : Nat → Bool} {held : Bool} {t : TypeId} {cs : List Value} {x : DataW H × List MemPlace} {fs : Array Field} {k : Nat} (ht : P.underlying t = some (.struct fs))
    (h : DataW.trod enc P w base sp held fuel t cs = some x) (i : Nat) {f : Field} (hf : fs[i]? = some f) (hc : P.cellsOf f.type = k) :
    ∃ n y, DataW.trod enc P w base sp held n f.type ((cs.drop f.offset).take k) = some y := by
  obtain ⟨xs, n, _, _, _, hx, hi⟩ := DataW.trod_struct ht h
  have := hi i f hf
  have hlt : i < xs.length := by
    rw [hx]
    exact (Array.getElem?_eq_some_iff.1 hf).1
  rw [hc, List.getElem?_eq_getElem hlt] at this
  exact ⟨n, _, this⟩

theorem cells_range {w : World} {a : Addr} {n : Nat} {cs : List Value} (hs : a.spot = none) (h : w.cells? 0 a n = some cs) : cs.length = n ∧ w.rangeAt a.block a.off cs := by
  unfold World.cells? at h
  rw [if_pos (Nat.zero_le _)] at h
  have hl := mapM_some_length h
  have hl' : cs.length = n := by simpa using hl
  refine ⟨hl', fun j v hj => ?_⟩
  have hjn : j < n := by
    have := (List.getElem?_eq_some_iff.1 hj).1
    omega
  have := mapM_some_get h j j (by simp [hjn])
  rw [hj] at this
  rw [← this]
  congr 1
  unfold Addr.add
  split
  · rename_i h0
    subst h0
    cases a; simp_all
  · rfl

/-- an argument that is a slice of structures: nil, or rows that are known -/
theorem open_rows {α : Type} [Inhabited α] (cf : α → List Value) {W : World} {b0 : Nat} {sp : Nat → Bool} {held : Bool} {t e : TypeId} {m : Nat} {v : Value} {d : DataW H} {p : List MemPlace}
    (hof : ∀ (fuel : Nat) (cs : List Value) (x : DataW H × List MemPlace), DataW.trod enc P W 0 sp held fuel e cs = some x → ∃ s : α, cs = cf s)
    (ht : P.underlying t = some (.slice e)) (hc : P.cellsOf e = m) (hval : Value.okWide P W .any b0 t v) (hd : DataW.Trod enc P W 0 sp held t v d p) :
    v = .slice none 0 0 ∨ ∃ (a : Addr) (len cap : Nat) (st : Nat → α), v = .slice (some a) len cap ∧ a.spot = none ∧ a.block < W.heap.size ∧ len ≤ cap ∧ cap ≤ maxLen ∧
      ∀ i, i < len → W.rangeAt a.block (a.off + i * m) (cf (st i)) := by
  obtain ⟨ao, len, cap, rfl⟩ := okWide_slice ht hval
  obtain ⟨fuel, hf⟩ := hd
  rcases DataW.trod_slice ht hf with ⟨h, _⟩ | ⟨a, l, c, elems, rest, n, _, h, _, _, hl, hm, hlen, hel, _⟩
  · left
    simpa [Value.cells] using h
  · right
    simp [Value.cells] at h
    obtain ⟨rfl, rfl, rfl⟩ := h
    simp only [Value.okWide, ht, Cell.okWide, Cell.ok] at hval
    obtain ⟨_, _, _, hs, row, cells, hsh, _⟩ := hval
    have hb : a.block < W.heap.size := by
      unfold World.shape? at hsh
      split at hsh
      · rename_i h1
        exact (Array.getElem?_eq_some_iff.1 h1).1
      · cases hsh
    have key : ∀ i, ∃ s : α, i < len → W.rangeAt a.block (a.off + i * m) (cf s) := fun i => by
      by_cases hi : i < len
      · have := hel i hi
        rw [List.getElem?_eq_getElem (by omega)] at this
        obtain ⟨cs, h1, h2⟩ := Option.bind_eq_some_iff.1 this
        obtain ⟨s, rfl⟩ := hof _ _ _ h2
        rw [hc] at h1
        have hs2 : (a.add (i * m)).spot = none := by unfold Addr.add; split <;> simp [hs]
        obtain ⟨_, hr⟩ := cells_range hs2 h1
        have e1 : (a.add (i * m)).block = a.block := by unfold Addr.add; split <;> rfl
        have e2 : (a.add (i * m)).off = a.off + i * m := by
          unfold Addr.add
          split
          · rename_i h0; simp [h0]
          · rfl
        rw [e1, e2] at hr
        exact ⟨s, fun _ => hr⟩
      · exact ⟨default, fun h => absurd h hi⟩
    obtain ⟨st, hst⟩ := Classical.axiomOfChoice key
    exact ⟨a, len, cap, st, rfl, hs, hb, hl, hm, hst⟩

theorem RepW.ofRows {w : World} {b off m n cap : Nat} {e : TypeId} {f : Nat → List Value} (hb : b < w.heap.size) (hp : ∀ r, (f r).all plainC = true) (hl : ∀ r, (f r).length = m)
    (hr : ∀ r, r < n → w.rangeAt b (off + r * m) (f r)) : RepW (fun _ => ⟨b, off, m⟩) [.rows false e m n cap f] w := by
  have hpl : ∀ (env : Nat → X.Loc) r, (f r).map (ren env) = f r := fun env r => map_ren_plain env (hp r)
  refine ⟨fun i o hi => ?_, fun i o hi => ?_, fun i hi => hb, fun i j oi oj hi hj hij => ?_⟩
  · match i, hi with
    | 0, hi =>
      cases hi
      exact ⟨rfl, fun r hr' => ⟨hl r, by rw [hpl]; exact hr r hr'⟩, fun h => by cases h⟩
  · match i, hi with
    | 0, hi =>
      cases hi
      intro r hr' v hv
      exact Sc.mono (n := 0) (Sc.plainV (v := v) (by
        have := List.all_eq_true.1 (hp r) v hv
        cases v <;> first | exact this | simp [plainC] at this)) (Nat.zero_le _)
  · match i, j, hi, hj with
    | 0, 0, _, _ => exact absurd rfl hij

theorem Fr.below {env env' : Nat → X.Loc} {V V' : VW} {w w' : World} (h : Fr env V w env' V' w') (hV : ∀ (i : Nat) (o : VObj), V[i]? = some o → o.owned = false) : Below w.heap.size w w' :=
  ⟨h.os, h.tape, h.output, h.size, fun k hk => h.keep k hk fun i o hi ho => by rw [hV i o hi] at ho; cases ho⟩
end

section
variable {H : Type} {enc : TypeId × Value → H}
theorem GStamp.of_trod {w : World} {base fuel : Nat} {sp : Nat → Bool} {held : Bool} {cs : List Value} {x : DataW H × List MemPlace} (h : DataW.trod enc Try.prog w base sp held fuel 26 cs = some x) : ∃ s : GStamp, cs = s.c := by
  have hl : cs.length = 2 := trod_len Try.underlying26 h (by kernel_rfl)
  obtain ⟨n0, y0, g0⟩ : ∃ n y, DataW.trod enc Try.prog w base sp held n 3 ((cs.drop 0).take 1) = some y := trod_field Try.underlying26 h 0 rfl (by kernel_rfl)
  obtain ⟨s0, g0, _⟩ := DataW.trod_int Try.underlying3 g0
  obtain ⟨n1, y1, g1⟩ : ∃ n y, DataW.trod enc Try.prog w base sp held n 3 ((cs.drop 1).take 1) = some y := trod_field Try.underlying26 h 1 rfl (by kernel_rfl)
  obtain ⟨s1, g1, _⟩ := DataW.trod_int Try.underlying3 g1
  match cs, hl with
  | [a0, a1], _ =>
    simp [] at g0
    simp [] at g1
    refine ⟨⟨s0, s1⟩, ?_⟩
    simp [GStamp.c, g0, g1]
theorem GFile.of_trod {w : World} {base fuel : Nat} {sp : Nat → Bool} {held : Bool} {cs : List Value} {x : DataW H × List MemPlace} (h : DataW.trod enc Try.prog w base sp held fuel 28 cs = some x) : ∃ s : GFile, cs = s.c := by
  have hl : cs.length = 2 := trod_len Try.underlying28 h (by kernel_rfl)
  obtain ⟨n0, y0, g0⟩ : ∃ n y, DataW.trod enc Try.prog w base sp held n 3 ((cs.drop 0).take 1) = some y := trod_field Try.underlying28 h 0 rfl (by kernel_rfl)
  obtain ⟨s0, g0, _⟩ := DataW.trod_int Try.underlying3 g0
  obtain ⟨n1, y1, g1⟩ : ∃ n y, DataW.trod enc Try.prog w base sp held n 3 ((cs.drop 1).take 1) = some y := trod_field Try.underlying28 h 1 rfl (by kernel_rfl)
  obtain ⟨s1, g1, _⟩ := DataW.trod_int Try.underlying3 g1
  match cs, hl with
  | [a0, a1], _ =>
    simp [] at g0
    simp [] at g1
    refine ⟨⟨s0, s1⟩, ?_⟩
    simp [GFile.c, g0, g1]
theorem GCommand.of_trod {w : World} {base fuel : Nat} {sp : Nat → Bool} {held : Bool} {cs : List Value} {x : DataW H × List MemPlace} (h : DataW.trod enc Try.prog w base sp held fuel 30 cs = some x) : ∃ s : GCommand, cs = s.c := by
  have hl : cs.length = 9 := trod_len Try.underlying30 h (by kernel_rfl)
  obtain ⟨n0, y0, g0⟩ : ∃ n y, DataW.trod enc Try.prog w base sp held n 3 ((cs.drop 0).take 1) = some y := trod_field Try.underlying30 h 0 rfl (by kernel_rfl)
  obtain ⟨s0, g0, _⟩ := DataW.trod_int Try.underlying3 g0
  obtain ⟨n1, y1, g1⟩ : ∃ n y, DataW.trod enc Try.prog w base sp held n 3 ((cs.drop 1).take 1) = some y := trod_field Try.underlying30 h 1 rfl (by kernel_rfl)
  obtain ⟨s1, g1, _⟩ := DataW.trod_int Try.underlying3 g1
  obtain ⟨n2, y2, g2⟩ : ∃ n y, DataW.trod enc Try.prog w base sp held n 3 ((cs.drop 2).take 1) = some y := trod_field Try.underlying30 h 2 rfl (by kernel_rfl)
  obtain ⟨s2, g2, _⟩ := DataW.trod_int Try.underlying3 g2
  obtain ⟨n3, y3, g3⟩ : ∃ n y, DataW.trod enc Try.prog w base sp held n 9 ((cs.drop 3).take 1) = some y := trod_field Try.underlying30 h 3 rfl (by kernel_rfl)
  obtain ⟨s3, g3, _⟩ := DataW.trod_string Try.underlying9 g3
  obtain ⟨n4, y4, g4⟩ : ∃ n y, DataW.trod enc Try.prog w base sp held n 28 ((cs.drop 4).take 2) = some y := trod_field Try.underlying30 h 4 rfl (by kernel_rfl)
  obtain ⟨s4, g4⟩ := GFile.of_trod g4
  obtain ⟨n5, y5, g5⟩ : ∃ n y, DataW.trod enc Try.prog w base sp held n 28 ((cs.drop 6).take 2) = some y := trod_field Try.underlying30 h 5 rfl (by kernel_rfl)
  obtain ⟨s5, g5⟩ := GFile.of_trod g5
  obtain ⟨n6, y6, g6⟩ : ∃ n y, DataW.trod enc Try.prog w base sp held n 3 ((cs.drop 8).take 1) = some y := trod_field Try.underlying30 h 6 rfl (by kernel_rfl)
  obtain ⟨s6, g6, _⟩ := DataW.trod_int Try.underlying3 g6
  match cs, hl with
  | [a0, a1, a2, a3, a4, a5, a6, a7, a8], _ =>
    simp [GFile.c] at g0
    simp [GFile.c] at g1
    simp [GFile.c] at g2
    simp [GFile.c] at g3
    simp [GFile.c] at g4
    simp [GFile.c] at g5
    simp [GFile.c] at g6
    refine ⟨⟨s0, s1, s2, s3, s4, s5, s6⟩, ?_⟩
    simp [GCommand.c, g0, g1, g2, g3, g4, g5, g6]
theorem GInst.of_trod {w : World} {base fuel : Nat} {sp : Nat → Bool} {held : Bool} {cs : List Value} {x : DataW H × List MemPlace} (h : DataW.trod enc Try.prog w base sp held fuel 32 cs = some x) : ∃ s : GInst, cs = s.c := by
  have hl : cs.length = 14 := trod_len Try.underlying32 h (by kernel_rfl)
  obtain ⟨n0, y0, g0⟩ : ∃ n y, DataW.trod enc Try.prog w base sp held n 26 ((cs.drop 0).take 2) = some y := trod_field Try.underlying32 h 0 rfl (by kernel_rfl)
  obtain ⟨s0, g0⟩ := GStamp.of_trod g0
  obtain ⟨n1, y1, g1⟩ : ∃ n y, DataW.trod enc Try.prog w base sp held n 26 ((cs.drop 2).take 2) = some y := trod_field Try.underlying32 h 1 rfl (by kernel_rfl)
  obtain ⟨s1, g1⟩ := GStamp.of_trod g1
  obtain ⟨n2, y2, g2⟩ : ∃ n y, DataW.trod enc Try.prog w base sp held n 30 ((cs.drop 4).take 9) = some y := trod_field Try.underlying32 h 2 rfl (by kernel_rfl)
  obtain ⟨s2, g2⟩ := GCommand.of_trod g2
  obtain ⟨n3, y3, g3⟩ : ∃ n y, DataW.trod enc Try.prog w base sp held n 4 ((cs.drop 13).take 1) = some y := trod_field Try.underlying32 h 3 rfl (by kernel_rfl)
  obtain ⟨s3, g3, _⟩ := DataW.trod_bool Try.underlying4 g3
  match cs, hl with
  | [a0, a1, a2, a3, a4, a5, a6, a7, a8, a9, a10, a11, a12, a13], _ =>
    simp [GCommand.c, GStamp.c] at g0
    simp [GCommand.c, GStamp.c] at g1
    simp [GCommand.c, GStamp.c] at g2
    simp [GCommand.c, GStamp.c] at g3
    refine ⟨⟨s0, s1, s2, s3⟩, ?_⟩
    simp [GInst.c, g0, g1, g2, g3]
theorem GStep.of_trod {w : World} {base fuel : Nat} {sp : Nat → Bool} {held : Bool} {cs : List Value} {x : DataW H × List MemPlace} (h : DataW.trod enc Try.prog w base sp held fuel 40 cs = some x) : ∃ s : GStep, cs = s.c := by
  have hl : cs.length = 12 := trod_len Try.underlying40 h (by kernel_rfl)
  obtain ⟨n0, y0, g0⟩ : ∃ n y, DataW.trod enc Try.prog w base sp held n 3 ((cs.drop 0).take 1) = some y := trod_field Try.underlying40 h 0 rfl (by kernel_rfl)
  obtain ⟨s0, g0, _⟩ := DataW.trod_int Try.underlying3 g0
  obtain ⟨n1, y1, g1⟩ : ∃ n y, DataW.trod enc Try.prog w base sp held n 26 ((cs.drop 1).take 2) = some y := trod_field Try.underlying40 h 1 rfl (by kernel_rfl)
  obtain ⟨s1, g1⟩ := GStamp.of_trod g1
  obtain ⟨n2, y2, g2⟩ : ∃ n y, DataW.trod enc Try.prog w base sp held n 30 ((cs.drop 3).take 9) = some y := trod_field Try.underlying40 h 2 rfl (by kernel_rfl)
  obtain ⟨s2, g2⟩ := GCommand.of_trod g2
  match cs, hl with
  | [a0, a1, a2, a3, a4, a5, a6, a7, a8, a9, a10, a11], _ =>
    simp [GCommand.c, GStamp.c] at g0
    simp [GCommand.c, GStamp.c] at g1
    simp [GCommand.c, GStamp.c] at g2
    refine ⟨⟨s0, s1, s2⟩, ?_⟩
    simp [GStep.c, g0, g1, g2]
end
instance : Inhabited GStep := ⟨⟨0, st0, cmdZ⟩⟩
end Go.Acc
