/- The arguments of the laws of messages, opened as places that are only read. -/
import Derived.Test.YtgnhcoefocbmpaaGreatNX0
import Derived.Test.YtgnhcoefocbmpaaGreatXOpen2
set_option linter.unusedSimpArgs false
set_option linter.unusedVariables false
set_option linter.unusedSectionVars false
set_option maxRecDepth 100000
namespace Go.Msg
open Go Go.X Go.Proofs
open Go.ChangeShapes Go.WideShapes Go.ChangeAt Go.RowKit
section
variable {H : Type} {enc : TypeId × Value → H}
/-- what is read takes no more memory than may be -/
def Sm (t : TypeId) (d : DataW H) : Prop := ∀ k ∈ d.weights Tryz.prog t, k ≤ reachBytes
theorem fieldW {w : World} {base fuel : Nat} {sp : Nat → Bool} {held : Bool} {t : TypeId} {cs : List Value} {x : DataW H × List MemPlace} {fs : Array Field} {k : Nat} (ht : Tryz.prog.underlying t = some (.struct fs))
    (h : DataW.trod enc Tryz.prog w base sp held fuel t cs = some x) (hw : Sm t x.1) (i : Nat) {f : Field} (hf : fs[i]? = some f) (hc : Tryz.prog.cellsOf f.type = k) :
    ∃ n y, DataW.trod enc Tryz.prog w base sp held n f.type ((cs.drop f.offset).take k) = some y ∧ Sm f.type y.1 := by
  obtain ⟨xs, n, _, hxe, _, hx, hi⟩ := DataW.trod_struct ht h
  have := hi i f hf
  have hlt : i < xs.length := by
    rw [hx]
    exact (Array.getElem?_eq_some_iff.1 hf).1
  rw [hc, List.getElem?_eq_getElem hlt] at this
  refine ⟨n, _, this, fun m hm => hw m ?_⟩
  rw [hxe]
  simp only [DataW.weights, ht]
  exact DataW.weights_mem_each (j := i) (by simp [hf]) (by simp [hlt]) m hm
theorem ad_of {w : World} {base fuel : Nat} {sp : Nat → Bool} {held : Bool} {cs : List Value} {x : DataW H × List MemPlace} (h : DataW.trod enc Tryz.prog w base sp held fuel 28 cs = some x) (hw : Sm 28 x.1) :
    ∃ (b : Bool) (i : Int), cs = [.bool b, .int .i64 i] := by
  have hl : cs.length = 2 := trod_len Tryz.underlying28 h (by kernel_rfl)
  obtain ⟨n0, y0, g0, hw0⟩ : ∃ n y, DataW.trod enc Tryz.prog w base sp held n 4 ((cs.drop 0).take 1) = some y ∧ Sm 4 y.1 := fieldW Tryz.underlying28 h hw 0 rfl (by kernel_rfl)
  obtain ⟨v0, g0, _⟩ := DataW.trod_bool Tryz.underlying4 g0
  obtain ⟨n1, y1, g1, hw1⟩ : ∃ n y, DataW.trod enc Tryz.prog w base sp held n 3 ((cs.drop 1).take 1) = some y ∧ Sm 3 y.1 := fieldW Tryz.underlying28 h hw 1 rfl (by kernel_rfl)
  obtain ⟨v1, g1, _⟩ := DataW.trod_int Tryz.underlying3 g1
  match cs, hl with
  | [a0, a1], _ =>
    simp at g0
    simp at g1
    exact ⟨v0, v1, by simp [g0, g1]⟩
theorem ky_of {w : World} {base fuel : Nat} {sp : Nat → Bool} {held : Bool} {cs : List Value} {x : DataW H × List MemPlace} (h : DataW.trod enc Tryz.prog w base sp held fuel 30 cs = some x) (hw : Sm 30 x.1) :
    ∃ (a b c d : Int), cs = [.int .i64 a, .int .i64 b, .int .i64 c, .int .i64 d] := by
  have hl : cs.length = 4 := trod_len Tryz.underlying30 h (by kernel_rfl)
  obtain ⟨n0, y0, g0, hw0⟩ : ∃ n y, DataW.trod enc Tryz.prog w base sp held n 3 ((cs.drop 0).take 1) = some y ∧ Sm 3 y.1 := fieldW Tryz.underlying30 h hw 0 rfl (by kernel_rfl)
  obtain ⟨v0, g0, _⟩ := DataW.trod_int Tryz.underlying3 g0
  obtain ⟨n1, y1, g1, hw1⟩ : ∃ n y, DataW.trod enc Tryz.prog w base sp held n 3 ((cs.drop 1).take 1) = some y ∧ Sm 3 y.1 := fieldW Tryz.underlying30 h hw 1 rfl (by kernel_rfl)
  obtain ⟨v1, g1, _⟩ := DataW.trod_int Tryz.underlying3 g1
  obtain ⟨n2, y2, g2, hw2⟩ : ∃ n y, DataW.trod enc Tryz.prog w base sp held n 3 ((cs.drop 2).take 1) = some y ∧ Sm 3 y.1 := fieldW Tryz.underlying30 h hw 2 rfl (by kernel_rfl)
  obtain ⟨v2, g2, _⟩ := DataW.trod_int Tryz.underlying3 g2
  obtain ⟨n3, y3, g3, hw3⟩ : ∃ n y, DataW.trod enc Tryz.prog w base sp held n 3 ((cs.drop 3).take 1) = some y ∧ Sm 3 y.1 := fieldW Tryz.underlying30 h hw 3 rfl (by kernel_rfl)
  obtain ⟨v3, g3, _⟩ := DataW.trod_int Tryz.underlying3 g3
  match cs, hl with
  | [a0, a1, a2, a3], _ =>
    simp at g0
    simp at g1
    simp at g2
    simp at g3
    exact ⟨v0, v1, v2, v3, by simp [g0, g1, g2, g3]⟩
theorem st_of {w : World} {base fuel : Nat} {sp : Nat → Bool} {held : Bool} {cs : List Value} {x : DataW H × List MemPlace} (h : DataW.trod enc Tryz.prog w base sp held fuel 32 cs = some x) (hw : Sm 32 x.1) :
    ∃ (a b : Int), cs = [.int .i64 a, .int .i64 b] := by
  have hl : cs.length = 2 := trod_len Tryz.underlying32 h (by kernel_rfl)
  obtain ⟨n0, y0, g0, hw0⟩ : ∃ n y, DataW.trod enc Tryz.prog w base sp held n 3 ((cs.drop 0).take 1) = some y ∧ Sm 3 y.1 := fieldW Tryz.underlying32 h hw 0 rfl (by kernel_rfl)
  obtain ⟨v0, g0, _⟩ := DataW.trod_int Tryz.underlying3 g0
  obtain ⟨n1, y1, g1, hw1⟩ : ∃ n y, DataW.trod enc Tryz.prog w base sp held n 3 ((cs.drop 1).take 1) = some y ∧ Sm 3 y.1 := fieldW Tryz.underlying32 h hw 1 rfl (by kernel_rfl)
  obtain ⟨v1, g1, _⟩ := DataW.trod_int Tryz.underlying3 g1
  match cs, hl with
  | [a0, a1], _ =>
    simp at g0
    simp at g1
    exact ⟨v0, v1, by simp [g0, g1]⟩
theorem fi_of {w : World} {base fuel : Nat} {sp : Nat → Bool} {held : Bool} {cs : List Value} {x : DataW H × List MemPlace} (h : DataW.trod enc Tryz.prog w base sp held fuel 35 cs = some x) (hw : Sm 35 x.1) :
    ∃ (a b : Int), cs = [.int .i64 a, .int .i64 b] := by
  have hl : cs.length = 2 := trod_len Tryz.underlying35 h (by kernel_rfl)
  obtain ⟨n0, y0, g0, hw0⟩ : ∃ n y, DataW.trod enc Tryz.prog w base sp held n 3 ((cs.drop 0).take 1) = some y ∧ Sm 3 y.1 := fieldW Tryz.underlying35 h hw 0 rfl (by kernel_rfl)
  obtain ⟨v0, g0, _⟩ := DataW.trod_int Tryz.underlying3 g0
  obtain ⟨n1, y1, g1, hw1⟩ : ∃ n y, DataW.trod enc Tryz.prog w base sp held n 3 ((cs.drop 1).take 1) = some y ∧ Sm 3 y.1 := fieldW Tryz.underlying35 h hw 1 rfl (by kernel_rfl)
  obtain ⟨v1, g1, _⟩ := DataW.trod_int Tryz.underlying3 g1
  match cs, hl with
  | [a0, a1], _ =>
    simp at g0
    simp at g1
    exact ⟨v0, v1, by simp [g0, g1]⟩
theorem cm_of {w : World} {base fuel : Nat} {sp : Nat → Bool} {held : Bool} {cs : List Value} {x : DataW H × List MemPlace} (h : DataW.trod enc Tryz.prog w base sp held fuel 37 cs = some x) (hw : Sm 37 x.1) :
    ∃ x : Cm, cs = x.cells := by
  have hl : cs.length = 9 := trod_len Tryz.underlying37 h (by kernel_rfl)
  obtain ⟨n0, y0, g0, hw0⟩ : ∃ n y, DataW.trod enc Tryz.prog w base sp held n 3 ((cs.drop 0).take 1) = some y ∧ Sm 3 y.1 := fieldW Tryz.underlying37 h hw 0 rfl (by kernel_rfl)
  obtain ⟨v0, g0, _⟩ := DataW.trod_int Tryz.underlying3 g0
  obtain ⟨n1, y1, g1, hw1⟩ : ∃ n y, DataW.trod enc Tryz.prog w base sp held n 3 ((cs.drop 1).take 1) = some y ∧ Sm 3 y.1 := fieldW Tryz.underlying37 h hw 1 rfl (by kernel_rfl)
  obtain ⟨v1, g1, _⟩ := DataW.trod_int Tryz.underlying3 g1
  obtain ⟨n2, y2, g2, hw2⟩ : ∃ n y, DataW.trod enc Tryz.prog w base sp held n 3 ((cs.drop 2).take 1) = some y ∧ Sm 3 y.1 := fieldW Tryz.underlying37 h hw 2 rfl (by kernel_rfl)
  obtain ⟨v2, g2, _⟩ := DataW.trod_int Tryz.underlying3 g2
  obtain ⟨n3, y3, g3, hw3⟩ : ∃ n y, DataW.trod enc Tryz.prog w base sp held n 9 ((cs.drop 3).take 1) = some y ∧ Sm 9 y.1 := fieldW Tryz.underlying37 h hw 3 rfl (by kernel_rfl)
  obtain ⟨v3, g3, _⟩ := DataW.trod_string Tryz.underlying9 g3
  obtain ⟨n4, y4, g4, hw4⟩ : ∃ n y, DataW.trod enc Tryz.prog w base sp held n 35 ((cs.drop 4).take 2) = some y ∧ Sm 35 y.1 := fieldW Tryz.underlying37 h hw 4 rfl (by kernel_rfl)
  obtain ⟨v4, w4, g4⟩ := fi_of g4 hw4
  obtain ⟨n5, y5, g5, hw5⟩ : ∃ n y, DataW.trod enc Tryz.prog w base sp held n 35 ((cs.drop 6).take 2) = some y ∧ Sm 35 y.1 := fieldW Tryz.underlying37 h hw 5 rfl (by kernel_rfl)
  obtain ⟨v5, w5, g5⟩ := fi_of g5 hw5
  obtain ⟨n6, y6, g6, hw6⟩ : ∃ n y, DataW.trod enc Tryz.prog w base sp held n 3 ((cs.drop 8).take 1) = some y ∧ Sm 3 y.1 := fieldW Tryz.underlying37 h hw 6 rfl (by kernel_rfl)
  obtain ⟨v6, g6, _⟩ := DataW.trod_int Tryz.underlying3 g6
  match cs, hl with
  | [a0, a1, a2, a3, a4, a5, a6, a7, a8], _ =>
    simp at g0
    simp at g1
    simp at g2
    simp at g3
    simp at g4
    simp at g5
    simp at g6
    exact ⟨⟨v0, v1, v2, v3, v4, w4, v5, w5, v6⟩, by simp [Cm.cells, g0, g1, g2, g3, g4, g5, g6]⟩
theorem en_of {w : World} {base fuel : Nat} {sp : Nat → Bool} {held : Bool} {cs : List Value} {x : DataW H × List MemPlace} (h : DataW.trod enc Tryz.prog w base sp held fuel 131 cs = some x) (hw : Sm 131 x.1) :
    ∃ x : En, cs = x.cells := by
  have hl : cs.length = 4 := trod_len Tryz.underlying131 h (by kernel_rfl)
  obtain ⟨n0, y0, g0, hw0⟩ : ∃ n y, DataW.trod enc Tryz.prog w base sp held n 9 ((cs.drop 0).take 1) = some y ∧ Sm 9 y.1 := fieldW Tryz.underlying131 h hw 0 rfl (by kernel_rfl)
  obtain ⟨v0, g0, _⟩ := DataW.trod_string Tryz.underlying9 g0
  obtain ⟨n1, y1, g1, hw1⟩ : ∃ n y, DataW.trod enc Tryz.prog w base sp held n 35 ((cs.drop 1).take 2) = some y ∧ Sm 35 y.1 := fieldW Tryz.underlying131 h hw 1 rfl (by kernel_rfl)
  obtain ⟨v1, w1, g1⟩ := fi_of g1 hw1
  obtain ⟨n2, y2, g2, hw2⟩ : ∃ n y, DataW.trod enc Tryz.prog w base sp held n 3 ((cs.drop 3).take 1) = some y ∧ Sm 3 y.1 := fieldW Tryz.underlying131 h hw 2 rfl (by kernel_rfl)
  obtain ⟨v2, g2, _⟩ := DataW.trod_int Tryz.underlying3 g2
  match cs, hl with
  | [a0, a1, a2, a3], _ =>
    simp at g0
    simp at g1
    simp at g2
    exact ⟨⟨v0, v1, w1, v2⟩, by simp [En.cells, g0, g1, g2]⟩
theorem ls_of {w : World} {base fuel : Nat} {sp : Nat → Bool} {held : Bool} {cs : List Value} {x : DataW H × List MemPlace} (h : DataW.trod enc Tryz.prog w base sp held fuel 133 cs = some x) (hw : Sm 133 x.1) :
    ∃ x : Ls, cs = x.cells := by
  have hl : cs.length = 7 := trod_len Tryz.underlying133 h (by kernel_rfl)
  obtain ⟨n0, y0, g0, hw0⟩ : ∃ n y, DataW.trod enc Tryz.prog w base sp held n 3 ((cs.drop 0).take 1) = some y ∧ Sm 3 y.1 := fieldW Tryz.underlying133 h hw 0 rfl (by kernel_rfl)
  obtain ⟨v0, g0, _⟩ := DataW.trod_int Tryz.underlying3 g0
  obtain ⟨n1, y1, g1, hw1⟩ : ∃ n y, DataW.trod enc Tryz.prog w base sp held n 3 ((cs.drop 1).take 1) = some y ∧ Sm 3 y.1 := fieldW Tryz.underlying133 h hw 1 rfl (by kernel_rfl)
  obtain ⟨v1, g1, _⟩ := DataW.trod_int Tryz.underlying3 g1
  obtain ⟨n2, y2, g2, hw2⟩ : ∃ n y, DataW.trod enc Tryz.prog w base sp held n 3 ((cs.drop 2).take 1) = some y ∧ Sm 3 y.1 := fieldW Tryz.underlying133 h hw 2 rfl (by kernel_rfl)
  obtain ⟨v2, g2, _⟩ := DataW.trod_int Tryz.underlying3 g2
  obtain ⟨n3, y3, g3, hw3⟩ : ∃ n y, DataW.trod enc Tryz.prog w base sp held n 46 ((cs.drop 3).take 1) = some y ∧ Sm 46 y.1 := fieldW Tryz.underlying133 h hw 3 rfl (by kernel_rfl)
  obtain ⟨v3, g3, _⟩ := DataW.trod_int Tryz.underlying46 g3
  obtain ⟨n4, y4, g4, hw4⟩ : ∃ n y, DataW.trod enc Tryz.prog w base sp held n 35 ((cs.drop 4).take 2) = some y ∧ Sm 35 y.1 := fieldW Tryz.underlying133 h hw 4 rfl (by kernel_rfl)
  obtain ⟨v4, w4, g4⟩ := fi_of g4 hw4
  obtain ⟨n5, y5, g5, hw5⟩ : ∃ n y, DataW.trod enc Tryz.prog w base sp held n 3 ((cs.drop 6).take 1) = some y ∧ Sm 3 y.1 := fieldW Tryz.underlying133 h hw 5 rfl (by kernel_rfl)
  obtain ⟨v5, g5, _⟩ := DataW.trod_int Tryz.underlying3 g5
  match cs, hl with
  | [a0, a1, a2, a3, a4, a5, a6], _ =>
    simp at g0
    simp at g1
    simp at g2
    simp at g3
    simp at g4
    simp at g5
    exact ⟨⟨v0, v1, v2, v3, v4, w4, v5⟩, by simp [Ls.cells, g0, g1, g2, g3, g4, g5]⟩
theorem bk_of {w : World} {base fuel : Nat} {sp : Nat → Bool} {held : Bool} {cs : List Value} {x : DataW H × List MemPlace} (h : DataW.trod enc Tryz.prog w base sp held fuel 41 cs = some x) (hw : Sm 41 x.1) :
    ∃ (u : Int) (ens lss : Value) (n1 n2 : Nat) (y1 y2 : DataW H × List MemPlace), DataW.trod enc Tryz.prog w base sp held n1 38 [ens] = some y1 ∧ Sm 38 y1.1 ∧ DataW.trod enc Tryz.prog w base sp held n2 39 [lss] = some y2 ∧ Sm 39 y2.1 ∧ cs = [.int .i64 u, ens, lss] := by
  have hl : cs.length = 3 := trod_len Tryz.underlying41 h (by kernel_rfl)
  obtain ⟨n0, y0, g0, hw0⟩ : ∃ n y, DataW.trod enc Tryz.prog w base sp held n 3 ((cs.drop 0).take 1) = some y ∧ Sm 3 y.1 := fieldW Tryz.underlying41 h hw 0 rfl (by kernel_rfl)
  obtain ⟨v0, g0, _⟩ := DataW.trod_int Tryz.underlying3 g0
  obtain ⟨n1, y1, g1, hw1⟩ : ∃ n y, DataW.trod enc Tryz.prog w base sp held n 38 ((cs.drop 1).take 1) = some y ∧ Sm 38 y.1 := fieldW Tryz.underlying41 h hw 1 rfl (by kernel_rfl)
  obtain ⟨n2, y2, g2, hw2⟩ : ∃ n y, DataW.trod enc Tryz.prog w base sp held n 39 ((cs.drop 2).take 1) = some y ∧ Sm 39 y.1 := fieldW Tryz.underlying41 h hw 2 rfl (by kernel_rfl)
  match cs, hl with
  | [a0, a1, a2], _ =>
    simp at g0
    simp at g1
    simp at g2
    exact ⟨v0, a1, a2, n1, n2, y1, y2, g1, hw1, g2, hw2, by simp [g0]⟩
theorem cg_of {w : World} {base fuel : Nat} {sp : Nat → Bool} {held : Bool} {cs : List Value} {x : DataW H × List MemPlace} (h : DataW.trod enc Tryz.prog w base sp held fuel 24 cs = some x) (hw : Sm 24 x.1) :
    ∃ (F P B L R : Int) (srv : Value) (n1 : Nat) (y1 : DataW H × List MemPlace), DataW.trod enc Tryz.prog w base sp held n1 22 [srv] = some y1 ∧ Sm 22 y1.1 ∧ cs = [srv, .int .i64 F, .int .i64 P, .int .i64 B, .int .i64 L, .int .i64 R] := by
  have hl : cs.length = 6 := trod_len Tryz.underlying24 h (by kernel_rfl)
  obtain ⟨n0, y0, g0, hw0⟩ : ∃ n y, DataW.trod enc Tryz.prog w base sp held n 22 ((cs.drop 0).take 1) = some y ∧ Sm 22 y.1 := fieldW Tryz.underlying24 h hw 0 rfl (by kernel_rfl)
  obtain ⟨n1, y1, g1, hw1⟩ : ∃ n y, DataW.trod enc Tryz.prog w base sp held n 3 ((cs.drop 1).take 1) = some y ∧ Sm 3 y.1 := fieldW Tryz.underlying24 h hw 1 rfl (by kernel_rfl)
  obtain ⟨v1, g1, _⟩ := DataW.trod_int Tryz.underlying3 g1
  obtain ⟨n2, y2, g2, hw2⟩ : ∃ n y, DataW.trod enc Tryz.prog w base sp held n 3 ((cs.drop 2).take 1) = some y ∧ Sm 3 y.1 := fieldW Tryz.underlying24 h hw 2 rfl (by kernel_rfl)
  obtain ⟨v2, g2, _⟩ := DataW.trod_int Tryz.underlying3 g2
  obtain ⟨n3, y3, g3, hw3⟩ : ∃ n y, DataW.trod enc Tryz.prog w base sp held n 3 ((cs.drop 3).take 1) = some y ∧ Sm 3 y.1 := fieldW Tryz.underlying24 h hw 3 rfl (by kernel_rfl)
  obtain ⟨v3, g3, _⟩ := DataW.trod_int Tryz.underlying3 g3
  obtain ⟨n4, y4, g4, hw4⟩ : ∃ n y, DataW.trod enc Tryz.prog w base sp held n 3 ((cs.drop 4).take 1) = some y ∧ Sm 3 y.1 := fieldW Tryz.underlying24 h hw 4 rfl (by kernel_rfl)
  obtain ⟨v4, g4, _⟩ := DataW.trod_int Tryz.underlying3 g4
  obtain ⟨n5, y5, g5, hw5⟩ : ∃ n y, DataW.trod enc Tryz.prog w base sp held n 3 ((cs.drop 5).take 1) = some y ∧ Sm 3 y.1 := fieldW Tryz.underlying24 h hw 5 rfl (by kernel_rfl)
  obtain ⟨v5, g5, _⟩ := DataW.trod_int Tryz.underlying3 g5
  match cs, hl with
  | [a0, a1, a2, a3, a4, a5], _ =>
    simp at g0
    simp at g1
    simp at g2
    simp at g3
    simp at g4
    simp at g5
    exact ⟨v1, v2, v3, v4, v5, a0, n0, y0, g0, hw0, by simp [g1, g2, g3, g4, g5]⟩
theorem ms_of {w : World} {base fuel : Nat} {sp : Nat → Bool} {held : Bool} {cs : List Value} {x : DataW H × List MemPlace} (h : DataW.trod enc Tryz.prog w base sp held fuel 44 cs = some x) (hw : Sm 44 x.1) :
    ∃ (m : Mh) (blk ens lss cms : Value) (n1 n2 n3 n4 : Nat) (y1 y2 y3 y4 : DataW H × List MemPlace), DataW.trod enc Tryz.prog w base sp held n1 33 [blk] = some y1 ∧ Sm 33 y1.1 ∧ DataW.trod enc Tryz.prog w base sp held n2 38 [ens] = some y2 ∧ Sm 38 y2.1 ∧ DataW.trod enc Tryz.prog w base sp held n3 39 [lss] = some y3 ∧ Sm 39 y3.1 ∧ DataW.trod enc Tryz.prog w base sp held n4 42 [cms] = some y4 ∧ Sm 42 y4.1 ∧ cs = m.cells blk ens lss cms := by
  have hl : cs.length = 30 := trod_len Tryz.underlying44 h (by kernel_rfl)
  obtain ⟨n0, y0, g0, hw0⟩ : ∃ n y, DataW.trod enc Tryz.prog w base sp held n 3 ((cs.drop 0).take 1) = some y ∧ Sm 3 y.1 := fieldW Tryz.underlying44 h hw 0 rfl (by kernel_rfl)
  obtain ⟨v0, g0, _⟩ := DataW.trod_int Tryz.underlying3 g0
  obtain ⟨n1, y1, g1, hw1⟩ : ∃ n y, DataW.trod enc Tryz.prog w base sp held n 28 ((cs.drop 1).take 2) = some y ∧ Sm 28 y.1 := fieldW Tryz.underlying44 h hw 1 rfl (by kernel_rfl)
  obtain ⟨v1, w1, g1⟩ := ad_of g1 hw1
  obtain ⟨n2, y2, g2, hw2⟩ : ∃ n y, DataW.trod enc Tryz.prog w base sp held n 28 ((cs.drop 3).take 2) = some y ∧ Sm 28 y.1 := fieldW Tryz.underlying44 h hw 2 rfl (by kernel_rfl)
  obtain ⟨v2, w2, g2⟩ := ad_of g2 hw2
  obtain ⟨n3, y3, g3, hw3⟩ : ∃ n y, DataW.trod enc Tryz.prog w base sp held n 3 ((cs.drop 5).take 1) = some y ∧ Sm 3 y.1 := fieldW Tryz.underlying44 h hw 3 rfl (by kernel_rfl)
  obtain ⟨v3, g3, _⟩ := DataW.trod_int Tryz.underlying3 g3
  obtain ⟨n4, y4, g4, hw4⟩ : ∃ n y, DataW.trod enc Tryz.prog w base sp held n 3 ((cs.drop 6).take 1) = some y ∧ Sm 3 y.1 := fieldW Tryz.underlying44 h hw 4 rfl (by kernel_rfl)
  obtain ⟨v4, g4, _⟩ := DataW.trod_int Tryz.underlying3 g4
  obtain ⟨n5, y5, g5, hw5⟩ : ∃ n y, DataW.trod enc Tryz.prog w base sp held n 30 ((cs.drop 7).take 4) = some y ∧ Sm 30 y.1 := fieldW Tryz.underlying44 h hw 5 rfl (by kernel_rfl)
  obtain ⟨v5, w5, x5, z5, g5⟩ := ky_of g5 hw5
  obtain ⟨n6, y6, g6, hw6⟩ : ∃ n y, DataW.trod enc Tryz.prog w base sp held n 32 ((cs.drop 11).take 2) = some y ∧ Sm 32 y.1 := fieldW Tryz.underlying44 h hw 6 rfl (by kernel_rfl)
  obtain ⟨v6, w6, g6⟩ := st_of g6 hw6
  obtain ⟨n7, y7, g7, hw7⟩ : ∃ n y, DataW.trod enc Tryz.prog w base sp held n 32 ((cs.drop 13).take 2) = some y ∧ Sm 32 y.1 := fieldW Tryz.underlying44 h hw 7 rfl (by kernel_rfl)
  obtain ⟨v7, w7, g7⟩ := st_of g7 hw7
  obtain ⟨n8, y8, g8, hw8⟩ : ∃ n y, DataW.trod enc Tryz.prog w base sp held n 33 ((cs.drop 15).take 1) = some y ∧ Sm 33 y.1 := fieldW Tryz.underlying44 h hw 8 rfl (by kernel_rfl)
  obtain ⟨n9, y9, g9, hw9⟩ : ∃ n y, DataW.trod enc Tryz.prog w base sp held n 37 ((cs.drop 16).take 9) = some y ∧ Sm 37 y.1 := fieldW Tryz.underlying44 h hw 9 rfl (by kernel_rfl)
  obtain ⟨v9, g9⟩ := cm_of g9 hw9
  obtain ⟨n10, y10, g10, hw10⟩ : ∃ n y, DataW.trod enc Tryz.prog w base sp held n 41 ((cs.drop 25).take 3) = some y ∧ Sm 41 y.1 := fieldW Tryz.underlying44 h hw 10 rfl (by kernel_rfl)
  obtain ⟨u10, ens, lss, m1, m2, z1, z2, q1, qq1, q2, qq2, g10⟩ := bk_of g10 hw10
  obtain ⟨n11, y11, g11, hw11⟩ : ∃ n y, DataW.trod enc Tryz.prog w base sp held n 42 ((cs.drop 28).take 1) = some y ∧ Sm 42 y.1 := fieldW Tryz.underlying44 h hw 11 rfl (by kernel_rfl)
  obtain ⟨n12, y12, g12, hw12⟩ : ∃ n y, DataW.trod enc Tryz.prog w base sp held n 4 ((cs.drop 29).take 1) = some y ∧ Sm 4 y.1 := fieldW Tryz.underlying44 h hw 12 rfl (by kernel_rfl)
  obtain ⟨v12, g12, _⟩ := DataW.trod_bool Tryz.underlying4 g12
  match cs, hl with
  | [a0, a1, a2, a3, a4, a5, a6, a7, a8, a9, a10, a11, a12, a13, a14, a15, a16, a17, a18, a19, a20, a21, a22, a23, a24, a25, a26, a27, a28, a29], _ =>
    simp at g0
    simp at g1
    simp at g2
    simp at g3
    simp at g4
    simp at g5
    simp at g6
    simp at g7
    simp at g8
    simp [Cm.cells] at g9
    simp at g10
    simp at g11
    simp at g12
    exact ⟨⟨v0, v1, w1, v2, w2, v3, v4, v5, w5, x5, z5, v6, w6, v7, w7, v9, u10, v12⟩, a15, ens, lss, a28, n8, m1, m2, n11, y8, z1, z2, y11, g8, hw8, q1, qq1, q2, qq2, g11, hw11, by simp [Mh.cells, g0, g1, g2, g3, g4, g5, g6, g7, g9, g10, g12]⟩
theorem weightsAll_mem {e : TypeId} : ∀ {l : List (DataW H)} {d : DataW H} {k : Nat}, d ∈ l → k ∈ d.weights Tryz.prog e → k ∈ DataW.weightsAll Tryz.prog e l
  | d0 :: l, d, k, hd, hk => by
    simp only [DataW.weightsAll, List.mem_append]
    rcases List.mem_cons.1 hd with rfl | hd
    · exact .inl hk
    · exact .inr (weightsAll_mem hd hk)
end

theorem reach_le : reachBytes ≤ 4611686018427387903 := by decide
/-- a slice of rows of plain cells, opened -/
structure Opn (W : World) [WI] (u : Value) (t : TypeId) (m n : Nat) (f : Nat → List Value) where
  l : X.Loc
  mat : ∀ env, Mat env W l (.arg t m n f)
  blk : 2 ≤ l.cap → l.blk < W.heap.size
  ren : ren (fun _ => l) (.slice (some ⟨0, 3, some 0⟩) n 0) = u
section
variable {H : Type} {enc : TypeId × Value → H}
theorem arg_of_trod {α : Type} [Inhabited α] (cf : α → List Value) (hp : ∀ s, (cf s).all plainC = true) {W : World} [WI] {held : Bool} {e t : TypeId} {m : Nat} (hm : 0 < m)
    (hof : ∀ (fuel : Nat) (us : List Value) (x : DataW H × List MemPlace), DataW.trod enc Tryz.prog W 0 (fun _ => true) held fuel e us = some x → Sm e x.1 → ∃ s : α, us = cf s)
    (ht : Tryz.prog.underlying t = some (.slice e)) (hc : Tryz.prog.cellsOf e = m) (hbt : 0 < Tryz.prog.bytesOf e) {fuel : Nat} {u : Value} {x : DataW H × List MemPlace} (h : DataW.trod enc Tryz.prog W 0 (fun _ => true) held fuel t [u] = some x) (hw : Sm t x.1) :
    ∃ (n : Nat) (st : Nat → α), n ≤ 4611686018427387903 ∧ Nonempty (Opn W u e m n fun r => cf (st r)) := by
  rcases DataW.trod_slice ht h with ⟨hu, _⟩ | ⟨a, len, cap, elems, rest, k, rfl, hu, rfl, _, hl, hmx, hlen, hel, hsp, _⟩
  · simp at hu
    subst hu
    refine ⟨0, fun _ => default, Nat.zero_le _, ⟨⟨⟨0, 0, 0, 0⟩, fun env => nil_mat env, fun h => by simp at h, ?_⟩⟩⟩
    rw [ren_slice3 _ (a := ⟨0, 3, some 0⟩) _ _ rfl]
  · simp at hu
    subst hu
    have hwn : len ≤ 4611686018427387903 := by
      have := hw ((elems.length + rest.length) * Tryz.prog.bytesOf e) (by simp [DataW.weights, ht])
      have h2 : len * 1 ≤ (elems.length + rest.length) * Tryz.prog.bytesOf e := Nat.mul_le_mul (by omega) hbt
      have := reach_le
      omega
    by_cases hcap : cap = 0
    · have hlen0 : len = 0 := by omega
      subst hcap
      subst hlen0
      refine ⟨0, fun _ => default, Nat.zero_le _, ⟨⟨⟨a.block, a.off, match a.spot with | none => 0 | some r => r + 1, 1⟩, fun env => ⟨fun _ => rfl, fun h => by simp at h, fun q hq => absurd hq (Nat.not_lt_zero q)⟩, fun h => by simp at h, ?_⟩⟩⟩
      rw [ren_slice3 _ (a := ⟨0, 3, some 0⟩) _ _ rfl]
      obtain ⟨b, o, s⟩ := a
      cases s <;> rfl
    · obtain ⟨hrl, hrest⟩ := hsp rfl
      have first : ∃ cs0, W.cells? 0 a m = some cs0 := by
        by_cases hl0 : 0 < len
        · have := hel 0 hl0
          rw [List.getElem?_eq_getElem (by omega)] at this
          obtain ⟨cs0, h1, _⟩ := Option.bind_eq_some_iff.1 this
          rw [hc, Nat.zero_mul] at h1
          have ha : a.add 0 = a := by unfold Addr.add; simp
          rw [ha] at h1
          exact ⟨cs0, h1⟩
        · have := hrest 0 (by omega)
          rw [List.getElem?_eq_getElem (by omega)] at this
          obtain ⟨cs0, h1, _⟩ := Option.bind_eq_some_iff.1 this
          have hl00 : len = 0 := by omega
          rw [hc, hl00] at h1
          simp only [Nat.add_zero, Nat.zero_mul] at h1
          have ha : a.add 0 = a := by unfold Addr.add; simp
          rw [ha] at h1
          exact ⟨cs0, h1⟩
      obtain ⟨cs0, hcs0⟩ := first
      obtain ⟨hs, hb⟩ := cells_spot hcs0 hm
      have key : ∀ i, ∃ s : α, i < len → (cf s).length = m ∧ W.rangeAt a.block (a.off + i * m) (cf s) := fun i => by
        by_cases hi : i < len
        · have := hel i hi
          have hlt : i < elems.length := by omega
          rw [List.getElem?_eq_getElem hlt] at this
          obtain ⟨us, h1, h2⟩ := Option.bind_eq_some_iff.1 this
          obtain ⟨s, rfl⟩ := hof _ _ _ h2 (fun k hk => hw k (by
            simp only [DataW.weights, ht]
            refine List.mem_cons_of_mem _ (List.mem_append_left _ ?_)
            exact weightsAll_mem (List.mem_map_of_mem (List.getElem_mem hlt)) hk))
          rw [hc] at h1
          obtain ⟨e1, e2, e3⟩ := add_spot (i * m) hs
          obtain ⟨h3, h4⟩ := cells_range e1 h1
          rw [e2, e3] at h4
          exact ⟨s, fun _ => ⟨h3, h4⟩⟩
        · exact ⟨default, fun h => absurd h hi⟩
      obtain ⟨st, hst⟩ := Classical.axiomOfChoice key
      refine ⟨len, st, hwn, ⟨⟨⟨a.block, a.off, m, cap + 1⟩, fun env => ⟨fun h => by simp at h; omega, fun _ => ⟨rfl, by simp; omega⟩, fun r hr => ⟨(hst r hr).1, hp _, (hst r hr).2⟩⟩, fun _ => hb, ?_⟩⟩⟩
      match cap, hcap with
      | k + 1, _ =>
        rw [ren_slice3 _ (a := ⟨0, 3, some 0⟩) _ _ rfl]
        obtain ⟨b, o, s⟩ := a
        simp only at hs
        subst hs
        simp [renA]
end
/-- places that were there at the start -/
theorem repW_ofA {W : World} [WI] (hI : WI.I W) (hn : WI.n ≤ W.heap.size) {envs : Nat → X.Loc} {Vs : VW} (h : RepA envs Vs W) : RepW envs Vs W := by
  refine ⟨fun i o hi => ?_, fun i o hi => ?_, fun i o hi hB => ?_, fun i j oi oj hi hj hij hw hl hBi hBj => ?_, hI, fun i o hi ho => ?_, hn⟩
  · obtain ⟨t, m, n, f, rfl, hm, _⟩ := h i o hi; exact hm _
  · obtain ⟨t, m, n, f, rfl, _, _⟩ := h i o hi; trivial
  · obtain ⟨t, m, n, f, rfl, _, hb⟩ := h i o hi; exact hb hB
  · obtain ⟨t, m, n, f, rfl, _, hb⟩ := h i oi hi; cases hw
  · obtain ⟨t, m, n, f, rfl, _, hb⟩ := h i o hi; exact absurd ho.1 Bool.noConfusion
theorem ren_sl3 (env : Nat → X.Loc) (p n : Nat) : ren env (sl3 p n) = ren (fun _ => env p) (.slice (some ⟨0, 3, some 0⟩) n 0) := by
  unfold sl3
  rw [ren_slice3 _ (a := ⟨p, 3, some 0⟩) _ _ rfl, ren_slice3 _ (a := ⟨0, 3, some 0⟩) _ _ rfl]
  simp [renA]
theorem repA_nil [WI] (W : World) : RepA (fun _ => default) [] W := fun i o hi => by simp at hi
theorem ownKnobs : ownKnob Tryz.prog.godebug = none := by kernel_rfl
theorem laid : laidOutB Tryz.prog = true := by kernel_rfl
/-- nothing but places that are only read: what there was stays -/
theorem below_args [WI] {env env' : Nat → X.Loc} {V V' : VW} {w w' : World} (hF : Fr env V w env' V' w') (h : ∀ (i : Nat) (o : VObj), V[i]? = some o → o.owned = false) : RowKit.Below w.heap.size w w' := Fr.below hF h
end Go.Msg
