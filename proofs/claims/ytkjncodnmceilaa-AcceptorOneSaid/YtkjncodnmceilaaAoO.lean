/- AcceptorOne: the law cairnlaw8.AcceptorOne returns true for every number and every list of acts, and its input reads as it did; without any condition. -/
import Derived.Test.YtkjncodnmceilaaAoWA
import Derived.WalkKit
import Derived.ProofKit
import Derived.OpenShut
import Derived.ShutString
import Derived.ChangeOld
import Derived.Below
import Derived.SizedLaws
import Derived.Carry
import Derived.Test.YtkjncodnmceilaaXOpen2
import Derived.Test.YtkjncodnmceilaaRows
set_option linter.unusedSimpArgs false
set_option linter.unusedVariables false
set_option maxRecDepth 100000
namespace Go.Acc
open Go Go.X Go.Proofs
open Go.ChangeShapes Go.WideShapes Go.ChangeAt Go.RowKit

theorem ownKnobs : ownKnob Try.prog.godebug = none := by kernel_rfl
theorem laid : laidOutB Try.prog = true := by kernel_rfl

section
variable {H : Type} {enc : TypeId × Value → H} {P : Program}
theorem trod_len {w : World} {base fuel : Nat} {sp : Nat → Bool} {held : Bool} {t : TypeId} {cs : List Value} {x : DataW H × List MemPlace} {fs : Array Field} {n : Nat} (ht : P.underlying t = some (.struct fs))
    (h : DataW.trod enc P w base sp held fuel t cs = some x) (hc : P.cellsOf t = n) : cs.length = n := by
  obtain ⟨_, _, _, _, hl, _⟩ := DataW.trod_struct ht h
  exact hl.trans hc

theorem trod_field {w : World} {base fuel : Nat} {sp : Nat → Bool} {held : Bool} {t : TypeId} {cs : List Value} {x : DataW H × List MemPlace} {fs : Array Field} {k : Nat} (ht : P.underlying t = some (.struct fs))
    (h : DataW.trod enc P w base sp held fuel t cs = some x) (i : Nat) {f : Field} (hf : fs[i]? = some f) (hc : P.cellsOf f.type = k) :
    ∃ n y, DataW.trod enc P w base sp held n f.type ((cs.drop f.offset).take k) = some y := by
  obtain ⟨xs, n, _, _, _, hx, hi⟩ := DataW.trod_struct ht h
  have := hi i f hf
  have hlt : i < xs.length := by
    rw [hx]
    exact (Array.getElem?_eq_some_iff.1 hf).1
  rw [hc, List.getElem?_eq_getElem hlt] at this
  exact ⟨n, _, this⟩

theorem cells_range {w : World} {a : Addr} {n : Nat} {cs : List Value} (hs : a.spot = none) (h : w.cells? 0 a n = some cs) : cs.length = n ∧ w.rangeAt a.block a.off cs := by
  unfold World.cells? at h
  rw [if_pos (Nat.zero_le _)] at h
  have hl := mapM_some_length h
  have hl' : cs.length = n := by simpa using hl
  refine ⟨hl', fun j v hj => ?_⟩
  have hjn : j < n := by
    have := (List.getElem?_eq_some_iff.1 hj).1
    omega
  have := mapM_some_get h j j (by simp [hjn])
  rw [hj] at this
  rw [← this]
  congr 1
  unfold Addr.add
  split
  · rename_i h0
    subst h0
    cases a; simp_all
  · rfl

/-- an argument that is a slice of structures: nil, or rows that are known -/
theorem open_rows {α : Type} [Inhabited α] (cf : α → List Value) {W : World} {b0 : Nat} {sp : Nat → Bool} {held : Bool} {t e : TypeId} {m : Nat} {v : Value} {d : DataW H} {p : List MemPlace}
    (hof : ∀ (fuel : Nat) (cs : List Value) (x : DataW H × List MemPlace), DataW.trod enc P W 0 sp held fuel e cs = some x → ∃ s : α, cs = cf s)
    (ht : P.underlying t = some (.slice e)) (hc : P.cellsOf e = m) (hval : Value.okWide P W .any b0 t v) (hd : DataW.Trod enc P W 0 sp held t v d p) :
    v = .slice none 0 0 ∨ ∃ (a : Addr) (len cap : Nat) (st : Nat → α), v = .slice (some a) len cap ∧ a.spot = none ∧ a.block < W.heap.size ∧ len ≤ cap ∧ cap ≤ maxLen ∧
      ∀ i, i < len → W.rangeAt a.block (a.off + i * m) (cf (st i)) := by
  obtain ⟨ao, len, cap, rfl⟩ := okWide_slice ht hval
  obtain ⟨fuel, hf⟩ := hd
  rcases DataW.trod_slice ht hf with ⟨h, _⟩ | ⟨a, l, c, elems, rest, n, _, h, _, _, hl, hm, hlen, hel, _⟩
  · left
    simpa [Value.cells] using h
  · right
    simp [Value.cells] at h
    obtain ⟨rfl, rfl, rfl⟩ := h
    simp only [Value.okWide, ht, Cell.okWide, Cell.ok] at hval
    obtain ⟨_, _, _, hs, row, cells, hsh, _⟩ := hval
    have hb : a.block < W.heap.size := by
      unfold World.shape? at hsh
      split at hsh
      · rename_i h1
        exact (Array.getElem?_eq_some_iff.1 h1).1
      · cases hsh
    have key : ∀ i, ∃ s : α, i < len → W.rangeAt a.block (a.off + i * m) (cf s) := fun i => by
      by_cases hi : i < len
      · have := hel i hi
        rw [List.getElem?_eq_getElem (by omega)] at this
        obtain ⟨cs, h1, h2⟩ := Option.bind_eq_some_iff.1 this
        obtain ⟨s, rfl⟩ := hof _ _ _ h2
        rw [hc] at h1
        have hs2 : (a.add (i * m)).spot = none := by unfold Addr.add; split <;> simp [hs]
        obtain ⟨_, hr⟩ := cells_range hs2 h1
        have e1 : (a.add (i * m)).block = a.block := by unfold Addr.add; split <;> rfl
        have e2 : (a.add (i * m)).off = a.off + i * m := by
          unfold Addr.add
          split
          · rename_i h0; simp [h0]
          · rfl
        rw [e1, e2] at hr
        exact ⟨s, fun _ => hr⟩
      · exact ⟨default, fun h => absurd h hi⟩
    obtain ⟨st, hst⟩ := Classical.axiomOfChoice key
    exact ⟨a, len, cap, st, rfl, hs, hb, hl, hm, hst⟩

end

section
variable {H : Type} {enc : TypeId × Value → H}
theorem GStamp.of_trod {w : World} {base fuel : Nat} {sp : Nat → Bool} {held : Bool} {cs : List Value} {x : DataW H × List MemPlace} (h : DataW.trod enc Try.prog w base sp held fuel 26 cs = some x) : ∃ s : GStamp, cs = s.c := by
  have hl : cs.length = 2 := trod_len Try.underlying26 h (by kernel_rfl)
  obtain ⟨n0, y0, g0⟩ : ∃ n y, DataW.trod enc Try.prog w base sp held n 3 ((cs.drop 0).take 1) = some y := trod_field Try.underlying26 h 0 rfl (by kernel_rfl)
  obtain ⟨s0, g0, _⟩ := DataW.trod_int Try.underlying3 g0
  obtain ⟨n1, y1, g1⟩ : ∃ n y, DataW.trod enc Try.prog w base sp held n 3 ((cs.drop 1).take 1) = some y := trod_field Try.underlying26 h 1 rfl (by kernel_rfl)
  obtain ⟨s1, g1, _⟩ := DataW.trod_int Try.underlying3 g1
  match cs, hl with
  | [a0, a1], _ =>
    simp [] at g0
    simp [] at g1
    refine ⟨⟨s0, s1⟩, ?_⟩
    simp [GStamp.c, g0, g1]
theorem GAct.of_trod {w : World} {base fuel : Nat} {sp : Nat → Bool} {held : Bool} {cs : List Value} {x : DataW H × List MemPlace} (h : DataW.trod enc Try.prog w base sp held fuel 73 cs = some x) : ∃ s : GAct, cs = s.c := by
  have hl : cs.length = 6 := trod_len Try.underlying73 h (by kernel_rfl)
  obtain ⟨n0, y0, g0⟩ : ∃ n y, DataW.trod enc Try.prog w base sp held n 3 ((cs.drop 0).take 1) = some y := trod_field Try.underlying73 h 0 rfl (by kernel_rfl)
  obtain ⟨s0, g0, _⟩ := DataW.trod_int Try.underlying3 g0
  obtain ⟨n1, y1, g1⟩ : ∃ n y, DataW.trod enc Try.prog w base sp held n 3 ((cs.drop 1).take 1) = some y := trod_field Try.underlying73 h 1 rfl (by kernel_rfl)
  obtain ⟨s1, g1, _⟩ := DataW.trod_int Try.underlying3 g1
  obtain ⟨n2, y2, g2⟩ : ∃ n y, DataW.trod enc Try.prog w base sp held n 3 ((cs.drop 2).take 1) = some y := trod_field Try.underlying73 h 2 rfl (by kernel_rfl)
  obtain ⟨s2, g2, _⟩ := DataW.trod_int Try.underlying3 g2
  obtain ⟨n3, y3, g3⟩ : ∃ n y, DataW.trod enc Try.prog w base sp held n 26 ((cs.drop 3).take 2) = some y := trod_field Try.underlying73 h 3 rfl (by kernel_rfl)
  obtain ⟨s3, g3⟩ := GStamp.of_trod g3
  obtain ⟨n4, y4, g4⟩ : ∃ n y, DataW.trod enc Try.prog w base sp held n 4 ((cs.drop 5).take 1) = some y := trod_field Try.underlying73 h 4 rfl (by kernel_rfl)
  obtain ⟨s4, g4, _⟩ := DataW.trod_bool Try.underlying4 g4
  match cs, hl with
  | [a0, a1, a2, a3, a4, a5], _ =>
    simp at g0
    simp at g1
    simp at g2
    simp [GStamp.c] at g3
    simp at g4
    refine ⟨⟨s0, s1, s2, s3, s4⟩, ?_⟩
    simp [GAct.c, g0, g1, g2, g3, g4]

theorem int_of {W : World} {sp : Nat → Bool} {held : Bool} {b0 : Nat} {v : Value} {d : DataW H} {p : List MemPlace} (hval : Value.okWide Try.prog W .any b0 3 v) (hd : DataW.Trod enc Try.prog W 0 sp held 3 v d p) : ∃ f : Int, v = .int .i64 f := by
  simp only [Value.okWide, Cell.okWide, Cell.ok, Try.underlying3] at hval
  cases v with
  | int k n =>
    obtain ⟨rfl, _⟩ := hval
    exact ⟨n, rfl⟩
  | _ => first | exact hval.elim | (simp at hval)

theorem law_one {W : World} {b0 b1 : Nat} {sp sp' : Nat → Bool} {held held' : Bool} {v0 v1 : Value} {d0 d1 : DataW H} {p0 p1 : List MemPlace} (hv0 : Value.okWide Try.prog W .any b0 3 v0) (h0 : DataW.Trod enc Try.prog W 0 sp held 3 v0 d0 p0)
    (hv1 : Value.okWide Try.prog W .any b1 65 v1) (h1 : DataW.Trod enc Try.prog W 0 sp' held' 65 v1 d1 p1) :
    Calls Try.prog 9 #[v0, v1] W fun e W' => e = .returned (.bool true) ∧ Below W.heap.size W W' := by
  letI := oldWI W
  obtain ⟨f, rfl⟩ := int_of hv0 h0
  have go : ∀ (l : X.Loc) (N : Nat) (A : Nat → GAct) (u : Value), N ≤ 9223372036854775807 → ren (fun _ => l) (sA N) = u → (l.cap < 2 → N = 0) → (2 ≤ l.cap → l.m = 6 ∧ N + 1 ≤ l.cap ∧ l.blk < W.heap.size) →
      (∀ r, r < N → W.rangeAt l.blk (l.base + r * 6) (A r).c) → Calls Try.prog 9 #[.int .i64 f, u] W fun e W' => e = .returned (.bool true) ∧ Below W.heap.size W W' := by
    intro l N A u hN hu g0 g1 g2
    have hrep : RepW (fun _ => l) (e0V N A) W := by
      refine ⟨fun i o hi => ?_, fun i o hi => ?_, fun i o hi hB => ?_, fun i j oi oj hi hj hij => ?_, fun b hb => rfl, fun i o hi ho => ?_, Nat.le_refl _⟩
      · match i, hi with
        | 0, hi => cases hi; exact ⟨g0, fun h => ⟨(g1 h).1, (g1 h).2.1⟩, fun r hr => ⟨rfl, rfl, g2 r hr⟩⟩
      · match i, hi with
        | 0, hi => cases hi; trivial
      · match i, hi with
        | 0, hi => cases hi; exact (g1 hB).2.2
      · match i, j, hi, hj with
        | 0, 0, _, _ => exact absurd rfl hij
      · match i, hi with
        | 0, hi => cases hi; cases ho.1
    have hc := one_calls N A f hN (fun _ => l) W hrep
    rw [hu] at hc
    exact hc
  rcases open_rows GAct.c (fun _ _ _ h => GAct.of_trod h) Try.underlying65 (m := 6) (by kernel_rfl) hv1 h1 with rfl | ⟨a, n, cap, st, rfl, hs, hb, hl, hm, hr⟩
  · refine go ⟨0, 0, 0, 0⟩ 0 (fun _ => default) _ (by omega) ?_ (fun _ => rfl) (fun h => by simp at h) (fun r hr => absurd hr (Nat.not_lt_zero r))
    rw [sA, ren_slice3 _ (a := ⟨0, 3, some 0⟩) _ _ rfl]
  · have hle : n ≤ 9223372036854775807 := by
      have : maxLen ≤ 9223372036854775807 := by decide
      omega
    obtain ⟨b, o, s⟩ := a
    simp only at hs
    subst hs
    by_cases hcap : cap = 0
    · have hlen0 : n = 0 := by omega
      subst hcap
      subst hlen0
      refine go ⟨b, o, 0, 1⟩ 0 (fun _ => default) _ (by omega) ?_ (fun _ => rfl) (fun h => by simp at h) (fun r hr => absurd hr (Nat.not_lt_zero r))
      rw [sA, ren_slice3 _ (a := ⟨0, 3, some 0⟩) _ _ rfl]
      rfl
    · refine go ⟨b, o, 6, cap + 1⟩ n st _ hle ?_ (fun h => by simp at h; omega) (fun _ => ⟨rfl, by simp; omega, hb⟩) hr
      match cap, hcap with
      | k + 1, _ =>
        rw [sA, ren_slice3 _ (a := ⟨0, 3, some 0⟩) _ _ rfl]
        simp [renA]
end

set_option maxRecDepth 100000 in
theorem acceptorOne_lifted (os : Os) (started : os.Started) (H : Type) (enc : TypeId × Value → H) :
    ReturnsInHanded {} Try.checked os 9 .any (Go.Proofs.Ytkjncodnmceilaa.Rows.acceptorOneSpec.pre6 enc Try.prog Try.f9 Go.Proofs.Ytkjncodnmceilaa.Rows.acceptorOneRow.domain false) (Go.Proofs.Ytkjncodnmceilaa.Rows.acceptorOneSpec.post enc Try.prog Try.f9 false true false false) := by
  refine returnsInHanded_of_change_sized (C := Try.checked) ownKnobs started (by kernel_rfl) Try.func9
    (ChangeSpec.witness6 (enc := enc) (C := Try.checked) false ⟨#[], #[.int .i64 0, .slice none 0 0], []⟩ 8 (by kernel_rfl) (by kernel_rfl) (by kernel_rfl) (by kernel_rfl)) ?_
  intro W base args ds gs before hval0 hW hcnd hsz0 _
  have hW' := hW
  obtain ⟨p, q, hA0, hV, rfl, hfz, hnd⟩ := hW
  have hA : DataW.TrodAll enc Try.prog W 0 (fun _ => true) true Try.f9.params.toList args.toList ds p := hA0
  rw [Try.params9] at hA
  obtain ⟨v0, v1, d0, d1, p0, p1, rfl, rfl, rfl, h0, h1⟩ := trodAll_two hA
  obtain ⟨rfl, rfl⟩ := trodVars_none hV
  have hlt : ∀ x ∈ p0 ++ p1, x.block < W.heap.size := fun x hx => hW'.lt x (by simpa using hx)
  refine (law_one (hval0 0 3 v0 rfl rfl) h0 (hval0 1 65 v1 rfl rfl) h1).mono fun e W' ⟨he, hb⟩ => ?_
  subst he
  exact ⟨_, rfl, _, _, _, [], _, [], hW', trodAll_mk1 (shut_bool Try.underlying4 _),
    trodAll_mk2 (Below.trod laid (by kernel_rfl) (of_decide_eq_true (by kernel_rfl)) h0 hb fun x hx => hlt x (List.mem_append_left _ hx)) (Below.trod laid (by kernel_rfl) (of_decide_eq_true (by kernel_rfl)) h1 hb fun x hx => hlt x (List.mem_append_right _ hx)),
    rfl, hb.frame _, fun h => by cases h⟩
end Go.Acc
namespace Go.Proofs.Ytkjncodnmceilaa
open Go.ChangeShapes Go.WideShapes Go.ChangeAt Go.RowKit
theorem acceptorOne_holds : Rows.AcceptorOneSaid :=
  OpenClaim.holds_of_wide 9 Try.f9 rfl rfl rfl rfl rfl rfl rfl ⟨rfl, rfl, rfl, rfl, rfl⟩ rfl rfl rfl rfl rfl (by kernel_rfl) Try.func9 (by kernel_rfl)
    (of_decide_eq_true (by kernel_rfl)) (by unfold Func.isWrapper; first | (rw [if_pos (by decide +kernel)]; kernel_rfl) | (rw [if_neg (by decide +kernel)]; exact ⟨rfl, rfl⟩))
    (fun os started H enc _ => Go.Acc.acceptorOne_lifted os started H enc)
#print axioms acceptorOne_holds
end Go.Proofs.Ytkjncodnmceilaa
