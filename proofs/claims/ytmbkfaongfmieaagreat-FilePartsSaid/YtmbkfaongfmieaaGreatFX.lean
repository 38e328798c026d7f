/- FileParts: the law cairnlaw15.FileParts returns true for every operation, every entry and every number, and its input reads as it did; without any condition. -/
import Derived.Test.YtmbkfaongfmieaaGreatFZ
import Derived.WalkKit
import Derived.ProofKit
import Derived.OpenShut
import Derived.ShutString
import Derived.ChangeOld
import Derived.Below
import Derived.SizedLaws
import Derived.Carry
import Derived.Test.YtmbkfaongfmieaaGreatXOpen2
import Derived.Test.YtmbkfaongfmieaaGreatRows
set_option linter.unusedSectionVars false
set_option linter.unusedSimpArgs false
set_option linter.unusedVariables false
set_option maxRecDepth 100000
namespace Go.Fil
open Go Go.X Go.Proofs
open Go.ChangeShapes Go.WideShapes Go.ChangeAt Go.RowKit

theorem ownKnobs : ownKnob Tryz.prog.godebug = none := by kernel_rfl
theorem laid : laidOutB Tryz.prog = true := by kernel_rfl

section
variable {H : Type} {enc : TypeId × Value → H}
theorem file_of {w : World} {base fuel : Nat} {sp : Nat → Bool} {held : Bool} {cs : List Value} {x : DataW H × List MemPlace} (h : DataW.trod enc Tryz.prog w base sp held fuel 38 cs = some x) : ∃ a b : Int, cs = [.int .i64 a, .int .i64 b] := by
  have hl : cs.length = 2 := trod_len Tryz.underlying38 h (by kernel_rfl)
  obtain ⟨n0, y0, g0⟩ : ∃ n y, DataW.trod enc Tryz.prog w base sp held n 3 ((cs.drop 0).take 1) = some y := trod_field Tryz.underlying38 h 0 rfl (by kernel_rfl)
  obtain ⟨s0, g0, _⟩ := DataW.trod_int Tryz.underlying3 g0
  obtain ⟨n1, y1, g1⟩ : ∃ n y, DataW.trod enc Tryz.prog w base sp held n 3 ((cs.drop 1).take 1) = some y := trod_field Tryz.underlying38 h 1 rfl (by kernel_rfl)
  obtain ⟨s1, g1, _⟩ := DataW.trod_int Tryz.underlying3 g1
  match cs, hl with
  | [a0, a1], _ =>
    simp at g0
    simp at g1
    exact ⟨s0, s1, by simp [g0, g1]⟩
theorem entry_of {w : World} {base fuel : Nat} {sp : Nat → Bool} {held : Bool} {cs : List Value} {x : DataW H × List MemPlace} (h : DataW.trod enc Tryz.prog w base sp held fuel 40 cs = some x) :
    ∃ (e : ByteArray) (a b c : Int), cs = [.string e, .int .i64 a, .int .i64 b, .int .i64 c] := by
  have hl : cs.length = 4 := trod_len Tryz.underlying40 h (by kernel_rfl)
  obtain ⟨n0, y0, g0⟩ : ∃ n y, DataW.trod enc Tryz.prog w base sp held n 9 ((cs.drop 0).take 1) = some y := trod_field Tryz.underlying40 h 0 rfl (by kernel_rfl)
  obtain ⟨s0, g0, _⟩ := DataW.trod_string Tryz.underlying9 g0
  obtain ⟨n1, y1, g1⟩ : ∃ n y, DataW.trod enc Tryz.prog w base sp held n 38 ((cs.drop 1).take 2) = some y := trod_field Tryz.underlying40 h 1 rfl (by kernel_rfl)
  obtain ⟨s1, s2, g1⟩ := file_of g1
  obtain ⟨n2, y2, g2⟩ : ∃ n y, DataW.trod enc Tryz.prog w base sp held n 3 ((cs.drop 3).take 1) = some y := trod_field Tryz.underlying40 h 2 rfl (by kernel_rfl)
  obtain ⟨s3, g2, _⟩ := DataW.trod_int Tryz.underlying3 g2
  match cs, hl with
  | [a0, a1, a2, a3], _ =>
    simp at g0
    simp at g1
    simp at g2
    exact ⟨s0, s1, s2, s3, by simp [g0, g1, g2]⟩
theorem op_of {w : World} {base fuel : Nat} {sp : Nat → Bool} {held : Bool} {cs : List Value} {x : DataW H × List MemPlace} (h : DataW.trod enc Tryz.prog w base sp held fuel 49 cs = some x) :
    ∃ (k f1 f2 n1 n2 a n : Int) (nm ot : ByteArray) (u : Value) (m : Nat) (y : DataW H × List MemPlace), DataW.trod enc Tryz.prog w base sp held m 42 [u] = some y ∧
      cs = [.int .i64 k, .string nm, .string ot, .int .i64 f1, .int .i64 f2, .int .i64 n1, .int .i64 n2, .int .i64 a, .int .i64 n, u] := by
  have hl : cs.length = 10 := trod_len Tryz.underlying49 h (by kernel_rfl)
  obtain ⟨n0, y0, g0⟩ : ∃ n y, DataW.trod enc Tryz.prog w base sp held n 3 ((cs.drop 0).take 1) = some y := trod_field Tryz.underlying49 h 0 rfl (by kernel_rfl)
  obtain ⟨k, g0, _⟩ := DataW.trod_int Tryz.underlying3 g0
  obtain ⟨n1, y1, g1⟩ : ∃ n y, DataW.trod enc Tryz.prog w base sp held n 9 ((cs.drop 1).take 1) = some y := trod_field Tryz.underlying49 h 1 rfl (by kernel_rfl)
  obtain ⟨nm, g1, _⟩ := DataW.trod_string Tryz.underlying9 g1
  obtain ⟨n2, y2, g2⟩ : ∃ n y, DataW.trod enc Tryz.prog w base sp held n 9 ((cs.drop 2).take 1) = some y := trod_field Tryz.underlying49 h 2 rfl (by kernel_rfl)
  obtain ⟨ot, g2, _⟩ := DataW.trod_string Tryz.underlying9 g2
  obtain ⟨n3, y3, g3⟩ : ∃ n y, DataW.trod enc Tryz.prog w base sp held n 38 ((cs.drop 3).take 2) = some y := trod_field Tryz.underlying49 h 3 rfl (by kernel_rfl)
  obtain ⟨f1, f2, g3⟩ := file_of g3
  obtain ⟨n4, y4, g4⟩ : ∃ n y, DataW.trod enc Tryz.prog w base sp held n 38 ((cs.drop 5).take 2) = some y := trod_field Tryz.underlying49 h 4 rfl (by kernel_rfl)
  obtain ⟨e1, e2, g4⟩ := file_of g4
  obtain ⟨n5, y5, g5⟩ : ∃ n y, DataW.trod enc Tryz.prog w base sp held n 3 ((cs.drop 7).take 1) = some y := trod_field Tryz.underlying49 h 5 rfl (by kernel_rfl)
  obtain ⟨a, g5, _⟩ := DataW.trod_int Tryz.underlying3 g5
  obtain ⟨n6, y6, g6⟩ : ∃ n y, DataW.trod enc Tryz.prog w base sp held n 3 ((cs.drop 8).take 1) = some y := trod_field Tryz.underlying49 h 6 rfl (by kernel_rfl)
  obtain ⟨n, g6, _⟩ := DataW.trod_int Tryz.underlying3 g6
  obtain ⟨n7, y7, g7⟩ : ∃ n y, DataW.trod enc Tryz.prog w base sp held n 42 ((cs.drop 9).take 1) = some y := trod_field Tryz.underlying49 h 7 rfl (by kernel_rfl)
  match cs, hl with
  | [a0, a1, a2, a3, a4, a5, a6, a7, a8, a9], _ =>
    simp at g0 g1 g2 g3 g4 g5 g6 g7
    exact ⟨k, f1, f2, e1, e2, a, n, nm, ot, a9, n7, y7, g7, by simp [g0, g1, g2, g3, g4, g5, g6]⟩
theorem int_of {W : World} {sp : Nat → Bool} {held : Bool} {b0 : Nat} {v : Value} {d : DataW H} {p : List MemPlace} (hval : Value.okWide Tryz.prog W .any b0 3 v) (hd : DataW.Trod enc Tryz.prog W 0 sp held 3 v d p) : ∃ f : Int, v = .int .i64 f := by
  simp only [Value.okWide, Cell.okWide, Cell.ok, Tryz.underlying3] at hval
  cases v with
  | int k n =>
    obtain ⟨rfl, _⟩ := hval
    exact ⟨n, rfl⟩
  | _ => first | exact hval.elim | (simp at hval)

theorem law_parts {W : World} {b0 b1 b2 : Nat} {v0 v1 v2 : Value} {d0 d1 d2 : DataW H} {p0 p1 p2 : List MemPlace}
    (hv0 : Value.okWide Tryz.prog W .any b0 49 v0) (h0 : DataW.Trod enc Tryz.prog W 0 (fun _ => true) true 49 v0 d0 p0)
    (hv1 : Value.okWide Tryz.prog W .any b1 40 v1) (h1 : DataW.Trod enc Tryz.prog W 0 (fun _ => true) true 40 v1 d1 p1)
    (hv2 : Value.okWide Tryz.prog W .any b2 3 v2) (h2 : DataW.Trod enc Tryz.prog W 0 (fun _ => true) true 3 v2 d2 p2) :
    Calls Tryz.prog 4 #[v0, v1, v2] W fun e W' => e = .returned (.bool true) ∧ Below W.heap.size W W' := by
  letI := oldWI W
  obtain ⟨bk, rfl⟩ := int_of hv2 h2
  obtain ⟨c1, rfl, _⟩ := okWide_struct Tryz.underlying40 hv1
  obtain ⟨fu1, h1⟩ := h1
  obtain ⟨e0, g1, g2, size, hc1⟩ := entry_of h1
  obtain ⟨c0, rfl, _⟩ := okWide_struct Tryz.underlying49 hv0
  obtain ⟨fu0, h0⟩ := h0
  obtain ⟨k, f1, f2, n1, n2, a, n, nm, ot, u, fu, y, hu, hc0⟩ := op_of h0
  obtain ⟨l, N, st, u', hu', hN, hren, g0, gg1, gg2⟩ := tab_of_trod (α := UInt8) (fun b => [.val (.int .u8 (b.toNat : Int))]) (W := W) (fun w' hI => hI) (Nat.le_refl _) (m := 1) (by decide)
    (fun fuel us x hx => by
      obtain ⟨b, rfl⟩ := byte_of_trod Tryz.underlying5 hx
      exact ⟨b, areads_val (vs := [.int .u8 (b.toNat : Int)]) rfl⟩) Tryz.underlying42 (by kernel_rfl) hu
  obtain rfl : u = u' := by simpa using hu'
  have hrep : RepW (fun _ => l) [.arg 5 1 N fun r => [.int .u8 ((st r).toNat : Int)]] W := by
    have hI : WI.I W := fun b hb => rfl
    refine ⟨fun i o hi => ?_, fun i o hi => ?_, fun i o hi hB => ?_, fun i j oi oj hi hj hij => ?_, hI, fun i o hi ho => ?_, Nat.le_refl _⟩
    · match i, hi with
      | 0, hi =>
        cases hi
        refine ⟨g0, fun h => ⟨(gg1 h).1, (gg1 h).2.1⟩, fun r hr => ⟨rfl, rfl, fun j v hj => ?_⟩⟩
        obtain ⟨h5, h6⟩ := gg2 W hI r hr
        match j, hj with
        | 0, hj =>
          cases hj
          obtain ⟨u1, h7, h8⟩ := h6 0 (.val (.int .u8 ((st r).toNat : Int))) rfl
          obtain ⟨rfl, _⟩ := h8
          exact h7
        | j + 1, hj => simp at hj
    · match i, hi with
      | 0, hi => cases hi; trivial
    · match i, hi with
      | 0, hi => cases hi; exact (gg1 hB).2.2
    · match i, j, hi, hj with
      | 0, 0, _, _ => exact absurd rfl hij
    · match i, hi with
      | 0, hi => cases hi; cases ho.1
  have hc := law_does k f1 f2 n1 n2 a n g1 g2 size bk nm ot e0 N (fun r => [.int .u8 ((st r).toNat : Int)]) (fun _ => l) W hrep (scA (by rfl))
  have e1 : c1 = #[.string e0, .int .i64 g1, .int .i64 g2, .int .i64 size] := by
    apply Array.ext'
    simpa [Value.cells] using hc1
  have e2 : c0 = #[.int .i64 k, .string nm, .string ot, .int .i64 f1, .int .i64 f2, .int .i64 n1, .int .i64 n2, .int .i64 a, .int .i64 n, u] := by
    apply Array.ext'
    simpa [Value.cells] using hc0
  rw [e1, e2, ← hren]
  have he : ([.agg ⟨[.int .i64 k, .string nm, .string ot, .int .i64 f1, .int .i64 f2, .int .i64 n1, .int .i64 n2, .int .i64 a, .int .i64 n, .slice (some ⟨0, 3, some 0⟩) N 0]⟩, .agg ⟨[.string e0, .int .i64 g1, .int .i64 g2, .int .i64 size]⟩, .int .i64 bk].map (ren fun _ => l)).toArray =
      #[.agg #[.int .i64 k, .string nm, .string ot, .int .i64 f1, .int .i64 f2, .int .i64 n1, .int .i64 n2, .int .i64 a, .int .i64 n, ren (fun _ => l) (.slice (some ⟨0, 3, some 0⟩) N 0)], .agg #[.string e0, .int .i64 g1, .int .i64 g2, .int .i64 size], .int .i64 bk] := by
    simp [ren]
  rw [he] at hc
  refine hc.mono ?_
  rintro e w' ⟨u, env', V', v, rfl, hrv, hW', hF, rfl⟩
  refine ⟨?_, Fr.below hF fun i o hi => ?_⟩
  · rcases hrv with h | h
    · cases h
    · rw [h]; simp [ren]
  · match i, hi with
    | 0, hi => cases hi; rfl
end

set_option maxRecDepth 100000 in
theorem fileParts_lifted (os : Os) (started : os.Started) (H : Type) (enc : TypeId × Value → H) :
    ReturnsInHanded {} Tryz.checked os 4 .any (Go.Proofs.YtmbkfaongfmieaaGreat.Rows.filePartsSpec.pre6 enc Tryz.prog Tryz.f4 Go.Proofs.YtmbkfaongfmieaaGreat.Rows.filePartsRow.domain false) (Go.Proofs.YtmbkfaongfmieaaGreat.Rows.filePartsSpec.post enc Tryz.prog Tryz.f4 false true false false) := by
  refine returnsInHanded_of_change_sized (C := Tryz.checked) ownKnobs started (by kernel_rfl) Tryz.func4
    (ChangeSpec.witness6 (enc := enc) (C := Tryz.checked) false ⟨#[], #[.agg #[.int .i64 0, .string ⟨#[]⟩, .string ⟨#[]⟩, .int .i64 0, .int .i64 0, .int .i64 0, .int .i64 0, .int .i64 0, .int .i64 0, .slice none 0 0], .agg #[.string ⟨#[]⟩, .int .i64 0, .int .i64 0, .int .i64 0], .int .i64 0], []⟩ 8 (by kernel_rfl) (by kernel_rfl) (by kernel_rfl) (by kernel_rfl)) ?_
  intro W base args ds gs before hval0 hW hcnd hsz0 _
  have hW' := hW
  obtain ⟨p, q, hA0, hV, rfl, hfz, hnd⟩ := hW
  have hA : DataW.TrodAll enc Tryz.prog W 0 (fun _ => true) true Tryz.f4.params.toList args.toList ds p := hA0
  rw [Tryz.params4] at hA
  obtain ⟨v0, v1, v2, d0, d1, d2, p0, p1, p2, rfl, rfl, rfl, h0, h1, h2⟩ := trodAll_three hA
  obtain ⟨rfl, rfl⟩ := trodVars_none hV
  have hlt : ∀ x ∈ p0 ++ p1 ++ p2, x.block < W.heap.size := fun x hx => hW'.lt x (by simpa using hx)
  refine (law_parts (hval0 0 49 v0 rfl rfl) h0 (hval0 1 40 v1 rfl rfl) h1 (hval0 2 3 v2 rfl rfl) h2).mono fun e W' ⟨he, hb⟩ => ?_
  subst he
  exact ⟨_, rfl, _, _, _, [], _, [], hW', trodAll_mk1 (shut_bool Tryz.underlying4 _),
    trodAll_mk3 (Below.trod laid (by kernel_rfl) (of_decide_eq_true (by kernel_rfl)) h0 hb fun x hx => hlt x (by simp [hx])) (Below.trod laid (by kernel_rfl) (of_decide_eq_true (by kernel_rfl)) h1 hb fun x hx => hlt x (by simp [hx])) (Below.trod laid (by kernel_rfl) (of_decide_eq_true (by kernel_rfl)) h2 hb fun x hx => hlt x (by simp [hx])),
    rfl, hb.frame _, fun h => by cases h⟩
end Go.Fil
namespace Go.Proofs.YtmbkfaongfmieaaGreat
open Go.ChangeShapes Go.WideShapes Go.ChangeAt Go.RowKit
theorem fileParts_holds : Rows.FilePartsSaid :=
  OpenClaim.holds_of_wide 4 Tryz.f4 rfl rfl rfl rfl rfl rfl rfl ⟨rfl, rfl, rfl, rfl, rfl⟩ rfl rfl rfl rfl rfl (by kernel_rfl) Tryz.func4 (by kernel_rfl)
    (of_decide_eq_true (by kernel_rfl)) (by unfold Func.isWrapper; first | (rw [if_pos (by decide +kernel)]; kernel_rfl) | (rw [if_neg (by decide +kernel)]; exact ⟨rfl, rfl⟩))
    (fun os started H enc _ => Go.Fil.fileParts_lifted os started H enc)
#print axioms fileParts_holds
end Go.Proofs.YtmbkfaongfmieaaGreat
