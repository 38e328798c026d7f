/- MsgConfig: the law cairnlaw5.MsgConfig returns true for every configuration, every message and all bytes, and its input reads as it did; without any condition. -/
import Derived.Test.YtgnhcoefocbmpaaGreatMO0
import Derived.WalkKit
import Derived.ProofKit
import Derived.OpenShut
import Derived.ShutString
import Derived.ChangeOld
import Derived.Below
import Derived.SizedLaws
import Derived.Carry
import Derived.Test.YtgnhcoefocbmpaaGreatRows
set_option linter.unusedSimpArgs false
set_option linter.unusedVariables false
set_option linter.unusedSectionVars false
set_option maxRecDepth 100000
namespace Go.Msg
open Go Go.X Go.Proofs
open Go.ChangeShapes Go.WideShapes Go.ChangeAt Go.RowKit
instance : Inhabited En := ⟨⟨⟨#[]⟩, 0, 0, 0⟩⟩
instance : Inhabited Ls := ⟨⟨0, 0, 0, 0, 0, 0, 0⟩⟩
instance : Inhabited Cm := ⟨⟨0, 0, 0, ⟨#[]⟩, 0, 0, 0, 0, 0⟩⟩
section
variable {H : Type} {enc : TypeId × Value → H}
theorem sm_of {ts : List TypeId} {ds : List (DataW H)} (h : (DataW.weightsEach Tryz.prog ts ds).all (· ≤ reachBytes) = true) {j : Nat} {t : TypeId} {d : DataW H} (ht : ts[j]? = some t) (hd : ds[j]? = some d) : Sm t d := fun k hk => by
  simpa using List.all_eq_true.1 h k (DataW.weights_mem_each ht hd k hk)
theorem open_ints {W : World} [WI] {held : Bool} {fuel : Nat} {u : Value} {x : DataW H × List MemPlace} (h : DataW.trod enc Tryz.prog W 0 (fun _ => true) held fuel 22 [u] = some x) (hw : Sm 22 x.1) :
    ∃ (n : Nat) (s : Nat → Int), n ≤ 4611686018427387903 ∧ Nonempty (Opn W u 3 1 n fun r => [.int .i64 (s r)]) :=
  arg_of_trod (α := Int) (fun i => [.int .i64 i]) (fun _ => rfl) (by decide) (fun fuel us x hx _ => by
    obtain ⟨n, rfl, _⟩ := DataW.trod_int Tryz.underlying3 hx
    exact ⟨n, rfl⟩) Tryz.underlying22 (by kernel_rfl) (of_decide_eq_true (by kernel_rfl)) h hw
theorem open_bytes {W : World} [WI] {held : Bool} {fuel : Nat} {u : Value} {x : DataW H × List MemPlace} (h : DataW.trod enc Tryz.prog W 0 (fun _ => true) held fuel 33 [u] = some x) (hw : Sm 33 x.1) :
    ∃ (n : Nat) (s : Nat → UInt8), n ≤ 4611686018427387903 ∧ Nonempty (Opn W u 5 1 n fun r => [.int .u8 ((s r).toNat : Int)]) :=
  arg_of_trod (α := UInt8) (fun b => [.int .u8 (b.toNat : Int)]) (fun _ => rfl) (by decide) (fun fuel us x hx _ => by
    obtain ⟨b, rfl⟩ := byte_of_trod Tryz.underlying5 hx
    exact ⟨b, rfl⟩) Tryz.underlying33 (by kernel_rfl) (of_decide_eq_true (by kernel_rfl)) h hw
theorem open_ens {W : World} [WI] {held : Bool} {fuel : Nat} {u : Value} {x : DataW H × List MemPlace} (h : DataW.trod enc Tryz.prog W 0 (fun _ => true) held fuel 38 [u] = some x) (hw : Sm 38 x.1) :
    ∃ (n : Nat) (s : Nat → En), n ≤ 4611686018427387903 ∧ Nonempty (Opn W u 131 4 n fun r => (s r).cells) :=
  arg_of_trod (α := En) En.cells (fun _ => rfl) (by decide) (fun fuel us x hx hs => en_of hx hs) Tryz.underlying38 (by kernel_rfl) (of_decide_eq_true (by kernel_rfl)) h hw
theorem open_lss {W : World} [WI] {held : Bool} {fuel : Nat} {u : Value} {x : DataW H × List MemPlace} (h : DataW.trod enc Tryz.prog W 0 (fun _ => true) held fuel 39 [u] = some x) (hw : Sm 39 x.1) :
    ∃ (n : Nat) (s : Nat → Ls), n ≤ 4611686018427387903 ∧ Nonempty (Opn W u 133 7 n fun r => (s r).cells) :=
  arg_of_trod (α := Ls) Ls.cells (fun _ => rfl) (by decide) (fun fuel us x hx hs => ls_of hx hs) Tryz.underlying39 (by kernel_rfl) (of_decide_eq_true (by kernel_rfl)) h hw
theorem open_cms {W : World} [WI] {held : Bool} {fuel : Nat} {u : Value} {x : DataW H × List MemPlace} (h : DataW.trod enc Tryz.prog W 0 (fun _ => true) held fuel 42 [u] = some x) (hw : Sm 42 x.1) :
    ∃ (n : Nat) (s : Nat → Cm), n ≤ 4611686018427387903 ∧ Nonempty (Opn W u 37 9 n fun r => (s r).cells) :=
  arg_of_trod (α := Cm) Cm.cells (fun _ => rfl) (by decide) (fun fuel us x hx hs => cm_of hx hs) Tryz.underlying42 (by kernel_rfl) (of_decide_eq_true (by kernel_rfl)) h hw

theorem law_config {W : World} {b0 b1 b2 : Nat} {v0 v1 v2 : Value} {d0 d1 d2 : DataW H} {p0 p1 p2 : List MemPlace} (s0 : Sm 24 d0) (s1 : Sm 44 d1) (s2 : Sm 33 d2)
    (hv0 : Value.okWide Tryz.prog W .any b0 24 v0) (h0 : DataW.Trod enc Tryz.prog W 0 (fun _ => true) true 24 v0 d0 p0)
    (hv1 : Value.okWide Tryz.prog W .any b1 44 v1) (h1 : DataW.Trod enc Tryz.prog W 0 (fun _ => true) true 44 v1 d1 p1)
    (hv2 : Value.okWide Tryz.prog W .any b2 33 v2) (h2 : DataW.Trod enc Tryz.prog W 0 (fun _ => true) true 33 v2 d2 p2) :
    Calls Tryz.prog 11 #[v0, v1, v2] W fun e W' => e = .returned (.bool true) ∧ Below W.heap.size W W' := by
  letI := oldWI W
  obtain ⟨c0, rfl, _⟩ := okWide_struct Tryz.underlying24 hv0
  obtain ⟨f0, h0⟩ := h0
  obtain ⟨F, P, B, L, R, srv, m0, y0, q0, w0, e0⟩ := cg_of h0 s0
  obtain ⟨n0, s, _, ⟨o0⟩⟩ := open_ints q0 w0
  obtain ⟨c1, rfl, _⟩ := okWide_struct Tryz.underlying44 hv1
  obtain ⟨f1, h1⟩ := h1
  obtain ⟨m, blk, ens, lss, cms, k1, k2, k3, k4, y1, y2, y3, y4, q1, w1, q2, w2, q3, w3, q4, w4, e1⟩ := ms_of h1 s1
  obtain ⟨nb, fb, _, ⟨o1⟩⟩ := open_bytes q1 w1
  obtain ⟨ne, fe, hne, ⟨o2⟩⟩ := open_ens q2 w2
  obtain ⟨nl, fl, hnl, ⟨o3⟩⟩ := open_lss q3 w3
  obtain ⟨nc, fc, _, ⟨o4⟩⟩ := open_cms q4 w4
  obtain ⟨ao, len, cap, rfl⟩ := okWide_slice Tryz.underlying33 hv2
  obtain ⟨f2, h2⟩ := h2
  obtain ⟨n, f, _, ⟨o5⟩⟩ := open_bytes (u := .slice ao len cap) (by simpa [Value.cells] using h2) s2
  obtain ⟨env, hA, a0, a1, a2, a3, a4, a5⟩ : ∃ env, RepA env ([(⟨n0, s, F, P, B, L, R⟩ : Cf).V, .arg 5 1 nb fun r => [.int .u8 ((fb r).toNat : Int)]] ++ (⟨m.u, ne, fe, nl, fl⟩ : Bk).V ++ [.arg 37 9 nc fun r => (fc r).cells, .arg 5 1 n fun r => [.int .u8 ((f r).toNat : Int)]]) W ∧
      env 0 = o0.l ∧ env 1 = o1.l ∧ env 2 = o2.l ∧ env 3 = o3.l ∧ env 4 = o4.l ∧ env 5 = o5.l :=
    ⟨_, ((((((repA_nil W).push o0.l o0.mat o0.blk).push o1.l o1.mat o1.blk).push o2.l o2.mat o2.blk).push o3.l o3.mat o3.blk).push o4.l o4.mat o4.blk).push o5.l o5.mat o5.blk, rfl, rfl, rfl, rfl, rfl, rfl⟩
  have hrep := repW_ofA (fun b hb => rfl) (Nat.le_refl _) hA
  have hc := config_does ⟨n0, s, F, P, B, L, R⟩ m nb (fun r => [.int .u8 ((fb r).toNat : Int)]) ne fe nl fl nc (fun r => (fc r).cells) n (fun r => [.int .u8 ((f r).toNat : Int)]) ⟨hne, hnl⟩ _ W hrep (scA (by rfl))
  have r0 : ren env (sl3 0 n0) = srv := by rw [ren_sl3, a0]; exact o0.ren
  have r1 : ren env (sl3 1 nb) = blk := by rw [ren_sl3, a1]; exact o1.ren
  have r2 : ren env (sl3 2 ne) = ens := by rw [ren_sl3, a2]; exact o2.ren
  have r3 : ren env (sl3 3 nl) = lss := by rw [ren_sl3, a3]; exact o3.ren
  have r4 : ren env (sl3 4 nc) = cms := by rw [ren_sl3, a4]; exact o4.ren
  have r5 : ren env (sl3 5 n) = .slice ao len cap := by rw [ren_sl3, a5]; exact o5.ren
  have ea : ([.agg ⟨(⟨n0, s, F, P, B, L, R⟩ : Cf).cells 0⟩, .agg ⟨m.cells (sl3 1 nb) (sl3 2 ne) (sl3 3 nl) (sl3 4 nc)⟩, sl3 5 n].map (ren env)).toArray = #[.agg c0, .agg c1, .slice ao len cap] := by
    have x0 : c0 = ⟨[srv, .int .i64 F, .int .i64 P, .int .i64 B, .int .i64 L, .int .i64 R]⟩ := Array.ext' (by simpa [Value.cells] using e0)
    have x1 : c1 = ⟨m.cells blk ens lss cms⟩ := Array.ext' (by simpa [Value.cells] using e1)
    have r0' : ren env (.slice (some ⟨0, 3, some 0⟩) n0 0) = srv := r0
    simp only [List.map_cons, List.map_nil, r5, x0, x1]
    rw [ren_agg, ren_agg]
    simp [Cf.cells, Cf.srv, Mh.cells, ren, r0', r1, r2, r3, r4]
  rw [ea] at hc
  refine hc.mono ?_
  rintro e w' ⟨u, env', V', v, rfl, hrv, hW', hF, ⟨rfl⟩⟩
  refine ⟨?_, Fr.below hF fun i o hi => ?_⟩
  · rcases hrv with h | h
    · cases h
    · rw [h]; simp [ren]
  · obtain ⟨t, m, n, f, rfl, _, _⟩ := hA i o hi
    rfl
set_option maxRecDepth 100000 in
theorem msgConfig_lifted (os : Os) (started : os.Started) (H : Type) (enc : TypeId × Value → H) :
    ReturnsInHanded {} Tryz.checked os 11 .any (Go.Proofs.YtgnhcoefocbmpaaGreat.Rows.msgConfigSpec.pre6 enc Tryz.prog Tryz.f11 Go.Proofs.YtgnhcoefocbmpaaGreat.Rows.msgConfigRow.domain false) (Go.Proofs.YtgnhcoefocbmpaaGreat.Rows.msgConfigSpec.post enc Tryz.prog Tryz.f11 false true false false) := by
  refine returnsInHanded_of_change_sized (C := Tryz.checked) ownKnobs started (by kernel_rfl) Tryz.func11
    (ChangeSpec.witness6 (enc := enc) (C := Tryz.checked) false ⟨#[], #[.agg #[.slice none 0 0, .int .i64 0, .int .i64 0, .int .i64 0, .int .i64 0, .int .i64 0], .agg #[.int .i64 0, .bool false, .int .i64 0, .bool false, .int .i64 0, .int .i64 0, .int .i64 0, .int .i64 0, .int .i64 0, .int .i64 0, .int .i64 0, .int .i64 0, .int .i64 0, .int .i64 0, .int .i64 0, .slice none 0 0, .int .i64 0, .int .i64 0, .int .i64 0, .string ⟨#[]⟩, .int .i64 0, .int .i64 0, .int .i64 0, .int .i64 0, .int .i64 0, .int .i64 0, .slice none 0 0, .slice none 0 0, .slice none 0 0, .bool false], .slice none 0 0], []⟩ 8 (by kernel_rfl) (by kernel_rfl) (by kernel_rfl) (by kernel_rfl)) ?_
  intro W base args ds gs before hval0 hW hcnd hsz0 _
  have hW' := hW
  obtain ⟨p, q, hA0, hV, rfl, hfz, hnd⟩ := hW
  have hA : DataW.TrodAll enc Tryz.prog W 0 (fun _ => true) true Tryz.f11.params.toList args.toList ds p := hA0
  rw [Tryz.params11] at hA
  obtain ⟨v0, v1, v2, d0, d1, d2, p0, p1, p2, rfl, rfl, rfl, h0, h1, h2⟩ := trodAll_three hA
  obtain ⟨rfl, rfl⟩ := trodVars_none hV
  have hlt : ∀ x ∈ p0 ++ p1 ++ p2, x.block < W.heap.size := fun x hx => hW'.lt x (by simpa using hx)
  have hz : ∀ (j : Nat) (t : TypeId) (d : DataW H), (Tryz.f11.params.toList)[j]? = some t → ([d0, d1, d2] : List (DataW H))[j]? = some d → Sm t d := fun j t d ht hd =>
    sm_of hsz0 (j := j) (by rw [List.getElem?_append_left (List.getElem?_eq_some_iff.1 ht).1]; exact ht) (by rw [List.getElem?_append_left (List.getElem?_eq_some_iff.1 hd).1]; exact hd)
  refine (law_config (hz 0 24 d0 rfl rfl) (hz 1 44 d1 rfl rfl) (hz 2 33 d2 rfl rfl) (hval0 0 24 v0 rfl rfl) h0 (hval0 1 44 v1 rfl rfl) h1 (hval0 2 33 v2 rfl rfl) h2).mono fun e W' ⟨he, hb⟩ => ?_
  subst he
  exact ⟨_, rfl, _, _, _, [], _, [], hW', trodAll_mk1 (shut_bool Tryz.underlying4 _),
    trodAll_mk3 (Below.trod laid (by kernel_rfl) (of_decide_eq_true (by kernel_rfl)) h0 hb fun x hx => hlt x (by simp [hx])) (Below.trod laid (by kernel_rfl) (of_decide_eq_true (by kernel_rfl)) h1 hb fun x hx => hlt x (by simp [hx])) (Below.trod laid (by kernel_rfl) (of_decide_eq_true (by kernel_rfl)) h2 hb fun x hx => hlt x (by simp [hx])),
    rfl, hb.frame _, fun h => by cases h⟩
end
end Go.Msg
namespace Go.Proofs.YtgnhcoefocbmpaaGreat
open Go.ChangeShapes Go.WideShapes Go.ChangeAt Go.RowKit
theorem msgConfig_holds : Rows.MsgConfigSaid :=
  OpenClaim.holds_of_wide 11 Tryz.f11 rfl rfl rfl rfl rfl rfl rfl ⟨rfl, rfl, rfl, rfl, rfl⟩ rfl rfl rfl rfl rfl (by kernel_rfl) Tryz.func11 (by kernel_rfl)
    (of_decide_eq_true (by kernel_rfl)) (by unfold Func.isWrapper; first | (rw [if_pos (by decide +kernel)]; kernel_rfl) | (rw [if_neg (by decide +kernel)]; exact ⟨rfl, rfl⟩))
    (fun os started H enc _ => Go.Msg.msgConfig_lifted os started H enc)
#print axioms msgConfig_holds
end Go.Proofs.YtgnhcoefocbmpaaGreat
