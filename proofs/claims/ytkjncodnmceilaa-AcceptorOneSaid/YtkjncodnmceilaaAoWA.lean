/- AcceptorOne: the law: its beginning, its loop, its end. -/
import Derived.Test.YtkjncodnmceilaaAoW9
set_option linter.unusedSimpArgs false
set_option linter.unusedVariables false
set_option linter.unusedSectionVars false
set_option maxRecDepth 100000
namespace Go.Acc
open Go Go.X Go.Proofs
variable [WI]

theorem cond_do (W : World) (N : Nat) (A : Nat → GAct) (F nI i : Nat) :
    Do Try.prog (cL (roundOf Try.f9 0)) (HS W N A F nI i) (fun e a w => (e = .normal ∧ i < N ∧ HS W N A F nI i a w) ∨ (e = .exit 0 ∧ N ≤ i ∧ HS W N A F nI i a w)) := by
  refine Do.of fun a w ⟨st, hG, hst⟩ => ?_
  rcases hst with ⟨hn0, env, L, hR, hf, hb⟩ | ⟨hn0, env, hR, hb⟩
  · refine ⟨env, _, _, hR, cond_F N A F nI st.n st.P (U1 st.P L) (U2 st.P L) st.I st.D i, fun e env' S' a' w' hF' hR' hk' => ?_⟩
    obtain ⟨hk', hnew⟩ := tame_ok hk'
    have hf' := hf.later hF' hnew
    have hb' := hb.trans (hF'.belowN hR.mem)
    obtain ⟨env2, S2, hR2, hleaf, hlen, hag, hpl⟩ := hR'.shape hk'
    have hf2 : Fam id env2 S2.V w' 3 1 (2 * st.n) L (lenF st.P) (rowF st.P) := hf'.less fun j o hj hl hB => by
      obtain ⟨p, o', h1, h2, h3, h4⟩ := hpl j o hj hl hB
      exact ⟨p, o', h1, h3, h4, by rw [h2]⟩
    cases e with
    | normal =>
      obtain ⟨⟨hlt⟩, ⟨rfl⟩⟩ := hleaf
      exact .inl ⟨rfl, hlt, st, hG, .inl ⟨hn0, env2, L, hR2, hf2, hb'⟩⟩
    | exit j =>
      match j, hleaf with
      | 0, hl =>
        obtain ⟨⟨hge⟩, ⟨he⟩⟩ := hl
        subst he
        exact .inr ⟨rfl, hge, st, hG, .inl ⟨hn0, env2, L, hR2, hf2, hb'⟩⟩
      | j + 1, hl => exact hl.elim
    | goto l => exact hleaf.elim
    | ret => exact hleaf.elim
    | panic c => exact hleaf.elim
    | outgrown => exact hleaf.elim
  · refine ⟨env, _, _, hR, cond_T N A F nI st.I st.D i, fun e env' S' a' w' hF' hR' hk' => ?_⟩
    obtain ⟨hk', hnew⟩ := tame_ok hk'
    have hb' := hb.trans (hF'.belowN hR.mem)
    obtain ⟨env2, S2, hR2, hleaf, hlen, hag, hpl⟩ := hR'.shape hk'
    cases e with
    | normal =>
      obtain ⟨⟨hlt⟩, ⟨rfl⟩⟩ := hleaf
      exact .inl ⟨rfl, hlt, st, hG, .inr ⟨hn0, env2, hR2, hb'⟩⟩
    | exit j =>
      match j, hleaf with
      | 0, hl =>
        obtain ⟨⟨hge⟩, ⟨he⟩⟩ := hl
        subst he
        exact .inr ⟨rfl, hge, st, hG, .inr ⟨hn0, env2, hR2, hb'⟩⟩
      | j + 1, hl => exact hl.elim
    | goto l => exact hleaf.elim
    | ret => exact hleaf.elim
    | panic c => exact hleaf.elim
    | outgrown => exact hleaf.elim

theorem inc_do (W : World) (N : Nat) (A : Nat → GAct) (F nI i : Nat) (hi : i + 1 ≤ 9223372036854775807) :
    Do Try.prog (cR (cR (roundOf Try.f9 0))) (HS W N A F nI i) (fun e a w => e = .normal ∧ HS W N A F nI (i + 1) a w) := by
  refine Do.of fun a w ⟨st, hG, hst⟩ => ?_
  rcases hst with ⟨hn0, env, L, hR, hf, hb⟩ | ⟨hn0, env, hR, hb⟩
  · refine ⟨env, _, _, hR, inc_F N A F nI st.n st.P (U1 st.P L) (U2 st.P L) st.I st.D i hi, fun e env' S' a' w' hF' hR' hk' => ?_⟩
    obtain ⟨hk', hnew⟩ := tame_ok hk'
    have hf' := hf.later hF' hnew
    have hb' := hb.trans (hF'.belowN hR.mem)
    obtain ⟨env2, S2, hR2, hleaf, hlen, hag, hpl⟩ := hR'.shape hk'
    have hf2 : Fam id env2 S2.V w' 3 1 (2 * st.n) L (lenF st.P) (rowF st.P) := hf'.less fun j o hj hl hB => by
      obtain ⟨p, o', h1, h2, h3, h4⟩ := hpl j o hj hl hB
      exact ⟨p, o', h1, h3, h4, by rw [h2]⟩
    cases e with
    | normal =>
      obtain ⟨rfl⟩ := hleaf
      exact ⟨rfl, st, hG, .inl ⟨hn0, env2, L, hR2, hf2, hb'⟩⟩
    | _ => exact hleaf.elim
  · refine ⟨env, _, _, hR, inc_T N A F nI st.I st.D i hi, fun e env' S' a' w' hF' hR' hk' => ?_⟩
    obtain ⟨hk', hnew⟩ := tame_ok hk'
    have hb' := hb.trans (hF'.belowN hR.mem)
    obtain ⟨env2, S2, hR2, hleaf, hlen, hag, hpl⟩ := hR'.shape hk'
    cases e with
    | normal =>
      obtain ⟨rfl⟩ := hleaf
      exact ⟨rfl, st, hG, .inr ⟨hn0, env2, hR2, hb'⟩⟩
    | _ => exact hleaf.elim

theorem round_do (W : World) (N : Nat) (A : Nat → GAct) (F nI i : Nat) (hnI : nI = 2 * F + 1) (hF : F ≤ 3) (hN : N ≤ 9223372036854775807) :
    Do Try.prog (roundOf Try.f9 0) (HS W N A F nI i) (fun e a w => (e = .normal ∧ i < N ∧ HS W N A F nI (i + 1) a w) ∨ (e = .exit 0 ∧ N ≤ i ∧ HS W N A F nI i a w)) := by
  rw [round_eq]
  refine Do.seq (M := fun a w => i < N ∧ HS W N A F nI i a w) ((cond_do W N A F nI i).mono (fun _ _ h => h) fun e a w h => ?_) ?_
  · rcases h with ⟨rfl, h⟩ | ⟨rfl, h⟩
    · exact h
    · exact .inr ⟨rfl, h⟩
  · intro a w ⟨hi, hst⟩
    refine Do.seq (A := HS W N A F nI i) (M := HS W N A F nI i) (Do.block ((b_do W N A F nI i hnI hF hi).mono (fun _ _ h => h) fun e a w h => ?_)) ((inc_do W N A F nI i (by omega)).mono (fun _ _ h => h) fun e a w h => .inl ⟨h.1, hi, h.2⟩) a w hst
    obtain ⟨rfl | rfl, h⟩ := h
    · exact h
    · simp only [blockB, if_true]; exact h

/-- the loop -/
theorem loop_do (W : World) (N : Nat) (A : Nat → GAct) (F nI : Nat) (hnI : nI = 2 * F + 1) (hF : F ≤ 3) (hN : N ≤ 9223372036854775807) :
    Do Try.prog (.block 0 (.loop (roundOf Try.f9 0))) (HS W N A F nI 0) (fun e a w => e = .normal ∧ HS W N A F nI N a w) := by
  refine (Do.loop (fun k a w => ∃ i, i + k = N ∧ HS W N A F nI i a w) (fun k => ?_) N).mono (fun a w h => ⟨0, by omega, h⟩) (fun _ _ _ h => h)
  intro a w ⟨i, hi, hst⟩
  refine ((round_do W N A F nI i hnI hF hN).mono (fun _ _ h => h) fun e a w h => ?_) a w hst
  rcases h with ⟨rfl, hlt, h⟩ | ⟨rfl, hge, h⟩
  · exact ⟨k - 1, by omega, i + 1, by omega, h⟩
  · obtain rfl : i = N := by omega
    simp only [roundB, if_true]
    exact ⟨trivial, h⟩

/-! ### The end -/
theorem fin_F (N : Nat) (A : Nat → GAct) (F nI n : Nat) (P : Nat → GP) (u1 u2 : Nat → Value) (I : Nat → GInst) (D : GCommand) (i : Nat) :
    Does Try.prog (at_ (bodyOf Try.f9) 5) ⟨lTm N i, hV N A F nI n P u1 u2 I D⟩ (xend Try.prog (ctxG [] [] []) Try.f9 fun v _ => v = .bool true) := by
  refine of_code noCtx (n := 200) .g ?_
  refine by_nf (B := Value.bool true = Value.bool true) (by kernel_rfl) ?_
  exact rfl
theorem fin_T (N : Nat) (A : Nat → GAct) (F nI : Nat) (I : Nat → GInst) (D : GCommand) (i : Nat) :
    Does Try.prog (at_ (bodyOf Try.f9) 5) ⟨lTm N i, eV N A F nI I D⟩ (xend Try.prog (ctxG [] [] []) Try.f9 fun v _ => v = .bool true) := by
  refine of_code noCtx (n := 200) .g ?_
  refine by_nf (B := Value.bool true = Value.bool true) (by kernel_rfl) ?_
  exact rfl

/-! ### The beginning -/
theorem body_eq : bodyOf Try.f9 = seqs [pc (bodyOf Try.f9) 0, pc (bodyOf Try.f9) 1, pc (bodyOf Try.f9) 2, pc (bodyOf Try.f9) 3] (.seq (.seq (cL (pc (bodyOf Try.f9) 4)) (.block 0 (.loop (roundOf Try.f9 0)))) (at_ (bodyOf Try.f9) 5)) := by kernel_rfl
def e0Tm (f : Int) (N : Nat) : List Value := [.int .i64 f, sA N] ++ List.replicate 137 undef
def zTm (N : Nat) : List Value := [unk, sA N, unk, unk, unk, pp] ++ List.replicate 133 unk
def e0V (N : Nat) (A : Nat → GAct) : VW := [oA N A]
def zV (N : Nat) (A : Nat → GAct) (F nI : Nat) (I : Nat → GInst) (D : GCommand) : VW := [oA N A, oP F nI nilS D, oI nI I]
def selS (_ : Exit) (_ : VSt) : List Sel := [.keep 0, .keep 2, .keep 1]
def ksS (_ : Exit) : List Nat := [1, 5]
def leafS (N : Nat) (A : Nat → GAct) (F : Nat) (e : Exit) (S : VSt) : Prop :=
  match e with
  | .normal => QSt S ⟨zTm N, zV N A F (2 * F + 1) (fun _ => instZ) cmdZ⟩
  | _ => False
theorem pre_ok (N : Nat) (A : Nat → GAct) (f : Int) (F : Nat) (hF : f % (4 : Int) = F) (hF3 : F ≤ 3) :
    Hold (Xs Try.prog (ctxG [(26, inG), (11, knownG)] [] []) 200 [pc (bodyOf Try.f9) 0, pc (bodyOf Try.f9) 1, pc (bodyOf Try.f9) 2, pc (bodyOf Try.f9) 3] ⟨e0Tm f N, e0V N A⟩
      fun e S' => reshape 0 (selS e S') (ksS e) [] [] S' (leafS N A F e)) := by
  refine by_nf (B := ((0 : Int) + (1 : Int) ≤ (4 : Int) ∧
    (4 : Int) ≤ (1000000 : Int)) ∧
    ((0 : Int) ≤ IntKind.i64.wrap (IntKind.i64.wrap ((2 : Int) * (f % (4 : Int))) + (1 : Int)) ∧
    IntKind.i64.wrap (IntKind.i64.wrap ((2 : Int) * (f % (4 : Int))) + (1 : Int)) ≤ IntKind.i64.wrap (IntKind.i64.wrap ((2 : Int) * (f % (4 : Int))) + (1 : Int)) ∧
    fitsN (IntKind.i64.wrap (IntKind.i64.wrap ((2 : Int) * (f % (4 : Int))) + (1 : Int))).toNat (120 : Nat)) ∧
    QSt { tmps := [unk, Value.slice (some { block := (0 : Nat), off := { block := (0 : Nat), off := (3 : Nat), spot := some (0 : Nat) : Addr }.off, spot := some (0 : Nat) : Addr }) N (0 : Nat), unk, unk, unk, Value.pointer (some { block := (1 : Nat), off := { block := (2 : Nat), off := (0 : Nat) : Addr }.off : Addr }), unk, unk, unk, unk, unk, unk, unk, unk, unk, unk, unk, unk, unk, unk, unk, unk, unk, unk, unk, unk, unk, unk, unk, unk, unk, unk, unk, unk, unk, unk, unk, unk, unk, unk, unk, unk, unk, unk, unk, unk, unk, unk, unk, unk, unk, unk, unk, unk, unk, unk, unk, unk, unk, unk, unk, unk, unk, unk, unk, unk, unk, unk, unk, unk, unk, unk, unk, unk, unk, unk, unk, unk, unk, unk, unk, unk, unk, unk, unk, unk, unk, unk, unk, unk, unk, unk, unk, unk, unk, unk, unk, unk, unk, unk, unk, unk, unk, unk, unk, unk, unk, unk, unk, unk, unk, unk, unk, unk, unk, unk, unk, unk, unk, unk, unk, unk, unk, unk, unk, unk, unk, unk, unk, unk, unk, unk, unk, unk, unk, unk, unk, unk, unk], V := [VObj.arg (73 : TypeId) (6 : Nat) N fun i => (A i).c, VObj.cells (71 : Nat) [Value.int IntKind.i64 (f % (4 : Int)), Value.slice (some { block := (2 : Nat), off := { block := (1 : Nat), off := (0 : Nat), spot := some (0 : Nat) : Addr }.off, spot := some (0 : Nat) : Addr }) (IntKind.i64.wrap (IntKind.i64.wrap ((2 : Int) * (f % (4 : Int))) + (1 : Int))).toNat (IntKind.i64.wrap (IntKind.i64.wrap ((2 : Int) * (f % (4 : Int))) + (1 : Int))).toNat, Value.slice none (0 : Nat) (0 : Nat), Value.int IntKind.i64 (0 : Int), Value.int IntKind.i64 (0 : Int), Value.int IntKind.i64 (0 : Int), Value.string { data := #[] : ByteArray }, Value.int IntKind.i64 (0 : Int), Value.int IntKind.i64 (0 : Int), Value.int IntKind.i64 (0 : Int), Value.int IntKind.i64 (0 : Int), Value.int IntKind.i64 (0 : Int)], VObj.rows true (32 : Nat) (14 : Nat) (IntKind.i64.wrap (IntKind.i64.wrap ((2 : Int) * (f % (4 : Int))) + (1 : Int))).toNat (IntKind.i64.wrap (IntKind.i64.wrap ((2 : Int) * (f % (4 : Int))) + (1 : Int))).toNat fun x => [Value.int IntKind.i64 (0 : Int), Value.int IntKind.i64 (0 : Int), Value.int IntKind.i64 (0 : Int), Value.int IntKind.i64 (0 : Int), Value.int IntKind.i64 (0 : Int), Value.int IntKind.i64 (0 : Int), Value.int IntKind.i64 (0 : Int), Value.string { data := #[] : ByteArray }, Value.int IntKind.i64 (0 : Int), Value.int IntKind.i64 (0 : Int), Value.int IntKind.i64 (0 : Int), Value.int IntKind.i64 (0 : Int), Value.int IntKind.i64 (0 : Int), Value.bool false]] : VSt } { tmps := zTm N, V := zV N A F ((2 : Nat) * F + (1 : Nat)) (fun x => instZ) cmdZ : VSt }) (by kernel_rfl) ?_
  have hw : IntKind.i64.wrap (IntKind.i64.wrap (2 * (F : Int)) + 1) = ((2 * F + 1 : Nat) : Int) := by rw [w64 (2 * (F : Int)) (by omega), w64 _ (by omega)]; omega
  rw [hF, hw]
  exact ⟨⟨by omega, by omega⟩, ⟨by omega, by omega, ⟨by omega, by omega⟩⟩, ⟨rfl⟩⟩
theorem z0_ok (N : Nat) (A : Nat → GAct) (F nI : Nat) (I : Nat → GInst) (D : GCommand) :
    Does Try.prog (cL (pc (bodyOf Try.f9) 4)) ⟨zTm N, eV N A F nI I D⟩ fun e S' => tame (eV N A F nI I D) S'.V (reshape 0 (sel4 e S') (ks3 e) [] [] S' (leafN ⟨lTm N ((0 : Nat) : Int), eV N A F nI I D⟩ e)) := by
  refine of_code noCtx (n := 200) .g ?_
  refine by_nf (B := some (oA N A) = some (oA N A) ∧
    QSt { tmps := [unk, Value.slice (some { block := (0 : Nat), off := { block := (0 : Nat), off := (3 : Nat), spot := some (0 : Nat) : Addr }.off, spot := some (0 : Nat) : Addr }) N (0 : Nat), unk, unk, unk, Value.pointer (some { block := (1 : Nat), off := { block := (1 : Nat), off := (0 : Nat) : Addr }.off : Addr }), Value.int IntKind.i64 (0 : Int), unk, unk, unk, unk, unk, unk, unk, unk, unk, unk, unk, unk, unk, unk, unk, unk, unk, unk, unk, unk, unk, unk, unk, unk, unk, unk, unk, unk, unk, unk, unk, unk, unk, unk, unk, unk, unk, unk, unk, unk, unk, unk, unk, unk, unk, unk, unk, unk, unk, unk, unk, unk, unk, unk, unk, unk, unk, unk, unk, unk, unk, unk, unk, unk, unk, unk, unk, unk, unk, unk, unk, unk, unk, unk, unk, unk, unk, unk, unk, unk, unk, unk, unk, unk, unk, unk, unk, unk, unk, unk, unk, unk, unk, unk, unk, unk, unk, unk, unk, unk, unk, unk, unk, unk, unk, unk, unk, unk, unk, unk, unk, unk, unk, unk, unk, unk, unk, unk, unk, unk, unk, unk, unk, unk, unk, unk, unk, unk, unk, unk, unk, unk], V := [VObj.arg (73 : TypeId) (6 : Nat) N fun i => (A i).c, VObj.cells (71 : TypeId) [Value.int IntKind.i64 (↑F : Int), Value.slice (some { block := (2 : Nat), off := { block := (2 : Nat), off := (0 : Nat), spot := some (0 : Nat) : Addr }.off, spot := some (0 : Nat) : Addr }) nI nI, Value.slice none (0 : Nat) (0 : Nat), Value.int IntKind.i64 D.Kind, Value.int IntKind.i64 D.Client, Value.int IntKind.i64 D.Op, Value.string D.Name, Value.int IntKind.i64 D.File.Client, Value.int IntKind.i64 D.File.Op, Value.int IntKind.i64 D.New.Client, Value.int IntKind.i64 D.New.Op, Value.int IntKind.i64 D.Size], VObj.rows true (32 : TypeId) (14 : Nat) nI nI fun r => (I r).c, VObj.dead] : VSt } { tmps := lTm N (↑(0 : Nat) : Int), V := eV N A F nI I D : VSt }) (by kernel_rfl) ?_
  exact ⟨rfl, ⟨rfl⟩⟩

/-- at the end -/
def ownB_ (W : World) (e : Exit) (a : Act) (w : World) : Prop := ∃ env S, Rep env S a w ∧ xend Try.prog (ctxG [] [] []) Try.f9 (fun v _ => v = .bool true) e S ∧ RowKit.Below WI.n W w

theorem fin_do (W : World) (N : Nat) (A : Nat → GAct) (F nI i : Nat) : Do Try.prog (at_ (bodyOf Try.f9) 5) (HS W N A F nI i) (ownB_ W) := by
  refine Do.of fun a w ⟨st, hG, hst⟩ => ?_
  rcases hst with ⟨hn0, env, L, hR, hf, hb⟩ | ⟨hn0, env, hR, hb⟩
  · exact ⟨env, _, _, hR, fin_F N A F nI st.n st.P (U1 st.P L) (U2 st.P L) st.I st.D i, fun e env' S' a' w' hF hR' hK => ⟨env', S', hR', hK, hb.trans (hF.belowN hR.mem)⟩⟩
  · exact ⟨env, _, _, hR, fin_T N A F nI st.I st.D i, fun e env' S' a' w' hF hR' hK => ⟨env', S', hR', hK, hb.trans (hF.belowN hR.mem)⟩⟩

/-- the play at its start -/
structure ZS (W : World) (N : Nat) (A : Nat → GAct) (F : Nat) (a : Act) (w : World) : Prop where
  ex : ∃ env, Rep env ⟨zTm N, eV N A F (2 * F + 1) (fun _ => instZ) cmdZ⟩ a w ∧ RowKit.Below WI.n W w

theorem rest_do (W : World) (N : Nat) (A : Nat → GAct) (F : Nat) (hF : F ≤ 3) (hN : N ≤ 9223372036854775807) : Do Try.prog (.seq (.seq (cL (pc (bodyOf Try.f9) 4)) (.block 0 (.loop (roundOf Try.f9 0)))) (at_ (bodyOf Try.f9) 5)) (ZS W N A F) (ownB_ W) := by
  refine Do.seq (M := HS W N A F (2 * F + 1) N) (Do.seq (M := HS W N A F (2 * F + 1) 0) (Do.of fun a w ⟨env, hR, hb⟩ => ?_) ((loop_do W N A F (2 * F + 1) rfl hF hN).mono (fun _ _ h => h) fun e a w h => ?_)) (fin_do W N A F (2 * F + 1) N)
  · refine ⟨env, _, _, hR, z0_ok N A F (2 * F + 1) (fun _ => instZ) cmdZ, fun e env' S' a' w' hF' hR' hk' => ?_⟩
    obtain ⟨hk', hnew⟩ := tame_ok hk'
    have hb' := hb.trans (hF'.belowN hR.mem)
    obtain ⟨env2, S2, hR2, hleaf, hlen, hag, hpl⟩ := hR'.shape hk'
    cases e with
    | normal =>
      obtain ⟨rfl⟩ := hleaf
      exact (show HS W N A F (2 * F + 1) 0 a' w' from ⟨PS0, ⟨by show 0 ≤ 64; omega, _, inv_start F⟩, .inr ⟨rfl, env2, hR2, hb'⟩⟩)
    | _ => exact hleaf.elim
  · obtain ⟨rfl, h⟩ := h
    exact h

theorem law_do (W : World) (N : Nat) (A : Nat → GAct) (f : Int) (hN : N ≤ 9223372036854775807) : Do Try.prog (bodyOf Try.f9) (fun a w => ∃ env, Rep env ⟨e0Tm f N, e0V N A⟩ a w ∧ RowKit.Below WI.n W w) (ownB_ W) := by
  obtain ⟨F, hF, hF4⟩ := natMod f (m := 4) (by omega)
  have hF : f % (4 : Int) = F := hF
  rw [body_eq]
  refine Do.pieces (ctxG_ok (l := [(26, inG), (11, knownG)]) (cs := []) (bs := []) (.cons in_ok (.cons known_ok .nil)) .nil) 200 _ (fun c hc => .g) (rest_do W N A F (by omega) hN) fun a w ⟨env, hR, hb⟩ => ⟨env, _, _, hR, pre_ok N A f F hF (by omega), fun e env' S' a' w' hF hR' hK => ?_⟩
  obtain ⟨env2, S2, hR2, hleaf, hlen, hag, hpl⟩ := hR'.shape hK
  have hb2 := hb.trans (hF.belowN hR.mem)
  cases e with
  | normal =>
    obtain ⟨rfl⟩ := hleaf
    have hW1 : RepW env2 (zV N A F (2 * F + 1) (fun _ => instZ) cmdZ ++ [.dead]) w' := hR2.mem.addP (env' := env2) (l := env2 3) (fun _ _ => rfl) rfl trivial trivial (fun h => h.elim) (fun h => h.2.elim) (fun j oj _ _ _ hB => hB.elim)
    exact (show ZS W N A F a' w' from ⟨env2, hR2.swap (V' := eV N A F (2 * F + 1) (fun _ => instZ) cmdZ) hW1 (by show 3 ≤ 4; omega) (fun _ _ => rfl), hb2⟩)
  | _ => exact hleaf.elim

/-- the law returns true -/
theorem one_calls (N : Nat) (A : Nat → GAct) (f : Int) (hN : N ≤ 9223372036854775807) (env : Nat → X.Loc) (w : World) (hW : RepW env (e0V N A) w) :
    Calls Try.prog 9 #[.int .i64 f, ren env (sA N)] w fun e w' => e = .returned (.bool true) ∧ RowKit.Below WI.n w w' := by
  refine calls_of_wp Try.func9 rfl ?_
  have hR := Rep.start (args := [.int .i64 f, sA N]) hW (fun v hv => by
    simp only [List.mem_cons, List.not_mem_nil, or_false] at hv
    rcases hv with rfl | rfl
    · exact scB_ok 6 _ rfl
    · exact .slice (by show 0 < 1; omega)) 139
  have hnt : Try.f9.ntmps = 139 := by kernel_rfl
  have e1 : ({ tmps := #[.int .i64 f, ren env (sA N)] ++ Array.replicate (Try.f9.ntmps - (#[.int .i64 f, ren env (sA N)] : Array Value).size) undef, defers := [] } : Act) =
      { tmps := ([.int .i64 f, sA N].map (ren env)).toArray ++ Array.replicate (139 - ([.int .i64 f, sA N].map (ren env)).toArray.size) undef, defers := [] } := by rw [hnt, List.map_cons, ren_int]; rfl
  rw [e1]
  refine wp_mono (law_do w N A f hN _ w ⟨env, hR, .refl _ _⟩) ?_
  rintro e a' w' ⟨hne, env', S', hR', hK, hb⟩
  obtain ⟨he, v, hrun, rfl⟩ := xend_ok hR' hK
  have : a'.defers = [] ∧ ∃ u, (results Try.f9 a'.tmps).run Try.prog w' = .ok u w' ∧ Ending.returned u = .returned (.bool true) ∧ RowKit.Below WI.n w w' := ⟨hR'.def_, _, hrun, by rw [ren_bool], hb⟩
  rcases he with rfl | rfl
  · exact this
  · exact this
end Go.Acc
