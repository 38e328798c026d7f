/- The reference's Is: is a configuration right? It answers as right does. -/
import Derived.Test.YtgnhcoefocbmpaaGreatNC0
set_option linter.unusedSimpArgs false
set_option linter.unusedVariables false
set_option linter.unusedSectionVars false
set_option maxRecDepth 100000
namespace Go.Msg
open Go Go.X Go.Proofs
variable [WI]
def pt (p : Nat) : Value := .pointer (some ⟨p, 0, none⟩)
def iTm (i q : Int) : List Value := [unk, pt 1, unk, .int .i64 i, .int .i64 q] ++ List.replicate 79 unk
def iV (c : Cf) : VW := [c.V, .cells 24 (c.cells 0)]
structure IAt (c : Cf) (i k : Nat) : Prop where
  le : k ≤ i
  lt : i < c.n
  n : c.n ≤ 64
  ok : ∀ q, q < i - k → c.s q ≠ c.s i
def iJ (c : Cf) (i k : Nat) (S : VSt) : Prop := leT (iTm i (i - k : Nat)) S.tmps ∧ VEq S.V (iV c) ∧ IAt c i k
def iK (c : Cf) (i : Nat) (e : Exit) (S : VSt) : Prop :=
  match e with
  | .normal => QSt S ⟨[unk, pt 1, unk, .int .i64 i] ++ List.replicate 80 unk, iV c⟩ ∧ Is (∀ q, q < i → c.s q ≠ c.s i)
  | .ret => QSt S ⟨[unk, unk, .bool false] ++ List.replicate 81 unk, [c.V, .dead]⟩ ∧ Is (¬ ∀ q, q < i → c.s q ≠ c.s i)
  | _ => False
def iKs (e : Exit) : List Nat := match e with | .normal => [1, 3, 4] | .exit _ => [1, 3] | .ret => [2] | _ => []
def iSel (e : Exit) (_ : VSt) : List Sel := match e with | .ret => [.keep 0, .drop 1] | _ => [.keep 0, .keep 1]
theorem i_round (c : Cf) (i k j : Nat) (hj : j + k = i) (hA : IAt c i k) :
    Does Tryz.prog (roundOf Tryz.f59 2) ⟨iTm i j, iV c⟩ fun e S' => reshape 2 (iSel e S') (iKs e) [] [] S' (roundR 2 (iJ c i) k (iK c i) e) := by
  refine of_code c0_ok (n := 300) .g ?_
  refine by_nf (B := bsplit (decide ((↑j : Int) < (↑i : Int))) (((0 : Int) ≤ (↑j : Int) ∧
    (↑j : Int) + (1 : Int) ≤ (↑c.n : Int) ∧
    (0 : Nat) + c.n ≤ c.n) ∧
    ((0 : Nat) + (↑j : Int).toNat).succ ≤ c.n ∧
    ((0 : Int) ≤ (↑i : Int) ∧
    (↑i : Int) + (1 : Int) ≤ (↑c.n : Int) ∧
    (0 : Nat) + c.n ≤ c.n) ∧
    ((0 : Nat) + (↑i : Int).toNat).succ ≤ c.n ∧
    bsplit (c.s ((0 : Nat) + (↑j : Int).toNat) == c.s ((0 : Nat) + (↑i : Int).toNat)) (QSt { tmps := ([unk, unk, Value.bool false] ++ List.replicate 81 unk), V := [VObj.arg (3 : TypeId) (1 : Nat) c.n fun r => [Value.int IntKind.i64 (c.s r)], VObj.dead] : VSt } { tmps := ([unk, unk, Value.bool false] ++ List.replicate 81 unk), V := [VObj.arg (3 : TypeId) (1 : Nat) c.n fun r => [Value.int IntKind.i64 (c.s r)], VObj.dead] : VSt } ∧
    Is ¬∀ (q : Nat), q < i → c.s q ≠ c.s i) ((k = (0 : Nat) → False) ∧
    (Value.pointer (some ⟨1, 0, none⟩) = Value.pointer (some ⟨1, 0, none⟩) ∧
    Value.int IntKind.i64 (↑i : Int) = Value.int IntKind.i64 (↑i : Int) ∧
    Value.int IntKind.i64 (↑(i - (k - (1 : Nat))) : Int) = Value.int IntKind.i64 (IntKind.i64.wrap ((↑j : Int) + (1 : Int))) ∧
    True) ∧
    VEq [VObj.arg (3 : TypeId) (1 : Nat) c.n fun r => [Value.int IntKind.i64 (c.s r)], VObj.cells (24 : TypeId) [Value.slice (some ⟨0, 3, some 0⟩) c.n (0 : Nat), Value.int IntKind.i64 c.F, Value.int IntKind.i64 c.P, Value.int IntKind.i64 c.B, Value.int IntKind.i64 c.L, Value.int IntKind.i64 c.R]] [VObj.arg (3 : TypeId) (1 : Nat) c.n fun r => [Value.int IntKind.i64 (c.s r)], VObj.cells (24 : TypeId) [Value.slice (some ⟨0, 3, some 0⟩) c.n (0 : Nat), Value.int IntKind.i64 c.F, Value.int IntKind.i64 c.P, Value.int IntKind.i64 c.B, Value.int IntKind.i64 c.L, Value.int IntKind.i64 c.R]] ∧
    IAt c i (k - (1 : Nat)))) (QSt { tmps := ([unk, Value.pointer (some ⟨1, 0, none⟩), unk, Value.int IntKind.i64 (↑i : Int)] ++ List.replicate 80 unk), V := [VObj.arg (3 : TypeId) (1 : Nat) c.n fun r => [Value.int IntKind.i64 (c.s r)], VObj.cells (24 : TypeId) [Value.slice (some ⟨0, 3, some 0⟩) c.n (0 : Nat), Value.int IntKind.i64 c.F, Value.int IntKind.i64 c.P, Value.int IntKind.i64 c.B, Value.int IntKind.i64 c.L, Value.int IntKind.i64 c.R]] : VSt } { tmps := ([unk, Value.pointer (some ⟨1, 0, none⟩), unk, Value.int IntKind.i64 (↑i : Int)] ++ List.replicate 80 unk), V := [VObj.arg (3 : TypeId) (1 : Nat) c.n fun r => [Value.int IntKind.i64 (c.s r)], VObj.cells (24 : TypeId) [Value.slice (some ⟨0, 3, some 0⟩) c.n (0 : Nat), Value.int IntKind.i64 c.F, Value.int IntKind.i64 c.P, Value.int IntKind.i64 c.B, Value.int IntKind.i64 c.L, Value.int IntKind.i64 c.R]] : VSt } ∧
    Is (∀ (q : Nat), q < i → c.s q ≠ c.s i))) (by kernel_rfl) ?_
  obtain ⟨h1, h2, h3, h4⟩ := hA
  rw [show i - k = j by omega] at h4
  have e0 : (0 : Nat) + (j : Int).toNat = j := by omega
  have e1 : (0 : Nat) + (i : Int).toNat = i := by omega
  rw [e0, e1]
  refine bsplit_iff.2 ⟨fun hlt => ?_, fun hge => ?_⟩
  · have hlt : j < i := by simpa using hlt
    refine ⟨⟨by omega, by omega, by omega⟩, by omega, ⟨by omega, by omega, by omega⟩, by omega, bsplit_iff.2 ⟨fun g => ⟨⟨rfl⟩, ⟨fun hs => ?_⟩⟩, fun g => ⟨fun hk => by omega, ⟨rfl, rfl, ?_, trivial⟩, ⟨rfl⟩, ⟨by omega, h2, h3, ?_⟩⟩⟩⟩
    · exact hs j hlt (by simpa using g)
    · have e : IntKind.i64.wrap ((j : Int) + 1) = ((i - (k - 1) : Nat) : Int) := by
        rw [w64 _ (by omega)]; omega
      rw [e]
    · rw [show i - (k - 1) = j + 1 by omega]
      intro q hq
      rcases Nat.lt_or_ge q j with hqj | hqj
      · exact h4 q hqj
      · obtain rfl : q = j := by omega
        simpa using g
  · have hge : ¬ j < i := by simpa using hge
    obtain rfl : j = i := by omega
    exact ⟨⟨rfl⟩, ⟨h4⟩⟩
def iB (c : Cf) (i : Nat) : BlkS := fun S K => reshape S.V.length (iSel .normal S) (iKs .normal) [] [] S (iJ c i i) ∧ S.V.length = 2 ∧
  (Is (∀ q, q < i → c.s q ≠ c.s i) → K .normal ⟨[unk, pt 1, unk, .int .i64 i] ++ List.replicate 80 unk, iV c⟩) ∧ (Is (¬ ∀ q, q < i → c.s q ≠ c.s i) → K .ret ⟨[unk, unk, .bool false] ++ List.replicate 81 unk, [c.V, .dead]⟩)
theorem iV_sc (c : Cf) (i : Nat) (o : VObj) (hi : (iV c)[i]? = some o) : ScO 2 o := by
  match i, hi with
  | 0, hi => cases hi; trivial
  | 1, hi => cases hi; exact fun v hv => scB_ok 6 v (List.all_eq_true.1 (show (c.cells 0).all (scB 2 6) = true from rfl) v hv)
theorem i_loop (c : Cf) (i : Nat) (S : VSt) (K : Exit → VSt → Prop) (hB : iB c i S K) : Does Tryz.prog (.block 2 (.loop (roundOf Tryz.f59 2))) S K := by
  obtain ⟨h1, h2, h3, h4⟩ := hB
  refine Does.mono (Does.loopR (K := iK c i) iKs iSel [] [] (iJ c i) S (reshape_mono (fun S hS => ⟨_, hS⟩) h1) fun k S' hJ => ?_) fun e S' hK => ?_
  · obtain ⟨ht, ⟨hV⟩, hA⟩ := hJ
    rw [h2]
    have hle := hA.le
    exact Does.weaken (i_round c i k (i - k) (by omega) hA) ht hV.symm (.of rfl (iV_sc c))
  · cases e with
    | normal => obtain ⟨⟨rfl⟩, hs⟩ := hK; exact h3 hs
    | ret => obtain ⟨⟨rfl⟩, hs⟩ := hK; exact h4 hs
    | _ => exact False.elim hK
/-! ### the servers, one by one -/
def oTm (i : Int) : List Value := [unk, pt 1, unk, .int .i64 i] ++ List.replicate 80 unk
def oJ (c : Cf) (k : Nat) (S : VSt) : Prop := leT (oTm (c.n - k : Nat)) S.tmps ∧ VEq S.V (iV c) ∧ RAt c k
def oK (c : Cf) (e : Exit) (S : VSt) : Prop :=
  match e with
  | .normal => QSt S ⟨[unk, pt 1] ++ List.replicate 82 unk, iV c⟩ ∧ Is (SrvOk c.n c.s)
  | .ret => QSt S ⟨[unk, unk, .bool false] ++ List.replicate 81 unk, [c.V, .dead]⟩ ∧ Is (¬ SrvOk c.n c.s)
  | _ => False
def oKs (e : Exit) : List Nat := match e with | .normal => [1, 3] | .exit _ => [1] | .ret => [2] | _ => []
theorem o_round (c : Cf) (k j : Nat) (hj : j + k = c.n) (hA : RAt c k) :
    Does Tryz.prog (roundOf Tryz.f59 0) ⟨oTm j, iV c⟩ fun e S' => reshape 2 (iSel e S') (oKs e) [] [] S' (roundR 0 (oJ c) k (oK c) e) := by
  refine of_code (ctxG_ok (l := []) (cs := []) (bs := [(2, iB c j)]) .nil .nil) (n := 300) (.one rfl rfl (i_loop c j)) ?_
  refine by_nf (B := bsplit (decide ((↑j : Int) < (↑c.n : Int))) (((0 : Int) ≤ (↑j : Int) ∧
    (↑j : Int) + (1 : Int) ≤ (↑c.n : Int) ∧
    (0 : Nat) + c.n ≤ c.n) ∧
    ((0 : Nat) + (↑j : Int).toNat).succ ≤ c.n ∧
    bsplit (decide (c.s ((0 : Nat) + (↑j : Int).toNat) < (1 : Int))) (QSt { tmps := ([unk, unk, Value.bool false] ++ List.replicate 81 unk), V := [VObj.arg (3 : TypeId) (1 : Nat) c.n fun r => [Value.int IntKind.i64 (c.s r)], VObj.dead] : VSt } { tmps := ([unk, unk, Value.bool false] ++ List.replicate 81 unk), V := [VObj.arg (3 : TypeId) (1 : Nat) c.n fun r => [Value.int IntKind.i64 (c.s r)], VObj.dead] : VSt } ∧
    Is ¬SrvOk c.n c.s) (((0 : Int) ≤ (↑j : Int) ∧
    (↑j : Int) + (1 : Int) ≤ (↑c.n : Int) ∧
    (0 : Nat) + c.n ≤ c.n) ∧
    ((0 : Nat) + (↑j : Int).toNat).succ ≤ c.n ∧
    bsplit (decide (c.s ((0 : Nat) + (↑j : Int).toNat) > (255 : Int))) (QSt { tmps := ([unk, unk, Value.bool false] ++ List.replicate 81 unk), V := [VObj.arg (3 : TypeId) (1 : Nat) c.n fun r => [Value.int IntKind.i64 (c.s r)], VObj.dead] : VSt } { tmps := ([unk, unk, Value.bool false] ++ List.replicate 81 unk), V := [VObj.arg (3 : TypeId) (1 : Nat) c.n fun r => [Value.int IntKind.i64 (c.s r)], VObj.dead] : VSt } ∧
    Is ¬SrvOk c.n c.s) (((Value.pointer (some ⟨1, 0, none⟩) = Value.pointer (some ⟨1, 0, none⟩) ∧
    Value.int IntKind.i64 (↑j : Int) = Value.int IntKind.i64 (↑j : Int) ∧
    Value.int IntKind.i64 (↑(j - j) : Int) = Value.int IntKind.i64 (0 : Int) ∧
    True) ∧
    VEq [VObj.arg (3 : TypeId) (1 : Nat) c.n fun r => [Value.int IntKind.i64 (c.s r)], VObj.cells (24 : TypeId) [Value.slice (some ⟨0, 3, some 0⟩) c.n (0 : Nat), Value.int IntKind.i64 c.F, Value.int IntKind.i64 c.P, Value.int IntKind.i64 c.B, Value.int IntKind.i64 c.L, Value.int IntKind.i64 c.R]] [VObj.arg (3 : TypeId) (1 : Nat) c.n fun r => [Value.int IntKind.i64 (c.s r)], VObj.cells (24 : TypeId) [Value.slice (some ⟨0, 3, some 0⟩) c.n (0 : Nat), Value.int IntKind.i64 c.F, Value.int IntKind.i64 c.P, Value.int IntKind.i64 c.B, Value.int IntKind.i64 c.L, Value.int IntKind.i64 c.R]] ∧
    IAt c j j) ∧
    (2 : Nat) = (2 : Nat) ∧
    (Is (∀ (q : Nat), q < j → c.s q ≠ c.s j) → (k = (0 : Nat) → False) ∧
    (Value.pointer (some ⟨1, 0, none⟩) = Value.pointer (some ⟨1, 0, none⟩) ∧
    Value.int IntKind.i64 (↑(c.n - (k - (1 : Nat))) : Int) = Value.int IntKind.i64 (IntKind.i64.wrap ((↑j : Int) + (1 : Int))) ∧
    True) ∧
    VEq [VObj.arg (3 : TypeId) (1 : Nat) c.n fun r => [Value.int IntKind.i64 (c.s r)], VObj.cells (24 : TypeId) [Value.slice (some ⟨0, 3, some 0⟩) c.n (0 : Nat), Value.int IntKind.i64 c.F, Value.int IntKind.i64 c.P, Value.int IntKind.i64 c.B, Value.int IntKind.i64 c.L, Value.int IntKind.i64 c.R]] [VObj.arg (3 : TypeId) (1 : Nat) c.n fun r => [Value.int IntKind.i64 (c.s r)], VObj.cells (24 : TypeId) [Value.slice (some ⟨0, 3, some 0⟩) c.n (0 : Nat), Value.int IntKind.i64 c.F, Value.int IntKind.i64 c.P, Value.int IntKind.i64 c.B, Value.int IntKind.i64 c.L, Value.int IntKind.i64 c.R]] ∧
    RAt c (k - (1 : Nat))) ∧
    ((Is ¬∀ (q : Nat), q < j → c.s q ≠ c.s j) → QSt { tmps := ([unk, unk, Value.bool false] ++ List.replicate 81 unk), V := [VObj.arg (3 : TypeId) (1 : Nat) c.n fun r => [Value.int IntKind.i64 (c.s r)], VObj.dead] : VSt } { tmps := ([unk, unk, Value.bool false] ++ List.replicate 81 unk), V := [VObj.arg (3 : TypeId) (1 : Nat) c.n fun r => [Value.int IntKind.i64 (c.s r)], VObj.dead] : VSt } ∧
    Is ¬SrvOk c.n c.s)))) (QSt { tmps := ([unk, Value.pointer (some ⟨1, 0, none⟩)] ++ List.replicate 82 unk), V := [VObj.arg (3 : TypeId) (1 : Nat) c.n fun r => [Value.int IntKind.i64 (c.s r)], VObj.cells (24 : TypeId) [Value.slice (some ⟨0, 3, some 0⟩) c.n (0 : Nat), Value.int IntKind.i64 c.F, Value.int IntKind.i64 c.P, Value.int IntKind.i64 c.B, Value.int IntKind.i64 c.L, Value.int IntKind.i64 c.R]] : VSt } { tmps := ([unk, Value.pointer (some ⟨1, 0, none⟩)] ++ List.replicate 82 unk), V := [VObj.arg (3 : TypeId) (1 : Nat) c.n fun r => [Value.int IntKind.i64 (c.s r)], VObj.cells (24 : TypeId) [Value.slice (some ⟨0, 3, some 0⟩) c.n (0 : Nat), Value.int IntKind.i64 c.F, Value.int IntKind.i64 c.P, Value.int IntKind.i64 c.B, Value.int IntKind.i64 c.L, Value.int IntKind.i64 c.R]] : VSt } ∧
    Is (SrvOk c.n c.s))) (by kernel_rfl) ?_
  obtain ⟨h1, h2, h3⟩ := hA
  rw [show c.n - k = j by omega] at h3
  have e0 : (0 : Nat) + (j : Int).toNat = j := by omega
  rw [e0]
  refine bsplit_iff.2 ⟨fun hlt => ?_, fun hge => ?_⟩
  · have hlt : j < c.n := by simpa using hlt
    refine ⟨⟨by omega, by omega, by omega⟩, by omega, bsplit_iff.2 ⟨fun g1 => ⟨⟨rfl⟩, ⟨fun hs => ?_⟩⟩, fun g1 => ⟨⟨by omega, by omega, by omega⟩, by omega, bsplit_iff.2 ⟨fun g2 => ⟨⟨rfl⟩, ⟨fun hs => ?_⟩⟩, fun g2 =>
      ⟨⟨⟨rfl, rfl, by simp, trivial⟩, ⟨rfl⟩, ⟨Nat.le_refl _, hlt, h2, fun q hq => by omega⟩⟩, rfl, fun ⟨hq⟩ => ⟨fun hk => by omega, ⟨rfl, ?_, trivial⟩, ⟨rfl⟩, ⟨by omega, h2, ?_⟩⟩, fun ⟨hq⟩ => ⟨⟨rfl⟩, ⟨fun hs => hq (hs j hlt).2⟩⟩⟩⟩⟩⟩⟩
    · have := (hs j hlt).1
      have g1 : c.s j < 1 := by simpa using g1
      omega
    · have := (hs j hlt).1
      have g2 : c.s j > 255 := by simpa using g2
      omega
    · have e : IntKind.i64.wrap ((j : Int) + 1) = ((c.n - (k - 1) : Nat) : Int) := by
        rw [w64 _ (by omega)]; omega
      rw [e]
    · rw [show c.n - (k - 1) = j + 1 by omega]
      intro q hq'
      rcases Nat.lt_or_ge q j with hqj | hqj
      · exact h3 q hqj
      · obtain rfl : q = j := by omega
        have g1 : ¬ c.s q < 1 := by simpa using g1
        have g2 : ¬ c.s q > 255 := by simpa using g2
        exact ⟨by omega, hq⟩
  · have hge : ¬ j < c.n := by simpa using hge
    obtain rfl : j = c.n := by omega
    exact ⟨⟨rfl⟩, ⟨h3⟩⟩
def oB (c : Cf) : BlkS := fun S K => reshape S.V.length (iSel .normal S) (oKs .normal) [] [] S (oJ c c.n) ∧ S.V.length = 2 ∧ Is (c.n ≤ 64) ∧
  (Is (SrvOk c.n c.s) → K .normal ⟨[unk, pt 1] ++ List.replicate 82 unk, iV c⟩) ∧ (Is (¬ SrvOk c.n c.s) → K .ret ⟨[unk, unk, .bool false] ++ List.replicate 81 unk, [c.V, .dead]⟩)
theorem o_loop (c : Cf) (S : VSt) (K : Exit → VSt → Prop) (hB : oB c S K) : Does Tryz.prog (.block 0 (.loop (roundOf Tryz.f59 0))) S K := by
  obtain ⟨h1, h2, _, h3, h4⟩ := hB
  refine Does.mono (Does.loopR (K := oK c) oKs iSel [] [] (oJ c) S (reshape_mono (fun S hS => ⟨_, hS⟩) h1) fun k S' hJ => ?_) fun e S' hK => ?_
  · obtain ⟨ht, ⟨hV⟩, hA⟩ := hJ
    rw [h2]
    have hle := hA.le
    exact Does.weaken (o_round c k (c.n - k) (by omega) hA) ht hV.symm (.of rfl (iV_sc c))
  · cases e with
    | normal => obtain ⟨⟨rfl⟩, hs⟩ := hK; exact h3 hs
    | ret => obtain ⟨⟨rfl⟩, hs⟩ := hK; exact h4 hs
    | _ => exact False.elim hK
theorem withinAll : AllC Tryz.prog [(119, inl Tryz.prog c0 300 Tryz.f119)] := .cons (c0_inl 119 _ 300 _ Tryz.func119 rfl (by decide +kernel)) .nil
theorem is_does (c : Cf) : CallDoes Tryz.prog 59 [.agg ⟨c.cells 0⟩] [c.V] fun v V => BoolV c.ok v ∧ VEq V [c.V] := by
  refine CallDoes.reshape selA [] [] ?_
  refine of_run (ctxG_ok (l := []) (bs := [(0, oB c)]) .nil withinAll) (n := 300) Tryz.func59 rfl (.one rfl rfl (o_loop c)) ?_
  refine by_nf (B := bsplit (decide (c.F < (0 : Int))) (BoolV c.ok (Value.bool false) ∧
    VEq [VObj.arg (3 : TypeId) (1 : Nat) c.n fun r => [Value.int IntKind.i64 (c.s r)]] [VObj.arg (3 : TypeId) (1 : Nat) c.n fun r => [Value.int IntKind.i64 (c.s r)]])
    (bsplit (decide (c.F > (3 : Int))) (BoolV c.ok (Value.bool false) ∧
    VEq [VObj.arg (3 : TypeId) (1 : Nat) c.n fun r => [Value.int IntKind.i64 (c.s r)]] [VObj.arg (3 : TypeId) (1 : Nat) c.n fun r => [Value.int IntKind.i64 (c.s r)]])
    (bsplit (decide ((↑c.n : Int) < IntKind.i64.wrap (IntKind.i64.wrap ((2 : Int) * c.F) + (1 : Int)))) (BoolV c.ok (Value.bool false) ∧
    VEq [VObj.arg (3 : TypeId) (1 : Nat) c.n fun r => [Value.int IntKind.i64 (c.s r)]] [VObj.arg (3 : TypeId) (1 : Nat) c.n fun r => [Value.int IntKind.i64 (c.s r)]])
    (bsplit (decide ((↑c.n : Int) > (64 : Int))) (BoolV c.ok (Value.bool false) ∧
    VEq [VObj.arg (3 : TypeId) (1 : Nat) c.n fun r => [Value.int IntKind.i64 (c.s r)]] [VObj.arg (3 : TypeId) (1 : Nat) c.n fun r => [Value.int IntKind.i64 (c.s r)]]) (((Value.pointer (some ⟨1, 0, none⟩) = Value.pointer (some ⟨1, 0, none⟩) ∧
    Value.int IntKind.i64 (↑(c.n - c.n) : Int) = Value.int IntKind.i64 (0 : Int) ∧
    True) ∧
    VEq [VObj.arg (3 : TypeId) (1 : Nat) c.n fun r => [Value.int IntKind.i64 (c.s r)], VObj.cells (24 : Nat) [Value.slice (some ⟨0, 3, some 0⟩) c.n (0 : Nat), Value.int IntKind.i64 c.F, Value.int IntKind.i64 c.P, Value.int IntKind.i64 c.B, Value.int IntKind.i64 c.L, Value.int IntKind.i64 c.R]] [VObj.arg (3 : TypeId) (1 : Nat) c.n fun r => [Value.int IntKind.i64 (c.s r)], VObj.cells (24 : TypeId) [Value.slice (some ⟨0, 3, some 0⟩) c.n (0 : Nat), Value.int IntKind.i64 c.F, Value.int IntKind.i64 c.P, Value.int IntKind.i64 c.B, Value.int IntKind.i64 c.L, Value.int IntKind.i64 c.R]] ∧
    RAt c c.n) ∧
    (2 : Nat) = (2 : Nat) ∧
    Is (c.n ≤ (64 : Nat)) ∧
    (Is (SrvOk c.n c.s) → bsplit (decide (c.P ≥ (1 : Int)))
    (bsplit (decide (c.P ≤ (64 : Int)))
    (bsplit (decide (c.B ≥ (1 : Int)))
    (bsplit (decide (c.B ≤ (256 : Int)))
    (bsplit (decide (c.L ≥ (1 : Int)))
    (bsplit (decide (c.L ≤ (4096 : Int)))
    (bsplit (decide (c.R ≥ (1 : Int))) (BoolV c.ok (Value.bool (decide (c.R ≤ (256 : Int)))) ∧
    VEq [VObj.arg (3 : TypeId) (1 : Nat) c.n fun r => [Value.int IntKind.i64 (c.s r)]] [VObj.arg (3 : TypeId) (1 : Nat) c.n fun r => [Value.int IntKind.i64 (c.s r)]]) (BoolV c.ok (Value.bool false) ∧
    VEq [VObj.arg (3 : TypeId) (1 : Nat) c.n fun r => [Value.int IntKind.i64 (c.s r)]] [VObj.arg (3 : TypeId) (1 : Nat) c.n fun r => [Value.int IntKind.i64 (c.s r)]])) (BoolV c.ok (Value.bool false) ∧
    VEq [VObj.arg (3 : TypeId) (1 : Nat) c.n fun r => [Value.int IntKind.i64 (c.s r)]] [VObj.arg (3 : TypeId) (1 : Nat) c.n fun r => [Value.int IntKind.i64 (c.s r)]])) (BoolV c.ok (Value.bool false) ∧
    VEq [VObj.arg (3 : TypeId) (1 : Nat) c.n fun r => [Value.int IntKind.i64 (c.s r)]] [VObj.arg (3 : TypeId) (1 : Nat) c.n fun r => [Value.int IntKind.i64 (c.s r)]])) (BoolV c.ok (Value.bool false) ∧
    VEq [VObj.arg (3 : TypeId) (1 : Nat) c.n fun r => [Value.int IntKind.i64 (c.s r)]] [VObj.arg (3 : TypeId) (1 : Nat) c.n fun r => [Value.int IntKind.i64 (c.s r)]])) (BoolV c.ok (Value.bool false) ∧
    VEq [VObj.arg (3 : TypeId) (1 : Nat) c.n fun r => [Value.int IntKind.i64 (c.s r)]] [VObj.arg (3 : TypeId) (1 : Nat) c.n fun r => [Value.int IntKind.i64 (c.s r)]])) (BoolV c.ok (Value.bool false) ∧
    VEq [VObj.arg (3 : TypeId) (1 : Nat) c.n fun r => [Value.int IntKind.i64 (c.s r)]] [VObj.arg (3 : TypeId) (1 : Nat) c.n fun r => [Value.int IntKind.i64 (c.s r)]])) (BoolV c.ok (Value.bool false) ∧
    VEq [VObj.arg (3 : TypeId) (1 : Nat) c.n fun r => [Value.int IntKind.i64 (c.s r)]] [VObj.arg (3 : TypeId) (1 : Nat) c.n fun r => [Value.int IntKind.i64 (c.s r)]])) ∧
    (Is ¬SrvOk c.n c.s → BoolV c.ok (Value.bool false) ∧
    VEq [VObj.arg (3 : TypeId) (1 : Nat) c.n fun r => [Value.int IntKind.i64 (c.s r)]] [VObj.arg (3 : TypeId) (1 : Nat) c.n fun r => [Value.int IntKind.i64 (c.s r)]])))))) (by kernel_rfl) ?_
  have no : ¬ c.Ok → BoolV c.ok (.bool false) ∧ VEq [VObj.arg (3 : TypeId) (1 : Nat) c.n fun r => [Value.int IntKind.i64 (c.s r)]] [VObj.arg (3 : TypeId) (1 : Nat) c.n fun r => [Value.int IntKind.i64 (c.s r)]] :=
    fun h => ⟨⟨by rw [← Cf.ok_of (b := false)]; simpa using h⟩, ⟨rfl⟩⟩
  refine bsplit_iff.2 ⟨fun g1 => no ?_, fun g1 => bsplit_iff.2 ⟨fun g2 => no ?_, fun g2 => ?m⟩⟩
  case m =>
    simp only [gt_iff_lt, decide_eq_true_eq, decide_eq_false_iff_not, ge_iff_le] at g1 g2
    rw [w64 (2 * c.F) (by omega), w64 _ (by omega)]
    refine bsplit_iff.2 ⟨fun g3 => no ?_, fun g3 => bsplit_iff.2 ⟨fun g4 => no ?_, fun g4 => ⟨⟨⟨rfl, by simp, trivial⟩, ⟨rfl⟩, ⟨Nat.le_refl _, ?_, fun i hi => by omega⟩⟩, rfl, ⟨?_⟩, fun ⟨hs⟩ => ?_, fun ⟨hs⟩ => no fun ok => hs ok.s⟩⟩⟩
    all_goals simp only [gt_iff_lt, decide_eq_true_eq, decide_eq_false_iff_not, ge_iff_le] at g3
    all_goals try simp only [gt_iff_lt, decide_eq_true_eq, decide_eq_false_iff_not, ge_iff_le] at g4
    · intro ok; have := ok.n; omega
    · intro ok; have := ok.n; omega
    · omega
    · omega
    · repeat' (first | (refine bsplit_iff.2 ⟨fun g => ?_, fun g => no fun ok => ?_⟩ <;> simp only [gt_iff_lt, decide_eq_true_eq, decide_eq_false_iff_not, ge_iff_le] at g))
      · refine ⟨⟨?_⟩, ⟨rfl⟩⟩
        rw [Cf.ok_of (c := c) (b := decide (c.R ≤ 256))]
        simp only [decide_eq_true_eq]
        exact ⟨fun h => ⟨by omega, by omega, hs, by omega, by omega, by omega, by omega⟩, fun ok => ok.R.2⟩
      all_goals
        obtain ⟨_, _, _, _, _, _, _⟩ := ok
        omega
  all_goals
    simp only [gt_iff_lt, decide_eq_true_eq, decide_eq_false_iff_not, ge_iff_le] at *
    intro ok
    obtain ⟨_, _, _, _, _, _, _⟩ := ok
    omega
theorem is_ok : CallOK Tryz.prog 59 okT := ok_of_does (callable Tryz.func59 rfl (by decide +kernel)) is_does
/-! ### Fits, New of a configuration that is refused, configured -/
theorem vk_of (c : Cf) : vkV c.F c.P c.B c.L c.R c.n (shiftF 0 fun r => [.int .i64 (c.s r)]) = c := by
  obtain ⟨n, s, F, P, B, L, R⟩ := c
  simp [vkV, shiftF]
theorem ints_of (c : Cf) : IntsF c.n (shiftF 0 fun r => [.int .i64 (c.s r)]) := fun r hr => by simp [shiftF]
theorem fits_does (c : Cf) : CallDoes Tryz.prog 51 [.agg ⟨c.cells 0⟩] [c.V] fun v V => BoolV c.ok v ∧ VEq V [c.V] := by
  refine CallDoes.reshape selA [] [] ?_
  refine of_run (ctxG_ok (l := []) (bs := []) .nil (.cons is_ok.viewed .nil)) (n := 300) Tryz.func51 rfl (BlksOK.none fun _ => rfl) ?_
  refine by_nf (B := (0 : Nat) + c.n ≤ c.n ∧
    Is (c.n = c.n ∧
    IntsF c.n (shiftF (0 : Nat) fun r => [Value.int IntKind.i64 (c.s r)])) ∧
    BoolV c.ok (Value.bool (vkV c.F c.P c.B c.L c.R c.n (shiftF (0 : Nat) fun r => [Value.int IntKind.i64 (c.s r)])).ok) ∧
    VEq [VObj.arg (3 : TypeId) (1 : Nat) c.n fun r => [Value.int IntKind.i64 (c.s r)]] [VObj.arg (3 : TypeId) (1 : Nat) c.n fun r => [Value.int IntKind.i64 (c.s r)]]) (by kernel_rfl) ?_
  exact ⟨by omega, ⟨rfl, ints_of c⟩, ⟨by rw [vk_of]⟩, ⟨rfl⟩⟩
theorem fits_ok : CallOK Tryz.prog 51 okT := ok_of_does (callable Tryz.func51 rfl (by decide +kernel)) fits_does
/-- a configuration that is refused -/
def noT : CallS := fun args V K => match args, V with
  | [.agg ⟨[.slice (some ⟨0, 3, some 0⟩) n 0, .int .i64 F, .int .i64 P, .int .i64 B, .int .i64 L, .int .i64 R]⟩], [.arg 3 1 N f] => Is (n = N ∧ IntsF n f ∧ (vkV F P B L R n f).ok = false) ∧ K (.bool false) [.arg 3 1 N f]
  | _, _ => False
theorem conf_no (c : Cf) (h : c.ok = false) : CallDoes Tryz.prog 68 [.agg ⟨c.cells 0⟩] [c.V] fun v V => BoolV false v ∧ VEq V [c.V] := by
  refine CallDoes.reshape selA [] [] ?_
  refine of_run (ctxG_ok (l := []) (bs := []) .nil (.cons (inl_ok (f := 135) (fn := Tryz.f135) (ctxG_ok (l := []) (bs := [(0, fun _ _ => False)]) .nil (.cons right_ok.viewed .nil)) 300 (callable Tryz.func135 rfl (by decide +kernel)) Tryz.func135 rfl (.one rfl rfl fun _ _ h => h.elim)) .nil)) (n := 300) Tryz.func68 rfl (BlksOK.none fun _ => rfl) ?_
  refine by_nf (B := (0 : Nat) + c.n ≤ c.n ∧
    Is (c.n = c.n ∧
    IntsF c.n (shiftF (0 : Nat) fun r => [Value.int IntKind.i64 (c.s r)])) ∧
    bsplit (!(vkV c.F c.P c.B c.L c.R c.n (shiftF (0 : Nat) fun r => [Value.int IntKind.i64 (c.s r)])).ok) (BoolV false (Value.bool ((20 : Int) == (0 : Int))) ∧
    VEq [VObj.arg (3 : TypeId) (1 : Nat) c.n fun r => [Value.int IntKind.i64 (c.s r)]] [VObj.arg (3 : TypeId) (1 : Nat) c.n fun r => [Value.int IntKind.i64 (c.s r)]]) False) (by kernel_rfl) ?_
  rw [vk_of, h]
  exact ⟨by omega, ⟨rfl, ints_of c⟩, ⟨rfl⟩, ⟨rfl⟩⟩
theorem no_ok : CallOK Tryz.prog 68 noT := by
  refine ⟨callable Tryz.func68 rfl (by decide +kernel), fun args V K hT => ?_⟩
  unfold noT at hT
  split at hT
  · rename_i n F P B L R N f
    obtain ⟨⟨rfl, hi, hno⟩, hK⟩ := hT
    refine CallDoes.argV (V2 := [(vkV F P B L R n f).V]) (.cons (.arg 3 1 n f _ fun r hr => hi r hr) .nil) ?_
    refine CallDoes.mono1 (fun v V hv => ?_) (conf_no (vkV F P B L R n f) hno)
    obtain ⟨⟨rfl⟩, ⟨rfl⟩⟩ := hv
    exact ⟨_, .cons (.arg 3 1 n _ f fun r hr => (hi r hr).symm) .nil, hK⟩
  · exact hT.elim
end Go.Msg
