/- The reference's IsName. -/
import Derived.Test.YtgnhcoefocbmpaaGreatNV0
set_option linter.unusedSimpArgs false
set_option linter.unusedVariables false
set_option linter.unusedSectionVars false
set_option maxRecDepth 100000
namespace Go.Msg
open Go Go.X Go.Proofs
variable [WI]
def tmN (s : ByteArray) (j : Int) : List Value := [.string s, unk, unk, .int .i64 j] ++ List.replicate 24 unk
def JN (s : ByteArray) (k : Nat) (S : VSt) : Prop := leT (tmN s (s.size - k : Nat)) S.tmps ∧ VEq S.V [] ∧ AtA s k
def KN (s : ByteArray) (e : Exit) (S : VSt) : Prop :=
  match e with
  | .normal => QSt S ⟨List.replicate 28 unk, []⟩ ∧ Is (¬ BadS s)
  | .ret => QSt S ⟨[unk, unk, .bool false] ++ List.replicate 25 unk, []⟩ ∧ Is (BadS s)
  | _ => False
def ksN (e : Exit) : List Nat := match e with | .normal => [0, 3] | .ret => [2] | _ => []
theorem rN (s : ByteArray) (k j : Nat) (hj : j + k = s.size) (h : AtA s k) :
    Does Tryz.prog (roundOf Tryz.f155 0) ⟨tmN s j, []⟩ fun e S' => reshape 0 (noSel e S') (ksN e) [] [] S' (roundR 0 (JN s) k (KN s) e) := by
  refine of_code (ctxG_ok (l := []) (cs := []) (bs := []) .nil .nil) (n := 300) .g ?_
  refine by_nf (B := bsplit (decide ((↑j : Int) < (↑s.size : Int))) (((0 : Int) ≤ (↑j : Int) ∧
    (↑j : Int) + (1 : Int) ≤ (↑s.size : Int)) ∧
    bsplit ((↑(strAt s (↑j : Int).toNat) : Int) == (0 : Int)) (QSt { tmps := ([unk, unk, Value.bool false] ++ List.replicate 25 unk), V := [] : VSt } { tmps := ([unk, unk, Value.bool false] ++ List.replicate 25 unk), V := [] : VSt } ∧
    Is (BadS s)) (((0 : Int) ≤ (↑j : Int) ∧
    (↑j : Int) + (1 : Int) ≤ (↑s.size : Int)) ∧
    bsplit ((↑(strAt s (↑j : Int).toNat) : Int) == (47 : Int)) (QSt { tmps := ([unk, unk, Value.bool false] ++ List.replicate 25 unk), V := [] : VSt } { tmps := ([unk, unk, Value.bool false] ++ List.replicate 25 unk), V := [] : VSt } ∧
    Is (BadS s)) ((k = (0 : Nat) → False) ∧
    (Value.string s = Value.string s ∧
    Value.int IntKind.i64 (↑(s.size - (k - (1 : Nat))) : Int) = Value.int IntKind.i64 (IntKind.i64.wrap ((↑j : Int) + (1 : Int))) ∧
    True) ∧
    VEq [] [] ∧
    AtA s (k - (1 : Nat))))) (QSt { tmps := (List.replicate 28 unk), V := [] : VSt } { tmps := (List.replicate 28 unk), V := [] : VSt } ∧
    Is ¬BadS s)) (by kernel_rfl) ?_
  obtain ⟨h1, h2, h3⟩ := h
  rw [show s.size - k = j by omega] at h3
  have ej : (j : Int).toNat = j := by omega
  rw [ej]
  refine bsplit_iff.2 ⟨fun hlt => ?_, fun hge => ?_⟩
  · have hlt : j < s.size := by simpa using hlt
    refine ⟨⟨by omega, by omega⟩, bsplit_iff.2 ⟨fun g => ⟨⟨rfl⟩, ⟨j, hlt, .inl (by simpa using g)⟩⟩, fun g => ⟨⟨by omega, by omega⟩, bsplit_iff.2 ⟨fun g2 => ⟨⟨rfl⟩, ⟨j, hlt, .inr ?_⟩⟩, fun g2 => ⟨fun hk => by omega, ⟨rfl, ?_, trivial⟩, ⟨rfl⟩, ⟨by omega, h2, ?_⟩⟩⟩⟩⟩⟩
    · have g2 := eq_of_beq g2; omega
    · have e : IntKind.i64.wrap ((j : Int) + 1) = ((s.size - (k - 1) : Nat) : Int) := by
        rw [w64 _ (by omega)]; omega
      rw [e]
    · rw [show s.size - (k - 1) = j + 1 by omega]
      intro i hi
      rcases Nat.lt_or_ge i j with hij | hij
      · exact h3 i hij
      · obtain rfl : i = j := by omega
        rintro (e | e) <;> rw [e] at g g2
        · exact absurd g (by decide)
        · exact absurd g2 (by decide)
  · have hge : ¬ j < s.size := by simpa using hge
    obtain rfl : j = s.size := by omega
    exact ⟨⟨rfl⟩, ⟨fun ⟨i, h4, h5⟩ => h3 i h4 h5⟩⟩
def BN (s : ByteArray) : BlkS := fun S K => reshape S.V.length (noSel .normal S) (ksN .normal) [] [] S (JN s s.size) ∧ S.V.length = 0 ∧
  (Is (¬ BadS s) → K .normal ⟨List.replicate 28 unk, []⟩) ∧ (Is (BadS s) → K .ret ⟨[unk, unk, .bool false] ++ List.replicate 25 unk, []⟩)
theorem lN (s : ByteArray) (S : VSt) (K : Exit → VSt → Prop) (hB : BN s S K) : Does Tryz.prog (.block 0 (.loop (roundOf Tryz.f155 0))) S K := by
  obtain ⟨h1, h2, h3, h4⟩ := hB
  refine Does.mono (Does.loopR (K := KN s) ksN noSel [] [] (JN s) S (reshape_mono (fun S hS => ⟨_, hS⟩) h1) fun k S' hJ => ?_) fun e S' hK => ?_
  · obtain ⟨ht, ⟨hV⟩, hA⟩ := hJ
    rw [h2]
    have := hA.le
    exact Does.weaken (rN s k (s.size - k) (by omega) hA) ht hV.symm (.of rfl fun i o hi => by simp at hi)
  · cases e with
    | normal => obtain ⟨⟨rfl⟩, hs⟩ := hK; exact h3 hs
    | ret => obtain ⟨⟨rfl⟩, hs⟩ := hK; exact h4 hs
    | _ => exact False.elim hK
theorem isName_does (s : ByteArray) : CallDoes Tryz.prog 155 [.string s] [] fun v V => BoolV (pName s) v ∧ VEq V [] := by
  refine of_run (ctxG_ok (l := []) (cs := []) (bs := [(0, BN s)]) .nil .nil) (n := 300) Tryz.func155 rfl (.one rfl rfl (lN s)) ?_
  refine by_nf (B := bsplit (decide ((↑s.size : Int) < (1 : Int))) (BoolV (pName s) (Value.bool false) ∧
    VEq [] [])
    (bsplit (decide ((↑s.size : Int) > (255 : Int))) (BoolV (pName s) (Value.bool false) ∧
    VEq [] []) (((Value.string s = Value.string s ∧
    Value.int IntKind.i64 (↑(s.size - s.size) : Int) = Value.int IntKind.i64 (0 : Int) ∧
    True) ∧
    VEq [] [] ∧
    AtA s s.size) ∧
    (0 : Nat) = (0 : Nat) ∧
    (Is ¬BadS s → BoolV (pName s) (Value.bool true) ∧
    VEq [] []) ∧
    (Is (BadS s) → BoolV (pName s) (Value.bool false) ∧
    VEq [] [])))) (by kernel_rfl) ?_
  have no : ¬ NameP s → BoolV (pName s) (Value.bool false) ∧ VEq [] [] := fun h => ⟨⟨by rw [pName_no h]⟩, ⟨rfl⟩⟩
  refine bsplit_iff.2 ⟨fun g1 => no fun h => ?_, fun g1 => bsplit_iff.2 ⟨fun g2 => no fun h => ?_, fun g2 => ⟨⟨⟨rfl, by simp, trivial⟩, ⟨rfl⟩, ⟨Nat.le_refl _, ?_, fun i hi => by omega⟩⟩, rfl, fun ⟨h⟩ => ⟨⟨?_⟩, ⟨rfl⟩⟩, fun ⟨h⟩ => no fun hn => hn.ok h⟩⟩⟩
  · have := of_decide_eq_true g1; have := h.h1; omega
  · have := of_decide_eq_true g2; have := h.h2; omega
  · have := of_decide_eq_false g2; omega
  · rw [← pName_of (s := s) (b := true)]
    have := of_decide_eq_false g1; have := of_decide_eq_false g2
    exact ⟨fun _ => ⟨by omega, by omega, h⟩, fun _ => rfl⟩
end Go.Msg
