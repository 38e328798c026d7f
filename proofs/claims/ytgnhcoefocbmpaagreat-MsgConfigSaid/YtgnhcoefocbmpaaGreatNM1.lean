/- Is a text a name? The program's name answers as the document says. -/
import Derived.Test.YtgnhcoefocbmpaaGreatNM0
import Derived.Tactics2
import Derived.StillTactics
import Derived.Laws.Pointers
set_option linter.unusedSimpArgs false
set_option linter.unusedVariables false
set_option linter.unusedSectionVars false
set_option maxRecDepth 100000
namespace Go.Msg
open Go Go.X Go.Proofs
variable [WI]
def setL : List Value := [.bool true, .bool false, .bool false, .bool false, .bool false, .bool false, .bool false, .bool false, .bool false, .bool false, .bool false, .bool false, .bool false, .bool false, .bool false, .bool false, .bool false, .bool false, .bool false, .bool false, .bool false, .bool false, .bool false, .bool false, .bool false, .bool false, .bool false, .bool false, .bool false, .bool false, .bool false, .bool false, .bool false, .bool false, .bool false, .bool false, .bool false, .bool false, .bool false, .bool false, .bool false, .bool false, .bool false, .bool false, .bool false, .bool false, .bool false, .bool true, .bool false, .bool false, .bool false, .bool false, .bool false, .bool false, .bool false, .bool false, .bool false, .bool false, .bool false, .bool false, .bool false, .bool false, .bool false, .bool false, .bool false, .bool false, .bool false, .bool false, .bool false, .bool false, .bool false, .bool false, .bool false, .bool false, .bool false, .bool false, .bool false, .bool false, .bool false, .bool false, .bool false, .bool false, .bool false, .bool false, .bool false, .bool false, .bool false, .bool false, .bool false, .bool false, .bool false, .bool false, .bool false, .bool false, .bool false, .bool false, .bool false, .bool false, .bool false, .bool false, .bool false, .bool false, .bool false, .bool false, .bool false, .bool false, .bool false, .bool false, .bool false, .bool false, .bool false, .bool false, .bool false, .bool false, .bool false, .bool false, .bool false, .bool false, .bool false, .bool false, .bool false, .bool false, .bool false, .bool false, .bool false, .bool false, .bool false, .bool false, .bool false, .bool false, .bool false, .bool false, .bool false, .bool false, .bool false, .bool false, .bool false, .bool false, .bool false, .bool false, .bool false, .bool false, .bool false, .bool false, .bool false, .bool false, .bool false, .bool false, .bool false, .bool false, .bool false, .bool false, .bool false, .bool false, .bool false, .bool false, .bool false, .bool false, .bool false, .bool false, .bool false, .bool false, .bool false, .bool false, .bool false, .bool false, .bool false, .bool false, .bool false, .bool false, .bool false, .bool false, .bool false, .bool false, .bool false, .bool false, .bool false, .bool false, .bool false, .bool false, .bool false, .bool false, .bool false, .bool false, .bool false, .bool false, .bool false, .bool false, .bool false, .bool false, .bool false, .bool false, .bool false, .bool false, .bool false, .bool false, .bool false, .bool false, .bool false, .bool false, .bool false, .bool false, .bool false, .bool false, .bool false, .bool false, .bool false, .bool false, .bool false, .bool false, .bool false, .bool false, .bool false, .bool false, .bool false, .bool false, .bool false, .bool false, .bool false, .bool false, .bool false, .bool false, .bool false, .bool false, .bool false, .bool false, .bool false, .bool false, .bool false, .bool false, .bool false, .bool false, .bool false, .bool false, .bool false, .bool false, .bool false, .bool false, .bool false, .bool false, .bool false, .bool false, .bool false, .bool false, .bool false, .bool false, .bool false, .bool false, .bool false, .bool false, .bool false, .bool false, .bool false, .bool false, .bool false, .bool false]
theorem setL_eq : setL = (List.range 256).map fun j => .bool (Nat.beq j 0 || Nat.beq j 47) := by kernel_rfl
theorem setL_at (b : Nat) (h : b < 256) : setL[b]? = some (.bool (Nat.beq b 0 || Nat.beq b 47)) := by rw [setL_eq]; simp [h]
theorem contains_calls (blk b : Nat) (w : World) (v : Bool) (hb : b < 256) (hc : w.cell? ⟨blk, b, none⟩ = some (.bool v)) : Calls Tryz.prog 236 #[.pointer (some ⟨blk, 0, none⟩), .int .u8 b] w fun e w' => e = .returned (.bool v) ∧ w' = w := by
  have hx256 : (b : Int) < 256 := by omega
  go_enter Tryz.func236, Tryz.ntmps236
  go_wp2
  go_ret
  exact ⟨rfl, rfl⟩
def T236 : CallS := fun args V K => match args with
  | [.pointer (some ⟨p, 0, none⟩), .int .u8 b] => match V[p]? with
    | some (.cells 251 c) => Is (c = setL ∧ 0 ≤ b ∧ b < 256) ∧ K (.bool (Nat.beq b.toNat 0 || Nat.beq b.toNat 47)) V
    | _ => False
  | _ => False
theorem T236_ok : CallOK Tryz.prog 236 T236 := by
  refine ⟨callable Tryz.func236 rfl (by decide +kernel), fun args V K h => ?_⟩
  unfold T236 at h
  split at h
  · rename_i p b
    split at h
    · rename_i c hp
      obtain ⟨⟨rfl, h0, h1⟩, hK⟩ := h
      intro env w hW hsc
      obtain ⟨hh, hbase⟩ := hW.mat _ _ hp
      have hb : b.toNat < 256 := by omega
      have hcell : w.cell? ⟨(env p).blk, b.toNat, none⟩ = some (.bool (Nat.beq b.toNat 0 || Nat.beq b.toNat 47)) := by
        have := setL_at b.toNat hb
        simp [World.cell?, hh, this, ren]
      have := contains_calls (env p).blk b.toNat w _ hb hcell
      have e : ([.pointer (some ⟨p, 0, none⟩), .int .u8 b].map (ren env)).toArray = #[.pointer (some ⟨(env p).blk, 0, none⟩), .int .u8 b.toNat] := by
        have : ((b.toNat : Nat) : Int) = b := by omega
        simp [ren, renA, hbase, this]
      rw [e]
      refine this.mono ?_
      rintro e w' ⟨rfl, rfl⟩
      exact ⟨_, env, V, _, rfl, .inr (by simp only [ren]), hW, Fr.refl _ _ _, hK⟩
    · exact h.elim
  · exact h.elim
/-- does a text hold one of the two bytes? -/
def BadS (s : ByteArray) : Prop := ∃ i, i < s.size ∧ (strAt s i = 0 ∨ strAt s i = 47)
/-! ### the long texts -/
def tmA (s : ByteArray) (j : Int) : List Value := [.string s, unk, unk, unk, unk, unk, .pointer (some ⟨1, 0, none⟩), unk, .int .i64 j] ++ List.replicate 46 unk
def VA : VW := [.dead, .cells 251 setL]
structure AtA (s : ByteArray) (k : Nat) : Prop where
  le : k ≤ s.size
  n : s.size ≤ 255
  ok : ∀ i, i < s.size - k → ¬ (strAt s i = 0 ∨ strAt s i = 47)
def JA (s : ByteArray) (k : Nat) (S : VSt) : Prop := leT (tmA s (s.size - k : Nat)) S.tmps ∧ VEq S.V VA ∧ AtA s k
structure NegV (s : ByteArray) (x : Int) : Prop where
  p : 0 ≤ x ↔ BadS s
def KA (n : Nat) (s : ByteArray) (e : Exit) (S : VSt) : Prop :=
  match e with
  | .normal => QSt S ⟨List.replicate 55 unk, List.replicate n .dead⟩ ∧ Is (¬ BadS s)
  | .ret => match nth undef S.tmps 4 with | .int .i64 x => QSt S ⟨[unk, unk, unk, unk, .int .i64 x] ++ List.replicate 50 unk, List.replicate n .dead⟩ ∧ NegV s x | _ => False
  | _ => False
def ksA (e : Exit) : List Nat := match e with | .normal => [0, 6, 8] | .ret => [4] | _ => []
def selNA (e : Exit) (_ : VSt) : List Sel := match e with | .normal => [.drop 0, .keep 1] | _ => [.drop 0, .drop 1]
theorem strAt_lt (s : ByteArray) (i : Nat) : strAt s i < 256 := UInt8.toNat_lt _
theorem rA (s : ByteArray) (k j : Nat) (hj : j + k = s.size) (h : AtA s k) :
    Does Tryz.prog (roundOf Tryz.f223 0) ⟨tmA s j, VA⟩ fun e S' => reshape 2 (selNA e S') (ksA e) [] [] S' (roundR 0 (JA s) k (KA 2 s) e) := by
  refine of_code (ext_ok (l := []) (bs := []) .nil (.cons T236_ok .nil)) (n := 300) (BlksOK.none fun _ => rfl) ?_
  refine by_nf (B := bsplit (decide ((↑j : Int) < (↑s.size : Int))) (((0 : Int) ≤ (↑j : Int) ∧
    (↑j : Int) + (1 : Int) ≤ (↑s.size : Int)) ∧
    Is (((Value.bool true :: Value.bool false :: Value.bool false :: Value.bool false :: Value.bool false :: Value.bool false :: Value.bool false :: Value.bool false :: have y := Value.bool false :: Value.bool false :: Value.bool false :: Value.bool false :: have y := have y := Value.bool false :: Value.bool false :: Value.bool false :: Value.bool false :: have y := have y := have y := Value.bool false :: Value.bool false :: Value.bool false :: Value.bool false :: have y := have y := have y := have y := Value.bool false :: Value.bool false :: Value.bool false :: Value.bool false :: have y := have y := have y := have y := have y := [Value.bool false, Value.bool false, Value.bool false, Value.bool false]; Value.bool false :: Value.bool false :: Value.bool false :: Value.bool false :: y; have y := Value.bool false :: Value.bool false :: Value.bool false :: Value.bool false :: y; Value.bool false :: Value.bool false :: Value.bool false :: Value.bool false :: y; have y := have y := Value.bool false :: Value.bool false :: Value.bool false :: Value.bool false :: y; Value.bool false :: Value.bool false :: Value.bool false :: Value.bool false :: y; have y := Value.bool false :: Value.bool false :: Value.bool false :: Value.bool false :: y; Value.bool false :: Value.bool false :: Value.bool false :: Value.bool false :: y; have y := have y := have y := Value.bool false :: Value.bool false :: Value.bool false :: Value.bool false :: y; Value.bool false :: Value.bool false :: Value.bool false :: Value.bool false :: y; have y := Value.bool false :: Value.bool false :: Value.bool false :: Value.bool false :: y; Value.bool false :: Value.bool false :: Value.bool false :: Value.bool false :: y; have y := have y := Value.bool false :: Value.bool false :: Value.bool false :: Value.bool false :: y; Value.bool false :: Value.bool false :: Value.bool false :: Value.bool false :: y; have y := Value.bool false :: Value.bool false :: Value.bool false :: Value.bool false :: y; Value.bool false :: Value.bool false :: Value.bool false :: Value.bool false :: y; have y := have y := have y := have y := Value.bool false :: Value.bool false :: Value.bool false :: Value.bool false :: y; Value.bool false :: Value.bool false :: Value.bool false :: Value.bool false :: y; have y := Value.bool false :: Value.bool false :: Value.bool false :: Value.bool false :: y; Value.bool false :: Value.bool false :: Value.bool false :: Value.bool false :: y; have y := have y := Value.bool false :: Value.bool false :: Value.bool false :: Value.bool false :: y; Value.bool false :: Value.bool false :: Value.bool false :: Value.bool false :: y; have y := Value.bool false :: Value.bool false :: Value.bool false :: Value.bool false :: y; Value.bool false :: Value.bool false :: Value.bool false :: Value.bool false :: y; have y := have y := have y := Value.bool false :: Value.bool false :: Value.bool false :: Value.bool false :: y; Value.bool false :: Value.bool false :: Value.bool false :: Value.bool false :: y; have y := Value.bool false :: Value.bool false :: Value.bool false :: Value.bool false :: y; Value.bool false :: Value.bool false :: Value.bool false :: Value.bool false :: y; have y := have y := Value.bool false :: Value.bool false :: Value.bool false :: Value.bool false :: y; Value.bool false :: Value.bool false :: Value.bool false :: Value.bool false :: y; have y := Value.bool false :: Value.bool false :: Value.bool false :: Value.bool false :: y; Value.bool false :: Value.bool false :: Value.bool false :: Value.bool false :: y; Value.bool false :: Value.bool false :: Value.bool false :: Value.bool false :: y; have y := Value.bool false :: Value.bool false :: Value.bool false :: Value.bool false :: y; Value.bool false :: Value.bool false :: Value.bool false :: Value.bool false :: y; have y := have y := Value.bool false :: Value.bool false :: Value.bool false :: Value.bool false :: y; Value.bool false :: Value.bool false :: Value.bool false :: Value.bool false :: y; have y := Value.bool false :: Value.bool false :: Value.bool false :: Value.bool false :: y; Value.bool false :: Value.bool false :: Value.bool false :: Value.bool false :: y; have y := have y := have y := Value.bool false :: Value.bool false :: Value.bool false :: Value.bool false :: y; Value.bool false :: Value.bool false :: Value.bool false :: Value.bool false :: y; have y := Value.bool false :: Value.bool false :: Value.bool false :: Value.bool false :: y; Value.bool false :: Value.bool false :: Value.bool false :: Value.bool false :: y; have y := have y := Value.bool false :: Value.bool false :: Value.bool false :: Value.bool false :: y; Value.bool false :: Value.bool false :: Value.bool false :: Value.bool false :: y; have y := Value.bool false :: Value.bool false :: Value.bool false :: Value.bool false :: y; Value.bool false :: Value.bool false :: Value.bool false :: Value.bool false :: y; Value.bool false :: Value.bool false :: Value.bool false :: Value.bool false :: y; have y := Value.bool false :: Value.bool false :: Value.bool false :: Value.bool false :: y; Value.bool false :: Value.bool false :: Value.bool false :: Value.bool false :: y; have y := have y := Value.bool false :: Value.bool false :: Value.bool false :: Value.bool true :: y; Value.bool false :: Value.bool false :: Value.bool false :: Value.bool false :: y; have y := Value.bool false :: Value.bool false :: Value.bool false :: Value.bool false :: y; Value.bool false :: Value.bool false :: Value.bool false :: Value.bool false :: y; Value.bool false :: Value.bool false :: Value.bool false :: Value.bool false :: y; have y := Value.bool false :: Value.bool false :: Value.bool false :: Value.bool false :: y; Value.bool false :: Value.bool false :: Value.bool false :: Value.bool false :: y; Value.bool false :: Value.bool false :: Value.bool false :: Value.bool false :: y) = Value.bool true :: Value.bool false :: Value.bool false :: Value.bool false :: Value.bool false :: Value.bool false :: Value.bool false :: Value.bool false :: have y := Value.bool false :: Value.bool false :: Value.bool false :: Value.bool false :: have y := have y := Value.bool false :: Value.bool false :: Value.bool false :: Value.bool false :: have y := have y := have y := Value.bool false :: Value.bool false :: Value.bool false :: Value.bool false :: have y := have y := have y := have y := Value.bool false :: Value.bool false :: Value.bool false :: Value.bool false :: have y := have y := have y := have y := have y := [Value.bool false, Value.bool false, Value.bool false, Value.bool false]; Value.bool false :: Value.bool false :: Value.bool false :: Value.bool false :: y; have y := Value.bool false :: Value.bool false :: Value.bool false :: Value.bool false :: y; Value.bool false :: Value.bool false :: Value.bool false :: Value.bool false :: y; have y := have y := Value.bool false :: Value.bool false :: Value.bool false :: Value.bool false :: y; Value.bool false :: Value.bool false :: Value.bool false :: Value.bool false :: y; have y := Value.bool false :: Value.bool false :: Value.bool false :: Value.bool false :: y; Value.bool false :: Value.bool false :: Value.bool false :: Value.bool false :: y; have y := have y := have y := Value.bool false :: Value.bool false :: Value.bool false :: Value.bool false :: y; Value.bool false :: Value.bool false :: Value.bool false :: Value.bool false :: y; have y := Value.bool false :: Value.bool false :: Value.bool false :: Value.bool false :: y; Value.bool false :: Value.bool false :: Value.bool false :: Value.bool false :: y; have y := have y := Value.bool false :: Value.bool false :: Value.bool false :: Value.bool false :: y; Value.bool false :: Value.bool false :: Value.bool false :: Value.bool false :: y; have y := Value.bool false :: Value.bool false :: Value.bool false :: Value.bool false :: y; Value.bool false :: Value.bool false :: Value.bool false :: Value.bool false :: y; have y := have y := have y := have y := Value.bool false :: Value.bool false :: Value.bool false :: Value.bool false :: y; Value.bool false :: Value.bool false :: Value.bool false :: Value.bool false :: y; have y := Value.bool false :: Value.bool false :: Value.bool false :: Value.bool false :: y; Value.bool false :: Value.bool false :: Value.bool false :: Value.bool false :: y; have y := have y := Value.bool false :: Value.bool false :: Value.bool false :: Value.bool false :: y; Value.bool false :: Value.bool false :: Value.bool false :: Value.bool false :: y; have y := Value.bool false :: Value.bool false :: Value.bool false :: Value.bool false :: y; Value.bool false :: Value.bool false :: Value.bool false :: Value.bool false :: y; have y := have y := have y := Value.bool false :: Value.bool false :: Value.bool false :: Value.bool false :: y; Value.bool false :: Value.bool false :: Value.bool false :: Value.bool false :: y; have y := Value.bool false :: Value.bool false :: Value.bool false :: Value.bool false :: y; Value.bool false :: Value.bool false :: Value.bool false :: Value.bool false :: y; have y := have y := Value.bool false :: Value.bool false :: Value.bool false :: Value.bool false :: y; Value.bool false :: Value.bool false :: Value.bool false :: Value.bool false :: y; have y := Value.bool false :: Value.bool false :: Value.bool false :: Value.bool false :: y; Value.bool false :: Value.bool false :: Value.bool false :: Value.bool false :: y; Value.bool false :: Value.bool false :: Value.bool false :: Value.bool false :: y; have y := Value.bool false :: Value.bool false :: Value.bool false :: Value.bool false :: y; Value.bool false :: Value.bool false :: Value.bool false :: Value.bool false :: y; have y := have y := Value.bool false :: Value.bool false :: Value.bool false :: Value.bool false :: y; Value.bool false :: Value.bool false :: Value.bool false :: Value.bool false :: y; have y := Value.bool false :: Value.bool false :: Value.bool false :: Value.bool false :: y; Value.bool false :: Value.bool false :: Value.bool false :: Value.bool false :: y; have y := have y := have y := Value.bool false :: Value.bool false :: Value.bool false :: Value.bool false :: y; Value.bool false :: Value.bool false :: Value.bool false :: Value.bool false :: y; have y := Value.bool false :: Value.bool false :: Value.bool false :: Value.bool false :: y; Value.bool false :: Value.bool false :: Value.bool false :: Value.bool false :: y; have y := have y := Value.bool false :: Value.bool false :: Value.bool false :: Value.bool false :: y; Value.bool false :: Value.bool false :: Value.bool false :: Value.bool false :: y; have y := Value.bool false :: Value.bool false :: Value.bool false :: Value.bool false :: y; Value.bool false :: Value.bool false :: Value.bool false :: Value.bool false :: y; Value.bool false :: Value.bool false :: Value.bool false :: Value.bool false :: y; have y := Value.bool false :: Value.bool false :: Value.bool false :: Value.bool false :: y; Value.bool false :: Value.bool false :: Value.bool false :: Value.bool false :: y; have y := have y := Value.bool false :: Value.bool false :: Value.bool false :: Value.bool true :: y; Value.bool false :: Value.bool false :: Value.bool false :: Value.bool false :: y; have y := Value.bool false :: Value.bool false :: Value.bool false :: Value.bool false :: y; Value.bool false :: Value.bool false :: Value.bool false :: Value.bool false :: y; Value.bool false :: Value.bool false :: Value.bool false :: Value.bool false :: y; have y := Value.bool false :: Value.bool false :: Value.bool false :: Value.bool false :: y; Value.bool false :: Value.bool false :: Value.bool false :: Value.bool false :: y; Value.bool false :: Value.bool false :: Value.bool false :: Value.bool false :: y) ∧
    (0 : Int) ≤ (↑(strAt s (↑j : Int).toNat) : Int) ∧
    (↑(strAt s (↑j : Int).toNat) : Int) < (256 : Int)) ∧
    bsplit ((↑(strAt s (↑j : Int).toNat) : Int).toNat.beq (0 : Nat) || (↑(strAt s (↑j : Int).toNat) : Int).toNat.beq (47 : Nat)) (QSt { tmps := ([unk, unk, unk, unk, Value.int IntKind.i64 (↑j : Int)] ++ List.replicate 50 unk), V := [VObj.dead, VObj.dead] : VSt } { tmps := ([unk, unk, unk, unk, Value.int IntKind.i64 (↑j : Int)] ++ List.replicate 50 unk), V := [VObj.dead, VObj.dead] : VSt } ∧
    NegV s (↑j : Int)) ((k = (0 : Nat) → False) ∧
    (Value.string s = Value.string s ∧
    Value.pointer (some ⟨1, 0, none⟩) = Value.pointer (some ⟨1, 0, none⟩) ∧
    Value.int IntKind.i64 (↑(s.size - (k - (1 : Nat))) : Int) = Value.int IntKind.i64 (IntKind.i64.wrap ((↑j : Int) + (1 : Int))) ∧
    True) ∧
    VEq [VObj.dead, VObj.cells (251 : TypeId) [Value.bool true, Value.bool false, Value.bool false, Value.bool false, Value.bool false, Value.bool false, Value.bool false, Value.bool false, Value.bool false, Value.bool false, Value.bool false, Value.bool false, Value.bool false, Value.bool false, Value.bool false, Value.bool false, Value.bool false, Value.bool false, Value.bool false, Value.bool false, Value.bool false, Value.bool false, Value.bool false, Value.bool false, Value.bool false, Value.bool false, Value.bool false, Value.bool false, Value.bool false, Value.bool false, Value.bool false, Value.bool false, Value.bool false, Value.bool false, Value.bool false, Value.bool false, Value.bool false, Value.bool false, Value.bool false, Value.bool false, Value.bool false, Value.bool false, Value.bool false, Value.bool false, Value.bool false, Value.bool false, Value.bool false, Value.bool true, Value.bool false, Value.bool false, Value.bool false, Value.bool false, Value.bool false, Value.bool false, Value.bool false, Value.bool false, Value.bool false, Value.bool false, Value.bool false, Value.bool false, Value.bool false, Value.bool false, Value.bool false, Value.bool false, Value.bool false, Value.bool false, Value.bool false, Value.bool false, Value.bool false, Value.bool false, Value.bool false, Value.bool false, Value.bool false, Value.bool false, Value.bool false, Value.bool false, Value.bool false, Value.bool false, Value.bool false, Value.bool false, Value.bool false, Value.bool false, Value.bool false, Value.bool false, Value.bool false, Value.bool false, Value.bool false, Value.bool false, Value.bool false, Value.bool false, Value.bool false, Value.bool false, Value.bool false, Value.bool false, Value.bool false, Value.bool false, Value.bool false, Value.bool false, Value.bool false, Value.bool false, Value.bool false, Value.bool false, Value.bool false, Value.bool false, Value.bool false, Value.bool false, Value.bool false, Value.bool false, Value.bool false, Value.bool false, Value.bool false, Value.bool false, Value.bool false, Value.bool false, Value.bool false, Value.bool false, Value.bool false, Value.bool false, Value.bool false, Value.bool false, Value.bool false, Value.bool false, Value.bool false, Value.bool false, Value.bool false, Value.bool false, Value.bool false, Value.bool false, Value.bool false, Value.bool false, Value.bool false, Value.bool false, Value.bool false, Value.bool false, Value.bool false, Value.bool false, Value.bool false, Value.bool false, Value.bool false, Value.bool false, Value.bool false, Value.bool false, Value.bool false, Value.bool false, Value.bool false, Value.bool false, Value.bool false, Value.bool false, Value.bool false, Value.bool false, Value.bool false, Value.bool false, Value.bool false, Value.bool false, Value.bool false, Value.bool false, Value.bool false, Value.bool false, Value.bool false, Value.bool false, Value.bool false, Value.bool false, Value.bool false, Value.bool false, Value.bool false, Value.bool false, Value.bool false, Value.bool false, Value.bool false, Value.bool false, Value.bool false, Value.bool false, Value.bool false, Value.bool false, Value.bool false, Value.bool false, Value.bool false, Value.bool false, Value.bool false, Value.bool false, Value.bool false, Value.bool false, Value.bool false, Value.bool false, Value.bool false, Value.bool false, Value.bool false, Value.bool false, Value.bool false, Value.bool false, Value.bool false, Value.bool false, Value.bool false, Value.bool false, Value.bool false, Value.bool false, Value.bool false, Value.bool false, Value.bool false, Value.bool false, Value.bool false, Value.bool false, Value.bool false, Value.bool false, Value.bool false, Value.bool false, Value.bool false, Value.bool false, Value.bool false, Value.bool false, Value.bool false, Value.bool false, Value.bool false, Value.bool false, Value.bool false, Value.bool false, Value.bool false, Value.bool false, Value.bool false, Value.bool false, Value.bool false, Value.bool false, Value.bool false, Value.bool false, Value.bool false, Value.bool false, Value.bool false, Value.bool false, Value.bool false, Value.bool false, Value.bool false, Value.bool false, Value.bool false, Value.bool false, Value.bool false, Value.bool false, Value.bool false, Value.bool false, Value.bool false, Value.bool false, Value.bool false, Value.bool false, Value.bool false, Value.bool false, Value.bool false, Value.bool false, Value.bool false, Value.bool false, Value.bool false, Value.bool false, Value.bool false, Value.bool false, Value.bool false, Value.bool false, Value.bool false, Value.bool false]] [VObj.dead, VObj.cells (251 : TypeId) (Value.bool true :: Value.bool false :: Value.bool false :: Value.bool false :: Value.bool false :: Value.bool false :: Value.bool false :: Value.bool false :: have y := Value.bool false :: Value.bool false :: Value.bool false :: Value.bool false :: have y := have y := Value.bool false :: Value.bool false :: Value.bool false :: Value.bool false :: have y := have y := have y := Value.bool false :: Value.bool false :: Value.bool false :: Value.bool false :: have y := have y := have y := have y := Value.bool false :: Value.bool false :: Value.bool false :: Value.bool false :: have y := have y := have y := have y := have y := [Value.bool false, Value.bool false, Value.bool false, Value.bool false]; Value.bool false :: Value.bool false :: Value.bool false :: Value.bool false :: y; have y := Value.bool false :: Value.bool false :: Value.bool false :: Value.bool false :: y; Value.bool false :: Value.bool false :: Value.bool false :: Value.bool false :: y; have y := have y := Value.bool false :: Value.bool false :: Value.bool false :: Value.bool false :: y; Value.bool false :: Value.bool false :: Value.bool false :: Value.bool false :: y; have y := Value.bool false :: Value.bool false :: Value.bool false :: Value.bool false :: y; Value.bool false :: Value.bool false :: Value.bool false :: Value.bool false :: y; have y := have y := have y := Value.bool false :: Value.bool false :: Value.bool false :: Value.bool false :: y; Value.bool false :: Value.bool false :: Value.bool false :: Value.bool false :: y; have y := Value.bool false :: Value.bool false :: Value.bool false :: Value.bool false :: y; Value.bool false :: Value.bool false :: Value.bool false :: Value.bool false :: y; have y := have y := Value.bool false :: Value.bool false :: Value.bool false :: Value.bool false :: y; Value.bool false :: Value.bool false :: Value.bool false :: Value.bool false :: y; have y := Value.bool false :: Value.bool false :: Value.bool false :: Value.bool false :: y; Value.bool false :: Value.bool false :: Value.bool false :: Value.bool false :: y; have y := have y := have y := have y := Value.bool false :: Value.bool false :: Value.bool false :: Value.bool false :: y; Value.bool false :: Value.bool false :: Value.bool false :: Value.bool false :: y; have y := Value.bool false :: Value.bool false :: Value.bool false :: Value.bool false :: y; Value.bool false :: Value.bool false :: Value.bool false :: Value.bool false :: y; have y := have y := Value.bool false :: Value.bool false :: Value.bool false :: Value.bool false :: y; Value.bool false :: Value.bool false :: Value.bool false :: Value.bool false :: y; have y := Value.bool false :: Value.bool false :: Value.bool false :: Value.bool false :: y; Value.bool false :: Value.bool false :: Value.bool false :: Value.bool false :: y; have y := have y := have y := Value.bool false :: Value.bool false :: Value.bool false :: Value.bool false :: y; Value.bool false :: Value.bool false :: Value.bool false :: Value.bool false :: y; have y := Value.bool false :: Value.bool false :: Value.bool false :: Value.bool false :: y; Value.bool false :: Value.bool false :: Value.bool false :: Value.bool false :: y; have y := have y := Value.bool false :: Value.bool false :: Value.bool false :: Value.bool false :: y; Value.bool false :: Value.bool false :: Value.bool false :: Value.bool false :: y; have y := Value.bool false :: Value.bool false :: Value.bool false :: Value.bool false :: y; Value.bool false :: Value.bool false :: Value.bool false :: Value.bool false :: y; Value.bool false :: Value.bool false :: Value.bool false :: Value.bool false :: y; have y := Value.bool false :: Value.bool false :: Value.bool false :: Value.bool false :: y; Value.bool false :: Value.bool false :: Value.bool false :: Value.bool false :: y; have y := have y := Value.bool false :: Value.bool false :: Value.bool false :: Value.bool false :: y; Value.bool false :: Value.bool false :: Value.bool false :: Value.bool false :: y; have y := Value.bool false :: Value.bool false :: Value.bool false :: Value.bool false :: y; Value.bool false :: Value.bool false :: Value.bool false :: Value.bool false :: y; have y := have y := have y := Value.bool false :: Value.bool false :: Value.bool false :: Value.bool false :: y; Value.bool false :: Value.bool false :: Value.bool false :: Value.bool false :: y; have y := Value.bool false :: Value.bool false :: Value.bool false :: Value.bool false :: y; Value.bool false :: Value.bool false :: Value.bool false :: Value.bool false :: y; have y := have y := Value.bool false :: Value.bool false :: Value.bool false :: Value.bool false :: y; Value.bool false :: Value.bool false :: Value.bool false :: Value.bool false :: y; have y := Value.bool false :: Value.bool false :: Value.bool false :: Value.bool false :: y; Value.bool false :: Value.bool false :: Value.bool false :: Value.bool false :: y; Value.bool false :: Value.bool false :: Value.bool false :: Value.bool false :: y; have y := Value.bool false :: Value.bool false :: Value.bool false :: Value.bool false :: y; Value.bool false :: Value.bool false :: Value.bool false :: Value.bool false :: y; have y := have y := Value.bool false :: Value.bool false :: Value.bool false :: Value.bool true :: y; Value.bool false :: Value.bool false :: Value.bool false :: Value.bool false :: y; have y := Value.bool false :: Value.bool false :: Value.bool false :: Value.bool false :: y; Value.bool false :: Value.bool false :: Value.bool false :: Value.bool false :: y; Value.bool false :: Value.bool false :: Value.bool false :: Value.bool false :: y; have y := Value.bool false :: Value.bool false :: Value.bool false :: Value.bool false :: y; Value.bool false :: Value.bool false :: Value.bool false :: Value.bool false :: y; Value.bool false :: Value.bool false :: Value.bool false :: Value.bool false :: y)] ∧
    AtA s (k - (1 : Nat)))) (QSt { tmps := (List.replicate 55 unk), V := [VObj.dead, VObj.dead] : VSt } { tmps := (List.replicate 55 unk), V := [VObj.dead, VObj.dead] : VSt } ∧
    Is ¬BadS s)) (by kernel_rfl) ?_
  obtain ⟨h1, h2, h3⟩ := h
  rw [show s.size - k = j by omega] at h3
  have hl := strAt_lt s j
  have ej : (j : Int).toNat = j := by omega
  rw [ej]
  have e2 : ((strAt s j : Nat) : Int).toNat = strAt s j := by omega
  refine bsplit_iff.2 ⟨fun hlt => ?_, fun hge => ?_⟩
  · have hlt : j < s.size := by simpa using hlt
    refine ⟨⟨by omega, by omega⟩, ⟨rfl, by omega, by omega⟩, bsplit_iff.2 ⟨fun g => ⟨⟨rfl⟩, ⟨⟨fun _ => ⟨j, hlt, ?_⟩, fun _ => by omega⟩⟩⟩, fun g => ⟨fun hk => by omega, ⟨rfl, rfl, ?_, trivial⟩, ⟨rfl⟩, ⟨by omega, h2, ?_⟩⟩⟩⟩
    · rw [e2] at g
      simpa using g
    · have e : IntKind.i64.wrap ((j : Int) + 1) = ((s.size - (k - 1) : Nat) : Int) := by
        rw [w64 _ (by omega)]; omega
      rw [e]
    · rw [show s.size - (k - 1) = j + 1 by omega]
      intro i hi
      rcases Nat.lt_or_ge i j with hij | hij
      · exact h3 i hij
      · obtain rfl : i = j := by omega
        rw [e2] at g
        rw [Bool.or_eq_false_iff] at g
        exact fun hh => hh.elim (fun e => by rw [e] at g; exact absurd g.1 (by decide)) (fun e => by rw [e] at g; exact absurd g.2 (by decide))
  · have hge : ¬ j < s.size := by simpa using hge
    obtain rfl : j = s.size := by omega
    exact ⟨⟨rfl⟩, ⟨fun ⟨i, h4, h5⟩ => h3 i h4 h5⟩⟩
def BA (s : ByteArray) : BlkS := fun S K => reshape S.V.length (selNA .normal S) (ksA .normal) [] [] S (JA s s.size) ∧ S.V.length = 2 ∧
  (Is (¬ BadS s) → K .normal ⟨List.replicate 55 unk, [.dead, .dead]⟩) ∧ ∀ x, NegV s x → K .ret ⟨[unk, unk, unk, unk, .int .i64 x] ++ List.replicate 50 unk, [.dead, .dead]⟩
theorem VA_sc (i : Nat) (o : VObj) (hi : VA[i]? = some o) : ScO 2 o := by
  match i, hi with
  | 0, hi => cases hi; trivial
  | 1, hi => cases hi; exact fun v hv => scB_ok 6 v (List.all_eq_true.1 (show setL.all (scB 2 6) = true by kernel_rfl) v hv)
theorem lA (s : ByteArray) (S : VSt) (K : Exit → VSt → Prop) (hB : BA s S K) : Does Tryz.prog (.block 0 (.loop (roundOf Tryz.f223 0))) S K := by
  obtain ⟨h1, h2, h3, h4⟩ := hB
  refine Does.mono (Does.loopR (K := KA 2 s) ksA selNA [] [] (JA s) S (reshape_mono (fun S hS => ⟨_, hS⟩) h1) fun k S' hJ => ?_) fun e S' hK => ?_
  · obtain ⟨ht, ⟨hV⟩, hA⟩ := hJ
    rw [h2]
    have := hA.le
    exact Does.weaken (rA s k (s.size - k) (by omega) hA) ht hV.symm (.of rfl VA_sc)
  · cases e with
    | normal => obtain ⟨⟨rfl⟩, hs⟩ := hK; exact h3 hs
    | ret =>
      change (match nth undef S'.tmps 4 with | .int .i64 x => QSt S' ⟨[unk, unk, unk, unk, .int .i64 x] ++ List.replicate 50 unk, [.dead, .dead]⟩ ∧ NegV s x | _ => False) at hK
      split at hK
      · obtain ⟨⟨rfl⟩, hs⟩ := hK; exact h4 _ hs
      · exact False.elim hK
    | _ => exact False.elim hK
/-! ### the short texts: their runes -/
theorem get_strAt (s : ByteArray) (i : Nat) : (s.get! i).toNat = strAt s i := by
  obtain ⟨d⟩ := s
  unfold strAt ByteArray.get!
  simp only [getElem!_def, Array.getD]
  by_cases h : i < d.size
  · rw [Array.getElem?_eq_getElem h, dif_pos h]; rfl
  · rw [Array.getElem?_eq_none (by omega), dif_neg h]; rfl
/-- a rune's bytes: one below 128, or some that are not -/
theorem dec_facts (s : ByteArray) (p : Nat) (hp : p < s.size) : (strAt s p < 128 → (Utf8.decode s p) = (strAt s p, 1)) ∧
    (128 ≤ strAt s p → 128 ≤ (Utf8.decode s p).1 ∧ 1 ≤ (Utf8.decode s p).2 ∧ p + (Utf8.decode s p).2 ≤ s.size ∧ ∀ j, p ≤ j → j < p + (Utf8.decode s p).2 → 128 ≤ strAt s j) := by
  unfold Utf8.decode
  simp only [get_strAt, Nat.add_zero, Utf8.runeError]
  have one : 128 ≤ strAt s p → 128 ≤ ((65533, 1) : Nat × Nat).1 ∧ 1 ≤ ((65533, 1) : Nat × Nat).2 ∧ p + ((65533, 1) : Nat × Nat).2 ≤ s.size ∧ ∀ j, p ≤ j → j < p + ((65533, 1) : Nat × Nat).2 → 128 ≤ strAt s j :=
    fun h => ⟨by decide, by decide, hp, fun j h1 h2 => by
      have e : j = p := by
        have h2 : j < p + 1 := h2
        omega
      rw [e]; exact h⟩
  refine ⟨fun h => by rw [if_pos h], fun h => ?_⟩
  rw [if_neg (by omega)]
  simp only [Bool.and_eq_true, decide_eq_true_eq, beq_iff_eq]
  split
  · rename_i h1
    split
    · refine ⟨by simpa using ‹_›, by simp, by simp; omega, fun j h3 h4 => ?_⟩
      simp at h4
      rcases (by omega : j = p ∨ j = p + 1) with rfl | rfl
      · exact h
      · omega
    · exact one h
  · split
    · rename_i h1
      split
      · rename_i h2
        refine ⟨by simp; omega, by simp, by simp; omega, fun j h3 h4 => ?_⟩
        simp at h4
        rcases (by omega : j = p ∨ j = p + 1 ∨ j = p + 2) with rfl | rfl | rfl
        · exact h
        · omega
        · omega
      · exact one h
    · split
      · rename_i h1
        split
        · rename_i h2
          refine ⟨by simp; omega, by simp, by simp; omega, fun j h3 h4 => ?_⟩
          simp at h4
          rcases (by omega : j = p ∨ j = p + 1 ∨ j = p + 2 ∨ j = p + 3) with rfl | rfl | rfl | rfl
          · exact h
          · omega
          · omega
          · omega
        · exact one h
      · exact one h
def tmB : List Value := [unk, .string sl] ++ List.replicate 43 unk ++ [.pointer (some ⟨0, 0, none⟩)] ++ List.replicate 9 unk
structure AtB (s : ByteArray) (k p : Nat) : Prop where
  le : p ≤ s.size
  n : s.size ≤ 255
  k : s.size ≤ p + k
  ok : ∀ i, i < p → ¬ (strAt s i = 0 ∨ strAt s i = 47)
def JB (s : ByteArray) (k : Nat) (S : VSt) : Prop :=
  match S.V with
  | [.iter s' p] => leT tmB S.tmps ∧ VEq [.iter s' p] [.iter s p] ∧ AtB s k p
  | _ => False
def ksB (e : Exit) : List Nat := match e with | .normal => [1, 45] | .ret => [4] | _ => []
def selNB (e : Exit) (_ : VSt) : List Sel := match e with | .normal => [.keep 0] | _ => [.drop 0]
theorem rB2 (s : ByteArray) (k p : Nat) (h : AtB s k p) :
    Does Tryz.prog (roundOf Tryz.f223 2) ⟨tmB, [.iter s p]⟩ fun e S' => reshape 1 (selNB e S') (ksB e) [] [] S' (roundR 2 (JB s) k (KA 1 s) e) := by
  refine of_code (ext_ok (l := []) (bs := []) .nil (.cons T233_ok .nil)) (n := 300) (BlksOK.none fun _ => rfl) ?_
  refine by_nf (B := bsplit (decide (p < s.size)) (Is (sl = sl ∧
    (0 : Int) ≤ (↑(Utf8.decode s p).fst : Int)) ∧
    ∀ (v : Int), Is ((0 : Int) ≤ v ↔ (↑(Utf8.decode s p).fst : Int) = (0 : Int) ∨ (↑(Utf8.decode s p).fst : Int) = (47 : Int)) → bsplit (decide (v ≥ (0 : Int))) (QSt { tmps := ([unk, unk, unk, unk, Value.int IntKind.i64 (↑p : Int)] ++ List.replicate 50 unk), V := [VObj.dead] : VSt } { tmps := ([unk, unk, unk, unk, Value.int IntKind.i64 (↑p : Int)] ++ List.replicate 50 unk), V := [VObj.dead] : VSt } ∧
    NegV s (↑p : Int)) ((k = (0 : Nat) → False) ∧
    (Value.string sl = Value.string sl ∧
    Value.pointer (some ⟨0, 0, none⟩) = Value.pointer (some ⟨0, 0, none⟩) ∧
    True) ∧
    VEq [VObj.iter s (p + (Utf8.decode s p).snd)] [VObj.iter s (p + (Utf8.decode s p).snd)] ∧
    AtB s (k - (1 : Nat)) (p + (Utf8.decode s p).snd))) (QSt { tmps := (List.replicate 55 unk), V := [VObj.dead] : VSt } { tmps := (List.replicate 55 unk), V := [VObj.dead] : VSt } ∧
    Is ¬BadS s)) (by kernel_rfl) ?_
  obtain ⟨h1, h2, h3, h4⟩ := h
  refine bsplit_iff.2 ⟨fun hlt => ⟨⟨rfl, by omega⟩, fun v ⟨hv⟩ => ?_⟩, fun hge => ?_⟩
  · have hlt : p < s.size := by simpa using hlt
    obtain ⟨d1, d2⟩ := dec_facts s p hlt
    have key : ((Utf8.decode s p).1 = 0 ∨ (Utf8.decode s p).1 = 47) ↔ (strAt s p = 0 ∨ strAt s p = 47) := by
      rcases Nat.lt_or_ge (strAt s p) 128 with hb | hb
      · rw [d1 hb]
      · have := d2 hb
        omega
    refine bsplit_iff.2 ⟨fun g => ⟨⟨rfl⟩, ⟨⟨fun _ => ⟨p, hlt, ?_⟩, fun _ => by omega⟩⟩⟩, fun g => ⟨fun hk => by omega, ⟨rfl, rfl, trivial⟩, ⟨rfl⟩, ⟨?_, h2, ?_, fun i hi => ?_⟩⟩⟩
    · have g : v ≥ 0 := by simpa using g
      exact key.1 (by have := hv.1 g; omega)
    · rcases Nat.lt_or_ge (strAt s p) 128 with hb | hb
      · rw [d1 hb]; omega
      · exact (d2 hb).2.2.1
    · rcases Nat.lt_or_ge (strAt s p) 128 with hb | hb
      · rw [d1 hb]; simp; omega
      · have := (d2 hb).2.1; omega
    · have g : ¬ v ≥ 0 := by simpa using g
      have hno : ¬ (strAt s p = 0 ∨ strAt s p = 47) := fun hh => g (hv.2 (by have := key.2 hh; omega))
      rcases Nat.lt_or_ge i p with hip | hip
      · exact h4 i hip
      · rcases Nat.lt_or_ge (strAt s p) 128 with hb | hb
        · rw [d1 hb] at hi
          obtain rfl : i = p := by simp at hi; omega
          exact hno
        · have := (d2 hb).2.2.2 i hip hi
          omega
  · have hge : ¬ p < s.size := by simpa using hge
    obtain rfl : p = s.size := by omega
    exact ⟨⟨rfl⟩, ⟨fun ⟨i, h4', h5⟩ => h4 i h4' h5⟩⟩
def BB (s : ByteArray) : BlkS := fun S K => reshape S.V.length (selNB .normal S) (ksB .normal) [] [] S (JB s s.size) ∧ S.V.length = 1 ∧
  (Is (¬ BadS s) → K .normal ⟨List.replicate 55 unk, [.dead]⟩) ∧ ∀ x, NegV s x → K .ret ⟨[unk, unk, unk, unk, .int .i64 x] ++ List.replicate 50 unk, [.dead]⟩
theorem lB (s : ByteArray) (S : VSt) (K : Exit → VSt → Prop) (hB : BB s S K) : Does Tryz.prog (.block 2 (.loop (roundOf Tryz.f223 2))) S K := by
  obtain ⟨h1, h2, h3, h4⟩ := hB
  refine Does.mono (Does.loopR (K := KA 1 s) ksB selNB [] [] (JB s) S (reshape_mono (fun S hS => ⟨_, hS⟩) h1) fun k S' hJ => ?_) fun e S' hK => ?_
  · obtain ⟨T, V⟩ := S'
    unfold JB at hJ
    split at hJ
    · rename_i hVV
      obtain ⟨ht, ⟨hV⟩, hA⟩ := hJ
      rw [h2]
      exact Does.weaken (rB2 s k _ hA) ht (hVV.trans hV).symm (.of rfl fun i o hi => by
        match i, hi with
        | 0, hi => cases hi; trivial)
    · exact hJ.elim
  · cases e with
    | normal => obtain ⟨⟨rfl⟩, hs⟩ := hK; exact h3 hs
    | ret =>
      change (match nth undef S'.tmps 4 with | .int .i64 x => QSt S' ⟨[unk, unk, unk, unk, .int .i64 x] ++ List.replicate 50 unk, [.dead]⟩ ∧ NegV s x | _ => False) at hK
      split at hK
      · obtain ⟨⟨rfl⟩, hs⟩ := hK; exact h4 _ hs
      · exact False.elim hK
    | _ => exact False.elim hK
/-! ### IndexAny, ContainsAny, name -/
def csA : List (Nat × CallS) := [(234, inl Tryz.prog c0 300 Tryz.f234), (235, inl Tryz.prog c0 300 Tryz.f235), (236, T236), (233, T233)]
theorem csA_ok : AllC Tryz.prog csA := .cons (c0_inl 234 _ 300 _ Tryz.func234 rfl (by decide +kernel)) (.cons (c0_inl 235 _ 300 _ Tryz.func235 rfl (by decide +kernel)) (.cons T236_ok (.cons T233_ok .nil)))
theorem indexAny_does (s : ByteArray) (hs : s.size ≤ 255) : CallDoes Tryz.prog 223 [.string s, .string sl] [] fun v V => (match v with | .int .i64 x => NegV s x | _ => False) ∧ VEq V [] := by
  refine CallDoes.reshape (fun _ _ => []) [] [] ?_
  refine of_run (ext_ok (bs := [(0, BA s), (2, BB s)]) .nil csA_ok) (n := 300) Tryz.func223 rfl (BlksOK.list (l := [(0, .loop (roundOf Tryz.f223 0)), (2, .loop (roundOf Tryz.f223 2))]) rfl fun x hx T hT S K h => ?_) ?_
  · simp only [List.mem_cons, List.mem_singleton, List.not_mem_nil, or_false] at hx
    rcases hx with rfl | rfl
    · cases hT; exact lA s S K h
    · cases hT; exact lB s S K h
  refine by_nf (B := bsplit (decide ((↑s.size : Int) > (8 : Int))) (((0 : Int) ≤ (0 : Int) ∧
    (0 : Int) + (1 : Int) ≤ (↑sl.size : Int)) ∧
    ((0 : Int) ≤ (↑(strAt sl (Int.toNat (0 : Int))) : Int) ∧
    (↑(strAt sl (Int.toNat (0 : Int))) : Int) + (1 : Int) ≤ (↑(256 : Nat) : Int)) ∧
    ((0 : Int) ≤ IntKind.i64.wrap ((0 : Int) + (1 : Int)) ∧
    IntKind.i64.wrap ((0 : Int) + (1 : Int)) + (1 : Int) ≤ (↑sl.size : Int)) ∧
    ((0 : Int) ≤ (↑(strAt sl (IntKind.i64.wrap ((0 : Int) + (1 : Int))).toNat) : Int) ∧
    (↑(strAt sl (IntKind.i64.wrap ((0 : Int) + (1 : Int))).toNat) : Int) + (1 : Int) ≤ (↑(256 : Nat) : Int)) ∧
    ((Value.string s = Value.string s ∧
    Value.pointer (some ⟨1, 0, none⟩) = Value.pointer (some ⟨1, 0, none⟩) ∧
    Value.int IntKind.i64 (↑(s.size - s.size) : Int) = Value.int IntKind.i64 (0 : Int) ∧
    True) ∧
    VEq [VObj.dead, VObj.cells (251 : Nat) [Value.bool true, Value.bool false, Value.bool false, Value.bool false, Value.bool false, Value.bool false, Value.bool false, Value.bool false, Value.bool false, Value.bool false, Value.bool false, Value.bool false, Value.bool false, Value.bool false, Value.bool false, Value.bool false, Value.bool false, Value.bool false, Value.bool false, Value.bool false, Value.bool false, Value.bool false, Value.bool false, Value.bool false, Value.bool false, Value.bool false, Value.bool false, Value.bool false, Value.bool false, Value.bool false, Value.bool false, Value.bool false, Value.bool false, Value.bool false, Value.bool false, Value.bool false, Value.bool false, Value.bool false, Value.bool false, Value.bool false, Value.bool false, Value.bool false, Value.bool false, Value.bool false, Value.bool false, Value.bool false, Value.bool false, Value.bool true, Value.bool false, Value.bool false, Value.bool false, Value.bool false, Value.bool false, Value.bool false, Value.bool false, Value.bool false, Value.bool false, Value.bool false, Value.bool false, Value.bool false, Value.bool false, Value.bool false, Value.bool false, Value.bool false, Value.bool false, Value.bool false, Value.bool false, Value.bool false, Value.bool false, Value.bool false, Value.bool false, Value.bool false, Value.bool false, Value.bool false, Value.bool false, Value.bool false, Value.bool false, Value.bool false, Value.bool false, Value.bool false, Value.bool false, Value.bool false, Value.bool false, Value.bool false, Value.bool false, Value.bool false, Value.bool false, Value.bool false, Value.bool false, Value.bool false, Value.bool false, Value.bool false, Value.bool false, Value.bool false, Value.bool false, Value.bool false, Value.bool false, Value.bool false, Value.bool false, Value.bool false, Value.bool false, Value.bool false, Value.bool false, Value.bool false, Value.bool false, Value.bool false, Value.bool false, Value.bool false, Value.bool false, Value.bool false, Value.bool false, Value.bool false, Value.bool false, Value.bool false, Value.bool false, Value.bool false, Value.bool false, Value.bool false, Value.bool false, Value.bool false, Value.bool false, Value.bool false, Value.bool false, Value.bool false, Value.bool false, Value.bool false, Value.bool false, Value.bool false, Value.bool false, Value.bool false, Value.bool false, Value.bool false, Value.bool false, Value.bool false, Value.bool false, Value.bool false, Value.bool false, Value.bool false, Value.bool false, Value.bool false, Value.bool false, Value.bool false, Value.bool false, Value.bool false, Value.bool false, Value.bool false, Value.bool false, Value.bool false, Value.bool false, Value.bool false, Value.bool false, Value.bool false, Value.bool false, Value.bool false, Value.bool false, Value.bool false, Value.bool false, Value.bool false, Value.bool false, Value.bool false, Value.bool false, Value.bool false, Value.bool false, Value.bool false, Value.bool false, Value.bool false, Value.bool false, Value.bool false, Value.bool false, Value.bool false, Value.bool false, Value.bool false, Value.bool false, Value.bool false, Value.bool false, Value.bool false, Value.bool false, Value.bool false, Value.bool false, Value.bool false, Value.bool false, Value.bool false, Value.bool false, Value.bool false, Value.bool false, Value.bool false, Value.bool false, Value.bool false, Value.bool false, Value.bool false, Value.bool false, Value.bool false, Value.bool false, Value.bool false, Value.bool false, Value.bool false, Value.bool false, Value.bool false, Value.bool false, Value.bool false, Value.bool false, Value.bool false, Value.bool false, Value.bool false, Value.bool false, Value.bool false, Value.bool false, Value.bool false, Value.bool false, Value.bool false, Value.bool false, Value.bool false, Value.bool false, Value.bool false, Value.bool false, Value.bool false, Value.bool false, Value.bool false, Value.bool false, Value.bool false, Value.bool false, Value.bool false, Value.bool false, Value.bool false, Value.bool false, Value.bool false, Value.bool false, Value.bool false, Value.bool false, Value.bool false, Value.bool false, Value.bool false, Value.bool false, Value.bool false, Value.bool false, Value.bool false, Value.bool false, Value.bool false, Value.bool false, Value.bool false, Value.bool false, Value.bool false, Value.bool false, Value.bool false, Value.bool false, Value.bool false, Value.bool false, Value.bool false, Value.bool false, Value.bool false, Value.bool false, Value.bool false, Value.bool false, Value.bool false, Value.bool false, Value.bool false]] [VObj.dead, VObj.cells (251 : TypeId) (Value.bool true :: Value.bool false :: Value.bool false :: Value.bool false :: Value.bool false :: Value.bool false :: Value.bool false :: Value.bool false :: have y := Value.bool false :: Value.bool false :: Value.bool false :: Value.bool false :: have y := have y := Value.bool false :: Value.bool false :: Value.bool false :: Value.bool false :: have y := have y := have y := Value.bool false :: Value.bool false :: Value.bool false :: Value.bool false :: have y := have y := have y := have y := Value.bool false :: Value.bool false :: Value.bool false :: Value.bool false :: have y := have y := have y := have y := have y := [Value.bool false, Value.bool false, Value.bool false, Value.bool false]; Value.bool false :: Value.bool false :: Value.bool false :: Value.bool false :: y; have y := Value.bool false :: Value.bool false :: Value.bool false :: Value.bool false :: y; Value.bool false :: Value.bool false :: Value.bool false :: Value.bool false :: y; have y := have y := Value.bool false :: Value.bool false :: Value.bool false :: Value.bool false :: y; Value.bool false :: Value.bool false :: Value.bool false :: Value.bool false :: y; have y := Value.bool false :: Value.bool false :: Value.bool false :: Value.bool false :: y; Value.bool false :: Value.bool false :: Value.bool false :: Value.bool false :: y; have y := have y := have y := Value.bool false :: Value.bool false :: Value.bool false :: Value.bool false :: y; Value.bool false :: Value.bool false :: Value.bool false :: Value.bool false :: y; have y := Value.bool false :: Value.bool false :: Value.bool false :: Value.bool false :: y; Value.bool false :: Value.bool false :: Value.bool false :: Value.bool false :: y; have y := have y := Value.bool false :: Value.bool false :: Value.bool false :: Value.bool false :: y; Value.bool false :: Value.bool false :: Value.bool false :: Value.bool false :: y; have y := Value.bool false :: Value.bool false :: Value.bool false :: Value.bool false :: y; Value.bool false :: Value.bool false :: Value.bool false :: Value.bool false :: y; have y := have y := have y := have y := Value.bool false :: Value.bool false :: Value.bool false :: Value.bool false :: y; Value.bool false :: Value.bool false :: Value.bool false :: Value.bool false :: y; have y := Value.bool false :: Value.bool false :: Value.bool false :: Value.bool false :: y; Value.bool false :: Value.bool false :: Value.bool false :: Value.bool false :: y; have y := have y := Value.bool false :: Value.bool false :: Value.bool false :: Value.bool false :: y; Value.bool false :: Value.bool false :: Value.bool false :: Value.bool false :: y; have y := Value.bool false :: Value.bool false :: Value.bool false :: Value.bool false :: y; Value.bool false :: Value.bool false :: Value.bool false :: Value.bool false :: y; have y := have y := have y := Value.bool false :: Value.bool false :: Value.bool false :: Value.bool false :: y; Value.bool false :: Value.bool false :: Value.bool false :: Value.bool false :: y; have y := Value.bool false :: Value.bool false :: Value.bool false :: Value.bool false :: y; Value.bool false :: Value.bool false :: Value.bool false :: Value.bool false :: y; have y := have y := Value.bool false :: Value.bool false :: Value.bool false :: Value.bool false :: y; Value.bool false :: Value.bool false :: Value.bool false :: Value.bool false :: y; have y := Value.bool false :: Value.bool false :: Value.bool false :: Value.bool false :: y; Value.bool false :: Value.bool false :: Value.bool false :: Value.bool false :: y; Value.bool false :: Value.bool false :: Value.bool false :: Value.bool false :: y; have y := Value.bool false :: Value.bool false :: Value.bool false :: Value.bool false :: y; Value.bool false :: Value.bool false :: Value.bool false :: Value.bool false :: y; have y := have y := Value.bool false :: Value.bool false :: Value.bool false :: Value.bool false :: y; Value.bool false :: Value.bool false :: Value.bool false :: Value.bool false :: y; have y := Value.bool false :: Value.bool false :: Value.bool false :: Value.bool false :: y; Value.bool false :: Value.bool false :: Value.bool false :: Value.bool false :: y; have y := have y := have y := Value.bool false :: Value.bool false :: Value.bool false :: Value.bool false :: y; Value.bool false :: Value.bool false :: Value.bool false :: Value.bool false :: y; have y := Value.bool false :: Value.bool false :: Value.bool false :: Value.bool false :: y; Value.bool false :: Value.bool false :: Value.bool false :: Value.bool false :: y; have y := have y := Value.bool false :: Value.bool false :: Value.bool false :: Value.bool false :: y; Value.bool false :: Value.bool false :: Value.bool false :: Value.bool false :: y; have y := Value.bool false :: Value.bool false :: Value.bool false :: Value.bool false :: y; Value.bool false :: Value.bool false :: Value.bool false :: Value.bool false :: y; Value.bool false :: Value.bool false :: Value.bool false :: Value.bool false :: y; have y := Value.bool false :: Value.bool false :: Value.bool false :: Value.bool false :: y; Value.bool false :: Value.bool false :: Value.bool false :: Value.bool false :: y; have y := have y := Value.bool false :: Value.bool false :: Value.bool false :: Value.bool true :: y; Value.bool false :: Value.bool false :: Value.bool false :: Value.bool false :: y; have y := Value.bool false :: Value.bool false :: Value.bool false :: Value.bool false :: y; Value.bool false :: Value.bool false :: Value.bool false :: Value.bool false :: y; Value.bool false :: Value.bool false :: Value.bool false :: Value.bool false :: y; have y := Value.bool false :: Value.bool false :: Value.bool false :: Value.bool false :: y; Value.bool false :: Value.bool false :: Value.bool false :: Value.bool false :: y; Value.bool false :: Value.bool false :: Value.bool false :: Value.bool false :: y)] ∧
    AtA s s.size) ∧
    (2 : Nat) = (2 : Nat) ∧
    (Is ¬BadS s → NegV s (-1 : Int) ∧
    VEq [] []) ∧
    ∀ (x : Int), NegV s x → NegV s x ∧
    VEq [] []) (True ∧
    ((Value.string sl = Value.string sl ∧
    Value.pointer (some ⟨0, 0, none⟩) = Value.pointer (some ⟨0, 0, none⟩) ∧
    True) ∧
    VEq [VObj.iter s (0 : Nat)] [VObj.iter s (0 : Nat)] ∧
    AtB s s.size (0 : Nat)) ∧
    (1 : Nat) = (1 : Nat) ∧
    (Is ¬BadS s → NegV s (-1 : Int) ∧
    VEq [] []) ∧
    ∀ (x : Int), NegV s x → NegV s x ∧
    VEq [] [])) (by kernel_rfl) ?_
  have hl : sl.size = 2 := rfl
  have no : Is ¬BadS s → NegV s (-1 : Int) ∧ VEq [] [] := fun ⟨h⟩ => ⟨⟨⟨fun h => absurd h (by omega), fun hb => absurd hb h⟩⟩, ⟨rfl⟩⟩
  rw [hl]
  exact bsplit_iff.2 ⟨fun _ => ⟨⟨by omega, by omega⟩, ⟨by decide, by decide⟩, ⟨by decide, by decide⟩, ⟨by decide, by decide⟩, ⟨⟨rfl, rfl, by simp, trivial⟩, ⟨rfl⟩, ⟨Nat.le_refl _, hs, fun i hi => by omega⟩⟩, rfl, no, fun x hx => ⟨hx, ⟨rfl⟩⟩⟩,
    fun _ => ⟨trivial, ⟨⟨rfl, rfl, trivial⟩, ⟨rfl⟩, ⟨Nat.zero_le _, hs, by omega, fun i hi => by omega⟩⟩, rfl, no, fun x hx => ⟨hx, ⟨rfl⟩⟩⟩⟩
def T223 : CallS := fun args V K => match args with | [.string s, .string a] => Is (a = sl ∧ s.size ≤ 255) ∧ ∀ x, NegV s x → K (.int .i64 x) V | _ => False
theorem T223_ok : CallOK Tryz.prog 223 T223 := by
  refine ⟨callable Tryz.func223 rfl (by decide +kernel), fun args V K hT => ?_⟩
  unfold T223 at hT
  split at hT
  · rename_i s a
    obtain ⟨⟨rfl, h0⟩, hK⟩ := hT
    refine CallDoes.frame (fun x hx => by simp at hx; rcases hx with rfl | rfl <;> exact .plain rfl) ?_
    refine CallDoes.mono1 (fun v V' hv => ?_) (indexAny_does s h0)
    obtain ⟨hv, ⟨rfl⟩⟩ := hv
    split at hv
    · exact ⟨(fun o ho => by simp at ho), by simpa [renB] using hK _ hv⟩
    · exact hv.elim
  · exact hT.elim
/-- is it a name? -/
structure NameP (s : ByteArray) : Prop where
  h1 : 1 ≤ s.size
  h2 : s.size ≤ 255
  ok : ¬ BadS s
open Classical in
noncomputable def pName (s : ByteArray) : Bool := decide (NameP s)
theorem pName_of {s : ByteArray} {b : Bool} (h : b = true ↔ NameP s) : b = pName s := by
  unfold pName
  exact Bool.eq_iff_iff.2 (h.trans (by simp))
theorem pName_no {s : ByteArray} (h : ¬ NameP s) : pName s = false := (pName_of (b := false) ⟨fun h => by simp at h, fun hn => absurd hn h⟩).symm
def csName : List (Nat × CallS) := [(150, inl Tryz.prog c0 300 Tryz.f150), (209, inl Tryz.prog (ctxG [] [(223, T223)] []) 300 Tryz.f209)]
theorem csName_ok : AllC Tryz.prog csName := .cons (c0_inl 150 _ 300 _ Tryz.func150 rfl (by decide +kernel)) (.cons (ext_inl (ctxG_ok .nil (.cons T223_ok .nil)) (fun _ => rfl) 209 _ 300 _ Tryz.func209 rfl (by decide +kernel)) .nil)
theorem name_does (s : ByteArray) : CallDoes Tryz.prog 151 [.string s] [] fun v V => BoolV (pName s) v ∧ VEq V [] := by
  refine of_run (ctxG_ok (bs := []) .nil csName_ok) (n := 300) Tryz.func151 rfl (BlksOK.none fun _ => rfl) ?_
  refine by_nf (B := bsplit (decide ((↑s.size : Int) ≥ (1 : Int)))
    (bsplit (decide ((↑s.size : Int) ≤ (255 : Int))) (Is ({ data := #[(47 : UInt8), (0 : UInt8)] : ByteArray } = sl ∧
    s.size ≤ (255 : Nat)) ∧
    ∀ (x : Int), NegV s x → BoolV (pName s) (Value.bool !decide (x ≥ (0 : Int))) ∧
    VEq [] []) (BoolV (pName s) (Value.bool false) ∧
    VEq [] [])) (BoolV (pName s) (Value.bool false) ∧
    VEq [] [])) (by kernel_rfl) ?_
  have no : ¬ NameP s → BoolV (pName s) (Value.bool false) ∧ VEq [] [] := fun h => ⟨⟨by rw [pName_no h]⟩, ⟨rfl⟩⟩
  refine bsplit_iff.2 ⟨fun g1 => bsplit_iff.2 ⟨fun g2 => ⟨⟨rfl, ?_⟩, fun x hx => ⟨⟨?_⟩, ⟨rfl⟩⟩⟩, fun g2 => no fun h => ?_⟩, fun g1 => no fun h => ?_⟩
  · have := of_decide_eq_true g2; omega
  · have g1 := of_decide_eq_true g1
    have g2 := of_decide_eq_true g2
    rw [pName_of (s := s) (b := !decide (x ≥ 0))]
    simp only [Bool.not_eq_true', decide_eq_false_iff_not]
    exact ⟨fun hn => ⟨by omega, by omega, fun hb => hn (hx.p.2 hb)⟩, fun hn hp => hn.ok (hx.p.1 hp)⟩
  · have := of_decide_eq_false g2; have := h.h2; omega
  · have := of_decide_eq_false g1; have := h.h1; omega
def nameT : CallS := fun args V K => match args with | [.string s] => K (.bool (pName s)) V | _ => False
theorem name_of_does {f : FuncId} (hc : Callable Tryz.prog f) (h : ∀ s, CallDoes Tryz.prog f [.string s] [] fun v V => BoolV (pName s) v ∧ VEq V []) : CallOK Tryz.prog f nameT := by
  refine ⟨hc, fun args V K hT => ?_⟩
  unfold nameT at hT
  split at hT
  · rename_i s
    refine CallDoes.frame (fun x hx => by simp at hx; subst hx; exact .plain rfl) ?_
    refine CallDoes.mono1 (fun v V' hv => ?_) (h s)
    obtain ⟨⟨rfl⟩, ⟨rfl⟩⟩ := hv
    exact ⟨(fun o ho => by simp at ho), by simpa [renB] using hT⟩
  · exact hT.elim
theorem name_ok : CallOK Tryz.prog 151 nameT := name_of_does (callable Tryz.func151 rfl (by decide +kernel)) name_does
end Go.Msg
