/- AcceptorOne: the small functions: a number brought into a range; is a number in a list. -/
import Derived.Test.YtkjncodnmceilaaAcc5
import Derived.Test.YtkjncodnmceilaaAoP
import Derived.Test.YtkjncodnmceilaaXSS
import Derived.Test.YtkjncodnmceilaaXSV
set_option linter.unusedSimpArgs false
set_option linter.unusedVariables false
set_option linter.unusedSectionVars false
set_option maxRecDepth 100000
namespace Go.Acc
open Go Go.X Go.Proofs
variable [WI]

structure QSt (S S' : VSt) : Prop where
  eq : S = S'
abbrev roundR := @Go.X.roundR

def g2p {α β : Type} (A : Dec α) (B : Dec β) (pre : α → β → Prop) (res : α → β → Value) : List Value → VW → Res := fun args _ =>
  match args with | [x, y] => (match A.dec x, B.dec y with | some a, some b => .ob (pre a b) (res a b) | _, _ => .bad) | _ => .bad
theorem FnOK.g2p {P : Program} {f : FuncId} {α β : Type} (hc : Callable P f) (A : Dec α) (B : Dec β) (pre : α → β → Prop) (res : α → β → Value) (hpr : ∀ a b, plainR (res a b) = true)
    (h : ∀ a b, pre a b → CallDoes P f [A.enc a, B.enc b] [] fun v _ => v = res a b) : FnOK P f (g2p A B pre res) :=
  FnOK.of hc (fun args V p os v h => by unfold Acc.g2p at h; (repeat' split at h) <;> cases h) fun args V v hg => by
    unfold Acc.g2p at hg
    split at hg
    · rename_i x y
      split at hg
      · rename_i a b ha hb
        rw [Gives.ob_iff] at hg
        obtain ⟨rfl, hp⟩ := hg
        obtain rfl := A.ok _ _ ha
        obtain rfl := B.ok _ _ hb
        exact ⟨by simp [A.plain, B.plain], hpr a b, h a b hp⟩
      · exact (Gives.bad.1 hg).elim
    · exact (Gives.bad.1 hg).elim

theorem tmod_emod (a b : Int) (hb : 0 < b) : (a.tmod b < 0 → a.tmod b + b = a % b) ∧ (¬ a.tmod b < 0 → a.tmod b = a % b) ∧ -b < a.tmod b ∧ a.tmod b < b := by
  have h1 : a = b * a.tdiv b + a.tmod b := (Int.mul_tdiv_add_tmod a b).symm
  have h2 := Int.tmod_lt_of_pos a hb
  have h3 : -b < a.tmod b := by
    have := Int.tmod_lt_of_pos (-a) hb
    rw [Int.neg_tmod] at this
    omega
  have h4 : a % b = a.tmod b % b := by
    conv => lhs; rw [h1]
    rw [Int.add_comm, Int.add_mul_emod_self_left]
  refine ⟨fun h => ?_, fun h => ?_, h3, h2⟩
  · rw [h4, ← Int.add_emod_right, Int.emod_eq_of_lt (by omega) (by omega)]
  · rw [h4, Int.emod_eq_of_lt (by omega) h2]

abbrev inG := g2p (dInt .i64) (dInt .i64) (fun _ b => 0 < b ∧ b ≤ 1000000) fun a b => .int .i64 (a % b)
theorem in_ok : FnOK Try.prog 26 inG := by
  refine FnOK.g2p (callable Try.func26 rfl (by decide +kernel)) _ _ _ _ (fun _ _ => rfl) fun a b ⟨h1, h2⟩ => ?_
  refine of_run (ctxL_ok .nil) (n := 200) Try.func26 rfl .l ?_
  refine by_nf (B := (b = (0 : Int) → False) ∧
    bsplit (decide (a.tmod b < (0 : Int))) (Value.int IntKind.i64 (IntKind.i64.wrap (a.tmod b + b)) = Value.int IntKind.i64 (a % b)) (Value.int IntKind.i64 (a.tmod b) = Value.int IntKind.i64 (a % b))) (by kernel_rfl) ?_
  obtain ⟨h3, h4, h5, h6⟩ := tmod_emod a b h1
  refine ⟨by omega, bsplit_iff.2 ⟨fun h => ?_, fun h => ?_⟩⟩
  · have h : a.tmod b < 0 := by simpa using h
    rw [w64 _ (by omega), h3 h]
  · have h : ¬ a.tmod b < 0 := by simpa using h
    rw [h4 h]

/-! ### has -/
def lf (l : List Int) (j : Nat) : List Value := [.int .i64 (l.getD j 0)]
def hasTm (n : Nat) (s : Int) (i : Int) : List Value := [.slice (some ⟨0, 3, some 0⟩) n 0, .int .i64 s, unk, unk, unk, .int .i64 i] ++ List.replicate 12 unk
def hasV (l : List Int) : VW := [.arg 3 1 l.length fun j => [.int .i64 (l.getD j 0)]]
structure HasAt (l : List Int) (s : Int) (k : Nat) (j : Int) : Prop where
  ex : ∃ j' : Nat, j = j' ∧ j' + k = l.length ∧ ∀ r, r < j' → l.getD r 0 ≠ s
structure Is (p : Prop) : Prop where
  out : p
def hasJ (l : List Int) (s : Int) (k : Nat) (S : VSt) : Prop :=
  match nth undef S.tmps 5 with
  | .int .i64 j => leT (hasTm l.length s j) S.tmps ∧ QSt ⟨[], S.V⟩ ⟨[], hasV l⟩ ∧ HasAt l s k j
  | _ => False
def hasK (l : List Int) (s : Int) (e : Exit) (S : VSt) : Prop :=
  match e with
  | .normal => Is (hasL l s = false) ∧ QSt S ⟨List.replicate 18 unk, hasV l⟩
  | .ret => Is (hasL l s = true) ∧ QSt S ⟨[unk, unk, unk, unk, .bool true] ++ List.replicate 13 unk, hasV l⟩
  | _ => False
def hasKs (e : Exit) : List Nat := match e with | .normal => [0, 1, 5] | .ret => [4] | _ => []
def k0 (_ : Exit) (_ : VSt) : List Sel := [.keep 0]

theorem has_t {l : List Int} {s : Int} {j : Nat} (hj : j < l.length) (h : l.getD j 0 = s) : hasL l s = true := by
  unfold hasL
  refine List.contains_iff_mem.2 ?_
  rw [← h, List.getD_eq_getElem?_getD, List.getElem?_eq_getElem hj]
  exact List.getElem_mem hj
theorem has_f {l : List Int} {s : Int} (h : ∀ r, r < l.length → l.getD r 0 ≠ s) : hasL l s = false := by
  cases hc : hasL l s with
  | false => rfl
  | true =>
    exfalso
    unfold hasL at hc
    obtain ⟨i, hi, he⟩ := List.mem_iff_getElem.1 (List.contains_iff_mem.1 hc)
    exact h i hi (by rw [List.getD_eq_getElem?_getD, List.getElem?_eq_getElem hi]; exact he)

theorem has_round (l : List Int) (s : Int) (hl : l.length ≤ 1000) (k j : Nat) (hj : j + k = l.length) (hno : ∀ r, r < j → l.getD r 0 ≠ s) :
    Does Try.prog (roundOf Try.f41 0) ⟨hasTm l.length s j, hasV l⟩ fun e S' => reshape 1 (k0 e S') (hasKs e) [] [] S' (Go.X.roundR 0 (hasJ l s) k (hasK l s) e) := by
  refine of_code (ctxG_ok (l := []) (cs := []) (bs := []) .nil .nil) (n := 200) .g ?_
  refine by_nf (B := bsplit (decide ((↑j : Int) < (↑l.length : Int))) (((0 : Int) ≤ (↑j : Int) ∧
    (↑j : Int) + (1 : Int) ≤ (↑l.length : Int) ∧
    (0 : Nat) + l.length ≤ l.length) ∧
    ((0 : Nat) + (↑j : Int).toNat).succ ≤ l.length ∧
    bsplit (l.getD ((0 : Nat) + (↑j : Int).toNat) (0 : Int) == s) (Is (hasL l s = true) ∧
    QSt { tmps := [unk, unk, unk, unk, Value.bool true, unk, unk, unk, unk, unk, unk, unk, unk, unk, unk, unk, unk, unk], V := [VObj.arg (3 : TypeId) (1 : Nat) l.length fun j => [Value.int IntKind.i64 (l.getD j (0 : Int))]] : VSt } { tmps := [unk, unk, unk, unk, Value.bool true, unk, unk, unk, unk, unk, unk, unk, unk, unk, unk, unk, unk, unk], V := hasV l : VSt }) ((k = (0 : Nat) → False) ∧
    (Value.slice (some { block := (0 : Nat), off := (3 : Nat), spot := some (0 : Nat) : Addr }) l.length (0 : Nat) = Value.slice (some { block := (0 : Nat), off := { block := (0 : Nat), off := (3 : Nat), spot := some (0 : Nat) : Addr }.off, spot := some (0 : Nat) : Addr }) l.length (0 : Nat) ∧
    Value.int IntKind.i64 s = Value.int IntKind.i64 s ∧
    Value.int IntKind.i64 (IntKind.i64.wrap ((↑j : Int) + (1 : Int))) = Value.int IntKind.i64 (IntKind.i64.wrap ((↑j : Int) + (1 : Int))) ∧
    True) ∧
    QSt { tmps := [], V := [VObj.arg (3 : TypeId) (1 : Nat) l.length fun j => [Value.int IntKind.i64 (l.getD j (0 : Int))]] : VSt } { tmps := [], V := hasV l : VSt } ∧
    HasAt l s (k - (1 : Nat)) (IntKind.i64.wrap ((↑j : Int) + (1 : Int))))) (Is (hasL l s = false) ∧
    QSt { tmps := [unk, unk, unk, unk, unk, unk, unk, unk, unk, unk, unk, unk, unk, unk, unk, unk, unk, unk], V := [VObj.arg (3 : TypeId) (1 : Nat) l.length fun j => [Value.int IntKind.i64 (l.getD j (0 : Int))]] : VSt } { tmps := [unk, unk, unk, unk, unk, unk, unk, unk, unk, unk, unk, unk, unk, unk, unk, unk, unk, unk], V := hasV l : VSt })) (by kernel_rfl) ?_
  have e0 : (0 : Nat) + (j : Int).toNat = j := by omega
  refine bsplit_iff.2 ⟨fun hlt => ?_, fun hge => ?_⟩
  · have hlt : j < l.length := by simpa using hlt
    have hw : IntKind.i64.wrap ((j : Int) + 1) = ((j + 1 : Nat) : Int) := by rw [w64 _ (by omega)]; rfl
    rw [hw, e0]
    refine ⟨⟨by omega, by omega, by omega⟩, by omega, bsplit_iff.2 ⟨fun h => ?_, fun h => ?_⟩⟩
    · exact ⟨⟨has_t hlt (by simpa using h)⟩, ⟨rfl⟩⟩
    · refine ⟨by omega, ⟨rfl, rfl, rfl, trivial⟩, ⟨rfl⟩, ⟨j + 1, rfl, by omega, fun r hr => ?_⟩⟩
      by_cases hrj : r = j
      · subst hrj; intro e; rw [e] at h; simp at h
      · exact hno r (by omega)
  · have hge : ¬ j < l.length := by simpa using hge
    exact ⟨⟨has_f fun r hr => hno r (by omega)⟩, ⟨rfl⟩⟩

theorem hasJ_eq {l : List Int} {s : Int} {k : Nat} {S : VSt} (hJ : hasJ l s k S) : ∃ j : Nat, leT (hasTm l.length s j) S.tmps ∧ S.V = hasV l ∧ j + k = l.length ∧ ∀ r, r < j → l.getD r 0 ≠ s := by
  unfold hasJ at hJ
  split at hJ
  · obtain ⟨h1, ⟨h2⟩, ⟨j, rfl, h3, h4⟩⟩ := hJ
    exact ⟨j, h1, (VSt.mk.inj h2).2, h3, h4⟩
  · exact hJ.elim
def hasB (l : List Int) (s : Int) : BlkS := fun S K =>
  reshape S.V.length (k0 .normal S) [0, 1, 5] [] [] S (hasJ l s l.length) ∧ S.V.length = 1 ∧ (hasL l s = false → K .normal ⟨List.replicate 18 unk, hasV l⟩) ∧ (hasL l s = true → K .ret ⟨[unk, unk, unk, unk, .bool true] ++ List.replicate 13 unk, hasV l⟩)
theorem has_loop (l : List Int) (s : Int) (hl : l.length ≤ 1000) (S : VSt) (K : Exit → VSt → Prop) (hB : hasB l s S K) : Does Try.prog (.block 0 (.loop (roundOf Try.f41 0))) S K := by
  obtain ⟨h1, h2, h3, h4⟩ := hB
  refine Does.mono (Does.loopR (K := hasK l s) hasKs k0 [] [] (hasJ l s) S (reshape_mono (fun S hS => ⟨_, hS⟩) h1) fun k S' hJ => ?_) fun e S' hK => ?_
  · obtain ⟨j, ht, hV, hj, hno⟩ := hasJ_eq hJ
    rw [h2]
    exact Does.weaken (S' := ⟨hasTm l.length s j, hasV l⟩) (has_round l s hl k j hj hno) ht hV.symm (.of rfl fun k o hk => by
      match k, hk with
      | 0, hk => cases hk; trivial)
  · cases e with
    | normal => obtain ⟨⟨h⟩, ⟨rfl⟩⟩ := hK; exact h3 h
    | ret => obtain ⟨⟨h⟩, ⟨rfl⟩⟩ := hK; exact h4 h
    | _ => exact hK.elim

/-- the contract over a slice that is read -/
def hasA (l : List Int) : CallS := fun args V K =>
  match args, V with
  | [.slice (some ⟨0, 3, some 0⟩) n 0, .int .i64 s], [.arg 3 1 n' f] => Is (n = l.length ∧ n' = l.length ∧ ∀ j, j < l.length → f j = [.int .i64 (l.getD j 0)]) ∧ K (.bool (hasL l s)) [.arg 3 1 n' f]
  | _, _ => False
theorem has_some (l : List Int) (s : Int) (hl : l.length ≤ 1000) : CallDoes Try.prog 41 [.slice (some ⟨0, 3, some 0⟩) l.length 0, .int .i64 s] (hasV l) fun v V' => v = .bool (hasL l s) ∧ V' = hasV l := by
  refine of_run (ctxG_ok (l := []) (cs := []) (bs := [(0, hasB l s)]) .nil .nil) (n := 200) Try.func41 rfl (.one rfl rfl (has_loop l s hl)) ?_
  refine by_nf (B := ((Value.slice (some { block := (0 : Nat), off := (3 : Nat), spot := some (0 : Nat) : Addr }) l.length (0 : Nat) = Value.slice (some { block := (0 : Nat), off := { block := (0 : Nat), off := (3 : Nat), spot := some (0 : Nat) : Addr }.off, spot := some (0 : Nat) : Addr }) l.length (0 : Nat) ∧
    Value.int IntKind.i64 s = Value.int IntKind.i64 s ∧
    Value.int IntKind.i64 (0 : Int) = Value.int IntKind.i64 (0 : Int) ∧
    True) ∧
    QSt { tmps := [], V := [VObj.arg (3 : TypeId) (1 : Nat) l.length fun j => [Value.int IntKind.i64 (l.getD j (0 : Int))]] : VSt } { tmps := [], V := hasV l : VSt } ∧
    HasAt l s l.length (0 : Int)) ∧
    (1 : Nat) = (1 : Nat) ∧
    (hasL l s = false → Value.bool false = Value.bool (hasL l s) ∧
    [VObj.arg (3 : TypeId) (1 : Nat) l.length fun j => [Value.int IntKind.i64 (l.getD j (0 : Int))]] = hasV l) ∧
    (hasL l s = true → Value.bool true = Value.bool (hasL l s) ∧
    [VObj.arg (3 : TypeId) (1 : Nat) l.length fun j => [Value.int IntKind.i64 (l.getD j (0 : Int))]] = hasV l)) (by kernel_rfl) ?_
  exact ⟨⟨⟨rfl, rfl, rfl, trivial⟩, ⟨rfl⟩, ⟨0, rfl, by omega, fun r hr => absurd hr (Nat.not_lt_zero r)⟩⟩, rfl, fun h => ⟨by rw [h], rfl⟩, fun h => ⟨by rw [h], rfl⟩⟩

/-- a row that is read, told by another function -/
theorem callDoes_arg {P : Program} {f : FuncId} {args : List Value} {t : TypeId} {m n : Nat} {g g' : Nat → List Value} (hg : ∀ j, j < n → g j = g' j) {K : Value → VW → Prop} (h : CallDoes P f args [.arg t m n g'] fun v V' => V' = [.arg t m n g'] ∧ K v [.arg t m n g]) : CallDoes P f args [.arg t m n g] K := by
  intro env w hW hsc
  have turn : ∀ {env' : Nat → X.Loc} {w' : World} {a b : Nat → List Value}, (∀ j, j < n → a j = b j) → RepW env' [.arg t m n a] w' → RepW env' [.arg t m n b] w' := by
    intro env' w' a b hab h
    refine ⟨fun i o hi => ?_, fun i o hi => ?_, fun i o hi hB => ?_, fun i j oi oj hi hj hij hw => ?_, h.inv, fun i o hi ho => ?_, h.room⟩
    · match i, hi with
      | 0, hi =>
        cases hi
        obtain ⟨h1, h2, h3⟩ := h.mat 0 _ rfl
        exact ⟨h1, h2, fun r hr => by rw [← hab r hr]; exact h3 r hr⟩
    · match i, hi with
      | 0, hi => cases hi; trivial
    · match i, hi with
      | 0, hi => cases hi; exact h.blk 0 (.arg t m n a) rfl hB
    · match i, hi with
      | 0, hi => cases hi; cases hw
    · match i, hi with
      | 0, hi => cases hi; cases ho.1
  refine (h env w (turn hg hW) hsc).mono ?_
  rintro e w' ⟨u, env', V', v, rfl, hrv, hW', hF, rfl, hK⟩
  exact ⟨u, env', _, v, rfl, hrv, turn (fun j hj => (hg j hj).symm) hW', ⟨hF.agree, hF.len, hF.os, hF.tape, hF.output, hF.size, fun b hb hno => hF.keep b hb fun i o hi ho => (by
      match i, hi with
      | 0, hi => cases hi; cases ho.1), fun i o hi ho => (by
      match i, hi with
      | 0, hi => cases hi; cases ho.1)⟩, hK⟩

theorem hasA_ok (l : List Int) (hl : l.length ≤ 1000) : CallOK Try.prog 41 (hasA l) := by
  refine ⟨callable Try.func41 rfl (by decide +kernel), fun args V K hT => ?_⟩
  unfold hasA at hT
  split at hT
  · rename_i n s n' f
    obtain ⟨⟨rfl, rfl, hf⟩, hK⟩ := hT
    refine callDoes_arg (g' := fun j => [.int .i64 (l.getD j 0)]) hf ?_
    intro env w hW hsc
    refine (has_some l s hl env w hW hsc).mono ?_
    rintro e w' ⟨u, env', V', v, rfl, hrv, hW', hF, rfl, rfl⟩
    exact ⟨u, env', _, _, rfl, hrv, hW', hF, rfl, hK⟩
  · exact hT.elim
theorem frHas (l : List Int) (hl : l.length ≤ 1000) : CallOK Try.prog 41 (viewT (hasA l)) := (hasA_ok l hl).viewed
end Go.Acc
