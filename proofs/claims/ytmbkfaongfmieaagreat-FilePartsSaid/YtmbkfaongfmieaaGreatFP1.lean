/- FileParts: the small functions: a number brought into a range; is a text a name. -/
import Derived.Test.YtmbkfaongfmieaaGreatXSS
import Derived.Test.YtmbkfaongfmieaaGreatXSV
import Derived.Test.YtmbkfaongfmieaaGreatXInl
import Derived.Test.YtmbkfaongfmieaaGreatProg
set_option linter.unusedSimpArgs false
set_option linter.unusedVariables false
set_option linter.unusedSectionVars false
set_option maxRecDepth 100000
namespace Go.Fil
open Go Go.X Go.Proofs
variable [WI]

structure QSt (S S' : VSt) : Prop where
  eq : S = S'
structure Is (p : Prop) : Prop where
  out : p
theorem callable {f : FuncId} {fn : Func} (h : Tryz.prog.funcs[f]? = some fn) (hb : fn.body.isSome = true) (hn : (fn.name == "runtime.NumGoroutine") = false) : Callable Tryz.prog f := ⟨fn, h, hb, hn⟩

def g2p {α β : Type} (A : Dec α) (B : Dec β) (pre : α → β → Prop) (res : α → β → Value) : List Value → VW → Res := fun args _ =>
  match args with | [x, y] => (match A.dec x, B.dec y with | some a, some b => .ob (pre a b) (res a b) | _, _ => .bad) | _ => .bad
theorem FnOK.g2p {P : Program} {f : FuncId} {α β : Type} (hc : Callable P f) (A : Dec α) (B : Dec β) (pre : α → β → Prop) (res : α → β → Value) (hpr : ∀ a b, plainR (res a b) = true)
    (h : ∀ a b, pre a b → CallDoes P f [A.enc a, B.enc b] [] fun v _ => v = res a b) : FnOK P f (g2p A B pre res) :=
  FnOK.of hc (fun args V p os v h => by unfold Fil.g2p at h; (repeat' split at h) <;> cases h) fun args V v hg => by
    unfold Fil.g2p at hg
    split at hg
    · rename_i x y
      split at hg
      · rename_i a b ha hb
        rw [Gives.ob_iff] at hg
        obtain ⟨rfl, hp⟩ := hg
        obtain rfl := A.ok _ _ ha
        obtain rfl := B.ok _ _ hb
        exact ⟨by simp [A.plain, B.plain], hpr a b, h a b hp⟩
      · exact (Gives.bad.1 hg).elim
    · exact (Gives.bad.1 hg).elim

theorem tmod_emod (a b : Int) (hb : 0 < b) : (a.tmod b < 0 → a.tmod b + b = a % b) ∧ (¬ a.tmod b < 0 → a.tmod b = a % b) ∧ -b < a.tmod b ∧ a.tmod b < b := by
  have h1 : a = b * a.tdiv b + a.tmod b := (Int.mul_tdiv_add_tmod a b).symm
  have h2 := Int.tmod_lt_of_pos a hb
  have h3 : -b < a.tmod b := by
    have := Int.tmod_lt_of_pos (-a) hb
    rw [Int.neg_tmod] at this
    omega
  have h4 : a % b = a.tmod b % b := by
    conv => lhs; rw [h1]
    rw [Int.add_comm, Int.add_mul_emod_self_left]
  refine ⟨fun h => ?_, fun h => ?_, h3, h2⟩
  · rw [h4, ← Int.add_emod_right, Int.emod_eq_of_lt (by omega) (by omega)]
  · rw [h4, Int.emod_eq_of_lt (by omega) h2]

theorem w64 (n : Int) (h : -9223372036854775808 ≤ n ∧ n ≤ 9223372036854775807) : IntKind.i64.wrap n = n := by rw [IntKind.wrap_i64]; omega

/-- round -/
abbrev rdG := g2p (dInt .i64) (dInt .i64) (fun _ b => 0 < b ∧ b ≤ 1099511627776) fun a b => .int .i64 (a % b)
theorem rd_ok : FnOK Tryz.prog 10 rdG := by
  refine FnOK.g2p (callable Tryz.func10 rfl (by decide +kernel)) _ _ _ _ (fun _ _ => rfl) fun a b ⟨h1, h2⟩ => ?_
  refine of_run (ctxL_ok .nil) (n := 200) Tryz.func10 rfl .l ?_
  refine by_nf (B := bsplit (decide (b < (1 : Int))) (Value.int IntKind.i64 (0 : Int) = Value.int IntKind.i64 (a % b)) ((b = (0 : Int) → False) ∧
    bsplit (decide (a.tmod b < (0 : Int))) (Value.int IntKind.i64 (IntKind.i64.wrap (a.tmod b + b)) = Value.int IntKind.i64 (a % b)) (Value.int IntKind.i64 (a.tmod b) = Value.int IntKind.i64 (a % b)))) (by kernel_rfl) ?_
  obtain ⟨h3, h4, h5, h6⟩ := tmod_emod a b h1
  refine bsplit_iff.2 ⟨fun h => ?_, fun _ => ⟨by omega, bsplit_iff.2 ⟨fun h => ?_, fun h => ?_⟩⟩⟩
  · have : b < 1 := by simpa using h
    omega
  · have h : a.tmod b < 0 := by simpa using h
    rw [w64 _ (by omega), h3 h]
  · have h : ¬ a.tmod b < 0 := by simpa using h
    rw [h4 h]

/-! ### IsName -/
def nmTm (s : ByteArray) (i : Int) : List Value := [.string s, unk, unk, .int .i64 i] ++ List.replicate 24 unk
structure NmAt (s : ByteArray) (k : Nat) (j : Int) : Prop where
  ex : ∃ j' : Nat, j = j' ∧ j' + k = s.size
def nmJ (s : ByteArray) (k : Nat) (S : VSt) : Prop :=
  match nth undef S.tmps 3 with
  | .int .i64 j => leT (nmTm s j) S.tmps ∧ QSt ⟨[], S.V⟩ ⟨[], []⟩ ∧ NmAt s k j
  | _ => False
def nmK (e : Exit) (S : VSt) : Prop :=
  match e with
  | .normal => QSt S ⟨List.replicate 28 unk, []⟩
  | .ret => match nth undef S.tmps 2 with | .bool b => QSt S ⟨[unk, unk, .bool b] ++ List.replicate 25 unk, []⟩ | _ => False
  | _ => False
def nmKs (e : Exit) : List Nat := match e with | .normal => [0, 3] | .ret => [2] | _ => []
def noSel (_ : Exit) (_ : VSt) : List Sel := []
theorem nm_round (s : ByteArray) (hs : s.size ≤ 255) (k j : Nat) (hj : j + k = s.size) :
    Does Tryz.prog (roundOf Tryz.f51 0) ⟨nmTm s j, []⟩ fun e S' => reshape 0 (noSel e S') (nmKs e) [] [] S' (Go.X.roundR 0 (nmJ s) k nmK e) := by
  refine of_code (ctxG_ok (l := []) (cs := []) (bs := []) .nil .nil) (n := 200) .g ?_
  refine by_nf (B := bsplit (decide ((↑j : Int) < (↑s.size : Int))) (((0 : Int) ≤ (↑j : Int) ∧
    (↑j : Int) + (1 : Int) ≤ (↑s.size : Int)) ∧
    bsplit ((↑(strAt s (↑j : Int).toNat) : Int) == (0 : Int)) (QSt { tmps := [unk, unk, Value.bool false, unk, unk, unk, unk, unk, unk, unk, unk, unk, unk, unk, unk, unk, unk, unk, unk, unk, unk, unk, unk, unk, unk, unk, unk, unk], V := [] : VSt } { tmps := [unk, unk, Value.bool false, unk, unk, unk, unk, unk, unk, unk, unk, unk, unk, unk, unk, unk, unk, unk, unk, unk, unk, unk, unk, unk, unk, unk, unk, unk], V := [] : VSt }) (((0 : Int) ≤ (↑j : Int) ∧
    (↑j : Int) + (1 : Int) ≤ (↑s.size : Int)) ∧
    bsplit ((↑(strAt s (↑j : Int).toNat) : Int) == (47 : Int)) (QSt { tmps := [unk, unk, Value.bool false, unk, unk, unk, unk, unk, unk, unk, unk, unk, unk, unk, unk, unk, unk, unk, unk, unk, unk, unk, unk, unk, unk, unk, unk, unk], V := [] : VSt } { tmps := [unk, unk, Value.bool false, unk, unk, unk, unk, unk, unk, unk, unk, unk, unk, unk, unk, unk, unk, unk, unk, unk, unk, unk, unk, unk, unk, unk, unk, unk], V := [] : VSt }) ((k = (0 : Nat) → False) ∧
    (Value.string s = Value.string s ∧
    Value.int IntKind.i64 (IntKind.i64.wrap ((↑j : Int) + (1 : Int))) = Value.int IntKind.i64 (IntKind.i64.wrap ((↑j : Int) + (1 : Int))) ∧
    True) ∧
    QSt { tmps := [], V := [] : VSt } { tmps := [], V := [] : VSt } ∧
    NmAt s (k - (1 : Nat)) (IntKind.i64.wrap ((↑j : Int) + (1 : Int)))))) (QSt { tmps := [unk, unk, unk, unk, unk, unk, unk, unk, unk, unk, unk, unk, unk, unk, unk, unk, unk, unk, unk, unk, unk, unk, unk, unk, unk, unk, unk, unk], V := [] : VSt } { tmps := [unk, unk, unk, unk, unk, unk, unk, unk, unk, unk, unk, unk, unk, unk, unk, unk, unk, unk, unk, unk, unk, unk, unk, unk, unk, unk, unk, unk], V := [] : VSt })) (by kernel_rfl) ?_
  refine bsplit_iff.2 ⟨fun hlt => ?_, fun _ => ⟨rfl⟩⟩
  have hlt : j < s.size := by simpa using hlt
  have hw : IntKind.i64.wrap ((j : Int) + 1) = ((j + 1 : Nat) : Int) := by rw [w64 _ (by omega)]; rfl
  rw [hw]
  refine ⟨⟨by omega, by omega⟩, bsplit_iff.2 ⟨fun _ => ⟨rfl⟩, fun _ => ⟨⟨by omega, by omega⟩, bsplit_iff.2 ⟨fun _ => ⟨rfl⟩, fun _ => ⟨by omega, ⟨rfl, rfl, trivial⟩, ⟨rfl⟩, ⟨j + 1, rfl, by omega⟩⟩⟩⟩⟩⟩

theorem nmJ_eq {s : ByteArray} {k : Nat} {S : VSt} (hJ : nmJ s k S) : ∃ j : Nat, leT (nmTm s j) S.tmps ∧ S.V = [] ∧ j + k = s.size := by
  unfold nmJ at hJ
  split at hJ
  · obtain ⟨h1, ⟨h2⟩, ⟨j, rfl, h3⟩⟩ := hJ
    exact ⟨j, h1, (VSt.mk.inj h2).2, h3⟩
  · exact hJ.elim
def nmB (s : ByteArray) : BlkS := fun S K =>
  reshape S.V.length (noSel .normal S) [0, 3] [] [] S (nmJ s s.size) ∧ S.V.length = 0 ∧ K .normal ⟨List.replicate 28 unk, []⟩ ∧ (∀ b, K .ret ⟨[unk, unk, .bool b] ++ List.replicate 25 unk, []⟩)
theorem nm_loop (s : ByteArray) (hs : s.size ≤ 255) (S : VSt) (K : Exit → VSt → Prop) (hB : nmB s S K) : Does Tryz.prog (.block 0 (.loop (roundOf Tryz.f51 0))) S K := by
  obtain ⟨h1, h2, h3, h4⟩ := hB
  refine Does.mono (Does.loopR (K := nmK) nmKs noSel [] [] (nmJ s) S (reshape_mono (fun S hS => ⟨_, hS⟩) h1) fun k S' hJ => ?_) fun e S' hK => ?_
  · obtain ⟨j, ht, hV, hj⟩ := nmJ_eq hJ
    rw [h2]
    exact Does.weaken (S' := ⟨nmTm s j, []⟩) (nm_round s hs k j hj) ht hV.symm (.of rfl fun k o hk => by simp at hk)
  · cases e with
    | normal => obtain ⟨rfl⟩ := hK; exact h3
    | ret =>
      change (match nth undef S'.tmps 2 with | .bool b => QSt S' ⟨[unk, unk, .bool b] ++ List.replicate 25 unk, []⟩ | _ => False) at hK
      split at hK
      · obtain ⟨rfl⟩ := hK; exact h4 _
      · exact False.elim hK
    | _ => exact False.elim hK
structure IsB (v : Value) : Prop where
  ex : ∃ b, v = .bool b
theorem nm_short (s : ByteArray) (hs : s.size ≤ 255) : CallDoes Tryz.prog 51 [.string s] [] fun v V => IsB v ∧ QSt ⟨[], V⟩ ⟨[], []⟩ := by
  refine of_run (ctxG_ok (l := []) (cs := []) (bs := [(0, nmB s)]) .nil .nil) (n := 200) Tryz.func51 rfl (.one rfl rfl (nm_loop s hs)) ?_
  refine by_nf (B := bsplit (decide ((↑s.size : Int) < (1 : Int))) (IsB (Value.bool false) ∧
    QSt { tmps := [], V := [] : VSt } { tmps := [], V := [] : VSt })
    (bsplit (decide ((↑s.size : Int) > (255 : Int))) (IsB (Value.bool false) ∧
    QSt { tmps := [], V := [] : VSt } { tmps := [], V := [] : VSt }) (((Value.string s = Value.string s ∧
    Value.int IntKind.i64 (0 : Int) = Value.int IntKind.i64 (0 : Int) ∧
    True) ∧
    QSt { tmps := [], V := [] : VSt } { tmps := [], V := [] : VSt } ∧
    NmAt s s.size (0 : Int)) ∧
    (0 : Nat) = (0 : Nat) ∧
    (IsB (Value.bool true) ∧
    QSt { tmps := [], V := [] : VSt } { tmps := [], V := [] : VSt }) ∧
    ∀ (b : Bool), IsB (Value.bool b) ∧
    QSt { tmps := [], V := [] : VSt } { tmps := [], V := [] : VSt }))) (by kernel_rfl) ?_
  exact bsplit_iff.2 ⟨fun _ => ⟨⟨_, rfl⟩, ⟨rfl⟩⟩, fun _ => bsplit_iff.2 ⟨fun _ => ⟨⟨_, rfl⟩, ⟨rfl⟩⟩, fun _ => ⟨⟨⟨rfl, rfl, trivial⟩, ⟨rfl⟩, ⟨0, rfl, by omega⟩⟩, rfl, ⟨⟨_, rfl⟩, ⟨rfl⟩⟩, fun b => ⟨⟨_, rfl⟩, ⟨rfl⟩⟩⟩⟩⟩
theorem nm_long (s : ByteArray) (hs : 255 < s.size) : CallDoes Tryz.prog 51 [.string s] [] fun v V => IsB v ∧ QSt ⟨[], V⟩ ⟨[], []⟩ := by
  refine of_run (ctxG_ok (l := []) (cs := []) (bs := [(0, fun _ _ => False)]) .nil .nil) (n := 200) Tryz.func51 rfl (.one rfl rfl fun _ _ h => h.elim) ?_
  refine by_nf (B := bsplit (decide ((↑s.size : Int) < (1 : Int))) (IsB (Value.bool false) ∧
    QSt { tmps := [], V := [] : VSt } { tmps := [], V := [] : VSt })
    (bsplit (decide ((↑s.size : Int) > (255 : Int))) (IsB (Value.bool false) ∧
    QSt { tmps := [], V := [] : VSt } { tmps := [], V := [] : VSt }) False)) (by kernel_rfl) ?_
  exact bsplit_iff.2 ⟨fun _ => ⟨⟨_, rfl⟩, ⟨rfl⟩⟩, fun _ => bsplit_iff.2 ⟨fun _ => ⟨⟨_, rfl⟩, ⟨rfl⟩⟩, fun h => absurd h (by simp; omega)⟩⟩
def nmT : CallS := fun args V K => match args with | [.string s] => ∀ b, K (.bool b) V | _ => False
theorem nm_ok : CallOK Tryz.prog 51 nmT := by
  refine ⟨callable Tryz.func51 rfl (by decide +kernel), fun args V K hT => ?_⟩
  unfold nmT at hT
  split at hT
  · rename_i s
    refine CallDoes.frame (fun x hx => by simp at hx; subst hx; exact .plain rfl) ?_
    have h : CallDoes Tryz.prog 51 [.string s] [] fun v V => IsB v ∧ QSt ⟨[], V⟩ ⟨[], []⟩ := by
      rcases Nat.lt_or_ge 255 s.size with h | h
      · exact nm_long s h
      · exact nm_short s h
    intro env w hW hsc
    refine (h env w hW hsc).mono ?_
    rintro e w' ⟨u, env', V', v, g1, g2, g3, g4, ⟨b, rfl⟩, ⟨h5⟩⟩
    obtain rfl : V' = [] := (VSt.mk.inj h5).2
    exact ⟨u, env', [], _, g1, g2, g3, g4, (fun o ho => by simp at ho), by simpa [renB] using hT b⟩
  · exact hT.elim
end Go.Fil
