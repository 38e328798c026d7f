/- Is a configuration right? The reference's Is and the program's right answer alike. -/
import Derived.Test.YtgnhcoefocbmpaaGreatNK0
set_option linter.unusedSimpArgs false
set_option linter.unusedVariables false
set_option linter.unusedSectionVars false
set_option maxRecDepth 100000
namespace Go.Msg
open Go Go.X Go.Proofs
variable [WI]
noncomputable def c0 : Ctx := ctxG [] [] []
theorem c0_ok : CtxOK Tryz.prog c0 := ctxG_ok .nil .nil
theorem c0_inl (f : Nat) (fn : Func) (n : Nat) (c : Code) (hf : Tryz.prog.funcs[f]? = some fn) (hb : fn.body = some c) (hn : (fn.name == "runtime.NumGoroutine") = false) : CallOK Tryz.prog f (inl Tryz.prog c0 n fn) :=
  inl_ok c0_ok n ⟨fn, hf, by rw [hb]; rfl, hn⟩ hf hb (BlksOK.none fun _ => rfl)
theorem CallDoes.mono1 {P : Program} {f : FuncId} {args : List Value} {V : VW} {K K' : Value → VW → Prop} (hk : ∀ v V, K v V → K' v V) (h : CallDoes P f args V K) : CallDoes P f args V K' := by
  intro env w hW hsc
  refine (h env w hW hsc).mono ?_
  rintro e w' ⟨u, env', V', v, g1, g2, g3, g4, g5⟩
  exact ⟨u, env', V', v, g1, g2, g3, g4, hk _ _ g5⟩
structure VEq (V V' : VW) : Prop where
  eq : V = V'
/-- a configuration -/
structure Cf where
  n : Nat
  s : Nat → Int
  F : Int
  P : Int
  B : Int
  L : Int
  R : Int
def SrvOk (n : Nat) (s : Nat → Int) : Prop := ∀ i, i < n → (1 ≤ s i ∧ s i ≤ 255) ∧ ∀ k, k < i → s k ≠ s i
structure Cf.Ok (c : Cf) : Prop where
  F : 0 ≤ c.F ∧ c.F ≤ 3
  n : 2 * c.F + 1 ≤ c.n ∧ c.n ≤ 64
  s : SrvOk c.n c.s
  P : 1 ≤ c.P ∧ c.P ≤ 64
  B : 1 ≤ c.B ∧ c.B ≤ 256
  L : 1 ≤ c.L ∧ c.L ≤ 4096
  R : 1 ≤ c.R ∧ c.R ≤ 256
open Classical in
noncomputable def Cf.ok (c : Cf) : Bool := decide c.Ok
theorem Cf.ok_iff {c : Cf} : c.ok = true ↔ c.Ok := by simp [Cf.ok]
theorem Cf.ok_of {c : Cf} {b : Bool} (h : b = true ↔ c.Ok) : b = c.ok := by
  rw [← Cf.ok_iff] at h
  exact Bool.eq_iff_iff.2 h
def Cf.srv (c : Cf) (p : Nat) : Value := .slice (some ⟨p, 3, some 0⟩) c.n 0
def Cf.cells (c : Cf) (p : Nat) : List Value := [c.srv p, .int .i64 c.F, .int .i64 c.P, .int .i64 c.B, .int .i64 c.L, .int .i64 c.R]
def Cf.V (c : Cf) : VObj := .arg 3 1 c.n fun r => [.int .i64 (c.s r)]
/-- how often a number is among the first -/
def cnt (s : Nat → Int) : Nat → Int → Int
  | 0, _ => 0
  | j + 1, x => cnt s j x + if s j = x then 1 else 0
theorem cnt_le (s : Nat → Int) (x : Int) : ∀ j, 0 ≤ cnt s j x ∧ cnt s j x ≤ j
  | 0 => by simp [cnt]
  | j + 1 => by
    have := cnt_le s x j
    unfold cnt
    split <;> omega
theorem cnt_pos {s : Nat → Int} {x : Int} : ∀ {j}, 0 < cnt s j x → ∃ k, k < j ∧ s k = x
  | 0, h => by simp [cnt] at h
  | j + 1, h => by
    unfold cnt at h
    split at h
    · exact ⟨j, by omega, ‹_›⟩
    · obtain ⟨k, h1, h2⟩ := cnt_pos (s := s) (x := x) (j := j) (by omega)
      exact ⟨k, by omega, h2⟩
theorem pos_cnt {s : Nat → Int} {x : Int} {k : Nat} (h : s k = x) : ∀ {j}, k < j → 0 < cnt s j x
  | 0, h => by omega
  | j + 1, hk => by
    unfold cnt
    have := cnt_le s x j
    rcases Nat.lt_or_ge k j with h1 | h1
    · have h2 := pos_cnt (s := s) h h1
      by_cases h3 : s j = x
      · rw [if_pos h3]; omega
      · rw [if_neg h3]; omega
    · obtain rfl : k = j := by omega
      rw [if_pos h]; omega
theorem cnt_succ (s : Nat → Int) (j : Nat) (h : j < 64) : updQ (cnt s j) (s j) (IntKind.i64.wrap (cnt s j (s j) + 1)) = cnt s (j + 1) := by
  funext x
  have := cnt_le s (s j) j
  unfold updQ
  rw [w64 _ (by omega)]
  conv => rhs; unfold cnt
  split
  · rename_i h; subst h; rw [if_pos rfl]
  · rename_i h; rw [if_neg (fun e => h e.symm)]; simp

/-! ### ring.right -/
def rTm (c : Cf) (i : Int) : List Value := [unk, unk, unk, .func (.func 215) ⟨[]⟩ ⟨[]⟩, .map (some 2)] ++ List.replicate 47 unk ++ [c.srv 0, .int .i64 c.n, .int .i64 i] ++ List.replicate 18 unk
def rV (c : Cf) (g : Int → Int) : VW := [c.V, .cells 24 (c.cells 0), .mq g]
structure RAt (c : Cf) (k : Nat) : Prop where
  le : k ≤ c.n
  n : c.n ≤ 64
  ok : SrvOk (c.n - k) c.s
def rJ (c : Cf) (k : Nat) (S : VSt) : Prop := leT (rTm c (c.n - k : Nat)) S.tmps ∧ VEq S.V (rV c (cnt c.s (c.n - k))) ∧ RAt c k
def rK (c : Cf) (e : Exit) (S : VSt) : Prop :=
  match e with
  | .normal => QSt S ⟨List.replicate 73 unk, [c.V, .dead, .dead]⟩ ∧ Is (SrvOk c.n c.s)
  | .ret => QSt S ⟨[unk, unk, .bool false] ++ List.replicate 70 unk, [c.V, .dead, .dead]⟩ ∧ Is (¬ SrvOk c.n c.s)
  | _ => False
def rKs (e : Exit) : List Nat := match e with | .normal => [3, 4, 52, 53, 54] | .ret => [2] | _ => []
def rSel (e : Exit) (_ : VSt) : List Sel := match e with | .normal => [.keep 0, .keep 1, .keep 2] | _ => [.keep 0, .drop 1, .drop 2]
noncomputable def cW : Ctx := ctxG [] [(215, inl Tryz.prog c0 300 Tryz.f215)] []
theorem wAll : AllC Tryz.prog [(215, inl Tryz.prog c0 300 Tryz.f215)] := .cons (c0_inl 215 _ 300 _ Tryz.func215 rfl (by decide +kernel)) .nil
theorem r_round (c : Cf) (k j : Nat) (hj : j + k = c.n) (hA : RAt c k) :
    Does Tryz.prog (roundOf Tryz.f194 0) ⟨rTm c j, rV c (cnt c.s j)⟩ fun e S' => reshape 3 (rSel e S') (rKs e) [] [] S' (roundR 0 (rJ c) k (rK c) e) := by
  refine of_code (ctxG_ok .nil wAll) (n := 300) .g ?_
  refine by_nf (B := bsplit (decide ((↑j : Int) < (↑c.n : Int))) (((0 : Int) ≤ (↑j : Int) ∧
    (↑j : Int) + (1 : Int) ≤ (↑c.n : Int) ∧
    (0 : Nat) + c.n ≤ c.n) ∧
    ((0 : Nat) + (↑j : Int).toNat).succ ≤ c.n ∧
    bsplit (decide (c.s ((0 : Nat) + (↑j : Int).toNat) ≥ (1 : Int)))
    (bsplit (!decide (c.s ((0 : Nat) + (↑j : Int).toNat) ≤ (255 : Int))) (QSt { tmps := ([unk, unk, Value.bool false] ++ List.replicate 70 unk), V := [VObj.arg (3 : TypeId) (1 : Nat) c.n fun r => [Value.int IntKind.i64 (c.s r)], VObj.dead, VObj.dead] : VSt } { tmps := ([unk, unk, Value.bool false] ++ List.replicate 70 unk), V := [VObj.arg (3 : TypeId) (1 : Nat) c.n fun r => [Value.int IntKind.i64 (c.s r)], VObj.dead, VObj.dead] : VSt } ∧
    Is ¬SrvOk c.n c.s) (True ∧
    bsplit (decide (cnt c.s j (c.s ((0 : Nat) + (↑j : Int).toNat)) > (0 : Int))) (QSt { tmps := ([unk, unk, Value.bool false] ++ List.replicate 70 unk), V := [VObj.arg (3 : TypeId) (1 : Nat) c.n fun r => [Value.int IntKind.i64 (c.s r)], VObj.dead, VObj.dead] : VSt } { tmps := ([unk, unk, Value.bool false] ++ List.replicate 70 unk), V := [VObj.arg (3 : TypeId) (1 : Nat) c.n fun r => [Value.int IntKind.i64 (c.s r)], VObj.dead, VObj.dead] : VSt } ∧
    Is ¬SrvOk c.n c.s) (True ∧
    (k = (0 : Nat) → False) ∧
    (Value.func (Fn.func (215 : FuncId)) { toList := [] : Array Value } { toList := [] : Array Value } = Value.func (Fn.func (215 : FuncId)) { toList := [] : Array Value } { toList := [] : Array Value } ∧
    Value.map (some (2 : Nat)) = Value.map (some (2 : Nat)) ∧
    Value.slice (some ⟨0, 3, some 0⟩) c.n (0 : Nat) = Value.slice (some ⟨0, 3, some 0⟩) c.n (0 : Nat) ∧
    Value.int IntKind.i64 (↑c.n : Int) = Value.int IntKind.i64 (↑c.n : Int) ∧
    Value.int IntKind.i64 (↑(c.n - (k - (1 : Nat))) : Int) = Value.int IntKind.i64 (IntKind.i64.wrap ((↑j : Int) + (1 : Int))) ∧
    True) ∧
    VEq [VObj.arg (3 : TypeId) (1 : Nat) c.n fun r => [Value.int IntKind.i64 (c.s r)], VObj.cells (24 : TypeId) [Value.slice (some ⟨0, 3, some 0⟩) c.n (0 : Nat), Value.int IntKind.i64 c.F, Value.int IntKind.i64 c.P, Value.int IntKind.i64 c.B, Value.int IntKind.i64 c.L, Value.int IntKind.i64 c.R], VObj.mq (updQ (cnt c.s j) (c.s ((0 : Nat) + (↑j : Int).toNat)) (IntKind.i64.wrap (cnt c.s j (c.s ((0 : Nat) + (↑j : Int).toNat)) + (1 : Int))))] [VObj.arg (3 : TypeId) (1 : Nat) c.n fun r => [Value.int IntKind.i64 (c.s r)], VObj.cells (24 : TypeId) [Value.slice (some ⟨0, 3, some 0⟩) c.n (0 : Nat), Value.int IntKind.i64 c.F, Value.int IntKind.i64 c.P, Value.int IntKind.i64 c.B, Value.int IntKind.i64 c.L, Value.int IntKind.i64 c.R], VObj.mq (cnt c.s (c.n - (k - (1 : Nat))))] ∧
    RAt c (k - (1 : Nat))))) (QSt { tmps := ([unk, unk, Value.bool false] ++ List.replicate 70 unk), V := [VObj.arg (3 : TypeId) (1 : Nat) c.n fun r => [Value.int IntKind.i64 (c.s r)], VObj.dead, VObj.dead] : VSt } { tmps := ([unk, unk, Value.bool false] ++ List.replicate 70 unk), V := [VObj.arg (3 : TypeId) (1 : Nat) c.n fun r => [Value.int IntKind.i64 (c.s r)], VObj.dead, VObj.dead] : VSt } ∧
    Is ¬SrvOk c.n c.s)) (QSt { tmps := (List.replicate 73 unk), V := [VObj.arg (3 : TypeId) (1 : Nat) c.n fun r => [Value.int IntKind.i64 (c.s r)], VObj.dead, VObj.dead] : VSt } { tmps := (List.replicate 73 unk), V := [VObj.arg (3 : TypeId) (1 : Nat) c.n fun r => [Value.int IntKind.i64 (c.s r)], VObj.dead, VObj.dead] : VSt } ∧
    Is (SrvOk c.n c.s))) (by kernel_rfl) ?_
  obtain ⟨h1, h2, h3⟩ := hA
  rw [show c.n - k = j by omega] at h3
  have hcj := cnt_le c.s (c.s j) j
  have e0 : (0 : Nat) + (j : Int).toNat = j := by omega
  have hS : ∀ {p : Prop}, (j < c.n → ¬ p) → (j < c.n → SrvOk c.n c.s → p) → (j < c.n) → ¬ SrvOk c.n c.s := fun a b h hs => a h (b h hs)
  refine bsplit_iff.2 ⟨fun hlt => ?_, fun hge => ?_⟩
  · have hlt : j < c.n := by simpa using hlt
    rw [e0]
    refine ⟨⟨by omega, by omega, by omega⟩, by omega, bsplit_iff.2 ⟨fun g1 => ?_, fun g1 => ⟨⟨rfl⟩, ⟨fun hs => ?_⟩⟩⟩⟩
    · have g1 : c.s j ≥ 1 := by simpa using g1
      refine bsplit_iff.2 ⟨fun g2 => ⟨⟨rfl⟩, ⟨fun hs => ?_⟩⟩, fun g2 => ⟨trivial, bsplit_iff.2 ⟨fun g3 => ⟨⟨rfl⟩, ⟨fun hs => ?_⟩⟩, fun g3 => ⟨trivial, fun hk => ?_, ⟨rfl, rfl, rfl, rfl, ?_, trivial⟩, ⟨?_⟩, ⟨by omega, h2, ?_⟩⟩⟩⟩⟩
      · have := (hs j hlt).1
        have g2 : ¬ c.s j ≤ 255 := by simpa using g2
        omega
      · have g3 : cnt c.s j (c.s j) > 0 := by simpa using g3
        obtain ⟨q, hq1, hq2⟩ := cnt_pos g3
        exact (hs j hlt).2 q hq1 hq2
      · omega
      · have e : IntKind.i64.wrap ((j : Int) + 1) = ((c.n - (k - 1) : Nat) : Int) := by
          rw [w64 _ (by omega)]; omega
        rw [e]
      · rw [show c.n - (k - 1) = j + 1 by omega, ← cnt_succ c.s j (by omega)]
      · rw [show c.n - (k - 1) = j + 1 by omega]
        intro q hq
        rcases Nat.lt_or_ge q j with hqj | hqj
        · exact h3 q hqj
        · obtain rfl : q = j := by omega
          have g2 : c.s q ≤ 255 := by simpa using g2
          have g3 : ¬ cnt c.s q (c.s q) > 0 := by simpa using g3
          exact ⟨⟨g1, g2⟩, fun r hr he => g3 (pos_cnt he hr)⟩
    · have := (hs j hlt).1
      have g1 : ¬ c.s j ≥ 1 := by simpa using g1
      omega
  · have hge : ¬ j < c.n := by simpa using hge
    obtain rfl : j = c.n := by omega
    exact ⟨⟨rfl⟩, ⟨h3⟩⟩
/-- the loop of right -/
def rB (c : Cf) : BlkS := fun S K => asQ 2 S fun S1 => reshape S1.V.length (rSel .normal S1) (rKs .normal) [] [] S1 (rJ c c.n) ∧ S1.V.length = 3 ∧
  (Is (SrvOk c.n c.s) → K .normal ⟨List.replicate 73 unk, [c.V, .dead, .dead]⟩) ∧ (Is (¬ SrvOk c.n c.s) → K .ret ⟨[unk, unk, .bool false] ++ List.replicate 70 unk, [c.V, .dead, .dead]⟩)
theorem asQ_mono {q : Nat} {S : VSt} {k k' : VSt → Prop} (hk : ∀ S, k S → k' S) (h : asQ q S k) : asQ q S k' := by
  unfold asQ at h ⊢
  split at h
  · rw [setK_eq] at h ⊢; exact hk _ h
  · exact hk _ h
theorem r_loop (c : Cf) (S : VSt) (K : Exit → VSt → Prop) (hB : rB c S K) : Does Tryz.prog (.block 0 (.loop (roundOf Tryz.f194 0))) S K := by
  refine Does.qIn 2 (asQ_mono (fun S hB => ?_) hB)
  obtain ⟨h1, h2, h3, h4⟩ := hB
  refine Does.mono (Does.loopR (K := rK c) rKs rSel [] [] (rJ c) S (reshape_mono (fun S hS => ⟨_, hS⟩) h1) fun k S' hJ => ?_) fun e S' hK => ?_
  · obtain ⟨ht, ⟨hV⟩, hA⟩ := hJ
    rw [h2]
    have hle := hA.le
    exact Does.weaken (r_round c k (c.n - k) (by omega) hA) ht hV.symm (.of rfl fun i o hi => by
      match i, hi with
      | 0, hi => cases hi; trivial
      | 1, hi => cases hi; exact fun v hv => scB_ok 6 v (List.all_eq_true.1 (show (c.cells 0).all (scB 3 6) = true from rfl) v hv)
      | 2, hi => cases hi; trivial)
  · cases e with
    | normal => obtain ⟨⟨rfl⟩, hs⟩ := hK; exact h3 hs
    | ret => obtain ⟨⟨rfl⟩, hs⟩ := hK; exact h4 hs
    | _ => exact False.elim hK
structure BoolV (b : Bool) (v : Value) : Prop where
  eq : v = .bool b
def selA (_ : Value) (_ : VW) : List Sel := [.keep 0]
theorem right_does (c : Cf) : CallDoes Tryz.prog 194 [.agg ⟨c.cells 0⟩] [c.V] fun v V => BoolV c.ok v ∧ VEq V [c.V] := by
  refine CallDoes.reshape selA [] [] ?_
  refine of_run (ctxG_ok (l := []) (bs := [(0, rB c)]) .nil wAll) (n := 300) Tryz.func194 rfl (.one rfl rfl (r_loop c)) ?_
  refine by_nf (B := bsplit (decide (c.F ≥ (0 : Int)))
    (bsplit (!decide (c.F ≤ (3 : Int))) (BoolV c.ok (Value.bool false) ∧
    VEq [VObj.arg (3 : TypeId) (1 : Nat) c.n fun r => [Value.int IntKind.i64 (c.s r)]] [VObj.arg (3 : TypeId) (1 : Nat) c.n fun r => [Value.int IntKind.i64 (c.s r)]])
    (bsplit (decide (c.P ≥ (1 : Int)))
    (bsplit (!decide (c.P ≤ (64 : Int))) (BoolV c.ok (Value.bool false) ∧
    VEq [VObj.arg (3 : TypeId) (1 : Nat) c.n fun r => [Value.int IntKind.i64 (c.s r)]] [VObj.arg (3 : TypeId) (1 : Nat) c.n fun r => [Value.int IntKind.i64 (c.s r)]])
    (bsplit (decide (c.B ≥ (1 : Int)))
    (bsplit (!decide (c.B ≤ (256 : Int))) (BoolV c.ok (Value.bool false) ∧
    VEq [VObj.arg (3 : TypeId) (1 : Nat) c.n fun r => [Value.int IntKind.i64 (c.s r)]] [VObj.arg (3 : TypeId) (1 : Nat) c.n fun r => [Value.int IntKind.i64 (c.s r)]])
    (bsplit (decide (c.L ≥ (1 : Int)))
    (bsplit (!decide (c.L ≤ (4096 : Int))) (BoolV c.ok (Value.bool false) ∧
    VEq [VObj.arg (3 : TypeId) (1 : Nat) c.n fun r => [Value.int IntKind.i64 (c.s r)]] [VObj.arg (3 : TypeId) (1 : Nat) c.n fun r => [Value.int IntKind.i64 (c.s r)]])
    (bsplit (decide (c.R ≥ (1 : Int)))
    (bsplit (!decide (c.R ≤ (256 : Int))) (BoolV c.ok (Value.bool false) ∧
    VEq [VObj.arg (3 : TypeId) (1 : Nat) c.n fun r => [Value.int IntKind.i64 (c.s r)]] [VObj.arg (3 : TypeId) (1 : Nat) c.n fun r => [Value.int IntKind.i64 (c.s r)]])
    (bsplit (decide ((↑c.n : Int) ≥ IntKind.i64.wrap (IntKind.i64.wrap ((2 : Int) * c.F) + (1 : Int))))
    (bsplit (!decide ((↑c.n : Int) ≤ (64 : Int))) (BoolV c.ok (Value.bool false) ∧
    VEq [VObj.arg (3 : TypeId) (1 : Nat) c.n fun r => [Value.int IntKind.i64 (c.s r)]] [VObj.arg (3 : TypeId) (1 : Nat) c.n fun r => [Value.int IntKind.i64 (c.s r)]]) (((Value.func (Fn.func (215 : FuncId)) { toList := [] : Array Value } { toList := [] : Array Value } = Value.func (Fn.func (215 : Nat)) { toList := [] : Array Value } { toList := [] : Array Value } ∧
    Value.map (some (2 : Nat)) = Value.map (some (2 : Nat)) ∧
    Value.slice (some ⟨0, 3, some 0⟩) c.n (0 : Nat) = Value.slice (some ⟨0, 3, some 0⟩) c.n (0 : Nat) ∧
    Value.int IntKind.i64 (↑c.n : Int) = Value.int IntKind.i64 (↑c.n : Int) ∧
    Value.int IntKind.i64 (↑(c.n - c.n) : Int) = Value.int IntKind.i64 (0 : Int) ∧
    True) ∧
    VEq [VObj.arg (3 : TypeId) (1 : Nat) c.n fun r => [Value.int IntKind.i64 (c.s r)], VObj.cells (24 : Nat) [Value.slice (some ⟨0, 3, some 0⟩) c.n (0 : Nat), Value.int IntKind.i64 c.F, Value.int IntKind.i64 c.P, Value.int IntKind.i64 c.B, Value.int IntKind.i64 c.L, Value.int IntKind.i64 c.R], VObj.mq fun x => (0 : Int)] [VObj.arg (3 : TypeId) (1 : Nat) c.n fun r => [Value.int IntKind.i64 (c.s r)], VObj.cells (24 : TypeId) [Value.slice (some ⟨0, 3, some 0⟩) c.n (0 : Nat), Value.int IntKind.i64 c.F, Value.int IntKind.i64 c.P, Value.int IntKind.i64 c.B, Value.int IntKind.i64 c.L, Value.int IntKind.i64 c.R], VObj.mq (cnt c.s (c.n - c.n))] ∧
    RAt c c.n) ∧
    (3 : Nat) = (3 : Nat) ∧
    (Is (SrvOk c.n c.s) → BoolV c.ok (Value.bool true) ∧
    VEq [VObj.arg (3 : TypeId) (1 : Nat) c.n fun r => [Value.int IntKind.i64 (c.s r)]] [VObj.arg (3 : TypeId) (1 : Nat) c.n fun r => [Value.int IntKind.i64 (c.s r)]]) ∧
    (Is ¬SrvOk c.n c.s → BoolV c.ok (Value.bool false) ∧
    VEq [VObj.arg (3 : TypeId) (1 : Nat) c.n fun r => [Value.int IntKind.i64 (c.s r)]] [VObj.arg (3 : TypeId) (1 : Nat) c.n fun r => [Value.int IntKind.i64 (c.s r)]]))) (BoolV c.ok (Value.bool false) ∧
    VEq [VObj.arg (3 : TypeId) (1 : Nat) c.n fun r => [Value.int IntKind.i64 (c.s r)]] [VObj.arg (3 : TypeId) (1 : Nat) c.n fun r => [Value.int IntKind.i64 (c.s r)]]))) (BoolV c.ok (Value.bool false) ∧
    VEq [VObj.arg (3 : TypeId) (1 : Nat) c.n fun r => [Value.int IntKind.i64 (c.s r)]] [VObj.arg (3 : TypeId) (1 : Nat) c.n fun r => [Value.int IntKind.i64 (c.s r)]]))) (BoolV c.ok (Value.bool false) ∧
    VEq [VObj.arg (3 : TypeId) (1 : Nat) c.n fun r => [Value.int IntKind.i64 (c.s r)]] [VObj.arg (3 : TypeId) (1 : Nat) c.n fun r => [Value.int IntKind.i64 (c.s r)]]))) (BoolV c.ok (Value.bool false) ∧
    VEq [VObj.arg (3 : TypeId) (1 : Nat) c.n fun r => [Value.int IntKind.i64 (c.s r)]] [VObj.arg (3 : TypeId) (1 : Nat) c.n fun r => [Value.int IntKind.i64 (c.s r)]]))) (BoolV c.ok (Value.bool false) ∧
    VEq [VObj.arg (3 : TypeId) (1 : Nat) c.n fun r => [Value.int IntKind.i64 (c.s r)]] [VObj.arg (3 : TypeId) (1 : Nat) c.n fun r => [Value.int IntKind.i64 (c.s r)]]))) (BoolV c.ok (Value.bool false) ∧
    VEq [VObj.arg (3 : TypeId) (1 : Nat) c.n fun r => [Value.int IntKind.i64 (c.s r)]] [VObj.arg (3 : TypeId) (1 : Nat) c.n fun r => [Value.int IntKind.i64 (c.s r)]])) (by kernel_rfl) ?_
  have no : ¬ c.Ok → BoolV c.ok (.bool false) ∧ VEq [VObj.arg (3 : TypeId) (1 : Nat) c.n fun r => [Value.int IntKind.i64 (c.s r)]] [VObj.arg (3 : TypeId) (1 : Nat) c.n fun r => [Value.int IntKind.i64 (c.s r)]] :=
    fun h => ⟨⟨by rw [← Cf.ok_of (b := false)]; simpa using h⟩, ⟨rfl⟩⟩
  refine bsplit_iff.2 ⟨fun g1 => bsplit_iff.2 ⟨fun g2 => no ?_, fun g2 => bsplit_iff.2 ⟨fun g3 => bsplit_iff.2 ⟨fun g4 => no ?_, fun g4 => bsplit_iff.2 ⟨fun g5 => bsplit_iff.2 ⟨fun g6 => no ?_, fun g6 => bsplit_iff.2
    ⟨fun g7 => bsplit_iff.2 ⟨fun g8 => no ?_, fun g8 => bsplit_iff.2 ⟨fun g9 => bsplit_iff.2 ⟨fun g10 => no ?_, fun g10 => ?m⟩, fun g9 => no ?_⟩⟩, fun g7 => no ?_⟩⟩, fun g5 => no ?_⟩⟩, fun g3 => no ?_⟩⟩, fun g1 => no ?_⟩
  case m =>
    simp only [Bool.not_eq_true', Bool.not_eq_false', decide_eq_true_eq, decide_eq_false_iff_not, ge_iff_le] at g1 g2 g3 g4 g5 g6 g7 g8 g9 g10
    rw [w64 (2 * c.F) (by omega), w64 _ (by omega)]
    refine bsplit_iff.2 ⟨fun g11 => bsplit_iff.2 ⟨fun g12 => no fun ok => ?_, fun g12 => ⟨⟨⟨rfl, rfl, rfl, rfl, by simp, trivial⟩, ⟨by simp; rfl⟩, ⟨Nat.le_refl _, ?_, fun i hi => by omega⟩⟩, rfl, fun ⟨hs⟩ => ⟨⟨?_⟩, ⟨rfl⟩⟩, fun ⟨hs⟩ => no fun ok => hs ok.s⟩⟩, fun g11 => no fun ok => ?_⟩
    · have := ok.n
      simp at g12; omega
    · simp at g12; omega
    · rw [← Cf.ok_of (b := true)]
      simp at g11 g12
      exact ⟨fun _ => ⟨by omega, by omega, hs, by omega, by omega, by omega, by omega⟩, fun _ => rfl⟩
    · have := ok.n
      simp at g11; omega
  all_goals
    simp only [Bool.not_eq_true', Bool.not_eq_false', decide_eq_true_eq, decide_eq_false_iff_not, ge_iff_le] at *
    intro ok
    obtain ⟨_, _, _, _, _, _, _⟩ := ok
    omega
def vkV (F P B L R : Int) (n : Nat) (f : Nat → List Value) : Cf := ⟨n, fun r => match f r with | [.int .i64 x] => x | _ => 0, F, P, B, L, R⟩
/-- rows of numbers -/
def IntsF (n : Nat) (f : Nat → List Value) : Prop := ∀ r, r < n → f r = [.int .i64 (match f r with | [.int .i64 x] => x | _ => 0)]
def okT : CallS := fun args V K => match args, V with
  | [.agg ⟨[.slice (some ⟨0, 3, some 0⟩) n 0, .int .i64 F, .int .i64 P, .int .i64 B, .int .i64 L, .int .i64 R]⟩], [.arg 3 1 N f] => Is (n = N ∧ IntsF n f) ∧ K (.bool (vkV F P B L R n f).ok) [.arg 3 1 N f]
  | _, _ => False
theorem ok_of_does {g : FuncId} (hc : Callable Tryz.prog g) (h : ∀ c : Cf, CallDoes Tryz.prog g [.agg ⟨c.cells 0⟩] [c.V] fun v V => BoolV c.ok v ∧ VEq V [c.V]) : CallOK Tryz.prog g okT := by
  refine ⟨hc, fun args V K hT => ?_⟩
  unfold okT at hT
  split at hT
  · rename_i n F P B L R N f
    obtain ⟨⟨rfl, hi⟩, hK⟩ := hT
    refine CallDoes.argV (V2 := [(vkV F P B L R n f).V]) (.cons (.arg 3 1 n f _ fun r hr => hi r hr) .nil) ?_
    refine CallDoes.mono1 (fun v V hv => ?_) (h (vkV F P B L R n f))
    obtain ⟨⟨rfl⟩, ⟨rfl⟩⟩ := hv
    exact ⟨_, .cons (.arg 3 1 n _ f fun r hr => (hi r hr).symm) .nil, hK⟩
  · exact hT.elim
theorem right_ok : CallOK Tryz.prog 194 okT := ok_of_does (callable Tryz.func194 rfl (by decide +kernel)) right_does
end Go.Msg
