/- The known run in pieces: a new model. -/
import Derived.Test.YtmbkfaongfmieaaGreatFK0
set_option linter.unusedSectionVars false
set_option linter.unusedVariables false
set_option linter.unusedSimpArgs false
set_option maxRecDepth 100000
namespace Go.Fil
open Go Go.X Go.Proofs
variable [WI]
def cfg (i : Nat) (o c : Nat) : List Value := [.slice (some ⟨i, o, some 0⟩) 3 c, .int .i64 1, .int .i64 2, .int .i64 2, .int .i64 4, .int .i64 3]
def V0 : VW := [.cells 26 (cfg 1 0 3), .rows true 3 1 3 3 (nth [] [[.int .i64 3], [.int .i64 9], [.int .i64 5]])]
def sel11 (v : Value) (V : VW) : List Sel :=
  match v with
  | .tuple ⟨[.pointer (some m), _]⟩ =>
    match V[m.block]? with
    | some (.cells _ [.slice (some i) _ _, _, _, _, _, _, .pointer (some r), .map (some b1), .map (some b2)]) =>
      match V[r.block]? with
      | some (.cells _ [.slice (some i2) _ _, _, _, _, _, _, .slice (some p) _ _]) => [.keep 0, .keep 1, .keep m.block, .keep i.block, .keep r.block, .keep b1, .keep b2, .keep p.block, .keep i2.block]
      | _ => []
    | _ => []
  | _ => []
def R3 : List (List Value) := [[.int .i64 3], [.int .i64 5], [.int .i64 9]]
def R6 : List (List Value) := [[.int .i64 894109677, .int .i64 9, .int .i64 1], [.int .i64 1671400896, .int .i64 5, .int .i64 0], [.int .i64 2646907718, .int .i64 3, .int .i64 0], [.int .i64 3238063329, .int .i64 5, .int .i64 1], [.int .i64 3622414540, .int .i64 9, .int .i64 0], [.int .i64 4213570151, .int .i64 3, .int .i64 1]]
def V1 : VW := V0 ++ [.cells 107 (cfg 3 1 0 ++ [.pointer (some ⟨4, 0, none⟩), .map (some 5), .map (some 6)]), .rows true 3 1 3 0 (nth [] R3), .cells 152 (cfg 8 1 0 ++ [.slice (some ⟨7, 1, some 0⟩) 6 0]), .mp [] 0, .mp [] 0, .rows true 155 3 6 0 (nth [] R6), .rows true 3 1 3 0 (nth [] R3)]
structure EqV (v : Value) (V : VW) : Prop where
  val : v = .tuple ⟨[.pointer (some ⟨2, 0, none⟩), .int .i64 0]⟩
  mem : V = V1
def K11 (v : Value) (V : VW) : Prop :=
  match V with
  | [o0, o1, o2, .rows w3 t3 m3 n3 c3 f3, o4, o5, o6, .rows w7 t7 m7 n7 c7 f7, .rows w8 t8 m8 n8 c8 f8] =>
    normRows (normV true 9 6) ((List.range n3).map f3) fun r3 => normRows (normV true 9 6) ((List.range n7).map f7) fun r7 => normRows (normV true 9 6) ((List.range n8).map f8) fun r8 =>
      EqV v [o0, o1, o2, .rows w3 t3 m3 n3 c3 (nth [] r3), o4, o5, o6, .rows w7 t7 m7 n7 c7 (nth [] r7), .rows w8 t8 m8 n8 c8 (nth [] r8)]
  | _ => False

theorem CallDoes.mono1 {P : Program} {f : FuncId} {args : List Value} {V : VW} {K K' : Value → VW → Prop} (hk : ∀ v V, K v V → K' v V) (h : CallDoes P f args V K) : CallDoes P f args V K' := by
  intro env w hW hsc
  refine (h env w hW hsc).mono ?_
  rintro e w' ⟨u, env', V', v, g1, g2, g3, g4, g5⟩
  exact ⟨u, env', V', v, g1, g2, g3, g4, hk _ _ g5⟩
theorem agree_rows {own : Bool} {t m n cap : Nat} {f : Nat → List Value} : AgreeO (.rows own t m n cap f) (.rows own t m n cap (nth [] ((List.range n).map f))) :=
  .rows _ _ _ _ _ _ _ fun r hr => by simp [nth_eq, hr]
theorem K11_ok {v : Value} {V : VW} (h : K11 v V) : ∃ V'', AgreeV V V'' ∧ EqV v V'' := by
  unfold K11 at h
  split at h
  · obtain ⟨_, h⟩ := normRows_spec (normV_spec true 9 6) _ _ h
    obtain ⟨_, h⟩ := normRows_spec (normV_spec true 9 6) _ _ h
    obtain ⟨_, h⟩ := normRows_spec (normV_spec true 9 6) _ _ h
    exact ⟨_, .cons (.same _) (.cons (.same _) (.cons (.same _) (.cons agree_rows (.cons (.same _) (.cons (.same _) (.cons (.same _) (.cons agree_rows (.cons agree_rows .nil)))))))), h⟩
  · exact h.elim

theorem new_does : CallDoes Tryz.prog 11 [.agg ⟨cfg 1 0 3⟩] V0 EqV := by
  refine CallDoes.agree ?_
  refine CallDoes.mono1 (K := K11) (fun v V h => K11_ok h) ?_
  refine CallDoes.reshape sel11 [] [] ?_
  refine of_run (kC_ok 30) (n := 1000000) Tryz.func11 rfl (BlksOK.none fun _ => by rfl) ?_
  refine by_nf (B := True ∧
    True ∧
    True ∧
    True ∧
    True ∧
    True ∧
    True ∧
    Nat.succ (2 : Nat) ≤ (3 : Nat) ∧
    Nat.succ (2 : Nat) ≤ (3 : Nat) ∧
    Nat.succ (1 : Nat) ≤ (3 : Nat) ∧
    ((1 : Nat) ≤ (1 : Nat) ∧
    Nat.succ (0 : Nat) ≤ (1 : Nat) ∧
    fitsN (1 : Nat) (24 : Nat)) ∧
    Value.slice none (0 : Nat) (0 : Nat) = Value.slice none (0 : Nat) (0 : Nat) ∧
    ((1 : Nat) ≤ (1 : Nat) ∧
    (1 : Nat) ≤ (1 : Nat) ∧
    True ∧
    fitsN (2 : Nat) (24 : Nat)) ∧
    ((1 : Nat) ≤ (1 : Nat) ∧
    (2 : Nat) ≤ (2 : Nat) ∧
    True ∧
    fitsN (3 : Nat) (24 : Nat)) ∧
    ((1 : Nat) ≤ (1 : Nat) ∧
    (3 : Nat) ≤ (3 : Nat) ∧
    True ∧
    fitsN (4 : Nat) (24 : Nat)) ∧
    ((1 : Nat) ≤ (1 : Nat) ∧
    (4 : Nat) ≤ (4 : Nat) ∧
    True ∧
    fitsN (5 : Nat) (24 : Nat)) ∧
    ((1 : Nat) ≤ (1 : Nat) ∧
    (5 : Nat) ≤ (5 : Nat) ∧
    True ∧
    fitsN (6 : Nat) (24 : Nat)) ∧
    True ∧
    Nat.succ (2 : Nat) ≤ (6 : Nat) ∧
    Nat.succ (2 : Nat) ≤ (6 : Nat) ∧
    Nat.succ (1 : Nat) ≤ (6 : Nat) ∧
    Nat.succ (1 : Nat) ≤ (6 : Nat) ∧
    Nat.succ (1 : Nat) ≤ (6 : Nat) ∧
    Nat.succ (0 : Nat) ≤ (6 : Nat) ∧
    Nat.succ (3 : Nat) ≤ (6 : Nat) ∧
    Nat.succ (3 : Nat) ≤ (6 : Nat) ∧
    Nat.succ (2 : Nat) ≤ (6 : Nat) ∧
    Nat.succ (4 : Nat) ≤ (6 : Nat) ∧
    Nat.succ (4 : Nat) ≤ (6 : Nat) ∧
    Nat.succ (3 : Nat) ≤ (6 : Nat) ∧
    Nat.succ (5 : Nat) ≤ (6 : Nat) ∧
    Nat.succ (5 : Nat) ≤ (6 : Nat) ∧
    Nat.succ (4 : Nat) ≤ (6 : Nat) ∧
    Nat.succ (4 : Nat) ≤ (6 : Nat) ∧
    Nat.succ (4 : Nat) ≤ (6 : Nat) ∧
    Nat.succ (3 : Nat) ≤ (6 : Nat) ∧
    Nat.succ (3 : Nat) ≤ (6 : Nat) ∧
    Nat.succ (3 : Nat) ≤ (6 : Nat) ∧
    Nat.succ (2 : Nat) ≤ (6 : Nat) ∧
    Nat.succ (2 : Nat) ≤ (6 : Nat) ∧
    Nat.succ (2 : Nat) ≤ (6 : Nat) ∧
    Nat.succ (1 : Nat) ≤ (6 : Nat) ∧
    Nat.succ (1 : Nat) ≤ (6 : Nat) ∧
    Nat.succ (1 : Nat) ≤ (6 : Nat) ∧
    Nat.succ (0 : Nat) ≤ (6 : Nat) ∧
    True ∧
    EqV (Value.tuple { toList := [Value.pointer (some { block := (2 : Nat), off := { block := (263 : Nat), off := (0 : Nat) : Addr }.off : Addr }), Value.int IntKind.i64 (Int.ofNat (0 : Nat))] : Array Value }) [VObj.cells (26 : TypeId) [Value.slice (some { block := (1 : Nat), off := { block := (1 : Nat), off := (0 : Nat), spot := some (0 : Nat) : Addr }.off, spot := some (0 : Nat) : Addr }) (3 : Nat) (3 : Nat), Value.int IntKind.i64 (1 : Int), Value.int IntKind.i64 (2 : Int), Value.int IntKind.i64 (2 : Int), Value.int IntKind.i64 (4 : Int), Value.int IntKind.i64 (3 : Int)], VObj.rows true (3 : TypeId) (1 : Nat) (3 : Nat) (3 : Nat) (nth [] [[Value.int IntKind.i64 (3 : Int)], [Value.int IntKind.i64 (9 : Int)], [Value.int IntKind.i64 (5 : Int)]]), VObj.cells (107 : Nat) [Value.slice (some { block := (3 : Nat), off := { block := (260 : Nat), off := (1 : Nat), spot := some (0 : Nat) : Addr }.off, spot := some (0 : Nat) : Addr }) (3 : Nat) (0 : Nat), Value.int IntKind.i64 (Int.ofNat (1 : Nat)), Value.int IntKind.i64 (Int.ofNat (2 : Nat)), Value.int IntKind.i64 (Int.ofNat (2 : Nat)), Value.int IntKind.i64 (Int.ofNat (4 : Nat)), Value.int IntKind.i64 (Int.ofNat (3 : Nat)), Value.pointer (some { block := (4 : Nat), off := { block := (8 : Nat), off := (0 : Nat) : Addr }.off : Addr }), Value.map (some (5 : Nat)), Value.map (some (6 : Nat))], VObj.rows true (3 : Nat) (1 : Nat) (3 : Nat) (0 : Nat) (nth [] [[Value.int IntKind.i64 (Int.ofNat (3 : Nat))], [Value.int IntKind.i64 (Int.ofNat (5 : Nat))], [Value.int IntKind.i64 (Int.ofNat (9 : Nat))]]), VObj.cells (152 : Nat) [Value.slice (some { block := (8 : Nat), off := { block := (7 : Nat), off := (1 : Nat), spot := some (0 : Nat) : Addr }.off, spot := some (0 : Nat) : Addr }) (3 : Nat) (0 : Nat), Value.int IntKind.i64 (Int.ofNat (1 : Nat)), Value.int IntKind.i64 (Int.ofNat (2 : Nat)), Value.int IntKind.i64 (Int.ofNat (2 : Nat)), Value.int IntKind.i64 (Int.ofNat (4 : Nat)), Value.int IntKind.i64 (Int.ofNat (3 : Nat)), Value.slice (some { block := (7 : Nat), off := { block := (220 : Nat), off := (1 : Nat), spot := some (0 : Nat) : Addr }.off, spot := some (0 : Nat) : Addr }) (6 : Nat) (0 : Nat)], VObj.mp [] (0 : Nat), VObj.mp [] (0 : Nat), VObj.rows true (155 : Nat) (3 : Nat) (6 : Nat) (0 : Nat) (nth [] [[Value.int IntKind.i64 (Int.ofNat (894109677 : Nat)), Value.int IntKind.i64 (Int.ofNat (9 : Nat)), Value.int IntKind.i64 (Int.ofNat (1 : Nat))], [Value.int IntKind.i64 (Int.ofNat (1671400896 : Nat)), Value.int IntKind.i64 (Int.ofNat (5 : Nat)), Value.int IntKind.i64 (Int.ofNat (0 : Nat))], [Value.int IntKind.i64 (Int.ofNat (2646907718 : Nat)), Value.int IntKind.i64 (Int.ofNat (3 : Nat)), Value.int IntKind.i64 (Int.ofNat (0 : Nat))], [Value.int IntKind.i64 (Int.ofNat (3238063329 : Nat)), Value.int IntKind.i64 (Int.ofNat (5 : Nat)), Value.int IntKind.i64 (Int.ofNat (1 : Nat))], [Value.int IntKind.i64 (Int.ofNat (3622414540 : Nat)), Value.int IntKind.i64 (Int.ofNat (9 : Nat)), Value.int IntKind.i64 (Int.ofNat (0 : Nat))], [Value.int IntKind.i64 (Int.ofNat (4213570151 : Nat)), Value.int IntKind.i64 (Int.ofNat (3 : Nat)), Value.int IntKind.i64 (Int.ofNat (1 : Nat))]]), VObj.rows true (3 : Nat) (1 : Nat) (3 : Nat) (0 : Nat) (nth [] [[Value.int IntKind.i64 (Int.ofNat (3 : Nat))], [Value.int IntKind.i64 (Int.ofNat (5 : Nat))], [Value.int IntKind.i64 (Int.ofNat (9 : Nat))]])]) (by kernel_rfl) ?_
  repeat' apply And.intro
  all_goals first | trivial | rfl | decide | exact ⟨by decide, by decide⟩ | exact ⟨rfl, rfl⟩
end Go.Fil
