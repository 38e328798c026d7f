/- A part of a proof: what is proved here is said at each theorem; it holds without any condition but those that the theorem names. -/
import Derived.Test.YtkjncodnmceilaaXS10
import Derived.Test.YtkjncodnmceilaaProg
set_option linter.unusedSimpArgs false
set_option linter.unusedVariables false
namespace Go.Shn
open Go Go.X Go.Proofs

/-- closed numbers; no function and no loop is known -/
def ctxC : Ctx := ⟨true, fun _ => none, fun _ => none, fun _ => none⟩
theorem ctxC_ok {P : Program} : CtxOK P ctxC := ⟨fun f g h => (nomatch h), fun f T h => (nomatch h)⟩
theorem BlksOK.c {P : Program} {c : Code} : BlksOK P ctxC c := BlksOK.none fun _ => rfl

def errTab (n : Int) : Option ByteArray :=
  if n = 200 then some ⟨#[119, 111, 114, 100]⟩ else if n = 133 then some ⟨#[98, 117, 115, 121]⟩ else if n = 150 then some ⟨#[112, 97, 99, 107, 101, 116]⟩ else if n = 151 then some ⟨#[97, 100, 100, 114]⟩ else
  if n = 0 then some ⟨#[111, 107]⟩ else none
theorem callable10 : Callable Try.prog 10 := ⟨_, Try.func10, rfl, by decide +kernel⟩
theorem err200 : CallDoes Try.prog 10 [.int .i64 200] [] fun v _ => v = .string ⟨#[119, 111, 114, 100]⟩ := by
  refine of_run ctxC_ok (n := 200) Try.func10 rfl BlksOK.c ?_
  refine by_nf (B := ((0 : Int) ≤ Int.ofNat (0 : Nat) ∧
    Int.ofNat (0 : Nat) + (1 : Int) ≤ (↑(32 : Nat) : Int)) ∧
    ((0 : Int) ≤ Int.ofNat (1 : Nat) ∧
    Int.ofNat (1 : Nat) + (1 : Int) ≤ (↑(32 : Nat) : Int)) ∧
    ((0 : Int) ≤ Int.ofNat (2 : Nat) ∧
    Int.ofNat (2 : Nat) + (1 : Int) ≤ (↑(32 : Nat) : Int)) ∧
    ((0 : Int) ≤ Int.ofNat (3 : Nat) ∧
    Int.ofNat (3 : Nat) + (1 : Int) ≤ (↑(32 : Nat) : Int)) ∧
    ((0 : Int) ≤ Int.ofNat (4 : Nat) ∧
    Int.ofNat (4 : Nat) + (1 : Int) ≤ (↑(32 : Nat) : Int)) ∧
    ((0 : Int) ≤ Int.ofNat (5 : Nat) ∧
    Int.ofNat (5 : Nat) + (1 : Int) ≤ (↑(32 : Nat) : Int)) ∧
    ((0 : Int) ≤ Int.ofNat (6 : Nat) ∧
    Int.ofNat (6 : Nat) + (1 : Int) ≤ (↑(32 : Nat) : Int)) ∧
    ((0 : Int) ≤ Int.ofNat (7 : Nat) ∧
    Int.ofNat (7 : Nat) + (1 : Int) ≤ (↑(32 : Nat) : Int)) ∧
    ((0 : Int) ≤ Int.ofNat (8 : Nat) ∧
    Int.ofNat (8 : Nat) + (1 : Int) ≤ (↑(32 : Nat) : Int)) ∧
    ((0 : Int) ≤ Int.ofNat (9 : Nat) ∧
    Int.ofNat (9 : Nat) + (1 : Int) ≤ (↑(32 : Nat) : Int)) ∧
    ((0 : Int) ≤ Int.ofNat (10 : Nat) ∧
    Int.ofNat (10 : Nat) + (1 : Int) ≤ (↑(32 : Nat) : Int)) ∧
    ((0 : Int) ≤ Int.ofNat (11 : Nat) ∧
    Int.ofNat (11 : Nat) + (1 : Int) ≤ (↑(32 : Nat) : Int)) ∧
    ((0 : Int) ≤ Int.ofNat (12 : Nat) ∧
    Int.ofNat (12 : Nat) + (1 : Int) ≤ (↑(32 : Nat) : Int)) ∧
    ((0 : Int) ≤ Int.ofNat (13 : Nat) ∧
    Int.ofNat (13 : Nat) + (1 : Int) ≤ (↑(32 : Nat) : Int)) ∧
    ((0 : Int) ≤ Int.ofNat (14 : Nat) ∧
    Int.ofNat (14 : Nat) + (1 : Int) ≤ (↑(32 : Nat) : Int)) ∧
    ((0 : Int) ≤ Int.ofNat (15 : Nat) ∧
    Int.ofNat (15 : Nat) + (1 : Int) ≤ (↑(32 : Nat) : Int)) ∧
    ((0 : Int) ≤ Int.ofNat (16 : Nat) ∧
    Int.ofNat (16 : Nat) + (1 : Int) ≤ (↑(32 : Nat) : Int)) ∧
    ((0 : Int) ≤ Int.ofNat (17 : Nat) ∧
    Int.ofNat (17 : Nat) + (1 : Int) ≤ (↑(32 : Nat) : Int)) ∧
    ((0 : Int) ≤ Int.ofNat (18 : Nat) ∧
    Int.ofNat (18 : Nat) + (1 : Int) ≤ (↑(32 : Nat) : Int)) ∧
    ((0 : Int) ≤ Int.ofNat (19 : Nat) ∧
    Int.ofNat (19 : Nat) + (1 : Int) ≤ (↑(32 : Nat) : Int)) ∧
    ((0 : Int) ≤ Int.ofNat (20 : Nat) ∧
    Int.ofNat (20 : Nat) + (1 : Int) ≤ (↑(32 : Nat) : Int)) ∧
    ((0 : Int) ≤ Int.ofNat (21 : Nat) ∧
    Int.ofNat (21 : Nat) + (1 : Int) ≤ (↑(32 : Nat) : Int)) ∧
    ((0 : Int) ≤ Int.ofNat (22 : Nat) ∧
    Int.ofNat (22 : Nat) + (1 : Int) ≤ (↑(32 : Nat) : Int)) ∧
    ((0 : Int) ≤ Int.ofNat (23 : Nat) ∧
    Int.ofNat (23 : Nat) + (1 : Int) ≤ (↑(32 : Nat) : Int)) ∧
    ((0 : Int) ≤ Int.ofNat (24 : Nat) ∧
    Int.ofNat (24 : Nat) + (1 : Int) ≤ (↑(32 : Nat) : Int)) ∧
    ((0 : Int) ≤ Int.ofNat (25 : Nat) ∧
    Int.ofNat (25 : Nat) + (1 : Int) ≤ (↑(32 : Nat) : Int)) ∧
    ((0 : Int) ≤ Int.ofNat (26 : Nat) ∧
    Int.ofNat (26 : Nat) + (1 : Int) ≤ (↑(32 : Nat) : Int)) ∧
    ((0 : Int) ≤ Int.ofNat (27 : Nat) ∧
    Int.ofNat (27 : Nat) + (1 : Int) ≤ (↑(32 : Nat) : Int)) ∧
    ((0 : Int) ≤ Int.ofNat (28 : Nat) ∧
    Int.ofNat (28 : Nat) + (1 : Int) ≤ (↑(32 : Nat) : Int)) ∧
    ((0 : Int) ≤ Int.ofNat (29 : Nat) ∧
    Int.ofNat (29 : Nat) + (1 : Int) ≤ (↑(32 : Nat) : Int)) ∧
    ((0 : Int) ≤ Int.ofNat (30 : Nat) ∧
    Int.ofNat (30 : Nat) + (1 : Int) ≤ (↑(32 : Nat) : Int)) ∧
    ((0 : Int) ≤ Int.ofNat (31 : Nat) ∧
    Int.ofNat (31 : Nat) + (1 : Int) ≤ (↑(32 : Nat) : Int)) ∧
    Value.string { data := #[(119 : UInt8), (111 : UInt8), (114 : UInt8), (100 : UInt8)] : ByteArray } = Value.string { data := #[(119 : UInt8), (111 : UInt8), (114 : UInt8), (100 : UInt8)] : ByteArray }) (by kernel_rfl) ?_
  repeat' (apply And.intro)
  all_goals first | decide | rfl
theorem err133 : CallDoes Try.prog 10 [.int .i64 133] [] fun v _ => v = .string ⟨#[98, 117, 115, 121]⟩ := by
  refine of_run ctxC_ok (n := 200) Try.func10 rfl BlksOK.c ?_
  refine by_nf (B := ((0 : Int) ≤ Int.ofNat (0 : Nat) ∧
    Int.ofNat (0 : Nat) + (1 : Int) ≤ (↑(32 : Nat) : Int)) ∧
    ((0 : Int) ≤ Int.ofNat (1 : Nat) ∧
    Int.ofNat (1 : Nat) + (1 : Int) ≤ (↑(32 : Nat) : Int)) ∧
    ((0 : Int) ≤ Int.ofNat (2 : Nat) ∧
    Int.ofNat (2 : Nat) + (1 : Int) ≤ (↑(32 : Nat) : Int)) ∧
    ((0 : Int) ≤ Int.ofNat (3 : Nat) ∧
    Int.ofNat (3 : Nat) + (1 : Int) ≤ (↑(32 : Nat) : Int)) ∧
    ((0 : Int) ≤ Int.ofNat (4 : Nat) ∧
    Int.ofNat (4 : Nat) + (1 : Int) ≤ (↑(32 : Nat) : Int)) ∧
    ((0 : Int) ≤ Int.ofNat (5 : Nat) ∧
    Int.ofNat (5 : Nat) + (1 : Int) ≤ (↑(32 : Nat) : Int)) ∧
    ((0 : Int) ≤ Int.ofNat (6 : Nat) ∧
    Int.ofNat (6 : Nat) + (1 : Int) ≤ (↑(32 : Nat) : Int)) ∧
    ((0 : Int) ≤ Int.ofNat (7 : Nat) ∧
    Int.ofNat (7 : Nat) + (1 : Int) ≤ (↑(32 : Nat) : Int)) ∧
    ((0 : Int) ≤ Int.ofNat (8 : Nat) ∧
    Int.ofNat (8 : Nat) + (1 : Int) ≤ (↑(32 : Nat) : Int)) ∧
    ((0 : Int) ≤ Int.ofNat (9 : Nat) ∧
    Int.ofNat (9 : Nat) + (1 : Int) ≤ (↑(32 : Nat) : Int)) ∧
    ((0 : Int) ≤ Int.ofNat (10 : Nat) ∧
    Int.ofNat (10 : Nat) + (1 : Int) ≤ (↑(32 : Nat) : Int)) ∧
    ((0 : Int) ≤ Int.ofNat (11 : Nat) ∧
    Int.ofNat (11 : Nat) + (1 : Int) ≤ (↑(32 : Nat) : Int)) ∧
    ((0 : Int) ≤ Int.ofNat (12 : Nat) ∧
    Int.ofNat (12 : Nat) + (1 : Int) ≤ (↑(32 : Nat) : Int)) ∧
    ((0 : Int) ≤ Int.ofNat (13 : Nat) ∧
    Int.ofNat (13 : Nat) + (1 : Int) ≤ (↑(32 : Nat) : Int)) ∧
    ((0 : Int) ≤ Int.ofNat (14 : Nat) ∧
    Int.ofNat (14 : Nat) + (1 : Int) ≤ (↑(32 : Nat) : Int)) ∧
    ((0 : Int) ≤ Int.ofNat (15 : Nat) ∧
    Int.ofNat (15 : Nat) + (1 : Int) ≤ (↑(32 : Nat) : Int)) ∧
    ((0 : Int) ≤ Int.ofNat (16 : Nat) ∧
    Int.ofNat (16 : Nat) + (1 : Int) ≤ (↑(32 : Nat) : Int)) ∧
    ((0 : Int) ≤ Int.ofNat (17 : Nat) ∧
    Int.ofNat (17 : Nat) + (1 : Int) ≤ (↑(32 : Nat) : Int)) ∧
    ((0 : Int) ≤ Int.ofNat (18 : Nat) ∧
    Int.ofNat (18 : Nat) + (1 : Int) ≤ (↑(32 : Nat) : Int)) ∧
    ((0 : Int) ≤ Int.ofNat (19 : Nat) ∧
    Int.ofNat (19 : Nat) + (1 : Int) ≤ (↑(32 : Nat) : Int)) ∧
    ((0 : Int) ≤ Int.ofNat (20 : Nat) ∧
    Int.ofNat (20 : Nat) + (1 : Int) ≤ (↑(32 : Nat) : Int)) ∧
    ((0 : Int) ≤ Int.ofNat (21 : Nat) ∧
    Int.ofNat (21 : Nat) + (1 : Int) ≤ (↑(32 : Nat) : Int)) ∧
    ((0 : Int) ≤ Int.ofNat (22 : Nat) ∧
    Int.ofNat (22 : Nat) + (1 : Int) ≤ (↑(32 : Nat) : Int)) ∧
    ((0 : Int) ≤ Int.ofNat (23 : Nat) ∧
    Int.ofNat (23 : Nat) + (1 : Int) ≤ (↑(32 : Nat) : Int)) ∧
    ((0 : Int) ≤ Int.ofNat (24 : Nat) ∧
    Int.ofNat (24 : Nat) + (1 : Int) ≤ (↑(32 : Nat) : Int)) ∧
    Value.string { data := #[(98 : UInt8), (117 : UInt8), (115 : UInt8), (121 : UInt8)] : ByteArray } = Value.string { data := #[(98 : UInt8), (117 : UInt8), (115 : UInt8), (121 : UInt8)] : ByteArray }) (by kernel_rfl) ?_
  repeat' (apply And.intro)
  all_goals first | decide | rfl
theorem err150 : CallDoes Try.prog 10 [.int .i64 150] [] fun v _ => v = .string ⟨#[112, 97, 99, 107, 101, 116]⟩ := by
  refine of_run ctxC_ok (n := 200) Try.func10 rfl BlksOK.c ?_
  refine by_nf (B := ((0 : Int) ≤ Int.ofNat (0 : Nat) ∧
    Int.ofNat (0 : Nat) + (1 : Int) ≤ (↑(32 : Nat) : Int)) ∧
    ((0 : Int) ≤ Int.ofNat (1 : Nat) ∧
    Int.ofNat (1 : Nat) + (1 : Int) ≤ (↑(32 : Nat) : Int)) ∧
    ((0 : Int) ≤ Int.ofNat (2 : Nat) ∧
    Int.ofNat (2 : Nat) + (1 : Int) ≤ (↑(32 : Nat) : Int)) ∧
    ((0 : Int) ≤ Int.ofNat (3 : Nat) ∧
    Int.ofNat (3 : Nat) + (1 : Int) ≤ (↑(32 : Nat) : Int)) ∧
    ((0 : Int) ≤ Int.ofNat (4 : Nat) ∧
    Int.ofNat (4 : Nat) + (1 : Int) ≤ (↑(32 : Nat) : Int)) ∧
    ((0 : Int) ≤ Int.ofNat (5 : Nat) ∧
    Int.ofNat (5 : Nat) + (1 : Int) ≤ (↑(32 : Nat) : Int)) ∧
    ((0 : Int) ≤ Int.ofNat (6 : Nat) ∧
    Int.ofNat (6 : Nat) + (1 : Int) ≤ (↑(32 : Nat) : Int)) ∧
    ((0 : Int) ≤ Int.ofNat (7 : Nat) ∧
    Int.ofNat (7 : Nat) + (1 : Int) ≤ (↑(32 : Nat) : Int)) ∧
    ((0 : Int) ≤ Int.ofNat (8 : Nat) ∧
    Int.ofNat (8 : Nat) + (1 : Int) ≤ (↑(32 : Nat) : Int)) ∧
    ((0 : Int) ≤ Int.ofNat (9 : Nat) ∧
    Int.ofNat (9 : Nat) + (1 : Int) ≤ (↑(32 : Nat) : Int)) ∧
    ((0 : Int) ≤ Int.ofNat (10 : Nat) ∧
    Int.ofNat (10 : Nat) + (1 : Int) ≤ (↑(32 : Nat) : Int)) ∧
    ((0 : Int) ≤ Int.ofNat (11 : Nat) ∧
    Int.ofNat (11 : Nat) + (1 : Int) ≤ (↑(32 : Nat) : Int)) ∧
    ((0 : Int) ≤ Int.ofNat (12 : Nat) ∧
    Int.ofNat (12 : Nat) + (1 : Int) ≤ (↑(32 : Nat) : Int)) ∧
    ((0 : Int) ≤ Int.ofNat (13 : Nat) ∧
    Int.ofNat (13 : Nat) + (1 : Int) ≤ (↑(32 : Nat) : Int)) ∧
    ((0 : Int) ≤ Int.ofNat (14 : Nat) ∧
    Int.ofNat (14 : Nat) + (1 : Int) ≤ (↑(32 : Nat) : Int)) ∧
    ((0 : Int) ≤ Int.ofNat (15 : Nat) ∧
    Int.ofNat (15 : Nat) + (1 : Int) ≤ (↑(32 : Nat) : Int)) ∧
    ((0 : Int) ≤ Int.ofNat (16 : Nat) ∧
    Int.ofNat (16 : Nat) + (1 : Int) ≤ (↑(32 : Nat) : Int)) ∧
    ((0 : Int) ≤ Int.ofNat (17 : Nat) ∧
    Int.ofNat (17 : Nat) + (1 : Int) ≤ (↑(32 : Nat) : Int)) ∧
    ((0 : Int) ≤ Int.ofNat (18 : Nat) ∧
    Int.ofNat (18 : Nat) + (1 : Int) ≤ (↑(32 : Nat) : Int)) ∧
    ((0 : Int) ≤ Int.ofNat (19 : Nat) ∧
    Int.ofNat (19 : Nat) + (1 : Int) ≤ (↑(32 : Nat) : Int)) ∧
    ((0 : Int) ≤ Int.ofNat (20 : Nat) ∧
    Int.ofNat (20 : Nat) + (1 : Int) ≤ (↑(32 : Nat) : Int)) ∧
    ((0 : Int) ≤ Int.ofNat (21 : Nat) ∧
    Int.ofNat (21 : Nat) + (1 : Int) ≤ (↑(32 : Nat) : Int)) ∧
    ((0 : Int) ≤ Int.ofNat (22 : Nat) ∧
    Int.ofNat (22 : Nat) + (1 : Int) ≤ (↑(32 : Nat) : Int)) ∧
    ((0 : Int) ≤ Int.ofNat (23 : Nat) ∧
    Int.ofNat (23 : Nat) + (1 : Int) ≤ (↑(32 : Nat) : Int)) ∧
    ((0 : Int) ≤ Int.ofNat (24 : Nat) ∧
    Int.ofNat (24 : Nat) + (1 : Int) ≤ (↑(32 : Nat) : Int)) ∧
    ((0 : Int) ≤ Int.ofNat (25 : Nat) ∧
    Int.ofNat (25 : Nat) + (1 : Int) ≤ (↑(32 : Nat) : Int)) ∧
    ((0 : Int) ≤ Int.ofNat (26 : Nat) ∧
    Int.ofNat (26 : Nat) + (1 : Int) ≤ (↑(32 : Nat) : Int)) ∧
    ((0 : Int) ≤ Int.ofNat (27 : Nat) ∧
    Int.ofNat (27 : Nat) + (1 : Int) ≤ (↑(32 : Nat) : Int)) ∧
    Value.string { data := #[(112 : UInt8), (97 : UInt8), (99 : UInt8), (107 : UInt8), (101 : UInt8), (116 : UInt8)] : ByteArray } = Value.string { data := #[(112 : UInt8), (97 : UInt8), (99 : UInt8), (107 : UInt8), (101 : UInt8), (116 : UInt8)] : ByteArray }) (by kernel_rfl) ?_
  repeat' (apply And.intro)
  all_goals first | decide | rfl
theorem err151 : CallDoes Try.prog 10 [.int .i64 151] [] fun v _ => v = .string ⟨#[97, 100, 100, 114]⟩ := by
  refine of_run ctxC_ok (n := 200) Try.func10 rfl BlksOK.c ?_
  refine by_nf (B := ((0 : Int) ≤ Int.ofNat (0 : Nat) ∧
    Int.ofNat (0 : Nat) + (1 : Int) ≤ (↑(32 : Nat) : Int)) ∧
    ((0 : Int) ≤ Int.ofNat (1 : Nat) ∧
    Int.ofNat (1 : Nat) + (1 : Int) ≤ (↑(32 : Nat) : Int)) ∧
    ((0 : Int) ≤ Int.ofNat (2 : Nat) ∧
    Int.ofNat (2 : Nat) + (1 : Int) ≤ (↑(32 : Nat) : Int)) ∧
    ((0 : Int) ≤ Int.ofNat (3 : Nat) ∧
    Int.ofNat (3 : Nat) + (1 : Int) ≤ (↑(32 : Nat) : Int)) ∧
    ((0 : Int) ≤ Int.ofNat (4 : Nat) ∧
    Int.ofNat (4 : Nat) + (1 : Int) ≤ (↑(32 : Nat) : Int)) ∧
    ((0 : Int) ≤ Int.ofNat (5 : Nat) ∧
    Int.ofNat (5 : Nat) + (1 : Int) ≤ (↑(32 : Nat) : Int)) ∧
    ((0 : Int) ≤ Int.ofNat (6 : Nat) ∧
    Int.ofNat (6 : Nat) + (1 : Int) ≤ (↑(32 : Nat) : Int)) ∧
    ((0 : Int) ≤ Int.ofNat (7 : Nat) ∧
    Int.ofNat (7 : Nat) + (1 : Int) ≤ (↑(32 : Nat) : Int)) ∧
    ((0 : Int) ≤ Int.ofNat (8 : Nat) ∧
    Int.ofNat (8 : Nat) + (1 : Int) ≤ (↑(32 : Nat) : Int)) ∧
    ((0 : Int) ≤ Int.ofNat (9 : Nat) ∧
    Int.ofNat (9 : Nat) + (1 : Int) ≤ (↑(32 : Nat) : Int)) ∧
    ((0 : Int) ≤ Int.ofNat (10 : Nat) ∧
    Int.ofNat (10 : Nat) + (1 : Int) ≤ (↑(32 : Nat) : Int)) ∧
    ((0 : Int) ≤ Int.ofNat (11 : Nat) ∧
    Int.ofNat (11 : Nat) + (1 : Int) ≤ (↑(32 : Nat) : Int)) ∧
    ((0 : Int) ≤ Int.ofNat (12 : Nat) ∧
    Int.ofNat (12 : Nat) + (1 : Int) ≤ (↑(32 : Nat) : Int)) ∧
    ((0 : Int) ≤ Int.ofNat (13 : Nat) ∧
    Int.ofNat (13 : Nat) + (1 : Int) ≤ (↑(32 : Nat) : Int)) ∧
    ((0 : Int) ≤ Int.ofNat (14 : Nat) ∧
    Int.ofNat (14 : Nat) + (1 : Int) ≤ (↑(32 : Nat) : Int)) ∧
    ((0 : Int) ≤ Int.ofNat (15 : Nat) ∧
    Int.ofNat (15 : Nat) + (1 : Int) ≤ (↑(32 : Nat) : Int)) ∧
    ((0 : Int) ≤ Int.ofNat (16 : Nat) ∧
    Int.ofNat (16 : Nat) + (1 : Int) ≤ (↑(32 : Nat) : Int)) ∧
    ((0 : Int) ≤ Int.ofNat (17 : Nat) ∧
    Int.ofNat (17 : Nat) + (1 : Int) ≤ (↑(32 : Nat) : Int)) ∧
    ((0 : Int) ≤ Int.ofNat (18 : Nat) ∧
    Int.ofNat (18 : Nat) + (1 : Int) ≤ (↑(32 : Nat) : Int)) ∧
    ((0 : Int) ≤ Int.ofNat (19 : Nat) ∧
    Int.ofNat (19 : Nat) + (1 : Int) ≤ (↑(32 : Nat) : Int)) ∧
    ((0 : Int) ≤ Int.ofNat (20 : Nat) ∧
    Int.ofNat (20 : Nat) + (1 : Int) ≤ (↑(32 : Nat) : Int)) ∧
    ((0 : Int) ≤ Int.ofNat (21 : Nat) ∧
    Int.ofNat (21 : Nat) + (1 : Int) ≤ (↑(32 : Nat) : Int)) ∧
    ((0 : Int) ≤ Int.ofNat (22 : Nat) ∧
    Int.ofNat (22 : Nat) + (1 : Int) ≤ (↑(32 : Nat) : Int)) ∧
    ((0 : Int) ≤ Int.ofNat (23 : Nat) ∧
    Int.ofNat (23 : Nat) + (1 : Int) ≤ (↑(32 : Nat) : Int)) ∧
    ((0 : Int) ≤ Int.ofNat (24 : Nat) ∧
    Int.ofNat (24 : Nat) + (1 : Int) ≤ (↑(32 : Nat) : Int)) ∧
    ((0 : Int) ≤ Int.ofNat (25 : Nat) ∧
    Int.ofNat (25 : Nat) + (1 : Int) ≤ (↑(32 : Nat) : Int)) ∧
    ((0 : Int) ≤ Int.ofNat (26 : Nat) ∧
    Int.ofNat (26 : Nat) + (1 : Int) ≤ (↑(32 : Nat) : Int)) ∧
    ((0 : Int) ≤ Int.ofNat (27 : Nat) ∧
    Int.ofNat (27 : Nat) + (1 : Int) ≤ (↑(32 : Nat) : Int)) ∧
    ((0 : Int) ≤ Int.ofNat (28 : Nat) ∧
    Int.ofNat (28 : Nat) + (1 : Int) ≤ (↑(32 : Nat) : Int)) ∧
    Value.string { data := #[(97 : UInt8), (100 : UInt8), (100 : UInt8), (114 : UInt8)] : ByteArray } = Value.string { data := #[(97 : UInt8), (100 : UInt8), (100 : UInt8), (114 : UInt8)] : ByteArray }) (by kernel_rfl) ?_
  repeat' (apply And.intro)
  all_goals first | decide | rfl
theorem err0 : CallDoes Try.prog 10 [.int .i64 0] [] fun v _ => v = .string ⟨#[111, 107]⟩ := by
  refine of_run ctxC_ok (n := 200) Try.func10 rfl BlksOK.c ?_
  refine by_nf (B := ((0 : Int) ≤ Int.ofNat (0 : Nat) ∧
    Int.ofNat (0 : Nat) + (1 : Int) ≤ (↑(32 : Nat) : Int)) ∧
    Value.string { data := #[(111 : UInt8), (107 : UInt8)] : ByteArray } = Value.string { data := #[(111 : UInt8), (107 : UInt8)] : ByteArray }) (by kernel_rfl) ?_
  repeat' (apply And.intro)
  all_goals first | decide | rfl
def errG : List Value → VW → Res := fun args _ =>
  match args with | [.int .i64 n] => (match errTab n with | some s => .val (.string s) | none => .bad) | _ => .bad
theorem err_ok : FnOK Try.prog 10 errG :=
  FnOK.of callable10 (fun args V p os v h => by unfold errG at h; (repeat' split at h) <;> cases h) fun args V v hg => by
    unfold errG at hg
    split at hg
    · rename_i n
      split at hg
      · rename_i s hs
        rw [Gives.val_iff] at hg; subst hg
        refine ⟨rfl, rfl, ?_⟩
        unfold errTab at hs
        split at hs
        · rename_i h; subst h; cases hs; exact err200
        split at hs
        · rename_i h; subst h; cases hs; exact err133
        split at hs
        · rename_i h; subst h; cases hs; exact err150
        split at hs
        · rename_i h; subst h; cases hs; exact err151
        split at hs
        · rename_i h; subst h; cases hs; exact err0
        cases hs
      · exact (Gives.bad.1 hg).elim
    · exact (Gives.bad.1 hg).elim
theorem names_does : CallDoes Try.prog 6 [] [] fun v _ => v = .bool true := by
  refine of_run (ctxL_ok (.cons err_ok .nil)) (n := 200) Try.func6 rfl .l ?_
  refine by_nf (B := Value.bool (bif bif bif { data := #[(111 : UInt8), (107 : UInt8)] : ByteArray }.data.toList == { data := #[(111 : UInt8), (107 : UInt8)] : ByteArray }.data.toList then true else false then true else false then true else false) = Value.bool true) (by kernel_rfl) ?_
  rfl
end Go.Shn
