/- ShellOwn: a round of the first loop: two lists of words more. -/
import Derived.Test.YtlnmampbiapglaaDoorShO1
set_option linter.unusedSimpArgs false
set_option linter.unusedSectionVars false
set_option linter.unusedVariables false
set_option maxRecDepth 100000
namespace Go.Sh
open Go Go.X Go.Proofs
variable [WI]

def oTm (N n : Nat) (j : Int) : List Value := [.slice (some ⟨0, 3, some 0⟩) N 0, unk, unk, unk, unk, .slice (some ⟨1, 1, some 0⟩) n 0, .slice none 0 0, .int .i64 j] ++ List.replicate 225 unk
def oV1 (N n : Nat) (ls : Nat → ByteArray) (f : Nat → List Value) : VW := [.arg 9 1 N fun i => [.string (ls i)], .raw 22 1 n 0 f []]

structure StrRows (n : Nat) (f : Nat → List Value) : Prop where
  at_ : ∃ h : Nat → ByteArray, f = fun r => [.string (h r)]
  len : n ≤ 4294967296

/-- two lists more -/
def twoF (n : Nat) (f : Nat → List Value) : Nat → List Value := joinF (n + 1) (joinF n f fun _ => []) fun _ => []
def o1Sel (e : Exit) (S : VSt) : List Sel :=
  match S.V with
  | [_, _] => [.keep 0, .keep 1]
  | [_, _, _, _, _, _] => [.keep 0, .keep 5]
  | _ => [.keep 0, .keep 8, .keep 2, .keep 3]
def o1Ks (e : Exit) : List Nat := [0, 5, 6, 7]
def o1Nil (N n : Nat) (ls : Nat → ByteArray) (f : Nat → List Value) (j : Int) : VSt :=
  ⟨oTm N (n + 1 + 1) j, [.arg 9 1 N fun i => [.string (ls i)], .raw 22 1 (n + 1 + 1) 0 (twoF n f) [(n + 0, [.slice none 0 0]), (n + 1 + 0, [.slice none 0 0])]]⟩
def o1Two (N n : Nat) (ls : Nat → ByteArray) (f : Nat → List Value) (j : Int) (n1 n2 : Nat) (f1 f2 : Nat → List Value) : VSt :=
  ⟨oTm N (n + 1 + 1) j, [.arg 9 1 N fun i => [.string (ls i)], .raw 22 1 (n + 1 + 1) 0 (twoF n f) [(n + 0, [.slice (some ⟨2, 2, some 0⟩) n1 0]), (n + 1 + 0, [.slice (some ⟨3, 2, some 0⟩) n2 0])], .vec 9 1 n1 f1, .vec 9 1 n2 f2]⟩
def o1Leaf (N n : Nat) (ls : Nat → ByteArray) (f : Nat → List Value) (j : Int) (e : Exit) (S : VSt) : Prop :=
  match e with
  | .normal =>
    match S.V with
    | [_, _] => j < 4096 ∧ QSt S (o1Nil N n ls f (IntKind.i64.wrap (j + 1)))
    | [_, _, .vec 9 1 n1 f1, .vec 9 1 n2 f2] => j < 4096 ∧ StrRows n1 f1 ∧ StrRows n2 f2 ∧ QSt S (o1Two N n ls f (IntKind.i64.wrap (j + 1)) n1 n2 f1 f2)
    | _ => False
  | .exit 0 => QSt S ⟨oTm N n j, oV1 N n ls f⟩
  | _ => False

variable (hesc : FnOK Tryd.prog 20 (g1 dStr escV))
include hesc
theorem own_ctx : CtxOK Tryd.prog (ctxG [(10, g1p (dInt .i64) (fun x => 0 ≤ x ∧ x < (1000000 : Nat)) fun x => .string (markS x.toNat))] [(7, wordsT refOut), (8, wordsT refOut), (9, viewT sameA)] []) :=
  ctxG_ok (.cons mark_ok .nil) (.cons (words_ok hesc) (.cons refWords_ok (.cons frSame .nil)))

theorem o1_round (N n j : Nat) (ls : Nat → ByteArray) (f : Nat → List Value) (hn : n ≤ 10000) (hsz : ∀ i, i < N → (ls i).size ≤ 2147483648) : Does Tryd.prog (roundOf Tryd.f4 0) ⟨oTm N n j, oV1 N n ls f⟩ fun e S' => tame (oV1 N n ls f) S'.V (reshape 0 (o1Sel e S') (o1Ks e) [] [] S' (o1Leaf N n ls f j e)) := by
  refine of_code (own_ctx hesc) (n := 200) .g ?_
  refine by_nf (B := bsplit (decide ((↑j : Int) < (↑N : Int)))
    (bsplit (decide ((↑j : Int) < (4096 : Int))) (((0 : Int) ≤ (↑j : Int) ∧
    (↑j : Int) + (1 : Int) ≤ (↑N : Int) ∧
    (0 : Nat) + N ≤ N) ∧
    ((0 : Nat) + (↑j : Int).toNat).succ ≤ N ∧
    (ls ((0 : Nat) + (↑j : Int).toNat)).size ≤ (2147483648 : Nat) ∧
    (refOut (ls ((0 : Nat) + (↑j : Int).toNat)) = none → ((0 : Int) ≤ (↑j : Int) ∧
    (↑j : Int) + (1 : Int) ≤ (↑N : Int) ∧
    (0 : Nat) + N ≤ N) ∧
    ((0 : Nat) + (↑j : Int).toNat).succ ≤ N ∧
    (ls ((0 : Nat) + (↑j : Int).toNat)).size ≤ (2147483648 : Nat) ∧
    (refOut (ls ((0 : Nat) + (↑j : Int).toNat)) = none → ((0 : Int) ≤ (↑j : Int) ∧
    (↑j : Int) + (1 : Int) ≤ (↑N : Int) ∧
    (0 : Nat) + N ≤ N) ∧
    ((0 : Nat) + (↑j : Int).toNat).succ ≤ N ∧
    (ls ((0 : Nat) + (↑j : Int).toNat)).size ≤ (2147483648 : Nat) ∧
    (refOut (ls ((0 : Nat) + (↑j : Int).toNat)) = none → ((1 : Nat) = (1 : Nat) ∧
    n = n ∧
    True ∧
    fitsN (n + (1 : Nat)) (24 : Nat)) ∧
    ((1 : Nat) = (1 : Nat) ∧
    n + (1 : Nat) = n + (1 : Nat) ∧
    True ∧
    fitsN (n + (1 : Nat) + (1 : Nat)) (24 : Nat)) ∧
    some (VObj.arg (9 : TypeId) (1 : Nat) N fun i => [Value.string (ls i)]) = some (VObj.arg (9 : TypeId) (1 : Nat) N fun i => [Value.string (ls i)]) ∧
    (↑j : Int) + (1 : Int) ≤ (4096 : Int) ∧
    QSt { tmps := [Value.slice (some { block := (0 : Nat), off := { block := (0 : Nat), off := (3 : Nat), spot := some (0 : Nat) : Addr }.off, spot := some (0 : Nat) : Addr }) N (0 : Nat), unk, unk, unk, unk, Value.slice (some { block := (1 : Nat), off := { block := (5 : Nat), off := (1 : Nat), spot := some (0 : Nat) : Addr }.off, spot := some (0 : Nat) : Addr }) (n + (1 : Nat) + (1 : Nat)) (0 : Nat), Value.slice none (0 : Nat) (0 : Nat), Value.int IntKind.i64 (IntKind.i64.wrap ((↑j : Int) + (1 : Int))), unk, unk, unk, unk, unk, unk, unk, unk, unk, unk, unk, unk, unk, unk, unk, unk, unk, unk, unk, unk, unk, unk, unk, unk, unk, unk, unk, unk, unk, unk, unk, unk, unk, unk, unk, unk, unk, unk, unk, unk, unk, unk, unk, unk, unk, unk, unk, unk, unk, unk, unk, unk, unk, unk, unk, unk, unk, unk, unk, unk, unk, unk, unk, unk, unk, unk, unk, unk, unk, unk, unk, unk, unk, unk, unk, unk, unk, unk, unk, unk, unk, unk, unk, unk, unk, unk, unk, unk, unk, unk, unk, unk, unk, unk, unk, unk, unk, unk, unk, unk, unk, unk, unk, unk, unk, unk, unk, unk, unk, unk, unk, unk, unk, unk, unk, unk, unk, unk, unk, unk, unk, unk, unk, unk, unk, unk, unk, unk, unk, unk, unk, unk, unk, unk, unk, unk, unk, unk, unk, unk, unk, unk, unk, unk, unk, unk, unk, unk, unk, unk, unk, unk, unk, unk, unk, unk, unk, unk, unk, unk, unk, unk, unk, unk, unk, unk, unk, unk, unk, unk, unk, unk, unk, unk, unk, unk, unk, unk, unk, unk, unk, unk, unk, unk, unk, unk, unk, unk, unk, unk, unk, unk, unk, unk, unk, unk, unk, unk, unk, unk, unk, unk, unk, unk, unk, unk, unk, unk, unk, unk, unk, unk, unk, unk, unk, unk, unk, unk, unk, unk, unk, unk, unk, unk, unk], V := [VObj.arg (9 : TypeId) (1 : Nat) N fun i => [Value.string (ls i)], VObj.raw (22 : Nat) (1 : Nat) (n + (1 : Nat) + (1 : Nat)) (0 : Nat) (joinF (n + (1 : Nat)) (joinF n f fun x => []) fun x => []) [(n + (0 : Nat), [Value.slice none (0 : Nat) (0 : Nat)]), (n + (1 : Nat) + (0 : Nat), [Value.slice none (0 : Nat) (0 : Nat)])]] : VSt } { tmps := [Value.slice (some { block := (0 : Nat), off := (3 : Nat), spot := some (0 : Nat) : Addr }) N (0 : Nat), unk, unk, unk, unk, Value.slice (some { block := (1 : Nat), off := (1 : Nat), spot := some (0 : Nat) : Addr }) (n + (1 : Nat) + (1 : Nat)) (0 : Nat), Value.slice none (0 : Nat) (0 : Nat), Value.int IntKind.i64 (IntKind.i64.wrap ((↑j : Int) + (1 : Int))), unk, unk, unk, unk, unk, unk, unk, unk, unk, unk, unk, unk, unk, unk, unk, unk, unk, unk, unk, unk, unk, unk, unk, unk, unk, unk, unk, unk, unk, unk, unk, unk, unk, unk, unk, unk, unk, unk, unk, unk, unk, unk, unk, unk, unk, unk, unk, unk, unk, unk, unk, unk, unk, unk, unk, unk, unk, unk, unk, unk, unk, unk, unk, unk, unk, unk, unk, unk, unk, unk, unk, unk, unk, unk, unk, unk, unk, unk, unk, unk, unk, unk, unk, unk, unk, unk, unk, unk, unk, unk, unk, unk, unk, unk, unk, unk, unk, unk, unk, unk, unk, unk, unk, unk, unk, unk, unk, unk, unk, unk, unk, unk, unk, unk, unk, unk, unk, unk, unk, unk, unk, unk, unk, unk, unk, unk, unk, unk, unk, unk, unk, unk, unk, unk, unk, unk, unk, unk, unk, unk, unk, unk, unk, unk, unk, unk, unk, unk, unk, unk, unk, unk, unk, unk, unk, unk, unk, unk, unk, unk, unk, unk, unk, unk, unk, unk, unk, unk, unk, unk, unk, unk, unk, unk, unk, unk, unk, unk, unk, unk, unk, unk, unk, unk, unk, unk, unk, unk, unk, unk, unk, unk, unk, unk, unk, unk, unk, unk, unk, unk, unk, unk, unk, unk, unk, unk, unk, unk, unk, unk, unk, unk, unk, unk, unk, unk, unk, unk, unk, unk, unk, unk, unk, unk, unk], V := [VObj.arg (9 : TypeId) (1 : Nat) N fun i => [Value.string (ls i)], VObj.raw (22 : TypeId) (1 : Nat) (n + (1 : Nat) + (1 : Nat)) (0 : Nat) (twoF n f) [(n + (0 : Nat), [Value.slice none (0 : Nat) (0 : Nat)]), (n + (1 : Nat) + (0 : Nat), [Value.slice none (0 : Nat) (0 : Nat)])]] : VSt }) ∧
    ∀ (ws : List ByteArray) (n : Nat) (h : Nat → ByteArray), refOut (ls ((0 : Nat) + (↑j : Int).toNat)) = some ws → SOut ws n h → some (VObj.arg (9 : TypeId) (1 : Nat) N fun i => [Value.string (ls i)]) = some (VObj.arg (9 : TypeId) (1 : Nat) N fun i => [Value.string (ls i)]) ∧
    False) ∧
    ∀ (ws : List ByteArray) (n : Nat) (h : Nat → ByteArray), refOut (ls ((0 : Nat) + (↑j : Int).toNat)) = some ws → SOut ws n h → ((0 : Int) ≤ (↑j : Int) ∧
    (↑j : Int) + (1 : Int) ≤ (↑N : Int) ∧
    (0 : Nat) + N ≤ N) ∧
    ((0 : Nat) + (↑j : Int).toNat).succ ≤ N ∧
    (ls ((0 : Nat) + (↑j : Int).toNat)).size ≤ (2147483648 : Nat) ∧
    (refOut (ls ((0 : Nat) + (↑j : Int).toNat)) = none → some (VObj.arg (9 : TypeId) (1 : Nat) N fun i => [Value.string (ls i)]) = some (VObj.arg (9 : TypeId) (1 : Nat) N fun i => [Value.string (ls i)]) ∧
    False) ∧
    ∀ (ws : List ByteArray) (n : Nat) (h : Nat → ByteArray), refOut (ls ((0 : Nat) + (↑j : Int).toNat)) = some ws → SOut ws n h → some (VObj.arg (9 : TypeId) (1 : Nat) N fun i => [Value.string (ls i)]) = some (VObj.arg (9 : TypeId) (1 : Nat) N fun i => [Value.string (ls i)]) ∧
    False) ∧
    ∀ (ws : List ByteArray) (n_1 : Nat) (h : Nat → ByteArray), refOut (ls ((0 : Nat) + (↑j : Int).toNat)) = some ws → SOut ws n_1 h → ((0 : Int) ≤ (↑j : Int) ∧
    (↑j : Int) + (1 : Int) ≤ (↑N : Int) ∧
    (0 : Nat) + N ≤ N) ∧
    ((0 : Nat) + (↑j : Int).toNat).succ ≤ N ∧
    (ls ((0 : Nat) + (↑j : Int).toNat)).size ≤ (2147483648 : Nat) ∧
    (refOut (ls ((0 : Nat) + (↑j : Int).toNat)) = none → ((0 : Int) ≤ (↑j : Int) ∧
    (↑j : Int) + (1 : Int) ≤ (↑N : Int) ∧
    (0 : Nat) + N ≤ N) ∧
    ((0 : Nat) + (↑j : Int).toNat).succ ≤ N ∧
    (ls ((0 : Nat) + (↑j : Int).toNat)).size ≤ (2147483648 : Nat) ∧
    (refOut (ls ((0 : Nat) + (↑j : Int).toNat)) = none → some (VObj.arg (9 : TypeId) (1 : Nat) N fun i => [Value.string (ls i)]) = some (VObj.arg (9 : TypeId) (1 : Nat) N fun i => [Value.string (ls i)]) ∧
    False) ∧
    ∀ (ws : List ByteArray) (n : Nat) (h : Nat → ByteArray), refOut (ls ((0 : Nat) + (↑j : Int).toNat)) = some ws → SOut ws n h → some (VObj.arg (9 : TypeId) (1 : Nat) N fun i => [Value.string (ls i)]) = some (VObj.arg (9 : TypeId) (1 : Nat) N fun i => [Value.string (ls i)]) ∧
    False) ∧
    ∀ (ws : List ByteArray) (n_2 : Nat) (h_1 : Nat → ByteArray), refOut (ls ((0 : Nat) + (↑j : Int).toNat)) = some ws → SOut ws n_2 h_1 → ((0 : Int) ≤ (↑j : Int) ∧
    (↑j : Int) + (1 : Int) ≤ (↑N : Int) ∧
    (0 : Nat) + N ≤ N) ∧
    ((0 : Nat) + (↑j : Int).toNat).succ ≤ N ∧
    (ls ((0 : Nat) + (↑j : Int).toNat)).size ≤ (2147483648 : Nat) ∧
    (refOut (ls ((0 : Nat) + (↑j : Int).toNat)) = none → some (VObj.arg (9 : TypeId) (1 : Nat) N fun i => [Value.string (ls i)]) = some (VObj.arg (9 : TypeId) (1 : Nat) N fun i => [Value.string (ls i)]) ∧
    False) ∧
    ∀ (ws : List ByteArray) (n_3 : Nat) (h_2 : Nat → ByteArray), refOut (ls ((0 : Nat) + (↑j : Int).toNat)) = some ws → SOut ws n_3 h_2 → (seenRows (0 : Nat) n_1 n_1 fun j => [Value.string (h j)]) ∧
    (seenRows (0 : Nat) n_3 n_3 fun j => [Value.string (h_2 j)]) ∧
    SameIn n_1 n_3 n_1 n_3 (shiftF (0 : Nat) fun j => [Value.string (h j)]) (shiftF (0 : Nat) fun j => [Value.string (h_2 j)]) ∧
    (seenRows (0 : Nat) n_2 n_2 fun j => [Value.string (h_1 j)]) ∧
    (seenRows (0 : Nat) n_3 n_3 fun j => [Value.string (h_2 j)]) ∧
    SameIn n_2 n_3 n_2 n_3 (shiftF (0 : Nat) fun j => [Value.string (h_1 j)]) (shiftF (0 : Nat) fun j => [Value.string (h_2 j)]) ∧
    ((1 : Nat) = (1 : Nat) ∧
    n = n ∧
    True ∧
    fitsN (n + (1 : Nat)) (24 : Nat)) ∧
    ((1 : Nat) = (1 : Nat) ∧
    n + (1 : Nat) = n + (1 : Nat) ∧
    True ∧
    fitsN (n + (1 : Nat) + (1 : Nat)) (24 : Nat)) ∧
    some (VObj.arg (9 : TypeId) (1 : Nat) N fun i => [Value.string (ls i)]) = some (VObj.arg (9 : TypeId) (1 : Nat) N fun i => [Value.string (ls i)]) ∧
    (↑j : Int) + (1 : Int) ≤ (4096 : Int) ∧
    (StrRows n_1 fun j => [Value.string (h j)]) ∧
    (StrRows n_2 fun j => [Value.string (h_1 j)]) ∧
    QSt { tmps := [Value.slice (some { block := (0 : Nat), off := { block := (0 : Nat), off := (3 : Nat), spot := some (0 : Nat) : Addr }.off, spot := some (0 : Nat) : Addr }) N (0 : Nat), unk, unk, unk, unk, Value.slice (some { block := (1 : Nat), off := { block := (8 : Nat), off := (1 : Nat), spot := some (0 : Nat) : Addr }.off, spot := some (0 : Nat) : Addr }) (n + (1 : Nat) + (1 : Nat)) (0 : Nat), Value.slice none (0 : Nat) (0 : Nat), Value.int IntKind.i64 (IntKind.i64.wrap ((↑j : Int) + (1 : Int))), unk, unk, unk, unk, unk, unk, unk, unk, unk, unk, unk, unk, unk, unk, unk, unk, unk, unk, unk, unk, unk, unk, unk, unk, unk, unk, unk, unk, unk, unk, unk, unk, unk, unk, unk, unk, unk, unk, unk, unk, unk, unk, unk, unk, unk, unk, unk, unk, unk, unk, unk, unk, unk, unk, unk, unk, unk, unk, unk, unk, unk, unk, unk, unk, unk, unk, unk, unk, unk, unk, unk, unk, unk, unk, unk, unk, unk, unk, unk, unk, unk, unk, unk, unk, unk, unk, unk, unk, unk, unk, unk, unk, unk, unk, unk, unk, unk, unk, unk, unk, unk, unk, unk, unk, unk, unk, unk, unk, unk, unk, unk, unk, unk, unk, unk, unk, unk, unk, unk, unk, unk, unk, unk, unk, unk, unk, unk, unk, unk, unk, unk, unk, unk, unk, unk, unk, unk, unk, unk, unk, unk, unk, unk, unk, unk, unk, unk, unk, unk, unk, unk, unk, unk, unk, unk, unk, unk, unk, unk, unk, unk, unk, unk, unk, unk, unk, unk, unk, unk, unk, unk, unk, unk, unk, unk, unk, unk, unk, unk, unk, unk, unk, unk, unk, unk, unk, unk, unk, unk, unk, unk, unk, unk, unk, unk, unk, unk, unk, unk, unk, unk, unk, unk, unk, unk, unk, unk, unk, unk, unk, unk, unk, unk, unk, unk, unk, unk, unk, unk, unk, unk, unk, unk, unk, unk], V := [VObj.arg (9 : TypeId) (1 : Nat) N fun i => [Value.string (ls i)], VObj.raw (22 : Nat) (1 : Nat) (n + (1 : Nat) + (1 : Nat)) (0 : Nat) (joinF (n + (1 : Nat)) (joinF n f fun x => []) fun x => []) [(n + (0 : Nat), [Value.slice (some { block := (2 : Nat), off := { block := (2 : Nat), off := (2 : Nat), spot := some (0 : Nat) : Addr }.off, spot := some (0 : Nat) : Addr }) n_1 (0 : Nat)]), (n + (1 : Nat) + (0 : Nat), [Value.slice (some { block := (3 : Nat), off := { block := (3 : Nat), off := (2 : Nat), spot := some (0 : Nat) : Addr }.off, spot := some (0 : Nat) : Addr }) n_2 (0 : Nat)])], VObj.vec (9 : TypeId) (1 : Nat) n_1 fun j => [Value.string (h j)], VObj.vec (9 : TypeId) (1 : Nat) n_2 fun j => [Value.string (h_1 j)]] : VSt } { tmps := [Value.slice (some { block := (0 : Nat), off := (3 : Nat), spot := some (0 : Nat) : Addr }) N (0 : Nat), unk, unk, unk, unk, Value.slice (some { block := (1 : Nat), off := (1 : Nat), spot := some (0 : Nat) : Addr }) (n + (1 : Nat) + (1 : Nat)) (0 : Nat), Value.slice none (0 : Nat) (0 : Nat), Value.int IntKind.i64 (IntKind.i64.wrap ((↑j : Int) + (1 : Int))), unk, unk, unk, unk, unk, unk, unk, unk, unk, unk, unk, unk, unk, unk, unk, unk, unk, unk, unk, unk, unk, unk, unk, unk, unk, unk, unk, unk, unk, unk, unk, unk, unk, unk, unk, unk, unk, unk, unk, unk, unk, unk, unk, unk, unk, unk, unk, unk, unk, unk, unk, unk, unk, unk, unk, unk, unk, unk, unk, unk, unk, unk, unk, unk, unk, unk, unk, unk, unk, unk, unk, unk, unk, unk, unk, unk, unk, unk, unk, unk, unk, unk, unk, unk, unk, unk, unk, unk, unk, unk, unk, unk, unk, unk, unk, unk, unk, unk, unk, unk, unk, unk, unk, unk, unk, unk, unk, unk, unk, unk, unk, unk, unk, unk, unk, unk, unk, unk, unk, unk, unk, unk, unk, unk, unk, unk, unk, unk, unk, unk, unk, unk, unk, unk, unk, unk, unk, unk, unk, unk, unk, unk, unk, unk, unk, unk, unk, unk, unk, unk, unk, unk, unk, unk, unk, unk, unk, unk, unk, unk, unk, unk, unk, unk, unk, unk, unk, unk, unk, unk, unk, unk, unk, unk, unk, unk, unk, unk, unk, unk, unk, unk, unk, unk, unk, unk, unk, unk, unk, unk, unk, unk, unk, unk, unk, unk, unk, unk, unk, unk, unk, unk, unk, unk, unk, unk, unk, unk, unk, unk, unk, unk, unk, unk, unk, unk, unk, unk, unk, unk, unk, unk, unk, unk, unk], V := [VObj.arg (9 : TypeId) (1 : Nat) N fun i => [Value.string (ls i)], VObj.raw (22 : TypeId) (1 : Nat) (n + (1 : Nat) + (1 : Nat)) (0 : Nat) (twoF n f) [(n + (0 : Nat), [Value.slice (some { block := (2 : Nat), off := (2 : Nat), spot := some (0 : Nat) : Addr }) n_1 (0 : Nat)]), (n + (1 : Nat) + (0 : Nat), [Value.slice (some { block := (3 : Nat), off := (2 : Nat), spot := some (0 : Nat) : Addr }) n_2 (0 : Nat)])], VObj.vec (9 : TypeId) (1 : Nat) n_1 fun j => [Value.string (h j)], VObj.vec (9 : TypeId) (1 : Nat) n_2 fun j => [Value.string (h_1 j)]] : VSt }) (some (VObj.arg (9 : TypeId) (1 : Nat) N fun i => [Value.string (ls i)]) = some (VObj.arg (9 : TypeId) (1 : Nat) N fun i => [Value.string (ls i)]) ∧
    QSt { tmps := [Value.slice (some { block := (0 : Nat), off := { block := (0 : Nat), off := (3 : Nat), spot := some (0 : Nat) : Addr }.off, spot := some (0 : Nat) : Addr }) N (0 : Nat), unk, unk, unk, unk, Value.slice (some { block := (1 : Nat), off := { block := (1 : Nat), off := (1 : Nat), spot := some (0 : Nat) : Addr }.off, spot := some (0 : Nat) : Addr }) n (0 : Nat), Value.slice none (0 : Nat) (0 : Nat), Value.int IntKind.i64 (↑j : Int), unk, unk, unk, unk, unk, unk, unk, unk, unk, unk, unk, unk, unk, unk, unk, unk, unk, unk, unk, unk, unk, unk, unk, unk, unk, unk, unk, unk, unk, unk, unk, unk, unk, unk, unk, unk, unk, unk, unk, unk, unk, unk, unk, unk, unk, unk, unk, unk, unk, unk, unk, unk, unk, unk, unk, unk, unk, unk, unk, unk, unk, unk, unk, unk, unk, unk, unk, unk, unk, unk, unk, unk, unk, unk, unk, unk, unk, unk, unk, unk, unk, unk, unk, unk, unk, unk, unk, unk, unk, unk, unk, unk, unk, unk, unk, unk, unk, unk, unk, unk, unk, unk, unk, unk, unk, unk, unk, unk, unk, unk, unk, unk, unk, unk, unk, unk, unk, unk, unk, unk, unk, unk, unk, unk, unk, unk, unk, unk, unk, unk, unk, unk, unk, unk, unk, unk, unk, unk, unk, unk, unk, unk, unk, unk, unk, unk, unk, unk, unk, unk, unk, unk, unk, unk, unk, unk, unk, unk, unk, unk, unk, unk, unk, unk, unk, unk, unk, unk, unk, unk, unk, unk, unk, unk, unk, unk, unk, unk, unk, unk, unk, unk, unk, unk, unk, unk, unk, unk, unk, unk, unk, unk, unk, unk, unk, unk, unk, unk, unk, unk, unk, unk, unk, unk, unk, unk, unk, unk, unk, unk, unk, unk, unk, unk, unk, unk, unk, unk, unk, unk, unk, unk, unk, unk, unk], V := [VObj.arg (9 : TypeId) (1 : Nat) N fun i => [Value.string (ls i)], VObj.raw (22 : TypeId) (1 : Nat) n (0 : Nat) f []] : VSt } { tmps := [Value.slice (some { block := (0 : Nat), off := (3 : Nat), spot := some (0 : Nat) : Addr }) N (0 : Nat), unk, unk, unk, unk, Value.slice (some { block := (1 : Nat), off := (1 : Nat), spot := some (0 : Nat) : Addr }) n (0 : Nat), Value.slice none (0 : Nat) (0 : Nat), Value.int IntKind.i64 (↑j : Int), unk, unk, unk, unk, unk, unk, unk, unk, unk, unk, unk, unk, unk, unk, unk, unk, unk, unk, unk, unk, unk, unk, unk, unk, unk, unk, unk, unk, unk, unk, unk, unk, unk, unk, unk, unk, unk, unk, unk, unk, unk, unk, unk, unk, unk, unk, unk, unk, unk, unk, unk, unk, unk, unk, unk, unk, unk, unk, unk, unk, unk, unk, unk, unk, unk, unk, unk, unk, unk, unk, unk, unk, unk, unk, unk, unk, unk, unk, unk, unk, unk, unk, unk, unk, unk, unk, unk, unk, unk, unk, unk, unk, unk, unk, unk, unk, unk, unk, unk, unk, unk, unk, unk, unk, unk, unk, unk, unk, unk, unk, unk, unk, unk, unk, unk, unk, unk, unk, unk, unk, unk, unk, unk, unk, unk, unk, unk, unk, unk, unk, unk, unk, unk, unk, unk, unk, unk, unk, unk, unk, unk, unk, unk, unk, unk, unk, unk, unk, unk, unk, unk, unk, unk, unk, unk, unk, unk, unk, unk, unk, unk, unk, unk, unk, unk, unk, unk, unk, unk, unk, unk, unk, unk, unk, unk, unk, unk, unk, unk, unk, unk, unk, unk, unk, unk, unk, unk, unk, unk, unk, unk, unk, unk, unk, unk, unk, unk, unk, unk, unk, unk, unk, unk, unk, unk, unk, unk, unk, unk, unk, unk, unk, unk, unk, unk, unk, unk, unk, unk, unk, unk, unk, unk, unk, unk], V := [VObj.arg (9 : TypeId) (1 : Nat) N fun i => [Value.string (ls i)], VObj.raw (22 : TypeId) (1 : Nat) n (0 : Nat) f []] : VSt })) (some (VObj.arg (9 : TypeId) (1 : Nat) N fun i => [Value.string (ls i)]) = some (VObj.arg (9 : TypeId) (1 : Nat) N fun i => [Value.string (ls i)]) ∧
    QSt { tmps := [Value.slice (some { block := (0 : Nat), off := { block := (0 : Nat), off := (3 : Nat), spot := some (0 : Nat) : Addr }.off, spot := some (0 : Nat) : Addr }) N (0 : Nat), unk, unk, unk, unk, Value.slice (some { block := (1 : Nat), off := { block := (1 : Nat), off := (1 : Nat), spot := some (0 : Nat) : Addr }.off, spot := some (0 : Nat) : Addr }) n (0 : Nat), Value.slice none (0 : Nat) (0 : Nat), Value.int IntKind.i64 (↑j : Int), unk, unk, unk, unk, unk, unk, unk, unk, unk, unk, unk, unk, unk, unk, unk, unk, unk, unk, unk, unk, unk, unk, unk, unk, unk, unk, unk, unk, unk, unk, unk, unk, unk, unk, unk, unk, unk, unk, unk, unk, unk, unk, unk, unk, unk, unk, unk, unk, unk, unk, unk, unk, unk, unk, unk, unk, unk, unk, unk, unk, unk, unk, unk, unk, unk, unk, unk, unk, unk, unk, unk, unk, unk, unk, unk, unk, unk, unk, unk, unk, unk, unk, unk, unk, unk, unk, unk, unk, unk, unk, unk, unk, unk, unk, unk, unk, unk, unk, unk, unk, unk, unk, unk, unk, unk, unk, unk, unk, unk, unk, unk, unk, unk, unk, unk, unk, unk, unk, unk, unk, unk, unk, unk, unk, unk, unk, unk, unk, unk, unk, unk, unk, unk, unk, unk, unk, unk, unk, unk, unk, unk, unk, unk, unk, unk, unk, unk, unk, unk, unk, unk, unk, unk, unk, unk, unk, unk, unk, unk, unk, unk, unk, unk, unk, unk, unk, unk, unk, unk, unk, unk, unk, unk, unk, unk, unk, unk, unk, unk, unk, unk, unk, unk, unk, unk, unk, unk, unk, unk, unk, unk, unk, unk, unk, unk, unk, unk, unk, unk, unk, unk, unk, unk, unk, unk, unk, unk, unk, unk, unk, unk, unk, unk, unk, unk, unk, unk, unk, unk, unk, unk, unk, unk, unk, unk], V := [VObj.arg (9 : TypeId) (1 : Nat) N fun i => [Value.string (ls i)], VObj.raw (22 : TypeId) (1 : Nat) n (0 : Nat) f []] : VSt } { tmps := [Value.slice (some { block := (0 : Nat), off := (3 : Nat), spot := some (0 : Nat) : Addr }) N (0 : Nat), unk, unk, unk, unk, Value.slice (some { block := (1 : Nat), off := (1 : Nat), spot := some (0 : Nat) : Addr }) n (0 : Nat), Value.slice none (0 : Nat) (0 : Nat), Value.int IntKind.i64 (↑j : Int), unk, unk, unk, unk, unk, unk, unk, unk, unk, unk, unk, unk, unk, unk, unk, unk, unk, unk, unk, unk, unk, unk, unk, unk, unk, unk, unk, unk, unk, unk, unk, unk, unk, unk, unk, unk, unk, unk, unk, unk, unk, unk, unk, unk, unk, unk, unk, unk, unk, unk, unk, unk, unk, unk, unk, unk, unk, unk, unk, unk, unk, unk, unk, unk, unk, unk, unk, unk, unk, unk, unk, unk, unk, unk, unk, unk, unk, unk, unk, unk, unk, unk, unk, unk, unk, unk, unk, unk, unk, unk, unk, unk, unk, unk, unk, unk, unk, unk, unk, unk, unk, unk, unk, unk, unk, unk, unk, unk, unk, unk, unk, unk, unk, unk, unk, unk, unk, unk, unk, unk, unk, unk, unk, unk, unk, unk, unk, unk, unk, unk, unk, unk, unk, unk, unk, unk, unk, unk, unk, unk, unk, unk, unk, unk, unk, unk, unk, unk, unk, unk, unk, unk, unk, unk, unk, unk, unk, unk, unk, unk, unk, unk, unk, unk, unk, unk, unk, unk, unk, unk, unk, unk, unk, unk, unk, unk, unk, unk, unk, unk, unk, unk, unk, unk, unk, unk, unk, unk, unk, unk, unk, unk, unk, unk, unk, unk, unk, unk, unk, unk, unk, unk, unk, unk, unk, unk, unk, unk, unk, unk, unk, unk, unk, unk, unk, unk, unk, unk, unk, unk, unk, unk, unk, unk, unk], V := [VObj.arg (9 : TypeId) (1 : Nat) N fun i => [Value.string (ls i)], VObj.raw (22 : TypeId) (1 : Nat) n (0 : Nat) f []] : VSt })) (by kernel_rfl) ?_
  refine bsplit_iff.2 ⟨fun hlt => bsplit_iff.2 ⟨fun h4 => ?_, fun _ => ⟨rfl, ⟨rfl⟩⟩⟩, fun _ => ⟨rfl, ⟨rfl⟩⟩⟩
  have h4' : (j : Int) < 4096 := by simpa using h4
  have hj : j < N := by simp at hlt; omega
  have e0 : (0 : Nat) + (↑j : Int).toNat = j := by omega
  rw [e0]
  have idx : (0 : Int) ≤ (↑j : Int) ∧ (↑j : Int) + (1 : Int) ≤ (↑N : Int) ∧ (0 : Nat) + N ≤ N := ⟨by omega, by omega, by omega⟩
  have hs := hsz j hj
  have fit1 : fitsN (n + 1) 24 := ⟨by omega, by omega⟩
  have fit2 : fitsN (n + 1 + 1) 24 := ⟨by omega, by omega⟩
  have no : ∀ {ws : List ByteArray} {Q : Prop}, refOut (ls j) = none → refOut (ls j) = some ws → Q := fun h0 h1 => by rw [h0] at h1; cases h1
  have seen : ∀ (m : Nat) (h : Nat → ByteArray), seenRows (0 : Nat) m m fun j => [Value.string (h j)] := fun m h => ⟨by omega, fun j _ => rfl⟩
  have str : ∀ {ws : List ByteArray} {m : Nat} {h : Nat → ByteArray}, refOut (ls j) = some ws → SOut ws m h → StrRows m fun j => [Value.string (h j)] := fun h1 ⟨hl, _⟩ => ⟨⟨_, rfl⟩, by have := refOut_len h1; omega⟩
  have same : ∀ {ws ws' : List ByteArray} {m m' : Nat} {h h' : Nat → ByteArray}, refOut (ls j) = some ws → SOut ws m h → refOut (ls j) = some ws' → SOut ws' m' h' →
      SameIn m m' m m' (shiftF (0 : Nat) fun j => [Value.string (h j)]) (shiftF (0 : Nat) fun j => [Value.string (h' j)]) := by
    intro ws ws' m m' h h' h1 o1 h2 o2
    rw [h1] at h2
    cases h2
    obtain ⟨rfl, o1⟩ := o1
    obtain ⟨rfl, o2⟩ := o2
    have := refOut_len h1
    refine ⟨fun j => h (0 + j), fun j => h' (0 + j), rfl, rfl, rfl, rfl, rfl, by omega, fun i hi => ?_⟩
    rw [Nat.zero_add, o1 i ws[i] (by simp [hi]), o2 i ws[i] (by simp [hi])]
  exact ⟨idx, hj, hs, fun h0 => ⟨idx, hj, hs, fun _ => ⟨idx, hj, hs, fun _ => ⟨⟨rfl, rfl, trivial, fit1⟩, ⟨rfl, rfl, trivial, fit2⟩, rfl, h4', ⟨rfl⟩⟩, fun ws m h h1 _ => no h0 h1⟩,
      fun ws m h h1 _ => no h0 h1⟩,
    fun ws n1 h h1 o1 => ⟨idx, hj, hs, fun h0 => no h0 h1, fun ws2 n2 h' h2 o2 => ⟨idx, hj, hs, fun h0 => no h0 h1, fun ws3 n3 h'' h3 o3 =>
      ⟨seen _ _, seen _ _, same h1 o1 h3 o3, seen _ _, seen _ _, same h2 o2 h3 o3, ⟨rfl, rfl, trivial, fit1⟩, ⟨rfl, rfl, trivial, fit2⟩, rfl, h4', str h1 o1, str h2 o2, ⟨rfl⟩⟩⟩⟩⟩
end Go.Sh
