/- ShellOwn: the law's function: its pieces between the loops. -/
import Derived.Test.YtlnmampbiapglaaDoorShOC
set_option linter.unusedSimpArgs false
set_option linter.unusedSectionVars false
set_option linter.unusedVariables false
set_option maxRecDepth 100000
namespace Go.Sh
open Go Go.X Go.Proofs
variable [WI]

def at_ (b : Code) : Nat → Code | 0 => b | k + 1 => cR (at_ b k)
def pc (b : Code) (k : Nat) : Code := cL (at_ b k)
theorem own_body : bodyOf Tryd.f4 = seqs [pc (bodyOf Tryd.f4) 0, pc (bodyOf Tryd.f4) 1, pc (bodyOf Tryd.f4) 2, pc (bodyOf Tryd.f4) 3, pc (bodyOf Tryd.f4) 4]
    (.seq (.seq (cL (pc (bodyOf Tryd.f4) 5)) (.block 0 (.loop (roundOf Tryd.f4 0)))) (.seq (.seq (cL (pc (bodyOf Tryd.f4) 6)) (.block 2 (.loop (roundOf Tryd.f4 2))))
      (.seq (.seq (cL (pc (bodyOf Tryd.f4) 7)) (.block 6 (.loop (roundOf Tryd.f4 6)))) (.seq (.seq (cL (pc (bodyOf Tryd.f4) 8)) (.block 10 (.loop (roundOf Tryd.f4 10)))) (at_ (bodyOf Tryd.f4) 9))))) := by kernel_rfl

def e0Tm (N : Nat) : List Value := [.slice (some ⟨0, 3, some 0⟩) N 0] ++ List.replicate 232 undef
def wpTm (N : Nat) : List Value := [.slice (some ⟨0, 3, some 0⟩) N 0, unk, unk, unk, unk, .slice (some ⟨1, 0, some 0⟩) 1 1, .slice none 0 0] ++ List.replicate 226 unk
def w0Tm (N : Nat) : List Value := [.slice (some ⟨0, 3, some 0⟩) N 0, unk, unk, unk, unk, .slice (some ⟨1, 1, some 0⟩) 1 0, .slice none 0 0] ++ List.replicate 226 unk
def w2Tm (n : Nat) : List Value := [unk, unk, unk, unk, unk, .slice (some ⟨1, 1, some 0⟩) n 0, .slice none 0 0] ++ List.replicate 226 unk
def w10Tm (n : Nat) : List Value := [unk, unk, unk, unk, unk, .slice (some ⟨1, 1, some 0⟩) n 0, s2 n] ++ List.replicate 226 unk

def setN (Sn : VSt) (e : Exit) (S : VSt) : Prop := match e with | .normal => QSt S Sn | _ => False
theorem z7 (N : Nat) (V : VW) : Does Tryd.prog (cL (pc (bodyOf Tryd.f4) 5)) ⟨w0Tm N, V⟩ (setN ⟨oTm N 1 0, V⟩) := by
  refine of_code (ctxG_ok (l := []) (cs := []) (bs := []) .nil .nil) (n := 200) .g ?_
  refine by_nf (B := QSt { tmps := [Value.slice (some { block := (0 : Nat), off := (3 : Nat), spot := some (0 : Nat) : Addr }) N (0 : Nat), unk, unk, unk, unk, Value.slice (some { block := (1 : Nat), off := (1 : Nat), spot := some (0 : Nat) : Addr }) (1 : Nat) (0 : Nat), Value.slice none (0 : Nat) (0 : Nat), Value.int IntKind.i64 (0 : Int)] ++ List.replicate 225 unk, V := { tmps := [Value.slice (some { block := (0 : Nat), off := (3 : Nat), spot := some (0 : Nat) : Addr }) N (0 : Nat), unk, unk, unk, unk, Value.slice (some { block := (1 : Nat), off := (1 : Nat), spot := some (0 : Nat) : Addr }) (1 : Nat) (0 : Nat), Value.slice none (0 : Nat) (0 : Nat)] ++ List.replicate 226 unk, V := V : VSt }.V : VSt } { tmps := [Value.slice (some { block := (0 : Nat), off := (3 : Nat), spot := some (0 : Nat) : Addr }) N (0 : Nat), unk, unk, unk, unk, Value.slice (some { block := (1 : Nat), off := (1 : Nat), spot := some (0 : Nat) : Addr }) (1 : Nat) (0 : Nat), Value.slice none (0 : Nat) (0 : Nat), Value.int IntKind.i64 (0 : Int)] ++ List.replicate 225 unk, V := V : VSt }) (by kernel_rfl) ?_
  exact ⟨rfl⟩
theorem z14 (n : Nat) (V : VW) : Does Tryd.prog (cL (pc (bodyOf Tryd.f4) 6)) ⟨w2Tm n, V⟩ (setN ⟨o2Tm n 0, V⟩) := by
  refine of_code (ctxG_ok (l := []) (cs := []) (bs := []) .nil .nil) (n := 200) .g ?_
  refine by_nf (B := QSt { tmps := [unk, unk, unk, unk, unk, Value.slice (some { block := (1 : Nat), off := (1 : Nat), spot := some (0 : Nat) : Addr }) n (0 : Nat), Value.slice none (0 : Nat) (0 : Nat), unk, unk, unk, unk, unk, unk, unk, Value.int IntKind.i64 (0 : Int)] ++ List.replicate 218 unk, V := { tmps := [unk, unk, unk, unk, unk, Value.slice (some { block := (1 : Nat), off := (1 : Nat), spot := some (0 : Nat) : Addr }) n (0 : Nat), Value.slice none (0 : Nat) (0 : Nat)] ++ List.replicate 226 unk, V := V : VSt }.V : VSt } { tmps := [unk, unk, unk, unk, unk, Value.slice (some { block := (1 : Nat), off := (1 : Nat), spot := some (0 : Nat) : Addr }) n (0 : Nat), Value.slice none (0 : Nat) (0 : Nat), unk, unk, unk, unk, unk, unk, unk, Value.int IntKind.i64 (0 : Int)] ++ List.replicate 218 unk, V := V : VSt }) (by kernel_rfl) ?_
  exact ⟨rfl⟩
theorem z17 (n : Nat) (V : VW) : Does Tryd.prog (cL (pc (bodyOf Tryd.f4) 7)) ⟨w2Tm n, V⟩ (setN ⟨o6Tm true n 0 0, V⟩) := by
  refine of_code (ctxG_ok (l := []) (cs := []) (bs := []) .nil .nil) (n := 200) .g ?_
  refine by_nf (B := QSt { tmps := [unk, unk, unk, unk, unk, Value.slice (some { block := (1 : Nat), off := (1 : Nat), spot := some (0 : Nat) : Addr }) n (0 : Nat), Value.slice none (0 : Nat) (0 : Nat), unk, unk, unk, unk, unk, unk, unk, unk, unk, unk, Value.int IntKind.i64 (0 : Int)] ++ List.replicate 215 unk, V := { tmps := [unk, unk, unk, unk, unk, Value.slice (some { block := (1 : Nat), off := (1 : Nat), spot := some (0 : Nat) : Addr }) n (0 : Nat), Value.slice none (0 : Nat) (0 : Nat)] ++ List.replicate 226 unk, V := V : VSt }.V : VSt } { tmps := [unk, unk, unk, unk, unk, Value.slice (some { block := (1 : Nat), off := (1 : Nat), spot := some (0 : Nat) : Addr }) n (0 : Nat), Value.slice none (0 : Nat) (0 : Nat), unk, unk, unk, unk, unk, unk, unk, unk, unk, unk, Value.int IntKind.i64 (0 : Int)] ++ List.replicate 215 unk, V := V : VSt }) (by kernel_rfl) ?_
  exact ⟨rfl⟩
theorem z20 (n : Nat) (V : VW) : Does Tryd.prog (cL (pc (bodyOf Tryd.f4) 8)) ⟨w10Tm n, V⟩ (setN ⟨laTm n 0, V⟩) := by
  refine of_code (ctxG_ok (l := []) (cs := []) (bs := []) .nil .nil) (n := 200) .g ?_
  refine by_nf (B := QSt { tmps := [unk, unk, unk, unk, unk, Value.slice (some { block := (1 : Nat), off := (1 : Nat), spot := some (0 : Nat) : Addr }) n (0 : Nat), Value.slice (some { block := (2 : Nat), off := (1 : Nat), spot := some (0 : Nat) : Addr }) n (0 : Nat), unk, unk, unk, unk, unk, unk, unk, unk, unk, unk, unk, unk, unk, Value.int IntKind.i64 (0 : Int)] ++ List.replicate 212 unk, V := { tmps := [unk, unk, unk, unk, unk, Value.slice (some { block := (1 : Nat), off := (1 : Nat), spot := some (0 : Nat) : Addr }) n (0 : Nat), Value.slice (some { block := (2 : Nat), off := (1 : Nat), spot := some (0 : Nat) : Addr }) n (0 : Nat)] ++ List.replicate 226 unk, V := V : VSt }.V : VSt } { tmps := [unk, unk, unk, unk, unk, Value.slice (some { block := (1 : Nat), off := (1 : Nat), spot := some (0 : Nat) : Addr }) n (0 : Nat), Value.slice (some { block := (2 : Nat), off := (1 : Nat), spot := some (0 : Nat) : Addr }) n (0 : Nat), unk, unk, unk, unk, unk, unk, unk, unk, unk, unk, unk, unk, unk, Value.int IntKind.i64 (0 : Int)] ++ List.replicate 212 unk, V := V : VSt }) (by kernel_rfl) ?_
  exact ⟨rfl⟩
theorem fin_ok (n : Nat) (V : VW) : Does Tryd.prog (at_ (bodyOf Tryd.f4) 9) ⟨laTm n n, V⟩ (xend Tryd.prog (ctxG [] [] []) Tryd.f4 fun v _ => v = .bool true) := by
  refine of_code (ctxG_ok (l := []) (cs := []) (bs := []) .nil .nil) (n := 200) .g ?_
  refine by_nf (B := Value.bool true = Value.bool true) (by kernel_rfl) ?_
  exact rfl

/-! ### The beginning -/
def pSel (e : Exit) (S : VSt) : List Sel := [.keep 0, .keep 2, .keep 1]
def pKs (e : Exit) : List Nat := [0, 5, 6]
structure POk (N : Nat) (ls : Nat → ByteArray) (S : VSt) : Prop where
  ex : ∃ h : Nat → ByteArray, S = ⟨wpTm N, [.arg 9 1 N fun i => [.string (ls i)], .raw 22 1 1 1 (fun _ => []) [(0, [.slice (some ⟨2, 2, some 0⟩) 2 0])], .vec 9 1 2 fun r => [.string (h r)]]⟩
def pLeaf (N : Nat) (ls : Nat → ByteArray) (e : Exit) (S : VSt) : Prop := match e with | .normal => POk N ls S | _ => False
def ab : ByteArray := ⟨#[97, 32, 34, 98, 34]⟩
theorem ref_ab : refOut ab = some [⟨#[97]⟩, ⟨#[98]⟩] := by decide +kernel

variable (hesc : FnOK Tryd.prog 20 (g1 dStr escV))
include hesc
theorem pre_ok (N : Nat) (ls : Nat → ByteArray) : Hold (Xs Tryd.prog (ctxG [mark10] [(7, wordsT refOut), (8, wordsT refOut), (9, viewT sameA)] []) 200 [pc (bodyOf Tryd.f4) 0, pc (bodyOf Tryd.f4) 1, pc (bodyOf Tryd.f4) 2, pc (bodyOf Tryd.f4) 3, pc (bodyOf Tryd.f4) 4] ⟨e0Tm N, [.arg 9 1 N fun i => [.string (ls i)]]⟩
    fun e S' => reshape 0 (pSel e S') (pKs e) [] [] S' (pLeaf N ls e)) := by
  refine by_nf (B := { data := #[(97 : UInt8), (32 : UInt8), (34 : UInt8), (98 : UInt8), (34 : UInt8)] : ByteArray }.size ≤ (2147483648 : Nat) ∧
    (some (if (runL (bytesL { data := #[(97 : UInt8), (32 : UInt8), (34 : UInt8), (98 : UInt8), (34 : UInt8)] : ByteArray }) rs0).In = (1 : Int) then stepEnds (runL (bytesL { data := #[(97 : UInt8), (32 : UInt8), (34 : UInt8), (98 : UInt8), (34 : UInt8)] : ByteArray }) rs0) (0 : Int) else runL (bytesL { data := #[(97 : UInt8), (32 : UInt8), (34 : UInt8), (98 : UInt8), (34 : UInt8)] : ByteArray }) rs0).Ws = none → False) ∧
    ∀ (ws : List ByteArray) (n : Nat) (h : Nat → ByteArray), some (if (runL (bytesL { data := #[(97 : UInt8), (32 : UInt8), (34 : UInt8), (98 : UInt8), (34 : UInt8)] : ByteArray }) rs0).In = (1 : Int) then stepEnds (runL (bytesL { data := #[(97 : UInt8), (32 : UInt8), (34 : UInt8), (98 : UInt8), (34 : UInt8)] : ByteArray }) rs0) (0 : Int) else runL (bytesL { data := #[(97 : UInt8), (32 : UInt8), (34 : UInt8), (98 : UInt8), (34 : UInt8)] : ByteArray }) rs0).Ws = some ws → SOut ws n h → bsplit ((↑n : Int) != (2 : Int)) False (((0 : Int) ≤ (0 : Int) ∧
    (0 : Int) + (1 : Int) ≤ (↑n : Int) ∧
    (0 : Nat) + n ≤ n) ∧
    Nat.succ (0 : Nat) ≤ n ∧
    bsplit (!(h (0 : Nat)).data.toList == { data := #[(97 : UInt8)] : ByteArray }.data.toList) False (((0 : Int) ≤ (1 : Int) ∧
    (1 : Int) + (1 : Int) ≤ (↑n : Int) ∧
    (0 : Nat) + n ≤ n) ∧
    Nat.succ (1 : Nat) ≤ n ∧
    bsplit (!(h (1 : Nat)).data.toList == { data := #[(98 : UInt8)] : ByteArray }.data.toList) False (POk N ls { tmps := [Value.slice (some { block := (0 : Nat), off := { block := (0 : Nat), off := (3 : Nat), spot := some (0 : Nat) : Addr }.off, spot := some (0 : Nat) : Addr }) N (0 : Nat), unk, unk, unk, unk, Value.slice (some { block := (1 : Nat), off := { block := (2 : Nat), off := (0 : Nat), spot := some (0 : Nat) : Addr }.off, spot := some (0 : Nat) : Addr }) (1 : Nat) (1 : Nat), Value.slice none (0 : Nat) (0 : Nat)] ++ List.replicate 226 unk, V := [VObj.arg (9 : TypeId) (1 : Nat) N fun i => [Value.string (ls i)], VObj.raw (22 : Nat) (1 : Nat) (1 : Nat) (1 : Nat) (fun x => []) [((0 : Nat), [Value.slice (some { block := (2 : Nat), off := { block := (1 : Nat), off := (2 : Nat), spot := some (0 : Nat) : Addr }.off, spot := some (0 : Nat) : Addr }) n (0 : Nat)])], VObj.vec (9 : TypeId) (1 : Nat) n fun j => [Value.string (h j)]] : VSt })))) (by kernel_rfl) ?_
  refine ⟨by decide, (fun h => by cases h), fun ws n h hw ho => ?_⟩
  have hw' : refOut ab = some ws := by rw [← hw]; kernel_rfl
  rw [ref_ab] at hw'
  obtain rfl := Option.some.inj hw'
  obtain ⟨rfl, ho⟩ := ho
  have h0 := ho 0 ⟨#[97]⟩ (by simp)
  have h1 := ho 1 ⟨#[98]⟩ (by simp)
  refine bsplit_iff.2 ⟨fun h => by simp at h, fun _ => ⟨⟨by omega, by simp, by simp⟩, by simp, bsplit_iff.2 ⟨fun h => ?_, fun _ => ⟨⟨by omega, by simp, by simp⟩, by simp, bsplit_iff.2 ⟨fun h => ?_, fun _ => ⟨h, rfl⟩⟩⟩⟩⟩⟩
  · rw [h0] at h; simp at h
  · rw [h1] at h; simp at h
end Go.Sh
