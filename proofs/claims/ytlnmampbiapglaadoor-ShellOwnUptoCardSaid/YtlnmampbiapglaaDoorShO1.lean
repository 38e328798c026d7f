/- ShellOwn: two lists of words compared, as a contract over slices that are read; the texts that mark. -/
import Derived.Test.YtlnmampbiapglaaDoorShG
import Derived.Test.YtlnmampbiapglaaDoorXSP
set_option linter.unusedSimpArgs false
set_option linter.unusedSectionVars false
set_option linter.unusedVariables false
namespace Go.Sh
open Go Go.X Go.Proofs
variable [WI]

def sameA : CallS := fun args V K =>
  match args, V with
  | [.slice none 0 0, .slice none 0 0], [] => K (.bool true) []
  | [.slice (some ⟨0, 3, some 0⟩) n 0, .slice (some ⟨1, 3, some 0⟩) m 0], [.arg 9 1 n1 f1, .arg 9 1 m1 g1] =>
    SameIn n m n1 m1 f1 g1 ∧ K (.bool true) [.arg 9 1 n1 f1, .arg 9 1 m1 g1]
  | _, _ => False

def samTm (n : Nat) (i : Int) : List Value := [.slice (some ⟨0, 3, some 0⟩) n 0, .slice (some ⟨1, 3, some 0⟩) n 0, unk, unk, unk, .int .i64 i] ++ List.replicate 20 unk
def samV (n : Nat) (h h' : Nat → ByteArray) : VW := [.arg 9 1 n fun j => [.string (h j)], .arg 9 1 n fun j => [.string (h' j)]]
def samJ (n : Nat) (h h' : Nat → ByteArray) (k : Nat) (S : VSt) : Prop :=
  match nth undef S.tmps 5, S.V with
  | .int .i64 i, V => leT (samTm n i) S.tmps ∧ QSt ⟨[], V⟩ ⟨[], samV n h h'⟩ ∧ SAt n k i
  | _, _ => False
def samE (n : Nat) (h h' : Nat → ByteArray) : VSt := ⟨List.replicate 26 unk, samV n h h'⟩
def samK (n : Nat) (h h' : Nat → ByteArray) (e : Exit) (S : VSt) : Prop :=
  match e with
  | .normal => QSt S (samE n h h')
  | _ => False
def samSel (_ : Exit) (_ : VSt) : List Sel := [.keep 0, .keep 1]

theorem samJ_eq {n : Nat} {h h' : Nat → ByteArray} {k : Nat} {S : VSt} (hJ : samJ n h h' k S) : ∃ j : Nat, leT (samTm n j) S.tmps ∧ S.V = samV n h h' ∧ j + k = n := by
  unfold samJ at hJ
  split at hJ
  · obtain ⟨h1, ⟨h2⟩, ⟨j, rfl, h3⟩⟩ := hJ
    exact ⟨j, h1, (VSt.mk.inj h2).2, h3⟩
  · exact hJ.elim

theorem sam_round (n : Nat) (h h' : Nat → ByteArray) (hl : n ≤ 4294967296) (hh : ∀ j, j < n → h j = h' j) (k : Nat) (S : VSt) (hJ : samJ n h h' k S) :
    Does Tryd.prog (roundOf Tryd.f9 0) S fun e S' => reshape 2 (samSel e S') (sameKs e) [] [] S' (roundR 0 (samJ n h h') k (samK n h h') e) := by
  obtain ⟨j, ht, hV, hj⟩ := samJ_eq hJ
  refine Does.weaken (S' := ⟨samTm n j, samV n h h'⟩) ?_ ht hV.symm (.of rfl fun k o hk => ?_)
  · refine of_code (ctxG_ok (l := []) (cs := []) (bs := []) .nil .nil) (n := 200) .g ?_
    refine by_nf (B := bsplit (decide ((↑j : Int) < (↑n : Int))) (((0 : Int) ≤ (↑j : Int) ∧
      (↑j : Int) + (1 : Int) ≤ (↑n : Int) ∧
      (0 : Nat) + n ≤ n) ∧
      ((0 : Nat) + (↑j : Int).toNat).succ ≤ n ∧
      ((0 : Int) ≤ (↑j : Int) ∧
      (↑j : Int) + (1 : Int) ≤ (↑n : Int) ∧
      (0 : Nat) + n ≤ n) ∧
      ((0 : Nat) + (↑j : Int).toNat).succ ≤ n ∧
      bsplit (!(h ((0 : Nat) + (↑j : Int).toNat)).data.toList == (h' ((0 : Nat) + (↑j : Int).toNat)).data.toList) False ((k = (0 : Nat) → False) ∧
      (Value.slice (some { block := (0 : Nat), off := (3 : Nat), spot := some (0 : Nat) : Addr }) n (0 : Nat) = Value.slice (some { block := (0 : Nat), off := { block := (0 : Nat), off := (3 : Nat), spot := some (0 : Nat) : Addr }.off, spot := some (0 : Nat) : Addr }) n (0 : Nat) ∧
      Value.slice (some { block := (1 : Nat), off := (3 : Nat), spot := some (0 : Nat) : Addr }) n (0 : Nat) = Value.slice (some { block := (1 : Nat), off := { block := (1 : Nat), off := (3 : Nat), spot := some (0 : Nat) : Addr }.off, spot := some (0 : Nat) : Addr }) n (0 : Nat) ∧
      Value.int IntKind.i64 (IntKind.i64.wrap ((↑j : Int) + (1 : Int))) = Value.int IntKind.i64 (IntKind.i64.wrap ((↑j : Int) + (1 : Int))) ∧
      True) ∧
      QSt { tmps := [], V := [VObj.arg (9 : TypeId) (1 : Nat) n fun j => [Value.string (h j)], VObj.arg (9 : TypeId) (1 : Nat) n fun j => [Value.string (h' j)]] : VSt } { tmps := [], V := [VObj.arg (9 : TypeId) (1 : Nat) n fun j => [Value.string (h j)], VObj.arg (9 : TypeId) (1 : Nat) n fun j => [Value.string (h' j)]] : VSt } ∧
      SAt n (k - (1 : Nat)) (IntKind.i64.wrap ((↑j : Int) + (1 : Int))))) (QSt { tmps := [unk, unk, unk, unk, unk, unk, unk, unk, unk, unk, unk, unk, unk, unk, unk, unk, unk, unk, unk, unk, unk, unk, unk, unk, unk, unk], V := [VObj.arg (9 : TypeId) (1 : Nat) n fun j => [Value.string (h j)], VObj.arg (9 : TypeId) (1 : Nat) n fun j => [Value.string (h' j)]] : VSt } { tmps := [unk, unk, unk, unk, unk, unk, unk, unk, unk, unk, unk, unk, unk, unk, unk, unk, unk, unk, unk, unk, unk, unk, unk, unk, unk, unk], V := [VObj.arg (9 : TypeId) (1 : Nat) n fun j => [Value.string (h j)], VObj.arg (9 : TypeId) (1 : Nat) n fun j => [Value.string (h' j)]] : VSt })) (by kernel_rfl) ?_
    refine bsplit_iff.2 ⟨fun hlt => ?_, fun hge => ⟨rfl⟩⟩
    have hlt : j < n := by simpa using hlt
    refine ⟨⟨by omega, by omega, by omega⟩, by omega, ⟨by omega, by omega, by omega⟩, by omega, bsplit_iff.2 ⟨fun hne => ?_, fun _ => ⟨by omega, ⟨rfl, rfl, rfl, trivial⟩, ⟨rfl⟩, ⟨j + 1, ?_, by omega⟩⟩⟩⟩
    · simp [hh j hlt] at hne
    · rw [w64 _ (by omega)]; rfl
  · match k, hk with
    | 0, hk => cases hk; trivial
    | 1, hk => cases hk; trivial

def samB (n : Nat) (h h' : Nat → ByteArray) : BlkS := fun S K =>
  reshape S.V.length (samSel .normal S) [0, 1, 5] [] [] S (samJ n h h' n) ∧ S.V.length = 2 ∧ K .normal (samE n h h')

theorem sam_loop (n : Nat) (h h' : Nat → ByteArray) (hl : n ≤ 4294967296) (hh : ∀ j, j < n → h j = h' j) (S : VSt) (K : Exit → VSt → Prop)
    (hB : samB n h h' S K) : Does Tryd.prog (.block 0 (.loop (roundOf Tryd.f9 0))) S K := by
  obtain ⟨h1, h2, h3⟩ := hB
  refine Does.mono (Does.loopR (K := samK n h h') sameKs samSel [] [] (samJ n h h') S (reshape_mono (fun S hS => ⟨_, hS⟩) h1) fun k S' hJ => ?_) fun e S' hK => ?_
  · rw [h2]; exact sam_round n h h' hl hh k S' hJ
  · cases e with
    | normal => obtain ⟨rfl⟩ := hK; exact h3
    | _ => exact hK.elim

theorem sameA_ok : CallOK Tryd.prog 9 sameA := by
  refine ⟨callable Tryd.func9 rfl (by decide +kernel), fun args V K hT => ?_⟩
  unfold sameA at hT
  split at hT
  · refine of_run (ctxG_ok (l := []) (cs := []) (bs := []) .nil .nil) (n := 200) Tryd.func9 rfl .g ?_
    refine by_nf (B := K (Value.bool true) []) (by kernel_rfl) ?_
    exact hT
  · rename_i n m n1 f1 m1 g1
    obtain ⟨⟨h, h', rfl, rfl, rfl, rfl, ⟨rfl, hl, hh⟩⟩, hK⟩ := hT
    refine of_run (ctxG_ok (l := []) (cs := []) (bs := [(0, samB _ h h')]) .nil .nil) (n := 200) Tryd.func9 rfl (.one rfl rfl (sam_loop _ h h' hl hh)) ?_
    refine by_nf (B := bsplit ((↑m1 : Int) != (↑m1 : Int)) (K (Value.bool false) [VObj.arg (9 : Nat) (1 : Nat) m1 fun j => [Value.string (h j)], VObj.arg (9 : Nat) (1 : Nat) m1 fun j => [Value.string (h' j)]]) (((Value.slice (some { block := (0 : Nat), off := (3 : Nat), spot := some (0 : Nat) : Addr }) m1 (0 : Nat) = Value.slice (some { block := (0 : Nat), off := { block := (0 : Nat), off := (3 : Nat), spot := some (0 : Nat) : Addr }.off, spot := some (0 : Nat) : Addr }) m1 (0 : Nat) ∧
      Value.slice (some { block := (1 : Nat), off := (3 : Nat), spot := some (0 : Nat) : Addr }) m1 (0 : Nat) = Value.slice (some { block := (1 : Nat), off := { block := (1 : Nat), off := (3 : Nat), spot := some (0 : Nat) : Addr }.off, spot := some (0 : Nat) : Addr }) m1 (0 : Nat) ∧
      Value.int IntKind.i64 (0 : Int) = Value.int IntKind.i64 (0 : Int) ∧
      True) ∧
      QSt { tmps := [], V := [VObj.arg (9 : Nat) (1 : Nat) m1 fun j => [Value.string (h j)], VObj.arg (9 : Nat) (1 : Nat) m1 fun j => [Value.string (h' j)]] : VSt } { tmps := [], V := [VObj.arg (9 : TypeId) (1 : Nat) m1 fun j => [Value.string (h j)], VObj.arg (9 : TypeId) (1 : Nat) m1 fun j => [Value.string (h' j)]] : VSt } ∧
      SAt m1 m1 (0 : Int)) ∧
      (2 : Nat) = (2 : Nat) ∧
      K (Value.bool true) [VObj.arg (9 : TypeId) (1 : Nat) m1 fun j => [Value.string (h j)], VObj.arg (9 : TypeId) (1 : Nat) m1 fun j => [Value.string (h' j)]])) (by kernel_rfl) ?_
    refine bsplit_iff.2 ⟨fun hne => ?_, fun _ => ⟨⟨⟨rfl, rfl, rfl, trivial⟩, ⟨rfl⟩, ⟨0, rfl, by omega⟩⟩, rfl, hK⟩⟩
    simp at hne
  · exact hT.elim
theorem frSame : CallOK Tryd.prog 9 (viewT sameA) := sameA_ok.viewed

/-! ### The texts that mark -/
def markS (n : Nat) : ByteArray := if h : n < 10 then ⟨#[UInt8.ofNat (48 + n)]⟩ else markS (n / 10) ++ ⟨#[UInt8.ofNat (48 + n % 10)]⟩
termination_by n
decreasing_by omega

theorem markS_size (n : Nat) : (markS n).size ≤ n + 1 := by
  induction n using Nat.strongRecOn with
  | _ n ih =>
    rw [markS]
    split
    · show 1 ≤ n + 1; omega
    · have := ih (n / 10) (by omega)
      rw [ByteArray.size_append]
      show _ + 1 ≤ n + 1
      omega

theorem dig_all : ∀ d : Fin 10, IntKind.u8.wrap (IntKind.i64.wrap ((48 : Int) + (d.val : Int))) = ((48 + d.val : Nat) : Int) := by decide +kernel
theorem dig_byte {n : Nat} (h : n < 256) : areBytes (nth [] [[Value.int IntKind.u8 (n : Int)]]) (0 : Nat) (1 : Nat) := ⟨fun j hj => ⟨UInt8.ofNat n, by
  obtain rfl : j = 0 := by omega
  show [Value.int IntKind.u8 (n : Int)] = [Value.int IntKind.u8 ((UInt8.ofNat n).toNat : Int)]
  have : (UInt8.ofNat n).toNat = n := by simp [UInt8.toNat_ofNat']; omega
  rw [this]⟩⟩
theorem dig_str (n : Nat) : strOf (nth [] [[Value.int IntKind.u8 (n : Int)]]) (0 : Nat) (1 : Nat) = ⟨#[UInt8.ofNat n]⟩ := rfl

theorem mark_lt (N : Nat) (hN : N ≤ 1000000) : FnOK Tryd.prog 10 (g1p (dInt .i64) (fun x => 0 ≤ x ∧ x < N) fun x => .string (markS x.toNat)) := by
  induction N with
  | zero => exact FnOK.g1p (callable Tryd.func10 rfl (by decide +kernel)) _ _ _ (fun _ => rfl) fun x hx => by omega
  | succ N ih =>
    have ih := ih (by omega)
    refine FnOK.g1p (callable Tryd.func10 rfl (by decide +kernel)) _ _ _ (fun _ => rfl) fun x hx => ?_
    refine of_run (ctxG_ok (cs := []) (bs := []) (.cons ih .nil) .nil) (n := 200) Tryd.func10 rfl .g ?_
    refine by_nf (B := bsplit (decide (x < (10 : Int))) (((1 : Nat) ≤ (1 : Nat) ∧
      areBytes (nth [] [[Value.int IntKind.u8 (IntKind.u8.wrap (IntKind.i64.wrap ((48 : Int) + x)))]]) (0 : Nat) (1 : Nat)) ∧
      Value.string (strOf (nth [] [[Value.int IntKind.u8 (IntKind.u8.wrap (IntKind.i64.wrap ((48 : Int) + x)))]]) (0 : Nat) (1 : Nat)) = Value.string (markS x.toNat)) (((10 : Int) = (0 : Int) → False) ∧
      ((0 : Int) ≤ IntKind.i64.wrap (x.tdiv (10 : Int)) ∧
      IntKind.i64.wrap (x.tdiv (10 : Int)) + (1 : Int) ≤ (↑N : Int)) ∧
      ((10 : Int) = (0 : Int) → False) ∧
      ((1 : Nat) ≤ (1 : Nat) ∧
      areBytes (nth [] [[Value.int IntKind.u8 (IntKind.u8.wrap (IntKind.i64.wrap ((48 : Int) + x.tmod (10 : Int))))]]) (0 : Nat) (1 : Nat)) ∧
      (↑((markS (IntKind.i64.wrap (x.tdiv (10 : Int))).toNat).size + (strOf (nth [] [[Value.int IntKind.u8 (IntKind.u8.wrap (IntKind.i64.wrap ((48 : Int) + x.tmod (10 : Int))))]]) (0 : Nat) (1 : Nat)).size) : Int) ≤ IntKind.i64.max ∧
      Value.string (markS (IntKind.i64.wrap (x.tdiv (10 : Int))).toNat ++ strOf (nth [] [[Value.int IntKind.u8 (IntKind.u8.wrap (IntKind.i64.wrap ((48 : Int) + x.tmod (10 : Int))))]]) (0 : Nat) (1 : Nat)) = Value.string (markS x.toNat))) (by kernel_rfl) ?_
    obtain ⟨n, rfl⟩ : ∃ n : Nat, x = n := ⟨x.toNat, by omega⟩
    have hn : n < N + 1 := by omega
    have hq : ((n : Int).tdiv 10) = ((n / 10 : Nat) : Int) := by rw [Int.tdiv_eq_ediv_of_nonneg (by omega)]; rfl
    have hr : ((n : Int).tmod 10) = ((n % 10 : Nat) : Int) := by rw [Int.tmod_eq_emod_of_nonneg (by omega)]; rfl
    have hw : IntKind.i64.wrap ((n / 10 : Nat) : Int) = ((n / 10 : Nat) : Int) := w64 _ (by omega)
    refine bsplit_iff.2 ⟨fun h => ?_, fun h => ?_⟩
    · have h10 : n < 10 := by simp at h; omega
      have hd := dig_all ⟨n, h10⟩
      dsimp only at hd
      rw [hd, dig_str, Int.toNat_natCast, markS, dif_pos h10]
      exact ⟨⟨Nat.le_refl _, dig_byte (by omega)⟩, rfl⟩
    · have h10 : ¬ n < 10 := by simp at h; omega
      have hd := dig_all ⟨n % 10, by omega⟩
      dsimp only at hd
      have hsz := markS_size (n / 10)
      rw [hq, hr, hw, hd, dig_str, Int.toNat_natCast, Int.toNat_natCast, markS.eq_def n, dif_neg h10]
      refine ⟨by omega, ⟨by omega, by omega⟩, by omega, ⟨Nat.le_refl _, dig_byte (by omega)⟩, ?_, rfl⟩
      have : (⟨#[UInt8.ofNat (48 + n % 10)]⟩ : ByteArray).size = 1 := rfl
      rw [this]
      have : IntKind.i64.max = 9223372036854775807 := by decide
      rw [this]
      omega
theorem mark_ok : FnOK Tryd.prog 10 (g1p (dInt .i64) (fun x => 0 ≤ x ∧ x < (1000000 : Nat)) fun x => .string (markS x.toNat)) := mark_lt 1000000 (Nat.le_refl _)
end Go.Sh
