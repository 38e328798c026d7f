/- Is a rune one of the two bytes that no name may have? strings.IndexRune over them. -/
import Derived.Test.YtgnhcoefocbmpaaGreatNC0
import Derived.Laws.Runes
set_option linter.unusedSimpArgs false
set_option linter.unusedVariables false
set_option linter.unusedSectionVars false
set_option maxRecDepth 100000
namespace Go.Msg
open Go Go.X Go.Proofs
variable [WI]
noncomputable def cR0 : Ctx := { ctxG [] [] [] with ext := lookA kExt }
theorem ext_ok {l : List (Nat × FnS)} {cs : List (Nat × CallS)} {bs : List (Nat × BlkS)} (h : AllF Tryz.prog l) (hc : AllC Tryz.prog cs) : CtxOK Tryz.prog { ctxG l cs bs with ext := lookA kExt } := by
  have h1 := ctxG_ok (bs := bs) h hc
  exact ⟨h1.fn, h1.call, kExt_ok.look⟩
theorem ext_inl {C : Ctx} (hC : CtxOK Tryz.prog C) (hb' : ∀ i, C.blk i = none) (f : Nat) (fn : Func) (n : Nat) (c : Code) (hf : Tryz.prog.funcs[f]? = some fn) (hb : fn.body = some c) (hn : (fn.name == "runtime.NumGoroutine") = false) : CallOK Tryz.prog f (inl Tryz.prog C n fn) :=
  inl_ok hC n ⟨fn, hf, by rw [hb]; rfl, hn⟩ hf hb (BlksOK.none hb')
noncomputable def cR2 : Ctx := { ctxG [] [(267, inl Tryz.prog cR0 300 Tryz.f267)] [] with ext := lookA kExt }
theorem cR2_ok : CtxOK Tryz.prog cR2 := ext_ok .nil (.cons (ext_inl (ext_ok .nil .nil) (fun _ => rfl) 267 _ 300 _ Tryz.func267 rfl (by decide +kernel)) .nil)
def csR : List (Nat × CallS) := [(255, inl Tryz.prog cR2 300 Tryz.f255), (256, inl Tryz.prog c0 300 Tryz.f256), (257, inl Tryz.prog c0 300 Tryz.f257)]
theorem csR_ok : AllC Tryz.prog csR := .cons (ext_inl cR2_ok (fun _ => rfl) 255 _ 300 _ Tryz.func255 rfl (by decide +kernel)) (.cons (c0_inl 256 _ 300 _ Tryz.func256 rfl (by decide +kernel)) (.cons (c0_inl 257 _ 300 _ Tryz.func257 rfl (by decide +kernel)) .nil))
/-- the two bytes -/
def sl : ByteArray := ⟨#[47, 0]⟩
def tmF (r m : Int) : List Value := [.string sl, .int .i32 r, unk, unk, unk, unk, unk, .string (Utf8.encode r), .int .i64 m, .int .i64 m, .int .i64 0] ++ List.replicate 176 unk
def KF (e : Exit) (S : VSt) : Prop :=
  match e with
  | .normal => QSt S ⟨List.replicate 187 unk, []⟩
  | .ret => QSt S ⟨[unk, unk, unk, unk, .int .i64 (-1)] ++ List.replicate 182 unk, []⟩
  | _ => False
def ksF (e : Exit) : List Nat := match e with | .normal => [0, 1, 7, 8, 9, 10] | .ret => [4] | _ => []
def noSel (_ : Exit) (_ : VSt) : List Sel := []
structure Mb (r m : Int) : Prop where
  v : Utf8.valid r = true
  h : 128 ≤ r
  m : m = (Utf8.encode r).size - 1
def JF (r m : Int) (k : Nat) (S : VSt) : Prop := leT (tmF r m) S.tmps ∧ VEq S.V [] ∧ Mb r m
theorem strAt_last {s : ByteArray} {i : Nat} (h : i < s.size) : strAt s i = (s[i]'h).toNat := by
  unfold strAt
  have h' : i < s.data.size := h
  rw [Array.getD, dif_pos h']
  rfl
theorem blk_dead {C : Ctx} {c : Code} (hb : ∀ i T, C.blk i = some T → ∀ S K, ¬ T S K) : BlksOK Tryz.prog C c := fun id body T hm hT S K h => (hb id T hT S K h).elim
theorem dead_one (j i : Nat) (T : BlkS) (h : lookA [(j, ((fun _ _ => False : BlkS)))] i = some T) : ∀ S K, ¬ T S K := by
  unfold lookA at h
  split at h
  · cases h; exact fun _ _ h => h
  · simp [lookA] at h
theorem rF1 (r : Int) (k : Nat) (h : Mb r 1) :
    Does Tryz.prog (roundOf Tryz.f233 1) ⟨tmF r 1, []⟩ fun e S' => reshape 0 (noSel e S') (ksF e) [] [] S' (roundR 1 (JF r 1) k KF e) := by
  refine of_code (ext_ok (bs := [(3, fun _ _ => False)]) .nil csR_ok) (n := 300) (blk_dead fun i T h => dead_one 3 i T h) ?_
  refine by_nf (B := ((0 : Int) ≤ (1 : Int) ∧
    (1 : Int) + (1 : Int) ≤ (↑sl.size : Int)) ∧
    ((0 : Int) ≤ (1 : Int) ∧
    (1 : Int) + (1 : Int) ≤ (↑(Utf8.encode r).size : Int)) ∧
    bsplit ((↑(strAt sl (Int.toNat (1 : Int))) : Int) != (↑(strAt (Utf8.encode r) (Int.toNat (1 : Int))) : Int)) (((0 : Int) ≤ IntKind.i64.wrap ((1 : Int) + (1 : Int)) ∧
    IntKind.i64.wrap ((1 : Int) + (1 : Int)) ≤ (↑sl.size : Int) ∧
    (↑sl.size : Int) ≤ (↑sl.size : Int)) ∧
    ((0 : Int) ≤ (1 : Int) ∧
    (1 : Int) + (1 : Int) ≤ (↑(Utf8.encode r).size : Int)) ∧
    ((0 : Int) ≤ IntKind.i64.wrap ((1 : Int) + (1 : Int)) ∧
    IntKind.i64.wrap ((1 : Int) + (1 : Int)) ≤ (↑sl.size : Int) ∧
    (↑sl.size : Int) ≤ (↑sl.size : Int)) ∧
    ((0 : Int) ≤ (1 : Int) ∧
    (1 : Int) + (1 : Int) ≤ (↑(Utf8.encode r).size : Int)) ∧
    QSt { tmps := ([unk, unk, unk, unk, Value.int IntKind.i64 (-1 : Int)] ++ List.replicate 182 unk), V := [] : VSt } { tmps := ([unk, unk, unk, unk, Value.int IntKind.i64 (-1 : Int)] ++ List.replicate 182 unk), V := [] : VSt }) False) (by kernel_rfl) ?_
  obtain ⟨h1, h2, h3⟩ := h
  obtain ⟨f1, f2, f3⟩ := encode_facts r h1 h2
  have hs : (Utf8.encode r).size = 2 := by omega
  have hl : sl.size = 2 := rfl
  rw [hl, hs]
  refine ⟨⟨by omega, by omega⟩, ⟨by omega, by omega⟩, bsplit_iff.2 ⟨fun _ => ⟨⟨by decide, by decide, by omega⟩, ⟨by omega, by omega⟩, ⟨by decide, by decide, by omega⟩, ⟨by omega, by omega⟩, ⟨rfl⟩⟩, fun g => ?_⟩⟩
  have g : (strAt sl 1 : Int) = (strAt (Utf8.encode r) 1 : Int) := by simpa using g
  have e1 : strAt sl 1 = 0 := rfl
  have g2 : 128 ≤ strAt (Utf8.encode r) 1 := by
    rw [strAt_last (by omega)]
    have := f3 (by omega)
    simpa [hs] using this
  omega
theorem rF2 (r m : Int) (k : Nat) (h : Mb r m) (hm : 2 ≤ m) :
    Does Tryz.prog (roundOf Tryz.f233 1) ⟨tmF r m, []⟩ fun e S' => reshape 0 (noSel e S') (ksF e) [] [] S' (roundR 1 (JF r m) k KF e) := by
  refine of_code (ext_ok (bs := [(2, fun _ _ => False)]) .nil csR_ok) (n := 300) (blk_dead fun i T h => dead_one 2 i T h) ?_
  refine by_nf (B := bsplit (decide (m < (↑sl.size : Int))) False (QSt { tmps := (List.replicate 187 unk), V := [] : VSt } { tmps := (List.replicate 187 unk), V := [] : VSt })) (by kernel_rfl) ?_
  have hl : sl.size = 2 := rfl
  rw [hl]
  exact bsplit_iff.2 ⟨fun g => by
    have g : m < (2 : Int) := by simpa using g
    omega, fun _ => ⟨rfl⟩⟩
def BF (r : Int) : BlkS := fun S K => Is (Utf8.valid r = true ∧ 128 ≤ r) ∧ reshape S.V.length (noSel .normal S) (ksF .normal) [] [] S (JF r ((Utf8.encode r).size - 1) 0) ∧ S.V.length = 0 ∧
  K .normal ⟨List.replicate 187 unk, []⟩ ∧ K .ret ⟨[unk, unk, unk, unk, .int .i64 (-1)] ++ List.replicate 182 unk, []⟩
theorem lF (r : Int) (S : VSt) (K : Exit → VSt → Prop) (hB : BF r S K) : Does Tryz.prog (.block 1 (.loop (roundOf Tryz.f233 1))) S K := by
  obtain ⟨⟨hv, h128⟩, h1, h2, h3, h4⟩ := hB
  obtain ⟨f1, f2, f3⟩ := encode_facts r hv h128
  refine Does.mono (Does.loopR (K := KF) ksF noSel [] [] (JF r ((Utf8.encode r).size - 1)) S (reshape_mono (fun S hS => ⟨_, hS⟩) h1) fun k S' hJ => ?_) fun e S' hK => ?_
  · obtain ⟨ht, ⟨hV⟩, hA⟩ := hJ
    rw [h2]
    by_cases hs : (Utf8.encode r).size = 2
    · have e1 : (((Utf8.encode r).size : Int) - 1) = 1 := by omega
      rw [e1] at ht hA ⊢
      exact Does.weaken (rF1 r k hA) ht hV.symm (.of rfl fun i o hi => by simp at hi)
    · exact Does.weaken (rF2 r _ k hA (by omega)) ht hV.symm (.of rfl fun i o hi => by simp at hi)
  · cases e with
    | normal => obtain ⟨rfl⟩ := hK; exact h3
    | ret => obtain ⟨rfl⟩ := hK; exact h4
    | _ => exact False.elim hK
structure RuneV (r : Int) (v : Value) : Prop where
  ex : ∃ x, v = .int .i64 x ∧ (0 ≤ x ↔ r = 0 ∨ r = 47)
theorem rune_does (r : Int) (h0 : 0 ≤ r) : CallDoes Tryz.prog 233 [.string sl, .int .i32 r] [] fun v V => RuneV r v ∧ VEq V [] := by
  refine CallDoes.reshape (fun _ _ => []) [] [] ?_
  refine of_run (ext_ok (bs := [(1, BF r)]) .nil csR_ok) (n := 300) Tryz.func233 rfl (.one rfl rfl (lF r)) ?_
  refine by_nf (B := bsplit (decide ((0 : Int) ≤ r))
    (bsplit (decide (r < (128 : Int))) (RuneV r (Value.int IntKind.i64 (Lib.indexByte sl.data.toList (IntKind.u8.wrap r).toNat.toUInt8)) ∧
    VEq [] [])
    (bsplit (r == (65533 : Int)) (True ∧
    RuneV r (Value.int IntKind.i64 (-1 : Int)) ∧
    VEq [] [])
    (bsplit (decide ((0 : Int) ≤ r))
    (bsplit (decide (r < (55296 : Int))) (Is (Utf8.valid r = true ∧
    (128 : Int) ≤ r) ∧
    ((Value.string sl = Value.string sl ∧
    Value.int IntKind.i32 r = Value.int IntKind.i32 r ∧
    Value.string (Utf8.encode r) = Value.string (Utf8.encode r) ∧
    Value.int IntKind.i64 ((↑(Utf8.encode r).size : Int) - (1 : Int)) = Value.int IntKind.i64 (IntKind.i64.wrap ((↑(Utf8.encode r).size : Int) - (1 : Int))) ∧
    Value.int IntKind.i64 ((↑(Utf8.encode r).size : Int) - (1 : Int)) = Value.int IntKind.i64 (IntKind.i64.wrap ((↑(Utf8.encode r).size : Int) - (1 : Int))) ∧
    Value.int IntKind.i64 (0 : Int) = Value.int IntKind.i64 (0 : Int) ∧
    True) ∧
    VEq [] [] ∧
    Mb r ((↑(Utf8.encode r).size : Int) - (1 : Int))) ∧
    (0 : Nat) = (0 : Nat) ∧
    (RuneV r (Value.int IntKind.i64 (-1 : Int)) ∧
    VEq [] []) ∧
    RuneV r (Value.int IntKind.i64 (-1 : Int)) ∧
    VEq [] [])
    (bsplit (decide ((57343 : Int) < r))
    (bsplit (decide (r ≤ (1114111 : Int))) (Is (Utf8.valid r = true ∧
    (128 : Int) ≤ r) ∧
    ((Value.string sl = Value.string sl ∧
    Value.int IntKind.i32 r = Value.int IntKind.i32 r ∧
    Value.string (Utf8.encode r) = Value.string (Utf8.encode r) ∧
    Value.int IntKind.i64 ((↑(Utf8.encode r).size : Int) - (1 : Int)) = Value.int IntKind.i64 (IntKind.i64.wrap ((↑(Utf8.encode r).size : Int) - (1 : Int))) ∧
    Value.int IntKind.i64 ((↑(Utf8.encode r).size : Int) - (1 : Int)) = Value.int IntKind.i64 (IntKind.i64.wrap ((↑(Utf8.encode r).size : Int) - (1 : Int))) ∧
    Value.int IntKind.i64 (0 : Int) = Value.int IntKind.i64 (0 : Int) ∧
    True) ∧
    VEq [] [] ∧
    Mb r ((↑(Utf8.encode r).size : Int) - (1 : Int))) ∧
    (0 : Nat) = (0 : Nat) ∧
    (RuneV r (Value.int IntKind.i64 (-1 : Int)) ∧
    VEq [] []) ∧
    RuneV r (Value.int IntKind.i64 (-1 : Int)) ∧
    VEq [] []) (RuneV r (Value.int IntKind.i64 (-1 : Int)) ∧
    VEq [] [])) (RuneV r (Value.int IntKind.i64 (-1 : Int)) ∧
    VEq [] [])))
    (bsplit (decide ((57343 : Int) < r))
    (bsplit (decide (r ≤ (1114111 : Int))) (Is (Utf8.valid r = true ∧
    (128 : Int) ≤ r) ∧
    ((Value.string sl = Value.string sl ∧
    Value.int IntKind.i32 r = Value.int IntKind.i32 r ∧
    Value.string (Utf8.encode r) = Value.string (Utf8.encode r) ∧
    Value.int IntKind.i64 ((↑(Utf8.encode r).size : Int) - (1 : Int)) = Value.int IntKind.i64 (IntKind.i64.wrap ((↑(Utf8.encode r).size : Int) - (1 : Int))) ∧
    Value.int IntKind.i64 ((↑(Utf8.encode r).size : Int) - (1 : Int)) = Value.int IntKind.i64 (IntKind.i64.wrap ((↑(Utf8.encode r).size : Int) - (1 : Int))) ∧
    Value.int IntKind.i64 (0 : Int) = Value.int IntKind.i64 (0 : Int) ∧
    True) ∧
    VEq [] [] ∧
    Mb r ((↑(Utf8.encode r).size : Int) - (1 : Int))) ∧
    (0 : Nat) = (0 : Nat) ∧
    (RuneV r (Value.int IntKind.i64 (-1 : Int)) ∧
    VEq [] []) ∧
    RuneV r (Value.int IntKind.i64 (-1 : Int)) ∧
    VEq [] []) (RuneV r (Value.int IntKind.i64 (-1 : Int)) ∧
    VEq [] [])) (RuneV r (Value.int IntKind.i64 (-1 : Int)) ∧
    VEq [] [])))))
    (bsplit (r == (65533 : Int)) (True ∧
    RuneV r (Value.int IntKind.i64 (-1 : Int)) ∧
    VEq [] [])
    (bsplit (decide ((0 : Int) ≤ r))
    (bsplit (decide (r < (55296 : Int))) (Is (Utf8.valid r = true ∧
    (128 : Int) ≤ r) ∧
    ((Value.string sl = Value.string sl ∧
    Value.int IntKind.i32 r = Value.int IntKind.i32 r ∧
    Value.string (Utf8.encode r) = Value.string (Utf8.encode r) ∧
    Value.int IntKind.i64 ((↑(Utf8.encode r).size : Int) - (1 : Int)) = Value.int IntKind.i64 (IntKind.i64.wrap ((↑(Utf8.encode r).size : Int) - (1 : Int))) ∧
    Value.int IntKind.i64 ((↑(Utf8.encode r).size : Int) - (1 : Int)) = Value.int IntKind.i64 (IntKind.i64.wrap ((↑(Utf8.encode r).size : Int) - (1 : Int))) ∧
    Value.int IntKind.i64 (0 : Int) = Value.int IntKind.i64 (0 : Int) ∧
    True) ∧
    VEq [] [] ∧
    Mb r ((↑(Utf8.encode r).size : Int) - (1 : Int))) ∧
    (0 : Nat) = (0 : Nat) ∧
    (RuneV r (Value.int IntKind.i64 (-1 : Int)) ∧
    VEq [] []) ∧
    RuneV r (Value.int IntKind.i64 (-1 : Int)) ∧
    VEq [] [])
    (bsplit (decide ((57343 : Int) < r))
    (bsplit (decide (r ≤ (1114111 : Int))) (Is (Utf8.valid r = true ∧
    (128 : Int) ≤ r) ∧
    ((Value.string sl = Value.string sl ∧
    Value.int IntKind.i32 r = Value.int IntKind.i32 r ∧
    Value.string (Utf8.encode r) = Value.string (Utf8.encode r) ∧
    Value.int IntKind.i64 ((↑(Utf8.encode r).size : Int) - (1 : Int)) = Value.int IntKind.i64 (IntKind.i64.wrap ((↑(Utf8.encode r).size : Int) - (1 : Int))) ∧
    Value.int IntKind.i64 ((↑(Utf8.encode r).size : Int) - (1 : Int)) = Value.int IntKind.i64 (IntKind.i64.wrap ((↑(Utf8.encode r).size : Int) - (1 : Int))) ∧
    Value.int IntKind.i64 (0 : Int) = Value.int IntKind.i64 (0 : Int) ∧
    True) ∧
    VEq [] [] ∧
    Mb r ((↑(Utf8.encode r).size : Int) - (1 : Int))) ∧
    (0 : Nat) = (0 : Nat) ∧
    (RuneV r (Value.int IntKind.i64 (-1 : Int)) ∧
    VEq [] []) ∧
    RuneV r (Value.int IntKind.i64 (-1 : Int)) ∧
    VEq [] []) (RuneV r (Value.int IntKind.i64 (-1 : Int)) ∧
    VEq [] [])) (RuneV r (Value.int IntKind.i64 (-1 : Int)) ∧
    VEq [] [])))
    (bsplit (decide ((57343 : Int) < r))
    (bsplit (decide (r ≤ (1114111 : Int))) (Is (Utf8.valid r = true ∧
    (128 : Int) ≤ r) ∧
    ((Value.string sl = Value.string sl ∧
    Value.int IntKind.i32 r = Value.int IntKind.i32 r ∧
    Value.string (Utf8.encode r) = Value.string (Utf8.encode r) ∧
    Value.int IntKind.i64 ((↑(Utf8.encode r).size : Int) - (1 : Int)) = Value.int IntKind.i64 (IntKind.i64.wrap ((↑(Utf8.encode r).size : Int) - (1 : Int))) ∧
    Value.int IntKind.i64 ((↑(Utf8.encode r).size : Int) - (1 : Int)) = Value.int IntKind.i64 (IntKind.i64.wrap ((↑(Utf8.encode r).size : Int) - (1 : Int))) ∧
    Value.int IntKind.i64 (0 : Int) = Value.int IntKind.i64 (0 : Int) ∧
    True) ∧
    VEq [] [] ∧
    Mb r ((↑(Utf8.encode r).size : Int) - (1 : Int))) ∧
    (0 : Nat) = (0 : Nat) ∧
    (RuneV r (Value.int IntKind.i64 (-1 : Int)) ∧
    VEq [] []) ∧
    RuneV r (Value.int IntKind.i64 (-1 : Int)) ∧
    VEq [] []) (RuneV r (Value.int IntKind.i64 (-1 : Int)) ∧
    VEq [] [])) (RuneV r (Value.int IntKind.i64 (-1 : Int)) ∧
    VEq [] []))))) (by kernel_rfl) ?_
  have neg : 128 ≤ r → RuneV r (Value.int IntKind.i64 (-1 : Int)) ∧ VEq [] [] := fun h => ⟨⟨-1, rfl, by omega⟩, ⟨rfl⟩⟩
  have main : 128 ≤ r → Utf8.valid r = true → Is (Utf8.valid r = true ∧ (128 : Int) ≤ r) ∧
    ((Value.string sl = Value.string sl ∧ Value.int IntKind.i32 r = Value.int IntKind.i32 r ∧ Value.string (Utf8.encode r) = Value.string (Utf8.encode r) ∧
    Value.int IntKind.i64 ((↑(Utf8.encode r).size : Int) - (1 : Int)) = Value.int IntKind.i64 (IntKind.i64.wrap ((↑(Utf8.encode r).size : Int) - (1 : Int))) ∧
    Value.int IntKind.i64 ((↑(Utf8.encode r).size : Int) - (1 : Int)) = Value.int IntKind.i64 (IntKind.i64.wrap ((↑(Utf8.encode r).size : Int) - (1 : Int))) ∧
    Value.int IntKind.i64 (0 : Int) = Value.int IntKind.i64 (0 : Int) ∧ True) ∧ VEq [] [] ∧ Mb r ((↑(Utf8.encode r).size : Int) - (1 : Int))) ∧ (0 : Nat) = (0 : Nat) ∧
    (RuneV r (Value.int IntKind.i64 (-1 : Int)) ∧ VEq [] []) ∧ RuneV r (Value.int IntKind.i64 (-1 : Int)) ∧ VEq [] [] := fun h hv => by
    obtain ⟨f1, f2, _⟩ := encode_facts r hv h
    rw [w64 _ (by omega)]
    exact ⟨⟨hv, h⟩, ⟨⟨rfl, rfl, rfl, rfl, rfl, rfl, trivial⟩, ⟨rfl⟩, ⟨hv, h, rfl⟩⟩, rfl, neg h, neg h⟩
  have small : ∀ n : Nat, n < 128 → ((0 ≤ Lib.indexByte sl.data.toList (IntKind.u8.wrap (n : Int)).toNat.toUInt8) ↔ n = 0 ∨ n = 47) := by decide +kernel
  have vd : (r < 55296 ∨ 57343 < r ∧ r ≤ 1114111) → Utf8.valid r = true := fun h => by
    rw [validRune_eq]
    exact decide_eq_true (by omega)
  refine bsplit_iff.2 ⟨fun _ => bsplit_iff.2 ⟨fun g => ⟨⟨_, rfl, ?_⟩, ⟨rfl⟩⟩, fun g => ?_⟩, fun g => absurd (of_decide_eq_false g) (by omega)⟩
  · have g := of_decide_eq_true g
    have := small r.toNat (by omega)
    rw [show ((r.toNat : Nat) : Int) = r by omega] at this
    omega
  · have g : 128 ≤ r := by have := of_decide_eq_false g; omega
    refine bsplit_iff.2 ⟨fun _ => ⟨trivial, neg g⟩, fun _ => bsplit_iff.2 ⟨fun _ => bsplit_iff.2 ⟨fun g1 => main g (vd (.inl (of_decide_eq_true g1))), fun _ => bsplit_iff.2 ⟨fun g1 => bsplit_iff.2 ⟨fun g2 => main g (vd (.inr ⟨of_decide_eq_true g1, of_decide_eq_true g2⟩)), fun _ => neg g⟩, fun _ => neg g⟩⟩,
      fun g0 => absurd (of_decide_eq_false g0) (by omega)⟩⟩
def T233 : CallS := fun args V K => match args with | [.string a, .int .i32 r] => Is (a = sl ∧ 0 ≤ r) ∧ ∀ v, Is (0 ≤ v ↔ r = 0 ∨ r = 47) → K (.int .i64 v) V | _ => False
theorem T233_ok : CallOK Tryz.prog 233 T233 := by
  refine ⟨callable Tryz.func233 rfl (by decide +kernel), fun args V K hT => ?_⟩
  unfold T233 at hT
  split at hT
  · rename_i a r
    obtain ⟨⟨rfl, h0⟩, hK⟩ := hT
    refine CallDoes.frame (fun x hx => by simp at hx; rcases hx with rfl | rfl <;> exact .plain rfl) ?_
    refine CallDoes.mono1 (fun v V' hv => ?_) (rune_does r h0)
    obtain ⟨⟨x, rfl, hx⟩, ⟨rfl⟩⟩ := hv
    exact ⟨(fun o ho => by simp at ho), by simpa [renB] using hK x ⟨hx⟩⟩
  · exact hT.elim
end Go.Msg
