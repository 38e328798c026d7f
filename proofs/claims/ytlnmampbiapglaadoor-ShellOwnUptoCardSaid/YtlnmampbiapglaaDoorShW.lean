/- The shell's own Words: its loops. -/
import Derived.Test.YtlnmampbiapglaaDoorShL
set_option linter.unusedSimpArgs false
set_option linter.unusedSectionVars false
set_option linter.unusedVariables false
namespace Go.Sh
open Go Go.X Go.Proofs
variable [WI]

theorem RowS.uniq {f : Nat → List Value} {a b : List ByteArray} (ha : RowS f a) (hb : RowS f b) (hl : a.length = b.length) : a = b := by
  apply List.ext_getElem hl
  intro j h1 h2
  have e1 := ha j a[j] (by simp [h1])
  have e2 := hb j b[j] (by simp [h2])
  rw [e1] at e2
  simpa using e2

structure PPre (n n' : Nat) (f : Nat → List Value) : Prop where
  ex : ∃ ws : List ByteArray, n = ws.length ∧ n' = ws.length ∧ RowS f ws ∧ ws.length < 4294967296
structure PRes (n : Nat) (f : Nat → List Value) (w : ByteArray) (m : Nat) (g : Nat → List Value) : Prop where
  ex : ∃ ws : List ByteArray, n = ws.length ∧ RowS f ws ∧ m = (plainL ws (bytesL w)).length ∧ RowS g (plainL ws (bytesL w))
def plainT : CallS := fun args V K =>
  match args, V with
  | [.slice (some ⟨0, 2, some 0⟩) n 0, .string w], [.vec 9 1 n' f, .iter s pos] => PPre n n' f ∧ ∀ m g, PRes n f w m g → K (.slice (some ⟨2, 2, some 0⟩) m 0) [.dead, .iter s pos, .vec 9 1 m g]
  | _, _ => False
structure PLeaf (n : Nat) (f : Nat → List Value) (w : ByteArray) (s : ByteArray) (pos : Nat) (m m' : Nat) (g : Nat → List Value) (s' : ByteArray) (pos' : Nat) : Prop where
  res : PRes n f w m g
  hm : m' = m
  hs : s' = s
  hp : pos' = pos
def plLeaf (n : Nat) (f : Nat → List Value) (w : ByteArray) (s : ByteArray) (pos : Nat) (S : VSt) : Prop :=
  match S.tmps, S.V with
  | [.slice (some ⟨2, 2, some 0⟩) m 0], [.dead, .iter s' pos', .vec 9 1 m' g] => PLeaf n f w s pos m m' g s' pos'
  | _, _ => False
def plSel (v : Value) (V : VW) : List Sel := match v with | .slice (some a) _ _ => [.drop 0, .keep 1, selV V a.block] | _ => []

theorem empty_iff (w : ByteArray) : (w.data.toList == (⟨#[]⟩ : ByteArray).data.toList) = decide (bytesL w = []) := by
  rw [Bool.eq_iff_iff]
  simp [bytesL]

theorem plain_run (ws : List ByteArray) (f : Nat → List Value) (w : ByteArray) (s : ByteArray) (pos : Nat) (hf : RowS f ws) (hl : ws.length < 4294967296) :
    CallDoes Tryd.prog 13 [.slice (some ⟨0, 2, some 0⟩) ws.length 0, .string w] [.vec 9 1 ws.length f, .iter s pos] fun v V' => reshape 2 (plSel v V') [0] [] [] ⟨[v], V'⟩ (plLeaf ws.length f w s pos) := by
  refine of_run (ctxG_ok (l := []) (cs := []) (bs := []) .nil .nil) (n := 200) Tryd.func13 rfl .g ?_
  refine by_nf (B := bsplit (w.data.toList == { data := #[] : ByteArray }.data.toList) (PLeaf ws.length f w s pos ws.length ws.length f s pos) (((1 : Nat) ≤ (1 : Nat) ∧
    ws.length = ws.length ∧
    Nat.succ (0 : Nat) ≤ (1 : Nat) ∧
    fitsN (ws.length + (1 : Nat)) (16 : Nat)) ∧
    Nat.succ (0 : Nat) ≤ ws.length + (1 : Nat) ∧
    PLeaf ws.length f w s pos (ws.length + (1 : Nat)) (ws.length + (1 : Nat)) (joinF ws.length f fun j => nth [] [[Value.string w]] ((0 : Nat) + j)) s pos)) (by kernel_rfl) ?_
  rw [empty_iff]
  refine bsplit_iff.2 ⟨fun h => ⟨⟨ws, rfl, hf, ?_, ?_⟩, rfl, rfl, rfl⟩, fun h => ?_⟩
  · have h : bytesL w = [] := by simpa using h
    simp [plainL, h]
  · have h : bytesL w = [] := by simpa using h
    simpa [plainL, h] using hf
  · have h : ¬ bytesL w = [] := by simpa using h
    refine ⟨⟨by omega, rfl, by omega, ⟨by omega, by omega⟩⟩, by omega, ⟨⟨ws, rfl, hf, ?_, ?_⟩, rfl, rfl, rfl⟩⟩
    · simp [plainL, h]
    · have := hf.app (c := w) rfl
      simp only [plainL, h, if_false]
      exact this

theorem plain_ok : CallOK Tryd.prog 13 plainT := by
  refine ⟨callable Tryd.func13 rfl (by decide +kernel), fun args V K hT => ?_⟩
  unfold plainT at hT
  split at hT
  · rename_i n w n' f s pos
    obtain ⟨⟨ws, rfl, rfl, hf, hl⟩, hK⟩ := hT
    refine CallDoes.reshape plSel [] [] ?_
    intro env wd hW hsc
    refine (plain_run ws f w s pos hf hl env wd hW hsc).mono ?_
    rintro e w' ⟨u, env', V', v, g1, g2, g3, g4, g5⟩
    refine ⟨u, env', V', v, g1, g2, g3, g4, reshape_mono (fun S hS => ?_) g5⟩
    unfold plLeaf at hS
    unfold one1
    split at hS
    · rename_i e1 e2
      rw [e1, e2]
      obtain ⟨h1, rfl, rfl, rfl⟩ := hS
      exact hK _ _ h1
    · exact hS.elim
  · exact hT.elim

/-! ### What holds at the loops -/
structure OutAt (tgt : Option (List ByteArray)) (l : ByteArray) (n n' : Nat) (f : Nat → List Value) (ap : Bool) : Prop where
  ex : ∃ (ws : List ByteArray) (D : Int), n = ws.length ∧ n' = ws.length ∧ RowS f ws ∧ ws.length + l.size ≤ 2147483648 ∧ (ap = false → blankHead (bytesL l)) ∧
    tgt = finR (runL (bytesL l) ⟨if ap = true then 0 else 6, [], ws, D, false⟩)
structure InnAt (tgt : Option (List ByteArray)) (l0 l l' : ByteArray) (pos n n' : Nat) (f : Nat → List Value) (ap : Bool) (k : Nat) : Prop where
  hl : l = l0
  hl' : l' = l0
  ex : ∃ (ws : List ByteArray) (D : Int), n = ws.length ∧ n' = ws.length ∧ RowS f ws ∧ ws.length + l0.size ≤ 2147483648 ∧ l0.size ≤ pos + k ∧ pos ≤ l0.size ∧ 0 < l0.size ∧
    (ap = false → blankHead (bytesL l0) ∧ pos = 0) ∧ tgt = finR (runL ((bytesL l0).drop pos) (innSt (bytesL l0) pos ap ws D))
structure InnStop (tgt : Option (List ByteArray)) (l : ByteArray) (n n' : Nat) (f : Nat → List Value) : Prop where
  ex : ∃ ws : List ByteArray, n = ws.length ∧ n' = ws.length ∧ RowS f ws ∧ ws.length < 4294967296 ∧ tgt = some (plainL ws (bytesL l))
structure RetOk (tgt : Option (List ByteArray)) (n n' : Nat) (f : Nat → List Value) : Prop where
  ex : ∃ ws : List ByteArray, n = ws.length ∧ n' = ws.length ∧ RowS f ws ∧ tgt = some ws
structure RetNo (tgt : Option (List ByteArray)) : Prop where
  no : tgt = none
structure LtSz (a b : ByteArray) : Prop where
  lt : a.size < b.size

def innTm (l : ByteArray) (n : Nat) (ap : Bool) : List Value := [.string l, unk, unk, unk, .slice (some ⟨0, 2, some 0⟩) n 0, .bool ap] ++ List.replicate 8 unk ++ [.pointer (some ⟨1, 0, none⟩)] ++ List.replicate 76 unk
def innV (n : Nat) (f : Nat → List Value) (l : ByteArray) (pos : Nat) : VW := [.vec 9 1 n f, .iter l pos]
def stopS (l : ByteArray) (n : Nat) (f : Nat → List Value) (ap : Bool) (l' : ByteArray) (pos : Nat) : VSt := ⟨[.string l, unk, unk, unk, .slice (some ⟨0, 2, some 0⟩) n 0, .bool ap] ++ List.replicate 85 unk, [.vec 9 1 n f, .iter l' pos]⟩
def contS (l : ByteArray) (n : Nat) (f : Nat → List Value) (ap : Bool) : VSt := ⟨[.string l, unk, unk, unk, .slice (some ⟨2, 2, some 0⟩) n 0, .bool ap] ++ List.replicate 85 unk, [.dead, .dead, .vec 9 1 n f]⟩
def retS (n : Nat) (f : Nat → List Value) : VSt := ⟨[unk, unk, .slice (some ⟨0, 2, some 0⟩) n 0, .int .i64 0] ++ List.replicate 87 unk, [.vec 9 1 n f, .dead]⟩
def retN : VSt := ⟨[unk, unk, .slice none 0 0, .int .i64 200] ++ List.replicate 87 unk, [.dead, .dead]⟩

def innJ (tgt : Option (List ByteArray)) (l0 : ByteArray) (k : Nat) (S : VSt) : Prop :=
  match nth undef S.tmps 0, nth undef S.tmps 4, nth undef S.tmps 5, S.V with
  | .string l, .slice (some ⟨0, 2, some 0⟩) n 0, .bool ap, [.vec 9 1 n' f, .iter l' pos] => leT (innTm l n ap) S.tmps ∧ InnAt tgt l0 l l' pos n n' f ap k
  | _, _, _, _ => False
def innK (tgt : Option (List ByteArray)) (l0 : ByteArray) (e : Exit) (S : VSt) : Prop :=
  match e with
  | .normal =>
    match nth undef S.tmps 0, nth undef S.tmps 4, nth undef S.tmps 5, S.V with
    | .string l, .slice (some ⟨0, 2, some 0⟩) n 0, .bool ap, [.vec 9 1 n' f, .iter l' pos] => InnStop tgt l n n' f ∧ QSt S (stopS l n f ap l' pos)
    | _, _, _, _ => False
  | .exit 1 =>
    match nth undef S.tmps 0, nth undef S.tmps 4, nth undef S.tmps 5, S.V with
    | .string l, .slice (some ⟨2, 2, some 0⟩) n 0, .bool ap, [.dead, .dead, .vec 9 1 n' f] => OutAt tgt l n n' f ap ∧ LtSz l l0 ∧ QSt S (contS l n f ap)
    | _, _, _, _ => False
  | .ret =>
    match nth undef S.tmps 2, nth undef S.tmps 3, S.V with
    | .slice (some ⟨0, 2, some 0⟩) n 0, .int .i64 0, [.vec 9 1 n' f, .dead] => RetOk tgt n n' f ∧ QSt S (retS n f)
    | .slice none 0 0, .int .i64 200, [.dead, .dead] => RetNo tgt ∧ QSt S retN
    | _, _, _ => False
  | _ => False
def innKs (e : Exit) : List Nat := match e with | .normal => [0, 4, 5, 14] | .ret => [2, 3] | _ => [0, 4, 5]
def innSel (e : Exit) (S : VSt) : List Sel :=
  match e with
  | .exit i => (match Nat.beq i 1 with | true => [.drop 0, .drop 1, selS 9 1 S.V (nth undef S.tmps 4)] | false => [.keep 0, .keep 1])
  | .ret => (match nth undef S.tmps 2 with | .slice (some _) _ _ => [.keep 0, .drop 1] | _ => [.drop 0, .drop 1])
  | _ => [.keep 0, .keep 1]

theorem innJ_eq {tgt : Option (List ByteArray)} {l0 : ByteArray} {k : Nat} {S : VSt} (h : innJ tgt l0 k S) : ∃ (pos : Nat) (ap : Bool) (ws : List ByteArray) (D : Int) (f : Nat → List Value),
    leT (innTm l0 ws.length ap) S.tmps ∧ S.V = innV ws.length f l0 pos ∧ RowS f ws ∧ ws.length + l0.size ≤ 2147483648 ∧ l0.size ≤ pos + k ∧ pos ≤ l0.size ∧ 0 < l0.size ∧
    (ap = false → blankHead (bytesL l0) ∧ pos = 0) ∧ tgt = finR (runL ((bytesL l0).drop pos) (innSt (bytesL l0) pos ap ws D)) := by
  unfold innJ at h
  split at h
  · rename_i l n ap n' f l' pos h1 h2 h3 h4
    obtain ⟨h5, rfl, rfl, ws, D, rfl, rfl, h6, h7⟩ := h
    exact ⟨pos, ap, ws, D, f, h5, h4, h6, h7⟩
  · exact h.elim

theorem inn_sc (l0 : ByteArray) {ws : List ByteArray} {f : Nat → List Value} (ap : Bool) (pos : Nat) (hf : RowS f ws) : ScS ⟨innTm l0 ws.length ap, innV ws.length f l0 pos⟩ := by
  refine .of rfl fun k o h => ?_
  match k, h with
  | 0, h => cases h; exact hf.sc
  | 1, h => cases h; trivial

theorem head_law (s : ByteArray) (h : 0 < (bytesL s).length) : blankHead (bytesL s) ↔ (((strAt s 0 : Nat) : Int) = 32 ∨ ((strAt s 0 : Nat) : Int) = 9) := by
  rw [blankHead_cons (h := h), strAt_get s 0 h]
  constructor
  · rintro (h | h) <;> rw [h]
    · exact .inl rfl
    · exact .inr rfl
  · rintro (h | h)
    · left; apply UInt8.toNat_inj.1; show _ = 32; omega
    · right; apply UInt8.toNat_inj.1; show _ = 9; omega

theorem qNB {s : ByteArray} (h : qB s = true) (hb : ¬ blankHead (bytesL (qL s))) : ∃ w left, quotO s = some (w, left) ∧ ¬ blankHead left := by
  cases hq : quotO s with
  | none => rw [qB, hq] at h; cases h
  | some x =>
    obtain ⟨w, left⟩ := x
    refine ⟨w, left, rfl, ?_⟩
    rw [qL, hq] at hb
    simpa [bytesL] using hb

variable (hesc : FnOK Tryd.prog 20 (g1 dStr escV))
include hesc
theorem inn_round (tgt : Option (List ByteArray)) (l0 : ByteArray) (k : Nat) (S : VSt) (hJ : innJ tgt l0 k S) :
    Does Tryd.prog (roundOf Tryd.f7 2) S fun e S' => reshape 2 (innSel e S') (innKs e) [] [] S' (roundR 2 (innJ tgt l0) k (innK tgt l0) e) := by
  obtain ⟨pos, ap, ws, D, f, ht, hV, hf, hb, hk, hp, h0, hap, htgt⟩ := innJ_eq hJ
  refine Does.weaken (S' := ⟨innTm l0 ws.length ap, innV ws.length f l0 pos⟩) ?_ ht hV.symm (inn_sc l0 ap pos hf)
  refine of_code (ctxG_ok (bs := []) (.cons (quoted_ok hesc) .nil) (.cons plain_ok .nil)) (n := 200) .g ?_
  refine by_nf (B := bsplit (decide (pos < l0.size))
    (bsplit ((↑(Utf8.decode l0 pos).fst : Int) == (32 : Int)) (((0 : Int) ≤ (0 : Int) ∧
    (0 : Int) ≤ (↑pos : Int) ∧
    (↑pos : Int) ≤ (↑l0.size : Int)) ∧
    PPre ws.length ws.length f ∧
    ∀ (m : Nat) (g : Nat → List Value), PRes ws.length f (l0.extract (Int.toNat (0 : Int)) (↑pos : Int).toNat) m g → ((0 : Int) ≤ IntKind.i64.wrap ((↑pos : Int) + (1 : Int)) ∧
    IntKind.i64.wrap ((↑pos : Int) + (1 : Int)) ≤ (↑l0.size : Int) ∧
    (↑l0.size : Int) ≤ (↑l0.size : Int)) ∧
    OutAt tgt (l0.extract (IntKind.i64.wrap ((↑pos : Int) + (1 : Int))).toNat (↑l0.size : Int).toNat) m m g true ∧
    LtSz (l0.extract (IntKind.i64.wrap ((↑pos : Int) + (1 : Int))).toNat (↑l0.size : Int).toNat) l0 ∧
    QSt { tmps := [Value.string (l0.extract (IntKind.i64.wrap ((↑pos : Int) + (1 : Int))).toNat (↑l0.size : Int).toNat), unk, unk, unk, Value.slice (some { block := (2 : Nat), off := { block := (2 : Nat), off := (2 : Nat), spot := some (0 : Nat) : Addr }.off, spot := some (0 : Nat) : Addr }) m (0 : Nat), Value.bool true, unk, unk, unk, unk, unk, unk, unk, unk, unk, unk, unk, unk, unk, unk, unk, unk, unk, unk, unk, unk, unk, unk, unk, unk, unk, unk, unk, unk, unk, unk, unk, unk, unk, unk, unk, unk, unk, unk, unk, unk, unk, unk, unk, unk, unk, unk, unk, unk, unk, unk, unk, unk, unk, unk, unk, unk, unk, unk, unk, unk, unk, unk, unk, unk, unk, unk, unk, unk, unk, unk, unk, unk, unk, unk, unk, unk, unk, unk, unk, unk, unk, unk, unk, unk, unk], V := [VObj.dead, VObj.dead, VObj.vec (9 : TypeId) (1 : Nat) m g] : VSt } { tmps := [Value.string (l0.extract (IntKind.i64.wrap ((↑pos : Int) + (1 : Int))).toNat (↑l0.size : Int).toNat), unk, unk, unk, Value.slice (some { block := (2 : Nat), off := (2 : Nat), spot := some (0 : Nat) : Addr }) m (0 : Nat), Value.bool true, unk, unk, unk, unk, unk, unk, unk, unk, unk, unk, unk, unk, unk, unk, unk, unk, unk, unk, unk, unk, unk, unk, unk, unk, unk, unk, unk, unk, unk, unk, unk, unk, unk, unk, unk, unk, unk, unk, unk, unk, unk, unk, unk, unk, unk, unk, unk, unk, unk, unk, unk, unk, unk, unk, unk, unk, unk, unk, unk, unk, unk, unk, unk, unk, unk, unk, unk, unk, unk, unk, unk, unk, unk, unk, unk, unk, unk, unk, unk, unk, unk, unk, unk, unk, unk], V := [VObj.dead, VObj.dead, VObj.vec (9 : TypeId) (1 : Nat) m g] : VSt })
    (bsplit ((↑(Utf8.decode l0 pos).fst : Int) == (9 : Int)) (((0 : Int) ≤ (0 : Int) ∧
    (0 : Int) ≤ (↑pos : Int) ∧
    (↑pos : Int) ≤ (↑l0.size : Int)) ∧
    PPre ws.length ws.length f ∧
    ∀ (m : Nat) (g : Nat → List Value), PRes ws.length f (l0.extract (Int.toNat (0 : Int)) (↑pos : Int).toNat) m g → ((0 : Int) ≤ IntKind.i64.wrap ((↑pos : Int) + (1 : Int)) ∧
    IntKind.i64.wrap ((↑pos : Int) + (1 : Int)) ≤ (↑l0.size : Int) ∧
    (↑l0.size : Int) ≤ (↑l0.size : Int)) ∧
    OutAt tgt (l0.extract (IntKind.i64.wrap ((↑pos : Int) + (1 : Int))).toNat (↑l0.size : Int).toNat) m m g true ∧
    LtSz (l0.extract (IntKind.i64.wrap ((↑pos : Int) + (1 : Int))).toNat (↑l0.size : Int).toNat) l0 ∧
    QSt { tmps := [Value.string (l0.extract (IntKind.i64.wrap ((↑pos : Int) + (1 : Int))).toNat (↑l0.size : Int).toNat), unk, unk, unk, Value.slice (some { block := (2 : Nat), off := { block := (2 : Nat), off := (2 : Nat), spot := some (0 : Nat) : Addr }.off, spot := some (0 : Nat) : Addr }) m (0 : Nat), Value.bool true, unk, unk, unk, unk, unk, unk, unk, unk, unk, unk, unk, unk, unk, unk, unk, unk, unk, unk, unk, unk, unk, unk, unk, unk, unk, unk, unk, unk, unk, unk, unk, unk, unk, unk, unk, unk, unk, unk, unk, unk, unk, unk, unk, unk, unk, unk, unk, unk, unk, unk, unk, unk, unk, unk, unk, unk, unk, unk, unk, unk, unk, unk, unk, unk, unk, unk, unk, unk, unk, unk, unk, unk, unk, unk, unk, unk, unk, unk, unk, unk, unk, unk, unk, unk, unk], V := [VObj.dead, VObj.dead, VObj.vec (9 : TypeId) (1 : Nat) m g] : VSt } { tmps := [Value.string (l0.extract (IntKind.i64.wrap ((↑pos : Int) + (1 : Int))).toNat (↑l0.size : Int).toNat), unk, unk, unk, Value.slice (some { block := (2 : Nat), off := (2 : Nat), spot := some (0 : Nat) : Addr }) m (0 : Nat), Value.bool true, unk, unk, unk, unk, unk, unk, unk, unk, unk, unk, unk, unk, unk, unk, unk, unk, unk, unk, unk, unk, unk, unk, unk, unk, unk, unk, unk, unk, unk, unk, unk, unk, unk, unk, unk, unk, unk, unk, unk, unk, unk, unk, unk, unk, unk, unk, unk, unk, unk, unk, unk, unk, unk, unk, unk, unk, unk, unk, unk, unk, unk, unk, unk, unk, unk, unk, unk, unk, unk, unk, unk, unk, unk, unk, unk, unk, unk, unk, unk, unk, unk, unk, unk, unk, unk], V := [VObj.dead, VObj.dead, VObj.vec (9 : TypeId) (1 : Nat) m g] : VSt })
    (bsplit ((↑(Utf8.decode l0 pos).fst : Int) == (35 : Int))
    (bsplit ((↑pos : Int) == (0 : Int))
    (bsplit ap (RetOk tgt ws.length ws.length f ∧
    QSt { tmps := [unk, unk, Value.slice (some { block := (0 : Nat), off := { block := (0 : Nat), off := (2 : Nat), spot := some (0 : Nat) : Addr }.off, spot := some (0 : Nat) : Addr }) ws.length (0 : Nat), Value.int IntKind.i64 (0 : Int), unk, unk, unk, unk, unk, unk, unk, unk, unk, unk, unk, unk, unk, unk, unk, unk, unk, unk, unk, unk, unk, unk, unk, unk, unk, unk, unk, unk, unk, unk, unk, unk, unk, unk, unk, unk, unk, unk, unk, unk, unk, unk, unk, unk, unk, unk, unk, unk, unk, unk, unk, unk, unk, unk, unk, unk, unk, unk, unk, unk, unk, unk, unk, unk, unk, unk, unk, unk, unk, unk, unk, unk, unk, unk, unk, unk, unk, unk, unk, unk, unk, unk, unk, unk, unk, unk, unk], V := [VObj.vec (9 : TypeId) (1 : Nat) ws.length f, VObj.dead] : VSt } { tmps := [unk, unk, Value.slice (some { block := (0 : Nat), off := (2 : Nat), spot := some (0 : Nat) : Addr }) ws.length (0 : Nat), Value.int IntKind.i64 (0 : Int), unk, unk, unk, unk, unk, unk, unk, unk, unk, unk, unk, unk, unk, unk, unk, unk, unk, unk, unk, unk, unk, unk, unk, unk, unk, unk, unk, unk, unk, unk, unk, unk, unk, unk, unk, unk, unk, unk, unk, unk, unk, unk, unk, unk, unk, unk, unk, unk, unk, unk, unk, unk, unk, unk, unk, unk, unk, unk, unk, unk, unk, unk, unk, unk, unk, unk, unk, unk, unk, unk, unk, unk, unk, unk, unk, unk, unk, unk, unk, unk, unk, unk, unk, unk, unk, unk, unk], V := [VObj.vec (9 : TypeId) (1 : Nat) ws.length f, VObj.dead] : VSt })
    (bsplit ((↑(Utf8.decode l0 pos).fst : Int) == (34 : Int)) (((0 : Int) ≤ IntKind.i64.wrap ((↑pos : Int) + (1 : Int)) ∧
    IntKind.i64.wrap ((↑pos : Int) + (1 : Int)) ≤ (↑l0.size : Int) ∧
    (↑l0.size : Int) ≤ (↑l0.size : Int)) ∧
    (l0.extract (IntKind.i64.wrap ((↑pos : Int) + (1 : Int))).toNat (↑l0.size : Int).toNat).size ≤ (2147483648 : Nat) ∧
    bsplit (!qB (l0.extract (IntKind.i64.wrap ((↑pos : Int) + (1 : Int))).toNat (↑l0.size : Int).toNat)) (RetNo tgt ∧
    QSt { tmps := [unk, unk, Value.slice none (0 : Nat) (0 : Nat), Value.int IntKind.i64 (200 : Int), unk, unk, unk, unk, unk, unk, unk, unk, unk, unk, unk, unk, unk, unk, unk, unk, unk, unk, unk, unk, unk, unk, unk, unk, unk, unk, unk, unk, unk, unk, unk, unk, unk, unk, unk, unk, unk, unk, unk, unk, unk, unk, unk, unk, unk, unk, unk, unk, unk, unk, unk, unk, unk, unk, unk, unk, unk, unk, unk, unk, unk, unk, unk, unk, unk, unk, unk, unk, unk, unk, unk, unk, unk, unk, unk, unk, unk, unk, unk, unk, unk, unk, unk, unk, unk, unk, unk], V := [VObj.dead, VObj.dead] : VSt } { tmps := [unk, unk, Value.slice none (0 : Nat) (0 : Nat), Value.int IntKind.i64 (200 : Int), unk, unk, unk, unk, unk, unk, unk, unk, unk, unk, unk, unk, unk, unk, unk, unk, unk, unk, unk, unk, unk, unk, unk, unk, unk, unk, unk, unk, unk, unk, unk, unk, unk, unk, unk, unk, unk, unk, unk, unk, unk, unk, unk, unk, unk, unk, unk, unk, unk, unk, unk, unk, unk, unk, unk, unk, unk, unk, unk, unk, unk, unk, unk, unk, unk, unk, unk, unk, unk, unk, unk, unk, unk, unk, unk, unk, unk, unk, unk, unk, unk, unk, unk, unk, unk, unk, unk], V := [VObj.dead, VObj.dead] : VSt })
    (bsplit (decide ((↑pos : Int) > (0 : Int))) (RetNo tgt ∧
    QSt { tmps := [unk, unk, Value.slice none (0 : Nat) (0 : Nat), Value.int IntKind.i64 (200 : Int), unk, unk, unk, unk, unk, unk, unk, unk, unk, unk, unk, unk, unk, unk, unk, unk, unk, unk, unk, unk, unk, unk, unk, unk, unk, unk, unk, unk, unk, unk, unk, unk, unk, unk, unk, unk, unk, unk, unk, unk, unk, unk, unk, unk, unk, unk, unk, unk, unk, unk, unk, unk, unk, unk, unk, unk, unk, unk, unk, unk, unk, unk, unk, unk, unk, unk, unk, unk, unk, unk, unk, unk, unk, unk, unk, unk, unk, unk, unk, unk, unk, unk, unk, unk, unk, unk, unk], V := [VObj.dead, VObj.dead] : VSt } { tmps := [unk, unk, Value.slice none (0 : Nat) (0 : Nat), Value.int IntKind.i64 (200 : Int), unk, unk, unk, unk, unk, unk, unk, unk, unk, unk, unk, unk, unk, unk, unk, unk, unk, unk, unk, unk, unk, unk, unk, unk, unk, unk, unk, unk, unk, unk, unk, unk, unk, unk, unk, unk, unk, unk, unk, unk, unk, unk, unk, unk, unk, unk, unk, unk, unk, unk, unk, unk, unk, unk, unk, unk, unk, unk, unk, unk, unk, unk, unk, unk, unk, unk, unk, unk, unk, unk, unk, unk, unk, unk, unk, unk, unk, unk, unk, unk, unk, unk, unk, unk, unk, unk, unk], V := [VObj.dead, VObj.dead] : VSt })
    (bsplit (!ap) (RetNo tgt ∧
    QSt { tmps := [unk, unk, Value.slice none (0 : Nat) (0 : Nat), Value.int IntKind.i64 (200 : Int), unk, unk, unk, unk, unk, unk, unk, unk, unk, unk, unk, unk, unk, unk, unk, unk, unk, unk, unk, unk, unk, unk, unk, unk, unk, unk, unk, unk, unk, unk, unk, unk, unk, unk, unk, unk, unk, unk, unk, unk, unk, unk, unk, unk, unk, unk, unk, unk, unk, unk, unk, unk, unk, unk, unk, unk, unk, unk, unk, unk, unk, unk, unk, unk, unk, unk, unk, unk, unk, unk, unk, unk, unk, unk, unk, unk, unk, unk, unk, unk, unk, unk, unk, unk, unk, unk, unk], V := [VObj.dead, VObj.dead] : VSt } { tmps := [unk, unk, Value.slice none (0 : Nat) (0 : Nat), Value.int IntKind.i64 (200 : Int), unk, unk, unk, unk, unk, unk, unk, unk, unk, unk, unk, unk, unk, unk, unk, unk, unk, unk, unk, unk, unk, unk, unk, unk, unk, unk, unk, unk, unk, unk, unk, unk, unk, unk, unk, unk, unk, unk, unk, unk, unk, unk, unk, unk, unk, unk, unk, unk, unk, unk, unk, unk, unk, unk, unk, unk, unk, unk, unk, unk, unk, unk, unk, unk, unk, unk, unk, unk, unk, unk, unk, unk, unk, unk, unk, unk, unk, unk, unk, unk, unk, unk, unk, unk, unk, unk, unk], V := [VObj.dead, VObj.dead] : VSt })
    (bsplit (!(qL (l0.extract (IntKind.i64.wrap ((↑pos : Int) + (1 : Int))).toNat (↑l0.size : Int).toNat)).data.toList == { data := #[] : ByteArray }.data.toList) (((0 : Int) ≤ (0 : Int) ∧
    (0 : Int) + (1 : Int) ≤ (↑(qL (l0.extract (IntKind.i64.wrap ((↑pos : Int) + (1 : Int))).toNat (↑l0.size : Int).toNat)).size : Int)) ∧
    bsplit ((↑(strAt (qL (l0.extract (IntKind.i64.wrap ((↑pos : Int) + (1 : Int))).toNat (↑l0.size : Int).toNat)) (Int.toNat (0 : Int))) : Int) != (32 : Int)) (((0 : Int) ≤ (0 : Int) ∧
    (0 : Int) + (1 : Int) ≤ (↑(qL (l0.extract (IntKind.i64.wrap ((↑pos : Int) + (1 : Int))).toNat (↑l0.size : Int).toNat)).size : Int)) ∧
    bsplit ((↑(strAt (qL (l0.extract (IntKind.i64.wrap ((↑pos : Int) + (1 : Int))).toNat (↑l0.size : Int).toNat)) (Int.toNat (0 : Int))) : Int) != (9 : Int)) (RetNo tgt ∧
    QSt { tmps := [unk, unk, Value.slice none (0 : Nat) (0 : Nat), Value.int IntKind.i64 (200 : Int), unk, unk, unk, unk, unk, unk, unk, unk, unk, unk, unk, unk, unk, unk, unk, unk, unk, unk, unk, unk, unk, unk, unk, unk, unk, unk, unk, unk, unk, unk, unk, unk, unk, unk, unk, unk, unk, unk, unk, unk, unk, unk, unk, unk, unk, unk, unk, unk, unk, unk, unk, unk, unk, unk, unk, unk, unk, unk, unk, unk, unk, unk, unk, unk, unk, unk, unk, unk, unk, unk, unk, unk, unk, unk, unk, unk, unk, unk, unk, unk, unk, unk, unk, unk, unk, unk, unk], V := [VObj.dead, VObj.dead] : VSt } { tmps := [unk, unk, Value.slice none (0 : Nat) (0 : Nat), Value.int IntKind.i64 (200 : Int), unk, unk, unk, unk, unk, unk, unk, unk, unk, unk, unk, unk, unk, unk, unk, unk, unk, unk, unk, unk, unk, unk, unk, unk, unk, unk, unk, unk, unk, unk, unk, unk, unk, unk, unk, unk, unk, unk, unk, unk, unk, unk, unk, unk, unk, unk, unk, unk, unk, unk, unk, unk, unk, unk, unk, unk, unk, unk, unk, unk, unk, unk, unk, unk, unk, unk, unk, unk, unk, unk, unk, unk, unk, unk, unk, unk, unk, unk, unk, unk, unk, unk, unk, unk, unk, unk, unk], V := [VObj.dead, VObj.dead] : VSt }) (((1 : Nat) ≤ (1 : Nat) ∧
    ws.length = ws.length ∧
    Nat.succ (0 : Nat) ≤ (1 : Nat) ∧
    fitsN (ws.length + (1 : Nat)) (16 : Nat)) ∧
    Nat.succ (0 : Nat) ≤ ws.length + (1 : Nat) ∧
    OutAt tgt (qL (l0.extract (IntKind.i64.wrap ((↑pos : Int) + (1 : Int))).toNat (↑l0.size : Int).toNat)) (ws.length + (1 : Nat)) (ws.length + (1 : Nat)) (joinF ws.length f fun j => nth [] [[Value.string (qW (l0.extract (IntKind.i64.wrap ((↑pos : Int) + (1 : Int))).toNat (↑l0.size : Int).toNat))]] ((0 : Nat) + j)) false ∧
    LtSz (qL (l0.extract (IntKind.i64.wrap ((↑pos : Int) + (1 : Int))).toNat (↑l0.size : Int).toNat)) l0 ∧
    QSt { tmps := [Value.string (qL (l0.extract (IntKind.i64.wrap ((↑pos : Int) + (1 : Int))).toNat (↑l0.size : Int).toNat)), unk, unk, unk, Value.slice (some { block := (2 : Nat), off := (2 : Nat), spot := some (0 : Nat) : Addr }) (ws.length + (1 : Nat)) (0 : Nat), Value.bool false, unk, unk, unk, unk, unk, unk, unk, unk, unk, unk, unk, unk, unk, unk, unk, unk, unk, unk, unk, unk, unk, unk, unk, unk, unk, unk, unk, unk, unk, unk, unk, unk, unk, unk, unk, unk, unk, unk, unk, unk, unk, unk, unk, unk, unk, unk, unk, unk, unk, unk, unk, unk, unk, unk, unk, unk, unk, unk, unk, unk, unk, unk, unk, unk, unk, unk, unk, unk, unk, unk, unk, unk, unk, unk, unk, unk, unk, unk, unk, unk, unk, unk, unk, unk, unk], V := [VObj.dead, VObj.dead, VObj.vec (9 : Nat) (1 : Nat) (ws.length + (1 : Nat)) (joinF ws.length f fun j => nth [] [[Value.string (qW (l0.extract (IntKind.i64.wrap ((↑pos : Int) + (1 : Int))).toNat (↑l0.size : Int).toNat))]] ((0 : Nat) + j))] : VSt } { tmps := [Value.string (qL (l0.extract (IntKind.i64.wrap ((↑pos : Int) + (1 : Int))).toNat (↑l0.size : Int).toNat)), unk, unk, unk, Value.slice (some { block := (2 : Nat), off := (2 : Nat), spot := some (0 : Nat) : Addr }) (ws.length + (1 : Nat)) (0 : Nat), Value.bool false, unk, unk, unk, unk, unk, unk, unk, unk, unk, unk, unk, unk, unk, unk, unk, unk, unk, unk, unk, unk, unk, unk, unk, unk, unk, unk, unk, unk, unk, unk, unk, unk, unk, unk, unk, unk, unk, unk, unk, unk, unk, unk, unk, unk, unk, unk, unk, unk, unk, unk, unk, unk, unk, unk, unk, unk, unk, unk, unk, unk, unk, unk, unk, unk, unk, unk, unk, unk, unk, unk, unk, unk, unk, unk, unk, unk, unk, unk, unk, unk, unk, unk, unk, unk, unk], V := [VObj.dead, VObj.dead, VObj.vec (9 : TypeId) (1 : Nat) (ws.length + (1 : Nat)) (joinF ws.length f fun j => nth [] [[Value.string (qW (l0.extract (IntKind.i64.wrap ((↑pos : Int) + (1 : Int))).toNat (↑l0.size : Int).toNat))]] ((0 : Nat) + j))] : VSt })) (((1 : Nat) ≤ (1 : Nat) ∧
    ws.length = ws.length ∧
    Nat.succ (0 : Nat) ≤ (1 : Nat) ∧
    fitsN (ws.length + (1 : Nat)) (16 : Nat)) ∧
    Nat.succ (0 : Nat) ≤ ws.length + (1 : Nat) ∧
    OutAt tgt (qL (l0.extract (IntKind.i64.wrap ((↑pos : Int) + (1 : Int))).toNat (↑l0.size : Int).toNat)) (ws.length + (1 : Nat)) (ws.length + (1 : Nat)) (joinF ws.length f fun j => nth [] [[Value.string (qW (l0.extract (IntKind.i64.wrap ((↑pos : Int) + (1 : Int))).toNat (↑l0.size : Int).toNat))]] ((0 : Nat) + j)) false ∧
    LtSz (qL (l0.extract (IntKind.i64.wrap ((↑pos : Int) + (1 : Int))).toNat (↑l0.size : Int).toNat)) l0 ∧
    QSt { tmps := [Value.string (qL (l0.extract (IntKind.i64.wrap ((↑pos : Int) + (1 : Int))).toNat (↑l0.size : Int).toNat)), unk, unk, unk, Value.slice (some { block := (2 : Nat), off := (2 : Nat), spot := some (0 : Nat) : Addr }) (ws.length + (1 : Nat)) (0 : Nat), Value.bool false, unk, unk, unk, unk, unk, unk, unk, unk, unk, unk, unk, unk, unk, unk, unk, unk, unk, unk, unk, unk, unk, unk, unk, unk, unk, unk, unk, unk, unk, unk, unk, unk, unk, unk, unk, unk, unk, unk, unk, unk, unk, unk, unk, unk, unk, unk, unk, unk, unk, unk, unk, unk, unk, unk, unk, unk, unk, unk, unk, unk, unk, unk, unk, unk, unk, unk, unk, unk, unk, unk, unk, unk, unk, unk, unk, unk, unk, unk, unk, unk, unk, unk, unk, unk, unk], V := [VObj.dead, VObj.dead, VObj.vec (9 : Nat) (1 : Nat) (ws.length + (1 : Nat)) (joinF ws.length f fun j => nth [] [[Value.string (qW (l0.extract (IntKind.i64.wrap ((↑pos : Int) + (1 : Int))).toNat (↑l0.size : Int).toNat))]] ((0 : Nat) + j))] : VSt } { tmps := [Value.string (qL (l0.extract (IntKind.i64.wrap ((↑pos : Int) + (1 : Int))).toNat (↑l0.size : Int).toNat)), unk, unk, unk, Value.slice (some { block := (2 : Nat), off := (2 : Nat), spot := some (0 : Nat) : Addr }) (ws.length + (1 : Nat)) (0 : Nat), Value.bool false, unk, unk, unk, unk, unk, unk, unk, unk, unk, unk, unk, unk, unk, unk, unk, unk, unk, unk, unk, unk, unk, unk, unk, unk, unk, unk, unk, unk, unk, unk, unk, unk, unk, unk, unk, unk, unk, unk, unk, unk, unk, unk, unk, unk, unk, unk, unk, unk, unk, unk, unk, unk, unk, unk, unk, unk, unk, unk, unk, unk, unk, unk, unk, unk, unk, unk, unk, unk, unk, unk, unk, unk, unk, unk, unk, unk, unk, unk, unk, unk, unk, unk, unk, unk, unk], V := [VObj.dead, VObj.dead, VObj.vec (9 : TypeId) (1 : Nat) (ws.length + (1 : Nat)) (joinF ws.length f fun j => nth [] [[Value.string (qW (l0.extract (IntKind.i64.wrap ((↑pos : Int) + (1 : Int))).toNat (↑l0.size : Int).toNat))]] ((0 : Nat) + j))] : VSt })) (((1 : Nat) ≤ (1 : Nat) ∧
    ws.length = ws.length ∧
    Nat.succ (0 : Nat) ≤ (1 : Nat) ∧
    fitsN (ws.length + (1 : Nat)) (16 : Nat)) ∧
    Nat.succ (0 : Nat) ≤ ws.length + (1 : Nat) ∧
    OutAt tgt (qL (l0.extract (IntKind.i64.wrap ((↑pos : Int) + (1 : Int))).toNat (↑l0.size : Int).toNat)) (ws.length + (1 : Nat)) (ws.length + (1 : Nat)) (joinF ws.length f fun j => nth [] [[Value.string (qW (l0.extract (IntKind.i64.wrap ((↑pos : Int) + (1 : Int))).toNat (↑l0.size : Int).toNat))]] ((0 : Nat) + j)) false ∧
    LtSz (qL (l0.extract (IntKind.i64.wrap ((↑pos : Int) + (1 : Int))).toNat (↑l0.size : Int).toNat)) l0 ∧
    QSt { tmps := [Value.string (qL (l0.extract (IntKind.i64.wrap ((↑pos : Int) + (1 : Int))).toNat (↑l0.size : Int).toNat)), unk, unk, unk, Value.slice (some { block := (2 : Nat), off := (2 : Nat), spot := some (0 : Nat) : Addr }) (ws.length + (1 : Nat)) (0 : Nat), Value.bool false, unk, unk, unk, unk, unk, unk, unk, unk, unk, unk, unk, unk, unk, unk, unk, unk, unk, unk, unk, unk, unk, unk, unk, unk, unk, unk, unk, unk, unk, unk, unk, unk, unk, unk, unk, unk, unk, unk, unk, unk, unk, unk, unk, unk, unk, unk, unk, unk, unk, unk, unk, unk, unk, unk, unk, unk, unk, unk, unk, unk, unk, unk, unk, unk, unk, unk, unk, unk, unk, unk, unk, unk, unk, unk, unk, unk, unk, unk, unk, unk, unk, unk, unk, unk, unk], V := [VObj.dead, VObj.dead, VObj.vec (9 : Nat) (1 : Nat) (ws.length + (1 : Nat)) (joinF ws.length f fun j => nth [] [[Value.string (qW (l0.extract (IntKind.i64.wrap ((↑pos : Int) + (1 : Int))).toNat (↑l0.size : Int).toNat))]] ((0 : Nat) + j))] : VSt } { tmps := [Value.string (qL (l0.extract (IntKind.i64.wrap ((↑pos : Int) + (1 : Int))).toNat (↑l0.size : Int).toNat)), unk, unk, unk, Value.slice (some { block := (2 : Nat), off := (2 : Nat), spot := some (0 : Nat) : Addr }) (ws.length + (1 : Nat)) (0 : Nat), Value.bool false, unk, unk, unk, unk, unk, unk, unk, unk, unk, unk, unk, unk, unk, unk, unk, unk, unk, unk, unk, unk, unk, unk, unk, unk, unk, unk, unk, unk, unk, unk, unk, unk, unk, unk, unk, unk, unk, unk, unk, unk, unk, unk, unk, unk, unk, unk, unk, unk, unk, unk, unk, unk, unk, unk, unk, unk, unk, unk, unk, unk, unk, unk, unk, unk, unk, unk, unk, unk, unk, unk, unk, unk, unk, unk, unk, unk, unk, unk, unk, unk, unk, unk, unk, unk, unk], V := [VObj.dead, VObj.dead, VObj.vec (9 : TypeId) (1 : Nat) (ws.length + (1 : Nat)) (joinF ws.length f fun j => nth [] [[Value.string (qW (l0.extract (IntKind.i64.wrap ((↑pos : Int) + (1 : Int))).toNat (↑l0.size : Int).toNat))]] ((0 : Nat) + j))] : VSt }))))) ((k = (0 : Nat) → False) ∧
    (Value.string l0 = Value.string l0 ∧
    Value.slice (some { block := (0 : Nat), off := (2 : Nat), spot := some (0 : Nat) : Addr }) ws.length (0 : Nat) = Value.slice (some { block := (0 : Nat), off := { block := (0 : Nat), off := (2 : Nat), spot := some (0 : Nat) : Addr }.off, spot := some (0 : Nat) : Addr }) ws.length (0 : Nat) ∧
    Value.bool ap = Value.bool ap ∧
    Value.pointer (some { block := (1 : Nat), off := (0 : Nat) : Addr }) = Value.pointer (some { block := (1 : Nat), off := { block := (1 : Nat), off := (0 : Nat) : Addr }.off : Addr }) ∧
    True) ∧
    InnAt tgt l0 l0 l0 (pos + (Utf8.decode l0 pos).snd) ws.length ws.length f ap (k - (1 : Nat)))))
    (bsplit ((↑(Utf8.decode l0 pos).fst : Int) == (34 : Int)) (((0 : Int) ≤ IntKind.i64.wrap ((↑pos : Int) + (1 : Int)) ∧
    IntKind.i64.wrap ((↑pos : Int) + (1 : Int)) ≤ (↑l0.size : Int) ∧
    (↑l0.size : Int) ≤ (↑l0.size : Int)) ∧
    (l0.extract (IntKind.i64.wrap ((↑pos : Int) + (1 : Int))).toNat (↑l0.size : Int).toNat).size ≤ (2147483648 : Nat) ∧
    bsplit (!qB (l0.extract (IntKind.i64.wrap ((↑pos : Int) + (1 : Int))).toNat (↑l0.size : Int).toNat)) (RetNo tgt ∧
    QSt { tmps := [unk, unk, Value.slice none (0 : Nat) (0 : Nat), Value.int IntKind.i64 (200 : Int), unk, unk, unk, unk, unk, unk, unk, unk, unk, unk, unk, unk, unk, unk, unk, unk, unk, unk, unk, unk, unk, unk, unk, unk, unk, unk, unk, unk, unk, unk, unk, unk, unk, unk, unk, unk, unk, unk, unk, unk, unk, unk, unk, unk, unk, unk, unk, unk, unk, unk, unk, unk, unk, unk, unk, unk, unk, unk, unk, unk, unk, unk, unk, unk, unk, unk, unk, unk, unk, unk, unk, unk, unk, unk, unk, unk, unk, unk, unk, unk, unk, unk, unk, unk, unk, unk, unk], V := [VObj.dead, VObj.dead] : VSt } { tmps := [unk, unk, Value.slice none (0 : Nat) (0 : Nat), Value.int IntKind.i64 (200 : Int), unk, unk, unk, unk, unk, unk, unk, unk, unk, unk, unk, unk, unk, unk, unk, unk, unk, unk, unk, unk, unk, unk, unk, unk, unk, unk, unk, unk, unk, unk, unk, unk, unk, unk, unk, unk, unk, unk, unk, unk, unk, unk, unk, unk, unk, unk, unk, unk, unk, unk, unk, unk, unk, unk, unk, unk, unk, unk, unk, unk, unk, unk, unk, unk, unk, unk, unk, unk, unk, unk, unk, unk, unk, unk, unk, unk, unk, unk, unk, unk, unk, unk, unk, unk, unk, unk, unk], V := [VObj.dead, VObj.dead] : VSt })
    (bsplit (decide ((↑pos : Int) > (0 : Int))) (RetNo tgt ∧
    QSt { tmps := [unk, unk, Value.slice none (0 : Nat) (0 : Nat), Value.int IntKind.i64 (200 : Int), unk, unk, unk, unk, unk, unk, unk, unk, unk, unk, unk, unk, unk, unk, unk, unk, unk, unk, unk, unk, unk, unk, unk, unk, unk, unk, unk, unk, unk, unk, unk, unk, unk, unk, unk, unk, unk, unk, unk, unk, unk, unk, unk, unk, unk, unk, unk, unk, unk, unk, unk, unk, unk, unk, unk, unk, unk, unk, unk, unk, unk, unk, unk, unk, unk, unk, unk, unk, unk, unk, unk, unk, unk, unk, unk, unk, unk, unk, unk, unk, unk, unk, unk, unk, unk, unk, unk], V := [VObj.dead, VObj.dead] : VSt } { tmps := [unk, unk, Value.slice none (0 : Nat) (0 : Nat), Value.int IntKind.i64 (200 : Int), unk, unk, unk, unk, unk, unk, unk, unk, unk, unk, unk, unk, unk, unk, unk, unk, unk, unk, unk, unk, unk, unk, unk, unk, unk, unk, unk, unk, unk, unk, unk, unk, unk, unk, unk, unk, unk, unk, unk, unk, unk, unk, unk, unk, unk, unk, unk, unk, unk, unk, unk, unk, unk, unk, unk, unk, unk, unk, unk, unk, unk, unk, unk, unk, unk, unk, unk, unk, unk, unk, unk, unk, unk, unk, unk, unk, unk, unk, unk, unk, unk, unk, unk, unk, unk, unk, unk], V := [VObj.dead, VObj.dead] : VSt })
    (bsplit (!ap) (RetNo tgt ∧
    QSt { tmps := [unk, unk, Value.slice none (0 : Nat) (0 : Nat), Value.int IntKind.i64 (200 : Int), unk, unk, unk, unk, unk, unk, unk, unk, unk, unk, unk, unk, unk, unk, unk, unk, unk, unk, unk, unk, unk, unk, unk, unk, unk, unk, unk, unk, unk, unk, unk, unk, unk, unk, unk, unk, unk, unk, unk, unk, unk, unk, unk, unk, unk, unk, unk, unk, unk, unk, unk, unk, unk, unk, unk, unk, unk, unk, unk, unk, unk, unk, unk, unk, unk, unk, unk, unk, unk, unk, unk, unk, unk, unk, unk, unk, unk, unk, unk, unk, unk, unk, unk, unk, unk, unk, unk], V := [VObj.dead, VObj.dead] : VSt } { tmps := [unk, unk, Value.slice none (0 : Nat) (0 : Nat), Value.int IntKind.i64 (200 : Int), unk, unk, unk, unk, unk, unk, unk, unk, unk, unk, unk, unk, unk, unk, unk, unk, unk, unk, unk, unk, unk, unk, unk, unk, unk, unk, unk, unk, unk, unk, unk, unk, unk, unk, unk, unk, unk, unk, unk, unk, unk, unk, unk, unk, unk, unk, unk, unk, unk, unk, unk, unk, unk, unk, unk, unk, unk, unk, unk, unk, unk, unk, unk, unk, unk, unk, unk, unk, unk, unk, unk, unk, unk, unk, unk, unk, unk, unk, unk, unk, unk, unk, unk, unk, unk, unk, unk], V := [VObj.dead, VObj.dead] : VSt })
    (bsplit (!(qL (l0.extract (IntKind.i64.wrap ((↑pos : Int) + (1 : Int))).toNat (↑l0.size : Int).toNat)).data.toList == { data := #[] : ByteArray }.data.toList) (((0 : Int) ≤ (0 : Int) ∧
    (0 : Int) + (1 : Int) ≤ (↑(qL (l0.extract (IntKind.i64.wrap ((↑pos : Int) + (1 : Int))).toNat (↑l0.size : Int).toNat)).size : Int)) ∧
    bsplit ((↑(strAt (qL (l0.extract (IntKind.i64.wrap ((↑pos : Int) + (1 : Int))).toNat (↑l0.size : Int).toNat)) (Int.toNat (0 : Int))) : Int) != (32 : Int)) (((0 : Int) ≤ (0 : Int) ∧
    (0 : Int) + (1 : Int) ≤ (↑(qL (l0.extract (IntKind.i64.wrap ((↑pos : Int) + (1 : Int))).toNat (↑l0.size : Int).toNat)).size : Int)) ∧
    bsplit ((↑(strAt (qL (l0.extract (IntKind.i64.wrap ((↑pos : Int) + (1 : Int))).toNat (↑l0.size : Int).toNat)) (Int.toNat (0 : Int))) : Int) != (9 : Int)) (RetNo tgt ∧
    QSt { tmps := [unk, unk, Value.slice none (0 : Nat) (0 : Nat), Value.int IntKind.i64 (200 : Int), unk, unk, unk, unk, unk, unk, unk, unk, unk, unk, unk, unk, unk, unk, unk, unk, unk, unk, unk, unk, unk, unk, unk, unk, unk, unk, unk, unk, unk, unk, unk, unk, unk, unk, unk, unk, unk, unk, unk, unk, unk, unk, unk, unk, unk, unk, unk, unk, unk, unk, unk, unk, unk, unk, unk, unk, unk, unk, unk, unk, unk, unk, unk, unk, unk, unk, unk, unk, unk, unk, unk, unk, unk, unk, unk, unk, unk, unk, unk, unk, unk, unk, unk, unk, unk, unk, unk], V := [VObj.dead, VObj.dead] : VSt } { tmps := [unk, unk, Value.slice none (0 : Nat) (0 : Nat), Value.int IntKind.i64 (200 : Int), unk, unk, unk, unk, unk, unk, unk, unk, unk, unk, unk, unk, unk, unk, unk, unk, unk, unk, unk, unk, unk, unk, unk, unk, unk, unk, unk, unk, unk, unk, unk, unk, unk, unk, unk, unk, unk, unk, unk, unk, unk, unk, unk, unk, unk, unk, unk, unk, unk, unk, unk, unk, unk, unk, unk, unk, unk, unk, unk, unk, unk, unk, unk, unk, unk, unk, unk, unk, unk, unk, unk, unk, unk, unk, unk, unk, unk, unk, unk, unk, unk, unk, unk, unk, unk, unk, unk], V := [VObj.dead, VObj.dead] : VSt }) (((1 : Nat) ≤ (1 : Nat) ∧
    ws.length = ws.length ∧
    Nat.succ (0 : Nat) ≤ (1 : Nat) ∧
    fitsN (ws.length + (1 : Nat)) (16 : Nat)) ∧
    Nat.succ (0 : Nat) ≤ ws.length + (1 : Nat) ∧
    OutAt tgt (qL (l0.extract (IntKind.i64.wrap ((↑pos : Int) + (1 : Int))).toNat (↑l0.size : Int).toNat)) (ws.length + (1 : Nat)) (ws.length + (1 : Nat)) (joinF ws.length f fun j => nth [] [[Value.string (qW (l0.extract (IntKind.i64.wrap ((↑pos : Int) + (1 : Int))).toNat (↑l0.size : Int).toNat))]] ((0 : Nat) + j)) false ∧
    LtSz (qL (l0.extract (IntKind.i64.wrap ((↑pos : Int) + (1 : Int))).toNat (↑l0.size : Int).toNat)) l0 ∧
    QSt { tmps := [Value.string (qL (l0.extract (IntKind.i64.wrap ((↑pos : Int) + (1 : Int))).toNat (↑l0.size : Int).toNat)), unk, unk, unk, Value.slice (some { block := (2 : Nat), off := (2 : Nat), spot := some (0 : Nat) : Addr }) (ws.length + (1 : Nat)) (0 : Nat), Value.bool false, unk, unk, unk, unk, unk, unk, unk, unk, unk, unk, unk, unk, unk, unk, unk, unk, unk, unk, unk, unk, unk, unk, unk, unk, unk, unk, unk, unk, unk, unk, unk, unk, unk, unk, unk, unk, unk, unk, unk, unk, unk, unk, unk, unk, unk, unk, unk, unk, unk, unk, unk, unk, unk, unk, unk, unk, unk, unk, unk, unk, unk, unk, unk, unk, unk, unk, unk, unk, unk, unk, unk, unk, unk, unk, unk, unk, unk, unk, unk, unk, unk, unk, unk, unk, unk], V := [VObj.dead, VObj.dead, VObj.vec (9 : Nat) (1 : Nat) (ws.length + (1 : Nat)) (joinF ws.length f fun j => nth [] [[Value.string (qW (l0.extract (IntKind.i64.wrap ((↑pos : Int) + (1 : Int))).toNat (↑l0.size : Int).toNat))]] ((0 : Nat) + j))] : VSt } { tmps := [Value.string (qL (l0.extract (IntKind.i64.wrap ((↑pos : Int) + (1 : Int))).toNat (↑l0.size : Int).toNat)), unk, unk, unk, Value.slice (some { block := (2 : Nat), off := (2 : Nat), spot := some (0 : Nat) : Addr }) (ws.length + (1 : Nat)) (0 : Nat), Value.bool false, unk, unk, unk, unk, unk, unk, unk, unk, unk, unk, unk, unk, unk, unk, unk, unk, unk, unk, unk, unk, unk, unk, unk, unk, unk, unk, unk, unk, unk, unk, unk, unk, unk, unk, unk, unk, unk, unk, unk, unk, unk, unk, unk, unk, unk, unk, unk, unk, unk, unk, unk, unk, unk, unk, unk, unk, unk, unk, unk, unk, unk, unk, unk, unk, unk, unk, unk, unk, unk, unk, unk, unk, unk, unk, unk, unk, unk, unk, unk, unk, unk, unk, unk, unk, unk], V := [VObj.dead, VObj.dead, VObj.vec (9 : TypeId) (1 : Nat) (ws.length + (1 : Nat)) (joinF ws.length f fun j => nth [] [[Value.string (qW (l0.extract (IntKind.i64.wrap ((↑pos : Int) + (1 : Int))).toNat (↑l0.size : Int).toNat))]] ((0 : Nat) + j))] : VSt })) (((1 : Nat) ≤ (1 : Nat) ∧
    ws.length = ws.length ∧
    Nat.succ (0 : Nat) ≤ (1 : Nat) ∧
    fitsN (ws.length + (1 : Nat)) (16 : Nat)) ∧
    Nat.succ (0 : Nat) ≤ ws.length + (1 : Nat) ∧
    OutAt tgt (qL (l0.extract (IntKind.i64.wrap ((↑pos : Int) + (1 : Int))).toNat (↑l0.size : Int).toNat)) (ws.length + (1 : Nat)) (ws.length + (1 : Nat)) (joinF ws.length f fun j => nth [] [[Value.string (qW (l0.extract (IntKind.i64.wrap ((↑pos : Int) + (1 : Int))).toNat (↑l0.size : Int).toNat))]] ((0 : Nat) + j)) false ∧
    LtSz (qL (l0.extract (IntKind.i64.wrap ((↑pos : Int) + (1 : Int))).toNat (↑l0.size : Int).toNat)) l0 ∧
    QSt { tmps := [Value.string (qL (l0.extract (IntKind.i64.wrap ((↑pos : Int) + (1 : Int))).toNat (↑l0.size : Int).toNat)), unk, unk, unk, Value.slice (some { block := (2 : Nat), off := (2 : Nat), spot := some (0 : Nat) : Addr }) (ws.length + (1 : Nat)) (0 : Nat), Value.bool false, unk, unk, unk, unk, unk, unk, unk, unk, unk, unk, unk, unk, unk, unk, unk, unk, unk, unk, unk, unk, unk, unk, unk, unk, unk, unk, unk, unk, unk, unk, unk, unk, unk, unk, unk, unk, unk, unk, unk, unk, unk, unk, unk, unk, unk, unk, unk, unk, unk, unk, unk, unk, unk, unk, unk, unk, unk, unk, unk, unk, unk, unk, unk, unk, unk, unk, unk, unk, unk, unk, unk, unk, unk, unk, unk, unk, unk, unk, unk, unk, unk, unk, unk, unk, unk], V := [VObj.dead, VObj.dead, VObj.vec (9 : Nat) (1 : Nat) (ws.length + (1 : Nat)) (joinF ws.length f fun j => nth [] [[Value.string (qW (l0.extract (IntKind.i64.wrap ((↑pos : Int) + (1 : Int))).toNat (↑l0.size : Int).toNat))]] ((0 : Nat) + j))] : VSt } { tmps := [Value.string (qL (l0.extract (IntKind.i64.wrap ((↑pos : Int) + (1 : Int))).toNat (↑l0.size : Int).toNat)), unk, unk, unk, Value.slice (some { block := (2 : Nat), off := (2 : Nat), spot := some (0 : Nat) : Addr }) (ws.length + (1 : Nat)) (0 : Nat), Value.bool false, unk, unk, unk, unk, unk, unk, unk, unk, unk, unk, unk, unk, unk, unk, unk, unk, unk, unk, unk, unk, unk, unk, unk, unk, unk, unk, unk, unk, unk, unk, unk, unk, unk, unk, unk, unk, unk, unk, unk, unk, unk, unk, unk, unk, unk, unk, unk, unk, unk, unk, unk, unk, unk, unk, unk, unk, unk, unk, unk, unk, unk, unk, unk, unk, unk, unk, unk, unk, unk, unk, unk, unk, unk, unk, unk, unk, unk, unk, unk, unk, unk, unk, unk, unk, unk], V := [VObj.dead, VObj.dead, VObj.vec (9 : TypeId) (1 : Nat) (ws.length + (1 : Nat)) (joinF ws.length f fun j => nth [] [[Value.string (qW (l0.extract (IntKind.i64.wrap ((↑pos : Int) + (1 : Int))).toNat (↑l0.size : Int).toNat))]] ((0 : Nat) + j))] : VSt })) (((1 : Nat) ≤ (1 : Nat) ∧
    ws.length = ws.length ∧
    Nat.succ (0 : Nat) ≤ (1 : Nat) ∧
    fitsN (ws.length + (1 : Nat)) (16 : Nat)) ∧
    Nat.succ (0 : Nat) ≤ ws.length + (1 : Nat) ∧
    OutAt tgt (qL (l0.extract (IntKind.i64.wrap ((↑pos : Int) + (1 : Int))).toNat (↑l0.size : Int).toNat)) (ws.length + (1 : Nat)) (ws.length + (1 : Nat)) (joinF ws.length f fun j => nth [] [[Value.string (qW (l0.extract (IntKind.i64.wrap ((↑pos : Int) + (1 : Int))).toNat (↑l0.size : Int).toNat))]] ((0 : Nat) + j)) false ∧
    LtSz (qL (l0.extract (IntKind.i64.wrap ((↑pos : Int) + (1 : Int))).toNat (↑l0.size : Int).toNat)) l0 ∧
    QSt { tmps := [Value.string (qL (l0.extract (IntKind.i64.wrap ((↑pos : Int) + (1 : Int))).toNat (↑l0.size : Int).toNat)), unk, unk, unk, Value.slice (some { block := (2 : Nat), off := (2 : Nat), spot := some (0 : Nat) : Addr }) (ws.length + (1 : Nat)) (0 : Nat), Value.bool false, unk, unk, unk, unk, unk, unk, unk, unk, unk, unk, unk, unk, unk, unk, unk, unk, unk, unk, unk, unk, unk, unk, unk, unk, unk, unk, unk, unk, unk, unk, unk, unk, unk, unk, unk, unk, unk, unk, unk, unk, unk, unk, unk, unk, unk, unk, unk, unk, unk, unk, unk, unk, unk, unk, unk, unk, unk, unk, unk, unk, unk, unk, unk, unk, unk, unk, unk, unk, unk, unk, unk, unk, unk, unk, unk, unk, unk, unk, unk, unk, unk, unk, unk, unk, unk], V := [VObj.dead, VObj.dead, VObj.vec (9 : Nat) (1 : Nat) (ws.length + (1 : Nat)) (joinF ws.length f fun j => nth [] [[Value.string (qW (l0.extract (IntKind.i64.wrap ((↑pos : Int) + (1 : Int))).toNat (↑l0.size : Int).toNat))]] ((0 : Nat) + j))] : VSt } { tmps := [Value.string (qL (l0.extract (IntKind.i64.wrap ((↑pos : Int) + (1 : Int))).toNat (↑l0.size : Int).toNat)), unk, unk, unk, Value.slice (some { block := (2 : Nat), off := (2 : Nat), spot := some (0 : Nat) : Addr }) (ws.length + (1 : Nat)) (0 : Nat), Value.bool false, unk, unk, unk, unk, unk, unk, unk, unk, unk, unk, unk, unk, unk, unk, unk, unk, unk, unk, unk, unk, unk, unk, unk, unk, unk, unk, unk, unk, unk, unk, unk, unk, unk, unk, unk, unk, unk, unk, unk, unk, unk, unk, unk, unk, unk, unk, unk, unk, unk, unk, unk, unk, unk, unk, unk, unk, unk, unk, unk, unk, unk, unk, unk, unk, unk, unk, unk, unk, unk, unk, unk, unk, unk, unk, unk, unk, unk, unk, unk, unk, unk, unk, unk, unk, unk], V := [VObj.dead, VObj.dead, VObj.vec (9 : TypeId) (1 : Nat) (ws.length + (1 : Nat)) (joinF ws.length f fun j => nth [] [[Value.string (qW (l0.extract (IntKind.i64.wrap ((↑pos : Int) + (1 : Int))).toNat (↑l0.size : Int).toNat))]] ((0 : Nat) + j))] : VSt }))))) ((k = (0 : Nat) → False) ∧
    (Value.string l0 = Value.string l0 ∧
    Value.slice (some { block := (0 : Nat), off := (2 : Nat), spot := some (0 : Nat) : Addr }) ws.length (0 : Nat) = Value.slice (some { block := (0 : Nat), off := { block := (0 : Nat), off := (2 : Nat), spot := some (0 : Nat) : Addr }.off, spot := some (0 : Nat) : Addr }) ws.length (0 : Nat) ∧
    Value.bool ap = Value.bool ap ∧
    Value.pointer (some { block := (1 : Nat), off := (0 : Nat) : Addr }) = Value.pointer (some { block := (1 : Nat), off := { block := (1 : Nat), off := (0 : Nat) : Addr }.off : Addr }) ∧
    True) ∧
    InnAt tgt l0 l0 l0 (pos + (Utf8.decode l0 pos).snd) ws.length ws.length f ap (k - (1 : Nat)))))
    (bsplit ((↑(Utf8.decode l0 pos).fst : Int) == (34 : Int)) (((0 : Int) ≤ IntKind.i64.wrap ((↑pos : Int) + (1 : Int)) ∧
    IntKind.i64.wrap ((↑pos : Int) + (1 : Int)) ≤ (↑l0.size : Int) ∧
    (↑l0.size : Int) ≤ (↑l0.size : Int)) ∧
    (l0.extract (IntKind.i64.wrap ((↑pos : Int) + (1 : Int))).toNat (↑l0.size : Int).toNat).size ≤ (2147483648 : Nat) ∧
    bsplit (!qB (l0.extract (IntKind.i64.wrap ((↑pos : Int) + (1 : Int))).toNat (↑l0.size : Int).toNat)) (RetNo tgt ∧
    QSt { tmps := [unk, unk, Value.slice none (0 : Nat) (0 : Nat), Value.int IntKind.i64 (200 : Int), unk, unk, unk, unk, unk, unk, unk, unk, unk, unk, unk, unk, unk, unk, unk, unk, unk, unk, unk, unk, unk, unk, unk, unk, unk, unk, unk, unk, unk, unk, unk, unk, unk, unk, unk, unk, unk, unk, unk, unk, unk, unk, unk, unk, unk, unk, unk, unk, unk, unk, unk, unk, unk, unk, unk, unk, unk, unk, unk, unk, unk, unk, unk, unk, unk, unk, unk, unk, unk, unk, unk, unk, unk, unk, unk, unk, unk, unk, unk, unk, unk, unk, unk, unk, unk, unk, unk], V := [VObj.dead, VObj.dead] : VSt } { tmps := [unk, unk, Value.slice none (0 : Nat) (0 : Nat), Value.int IntKind.i64 (200 : Int), unk, unk, unk, unk, unk, unk, unk, unk, unk, unk, unk, unk, unk, unk, unk, unk, unk, unk, unk, unk, unk, unk, unk, unk, unk, unk, unk, unk, unk, unk, unk, unk, unk, unk, unk, unk, unk, unk, unk, unk, unk, unk, unk, unk, unk, unk, unk, unk, unk, unk, unk, unk, unk, unk, unk, unk, unk, unk, unk, unk, unk, unk, unk, unk, unk, unk, unk, unk, unk, unk, unk, unk, unk, unk, unk, unk, unk, unk, unk, unk, unk, unk, unk, unk, unk, unk, unk], V := [VObj.dead, VObj.dead] : VSt })
    (bsplit (decide ((↑pos : Int) > (0 : Int))) (RetNo tgt ∧
    QSt { tmps := [unk, unk, Value.slice none (0 : Nat) (0 : Nat), Value.int IntKind.i64 (200 : Int), unk, unk, unk, unk, unk, unk, unk, unk, unk, unk, unk, unk, unk, unk, unk, unk, unk, unk, unk, unk, unk, unk, unk, unk, unk, unk, unk, unk, unk, unk, unk, unk, unk, unk, unk, unk, unk, unk, unk, unk, unk, unk, unk, unk, unk, unk, unk, unk, unk, unk, unk, unk, unk, unk, unk, unk, unk, unk, unk, unk, unk, unk, unk, unk, unk, unk, unk, unk, unk, unk, unk, unk, unk, unk, unk, unk, unk, unk, unk, unk, unk, unk, unk, unk, unk, unk, unk], V := [VObj.dead, VObj.dead] : VSt } { tmps := [unk, unk, Value.slice none (0 : Nat) (0 : Nat), Value.int IntKind.i64 (200 : Int), unk, unk, unk, unk, unk, unk, unk, unk, unk, unk, unk, unk, unk, unk, unk, unk, unk, unk, unk, unk, unk, unk, unk, unk, unk, unk, unk, unk, unk, unk, unk, unk, unk, unk, unk, unk, unk, unk, unk, unk, unk, unk, unk, unk, unk, unk, unk, unk, unk, unk, unk, unk, unk, unk, unk, unk, unk, unk, unk, unk, unk, unk, unk, unk, unk, unk, unk, unk, unk, unk, unk, unk, unk, unk, unk, unk, unk, unk, unk, unk, unk, unk, unk, unk, unk, unk, unk], V := [VObj.dead, VObj.dead] : VSt })
    (bsplit (!ap) (RetNo tgt ∧
    QSt { tmps := [unk, unk, Value.slice none (0 : Nat) (0 : Nat), Value.int IntKind.i64 (200 : Int), unk, unk, unk, unk, unk, unk, unk, unk, unk, unk, unk, unk, unk, unk, unk, unk, unk, unk, unk, unk, unk, unk, unk, unk, unk, unk, unk, unk, unk, unk, unk, unk, unk, unk, unk, unk, unk, unk, unk, unk, unk, unk, unk, unk, unk, unk, unk, unk, unk, unk, unk, unk, unk, unk, unk, unk, unk, unk, unk, unk, unk, unk, unk, unk, unk, unk, unk, unk, unk, unk, unk, unk, unk, unk, unk, unk, unk, unk, unk, unk, unk, unk, unk, unk, unk, unk, unk], V := [VObj.dead, VObj.dead] : VSt } { tmps := [unk, unk, Value.slice none (0 : Nat) (0 : Nat), Value.int IntKind.i64 (200 : Int), unk, unk, unk, unk, unk, unk, unk, unk, unk, unk, unk, unk, unk, unk, unk, unk, unk, unk, unk, unk, unk, unk, unk, unk, unk, unk, unk, unk, unk, unk, unk, unk, unk, unk, unk, unk, unk, unk, unk, unk, unk, unk, unk, unk, unk, unk, unk, unk, unk, unk, unk, unk, unk, unk, unk, unk, unk, unk, unk, unk, unk, unk, unk, unk, unk, unk, unk, unk, unk, unk, unk, unk, unk, unk, unk, unk, unk, unk, unk, unk, unk, unk, unk, unk, unk, unk, unk], V := [VObj.dead, VObj.dead] : VSt })
    (bsplit (!(qL (l0.extract (IntKind.i64.wrap ((↑pos : Int) + (1 : Int))).toNat (↑l0.size : Int).toNat)).data.toList == { data := #[] : ByteArray }.data.toList) (((0 : Int) ≤ (0 : Int) ∧
    (0 : Int) + (1 : Int) ≤ (↑(qL (l0.extract (IntKind.i64.wrap ((↑pos : Int) + (1 : Int))).toNat (↑l0.size : Int).toNat)).size : Int)) ∧
    bsplit ((↑(strAt (qL (l0.extract (IntKind.i64.wrap ((↑pos : Int) + (1 : Int))).toNat (↑l0.size : Int).toNat)) (Int.toNat (0 : Int))) : Int) != (32 : Int)) (((0 : Int) ≤ (0 : Int) ∧
    (0 : Int) + (1 : Int) ≤ (↑(qL (l0.extract (IntKind.i64.wrap ((↑pos : Int) + (1 : Int))).toNat (↑l0.size : Int).toNat)).size : Int)) ∧
    bsplit ((↑(strAt (qL (l0.extract (IntKind.i64.wrap ((↑pos : Int) + (1 : Int))).toNat (↑l0.size : Int).toNat)) (Int.toNat (0 : Int))) : Int) != (9 : Int)) (RetNo tgt ∧
    QSt { tmps := [unk, unk, Value.slice none (0 : Nat) (0 : Nat), Value.int IntKind.i64 (200 : Int), unk, unk, unk, unk, unk, unk, unk, unk, unk, unk, unk, unk, unk, unk, unk, unk, unk, unk, unk, unk, unk, unk, unk, unk, unk, unk, unk, unk, unk, unk, unk, unk, unk, unk, unk, unk, unk, unk, unk, unk, unk, unk, unk, unk, unk, unk, unk, unk, unk, unk, unk, unk, unk, unk, unk, unk, unk, unk, unk, unk, unk, unk, unk, unk, unk, unk, unk, unk, unk, unk, unk, unk, unk, unk, unk, unk, unk, unk, unk, unk, unk, unk, unk, unk, unk, unk, unk], V := [VObj.dead, VObj.dead] : VSt } { tmps := [unk, unk, Value.slice none (0 : Nat) (0 : Nat), Value.int IntKind.i64 (200 : Int), unk, unk, unk, unk, unk, unk, unk, unk, unk, unk, unk, unk, unk, unk, unk, unk, unk, unk, unk, unk, unk, unk, unk, unk, unk, unk, unk, unk, unk, unk, unk, unk, unk, unk, unk, unk, unk, unk, unk, unk, unk, unk, unk, unk, unk, unk, unk, unk, unk, unk, unk, unk, unk, unk, unk, unk, unk, unk, unk, unk, unk, unk, unk, unk, unk, unk, unk, unk, unk, unk, unk, unk, unk, unk, unk, unk, unk, unk, unk, unk, unk, unk, unk, unk, unk, unk, unk], V := [VObj.dead, VObj.dead] : VSt }) (((1 : Nat) ≤ (1 : Nat) ∧
    ws.length = ws.length ∧
    Nat.succ (0 : Nat) ≤ (1 : Nat) ∧
    fitsN (ws.length + (1 : Nat)) (16 : Nat)) ∧
    Nat.succ (0 : Nat) ≤ ws.length + (1 : Nat) ∧
    OutAt tgt (qL (l0.extract (IntKind.i64.wrap ((↑pos : Int) + (1 : Int))).toNat (↑l0.size : Int).toNat)) (ws.length + (1 : Nat)) (ws.length + (1 : Nat)) (joinF ws.length f fun j => nth [] [[Value.string (qW (l0.extract (IntKind.i64.wrap ((↑pos : Int) + (1 : Int))).toNat (↑l0.size : Int).toNat))]] ((0 : Nat) + j)) false ∧
    LtSz (qL (l0.extract (IntKind.i64.wrap ((↑pos : Int) + (1 : Int))).toNat (↑l0.size : Int).toNat)) l0 ∧
    QSt { tmps := [Value.string (qL (l0.extract (IntKind.i64.wrap ((↑pos : Int) + (1 : Int))).toNat (↑l0.size : Int).toNat)), unk, unk, unk, Value.slice (some { block := (2 : Nat), off := (2 : Nat), spot := some (0 : Nat) : Addr }) (ws.length + (1 : Nat)) (0 : Nat), Value.bool false, unk, unk, unk, unk, unk, unk, unk, unk, unk, unk, unk, unk, unk, unk, unk, unk, unk, unk, unk, unk, unk, unk, unk, unk, unk, unk, unk, unk, unk, unk, unk, unk, unk, unk, unk, unk, unk, unk, unk, unk, unk, unk, unk, unk, unk, unk, unk, unk, unk, unk, unk, unk, unk, unk, unk, unk, unk, unk, unk, unk, unk, unk, unk, unk, unk, unk, unk, unk, unk, unk, unk, unk, unk, unk, unk, unk, unk, unk, unk, unk, unk, unk, unk, unk, unk], V := [VObj.dead, VObj.dead, VObj.vec (9 : Nat) (1 : Nat) (ws.length + (1 : Nat)) (joinF ws.length f fun j => nth [] [[Value.string (qW (l0.extract (IntKind.i64.wrap ((↑pos : Int) + (1 : Int))).toNat (↑l0.size : Int).toNat))]] ((0 : Nat) + j))] : VSt } { tmps := [Value.string (qL (l0.extract (IntKind.i64.wrap ((↑pos : Int) + (1 : Int))).toNat (↑l0.size : Int).toNat)), unk, unk, unk, Value.slice (some { block := (2 : Nat), off := (2 : Nat), spot := some (0 : Nat) : Addr }) (ws.length + (1 : Nat)) (0 : Nat), Value.bool false, unk, unk, unk, unk, unk, unk, unk, unk, unk, unk, unk, unk, unk, unk, unk, unk, unk, unk, unk, unk, unk, unk, unk, unk, unk, unk, unk, unk, unk, unk, unk, unk, unk, unk, unk, unk, unk, unk, unk, unk, unk, unk, unk, unk, unk, unk, unk, unk, unk, unk, unk, unk, unk, unk, unk, unk, unk, unk, unk, unk, unk, unk, unk, unk, unk, unk, unk, unk, unk, unk, unk, unk, unk, unk, unk, unk, unk, unk, unk, unk, unk, unk, unk, unk, unk], V := [VObj.dead, VObj.dead, VObj.vec (9 : TypeId) (1 : Nat) (ws.length + (1 : Nat)) (joinF ws.length f fun j => nth [] [[Value.string (qW (l0.extract (IntKind.i64.wrap ((↑pos : Int) + (1 : Int))).toNat (↑l0.size : Int).toNat))]] ((0 : Nat) + j))] : VSt })) (((1 : Nat) ≤ (1 : Nat) ∧
    ws.length = ws.length ∧
    Nat.succ (0 : Nat) ≤ (1 : Nat) ∧
    fitsN (ws.length + (1 : Nat)) (16 : Nat)) ∧
    Nat.succ (0 : Nat) ≤ ws.length + (1 : Nat) ∧
    OutAt tgt (qL (l0.extract (IntKind.i64.wrap ((↑pos : Int) + (1 : Int))).toNat (↑l0.size : Int).toNat)) (ws.length + (1 : Nat)) (ws.length + (1 : Nat)) (joinF ws.length f fun j => nth [] [[Value.string (qW (l0.extract (IntKind.i64.wrap ((↑pos : Int) + (1 : Int))).toNat (↑l0.size : Int).toNat))]] ((0 : Nat) + j)) false ∧
    LtSz (qL (l0.extract (IntKind.i64.wrap ((↑pos : Int) + (1 : Int))).toNat (↑l0.size : Int).toNat)) l0 ∧
    QSt { tmps := [Value.string (qL (l0.extract (IntKind.i64.wrap ((↑pos : Int) + (1 : Int))).toNat (↑l0.size : Int).toNat)), unk, unk, unk, Value.slice (some { block := (2 : Nat), off := (2 : Nat), spot := some (0 : Nat) : Addr }) (ws.length + (1 : Nat)) (0 : Nat), Value.bool false, unk, unk, unk, unk, unk, unk, unk, unk, unk, unk, unk, unk, unk, unk, unk, unk, unk, unk, unk, unk, unk, unk, unk, unk, unk, unk, unk, unk, unk, unk, unk, unk, unk, unk, unk, unk, unk, unk, unk, unk, unk, unk, unk, unk, unk, unk, unk, unk, unk, unk, unk, unk, unk, unk, unk, unk, unk, unk, unk, unk, unk, unk, unk, unk, unk, unk, unk, unk, unk, unk, unk, unk, unk, unk, unk, unk, unk, unk, unk, unk, unk, unk, unk, unk, unk], V := [VObj.dead, VObj.dead, VObj.vec (9 : Nat) (1 : Nat) (ws.length + (1 : Nat)) (joinF ws.length f fun j => nth [] [[Value.string (qW (l0.extract (IntKind.i64.wrap ((↑pos : Int) + (1 : Int))).toNat (↑l0.size : Int).toNat))]] ((0 : Nat) + j))] : VSt } { tmps := [Value.string (qL (l0.extract (IntKind.i64.wrap ((↑pos : Int) + (1 : Int))).toNat (↑l0.size : Int).toNat)), unk, unk, unk, Value.slice (some { block := (2 : Nat), off := (2 : Nat), spot := some (0 : Nat) : Addr }) (ws.length + (1 : Nat)) (0 : Nat), Value.bool false, unk, unk, unk, unk, unk, unk, unk, unk, unk, unk, unk, unk, unk, unk, unk, unk, unk, unk, unk, unk, unk, unk, unk, unk, unk, unk, unk, unk, unk, unk, unk, unk, unk, unk, unk, unk, unk, unk, unk, unk, unk, unk, unk, unk, unk, unk, unk, unk, unk, unk, unk, unk, unk, unk, unk, unk, unk, unk, unk, unk, unk, unk, unk, unk, unk, unk, unk, unk, unk, unk, unk, unk, unk, unk, unk, unk, unk, unk, unk, unk, unk, unk, unk, unk, unk], V := [VObj.dead, VObj.dead, VObj.vec (9 : TypeId) (1 : Nat) (ws.length + (1 : Nat)) (joinF ws.length f fun j => nth [] [[Value.string (qW (l0.extract (IntKind.i64.wrap ((↑pos : Int) + (1 : Int))).toNat (↑l0.size : Int).toNat))]] ((0 : Nat) + j))] : VSt })) (((1 : Nat) ≤ (1 : Nat) ∧
    ws.length = ws.length ∧
    Nat.succ (0 : Nat) ≤ (1 : Nat) ∧
    fitsN (ws.length + (1 : Nat)) (16 : Nat)) ∧
    Nat.succ (0 : Nat) ≤ ws.length + (1 : Nat) ∧
    OutAt tgt (qL (l0.extract (IntKind.i64.wrap ((↑pos : Int) + (1 : Int))).toNat (↑l0.size : Int).toNat)) (ws.length + (1 : Nat)) (ws.length + (1 : Nat)) (joinF ws.length f fun j => nth [] [[Value.string (qW (l0.extract (IntKind.i64.wrap ((↑pos : Int) + (1 : Int))).toNat (↑l0.size : Int).toNat))]] ((0 : Nat) + j)) false ∧
    LtSz (qL (l0.extract (IntKind.i64.wrap ((↑pos : Int) + (1 : Int))).toNat (↑l0.size : Int).toNat)) l0 ∧
    QSt { tmps := [Value.string (qL (l0.extract (IntKind.i64.wrap ((↑pos : Int) + (1 : Int))).toNat (↑l0.size : Int).toNat)), unk, unk, unk, Value.slice (some { block := (2 : Nat), off := (2 : Nat), spot := some (0 : Nat) : Addr }) (ws.length + (1 : Nat)) (0 : Nat), Value.bool false, unk, unk, unk, unk, unk, unk, unk, unk, unk, unk, unk, unk, unk, unk, unk, unk, unk, unk, unk, unk, unk, unk, unk, unk, unk, unk, unk, unk, unk, unk, unk, unk, unk, unk, unk, unk, unk, unk, unk, unk, unk, unk, unk, unk, unk, unk, unk, unk, unk, unk, unk, unk, unk, unk, unk, unk, unk, unk, unk, unk, unk, unk, unk, unk, unk, unk, unk, unk, unk, unk, unk, unk, unk, unk, unk, unk, unk, unk, unk, unk, unk, unk, unk, unk, unk], V := [VObj.dead, VObj.dead, VObj.vec (9 : Nat) (1 : Nat) (ws.length + (1 : Nat)) (joinF ws.length f fun j => nth [] [[Value.string (qW (l0.extract (IntKind.i64.wrap ((↑pos : Int) + (1 : Int))).toNat (↑l0.size : Int).toNat))]] ((0 : Nat) + j))] : VSt } { tmps := [Value.string (qL (l0.extract (IntKind.i64.wrap ((↑pos : Int) + (1 : Int))).toNat (↑l0.size : Int).toNat)), unk, unk, unk, Value.slice (some { block := (2 : Nat), off := (2 : Nat), spot := some (0 : Nat) : Addr }) (ws.length + (1 : Nat)) (0 : Nat), Value.bool false, unk, unk, unk, unk, unk, unk, unk, unk, unk, unk, unk, unk, unk, unk, unk, unk, unk, unk, unk, unk, unk, unk, unk, unk, unk, unk, unk, unk, unk, unk, unk, unk, unk, unk, unk, unk, unk, unk, unk, unk, unk, unk, unk, unk, unk, unk, unk, unk, unk, unk, unk, unk, unk, unk, unk, unk, unk, unk, unk, unk, unk, unk, unk, unk, unk, unk, unk, unk, unk, unk, unk, unk, unk, unk, unk, unk, unk, unk, unk, unk, unk, unk, unk, unk, unk], V := [VObj.dead, VObj.dead, VObj.vec (9 : TypeId) (1 : Nat) (ws.length + (1 : Nat)) (joinF ws.length f fun j => nth [] [[Value.string (qW (l0.extract (IntKind.i64.wrap ((↑pos : Int) + (1 : Int))).toNat (↑l0.size : Int).toNat))]] ((0 : Nat) + j))] : VSt }))))) ((k = (0 : Nat) → False) ∧
    (Value.string l0 = Value.string l0 ∧
    Value.slice (some { block := (0 : Nat), off := (2 : Nat), spot := some (0 : Nat) : Addr }) ws.length (0 : Nat) = Value.slice (some { block := (0 : Nat), off := { block := (0 : Nat), off := (2 : Nat), spot := some (0 : Nat) : Addr }.off, spot := some (0 : Nat) : Addr }) ws.length (0 : Nat) ∧
    Value.bool ap = Value.bool ap ∧
    Value.pointer (some { block := (1 : Nat), off := (0 : Nat) : Addr }) = Value.pointer (some { block := (1 : Nat), off := { block := (1 : Nat), off := (0 : Nat) : Addr }.off : Addr }) ∧
    True) ∧
    InnAt tgt l0 l0 l0 (pos + (Utf8.decode l0 pos).snd) ws.length ws.length f ap (k - (1 : Nat))))))) (InnStop tgt l0 ws.length ws.length f ∧
    QSt { tmps := [Value.string l0, unk, unk, unk, Value.slice (some { block := (0 : Nat), off := { block := (0 : Nat), off := (2 : Nat), spot := some (0 : Nat) : Addr }.off, spot := some (0 : Nat) : Addr }) ws.length (0 : Nat), Value.bool ap, unk, unk, unk, unk, unk, unk, unk, unk, unk, unk, unk, unk, unk, unk, unk, unk, unk, unk, unk, unk, unk, unk, unk, unk, unk, unk, unk, unk, unk, unk, unk, unk, unk, unk, unk, unk, unk, unk, unk, unk, unk, unk, unk, unk, unk, unk, unk, unk, unk, unk, unk, unk, unk, unk, unk, unk, unk, unk, unk, unk, unk, unk, unk, unk, unk, unk, unk, unk, unk, unk, unk, unk, unk, unk, unk, unk, unk, unk, unk, unk, unk, unk, unk, unk, unk], V := [VObj.vec (9 : TypeId) (1 : Nat) ws.length f, VObj.iter l0 pos] : VSt } { tmps := [Value.string l0, unk, unk, unk, Value.slice (some { block := (0 : Nat), off := (2 : Nat), spot := some (0 : Nat) : Addr }) ws.length (0 : Nat), Value.bool ap, unk, unk, unk, unk, unk, unk, unk, unk, unk, unk, unk, unk, unk, unk, unk, unk, unk, unk, unk, unk, unk, unk, unk, unk, unk, unk, unk, unk, unk, unk, unk, unk, unk, unk, unk, unk, unk, unk, unk, unk, unk, unk, unk, unk, unk, unk, unk, unk, unk, unk, unk, unk, unk, unk, unk, unk, unk, unk, unk, unk, unk, unk, unk, unk, unk, unk, unk, unk, unk, unk, unk, unk, unk, unk, unk, unk, unk, unk, unk, unk, unk, unk, unk, unk, unk], V := [VObj.vec (9 : TypeId) (1 : Nat) ws.length f, VObj.iter l0 pos] : VSt })) (by kernel_rfl) ?_
  have hL : (bytesL l0).length = l0.size := rfl
  have hx : ∀ a : Nat, (l0.extract a l0.size).size = l0.size - a := by
    intro a
    rw [Lib.size_eq, show (l0.extract a l0.size).data.toList = bytesL (l0.extract a l0.size) from rfl, ext_bytes, List.length_drop, hL]
  simp only [Int.toNat_natCast, Int.toNat_zero, Int.le_refl, Int.natCast_nonneg, true_and]
  refine bsplit_iff.2 ⟨fun hlt => ?_, fun hge => ?_⟩
  · have hlt : pos < l0.size := by simpa using hlt
    have hlt' : pos < (bytesL l0).length := hlt
    have hw : IntKind.i64.wrap ((pos : Int) + 1) = ((pos + 1 : Nat) : Int) := by rw [w64 _ (by omega)]; rfl
    have hfit : fitsN (ws.length + 1) 16 := ⟨by omega, by omega⟩
    rw [hw, Int.toNat_natCast]
    generalize hrest : l0.extract (pos + 1) l0.size = rest
    have hrb : bytesL rest = (bytesL l0).drop (pos + 1) := by rw [← hrest]; exact ext_bytes _ _
    have hrs : rest.size = l0.size - (pos + 1) := by rw [← hrest]; exact hx _
    have dk := decode_kind l0 pos hlt'
    generalize hdec : Utf8.decode l0 pos = dec at *
    have iR : ∀ k : Int, ((dec.1 : Int) == k) = decide ((dec.1 : Int) = k) := fun k => rfl
    have iP : ((pos : Int) == 0) = decide (pos = 0) := by rw [Bool.eq_iff_iff]; simp
    have iG : decide ((pos : Int) > 0) = decide (0 < pos) := by rw [Bool.eq_iff_iff]; simp
    -- a small rune is that byte
    have small : ∀ k : Nat, k < 128 → (dec.1 : Int) = (k : Int) → (bytesL l0)[pos] = UInt8.ofNat k := by
      intro k hk he
      rcases dk with ⟨h1, h2⟩ | ⟨h1, _⟩
      · rw [h2] at he
        apply UInt8.toNat_inj.1
        rw [UInt8.toNat_ofNat_of_lt' (by show k < 256; omega)]
        have he' : (((bytesL l0)[pos].toNat : Nat) : Int) = (k : Int) := he
        omega
      · omega
    have BLANK : ((bytesL l0)[pos] = 32 ∨ (bytesL l0)[pos] = 9) → ∀ (m : Nat) (g : Nat → List Value), PRes ws.length f (l0.extract 0 pos) m g → OutAt tgt rest m m g true := by
      intro hb m g ⟨ws', h1, h2, h3, h4⟩
      have := RowS.uniq hf h2 h1
      subst this
      have ht0 : bytesL (l0.extract 0 pos) = (bytesL l0).take pos := by
        unfold bytesL
        rw [Lib.extract_data, List.drop_zero, Nat.sub_zero]
      rw [ht0] at h3 h4
      refine ⟨_, D, h3, h3, h4, ?_, by simp, ?_⟩
      · have : (plainL ws ((bytesL l0).take pos)).length ≤ ws.length + 1 := by unfold plainL; split <;> simp
        omega
      · rw [htgt, law_blank hlt' hb, hrb]
        simp
    have pre : PPre ws.length ws.length f := ⟨ws, rfl, rfl, hf, by omega⟩
    have ltr : LtSz rest l0 := ⟨by omega⟩
    have apPos : ap = false → (bytesL l0)[pos] = 32 ∨ (bytesL l0)[pos] = 9 := by
      intro h
      obtain ⟨h1, h2⟩ := hap h
      subst h2
      exact blankHead_cons.1 h1
    -- a quote
    have QUOTE : (dec.1 : Int) = 34 → (bytesL l0)[pos] = 34 := fun h => small 34 (by omega) h
    have QNO : (dec.1 : Int) = 34 → (quotO rest = none ∨ 0 < pos ∨ ap = false ∨ ∃ w left, quotO rest = some (w, left) ∧ ¬ blankHead left) → RetNo tgt := by
      intro h34 hor
      have hc := QUOTE h34
      constructor
      have hap2 : ap = true := by
        cases hh : ap with
        | true => rfl
        | false => rcases apPos hh with h | h <;> rw [hc] at h <;> exact absurd h (by decide)
      by_cases hp0 : pos = 0
      · subst hp0
        rw [htgt, hap2]
        rcases hor with h | h | h | ⟨w, left, h, hnb⟩
        · exact law_quote_no hrb hlt' hc h
        · omega
        · rw [hap2] at h; cases h
        · obtain ⟨D', hr⟩ := law_quote_yes (ws := ws) (D := D) hrb hlt' hc h
          rw [hr]
          exact law_behind hnb
      · rw [htgt]
        exact law_bad hlt' hp0 hc
    have QYES : (dec.1 : Int) = 34 → qB rest = true → pos = 0 → ap = true → blankHead (bytesL (qL rest)) →
        OutAt tgt (qL rest) (ws.length + 1) (ws.length + 1) (joinF ws.length f fun j => nth [] [[Value.string (qW rest)]] (0 + j)) false ∧ LtSz (qL rest) l0 := by
      intro h34 hq hp0 hap2 hbh
      subst hp0
      have hc := QUOTE h34
      cases hqo : quotO rest with
      | none => rw [qB, hqo] at hq; cases hq
      | some x =>
        obtain ⟨w, left⟩ := x
        have e1 : qW rest = ⟨w.toArray⟩ := by rw [qW, hqo]
        have e2 : qL rest = ⟨left.toArray⟩ := by rw [qL, hqo]
        have e3 : bytesL (qL rest) = left := by rw [e2]; simp [bytesL]
        have hle : left.length ≤ rest.size := quotF_le rest.size (bytesL rest) [] w left hqo
        have e4 : (qL rest).size = left.length := by rw [e2]; rfl
        obtain ⟨D', hr⟩ := law_quote_yes (ws := ws) (D := D) hrb hlt' hc hqo
        refine ⟨⟨ws ++ [⟨w.toArray⟩], D', by simp, by simp, hf.app e1, ?_, fun _ => hbh, ?_⟩, ⟨by omega⟩⟩
        · simp; omega
        · rw [htgt, hap2, hr, e3]
          simp
    -- on
    have SKIP : ¬ (dec.1 : Int) = 32 → ¬ (dec.1 : Int) = 9 → ¬ (dec.1 : Int) = 34 → ¬ ((dec.1 : Int) = 35 ∧ pos = 0 ∧ ap = true) → InnAt tgt l0 l0 l0 (pos + dec.2) ws.length ws.length f ap (k - 1) ∧ k ≠ 0 := by
      intro h32 h9 h34 h35
      have hall : 1 ≤ dec.2 ∧ pos + dec.2 ≤ (bytesL l0).length ∧ (∀ j (hj : j < (bytesL l0).length), pos ≤ j → j < pos + dec.2 → ¬ ((bytesL l0)[j] = 32 ∨ (bytesL l0)[j] = 9) ∧ (bytesL l0)[j] ≠ 34) := by
        rcases dk with ⟨h1, h2⟩ | ⟨h1, h2, h3, h4⟩
        · rw [h2] at h32 h9 h34 ⊢
          refine ⟨Nat.le_refl _, hlt', fun j hj ha hb => ?_⟩
          have : j = pos := by simp at hb; omega
          subst this
          refine ⟨fun h => ?_, fun h => ?_⟩
          · rcases h with h | h
            · exact h32 (by simp [h])
            · exact h9 (by simp [h])
          · exact h34 (by simp [h])
        · refine ⟨h2, h3, fun j hj ha hb => ?_⟩
          have := h4 j hj ha hb
          refine ⟨fun h => ?_, fun h => ?_⟩
          · rcases h with h | h <;> rw [h] at this <;> exact absurd this (by decide)
          · rw [h] at this; exact absurd this (by decide)
      obtain ⟨hw1, hw2, hw3⟩ := hall
      have hap2 : ap = true := by
        cases hh : ap with
        | true => rfl
        | false => exact absurd (apPos hh) (hw3 pos hlt' (Nat.le_refl _) (by omega)).1
      refine ⟨⟨rfl, rfl, ws, D, rfl, rfl, hf, hb, by omega, by omega, h0, (fun h => (by rw [hap2] at h; cases h)), ?_⟩, by omega⟩
      rw [htgt, hap2, law_skip hw1 hw2 hw3 fun hp0 hl hc => ?_]
      subst hp0
      apply h35
      refine ⟨?_, rfl, hap2⟩
      rcases dk with ⟨h1, h2⟩ | ⟨h1, h2, h3, h4⟩
      · rw [h2]; simp [hc]
      · have := h4 0 hl (Nat.le_refl _) (by omega)
        rw [hc] at this; exact absurd this (by decide)
    have skip : ¬ (dec.1 : Int) = 32 → ¬ (dec.1 : Int) = 9 → ¬ (dec.1 : Int) = 34 → ¬ ((dec.1 : Int) = 35 ∧ pos = 0 ∧ ap = true) → (k = 0 → False) ∧ InnAt tgt l0 l0 l0 (pos + dec.2) ws.length ws.length f ap (k - 1) :=
      fun a b c d => ⟨(SKIP a b c d).2, (SKIP a b c d).1⟩
    have COMMENT : (dec.1 : Int) = 35 → pos = 0 → ap = true → RetOk tgt ws.length ws.length f := by
      intro h35 hp0 hap2
      have hc := small 35 (by omega) h35
      subst hp0
      refine ⟨ws, rfl, rfl, hf, ?_⟩
      rw [htgt, hap2]
      exact law_comment hlt' hc
    have e9' : (dec.1 : Int) = 9 → (bytesL l0)[pos] = 9 := fun h => small 9 (by omega) h
    have e32' : (dec.1 : Int) = 32 → (bytesL l0)[pos] = 32 := fun h => small 32 (by omega) h
    clear hJ ht hV hap htgt hx small QUOTE apPos SKIP
    simp only [iR, iP, iG, empty_iff]
    refine bsplit_iff.2 ⟨fun h32 => ?_, fun h32 => bsplit_iff.2 ⟨fun h9 => ?_, fun h9 => bsplit_iff.2 ⟨fun h35 => bsplit_iff.2 ⟨fun hp0 => bsplit_iff.2 ⟨fun hap2 => ?_, fun hap2 => ?_⟩, fun hp0 => ?_⟩, fun h35 => ?_⟩⟩⟩
    · exact ⟨by omega, pre, fun m g hr => ⟨⟨by omega, by omega, trivial⟩, BLANK (.inl (e32' (by simpa using h32))) m g hr, ltr, ⟨rfl⟩⟩⟩
    · exact ⟨by omega, pre, fun m g hr => ⟨⟨by omega, by omega, trivial⟩, BLANK (.inr (e9' (by simpa using h9))) m g hr, ltr, ⟨rfl⟩⟩⟩
    · exact ⟨COMMENT (by simpa using h35) (by simpa using hp0) hap2, ⟨rfl⟩⟩
    all_goals
      have hn : ¬ ((dec.1 : Int) = 35 ∧ pos = 0 ∧ ap = true) := by
        intro ⟨a, b, c⟩
        simp_all
      have h32' : ¬ (dec.1 : Int) = 32 := by simpa using h32
      have h9' : ¬ (dec.1 : Int) = 9 := by simpa using h9
      refine bsplit_iff.2 ⟨fun h34 => ?_, fun h34 => skip h32' h9' (by simpa using h34) hn⟩
      have h34' : (dec.1 : Int) = 34 := by simpa using h34
      refine ⟨⟨by omega, by omega, trivial⟩, by omega, bsplit_iff.2 ⟨fun hq => ⟨QNO h34' (.inl ?_), ⟨rfl⟩⟩, fun hq => bsplit_iff.2 ⟨fun hp => ⟨QNO h34' (.inr (.inl (by simpa using hp))), ⟨rfl⟩⟩, fun hp => bsplit_iff.2 ⟨fun ha => ⟨QNO h34' (.inr (.inr (.inl (by simpa using ha)))), ⟨rfl⟩⟩, fun ha => ?_⟩⟩⟩⟩
      · have hq : qB rest = false := by simpa using hq
        rw [qB] at hq
        simpa using hq
      have hq : qB rest = true := by simpa using hq
      have hp : pos = 0 := by simpa using hp
      have ha : ap = true := by simpa using ha
      have OK : blankHead (bytesL (qL rest)) → _ := fun hbh => QYES h34' hq hp ha hbh
      refine bsplit_iff.2 ⟨fun he => ?_, fun he => ?_⟩
      · have he : ¬ bytesL (qL rest) = [] := by simpa [bytesL] using he
        have hpos : 0 < (bytesL (qL rest)).length := List.length_pos_iff.2 he
        have hsz : (qL rest).size = (bytesL (qL rest)).length := rfl
        have hlaw := head_law (qL rest) hpos
        refine ⟨by omega, bsplit_iff.2 ⟨fun h1 => ⟨by omega, bsplit_iff.2 ⟨fun h2 => ⟨QNO h34' (.inr (.inr (.inr (qNB hq ?_)))), ⟨rfl⟩⟩, fun h2 => ?_⟩⟩, fun h1 => ?_⟩⟩
        · rw [hlaw]
          intro h
          rcases h with h | h
          · rw [h] at h1; exact absurd h1 (by decide)
          · rw [h] at h2; exact absurd h2 (by decide)
        · obtain ⟨a, b⟩ := OK (hlaw.2 (.inr (by simpa using h2)))
          first
            | exact ⟨hfit, by omega, a, b, ⟨rfl⟩⟩
            | exact ⟨⟨by omega, by omega, hfit⟩, by omega, a, b, ⟨rfl⟩⟩
            | exact ⟨⟨by omega, hfit⟩, by omega, a, b, ⟨rfl⟩⟩
        · obtain ⟨a, b⟩ := OK (hlaw.2 (.inl (by simpa using h1)))
          first
            | exact ⟨hfit, by omega, a, b, ⟨rfl⟩⟩
            | exact ⟨⟨by omega, by omega, hfit⟩, by omega, a, b, ⟨rfl⟩⟩
            | exact ⟨⟨by omega, hfit⟩, by omega, a, b, ⟨rfl⟩⟩
      · have he : bytesL (qL rest) = [] := by simpa [bytesL] using he
        obtain ⟨a, b⟩ := OK (by rw [he]; trivial)
        first
          | exact ⟨hfit, by omega, a, b, ⟨rfl⟩⟩
          | exact ⟨⟨by omega, by omega, hfit⟩, by omega, a, b, ⟨rfl⟩⟩
          | exact ⟨⟨by omega, hfit⟩, by omega, a, b, ⟨rfl⟩⟩
  · have hge : ¬ pos < l0.size := by simpa using hge
    refine ⟨⟨ws, rfl, rfl, hf, by omega, ?_⟩, ⟨rfl⟩⟩
    rw [htgt, law_stop (by omega) (by omega)]

def innT (tgt : Option (List ByteArray)) : BlkS := fun S K =>
  match nth undef S.tmps 0 with
  | .string l0 => reshape S.V.length (innSel .normal S) [0, 4, 5, 14] [] [] S (innJ tgt l0 l0.size) ∧ S.V.length = 2 ∧
      (∀ l n f ap l' pos, InnStop tgt l n n f → K .normal (stopS l n f ap l' pos)) ∧ (∀ l n f ap, OutAt tgt l n n f ap → LtSz l l0 → K (.exit 1) (contS l n f ap)) ∧
      (∀ n f, RetOk tgt n n f → K .ret (retS n f)) ∧ (RetNo tgt → K .ret retN)
  | _ => False

theorem inn_loop (tgt : Option (List ByteArray)) (S : VSt) (K : Exit → VSt → Prop) (h : innT tgt S K) : Does Tryd.prog (.block 2 (.loop (roundOf Tryd.f7 2))) S K := by
  unfold innT at h
  split at h
  · rename_i l0 hl0
    obtain ⟨h1, h2, h3, h4, h5, h6⟩ := h
    refine Does.mono (Does.loopR (K := innK tgt l0) innKs innSel [] [] (innJ tgt l0) S (reshape_mono (fun S hS => ⟨_, hS⟩) h1) fun k S' hJ => ?_) fun e S' hK => ?_
    · rw [h2]; exact inn_round hesc tgt l0 k S' hJ
    · unfold innK at hK
      split at hK
      · split at hK
        · obtain ⟨⟨ws, rfl, rfl, h7⟩, ⟨rfl⟩⟩ := hK
          exact h3 _ _ _ _ _ _ ⟨ws, rfl, rfl, h7⟩
        · exact hK.elim
      · split at hK
        · obtain ⟨⟨ws, D, rfl, rfl, h7⟩, h8, ⟨rfl⟩⟩ := hK
          exact h4 _ _ _ _ ⟨ws, D, rfl, rfl, h7⟩ h8
        · exact hK.elim
      · split at hK
        · obtain ⟨⟨ws, rfl, rfl, h7⟩, ⟨rfl⟩⟩ := hK
          exact h5 _ _ ⟨ws, rfl, rfl, h7⟩
        · obtain ⟨h7, ⟨rfl⟩⟩ := hK
          exact h6 h7
        · exact hK.elim
      · exact hK.elim
  · exact h.elim

structure OutJ (tgt : Option (List ByteArray)) (l : ByteArray) (n n' : Nat) (f : Nat → List Value) (ap : Bool) (k : Nat) : Prop where
  at_ : OutAt tgt l n n' f ap
  le : l.size ≤ k
def outTm (l : ByteArray) (n : Nat) (ap : Bool) : List Value := [.string l, unk, unk, unk, .slice (some ⟨0, 2, some 0⟩) n 0, .bool ap] ++ List.replicate 85 unk
def outN (n : Nat) (f : Nat → List Value) : VSt := ⟨[unk, unk, unk, unk, .slice (some ⟨0, 2, some 0⟩) n 0] ++ List.replicate 86 unk, [.vec 9 1 n f]⟩
def outR (n : Nat) (f : Nat → List Value) : VSt := ⟨[unk, unk, .slice (some ⟨0, 2, some 0⟩) n 0, .int .i64 0] ++ List.replicate 87 unk, [.vec 9 1 n f]⟩
def outRN : VSt := ⟨[unk, unk, .slice none 0 0, .int .i64 200] ++ List.replicate 87 unk, []⟩
def outJ (tgt : Option (List ByteArray)) (k : Nat) (S : VSt) : Prop :=
  match nth undef S.tmps 0, nth undef S.tmps 4, nth undef S.tmps 5, S.V with
  | .string l, .slice (some ⟨0, 2, some 0⟩) n 0, .bool ap, [.vec 9 1 n' f] => leT (outTm l n ap) S.tmps ∧ OutJ tgt l n n' f ap k
  | _, _, _, _ => False
def outK (tgt : Option (List ByteArray)) (e : Exit) (S : VSt) : Prop :=
  match e with
  | .normal =>
    match nth undef S.tmps 4, S.V with
    | .slice (some ⟨0, 2, some 0⟩) n 0, [.vec 9 1 n' f] => RetOk tgt n n' f ∧ QSt S (outN n f)
    | _, _ => False
  | .ret =>
    match nth undef S.tmps 2, nth undef S.tmps 3, S.V with
    | .slice (some ⟨0, 2, some 0⟩) n 0, .int .i64 0, [.vec 9 1 n' f] => RetOk tgt n n' f ∧ QSt S (outR n f)
    | .slice none 0 0, .int .i64 200, [] => RetNo tgt ∧ QSt S outRN
    | _, _, _ => False
  | _ => False
def outKs (e : Exit) : List Nat := match e with | .normal => [0, 4, 5] | .ret => [2, 3] | _ => [4]
def outSel (e : Exit) (S : VSt) : List Sel :=
  match e with
  | .ret => (match nth undef S.tmps 2 with | .slice (some a) _ _ => [selV S.V a.block] | _ => [])
  | _ => [selS 9 1 S.V (nth undef S.tmps 4)]
def outNt : List (Nat × Nat) := [(4, 0)]

omit hesc in
theorem outJ_eq {tgt : Option (List ByteArray)} {k : Nat} {S : VSt} (h : outJ tgt k S) : ∃ (l : ByteArray) (ap : Bool) (ws : List ByteArray) (D : Int) (f : Nat → List Value),
    leT (outTm l ws.length ap) S.tmps ∧ S.V = [.vec 9 1 ws.length f] ∧ RowS f ws ∧ ws.length + l.size ≤ 2147483648 ∧ (ap = false → blankHead (bytesL l)) ∧
    tgt = finR (runL (bytesL l) ⟨if ap = true then 0 else 6, [], ws, D, false⟩) ∧ l.size ≤ k := by
  unfold outJ at h
  split at h
  · rename_i l n ap n' f h1 h2 h3 h4
    obtain ⟨h5, ⟨ws, D, rfl, rfl, h6, h7, h8, h9⟩, h10⟩ := h
    exact ⟨l, ap, ws, D, f, h5, h4, h6, h7, h8, h9, h10⟩
  · exact h.elim

omit hesc in
theorem out_sc (l : ByteArray) {ws : List ByteArray} {f : Nat → List Value} (ap : Bool) (hf : RowS f ws) : ScS ⟨outTm l ws.length ap, [.vec 9 1 ws.length f]⟩ := by
  refine .of rfl fun k o h => ?_
  match k, h with
  | 0, h => cases h; exact hf.sc

theorem out_round (tgt : Option (List ByteArray)) (k : Nat) (S : VSt) (hJ : outJ tgt k S) :
    Does Tryd.prog (roundOf Tryd.f7 0) S fun e S' => reshape 0 (outSel e S') (outKs e) outNt [] S' (roundR 0 (outJ tgt) k (outK tgt) e) := by
  obtain ⟨l, ap, ws, D, f, ht, hV, hf, hb, hap, htgt, hk⟩ := outJ_eq hJ
  refine Does.weaken (S' := ⟨outTm l ws.length ap, [.vec 9 1 ws.length f]⟩) ?_ ht hV.symm (out_sc l ap hf)
  refine of_code (ctxG_ok (l := []) (cs := [(13, plainT)]) (bs := [(2, innT tgt)]) .nil (.cons plain_ok .nil)) (n := 200) (.one rfl rfl (inn_loop hesc tgt)) ?_
  refine by_nf (B := bsplit (!l.data.toList == { data := #[] : ByteArray }.data.toList) (True ∧
    ((Value.string l = Value.string l ∧
    Value.slice (some { block := (0 : Nat), off := (2 : Nat), spot := some (0 : Nat) : Addr }) ws.length (0 : Nat) = Value.slice (some { block := (0 : Nat), off := { block := (0 : Nat), off := (2 : Nat), spot := some (0 : Nat) : Addr }.off, spot := some (0 : Nat) : Addr }) ws.length (0 : Nat) ∧
    Value.bool ap = Value.bool ap ∧
    Value.pointer (some { block := (1 : Nat), off := (0 : Nat) : Addr }) = Value.pointer (some { block := (1 : Nat), off := { block := (1 : Nat), off := (0 : Nat) : Addr }.off : Addr }) ∧
    True) ∧
    InnAt tgt l l l (0 : Nat) ws.length ws.length f ap l.size) ∧
    (2 : Nat) = (2 : Nat) ∧
    (∀ (l : ByteArray) (n : Nat) (f : Nat → List Value) (ap : Bool) (l' : ByteArray) (pos : Nat), InnStop tgt l n n f → PPre n n f ∧
    ∀ (m : Nat) (g : Nat → List Value), PRes n f l m g → RetOk tgt m m g ∧
    QSt { tmps := [unk, unk, Value.slice (some { block := (0 : Nat), off := { block := (2 : Nat), off := (2 : Nat), spot := some (0 : Nat) : Addr }.off, spot := some (0 : Nat) : Addr }) m (0 : Nat), Value.int IntKind.i64 (0 : Int), unk, unk, unk, unk, unk, unk, unk, unk, unk, unk, unk, unk, unk, unk, unk, unk, unk, unk, unk, unk, unk, unk, unk, unk, unk, unk, unk, unk, unk, unk, unk, unk, unk, unk, unk, unk, unk, unk, unk, unk, unk, unk, unk, unk, unk, unk, unk, unk, unk, unk, unk, unk, unk, unk, unk, unk, unk, unk, unk, unk, unk, unk, unk, unk, unk, unk, unk, unk, unk, unk, unk, unk, unk, unk, unk, unk, unk, unk, unk, unk, unk, unk, unk, unk, unk, unk, unk], V := [VObj.vec (9 : TypeId) (1 : Nat) m g] : VSt } { tmps := [unk, unk, Value.slice (some { block := (0 : Nat), off := (2 : Nat), spot := some (0 : Nat) : Addr }) m (0 : Nat), Value.int IntKind.i64 (0 : Int), unk, unk, unk, unk, unk, unk, unk, unk, unk, unk, unk, unk, unk, unk, unk, unk, unk, unk, unk, unk, unk, unk, unk, unk, unk, unk, unk, unk, unk, unk, unk, unk, unk, unk, unk, unk, unk, unk, unk, unk, unk, unk, unk, unk, unk, unk, unk, unk, unk, unk, unk, unk, unk, unk, unk, unk, unk, unk, unk, unk, unk, unk, unk, unk, unk, unk, unk, unk, unk, unk, unk, unk, unk, unk, unk, unk, unk, unk, unk, unk, unk, unk, unk, unk, unk, unk, unk], V := [VObj.vec (9 : TypeId) (1 : Nat) m g] : VSt }) ∧
    (∀ (l_1 : ByteArray) (n : Nat) (f : Nat → List Value) (ap : Bool), OutAt tgt l_1 n n f ap → LtSz l_1 l → (k = (0 : Nat) → False) ∧
    (Value.string l_1 = Value.string l_1 ∧
    Value.slice (some { block := (0 : Nat), off := (2 : Nat), spot := some (0 : Nat) : Addr }) n (0 : Nat) = Value.slice (some { block := (0 : Nat), off := { block := (2 : Nat), off := (2 : Nat), spot := some (0 : Nat) : Addr }.off, spot := some (0 : Nat) : Addr }) n (0 : Nat) ∧
    Value.bool ap = Value.bool ap ∧
    True) ∧
    OutJ tgt l_1 n n f ap (k - (1 : Nat))) ∧
    (∀ (n : Nat) (f : Nat → List Value), RetOk tgt n n f → RetOk tgt n n f ∧
    QSt { tmps := [unk, unk, Value.slice (some { block := (0 : Nat), off := { block := (0 : Nat), off := (2 : Nat), spot := some (0 : Nat) : Addr }.off, spot := some (0 : Nat) : Addr }) n (0 : Nat), Value.int IntKind.i64 (0 : Int), unk, unk, unk, unk, unk, unk, unk, unk, unk, unk, unk, unk, unk, unk, unk, unk, unk, unk, unk, unk, unk, unk, unk, unk, unk, unk, unk, unk, unk, unk, unk, unk, unk, unk, unk, unk, unk, unk, unk, unk, unk, unk, unk, unk, unk, unk, unk, unk, unk, unk, unk, unk, unk, unk, unk, unk, unk, unk, unk, unk, unk, unk, unk, unk, unk, unk, unk, unk, unk, unk, unk, unk, unk, unk, unk, unk, unk, unk, unk, unk, unk, unk, unk, unk, unk, unk, unk], V := [VObj.vec (9 : TypeId) (1 : Nat) n f] : VSt } { tmps := [unk, unk, Value.slice (some { block := (0 : Nat), off := (2 : Nat), spot := some (0 : Nat) : Addr }) n (0 : Nat), Value.int IntKind.i64 (0 : Int), unk, unk, unk, unk, unk, unk, unk, unk, unk, unk, unk, unk, unk, unk, unk, unk, unk, unk, unk, unk, unk, unk, unk, unk, unk, unk, unk, unk, unk, unk, unk, unk, unk, unk, unk, unk, unk, unk, unk, unk, unk, unk, unk, unk, unk, unk, unk, unk, unk, unk, unk, unk, unk, unk, unk, unk, unk, unk, unk, unk, unk, unk, unk, unk, unk, unk, unk, unk, unk, unk, unk, unk, unk, unk, unk, unk, unk, unk, unk, unk, unk, unk, unk, unk, unk, unk, unk], V := [VObj.vec (9 : TypeId) (1 : Nat) n f] : VSt }) ∧
    (RetNo tgt → RetNo tgt ∧
    QSt { tmps := [unk, unk, Value.slice none (0 : Nat) (0 : Nat), Value.int IntKind.i64 (200 : Int), unk, unk, unk, unk, unk, unk, unk, unk, unk, unk, unk, unk, unk, unk, unk, unk, unk, unk, unk, unk, unk, unk, unk, unk, unk, unk, unk, unk, unk, unk, unk, unk, unk, unk, unk, unk, unk, unk, unk, unk, unk, unk, unk, unk, unk, unk, unk, unk, unk, unk, unk, unk, unk, unk, unk, unk, unk, unk, unk, unk, unk, unk, unk, unk, unk, unk, unk, unk, unk, unk, unk, unk, unk, unk, unk, unk, unk, unk, unk, unk, unk, unk, unk, unk, unk, unk, unk], V := [] : VSt } { tmps := [unk, unk, Value.slice none (0 : Nat) (0 : Nat), Value.int IntKind.i64 (200 : Int), unk, unk, unk, unk, unk, unk, unk, unk, unk, unk, unk, unk, unk, unk, unk, unk, unk, unk, unk, unk, unk, unk, unk, unk, unk, unk, unk, unk, unk, unk, unk, unk, unk, unk, unk, unk, unk, unk, unk, unk, unk, unk, unk, unk, unk, unk, unk, unk, unk, unk, unk, unk, unk, unk, unk, unk, unk, unk, unk, unk, unk, unk, unk, unk, unk, unk, unk, unk, unk, unk, unk, unk, unk, unk, unk, unk, unk, unk, unk, unk, unk, unk, unk, unk, unk, unk, unk], V := [] : VSt })) (RetOk tgt ws.length ws.length f ∧
    QSt { tmps := [unk, unk, unk, unk, Value.slice (some { block := (0 : Nat), off := { block := (0 : Nat), off := (2 : Nat), spot := some (0 : Nat) : Addr }.off, spot := some (0 : Nat) : Addr }) ws.length (0 : Nat), unk, unk, unk, unk, unk, unk, unk, unk, unk, unk, unk, unk, unk, unk, unk, unk, unk, unk, unk, unk, unk, unk, unk, unk, unk, unk, unk, unk, unk, unk, unk, unk, unk, unk, unk, unk, unk, unk, unk, unk, unk, unk, unk, unk, unk, unk, unk, unk, unk, unk, unk, unk, unk, unk, unk, unk, unk, unk, unk, unk, unk, unk, unk, unk, unk, unk, unk, unk, unk, unk, unk, unk, unk, unk, unk, unk, unk, unk, unk, unk, unk, unk, unk, unk, unk, unk], V := [VObj.vec (9 : TypeId) (1 : Nat) ws.length f] : VSt } { tmps := [unk, unk, unk, unk, Value.slice (some { block := (0 : Nat), off := (2 : Nat), spot := some (0 : Nat) : Addr }) ws.length (0 : Nat), unk, unk, unk, unk, unk, unk, unk, unk, unk, unk, unk, unk, unk, unk, unk, unk, unk, unk, unk, unk, unk, unk, unk, unk, unk, unk, unk, unk, unk, unk, unk, unk, unk, unk, unk, unk, unk, unk, unk, unk, unk, unk, unk, unk, unk, unk, unk, unk, unk, unk, unk, unk, unk, unk, unk, unk, unk, unk, unk, unk, unk, unk, unk, unk, unk, unk, unk, unk, unk, unk, unk, unk, unk, unk, unk, unk, unk, unk, unk, unk, unk, unk, unk, unk, unk, unk], V := [VObj.vec (9 : TypeId) (1 : Nat) ws.length f] : VSt })) (by kernel_rfl) ?_
  have hne : l.data.toList = bytesL l := rfl
  refine bsplit_iff.2 ⟨fun he => ?_, fun he => ?_⟩
  · have he : ¬ bytesL l = [] := by simpa [bytesL] using he
    have hpos : 0 < l.size := List.length_pos_iff.2 he
    refine ⟨trivial, ⟨⟨rfl, rfl, rfl, rfl, trivial⟩, rfl, rfl, ws, D, rfl, rfl, hf, hb, by omega, by omega, hpos, fun h => ⟨hap h, rfl⟩, ?_⟩, rfl, fun l n f ap l' pos h => ?_, fun l1 n g ap' h1 h2 => ⟨?_, ⟨rfl, rfl, rfl, trivial⟩, ⟨h1, ?_⟩⟩, fun n g h => ⟨h, ⟨rfl⟩⟩, fun h => ⟨h, ⟨rfl⟩⟩⟩
    · rw [htgt]; simp [innSt]
    · obtain ⟨ws1, rfl, _, h1, h2, h3⟩ := h
      refine ⟨⟨ws1, rfl, rfl, h1, h2⟩, fun m g hp => ⟨?_, ⟨rfl⟩⟩⟩
      obtain ⟨ws2, h4, h5, h6, h7⟩ := hp
      have := RowS.uniq h1 h5 h4
      subst this
      exact ⟨_, h6, h6, h7, h3⟩
    · have := h2.lt; omega
    · have := h2.lt; omega
  · have he : bytesL l = [] := by simpa [bytesL] using he
    refine ⟨⟨ws, rfl, rfl, hf, ?_⟩, ⟨rfl⟩⟩
    rw [htgt, he]
    cases ap <;> simp [runL, finR]

def outT (tgt : Option (List ByteArray)) (s : ByteArray) : BlkS := fun S K =>
  reshape S.V.length (outSel .normal S) [0, 4, 5] outNt [] S (outJ tgt s.size) ∧ S.V.length = 0 ∧ (∀ n f, RetOk tgt n n f → K .normal (outN n f)) ∧ (∀ n f, RetOk tgt n n f → K .ret (outR n f)) ∧ (RetNo tgt → K .ret outRN)

theorem out_loop (tgt : Option (List ByteArray)) (s : ByteArray) (S : VSt) (K : Exit → VSt → Prop) (h : outT tgt s S K) : Does Tryd.prog (.block 0 (.loop (roundOf Tryd.f7 0))) S K := by
  obtain ⟨h1, h2, h3, h4, h5⟩ := h
  refine Does.mono (Does.loopR (K := outK tgt) outKs outSel outNt [] (outJ tgt) S (reshape_mono (fun S hS => ⟨_, hS⟩) h1) fun k S' hJ => ?_) fun e S' hK => ?_
  · rw [h2]; exact out_round hesc tgt k S' hJ
  · unfold outK at hK
    split at hK
    · split at hK
      · obtain ⟨⟨ws, rfl, rfl, h7⟩, ⟨rfl⟩⟩ := hK
        exact h3 _ _ ⟨ws, rfl, rfl, h7⟩
      · exact hK.elim
    · split at hK
      · obtain ⟨⟨ws, rfl, rfl, h7⟩, ⟨rfl⟩⟩ := hK
        exact h4 _ _ ⟨ws, rfl, rfl, h7⟩
      · obtain ⟨h7, ⟨rfl⟩⟩ := hK
        exact h5 h7
      · exact hK.elim
    · exact hK.elim

theorem words_ok : CallOK Tryd.prog 7 (wordsT refOut) := by
  refine wordsOK (callable Tryd.func7 rfl (by decide +kernel)) fun s hs => ?_
  refine of_run (ctxG_ok (l := []) (cs := []) (bs := [(0, outT (refOut s) s)]) .nil .nil) (n := 200) Tryd.func7 rfl (.one rfl rfl (out_loop hesc (refOut s) s)) ?_
  refine by_nf (B := ((Value.string s = Value.string s ∧
    Value.slice (some { block := (0 : Nat), off := (2 : Nat), spot := some (0 : Nat) : Addr }) (0 : Nat) (0 : Nat) = Value.slice (some { block := (0 : Nat), off := (2 : Nat), spot := some (0 : Nat) : Addr }) (0 : Nat) (0 : Nat) ∧
    Value.bool true = Value.bool true ∧
    True) ∧
    OutJ (refOut s) s (0 : Nat) (0 : Nat) (fun x => []) true s.size) ∧
    (0 : Nat) = (0 : Nat) ∧
    (∀ (n : Nat) (f : Nat → List Value), RetOk (refOut s) n n f → WOk refOut s n n f) ∧
    (∀ (n : Nat) (f : Nat → List Value), RetOk (refOut s) n n f → WOk refOut s n n f) ∧
    (RetNo (refOut s) → WErr refOut s)) (by kernel_rfl) ?_
  have ok : ∀ (n : Nat) (f : Nat → List Value), RetOk (refOut s) n n f → WOk refOut s n n f := fun n f ⟨ws, h1, _, h2, h3⟩ => ⟨ws, h3, ⟨h1, h2⟩, rfl⟩
  exact ⟨⟨⟨rfl, rfl, rfl, trivial⟩, ⟨⟨[], 0, rfl, rfl, .nil _, by simpa using hs, (fun h => (by cases h)), rfl⟩, Nat.le_refl _⟩⟩, rfl, ok, ok, fun h => ⟨h.no⟩⟩
end Go.Sh
