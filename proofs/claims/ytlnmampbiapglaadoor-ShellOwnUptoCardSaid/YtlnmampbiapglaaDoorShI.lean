/- The shell's own reader: a quoted word. -/
import Derived.Test.YtlnmampbiapglaaDoorShR2
set_option linter.unusedSimpArgs false
set_option linter.unusedSectionVars false
set_option linter.unusedVariables false
namespace Go.Sh
open Go Go.X Go.Proofs
variable [WI]

def isHex (c : UInt8) : Bool := decide (0 ≤ hexI c.toNat)
/-- what stands behind a backslash: its byte, and how many bytes it takes -/
def escF : List UInt8 → UInt8 × Nat
  | [] => (0, 0)
  | c :: r =>
    if c = 34 then (34, 1) else if c = 92 then (92, 1) else if c = 110 then (10, 1) else if c = 116 then (9, 1)
    else if c = 120 then (match r with
      | h :: l :: _ => if isHex h = true ∧ isHex l = true then (byteI (16 * hexI h.toNat + hexI l.toNat), 3) else (0, 0)
      | _ => (0, 0))
    else (0, 0)

def escV (s : ByteArray) : Value := .tuple ⟨[.int .u8 ((escF (bytesL s)).1.toNat : Int), .int .i64 (((escF (bytesL s)).2 : Nat) : Int)]⟩

/-- a quoted word behind its quote, and what is left -/
def quotF : Nat → List UInt8 → List UInt8 → Option (List UInt8 × List UInt8)
  | 0, _, _ => none
  | _ + 1, [], _ => none
  | n + 1, c :: r, acc =>
    if c = 34 then some (acc, r)
    else if c = 92 then (if (escF r).2 = 0 then none else quotF n (r.drop (escF r).2) (acc ++ [(escF r).1]))
    else quotF n r (acc ++ [c])

def quotO (s : ByteArray) : Option (List UInt8 × List UInt8) := quotF s.size (bytesL s) []
def qW (s : ByteArray) : ByteArray := match quotO s with | some (w, _) => ⟨w.toArray⟩ | none => ⟨#[]⟩
def qL (s : ByteArray) : ByteArray := match quotO s with | some (_, l) => ⟨l.toArray⟩ | none => ⟨#[]⟩
def qB (s : ByteArray) : Bool := (quotO s).isSome
def qV (s : ByteArray) : Value := .tuple ⟨[.string (qW s), .string (qL s), .bool (qB s)]⟩

structure QInv (s : ByteArray) (k : Nat) (n n' : Nat) (f : Nat → List Value) (i : Int) : Prop where
  ex : ∃ (j : Nat) (acc : List UInt8), i = j ∧ n = acc.length ∧ n' = acc.length ∧ RowB f acc ∧ acc.length ≤ j ∧ j ≤ s.size ∧ s.size ≤ j + k ∧ quotO s = quotF k ((bytesL s).drop j) acc
structure QRes (s w l : ByteArray) (b : Bool) : Prop where
  hw : w = qW s
  hl : l = qL s
  hb : b = qB s
def quoTm (s : ByteArray) (n : Nat) (i : Int) : List Value := [.string s, unk, unk, unk, unk, .slice (some ⟨0, 2, some 0⟩) n 0, .int .i64 i] ++ List.replicate 44 unk
def quoJ (s : ByteArray) (k : Nat) (S : VSt) : Prop :=
  match nth undef S.tmps 5, nth undef S.tmps 6, S.V with
  | .slice (some ⟨0, 2, some 0⟩) n 0, .int .i64 i, [.vec 5 1 n' f] => leT (quoTm s n i) S.tmps ∧ QInv s k n n' f i
  | _, _, _ => False
structure QNo (s : ByteArray) : Prop where
  no : quotO s = none
structure QSt (S S' : VSt) : Prop where
  eq : S = S'
def quoE : VSt := ⟨List.replicate 51 unk, []⟩
def quoR (w l : ByteArray) (b : Bool) : VSt := ⟨[unk, unk, .string w, .string l, .bool b] ++ List.replicate 46 unk, []⟩
def quoK (s : ByteArray) (e : Exit) (S : VSt) : Prop :=
  match e with
  | .normal => QNo s ∧ QSt S quoE
  | .ret =>
    match nth undef S.tmps 2, nth undef S.tmps 3, nth undef S.tmps 4 with
    | .string w, .string l, .bool b => QRes s w l b ∧ QSt S (quoR w l b)
    | _, _, _ => False
  | _ => False
def quoKs (e : Exit) : List Nat := match e with | .normal => [0, 5, 6] | .ret => [2, 3, 4] | _ => []
def quoSel (e : Exit) (S : VSt) : List Sel := match e with | .normal => [selS 5 1 S.V (nth undef S.tmps 5)] | _ => []
def quoNt : List (Nat × Nat) := [(5, 0)]

theorem quoJ_eq {s : ByteArray} {k : Nat} {S : VSt} (h : quoJ s k S) : ∃ (j : Nat) (acc : List UInt8) (f : Nat → List Value), leT (quoTm s acc.length j) S.tmps ∧ S.V = [.vec 5 1 acc.length f] ∧ RowB f acc ∧
    acc.length ≤ j ∧ j ≤ s.size ∧ s.size ≤ j + k ∧ quotO s = quotF k ((bytesL s).drop j) acc := by
  unfold quoJ at h
  split at h
  · rename_i n i n' f h1 h2 h3
    obtain ⟨h4, ⟨j, acc, rfl, rfl, rfl, hf, h5, h6, h7, h8⟩⟩ := h
    exact ⟨j, acc, f, h4, h3, hf, h5, h6, h7, h8⟩
  · exact h.elim

theorem quo_sc (s : ByteArray) {acc : List UInt8} {f : Nat → List Value} (i : Int) (hf : RowB f acc) : ScS ⟨quoTm s acc.length i, [.vec 5 1 acc.length f]⟩ := by
  refine .of rfl fun k o h => ?_
  match k, h with
  | 0, h => cases h; exact hf.sc

theorem ext_bytes (s : ByteArray) (a : Nat) : bytesL (s.extract a s.size) = (bytesL s).drop a := by
  unfold bytesL
  rw [Lib.extract_data]
  apply List.take_of_length_le
  rw [List.length_drop, Lib.size_eq]
  exact Nat.le_refl _
theorem ext_eq (s : ByteArray) (a : Nat) : s.extract a s.size = ⟨((bytesL s).drop a).toArray⟩ := by
  rw [← ext_bytes s a]
  rfl
theorem escF_le (l : List UInt8) : (escF l).2 ≤ l.length := by
  unfold escF
  (repeat' split) <;> simp

variable (hesc : FnOK Tryd.prog 20 (g1 dStr escV))
include hesc
theorem quo_round (s : ByteArray) (hl : s.size ≤ 2147483648) (k : Nat) (S : VSt) (hJ : quoJ s k S) :
    Does Tryd.prog (roundOf Tryd.f14 0) S fun e S' => reshape 0 (quoSel e S') (quoKs e) quoNt [] S' (roundR 0 (quoJ s) k (quoK s) e) := by
  obtain ⟨j, acc, f, ht, hV, hf, hacc, hj, hk, hq⟩ := quoJ_eq hJ
  refine Does.weaken (S' := ⟨quoTm s acc.length j, [.vec 5 1 acc.length f]⟩) ?_ ht hV.symm (quo_sc s j hf)
  refine of_code (ctxG_ok (cs := []) (bs := []) (.cons hesc .nil) .nil) (n := 200) .g ?_
  refine by_nf (B := bsplit (decide ((↑j : Int) < (↑s.size : Int))) (((0 : Int) ≤ (↑j : Int) ∧
    (↑j : Int) + (1 : Int) ≤ (↑s.size : Int)) ∧
    bsplit ((↑(strAt s (↑j : Int).toNat) : Int) == (34 : Int)) ((acc.length = acc.length ∧
    areBytes f (0 : Nat) acc.length) ∧
    ((0 : Int) ≤ IntKind.i64.wrap ((↑j : Int) + (1 : Int)) ∧
    IntKind.i64.wrap ((↑j : Int) + (1 : Int)) ≤ (↑s.size : Int) ∧
    (↑s.size : Int) ≤ (↑s.size : Int)) ∧
    QRes s (strOf f (0 : Nat) acc.length) (s.extract (IntKind.i64.wrap ((↑j : Int) + (1 : Int))).toNat (↑s.size : Int).toNat) true ∧
    QSt { tmps := [unk, unk, Value.string (strOf f (0 : Nat) acc.length), Value.string (s.extract (IntKind.i64.wrap ((↑j : Int) + (1 : Int))).toNat (↑s.size : Int).toNat), Value.bool true, unk, unk, unk, unk, unk, unk, unk, unk, unk, unk, unk, unk, unk, unk, unk, unk, unk, unk, unk, unk, unk, unk, unk, unk, unk, unk, unk, unk, unk, unk, unk, unk, unk, unk, unk, unk, unk, unk, unk, unk, unk, unk, unk, unk, unk, unk], V := [] : VSt } { tmps := [unk, unk, Value.string (strOf f (0 : Nat) acc.length), Value.string (s.extract (IntKind.i64.wrap ((↑j : Int) + (1 : Int))).toNat (↑s.size : Int).toNat), Value.bool true, unk, unk, unk, unk, unk, unk, unk, unk, unk, unk, unk, unk, unk, unk, unk, unk, unk, unk, unk, unk, unk, unk, unk, unk, unk, unk, unk, unk, unk, unk, unk, unk, unk, unk, unk, unk, unk, unk, unk, unk, unk, unk, unk, unk, unk, unk], V := [] : VSt })
    (bsplit ((↑(strAt s (↑j : Int).toNat) : Int) == (92 : Int)) (((0 : Int) ≤ IntKind.i64.wrap ((↑j : Int) + (1 : Int)) ∧
    IntKind.i64.wrap ((↑j : Int) + (1 : Int)) ≤ (↑s.size : Int) ∧
    (↑s.size : Int) ≤ (↑s.size : Int)) ∧
    bsplit ((↑(escF (bytesL (s.extract (IntKind.i64.wrap ((↑j : Int) + (1 : Int))).toNat (↑s.size : Int).toNat))).snd : Int) == (0 : Int)) (QRes s { data := #[] : ByteArray } { data := #[] : ByteArray } false ∧
    QSt { tmps := [unk, unk, Value.string { data := #[] : ByteArray }, Value.string { data := #[] : ByteArray }, Value.bool false, unk, unk, unk, unk, unk, unk, unk, unk, unk, unk, unk, unk, unk, unk, unk, unk, unk, unk, unk, unk, unk, unk, unk, unk, unk, unk, unk, unk, unk, unk, unk, unk, unk, unk, unk, unk, unk, unk, unk, unk, unk, unk, unk, unk, unk, unk], V := [] : VSt } { tmps := [unk, unk, Value.string { data := #[] : ByteArray }, Value.string { data := #[] : ByteArray }, Value.bool false, unk, unk, unk, unk, unk, unk, unk, unk, unk, unk, unk, unk, unk, unk, unk, unk, unk, unk, unk, unk, unk, unk, unk, unk, unk, unk, unk, unk, unk, unk, unk, unk, unk, unk, unk, unk, unk, unk, unk, unk, unk, unk, unk, unk, unk, unk], V := [] : VSt }) (((1 : Nat) ≤ (1 : Nat) ∧
    acc.length = acc.length ∧
    Nat.succ (0 : Nat) ≤ (1 : Nat) ∧
    fitsN (acc.length + (1 : Nat)) (1 : Nat)) ∧
    Nat.succ (0 : Nat) ≤ acc.length + (1 : Nat) ∧
    (k = (0 : Nat) → False) ∧
    (Value.string s = Value.string s ∧
    Value.slice (some { block := (0 : Nat), off := (2 : Nat), spot := some (0 : Nat) : Addr }) (acc.length + (1 : Nat)) (0 : Nat) = Value.slice (some { block := (0 : Nat), off := (2 : Nat), spot := some (0 : Nat) : Addr }) (acc.length + (1 : Nat)) (0 : Nat) ∧
    Value.int IntKind.i64 (IntKind.i64.wrap (IntKind.i64.wrap ((↑j : Int) + (↑(escF (bytesL (s.extract (IntKind.i64.wrap ((↑j : Int) + (1 : Int))).toNat (↑s.size : Int).toNat))).snd : Int)) + (1 : Int))) = Value.int IntKind.i64 (IntKind.i64.wrap (IntKind.i64.wrap ((↑j : Int) + (↑(escF (bytesL (s.extract (IntKind.i64.wrap ((↑j : Int) + (1 : Int))).toNat (↑s.size : Int).toNat))).snd : Int)) + (1 : Int))) ∧
    True) ∧
    QInv s (k - (1 : Nat)) (acc.length + (1 : Nat)) (acc.length + (1 : Nat)) (joinF acc.length f fun j_1 => nth [] [[Value.int IntKind.u8 (↑(escF (bytesL (s.extract (IntKind.i64.wrap ((↑j : Int) + (1 : Int))).toNat (↑s.size : Int).toNat))).fst.toNat : Int)]] ((0 : Nat) + j_1)) (IntKind.i64.wrap (IntKind.i64.wrap ((↑j : Int) + (↑(escF (bytesL (s.extract (IntKind.i64.wrap ((↑j : Int) + (1 : Int))).toNat (↑s.size : Int).toNat))).snd : Int)) + (1 : Int))))) (((0 : Int) ≤ (↑j : Int) ∧
    (↑j : Int) + (1 : Int) ≤ (↑s.size : Int)) ∧
    ((1 : Nat) ≤ (1 : Nat) ∧
    acc.length = acc.length ∧
    Nat.succ (0 : Nat) ≤ (1 : Nat) ∧
    fitsN (acc.length + (1 : Nat)) (1 : Nat)) ∧
    Nat.succ (0 : Nat) ≤ acc.length + (1 : Nat) ∧
    (k = (0 : Nat) → False) ∧
    (Value.string s = Value.string s ∧
    Value.slice (some { block := (0 : Nat), off := (2 : Nat), spot := some (0 : Nat) : Addr }) (acc.length + (1 : Nat)) (0 : Nat) = Value.slice (some { block := (0 : Nat), off := (2 : Nat), spot := some (0 : Nat) : Addr }) (acc.length + (1 : Nat)) (0 : Nat) ∧
    Value.int IntKind.i64 (IntKind.i64.wrap ((↑j : Int) + (1 : Int))) = Value.int IntKind.i64 (IntKind.i64.wrap ((↑j : Int) + (1 : Int))) ∧
    True) ∧
    QInv s (k - (1 : Nat)) (acc.length + (1 : Nat)) (acc.length + (1 : Nat)) (joinF acc.length f fun j_1 => nth [] [[Value.int IntKind.u8 (↑(strAt s (↑j : Int).toNat) : Int)]] ((0 : Nat) + j_1)) (IntKind.i64.wrap ((↑j : Int) + (1 : Int)))))) (QNo s ∧
    QSt { tmps := [unk, unk, unk, unk, unk, unk, unk, unk, unk, unk, unk, unk, unk, unk, unk, unk, unk, unk, unk, unk, unk, unk, unk, unk, unk, unk, unk, unk, unk, unk, unk, unk, unk, unk, unk, unk, unk, unk, unk, unk, unk, unk, unk, unk, unk, unk, unk, unk, unk, unk, unk], V := [] : VSt } { tmps := [unk, unk, unk, unk, unk, unk, unk, unk, unk, unk, unk, unk, unk, unk, unk, unk, unk, unk, unk, unk, unk, unk, unk, unk, unk, unk, unk, unk, unk, unk, unk, unk, unk, unk, unk, unk, unk, unk, unk, unk, unk, unk, unk, unk, unk, unk, unk, unk, unk, unk, unk], V := [] : VSt })) (by kernel_rfl) ?_
  simp only [Int.toNat_natCast, ext_bytes, Nat.le_refl, true_and, Int.le_refl, and_true]
  refine bsplit_iff.2 ⟨fun hlt => ?_, fun hge => ?_⟩
  · have hlt : j < s.size := by simpa using hlt
    have hlen : j < (bytesL s).length := hlt
    have hw : IntKind.i64.wrap ((j : Int) + 1) = ((j + 1 : Nat) : Int) := by rw [w64 _ (by omega)]; rfl
    have hfit : fitsN (acc.length + 1) 1 := ⟨by omega, by omega⟩
    rw [hw, Int.toNat_natCast, strAt_get s j hlen, e34, e92]
    obtain ⟨k, rfl⟩ : ∃ k', k = k' + 1 := ⟨k - 1, by omega⟩
    have hd : (bytesL s).drop j = (bytesL s)[j] :: (bytesL s).drop (j + 1) := List.drop_eq_getElem_cons hlen
    generalize hc : (bytesL s)[j] = c at *
    rw [hd] at hq
    refine ⟨⟨by omega, by omega⟩, bsplit_iff.2 ⟨fun h34 => ?_, fun h34 => bsplit_iff.2 ⟨fun h92 => ?_, fun h92 => ?_⟩⟩⟩
    · have h34 : c = 34 := by simpa using h34
      subst h34
      have hq : quotO s = some (acc, (bytesL s).drop (j + 1)) := by rw [hq]; simp [quotF]
      refine ⟨hf.bytes, ⟨by omega, by omega⟩, ⟨?_, ?_, ?_⟩, ⟨rfl⟩⟩
      · rw [hf.str, qW, hq]
      · rw [ext_eq, qL, hq]
      · rw [qB, hq]; rfl
    · have h92 : c = 92 := by simpa using h92
      subst h92
      refine ⟨⟨by omega, by omega⟩, bsplit_iff.2 ⟨fun h0 => ?_, fun h0 => ?_⟩⟩
      · have h0 : (escF ((bytesL s).drop (j + 1))).2 = 0 := by simpa using h0
        have hq : quotO s = none := by rw [hq]; simp [quotF, h0]
        exact ⟨⟨by rw [qW, hq], by rw [qL, hq], by rw [qB, hq]; rfl⟩, ⟨rfl⟩⟩
      · have h0 : ¬ (escF ((bytesL s).drop (j + 1))).2 = 0 := by simpa using h0
        have hle := escF_le ((bytesL s).drop (j + 1))
        have hbs : (bytesL s).length = s.size := rfl
        rw [List.length_drop] at hle
        generalize hE : escF ((bytesL s).drop (j + 1)) = E at *
        have hw2 : IntKind.i64.wrap (IntKind.i64.wrap ((j : Int) + (E.2 : Int)) + 1) = ((j + E.2 + 1 : Nat) : Int) := by
          rw [w64 ((j : Int) + (E.2 : Int)) (by omega), w64 _ (by omega)]; omega
        rw [hw2]
        refine ⟨hfit, by omega, by omega, ⟨j + E.2 + 1, acc ++ [E.1], rfl, by simp, by simp, hf.app rfl, by simp; omega, by omega, by omega, ?_⟩⟩
        rw [hq]
        simp only [quotF, hE, h0, if_false]
        rw [if_neg (by decide), if_pos trivial, List.drop_drop, Nat.add_sub_cancel, show j + 1 + E.2 = j + E.2 + 1 by omega]
    · have h34 : ¬ c = 34 := by simpa using h34
      have h92 : ¬ c = 92 := by simpa using h92
      refine ⟨⟨by omega, by omega⟩, hfit, by omega, by omega, ⟨j + 1, acc ++ [c], rfl, by simp, by simp, hf.app rfl, by simp; omega, by omega, by omega, ?_⟩⟩
      rw [hq]
      simp only [quotF, h34, h92, if_false]
      rfl
  · have hge : ¬ j < s.size := by simpa using hge
    refine ⟨⟨?_⟩, ⟨rfl⟩⟩
    rw [hq, List.drop_eq_nil_of_le (by show s.size ≤ j; omega)]
    cases k <;> rfl

def quoT (s : ByteArray) : BlkS := fun S K =>
  reshape S.V.length (quoSel .normal S) [0, 5, 6] quoNt [] S (quoJ s s.size) ∧ S.V.length = 0 ∧ (QNo s → K .normal quoE) ∧ ∀ w l b, QRes s w l b → K .ret (quoR w l b)

theorem quo_loop (s : ByteArray) (hl : s.size ≤ 2147483648) (S : VSt) (K : Exit → VSt → Prop) (h : quoT s S K) : Does Tryd.prog (.block 0 (.loop (roundOf Tryd.f14 0))) S K := by
  obtain ⟨h1, h2, h3, h4⟩ := h
  refine Does.mono (Does.loopR (K := quoK s) quoKs quoSel quoNt [] (quoJ s) S (reshape_mono (fun S hS => ⟨_, hS⟩) h1) fun k S' hJ => ?_) fun e S' hK => ?_
  · rw [h2]; exact quo_round hesc s hl k S' hJ
  · cases e with
    | normal =>
      obtain ⟨h5, ⟨rfl⟩⟩ := hK
      exact h3 h5
    | ret =>
      simp only [quoK] at hK
      split at hK
      · obtain ⟨h5, ⟨rfl⟩⟩ := hK
        exact h4 _ _ _ h5
      · exact hK.elim
    | _ => exact hK.elim

theorem quoted_ok : FnOK Tryd.prog 14 (g1p dStr (fun s => s.size ≤ 2147483648) qV) := by
  refine FnOK.g1p (callable Tryd.func14 rfl (by decide +kernel)) _ _ _ (fun _ => rfl) fun s hs => ?_
  refine of_run (ctxG_ok (l := []) (cs := []) (bs := [(0, quoT s)]) .nil .nil) (n := 200) Tryd.func14 rfl (.one rfl rfl (quo_loop hesc s hs)) ?_
  refine by_nf (B := ((Value.string s = Value.string s ∧
    Value.slice (some { block := (0 : Nat), off := (2 : Nat), spot := some (0 : Nat) : Addr }) (0 : Nat) (0 : Nat) = Value.slice (some { block := (0 : Nat), off := (2 : Nat), spot := some (0 : Nat) : Addr }) (0 : Nat) (0 : Nat) ∧
    Value.int IntKind.i64 (0 : Int) = Value.int IntKind.i64 (0 : Int) ∧
    True) ∧
    QInv s s.size (0 : Nat) (0 : Nat) (fun x => []) (0 : Int)) ∧
    (0 : Nat) = (0 : Nat) ∧
    (QNo s → Value.tuple { toList := [Value.string { data := #[] : ByteArray }, Value.string { data := #[] : ByteArray }, Value.bool false] : Array Value } = Value.tuple { toList := [Value.string (qW s), Value.string (qL s), Value.bool (qB s)] : Array Value }) ∧
    ∀ (w l : ByteArray) (b : Bool), QRes s w l b → Value.tuple { toList := [Value.string w, Value.string l, Value.bool b] : Array Value } = Value.tuple { toList := [Value.string (qW s), Value.string (qL s), Value.bool (qB s)] : Array Value }) (by kernel_rfl) ?_
  refine ⟨⟨⟨rfl, rfl, rfl, trivial⟩, ⟨0, [], rfl, rfl, rfl, .nil _, by simp, by simp, by simp, by rw [List.drop_zero]; rfl⟩⟩, rfl, fun h => ?_, fun w l b h => ?_⟩
  · rw [qW, qL, qB, h.no]; rfl
  · rw [h.hw, h.hl, h.hb]
end Go.Sh
