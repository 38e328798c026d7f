/- ShellQuotes: the law's function answers true. -/
import Derived.Test.YtlnmampbiapglaaDoorShQ6
set_option linter.unusedSimpArgs false
set_option linter.unusedSectionVars false
set_option linter.unusedVariables false
set_option maxRecDepth 10000
namespace Go.Sh
open Go Go.X Go.Proofs
variable [WI]

def flBBS (n0 c0 : Nat) (f0 : Nat → List Value) (l : List UInt8) : BlkS := fun S K =>
  match nth undef S.tmps 0, (S.V[1]? : Option VObj) with
  | .slice (some ⟨0, 0, some r⟩) n cap, some (.rows true 5 1 N _ _) => N = l.length + 70 ∧ flBS r n cap n0 c0 f0 l N S K
  | _, _ => False
def flBBN (n0 c0 : Nat) (f0 : Nat → List Value) (l : List UInt8) : BlkS := fun S K =>
  match (S.V[1]? : Option VObj) with
  | some (.rows true 5 1 N _ _) => N = l.length + 70 ∧ flBN n0 c0 f0 l N S K
  | _ => False
def ckBBS (n0 c0 : Nat) (f0 : Nat → List Value) (l : List UInt8) : BlkS := fun S K =>
  match nth undef S.tmps 0, (S.V[1]? : Option VObj) with
  | .slice (some ⟨0, 0, some r⟩) n cap, some (.rows true 5 1 N _ _) => N = l.length + 70 ∧ ckBS r n cap n0 c0 f0 l.length N S K
  | _, _ => False
def ckBBN (n0 c0 : Nat) (f0 : Nat → List Value) (l : List UInt8) : BlkS := fun S K =>
  match (S.V[1]? : Option VObj) with
  | some (.rows true 5 1 N _ _) => N = l.length + 70 ∧ ckBN n0 c0 f0 l.length N S K
  | _ => False

theorem fl_allS (n0 c0 : Nat) (f0 : Nat → List Value) (hf0 : ∀ r, r < n0 → ∀ v ∈ f0 r, Sc 0 v ∧ cellC v = true) (l : List UInt8) (hl : l.length ≤ 16000) (S : VSt) (K : Exit → VSt → Prop) (hB : flBBS n0 c0 f0 l S K) :
    Does Tryd.prog (.block 0 (.loop (roundOf Tryd.f5 0))) S K := by
  unfold flBBS at hB
  split at hB
  · exact fl_loopS _ _ _ n0 c0 f0 hf0 l _ (by omega) S K hB.2
  · exact hB.elim
theorem fl_allN (n0 c0 : Nat) (f0 : Nat → List Value) (hf0 : ∀ r, r < n0 → ∀ v ∈ f0 r, Sc 0 v ∧ cellC v = true) (l : List UInt8) (hl : l.length ≤ 16000) (S : VSt) (K : Exit → VSt → Prop) (hB : flBBN n0 c0 f0 l S K) :
    Does Tryd.prog (.block 0 (.loop (roundOf Tryd.f5 0))) S K := by
  unfold flBBN at hB
  split at hB
  · exact fl_loopN n0 c0 f0 hf0 l _ (by omega) S K hB.2
  · exact hB.elim
theorem ck_allS (n0 c0 : Nat) (f0 : Nat → List Value) (hf0 : ∀ r, r < n0 → ∀ v ∈ f0 r, Sc 0 v ∧ cellC v = true) (l : List UInt8) (hl : l.length ≤ 16000) (S : VSt) (K : Exit → VSt → Prop) (hB : ckBBS n0 c0 f0 l S K) :
    Does Tryd.prog (.block 2 (.loop (roundOf Tryd.f5 2))) S K := by
  unfold ckBBS at hB
  split at hB
  · exact ck_loopS _ _ _ n0 c0 f0 hf0 l.length _ (by omega) S K hB.2
  · exact hB.elim
theorem ck_allN (n0 c0 : Nat) (f0 : Nat → List Value) (hf0 : ∀ r, r < n0 → ∀ v ∈ f0 r, Sc 0 v ∧ cellC v = true) (l : List UInt8) (hl : l.length ≤ 16000) (S : VSt) (K : Exit → VSt → Prop) (hB : ckBBN n0 c0 f0 l S K) :
    Does Tryd.prog (.block 2 (.loop (roundOf Tryd.f5 2))) S K := by
  unfold ckBBN at hB
  split at hB
  · exact ck_loopN n0 c0 f0 hf0 l.length _ (by omega) S K hB.2
  · exact hB.elim

theorem BlksOK.two2 {P : Program} {C : Ctx} {c : Code} {i1 i2 : Nat} {b1 b2 : Code} {T1 T2 : VSt → (Exit → VSt → Prop) → Prop} (hl : blksOf C c = [(i1, .loop b1), (i2, .loop b2)]) (hT1 : C.blk i1 = some T1) (hT2 : C.blk i2 = some T2)
    (h1 : ∀ S K, T1 S K → Does P (.block i1 (.loop b1)) S K) (h2 : ∀ S K, T2 S K → Does P (.block i2 (.loop b2)) S K) : BlksOK P C c :=
  BlksOK.list hl fun x hx T' hT' S K hTS => by
    simp only [List.mem_cons, List.not_mem_nil, or_false] at hx
    rcases hx with rfl | rfl
    · obtain rfl : T1 = T' := Option.some.inj (hT1.symm.trans hT')
      exact h1 S K hTS
    · obtain rfl : T2 = T' := Option.some.inj (hT2.symm.trans hT')
      exact h2 S K hTS

theorem IntB.rowB {h : Nat → Int} {l : List UInt8} (hb : IntB h l) : RowB (fun j => [.int .u8 (h j)]) l := fun j b hj => by show [Value.int .u8 (h j)] = _; rw [hb.at_ j b hj]
theorem lay_row (k : Nat) (h : Nat → Int) (r : Nat) : (layF 0 k (fun _ => [Value.int .u8 (0 : Int)]) fun j => [Value.int .u8 (h (r + j))]) = fun j => [Value.int .u8 (if j < k then h (r + j) else 0)] := by
  funext j
  unfold layF
  by_cases hj : j < k
  · rw [if_pos ⟨by omega, by omega⟩, if_pos hj]; simp
  · rw [if_neg (by omega), if_neg hj]
theorem quote_size {l : List UInt8} {s : ByteArray} (h : QOut l s) (hl : l.length ≤ 16000) : s.size ≤ 2147483648 := by
  have h1 : s.size = (quoteL l).length := by rw [← h.eq]; rfl
  have h2 := qbs_len l
  rw [h1]
  simp only [quoteL, List.length_cons, List.length_append, List.length_nil]
  omega
theorem QOut.uniq {l : List UInt8} {s s' : ByteArray} (h : QOut l s) (h' : QOut l s') : s = s' := by
  have : bytesL s = bytesL s' := h.eq.trans h'.eq.symm
  obtain ⟨⟨a⟩⟩ := s
  obtain ⟨⟨b⟩⟩ := s'
  have : a = b := this
  rw [this]

variable (hesc : FnOK Tryd.prog 20 (g1 dStr escV))
include hesc
theorem lq_runN (n0 c0 : Nat) (f0 : Nat → List Value) (hf0 : ∀ r, r < n0 → ∀ v ∈ f0 r, Sc 0 v ∧ cellC v = true) :
    CallDoes Tryd.prog 5 [.slice none 0 0] [.rows false 5 1 n0 c0 f0] fun v _ => v = .bool true := by
  refine of_run (ctxG_ok (l := []) (cs := [(11, quoteT []), (12, refqT []), (7, wordsT refOut)]) (bs := [(0, flBBN n0 c0 f0 []), (2, ckBBN n0 c0 f0 [])]) .nil (.cons (quote_ok []) (.cons (refq_ok []) (.cons (words_ok hesc) .nil)))) (n := 200) Tryd.func5 rfl
    (BlksOK.two2 rfl rfl rfl (fl_allN n0 c0 f0 hf0 [] (by decide)) (ck_allN n0 c0 f0 hf0 [] (by decide))) ?_
  refine by_nf (B := ((0 : Int) ≤ IntKind.i64.wrap ((↑(0 : Nat) : Int) + (70 : Int)) ∧
    IntKind.i64.wrap ((↑(0 : Nat) : Int) + (70 : Int)) ≤ IntKind.i64.wrap ((↑(0 : Nat) : Int) + (70 : Int)) ∧
    fitsN (IntKind.i64.wrap ((↑(0 : Nat) : Int) + (70 : Int))).toNat (1 : Nat)) ∧
    True ∧
    (IntKind.i64.wrap ((↑(0 : Nat) : Int) + (70 : Int))).toNat = (70 : Nat) ∧
    ((Value.slice none (0 : Nat) (0 : Nat) = Value.slice none (0 : Nat) (0 : Nat) ∧
    Value.slice (some { block := (1 : Nat), off := (0 : Nat), spot := some (0 : Nat) : Addr }) (IntKind.i64.wrap ((↑(0 : Nat) : Int) + (70 : Int))).toNat (IntKind.i64.wrap ((↑(0 : Nat) : Int) + (70 : Int))).toNat = Value.slice (some { block := (1 : Nat), off := { block := (1 : Nat), off := (0 : Nat), spot := some (0 : Nat) : Addr }.off, spot := some (0 : Nat) : Addr }) (IntKind.i64.wrap ((↑(0 : Nat) : Int) + (70 : Int))).toNat (IntKind.i64.wrap ((↑(0 : Nat) : Int) + (70 : Int))).toNat ∧
    Value.int IntKind.i64 (↑(0 : Nat) : Int) = Value.int IntKind.i64 (↑(0 : Nat) : Int) ∧
    True) ∧
    QSt { tmps := [], V := [VObj.rows false (5 : TypeId) (1 : Nat) n0 c0 f0, VObj.rows true (5 : Nat) (1 : Nat) (IntKind.i64.wrap ((↑(0 : Nat) : Int) + (70 : Int))).toNat (IntKind.i64.wrap ((↑(0 : Nat) : Int) + (70 : Int))).toNat fun x => [Value.int IntKind.u8 (0 : Int)]] : VSt } { tmps := [], V := [VObj.rows false (5 : TypeId) (1 : Nat) n0 c0 f0, VObj.rows true (5 : TypeId) (1 : Nat) (IntKind.i64.wrap ((↑(0 : Nat) : Int) + (70 : Int))).toNat (IntKind.i64.wrap ((↑(0 : Nat) : Int) + (70 : Int))).toNat fun x => [Value.int IntKind.u8 (0 : Int)]] : VSt } ∧
    FlAt [] (IntKind.i64.wrap ((↑(0 : Nat) : Int) + (70 : Int))).toNat ((IntKind.i64.wrap ((↑(0 : Nat) : Int) + (70 : Int))).toNat - (0 : Nat)) (↑(0 : Nat) : Int) (IntKind.i64.wrap ((↑(0 : Nat) : Int) + (70 : Int))).toNat fun x => [Value.int IntKind.u8 (0 : Int)]) ∧
    (2 : Nat) = (2 : Nat) ∧
    ∀ (f : Nat → List Value), FlEnd [] (IntKind.i64.wrap ((↑(0 : Nat) : Int) + (70 : Int))).toNat (IntKind.i64.wrap ((↑(0 : Nat) : Int) + (70 : Int))).toNat f → ((0 : Int) ≤ (0 : Int) ∧
    (0 : Int) ≤ (↑(0 : Nat) : Int) ∧
    (↑(0 : Nat) : Int) ≤ (↑(IntKind.i64.wrap ((↑(0 : Nat) : Int) + (70 : Int))).toNat : Int)) ∧
    QPre (0 : Nat) ((↑(0 : Nat) : Int).toNat - Int.toNat (0 : Int)) (IntKind.i64.wrap ((↑(0 : Nat) : Int) + (70 : Int))).toNat f [] ∧
    ∀ (s : ByteArray), QOut [] s → IsNil [] ∧
    ∀ (s_1 : ByteArray), QOut [] s_1 → bsplit (!s.data.toList == s_1.data.toList) (Value.bool false = Value.bool true) (((0 : Nat) ≤ (IntKind.i64.wrap ((↑(0 : Nat) : Int) + (70 : Int))).toNat ∧
    areBytes f (0 : Nat) ((↑(0 : Nat) : Int).toNat - Int.toNat (0 : Int))) ∧
    (IntKind.i64.wrap ((↑(0 : Nat) : Int) + (70 : Int))).toNat = (70 : Nat) ∧
    Ck7 (0 : Nat) (IntKind.i64.wrap ((↑(0 : Nat) : Int) + (70 : Int))).toNat f ∧
    (0 : Nat) ≤ (IntKind.i64.wrap ((↑(0 : Nat) : Int) + (70 : Int))).toNat ∧
    ((Value.slice none (0 : Nat) (0 : Nat) = Value.slice none (0 : Nat) (0 : Nat) ∧
    Value.slice (some { block := (1 : Nat), off := (0 : Nat), spot := some (0 : Nat) : Addr }) (IntKind.i64.wrap ((↑(0 : Nat) : Int) + (70 : Int))).toNat (IntKind.i64.wrap ((↑(0 : Nat) : Int) + (70 : Int))).toNat = Value.slice (some { block := (1 : Nat), off := { block := (1 : Nat), off := (0 : Nat), spot := some (0 : Nat) : Addr }.off, spot := some (0 : Nat) : Addr }) (IntKind.i64.wrap ((↑(0 : Nat) : Int) + (70 : Int))).toNat (IntKind.i64.wrap ((↑(0 : Nat) : Int) + (70 : Int))).toNat ∧
    Value.string s = Value.string s ∧
    Value.int IntKind.i64 (↑(0 : Nat) : Int) = Value.int IntKind.i64 (↑(0 : Nat) : Int) ∧
    True) ∧
    QSt { tmps := [], V := [VObj.rows false (5 : TypeId) (1 : Nat) n0 c0 f0, VObj.rows true (5 : TypeId) (1 : Nat) (IntKind.i64.wrap ((↑(0 : Nat) : Int) + (70 : Int))).toNat (IntKind.i64.wrap ((↑(0 : Nat) : Int) + (70 : Int))).toNat f] : VSt } { tmps := [], V := [VObj.rows false (5 : TypeId) (1 : Nat) n0 c0 f0, VObj.rows true (5 : TypeId) (1 : Nat) (IntKind.i64.wrap ((↑(0 : Nat) : Int) + (70 : Int))).toNat (IntKind.i64.wrap ((↑(0 : Nat) : Int) + (70 : Int))).toNat f] : VSt } ∧
    CkAt (0 : Nat) (IntKind.i64.wrap ((↑(0 : Nat) : Int) + (70 : Int))).toNat ((IntKind.i64.wrap ((↑(0 : Nat) : Int) + (70 : Int))).toNat - (0 : Nat)) (↑(0 : Nat) : Int)) ∧
    (2 : Nat) = (2 : Nat) ∧
    s.size ≤ (2147483648 : Nat) ∧
    (refOut s = none → Value.bool false = Value.bool true) ∧
    ∀ (ws : List ByteArray) (n : Nat) (h : Nat → ByteArray), refOut s = some ws → SOut ws n h → bsplit ((↑n : Int) == (1 : Int)) (((0 : Int) ≤ (0 : Int) ∧
    (0 : Int) + (1 : Int) ≤ (↑n : Int) ∧
    (0 : Nat) + n ≤ n) ∧
    Nat.succ (0 : Nat) ≤ n ∧
    Value.bool ((h (0 : Nat)).data.toList == { data := #[] : ByteArray }.data.toList) = Value.bool true) (Value.bool false = Value.bool true))) (by kernel_rfl) ?_
  have hw : IntKind.i64.wrap (((0 : Nat) : Int) + 70) = ((70 : Nat) : Int) := by rw [w64 _ (by omega)]; omega
  rw [hw, Int.toNat_natCast]
  refine ⟨⟨by omega, by omega, ⟨by omega, by omega⟩⟩, trivial, rfl, ⟨⟨rfl, rfl, rfl, trivial⟩, ⟨rfl⟩, ⟨0, fun _ => 0, rfl, rfl, Nat.le_refl _, rfl, rfl, ⟨fun r b hrb => (by simp at hrb)⟩, fun r h1 h2 => by omega⟩⟩, rfl, fun f hf => ?_⟩
  obtain ⟨h', _, rfl, hb', h7⟩ := hf
  have hq' := hb'.rowB
  have hs2 := hq'.str
  refine ⟨⟨by omega, by omega, by omega⟩, ⟨rfl, h', rfl, rfl, by simp, by simp, hb'⟩, fun s hs => ⟨⟨rfl⟩, fun s1 hs' => ?_⟩⟩
  have e := hs.uniq hs'
  subst e
  refine bsplit_iff.2 ⟨fun hne => (by simp at hne), fun _ => ⟨⟨by omega, hq'.bytes⟩, ?_⟩⟩
  refine ⟨rfl, ⟨h', rfl, h7⟩, by omega, ⟨⟨rfl, rfl, rfl, rfl, trivial⟩, ⟨rfl⟩, ⟨0, rfl, by omega, Nat.le_refl _⟩⟩, rfl, quote_size hs (by simp), fun hno => ?_, fun ws n2 h2 hws ho => ?_⟩
  · rw [ref_quote s [] hs.eq] at hno; cases hno
  · rw [ref_quote s [] hs.eq] at hws
    cases hws
    obtain ⟨rfl, ho⟩ := ho
    have := ho 0 _ rfl
    refine bsplit_iff.2 ⟨fun _ => ⟨⟨by omega, by simp, by simp⟩, by simp, ?_⟩, fun hne => (by simp at hne)⟩
    rw [this]; simp
theorem lq_runS (n cap n0 c0 : Nat) (hcap : n ≤ cap) (h : Nat → Int) (L : List UInt8) (hL : L.length = min n 16000) (hb : IntB h L) (hn : n ≤ n0) :
    CallDoes Tryd.prog 5 [.slice (some ⟨0, 0, some 0⟩) n cap] [.rows false 5 1 n0 c0 fun j => [.int .u8 (h j)]] fun v _ => v = .bool true := by
  refine of_run (ctxG_ok (l := []) (cs := [(11, quoteT L), (12, refqT L), (7, wordsT refOut)]) (bs := [(0, flBBS n0 c0 (fun j => [.int .u8 (h j)]) L), (2, ckBBS n0 c0 (fun j => [.int .u8 (h j)]) L)]) .nil (.cons (quote_ok L) (.cons (refq_ok L) (.cons (words_ok hesc) .nil)))) (n := 200) Tryd.func5 rfl
    (BlksOK.two2 rfl rfl rfl (fl_allS n0 c0 _ (scI h n0) L (by omega)) (ck_allS n0 c0 _ (scI h n0) L (by omega))) ?_
  refine by_nf (B := bsplit (decide ((↑n : Int) > (16000 : Int))) (((0 : Int) ≤ (0 : Int) ∧
    (0 : Int) ≤ (16000 : Int) ∧
    (16000 : Int) ≤ (↑cap : Int)) ∧
    ((0 : Int) ≤ IntKind.i64.wrap ((↑(Int.toNat (16000 : Int) - Int.toNat (0 : Int)) : Int) + (70 : Int)) ∧
    IntKind.i64.wrap ((↑(Int.toNat (16000 : Int) - Int.toNat (0 : Int)) : Int) + (70 : Int)) ≤ IntKind.i64.wrap ((↑(Int.toNat (16000 : Int) - Int.toNat (0 : Int)) : Int) + (70 : Int)) ∧
    fitsN (IntKind.i64.wrap ((↑(Int.toNat (16000 : Int) - Int.toNat (0 : Int)) : Int) + (70 : Int))).toNat (1 : Nat)) ∧
    (((0 : Nat) + if cap = Int.toNat (0 : Int) then (0 : Nat) else Int.toNat (0 : Int)) + (Int.toNat (16000 : Int) - Int.toNat (0 : Int)) ≤ n0 ∧
    (16070 : Nat) ≤ (IntKind.i64.wrap ((↑(Int.toNat (16000 : Int) - Int.toNat (0 : Int)) : Int) + (70 : Int))).toNat) ∧
    (IntKind.i64.wrap ((↑(Int.toNat (16000 : Int) - Int.toNat (0 : Int)) : Int) + (70 : Int))).toNat = L.length + (70 : Nat) ∧
    ((Value.slice (some { block := (0 : Nat), off := (0 : Nat), spot := some ((0 : Nat) + if cap = Int.toNat (0 : Int) then (0 : Nat) else Int.toNat (0 : Int)) : Addr }) (Int.toNat (16000 : Int) - Int.toNat (0 : Int)) (cap - Int.toNat (0 : Int)) = Value.slice (some { block := (0 : Nat), off := { block := (0 : Nat), off := (0 : Nat), spot := some ((0 : Nat) + if cap = Int.toNat (0 : Int) then (0 : Nat) else Int.toNat (0 : Int)) : Addr }.off, spot := some ((0 : Nat) + if cap = Int.toNat (0 : Int) then (0 : Nat) else Int.toNat (0 : Int)) : Addr }) (Int.toNat (16000 : Int) - Int.toNat (0 : Int)) (cap - Int.toNat (0 : Int)) ∧
    Value.slice (some { block := (1 : Nat), off := (0 : Nat), spot := some (0 : Nat) : Addr }) (IntKind.i64.wrap ((↑(Int.toNat (16000 : Int) - Int.toNat (0 : Int)) : Int) + (70 : Int))).toNat (IntKind.i64.wrap ((↑(Int.toNat (16000 : Int) - Int.toNat (0 : Int)) : Int) + (70 : Int))).toNat = Value.slice (some { block := (1 : Nat), off := { block := (1 : Nat), off := (0 : Nat), spot := some (0 : Nat) : Addr }.off, spot := some (0 : Nat) : Addr }) (IntKind.i64.wrap ((↑(Int.toNat (16000 : Int) - Int.toNat (0 : Int)) : Int) + (70 : Int))).toNat (IntKind.i64.wrap ((↑(Int.toNat (16000 : Int) - Int.toNat (0 : Int)) : Int) + (70 : Int))).toNat ∧
    Value.int IntKind.i64 (↑(Int.toNat (16000 : Int) - Int.toNat (0 : Int)) : Int) = Value.int IntKind.i64 (↑(Int.toNat (16000 : Int) - Int.toNat (0 : Int)) : Int) ∧
    True) ∧
    QSt { tmps := [], V := [VObj.rows false (5 : TypeId) (1 : Nat) n0 c0 fun j => [Value.int IntKind.u8 (h j)], VObj.rows true (5 : Nat) (1 : Nat) (IntKind.i64.wrap ((↑(Int.toNat (16000 : Int) - Int.toNat (0 : Int)) : Int) + (70 : Int))).toNat (IntKind.i64.wrap ((↑(Int.toNat (16000 : Int) - Int.toNat (0 : Int)) : Int) + (70 : Int))).toNat (layF (0 : Nat) ((Int.toNat (16000 : Int) - Int.toNat (0 : Int)).min (IntKind.i64.wrap ((↑(Int.toNat (16000 : Int) - Int.toNat (0 : Int)) : Int) + (70 : Int))).toNat) (fun x => [Value.int IntKind.u8 (0 : Int)]) fun j => [Value.int IntKind.u8 (h (((0 : Nat) + if cap = Int.toNat (0 : Int) then (0 : Nat) else Int.toNat (0 : Int)) + j))])] : VSt } { tmps := [], V := [VObj.rows false (5 : TypeId) (1 : Nat) n0 c0 fun j => [Value.int IntKind.u8 (h j)], VObj.rows true (5 : TypeId) (1 : Nat) (IntKind.i64.wrap ((↑(Int.toNat (16000 : Int) - Int.toNat (0 : Int)) : Int) + (70 : Int))).toNat (IntKind.i64.wrap ((↑(Int.toNat (16000 : Int) - Int.toNat (0 : Int)) : Int) + (70 : Int))).toNat (layF (0 : Nat) ((Int.toNat (16000 : Int) - Int.toNat (0 : Int)).min (IntKind.i64.wrap ((↑(Int.toNat (16000 : Int) - Int.toNat (0 : Int)) : Int) + (70 : Int))).toNat) (fun x => [Value.int IntKind.u8 (0 : Int)]) fun j => [Value.int IntKind.u8 (h (((0 : Nat) + if cap = Int.toNat (0 : Int) then (0 : Nat) else Int.toNat (0 : Int)) + j))])] : VSt } ∧
    FlAt L (IntKind.i64.wrap ((↑(Int.toNat (16000 : Int) - Int.toNat (0 : Int)) : Int) + (70 : Int))).toNat ((IntKind.i64.wrap ((↑(Int.toNat (16000 : Int) - Int.toNat (0 : Int)) : Int) + (70 : Int))).toNat - L.length) (↑(Int.toNat (16000 : Int) - Int.toNat (0 : Int)) : Int) (IntKind.i64.wrap ((↑(Int.toNat (16000 : Int) - Int.toNat (0 : Int)) : Int) + (70 : Int))).toNat (layF (0 : Nat) ((Int.toNat (16000 : Int) - Int.toNat (0 : Int)).min (IntKind.i64.wrap ((↑(Int.toNat (16000 : Int) - Int.toNat (0 : Int)) : Int) + (70 : Int))).toNat) (fun x => [Value.int IntKind.u8 (0 : Int)]) fun j => [Value.int IntKind.u8 (h (((0 : Nat) + if cap = Int.toNat (0 : Int) then (0 : Nat) else Int.toNat (0 : Int)) + j))])) ∧
    (2 : Nat) = (2 : Nat) ∧
    ∀ (f : Nat → List Value), FlEnd L (IntKind.i64.wrap ((↑(Int.toNat (16000 : Int) - Int.toNat (0 : Int)) : Int) + (70 : Int))).toNat (IntKind.i64.wrap ((↑(Int.toNat (16000 : Int) - Int.toNat (0 : Int)) : Int) + (70 : Int))).toNat f → ((0 : Int) ≤ (0 : Int) ∧
    (0 : Int) ≤ (↑(Int.toNat (16000 : Int) - Int.toNat (0 : Int)) : Int) ∧
    (↑(Int.toNat (16000 : Int) - Int.toNat (0 : Int)) : Int) ≤ (↑(IntKind.i64.wrap ((↑(Int.toNat (16000 : Int) - Int.toNat (0 : Int)) : Int) + (70 : Int))).toNat : Int)) ∧
    QPre (0 : Nat) ((↑(Int.toNat (16000 : Int) - Int.toNat (0 : Int)) : Int).toNat - Int.toNat (0 : Int)) (IntKind.i64.wrap ((↑(Int.toNat (16000 : Int) - Int.toNat (0 : Int)) : Int) + (70 : Int))).toNat f L ∧
    ∀ (s : ByteArray), QOut L s → RQPre ((0 : Nat) + if cap = Int.toNat (0 : Int) then (0 : Nat) else Int.toNat (0 : Int)) (Int.toNat (16000 : Int) - Int.toNat (0 : Int)) n0 (fun j => [Value.int IntKind.u8 (h j)]) L ∧
    ∀ (s_1 : ByteArray), QOut L s_1 → bsplit (!s.data.toList == s_1.data.toList) (Value.bool false = Value.bool true) (((16000 : Nat) ≤ (IntKind.i64.wrap ((↑(Int.toNat (16000 : Int) - Int.toNat (0 : Int)) : Int) + (70 : Int))).toNat ∧
    areBytes f (0 : Nat) ((↑(Int.toNat (16000 : Int) - Int.toNat (0 : Int)) : Int).toNat - Int.toNat (0 : Int))) ∧
    (((0 : Nat) + if cap = Int.toNat (0 : Int) then (0 : Nat) else Int.toNat (0 : Int)) + (Int.toNat (16000 : Int) - Int.toNat (0 : Int)) ≤ n0 ∧
    areBytes (fun j => [Value.int IntKind.u8 (h j)]) ((0 : Nat) + if cap = Int.toNat (0 : Int) then (0 : Nat) else Int.toNat (0 : Int)) (Int.toNat (16000 : Int) - Int.toNat (0 : Int))) ∧
    bsplit (!(strOf f (0 : Nat) ((↑(Int.toNat (16000 : Int) - Int.toNat (0 : Int)) : Int).toNat - Int.toNat (0 : Int))).data.toList == (strOf (fun j => [Value.int IntKind.u8 (h j)]) ((0 : Nat) + if cap = Int.toNat (0 : Int) then (0 : Nat) else Int.toNat (0 : Int)) (Int.toNat (16000 : Int) - Int.toNat (0 : Int))).data.toList) (Value.bool false = Value.bool true) ((IntKind.i64.wrap ((↑(Int.toNat (16000 : Int) - Int.toNat (0 : Int)) : Int) + (70 : Int))).toNat = L.length + (70 : Nat) ∧
    Ck7 L.length (IntKind.i64.wrap ((↑(Int.toNat (16000 : Int) - Int.toNat (0 : Int)) : Int) + (70 : Int))).toNat f ∧
    L.length ≤ (IntKind.i64.wrap ((↑(Int.toNat (16000 : Int) - Int.toNat (0 : Int)) : Int) + (70 : Int))).toNat ∧
    ((Value.slice (some { block := (0 : Nat), off := (0 : Nat), spot := some ((0 : Nat) + if cap = Int.toNat (0 : Int) then (0 : Nat) else Int.toNat (0 : Int)) : Addr }) (Int.toNat (16000 : Int) - Int.toNat (0 : Int)) (cap - Int.toNat (0 : Int)) = Value.slice (some { block := (0 : Nat), off := { block := (0 : Nat), off := (0 : Nat), spot := some ((0 : Nat) + if cap = Int.toNat (0 : Int) then (0 : Nat) else Int.toNat (0 : Int)) : Addr }.off, spot := some ((0 : Nat) + if cap = Int.toNat (0 : Int) then (0 : Nat) else Int.toNat (0 : Int)) : Addr }) (Int.toNat (16000 : Int) - Int.toNat (0 : Int)) (cap - Int.toNat (0 : Int)) ∧
    Value.slice (some { block := (1 : Nat), off := (0 : Nat), spot := some (0 : Nat) : Addr }) (IntKind.i64.wrap ((↑(Int.toNat (16000 : Int) - Int.toNat (0 : Int)) : Int) + (70 : Int))).toNat (IntKind.i64.wrap ((↑(Int.toNat (16000 : Int) - Int.toNat (0 : Int)) : Int) + (70 : Int))).toNat = Value.slice (some { block := (1 : Nat), off := { block := (1 : Nat), off := (0 : Nat), spot := some (0 : Nat) : Addr }.off, spot := some (0 : Nat) : Addr }) (IntKind.i64.wrap ((↑(Int.toNat (16000 : Int) - Int.toNat (0 : Int)) : Int) + (70 : Int))).toNat (IntKind.i64.wrap ((↑(Int.toNat (16000 : Int) - Int.toNat (0 : Int)) : Int) + (70 : Int))).toNat ∧
    Value.string s = Value.string s ∧
    Value.int IntKind.i64 (↑(Int.toNat (16000 : Int) - Int.toNat (0 : Int)) : Int) = Value.int IntKind.i64 (↑(Int.toNat (16000 : Int) - Int.toNat (0 : Int)) : Int) ∧
    True) ∧
    QSt { tmps := [], V := [VObj.rows false (5 : TypeId) (1 : Nat) n0 c0 fun j => [Value.int IntKind.u8 (h j)], VObj.rows true (5 : TypeId) (1 : Nat) (IntKind.i64.wrap ((↑(Int.toNat (16000 : Int) - Int.toNat (0 : Int)) : Int) + (70 : Int))).toNat (IntKind.i64.wrap ((↑(Int.toNat (16000 : Int) - Int.toNat (0 : Int)) : Int) + (70 : Int))).toNat f] : VSt } { tmps := [], V := [VObj.rows false (5 : TypeId) (1 : Nat) n0 c0 fun j => [Value.int IntKind.u8 (h j)], VObj.rows true (5 : TypeId) (1 : Nat) (IntKind.i64.wrap ((↑(Int.toNat (16000 : Int) - Int.toNat (0 : Int)) : Int) + (70 : Int))).toNat (IntKind.i64.wrap ((↑(Int.toNat (16000 : Int) - Int.toNat (0 : Int)) : Int) + (70 : Int))).toNat f] : VSt } ∧
    CkAt L.length (IntKind.i64.wrap ((↑(Int.toNat (16000 : Int) - Int.toNat (0 : Int)) : Int) + (70 : Int))).toNat ((IntKind.i64.wrap ((↑(Int.toNat (16000 : Int) - Int.toNat (0 : Int)) : Int) + (70 : Int))).toNat - L.length) (↑(Int.toNat (16000 : Int) - Int.toNat (0 : Int)) : Int)) ∧
    (2 : Nat) = (2 : Nat) ∧
    s.size ≤ (2147483648 : Nat) ∧
    (refOut s = none → Value.bool false = Value.bool true) ∧
    ∀ (ws : List ByteArray) (n : Nat) (h_1 : Nat → ByteArray), refOut s = some ws → SOut ws n h_1 → bsplit ((↑n : Int) == (1 : Int)) (((0 : Int) ≤ (0 : Int) ∧
    (0 : Int) + (1 : Int) ≤ (↑n : Int) ∧
    (0 : Nat) + n ≤ n) ∧
    Nat.succ (0 : Nat) ≤ n ∧
    (((0 : Nat) + if cap = Int.toNat (0 : Int) then (0 : Nat) else Int.toNat (0 : Int)) + (Int.toNat (16000 : Int) - Int.toNat (0 : Int)) ≤ n0 ∧
    areBytes (fun j => [Value.int IntKind.u8 (h j)]) ((0 : Nat) + if cap = Int.toNat (0 : Int) then (0 : Nat) else Int.toNat (0 : Int)) (Int.toNat (16000 : Int) - Int.toNat (0 : Int))) ∧
    Value.bool ((h_1 (0 : Nat)).data.toList == (strOf (fun j => [Value.int IntKind.u8 (h j)]) ((0 : Nat) + if cap = Int.toNat (0 : Int) then (0 : Nat) else Int.toNat (0 : Int)) (Int.toNat (16000 : Int) - Int.toNat (0 : Int))).data.toList) = Value.bool true) (Value.bool false = Value.bool true)))) (((0 : Int) ≤ IntKind.i64.wrap ((↑n : Int) + (70 : Int)) ∧
    IntKind.i64.wrap ((↑n : Int) + (70 : Int)) ≤ IntKind.i64.wrap ((↑n : Int) + (70 : Int)) ∧
    fitsN (IntKind.i64.wrap ((↑n : Int) + (70 : Int))).toNat (1 : Nat)) ∧
    ((0 : Nat) + n ≤ n0 ∧
    (0 : Nat) + (IntKind.i64.wrap ((↑n : Int) + (70 : Int))).toNat ≤ (IntKind.i64.wrap ((↑n : Int) + (70 : Int))).toNat) ∧
    (IntKind.i64.wrap ((↑n : Int) + (70 : Int))).toNat = L.length + (70 : Nat) ∧
    ((Value.slice (some { block := (0 : Nat), off := (0 : Nat), spot := some (0 : Nat) : Addr }) n cap = Value.slice (some { block := (0 : Nat), off := { block := (0 : Nat), off := (0 : Nat), spot := some (0 : Nat) : Addr }.off, spot := some (0 : Nat) : Addr }) n cap ∧
    Value.slice (some { block := (1 : Nat), off := (0 : Nat), spot := some (0 : Nat) : Addr }) (IntKind.i64.wrap ((↑n : Int) + (70 : Int))).toNat (IntKind.i64.wrap ((↑n : Int) + (70 : Int))).toNat = Value.slice (some { block := (1 : Nat), off := { block := (1 : Nat), off := (0 : Nat), spot := some (0 : Nat) : Addr }.off, spot := some (0 : Nat) : Addr }) (IntKind.i64.wrap ((↑n : Int) + (70 : Int))).toNat (IntKind.i64.wrap ((↑n : Int) + (70 : Int))).toNat ∧
    Value.int IntKind.i64 (↑n : Int) = Value.int IntKind.i64 (↑n : Int) ∧
    True) ∧
    QSt { tmps := [], V := [VObj.rows false (5 : TypeId) (1 : Nat) n0 c0 fun j => [Value.int IntKind.u8 (h j)], VObj.rows true (5 : Nat) (1 : Nat) (IntKind.i64.wrap ((↑n : Int) + (70 : Int))).toNat (IntKind.i64.wrap ((↑n : Int) + (70 : Int))).toNat (layF (0 : Nat) (n.min (IntKind.i64.wrap ((↑n : Int) + (70 : Int))).toNat) (fun x => [Value.int IntKind.u8 (0 : Int)]) fun j => [Value.int IntKind.u8 (h ((0 : Nat) + j))])] : VSt } { tmps := [], V := [VObj.rows false (5 : TypeId) (1 : Nat) n0 c0 fun j => [Value.int IntKind.u8 (h j)], VObj.rows true (5 : TypeId) (1 : Nat) (IntKind.i64.wrap ((↑n : Int) + (70 : Int))).toNat (IntKind.i64.wrap ((↑n : Int) + (70 : Int))).toNat (layF (0 : Nat) (n.min (IntKind.i64.wrap ((↑n : Int) + (70 : Int))).toNat) (fun x => [Value.int IntKind.u8 (0 : Int)]) fun j => [Value.int IntKind.u8 (h ((0 : Nat) + j))])] : VSt } ∧
    FlAt L (IntKind.i64.wrap ((↑n : Int) + (70 : Int))).toNat ((IntKind.i64.wrap ((↑n : Int) + (70 : Int))).toNat - L.length) (↑n : Int) (IntKind.i64.wrap ((↑n : Int) + (70 : Int))).toNat (layF (0 : Nat) (n.min (IntKind.i64.wrap ((↑n : Int) + (70 : Int))).toNat) (fun x => [Value.int IntKind.u8 (0 : Int)]) fun j => [Value.int IntKind.u8 (h ((0 : Nat) + j))])) ∧
    (2 : Nat) = (2 : Nat) ∧
    ∀ (f : Nat → List Value), FlEnd L (IntKind.i64.wrap ((↑n : Int) + (70 : Int))).toNat (IntKind.i64.wrap ((↑n : Int) + (70 : Int))).toNat f → ((0 : Int) ≤ (0 : Int) ∧
    (0 : Int) ≤ (↑n : Int) ∧
    (↑n : Int) ≤ (↑(IntKind.i64.wrap ((↑n : Int) + (70 : Int))).toNat : Int)) ∧
    QPre ((0 : Nat) + if (IntKind.i64.wrap ((↑n : Int) + (70 : Int))).toNat = Int.toNat (0 : Int) then (0 : Nat) else Int.toNat (0 : Int)) ((↑n : Int).toNat - Int.toNat (0 : Int)) (IntKind.i64.wrap ((↑n : Int) + (70 : Int))).toNat f L ∧
    ∀ (s : ByteArray), QOut L s → RQPre (0 : Nat) n n0 (fun j => [Value.int IntKind.u8 (h j)]) L ∧
    ∀ (s_1 : ByteArray), QOut L s_1 → bsplit (!s.data.toList == s_1.data.toList) (Value.bool false = Value.bool true) ((((0 : Nat) + if (IntKind.i64.wrap ((↑n : Int) + (70 : Int))).toNat = Int.toNat (0 : Int) then (0 : Nat) else Int.toNat (0 : Int)) + ((↑n : Int).toNat - Int.toNat (0 : Int)) ≤ (IntKind.i64.wrap ((↑n : Int) + (70 : Int))).toNat ∧
    areBytes f ((0 : Nat) + if (IntKind.i64.wrap ((↑n : Int) + (70 : Int))).toNat = Int.toNat (0 : Int) then (0 : Nat) else Int.toNat (0 : Int)) ((↑n : Int).toNat - Int.toNat (0 : Int))) ∧
    ((0 : Nat) + n ≤ n0 ∧
    areBytes (fun j => [Value.int IntKind.u8 (h j)]) (0 : Nat) n) ∧
    bsplit (!(strOf f ((0 : Nat) + if (IntKind.i64.wrap ((↑n : Int) + (70 : Int))).toNat = Int.toNat (0 : Int) then (0 : Nat) else Int.toNat (0 : Int)) ((↑n : Int).toNat - Int.toNat (0 : Int))).data.toList == (strOf (fun j => [Value.int IntKind.u8 (h j)]) (0 : Nat) n).data.toList) (Value.bool false = Value.bool true) ((IntKind.i64.wrap ((↑n : Int) + (70 : Int))).toNat = L.length + (70 : Nat) ∧
    Ck7 L.length (IntKind.i64.wrap ((↑n : Int) + (70 : Int))).toNat f ∧
    L.length ≤ (IntKind.i64.wrap ((↑n : Int) + (70 : Int))).toNat ∧
    ((Value.slice (some { block := (0 : Nat), off := (0 : Nat), spot := some (0 : Nat) : Addr }) n cap = Value.slice (some { block := (0 : Nat), off := { block := (0 : Nat), off := (0 : Nat), spot := some (0 : Nat) : Addr }.off, spot := some (0 : Nat) : Addr }) n cap ∧
    Value.slice (some { block := (1 : Nat), off := (0 : Nat), spot := some (0 : Nat) : Addr }) (IntKind.i64.wrap ((↑n : Int) + (70 : Int))).toNat (IntKind.i64.wrap ((↑n : Int) + (70 : Int))).toNat = Value.slice (some { block := (1 : Nat), off := { block := (1 : Nat), off := (0 : Nat), spot := some (0 : Nat) : Addr }.off, spot := some (0 : Nat) : Addr }) (IntKind.i64.wrap ((↑n : Int) + (70 : Int))).toNat (IntKind.i64.wrap ((↑n : Int) + (70 : Int))).toNat ∧
    Value.string s = Value.string s ∧
    Value.int IntKind.i64 (↑n : Int) = Value.int IntKind.i64 (↑n : Int) ∧
    True) ∧
    QSt { tmps := [], V := [VObj.rows false (5 : TypeId) (1 : Nat) n0 c0 fun j => [Value.int IntKind.u8 (h j)], VObj.rows true (5 : TypeId) (1 : Nat) (IntKind.i64.wrap ((↑n : Int) + (70 : Int))).toNat (IntKind.i64.wrap ((↑n : Int) + (70 : Int))).toNat f] : VSt } { tmps := [], V := [VObj.rows false (5 : TypeId) (1 : Nat) n0 c0 fun j => [Value.int IntKind.u8 (h j)], VObj.rows true (5 : TypeId) (1 : Nat) (IntKind.i64.wrap ((↑n : Int) + (70 : Int))).toNat (IntKind.i64.wrap ((↑n : Int) + (70 : Int))).toNat f] : VSt } ∧
    CkAt L.length (IntKind.i64.wrap ((↑n : Int) + (70 : Int))).toNat ((IntKind.i64.wrap ((↑n : Int) + (70 : Int))).toNat - L.length) (↑n : Int)) ∧
    (2 : Nat) = (2 : Nat) ∧
    s.size ≤ (2147483648 : Nat) ∧
    (refOut s = none → Value.bool false = Value.bool true) ∧
    ∀ (ws : List ByteArray) (n_1 : Nat) (h_1 : Nat → ByteArray), refOut s = some ws → SOut ws n_1 h_1 → bsplit ((↑n_1 : Int) == (1 : Int)) (((0 : Int) ≤ (0 : Int) ∧
    (0 : Int) + (1 : Int) ≤ (↑n_1 : Int) ∧
    (0 : Nat) + n_1 ≤ n_1) ∧
    Nat.succ (0 : Nat) ≤ n_1 ∧
    ((0 : Nat) + n ≤ n0 ∧
    areBytes (fun j => [Value.int IntKind.u8 (h j)]) (0 : Nat) n) ∧
    Value.bool ((h_1 (0 : Nat)).data.toList == (strOf (fun j => [Value.int IntKind.u8 (h j)]) (0 : Nat) n).data.toList) = Value.bool true) (Value.bool false = Value.bool true))))) (by kernel_rfl) ?_
  refine bsplit_iff.2 ⟨fun hgt => ?_, fun hle => ?_⟩
  · have hgt : 16000 < n := by simp only [decide_eq_true_eq] at hgt; omega
    have hN : L.length = Int.toNat (16000 : Int) - Int.toNat (0 : Int) := by omega
    have hw : IntKind.i64.wrap (((Int.toNat (16000 : Int) - Int.toNat (0 : Int) : Nat) : Int) + 70) = ((L.length + 70 : Nat) : Int) := by rw [w64 _ (by omega)]; omega
    have hr : (0 : Nat) + (if cap = Int.toNat (0 : Int) then (0 : Nat) else Int.toNat (0 : Int)) = 0 := by split <;> rfl
    rw [hw, Int.toNat_natCast, hr]
    have hq := hb.rowB
    refine ⟨⟨by omega, by omega, by omega⟩, ⟨by omega, by omega, ⟨by omega, by omega⟩⟩, ⟨by omega, by omega⟩, rfl, ⟨⟨rfl, rfl, rfl, trivial⟩, ⟨rfl⟩, ⟨L.length, _, by omega, by omega, Nat.le_refl _, rfl, lay_row _ h 0, ⟨fun r b hrb => ?_⟩, fun r h1 h2 => by omega⟩⟩, rfl, fun f hf => ?_⟩
    · have hlt : r < L.length := (List.getElem?_eq_some_iff.1 hrb).1
      rw [if_pos (by simp only [Nat.min_def]; split <;> omega), Nat.zero_add]
      exact hb.at_ r b hrb
    obtain ⟨h', _, rfl, hb', h7⟩ := hf
    have hq' := hb'.rowB
    have hk : (((Int.toNat (16000 : Int) - Int.toNat (0 : Int) : Nat) : Int).toNat - Int.toNat (0 : Int)) = L.length := by omega
    have hk2 : Int.toNat (16000 : Int) - Int.toNat (0 : Int) = L.length := by omega
    have hs1 := hq.str
    have hs2 := hq'.str
    rw [hk, hk2]
    refine ⟨⟨by omega, by omega, by omega⟩, ⟨rfl, h', rfl, rfl, by omega, by omega, hb'⟩, fun s hs => ⟨⟨rfl, h, rfl, rfl, by omega, by omega, hb⟩, fun s1 hs' => ?_⟩⟩
    have e := hs.uniq hs'
    subst e
    rw [hs1, hs2]
    refine bsplit_iff.2 ⟨fun hne => (by simp at hne), fun _ => ⟨⟨by omega, hq'.bytes⟩, ⟨by omega, hq.bytes⟩, bsplit_iff.2 ⟨fun hne => (by simp at hne), fun _ => ⟨rfl, ⟨h', rfl, h7⟩, by omega, ⟨⟨rfl, rfl, rfl, rfl, trivial⟩, ⟨rfl⟩, ⟨L.length, rfl, by omega, Nat.le_refl _⟩⟩, rfl, quote_size hs (by omega), fun hno => ?_, fun ws n2 h2 hws ho => ?_⟩⟩⟩⟩
    · rw [ref_quote s L hs.eq] at hno; cases hno
    · rw [ref_quote s L hs.eq] at hws
      cases hws
      obtain ⟨rfl, ho⟩ := ho
      have := ho 0 _ rfl
      refine bsplit_iff.2 ⟨fun _ => ⟨⟨by omega, by simp, by simp⟩, by simp, ⟨by omega, hq.bytes⟩, ?_⟩, fun hne => (by simp at hne)⟩
      rw [this]; simp
  · have hle : ¬ 16000 < n := by simp only [decide_eq_false_iff_not] at hle; omega
    have hN : L.length = n := by omega
    have hw : IntKind.i64.wrap ((n : Int) + 70) = ((L.length + 70 : Nat) : Int) := by rw [w64 _ (by omega)]; omega
    rw [hw, Int.toNat_natCast]
    have hq := hb.rowB
    refine ⟨⟨by omega, by omega, ⟨by omega, by omega⟩⟩, ⟨by omega, by omega⟩, rfl, ⟨⟨rfl, rfl, rfl, trivial⟩, ⟨rfl⟩, ⟨L.length, _, by omega, by omega, Nat.le_refl _, rfl, lay_row _ h 0, ⟨fun r b hrb => ?_⟩, fun r h1 h2 => by omega⟩⟩, rfl, fun f hf => ?_⟩
    · have hlt : r < L.length := (List.getElem?_eq_some_iff.1 hrb).1
      rw [if_pos (by simp only [Nat.min_def]; split <;> omega), Nat.zero_add]
      exact hb.at_ r b hrb
    obtain ⟨h', _, rfl, hb', h7⟩ := hf
    have hq' := hb'.rowB
    have hk : ((n : Int).toNat - Int.toNat (0 : Int)) = L.length := by omega
    have hk2 : n = L.length := by omega
    have hs1 := hq.str
    have hs2 := hq'.str
    have hr : (0 : Nat) + (if L.length + (70 : Nat) = Int.toNat (0 : Int) then (0 : Nat) else Int.toNat (0 : Int)) = 0 := by split <;> rfl
    rw [hk, hk2, hr]
    refine ⟨⟨by omega, by omega, by omega⟩, ⟨rfl, h', rfl, rfl, by omega, by omega, hb'⟩, fun s hs => ⟨⟨rfl, h, rfl, rfl, by omega, by omega, hb⟩, fun s1 hs' => ?_⟩⟩
    have e := hs.uniq hs'
    subst e
    rw [hs1, hs2]
    refine bsplit_iff.2 ⟨fun hne => (by simp at hne), fun _ => ⟨⟨by omega, hq'.bytes⟩, ⟨by omega, hq.bytes⟩, bsplit_iff.2 ⟨fun hne => (by simp at hne), fun _ => ⟨rfl, ⟨h', rfl, h7⟩, by omega, ⟨⟨rfl, rfl, rfl, rfl, trivial⟩, ⟨rfl⟩, ⟨L.length, rfl, by omega, Nat.le_refl _⟩⟩, rfl, quote_size hs (by omega), fun hno => ?_, fun ws n2 h2 hws ho => ?_⟩⟩⟩⟩
    · rw [ref_quote s L hs.eq] at hno; cases hno
    · rw [ref_quote s L hs.eq] at hws
      cases hws
      obtain ⟨rfl, ho⟩ := ho
      have := ho 0 _ rfl
      refine bsplit_iff.2 ⟨fun _ => ⟨⟨by omega, by simp, by simp⟩, by simp, ⟨by omega, hq.bytes⟩, ?_⟩, fun hne => (by simp at hne)⟩
      rw [this]; simp

end Go.Sh
