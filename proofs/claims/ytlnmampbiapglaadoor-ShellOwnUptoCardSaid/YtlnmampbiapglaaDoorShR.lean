/- The document's reader of words: what its functions do, over their program. -/
import Derived.Test.YtlnmampbiapglaaDoorXSQ
import Derived.Test.YtlnmampbiapglaaDoorProg
import Derived.Laws.BitsLemmas
set_option linter.unusedSimpArgs false
set_option linter.unusedSectionVars false
set_option linter.unusedVariables false
namespace Go.Sh
open Go Go.X Go.Proofs
variable [WI]

theorem callable {f : FuncId} {fn : Func} (h : Tryd.prog.funcs[f]? = some fn) (hb : fn.body.isSome = true) (hn : (fn.name == "runtime.NumGoroutine") = false) : Callable Tryd.prog f := ⟨fn, h, hb, hn⟩
theorem w64 (n : Int) (h : -9223372036854775808 ≤ n ∧ n ≤ 9223372036854775807) : IntKind.i64.wrap n = n := by rw [IntKind.wrap_i64]; omega

/-- the reader -/
structure RS where
  In : Int
  W : List UInt8
  Ws : List ByteArray
  D : Int
  B : Bool

def RowB (f : Nat → List Value) (l : List UInt8) : Prop := ∀ (j : Nat) (b : UInt8), l[j]? = some b → f j = [.int .u8 (b.toNat : Int)]
def RowS (f : Nat → List Value) (l : List ByteArray) : Prop := ∀ (j : Nat) (s : ByteArray), l[j]? = some s → f j = [.string s]

structure RAt (σ : RS) (In : Int) (n n' : Nat) (f : Nat → List Value) (m m' : Nat) (g : Nat → List Value) (D : Int) (B : Bool) : Prop where
  hIn : In = σ.In
  hn : n = σ.W.length
  hn' : n' = σ.W.length
  hf : RowB f σ.W
  hm : m = σ.Ws.length
  hm' : m' = σ.Ws.length
  hg : RowS g σ.Ws
  hD : D = σ.D
  hB : B = σ.B

abbrev rd0 (In : Int) (a b n m : Nat) (D : Int) (B : Bool) : VObj := .cells 43 [.int .i64 In, .slice (some ⟨a, 2, some 0⟩) n 0, .slice (some ⟨b, 2, some 0⟩) m 0, .int .i64 D, .bool B]

structure REnd (K : Value → VW → Prop) (σ : RS) : Prop where
  to : ∀ In n f m g D B, RAt σ In n n f m m g D B → K (.tuple ⟨[]⟩) [rd0 In 3 4 n m D B, .dead, .dead, .vec 5 1 n f, .vec 9 1 m g]

structure RPre {α : Type} (A : α → Value) (x : Value) (In : Int) (n n' : Nat) (f : Nat → List Value) (m m' : Nat) (g : Nat → List Value) (D : Int) (B : Bool) : Prop where
  ex : ∃ a σ, x = A a ∧ (σ.W.length < 4294967296 ∧ σ.Ws.length < 4294967296) ∧ RAt σ In n n' f m m' g D B
structure RStep {α : Type} (A : α → Value) (step : RS → α → RS) (x : Value) (In : Int) (n n' : Nat) (f : Nat → List Value) (m m' : Nat) (g : Nat → List Value) (D : Int) (B : Bool)
    (In2 : Int) (n2 : Nat) (f2 : Nat → List Value) (m2 : Nat) (g2 : Nat → List Value) (D2 : Int) (B2 : Bool) : Prop where
  ex : ∃ a σ, x = A a ∧ RAt σ In n n' f m m' g D B ∧ RAt (step σ a) In2 n2 n2 f2 m2 m2 g2 D2 B2

/-- a method of the reader with one more argument -/
def rdT {α : Type} (A : α → Value) (step : RS → α → RS) : CallS := fun args V K =>
  match args, V with
  | [.pointer (some ⟨0, 0, none⟩), x], [.cells 43 [.int .i64 In, .slice (some ⟨1, 2, some 0⟩) n 0, .slice (some ⟨2, 2, some 0⟩) m 0, .int .i64 D, .bool B], .vec 5 1 n' f, .vec 9 1 m' g] =>
    RPre A x In n n' f m m' g D B ∧ ∀ In2 n2 f2 m2 g2 D2 B2, RStep A step x In n n' f m m' g D B In2 n2 f2 m2 g2 D2 B2 →
      K (.tuple ⟨[]⟩) [rd0 In2 3 4 n2 m2 D2 B2, .dead, .dead, .vec 5 1 n2 f2, .vec 9 1 m2 g2]
  | _, _ => False

theorem RAt.uniq {σ σ' : RS} {In : Int} {n n' : Nat} {f : Nat → List Value} {m m' : Nat} {g : Nat → List Value} {D : Int} {B : Bool} (h : RAt σ In n n' f m m' g D B) (h' : RAt σ' In n n' f m m' g D B) : σ = σ' := by
  obtain ⟨a1, a2, a3, a4, a5, a6, a7, a8, a9⟩ := h
  obtain ⟨b1, b2, b3, b4, b5, b6, b7, b8, b9⟩ := h'
  have hW : σ.W = σ'.W := by
    apply List.ext_getElem (by omega)
    intro j h1 h2
    have e1 := a4 j σ.W[j] (by simp [h1])
    have e2 := b4 j σ'.W[j] (by simp [h2])
    rw [e1] at e2
    simp only [List.cons.injEq, Value.int.injEq, true_and, and_true] at e2
    exact UInt8.toNat_inj.1 (by omega)
  have hWs : σ.Ws = σ'.Ws := by
    apply List.ext_getElem (by omega)
    intro j h1 h2
    have e1 := a7 j σ.Ws[j] (by simp [h1])
    have e2 := b7 j σ'.Ws[j] (by simp [h2])
    rw [e1] at e2
    simp only [List.cons.injEq, Value.string.injEq, true_and, and_true] at e2
    exact e2
  cases σ; cases σ'; simp_all

structure RK (K : Value → VW → Prop) (In : Int) (n n' : Nat) (f : Nat → List Value) (m m' : Nat) (g : Nat → List Value) (D : Int) (B : Bool) : Prop where
  to : K (.tuple ⟨[]⟩) [rd0 In 3 4 n m D B, .dead, .dead, .vec 5 1 n' f, .vec 9 1 m' g]
def oneR (K : Value → VW → Prop) (S : VSt) : Prop :=
  match S.tmps, S.V with
  | [.tuple ⟨[]⟩], [.cells 43 [.int .i64 In, .slice (some ⟨3, 2, some 0⟩) n 0, .slice (some ⟨4, 2, some 0⟩) m 0, .int .i64 D, .bool B], .dead, .dead, .vec 5 1 n' f, .vec 9 1 m' g] => RK K In n n' f m m' g D B
  | _, _ => False
theorem oneR_one {K : Value → VW → Prop} {S : VSt} (h : oneR K S) : one1 K S := by
  unfold oneR at h
  split at h
  · rename_i h1 h2
    unfold one1
    rw [h1, h2]
    exact h.to
  · exact h.elim
theorem rk {K : Value → VW → Prop} {σ : RS} (hE : REnd K σ) {In : Int} {n n' : Nat} {f : Nat → List Value} {m m' : Nat} {g : Nat → List Value} {D : Int} {B : Bool} (h : RAt σ In n n' f m m' g D B) : RK K In n n' f m m' g D B := by
  obtain rfl : n = n' := h.hn.trans h.hn'.symm
  obtain rfl : m = m' := h.hm.trans h.hm'.symm
  exact ⟨hE.to _ _ _ _ _ _ _ h⟩

def rdSel (v : Value) (V : VW) : List Sel :=
  match V with
  | .cells _ [_, a, b, _, _] :: _ => [.keep 0, .drop 1, .drop 2, selS 5 1 V a, selS 9 1 V b]
  | _ => []
def rdNc : List (Nat × Nat × Nat) := [(0, 1, 3), (0, 2, 4)]

/-- such a contract, by a run over a reader -/
theorem rdOK {f : FuncId} {α : Type} {A : α → Value} {step : RS → α → RS} (hc : Callable Tryd.prog f)
    (h : ∀ (a : α) (g : Nat → List Value) (g' : Nat → List Value) (σ : RS) (K : Value → VW → Prop), σ.W.length < 4294967296 → σ.Ws.length < 4294967296 → RowB g σ.W → RowS g' σ.Ws → REnd K (step σ a) →
      CallDoes Tryd.prog f [.pointer (some ⟨0, 0, none⟩), A a] [rd0 σ.In 1 2 σ.W.length σ.Ws.length σ.D σ.B, .vec 5 1 σ.W.length g, .vec 9 1 σ.Ws.length g'] fun v V' => reshape 3 (rdSel v V') [0] [] rdNc ⟨[v], V'⟩ (oneR K)) :
    CallOK Tryd.prog f (rdT A step) := by
  refine ⟨hc, fun args V K hT => ?_⟩
  unfold rdT at hT
  split at hT
  · obtain ⟨⟨a, σ, rfl, ⟨h1, h2⟩, hA⟩, hE⟩ := hT
    have hE' : REnd K (step σ a) := ⟨fun In2 n2 f2 m2 g2 D2 B2 h => hE In2 n2 f2 m2 g2 D2 B2 ⟨a, σ, rfl, hA, h⟩⟩
    obtain ⟨rfl, rfl, rfl, hf, rfl, rfl, hg, rfl, rfl⟩ := hA
    refine CallDoes.reshape rdSel [] rdNc ?_
    intro env w hW hsc
    refine (h _ _ _ σ K h1 h2 hf hg hE' env w hW hsc).mono ?_
    rintro e w' ⟨u, env', V', v, h1, h2, h3, h4, h5⟩
    exact ⟨u, env', V', v, h1, h2, h3, h4, reshape_mono (fun S => oneR_one) h5⟩
  · exact hT.elim

theorem RowB.app {f : Nat → List Value} {l : List UInt8} (h : RowB f l) {c : Int} {b : UInt8} (hc : c = (b.toNat : Int)) : RowB (joinF l.length f fun j => nth [] [[.int .u8 c]] (0 + j)) (l ++ [b]) := by
  intro j b' hj
  rw [List.getElem?_append] at hj
  unfold joinF
  split at hj
  · rw [if_pos ‹_›]; exact h j b' hj
  · rename_i hlt
    rw [if_neg hlt]
    have h0 : j - l.length = 0 := by
      rcases Nat.eq_zero_or_pos (j - l.length) with h0 | h0
      · exact h0
      · rw [List.getElem?_eq_none (by simp; omega)] at hj; cases hj
    rw [h0] at hj ⊢
    simp at hj
    subst hj
    rw [hc]
    rfl

theorem RowS.app {f : Nat → List Value} {l : List ByteArray} (h : RowS f l) {c b : ByteArray} (hc : c = b) : RowS (joinF l.length f fun j => nth [] [[.string c]] (0 + j)) (l ++ [b]) := by
  intro j b' hj
  rw [List.getElem?_append] at hj
  unfold joinF
  split at hj
  · rw [if_pos ‹_›]; exact h j b' hj
  · rename_i hlt
    rw [if_neg hlt]
    have h0 : j - l.length = 0 := by
      rcases Nat.eq_zero_or_pos (j - l.length) with h0 | h0
      · exact h0
      · rw [List.getElem?_eq_none (by simp; omega)] at hj; cases hj
    rw [h0] at hj ⊢
    simp at hj
    subst hj
    rw [hc]
    rfl

theorem RowB.bytes {f : Nat → List Value} {l : List UInt8} (h : RowB f l) : areBytes f 0 l.length :=
  ⟨fun j hj => ⟨l[j], by rw [Nat.zero_add]; exact h j _ (by simp [hj])⟩⟩

theorem RowB.str {f : Nat → List Value} {l : List UInt8} (h : RowB f l) : strOf f 0 l.length = ⟨l.toArray⟩ := by
  unfold strOf
  congr 1
  congr 1
  apply List.ext_getElem?
  intro j
  by_cases hj : j < l.length
  · have := h j l[j] (by simp [hj])
    rw [List.getElem?_map, List.getElem?_range hj]
    simp [this, X.byteOf, hj]
  · rw [List.getElem?_eq_none (by simpa using hj), List.getElem?_eq_none (by simpa using hj)]

theorem RowB.nil (f : Nat → List Value) : RowB f [] := fun j b h => by simp at h
theorem RowS.nil (f : Nat → List Value) : RowS f [] := fun j b h => by simp at h

theorem RAt.same {In : Int} {W : List UInt8} {Ws : List ByteArray} {D : Int} {B : Bool} {g g' : Nat → List Value} (hf : RowB g W) (hg : RowS g' Ws) : RAt ⟨In, W, Ws, D, B⟩ In W.length W.length g Ws.length Ws.length g' D B :=
  ⟨rfl, rfl, rfl, hf, rfl, rfl, hg, rfl, rfl⟩
theorem RAt.appW {In : Int} {W : List UInt8} {Ws : List ByteArray} {D : Int} {B : Bool} {g g' : Nat → List Value} (hf : RowB g W) (hg : RowS g' Ws) {c : Int} {b : UInt8} (hc : c = (b.toNat : Int)) :
    RAt ⟨In, W ++ [b], Ws, D, B⟩ In (W.length + 1) (W.length + 1) (joinF W.length g fun j => nth [] [[.int .u8 c]] (0 + j)) Ws.length Ws.length g' D B :=
  ⟨rfl, by simp, by simp, hf.app hc, rfl, rfl, hg, rfl, rfl⟩
theorem RAt.ends {In : Int} {W : List UInt8} {Ws : List ByteArray} {D : Int} {B : Bool} {g g' : Nat → List Value} (hf : RowB g W) (hg : RowS g' Ws) :
    RAt ⟨In, [], Ws ++ [⟨W.toArray⟩], D, B⟩ In 0 0 (fun _ => []) (Ws.length + 1) (Ws.length + 1) (joinF Ws.length g' fun j => nth [] [[.string (strOf g 0 W.length)]] (0 + j)) D B :=
  ⟨rfl, rfl, rfl, .nil _, by simp, by simp, hg.app hf.str, rfl, rfl⟩

theorem cb (c : UInt8) (n : Nat) (h : n < 256) : ((c.toNat : Int) == (n : Int)) = decide (c = UInt8.ofNat n) := by
  rw [Bool.eq_iff_iff]
  simp only [beq_iff_eq, decide_eq_true_eq]
  constructor
  · intro h1
    apply UInt8.toNat_inj.1
    rw [UInt8.toNat_ofNat_of_lt' (by show n < 256; exact h)]
    omega
  · rintro rfl
    rw [UInt8.toNat_ofNat_of_lt' (by show n < 256; exact h)]
theorem e9 (c : UInt8) : ((c.toNat : Int) == (9 : Int)) = decide (c = 9) := cb c 9 (by decide)
theorem e32 (c : UInt8) : ((c.toNat : Int) == (32 : Int)) = decide (c = 32) := cb c 32 (by decide)
theorem e34 (c : UInt8) : ((c.toNat : Int) == (34 : Int)) = decide (c = 34) := cb c 34 (by decide)
theorem e35 (c : UInt8) : ((c.toNat : Int) == (35 : Int)) = decide (c = 35) := cb c 35 (by decide)
theorem e92 (c : UInt8) : ((c.toNat : Int) == (92 : Int)) = decide (c = 92) := cb c 92 (by decide)
theorem e110 (c : UInt8) : ((c.toNat : Int) == (110 : Int)) = decide (c = 110) := cb c 110 (by decide)
theorem e116 (c : UInt8) : ((c.toNat : Int) == (116 : Int)) = decide (c = 116) := cb c 116 (by decide)
theorem e120 (c : UInt8) : ((c.toNat : Int) == (120 : Int)) = decide (c = 120) := cb c 120 (by decide)
theorem bsplit_t (A B : Prop) : bsplit true A B = A := rfl
theorem bsplit_f (A B : Prop) : bsplit false A B = B := rfl

def aI (x : Int) : Value := .int .i64 x
def aB (b : UInt8) : Value := .int .u8 (b.toNat : Int)

def stepEnds (σ : RS) (x : Int) : RS := ⟨x, [], σ.Ws ++ [⟨σ.W.toArray⟩], σ.D, σ.B⟩

theorem ends_ok : CallOK Tryd.prog 16 (rdT aI stepEnds) := by
  refine rdOK (callable Tryd.func16 rfl (by decide +kernel)) fun x g g' σ K hW hWs hf hg hE => ?_
  refine of_run (ctxG_ok (bs := []) .nil .nil) (n := 200) Tryd.func16 rfl .g ?_
  refine by_nf (B := (σ.W.length = σ.W.length ∧
    areBytes g (0 : Nat) σ.W.length) ∧
    ((1 : Nat) ≤ (1 : Nat) ∧
    σ.Ws.length = σ.Ws.length ∧
    Nat.succ (0 : Nat) ≤ (1 : Nat) ∧
    fitsN (σ.Ws.length + (1 : Nat)) (16 : Nat)) ∧
    Nat.succ (0 : Nat) ≤ σ.Ws.length + (1 : Nat) ∧
    RK K x (0 : Nat) (0 : Nat) (fun x => []) (σ.Ws.length + (1 : Nat)) (σ.Ws.length + (1 : Nat)) (joinF σ.Ws.length g' fun j => nth [] [[Value.string (strOf g (0 : Nat) σ.W.length)]] ((0 : Nat) + j)) σ.D σ.B) (by kernel_rfl) ?_
  refine ⟨⟨rfl, hf.bytes⟩, ⟨by omega, rfl, by omega, ⟨by omega, by omega⟩⟩, by omega, rk hE (.ends hf hg)⟩

def hexI (x : Int) : Int := if 48 ≤ x ∧ x ≤ 57 then x - 48 else if 97 ≤ x ∧ x ≤ 102 then x - 87 else -1

theorem u8w (n : Int) (h : 0 ≤ n ∧ n ≤ 255) : IntKind.u8.wrap n = n := by
  have : IntKind.u8.wrap n = n % 256 := by simp [IntKind.wrap, IntKind.bits, IntKind.signed]
  rw [this]; omega

theorem hex_ok : FnOK Tryd.prog 22 (g1 (dInt .u8) fun x => .int .i64 (hexI x)) := by
  refine FnOK.g1 (callable Tryd.func22 rfl (by decide +kernel)) _ _ (fun _ => rfl) fun x => ?_
  refine of_run (ctxG_ok (bs := []) .nil .nil) (n := 200) Tryd.func22 rfl .g ?_
  refine by_nf (B := bsplit (decide (x ≥ (48 : Int)))
    (bsplit (decide (x ≤ (57 : Int))) (Value.int IntKind.i64 (IntKind.i64.wrap (IntKind.u8.wrap (x - (48 : Int)))) = Value.int IntKind.i64 (hexI x))
    (bsplit (decide (x ≥ (97 : Int)))
    (bsplit (decide (x ≤ (102 : Int))) (Value.int IntKind.i64 (IntKind.i64.wrap (IntKind.i64.wrap (IntKind.u8.wrap (x - (97 : Int))) + (10 : Int))) = Value.int IntKind.i64 (hexI x)) (Value.int IntKind.i64 (-1 : Int) = Value.int IntKind.i64 (hexI x))) (Value.int IntKind.i64 (-1 : Int) = Value.int IntKind.i64 (hexI x))))
    (bsplit (decide (x ≥ (97 : Int)))
    (bsplit (decide (x ≤ (102 : Int))) (Value.int IntKind.i64 (IntKind.i64.wrap (IntKind.i64.wrap (IntKind.u8.wrap (x - (97 : Int))) + (10 : Int))) = Value.int IntKind.i64 (hexI x)) (Value.int IntKind.i64 (-1 : Int) = Value.int IntKind.i64 (hexI x))) (Value.int IntKind.i64 (-1 : Int) = Value.int IntKind.i64 (hexI x)))) (by kernel_rfl) ?_
  simp only [bsplit_iff, decide_eq_true_eq, decide_eq_false_iff_not, Value.int.injEq, true_and, hexI]
  refine ⟨fun h1 => ⟨fun h2 => ?_, fun h2 => ⟨fun h3 => ⟨fun h4 => ?_, fun h4 => ?_⟩, fun h3 => ?_⟩⟩, fun h1 => ⟨fun h3 => ⟨fun h4 => ?_, fun h4 => ?_⟩, fun h3 => ?_⟩⟩
  · rw [u8w _ (by omega), w64 _ (by omega), if_pos (by omega)]
  · rw [u8w _ (by omega), w64 (x - 97) (by omega), w64 _ (by omega), if_neg (by omega), if_pos (by omega)]; omega
  · rw [if_neg (by omega), if_neg (by omega)]
  · rw [if_neg (by omega), if_neg (by omega)]
  · omega
  · omega
  · rw [if_neg (by omega), if_neg (by omega)]

def stepEsc (σ : RS) (c : UInt8) : RS :=
  if c = 92 ∨ c = 34 then ⟨2, σ.W ++ [c], σ.Ws, σ.D, σ.B⟩
  else if c = 110 then ⟨2, σ.W ++ [10], σ.Ws, σ.D, σ.B⟩
  else if c = 116 then ⟨2, σ.W ++ [9], σ.Ws, σ.D, σ.B⟩
  else if c = 120 then ⟨4, σ.W, σ.Ws, σ.D, σ.B⟩
  else ⟨2, σ.W, σ.Ws, σ.D, true⟩

theorem escaped_ok : CallOK Tryd.prog 21 (rdT aB stepEsc) := by
  refine rdOK (callable Tryd.func21 rfl (by decide +kernel)) fun c g g' σ K hW hWs hf hg hE => ?_
  refine of_run (ctxG_ok (bs := []) .nil .nil) (n := 200) Tryd.func21 rfl .g ?_
  refine by_nf (B := bsplit ((↑c.toNat : Int) == (92 : Int))
    (bsplit ((↑c.toNat : Int) == (92 : Int)) (((1 : Nat) ≤ (1 : Nat) ∧
    σ.W.length = σ.W.length ∧
    Nat.succ (0 : Nat) ≤ (1 : Nat) ∧
    fitsN (σ.W.length + (1 : Nat)) (1 : Nat)) ∧
    Nat.succ (0 : Nat) ≤ σ.W.length + (1 : Nat) ∧
    RK K (2 : Int) (σ.W.length + (1 : Nat)) (σ.W.length + (1 : Nat)) (joinF σ.W.length g fun j => nth [] [[Value.int IntKind.u8 (↑c.toNat : Int)]] ((0 : Nat) + j)) σ.Ws.length σ.Ws.length g' σ.D σ.B)
    (bsplit ((↑c.toNat : Int) == (110 : Int)) (((1 : Nat) ≤ (1 : Nat) ∧
    σ.W.length = σ.W.length ∧
    Nat.succ (0 : Nat) ≤ (1 : Nat) ∧
    fitsN (σ.W.length + (1 : Nat)) (1 : Nat)) ∧
    Nat.succ (0 : Nat) ≤ σ.W.length + (1 : Nat) ∧
    RK K (2 : Int) (σ.W.length + (1 : Nat)) (σ.W.length + (1 : Nat)) (joinF σ.W.length g fun j => nth [] [[Value.int IntKind.u8 (10 : Int)]] ((0 : Nat) + j)) σ.Ws.length σ.Ws.length g' σ.D σ.B)
    (bsplit ((↑c.toNat : Int) == (116 : Int)) (((1 : Nat) ≤ (1 : Nat) ∧
    σ.W.length = σ.W.length ∧
    Nat.succ (0 : Nat) ≤ (1 : Nat) ∧
    fitsN (σ.W.length + (1 : Nat)) (1 : Nat)) ∧
    Nat.succ (0 : Nat) ≤ σ.W.length + (1 : Nat) ∧
    RK K (2 : Int) (σ.W.length + (1 : Nat)) (σ.W.length + (1 : Nat)) (joinF σ.W.length g fun j => nth [] [[Value.int IntKind.u8 (9 : Int)]] ((0 : Nat) + j)) σ.Ws.length σ.Ws.length g' σ.D σ.B)
    (bsplit ((↑c.toNat : Int) == (120 : Int)) (RK K (4 : Int) σ.W.length σ.W.length g σ.Ws.length σ.Ws.length g' σ.D σ.B) (RK K (2 : Int) σ.W.length σ.W.length g σ.Ws.length σ.Ws.length g' σ.D true)))))
    (bsplit ((↑c.toNat : Int) == (34 : Int)) (((1 : Nat) ≤ (1 : Nat) ∧
    σ.W.length = σ.W.length ∧
    Nat.succ (0 : Nat) ≤ (1 : Nat) ∧
    fitsN (σ.W.length + (1 : Nat)) (1 : Nat)) ∧
    Nat.succ (0 : Nat) ≤ σ.W.length + (1 : Nat) ∧
    RK K (2 : Int) (σ.W.length + (1 : Nat)) (σ.W.length + (1 : Nat)) (joinF σ.W.length g fun j => nth [] [[Value.int IntKind.u8 (↑c.toNat : Int)]] ((0 : Nat) + j)) σ.Ws.length σ.Ws.length g' σ.D σ.B)
    (bsplit ((↑c.toNat : Int) == (110 : Int)) (((1 : Nat) ≤ (1 : Nat) ∧
    σ.W.length = σ.W.length ∧
    Nat.succ (0 : Nat) ≤ (1 : Nat) ∧
    fitsN (σ.W.length + (1 : Nat)) (1 : Nat)) ∧
    Nat.succ (0 : Nat) ≤ σ.W.length + (1 : Nat) ∧
    RK K (2 : Int) (σ.W.length + (1 : Nat)) (σ.W.length + (1 : Nat)) (joinF σ.W.length g fun j => nth [] [[Value.int IntKind.u8 (10 : Int)]] ((0 : Nat) + j)) σ.Ws.length σ.Ws.length g' σ.D σ.B)
    (bsplit ((↑c.toNat : Int) == (116 : Int)) (((1 : Nat) ≤ (1 : Nat) ∧
    σ.W.length = σ.W.length ∧
    Nat.succ (0 : Nat) ≤ (1 : Nat) ∧
    fitsN (σ.W.length + (1 : Nat)) (1 : Nat)) ∧
    Nat.succ (0 : Nat) ≤ σ.W.length + (1 : Nat) ∧
    RK K (2 : Int) (σ.W.length + (1 : Nat)) (σ.W.length + (1 : Nat)) (joinF σ.W.length g fun j => nth [] [[Value.int IntKind.u8 (9 : Int)]] ((0 : Nat) + j)) σ.Ws.length σ.Ws.length g' σ.D σ.B)
    (bsplit ((↑c.toNat : Int) == (120 : Int)) (RK K (4 : Int) σ.W.length σ.W.length g σ.Ws.length σ.Ws.length g' σ.D σ.B) (RK K (2 : Int) σ.W.length σ.W.length g σ.Ws.length σ.Ws.length g' σ.D true)))))) (by kernel_rfl) ?_
  have ap : ∀ {b : UInt8} {c : Int}, c = (b.toNat : Int) → REnd K ⟨2, σ.W ++ [b], σ.Ws, σ.D, σ.B⟩ → RK K 2 (σ.W.length + 1) (σ.W.length + 1) (joinF σ.W.length g fun j => nth [] [[.int .u8 c]] (0 + j)) σ.Ws.length σ.Ws.length g' σ.D σ.B :=
    fun hc hE => rk hE (.appW hf hg hc)
  have hfit : fitsN (σ.W.length + 1) 1 := ⟨by omega, by omega⟩
  simp only [e92, e34, e110, e116, e120, Nat.le_refl, true_and]
  by_cases h92 : c = 92
  · subst h92
    simp only [decide_true, bsplit_t]
    exact ⟨hfit, by omega, ap rfl hE⟩
  by_cases h34 : c = 34
  · subst h34
    simp only [h92, decide_true, decide_false, bsplit_t, bsplit_f]
    exact ⟨hfit, by omega, ap rfl hE⟩
  by_cases h110 : c = 110
  · subst h110
    simp only [h92, h34, decide_true, decide_false, bsplit_t, bsplit_f]
    exact ⟨hfit, by omega, ap rfl hE⟩
  by_cases h116 : c = 116
  · subst h116
    simp only [h92, h34, h110, decide_true, decide_false, bsplit_t, bsplit_f]
    exact ⟨hfit, by omega, ap rfl hE⟩
  by_cases h120 : c = 120
  · subst h120
    simp only [h92, h34, h110, h116, decide_true, decide_false, bsplit_t, bsplit_f]
    exact rk hE (.same hf hg)
  · simp only [h92, h34, h110, h116, h120, decide_true, decide_false, bsplit_t, bsplit_f]
    simp only [stepEsc, h92, h34, h110, h116, h120, or_self, if_false] at hE
    exact rk hE (.same hf hg)

def byteI (v : Int) : UInt8 := UInt8.ofNat (v % 256).toNat

theorem byteI_nat (v : Int) : ((byteI v).toNat : Int) = v % 256 := by
  have h0 : 0 ≤ v % 256 := by omega
  have h1 : v % 256 < 256 := by omega
  unfold byteI
  rw [UInt8.toNat_ofNat_of_lt' (by show (v % 256).toNat < 256; omega)]
  omega

theorem wrap_byte (v : Int) : IntKind.u8.wrap (IntKind.i64.wrap v) = v % 256 := by
  have h1 : ∀ n, IntKind.u8.wrap n = n % 256 := fun n => by simp [IntKind.wrap, IntKind.bits, IntKind.signed]
  rw [h1, IntKind.wrap_i64]
  omega

theorem i64_mod (v d : Int) : (IntKind.i64.wrap v + d) % 256 = (v + d) % 256 := by
  rw [IntKind.wrap_i64]
  omega

def stepNext (σ : RS) (c : UInt8) : RS :=
  if σ.In = 0 then
    if c = 32 ∨ c = 9 then σ
    else if c = 35 then ⟨7, σ.W, σ.Ws, σ.D, σ.B⟩ else if c = 34 then ⟨2, σ.W, σ.Ws, σ.D, σ.B⟩ else ⟨1, σ.W ++ [c], σ.Ws, σ.D, σ.B⟩
  else if σ.In = 1 then
    if c = 32 ∨ c = 9 then stepEnds σ 0 else if c = 34 then ⟨σ.In, σ.W, σ.Ws, σ.D, true⟩ else ⟨σ.In, σ.W ++ [c], σ.Ws, σ.D, σ.B⟩
  else if σ.In = 2 then
    if c = 34 then stepEnds σ 6 else if c = 92 then ⟨3, σ.W, σ.Ws, σ.D, σ.B⟩ else ⟨σ.In, σ.W ++ [c], σ.Ws, σ.D, σ.B⟩
  else if σ.In = 3 then stepEsc σ c
  else if σ.In = 4 then ⟨5, σ.W, σ.Ws, hexI c.toNat, σ.B || decide (hexI c.toNat < 0)⟩
  else if σ.In = 5 then ⟨2, if σ.B = false ∧ ¬ hexI c.toNat < 0 then σ.W ++ [byteI (16 * σ.D + hexI c.toNat)] else σ.W, σ.Ws, σ.D, σ.B || decide (hexI c.toNat < 0)⟩
  else if σ.In = 6 then ⟨0, σ.W, σ.Ws, σ.D, σ.B || !decide (c = 32 ∨ c = 9)⟩
  else σ

theorem callL {α : Type} {A : α → Value} {step : RS → α → RS} (hinj : ∀ a b, A a = A b → a = b) {σ : RS} {K : Value → VW → Prop} {g g' : Nat → List Value} (a : α) (hW : σ.W.length < 4294967296) (hWs : σ.Ws.length < 4294967296) (hf : RowB g σ.W) (hg : RowS g' σ.Ws)
    (hE : REnd K (step σ a)) : RPre A (A a) σ.In σ.W.length σ.W.length g σ.Ws.length σ.Ws.length g' σ.D σ.B ∧
    ∀ In2 n2 f2 m2 g2 D2 B2, RStep A step (A a) σ.In σ.W.length σ.W.length g σ.Ws.length σ.Ws.length g' σ.D σ.B In2 n2 f2 m2 g2 D2 B2 → RK K In2 n2 n2 f2 m2 m2 g2 D2 B2 :=
  ⟨⟨a, σ, rfl, ⟨hW, hWs⟩, RAt.same hf hg⟩, fun In2 n2 f2 m2 g2 D2 B2 ⟨a', σ', ha, h1, h2⟩ => by
    have := hinj _ _ ha
    subst this
    have := RAt.uniq (RAt.same hf hg) h1
    subst this
    exact rk hE h2⟩
theorem aI_inj (a b : Int) (h : aI a = aI b) : a = b := by simpa [aI] using h
theorem aB_inj (a b : UInt8) (h : aB a = aB b) : a = b := by
  simp only [aB, Value.int.injEq, true_and] at h
  exact UInt8.toNat_inj.1 (by omega)

theorem q9_32 : ((9 : UInt8) = 32) = False := by simp
theorem q9_34 : ((9 : UInt8) = 34) = False := by simp
theorem q9_35 : ((9 : UInt8) = 35) = False := by simp
theorem q9_92 : ((9 : UInt8) = 92) = False := by simp
theorem q32_9 : ((32 : UInt8) = 9) = False := by simp
theorem q32_34 : ((32 : UInt8) = 34) = False := by simp
theorem q32_35 : ((32 : UInt8) = 35) = False := by simp
theorem q32_92 : ((32 : UInt8) = 92) = False := by simp
theorem q34_9 : ((34 : UInt8) = 9) = False := by simp
theorem q34_32 : ((34 : UInt8) = 32) = False := by simp
theorem q34_35 : ((34 : UInt8) = 35) = False := by simp
theorem q34_92 : ((34 : UInt8) = 92) = False := by simp
theorem q35_9 : ((35 : UInt8) = 9) = False := by simp
theorem q35_32 : ((35 : UInt8) = 32) = False := by simp
theorem q35_34 : ((35 : UInt8) = 34) = False := by simp
theorem q35_92 : ((35 : UInt8) = 92) = False := by simp
theorem q92_9 : ((92 : UInt8) = 9) = False := by simp
theorem q92_32 : ((92 : UInt8) = 32) = False := by simp
theorem q92_34 : ((92 : UInt8) = 34) = False := by simp
theorem q92_35 : ((92 : UInt8) = 35) = False := by simp

theorem next_ok : CallOK Tryd.prog 15 (rdT aB stepNext) := by
  refine rdOK (callable Tryd.func15 rfl (by decide +kernel)) fun c g g' σ K hW hWs hf hg hE => ?_
  refine of_run (ctxG_ok (bs := []) (.cons hex_ok .nil) (.cons ends_ok (.cons escaped_ok .nil))) (n := 200) Tryd.func15 rfl .g ?_
  refine by_nf (B := bsplit ((↑c.toNat : Int) == (32 : Int))
    (bsplit (σ.In == (0 : Int)) (RK K σ.In σ.W.length σ.W.length g σ.Ws.length σ.Ws.length g' σ.D σ.B)
    (bsplit (σ.In == (1 : Int)) (RPre aI (Value.int IntKind.i64 (0 : Int)) σ.In σ.W.length σ.W.length g σ.Ws.length σ.Ws.length g' σ.D σ.B ∧
    ∀ (In2 : Int) (n2 : Nat) (f2 : Nat → List Value) (m2 : Nat) (g2 : Nat → List Value) (D2 : Int) (B2 : Bool), RStep aI stepEnds (Value.int IntKind.i64 (0 : Int)) σ.In σ.W.length σ.W.length g σ.Ws.length σ.Ws.length g' σ.D σ.B In2 n2 f2 m2 g2 D2 B2 → RK K In2 n2 n2 f2 m2 m2 g2 D2 B2)
    (bsplit (σ.In == (2 : Int))
    (bsplit ((↑c.toNat : Int) == (34 : Int)) (RPre aI (Value.int IntKind.i64 (6 : Int)) σ.In σ.W.length σ.W.length g σ.Ws.length σ.Ws.length g' σ.D σ.B ∧
    ∀ (In2 : Int) (n2 : Nat) (f2 : Nat → List Value) (m2 : Nat) (g2 : Nat → List Value) (D2 : Int) (B2 : Bool), RStep aI stepEnds (Value.int IntKind.i64 (6 : Int)) σ.In σ.W.length σ.W.length g σ.Ws.length σ.Ws.length g' σ.D σ.B In2 n2 f2 m2 g2 D2 B2 → RK K In2 n2 n2 f2 m2 m2 g2 D2 B2)
    (bsplit ((↑c.toNat : Int) == (92 : Int)) (RK K (3 : Int) σ.W.length σ.W.length g σ.Ws.length σ.Ws.length g' σ.D σ.B) (((1 : Nat) ≤ (1 : Nat) ∧
    σ.W.length = σ.W.length ∧
    Nat.succ (0 : Nat) ≤ (1 : Nat) ∧
    fitsN (σ.W.length + (1 : Nat)) (1 : Nat)) ∧
    Nat.succ (0 : Nat) ≤ σ.W.length + (1 : Nat) ∧
    RK K σ.In (σ.W.length + (1 : Nat)) (σ.W.length + (1 : Nat)) (joinF σ.W.length g fun j => nth [] [[Value.int IntKind.u8 (↑c.toNat : Int)]] ((0 : Nat) + j)) σ.Ws.length σ.Ws.length g' σ.D σ.B)))
    (bsplit (σ.In == (3 : Int)) (RPre aB (Value.int IntKind.u8 (↑c.toNat : Int)) σ.In σ.W.length σ.W.length g σ.Ws.length σ.Ws.length g' σ.D σ.B ∧
    ∀ (In2 : Int) (n2 : Nat) (f2 : Nat → List Value) (m2 : Nat) (g2 : Nat → List Value) (D2 : Int) (B2 : Bool), RStep aB stepEsc (Value.int IntKind.u8 (↑c.toNat : Int)) σ.In σ.W.length σ.W.length g σ.Ws.length σ.Ws.length g' σ.D σ.B In2 n2 f2 m2 g2 D2 B2 → RK K In2 n2 n2 f2 m2 m2 g2 D2 B2)
    (bsplit (σ.In == (4 : Int))
    (bsplit σ.B (RK K (5 : Int) σ.W.length σ.W.length g σ.Ws.length σ.Ws.length g' (hexI (↑c.toNat : Int)) true) (RK K (5 : Int) σ.W.length σ.W.length g σ.Ws.length σ.Ws.length g' (hexI (↑c.toNat : Int)) (decide (hexI (↑c.toNat : Int) < (0 : Int)))))
    (bsplit (σ.In == (5 : Int))
    (bsplit σ.B (RK K (2 : Int) σ.W.length σ.W.length g σ.Ws.length σ.Ws.length g' σ.D true)
    (bsplit (!decide (hexI (↑c.toNat : Int) < (0 : Int))) (((1 : Nat) ≤ (1 : Nat) ∧
    σ.W.length = σ.W.length ∧
    Nat.succ (0 : Nat) ≤ (1 : Nat) ∧
    fitsN (σ.W.length + (1 : Nat)) (1 : Nat)) ∧
    Nat.succ (0 : Nat) ≤ σ.W.length + (1 : Nat) ∧
    RK K (2 : Int) (σ.W.length + (1 : Nat)) (σ.W.length + (1 : Nat)) (joinF σ.W.length g fun j => nth [] [[Value.int IntKind.u8 (IntKind.u8.wrap (IntKind.i64.wrap (IntKind.i64.wrap ((16 : Int) * σ.D) + hexI (↑c.toNat : Int))))]] ((0 : Nat) + j)) σ.Ws.length σ.Ws.length g' σ.D (decide (hexI (↑c.toNat : Int) < (0 : Int)))) (RK K (2 : Int) σ.W.length σ.W.length g σ.Ws.length σ.Ws.length g' σ.D (decide (hexI (↑c.toNat : Int) < (0 : Int))))))
    (bsplit (σ.In == (6 : Int))
    (bsplit σ.B (RK K (0 : Int) σ.W.length σ.W.length g σ.Ws.length σ.Ws.length g' σ.D true) (RK K (0 : Int) σ.W.length σ.W.length g σ.Ws.length σ.Ws.length g' σ.D false)) (RK K σ.In σ.W.length σ.W.length g σ.Ws.length σ.Ws.length g' σ.D σ.B))))))))
    (bsplit (σ.In == (0 : Int))
    (bsplit ((↑c.toNat : Int) == (9 : Int)) (RK K σ.In σ.W.length σ.W.length g σ.Ws.length σ.Ws.length g' σ.D σ.B)
    (bsplit ((↑c.toNat : Int) == (35 : Int)) (RK K (7 : Int) σ.W.length σ.W.length g σ.Ws.length σ.Ws.length g' σ.D σ.B)
    (bsplit ((↑c.toNat : Int) == (34 : Int)) (RK K (2 : Int) σ.W.length σ.W.length g σ.Ws.length σ.Ws.length g' σ.D σ.B) (((1 : Nat) ≤ (1 : Nat) ∧
    σ.W.length = σ.W.length ∧
    Nat.succ (0 : Nat) ≤ (1 : Nat) ∧
    fitsN (σ.W.length + (1 : Nat)) (1 : Nat)) ∧
    Nat.succ (0 : Nat) ≤ σ.W.length + (1 : Nat) ∧
    RK K (1 : Int) (σ.W.length + (1 : Nat)) (σ.W.length + (1 : Nat)) (joinF σ.W.length g fun j => nth [] [[Value.int IntKind.u8 (↑c.toNat : Int)]] ((0 : Nat) + j)) σ.Ws.length σ.Ws.length g' σ.D σ.B))))
    (bsplit (σ.In == (1 : Int))
    (bsplit ((↑c.toNat : Int) == (9 : Int)) (RPre aI (Value.int IntKind.i64 (0 : Int)) σ.In σ.W.length σ.W.length g σ.Ws.length σ.Ws.length g' σ.D σ.B ∧
    ∀ (In2 : Int) (n2 : Nat) (f2 : Nat → List Value) (m2 : Nat) (g2 : Nat → List Value) (D2 : Int) (B2 : Bool), RStep aI stepEnds (Value.int IntKind.i64 (0 : Int)) σ.In σ.W.length σ.W.length g σ.Ws.length σ.Ws.length g' σ.D σ.B In2 n2 f2 m2 g2 D2 B2 → RK K In2 n2 n2 f2 m2 m2 g2 D2 B2)
    (bsplit ((↑c.toNat : Int) == (34 : Int)) (RK K σ.In σ.W.length σ.W.length g σ.Ws.length σ.Ws.length g' σ.D true) (((1 : Nat) ≤ (1 : Nat) ∧
    σ.W.length = σ.W.length ∧
    Nat.succ (0 : Nat) ≤ (1 : Nat) ∧
    fitsN (σ.W.length + (1 : Nat)) (1 : Nat)) ∧
    Nat.succ (0 : Nat) ≤ σ.W.length + (1 : Nat) ∧
    RK K σ.In (σ.W.length + (1 : Nat)) (σ.W.length + (1 : Nat)) (joinF σ.W.length g fun j => nth [] [[Value.int IntKind.u8 (↑c.toNat : Int)]] ((0 : Nat) + j)) σ.Ws.length σ.Ws.length g' σ.D σ.B)))
    (bsplit (σ.In == (2 : Int))
    (bsplit ((↑c.toNat : Int) == (34 : Int)) (RPre aI (Value.int IntKind.i64 (6 : Int)) σ.In σ.W.length σ.W.length g σ.Ws.length σ.Ws.length g' σ.D σ.B ∧
    ∀ (In2 : Int) (n2 : Nat) (f2 : Nat → List Value) (m2 : Nat) (g2 : Nat → List Value) (D2 : Int) (B2 : Bool), RStep aI stepEnds (Value.int IntKind.i64 (6 : Int)) σ.In σ.W.length σ.W.length g σ.Ws.length σ.Ws.length g' σ.D σ.B In2 n2 f2 m2 g2 D2 B2 → RK K In2 n2 n2 f2 m2 m2 g2 D2 B2)
    (bsplit ((↑c.toNat : Int) == (92 : Int)) (RK K (3 : Int) σ.W.length σ.W.length g σ.Ws.length σ.Ws.length g' σ.D σ.B) (((1 : Nat) ≤ (1 : Nat) ∧
    σ.W.length = σ.W.length ∧
    Nat.succ (0 : Nat) ≤ (1 : Nat) ∧
    fitsN (σ.W.length + (1 : Nat)) (1 : Nat)) ∧
    Nat.succ (0 : Nat) ≤ σ.W.length + (1 : Nat) ∧
    RK K σ.In (σ.W.length + (1 : Nat)) (σ.W.length + (1 : Nat)) (joinF σ.W.length g fun j => nth [] [[Value.int IntKind.u8 (↑c.toNat : Int)]] ((0 : Nat) + j)) σ.Ws.length σ.Ws.length g' σ.D σ.B)))
    (bsplit (σ.In == (3 : Int)) (RPre aB (Value.int IntKind.u8 (↑c.toNat : Int)) σ.In σ.W.length σ.W.length g σ.Ws.length σ.Ws.length g' σ.D σ.B ∧
    ∀ (In2 : Int) (n2 : Nat) (f2 : Nat → List Value) (m2 : Nat) (g2 : Nat → List Value) (D2 : Int) (B2 : Bool), RStep aB stepEsc (Value.int IntKind.u8 (↑c.toNat : Int)) σ.In σ.W.length σ.W.length g σ.Ws.length σ.Ws.length g' σ.D σ.B In2 n2 f2 m2 g2 D2 B2 → RK K In2 n2 n2 f2 m2 m2 g2 D2 B2)
    (bsplit (σ.In == (4 : Int))
    (bsplit σ.B (RK K (5 : Int) σ.W.length σ.W.length g σ.Ws.length σ.Ws.length g' (hexI (↑c.toNat : Int)) true) (RK K (5 : Int) σ.W.length σ.W.length g σ.Ws.length σ.Ws.length g' (hexI (↑c.toNat : Int)) (decide (hexI (↑c.toNat : Int) < (0 : Int)))))
    (bsplit (σ.In == (5 : Int))
    (bsplit σ.B (RK K (2 : Int) σ.W.length σ.W.length g σ.Ws.length σ.Ws.length g' σ.D true)
    (bsplit (!decide (hexI (↑c.toNat : Int) < (0 : Int))) (((1 : Nat) ≤ (1 : Nat) ∧
    σ.W.length = σ.W.length ∧
    Nat.succ (0 : Nat) ≤ (1 : Nat) ∧
    fitsN (σ.W.length + (1 : Nat)) (1 : Nat)) ∧
    Nat.succ (0 : Nat) ≤ σ.W.length + (1 : Nat) ∧
    RK K (2 : Int) (σ.W.length + (1 : Nat)) (σ.W.length + (1 : Nat)) (joinF σ.W.length g fun j => nth [] [[Value.int IntKind.u8 (IntKind.u8.wrap (IntKind.i64.wrap (IntKind.i64.wrap ((16 : Int) * σ.D) + hexI (↑c.toNat : Int))))]] ((0 : Nat) + j)) σ.Ws.length σ.Ws.length g' σ.D (decide (hexI (↑c.toNat : Int) < (0 : Int)))) (RK K (2 : Int) σ.W.length σ.W.length g σ.Ws.length σ.Ws.length g' σ.D (decide (hexI (↑c.toNat : Int) < (0 : Int))))))
    (bsplit (σ.In == (6 : Int))
    (bsplit σ.B (RK K (0 : Int) σ.W.length σ.W.length g σ.Ws.length σ.Ws.length g' σ.D true) (RK K (0 : Int) σ.W.length σ.W.length g σ.Ws.length σ.Ws.length g' σ.D !(↑c.toNat : Int) == (9 : Int))) (RK K σ.In σ.W.length σ.W.length g σ.Ws.length σ.Ws.length g' σ.D σ.B))))))))) (by kernel_rfl) ?_
  have hfit : fitsN (σ.W.length + 1) 1 := ⟨by omega, by omega⟩
  have iE : ∀ k : Int, (σ.In == k) = decide (σ.In = k) := fun k => rfl
  have e1 := callL (K := K) aI_inj (step := stepEnds) (σ := σ) 0 hW hWs hf hg
  have e6 := callL (K := K) aI_inj (step := stepEnds) (σ := σ) 6 hW hWs hf hg
  have e3 := callL (K := K) aB_inj (step := stepEsc) (σ := σ) c hW hWs hf hg
  simp only [iE, e9, e32, e34, e35, e92, Nat.le_refl, true_and]
  have ap : ∀ {In : Int} {b : UInt8} {c : Int} {D B}, c = (b.toNat : Int) → REnd K ⟨In, σ.W ++ [b], σ.Ws, D, B⟩ → RK K In (σ.W.length + 1) (σ.W.length + 1) (joinF σ.W.length g fun j => nth [] [[.int .u8 c]] (0 + j)) σ.Ws.length σ.Ws.length g' D B :=
    fun hc hE => rk hE (.appW hf hg hc)
  have ap2 : ∀ {In In' : Int} {b : UInt8} {c : Int} {D D' B B'}, In' = In → D' = D → B' = B → c = (b.toNat : Int) → REnd K ⟨In, σ.W ++ [b], σ.Ws, D, B⟩ → RK K In' (σ.W.length + 1) (σ.W.length + 1) (joinF σ.W.length g fun j => nth [] [[.int .u8 c]] (0 + j)) σ.Ws.length σ.Ws.length g' D' B' :=
    fun h1 h2 h3 hc hE => by subst h1; subst h2; subst h3; exact rk hE (.appW hf hg hc)
  have sm2 : ∀ {In In' : Int} {D D' B B'}, In' = In → D' = D → B' = B → REnd K ⟨In, σ.W, σ.Ws, D, B⟩ → RK K In' σ.W.length σ.W.length g σ.Ws.length σ.Ws.length g' D' B' := fun h1 h2 h3 hE => by subst h1; subst h2; subst h3; exact rk hE (.same hf hg)
  have sm : ∀ {In : Int} {D B}, REnd K ⟨In, σ.W, σ.Ws, D, B⟩ → RK K In σ.W.length σ.W.length g σ.Ws.length σ.Ws.length g' D B := fun hE => rk hE (.same hf hg)
  have hb : IntKind.u8.wrap (IntKind.i64.wrap (IntKind.i64.wrap (16 * σ.D) + hexI (c.toNat : Int))) = ((byteI (16 * σ.D + hexI c.toNat)).toNat : Int) := by
    rw [wrap_byte, i64_mod, byteI_nat]
  rw [hb]
  unfold stepNext at hE
  repeat' (refine bsplit_iff.2 ⟨fun _ => ?_, fun _ => ?_⟩)
  all_goals simp only [decide_eq_true_eq, decide_eq_false_iff_not, Bool.not_eq_true', Bool.not_eq_false'] at *
  all_goals (try subst_vars)
  all_goals simp only [*, if_true, if_false, true_or, or_true, or_self, or_false, false_or, not_true_eq_false, not_false_eq_true, and_true, true_and, and_false, false_and, Bool.true_or, Bool.false_or, Bool.or_true, Bool.or_false, decide_true, decide_false, Bool.not_true, Bool.not_false] at hE
  all_goals first
    | exact e1 hE
    | exact e6 hE
    | exact e3 hE
    | exact sm hE
    | exact ⟨hfit, by omega, ap rfl hE⟩
    | (rename_i h1 h2; exfalso; rw [h1] at h2; exact absurd h2 (by decide))
    | (rename_i h1 _ h2; exfalso; rw [h1] at h2; exact absurd h2 (by decide))
    | (rename_i h1 _ _ h2; exfalso; rw [h1] at h2; exact absurd h2 (by decide))
    | (rename_i h1 _ _ _ h2; exfalso; rw [h1] at h2; exact absurd h2 (by decide))
    | skip
  all_goals simp only [Int.reduceEq, q9_32, q9_34, q9_35, q9_92, q32_9, q32_34, q32_35, q32_92, q34_9, q34_32, q34_35, q34_92, q35_9, q35_32, q35_34, q35_92, q92_9, q92_32, q92_34, q92_35, if_true, if_false, true_or, or_true, or_self, or_false, false_or, reduceIte] at hE
  all_goals first
    | exact e1 hE
    | exact e6 hE
    | exact e3 hE
    | exact sm hE
    | exact ⟨hfit, by omega, ap rfl hE⟩
    | exact ⟨hfit, by omega, ap (by simp [*]) hE⟩
    | exact ⟨hfit, by omega, ap2 (by first | rfl | exact decide_eq_false (by assumption) | exact decide_eq_true (by assumption) | (simp [*]; done)) (by first | rfl | exact decide_eq_false (by assumption) | exact decide_eq_true (by assumption) | (simp [*]; done)) (by first | rfl | exact decide_eq_false (by assumption) | exact decide_eq_true (by assumption) | (simp [*]; done)) (by first | rfl | exact decide_eq_false (by assumption) | exact decide_eq_true (by assumption) | (simp [*]; done)) hE⟩
    | exact sm2 (by first | rfl | exact decide_eq_false (by assumption) | exact decide_eq_true (by assumption) | (simp [*]; done)) (by first | rfl | exact decide_eq_false (by assumption) | exact decide_eq_true (by assumption) | (simp [*]; done)) (by first | rfl | exact decide_eq_false (by assumption) | exact decide_eq_true (by assumption) | (simp [*]; done)) hE
    | (exfalso; simp_all; done)
    | skip
end Go.Sh
