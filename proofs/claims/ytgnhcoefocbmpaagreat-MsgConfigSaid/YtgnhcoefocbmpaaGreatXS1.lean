/- What the symbolic run says of the real one, first part: the memory, and operations on values. -/
import Derived.Test.YtgnhcoefocbmpaaGreatXDefs
set_option linter.unusedSimpArgs false
set_option linter.unusedSectionVars false
set_option linter.unusedVariables false
namespace Go.X
open Go

theorem ren_agg (env : Nat → Loc) (cs : Array Value) : ren env (.agg cs) = .agg (cs.map (ren env)) := by rw [ren]
theorem ren_tuple (env : Nat → Loc) (cs : Array Value) : ren env (.tuple cs) = .tuple (cs.map (ren env)) := by rw [ren]
theorem ren_iface (env : Nat → Loc) (t : TypeId) (v : Value) : ren env (.iface t v) = .iface t (ren env v) := by rw [ren]
theorem ren_func (env : Nat → Loc) (fn : Fn) (a b : Array Value) : ren env (.func fn a b) = .func fn (a.map (ren env)) (b.map (ren env)) := by rw [ren]
theorem ren_ptr (env : Nat → Loc) (a : Addr) : ren env (.pointer (some a)) = .pointer (some (renA env a)) := by rw [ren]
theorem ren_sliceS (env : Nat → Loc) (a : Addr) (l c : Nat) : ren env (.slice (some a) l c) = renS env a l c := by rw [ren]
theorem ren_slice (env : Nat → Loc) {a : Addr} (l c : Nat) (h : a.off < 2) : ren env (.slice (some a) l c) = .slice (some (renA env { a with off := 0 })) l (rcap env a c) := by
  rw [ren, renS]
  split
  · omega
  · omega
  · omega
  · rfl
theorem ren_sliceK (env : Nat → Loc) {a : Addr} (l c : Nat) (h2 : a.off ≠ 2) (h3 : a.off ≠ 3) (h6 : a.off ≠ 6) : ren env (.slice (some a) l c) = .slice (some (renA env { a with off := 0 })) l (rcap env a c) := by
  rw [ren, renS]
  split
  · omega
  · omega
  · omega
  · rfl
theorem ren_slice3 (env : Nat → Loc) {a : Addr} (l c : Nat) (h : a.off = 3) : ren env (.slice (some a) l c) =
    (match (env a.block).cap with | 0 => .slice none l 0 | 1 => .slice (some ⟨(env a.block).blk, (env a.block).base, spotOf (env a.block).m⟩) l 0 | k + 2 => .slice (some (renA env { a with off := 0 })) l (k + 1 - a.spot.getD 0)) := by
  rw [ren, renS]
  simp only [h]
  rfl
theorem ren_slice0 (env : Nat → Loc) (b : Nat) (sp : Option Nat) (l c : Nat) : ren env (.slice (some ⟨b, 0, sp⟩) l c) = .slice (some (renA env ⟨b, 0, sp⟩)) l c := by rw [ren]; rfl
theorem ren_slice1 (env : Nat → Loc) (b : Nat) (sp : Option Nat) (l c : Nat) : ren env (.slice (some ⟨b, 1, sp⟩) l c) = .slice (some (renA env ⟨b, 0, sp⟩)) l ((env b).cap - sp.getD 0) := by rw [ren]; rfl
theorem ren_slice2 (env : Nat → Loc) {a : Addr} (l c : Nat) (h : a.off = 2) : ren env (.slice (some a) l c) =
    (match (env a.block).cap with | 0 => .slice none l 0 | _ + 1 => .slice (some (renA env { a with off := 0 })) l ((env a.block).cap - a.spot.getD 0)) := by
  rw [ren, renS]
  simp only [h]
  have : rcap env a c = (env a.block).cap - a.spot.getD 0 := by unfold rcap; rw [h]
  rw [this]
  cases (env a.block).cap <;> rfl
theorem ren_slice_form (env : Nat → Loc) (a : Addr) (l c : Nat) : ∃ p c', ren env (.slice (some a) l c) = .slice p l c' := by
  rw [ren, renS]
  split
  · split
    · exact ⟨_, _, rfl⟩
    · exact ⟨_, _, rfl⟩
  · split
    · exact ⟨_, _, rfl⟩
    · exact ⟨_, _, rfl⟩
    · exact ⟨_, _, rfl⟩
  · exact ⟨_, _, rfl⟩
  · exact ⟨_, _, rfl⟩
theorem ren_slice6 (env : Nat → Loc) {a : Addr} (l c : Nat) (h : a.off = 6) : ren env (.slice (some a) l c) = .slice (some (renA env { a with off := 0 })) l 0 := by
  rw [ren, renS]
  simp only [h]
theorem rcap0 (env : Nat → Loc) (b c : Nat) (sp : Option Nat) : rcap env ⟨b, 0, sp⟩ c = c := rfl
theorem rcap1 (env : Nat → Loc) (b k c : Nat) (sp : Option Nat) : rcap env ⟨b, k + 1, sp⟩ c = (env b).cap - sp.getD 0 := rfl
theorem ren_map (env : Nat → Loc) (r : Nat) : ren env (.map (some r)) = .map (some (env r).blk) := by rw [ren]
@[simp] theorem ren_int (env : Nat → Loc) (k : IntKind) (n : Int) : ren env (.int k n) = .int k n := by rw [ren]
@[simp] theorem ren_bool (env : Nat → Loc) (b : Bool) : ren env (.bool b) = .bool b := by rw [ren]
@[simp] theorem ren_string (env : Nat → Loc) (s : ByteArray) : ren env (.string s) = .string s := by rw [ren]
@[simp] theorem ren_pnone (env : Nat → Loc) : ren env (.pointer none) = .pointer none := by rw [ren]
@[simp] theorem ren_snone (env : Nat → Loc) (l c : Nat) : ren env (.slice none l c) = .slice none l c := by rw [ren]
@[simp] theorem ren_mnone (env : Nat → Loc) : ren env (.map none) = .map none := by rw [ren]
@[simp] theorem ren_nilFunc (env : Nat → Loc) : ren env .nilFunc = .nilFunc := by rw [ren]
@[simp] theorem ren_nilIface (env : Nat → Loc) : ren env .nilIface = .nilIface := by rw [ren]
@[simp] theorem ren_undef (env : Nat → Loc) : ren env undef = undef := by simp [undef, ren_tuple]

theorem ren_plain (env : Nat → Loc) {v : Value} (h : plainC v = true) : ren env v = v := by
  cases v <;> first | (simp [plainC] at h; done) | simp | skip
  case pointer a => cases a <;> simp_all [plainC]
  case slice a _ _ => cases a <;> simp_all [plainC]
  case map a => cases a <;> simp_all [plainC]

theorem map_ren_plain (env : Nat → Loc) {l : List Value} (h : l.all plainC = true) : l.map (ren env) = l := by
  induction l with
  | nil => rfl
  | cons x xs ih =>
    simp only [List.all_cons, Bool.and_eq_true] at h
    simp [ren_plain env h.1, ih h.2]

/-- the cells of a value, moved -/
theorem vcells_ren (env : Nat → Loc) {v : Value} (h : isC v = false) : (ren env v).cells = ((vcells v).map (ren env)).toArray := by
  cases v <;> first | (simp [isC] at h; done) | (simp [vcells, Value.cells, ren_iface, ren_func, ren]; done) | skip
  case agg cs =>
    simp only [vcells, Value.cells, ren_agg]
    apply Array.ext'
    simp
  case pointer a => cases a <;> simp [vcells, Value.cells, ren_ptr]
  case slice a l c =>
    cases a with
    | none => simp [vcells, Value.cells]
    | some a =>
      obtain ⟨p, c', h⟩ := ren_slice_form env a l c
      simp [vcells, Value.cells, h]
  case map a => cases a <;> simp [vcells, Value.cells, ren_map]

/-! ### Values whose places lie below n -/
def Sc (n : Nat) (v : Value) : Prop := ∀ env env' : Nat → Loc, (∀ i, i < n → env i = env' i) → ren env v = ren env' v

theorem Sc.mono {n m : Nat} {v : Value} (h : Sc n v) (hn : n ≤ m) : Sc m v := fun e e' he => h e e' fun i hi => he i (Nat.lt_of_lt_of_le hi hn)
theorem Sc.plain {n : Nat} {v : Value} (h : plainC v = true) : Sc n v := fun e e' _ => by rw [ren_plain e h, ren_plain e' h]
theorem Sc.unk {n : Nat} : Sc n unk := fun e e' _ => by simp [Go.X.unk, ren]
theorem Sc.undef {n : Nat} : Sc n undef := fun e e' _ => by simp

theorem map_congr_sc {n : Nat} {l : List Value} (h : ∀ v ∈ l, Sc n v) {e e' : Nat → Loc} (he : ∀ i, i < n → e i = e' i) : l.map (ren e) = l.map (ren e') :=
  List.map_congr_left fun v hv => h v hv e e' he

theorem Sc.agg {n : Nat} {l : List Value} (h : ∀ v ∈ l, Sc n v) : Sc n (.agg ⟨l⟩) := fun e e' he => by
  rw [ren_agg, ren_agg]; congr 1; apply Array.ext'; simp; exact fun v hv => h v hv e e' he
theorem Sc.tuple {n : Nat} {l : List Value} (h : ∀ v ∈ l, Sc n v) : Sc n (.tuple ⟨l⟩) := fun e e' he => by
  rw [ren_tuple, ren_tuple]; congr 1; apply Array.ext'; simp; exact fun v hv => h v hv e e' he
theorem Sc.iface {n : Nat} {t : TypeId} {v : Value} (h : Sc n v) : Sc n (.iface t v) := fun e e' he => by rw [ren_iface, ren_iface, h e e' he]
theorem Sc.func {n : Nat} {fn : Fn} {l l' : List Value} (h : ∀ v ∈ l, Sc n v) (h' : ∀ v ∈ l', Sc n v) : Sc n (.func fn ⟨l⟩ ⟨l'⟩) := fun e e' he => by
  rw [ren_func, ren_func]; congr 1
  · apply Array.ext'; simp; exact fun v hv => h v hv e e' he
  · apply Array.ext'; simp; exact fun v hv => h' v hv e e' he
theorem Sc.ptr {n : Nat} {a : Addr} (h : a.block < n) : Sc n (.pointer (some a)) := fun e e' he => by rw [ren_ptr, ren_ptr, renA, renA, he _ h]
theorem Sc.slice {n : Nat} {a : Addr} {l c : Nat} (h : a.block < n) : Sc n (.slice (some a) l c) := fun e e' he => by
  have : renS e a l c = renS e' a l c := by unfold renS renA rcap; simp only [he _ h]
  rw [ren_sliceS, ren_sliceS, this]
theorem Sc.map {n : Nat} {r : Nat} (h : r < n) : Sc n (.map (some r)) := fun e e' he => by rw [ren_map, ren_map, he _ h]

theorem fN_eq {β : Type} (n : Nat) (k : Nat → β) : fN n k = k n := by cases n <;> rfl
theorem fI_eq {β : Type} (n : Int) (k : Int → β) : fI n k = k n := by cases n <;> simp [fI, fN_eq]
theorem fA_eq {β : Type} (a : Addr) (k : Addr → β) : fA a k = k a := by
  obtain ⟨b, o, s⟩ := a
  cases s <;> simp [fA, fN_eq]

theorem normL_spec {g : Value → (Value → Prop) → Prop} {n : Nat} (hg : ∀ v k, g v k → Sc n v ∧ k v) :
    ∀ (l : List Value) (k : List Value → Prop), normL g l k → (∀ v ∈ l, Sc n v) ∧ k l
  | [], k, h => ⟨by simp, h⟩
  | v :: vs, k, h => by
    obtain ⟨h1, h2⟩ := hg _ _ h
    obtain ⟨h3, h4⟩ := normL_spec hg vs _ h2
    exact ⟨by simpa using ⟨h1, h3⟩, h4⟩

theorem normV_spec (cl : Bool) (n : Nat) : ∀ (d : Nat) (v : Value) (k : Value → Prop), normV cl n d v k → Sc n v ∧ k v
  | 0, _, _, h => h.elim
  | d + 1, v, k, h => by
    have ih := normV_spec cl n d
    cases v <;> simp only [normV] at h <;> first | exact h.elim | skip
    case int a b => cases cl <;> simp only [fI_eq] at h <;> exact ⟨.plain rfl, h⟩
    case bool b => cases cl <;> cases b <;> exact ⟨.plain rfl, h⟩
    case string s => exact ⟨.plain rfl, h⟩
    case pointer a =>
      cases a with
      | none => exact ⟨.plain rfl, h⟩
      | some a =>
        simp only [fA_eq] at h
        cases hb : Nat.blt a.block n with
        | false => simp [hb] at h
        | true => simp only [hb] at h; exact ⟨.ptr (Nat.blt_eq ▸ hb), h⟩
    case slice a l c =>
      cases a with
      | none => exact ⟨.plain rfl, h⟩
      | some a =>
        simp only [fA_eq] at h
        cases hb : Nat.blt a.block n with
        | false => simp [hb] at h
        | true => simp only [hb] at h; exact ⟨.slice (Nat.blt_eq ▸ hb), h⟩
    case nilFunc => exact ⟨.plain rfl, h⟩
    case nilIface => exact ⟨.plain rfl, h⟩
    case map a =>
      cases a with
      | none => exact ⟨.plain rfl, h⟩
      | some a =>
        simp only [fN_eq] at h
        cases hb : Nat.blt a n with
        | false => simp [hb] at h
        | true => simp only [hb] at h; exact ⟨.map (Nat.blt_eq ▸ hb), h⟩
    case iface t v => obtain ⟨h1, h2⟩ := ih _ _ h; exact ⟨.iface h1, h2⟩
    case agg cs => obtain ⟨h1, h2⟩ := normL_spec ih _ _ h; exact ⟨.agg (l := cs.toList) h1, h2⟩
    case func fn a b =>
      obtain ⟨h1, h2⟩ := normL_spec ih _ _ h
      obtain ⟨h3, h4⟩ := normL_spec ih _ _ h2
      exact ⟨.func (l := a.toList) (l' := b.toList) h1 h3, h4⟩

theorem norm_spec {cl : Bool} {n : Nat} {v : Value} {k : Value → Prop} (h : norm cl n v k) : Sc n v ∧ k v := by
  unfold norm at h
  split at h
  · rename_i vs
    obtain ⟨h1, h2⟩ := normL_spec (normV_spec cl n 6) _ _ h
    exact ⟨.tuple (l := vs.toList) h1, h2⟩
  · exact ⟨.unk, h⟩
  · exact normV_spec cl n 6 _ _ h

theorem setK_eq {α β : Type} : ∀ (l : List α) (n : Nat) (v : α) (k : List α → β), setK l n v k = k (l.set n v)
  | [], _, _, _ => by simp [setK]
  | _ :: _, 0, _, _ => by simp [setK]
  | x :: xs, n + 1, v, k => by simp [setK, setK_eq xs n v]

theorem appK_eq {α β : Type} : ∀ (l : List α) (v : α) (k : List α → β), appK l v k = k (l ++ [v])
  | [], _, _ => by simp [appK]
  | x :: xs, v, k => by simp [appK, appK_eq xs v]

theorem nth_eq {α : Type} (d : α) : ∀ (l : List α) (n : Nat), nth d l n = l.getD n d
  | [], _ => by simp [nth]
  | _ :: _, 0 => by simp [nth]
  | x :: xs, n + 1 => by simp [nth, nth_eq d xs n]

theorem bsplit_spec {b : Bool} {A B : Prop} (h : bsplit b A B) : (b = true ∧ A) ∨ (b = false ∧ B) := by
  cases b
  · exact .inr ⟨rfl, h⟩
  · exact .inl ⟨rfl, h⟩

theorem bsplit_intro {b : Bool} {A B : Prop} (h1 : b = true → A) (h2 : b = false → B) : bsplit b A B := by
  cases b
  · exact h2 rfl
  · exact h1 rfl

theorem scB_ok {n : Nat} : ∀ (d : Nat) (v : Value), scB n d v = true → Sc n v
  | 0, v, h => by simp [scB] at h
  | d + 1, v, h => by
    have ihl : ∀ l : List Value, l.all (scB n d) = true → ∀ x ∈ l, Sc n x := fun l hl x hx => scB_ok d x (List.all_eq_true.1 hl x hx)
    cases v <;> simp only [scB] at h <;> first | exact .plain rfl | skip
    case float k n => exact fun e e' _ => by simp [ren]
    case complex k x y => exact fun e e' _ => by simp [ren]
    case chan r => exact fun e e' _ => by simp [ren]
    case pointer a =>
      cases a with
      | none => exact .plain rfl
      | some a => exact .ptr (by simpa [Nat.blt_eq] using h)
    case slice a l c =>
      cases a with
      | none => exact .plain rfl
      | some a => exact .slice (by simpa [Nat.blt_eq] using h)
    case map a =>
      cases a with
      | none => exact .plain rfl
      | some a => exact .map (by simpa [Nat.blt_eq] using h)
    case iface t v => exact .iface (scB_ok d v h)
    case agg cs => exact .agg (l := cs.toList) (ihl _ h)
    case tuple cs => exact .tuple (l := cs.toList) (ihl _ h)
    case func fn a b =>
      simp only [Bool.and_eq_true] at h
      exact .func (l := a.toList) (l' := b.toList) (ihl _ h.1) (ihl _ h.2)

theorem holesOk_ok {n : Nat} {hs : List (Nat × List Value)} (h : holesOk n hs = true) : ∀ x ∈ hs, ∀ v ∈ x.2, Sc n v ∧ cellC v = true := fun x hx v hv => by
  have := List.all_eq_true.1 (List.all_eq_true.1 h x hx) v hv
  simp only [Bool.and_eq_true] at this
  exact ⟨scB_ok 6 v this.1, this.2⟩

/-! ### The memory -/
/-- what is known of the world itself: of its first blocks, those of the package variables, which nothing writes -/
class WI where
  I : World → Prop
  n : Nat
  keep : ∀ w w' : World, (∀ b, b < n → w'.heap[b]? = w.heap[b]?) → I w → I w'

/-- the calls that the frame defers: none, if nothing else is said -/
class WD where
  ds : List Deferred
instance (priority := low) noWD : WD := ⟨[]⟩

variable [WI] [WD]

def ScO (n : Nat) : VObj → Prop
  | .cells _ c => ∀ v ∈ c, Sc n v
  | .rows _ _ _ k _ f => ∀ r, r < k → ∀ v ∈ f r, Sc 0 v ∧ cellC v = true
  | .vec _ _ k f => ∀ r, r < k → ∀ v ∈ f r, Sc 0 v ∧ cellC v = true
  | .iter .. => True
  | .arg .. => True
  | .tab .. => True
  | .raw _ _ _ _ _ hs => ∀ h ∈ hs, ∀ v ∈ h.2, Sc n v ∧ cellC v = true
  | .mp es _ => ∀ e ∈ es, Sc n e.1 ∧ Sc n e.2.1
  | .mq _ => True
  | .dead => True

/-- a cell that was there at the start -/
def ARead (c : ACell) (u : Value) : Prop :=
  match c with
  | .val v => u = v ∧ plainC v = true
  | .sl t m k f => ∃ l : Loc, (l.cap < 2 → k = 0) ∧ (2 ≤ l.cap → l.m = m ∧ k + 1 ≤ l.cap ∧ l.blk < WI.n) ∧ ren (fun _ => l) (.slice (some ⟨0, 3, some 0⟩) k 0) = u ∧
      ∀ w, WI.I w → ∀ r, r < k → (f r).length = m ∧ (f r).all plainC = true ∧ w.rangeAt l.blk (l.base + r * m) (f r)

/-- an entry of a map -/
def renE (env : Nat → Loc) (e : Value × Value × Nat) : MapEntry := ⟨ren env e.1, ren env e.2.1, e.2.2⟩

/-- a row, as it really is -/
def rawRow (env : Nat → Loc) (f : Nat → List Value) (hs : List (Nat × List Value)) (r : Nat) : List Value :=
  match hs.find? (fun h => h.1 == r) with
  | some h => h.2.map (ren env)
  | none => f r

/-- all entries are ints; what a lookup of n gives -/
def intE (e : Value × Value × Nat) : Prop := ∃ k v, e.1 = .int .i64 k ∧ e.2.1 = .int .i64 v
def keyIs (n : Int) (e : Value × Value × Nat) : Bool := match e.1 with | .int .i64 k => k == n | _ => false
def valOf (e : Value × Value × Nat) : Int := match e.2.1 with | .int .i64 v => v | _ => 0
def lookE (es : List (Value × Value × Nat)) (n : Int) : Int := match es.find? (keyIs n) with | some e => valOf e | none => 0
def entE (e : Value × Value × Nat) : MapEntry := ⟨e.1, e.2.1, e.2.2⟩
structure Qm (g : Int → Int) (es : List (Value × Value × Nat)) : Prop where
  ints : ∀ e ∈ es, intE e
  look : ∀ n, g n = lookE es n

def Mat (env : Nat → Loc) (w : World) (l : Loc) : VObj → Prop
  | .cells t c => w.heap[l.blk]? = some (.cells (c.map (ren env)).toArray t (0, 0)) ∧ l.base = 0
  | .rows own t m n cap f => l.m = m ∧ (∀ r, r < n → (f r).length = m ∧ w.rangeAt l.blk (l.base + r * m) ((f r).map (ren env))) ∧
      (own = true → l.base = 0 ∧ ∃ cs, w.heap[l.blk]? = some (.cells cs t (0, 0)) ∧ cs.size = l.cap * m ∧ n ≤ l.cap ∧ (cap ≠ 0 → l.cap = cap))
  | .iter s pos => w.heap[l.blk]? = some (.stringIter s pos) ∧ l.base = 0
  | .vec t m n f => l.m = m ∧ (l.cap = 0 → n = 0) ∧ (l.cap ≠ 0 → (∀ r, r < n → (f r).length = m ∧ w.rangeAt l.blk (l.base + r * m) ((f r).map (ren env))) ∧
      l.base = 0 ∧ ∃ cs, w.heap[l.blk]? = some (.cells cs t (0, 0)) ∧ cs.size = l.cap * m ∧ n ≤ l.cap)
  | .arg t m n f => (l.cap < 2 → n = 0) ∧ (2 ≤ l.cap → l.m = m ∧ n + 1 ≤ l.cap) ∧ ∀ r, r < n → (f r).length = m ∧ (f r).all plainC = true ∧ w.rangeAt l.blk (l.base + r * m) (f r)
  | .tab t m n f => (l.cap < 2 → n = 0) ∧ (2 ≤ l.cap → l.m = m ∧ n + 1 ≤ l.cap) ∧ ∀ w, WI.I w → ∀ r, r < n → (f r).length = m ∧
      ∀ (j : Nat) (c : ACell), (f r)[j]? = some c → ∃ u, w.cell? ⟨l.blk, l.base + r * m + j, none⟩ = some u ∧ ARead c u
  | .raw t m n cap f hs => (∀ h ∈ hs, h.1 < n) ∧ l.m = m ∧ (∀ r, r < n → (rawRow env f hs r).length = m ∧ (∀ u ∈ rawRow env f hs r, u.oneCell' = true) ∧ w.rangeAt l.blk (l.base + r * m) (rawRow env f hs r)) ∧
      l.base = 0 ∧ ∃ cs, w.heap[l.blk]? = some (.cells cs t (0, 0)) ∧ cs.size = l.cap * m ∧ n ≤ l.cap ∧ (cap ≠ 0 → l.cap = cap)
  | .mp es clock => w.heap[l.blk]? = some (.map (es.map (renE env)).toArray clock) ∧ l.base = 0
  | .mq g => (∃ es clock, Qm g es ∧ w.heap[l.blk]? = some (.map (es.map entE).toArray clock)) ∧ l.base = 0
  | .dead => True

/-- has a place a block? -/
def hasB (l : Loc) : VObj → Prop
  | .vec .. => l.cap ≠ 0
  | .arg .. => 2 ≤ l.cap
  | .tab .. => False
  | .dead => False
  | _ => True

def VObj.owned : VObj → Bool
  | .cells .. => true
  | .mp .. => true
  | .mq .. => true
  | .rows own .. => own
  | .iter .. => true
  | .vec .. => true
  | .arg .. => false
  | .tab .. => false
  | .raw .. => true
  | .dead => true

def VObj.writes : VObj → Bool
  | .cells .. => true
  | .mp .. => true
  | .mq .. => true
  | .rows own .. => own
  | .iter .. => true
  | .vec .. => true
  | .arg .. => false
  | .tab .. => false
  | .raw .. => true
  | .dead => false

def VObj.live : VObj → Bool
  | .dead => false
  | .tab .. => false
  | _ => true

/-- a place that is ours to write, with its block -/
def ownB (l : Loc) (o : VObj) : Prop := o.owned = true ∧ hasB l o

structure RepW (env : Nat → Loc) (V : VW) (w : World) : Prop where
  mat : ∀ (i : Nat) (o : VObj), V[i]? = some o → Mat env w (env i) o
  sc : ∀ (i : Nat) (o : VObj), V[i]? = some o → ScO V.length o
  blk : ∀ (i : Nat) (o : VObj), V[i]? = some o → hasB (env i) o → (env i).blk < w.heap.size
  sep : ∀ (i j : Nat) (oi oj : VObj), V[i]? = some oi → V[j]? = some oj → i ≠ j → oi.writes = true → oj.live = true → hasB (env i) oi → hasB (env j) oj → (env i).blk ≠ (env j).blk
  inv : WI.I w
  low : ∀ (i : Nat) (o : VObj), V[i]? = some o → ownB (env i) o → WI.n ≤ (env i).blk
  room : WI.n ≤ w.heap.size

/-- the virtual value v stands for the real value u -/
def Rv (env : Nat → Loc) (v u : Value) : Prop := v = unk ∨ u = ren env v

structure Rep (env : Nat → Loc) (S : VSt) (a : Act) (w : World) : Prop where
  mem : RepW env S.V w
  def_ : a.defers = WD.ds
  size : a.tmps.size = S.tmps.length
  tm : ∀ t, t < S.tmps.length → Rv env (nth undef S.tmps t) (a.tmps.getD t undef)
  sc : ∀ v ∈ S.tmps, Sc S.V.length v

/-- what a piece of the run leaves alone -/
structure Fr (env : Nat → Loc) (V : VW) (w : World) (env' : Nat → Loc) (V' : VW) (w' : World) : Prop where
  agree : ∀ i, i < V.length → env' i = env i
  len : V.length ≤ V'.length
  os : w'.os = w.os
  tape : w'.tape = w.tape
  output : w'.output = w.output
  size : w.heap.size ≤ w'.heap.size
  keep : ∀ b, b < w.heap.size → (∀ (i : Nat) (o : VObj), V[i]? = some o → ownB (env i) o → (env i).blk ≠ b) → w'.heap[b]? = w.heap[b]?
  own : ∀ (i : Nat) (o : VObj), V'[i]? = some o → ownB (env' i) o → (∃ (j : Nat) (oj : VObj), V[j]? = some oj ∧ ownB (env j) oj ∧ (env j).blk = (env' i).blk) ∨ w.heap.size ≤ (env' i).blk

theorem Fr.refl (env : Nat → Loc) (V : VW) (w : World) : Fr env V w env V w :=
  ⟨fun _ _ => rfl, Nat.le_refl _, rfl, rfl, rfl, Nat.le_refl _, fun _ _ _ => rfl, fun i o h ho => .inl ⟨i, o, h, ho, rfl⟩⟩

/-- the memory, later: what the frame says of it -/
theorem RepW.mk' {env env' : Nat → Loc} {V V' : VW} {w w' : World} (hR : RepW env V w) (hF : Fr env V w env' V' w') (mat : ∀ (i : Nat) (o : VObj), V'[i]? = some o → Mat env' w' (env' i) o)
    (sc : ∀ (i : Nat) (o : VObj), V'[i]? = some o → ScO V'.length o) (blk : ∀ (i : Nat) (o : VObj), V'[i]? = some o → hasB (env' i) o → (env' i).blk < w'.heap.size)
    (sep : ∀ (i j : Nat) (oi oj : VObj), V'[i]? = some oi → V'[j]? = some oj → i ≠ j → oi.writes = true → oj.live = true → hasB (env' i) oi → hasB (env' j) oj → (env' i).blk ≠ (env' j).blk) : RepW env' V' w' :=
  ⟨mat, sc, blk, sep, WI.keep w w' (fun b hb => hF.keep b (Nat.lt_of_lt_of_le hb hR.room) fun i o hi ho he => by have := hR.low i o hi ho; omega) hR.inv,
    fun i o hi ho => by
      rcases hF.own i o hi ho with ⟨j, oj, hj, hoj, he⟩ | h
      · rw [← he]; exact hR.low j oj hj hoj
      · exact Nat.le_trans hR.room h, Nat.le_trans hR.room hF.size⟩

theorem pairRF {env env' : Nat → Loc} {V V' : VW} {w w' : World} (hR : RepW env V w) (mat : ∀ (i : Nat) (o : VObj), V'[i]? = some o → Mat env' w' (env' i) o)
    (sc : ∀ (i : Nat) (o : VObj), V'[i]? = some o → ScO V'.length o) (blk : ∀ (i : Nat) (o : VObj), V'[i]? = some o → hasB (env' i) o → (env' i).blk < w'.heap.size)
    (sep : ∀ (i j : Nat) (oi oj : VObj), V'[i]? = some oi → V'[j]? = some oj → i ≠ j → oi.writes = true → oj.live = true → hasB (env' i) oi → hasB (env' j) oj → (env' i).blk ≠ (env' j).blk)
    (hF : Fr env V w env' V' w') : RepW env' V' w' ∧ Fr env V w env' V' w' := ⟨hR.mk' hF mat sc blk sep, hF⟩

theorem Fr.trans {e1 e2 e3 : Nat → Loc} {V1 V2 V3 : VW} {w1 w2 w3 : World} (h : Fr e1 V1 w1 e2 V2 w2) (h' : Fr e2 V2 w2 e3 V3 w3) : Fr e1 V1 w1 e3 V3 w3 := by
  refine ⟨fun i hi => (h'.agree i (Nat.lt_of_lt_of_le hi h.len)).trans (h.agree i hi), Nat.le_trans h.len h'.len, h'.os.trans h.os, h'.tape.trans h.tape, h'.output.trans h.output,
    Nat.le_trans h.size h'.size, fun b hb hno => ?_, fun i o hi ho => ?_⟩
  · rw [h'.keep b (Nat.lt_of_lt_of_le hb h.size) ?_, h.keep b hb hno]
    intro i o hi ho hbe
    rcases h.own i o hi ho with ⟨j, oj, hj, hoj, he⟩ | hge
    · exact hno j oj hj hoj (he.trans hbe)
    · omega
  · rcases h'.own i o hi ho with ⟨j, oj, hj, hoj, he⟩ | hge
    · rcases h.own j oj hj hoj with ⟨k, ok, hk, hok, he'⟩ | hge'
      · exact .inl ⟨k, ok, hk, hok, he'.trans he⟩
      · exact .inr (he ▸ hge')
    · exact .inr (Nat.le_trans h.size hge)

theorem ev_rv {env : Nat → Loc} {S : VSt} {a : Act} {w : World} (hR : Rep env S a w) (x : Operand) : Rv env (ev S x) (a.eval x) := by
  cases x with
  | tmp t =>
    by_cases ht : t < S.tmps.length
    · exact hR.tm t ht
    · right
      have h1 : nth undef S.tmps t = undef := by rw [nth_eq]; simp [List.getD, List.getElem?_eq_none (Nat.le_of_not_lt ht)]
      simp only [ev, h1, ren_undef, Act.eval]
      have : ¬ t < a.tmps.size := by rw [hR.size]; exact ht
      simp [Array.getD, this]
  | const v =>
    simp only [ev, cst, Act.eval]
    cases hp : plainC v with
    | true => exact .inr (ren_plain env hp).symm
    | false => exact .inl rfl
  | global g => exact .inl rfl
  | func f => right; simp [ev, Act.eval, ren_func]

theorem ev_of {env : Nat → Loc} {S : VSt} {a : Act} {w : World} (hR : Rep env S a w) {x : Operand} {v : Value} (h : ev S x = v) (hv : v ≠ unk) : a.eval x = ren env v := by
  subst h
  rcases ev_rv hR x with h | h
  · exact absurd h hv
  · exact h

theorem ev_known {env : Nat → Loc} {S : VSt} {a : Act} {w : World} (hR : Rep env S a w) {x : Operand} (h : isC (ev S x) = false) : a.eval x = ren env (ev S x) :=
  ev_of hR rfl (fun hu => by rw [hu] at h; simp [isC, unk] at h)

theorem evs_known {env : Nat → Loc} {S : VSt} {a : Act} {w : World} (hR : Rep env S a w) : ∀ (xs : List Operand), (xs.map (ev S)).any isC = false → xs.map a.eval = (xs.map (ev S)).map (ren env)
  | [], _ => rfl
  | x :: xs, h => by
    simp only [List.map_cons, List.any_cons, Bool.or_eq_false_iff] at h
    simp only [List.map_cons]
    rw [ev_known hR h.1, evs_known hR xs h.2]

end Go.X
