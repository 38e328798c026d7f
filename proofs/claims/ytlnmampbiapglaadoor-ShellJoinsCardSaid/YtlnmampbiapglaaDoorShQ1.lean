/- strings.Builder's methods over the known memory: copyCheck, WriteByte, WriteString, String. -/
import Derived.Test.YtlnmampbiapglaaDoorShQL
import Derived.Shelf.Strings.Builder1
set_option linter.unusedSimpArgs false
set_option linter.unusedSectionVars false
set_option linter.unusedVariables false
set_option maxRecDepth 10000
namespace Go.Sh
open Go Go.X Go.Proofs
variable [WI]

theorem cL : Lays.n240 Tryd.prog Tryd.lays159_ren := { Tryd.lays159 with }
theorem cX : Builder.X72 Tryd.prog Tryd.lays159_ren := Tryd.Builder_Extra_159.toX72

/-! ### copyCheck -/
def copyT : CallS := fun args V K =>
  match args with
  | [.pointer (some ⟨p, 0, none⟩)] =>
    match V[p]? with
    | some (.cells 48 [.pointer none, s]) => setK V p (.cells 48 [.pointer (some ⟨p, 0, none⟩), s]) fun V' => K (.tuple ⟨[]⟩) V'
    | some (.cells 48 [.pointer (some ⟨q, 0, none⟩), s]) => q = p ∧ K (.tuple ⟨[]⟩) V
    | _ => False
  | _ => False

theorem copyCk_ok : CallOK Tryd.prog 23 copyT := by
  refine ⟨callable Tryd.func23 rfl (by decide +kernel), fun args V K hT => ?_⟩
  unfold copyT at hT
  split at hT
  · rename_i p
    split at hT
    · rename_i s hv
      rw [setK_eq] at hT
      intro env w hW hsc
      obtain ⟨hh, hb⟩ := hW.mat _ _ hv
      have hh' : w.heap[(env p).blk]? = some (.cells #[.pointer none, ren env s] 48 (0, 0)) := by simpa using hh
      have ha : ([.pointer (some ⟨p, 0, none⟩)] : List Value).map (ren env) = [.pointer (some ⟨(env p).blk, 0, none⟩)] := by simp [ren_ptr, renA, hb]
      have h : Calls Tryd.prog 23 #[.pointer (some ⟨(env p).blk, 0, none⟩)] w fun e w' => e = .returned (.tuple #[]) ∧ w' = w.setCell ⟨(env p).blk, 0, none⟩ (.pointer (some ⟨(env p).blk, 0, none⟩)) :=
        Any.Builder_copyCheck_fresh cL cX (env p).blk w (by simp [World.cell?, hh']) (by simp [World.shape?, hh']; rfl) (by simp [World.frozen?, hh'])
      rw [ha]
      refine h.mono ?_
      rintro e w' ⟨rfl, rfl⟩
      rw [setCell_eq_setRow w (env p).blk 0 _ 48 (0, 0) _ hh']
      have hscs := hW.sc _ _ hv
      have := hW.setRow (o' := .cells 48 [.pointer (some ⟨p, 0, none⟩), s]) hv rfl rfl (#[.pointer none, ren env s].setIfInBounds 0 (.pointer (some ⟨(env p).blk, 0, none⟩)))
        ⟨by rw [setRow_heap w _ _ _ _ _ hh']; simp [ren_ptr, renA, hb], hb⟩ (fun v hv' => by
          simp only [List.mem_cons, List.not_mem_nil, or_false] at hv'
          rcases hv' with rfl | rfl
          · exact .ptr (by have := (List.getElem?_eq_some_iff.1 hv).1; exact this)
          · exact hscs v (by simp)) trivial
      exact ⟨_, env, _, _, rfl, .inr (by simp [ren_tuple]), this.1, this.2, hT⟩
    · rename_i q s hv
      obtain ⟨rfl, hK⟩ := hT
      intro env w hW hsc
      obtain ⟨hh, hb⟩ := hW.mat _ _ hv
      have hh' : w.heap[(env q).blk]? = some (.cells #[.pointer (some ⟨(env q).blk, 0, none⟩), ren env s] 48 (0, 0)) := by simpa [ren_ptr, renA, hb] using hh
      have ha : ([.pointer (some ⟨q, 0, none⟩)] : List Value).map (ren env) = [.pointer (some ⟨(env q).blk, 0, none⟩)] := by simp [ren_ptr, renA, hb]
      have h : Calls Tryd.prog 23 #[.pointer (some ⟨(env q).blk, 0, none⟩)] w fun e w' => e = .returned (.tuple #[]) ∧ w' = w :=
        Any.Builder_copyCheck_used cL cX (env q).blk w (by simp [World.cell?, hh'])
      rw [ha]
      refine h.mono ?_
      rintro e w' ⟨rfl, rfl⟩
      exact ⟨_, env, _, _, rfl, .inr (by simp [ren_tuple]), hW, Fr.refl _ _ _, hK⟩
    · exact hT.elim
  · exact hT.elim

/-! ### WriteByte, WriteString -/
structure BPre (n n' : Nat) (f : Nat → List Value) : Prop where
  ex : ∃ l : List UInt8, n = l.length ∧ n' = l.length ∧ RowB f l ∧ l.length < 4294967296
structure IsByte (c : Int) : Prop where
  ex : ∃ b : UInt8, c = (b.toNat : Int)
structure BByte (n : Nat) (f : Nat → List Value) (c : Int) (m : Nat) (g : Nat → List Value) : Prop where
  ex : ∃ (l : List UInt8) (b : UInt8), n = l.length ∧ RowB f l ∧ c = (b.toNat : Int) ∧ m = l.length + 1 ∧ RowB g (l ++ [b])
structure BStr (n : Nat) (f : Nat → List Value) (s : ByteArray) (m : Nat) (g : Nat → List Value) : Prop where
  ex : ∃ l : List UInt8, n = l.length ∧ RowB f l ∧ m = l.length + s.size ∧ RowB g (l ++ bytesL s)
structure BLeaf (p : Prop) (m m' : Nat) : Prop where
  h : p
  hm : m' = m

def wbT : CallS := fun args V K =>
  match args, V with
  | [.pointer (some ⟨2, 0, none⟩), .int .u8 c], [.rows false 5 1 n0 c0 f0, .rows true 5 1 n1 c1 f1, .cells 48 [.pointer none, .slice none 0 0]] => IsByte c ∧ ∀ m g, BByte 0 (fun _ => []) c m g → K .nilIface [.rows false 5 1 n0 c0 f0, .rows true 5 1 n1 c1 f1, .cells 48 [.pointer (some ⟨2, 0, none⟩), .slice (some ⟨3, 2, some 0⟩) m 0], .vec 5 1 m g]
  | [.pointer (some ⟨2, 0, none⟩), .int .u8 c], [.rows false 5 1 n0 c0 f0, .rows true 5 1 n1 c1 f1, .cells 48 [.pointer (some ⟨2, 0, none⟩), .slice (some ⟨4, 2, some 0⟩) n 0], .dead, .vec 5 1 n' f] => BPre n n' f ∧ IsByte c ∧ ∀ m g, BByte n f c m g → K .nilIface [.rows false 5 1 n0 c0 f0, .rows true 5 1 n1 c1 f1, .cells 48 [.pointer (some ⟨2, 0, none⟩), .slice (some ⟨5, 2, some 0⟩) m 0], .dead, .dead, .vec 5 1 m g]
  | [.pointer (some ⟨2, 0, none⟩), .int .u8 c], [.rows false 5 1 n0 c0 f0, .rows true 5 1 n1 c1 f1, .cells 48 [.pointer (some ⟨2, 0, none⟩), .slice (some ⟨5, 2, some 0⟩) n 0], .dead, .dead, .vec 5 1 n' f] => BPre n n' f ∧ IsByte c ∧ ∀ m g, BByte n f c m g → K .nilIface [.rows false 5 1 n0 c0 f0, .rows true 5 1 n1 c1 f1, .cells 48 [.pointer (some ⟨2, 0, none⟩), .slice (some ⟨6, 2, some 0⟩) m 0], .dead, .dead, .dead, .vec 5 1 m g]
  | [.pointer (some ⟨2, 0, none⟩), .int .u8 c], [.rows false 5 1 n0 c0 f0, .rows true 5 1 n1 c1 f1, .cells 48 [.pointer (some ⟨2, 0, none⟩), .slice (some ⟨6, 2, some 0⟩) n 0], .dead, .dead, .dead, .vec 5 1 n' f] => BPre n n' f ∧ IsByte c ∧ ∀ m g, BByte n f c m g → K .nilIface [.rows false 5 1 n0 c0 f0, .rows true 5 1 n1 c1 f1, .cells 48 [.pointer (some ⟨2, 0, none⟩), .slice (some ⟨7, 2, some 0⟩) m 0], .dead, .dead, .dead, .dead, .vec 5 1 m g]
  | _, _ => False

def wsT : CallS := fun args V K =>
  match args, V with
  | [.pointer (some ⟨2, 0, none⟩), .string s], [.rows false 5 1 n0 c0 f0, .rows true 5 1 n1 c1 f1, .cells 48 [.pointer (some ⟨2, 0, none⟩), .slice (some ⟨4, 2, some 0⟩) n 0], .dead, .vec 5 1 n' f] => BPre n n' f ∧ (0 < s.size ∧ s.size < 4294967296) ∧ ∀ m g, BStr n f s m g → K (.tuple ⟨[.int .i64 (s.size : Nat), .nilIface]⟩) [.rows false 5 1 n0 c0 f0, .rows true 5 1 n1 c1 f1, .cells 48 [.pointer (some ⟨2, 0, none⟩), .slice (some ⟨5, 2, some 0⟩) m 0], .dead, .dead, .vec 5 1 m g]
  | _, _ => False

def wbLeaf (q : Nat → (Nat → List Value) → Prop) (r : Value) (A : Nat → (Nat → List Value) → VW) (S : VSt) : Prop :=
  match S.tmps, (S.V[2]? : Option VObj), (S.V.getLast? : Option VObj) with
  | [v], some (.cells 48 [_, .slice (some _) m 0]), some (.vec 5 1 m' g) => QSt ⟨[v], S.V⟩ ⟨[r], A m g⟩ ∧ BLeaf (q m g) m m'
  | _, _, _ => False
def wbSel (k : Nat) (_ : Value) (V : VW) : List Sel :=
  match (V[2]? : Option VObj) with
  | some (.cells _ [_, .slice (some a) _ _]) => [.keep 0, .keep 1, .keep 2] ++ (List.range k).map (fun j => .drop (3 + j)) ++ [selV V a.block]
  | _ => []

theorem RowB.one (b : UInt8) {f : Nat → List Value} (h : f 0 = [.int .u8 (b.toNat : Int)]) : RowB f [b] := by
  intro j b' hj
  match j, hj with
  | 0, hj => simp at hj; subst hj; exact h
  | j + 1, hj => simp at hj
theorem RowB.appS {f : Nat → List Value} {l : List UInt8} (h : RowB f l) (s : ByteArray) : RowB (joinF l.length f (u8 s)) (l ++ bytesL s) := by
  intro j b hj
  rw [List.getElem?_append] at hj
  unfold joinF
  split at hj
  · rename_i hlt
    rw [if_pos hlt]; exact h j b hj
  · rename_i hge
    rw [if_neg hge]
    have hlt : j - l.length < (bytesL s).length := (List.getElem?_eq_some_iff.1 hj).1
    have : s.data.toList.getD (j - l.length) 0 = b := by
      have h2 : s.data.toList[j - l.length]? = some b := hj
      simp [List.getD, h2]
    simp only [u8, this]

theorem wb_run0 (n0 c0 : Nat) (f0 : Nat → List Value) (n1 c1 : Nat) (f1 : Nat → List Value) (b : UInt8) :
    CallDoes Tryd.prog 17 [.pointer (some ⟨2, 0, none⟩), .int .u8 b.toNat] [.rows false 5 1 n0 c0 f0, .rows true 5 1 n1 c1 f1, .cells 48 [.pointer none, .slice none 0 0]] fun v V' =>
      reshape 3 (wbSel 0 v V') [0] [] [(2, 1, 3)] ⟨[v], V'⟩ (wbLeaf (BByte 0 (fun _ => []) b.toNat) .nilIface fun m g => [.rows false 5 1 n0 c0 f0, .rows true 5 1 n1 c1 f1, .cells 48 [.pointer (some ⟨2, 0, none⟩), .slice (some ⟨3, 2, some 0⟩) m 0], .vec 5 1 m g]) := by
  refine of_run (ctxG_ok (l := []) (cs := [(23, copyT)]) (bs := []) .nil (.cons copyCk_ok .nil)) (n := 200) Tryd.func17 rfl .g ?_
  refine by_nf (B := ((1 : Nat) ≤ (1 : Nat) ∧
    Nat.succ (0 : Nat) ≤ (1 : Nat) ∧
    fitsN (1 : Nat) (1 : Nat)) ∧
    Nat.succ (0 : Nat) ≤ (1 : Nat) ∧
    QSt { tmps := [Value.nilIface], V := [VObj.rows false (5 : TypeId) (1 : Nat) n0 c0 f0, VObj.rows true (5 : TypeId) (1 : Nat) n1 c1 f1, VObj.cells (48 : TypeId) [Value.pointer (some { block := (2 : Nat), off := { block := (2 : Nat), off := (0 : Nat) : Addr }.off : Addr }), Value.slice (some { block := (3 : Nat), off := (2 : Nat), spot := some (0 : Nat) : Addr }) (1 : Nat) (0 : Nat)], VObj.vec (5 : Nat) (1 : Nat) (1 : Nat) fun j => nth [] [[Value.int IntKind.u8 (↑b.toNat : Int)]] ((0 : Nat) + j)] : VSt } { tmps := [Value.nilIface], V := [VObj.rows false (5 : TypeId) (1 : Nat) n0 c0 f0, VObj.rows true (5 : TypeId) (1 : Nat) n1 c1 f1, VObj.cells (48 : TypeId) [Value.pointer (some { block := (2 : Nat), off := (0 : Nat) : Addr }), Value.slice (some { block := (3 : Nat), off := (2 : Nat), spot := some (0 : Nat) : Addr }) (1 : Nat) (0 : Nat)], VObj.vec (5 : TypeId) (1 : Nat) (1 : Nat) fun j => nth [] [[Value.int IntKind.u8 (↑b.toNat : Int)]] ((0 : Nat) + j)] : VSt } ∧
    BLeaf (BByte (0 : Nat) (fun x => []) (↑b.toNat : Int) (1 : Nat) fun j => nth [] [[Value.int IntKind.u8 (↑b.toNat : Int)]] ((0 : Nat) + j)) (1 : Nat) (1 : Nat)) (by kernel_rfl) ?_
  exact ⟨⟨by omega, by omega, ⟨by omega, by omega⟩⟩, by omega, ⟨rfl⟩, ⟨⟨[], b, rfl, .nil _, rfl, rfl, RowB.one b rfl⟩, rfl⟩⟩

theorem wb_run1 (n0 c0 : Nat) (f0 : Nat → List Value) (n1 c1 : Nat) (f1 : Nat → List Value) (l : List UInt8) (f : Nat → List Value) (hf : RowB f l) (hl : l.length < 4294967296) (b : UInt8) :
    CallDoes Tryd.prog 17 [.pointer (some ⟨2, 0, none⟩), .int .u8 b.toNat] [.rows false 5 1 n0 c0 f0, .rows true 5 1 n1 c1 f1, .cells 48 [.pointer (some ⟨2, 0, none⟩), .slice (some ⟨4, 2, some 0⟩) l.length 0], .dead, .vec 5 1 l.length f] fun v V' =>
      reshape 5 (wbSel 2 v V') [0] [] [(2, 1, 5)] ⟨[v], V'⟩ (wbLeaf (BByte l.length f b.toNat) .nilIface fun m g => [.rows false 5 1 n0 c0 f0, .rows true 5 1 n1 c1 f1, .cells 48 [.pointer (some ⟨2, 0, none⟩), .slice (some ⟨5, 2, some 0⟩) m 0], .dead, .dead, .vec 5 1 m g]) := by
  refine of_run (ctxG_ok (l := []) (cs := [(23, copyT)]) (bs := []) .nil (.cons copyCk_ok .nil)) (n := 200) Tryd.func17 rfl .g ?_
  refine by_nf (B := (2 : Nat) = (2 : Nat) ∧
    ((1 : Nat) ≤ (1 : Nat) ∧
    l.length = l.length ∧
    Nat.succ (0 : Nat) ≤ (1 : Nat) ∧
    fitsN (l.length + (1 : Nat)) (1 : Nat)) ∧
    Nat.succ (0 : Nat) ≤ l.length + (1 : Nat) ∧
    QSt { tmps := [Value.nilIface], V := [VObj.rows false (5 : TypeId) (1 : Nat) n0 c0 f0, VObj.rows true (5 : TypeId) (1 : Nat) n1 c1 f1, VObj.cells (48 : TypeId) [Value.pointer (some { block := (2 : Nat), off := { block := (2 : Nat), off := (0 : Nat) : Addr }.off : Addr }), Value.slice (some { block := (5 : Nat), off := (2 : Nat), spot := some (0 : Nat) : Addr }) (l.length + (1 : Nat)) (0 : Nat)], VObj.dead, VObj.dead, VObj.vec (5 : Nat) (1 : Nat) (l.length + (1 : Nat)) (joinF l.length f fun j => nth [] [[Value.int IntKind.u8 (↑b.toNat : Int)]] ((0 : Nat) + j))] : VSt } { tmps := [Value.nilIface], V := [VObj.rows false (5 : TypeId) (1 : Nat) n0 c0 f0, VObj.rows true (5 : TypeId) (1 : Nat) n1 c1 f1, VObj.cells (48 : TypeId) [Value.pointer (some { block := (2 : Nat), off := (0 : Nat) : Addr }), Value.slice (some { block := (5 : Nat), off := (2 : Nat), spot := some (0 : Nat) : Addr }) (l.length + (1 : Nat)) (0 : Nat)], VObj.dead, VObj.dead, VObj.vec (5 : TypeId) (1 : Nat) (l.length + (1 : Nat)) (joinF l.length f fun j => nth [] [[Value.int IntKind.u8 (↑b.toNat : Int)]] ((0 : Nat) + j))] : VSt } ∧
    BLeaf (BByte l.length f (↑b.toNat : Int) (l.length + (1 : Nat)) (joinF l.length f fun j => nth [] [[Value.int IntKind.u8 (↑b.toNat : Int)]] ((0 : Nat) + j))) (l.length + (1 : Nat)) (l.length + (1 : Nat))) (by kernel_rfl) ?_
  exact ⟨rfl, ⟨by omega, rfl, by omega, ⟨by omega, by omega⟩⟩, by omega, ⟨rfl⟩, ⟨⟨l, b, rfl, hf, rfl, rfl, hf.app rfl⟩, rfl⟩⟩

theorem wb_run2 (n0 c0 : Nat) (f0 : Nat → List Value) (n1 c1 : Nat) (f1 : Nat → List Value) (l : List UInt8) (f : Nat → List Value) (hf : RowB f l) (hl : l.length < 4294967296) (b : UInt8) :
    CallDoes Tryd.prog 17 [.pointer (some ⟨2, 0, none⟩), .int .u8 b.toNat] [.rows false 5 1 n0 c0 f0, .rows true 5 1 n1 c1 f1, .cells 48 [.pointer (some ⟨2, 0, none⟩), .slice (some ⟨5, 2, some 0⟩) l.length 0], .dead, .dead, .vec 5 1 l.length f] fun v V' =>
      reshape 6 (wbSel 3 v V') [0] [] [(2, 1, 6)] ⟨[v], V'⟩ (wbLeaf (BByte l.length f b.toNat) .nilIface fun m g => [.rows false 5 1 n0 c0 f0, .rows true 5 1 n1 c1 f1, .cells 48 [.pointer (some ⟨2, 0, none⟩), .slice (some ⟨6, 2, some 0⟩) m 0], .dead, .dead, .dead, .vec 5 1 m g]) := by
  refine of_run (ctxG_ok (l := []) (cs := [(23, copyT)]) (bs := []) .nil (.cons copyCk_ok .nil)) (n := 200) Tryd.func17 rfl .g ?_
  refine by_nf (B := (2 : Nat) = (2 : Nat) ∧
    ((1 : Nat) ≤ (1 : Nat) ∧
    l.length = l.length ∧
    Nat.succ (0 : Nat) ≤ (1 : Nat) ∧
    fitsN (l.length + (1 : Nat)) (1 : Nat)) ∧
    Nat.succ (0 : Nat) ≤ l.length + (1 : Nat) ∧
    QSt { tmps := [Value.nilIface], V := [VObj.rows false (5 : TypeId) (1 : Nat) n0 c0 f0, VObj.rows true (5 : TypeId) (1 : Nat) n1 c1 f1, VObj.cells (48 : TypeId) [Value.pointer (some { block := (2 : Nat), off := { block := (2 : Nat), off := (0 : Nat) : Addr }.off : Addr }), Value.slice (some { block := (6 : Nat), off := (2 : Nat), spot := some (0 : Nat) : Addr }) (l.length + (1 : Nat)) (0 : Nat)], VObj.dead, VObj.dead, VObj.dead, VObj.vec (5 : Nat) (1 : Nat) (l.length + (1 : Nat)) (joinF l.length f fun j => nth [] [[Value.int IntKind.u8 (↑b.toNat : Int)]] ((0 : Nat) + j))] : VSt } { tmps := [Value.nilIface], V := [VObj.rows false (5 : TypeId) (1 : Nat) n0 c0 f0, VObj.rows true (5 : TypeId) (1 : Nat) n1 c1 f1, VObj.cells (48 : TypeId) [Value.pointer (some { block := (2 : Nat), off := (0 : Nat) : Addr }), Value.slice (some { block := (6 : Nat), off := (2 : Nat), spot := some (0 : Nat) : Addr }) (l.length + (1 : Nat)) (0 : Nat)], VObj.dead, VObj.dead, VObj.dead, VObj.vec (5 : TypeId) (1 : Nat) (l.length + (1 : Nat)) (joinF l.length f fun j => nth [] [[Value.int IntKind.u8 (↑b.toNat : Int)]] ((0 : Nat) + j))] : VSt } ∧
    BLeaf (BByte l.length f (↑b.toNat : Int) (l.length + (1 : Nat)) (joinF l.length f fun j => nth [] [[Value.int IntKind.u8 (↑b.toNat : Int)]] ((0 : Nat) + j))) (l.length + (1 : Nat)) (l.length + (1 : Nat))) (by kernel_rfl) ?_
  exact ⟨rfl, ⟨by omega, rfl, by omega, ⟨by omega, by omega⟩⟩, by omega, ⟨rfl⟩, ⟨⟨l, b, rfl, hf, rfl, rfl, hf.app rfl⟩, rfl⟩⟩

theorem wb_run3 (n0 c0 : Nat) (f0 : Nat → List Value) (n1 c1 : Nat) (f1 : Nat → List Value) (l : List UInt8) (f : Nat → List Value) (hf : RowB f l) (hl : l.length < 4294967296) (b : UInt8) :
    CallDoes Tryd.prog 17 [.pointer (some ⟨2, 0, none⟩), .int .u8 b.toNat] [.rows false 5 1 n0 c0 f0, .rows true 5 1 n1 c1 f1, .cells 48 [.pointer (some ⟨2, 0, none⟩), .slice (some ⟨6, 2, some 0⟩) l.length 0], .dead, .dead, .dead, .vec 5 1 l.length f] fun v V' =>
      reshape 7 (wbSel 4 v V') [0] [] [(2, 1, 7)] ⟨[v], V'⟩ (wbLeaf (BByte l.length f b.toNat) .nilIface fun m g => [.rows false 5 1 n0 c0 f0, .rows true 5 1 n1 c1 f1, .cells 48 [.pointer (some ⟨2, 0, none⟩), .slice (some ⟨7, 2, some 0⟩) m 0], .dead, .dead, .dead, .dead, .vec 5 1 m g]) := by
  refine of_run (ctxG_ok (l := []) (cs := [(23, copyT)]) (bs := []) .nil (.cons copyCk_ok .nil)) (n := 200) Tryd.func17 rfl .g ?_
  refine by_nf (B := (2 : Nat) = (2 : Nat) ∧
    ((1 : Nat) ≤ (1 : Nat) ∧
    l.length = l.length ∧
    Nat.succ (0 : Nat) ≤ (1 : Nat) ∧
    fitsN (l.length + (1 : Nat)) (1 : Nat)) ∧
    Nat.succ (0 : Nat) ≤ l.length + (1 : Nat) ∧
    QSt { tmps := [Value.nilIface], V := [VObj.rows false (5 : TypeId) (1 : Nat) n0 c0 f0, VObj.rows true (5 : TypeId) (1 : Nat) n1 c1 f1, VObj.cells (48 : TypeId) [Value.pointer (some { block := (2 : Nat), off := { block := (2 : Nat), off := (0 : Nat) : Addr }.off : Addr }), Value.slice (some { block := (7 : Nat), off := (2 : Nat), spot := some (0 : Nat) : Addr }) (l.length + (1 : Nat)) (0 : Nat)], VObj.dead, VObj.dead, VObj.dead, VObj.dead, VObj.vec (5 : Nat) (1 : Nat) (l.length + (1 : Nat)) (joinF l.length f fun j => nth [] [[Value.int IntKind.u8 (↑b.toNat : Int)]] ((0 : Nat) + j))] : VSt } { tmps := [Value.nilIface], V := [VObj.rows false (5 : TypeId) (1 : Nat) n0 c0 f0, VObj.rows true (5 : TypeId) (1 : Nat) n1 c1 f1, VObj.cells (48 : TypeId) [Value.pointer (some { block := (2 : Nat), off := (0 : Nat) : Addr }), Value.slice (some { block := (7 : Nat), off := (2 : Nat), spot := some (0 : Nat) : Addr }) (l.length + (1 : Nat)) (0 : Nat)], VObj.dead, VObj.dead, VObj.dead, VObj.dead, VObj.vec (5 : TypeId) (1 : Nat) (l.length + (1 : Nat)) (joinF l.length f fun j => nth [] [[Value.int IntKind.u8 (↑b.toNat : Int)]] ((0 : Nat) + j))] : VSt } ∧
    BLeaf (BByte l.length f (↑b.toNat : Int) (l.length + (1 : Nat)) (joinF l.length f fun j => nth [] [[Value.int IntKind.u8 (↑b.toNat : Int)]] ((0 : Nat) + j))) (l.length + (1 : Nat)) (l.length + (1 : Nat))) (by kernel_rfl) ?_
  exact ⟨rfl, ⟨by omega, rfl, by omega, ⟨by omega, by omega⟩⟩, by omega, ⟨rfl⟩, ⟨⟨l, b, rfl, hf, rfl, rfl, hf.app rfl⟩, rfl⟩⟩

theorem ws_run1 (n0 c0 : Nat) (f0 : Nat → List Value) (n1 c1 : Nat) (f1 : Nat → List Value) (l : List UInt8) (f : Nat → List Value) (hf : RowB f l) (hl : l.length < 4294967296) (s : ByteArray) (h0 : 0 < s.size) (h1 : s.size < 4294967296) :
    CallDoes Tryd.prog 18 [.pointer (some ⟨2, 0, none⟩), .string s] [.rows false 5 1 n0 c0 f0, .rows true 5 1 n1 c1 f1, .cells 48 [.pointer (some ⟨2, 0, none⟩), .slice (some ⟨4, 2, some 0⟩) l.length 0], .dead, .vec 5 1 l.length f] fun v V' =>
      reshape 5 (wbSel 2 v V') [0] [] [(2, 1, 5)] ⟨[v], V'⟩ (wbLeaf (BStr l.length f s) (.tuple ⟨[.int .i64 (s.size : Nat), .nilIface]⟩) fun m g => [.rows false 5 1 n0 c0 f0, .rows true 5 1 n1 c1 f1, .cells 48 [.pointer (some ⟨2, 0, none⟩), .slice (some ⟨5, 2, some 0⟩) m 0], .dead, .dead, .vec 5 1 m g]) := by
  refine of_run (ctxG_ok (l := []) (cs := [(23, copyT)]) (bs := []) .nil (.cons copyCk_ok .nil)) (n := 200) Tryd.func18 rfl .g ?_
  refine by_nf (B := (2 : Nat) = (2 : Nat) ∧
    (True ∧
    l.length = l.length ∧
    Nat.succ (0 : Nat) ≤ s.size ∧
    fitsN (l.length + s.size) (1 : Nat)) ∧
    Nat.succ (0 : Nat) ≤ l.length + s.size ∧
    QSt { tmps := [Value.tuple { toList := [Value.int IntKind.i64 (↑s.size : Int), Value.nilIface] : Array Value }], V := [VObj.rows false (5 : TypeId) (1 : Nat) n0 c0 f0, VObj.rows true (5 : TypeId) (1 : Nat) n1 c1 f1, VObj.cells (48 : TypeId) [Value.pointer (some { block := (2 : Nat), off := { block := (2 : Nat), off := (0 : Nat) : Addr }.off : Addr }), Value.slice (some { block := (5 : Nat), off := (2 : Nat), spot := some (0 : Nat) : Addr }) (l.length + s.size) (0 : Nat)], VObj.dead, VObj.dead, VObj.vec (5 : Nat) (1 : Nat) (l.length + s.size) (joinF l.length f (u8 s))] : VSt } { tmps := [Value.tuple { toList := [Value.int IntKind.i64 (↑s.size : Int), Value.nilIface] : Array Value }], V := [VObj.rows false (5 : TypeId) (1 : Nat) n0 c0 f0, VObj.rows true (5 : TypeId) (1 : Nat) n1 c1 f1, VObj.cells (48 : TypeId) [Value.pointer (some { block := (2 : Nat), off := (0 : Nat) : Addr }), Value.slice (some { block := (5 : Nat), off := (2 : Nat), spot := some (0 : Nat) : Addr }) (l.length + s.size) (0 : Nat)], VObj.dead, VObj.dead, VObj.vec (5 : TypeId) (1 : Nat) (l.length + s.size) (joinF l.length f (u8 s))] : VSt } ∧
    BLeaf (BStr l.length f s (l.length + s.size) (joinF l.length f (u8 s))) (l.length + s.size) (l.length + s.size)) (by kernel_rfl) ?_
  exact ⟨rfl, ⟨trivial, rfl, by omega, ⟨by omega, by omega⟩⟩, by omega, ⟨rfl⟩, ⟨⟨l, rfl, hf, rfl, hf.appS s⟩, rfl⟩⟩

theorem wb_ok : CallOK Tryd.prog 17 wbT := by
  refine ⟨callable Tryd.func17 rfl (by decide +kernel), fun args V K hT => ?_⟩
  unfold wbT at hT
  split at hT
  · rename_i c n0 c0 f0 n1 c1 f1
    obtain ⟨⟨b, rfl⟩, hK⟩ := hT
    refine CallDoes.reshape (wbSel 0) [] [(2, 1, 3)] ?_
    intro env w hW hsc
    refine (wb_run0 n0 c0 f0 n1 c1 f1 b env w hW hsc).mono ?_
    rintro e w' ⟨u, env', V', v, g1, g2, g3, g4, g5⟩
    refine ⟨u, env', V', v, g1, g2, g3, g4, reshape_mono (fun S hS => ?_) g5⟩
    unfold wbLeaf at hS
    split at hS
    · rename_i e1 e2 e3
      obtain ⟨⟨e4⟩, h5, rfl⟩ := hS
      obtain ⟨e4, e5⟩ := VSt.mk.inj e4
      unfold one1
      rw [e1]
      rw [e5]
      have e6 := (List.cons.inj e4).1
      subst e6
      exact hK _ _ h5
    · exact hS.elim
  · rename_i c n0 c0 f0 n1 c1 f1 n n' f
    obtain ⟨⟨l, rfl, rfl, hf, hl⟩, ⟨b, rfl⟩, hK⟩ := hT
    refine CallDoes.reshape (wbSel 2) [] [(2, 1, 5)] ?_
    intro env w hW hsc
    refine (wb_run1 n0 c0 f0 n1 c1 f1 l f hf hl b env w hW hsc).mono ?_
    rintro e w' ⟨u, env', V', v, g1, g2, g3, g4, g5⟩
    refine ⟨u, env', V', v, g1, g2, g3, g4, reshape_mono (fun S hS => ?_) g5⟩
    unfold wbLeaf at hS
    split at hS
    · rename_i e1 e2 e3
      obtain ⟨⟨e4⟩, h5, rfl⟩ := hS
      obtain ⟨e4, e5⟩ := VSt.mk.inj e4
      unfold one1
      rw [e1]
      rw [e5]
      have e6 := (List.cons.inj e4).1
      subst e6
      exact hK _ _ h5
    · exact hS.elim
  · rename_i c n0 c0 f0 n1 c1 f1 n n' f
    obtain ⟨⟨l, rfl, rfl, hf, hl⟩, ⟨b, rfl⟩, hK⟩ := hT
    refine CallDoes.reshape (wbSel 3) [] [(2, 1, 6)] ?_
    intro env w hW hsc
    refine (wb_run2 n0 c0 f0 n1 c1 f1 l f hf hl b env w hW hsc).mono ?_
    rintro e w' ⟨u, env', V', v, g1, g2, g3, g4, g5⟩
    refine ⟨u, env', V', v, g1, g2, g3, g4, reshape_mono (fun S hS => ?_) g5⟩
    unfold wbLeaf at hS
    split at hS
    · rename_i e1 e2 e3
      obtain ⟨⟨e4⟩, h5, rfl⟩ := hS
      obtain ⟨e4, e5⟩ := VSt.mk.inj e4
      unfold one1
      rw [e1]
      rw [e5]
      have e6 := (List.cons.inj e4).1
      subst e6
      exact hK _ _ h5
    · exact hS.elim
  · rename_i c n0 c0 f0 n1 c1 f1 n n' f
    obtain ⟨⟨l, rfl, rfl, hf, hl⟩, ⟨b, rfl⟩, hK⟩ := hT
    refine CallDoes.reshape (wbSel 4) [] [(2, 1, 7)] ?_
    intro env w hW hsc
    refine (wb_run3 n0 c0 f0 n1 c1 f1 l f hf hl b env w hW hsc).mono ?_
    rintro e w' ⟨u, env', V', v, g1, g2, g3, g4, g5⟩
    refine ⟨u, env', V', v, g1, g2, g3, g4, reshape_mono (fun S hS => ?_) g5⟩
    unfold wbLeaf at hS
    split at hS
    · rename_i e1 e2 e3
      obtain ⟨⟨e4⟩, h5, rfl⟩ := hS
      obtain ⟨e4, e5⟩ := VSt.mk.inj e4
      unfold one1
      rw [e1]
      rw [e5]
      have e6 := (List.cons.inj e4).1
      subst e6
      exact hK _ _ h5
    · exact hS.elim
  · exact hT.elim

theorem ws_ok : CallOK Tryd.prog 18 wsT := by
  refine ⟨callable Tryd.func18 rfl (by decide +kernel), fun args V K hT => ?_⟩
  unfold wsT at hT
  split at hT
  · rename_i s n0 c0 f0 n1 c1 f1 n n' f
    obtain ⟨⟨l, rfl, rfl, hf, hl⟩, ⟨h0, h1⟩, hK⟩ := hT
    refine CallDoes.reshape (wbSel 2) [] [(2, 1, 5)] ?_
    intro env w hW hsc
    refine (ws_run1 n0 c0 f0 n1 c1 f1 l f hf hl s h0 h1 env w hW hsc).mono ?_
    rintro e w' ⟨u, env', V', v, g1, g2, g3, g4, g5⟩
    refine ⟨u, env', V', v, g1, g2, g3, g4, reshape_mono (fun S hS => ?_) g5⟩
    unfold wbLeaf at hS
    split at hS
    · rename_i e1 e2 e3
      obtain ⟨⟨e4⟩, h5, rfl⟩ := hS
      obtain ⟨e4, e5⟩ := VSt.mk.inj e4
      unfold one1
      rw [e1]
      rw [e5]
      have e6 := (List.cons.inj e4).1
      subst e6
      exact hK _ _ h5
    · exact hS.elim
  · exact hT.elim
end Go.Sh
