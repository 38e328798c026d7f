/- strings.Builder's methods over their own places alone: WriteByte, WriteString, String. -/
import Derived.Test.YtlnmampbiapglaaDoorShQ2
import Derived.Test.YtlnmampbiapglaaDoorXSF
set_option linter.unusedSimpArgs false
set_option linter.unusedSectionVars false
set_option linter.unusedVariables false
set_option maxRecDepth 10000
namespace Go.Sh
open Go Go.X Go.Proofs
variable [WI]

def bN : VObj := .cells 48 [.pointer none, .slice none 0 0]
def wbC : CallS := fun args V K =>
  match args, V with
  | [.pointer (some ⟨0, 0, none⟩), .int .u8 c], [.cells 48 [.pointer none, .slice none 0 0]] => IsByte c ∧ ∀ m g, BByte 0 (fun _ => []) c m g → K .nilIface [.cells 48 [.pointer (some ⟨0, 0, none⟩), .slice (some ⟨1, 2, some 0⟩) m 0], .vec 5 1 m g]
  | [.pointer (some ⟨0, 0, none⟩), .int .u8 c], [.cells 48 [.pointer (some ⟨0, 0, none⟩), .slice (some ⟨1, 2, some 0⟩) n 0], .vec 5 1 n' f] => BPre n n' f ∧ IsByte c ∧ ∀ m g, BByte n f c m g → K .nilIface [.cells 48 [.pointer (some ⟨0, 0, none⟩), .slice (some ⟨2, 2, some 0⟩) m 0], .dead, .vec 5 1 m g]
  | _, _ => False
def wsC : CallS := fun args V K =>
  match args, V with
  | [.pointer (some ⟨0, 0, none⟩), .string s], [.cells 48 [.pointer (some ⟨0, 0, none⟩), .slice (some ⟨1, 2, some 0⟩) n 0], .vec 5 1 n' f] => BPre n n' f ∧ (0 < s.size ∧ s.size < 4294967296) ∧ ∀ m g, BStr n f s m g → K (.tuple ⟨[.int .i64 (s.size : Nat), .nilIface]⟩) [.cells 48 [.pointer (some ⟨0, 0, none⟩), .slice (some ⟨2, 2, some 0⟩) m 0], .dead, .vec 5 1 m g]
  | _, _ => False

def wbLeafC (q : Nat → (Nat → List Value) → Prop) (r : Value) (A : Nat → (Nat → List Value) → VW) (S : VSt) : Prop :=
  match S.tmps, (S.V[0]? : Option VObj), (S.V.getLast? : Option VObj) with
  | [v], some (.cells 48 [_, .slice (some _) m 0]), some (.vec 5 1 m' g) => QSt ⟨[v], S.V⟩ ⟨[r], A m g⟩ ∧ BLeaf (q m g) m m'
  | _, _, _ => False
def wbSelC (k : Nat) (_ : Value) (V : VW) : List Sel :=
  match (V[0]? : Option VObj) with
  | some (.cells _ [_, .slice (some a) _ _]) => [.keep 0] ++ (List.range k).map (fun j => .drop (1 + j)) ++ [selV V a.block]
  | _ => []

theorem wbC_run0 (b : UInt8) :
    CallDoes Tryd.prog 17 [.pointer (some ⟨0, 0, none⟩), .int .u8 b.toNat] [.cells 48 [.pointer none, .slice none 0 0]] fun v V' =>
      reshape 1 (wbSelC 0 v V') [0] [] [(0, 1, 1)] ⟨[v], V'⟩ (wbLeafC (BByte 0 (fun _ => []) b.toNat) .nilIface fun m g => [.cells 48 [.pointer (some ⟨0, 0, none⟩), .slice (some ⟨1, 2, some 0⟩) m 0], .vec 5 1 m g]) := by
  refine of_run (ctxG_ok (l := []) (cs := [(23, copyT)]) (bs := []) .nil (.cons copyCk_ok .nil)) (n := 200) Tryd.func17 rfl .g ?_
  refine by_nf (B := ((1 : Nat) ≤ (1 : Nat) ∧
    Nat.succ (0 : Nat) ≤ (1 : Nat) ∧
    fitsN (1 : Nat) (1 : Nat)) ∧
    Nat.succ (0 : Nat) ≤ (1 : Nat) ∧
    QSt { tmps := [Value.nilIface], V := [VObj.cells (48 : TypeId) [Value.pointer (some { block := (0 : Nat), off := { block := (0 : Nat), off := (0 : Nat) : Addr }.off : Addr }), Value.slice (some { block := (1 : Nat), off := (2 : Nat), spot := some (0 : Nat) : Addr }) (1 : Nat) (0 : Nat)], VObj.vec (5 : Nat) (1 : Nat) (1 : Nat) fun j => nth [] [[Value.int IntKind.u8 (↑b.toNat : Int)]] ((0 : Nat) + j)] : VSt } { tmps := [Value.nilIface], V := [VObj.cells (48 : TypeId) [Value.pointer (some { block := (0 : Nat), off := (0 : Nat) : Addr }), Value.slice (some { block := (1 : Nat), off := (2 : Nat), spot := some (0 : Nat) : Addr }) (1 : Nat) (0 : Nat)], VObj.vec (5 : TypeId) (1 : Nat) (1 : Nat) fun j => nth [] [[Value.int IntKind.u8 (↑b.toNat : Int)]] ((0 : Nat) + j)] : VSt } ∧
    BLeaf (BByte (0 : Nat) (fun x => []) (↑b.toNat : Int) (1 : Nat) fun j => nth [] [[Value.int IntKind.u8 (↑b.toNat : Int)]] ((0 : Nat) + j)) (1 : Nat) (1 : Nat)) (by kernel_rfl) ?_
  exact ⟨⟨by omega, by omega, ⟨by omega, by omega⟩⟩, by omega, ⟨rfl⟩, ⟨⟨[], b, rfl, .nil _, rfl, rfl, RowB.one b rfl⟩, rfl⟩⟩
theorem wbC_run1 (l : List UInt8) (f : Nat → List Value) (hf : RowB f l) (hl : l.length < 4294967296) (b : UInt8) :
    CallDoes Tryd.prog 17 [.pointer (some ⟨0, 0, none⟩), .int .u8 b.toNat] [.cells 48 [.pointer (some ⟨0, 0, none⟩), .slice (some ⟨1, 2, some 0⟩) l.length 0], .vec 5 1 l.length f] fun v V' =>
      reshape 2 (wbSelC 1 v V') [0] [] [(0, 1, 2)] ⟨[v], V'⟩ (wbLeafC (BByte l.length f b.toNat) .nilIface fun m g => [.cells 48 [.pointer (some ⟨0, 0, none⟩), .slice (some ⟨2, 2, some 0⟩) m 0], .dead, .vec 5 1 m g]) := by
  refine of_run (ctxG_ok (l := []) (cs := [(23, copyT)]) (bs := []) .nil (.cons copyCk_ok .nil)) (n := 200) Tryd.func17 rfl .g ?_
  refine by_nf (B := (0 : Nat) = (0 : Nat) ∧
    ((1 : Nat) ≤ (1 : Nat) ∧
    l.length = l.length ∧
    Nat.succ (0 : Nat) ≤ (1 : Nat) ∧
    fitsN (l.length + (1 : Nat)) (1 : Nat)) ∧
    Nat.succ (0 : Nat) ≤ l.length + (1 : Nat) ∧
    QSt { tmps := [Value.nilIface], V := [VObj.cells (48 : TypeId) [Value.pointer (some { block := (0 : Nat), off := { block := (0 : Nat), off := (0 : Nat) : Addr }.off : Addr }), Value.slice (some { block := (2 : Nat), off := (2 : Nat), spot := some (0 : Nat) : Addr }) (l.length + (1 : Nat)) (0 : Nat)], VObj.dead, VObj.vec (5 : Nat) (1 : Nat) (l.length + (1 : Nat)) (joinF l.length f fun j => nth [] [[Value.int IntKind.u8 (↑b.toNat : Int)]] ((0 : Nat) + j))] : VSt } { tmps := [Value.nilIface], V := [VObj.cells (48 : TypeId) [Value.pointer (some { block := (0 : Nat), off := (0 : Nat) : Addr }), Value.slice (some { block := (2 : Nat), off := (2 : Nat), spot := some (0 : Nat) : Addr }) (l.length + (1 : Nat)) (0 : Nat)], VObj.dead, VObj.vec (5 : TypeId) (1 : Nat) (l.length + (1 : Nat)) (joinF l.length f fun j => nth [] [[Value.int IntKind.u8 (↑b.toNat : Int)]] ((0 : Nat) + j))] : VSt } ∧
    BLeaf (BByte l.length f (↑b.toNat : Int) (l.length + (1 : Nat)) (joinF l.length f fun j => nth [] [[Value.int IntKind.u8 (↑b.toNat : Int)]] ((0 : Nat) + j))) (l.length + (1 : Nat)) (l.length + (1 : Nat))) (by kernel_rfl) ?_
  exact ⟨rfl, ⟨by omega, rfl, by omega, ⟨by omega, by omega⟩⟩, by omega, ⟨rfl⟩, ⟨⟨l, b, rfl, hf, rfl, rfl, hf.app rfl⟩, rfl⟩⟩
theorem wsC_run1 (l : List UInt8) (f : Nat → List Value) (hf : RowB f l) (hl : l.length < 4294967296) (s : ByteArray) (h0 : 0 < s.size) (h1 : s.size < 4294967296) :
    CallDoes Tryd.prog 18 [.pointer (some ⟨0, 0, none⟩), .string s] [.cells 48 [.pointer (some ⟨0, 0, none⟩), .slice (some ⟨1, 2, some 0⟩) l.length 0], .vec 5 1 l.length f] fun v V' =>
      reshape 2 (wbSelC 1 v V') [0] [] [(0, 1, 2)] ⟨[v], V'⟩ (wbLeafC (BStr l.length f s) (.tuple ⟨[.int .i64 (s.size : Nat), .nilIface]⟩) fun m g => [.cells 48 [.pointer (some ⟨0, 0, none⟩), .slice (some ⟨2, 2, some 0⟩) m 0], .dead, .vec 5 1 m g]) := by
  refine of_run (ctxG_ok (l := []) (cs := [(23, copyT)]) (bs := []) .nil (.cons copyCk_ok .nil)) (n := 200) Tryd.func18 rfl .g ?_
  refine by_nf (B := (0 : Nat) = (0 : Nat) ∧
    (True ∧
    l.length = l.length ∧
    Nat.succ (0 : Nat) ≤ s.size ∧
    fitsN (l.length + s.size) (1 : Nat)) ∧
    Nat.succ (0 : Nat) ≤ l.length + s.size ∧
    QSt { tmps := [Value.tuple { toList := [Value.int IntKind.i64 (↑s.size : Int), Value.nilIface] : Array Value }], V := [VObj.cells (48 : TypeId) [Value.pointer (some { block := (0 : Nat), off := { block := (0 : Nat), off := (0 : Nat) : Addr }.off : Addr }), Value.slice (some { block := (2 : Nat), off := (2 : Nat), spot := some (0 : Nat) : Addr }) (l.length + s.size) (0 : Nat)], VObj.dead, VObj.vec (5 : Nat) (1 : Nat) (l.length + s.size) (joinF l.length f (u8 s))] : VSt } { tmps := [Value.tuple { toList := [Value.int IntKind.i64 (↑s.size : Int), Value.nilIface] : Array Value }], V := [VObj.cells (48 : TypeId) [Value.pointer (some { block := (0 : Nat), off := (0 : Nat) : Addr }), Value.slice (some { block := (2 : Nat), off := (2 : Nat), spot := some (0 : Nat) : Addr }) (l.length + s.size) (0 : Nat)], VObj.dead, VObj.vec (5 : TypeId) (1 : Nat) (l.length + s.size) (joinF l.length f (u8 s))] : VSt } ∧
    BLeaf (BStr l.length f s (l.length + s.size) (joinF l.length f (u8 s))) (l.length + s.size) (l.length + s.size)) (by kernel_rfl) ?_
  exact ⟨rfl, ⟨trivial, rfl, by omega, ⟨by omega, by omega⟩⟩, by omega, ⟨rfl⟩, ⟨⟨l, rfl, hf, rfl, hf.appS s⟩, rfl⟩⟩

theorem wbC_ok : CallOK Tryd.prog 17 wbC := by
  refine ⟨callable Tryd.func17 rfl (by decide +kernel), fun args V K hT => ?_⟩
  unfold wbC at hT
  split at hT
  · rename_i c
    obtain ⟨⟨b, rfl⟩, hK⟩ := hT
    refine CallDoes.reshape (wbSelC 0) [] [(0, 1, 1)] ?_
    intro env w hW hsc
    refine (wbC_run0 b env w hW hsc).mono ?_
    rintro e w' ⟨u, env', V', v, g1, g2, g3, g4, g5⟩
    refine ⟨u, env', V', v, g1, g2, g3, g4, reshape_mono (fun S hS => ?_) g5⟩
    unfold wbLeafC at hS
    split at hS
    · rename_i e1 e2 e3
      obtain ⟨⟨e4⟩, h5, rfl⟩ := hS
      obtain ⟨e4, e5⟩ := VSt.mk.inj e4
      unfold one1
      rw [e1]
      rw [e5]
      have e6 := (List.cons.inj e4).1
      subst e6
      exact hK _ _ h5
    · exact hS.elim
  · rename_i c n n' f
    obtain ⟨⟨l, rfl, rfl, hf, hl⟩, ⟨b, rfl⟩, hK⟩ := hT
    refine CallDoes.reshape (wbSelC 1) [] [(0, 1, 2)] ?_
    intro env w hW hsc
    refine (wbC_run1 l f hf hl b env w hW hsc).mono ?_
    rintro e w' ⟨u, env', V', v, g1, g2, g3, g4, g5⟩
    refine ⟨u, env', V', v, g1, g2, g3, g4, reshape_mono (fun S hS => ?_) g5⟩
    unfold wbLeafC at hS
    split at hS
    · rename_i e1 e2 e3
      obtain ⟨⟨e4⟩, h5, rfl⟩ := hS
      obtain ⟨e4, e5⟩ := VSt.mk.inj e4
      unfold one1
      rw [e1]
      rw [e5]
      have e6 := (List.cons.inj e4).1
      subst e6
      exact hK _ _ h5
    · exact hS.elim
  · exact hT.elim
theorem wsC_ok : CallOK Tryd.prog 18 wsC := by
  refine ⟨callable Tryd.func18 rfl (by decide +kernel), fun args V K hT => ?_⟩
  unfold wsC at hT
  split at hT
  · rename_i s n n' f
    obtain ⟨⟨l, rfl, rfl, hf, hl⟩, ⟨h0, h1⟩, hK⟩ := hT
    refine CallDoes.reshape (wbSelC 1) [] [(0, 1, 2)] ?_
    intro env w hW hsc
    refine (wsC_run1 l f hf hl s h0 h1 env w hW hsc).mono ?_
    rintro e w' ⟨u, env', V', v, g1, g2, g3, g4, g5⟩
    refine ⟨u, env', V', v, g1, g2, g3, g4, reshape_mono (fun S hS => ?_) g5⟩
    unfold wbLeafC at hS
    split at hS
    · rename_i e1 e2 e3
      obtain ⟨⟨e4⟩, h5, rfl⟩ := hS
      obtain ⟨e4, e5⟩ := VSt.mk.inj e4
      unfold one1
      rw [e1]
      rw [e5]
      have e6 := (List.cons.inj e4).1
      subst e6
      exact hK _ _ h5
    · exact hS.elim
  · exact hT.elim

def strC : CallS := fun args V K =>
  match args, V with
  | [.pointer (some ⟨0, 0, none⟩)], [.cells 48 [.pointer (some ⟨0, 0, none⟩), .slice (some ⟨1, 2, some 0⟩) n 0], .vec 5 1 n' f] =>
    BPre n n' f ∧ 0 < n ∧ ∀ s, BText n f s → K (.string s) [.dead, .dead]
  | _, _ => False
theorem strC_ok : CallOK Tryd.prog 19 strC := by
  refine ⟨callable Tryd.func19 rfl (by decide +kernel), fun args V K hT => ?_⟩
  unfold strC at hT
  split at hT
  · rename_i n n' f
    obtain ⟨⟨l, rfl, rfl, hf, hl⟩, hpos, hK⟩ := hT
    intro env w hW hsc
    obtain ⟨hh, hb⟩ := hW.mat 0 _ rfl
    obtain ⟨hm, hc0, hc⟩ := hW.mat 1 _ rfl
    have hcap : (env 1).cap ≠ 0 := fun h => by have := hc0 h; omega
    obtain ⟨hrows, hb1, cur, hg, hcs, hn⟩ := hc hcap
    have hra : renA env ⟨1, 0, some 0⟩ = ⟨(env 1).blk, 0, none⟩ := by simp [renA, hb1]
    have hrs : ren env (.slice (some ⟨1, 2, some 0⟩) l.length 0) = .slice (some ⟨(env 1).blk, 0, none⟩) l.length ((env 1).cap) := by
      rw [ren_slice2 env _ _ rfl]
      simp only [hra]
      cases hcp : (env 1).cap with
      | zero => exact absurd hcp hcap
      | succ k => simp
    have hh' : w.heap[(env 0).blk]? = some (.cells #[ren env (.pointer (some ⟨0, 0, none⟩)), .slice (some ⟨(env 1).blk, 0, none⟩) l.length (env 1).cap] 48 (0, 0)) := by
      rw [hh]; simp [hrs]
    have hl0 : l ≠ [] := fun h => by subst h; simp at hpos
    have h := str_run (env 0).blk (env 1).blk (env 1).cap _ l cur w hh' hg hcap (by rw [hcs]; omega) (by omega) hl0 (fun j x hx => by
      have hj : j < l.length := (List.getElem?_eq_some_iff.1 hx).1
      have := (hrows j hj).2 0 (.int .u8 x.toNat) (by rw [hf j x hx]; simp)
      rw [hb1] at this
      simpa using this)
    have ha : ([.pointer (some ⟨0, 0, none⟩)] : List Value).map (ren env) = [.pointer (some ⟨(env 0).blk, 0, none⟩)] := by simp [ren_ptr, renA, hb]
    rw [ha]
    refine h.mono ?_
    rintro e w' ⟨rfl, q, rfl⟩
    have hne : l.length ≠ 0 := by omega
    obtain ⟨h1, h2⟩ := RepW.poke (w' := (w.drewN q).freeze ⟨(env 1).blk, 0, none⟩ l.length) hW (i := 1) rfl rfl hcap (fun k hk => by
      unfold World.freeze
      rw [if_neg hne]
      simp only [Array.getElem?_modify]
      rw [if_neg (fun e => hk e.symm)]
      rfl) (by unfold World.freeze; rw [if_neg hne]; rfl) (by unfold World.freeze; rw [if_neg hne]; rfl) (by unfold World.freeze; rw [if_neg hne]; rfl) (by unfold World.freeze; rw [if_neg hne]; simp)
    have h3 := h1.kill (i := 0) (o := .cells 48 [.pointer (some ⟨0, 0, none⟩), .slice (some ⟨1, 2, some 0⟩) l.length 0]) rfl rfl
    have h4 := h2.kill (i := 0) (o := .cells 48 [.pointer (some ⟨0, 0, none⟩), .slice (some ⟨1, 2, some 0⟩) l.length 0]) rfl rfl
    exact ⟨_, env, _, _, rfl, .inr (by simp), h3, h4, hK _ ⟨l, rfl, hf, rfl⟩⟩
  · exact hT.elim

end Go.Sh
