/- Quote and the document's Quote: their contracts. -/
import Derived.Test.YtlnmampbiapglaaDoorShQ3
set_option linter.unusedSimpArgs false
set_option linter.unusedSectionVars false
set_option linter.unusedVariables false
set_option maxRecDepth 10000
namespace Go.Sh
open Go Go.X Go.Proofs
variable [WI]

def quB (n0 c0 : Nat) (f0 : Nat → List Value) (n1 c1 : Nat) (h : Nat → Int) (cap : Nat) (l : List UInt8) : BlkS := fun S K =>
  reshape S.V.length (quSel .normal S) (quKs .normal) [] quNc S (quJ n0 c0 f0 n1 c1 (fun j => [.int .u8 (h j)]) cap l l.length) ∧ S.V.length = 4 ∧
    ∀ m g, QuEnd l m m g → K .normal (quE n0 c0 f0 n1 c1 (fun j => [.int .u8 (h j)]) m g)

theorem qu_loop (n0 c0 : Nat) (f0 : Nat → List Value) (hf0 : ∀ r, r < n0 → ∀ v ∈ f0 r, Sc 0 v ∧ cellC v = true) (n1 c1 : Nat) (h : Nat → Int)
    (cap : Nat) (l : List UInt8) (hl : l.length ≤ 16777216) (h1 : IntB h l) (hln : l.length ≤ n1) (S : VSt) (K : Exit → VSt → Prop) (hB : quB n0 c0 f0 n1 c1 h cap l S K) : Does Tryd.prog (.block 0 (.loop (roundOf Tryd.f11 0))) S K := by
  obtain ⟨h2, h3, h4⟩ := hB
  refine Does.mono (Does.loopR (K := quK n0 c0 f0 n1 c1 (fun j => [.int .u8 (h j)]) l) quKs quSel [] quNc (quJ n0 c0 f0 n1 c1 (fun j => [.int .u8 (h j)]) cap l) S (reshape_mono (fun S hS => ⟨_, hS⟩) h2) fun k S' hJ => ?_) fun e S' hK => ?_
  · rw [h3]; exact qu_round n0 c0 f0 hf0 n1 c1 h cap l hl h1 hln k S' hJ
  · unfold quK at hK
    split at hK
    · split at hK
      · obtain ⟨⟨h5, rfl, h6⟩, ⟨rfl⟩⟩ := hK
        exact h4 _ _ ⟨h5, rfl, h6⟩
      · exact hK.elim
    · exact hK.elim

structure QOut (l : List UInt8) (s : ByteArray) : Prop where
  eq : bytesL s = quoteL l
structure QPre (r n n1 : Nat) (f1 : Nat → List Value) (l : List UInt8) : Prop where
  ex : r = 0 ∧ ∃ h : Nat → Int, f1 = (fun j => [.int .u8 (h j)]) ∧ n = l.length ∧ l.length ≤ n1 ∧ l.length ≤ 16777216 ∧ IntB h l

/-- Quote of a part of the second place -/
def quoteT (l : List UInt8) : CallS := fun args V K =>
  match args, V with
  | [.slice (some ⟨1, 0, some r⟩) n _], [.rows false 5 1 n0 c0 f0, .rows true 5 1 n1 c1 f1] => QPre r n n1 f1 l ∧ ∀ s, QOut l s → K (.string s) [.rows false 5 1 n0 c0 f0, .rows true 5 1 n1 c1 f1]
  | _, _ => False

def quLeaf (A : VW) (l : List UInt8) (S : VSt) : Prop :=
  match S.tmps with
  | [.string s] => QSt ⟨[], S.V⟩ ⟨[], A⟩ ∧ QOut l s
  | _ => False

theorem quote_run (n0 c0 : Nat) (f0 : Nat → List Value) (hf0 : ∀ r, r < n0 → ∀ v ∈ f0 r, Sc 0 v ∧ cellC v = true) (n1 c1 : Nat) (h : Nat → Int) (cap : Nat) (l : List UInt8) (hl : l.length ≤ 16777216) (h1 : IntB h l) (hln : l.length ≤ n1) :
    CallDoes Tryd.prog 11 [.slice (some ⟨1, 0, some 0⟩) l.length cap] [.rows false 5 1 n0 c0 f0, .rows true 5 1 n1 c1 fun j => [.int .u8 (h j)]] fun v V' =>
      reshape 2 [.keep 0, .keep 1] [0] [] [] ⟨[v], V'⟩ (quLeaf [.rows false 5 1 n0 c0 f0, .rows true 5 1 n1 c1 fun j => [.int .u8 (h j)]] l) := by
  refine of_run (ctxG_ok (l := []) (cs := [(17, wbT), (18, wsT), (19, strT)]) (bs := [(0, quB n0 c0 f0 n1 c1 h cap l)]) .nil (.cons wb_ok (.cons ws_ok (.cons str_ok .nil)))) (n := 200) Tryd.func11 rfl (.one rfl rfl (qu_loop n0 c0 f0 hf0 n1 c1 h cap l hl h1 hln)) ?_
  refine by_nf (B := IsByte (34 : Int) ∧
    ∀ (m : Nat) (g : Nat → List Value), BByte (0 : Nat) (fun x => []) (34 : Int) m g → ((Value.pointer (some { block := (2 : Nat), off := (0 : Nat) : Addr }) = Value.pointer (some { block := (2 : Nat), off := { block := (2 : Nat), off := (0 : Nat) : Addr }.off : Addr }) ∧
    Value.slice (some { block := (1 : Nat), off := (0 : Nat), spot := some (0 : Nat) : Addr }) l.length cap = Value.slice (some { block := (1 : Nat), off := { block := (1 : Nat), off := (0 : Nat), spot := some (0 : Nat) : Addr }.off, spot := some (0 : Nat) : Addr }) l.length cap ∧
    Value.int IntKind.i64 (↑l.length : Int) = Value.int IntKind.i64 (↑l.length : Int) ∧
    Value.int IntKind.i64 (0 : Int) = Value.int IntKind.i64 (0 : Int) ∧
    True) ∧
    QSt { tmps := [], V := [VObj.rows false (5 : TypeId) (1 : Nat) n0 c0 f0, VObj.rows true (5 : TypeId) (1 : Nat) n1 c1 fun j => [Value.int IntKind.u8 (h j)], VObj.cells (48 : TypeId) [Value.pointer (some { block := (2 : Nat), off := { block := (2 : Nat), off := (0 : Nat) : Addr }.off : Addr }), Value.slice (some { block := (4 : Nat), off := { block := (3 : Nat), off := (2 : Nat), spot := some (0 : Nat) : Addr }.off, spot := some (0 : Nat) : Addr }) m (0 : Nat)], VObj.dead, VObj.vec (5 : TypeId) (1 : Nat) m g] : VSt } { tmps := [], V := [VObj.rows false (5 : TypeId) (1 : Nat) n0 c0 f0, VObj.rows true (5 : TypeId) (1 : Nat) n1 c1 fun j => [Value.int IntKind.u8 (h j)], VObj.cells (48 : TypeId) [Value.pointer (some { block := (2 : Nat), off := (0 : Nat) : Addr }), Value.slice (some { block := (4 : Nat), off := (2 : Nat), spot := some (0 : Nat) : Addr }) m (0 : Nat)], VObj.dead, VObj.vec (5 : TypeId) (1 : Nat) m g] : VSt } ∧
    QuAt l l.length (0 : Int) m m g) ∧
    (4 : Nat) = (4 : Nat) ∧
    ∀ (m : Nat) (g : Nat → List Value), QuEnd l m m g → BPre m m g ∧
    IsByte (34 : Int) ∧
    ∀ (m_1 : Nat) (g_1 : Nat → List Value), BByte m g (34 : Int) m_1 g_1 → BPre m_1 m_1 g_1 ∧
    Nat.succ (0 : Nat) ≤ m_1 ∧
    ∀ (s : ByteArray), BText m_1 g_1 s → QSt { tmps := [], V := [VObj.rows false (5 : TypeId) (1 : Nat) n0 c0 f0, VObj.rows true (5 : TypeId) (1 : Nat) n1 c1 fun j => [Value.int IntKind.u8 (h j)]] : VSt } { tmps := [], V := [VObj.rows false (5 : TypeId) (1 : Nat) n0 c0 f0, VObj.rows true (5 : TypeId) (1 : Nat) n1 c1 fun j => [Value.int IntKind.u8 (h j)]] : VSt } ∧
    QOut l s) (by kernel_rfl) ?_
  refine ⟨⟨34, rfl⟩, fun m g hb => ?_⟩
  obtain ⟨hm, hr⟩ := BByte.app (T := []) hb (.nil _) (b := 34) rfl
  refine ⟨⟨⟨rfl, rfl, rfl, rfl, trivial⟩, ⟨rfl⟩, ⟨0, rfl, by omega, by rw [hm]; rfl, rfl, hr⟩⟩, rfl, fun m g hq => ?_⟩
  obtain ⟨hm, _, hg⟩ := hq
  subst hm
  have hlen := qbs_len l
  have hT : (34 :: qbs l).length ≤ 4 * l.length + 1 := by simp only [List.length_cons]; omega
  refine ⟨.of hg (by omega), ⟨34, rfl⟩, fun m2 g2 hb2 => ?_⟩
  obtain ⟨rfl, hr2⟩ := hb2.app hg (b := 34) rfl
  have hT2 : (34 :: qbs l ++ [34]).length = (34 :: qbs l).length + 1 := by simp
  refine ⟨.of hr2 (by omega), by omega, fun s hs => ⟨⟨rfl⟩, ?_⟩⟩
  obtain ⟨l2, h2, h3, rfl⟩ := hs
  have := hr2.same h3 h2
  subst this
  exact ⟨by simp [bytesL, quoteL]⟩

theorem quote_ok (l : List UInt8) : CallOK Tryd.prog 11 (quoteT l) := by
  refine ⟨callable Tryd.func11 rfl (by decide +kernel), fun args V K hT => ?_⟩
  unfold quoteT at hT
  split at hT
  · rename_i r n c n0 c0 f0 n1 c1 f1
    obtain ⟨⟨rfl, h, rfl, rfl, hln, hl, h1⟩, hK⟩ := hT
    refine CallDoes.reshape (fun _ _ => [.keep 0, .keep 1]) [] [] ?_
    intro env w hW hsc
    have hf0 : ∀ r, r < n0 → ∀ v ∈ f0 r, Sc 0 v ∧ cellC v = true := hW.sc 0 _ rfl
    refine (quote_run n0 c0 f0 hf0 n1 c1 h c l hl h1 hln env w hW hsc).mono ?_
    rintro e w' ⟨u, env', V', v, g1, g2, g3, g4, g5⟩
    refine ⟨u, env', V', v, g1, g2, g3, g4, reshape_mono (fun S hS => ?_) g5⟩
    unfold quLeaf at hS
    split at hS
    · rename_i e1
      obtain ⟨⟨e4⟩, h5⟩ := hS
      unfold one1
      rw [e1, (VSt.mk.inj e4).2]
      exact hK _ h5
    · exact hS.elim
  · exact hT.elim

/-! ### The document's Quote -/
theorem RowB.appL {f : Nat → List Value} {l : List UInt8} (h : RowB f l) {rows : List (List Value)} {bs : List UInt8} (hr : ∀ (j : Nat) (b : UInt8), bs[j]? = some b → nth [] rows (0 + j) = [.int .u8 (b.toNat : Int)]) :
    RowB (joinF l.length f fun j => nth [] rows (0 + j)) (l ++ bs) := by
  intro j b hj
  rw [List.getElem?_append] at hj
  unfold joinF
  split at hj
  · rename_i hlt
    rw [if_pos hlt]; exact h j b hj
  · rename_i hge
    rw [if_neg hge]
    exact hr _ b hj

def rqTm (n cap m c : Nat) (i : Int) : List Value := [.slice (some ⟨0, 0, some 0⟩) n cap, unk, unk, .slice (some ⟨3, 2, some 0⟩) m c, .int .i64 i] ++ List.replicate 60 unk
def rqV (n0 c0 : Nat) (f0 : Nat → List Value) (n1 c1 : Nat) (f1 : Nat → List Value) (m : Nat) (g : Nat → List Value) : VW := [.rows false 5 1 n0 c0 f0, .rows true 5 1 n1 c1 f1, .dead, .vec 5 1 m g]
def rqJ (n0 c0 : Nat) (f0 : Nat → List Value) (n1 c1 : Nat) (f1 : Nat → List Value) (cap : Nat) (l : List UInt8) (k : Nat) (S : VSt) : Prop :=
  match nth undef S.tmps 3, nth undef S.tmps 4, (S.V.getLast? : Option VObj) with
  | .slice (some _) m c, .int .i64 i, some (.vec 5 1 m' g) => leT (rqTm l.length cap m c i) S.tmps ∧ QSt ⟨[], S.V⟩ ⟨[], rqV n0 c0 f0 n1 c1 f1 m' g⟩ ∧ QuAt l k i m m' g
  | _, _, _ => False
def rqE (n0 c0 : Nat) (f0 : Nat → List Value) (n1 c1 : Nat) (f1 : Nat → List Value) (m c : Nat) (g : Nat → List Value) : VSt := ⟨[unk, unk, unk, .slice (some ⟨3, 2, some 0⟩) m c] ++ List.replicate 61 unk, rqV n0 c0 f0 n1 c1 f1 m g⟩
def rqK (n0 c0 : Nat) (f0 : Nat → List Value) (n1 c1 : Nat) (f1 : Nat → List Value) (l : List UInt8) (e : Exit) (S : VSt) : Prop :=
  match e with
  | .normal =>
    match nth undef S.tmps 3, (S.V.getLast? : Option VObj) with
    | .slice (some _) m c, some (.vec 5 1 m' g) => QuEnd l m m' g ∧ QSt S (rqE n0 c0 f0 n1 c1 f1 m' c g)
    | _, _ => False
  | _ => False
def rqKs (e : Exit) : List Nat := match e with | .normal => [0, 3, 4] | .exit _ => [3] | _ => []
def rqSel (_ : Exit) (S : VSt) : List Sel := [.keep 0, .keep 1, .drop 2, selS 5 1 S.V (nth undef S.tmps 3)]
def rqNt : List (Nat × Nat) := [(3, 3)]

theorem rqJ_eq {n0 c0 : Nat} {f0 : Nat → List Value} {n1 c1 : Nat} {f1 : Nat → List Value} {cap : Nat} {l : List UInt8} {k : Nat} {S : VSt} (hJ : rqJ n0 c0 f0 n1 c1 f1 cap l k S) :
    ∃ (j c : Nat) (g : Nat → List Value), leT (rqTm l.length cap (34 :: qbs (l.take j)).length c j) S.tmps ∧ S.V = rqV n0 c0 f0 n1 c1 f1 (34 :: qbs (l.take j)).length g ∧ j + k = l.length ∧ RowB g (34 :: qbs (l.take j)) := by
  unfold rqJ at hJ
  split at hJ
  · obtain ⟨h1, ⟨h2⟩, ⟨j, rfl, h3, rfl, rfl, h4⟩⟩ := hJ
    exact ⟨j, _, _, h1, (VSt.mk.inj h2).2, h3, h4⟩
  · exact hJ.elim

theorem hex_all2 : ∀ n : Fin 256, (0 ≤ IntKind.u8.wrap (((n.val : Int)).tdiv (16 : Int)) ∧ IntKind.u8.wrap (((n.val : Int)).tdiv (16 : Int)) + 1 ≤ ((digS.size : Nat) : Int)) ∧
    strAt digS (IntKind.u8.wrap (((n.val : Int)).tdiv (16 : Int))).toNat = (hexD (n.val / 16)).toNat ∧
    (0 ≤ ((n.val : Int)).tmod (16 : Int) ∧ ((n.val : Int)).tmod (16 : Int) + 1 ≤ ((digS.size : Nat) : Int)) ∧
    strAt digS (((n.val : Int)).tmod (16 : Int)).toNat = (hexD (n.val % 16)).toNat := by decide +kernel

theorem rq_round (n0 c0 : Nat) (h : Nat → Int) (n1 c1 : Nat) (f1 : Nat → List Value) (hf1 : ∀ r, r < n1 → ∀ v ∈ f1 r, Sc 0 v ∧ cellC v = true)
    (cap : Nat) (l : List UInt8) (hl : l.length ≤ 16777216) (h1 : IntB h l) (hln : l.length ≤ n0) (k : Nat) (S : VSt) (hJ : rqJ n0 c0 (fun j => [.int .u8 (h j)]) n1 c1 f1 cap l k S) :
    Does Tryd.prog (roundOf Tryd.f12 0) S fun e S' => reshape 3 (rqSel e S') (rqKs e) rqNt [] S' (roundR 0 (rqJ n0 c0 (fun j => [.int .u8 (h j)]) n1 c1 f1 cap l) k (rqK n0 c0 (fun j => [.int .u8 (h j)]) n1 c1 f1 l) e) := by
  obtain ⟨j, cc, g, ht, hV, hj, hg⟩ := rqJ_eq hJ
  refine Does.weaken (S' := ⟨rqTm l.length cap (34 :: qbs (l.take j)).length cc j, rqV n0 c0 (fun j => [.int .u8 (h j)]) n1 c1 f1 (34 :: qbs (l.take j)).length g⟩) ?_ ht hV.symm (.of rfl fun k o hk => ?_)
  · refine of_code (ctxG_ok (l := []) (cs := []) (bs := []) .nil .nil) (n := 200) .g ?_
    refine by_nf (B := bsplit (decide ((↑j : Int) < (↑l.length : Int))) (((0 : Int) ≤ (↑j : Int) ∧
      (↑j : Int) + (1 : Int) ≤ (↑l.length : Int)) ∧
      ((0 : Nat) + (↑j : Int).toNat).succ ≤ n0 ∧
      bsplit (h ((0 : Nat) + (↑j : Int).toNat) == (34 : Int)) (((2 : Nat) ≤ (2 : Nat) ∧
      ((34 : UInt8) :: qbs (List.take j l)).length = ((34 : UInt8) :: qbs (List.take j l)).length ∧
      Nat.succ (0 : Nat) ≤ (2 : Nat) ∧
      fitsN (((34 : UInt8) :: qbs (List.take j l)).length + (2 : Nat)) (1 : Nat)) ∧
      Nat.succ (0 : Nat) ≤ ((34 : UInt8) :: qbs (List.take j l)).length + (2 : Nat) ∧
      (k = (0 : Nat) → False) ∧
      (Value.slice (some { block := (0 : Nat), off := (0 : Nat), spot := some (0 : Nat) : Addr }) l.length cap = Value.slice (some { block := (0 : Nat), off := { block := (0 : Nat), off := (0 : Nat), spot := some (0 : Nat) : Addr }.off, spot := some (0 : Nat) : Addr }) l.length cap ∧
      Value.slice (some { block := (3 : Nat), off := (2 : Nat), spot := some (0 : Nat) : Addr }) (((34 : UInt8) :: qbs (List.take j l)).length + (2 : Nat)) (0 : Nat) = Value.slice (some { block := (3 : Nat), off := (2 : Nat), spot := some (0 : Nat) : Addr }) (((34 : UInt8) :: qbs (List.take j l)).length + (2 : Nat)) (0 : Nat) ∧
      Value.int IntKind.i64 (IntKind.i64.wrap ((↑j : Int) + (1 : Int))) = Value.int IntKind.i64 (IntKind.i64.wrap ((↑j : Int) + (1 : Int))) ∧
      True) ∧
      QSt { tmps := [], V := [VObj.rows false (5 : TypeId) (1 : Nat) n0 c0 fun j => [Value.int IntKind.u8 (h j)], VObj.rows true (5 : TypeId) (1 : Nat) n1 c1 f1, VObj.dead, VObj.vec (5 : Nat) (1 : Nat) (((34 : UInt8) :: qbs (List.take j l)).length + (2 : Nat)) (joinF ((34 : UInt8) :: qbs (List.take j l)).length g fun j_1 => nth [] [[Value.int IntKind.u8 (92 : Int)], [Value.int IntKind.u8 (h ((0 : Nat) + (↑j : Int).toNat))]] ((0 : Nat) + j_1))] : VSt } { tmps := [], V := [VObj.rows false (5 : TypeId) (1 : Nat) n0 c0 fun j => [Value.int IntKind.u8 (h j)], VObj.rows true (5 : TypeId) (1 : Nat) n1 c1 f1, VObj.dead, VObj.vec (5 : TypeId) (1 : Nat) (((34 : UInt8) :: qbs (List.take j l)).length + (2 : Nat)) (joinF ((34 : UInt8) :: qbs (List.take j l)).length g fun j_1 => nth [] [[Value.int IntKind.u8 (92 : Int)], [Value.int IntKind.u8 (h ((0 : Nat) + (↑j : Int).toNat))]] ((0 : Nat) + j_1))] : VSt } ∧
      QuAt l (k - (1 : Nat)) (IntKind.i64.wrap ((↑j : Int) + (1 : Int))) (((34 : UInt8) :: qbs (List.take j l)).length + (2 : Nat)) (((34 : UInt8) :: qbs (List.take j l)).length + (2 : Nat)) (joinF ((34 : UInt8) :: qbs (List.take j l)).length g fun j_1 => nth [] [[Value.int IntKind.u8 (92 : Int)], [Value.int IntKind.u8 (h ((0 : Nat) + (↑j : Int).toNat))]] ((0 : Nat) + j_1)))
      (bsplit (h ((0 : Nat) + (↑j : Int).toNat) == (92 : Int)) (((2 : Nat) ≤ (2 : Nat) ∧
      ((34 : UInt8) :: qbs (List.take j l)).length = ((34 : UInt8) :: qbs (List.take j l)).length ∧
      Nat.succ (0 : Nat) ≤ (2 : Nat) ∧
      fitsN (((34 : UInt8) :: qbs (List.take j l)).length + (2 : Nat)) (1 : Nat)) ∧
      Nat.succ (0 : Nat) ≤ ((34 : UInt8) :: qbs (List.take j l)).length + (2 : Nat) ∧
      (k = (0 : Nat) → False) ∧
      (Value.slice (some { block := (0 : Nat), off := (0 : Nat), spot := some (0 : Nat) : Addr }) l.length cap = Value.slice (some { block := (0 : Nat), off := { block := (0 : Nat), off := (0 : Nat), spot := some (0 : Nat) : Addr }.off, spot := some (0 : Nat) : Addr }) l.length cap ∧
      Value.slice (some { block := (3 : Nat), off := (2 : Nat), spot := some (0 : Nat) : Addr }) (((34 : UInt8) :: qbs (List.take j l)).length + (2 : Nat)) (0 : Nat) = Value.slice (some { block := (3 : Nat), off := (2 : Nat), spot := some (0 : Nat) : Addr }) (((34 : UInt8) :: qbs (List.take j l)).length + (2 : Nat)) (0 : Nat) ∧
      Value.int IntKind.i64 (IntKind.i64.wrap ((↑j : Int) + (1 : Int))) = Value.int IntKind.i64 (IntKind.i64.wrap ((↑j : Int) + (1 : Int))) ∧
      True) ∧
      QSt { tmps := [], V := [VObj.rows false (5 : TypeId) (1 : Nat) n0 c0 fun j => [Value.int IntKind.u8 (h j)], VObj.rows true (5 : TypeId) (1 : Nat) n1 c1 f1, VObj.dead, VObj.vec (5 : Nat) (1 : Nat) (((34 : UInt8) :: qbs (List.take j l)).length + (2 : Nat)) (joinF ((34 : UInt8) :: qbs (List.take j l)).length g fun j_1 => nth [] [[Value.int IntKind.u8 (92 : Int)], [Value.int IntKind.u8 (h ((0 : Nat) + (↑j : Int).toNat))]] ((0 : Nat) + j_1))] : VSt } { tmps := [], V := [VObj.rows false (5 : TypeId) (1 : Nat) n0 c0 fun j => [Value.int IntKind.u8 (h j)], VObj.rows true (5 : TypeId) (1 : Nat) n1 c1 f1, VObj.dead, VObj.vec (5 : TypeId) (1 : Nat) (((34 : UInt8) :: qbs (List.take j l)).length + (2 : Nat)) (joinF ((34 : UInt8) :: qbs (List.take j l)).length g fun j_1 => nth [] [[Value.int IntKind.u8 (92 : Int)], [Value.int IntKind.u8 (h ((0 : Nat) + (↑j : Int).toNat))]] ((0 : Nat) + j_1))] : VSt } ∧
      QuAt l (k - (1 : Nat)) (IntKind.i64.wrap ((↑j : Int) + (1 : Int))) (((34 : UInt8) :: qbs (List.take j l)).length + (2 : Nat)) (((34 : UInt8) :: qbs (List.take j l)).length + (2 : Nat)) (joinF ((34 : UInt8) :: qbs (List.take j l)).length g fun j_1 => nth [] [[Value.int IntKind.u8 (92 : Int)], [Value.int IntKind.u8 (h ((0 : Nat) + (↑j : Int).toNat))]] ((0 : Nat) + j_1)))
      (bsplit (h ((0 : Nat) + (↑j : Int).toNat) == (10 : Int)) (((2 : Nat) ≤ (2 : Nat) ∧
      ((34 : UInt8) :: qbs (List.take j l)).length = ((34 : UInt8) :: qbs (List.take j l)).length ∧
      Nat.succ (0 : Nat) ≤ (2 : Nat) ∧
      fitsN (((34 : UInt8) :: qbs (List.take j l)).length + (2 : Nat)) (1 : Nat)) ∧
      Nat.succ (0 : Nat) ≤ ((34 : UInt8) :: qbs (List.take j l)).length + (2 : Nat) ∧
      (k = (0 : Nat) → False) ∧
      (Value.slice (some { block := (0 : Nat), off := (0 : Nat), spot := some (0 : Nat) : Addr }) l.length cap = Value.slice (some { block := (0 : Nat), off := { block := (0 : Nat), off := (0 : Nat), spot := some (0 : Nat) : Addr }.off, spot := some (0 : Nat) : Addr }) l.length cap ∧
      Value.slice (some { block := (3 : Nat), off := (2 : Nat), spot := some (0 : Nat) : Addr }) (((34 : UInt8) :: qbs (List.take j l)).length + (2 : Nat)) (0 : Nat) = Value.slice (some { block := (3 : Nat), off := (2 : Nat), spot := some (0 : Nat) : Addr }) (((34 : UInt8) :: qbs (List.take j l)).length + (2 : Nat)) (0 : Nat) ∧
      Value.int IntKind.i64 (IntKind.i64.wrap ((↑j : Int) + (1 : Int))) = Value.int IntKind.i64 (IntKind.i64.wrap ((↑j : Int) + (1 : Int))) ∧
      True) ∧
      QSt { tmps := [], V := [VObj.rows false (5 : TypeId) (1 : Nat) n0 c0 fun j => [Value.int IntKind.u8 (h j)], VObj.rows true (5 : TypeId) (1 : Nat) n1 c1 f1, VObj.dead, VObj.vec (5 : Nat) (1 : Nat) (((34 : UInt8) :: qbs (List.take j l)).length + (2 : Nat)) (joinF ((34 : UInt8) :: qbs (List.take j l)).length g fun j => nth [] [[Value.int IntKind.u8 (92 : Int)], [Value.int IntKind.u8 (110 : Int)]] ((0 : Nat) + j))] : VSt } { tmps := [], V := [VObj.rows false (5 : TypeId) (1 : Nat) n0 c0 fun j => [Value.int IntKind.u8 (h j)], VObj.rows true (5 : TypeId) (1 : Nat) n1 c1 f1, VObj.dead, VObj.vec (5 : TypeId) (1 : Nat) (((34 : UInt8) :: qbs (List.take j l)).length + (2 : Nat)) (joinF ((34 : UInt8) :: qbs (List.take j l)).length g fun j => nth [] [[Value.int IntKind.u8 (92 : Int)], [Value.int IntKind.u8 (110 : Int)]] ((0 : Nat) + j))] : VSt } ∧
      QuAt l (k - (1 : Nat)) (IntKind.i64.wrap ((↑j : Int) + (1 : Int))) (((34 : UInt8) :: qbs (List.take j l)).length + (2 : Nat)) (((34 : UInt8) :: qbs (List.take j l)).length + (2 : Nat)) (joinF ((34 : UInt8) :: qbs (List.take j l)).length g fun j => nth [] [[Value.int IntKind.u8 (92 : Int)], [Value.int IntKind.u8 (110 : Int)]] ((0 : Nat) + j)))
      (bsplit (h ((0 : Nat) + (↑j : Int).toNat) == (9 : Int)) (((2 : Nat) ≤ (2 : Nat) ∧
      ((34 : UInt8) :: qbs (List.take j l)).length = ((34 : UInt8) :: qbs (List.take j l)).length ∧
      Nat.succ (0 : Nat) ≤ (2 : Nat) ∧
      fitsN (((34 : UInt8) :: qbs (List.take j l)).length + (2 : Nat)) (1 : Nat)) ∧
      Nat.succ (0 : Nat) ≤ ((34 : UInt8) :: qbs (List.take j l)).length + (2 : Nat) ∧
      (k = (0 : Nat) → False) ∧
      (Value.slice (some { block := (0 : Nat), off := (0 : Nat), spot := some (0 : Nat) : Addr }) l.length cap = Value.slice (some { block := (0 : Nat), off := { block := (0 : Nat), off := (0 : Nat), spot := some (0 : Nat) : Addr }.off, spot := some (0 : Nat) : Addr }) l.length cap ∧
      Value.slice (some { block := (3 : Nat), off := (2 : Nat), spot := some (0 : Nat) : Addr }) (((34 : UInt8) :: qbs (List.take j l)).length + (2 : Nat)) (0 : Nat) = Value.slice (some { block := (3 : Nat), off := (2 : Nat), spot := some (0 : Nat) : Addr }) (((34 : UInt8) :: qbs (List.take j l)).length + (2 : Nat)) (0 : Nat) ∧
      Value.int IntKind.i64 (IntKind.i64.wrap ((↑j : Int) + (1 : Int))) = Value.int IntKind.i64 (IntKind.i64.wrap ((↑j : Int) + (1 : Int))) ∧
      True) ∧
      QSt { tmps := [], V := [VObj.rows false (5 : TypeId) (1 : Nat) n0 c0 fun j => [Value.int IntKind.u8 (h j)], VObj.rows true (5 : TypeId) (1 : Nat) n1 c1 f1, VObj.dead, VObj.vec (5 : Nat) (1 : Nat) (((34 : UInt8) :: qbs (List.take j l)).length + (2 : Nat)) (joinF ((34 : UInt8) :: qbs (List.take j l)).length g fun j => nth [] [[Value.int IntKind.u8 (92 : Int)], [Value.int IntKind.u8 (116 : Int)]] ((0 : Nat) + j))] : VSt } { tmps := [], V := [VObj.rows false (5 : TypeId) (1 : Nat) n0 c0 fun j => [Value.int IntKind.u8 (h j)], VObj.rows true (5 : TypeId) (1 : Nat) n1 c1 f1, VObj.dead, VObj.vec (5 : TypeId) (1 : Nat) (((34 : UInt8) :: qbs (List.take j l)).length + (2 : Nat)) (joinF ((34 : UInt8) :: qbs (List.take j l)).length g fun j => nth [] [[Value.int IntKind.u8 (92 : Int)], [Value.int IntKind.u8 (116 : Int)]] ((0 : Nat) + j))] : VSt } ∧
      QuAt l (k - (1 : Nat)) (IntKind.i64.wrap ((↑j : Int) + (1 : Int))) (((34 : UInt8) :: qbs (List.take j l)).length + (2 : Nat)) (((34 : UInt8) :: qbs (List.take j l)).length + (2 : Nat)) (joinF ((34 : UInt8) :: qbs (List.take j l)).length g fun j => nth [] [[Value.int IntKind.u8 (92 : Int)], [Value.int IntKind.u8 (116 : Int)]] ((0 : Nat) + j)))
      (bsplit (decide (h ((0 : Nat) + (↑j : Int).toNat) < (32 : Int))) (((16 : Int) = (0 : Int) → False) ∧
      ((0 : Int) ≤ IntKind.u8.wrap ((h ((0 : Nat) + (↑j : Int).toNat)).tdiv (16 : Int)) ∧
      IntKind.u8.wrap ((h ((0 : Nat) + (↑j : Int).toNat)).tdiv (16 : Int)) + (1 : Int) ≤ (↑{ data := #[(48 : UInt8), (49 : UInt8), (50 : UInt8), (51 : UInt8), (52 : UInt8), (53 : UInt8), (54 : UInt8), (55 : UInt8), (56 : UInt8), (57 : UInt8), (97 : UInt8), (98 : UInt8), (99 : UInt8), (100 : UInt8), (101 : UInt8), (102 : UInt8)] : ByteArray }.size : Int)) ∧
      ((16 : Int) = (0 : Int) → False) ∧
      ((0 : Int) ≤ (h ((0 : Nat) + (↑j : Int).toNat)).tmod (16 : Int) ∧
      (h ((0 : Nat) + (↑j : Int).toNat)).tmod (16 : Int) + (1 : Int) ≤ (↑{ data := #[(48 : UInt8), (49 : UInt8), (50 : UInt8), (51 : UInt8), (52 : UInt8), (53 : UInt8), (54 : UInt8), (55 : UInt8), (56 : UInt8), (57 : UInt8), (97 : UInt8), (98 : UInt8), (99 : UInt8), (100 : UInt8), (101 : UInt8), (102 : UInt8)] : ByteArray }.size : Int)) ∧
      ((4 : Nat) ≤ (4 : Nat) ∧
      ((34 : UInt8) :: qbs (List.take j l)).length = ((34 : UInt8) :: qbs (List.take j l)).length ∧
      Nat.succ (0 : Nat) ≤ (4 : Nat) ∧
      fitsN (((34 : UInt8) :: qbs (List.take j l)).length + (4 : Nat)) (1 : Nat)) ∧
      Nat.succ (0 : Nat) ≤ ((34 : UInt8) :: qbs (List.take j l)).length + (4 : Nat) ∧
      (k = (0 : Nat) → False) ∧
      (Value.slice (some { block := (0 : Nat), off := (0 : Nat), spot := some (0 : Nat) : Addr }) l.length cap = Value.slice (some { block := (0 : Nat), off := { block := (0 : Nat), off := (0 : Nat), spot := some (0 : Nat) : Addr }.off, spot := some (0 : Nat) : Addr }) l.length cap ∧
      Value.slice (some { block := (3 : Nat), off := (2 : Nat), spot := some (0 : Nat) : Addr }) (((34 : UInt8) :: qbs (List.take j l)).length + (4 : Nat)) (0 : Nat) = Value.slice (some { block := (3 : Nat), off := (2 : Nat), spot := some (0 : Nat) : Addr }) (((34 : UInt8) :: qbs (List.take j l)).length + (4 : Nat)) (0 : Nat) ∧
      Value.int IntKind.i64 (IntKind.i64.wrap ((↑j : Int) + (1 : Int))) = Value.int IntKind.i64 (IntKind.i64.wrap ((↑j : Int) + (1 : Int))) ∧
      True) ∧
      QSt { tmps := [], V := [VObj.rows false (5 : TypeId) (1 : Nat) n0 c0 fun j => [Value.int IntKind.u8 (h j)], VObj.rows true (5 : TypeId) (1 : Nat) n1 c1 f1, VObj.dead, VObj.vec (5 : Nat) (1 : Nat) (((34 : UInt8) :: qbs (List.take j l)).length + (4 : Nat)) (joinF ((34 : UInt8) :: qbs (List.take j l)).length g fun j_1 => nth [] [[Value.int IntKind.u8 (92 : Int)], [Value.int IntKind.u8 (120 : Int)], [Value.int IntKind.u8 (↑(strAt { data := #[(48 : UInt8), (49 : UInt8), (50 : UInt8), (51 : UInt8), (52 : UInt8), (53 : UInt8), (54 : UInt8), (55 : UInt8), (56 : UInt8), (57 : UInt8), (97 : UInt8), (98 : UInt8), (99 : UInt8), (100 : UInt8), (101 : UInt8), (102 : UInt8)] : ByteArray } (IntKind.u8.wrap ((h ((0 : Nat) + (↑j : Int).toNat)).tdiv (16 : Int))).toNat) : Int)], [Value.int IntKind.u8 (↑(strAt { data := #[(48 : UInt8), (49 : UInt8), (50 : UInt8), (51 : UInt8), (52 : UInt8), (53 : UInt8), (54 : UInt8), (55 : UInt8), (56 : UInt8), (57 : UInt8), (97 : UInt8), (98 : UInt8), (99 : UInt8), (100 : UInt8), (101 : UInt8), (102 : UInt8)] : ByteArray } ((h ((0 : Nat) + (↑j : Int).toNat)).tmod (16 : Int)).toNat) : Int)]] ((0 : Nat) + j_1))] : VSt } { tmps := [], V := [VObj.rows false (5 : TypeId) (1 : Nat) n0 c0 fun j => [Value.int IntKind.u8 (h j)], VObj.rows true (5 : TypeId) (1 : Nat) n1 c1 f1, VObj.dead, VObj.vec (5 : TypeId) (1 : Nat) (((34 : UInt8) :: qbs (List.take j l)).length + (4 : Nat)) (joinF ((34 : UInt8) :: qbs (List.take j l)).length g fun j_1 => nth [] [[Value.int IntKind.u8 (92 : Int)], [Value.int IntKind.u8 (120 : Int)], [Value.int IntKind.u8 (↑(strAt { data := #[(48 : UInt8), (49 : UInt8), (50 : UInt8), (51 : UInt8), (52 : UInt8), (53 : UInt8), (54 : UInt8), (55 : UInt8), (56 : UInt8), (57 : UInt8), (97 : UInt8), (98 : UInt8), (99 : UInt8), (100 : UInt8), (101 : UInt8), (102 : UInt8)] : ByteArray } (IntKind.u8.wrap ((h ((0 : Nat) + (↑j : Int).toNat)).tdiv (16 : Int))).toNat) : Int)], [Value.int IntKind.u8 (↑(strAt { data := #[(48 : UInt8), (49 : UInt8), (50 : UInt8), (51 : UInt8), (52 : UInt8), (53 : UInt8), (54 : UInt8), (55 : UInt8), (56 : UInt8), (57 : UInt8), (97 : UInt8), (98 : UInt8), (99 : UInt8), (100 : UInt8), (101 : UInt8), (102 : UInt8)] : ByteArray } ((h ((0 : Nat) + (↑j : Int).toNat)).tmod (16 : Int)).toNat) : Int)]] ((0 : Nat) + j_1))] : VSt } ∧
      QuAt l (k - (1 : Nat)) (IntKind.i64.wrap ((↑j : Int) + (1 : Int))) (((34 : UInt8) :: qbs (List.take j l)).length + (4 : Nat)) (((34 : UInt8) :: qbs (List.take j l)).length + (4 : Nat)) (joinF ((34 : UInt8) :: qbs (List.take j l)).length g fun j_1 => nth [] [[Value.int IntKind.u8 (92 : Int)], [Value.int IntKind.u8 (120 : Int)], [Value.int IntKind.u8 (↑(strAt { data := #[(48 : UInt8), (49 : UInt8), (50 : UInt8), (51 : UInt8), (52 : UInt8), (53 : UInt8), (54 : UInt8), (55 : UInt8), (56 : UInt8), (57 : UInt8), (97 : UInt8), (98 : UInt8), (99 : UInt8), (100 : UInt8), (101 : UInt8), (102 : UInt8)] : ByteArray } (IntKind.u8.wrap ((h ((0 : Nat) + (↑j : Int).toNat)).tdiv (16 : Int))).toNat) : Int)], [Value.int IntKind.u8 (↑(strAt { data := #[(48 : UInt8), (49 : UInt8), (50 : UInt8), (51 : UInt8), (52 : UInt8), (53 : UInt8), (54 : UInt8), (55 : UInt8), (56 : UInt8), (57 : UInt8), (97 : UInt8), (98 : UInt8), (99 : UInt8), (100 : UInt8), (101 : UInt8), (102 : UInt8)] : ByteArray } ((h ((0 : Nat) + (↑j : Int).toNat)).tmod (16 : Int)).toNat) : Int)]] ((0 : Nat) + j_1)))
      (bsplit (decide (h ((0 : Nat) + (↑j : Int).toNat) > (126 : Int))) (((16 : Int) = (0 : Int) → False) ∧
      ((0 : Int) ≤ IntKind.u8.wrap ((h ((0 : Nat) + (↑j : Int).toNat)).tdiv (16 : Int)) ∧
      IntKind.u8.wrap ((h ((0 : Nat) + (↑j : Int).toNat)).tdiv (16 : Int)) + (1 : Int) ≤ (↑{ data := #[(48 : UInt8), (49 : UInt8), (50 : UInt8), (51 : UInt8), (52 : UInt8), (53 : UInt8), (54 : UInt8), (55 : UInt8), (56 : UInt8), (57 : UInt8), (97 : UInt8), (98 : UInt8), (99 : UInt8), (100 : UInt8), (101 : UInt8), (102 : UInt8)] : ByteArray }.size : Int)) ∧
      ((16 : Int) = (0 : Int) → False) ∧
      ((0 : Int) ≤ (h ((0 : Nat) + (↑j : Int).toNat)).tmod (16 : Int) ∧
      (h ((0 : Nat) + (↑j : Int).toNat)).tmod (16 : Int) + (1 : Int) ≤ (↑{ data := #[(48 : UInt8), (49 : UInt8), (50 : UInt8), (51 : UInt8), (52 : UInt8), (53 : UInt8), (54 : UInt8), (55 : UInt8), (56 : UInt8), (57 : UInt8), (97 : UInt8), (98 : UInt8), (99 : UInt8), (100 : UInt8), (101 : UInt8), (102 : UInt8)] : ByteArray }.size : Int)) ∧
      ((4 : Nat) ≤ (4 : Nat) ∧
      ((34 : UInt8) :: qbs (List.take j l)).length = ((34 : UInt8) :: qbs (List.take j l)).length ∧
      Nat.succ (0 : Nat) ≤ (4 : Nat) ∧
      fitsN (((34 : UInt8) :: qbs (List.take j l)).length + (4 : Nat)) (1 : Nat)) ∧
      Nat.succ (0 : Nat) ≤ ((34 : UInt8) :: qbs (List.take j l)).length + (4 : Nat) ∧
      (k = (0 : Nat) → False) ∧
      (Value.slice (some { block := (0 : Nat), off := (0 : Nat), spot := some (0 : Nat) : Addr }) l.length cap = Value.slice (some { block := (0 : Nat), off := { block := (0 : Nat), off := (0 : Nat), spot := some (0 : Nat) : Addr }.off, spot := some (0 : Nat) : Addr }) l.length cap ∧
      Value.slice (some { block := (3 : Nat), off := (2 : Nat), spot := some (0 : Nat) : Addr }) (((34 : UInt8) :: qbs (List.take j l)).length + (4 : Nat)) (0 : Nat) = Value.slice (some { block := (3 : Nat), off := (2 : Nat), spot := some (0 : Nat) : Addr }) (((34 : UInt8) :: qbs (List.take j l)).length + (4 : Nat)) (0 : Nat) ∧
      Value.int IntKind.i64 (IntKind.i64.wrap ((↑j : Int) + (1 : Int))) = Value.int IntKind.i64 (IntKind.i64.wrap ((↑j : Int) + (1 : Int))) ∧
      True) ∧
      QSt { tmps := [], V := [VObj.rows false (5 : TypeId) (1 : Nat) n0 c0 fun j => [Value.int IntKind.u8 (h j)], VObj.rows true (5 : TypeId) (1 : Nat) n1 c1 f1, VObj.dead, VObj.vec (5 : Nat) (1 : Nat) (((34 : UInt8) :: qbs (List.take j l)).length + (4 : Nat)) (joinF ((34 : UInt8) :: qbs (List.take j l)).length g fun j_1 => nth [] [[Value.int IntKind.u8 (92 : Int)], [Value.int IntKind.u8 (120 : Int)], [Value.int IntKind.u8 (↑(strAt { data := #[(48 : UInt8), (49 : UInt8), (50 : UInt8), (51 : UInt8), (52 : UInt8), (53 : UInt8), (54 : UInt8), (55 : UInt8), (56 : UInt8), (57 : UInt8), (97 : UInt8), (98 : UInt8), (99 : UInt8), (100 : UInt8), (101 : UInt8), (102 : UInt8)] : ByteArray } (IntKind.u8.wrap ((h ((0 : Nat) + (↑j : Int).toNat)).tdiv (16 : Int))).toNat) : Int)], [Value.int IntKind.u8 (↑(strAt { data := #[(48 : UInt8), (49 : UInt8), (50 : UInt8), (51 : UInt8), (52 : UInt8), (53 : UInt8), (54 : UInt8), (55 : UInt8), (56 : UInt8), (57 : UInt8), (97 : UInt8), (98 : UInt8), (99 : UInt8), (100 : UInt8), (101 : UInt8), (102 : UInt8)] : ByteArray } ((h ((0 : Nat) + (↑j : Int).toNat)).tmod (16 : Int)).toNat) : Int)]] ((0 : Nat) + j_1))] : VSt } { tmps := [], V := [VObj.rows false (5 : TypeId) (1 : Nat) n0 c0 fun j => [Value.int IntKind.u8 (h j)], VObj.rows true (5 : TypeId) (1 : Nat) n1 c1 f1, VObj.dead, VObj.vec (5 : TypeId) (1 : Nat) (((34 : UInt8) :: qbs (List.take j l)).length + (4 : Nat)) (joinF ((34 : UInt8) :: qbs (List.take j l)).length g fun j_1 => nth [] [[Value.int IntKind.u8 (92 : Int)], [Value.int IntKind.u8 (120 : Int)], [Value.int IntKind.u8 (↑(strAt { data := #[(48 : UInt8), (49 : UInt8), (50 : UInt8), (51 : UInt8), (52 : UInt8), (53 : UInt8), (54 : UInt8), (55 : UInt8), (56 : UInt8), (57 : UInt8), (97 : UInt8), (98 : UInt8), (99 : UInt8), (100 : UInt8), (101 : UInt8), (102 : UInt8)] : ByteArray } (IntKind.u8.wrap ((h ((0 : Nat) + (↑j : Int).toNat)).tdiv (16 : Int))).toNat) : Int)], [Value.int IntKind.u8 (↑(strAt { data := #[(48 : UInt8), (49 : UInt8), (50 : UInt8), (51 : UInt8), (52 : UInt8), (53 : UInt8), (54 : UInt8), (55 : UInt8), (56 : UInt8), (57 : UInt8), (97 : UInt8), (98 : UInt8), (99 : UInt8), (100 : UInt8), (101 : UInt8), (102 : UInt8)] : ByteArray } ((h ((0 : Nat) + (↑j : Int).toNat)).tmod (16 : Int)).toNat) : Int)]] ((0 : Nat) + j_1))] : VSt } ∧
      QuAt l (k - (1 : Nat)) (IntKind.i64.wrap ((↑j : Int) + (1 : Int))) (((34 : UInt8) :: qbs (List.take j l)).length + (4 : Nat)) (((34 : UInt8) :: qbs (List.take j l)).length + (4 : Nat)) (joinF ((34 : UInt8) :: qbs (List.take j l)).length g fun j_1 => nth [] [[Value.int IntKind.u8 (92 : Int)], [Value.int IntKind.u8 (120 : Int)], [Value.int IntKind.u8 (↑(strAt { data := #[(48 : UInt8), (49 : UInt8), (50 : UInt8), (51 : UInt8), (52 : UInt8), (53 : UInt8), (54 : UInt8), (55 : UInt8), (56 : UInt8), (57 : UInt8), (97 : UInt8), (98 : UInt8), (99 : UInt8), (100 : UInt8), (101 : UInt8), (102 : UInt8)] : ByteArray } (IntKind.u8.wrap ((h ((0 : Nat) + (↑j : Int).toNat)).tdiv (16 : Int))).toNat) : Int)], [Value.int IntKind.u8 (↑(strAt { data := #[(48 : UInt8), (49 : UInt8), (50 : UInt8), (51 : UInt8), (52 : UInt8), (53 : UInt8), (54 : UInt8), (55 : UInt8), (56 : UInt8), (57 : UInt8), (97 : UInt8), (98 : UInt8), (99 : UInt8), (100 : UInt8), (101 : UInt8), (102 : UInt8)] : ByteArray } ((h ((0 : Nat) + (↑j : Int).toNat)).tmod (16 : Int)).toNat) : Int)]] ((0 : Nat) + j_1))) (((1 : Nat) ≤ (1 : Nat) ∧
      ((34 : UInt8) :: qbs (List.take j l)).length = ((34 : UInt8) :: qbs (List.take j l)).length ∧
      Nat.succ (0 : Nat) ≤ (1 : Nat) ∧
      fitsN (((34 : UInt8) :: qbs (List.take j l)).length + (1 : Nat)) (1 : Nat)) ∧
      Nat.succ (0 : Nat) ≤ ((34 : UInt8) :: qbs (List.take j l)).length + (1 : Nat) ∧
      (k = (0 : Nat) → False) ∧
      (Value.slice (some { block := (0 : Nat), off := (0 : Nat), spot := some (0 : Nat) : Addr }) l.length cap = Value.slice (some { block := (0 : Nat), off := { block := (0 : Nat), off := (0 : Nat), spot := some (0 : Nat) : Addr }.off, spot := some (0 : Nat) : Addr }) l.length cap ∧
      Value.slice (some { block := (3 : Nat), off := (2 : Nat), spot := some (0 : Nat) : Addr }) (((34 : UInt8) :: qbs (List.take j l)).length + (1 : Nat)) (0 : Nat) = Value.slice (some { block := (3 : Nat), off := (2 : Nat), spot := some (0 : Nat) : Addr }) (((34 : UInt8) :: qbs (List.take j l)).length + (1 : Nat)) (0 : Nat) ∧
      Value.int IntKind.i64 (IntKind.i64.wrap ((↑j : Int) + (1 : Int))) = Value.int IntKind.i64 (IntKind.i64.wrap ((↑j : Int) + (1 : Int))) ∧
      True) ∧
      QSt { tmps := [], V := [VObj.rows false (5 : TypeId) (1 : Nat) n0 c0 fun j => [Value.int IntKind.u8 (h j)], VObj.rows true (5 : TypeId) (1 : Nat) n1 c1 f1, VObj.dead, VObj.vec (5 : Nat) (1 : Nat) (((34 : UInt8) :: qbs (List.take j l)).length + (1 : Nat)) (joinF ((34 : UInt8) :: qbs (List.take j l)).length g fun j_1 => nth [] [[Value.int IntKind.u8 (h ((0 : Nat) + (↑j : Int).toNat))]] ((0 : Nat) + j_1))] : VSt } { tmps := [], V := [VObj.rows false (5 : TypeId) (1 : Nat) n0 c0 fun j => [Value.int IntKind.u8 (h j)], VObj.rows true (5 : TypeId) (1 : Nat) n1 c1 f1, VObj.dead, VObj.vec (5 : TypeId) (1 : Nat) (((34 : UInt8) :: qbs (List.take j l)).length + (1 : Nat)) (joinF ((34 : UInt8) :: qbs (List.take j l)).length g fun j_1 => nth [] [[Value.int IntKind.u8 (h ((0 : Nat) + (↑j : Int).toNat))]] ((0 : Nat) + j_1))] : VSt } ∧
      QuAt l (k - (1 : Nat)) (IntKind.i64.wrap ((↑j : Int) + (1 : Int))) (((34 : UInt8) :: qbs (List.take j l)).length + (1 : Nat)) (((34 : UInt8) :: qbs (List.take j l)).length + (1 : Nat)) (joinF ((34 : UInt8) :: qbs (List.take j l)).length g fun j_1 => nth [] [[Value.int IntKind.u8 (h ((0 : Nat) + (↑j : Int).toNat))]] ((0 : Nat) + j_1))))))))) (QuEnd l ((34 : UInt8) :: qbs (List.take j l)).length ((34 : UInt8) :: qbs (List.take j l)).length g ∧
      QSt { tmps := [unk, unk, unk, Value.slice (some { block := (3 : Nat), off := { block := (3 : Nat), off := (2 : Nat), spot := some (0 : Nat) : Addr }.off, spot := some (0 : Nat) : Addr }) ((34 : UInt8) :: qbs (List.take j l)).length cc, unk, unk, unk, unk, unk, unk, unk, unk, unk, unk, unk, unk, unk, unk, unk, unk, unk, unk, unk, unk, unk, unk, unk, unk, unk, unk, unk, unk, unk, unk, unk, unk, unk, unk, unk, unk, unk, unk, unk, unk, unk, unk, unk, unk, unk, unk, unk, unk, unk, unk, unk, unk, unk, unk, unk, unk, unk, unk, unk, unk, unk], V := [VObj.rows false (5 : TypeId) (1 : Nat) n0 c0 fun j => [Value.int IntKind.u8 (h j)], VObj.rows true (5 : TypeId) (1 : Nat) n1 c1 f1, VObj.dead, VObj.vec (5 : TypeId) (1 : Nat) ((34 : UInt8) :: qbs (List.take j l)).length g] : VSt } { tmps := [unk, unk, unk, Value.slice (some { block := (3 : Nat), off := (2 : Nat), spot := some (0 : Nat) : Addr }) ((34 : UInt8) :: qbs (List.take j l)).length cc, unk, unk, unk, unk, unk, unk, unk, unk, unk, unk, unk, unk, unk, unk, unk, unk, unk, unk, unk, unk, unk, unk, unk, unk, unk, unk, unk, unk, unk, unk, unk, unk, unk, unk, unk, unk, unk, unk, unk, unk, unk, unk, unk, unk, unk, unk, unk, unk, unk, unk, unk, unk, unk, unk, unk, unk, unk, unk, unk, unk, unk], V := [VObj.rows false (5 : TypeId) (1 : Nat) n0 c0 fun j => [Value.int IntKind.u8 (h j)], VObj.rows true (5 : TypeId) (1 : Nat) n1 c1 f1, VObj.dead, VObj.vec (5 : TypeId) (1 : Nat) ((34 : UInt8) :: qbs (List.take j l)).length g] : VSt })) (by kernel_rfl) ?_
    refine bsplit_iff.2 ⟨fun hlt => ?_, fun hge => ?_⟩
    · have hlt : j < l.length := by simp only [decide_eq_true_eq] at hlt; omega
      have hc : h (0 + (j : Int).toNat) = ((l[j]).toNat : Int) := by rw [Int.toNat_natCast, Nat.zero_add]; exact h1.at_ j l[j] (by simp [hlt])
      have hw : IntKind.i64.wrap ((j : Int) + 1) = ((j + 1 : Nat) : Int) := by rw [w64 _ (by omega)]; rfl
      have htake : l.take (j + 1) = l.take j ++ [l[j]] := by rw [List.take_add_one]; simp [hlt]
      rw [hc, hw]
      have hT : (34 :: qbs (l.take j)).length ≤ 4 * j + 1 := by
        have := qbs_len (l.take j)
        simp only [List.length_take] at this
        simp only [List.length_cons]
        omega
      generalize hTe : (34 :: qbs (l.take j)) = T at *
      have fin : ∀ (m : Nat) (g' : Nat → List Value), m = (T ++ qb l[j]).length → RowB g' (T ++ qb l[j]) → QuAt l (k - 1) ((j + 1 : Nat) : Int) m m g' := by
        intro m g' hm hr
        have e : T ++ qb l[j] = 34 :: qbs (l.take (j + 1)) := by
          rw [htake, qbs_app, ← hTe]; simp [qbs]
        rw [e] at hm hr
        exact ⟨j + 1, rfl, by omega, hm, rfl, hr⟩
      generalize l[j] = c at *
      have hcl := c.toNat_lt
      refine ⟨⟨by omega, by omega⟩, by omega, bsplit_iff.2 ⟨fun e34 => ?_, fun n34 => bsplit_iff.2 ⟨fun e92 => ?_, fun n92 => bsplit_iff.2 ⟨fun e10 => ?_, fun n10 => bsplit_iff.2 ⟨fun e9 => ?_, fun n9 => bsplit_iff.2 ⟨fun e32 => ?_, fun n32 => bsplit_iff.2 ⟨fun e126 => ?_, fun n126 => ?_⟩⟩⟩⟩⟩⟩⟩
      · have hq : qb c = [92, c] := by unfold qb; rw [if_pos (.inl (UInt8.toNat_inj.1 (show c.toNat = 34 by have := beq_iff_eq.1 e34; omega)))]
        exact ⟨⟨by omega, rfl, by omega, ⟨by omega, by omega⟩⟩, by omega, by omega, ⟨rfl, rfl, rfl, trivial⟩, ⟨rfl⟩, fin _ _ (by rw [hq]; simp) (by rw [hq]; exact hg.appL (fun j b hj => by
          match j, hj with
          | 0, hj => simp at hj; subst hj; rfl
          | 1, hj => simp at hj; subst hj; rfl
          | j + 2, hj => simp at hj))⟩
      · have hq : qb c = [92, c] := by unfold qb; rw [if_pos (.inr (UInt8.toNat_inj.1 (show c.toNat = 92 by have := beq_iff_eq.1 e92; omega)))]
        exact ⟨⟨by omega, rfl, by omega, ⟨by omega, by omega⟩⟩, by omega, by omega, ⟨rfl, rfl, rfl, trivial⟩, ⟨rfl⟩, fin _ _ (by rw [hq]; simp) (by rw [hq]; exact hg.appL (fun j b hj => by
          match j, hj with
          | 0, hj => simp at hj; subst hj; rfl
          | 1, hj => simp at hj; subst hj; rfl
          | j + 2, hj => simp at hj))⟩
      · have k34 : ¬ c.toNat = 34 := fun e => by rw [e] at n34; exact absurd n34 (by decide)
        have k92 : ¬ c.toNat = 92 := fun e => by rw [e] at n92; exact absurd n92 (by decide)
        have m1 : ¬ (c = 34 ∨ c = 92) := fun e => e.elim (fun e => k34 (by rw [e]; rfl)) (fun e => k92 (by rw [e]; rfl))
        have hq : qb c = [92, 110] := by unfold qb; rw [if_neg m1, if_pos (UInt8.toNat_inj.1 (show c.toNat = 10 by have := beq_iff_eq.1 e10; omega))]
        exact ⟨⟨by omega, rfl, by omega, ⟨by omega, by omega⟩⟩, by omega, by omega, ⟨rfl, rfl, rfl, trivial⟩, ⟨rfl⟩, fin _ _ (by rw [hq]; simp) (by rw [hq]; exact hg.appL (fun j b hj => by
          match j, hj with
          | 0, hj => simp at hj; subst hj; rfl
          | 1, hj => simp at hj; subst hj; rfl
          | j + 2, hj => simp at hj))⟩
      · have k34 : ¬ c.toNat = 34 := fun e => by rw [e] at n34; exact absurd n34 (by decide)
        have k92 : ¬ c.toNat = 92 := fun e => by rw [e] at n92; exact absurd n92 (by decide)
        have m1 : ¬ (c = 34 ∨ c = 92) := fun e => e.elim (fun e => k34 (by rw [e]; rfl)) (fun e => k92 (by rw [e]; rfl))
        have m10 : ¬ c = 10 := fun e => by rw [e] at n10; exact absurd n10 (by decide)
        have hq : qb c = [92, 116] := by unfold qb; rw [if_neg m1, if_neg m10, if_pos (UInt8.toNat_inj.1 (show c.toNat = 9 by have := beq_iff_eq.1 e9; omega))]
        exact ⟨⟨by omega, rfl, by omega, ⟨by omega, by omega⟩⟩, by omega, by omega, ⟨rfl, rfl, rfl, trivial⟩, ⟨rfl⟩, fin _ _ (by rw [hq]; simp) (by rw [hq]; exact hg.appL (fun j b hj => by
          match j, hj with
          | 0, hj => simp at hj; subst hj; rfl
          | 1, hj => simp at hj; subst hj; rfl
          | j + 2, hj => simp at hj))⟩
      · have k34 : ¬ c.toNat = 34 := fun e => by rw [e] at n34; exact absurd n34 (by decide)
        have k92 : ¬ c.toNat = 92 := fun e => by rw [e] at n92; exact absurd n92 (by decide)
        have m1 : ¬ (c = 34 ∨ c = 92) := fun e => e.elim (fun e => k34 (by rw [e]; rfl)) (fun e => k92 (by rw [e]; rfl))
        have m10 : ¬ c = 10 := fun e => by rw [e] at n10; exact absurd n10 (by decide)
        have m9 : ¬ c = 9 := fun e => by rw [e] at n9; exact absurd n9 (by decide)
        have hq : qb c = [92, 120, hexD (c.toNat / 16), hexD (c.toNat % 16)] := by unfold qb; rw [if_neg m1, if_neg m10, if_neg m9, if_pos (.inl (by have := of_decide_eq_true e32; omega))]
        have hx := hex_all2 ⟨c.toNat, hcl⟩
        unfold digS at hx
        obtain ⟨b1, s1, b2, s2⟩ := hx
        refine ⟨by decide, b1, by decide, b2, ⟨by omega, rfl, by omega, ⟨by omega, by omega⟩⟩, by omega, by omega, ⟨rfl, rfl, rfl, trivial⟩, ⟨rfl⟩, fin _ _ (by rw [hq]; simp) (by
          rw [hq, s1, s2]
          exact hg.appL (fun j b hj => by
            match j, hj with
            | 0, hj => simp at hj; subst hj; rfl
            | 1, hj => simp at hj; subst hj; rfl
            | 2, hj => simp at hj; subst hj; rfl
            | 3, hj => simp at hj; subst hj; rfl
            | j + 4, hj => simp at hj))⟩
      · have k34 : ¬ c.toNat = 34 := fun e => by rw [e] at n34; exact absurd n34 (by decide)
        have k92 : ¬ c.toNat = 92 := fun e => by rw [e] at n92; exact absurd n92 (by decide)
        have m1 : ¬ (c = 34 ∨ c = 92) := fun e => e.elim (fun e => k34 (by rw [e]; rfl)) (fun e => k92 (by rw [e]; rfl))
        have m10 : ¬ c = 10 := fun e => by rw [e] at n10; exact absurd n10 (by decide)
        have m9 : ¬ c = 9 := fun e => by rw [e] at n9; exact absurd n9 (by decide)
        have hq : qb c = [92, 120, hexD (c.toNat / 16), hexD (c.toNat % 16)] := by unfold qb; rw [if_neg m1, if_neg m10, if_neg m9, if_pos (.inr (by have := of_decide_eq_true e126; omega))]
        have hx := hex_all2 ⟨c.toNat, hcl⟩
        unfold digS at hx
        obtain ⟨b1, s1, b2, s2⟩ := hx
        refine ⟨by decide, b1, by decide, b2, ⟨by omega, rfl, by omega, ⟨by omega, by omega⟩⟩, by omega, by omega, ⟨rfl, rfl, rfl, trivial⟩, ⟨rfl⟩, fin _ _ (by rw [hq]; simp) (by
          rw [hq, s1, s2]
          exact hg.appL (fun j b hj => by
            match j, hj with
            | 0, hj => simp at hj; subst hj; rfl
            | 1, hj => simp at hj; subst hj; rfl
            | 2, hj => simp at hj; subst hj; rfl
            | 3, hj => simp at hj; subst hj; rfl
            | j + 4, hj => simp at hj))⟩
      · have k34 : ¬ c.toNat = 34 := fun e => by rw [e] at n34; exact absurd n34 (by decide)
        have k92 : ¬ c.toNat = 92 := fun e => by rw [e] at n92; exact absurd n92 (by decide)
        have m1 : ¬ (c = 34 ∨ c = 92) := fun e => e.elim (fun e => k34 (by rw [e]; rfl)) (fun e => k92 (by rw [e]; rfl))
        have m10 : ¬ c = 10 := fun e => by rw [e] at n10; exact absurd n10 (by decide)
        have m9 : ¬ c = 9 := fun e => by rw [e] at n9; exact absurd n9 (by decide)
        have hq : qb c = [c] := by
          unfold qb
          rw [if_neg m1, if_neg m10, if_neg m9, if_neg]
          have := of_decide_eq_false n32
          have := of_decide_eq_false n126
          omega
        exact ⟨⟨by omega, rfl, by omega, ⟨by omega, by omega⟩⟩, by omega, by omega, ⟨rfl, rfl, rfl, trivial⟩, ⟨rfl⟩, fin _ _ (by rw [hq]; simp) (by rw [hq]; exact hg.appL (fun j b hj => by
          match j, hj with
          | 0, hj => simp at hj; subst hj; rfl
          | j + 1, hj => simp at hj))⟩
    · have hge : ¬ j < l.length := by simp only [decide_eq_false_iff_not] at hge; omega
      have hj2 : j = l.length := by omega
      have e : l.take j = l := by rw [hj2]; exact List.take_length
      rw [e] at hg ⊢
      exact ⟨⟨rfl, rfl, hg⟩, ⟨rfl⟩⟩
  · match k, hk with
    | 0, hk => cases hk; intro r _ v hv; simp at hv; subst hv; exact ⟨.plain rfl, rfl⟩
    | 1, hk => cases hk; exact hf1
    | 2, hk => cases hk; trivial
    | 3, hk => cases hk; exact hg.sc
end Go.Sh
