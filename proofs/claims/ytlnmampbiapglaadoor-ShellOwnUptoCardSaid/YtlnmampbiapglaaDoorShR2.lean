/- The document's Words: its loop and its contract. -/
import Derived.Test.YtlnmampbiapglaaDoorShR
set_option linter.unusedSimpArgs false
set_option linter.unusedSectionVars false
set_option linter.unusedVariables false
namespace Go.Sh
open Go Go.X Go.Proofs
variable [WI]

def rs0 : RS := ⟨0, [], [], 0, false⟩
def runL : List UInt8 → RS → RS
  | [], σ => σ
  | c :: cs, σ => if σ.B then σ else runL cs (stepNext σ c)
def bytesL (s : ByteArray) : List UInt8 := s.data.toList

theorem stepEnds_len (σ : RS) (x : Int) : (stepEnds σ x).W.length ≤ σ.W.length + 1 ∧ (stepEnds σ x).Ws.length ≤ σ.Ws.length + 1 := by simp [stepEnds]
theorem stepEsc_len (σ : RS) (c : UInt8) : (stepEsc σ c).W.length ≤ σ.W.length + 1 ∧ (stepEsc σ c).Ws.length ≤ σ.Ws.length + 1 := by
  unfold stepEsc
  (repeat' split) <;> simp
theorem stepNext_len (σ : RS) (c : UInt8) : (stepNext σ c).W.length ≤ σ.W.length + 1 ∧ (stepNext σ c).Ws.length ≤ σ.Ws.length + 1 := by
  unfold stepNext
  (repeat' split) <;> first | exact stepEnds_len _ _ | exact stepEsc_len _ _ | (simp; done) | (simp; split <;> simp)

theorem strAt_get (s : ByteArray) (n : Nat) (h : n < (bytesL s).length) : strAt s n = ((bytesL s)[n]).toNat := by
  have h1 : n < s.data.size := h
  simp only [strAt, bytesL, Array.getD_eq_getD_getElem?, Array.getElem?_eq_getElem h1, Option.getD_some, Array.getElem_toList]

structure RefInv (line : ByteArray) (k : Nat) (i In : Int) (n n' : Nat) (f : Nat → List Value) (m m' : Nat) (g : Nat → List Value) (D : Int) (B : Bool) : Prop where
  ex : ∃ (j : Nat) (σ : RS), i = j ∧ j + k = line.size ∧ RAt σ In n n' f m m' g D B ∧ σ.W.length ≤ j ∧ σ.Ws.length ≤ j ∧ runL (bytesL line) rs0 = runL ((bytesL line).drop j) σ

def refTm (line : ByteArray) (i : Int) : List Value := [.string line, unk, unk, unk, .pointer (some ⟨0, 0, none⟩), .int .i64 i] ++ List.replicate 49 unk
def refV (In : Int) (n : Nat) (f : Nat → List Value) (m : Nat) (g : Nat → List Value) (D : Int) (B : Bool) : VW := [rd0 In 1 2 n m D B, .vec 5 1 n f, .vec 9 1 m g]
def refS (line : ByteArray) (i In : Int) (n : Nat) (f : Nat → List Value) (m : Nat) (g : Nat → List Value) (D : Int) (B : Bool) : VSt := ⟨refTm line i, refV In n f m g D B⟩
def refJ (line : ByteArray) (k : Nat) (S : VSt) : Prop :=
  match nth undef S.tmps 5, S.V with
  | .int .i64 i, [.cells 43 [.int .i64 In, .slice (some ⟨1, 2, some 0⟩) n 0, .slice (some ⟨2, 2, some 0⟩) m 0, .int .i64 D, .bool B], .vec 5 1 n' f, .vec 9 1 m' g] =>
    leT (refTm line i) S.tmps ∧ RefInv line k i In n n' f m m' g D B
  | _, _ => False
structure RefEnd (line : ByteArray) (S : VSt) : Prop where
  ex : ∃ i In n f m g D B, S = refS line i In n f m g D B ∧ RAt (runL (bytesL line) rs0) In n n f m m g D B
def refK (line : ByteArray) (e : Exit) (S : VSt) : Prop :=
  match e with
  | .normal => RefEnd line S
  | _ => False
def refSel (e : Exit) (S : VSt) : List Sel :=
  match S.V with
  | [_] => [.keep 0, .nilv 5 1, .nilv 9 1]
  | [_, _, _] => [.keep 0, .keep 1, .keep 2]
  | _ => [.keep 0, .keep 3, .keep 4]
def refNc : List (Nat × Nat × Nat) := [(0, 1, 1), (0, 2, 2)]

theorem RowB.sc {f : Nat → List Value} {l : List UInt8} (h : RowB f l) : ∀ r, r < l.length → ∀ v ∈ f r, Sc 0 v ∧ cellC v = true := by
  intro r hr v hv
  rw [h r l[r] (by simp [hr])] at hv
  simp only [List.mem_singleton] at hv
  subst hv
  exact ⟨.plain rfl, rfl⟩
theorem RowS.sc {f : Nat → List Value} {l : List ByteArray} (h : RowS f l) : ∀ r, r < l.length → ∀ v ∈ f r, Sc 0 v ∧ cellC v = true := by
  intro r hr v hv
  rw [h r l[r] (by simp [hr])] at hv
  simp only [List.mem_singleton] at hv
  subst hv
  exact ⟨.plain rfl, rfl⟩

theorem RAt.self {σ : RS} {g g' : Nat → List Value} (hf : RowB g σ.W) (hg : RowS g' σ.Ws) : RAt σ σ.In σ.W.length σ.W.length g σ.Ws.length σ.Ws.length g' σ.D σ.B := ⟨rfl, rfl, rfl, hf, rfl, rfl, hg, rfl, rfl⟩

theorem refJ_eq {line : ByteArray} {k : Nat} {S : VSt} (h : refJ line k S) : ∃ (j : Nat) (σ : RS) (f g : Nat → List Value), j + k = line.size ∧ leT (refTm line j) S.tmps ∧
    S.V = refV σ.In σ.W.length f σ.Ws.length g σ.D σ.B ∧ RowB f σ.W ∧ RowS g σ.Ws ∧ σ.W.length ≤ j ∧ σ.Ws.length ≤ j ∧ runL (bytesL line) rs0 = runL ((bytesL line).drop j) σ := by
  unfold refJ at h
  split at h
  · rename_i i In n m D B n' f m' g h1 h2
    obtain ⟨h3, ⟨j, σ, rfl, h4, ⟨rfl, rfl, rfl, hf, rfl, rfl, hg, rfl, rfl⟩, h5, h6, h7⟩⟩ := h
    exact ⟨j, σ, f, g, h4, h3, h2, hf, hg, h5, h6, h7⟩
  · exact h.elim

theorem refS_sc (line : ByteArray) (i In : Int) {W : List UInt8} {f : Nat → List Value} {Ws : List ByteArray} {g : Nat → List Value} (D : Int) (B : Bool) (hf : RowB f W) (hg : RowS g Ws) : ScS (refS line i In W.length f Ws.length g D B) := by
  refine .of rfl fun k o h => ?_
  match k, h with
  | 0, h => cases h; exact fun v hv => scB_ok 6 v (List.all_eq_true.1 (show ([Value.int .i64 In, .slice (some ⟨1, 2, some 0⟩) W.length 0, .slice (some ⟨2, 2, some 0⟩) Ws.length 0, .int .i64 D, .bool B]).all (scB 3 6) = true from rfl) v hv)
  | 1, h => cases h; exact hf.sc
  | 2, h => cases h; exact hg.sc

theorem ref_ctx : CtxOK Tryd.prog (ctxG [] [(15, rdT aB stepNext)] []) := ctxG_ok .nil (.cons next_ok .nil)

theorem ref_round (line : ByteArray) (hl : line.size ≤ 2147483648) (k : Nat) (S : VSt) (hJ : refJ line k S) :
    Does Tryd.prog (roundOf Tryd.f8 0) S fun e S' => reshape 1 (refSel e S') [0, 4, 5] [] refNc S' (roundR 0 (refJ line) k (refK line) e) := by
  obtain ⟨j, σ, f, g, hj, ht, hV, hf, hg, hW, hWs, hrun⟩ := refJ_eq hJ
  refine Does.weaken (S' := refS line j σ.In σ.W.length f σ.Ws.length g σ.D σ.B) ?_ ht hV.symm (refS_sc line j σ.In σ.D σ.B hf hg)
  refine of_code ref_ctx (n := 200) .g ?_
  refine by_nf (B := bsplit (decide ((↑j : Int) < (↑line.size : Int)))
    (bsplit (!σ.B) (((0 : Int) ≤ (↑j : Int) ∧
    (↑j : Int) + (1 : Int) ≤ (↑line.size : Int)) ∧
    RPre aB (Value.int IntKind.u8 (↑(strAt line (↑j : Int).toNat) : Int)) σ.In σ.W.length σ.W.length f σ.Ws.length σ.Ws.length g σ.D σ.B ∧
    ∀ (In2 : Int) (n2 : Nat) (f2 : Nat → List Value) (m2 : Nat) (g2 : Nat → List Value) (D2 : Int) (B2 : Bool), RStep aB stepNext (Value.int IntKind.u8 (↑(strAt line (↑j : Int).toNat) : Int)) σ.In σ.W.length σ.W.length f σ.Ws.length σ.Ws.length g σ.D σ.B In2 n2 f2 m2 g2 D2 B2 → (k = (0 : Nat) → False) ∧
    (Value.string line = Value.string line ∧
    Value.pointer (some { block := (0 : Nat), off := (0 : Nat) : Addr }) = Value.pointer (some { block := (0 : Nat), off := { block := (0 : Nat), off := (0 : Nat) : Addr }.off : Addr }) ∧
    Value.int IntKind.i64 (IntKind.i64.wrap ((↑j : Int) + (1 : Int))) = Value.int IntKind.i64 (IntKind.i64.wrap ((↑j : Int) + (1 : Int))) ∧
    True) ∧
    RefInv line (k - (1 : Nat)) (IntKind.i64.wrap ((↑j : Int) + (1 : Int))) In2 n2 n2 f2 m2 m2 g2 D2 B2) (RefEnd line { tmps := [Value.string line, unk, unk, unk, Value.pointer (some { block := (0 : Nat), off := { block := (0 : Nat), off := (0 : Nat) : Addr }.off : Addr }), Value.int IntKind.i64 (↑j : Int), unk, unk, unk, unk, unk, unk, unk, unk, unk, unk, unk, unk, unk, unk, unk, unk, unk, unk, unk, unk, unk, unk, unk, unk, unk, unk, unk, unk, unk, unk, unk, unk, unk, unk, unk, unk, unk, unk, unk, unk, unk, unk, unk, unk, unk, unk, unk, unk, unk], V := [VObj.cells (43 : TypeId) [Value.int IntKind.i64 σ.In, Value.slice (some { block := (1 : Nat), off := { block := (1 : Nat), off := (2 : Nat), spot := some (0 : Nat) : Addr }.off, spot := some (0 : Nat) : Addr }) σ.W.length (0 : Nat), Value.slice (some { block := (2 : Nat), off := { block := (2 : Nat), off := (2 : Nat), spot := some (0 : Nat) : Addr }.off, spot := some (0 : Nat) : Addr }) σ.Ws.length (0 : Nat), Value.int IntKind.i64 σ.D, Value.bool σ.B], VObj.vec (5 : TypeId) (1 : Nat) σ.W.length f, VObj.vec (9 : TypeId) (1 : Nat) σ.Ws.length g] : VSt })) (RefEnd line { tmps := [Value.string line, unk, unk, unk, Value.pointer (some { block := (0 : Nat), off := { block := (0 : Nat), off := (0 : Nat) : Addr }.off : Addr }), Value.int IntKind.i64 (↑j : Int), unk, unk, unk, unk, unk, unk, unk, unk, unk, unk, unk, unk, unk, unk, unk, unk, unk, unk, unk, unk, unk, unk, unk, unk, unk, unk, unk, unk, unk, unk, unk, unk, unk, unk, unk, unk, unk, unk, unk, unk, unk, unk, unk, unk, unk, unk, unk, unk, unk], V := [VObj.cells (43 : TypeId) [Value.int IntKind.i64 σ.In, Value.slice (some { block := (1 : Nat), off := { block := (1 : Nat), off := (2 : Nat), spot := some (0 : Nat) : Addr }.off, spot := some (0 : Nat) : Addr }) σ.W.length (0 : Nat), Value.slice (some { block := (2 : Nat), off := { block := (2 : Nat), off := (2 : Nat), spot := some (0 : Nat) : Addr }.off, spot := some (0 : Nat) : Addr }) σ.Ws.length (0 : Nat), Value.int IntKind.i64 σ.D, Value.bool σ.B], VObj.vec (5 : TypeId) (1 : Nat) σ.W.length f, VObj.vec (9 : TypeId) (1 : Nat) σ.Ws.length g] : VSt })) (by kernel_rfl) ?_
  have fin : ∀ {i : Int}, runL ((bytesL line).drop j) σ = σ → RefEnd line (refS line i σ.In σ.W.length f σ.Ws.length g σ.D σ.B) := fun h =>
    ⟨_, _, _, _, _, _, _, _, rfl, by rw [hrun, h]; exact RAt.same hf hg⟩
  refine bsplit_iff.2 ⟨fun hlt => bsplit_iff.2 ⟨fun hB => ?_, fun hB => ?_⟩, fun hge => ?_⟩
  · have hlt : j < line.size := by simpa using hlt
    have hB : σ.B = false := by simpa using hB
    have hlen : j < (bytesL line).length := hlt
    have hc : ((strAt line (j : Int).toNat : Nat) : Int) = (((bytesL line)[j]).toNat : Int) := by
      rw [Int.toNat_natCast, strAt_get line j hlen]
    have hA : Value.int .u8 ((strAt line (j : Int).toNat : Nat) : Int) = aB (bytesL line)[j] := by rw [hc]; rfl
    have hw : IntKind.i64.wrap ((j : Int) + 1) = ((j + 1 : Nat) : Int) := by rw [w64 _ (by omega)]; rfl
    rw [hA, hw]
    refine ⟨⟨by omega, by omega⟩, ⟨_, σ, rfl, ⟨by omega, by omega⟩, RAt.same hf hg⟩, fun In2 n2 f2 m2 g2 D2 B2 hst => ⟨by omega, ⟨rfl, rfl, rfl, trivial⟩, ?_⟩⟩
    obtain ⟨a, σ1, ha, h1, h2⟩ := hst
    have := aB_inj _ _ ha
    subst this
    have := RAt.uniq (RAt.self hf hg) h1
    subst this
    obtain ⟨l1, l2⟩ := stepNext_len σ (bytesL line)[j]
    refine ⟨j + 1, _, rfl, by omega, h2, by omega, by omega, ?_⟩
    rw [hrun, List.drop_eq_getElem_cons hlen]
    simp [runL, hB]
  · have hB : σ.B = true := by simpa using hB
    exact fin (by cases (bytesL line).drop j <;> simp [runL, hB])
  · have hge : ¬ j < line.size := by simpa using hge
    exact fin (by rw [List.drop_eq_nil_of_le (by show line.size ≤ j; omega)]; rfl)

def refT (line : ByteArray) : BlkS := fun S K =>
  reshape S.V.length (refSel .normal S) [0, 4, 5] [] refNc S (refJ line line.size) ∧ S.V.length = 1 ∧
    ∀ i In n f m g D B, RAt (runL (bytesL line) rs0) In n n f m m g D B → K .normal (refS line i In n f m g D B)

theorem ref_loop (line : ByteArray) (hl : line.size ≤ 2147483648) (S : VSt) (K : Exit → VSt → Prop) (h : refT line S K) : Does Tryd.prog (.block 0 (.loop (roundOf Tryd.f8 0))) S K := by
  obtain ⟨h1, h2, h3⟩ := h
  refine Does.mono (Does.loopR (K := refK line) (fun _ => [0, 4, 5]) refSel [] refNc (refJ line) S (reshape_mono (fun S hS => ⟨_, hS⟩) h1) fun k S' hJ => ?_) fun e S' hK => ?_
  · rw [h2]; exact ref_round line hl k S' hJ
  · cases e with
    | normal =>
      obtain ⟨i, In, n, f, m, g, D, B, rfl, hA⟩ := hK
      exact h3 i In n f m g D B hA
    | _ => exact hK.elim

/-- the words of a line, or none -/
def refOut (s : ByteArray) : Option (List ByteArray) :=
  let σ := runL (bytesL s) rs0
  let σ := if σ.In = 1 then stepEnds σ 0 else σ
  if σ.B = true ∨ (2 ≤ σ.In ∧ σ.In ≤ 5) then none else some σ.Ws

structure ROut (ws : List ByteArray) (n : Nat) (g : Nat → List Value) : Prop where
  len : n = ws.length
  rows : RowS g ws
structure SOut (ws : List ByteArray) (n : Nat) (h : Nat → ByteArray) : Prop where
  len : n = ws.length
  rows : ∀ (j : Nat) (s : ByteArray), ws[j]? = some s → h j = s

/-- a function that takes a line to pieces -/
def wordsT (out : ByteArray → Option (List ByteArray)) : CallS := fun args V K =>
  match args with
  | [.string s] => s.size ≤ 2147483648 ∧ (out s = none → K (.tuple ⟨[.slice none 0 0, .int .i64 200]⟩) V) ∧
      ∀ ws n h, out s = some ws → SOut ws n h → K (.tuple ⟨[.slice (some ⟨V.length, 2, some 0⟩) n 0, .int .i64 0]⟩) (V ++ [.vec 9 1 n fun j => [.string (h j)]])
  | _ => False

structure WOk (out : ByteArray → Option (List ByteArray)) (s : ByteArray) (n n' : Nat) (g : Nat → List Value) : Prop where
  ex : ∃ ws, out s = some ws ∧ ROut ws n g ∧ n' = n
structure WErr (out : ByteArray → Option (List ByteArray)) (s : ByteArray) : Prop where
  no : out s = none
def wLeaf (out : ByteArray → Option (List ByteArray)) (s : ByteArray) (S : VSt) : Prop :=
  match S.tmps, S.V with
  | [.tuple ⟨[.slice none 0 0, .int .i64 200]⟩], [] => WErr out s
  | [.tuple ⟨[.slice (some ⟨0, 2, some 0⟩) n 0, .int .i64 0]⟩], [.vec 9 1 n' g] => WOk out s n n' g
  | _, _ => False
def wSel (v : Value) (V : VW) : List Sel :=
  match v with
  | .tuple ⟨[.slice (some a) _ _, _]⟩ => [selV V a.block]
  | .tuple ⟨[.slice none 0 0, .int .i64 0]⟩ => [.nilv 9 1]
  | _ => []

theorem wordsOK {f : FuncId} {out : ByteArray → Option (List ByteArray)} (hc : Callable Tryd.prog f)
    (h : ∀ s, s.size ≤ 2147483648 → CallDoes Tryd.prog f [.string s] [] fun v V' => reshape 0 (wSel v V') [0] [] [] ⟨[v], V'⟩ (wLeaf out s)) : CallOK Tryd.prog f (wordsT out) := by
  refine ⟨hc, fun args V K hT => ?_⟩
  unfold wordsT at hT
  split at hT
  · rename_i s
    obtain ⟨hs, h0, h1⟩ := hT
    refine CallDoes.frame (fun x hx => by simp at hx; subst hx; exact .plain rfl) ?_
    refine CallDoes.agree ?_
    refine CallDoes.reshape wSel [] [] ?_
    intro env w hW hsc
    refine (h s hs env w hW hsc).mono ?_
    rintro e w' ⟨u, env', V', v, g1, g2, g3, g4, g5⟩
    refine ⟨u, env', V', v, g1, g2, g3, g4, reshape_mono (fun S hS => ?_) g5⟩
    unfold wLeaf at hS
    unfold one1
    split at hS
    · rename_i e1 e2
      rw [e1, e2]
      refine ⟨[], .nil, fun o ho => by simp at ho, ?_⟩
      have := h0 hS.no
      simpa [renB] using this
    · rename_i n n' g e1 e2
      rw [e1, e2]
      obtain ⟨ws, hws, hro, rfl⟩ := hS
      refine ⟨[.vec 9 1 n' fun j => [.string (ws.getD j ⟨#[]⟩)]], .cons (.vec 9 1 n' g _ fun r hr => ?_) .nil, fun o ho => ?_, ?_⟩
      · have hr' : r < ws.length := by rw [← hro.len]; exact hr
        rw [hro.rows r ws[r] (by simp [hr'])]
        simp [List.getD, hr']
      · simp at ho
        subst ho
        exact ⟨fun r hr => rfl, rfl⟩
      · have := h1 ws n' (fun j => ws.getD j ⟨#[]⟩) hws ⟨hro.len, fun j s hj => by simp [List.getD, hj]⟩
        simpa [renB] using this
    · exact hS.elim
  · exact hT.elim

theorem refWords_ok : CallOK Tryd.prog 8 (wordsT refOut) := by
  refine wordsOK (callable Tryd.func8 rfl (by decide +kernel)) fun s hs => ?_
  refine of_run (ctxG_ok (l := []) (cs := [(16, rdT aI stepEnds)]) (bs := [(0, refT s)]) .nil (.cons ends_ok .nil)) (n := 200) Tryd.func8 rfl (.one rfl rfl (ref_loop s hs)) ?_
  refine by_nf (B := ((Value.string s = Value.string s ∧
    Value.pointer (some { block := (0 : Nat), off := (0 : Nat) : Addr }) = Value.pointer (some { block := (0 : Nat), off := { block := (0 : Nat), off := (0 : Nat) : Addr }.off : Addr }) ∧
    Value.int IntKind.i64 (0 : Int) = Value.int IntKind.i64 (0 : Int) ∧
    True) ∧
    RefInv s s.size (0 : Int) (0 : Int) (0 : Nat) (0 : Nat) (fun x => []) (0 : Nat) (0 : Nat) (fun x => []) (0 : Int) false) ∧
    (1 : Nat) = (1 : Nat) ∧
    ∀ (i In : Int) (n : Nat) (f : Nat → List Value) (m : Nat) (g : Nat → List Value) (D : Int) (B : Bool), RAt (runL (bytesL s) rs0) In n n f m m g D B → bsplit (In == (1 : Int)) (RPre aI (Value.int IntKind.i64 (0 : Int)) In n n f m m g D B ∧
    ∀ (In2 : Int) (n2 : Nat) (f2 : Nat → List Value) (m2 : Nat) (g2 : Nat → List Value) (D2 : Int) (B2 : Bool), RStep aI stepEnds (Value.int IntKind.i64 (0 : Int)) In n n f m m g D B In2 n2 f2 m2 g2 D2 B2 → bsplit B2 (WErr refOut s)
    (bsplit (decide (In2 ≥ (2 : Int)))
    (bsplit (decide (In2 ≤ (5 : Int))) (WErr refOut s) (WOk refOut s m2 m2 g2)) (WOk refOut s m2 m2 g2)))
    (bsplit B (WErr refOut s)
    (bsplit (decide (In ≥ (2 : Int)))
    (bsplit (decide (In ≤ (5 : Int))) (WErr refOut s) (WOk refOut s m m g)) (WOk refOut s m m g)))) (by kernel_rfl) ?_
  refine ⟨⟨⟨rfl, rfl, rfl, trivial⟩, ⟨0, rs0, rfl, by simp, ⟨rfl, rfl, rfl, .nil _, rfl, rfl, .nil _, rfl, rfl⟩, by simp [rs0], by simp [rs0], by simp⟩⟩, rfl, fun i In n f m g D B hA => ?_⟩
  have hlen : ∀ (l : List UInt8) (σ : RS), (runL l σ).W.length ≤ σ.W.length + l.length ∧ (runL l σ).Ws.length ≤ σ.Ws.length + l.length := by
    intro l
    induction l with
    | nil => intro σ; simp [runL]
    | cons c cs ih =>
      intro σ
      unfold runL
      split
      · simp
      · obtain ⟨h1, h2⟩ := ih (stepNext σ c)
        obtain ⟨h3, h4⟩ := stepNext_len σ c
        simp only [List.length_cons]
        omega
  obtain ⟨hl1, hl2⟩ := hlen (bytesL s) rs0
  have hbs : (bytesL s).length = s.size := rfl
  have h00 : rs0.W.length = 0 ∧ rs0.Ws.length = 0 := ⟨rfl, rfl⟩
  have last : ∀ σ In n f m g D B, (if (runL (bytesL s) rs0).In = 1 then stepEnds (runL (bytesL s) rs0) 0 else runL (bytesL s) rs0) = σ → RAt σ In n n f m m g D B →
      bsplit B (WErr refOut s) (bsplit (decide (In ≥ (2 : Int))) (bsplit (decide (In ≤ (5 : Int))) (WErr refOut s) (WOk refOut s m m g)) (WOk refOut s m m g)) := by
    intro σ In n f m g D B hσ hA
    have hIn := hA.hIn
    have hB := hA.hB
    refine bsplit_iff.2 ⟨fun h => ⟨?_⟩, fun h => bsplit_iff.2 ⟨fun h2 => bsplit_iff.2 ⟨fun h3 => ⟨?_⟩, fun h3 => ⟨σ.Ws, ?_, ⟨hA.hm, hA.hg⟩, rfl⟩⟩, fun h2 => ⟨σ.Ws, ?_, ⟨hA.hm, hA.hg⟩, rfl⟩⟩⟩
    · unfold refOut; simp only [hσ]; rw [if_pos (.inl (by rw [← hB, h]))]
    · unfold refOut; simp only [hσ]; rw [if_pos (.inr (by simp at h2 h3; omega))]
    · unfold refOut; simp only [hσ]; rw [if_neg (by rw [← hB, h]; simp at h2 h3; simp; omega)]
    · unfold refOut; simp only [hσ]; rw [if_neg (by rw [← hB, h]; simp at h2; simp; omega)]
  refine bsplit_iff.2 ⟨fun h1 => ?_, fun h1 => ?_⟩
  · have h1 : In = 1 := by simpa using h1
    refine ⟨⟨0, _, rfl, ⟨by omega, by omega⟩, hA⟩, fun In2 n2 f2 m2 g2 D2 B2 hst => ?_⟩
    obtain ⟨a, σ1, ha, h2, h3⟩ := hst
    have := aI_inj _ _ (show aI 0 = aI a from ha)
    subst this
    have := RAt.uniq hA h2
    subst this
    exact last _ _ _ _ _ _ _ _ (if_pos (by rw [← hA.hIn, h1])) h3
  · have h1 : ¬ In = 1 := by simpa using h1
    exact last _ _ _ _ _ _ _ _ (if_neg (by rw [← hA.hIn]; exact h1)) hA
end Go.Sh
