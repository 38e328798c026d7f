/- FileParts: the list of parts: what is common to all kinds. -/
import Derived.Test.YtmbkfaongfmieaaGreatXSH
import Derived.Test.YtmbkfaongfmieaaGreatFS
set_option linter.unusedSimpArgs false
set_option linter.unusedVariables false
set_option linter.unusedSectionVars false
set_option maxRecDepth 100000
namespace Go.Fil
open Go Go.X Go.Proofs
variable [WI]
structure Mk where
  k : Int
  nm : ByteArray
  ot : ByteArray
  f1 : Int
  f2 : Int
  n1 : Int
  n2 : Int
  a : Int
  n : Int
  e0 : ByteArray
  g1 : Int
  g2 : Int
  sz : Int
  b : Int
  L : Nat
  N : Nat
  f : Nat → List Value
def Mk.op (k : Int) (nm ot : ByteArray) (f1 f2 n1 n2 a n : Int) (d : Value) : List Value := [.int .i64 k, .string nm, .string ot, .int .i64 f1, .int .i64 f2, .int .i64 n1, .int .i64 n2, .int .i64 a, .int .i64 n, d]
def V5 (M : Mk) (k : Int) : VW := [.arg 5 1 M.N M.f, .cells 49 [.int .i64 k, .string M.nm, .string M.ot, .int .i64 M.f1, .int .i64 M.f2, .int .i64 M.n1, .int .i64 M.n2, .int .i64 M.a, .int .i64 M.n, .slice (some ⟨0, 3, some 0⟩) M.L 0],
  .cells 40 [.string M.e0, .int .i64 M.g1, .int .i64 M.g2, .int .i64 M.sz],
  .cells 49 [.int .i64 8, .string ⟨#[]⟩, .string ⟨#[]⟩, .int .i64 M.g1, .int .i64 M.g2, .int .i64 0, .int .i64 0, .int .i64 0, .int .i64 0, .slice none 0 0],
  .cells 49 [.int .i64 9, .string ⟨#[]⟩, .string ⟨#[]⟩, .int .i64 M.g1, .int .i64 M.g2, .int .i64 0, .int .i64 0, .int .i64 0, .int .i64 0, .slice none 0 0]]
def pt (p : Nat) : Value := .pointer (some ⟨p, 0, none⟩)
def lv (c : Nat) : Value := .slice (some ⟨5, 1, some 0⟩) c 0
structure VEq (V V' : VW) : Prop where
  eq : V = V'
structure Cnt (p : Prop) : Prop where
  out : p
structure MkPre (k a n L sz b : Int) : Prop where
  fx : Fx k a n L sz b
  few : cnt k a n L sz b ≤ 4000
structure VIs (M : Mk) (k : Int) (V : VW) : Prop where
  eq : V = V5 M k
/-- the list: nothing yet, or a row of c parts -/
def okL (M : Mk) (k : Int) (v : Value) (V : VW) (q : Nat → Prop) : Prop :=
  match v, V with
  | .slice none 0 0, [o0, o1, o2, o3, o4] => VIs M k [o0, o1, o2, o3, o4] ∧ q 0
  | .slice (some ⟨5, 1, some 0⟩) c 0, [o0, o1, o2, o3, o4, .raw 126 16 n 0 g []] => VIs M k [o0, o1, o2, o3, o4] ∧ Is (c = n ∧ 0 < n) ∧ q n
  | _, _ => False
theorem okL_eq {M : Mk} {k : Int} {v : Value} {V : VW} {q : Nat → Prop} (h : okL M k v V q) : (v = .slice none 0 0 ∧ V = V5 M k ∧ q 0) ∨ ∃ c g, 0 < c ∧ v = lv c ∧ V = V5 M k ++ [.raw 126 16 c 0 g []] ∧ q c := by
  unfold okL at h
  split at h
  · obtain ⟨⟨h1⟩, h2⟩ := h
    exact .inl ⟨rfl, h1, h2⟩
  · rename_i g
    obtain ⟨⟨h1⟩, ⟨rfl, h3⟩, h4⟩ := h
    exact .inr ⟨_, g, h3, rfl, by rw [← h1]; rfl, h4⟩
  · exact h.elim
def samePt : Value → Value → Bool
  | .pointer (some ⟨b, o, none⟩), .pointer (some ⟨b', o', none⟩) => Nat.beq b b' && Nat.beq o o'
  | _, _ => false
theorem samePt_eq {x y : Value} (h : samePt x y = true) : x = y := by
  unfold samePt at h
  split at h
  · simp only [Bool.and_eq_true] at h
    rw [Nat.eq_of_beq_eq_true h.1, Nat.eq_of_beq_eq_true h.2]
  · cases h
/-- the known tmps stand there; pointers are looked at at once -/
def leQ : List Value → List Value → Prop
  | [], [] => True
  | x :: xs, y :: ys =>
    match x with
    | .complex .f32 0 0 => leQ xs ys
    | .pointer (some a) => (match samePt (.pointer (some a)) y with | true => leQ xs ys | false => False)
    | x => x = y ∧ leQ xs ys
  | _, _ => False
theorem leQ_le : ∀ {xs ys : List Value}, leQ xs ys → leT xs ys
  | [], [], _ => trivial
  | [], _ :: _, h => h.elim
  | _ :: _, [], h => h.elim
  | x :: xs, y :: ys, h => by
    unfold leQ at h
    split at h
    · exact leT_cons (.inl rfl) (leQ_le h)
    · split at h
      · rename_i hb
        exact leT_cons (.inr (samePt_eq hb)) (leQ_le h)
      · exact h.elim
    · exact leT_cons (.inr h.1) (leQ_le h.2)
/-- the tmps are these; pointers are looked at at once -/
def eqT : List Value → List Value → Prop
  | [], [] => True
  | x :: xs, y :: ys =>
    match y with
    | .complex .f32 0 0 => (match x with | .complex .f32 0 0 => eqT xs ys | _ => False)
    | .pointer (some a) => (match samePt x (.pointer (some a)) with | true => eqT xs ys | false => False)
    | y => x = y ∧ eqT xs ys
  | _, _ => False
theorem eqT_eq : ∀ {xs ys : List Value}, eqT xs ys → xs = ys
  | [], [], _ => rfl
  | [], _ :: _, h => h.elim
  | _ :: _, [], h => h.elim
  | x :: xs, y :: ys, h => by
    unfold eqT at h
    split at h
    · split at h
      · rw [eqT_eq h]
      · exact h.elim
    · split at h
      · rename_i hb
        rw [samePt_eq hb, eqT_eq h]
      · exact h.elim
    · rw [h.1, eqT_eq h.2]
def selL (S : VSt) : List Sel := match nth undef S.tmps 7 with | .slice (some a) _ _ => (List.range 5).map Sel.keep ++ [Sel.keep a.block] | _ => (List.range 5).map Sel.keep
theorem V5_sc (M : Mk) (k : Int) (i : Nat) (o : VObj) (h : (V5 M k)[i]? = some o) : ScO 5 o := by
  have hc : ∀ (l : List Value), l.all (scB 5 6) = true → ∀ v ∈ l, Sc 5 v := fun l hl v hv => scB_ok 6 v (List.all_eq_true.1 hl v hv)
  match i, h with
  | 0, h => simp [V5] at h; subst h; exact trivial
  | 1, h => simp [V5] at h; subst h; exact hc _ rfl
  | 2, h => simp [V5] at h; subst h; exact hc _ rfl
  | 3, h => simp [V5] at h; subst h; exact hc _ rfl
  | 4, h => simp [V5] at h; subst h; exact hc _ rfl
  | i + 5, h => simp [V5] at h
theorem V6_sc (M : Mk) (k : Int) (c : Nat) (g : Nat → List Value) (i : Nat) (o : VObj) (h : (V5 M k ++ [.raw 126 16 c 0 g []])[i]? = some o) : ScO 6 o := by
  have hc : ∀ (l : List Value), l.all (scB 6 6) = true → ∀ v ∈ l, Sc 6 v := fun l hl v hv => scB_ok 6 v (List.all_eq_true.1 hl v hv)
  match i, h with
  | 0, h => simp [V5] at h; subst h; exact trivial
  | 1, h => simp [V5] at h; subst h; exact hc _ rfl
  | 2, h => simp [V5] at h; subst h; exact hc _ rfl
  | 3, h => simp [V5] at h; subst h; exact hc _ rfl
  | 4, h => simp [V5] at h; subst h; exact hc _ rfl
  | 5, h => simp [V5] at h; subst h; exact fun x hx => by simp at hx
  | i + 6, h => simp [V5] at h
/-- what is told: the row of the parts, so many -/
def mkR (M : Mk) (cn : Int) (v : Value) (V : VW) : Prop :=
  match v, V with
  | .slice none 0 0, [o] => VEq [o] [.arg 5 1 M.N M.f] ∧ Cnt (cn = 0)
  | .slice (some ⟨1, 1, some 0⟩) c 0, [o, .raw 126 16 n 0 g []] => VEq [o] [.arg 5 1 M.N M.f] ∧ Is (c = n ∧ 0 < n) ∧ Cnt (cn = n)
  | _, _ => False
def mkSel (v : Value) (_ : VW) : List Sel := match v with | .slice (some a) _ _ => [.keep 0, .keep a.block] | _ => [.keep 0]
def mkArgs (M : Mk) (k : Int) : List Value := [.agg ⟨[.int .i64 k, .string M.nm, .string M.ot, .int .i64 M.f1, .int .i64 M.f2, .int .i64 M.n1, .int .i64 M.n2, .int .i64 M.a, .int .i64 M.n, .slice (some ⟨0, 3, some 0⟩) M.L 0]⟩,
  .agg ⟨[.string M.e0, .int .i64 M.g1, .int .i64 M.g2, .int .i64 M.sz]⟩, .int .i64 M.b]
theorem mk1 (M : Mk) : CallDoes Tryz.prog 19 (mkArgs M 1) [.arg 5 1 M.N M.f] (mkR M (cnt 1 M.a M.n M.L M.sz M.b)) := by
  refine CallDoes.reshape mkSel [] [] ?_
  refine of_run (ctxG_ok (l := []) (cs := []) (bs := []) .nil .nil) (n := 400) Tryz.func19 rfl (BlksOK.none fun _ => rfl) ?_
  refine by_nf (B := VEq [VObj.arg (5 : TypeId) (1 : Nat) M.N M.f] [VObj.arg (5 : TypeId) (1 : Nat) M.N M.f] ∧
    Cnt (cnt (1 : Int) M.a M.n (↑M.L : Int) M.sz M.b = (0 : Int))) (by kernel_rfl) ?_
  exact ⟨⟨rfl⟩, ⟨rfl⟩⟩
theorem mk2 (M : Mk) : CallDoes Tryz.prog 19 (mkArgs M 2) [.arg 5 1 M.N M.f] (mkR M (cnt 2 M.a M.n M.L M.sz M.b)) := by
  refine CallDoes.reshape mkSel [] [] ?_
  refine of_run (ctxG_ok (l := []) (cs := []) (bs := []) .nil .nil) (n := 400) Tryz.func19 rfl (BlksOK.none fun _ => rfl) ?_
  refine by_nf (B := VEq [VObj.arg (5 : TypeId) (1 : Nat) M.N M.f] [VObj.arg (5 : TypeId) (1 : Nat) M.N M.f] ∧
    Cnt (cnt (2 : Int) M.a M.n (↑M.L : Int) M.sz M.b = (0 : Int))) (by kernel_rfl) ?_
  exact ⟨⟨rfl⟩, ⟨rfl⟩⟩
theorem mk3 (M : Mk) : CallDoes Tryz.prog 19 (mkArgs M 3) [.arg 5 1 M.N M.f] (mkR M (cnt 3 M.a M.n M.L M.sz M.b)) := by
  refine CallDoes.reshape mkSel [] [] ?_
  refine of_run (ctxG_ok (l := []) (cs := []) (bs := []) .nil .nil) (n := 400) Tryz.func19 rfl (BlksOK.none fun _ => rfl) ?_
  refine by_nf (B := VEq [VObj.arg (5 : TypeId) (1 : Nat) M.N M.f] [VObj.arg (5 : TypeId) (1 : Nat) M.N M.f] ∧
    Cnt (cnt (3 : Int) M.a M.n (↑M.L : Int) M.sz M.b = (0 : Int))) (by kernel_rfl) ?_
  exact ⟨⟨rfl⟩, ⟨rfl⟩⟩
theorem mk4 (M : Mk) : CallDoes Tryz.prog 19 (mkArgs M 4) [.arg 5 1 M.N M.f] (mkR M (cnt 4 M.a M.n M.L M.sz M.b)) := by
  refine CallDoes.reshape mkSel [] [] ?_
  refine of_run (ctxG_ok (l := []) (cs := []) (bs := []) .nil .nil) (n := 400) Tryz.func19 rfl (BlksOK.none fun _ => rfl) ?_
  refine by_nf (B := VEq [VObj.arg (5 : TypeId) (1 : Nat) M.N M.f] [VObj.arg (5 : TypeId) (1 : Nat) M.N M.f] ∧
    Cnt (cnt (4 : Int) M.a M.n (↑M.L : Int) M.sz M.b = (0 : Int))) (by kernel_rfl) ?_
  exact ⟨⟨rfl⟩, ⟨rfl⟩⟩
theorem mk5 (M : Mk) : CallDoes Tryz.prog 19 (mkArgs M 5) [.arg 5 1 M.N M.f] (mkR M (cnt 5 M.a M.n M.L M.sz M.b)) := by
  refine CallDoes.reshape mkSel [] [] ?_
  refine of_run (ctxG_ok (l := []) (cs := []) (bs := []) .nil .nil) (n := 400) Tryz.func19 rfl (BlksOK.none fun _ => rfl) ?_
  refine by_nf (B := VEq [VObj.arg (5 : TypeId) (1 : Nat) M.N M.f] [VObj.arg (5 : TypeId) (1 : Nat) M.N M.f] ∧
    Cnt (cnt (5 : Int) M.a M.n (↑M.L : Int) M.sz M.b = (0 : Int))) (by kernel_rfl) ?_
  exact ⟨⟨rfl⟩, ⟨rfl⟩⟩
theorem mk6 (M : Mk) : CallDoes Tryz.prog 19 (mkArgs M 6) [.arg 5 1 M.N M.f] (mkR M (cnt 6 M.a M.n M.L M.sz M.b)) := by
  refine CallDoes.reshape mkSel [] [] ?_
  refine of_run (ctxG_ok (l := []) (cs := []) (bs := []) .nil .nil) (n := 400) Tryz.func19 rfl (BlksOK.none fun _ => rfl) ?_
  refine by_nf (B := VEq [VObj.arg (5 : TypeId) (1 : Nat) M.N M.f] [VObj.arg (5 : TypeId) (1 : Nat) M.N M.f] ∧
    Cnt (cnt (6 : Int) M.a M.n (↑M.L : Int) M.sz M.b = (0 : Int))) (by kernel_rfl) ?_
  exact ⟨⟨rfl⟩, ⟨rfl⟩⟩
theorem mk7 (M : Mk) : CallDoes Tryz.prog 19 (mkArgs M 7) [.arg 5 1 M.N M.f] (mkR M (cnt 7 M.a M.n M.L M.sz M.b)) := by
  refine CallDoes.reshape mkSel [] [] ?_
  refine of_run (ctxG_ok (l := []) (cs := []) (bs := []) .nil .nil) (n := 400) Tryz.func19 rfl (BlksOK.none fun _ => rfl) ?_
  refine by_nf (B := VEq [VObj.arg (5 : TypeId) (1 : Nat) M.N M.f] [VObj.arg (5 : TypeId) (1 : Nat) M.N M.f] ∧
    Cnt (cnt (7 : Int) M.a M.n (↑M.L : Int) M.sz M.b = (0 : Int))) (by kernel_rfl) ?_
  exact ⟨⟨rfl⟩, ⟨rfl⟩⟩
theorem mk8 (M : Mk) : CallDoes Tryz.prog 19 (mkArgs M 8) [.arg 5 1 M.N M.f] (mkR M (cnt 8 M.a M.n M.L M.sz M.b)) := by
  refine CallDoes.reshape mkSel [] [] ?_
  refine of_run (ctxG_ok (l := []) (cs := []) (bs := []) .nil .nil) (n := 400) Tryz.func19 rfl (BlksOK.none fun _ => rfl) ?_
  refine by_nf (B := VEq [VObj.arg (5 : TypeId) (1 : Nat) M.N M.f] [VObj.arg (5 : TypeId) (1 : Nat) M.N M.f] ∧
    Cnt (cnt (8 : Int) M.a M.n (↑M.L : Int) M.sz M.b = (0 : Int))) (by kernel_rfl) ?_
  exact ⟨⟨rfl⟩, ⟨rfl⟩⟩
theorem mk9 (M : Mk) : CallDoes Tryz.prog 19 (mkArgs M 9) [.arg 5 1 M.N M.f] (mkR M (cnt 9 M.a M.n M.L M.sz M.b)) := by
  refine CallDoes.reshape mkSel [] [] ?_
  refine of_run (ctxG_ok (l := []) (cs := []) (bs := []) .nil .nil) (n := 400) Tryz.func19 rfl (BlksOK.none fun _ => rfl) ?_
  refine by_nf (B := VEq [VObj.arg (5 : TypeId) (1 : Nat) M.N M.f] [VObj.arg (5 : TypeId) (1 : Nat) M.N M.f] ∧
    Cnt (cnt (9 : Int) M.a M.n (↑M.L : Int) M.sz M.b = (0 : Int))) (by kernel_rfl) ?_
  exact ⟨⟨rfl⟩, ⟨rfl⟩⟩
end Go.Fil
