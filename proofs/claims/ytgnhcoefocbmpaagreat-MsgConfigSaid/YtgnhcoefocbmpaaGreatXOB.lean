/- What the symbolic run says of the real one: conditions that are seen to hold. -/
import Derived.Test.YtgnhcoefocbmpaaGreatXST
import Derived.Test.YtgnhcoefocbmpaaGreatXSM
set_option linter.unusedSimpArgs false
set_option linter.unusedSectionVars false
set_option linter.unusedVariables false
namespace Go.X
open Go

variable [WI] [WD]
variable {P : Program} {env : Nat → Loc} {S : VSt} {a : Act} {w : World} {C : Ctx}

/-! ### Conditions that are seen to hold -/
theorem andC_ok {b : Bool} {p k : Prop} (hb : b = true → p) (h : andC b p k) : p ∧ k := by
  cases b with
  | true => exact ⟨hb rfl, h⟩
  | false => exact h

theorem fitT_ok {n bytes : Nat} (h : fitT n bytes = true) : fitsN n bytes := by
  unfold fitT at h
  simp only [Bool.and_eq_true, Nat.ble_eq] at h
  exact ⟨h.1, h.2⟩

theorem inT_ok {i : Int} {n : Nat} (h : inT i n = true) : 0 ≤ i ∧ i < (n : Int) := by
  unfold inT at h
  cases i with
  | ofNat j => simp only [Nat.blt_eq] at h; exact ⟨Int.natCast_nonneg j, by simpa using h⟩
  | negSucc j => cases h

def resP : Res → Prop
  | .ob p _ => p
  | .sob p _ _ _ => p
  | .grow p _ _ _ => p
  | _ => True

theorem rowT_load {V : VW} {t : TypeId} {a : Addr} (h : rowT V (.pointer (some a)) = true) : resP (xload P V t a) := by
  unfold rowT at h
  dsimp only at h
  split at h
  · rename_i q q2 q3 n q4 q5 r hv hs
    unfold xload
    rw [hv, hs]
    dsimp only
    split
    · rw [Nat.blt_eq] at h; exact h
    · trivial
  · cases h

theorem rowT_store {V : VW} {t : TypeId} {a : Addr} {v : Value} (h : rowT V (.pointer (some a)) = true) : resP (xstore P V t a v) := by
  unfold rowT at h
  dsimp only at h
  split at h
  · rename_i own q2 q3 n q4 q5 r hv hs
    unfold xstore
    rw [hv, hs]
    (repeat' split) <;> first | trivial | skip
    rename_i e _ _ _
    first | (cases e; rw [Nat.blt_eq] at h; exact h) | skip
    all_goals (rw [Nat.blt_eq] at h; simp_all [resP])
  · cases h

theorem srcT_ok {V : VW} {u : TypeId} {m k k' : Nat} {x : Value} {q : Prop} {g : Nat → List Value} (h : srcT V x = some k') (hx : xsrc P V u m x = .src q k g) : q ∧ k = k' := by
  unfold srcT at h
  split at h
  · rename_i s
    cases h
    unfold xsrc at hx
    cases hu : P.underlying u with
    | none => rw [hu] at hx; cases hx
    | some d =>
      rw [hu] at hx
      cases d <;> dsimp only at hx <;> try (cases hx; done)
      split at hx
      · cases hx; exact ⟨trivial, rfl⟩
      · cases hx
  · rename_i b l c
    split at h
    · rename_i r q1 q2 q3 n q4 q5 hs hv
      split at h
      · rename_i hle
        cases h
        rw [Nat.ble_eq] at hle
        unfold xsrc at hx
        cases hu : P.underlying u with
        | none => rw [hu] at hx; cases hx
        | some d =>
          rw [hu] at hx
          cases d <;> dsimp only at hx <;> try (cases hx; done)
          rw [hs, hv] at hx
          dsimp only at hx
          split at hx
          · split at hx
            · cases hx
            · cases hx; exact ⟨hle, rfl⟩
          · cases hx
      · cases h
    · cases h
  · cases h

theorem app_case {V : VW} {t u e : TypeId} {ie : TypeInfo} {x : Value} {k : Nat} {a : Addr} {len cap : Nat} {own : Bool} {t' : TypeId} {m n cap' : Nat} {f : Nat → List Value}
    (hu : P.underlying t = some (.slice e)) (hi : P.info? e = some ie) (hsrc : srcT V x = some k) (hv : V[a.block]? = some (.rows own t' m n cap' f)) (hle : len ≤ n)
    (hoff : match a.off with | 0 => 0 < cap ∧ cap = cap' | 1 => True | _ => False) (hf : fitsN (len + k) ie.bytes) : resP (xappend0 P V t u (.slice (some a) len cap) x) := by
  unfold xappend0
  rw [hu]
  dsimp only
  rw [hi]
  dsimp only
  split
  case h_2 => trivial
  split
  case h_2 => trivial
  rename_i q k' g _ _ _ hx
  obtain ⟨h1, rfl⟩ := srcT_ok hsrc hx
  rw [hv]
  split
  case h_2 => trivial
  rename_i e
  cases e
  split
  case isFalse => trivial
  split
  case isFalse => trivial
  exact ⟨h1, hle, hoff, hf⟩

theorem obT_ok {o : Op} (h : obT P S o = true) : resP (xop P S o) := by
  cases o <;> simp only [obT] at h <;> try (cases h; done)
  case load t x =>
    simp only [xop]
    split
    · rename_i a ha; rw [ha] at h; exact rowT_load h
    · trivial
  case store t x v =>
    simp only [xop]
    split
    · rename_i a ha; rw [ha] at h; exact rowT_store h
    · trivial
  case indexAddr t x i =>
    simp only [xop]
    split at h
    · rename_i a len c k i' hx hi
      split at h
      · rename_i hv
        rw [hx, hi]
        have := inT_ok h
        unfold xindexAddr
        (repeat' split) <;> first | trivial | skip
        all_goals (simp_all [resP]; done)
      · cases h
    · rename_i a k i' hx hi
      split at h
      · rename_i n e hu
        rw [hx, hi]
        have := inT_ok h
        unfold xindexAddr
        (repeat' split) <;> first | trivial | skip
        all_goals (simp_all [resP]; done)
      · cases h
    · cases h
  case index t x i =>
    simp only [xop]
    split at h
    · rename_i s k i' hx hi
      rw [hx, hi]
      have := inT_ok h
      unfold xindex
      (repeat' split) <;> first | trivial | skip
      all_goals (simp_all [resP]; done)
    · rename_i cs k i' hx hi
      split at h
      · rename_i n e hu
        rw [hx, hi]
        have := inT_ok h
        unfold xindex
        (repeat' split) <;> first | trivial | skip
        all_goals (simp_all [resP]; done)
      · cases h
    · cases h
  case binOp op t x y yt =>
    simp only [xop]
    have hnl : ∀ k a k' b (lit : Bool), xbinN P op t lit (.int k a) (.int k' b) = xbin P op t (.int k a) (.int k' b) := fun k a k' b lit => by
      have : xnil P op t lit (.int k a) (.int k' b) = none := by
        unfold xnil
        cases lit <;> rfl
      unfold xbinN
      rw [this]
    split at h
    · rename_i k a k' b hx hy
      rw [hx, hy, hnl]
      split at h
      · exact Int.natCast_nonneg _
      · cases h
    · rename_i k a k' b hx hy
      rw [hx, hy, hnl]
      split at h
      · exact Int.natCast_nonneg _
      · cases h
    · rename_i k a k' b hx hy
      rw [hx, hy, hnl]
      split at h
      · cases h
      · rename_i hne
        unfold xbin
        dsimp only
        split
        · exact hne
        · trivial
    · rename_i k a k' b hx hy
      rw [hx, hy, hnl]
      split at h
      · cases h
      · rename_i hne
        unfold xbin
        dsimp only
        split
        · exact hne
        · trivial
    · cases h
  case call c =>
    split at h
    · rename_i hc
      split at h
      · rename_i x y t u hargs htys
        simp only [xop, hc, xbi, hargs, htys]
        unfold appT at h
        split at h
        case' h_2 => cases h
        rename_i e hu
        split at h
        case' h_2 => cases h
        rename_i ie k hi hsrc
        split at h
        · rename_i hs
          simp only [Bool.and_eq_true, Nat.blt_eq] at h
          rw [hs]
          unfold xappend xappend0
          rw [hu]
          dsimp only
          rw [hi]
          dsimp only
          split
          case' h_2 => trivial
          split
          case' h_2 => trivial
          rename_i q k' g _ _ _ hx
          obtain ⟨h1, rfl⟩ := srcT_ok hsrc hx
          exact ⟨h1, h.1, fitT_ok h.2⟩
        · rename_i a len cap hs
          split at h
          · rename_i own q1 q2 n cap' q3 hoff hv
            simp only [Bool.and_eq_true, Nat.blt_eq, Nat.ble_eq] at h
            obtain ⟨⟨⟨h1, h2⟩, h3⟩, h4⟩ := h
            have h3 := Nat.eq_of_beq_eq_true h3
            rw [hs]
            have h0 : xappend P S.V t u (.slice (some a) len cap) (ev S y) = xappend0 P S.V t u (.slice (some a) len cap) (ev S y) := by
              unfold xappend; dsimp only; rw [hoff]; rfl
            rw [h0]
            exact app_case hu hi hsrc hv h1 (by rw [hoff]; exact ⟨h2, h3⟩) (fitT_ok h4)
          · rename_i own q1 q2 n cap' q3 hoff hv
            simp only [Bool.and_eq_true, Nat.ble_eq] at h
            rw [hs]
            have h0 : xappend P S.V t u (.slice (some a) len cap) (ev S y) = xappend0 P S.V t u (.slice (some a) len cap) (ev S y) := by
              unfold xappend; dsimp only; rw [hoff]; rfl
            rw [h0]
            exact app_case hu hi hsrc hv h.1 (by rw [hoff]; trivial) (fitT_ok h.2)
          · rename_i hoff
            simp only [Bool.and_eq_true, Nat.blt_eq] at h
            obtain ⟨h1, h2, h3⟩ := h
            have h1 := Nat.eq_of_beq_eq_true h1
            subst h1
            rw [hs]
            have h0 : xappend P S.V t u (.slice (some a) 0 cap) (ev S y) = xappend0 P S.V t u (.slice none 0 0) (ev S y) := by
              unfold xappend; dsimp only; rw [hoff]; rfl
            rw [h0]
            unfold xappend0
            rw [hu]
            dsimp only
            rw [hi]
            dsimp only
            split
            case' h_2 => trivial
            split
            case' h_2 => trivial
            rename_i q k' g _ _ _ hx
            obtain ⟨h1, rfl⟩ := srcT_ok hsrc hx
            exact ⟨h1, h2, fitT_ok h3⟩
          · cases h
        · cases h
      · cases h
    · cases h

theorem seen_ok {o : Op} (h : seen P C S o = true) : resP (xop P S o) := by
  unfold seen at h
  split at h
  · exact obT_ok h
  · cases h

end Go.X
