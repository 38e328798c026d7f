/- strings.Builder's String over the known memory. -/
import Derived.Test.YtlnmampbiapglaaDoorShQ1
import Derived.WalkKit
import Derived.Lib.Walk
set_option linter.unusedSimpArgs false
set_option linter.unusedSectionVars false
set_option linter.unusedVariables false
set_option maxRecDepth 10000
namespace Go.Sh
open Go Go.X Go.Proofs

/-- String of a builder of at least one byte: of what was there, only the buffer's block is turned -/
theorem str_run (b g cap : Nat) (p : Value) (l : List UInt8) (cur : Array Value) (w : World) (hbk : w.heap[b]? = some (.cells #[p, .slice (some ⟨g, 0, none⟩) l.length cap] 48 (0, 0)))
    (hg : w.heap[g]? = some (.cells cur 5 (0, 0))) (hc0 : cap ≠ 0) (hlc : l.length ≤ cur.size) (h63 : l.length ≤ 9223372036854775807) (h0 : l ≠ [])
    (hcell : ∀ (j : Nat) (x : UInt8), l[j]? = some x → w.cell? ⟨g, j, none⟩ = some (.int .u8 x.toNat)) :
    Calls Tryd.prog 19 #[.pointer (some ⟨b, 0, none⟩)] w fun e w' => e = .returned (.string ⟨l.toArray⟩) ∧ ∃ q, w' = (w.drewN q).freeze ⟨g, 0, none⟩ l.length := by
  have c1 : w.drew.cell? ⟨b, 1, none⟩ = some (.slice (some ⟨g, 0, none⟩) l.length cap) := by
    have : w.drew.heap[b]? = some (.cells #[p, .slice (some ⟨g, 0, none⟩) l.length cap] 48 (0, 0)) := hbk
    rw [Lib.cell_of_heap this]; rfl
  have hSD : (Builtin.unsafeSliceData_ #[33] 59 #[.slice (some ⟨g, 0, none⟩) l.length cap]).run Tryd.prog w.drew = .ok (.pointer (some ⟨g, 0, none⟩)) w.drew :=
    Lib.run_unsafeSliceData_row _ _ _ _ _ _ hc0
  have hUS : (Builtin.unsafeString_ #[59, 3] 9 #[.pointer (some ⟨g, 0, none⟩), .int .i64 l.length]).run Tryd.prog w.drew = .ok (.string ⟨l.toArray⟩) (w.drew.freeze ⟨g, 0, none⟩ l.length) := by
    refine Lib.run_unsafeString_row w.drew 59 3 9 5 Tryd.underlying59 (by kernel_rfl) g cur.size (by have hg' : w.drew.heap[g]? = some (.cells cur 5 (0, 0)) := hg; simp [World.shape?, hg']) l h0 hlc h63 ?_
    intro j x hx
    rw [Addr.add_lit, Nat.zero_add]
    exact hcell j x hx
  go_enter Tryd.func19, Tryd.ntmps19
  go_wp2
  go_region
  all_goals (go_wp2; go_ret; exact ⟨rfl, 1, rfl⟩)

section
variable [WI]
/-- a block of one place turned: the place is forgotten -/
theorem RepW.poke {env : Nat → X.Loc} {V : VW} {w w' : World} (hR : RepW env V w) {i : Nat} {o : VObj} (hi : V[i]? = some o) (ho : o.writes = true) (hB : hasB (env i) o)
    (hk : ∀ k, k ≠ (env i).blk → w'.heap[k]? = w.heap[k]?) (hos : w'.os = w.os) (htp : w'.tape = w.tape) (hout : w'.output = w.output) (hsz : w'.heap.size = w.heap.size) :
    RepW env (V.set i .dead) w' ∧ Fr env V w env (V.set i .dead) w' := by
  have hown : o.owned = true := by cases o <;> simp_all [VObj.writes, VObj.owned]
  refine pairRF hR (fun j oj hj => ?_) (fun j oj hj => ?_) (fun j oj hj hBj => ?_) (fun j k oj ok hj hk hjk hw hl hBj hBk => ?_) ⟨fun _ _ => rfl, by simp, hos, htp, hout, by rw [hsz]; exact Nat.le_refl _, fun b hb hno => ?_, fun j oj hj hoj => ?_⟩
  · rcases setV_get hj with ⟨rfl, rfl, _⟩ | ⟨hne, hj'⟩
    · trivial
    · cases hlv : oj.live with
      | false => exact (hR.mat j oj hj').still hlv
      | true => exact (hR.mat j oj hj').keep (fun hBj => hk _ (Ne.symm (hR.sep i j o oj hi hj' (Ne.symm hne) ho hlv hB hBj))) (hR.sc j oj hj') (fun _ _ => rfl)
  · rw [List.length_set]
    rcases setV_get hj with ⟨rfl, rfl, _⟩ | ⟨hne, hj'⟩
    · trivial
    · exact hR.sc j oj hj'
  · rw [hsz]
    rcases setV_get hj with ⟨rfl, rfl, _⟩ | ⟨hne, hj'⟩
    · exact hBj.elim
    · exact hR.blk j oj hj' hBj
  · rcases setV_get hj with ⟨rfl, rfl, _⟩ | ⟨hne, hj'⟩
    · cases hw
    · rcases setV_get hk with ⟨rfl, rfl, _⟩ | ⟨hne, hk'⟩
      · cases hl
      · exact hR.sep _ _ oj ok hj' hk' hjk hw hl hBj hBk
  · exact hk _ (fun e => hno i o hi ⟨hown, hB⟩ e.symm)
  · rcases setV_get hj with ⟨rfl, rfl, _⟩ | ⟨hne, hj'⟩
    · exact hoj.2.elim
    · exact .inl ⟨j, oj, hj', hoj, rfl⟩

structure BText (n : Nat) (f : Nat → List Value) (s : ByteArray) : Prop where
  ex : ∃ l : List UInt8, n = l.length ∧ RowB f l ∧ s = ⟨l.toArray⟩
def strT : CallS := fun args V K =>
  match args, V with
  | [.pointer (some ⟨2, 0, none⟩)], [.rows false 5 1 n0 c0 f0, .rows true 5 1 n1 c1 f1, .cells 48 [.pointer (some ⟨2, 0, none⟩), .slice (some ⟨5, 2, some 0⟩) n 0], .dead, .dead, .vec 5 1 n' f] =>
    BPre n n' f ∧ 0 < n ∧ ∀ s, BText n f s → K (.string s) [.rows false 5 1 n0 c0 f0, .rows true 5 1 n1 c1 f1, .dead, .dead, .dead, .dead]
  | _, _ => False

theorem str_ok : CallOK Tryd.prog 19 strT := by
  refine ⟨callable Tryd.func19 rfl (by decide +kernel), fun args V K hT => ?_⟩
  unfold strT at hT
  split at hT
  · rename_i n0 c0 f0 n1 c1 f1 n n' f
    obtain ⟨⟨l, rfl, rfl, hf, hl⟩, hpos, hK⟩ := hT
    intro env w hW hsc
    obtain ⟨hh, hb⟩ := hW.mat 2 _ rfl
    obtain ⟨hm, hc0, hc⟩ := hW.mat 5 _ rfl
    have hcap : (env 5).cap ≠ 0 := fun h => by have := hc0 h; omega
    obtain ⟨hrows, hb5, cur, hg, hcs, hn⟩ := hc hcap
    have hra : renA env ⟨5, 0, some 0⟩ = ⟨(env 5).blk, 0, none⟩ := by simp [renA, hb5]
    have hrs : ren env (.slice (some ⟨5, 2, some 0⟩) l.length 0) = .slice (some ⟨(env 5).blk, 0, none⟩) l.length ((env 5).cap) := by
      rw [ren_slice2 env _ _ rfl]
      simp only [hra]
      cases hcp : (env 5).cap with
      | zero => exact absurd hcp hcap
      | succ k => simp
    have hh' : w.heap[(env 2).blk]? = some (.cells #[ren env (.pointer (some ⟨2, 0, none⟩)), .slice (some ⟨(env 5).blk, 0, none⟩) l.length (env 5).cap] 48 (0, 0)) := by
      rw [hh]; simp [hrs]
    have hl0 : l ≠ [] := fun h => by subst h; simp at hpos
    have h := str_run (env 2).blk (env 5).blk (env 5).cap _ l cur w hh' hg hcap (by rw [hcs]; omega) (by omega) hl0 (fun j x hx => by
      have hj : j < l.length := (List.getElem?_eq_some_iff.1 hx).1
      have := (hrows j hj).2 0 (.int .u8 x.toNat) (by rw [hf j x hx]; simp)
      rw [hb5] at this
      simpa using this)
    have ha : ([.pointer (some ⟨2, 0, none⟩)] : List Value).map (ren env) = [.pointer (some ⟨(env 2).blk, 0, none⟩)] := by simp [ren_ptr, renA, hb]
    rw [ha]
    refine h.mono ?_
    rintro e w' ⟨rfl, q, rfl⟩
    have hne : l.length ≠ 0 := by omega
    obtain ⟨h1, h2⟩ := RepW.poke (w' := (w.drewN q).freeze ⟨(env 5).blk, 0, none⟩ l.length) hW (i := 5) rfl rfl hcap (fun k hk => by
      unfold World.freeze
      rw [if_neg hne]
      simp only [Array.getElem?_modify]
      rw [if_neg (fun e => hk e.symm)]
      rfl) (by unfold World.freeze; rw [if_neg hne]; rfl) (by unfold World.freeze; rw [if_neg hne]; rfl) (by unfold World.freeze; rw [if_neg hne]; rfl) (by unfold World.freeze; rw [if_neg hne]; simp)
    have h3 := h1.kill (i := 2) (o := .cells 48 [.pointer (some ⟨2, 0, none⟩), .slice (some ⟨5, 2, some 0⟩) l.length 0]) rfl rfl
    have h4 := h2.kill (i := 2) (o := .cells 48 [.pointer (some ⟨2, 0, none⟩), .slice (some ⟨5, 2, some 0⟩) l.length 0]) rfl rfl
    exact ⟨_, env, _, _, rfl, .inr (by simp), h3, h4, hK _ ⟨l, rfl, hf, rfl⟩⟩
  · exact hT.elim
end
end Go.Sh
