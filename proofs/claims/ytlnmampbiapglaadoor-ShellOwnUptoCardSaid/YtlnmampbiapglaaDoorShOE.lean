/- ShellOwn: the law's function. -/
import Derived.Test.YtlnmampbiapglaaDoorShOD
set_option linter.unusedSimpArgs false
set_option linter.unusedSectionVars false
set_option linter.unusedVariables false
set_option maxRecDepth 100000
namespace Go.Sh
open Go Go.X Go.Proofs
variable [WI]

theorem leV_self : ∀ V : VW, leV V V
  | [] => trivial
  | _ :: V => ⟨rfl, leV_self V⟩
theorem alike_less {T0 T : List Value} {V : VW} (ht : leT T T0) (hs : T.all (scB V.length 6) = true) : X.Alike ⟨T0, V⟩ ⟨T, V⟩ :=
  ⟨fun env a w hR => hR.le ⟨ht, leV_self V⟩ ⟨fun v hv => scB_ok 6 v (List.all_eq_true.1 hs v hv), hR.mem.sc⟩, fun _ _ o h h1 h2 => ⟨o, h, h1, h2⟩⟩

/-- a step that sets a variable, beside a family -/
theorem set_do {c : Code} {T0 T T' : List Value} {V : VW} {W : World} {G : Nat → Nat} {n : Nat} {L : Nat → X.Loc} {M : Nat → Nat} {F : Nat → Nat → List Value} (hD : Does Tryd.prog c ⟨T, V⟩ (setN ⟨T', V⟩)) (hA : X.Alike ⟨T0, V⟩ ⟨T, V⟩)
    {B : Exit → Act → World → Prop} (hB : ∀ a w, St W G 9 1 n L M F (isS ⟨T', V⟩) a w → B .normal a w) : Do Tryd.prog c (St W G 9 1 n L M F (isS ⟨T0, V⟩)) B := by
  refine Do.of fun a w hst => ?_
  obtain ⟨env, S, hR, rfl, hfam, hb⟩ := hst
  have hR1 := hA.rep env a w hR
  refine ⟨env, _, _, hR1, hD, fun e env' S' a' w' hF hR' hK => ?_⟩
  cases e with
  | normal =>
    obtain ⟨rfl⟩ := hK
    exact hB a' w' ⟨env', _, hR', rfl, hfam.later hF fun j o hj _ => .inl hj, hb.trans (hF.belowN hR1.mem)⟩
  | _ => exact hK.elim

theorem fam_none {G : Nat → Nat} {env : Nat → X.Loc} {V : VW} {w : World} {t : TypeId} {m : Nat} (L : Nat → X.Loc) (M : Nat → Nat) (F : Nat → Nat → List Value) : Fam G env V w t m 0 L M F :=
  ⟨fun i hi => absurd hi (Nat.not_lt_zero i), fun i hi => absurd hi (Nat.not_lt_zero i), fun i hi => absurd hi (Nat.not_lt_zero i), fun i hi => absurd hi (Nat.not_lt_zero i), fun i j hi => absurd hi (Nat.not_lt_zero i)⟩

/-- the capacity of a row, forgotten -/
theorem capR {env : Nat → X.Loc} {V : VW} {w : World} (hW : RepW env V w) {q : Nat} {t : TypeId} {m n cap : Nat} {f : Nat → List Value} (hq : V[q]? = some (.raw t m n cap f [])) : RepW env (V.set q (.raw t m n 0 f [])) w := by
  have get : ∀ {j : Nat} {o : VObj}, (V.set q (.raw t m n 0 f []))[j]? = some o → (j = q ∧ o = .raw t m n 0 f []) ∨ (j ≠ q ∧ V[j]? = some o) := by
    intro j o h
    rcases setV_get h with ⟨h1, h2, _⟩ | h
    · exact .inl ⟨h1, h2⟩
    · exact .inr h
  refine ⟨fun j o hj => ?_, fun j o hj => ?_, fun j o hj hB => ?_, fun j k oj ok hj hk hjk hw hl hBj hBk => ?_, hW.inv, fun j o hj ho => ?_, hW.room⟩
  · rcases get hj with ⟨rfl, rfl⟩ | ⟨_, hj'⟩
    · obtain ⟨h0, h1, h2, h3, cs, h4, h5, h6, h7⟩ := hW.mat _ _ hq
      exact ⟨h0, h1, h2, h3, cs, h4, h5, h6, fun h => absurd rfl h⟩
    · exact hW.mat j o hj'
  · rw [List.length_set]
    rcases get hj with ⟨rfl, rfl⟩ | ⟨_, hj'⟩
    · exact fun h hh => absurd hh List.not_mem_nil
    · exact hW.sc j o hj'
  · rcases get hj with ⟨rfl, rfl⟩ | ⟨_, hj'⟩
    · exact hW.blk _ _ hq trivial
    · exact hW.blk j o hj' hB
  · rcases get hj with ⟨rfl, rfl⟩ | ⟨_, hj'⟩
    · rcases get hk with ⟨rfl, rfl⟩ | ⟨_, hk'⟩
      · exact absurd rfl hjk
      · exact hW.sep _ _ _ _ hq hk' hjk rfl hl trivial hBk
    · rcases get hk with ⟨rfl, rfl⟩ | ⟨_, hk'⟩
      · exact hW.sep _ _ _ _ hj' hq hjk hw rfl hBj trivial
      · exact hW.sep _ _ _ _ hj' hk' hjk hw hl hBj hBk
  · rcases get hj with ⟨rfl, rfl⟩ | ⟨_, hj'⟩
    · exact hW.low _ _ hq ⟨rfl, trivial⟩
    · exact hW.low j o hj' ho

/-- at the end -/
def ownB_ (W : World) (e : Exit) (a : Act) (w : World) : Prop := ∃ env S, Rep env S a w ∧ xend Tryd.prog (ctxG [] [] []) Tryd.f4 (fun v _ => v = .bool true) e S ∧ RowKit.Below WI.n W w

structure OP (W : World) (N : Nat) (ls : Nat → ByteArray) (a : Act) (w : World) : Prop where
  ex : ∃ f L M F, St W id 9 1 1 L M F (isS ⟨w0Tm N, oV1 N 1 ls f⟩) a w ∧ Lists 1 L M F f

theorem fin_do (W : World) (N n : Nat) (ls : Nat → ByteArray) : Do Tryd.prog (at_ (bodyOf Tryd.f4) 9) (OL W N n n ls) (ownB_ W) :=
  Do.of fun a w ⟨env, f, g, L, M, F, hR, hfam, hk, hb⟩ => ⟨env, _, _, hR, fin_ok n _, fun e env' S' a' w' hF hR' hK => ⟨env', S', hR', hK, hb.trans (hF.belowN hR.mem)⟩⟩

theorem last_do (W : World) (N n : Nat) (ls : Nat → ByteArray) (h1 : 1 ≤ n) (hn : n ≤ 10000) : Do Tryd.prog (.seq (.seq (cL (pc (bodyOf Tryd.f4) 8)) (.block 10 (.loop (roundOf Tryd.f4 10)))) (at_ (bodyOf Tryd.f4) 9)) (O6 W N n n ls) (ownB_ W) := by
  refine Do.seq (M := OL W N n n ls) (Do.seq (M := OL W N n 0 ls) ?_ (ol_loop W N n ls hn _ fun a w h => h)) (fin_do W N n ls)
  intro a w ⟨f, g, L, M, F, hst, hk⟩
  have hz : isZ n = false := by
    cases n with
    | zero => omega
    | succ n => rfl
  rw [hz] at hst
  exact set_do (z20 n (vH false N n ls f g n)) (alike_less (T0 := o6Tm false n n n) (T := w10Tm n) (by repeat' constructor) (by kernel_rfl)) (fun a w h => by
    obtain ⟨env, S, hR, rfl, hfam, hb⟩ := h
    exact ⟨env, f, g, L, M, F, hR, .of hfam, hk, hb⟩) a w hst

theorem grow_do (W : World) (N n : Nat) (ls : Nat → ByteArray) (h1 : 1 ≤ n) (hn : n ≤ 10000) : Do Tryd.prog (.seq (.seq (cL (pc (bodyOf Tryd.f4) 7)) (.block 6 (.loop (roundOf Tryd.f4 6)))) (.seq (.seq (cL (pc (bodyOf Tryd.f4) 8)) (.block 10 (.loop (roundOf Tryd.f4 10)))) (at_ (bodyOf Tryd.f4) 9))) (O2 W N n n ls) (ownB_ W) := by
  refine Do.seq (M := O6 W N n n ls) (Do.seq (M := O6 W N n 0 ls) ?_ (o6_loop W N n ls hn _ fun a w h => h)) (last_do W N n ls h1 hn)
  intro a w ⟨env, f, L, M, F, hR, hfam, hl, hmk, hb⟩
  have hW1 : RepW env (oV1 N n ls f ++ [.dead]) w := hR.mem.addP (env' := env) (l := env 2) (fun _ _ => rfl) rfl trivial trivial (fun h => h.elim) (fun h => h.2.elim) (fun j oj _ _ _ hB => hB.elim)
  have hR1 : Rep env ⟨o2Tm n n, vH true N n ls f (fun _ => []) 0⟩ a w := hR.swap (V' := vH true N n ls f (fun _ => []) 0) hW1 (by show 2 ≤ 3; omega) (fun _ _ => rfl)
  have hf1 : Fam (fun r => if r < n then r else r - n) env (vH true N n ls f (fun _ => []) 0) w 9 1 (n + 0) L M F := (hfam.less fun j o hj hl hB => by
    match j, hj with
    | 0, hj => cases hj; exact ⟨0, _, rfl, rfl, hB, rfl⟩
    | 1, hj => cases hj; exact ⟨1, _, rfl, rfl, trivial, rfl⟩
    | 2, hj => cases hj; cases hl).regroup (G := id) fun i j hi hj hne e => by
      simp only [if_pos hi, if_pos hj] at hne
      exact hne e
  refine set_do (z17 n (vH true N n ls f (fun _ => []) 0)) (alike_less (T0 := o2Tm n n) (T := w2Tm n) (by repeat' constructor) (by kernel_rfl)) (fun a w h => ⟨f, fun _ => [], L, M, F, h, fun r hr => (hl.str r hr).len, fun r hr => ?_, fun r hr => absurd hr (Nat.not_lt_zero r), hl.row, fun r hr => absurd hr (Nat.not_lt_zero r)⟩) a w ⟨env, _, hR1, rfl, hf1, hb⟩
  obtain ⟨h, hF⟩ := (hl.str r hr).at_
  refine ⟨h, hF, fun k hk => ?_⟩
  have := hmk.at_ r hr k hk
  rw [hF] at this
  simpa using this

theorem mark_do (W : World) (N : Nat) (ls : Nat → ByteArray) : Do Tryd.prog (.seq (.seq (cL (pc (bodyOf Tryd.f4) 6)) (.block 2 (.loop (roundOf Tryd.f4 2)))) (.seq (.seq (cL (pc (bodyOf Tryd.f4) 7)) (.block 6 (.loop (roundOf Tryd.f4 6)))) (.seq (.seq (cL (pc (bodyOf Tryd.f4) 8)) (.block 10 (.loop (roundOf Tryd.f4 10)))) (at_ (bodyOf Tryd.f4) 9))))
    (fun a w => ∃ (n : Nat) (j : Int), 1 ≤ n ∧ n ≤ 10000 ∧ O1 W N n j ls a w) (ownB_ W) := by
  intro a w ⟨n, j, h1, hn, env, f, L, M, F, hR, hfam, hl, hb⟩
  refine Do.seq (M := O2 W N n n ls) (A := St W id 9 1 n L M F (isS ⟨oTm N n j, oV1 N n ls f⟩)) (Do.seq (M := O2 W N n 0 ls) ?_ (o2_loop W N n ls hn _ fun a w h => h)) (grow_do W N n ls h1 hn) a w ⟨env, _, hR, rfl, hfam, hb⟩
  exact set_do (z14 n (oV1 N n ls f)) (alike_less (T0 := oTm N n j) (T := w2Tm n) (by repeat' constructor) (by kernel_rfl)) fun a w h => by
    obtain ⟨env, S, hR, rfl, hfam, hb⟩ := h
    exact ⟨env, f, L, M, F, hR, hfam, hl, ⟨fun r hr => absurd hr (Nat.not_lt_zero r)⟩, hb⟩

variable (hesc : FnOK Tryd.prog 20 (g1 dStr escV))
include hesc
theorem rest_do (W : World) (N : Nat) (ls : Nat → ByteArray) (hsz : ∀ i, i < N → (ls i).size ≤ 2147483648) : Do Tryd.prog (.seq (.seq (cL (pc (bodyOf Tryd.f4) 5)) (.block 0 (.loop (roundOf Tryd.f4 0)))) (.seq (.seq (cL (pc (bodyOf Tryd.f4) 6)) (.block 2 (.loop (roundOf Tryd.f4 2))))
      (.seq (.seq (cL (pc (bodyOf Tryd.f4) 7)) (.block 6 (.loop (roundOf Tryd.f4 6)))) (.seq (.seq (cL (pc (bodyOf Tryd.f4) 8)) (.block 10 (.loop (roundOf Tryd.f4 10)))) (at_ (bodyOf Tryd.f4) 9))))) (OP W N ls) (ownB_ W) := by
  refine Do.seq (M := fun a w => ∃ (n : Nat) (j : Int), 1 ≤ n ∧ n ≤ 10000 ∧ O1 W N n j ls a w) (Do.seq (M := O1 W N 1 0 ls) ?_ (o1_loop hesc W N ls hsz _ fun n j a w h1 hn h => ⟨n, j, h1, hn, h⟩)) (mark_do W N ls)
  intro a w ⟨f, L, M, F, hst, hl⟩
  exact set_do (z7 N (oV1 N 1 ls f)) (X.Alike.refl _) (fun a w h => by
    obtain ⟨env, S, hR, rfl, hfam, hb⟩ := h
    exact ⟨env, f, L, M, F, hR, hfam, hl, hb⟩) a w hst

theorem own_do (W : World) (N : Nat) (ls : Nat → ByteArray) (hsz : ∀ i, i < N → (ls i).size ≤ 2147483648) : Do Tryd.prog (bodyOf Tryd.f4)
    (fun a w => ∃ env, Rep env ⟨e0Tm N, [.arg 9 1 N fun i => [.string (ls i)]]⟩ a w ∧ RowKit.Below WI.n W w) (ownB_ W) := by
  rw [own_body]
  refine Do.pieces (own_ctx hesc) 200 _ (fun c hc => .g) (rest_do hesc W N ls hsz) fun a w ⟨env, hR, hb⟩ => ⟨env, _, _, hR, pre_ok hesc N ls, fun e env' S' a' w' hF hR' hK => ?_⟩
  obtain ⟨env2, S2, hR2, hleaf, hlen, hag, hpl⟩ := hR'.shape hK
  have hb2 := hb.trans (hF.belowN hR.mem)
  cases e with
  | normal =>
    obtain ⟨h, rfl⟩ := hleaf
    have hc : (env2 1).cap = 1 := by
      obtain ⟨_, _, _, _, cs, _, _, _, h7⟩ := hR2.mem.mat 1 _ rfl
      exact h7 (by decide)
    have hR3 := hR2.rename (t := 5) (v := .slice (some ⟨1, 0, some 0⟩) 1 1) (v' := .slice (some ⟨1, 1, some 0⟩) 1 0) rfl (by simp [unk]) (by rw [ren_slice0, ren_slice1, hc]; rfl) (.slice (by show 1 < 3; omega))
    have hW4 := hR3.mem.closeR (q := 1) (t := 22) (m := 1) (n := 1) (cap := 1) (f := fun _ => []) (hs := [(0, [.slice (some ⟨2, 2, some 0⟩) 2 0])]) rfl
    have hW5 := capR hW4 (q := 1) (t := 22) (m := 1) (n := 1) (cap := 1) rfl
    have hR5 := hR3.swap (V' := oV1 N 1 ls (rawRow env2 (fun _ => []) [(0, [.slice (some ⟨2, 2, some 0⟩) 2 0])]) ++ [.vec 9 1 2 fun r => [.string (h r)]]) hW5 (by show 3 ≤ 3; omega) (fun _ _ => rfl)
    have hR6 := hR5.drop (V := oV1 N 1 ls _) (oV1_sc _ _ _ _) (by kernel_rfl)
    have f1 := (fam_none (G := id) (env := env2) (w := w') (t := 9) (m := 1) (fun _ => nilL 1) (fun _ => 0) (fun _ => noF)).push hR2.mem (p := 2) (k := 2) (f := fun r => [.string (h r)]) rfl (fun r _ => rfl)
    have l1 : Lists 0 (fun _ => nilL 1) (fun _ => 0) (fun _ => noF) (fun _ => []) := ⟨fun i hi => absurd hi (Nat.not_lt_zero i), fun i hi => absurd hi (Nat.not_lt_zero i)⟩
    refine (show OP W N ls a' w' from ⟨rawRow env2 (fun _ => []) [(0, [.slice (some ⟨2, 2, some 0⟩) 2 0])], _, _, _, ⟨env2, _, hR6, rfl, f1.less fun k o hk hl hB => ?_, hb2⟩, l1.ext (l := env2 2) (k := 2) (g := fun r => [.string (h r)]) ⟨⟨h, rfl⟩, by omega⟩ (fun r hr => absurd hr (Nat.not_lt_zero r)) ?_⟩)
    · match k, hk with
      | 0, hk => cases hk; exact ⟨0, _, rfl, rfl, hB, rfl⟩
      | 1, hk => cases hk; exact ⟨1, _, rfl, rfl, trivial, rfl⟩
    · rw [rawRow_one_at, List.map_cons, memV_of]; rfl
  | _ => exact hleaf.elim

/-- the law returns true -/
theorem own_calls (N : Nat) (ls : Nat → ByteArray) (hsz : ∀ i, i < N → (ls i).size ≤ 2147483648) (env : Nat → X.Loc) (w : World) (hW : RepW env [.arg 9 1 N fun i => [.string (ls i)]] w) :
    Calls Tryd.prog 4 #[ren env (.slice (some ⟨0, 3, some 0⟩) N 0)] w fun e w' => e = .returned (.bool true) ∧ RowKit.Below WI.n w w' := by
  refine calls_of_wp Tryd.func4 rfl ?_
  have hR := Rep.start (args := [.slice (some ⟨0, 3, some 0⟩) N 0]) hW (fun v hv => by rw [List.mem_singleton] at hv; subst hv; exact .slice (by show 0 < 1; omega)) 233
  have hnt : Tryd.f4.ntmps = 233 := by kernel_rfl
  have e1 : ({ tmps := #[ren env (.slice (some ⟨0, 3, some 0⟩) N 0)] ++ Array.replicate (Tryd.f4.ntmps - (#[ren env (.slice (some ⟨0, 3, some 0⟩) N 0)] : Array Value).size) undef, defers := [] } : Act) =
      { tmps := ([Value.slice (some ⟨0, 3, some 0⟩) N 0].map (ren env)).toArray ++ Array.replicate (233 - ([Value.slice (some ⟨0, 3, some 0⟩) N 0].map (ren env)).toArray.size) undef, defers := [] } := by rw [hnt]; rfl
  rw [e1]
  refine wp_mono (own_do hesc w N ls hsz _ w ⟨env, hR, .refl _ _⟩) ?_
  rintro e a' w' ⟨hne, env', S', hR', hK, hb⟩
  obtain ⟨he, v, hrun, rfl⟩ := xend_ok hR' hK
  have : a'.defers = [] ∧ ∃ u, (results Tryd.f4 a'.tmps).run Tryd.prog w' = .ok u w' ∧ Ending.returned u = .returned (.bool true) ∧ RowKit.Below WI.n w w' := ⟨hR'.def_, _, hrun, by rw [ren_bool], hb⟩
  rcases he with rfl | rfl
  · exact this
  · exact this
end Go.Sh
