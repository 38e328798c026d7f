/- The document's Quote: its contract. -/
import Derived.Test.YtlnmampbiapglaaDoorShQ4
set_option linter.unusedSimpArgs false
set_option linter.unusedSectionVars false
set_option linter.unusedVariables false
set_option maxRecDepth 10000
namespace Go.Sh
open Go Go.X Go.Proofs
variable [WI]

/-- a row of known capacity, taken as one that may be nil -/
theorem RepW.asVec {env : Nat → X.Loc} {V : VW} {w : World} (hR : RepW env V w) {i : Nat} {t : TypeId} {m n cap : Nat} {f : Nat → List Value} (hi : V[i]? = some (.rows true t m n cap f)) (hn : 0 < n) :
    RepW env (V.set i (.vec t m n f)) w := by
  obtain ⟨hm, hrows, hown⟩ := hR.mat _ _ hi
  obtain ⟨hb, cs, hh, hcs, hcap, hc⟩ := hown rfl
  refine ⟨fun j oj hj => ?_, fun j oj hj => ?_, fun j oj hj hB => ?_, fun j k oj ok hj hk hjk hw hl hBj hBk => ?_, hR.inv, fun j oj hj ho => ?_, hR.room⟩
  · rcases setV_get hj with ⟨rfl, rfl, _⟩ | ⟨hne, hj'⟩
    · exact ⟨hm, fun h => by omega, fun _ => ⟨hrows, hb, cs, hh, hcs, hcap⟩⟩
    · exact hR.mat j oj hj'
  · rw [List.length_set]
    rcases setV_get hj with ⟨rfl, rfl, _⟩ | ⟨hne, hj'⟩
    · have := hR.sc _ _ hi
      exact this
    · exact hR.sc j oj hj'
  · rcases setV_get hj with ⟨rfl, rfl, _⟩ | ⟨hne, hj'⟩
    · exact hR.blk _ _ hi trivial
    · exact hR.blk j oj hj' hB
  · rcases setV_get hj with ⟨rfl, rfl, _⟩ | ⟨hne, hj'⟩
    · rcases setV_get hk with ⟨rfl, rfl, _⟩ | ⟨hne, hk'⟩
      · exact absurd rfl hjk
      · exact hR.sep _ _ _ ok hi hk' hjk rfl hl trivial hBk
    · rcases setV_get hk with ⟨rfl, rfl, _⟩ | ⟨hne, hk'⟩
      · exact hR.sep _ _ oj _ hj' hi hjk hw rfl hBj trivial
      · exact hR.sep _ _ oj ok hj' hk' hjk hw hl hBj hBk
  · rcases setV_get hj with ⟨rfl, rfl, _⟩ | ⟨hne, hj'⟩
    · exact hR.low _ _ hi ⟨rfl, trivial⟩
    · exact hR.low j oj hj' ho

theorem Does.asVec {P : Program} {c : Code} {S S' : VSt} {K : Exit → VSt → Prop} {i : Nat} {t : TypeId} {m n cap : Nat} {f : Nat → List Value} (hi : S.V[i]? = some (.rows true t m n cap f)) (hn : 0 < n) (hc0 : cap ≠ 0) (hV : S'.V = S.V.set i (.vec t m n f))
    (hl : S'.tmps.length = S.tmps.length) (hsc : ∀ v ∈ S'.tmps, Sc S'.V.length v)
    (ht : ∀ x, x < S'.tmps.length → nth undef S'.tmps x = unk ∨ nth undef S'.tmps x = nth undef S.tmps x ∨ ∃ l c', nth undef S.tmps x = .slice (some ⟨i, 0, some 0⟩) l cap ∧ nth undef S'.tmps x = .slice (some ⟨i, 2, some 0⟩) l c')
    (h : Does P c S' K) : Does P c S K := by
  intro env a w hR
  obtain ⟨hm, hrows, hown⟩ := hR.mem.mat _ _ hi
  obtain ⟨hb, cs, hh, hcs, hcap, hc⟩ := hown rfl
  have hcc := hc hc0
  have hR' : Rep env S' a w := by
    refine ⟨hV ▸ RepW.asVec hR.mem hi hn, hR.def_, by rw [hR.size, hl], fun x hx => ?_, hsc⟩
    have h0 := hR.tm x (by rw [← hl]; exact hx)
    rcases ht x hx with h1 | h1 | ⟨l, c', h1, h2⟩
    · exact .inl h1
    · rw [h1]; exact h0
    · right
      rcases h0 with h0 | h0
      · rw [h1] at h0; cases h0
      · rw [h0, h1, h2, ren_slice0, ren_slice2 env _ _ rfl]
        cases hk : (env i).cap with
        | zero => omega
        | succ k => simp only [hk]; rw [← hcc, hk]; simp
  refine wp_mono (h env a w hR') fun e a' w' ⟨hne, env', S2, hF, hR2, hK⟩ => ⟨hne, env', S2, ?_, hR2, hK⟩
  rw [hV] at hF
  refine ⟨fun j hj => hF.agree j (by simpa using hj), by have := hF.len; simpa using this, hF.os, hF.tape, hF.output, hF.size, fun b hb' hno => hF.keep b hb' fun j o hj ho => ?_, fun j o hj ho => ?_⟩
  · rcases setV_get hj with ⟨rfl, rfl, _⟩ | ⟨_, hj'⟩
    · exact hno _ _ hi ⟨rfl, trivial⟩
    · exact hno j o hj' ho
  · rcases hF.own j o hj ho with ⟨q, oq, hq, hoq, he⟩ | hge
    · rcases setV_get hq with ⟨rfl, rfl, _⟩ | ⟨_, hq'⟩
      · exact .inl ⟨_, _, hi, ⟨rfl, trivial⟩, he⟩
      · exact .inl ⟨q, oq, hq', hoq, he⟩
    · exact .inr hge

def rq0Tm (n cap : Nat) : List Value := [.slice (some ⟨0, 0, some 0⟩) n cap, unk, unk, .slice (some ⟨2, 0, some 0⟩) 1 1, .int .i64 0] ++ List.replicate 60 unk
def rq1Tm (n cap : Nat) : List Value := [.slice (some ⟨0, 0, some 0⟩) n cap, unk, unk, .slice (some ⟨2, 2, some 0⟩) 1 0, .int .i64 0] ++ List.replicate 60 unk
structure ROne (g : Nat → List Value) : Prop where
  at_ : g 0 = [.int .u8 34]
def rqB (n0 c0 : Nat) (h : Nat → Int) (n1 c1 : Nat) (f1 : Nat → List Value) (cap : Nat) (l : List UInt8) : BlkS := fun S K =>
  match (S.V.getLast? : Option VObj) with
  | some (.rows true 5 1 1 1 g) =>
    leT (rq0Tm l.length cap) S.tmps ∧ QSt ⟨[], S.V⟩ ⟨[], [.rows false 5 1 n0 c0 fun j => [.int .u8 (h j)], .rows true 5 1 n1 c1 f1, .rows true 5 1 1 1 g]⟩ ∧ ROne g ∧
    ∀ m c g, QuEnd l m m g → K .normal (rqE n0 c0 (fun j => [.int .u8 (h j)]) n1 c1 f1 m c g)
  | _ => False

theorem rq_loop (n0 c0 : Nat) (h : Nat → Int) (n1 c1 : Nat) (f1 : Nat → List Value) (hf1 : ∀ r, r < n1 → ∀ v ∈ f1 r, Sc 0 v ∧ cellC v = true)
    (cap : Nat) (l : List UInt8) (hl : l.length ≤ 16777216) (h1 : IntB h l) (hln : l.length ≤ n0) (S : VSt) (K : Exit → VSt → Prop) (hB : rqB n0 c0 h n1 c1 f1 cap l S K) : Does Tryd.prog (.block 0 (.loop (roundOf Tryd.f12 0))) S K := by
  unfold rqB at hB
  split at hB
  · rename_i g _
    obtain ⟨h2, ⟨h3⟩, ⟨hg0⟩, h4⟩ := hB
    have hV := (VSt.mk.inj h3).2
    have hsc : ∀ (k : Nat) (o : VObj), ([.rows false 5 1 n0 c0 fun j => [.int .u8 (h j)], .rows true 5 1 n1 c1 f1, .rows true 5 1 1 1 g] : VW)[k]? = some o → ScO 3 o := fun k o hk => by
      match k, hk with
      | 0, hk => cases hk; intro r _ v hv; simp at hv; subst hv; exact ⟨.plain rfl, rfl⟩
      | 1, hk => cases hk; exact hf1
      | 2, hk => cases hk; intro r hr v hv; have : r = 0 := by omega
                 subst this; rw [hg0] at hv; simp at hv; subst hv; exact ⟨.plain rfl, rfl⟩
    refine Does.weaken (S' := ⟨rq0Tm l.length cap, [.rows false 5 1 n0 c0 fun j => [.int .u8 (h j)], .rows true 5 1 n1 c1 f1, .rows true 5 1 1 1 g]⟩) ?_ h2 hV.symm (.of rfl hsc)
    refine Does.asVec (S' := ⟨rq1Tm l.length cap, [.rows false 5 1 n0 c0 fun j => [.int .u8 (h j)], .rows true 5 1 n1 c1 f1, .vec 5 1 1 g]⟩) (i := 2) rfl (by decide) (by decide) rfl rfl
      (fun v hv => scB_ok 6 v (List.all_eq_true.1 (show (rq1Tm l.length cap).all (scB 3 6) = true from rfl) v hv)) (fun x hx => ?_) ?_
    · match x, hx with
      | 0, _ => exact .inr (.inl rfl)
      | 1, _ => exact .inl rfl
      | 2, _ => exact .inl rfl
      | 3, _ => exact .inr (.inr ⟨1, 0, rfl, rfl⟩)
      | 4, _ => exact .inr (.inl rfl)
      | x + 5, _ => right; left; rfl
    · refine Does.mono (Does.loopR (K := rqK n0 c0 (fun j => [.int .u8 (h j)]) n1 c1 f1 l) rqKs rqSel rqNt [] (rqJ n0 c0 (fun j => [.int .u8 (h j)]) n1 c1 f1 cap l) _ ?_ fun k S' hJ => rq_round n0 c0 h n1 c1 f1 hf1 cap l hl h1 hln k S' hJ) fun e S' hK => ?_
      · refine reshape_mono (fun S hS => ⟨l.length, hS⟩) ?_
        refine (show rqJ n0 c0 (fun j => [.int .u8 (h j)]) n1 c1 f1 cap l l.length ⟨rqTm l.length cap 1 0 0, rqV n0 c0 (fun j => [.int .u8 (h j)]) n1 c1 f1 1 g⟩ from ?_)
        exact ⟨leT_refl _, ⟨rfl⟩, ⟨0, rfl, by omega, rfl, rfl, RowB.one 34 hg0⟩⟩
      · unfold rqK at hK
        split at hK
        · split at hK
          · obtain ⟨⟨h5, rfl, h6⟩, ⟨rfl⟩⟩ := hK
            exact h4 _ _ _ ⟨h5, rfl, h6⟩
          · exact hK.elim
        · exact hK.elim
  · exact hB.elim

structure RQPre (r n n0 : Nat) (f0 : Nat → List Value) (l : List UInt8) : Prop where
  ex : r = 0 ∧ ∃ h : Nat → Int, f0 = (fun j => [.int .u8 (h j)]) ∧ n = l.length ∧ l.length ≤ n0 ∧ l.length ≤ 16777216 ∧ IntB h l
structure IsNil (l : List UInt8) : Prop where
  eq : l = []

/-- the document's Quote, of the first place or of nil -/
def refqT (l : List UInt8) : CallS := fun args V K =>
  match args, V with
  | [.slice (some ⟨0, 0, some r⟩) n _], [.rows false 5 1 n0 c0 f0, .rows true 5 1 n1 c1 f1] => RQPre r n n0 f0 l ∧ ∀ s, QOut l s → K (.string s) [.rows false 5 1 n0 c0 f0, .rows true 5 1 n1 c1 f1]
  | [.slice none 0 0], [.rows false 5 1 n0 c0 f0, .rows true 5 1 n1 c1 f1] => IsNil l ∧ ∀ s, QOut l s → K (.string s) [.rows false 5 1 n0 c0 f0, .rows true 5 1 n1 c1 f1]
  | _, _ => False

theorem refq_run (n0 c0 : Nat) (h : Nat → Int) (n1 c1 : Nat) (f1 : Nat → List Value) (hf1 : ∀ r, r < n1 → ∀ v ∈ f1 r, Sc 0 v ∧ cellC v = true) (cap : Nat) (l : List UInt8) (hl : l.length ≤ 16777216) (h1 : IntB h l) (hln : l.length ≤ n0) :
    CallDoes Tryd.prog 12 [.slice (some ⟨0, 0, some 0⟩) l.length cap] [.rows false 5 1 n0 c0 fun j => [.int .u8 (h j)], .rows true 5 1 n1 c1 f1] fun v V' =>
      reshape 2 [.keep 0, .keep 1] [0] [] [] ⟨[v], V'⟩ (quLeaf [.rows false 5 1 n0 c0 fun j => [.int .u8 (h j)], .rows true 5 1 n1 c1 f1] l) := by
  refine of_run (ctxG_ok (l := []) (cs := []) (bs := [(0, rqB n0 c0 h n1 c1 f1 cap l)]) .nil .nil) (n := 200) Tryd.func12 rfl (.one rfl rfl (rq_loop n0 c0 h n1 c1 f1 hf1 cap l hl h1 hln)) ?_
  refine by_nf (B := (Value.slice (some { block := (0 : Nat), off := (0 : Nat), spot := some (0 : Nat) : Addr }) l.length cap = Value.slice (some { block := (0 : Nat), off := (0 : Nat), spot := some (0 : Nat) : Addr }) l.length cap ∧
    Value.slice (some { block := (2 : Nat), off := (0 : Nat), spot := some (0 : Nat) : Addr }) (1 : Nat) (1 : Nat) = Value.slice (some { block := (2 : Nat), off := (0 : Nat), spot := some (0 : Nat) : Addr }) (1 : Nat) (1 : Nat) ∧
    Value.int IntKind.i64 (0 : Int) = Value.int IntKind.i64 (0 : Int) ∧
    True) ∧
    QSt { tmps := [], V := [VObj.rows false (5 : TypeId) (1 : Nat) n0 c0 fun j => [Value.int IntKind.u8 (h j)], VObj.rows true (5 : TypeId) (1 : Nat) n1 c1 f1, VObj.rows true (5 : Nat) (1 : Nat) (1 : Nat) (1 : Nat) (nth [] [[Value.int IntKind.u8 (34 : Int)]])] : VSt } { tmps := [], V := [VObj.rows false (5 : TypeId) (1 : Nat) n0 c0 fun j => [Value.int IntKind.u8 (h j)], VObj.rows true (5 : TypeId) (1 : Nat) n1 c1 f1, VObj.rows true (5 : TypeId) (1 : Nat) (1 : Nat) (1 : Nat) (nth [] [[Value.int IntKind.u8 (34 : Int)]])] : VSt } ∧
    ROne (nth [] [[Value.int IntKind.u8 (34 : Int)]]) ∧
    ∀ (m c : Nat) (g : Nat → List Value), QuEnd l m m g → ((1 : Nat) ≤ (1 : Nat) ∧
    m = m ∧
    Nat.succ (0 : Nat) ≤ (1 : Nat) ∧
    fitsN (m + (1 : Nat)) (1 : Nat)) ∧
    ((0 : Nat) + (m + (1 : Nat)) ≤ m + (1 : Nat) ∧
    areBytes (joinF m g fun j => nth [] [[Value.int IntKind.u8 (34 : Int)]] ((0 : Nat) + j)) (0 : Nat) (m + (1 : Nat))) ∧
    QSt { tmps := [], V := [VObj.rows false (5 : TypeId) (1 : Nat) n0 c0 fun j => [Value.int IntKind.u8 (h j)], VObj.rows true (5 : TypeId) (1 : Nat) n1 c1 f1] : VSt } { tmps := [], V := [VObj.rows false (5 : TypeId) (1 : Nat) n0 c0 fun j => [Value.int IntKind.u8 (h j)], VObj.rows true (5 : TypeId) (1 : Nat) n1 c1 f1] : VSt } ∧
    QOut l (strOf (joinF m g fun j => nth [] [[Value.int IntKind.u8 (34 : Int)]] ((0 : Nat) + j)) (0 : Nat) (m + (1 : Nat)))) (by kernel_rfl) ?_
  refine ⟨⟨rfl, rfl, rfl, trivial⟩, ⟨rfl⟩, ⟨rfl⟩, fun m c g hq => ?_⟩
  obtain ⟨hm, _, hg⟩ := hq
  subst hm
  have hlen := qbs_len l
  have hT : (34 :: qbs l).length ≤ 4 * l.length + 1 := by simp only [List.length_cons]; omega
  have hr := hg.appL (rows := [[.int .u8 34]]) (bs := [34]) (fun j b hj => by
    match j, hj with
    | 0, hj => simp at hj; subst hj; rfl
    | j + 1, hj => simp at hj)
  have e : (34 :: qbs l ++ [34]).length = (34 :: qbs l).length + 1 := by simp
  have h2 := hr.bytes
  have h3 := hr.str
  rw [e] at h2 h3
  refine ⟨⟨by omega, rfl, by omega, ⟨by omega, by omega⟩⟩, ⟨by omega, h2⟩, ⟨rfl⟩, ⟨?_⟩⟩
  rw [h3]
  simp [bytesL, quoteL]

theorem refq_nil (n0 c0 : Nat) (f0 : Nat → List Value) (n1 c1 : Nat) (f1 : Nat → List Value) :
    CallDoes Tryd.prog 12 [.slice none 0 0] [.rows false 5 1 n0 c0 f0, .rows true 5 1 n1 c1 f1] fun v V' =>
      reshape 2 [.keep 0, .keep 1] [0] [] [] ⟨[v], V'⟩ (quLeaf [.rows false 5 1 n0 c0 f0, .rows true 5 1 n1 c1 f1] []) := by
  refine of_run (ctxG_ok (l := []) (cs := []) (bs := []) .nil .nil) (n := 200) Tryd.func12 rfl .g ?_
  refine by_nf (B := ((1 : Nat) ≤ (1 : Nat) ∧
    (1 : Nat) ≤ (1 : Nat) ∧
    (Nat.succ (0 : Nat) ≤ (1 : Nat) ∧
    (1 : Nat) = (1 : Nat)) ∧
    fitsN (2 : Nat) (1 : Nat)) ∧
    ((2 : Nat) ≤ (2 : Nat) ∧
    areBytes (joinF (1 : Nat) (nth [] [[Value.int IntKind.u8 (34 : Int)]]) fun j => nth [] [[Value.int IntKind.u8 (34 : Int)]] ((0 : Nat) + j)) (0 : Nat) (2 : Nat)) ∧
    QSt { tmps := [], V := [VObj.rows false (5 : TypeId) (1 : Nat) n0 c0 f0, VObj.rows true (5 : TypeId) (1 : Nat) n1 c1 f1] : VSt } { tmps := [], V := [VObj.rows false (5 : TypeId) (1 : Nat) n0 c0 f0, VObj.rows true (5 : TypeId) (1 : Nat) n1 c1 f1] : VSt } ∧
    QOut [] (strOf (joinF (1 : Nat) (nth [] [[Value.int IntKind.u8 (34 : Int)]]) fun j => nth [] [[Value.int IntKind.u8 (34 : Int)]] ((0 : Nat) + j)) (0 : Nat) (2 : Nat))) (by kernel_rfl) ?_
  have hr : RowB (joinF 1 (nth [] [[Value.int .u8 34]]) fun j => nth [] [[Value.int .u8 34]] (0 + j)) [34, 34] := fun j b hj => by
    match j, hj with
    | 0, hj => simp at hj; subst hj; rfl
    | 1, hj => simp at hj; subst hj; rfl
    | j + 2, hj => simp at hj
  have h2 := hr.bytes
  have h3 := hr.str
  refine ⟨⟨by omega, by omega, ⟨by omega, rfl⟩, ⟨by omega, by omega⟩⟩, ⟨by omega, h2⟩, ⟨rfl⟩, ⟨?_⟩⟩
  have e : ([34, 34] : List UInt8).length = 2 := rfl
  rw [e] at h3
  rw [h3]
  rfl

theorem refq_ok (l : List UInt8) : CallOK Tryd.prog 12 (refqT l) := by
  refine ⟨callable Tryd.func12 rfl (by decide +kernel), fun args V K hT => ?_⟩
  unfold refqT at hT
  split at hT
  · rename_i r n c n0 c0 f0 n1 c1 f1
    obtain ⟨⟨rfl, h, rfl, rfl, hln, hl, h1⟩, hK⟩ := hT
    refine CallDoes.reshape (fun _ _ => [.keep 0, .keep 1]) [] [] ?_
    intro env w hW hsc
    have hf1 : ∀ r, r < n1 → ∀ v ∈ f1 r, Sc 0 v ∧ cellC v = true := hW.sc 1 _ rfl
    refine (refq_run n0 c0 h n1 c1 f1 hf1 c l hl h1 hln env w hW hsc).mono ?_
    rintro e w' ⟨u, env', V', v, g1, g2, g3, g4, g5⟩
    refine ⟨u, env', V', v, g1, g2, g3, g4, reshape_mono (fun S hS => ?_) g5⟩
    unfold quLeaf at hS
    split at hS
    · rename_i e1
      obtain ⟨⟨e4⟩, h5⟩ := hS
      unfold one1
      rw [e1, (VSt.mk.inj e4).2]
      exact hK _ h5
    · exact hS.elim
  · rename_i n0 c0 f0 n1 c1 f1
    obtain ⟨⟨rfl⟩, hK⟩ := hT
    refine CallDoes.reshape (fun _ _ => [.keep 0, .keep 1]) [] [] ?_
    intro env w hW hsc
    refine (refq_nil n0 c0 f0 n1 c1 f1 env w hW hsc).mono ?_
    rintro e w' ⟨u, env', V', v, g1, g2, g3, g4, g5⟩
    refine ⟨u, env', V', v, g1, g2, g3, g4, reshape_mono (fun S hS => ?_) g5⟩
    unfold quLeaf at hS
    split at hS
    · rename_i e1
      obtain ⟨⟨e4⟩, h5⟩ := hS
      unfold one1
      rw [e1, (VSt.mk.inj e4).2]
      exact hK _ h5
    · exact hS.elim
  · exact hT.elim
end Go.Sh
