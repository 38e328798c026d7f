/- ParseUint of two digits; the library's ToLower and its errors as contracts; escape. -/
import Derived.Test.YtlnmampbiapglaaDoorShE
set_option linter.unusedSimpArgs false
set_option linter.unusedSectionVars false
set_option linter.unusedVariables false
set_option maxRecDepth 10000
namespace Go.Sh
open Go Go.X Go.Proofs
variable [WI]

def parB (s : ByteArray) : BlkS := fun S K =>
  reshape S.V.length (parSel .normal S) (parKs .normal) [] [] S (parJ s 2) ∧ S.V.length = 1 ∧ (∀ n, PR s n → K .normal (parE s n)) ∧ (PE s → K .ret (parR s))

theorem par_loop (s : ByteArray) (hs : s.size = 2) (S : VSt) (K : Exit → VSt → Prop) (hB : parB s S K) : Does Tryd.prog (.block 3 (.loop (roundOf Tryd.f27 3))) S K := by
  obtain ⟨h1, h2, h3, h4⟩ := hB
  refine Does.mono (Does.loopR (K := parK s) parKs parSel [] [] (parJ s) S (reshape_mono (fun S hS => ⟨_, hS⟩) h1) fun k S' hJ => ?_) fun e S' hK => ?_
  · rw [h2]; exact par_round s hs k S' hJ
  · unfold parK at hK
    split at hK
    · split at hK
      · obtain ⟨h5, ⟨rfl⟩⟩ := hK
        exact h3 _ h5
      · exact hK.elim
    · obtain ⟨h5, ⟨rfl⟩⟩ := hK
      exact h4 h5
    · exact hK.elim

def parLeaf (s : ByteArray) (S : VSt) : Prop :=
  match S.tmps, S.V with
  | [.tuple ⟨[.int .u64 n, .nilIface]⟩], [] => PR s n
  | [.tuple ⟨[.int .u64 0, .iface 71 (.int .i64 2)]⟩], [] => PE s
  | _, _ => False

theorem parse_run (s : ByteArray) (hs : s.size = 2) : CallDoes Tryd.prog 27 [.string s, .int .i64 16, .int .i64 8] [] fun v V => reshape 0 [] [0] [] [] ⟨[v], V⟩ (parLeaf s) := by
  refine of_run (ctxG_ok (cs := []) (bs := [(3, parB s)]) (.cons lower_ok .nil) .nil) (n := 200) Tryd.func27 rfl (.one rfl rfl (par_loop s hs)) ?_
  refine by_nf (B := bsplit (s.data.toList == { data := #[] : ByteArray }.data.toList) (PE s) ((0 : Int) ≤ IntKind.u64.wrap (8 : Int) ∧
    True ∧
    ((Value.int IntKind.i64 (16 : Int) = Value.int IntKind.i64 (16 : Int) ∧
    Value.bool false = Value.bool ((16 : Int) == (0 : Int)) ∧
    Value.int IntKind.u64 (1152921504606846976 : Int) = Value.int IntKind.u64 (1152921504606846976 : Int) ∧
    Value.int IntKind.u64 (255 : Int) = Value.int IntKind.u64 (IntKind.u64.wrap (IntKind.u64.wrap ((1 : Int) * (2 : Int) ^ min (IntKind.u64.wrap (8 : Int)).toNat IntKind.u64.bits) - (1 : Int))) ∧
    Value.bool false = Value.bool false ∧
    Value.int IntKind.u64 (0 : Int) = Value.int IntKind.u64 (0 : Int) ∧
    Value.slice (some { block := (0 : Nat), off := (1 : Nat), spot := some (0 : Nat) : Addr }) s.size (0 : Nat) = Value.slice (some { block := (0 : Nat), off := { block := (0 : Nat), off := (1 : Nat), spot := some (0 : Nat) : Addr }.off, spot := some (0 : Nat) : Addr }) s.size (0 : Nat) ∧
    Value.int IntKind.i64 (↑s.size : Int) = Value.int IntKind.i64 (↑s.size : Int) ∧
    Value.int IntKind.i64 (0 : Int) = Value.int IntKind.i64 (0 : Int) ∧
    True) ∧
    QSt { tmps := [], V := [VObj.rows false (5 : Nat) (1 : Nat) s.size (0 : Nat) (u8 s)] : VSt } { tmps := [], V := [VObj.rows false (5 : TypeId) (1 : Nat) s.size (0 : Nat) (u8 s)] : VSt } ∧
    PAt s (2 : Nat) (0 : Int) (0 : Int)) ∧
    (1 : Nat) = (1 : Nat) ∧
    (∀ (n : Int), PR s n → PR s n) ∧
    (PE s → PE s))) (by kernel_rfl) ?_
  refine bsplit_iff.2 ⟨fun h => ?_, fun _ => ⟨by decide, trivial, ⟨⟨rfl, rfl, rfl, congrArg (Value.int .u64) (by decide), rfl, rfl, rfl, rfl, rfl, trivial⟩, ⟨rfl⟩, ⟨0, rfl, rfl, rfl, fun m hm => by omega⟩⟩, rfl, fun n h => h, fun h => h⟩⟩
  have h1 : s.data.toList = [] := by simpa using h
  have h2 : s.data.toList.length = 2 := hs
  rw [h1] at h2
  cases h2

def parseT : CallS := fun args V K =>
  match args with
  | [.string s, .int .i64 16, .int .i64 8] => s.size = 2 ∧ (∀ n, PR s n → K (.tuple ⟨[.int .u64 n, .nilIface]⟩) V) ∧ (PE s → K (.tuple ⟨[.int .u64 0, .iface 71 (.int .i64 2)]⟩) V)
  | _ => False

theorem parse_ok : CallOK Tryd.prog 27 parseT := by
  refine ⟨callable Tryd.func27 rfl (by decide +kernel), fun args V K hT => ?_⟩
  unfold parseT at hT
  split at hT
  · rename_i s
    obtain ⟨hs, h1, h2⟩ := hT
    refine CallDoes.frame (fun x hx => by simp at hx; rcases hx with rfl | rfl | rfl <;> exact .plain rfl) ?_
    refine CallDoes.reshape (fun _ _ => []) [] [] ?_
    intro env w hW hsc
    refine (parse_run s hs env w hW hsc).mono ?_
    rintro e w' ⟨u, env', V', v, g1, g2, g3, g4, g5⟩
    refine ⟨u, env', V', v, g1, g2, g3, g4, reshape_mono (fun S hS => ?_) g5⟩
    unfold parLeaf at hS
    unfold one1
    split at hS
    · rename_i e1 e2
      rw [e1, e2]
      exact ⟨by simp, by simpa [renB] using h1 _ hS⟩
    · rename_i e1 e2
      rw [e1, e2]
      exact ⟨by simp, by simpa [renB] using h2 hS⟩
    · exact hS.elim
  · exact hT.elim

theorem keepBelow {env : Nat → X.Loc} {V : VW} {w w' : World} (hW : RepW env V w) (hB : RowKit.Below w.heap.size w w') : RepW env V w' ∧ Fr env V w env V w' :=
  pairRF hW (fun i o hi => (hW.mat i o hi).keep (fun h => hB.block _ (hW.blk i o hi h)) (hW.sc i o hi) fun _ _ => rfl) (fun i o hi => hW.sc i o hi)
    (fun i o hi h => Nat.lt_of_lt_of_le (hW.blk i o hi h) hB.size) (fun i j oi oj hi hj hij h1 h2 h3 h4 => hW.sep i j oi oj hi hj hij h1 h2 h3 h4)
    ⟨fun _ _ => rfl, Nat.le_refl _, hB.os, hB.tape, hB.output, hB.size, fun b hb _ => hB.block b hb, fun i o hi ho => .inl ⟨i, o, hi, ho, rfl⟩⟩

theorem addDead {env : Nat → X.Loc} {V : VW} {w w' : World} (N : Nat) (hW : RepW env V w) (hB : RowKit.Below w.heap.size w w') (hN : w.heap.size ≤ N) :
    ∃ env' : Nat → X.Loc, env' V.length = ⟨N, 0, 0, 0⟩ ∧ RepW env' (V ++ [.dead]) w' ∧ Fr env V w env' (V ++ [.dead]) w' := by
  obtain ⟨env', hag, hnew⟩ : ∃ env' : Nat → X.Loc, (∀ i, i < V.length → env' i = env i) ∧ (∀ i, ¬ i < V.length → env' i = ⟨N, 0, 0, 0⟩) :=
    ⟨fun i => if i < V.length then env i else ⟨N, 0, 0, 0⟩, fun i h => by simp [h], fun i h => by simp [h]⟩
  refine ⟨env', hnew _ (Nat.lt_irrefl _), ?_⟩
  have hget : ∀ {i : Nat} {o : VObj}, (V ++ [.dead])[i]? = some o → (i < V.length ∧ V[i]? = some o) ∨ (¬ i < V.length ∧ o = .dead) := by
    intro i o h
    rw [List.getElem?_append] at h
    split at h
    · exact .inl ⟨‹_›, h⟩
    · refine .inr ⟨‹_›, ?_⟩
      have : ([VObj.dead] : List VObj)[i - V.length]? = some o := h
      rcases hk : i - V.length with _ | k
      · rw [hk] at this; simpa using this.symm
      · rw [hk] at this; simp at this
  refine pairRF hW (fun i o hi => ?_) (fun i o hi => ?_) (fun i o hi h => ?_) (fun i j oi oj hi hj hij h1 h2 h3 h4 => ?_)
    ⟨hag, by simp, hB.os, hB.tape, hB.output, hB.size, fun b hb _ => hB.block b hb, fun i o hi ho => ?_⟩
  · rcases hget hi with ⟨hlt, h⟩ | ⟨_, rfl⟩
    · rw [hag i hlt]; exact (hW.mat i o h).keep (fun hb => hB.block _ (hW.blk i o h hb)) (hW.sc i o h) hag
    · trivial
  · rcases hget hi with ⟨hlt, h⟩ | ⟨_, rfl⟩
    · exact (hW.sc i o h).mono (by simp)
    · trivial
  · rcases hget hi with ⟨hlt, h'⟩ | ⟨_, rfl⟩
    · rw [hag i hlt] at h ⊢; exact Nat.lt_of_lt_of_le (hW.blk i o h' h) hB.size
    · exact h.elim
  · rcases hget hi with ⟨hlt, hi⟩ | ⟨_, rfl⟩
    · rcases hget hj with ⟨hlt2, hj⟩ | ⟨_, rfl⟩
      · rw [hag i hlt] at h3 ⊢; rw [hag j hlt2] at h4 ⊢; exact hW.sep i j oi oj hi hj hij h1 h2 h3 h4
      · exact h4.elim
    · exact h3.elim
  · rcases hget hi with ⟨hlt, h⟩ | ⟨hn, rfl⟩
    · left; rw [hag i hlt] at ho ⊢; exact ⟨i, o, h, ho, rfl⟩
    · exact ho.2.elim

/-- what is known of the variable of the library's error -/
def ErrVar : Prop := ∀ w : World, WI.I w → ∃ ev, w.cell? ⟨0, 0, none⟩ = some ev ∧ (ev = .nilIface ∨ ∃ te pe, ev = .iface te pe)

def toErrT : CallS := fun args V K =>
  match args with
  | [.string fn, .string s, .int .i64 _, .int .i64 _, .iface 71 (.int .i64 2)] => s.size ≤ 281474976710656 ∧ K (.iface 73 (.pointer (some ⟨V.length, 0, none⟩))) (V ++ [.dead])
  | _ => False

theorem toErr_ok (herr : ErrVar) : CallOK Tryd.prog 28 toErrT := by
  refine ⟨callable Tryd.func28 rfl (by decide +kernel), fun args V K hT => ?_⟩
  unfold toErrT at hT
  split at hT
  · rename_i fn s b c
    obtain ⟨hs, hK⟩ := hT
    intro env w hW hsc
    obtain ⟨ev, h1, h2⟩ := herr w hW.inv
    have h := Tryd.strconv_toError_syntax fn s b c ev w hs h1 h2
    have ha : ([.string fn, .string s, .int .i64 b, .int .i64 c, .iface 71 (.int .i64 2)] : List Value).map (ren env) = [.string fn, .string s, .int .i64 b, .int .i64 c, .iface 71 (.int .i64 2)] := by simp [ren_iface]
    rw [ha]
    refine h.mono ?_
    rintro e w' ⟨N, rfl, h3, h4, h5⟩
    obtain ⟨env', h0, h6, h7⟩ := addDead N hW h5 h3
    refine ⟨_, _, _, _, rfl, .inr ?_, h6, h7, hK⟩
    simp [ren_iface, ren_ptr, renA, h0]
  · exact hT.elim

structure LowPre (s : ByteArray) : Prop where
  le : s.size ≤ 140737488355328
  asc : ∀ (j : Nat) (b : UInt8), s.data.toList[j]? = some b → b.toNat < 128
def lowS (s : ByteArray) : ByteArray := ⟨(Lib.toLowerA s.data.toList).toArray⟩

theorem toLower_ok : FnOK Tryd.prog 25 (g1p dStr LowPre fun s => .string (lowS s)) := by
  refine FnOK.g1p (callable Tryd.func25 rfl (by decide +kernel)) _ _ _ (fun _ => rfl) fun s hs => ?_
  intro env w hW hsc
  have h := Tryd.strings_ToLower_ascii s w hs.le hs.asc
  have ha : ([dStr.enc s] : List Value).map (ren env) = [.string s] := by simp [dStr]
  rw [ha]
  refine h.mono ?_
  rintro e w' ⟨rfl, h5⟩
  obtain ⟨h6, h7⟩ := keepBelow hW h5
  exact ⟨_, _, _, _, rfl, .inr (by simp [lowS]), h6, h7, rfl⟩

def pubT : CallS := fun args V K =>
  match args with
  | [.string s, .int .i64 16, .int .i64 8] => s.size = 2 ∧ (∀ n, PR s n → K (.tuple ⟨[.int .u64 n, .nilIface]⟩) V) ∧ (PE s → K (.tuple ⟨[.int .u64 0, .iface 73 (.pointer (some ⟨V.length, 0, none⟩))]⟩) (V ++ [.dead]))
  | _ => False
def pubLeaf (s : ByteArray) (v : Value) (V : VW) : Prop :=
  match v, V with
  | .tuple ⟨[.int .u64 n, .nilIface]⟩, [] => PR s n
  | .tuple ⟨[.int .u64 0, .iface 73 (.pointer (some ⟨0, 0, none⟩))]⟩, [.dead] => PE s
  | _, _ => False

theorem pub_run (herr : ErrVar) (s : ByteArray) (hs : s.size = 2) : CallDoes Tryd.prog 24 [.string s, .int .i64 16, .int .i64 8] [] (pubLeaf s) := by
  refine of_run (ctxG_ok (l := []) (cs := [(27, parseT), (28, toErrT)]) (bs := []) .nil (.cons parse_ok (.cons (toErr_ok herr) .nil))) (n := 200) Tryd.func24 rfl .g ?_
  refine by_nf (B := s.size = (2 : Nat) ∧
    (∀ (n : Int), PR s n → PR s n) ∧
    (PE s → s.size ≤ (281474976710656 : Nat) ∧
    PE s)) (by kernel_rfl) ?_
  exact ⟨hs, fun n h => h, fun h => ⟨by omega, h⟩⟩

theorem pub_ok (herr : ErrVar) : CallOK Tryd.prog 24 pubT := by
  refine ⟨callable Tryd.func24 rfl (by decide +kernel), fun args V K hT => ?_⟩
  unfold pubT at hT
  split at hT
  · rename_i s
    obtain ⟨hs, h1, h2⟩ := hT
    refine CallDoes.frame (fun x hx => by simp at hx; rcases hx with rfl | rfl | rfl <;> exact .plain rfl) ?_
    intro env w hW hsc
    refine (pub_run herr s hs env w hW hsc).mono ?_
    rintro e w' ⟨u, env', V', v, g1, g2, g3, g4, g5⟩
    refine ⟨u, env', V', v, g1, g2, g3, g4, ?_⟩
    unfold pubLeaf at g5
    split at g5
    · exact ⟨by simp, by simpa [renB] using h1 _ g5⟩
    · exact ⟨by simp [flatO, VObj.owned], by simpa [renB] using h2 g5⟩
    · exact g5.elim
  · exact hT.elim
end Go.Sh
