/- A part of a proof: what is proved here is said at each theorem; it holds without any condition but those that the theorem names. -/
import Derived.Test.YtkjncodnmceilaaAcc2
set_option linter.unusedSimpArgs false
set_option linter.unusedVariables false
namespace Go.Acc
open Go Go.X Go.Proofs

theorem FnOK.new0 {P : Program} {f : FuncId} (hc : Callable P f) (o : VObj) (res : Nat → Value) (τ : Nat) (hf : flatO o) (hw : o.writes = true) (hl : o.live = true)
    (hres : ∀ σ : Nat → Nat, renB σ (res 0) = res (σ 0)) (h : CallDoes P f [] [] fun v V => v = res τ ∧ V[τ]? = some o) :
    FnOK P f fun args V => match args with | [] => .new True [o] (res V.length) | _ => .bad := by
  refine ⟨hc, fun env w V args os v hW hsc hg => ?_⟩
  match args, hg with
  | a :: _, hg => exact (by rcases hg with ⟨_, h⟩ | ⟨p, h, _⟩ <;> first | (cases h; done) | exact (Gives.bad.1 h).elim)
  | [], hg =>
    obtain ⟨rfl, rfl⟩ : os = [o] ∧ v = res V.length := by
      rcases hg with ⟨_, h⟩ | ⟨p, h, _⟩
      · rcases h with h | ⟨p, h, _⟩ <;> cases h
      · cases h; exact ⟨rfl, rfl⟩
    have hd : CallDoes P f [] [] fun v' V' => leV [] V' ∧ ∃ τ' : Nat → Nat, v' = renB (fun i => if i < ([] : VW).length then i else τ' (i - ([] : VW).length)) (res 0) ∧
        ∀ (j : Nat) (o' : VObj), [o][j]? = some o' → ([] : VW).length ≤ τ' j ∧ V'[τ' j]? = some o' ∧ flatO o' ∧ o'.writes = true ∧ o'.live = true ∧ ∀ k, k < [o].length → k ≠ j → τ' k ≠ τ' j := by
      intro env w hW hsc
      refine (h env w hW hsc).mono ?_
      rintro e w' ⟨u, env', V', v', he, hrv, hW', hF, rfl, hV⟩
      refine ⟨u, env', V', _, he, hrv, hW', hF, trivial, fun _ => τ, by rw [hres]; simp, fun j o' hj => ?_⟩
      match j, hj with
      | 0, hj => cases hj; exact ⟨Nat.zero_le _, hV, hf, hw, hl, fun k hk hk' => by simp at hk; omega⟩
    have := embed (σ := fun i => i) (V := V) (Vs := []) (os := [o]) (v := res 0) (fun i o h => by simp at h) (fun x hx => by simp at hx) hd env w hW
    rw [hres] at this
    simpa using this

def wideCfg : GCfg := ⟨⟨3, 3, 3, 1⟩, 1, 1, 256, 4096, 256⟩
abbrev wideO : VObj := rowsObj 3 1 [[.int .i64 1], [.int .i64 2], [.int .i64 3]]
abbrev wideG : List Value → VW → Res := fun args V => match args with | [] => .new True [wideO] (wideCfg.v V.length) | _ => .bad
theorem wide_ok : FnOK Try.prog 13 wideG := by
  refine FnOK.new0 (callable Try.func13 rfl (by decide +kernel)) _ wideCfg.v 1 (fun r hr => ?_) rfl rfl (fun σ => ?_) ?_
  · match r, hr with
    | 0, _ => rfl
    | 1, _ => rfl
    | 2, _ => rfl
  · rw [GCfg.v, GCfg.v, renB_agg]
    simp [Hd.v, renB_slice, renB_plain (v := Value.int _ _) _ rfl]
  refine of_run (ctxL_ok .nil) (n := 200) Try.func13 rfl .l ?_
  refine by_nf (B := Value.agg
          {
            toList :=
              [Value.slice (some { block := (1 : Nat), off := (0 : Nat), spot := some (0 : Nat) : Addr })
                  [[Value.int IntKind.i64 (1 : Int)], [Value.int IntKind.i64 (2 : Int)], [Value.int IntKind.i64 (3 : Int)]].length
                  [[Value.int IntKind.i64 (1 : Int)], [Value.int IntKind.i64 (2 : Int)], [Value.int IntKind.i64 (3 : Int)]].length,
                Value.int IntKind.i64 (1 : Int), Value.int IntKind.i64 (1 : Int), Value.int IntKind.i64 (256 : Int), Value.int IntKind.i64 (4096 : Int),
                Value.int IntKind.i64 (256 : Int)] :
            Array Value } =
        Value.agg
          {
            toList :=
              [Value.slice (some { block := (1 : Nat), off := (0 : Nat), spot := some (0 : Nat) : Addr }) wideCfg.h.len wideCfg.h.cap, Value.int IntKind.i64 wideCfg.F,
                Value.int IntKind.i64 wideCfg.Points, Value.int IntKind.i64 wideCfg.Buckets, Value.int IntKind.i64 wideCfg.Block, Value.int IntKind.i64 wideCfg.Room] :
            Array Value } ∧
      [VObj.cells (37 : Nat)
              [Value.slice (some { block := (1 : Nat), off := (0 : Nat), spot := some (0 : Nat) : Addr })
                  [[Value.int IntKind.i64 (1 : Int)], [Value.int IntKind.i64 (2 : Int)], [Value.int IntKind.i64 (3 : Int)]].length
                  [[Value.int IntKind.i64 (1 : Int)], [Value.int IntKind.i64 (2 : Int)], [Value.int IntKind.i64 (3 : Int)]].length,
                Value.int IntKind.i64 (1 : Int), Value.int IntKind.i64 (1 : Int), Value.int IntKind.i64 (256 : Int), Value.int IntKind.i64 (4096 : Int),
                Value.int IntKind.i64 (256 : Int)],
            VObj.rows true (3 : Nat) Try.prog.types[(3 : Nat)].size [[Value.int IntKind.i64 (1 : Int)], [Value.int IntKind.i64 (2 : Int)], [Value.int IntKind.i64 (3 : Int)]].length
              [[Value.int IntKind.i64 (1 : Int)], [Value.int IntKind.i64 (2 : Int)], [Value.int IntKind.i64 (3 : Int)]].length
              (nth [] [[Value.int IntKind.i64 (1 : Int)], [Value.int IntKind.i64 (2 : Int)], [Value.int IntKind.i64 (3 : Int)]])][(1 : Nat)]? =
        some
          (VObj.rows true (3 : TypeId) (1 : Nat) [[Value.int IntKind.i64 (1 : Int)], [Value.int IntKind.i64 (2 : Int)], [Value.int IntKind.i64 (3 : Int)]].length
            [[Value.int IntKind.i64 (1 : Int)], [Value.int IntKind.i64 (2 : Int)], [Value.int IntKind.i64 (3 : Int)]].length
            (nth [] [[Value.int IntKind.i64 (1 : Int)], [Value.int IntKind.i64 (2 : Int)], [Value.int IntKind.i64 (3 : Int)]]))) (by kernel_rfl) ?_
  exact ⟨by kernel_rfl, by kernel_rfl⟩

abbrev aInst (x : GInst) : Value := dGInst.enc x
abbrev aMsg (x : GMsg0) : Value := dGMsg0.enc x
def cmdZ : GCommand := ⟨0, 0, 0, ⟨#[]⟩, ⟨0, 0⟩, ⟨0, 0⟩, 0⟩
def msgOf (k : Int) (s h : GStamp) (c : GCommand) : GMsg0 := ⟨k, ⟨false, 0⟩, ⟨false, 0⟩, 0, 0, ⟨0, 0, 0, 0⟩, s, h, c, 0, false⟩
def st0 : GStamp := ⟨0, 0⟩
def msg0 : GMsg0 := msgOf 0 st0 st0 cmdZ

def refused (x : GInst) (b : GStamp) : GMsg0 × Bool :=
  if x.Decided then (msgOf 16 st0 st0 x.Command, true) else if less b x.Promised then (msgOf 14 x.Promised st0 cmdZ, true) else (msg0, false)
theorem less_of_above (a b : GStamp) : less b a = above a b := by
  simp only [less, above]
  congr 1
  have e : (b.N == a.N) = (a.N == b.N) := by rw [Bool.eq_iff_iff]; simp only [beq_iff_eq]; exact eq_comm
  rw [e]
abbrev retR (r : GMsg0 × Bool) : Value := .tuple #[aMsg r.1, .bool r.2]
abbrev refusedG := g2 dGInst dGStamp fun x b => retR (refused x b)
theorem refused36_ok : FnOK Try.prog 36 refusedG := by
  refine FnOK.g2 (callable Try.func36 rfl (by decide +kernel)) _ _ _ (fun _ _ => rfl) fun x b => ?_
  refine of_run (ctxL_ok (.cons less_ok (.cons above_ok .nil))) (n := 200) Try.func36 rfl .l ?_
  refine by_nf (B := bsplit x.Decided
      (Value.tuple
          {
            toList :=
              [Value.agg
                  {
                    toList :=
                      [Value.int IntKind.i64 (16 : Int), Value.bool false, Value.int IntKind.i64 (0 : Int), Value.bool false, Value.int IntKind.i64 (0 : Int),
                        Value.int IntKind.i64 (0 : Int), Value.int IntKind.i64 (0 : Int), Value.int IntKind.i64 (0 : Int), Value.int IntKind.i64 (0 : Int),
                        Value.int IntKind.i64 (0 : Int), Value.int IntKind.i64 (0 : Int), Value.int IntKind.i64 (0 : Int), Value.int IntKind.i64 (0 : Int),
                        Value.int IntKind.i64 (0 : Int), Value.int IntKind.i64 (0 : Int), Value.slice none (0 : Nat) (0 : Nat), Value.int IntKind.i64 x.Command.Kind,
                        Value.int IntKind.i64 x.Command.Client, Value.int IntKind.i64 x.Command.Op, Value.string x.Command.Name, Value.int IntKind.i64 x.Command.File.Client,
                        Value.int IntKind.i64 x.Command.File.Op, Value.int IntKind.i64 x.Command.New.Client, Value.int IntKind.i64 x.Command.New.Op,
                        Value.int IntKind.i64 x.Command.Size, Value.int IntKind.i64 (0 : Int), Value.slice none (0 : Nat) (0 : Nat), Value.slice none (0 : Nat) (0 : Nat),
                        Value.slice none (0 : Nat) (0 : Nat), Value.bool false] :
                    Array Value },
                Value.bool true] :
            Array Value } =
        Value.tuple
          #[Value.agg
              {
                toList :=
                  [Value.int IntKind.i64 (refused x b).fst.Kind, Value.bool (refused x b).fst.From.Client, Value.int IntKind.i64 (refused x b).fst.From.Id,
                    Value.bool (refused x b).fst.To.Client, Value.int IntKind.i64 (refused x b).fst.To.Id, Value.int IntKind.i64 (refused x b).fst.Op,
                    Value.int IntKind.i64 (refused x b).fst.Round, Value.int IntKind.i64 (refused x b).fst.Key.Kind, Value.int IntKind.i64 (refused x b).fst.Key.A,
                    Value.int IntKind.i64 (refused x b).fst.Key.B, Value.int IntKind.i64 (refused x b).fst.Key.C, Value.int IntKind.i64 (refused x b).fst.Stamp.N,
                    Value.int IntKind.i64 (refused x b).fst.Stamp.Client, Value.int IntKind.i64 (refused x b).fst.Held.N, Value.int IntKind.i64 (refused x b).fst.Held.Client,
                    Value.slice none (0 : Nat) (0 : Nat), Value.int IntKind.i64 (refused x b).fst.Command.Kind, Value.int IntKind.i64 (refused x b).fst.Command.Client,
                    Value.int IntKind.i64 (refused x b).fst.Command.Op, Value.string (refused x b).fst.Command.Name, Value.int IntKind.i64 (refused x b).fst.Command.File.Client,
                    Value.int IntKind.i64 (refused x b).fst.Command.File.Op, Value.int IntKind.i64 (refused x b).fst.Command.New.Client,
                    Value.int IntKind.i64 (refused x b).fst.Command.New.Op, Value.int IntKind.i64 (refused x b).fst.Command.Size, Value.int IntKind.i64 (refused x b).fst.Upto,
                    Value.slice none (0 : Nat) (0 : Nat), Value.slice none (0 : Nat) (0 : Nat), Value.slice none (0 : Nat) (0 : Nat), Value.bool (refused x b).fst.More] :
                Array Value },
            Value.bool (refused x b).snd])
      (bsplit (less b x.Promised)
        (Value.tuple
            {
              toList :=
                [Value.agg
                    {
                      toList :=
                        [Value.int IntKind.i64 (14 : Int), Value.bool false, Value.int IntKind.i64 (0 : Int), Value.bool false, Value.int IntKind.i64 (0 : Int),
                          Value.int IntKind.i64 (0 : Int), Value.int IntKind.i64 (0 : Int), Value.int IntKind.i64 (0 : Int), Value.int IntKind.i64 (0 : Int),
                          Value.int IntKind.i64 (0 : Int), Value.int IntKind.i64 (0 : Int), Value.int IntKind.i64 x.Promised.N, Value.int IntKind.i64 x.Promised.Client,
                          Value.int IntKind.i64 (0 : Int), Value.int IntKind.i64 (0 : Int), Value.slice none (0 : Nat) (0 : Nat), Value.int IntKind.i64 (0 : Int),
                          Value.int IntKind.i64 (0 : Int), Value.int IntKind.i64 (0 : Int), Value.string { data := #[] : ByteArray }, Value.int IntKind.i64 (0 : Int),
                          Value.int IntKind.i64 (0 : Int), Value.int IntKind.i64 (0 : Int), Value.int IntKind.i64 (0 : Int), Value.int IntKind.i64 (0 : Int),
                          Value.int IntKind.i64 (0 : Int), Value.slice none (0 : Nat) (0 : Nat), Value.slice none (0 : Nat) (0 : Nat), Value.slice none (0 : Nat) (0 : Nat),
                          Value.bool false] :
                      Array Value },
                  Value.bool true] :
              Array Value } =
          Value.tuple
            #[Value.agg
                {
                  toList :=
                    [Value.int IntKind.i64 (refused x b).fst.Kind, Value.bool (refused x b).fst.From.Client, Value.int IntKind.i64 (refused x b).fst.From.Id,
                      Value.bool (refused x b).fst.To.Client, Value.int IntKind.i64 (refused x b).fst.To.Id, Value.int IntKind.i64 (refused x b).fst.Op,
                      Value.int IntKind.i64 (refused x b).fst.Round, Value.int IntKind.i64 (refused x b).fst.Key.Kind, Value.int IntKind.i64 (refused x b).fst.Key.A,
                      Value.int IntKind.i64 (refused x b).fst.Key.B, Value.int IntKind.i64 (refused x b).fst.Key.C, Value.int IntKind.i64 (refused x b).fst.Stamp.N,
                      Value.int IntKind.i64 (refused x b).fst.Stamp.Client, Value.int IntKind.i64 (refused x b).fst.Held.N, Value.int IntKind.i64 (refused x b).fst.Held.Client,
                      Value.slice none (0 : Nat) (0 : Nat), Value.int IntKind.i64 (refused x b).fst.Command.Kind, Value.int IntKind.i64 (refused x b).fst.Command.Client,
                      Value.int IntKind.i64 (refused x b).fst.Command.Op, Value.string (refused x b).fst.Command.Name, Value.int IntKind.i64 (refused x b).fst.Command.File.Client,
                      Value.int IntKind.i64 (refused x b).fst.Command.File.Op, Value.int IntKind.i64 (refused x b).fst.Command.New.Client,
                      Value.int IntKind.i64 (refused x b).fst.Command.New.Op, Value.int IntKind.i64 (refused x b).fst.Command.Size, Value.int IntKind.i64 (refused x b).fst.Upto,
                      Value.slice none (0 : Nat) (0 : Nat), Value.slice none (0 : Nat) (0 : Nat), Value.slice none (0 : Nat) (0 : Nat), Value.bool (refused x b).fst.More] :
                  Array Value },
              Value.bool (refused x b).snd])
        (Value.tuple
            {
              toList :=
                [Value.agg
                    {
                      toList :=
                        [Value.int IntKind.i64 (0 : Int), Value.bool false, Value.int IntKind.i64 (0 : Int), Value.bool false, Value.int IntKind.i64 (0 : Int),
                          Value.int IntKind.i64 (0 : Int), Value.int IntKind.i64 (0 : Int), Value.int IntKind.i64 (0 : Int), Value.int IntKind.i64 (0 : Int),
                          Value.int IntKind.i64 (0 : Int), Value.int IntKind.i64 (0 : Int), Value.int IntKind.i64 (0 : Int), Value.int IntKind.i64 (0 : Int),
                          Value.int IntKind.i64 (0 : Int), Value.int IntKind.i64 (0 : Int), Value.slice none (0 : Nat) (0 : Nat), Value.int IntKind.i64 (0 : Int),
                          Value.int IntKind.i64 (0 : Int), Value.int IntKind.i64 (0 : Int), Value.string { data := #[] : ByteArray }, Value.int IntKind.i64 (0 : Int),
                          Value.int IntKind.i64 (0 : Int), Value.int IntKind.i64 (0 : Int), Value.int IntKind.i64 (0 : Int), Value.int IntKind.i64 (0 : Int),
                          Value.int IntKind.i64 (0 : Int), Value.slice none (0 : Nat) (0 : Nat), Value.slice none (0 : Nat) (0 : Nat), Value.slice none (0 : Nat) (0 : Nat),
                          Value.bool false] :
                      Array Value },
                  Value.bool false] :
              Array Value } =
          Value.tuple
            #[Value.agg
                {
                  toList :=
                    [Value.int IntKind.i64 (refused x b).fst.Kind, Value.bool (refused x b).fst.From.Client, Value.int IntKind.i64 (refused x b).fst.From.Id,
                      Value.bool (refused x b).fst.To.Client, Value.int IntKind.i64 (refused x b).fst.To.Id, Value.int IntKind.i64 (refused x b).fst.Op,
                      Value.int IntKind.i64 (refused x b).fst.Round, Value.int IntKind.i64 (refused x b).fst.Key.Kind, Value.int IntKind.i64 (refused x b).fst.Key.A,
                      Value.int IntKind.i64 (refused x b).fst.Key.B, Value.int IntKind.i64 (refused x b).fst.Key.C, Value.int IntKind.i64 (refused x b).fst.Stamp.N,
                      Value.int IntKind.i64 (refused x b).fst.Stamp.Client, Value.int IntKind.i64 (refused x b).fst.Held.N, Value.int IntKind.i64 (refused x b).fst.Held.Client,
                      Value.slice none (0 : Nat) (0 : Nat), Value.int IntKind.i64 (refused x b).fst.Command.Kind, Value.int IntKind.i64 (refused x b).fst.Command.Client,
                      Value.int IntKind.i64 (refused x b).fst.Command.Op, Value.string (refused x b).fst.Command.Name, Value.int IntKind.i64 (refused x b).fst.Command.File.Client,
                      Value.int IntKind.i64 (refused x b).fst.Command.File.Op, Value.int IntKind.i64 (refused x b).fst.Command.New.Client,
                      Value.int IntKind.i64 (refused x b).fst.Command.New.Op, Value.int IntKind.i64 (refused x b).fst.Command.Size, Value.int IntKind.i64 (refused x b).fst.Upto,
                      Value.slice none (0 : Nat) (0 : Nat), Value.slice none (0 : Nat) (0 : Nat), Value.slice none (0 : Nat) (0 : Nat), Value.bool (refused x b).fst.More] :
                  Array Value },
              Value.bool (refused x b).snd]))) (by kernel_rfl) ?_
  have go : ∀ r, refused x b = r → retR r = retR (refused x b) := fun r h => h ▸ rfl
  refine bsplit_iff.2 ⟨fun h => go (msgOf 16 st0 st0 x.Command, true) (by simp [refused, h]), fun h => bsplit_iff.2 ⟨fun h2 => go (msgOf 14 x.Promised st0 cmdZ, true) (by simp [refused, h, h2]), fun h2 => go (msg0, false) (by simp [refused, h, h2])⟩⟩
theorem refused37_ok : FnOK Try.prog 37 refusedG := by
  refine FnOK.g2 (callable Try.func37 rfl (by decide +kernel)) _ _ _ (fun _ _ => rfl) fun x b => ?_
  refine of_run (ctxL_ok (.cons less_ok (.cons above_ok .nil))) (n := 200) Try.func37 rfl .l ?_
  refine by_nf (B := bsplit x.Decided
      (Value.tuple
          {
            toList :=
              [Value.agg
                  {
                    toList :=
                      [Value.int IntKind.i64 (16 : Int), Value.bool false, Value.int IntKind.i64 (0 : Int), Value.bool false, Value.int IntKind.i64 (0 : Int),
                        Value.int IntKind.i64 (0 : Int), Value.int IntKind.i64 (0 : Int), Value.int IntKind.i64 (0 : Int), Value.int IntKind.i64 (0 : Int),
                        Value.int IntKind.i64 (0 : Int), Value.int IntKind.i64 (0 : Int), Value.int IntKind.i64 (0 : Int), Value.int IntKind.i64 (0 : Int),
                        Value.int IntKind.i64 (0 : Int), Value.int IntKind.i64 (0 : Int), Value.slice none (0 : Nat) (0 : Nat), Value.int IntKind.i64 x.Command.Kind,
                        Value.int IntKind.i64 x.Command.Client, Value.int IntKind.i64 x.Command.Op, Value.string x.Command.Name, Value.int IntKind.i64 x.Command.File.Client,
                        Value.int IntKind.i64 x.Command.File.Op, Value.int IntKind.i64 x.Command.New.Client, Value.int IntKind.i64 x.Command.New.Op,
                        Value.int IntKind.i64 x.Command.Size, Value.int IntKind.i64 (0 : Int), Value.slice none (0 : Nat) (0 : Nat), Value.slice none (0 : Nat) (0 : Nat),
                        Value.slice none (0 : Nat) (0 : Nat), Value.bool false] :
                    Array Value },
                Value.bool true] :
            Array Value } =
        Value.tuple
          #[Value.agg
              {
                toList :=
                  [Value.int IntKind.i64 (refused x b).fst.Kind, Value.bool (refused x b).fst.From.Client, Value.int IntKind.i64 (refused x b).fst.From.Id,
                    Value.bool (refused x b).fst.To.Client, Value.int IntKind.i64 (refused x b).fst.To.Id, Value.int IntKind.i64 (refused x b).fst.Op,
                    Value.int IntKind.i64 (refused x b).fst.Round, Value.int IntKind.i64 (refused x b).fst.Key.Kind, Value.int IntKind.i64 (refused x b).fst.Key.A,
                    Value.int IntKind.i64 (refused x b).fst.Key.B, Value.int IntKind.i64 (refused x b).fst.Key.C, Value.int IntKind.i64 (refused x b).fst.Stamp.N,
                    Value.int IntKind.i64 (refused x b).fst.Stamp.Client, Value.int IntKind.i64 (refused x b).fst.Held.N, Value.int IntKind.i64 (refused x b).fst.Held.Client,
                    Value.slice none (0 : Nat) (0 : Nat), Value.int IntKind.i64 (refused x b).fst.Command.Kind, Value.int IntKind.i64 (refused x b).fst.Command.Client,
                    Value.int IntKind.i64 (refused x b).fst.Command.Op, Value.string (refused x b).fst.Command.Name, Value.int IntKind.i64 (refused x b).fst.Command.File.Client,
                    Value.int IntKind.i64 (refused x b).fst.Command.File.Op, Value.int IntKind.i64 (refused x b).fst.Command.New.Client,
                    Value.int IntKind.i64 (refused x b).fst.Command.New.Op, Value.int IntKind.i64 (refused x b).fst.Command.Size, Value.int IntKind.i64 (refused x b).fst.Upto,
                    Value.slice none (0 : Nat) (0 : Nat), Value.slice none (0 : Nat) (0 : Nat), Value.slice none (0 : Nat) (0 : Nat), Value.bool (refused x b).fst.More] :
                Array Value },
            Value.bool (refused x b).snd])
      (bsplit (above x.Promised b)
        (Value.tuple
            {
              toList :=
                [Value.agg
                    {
                      toList :=
                        [Value.int IntKind.i64 (14 : Int), Value.bool false, Value.int IntKind.i64 (0 : Int), Value.bool false, Value.int IntKind.i64 (0 : Int),
                          Value.int IntKind.i64 (0 : Int), Value.int IntKind.i64 (0 : Int), Value.int IntKind.i64 (0 : Int), Value.int IntKind.i64 (0 : Int),
                          Value.int IntKind.i64 (0 : Int), Value.int IntKind.i64 (0 : Int), Value.int IntKind.i64 x.Promised.N, Value.int IntKind.i64 x.Promised.Client,
                          Value.int IntKind.i64 (0 : Int), Value.int IntKind.i64 (0 : Int), Value.slice none (0 : Nat) (0 : Nat), Value.int IntKind.i64 (0 : Int),
                          Value.int IntKind.i64 (0 : Int), Value.int IntKind.i64 (0 : Int), Value.string { data := #[] : ByteArray }, Value.int IntKind.i64 (0 : Int),
                          Value.int IntKind.i64 (0 : Int), Value.int IntKind.i64 (0 : Int), Value.int IntKind.i64 (0 : Int), Value.int IntKind.i64 (0 : Int),
                          Value.int IntKind.i64 (0 : Int), Value.slice none (0 : Nat) (0 : Nat), Value.slice none (0 : Nat) (0 : Nat), Value.slice none (0 : Nat) (0 : Nat),
                          Value.bool false] :
                      Array Value },
                  Value.bool true] :
              Array Value } =
          Value.tuple
            #[Value.agg
                {
                  toList :=
                    [Value.int IntKind.i64 (refused x b).fst.Kind, Value.bool (refused x b).fst.From.Client, Value.int IntKind.i64 (refused x b).fst.From.Id,
                      Value.bool (refused x b).fst.To.Client, Value.int IntKind.i64 (refused x b).fst.To.Id, Value.int IntKind.i64 (refused x b).fst.Op,
                      Value.int IntKind.i64 (refused x b).fst.Round, Value.int IntKind.i64 (refused x b).fst.Key.Kind, Value.int IntKind.i64 (refused x b).fst.Key.A,
                      Value.int IntKind.i64 (refused x b).fst.Key.B, Value.int IntKind.i64 (refused x b).fst.Key.C, Value.int IntKind.i64 (refused x b).fst.Stamp.N,
                      Value.int IntKind.i64 (refused x b).fst.Stamp.Client, Value.int IntKind.i64 (refused x b).fst.Held.N, Value.int IntKind.i64 (refused x b).fst.Held.Client,
                      Value.slice none (0 : Nat) (0 : Nat), Value.int IntKind.i64 (refused x b).fst.Command.Kind, Value.int IntKind.i64 (refused x b).fst.Command.Client,
                      Value.int IntKind.i64 (refused x b).fst.Command.Op, Value.string (refused x b).fst.Command.Name, Value.int IntKind.i64 (refused x b).fst.Command.File.Client,
                      Value.int IntKind.i64 (refused x b).fst.Command.File.Op, Value.int IntKind.i64 (refused x b).fst.Command.New.Client,
                      Value.int IntKind.i64 (refused x b).fst.Command.New.Op, Value.int IntKind.i64 (refused x b).fst.Command.Size, Value.int IntKind.i64 (refused x b).fst.Upto,
                      Value.slice none (0 : Nat) (0 : Nat), Value.slice none (0 : Nat) (0 : Nat), Value.slice none (0 : Nat) (0 : Nat), Value.bool (refused x b).fst.More] :
                  Array Value },
              Value.bool (refused x b).snd])
        (Value.tuple
            {
              toList :=
                [Value.agg
                    {
                      toList :=
                        [Value.int IntKind.i64 (0 : Int), Value.bool false, Value.int IntKind.i64 (0 : Int), Value.bool false, Value.int IntKind.i64 (0 : Int),
                          Value.int IntKind.i64 (0 : Int), Value.int IntKind.i64 (0 : Int), Value.int IntKind.i64 (0 : Int), Value.int IntKind.i64 (0 : Int),
                          Value.int IntKind.i64 (0 : Int), Value.int IntKind.i64 (0 : Int), Value.int IntKind.i64 (0 : Int), Value.int IntKind.i64 (0 : Int),
                          Value.int IntKind.i64 (0 : Int), Value.int IntKind.i64 (0 : Int), Value.slice none (0 : Nat) (0 : Nat), Value.int IntKind.i64 (0 : Int),
                          Value.int IntKind.i64 (0 : Int), Value.int IntKind.i64 (0 : Int), Value.string { data := #[] : ByteArray }, Value.int IntKind.i64 (0 : Int),
                          Value.int IntKind.i64 (0 : Int), Value.int IntKind.i64 (0 : Int), Value.int IntKind.i64 (0 : Int), Value.int IntKind.i64 (0 : Int),
                          Value.int IntKind.i64 (0 : Int), Value.slice none (0 : Nat) (0 : Nat), Value.slice none (0 : Nat) (0 : Nat), Value.slice none (0 : Nat) (0 : Nat),
                          Value.bool false] :
                      Array Value },
                  Value.bool false] :
              Array Value } =
          Value.tuple
            #[Value.agg
                {
                  toList :=
                    [Value.int IntKind.i64 (refused x b).fst.Kind, Value.bool (refused x b).fst.From.Client, Value.int IntKind.i64 (refused x b).fst.From.Id,
                      Value.bool (refused x b).fst.To.Client, Value.int IntKind.i64 (refused x b).fst.To.Id, Value.int IntKind.i64 (refused x b).fst.Op,
                      Value.int IntKind.i64 (refused x b).fst.Round, Value.int IntKind.i64 (refused x b).fst.Key.Kind, Value.int IntKind.i64 (refused x b).fst.Key.A,
                      Value.int IntKind.i64 (refused x b).fst.Key.B, Value.int IntKind.i64 (refused x b).fst.Key.C, Value.int IntKind.i64 (refused x b).fst.Stamp.N,
                      Value.int IntKind.i64 (refused x b).fst.Stamp.Client, Value.int IntKind.i64 (refused x b).fst.Held.N, Value.int IntKind.i64 (refused x b).fst.Held.Client,
                      Value.slice none (0 : Nat) (0 : Nat), Value.int IntKind.i64 (refused x b).fst.Command.Kind, Value.int IntKind.i64 (refused x b).fst.Command.Client,
                      Value.int IntKind.i64 (refused x b).fst.Command.Op, Value.string (refused x b).fst.Command.Name, Value.int IntKind.i64 (refused x b).fst.Command.File.Client,
                      Value.int IntKind.i64 (refused x b).fst.Command.File.Op, Value.int IntKind.i64 (refused x b).fst.Command.New.Client,
                      Value.int IntKind.i64 (refused x b).fst.Command.New.Op, Value.int IntKind.i64 (refused x b).fst.Command.Size, Value.int IntKind.i64 (refused x b).fst.Upto,
                      Value.slice none (0 : Nat) (0 : Nat), Value.slice none (0 : Nat) (0 : Nat), Value.slice none (0 : Nat) (0 : Nat), Value.bool (refused x b).fst.More] :
                  Array Value },
              Value.bool (refused x b).snd]))) (by kernel_rfl) ?_
  have go : ∀ r, refused x b = r → retR r = retR (refused x b) := fun r h => h ▸ rfl
  refine bsplit_iff.2 ⟨fun h => go (msgOf 16 st0 st0 x.Command, true) (by simp [refused, h]), fun h => bsplit_iff.2 ⟨fun h2 => go (msgOf 14 x.Promised st0 cmdZ, true) (by simp [refused, h, less_of_above, h2]), fun h2 => go (msg0, false) (by simp [refused, h, less_of_above, h2])⟩⟩

def stampEq (a b : GStamp) : Bool := a.N == b.N && a.Client == b.Client
def fileEq (a b : GFile) : Bool := a.Client == b.Client && a.Op == b.Op
def cmdEq (a b : GCommand) : Bool := a.Kind == b.Kind && a.Client == b.Client && a.Op == b.Op && a.Name.data.toList == b.Name.data.toList && fileEq a.File b.File && fileEq a.New b.New && a.Size == b.Size
abbrev retP (r : GInst × GMsg0 × Bool) : Value := .tuple #[aInst r.1, aMsg r.2.1, .bool r.2.2]
abbrev retL (r : GInst × Bool) : Value := .tuple #[aInst r.1, .bool r.2]
def prepare (x : GInst) (b : GStamp) : GInst × GMsg0 × Bool :=
  if (refused x b).2 then (x, (refused x b).1, false) else (⟨b, x.Accepted, x.Command, x.Decided⟩, msgOf 13 b x.Accepted x.Command, !stampEq x.Promised b)
def accept (x : GInst) (b : GStamp) (c : GCommand) : GInst × GMsg0 × Bool :=
  if (refused x b).2 then (x, (refused x b).1, false) else (⟨b, b, c, false⟩, msgOf 15 b st0 cmdZ, !(stampEq x.Promised b && stampEq x.Accepted b && cmdEq x.Command c))
def learned (x : GInst) (c : GCommand) : GInst × Bool :=
  if x.Decided then (x, false) else (⟨st0, st0, c, true⟩, true)
abbrev prepareG := g2 dGInst dGStamp fun x b => retP (prepare x b)
abbrev acceptG := g3 dGInst dGStamp dGCommand fun x b c => retP (accept x b c)
abbrev learnedG := g2 dGInst dGCommand fun x c => retL (learned x c)
theorem refused_open {x : GInst} {b : GStamp} (h : (refused x b).2 = false) : x.Decided = false := by
  cases hd : x.Decided with
  | false => rfl
  | true => simp [refused, hd] at h
theorem prepare16_ok : FnOK Try.prog 16 prepareG := by
  refine FnOK.g2 (callable Try.func16 rfl (by decide +kernel)) _ _ _ (fun _ _ => rfl) fun x b => ?_
  refine of_run (ctxL_ok (.cons refused36_ok .nil)) (n := 200) Try.func16 rfl .l ?_
  refine by_nf (B := bsplit (refused x b).snd
      (Value.tuple
          {
            toList :=
              [Value.agg
                  {
                    toList :=
                      [Value.int IntKind.i64 x.Promised.N, Value.int IntKind.i64 x.Promised.Client, Value.int IntKind.i64 x.Accepted.N, Value.int IntKind.i64 x.Accepted.Client,
                        Value.int IntKind.i64 x.Command.Kind, Value.int IntKind.i64 x.Command.Client, Value.int IntKind.i64 x.Command.Op, Value.string x.Command.Name,
                        Value.int IntKind.i64 x.Command.File.Client, Value.int IntKind.i64 x.Command.File.Op, Value.int IntKind.i64 x.Command.New.Client,
                        Value.int IntKind.i64 x.Command.New.Op, Value.int IntKind.i64 x.Command.Size, Value.bool x.Decided] :
                    Array Value },
                Value.agg
                  {
                    toList :=
                      [Value.int IntKind.i64 (refused x b).fst.Kind, Value.bool (refused x b).fst.From.Client, Value.int IntKind.i64 (refused x b).fst.From.Id,
                        Value.bool (refused x b).fst.To.Client, Value.int IntKind.i64 (refused x b).fst.To.Id, Value.int IntKind.i64 (refused x b).fst.Op,
                        Value.int IntKind.i64 (refused x b).fst.Round, Value.int IntKind.i64 (refused x b).fst.Key.Kind, Value.int IntKind.i64 (refused x b).fst.Key.A,
                        Value.int IntKind.i64 (refused x b).fst.Key.B, Value.int IntKind.i64 (refused x b).fst.Key.C, Value.int IntKind.i64 (refused x b).fst.Stamp.N,
                        Value.int IntKind.i64 (refused x b).fst.Stamp.Client, Value.int IntKind.i64 (refused x b).fst.Held.N, Value.int IntKind.i64 (refused x b).fst.Held.Client,
                        Value.slice none (0 : Nat) (0 : Nat), Value.int IntKind.i64 (refused x b).fst.Command.Kind, Value.int IntKind.i64 (refused x b).fst.Command.Client,
                        Value.int IntKind.i64 (refused x b).fst.Command.Op, Value.string (refused x b).fst.Command.Name, Value.int IntKind.i64 (refused x b).fst.Command.File.Client,
                        Value.int IntKind.i64 (refused x b).fst.Command.File.Op, Value.int IntKind.i64 (refused x b).fst.Command.New.Client,
                        Value.int IntKind.i64 (refused x b).fst.Command.New.Op, Value.int IntKind.i64 (refused x b).fst.Command.Size, Value.int IntKind.i64 (refused x b).fst.Upto,
                        Value.slice none (0 : Nat) (0 : Nat), Value.slice none (0 : Nat) (0 : Nat), Value.slice none (0 : Nat) (0 : Nat), Value.bool (refused x b).fst.More] :
                    Array Value },
                Value.bool false] :
            Array Value } =
        Value.tuple
          #[Value.agg
              {
                toList :=
                  [Value.int IntKind.i64 (prepare x b).fst.Promised.N, Value.int IntKind.i64 (prepare x b).fst.Promised.Client, Value.int IntKind.i64 (prepare x b).fst.Accepted.N,
                    Value.int IntKind.i64 (prepare x b).fst.Accepted.Client, Value.int IntKind.i64 (prepare x b).fst.Command.Kind,
                    Value.int IntKind.i64 (prepare x b).fst.Command.Client, Value.int IntKind.i64 (prepare x b).fst.Command.Op, Value.string (prepare x b).fst.Command.Name,
                    Value.int IntKind.i64 (prepare x b).fst.Command.File.Client, Value.int IntKind.i64 (prepare x b).fst.Command.File.Op,
                    Value.int IntKind.i64 (prepare x b).fst.Command.New.Client, Value.int IntKind.i64 (prepare x b).fst.Command.New.Op,
                    Value.int IntKind.i64 (prepare x b).fst.Command.Size, Value.bool (prepare x b).fst.Decided] :
                Array Value },
            Value.agg
              {
                toList :=
                  [Value.int IntKind.i64 (prepare x b).snd.fst.Kind, Value.bool (prepare x b).snd.fst.From.Client, Value.int IntKind.i64 (prepare x b).snd.fst.From.Id,
                    Value.bool (prepare x b).snd.fst.To.Client, Value.int IntKind.i64 (prepare x b).snd.fst.To.Id, Value.int IntKind.i64 (prepare x b).snd.fst.Op,
                    Value.int IntKind.i64 (prepare x b).snd.fst.Round, Value.int IntKind.i64 (prepare x b).snd.fst.Key.Kind, Value.int IntKind.i64 (prepare x b).snd.fst.Key.A,
                    Value.int IntKind.i64 (prepare x b).snd.fst.Key.B, Value.int IntKind.i64 (prepare x b).snd.fst.Key.C, Value.int IntKind.i64 (prepare x b).snd.fst.Stamp.N,
                    Value.int IntKind.i64 (prepare x b).snd.fst.Stamp.Client, Value.int IntKind.i64 (prepare x b).snd.fst.Held.N,
                    Value.int IntKind.i64 (prepare x b).snd.fst.Held.Client, Value.slice none (0 : Nat) (0 : Nat), Value.int IntKind.i64 (prepare x b).snd.fst.Command.Kind,
                    Value.int IntKind.i64 (prepare x b).snd.fst.Command.Client, Value.int IntKind.i64 (prepare x b).snd.fst.Command.Op, Value.string (prepare x b).snd.fst.Command.Name,
                    Value.int IntKind.i64 (prepare x b).snd.fst.Command.File.Client, Value.int IntKind.i64 (prepare x b).snd.fst.Command.File.Op,
                    Value.int IntKind.i64 (prepare x b).snd.fst.Command.New.Client, Value.int IntKind.i64 (prepare x b).snd.fst.Command.New.Op,
                    Value.int IntKind.i64 (prepare x b).snd.fst.Command.Size, Value.int IntKind.i64 (prepare x b).snd.fst.Upto, Value.slice none (0 : Nat) (0 : Nat),
                    Value.slice none (0 : Nat) (0 : Nat), Value.slice none (0 : Nat) (0 : Nat), Value.bool (prepare x b).snd.fst.More] :
                Array Value },
            Value.bool (prepare x b).snd.snd])
      (Value.tuple
          {
            toList :=
              [Value.agg
                  {
                    toList :=
                      [Value.int IntKind.i64 b.N, Value.int IntKind.i64 b.Client, Value.int IntKind.i64 x.Accepted.N, Value.int IntKind.i64 x.Accepted.Client,
                        Value.int IntKind.i64 x.Command.Kind, Value.int IntKind.i64 x.Command.Client, Value.int IntKind.i64 x.Command.Op, Value.string x.Command.Name,
                        Value.int IntKind.i64 x.Command.File.Client, Value.int IntKind.i64 x.Command.File.Op, Value.int IntKind.i64 x.Command.New.Client,
                        Value.int IntKind.i64 x.Command.New.Op, Value.int IntKind.i64 x.Command.Size, Value.bool x.Decided] :
                    Array Value },
                Value.agg
                  {
                    toList :=
                      [Value.int IntKind.i64 (13 : Int), Value.bool false, Value.int IntKind.i64 (0 : Int), Value.bool false, Value.int IntKind.i64 (0 : Int),
                        Value.int IntKind.i64 (0 : Int), Value.int IntKind.i64 (0 : Int), Value.int IntKind.i64 (0 : Int), Value.int IntKind.i64 (0 : Int),
                        Value.int IntKind.i64 (0 : Int), Value.int IntKind.i64 (0 : Int), Value.int IntKind.i64 b.N, Value.int IntKind.i64 b.Client, Value.int IntKind.i64 x.Accepted.N,
                        Value.int IntKind.i64 x.Accepted.Client, Value.slice none (0 : Nat) (0 : Nat), Value.int IntKind.i64 x.Command.Kind, Value.int IntKind.i64 x.Command.Client,
                        Value.int IntKind.i64 x.Command.Op, Value.string x.Command.Name, Value.int IntKind.i64 x.Command.File.Client, Value.int IntKind.i64 x.Command.File.Op,
                        Value.int IntKind.i64 x.Command.New.Client, Value.int IntKind.i64 x.Command.New.Op, Value.int IntKind.i64 x.Command.Size, Value.int IntKind.i64 (0 : Int),
                        Value.slice none (0 : Nat) (0 : Nat), Value.slice none (0 : Nat) (0 : Nat), Value.slice none (0 : Nat) (0 : Nat), Value.bool false] :
                    Array Value },
                Value.bool
                  !(b.N == x.Promised.N && (b.Client == x.Promised.Client && true) &&
                      (x.Accepted.N == x.Accepted.N && (x.Accepted.Client == x.Accepted.Client && true) &&
                        (x.Command.Kind == x.Command.Kind &&
                            (x.Command.Client == x.Command.Client &&
                              (x.Command.Op == x.Command.Op &&
                                (x.Command.Name.data.toList == x.Command.Name.data.toList &&
                                  (x.Command.File.Client == x.Command.File.Client && (x.Command.File.Op == x.Command.File.Op && true) &&
                                    (x.Command.New.Client == x.Command.New.Client && (x.Command.New.Op == x.Command.New.Op && true) &&
                                      (x.Command.Size == x.Command.Size && true)))))) &&
                          (x.Decided == x.Decided && true))))] :
            Array Value } =
        Value.tuple
          #[Value.agg
              {
                toList :=
                  [Value.int IntKind.i64 (prepare x b).fst.Promised.N, Value.int IntKind.i64 (prepare x b).fst.Promised.Client, Value.int IntKind.i64 (prepare x b).fst.Accepted.N,
                    Value.int IntKind.i64 (prepare x b).fst.Accepted.Client, Value.int IntKind.i64 (prepare x b).fst.Command.Kind,
                    Value.int IntKind.i64 (prepare x b).fst.Command.Client, Value.int IntKind.i64 (prepare x b).fst.Command.Op, Value.string (prepare x b).fst.Command.Name,
                    Value.int IntKind.i64 (prepare x b).fst.Command.File.Client, Value.int IntKind.i64 (prepare x b).fst.Command.File.Op,
                    Value.int IntKind.i64 (prepare x b).fst.Command.New.Client, Value.int IntKind.i64 (prepare x b).fst.Command.New.Op,
                    Value.int IntKind.i64 (prepare x b).fst.Command.Size, Value.bool (prepare x b).fst.Decided] :
                Array Value },
            Value.agg
              {
                toList :=
                  [Value.int IntKind.i64 (prepare x b).snd.fst.Kind, Value.bool (prepare x b).snd.fst.From.Client, Value.int IntKind.i64 (prepare x b).snd.fst.From.Id,
                    Value.bool (prepare x b).snd.fst.To.Client, Value.int IntKind.i64 (prepare x b).snd.fst.To.Id, Value.int IntKind.i64 (prepare x b).snd.fst.Op,
                    Value.int IntKind.i64 (prepare x b).snd.fst.Round, Value.int IntKind.i64 (prepare x b).snd.fst.Key.Kind, Value.int IntKind.i64 (prepare x b).snd.fst.Key.A,
                    Value.int IntKind.i64 (prepare x b).snd.fst.Key.B, Value.int IntKind.i64 (prepare x b).snd.fst.Key.C, Value.int IntKind.i64 (prepare x b).snd.fst.Stamp.N,
                    Value.int IntKind.i64 (prepare x b).snd.fst.Stamp.Client, Value.int IntKind.i64 (prepare x b).snd.fst.Held.N,
                    Value.int IntKind.i64 (prepare x b).snd.fst.Held.Client, Value.slice none (0 : Nat) (0 : Nat), Value.int IntKind.i64 (prepare x b).snd.fst.Command.Kind,
                    Value.int IntKind.i64 (prepare x b).snd.fst.Command.Client, Value.int IntKind.i64 (prepare x b).snd.fst.Command.Op, Value.string (prepare x b).snd.fst.Command.Name,
                    Value.int IntKind.i64 (prepare x b).snd.fst.Command.File.Client, Value.int IntKind.i64 (prepare x b).snd.fst.Command.File.Op,
                    Value.int IntKind.i64 (prepare x b).snd.fst.Command.New.Client, Value.int IntKind.i64 (prepare x b).snd.fst.Command.New.Op,
                    Value.int IntKind.i64 (prepare x b).snd.fst.Command.Size, Value.int IntKind.i64 (prepare x b).snd.fst.Upto, Value.slice none (0 : Nat) (0 : Nat),
                    Value.slice none (0 : Nat) (0 : Nat), Value.slice none (0 : Nat) (0 : Nat), Value.bool (prepare x b).snd.fst.More] :
                Array Value },
            Value.bool (prepare x b).snd.snd])) (by kernel_rfl) ?_
  have go : ∀ r, prepare x b = r → retP r = retP (prepare x b) := fun r h => h ▸ rfl
  refine bsplit_iff.2 ⟨fun h => go (x, (refused x b).1, false) (by simp [prepare, h]), fun h => ?_⟩
  refine go (⟨b, x.Accepted, x.Command, x.Decided⟩, msgOf 13 b x.Accepted x.Command, _) ?_
  simp only [prepare, h, stampEq, Bool.false_eq_true, if_false, Prod.mk.injEq, true_and]
  show _ = !_
  rw [BEq.comm (a := x.Promised.N), BEq.comm (a := x.Promised.Client)]
  simp
theorem prepare17_ok : FnOK Try.prog 17 prepareG := by
  refine FnOK.g2 (callable Try.func17 rfl (by decide +kernel)) _ _ _ (fun _ _ => rfl) fun x b => ?_
  refine of_run (ctxL_ok (.cons refused37_ok .nil)) (n := 200) Try.func17 rfl .l ?_
  refine by_nf (B := bsplit (refused x b).snd
      (Value.tuple
          {
            toList :=
              [Value.agg
                  {
                    toList :=
                      [Value.int IntKind.i64 x.Promised.N, Value.int IntKind.i64 x.Promised.Client, Value.int IntKind.i64 x.Accepted.N, Value.int IntKind.i64 x.Accepted.Client,
                        Value.int IntKind.i64 x.Command.Kind, Value.int IntKind.i64 x.Command.Client, Value.int IntKind.i64 x.Command.Op, Value.string x.Command.Name,
                        Value.int IntKind.i64 x.Command.File.Client, Value.int IntKind.i64 x.Command.File.Op, Value.int IntKind.i64 x.Command.New.Client,
                        Value.int IntKind.i64 x.Command.New.Op, Value.int IntKind.i64 x.Command.Size, Value.bool x.Decided] :
                    Array Value },
                Value.agg
                  {
                    toList :=
                      [Value.int IntKind.i64 (refused x b).fst.Kind, Value.bool (refused x b).fst.From.Client, Value.int IntKind.i64 (refused x b).fst.From.Id,
                        Value.bool (refused x b).fst.To.Client, Value.int IntKind.i64 (refused x b).fst.To.Id, Value.int IntKind.i64 (refused x b).fst.Op,
                        Value.int IntKind.i64 (refused x b).fst.Round, Value.int IntKind.i64 (refused x b).fst.Key.Kind, Value.int IntKind.i64 (refused x b).fst.Key.A,
                        Value.int IntKind.i64 (refused x b).fst.Key.B, Value.int IntKind.i64 (refused x b).fst.Key.C, Value.int IntKind.i64 (refused x b).fst.Stamp.N,
                        Value.int IntKind.i64 (refused x b).fst.Stamp.Client, Value.int IntKind.i64 (refused x b).fst.Held.N, Value.int IntKind.i64 (refused x b).fst.Held.Client,
                        Value.slice none (0 : Nat) (0 : Nat), Value.int IntKind.i64 (refused x b).fst.Command.Kind, Value.int IntKind.i64 (refused x b).fst.Command.Client,
                        Value.int IntKind.i64 (refused x b).fst.Command.Op, Value.string (refused x b).fst.Command.Name, Value.int IntKind.i64 (refused x b).fst.Command.File.Client,
                        Value.int IntKind.i64 (refused x b).fst.Command.File.Op, Value.int IntKind.i64 (refused x b).fst.Command.New.Client,
                        Value.int IntKind.i64 (refused x b).fst.Command.New.Op, Value.int IntKind.i64 (refused x b).fst.Command.Size, Value.int IntKind.i64 (refused x b).fst.Upto,
                        Value.slice none (0 : Nat) (0 : Nat), Value.slice none (0 : Nat) (0 : Nat), Value.slice none (0 : Nat) (0 : Nat), Value.bool (refused x b).fst.More] :
                    Array Value },
                Value.bool false] :
            Array Value } =
        Value.tuple
          #[Value.agg
              {
                toList :=
                  [Value.int IntKind.i64 (prepare x b).fst.Promised.N, Value.int IntKind.i64 (prepare x b).fst.Promised.Client, Value.int IntKind.i64 (prepare x b).fst.Accepted.N,
                    Value.int IntKind.i64 (prepare x b).fst.Accepted.Client, Value.int IntKind.i64 (prepare x b).fst.Command.Kind,
                    Value.int IntKind.i64 (prepare x b).fst.Command.Client, Value.int IntKind.i64 (prepare x b).fst.Command.Op, Value.string (prepare x b).fst.Command.Name,
                    Value.int IntKind.i64 (prepare x b).fst.Command.File.Client, Value.int IntKind.i64 (prepare x b).fst.Command.File.Op,
                    Value.int IntKind.i64 (prepare x b).fst.Command.New.Client, Value.int IntKind.i64 (prepare x b).fst.Command.New.Op,
                    Value.int IntKind.i64 (prepare x b).fst.Command.Size, Value.bool (prepare x b).fst.Decided] :
                Array Value },
            Value.agg
              {
                toList :=
                  [Value.int IntKind.i64 (prepare x b).snd.fst.Kind, Value.bool (prepare x b).snd.fst.From.Client, Value.int IntKind.i64 (prepare x b).snd.fst.From.Id,
                    Value.bool (prepare x b).snd.fst.To.Client, Value.int IntKind.i64 (prepare x b).snd.fst.To.Id, Value.int IntKind.i64 (prepare x b).snd.fst.Op,
                    Value.int IntKind.i64 (prepare x b).snd.fst.Round, Value.int IntKind.i64 (prepare x b).snd.fst.Key.Kind, Value.int IntKind.i64 (prepare x b).snd.fst.Key.A,
                    Value.int IntKind.i64 (prepare x b).snd.fst.Key.B, Value.int IntKind.i64 (prepare x b).snd.fst.Key.C, Value.int IntKind.i64 (prepare x b).snd.fst.Stamp.N,
                    Value.int IntKind.i64 (prepare x b).snd.fst.Stamp.Client, Value.int IntKind.i64 (prepare x b).snd.fst.Held.N,
                    Value.int IntKind.i64 (prepare x b).snd.fst.Held.Client, Value.slice none (0 : Nat) (0 : Nat), Value.int IntKind.i64 (prepare x b).snd.fst.Command.Kind,
                    Value.int IntKind.i64 (prepare x b).snd.fst.Command.Client, Value.int IntKind.i64 (prepare x b).snd.fst.Command.Op, Value.string (prepare x b).snd.fst.Command.Name,
                    Value.int IntKind.i64 (prepare x b).snd.fst.Command.File.Client, Value.int IntKind.i64 (prepare x b).snd.fst.Command.File.Op,
                    Value.int IntKind.i64 (prepare x b).snd.fst.Command.New.Client, Value.int IntKind.i64 (prepare x b).snd.fst.Command.New.Op,
                    Value.int IntKind.i64 (prepare x b).snd.fst.Command.Size, Value.int IntKind.i64 (prepare x b).snd.fst.Upto, Value.slice none (0 : Nat) (0 : Nat),
                    Value.slice none (0 : Nat) (0 : Nat), Value.slice none (0 : Nat) (0 : Nat), Value.bool (prepare x b).snd.fst.More] :
                Array Value },
            Value.bool (prepare x b).snd.snd])
      (Value.tuple
          {
            toList :=
              [Value.agg
                  {
                    toList :=
                      [Value.int IntKind.i64 b.N, Value.int IntKind.i64 b.Client, Value.int IntKind.i64 x.Accepted.N, Value.int IntKind.i64 x.Accepted.Client,
                        Value.int IntKind.i64 x.Command.Kind, Value.int IntKind.i64 x.Command.Client, Value.int IntKind.i64 x.Command.Op, Value.string x.Command.Name,
                        Value.int IntKind.i64 x.Command.File.Client, Value.int IntKind.i64 x.Command.File.Op, Value.int IntKind.i64 x.Command.New.Client,
                        Value.int IntKind.i64 x.Command.New.Op, Value.int IntKind.i64 x.Command.Size, Value.bool x.Decided] :
                    Array Value },
                Value.agg
                  {
                    toList :=
                      [Value.int IntKind.i64 (13 : Int), Value.bool false, Value.int IntKind.i64 (0 : Int), Value.bool false, Value.int IntKind.i64 (0 : Int),
                        Value.int IntKind.i64 (0 : Int), Value.int IntKind.i64 (0 : Int), Value.int IntKind.i64 (0 : Int), Value.int IntKind.i64 (0 : Int),
                        Value.int IntKind.i64 (0 : Int), Value.int IntKind.i64 (0 : Int), Value.int IntKind.i64 b.N, Value.int IntKind.i64 b.Client, Value.int IntKind.i64 x.Accepted.N,
                        Value.int IntKind.i64 x.Accepted.Client, Value.slice none (0 : Nat) (0 : Nat), Value.int IntKind.i64 x.Command.Kind, Value.int IntKind.i64 x.Command.Client,
                        Value.int IntKind.i64 x.Command.Op, Value.string x.Command.Name, Value.int IntKind.i64 x.Command.File.Client, Value.int IntKind.i64 x.Command.File.Op,
                        Value.int IntKind.i64 x.Command.New.Client, Value.int IntKind.i64 x.Command.New.Op, Value.int IntKind.i64 x.Command.Size, Value.int IntKind.i64 (0 : Int),
                        Value.slice none (0 : Nat) (0 : Nat), Value.slice none (0 : Nat) (0 : Nat), Value.slice none (0 : Nat) (0 : Nat), Value.bool false] :
                    Array Value },
                Value.bool !(x.Promised.N == b.N && (x.Promised.Client == b.Client && true))] :
            Array Value } =
        Value.tuple
          #[Value.agg
              {
                toList :=
                  [Value.int IntKind.i64 (prepare x b).fst.Promised.N, Value.int IntKind.i64 (prepare x b).fst.Promised.Client, Value.int IntKind.i64 (prepare x b).fst.Accepted.N,
                    Value.int IntKind.i64 (prepare x b).fst.Accepted.Client, Value.int IntKind.i64 (prepare x b).fst.Command.Kind,
                    Value.int IntKind.i64 (prepare x b).fst.Command.Client, Value.int IntKind.i64 (prepare x b).fst.Command.Op, Value.string (prepare x b).fst.Command.Name,
                    Value.int IntKind.i64 (prepare x b).fst.Command.File.Client, Value.int IntKind.i64 (prepare x b).fst.Command.File.Op,
                    Value.int IntKind.i64 (prepare x b).fst.Command.New.Client, Value.int IntKind.i64 (prepare x b).fst.Command.New.Op,
                    Value.int IntKind.i64 (prepare x b).fst.Command.Size, Value.bool (prepare x b).fst.Decided] :
                Array Value },
            Value.agg
              {
                toList :=
                  [Value.int IntKind.i64 (prepare x b).snd.fst.Kind, Value.bool (prepare x b).snd.fst.From.Client, Value.int IntKind.i64 (prepare x b).snd.fst.From.Id,
                    Value.bool (prepare x b).snd.fst.To.Client, Value.int IntKind.i64 (prepare x b).snd.fst.To.Id, Value.int IntKind.i64 (prepare x b).snd.fst.Op,
                    Value.int IntKind.i64 (prepare x b).snd.fst.Round, Value.int IntKind.i64 (prepare x b).snd.fst.Key.Kind, Value.int IntKind.i64 (prepare x b).snd.fst.Key.A,
                    Value.int IntKind.i64 (prepare x b).snd.fst.Key.B, Value.int IntKind.i64 (prepare x b).snd.fst.Key.C, Value.int IntKind.i64 (prepare x b).snd.fst.Stamp.N,
                    Value.int IntKind.i64 (prepare x b).snd.fst.Stamp.Client, Value.int IntKind.i64 (prepare x b).snd.fst.Held.N,
                    Value.int IntKind.i64 (prepare x b).snd.fst.Held.Client, Value.slice none (0 : Nat) (0 : Nat), Value.int IntKind.i64 (prepare x b).snd.fst.Command.Kind,
                    Value.int IntKind.i64 (prepare x b).snd.fst.Command.Client, Value.int IntKind.i64 (prepare x b).snd.fst.Command.Op, Value.string (prepare x b).snd.fst.Command.Name,
                    Value.int IntKind.i64 (prepare x b).snd.fst.Command.File.Client, Value.int IntKind.i64 (prepare x b).snd.fst.Command.File.Op,
                    Value.int IntKind.i64 (prepare x b).snd.fst.Command.New.Client, Value.int IntKind.i64 (prepare x b).snd.fst.Command.New.Op,
                    Value.int IntKind.i64 (prepare x b).snd.fst.Command.Size, Value.int IntKind.i64 (prepare x b).snd.fst.Upto, Value.slice none (0 : Nat) (0 : Nat),
                    Value.slice none (0 : Nat) (0 : Nat), Value.slice none (0 : Nat) (0 : Nat), Value.bool (prepare x b).snd.fst.More] :
                Array Value },
            Value.bool (prepare x b).snd.snd])) (by kernel_rfl) ?_
  have go : ∀ r, prepare x b = r → retP r = retP (prepare x b) := fun r h => h ▸ rfl
  refine bsplit_iff.2 ⟨fun h => go (x, (refused x b).1, false) (by simp [prepare, h]), fun h => ?_⟩
  refine go (⟨b, x.Accepted, x.Command, x.Decided⟩, msgOf 13 b x.Accepted x.Command, _) ?_
  simp only [prepare, h, stampEq, Bool.false_eq_true, if_false, Prod.mk.injEq, true_and]
  show _ = !_
  simp
theorem accept18_ok : FnOK Try.prog 18 acceptG := by
  refine FnOK.g3 (callable Try.func18 rfl (by decide +kernel)) _ _ _ _ (fun _ _ _ => rfl) fun x b c => ?_
  refine of_run (ctxL_ok (.cons refused36_ok .nil)) (n := 200) Try.func18 rfl .l ?_
  refine by_nf (B := bsplit (refused x b).snd
      (Value.tuple
          {
            toList :=
              [Value.agg
                  {
                    toList :=
                      [Value.int IntKind.i64 x.Promised.N, Value.int IntKind.i64 x.Promised.Client, Value.int IntKind.i64 x.Accepted.N, Value.int IntKind.i64 x.Accepted.Client,
                        Value.int IntKind.i64 x.Command.Kind, Value.int IntKind.i64 x.Command.Client, Value.int IntKind.i64 x.Command.Op, Value.string x.Command.Name,
                        Value.int IntKind.i64 x.Command.File.Client, Value.int IntKind.i64 x.Command.File.Op, Value.int IntKind.i64 x.Command.New.Client,
                        Value.int IntKind.i64 x.Command.New.Op, Value.int IntKind.i64 x.Command.Size, Value.bool x.Decided] :
                    Array Value },
                Value.agg
                  {
                    toList :=
                      [Value.int IntKind.i64 (refused x b).fst.Kind, Value.bool (refused x b).fst.From.Client, Value.int IntKind.i64 (refused x b).fst.From.Id,
                        Value.bool (refused x b).fst.To.Client, Value.int IntKind.i64 (refused x b).fst.To.Id, Value.int IntKind.i64 (refused x b).fst.Op,
                        Value.int IntKind.i64 (refused x b).fst.Round, Value.int IntKind.i64 (refused x b).fst.Key.Kind, Value.int IntKind.i64 (refused x b).fst.Key.A,
                        Value.int IntKind.i64 (refused x b).fst.Key.B, Value.int IntKind.i64 (refused x b).fst.Key.C, Value.int IntKind.i64 (refused x b).fst.Stamp.N,
                        Value.int IntKind.i64 (refused x b).fst.Stamp.Client, Value.int IntKind.i64 (refused x b).fst.Held.N, Value.int IntKind.i64 (refused x b).fst.Held.Client,
                        Value.slice none (0 : Nat) (0 : Nat), Value.int IntKind.i64 (refused x b).fst.Command.Kind, Value.int IntKind.i64 (refused x b).fst.Command.Client,
                        Value.int IntKind.i64 (refused x b).fst.Command.Op, Value.string (refused x b).fst.Command.Name, Value.int IntKind.i64 (refused x b).fst.Command.File.Client,
                        Value.int IntKind.i64 (refused x b).fst.Command.File.Op, Value.int IntKind.i64 (refused x b).fst.Command.New.Client,
                        Value.int IntKind.i64 (refused x b).fst.Command.New.Op, Value.int IntKind.i64 (refused x b).fst.Command.Size, Value.int IntKind.i64 (refused x b).fst.Upto,
                        Value.slice none (0 : Nat) (0 : Nat), Value.slice none (0 : Nat) (0 : Nat), Value.slice none (0 : Nat) (0 : Nat), Value.bool (refused x b).fst.More] :
                    Array Value },
                Value.bool false] :
            Array Value } =
        Value.tuple
          #[Value.agg
              {
                toList :=
                  [Value.int IntKind.i64 (accept x b c).fst.Promised.N, Value.int IntKind.i64 (accept x b c).fst.Promised.Client, Value.int IntKind.i64 (accept x b c).fst.Accepted.N,
                    Value.int IntKind.i64 (accept x b c).fst.Accepted.Client, Value.int IntKind.i64 (accept x b c).fst.Command.Kind,
                    Value.int IntKind.i64 (accept x b c).fst.Command.Client, Value.int IntKind.i64 (accept x b c).fst.Command.Op, Value.string (accept x b c).fst.Command.Name,
                    Value.int IntKind.i64 (accept x b c).fst.Command.File.Client, Value.int IntKind.i64 (accept x b c).fst.Command.File.Op,
                    Value.int IntKind.i64 (accept x b c).fst.Command.New.Client, Value.int IntKind.i64 (accept x b c).fst.Command.New.Op,
                    Value.int IntKind.i64 (accept x b c).fst.Command.Size, Value.bool (accept x b c).fst.Decided] :
                Array Value },
            Value.agg
              {
                toList :=
                  [Value.int IntKind.i64 (accept x b c).snd.fst.Kind, Value.bool (accept x b c).snd.fst.From.Client, Value.int IntKind.i64 (accept x b c).snd.fst.From.Id,
                    Value.bool (accept x b c).snd.fst.To.Client, Value.int IntKind.i64 (accept x b c).snd.fst.To.Id, Value.int IntKind.i64 (accept x b c).snd.fst.Op,
                    Value.int IntKind.i64 (accept x b c).snd.fst.Round, Value.int IntKind.i64 (accept x b c).snd.fst.Key.Kind, Value.int IntKind.i64 (accept x b c).snd.fst.Key.A,
                    Value.int IntKind.i64 (accept x b c).snd.fst.Key.B, Value.int IntKind.i64 (accept x b c).snd.fst.Key.C, Value.int IntKind.i64 (accept x b c).snd.fst.Stamp.N,
                    Value.int IntKind.i64 (accept x b c).snd.fst.Stamp.Client, Value.int IntKind.i64 (accept x b c).snd.fst.Held.N,
                    Value.int IntKind.i64 (accept x b c).snd.fst.Held.Client, Value.slice none (0 : Nat) (0 : Nat), Value.int IntKind.i64 (accept x b c).snd.fst.Command.Kind,
                    Value.int IntKind.i64 (accept x b c).snd.fst.Command.Client, Value.int IntKind.i64 (accept x b c).snd.fst.Command.Op,
                    Value.string (accept x b c).snd.fst.Command.Name, Value.int IntKind.i64 (accept x b c).snd.fst.Command.File.Client,
                    Value.int IntKind.i64 (accept x b c).snd.fst.Command.File.Op, Value.int IntKind.i64 (accept x b c).snd.fst.Command.New.Client,
                    Value.int IntKind.i64 (accept x b c).snd.fst.Command.New.Op, Value.int IntKind.i64 (accept x b c).snd.fst.Command.Size,
                    Value.int IntKind.i64 (accept x b c).snd.fst.Upto, Value.slice none (0 : Nat) (0 : Nat), Value.slice none (0 : Nat) (0 : Nat), Value.slice none (0 : Nat) (0 : Nat),
                    Value.bool (accept x b c).snd.fst.More] :
                Array Value },
            Value.bool (accept x b c).snd.snd])
      (Value.tuple
          {
            toList :=
              [Value.agg
                  {
                    toList :=
                      [Value.int IntKind.i64 b.N, Value.int IntKind.i64 b.Client, Value.int IntKind.i64 b.N, Value.int IntKind.i64 b.Client, Value.int IntKind.i64 c.Kind,
                        Value.int IntKind.i64 c.Client, Value.int IntKind.i64 c.Op, Value.string c.Name, Value.int IntKind.i64 c.File.Client, Value.int IntKind.i64 c.File.Op,
                        Value.int IntKind.i64 c.New.Client, Value.int IntKind.i64 c.New.Op, Value.int IntKind.i64 c.Size, Value.bool false] :
                    Array Value },
                Value.agg
                  {
                    toList :=
                      [Value.int IntKind.i64 (15 : Int), Value.bool false, Value.int IntKind.i64 (0 : Int), Value.bool false, Value.int IntKind.i64 (0 : Int),
                        Value.int IntKind.i64 (0 : Int), Value.int IntKind.i64 (0 : Int), Value.int IntKind.i64 (0 : Int), Value.int IntKind.i64 (0 : Int),
                        Value.int IntKind.i64 (0 : Int), Value.int IntKind.i64 (0 : Int), Value.int IntKind.i64 b.N, Value.int IntKind.i64 b.Client, Value.int IntKind.i64 (0 : Int),
                        Value.int IntKind.i64 (0 : Int), Value.slice none (0 : Nat) (0 : Nat), Value.int IntKind.i64 (0 : Int), Value.int IntKind.i64 (0 : Int),
                        Value.int IntKind.i64 (0 : Int), Value.string { data := #[] : ByteArray }, Value.int IntKind.i64 (0 : Int), Value.int IntKind.i64 (0 : Int),
                        Value.int IntKind.i64 (0 : Int), Value.int IntKind.i64 (0 : Int), Value.int IntKind.i64 (0 : Int), Value.int IntKind.i64 (0 : Int),
                        Value.slice none (0 : Nat) (0 : Nat), Value.slice none (0 : Nat) (0 : Nat), Value.slice none (0 : Nat) (0 : Nat), Value.bool false] :
                    Array Value },
                Value.bool
                  !(b.N == x.Promised.N && (b.Client == x.Promised.Client && true) &&
                      (b.N == x.Accepted.N && (b.Client == x.Accepted.Client && true) &&
                        (c.Kind == x.Command.Kind &&
                            (c.Client == x.Command.Client &&
                              (c.Op == x.Command.Op &&
                                (c.Name.data.toList == x.Command.Name.data.toList &&
                                  (c.File.Client == x.Command.File.Client && (c.File.Op == x.Command.File.Op && true) &&
                                    (c.New.Client == x.Command.New.Client && (c.New.Op == x.Command.New.Op && true) && (c.Size == x.Command.Size && true)))))) &&
                          (false == x.Decided && true))))] :
            Array Value } =
        Value.tuple
          #[Value.agg
              {
                toList :=
                  [Value.int IntKind.i64 (accept x b c).fst.Promised.N, Value.int IntKind.i64 (accept x b c).fst.Promised.Client, Value.int IntKind.i64 (accept x b c).fst.Accepted.N,
                    Value.int IntKind.i64 (accept x b c).fst.Accepted.Client, Value.int IntKind.i64 (accept x b c).fst.Command.Kind,
                    Value.int IntKind.i64 (accept x b c).fst.Command.Client, Value.int IntKind.i64 (accept x b c).fst.Command.Op, Value.string (accept x b c).fst.Command.Name,
                    Value.int IntKind.i64 (accept x b c).fst.Command.File.Client, Value.int IntKind.i64 (accept x b c).fst.Command.File.Op,
                    Value.int IntKind.i64 (accept x b c).fst.Command.New.Client, Value.int IntKind.i64 (accept x b c).fst.Command.New.Op,
                    Value.int IntKind.i64 (accept x b c).fst.Command.Size, Value.bool (accept x b c).fst.Decided] :
                Array Value },
            Value.agg
              {
                toList :=
                  [Value.int IntKind.i64 (accept x b c).snd.fst.Kind, Value.bool (accept x b c).snd.fst.From.Client, Value.int IntKind.i64 (accept x b c).snd.fst.From.Id,
                    Value.bool (accept x b c).snd.fst.To.Client, Value.int IntKind.i64 (accept x b c).snd.fst.To.Id, Value.int IntKind.i64 (accept x b c).snd.fst.Op,
                    Value.int IntKind.i64 (accept x b c).snd.fst.Round, Value.int IntKind.i64 (accept x b c).snd.fst.Key.Kind, Value.int IntKind.i64 (accept x b c).snd.fst.Key.A,
                    Value.int IntKind.i64 (accept x b c).snd.fst.Key.B, Value.int IntKind.i64 (accept x b c).snd.fst.Key.C, Value.int IntKind.i64 (accept x b c).snd.fst.Stamp.N,
                    Value.int IntKind.i64 (accept x b c).snd.fst.Stamp.Client, Value.int IntKind.i64 (accept x b c).snd.fst.Held.N,
                    Value.int IntKind.i64 (accept x b c).snd.fst.Held.Client, Value.slice none (0 : Nat) (0 : Nat), Value.int IntKind.i64 (accept x b c).snd.fst.Command.Kind,
                    Value.int IntKind.i64 (accept x b c).snd.fst.Command.Client, Value.int IntKind.i64 (accept x b c).snd.fst.Command.Op,
                    Value.string (accept x b c).snd.fst.Command.Name, Value.int IntKind.i64 (accept x b c).snd.fst.Command.File.Client,
                    Value.int IntKind.i64 (accept x b c).snd.fst.Command.File.Op, Value.int IntKind.i64 (accept x b c).snd.fst.Command.New.Client,
                    Value.int IntKind.i64 (accept x b c).snd.fst.Command.New.Op, Value.int IntKind.i64 (accept x b c).snd.fst.Command.Size,
                    Value.int IntKind.i64 (accept x b c).snd.fst.Upto, Value.slice none (0 : Nat) (0 : Nat), Value.slice none (0 : Nat) (0 : Nat), Value.slice none (0 : Nat) (0 : Nat),
                    Value.bool (accept x b c).snd.fst.More] :
                Array Value },
            Value.bool (accept x b c).snd.snd])) (by kernel_rfl) ?_
  have go : ∀ r, accept x b c = r → retP r = retP (accept x b c) := fun r h => h ▸ rfl
  refine bsplit_iff.2 ⟨fun h => go (x, (refused x b).1, false) (by simp [accept, h]), fun h => ?_⟩
  refine go (⟨b, b, c, false⟩, msgOf 15 b st0 cmdZ, _) ?_
  simp only [accept, h, stampEq, cmdEq, fileEq, Bool.false_eq_true, if_false, Prod.mk.injEq, true_and]
  show _ = !_
  rw [BEq.comm (a := x.Promised.N), BEq.comm (a := x.Promised.Client), BEq.comm (a := x.Accepted.N), BEq.comm (a := x.Accepted.Client), BEq.comm (a := x.Command.Kind), BEq.comm (a := x.Command.Client),
    BEq.comm (a := x.Command.Op), BEq.comm (a := x.Command.Name.data.toList), BEq.comm (a := x.Command.File.Client), BEq.comm (a := x.Command.File.Op), BEq.comm (a := x.Command.New.Client), BEq.comm (a := x.Command.New.Op),
    BEq.comm (a := x.Command.Size), refused_open h]
  simp [Bool.and_assoc, Bool.or_assoc]
theorem accept19_ok : FnOK Try.prog 19 acceptG := by
  refine FnOK.g3 (callable Try.func19 rfl (by decide +kernel)) _ _ _ _ (fun _ _ _ => rfl) fun x b c => ?_
  refine of_run (ctxL_ok (.cons refused37_ok .nil)) (n := 200) Try.func19 rfl .l ?_
  refine by_nf (B := bsplit (refused x b).snd
      (Value.tuple
          {
            toList :=
              [Value.agg
                  {
                    toList :=
                      [Value.int IntKind.i64 x.Promised.N, Value.int IntKind.i64 x.Promised.Client, Value.int IntKind.i64 x.Accepted.N, Value.int IntKind.i64 x.Accepted.Client,
                        Value.int IntKind.i64 x.Command.Kind, Value.int IntKind.i64 x.Command.Client, Value.int IntKind.i64 x.Command.Op, Value.string x.Command.Name,
                        Value.int IntKind.i64 x.Command.File.Client, Value.int IntKind.i64 x.Command.File.Op, Value.int IntKind.i64 x.Command.New.Client,
                        Value.int IntKind.i64 x.Command.New.Op, Value.int IntKind.i64 x.Command.Size, Value.bool x.Decided] :
                    Array Value },
                Value.agg
                  {
                    toList :=
                      [Value.int IntKind.i64 (refused x b).fst.Kind, Value.bool (refused x b).fst.From.Client, Value.int IntKind.i64 (refused x b).fst.From.Id,
                        Value.bool (refused x b).fst.To.Client, Value.int IntKind.i64 (refused x b).fst.To.Id, Value.int IntKind.i64 (refused x b).fst.Op,
                        Value.int IntKind.i64 (refused x b).fst.Round, Value.int IntKind.i64 (refused x b).fst.Key.Kind, Value.int IntKind.i64 (refused x b).fst.Key.A,
                        Value.int IntKind.i64 (refused x b).fst.Key.B, Value.int IntKind.i64 (refused x b).fst.Key.C, Value.int IntKind.i64 (refused x b).fst.Stamp.N,
                        Value.int IntKind.i64 (refused x b).fst.Stamp.Client, Value.int IntKind.i64 (refused x b).fst.Held.N, Value.int IntKind.i64 (refused x b).fst.Held.Client,
                        Value.slice none (0 : Nat) (0 : Nat), Value.int IntKind.i64 (refused x b).fst.Command.Kind, Value.int IntKind.i64 (refused x b).fst.Command.Client,
                        Value.int IntKind.i64 (refused x b).fst.Command.Op, Value.string (refused x b).fst.Command.Name, Value.int IntKind.i64 (refused x b).fst.Command.File.Client,
                        Value.int IntKind.i64 (refused x b).fst.Command.File.Op, Value.int IntKind.i64 (refused x b).fst.Command.New.Client,
                        Value.int IntKind.i64 (refused x b).fst.Command.New.Op, Value.int IntKind.i64 (refused x b).fst.Command.Size, Value.int IntKind.i64 (refused x b).fst.Upto,
                        Value.slice none (0 : Nat) (0 : Nat), Value.slice none (0 : Nat) (0 : Nat), Value.slice none (0 : Nat) (0 : Nat), Value.bool (refused x b).fst.More] :
                    Array Value },
                Value.bool false] :
            Array Value } =
        Value.tuple
          #[Value.agg
              {
                toList :=
                  [Value.int IntKind.i64 (accept x b c).fst.Promised.N, Value.int IntKind.i64 (accept x b c).fst.Promised.Client, Value.int IntKind.i64 (accept x b c).fst.Accepted.N,
                    Value.int IntKind.i64 (accept x b c).fst.Accepted.Client, Value.int IntKind.i64 (accept x b c).fst.Command.Kind,
                    Value.int IntKind.i64 (accept x b c).fst.Command.Client, Value.int IntKind.i64 (accept x b c).fst.Command.Op, Value.string (accept x b c).fst.Command.Name,
                    Value.int IntKind.i64 (accept x b c).fst.Command.File.Client, Value.int IntKind.i64 (accept x b c).fst.Command.File.Op,
                    Value.int IntKind.i64 (accept x b c).fst.Command.New.Client, Value.int IntKind.i64 (accept x b c).fst.Command.New.Op,
                    Value.int IntKind.i64 (accept x b c).fst.Command.Size, Value.bool (accept x b c).fst.Decided] :
                Array Value },
            Value.agg
              {
                toList :=
                  [Value.int IntKind.i64 (accept x b c).snd.fst.Kind, Value.bool (accept x b c).snd.fst.From.Client, Value.int IntKind.i64 (accept x b c).snd.fst.From.Id,
                    Value.bool (accept x b c).snd.fst.To.Client, Value.int IntKind.i64 (accept x b c).snd.fst.To.Id, Value.int IntKind.i64 (accept x b c).snd.fst.Op,
                    Value.int IntKind.i64 (accept x b c).snd.fst.Round, Value.int IntKind.i64 (accept x b c).snd.fst.Key.Kind, Value.int IntKind.i64 (accept x b c).snd.fst.Key.A,
                    Value.int IntKind.i64 (accept x b c).snd.fst.Key.B, Value.int IntKind.i64 (accept x b c).snd.fst.Key.C, Value.int IntKind.i64 (accept x b c).snd.fst.Stamp.N,
                    Value.int IntKind.i64 (accept x b c).snd.fst.Stamp.Client, Value.int IntKind.i64 (accept x b c).snd.fst.Held.N,
                    Value.int IntKind.i64 (accept x b c).snd.fst.Held.Client, Value.slice none (0 : Nat) (0 : Nat), Value.int IntKind.i64 (accept x b c).snd.fst.Command.Kind,
                    Value.int IntKind.i64 (accept x b c).snd.fst.Command.Client, Value.int IntKind.i64 (accept x b c).snd.fst.Command.Op,
                    Value.string (accept x b c).snd.fst.Command.Name, Value.int IntKind.i64 (accept x b c).snd.fst.Command.File.Client,
                    Value.int IntKind.i64 (accept x b c).snd.fst.Command.File.Op, Value.int IntKind.i64 (accept x b c).snd.fst.Command.New.Client,
                    Value.int IntKind.i64 (accept x b c).snd.fst.Command.New.Op, Value.int IntKind.i64 (accept x b c).snd.fst.Command.Size,
                    Value.int IntKind.i64 (accept x b c).snd.fst.Upto, Value.slice none (0 : Nat) (0 : Nat), Value.slice none (0 : Nat) (0 : Nat), Value.slice none (0 : Nat) (0 : Nat),
                    Value.bool (accept x b c).snd.fst.More] :
                Array Value },
            Value.bool (accept x b c).snd.snd])
      (bsplit (!(x.Promised.N == b.N && (x.Promised.Client == b.Client && true)))
        (Value.tuple
            {
              toList :=
                [Value.agg
                    {
                      toList :=
                        [Value.int IntKind.i64 b.N, Value.int IntKind.i64 b.Client, Value.int IntKind.i64 b.N, Value.int IntKind.i64 b.Client, Value.int IntKind.i64 c.Kind,
                          Value.int IntKind.i64 c.Client, Value.int IntKind.i64 c.Op, Value.string c.Name, Value.int IntKind.i64 c.File.Client, Value.int IntKind.i64 c.File.Op,
                          Value.int IntKind.i64 c.New.Client, Value.int IntKind.i64 c.New.Op, Value.int IntKind.i64 c.Size, Value.bool false] :
                      Array Value },
                  Value.agg
                    {
                      toList :=
                        [Value.int IntKind.i64 (15 : Int), Value.bool false, Value.int IntKind.i64 (0 : Int), Value.bool false, Value.int IntKind.i64 (0 : Int),
                          Value.int IntKind.i64 (0 : Int), Value.int IntKind.i64 (0 : Int), Value.int IntKind.i64 (0 : Int), Value.int IntKind.i64 (0 : Int),
                          Value.int IntKind.i64 (0 : Int), Value.int IntKind.i64 (0 : Int), Value.int IntKind.i64 b.N, Value.int IntKind.i64 b.Client, Value.int IntKind.i64 (0 : Int),
                          Value.int IntKind.i64 (0 : Int), Value.slice none (0 : Nat) (0 : Nat), Value.int IntKind.i64 (0 : Int), Value.int IntKind.i64 (0 : Int),
                          Value.int IntKind.i64 (0 : Int), Value.string { data := #[] : ByteArray }, Value.int IntKind.i64 (0 : Int), Value.int IntKind.i64 (0 : Int),
                          Value.int IntKind.i64 (0 : Int), Value.int IntKind.i64 (0 : Int), Value.int IntKind.i64 (0 : Int), Value.int IntKind.i64 (0 : Int),
                          Value.slice none (0 : Nat) (0 : Nat), Value.slice none (0 : Nat) (0 : Nat), Value.slice none (0 : Nat) (0 : Nat), Value.bool false] :
                      Array Value },
                  Value.bool true] :
              Array Value } =
          Value.tuple
            #[Value.agg
                {
                  toList :=
                    [Value.int IntKind.i64 (accept x b c).fst.Promised.N, Value.int IntKind.i64 (accept x b c).fst.Promised.Client, Value.int IntKind.i64 (accept x b c).fst.Accepted.N,
                      Value.int IntKind.i64 (accept x b c).fst.Accepted.Client, Value.int IntKind.i64 (accept x b c).fst.Command.Kind,
                      Value.int IntKind.i64 (accept x b c).fst.Command.Client, Value.int IntKind.i64 (accept x b c).fst.Command.Op, Value.string (accept x b c).fst.Command.Name,
                      Value.int IntKind.i64 (accept x b c).fst.Command.File.Client, Value.int IntKind.i64 (accept x b c).fst.Command.File.Op,
                      Value.int IntKind.i64 (accept x b c).fst.Command.New.Client, Value.int IntKind.i64 (accept x b c).fst.Command.New.Op,
                      Value.int IntKind.i64 (accept x b c).fst.Command.Size, Value.bool (accept x b c).fst.Decided] :
                  Array Value },
              Value.agg
                {
                  toList :=
                    [Value.int IntKind.i64 (accept x b c).snd.fst.Kind, Value.bool (accept x b c).snd.fst.From.Client, Value.int IntKind.i64 (accept x b c).snd.fst.From.Id,
                      Value.bool (accept x b c).snd.fst.To.Client, Value.int IntKind.i64 (accept x b c).snd.fst.To.Id, Value.int IntKind.i64 (accept x b c).snd.fst.Op,
                      Value.int IntKind.i64 (accept x b c).snd.fst.Round, Value.int IntKind.i64 (accept x b c).snd.fst.Key.Kind, Value.int IntKind.i64 (accept x b c).snd.fst.Key.A,
                      Value.int IntKind.i64 (accept x b c).snd.fst.Key.B, Value.int IntKind.i64 (accept x b c).snd.fst.Key.C, Value.int IntKind.i64 (accept x b c).snd.fst.Stamp.N,
                      Value.int IntKind.i64 (accept x b c).snd.fst.Stamp.Client, Value.int IntKind.i64 (accept x b c).snd.fst.Held.N,
                      Value.int IntKind.i64 (accept x b c).snd.fst.Held.Client, Value.slice none (0 : Nat) (0 : Nat), Value.int IntKind.i64 (accept x b c).snd.fst.Command.Kind,
                      Value.int IntKind.i64 (accept x b c).snd.fst.Command.Client, Value.int IntKind.i64 (accept x b c).snd.fst.Command.Op,
                      Value.string (accept x b c).snd.fst.Command.Name, Value.int IntKind.i64 (accept x b c).snd.fst.Command.File.Client,
                      Value.int IntKind.i64 (accept x b c).snd.fst.Command.File.Op, Value.int IntKind.i64 (accept x b c).snd.fst.Command.New.Client,
                      Value.int IntKind.i64 (accept x b c).snd.fst.Command.New.Op, Value.int IntKind.i64 (accept x b c).snd.fst.Command.Size,
                      Value.int IntKind.i64 (accept x b c).snd.fst.Upto, Value.slice none (0 : Nat) (0 : Nat), Value.slice none (0 : Nat) (0 : Nat),
                      Value.slice none (0 : Nat) (0 : Nat), Value.bool (accept x b c).snd.fst.More] :
                  Array Value },
              Value.bool (accept x b c).snd.snd])
        (bsplit (!(x.Accepted.N == b.N && (x.Accepted.Client == b.Client && true)))
          (Value.tuple
              {
                toList :=
                  [Value.agg
                      {
                        toList :=
                          [Value.int IntKind.i64 b.N, Value.int IntKind.i64 b.Client, Value.int IntKind.i64 b.N, Value.int IntKind.i64 b.Client, Value.int IntKind.i64 c.Kind,
                            Value.int IntKind.i64 c.Client, Value.int IntKind.i64 c.Op, Value.string c.Name, Value.int IntKind.i64 c.File.Client, Value.int IntKind.i64 c.File.Op,
                            Value.int IntKind.i64 c.New.Client, Value.int IntKind.i64 c.New.Op, Value.int IntKind.i64 c.Size, Value.bool false] :
                        Array Value },
                    Value.agg
                      {
                        toList :=
                          [Value.int IntKind.i64 (15 : Int), Value.bool false, Value.int IntKind.i64 (0 : Int), Value.bool false, Value.int IntKind.i64 (0 : Int),
                            Value.int IntKind.i64 (0 : Int), Value.int IntKind.i64 (0 : Int), Value.int IntKind.i64 (0 : Int), Value.int IntKind.i64 (0 : Int),
                            Value.int IntKind.i64 (0 : Int), Value.int IntKind.i64 (0 : Int), Value.int IntKind.i64 b.N, Value.int IntKind.i64 b.Client,
                            Value.int IntKind.i64 (0 : Int), Value.int IntKind.i64 (0 : Int), Value.slice none (0 : Nat) (0 : Nat), Value.int IntKind.i64 (0 : Int),
                            Value.int IntKind.i64 (0 : Int), Value.int IntKind.i64 (0 : Int), Value.string { data := #[] : ByteArray }, Value.int IntKind.i64 (0 : Int),
                            Value.int IntKind.i64 (0 : Int), Value.int IntKind.i64 (0 : Int), Value.int IntKind.i64 (0 : Int), Value.int IntKind.i64 (0 : Int),
                            Value.int IntKind.i64 (0 : Int), Value.slice none (0 : Nat) (0 : Nat), Value.slice none (0 : Nat) (0 : Nat), Value.slice none (0 : Nat) (0 : Nat),
                            Value.bool false] :
                        Array Value },
                    Value.bool true] :
                Array Value } =
            Value.tuple
              #[Value.agg
                  {
                    toList :=
                      [Value.int IntKind.i64 (accept x b c).fst.Promised.N, Value.int IntKind.i64 (accept x b c).fst.Promised.Client,
                        Value.int IntKind.i64 (accept x b c).fst.Accepted.N, Value.int IntKind.i64 (accept x b c).fst.Accepted.Client,
                        Value.int IntKind.i64 (accept x b c).fst.Command.Kind, Value.int IntKind.i64 (accept x b c).fst.Command.Client,
                        Value.int IntKind.i64 (accept x b c).fst.Command.Op, Value.string (accept x b c).fst.Command.Name, Value.int IntKind.i64 (accept x b c).fst.Command.File.Client,
                        Value.int IntKind.i64 (accept x b c).fst.Command.File.Op, Value.int IntKind.i64 (accept x b c).fst.Command.New.Client,
                        Value.int IntKind.i64 (accept x b c).fst.Command.New.Op, Value.int IntKind.i64 (accept x b c).fst.Command.Size, Value.bool (accept x b c).fst.Decided] :
                    Array Value },
                Value.agg
                  {
                    toList :=
                      [Value.int IntKind.i64 (accept x b c).snd.fst.Kind, Value.bool (accept x b c).snd.fst.From.Client, Value.int IntKind.i64 (accept x b c).snd.fst.From.Id,
                        Value.bool (accept x b c).snd.fst.To.Client, Value.int IntKind.i64 (accept x b c).snd.fst.To.Id, Value.int IntKind.i64 (accept x b c).snd.fst.Op,
                        Value.int IntKind.i64 (accept x b c).snd.fst.Round, Value.int IntKind.i64 (accept x b c).snd.fst.Key.Kind, Value.int IntKind.i64 (accept x b c).snd.fst.Key.A,
                        Value.int IntKind.i64 (accept x b c).snd.fst.Key.B, Value.int IntKind.i64 (accept x b c).snd.fst.Key.C, Value.int IntKind.i64 (accept x b c).snd.fst.Stamp.N,
                        Value.int IntKind.i64 (accept x b c).snd.fst.Stamp.Client, Value.int IntKind.i64 (accept x b c).snd.fst.Held.N,
                        Value.int IntKind.i64 (accept x b c).snd.fst.Held.Client, Value.slice none (0 : Nat) (0 : Nat), Value.int IntKind.i64 (accept x b c).snd.fst.Command.Kind,
                        Value.int IntKind.i64 (accept x b c).snd.fst.Command.Client, Value.int IntKind.i64 (accept x b c).snd.fst.Command.Op,
                        Value.string (accept x b c).snd.fst.Command.Name, Value.int IntKind.i64 (accept x b c).snd.fst.Command.File.Client,
                        Value.int IntKind.i64 (accept x b c).snd.fst.Command.File.Op, Value.int IntKind.i64 (accept x b c).snd.fst.Command.New.Client,
                        Value.int IntKind.i64 (accept x b c).snd.fst.Command.New.Op, Value.int IntKind.i64 (accept x b c).snd.fst.Command.Size,
                        Value.int IntKind.i64 (accept x b c).snd.fst.Upto, Value.slice none (0 : Nat) (0 : Nat), Value.slice none (0 : Nat) (0 : Nat),
                        Value.slice none (0 : Nat) (0 : Nat), Value.bool (accept x b c).snd.fst.More] :
                    Array Value },
                Value.bool (accept x b c).snd.snd])
          (Value.tuple
              {
                toList :=
                  [Value.agg
                      {
                        toList :=
                          [Value.int IntKind.i64 b.N, Value.int IntKind.i64 b.Client, Value.int IntKind.i64 b.N, Value.int IntKind.i64 b.Client, Value.int IntKind.i64 c.Kind,
                            Value.int IntKind.i64 c.Client, Value.int IntKind.i64 c.Op, Value.string c.Name, Value.int IntKind.i64 c.File.Client, Value.int IntKind.i64 c.File.Op,
                            Value.int IntKind.i64 c.New.Client, Value.int IntKind.i64 c.New.Op, Value.int IntKind.i64 c.Size, Value.bool false] :
                        Array Value },
                    Value.agg
                      {
                        toList :=
                          [Value.int IntKind.i64 (15 : Int), Value.bool false, Value.int IntKind.i64 (0 : Int), Value.bool false, Value.int IntKind.i64 (0 : Int),
                            Value.int IntKind.i64 (0 : Int), Value.int IntKind.i64 (0 : Int), Value.int IntKind.i64 (0 : Int), Value.int IntKind.i64 (0 : Int),
                            Value.int IntKind.i64 (0 : Int), Value.int IntKind.i64 (0 : Int), Value.int IntKind.i64 b.N, Value.int IntKind.i64 b.Client,
                            Value.int IntKind.i64 (0 : Int), Value.int IntKind.i64 (0 : Int), Value.slice none (0 : Nat) (0 : Nat), Value.int IntKind.i64 (0 : Int),
                            Value.int IntKind.i64 (0 : Int), Value.int IntKind.i64 (0 : Int), Value.string { data := #[] : ByteArray }, Value.int IntKind.i64 (0 : Int),
                            Value.int IntKind.i64 (0 : Int), Value.int IntKind.i64 (0 : Int), Value.int IntKind.i64 (0 : Int), Value.int IntKind.i64 (0 : Int),
                            Value.int IntKind.i64 (0 : Int), Value.slice none (0 : Nat) (0 : Nat), Value.slice none (0 : Nat) (0 : Nat), Value.slice none (0 : Nat) (0 : Nat),
                            Value.bool false] :
                        Array Value },
                    Value.bool
                      !(x.Command.Kind == c.Kind &&
                          (x.Command.Client == c.Client &&
                            (x.Command.Op == c.Op &&
                              (x.Command.Name.data.toList == c.Name.data.toList &&
                                (x.Command.File.Client == c.File.Client && (x.Command.File.Op == c.File.Op && true) &&
                                  (x.Command.New.Client == c.New.Client && (x.Command.New.Op == c.New.Op && true) && (x.Command.Size == c.Size && true)))))))] :
                Array Value } =
            Value.tuple
              #[Value.agg
                  {
                    toList :=
                      [Value.int IntKind.i64 (accept x b c).fst.Promised.N, Value.int IntKind.i64 (accept x b c).fst.Promised.Client,
                        Value.int IntKind.i64 (accept x b c).fst.Accepted.N, Value.int IntKind.i64 (accept x b c).fst.Accepted.Client,
                        Value.int IntKind.i64 (accept x b c).fst.Command.Kind, Value.int IntKind.i64 (accept x b c).fst.Command.Client,
                        Value.int IntKind.i64 (accept x b c).fst.Command.Op, Value.string (accept x b c).fst.Command.Name, Value.int IntKind.i64 (accept x b c).fst.Command.File.Client,
                        Value.int IntKind.i64 (accept x b c).fst.Command.File.Op, Value.int IntKind.i64 (accept x b c).fst.Command.New.Client,
                        Value.int IntKind.i64 (accept x b c).fst.Command.New.Op, Value.int IntKind.i64 (accept x b c).fst.Command.Size, Value.bool (accept x b c).fst.Decided] :
                    Array Value },
                Value.agg
                  {
                    toList :=
                      [Value.int IntKind.i64 (accept x b c).snd.fst.Kind, Value.bool (accept x b c).snd.fst.From.Client, Value.int IntKind.i64 (accept x b c).snd.fst.From.Id,
                        Value.bool (accept x b c).snd.fst.To.Client, Value.int IntKind.i64 (accept x b c).snd.fst.To.Id, Value.int IntKind.i64 (accept x b c).snd.fst.Op,
                        Value.int IntKind.i64 (accept x b c).snd.fst.Round, Value.int IntKind.i64 (accept x b c).snd.fst.Key.Kind, Value.int IntKind.i64 (accept x b c).snd.fst.Key.A,
                        Value.int IntKind.i64 (accept x b c).snd.fst.Key.B, Value.int IntKind.i64 (accept x b c).snd.fst.Key.C, Value.int IntKind.i64 (accept x b c).snd.fst.Stamp.N,
                        Value.int IntKind.i64 (accept x b c).snd.fst.Stamp.Client, Value.int IntKind.i64 (accept x b c).snd.fst.Held.N,
                        Value.int IntKind.i64 (accept x b c).snd.fst.Held.Client, Value.slice none (0 : Nat) (0 : Nat), Value.int IntKind.i64 (accept x b c).snd.fst.Command.Kind,
                        Value.int IntKind.i64 (accept x b c).snd.fst.Command.Client, Value.int IntKind.i64 (accept x b c).snd.fst.Command.Op,
                        Value.string (accept x b c).snd.fst.Command.Name, Value.int IntKind.i64 (accept x b c).snd.fst.Command.File.Client,
                        Value.int IntKind.i64 (accept x b c).snd.fst.Command.File.Op, Value.int IntKind.i64 (accept x b c).snd.fst.Command.New.Client,
                        Value.int IntKind.i64 (accept x b c).snd.fst.Command.New.Op, Value.int IntKind.i64 (accept x b c).snd.fst.Command.Size,
                        Value.int IntKind.i64 (accept x b c).snd.fst.Upto, Value.slice none (0 : Nat) (0 : Nat), Value.slice none (0 : Nat) (0 : Nat),
                        Value.slice none (0 : Nat) (0 : Nat), Value.bool (accept x b c).snd.fst.More] :
                    Array Value },
                Value.bool (accept x b c).snd.snd])))) (by kernel_rfl) ?_
  have go : ∀ r, accept x b c = r → retP r = retP (accept x b c) := fun r h => h ▸ rfl
  refine bsplit_iff.2 ⟨fun h => go (x, (refused x b).1, false) (by simp [accept, h]), fun h => ?_⟩
  refine bsplit_iff.2 ⟨fun h1 => ?_, fun h1 => bsplit_iff.2 ⟨fun h2 => ?_, fun h2 => ?_⟩⟩
  · have e : stampEq x.Promised b = false := by simpa only [stampEq, Bool.and_true, Bool.not_eq_true'] using h1
    exact go (⟨b, b, c, false⟩, msgOf 15 b st0 cmdZ, true) (by simp [accept, h, e])
  · have e : stampEq x.Accepted b = false := by simpa only [stampEq, Bool.and_true, Bool.not_eq_true'] using h2
    exact go (⟨b, b, c, false⟩, msgOf 15 b st0 cmdZ, true) (by simp [accept, h, e])
  · have e1 : stampEq x.Promised b = true := by simpa [stampEq] using h1
    have e2 : stampEq x.Accepted b = true := by simpa [stampEq] using h2
    refine go (⟨b, b, c, false⟩, msgOf 15 b st0 cmdZ, _) ?_
    simp only [accept, h, e1, e2, cmdEq, fileEq, Bool.false_eq_true, if_false, Prod.mk.injEq, true_and]
    show _ = !_
    simp [Bool.and_assoc, Bool.or_assoc]
theorem learned20_ok : FnOK Try.prog 20 learnedG := by
  refine FnOK.g2 (callable Try.func20 rfl (by decide +kernel)) _ _ _ (fun _ _ => rfl) fun x c => ?_
  refine of_run (ctxL_ok .nil) (n := 200) Try.func20 rfl .l ?_
  refine by_nf (B := bsplit x.Decided
      (Value.tuple
          {
            toList :=
              [Value.agg
                  {
                    toList :=
                      [Value.int IntKind.i64 x.Promised.N, Value.int IntKind.i64 x.Promised.Client, Value.int IntKind.i64 x.Accepted.N, Value.int IntKind.i64 x.Accepted.Client,
                        Value.int IntKind.i64 x.Command.Kind, Value.int IntKind.i64 x.Command.Client, Value.int IntKind.i64 x.Command.Op, Value.string x.Command.Name,
                        Value.int IntKind.i64 x.Command.File.Client, Value.int IntKind.i64 x.Command.File.Op, Value.int IntKind.i64 x.Command.New.Client,
                        Value.int IntKind.i64 x.Command.New.Op, Value.int IntKind.i64 x.Command.Size, Value.bool x.Decided] :
                    Array Value },
                Value.bool false] :
            Array Value } =
        Value.tuple
          #[Value.agg
              {
                toList :=
                  [Value.int IntKind.i64 (learned x c).fst.Promised.N, Value.int IntKind.i64 (learned x c).fst.Promised.Client, Value.int IntKind.i64 (learned x c).fst.Accepted.N,
                    Value.int IntKind.i64 (learned x c).fst.Accepted.Client, Value.int IntKind.i64 (learned x c).fst.Command.Kind,
                    Value.int IntKind.i64 (learned x c).fst.Command.Client, Value.int IntKind.i64 (learned x c).fst.Command.Op, Value.string (learned x c).fst.Command.Name,
                    Value.int IntKind.i64 (learned x c).fst.Command.File.Client, Value.int IntKind.i64 (learned x c).fst.Command.File.Op,
                    Value.int IntKind.i64 (learned x c).fst.Command.New.Client, Value.int IntKind.i64 (learned x c).fst.Command.New.Op,
                    Value.int IntKind.i64 (learned x c).fst.Command.Size, Value.bool (learned x c).fst.Decided] :
                Array Value },
            Value.bool (learned x c).snd])
      (Value.tuple
          {
            toList :=
              [Value.agg
                  {
                    toList :=
                      [Value.int IntKind.i64 (0 : Int), Value.int IntKind.i64 (0 : Int), Value.int IntKind.i64 (0 : Int), Value.int IntKind.i64 (0 : Int), Value.int IntKind.i64 c.Kind,
                        Value.int IntKind.i64 c.Client, Value.int IntKind.i64 c.Op, Value.string c.Name, Value.int IntKind.i64 c.File.Client, Value.int IntKind.i64 c.File.Op,
                        Value.int IntKind.i64 c.New.Client, Value.int IntKind.i64 c.New.Op, Value.int IntKind.i64 c.Size, Value.bool true] :
                    Array Value },
                Value.bool true] :
            Array Value } =
        Value.tuple
          #[Value.agg
              {
                toList :=
                  [Value.int IntKind.i64 (learned x c).fst.Promised.N, Value.int IntKind.i64 (learned x c).fst.Promised.Client, Value.int IntKind.i64 (learned x c).fst.Accepted.N,
                    Value.int IntKind.i64 (learned x c).fst.Accepted.Client, Value.int IntKind.i64 (learned x c).fst.Command.Kind,
                    Value.int IntKind.i64 (learned x c).fst.Command.Client, Value.int IntKind.i64 (learned x c).fst.Command.Op, Value.string (learned x c).fst.Command.Name,
                    Value.int IntKind.i64 (learned x c).fst.Command.File.Client, Value.int IntKind.i64 (learned x c).fst.Command.File.Op,
                    Value.int IntKind.i64 (learned x c).fst.Command.New.Client, Value.int IntKind.i64 (learned x c).fst.Command.New.Op,
                    Value.int IntKind.i64 (learned x c).fst.Command.Size, Value.bool (learned x c).fst.Decided] :
                Array Value },
            Value.bool (learned x c).snd])) (by kernel_rfl) ?_
  have go : ∀ r, learned x c = r → retL r = retL (learned x c) := fun r h => h ▸ rfl
  exact bsplit_iff.2 ⟨fun h => go (x, false) (by simp [learned, h]), fun h => go (⟨st0, st0, c, true⟩, true) (by simp [learned, h])⟩
theorem learned21_ok : FnOK Try.prog 21 learnedG := by
  refine FnOK.g2 (callable Try.func21 rfl (by decide +kernel)) _ _ _ (fun _ _ => rfl) fun x c => ?_
  refine of_run (ctxL_ok .nil) (n := 200) Try.func21 rfl .l ?_
  refine by_nf (B := bsplit x.Decided
      (Value.tuple
          {
            toList :=
              [Value.agg
                  {
                    toList :=
                      [Value.int IntKind.i64 x.Promised.N, Value.int IntKind.i64 x.Promised.Client, Value.int IntKind.i64 x.Accepted.N, Value.int IntKind.i64 x.Accepted.Client,
                        Value.int IntKind.i64 x.Command.Kind, Value.int IntKind.i64 x.Command.Client, Value.int IntKind.i64 x.Command.Op, Value.string x.Command.Name,
                        Value.int IntKind.i64 x.Command.File.Client, Value.int IntKind.i64 x.Command.File.Op, Value.int IntKind.i64 x.Command.New.Client,
                        Value.int IntKind.i64 x.Command.New.Op, Value.int IntKind.i64 x.Command.Size, Value.bool x.Decided] :
                    Array Value },
                Value.bool false] :
            Array Value } =
        Value.tuple
          #[Value.agg
              {
                toList :=
                  [Value.int IntKind.i64 (learned x c).fst.Promised.N, Value.int IntKind.i64 (learned x c).fst.Promised.Client, Value.int IntKind.i64 (learned x c).fst.Accepted.N,
                    Value.int IntKind.i64 (learned x c).fst.Accepted.Client, Value.int IntKind.i64 (learned x c).fst.Command.Kind,
                    Value.int IntKind.i64 (learned x c).fst.Command.Client, Value.int IntKind.i64 (learned x c).fst.Command.Op, Value.string (learned x c).fst.Command.Name,
                    Value.int IntKind.i64 (learned x c).fst.Command.File.Client, Value.int IntKind.i64 (learned x c).fst.Command.File.Op,
                    Value.int IntKind.i64 (learned x c).fst.Command.New.Client, Value.int IntKind.i64 (learned x c).fst.Command.New.Op,
                    Value.int IntKind.i64 (learned x c).fst.Command.Size, Value.bool (learned x c).fst.Decided] :
                Array Value },
            Value.bool (learned x c).snd])
      (Value.tuple
          {
            toList :=
              [Value.agg
                  {
                    toList :=
                      [Value.int IntKind.i64 (0 : Int), Value.int IntKind.i64 (0 : Int), Value.int IntKind.i64 (0 : Int), Value.int IntKind.i64 (0 : Int), Value.int IntKind.i64 c.Kind,
                        Value.int IntKind.i64 c.Client, Value.int IntKind.i64 c.Op, Value.string c.Name, Value.int IntKind.i64 c.File.Client, Value.int IntKind.i64 c.File.Op,
                        Value.int IntKind.i64 c.New.Client, Value.int IntKind.i64 c.New.Op, Value.int IntKind.i64 c.Size, Value.bool true] :
                    Array Value },
                Value.bool true] :
            Array Value } =
        Value.tuple
          #[Value.agg
              {
                toList :=
                  [Value.int IntKind.i64 (learned x c).fst.Promised.N, Value.int IntKind.i64 (learned x c).fst.Promised.Client, Value.int IntKind.i64 (learned x c).fst.Accepted.N,
                    Value.int IntKind.i64 (learned x c).fst.Accepted.Client, Value.int IntKind.i64 (learned x c).fst.Command.Kind,
                    Value.int IntKind.i64 (learned x c).fst.Command.Client, Value.int IntKind.i64 (learned x c).fst.Command.Op, Value.string (learned x c).fst.Command.Name,
                    Value.int IntKind.i64 (learned x c).fst.Command.File.Client, Value.int IntKind.i64 (learned x c).fst.Command.File.Op,
                    Value.int IntKind.i64 (learned x c).fst.Command.New.Client, Value.int IntKind.i64 (learned x c).fst.Command.New.Op,
                    Value.int IntKind.i64 (learned x c).fst.Command.Size, Value.bool (learned x c).fst.Decided] :
                Array Value },
            Value.bool (learned x c).snd])) (by kernel_rfl) ?_
  have go : ∀ r, learned x c = r → retL r = retL (learned x c) := fun r h => h ▸ rfl
  exact bsplit_iff.2 ⟨fun h => go (x, false) (by simp [learned, h]), fun h => go (⟨st0, st0, c, true⟩, true) (by simp [learned, h])⟩
end Go.Acc
