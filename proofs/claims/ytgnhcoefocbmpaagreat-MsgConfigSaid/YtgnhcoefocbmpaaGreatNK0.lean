/- The functions that the known run of messages goes through; the deferred one does nothing if nobody panics. -/
import Derived.Test.YtgnhcoefocbmpaaGreatXDF
import Derived.Test.YtgnhcoefocbmpaaGreatXSH
import Derived.Test.YtgnhcoefocbmpaaGreatXSS
import Derived.Test.YtgnhcoefocbmpaaGreatXVN
import Derived.Lib.Bytealg
import Derived.Laws.Externs
import Derived.Test.YtgnhcoefocbmpaaGreatProg
import Derived.Recover
set_option linter.unusedSimpArgs false
set_option linter.unusedVariables false
set_option linter.unusedSectionVars false
set_option maxRecDepth 100000
namespace Go.Msg
open Go Go.X Go.Proofs
variable [WI]

noncomputable def mFns : List (Nat × Func) := [(15, Tryz.f15), (17, Tryz.f17), (20, Tryz.f20), (23, Tryz.f23), (24, Tryz.f24), (26, Tryz.f26), (28, Tryz.f28), (57, Tryz.f57), (58, Tryz.f58), (64, Tryz.f64), (68, Tryz.f68), (69, Tryz.f69), (70, Tryz.f70), (71, Tryz.f71), (72, Tryz.f72), (73, Tryz.f73), (75, Tryz.f75), (76, Tryz.f76), (77, Tryz.f77), (79, Tryz.f79), (82, Tryz.f82), (84, Tryz.f84), (85, Tryz.f85), (89, Tryz.f89), (91, Tryz.f91), (92, Tryz.f92), (97, Tryz.f97), (100, Tryz.f100), (103, Tryz.f103), (104, Tryz.f104), (111, Tryz.f111), (112, Tryz.f112), (115, Tryz.f115), (116, Tryz.f116), (117, Tryz.f117), (118, Tryz.f118), (135, Tryz.f135), (136, Tryz.f136), (137, Tryz.f137), (138, Tryz.f138), (139, Tryz.f139), (140, Tryz.f140), (141, Tryz.f141), (142, Tryz.f142), (143, Tryz.f143), (144, Tryz.f144), (145, Tryz.f145), (146, Tryz.f146), (147, Tryz.f147), (148, Tryz.f148), (149, Tryz.f149), (150, Tryz.f150), (151, Tryz.f151), (152, Tryz.f152), (153, Tryz.f153), (158, Tryz.f158), (160, Tryz.f160), (161, Tryz.f161), (165, Tryz.f165), (166, Tryz.f166), (167, Tryz.f167), (171, Tryz.f171), (172, Tryz.f172), (173, Tryz.f173), (174, Tryz.f174), (176, Tryz.f176), (177, Tryz.f177), (178, Tryz.f178), (185, Tryz.f185), (194, Tryz.f194), (195, Tryz.f195), (196, Tryz.f196), (197, Tryz.f197), (198, Tryz.f198), (199, Tryz.f199), (200, Tryz.f200), (201, Tryz.f201), (202, Tryz.f202), (203, Tryz.f203), (204, Tryz.f204), (205, Tryz.f205), (206, Tryz.f206), (207, Tryz.f207), (208, Tryz.f208), (209, Tryz.f209), (211, Tryz.f211), (215, Tryz.f215), (216, Tryz.f216), (217, Tryz.f217), (218, Tryz.f218), (219, Tryz.f219), (220, Tryz.f220), (221, Tryz.f221), (222, Tryz.f222), (223, Tryz.f223), (224, Tryz.f224), (229, Tryz.f229), (230, Tryz.f230), (231, Tryz.f231), (232, Tryz.f232), (233, Tryz.f233), (234, Tryz.f234), (235, Tryz.f235), (236, Tryz.f236), (237, Tryz.f237), (238, Tryz.f238), (239, Tryz.f239), (240, Tryz.f240), (241, Tryz.f241), (242, Tryz.f242), (243, Tryz.f243), (244, Tryz.f244), (245, Tryz.f245), (246, Tryz.f246), (247, Tryz.f247), (248, Tryz.f248), (249, Tryz.f249), (250, Tryz.f250), (251, Tryz.f251), (252, Tryz.f252), (253, Tryz.f253), (254, Tryz.f254), (255, Tryz.f255), (256, Tryz.f256), (257, Tryz.f257), (259, Tryz.f259), (260, Tryz.f260), (261, Tryz.f261), (262, Tryz.f262), (263, Tryz.f263), (264, Tryz.f264), (265, Tryz.f265), (266, Tryz.f266), (267, Tryz.f267), (268, Tryz.f268), (269, Tryz.f269)]
noncomputable def mDef : List (Nat × Func) := [(175, Tryz.f175)]
theorem mFns_ok : FnsOK Tryz.prog mFns :=
  .cons (by kernel_rfl) (by kernel_rfl) (by kernel_rfl) <|
  .cons (by kernel_rfl) (by kernel_rfl) (by kernel_rfl) <|
  .cons (by kernel_rfl) (by kernel_rfl) (by kernel_rfl) <|
  .cons (by kernel_rfl) (by kernel_rfl) (by kernel_rfl) <|
  .cons (by kernel_rfl) (by kernel_rfl) (by kernel_rfl) <|
  .cons (by kernel_rfl) (by kernel_rfl) (by kernel_rfl) <|
  .cons (by kernel_rfl) (by kernel_rfl) (by kernel_rfl) <|
  .cons (by kernel_rfl) (by kernel_rfl) (by kernel_rfl) <|
  .cons (by kernel_rfl) (by kernel_rfl) (by kernel_rfl) <|
  .cons (by kernel_rfl) (by kernel_rfl) (by kernel_rfl) <|
  .cons (by kernel_rfl) (by kernel_rfl) (by kernel_rfl) <|
  .cons (by kernel_rfl) (by kernel_rfl) (by kernel_rfl) <|
  .cons (by kernel_rfl) (by kernel_rfl) (by kernel_rfl) <|
  .cons (by kernel_rfl) (by kernel_rfl) (by kernel_rfl) <|
  .cons (by kernel_rfl) (by kernel_rfl) (by kernel_rfl) <|
  .cons (by kernel_rfl) (by kernel_rfl) (by kernel_rfl) <|
  .cons (by kernel_rfl) (by kernel_rfl) (by kernel_rfl) <|
  .cons (by kernel_rfl) (by kernel_rfl) (by kernel_rfl) <|
  .cons (by kernel_rfl) (by kernel_rfl) (by kernel_rfl) <|
  .cons (by kernel_rfl) (by kernel_rfl) (by kernel_rfl) <|
  .cons (by kernel_rfl) (by kernel_rfl) (by kernel_rfl) <|
  .cons (by kernel_rfl) (by kernel_rfl) (by kernel_rfl) <|
  .cons (by kernel_rfl) (by kernel_rfl) (by kernel_rfl) <|
  .cons (by kernel_rfl) (by kernel_rfl) (by kernel_rfl) <|
  .cons (by kernel_rfl) (by kernel_rfl) (by kernel_rfl) <|
  .cons (by kernel_rfl) (by kernel_rfl) (by kernel_rfl) <|
  .cons (by kernel_rfl) (by kernel_rfl) (by kernel_rfl) <|
  .cons (by kernel_rfl) (by kernel_rfl) (by kernel_rfl) <|
  .cons (by kernel_rfl) (by kernel_rfl) (by kernel_rfl) <|
  .cons (by kernel_rfl) (by kernel_rfl) (by kernel_rfl) <|
  .cons (by kernel_rfl) (by kernel_rfl) (by kernel_rfl) <|
  .cons (by kernel_rfl) (by kernel_rfl) (by kernel_rfl) <|
  .cons (by kernel_rfl) (by kernel_rfl) (by kernel_rfl) <|
  .cons (by kernel_rfl) (by kernel_rfl) (by kernel_rfl) <|
  .cons (by kernel_rfl) (by kernel_rfl) (by kernel_rfl) <|
  .cons (by kernel_rfl) (by kernel_rfl) (by kernel_rfl) <|
  .cons (by kernel_rfl) (by kernel_rfl) (by kernel_rfl) <|
  .cons (by kernel_rfl) (by kernel_rfl) (by kernel_rfl) <|
  .cons (by kernel_rfl) (by kernel_rfl) (by kernel_rfl) <|
  .cons (by kernel_rfl) (by kernel_rfl) (by kernel_rfl) <|
  .cons (by kernel_rfl) (by kernel_rfl) (by kernel_rfl) <|
  .cons (by kernel_rfl) (by kernel_rfl) (by kernel_rfl) <|
  .cons (by kernel_rfl) (by kernel_rfl) (by kernel_rfl) <|
  .cons (by kernel_rfl) (by kernel_rfl) (by kernel_rfl) <|
  .cons (by kernel_rfl) (by kernel_rfl) (by kernel_rfl) <|
  .cons (by kernel_rfl) (by kernel_rfl) (by kernel_rfl) <|
  .cons (by kernel_rfl) (by kernel_rfl) (by kernel_rfl) <|
  .cons (by kernel_rfl) (by kernel_rfl) (by kernel_rfl) <|
  .cons (by kernel_rfl) (by kernel_rfl) (by kernel_rfl) <|
  .cons (by kernel_rfl) (by kernel_rfl) (by kernel_rfl) <|
  .cons (by kernel_rfl) (by kernel_rfl) (by kernel_rfl) <|
  .cons (by kernel_rfl) (by kernel_rfl) (by kernel_rfl) <|
  .cons (by kernel_rfl) (by kernel_rfl) (by kernel_rfl) <|
  .cons (by kernel_rfl) (by kernel_rfl) (by kernel_rfl) <|
  .cons (by kernel_rfl) (by kernel_rfl) (by kernel_rfl) <|
  .cons (by kernel_rfl) (by kernel_rfl) (by kernel_rfl) <|
  .cons (by kernel_rfl) (by kernel_rfl) (by kernel_rfl) <|
  .cons (by kernel_rfl) (by kernel_rfl) (by kernel_rfl) <|
  .cons (by kernel_rfl) (by kernel_rfl) (by kernel_rfl) <|
  .cons (by kernel_rfl) (by kernel_rfl) (by kernel_rfl) <|
  .cons (by kernel_rfl) (by kernel_rfl) (by kernel_rfl) <|
  .cons (by kernel_rfl) (by kernel_rfl) (by kernel_rfl) <|
  .cons (by kernel_rfl) (by kernel_rfl) (by kernel_rfl) <|
  .cons (by kernel_rfl) (by kernel_rfl) (by kernel_rfl) <|
  .cons (by kernel_rfl) (by kernel_rfl) (by kernel_rfl) <|
  .cons (by kernel_rfl) (by kernel_rfl) (by kernel_rfl) <|
  .cons (by kernel_rfl) (by kernel_rfl) (by kernel_rfl) <|
  .cons (by kernel_rfl) (by kernel_rfl) (by kernel_rfl) <|
  .cons (by kernel_rfl) (by kernel_rfl) (by kernel_rfl) <|
  .cons (by kernel_rfl) (by kernel_rfl) (by kernel_rfl) <|
  .cons (by kernel_rfl) (by kernel_rfl) (by kernel_rfl) <|
  .cons (by kernel_rfl) (by kernel_rfl) (by kernel_rfl) <|
  .cons (by kernel_rfl) (by kernel_rfl) (by kernel_rfl) <|
  .cons (by kernel_rfl) (by kernel_rfl) (by kernel_rfl) <|
  .cons (by kernel_rfl) (by kernel_rfl) (by kernel_rfl) <|
  .cons (by kernel_rfl) (by kernel_rfl) (by kernel_rfl) <|
  .cons (by kernel_rfl) (by kernel_rfl) (by kernel_rfl) <|
  .cons (by kernel_rfl) (by kernel_rfl) (by kernel_rfl) <|
  .cons (by kernel_rfl) (by kernel_rfl) (by kernel_rfl) <|
  .cons (by kernel_rfl) (by kernel_rfl) (by kernel_rfl) <|
  .cons (by kernel_rfl) (by kernel_rfl) (by kernel_rfl) <|
  .cons (by kernel_rfl) (by kernel_rfl) (by kernel_rfl) <|
  .cons (by kernel_rfl) (by kernel_rfl) (by kernel_rfl) <|
  .cons (by kernel_rfl) (by kernel_rfl) (by kernel_rfl) <|
  .cons (by kernel_rfl) (by kernel_rfl) (by kernel_rfl) <|
  .cons (by kernel_rfl) (by kernel_rfl) (by kernel_rfl) <|
  .cons (by kernel_rfl) (by kernel_rfl) (by kernel_rfl) <|
  .cons (by kernel_rfl) (by kernel_rfl) (by kernel_rfl) <|
  .cons (by kernel_rfl) (by kernel_rfl) (by kernel_rfl) <|
  .cons (by kernel_rfl) (by kernel_rfl) (by kernel_rfl) <|
  .cons (by kernel_rfl) (by kernel_rfl) (by kernel_rfl) <|
  .cons (by kernel_rfl) (by kernel_rfl) (by kernel_rfl) <|
  .cons (by kernel_rfl) (by kernel_rfl) (by kernel_rfl) <|
  .cons (by kernel_rfl) (by kernel_rfl) (by kernel_rfl) <|
  .cons (by kernel_rfl) (by kernel_rfl) (by kernel_rfl) <|
  .cons (by kernel_rfl) (by kernel_rfl) (by kernel_rfl) <|
  .cons (by kernel_rfl) (by kernel_rfl) (by kernel_rfl) <|
  .cons (by kernel_rfl) (by kernel_rfl) (by kernel_rfl) <|
  .cons (by kernel_rfl) (by kernel_rfl) (by kernel_rfl) <|
  .cons (by kernel_rfl) (by kernel_rfl) (by kernel_rfl) <|
  .cons (by kernel_rfl) (by kernel_rfl) (by kernel_rfl) <|
  .cons (by kernel_rfl) (by kernel_rfl) (by kernel_rfl) <|
  .cons (by kernel_rfl) (by kernel_rfl) (by kernel_rfl) <|
  .cons (by kernel_rfl) (by kernel_rfl) (by kernel_rfl) <|
  .cons (by kernel_rfl) (by kernel_rfl) (by kernel_rfl) <|
  .cons (by kernel_rfl) (by kernel_rfl) (by kernel_rfl) <|
  .cons (by kernel_rfl) (by kernel_rfl) (by kernel_rfl) <|
  .cons (by kernel_rfl) (by kernel_rfl) (by kernel_rfl) <|
  .cons (by kernel_rfl) (by kernel_rfl) (by kernel_rfl) <|
  .cons (by kernel_rfl) (by kernel_rfl) (by kernel_rfl) <|
  .cons (by kernel_rfl) (by kernel_rfl) (by kernel_rfl) <|
  .cons (by kernel_rfl) (by kernel_rfl) (by kernel_rfl) <|
  .cons (by kernel_rfl) (by kernel_rfl) (by kernel_rfl) <|
  .cons (by kernel_rfl) (by kernel_rfl) (by kernel_rfl) <|
  .cons (by kernel_rfl) (by kernel_rfl) (by kernel_rfl) <|
  .cons (by kernel_rfl) (by kernel_rfl) (by kernel_rfl) <|
  .cons (by kernel_rfl) (by kernel_rfl) (by kernel_rfl) <|
  .cons (by kernel_rfl) (by kernel_rfl) (by kernel_rfl) <|
  .cons (by kernel_rfl) (by kernel_rfl) (by kernel_rfl) <|
  .cons (by kernel_rfl) (by kernel_rfl) (by kernel_rfl) <|
  .cons (by kernel_rfl) (by kernel_rfl) (by kernel_rfl) <|
  .cons (by kernel_rfl) (by kernel_rfl) (by kernel_rfl) <|
  .cons (by kernel_rfl) (by kernel_rfl) (by kernel_rfl) <|
  .cons (by kernel_rfl) (by kernel_rfl) (by kernel_rfl) <|
  .cons (by kernel_rfl) (by kernel_rfl) (by kernel_rfl) <|
  .cons (by kernel_rfl) (by kernel_rfl) (by kernel_rfl) <|
  .cons (by kernel_rfl) (by kernel_rfl) (by kernel_rfl) <|
  .cons (by kernel_rfl) (by kernel_rfl) (by kernel_rfl) <|
  .cons (by kernel_rfl) (by kernel_rfl) (by kernel_rfl) <|
  .cons (by kernel_rfl) (by kernel_rfl) (by kernel_rfl) <|
  .cons (by kernel_rfl) (by kernel_rfl) (by kernel_rfl) <|
  .cons (by kernel_rfl) (by kernel_rfl) (by kernel_rfl) <|
  .cons (by kernel_rfl) (by kernel_rfl) (by kernel_rfl) <|
  .cons (by kernel_rfl) (by kernel_rfl) (by kernel_rfl) <|
  .cons (by kernel_rfl) (by kernel_rfl) (by kernel_rfl) <|
  .cons (by kernel_rfl) (by kernel_rfl) (by kernel_rfl) <|
  .nil
theorem mDef_ok : FnsOK Tryz.prog mDef := .cons (by kernel_rfl) (by kernel_rfl) (by kernel_rfl) .nil

theorem q210 (args : Array Value) (w : World) (h : args.size = 3) : CallsD Tryz.prog 210 args .returning w fun e u' w' => u' = .returning ∧ (∃ v, e = .returned v) ∧ w' = w := by
  obtain ⟨l⟩ := args
  match l, h with
  | [a, b, c], _ =>
    refine callsD_of_wpS Tryz.func210 rfl fun c₀ cs hu => ?_
    apply wpS_seq
    apply wpS_region
    simp [wpOpsS, go_sem, recoverD, hu, Tryz.ntmps210, Exit.thenS]
    refine wpS_of_wp (wp_block (wp_seq (wp_region_list ?_)))
    refine wpList_step fun K hK => ?_
    rw [if_pos (by simp [Region.wanted])]
    have hrun : ∀ (a : Act) (w : World), a.eval (.tmp 6) = .nilIface → (execOp a.eval { dst := some 8, op := Op.binOp BinOp.eql 20 (Operand.tmp 6) (Operand.const Value.nilIface) 20, type := 4, pos := "wire.go:76", after := #[], guard := none }).run Tryz.prog w = .ok (.value (.bool true)) w := by
      intro a w h
      simp only [execOp, h]
      simp [Act.eval, go_sem]
    unfold Oper.wp
    rw [hrun _ _ (by simp [Act.eval, Array.replicate, Act.put])]
    simp only [Oper.upon]
    refine hK _ _ ?_
    unfold wpList
    refine wp_cond_true (by simp [Act.eval, Array.replicate, Act.put]) ?_
    refine wp_region_list (wpList_step fun K2 hK2 => ?_)
    rw [if_pos (by simp [Region.wanted])]
    unfold Oper.wp
    simp only [execOp, Sem.run_pure, Oper.upon]
    refine hK2 _ _ ?_
    unfold wpList
    cases c₀
    simp_all [bodyPostS, results, Tryz.results210, Exit.inBlock, Act.put]
theorem enter_of {f : FuncId} (hc : Callable Tryz.prog f) (xs : Array Value) (w : World) : (callFunc f xs).run Tryz.prog w = .ok (.enter f xs) w := by
  obtain ⟨fn, hf, hb, hn⟩ := hc
  obtain ⟨c, hc⟩ := Option.isSome_iff_exists.1 hb
  have hb' : fn.body.isNone = false := by rw [hc]; rfl
  simp only [callFunc, Sem.run_bind, run_program, Result.andThen_ok, hf, hn, hb', Bool.false_eq_true, if_false, Sem.run_pure]
theorem quiet210 : Quiet Tryz.prog 210 3 := ⟨fun args w => enter_of ⟨Tryz.f210, Tryz.func210, by kernel_rfl, by kernel_rfl⟩ args w, fun args w h => q210 args w h⟩
def idxX : ExtS := fun args => match args with | [.string s, .int .u8 c] => .val (.int .i64 (Lib.indexByte s.data.toList c.toNat.toUInt8)) | _ => .bad
def kExt : List (Nat × ExtS) := [(270, idxX)]
theorem idx_ok : ExtOK Tryz.prog 270 idxX := by
  intro args v hg env w
  unfold idxX at hg
  split at hg
  · rename_i s c
    rw [Gives.val_iff] at hg
    subst hg
    rw [run_callFunc_extern (P := Tryz.prog) (f := 270) (fn := Tryz.f270) (e := Extern.BytealgIndexByte.indexByte) (by kernel_rfl) (by kernel_rfl) (by kernel_rfl) (by kernel_rfl) (by kernel_rfl)]
    simp [Lib.run_indexByteString, Result.andThen]
  · exact (Gives.bad.1 hg).elim
theorem kExt_ok : AllX Tryz.prog kExt := .cons idx_ok .nil
theorem callable {f : FuncId} {fn : Func} (h : Tryz.prog.funcs[f]? = some fn) (hb : fn.body.isSome = true) (hn : (fn.name == "runtime.NumGoroutine") = false) : Callable Tryz.prog f := ⟨fn, h, hb, hn⟩
structure Is (p : Prop) : Prop where
  out : p
structure QSt (S S' : VSt) : Prop where
  eq : S = S'
theorem w64 (n : Int) (h : -9223372036854775808 ≤ n ∧ n ≤ 9223372036854775807) : IntKind.i64.wrap n = n := by rw [IntKind.wrap_i64]; omega
theorem scA {args : List Value} {n : Nat} (h : args.all (scB n 6) = true) : ∀ x ∈ args, Sc n x := fun v hv => scB_ok 6 v (List.all_eq_true.1 h v hv)
def mQ (f : FuncId) : Option Nat := match f with | 210 => some 3 | _ => none
theorem mQ_ok (f : FuncId) (n : Nat) (h : mQ f = some n) : Quiet Tryz.prog f n := by
  unfold mQ at h
  split at h
  · cases h; exact quiet210
  · cases h
noncomputable def mC (cs : List (Nat × CallS)) (k : Nat) : Ctx := X.runT Tryz.prog cs mQ mFns mDef [] kExt k
theorem mC_ok {cs : List (Nat × CallS)} (hc : AllC Tryz.prog cs) (k : Nat) : CtxOK Tryz.prog (mC cs k) := runT_ok hc mFns_ok mDef_ok .nil kExt_ok mQ_ok k
theorem mB (cs : List (Nat × CallS)) (k : Nat) (c : Code) : BlksOK Tryz.prog (mC cs k) c := BlksOK.none (runT_blk k)
end Go.Msg
