/- MsgConfig: the law's function over the contracts: a configuration that is not right is refused by each of the calls. -/
import Derived.Test.YtgnhcoefocbmpaaGreatNB1
import Derived.Test.YtgnhcoefocbmpaaGreatNN4
set_option linter.unusedSimpArgs false
set_option linter.unusedVariables false
set_option linter.unusedSectionVars false
set_option maxRecDepth 100000
namespace Go.Msg
open Go Go.X Go.Proofs
variable [WI]
noncomputable def fsX : List (Nat × FnS) := [(20, g0 (.bool true)), (138, g138), (150, g150), (151, gName), (152, g152), (153, g153), (160, g160), (165, g165), (77, g77), (158, g158)]
theorem fsX_ok : AllF Tryz.prog fsX := .cons known_ok (.cons ok138 (.cons ok150 (.cons ok151 (.cons ok152 (.cons ok153 (.cons ok160 (.cons ok165 (.cons ok77 (.cons ok158 .nil)))))))))
noncomputable def cs0 : List (Nat × CallS) := [(68, viewN [(3, 1)] noT), (79, viewN [(131, 4), (133, 7), (3, 1)] bkT)]
theorem cs0_ok : AllC Tryz.prog cs0 := .cons (no_ok.viewedN _) (.cons (bucket_ok.viewedN _) .nil)
noncomputable def cK0 : Ctx := ctxG fsX cs0 []
theorem cK0_ok : CtxOK Tryz.prog cK0 := ctxG_ok fsX_ok cs0_ok
theorem i0 (f : Nat) (fn : Func) (n : Nat) (c : Code) (hf : Tryz.prog.funcs[f]? = some fn) (hb : fn.body = some c) (hn : (fn.name == "runtime.NumGoroutine") = false) : CallOK Tryz.prog f (inl Tryz.prog cK0 n fn) :=
  inl_ok cK0_ok n ⟨fn, hf, by rw [hb]; rfl, hn⟩ hf hb (BlksOK.none fun _ => rfl)
noncomputable def cs1a : List (Nat × CallS) := [(161, inl Tryz.prog cK0 300 Tryz.f161)]
theorem cs1a_ok : AllC Tryz.prog cs1a := .cons (i0 161 _ 300 _ Tryz.func161 rfl (by decide +kernel)) .nil
noncomputable def cK0a : Ctx := ctxG fsX cs1a []
theorem cK0a_ok : CtxOK Tryz.prog cK0a := ctxG_ok fsX_ok cs1a_ok
noncomputable def cs1 : List (Nat × CallS) := (70, inl Tryz.prog cK0 300 Tryz.f70) :: (81, inl Tryz.prog cK0 300 Tryz.f81) :: (82, inl Tryz.prog cK0a 300 Tryz.f82) :: (89, inl Tryz.prog cK0 300 Tryz.f89) :: (23, inl Tryz.prog cK0 300 Tryz.f23) :: cs0
theorem cs1_ok : AllC Tryz.prog cs1 := .cons (i0 70 _ 300 _ Tryz.func70 rfl (by decide +kernel)) (.cons (i0 81 _ 300 _ Tryz.func81 rfl (by decide +kernel))
  (.cons (ext_inl cK0a_ok (fun _ => rfl) 82 _ 300 _ Tryz.func82 rfl (by decide +kernel)) (.cons (i0 89 _ 300 _ Tryz.func89 rfl (by decide +kernel)) (.cons (i0 23 _ 300 _ Tryz.func23 rfl (by decide +kernel)) cs0_ok))))
noncomputable def cK1 : Ctx := ctxG fsX cs1 []
theorem cK1_ok : CtxOK Tryz.prog cK1 := ctxG_ok fsX_ok cs1_ok
theorem i1 (f : Nat) (fn : Func) (n : Nat) (c : Code) (hf : Tryz.prog.funcs[f]? = some fn) (hb : fn.body = some c) (hn : (fn.name == "runtime.NumGoroutine") = false) : CallOK Tryz.prog f (inl Tryz.prog cK1 n fn) :=
  inl_ok cK1_ok n ⟨fn, hf, by rw [hb]; rfl, hn⟩ hf hb (BlksOK.none fun _ => rfl)
noncomputable def cs2 : List (Nat × CallS) := [(51, viewN [(3, 1)] okT), (15, inl Tryz.prog cK1 300 Tryz.f15), (24, inl Tryz.prog cK1 300 Tryz.f24), (35, inl Tryz.prog cK1 300 Tryz.f35), (44, inl Tryz.prog cK1 300 Tryz.f44),
  (38, inl Tryz.prog cK1 300 Tryz.f38), (49, inl Tryz.prog cK1 300 Tryz.f49), (40, inl Tryz.prog cK1 300 Tryz.f40), (42, inl Tryz.prog cK1 300 Tryz.f42), (23, inl Tryz.prog cK1 300 Tryz.f23), (28, inl Tryz.prog cK1 300 Tryz.f28), (31, inl Tryz.prog cK1 300 Tryz.f31)]
theorem cs2_ok : AllC Tryz.prog cs2 := .cons (fits_ok.viewedN _) (.cons (i1 15 _ 300 _ Tryz.func15 rfl (by decide +kernel)) (.cons (i1 24 _ 300 _ Tryz.func24 rfl (by decide +kernel)) (.cons (i1 35 _ 300 _ Tryz.func35 rfl (by decide +kernel)) (.cons (i1 44 _ 300 _ Tryz.func44 rfl (by decide +kernel))
  (.cons (i1 38 _ 300 _ Tryz.func38 rfl (by decide +kernel)) (.cons (i1 49 _ 300 _ Tryz.func49 rfl (by decide +kernel)) (.cons (i1 40 _ 300 _ Tryz.func40 rfl (by decide +kernel)) (.cons (i1 42 _ 300 _ Tryz.func42 rfl (by decide +kernel)) (.cons (i1 23 _ 300 _ Tryz.func23 rfl (by decide +kernel)) (.cons (i1 28 _ 300 _ Tryz.func28 rfl (by decide +kernel)) (.cons (i1 31 _ 300 _ Tryz.func31 rfl (by decide +kernel)) .nil)))))))))))
/-- a message, but for its lists: the head's numbers, the stamps, the command, the mark -/
structure Mh where
  k : Int
  fc : Bool
  fi : Int
  tc : Bool
  ti : Int
  op : Int
  rd : Int
  kk : Int
  ka : Int
  kb : Int
  kc : Int
  sn : Int
  sc : Int
  hn : Int
  hc : Int
  x : Cm
  u : Int
  more : Bool
def Mh.cells (m : Mh) (blk ens lss cms : Value) : List Value := [.int .i64 m.k, .bool m.fc, .int .i64 m.fi, .bool m.tc, .int .i64 m.ti, .int .i64 m.op, .int .i64 m.rd, .int .i64 m.kk, .int .i64 m.ka, .int .i64 m.kb, .int .i64 m.kc,
  .int .i64 m.sn, .int .i64 m.sc, .int .i64 m.hn, .int .i64 m.hc, blk, .int .i64 m.x.k, .int .i64 m.x.cl, .int .i64 m.x.op, .string m.x.nm, .int .i64 m.x.f1, .int .i64 m.x.f2, .int .i64 m.x.n1, .int .i64 m.x.n2, .int .i64 m.x.sz,
  .int .i64 m.u, ens, lss, cms, .bool m.more]
def sl3 (p n : Nat) : Value := .slice (some ⟨p, 3, some 0⟩) n 0
theorem config_does (c : Cf) (m : Mh) (nb : Nat) (fb : Nat → List Value) (n1 : Nat) (e : Nat → En) (n2 : Nat) (l : Nat → Ls) (nc : Nat) (fc : Nat → List Value) (n : Nat) (f : Nat → List Value) (hf : (⟨m.u, n1, e, n2, l⟩ : Bk).Fit) :
    CallDoes Tryz.prog 11 [.agg ⟨c.cells 0⟩, .agg ⟨m.cells (sl3 1 nb) (sl3 2 n1) (sl3 3 n2) (sl3 4 nc)⟩, sl3 5 n]
      ([c.V, .arg 5 1 nb fb] ++ (⟨m.u, n1, e, n2, l⟩ : Bk).V ++ [.arg 37 9 nc fc, .arg 5 1 n f]) fun v _ => BoolV true v := by
  refine of_run (ctxG_ok (bs := []) fsX_ok cs2_ok) (n := 300) Tryz.func11 rfl (BlksOK.none fun _ => rfl) ?_
  refine by_nf (B := (0 : Nat) + c.n ≤ c.n ∧
    Is (c.n = c.n ∧
    IntsF c.n (shiftF (0 : Nat) fun r => [Value.int IntKind.i64 (c.s r)])) ∧
    bsplit (vkV c.F c.P c.B c.L c.R c.n (shiftF (0 : Nat) fun r => [Value.int IntKind.i64 (c.s r)])).ok (BoolV true (Value.bool true)) ((0 : Nat) + c.n ≤ c.n ∧
    Is (c.n = c.n ∧
    IntsF c.n (shiftF (0 : Nat) fun r => [Value.int IntKind.i64 (c.s r)]) ∧
    (vkV c.F c.P c.B c.L c.R c.n (shiftF (0 : Nat) fun r => [Value.int IntKind.i64 (c.s r)])).ok = false) ∧
    (0 : Nat) + c.n ≤ c.n ∧
    Is (c.n = c.n ∧
    IntsF c.n (shiftF (0 : Nat) fun r => [Value.int IntKind.i64 (c.s r)]) ∧
    (vkV c.F c.P c.B c.L c.R c.n (shiftF (0 : Nat) fun r => [Value.int IntKind.i64 (c.s r)])).ok = false) ∧
    bsplit ((↑(0 : Nat) : Int) == c.L) (Value.agg { toList := [Value.slice (some ⟨0, 3, some 0⟩) c.n (0 : Nat), Value.int IntKind.i64 c.F, Value.int IntKind.i64 c.P, Value.int IntKind.i64 c.B, Value.int IntKind.i64 c.L, Value.int IntKind.i64 c.R] : Array Value } = Value.agg { toList := [Value.slice (some ⟨0, 3, some 0⟩) c.n (0 : Nat), Value.int IntKind.i64 c.F, Value.int IntKind.i64 c.P, Value.int IntKind.i64 c.B, Value.int IntKind.i64 c.L, Value.int IntKind.i64 c.R] : Array Value } ∧
    Value.func (Fn.func (83 : Nat)) { toList := [] : Array Value } { toList := [Value.pointer (some ⟨17, 0, none⟩)] : Array Value } = Value.func (Fn.func (83 : Nat)) { toList := [] : Array Value } { toList := [Value.pointer (some ⟨17, 0, none⟩)] : Array Value } ∧
    (0 : Nat) + c.n ≤ c.n ∧
    Is (c.n = c.n ∧
    IntsF c.n (shiftF (0 : Nat) fun r => [Value.int IntKind.i64 (c.s r)]) ∧
    (vkV c.F c.P c.B c.L c.R c.n (shiftF (0 : Nat) fun r => [Value.int IntKind.i64 (c.s r)])).ok = false) ∧
    (0 : Nat) + c.n ≤ c.n ∧
    Is (c.n = c.n ∧
    IntsF c.n (shiftF (0 : Nat) fun r => [Value.int IntKind.i64 (c.s r)]) ∧
    (vkV c.F c.P c.B c.L c.R c.n (shiftF (0 : Nat) fun r => [Value.int IntKind.i64 (c.s r)])).ok = false) ∧
    Value.agg { toList := [Value.slice (some ⟨0, 3, some 0⟩) c.n (0 : Nat), Value.int IntKind.i64 c.F, Value.int IntKind.i64 c.P, Value.int IntKind.i64 c.B, Value.int IntKind.i64 c.L, Value.int IntKind.i64 c.R] : Array Value } = Value.agg { toList := [Value.slice (some ⟨0, 3, some 0⟩) c.n (0 : Nat), Value.int IntKind.i64 c.F, Value.int IntKind.i64 c.P, Value.int IntKind.i64 c.B, Value.int IntKind.i64 c.L, Value.int IntKind.i64 c.R] : Array Value } ∧
    Value.func (Fn.func (90 : Nat)) { toList := [] : Array Value } { toList := [Value.pointer (some ⟨27, 0, none⟩)] : Array Value } = Value.func (Fn.func (90 : Nat)) { toList := [] : Array Value } { toList := [Value.pointer (some ⟨27, 0, none⟩)] : Array Value } ∧
    (0 : Nat) + c.n ≤ c.n ∧
    Is (c.n = c.n ∧
    IntsF c.n (shiftF (0 : Nat) fun r => [Value.int IntKind.i64 (c.s r)]) ∧
    (vkV c.F c.P c.B c.L c.R c.n (shiftF (0 : Nat) fun r => [Value.int IntKind.i64 (c.s r)])).ok = false) ∧
    (0 : Nat) + c.n ≤ c.n ∧
    Is (c.n = c.n ∧
    IntsF c.n (shiftF (0 : Nat) fun r => [Value.int IntKind.i64 (c.s r)]) ∧
    (vkV c.F c.P c.B c.L c.R c.n (shiftF (0 : Nat) fun r => [Value.int IntKind.i64 (c.s r)])).ok = false) ∧
    (0 : Nat) + n1 ≤ { u := m.u, n1 := n1, e := e, n2 := n2, l := l : Bk }.n1 ∧
    (0 : Nat) + n2 ≤ { u := m.u, n1 := n1, e := e, n2 := n2, l := l : Bk }.n2 ∧
    (0 : Nat) + c.n ≤ c.n ∧
    Is (n1 = n1 ∧
    n2 = n2 ∧
    c.n = c.n) ∧
    Is (EnsF n1 (shiftF (0 : Nat) fun r => [Value.string ({ u := m.u, n1 := n1, e := e, n2 := n2, l := l : Bk }.e r).nm, Value.int IntKind.i64 ({ u := m.u, n1 := n1, e := e, n2 := n2, l := l : Bk }.e r).a, Value.int IntKind.i64 ({ u := m.u, n1 := n1, e := e, n2 := n2, l := l : Bk }.e r).b, Value.int IntKind.i64 ({ u := m.u, n1 := n1, e := e, n2 := n2, l := l : Bk }.e r).sz])) ∧
    Is (LssF n2 (shiftF (0 : Nat) fun r => [Value.int IntKind.i64 ({ u := m.u, n1 := n1, e := e, n2 := n2, l := l : Bk }.l r).cl, Value.int IntKind.i64 ({ u := m.u, n1 := n1, e := e, n2 := n2, l := l : Bk }.l r).op, Value.int IntKind.i64 ({ u := m.u, n1 := n1, e := e, n2 := n2, l := l : Bk }.l r).ins, Value.int IntKind.i64 ({ u := m.u, n1 := n1, e := e, n2 := n2, l := l : Bk }.l r).err, Value.int IntKind.i64 ({ u := m.u, n1 := n1, e := e, n2 := n2, l := l : Bk }.l r).f1, Value.int IntKind.i64 ({ u := m.u, n1 := n1, e := e, n2 := n2, l := l : Bk }.l r).f2, Value.int IntKind.i64 ({ u := m.u, n1 := n1, e := e, n2 := n2, l := l : Bk }.l r).sz])) ∧
    Is (IntsF c.n (shiftF (0 : Nat) fun r => [Value.int IntKind.i64 (c.s r)])) ∧
    Is (bkOf m.u n1 (shiftF (0 : Nat) fun r => [Value.string ({ u := m.u, n1 := n1, e := e, n2 := n2, l := l : Bk }.e r).nm, Value.int IntKind.i64 ({ u := m.u, n1 := n1, e := e, n2 := n2, l := l : Bk }.e r).a, Value.int IntKind.i64 ({ u := m.u, n1 := n1, e := e, n2 := n2, l := l : Bk }.e r).b, Value.int IntKind.i64 ({ u := m.u, n1 := n1, e := e, n2 := n2, l := l : Bk }.e r).sz]) n2 (shiftF (0 : Nat) fun r => [Value.int IntKind.i64 ({ u := m.u, n1 := n1, e := e, n2 := n2, l := l : Bk }.l r).cl, Value.int IntKind.i64 ({ u := m.u, n1 := n1, e := e, n2 := n2, l := l : Bk }.l r).op, Value.int IntKind.i64 ({ u := m.u, n1 := n1, e := e, n2 := n2, l := l : Bk }.l r).ins, Value.int IntKind.i64 ({ u := m.u, n1 := n1, e := e, n2 := n2, l := l : Bk }.l r).err, Value.int IntKind.i64 ({ u := m.u, n1 := n1, e := e, n2 := n2, l := l : Bk }.l r).f1, Value.int IntKind.i64 ({ u := m.u, n1 := n1, e := e, n2 := n2, l := l : Bk }.l r).f2, Value.int IntKind.i64 ({ u := m.u, n1 := n1, e := e, n2 := n2, l := l : Bk }.l r).sz])).Fit ∧
    Value.agg { toList := [Value.slice (some ⟨0, 3, some 0⟩) c.n (0 : Nat), Value.int IntKind.i64 c.F, Value.int IntKind.i64 c.P, Value.int IntKind.i64 c.B, Value.int IntKind.i64 c.L, Value.int IntKind.i64 c.R] : Array Value } = Value.agg { toList := [Value.slice (some ⟨0, 3, some 0⟩) c.n (0 : Nat), Value.int IntKind.i64 c.F, Value.int IntKind.i64 c.P, Value.int IntKind.i64 c.B, Value.int IntKind.i64 c.L, Value.int IntKind.i64 c.R] : Array Value } ∧
    Value.func (Fn.func (96 : Nat)) { toList := [] : Array Value } { toList := [Value.pointer (some ⟨37, 0, none⟩)] : Array Value } = Value.func (Fn.func (96 : Nat)) { toList := [] : Array Value } { toList := [Value.pointer (some ⟨37, 0, none⟩)] : Array Value } ∧
    (0 : Nat) + c.n ≤ c.n ∧
    Is (c.n = c.n ∧
    IntsF c.n (shiftF (0 : Nat) fun r => [Value.int IntKind.i64 (c.s r)]) ∧
    (vkV c.F c.P c.B c.L c.R c.n (shiftF (0 : Nat) fun r => [Value.int IntKind.i64 (c.s r)])).ok = false) ∧
    (0 : Nat) + c.n ≤ c.n ∧
    Is (c.n = c.n ∧
    IntsF c.n (shiftF (0 : Nat) fun r => [Value.int IntKind.i64 (c.s r)]) ∧
    (vkV c.F c.P c.B c.L c.R c.n (shiftF (0 : Nat) fun r => [Value.int IntKind.i64 (c.s r)])).ok = false) ∧
    (0 : Nat) + c.n ≤ c.n ∧
    Is (c.n = c.n ∧
    IntsF c.n (shiftF (0 : Nat) fun r => [Value.int IntKind.i64 (c.s r)]) ∧
    (vkV c.F c.P c.B c.L c.R c.n (shiftF (0 : Nat) fun r => [Value.int IntKind.i64 (c.s r)])).ok = false) ∧
    (0 : Nat) + c.n ≤ c.n ∧
    Is (c.n = c.n ∧
    IntsF c.n (shiftF (0 : Nat) fun r => [Value.int IntKind.i64 (c.s r)]) ∧
    (vkV c.F c.P c.B c.L c.R c.n (shiftF (0 : Nat) fun r => [Value.int IntKind.i64 (c.s r)])).ok = false) ∧
    (0 : Nat) + c.n ≤ c.n ∧
    Is (c.n = c.n ∧
    IntsF c.n (shiftF (0 : Nat) fun r => [Value.int IntKind.i64 (c.s r)]) ∧
    (vkV c.F c.P c.B c.L c.R c.n (shiftF (0 : Nat) fun r => [Value.int IntKind.i64 (c.s r)])).ok = false) ∧
    BoolV true (Value.bool ((20 : Int) == (20 : Int)))) (Value.agg { toList := [Value.slice (some ⟨0, 3, some 0⟩) c.n (0 : Nat), Value.int IntKind.i64 c.F, Value.int IntKind.i64 c.P, Value.int IntKind.i64 c.B, Value.int IntKind.i64 c.L, Value.int IntKind.i64 c.R] : Array Value } = Value.agg { toList := [Value.slice (some ⟨0, 3, some 0⟩) c.n (0 : Nat), Value.int IntKind.i64 c.F, Value.int IntKind.i64 c.P, Value.int IntKind.i64 c.B, Value.int IntKind.i64 c.L, Value.int IntKind.i64 c.R] : Array Value } ∧
    Value.func (Fn.func (83 : Nat)) { toList := [] : Array Value } { toList := [Value.pointer (some ⟨17, 0, none⟩)] : Array Value } = Value.func (Fn.func (83 : Nat)) { toList := [] : Array Value } { toList := [Value.pointer (some ⟨17, 0, none⟩)] : Array Value } ∧
    (0 : Nat) + c.n ≤ c.n ∧
    Is (c.n = c.n ∧
    IntsF c.n (shiftF (0 : Nat) fun r => [Value.int IntKind.i64 (c.s r)]) ∧
    (vkV c.F c.P c.B c.L c.R c.n (shiftF (0 : Nat) fun r => [Value.int IntKind.i64 (c.s r)])).ok = false) ∧
    (0 : Nat) + c.n ≤ c.n ∧
    Is (c.n = c.n ∧
    IntsF c.n (shiftF (0 : Nat) fun r => [Value.int IntKind.i64 (c.s r)]) ∧
    (vkV c.F c.P c.B c.L c.R c.n (shiftF (0 : Nat) fun r => [Value.int IntKind.i64 (c.s r)])).ok = false) ∧
    Value.agg { toList := [Value.slice (some ⟨0, 3, some 0⟩) c.n (0 : Nat), Value.int IntKind.i64 c.F, Value.int IntKind.i64 c.P, Value.int IntKind.i64 c.B, Value.int IntKind.i64 c.L, Value.int IntKind.i64 c.R] : Array Value } = Value.agg { toList := [Value.slice (some ⟨0, 3, some 0⟩) c.n (0 : Nat), Value.int IntKind.i64 c.F, Value.int IntKind.i64 c.P, Value.int IntKind.i64 c.B, Value.int IntKind.i64 c.L, Value.int IntKind.i64 c.R] : Array Value } ∧
    Value.func (Fn.func (90 : Nat)) { toList := [] : Array Value } { toList := [Value.pointer (some ⟨27, 0, none⟩)] : Array Value } = Value.func (Fn.func (90 : Nat)) { toList := [] : Array Value } { toList := [Value.pointer (some ⟨27, 0, none⟩)] : Array Value } ∧
    (0 : Nat) + c.n ≤ c.n ∧
    Is (c.n = c.n ∧
    IntsF c.n (shiftF (0 : Nat) fun r => [Value.int IntKind.i64 (c.s r)]) ∧
    (vkV c.F c.P c.B c.L c.R c.n (shiftF (0 : Nat) fun r => [Value.int IntKind.i64 (c.s r)])).ok = false) ∧
    (0 : Nat) + c.n ≤ c.n ∧
    Is (c.n = c.n ∧
    IntsF c.n (shiftF (0 : Nat) fun r => [Value.int IntKind.i64 (c.s r)]) ∧
    (vkV c.F c.P c.B c.L c.R c.n (shiftF (0 : Nat) fun r => [Value.int IntKind.i64 (c.s r)])).ok = false) ∧
    (0 : Nat) + n1 ≤ { u := m.u, n1 := n1, e := e, n2 := n2, l := l : Bk }.n1 ∧
    (0 : Nat) + n2 ≤ { u := m.u, n1 := n1, e := e, n2 := n2, l := l : Bk }.n2 ∧
    (0 : Nat) + c.n ≤ c.n ∧
    Is (n1 = n1 ∧
    n2 = n2 ∧
    c.n = c.n) ∧
    Is (EnsF n1 (shiftF (0 : Nat) fun r => [Value.string ({ u := m.u, n1 := n1, e := e, n2 := n2, l := l : Bk }.e r).nm, Value.int IntKind.i64 ({ u := m.u, n1 := n1, e := e, n2 := n2, l := l : Bk }.e r).a, Value.int IntKind.i64 ({ u := m.u, n1 := n1, e := e, n2 := n2, l := l : Bk }.e r).b, Value.int IntKind.i64 ({ u := m.u, n1 := n1, e := e, n2 := n2, l := l : Bk }.e r).sz])) ∧
    Is (LssF n2 (shiftF (0 : Nat) fun r => [Value.int IntKind.i64 ({ u := m.u, n1 := n1, e := e, n2 := n2, l := l : Bk }.l r).cl, Value.int IntKind.i64 ({ u := m.u, n1 := n1, e := e, n2 := n2, l := l : Bk }.l r).op, Value.int IntKind.i64 ({ u := m.u, n1 := n1, e := e, n2 := n2, l := l : Bk }.l r).ins, Value.int IntKind.i64 ({ u := m.u, n1 := n1, e := e, n2 := n2, l := l : Bk }.l r).err, Value.int IntKind.i64 ({ u := m.u, n1 := n1, e := e, n2 := n2, l := l : Bk }.l r).f1, Value.int IntKind.i64 ({ u := m.u, n1 := n1, e := e, n2 := n2, l := l : Bk }.l r).f2, Value.int IntKind.i64 ({ u := m.u, n1 := n1, e := e, n2 := n2, l := l : Bk }.l r).sz])) ∧
    Is (IntsF c.n (shiftF (0 : Nat) fun r => [Value.int IntKind.i64 (c.s r)])) ∧
    Is (bkOf m.u n1 (shiftF (0 : Nat) fun r => [Value.string ({ u := m.u, n1 := n1, e := e, n2 := n2, l := l : Bk }.e r).nm, Value.int IntKind.i64 ({ u := m.u, n1 := n1, e := e, n2 := n2, l := l : Bk }.e r).a, Value.int IntKind.i64 ({ u := m.u, n1 := n1, e := e, n2 := n2, l := l : Bk }.e r).b, Value.int IntKind.i64 ({ u := m.u, n1 := n1, e := e, n2 := n2, l := l : Bk }.e r).sz]) n2 (shiftF (0 : Nat) fun r => [Value.int IntKind.i64 ({ u := m.u, n1 := n1, e := e, n2 := n2, l := l : Bk }.l r).cl, Value.int IntKind.i64 ({ u := m.u, n1 := n1, e := e, n2 := n2, l := l : Bk }.l r).op, Value.int IntKind.i64 ({ u := m.u, n1 := n1, e := e, n2 := n2, l := l : Bk }.l r).ins, Value.int IntKind.i64 ({ u := m.u, n1 := n1, e := e, n2 := n2, l := l : Bk }.l r).err, Value.int IntKind.i64 ({ u := m.u, n1 := n1, e := e, n2 := n2, l := l : Bk }.l r).f1, Value.int IntKind.i64 ({ u := m.u, n1 := n1, e := e, n2 := n2, l := l : Bk }.l r).f2, Value.int IntKind.i64 ({ u := m.u, n1 := n1, e := e, n2 := n2, l := l : Bk }.l r).sz])).Fit ∧
    Value.agg { toList := [Value.slice (some ⟨0, 3, some 0⟩) c.n (0 : Nat), Value.int IntKind.i64 c.F, Value.int IntKind.i64 c.P, Value.int IntKind.i64 c.B, Value.int IntKind.i64 c.L, Value.int IntKind.i64 c.R] : Array Value } = Value.agg { toList := [Value.slice (some ⟨0, 3, some 0⟩) c.n (0 : Nat), Value.int IntKind.i64 c.F, Value.int IntKind.i64 c.P, Value.int IntKind.i64 c.B, Value.int IntKind.i64 c.L, Value.int IntKind.i64 c.R] : Array Value } ∧
    Value.func (Fn.func (96 : Nat)) { toList := [] : Array Value } { toList := [Value.pointer (some ⟨37, 0, none⟩)] : Array Value } = Value.func (Fn.func (96 : Nat)) { toList := [] : Array Value } { toList := [Value.pointer (some ⟨37, 0, none⟩)] : Array Value } ∧
    (0 : Nat) + c.n ≤ c.n ∧
    Is (c.n = c.n ∧
    IntsF c.n (shiftF (0 : Nat) fun r => [Value.int IntKind.i64 (c.s r)]) ∧
    (vkV c.F c.P c.B c.L c.R c.n (shiftF (0 : Nat) fun r => [Value.int IntKind.i64 (c.s r)])).ok = false) ∧
    (0 : Nat) + c.n ≤ c.n ∧
    Is (c.n = c.n ∧
    IntsF c.n (shiftF (0 : Nat) fun r => [Value.int IntKind.i64 (c.s r)]) ∧
    (vkV c.F c.P c.B c.L c.R c.n (shiftF (0 : Nat) fun r => [Value.int IntKind.i64 (c.s r)])).ok = false) ∧
    (0 : Nat) + c.n ≤ c.n ∧
    Is (c.n = c.n ∧
    IntsF c.n (shiftF (0 : Nat) fun r => [Value.int IntKind.i64 (c.s r)]) ∧
    (vkV c.F c.P c.B c.L c.R c.n (shiftF (0 : Nat) fun r => [Value.int IntKind.i64 (c.s r)])).ok = false) ∧
    (0 : Nat) + c.n ≤ c.n ∧
    Is (c.n = c.n ∧
    IntsF c.n (shiftF (0 : Nat) fun r => [Value.int IntKind.i64 (c.s r)]) ∧
    (vkV c.F c.P c.B c.L c.R c.n (shiftF (0 : Nat) fun r => [Value.int IntKind.i64 (c.s r)])).ok = false) ∧
    (0 : Nat) + c.n ≤ c.n ∧
    Is (c.n = c.n ∧
    IntsF c.n (shiftF (0 : Nat) fun r => [Value.int IntKind.i64 (c.s r)]) ∧
    (vkV c.F c.P c.B c.L c.R c.n (shiftF (0 : Nat) fun r => [Value.int IntKind.i64 (c.s r)])).ok = false) ∧
    BoolV true (Value.bool ((20 : Int) == (20 : Int)))))) (by kernel_rfl) ?_
  rw [vk_of]
  have hI := ints_of c
  refine ⟨by omega, ⟨rfl, hI⟩, bsplit_iff.2 ⟨fun _ => ⟨rfl⟩, fun hok => ?_⟩⟩
  (repeat' (first | (refine bsplit_iff.2 ⟨fun h => ?_, fun h => ?_⟩) | apply And.intro | fail))
  all_goals first
    | trivial
    | rfl
    | exact ⟨rfl⟩
    | omega
    | exact ⟨rfl, hI, hok⟩
    | exact ⟨hI⟩
    | exact ⟨rfl, rfl, rfl⟩
    | exact ⟨⟨hf.n1, hf.n2⟩⟩
    | exact Nat.le_of_eq (Nat.zero_add _)
    | (refine ⟨fun r hr => ?_⟩; simp [shiftF, enOf, En.cells]; done)
    | (refine ⟨fun r hr => ?_⟩; simp [shiftF, lsOf, Ls.cells]; done)
    | fail
end Go.Msg
