/- FileParts: the law's function over the contracts. -/
import Derived.Test.YtmbkfaongfmieaaGreatFM10
import Derived.Test.YtmbkfaongfmieaaGreatFM11
import Derived.Test.YtmbkfaongfmieaaGreatFM12
import Derived.Test.YtmbkfaongfmieaaGreatFM13
import Derived.Test.YtmbkfaongfmieaaGreatKN5
set_option linter.unusedSimpArgs false
set_option linter.unusedVariables false
set_option linter.unusedSectionVars false
set_option maxRecDepth 100000
namespace Go.Fil
open Go Go.X Go.Proofs
variable [WI]

theorem cases13 {k : Int} (h : 1 ≤ k ∧ k ≤ 13) : k = 1 ∨ k = 2 ∨ k = 3 ∨ k = 4 ∨ k = 5 ∨ k = 6 ∨ k = 7 ∨ k = 8 ∨ k = 9 ∨ k = 10 ∨ k = 11 ∨ k = 12 ∨ k = 13 := by omega
theorem scA {args : List Value} {n : Nat} (h : args.all (scB n 6) = true) : ∀ x ∈ args, Sc n x := fun v hv => scB_ok 6 v (List.all_eq_true.1 h v hv)

def T16 : CallS := fun args V K => match args with
  | [.agg ⟨[.int .i64 k, .string nm, .string ot, .int .i64 f1, .int .i64 f2, .int .i64 n1, .int .i64 n2, .int .i64 a, .int .i64 n, .slice (some ⟨p, 3, some 0⟩) L 0]⟩,
     .agg ⟨[.slice (some ⟨q, 0, some 0⟩) cl cc, .int .i64 x1, .int .i64 x2, .int .i64 x3, .int .i64 b, .int .i64 x5]⟩] => Is (1 ≤ b ∧ b ≤ 4096) ∧ ∀ r, Rf k a n L b r → K (.int .i64 r) V
  | _ => False
def T17 : CallS := fun args V K => match args with
  | [.agg ⟨[.int .i64 k, .string nm, .string ot, .int .i64 f1, .int .i64 f2, .int .i64 n1, .int .i64 n2, .int .i64 a, .int .i64 n, .slice (some ⟨p, 3, some 0⟩) L 0]⟩,
     .agg ⟨[.string e0, .int .i64 g1, .int .i64 g2, .int .i64 sz]⟩, .int .i64 b] => Fx k a n L sz b ∧ K (.int .i64 (cnt k a n L sz b)) V
  | _ => False
theorem c0_ok : CtxOK Tryz.prog c0 := ctxG_ok .nil .nil
theorem c0_inl (f : Nat) (fn : Func) (n : Nat) (c : Code) (hf : Tryz.prog.funcs[f]? = some fn) (hb : fn.body = some c) (hn : (fn.name == "runtime.NumGoroutine") = false) : CallOK Tryz.prog f (inl Tryz.prog c0 n fn) :=
  inl_ok c0_ok n ⟨fn, hf, by rw [hb]; rfl, hn⟩ hf hb (BlksOK.none fun _ => rfl)
theorem c1_ok : CtxOK Tryz.prog c1 := ctxG_ok .nil (.cons nm_ok (.cons (c0_inl 99 _ 300 _ Tryz.func99 rfl (by decide +kernel)) (.cons (c0_inl 20 _ 300 _ Tryz.func20 rfl (by decide +kernel)) .nil)))
theorem c1_inl (f : Nat) (fn : Func) (n : Nat) (c : Code) (hf : Tryz.prog.funcs[f]? = some fn) (hb : fn.body = some c) (hn : (fn.name == "runtime.NumGoroutine") = false) : CallOK Tryz.prog f (inl Tryz.prog c1 n fn) :=
  inl_ok c1_ok n ⟨fn, hf, by rw [hb]; rfl, hn⟩ hf hb (BlksOK.none fun _ => rfl)
theorem c2_ok : CtxOK Tryz.prog c2 := ctxG_ok .nil (.cons nm_ok (.cons (c1_inl 50 _ 600 _ Tryz.func50 rfl (by decide +kernel)) (.cons (c1_inl 52 _ 600 _ Tryz.func52 rfl (by decide +kernel)) .nil)))
theorem c3_ok : CtxOK Tryz.prog c3 := ctxG_ok .nil (.cons (c0_inl 53 _ 600 _ Tryz.func53 rfl (by decide +kernel)) .nil)
theorem cF_ok : CtxOK Tryz.prog cF := ctxG_ok .nil (.cons ⟨callable Tryz.func50 rfl (by decide +kernel), fun _ _ _ h => h.elim⟩ .nil)
theorem rf_all (k f1 f2 n1 n2 a n x1 x2 x3 b x5 : Int) (nm ot : ByteArray) (L cl cc : Nat) (hb : 1 ≤ b ∧ b ≤ 4096) :
    CallDoes Tryz.prog 16 (rfArgs k f1 f2 n1 n2 a n x1 x2 x3 b x5 nm ot L cl cc) [.dead, .dead] fun v _ => RfV k a n L b v := by
  by_cases hk : 1 ≤ k ∧ k ≤ 13
  · refine of_run c2_ok (n := 900) Tryz.func16 rfl (BlksOK.none fun _ => rfl) ?_
    rcases cases13 hk with rfl | rfl | rfl | rfl | rfl | rfl | rfl | rfl | rfl | rfl | rfl | rfl | rfl
    · exact rf1 ..
    · exact rf2 ..
    · exact rf3 ..
    · exact rf4 ..
    · exact rf5 ..
    · exact rf6 ..
    · exact rf7 ..
    · exact rf8 ..
    · exact rf9 ..
    · exact rf10 _ _ _ _ _ _ _ _ _ _ _ _ _ _ _ _ hb
    · exact rf11 _ _ _ _ _ _ _ _ _ _ _ _ _ _ _ _ hb
    · exact rf12 _ _ _ _ _ _ _ _ _ _ _ _ _ _ _ _ hb
    · exact rf13 ..
  · exact of_run cF_ok (n := 900) Tryz.func16 rfl (BlksOK.none fun _ => rfl) (rfo k f1 f2 n1 n2 a n x1 x2 x3 b x5 nm ot L cl cc (by omega))
theorem T16_ok : CallOK Tryz.prog 16 T16 := by
  refine ⟨callable Tryz.func16 rfl (by decide +kernel), fun args V K h => ?_⟩
  unfold T16 at h
  split at h
  · rename_i k nm ot f1 f2 n1 n2 a n p L q cl cc x1 x2 x3 b x5
    obtain ⟨⟨hb⟩, hK⟩ := h
    refine CallDoes.blind (args' := rfArgs k f1 f2 n1 n2 a n x1 x2 x3 b x5 nm ot L cl cc) (fun v => RfV k a n L b v) 2 (fun i => match i with | 0 => p | _ => q) ?_ (scA (by rfl)) (rf_all k f1 f2 n1 n2 a n x1 x2 x3 b x5 nm ot L cl cc hb) ?_
    · simp [rfArgs, renB]
    · rintro v ⟨r, rfl, hr⟩
      exact ⟨rfl, hK r hr⟩
  · exact h.elim
theorem p_all (k f1 f2 n1 n2 a n g1 g2 sz b : Int) (nm ot e0 : ByteArray) (L : Nat) (h : Fx k a n L sz b) : CallDoes Tryz.prog 17 (ptArgs k f1 f2 n1 n2 a n g1 g2 sz b nm ot e0 L) [.dead] fun v _ => CntV k a n L sz b v := by
  refine of_run c3_ok (n := 900) Tryz.func17 rfl (BlksOK.none fun _ => rfl) ?_
  rcases cases13 h.kk with rfl | rfl | rfl | rfl | rfl | rfl | rfl | rfl | rfl | rfl | rfl | rfl | rfl
  · exact p1 _ _ _ _ _ _ _ _ _ _ _ _ _ _ h
  · exact p2 _ _ _ _ _ _ _ _ _ _ _ _ _ _ h
  · exact p3 _ _ _ _ _ _ _ _ _ _ _ _ _ _ h
  · exact p4 _ _ _ _ _ _ _ _ _ _ _ _ _ _ h
  · exact p5 _ _ _ _ _ _ _ _ _ _ _ _ _ _ h
  · exact p6 _ _ _ _ _ _ _ _ _ _ _ _ _ _ h
  · exact p7 _ _ _ _ _ _ _ _ _ _ _ _ _ _ h
  · exact p8 _ _ _ _ _ _ _ _ _ _ _ _ _ _ h
  · exact p9 _ _ _ _ _ _ _ _ _ _ _ _ _ _ h
  · exact p10 _ _ _ _ _ _ _ _ _ _ _ _ _ _ h
  · exact p11 _ _ _ _ _ _ _ _ _ _ _ _ _ _ h
  · exact p12 _ _ _ _ _ _ _ _ _ _ _ _ _ _ h
  · exact p13 _ _ _ _ _ _ _ _ _ _ _ _ _ _ h
theorem q_all (k f1 f2 n1 n2 a n g1 g2 sz b : Int) (nm ot e0 : ByteArray) (L : Nat) (h : Fx k a n L sz b) : CallDoes Tryz.prog 18 (ptArgs k f1 f2 n1 n2 a n g1 g2 sz b nm ot e0 L) [.dead] fun v _ => CntV k a n L sz b v := by
  refine of_run c0_ok (n := 900) Tryz.func18 rfl (BlksOK.none fun _ => rfl) ?_
  rcases cases13 h.kk with rfl | rfl | rfl | rfl | rfl | rfl | rfl | rfl | rfl | rfl | rfl | rfl | rfl
  · exact q1 _ _ _ _ _ _ _ _ _ _ _ _ _ _ h
  · exact q2 _ _ _ _ _ _ _ _ _ _ _ _ _ _ h
  · exact q3 _ _ _ _ _ _ _ _ _ _ _ _ _ _ h
  · exact q4 _ _ _ _ _ _ _ _ _ _ _ _ _ _ h
  · exact q5 _ _ _ _ _ _ _ _ _ _ _ _ _ _ h
  · exact q6 _ _ _ _ _ _ _ _ _ _ _ _ _ _ h
  · exact q7 _ _ _ _ _ _ _ _ _ _ _ _ _ _ h
  · exact q8 _ _ _ _ _ _ _ _ _ _ _ _ _ _ h
  · exact q9 _ _ _ _ _ _ _ _ _ _ _ _ _ _ h
  · exact q10 _ _ _ _ _ _ _ _ _ _ _ _ _ _ h
  · exact q11 _ _ _ _ _ _ _ _ _ _ _ _ _ _ h
  · exact q12 _ _ _ _ _ _ _ _ _ _ _ _ _ _ h
  · exact q13 _ _ _ _ _ _ _ _ _ _ _ _ _ _ h
theorem T17_ok : CallOK Tryz.prog 17 T17 := by
  refine ⟨callable Tryz.func17 rfl (by decide +kernel), fun args V K h => ?_⟩
  unfold T17 at h
  split at h
  · rename_i k nm ot f1 f2 n1 n2 a n p L e0 g1 g2 sz b
    obtain ⟨hf, hK⟩ := h
    refine CallDoes.blind (args' := ptArgs k f1 f2 n1 n2 a n g1 g2 sz b nm ot e0 L) (fun v => CntV k a n L sz b v) 1 (fun _ => p) ?_ (scA (by rfl)) (p_all k f1 f2 n1 n2 a n g1 g2 sz b nm ot e0 L hf) ?_
    · simp [ptArgs, renB]
    · rintro v ⟨rfl⟩
      exact ⟨rfl, hK⟩
  · exact h.elim
theorem T18_ok : CallOK Tryz.prog 18 T17 := by
  refine ⟨callable Tryz.func18 rfl (by decide +kernel), fun args V K h => ?_⟩
  unfold T17 at h
  split at h
  · rename_i k nm ot f1 f2 n1 n2 a n p L e0 g1 g2 sz b
    obtain ⟨hf, hK⟩ := h
    refine CallDoes.blind (args' := ptArgs k f1 f2 n1 n2 a n g1 g2 sz b nm ot e0 L) (fun v => CntV k a n L sz b v) 1 (fun _ => p) ?_ (scA (by rfl)) (q_all k f1 f2 n1 n2 a n g1 g2 sz b nm ot e0 L hf) ?_
    · simp [ptArgs, renB]
    · rintro v ⟨rfl⟩
      exact ⟨rfl, hK⟩
  · exact h.elim
def mkC : CallS := fun args V K => match args, V with
  | [.agg ⟨[.int .i64 k, .string nm, .string ot, .int .i64 f1, .int .i64 f2, .int .i64 n1, .int .i64 n2, .int .i64 a, .int .i64 n, .slice (some ⟨0, 3, some 0⟩) L 0]⟩,
     .agg ⟨[.string e0, .int .i64 g1, .int .i64 g2, .int .i64 sz]⟩, .int .i64 b], [.arg 5 1 N f] => Is (L ≤ N) ∧ MkPre k a n L sz b ∧ (Is (cnt k a n L sz b = 0) → K (.slice none 0 0) [.arg 5 1 N f]) ∧
       ∀ (c : Nat) g, Is (cnt k a n L sz b = c ∧ 0 < c) → K (.slice (some ⟨1, 1, some 0⟩) c 0) [.arg 5 1 N f, .raw 126 16 c 0 g []]
  | _, _ => False
theorem mk_all (M : Mk) (k : Int) (hN : M.L ≤ M.N) (hp : MkPre k M.a M.n M.L M.sz M.b) : CallDoes Tryz.prog 19 (mkArgs M k) [.arg 5 1 M.N M.f] (mkR M (cnt k M.a M.n M.L M.sz M.b)) := by
  rcases cases13 hp.fx.kk with rfl | rfl | rfl | rfl | rfl | rfl | rfl | rfl | rfl | rfl | rfl | rfl | rfl
  · exact mk1 M
  · exact mk2 M
  · exact mk3 M
  · exact mk4 M
  · exact mk5 M
  · exact mk6 M
  · exact mk7 M
  · exact mk8 M
  · exact mk9 M
  · exact mk10 M hp
  · exact mk11 M hN hp
  · exact mk12 M hp
  · exact mk13 M hp
theorem mkC_ok : CallOK Tryz.prog 19 mkC := by
  refine ⟨callable Tryz.func19 rfl (by decide +kernel), fun args V K h => ?_⟩
  unfold mkC at h
  split at h
  · rename_i k nm ot f1 f2 n1 n2 a n L e0 g1 g2 sz b N f
    obtain ⟨⟨hN⟩, hp, h1, h2⟩ := h
    refine CallDoes.mono1 (fun v V' hv => ?_) (mk_all ⟨0, nm, ot, f1, f2, n1, n2, a, n, e0, g1, g2, sz, b, L, N, f⟩ k hN hp)
    unfold mkR at hv
    split at hv
    · obtain ⟨⟨he⟩, ⟨hc⟩⟩ := hv
      rw [he]; exact h1 ⟨hc⟩
    · rename_i o n g
      obtain ⟨⟨he⟩, ⟨rfl, hn⟩, ⟨hc⟩⟩ := hv
      obtain rfl := (List.cons.inj he).1
      exact h2 _ _ ⟨hc, hn⟩
    · exact hv.elim
  · exact h.elim
noncomputable def cZ : Ctx := ctxG [(8, g0 (.bool true)), (10, rdG)] [(9, inl Tryz.prog c0 600 Tryz.f9), (16, T16), (17, T17), (18, T17), (19, frameT mkC)] []
theorem cZ_ok : CtxOK Tryz.prog cZ := ctxG_ok (.cons known_ok (.cons rd_ok .nil)) (.cons (c0_inl 9 _ 600 _ Tryz.func9 rfl (by decide +kernel)) (.cons T16_ok (.cons T17_ok (.cons T18_ok (.cons mkC_ok.framed .nil)))))
theorem law_does (k f1 f2 n1 n2 a n g1 g2 size bk : Int) (nm ot e0 : ByteArray) (L : Nat) (f : Nat → List Value) :
    CallDoes Tryz.prog 4 [.agg ⟨[.int .i64 k, .string nm, .string ot, .int .i64 f1, .int .i64 f2, .int .i64 n1, .int .i64 n2, .int .i64 a, .int .i64 n, .slice (some ⟨0, 3, some 0⟩) L 0]⟩, .agg ⟨[.string e0, .int .i64 g1, .int .i64 g2, .int .i64 size]⟩, .int .i64 bk]
      [.arg 5 1 L f] fun v _ => v = .bool true := by
  refine of_run cZ_ok (n := 900) Tryz.func4 rfl (BlksOK.none fun _ => rfl) ?_
  refine by_nf (B := ((0 : Int) + (1 : Int) ≤ (4096 : Int) ∧
    (4096 : Int) ≤ (1099511627776 : Int)) ∧
    ((0 : Int) + (1 : Int) ≤ IntKind.i64.wrap (IntKind.i64.wrap ((1048576 : Int) * IntKind.i64.wrap (bk % (4096 : Int) + (1 : Int))) + (1 : Int)) ∧
    IntKind.i64.wrap (IntKind.i64.wrap ((1048576 : Int) * IntKind.i64.wrap (bk % (4096 : Int) + (1 : Int))) + (1 : Int)) ≤ (1099511627776 : Int)) ∧
    Is ((1 : Int) ≤ IntKind.i64.wrap (bk % (4096 : Int) + (1 : Int)) ∧
    IntKind.i64.wrap (bk % (4096 : Int) + (1 : Int)) ≤ (4096 : Int)) ∧
    ∀ (r : Int), Rf k a n (↑L : Int) (IntKind.i64.wrap (bk % (4096 : Int) + (1 : Int))) r → bsplit (r != (0 : Int)) (Value.bool true = Value.bool true) (Fx k a n (↑L : Int) (size % IntKind.i64.wrap (IntKind.i64.wrap ((1048576 : Int) * IntKind.i64.wrap (bk % (4096 : Int) + (1 : Int))) + (1 : Int))) (IntKind.i64.wrap (bk % (4096 : Int) + (1 : Int))) ∧
    Fx k a n (↑L : Int) (size % IntKind.i64.wrap (IntKind.i64.wrap ((1048576 : Int) * IntKind.i64.wrap (bk % (4096 : Int) + (1 : Int))) + (1 : Int))) (IntKind.i64.wrap (bk % (4096 : Int) + (1 : Int))) ∧
    bsplit (cnt k a n (↑L : Int) (size % IntKind.i64.wrap (IntKind.i64.wrap ((1048576 : Int) * IntKind.i64.wrap (bk % (4096 : Int) + (1 : Int))) + (1 : Int))) (IntKind.i64.wrap (bk % (4096 : Int) + (1 : Int))) != cnt k a n (↑L : Int) (size % IntKind.i64.wrap (IntKind.i64.wrap ((1048576 : Int) * IntKind.i64.wrap (bk % (4096 : Int) + (1 : Int))) + (1 : Int))) (IntKind.i64.wrap (bk % (4096 : Int) + (1 : Int)))) (Value.bool false = Value.bool true)
    (bsplit (decide (cnt k a n (↑L : Int) (size % IntKind.i64.wrap (IntKind.i64.wrap ((1048576 : Int) * IntKind.i64.wrap (bk % (4096 : Int) + (1 : Int))) + (1 : Int))) (IntKind.i64.wrap (bk % (4096 : Int) + (1 : Int))) > (4000 : Int))) (Value.bool true = Value.bool true) (Is (L ≤ L) ∧
    MkPre k a n (↑L : Int) (size % IntKind.i64.wrap (IntKind.i64.wrap ((1048576 : Int) * IntKind.i64.wrap (bk % (4096 : Int) + (1 : Int))) + (1 : Int))) (IntKind.i64.wrap (bk % (4096 : Int) + (1 : Int))) ∧
    (Is (cnt k a n (↑L : Int) (size % IntKind.i64.wrap (IntKind.i64.wrap ((1048576 : Int) * IntKind.i64.wrap (bk % (4096 : Int) + (1 : Int))) + (1 : Int))) (IntKind.i64.wrap (bk % (4096 : Int) + (1 : Int))) = (0 : Int)) → Value.bool (cnt k a n (↑L : Int) (size % IntKind.i64.wrap (IntKind.i64.wrap ((1048576 : Int) * IntKind.i64.wrap (bk % (4096 : Int) + (1 : Int))) + (1 : Int))) (IntKind.i64.wrap (bk % (4096 : Int) + (1 : Int))) == (↑(0 : Nat) : Int)) = Value.bool true) ∧
    ∀ (c : Nat) (g : Nat → List Value), Is (cnt k a n (↑L : Int) (size % IntKind.i64.wrap (IntKind.i64.wrap ((1048576 : Int) * IntKind.i64.wrap (bk % (4096 : Int) + (1 : Int))) + (1 : Int))) (IntKind.i64.wrap (bk % (4096 : Int) + (1 : Int))) = (↑c : Int) ∧
    (0 : Nat) < c) → Value.bool (cnt k a n (↑L : Int) (size % IntKind.i64.wrap (IntKind.i64.wrap ((1048576 : Int) * IntKind.i64.wrap (bk % (4096 : Int) + (1 : Int))) + (1 : Int))) (IntKind.i64.wrap (bk % (4096 : Int) + (1 : Int))) == (↑c : Int)) = Value.bool true)))) (by kernel_rfl) ?_
  have hb := Int.emod_nonneg bk (show (4096 : Int) ≠ 0 by decide)
  have hb2 := Int.emod_lt_of_pos bk (show (0 : Int) < 4096 by decide)
  rw [w64 (bk % 4096 + 1) (by omega)]
  generalize hB : bk % 4096 + 1 = b
  have h1 : 1 ≤ b := by omega
  have h2 : b ≤ 4096 := by omega
  rw [w64 (1048576 * b) (by omega), w64 (1048576 * b + 1) (by omega)]
  have hs := Int.emod_nonneg size (show (1048576 * b + 1 : Int) ≠ 0 by omega)
  have hs2 := Int.emod_lt_of_pos size (show (0 : Int) < 1048576 * b + 1 by omega)
  generalize size % (1048576 * b + 1) = sz at *
  refine ⟨⟨by omega, by omega⟩, ⟨by omega, by omega⟩, ⟨h1, h2⟩, fun r hr => bsplit_iff.2 ⟨fun _ => rfl, fun h0 => ?_⟩⟩
  have h0 : r = 0 := by simpa using h0
  have hF : Fx k a n L sz b := ⟨hr.kk h0, h1, h2, hs, by omega, hr.k10 h0, hr.k11 h0, hr.k12 h0⟩
  refine ⟨hF, hF, bsplit_iff.2 ⟨fun h => absurd h (by simp), fun _ => bsplit_iff.2 ⟨fun _ => rfl, fun h4 => ⟨⟨Nat.le_refl _⟩, ⟨hF, ?_⟩, fun h => ?_, fun c g h => ?_⟩⟩⟩⟩
  · have h4 := of_decide_eq_false h4
    omega
  · rw [h.out]; rfl
  · rw [h.out.1]; simp
end Go.Fil
