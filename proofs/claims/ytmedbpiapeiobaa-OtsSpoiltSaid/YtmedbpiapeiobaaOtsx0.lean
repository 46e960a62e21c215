/- Written by gen.py: functions and their contracts. -/
import Derived.Test.YtmedbpiapeiobaaOct
namespace Go.Proofs.Ytmedbpiapeiobaa
open Go Go.Eng Go.Proofs
set_option linter.unusedVariables false
set_option linter.unusedSimpArgs false
/-! ### 57: drogher/drogherref03.Chains -/
noncomputable def F57.m (x1 : Int) : Option Int :=
  (if (4 : Int) < x1 then some (0 : Int) else (if 0 ≤ x1 ∧ x1 < (([(0 : Int), (265 : Int), (133 : Int), (67 : Int), (34 : Int)]).length : Int) then some (gd [(0 : Int), (265 : Int), (133 : Int), (67 : Int), (34 : Int)] x1) else none))
set_option maxRecDepth 100000 in
set_option maxHeartbeats 4000000 in
theorem F57.spec (x1 : Int) (r : Int) (hm : F57.m x1 = some r) :
    Ctr Try.prog false 57 [.int .u32 x1] [] (fun v L' => v = .int .i64 r ∧ L' = []) := by
  refine Ctr.intro (n := 11) (env := [(0, .int .u32 x1)]) Try.func57 rfl rfl rfl rfl (fun c => ?_)
  unfold F57.m at hm
  refine JC.seq ?_
  refine JC.region ?_
  refine JL.val (v := .int .i64 (0 : Int)) (QV.assign rfl) rfl rfl rfl ?_
  refine JL.nil ?_
  refine QJ.then_normal ?_
  refine JC.seq ?_
  refine JC.region ?_
  refine JL.mv (d := some 4) (MV.lit (E := (Enc.int .i64)) (vals := [(0, .int .i64 (0 : Int)), (1, .int .i64 (265 : Int)), (2, .int .i64 (133 : Int)), (3, .int .i64 (67 : Int)), (4, .int .i64 (34 : Int))]) [(0 : Int), (265 : Int), (133 : Int), (67 : Int), (34 : Int)] Try.underlying24 zi_3 rfl (by decide) rfl (by kernel_rfl)) rfl rfl rfl ?_
  rintro _ _ ⟨z3, rfl, rfl⟩
  refine JL.val (v := z3.v) (QV.assign rfl) rfl rfl rfl ?_
  refine JL.nil ?_
  refine QJ.then_normal ?_
  refine JC.seq ?_
  refine JC.seq ?_
  refine JC.region ?_
  refine JL.val (v := .int .u32 x1) (QV.move rfl) rfl rfl rfl ?_
  refine JL.val (v := .bool (decide ((4 : Int) < x1))) (QV.gtr rfl rfl) rfl rfl rfl ?_
  refine JL.nil ?_
  refine QJ.then_normal ?_
  rcases ite_inv hm with ⟨h4, hm⟩ | ⟨h4, hm⟩
  ·
    refine JC.condT' rfl (decide_eq_true h4) ?_
    refine JC.seq ?_
    refine JC.region ?_
    refine JL.val (v := .int .i64 (0 : Int)) (QV.assign rfl) rfl rfl rfl ?_
    refine JL.nil ?_
    refine QJ.then_normal ?_
    refine JC.ret ?_
    refine QJ.then_ret ?_
    obtain rfl := Option.some.inj hm
    exact QJ.body (vs := [.int .i64 (0 : Int)]) (.inl rfl) rfl (ResVs.cons (ResV.tmp rfl) ResVs.nil) [] rfl rfl (.inr trivial) ⟨rfl, rfl⟩
  ·
    refine JC.condF' rfl (decide_eq_false h4) ?_
    refine JC.skip ?_
    refine QJ.then_normal ?_
    refine JC.seq ?_
    refine JC.region ?_
    refine JL.val (v := z3.v) (QV.move rfl) rfl rfl rfl ?_
    refine JL.val (v := .int .u32 x1) (QV.move rfl) rfl rfl rfl ?_
    obtain ⟨h5, hm⟩ := guard_inv hm
    refine JL.val (v := .pointer (some (elA (z3.v) (Int.toNat x1 * ((Enc.int .i64)).sz)))) (QV.indexA (Rdg.of 0 rfl) Try.underlying24 tk_3 rfl rfl h5) rfl rfl rfl ?_
    refine JL.val (v := .int .i64 (gd [(0 : Int), (265 : Int), (133 : Int), (67 : Int), (34 : Int)] x1)) (QV.el1 (Rdg.of 0 rfl) tk_3 rfl h5 rfl) rfl rfl rfl ?_
    refine JL.val (v := .int .i64 (gd [(0 : Int), (265 : Int), (133 : Int), (67 : Int), (34 : Int)] x1)) (QV.assign rfl) rfl rfl rfl ?_
    refine JL.nil ?_
    refine QJ.then_normal ?_
    refine JC.ret ?_
    obtain rfl := Option.some.inj hm
    exact QJ.body (vs := [.int .i64 (gd [(0 : Int), (265 : Int), (133 : Int), (67 : Int), (34 : Int)] x1)]) (.inl rfl) rfl (ResVs.cons (ResV.tmp rfl) ResVs.nil) [] rfl rfl (.inr trivial) ⟨rfl, rfl⟩

/-! ### 58: drogher/ots.Width -/
noncomputable def F58.m (x1 : Int) : Option Int :=
  (if x1 < (1 : Int) then some (0 : Int) else (if (4 : Int) < x1 then some (0 : Int) else (if 0 ≤ (IntKind.wrap .u32 (x1 - (1 : Int))) then some (shlI .i64 (1 : Int) (IntKind.wrap .u32 (x1 - (1 : Int)))) else none)))
set_option maxRecDepth 100000 in
set_option maxHeartbeats 4000000 in
theorem F58.spec (x1 : Int) (r : Int) (hm : F58.m x1 = some r) :
    Ctr Try.prog false 58 [.int .u32 x1] [] (fun v L' => v = .int .i64 r ∧ L' = []) := by
  refine Ctr.intro (n := 12) (env := [(0, .int .u32 x1)]) Try.func58 rfl rfl rfl rfl (fun c => ?_)
  unfold F58.m at hm
  refine JC.seq ?_
  refine JC.region ?_
  refine JL.val (v := .int .i64 (0 : Int)) (QV.assign rfl) rfl rfl rfl ?_
  refine JL.nil ?_
  refine QJ.then_normal ?_
  refine JC.seq ?_
  refine JC.seq ?_
  refine JC.region ?_
  refine JL.val (v := .int .u32 x1) (QV.move rfl) rfl rfl rfl ?_
  refine JL.val (v := .bool (decide (x1 < (1 : Int)))) (QV.lss rfl rfl) rfl rfl rfl ?_
  rcases ite_inv hm with ⟨h3, hm⟩ | ⟨h3, hm⟩
  ·
    refine JL.val (v := .bool true) (QV.eq (QV.move rfl) (congrArg Value.bool (decide_eq_true h3))) rfl rfl rfl ?_
    refine JL.skip (d := some 6) rfl rfl rfl ?_
    refine JL.skip (d := some 7) rfl rfl rfl ?_
    refine JL.val (v := .bool true) (QV.pickT rfl rfl) rfl rfl rfl ?_
    refine JL.nil ?_
    refine QJ.then_normal ?_
    refine JC.condT rfl ?_
    refine JC.seq ?_
    refine JC.region ?_
    refine JL.val (v := .int .i64 (0 : Int)) (QV.assign rfl) rfl rfl rfl ?_
    refine JL.nil ?_
    refine QJ.then_normal ?_
    refine JC.ret ?_
    refine QJ.then_ret ?_
    obtain rfl := Option.some.inj hm
    exact QJ.body (vs := [.int .i64 (0 : Int)]) (.inl rfl) rfl (ResVs.cons (ResV.tmp rfl) ResVs.nil) [] rfl rfl (.inr trivial) ⟨rfl, rfl⟩
  ·
    refine JL.val (v := .bool false) (QV.eq (QV.move rfl) (congrArg Value.bool (decide_eq_false h3))) rfl rfl rfl ?_
    refine JL.val (v := .int .u32 x1) (QV.move rfl) rfl rfl rfl ?_
    refine JL.val (v := .bool (decide ((4 : Int) < x1))) (QV.gtr rfl rfl) rfl rfl rfl ?_
    refine JL.val (v := .bool (decide ((4 : Int) < x1))) (QV.pickF rfl rfl) rfl rfl rfl ?_
    refine JL.nil ?_
    refine QJ.then_normal ?_
    rcases ite_inv hm with ⟨h4, hm⟩ | ⟨h4, hm⟩
    ·
      refine JC.condT' rfl (decide_eq_true h4) ?_
      refine JC.seq ?_
      refine JC.region ?_
      refine JL.val (v := .int .i64 (0 : Int)) (QV.assign rfl) rfl rfl rfl ?_
      refine JL.nil ?_
      refine QJ.then_normal ?_
      refine JC.ret ?_
      refine QJ.then_ret ?_
      obtain rfl := Option.some.inj hm
      exact QJ.body (vs := [.int .i64 (0 : Int)]) (.inl rfl) rfl (ResVs.cons (ResV.tmp rfl) ResVs.nil) [] rfl rfl (.inr trivial) ⟨rfl, rfl⟩
    ·
      refine JC.condF' rfl (decide_eq_false h4) ?_
      refine JC.skip ?_
      refine QJ.then_normal ?_
      refine JC.seq ?_
      refine JC.region ?_
      refine JL.val (v := .int .u32 x1) (QV.move rfl) rfl rfl rfl ?_
      refine JL.val (v := .int .u32 (IntKind.wrap .u32 (x1 - (1 : Int)))) (QV.sub rfl rfl) rfl rfl rfl ?_
      obtain ⟨h5, hm⟩ := guard_inv hm
      refine JL.val (v := .int .i64 (shlI .i64 (1 : Int) (IntKind.wrap .u32 (x1 - (1 : Int))))) (QV.shl rfl rfl h5) rfl rfl rfl ?_
      refine JL.val (v := .int .i64 (shlI .i64 (1 : Int) (IntKind.wrap .u32 (x1 - (1 : Int))))) (QV.assign rfl) rfl rfl rfl ?_
      refine JL.nil ?_
      refine QJ.then_normal ?_
      refine JC.ret ?_
      obtain rfl := Option.some.inj hm
      exact QJ.body (vs := [.int .i64 (shlI .i64 (1 : Int) (IntKind.wrap .u32 (x1 - (1 : Int))))]) (.inl rfl) rfl (ResVs.cons (ResV.tmp rfl) ResVs.nil) [] rfl rfl (.inr trivial) ⟨rfl, rfl⟩

/-! ### 59: drogher/drogherref03.Wide -/
noncomputable def F59.m (x1 : Int) : Option Int :=
  (if x1 = (1 : Int) then some (1 : Int) else (if x1 = (2 : Int) then some (2 : Int) else (if x1 = (3 : Int) then some (4 : Int) else (if x1 = (4 : Int) then some (8 : Int) else some (0 : Int)))))
set_option maxRecDepth 100000 in
set_option maxHeartbeats 4000000 in
theorem F59.spec (x1 : Int) (r : Int) (hm : F59.m x1 = some r) :
    Ctr Try.prog false 59 [.int .u32 x1] [] (fun v L' => v = .int .i64 r ∧ L' = []) := by
  refine Ctr.intro (n := 12) (env := [(0, .int .u32 x1)]) Try.func59 rfl rfl rfl rfl (fun c => ?_)
  unfold F59.m at hm
  refine JC.seq ?_
  refine JC.region ?_
  refine JL.val (v := .int .i64 (0 : Int)) (QV.assign rfl) rfl rfl rfl ?_
  refine JL.nil ?_
  refine QJ.then_normal ?_
  refine JC.seq ?_
  refine JC.seq ?_
  refine JC.region ?_
  refine JL.val (v := .int .u32 x1) (QV.move rfl) rfl rfl rfl ?_
  refine JL.nil ?_
  refine QJ.then_normal ?_
  refine JC.block ?_
  refine JC.seq ?_
  refine JC.region ?_
  refine JL.val (v := .bool (decide (x1 = (1 : Int)))) (QV.eql rfl rfl) rfl rfl rfl ?_
  refine JL.val (v := .bool (decide (x1 = (1 : Int)))) (QV.assign rfl) rfl rfl rfl ?_
  refine JL.nil ?_
  refine QJ.then_normal ?_
  rcases ite_inv hm with ⟨h3, hm⟩ | ⟨h3, hm⟩
  ·
    refine JC.condT' rfl (decide_eq_true h3) ?_
    refine JC.seq ?_
    refine JC.region ?_
    refine JL.val (v := .int .i64 (1 : Int)) (QV.assign rfl) rfl rfl rfl ?_
    refine JL.nil ?_
    refine QJ.then_normal ?_
    refine JC.ret ?_
    refine QJ.block_ret ?_
    refine QJ.then_ret ?_
    obtain rfl := Option.some.inj hm
    exact QJ.body (vs := [.int .i64 (1 : Int)]) (.inl rfl) rfl (ResVs.cons (ResV.tmp rfl) ResVs.nil) [] rfl rfl (.inr trivial) ⟨rfl, rfl⟩
  ·
    refine JC.condF' rfl (decide_eq_false h3) ?_
    refine JC.seq ?_
    refine JC.region ?_
    refine JL.val (v := .bool (decide (x1 = (2 : Int)))) (QV.eql rfl rfl) rfl rfl rfl ?_
    refine JL.val (v := .bool (decide (x1 = (2 : Int)))) (QV.assign rfl) rfl rfl rfl ?_
    refine JL.nil ?_
    refine QJ.then_normal ?_
    rcases ite_inv hm with ⟨h4, hm⟩ | ⟨h4, hm⟩
    ·
      refine JC.condT' rfl (decide_eq_true h4) ?_
      refine JC.seq ?_
      refine JC.region ?_
      refine JL.val (v := .int .i64 (2 : Int)) (QV.assign rfl) rfl rfl rfl ?_
      refine JL.nil ?_
      refine QJ.then_normal ?_
      refine JC.ret ?_
      refine QJ.block_ret ?_
      refine QJ.then_ret ?_
      obtain rfl := Option.some.inj hm
      exact QJ.body (vs := [.int .i64 (2 : Int)]) (.inl rfl) rfl (ResVs.cons (ResV.tmp rfl) ResVs.nil) [] rfl rfl (.inr trivial) ⟨rfl, rfl⟩
    ·
      refine JC.condF' rfl (decide_eq_false h4) ?_
      refine JC.seq ?_
      refine JC.region ?_
      refine JL.val (v := .bool (decide (x1 = (3 : Int)))) (QV.eql rfl rfl) rfl rfl rfl ?_
      refine JL.val (v := .bool (decide (x1 = (3 : Int)))) (QV.assign rfl) rfl rfl rfl ?_
      refine JL.nil ?_
      refine QJ.then_normal ?_
      rcases ite_inv hm with ⟨h5, hm⟩ | ⟨h5, hm⟩
      ·
        refine JC.condT' rfl (decide_eq_true h5) ?_
        refine JC.seq ?_
        refine JC.region ?_
        refine JL.val (v := .int .i64 (4 : Int)) (QV.assign rfl) rfl rfl rfl ?_
        refine JL.nil ?_
        refine QJ.then_normal ?_
        refine JC.ret ?_
        refine QJ.block_ret ?_
        refine QJ.then_ret ?_
        obtain rfl := Option.some.inj hm
        exact QJ.body (vs := [.int .i64 (4 : Int)]) (.inl rfl) rfl (ResVs.cons (ResV.tmp rfl) ResVs.nil) [] rfl rfl (.inr trivial) ⟨rfl, rfl⟩
      ·
        refine JC.condF' rfl (decide_eq_false h5) ?_
        refine JC.seq ?_
        refine JC.region ?_
        refine JL.val (v := .bool (decide (x1 = (4 : Int)))) (QV.eql rfl rfl) rfl rfl rfl ?_
        refine JL.val (v := .bool (decide (x1 = (4 : Int)))) (QV.assign rfl) rfl rfl rfl ?_
        refine JL.nil ?_
        refine QJ.then_normal ?_
        rcases ite_inv hm with ⟨h6, hm⟩ | ⟨h6, hm⟩
        ·
          refine JC.condT' rfl (decide_eq_true h6) ?_
          refine JC.seq ?_
          refine JC.region ?_
          refine JL.val (v := .int .i64 (8 : Int)) (QV.assign rfl) rfl rfl rfl ?_
          refine JL.nil ?_
          refine QJ.then_normal ?_
          refine JC.ret ?_
          refine QJ.block_ret ?_
          refine QJ.then_ret ?_
          obtain rfl := Option.some.inj hm
          exact QJ.body (vs := [.int .i64 (8 : Int)]) (.inl rfl) rfl (ResVs.cons (ResV.tmp rfl) ResVs.nil) [] rfl rfl (.inr trivial) ⟨rfl, rfl⟩
        ·
          refine JC.condF' rfl (decide_eq_false h6) ?_
          refine JC.skip ?_
          refine QJ.block_normal ?_
          refine QJ.then_normal ?_
          refine JC.seq ?_
          refine JC.region ?_
          refine JL.val (v := .int .i64 (0 : Int)) (QV.assign rfl) rfl rfl rfl ?_
          refine JL.nil ?_
          refine QJ.then_normal ?_
          refine JC.ret ?_
          obtain rfl := Option.some.inj hm
          exact QJ.body (vs := [.int .i64 (0 : Int)]) (.inl rfl) rfl (ResVs.cons (ResV.tmp rfl) ResVs.nil) [] rfl rfl (.inr trivial) ⟨rfl, rfl⟩

/-! ### 60: drogher/ots.Chains -/
noncomputable def F60.m (x1 : Int) : Option Int :=
  (if x1 = (1 : Int) then some (265 : Int) else (if x1 = (2 : Int) then some (133 : Int) else (if x1 = (3 : Int) then some (67 : Int) else (if x1 = (4 : Int) then some (34 : Int) else some (0 : Int)))))
set_option maxRecDepth 100000 in
set_option maxHeartbeats 4000000 in
theorem F60.spec (x1 : Int) (r : Int) (hm : F60.m x1 = some r) :
    Ctr Try.prog false 60 [.int .u32 x1] [] (fun v L' => v = .int .i64 r ∧ L' = []) := by
  refine Ctr.intro (n := 12) (env := [(0, .int .u32 x1)]) Try.func60 rfl rfl rfl rfl (fun c => ?_)
  unfold F60.m at hm
  refine JC.seq ?_
  refine JC.region ?_
  refine JL.val (v := .int .i64 (0 : Int)) (QV.assign rfl) rfl rfl rfl ?_
  refine JL.nil ?_
  refine QJ.then_normal ?_
  refine JC.seq ?_
  refine JC.seq ?_
  refine JC.region ?_
  refine JL.val (v := .int .u32 x1) (QV.move rfl) rfl rfl rfl ?_
  refine JL.nil ?_
  refine QJ.then_normal ?_
  refine JC.block ?_
  refine JC.seq ?_
  refine JC.region ?_
  refine JL.val (v := .bool (decide (x1 = (1 : Int)))) (QV.eql rfl rfl) rfl rfl rfl ?_
  refine JL.val (v := .bool (decide (x1 = (1 : Int)))) (QV.assign rfl) rfl rfl rfl ?_
  refine JL.nil ?_
  refine QJ.then_normal ?_
  rcases ite_inv hm with ⟨h3, hm⟩ | ⟨h3, hm⟩
  ·
    refine JC.condT' rfl (decide_eq_true h3) ?_
    refine JC.seq ?_
    refine JC.region ?_
    refine JL.val (v := .int .i64 (265 : Int)) (QV.assign rfl) rfl rfl rfl ?_
    refine JL.nil ?_
    refine QJ.then_normal ?_
    refine JC.ret ?_
    refine QJ.block_ret ?_
    refine QJ.then_ret ?_
    obtain rfl := Option.some.inj hm
    exact QJ.body (vs := [.int .i64 (265 : Int)]) (.inl rfl) rfl (ResVs.cons (ResV.tmp rfl) ResVs.nil) [] rfl rfl (.inr trivial) ⟨rfl, rfl⟩
  ·
    refine JC.condF' rfl (decide_eq_false h3) ?_
    refine JC.seq ?_
    refine JC.region ?_
    refine JL.val (v := .bool (decide (x1 = (2 : Int)))) (QV.eql rfl rfl) rfl rfl rfl ?_
    refine JL.val (v := .bool (decide (x1 = (2 : Int)))) (QV.assign rfl) rfl rfl rfl ?_
    refine JL.nil ?_
    refine QJ.then_normal ?_
    rcases ite_inv hm with ⟨h4, hm⟩ | ⟨h4, hm⟩
    ·
      refine JC.condT' rfl (decide_eq_true h4) ?_
      refine JC.seq ?_
      refine JC.region ?_
      refine JL.val (v := .int .i64 (133 : Int)) (QV.assign rfl) rfl rfl rfl ?_
      refine JL.nil ?_
      refine QJ.then_normal ?_
      refine JC.ret ?_
      refine QJ.block_ret ?_
      refine QJ.then_ret ?_
      obtain rfl := Option.some.inj hm
      exact QJ.body (vs := [.int .i64 (133 : Int)]) (.inl rfl) rfl (ResVs.cons (ResV.tmp rfl) ResVs.nil) [] rfl rfl (.inr trivial) ⟨rfl, rfl⟩
    ·
      refine JC.condF' rfl (decide_eq_false h4) ?_
      refine JC.seq ?_
      refine JC.region ?_
      refine JL.val (v := .bool (decide (x1 = (3 : Int)))) (QV.eql rfl rfl) rfl rfl rfl ?_
      refine JL.val (v := .bool (decide (x1 = (3 : Int)))) (QV.assign rfl) rfl rfl rfl ?_
      refine JL.nil ?_
      refine QJ.then_normal ?_
      rcases ite_inv hm with ⟨h5, hm⟩ | ⟨h5, hm⟩
      ·
        refine JC.condT' rfl (decide_eq_true h5) ?_
        refine JC.seq ?_
        refine JC.region ?_
        refine JL.val (v := .int .i64 (67 : Int)) (QV.assign rfl) rfl rfl rfl ?_
        refine JL.nil ?_
        refine QJ.then_normal ?_
        refine JC.ret ?_
        refine QJ.block_ret ?_
        refine QJ.then_ret ?_
        obtain rfl := Option.some.inj hm
        exact QJ.body (vs := [.int .i64 (67 : Int)]) (.inl rfl) rfl (ResVs.cons (ResV.tmp rfl) ResVs.nil) [] rfl rfl (.inr trivial) ⟨rfl, rfl⟩
      ·
        refine JC.condF' rfl (decide_eq_false h5) ?_
        refine JC.seq ?_
        refine JC.region ?_
        refine JL.val (v := .bool (decide (x1 = (4 : Int)))) (QV.eql rfl rfl) rfl rfl rfl ?_
        refine JL.val (v := .bool (decide (x1 = (4 : Int)))) (QV.assign rfl) rfl rfl rfl ?_
        refine JL.nil ?_
        refine QJ.then_normal ?_
        rcases ite_inv hm with ⟨h6, hm⟩ | ⟨h6, hm⟩
        ·
          refine JC.condT' rfl (decide_eq_true h6) ?_
          refine JC.seq ?_
          refine JC.region ?_
          refine JL.val (v := .int .i64 (34 : Int)) (QV.assign rfl) rfl rfl rfl ?_
          refine JL.nil ?_
          refine QJ.then_normal ?_
          refine JC.ret ?_
          refine QJ.block_ret ?_
          refine QJ.then_ret ?_
          obtain rfl := Option.some.inj hm
          exact QJ.body (vs := [.int .i64 (34 : Int)]) (.inl rfl) rfl (ResVs.cons (ResV.tmp rfl) ResVs.nil) [] rfl rfl (.inr trivial) ⟨rfl, rfl⟩
        ·
          refine JC.condF' rfl (decide_eq_false h6) ?_
          refine JC.skip ?_
          refine QJ.block_normal ?_
          refine QJ.then_normal ?_
          refine JC.seq ?_
          refine JC.region ?_
          refine JL.val (v := .int .i64 (0 : Int)) (QV.assign rfl) rfl rfl rfl ?_
          refine JL.nil ?_
          refine QJ.then_normal ?_
          refine JC.ret ?_
          obtain rfl := Option.some.inj hm
          exact QJ.body (vs := [.int .i64 (0 : Int)]) (.inl rfl) rfl (ResVs.cons (ResV.tmp rfl) ResVs.nil) [] rfl rfl (.inr trivial) ⟨rfl, rfl⟩

/-! ### 61: drogher/ots.Size -/
noncomputable def F61.m (x1 : Int) : Option Int :=
  ((F60.m (x1)).bind fun y3 => (if y3 = (0 : Int) then some (0 : Int) else some (IntKind.wrap .i64 ((36 : Int) + (IntKind.wrap .i64 ((32 : Int) * y3))))))
set_option maxRecDepth 100000 in
set_option maxHeartbeats 4000000 in
theorem F61.spec (x1 : Int) (r : Int) (hm : F61.m x1 = some r) :
    Ctr Try.prog false 61 [.int .u32 x1] [] (fun v L' => v = .int .i64 r ∧ L' = []) := by
  refine Ctr.intro (n := 11) (env := [(0, .int .u32 x1)]) Try.func61 rfl rfl rfl rfl (fun c => ?_)
  unfold F61.m at hm
  refine JC.seq ?_
  refine JC.region ?_
  refine JL.val (v := .int .i64 (0 : Int)) (QV.assign rfl) rfl rfl rfl ?_
  refine JL.nil ?_
  refine QJ.then_normal ?_
  refine JC.seq ?_
  refine JC.region ?_
  refine JL.val (v := .int .u32 x1) (QV.move rfl) rfl rfl rfl ?_
  obtain ⟨y3, hc4, hm⟩ := bind_inv hm
  refine JL.mv (d := some 5) (MV.call (Lo := []) (Lr := []) (F60.spec (x1) _ hc4) rfl Try.func60 rfl rfl rfl [] [] rfl rfl rfl trivial) rfl rfl rfl ?_
  rintro _ _ ⟨_, ⟨rfl, rfl⟩, rfl⟩
  refine JL.val (v := .int .i64 y3) (QV.assign rfl) rfl rfl rfl ?_
  refine JL.nil ?_
  refine QJ.then_normal ?_
  refine JC.seq ?_
  refine JC.seq ?_
  refine JC.region ?_
  refine JL.val (v := .int .i64 y3) (QV.move rfl) rfl rfl rfl ?_
  refine JL.val (v := .bool (decide (y3 = (0 : Int)))) (QV.eql rfl rfl) rfl rfl rfl ?_
  refine JL.nil ?_
  refine QJ.then_normal ?_
  rcases ite_inv hm with ⟨h5, hm⟩ | ⟨h5, hm⟩
  ·
    refine JC.condT' rfl (decide_eq_true h5) ?_
    refine JC.seq ?_
    refine JC.region ?_
    refine JL.val (v := .int .i64 (0 : Int)) (QV.assign rfl) rfl rfl rfl ?_
    refine JL.nil ?_
    refine QJ.then_normal ?_
    refine JC.ret ?_
    refine QJ.then_ret ?_
    obtain rfl := Option.some.inj hm
    exact QJ.body (vs := [.int .i64 (0 : Int)]) (.inl rfl) rfl (ResVs.cons (ResV.tmp rfl) ResVs.nil) [] rfl rfl (.inr trivial) ⟨rfl, rfl⟩
  ·
    refine JC.condF' rfl (decide_eq_false h5) ?_
    refine JC.skip ?_
    refine QJ.then_normal ?_
    refine JC.seq ?_
    refine JC.region ?_
    refine JL.val (v := .int .i64 y3) (QV.move rfl) rfl rfl rfl ?_
    refine JL.val (v := .int .i64 (IntKind.wrap .i64 ((32 : Int) * y3))) (QV.mul rfl rfl) rfl rfl rfl ?_
    refine JL.val (v := .int .i64 (IntKind.wrap .i64 ((36 : Int) + (IntKind.wrap .i64 ((32 : Int) * y3))))) (QV.add rfl rfl) rfl rfl rfl ?_
    refine JL.val (v := .int .i64 (IntKind.wrap .i64 ((36 : Int) + (IntKind.wrap .i64 ((32 : Int) * y3))))) (QV.assign rfl) rfl rfl rfl ?_
    refine JL.nil ?_
    refine QJ.then_normal ?_
    refine JC.ret ?_
    obtain rfl := Option.some.inj hm
    exact QJ.body (vs := [.int .i64 (IntKind.wrap .i64 ((36 : Int) + (IntKind.wrap .i64 ((32 : Int) * y3))))]) (.inl rfl) rfl (ResVs.cons (ResV.tmp rfl) ResVs.nil) [] rfl rfl (.inr trivial) ⟨rfl, rfl⟩

/-! ### 80: drogher/ots.named -/
noncomputable def F80.m (x1 : Int) (x2 : (Arr Int 16)) (x3 : Int) : Option (Arr Int 20) :=
  ((F25.m (([] : List Int)) ((4 : Int)) ((IntKind.wrap .u64 x3))).bind fun y8 => some (Arr.cp (Arr.cp (Arr.rep 20 (0 : Int)) (0 : Int) ((20 : Nat) : Int) (subL (x2).l (0 : Int) ((16 : Nat) : Int))) (16 : Int) ((20 : Nat) : Int) y8))
set_option maxRecDepth 100000 in
set_option maxHeartbeats 4000000 in
theorem F80.spec (x1 : Int) (x2 : (Arr Int 16)) (x3 : Int) (r : (Arr Int 20)) (hm : F80.m x1 x2 x3 = some r) :
    Ctr Try.prog false 80 [.int .u32 x1, .agg (((Enc.arr 16 (Enc.int .u8))).enc x2).toArray, .int .u32 x3] [] (fun v L' => v = .agg (flat [Seg.c (.int .u32 x1), Seg.of (Enc.arr 20 (Enc.int .u8)) r]).toArray ∧ L' = []) := by
  refine Ctr.intro (n := 21) (env := [(0, .int .u32 x1), (1, .agg (((Enc.arr 16 (Enc.int .u8))).enc x2).toArray), (2, .int .u32 x3)]) Try.func80 rfl rfl rfl rfl (fun c => ?_)
  unfold F80.m at hm
  refine JC.seq ?_
  refine JC.region ?_
  refine JL.mv (d := some 4) (MV.box [Seg.of (Enc.arr 16 (Enc.int .u8)) x2] rfl (fun w hs => rfl)) rfl rfl rfl ?_
  rintro _ _ ⟨b5, rfl, rfl⟩
  refine JL.mv (d := some 6) (MV.alloc [Seg.c (.int .u32 (0 : Int)), Seg.of (Enc.arr 20 (Enc.int .u8)) (Arr.rep 20 (0 : Int))] z_114 rfl) rfl rfl rfl ?_
  rintro _ _ ⟨b6, rfl, rfl⟩
  refine JL.nil ?_
  refine QJ.then_normal ?_
  refine JC.seq ?_
  refine JC.region ?_
  refine JL.val (v := .int .u32 x1) (QV.move rfl) rfl rfl rfl ?_
  refine JL.val (v := .agg (flat [Seg.c (.int .u32 x1), Seg.of (Enc.arr 20 (Enc.int .u8)) (Arr.rep 20 (0 : Int))]).toArray) (QV.build (vals := [(0, .int .u32 x1)]) rfl (by kernel_rfl)) rfl rfl rfl ?_
  refine JL.mv (d := some 7) (MV.alloc [Seg.c (.int .u32 (0 : Int)), Seg.of (Enc.arr 20 (Enc.int .u8)) (Arr.rep 20 (0 : Int))] z_114 rfl) rfl rfl rfl ?_
  rintro _ _ ⟨b7, rfl, rfl⟩
  refine JL.mv (d := none) (MV.store (ss := [Seg.c (.int .u32 (0 : Int)), Seg.of (Enc.arr 20 (Enc.int .u8)) (Arr.rep 20 (0 : Int))]) 0 0 2 [Seg.c (.int .u32 x1), Seg.of (Enc.arr 20 (Enc.int .u8)) (Arr.rep 20 (0 : Int))] rfl tk_114 rfl rfl rfl rfl (fun w hs => ⟨rfl, one_c rfl, one_of _ _, trivial⟩)) rfl rfl rfl ?_
  rintro _ _ ⟨rfl, rfl⟩
  refine JL.nil ?_
  refine QJ.then_normal ?_
  refine JC.seq ?_
  refine JC.regionT [Asr.blk b6 114 [Seg.c (.int .u32 (0 : Int)), Seg.of (Enc.arr 20 (Enc.int .u8)) (Arr.rep 20 (0 : Int))], Asr.blk b5 78 [Seg.of (Enc.arr 16 (Enc.int .u8)) x2]] (fun t => false) [(0, true), (1, true), (2, false), (3, false)] (by kernel_rfl) (by kernel_rfl) (by kernel_rfl) rfl (fun hsel => ?_)
  refine JT.take (i := 0) (v := .pointer (some ⟨b7, 1, none⟩)) hsel rfl (QV.fieldB fo_114_1 rfl rfl) rfl rfl rfl [1, 2] rfl rfl ?_
  refine JT.take (i := 1) (v := (SlV.sub ((Enc.int .u8)).sz (SlV.mk (some ⟨b7, 1, none⟩) 20 20) (0 : Int) ((20 : Nat) : Int)).v) hsel rfl (QV.sliceB Try.underlying112 tk_5 rfl rfl rfl (by decide)) rfl rfl rfl [1, 2] rfl rfl ?_
  refine JT.only (i := 2) (d := some 12) rfl (MV.ofQV (v := (SlV.sub ((Enc.int .u8)).sz (SlV.mk (some ⟨b5, 0, none⟩) 16 16) (0 : Int) ((16 : Nat) : Int)).v) (QV.sliceB Try.underlying78 tk_5 rfl rfl rfl (by decide))) rfl rfl rfl ?_
  rintro _ _ ⟨rfl, rfl⟩
  refine ⟨fun _ => ⟨[1, 2], rfl, rfl⟩, ?_⟩
  refine JT.only (i := 3) (d := some 13) rfl (MV.copyB (ss := [Seg.c (.int .u32 x1), Seg.of (Enc.arr 20 (Enc.int .u8)) (Arr.rep 20 (0 : Int))]) (xs := (Arr.rep 20 (0 : Int))) (l := (0 : Int)) (h := ((20 : Nat) : Int)) 0 1 rfl (Rdg.ofDrv ((Drv.arr (ss := [Seg.of (Enc.arr 16 (Enc.int .u8)) x2]) 2 0 rfl rfl rfl rfl).subV (by rw [Arr.h]; exact (show 0 ≤ (0 : Int) ∧ (0 : Int) ≤ ((16 : Nat) : Int) ∧ ((16 : Nat) : Int) ≤ ((16 : Nat) : Int) from by decide)))) Try.underlying22 tk_5 rfl rfl rfl rfl (show 0 ≤ (0 : Int) ∧ (0 : Int) ≤ ((20 : Nat) : Int) ∧ ((20 : Nat) : Int) ≤ ((20 : Nat) : Int) from by decide)) rfl rfl rfl ?_
  rintro _ _ ⟨rfl, rfl⟩
  refine ⟨fun _ => ⟨[1, 2], rfl, rfl⟩, ?_⟩
  refine JT.grow [Asr.blk b7 114 [Seg.c (.int .u32 x1), Seg.of (Enc.arr 20 (Enc.int .u8)) (Arr.cp (Arr.rep 20 (0 : Int)) (0 : Int) ((20 : Nat) : Int) (subL (x2).l (0 : Int) ((16 : Nat) : Int)))], Asr.blk b6 114 [Seg.c (.int .u32 (0 : Int)), Seg.of (Enc.arr 20 (Enc.int .u8)) (Arr.rep 20 (0 : Int))], Asr.blk b5 78 [Seg.of (Enc.arr 16 (Enc.int .u8)) x2]] [1, 2] rfl rfl ?_
  refine JT.nil ?_
  refine QJ.then_normal ?_
  refine JC.seq ?_
  refine JC.regionT [Asr.blk b6 114 [Seg.c (.int .u32 (0 : Int)), Seg.of (Enc.arr 20 (Enc.int .u8)) (Arr.rep 20 (0 : Int))], Asr.blk b5 78 [Seg.of (Enc.arr 16 (Enc.int .u8)) x2]] (fun t => false) [(0, true), (1, true), (2, false), (3, false), (4, false), (5, false)] (by kernel_rfl) (by kernel_rfl) (by kernel_rfl) rfl (fun hsel => ?_)
  refine JT.take (i := 0) (v := .pointer (some ⟨b7, 1, none⟩)) hsel rfl (QV.fieldB fo_114_1 rfl rfl) rfl rfl rfl [1, 2] rfl rfl ?_
  refine JT.take (i := 1) (v := (SlV.sub ((Enc.int .u8)).sz (SlV.mk (some ⟨b7, 1, none⟩) 20 20) (16 : Int) ((20 : Nat) : Int)).v) hsel rfl (QV.sliceB Try.underlying112 tk_5 rfl rfl rfl (by decide)) rfl rfl rfl [1, 2] rfl rfl ?_
  refine JT.only (i := 2) (d := some 16) rfl (MV.ofQV (v := .int .u32 x3) (QV.move rfl)) rfl rfl rfl ?_
  rintro _ _ ⟨rfl, rfl⟩
  refine ⟨fun _ => ⟨[1, 2], rfl, rfl⟩, ?_⟩
  refine JT.only (i := 3) (d := some 17) rfl (MV.ofQV (v := .int .u64 (IntKind.wrap .u64 x3)) (QV.conv rfl (by rw [Try.underlying74]; rfl) Try.underlying28)) rfl rfl rfl ?_
  rintro _ _ ⟨rfl, rfl⟩
  refine ⟨fun _ => ⟨[1, 2], rfl, rfl⟩, ?_⟩
  refine JT.ent (fun _ hs => hs.nil 5 (Enc.int .u8)) ?_
  obtain ⟨y8, hc9, hm⟩ := bind_inv hm
  refine JT.only (i := 4) (d := some 18) rfl (MV.call (Lo := []) (Lr := [Asr.of 5 (Enc.int .u8) (SlV.nil.v) ([] : List Int), Asr.blk b7 114 [Seg.c (.int .u32 x1), Seg.of (Enc.arr 20 (Enc.int .u8)) (Arr.cp (Arr.rep 20 (0 : Int)) (0 : Int) ((20 : Nat) : Int) (subL (x2).l (0 : Int) ((16 : Nat) : Int)))], Asr.blk b6 114 [Seg.c (.int .u32 (0 : Int)), Seg.of (Enc.arr 20 (Enc.int .u8)) (Arr.rep 20 (0 : Int))], Asr.blk b5 78 [Seg.of (Enc.arr 16 (Enc.int .u8)) x2]]) (F25.spec (SlV.nil) (([] : List Int)) ((4 : Int)) ((IntKind.wrap .u64 x3)) _ hc9) rfl Try.func25 rfl rfl rfl [] [0, 1, 2, 3] rfl rfl rfl ⟨(Drv.of 0 rfl), trivial⟩) rfl rfl rfl ?_
  rintro _ _ ⟨_, ⟨z10, rfl, rfl⟩, rfl⟩
  refine ⟨fun _ => ⟨[3, 4], rfl, rfl⟩, ?_⟩
  refine JT.grow [Asr.of 5 (Enc.int .u8) (z10.v) y8, Asr.of 5 (Enc.int .u8) (SlV.nil.v) ([] : List Int), Asr.blk b6 114 [Seg.c (.int .u32 (0 : Int)), Seg.of (Enc.arr 20 (Enc.int .u8)) (Arr.rep 20 (0 : Int))], Asr.blk b5 78 [Seg.of (Enc.arr 16 (Enc.int .u8)) x2]] [2, 3] rfl rfl ?_
  refine JT.only (i := 5) (d := some 19) rfl (MV.copyB (ss := [Seg.c (.int .u32 x1), Seg.of (Enc.arr 20 (Enc.int .u8)) (Arr.cp (Arr.rep 20 (0 : Int)) (0 : Int) ((20 : Nat) : Int) (subL (x2).l (0 : Int) ((16 : Nat) : Int)))]) (xs := (Arr.cp (Arr.rep 20 (0 : Int)) (0 : Int) ((20 : Nat) : Int) (subL (x2).l (0 : Int) ((16 : Nat) : Int)))) (l := (16 : Int)) (h := ((20 : Nat) : Int)) 2 1 rfl (Rdg.of 0 rfl) Try.underlying22 tk_5 rfl rfl rfl rfl (show 0 ≤ (16 : Int) ∧ (16 : Int) ≤ ((20 : Nat) : Int) ∧ ((20 : Nat) : Int) ≤ ((20 : Nat) : Int) from by decide)) rfl rfl rfl ?_
  rintro _ _ ⟨rfl, rfl⟩
  refine ⟨fun _ => ⟨[0, 1, 3, 4], rfl, rfl⟩, ?_⟩
  refine JT.grow [Asr.of 5 (Enc.int .u8) (z10.v) y8, Asr.of 5 (Enc.int .u8) (SlV.nil.v) ([] : List Int), Asr.blk b7 114 [Seg.c (.int .u32 x1), Seg.of (Enc.arr 20 (Enc.int .u8)) (Arr.cp (Arr.cp (Arr.rep 20 (0 : Int)) (0 : Int) ((20 : Nat) : Int) (subL (x2).l (0 : Int) ((16 : Nat) : Int))) (16 : Int) ((20 : Nat) : Int) y8)], Asr.blk b6 114 [Seg.c (.int .u32 (0 : Int)), Seg.of (Enc.arr 20 (Enc.int .u8)) (Arr.rep 20 (0 : Int))], Asr.blk b5 78 [Seg.of (Enc.arr 16 (Enc.int .u8)) x2]] [0, 1, 3, 4] rfl rfl ?_
  refine JT.nil ?_
  refine QJ.then_normal ?_
  refine JC.seq ?_
  refine JC.region ?_
  refine JL.val (v := .agg (flat [Seg.c (.int .u32 x1), Seg.of (Enc.arr 20 (Enc.int .u8)) (Arr.cp (Arr.cp (Arr.rep 20 (0 : Int)) (0 : Int) ((20 : Nat) : Int) (subL (x2).l (0 : Int) ((16 : Nat) : Int))) (16 : Int) ((20 : Nat) : Int) y8)]).toArray) (QV.eq (QV.loadN (ss := [Seg.c (.int .u32 x1), Seg.of (Enc.arr 20 (Enc.int .u8)) (Arr.cp (Arr.cp (Arr.rep 20 (0 : Int)) (0 : Int) ((20 : Nat) : Int) (subL (x2).l (0 : Int) ((16 : Nat) : Int))) (16 : Int) ((20 : Nat) : Int) y8)]) 2 0 2 rfl tk_114 rfl rfl rfl rfl) rfl) rfl rfl rfl ?_
  refine JL.mv (d := none) (MV.store (ss := [Seg.c (.int .u32 (0 : Int)), Seg.of (Enc.arr 20 (Enc.int .u8)) (Arr.rep 20 (0 : Int))]) 3 0 2 [Seg.c (.int .u32 x1), Seg.of (Enc.arr 20 (Enc.int .u8)) (Arr.cp (Arr.cp (Arr.rep 20 (0 : Int)) (0 : Int) ((20 : Nat) : Int) (subL (x2).l (0 : Int) ((16 : Nat) : Int))) (16 : Int) ((20 : Nat) : Int) y8)] rfl tk_114 rfl rfl rfl rfl (fun w hs => ⟨rfl, one_c rfl, one_of _ _, trivial⟩)) rfl rfl rfl ?_
  rintro _ _ ⟨rfl, rfl⟩
  refine JL.nil ?_
  refine QJ.then_normal ?_
  refine JC.ret ?_
  obtain rfl := Option.some.inj hm
  exact QJ.body (vs := [.agg (flat [Seg.c (.int .u32 x1), Seg.of (Enc.arr 20 (Enc.int .u8)) (Arr.cp (Arr.cp (Arr.rep 20 (0 : Int)) (0 : Int) ((20 : Nat) : Int) (subL (x2).l (0 : Int) ((16 : Nat) : Int))) (16 : Int) ((20 : Nat) : Int) y8)]).toArray]) (.inl rfl) rfl (ResVs.cons (ResV.cell (d := none) (ty := 0) (ps := "") (af := #[]) (g := none) rfl (QV.eq (QV.loadN (ss := [Seg.c (.int .u32 x1), Seg.of (Enc.arr 20 (Enc.int .u8)) (Arr.cp (Arr.cp (Arr.rep 20 (0 : Int)) (0 : Int) ((20 : Nat) : Int) (subL (x2).l (0 : Int) ((16 : Nat) : Int))) (16 : Int) ((20 : Nat) : Int) y8)]) 3 0 2 rfl tk_114 rfl rfl rfl rfl) rfl)) ResVs.nil) [] rfl rfl (.inr trivial) ⟨rfl, rfl⟩

/-! ### 82: (drogher/ots.key).top -/
noncomputable def F82.m (x1 : Int) (x2 : (Arr Int 20)) : Option Int :=
  ((F58.m (x1)).bind fun y5 => (if 0 ≤ y5 then some (IntKind.wrap .i64 ((shlI .i64 (1 : Int) y5) - (1 : Int))) else none))
set_option maxRecDepth 100000 in
set_option maxHeartbeats 4000000 in
theorem F82.spec (x1 : Int) (x2 : (Arr Int 20)) (r : Int) (hm : F82.m x1 x2 = some r) :
    Ctr Try.prog false 82 [.agg (flat [Seg.c (.int .u32 x1), Seg.of (Enc.arr 20 (Enc.int .u8)) x2]).toArray] [] (fun v L' => v = .int .i64 r ∧ L' = []) := by
  refine Ctr.intro (n := 8) (env := [(0, .agg (flat [Seg.c (.int .u32 x1), Seg.of (Enc.arr 20 (Enc.int .u8)) x2]).toArray)]) Try.func82 rfl rfl rfl rfl (fun c => ?_)
  unfold F82.m at hm
  refine JC.seq ?_
  refine JC.region ?_
  refine JL.mv (d := some 1) (MV.box [Seg.c (.int .u32 x1), Seg.of (Enc.arr 20 (Enc.int .u8)) x2] rfl (fun w hs => rfl)) rfl rfl rfl ?_
  rintro _ _ ⟨b4, rfl, rfl⟩
  refine JL.val (v := .int .i64 (0 : Int)) (QV.assign rfl) rfl rfl rfl ?_
  refine JL.nil ?_
  refine QJ.then_normal ?_
  refine JC.seq ?_
  refine JC.region ?_
  refine JL.val (v := .pointer (some ⟨b4, 0, none⟩)) (QV.fieldB fo_114_0 rfl rfl) rfl rfl rfl ?_
  refine JL.val (v := .int .u32 x1) (QV.load1 (ss := [Seg.c (.int .u32 x1), Seg.of (Enc.arr 20 (Enc.int .u8)) x2]) 0 0 rfl tk_74 rfl rfl rfl) rfl rfl rfl ?_
  obtain ⟨y5, hc6, hm⟩ := bind_inv hm
  refine JL.mv (d := some 5) (MV.call (Lo := []) (Lr := [Asr.blk b4 114 [Seg.c (.int .u32 x1), Seg.of (Enc.arr 20 (Enc.int .u8)) x2]]) (F58.spec (x1) _ hc6) rfl Try.func58 rfl rfl rfl [] [0] rfl rfl rfl trivial) rfl rfl rfl ?_
  rintro _ _ ⟨_, ⟨rfl, rfl⟩, rfl⟩
  obtain ⟨h7, hm⟩ := guard_inv hm
  refine JL.val (v := .int .i64 (shlI .i64 (1 : Int) y5)) (QV.shl rfl rfl h7) rfl rfl rfl ?_
  refine JL.val (v := .int .i64 (IntKind.wrap .i64 ((shlI .i64 (1 : Int) y5) - (1 : Int)))) (QV.sub rfl rfl) rfl rfl rfl ?_
  refine JL.val (v := .int .i64 (IntKind.wrap .i64 ((shlI .i64 (1 : Int) y5) - (1 : Int)))) (QV.assign rfl) rfl rfl rfl ?_
  refine JL.nil ?_
  refine QJ.then_normal ?_
  refine JC.ret ?_
  obtain rfl := Option.some.inj hm
  exact QJ.body (vs := [.int .i64 (IntKind.wrap .i64 ((shlI .i64 (1 : Int) y5) - (1 : Int)))]) (.inl rfl) rfl (ResVs.cons (ResV.tmp rfl) ResVs.nil) [] rfl rfl (.inr trivial) ⟨rfl, rfl⟩

/-! ### 84: (drogher/ots.key).two -/
noncomputable def F84.j1  (d18 : (Arr Int 8)) (d19 : (Arr Int 64)) (d20 : Int) (d21 : Int) : Option (Arr Int 32) :=
  ((F36.m (d18) (d19) (d20) (d21)).bind fun y22 => some y22)
noncomputable def F84.b1 (x5 : List (List Int)) : ((Arr Int 8) × (Arr Int 64) × Int × Int × Int) → Option (((Arr Int 8) × (Arr Int 64) × Int × Int × Int) ⊕ ((Arr Int 8) × (Arr Int 64) × Int × Int))
  | (d24, d25, d26, d27, d28) => (if d28 < ((x5).length : Int) then (if 0 ≤ d28 ∧ d28 < ((x5).length : Int) then ((F35.m (d24) (d25) (d26) (d27) ((gd x5 d28))).bind fun y40 => some (.inl (y40.1, y40.2.1, y40.2.2.1, y40.2.2.2, (IntKind.wrap .i64 (d28 + (1 : Int)))))) else none) else some (.inr (d24, d25, d26, d27)))
noncomputable def F84.m (x1 : Int) (x2 : (Arr Int 20)) (x3 : Int) (x5 : List (List Int)) : Option (Arr Int 32) :=
  ((F34.m).bind fun y10 => ((F35.m (y10.1) (y10.2) ((0 : Int)) ((0 : Int)) ((subL (x2).l (0 : Int) ((20 : Nat) : Int)))).bind fun y13 => ((F35.m (y13.1) (y13.2.1) (y13.2.2.1) (y13.2.2.2) ([(IntKind.wrap .u8 (shrI .u16 x3 (8 : Int))), (IntKind.wrap .u8 x3)])).bind fun y16 => ((loop (F84.b1 x5) (y16.1, y16.2.1, y16.2.2.1, y16.2.2.2, (0 : Int))).bind fun y => match y with | (d18, d19, d20, d21) => F84.j1 (d18) (d19) (d20) (d21)))))
set_option maxRecDepth 100000 in
set_option maxHeartbeats 4000000 in
theorem F84.spec (s4 : SlV) (z6 : List SlV) (x1 : Int) (x2 : (Arr Int 20)) (x3 : Int) (x5 : List (List Int)) (r : (Arr Int 32)) (hm : F84.m x1 x2 x3 x5 = some r) :
    Ctr Try.prog false 84 [.agg (flat [Seg.c (.int .u32 x1), Seg.of (Enc.arr 20 (Enc.int .u8)) x2]).toArray, .int .u16 x3, s4.v] [Asr.vn (NE.sl (Enc.int .u8)) (s4.v) z6 x5] (fun v L' => v = .agg (((Enc.arr 32 (Enc.int .u8))).enc r).toArray ∧ L' = []) := by
  refine Ctr.intro (n := 35) (env := [(0, .agg (flat [Seg.c (.int .u32 x1), Seg.of (Enc.arr 20 (Enc.int .u8)) x2]).toArray), (1, .int .u16 x3), (2, s4.v)]) Try.func84 rfl rfl rfl rfl (fun c => ?_)
  unfold F84.m at hm
  refine JC.seq ?_
  refine JC.region ?_
  refine JL.mv (d := some 3) (MV.box [Seg.c (.int .u32 x1), Seg.of (Enc.arr 20 (Enc.int .u8)) x2] rfl (fun w hs => rfl)) rfl rfl rfl ?_
  rintro _ _ ⟨b8, rfl, rfl⟩
  refine JL.mv (d := some 6) (MV.alloc [Seg.of (Enc.arr 32 (Enc.int .u8)) (Arr.rep 32 (0 : Int))] z_41 rfl) rfl rfl rfl ?_
  rintro _ _ ⟨b9, rfl, rfl⟩
  refine JL.nil ?_
  refine QJ.then_normal ?_
  refine JC.seq ?_
  refine JC.region ?_
  obtain ⟨y10, hc11, hm⟩ := bind_inv hm
  refine JL.mv (d := some 10) (MV.call (Lo := []) (Lr := [Asr.blk b9 41 [Seg.of (Enc.arr 32 (Enc.int .u8)) (Arr.rep 32 (0 : Int))], Asr.blk b8 114 [Seg.c (.int .u32 x1), Seg.of (Enc.arr 20 (Enc.int .u8)) x2], Asr.vn (NE.sl (Enc.int .u8)) (s4.v) z6 x5]) (F34.spec _ hc11) rfl Try.func34 rfl rfl rfl [] [0, 1, 2] rfl rfl rfl trivial) rfl rfl rfl ?_
  rintro _ _ ⟨_, ⟨b12, rfl, rfl⟩, rfl⟩
  refine JL.val (v := .pointer (some ⟨b12, 0, none⟩)) (QV.assign rfl) rfl rfl rfl ?_
  refine JL.nil ?_
  refine QJ.then_normal ?_
  refine JC.seq ?_
  refine JC.region ?_
  refine JL.val (v := .pointer (some ⟨b12, 0, none⟩)) (QV.move rfl) rfl rfl rfl ?_
  refine JL.val (v := .pointer (some ⟨b8, 1, none⟩)) (QV.fieldB fo_114_1 rfl rfl) rfl rfl rfl ?_
  refine JL.val (v := (SlV.sub ((Enc.int .u8)).sz (SlV.mk (some ⟨b8, 1, none⟩) 20 20) (0 : Int) ((20 : Nat) : Int)).v) (QV.sliceB Try.underlying112 tk_5 rfl rfl rfl (by decide)) rfl rfl rfl ?_
  obtain ⟨y13, hc14, hm⟩ := bind_inv hm
  refine JL.mv (d := some 14) (MV.call (Lo := [Asr.blk b12 105 [Seg.of (Enc.arr 8 (Enc.int .u32)) y10.1, Seg.of (Enc.arr 64 (Enc.int .u8)) y10.2, Seg.c (.int .i64 (0 : Int)), Seg.c (.int .u64 (0 : Int))]]) (Lr := [Asr.blk b9 41 [Seg.of (Enc.arr 32 (Enc.int .u8)) (Arr.rep 32 (0 : Int))], Asr.blk b8 114 [Seg.c (.int .u32 x1), Seg.of (Enc.arr 20 (Enc.int .u8)) x2], Asr.vn (NE.sl (Enc.int .u8)) (s4.v) z6 x5]) (F35.spec (b12) ((SlV.sub ((Enc.int .u8)).sz (SlV.mk (some ⟨b8, 1, none⟩) 20 20) (0 : Int) ((20 : Nat) : Int))) (y10.1) (y10.2) ((0 : Int)) ((0 : Int)) ((subL (x2).l (0 : Int) ((20 : Nat) : Int))) _ hc14) rfl Try.func35 rfl rfl rfl [0] [1, 2, 3] rfl rfl rfl ⟨((Drv.arr (ss := [Seg.c (.int .u32 x1), Seg.of (Enc.arr 20 (Enc.int .u8)) x2]) 1 1 rfl rfl rfl rfl).subV (by rw [Arr.h]; exact (show 0 ≤ (0 : Int) ∧ (0 : Int) ≤ ((20 : Nat) : Int) ∧ ((20 : Nat) : Int) ≤ ((20 : Nat) : Int) from by decide))), trivial⟩) rfl rfl rfl ?_
  rintro _ _ ⟨_, ⟨rfl, rfl⟩, rfl⟩
  refine JL.nil ?_
  refine QJ.then_normal ?_
  refine JC.seq ?_
  refine JC.region ?_
  refine JL.val (v := .pointer (some ⟨b12, 0, none⟩)) (QV.move rfl) rfl rfl rfl ?_
  refine JL.val (v := .int .u16 x3) (QV.move rfl) rfl rfl rfl ?_
  refine JL.val (v := .int .u16 (shrI .u16 x3 (8 : Int))) (QV.shr rfl rfl (by decide)) rfl rfl rfl ?_
  refine JL.val (v := .int .u8 (IntKind.wrap .u8 (shrI .u16 x3 (8 : Int)))) (QV.conv rfl (by rw [Try.underlying36]; rfl) Try.underlying5) rfl rfl rfl ?_
  refine JL.val (v := .int .u16 x3) (QV.move rfl) rfl rfl rfl ?_
  refine JL.val (v := .int .u8 (IntKind.wrap .u8 x3)) (QV.conv rfl (by rw [Try.underlying36]; rfl) Try.underlying5) rfl rfl rfl ?_
  refine JL.mv (d := some 21) (MV.lit (E := (Enc.int .u8)) (vals := [(0, .int .u8 (IntKind.wrap .u8 (shrI .u16 x3 (8 : Int)))), (1, .int .u8 (IntKind.wrap .u8 x3))]) [(IntKind.wrap .u8 (shrI .u16 x3 (8 : Int))), (IntKind.wrap .u8 x3)] Try.underlying22 zi_5 rfl (by decide) rfl (by kernel_rfl)) rfl rfl rfl ?_
  rintro _ _ ⟨z15, rfl, rfl⟩
  obtain ⟨y16, hc17, hm⟩ := bind_inv hm
  refine JL.mv (d := some 22) (MV.call (Lo := [Asr.blk b12 105 [Seg.of (Enc.arr 8 (Enc.int .u32)) y13.1, Seg.of (Enc.arr 64 (Enc.int .u8)) y13.2.1, Seg.c (.int .i64 y13.2.2.1), Seg.c (.int .u64 y13.2.2.2)]]) (Lr := [Asr.of 5 (Enc.int .u8) (z15.v) [(IntKind.wrap .u8 (shrI .u16 x3 (8 : Int))), (IntKind.wrap .u8 x3)], Asr.blk b9 41 [Seg.of (Enc.arr 32 (Enc.int .u8)) (Arr.rep 32 (0 : Int))], Asr.blk b8 114 [Seg.c (.int .u32 x1), Seg.of (Enc.arr 20 (Enc.int .u8)) x2], Asr.vn (NE.sl (Enc.int .u8)) (s4.v) z6 x5]) (F35.spec (b12) (z15) (y13.1) (y13.2.1) (y13.2.2.1) (y13.2.2.2) ([(IntKind.wrap .u8 (shrI .u16 x3 (8 : Int))), (IntKind.wrap .u8 x3)]) _ hc17) rfl Try.func35 rfl rfl rfl [1] [0, 2, 3, 4] rfl rfl rfl ⟨(Drv.of 0 rfl), trivial⟩) rfl rfl rfl ?_
  rintro _ _ ⟨_, ⟨rfl, rfl⟩, rfl⟩
  refine JL.nil ?_
  refine QJ.then_normal ?_
  refine JC.seq ?_
  refine JC.seq ?_
  refine JC.region ?_
  refine JL.val (v := s4.v) (QV.move rfl) rfl rfl rfl ?_
  refine JL.val (v := .int .i64 ((x5).length : Int)) (QV.lenN (RdN.vn 4 rfl) Try.underlying50 rfl) rfl rfl rfl ?_
  refine JL.val (v := .int .i64 (0 : Int)) (QV.move rfl) rfl rfl rfl ?_
  refine JL.nil ?_
  refine QJ.then_normal ?_
  refine JC.cutK (Y := ((Arr Int 8) × (Arr Int 64) × Int × Int) × Unit) (fun y => match y with | ((d18, d19, d20, d21), _) => F84.j1 (d18) (d19) (d20) (d21) = some r) (fun y => match y with | ((d18, d19, d20, d21), _) => [(6, .pointer (some ⟨b9, 0, none⟩)), (7, .pointer (some ⟨b12, 0, none⟩))]) (fun y => match y with | ((d18, d19, d20, d21), _) => [Asr.blk b9 41 [Seg.of (Enc.arr 32 (Enc.int .u8)) (Arr.rep 32 (0 : Int))], Asr.blk b12 105 [Seg.of (Enc.arr 8 (Enc.int .u32)) d18, Seg.of (Enc.arr 64 (Enc.int .u8)) d19, Seg.c (.int .i64 d20), Seg.c (.int .u64 d21)]]) ?_ ?_
  ·
    rintro ⟨⟨d18, d19, d20, d21⟩, ⟨⟩⟩ hm
    unfold F84.j1 at hm
    show QJ _ _ [(6, .pointer (some ⟨b9, 0, none⟩)), (7, .pointer (some ⟨b12, 0, none⟩))] [Asr.blk b9 41 [Seg.of (Enc.arr 32 (Enc.int .u8)) (Arr.rep 32 (0 : Int))], Asr.blk b12 105 [Seg.of (Enc.arr 8 (Enc.int .u32)) d18, Seg.of (Enc.arr 64 (Enc.int .u8)) d19, Seg.c (.int .i64 d20), Seg.c (.int .u64 d21)]] _ _
    refine QJ.then_normal ?_
    refine JC.seq ?_
    refine JC.region ?_
    refine JL.val (v := .pointer (some ⟨b12, 0, none⟩)) (QV.move rfl) rfl rfl rfl ?_
    obtain ⟨y22, hc23, hm⟩ := bind_inv hm
    refine JL.mv (d := some 34) (MV.call (Lo := [Asr.blk b12 105 [Seg.of (Enc.arr 8 (Enc.int .u32)) d18, Seg.of (Enc.arr 64 (Enc.int .u8)) d19, Seg.c (.int .i64 d20), Seg.c (.int .u64 d21)]]) (Lr := [Asr.blk b9 41 [Seg.of (Enc.arr 32 (Enc.int .u8)) (Arr.rep 32 (0 : Int))]]) (F36.spec (b12) (d18) (d19) (d20) (d21) _ hc23) rfl Try.func36 rfl rfl rfl [1] [0] rfl rfl rfl trivial) rfl rfl rfl ?_
    rintro _ _ ⟨_, ⟨rfl, rfl⟩, rfl⟩
    refine JL.mv (d := none) (MV.store (ss := [Seg.of (Enc.arr 32 (Enc.int .u8)) (Arr.rep 32 (0 : Int))]) 1 0 1 [Seg.of (Enc.arr 32 (Enc.int .u8)) y22] rfl tk_41 rfl rfl rfl rfl (fun w hs => ⟨rfl, one_of _ _, trivial⟩)) rfl rfl rfl ?_
    rintro _ _ ⟨rfl, rfl⟩
    refine JL.nil ?_
    refine QJ.then_normal ?_
    refine JC.ret ?_
    obtain rfl := Option.some.inj hm
    exact QJ.body (vs := [.agg (((Enc.arr 32 (Enc.int .u8))).enc y22).toArray]) (.inl rfl) rfl (ResVs.cons (ResV.cell (d := none) (ty := 0) (ps := "") (af := #[]) (g := none) rfl (QV.eq (QV.loadN (ss := [Seg.of (Enc.arr 32 (Enc.int .u8)) y22]) 1 0 1 rfl tk_41 rfl rfl rfl rfl) rfl)) ResVs.nil) [] rfl rfl (.inr trivial) ⟨rfl, rfl⟩
  ·
    refine JC.block ?_
    obtain ⟨y34, hl35, hmo36⟩ := bind_inv hm
    refine JC.loop (F84.b1 x5) (fun x z => match x, z with | (d24, d25, d26, d27, d28), _ => [(6, .pointer (some ⟨b9, 0, none⟩)), (7, .pointer (some ⟨b12, 0, none⟩)), (23, s4.v), (24, .int .i64 ((x5).length : Int)), (25, .int .i64 d28)]) (fun x z => match x, z with | (d24, d25, d26, d27, d28), _ => [Asr.blk b9 41 [Seg.of (Enc.arr 32 (Enc.int .u8)) (Arr.rep 32 (0 : Int))], Asr.blk b12 105 [Seg.of (Enc.arr 8 (Enc.int .u32)) d24, Seg.of (Enc.arr 64 (Enc.int .u8)) d25, Seg.c (.int .i64 d26), Seg.c (.int .u64 d27)], Asr.vn (NE.sl (Enc.int .u8)) (s4.v) z6 x5]) (y16.1, y16.2.1, y16.2.2.1, y16.2.2.2, (0 : Int)) () y34 hl35 [2, 0, 4] (by exact ⟨rfl, rfl, rfl, rfl, rfl, trivial⟩) rfl rfl ?_
    rintro ⟨d24, d25, d26, d27, d28⟩ ⟨⟩ s37 hm
    unfold F84.b1 at hm
    dsimp only at hm
    show JC _ _ _ [(6, .pointer (some ⟨b9, 0, none⟩)), (7, .pointer (some ⟨b12, 0, none⟩)), (23, s4.v), (24, .int .i64 ((x5).length : Int)), (25, .int .i64 d28)] [Asr.blk b9 41 [Seg.of (Enc.arr 32 (Enc.int .u8)) (Arr.rep 32 (0 : Int))], Asr.blk b12 105 [Seg.of (Enc.arr 8 (Enc.int .u32)) d24, Seg.of (Enc.arr 64 (Enc.int .u8)) d25, Seg.c (.int .i64 d26), Seg.c (.int .u64 d27)], Asr.vn (NE.sl (Enc.int .u8)) (s4.v) z6 x5] _ _
    refine JC.seq ?_
    refine JC.region ?_
    refine JL.val (v := .bool (decide (d28 < ((x5).length : Int)))) (QV.lss rfl rfl) rfl rfl rfl ?_
    refine JL.nil ?_
    refine QJ.then_normal ?_
    refine JC.seq ?_
    rcases ite_inv hm with ⟨h38, hm⟩ | ⟨h38, hm⟩
    ·
      refine JC.condT' rfl (decide_eq_true h38) ?_
      refine JC.skip ?_
      refine QJ.then_normal ?_
      refine JC.seq ?_
      refine JC.block ?_
      refine JC.seq ?_
      refine JC.region ?_
      obtain ⟨h39, hm⟩ := guard_inv hm
      refine JL.val (v := .pointer (some (elA (s4.v) (Int.toNat d28 * ((NE.sl (Enc.int .u8)).E).sz)))) (QV.indexN (RdN.vn 2 rfl) Try.underlying50 tk_22 rfl rfl h39) rfl rfl rfl ?_
      refine JL.val (v := (gd z6 d28).v) (QV.el1N (RdN.vn 2 rfl) tk_22 rfl h39 rfl) rfl rfl rfl ?_
      refine JL.val (v := (gd z6 d28).v) (QV.assign rfl) rfl rfl rfl ?_
      refine JL.nil ?_
      refine QJ.ent (fun _ hs => hs.derive (Drv.el (K := (NE.sl (Enc.int .u8))) (A := Asr.vw (Enc.int .u8) ((gd z6 d28).v) (gd x5 d28)) (Drv.vn 2 rfl) h39 (fun _ _ q => q))) ?_
      refine QJ.then_normal ?_
      refine JC.region ?_
      refine JL.val (v := .pointer (some ⟨b12, 0, none⟩)) (QV.move rfl) rfl rfl rfl ?_
      refine JL.val (v := (gd z6 d28).v) (QV.move rfl) rfl rfl rfl ?_
      obtain ⟨y40, hc41, hm⟩ := bind_inv hm
      refine JL.mv (d := some 31) (MV.call (Lo := [Asr.blk b12 105 [Seg.of (Enc.arr 8 (Enc.int .u32)) d24, Seg.of (Enc.arr 64 (Enc.int .u8)) d25, Seg.c (.int .i64 d26), Seg.c (.int .u64 d27)]]) (Lr := [Asr.vw (Enc.int .u8) ((gd z6 d28).v) (gd x5 d28), Asr.blk b9 41 [Seg.of (Enc.arr 32 (Enc.int .u8)) (Arr.rep 32 (0 : Int))], Asr.vn (NE.sl (Enc.int .u8)) (s4.v) z6 x5]) (F35.spec (b12) ((gd z6 d28)) (d24) (d25) (d26) (d27) ((gd x5 d28)) _ hc41) rfl Try.func35 rfl rfl rfl [2] [0, 1, 3] rfl rfl rfl ⟨(Drv.vw 0 rfl), trivial⟩) rfl rfl rfl ?_
      rintro _ _ ⟨_, ⟨rfl, rfl⟩, rfl⟩
      refine JL.nil ?_
      refine QJ.block_normal ?_
      refine QJ.then_normal ?_
      refine JC.region ?_
      refine JL.val (v := .int .i64 (IntKind.wrap .i64 (d28 + (1 : Int)))) (QV.add rfl rfl) rfl rfl rfl ?_
      refine JL.val (v := .int .i64 (IntKind.wrap .i64 (d28 + (1 : Int)))) (QV.move rfl) rfl rfl rfl ?_
      refine JL.nil ?_
      obtain rfl := Option.some.inj hm
      exact QJ.round_on (y40.1, y40.2.1, y40.2.2.1, y40.2.2.2, (IntKind.wrap .i64 (d28 + (1 : Int)))) () [2, 0, 3] (by exact ⟨rfl, rfl, rfl, rfl, rfl, trivial⟩) rfl rfl
    ·
      refine JC.condF' rfl (decide_eq_false h38) ?_
      refine JC.exit ?_
      refine QJ.then_exit ?_
      obtain rfl := Option.some.inj hm
      refine QJ.round_exit (fun hy => ?_)
      subst hy
      refine QJ.block_hit ?_
      exact QJ.cut_normal ((d24, d25, d26, d27), ()) hmo36 [0, 1] (by exact ⟨rfl, rfl, trivial⟩) rfl rfl

/-! ### 83: (drogher/ots.key).secret -/
noncomputable def F83.m (x1 : Int) (x2 : (Arr Int 20)) (x3 : Int) (x4 : (Arr Int 32)) : Option (Arr Int 32) :=
  ((F84.m (x1) (x2) ((IntKind.wrap .u16 x3)) ([[(255 : Int)], (subL (x4).l (0 : Int) ((32 : Nat) : Int))])).bind fun y11 => some y11)
set_option maxRecDepth 100000 in
set_option maxHeartbeats 4000000 in
theorem F83.spec (x1 : Int) (x2 : (Arr Int 20)) (x3 : Int) (x4 : (Arr Int 32)) (r : (Arr Int 32)) (hm : F83.m x1 x2 x3 x4 = some r) :
    Ctr Try.prog false 83 [.agg (flat [Seg.c (.int .u32 x1), Seg.of (Enc.arr 20 (Enc.int .u8)) x2]).toArray, .int .i64 x3, .agg (((Enc.arr 32 (Enc.int .u8))).enc x4).toArray] [] (fun v L' => v = .agg (((Enc.arr 32 (Enc.int .u8))).enc r).toArray ∧ L' = []) := by
  refine Ctr.intro (n := 14) (env := [(0, .agg (flat [Seg.c (.int .u32 x1), Seg.of (Enc.arr 20 (Enc.int .u8)) x2]).toArray), (1, .int .i64 x3), (2, .agg (((Enc.arr 32 (Enc.int .u8))).enc x4).toArray)]) Try.func83 rfl rfl rfl rfl (fun c => ?_)
  unfold F83.m at hm
  refine JC.seq ?_
  refine JC.region ?_
  refine JL.mv (d := some 3) (MV.box [Seg.c (.int .u32 x1), Seg.of (Enc.arr 20 (Enc.int .u8)) x2] rfl (fun w hs => rfl)) rfl rfl rfl ?_
  rintro _ _ ⟨b6, rfl, rfl⟩
  refine JL.mv (d := some 5) (MV.box [Seg.of (Enc.arr 32 (Enc.int .u8)) x4] rfl (fun w hs => rfl)) rfl rfl rfl ?_
  rintro _ _ ⟨b7, rfl, rfl⟩
  refine JL.mv (d := some 6) (MV.alloc [Seg.of (Enc.arr 32 (Enc.int .u8)) (Arr.rep 32 (0 : Int))] z_41 rfl) rfl rfl rfl ?_
  rintro _ _ ⟨b8, rfl, rfl⟩
  refine JL.nil ?_
  refine QJ.then_normal ?_
  refine JC.seq ?_
  refine JC.regionT [Asr.blk b7 41 [Seg.of (Enc.arr 32 (Enc.int .u8)) x4], Asr.blk b6 114 [Seg.c (.int .u32 x1), Seg.of (Enc.arr 20 (Enc.int .u8)) x2]] (fun t => false) [(0, true), (1, true), (2, true), (4, true), (3, false), (5, false), (6, false), (7, false)] (by kernel_rfl) (by kernel_rfl) (by kernel_rfl) rfl (fun hsel => ?_)
  refine JT.take (i := 0) (v := .agg (flat [Seg.c (.int .u32 x1), Seg.of (Enc.arr 20 (Enc.int .u8)) x2]).toArray) hsel rfl (QV.eq (QV.loadN (ss := [Seg.c (.int .u32 x1), Seg.of (Enc.arr 20 (Enc.int .u8)) x2]) 1 0 2 rfl tk_114 rfl rfl rfl rfl) rfl) rfl rfl rfl [1, 2] rfl rfl ?_
  refine JT.take (i := 1) (v := .int .i64 x3) hsel rfl (QV.move rfl) rfl rfl rfl [1, 2] rfl rfl ?_
  refine JT.take (i := 2) (v := .int .u16 (IntKind.wrap .u16 x3)) hsel rfl (QV.conv rfl (by rw [Try.underlying3]; rfl) Try.underlying36) rfl rfl rfl [1, 2] rfl rfl ?_
  refine JT.take (i := 4) (v := (SlV.sub ((Enc.int .u8)).sz (SlV.mk (some ⟨b7, 0, none⟩) 32 32) (0 : Int) ((32 : Nat) : Int)).v) hsel rfl (QV.sliceB Try.underlying41 tk_5 rfl rfl rfl (by decide)) rfl rfl rfl [1, 2] rfl rfl ?_
  refine JT.only (i := 3) (d := some 10) rfl (MV.lit (E := (Enc.int .u8)) (vals := [(0, .int .u8 (255 : Int))]) [(255 : Int)] Try.underlying22 zi_5 rfl (by decide) rfl (by kernel_rfl)) rfl rfl rfl ?_
  rintro _ _ ⟨z9, rfl, rfl⟩
  refine ⟨fun _ => ⟨[2, 3], rfl, rfl⟩, ?_⟩
  refine JT.grow [Asr.of 5 (Enc.int .u8) (z9.v) [(255 : Int)], Asr.blk b7 41 [Seg.of (Enc.arr 32 (Enc.int .u8)) x4], Asr.blk b6 114 [Seg.c (.int .u32 x1), Seg.of (Enc.arr 20 (Enc.int .u8)) x2]] [1, 2] rfl rfl ?_
  refine JT.only (i := 5) (d := some 12) rfl (MV.lit (E := (NE.sl (Enc.int .u8)).E) (vals := [(0, z9.v), (1, (SlV.sub ((Enc.int .u8)).sz (SlV.mk (some ⟨b7, 0, none⟩) 32 32) (0 : Int) ((32 : Nat) : Int)).v)]) [(z9, [(255 : Int)]), ((SlV.sub ((Enc.int .u8)).sz (SlV.mk (some ⟨b7, 0, none⟩) 32 32) (0 : Int) ((32 : Nat) : Int)), (subL (x4).l (0 : Int) ((32 : Nat) : Int)))] Try.underlying50 zi_22 rfl (by decide) rfl (by kernel_rfl)) rfl rfl rfl ?_
  rintro _ _ ⟨z10, rfl, rfl⟩
  refine ⟨fun _ => ⟨[1, 3, 4], rfl, rfl⟩, ?_⟩
  refine JT.grow [Asr.of 22 (NE.sl (Enc.int .u8)).E (z10.v) [(z9, [(255 : Int)]), ((SlV.sub ((Enc.int .u8)).sz (SlV.mk (some ⟨b7, 0, none⟩) 32 32) (0 : Int) ((32 : Nat) : Int)), (subL (x4).l (0 : Int) ((32 : Nat) : Int)))], Asr.of 5 (Enc.int .u8) (z9.v) [(255 : Int)], Asr.blk b7 41 [Seg.of (Enc.arr 32 (Enc.int .u8)) x4], Asr.blk b6 114 [Seg.c (.int .u32 x1), Seg.of (Enc.arr 20 (Enc.int .u8)) x2]] [1, 2, 3] rfl rfl ?_
  obtain ⟨y11, hc12, hm⟩ := bind_inv hm
  refine JT.only (i := 6) (d := some 13) rfl (MV.call (Lo := []) (Lr := [Asr.of 22 (NE.sl (Enc.int .u8)).E (z10.v) [(z9, [(255 : Int)]), ((SlV.sub ((Enc.int .u8)).sz (SlV.mk (some ⟨b7, 0, none⟩) 32 32) (0 : Int) ((32 : Nat) : Int)), (subL (x4).l (0 : Int) ((32 : Nat) : Int)))], Asr.of 5 (Enc.int .u8) (z9.v) [(255 : Int)], Asr.blk b8 41 [Seg.of (Enc.arr 32 (Enc.int .u8)) (Arr.rep 32 (0 : Int))], Asr.blk b7 41 [Seg.of (Enc.arr 32 (Enc.int .u8)) x4], Asr.blk b6 114 [Seg.c (.int .u32 x1), Seg.of (Enc.arr 20 (Enc.int .u8)) x2]]) (F84.spec (z10) ([z9, (SlV.sub ((Enc.int .u8)).sz (SlV.mk (some ⟨b7, 0, none⟩) 32 32) (0 : Int) ((32 : Nat) : Int))]) (x1) (x2) ((IntKind.wrap .u16 x3)) ([[(255 : Int)], (subL (x4).l (0 : Int) ((32 : Nat) : Int))]) _ hc12) rfl Try.func84 rfl rfl rfl [] [0, 1, 2, 3, 4] rfl rfl rfl ⟨(Drv.lit (zs := [z9, (SlV.sub ((Enc.int .u8)).sz (SlV.mk (some ⟨b7, 0, none⟩) 32 32) (0 : Int) ((32 : Nat) : Int))]) (xs := [[(255 : Int)], (subL (x4).l (0 : Int) ((32 : Nat) : Int))]) 0 rfl rfl ⟨(Drv.of 1 rfl), ⟨((Drv.arr (ss := [Seg.of (Enc.arr 32 (Enc.int .u8)) x4]) 3 0 rfl rfl rfl rfl).subV (by rw [Arr.h]; exact (show 0 ≤ (0 : Int) ∧ (0 : Int) ≤ ((32 : Nat) : Int) ∧ ((32 : Nat) : Int) ≤ ((32 : Nat) : Int) from by decide))), trivial⟩⟩), trivial⟩) rfl rfl rfl ?_
  rintro _ _ ⟨_, ⟨rfl, rfl⟩, rfl⟩
  refine ⟨fun _ => ⟨[0, 1, 3, 4], rfl, rfl⟩, ?_⟩
  refine JT.only (i := 7) (d := none) rfl (MV.store (ss := [Seg.of (Enc.arr 32 (Enc.int .u8)) (Arr.rep 32 (0 : Int))]) 2 0 1 [Seg.of (Enc.arr 32 (Enc.int .u8)) y11] rfl tk_41 rfl rfl rfl rfl (fun w hs => ⟨rfl, one_of _ _, trivial⟩)) rfl rfl rfl ?_
  rintro _ _ ⟨rfl, rfl⟩
  refine ⟨fun _ => ⟨[0, 1, 3, 4], rfl, rfl⟩, ?_⟩
  refine JT.grow [Asr.of 22 (NE.sl (Enc.int .u8)).E (z10.v) [(z9, [(255 : Int)]), ((SlV.sub ((Enc.int .u8)).sz (SlV.mk (some ⟨b7, 0, none⟩) 32 32) (0 : Int) ((32 : Nat) : Int)), (subL (x4).l (0 : Int) ((32 : Nat) : Int)))], Asr.of 5 (Enc.int .u8) (z9.v) [(255 : Int)], Asr.blk b8 41 [Seg.of (Enc.arr 32 (Enc.int .u8)) y11], Asr.blk b7 41 [Seg.of (Enc.arr 32 (Enc.int .u8)) x4], Asr.blk b6 114 [Seg.c (.int .u32 x1), Seg.of (Enc.arr 20 (Enc.int .u8)) x2]] [0, 1, 3, 4] rfl rfl ?_
  refine JT.nil ?_
  refine QJ.then_normal ?_
  refine JC.ret ?_
  obtain rfl := Option.some.inj hm
  exact QJ.body (vs := [.agg (((Enc.arr 32 (Enc.int .u8))).enc y11).toArray]) (.inl rfl) rfl (ResVs.cons (ResV.cell (d := none) (ty := 0) (ps := "") (af := #[]) (g := none) rfl (QV.eq (QV.loadN (ss := [Seg.of (Enc.arr 32 (Enc.int .u8)) y11]) 2 0 1 rfl tk_41 rfl rfl rfl rfl) rfl)) ResVs.nil) [] rfl rfl (.inr trivial) ⟨rfl, rfl⟩

/-! ### 81: (drogher/ots.key).steps -/
noncomputable def F81.j1  (d12 : (Arr Int 32)) : Option (Arr Int 32) :=
  some d12
noncomputable def F81.b1 (x5 : Int) : ((Arr Int 32) × (Arr Int 55) × Int) → Option (((Arr Int 32) × (Arr Int 55) × Int) ⊕ (Arr Int 32))
  | (d13, d14, d15) => (if d15 < x5 then ((F32.m ((subL ((Arr.cp (Arr.set d14 (22 : Int) (IntKind.wrap .u8 d15)) (23 : Int) ((55 : Nat) : Int) (subL (d13).l (0 : Int) ((32 : Nat) : Int)))).l (0 : Int) ((55 : Nat) : Int)))).bind fun y24 => some (.inl (y24, (Arr.cp (Arr.set d14 (22 : Int) (IntKind.wrap .u8 d15)) (23 : Int) ((55 : Nat) : Int) (subL (d13).l (0 : Int) ((32 : Nat) : Int))), (IntKind.wrap .i64 (d15 + (1 : Int)))))) else some (.inr d13))
noncomputable def F81.m (x1 : Int) (x2 : (Arr Int 20)) (x3 : Int) (x4 : Int) (x5 : Int) (x6 : (Arr Int 32)) : Option (Arr Int 32) :=
  ((loop (F81.b1 x5) (x6, (Arr.set (Arr.set (Arr.cp (Arr.rep 55 (0 : Int)) (0 : Int) ((55 : Nat) : Int) (subL (x2).l (0 : Int) ((20 : Nat) : Int))) (20 : Int) (IntKind.wrap .u8 (shrI .i64 x3 (8 : Int)))) (21 : Int) (IntKind.wrap .u8 x3)), x4)).bind fun y => match y with | d12 => F81.j1 (d12))
set_option maxRecDepth 100000 in
set_option maxHeartbeats 4000000 in
theorem F81.spec (x1 : Int) (x2 : (Arr Int 20)) (x3 : Int) (x4 : Int) (x5 : Int) (x6 : (Arr Int 32)) (r : (Arr Int 32)) (hm : F81.m x1 x2 x3 x4 x5 x6 = some r) :
    Ctr Try.prog false 81 [.agg (flat [Seg.c (.int .u32 x1), Seg.of (Enc.arr 20 (Enc.int .u8)) x2]).toArray, .int .i64 x3, .int .i64 x4, .int .i64 x5, .agg (((Enc.arr 32 (Enc.int .u8))).enc x6).toArray] [] (fun v L' => v = .agg (((Enc.arr 32 (Enc.int .u8))).enc r).toArray ∧ L' = []) := by
  refine Ctr.intro (n := 39) (env := [(0, .agg (flat [Seg.c (.int .u32 x1), Seg.of (Enc.arr 20 (Enc.int .u8)) x2]).toArray), (1, .int .i64 x3), (2, .int .i64 x4), (3, .int .i64 x5), (4, .agg (((Enc.arr 32 (Enc.int .u8))).enc x6).toArray)]) Try.func81 rfl rfl rfl rfl (fun c => ?_)
  unfold F81.m at hm
  refine JC.seq ?_
  refine JC.region ?_
  refine JL.mv (d := some 5) (MV.box [Seg.c (.int .u32 x1), Seg.of (Enc.arr 20 (Enc.int .u8)) x2] rfl (fun w hs => rfl)) rfl rfl rfl ?_
  rintro _ _ ⟨b8, rfl, rfl⟩
  refine JL.mv (d := some 9) (MV.box [Seg.of (Enc.arr 32 (Enc.int .u8)) x6] rfl (fun w hs => rfl)) rfl rfl rfl ?_
  rintro _ _ ⟨b9, rfl, rfl⟩
  refine JL.mv (d := some 10) (MV.alloc [Seg.of (Enc.arr 32 (Enc.int .u8)) (Arr.rep 32 (0 : Int))] z_41 rfl) rfl rfl rfl ?_
  rintro _ _ ⟨b10, rfl, rfl⟩
  refine JL.nil ?_
  refine QJ.then_normal ?_
  refine JC.seq ?_
  refine JC.region ?_
  refine JL.mv (d := some 11) (MV.alloc [Seg.of (Enc.arr 55 (Enc.int .u8)) (Arr.rep 55 (0 : Int))] z_129 rfl) rfl rfl rfl ?_
  rintro _ _ ⟨b11, rfl, rfl⟩
  refine JL.nil ?_
  refine QJ.then_normal ?_
  refine JC.seq ?_
  refine JC.regionT [Asr.blk b10 41 [Seg.of (Enc.arr 32 (Enc.int .u8)) (Arr.rep 32 (0 : Int))], Asr.blk b9 41 [Seg.of (Enc.arr 32 (Enc.int .u8)) x6], Asr.blk b8 114 [Seg.c (.int .u32 x1), Seg.of (Enc.arr 20 (Enc.int .u8)) x2]] (fun t => false) [(0, true), (1, false), (2, false), (3, false)] (by kernel_rfl) (by kernel_rfl) (by kernel_rfl) rfl (fun hsel => ?_)
  refine JT.take (i := 0) (v := (SlV.sub ((Enc.int .u8)).sz (SlV.mk (some ⟨b11, 0, none⟩) 55 55) (0 : Int) ((55 : Nat) : Int)).v) hsel rfl (QV.sliceB Try.underlying129 tk_5 rfl rfl rfl (by decide)) rfl rfl rfl [1, 2, 3] rfl rfl ?_
  refine JT.only (i := 1) (d := some 14) rfl (MV.ofQV (v := .pointer (some ⟨b8, 1, none⟩)) (QV.fieldB fo_114_1 rfl rfl)) rfl rfl rfl ?_
  rintro _ _ ⟨rfl, rfl⟩
  refine ⟨fun _ => ⟨[1, 2, 3], rfl, rfl⟩, ?_⟩
  refine JT.only (i := 2) (d := some 15) rfl (MV.ofQV (v := (SlV.sub ((Enc.int .u8)).sz (SlV.mk (some ⟨b8, 1, none⟩) 20 20) (0 : Int) ((20 : Nat) : Int)).v) (QV.sliceB Try.underlying112 tk_5 rfl rfl rfl (by decide))) rfl rfl rfl ?_
  rintro _ _ ⟨rfl, rfl⟩
  refine ⟨fun _ => ⟨[1, 2, 3], rfl, rfl⟩, ?_⟩
  refine JT.only (i := 3) (d := some 16) rfl (MV.copyB (ss := [Seg.of (Enc.arr 55 (Enc.int .u8)) (Arr.rep 55 (0 : Int))]) (xs := (Arr.rep 55 (0 : Int))) (l := (0 : Int)) (h := ((55 : Nat) : Int)) 0 0 rfl (Rdg.ofDrv ((Drv.arr (ss := [Seg.c (.int .u32 x1), Seg.of (Enc.arr 20 (Enc.int .u8)) x2]) 3 1 rfl rfl rfl rfl).subV (by rw [Arr.h]; exact (show 0 ≤ (0 : Int) ∧ (0 : Int) ≤ ((20 : Nat) : Int) ∧ ((20 : Nat) : Int) ≤ ((20 : Nat) : Int) from by decide)))) Try.underlying22 tk_5 rfl rfl rfl rfl (show 0 ≤ (0 : Int) ∧ (0 : Int) ≤ ((55 : Nat) : Int) ∧ ((55 : Nat) : Int) ≤ ((55 : Nat) : Int) from by decide)) rfl rfl rfl ?_
  rintro _ _ ⟨rfl, rfl⟩
  refine ⟨fun _ => ⟨[1, 2, 3], rfl, rfl⟩, ?_⟩
  refine JT.grow [Asr.blk b11 129 [Seg.of (Enc.arr 55 (Enc.int .u8)) (Arr.cp (Arr.rep 55 (0 : Int)) (0 : Int) ((55 : Nat) : Int) (subL (x2).l (0 : Int) ((20 : Nat) : Int)))], Asr.blk b10 41 [Seg.of (Enc.arr 32 (Enc.int .u8)) (Arr.rep 32 (0 : Int))], Asr.blk b9 41 [Seg.of (Enc.arr 32 (Enc.int .u8)) x6], Asr.blk b8 114 [Seg.c (.int .u32 x1), Seg.of (Enc.arr 20 (Enc.int .u8)) x2]] [1, 2, 3] rfl rfl ?_
  refine JT.nil ?_
  refine QJ.then_normal ?_
  refine JC.seq ?_
  refine JC.region ?_
  refine JL.val (v := .int .i64 x3) (QV.move rfl) rfl rfl rfl ?_
  refine JL.val (v := .int .i64 (shrI .i64 x3 (8 : Int))) (QV.shr rfl rfl (by decide)) rfl rfl rfl ?_
  refine JL.val (v := .int .u8 (IntKind.wrap .u8 (shrI .i64 x3 (8 : Int)))) (QV.conv rfl (by rw [Try.underlying3]; rfl) Try.underlying5) rfl rfl rfl ?_
  refine JL.val (v := .int .i64 x3) (QV.move rfl) rfl rfl rfl ?_
  refine JL.val (v := .int .u8 (IntKind.wrap .u8 x3)) (QV.conv rfl (by rw [Try.underlying3]; rfl) Try.underlying5) rfl rfl rfl ?_
  refine JL.val (v := .pointer (some ⟨b11, 0 + Int.toNat (20 : Int) * 1, none⟩)) (QV.indexB Try.underlying129 tk_5 rfl rfl (by decide)) rfl rfl rfl ?_
  refine JL.mv (d := none) (MV.storeAr (ss := [Seg.of (Enc.arr 55 (Enc.int .u8)) (Arr.cp (Arr.rep 55 (0 : Int)) (0 : Int) ((55 : Nat) : Int) (subL (x2).l (0 : Int) ((20 : Nat) : Int)))]) 0 0 (IntKind.wrap .u8 (shrI .i64 x3 (8 : Int))) rfl tk_5 rfl rfl rfl rfl (by decide) rfl rfl) rfl rfl rfl ?_
  rintro _ _ ⟨rfl, rfl⟩
  refine JL.val (v := .pointer (some ⟨b11, 0 + Int.toNat (21 : Int) * 1, none⟩)) (QV.indexB Try.underlying129 tk_5 rfl rfl (by decide)) rfl rfl rfl ?_
  refine JL.mv (d := none) (MV.storeAr (ss := [Seg.of (Enc.arr 55 (Enc.int .u8)) (Arr.set (Arr.cp (Arr.rep 55 (0 : Int)) (0 : Int) ((55 : Nat) : Int) (subL (x2).l (0 : Int) ((20 : Nat) : Int))) (20 : Int) (IntKind.wrap .u8 (shrI .i64 x3 (8 : Int))))]) 0 0 (IntKind.wrap .u8 x3) rfl tk_5 rfl rfl rfl rfl (by decide) rfl rfl) rfl rfl rfl ?_
  rintro _ _ ⟨rfl, rfl⟩
  refine JL.nil ?_
  refine QJ.then_normal ?_
  refine JC.seq ?_
  refine JC.seq ?_
  refine JC.region ?_
  refine JL.val (v := .int .i64 x4) (QV.move rfl) rfl rfl rfl ?_
  refine JL.val (v := .int .i64 x4) (QV.assign rfl) rfl rfl rfl ?_
  refine JL.nil ?_
  refine QJ.then_normal ?_
  refine JC.cutK (Y := (Arr Int 32) × Unit) (fun y => match y with | (d12, _) => F81.j1 (d12) = some r) (fun y => match y with | (d12, _) => [(9, .pointer (some ⟨b9, 0, none⟩)), (10, .pointer (some ⟨b10, 0, none⟩))]) (fun y => match y with | (d12, _) => [Asr.blk b9 41 [Seg.of (Enc.arr 32 (Enc.int .u8)) d12], Asr.blk b10 41 [Seg.of (Enc.arr 32 (Enc.int .u8)) (Arr.rep 32 (0 : Int))]]) ?_ ?_
  ·
    rintro ⟨d12, ⟨⟩⟩ hm
    unfold F81.j1 at hm
    show QJ _ _ [(9, .pointer (some ⟨b9, 0, none⟩)), (10, .pointer (some ⟨b10, 0, none⟩))] [Asr.blk b9 41 [Seg.of (Enc.arr 32 (Enc.int .u8)) d12], Asr.blk b10 41 [Seg.of (Enc.arr 32 (Enc.int .u8)) (Arr.rep 32 (0 : Int))]] _ _
    refine QJ.then_normal ?_
    refine JC.seq ?_
    refine JC.region ?_
    refine JL.val (v := .agg (((Enc.arr 32 (Enc.int .u8))).enc d12).toArray) (QV.eq (QV.loadN (ss := [Seg.of (Enc.arr 32 (Enc.int .u8)) d12]) 0 0 1 rfl tk_41 rfl rfl rfl rfl) rfl) rfl rfl rfl ?_
    refine JL.mv (d := none) (MV.store (ss := [Seg.of (Enc.arr 32 (Enc.int .u8)) (Arr.rep 32 (0 : Int))]) 1 0 1 [Seg.of (Enc.arr 32 (Enc.int .u8)) d12] rfl tk_41 rfl rfl rfl rfl (fun w hs => ⟨rfl, one_of _ _, trivial⟩)) rfl rfl rfl ?_
    rintro _ _ ⟨rfl, rfl⟩
    refine JL.nil ?_
    refine QJ.then_normal ?_
    refine JC.ret ?_
    obtain rfl := Option.some.inj hm
    exact QJ.body (vs := [.agg (((Enc.arr 32 (Enc.int .u8))).enc d12).toArray]) (.inl rfl) rfl (ResVs.cons (ResV.cell (d := none) (ty := 0) (ps := "") (af := #[]) (g := none) rfl (QV.eq (QV.loadN (ss := [Seg.of (Enc.arr 32 (Enc.int .u8)) d12]) 1 0 1 rfl tk_41 rfl rfl rfl rfl) rfl)) ResVs.nil) [] rfl rfl (.inr trivial) ⟨rfl, rfl⟩
  ·
    refine JC.block ?_
    obtain ⟨y19, hl20, hmo21⟩ := bind_inv hm
    refine JC.loop (F81.b1 x5) (fun x z => match x, z with | (d13, d14, d15), _ => [(3, .int .i64 x5), (9, .pointer (some ⟨b9, 0, none⟩)), (10, .pointer (some ⟨b10, 0, none⟩)), (11, .pointer (some ⟨b11, 0, none⟩)), (12, .int .i64 d15)]) (fun x z => match x, z with | (d13, d14, d15), _ => [Asr.blk b9 41 [Seg.of (Enc.arr 32 (Enc.int .u8)) d13], Asr.blk b10 41 [Seg.of (Enc.arr 32 (Enc.int .u8)) (Arr.rep 32 (0 : Int))], Asr.blk b11 129 [Seg.of (Enc.arr 55 (Enc.int .u8)) d14]]) (x6, (Arr.set (Arr.set (Arr.cp (Arr.rep 55 (0 : Int)) (0 : Int) ((55 : Nat) : Int) (subL (x2).l (0 : Int) ((20 : Nat) : Int))) (20 : Int) (IntKind.wrap .u8 (shrI .i64 x3 (8 : Int)))) (21 : Int) (IntKind.wrap .u8 x3)), x4) () y19 hl20 [2, 1, 0] (by exact ⟨rfl, rfl, rfl, rfl, rfl, trivial⟩) rfl rfl ?_
    rintro ⟨d13, d14, d15⟩ ⟨⟩ s22 hm
    unfold F81.b1 at hm
    dsimp only at hm
    show JC _ _ _ [(3, .int .i64 x5), (9, .pointer (some ⟨b9, 0, none⟩)), (10, .pointer (some ⟨b10, 0, none⟩)), (11, .pointer (some ⟨b11, 0, none⟩)), (12, .int .i64 d15)] [Asr.blk b9 41 [Seg.of (Enc.arr 32 (Enc.int .u8)) d13], Asr.blk b10 41 [Seg.of (Enc.arr 32 (Enc.int .u8)) (Arr.rep 32 (0 : Int))], Asr.blk b11 129 [Seg.of (Enc.arr 55 (Enc.int .u8)) d14]] _ _
    refine JC.seq ?_
    refine JC.seq ?_
    refine JC.region ?_
    refine JL.val (v := .int .i64 d15) (QV.move rfl) rfl rfl rfl ?_
    refine JL.val (v := .int .i64 x5) (QV.move rfl) rfl rfl rfl ?_
    refine JL.val (v := .bool (decide (d15 < x5))) (QV.lss rfl rfl) rfl rfl rfl ?_
    refine JL.nil ?_
    refine QJ.then_normal ?_
    rcases ite_inv hm with ⟨h23, hm⟩ | ⟨h23, hm⟩
    ·
      refine JC.condT' rfl (decide_eq_true h23) ?_
      refine JC.skip ?_
      refine QJ.then_normal ?_
      refine JC.seq ?_
      refine JC.block ?_
      refine JC.seq ?_
      refine JC.region ?_
      refine JL.val (v := .int .i64 d15) (QV.move rfl) rfl rfl rfl ?_
      refine JL.val (v := .int .u8 (IntKind.wrap .u8 d15)) (QV.conv rfl (by rw [Try.underlying3]; rfl) Try.underlying5) rfl rfl rfl ?_
      refine JL.val (v := .pointer (some ⟨b11, 0 + Int.toNat (22 : Int) * 1, none⟩)) (QV.indexB Try.underlying129 tk_5 rfl rfl (by decide)) rfl rfl rfl ?_
      refine JL.mv (d := none) (MV.storeAr (ss := [Seg.of (Enc.arr 55 (Enc.int .u8)) d14]) 2 0 (IntKind.wrap .u8 d15) rfl tk_5 rfl rfl rfl rfl (by decide) rfl rfl) rfl rfl rfl ?_
      rintro _ _ ⟨rfl, rfl⟩
      refine JL.nil ?_
      refine QJ.then_normal ?_
      refine JC.seq ?_
      refine JC.regionT [Asr.blk b9 41 [Seg.of (Enc.arr 32 (Enc.int .u8)) d13], Asr.blk b10 41 [Seg.of (Enc.arr 32 (Enc.int .u8)) (Arr.rep 32 (0 : Int))]] (fun t => false) [(0, true), (1, false), (2, false)] (by kernel_rfl) (by kernel_rfl) (by kernel_rfl) rfl (fun hsel => ?_)
      refine JT.take (i := 0) (v := (SlV.sub ((Enc.int .u8)).sz (SlV.mk (some ⟨b11, 0, none⟩) 55 55) (23 : Int) ((55 : Nat) : Int)).v) hsel rfl (QV.sliceB Try.underlying129 tk_5 rfl rfl rfl (by decide)) rfl rfl rfl [0, 1] rfl rfl ?_
      refine JT.only (i := 1) (d := some 34) rfl (MV.ofQV (v := (SlV.sub ((Enc.int .u8)).sz (SlV.mk (some ⟨b9, 0, none⟩) 32 32) (0 : Int) ((32 : Nat) : Int)).v) (QV.sliceB Try.underlying41 tk_5 rfl rfl rfl (by decide))) rfl rfl rfl ?_
      rintro _ _ ⟨rfl, rfl⟩
      refine ⟨fun _ => ⟨[0, 1], rfl, rfl⟩, ?_⟩
      refine JT.only (i := 2) (d := some 35) rfl (MV.copyB (ss := [Seg.of (Enc.arr 55 (Enc.int .u8)) (Arr.set d14 (22 : Int) (IntKind.wrap .u8 d15))]) (xs := (Arr.set d14 (22 : Int) (IntKind.wrap .u8 d15))) (l := (23 : Int)) (h := ((55 : Nat) : Int)) 2 0 rfl (Rdg.ofDrv ((Drv.arr (ss := [Seg.of (Enc.arr 32 (Enc.int .u8)) d13]) 0 0 rfl rfl rfl rfl).subV (by rw [Arr.h]; exact (show 0 ≤ (0 : Int) ∧ (0 : Int) ≤ ((32 : Nat) : Int) ∧ ((32 : Nat) : Int) ≤ ((32 : Nat) : Int) from by decide)))) Try.underlying22 tk_5 rfl rfl rfl rfl (show 0 ≤ (23 : Int) ∧ (23 : Int) ≤ ((55 : Nat) : Int) ∧ ((55 : Nat) : Int) ≤ ((55 : Nat) : Int) from by decide)) rfl rfl rfl ?_
      rintro _ _ ⟨rfl, rfl⟩
      refine ⟨fun _ => ⟨[0, 1], rfl, rfl⟩, ?_⟩
      refine JT.grow [Asr.blk b9 41 [Seg.of (Enc.arr 32 (Enc.int .u8)) d13], Asr.blk b10 41 [Seg.of (Enc.arr 32 (Enc.int .u8)) (Arr.rep 32 (0 : Int))], Asr.blk b11 129 [Seg.of (Enc.arr 55 (Enc.int .u8)) (Arr.cp (Arr.set d14 (22 : Int) (IntKind.wrap .u8 d15)) (23 : Int) ((55 : Nat) : Int) (subL (d13).l (0 : Int) ((32 : Nat) : Int)))]] [0, 1] rfl rfl ?_
      refine JT.nil ?_
      refine QJ.then_normal ?_
      refine JC.region ?_
      refine JL.val (v := (SlV.sub ((Enc.int .u8)).sz (SlV.mk (some ⟨b11, 0, none⟩) 55 55) (0 : Int) ((55 : Nat) : Int)).v) (QV.sliceB Try.underlying129 tk_5 rfl rfl rfl (by decide)) rfl rfl rfl ?_
      obtain ⟨y24, hc25, hm⟩ := bind_inv hm
      refine JL.mv (d := some 37) (MV.call (Lo := []) (Lr := [Asr.blk b9 41 [Seg.of (Enc.arr 32 (Enc.int .u8)) d13], Asr.blk b10 41 [Seg.of (Enc.arr 32 (Enc.int .u8)) (Arr.rep 32 (0 : Int))], Asr.blk b11 129 [Seg.of (Enc.arr 55 (Enc.int .u8)) (Arr.cp (Arr.set d14 (22 : Int) (IntKind.wrap .u8 d15)) (23 : Int) ((55 : Nat) : Int) (subL (d13).l (0 : Int) ((32 : Nat) : Int)))]]) (F32.spec ((SlV.sub ((Enc.int .u8)).sz (SlV.mk (some ⟨b11, 0, none⟩) 55 55) (0 : Int) ((55 : Nat) : Int))) ((subL ((Arr.cp (Arr.set d14 (22 : Int) (IntKind.wrap .u8 d15)) (23 : Int) ((55 : Nat) : Int) (subL (d13).l (0 : Int) ((32 : Nat) : Int)))).l (0 : Int) ((55 : Nat) : Int))) _ hc25) rfl Try.func32 rfl rfl rfl [] [0, 1, 2] rfl rfl rfl ⟨((Drv.arr (ss := [Seg.of (Enc.arr 55 (Enc.int .u8)) (Arr.cp (Arr.set d14 (22 : Int) (IntKind.wrap .u8 d15)) (23 : Int) ((55 : Nat) : Int) (subL (d13).l (0 : Int) ((32 : Nat) : Int)))]) 2 0 rfl rfl rfl rfl).subV (by rw [Arr.h]; exact (show 0 ≤ (0 : Int) ∧ (0 : Int) ≤ ((55 : Nat) : Int) ∧ ((55 : Nat) : Int) ≤ ((55 : Nat) : Int) from by decide))), trivial⟩) rfl rfl rfl ?_
      rintro _ _ ⟨_, ⟨rfl, rfl⟩, rfl⟩
      refine JL.mv (d := none) (MV.store (ss := [Seg.of (Enc.arr 32 (Enc.int .u8)) d13]) 0 0 1 [Seg.of (Enc.arr 32 (Enc.int .u8)) y24] rfl tk_41 rfl rfl rfl rfl (fun w hs => ⟨rfl, one_of _ _, trivial⟩)) rfl rfl rfl ?_
      rintro _ _ ⟨rfl, rfl⟩
      refine JL.nil ?_
      refine QJ.block_normal ?_
      refine QJ.then_normal ?_
      refine JC.region ?_
      refine JL.val (v := .int .i64 d15) (QV.move rfl) rfl rfl rfl ?_
      refine JL.val (v := .int .i64 (IntKind.wrap .i64 (d15 + (1 : Int)))) (QV.add rfl rfl) rfl rfl rfl ?_
      refine JL.val (v := .int .i64 (IntKind.wrap .i64 (d15 + (1 : Int)))) (QV.assign rfl) rfl rfl rfl ?_
      refine JL.nil ?_
      obtain rfl := Option.some.inj hm
      exact QJ.round_on (y24, (Arr.cp (Arr.set d14 (22 : Int) (IntKind.wrap .u8 d15)) (23 : Int) ((55 : Nat) : Int) (subL (d13).l (0 : Int) ((32 : Nat) : Int))), (IntKind.wrap .i64 (d15 + (1 : Int)))) () [0, 1, 2] (by exact ⟨rfl, rfl, rfl, rfl, rfl, trivial⟩) rfl rfl
    ·
      refine JC.condF' rfl (decide_eq_false h23) ?_
      refine JC.exit ?_
      refine QJ.then_exit ?_
      obtain rfl := Option.some.inj hm
      refine QJ.round_exit (fun hy => ?_)
      subst hy
      refine QJ.block_hit ?_
      exact QJ.cut_normal (d13, ()) hmo21 [0, 1] (by exact ⟨rfl, rfl, trivial⟩) rfl rfl

/-! ### 62: drogher/ots.Public -/
noncomputable def F62.j1 (x1 : Int) (y13 : (Arr Int 20)) (d19 : List Int) : Option ((Arr Int 32) × Int) :=
  ((F84.m (x1) (y13) ((32896 : Int)) ([d19])).bind fun y21 => some (y21, (0 : Int)))
noncomputable def F62.j2 (d24 : List Int) (d25 : Int) (y38 : (Arr Int 32))  : Option ((List Int × Int) ⊕ (List Int)) :=
  (if ((d24).length + ((subL (y38).l (0 : Int) ((32 : Nat) : Int))).length) * 1 ≤ 140737488355328 ∧ (d24).length + ((subL (y38).l (0 : Int) ((32 : Nat) : Int))).length ≤ 9223372036854775807 then some (.inl ((d24 ++ (subL (y38).l (0 : Int) ((32 : Nat) : Int))), (IntKind.wrap .i64 (d25 + (1 : Int))))) else none)
noncomputable def F62.b1 (x1 : Int) (x4 : (Arr Int 32)) (y13 : (Arr Int 20)) (y16 : Int) : (List Int × Int) → Option ((List Int × Int) ⊕ (List Int))
  | (d24, d25) => (if d25 < y16 then ((F82.m (x1) (y13)).bind fun y34 => ((F83.m (x1) (y13) (d25) (x4)).bind fun y36 => ((F81.m (x1) (y13) (d25) ((0 : Int)) (y34) (y36)).bind fun y38 => F62.j2 d24 d25 y38))) else some (.inr d24))
noncomputable def F62.m (x1 : Int) (x2 : (Arr Int 16)) (x3 : Int) (x4 : (Arr Int 32)) : Option ((Arr Int 32) × Int) :=
  ((F58.m (x1)).bind fun y10 => (if y10 = (0 : Int) then some (K3, (21 : Int)) else ((F80.m (x1) (x2) (x3)).bind fun y13 => ((F60.m (x1)).bind fun y16 => ((loop (F62.b1 x1 x4 y13 y16) (([] : List Int), (0 : Int))).bind fun y => match y with | d19 => F62.j1 x1 y13 (d19))))))
set_option maxRecDepth 100000 in
set_option maxHeartbeats 4000000 in
theorem F62.spec (x1 : Int) (x2 : (Arr Int 16)) (x3 : Int) (x4 : (Arr Int 32)) (r : ((Arr Int 32) × Int)) (hm : F62.m x1 x2 x3 x4 = some r) :
    Ctr Try.prog false 62 [.int .u32 x1, .agg (((Enc.arr 16 (Enc.int .u8))).enc x2).toArray, .int .u32 x3, .agg (((Enc.arr 32 (Enc.int .u8))).enc x4).toArray] [] (fun v L' => v = .tuple #[.agg (((Enc.arr 32 (Enc.int .u8))).enc r.1).toArray, .int .i64 r.2] ∧ L' = []) := by
  refine Ctr.intro (n := 44) (env := [(0, .int .u32 x1), (1, .agg (((Enc.arr 16 (Enc.int .u8))).enc x2).toArray), (2, .int .u32 x3), (3, .agg (((Enc.arr 32 (Enc.int .u8))).enc x4).toArray)]) Try.func62 rfl rfl rfl rfl (fun c => ?_)
  unfold F62.m at hm
  refine JC.seq ?_
  refine JC.region ?_
  refine JL.mv (d := some 5) (MV.box [Seg.of (Enc.arr 16 (Enc.int .u8)) x2] rfl (fun w hs => rfl)) rfl rfl rfl ?_
  rintro _ _ ⟨b7, rfl, rfl⟩
  refine JL.mv (d := some 7) (MV.box [Seg.of (Enc.arr 32 (Enc.int .u8)) x4] rfl (fun w hs => rfl)) rfl rfl rfl ?_
  rintro _ _ ⟨b8, rfl, rfl⟩
  refine JL.mv (d := some 8) (MV.alloc [Seg.of (Enc.arr 32 (Enc.int .u8)) (Arr.rep 32 (0 : Int))] z_41 rfl) rfl rfl rfl ?_
  rintro _ _ ⟨b9, rfl, rfl⟩
  refine JL.val (v := .int .i64 (0 : Int)) (QV.assign rfl) rfl rfl rfl ?_
  refine JL.nil ?_
  refine QJ.then_normal ?_
  refine JC.seq ?_
  refine JC.seq ?_
  refine JC.region ?_
  refine JL.val (v := .int .u32 x1) (QV.move rfl) rfl rfl rfl ?_
  obtain ⟨y10, hc11, hm⟩ := bind_inv hm
  refine JL.mv (d := some 15) (MV.call (Lo := []) (Lr := [Asr.blk b9 41 [Seg.of (Enc.arr 32 (Enc.int .u8)) (Arr.rep 32 (0 : Int))], Asr.blk b8 41 [Seg.of (Enc.arr 32 (Enc.int .u8)) x4], Asr.blk b7 78 [Seg.of (Enc.arr 16 (Enc.int .u8)) x2]]) (F58.spec (x1) _ hc11) rfl Try.func58 rfl rfl rfl [] [0, 1, 2] rfl rfl rfl trivial) rfl rfl rfl ?_
  rintro _ _ ⟨_, ⟨rfl, rfl⟩, rfl⟩
  refine JL.val (v := .bool (decide (y10 = (0 : Int)))) (QV.eql rfl rfl) rfl rfl rfl ?_
  refine JL.nil ?_
  refine QJ.then_normal ?_
  rcases ite_inv hm with ⟨h12, hm⟩ | ⟨h12, hm⟩
  ·
    refine JC.condT' rfl (decide_eq_true h12) ?_
    refine JC.seq ?_
    refine JC.region ?_
    refine JL.val (v := .agg (((Enc.arr 32 (Enc.int .u8))).enc K3).toArray) (QV.build (vals := []) (cells := ((Enc.arr 32 (Enc.int .u8)).enc K3).toArray) rfl (by kernel_rfl)) rfl rfl rfl ?_
    refine JL.mv (d := none) (MV.store (ss := [Seg.of (Enc.arr 32 (Enc.int .u8)) (Arr.rep 32 (0 : Int))]) 0 0 1 [Seg.of (Enc.arr 32 (Enc.int .u8)) K3] rfl tk_41 rfl rfl rfl rfl (fun w hs => ⟨rfl, one_of _ _, trivial⟩)) rfl rfl rfl ?_
    rintro _ _ ⟨rfl, rfl⟩
    refine JL.val (v := .int .i64 (21 : Int)) (QV.assign rfl) rfl rfl rfl ?_
    refine JL.nil ?_
    refine QJ.then_normal ?_
    refine JC.ret ?_
    refine QJ.then_ret ?_
    obtain rfl := Option.some.inj hm
    exact QJ.body (vs := [.agg (((Enc.arr 32 (Enc.int .u8))).enc K3).toArray, .int .i64 (21 : Int)]) (.inl rfl) rfl (ResVs.cons (ResV.cell (d := none) (ty := 0) (ps := "") (af := #[]) (g := none) rfl (QV.eq (QV.loadN (ss := [Seg.of (Enc.arr 32 (Enc.int .u8)) K3]) 0 0 1 rfl tk_41 rfl rfl rfl rfl) rfl)) (ResVs.cons (ResV.tmp rfl) ResVs.nil)) [] rfl rfl (.inr trivial) ⟨rfl, rfl⟩
  ·
    refine JC.condF' rfl (decide_eq_false h12) ?_
    refine JC.skip ?_
    refine QJ.then_normal ?_
    refine JC.seq ?_
    refine JC.region ?_
    refine JL.val (v := .int .u32 x1) (QV.move rfl) rfl rfl rfl ?_
    refine JL.val (v := .agg (((Enc.arr 16 (Enc.int .u8))).enc x2).toArray) (QV.eq (QV.loadN (ss := [Seg.of (Enc.arr 16 (Enc.int .u8)) x2]) 2 0 1 rfl tk_78 rfl rfl rfl rfl) rfl) rfl rfl rfl ?_
    refine JL.val (v := .int .u32 x3) (QV.move rfl) rfl rfl rfl ?_
    obtain ⟨y13, hc14, hm⟩ := bind_inv hm
    refine JL.mv (d := some 21) (MV.call (Lo := []) (Lr := [Asr.blk b9 41 [Seg.of (Enc.arr 32 (Enc.int .u8)) (Arr.rep 32 (0 : Int))], Asr.blk b8 41 [Seg.of (Enc.arr 32 (Enc.int .u8)) x4], Asr.blk b7 78 [Seg.of (Enc.arr 16 (Enc.int .u8)) x2]]) (F80.spec (x1) (x2) (x3) _ hc14) rfl Try.func80 rfl rfl rfl [] [0, 1, 2] rfl rfl rfl trivial) rfl rfl rfl ?_
    rintro _ _ ⟨_, ⟨rfl, rfl⟩, rfl⟩
    refine JL.mv (d := some 10) (MV.alloc [Seg.c (.int .u32 (0 : Int)), Seg.of (Enc.arr 20 (Enc.int .u8)) (Arr.rep 20 (0 : Int))] z_114 rfl) rfl rfl rfl ?_
    rintro _ _ ⟨b15, rfl, rfl⟩
    refine JL.mv (d := none) (MV.store (ss := [Seg.c (.int .u32 (0 : Int)), Seg.of (Enc.arr 20 (Enc.int .u8)) (Arr.rep 20 (0 : Int))]) 0 0 2 [Seg.c (.int .u32 x1), Seg.of (Enc.arr 20 (Enc.int .u8)) y13] rfl tk_114 rfl rfl rfl rfl (fun w hs => ⟨rfl, one_c rfl, one_of _ _, trivial⟩)) rfl rfl rfl ?_
    rintro _ _ ⟨rfl, rfl⟩
    refine JL.nil ?_
    refine QJ.then_normal ?_
    refine JC.seq ?_
    refine JC.region ?_
    refine JL.ent (fun _ hs => hs.nil 5 (Enc.int .u8)) ?_
    refine JL.val (v := SlV.nil.v) (QV.assign rfl) rfl rfl rfl ?_
    refine JL.nil ?_
    refine QJ.then_normal ?_
    refine JC.seq ?_
    refine JC.seq ?_
    refine JC.region ?_
    refine JL.val (v := .int .u32 x1) (QV.move rfl) rfl rfl rfl ?_
    obtain ⟨y16, hc17, hm⟩ := bind_inv hm
    refine JL.mv (d := some 23) (MV.call (Lo := []) (Lr := [Asr.of 5 (Enc.int .u8) (SlV.nil.v) ([] : List Int), Asr.blk b15 114 [Seg.c (.int .u32 x1), Seg.of (Enc.arr 20 (Enc.int .u8)) y13], Asr.blk b9 41 [Seg.of (Enc.arr 32 (Enc.int .u8)) (Arr.rep 32 (0 : Int))], Asr.blk b8 41 [Seg.of (Enc.arr 32 (Enc.int .u8)) x4], Asr.blk b7 78 [Seg.of (Enc.arr 16 (Enc.int .u8)) x2]]) (F60.spec (x1) _ hc17) rfl Try.func60 rfl rfl rfl [] [0, 1, 2, 3, 4] rfl rfl rfl trivial) rfl rfl rfl ?_
    rintro _ _ ⟨_, ⟨rfl, rfl⟩, rfl⟩
    refine JL.val (v := .int .i64 (0 : Int)) (QV.move rfl) rfl rfl rfl ?_
    refine JL.nil ?_
    refine QJ.then_normal ?_
    refine JC.cutK (Y := (List Int) × SlV) (fun y => match y with | (d19, _) => F62.j1 x1 y13 (d19) = some r) (fun y => match y with | (d19, z18) => [(8, .pointer (some ⟨b9, 0, none⟩)), (10, .pointer (some ⟨b15, 0, none⟩)), (11, z18.v)]) (fun y => match y with | (d19, z18) => [Asr.blk b9 41 [Seg.of (Enc.arr 32 (Enc.int .u8)) (Arr.rep 32 (0 : Int))], Asr.blk b15 114 [Seg.c (.int .u32 x1), Seg.of (Enc.arr 20 (Enc.int .u8)) y13], Asr.of 5 (Enc.int .u8) (z18.v) d19]) ?_ ?_
    ·
      rintro ⟨d19, z18⟩ hm
      unfold F62.j1 at hm
      show QJ _ _ [(8, .pointer (some ⟨b9, 0, none⟩)), (10, .pointer (some ⟨b15, 0, none⟩)), (11, z18.v)] [Asr.blk b9 41 [Seg.of (Enc.arr 32 (Enc.int .u8)) (Arr.rep 32 (0 : Int))], Asr.blk b15 114 [Seg.c (.int .u32 x1), Seg.of (Enc.arr 20 (Enc.int .u8)) y13], Asr.of 5 (Enc.int .u8) (z18.v) d19] _ _
      refine QJ.then_normal ?_
      refine JC.seq ?_
      refine JC.region ?_
      refine JL.val (v := .agg (flat [Seg.c (.int .u32 x1), Seg.of (Enc.arr 20 (Enc.int .u8)) y13]).toArray) (QV.eq (QV.loadN (ss := [Seg.c (.int .u32 x1), Seg.of (Enc.arr 20 (Enc.int .u8)) y13]) 1 0 2 rfl tk_114 rfl rfl rfl rfl) rfl) rfl rfl rfl ?_
      refine JL.val (v := z18.v) (QV.move rfl) rfl rfl rfl ?_
      refine JL.mv (d := some 42) (MV.lit (E := (NE.sl (Enc.int .u8)).E) (vals := [(0, z18.v)]) [(z18, d19)] Try.underlying50 zi_22 rfl (by decide) rfl (by kernel_rfl)) rfl rfl rfl ?_
      rintro _ _ ⟨z20, rfl, rfl⟩
      obtain ⟨y21, hc22, hm⟩ := bind_inv hm
      refine JL.mv (d := some 43) (MV.call (Lo := []) (Lr := [Asr.of 22 (NE.sl (Enc.int .u8)).E (z20.v) [(z18, d19)], Asr.blk b9 41 [Seg.of (Enc.arr 32 (Enc.int .u8)) (Arr.rep 32 (0 : Int))], Asr.blk b15 114 [Seg.c (.int .u32 x1), Seg.of (Enc.arr 20 (Enc.int .u8)) y13], Asr.of 5 (Enc.int .u8) (z18.v) d19]) (F84.spec (z20) ([z18]) (x1) (y13) ((32896 : Int)) ([d19]) _ hc22) rfl Try.func84 rfl rfl rfl [] [0, 1, 2, 3] rfl rfl rfl ⟨(Drv.lit (zs := [z18]) (xs := [d19]) 0 rfl rfl ⟨(Drv.of 3 rfl), trivial⟩), trivial⟩) rfl rfl rfl ?_
      rintro _ _ ⟨_, ⟨rfl, rfl⟩, rfl⟩
      refine JL.mv (d := none) (MV.store (ss := [Seg.of (Enc.arr 32 (Enc.int .u8)) (Arr.rep 32 (0 : Int))]) 1 0 1 [Seg.of (Enc.arr 32 (Enc.int .u8)) y21] rfl tk_41 rfl rfl rfl rfl (fun w hs => ⟨rfl, one_of _ _, trivial⟩)) rfl rfl rfl ?_
      rintro _ _ ⟨rfl, rfl⟩
      refine JL.val (v := .int .i64 (0 : Int)) (QV.assign rfl) rfl rfl rfl ?_
      refine JL.nil ?_
      refine QJ.then_normal ?_
      refine JC.ret ?_
      obtain rfl := Option.some.inj hm
      exact QJ.body (vs := [.agg (((Enc.arr 32 (Enc.int .u8))).enc y21).toArray, .int .i64 (0 : Int)]) (.inl rfl) rfl (ResVs.cons (ResV.cell (d := none) (ty := 0) (ps := "") (af := #[]) (g := none) rfl (QV.eq (QV.loadN (ss := [Seg.of (Enc.arr 32 (Enc.int .u8)) y21]) 1 0 1 rfl tk_41 rfl rfl rfl rfl) rfl)) (ResVs.cons (ResV.tmp rfl) ResVs.nil)) [] rfl rfl (.inr trivial) ⟨rfl, rfl⟩
    ·
      refine JC.block ?_
      obtain ⟨y29, hl30, hmo31⟩ := bind_inv hm
      refine JC.loop (F62.b1 x1 x4 y13 y16) (fun x z => match x, z with | (d24, d25), z23 => [(7, .pointer (some ⟨b8, 0, none⟩)), (8, .pointer (some ⟨b9, 0, none⟩)), (10, .pointer (some ⟨b15, 0, none⟩)), (11, z23.v), (23, .int .i64 y16), (24, .int .i64 d25)]) (fun x z => match x, z with | (d24, d25), z23 => [Asr.blk b8 41 [Seg.of (Enc.arr 32 (Enc.int .u8)) x4], Asr.blk b9 41 [Seg.of (Enc.arr 32 (Enc.int .u8)) (Arr.rep 32 (0 : Int))], Asr.blk b15 114 [Seg.c (.int .u32 x1), Seg.of (Enc.arr 20 (Enc.int .u8)) y13], Asr.of 5 (Enc.int .u8) (z23.v) d24]) (([] : List Int), (0 : Int)) SlV.nil y29 hl30 [3, 2, 1, 0] (by exact ⟨rfl, rfl, rfl, rfl, rfl, rfl, trivial⟩) rfl rfl ?_
      rintro ⟨d24, d25⟩ z23 s32 hm
      unfold F62.b1 at hm
      dsimp only at hm
      show JC _ _ _ [(7, .pointer (some ⟨b8, 0, none⟩)), (8, .pointer (some ⟨b9, 0, none⟩)), (10, .pointer (some ⟨b15, 0, none⟩)), (11, z23.v), (23, .int .i64 y16), (24, .int .i64 d25)] [Asr.blk b8 41 [Seg.of (Enc.arr 32 (Enc.int .u8)) x4], Asr.blk b9 41 [Seg.of (Enc.arr 32 (Enc.int .u8)) (Arr.rep 32 (0 : Int))], Asr.blk b15 114 [Seg.c (.int .u32 x1), Seg.of (Enc.arr 20 (Enc.int .u8)) y13], Asr.of 5 (Enc.int .u8) (z23.v) d24] _ _
      refine JC.seq ?_
      refine JC.region ?_
      refine JL.val (v := .bool (decide (d25 < y16))) (QV.lss rfl rfl) rfl rfl rfl ?_
      refine JL.nil ?_
      refine QJ.then_normal ?_
      refine JC.seq ?_
      rcases ite_inv hm with ⟨h33, hm⟩ | ⟨h33, hm⟩
      ·
        refine JC.condT' rfl (decide_eq_true h33) ?_
        refine JC.skip ?_
        refine QJ.then_normal ?_
        refine JC.seq ?_
        refine JC.block ?_
        refine JC.seq ?_
        refine JC.region ?_
        refine JL.val (v := .int .i64 d25) (QV.move rfl) rfl rfl rfl ?_
        refine JL.val (v := .int .i64 d25) (QV.assign rfl) rfl rfl rfl ?_
        refine JL.nil ?_
        refine QJ.then_normal ?_
        refine JC.seq ?_
        obtain ⟨y34, hc35, hm⟩ := bind_inv hm
        obtain ⟨y36, hc37, hm⟩ := bind_inv hm
        obtain ⟨y38, hc39, hm⟩ := bind_inv hm
        refine JC.cutK (Y := Unit × Nat) (fun y => match y with | (_, _) => F62.j2 d24 d25 y38 = some s32) (fun y => match y with | (_, z41) => [(7, .pointer (some ⟨b8, 0, none⟩)), (8, .pointer (some ⟨b9, 0, none⟩)), (10, .pointer (some ⟨b15, 0, none⟩)), (11, z23.v), (13, .pointer (some ⟨z41, 0, none⟩)), (23, .int .i64 y16), (24, .int .i64 d25)]) (fun y => match y with | (_, z41) => [Asr.blk b8 41 [Seg.of (Enc.arr 32 (Enc.int .u8)) x4], Asr.blk b9 41 [Seg.of (Enc.arr 32 (Enc.int .u8)) (Arr.rep 32 (0 : Int))], Asr.blk b15 114 [Seg.c (.int .u32 x1), Seg.of (Enc.arr 20 (Enc.int .u8)) y13], Asr.of 5 (Enc.int .u8) (z23.v) d24, Asr.blk z41 41 [Seg.of (Enc.arr 32 (Enc.int .u8)) y38]]) ?_ ?_
        ·
          rintro ⟨⟨⟩, z41⟩ hm
          unfold F62.j2 at hm
          show QJ _ _ [(7, .pointer (some ⟨b8, 0, none⟩)), (8, .pointer (some ⟨b9, 0, none⟩)), (10, .pointer (some ⟨b15, 0, none⟩)), (11, z23.v), (13, .pointer (some ⟨z41, 0, none⟩)), (23, .int .i64 y16), (24, .int .i64 d25)] [Asr.blk b8 41 [Seg.of (Enc.arr 32 (Enc.int .u8)) x4], Asr.blk b9 41 [Seg.of (Enc.arr 32 (Enc.int .u8)) (Arr.rep 32 (0 : Int))], Asr.blk b15 114 [Seg.c (.int .u32 x1), Seg.of (Enc.arr 20 (Enc.int .u8)) y13], Asr.of 5 (Enc.int .u8) (z23.v) d24, Asr.blk z41 41 [Seg.of (Enc.arr 32 (Enc.int .u8)) y38]] _ _
          refine QJ.then_normal ?_
          refine JC.region ?_
          refine JL.val (v := z23.v) (QV.move rfl) rfl rfl rfl ?_
          refine JL.val (v := (SlV.sub ((Enc.int .u8)).sz (SlV.mk (some ⟨z41, 0, none⟩) 32 32) (0 : Int) ((32 : Nat) : Int)).v) (QV.sliceB Try.underlying41 tk_5 rfl rfl rfl (by decide)) rfl rfl rfl ?_
          obtain ⟨h42, hm⟩ := guard_inv hm
          refine JL.mv (d := some 38) (MV.append 3 rfl (Rdg.ofDrv ((Drv.arr (ss := [Seg.of (Enc.arr 32 (Enc.int .u8)) y38]) 4 0 rfl rfl rfl rfl).subV (by rw [Arr.h]; exact (show 0 ≤ (0 : Int) ∧ (0 : Int) ≤ ((32 : Nat) : Int) ∧ ((32 : Nat) : Int) ≤ ((32 : Nat) : Int) from by decide)))) Try.underlying22 zi_5 rfl (by decide) rfl rfl h42) rfl rfl rfl ?_
          rintro _ _ ⟨z43, rfl, rfl⟩
          refine JL.val (v := z43.v) (QV.assign rfl) rfl rfl rfl ?_
          refine JL.nil ?_
          refine QJ.block_normal ?_
          refine QJ.then_normal ?_
          refine JC.region ?_
          refine JL.val (v := .int .i64 (IntKind.wrap .i64 (d25 + (1 : Int)))) (QV.add rfl rfl) rfl rfl rfl ?_
          refine JL.val (v := .int .i64 (IntKind.wrap .i64 (d25 + (1 : Int)))) (QV.move rfl) rfl rfl rfl ?_
          refine JL.nil ?_
          obtain rfl := Option.some.inj hm
          exact QJ.round_on ((d24 ++ (subL (y38).l (0 : Int) ((32 : Nat) : Int))), (IntKind.wrap .i64 (d25 + (1 : Int)))) z43 [0, 1, 2, 3] (by exact ⟨rfl, rfl, rfl, rfl, rfl, rfl, trivial⟩) rfl rfl
        ·
          refine JC.regionU [Asr.blk b8 41 [Seg.of (Enc.arr 32 (Enc.int .u8)) x4], Asr.blk b9 41 [Seg.of (Enc.arr 32 (Enc.int .u8)) (Arr.rep 32 (0 : Int))], Asr.blk b15 114 [Seg.c (.int .u32 x1), Seg.of (Enc.arr 20 (Enc.int .u8)) y13], Asr.of 5 (Enc.int .u8) (z23.v) d24] (fun _ => false) 11 rfl (by kernel_rfl) (by kernel_rfl) (fun hsel => ?_)
          refine JU.take (i := 0) (v := .agg (flat [Seg.c (.int .u32 x1), Seg.of (Enc.arr 20 (Enc.int .u8)) y13]).toArray) hsel rfl (by kernel_rfl) (QV.eq (QV.loadN (ss := [Seg.c (.int .u32 x1), Seg.of (Enc.arr 20 (Enc.int .u8)) y13]) 2 0 2 rfl tk_114 rfl rfl rfl rfl) rfl) rfl rfl rfl [0, 1, 2, 3] rfl rfl ?_
          refine JU.take (i := 1) (v := .int .i64 d25) hsel rfl (by kernel_rfl) (QV.move rfl) rfl rfl rfl [0, 1, 2, 3] rfl rfl ?_
          refine JU.take (i := 2) (v := .agg (flat [Seg.c (.int .u32 x1), Seg.of (Enc.arr 20 (Enc.int .u8)) y13]).toArray) hsel rfl (by kernel_rfl) (QV.eq (QV.loadN (ss := [Seg.c (.int .u32 x1), Seg.of (Enc.arr 20 (Enc.int .u8)) y13]) 2 0 2 rfl tk_114 rfl rfl rfl rfl) rfl) rfl rfl rfl [0, 1, 2, 3] rfl rfl ?_
          refine JU.take (i := 4) (v := .agg (flat [Seg.c (.int .u32 x1), Seg.of (Enc.arr 20 (Enc.int .u8)) y13]).toArray) hsel rfl (by kernel_rfl) (QV.eq (QV.loadN (ss := [Seg.c (.int .u32 x1), Seg.of (Enc.arr 20 (Enc.int .u8)) y13]) 2 0 2 rfl tk_114 rfl rfl rfl rfl) rfl) rfl rfl rfl [0, 1, 2, 3] rfl rfl ?_
          refine JU.take (i := 5) (v := .int .i64 d25) hsel rfl (by kernel_rfl) (QV.move rfl) rfl rfl rfl [0, 1, 2, 3] rfl rfl ?_
          refine JU.take (i := 6) (v := .agg (((Enc.arr 32 (Enc.int .u8))).enc x4).toArray) hsel rfl (by kernel_rfl) (QV.eq (QV.loadN (ss := [Seg.of (Enc.arr 32 (Enc.int .u8)) x4]) 0 0 1 rfl tk_41 rfl rfl rfl rfl) rfl) rfl rfl rfl [0, 1, 2, 3] rfl rfl ?_
          refine JU.any [3, 9] (by kernel_rfl) rfl ?_
          refine ⟨?_, ?_, trivial⟩
          ·
            refine JUo.mv (d := some 30) rfl (MV.call (Lo := []) (Lr := [Asr.blk b8 41 [Seg.of (Enc.arr 32 (Enc.int .u8)) x4], Asr.blk b9 41 [Seg.of (Enc.arr 32 (Enc.int .u8)) (Arr.rep 32 (0 : Int))], Asr.blk b15 114 [Seg.c (.int .u32 x1), Seg.of (Enc.arr 20 (Enc.int .u8)) y13], Asr.of 5 (Enc.int .u8) (z23.v) d24]) (F82.spec (x1) (y13) _ hc35) rfl Try.func82 rfl rfl rfl [] [0, 1, 2, 3] rfl rfl rfl trivial) rfl rfl rfl ?_
            rintro _ _ ⟨_, ⟨rfl, rfl⟩, rfl⟩
            refine ⟨fun _ => ⟨[0, 1, 2, 3], rfl, rfl⟩, ?_⟩
            refine JU.any [7, 9] (by kernel_rfl) rfl ?_
            refine ⟨?_, ?_, trivial⟩
            ·
              refine JUo.mv (d := some 34) rfl (MV.call (Lo := []) (Lr := [Asr.blk b8 41 [Seg.of (Enc.arr 32 (Enc.int .u8)) x4], Asr.blk b9 41 [Seg.of (Enc.arr 32 (Enc.int .u8)) (Arr.rep 32 (0 : Int))], Asr.blk b15 114 [Seg.c (.int .u32 x1), Seg.of (Enc.arr 20 (Enc.int .u8)) y13], Asr.of 5 (Enc.int .u8) (z23.v) d24]) (F83.spec (x1) (y13) (d25) (x4) _ hc37) rfl Try.func83 rfl rfl rfl [] [0, 1, 2, 3] rfl rfl rfl trivial) rfl rfl rfl ?_
              rintro _ _ ⟨_, ⟨rfl, rfl⟩, rfl⟩
              refine ⟨fun _ => ⟨[0, 1, 2, 3], rfl, rfl⟩, ?_⟩
              refine JU.any [8, 9] (by kernel_rfl) rfl ?_
              refine ⟨?_, ?_, trivial⟩
              ·
                refine JUo.mv (d := some 35) rfl (MV.call (Lo := []) (Lr := [Asr.blk b8 41 [Seg.of (Enc.arr 32 (Enc.int .u8)) x4], Asr.blk b9 41 [Seg.of (Enc.arr 32 (Enc.int .u8)) (Arr.rep 32 (0 : Int))], Asr.blk b15 114 [Seg.c (.int .u32 x1), Seg.of (Enc.arr 20 (Enc.int .u8)) y13], Asr.of 5 (Enc.int .u8) (z23.v) d24]) (F81.spec (x1) (y13) (d25) ((0 : Int)) (y34) (y36) _ hc39) rfl Try.func81 rfl rfl rfl [] [0, 1, 2, 3] rfl rfl rfl trivial) rfl rfl rfl ?_
                rintro _ _ ⟨_, ⟨rfl, rfl⟩, rfl⟩
                refine ⟨fun _ => ⟨[0, 1, 2, 3], rfl, rfl⟩, ?_⟩
                refine JU.any [9] (by kernel_rfl) rfl ?_
                refine ⟨?_, trivial⟩
                refine JUo.mv (d := some 13) rfl (MV.alloc [Seg.of (Enc.arr 32 (Enc.int .u8)) (Arr.rep 32 (0 : Int))] z_41 rfl) rfl rfl rfl ?_
                rintro _ _ ⟨b44, rfl, rfl⟩
                refine ⟨fun _ => ⟨[1, 2, 3, 4], rfl, rfl⟩, ?_⟩
                refine JU.any [10] (by kernel_rfl) rfl ?_
                refine ⟨?_, trivial⟩
                refine JUo.mv (d := none) rfl (MV.store (ss := [Seg.of (Enc.arr 32 (Enc.int .u8)) (Arr.rep 32 (0 : Int))]) 0 0 1 [Seg.of (Enc.arr 32 (Enc.int .u8)) y38] rfl tk_41 rfl rfl rfl rfl (fun w hs => ⟨rfl, one_of _ _, trivial⟩)) rfl rfl rfl ?_
                rintro _ _ ⟨rfl, rfl⟩
                refine ⟨fun _ => ⟨[1, 2, 3, 4], rfl, rfl⟩, ?_⟩
                refine JU.nil (by kernel_rfl) ?_
                exact QJ.cut_normal ((), b44) hm [1, 2, 3, 4, 0] (by exact ⟨rfl, rfl, rfl, rfl, rfl, rfl, rfl, trivial⟩) rfl rfl
              ·
                refine JUo.mv (d := some 13) rfl (MV.alloc [Seg.of (Enc.arr 32 (Enc.int .u8)) (Arr.rep 32 (0 : Int))] z_41 rfl) rfl rfl rfl ?_
                rintro _ _ ⟨b45, rfl, rfl⟩
                refine ⟨fun _ => ⟨[1, 2, 3, 4], rfl, rfl⟩, ?_⟩
                refine JU.any [8] (by kernel_rfl) rfl ?_
                refine ⟨?_, trivial⟩
                refine JUo.mv (d := some 35) rfl (MV.call (Lo := []) (Lr := [Asr.blk b45 41 [Seg.of (Enc.arr 32 (Enc.int .u8)) (Arr.rep 32 (0 : Int))], Asr.blk b8 41 [Seg.of (Enc.arr 32 (Enc.int .u8)) x4], Asr.blk b9 41 [Seg.of (Enc.arr 32 (Enc.int .u8)) (Arr.rep 32 (0 : Int))], Asr.blk b15 114 [Seg.c (.int .u32 x1), Seg.of (Enc.arr 20 (Enc.int .u8)) y13], Asr.of 5 (Enc.int .u8) (z23.v) d24]) (F81.spec (x1) (y13) (d25) ((0 : Int)) (y34) (y36) _ hc39) rfl Try.func81 rfl rfl rfl [] [0, 1, 2, 3, 4] rfl rfl rfl trivial) rfl rfl rfl ?_
                rintro _ _ ⟨_, ⟨rfl, rfl⟩, rfl⟩
                refine ⟨fun _ => ⟨[1, 2, 3, 4], rfl, rfl⟩, ?_⟩
                refine JU.any [10] (by kernel_rfl) rfl ?_
                refine ⟨?_, trivial⟩
                refine JUo.mv (d := none) rfl (MV.store (ss := [Seg.of (Enc.arr 32 (Enc.int .u8)) (Arr.rep 32 (0 : Int))]) 0 0 1 [Seg.of (Enc.arr 32 (Enc.int .u8)) y38] rfl tk_41 rfl rfl rfl rfl (fun w hs => ⟨rfl, one_of _ _, trivial⟩)) rfl rfl rfl ?_
                rintro _ _ ⟨rfl, rfl⟩
                refine ⟨fun _ => ⟨[1, 2, 3, 4], rfl, rfl⟩, ?_⟩
                refine JU.nil (by kernel_rfl) ?_
                exact QJ.cut_normal ((), b45) hm [1, 2, 3, 4, 0] (by exact ⟨rfl, rfl, rfl, rfl, rfl, rfl, rfl, trivial⟩) rfl rfl
            ·
              refine JUo.mv (d := some 13) rfl (MV.alloc [Seg.of (Enc.arr 32 (Enc.int .u8)) (Arr.rep 32 (0 : Int))] z_41 rfl) rfl rfl rfl ?_
              rintro _ _ ⟨b46, rfl, rfl⟩
              refine ⟨fun _ => ⟨[1, 2, 3, 4], rfl, rfl⟩, ?_⟩
              refine JU.any [7] (by kernel_rfl) rfl ?_
              refine ⟨?_, trivial⟩
              refine JUo.mv (d := some 34) rfl (MV.call (Lo := []) (Lr := [Asr.blk b46 41 [Seg.of (Enc.arr 32 (Enc.int .u8)) (Arr.rep 32 (0 : Int))], Asr.blk b8 41 [Seg.of (Enc.arr 32 (Enc.int .u8)) x4], Asr.blk b9 41 [Seg.of (Enc.arr 32 (Enc.int .u8)) (Arr.rep 32 (0 : Int))], Asr.blk b15 114 [Seg.c (.int .u32 x1), Seg.of (Enc.arr 20 (Enc.int .u8)) y13], Asr.of 5 (Enc.int .u8) (z23.v) d24]) (F83.spec (x1) (y13) (d25) (x4) _ hc37) rfl Try.func83 rfl rfl rfl [] [0, 1, 2, 3, 4] rfl rfl rfl trivial) rfl rfl rfl ?_
              rintro _ _ ⟨_, ⟨rfl, rfl⟩, rfl⟩
              refine ⟨fun _ => ⟨[1, 2, 3, 4], rfl, rfl⟩, ?_⟩
              refine JU.any [8] (by kernel_rfl) rfl ?_
              refine ⟨?_, trivial⟩
              refine JUo.mv (d := some 35) rfl (MV.call (Lo := []) (Lr := [Asr.blk b46 41 [Seg.of (Enc.arr 32 (Enc.int .u8)) (Arr.rep 32 (0 : Int))], Asr.blk b8 41 [Seg.of (Enc.arr 32 (Enc.int .u8)) x4], Asr.blk b9 41 [Seg.of (Enc.arr 32 (Enc.int .u8)) (Arr.rep 32 (0 : Int))], Asr.blk b15 114 [Seg.c (.int .u32 x1), Seg.of (Enc.arr 20 (Enc.int .u8)) y13], Asr.of 5 (Enc.int .u8) (z23.v) d24]) (F81.spec (x1) (y13) (d25) ((0 : Int)) (y34) (y36) _ hc39) rfl Try.func81 rfl rfl rfl [] [0, 1, 2, 3, 4] rfl rfl rfl trivial) rfl rfl rfl ?_
              rintro _ _ ⟨_, ⟨rfl, rfl⟩, rfl⟩
              refine ⟨fun _ => ⟨[1, 2, 3, 4], rfl, rfl⟩, ?_⟩
              refine JU.any [10] (by kernel_rfl) rfl ?_
              refine ⟨?_, trivial⟩
              refine JUo.mv (d := none) rfl (MV.store (ss := [Seg.of (Enc.arr 32 (Enc.int .u8)) (Arr.rep 32 (0 : Int))]) 0 0 1 [Seg.of (Enc.arr 32 (Enc.int .u8)) y38] rfl tk_41 rfl rfl rfl rfl (fun w hs => ⟨rfl, one_of _ _, trivial⟩)) rfl rfl rfl ?_
              rintro _ _ ⟨rfl, rfl⟩
              refine ⟨fun _ => ⟨[1, 2, 3, 4], rfl, rfl⟩, ?_⟩
              refine JU.nil (by kernel_rfl) ?_
              exact QJ.cut_normal ((), b46) hm [1, 2, 3, 4, 0] (by exact ⟨rfl, rfl, rfl, rfl, rfl, rfl, rfl, trivial⟩) rfl rfl
          ·
            refine JUo.mv (d := some 13) rfl (MV.alloc [Seg.of (Enc.arr 32 (Enc.int .u8)) (Arr.rep 32 (0 : Int))] z_41 rfl) rfl rfl rfl ?_
            rintro _ _ ⟨b47, rfl, rfl⟩
            refine ⟨fun _ => ⟨[1, 2, 3, 4], rfl, rfl⟩, ?_⟩
            refine JU.any [3] (by kernel_rfl) rfl ?_
            refine ⟨?_, trivial⟩
            refine JUo.mv (d := some 30) rfl (MV.call (Lo := []) (Lr := [Asr.blk b47 41 [Seg.of (Enc.arr 32 (Enc.int .u8)) (Arr.rep 32 (0 : Int))], Asr.blk b8 41 [Seg.of (Enc.arr 32 (Enc.int .u8)) x4], Asr.blk b9 41 [Seg.of (Enc.arr 32 (Enc.int .u8)) (Arr.rep 32 (0 : Int))], Asr.blk b15 114 [Seg.c (.int .u32 x1), Seg.of (Enc.arr 20 (Enc.int .u8)) y13], Asr.of 5 (Enc.int .u8) (z23.v) d24]) (F82.spec (x1) (y13) _ hc35) rfl Try.func82 rfl rfl rfl [] [0, 1, 2, 3, 4] rfl rfl rfl trivial) rfl rfl rfl ?_
            rintro _ _ ⟨_, ⟨rfl, rfl⟩, rfl⟩
            refine ⟨fun _ => ⟨[1, 2, 3, 4], rfl, rfl⟩, ?_⟩
            refine JU.any [7] (by kernel_rfl) rfl ?_
            refine ⟨?_, trivial⟩
            refine JUo.mv (d := some 34) rfl (MV.call (Lo := []) (Lr := [Asr.blk b47 41 [Seg.of (Enc.arr 32 (Enc.int .u8)) (Arr.rep 32 (0 : Int))], Asr.blk b8 41 [Seg.of (Enc.arr 32 (Enc.int .u8)) x4], Asr.blk b9 41 [Seg.of (Enc.arr 32 (Enc.int .u8)) (Arr.rep 32 (0 : Int))], Asr.blk b15 114 [Seg.c (.int .u32 x1), Seg.of (Enc.arr 20 (Enc.int .u8)) y13], Asr.of 5 (Enc.int .u8) (z23.v) d24]) (F83.spec (x1) (y13) (d25) (x4) _ hc37) rfl Try.func83 rfl rfl rfl [] [0, 1, 2, 3, 4] rfl rfl rfl trivial) rfl rfl rfl ?_
            rintro _ _ ⟨_, ⟨rfl, rfl⟩, rfl⟩
            refine ⟨fun _ => ⟨[1, 2, 3, 4], rfl, rfl⟩, ?_⟩
            refine JU.any [8] (by kernel_rfl) rfl ?_
            refine ⟨?_, trivial⟩
            refine JUo.mv (d := some 35) rfl (MV.call (Lo := []) (Lr := [Asr.blk b47 41 [Seg.of (Enc.arr 32 (Enc.int .u8)) (Arr.rep 32 (0 : Int))], Asr.blk b8 41 [Seg.of (Enc.arr 32 (Enc.int .u8)) x4], Asr.blk b9 41 [Seg.of (Enc.arr 32 (Enc.int .u8)) (Arr.rep 32 (0 : Int))], Asr.blk b15 114 [Seg.c (.int .u32 x1), Seg.of (Enc.arr 20 (Enc.int .u8)) y13], Asr.of 5 (Enc.int .u8) (z23.v) d24]) (F81.spec (x1) (y13) (d25) ((0 : Int)) (y34) (y36) _ hc39) rfl Try.func81 rfl rfl rfl [] [0, 1, 2, 3, 4] rfl rfl rfl trivial) rfl rfl rfl ?_
            rintro _ _ ⟨_, ⟨rfl, rfl⟩, rfl⟩
            refine ⟨fun _ => ⟨[1, 2, 3, 4], rfl, rfl⟩, ?_⟩
            refine JU.any [10] (by kernel_rfl) rfl ?_
            refine ⟨?_, trivial⟩
            refine JUo.mv (d := none) rfl (MV.store (ss := [Seg.of (Enc.arr 32 (Enc.int .u8)) (Arr.rep 32 (0 : Int))]) 0 0 1 [Seg.of (Enc.arr 32 (Enc.int .u8)) y38] rfl tk_41 rfl rfl rfl rfl (fun w hs => ⟨rfl, one_of _ _, trivial⟩)) rfl rfl rfl ?_
            rintro _ _ ⟨rfl, rfl⟩
            refine ⟨fun _ => ⟨[1, 2, 3, 4], rfl, rfl⟩, ?_⟩
            refine JU.nil (by kernel_rfl) ?_
            exact QJ.cut_normal ((), b47) hm [1, 2, 3, 4, 0] (by exact ⟨rfl, rfl, rfl, rfl, rfl, rfl, rfl, trivial⟩) rfl rfl
      ·
        refine JC.condF' rfl (decide_eq_false h33) ?_
        refine JC.exit ?_
        refine QJ.then_exit ?_
        obtain rfl := Option.some.inj hm
        refine QJ.round_exit (fun hy => ?_)
        subst hy
        refine QJ.block_hit ?_
        exact QJ.cut_normal (d24, z23) hmo31 [1, 2, 3] (by exact ⟨rfl, rfl, rfl, trivial⟩) rfl rfl

/-! ### 86: drogher/drogherref03.steps -/
noncomputable def F86.j1  (d3 : Int) : Option Int :=
  some (IntKind.wrap .i64 (d3 - (1 : Int)))
noncomputable def F86.b1 (x1 : Int) : (Int × Int) → Option ((Int × Int) ⊕ Int)
  | (d4, d5) => ((F59.m (x1)).bind fun y12 => (if d5 < y12 then some (.inl ((IntKind.wrap .i64 ((2 : Int) * d4)), (IntKind.wrap .i64 (d5 + (1 : Int))))) else some (.inr d4)))
noncomputable def F86.m (x1 : Int) : Option Int :=
  ((loop (F86.b1 x1) ((1 : Int), (0 : Int))).bind fun y => match y with | d3 => F86.j1 (d3))
set_option maxRecDepth 100000 in
set_option maxHeartbeats 4000000 in
theorem F86.spec (x1 : Int) (r : Int) (hm : F86.m x1 = some r) :
    Ctr Try.prog false 86 [.int .u32 x1] [] (fun v L' => v = .int .i64 r ∧ L' = []) := by
  refine Ctr.intro (n := 15) (env := [(0, .int .u32 x1)]) Try.func86 rfl rfl rfl rfl (fun c => ?_)
  unfold F86.m at hm
  refine JC.seq ?_
  refine JC.region ?_
  refine JL.val (v := .int .i64 (0 : Int)) (QV.assign rfl) rfl rfl rfl ?_
  refine JL.nil ?_
  refine QJ.then_normal ?_
  refine JC.seq ?_
  refine JC.region ?_
  refine JL.val (v := .int .i64 (1 : Int)) (QV.assign rfl) rfl rfl rfl ?_
  refine JL.nil ?_
  refine QJ.then_normal ?_
  refine JC.seq ?_
  refine JC.seq ?_
  refine JC.region ?_
  refine JL.val (v := .int .i64 (0 : Int)) (QV.assign rfl) rfl rfl rfl ?_
  refine JL.nil ?_
  refine QJ.then_normal ?_
  refine JC.cutK (Y := Int × Unit) (fun y => match y with | (d3, _) => F86.j1 (d3) = some r) (fun y => match y with | (d3, _) => [(3, .int .i64 d3)]) (fun y => match y with | (d3, _) => []) ?_ ?_
  ·
    rintro ⟨d3, ⟨⟩⟩ hm
    unfold F86.j1 at hm
    show QJ _ _ [(3, .int .i64 d3)] [] _ _
    refine QJ.then_normal ?_
    refine JC.seq ?_
    refine JC.region ?_
    refine JL.val (v := .int .i64 d3) (QV.move rfl) rfl rfl rfl ?_
    refine JL.val (v := .int .i64 (IntKind.wrap .i64 (d3 - (1 : Int)))) (QV.sub rfl rfl) rfl rfl rfl ?_
    refine JL.val (v := .int .i64 (IntKind.wrap .i64 (d3 - (1 : Int)))) (QV.assign rfl) rfl rfl rfl ?_
    refine JL.nil ?_
    refine QJ.then_normal ?_
    refine JC.ret ?_
    obtain rfl := Option.some.inj hm
    exact QJ.body (vs := [.int .i64 (IntKind.wrap .i64 (d3 - (1 : Int)))]) (.inl rfl) rfl (ResVs.cons (ResV.tmp rfl) ResVs.nil) [] rfl rfl (.inr trivial) ⟨rfl, rfl⟩
  ·
    refine JC.block ?_
    obtain ⟨y8, hl9, hmo10⟩ := bind_inv hm
    refine JC.loop (F86.b1 x1) (fun x z => match x, z with | (d4, d5), _ => [(0, .int .u32 x1), (3, .int .i64 d4), (4, .int .i64 d5)]) (fun x z => match x, z with | (d4, d5), _ => []) ((1 : Int), (0 : Int)) () y8 hl9 [] (by exact ⟨rfl, rfl, rfl, trivial⟩) rfl rfl ?_
    rintro ⟨d4, d5⟩ ⟨⟩ s11 hm
    unfold F86.b1 at hm
    dsimp only at hm
    show JC _ _ _ [(0, .int .u32 x1), (3, .int .i64 d4), (4, .int .i64 d5)] [] _ _
    refine JC.seq ?_
    refine JC.seq ?_
    refine JC.region ?_
    refine JL.val (v := .int .i64 d5) (QV.move rfl) rfl rfl rfl ?_
    refine JL.val (v := .int .u32 x1) (QV.move rfl) rfl rfl rfl ?_
    obtain ⟨y12, hc13, hm⟩ := bind_inv hm
    refine JL.mv (d := some 7) (MV.call (Lo := []) (Lr := []) (F59.spec (x1) _ hc13) rfl Try.func59 rfl rfl rfl [] [] rfl rfl rfl trivial) rfl rfl rfl ?_
    rintro _ _ ⟨_, ⟨rfl, rfl⟩, rfl⟩
    refine JL.val (v := .bool (decide (d5 < y12))) (QV.lss rfl rfl) rfl rfl rfl ?_
    refine JL.nil ?_
    refine QJ.then_normal ?_
    rcases ite_inv hm with ⟨h14, hm⟩ | ⟨h14, hm⟩
    ·
      refine JC.condT' rfl (decide_eq_true h14) ?_
      refine JC.skip ?_
      refine QJ.then_normal ?_
      refine JC.seq ?_
      refine JC.block ?_
      refine JC.region ?_
      refine JL.val (v := .int .i64 d4) (QV.move rfl) rfl rfl rfl ?_
      refine JL.val (v := .int .i64 (IntKind.wrap .i64 ((2 : Int) * d4))) (QV.mul rfl rfl) rfl rfl rfl ?_
      refine JL.val (v := .int .i64 (IntKind.wrap .i64 ((2 : Int) * d4))) (QV.assign rfl) rfl rfl rfl ?_
      refine JL.nil ?_
      refine QJ.block_normal ?_
      refine QJ.then_normal ?_
      refine JC.region ?_
      refine JL.val (v := .int .i64 d5) (QV.move rfl) rfl rfl rfl ?_
      refine JL.val (v := .int .i64 (IntKind.wrap .i64 (d5 + (1 : Int)))) (QV.add rfl rfl) rfl rfl rfl ?_
      refine JL.val (v := .int .i64 (IntKind.wrap .i64 (d5 + (1 : Int)))) (QV.assign rfl) rfl rfl rfl ?_
      refine JL.nil ?_
      obtain rfl := Option.some.inj hm
      exact QJ.round_on ((IntKind.wrap .i64 ((2 : Int) * d4)), (IntKind.wrap .i64 (d5 + (1 : Int)))) () [] (by exact ⟨rfl, rfl, rfl, trivial⟩) rfl rfl
    ·
      refine JC.condF' rfl (decide_eq_false h14) ?_
      refine JC.exit ?_
      refine QJ.then_exit ?_
      obtain rfl := Option.some.inj hm
      refine QJ.round_exit (fun hy => ?_)
      subst hy
      refine QJ.block_hit ?_
      exact QJ.cut_normal (d4, ()) hmo10 [] (by exact ⟨rfl, trivial⟩) rfl rfl

/-! ### 26: drogher/drogherref02.Put -/
noncomputable def F26.j3  (d13 : List Int) : Option (List Int) :=
  some d13
noncomputable def F26.b1 (x4 : Int) : (List Int × Int) → Option ((List Int × Int) ⊕ (List Int))
  | (d15, d16) => (if (0 : Int) ≤ d16 then (if 0 ≤ (IntKind.wrap .i64 ((8 : Int) * d16)) then (if ((d15).length + ([(IntKind.wrap .u8 (shrI .u64 x4 (IntKind.wrap .i64 ((8 : Int) * d16))))]).length) * 1 ≤ 140737488355328 ∧ (d15).length + ([(IntKind.wrap .u8 (shrI .u64 x4 (IntKind.wrap .i64 ((8 : Int) * d16))))]).length ≤ 9223372036854775807 then some (.inl ((d15 ++ [(IntKind.wrap .u8 (shrI .u64 x4 (IntKind.wrap .i64 ((8 : Int) * d16))))]), (IntKind.wrap .i64 (d16 - (1 : Int))))) else none) else none) else some (.inr d15))
noncomputable def F26.j2 (x2 : List Int) (x4 : Int) (d11 : Int) : Option (List Int) :=
  ((loop (F26.b1 x4) ((([] : List Int) ++ x2), (IntKind.wrap .i64 (d11 - (1 : Int))))).bind fun y => match y with | d13 => F26.j3 (d13))
noncomputable def F26.j1 (x2 : List Int) (x4 : Int) (d10 : Int) : Option (List Int) :=
  (if (8 : Int) < d10 then F26.j2 x2 x4 ((8 : Int)) else F26.j2 x2 x4 (d10))
noncomputable def F26.m (x2 : List Int) (x3 : Int) (x4 : Int) : Option (List Int) :=
  (if ((([] : List Int)).length + (x2).length) * 1 ≤ 140737488355328 ∧ (([] : List Int)).length + (x2).length ≤ 9223372036854775807 then (if x3 < (1 : Int) then F26.j1 x2 x4 ((1 : Int)) else F26.j1 x2 x4 (x3)) else none)
set_option maxRecDepth 100000 in
set_option maxHeartbeats 4000000 in
theorem F26.spec (s1 : SlV) (x2 : List Int) (x3 : Int) (x4 : Int) (r : (List Int)) (hm : F26.m x2 x3 x4 = some r) :
    Ctr Try.prog false 26 [s1.v, .int .i64 x3, .int .u64 x4] [Asr.vw (Enc.int .u8) (s1.v) x2] (fun v L' => ∃ (g5 : SlV), v = g5.v ∧ L' = [Asr.of 5 (Enc.int .u8) (g5.v) r]) := by
  refine Ctr.intro (n := 34) (env := [(0, s1.v), (1, .int .i64 x3), (2, .int .u64 x4)]) Try.func26 rfl rfl rfl rfl (fun c => ?_)
  unfold F26.m at hm
  refine JC.seq ?_
  refine JC.region ?_
  refine JL.ent (fun _ hs => hs.nil 5 (Enc.int .u8)) ?_
  refine JL.val (v := SlV.nil.v) (QV.assign rfl) rfl rfl rfl ?_
  refine JL.nil ?_
  refine QJ.then_normal ?_
  refine JC.seq ?_
  refine JC.region ?_
  refine JL.mv (d := some 10) (MV.lit0 (Enc.int .u8) Try.underlying22 (by kernel_rfl)) rfl rfl rfl ?_
  rintro _ _ ⟨z7, rfl, rfl⟩
  refine JL.val (v := z7.v) (QV.assign rfl) rfl rfl rfl ?_
  refine JL.nil ?_
  refine QJ.then_normal ?_
  refine JC.seq ?_
  refine JC.region ?_
  refine JL.val (v := z7.v) (QV.move rfl) rfl rfl rfl ?_
  refine JL.val (v := s1.v) (QV.move rfl) rfl rfl rfl ?_
  obtain ⟨h8, hm⟩ := guard_inv hm
  refine JL.mv (d := some 13) (MV.append 0 rfl (Rdg.vw 2 rfl) Try.underlying22 zi_5 rfl (by decide) rfl rfl h8) rfl rfl rfl ?_
  rintro _ _ ⟨z9, rfl, rfl⟩
  refine JL.val (v := z9.v) (QV.assign rfl) rfl rfl rfl ?_
  refine JL.nil ?_
  refine QJ.then_normal ?_
  refine JC.seq ?_
  refine JC.region ?_
  refine JL.val (v := .int .i64 x3) (QV.move rfl) rfl rfl rfl ?_
  refine JL.val (v := .int .i64 x3) (QV.assign rfl) rfl rfl rfl ?_
  refine JL.nil ?_
  refine QJ.then_normal ?_
  refine JC.seq ?_
  refine JC.seq ?_
  refine JC.region ?_
  refine JL.val (v := .int .i64 x3) (QV.move rfl) rfl rfl rfl ?_
  refine JL.val (v := .bool (decide (x3 < (1 : Int)))) (QV.lss rfl rfl) rfl rfl rfl ?_
  refine JL.nil ?_
  refine QJ.then_normal ?_
  refine JC.cutK (Y := Int × Unit) (fun y => match y with | (d10, _) => F26.j1 x2 x4 (d10) = some r) (fun y => match y with | (d10, _) => [(2, .int .u64 x4), (7, z9.v), (8, .int .i64 d10)]) (fun y => match y with | (d10, _) => [Asr.of 5 (Enc.int .u8) (z9.v) (([] : List Int) ++ x2)]) ?_ ?_
  ·
    rintro ⟨d10, ⟨⟩⟩ hm
    unfold F26.j1 at hm
    show QJ _ _ [(2, .int .u64 x4), (7, z9.v), (8, .int .i64 d10)] [Asr.of 5 (Enc.int .u8) (z9.v) (([] : List Int) ++ x2)] _ _
    refine QJ.then_normal ?_
    refine JC.seq ?_
    refine JC.seq ?_
    refine JC.region ?_
    refine JL.val (v := .int .i64 d10) (QV.move rfl) rfl rfl rfl ?_
    refine JL.val (v := .bool (decide ((8 : Int) < d10))) (QV.gtr rfl rfl) rfl rfl rfl ?_
    refine JL.nil ?_
    refine QJ.then_normal ?_
    refine JC.cutK (Y := Int × Unit) (fun y => match y with | (d11, _) => F26.j2 x2 x4 (d11) = some r) (fun y => match y with | (d11, _) => [(2, .int .u64 x4), (7, z9.v), (8, .int .i64 d11)]) (fun y => match y with | (d11, _) => [Asr.of 5 (Enc.int .u8) (z9.v) (([] : List Int) ++ x2)]) ?_ ?_
    ·
      rintro ⟨d11, ⟨⟩⟩ hm
      unfold F26.j2 at hm
      show QJ _ _ [(2, .int .u64 x4), (7, z9.v), (8, .int .i64 d11)] [Asr.of 5 (Enc.int .u8) (z9.v) (([] : List Int) ++ x2)] _ _
      refine QJ.then_normal ?_
      refine JC.seq ?_
      refine JC.seq ?_
      refine JC.region ?_
      refine JL.val (v := .int .i64 d11) (QV.move rfl) rfl rfl rfl ?_
      refine JL.val (v := .int .i64 (IntKind.wrap .i64 (d11 - (1 : Int)))) (QV.sub rfl rfl) rfl rfl rfl ?_
      refine JL.val (v := .int .i64 (IntKind.wrap .i64 (d11 - (1 : Int)))) (QV.assign rfl) rfl rfl rfl ?_
      refine JL.nil ?_
      refine QJ.then_normal ?_
      refine JC.cutK (Y := (List Int) × SlV) (fun y => match y with | (d13, _) => F26.j3 (d13) = some r) (fun y => match y with | (d13, z12) => [(7, z12.v)]) (fun y => match y with | (d13, z12) => [Asr.of 5 (Enc.int .u8) (z12.v) d13]) ?_ ?_
      ·
        rintro ⟨d13, z12⟩ hm
        unfold F26.j3 at hm
        show QJ _ _ [(7, z12.v)] [Asr.of 5 (Enc.int .u8) (z12.v) d13] _ _
        refine QJ.then_normal ?_
        refine JC.seq ?_
        refine JC.region ?_
        refine JL.val (v := z12.v) (QV.move rfl) rfl rfl rfl ?_
        refine JL.val (v := z12.v) (QV.assign rfl) rfl rfl rfl ?_
        refine JL.nil ?_
        refine QJ.then_normal ?_
        refine JC.ret ?_
        obtain rfl := Option.some.inj hm
        exact QJ.body (vs := [z12.v]) (.inl rfl) rfl (ResVs.cons (ResV.tmp rfl) ResVs.nil) [0] rfl rfl (.inr ⟨own_of _ _ _ _, trivial⟩) ⟨z12, rfl, rfl⟩
      ·
        refine JC.block ?_
        obtain ⟨y20, hl21, hmo22⟩ := bind_inv hm
        refine JC.loop (F26.b1 x4) (fun x z => match x, z with | (d15, d16), z14 => [(2, .int .u64 x4), (7, z14.v), (9, .int .i64 d16)]) (fun x z => match x, z with | (d15, d16), z14 => [Asr.of 5 (Enc.int .u8) (z14.v) d15]) ((([] : List Int) ++ x2), (IntKind.wrap .i64 (d11 - (1 : Int)))) z9 y20 hl21 [0] (by exact ⟨rfl, rfl, rfl, trivial⟩) rfl rfl ?_
        rintro ⟨d15, d16⟩ z14 s23 hm
        unfold F26.b1 at hm
        dsimp only at hm
        show JC _ _ _ [(2, .int .u64 x4), (7, z14.v), (9, .int .i64 d16)] [Asr.of 5 (Enc.int .u8) (z14.v) d15] _ _
        refine JC.seq ?_
        refine JC.seq ?_
        refine JC.region ?_
        refine JL.val (v := .int .i64 d16) (QV.move rfl) rfl rfl rfl ?_
        refine JL.val (v := .bool (decide ((0 : Int) ≤ d16))) (QV.geq rfl rfl) rfl rfl rfl ?_
        refine JL.nil ?_
        refine QJ.then_normal ?_
        rcases ite_inv hm with ⟨h24, hm⟩ | ⟨h24, hm⟩
        ·
          refine JC.condT' rfl (decide_eq_true h24) ?_
          refine JC.skip ?_
          refine QJ.then_normal ?_
          refine JC.seq ?_
          refine JC.block ?_
          refine JC.region ?_
          refine JL.val (v := z14.v) (QV.move rfl) rfl rfl rfl ?_
          refine JL.val (v := .int .u64 x4) (QV.move rfl) rfl rfl rfl ?_
          refine JL.val (v := .int .i64 d16) (QV.move rfl) rfl rfl rfl ?_
          refine JL.val (v := .int .i64 (IntKind.wrap .i64 ((8 : Int) * d16))) (QV.mul rfl rfl) rfl rfl rfl ?_
          obtain ⟨h25, hm⟩ := guard_inv hm
          refine JL.val (v := .int .u64 (shrI .u64 x4 (IntKind.wrap .i64 ((8 : Int) * d16)))) (QV.shr rfl rfl h25) rfl rfl rfl ?_
          refine JL.val (v := .int .u8 (IntKind.wrap .u8 (shrI .u64 x4 (IntKind.wrap .i64 ((8 : Int) * d16))))) (QV.conv rfl (by rw [Try.underlying28]; rfl) Try.underlying5) rfl rfl rfl ?_
          refine JL.mv (d := some 31) (MV.lit (E := (Enc.int .u8)) (vals := [(0, .int .u8 (IntKind.wrap .u8 (shrI .u64 x4 (IntKind.wrap .i64 ((8 : Int) * d16)))))]) [(IntKind.wrap .u8 (shrI .u64 x4 (IntKind.wrap .i64 ((8 : Int) * d16))))] Try.underlying22 zi_5 rfl (by decide) rfl (by kernel_rfl)) rfl rfl rfl ?_
          rintro _ _ ⟨z26, rfl, rfl⟩
          obtain ⟨h27, hm⟩ := guard_inv hm
          refine JL.mv (d := some 32) (MV.append 1 rfl (Rdg.of 0 rfl) Try.underlying22 zi_5 rfl (by decide) rfl rfl h27) rfl rfl rfl ?_
          rintro _ _ ⟨z28, rfl, rfl⟩
          refine JL.val (v := z28.v) (QV.assign rfl) rfl rfl rfl ?_
          refine JL.nil ?_
          refine QJ.block_normal ?_
          refine QJ.then_normal ?_
          refine JC.region ?_
          refine JL.val (v := .int .i64 d16) (QV.move rfl) rfl rfl rfl ?_
          refine JL.val (v := .int .i64 (IntKind.wrap .i64 (d16 - (1 : Int)))) (QV.sub rfl rfl) rfl rfl rfl ?_
          refine JL.val (v := .int .i64 (IntKind.wrap .i64 (d16 - (1 : Int)))) (QV.assign rfl) rfl rfl rfl ?_
          refine JL.nil ?_
          obtain rfl := Option.some.inj hm
          exact QJ.round_on ((d15 ++ [(IntKind.wrap .u8 (shrI .u64 x4 (IntKind.wrap .i64 ((8 : Int) * d16))))]), (IntKind.wrap .i64 (d16 - (1 : Int)))) z28 [1] (by exact ⟨rfl, rfl, rfl, trivial⟩) rfl rfl
        ·
          refine JC.condF' rfl (decide_eq_false h24) ?_
          refine JC.exit ?_
          refine QJ.then_exit ?_
          obtain rfl := Option.some.inj hm
          refine QJ.round_exit (fun hy => ?_)
          subst hy
          refine QJ.block_hit ?_
          exact QJ.cut_normal (d15, z14) hmo22 [0] (by exact ⟨rfl, trivial⟩) rfl rfl
    ·
      rcases ite_inv hm with ⟨h29, hm⟩ | ⟨h29, hm⟩
      ·
        refine JC.condT' rfl (decide_eq_true h29) ?_
        refine JC.region ?_
        refine JL.val (v := .int .i64 (8 : Int)) (QV.assign rfl) rfl rfl rfl ?_
        refine JL.nil ?_
        exact QJ.cut_normal ((8 : Int), ()) hm [0] (by exact ⟨rfl, rfl, rfl, trivial⟩) rfl rfl
      ·
        refine JC.condF' rfl (decide_eq_false h29) ?_
        refine JC.skip ?_
        exact QJ.cut_normal (d10, ()) hm [0] (by exact ⟨rfl, rfl, rfl, trivial⟩) rfl rfl
  ·
    rcases ite_inv hm with ⟨h30, hm⟩ | ⟨h30, hm⟩
    ·
      refine JC.condT' rfl (decide_eq_true h30) ?_
      refine JC.region ?_
      refine JL.val (v := .int .i64 (1 : Int)) (QV.assign rfl) rfl rfl rfl ?_
      refine JL.nil ?_
      exact QJ.cut_normal ((1 : Int), ()) hm [0] (by exact ⟨rfl, rfl, rfl, trivial⟩) rfl rfl
    ·
      refine JC.condF' rfl (decide_eq_false h30) ?_
      refine JC.skip ?_
      exact QJ.cut_normal (x3, ()) hm [0] (by exact ⟨rfl, rfl, rfl, trivial⟩) rfl rfl

/-! ### 96: drogher/drogherref03.Around -/
noncomputable def F96.m (x1 : (Arr Int 16)) (x2 : Int) (x4 : List Int) : Option (Arr Int 32) :=
  (if ((([] : List Int)).length + ((subL (x1).l (0 : Int) ((16 : Nat) : Int))).length) * 1 ≤ 140737488355328 ∧ (([] : List Int)).length + ((subL (x1).l (0 : Int) ((16 : Nat) : Int))).length ≤ 9223372036854775807 then ((F26.m ((([] : List Int) ++ (subL (x1).l (0 : Int) ((16 : Nat) : Int)))) ((4 : Int)) ((IntKind.wrap .u64 x2))).bind fun y11 => (if ((y11).length + (x4).length) * 1 ≤ 140737488355328 ∧ (y11).length + (x4).length ≤ 9223372036854775807 then ((F33.m ((y11 ++ x4))).bind fun y16 => some y16) else none)) else none)
set_option maxRecDepth 100000 in
set_option maxHeartbeats 4000000 in
theorem F96.spec (s3 : SlV) (x1 : (Arr Int 16)) (x2 : Int) (x4 : List Int) (r : (Arr Int 32)) (hm : F96.m x1 x2 x4 = some r) :
    Ctr Try.prog false 96 [.agg (((Enc.arr 16 (Enc.int .u8))).enc x1).toArray, .int .u32 x2, s3.v] [Asr.vw (Enc.int .u8) (s3.v) x4] (fun v L' => v = .agg (((Enc.arr 32 (Enc.int .u8))).enc r).toArray ∧ L' = []) := by
  refine Ctr.intro (n := 21) (env := [(0, .agg (((Enc.arr 16 (Enc.int .u8))).enc x1).toArray), (1, .int .u32 x2), (2, s3.v)]) Try.func96 rfl rfl rfl rfl (fun c => ?_)
  unfold F96.m at hm
  refine JC.seq ?_
  refine JC.region ?_
  refine JL.mv (d := some 3) (MV.box [Seg.of (Enc.arr 16 (Enc.int .u8)) x1] rfl (fun w hs => rfl)) rfl rfl rfl ?_
  rintro _ _ ⟨b6, rfl, rfl⟩
  refine JL.mv (d := some 6) (MV.alloc [Seg.of (Enc.arr 32 (Enc.int .u8)) (Arr.rep 32 (0 : Int))] z_39 rfl) rfl rfl rfl ?_
  rintro _ _ ⟨b7, rfl, rfl⟩
  refine JL.nil ?_
  refine QJ.then_normal ?_
  refine JC.seq ?_
  refine JC.region ?_
  refine JL.mv (d := some 8) (MV.lit0 (Enc.int .u8) Try.underlying22 (by kernel_rfl)) rfl rfl rfl ?_
  rintro _ _ ⟨z8, rfl, rfl⟩
  refine JL.val (v := z8.v) (QV.assign rfl) rfl rfl rfl ?_
  refine JL.nil ?_
  refine QJ.then_normal ?_
  refine JC.seq ?_
  refine JC.region ?_
  refine JL.val (v := z8.v) (QV.move rfl) rfl rfl rfl ?_
  refine JL.val (v := (SlV.sub ((Enc.int .u8)).sz (SlV.mk (some ⟨b6, 0, none⟩) 16 16) (0 : Int) ((16 : Nat) : Int)).v) (QV.sliceB Try.underlying75 tk_5 rfl rfl rfl (by decide)) rfl rfl rfl ?_
  obtain ⟨h9, hm⟩ := guard_inv hm
  refine JL.mv (d := some 11) (MV.append 0 rfl (Rdg.ofDrv ((Drv.arr (ss := [Seg.of (Enc.arr 16 (Enc.int .u8)) x1]) 2 0 rfl rfl rfl rfl).subV (by rw [Arr.h]; exact (show 0 ≤ (0 : Int) ∧ (0 : Int) ≤ ((16 : Nat) : Int) ∧ ((16 : Nat) : Int) ≤ ((16 : Nat) : Int) from by decide)))) Try.underlying22 zi_5 rfl (by decide) rfl rfl h9) rfl rfl rfl ?_
  rintro _ _ ⟨z10, rfl, rfl⟩
  refine JL.val (v := z10.v) (QV.assign rfl) rfl rfl rfl ?_
  refine JL.nil ?_
  refine QJ.then_normal ?_
  refine JC.seq ?_
  refine JC.region ?_
  refine JL.val (v := z10.v) (QV.move rfl) rfl rfl rfl ?_
  refine JL.val (v := .int .u32 x2) (QV.move rfl) rfl rfl rfl ?_
  refine JL.val (v := .int .u64 (IntKind.wrap .u64 x2)) (QV.conv rfl (by rw [Try.underlying74]; rfl) Try.underlying28) rfl rfl rfl ?_
  obtain ⟨y11, hc12, hm⟩ := bind_inv hm
  refine JL.mv (d := some 15) (MV.call (Lo := []) (Lr := [Asr.of 5 (Enc.int .u8) (z10.v) (([] : List Int) ++ (subL (x1).l (0 : Int) ((16 : Nat) : Int))), Asr.blk b7 39 [Seg.of (Enc.arr 32 (Enc.int .u8)) (Arr.rep 32 (0 : Int))], Asr.blk b6 75 [Seg.of (Enc.arr 16 (Enc.int .u8)) x1], Asr.vw (Enc.int .u8) (s3.v) x4]) (F26.spec (z10) ((([] : List Int) ++ (subL (x1).l (0 : Int) ((16 : Nat) : Int)))) ((4 : Int)) ((IntKind.wrap .u64 x2)) _ hc12) rfl Try.func26 rfl rfl rfl [] [0, 1, 2, 3] rfl rfl rfl ⟨(Drv.of 0 rfl), trivial⟩) rfl rfl rfl ?_
  rintro _ _ ⟨_, ⟨z13, rfl, rfl⟩, rfl⟩
  refine JL.val (v := z13.v) (QV.assign rfl) rfl rfl rfl ?_
  refine JL.nil ?_
  refine QJ.then_normal ?_
  refine JC.seq ?_
  refine JC.region ?_
  refine JL.val (v := z13.v) (QV.move rfl) rfl rfl rfl ?_
  refine JL.val (v := s3.v) (QV.move rfl) rfl rfl rfl ?_
  obtain ⟨h14, hm⟩ := guard_inv hm
  refine JL.mv (d := some 18) (MV.append 0 rfl (Rdg.vw 4 rfl) Try.underlying22 zi_5 rfl (by decide) rfl rfl h14) rfl rfl rfl ?_
  rintro _ _ ⟨z15, rfl, rfl⟩
  refine JL.val (v := z15.v) (QV.assign rfl) rfl rfl rfl ?_
  refine JL.nil ?_
  refine QJ.then_normal ?_
  refine JC.seq ?_
  refine JC.region ?_
  refine JL.val (v := z15.v) (QV.move rfl) rfl rfl rfl ?_
  obtain ⟨y16, hc17, hm⟩ := bind_inv hm
  refine JL.mv (d := some 20) (MV.call (Lo := []) (Lr := [Asr.of 5 (Enc.int .u8) (z15.v) (y11 ++ x4), Asr.of 5 (Enc.int .u8) (z10.v) (([] : List Int) ++ (subL (x1).l (0 : Int) ((16 : Nat) : Int))), Asr.blk b7 39 [Seg.of (Enc.arr 32 (Enc.int .u8)) (Arr.rep 32 (0 : Int))], Asr.blk b6 75 [Seg.of (Enc.arr 16 (Enc.int .u8)) x1], Asr.vw (Enc.int .u8) (s3.v) x4]) (F33.spec (z15) ((y11 ++ x4)) _ hc17) rfl Try.func33 rfl rfl rfl [] [0, 1, 2, 3, 4] rfl rfl rfl ⟨(Drv.of 0 rfl), trivial⟩) rfl rfl rfl ?_
  rintro _ _ ⟨_, ⟨rfl, rfl⟩, rfl⟩
  refine JL.mv (d := none) (MV.store (ss := [Seg.of (Enc.arr 32 (Enc.int .u8)) (Arr.rep 32 (0 : Int))]) 2 0 1 [Seg.of (Enc.arr 32 (Enc.int .u8)) y16] rfl tk_39 rfl rfl rfl rfl (fun w hs => ⟨rfl, one_of _ _, trivial⟩)) rfl rfl rfl ?_
  rintro _ _ ⟨rfl, rfl⟩
  refine JL.nil ?_
  refine QJ.then_normal ?_
  refine JC.ret ?_
  obtain rfl := Option.some.inj hm
  exact QJ.body (vs := [.agg (((Enc.arr 32 (Enc.int .u8))).enc y16).toArray]) (.inl rfl) rfl (ResVs.cons (ResV.cell (d := none) (ty := 0) (ps := "") (af := #[]) (g := none) rfl (QV.eq (QV.loadN (ss := [Seg.of (Enc.arr 32 (Enc.int .u8)) y16]) 2 0 1 rfl tk_39 rfl rfl rfl rfl) rfl)) ResVs.nil) [] rfl rfl (.inr trivial) ⟨rfl, rfl⟩

/-! ### 87: drogher/drogherref03.secret -/
noncomputable def F87.m (x1 : (Arr Int 16)) (x2 : Int) (x3 : Int) (x4 : (Arr Int 32)) : Option (Arr Int 32) :=
  ((F26.m (([] : List Int)) ((2 : Int)) ((IntKind.wrap .u64 x3))).bind fun y10 => (if ((y10).length + ([(255 : Int)]).length) * 1 ≤ 140737488355328 ∧ (y10).length + ([(255 : Int)]).length ≤ 9223372036854775807 then (if (((y10 ++ [(255 : Int)])).length + ((subL (x4).l (0 : Int) ((32 : Nat) : Int))).length) * 1 ≤ 140737488355328 ∧ ((y10 ++ [(255 : Int)])).length + ((subL (x4).l (0 : Int) ((32 : Nat) : Int))).length ≤ 9223372036854775807 then ((F96.m (x1) (x2) (((y10 ++ [(255 : Int)]) ++ (subL (x4).l (0 : Int) ((32 : Nat) : Int))))).bind fun y18 => some y18) else none) else none))
set_option maxRecDepth 100000 in
set_option maxHeartbeats 4000000 in
theorem F87.spec (x1 : (Arr Int 16)) (x2 : Int) (x3 : Int) (x4 : (Arr Int 32)) (r : (Arr Int 32)) (hm : F87.m x1 x2 x3 x4 = some r) :
    Ctr Try.prog false 87 [.agg (((Enc.arr 16 (Enc.int .u8))).enc x1).toArray, .int .u32 x2, .int .i64 x3, .agg (((Enc.arr 32 (Enc.int .u8))).enc x4).toArray] [] (fun v L' => v = .agg (((Enc.arr 32 (Enc.int .u8))).enc r).toArray ∧ L' = []) := by
  refine Ctr.intro (n := 24) (env := [(0, .agg (((Enc.arr 16 (Enc.int .u8))).enc x1).toArray), (1, .int .u32 x2), (2, .int .i64 x3), (3, .agg (((Enc.arr 32 (Enc.int .u8))).enc x4).toArray)]) Try.func87 rfl rfl rfl rfl (fun c => ?_)
  unfold F87.m at hm
  refine JC.seq ?_
  refine JC.region ?_
  refine JL.mv (d := some 4) (MV.box [Seg.of (Enc.arr 16 (Enc.int .u8)) x1] rfl (fun w hs => rfl)) rfl rfl rfl ?_
  rintro _ _ ⟨b6, rfl, rfl⟩
  refine JL.mv (d := some 7) (MV.box [Seg.of (Enc.arr 32 (Enc.int .u8)) x4] rfl (fun w hs => rfl)) rfl rfl rfl ?_
  rintro _ _ ⟨b7, rfl, rfl⟩
  refine JL.mv (d := some 8) (MV.alloc [Seg.of (Enc.arr 32 (Enc.int .u8)) (Arr.rep 32 (0 : Int))] z_39 rfl) rfl rfl rfl ?_
  rintro _ _ ⟨b8, rfl, rfl⟩
  refine JL.nil ?_
  refine QJ.then_normal ?_
  refine JC.seq ?_
  refine JC.region ?_
  refine JL.mv (d := some 10) (MV.lit0 (Enc.int .u8) Try.underlying22 (by kernel_rfl)) rfl rfl rfl ?_
  rintro _ _ ⟨z9, rfl, rfl⟩
  refine JL.val (v := .int .i64 x3) (QV.move rfl) rfl rfl rfl ?_
  refine JL.val (v := .int .u64 (IntKind.wrap .u64 x3)) (QV.conv rfl (by rw [Try.underlying3]; rfl) Try.underlying28) rfl rfl rfl ?_
  obtain ⟨y10, hc11, hm⟩ := bind_inv hm
  refine JL.mv (d := some 13) (MV.call (Lo := []) (Lr := [Asr.of 5 (Enc.int .u8) (z9.v) ([] : List Int), Asr.blk b8 39 [Seg.of (Enc.arr 32 (Enc.int .u8)) (Arr.rep 32 (0 : Int))], Asr.blk b7 39 [Seg.of (Enc.arr 32 (Enc.int .u8)) x4], Asr.blk b6 75 [Seg.of (Enc.arr 16 (Enc.int .u8)) x1]]) (F26.spec (z9) (([] : List Int)) ((2 : Int)) ((IntKind.wrap .u64 x3)) _ hc11) rfl Try.func26 rfl rfl rfl [] [0, 1, 2, 3] rfl rfl rfl ⟨(Drv.of 0 rfl), trivial⟩) rfl rfl rfl ?_
  rintro _ _ ⟨_, ⟨z12, rfl, rfl⟩, rfl⟩
  refine JL.val (v := z12.v) (QV.assign rfl) rfl rfl rfl ?_
  refine JL.nil ?_
  refine QJ.then_normal ?_
  refine JC.seq ?_
  refine JC.region ?_
  refine JL.val (v := z12.v) (QV.move rfl) rfl rfl rfl ?_
  refine JL.mv (d := some 15) (MV.lit (E := (Enc.int .u8)) (vals := [(0, .int .u8 (255 : Int))]) [(255 : Int)] Try.underlying22 zi_5 rfl (by decide) rfl (by kernel_rfl)) rfl rfl rfl ?_
  rintro _ _ ⟨z13, rfl, rfl⟩
  obtain ⟨h14, hm⟩ := guard_inv hm
  refine JL.mv (d := some 16) (MV.append 1 rfl (Rdg.of 0 rfl) Try.underlying22 zi_5 rfl (by decide) rfl rfl h14) rfl rfl rfl ?_
  rintro _ _ ⟨z15, rfl, rfl⟩
  refine JL.val (v := z15.v) (QV.assign rfl) rfl rfl rfl ?_
  refine JL.nil ?_
  refine QJ.then_normal ?_
  refine JC.seq ?_
  refine JC.region ?_
  refine JL.val (v := z15.v) (QV.move rfl) rfl rfl rfl ?_
  refine JL.val (v := (SlV.sub ((Enc.int .u8)).sz (SlV.mk (some ⟨b7, 0, none⟩) 32 32) (0 : Int) ((32 : Nat) : Int)).v) (QV.sliceB Try.underlying39 tk_5 rfl rfl rfl (by decide)) rfl rfl rfl ?_
  obtain ⟨h16, hm⟩ := guard_inv hm
  refine JL.mv (d := some 19) (MV.append 1 rfl (Rdg.ofDrv ((Drv.arr (ss := [Seg.of (Enc.arr 32 (Enc.int .u8)) x4]) 4 0 rfl rfl rfl rfl).subV (by rw [Arr.h]; exact (show 0 ≤ (0 : Int) ∧ (0 : Int) ≤ ((32 : Nat) : Int) ∧ ((32 : Nat) : Int) ≤ ((32 : Nat) : Int) from by decide)))) Try.underlying22 zi_5 rfl (by decide) rfl rfl h16) rfl rfl rfl ?_
  rintro _ _ ⟨z17, rfl, rfl⟩
  refine JL.val (v := z17.v) (QV.assign rfl) rfl rfl rfl ?_
  refine JL.nil ?_
  refine QJ.then_normal ?_
  refine JC.seq ?_
  refine JC.region ?_
  refine JL.val (v := .agg (((Enc.arr 16 (Enc.int .u8))).enc x1).toArray) (QV.eq (QV.loadN (ss := [Seg.of (Enc.arr 16 (Enc.int .u8)) x1]) 5 0 1 rfl tk_75 rfl rfl rfl rfl) rfl) rfl rfl rfl ?_
  refine JL.val (v := .int .u32 x2) (QV.move rfl) rfl rfl rfl ?_
  refine JL.val (v := z17.v) (QV.move rfl) rfl rfl rfl ?_
  obtain ⟨y18, hc19, hm⟩ := bind_inv hm
  refine JL.mv (d := some 23) (MV.call (Lo := []) (Lr := [Asr.of 5 (Enc.int .u8) (z13.v) [(255 : Int)], Asr.of 5 (Enc.int .u8) (z17.v) ((y10 ++ [(255 : Int)]) ++ (subL (x4).l (0 : Int) ((32 : Nat) : Int))), Asr.of 5 (Enc.int .u8) (z9.v) ([] : List Int), Asr.blk b8 39 [Seg.of (Enc.arr 32 (Enc.int .u8)) (Arr.rep 32 (0 : Int))], Asr.blk b7 39 [Seg.of (Enc.arr 32 (Enc.int .u8)) x4], Asr.blk b6 75 [Seg.of (Enc.arr 16 (Enc.int .u8)) x1]]) (F96.spec (z17) (x1) (x2) (((y10 ++ [(255 : Int)]) ++ (subL (x4).l (0 : Int) ((32 : Nat) : Int)))) _ hc19) rfl Try.func96 rfl rfl rfl [] [0, 1, 2, 3, 4, 5] rfl rfl rfl ⟨(Drv.of 1 rfl), trivial⟩) rfl rfl rfl ?_
  rintro _ _ ⟨_, ⟨rfl, rfl⟩, rfl⟩
  refine JL.mv (d := none) (MV.store (ss := [Seg.of (Enc.arr 32 (Enc.int .u8)) (Arr.rep 32 (0 : Int))]) 3 0 1 [Seg.of (Enc.arr 32 (Enc.int .u8)) y18] rfl tk_39 rfl rfl rfl rfl (fun w hs => ⟨rfl, one_of _ _, trivial⟩)) rfl rfl rfl ?_
  rintro _ _ ⟨rfl, rfl⟩
  refine JL.nil ?_
  refine QJ.then_normal ?_
  refine JC.ret ?_
  obtain rfl := Option.some.inj hm
  exact QJ.body (vs := [.agg (((Enc.arr 32 (Enc.int .u8))).enc y18).toArray]) (.inl rfl) rfl (ResVs.cons (ResV.cell (d := none) (ty := 0) (ps := "") (af := #[]) (g := none) rfl (QV.eq (QV.loadN (ss := [Seg.of (Enc.arr 32 (Enc.int .u8)) y18]) 3 0 1 rfl tk_39 rfl rfl rfl rfl) rfl)) ResVs.nil) [] rfl rfl (.inr trivial) ⟨rfl, rfl⟩

/-! ### 85: drogher/drogherref03.walk -/
noncomputable def F85.j1  (d11 : (Arr Int 32)) : Option (Arr Int 32) :=
  some d11
noncomputable def F85.b1 (x1 : (Arr Int 16)) (x2 : Int) (x3 : Int) (x5 : Int) : ((Arr Int 32) × Int) → Option (((Arr Int 32) × Int) ⊕ (Arr Int 32))
  | (d12, d13) => (if d13 < x5 then ((F26.m (([] : List Int)) ((2 : Int)) ((IntKind.wrap .u64 x3))).bind fun y22 => (if ((y22).length + ([(IntKind.wrap .u8 d13)]).length) * 1 ≤ 140737488355328 ∧ (y22).length + ([(IntKind.wrap .u8 d13)]).length ≤ 9223372036854775807 then (if (((y22 ++ [(IntKind.wrap .u8 d13)])).length + ((subL (d12).l (0 : Int) ((32 : Nat) : Int))).length) * 1 ≤ 140737488355328 ∧ ((y22 ++ [(IntKind.wrap .u8 d13)])).length + ((subL (d12).l (0 : Int) ((32 : Nat) : Int))).length ≤ 9223372036854775807 then ((F96.m (x1) (x2) (((y22 ++ [(IntKind.wrap .u8 d13)]) ++ (subL (d12).l (0 : Int) ((32 : Nat) : Int))))).bind fun y30 => some (.inl (y30, (IntKind.wrap .i64 (d13 + (1 : Int)))))) else none) else none)) else some (.inr d12))
noncomputable def F85.m (x1 : (Arr Int 16)) (x2 : Int) (x3 : Int) (x4 : Int) (x5 : Int) (x6 : (Arr Int 32)) : Option (Arr Int 32) :=
  ((loop (F85.b1 x1 x2 x3 x5) (x6, x4)).bind fun y => match y with | d11 => F85.j1 (d11))
set_option maxRecDepth 100000 in
set_option maxHeartbeats 4000000 in
theorem F85.spec (x1 : (Arr Int 16)) (x2 : Int) (x3 : Int) (x4 : Int) (x5 : Int) (x6 : (Arr Int 32)) (r : (Arr Int 32)) (hm : F85.m x1 x2 x3 x4 x5 x6 = some r) :
    Ctr Try.prog false 85 [.agg (((Enc.arr 16 (Enc.int .u8))).enc x1).toArray, .int .u32 x2, .int .i64 x3, .int .i64 x4, .int .i64 x5, .agg (((Enc.arr 32 (Enc.int .u8))).enc x6).toArray] [] (fun v L' => v = .agg (((Enc.arr 32 (Enc.int .u8))).enc r).toArray ∧ L' = []) := by
  refine Ctr.intro (n := 38) (env := [(0, .agg (((Enc.arr 16 (Enc.int .u8))).enc x1).toArray), (1, .int .u32 x2), (2, .int .i64 x3), (3, .int .i64 x4), (4, .int .i64 x5), (5, .agg (((Enc.arr 32 (Enc.int .u8))).enc x6).toArray)]) Try.func85 rfl rfl rfl rfl (fun c => ?_)
  unfold F85.m at hm
  refine JC.seq ?_
  refine JC.region ?_
  refine JL.mv (d := some 6) (MV.box [Seg.of (Enc.arr 16 (Enc.int .u8)) x1] rfl (fun w hs => rfl)) rfl rfl rfl ?_
  rintro _ _ ⟨b8, rfl, rfl⟩
  refine JL.mv (d := some 11) (MV.box [Seg.of (Enc.arr 32 (Enc.int .u8)) x6] rfl (fun w hs => rfl)) rfl rfl rfl ?_
  rintro _ _ ⟨b9, rfl, rfl⟩
  refine JL.mv (d := some 12) (MV.alloc [Seg.of (Enc.arr 32 (Enc.int .u8)) (Arr.rep 32 (0 : Int))] z_39 rfl) rfl rfl rfl ?_
  rintro _ _ ⟨b10, rfl, rfl⟩
  refine JL.nil ?_
  refine QJ.then_normal ?_
  refine JC.seq ?_
  refine JC.seq ?_
  refine JC.region ?_
  refine JL.val (v := .int .i64 x4) (QV.move rfl) rfl rfl rfl ?_
  refine JL.val (v := .int .i64 x4) (QV.assign rfl) rfl rfl rfl ?_
  refine JL.nil ?_
  refine QJ.then_normal ?_
  refine JC.cutK (Y := (Arr Int 32) × Unit) (fun y => match y with | (d11, _) => F85.j1 (d11) = some r) (fun y => match y with | (d11, _) => [(11, .pointer (some ⟨b9, 0, none⟩)), (12, .pointer (some ⟨b10, 0, none⟩))]) (fun y => match y with | (d11, _) => [Asr.blk b9 39 [Seg.of (Enc.arr 32 (Enc.int .u8)) d11], Asr.blk b10 39 [Seg.of (Enc.arr 32 (Enc.int .u8)) (Arr.rep 32 (0 : Int))]]) ?_ ?_
  ·
    rintro ⟨d11, ⟨⟩⟩ hm
    unfold F85.j1 at hm
    show QJ _ _ [(11, .pointer (some ⟨b9, 0, none⟩)), (12, .pointer (some ⟨b10, 0, none⟩))] [Asr.blk b9 39 [Seg.of (Enc.arr 32 (Enc.int .u8)) d11], Asr.blk b10 39 [Seg.of (Enc.arr 32 (Enc.int .u8)) (Arr.rep 32 (0 : Int))]] _ _
    refine QJ.then_normal ?_
    refine JC.seq ?_
    refine JC.region ?_
    refine JL.val (v := .agg (((Enc.arr 32 (Enc.int .u8))).enc d11).toArray) (QV.eq (QV.loadN (ss := [Seg.of (Enc.arr 32 (Enc.int .u8)) d11]) 0 0 1 rfl tk_39 rfl rfl rfl rfl) rfl) rfl rfl rfl ?_
    refine JL.mv (d := none) (MV.store (ss := [Seg.of (Enc.arr 32 (Enc.int .u8)) (Arr.rep 32 (0 : Int))]) 1 0 1 [Seg.of (Enc.arr 32 (Enc.int .u8)) d11] rfl tk_39 rfl rfl rfl rfl (fun w hs => ⟨rfl, one_of _ _, trivial⟩)) rfl rfl rfl ?_
    rintro _ _ ⟨rfl, rfl⟩
    refine JL.nil ?_
    refine QJ.then_normal ?_
    refine JC.ret ?_
    obtain rfl := Option.some.inj hm
    exact QJ.body (vs := [.agg (((Enc.arr 32 (Enc.int .u8))).enc d11).toArray]) (.inl rfl) rfl (ResVs.cons (ResV.cell (d := none) (ty := 0) (ps := "") (af := #[]) (g := none) rfl (QV.eq (QV.loadN (ss := [Seg.of (Enc.arr 32 (Enc.int .u8)) d11]) 1 0 1 rfl tk_39 rfl rfl rfl rfl) rfl)) ResVs.nil) [] rfl rfl (.inr trivial) ⟨rfl, rfl⟩
  ·
    refine JC.block ?_
    obtain ⟨y16, hl17, hmo18⟩ := bind_inv hm
    refine JC.loop (F85.b1 x1 x2 x3 x5) (fun x z => match x, z with | (d12, d13), _ => [(1, .int .u32 x2), (2, .int .i64 x3), (4, .int .i64 x5), (6, .pointer (some ⟨b8, 0, none⟩)), (11, .pointer (some ⟨b9, 0, none⟩)), (12, .pointer (some ⟨b10, 0, none⟩)), (13, .int .i64 d13)]) (fun x z => match x, z with | (d12, d13), _ => [Asr.blk b8 75 [Seg.of (Enc.arr 16 (Enc.int .u8)) x1], Asr.blk b9 39 [Seg.of (Enc.arr 32 (Enc.int .u8)) d12], Asr.blk b10 39 [Seg.of (Enc.arr 32 (Enc.int .u8)) (Arr.rep 32 (0 : Int))]]) (x6, x4) () y16 hl17 [2, 1, 0] (by exact ⟨rfl, rfl, rfl, rfl, rfl, rfl, rfl, trivial⟩) rfl rfl ?_
    rintro ⟨d12, d13⟩ ⟨⟩ s19 hm
    unfold F85.b1 at hm
    dsimp only at hm
    show JC _ _ _ [(1, .int .u32 x2), (2, .int .i64 x3), (4, .int .i64 x5), (6, .pointer (some ⟨b8, 0, none⟩)), (11, .pointer (some ⟨b9, 0, none⟩)), (12, .pointer (some ⟨b10, 0, none⟩)), (13, .int .i64 d13)] [Asr.blk b8 75 [Seg.of (Enc.arr 16 (Enc.int .u8)) x1], Asr.blk b9 39 [Seg.of (Enc.arr 32 (Enc.int .u8)) d12], Asr.blk b10 39 [Seg.of (Enc.arr 32 (Enc.int .u8)) (Arr.rep 32 (0 : Int))]] _ _
    refine JC.seq ?_
    refine JC.seq ?_
    refine JC.region ?_
    refine JL.val (v := .int .i64 d13) (QV.move rfl) rfl rfl rfl ?_
    refine JL.val (v := .int .i64 x5) (QV.move rfl) rfl rfl rfl ?_
    refine JL.val (v := .bool (decide (d13 < x5))) (QV.lss rfl rfl) rfl rfl rfl ?_
    refine JL.nil ?_
    refine QJ.then_normal ?_
    rcases ite_inv hm with ⟨h20, hm⟩ | ⟨h20, hm⟩
    ·
      refine JC.condT' rfl (decide_eq_true h20) ?_
      refine JC.skip ?_
      refine QJ.then_normal ?_
      refine JC.seq ?_
      refine JC.block ?_
      refine JC.seq ?_
      refine JC.region ?_
      refine JL.mv (d := some 21) (MV.lit0 (Enc.int .u8) Try.underlying22 (by kernel_rfl)) rfl rfl rfl ?_
      rintro _ _ ⟨z21, rfl, rfl⟩
      refine JL.val (v := .int .i64 x3) (QV.move rfl) rfl rfl rfl ?_
      refine JL.val (v := .int .u64 (IntKind.wrap .u64 x3)) (QV.conv rfl (by rw [Try.underlying3]; rfl) Try.underlying28) rfl rfl rfl ?_
      obtain ⟨y22, hc23, hm⟩ := bind_inv hm
      refine JL.mv (d := some 24) (MV.call (Lo := []) (Lr := [Asr.of 5 (Enc.int .u8) (z21.v) ([] : List Int), Asr.blk b8 75 [Seg.of (Enc.arr 16 (Enc.int .u8)) x1], Asr.blk b9 39 [Seg.of (Enc.arr 32 (Enc.int .u8)) d12], Asr.blk b10 39 [Seg.of (Enc.arr 32 (Enc.int .u8)) (Arr.rep 32 (0 : Int))]]) (F26.spec (z21) (([] : List Int)) ((2 : Int)) ((IntKind.wrap .u64 x3)) _ hc23) rfl Try.func26 rfl rfl rfl [] [0, 1, 2, 3] rfl rfl rfl ⟨(Drv.of 0 rfl), trivial⟩) rfl rfl rfl ?_
      rintro _ _ ⟨_, ⟨z24, rfl, rfl⟩, rfl⟩
      refine JL.val (v := z24.v) (QV.assign rfl) rfl rfl rfl ?_
      refine JL.nil ?_
      refine QJ.then_normal ?_
      refine JC.seq ?_
      refine JC.region ?_
      refine JL.val (v := z24.v) (QV.move rfl) rfl rfl rfl ?_
      refine JL.val (v := .int .i64 d13) (QV.move rfl) rfl rfl rfl ?_
      refine JL.val (v := .int .u8 (IntKind.wrap .u8 d13)) (QV.conv rfl (by rw [Try.underlying3]; rfl) Try.underlying5) rfl rfl rfl ?_
      refine JL.mv (d := some 28) (MV.lit (E := (Enc.int .u8)) (vals := [(0, .int .u8 (IntKind.wrap .u8 d13))]) [(IntKind.wrap .u8 d13)] Try.underlying22 zi_5 rfl (by decide) rfl (by kernel_rfl)) rfl rfl rfl ?_
      rintro _ _ ⟨z25, rfl, rfl⟩
      obtain ⟨h26, hm⟩ := guard_inv hm
      refine JL.mv (d := some 29) (MV.append 1 rfl (Rdg.of 0 rfl) Try.underlying22 zi_5 rfl (by decide) rfl rfl h26) rfl rfl rfl ?_
      rintro _ _ ⟨z27, rfl, rfl⟩
      refine JL.val (v := z27.v) (QV.assign rfl) rfl rfl rfl ?_
      refine JL.nil ?_
      refine QJ.then_normal ?_
      refine JC.seq ?_
      refine JC.region ?_
      refine JL.val (v := z27.v) (QV.move rfl) rfl rfl rfl ?_
      refine JL.val (v := (SlV.sub ((Enc.int .u8)).sz (SlV.mk (some ⟨b9, 0, none⟩) 32 32) (0 : Int) ((32 : Nat) : Int)).v) (QV.sliceB Try.underlying39 tk_5 rfl rfl rfl (by decide)) rfl rfl rfl ?_
      obtain ⟨h28, hm⟩ := guard_inv hm
      refine JL.mv (d := some 32) (MV.append 1 rfl (Rdg.ofDrv ((Drv.arr (ss := [Seg.of (Enc.arr 32 (Enc.int .u8)) d12]) 4 0 rfl rfl rfl rfl).subV (by rw [Arr.h]; exact (show 0 ≤ (0 : Int) ∧ (0 : Int) ≤ ((32 : Nat) : Int) ∧ ((32 : Nat) : Int) ≤ ((32 : Nat) : Int) from by decide)))) Try.underlying22 zi_5 rfl (by decide) rfl rfl h28) rfl rfl rfl ?_
      rintro _ _ ⟨z29, rfl, rfl⟩
      refine JL.val (v := z29.v) (QV.assign rfl) rfl rfl rfl ?_
      refine JL.nil ?_
      refine QJ.then_normal ?_
      refine JC.region ?_
      refine JL.val (v := .agg (((Enc.arr 16 (Enc.int .u8))).enc x1).toArray) (QV.eq (QV.loadN (ss := [Seg.of (Enc.arr 16 (Enc.int .u8)) x1]) 3 0 1 rfl tk_75 rfl rfl rfl rfl) rfl) rfl rfl rfl ?_
      refine JL.val (v := .int .u32 x2) (QV.move rfl) rfl rfl rfl ?_
      refine JL.val (v := z29.v) (QV.move rfl) rfl rfl rfl ?_
      obtain ⟨y30, hc31, hm⟩ := bind_inv hm
      refine JL.mv (d := some 36) (MV.call (Lo := []) (Lr := [Asr.of 5 (Enc.int .u8) (z25.v) [(IntKind.wrap .u8 d13)], Asr.of 5 (Enc.int .u8) (z29.v) ((y22 ++ [(IntKind.wrap .u8 d13)]) ++ (subL (d12).l (0 : Int) ((32 : Nat) : Int))), Asr.of 5 (Enc.int .u8) (z21.v) ([] : List Int), Asr.blk b8 75 [Seg.of (Enc.arr 16 (Enc.int .u8)) x1], Asr.blk b9 39 [Seg.of (Enc.arr 32 (Enc.int .u8)) d12], Asr.blk b10 39 [Seg.of (Enc.arr 32 (Enc.int .u8)) (Arr.rep 32 (0 : Int))]]) (F96.spec (z29) (x1) (x2) (((y22 ++ [(IntKind.wrap .u8 d13)]) ++ (subL (d12).l (0 : Int) ((32 : Nat) : Int)))) _ hc31) rfl Try.func96 rfl rfl rfl [] [0, 1, 2, 3, 4, 5] rfl rfl rfl ⟨(Drv.of 1 rfl), trivial⟩) rfl rfl rfl ?_
      rintro _ _ ⟨_, ⟨rfl, rfl⟩, rfl⟩
      refine JL.mv (d := none) (MV.store (ss := [Seg.of (Enc.arr 32 (Enc.int .u8)) d12]) 4 0 1 [Seg.of (Enc.arr 32 (Enc.int .u8)) y30] rfl tk_39 rfl rfl rfl rfl (fun w hs => ⟨rfl, one_of _ _, trivial⟩)) rfl rfl rfl ?_
      rintro _ _ ⟨rfl, rfl⟩
      refine JL.nil ?_
      refine QJ.block_normal ?_
      refine QJ.then_normal ?_
      refine JC.region ?_
      refine JL.val (v := .int .i64 d13) (QV.move rfl) rfl rfl rfl ?_
      refine JL.val (v := .int .i64 (IntKind.wrap .i64 (d13 + (1 : Int)))) (QV.add rfl rfl) rfl rfl rfl ?_
      refine JL.val (v := .int .i64 (IntKind.wrap .i64 (d13 + (1 : Int)))) (QV.assign rfl) rfl rfl rfl ?_
      refine JL.nil ?_
      obtain rfl := Option.some.inj hm
      exact QJ.round_on (y30, (IntKind.wrap .i64 (d13 + (1 : Int)))) () [3, 4, 5] (by exact ⟨rfl, rfl, rfl, rfl, rfl, rfl, rfl, trivial⟩) rfl rfl
    ·
      refine JC.condF' rfl (decide_eq_false h20) ?_
      refine JC.exit ?_
      refine QJ.then_exit ?_
      obtain rfl := Option.some.inj hm
      refine QJ.round_exit (fun hy => ?_)
      subst hy
      refine QJ.block_hit ?_
      exact QJ.cut_normal (d12, ()) hmo18 [1, 2] (by exact ⟨rfl, rfl, trivial⟩) rfl rfl

/-! ### 88: drogher/drogherref03.ended -/
noncomputable def F88.m (x1 : (Arr Int 16)) (x2 : Int) (x4 : List Int) : Option (Arr Int 32) :=
  (if (([(128 : Int), (128 : Int)]).length + (x4).length) * 1 ≤ 140737488355328 ∧ ([(128 : Int), (128 : Int)]).length + (x4).length ≤ 9223372036854775807 then ((F96.m (x1) (x2) (([(128 : Int), (128 : Int)] ++ x4))).bind fun y11 => some y11) else none)
set_option maxRecDepth 100000 in
set_option maxHeartbeats 4000000 in
theorem F88.spec (s3 : SlV) (x1 : (Arr Int 16)) (x2 : Int) (x4 : List Int) (r : (Arr Int 32)) (hm : F88.m x1 x2 x4 = some r) :
    Ctr Try.prog false 88 [.agg (((Enc.arr 16 (Enc.int .u8))).enc x1).toArray, .int .u32 x2, s3.v] [Asr.vw (Enc.int .u8) (s3.v) x4] (fun v L' => v = .agg (((Enc.arr 32 (Enc.int .u8))).enc r).toArray ∧ L' = []) := by
  refine Ctr.intro (n := 15) (env := [(0, .agg (((Enc.arr 16 (Enc.int .u8))).enc x1).toArray), (1, .int .u32 x2), (2, s3.v)]) Try.func88 rfl rfl rfl rfl (fun c => ?_)
  unfold F88.m at hm
  refine JC.seq ?_
  refine JC.region ?_
  refine JL.mv (d := some 3) (MV.box [Seg.of (Enc.arr 16 (Enc.int .u8)) x1] rfl (fun w hs => rfl)) rfl rfl rfl ?_
  rintro _ _ ⟨b6, rfl, rfl⟩
  refine JL.mv (d := some 6) (MV.alloc [Seg.of (Enc.arr 32 (Enc.int .u8)) (Arr.rep 32 (0 : Int))] z_39 rfl) rfl rfl rfl ?_
  rintro _ _ ⟨b7, rfl, rfl⟩
  refine JL.nil ?_
  refine QJ.then_normal ?_
  refine JC.seq ?_
  refine JC.region ?_
  refine JL.mv (d := some 8) (MV.lit (E := (Enc.int .u8)) (vals := [(0, .int .u8 (128 : Int)), (1, .int .u8 (128 : Int))]) [(128 : Int), (128 : Int)] Try.underlying22 zi_5 rfl (by decide) rfl (by kernel_rfl)) rfl rfl rfl ?_
  rintro _ _ ⟨z8, rfl, rfl⟩
  refine JL.val (v := z8.v) (QV.assign rfl) rfl rfl rfl ?_
  refine JL.nil ?_
  refine QJ.then_normal ?_
  refine JC.seq ?_
  refine JC.regionT [Asr.blk b6 75 [Seg.of (Enc.arr 16 (Enc.int .u8)) x1], Asr.vw (Enc.int .u8) (s3.v) x4] (fun t => false) [(0, true), (1, true), (2, true), (3, false), (4, false), (5, false), (6, false)] (by kernel_rfl) (by kernel_rfl) (by kernel_rfl) rfl (fun hsel => ?_)
  refine JT.take (i := 0) (v := .agg (((Enc.arr 16 (Enc.int .u8))).enc x1).toArray) hsel rfl (QV.eq (QV.loadN (ss := [Seg.of (Enc.arr 16 (Enc.int .u8)) x1]) 0 0 1 rfl tk_75 rfl rfl rfl rfl) rfl) rfl rfl rfl [2, 3] rfl rfl ?_
  refine JT.take (i := 1) (v := .int .u32 x2) hsel rfl (QV.move rfl) rfl rfl rfl [2, 3] rfl rfl ?_
  refine JT.take (i := 2) (v := z8.v) hsel rfl (QV.move rfl) rfl rfl rfl [2, 3] rfl rfl ?_
  refine JT.only (i := 3) (d := some 12) rfl (MV.ofQV (v := s3.v) (QV.move rfl)) rfl rfl rfl ?_
  rintro _ _ ⟨rfl, rfl⟩
  refine ⟨fun _ => ⟨[2, 3], rfl, rfl⟩, ?_⟩
  obtain ⟨h9, hm⟩ := guard_inv hm
  refine JT.only (i := 4) (d := some 13) rfl (MV.append 0 rfl (Rdg.vw 3 rfl) Try.underlying22 zi_5 rfl (by decide) rfl rfl h9) rfl rfl rfl ?_
  rintro _ _ ⟨z10, rfl, rfl⟩
  refine ⟨fun _ => ⟨[2, 3], rfl, rfl⟩, ?_⟩
  refine JT.grow [Asr.of 5 (Enc.int .u8) (z10.v) ([(128 : Int), (128 : Int)] ++ x4), Asr.blk b6 75 [Seg.of (Enc.arr 16 (Enc.int .u8)) x1], Asr.vw (Enc.int .u8) (s3.v) x4] [1, 2] rfl rfl ?_
  obtain ⟨y11, hc12, hm⟩ := bind_inv hm
  refine JT.only (i := 5) (d := some 14) rfl (MV.call (Lo := []) (Lr := [Asr.of 5 (Enc.int .u8) (z10.v) ([(128 : Int), (128 : Int)] ++ x4), Asr.blk b7 39 [Seg.of (Enc.arr 32 (Enc.int .u8)) (Arr.rep 32 (0 : Int))], Asr.blk b6 75 [Seg.of (Enc.arr 16 (Enc.int .u8)) x1], Asr.vw (Enc.int .u8) (s3.v) x4]) (F96.spec (z10) (x1) (x2) (([(128 : Int), (128 : Int)] ++ x4)) _ hc12) rfl Try.func96 rfl rfl rfl [] [0, 1, 2, 3] rfl rfl rfl ⟨(Drv.of 0 rfl), trivial⟩) rfl rfl rfl ?_
  rintro _ _ ⟨_, ⟨rfl, rfl⟩, rfl⟩
  refine ⟨fun _ => ⟨[0, 2, 3], rfl, rfl⟩, ?_⟩
  refine JT.only (i := 6) (d := none) rfl (MV.store (ss := [Seg.of (Enc.arr 32 (Enc.int .u8)) (Arr.rep 32 (0 : Int))]) 1 0 1 [Seg.of (Enc.arr 32 (Enc.int .u8)) y11] rfl tk_39 rfl rfl rfl rfl (fun w hs => ⟨rfl, one_of _ _, trivial⟩)) rfl rfl rfl ?_
  rintro _ _ ⟨rfl, rfl⟩
  refine ⟨fun _ => ⟨[0, 2, 3], rfl, rfl⟩, ?_⟩
  refine JT.grow [Asr.of 5 (Enc.int .u8) (z10.v) ([(128 : Int), (128 : Int)] ++ x4), Asr.blk b7 39 [Seg.of (Enc.arr 32 (Enc.int .u8)) y11], Asr.blk b6 75 [Seg.of (Enc.arr 16 (Enc.int .u8)) x1], Asr.vw (Enc.int .u8) (s3.v) x4] [0, 2, 3] rfl rfl ?_
  refine JT.nil ?_
  refine QJ.then_normal ?_
  refine JC.ret ?_
  obtain rfl := Option.some.inj hm
  exact QJ.body (vs := [.agg (((Enc.arr 32 (Enc.int .u8))).enc y11).toArray]) (.inl rfl) rfl (ResVs.cons (ResV.cell (d := none) (ty := 0) (ps := "") (af := #[]) (g := none) rfl (QV.eq (QV.loadN (ss := [Seg.of (Enc.arr 32 (Enc.int .u8)) y11]) 1 0 1 rfl tk_39 rfl rfl rfl rfl) rfl)) ResVs.nil) [] rfl rfl (.inr trivial) ⟨rfl, rfl⟩

/-! ### 80: drogher/ots.named -/
noncomputable def F80_1.m (x1 : Int) (x2 : (Arr Int 16)) (x3 : Int) : Option (Arr Int 20) :=
  ((F25.m (([] : List Int)) ((4 : Int)) ((IntKind.wrap .u64 x3))).bind fun y8 => some (Arr.cp (Arr.cp (Arr.rep 20 (0 : Int)) (0 : Int) ((20 : Nat) : Int) (subL (x2).l (0 : Int) ((16 : Nat) : Int))) (16 : Int) ((20 : Nat) : Int) y8))
set_option maxRecDepth 100000 in
set_option maxHeartbeats 4000000 in
theorem F80_1.spec (x1 : Int) (x2 : (Arr Int 16)) (x3 : Int) (r : (Arr Int 20)) (hm : F80_1.m x1 x2 x3 = some r) :
    Ctr Try.prog false 80 [.int .u32 x1, .agg (((Enc.arr 16 (Enc.int .u8))).enc x2).toArray, .int .u32 x3] [] (fun v L' => v = .agg (flat [Seg.c (.int .u32 x1), Seg.of (Enc.arr 20 (Enc.int .u8)) r]).toArray ∧ L' = []) := by
  refine Ctr.intro (n := 21) (env := [(0, .int .u32 x1), (1, .agg (((Enc.arr 16 (Enc.int .u8))).enc x2).toArray), (2, .int .u32 x3)]) Try.func80 rfl rfl rfl rfl (fun c => ?_)
  unfold F80_1.m at hm
  refine JC.seq ?_
  refine JC.region ?_
  refine JL.mv (d := some 4) (MV.box [Seg.of (Enc.arr 16 (Enc.int .u8)) x2] rfl (fun w hs => rfl)) rfl rfl rfl ?_
  rintro _ _ ⟨b5, rfl, rfl⟩
  refine JL.mv (d := some 6) (MV.alloc [Seg.c (.int .u32 (0 : Int)), Seg.of (Enc.arr 20 (Enc.int .u8)) (Arr.rep 20 (0 : Int))] z_114 rfl) rfl rfl rfl ?_
  rintro _ _ ⟨b6, rfl, rfl⟩
  refine JL.nil ?_
  refine QJ.then_normal ?_
  refine JC.seq ?_
  refine JC.region ?_
  refine JL.val (v := .int .u32 x1) (QV.move rfl) rfl rfl rfl ?_
  refine JL.val (v := .agg (flat [Seg.c (.int .u32 x1), Seg.of (Enc.arr 20 (Enc.int .u8)) (Arr.rep 20 (0 : Int))]).toArray) (QV.build (vals := [(0, .int .u32 x1)]) rfl (by kernel_rfl)) rfl rfl rfl ?_
  refine JL.mv (d := some 7) (MV.alloc [Seg.c (.int .u32 (0 : Int)), Seg.of (Enc.arr 20 (Enc.int .u8)) (Arr.rep 20 (0 : Int))] z_114 rfl) rfl rfl rfl ?_
  rintro _ _ ⟨b7, rfl, rfl⟩
  refine JL.mv (d := none) (MV.store (ss := [Seg.c (.int .u32 (0 : Int)), Seg.of (Enc.arr 20 (Enc.int .u8)) (Arr.rep 20 (0 : Int))]) 0 0 2 [Seg.c (.int .u32 x1), Seg.of (Enc.arr 20 (Enc.int .u8)) (Arr.rep 20 (0 : Int))] rfl tk_114 rfl rfl rfl rfl (fun w hs => ⟨rfl, one_c rfl, one_of _ _, trivial⟩)) rfl rfl rfl ?_
  rintro _ _ ⟨rfl, rfl⟩
  refine JL.nil ?_
  refine QJ.then_normal ?_
  refine JC.seq ?_
  refine JC.regionT [Asr.blk b6 114 [Seg.c (.int .u32 (0 : Int)), Seg.of (Enc.arr 20 (Enc.int .u8)) (Arr.rep 20 (0 : Int))], Asr.blk b5 78 [Seg.of (Enc.arr 16 (Enc.int .u8)) x2]] (fun t => false) [(0, true), (1, true), (2, false), (3, false)] (by kernel_rfl) (by kernel_rfl) (by kernel_rfl) rfl (fun hsel => ?_)
  refine JT.take (i := 0) (v := .pointer (some ⟨b7, 1, none⟩)) hsel rfl (QV.fieldB fo_114_1 rfl rfl) rfl rfl rfl [1, 2] rfl rfl ?_
  refine JT.take (i := 1) (v := (SlV.sub ((Enc.int .u8)).sz (SlV.mk (some ⟨b7, 1, none⟩) 20 20) (0 : Int) ((20 : Nat) : Int)).v) hsel rfl (QV.sliceB Try.underlying112 tk_5 rfl rfl rfl (by decide)) rfl rfl rfl [1, 2] rfl rfl ?_
  refine JT.only (i := 2) (d := some 12) rfl (MV.ofQV (v := (SlV.sub ((Enc.int .u8)).sz (SlV.mk (some ⟨b5, 0, none⟩) 16 16) (0 : Int) ((16 : Nat) : Int)).v) (QV.sliceB Try.underlying78 tk_5 rfl rfl rfl (by decide))) rfl rfl rfl ?_
  rintro _ _ ⟨rfl, rfl⟩
  refine ⟨fun _ => ⟨[1, 2], rfl, rfl⟩, ?_⟩
  refine JT.only (i := 3) (d := some 13) rfl (MV.copyB (ss := [Seg.c (.int .u32 x1), Seg.of (Enc.arr 20 (Enc.int .u8)) (Arr.rep 20 (0 : Int))]) (xs := (Arr.rep 20 (0 : Int))) (l := (0 : Int)) (h := ((20 : Nat) : Int)) 0 1 rfl (Rdg.ofDrv ((Drv.arr (ss := [Seg.of (Enc.arr 16 (Enc.int .u8)) x2]) 2 0 rfl rfl rfl rfl).subV (by rw [Arr.h]; exact (show 0 ≤ (0 : Int) ∧ (0 : Int) ≤ ((16 : Nat) : Int) ∧ ((16 : Nat) : Int) ≤ ((16 : Nat) : Int) from by decide)))) Try.underlying22 tk_5 rfl rfl rfl rfl (show 0 ≤ (0 : Int) ∧ (0 : Int) ≤ ((20 : Nat) : Int) ∧ ((20 : Nat) : Int) ≤ ((20 : Nat) : Int) from by decide)) rfl rfl rfl ?_
  rintro _ _ ⟨rfl, rfl⟩
  refine ⟨fun _ => ⟨[1, 2], rfl, rfl⟩, ?_⟩
  refine JT.grow [Asr.blk b7 114 [Seg.c (.int .u32 x1), Seg.of (Enc.arr 20 (Enc.int .u8)) (Arr.cp (Arr.rep 20 (0 : Int)) (0 : Int) ((20 : Nat) : Int) (subL (x2).l (0 : Int) ((16 : Nat) : Int)))], Asr.blk b6 114 [Seg.c (.int .u32 (0 : Int)), Seg.of (Enc.arr 20 (Enc.int .u8)) (Arr.rep 20 (0 : Int))], Asr.blk b5 78 [Seg.of (Enc.arr 16 (Enc.int .u8)) x2]] [1, 2] rfl rfl ?_
  refine JT.nil ?_
  refine QJ.then_normal ?_
  refine JC.seq ?_
  refine JC.regionT [Asr.blk b6 114 [Seg.c (.int .u32 (0 : Int)), Seg.of (Enc.arr 20 (Enc.int .u8)) (Arr.rep 20 (0 : Int))], Asr.blk b5 78 [Seg.of (Enc.arr 16 (Enc.int .u8)) x2]] (fun t => false) [(0, true), (1, true), (2, false), (3, false), (4, false), (5, false)] (by kernel_rfl) (by kernel_rfl) (by kernel_rfl) rfl (fun hsel => ?_)
  refine JT.take (i := 0) (v := .pointer (some ⟨b7, 1, none⟩)) hsel rfl (QV.fieldB fo_114_1 rfl rfl) rfl rfl rfl [1, 2] rfl rfl ?_
  refine JT.take (i := 1) (v := (SlV.sub ((Enc.int .u8)).sz (SlV.mk (some ⟨b7, 1, none⟩) 20 20) (16 : Int) ((20 : Nat) : Int)).v) hsel rfl (QV.sliceB Try.underlying112 tk_5 rfl rfl rfl (by decide)) rfl rfl rfl [1, 2] rfl rfl ?_
  refine JT.only (i := 2) (d := some 16) rfl (MV.ofQV (v := .int .u32 x3) (QV.move rfl)) rfl rfl rfl ?_
  rintro _ _ ⟨rfl, rfl⟩
  refine ⟨fun _ => ⟨[1, 2], rfl, rfl⟩, ?_⟩
  refine JT.only (i := 3) (d := some 17) rfl (MV.ofQV (v := .int .u64 (IntKind.wrap .u64 x3)) (QV.conv rfl (by rw [Try.underlying74]; rfl) Try.underlying28)) rfl rfl rfl ?_
  rintro _ _ ⟨rfl, rfl⟩
  refine ⟨fun _ => ⟨[1, 2], rfl, rfl⟩, ?_⟩
  refine JT.ent (fun _ hs => hs.nil 5 (Enc.int .u8)) ?_
  obtain ⟨y8, hc9, hm⟩ := bind_inv hm
  refine JT.only (i := 4) (d := some 18) rfl (MV.call (Lo := []) (Lr := [Asr.of 5 (Enc.int .u8) (SlV.nil.v) ([] : List Int), Asr.blk b7 114 [Seg.c (.int .u32 x1), Seg.of (Enc.arr 20 (Enc.int .u8)) (Arr.cp (Arr.rep 20 (0 : Int)) (0 : Int) ((20 : Nat) : Int) (subL (x2).l (0 : Int) ((16 : Nat) : Int)))], Asr.blk b6 114 [Seg.c (.int .u32 (0 : Int)), Seg.of (Enc.arr 20 (Enc.int .u8)) (Arr.rep 20 (0 : Int))], Asr.blk b5 78 [Seg.of (Enc.arr 16 (Enc.int .u8)) x2]]) (F25.spec (SlV.nil) (([] : List Int)) ((4 : Int)) ((IntKind.wrap .u64 x3)) _ hc9) rfl Try.func25 rfl rfl rfl [] [0, 1, 2, 3] rfl rfl rfl ⟨(Drv.of 0 rfl), trivial⟩) rfl rfl rfl ?_
  rintro _ _ ⟨_, ⟨z10, rfl, rfl⟩, rfl⟩
  refine ⟨fun _ => ⟨[3, 4], rfl, rfl⟩, ?_⟩
  refine JT.grow [Asr.of 5 (Enc.int .u8) (z10.v) y8, Asr.of 5 (Enc.int .u8) (SlV.nil.v) ([] : List Int), Asr.blk b6 114 [Seg.c (.int .u32 (0 : Int)), Seg.of (Enc.arr 20 (Enc.int .u8)) (Arr.rep 20 (0 : Int))], Asr.blk b5 78 [Seg.of (Enc.arr 16 (Enc.int .u8)) x2]] [2, 3] rfl rfl ?_
  refine JT.only (i := 5) (d := some 19) rfl (MV.copyB (ss := [Seg.c (.int .u32 x1), Seg.of (Enc.arr 20 (Enc.int .u8)) (Arr.cp (Arr.rep 20 (0 : Int)) (0 : Int) ((20 : Nat) : Int) (subL (x2).l (0 : Int) ((16 : Nat) : Int)))]) (xs := (Arr.cp (Arr.rep 20 (0 : Int)) (0 : Int) ((20 : Nat) : Int) (subL (x2).l (0 : Int) ((16 : Nat) : Int)))) (l := (16 : Int)) (h := ((20 : Nat) : Int)) 2 1 rfl (Rdg.of 0 rfl) Try.underlying22 tk_5 rfl rfl rfl rfl (show 0 ≤ (16 : Int) ∧ (16 : Int) ≤ ((20 : Nat) : Int) ∧ ((20 : Nat) : Int) ≤ ((20 : Nat) : Int) from by decide)) rfl rfl rfl ?_
  rintro _ _ ⟨rfl, rfl⟩
  refine ⟨fun _ => ⟨[0, 1, 3, 4], rfl, rfl⟩, ?_⟩
  refine JT.grow [Asr.of 5 (Enc.int .u8) (z10.v) y8, Asr.of 5 (Enc.int .u8) (SlV.nil.v) ([] : List Int), Asr.blk b7 114 [Seg.c (.int .u32 x1), Seg.of (Enc.arr 20 (Enc.int .u8)) (Arr.cp (Arr.cp (Arr.rep 20 (0 : Int)) (0 : Int) ((20 : Nat) : Int) (subL (x2).l (0 : Int) ((16 : Nat) : Int))) (16 : Int) ((20 : Nat) : Int) y8)], Asr.blk b6 114 [Seg.c (.int .u32 (0 : Int)), Seg.of (Enc.arr 20 (Enc.int .u8)) (Arr.rep 20 (0 : Int))], Asr.blk b5 78 [Seg.of (Enc.arr 16 (Enc.int .u8)) x2]] [0, 1, 3, 4] rfl rfl ?_
  refine JT.nil ?_
  refine QJ.then_normal ?_
  refine JC.seq ?_
  refine JC.region ?_
  refine JL.val (v := .agg (flat [Seg.c (.int .u32 x1), Seg.of (Enc.arr 20 (Enc.int .u8)) (Arr.cp (Arr.cp (Arr.rep 20 (0 : Int)) (0 : Int) ((20 : Nat) : Int) (subL (x2).l (0 : Int) ((16 : Nat) : Int))) (16 : Int) ((20 : Nat) : Int) y8)]).toArray) (QV.eq (QV.loadN (ss := [Seg.c (.int .u32 x1), Seg.of (Enc.arr 20 (Enc.int .u8)) (Arr.cp (Arr.cp (Arr.rep 20 (0 : Int)) (0 : Int) ((20 : Nat) : Int) (subL (x2).l (0 : Int) ((16 : Nat) : Int))) (16 : Int) ((20 : Nat) : Int) y8)]) 2 0 2 rfl tk_114 rfl rfl rfl rfl) rfl) rfl rfl rfl ?_
  refine JL.mv (d := none) (MV.store (ss := [Seg.c (.int .u32 (0 : Int)), Seg.of (Enc.arr 20 (Enc.int .u8)) (Arr.rep 20 (0 : Int))]) 3 0 2 [Seg.c (.int .u32 x1), Seg.of (Enc.arr 20 (Enc.int .u8)) (Arr.cp (Arr.cp (Arr.rep 20 (0 : Int)) (0 : Int) ((20 : Nat) : Int) (subL (x2).l (0 : Int) ((16 : Nat) : Int))) (16 : Int) ((20 : Nat) : Int) y8)] rfl tk_114 rfl rfl rfl rfl (fun w hs => ⟨rfl, one_c rfl, one_of _ _, trivial⟩)) rfl rfl rfl ?_
  rintro _ _ ⟨rfl, rfl⟩
  refine JL.nil ?_
  refine QJ.then_normal ?_
  refine JC.ret ?_
  obtain rfl := Option.some.inj hm
  exact QJ.body (vs := [.agg (flat [Seg.c (.int .u32 x1), Seg.of (Enc.arr 20 (Enc.int .u8)) (Arr.cp (Arr.cp (Arr.rep 20 (0 : Int)) (0 : Int) ((20 : Nat) : Int) (subL (x2).l (0 : Int) ((16 : Nat) : Int))) (16 : Int) ((20 : Nat) : Int) y8)]).toArray]) (.inl rfl) rfl (ResVs.cons (ResV.cell (d := none) (ty := 0) (ps := "") (af := #[]) (g := none) rfl (QV.eq (QV.loadN (ss := [Seg.c (.int .u32 x1), Seg.of (Enc.arr 20 (Enc.int .u8)) (Arr.cp (Arr.cp (Arr.rep 20 (0 : Int)) (0 : Int) ((20 : Nat) : Int) (subL (x2).l (0 : Int) ((16 : Nat) : Int))) (16 : Int) ((20 : Nat) : Int) y8)]) 3 0 2 rfl tk_114 rfl rfl rfl rfl) rfl)) ResVs.nil) [] rfl rfl (.inr trivial) ⟨rfl, rfl⟩

end Go.Proofs.Ytmedbpiapeiobaa
