/- Written by gen.py: functions and their contracts. -/
import Derived.Test.YtpophpendlnehaaFacts
namespace Go.Proofs.Ytpophpendlnehaa
open Go Go.Eng Go.Proofs
set_option linter.unusedVariables false
set_option linter.unusedSimpArgs false
/-! ### 15: drogher/lz.May -/
noncomputable def F15.m (x1 : Int) (x2 : Int) (x3 : Int) : Option Bool :=
  (if x2 = (0 : Int) then some (decide (x3 = (0 : Int))) else (if x1 = (0 : Int) then (if (3 : Int) ≤ x2 then (if x2 ≤ (258 : Int) then (if (1 : Int) ≤ x3 then some (decide (x3 ≤ (32768 : Int))) else some false) else some false) else some false) else some false))
set_option maxRecDepth 100000 in
set_option maxHeartbeats 4000000 in
theorem F15.spec (x1 : Int) (x2 : Int) (x3 : Int) (r : Bool) (hm : F15.m x1 x2 x3 = some r) :
    Ctr Try.prog false 15 [.agg #[.int .u8 x1, .int .i64 x2, .int .i64 x3]] [] (fun v L' => v = .bool r ∧ L' = []) := by
  refine Ctr.intro (n := 32) (env := [(0, .agg #[.int .u8 x1, .int .i64 x2, .int .i64 x3])]) Try.func15 rfl rfl rfl rfl (fun c => ?_)
  unfold F15.m at hm
  refine JC.seq ?_
  refine JC.region ?_
  refine JL.mv (d := some 1) (MV.box [Seg.c (.int .u8 x1), Seg.c (.int .i64 x2), Seg.c (.int .i64 x3)] rfl rfl) rfl rfl rfl ?_
  rintro _ _ ⟨b5, rfl, rfl⟩
  refine JL.val (v := .bool false) (QV.assign rfl) rfl rfl rfl ?_
  refine JL.nil ?_
  refine QJ.then_normal ?_
  refine JC.seq ?_
  refine JC.seq ?_
  refine JC.region ?_
  refine JL.val (v := .pointer (some ⟨b5, 1, none⟩)) (QV.fieldB fo_23_1 rfl rfl) rfl rfl rfl ?_
  refine JL.val (v := .int .i64 x2) (QV.load1 (ss := [Seg.c (.int .u8 x1), Seg.c (.int .i64 x2), Seg.c (.int .i64 x3)]) 0 1 rfl tk_3 rfl rfl rfl) rfl rfl rfl ?_
  refine JL.val (v := .bool (decide (x2 = (0 : Int)))) (QV.eql rfl rfl) rfl rfl rfl ?_
  refine JL.nil ?_
  refine QJ.then_normal ?_
  rcases ite_inv hm with ⟨h6, hm⟩ | ⟨h6, hm⟩
  ·
    refine JC.condT' rfl (decide_eq_true h6) ?_
    refine JC.seq ?_
    refine JC.region ?_
    refine JL.val (v := .pointer (some ⟨b5, 2, none⟩)) (QV.fieldB fo_23_2 rfl rfl) rfl rfl rfl ?_
    refine JL.val (v := .int .i64 x3) (QV.load1 (ss := [Seg.c (.int .u8 x1), Seg.c (.int .i64 x2), Seg.c (.int .i64 x3)]) 0 2 rfl tk_3 rfl rfl rfl) rfl rfl rfl ?_
    refine JL.val (v := .bool (decide (x3 = (0 : Int)))) (QV.eql rfl rfl) rfl rfl rfl ?_
    refine JL.val (v := .bool (decide (x3 = (0 : Int)))) (QV.assign rfl) rfl rfl rfl ?_
    refine JL.nil ?_
    refine QJ.then_normal ?_
    refine JC.ret ?_
    refine QJ.then_ret ?_
    obtain rfl := Option.some.inj hm
    exact QJ.body (.inl rfl) rfl rfl [] rfl rfl (.inr trivial) ⟨rfl, rfl⟩
  ·
    refine JC.condF' rfl (decide_eq_false h6) ?_
    refine JC.skip ?_
    refine QJ.then_normal ?_
    refine JC.seq ?_
    refine JC.region ?_
    refine JL.val (v := .pointer (some ⟨b5, 0, none⟩)) (QV.fieldB fo_23_0 rfl rfl) rfl rfl rfl ?_
    refine JL.val (v := .int .u8 x1) (QV.load1 (ss := [Seg.c (.int .u8 x1), Seg.c (.int .i64 x2), Seg.c (.int .i64 x3)]) 0 0 rfl tk_5 rfl rfl rfl) rfl rfl rfl ?_
    refine JL.val (v := .bool (decide (x1 = (0 : Int)))) (QV.eql rfl rfl) rfl rfl rfl ?_
    rcases ite_inv hm with ⟨h7, hm⟩ | ⟨h7, hm⟩
    ·
      refine JL.val (v := .bool true) (QV.eq (QV.move rfl) (congrArg Value.bool (decide_eq_true h7))) rfl rfl rfl ?_
      refine JL.val (v := .pointer (some ⟨b5, 1, none⟩)) (QV.fieldB fo_23_1 rfl rfl) rfl rfl rfl ?_
      refine JL.val (v := .int .i64 x2) (QV.load1 (ss := [Seg.c (.int .u8 x1), Seg.c (.int .i64 x2), Seg.c (.int .i64 x3)]) 0 1 rfl tk_3 rfl rfl rfl) rfl rfl rfl ?_
      refine JL.val (v := .bool (decide ((3 : Int) ≤ x2))) (QV.geq rfl rfl) rfl rfl rfl ?_
      refine JL.val (v := .bool (decide ((3 : Int) ≤ x2))) (QV.pickT rfl rfl) rfl rfl rfl ?_
      rcases ite_inv hm with ⟨h8, hm⟩ | ⟨h8, hm⟩
      ·
        refine JL.val (v := .bool true) (QV.eq (QV.move rfl) (congrArg Value.bool (decide_eq_true h8))) rfl rfl rfl ?_
        refine JL.val (v := .pointer (some ⟨b5, 1, none⟩)) (QV.fieldB fo_23_1 rfl rfl) rfl rfl rfl ?_
        refine JL.val (v := .int .i64 x2) (QV.load1 (ss := [Seg.c (.int .u8 x1), Seg.c (.int .i64 x2), Seg.c (.int .i64 x3)]) 0 1 rfl tk_3 rfl rfl rfl) rfl rfl rfl ?_
        refine JL.val (v := .bool (decide (x2 ≤ (258 : Int)))) (QV.leq rfl rfl) rfl rfl rfl ?_
        refine JL.val (v := .bool (decide (x2 ≤ (258 : Int)))) (QV.pickT rfl rfl) rfl rfl rfl ?_
        rcases ite_inv hm with ⟨h9, hm⟩ | ⟨h9, hm⟩
        ·
          refine JL.val (v := .bool true) (QV.eq (QV.move rfl) (congrArg Value.bool (decide_eq_true h9))) rfl rfl rfl ?_
          refine JL.val (v := .pointer (some ⟨b5, 2, none⟩)) (QV.fieldB fo_23_2 rfl rfl) rfl rfl rfl ?_
          refine JL.val (v := .int .i64 x3) (QV.load1 (ss := [Seg.c (.int .u8 x1), Seg.c (.int .i64 x2), Seg.c (.int .i64 x3)]) 0 2 rfl tk_3 rfl rfl rfl) rfl rfl rfl ?_
          refine JL.val (v := .bool (decide ((1 : Int) ≤ x3))) (QV.geq rfl rfl) rfl rfl rfl ?_
          refine JL.val (v := .bool (decide ((1 : Int) ≤ x3))) (QV.pickT rfl rfl) rfl rfl rfl ?_
          rcases ite_inv hm with ⟨h10, hm⟩ | ⟨h10, hm⟩
          ·
            refine JL.val (v := .bool true) (QV.eq (QV.move rfl) (congrArg Value.bool (decide_eq_true h10))) rfl rfl rfl ?_
            refine JL.val (v := .pointer (some ⟨b5, 2, none⟩)) (QV.fieldB fo_23_2 rfl rfl) rfl rfl rfl ?_
            refine JL.val (v := .int .i64 x3) (QV.load1 (ss := [Seg.c (.int .u8 x1), Seg.c (.int .i64 x2), Seg.c (.int .i64 x3)]) 0 2 rfl tk_3 rfl rfl rfl) rfl rfl rfl ?_
            refine JL.val (v := .bool (decide (x3 ≤ (32768 : Int)))) (QV.leq rfl rfl) rfl rfl rfl ?_
            refine JL.val (v := .bool (decide (x3 ≤ (32768 : Int)))) (QV.pickT rfl rfl) rfl rfl rfl ?_
            refine JL.val (v := .bool (decide (x3 ≤ (32768 : Int)))) (QV.assign rfl) rfl rfl rfl ?_
            refine JL.nil ?_
            refine QJ.then_normal ?_
            refine JC.ret ?_
            obtain rfl := Option.some.inj hm
            exact QJ.body (.inl rfl) rfl rfl [] rfl rfl (.inr trivial) ⟨rfl, rfl⟩
          ·
            refine JL.val (v := .bool false) (QV.eq (QV.move rfl) (congrArg Value.bool (decide_eq_false h10))) rfl rfl rfl ?_
            refine JL.skip (d := some 28) rfl rfl rfl ?_
            refine JL.skip (d := some 29) rfl rfl rfl ?_
            refine JL.skip (d := some 30) rfl rfl rfl ?_
            refine JL.val (v := .bool false) (QV.pickF rfl rfl) rfl rfl rfl ?_
            refine JL.val (v := .bool false) (QV.assign rfl) rfl rfl rfl ?_
            refine JL.nil ?_
            refine QJ.then_normal ?_
            refine JC.ret ?_
            obtain rfl := Option.some.inj hm
            exact QJ.body (.inl rfl) rfl rfl [] rfl rfl (.inr trivial) ⟨rfl, rfl⟩
        ·
          refine JL.val (v := .bool false) (QV.eq (QV.move rfl) (congrArg Value.bool (decide_eq_false h9))) rfl rfl rfl ?_
          refine JL.skip (d := some 23) rfl rfl rfl ?_
          refine JL.skip (d := some 24) rfl rfl rfl ?_
          refine JL.skip (d := some 25) rfl rfl rfl ?_
          refine JL.val (v := .bool false) (QV.pickF rfl rfl) rfl rfl rfl ?_
          refine JL.val (v := .bool false) (QV.move rfl) rfl rfl rfl ?_
          refine JL.skip (d := some 28) rfl rfl rfl ?_
          refine JL.skip (d := some 29) rfl rfl rfl ?_
          refine JL.skip (d := some 30) rfl rfl rfl ?_
          refine JL.val (v := .bool false) (QV.pickF rfl rfl) rfl rfl rfl ?_
          refine JL.val (v := .bool false) (QV.assign rfl) rfl rfl rfl ?_
          refine JL.nil ?_
          refine QJ.then_normal ?_
          refine JC.ret ?_
          obtain rfl := Option.some.inj hm
          exact QJ.body (.inl rfl) rfl rfl [] rfl rfl (.inr trivial) ⟨rfl, rfl⟩
      ·
        refine JL.val (v := .bool false) (QV.eq (QV.move rfl) (congrArg Value.bool (decide_eq_false h8))) rfl rfl rfl ?_
        refine JL.skip (d := some 18) rfl rfl rfl ?_
        refine JL.skip (d := some 19) rfl rfl rfl ?_
        refine JL.skip (d := some 20) rfl rfl rfl ?_
        refine JL.val (v := .bool false) (QV.pickF rfl rfl) rfl rfl rfl ?_
        refine JL.val (v := .bool false) (QV.move rfl) rfl rfl rfl ?_
        refine JL.skip (d := some 23) rfl rfl rfl ?_
        refine JL.skip (d := some 24) rfl rfl rfl ?_
        refine JL.skip (d := some 25) rfl rfl rfl ?_
        refine JL.val (v := .bool false) (QV.pickF rfl rfl) rfl rfl rfl ?_
        refine JL.val (v := .bool false) (QV.move rfl) rfl rfl rfl ?_
        refine JL.skip (d := some 28) rfl rfl rfl ?_
        refine JL.skip (d := some 29) rfl rfl rfl ?_
        refine JL.skip (d := some 30) rfl rfl rfl ?_
        refine JL.val (v := .bool false) (QV.pickF rfl rfl) rfl rfl rfl ?_
        refine JL.val (v := .bool false) (QV.assign rfl) rfl rfl rfl ?_
        refine JL.nil ?_
        refine QJ.then_normal ?_
        refine JC.ret ?_
        obtain rfl := Option.some.inj hm
        exact QJ.body (.inl rfl) rfl rfl [] rfl rfl (.inr trivial) ⟨rfl, rfl⟩
    ·
      refine JL.val (v := .bool false) (QV.eq (QV.move rfl) (congrArg Value.bool (decide_eq_false h7))) rfl rfl rfl ?_
      refine JL.skip (d := some 13) rfl rfl rfl ?_
      refine JL.skip (d := some 14) rfl rfl rfl ?_
      refine JL.skip (d := some 15) rfl rfl rfl ?_
      refine JL.val (v := .bool false) (QV.pickF rfl rfl) rfl rfl rfl ?_
      refine JL.val (v := .bool false) (QV.move rfl) rfl rfl rfl ?_
      refine JL.skip (d := some 18) rfl rfl rfl ?_
      refine JL.skip (d := some 19) rfl rfl rfl ?_
      refine JL.skip (d := some 20) rfl rfl rfl ?_
      refine JL.val (v := .bool false) (QV.pickF rfl rfl) rfl rfl rfl ?_
      refine JL.val (v := .bool false) (QV.move rfl) rfl rfl rfl ?_
      refine JL.skip (d := some 23) rfl rfl rfl ?_
      refine JL.skip (d := some 24) rfl rfl rfl ?_
      refine JL.skip (d := some 25) rfl rfl rfl ?_
      refine JL.val (v := .bool false) (QV.pickF rfl rfl) rfl rfl rfl ?_
      refine JL.val (v := .bool false) (QV.move rfl) rfl rfl rfl ?_
      refine JL.skip (d := some 28) rfl rfl rfl ?_
      refine JL.skip (d := some 29) rfl rfl rfl ?_
      refine JL.skip (d := some 30) rfl rfl rfl ?_
      refine JL.val (v := .bool false) (QV.pickF rfl rfl) rfl rfl rfl ?_
      refine JL.val (v := .bool false) (QV.assign rfl) rfl rfl rfl ?_
      refine JL.nil ?_
      refine QJ.then_normal ?_
      refine JC.ret ?_
      obtain rfl := Option.some.inj hm
      exact QJ.body (.inl rfl) rfl rfl [] rfl rfl (.inr trivial) ⟨rfl, rfl⟩

/-! ### 16: drogher/drogherref11.May -/
noncomputable def F16.m (x1 : Int) (x2 : Int) (x3 : Int) : Option Bool :=
  (if x2 = (0 : Int) then some (decide (x3 = (0 : Int))) else (if x1 = (0 : Int) then (if (2 : Int) < x2 then (if x2 < (259 : Int) then (if (0 : Int) < x3 then some (decide (x3 < (32769 : Int))) else some false) else some false) else some false) else some false))
set_option maxRecDepth 100000 in
set_option maxHeartbeats 4000000 in
theorem F16.spec (x1 : Int) (x2 : Int) (x3 : Int) (r : Bool) (hm : F16.m x1 x2 x3 = some r) :
    Ctr Try.prog false 16 [.agg #[.int .u8 x1, .int .i64 x2, .int .i64 x3]] [] (fun v L' => v = .bool r ∧ L' = []) := by
  refine Ctr.intro (n := 32) (env := [(0, .agg #[.int .u8 x1, .int .i64 x2, .int .i64 x3])]) Try.func16 rfl rfl rfl rfl (fun c => ?_)
  unfold F16.m at hm
  refine JC.seq ?_
  refine JC.region ?_
  refine JL.mv (d := some 1) (MV.box [Seg.c (.int .u8 x1), Seg.c (.int .i64 x2), Seg.c (.int .i64 x3)] rfl rfl) rfl rfl rfl ?_
  rintro _ _ ⟨b5, rfl, rfl⟩
  refine JL.val (v := .bool false) (QV.assign rfl) rfl rfl rfl ?_
  refine JL.nil ?_
  refine QJ.then_normal ?_
  refine JC.seq ?_
  refine JC.seq ?_
  refine JC.region ?_
  refine JL.val (v := .pointer (some ⟨b5, 1, none⟩)) (QV.fieldB fo_23_1 rfl rfl) rfl rfl rfl ?_
  refine JL.val (v := .int .i64 x2) (QV.load1 (ss := [Seg.c (.int .u8 x1), Seg.c (.int .i64 x2), Seg.c (.int .i64 x3)]) 0 1 rfl tk_3 rfl rfl rfl) rfl rfl rfl ?_
  refine JL.val (v := .bool (decide (x2 = (0 : Int)))) (QV.eql rfl rfl) rfl rfl rfl ?_
  refine JL.nil ?_
  refine QJ.then_normal ?_
  rcases ite_inv hm with ⟨h6, hm⟩ | ⟨h6, hm⟩
  ·
    refine JC.condT' rfl (decide_eq_true h6) ?_
    refine JC.seq ?_
    refine JC.region ?_
    refine JL.val (v := .pointer (some ⟨b5, 2, none⟩)) (QV.fieldB fo_23_2 rfl rfl) rfl rfl rfl ?_
    refine JL.val (v := .int .i64 x3) (QV.load1 (ss := [Seg.c (.int .u8 x1), Seg.c (.int .i64 x2), Seg.c (.int .i64 x3)]) 0 2 rfl tk_3 rfl rfl rfl) rfl rfl rfl ?_
    refine JL.val (v := .bool (decide (x3 = (0 : Int)))) (QV.eql rfl rfl) rfl rfl rfl ?_
    refine JL.val (v := .bool (decide (x3 = (0 : Int)))) (QV.assign rfl) rfl rfl rfl ?_
    refine JL.nil ?_
    refine QJ.then_normal ?_
    refine JC.ret ?_
    refine QJ.then_ret ?_
    obtain rfl := Option.some.inj hm
    exact QJ.body (.inl rfl) rfl rfl [] rfl rfl (.inr trivial) ⟨rfl, rfl⟩
  ·
    refine JC.condF' rfl (decide_eq_false h6) ?_
    refine JC.skip ?_
    refine QJ.then_normal ?_
    refine JC.seq ?_
    refine JC.region ?_
    refine JL.val (v := .pointer (some ⟨b5, 0, none⟩)) (QV.fieldB fo_23_0 rfl rfl) rfl rfl rfl ?_
    refine JL.val (v := .int .u8 x1) (QV.load1 (ss := [Seg.c (.int .u8 x1), Seg.c (.int .i64 x2), Seg.c (.int .i64 x3)]) 0 0 rfl tk_5 rfl rfl rfl) rfl rfl rfl ?_
    refine JL.val (v := .bool (decide (x1 = (0 : Int)))) (QV.eql rfl rfl) rfl rfl rfl ?_
    rcases ite_inv hm with ⟨h7, hm⟩ | ⟨h7, hm⟩
    ·
      refine JL.val (v := .bool true) (QV.eq (QV.move rfl) (congrArg Value.bool (decide_eq_true h7))) rfl rfl rfl ?_
      refine JL.val (v := .pointer (some ⟨b5, 1, none⟩)) (QV.fieldB fo_23_1 rfl rfl) rfl rfl rfl ?_
      refine JL.val (v := .int .i64 x2) (QV.load1 (ss := [Seg.c (.int .u8 x1), Seg.c (.int .i64 x2), Seg.c (.int .i64 x3)]) 0 1 rfl tk_3 rfl rfl rfl) rfl rfl rfl ?_
      refine JL.val (v := .bool (decide ((2 : Int) < x2))) (QV.gtr rfl rfl) rfl rfl rfl ?_
      refine JL.val (v := .bool (decide ((2 : Int) < x2))) (QV.pickT rfl rfl) rfl rfl rfl ?_
      rcases ite_inv hm with ⟨h8, hm⟩ | ⟨h8, hm⟩
      ·
        refine JL.val (v := .bool true) (QV.eq (QV.move rfl) (congrArg Value.bool (decide_eq_true h8))) rfl rfl rfl ?_
        refine JL.val (v := .pointer (some ⟨b5, 1, none⟩)) (QV.fieldB fo_23_1 rfl rfl) rfl rfl rfl ?_
        refine JL.val (v := .int .i64 x2) (QV.load1 (ss := [Seg.c (.int .u8 x1), Seg.c (.int .i64 x2), Seg.c (.int .i64 x3)]) 0 1 rfl tk_3 rfl rfl rfl) rfl rfl rfl ?_
        refine JL.val (v := .bool (decide (x2 < (259 : Int)))) (QV.lss rfl rfl) rfl rfl rfl ?_
        refine JL.val (v := .bool (decide (x2 < (259 : Int)))) (QV.pickT rfl rfl) rfl rfl rfl ?_
        rcases ite_inv hm with ⟨h9, hm⟩ | ⟨h9, hm⟩
        ·
          refine JL.val (v := .bool true) (QV.eq (QV.move rfl) (congrArg Value.bool (decide_eq_true h9))) rfl rfl rfl ?_
          refine JL.val (v := .pointer (some ⟨b5, 2, none⟩)) (QV.fieldB fo_23_2 rfl rfl) rfl rfl rfl ?_
          refine JL.val (v := .int .i64 x3) (QV.load1 (ss := [Seg.c (.int .u8 x1), Seg.c (.int .i64 x2), Seg.c (.int .i64 x3)]) 0 2 rfl tk_3 rfl rfl rfl) rfl rfl rfl ?_
          refine JL.val (v := .bool (decide ((0 : Int) < x3))) (QV.gtr rfl rfl) rfl rfl rfl ?_
          refine JL.val (v := .bool (decide ((0 : Int) < x3))) (QV.pickT rfl rfl) rfl rfl rfl ?_
          rcases ite_inv hm with ⟨h10, hm⟩ | ⟨h10, hm⟩
          ·
            refine JL.val (v := .bool true) (QV.eq (QV.move rfl) (congrArg Value.bool (decide_eq_true h10))) rfl rfl rfl ?_
            refine JL.val (v := .pointer (some ⟨b5, 2, none⟩)) (QV.fieldB fo_23_2 rfl rfl) rfl rfl rfl ?_
            refine JL.val (v := .int .i64 x3) (QV.load1 (ss := [Seg.c (.int .u8 x1), Seg.c (.int .i64 x2), Seg.c (.int .i64 x3)]) 0 2 rfl tk_3 rfl rfl rfl) rfl rfl rfl ?_
            refine JL.val (v := .bool (decide (x3 < (32769 : Int)))) (QV.lss rfl rfl) rfl rfl rfl ?_
            refine JL.val (v := .bool (decide (x3 < (32769 : Int)))) (QV.pickT rfl rfl) rfl rfl rfl ?_
            refine JL.val (v := .bool (decide (x3 < (32769 : Int)))) (QV.assign rfl) rfl rfl rfl ?_
            refine JL.nil ?_
            refine QJ.then_normal ?_
            refine JC.ret ?_
            obtain rfl := Option.some.inj hm
            exact QJ.body (.inl rfl) rfl rfl [] rfl rfl (.inr trivial) ⟨rfl, rfl⟩
          ·
            refine JL.val (v := .bool false) (QV.eq (QV.move rfl) (congrArg Value.bool (decide_eq_false h10))) rfl rfl rfl ?_
            refine JL.skip (d := some 28) rfl rfl rfl ?_
            refine JL.skip (d := some 29) rfl rfl rfl ?_
            refine JL.skip (d := some 30) rfl rfl rfl ?_
            refine JL.val (v := .bool false) (QV.pickF rfl rfl) rfl rfl rfl ?_
            refine JL.val (v := .bool false) (QV.assign rfl) rfl rfl rfl ?_
            refine JL.nil ?_
            refine QJ.then_normal ?_
            refine JC.ret ?_
            obtain rfl := Option.some.inj hm
            exact QJ.body (.inl rfl) rfl rfl [] rfl rfl (.inr trivial) ⟨rfl, rfl⟩
        ·
          refine JL.val (v := .bool false) (QV.eq (QV.move rfl) (congrArg Value.bool (decide_eq_false h9))) rfl rfl rfl ?_
          refine JL.skip (d := some 23) rfl rfl rfl ?_
          refine JL.skip (d := some 24) rfl rfl rfl ?_
          refine JL.skip (d := some 25) rfl rfl rfl ?_
          refine JL.val (v := .bool false) (QV.pickF rfl rfl) rfl rfl rfl ?_
          refine JL.val (v := .bool false) (QV.move rfl) rfl rfl rfl ?_
          refine JL.skip (d := some 28) rfl rfl rfl ?_
          refine JL.skip (d := some 29) rfl rfl rfl ?_
          refine JL.skip (d := some 30) rfl rfl rfl ?_
          refine JL.val (v := .bool false) (QV.pickF rfl rfl) rfl rfl rfl ?_
          refine JL.val (v := .bool false) (QV.assign rfl) rfl rfl rfl ?_
          refine JL.nil ?_
          refine QJ.then_normal ?_
          refine JC.ret ?_
          obtain rfl := Option.some.inj hm
          exact QJ.body (.inl rfl) rfl rfl [] rfl rfl (.inr trivial) ⟨rfl, rfl⟩
      ·
        refine JL.val (v := .bool false) (QV.eq (QV.move rfl) (congrArg Value.bool (decide_eq_false h8))) rfl rfl rfl ?_
        refine JL.skip (d := some 18) rfl rfl rfl ?_
        refine JL.skip (d := some 19) rfl rfl rfl ?_
        refine JL.skip (d := some 20) rfl rfl rfl ?_
        refine JL.val (v := .bool false) (QV.pickF rfl rfl) rfl rfl rfl ?_
        refine JL.val (v := .bool false) (QV.move rfl) rfl rfl rfl ?_
        refine JL.skip (d := some 23) rfl rfl rfl ?_
        refine JL.skip (d := some 24) rfl rfl rfl ?_
        refine JL.skip (d := some 25) rfl rfl rfl ?_
        refine JL.val (v := .bool false) (QV.pickF rfl rfl) rfl rfl rfl ?_
        refine JL.val (v := .bool false) (QV.move rfl) rfl rfl rfl ?_
        refine JL.skip (d := some 28) rfl rfl rfl ?_
        refine JL.skip (d := some 29) rfl rfl rfl ?_
        refine JL.skip (d := some 30) rfl rfl rfl ?_
        refine JL.val (v := .bool false) (QV.pickF rfl rfl) rfl rfl rfl ?_
        refine JL.val (v := .bool false) (QV.assign rfl) rfl rfl rfl ?_
        refine JL.nil ?_
        refine QJ.then_normal ?_
        refine JC.ret ?_
        obtain rfl := Option.some.inj hm
        exact QJ.body (.inl rfl) rfl rfl [] rfl rfl (.inr trivial) ⟨rfl, rfl⟩
    ·
      refine JL.val (v := .bool false) (QV.eq (QV.move rfl) (congrArg Value.bool (decide_eq_false h7))) rfl rfl rfl ?_
      refine JL.skip (d := some 13) rfl rfl rfl ?_
      refine JL.skip (d := some 14) rfl rfl rfl ?_
      refine JL.skip (d := some 15) rfl rfl rfl ?_
      refine JL.val (v := .bool false) (QV.pickF rfl rfl) rfl rfl rfl ?_
      refine JL.val (v := .bool false) (QV.move rfl) rfl rfl rfl ?_
      refine JL.skip (d := some 18) rfl rfl rfl ?_
      refine JL.skip (d := some 19) rfl rfl rfl ?_
      refine JL.skip (d := some 20) rfl rfl rfl ?_
      refine JL.val (v := .bool false) (QV.pickF rfl rfl) rfl rfl rfl ?_
      refine JL.val (v := .bool false) (QV.move rfl) rfl rfl rfl ?_
      refine JL.skip (d := some 23) rfl rfl rfl ?_
      refine JL.skip (d := some 24) rfl rfl rfl ?_
      refine JL.skip (d := some 25) rfl rfl rfl ?_
      refine JL.val (v := .bool false) (QV.pickF rfl rfl) rfl rfl rfl ?_
      refine JL.val (v := .bool false) (QV.move rfl) rfl rfl rfl ?_
      refine JL.skip (d := some 28) rfl rfl rfl ?_
      refine JL.skip (d := some 29) rfl rfl rfl ?_
      refine JL.skip (d := some 30) rfl rfl rfl ?_
      refine JL.val (v := .bool false) (QV.pickF rfl rfl) rfl rfl rfl ?_
      refine JL.val (v := .bool false) (QV.assign rfl) rfl rfl rfl ?_
      refine JL.nil ?_
      refine QJ.then_normal ?_
      refine JC.ret ?_
      obtain rfl := Option.some.inj hm
      exact QJ.body (.inl rfl) rfl rfl [] rfl rfl (.inr trivial) ⟨rfl, rfl⟩

/-! ### 55: drogher/lz.Expand -/
noncomputable def F55.j1  (d8 : List Int) : Option (List Int × Int) :=
  some (d8, (0 : Int))
noncomputable def F55.j2 (d11 : Int) (d21 : List Int) : Option ((List Int × Int) ⊕ (((List Int × Int)) ⊕ List Int)) :=
  some (.inl (d21, (IntKind.wrap .i64 (d11 + (1 : Int)))))
noncomputable def F55.j3 (d11 : Int) (d35 : List Int) : Option ((List Int × Int) ⊕ (((List Int × Int)) ⊕ List Int)) :=
  F55.j2 d11 (d35)
noncomputable def F55.b2 (x2 : (List (Int × Int × Int))) (d11 : Int) : (List Int × Int) → Option ((List Int × Int) ⊕ List Int)
  | (d37, d38) => (if d38 < (maxI (gd x2 d11).2.1 (1 : Int)) then (if 0 ≤ (IntKind.wrap .i64 (((d37).length : Int) - (gd x2 d11).2.2)) ∧ (IntKind.wrap .i64 (((d37).length : Int) - (gd x2 d11).2.2)) < ((d37).length : Int) then (if ((d37).length + ([(gd d37 (IntKind.wrap .i64 (((d37).length : Int) - (gd x2 d11).2.2)))]).length) * 1 ≤ 140737488355328 ∧ (d37).length + ([(gd d37 (IntKind.wrap .i64 (((d37).length : Int) - (gd x2 d11).2.2)))]).length ≤ 9223372036854775807 then some (.inl ((d37 ++ [(gd d37 (IntKind.wrap .i64 (((d37).length : Int) - (gd x2 d11).2.2)))]), (IntKind.wrap .i64 (d38 + (1 : Int))))) else none) else none) else some (.inr d37))
noncomputable def F55.b1 (x2 : (List (Int × Int × Int))) (x3 : Int) : (List Int × Int) → Option ((List Int × Int) ⊕ (((List Int × Int)) ⊕ List Int))
  | (d10, d11) => (if d11 < ((x2).length : Int) then (if 0 ≤ d11 ∧ d11 < ((x2).length : Int) then ((F15.m ((gd x2 d11).1) ((gd x2 d11).2.1) ((gd x2 d11).2.2)).bind fun y24 => (if y24 = true then (if ((d10).length : Int) < (gd x2 d11).2.2 then some (.inr (.inl ((([] : List Int), (5 : Int))))) else (if x3 < (maxI (gd x2 d11).2.1 (1 : Int)) then some (.inr (.inl ((([] : List Int), (12 : Int))))) else (if (IntKind.wrap .i64 (x3 - (maxI (gd x2 d11).2.1 (1 : Int)))) < ((d10).length : Int) then some (.inr (.inl ((([] : List Int), (12 : Int))))) else (if (gd x2 d11).2.1 = (0 : Int) then (if ((d10).length + ([(gd x2 d11).1]).length) * 1 ≤ 140737488355328 ∧ (d10).length + ([(gd x2 d11).1]).length ≤ 9223372036854775807 then F55.j2 d11 ((d10 ++ [(gd x2 d11).1])) else none) else ((loop (F55.b2 x2 d11) (d10, (0 : Int))).bind fun y => match y with | d35 => F55.j3 d11 (d35)))))) else some (.inr (.inl ((([] : List Int), (3 : Int))))))) else none) else some (.inr (.inr (d10))))
noncomputable def F55.m (x2 : (List (Int × Int × Int))) (x3 : Int) : Option (List Int × Int) :=
  ((loop (F55.b1 x2 x3) (([] : List Int), (0 : Int))).bind fun y => match y with | .inl r => some r | .inr d8 => F55.j1 (d8))
set_option maxRecDepth 100000 in
set_option maxHeartbeats 4000000 in
theorem F55.spec (s1 : Value) (x2 : (List (Int × Int × Int))) (x3 : Int) (r : (List Int × Int)) (hm : F55.m x2 x3 = some r) :
    Ctr Try.prog false 55 [s1, .int .i64 x3] [Asr.vw (Enc.pair (Enc.int .u8) (Enc.pair (Enc.int .i64) (Enc.int .i64))) (s1) x2] (fun v L' => ∃ (g4 : Value), v = .tuple #[g4, .int .i64 r.2] ∧ L' = [Asr.of 5 (Enc.int .u8) (g4) r.1]) := by
  refine Ctr.intro (n := 67) (env := [(0, s1), (1, .int .i64 x3)]) Try.func55 rfl rfl rfl rfl (fun c => ?_)
  unfold F55.m at hm
  refine JC.seq ?_
  refine JC.region ?_
  refine JL.ent (fun _ hs => hs.nil 5 (Enc.int .u8)) ?_
  refine JL.val (v := (Value.slice none 0 0)) (QV.assign rfl) rfl rfl rfl ?_
  refine JL.val (v := .int .i64 (0 : Int)) (QV.assign rfl) rfl rfl rfl ?_
  refine JL.nil ?_
  refine QJ.then_normal ?_
  refine JC.seq ?_
  refine JC.region ?_
  refine JL.ent (fun _ hs => hs.nil 5 (Enc.int .u8)) ?_
  refine JL.val (v := (Value.slice none 0 0)) (QV.assign rfl) rfl rfl rfl ?_
  refine JL.nil ?_
  refine QJ.then_normal ?_
  refine JC.seq ?_
  refine JC.seq ?_
  refine JC.region ?_
  refine JL.val (v := s1) (QV.move rfl) rfl rfl rfl ?_
  refine JL.val (v := .int .i64 ((x2).length : Int)) (QV.len (Rdg.vw 2 rfl) Try.underlying27 rfl) rfl rfl rfl ?_
  refine JL.val (v := .int .i64 (0 : Int)) (QV.move rfl) rfl rfl rfl ?_
  refine JL.nil ?_
  refine QJ.then_normal ?_
  refine JC.cutK (Y := List Int × Value) (fun y => match y with | (d8, _) => F55.j1 (d8) = some r) (fun y => match y with | (d8, z7) => [(6, z7)]) (fun y => match y with | (d8, z7) => [Asr.of 5 (Enc.int .u8) (z7) d8]) ?_ ?_
  ·
    rintro ⟨d8, z7⟩ hm
    unfold F55.j1 at hm
    show QJ _ _ [(6, z7)] [Asr.of 5 (Enc.int .u8) (z7) d8] _ _
    refine QJ.then_normal ?_
    refine JC.seq ?_
    refine JC.region ?_
    refine JL.val (v := z7) (QV.move rfl) rfl rfl rfl ?_
    refine JL.val (v := z7) (QV.assign rfl) rfl rfl rfl ?_
    refine JL.val (v := .int .i64 (0 : Int)) (QV.assign rfl) rfl rfl rfl ?_
    refine JL.nil ?_
    refine QJ.then_normal ?_
    refine JC.ret ?_
    obtain rfl := Option.some.inj hm
    exact QJ.body (.inl rfl) rfl rfl [0] rfl rfl (.inr ⟨own_of _ _ _ _, trivial⟩) ⟨z7, rfl, rfl⟩
  ·
    refine JC.block ?_
    obtain ⟨y15, hl16, hmo17⟩ := bind_inv hm
    refine JC.loop (F55.b1 x2 x3) (fun x z => match x, z with | (d10, d11), z9 => [(1, .int .i64 x3), (6, z9), (10, s1), (11, .int .i64 ((x2).length : Int)), (12, .int .i64 d11)]) (fun x z => match x, z with | (d10, d11), z9 => [Asr.of 5 (Enc.int .u8) (z9) d10, Asr.vw (Enc.pair (Enc.int .u8) (Enc.pair (Enc.int .i64) (Enc.int .i64))) (s1) x2]) (([] : List Int), (0 : Int)) (Value.slice none 0 0) y15 hl16 [0, 2] (by exact ⟨rfl, rfl, rfl, rfl, rfl, trivial⟩) rfl rfl ?_
    rintro ⟨d10, d11⟩ z9 s18 hm
    unfold F55.b1 at hm
    dsimp only at hm
    show JC _ _ _ [(1, .int .i64 x3), (6, z9), (10, s1), (11, .int .i64 ((x2).length : Int)), (12, .int .i64 d11)] [Asr.of 5 (Enc.int .u8) (z9) d10, Asr.vw (Enc.pair (Enc.int .u8) (Enc.pair (Enc.int .i64) (Enc.int .i64))) (s1) x2] _ _
    refine JC.seq ?_
    refine JC.region ?_
    refine JL.val (v := .bool (decide (d11 < ((x2).length : Int)))) (QV.lss rfl rfl) rfl rfl rfl ?_
    refine JL.nil ?_
    refine QJ.then_normal ?_
    refine JC.seq ?_
    rcases ite_inv hm with ⟨h19, hm⟩ | ⟨h19, hm⟩
    ·
      refine JC.condT' rfl (decide_eq_true h19) ?_
      refine JC.skip ?_
      refine QJ.then_normal ?_
      refine JC.seq ?_
      refine JC.cutK (Y := List Int × Value) (fun y => match y with | (d21, _) => F55.j2 d11 (d21) = some s18) (fun y => match y with | (d21, z20) => [(1, .int .i64 x3), (6, z20), (10, s1), (11, .int .i64 ((x2).length : Int)), (12, .int .i64 d11)]) (fun y => match y with | (d21, z20) => [Asr.of 5 (Enc.int .u8) (z20) d21, Asr.vw (Enc.pair (Enc.int .u8) (Enc.pair (Enc.int .i64) (Enc.int .i64))) (s1) x2]) ?_ ?_
      ·
        rintro ⟨d21, z20⟩ hm
        unfold F55.j2 at hm
        show QJ _ _ [(1, .int .i64 x3), (6, z20), (10, s1), (11, .int .i64 ((x2).length : Int)), (12, .int .i64 d11)] [Asr.of 5 (Enc.int .u8) (z20) d21, Asr.vw (Enc.pair (Enc.int .u8) (Enc.pair (Enc.int .i64) (Enc.int .i64))) (s1) x2] _ _
        refine QJ.then_normal ?_
        refine JC.region ?_
        refine JL.val (v := .int .i64 (IntKind.wrap .i64 (d11 + (1 : Int)))) (QV.add rfl rfl) rfl rfl rfl ?_
        refine JL.val (v := .int .i64 (IntKind.wrap .i64 (d11 + (1 : Int)))) (QV.move rfl) rfl rfl rfl ?_
        refine JL.nil ?_
        obtain rfl := Option.some.inj hm
        exact QJ.round_on (d21, (IntKind.wrap .i64 (d11 + (1 : Int)))) z20 [0, 1] (by exact ⟨rfl, rfl, rfl, rfl, rfl, trivial⟩) rfl rfl
      ·
        refine JC.block ?_
        refine JC.seq ?_
        refine JC.region ?_
        obtain ⟨h22, hm⟩ := guard_inv hm
        refine JL.val (v := .pointer (some (elA (s1) (Int.toNat d11 * ((Enc.pair (Enc.int .u8) (Enc.pair (Enc.int .i64) (Enc.int .i64)))).sz)))) (QV.indexA (Rdg.vw 1 rfl) Try.underlying27 tk_23 rfl rfl h22) rfl rfl rfl ?_
        refine JL.val (v := .agg #[.int .u8 (gd x2 d11).1, .int .i64 (gd x2 d11).2.1, .int .i64 (gd x2 d11).2.2]) (QV.eq (QV.elN (Rdg.vw 1 rfl) tk_23 rfl h22) rfl) rfl rfl rfl ?_
        refine JL.mv (d := some 8) (MV.alloc [Seg.c (.int .u8 (0 : Int)), Seg.c (.int .i64 (0 : Int)), Seg.c (.int .i64 (0 : Int))] z_23 rfl) rfl rfl rfl ?_
        rintro _ _ ⟨b23, rfl, rfl⟩
        refine JL.mv (d := none) (MV.store (ss := [Seg.c (.int .u8 (0 : Int)), Seg.c (.int .i64 (0 : Int)), Seg.c (.int .i64 (0 : Int))]) 0 0 3 [Seg.c (.int .u8 (gd x2 d11).1), Seg.c (.int .i64 (gd x2 d11).2.1), Seg.c (.int .i64 (gd x2 d11).2.2)] rfl tk_23 rfl rfl rfl rfl rfl (one_flat [Seg.c (.int .u8 (gd x2 d11).1), Seg.c (.int .i64 (gd x2 d11).2.1), Seg.c (.int .i64 (gd x2 d11).2.2)] ⟨one_c rfl, one_c rfl, one_c rfl, trivial⟩)) rfl rfl rfl ?_
        rintro _ _ ⟨rfl, rfl⟩
        refine JL.nil ?_
        refine QJ.then_normal ?_
        refine JC.seq ?_
        refine JC.region ?_
        refine JL.val (v := .pointer (some ⟨b23, 1, none⟩)) (QV.fieldB fo_23_1 rfl rfl) rfl rfl rfl ?_
        refine JL.val (v := .int .i64 (gd x2 d11).2.1) (QV.load1 (ss := [Seg.c (.int .u8 (gd x2 d11).1), Seg.c (.int .i64 (gd x2 d11).2.1), Seg.c (.int .i64 (gd x2 d11).2.2)]) 0 1 rfl tk_3 rfl rfl rfl) rfl rfl rfl ?_
        refine JL.val (v := .int .i64 (maxI (gd x2 d11).2.1 (1 : Int))) (QV.max2 rfl rfl) rfl rfl rfl ?_
        refine JL.val (v := .int .i64 (maxI (gd x2 d11).2.1 (1 : Int))) (QV.assign rfl) rfl rfl rfl ?_
        refine JL.nil ?_
        refine QJ.then_normal ?_
        refine JC.seq ?_
        refine JC.block ?_
        refine JC.seq ?_
        refine JC.region ?_
        refine JL.val (v := .agg #[.int .u8 (gd x2 d11).1, .int .i64 (gd x2 d11).2.1, .int .i64 (gd x2 d11).2.2]) (QV.eq (QV.loadN (ss := [Seg.c (.int .u8 (gd x2 d11).1), Seg.c (.int .i64 (gd x2 d11).2.1), Seg.c (.int .i64 (gd x2 d11).2.2)]) 0 0 3 rfl tk_23 rfl rfl rfl rfl) rfl) rfl rfl rfl ?_
        obtain ⟨y24, hc25, hm⟩ := bind_inv hm
        refine JL.mv (d := some 21) (MV.call (Lo := []) (Lr := [Asr.blk b23 23 [Seg.c (.int .u8 (gd x2 d11).1), Seg.c (.int .i64 (gd x2 d11).2.1), Seg.c (.int .i64 (gd x2 d11).2.2)], Asr.of 5 (Enc.int .u8) (z9) d10, Asr.vw (Enc.pair (Enc.int .u8) (Enc.pair (Enc.int .i64) (Enc.int .i64))) (s1) x2]) (F15.spec ((gd x2 d11).1) ((gd x2 d11).2.1) ((gd x2 d11).2.2) _ hc25) rfl Try.func15 rfl rfl rfl [] [0, 1, 2] rfl rfl rfl trivial) rfl rfl rfl ?_
        rintro _ _ ⟨_, ⟨rfl, rfl⟩, rfl⟩
        refine JL.val (v := .bool (!y24)) (QV.not rfl) rfl rfl rfl ?_
        refine JL.val (v := .bool (!y24)) (QV.assign rfl) rfl rfl rfl ?_
        refine JL.nil ?_
        refine QJ.then_normal ?_
        rcases ite_inv hm with ⟨h26, hm⟩ | ⟨h26, hm⟩
        ·
          refine JC.condF' rfl (congrArg Bool.not h26) ?_
          refine JC.seq ?_
          refine JC.region ?_
          refine JL.val (v := .pointer (some ⟨b23, 2, none⟩)) (QV.fieldB fo_23_2 rfl rfl) rfl rfl rfl ?_
          refine JL.val (v := .int .i64 (gd x2 d11).2.2) (QV.load1 (ss := [Seg.c (.int .u8 (gd x2 d11).1), Seg.c (.int .i64 (gd x2 d11).2.1), Seg.c (.int .i64 (gd x2 d11).2.2)]) 0 2 rfl tk_3 rfl rfl rfl) rfl rfl rfl ?_
          refine JL.val (v := z9) (QV.move rfl) rfl rfl rfl ?_
          refine JL.val (v := .int .i64 ((d10).length : Int)) (QV.len (Rdg.of 1 rfl) Try.underlying26 rfl) rfl rfl rfl ?_
          refine JL.val (v := .bool (decide (((d10).length : Int) < (gd x2 d11).2.2))) (QV.gtr rfl rfl) rfl rfl rfl ?_
          refine JL.val (v := .bool (decide (((d10).length : Int) < (gd x2 d11).2.2))) (QV.assign rfl) rfl rfl rfl ?_
          refine JL.nil ?_
          refine QJ.then_normal ?_
          rcases ite_inv hm with ⟨h27, hm⟩ | ⟨h27, hm⟩
          ·
            refine JC.condT' rfl (decide_eq_true h27) ?_
            refine JC.seq ?_
            refine JC.region ?_
            refine JL.ent (fun _ hs => hs.nil 5 (Enc.int .u8)) ?_
            refine JL.val (v := (Value.slice none 0 0)) (QV.assign rfl) rfl rfl rfl ?_
            refine JL.val (v := .int .i64 (5 : Int)) (QV.assign rfl) rfl rfl rfl ?_
            refine JL.nil ?_
            refine QJ.then_normal ?_
            refine JC.ret ?_
            refine QJ.block_ret ?_
            refine QJ.then_ret ?_
            refine QJ.block_ret ?_
            refine QJ.cut_ret ?_
            refine QJ.then_ret ?_
            obtain rfl := Option.some.inj hm
            refine QJ.round_ret (fun hy => ?_)
            subst hy
            refine QJ.block_ret ?_
            refine QJ.cut_ret ?_
            refine QJ.then_ret ?_
            obtain rfl := Option.some.inj hmo17
            exact QJ.body (.inl rfl) rfl rfl [0] rfl rfl (.inr ⟨own_of _ _ _ _, trivial⟩) ⟨((Value.slice none 0 0)), rfl, rfl⟩
          ·
            refine JC.condF' rfl (decide_eq_false h27) ?_
            refine JC.seq ?_
            refine JC.region ?_
            refine JL.val (v := .int .i64 x3) (QV.move rfl) rfl rfl rfl ?_
            refine JL.val (v := .int .i64 (maxI (gd x2 d11).2.1 (1 : Int))) (QV.move rfl) rfl rfl rfl ?_
            refine JL.val (v := .bool (decide (x3 < (maxI (gd x2 d11).2.1 (1 : Int))))) (QV.lss rfl rfl) rfl rfl rfl ?_
            rcases ite_inv hm with ⟨h28, hm⟩ | ⟨h28, hm⟩
            ·
              refine JL.val (v := .bool true) (QV.eq (QV.move rfl) (congrArg Value.bool (decide_eq_true h28))) rfl rfl rfl ?_
              refine JL.skip (d := some 34) rfl rfl rfl ?_
              refine JL.skip (d := some 35) rfl rfl rfl ?_
              refine JL.skip (d := some 36) rfl rfl rfl ?_
              refine JL.skip (d := some 37) rfl rfl rfl ?_
              refine JL.skip (d := some 38) rfl rfl rfl ?_
              refine JL.skip (d := some 39) rfl rfl rfl ?_
              refine JL.val (v := .bool true) (QV.pickT rfl rfl) rfl rfl rfl ?_
              refine JL.val (v := .bool true) (QV.assign rfl) rfl rfl rfl ?_
              refine JL.nil ?_
              refine QJ.then_normal ?_
              refine JC.condT rfl ?_
              refine JC.seq ?_
              refine JC.region ?_
              refine JL.ent (fun _ hs => hs.nil 5 (Enc.int .u8)) ?_
              refine JL.val (v := (Value.slice none 0 0)) (QV.assign rfl) rfl rfl rfl ?_
              refine JL.val (v := .int .i64 (12 : Int)) (QV.assign rfl) rfl rfl rfl ?_
              refine JL.nil ?_
              refine QJ.then_normal ?_
              refine JC.ret ?_
              refine QJ.block_ret ?_
              refine QJ.then_ret ?_
              refine QJ.block_ret ?_
              refine QJ.cut_ret ?_
              refine QJ.then_ret ?_
              obtain rfl := Option.some.inj hm
              refine QJ.round_ret (fun hy => ?_)
              subst hy
              refine QJ.block_ret ?_
              refine QJ.cut_ret ?_
              refine QJ.then_ret ?_
              obtain rfl := Option.some.inj hmo17
              exact QJ.body (.inl rfl) rfl rfl [0] rfl rfl (.inr ⟨own_of _ _ _ _, trivial⟩) ⟨((Value.slice none 0 0)), rfl, rfl⟩
            ·
              refine JL.val (v := .bool false) (QV.eq (QV.move rfl) (congrArg Value.bool (decide_eq_false h28))) rfl rfl rfl ?_
              refine JL.val (v := z9) (QV.move rfl) rfl rfl rfl ?_
              refine JL.val (v := .int .i64 ((d10).length : Int)) (QV.len (Rdg.of 1 rfl) Try.underlying26 rfl) rfl rfl rfl ?_
              refine JL.val (v := .int .i64 x3) (QV.move rfl) rfl rfl rfl ?_
              refine JL.val (v := .int .i64 (maxI (gd x2 d11).2.1 (1 : Int))) (QV.move rfl) rfl rfl rfl ?_
              refine JL.val (v := .int .i64 (IntKind.wrap .i64 (x3 - (maxI (gd x2 d11).2.1 (1 : Int))))) (QV.sub rfl rfl) rfl rfl rfl ?_
              refine JL.val (v := .bool (decide ((IntKind.wrap .i64 (x3 - (maxI (gd x2 d11).2.1 (1 : Int)))) < ((d10).length : Int)))) (QV.gtr rfl rfl) rfl rfl rfl ?_
              refine JL.val (v := .bool (decide ((IntKind.wrap .i64 (x3 - (maxI (gd x2 d11).2.1 (1 : Int)))) < ((d10).length : Int)))) (QV.pickF rfl rfl) rfl rfl rfl ?_
              refine JL.val (v := .bool (decide ((IntKind.wrap .i64 (x3 - (maxI (gd x2 d11).2.1 (1 : Int)))) < ((d10).length : Int)))) (QV.assign rfl) rfl rfl rfl ?_
              refine JL.nil ?_
              refine QJ.then_normal ?_
              rcases ite_inv hm with ⟨h29, hm⟩ | ⟨h29, hm⟩
              ·
                refine JC.condT' rfl (decide_eq_true h29) ?_
                refine JC.seq ?_
                refine JC.region ?_
                refine JL.ent (fun _ hs => hs.nil 5 (Enc.int .u8)) ?_
                refine JL.val (v := (Value.slice none 0 0)) (QV.assign rfl) rfl rfl rfl ?_
                refine JL.val (v := .int .i64 (12 : Int)) (QV.assign rfl) rfl rfl rfl ?_
                refine JL.nil ?_
                refine QJ.then_normal ?_
                refine JC.ret ?_
                refine QJ.block_ret ?_
                refine QJ.then_ret ?_
                refine QJ.block_ret ?_
                refine QJ.cut_ret ?_
                refine QJ.then_ret ?_
                obtain rfl := Option.some.inj hm
                refine QJ.round_ret (fun hy => ?_)
                subst hy
                refine QJ.block_ret ?_
                refine QJ.cut_ret ?_
                refine QJ.then_ret ?_
                obtain rfl := Option.some.inj hmo17
                exact QJ.body (.inl rfl) rfl rfl [0] rfl rfl (.inr ⟨own_of _ _ _ _, trivial⟩) ⟨((Value.slice none 0 0)), rfl, rfl⟩
              ·
                refine JC.condF' rfl (decide_eq_false h29) ?_
                refine JC.seq ?_
                refine JC.region ?_
                refine JL.val (v := .pointer (some ⟨b23, 1, none⟩)) (QV.fieldB fo_23_1 rfl rfl) rfl rfl rfl ?_
                refine JL.val (v := .int .i64 (gd x2 d11).2.1) (QV.load1 (ss := [Seg.c (.int .u8 (gd x2 d11).1), Seg.c (.int .i64 (gd x2 d11).2.1), Seg.c (.int .i64 (gd x2 d11).2.2)]) 0 1 rfl tk_3 rfl rfl rfl) rfl rfl rfl ?_
                refine JL.val (v := .bool (decide ((gd x2 d11).2.1 = (0 : Int)))) (QV.eql rfl rfl) rfl rfl rfl ?_
                refine JL.val (v := .bool (decide ((gd x2 d11).2.1 = (0 : Int)))) (QV.assign rfl) rfl rfl rfl ?_
                refine JL.nil ?_
                refine QJ.then_normal ?_
                rcases ite_inv hm with ⟨h30, hm⟩ | ⟨h30, hm⟩
                ·
                  refine JC.condT' rfl (decide_eq_true h30) ?_
                  refine JC.seq ?_
                  refine JC.region ?_
                  refine JL.val (v := z9) (QV.move rfl) rfl rfl rfl ?_
                  refine JL.val (v := .pointer (some ⟨b23, 0, none⟩)) (QV.fieldB fo_23_0 rfl rfl) rfl rfl rfl ?_
                  refine JL.val (v := .int .u8 (gd x2 d11).1) (QV.load1 (ss := [Seg.c (.int .u8 (gd x2 d11).1), Seg.c (.int .i64 (gd x2 d11).2.1), Seg.c (.int .i64 (gd x2 d11).2.2)]) 0 0 rfl tk_5 rfl rfl rfl) rfl rfl rfl ?_
                  refine JL.mv (d := some 48) (MV.lit (E := (Enc.int .u8)) (vals := [(0, .int .u8 (gd x2 d11).1)]) [(gd x2 d11).1] Try.underlying26 zi_5 rfl (by decide) rfl (by kernel_rfl)) rfl rfl rfl ?_
                  rintro z31 _ ⟨_, rfl, rfl⟩
                  obtain ⟨h32, hm⟩ := guard_inv hm
                  refine JL.mv (d := some 49) (MV.append 2 rfl (Rdg.of 0 rfl) Try.underlying26 zi_5 rfl (by decide) rfl rfl h32) rfl rfl rfl ?_
                  rintro z33 _ ⟨_, rfl, rfl⟩
                  refine JL.val (v := z33) (QV.assign rfl) rfl rfl rfl ?_
                  refine JL.nil ?_
                  refine QJ.then_normal ?_
                  refine JC.exit ?_
                  refine QJ.block_miss rfl ?_
                  refine QJ.then_exit ?_
                  refine QJ.block_hit ?_
                  exact QJ.cut_normal ((d10 ++ [(gd x2 d11).1]), z33) hm [2, 3] (by exact ⟨rfl, rfl, rfl, rfl, rfl, trivial⟩) rfl rfl
                ·
                  refine JC.condF' rfl (decide_eq_false h30) ?_
                  refine JC.skip ?_
                  refine QJ.block_normal ?_
                  refine QJ.then_normal ?_
                  refine JC.seq ?_
                  refine JC.region ?_
                  refine JL.val (v := .int .i64 (maxI (gd x2 d11).2.1 (1 : Int))) (QV.move rfl) rfl rfl rfl ?_
                  refine JL.val (v := .int .i64 (0 : Int)) (QV.move rfl) rfl rfl rfl ?_
                  refine JL.nil ?_
                  refine QJ.then_normal ?_
                  refine JC.cutK (Y := List Int × Value) (fun y => match y with | (d35, _) => F55.j3 d11 (d35) = some s18) (fun y => match y with | (d35, z34) => [(1, .int .i64 x3), (6, z34), (10, s1), (11, .int .i64 ((x2).length : Int)), (12, .int .i64 d11)]) (fun y => match y with | (d35, z34) => [Asr.of 5 (Enc.int .u8) (z34) d35, Asr.vw (Enc.pair (Enc.int .u8) (Enc.pair (Enc.int .i64) (Enc.int .i64))) (s1) x2]) ?_ ?_
                  ·
                    rintro ⟨d35, z34⟩ hm
                    unfold F55.j3 at hm
                    show QJ _ _ [(1, .int .i64 x3), (6, z34), (10, s1), (11, .int .i64 ((x2).length : Int)), (12, .int .i64 d11)] [Asr.of 5 (Enc.int .u8) (z34) d35, Asr.vw (Enc.pair (Enc.int .u8) (Enc.pair (Enc.int .i64) (Enc.int .i64))) (s1) x2] _ _
                    refine QJ.block_normal ?_
                    exact QJ.cut_normal (d35, z34) hm [0, 1] (by exact ⟨rfl, rfl, rfl, rfl, rfl, trivial⟩) rfl rfl
                  ·
                    refine JC.block ?_
                    obtain ⟨y42, hl43, hmo44⟩ := bind_inv hm
                    refine JC.loop (F55.b2 x2 d11) (fun x z => match x, z with | (d37, d38), z36 => [(1, .int .i64 x3), (6, z36), (8, .pointer (some ⟨b23, 0, none⟩)), (10, s1), (11, .int .i64 ((x2).length : Int)), (12, .int .i64 d11), (50, .int .i64 (maxI (gd x2 d11).2.1 (1 : Int))), (51, .int .i64 d38)]) (fun x z => match x, z with | (d37, d38), z36 => [Asr.of 5 (Enc.int .u8) (z36) d37, Asr.blk b23 23 [Seg.c (.int .u8 (gd x2 d11).1), Seg.c (.int .i64 (gd x2 d11).2.1), Seg.c (.int .i64 (gd x2 d11).2.2)], Asr.vw (Enc.pair (Enc.int .u8) (Enc.pair (Enc.int .i64) (Enc.int .i64))) (s1) x2]) (d10, (0 : Int)) z9 y42 hl43 [1, 0, 2] (by exact ⟨rfl, rfl, rfl, rfl, rfl, rfl, rfl, rfl, trivial⟩) rfl rfl ?_
                    rintro ⟨d37, d38⟩ z36 s45 hm
                    unfold F55.b2 at hm
                    dsimp only at hm
                    show JC _ _ _ [(1, .int .i64 x3), (6, z36), (8, .pointer (some ⟨b23, 0, none⟩)), (10, s1), (11, .int .i64 ((x2).length : Int)), (12, .int .i64 d11), (50, .int .i64 (maxI (gd x2 d11).2.1 (1 : Int))), (51, .int .i64 d38)] [Asr.of 5 (Enc.int .u8) (z36) d37, Asr.blk b23 23 [Seg.c (.int .u8 (gd x2 d11).1), Seg.c (.int .i64 (gd x2 d11).2.1), Seg.c (.int .i64 (gd x2 d11).2.2)], Asr.vw (Enc.pair (Enc.int .u8) (Enc.pair (Enc.int .i64) (Enc.int .i64))) (s1) x2] _ _
                    refine JC.seq ?_
                    refine JC.region ?_
                    refine JL.val (v := .bool (decide (d38 < (maxI (gd x2 d11).2.1 (1 : Int))))) (QV.lss rfl rfl) rfl rfl rfl ?_
                    refine JL.nil ?_
                    refine QJ.then_normal ?_
                    refine JC.seq ?_
                    rcases ite_inv hm with ⟨h46, hm⟩ | ⟨h46, hm⟩
                    ·
                      refine JC.condT' rfl (decide_eq_true h46) ?_
                      refine JC.skip ?_
                      refine QJ.then_normal ?_
                      refine JC.seq ?_
                      refine JC.block ?_
                      refine JC.region ?_
                      refine JL.val (v := z36) (QV.move rfl) rfl rfl rfl ?_
                      refine JL.val (v := z36) (QV.move rfl) rfl rfl rfl ?_
                      refine JL.val (v := z36) (QV.move rfl) rfl rfl rfl ?_
                      refine JL.val (v := .int .i64 ((d37).length : Int)) (QV.len (Rdg.of 0 rfl) Try.underlying26 rfl) rfl rfl rfl ?_
                      refine JL.val (v := .pointer (some ⟨b23, 2, none⟩)) (QV.fieldB fo_23_2 rfl rfl) rfl rfl rfl ?_
                      refine JL.val (v := .int .i64 (gd x2 d11).2.2) (QV.load1 (ss := [Seg.c (.int .u8 (gd x2 d11).1), Seg.c (.int .i64 (gd x2 d11).2.1), Seg.c (.int .i64 (gd x2 d11).2.2)]) 1 2 rfl tk_3 rfl rfl rfl) rfl rfl rfl ?_
                      refine JL.val (v := .int .i64 (IntKind.wrap .i64 (((d37).length : Int) - (gd x2 d11).2.2))) (QV.sub rfl rfl) rfl rfl rfl ?_
                      obtain ⟨h47, hm⟩ := guard_inv hm
                      refine JL.val (v := .pointer (some (elA (z36) (Int.toNat (IntKind.wrap .i64 (((d37).length : Int) - (gd x2 d11).2.2)) * ((Enc.int .u8)).sz)))) (QV.indexA (Rdg.of 0 rfl) Try.underlying26 tk_5 rfl rfl h47) rfl rfl rfl ?_
                      refine JL.val (v := .int .u8 (gd d37 (IntKind.wrap .i64 (((d37).length : Int) - (gd x2 d11).2.2)))) (QV.el1 (Rdg.of 0 rfl) tk_5 rfl h47 rfl) rfl rfl rfl ?_
                      refine JL.mv (d := some 62) (MV.lit (E := (Enc.int .u8)) (vals := [(0, .int .u8 (gd d37 (IntKind.wrap .i64 (((d37).length : Int) - (gd x2 d11).2.2))))]) [(gd d37 (IntKind.wrap .i64 (((d37).length : Int) - (gd x2 d11).2.2)))] Try.underlying26 zi_5 rfl (by decide) rfl (by kernel_rfl)) rfl rfl rfl ?_
                      rintro z48 _ ⟨_, rfl, rfl⟩
                      obtain ⟨h49, hm⟩ := guard_inv hm
                      refine JL.mv (d := some 63) (MV.append 1 rfl (Rdg.of 0 rfl) Try.underlying26 zi_5 rfl (by decide) rfl rfl h49) rfl rfl rfl ?_
                      rintro z50 _ ⟨_, rfl, rfl⟩
                      refine JL.val (v := z50) (QV.assign rfl) rfl rfl rfl ?_
                      refine JL.nil ?_
                      refine QJ.block_normal ?_
                      refine QJ.then_normal ?_
                      refine JC.region ?_
                      refine JL.val (v := .int .i64 (IntKind.wrap .i64 (d38 + (1 : Int)))) (QV.add rfl rfl) rfl rfl rfl ?_
                      refine JL.val (v := .int .i64 (IntKind.wrap .i64 (d38 + (1 : Int)))) (QV.move rfl) rfl rfl rfl ?_
                      refine JL.nil ?_
                      obtain rfl := Option.some.inj hm
                      exact QJ.round_on ((d37 ++ [(gd d37 (IntKind.wrap .i64 (((d37).length : Int) - (gd x2 d11).2.2)))]), (IntKind.wrap .i64 (d38 + (1 : Int)))) z50 [1, 2, 3] (by exact ⟨rfl, rfl, rfl, rfl, rfl, rfl, rfl, rfl, trivial⟩) rfl rfl
                    ·
                      refine JC.condF' rfl (decide_eq_false h46) ?_
                      refine JC.exit ?_
                      refine QJ.then_exit ?_
                      obtain rfl := Option.some.inj hm
                      refine QJ.round_exit (fun hy => ?_)
                      subst hy
                      refine QJ.block_hit ?_
                      exact QJ.cut_normal (d37, z36) hmo44 [0, 2] (by exact ⟨rfl, rfl, rfl, rfl, rfl, trivial⟩) rfl rfl
        ·
          refine JC.condT' rfl (congrArg Bool.not (bfalse h26)) ?_
          refine JC.seq ?_
          refine JC.region ?_
          refine JL.ent (fun _ hs => hs.nil 5 (Enc.int .u8)) ?_
          refine JL.val (v := (Value.slice none 0 0)) (QV.assign rfl) rfl rfl rfl ?_
          refine JL.val (v := .int .i64 (3 : Int)) (QV.assign rfl) rfl rfl rfl ?_
          refine JL.nil ?_
          refine QJ.then_normal ?_
          refine JC.ret ?_
          refine QJ.block_ret ?_
          refine QJ.then_ret ?_
          refine QJ.block_ret ?_
          refine QJ.cut_ret ?_
          refine QJ.then_ret ?_
          obtain rfl := Option.some.inj hm
          refine QJ.round_ret (fun hy => ?_)
          subst hy
          refine QJ.block_ret ?_
          refine QJ.cut_ret ?_
          refine QJ.then_ret ?_
          obtain rfl := Option.some.inj hmo17
          exact QJ.body (.inl rfl) rfl rfl [0] rfl rfl (.inr ⟨own_of _ _ _ _, trivial⟩) ⟨((Value.slice none 0 0)), rfl, rfl⟩
    ·
      refine JC.condF' rfl (decide_eq_false h19) ?_
      refine JC.exit ?_
      refine QJ.then_exit ?_
      obtain rfl := Option.some.inj hm
      refine QJ.round_exit (fun hy => ?_)
      subst hy
      refine QJ.block_hit ?_
      exact QJ.cut_normal (d10, z9) hmo17 [0] (by exact ⟨rfl, trivial⟩) rfl rfl

/-! ### 17: drogher/drogherlaw11.awake -/
noncomputable def F17.m  : Option Bool :=
  ((F55.m ([((97 : Int), (0 : Int), (0 : Int)), ((0 : Int), (3 : Int), (1 : Int))]) ((9 : Int))).bind fun y3 => (if (strOfNums y3.1) = (⟨#[97, 97, 97, 97]⟩ : ByteArray) then some (decide (y3.2 = (0 : Int))) else some false))
set_option maxRecDepth 100000 in
set_option maxHeartbeats 4000000 in
theorem F17.spec  (r : Bool) (hm : F17.m = some r) :
    Ctr Try.prog false 17 [] [] (fun v L' => v = .bool r ∧ L' = []) := by
  refine Ctr.intro (n := 17) (env := []) Try.func17 rfl rfl rfl rfl (fun c => ?_)
  unfold F17.m at hm
  refine JC.seq ?_
  refine JC.region ?_
  refine JL.val (v := .bool false) (QV.assign rfl) rfl rfl rfl ?_
  refine JL.nil ?_
  refine QJ.then_normal ?_
  refine JC.seq ?_
  refine JC.region ?_
  refine JL.val (v := .agg #[.int .u8 (97 : Int), .int .i64 (0 : Int), .int .i64 (0 : Int)]) (QV.build (vals := [(0, .int .u8 (97 : Int))]) rfl (by kernel_rfl)) rfl rfl rfl ?_
  refine JL.val (v := .agg #[.int .u8 (0 : Int), .int .i64 (3 : Int), .int .i64 (1 : Int)]) (QV.build (vals := [(1, .int .i64 (3 : Int)), (2, .int .i64 (1 : Int))]) rfl (by kernel_rfl)) rfl rfl rfl ?_
  refine JL.mv (d := some 6) (MV.lit (E := (Enc.pair (Enc.int .u8) (Enc.pair (Enc.int .i64) (Enc.int .i64)))) (vals := [(0, .agg #[.int .u8 (97 : Int), .int .i64 (0 : Int), .int .i64 (0 : Int)]), (1, .agg #[.int .u8 (0 : Int), .int .i64 (3 : Int), .int .i64 (1 : Int)])]) [((97 : Int), (0 : Int), (0 : Int)), ((0 : Int), (3 : Int), (1 : Int))] Try.underlying27 zi_23 rfl (by decide) rfl (by kernel_rfl)) rfl rfl rfl ?_
  rintro z2 _ ⟨_, rfl, rfl⟩
  obtain ⟨y3, hc4, hm⟩ := bind_inv hm
  refine JL.mv (d := some 7) (MV.call (Lo := []) (Lr := [Asr.of 23 (Enc.pair (Enc.int .u8) (Enc.pair (Enc.int .i64) (Enc.int .i64))) (z2) [((97 : Int), (0 : Int), (0 : Int)), ((0 : Int), (3 : Int), (1 : Int))]]) (F55.spec ((z2)) ([((97 : Int), (0 : Int), (0 : Int)), ((0 : Int), (3 : Int), (1 : Int))]) ((9 : Int)) _ hc4) rfl Try.func55 rfl rfl rfl [] [0] rfl rfl rfl ⟨(Drv.of 0 rfl), trivial⟩) rfl rfl rfl ?_
  rintro _ _ ⟨_, ⟨z5, rfl, rfl⟩, rfl⟩
  refine JL.val (v := .tuple #[z5, .int .i64 y3.2]) (QV.move rfl) rfl rfl rfl ?_
  refine JL.val (v := z5) (QV.extract (vs := [z5, .int .i64 y3.2]) rfl rfl) rfl rfl rfl ?_
  refine JL.val (v := .int .i64 y3.2) (QV.extract (vs := [z5, .int .i64 y3.2]) rfl rfl) rfl rfl rfl ?_
  refine JL.val (v := z5) (QV.assign rfl) rfl rfl rfl ?_
  refine JL.val (v := .int .i64 y3.2) (QV.assign rfl) rfl rfl rfl ?_
  refine JL.nil ?_
  refine QJ.then_normal ?_
  refine JC.seq ?_
  refine JC.region ?_
  refine JL.val (v := z5) (QV.move rfl) rfl rfl rfl ?_
  refine JL.val (v := .string (strOfNums y3.1)) (QV.str (Rdg.of 0 rfl) Try.underlying26 Try.underlying5 Try.underlying9 rfl) rfl rfl rfl ?_
  refine JL.val (v := .bool (decide ((strOfNums y3.1) = (⟨#[97, 97, 97, 97]⟩ : ByteArray)))) (QV.eqlS rfl rfl) rfl rfl rfl ?_
  rcases ite_inv hm with ⟨h6, hm⟩ | ⟨h6, hm⟩
  ·
    refine JL.val (v := .bool true) (QV.eq (QV.move rfl) (congrArg Value.bool (decide_eq_true h6))) rfl rfl rfl ?_
    refine JL.val (v := .int .i64 y3.2) (QV.move rfl) rfl rfl rfl ?_
    refine JL.val (v := .bool (decide (y3.2 = (0 : Int)))) (QV.eql rfl rfl) rfl rfl rfl ?_
    refine JL.val (v := .bool (decide (y3.2 = (0 : Int)))) (QV.pickT rfl rfl) rfl rfl rfl ?_
    refine JL.val (v := .bool (decide (y3.2 = (0 : Int)))) (QV.assign rfl) rfl rfl rfl ?_
    refine JL.nil ?_
    refine QJ.then_normal ?_
    refine JC.ret ?_
    obtain rfl := Option.some.inj hm
    exact QJ.body (.inl rfl) rfl rfl [] rfl rfl (.inr trivial) ⟨rfl, rfl⟩
  ·
    refine JL.val (v := .bool false) (QV.eq (QV.move rfl) (congrArg Value.bool (decide_eq_false h6))) rfl rfl rfl ?_
    refine JL.skip (d := some 14) rfl rfl rfl ?_
    refine JL.skip (d := some 15) rfl rfl rfl ?_
    refine JL.val (v := .bool false) (QV.pickF rfl rfl) rfl rfl rfl ?_
    refine JL.val (v := .bool false) (QV.assign rfl) rfl rfl rfl ?_
    refine JL.nil ?_
    refine QJ.then_normal ?_
    refine JC.ret ?_
    obtain rfl := Option.some.inj hm
    exact QJ.body (.inl rfl) rfl rfl [] rfl rfl (.inr trivial) ⟨rfl, rfl⟩

/-! ### 3: drogher/drogherlaw11.LzMay -/
noncomputable def F3.m (x1 : Int) (x2 : Int) (x3 : Int) : Option Bool :=
  ((F15.m (x1) (x2) (x3)).bind fun y6 => ((F16.m (x1) (x2) (x3)).bind fun y8 => (if (y6 == y8) = true then ((F17.m).bind fun y11 => some y11) else some false)))
set_option maxRecDepth 100000 in
set_option maxHeartbeats 4000000 in
theorem F3.spec (x1 : Int) (x2 : Int) (x3 : Int) (r : Bool) (hm : F3.m x1 x2 x3 = some r) :
    Ctr Try.prog false 3 [.agg #[.int .u8 x1, .int .i64 x2, .int .i64 x3]] [] (fun v L' => v = .bool r ∧ L' = []) := by
  refine Ctr.intro (n := 11) (env := [(0, .agg #[.int .u8 x1, .int .i64 x2, .int .i64 x3])]) Try.func3 rfl rfl rfl rfl (fun c => ?_)
  unfold F3.m at hm
  refine JC.seq ?_
  refine JC.region ?_
  refine JL.mv (d := some 1) (MV.box [Seg.c (.int .u8 x1), Seg.c (.int .i64 x2), Seg.c (.int .i64 x3)] rfl rfl) rfl rfl rfl ?_
  rintro _ _ ⟨b5, rfl, rfl⟩
  refine JL.val (v := .bool false) (QV.assign rfl) rfl rfl rfl ?_
  refine JL.nil ?_
  refine QJ.then_normal ?_
  refine JC.seq ?_
  refine JC.regionT [Asr.blk b5 23 [Seg.c (.int .u8 x1), Seg.c (.int .i64 x2), Seg.c (.int .i64 x3)]] (fun t => false) [(0, true), (2, true), (1, false), (3, false), (4, true), (5, true), (6, false), (7, true), (8, true)] (by kernel_rfl) (by kernel_rfl) (by kernel_rfl) rfl (fun hsel => ?_)
  refine JT.take (i := 0) (v := .agg #[.int .u8 x1, .int .i64 x2, .int .i64 x3]) hsel rfl (QV.eq (QV.loadN (ss := [Seg.c (.int .u8 x1), Seg.c (.int .i64 x2), Seg.c (.int .i64 x3)]) 0 0 3 rfl tk_23 rfl rfl rfl rfl) rfl) rfl rfl rfl [0] rfl rfl ?_
  refine JT.take (i := 2) (v := .agg #[.int .u8 x1, .int .i64 x2, .int .i64 x3]) hsel rfl (QV.eq (QV.loadN (ss := [Seg.c (.int .u8 x1), Seg.c (.int .i64 x2), Seg.c (.int .i64 x3)]) 0 0 3 rfl tk_23 rfl rfl rfl rfl) rfl) rfl rfl rfl [0] rfl rfl ?_
  obtain ⟨y6, hc7, hm⟩ := bind_inv hm
  refine JT.only (i := 1) (d := some 4) rfl (MV.call (Lo := []) (Lr := [Asr.blk b5 23 [Seg.c (.int .u8 x1), Seg.c (.int .i64 x2), Seg.c (.int .i64 x3)]]) (F15.spec (x1) (x2) (x3) _ hc7) rfl Try.func15 rfl rfl rfl [] [0] rfl rfl rfl trivial) rfl rfl rfl ?_
  rintro _ _ ⟨_, ⟨rfl, rfl⟩, rfl⟩
  refine ⟨fun _ => ⟨[0], rfl, rfl⟩, ?_⟩
  obtain ⟨y8, hc9, hm⟩ := bind_inv hm
  refine JT.only (i := 3) (d := some 6) rfl (MV.call (Lo := []) (Lr := [Asr.blk b5 23 [Seg.c (.int .u8 x1), Seg.c (.int .i64 x2), Seg.c (.int .i64 x3)]]) (F16.spec (x1) (x2) (x3) _ hc9) rfl Try.func16 rfl rfl rfl [] [0] rfl rfl rfl trivial) rfl rfl rfl ?_
  rintro _ _ ⟨_, ⟨rfl, rfl⟩, rfl⟩
  refine ⟨fun _ => ⟨[0], rfl, rfl⟩, ?_⟩
  refine JT.take (i := 4) (v := .bool (y6 == y8)) hsel rfl (QV.eqlB Try.underlying4 rfl rfl) rfl rfl rfl [0] rfl rfl ?_
  rcases ite_inv hm with ⟨h10, hm⟩ | ⟨h10, hm⟩
  ·
    refine JT.take (i := 5) (v := .bool true) hsel rfl (QV.eq (QV.move rfl) (congrArg Value.bool h10)) rfl rfl rfl [0] rfl rfl ?_
    obtain ⟨y11, hc12, hm⟩ := bind_inv hm
    refine JT.only (i := 6) (d := some 9) rfl (MV.call (Lo := []) (Lr := [Asr.blk b5 23 [Seg.c (.int .u8 x1), Seg.c (.int .i64 x2), Seg.c (.int .i64 x3)]]) (F17.spec _ hc12) rfl Try.func17 rfl rfl rfl [] [0] rfl rfl rfl trivial) rfl rfl rfl ?_
    rintro _ _ ⟨_, ⟨rfl, rfl⟩, rfl⟩
    refine ⟨fun _ => ⟨[0], rfl, rfl⟩, ?_⟩
    refine JT.take (i := 7) (v := .bool y11) hsel rfl (QV.pickT rfl rfl) rfl rfl rfl [0] rfl rfl ?_
    refine JT.take (i := 8) (v := .bool y11) hsel rfl (QV.assign rfl) rfl rfl rfl [0] rfl rfl ?_
    refine JT.nil ?_
    refine QJ.then_normal ?_
    refine JC.ret ?_
    obtain rfl := Option.some.inj hm
    exact QJ.body (.inl rfl) rfl rfl [] rfl rfl (.inr trivial) ⟨rfl, rfl⟩
  ·
    refine JT.take (i := 5) (v := .bool false) hsel rfl (QV.eq (QV.move rfl) (congrArg Value.bool (bfalse h10))) rfl rfl rfl [0] rfl rfl ?_
    refine JT.skipO (i := 6) (d := some 9) rfl rfl rfl rfl [0] rfl rfl ?_
    refine JT.take (i := 7) (v := .bool false) hsel rfl (QV.pickF rfl rfl) rfl rfl rfl [0] rfl rfl ?_
    refine JT.take (i := 8) (v := .bool false) hsel rfl (QV.assign rfl) rfl rfl rfl [0] rfl rfl ?_
    refine JT.nil ?_
    refine QJ.then_normal ?_
    refine JC.ret ?_
    obtain rfl := Option.some.inj hm
    exact QJ.body (.inl rfl) rfl rfl [] rfl rfl (.inr trivial) ⟨rfl, rfl⟩

end Go.Proofs.Ytpophpendlnehaa
