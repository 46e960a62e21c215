/- Written by gen.py: functions and their contracts. -/
import Derived.Test.YtedokgdilpfomaaPlnFacts
namespace Go.Proofs.Ytedokgdilpfomaa
open Go Go.Eng Go.Proofs
set_option linter.unusedVariables false
set_option linter.unusedSimpArgs false
/-! ### 23: drogher/plan.Right -/
noncomputable def F23.m (x1 : Int) (x2 : Int) (x3 : Int) (x5 : List Int) : Option Bool :=
  (if x3 < (1 : Int) then some false else (if (4096 : Int) < x3 then some false else (if x2 < (0 : Int) then some false else (if (2147483647 : Int) < x2 then some false else (if x1 = (1 : Int) then (if x2 = (0 : Int) then some (decide (((x5).length : Int) = x3)) else some false) else (if x1 = (2 : Int) then some (decide (((x5).length : Int) = (0 : Int))) else (if x1 = (3 : Int) then some (decide (((x5).length : Int) = x3)) else some false)))))))
set_option maxRecDepth 100000 in
set_option maxHeartbeats 4000000 in
theorem F23.spec (s4 : SlV) (x1 : Int) (x2 : Int) (x3 : Int) (x5 : List Int) (r : Bool) (hm : F23.m x1 x2 x3 x5 = some r) :
    Ctr Try.prog false 23 [.agg #[.int .u8 x1, .int .i64 x2, .int .i64 x3, s4.v]] [Asr.vw (Enc.int .u8) (s4.v) x5] (fun v L' => v = .bool r ∧ L' = []) := by
  refine Ctr.intro (n := 50) (env := [(0, .agg #[.int .u8 x1, .int .i64 x2, .int .i64 x3, s4.v])]) Try.func23 rfl rfl rfl rfl (fun c => ?_)
  unfold F23.m at hm
  refine JC.seq ?_
  refine JC.region ?_
  refine JL.mv (d := some 1) (MV.box [Seg.c (.int .u8 x1), Seg.c (.int .i64 x2), Seg.c (.int .i64 x3), Seg.c (s4.v)] rfl (fun w hs => rfl)) rfl rfl rfl ?_
  rintro _ _ ⟨b7, rfl, rfl⟩
  refine JL.val (v := .bool false) (QV.assign rfl) rfl rfl rfl ?_
  refine JL.nil ?_
  refine QJ.then_normal ?_
  refine JC.seq ?_
  refine JC.seq ?_
  refine JC.region ?_
  refine JL.val (v := .pointer (some ⟨b7, 2, none⟩)) (QV.fieldB fo_35_2 rfl rfl) rfl rfl rfl ?_
  refine JL.val (v := .int .i64 x3) (QV.load1 (ss := [Seg.c (.int .u8 x1), Seg.c (.int .i64 x2), Seg.c (.int .i64 x3), Seg.c (s4.v)]) 0 2 rfl tk_3 rfl rfl rfl) rfl rfl rfl ?_
  refine JL.val (v := .bool (decide (x3 < (1 : Int)))) (QV.lss rfl rfl) rfl rfl rfl ?_
  rcases ite_inv hm with ⟨h8, hm⟩ | ⟨h8, hm⟩
  ·
    refine JL.val (v := .bool true) (QV.eq (QV.move rfl) (congrArg Value.bool (decide_eq_true h8))) rfl rfl rfl ?_
    refine JL.skip (d := some 7) rfl rfl rfl ?_
    refine JL.skip (d := some 8) rfl rfl rfl ?_
    refine JL.skip (d := some 9) rfl rfl rfl ?_
    refine JL.val (v := .bool true) (QV.pickT rfl rfl) rfl rfl rfl ?_
    refine JL.val (v := .bool true) (QV.move rfl) rfl rfl rfl ?_
    refine JL.skip (d := some 12) rfl rfl rfl ?_
    refine JL.skip (d := some 13) rfl rfl rfl ?_
    refine JL.skip (d := some 14) rfl rfl rfl ?_
    refine JL.val (v := .bool true) (QV.pickT rfl rfl) rfl rfl rfl ?_
    refine JL.val (v := .bool true) (QV.move rfl) rfl rfl rfl ?_
    refine JL.skip (d := some 17) rfl rfl rfl ?_
    refine JL.skip (d := some 18) rfl rfl rfl ?_
    refine JL.skip (d := some 19) rfl rfl rfl ?_
    refine JL.val (v := .bool true) (QV.pickT rfl rfl) rfl rfl rfl ?_
    refine JL.nil ?_
    refine QJ.then_normal ?_
    refine JC.condT rfl ?_
    refine JC.seq ?_
    refine JC.region ?_
    refine JL.val (v := .bool false) (QV.assign rfl) rfl rfl rfl ?_
    refine JL.nil ?_
    refine QJ.then_normal ?_
    refine JC.ret ?_
    refine QJ.then_ret ?_
    obtain rfl := Option.some.inj hm
    exact QJ.body (vs := [.bool false]) (.inl rfl) rfl (ResVs.cons (ResV.tmp rfl) ResVs.nil) [] rfl rfl (.inr trivial) ⟨rfl, rfl⟩
  ·
    refine JL.val (v := .bool false) (QV.eq (QV.move rfl) (congrArg Value.bool (decide_eq_false h8))) rfl rfl rfl ?_
    refine JL.val (v := .pointer (some ⟨b7, 2, none⟩)) (QV.fieldB fo_35_2 rfl rfl) rfl rfl rfl ?_
    refine JL.val (v := .int .i64 x3) (QV.load1 (ss := [Seg.c (.int .u8 x1), Seg.c (.int .i64 x2), Seg.c (.int .i64 x3), Seg.c (s4.v)]) 0 2 rfl tk_3 rfl rfl rfl) rfl rfl rfl ?_
    refine JL.val (v := .bool (decide ((4096 : Int) < x3))) (QV.gtr rfl rfl) rfl rfl rfl ?_
    refine JL.val (v := .bool (decide ((4096 : Int) < x3))) (QV.pickF rfl rfl) rfl rfl rfl ?_
    rcases ite_inv hm with ⟨h9, hm⟩ | ⟨h9, hm⟩
    ·
      refine JL.val (v := .bool true) (QV.eq (QV.move rfl) (congrArg Value.bool (decide_eq_true h9))) rfl rfl rfl ?_
      refine JL.skip (d := some 12) rfl rfl rfl ?_
      refine JL.skip (d := some 13) rfl rfl rfl ?_
      refine JL.skip (d := some 14) rfl rfl rfl ?_
      refine JL.val (v := .bool true) (QV.pickT rfl rfl) rfl rfl rfl ?_
      refine JL.val (v := .bool true) (QV.move rfl) rfl rfl rfl ?_
      refine JL.skip (d := some 17) rfl rfl rfl ?_
      refine JL.skip (d := some 18) rfl rfl rfl ?_
      refine JL.skip (d := some 19) rfl rfl rfl ?_
      refine JL.val (v := .bool true) (QV.pickT rfl rfl) rfl rfl rfl ?_
      refine JL.nil ?_
      refine QJ.then_normal ?_
      refine JC.condT rfl ?_
      refine JC.seq ?_
      refine JC.region ?_
      refine JL.val (v := .bool false) (QV.assign rfl) rfl rfl rfl ?_
      refine JL.nil ?_
      refine QJ.then_normal ?_
      refine JC.ret ?_
      refine QJ.then_ret ?_
      obtain rfl := Option.some.inj hm
      exact QJ.body (vs := [.bool false]) (.inl rfl) rfl (ResVs.cons (ResV.tmp rfl) ResVs.nil) [] rfl rfl (.inr trivial) ⟨rfl, rfl⟩
    ·
      refine JL.val (v := .bool false) (QV.eq (QV.move rfl) (congrArg Value.bool (decide_eq_false h9))) rfl rfl rfl ?_
      refine JL.val (v := .pointer (some ⟨b7, 1, none⟩)) (QV.fieldB fo_35_1 rfl rfl) rfl rfl rfl ?_
      refine JL.val (v := .int .i64 x2) (QV.load1 (ss := [Seg.c (.int .u8 x1), Seg.c (.int .i64 x2), Seg.c (.int .i64 x3), Seg.c (s4.v)]) 0 1 rfl tk_3 rfl rfl rfl) rfl rfl rfl ?_
      refine JL.val (v := .bool (decide (x2 < (0 : Int)))) (QV.lss rfl rfl) rfl rfl rfl ?_
      refine JL.val (v := .bool (decide (x2 < (0 : Int)))) (QV.pickF rfl rfl) rfl rfl rfl ?_
      rcases ite_inv hm with ⟨h10, hm⟩ | ⟨h10, hm⟩
      ·
        refine JL.val (v := .bool true) (QV.eq (QV.move rfl) (congrArg Value.bool (decide_eq_true h10))) rfl rfl rfl ?_
        refine JL.skip (d := some 17) rfl rfl rfl ?_
        refine JL.skip (d := some 18) rfl rfl rfl ?_
        refine JL.skip (d := some 19) rfl rfl rfl ?_
        refine JL.val (v := .bool true) (QV.pickT rfl rfl) rfl rfl rfl ?_
        refine JL.nil ?_
        refine QJ.then_normal ?_
        refine JC.condT rfl ?_
        refine JC.seq ?_
        refine JC.region ?_
        refine JL.val (v := .bool false) (QV.assign rfl) rfl rfl rfl ?_
        refine JL.nil ?_
        refine QJ.then_normal ?_
        refine JC.ret ?_
        refine QJ.then_ret ?_
        obtain rfl := Option.some.inj hm
        exact QJ.body (vs := [.bool false]) (.inl rfl) rfl (ResVs.cons (ResV.tmp rfl) ResVs.nil) [] rfl rfl (.inr trivial) ⟨rfl, rfl⟩
      ·
        refine JL.val (v := .bool false) (QV.eq (QV.move rfl) (congrArg Value.bool (decide_eq_false h10))) rfl rfl rfl ?_
        refine JL.val (v := .pointer (some ⟨b7, 1, none⟩)) (QV.fieldB fo_35_1 rfl rfl) rfl rfl rfl ?_
        refine JL.val (v := .int .i64 x2) (QV.load1 (ss := [Seg.c (.int .u8 x1), Seg.c (.int .i64 x2), Seg.c (.int .i64 x3), Seg.c (s4.v)]) 0 1 rfl tk_3 rfl rfl rfl) rfl rfl rfl ?_
        refine JL.val (v := .bool (decide ((2147483647 : Int) < x2))) (QV.gtr rfl rfl) rfl rfl rfl ?_
        refine JL.val (v := .bool (decide ((2147483647 : Int) < x2))) (QV.pickF rfl rfl) rfl rfl rfl ?_
        refine JL.nil ?_
        refine QJ.then_normal ?_
        rcases ite_inv hm with ⟨h11, hm⟩ | ⟨h11, hm⟩
        ·
          refine JC.condT' rfl (decide_eq_true h11) ?_
          refine JC.seq ?_
          refine JC.region ?_
          refine JL.val (v := .bool false) (QV.assign rfl) rfl rfl rfl ?_
          refine JL.nil ?_
          refine QJ.then_normal ?_
          refine JC.ret ?_
          refine QJ.then_ret ?_
          obtain rfl := Option.some.inj hm
          exact QJ.body (vs := [.bool false]) (.inl rfl) rfl (ResVs.cons (ResV.tmp rfl) ResVs.nil) [] rfl rfl (.inr trivial) ⟨rfl, rfl⟩
        ·
          refine JC.condF' rfl (decide_eq_false h11) ?_
          refine JC.skip ?_
          refine QJ.then_normal ?_
          refine JC.seq ?_
          refine JC.seq ?_
          refine JC.region ?_
          refine JL.val (v := .pointer (some ⟨b7, 0, none⟩)) (QV.fieldB fo_35_0 rfl rfl) rfl rfl rfl ?_
          refine JL.val (v := .int .u8 x1) (QV.load1 (ss := [Seg.c (.int .u8 x1), Seg.c (.int .i64 x2), Seg.c (.int .i64 x3), Seg.c (s4.v)]) 0 0 rfl tk_5 rfl rfl rfl) rfl rfl rfl ?_
          refine JL.nil ?_
          refine QJ.then_normal ?_
          refine JC.block ?_
          refine JC.seq ?_
          refine JC.region ?_
          refine JL.val (v := .bool (decide (x1 = (1 : Int)))) (QV.eql rfl rfl) rfl rfl rfl ?_
          refine JL.val (v := .bool (decide (x1 = (1 : Int)))) (QV.assign rfl) rfl rfl rfl ?_
          refine JL.nil ?_
          refine QJ.then_normal ?_
          rcases ite_inv hm with ⟨h12, hm⟩ | ⟨h12, hm⟩
          ·
            refine JC.condT' rfl (decide_eq_true h12) ?_
            refine JC.seq ?_
            refine JC.region ?_
            refine JL.val (v := .pointer (some ⟨b7, 1, none⟩)) (QV.fieldB fo_35_1 rfl rfl) rfl rfl rfl ?_
            refine JL.val (v := .int .i64 x2) (QV.load1 (ss := [Seg.c (.int .u8 x1), Seg.c (.int .i64 x2), Seg.c (.int .i64 x3), Seg.c (s4.v)]) 0 1 rfl tk_3 rfl rfl rfl) rfl rfl rfl ?_
            refine JL.val (v := .bool (decide (x2 = (0 : Int)))) (QV.eql rfl rfl) rfl rfl rfl ?_
            rcases ite_inv hm with ⟨h13, hm⟩ | ⟨h13, hm⟩
            ·
              refine JL.val (v := .bool true) (QV.eq (QV.move rfl) (congrArg Value.bool (decide_eq_true h13))) rfl rfl rfl ?_
              refine JL.val (v := .pointer (some ⟨b7, 3, none⟩)) (QV.fieldB fo_35_3 rfl rfl) rfl rfl rfl ?_
              refine JL.val (v := s4.v) (QV.load1 (ss := [Seg.c (.int .u8 x1), Seg.c (.int .i64 x2), Seg.c (.int .i64 x3), Seg.c (s4.v)]) 0 3 rfl tk_23 rfl rfl rfl) rfl rfl rfl ?_
              refine JL.val (v := .int .i64 ((x5).length : Int)) (QV.len (Rdg.vw 1 rfl) Try.underlying23 rfl) rfl rfl rfl ?_
              refine JL.val (v := .pointer (some ⟨b7, 2, none⟩)) (QV.fieldB fo_35_2 rfl rfl) rfl rfl rfl ?_
              refine JL.val (v := .int .i64 x3) (QV.load1 (ss := [Seg.c (.int .u8 x1), Seg.c (.int .i64 x2), Seg.c (.int .i64 x3), Seg.c (s4.v)]) 0 2 rfl tk_3 rfl rfl rfl) rfl rfl rfl ?_
              refine JL.val (v := .bool (decide (((x5).length : Int) = x3))) (QV.eql rfl rfl) rfl rfl rfl ?_
              refine JL.val (v := .bool (decide (((x5).length : Int) = x3))) (QV.pickT rfl rfl) rfl rfl rfl ?_
              refine JL.val (v := .bool (decide (((x5).length : Int) = x3))) (QV.assign rfl) rfl rfl rfl ?_
              refine JL.nil ?_
              refine QJ.then_normal ?_
              refine JC.ret ?_
              refine QJ.block_ret ?_
              refine QJ.then_ret ?_
              obtain rfl := Option.some.inj hm
              exact QJ.body (vs := [.bool (decide (((x5).length : Int) = x3))]) (.inl rfl) rfl (ResVs.cons (ResV.tmp rfl) ResVs.nil) [] rfl rfl (.inr trivial) ⟨rfl, rfl⟩
            ·
              refine JL.val (v := .bool false) (QV.eq (QV.move rfl) (congrArg Value.bool (decide_eq_false h13))) rfl rfl rfl ?_
              refine JL.skip (d := some 29) rfl rfl rfl ?_
              refine JL.skip (d := some 30) rfl rfl rfl ?_
              refine JL.skip (d := some 31) rfl rfl rfl ?_
              refine JL.skip (d := some 32) rfl rfl rfl ?_
              refine JL.skip (d := some 33) rfl rfl rfl ?_
              refine JL.skip (d := some 34) rfl rfl rfl ?_
              refine JL.val (v := .bool false) (QV.pickF rfl rfl) rfl rfl rfl ?_
              refine JL.val (v := .bool false) (QV.assign rfl) rfl rfl rfl ?_
              refine JL.nil ?_
              refine QJ.then_normal ?_
              refine JC.ret ?_
              refine QJ.block_ret ?_
              refine QJ.then_ret ?_
              obtain rfl := Option.some.inj hm
              exact QJ.body (vs := [.bool false]) (.inl rfl) rfl (ResVs.cons (ResV.tmp rfl) ResVs.nil) [] rfl rfl (.inr trivial) ⟨rfl, rfl⟩
          ·
            refine JC.condF' rfl (decide_eq_false h12) ?_
            refine JC.seq ?_
            refine JC.region ?_
            refine JL.val (v := .bool (decide (x1 = (2 : Int)))) (QV.eql rfl rfl) rfl rfl rfl ?_
            refine JL.val (v := .bool (decide (x1 = (2 : Int)))) (QV.assign rfl) rfl rfl rfl ?_
            refine JL.nil ?_
            refine QJ.then_normal ?_
            rcases ite_inv hm with ⟨h14, hm⟩ | ⟨h14, hm⟩
            ·
              refine JC.condT' rfl (decide_eq_true h14) ?_
              refine JC.seq ?_
              refine JC.region ?_
              refine JL.val (v := .pointer (some ⟨b7, 3, none⟩)) (QV.fieldB fo_35_3 rfl rfl) rfl rfl rfl ?_
              refine JL.val (v := s4.v) (QV.load1 (ss := [Seg.c (.int .u8 x1), Seg.c (.int .i64 x2), Seg.c (.int .i64 x3), Seg.c (s4.v)]) 0 3 rfl tk_23 rfl rfl rfl) rfl rfl rfl ?_
              refine JL.val (v := .int .i64 ((x5).length : Int)) (QV.len (Rdg.vw 1 rfl) Try.underlying23 rfl) rfl rfl rfl ?_
              refine JL.val (v := .bool (decide (((x5).length : Int) = (0 : Int)))) (QV.eql rfl rfl) rfl rfl rfl ?_
              refine JL.val (v := .bool (decide (((x5).length : Int) = (0 : Int)))) (QV.assign rfl) rfl rfl rfl ?_
              refine JL.nil ?_
              refine QJ.then_normal ?_
              refine JC.ret ?_
              refine QJ.block_ret ?_
              refine QJ.then_ret ?_
              obtain rfl := Option.some.inj hm
              exact QJ.body (vs := [.bool (decide (((x5).length : Int) = (0 : Int)))]) (.inl rfl) rfl (ResVs.cons (ResV.tmp rfl) ResVs.nil) [] rfl rfl (.inr trivial) ⟨rfl, rfl⟩
            ·
              refine JC.condF' rfl (decide_eq_false h14) ?_
              refine JC.seq ?_
              refine JC.region ?_
              refine JL.val (v := .bool (decide (x1 = (3 : Int)))) (QV.eql rfl rfl) rfl rfl rfl ?_
              refine JL.val (v := .bool (decide (x1 = (3 : Int)))) (QV.assign rfl) rfl rfl rfl ?_
              refine JL.nil ?_
              refine QJ.then_normal ?_
              rcases ite_inv hm with ⟨h15, hm⟩ | ⟨h15, hm⟩
              ·
                refine JC.condT' rfl (decide_eq_true h15) ?_
                refine JC.seq ?_
                refine JC.region ?_
                refine JL.val (v := .pointer (some ⟨b7, 3, none⟩)) (QV.fieldB fo_35_3 rfl rfl) rfl rfl rfl ?_
                refine JL.val (v := s4.v) (QV.load1 (ss := [Seg.c (.int .u8 x1), Seg.c (.int .i64 x2), Seg.c (.int .i64 x3), Seg.c (s4.v)]) 0 3 rfl tk_23 rfl rfl rfl) rfl rfl rfl ?_
                refine JL.val (v := .int .i64 ((x5).length : Int)) (QV.len (Rdg.vw 1 rfl) Try.underlying23 rfl) rfl rfl rfl ?_
                refine JL.val (v := .pointer (some ⟨b7, 2, none⟩)) (QV.fieldB fo_35_2 rfl rfl) rfl rfl rfl ?_
                refine JL.val (v := .int .i64 x3) (QV.load1 (ss := [Seg.c (.int .u8 x1), Seg.c (.int .i64 x2), Seg.c (.int .i64 x3), Seg.c (s4.v)]) 0 2 rfl tk_3 rfl rfl rfl) rfl rfl rfl ?_
                refine JL.val (v := .bool (decide (((x5).length : Int) = x3))) (QV.eql rfl rfl) rfl rfl rfl ?_
                refine JL.val (v := .bool (decide (((x5).length : Int) = x3))) (QV.assign rfl) rfl rfl rfl ?_
                refine JL.nil ?_
                refine QJ.then_normal ?_
                refine JC.ret ?_
                refine QJ.block_ret ?_
                refine QJ.then_ret ?_
                obtain rfl := Option.some.inj hm
                exact QJ.body (vs := [.bool (decide (((x5).length : Int) = x3))]) (.inl rfl) rfl (ResVs.cons (ResV.tmp rfl) ResVs.nil) [] rfl rfl (.inr trivial) ⟨rfl, rfl⟩
              ·
                refine JC.condF' rfl (decide_eq_false h15) ?_
                refine JC.skip ?_
                refine QJ.block_normal ?_
                refine QJ.then_normal ?_
                refine JC.seq ?_
                refine JC.region ?_
                refine JL.val (v := .bool false) (QV.assign rfl) rfl rfl rfl ?_
                refine JL.nil ?_
                refine QJ.then_normal ?_
                refine JC.ret ?_
                obtain rfl := Option.some.inj hm
                exact QJ.body (vs := [.bool false]) (.inl rfl) rfl (ResVs.cons (ResV.tmp rfl) ResVs.nil) [] rfl rfl (.inr trivial) ⟨rfl, rfl⟩

/-! ### 48: drogher/plan.number -/
noncomputable def F48_1.j1  (d7 : List Int) (d8 : Int) : Option (List Int) :=
  (if ((d7).length + ([(IntKind.wrap .u8 d8)]).length) * 1 ≤ 140737488355328 ∧ (d7).length + ([(IntKind.wrap .u8 d8)]).length ≤ 9223372036854775807 then some (d7 ++ [(IntKind.wrap .u8 d8)]) else none)
noncomputable def F48_1.b1  : (List Int × Int) → Option ((List Int × Int) ⊕ (List Int × Int))
  | (d13, d14) => (if (128 : Int) ≤ d14 then (if ((d13).length + ([(IntKind.wrap .u8 (IntKind.wrap .i64 ((Int.tmod d14 (128 : Int)) + (128 : Int))))]).length) * 1 ≤ 140737488355328 ∧ (d13).length + ([(IntKind.wrap .u8 (IntKind.wrap .i64 ((Int.tmod d14 (128 : Int)) + (128 : Int))))]).length ≤ 9223372036854775807 then some (.inl ((d13 ++ [(IntKind.wrap .u8 (IntKind.wrap .i64 ((Int.tmod d14 (128 : Int)) + (128 : Int))))]), (IntKind.wrap .i64 (Int.tdiv d14 (128 : Int))))) else none) else some (.inr (d13, d14)))
noncomputable def F48_1.m (x2 : List Int) (x3 : Int) : Option (List Int) :=
  ((loop (F48_1.b1) (x2, x3)).bind fun y => match y with | (d7, d8) => F48_1.j1 (d7) (d8))
set_option maxRecDepth 100000 in
set_option maxHeartbeats 4000000 in
theorem F48_1.spec (s1 : SlV) (x2 : List Int) (x3 : Int) (r : (List Int)) (hm : F48_1.m x2 x3 = some r) :
    Ctr Try.prog false 48 [s1.v, .int .i64 x3] [Asr.of 5 (Enc.int .u8) (s1.v) x2] (fun v L' => ∃ (g4 : SlV), v = g4.v ∧ L' = [Asr.of 5 (Enc.int .u8) (g4.v) r]) := by
  refine Ctr.intro (n := 21) (env := [(0, s1.v), (1, .int .i64 x3)]) Try.func48 rfl rfl rfl rfl (fun c => ?_)
  unfold F48_1.m at hm
  refine JC.seq ?_
  refine JC.region ?_
  refine JL.ent (fun _ hs => hs.nil 5 (Enc.int .u8)) ?_
  refine JL.val (v := SlV.nil.v) (QV.assign rfl) rfl rfl rfl ?_
  refine JL.nil ?_
  refine QJ.then_normal ?_
  refine JC.seq ?_
  refine JC.cutK (Y := (List Int × Int) × SlV) (fun y => match y with | ((d7, d8), _) => F48_1.j1 (d7) (d8) = some r) (fun y => match y with | ((d7, d8), z6) => [(0, z6.v), (1, .int .i64 d8)]) (fun y => match y with | ((d7, d8), z6) => [Asr.of 5 (Enc.int .u8) (z6.v) d7]) ?_ ?_
  ·
    rintro ⟨⟨d7, d8⟩, z6⟩ hm
    unfold F48_1.j1 at hm
    show QJ _ _ [(0, z6.v), (1, .int .i64 d8)] [Asr.of 5 (Enc.int .u8) (z6.v) d7] _ _
    refine QJ.then_normal ?_
    refine JC.seq ?_
    refine JC.region ?_
    refine JL.val (v := z6.v) (QV.move rfl) rfl rfl rfl ?_
    refine JL.val (v := .int .i64 d8) (QV.move rfl) rfl rfl rfl ?_
    refine JL.val (v := .int .u8 (IntKind.wrap .u8 d8)) (QV.conv rfl (by rw [Try.underlying3]; rfl) Try.underlying5) rfl rfl rfl ?_
    refine JL.mv (d := some 19) (MV.lit (E := (Enc.int .u8)) (vals := [(0, .int .u8 (IntKind.wrap .u8 d8))]) [(IntKind.wrap .u8 d8)] Try.underlying23 zi_5 rfl (by decide) rfl (by kernel_rfl)) rfl rfl rfl ?_
    rintro _ _ ⟨z9, rfl, rfl⟩
    obtain ⟨h10, hm⟩ := guard_inv hm
    refine JL.mv (d := some 20) (MV.append 1 rfl (Rdg.of 0 rfl) Try.underlying23 zi_5 rfl (by decide) rfl rfl h10) rfl rfl rfl ?_
    rintro _ _ ⟨z11, rfl, rfl⟩
    refine JL.val (v := z11.v) (QV.assign rfl) rfl rfl rfl ?_
    refine JL.nil ?_
    refine QJ.then_normal ?_
    refine JC.ret ?_
    obtain rfl := Option.some.inj hm
    exact QJ.body (vs := [z11.v]) (.inl rfl) rfl (ResVs.cons (ResV.tmp rfl) ResVs.nil) [1] rfl rfl (.inr ⟨own_of _ _ _ _, trivial⟩) ⟨z11, rfl, rfl⟩
  ·
    refine JC.block ?_
    obtain ⟨y18, hl19, hmo20⟩ := bind_inv hm
    refine JC.loop (F48_1.b1) (fun x z => match x, z with | (d13, d14), z12 => [(0, z12.v), (1, .int .i64 d14)]) (fun x z => match x, z with | (d13, d14), z12 => [Asr.of 5 (Enc.int .u8) (z12.v) d13]) (x2, x3) s1 y18 hl19 [1] (by exact ⟨rfl, rfl, trivial⟩) rfl rfl ?_
    rintro ⟨d13, d14⟩ z12 s21 hm
    unfold F48_1.b1 at hm
    dsimp only at hm
    show JC _ _ _ [(0, z12.v), (1, .int .i64 d14)] [Asr.of 5 (Enc.int .u8) (z12.v) d13] _ _
    refine JC.seq ?_
    refine JC.seq ?_
    refine JC.region ?_
    refine JL.val (v := .int .i64 d14) (QV.move rfl) rfl rfl rfl ?_
    refine JL.val (v := .bool (decide ((128 : Int) ≤ d14))) (QV.geq rfl rfl) rfl rfl rfl ?_
    refine JL.nil ?_
    refine QJ.then_normal ?_
    rcases ite_inv hm with ⟨h22, hm⟩ | ⟨h22, hm⟩
    ·
      refine JC.condT' rfl (decide_eq_true h22) ?_
      refine JC.skip ?_
      refine QJ.then_normal ?_
      refine JC.block ?_
      refine JC.seq ?_
      refine JC.region ?_
      refine JL.val (v := z12.v) (QV.move rfl) rfl rfl rfl ?_
      refine JL.val (v := .int .i64 d14) (QV.move rfl) rfl rfl rfl ?_
      refine JL.val (v := .int .i64 (Int.tmod d14 (128 : Int))) (QV.rem rfl rfl (by decide)) rfl rfl rfl ?_
      refine JL.val (v := .int .i64 (IntKind.wrap .i64 ((Int.tmod d14 (128 : Int)) + (128 : Int)))) (QV.add rfl rfl) rfl rfl rfl ?_
      refine JL.val (v := .int .u8 (IntKind.wrap .u8 (IntKind.wrap .i64 ((Int.tmod d14 (128 : Int)) + (128 : Int))))) (QV.conv rfl (by rw [Try.underlying3]; rfl) Try.underlying5) rfl rfl rfl ?_
      refine JL.mv (d := some 12) (MV.lit (E := (Enc.int .u8)) (vals := [(0, .int .u8 (IntKind.wrap .u8 (IntKind.wrap .i64 ((Int.tmod d14 (128 : Int)) + (128 : Int)))))]) [(IntKind.wrap .u8 (IntKind.wrap .i64 ((Int.tmod d14 (128 : Int)) + (128 : Int))))] Try.underlying23 zi_5 rfl (by decide) rfl (by kernel_rfl)) rfl rfl rfl ?_
      rintro _ _ ⟨z23, rfl, rfl⟩
      obtain ⟨h24, hm⟩ := guard_inv hm
      refine JL.mv (d := some 13) (MV.append 1 rfl (Rdg.of 0 rfl) Try.underlying23 zi_5 rfl (by decide) rfl rfl h24) rfl rfl rfl ?_
      rintro _ _ ⟨z25, rfl, rfl⟩
      refine JL.val (v := z25.v) (QV.assign rfl) rfl rfl rfl ?_
      refine JL.nil ?_
      refine QJ.then_normal ?_
      refine JC.region ?_
      refine JL.val (v := .int .i64 d14) (QV.move rfl) rfl rfl rfl ?_
      refine JL.val (v := .int .i64 (IntKind.wrap .i64 (Int.tdiv d14 (128 : Int)))) (QV.quo rfl rfl (by decide)) rfl rfl rfl ?_
      refine JL.val (v := .int .i64 (IntKind.wrap .i64 (Int.tdiv d14 (128 : Int)))) (QV.assign rfl) rfl rfl rfl ?_
      refine JL.nil ?_
      refine QJ.block_normal ?_
      obtain rfl := Option.some.inj hm
      exact QJ.round_on ((d13 ++ [(IntKind.wrap .u8 (IntKind.wrap .i64 ((Int.tmod d14 (128 : Int)) + (128 : Int))))]), (IntKind.wrap .i64 (Int.tdiv d14 (128 : Int)))) z25 [1] (by exact ⟨rfl, rfl, trivial⟩) rfl rfl
    ·
      refine JC.condF' rfl (decide_eq_false h22) ?_
      refine JC.exit ?_
      refine QJ.then_exit ?_
      obtain rfl := Option.some.inj hm
      refine QJ.round_exit (fun hy => ?_)
      subst hy
      refine QJ.block_hit ?_
      exact QJ.cut_normal ((d13, d14), z12) hmo20 [0] (by exact ⟨rfl, rfl, trivial⟩) rfl rfl

/-! ### 22: drogher/plan.Put -/
noncomputable def F22.j1  (d8 : List Int) : Option (List Int × Int) :=
  some (d8, (0 : Int))
noncomputable def F22.j2 (x2 : List (Int × Int × Int × (List Int))) (d11 : Int) (d32 : List Int) : Option ((List Int × Int) ⊕ (((List Int × Int)) ⊕ (List Int))) :=
  (if ((d32).length + ((gd x2 d11).2.2.2).length) * 1 ≤ 140737488355328 ∧ (d32).length + ((gd x2 d11).2.2.2).length ≤ 9223372036854775807 then some (.inl ((d32 ++ (gd x2 d11).2.2.2), (IntKind.wrap .i64 (d11 + (1 : Int))))) else none)
noncomputable def F22.b1 (x2 : List (Int × Int × Int × (List Int))) : (List Int × Int) → Option ((List Int × Int) ⊕ (((List Int × Int)) ⊕ (List Int)))
  | (d10, d11) => (if d11 < ((x2).length : Int) then (if 0 ≤ d11 ∧ d11 < ((x2).length : Int) then ((F23.m ((gd x2 d11).1) ((gd x2 d11).2.1) ((gd x2 d11).2.2.1) ((gd x2 d11).2.2.2)).bind fun y22 => (if y22 = true then (if ((d10).length + ([(gd x2 d11).1]).length) * 1 ≤ 140737488355328 ∧ (d10).length + ([(gd x2 d11).1]).length ≤ 9223372036854775807 then ((F48_1.m ((d10 ++ [(gd x2 d11).1])) ((gd x2 d11).2.2.1)).bind fun y28 => (if (gd x2 d11).1 = (1 : Int) then F22.j2 x2 d11 (y28) else ((F48_1.m (y28) ((gd x2 d11).2.1)).bind fun y36 => F22.j2 x2 d11 (y36)))) else none) else some (.inr (.inl ((([] : List Int), (3 : Int))))))) else none) else some (.inr (.inr (d10))))
noncomputable def F22.m (x2 : List (Int × Int × Int × (List Int))) : Option (List Int × Int) :=
  ((loop (F22.b1 x2) (([] : List Int), (0 : Int))).bind fun y => match y with | .inl r => some r | .inr d8 => F22.j1 (d8))
set_option maxRecDepth 100000 in
set_option maxHeartbeats 4000000 in
theorem F22.spec (s1 : SlV) (z3 : List (Unit × Unit × Unit × SlV)) (x2 : List (Int × Int × Int × (List Int))) (r : (List Int × Int)) (hm : F22.m x2 = some r) :
    Ctr Try.prog false 22 [s1.v] [Asr.vn (NE.pair (NE.flat (Enc.int .u8)) (NE.pair (NE.flat (Enc.int .i64)) (NE.pair (NE.flat (Enc.int .i64)) (NE.sl (Enc.int .u8))))) (s1.v) z3 x2] (fun v L' => ∃ (g4 : SlV), v = .tuple #[g4.v, .int .i64 r.2] ∧ L' = [Asr.of 5 (Enc.int .u8) (g4.v) r.1]) := by
  refine Ctr.intro (n := 37) (env := [(0, s1.v)]) Try.func22 rfl rfl rfl rfl (fun c => ?_)
  unfold F22.m at hm
  refine JC.seq ?_
  refine JC.region ?_
  refine JL.ent (fun _ hs => hs.nil 5 (Enc.int .u8)) ?_
  refine JL.val (v := SlV.nil.v) (QV.assign rfl) rfl rfl rfl ?_
  refine JL.val (v := .int .i64 (0 : Int)) (QV.assign rfl) rfl rfl rfl ?_
  refine JL.nil ?_
  refine QJ.then_normal ?_
  refine JC.seq ?_
  refine JC.region ?_
  refine JL.ent (fun _ hs => hs.nil 5 (Enc.int .u8)) ?_
  refine JL.val (v := SlV.nil.v) (QV.assign rfl) rfl rfl rfl ?_
  refine JL.nil ?_
  refine QJ.then_normal ?_
  refine JC.seq ?_
  refine JC.seq ?_
  refine JC.region ?_
  refine JL.val (v := s1.v) (QV.move rfl) rfl rfl rfl ?_
  refine JL.val (v := .int .i64 ((x2).length : Int)) (QV.lenN (RdN.vn 2 rfl) Try.underlying22 rfl) rfl rfl rfl ?_
  refine JL.val (v := .int .i64 (0 : Int)) (QV.move rfl) rfl rfl rfl ?_
  refine JL.nil ?_
  refine QJ.then_normal ?_
  refine JC.cutK (Y := (List Int) × SlV) (fun y => match y with | (d8, _) => F22.j1 (d8) = some r) (fun y => match y with | (d8, z7) => [(4, z7.v)]) (fun y => match y with | (d8, z7) => [Asr.of 5 (Enc.int .u8) (z7.v) d8]) ?_ ?_
  ·
    rintro ⟨d8, z7⟩ hm
    unfold F22.j1 at hm
    show QJ _ _ [(4, z7.v)] [Asr.of 5 (Enc.int .u8) (z7.v) d8] _ _
    refine QJ.then_normal ?_
    refine JC.seq ?_
    refine JC.region ?_
    refine JL.val (v := z7.v) (QV.move rfl) rfl rfl rfl ?_
    refine JL.val (v := z7.v) (QV.assign rfl) rfl rfl rfl ?_
    refine JL.val (v := .int .i64 (0 : Int)) (QV.assign rfl) rfl rfl rfl ?_
    refine JL.nil ?_
    refine QJ.then_normal ?_
    refine JC.ret ?_
    obtain rfl := Option.some.inj hm
    exact QJ.body (vs := [z7.v, .int .i64 (0 : Int)]) (.inl rfl) rfl (ResVs.cons (ResV.tmp rfl) (ResVs.cons (ResV.tmp rfl) ResVs.nil)) [0] rfl rfl (.inr ⟨own_of _ _ _ _, trivial⟩) ⟨z7, rfl, rfl⟩
  ·
    refine JC.block ?_
    obtain ⟨y15, hl16, hmo17⟩ := bind_inv hm
    refine JC.loop (F22.b1 x2) (fun x z => match x, z with | (d10, d11), z9 => [(4, z9.v), (7, s1.v), (8, .int .i64 ((x2).length : Int)), (9, .int .i64 d11)]) (fun x z => match x, z with | (d10, d11), z9 => [Asr.of 5 (Enc.int .u8) (z9.v) d10, Asr.vn (NE.pair (NE.flat (Enc.int .u8)) (NE.pair (NE.flat (Enc.int .i64)) (NE.pair (NE.flat (Enc.int .i64)) (NE.sl (Enc.int .u8))))) (s1.v) z3 x2]) (([] : List Int), (0 : Int)) SlV.nil y15 hl16 [0, 2] (by exact ⟨rfl, rfl, rfl, rfl, trivial⟩) rfl rfl ?_
    rintro ⟨d10, d11⟩ z9 s18 hm
    unfold F22.b1 at hm
    dsimp only at hm
    show JC _ _ _ [(4, z9.v), (7, s1.v), (8, .int .i64 ((x2).length : Int)), (9, .int .i64 d11)] [Asr.of 5 (Enc.int .u8) (z9.v) d10, Asr.vn (NE.pair (NE.flat (Enc.int .u8)) (NE.pair (NE.flat (Enc.int .i64)) (NE.pair (NE.flat (Enc.int .i64)) (NE.sl (Enc.int .u8))))) (s1.v) z3 x2] _ _
    refine JC.seq ?_
    refine JC.region ?_
    refine JL.val (v := .bool (decide (d11 < ((x2).length : Int)))) (QV.lss rfl rfl) rfl rfl rfl ?_
    refine JL.nil ?_
    refine QJ.then_normal ?_
    refine JC.seq ?_
    rcases ite_inv hm with ⟨h19, hm⟩ | ⟨h19, hm⟩
    ·
      refine JC.condT' rfl (decide_eq_true h19) ?_
      refine JC.skip ?_
      refine QJ.then_normal ?_
      refine JC.seq ?_
      refine JC.block ?_
      refine JC.seq ?_
      refine JC.region ?_
      obtain ⟨h20, hm⟩ := guard_inv hm
      refine JL.val (v := .pointer (some (elA (s1.v) (Int.toNat d11 * ((NE.pair (NE.flat (Enc.int .u8)) (NE.pair (NE.flat (Enc.int .i64)) (NE.pair (NE.flat (Enc.int .i64)) (NE.sl (Enc.int .u8))))).E).sz)))) (QV.indexN (RdN.vn 1 rfl) Try.underlying22 tk_35 rfl rfl h20) rfl rfl rfl ?_
      refine JL.val (v := .agg #[.int .u8 (gd x2 d11).1, .int .i64 (gd x2 d11).2.1, .int .i64 (gd x2 d11).2.2.1, (gd z3 d11).2.2.2.v]) (QV.eq (QV.elNN (RdN.vn 1 rfl) tk_35 rfl h20) rfl) rfl rfl rfl ?_
      refine JL.ent (fun _ hs => hs.nil 5 (Enc.int .u8)) ?_
      refine JL.mv (d := some 6) (MV.alloc [Seg.c (.int .u8 (0 : Int)), Seg.c (.int .i64 (0 : Int)), Seg.c (.int .i64 (0 : Int)), Seg.c (SlV.nil.v)] z_35 rfl) rfl rfl rfl ?_
      rintro _ _ ⟨b21, rfl, rfl⟩
      refine JL.ent (fun _ hs => hs.derive (Drv.el (K := (NE.pair (NE.flat (Enc.int .u8)) (NE.pair (NE.flat (Enc.int .i64)) (NE.pair (NE.flat (Enc.int .i64)) (NE.sl (Enc.int .u8)))))) (A := Asr.vw (Enc.int .u8) ((gd z3 d11).2.2.2.v) (gd x2 d11).2.2.2) (Drv.vn 3 rfl) h20 (fun _ _ q => q.2.2.2))) ?_
      refine JL.mv (d := none) (MV.store (ss := [Seg.c (.int .u8 (0 : Int)), Seg.c (.int .i64 (0 : Int)), Seg.c (.int .i64 (0 : Int)), Seg.c (SlV.nil.v)]) 1 0 4 [Seg.c (.int .u8 (gd x2 d11).1), Seg.c (.int .i64 (gd x2 d11).2.1), Seg.c (.int .i64 (gd x2 d11).2.2.1), Seg.c ((gd z3 d11).2.2.2.v)] rfl tk_35 rfl rfl rfl rfl (fun w hs => ⟨rfl, one_c rfl, one_c rfl, one_c rfl, one_sl (Rdg.vw 0 rfl) hs, trivial⟩)) rfl rfl rfl ?_
      rintro _ _ ⟨rfl, rfl⟩
      refine JL.nil ?_
      refine QJ.then_normal ?_
      refine JC.seq ?_
      refine JC.seq ?_
      refine JC.region ?_
      refine JL.val (v := .agg #[.int .u8 (gd x2 d11).1, .int .i64 (gd x2 d11).2.1, .int .i64 (gd x2 d11).2.2.1, (gd z3 d11).2.2.2.v]) (QV.eq (QV.loadN (ss := [Seg.c (.int .u8 (gd x2 d11).1), Seg.c (.int .i64 (gd x2 d11).2.1), Seg.c (.int .i64 (gd x2 d11).2.2.1), Seg.c ((gd z3 d11).2.2.2.v)]) 1 0 4 rfl tk_35 rfl rfl rfl rfl) rfl) rfl rfl rfl ?_
      obtain ⟨y22, hc23, hm⟩ := bind_inv hm
      refine JL.mv (d := some 14) (MV.call (Lo := []) (Lr := [Asr.vw (Enc.int .u8) ((gd z3 d11).2.2.2.v) (gd x2 d11).2.2.2, Asr.blk b21 35 [Seg.c (.int .u8 (gd x2 d11).1), Seg.c (.int .i64 (gd x2 d11).2.1), Seg.c (.int .i64 (gd x2 d11).2.2.1), Seg.c ((gd z3 d11).2.2.2.v)], Asr.of 5 (Enc.int .u8) (SlV.nil.v) ([] : List Int), Asr.of 5 (Enc.int .u8) (z9.v) d10, Asr.vn (NE.pair (NE.flat (Enc.int .u8)) (NE.pair (NE.flat (Enc.int .i64)) (NE.pair (NE.flat (Enc.int .i64)) (NE.sl (Enc.int .u8))))) (s1.v) z3 x2]) (F23.spec ((gd z3 d11).2.2.2) ((gd x2 d11).1) ((gd x2 d11).2.1) ((gd x2 d11).2.2.1) ((gd x2 d11).2.2.2) _ hc23) rfl Try.func23 rfl rfl rfl [] [0, 1, 2, 3, 4] rfl rfl rfl ⟨(Drv.vw 0 rfl), trivial⟩) rfl rfl rfl ?_
      rintro _ _ ⟨_, ⟨rfl, rfl⟩, rfl⟩
      refine JL.val (v := .bool (!y22)) (QV.not rfl) rfl rfl rfl ?_
      refine JL.nil ?_
      refine QJ.then_normal ?_
      rcases ite_inv hm with ⟨h24, hm⟩ | ⟨h24, hm⟩
      ·
        refine JC.condF' rfl (congrArg Bool.not h24) ?_
        refine JC.skip ?_
        refine QJ.then_normal ?_
        refine JC.seq ?_
        refine JC.regionT [Asr.vw (Enc.int .u8) ((gd z3 d11).2.2.2.v) (gd x2 d11).2.2.2, Asr.blk b21 35 [Seg.c (.int .u8 (gd x2 d11).1), Seg.c (.int .i64 (gd x2 d11).2.1), Seg.c (.int .i64 (gd x2 d11).2.2.1), Seg.c ((gd z3 d11).2.2.2.v)], Asr.of 5 (Enc.int .u8) (SlV.nil.v) ([] : List Int), Asr.vn (NE.pair (NE.flat (Enc.int .u8)) (NE.pair (NE.flat (Enc.int .i64)) (NE.pair (NE.flat (Enc.int .i64)) (NE.sl (Enc.int .u8))))) (s1.v) z3 x2] (fun t => false) [(0, true), (1, true), (2, true), (5, true), (6, true), (3, false), (4, false), (7, false), (8, false)] (by kernel_rfl) (by kernel_rfl) (by kernel_rfl) rfl (fun hsel => ?_)
        refine JT.take (i := 0) (v := z9.v) hsel rfl (QV.move rfl) rfl rfl rfl [0, 1, 2, 4] rfl rfl ?_
        refine JT.take (i := 1) (v := .pointer (some ⟨b21, 0, none⟩)) hsel rfl (QV.fieldB fo_35_0 rfl rfl) rfl rfl rfl [0, 1, 2, 4] rfl rfl ?_
        refine JT.take (i := 2) (v := .int .u8 (gd x2 d11).1) hsel rfl (QV.load1 (ss := [Seg.c (.int .u8 (gd x2 d11).1), Seg.c (.int .i64 (gd x2 d11).2.1), Seg.c (.int .i64 (gd x2 d11).2.2.1), Seg.c ((gd z3 d11).2.2.2.v)]) 1 0 rfl tk_5 rfl rfl rfl) rfl rfl rfl [0, 1, 2, 4] rfl rfl ?_
        refine JT.take (i := 5) (v := .pointer (some ⟨b21, 2, none⟩)) hsel rfl (QV.fieldB fo_35_2 rfl rfl) rfl rfl rfl [0, 1, 2, 4] rfl rfl ?_
        refine JT.take (i := 6) (v := .int .i64 (gd x2 d11).2.2.1) hsel rfl (QV.load1 (ss := [Seg.c (.int .u8 (gd x2 d11).1), Seg.c (.int .i64 (gd x2 d11).2.1), Seg.c (.int .i64 (gd x2 d11).2.2.1), Seg.c ((gd z3 d11).2.2.2.v)]) 1 2 rfl tk_3 rfl rfl rfl) rfl rfl rfl [0, 1, 2, 4] rfl rfl ?_
        refine JT.only (i := 3) (d := some 19) rfl (MV.lit (E := (Enc.int .u8)) (vals := [(0, .int .u8 (gd x2 d11).1)]) [(gd x2 d11).1] Try.underlying23 zi_5 rfl (by decide) rfl (by kernel_rfl)) rfl rfl rfl ?_
        rintro _ _ ⟨z25, rfl, rfl⟩
        refine ⟨fun _ => ⟨[1, 2, 3, 5], rfl, rfl⟩, ?_⟩
        refine JT.grow [Asr.of 5 (Enc.int .u8) (z25.v) [(gd x2 d11).1], Asr.vw (Enc.int .u8) ((gd z3 d11).2.2.2.v) (gd x2 d11).2.2.2, Asr.blk b21 35 [Seg.c (.int .u8 (gd x2 d11).1), Seg.c (.int .i64 (gd x2 d11).2.1), Seg.c (.int .i64 (gd x2 d11).2.2.1), Seg.c ((gd z3 d11).2.2.2.v)], Asr.of 5 (Enc.int .u8) (SlV.nil.v) ([] : List Int), Asr.vn (NE.pair (NE.flat (Enc.int .u8)) (NE.pair (NE.flat (Enc.int .i64)) (NE.pair (NE.flat (Enc.int .i64)) (NE.sl (Enc.int .u8))))) (s1.v) z3 x2] [1, 2, 3, 4] rfl rfl ?_
        obtain ⟨h26, hm⟩ := guard_inv hm
        refine JT.only (i := 4) (d := some 20) rfl (MV.append 4 rfl (Rdg.of 0 rfl) Try.underlying23 zi_5 rfl (by decide) rfl rfl h26) rfl rfl rfl ?_
        rintro _ _ ⟨z27, rfl, rfl⟩
        refine ⟨fun _ => ⟨[0, 1, 2, 3, 5], rfl, rfl⟩, ?_⟩
        obtain ⟨y28, hc29, hm⟩ := bind_inv hm
        refine JT.only (i := 7) (d := some 23) rfl (MV.call (Lo := [Asr.of 5 (Enc.int .u8) (z27.v) (d10 ++ [(gd x2 d11).1])]) (Lr := [Asr.of 5 (Enc.int .u8) (z25.v) [(gd x2 d11).1], Asr.vw (Enc.int .u8) ((gd z3 d11).2.2.2.v) (gd x2 d11).2.2.2, Asr.blk b21 35 [Seg.c (.int .u8 (gd x2 d11).1), Seg.c (.int .i64 (gd x2 d11).2.1), Seg.c (.int .i64 (gd x2 d11).2.2.1), Seg.c ((gd z3 d11).2.2.2.v)], Asr.of 5 (Enc.int .u8) (SlV.nil.v) ([] : List Int), Asr.vn (NE.pair (NE.flat (Enc.int .u8)) (NE.pair (NE.flat (Enc.int .i64)) (NE.pair (NE.flat (Enc.int .i64)) (NE.sl (Enc.int .u8))))) (s1.v) z3 x2]) (F48_1.spec (z27) ((d10 ++ [(gd x2 d11).1])) ((gd x2 d11).2.2.1) _ hc29) rfl Try.func48 rfl rfl rfl [4] [0, 1, 2, 3, 5] rfl rfl rfl trivial) rfl rfl rfl ?_
        rintro _ _ ⟨_, ⟨z30, rfl, rfl⟩, rfl⟩
        refine ⟨fun _ => ⟨[1, 2, 3, 4, 5], rfl, rfl⟩, ?_⟩
        refine JT.grow [Asr.of 5 (Enc.int .u8) (z30.v) y28, Asr.of 5 (Enc.int .u8) (z25.v) [(gd x2 d11).1], Asr.vw (Enc.int .u8) ((gd z3 d11).2.2.2.v) (gd x2 d11).2.2.2, Asr.blk b21 35 [Seg.c (.int .u8 (gd x2 d11).1), Seg.c (.int .i64 (gd x2 d11).2.1), Seg.c (.int .i64 (gd x2 d11).2.2.1), Seg.c ((gd z3 d11).2.2.2.v)], Asr.of 5 (Enc.int .u8) (SlV.nil.v) ([] : List Int), Asr.vn (NE.pair (NE.flat (Enc.int .u8)) (NE.pair (NE.flat (Enc.int .i64)) (NE.pair (NE.flat (Enc.int .i64)) (NE.sl (Enc.int .u8))))) (s1.v) z3 x2] [1, 2, 3, 4, 5] rfl rfl ?_
        refine JT.only (i := 8) (d := some 4) rfl (MV.ofQV (v := z30.v) (QV.assign rfl)) rfl rfl rfl ?_
        rintro _ _ ⟨rfl, rfl⟩
        refine ⟨fun _ => ⟨[0, 1, 2, 3, 4, 5], rfl, rfl⟩, ?_⟩
        refine JT.nil ?_
        refine QJ.then_normal ?_
        refine JC.seq ?_
        refine JC.seq ?_
        refine JC.region ?_
        refine JL.val (v := .pointer (some ⟨b21, 0, none⟩)) (QV.fieldB fo_35_0 rfl rfl) rfl rfl rfl ?_
        refine JL.val (v := .int .u8 (gd x2 d11).1) (QV.load1 (ss := [Seg.c (.int .u8 (gd x2 d11).1), Seg.c (.int .i64 (gd x2 d11).2.1), Seg.c (.int .i64 (gd x2 d11).2.2.1), Seg.c ((gd z3 d11).2.2.2.v)]) 3 0 rfl tk_5 rfl rfl rfl) rfl rfl rfl ?_
        refine JL.val (v := .bool (!(decide ((gd x2 d11).1 = (1 : Int))))) (QV.neq rfl rfl) rfl rfl rfl ?_
        refine JL.nil ?_
        refine QJ.then_normal ?_
        refine JC.cutK (Y := (List Int) × SlV) (fun y => match y with | (d32, _) => F22.j2 x2 d11 (d32) = some s18) (fun y => match y with | (d32, z31) => [(4, z31.v), (6, .pointer (some ⟨b21, 0, none⟩)), (7, s1.v), (8, .int .i64 ((x2).length : Int)), (9, .int .i64 d11)]) (fun y => match y with | (d32, z31) => [Asr.of 5 (Enc.int .u8) (z31.v) d32, Asr.vw (Enc.int .u8) ((gd z3 d11).2.2.2.v) (gd x2 d11).2.2.2, Asr.blk b21 35 [Seg.c (.int .u8 (gd x2 d11).1), Seg.c (.int .i64 (gd x2 d11).2.1), Seg.c (.int .i64 (gd x2 d11).2.2.1), Seg.c ((gd z3 d11).2.2.2.v)], Asr.vn (NE.pair (NE.flat (Enc.int .u8)) (NE.pair (NE.flat (Enc.int .i64)) (NE.pair (NE.flat (Enc.int .i64)) (NE.sl (Enc.int .u8))))) (s1.v) z3 x2]) ?_ ?_
        ·
          rintro ⟨d32, z31⟩ hm
          unfold F22.j2 at hm
          show QJ _ _ [(4, z31.v), (6, .pointer (some ⟨b21, 0, none⟩)), (7, s1.v), (8, .int .i64 ((x2).length : Int)), (9, .int .i64 d11)] [Asr.of 5 (Enc.int .u8) (z31.v) d32, Asr.vw (Enc.int .u8) ((gd z3 d11).2.2.2.v) (gd x2 d11).2.2.2, Asr.blk b21 35 [Seg.c (.int .u8 (gd x2 d11).1), Seg.c (.int .i64 (gd x2 d11).2.1), Seg.c (.int .i64 (gd x2 d11).2.2.1), Seg.c ((gd z3 d11).2.2.2.v)], Asr.vn (NE.pair (NE.flat (Enc.int .u8)) (NE.pair (NE.flat (Enc.int .i64)) (NE.pair (NE.flat (Enc.int .i64)) (NE.sl (Enc.int .u8))))) (s1.v) z3 x2] _ _
          refine QJ.then_normal ?_
          refine JC.region ?_
          refine JL.val (v := z31.v) (QV.move rfl) rfl rfl rfl ?_
          refine JL.val (v := .pointer (some ⟨b21, 3, none⟩)) (QV.fieldB fo_35_3 rfl rfl) rfl rfl rfl ?_
          refine JL.val (v := (gd z3 d11).2.2.2.v) (QV.load1 (ss := [Seg.c (.int .u8 (gd x2 d11).1), Seg.c (.int .i64 (gd x2 d11).2.1), Seg.c (.int .i64 (gd x2 d11).2.2.1), Seg.c ((gd z3 d11).2.2.2.v)]) 2 3 rfl tk_23 rfl rfl rfl) rfl rfl rfl ?_
          obtain ⟨h33, hm⟩ := guard_inv hm
          refine JL.mv (d := some 34) (MV.append 0 rfl (Rdg.vw 1 rfl) Try.underlying23 zi_5 rfl (by decide) rfl rfl h33) rfl rfl rfl ?_
          rintro _ _ ⟨z34, rfl, rfl⟩
          refine JL.val (v := z34.v) (QV.assign rfl) rfl rfl rfl ?_
          refine JL.nil ?_
          refine QJ.block_normal ?_
          refine QJ.then_normal ?_
          refine JC.region ?_
          refine JL.val (v := .int .i64 (IntKind.wrap .i64 (d11 + (1 : Int)))) (QV.add rfl rfl) rfl rfl rfl ?_
          refine JL.val (v := .int .i64 (IntKind.wrap .i64 (d11 + (1 : Int)))) (QV.move rfl) rfl rfl rfl ?_
          refine JL.nil ?_
          obtain rfl := Option.some.inj hm
          exact QJ.round_on ((d32 ++ (gd x2 d11).2.2.2), (IntKind.wrap .i64 (d11 + (1 : Int)))) z34 [0, 3] (by exact ⟨rfl, rfl, rfl, rfl, trivial⟩) rfl rfl
        ·
          rcases ite_inv hm with ⟨h35, hm⟩ | ⟨h35, hm⟩
          ·
            refine JC.condF' rfl (congrArg Bool.not (decide_eq_true h35)) ?_
            refine JC.skip ?_
            exact QJ.cut_normal (y28, z30) hm [0, 2, 3, 5] (by exact ⟨rfl, rfl, rfl, rfl, rfl, trivial⟩) rfl rfl
          ·
            refine JC.condT' rfl (congrArg Bool.not (decide_eq_false h35)) ?_
            refine JC.region ?_
            refine JL.val (v := z30.v) (QV.move rfl) rfl rfl rfl ?_
            refine JL.val (v := .pointer (some ⟨b21, 1, none⟩)) (QV.fieldB fo_35_1 rfl rfl) rfl rfl rfl ?_
            refine JL.val (v := .int .i64 (gd x2 d11).2.1) (QV.load1 (ss := [Seg.c (.int .u8 (gd x2 d11).1), Seg.c (.int .i64 (gd x2 d11).2.1), Seg.c (.int .i64 (gd x2 d11).2.2.1), Seg.c ((gd z3 d11).2.2.2.v)]) 3 1 rfl tk_3 rfl rfl rfl) rfl rfl rfl ?_
            obtain ⟨y36, hc37, hm⟩ := bind_inv hm
            refine JL.mv (d := some 30) (MV.call (Lo := [Asr.of 5 (Enc.int .u8) (z30.v) y28]) (Lr := [Asr.of 5 (Enc.int .u8) (z25.v) [(gd x2 d11).1], Asr.vw (Enc.int .u8) ((gd z3 d11).2.2.2.v) (gd x2 d11).2.2.2, Asr.blk b21 35 [Seg.c (.int .u8 (gd x2 d11).1), Seg.c (.int .i64 (gd x2 d11).2.1), Seg.c (.int .i64 (gd x2 d11).2.2.1), Seg.c ((gd z3 d11).2.2.2.v)], Asr.of 5 (Enc.int .u8) (SlV.nil.v) ([] : List Int), Asr.vn (NE.pair (NE.flat (Enc.int .u8)) (NE.pair (NE.flat (Enc.int .i64)) (NE.pair (NE.flat (Enc.int .i64)) (NE.sl (Enc.int .u8))))) (s1.v) z3 x2]) (F48_1.spec (z30) (y28) ((gd x2 d11).2.1) _ hc37) rfl Try.func48 rfl rfl rfl [0] [1, 2, 3, 4, 5] rfl rfl rfl trivial) rfl rfl rfl ?_
            rintro _ _ ⟨_, ⟨z38, rfl, rfl⟩, rfl⟩
            refine JL.val (v := z38.v) (QV.assign rfl) rfl rfl rfl ?_
            refine JL.nil ?_
            exact QJ.cut_normal (y36, z38) hm [0, 2, 3, 5] (by exact ⟨rfl, rfl, rfl, rfl, rfl, trivial⟩) rfl rfl
      ·
        refine JC.condT' rfl (congrArg Bool.not (bfalse h24)) ?_
        refine JC.seq ?_
        refine JC.region ?_
        refine JL.ent (fun _ hs => hs.nil 5 (Enc.int .u8)) ?_
        refine JL.val (v := SlV.nil.v) (QV.assign rfl) rfl rfl rfl ?_
        refine JL.val (v := .int .i64 (3 : Int)) (QV.assign rfl) rfl rfl rfl ?_
        refine JL.nil ?_
        refine QJ.then_normal ?_
        refine JC.ret ?_
        refine QJ.then_ret ?_
        refine QJ.block_ret ?_
        refine QJ.then_ret ?_
        obtain rfl := Option.some.inj hm
        refine QJ.round_ret (fun hy => ?_)
        subst hy
        refine QJ.block_ret ?_
        refine QJ.cut_ret ?_
        refine QJ.then_ret ?_
        obtain rfl := Option.some.inj hmo17
        exact QJ.body (vs := [SlV.nil.v, .int .i64 (3 : Int)]) (.inl rfl) rfl (ResVs.cons (ResV.tmp rfl) (ResVs.cons (ResV.tmp rfl) ResVs.nil)) [0] rfl rfl (.inr ⟨own_of _ _ _ _, trivial⟩) ⟨(SlV.nil), rfl, rfl⟩
    ·
      refine JC.condF' rfl (decide_eq_false h19) ?_
      refine JC.exit ?_
      refine QJ.then_exit ?_
      obtain rfl := Option.some.inj hm
      refine QJ.round_exit (fun hy => ?_)
      subst hy
      refine QJ.block_hit ?_
      exact QJ.cut_normal (d10, z9) hmo17 [0] (by exact ⟨rfl, trivial⟩) rfl rfl

/-! ### 15: drogher/drogherlaw16.awake -/
noncomputable def F15.m  : Option Bool :=
  ((F22.m ([((1 : Int), (0 : Int), (2 : Int), [(97 : Int), (98 : Int)])])).bind fun y4 => (if y4.2 = (0 : Int) then some (decide ((strOfNums y4.1) = (⟨#[1, 2, 97, 98]⟩ : ByteArray))) else some false))
set_option maxRecDepth 100000 in
set_option maxHeartbeats 4000000 in
theorem F15.spec  (r : Bool) (hm : F15.m  = some r) :
    Ctr Try.prog false 15 [] [] (fun v L' => v = .bool r ∧ L' = []) := by
  refine Ctr.intro (n := 18) (env := []) Try.func15 rfl rfl rfl rfl (fun c => ?_)
  unfold F15.m at hm
  refine JC.seq ?_
  refine JC.region ?_
  refine JL.val (v := .bool false) (QV.assign rfl) rfl rfl rfl ?_
  refine JL.nil ?_
  refine QJ.then_normal ?_
  refine JC.seq ?_
  refine JC.region ?_
  refine JL.mv (d := some 4) (MV.lit (E := (Enc.int .u8)) (vals := [(0, .int .u8 (97 : Int)), (1, .int .u8 (98 : Int))]) [(97 : Int), (98 : Int)] Try.underlying23 zi_5 rfl (by decide) rfl (by kernel_rfl)) rfl rfl rfl ?_
  rintro _ _ ⟨z2, rfl, rfl⟩
  refine JL.mv (d := some 5) (MV.mark 0 rfl Try.underlying23 Try.underlying5 (by decide) rfl) rfl rfl rfl ?_
  rintro _ _ ⟨rfl, rfl⟩
  refine JL.ent (fun _ hs => hs.nil 5 (Enc.int .u8)) ?_
  refine JL.val (v := .agg #[.int .u8 (1 : Int), .int .i64 (0 : Int), .int .i64 (2 : Int), z2.v]) (QV.build (vals := [(0, .int .u8 (1 : Int)), (2, .int .i64 (2 : Int)), (3, z2.v)]) rfl (by kernel_rfl)) rfl rfl rfl ?_
  refine JL.mv (d := some 7) (MV.litV (K := (NE.pair (NE.flat (Enc.int .u8)) (NE.pair (NE.flat (Enc.int .i64)) (NE.pair (NE.flat (Enc.int .i64)) (NE.sl (Enc.int .u8)))))) (vals := [(0, .agg #[.int .u8 (1 : Int), .int .i64 (0 : Int), .int .i64 (2 : Int), z2.v])]) [((), (), (), z2)] [((1 : Int), (0 : Int), (2 : Int), [(97 : Int), (98 : Int)])] Try.underlying22 zi_35 ⟨fun w F G hst => ⟨trivial, trivial, trivial, (ok_vw (Drv.vw 1 rfl) w F G hst)⟩, trivial⟩ rfl (by decide) rfl (by kernel_rfl)) rfl rfl rfl ?_
  rintro _ _ ⟨z3, rfl, rfl⟩
  obtain ⟨y4, hc5, hm⟩ := bind_inv hm
  refine JL.mv (d := some 8) (MV.call (Lo := []) (Lr := [Asr.onv 35 (NE.pair (NE.flat (Enc.int .u8)) (NE.pair (NE.flat (Enc.int .i64)) (NE.pair (NE.flat (Enc.int .i64)) (NE.sl (Enc.int .u8))))) (z3.v) [((), (), (), z2)] [((1 : Int), (0 : Int), (2 : Int), [(97 : Int), (98 : Int)])], Asr.of 5 (Enc.int .u8) (SlV.nil.v) ([] : List Int), Asr.vw (Enc.int .u8) (z2.v) [(97 : Int), (98 : Int)]]) (F22.spec (z3) ([((), (), (), z2)]) ([((1 : Int), (0 : Int), (2 : Int), [(97 : Int), (98 : Int)])]) _ hc5) rfl Try.func22 rfl rfl rfl [] [0, 1, 2] rfl rfl rfl ⟨(Drv.onv 0 rfl), trivial⟩) rfl rfl rfl ?_
  rintro _ _ ⟨_, ⟨z6, rfl, rfl⟩, rfl⟩
  refine JL.val (v := .tuple #[z6.v, .int .i64 y4.2]) (QV.move rfl) rfl rfl rfl ?_
  refine JL.val (v := z6.v) (QV.extract (vs := [z6.v, .int .i64 y4.2]) rfl rfl) rfl rfl rfl ?_
  refine JL.val (v := .int .i64 y4.2) (QV.extract (vs := [z6.v, .int .i64 y4.2]) rfl rfl) rfl rfl rfl ?_
  refine JL.val (v := z6.v) (QV.assign rfl) rfl rfl rfl ?_
  refine JL.val (v := .int .i64 y4.2) (QV.assign rfl) rfl rfl rfl ?_
  refine JL.nil ?_
  refine QJ.then_normal ?_
  refine JC.seq ?_
  refine JC.region ?_
  refine JL.val (v := .int .i64 y4.2) (QV.move rfl) rfl rfl rfl ?_
  refine JL.val (v := .bool (decide (y4.2 = (0 : Int)))) (QV.eql rfl rfl) rfl rfl rfl ?_
  rcases ite_inv hm with ⟨h7, hm⟩ | ⟨h7, hm⟩
  ·
    refine JL.val (v := .bool true) (QV.eq (QV.move rfl) (congrArg Value.bool (decide_eq_true h7))) rfl rfl rfl ?_
    refine JL.val (v := z6.v) (QV.move rfl) rfl rfl rfl ?_
    refine JL.val (v := .string (strOfNums y4.1)) (QV.str (Rdg.of 0 rfl) Try.underlying23 Try.underlying5 Try.underlying9 rfl) rfl rfl rfl ?_
    refine JL.val (v := .bool (decide ((strOfNums y4.1) = (⟨#[1, 2, 97, 98]⟩ : ByteArray)))) (QV.eqlS rfl rfl) rfl rfl rfl ?_
    refine JL.val (v := .bool (decide ((strOfNums y4.1) = (⟨#[1, 2, 97, 98]⟩ : ByteArray)))) (QV.pickT rfl rfl) rfl rfl rfl ?_
    refine JL.val (v := .bool (decide ((strOfNums y4.1) = (⟨#[1, 2, 97, 98]⟩ : ByteArray)))) (QV.assign rfl) rfl rfl rfl ?_
    refine JL.nil ?_
    refine QJ.then_normal ?_
    refine JC.ret ?_
    obtain rfl := Option.some.inj hm
    exact QJ.body (vs := [.bool (decide ((strOfNums y4.1) = (⟨#[1, 2, 97, 98]⟩ : ByteArray)))]) (.inl rfl) rfl (ResVs.cons (ResV.tmp rfl) ResVs.nil) [] rfl rfl (.inr trivial) ⟨rfl, rfl⟩
  ·
    refine JL.val (v := .bool false) (QV.eq (QV.move rfl) (congrArg Value.bool (decide_eq_false h7))) rfl rfl rfl ?_
    refine JL.skip (d := some 14) rfl rfl rfl ?_
    refine JL.skip (d := some 15) rfl rfl rfl ?_
    refine JL.skip (d := some 16) rfl rfl rfl ?_
    refine JL.val (v := .bool false) (QV.pickF rfl rfl) rfl rfl rfl ?_
    refine JL.val (v := .bool false) (QV.assign rfl) rfl rfl rfl ?_
    refine JL.nil ?_
    refine QJ.then_normal ?_
    refine JC.ret ?_
    obtain rfl := Option.some.inj hm
    exact QJ.body (vs := [.bool false]) (.inl rfl) rfl (ResVs.cons (ResV.tmp rfl) ResVs.nil) [] rfl rfl (.inr trivial) ⟨rfl, rfl⟩

/-! ### 42: drogher/plan.sum -/
noncomputable def F42.j1  (d5 : Int) : Option Int :=
  some d5
noncomputable def F42.b1 (x2 : List (Int × Int × Int × (List Int))) : (Int × Int) → Option ((Int × Int) ⊕ ((Int) ⊕ Int))
  | (d6, d7) => (if d7 < ((x2).length : Int) then (if 0 ≤ d7 ∧ d7 < ((x2).length : Int) then ((F23.m ((gd x2 d7).1) ((gd x2 d7).2.1) ((gd x2 d7).2.2.1) ((gd x2 d7).2.2.2)).bind fun y17 => (if y17 = true then some (.inl ((IntKind.wrap .i64 (d6 + (gd x2 d7).2.2.1)), (IntKind.wrap .i64 (d7 + (1 : Int))))) else some (.inr (.inl ((-1 : Int)))))) else none) else some (.inr (.inr (d6))))
noncomputable def F42.m (x2 : List (Int × Int × Int × (List Int))) : Option Int :=
  ((loop (F42.b1 x2) ((0 : Int), (0 : Int))).bind fun y => match y with | .inl r => some r | .inr d5 => F42.j1 (d5))
set_option maxRecDepth 100000 in
set_option maxHeartbeats 4000000 in
theorem F42.spec (s1 : SlV) (z3 : List (Unit × Unit × Unit × SlV)) (x2 : List (Int × Int × Int × (List Int))) (r : Int) (hm : F42.m x2 = some r) :
    Ctr Try.prog false 42 [s1.v] [Asr.vn (NE.pair (NE.flat (Enc.int .u8)) (NE.pair (NE.flat (Enc.int .i64)) (NE.pair (NE.flat (Enc.int .i64)) (NE.sl (Enc.int .u8))))) (s1.v) z3 x2] (fun v L' => v = .int .i64 r ∧ L' = []) := by
  refine Ctr.intro (n := 21) (env := [(0, s1.v)]) Try.func42 rfl rfl rfl rfl (fun c => ?_)
  unfold F42.m at hm
  refine JC.seq ?_
  refine JC.region ?_
  refine JL.val (v := .int .i64 (0 : Int)) (QV.assign rfl) rfl rfl rfl ?_
  refine JL.nil ?_
  refine QJ.then_normal ?_
  refine JC.seq ?_
  refine JC.region ?_
  refine JL.val (v := .int .i64 (0 : Int)) (QV.assign rfl) rfl rfl rfl ?_
  refine JL.nil ?_
  refine QJ.then_normal ?_
  refine JC.seq ?_
  refine JC.seq ?_
  refine JC.region ?_
  refine JL.val (v := s1.v) (QV.move rfl) rfl rfl rfl ?_
  refine JL.val (v := .int .i64 ((x2).length : Int)) (QV.lenN (RdN.vn 0 rfl) Try.underlying22 rfl) rfl rfl rfl ?_
  refine JL.val (v := .int .i64 (0 : Int)) (QV.move rfl) rfl rfl rfl ?_
  refine JL.nil ?_
  refine QJ.then_normal ?_
  refine JC.cutK (Y := Int × Unit) (fun y => match y with | (d5, _) => F42.j1 (d5) = some r) (fun y => match y with | (d5, _) => [(3, .int .i64 d5)]) (fun y => match y with | (d5, _) => []) ?_ ?_
  ·
    rintro ⟨d5, ⟨⟩⟩ hm
    unfold F42.j1 at hm
    show QJ _ _ [(3, .int .i64 d5)] [] _ _
    refine QJ.then_normal ?_
    refine JC.seq ?_
    refine JC.region ?_
    refine JL.val (v := .int .i64 d5) (QV.move rfl) rfl rfl rfl ?_
    refine JL.val (v := .int .i64 d5) (QV.assign rfl) rfl rfl rfl ?_
    refine JL.nil ?_
    refine QJ.then_normal ?_
    refine JC.ret ?_
    obtain rfl := Option.some.inj hm
    exact QJ.body (vs := [.int .i64 d5]) (.inl rfl) rfl (ResVs.cons (ResV.tmp rfl) ResVs.nil) [] rfl rfl (.inr trivial) ⟨rfl, rfl⟩
  ·
    refine JC.block ?_
    obtain ⟨y10, hl11, hmo12⟩ := bind_inv hm
    refine JC.loop (F42.b1 x2) (fun x z => match x, z with | (d6, d7), _ => [(3, .int .i64 d6), (6, s1.v), (7, .int .i64 ((x2).length : Int)), (8, .int .i64 d7)]) (fun x z => match x, z with | (d6, d7), _ => [Asr.vn (NE.pair (NE.flat (Enc.int .u8)) (NE.pair (NE.flat (Enc.int .i64)) (NE.pair (NE.flat (Enc.int .i64)) (NE.sl (Enc.int .u8))))) (s1.v) z3 x2]) ((0 : Int), (0 : Int)) () y10 hl11 [0] (by exact ⟨rfl, rfl, rfl, rfl, trivial⟩) rfl rfl ?_
    rintro ⟨d6, d7⟩ ⟨⟩ s13 hm
    unfold F42.b1 at hm
    dsimp only at hm
    show JC _ _ _ [(3, .int .i64 d6), (6, s1.v), (7, .int .i64 ((x2).length : Int)), (8, .int .i64 d7)] [Asr.vn (NE.pair (NE.flat (Enc.int .u8)) (NE.pair (NE.flat (Enc.int .i64)) (NE.pair (NE.flat (Enc.int .i64)) (NE.sl (Enc.int .u8))))) (s1.v) z3 x2] _ _
    refine JC.seq ?_
    refine JC.region ?_
    refine JL.val (v := .bool (decide (d7 < ((x2).length : Int)))) (QV.lss rfl rfl) rfl rfl rfl ?_
    refine JL.nil ?_
    refine QJ.then_normal ?_
    refine JC.seq ?_
    rcases ite_inv hm with ⟨h14, hm⟩ | ⟨h14, hm⟩
    ·
      refine JC.condT' rfl (decide_eq_true h14) ?_
      refine JC.skip ?_
      refine QJ.then_normal ?_
      refine JC.seq ?_
      refine JC.block ?_
      refine JC.seq ?_
      refine JC.region ?_
      obtain ⟨h15, hm⟩ := guard_inv hm
      refine JL.val (v := .pointer (some (elA (s1.v) (Int.toNat d7 * ((NE.pair (NE.flat (Enc.int .u8)) (NE.pair (NE.flat (Enc.int .i64)) (NE.pair (NE.flat (Enc.int .i64)) (NE.sl (Enc.int .u8))))).E).sz)))) (QV.indexN (RdN.vn 0 rfl) Try.underlying22 tk_35 rfl rfl h15) rfl rfl rfl ?_
      refine JL.val (v := .agg #[.int .u8 (gd x2 d7).1, .int .i64 (gd x2 d7).2.1, .int .i64 (gd x2 d7).2.2.1, (gd z3 d7).2.2.2.v]) (QV.eq (QV.elNN (RdN.vn 0 rfl) tk_35 rfl h15) rfl) rfl rfl rfl ?_
      refine JL.ent (fun _ hs => hs.nil 5 (Enc.int .u8)) ?_
      refine JL.mv (d := some 5) (MV.alloc [Seg.c (.int .u8 (0 : Int)), Seg.c (.int .i64 (0 : Int)), Seg.c (.int .i64 (0 : Int)), Seg.c (SlV.nil.v)] z_35 rfl) rfl rfl rfl ?_
      rintro _ _ ⟨b16, rfl, rfl⟩
      refine JL.ent (fun _ hs => hs.derive (Drv.el (K := (NE.pair (NE.flat (Enc.int .u8)) (NE.pair (NE.flat (Enc.int .i64)) (NE.pair (NE.flat (Enc.int .i64)) (NE.sl (Enc.int .u8)))))) (A := Asr.vw (Enc.int .u8) ((gd z3 d7).2.2.2.v) (gd x2 d7).2.2.2) (Drv.vn 2 rfl) h15 (fun _ _ q => q.2.2.2))) ?_
      refine JL.mv (d := none) (MV.store (ss := [Seg.c (.int .u8 (0 : Int)), Seg.c (.int .i64 (0 : Int)), Seg.c (.int .i64 (0 : Int)), Seg.c (SlV.nil.v)]) 1 0 4 [Seg.c (.int .u8 (gd x2 d7).1), Seg.c (.int .i64 (gd x2 d7).2.1), Seg.c (.int .i64 (gd x2 d7).2.2.1), Seg.c ((gd z3 d7).2.2.2.v)] rfl tk_35 rfl rfl rfl rfl (fun w hs => ⟨rfl, one_c rfl, one_c rfl, one_c rfl, one_sl (Rdg.vw 0 rfl) hs, trivial⟩)) rfl rfl rfl ?_
      rintro _ _ ⟨rfl, rfl⟩
      refine JL.nil ?_
      refine QJ.then_normal ?_
      refine JC.seq ?_
      refine JC.seq ?_
      refine JC.region ?_
      refine JL.val (v := .agg #[.int .u8 (gd x2 d7).1, .int .i64 (gd x2 d7).2.1, .int .i64 (gd x2 d7).2.2.1, (gd z3 d7).2.2.2.v]) (QV.eq (QV.loadN (ss := [Seg.c (.int .u8 (gd x2 d7).1), Seg.c (.int .i64 (gd x2 d7).2.1), Seg.c (.int .i64 (gd x2 d7).2.2.1), Seg.c ((gd z3 d7).2.2.2.v)]) 1 0 4 rfl tk_35 rfl rfl rfl rfl) rfl) rfl rfl rfl ?_
      obtain ⟨y17, hc18, hm⟩ := bind_inv hm
      refine JL.mv (d := some 13) (MV.call (Lo := []) (Lr := [Asr.vw (Enc.int .u8) ((gd z3 d7).2.2.2.v) (gd x2 d7).2.2.2, Asr.blk b16 35 [Seg.c (.int .u8 (gd x2 d7).1), Seg.c (.int .i64 (gd x2 d7).2.1), Seg.c (.int .i64 (gd x2 d7).2.2.1), Seg.c ((gd z3 d7).2.2.2.v)], Asr.of 5 (Enc.int .u8) (SlV.nil.v) ([] : List Int), Asr.vn (NE.pair (NE.flat (Enc.int .u8)) (NE.pair (NE.flat (Enc.int .i64)) (NE.pair (NE.flat (Enc.int .i64)) (NE.sl (Enc.int .u8))))) (s1.v) z3 x2]) (F23.spec ((gd z3 d7).2.2.2) ((gd x2 d7).1) ((gd x2 d7).2.1) ((gd x2 d7).2.2.1) ((gd x2 d7).2.2.2) _ hc18) rfl Try.func23 rfl rfl rfl [] [0, 1, 2, 3] rfl rfl rfl ⟨(Drv.vw 0 rfl), trivial⟩) rfl rfl rfl ?_
      rintro _ _ ⟨_, ⟨rfl, rfl⟩, rfl⟩
      refine JL.val (v := .bool (!y17)) (QV.not rfl) rfl rfl rfl ?_
      refine JL.nil ?_
      refine QJ.then_normal ?_
      rcases ite_inv hm with ⟨h19, hm⟩ | ⟨h19, hm⟩
      ·
        refine JC.condF' rfl (congrArg Bool.not h19) ?_
        refine JC.skip ?_
        refine QJ.then_normal ?_
        refine JC.region ?_
        refine JL.val (v := .int .i64 d6) (QV.move rfl) rfl rfl rfl ?_
        refine JL.val (v := .pointer (some ⟨b16, 2, none⟩)) (QV.fieldB fo_35_2 rfl rfl) rfl rfl rfl ?_
        refine JL.val (v := .int .i64 (gd x2 d7).2.2.1) (QV.load1 (ss := [Seg.c (.int .u8 (gd x2 d7).1), Seg.c (.int .i64 (gd x2 d7).2.1), Seg.c (.int .i64 (gd x2 d7).2.2.1), Seg.c ((gd z3 d7).2.2.2.v)]) 1 2 rfl tk_3 rfl rfl rfl) rfl rfl rfl ?_
        refine JL.val (v := .int .i64 (IntKind.wrap .i64 (d6 + (gd x2 d7).2.2.1))) (QV.add rfl rfl) rfl rfl rfl ?_
        refine JL.val (v := .int .i64 (IntKind.wrap .i64 (d6 + (gd x2 d7).2.2.1))) (QV.assign rfl) rfl rfl rfl ?_
        refine JL.nil ?_
        refine QJ.block_normal ?_
        refine QJ.then_normal ?_
        refine JC.region ?_
        refine JL.val (v := .int .i64 (IntKind.wrap .i64 (d7 + (1 : Int)))) (QV.add rfl rfl) rfl rfl rfl ?_
        refine JL.val (v := .int .i64 (IntKind.wrap .i64 (d7 + (1 : Int)))) (QV.move rfl) rfl rfl rfl ?_
        refine JL.nil ?_
        obtain rfl := Option.some.inj hm
        exact QJ.round_on ((IntKind.wrap .i64 (d6 + (gd x2 d7).2.2.1)), (IntKind.wrap .i64 (d7 + (1 : Int)))) () [3] (by exact ⟨rfl, rfl, rfl, rfl, trivial⟩) rfl rfl
      ·
        refine JC.condT' rfl (congrArg Bool.not (bfalse h19)) ?_
        refine JC.seq ?_
        refine JC.region ?_
        refine JL.val (v := .int .i64 (-1 : Int)) (QV.assign rfl) rfl rfl rfl ?_
        refine JL.nil ?_
        refine QJ.then_normal ?_
        refine JC.ret ?_
        refine QJ.then_ret ?_
        refine QJ.block_ret ?_
        refine QJ.then_ret ?_
        obtain rfl := Option.some.inj hm
        refine QJ.round_ret (fun hy => ?_)
        subst hy
        refine QJ.block_ret ?_
        refine QJ.cut_ret ?_
        refine QJ.then_ret ?_
        obtain rfl := Option.some.inj hmo12
        exact QJ.body (vs := [.int .i64 (-1 : Int)]) (.inl rfl) rfl (ResVs.cons (ResV.tmp rfl) ResVs.nil) [] rfl rfl (.inr trivial) ⟨rfl, rfl⟩
    ·
      refine JC.condF' rfl (decide_eq_false h14) ?_
      refine JC.exit ?_
      refine QJ.then_exit ?_
      obtain rfl := Option.some.inj hm
      refine QJ.round_exit (fun hy => ?_)
      subst hy
      refine QJ.block_hit ?_
      exact QJ.cut_normal (d6, ()) hmo12 [] (by exact ⟨rfl, trivial⟩) rfl rfl

/-! ### 44: slices.Clone[drogher/plan.Bytes,byte] -/
noncomputable def F44.m (x2 : List Int) : Option (List Int) :=
  if (([] : List Int).length + x2.length) * 1 ≤ 140737488355328 ∧ ([] : List Int).length + x2.length ≤ 9223372036854775807 then some x2 else none
set_option maxRecDepth 100000 in
set_option maxHeartbeats 4000000 in
theorem F44.spec (s1 : SlV) (x2 : List Int) (r : List Int) (hm : F44.m x2 = some r) :
    Ctr Try.prog false 44 [s1.v] [Asr.vw (Enc.int .u8) (s1.v) x2] (fun v L' => ∃ (g1 : SlV), v = g1.v ∧ L' = [Asr.of 5 (Enc.int .u8) (g1.v) r]) := by
  refine Ctr.intro (n := 8) (env := [(0, s1.v)]) Try.func44 rfl rfl rfl rfl (fun c => ?_)
  unfold F44.m at hm
  obtain ⟨h4, hm⟩ := guard_inv hm
  obtain rfl := Option.some.inj hm
  refine JC.seq ?_
  refine JC.region ?_
  refine JL.ent (fun _ hs => hs.nil 5 (Enc.int .u8)) ?_
  refine JL.val (v := SlV.nil.v) (QV.assign rfl) rfl rfl rfl ?_
  refine JL.nil ?_
  refine QJ.then_normal ?_
  refine JC.seq ?_
  refine JC.seq ?_
  refine JC.region ?_
  refine JL.val (v := s1.v) (QV.move rfl) rfl rfl rfl ?_
  refine JL.val (v := .bool (decide (s1.a = none))) (QV.eqlNil Try.underlying29 rfl rfl) rfl rfl rfl ?_
  refine JL.nil ?_
  refine QJ.then_normal ?_
  refine JC.cond (decide (s1.a = none)) rfl (fun hb => ?_) (fun hb => ?_)
  · refine JC.fact ((Rdg.vw 1 rfl : Rdg c _ (Enc.int .u8) s1.v x2).none_nil (of_decide_eq_true hb)) (fun hx => ?_)
    subst hx
    refine JC.seq ?_
    refine JC.region ?_
    refine JL.ent (fun _ hs => hs.nil 5 (Enc.int .u8)) ?_
    refine JL.val (v := SlV.nil.v) (QV.assign rfl) rfl rfl rfl ?_
    refine JL.nil ?_
    refine QJ.then_normal ?_
    refine JC.ret ?_
    refine QJ.then_ret ?_
    exact QJ.body (vs := [SlV.nil.v]) (.inl rfl) rfl (ResVs.cons (ResV.tmp rfl) ResVs.nil) [0] rfl rfl (.inr ⟨own_of _ _ _ _, trivial⟩) ⟨SlV.nil, rfl, rfl⟩
  · refine JC.skip ?_
    refine QJ.then_normal ?_
    refine JC.seq ?_
    refine JC.region ?_
    refine JL.mv (d := some 5) (MV.lit0 (Enc.int .u8) Try.underlying29 (by kernel_rfl)) rfl rfl rfl ?_
    rintro _ _ ⟨z8, rfl, rfl⟩
    refine JL.val (v := s1.v) (QV.move rfl) rfl rfl rfl ?_
    refine JL.mv (d := some 7) (MV.append 0 rfl (Rdg.vw 2 rfl) Try.underlying29 zi_5 rfl (by decide) rfl rfl h4) rfl rfl rfl ?_
    rintro _ _ ⟨z9, rfl, rfl⟩
    refine JL.val (v := z9.v) (QV.assign rfl) rfl rfl rfl ?_
    refine JL.nil ?_
    refine QJ.then_normal ?_
    refine JC.ret ?_
    exact QJ.body (vs := [z9.v]) (.inl rfl) rfl (ResVs.cons (ResV.tmp rfl) ResVs.nil) [0] rfl rfl (.inr ⟨own_of _ _ _ _, trivial⟩) ⟨z9, rfl, rfl⟩

/-! ### 18: (drogher/plan.Bytes).Range -/
noncomputable def F18.m (x2 : List Int) (x3 : Int) (x4 : Int) : Option (List Int × Int) :=
  (if x3 < (0 : Int) then some (([] : List Int), (5 : Int)) else (if x4 < (0 : Int) then some (([] : List Int), (5 : Int)) else (if ((x2).length : Int) < x3 then some (([] : List Int), (5 : Int)) else (if (IntKind.wrap .i64 (((x2).length : Int) - x3)) < x4 then some (([] : List Int), (5 : Int)) else (if 0 ≤ x3 ∧ x3 ≤ (IntKind.wrap .i64 (x3 + x4)) ∧ (IntKind.wrap .i64 (x3 + x4)) ≤ ((x2).length : Int) then ((F44.m ((subL x2 x3 (IntKind.wrap .i64 (x3 + x4))))).bind fun y13 => some (y13, (0 : Int))) else none)))))
set_option maxRecDepth 100000 in
set_option maxHeartbeats 4000000 in
theorem F18.spec (s1 : SlV) (x2 : List Int) (x3 : Int) (x4 : Int) (r : (List Int × Int)) (hm : F18.m x2 x3 x4 = some r) :
    Ctr Try.prog false 18 [s1.v, .int .i64 x3, .int .i64 x4] [Asr.vw (Enc.int .u8) (s1.v) x2] (fun v L' => ∃ (g5 : SlV), v = .tuple #[g5.v, .int .i64 r.2] ∧ L' = [Asr.of 5 (Enc.int .u8) (g5.v) r.1]) := by
  refine Ctr.intro (n := 35) (env := [(0, s1.v), (1, .int .i64 x3), (2, .int .i64 x4)]) Try.func18 rfl rfl rfl rfl (fun c => ?_)
  unfold F18.m at hm
  refine JC.seq ?_
  refine JC.region ?_
  refine JL.ent (fun _ hs => hs.nil 5 (Enc.int .u8)) ?_
  refine JL.val (v := SlV.nil.v) (QV.assign rfl) rfl rfl rfl ?_
  refine JL.val (v := .int .i64 (0 : Int)) (QV.assign rfl) rfl rfl rfl ?_
  refine JL.nil ?_
  refine QJ.then_normal ?_
  refine JC.seq ?_
  refine JC.seq ?_
  refine JC.region ?_
  refine JL.val (v := .int .i64 x3) (QV.move rfl) rfl rfl rfl ?_
  refine JL.val (v := .bool (decide (x3 < (0 : Int)))) (QV.lss rfl rfl) rfl rfl rfl ?_
  rcases ite_inv hm with ⟨h8, hm⟩ | ⟨h8, hm⟩
  ·
    refine JL.val (v := .bool true) (QV.eq (QV.move rfl) (congrArg Value.bool (decide_eq_true h8))) rfl rfl rfl ?_
    refine JL.skip (d := some 11) rfl rfl rfl ?_
    refine JL.skip (d := some 12) rfl rfl rfl ?_
    refine JL.val (v := .bool true) (QV.pickT rfl rfl) rfl rfl rfl ?_
    refine JL.val (v := .bool true) (QV.move rfl) rfl rfl rfl ?_
    refine JL.skip (d := some 15) rfl rfl rfl ?_
    refine JL.skip (d := some 16) rfl rfl rfl ?_
    refine JL.skip (d := some 17) rfl rfl rfl ?_
    refine JL.skip (d := some 18) rfl rfl rfl ?_
    refine JL.val (v := .bool true) (QV.pickT rfl rfl) rfl rfl rfl ?_
    refine JL.val (v := .bool true) (QV.move rfl) rfl rfl rfl ?_
    refine JL.skip (d := some 21) rfl rfl rfl ?_
    refine JL.skip (d := some 22) rfl rfl rfl ?_
    refine JL.skip (d := some 23) rfl rfl rfl ?_
    refine JL.skip (d := some 24) rfl rfl rfl ?_
    refine JL.skip (d := some 25) rfl rfl rfl ?_
    refine JL.skip (d := some 26) rfl rfl rfl ?_
    refine JL.val (v := .bool true) (QV.pickT rfl rfl) rfl rfl rfl ?_
    refine JL.nil ?_
    refine QJ.then_normal ?_
    refine JC.condT rfl ?_
    refine JC.seq ?_
    refine JC.region ?_
    refine JL.ent (fun _ hs => hs.nil 5 (Enc.int .u8)) ?_
    refine JL.val (v := SlV.nil.v) (QV.assign rfl) rfl rfl rfl ?_
    refine JL.val (v := .int .i64 (5 : Int)) (QV.assign rfl) rfl rfl rfl ?_
    refine JL.nil ?_
    refine QJ.then_normal ?_
    refine JC.ret ?_
    refine QJ.then_ret ?_
    obtain rfl := Option.some.inj hm
    exact QJ.body (vs := [SlV.nil.v, .int .i64 (5 : Int)]) (.inl rfl) rfl (ResVs.cons (ResV.tmp rfl) (ResVs.cons (ResV.tmp rfl) ResVs.nil)) [0] rfl rfl (.inr ⟨own_of _ _ _ _, trivial⟩) ⟨(SlV.nil), rfl, rfl⟩
  ·
    refine JL.val (v := .bool false) (QV.eq (QV.move rfl) (congrArg Value.bool (decide_eq_false h8))) rfl rfl rfl ?_
    refine JL.val (v := .int .i64 x4) (QV.move rfl) rfl rfl rfl ?_
    refine JL.val (v := .bool (decide (x4 < (0 : Int)))) (QV.lss rfl rfl) rfl rfl rfl ?_
    refine JL.val (v := .bool (decide (x4 < (0 : Int)))) (QV.pickF rfl rfl) rfl rfl rfl ?_
    rcases ite_inv hm with ⟨h9, hm⟩ | ⟨h9, hm⟩
    ·
      refine JL.val (v := .bool true) (QV.eq (QV.move rfl) (congrArg Value.bool (decide_eq_true h9))) rfl rfl rfl ?_
      refine JL.skip (d := some 15) rfl rfl rfl ?_
      refine JL.skip (d := some 16) rfl rfl rfl ?_
      refine JL.skip (d := some 17) rfl rfl rfl ?_
      refine JL.skip (d := some 18) rfl rfl rfl ?_
      refine JL.val (v := .bool true) (QV.pickT rfl rfl) rfl rfl rfl ?_
      refine JL.val (v := .bool true) (QV.move rfl) rfl rfl rfl ?_
      refine JL.skip (d := some 21) rfl rfl rfl ?_
      refine JL.skip (d := some 22) rfl rfl rfl ?_
      refine JL.skip (d := some 23) rfl rfl rfl ?_
      refine JL.skip (d := some 24) rfl rfl rfl ?_
      refine JL.skip (d := some 25) rfl rfl rfl ?_
      refine JL.skip (d := some 26) rfl rfl rfl ?_
      refine JL.val (v := .bool true) (QV.pickT rfl rfl) rfl rfl rfl ?_
      refine JL.nil ?_
      refine QJ.then_normal ?_
      refine JC.condT rfl ?_
      refine JC.seq ?_
      refine JC.region ?_
      refine JL.ent (fun _ hs => hs.nil 5 (Enc.int .u8)) ?_
      refine JL.val (v := SlV.nil.v) (QV.assign rfl) rfl rfl rfl ?_
      refine JL.val (v := .int .i64 (5 : Int)) (QV.assign rfl) rfl rfl rfl ?_
      refine JL.nil ?_
      refine QJ.then_normal ?_
      refine JC.ret ?_
      refine QJ.then_ret ?_
      obtain rfl := Option.some.inj hm
      exact QJ.body (vs := [SlV.nil.v, .int .i64 (5 : Int)]) (.inl rfl) rfl (ResVs.cons (ResV.tmp rfl) (ResVs.cons (ResV.tmp rfl) ResVs.nil)) [0] rfl rfl (.inr ⟨own_of _ _ _ _, trivial⟩) ⟨(SlV.nil), rfl, rfl⟩
    ·
      refine JL.val (v := .bool false) (QV.eq (QV.move rfl) (congrArg Value.bool (decide_eq_false h9))) rfl rfl rfl ?_
      refine JL.val (v := .int .i64 x3) (QV.move rfl) rfl rfl rfl ?_
      refine JL.val (v := s1.v) (QV.move rfl) rfl rfl rfl ?_
      refine JL.val (v := .int .i64 ((x2).length : Int)) (QV.len (Rdg.vw 1 rfl) Try.underlying29 rfl) rfl rfl rfl ?_
      refine JL.val (v := .bool (decide (((x2).length : Int) < x3))) (QV.gtr rfl rfl) rfl rfl rfl ?_
      refine JL.val (v := .bool (decide (((x2).length : Int) < x3))) (QV.pickF rfl rfl) rfl rfl rfl ?_
      rcases ite_inv hm with ⟨h10, hm⟩ | ⟨h10, hm⟩
      ·
        refine JL.val (v := .bool true) (QV.eq (QV.move rfl) (congrArg Value.bool (decide_eq_true h10))) rfl rfl rfl ?_
        refine JL.skip (d := some 21) rfl rfl rfl ?_
        refine JL.skip (d := some 22) rfl rfl rfl ?_
        refine JL.skip (d := some 23) rfl rfl rfl ?_
        refine JL.skip (d := some 24) rfl rfl rfl ?_
        refine JL.skip (d := some 25) rfl rfl rfl ?_
        refine JL.skip (d := some 26) rfl rfl rfl ?_
        refine JL.val (v := .bool true) (QV.pickT rfl rfl) rfl rfl rfl ?_
        refine JL.nil ?_
        refine QJ.then_normal ?_
        refine JC.condT rfl ?_
        refine JC.seq ?_
        refine JC.region ?_
        refine JL.ent (fun _ hs => hs.nil 5 (Enc.int .u8)) ?_
        refine JL.val (v := SlV.nil.v) (QV.assign rfl) rfl rfl rfl ?_
        refine JL.val (v := .int .i64 (5 : Int)) (QV.assign rfl) rfl rfl rfl ?_
        refine JL.nil ?_
        refine QJ.then_normal ?_
        refine JC.ret ?_
        refine QJ.then_ret ?_
        obtain rfl := Option.some.inj hm
        exact QJ.body (vs := [SlV.nil.v, .int .i64 (5 : Int)]) (.inl rfl) rfl (ResVs.cons (ResV.tmp rfl) (ResVs.cons (ResV.tmp rfl) ResVs.nil)) [0] rfl rfl (.inr ⟨own_of _ _ _ _, trivial⟩) ⟨(SlV.nil), rfl, rfl⟩
      ·
        refine JL.val (v := .bool false) (QV.eq (QV.move rfl) (congrArg Value.bool (decide_eq_false h10))) rfl rfl rfl ?_
        refine JL.val (v := .int .i64 x4) (QV.move rfl) rfl rfl rfl ?_
        refine JL.val (v := s1.v) (QV.move rfl) rfl rfl rfl ?_
        refine JL.val (v := .int .i64 ((x2).length : Int)) (QV.len (Rdg.vw 1 rfl) Try.underlying29 rfl) rfl rfl rfl ?_
        refine JL.val (v := .int .i64 x3) (QV.move rfl) rfl rfl rfl ?_
        refine JL.val (v := .int .i64 (IntKind.wrap .i64 (((x2).length : Int) - x3))) (QV.sub rfl rfl) rfl rfl rfl ?_
        refine JL.val (v := .bool (decide ((IntKind.wrap .i64 (((x2).length : Int) - x3)) < x4))) (QV.gtr rfl rfl) rfl rfl rfl ?_
        refine JL.val (v := .bool (decide ((IntKind.wrap .i64 (((x2).length : Int) - x3)) < x4))) (QV.pickF rfl rfl) rfl rfl rfl ?_
        refine JL.nil ?_
        refine QJ.then_normal ?_
        rcases ite_inv hm with ⟨h11, hm⟩ | ⟨h11, hm⟩
        ·
          refine JC.condT' rfl (decide_eq_true h11) ?_
          refine JC.seq ?_
          refine JC.region ?_
          refine JL.ent (fun _ hs => hs.nil 5 (Enc.int .u8)) ?_
          refine JL.val (v := SlV.nil.v) (QV.assign rfl) rfl rfl rfl ?_
          refine JL.val (v := .int .i64 (5 : Int)) (QV.assign rfl) rfl rfl rfl ?_
          refine JL.nil ?_
          refine QJ.then_normal ?_
          refine JC.ret ?_
          refine QJ.then_ret ?_
          obtain rfl := Option.some.inj hm
          exact QJ.body (vs := [SlV.nil.v, .int .i64 (5 : Int)]) (.inl rfl) rfl (ResVs.cons (ResV.tmp rfl) (ResVs.cons (ResV.tmp rfl) ResVs.nil)) [0] rfl rfl (.inr ⟨own_of _ _ _ _, trivial⟩) ⟨(SlV.nil), rfl, rfl⟩
        ·
          refine JC.condF' rfl (decide_eq_false h11) ?_
          refine JC.skip ?_
          refine QJ.then_normal ?_
          refine JC.seq ?_
          refine JC.region ?_
          refine JL.val (v := s1.v) (QV.move rfl) rfl rfl rfl ?_
          refine JL.val (v := .int .i64 x3) (QV.move rfl) rfl rfl rfl ?_
          refine JL.val (v := .int .i64 x3) (QV.move rfl) rfl rfl rfl ?_
          refine JL.val (v := .int .i64 x4) (QV.move rfl) rfl rfl rfl ?_
          refine JL.val (v := .int .i64 (IntKind.wrap .i64 (x3 + x4))) (QV.add rfl rfl) rfl rfl rfl ?_
          obtain ⟨h12, hm⟩ := guard_inv hm
          refine JL.val (v := (SlV.sub ((Enc.int .u8)).sz s1 x3 (IntKind.wrap .i64 (x3 + x4))).v) (QV.sliceV (Rdg.vw 1 rfl) Try.underlying29 tk_5 rfl rfl rfl h12) rfl rfl rfl ?_
          obtain ⟨y13, hc14, hm⟩ := bind_inv hm
          refine JL.mv (d := some 34) (MV.call (Lo := []) (Lr := [Asr.of 5 (Enc.int .u8) (SlV.nil.v) ([] : List Int), Asr.vw (Enc.int .u8) (s1.v) x2]) (F44.spec ((SlV.sub ((Enc.int .u8)).sz s1 x3 (IntKind.wrap .i64 (x3 + x4)))) ((subL x2 x3 (IntKind.wrap .i64 (x3 + x4)))) _ hc14) rfl Try.func44 rfl rfl rfl [] [0, 1] rfl rfl rfl ⟨((Drv.vw 1 rfl).subV h12), trivial⟩) rfl rfl rfl ?_
          rintro _ _ ⟨_, ⟨z15, rfl, rfl⟩, rfl⟩
          refine JL.val (v := z15.v) (QV.assign rfl) rfl rfl rfl ?_
          refine JL.val (v := .int .i64 (0 : Int)) (QV.assign rfl) rfl rfl rfl ?_
          refine JL.nil ?_
          refine QJ.then_normal ?_
          refine JC.ret ?_
          obtain rfl := Option.some.inj hm
          exact QJ.body (vs := [z15.v, .int .i64 (0 : Int)]) (.inl rfl) rfl (ResVs.cons (ResV.tmp rfl) (ResVs.cons (ResV.tmp rfl) ResVs.nil)) [0] rfl rfl (.inr ⟨own_of _ _ _ _, trivial⟩) ⟨z15, rfl, rfl⟩

/-! ### 24: drogher/drogherref16.Right -/
noncomputable def F24.m (x1 : Int) (x2 : Int) (x3 : Int) (x5 : List Int) : Option Bool :=
  (if x3 < (1 : Int) then some false else (if (4096 : Int) < x3 then some false else (if x1 = (1 : Int) then (if x2 = (0 : Int) then some (decide (((x5).length : Int) = x3)) else some false) else (if x2 < (0 : Int) then some false else (if (2147483647 : Int) < x2 then some false else (if x1 = (2 : Int) then (if ((x5).length : Int) = (0 : Int) then some true else (if x1 = (3 : Int) then some (decide (((x5).length : Int) = x3)) else some false)) else (if x1 = (3 : Int) then some (decide (((x5).length : Int) = x3)) else some false)))))))
set_option maxRecDepth 100000 in
set_option maxHeartbeats 4000000 in
theorem F24.spec (s4 : SlV) (x1 : Int) (x2 : Int) (x3 : Int) (x5 : List Int) (r : Bool) (hm : F24.m x1 x2 x3 x5 = some r) :
    Ctr Try.prog false 24 [.agg #[.int .u8 x1, .int .i64 x2, .int .i64 x3, s4.v]] [Asr.vw (Enc.int .u8) (s4.v) x5] (fun v L' => v = .bool r ∧ L' = []) := by
  refine Ctr.intro (n := 55) (env := [(0, .agg #[.int .u8 x1, .int .i64 x2, .int .i64 x3, s4.v])]) Try.func24 rfl rfl rfl rfl (fun c => ?_)
  unfold F24.m at hm
  refine JC.seq ?_
  refine JC.region ?_
  refine JL.mv (d := some 1) (MV.box [Seg.c (.int .u8 x1), Seg.c (.int .i64 x2), Seg.c (.int .i64 x3), Seg.c (s4.v)] rfl (fun w hs => rfl)) rfl rfl rfl ?_
  rintro _ _ ⟨b7, rfl, rfl⟩
  refine JL.val (v := .bool false) (QV.assign rfl) rfl rfl rfl ?_
  refine JL.nil ?_
  refine QJ.then_normal ?_
  refine JC.seq ?_
  refine JC.seq ?_
  refine JC.region ?_
  refine JL.val (v := .pointer (some ⟨b7, 2, none⟩)) (QV.fieldB fo_35_2 rfl rfl) rfl rfl rfl ?_
  refine JL.val (v := .int .i64 x3) (QV.load1 (ss := [Seg.c (.int .u8 x1), Seg.c (.int .i64 x2), Seg.c (.int .i64 x3), Seg.c (s4.v)]) 0 2 rfl tk_3 rfl rfl rfl) rfl rfl rfl ?_
  refine JL.val (v := .bool (decide (x3 < (1 : Int)))) (QV.lss rfl rfl) rfl rfl rfl ?_
  rcases ite_inv hm with ⟨h8, hm⟩ | ⟨h8, hm⟩
  ·
    refine JL.val (v := .bool true) (QV.eq (QV.move rfl) (congrArg Value.bool (decide_eq_true h8))) rfl rfl rfl ?_
    refine JL.skip (d := some 7) rfl rfl rfl ?_
    refine JL.skip (d := some 8) rfl rfl rfl ?_
    refine JL.skip (d := some 9) rfl rfl rfl ?_
    refine JL.val (v := .bool true) (QV.pickT rfl rfl) rfl rfl rfl ?_
    refine JL.nil ?_
    refine QJ.then_normal ?_
    refine JC.condT rfl ?_
    refine JC.seq ?_
    refine JC.region ?_
    refine JL.val (v := .bool false) (QV.assign rfl) rfl rfl rfl ?_
    refine JL.nil ?_
    refine QJ.then_normal ?_
    refine JC.ret ?_
    refine QJ.then_ret ?_
    obtain rfl := Option.some.inj hm
    exact QJ.body (vs := [.bool false]) (.inl rfl) rfl (ResVs.cons (ResV.tmp rfl) ResVs.nil) [] rfl rfl (.inr trivial) ⟨rfl, rfl⟩
  ·
    refine JL.val (v := .bool false) (QV.eq (QV.move rfl) (congrArg Value.bool (decide_eq_false h8))) rfl rfl rfl ?_
    refine JL.val (v := .pointer (some ⟨b7, 2, none⟩)) (QV.fieldB fo_35_2 rfl rfl) rfl rfl rfl ?_
    refine JL.val (v := .int .i64 x3) (QV.load1 (ss := [Seg.c (.int .u8 x1), Seg.c (.int .i64 x2), Seg.c (.int .i64 x3), Seg.c (s4.v)]) 0 2 rfl tk_3 rfl rfl rfl) rfl rfl rfl ?_
    refine JL.val (v := .bool (decide ((4096 : Int) < x3))) (QV.gtr rfl rfl) rfl rfl rfl ?_
    refine JL.val (v := .bool (decide ((4096 : Int) < x3))) (QV.pickF rfl rfl) rfl rfl rfl ?_
    refine JL.nil ?_
    refine QJ.then_normal ?_
    rcases ite_inv hm with ⟨h9, hm⟩ | ⟨h9, hm⟩
    ·
      refine JC.condT' rfl (decide_eq_true h9) ?_
      refine JC.seq ?_
      refine JC.region ?_
      refine JL.val (v := .bool false) (QV.assign rfl) rfl rfl rfl ?_
      refine JL.nil ?_
      refine QJ.then_normal ?_
      refine JC.ret ?_
      refine QJ.then_ret ?_
      obtain rfl := Option.some.inj hm
      exact QJ.body (vs := [.bool false]) (.inl rfl) rfl (ResVs.cons (ResV.tmp rfl) ResVs.nil) [] rfl rfl (.inr trivial) ⟨rfl, rfl⟩
    ·
      refine JC.condF' rfl (decide_eq_false h9) ?_
      refine JC.skip ?_
      refine QJ.then_normal ?_
      refine JC.seq ?_
      refine JC.seq ?_
      refine JC.region ?_
      refine JL.val (v := .pointer (some ⟨b7, 0, none⟩)) (QV.fieldB fo_35_0 rfl rfl) rfl rfl rfl ?_
      refine JL.val (v := .int .u8 x1) (QV.load1 (ss := [Seg.c (.int .u8 x1), Seg.c (.int .i64 x2), Seg.c (.int .i64 x3), Seg.c (s4.v)]) 0 0 rfl tk_5 rfl rfl rfl) rfl rfl rfl ?_
      refine JL.val (v := .bool (decide (x1 = (1 : Int)))) (QV.eql rfl rfl) rfl rfl rfl ?_
      refine JL.nil ?_
      refine QJ.then_normal ?_
      rcases ite_inv hm with ⟨h10, hm⟩ | ⟨h10, hm⟩
      ·
        refine JC.condT' rfl (decide_eq_true h10) ?_
        refine JC.seq ?_
        refine JC.region ?_
        refine JL.val (v := .pointer (some ⟨b7, 1, none⟩)) (QV.fieldB fo_35_1 rfl rfl) rfl rfl rfl ?_
        refine JL.val (v := .int .i64 x2) (QV.load1 (ss := [Seg.c (.int .u8 x1), Seg.c (.int .i64 x2), Seg.c (.int .i64 x3), Seg.c (s4.v)]) 0 1 rfl tk_3 rfl rfl rfl) rfl rfl rfl ?_
        refine JL.val (v := .bool (decide (x2 = (0 : Int)))) (QV.eql rfl rfl) rfl rfl rfl ?_
        rcases ite_inv hm with ⟨h11, hm⟩ | ⟨h11, hm⟩
        ·
          refine JL.val (v := .bool true) (QV.eq (QV.move rfl) (congrArg Value.bool (decide_eq_true h11))) rfl rfl rfl ?_
          refine JL.val (v := .pointer (some ⟨b7, 3, none⟩)) (QV.fieldB fo_35_3 rfl rfl) rfl rfl rfl ?_
          refine JL.val (v := s4.v) (QV.load1 (ss := [Seg.c (.int .u8 x1), Seg.c (.int .i64 x2), Seg.c (.int .i64 x3), Seg.c (s4.v)]) 0 3 rfl tk_23 rfl rfl rfl) rfl rfl rfl ?_
          refine JL.val (v := .int .i64 ((x5).length : Int)) (QV.len (Rdg.vw 1 rfl) Try.underlying23 rfl) rfl rfl rfl ?_
          refine JL.val (v := .pointer (some ⟨b7, 2, none⟩)) (QV.fieldB fo_35_2 rfl rfl) rfl rfl rfl ?_
          refine JL.val (v := .int .i64 x3) (QV.load1 (ss := [Seg.c (.int .u8 x1), Seg.c (.int .i64 x2), Seg.c (.int .i64 x3), Seg.c (s4.v)]) 0 2 rfl tk_3 rfl rfl rfl) rfl rfl rfl ?_
          refine JL.val (v := .bool (decide (((x5).length : Int) = x3))) (QV.eql rfl rfl) rfl rfl rfl ?_
          refine JL.val (v := .bool (decide (((x5).length : Int) = x3))) (QV.pickT rfl rfl) rfl rfl rfl ?_
          refine JL.val (v := .bool (decide (((x5).length : Int) = x3))) (QV.assign rfl) rfl rfl rfl ?_
          refine JL.nil ?_
          refine QJ.then_normal ?_
          refine JC.ret ?_
          refine QJ.then_ret ?_
          obtain rfl := Option.some.inj hm
          exact QJ.body (vs := [.bool (decide (((x5).length : Int) = x3))]) (.inl rfl) rfl (ResVs.cons (ResV.tmp rfl) ResVs.nil) [] rfl rfl (.inr trivial) ⟨rfl, rfl⟩
        ·
          refine JL.val (v := .bool false) (QV.eq (QV.move rfl) (congrArg Value.bool (decide_eq_false h11))) rfl rfl rfl ?_
          refine JL.skip (d := some 18) rfl rfl rfl ?_
          refine JL.skip (d := some 19) rfl rfl rfl ?_
          refine JL.skip (d := some 20) rfl rfl rfl ?_
          refine JL.skip (d := some 21) rfl rfl rfl ?_
          refine JL.skip (d := some 22) rfl rfl rfl ?_
          refine JL.skip (d := some 23) rfl rfl rfl ?_
          refine JL.val (v := .bool false) (QV.pickF rfl rfl) rfl rfl rfl ?_
          refine JL.val (v := .bool false) (QV.assign rfl) rfl rfl rfl ?_
          refine JL.nil ?_
          refine QJ.then_normal ?_
          refine JC.ret ?_
          refine QJ.then_ret ?_
          obtain rfl := Option.some.inj hm
          exact QJ.body (vs := [.bool false]) (.inl rfl) rfl (ResVs.cons (ResV.tmp rfl) ResVs.nil) [] rfl rfl (.inr trivial) ⟨rfl, rfl⟩
      ·
        refine JC.condF' rfl (decide_eq_false h10) ?_
        refine JC.skip ?_
        refine QJ.then_normal ?_
        refine JC.seq ?_
        refine JC.seq ?_
        refine JC.region ?_
        refine JL.val (v := .pointer (some ⟨b7, 1, none⟩)) (QV.fieldB fo_35_1 rfl rfl) rfl rfl rfl ?_
        refine JL.val (v := .int .i64 x2) (QV.load1 (ss := [Seg.c (.int .u8 x1), Seg.c (.int .i64 x2), Seg.c (.int .i64 x3), Seg.c (s4.v)]) 0 1 rfl tk_3 rfl rfl rfl) rfl rfl rfl ?_
        refine JL.val (v := .bool (decide (x2 < (0 : Int)))) (QV.lss rfl rfl) rfl rfl rfl ?_
        rcases ite_inv hm with ⟨h12, hm⟩ | ⟨h12, hm⟩
        ·
          refine JL.val (v := .bool true) (QV.eq (QV.move rfl) (congrArg Value.bool (decide_eq_true h12))) rfl rfl rfl ?_
          refine JL.skip (d := some 29) rfl rfl rfl ?_
          refine JL.skip (d := some 30) rfl rfl rfl ?_
          refine JL.skip (d := some 31) rfl rfl rfl ?_
          refine JL.val (v := .bool true) (QV.pickT rfl rfl) rfl rfl rfl ?_
          refine JL.nil ?_
          refine QJ.then_normal ?_
          refine JC.condT rfl ?_
          refine JC.seq ?_
          refine JC.region ?_
          refine JL.val (v := .bool false) (QV.assign rfl) rfl rfl rfl ?_
          refine JL.nil ?_
          refine QJ.then_normal ?_
          refine JC.ret ?_
          refine QJ.then_ret ?_
          obtain rfl := Option.some.inj hm
          exact QJ.body (vs := [.bool false]) (.inl rfl) rfl (ResVs.cons (ResV.tmp rfl) ResVs.nil) [] rfl rfl (.inr trivial) ⟨rfl, rfl⟩
        ·
          refine JL.val (v := .bool false) (QV.eq (QV.move rfl) (congrArg Value.bool (decide_eq_false h12))) rfl rfl rfl ?_
          refine JL.val (v := .pointer (some ⟨b7, 1, none⟩)) (QV.fieldB fo_35_1 rfl rfl) rfl rfl rfl ?_
          refine JL.val (v := .int .i64 x2) (QV.load1 (ss := [Seg.c (.int .u8 x1), Seg.c (.int .i64 x2), Seg.c (.int .i64 x3), Seg.c (s4.v)]) 0 1 rfl tk_3 rfl rfl rfl) rfl rfl rfl ?_
          refine JL.val (v := .bool (decide ((2147483647 : Int) < x2))) (QV.gtr rfl rfl) rfl rfl rfl ?_
          refine JL.val (v := .bool (decide ((2147483647 : Int) < x2))) (QV.pickF rfl rfl) rfl rfl rfl ?_
          refine JL.nil ?_
          refine QJ.then_normal ?_
          rcases ite_inv hm with ⟨h13, hm⟩ | ⟨h13, hm⟩
          ·
            refine JC.condT' rfl (decide_eq_true h13) ?_
            refine JC.seq ?_
            refine JC.region ?_
            refine JL.val (v := .bool false) (QV.assign rfl) rfl rfl rfl ?_
            refine JL.nil ?_
            refine QJ.then_normal ?_
            refine JC.ret ?_
            refine QJ.then_ret ?_
            obtain rfl := Option.some.inj hm
            exact QJ.body (vs := [.bool false]) (.inl rfl) rfl (ResVs.cons (ResV.tmp rfl) ResVs.nil) [] rfl rfl (.inr trivial) ⟨rfl, rfl⟩
          ·
            refine JC.condF' rfl (decide_eq_false h13) ?_
            refine JC.skip ?_
            refine QJ.then_normal ?_
            refine JC.seq ?_
            refine JC.region ?_
            refine JL.val (v := .pointer (some ⟨b7, 0, none⟩)) (QV.fieldB fo_35_0 rfl rfl) rfl rfl rfl ?_
            refine JL.val (v := .int .u8 x1) (QV.load1 (ss := [Seg.c (.int .u8 x1), Seg.c (.int .i64 x2), Seg.c (.int .i64 x3), Seg.c (s4.v)]) 0 0 rfl tk_5 rfl rfl rfl) rfl rfl rfl ?_
            refine JL.val (v := .bool (decide (x1 = (2 : Int)))) (QV.eql rfl rfl) rfl rfl rfl ?_
            rcases ite_inv hm with ⟨h14, hm⟩ | ⟨h14, hm⟩
            ·
              refine JL.val (v := .bool true) (QV.eq (QV.move rfl) (congrArg Value.bool (decide_eq_true h14))) rfl rfl rfl ?_
              refine JL.val (v := .pointer (some ⟨b7, 3, none⟩)) (QV.fieldB fo_35_3 rfl rfl) rfl rfl rfl ?_
              refine JL.val (v := s4.v) (QV.load1 (ss := [Seg.c (.int .u8 x1), Seg.c (.int .i64 x2), Seg.c (.int .i64 x3), Seg.c (s4.v)]) 0 3 rfl tk_23 rfl rfl rfl) rfl rfl rfl ?_
              refine JL.val (v := .int .i64 ((x5).length : Int)) (QV.len (Rdg.vw 1 rfl) Try.underlying23 rfl) rfl rfl rfl ?_
              refine JL.val (v := .bool (decide (((x5).length : Int) = (0 : Int)))) (QV.eql rfl rfl) rfl rfl rfl ?_
              refine JL.val (v := .bool (decide (((x5).length : Int) = (0 : Int)))) (QV.pickT rfl rfl) rfl rfl rfl ?_
              rcases ite_inv hm with ⟨h15, hm⟩ | ⟨h15, hm⟩
              ·
                refine JL.val (v := .bool true) (QV.eq (QV.move rfl) (congrArg Value.bool (decide_eq_true h15))) rfl rfl rfl ?_
                refine JL.skip (d := some 43) rfl rfl rfl ?_
                refine JL.skip (d := some 44) rfl rfl rfl ?_
                refine JL.skip (d := some 45) rfl rfl rfl ?_
                refine JL.skip (d := some 46) rfl rfl rfl ?_
                refine JL.skip (d := some 47) rfl rfl rfl ?_
                refine JL.skip (d := some 48) rfl rfl rfl ?_
                refine JL.skip (d := some 49) rfl rfl rfl ?_
                refine JL.skip (d := some 50) rfl rfl rfl ?_
                refine JL.skip (d := some 51) rfl rfl rfl ?_
                refine JL.skip (d := some 52) rfl rfl rfl ?_
                refine JL.skip (d := some 53) rfl rfl rfl ?_
                refine JL.val (v := .bool true) (QV.pickT rfl rfl) rfl rfl rfl ?_
                refine JL.val (v := .bool true) (QV.assign rfl) rfl rfl rfl ?_
                refine JL.nil ?_
                refine QJ.then_normal ?_
                refine JC.ret ?_
                obtain rfl := Option.some.inj hm
                exact QJ.body (vs := [.bool true]) (.inl rfl) rfl (ResVs.cons (ResV.tmp rfl) ResVs.nil) [] rfl rfl (.inr trivial) ⟨rfl, rfl⟩
              ·
                refine JL.val (v := .bool false) (QV.eq (QV.move rfl) (congrArg Value.bool (decide_eq_false h15))) rfl rfl rfl ?_
                refine JL.val (v := .pointer (some ⟨b7, 0, none⟩)) (QV.fieldB fo_35_0 rfl rfl) rfl rfl rfl ?_
                refine JL.val (v := .int .u8 x1) (QV.load1 (ss := [Seg.c (.int .u8 x1), Seg.c (.int .i64 x2), Seg.c (.int .i64 x3), Seg.c (s4.v)]) 0 0 rfl tk_5 rfl rfl rfl) rfl rfl rfl ?_
                refine JL.val (v := .bool (decide (x1 = (3 : Int)))) (QV.eql rfl rfl) rfl rfl rfl ?_
                rcases ite_inv hm with ⟨h16, hm⟩ | ⟨h16, hm⟩
                ·
                  refine JL.val (v := .bool true) (QV.eq (QV.move rfl) (congrArg Value.bool (decide_eq_true h16))) rfl rfl rfl ?_
                  refine JL.val (v := .pointer (some ⟨b7, 3, none⟩)) (QV.fieldB fo_35_3 rfl rfl) rfl rfl rfl ?_
                  refine JL.val (v := s4.v) (QV.load1 (ss := [Seg.c (.int .u8 x1), Seg.c (.int .i64 x2), Seg.c (.int .i64 x3), Seg.c (s4.v)]) 0 3 rfl tk_23 rfl rfl rfl) rfl rfl rfl ?_
                  refine JL.val (v := .int .i64 ((x5).length : Int)) (QV.len (Rdg.vw 1 rfl) Try.underlying23 rfl) rfl rfl rfl ?_
                  refine JL.val (v := .pointer (some ⟨b7, 2, none⟩)) (QV.fieldB fo_35_2 rfl rfl) rfl rfl rfl ?_
                  refine JL.val (v := .int .i64 x3) (QV.load1 (ss := [Seg.c (.int .u8 x1), Seg.c (.int .i64 x2), Seg.c (.int .i64 x3), Seg.c (s4.v)]) 0 2 rfl tk_3 rfl rfl rfl) rfl rfl rfl ?_
                  refine JL.val (v := .bool (decide (((x5).length : Int) = x3))) (QV.eql rfl rfl) rfl rfl rfl ?_
                  refine JL.val (v := .bool (decide (((x5).length : Int) = x3))) (QV.pickT rfl rfl) rfl rfl rfl ?_
                  refine JL.val (v := .bool (decide (((x5).length : Int) = x3))) (QV.pickF rfl rfl) rfl rfl rfl ?_
                  refine JL.val (v := .bool (decide (((x5).length : Int) = x3))) (QV.assign rfl) rfl rfl rfl ?_
                  refine JL.nil ?_
                  refine QJ.then_normal ?_
                  refine JC.ret ?_
                  obtain rfl := Option.some.inj hm
                  exact QJ.body (vs := [.bool (decide (((x5).length : Int) = x3))]) (.inl rfl) rfl (ResVs.cons (ResV.tmp rfl) ResVs.nil) [] rfl rfl (.inr trivial) ⟨rfl, rfl⟩
                ·
                  refine JL.val (v := .bool false) (QV.eq (QV.move rfl) (congrArg Value.bool (decide_eq_false h16))) rfl rfl rfl ?_
                  refine JL.skip (d := some 47) rfl rfl rfl ?_
                  refine JL.skip (d := some 48) rfl rfl rfl ?_
                  refine JL.skip (d := some 49) rfl rfl rfl ?_
                  refine JL.skip (d := some 50) rfl rfl rfl ?_
                  refine JL.skip (d := some 51) rfl rfl rfl ?_
                  refine JL.skip (d := some 52) rfl rfl rfl ?_
                  refine JL.val (v := .bool false) (QV.pickF rfl rfl) rfl rfl rfl ?_
                  refine JL.val (v := .bool false) (QV.pickF rfl rfl) rfl rfl rfl ?_
                  refine JL.val (v := .bool false) (QV.assign rfl) rfl rfl rfl ?_
                  refine JL.nil ?_
                  refine QJ.then_normal ?_
                  refine JC.ret ?_
                  obtain rfl := Option.some.inj hm
                  exact QJ.body (vs := [.bool false]) (.inl rfl) rfl (ResVs.cons (ResV.tmp rfl) ResVs.nil) [] rfl rfl (.inr trivial) ⟨rfl, rfl⟩
            ·
              refine JL.val (v := .bool false) (QV.eq (QV.move rfl) (congrArg Value.bool (decide_eq_false h14))) rfl rfl rfl ?_
              refine JL.skip (d := some 37) rfl rfl rfl ?_
              refine JL.skip (d := some 38) rfl rfl rfl ?_
              refine JL.skip (d := some 39) rfl rfl rfl ?_
              refine JL.skip (d := some 40) rfl rfl rfl ?_
              refine JL.val (v := .bool false) (QV.pickF rfl rfl) rfl rfl rfl ?_
              refine JL.val (v := .bool false) (QV.move rfl) rfl rfl rfl ?_
              refine JL.val (v := .pointer (some ⟨b7, 0, none⟩)) (QV.fieldB fo_35_0 rfl rfl) rfl rfl rfl ?_
              refine JL.val (v := .int .u8 x1) (QV.load1 (ss := [Seg.c (.int .u8 x1), Seg.c (.int .i64 x2), Seg.c (.int .i64 x3), Seg.c (s4.v)]) 0 0 rfl tk_5 rfl rfl rfl) rfl rfl rfl ?_
              refine JL.val (v := .bool (decide (x1 = (3 : Int)))) (QV.eql rfl rfl) rfl rfl rfl ?_
              rcases ite_inv hm with ⟨h17, hm⟩ | ⟨h17, hm⟩
              ·
                refine JL.val (v := .bool true) (QV.eq (QV.move rfl) (congrArg Value.bool (decide_eq_true h17))) rfl rfl rfl ?_
                refine JL.val (v := .pointer (some ⟨b7, 3, none⟩)) (QV.fieldB fo_35_3 rfl rfl) rfl rfl rfl ?_
                refine JL.val (v := s4.v) (QV.load1 (ss := [Seg.c (.int .u8 x1), Seg.c (.int .i64 x2), Seg.c (.int .i64 x3), Seg.c (s4.v)]) 0 3 rfl tk_23 rfl rfl rfl) rfl rfl rfl ?_
                refine JL.val (v := .int .i64 ((x5).length : Int)) (QV.len (Rdg.vw 1 rfl) Try.underlying23 rfl) rfl rfl rfl ?_
                refine JL.val (v := .pointer (some ⟨b7, 2, none⟩)) (QV.fieldB fo_35_2 rfl rfl) rfl rfl rfl ?_
                refine JL.val (v := .int .i64 x3) (QV.load1 (ss := [Seg.c (.int .u8 x1), Seg.c (.int .i64 x2), Seg.c (.int .i64 x3), Seg.c (s4.v)]) 0 2 rfl tk_3 rfl rfl rfl) rfl rfl rfl ?_
                refine JL.val (v := .bool (decide (((x5).length : Int) = x3))) (QV.eql rfl rfl) rfl rfl rfl ?_
                refine JL.val (v := .bool (decide (((x5).length : Int) = x3))) (QV.pickT rfl rfl) rfl rfl rfl ?_
                refine JL.val (v := .bool (decide (((x5).length : Int) = x3))) (QV.pickF rfl rfl) rfl rfl rfl ?_
                refine JL.val (v := .bool (decide (((x5).length : Int) = x3))) (QV.assign rfl) rfl rfl rfl ?_
                refine JL.nil ?_
                refine QJ.then_normal ?_
                refine JC.ret ?_
                obtain rfl := Option.some.inj hm
                exact QJ.body (vs := [.bool (decide (((x5).length : Int) = x3))]) (.inl rfl) rfl (ResVs.cons (ResV.tmp rfl) ResVs.nil) [] rfl rfl (.inr trivial) ⟨rfl, rfl⟩
              ·
                refine JL.val (v := .bool false) (QV.eq (QV.move rfl) (congrArg Value.bool (decide_eq_false h17))) rfl rfl rfl ?_
                refine JL.skip (d := some 47) rfl rfl rfl ?_
                refine JL.skip (d := some 48) rfl rfl rfl ?_
                refine JL.skip (d := some 49) rfl rfl rfl ?_
                refine JL.skip (d := some 50) rfl rfl rfl ?_
                refine JL.skip (d := some 51) rfl rfl rfl ?_
                refine JL.skip (d := some 52) rfl rfl rfl ?_
                refine JL.val (v := .bool false) (QV.pickF rfl rfl) rfl rfl rfl ?_
                refine JL.val (v := .bool false) (QV.pickF rfl rfl) rfl rfl rfl ?_
                refine JL.val (v := .bool false) (QV.assign rfl) rfl rfl rfl ?_
                refine JL.nil ?_
                refine QJ.then_normal ?_
                refine JC.ret ?_
                obtain rfl := Option.some.inj hm
                exact QJ.body (vs := [.bool false]) (.inl rfl) rfl (ResVs.cons (ResV.tmp rfl) ResVs.nil) [] rfl rfl (.inr trivial) ⟨rfl, rfl⟩

/-! ### 17: drogher/drogherref16.Eval -/
noncomputable def F17.j2  (d15 : List Int) : Option (List Int × Int) :=
  some (d15, (0 : Int))
noncomputable def F17.j3 (d18 : Int) (d28 : List Int) : Option ((List Int × Int) ⊕ (((List Int × Int)) ⊕ (List Int))) :=
  some (.inl (d28, (IntKind.wrap .i64 (d18 + (1 : Int)))))
noncomputable def F17.j4 (d18 : Int) (d37 : List Int) : Option ((List Int × Int) ⊕ (((List Int × Int)) ⊕ (List Int))) :=
  F17.j3 d18 (d37)
noncomputable def F17.j5 (d39 : List Int) (d40 : Int) (d50 : Int) : Option ((List Int × Int) ⊕ (List Int)) :=
  (if ((d39).length + ([d50]).length) * 1 ≤ 140737488355328 ∧ (d39).length + ([d50]).length ≤ 9223372036854775807 then some (.inl ((d39 ++ [d50]), (IntKind.wrap .i64 (d40 + (1 : Int))))) else none)
noncomputable def F17.b2 (x2 : List (Int × Int × Int × (List Int))) (x5 : List Int) (d18 : Int) : (List Int × Int) → Option ((List Int × Int) ⊕ (List Int))
  | (d39, d40) => (if d40 < (gd x2 d18).2.2.1 then (if 0 ≤ (IntKind.wrap .i64 ((gd x2 d18).2.1 + d40)) ∧ (IntKind.wrap .i64 ((gd x2 d18).2.1 + d40)) < ((x5).length : Int) then (if (gd x2 d18).1 = (3 : Int) then (if 0 ≤ d40 ∧ d40 < (((gd x2 d18).2.2.2).length : Int) then F17.j5 d39 d40 ((IntKind.wrap .u8 ((gd x5 (IntKind.wrap .i64 ((gd x2 d18).2.1 + d40))) + (gd (gd x2 d18).2.2.2 d40)))) else none) else F17.j5 d39 d40 ((gd x5 (IntKind.wrap .i64 ((gd x2 d18).2.1 + d40))))) else none) else some (.inr d39))
noncomputable def F17.b1 (x2 : List (Int × Int × Int × (List Int))) (x5 : List Int) : (List Int × Int) → Option ((List Int × Int) ⊕ (((List Int × Int)) ⊕ (List Int)))
  | (d17, d18) => (if d18 < ((x2).length : Int) then (if 0 ≤ d18 ∧ d18 < ((x2).length : Int) then (if (gd x2 d18).1 = (1 : Int) then (if ((d17).length + ((gd x2 d18).2.2.2).length) * 1 ≤ 140737488355328 ∧ (d17).length + ((gd x2 d18).2.2.2).length ≤ 9223372036854775807 then F17.j3 d18 ((d17 ++ (gd x2 d18).2.2.2)) else none) else (if ((x5).length : Int) < (gd x2 d18).2.1 then some (.inr (.inl ((([] : List Int), (5 : Int))))) else (if (IntKind.wrap .i64 (((x5).length : Int) - (gd x2 d18).2.1)) < (gd x2 d18).2.2.1 then some (.inr (.inl ((([] : List Int), (5 : Int))))) else ((loop (F17.b2 x2 x5 d18) (d17, (0 : Int))).bind fun y => match y with | d37 => F17.j4 d18 (d37))))) else none) else some (.inr (.inr (d17))))
noncomputable def F17.j1 (x2 : List (Int × Int × Int × (List Int))) (x5 : List Int) (x6 : Int) (d11 : Int) : Option (List Int × Int) :=
  (if d11 = x6 then ((loop (F17.b1 x2 x5) (([] : List Int), (0 : Int))).bind fun y => match y with | .inl r => some r | .inr d15 => F17.j2 (d15)) else some (([] : List Int), (13 : Int)))
noncomputable def F17.j6 (d57 : Int) (d69 : Int) : Option ((Int × Int) ⊕ (((List Int × Int)) ⊕ Int)) :=
  some (.inl (d69, (IntKind.wrap .i64 (d57 + (1 : Int)))))
noncomputable def F17.b3 (x2 : List (Int × Int × Int × (List Int))) (x6 : Int) : (Int × Int) → Option ((Int × Int) ⊕ (((List Int × Int)) ⊕ Int))
  | (d56, d57) => (if d57 < ((x2).length : Int) then (if 0 ≤ d57 ∧ d57 < ((x2).length : Int) then ((F24.m ((gd x2 d57).1) ((gd x2 d57).2.1) ((gd x2 d57).2.2.1) ((gd x2 d57).2.2.2)).bind fun y66 => (if y66 = true then (if d56 ≤ x6 then F17.j6 d57 ((IntKind.wrap .i64 (d56 + (gd x2 d57).2.2.1))) else F17.j6 d57 (d56)) else some (.inr (.inl ((([] : List Int), (3 : Int))))))) else none) else some (.inr (.inr (d56))))
noncomputable def F17.m (x2 : List (Int × Int × Int × (List Int))) (x5 : List Int) (x6 : Int) : Option (List Int × Int) :=
  ((loop (F17.b3 x2 x6) ((0 : Int), (0 : Int))).bind fun y => match y with | .inl r => some r | .inr d11 => F17.j1 x2 x5 x6 (d11))
set_option maxRecDepth 100000 in
set_option maxHeartbeats 4000000 in
theorem F17.spec (s1 : SlV) (z3 : List (Unit × Unit × Unit × SlV)) (s4 : SlV) (x2 : List (Int × Int × Int × (List Int))) (x5 : List Int) (x6 : Int) (r : (List Int × Int)) (hm : F17.m x2 x5 x6 = some r) :
    Ctr Try.prog false 17 [s1.v, s4.v, .int .i64 x6] [Asr.vn (NE.pair (NE.flat (Enc.int .u8)) (NE.pair (NE.flat (Enc.int .i64)) (NE.pair (NE.flat (Enc.int .i64)) (NE.sl (Enc.int .u8))))) (s1.v) z3 x2, Asr.vw (Enc.int .u8) (s4.v) x5] (fun v L' => ∃ (g7 : SlV), v = .tuple #[g7.v, .int .i64 r.2] ∧ L' = [Asr.of 5 (Enc.int .u8) (g7.v) r.1]) := by
  refine Ctr.intro (n := 106) (env := [(0, s1.v), (1, s4.v), (2, .int .i64 x6)]) Try.func17 rfl rfl rfl rfl (fun c => ?_)
  unfold F17.m at hm
  refine JC.seq ?_
  refine JC.region ?_
  refine JL.ent (fun _ hs => hs.nil 5 (Enc.int .u8)) ?_
  refine JL.val (v := SlV.nil.v) (QV.assign rfl) rfl rfl rfl ?_
  refine JL.val (v := .int .i64 (0 : Int)) (QV.assign rfl) rfl rfl rfl ?_
  refine JL.nil ?_
  refine QJ.then_normal ?_
  refine JC.seq ?_
  refine JC.region ?_
  refine JL.mv (d := some 16) (MV.lit0 (Enc.int .u8) Try.underlying23 (by kernel_rfl)) rfl rfl rfl ?_
  rintro _ _ ⟨z10, rfl, rfl⟩
  refine JL.val (v := z10.v) (QV.assign rfl) rfl rfl rfl ?_
  refine JL.nil ?_
  refine QJ.then_normal ?_
  refine JC.seq ?_
  refine JC.region ?_
  refine JL.val (v := .int .i64 (0 : Int)) (QV.assign rfl) rfl rfl rfl ?_
  refine JL.nil ?_
  refine QJ.then_normal ?_
  refine JC.seq ?_
  refine JC.seq ?_
  refine JC.region ?_
  refine JL.val (v := s1.v) (QV.move rfl) rfl rfl rfl ?_
  refine JL.val (v := .int .i64 ((x2).length : Int)) (QV.lenN (RdN.vn 2 rfl) Try.underlying22 rfl) rfl rfl rfl ?_
  refine JL.val (v := .int .i64 (0 : Int)) (QV.move rfl) rfl rfl rfl ?_
  refine JL.nil ?_
  refine QJ.then_normal ?_
  refine JC.cutK (Y := Int × Unit) (fun y => match y with | (d11, _) => F17.j1 x2 x5 x6 (d11) = some r) (fun y => match y with | (d11, _) => [(0, s1.v), (1, s4.v), (2, .int .i64 x6), (8, z10.v), (9, .int .i64 d11)]) (fun y => match y with | (d11, _) => [Asr.vn (NE.pair (NE.flat (Enc.int .u8)) (NE.pair (NE.flat (Enc.int .i64)) (NE.pair (NE.flat (Enc.int .i64)) (NE.sl (Enc.int .u8))))) (s1.v) z3 x2, Asr.vw (Enc.int .u8) (s4.v) x5, Asr.of 5 (Enc.int .u8) (z10.v) ([] : List Int)]) ?_ ?_
  ·
    rintro ⟨d11, ⟨⟩⟩ hm
    unfold F17.j1 at hm
    show QJ _ _ [(0, s1.v), (1, s4.v), (2, .int .i64 x6), (8, z10.v), (9, .int .i64 d11)] [Asr.vn (NE.pair (NE.flat (Enc.int .u8)) (NE.pair (NE.flat (Enc.int .i64)) (NE.pair (NE.flat (Enc.int .i64)) (NE.sl (Enc.int .u8))))) (s1.v) z3 x2, Asr.vw (Enc.int .u8) (s4.v) x5, Asr.of 5 (Enc.int .u8) (z10.v) ([] : List Int)] _ _
    refine QJ.then_normal ?_
    refine JC.seq ?_
    refine JC.seq ?_
    refine JC.region ?_
    refine JL.val (v := .int .i64 d11) (QV.move rfl) rfl rfl rfl ?_
    refine JL.val (v := .int .i64 x6) (QV.move rfl) rfl rfl rfl ?_
    refine JL.val (v := .bool (!(decide (d11 = x6)))) (QV.neq rfl rfl) rfl rfl rfl ?_
    refine JL.nil ?_
    refine QJ.then_normal ?_
    rcases ite_inv hm with ⟨h12, hm⟩ | ⟨h12, hm⟩
    ·
      refine JC.condF' rfl (congrArg Bool.not (decide_eq_true h12)) ?_
      refine JC.skip ?_
      refine QJ.then_normal ?_
      refine JC.seq ?_
      refine JC.region ?_
      refine JL.mv (d := some 44) (MV.lit0 (Enc.int .u8) Try.underlying23 (by kernel_rfl)) rfl rfl rfl ?_
      rintro _ _ ⟨z13, rfl, rfl⟩
      refine JL.val (v := z13.v) (QV.assign rfl) rfl rfl rfl ?_
      refine JL.nil ?_
      refine QJ.then_normal ?_
      refine JC.seq ?_
      refine JC.seq ?_
      refine JC.region ?_
      refine JL.val (v := s1.v) (QV.move rfl) rfl rfl rfl ?_
      refine JL.val (v := .int .i64 ((x2).length : Int)) (QV.lenN (RdN.vn 1 rfl) Try.underlying22 rfl) rfl rfl rfl ?_
      refine JL.val (v := .int .i64 (0 : Int)) (QV.move rfl) rfl rfl rfl ?_
      refine JL.nil ?_
      refine QJ.then_normal ?_
      refine JC.cutK (Y := (List Int) × SlV) (fun y => match y with | (d15, _) => F17.j2 (d15) = some r) (fun y => match y with | (d15, z14) => [(11, z14.v)]) (fun y => match y with | (d15, z14) => [Asr.of 5 (Enc.int .u8) (z14.v) d15]) ?_ ?_
      ·
        rintro ⟨d15, z14⟩ hm
        unfold F17.j2 at hm
        show QJ _ _ [(11, z14.v)] [Asr.of 5 (Enc.int .u8) (z14.v) d15] _ _
        refine QJ.then_normal ?_
        refine JC.seq ?_
        refine JC.region ?_
        refine JL.val (v := z14.v) (QV.move rfl) rfl rfl rfl ?_
        refine JL.val (v := z14.v) (QV.assign rfl) rfl rfl rfl ?_
        refine JL.val (v := .int .i64 (0 : Int)) (QV.assign rfl) rfl rfl rfl ?_
        refine JL.nil ?_
        refine QJ.then_normal ?_
        refine JC.ret ?_
        obtain rfl := Option.some.inj hm
        exact QJ.body (vs := [z14.v, .int .i64 (0 : Int)]) (.inl rfl) rfl (ResVs.cons (ResV.tmp rfl) (ResVs.cons (ResV.tmp rfl) ResVs.nil)) [0] rfl rfl (.inr ⟨own_of _ _ _ _, trivial⟩) ⟨z14, rfl, rfl⟩
      ·
        refine JC.block ?_
        obtain ⟨y22, hl23, hmo24⟩ := bind_inv hm
        refine JC.loop (F17.b1 x2 x5) (fun x z => match x, z with | (d17, d18), z16 => [(0, s1.v), (1, s4.v), (8, z10.v), (11, z16.v), (46, .int .i64 ((x2).length : Int)), (47, .int .i64 d18)]) (fun x z => match x, z with | (d17, d18), z16 => [Asr.vn (NE.pair (NE.flat (Enc.int .u8)) (NE.pair (NE.flat (Enc.int .i64)) (NE.pair (NE.flat (Enc.int .i64)) (NE.sl (Enc.int .u8))))) (s1.v) z3 x2, Asr.vw (Enc.int .u8) (s4.v) x5, Asr.of 5 (Enc.int .u8) (z10.v) ([] : List Int), Asr.of 5 (Enc.int .u8) (z16.v) d17]) (([] : List Int), (0 : Int)) z13 y22 hl23 [1, 2, 3, 0] (by exact ⟨rfl, rfl, rfl, rfl, rfl, rfl, trivial⟩) rfl rfl ?_
        rintro ⟨d17, d18⟩ z16 s25 hm
        unfold F17.b1 at hm
        dsimp only at hm
        show JC _ _ _ [(0, s1.v), (1, s4.v), (8, z10.v), (11, z16.v), (46, .int .i64 ((x2).length : Int)), (47, .int .i64 d18)] [Asr.vn (NE.pair (NE.flat (Enc.int .u8)) (NE.pair (NE.flat (Enc.int .i64)) (NE.pair (NE.flat (Enc.int .i64)) (NE.sl (Enc.int .u8))))) (s1.v) z3 x2, Asr.vw (Enc.int .u8) (s4.v) x5, Asr.of 5 (Enc.int .u8) (z10.v) ([] : List Int), Asr.of 5 (Enc.int .u8) (z16.v) d17] _ _
        refine JC.seq ?_
        refine JC.region ?_
        refine JL.val (v := .bool (decide (d18 < ((x2).length : Int)))) (QV.lss rfl rfl) rfl rfl rfl ?_
        refine JL.nil ?_
        refine QJ.then_normal ?_
        refine JC.seq ?_
        rcases ite_inv hm with ⟨h26, hm⟩ | ⟨h26, hm⟩
        ·
          refine JC.condT' rfl (decide_eq_true h26) ?_
          refine JC.skip ?_
          refine QJ.then_normal ?_
          refine JC.seq ?_
          refine JC.cutK (Y := (List Int) × SlV) (fun y => match y with | (d28, _) => F17.j3 d18 (d28) = some s25) (fun y => match y with | (d28, z27) => [(0, s1.v), (1, s4.v), (8, z10.v), (11, z27.v), (46, .int .i64 ((x2).length : Int)), (47, .int .i64 d18)]) (fun y => match y with | (d28, z27) => [Asr.vn (NE.pair (NE.flat (Enc.int .u8)) (NE.pair (NE.flat (Enc.int .i64)) (NE.pair (NE.flat (Enc.int .i64)) (NE.sl (Enc.int .u8))))) (s1.v) z3 x2, Asr.vw (Enc.int .u8) (s4.v) x5, Asr.of 5 (Enc.int .u8) (z10.v) ([] : List Int), Asr.of 5 (Enc.int .u8) (z27.v) d28]) ?_ ?_
          ·
            rintro ⟨d28, z27⟩ hm
            unfold F17.j3 at hm
            show QJ _ _ [(0, s1.v), (1, s4.v), (8, z10.v), (11, z27.v), (46, .int .i64 ((x2).length : Int)), (47, .int .i64 d18)] [Asr.vn (NE.pair (NE.flat (Enc.int .u8)) (NE.pair (NE.flat (Enc.int .i64)) (NE.pair (NE.flat (Enc.int .i64)) (NE.sl (Enc.int .u8))))) (s1.v) z3 x2, Asr.vw (Enc.int .u8) (s4.v) x5, Asr.of 5 (Enc.int .u8) (z10.v) ([] : List Int), Asr.of 5 (Enc.int .u8) (z27.v) d28] _ _
            refine QJ.then_normal ?_
            refine JC.region ?_
            refine JL.val (v := .int .i64 (IntKind.wrap .i64 (d18 + (1 : Int)))) (QV.add rfl rfl) rfl rfl rfl ?_
            refine JL.val (v := .int .i64 (IntKind.wrap .i64 (d18 + (1 : Int)))) (QV.move rfl) rfl rfl rfl ?_
            refine JL.nil ?_
            obtain rfl := Option.some.inj hm
            exact QJ.round_on (d28, (IntKind.wrap .i64 (d18 + (1 : Int)))) z27 [0, 1, 2, 3] (by exact ⟨rfl, rfl, rfl, rfl, rfl, rfl, trivial⟩) rfl rfl
          ·
            refine JC.block ?_
            refine JC.seq ?_
            refine JC.region ?_
            refine JL.val (v := .int .i64 d18) (QV.move rfl) rfl rfl rfl ?_
            refine JL.val (v := .int .i64 d18) (QV.assign rfl) rfl rfl rfl ?_
            refine JL.nil ?_
            refine QJ.then_normal ?_
            refine JC.seq ?_
            refine JC.region ?_
            refine JL.val (v := s1.v) (QV.move rfl) rfl rfl rfl ?_
            refine JL.val (v := .int .i64 d18) (QV.move rfl) rfl rfl rfl ?_
            obtain ⟨h29, hm⟩ := guard_inv hm
            refine JL.val (v := .pointer (some (elA (s1.v) (Int.toNat d18 * ((NE.pair (NE.flat (Enc.int .u8)) (NE.pair (NE.flat (Enc.int .i64)) (NE.pair (NE.flat (Enc.int .i64)) (NE.sl (Enc.int .u8))))).E).sz)))) (QV.indexN (RdN.vn 0 rfl) Try.underlying22 tk_35 rfl rfl h29) rfl rfl rfl ?_
            refine JL.val (v := .agg #[.int .u8 (gd x2 d18).1, .int .i64 (gd x2 d18).2.1, .int .i64 (gd x2 d18).2.2.1, (gd z3 d18).2.2.2.v]) (QV.eq (QV.elNN (RdN.vn 0 rfl) tk_35 rfl h29) rfl) rfl rfl rfl ?_
            refine JL.ent (fun _ hs => hs.nil 5 (Enc.int .u8)) ?_
            refine JL.mv (d := some 13) (MV.alloc [Seg.c (.int .u8 (0 : Int)), Seg.c (.int .i64 (0 : Int)), Seg.c (.int .i64 (0 : Int)), Seg.c (SlV.nil.v)] z_35 rfl) rfl rfl rfl ?_
            rintro _ _ ⟨b30, rfl, rfl⟩
            refine JL.ent (fun _ hs => hs.derive (Drv.el (K := (NE.pair (NE.flat (Enc.int .u8)) (NE.pair (NE.flat (Enc.int .i64)) (NE.pair (NE.flat (Enc.int .i64)) (NE.sl (Enc.int .u8)))))) (A := Asr.vw (Enc.int .u8) ((gd z3 d18).2.2.2.v) (gd x2 d18).2.2.2) (Drv.vn 2 rfl) h29 (fun _ _ q => q.2.2.2))) ?_
            refine JL.mv (d := none) (MV.store (ss := [Seg.c (.int .u8 (0 : Int)), Seg.c (.int .i64 (0 : Int)), Seg.c (.int .i64 (0 : Int)), Seg.c (SlV.nil.v)]) 1 0 4 [Seg.c (.int .u8 (gd x2 d18).1), Seg.c (.int .i64 (gd x2 d18).2.1), Seg.c (.int .i64 (gd x2 d18).2.2.1), Seg.c ((gd z3 d18).2.2.2.v)] rfl tk_35 rfl rfl rfl rfl (fun w hs => ⟨rfl, one_c rfl, one_c rfl, one_c rfl, one_sl (Rdg.vw 0 rfl) hs, trivial⟩)) rfl rfl rfl ?_
            rintro _ _ ⟨rfl, rfl⟩
            refine JL.nil ?_
            refine QJ.then_normal ?_
            refine JC.seq ?_
            refine JC.seq ?_
            refine JC.region ?_
            refine JL.val (v := .pointer (some ⟨b30, 0, none⟩)) (QV.fieldB fo_35_0 rfl rfl) rfl rfl rfl ?_
            refine JL.val (v := .int .u8 (gd x2 d18).1) (QV.load1 (ss := [Seg.c (.int .u8 (gd x2 d18).1), Seg.c (.int .i64 (gd x2 d18).2.1), Seg.c (.int .i64 (gd x2 d18).2.2.1), Seg.c ((gd z3 d18).2.2.2.v)]) 1 0 rfl tk_5 rfl rfl rfl) rfl rfl rfl ?_
            refine JL.val (v := .bool (decide ((gd x2 d18).1 = (1 : Int)))) (QV.eql rfl rfl) rfl rfl rfl ?_
            refine JL.nil ?_
            refine QJ.then_normal ?_
            rcases ite_inv hm with ⟨h31, hm⟩ | ⟨h31, hm⟩
            ·
              refine JC.condT' rfl (decide_eq_true h31) ?_
              refine JC.seq ?_
              refine JC.region ?_
              refine JL.val (v := z16.v) (QV.move rfl) rfl rfl rfl ?_
              refine JL.val (v := .pointer (some ⟨b30, 3, none⟩)) (QV.fieldB fo_35_3 rfl rfl) rfl rfl rfl ?_
              refine JL.val (v := (gd z3 d18).2.2.2.v) (QV.load1 (ss := [Seg.c (.int .u8 (gd x2 d18).1), Seg.c (.int .i64 (gd x2 d18).2.1), Seg.c (.int .i64 (gd x2 d18).2.2.1), Seg.c ((gd z3 d18).2.2.2.v)]) 1 3 rfl tk_23 rfl rfl rfl) rfl rfl rfl ?_
              obtain ⟨h32, hm⟩ := guard_inv hm
              refine JL.mv (d := some 60) (MV.append 6 rfl (Rdg.vw 0 rfl) Try.underlying23 zi_5 rfl (by decide) rfl rfl h32) rfl rfl rfl ?_
              rintro _ _ ⟨z33, rfl, rfl⟩
              refine JL.val (v := z33.v) (QV.assign rfl) rfl rfl rfl ?_
              refine JL.nil ?_
              refine QJ.then_normal ?_
              refine JC.exit ?_
              refine QJ.then_exit ?_
              refine QJ.block_hit ?_
              exact QJ.cut_normal ((d17 ++ (gd x2 d18).2.2.2), z33) hm [3, 4, 5, 6] (by exact ⟨rfl, rfl, rfl, rfl, rfl, rfl, trivial⟩) rfl rfl
            ·
              refine JC.condF' rfl (decide_eq_false h31) ?_
              refine JC.skip ?_
              refine QJ.then_normal ?_
              refine JC.seq ?_
              refine JC.seq ?_
              refine JC.region ?_
              refine JL.val (v := .pointer (some ⟨b30, 1, none⟩)) (QV.fieldB fo_35_1 rfl rfl) rfl rfl rfl ?_
              refine JL.val (v := .int .i64 (gd x2 d18).2.1) (QV.load1 (ss := [Seg.c (.int .u8 (gd x2 d18).1), Seg.c (.int .i64 (gd x2 d18).2.1), Seg.c (.int .i64 (gd x2 d18).2.2.1), Seg.c ((gd z3 d18).2.2.2.v)]) 1 1 rfl tk_3 rfl rfl rfl) rfl rfl rfl ?_
              refine JL.val (v := s4.v) (QV.move rfl) rfl rfl rfl ?_
              refine JL.val (v := .int .i64 ((x5).length : Int)) (QV.len (Rdg.vw 4 rfl) Try.underlying23 rfl) rfl rfl rfl ?_
              refine JL.val (v := .bool (decide (((x5).length : Int) < (gd x2 d18).2.1))) (QV.gtr rfl rfl) rfl rfl rfl ?_
              rcases ite_inv hm with ⟨h34, hm⟩ | ⟨h34, hm⟩
              ·
                refine JL.val (v := .bool true) (QV.eq (QV.move rfl) (congrArg Value.bool (decide_eq_true h34))) rfl rfl rfl ?_
                refine JL.skip (d := some 67) rfl rfl rfl ?_
                refine JL.skip (d := some 68) rfl rfl rfl ?_
                refine JL.skip (d := some 69) rfl rfl rfl ?_
                refine JL.skip (d := some 70) rfl rfl rfl ?_
                refine JL.skip (d := some 71) rfl rfl rfl ?_
                refine JL.skip (d := some 72) rfl rfl rfl ?_
                refine JL.skip (d := some 73) rfl rfl rfl ?_
                refine JL.skip (d := some 74) rfl rfl rfl ?_
                refine JL.val (v := .bool true) (QV.pickT rfl rfl) rfl rfl rfl ?_
                refine JL.nil ?_
                refine QJ.then_normal ?_
                refine JC.condT rfl ?_
                refine JC.seq ?_
                refine JC.region ?_
                refine JL.val (v := z10.v) (QV.move rfl) rfl rfl rfl ?_
                refine JL.val (v := z10.v) (QV.assign rfl) rfl rfl rfl ?_
                refine JL.val (v := .int .i64 (5 : Int)) (QV.assign rfl) rfl rfl rfl ?_
                refine JL.nil ?_
                refine QJ.then_normal ?_
                refine JC.ret ?_
                refine QJ.then_ret ?_
                refine QJ.block_ret ?_
                refine QJ.cut_ret ?_
                refine QJ.then_ret ?_
                obtain rfl := Option.some.inj hm
                refine QJ.round_ret (fun hy => ?_)
                subst hy
                refine QJ.block_ret ?_
                refine QJ.cut_ret ?_
                refine QJ.then_ret ?_
                obtain rfl := Option.some.inj hmo24
                exact QJ.body (vs := [z10.v, .int .i64 (5 : Int)]) (.inl rfl) rfl (ResVs.cons (ResV.tmp rfl) (ResVs.cons (ResV.tmp rfl) ResVs.nil)) [5] rfl rfl (.inr ⟨own_of _ _ _ _, trivial⟩) ⟨z10, rfl, rfl⟩
              ·
                refine JL.val (v := .bool false) (QV.eq (QV.move rfl) (congrArg Value.bool (decide_eq_false h34))) rfl rfl rfl ?_
                refine JL.val (v := .pointer (some ⟨b30, 2, none⟩)) (QV.fieldB fo_35_2 rfl rfl) rfl rfl rfl ?_
                refine JL.val (v := .int .i64 (gd x2 d18).2.2.1) (QV.load1 (ss := [Seg.c (.int .u8 (gd x2 d18).1), Seg.c (.int .i64 (gd x2 d18).2.1), Seg.c (.int .i64 (gd x2 d18).2.2.1), Seg.c ((gd z3 d18).2.2.2.v)]) 1 2 rfl tk_3 rfl rfl rfl) rfl rfl rfl ?_
                refine JL.val (v := s4.v) (QV.move rfl) rfl rfl rfl ?_
                refine JL.val (v := .int .i64 ((x5).length : Int)) (QV.len (Rdg.vw 4 rfl) Try.underlying23 rfl) rfl rfl rfl ?_
                refine JL.val (v := .pointer (some ⟨b30, 1, none⟩)) (QV.fieldB fo_35_1 rfl rfl) rfl rfl rfl ?_
                refine JL.val (v := .int .i64 (gd x2 d18).2.1) (QV.load1 (ss := [Seg.c (.int .u8 (gd x2 d18).1), Seg.c (.int .i64 (gd x2 d18).2.1), Seg.c (.int .i64 (gd x2 d18).2.2.1), Seg.c ((gd z3 d18).2.2.2.v)]) 1 1 rfl tk_3 rfl rfl rfl) rfl rfl rfl ?_
                refine JL.val (v := .int .i64 (IntKind.wrap .i64 (((x5).length : Int) - (gd x2 d18).2.1))) (QV.sub rfl rfl) rfl rfl rfl ?_
                refine JL.val (v := .bool (decide ((IntKind.wrap .i64 (((x5).length : Int) - (gd x2 d18).2.1)) < (gd x2 d18).2.2.1))) (QV.gtr rfl rfl) rfl rfl rfl ?_
                refine JL.val (v := .bool (decide ((IntKind.wrap .i64 (((x5).length : Int) - (gd x2 d18).2.1)) < (gd x2 d18).2.2.1))) (QV.pickF rfl rfl) rfl rfl rfl ?_
                refine JL.nil ?_
                refine QJ.then_normal ?_
                rcases ite_inv hm with ⟨h35, hm⟩ | ⟨h35, hm⟩
                ·
                  refine JC.condT' rfl (decide_eq_true h35) ?_
                  refine JC.seq ?_
                  refine JC.region ?_
                  refine JL.val (v := z10.v) (QV.move rfl) rfl rfl rfl ?_
                  refine JL.val (v := z10.v) (QV.assign rfl) rfl rfl rfl ?_
                  refine JL.val (v := .int .i64 (5 : Int)) (QV.assign rfl) rfl rfl rfl ?_
                  refine JL.nil ?_
                  refine QJ.then_normal ?_
                  refine JC.ret ?_
                  refine QJ.then_ret ?_
                  refine QJ.block_ret ?_
                  refine QJ.cut_ret ?_
                  refine QJ.then_ret ?_
                  obtain rfl := Option.some.inj hm
                  refine QJ.round_ret (fun hy => ?_)
                  subst hy
                  refine QJ.block_ret ?_
                  refine QJ.cut_ret ?_
                  refine QJ.then_ret ?_
                  obtain rfl := Option.some.inj hmo24
                  exact QJ.body (vs := [z10.v, .int .i64 (5 : Int)]) (.inl rfl) rfl (ResVs.cons (ResV.tmp rfl) (ResVs.cons (ResV.tmp rfl) ResVs.nil)) [5] rfl rfl (.inr ⟨own_of _ _ _ _, trivial⟩) ⟨z10, rfl, rfl⟩
                ·
                  refine JC.condF' rfl (decide_eq_false h35) ?_
                  refine JC.skip ?_
                  refine QJ.then_normal ?_
                  refine JC.seq ?_
                  refine JC.region ?_
                  refine JL.val (v := .int .i64 (0 : Int)) (QV.assign rfl) rfl rfl rfl ?_
                  refine JL.nil ?_
                  refine QJ.then_normal ?_
                  refine JC.cutK (Y := (List Int) × SlV) (fun y => match y with | (d37, _) => F17.j4 d18 (d37) = some s25) (fun y => match y with | (d37, z36) => [(0, s1.v), (1, s4.v), (8, z10.v), (11, z36.v), (46, .int .i64 ((x2).length : Int)), (47, .int .i64 d18)]) (fun y => match y with | (d37, z36) => [Asr.vn (NE.pair (NE.flat (Enc.int .u8)) (NE.pair (NE.flat (Enc.int .i64)) (NE.pair (NE.flat (Enc.int .i64)) (NE.sl (Enc.int .u8))))) (s1.v) z3 x2, Asr.vw (Enc.int .u8) (s4.v) x5, Asr.of 5 (Enc.int .u8) (z10.v) ([] : List Int), Asr.of 5 (Enc.int .u8) (z36.v) d37]) ?_ ?_
                  ·
                    rintro ⟨d37, z36⟩ hm
                    unfold F17.j4 at hm
                    show QJ _ _ [(0, s1.v), (1, s4.v), (8, z10.v), (11, z36.v), (46, .int .i64 ((x2).length : Int)), (47, .int .i64 d18)] [Asr.vn (NE.pair (NE.flat (Enc.int .u8)) (NE.pair (NE.flat (Enc.int .i64)) (NE.pair (NE.flat (Enc.int .i64)) (NE.sl (Enc.int .u8))))) (s1.v) z3 x2, Asr.vw (Enc.int .u8) (s4.v) x5, Asr.of 5 (Enc.int .u8) (z10.v) ([] : List Int), Asr.of 5 (Enc.int .u8) (z36.v) d37] _ _
                    refine QJ.block_normal ?_
                    exact QJ.cut_normal (d37, z36) hm [0, 1, 2, 3] (by exact ⟨rfl, rfl, rfl, rfl, rfl, rfl, trivial⟩) rfl rfl
                  ·
                    refine JC.block ?_
                    obtain ⟨y44, hl45, hmo46⟩ := bind_inv hm
                    refine JC.loop (F17.b2 x2 x5 d18) (fun x z => match x, z with | (d39, d40), z38 => [(0, s1.v), (1, s4.v), (8, z10.v), (11, z38.v), (13, .pointer (some ⟨b30, 0, none⟩)), (14, .int .i64 d40), (46, .int .i64 ((x2).length : Int)), (47, .int .i64 d18)]) (fun x z => match x, z with | (d39, d40), z38 => [Asr.vn (NE.pair (NE.flat (Enc.int .u8)) (NE.pair (NE.flat (Enc.int .i64)) (NE.pair (NE.flat (Enc.int .i64)) (NE.sl (Enc.int .u8))))) (s1.v) z3 x2, Asr.vw (Enc.int .u8) (s4.v) x5, Asr.of 5 (Enc.int .u8) (z10.v) ([] : List Int), Asr.of 5 (Enc.int .u8) (z38.v) d39, Asr.vw (Enc.int .u8) ((gd z3 d18).2.2.2.v) (gd x2 d18).2.2.2, Asr.blk b30 35 [Seg.c (.int .u8 (gd x2 d18).1), Seg.c (.int .i64 (gd x2 d18).2.1), Seg.c (.int .i64 (gd x2 d18).2.2.1), Seg.c ((gd z3 d18).2.2.2.v)]]) (d17, (0 : Int)) z16 y44 hl45 [3, 4, 5, 6, 0, 1] (by exact ⟨rfl, rfl, rfl, rfl, rfl, rfl, rfl, rfl, trivial⟩) rfl rfl ?_
                    rintro ⟨d39, d40⟩ z38 s47 hm
                    unfold F17.b2 at hm
                    dsimp only at hm
                    show JC _ _ _ [(0, s1.v), (1, s4.v), (8, z10.v), (11, z38.v), (13, .pointer (some ⟨b30, 0, none⟩)), (14, .int .i64 d40), (46, .int .i64 ((x2).length : Int)), (47, .int .i64 d18)] [Asr.vn (NE.pair (NE.flat (Enc.int .u8)) (NE.pair (NE.flat (Enc.int .i64)) (NE.pair (NE.flat (Enc.int .i64)) (NE.sl (Enc.int .u8))))) (s1.v) z3 x2, Asr.vw (Enc.int .u8) (s4.v) x5, Asr.of 5 (Enc.int .u8) (z10.v) ([] : List Int), Asr.of 5 (Enc.int .u8) (z38.v) d39, Asr.vw (Enc.int .u8) ((gd z3 d18).2.2.2.v) (gd x2 d18).2.2.2, Asr.blk b30 35 [Seg.c (.int .u8 (gd x2 d18).1), Seg.c (.int .i64 (gd x2 d18).2.1), Seg.c (.int .i64 (gd x2 d18).2.2.1), Seg.c ((gd z3 d18).2.2.2.v)]] _ _
                    refine JC.seq ?_
                    refine JC.seq ?_
                    refine JC.region ?_
                    refine JL.val (v := .int .i64 d40) (QV.move rfl) rfl rfl rfl ?_
                    refine JL.val (v := .pointer (some ⟨b30, 2, none⟩)) (QV.fieldB fo_35_2 rfl rfl) rfl rfl rfl ?_
                    refine JL.val (v := .int .i64 (gd x2 d18).2.2.1) (QV.load1 (ss := [Seg.c (.int .u8 (gd x2 d18).1), Seg.c (.int .i64 (gd x2 d18).2.1), Seg.c (.int .i64 (gd x2 d18).2.2.1), Seg.c ((gd z3 d18).2.2.2.v)]) 5 2 rfl tk_3 rfl rfl rfl) rfl rfl rfl ?_
                    refine JL.val (v := .bool (decide (d40 < (gd x2 d18).2.2.1))) (QV.lss rfl rfl) rfl rfl rfl ?_
                    refine JL.nil ?_
                    refine QJ.then_normal ?_
                    rcases ite_inv hm with ⟨h48, hm⟩ | ⟨h48, hm⟩
                    ·
                      refine JC.condT' rfl (decide_eq_true h48) ?_
                      refine JC.skip ?_
                      refine QJ.then_normal ?_
                      refine JC.seq ?_
                      refine JC.block ?_
                      refine JC.seq ?_
                      refine JC.region ?_
                      refine JL.val (v := s4.v) (QV.move rfl) rfl rfl rfl ?_
                      refine JL.val (v := .pointer (some ⟨b30, 1, none⟩)) (QV.fieldB fo_35_1 rfl rfl) rfl rfl rfl ?_
                      refine JL.val (v := .int .i64 (gd x2 d18).2.1) (QV.load1 (ss := [Seg.c (.int .u8 (gd x2 d18).1), Seg.c (.int .i64 (gd x2 d18).2.1), Seg.c (.int .i64 (gd x2 d18).2.2.1), Seg.c ((gd z3 d18).2.2.2.v)]) 5 1 rfl tk_3 rfl rfl rfl) rfl rfl rfl ?_
                      refine JL.val (v := .int .i64 d40) (QV.move rfl) rfl rfl rfl ?_
                      refine JL.val (v := .int .i64 (IntKind.wrap .i64 ((gd x2 d18).2.1 + d40))) (QV.add rfl rfl) rfl rfl rfl ?_
                      obtain ⟨h49, hm⟩ := guard_inv hm
                      refine JL.val (v := .pointer (some (elA (s4.v) (Int.toNat (IntKind.wrap .i64 ((gd x2 d18).2.1 + d40)) * ((Enc.int .u8)).sz)))) (QV.indexA (Rdg.vw 1 rfl) Try.underlying23 tk_5 rfl rfl h49) rfl rfl rfl ?_
                      refine JL.val (v := .int .u8 (gd x5 (IntKind.wrap .i64 ((gd x2 d18).2.1 + d40)))) (QV.el1 (Rdg.vw 1 rfl) tk_5 rfl h49 rfl) rfl rfl rfl ?_
                      refine JL.val (v := .int .u8 (gd x5 (IntKind.wrap .i64 ((gd x2 d18).2.1 + d40)))) (QV.assign rfl) rfl rfl rfl ?_
                      refine JL.nil ?_
                      refine QJ.then_normal ?_
                      refine JC.seq ?_
                      refine JC.seq ?_
                      refine JC.region ?_
                      refine JL.val (v := .pointer (some ⟨b30, 0, none⟩)) (QV.fieldB fo_35_0 rfl rfl) rfl rfl rfl ?_
                      refine JL.val (v := .int .u8 (gd x2 d18).1) (QV.load1 (ss := [Seg.c (.int .u8 (gd x2 d18).1), Seg.c (.int .i64 (gd x2 d18).2.1), Seg.c (.int .i64 (gd x2 d18).2.2.1), Seg.c ((gd z3 d18).2.2.2.v)]) 5 0 rfl tk_5 rfl rfl rfl) rfl rfl rfl ?_
                      refine JL.val (v := .bool (decide ((gd x2 d18).1 = (3 : Int)))) (QV.eql rfl rfl) rfl rfl rfl ?_
                      refine JL.nil ?_
                      refine QJ.then_normal ?_
                      refine JC.cutK (Y := Int × Unit) (fun y => match y with | (d50, _) => F17.j5 d39 d40 (d50) = some s47) (fun y => match y with | (d50, _) => [(0, s1.v), (1, s4.v), (8, z10.v), (11, z38.v), (13, .pointer (some ⟨b30, 0, none⟩)), (14, .int .i64 d40), (15, .int .u8 d50), (46, .int .i64 ((x2).length : Int)), (47, .int .i64 d18)]) (fun y => match y with | (d50, _) => [Asr.vn (NE.pair (NE.flat (Enc.int .u8)) (NE.pair (NE.flat (Enc.int .i64)) (NE.pair (NE.flat (Enc.int .i64)) (NE.sl (Enc.int .u8))))) (s1.v) z3 x2, Asr.vw (Enc.int .u8) (s4.v) x5, Asr.of 5 (Enc.int .u8) (z10.v) ([] : List Int), Asr.of 5 (Enc.int .u8) (z38.v) d39, Asr.vw (Enc.int .u8) ((gd z3 d18).2.2.2.v) (gd x2 d18).2.2.2, Asr.blk b30 35 [Seg.c (.int .u8 (gd x2 d18).1), Seg.c (.int .i64 (gd x2 d18).2.1), Seg.c (.int .i64 (gd x2 d18).2.2.1), Seg.c ((gd z3 d18).2.2.2.v)]]) ?_ ?_
                      ·
                        rintro ⟨d50, ⟨⟩⟩ hm
                        unfold F17.j5 at hm
                        show QJ _ _ [(0, s1.v), (1, s4.v), (8, z10.v), (11, z38.v), (13, .pointer (some ⟨b30, 0, none⟩)), (14, .int .i64 d40), (15, .int .u8 d50), (46, .int .i64 ((x2).length : Int)), (47, .int .i64 d18)] [Asr.vn (NE.pair (NE.flat (Enc.int .u8)) (NE.pair (NE.flat (Enc.int .i64)) (NE.pair (NE.flat (Enc.int .i64)) (NE.sl (Enc.int .u8))))) (s1.v) z3 x2, Asr.vw (Enc.int .u8) (s4.v) x5, Asr.of 5 (Enc.int .u8) (z10.v) ([] : List Int), Asr.of 5 (Enc.int .u8) (z38.v) d39, Asr.vw (Enc.int .u8) ((gd z3 d18).2.2.2.v) (gd x2 d18).2.2.2, Asr.blk b30 35 [Seg.c (.int .u8 (gd x2 d18).1), Seg.c (.int .i64 (gd x2 d18).2.1), Seg.c (.int .i64 (gd x2 d18).2.2.1), Seg.c ((gd z3 d18).2.2.2.v)]] _ _
                        refine QJ.then_normal ?_
                        refine JC.region ?_
                        refine JL.val (v := z38.v) (QV.move rfl) rfl rfl rfl ?_
                        refine JL.val (v := .int .u8 d50) (QV.move rfl) rfl rfl rfl ?_
                        refine JL.mv (d := some 102) (MV.lit (E := (Enc.int .u8)) (vals := [(0, .int .u8 d50)]) [d50] Try.underlying23 zi_5 rfl (by decide) rfl (by kernel_rfl)) rfl rfl rfl ?_
                        rintro _ _ ⟨z51, rfl, rfl⟩
                        obtain ⟨h52, hm⟩ := guard_inv hm
                        refine JL.mv (d := some 103) (MV.append 4 rfl (Rdg.of 0 rfl) Try.underlying23 zi_5 rfl (by decide) rfl rfl h52) rfl rfl rfl ?_
                        rintro _ _ ⟨z53, rfl, rfl⟩
                        refine JL.val (v := z53.v) (QV.assign rfl) rfl rfl rfl ?_
                        refine JL.nil ?_
                        refine QJ.block_normal ?_
                        refine QJ.then_normal ?_
                        refine JC.region ?_
                        refine JL.val (v := .int .i64 d40) (QV.move rfl) rfl rfl rfl ?_
                        refine JL.val (v := .int .i64 (IntKind.wrap .i64 (d40 + (1 : Int)))) (QV.add rfl rfl) rfl rfl rfl ?_
                        refine JL.val (v := .int .i64 (IntKind.wrap .i64 (d40 + (1 : Int)))) (QV.assign rfl) rfl rfl rfl ?_
                        refine JL.nil ?_
                        obtain rfl := Option.some.inj hm
                        exact QJ.round_on ((d39 ++ [d50]), (IntKind.wrap .i64 (d40 + (1 : Int)))) z53 [1, 2, 3, 4, 5, 6] (by exact ⟨rfl, rfl, rfl, rfl, rfl, rfl, rfl, rfl, trivial⟩) rfl rfl
                      ·
                        rcases ite_inv hm with ⟨h54, hm⟩ | ⟨h54, hm⟩
                        ·
                          refine JC.condT' rfl (decide_eq_true h54) ?_
                          refine JC.region ?_
                          refine JL.val (v := .int .u8 (gd x5 (IntKind.wrap .i64 ((gd x2 d18).2.1 + d40)))) (QV.move rfl) rfl rfl rfl ?_
                          refine JL.val (v := .pointer (some ⟨b30, 3, none⟩)) (QV.fieldB fo_35_3 rfl rfl) rfl rfl rfl ?_
                          refine JL.val (v := (gd z3 d18).2.2.2.v) (QV.load1 (ss := [Seg.c (.int .u8 (gd x2 d18).1), Seg.c (.int .i64 (gd x2 d18).2.1), Seg.c (.int .i64 (gd x2 d18).2.2.1), Seg.c ((gd z3 d18).2.2.2.v)]) 5 3 rfl tk_23 rfl rfl rfl) rfl rfl rfl ?_
                          refine JL.val (v := .int .i64 d40) (QV.move rfl) rfl rfl rfl ?_
                          obtain ⟨h55, hm⟩ := guard_inv hm
                          refine JL.val (v := .pointer (some (elA ((gd z3 d18).2.2.2.v) (Int.toNat d40 * ((Enc.int .u8)).sz)))) (QV.indexA (Rdg.vw 4 rfl) Try.underlying23 tk_5 rfl rfl h55) rfl rfl rfl ?_
                          refine JL.val (v := .int .u8 (gd (gd x2 d18).2.2.2 d40)) (QV.el1 (Rdg.vw 4 rfl) tk_5 rfl h55 rfl) rfl rfl rfl ?_
                          refine JL.val (v := .int .u8 (IntKind.wrap .u8 ((gd x5 (IntKind.wrap .i64 ((gd x2 d18).2.1 + d40))) + (gd (gd x2 d18).2.2.2 d40)))) (QV.add rfl rfl) rfl rfl rfl ?_
                          refine JL.val (v := .int .u8 (IntKind.wrap .u8 ((gd x5 (IntKind.wrap .i64 ((gd x2 d18).2.1 + d40))) + (gd (gd x2 d18).2.2.2 d40)))) (QV.assign rfl) rfl rfl rfl ?_
                          refine JL.nil ?_
                          exact QJ.cut_normal ((IntKind.wrap .u8 ((gd x5 (IntKind.wrap .i64 ((gd x2 d18).2.1 + d40))) + (gd (gd x2 d18).2.2.2 d40))), ()) hm [0, 1, 2, 3, 4, 5] (by exact ⟨rfl, rfl, rfl, rfl, rfl, rfl, rfl, rfl, rfl, trivial⟩) rfl rfl
                        ·
                          refine JC.condF' rfl (decide_eq_false h54) ?_
                          refine JC.skip ?_
                          exact QJ.cut_normal ((gd x5 (IntKind.wrap .i64 ((gd x2 d18).2.1 + d40))), ()) hm [0, 1, 2, 3, 4, 5] (by exact ⟨rfl, rfl, rfl, rfl, rfl, rfl, rfl, rfl, rfl, trivial⟩) rfl rfl
                    ·
                      refine JC.condF' rfl (decide_eq_false h48) ?_
                      refine JC.exit ?_
                      refine QJ.then_exit ?_
                      obtain rfl := Option.some.inj hm
                      refine QJ.round_exit (fun hy => ?_)
                      subst hy
                      refine QJ.block_hit ?_
                      exact QJ.cut_normal (d39, z38) hmo46 [0, 1, 2, 3] (by exact ⟨rfl, rfl, rfl, rfl, rfl, rfl, trivial⟩) rfl rfl
        ·
          refine JC.condF' rfl (decide_eq_false h26) ?_
          refine JC.exit ?_
          refine QJ.then_exit ?_
          obtain rfl := Option.some.inj hm
          refine QJ.round_exit (fun hy => ?_)
          subst hy
          refine QJ.block_hit ?_
          exact QJ.cut_normal (d17, z16) hmo24 [3] (by exact ⟨rfl, trivial⟩) rfl rfl
    ·
      refine JC.condT' rfl (congrArg Bool.not (decide_eq_false h12)) ?_
      refine JC.seq ?_
      refine JC.region ?_
      refine JL.val (v := z10.v) (QV.move rfl) rfl rfl rfl ?_
      refine JL.val (v := z10.v) (QV.assign rfl) rfl rfl rfl ?_
      refine JL.val (v := .int .i64 (13 : Int)) (QV.assign rfl) rfl rfl rfl ?_
      refine JL.nil ?_
      refine QJ.then_normal ?_
      refine JC.ret ?_
      refine QJ.then_ret ?_
      obtain rfl := Option.some.inj hm
      exact QJ.body (vs := [z10.v, .int .i64 (13 : Int)]) (.inl rfl) rfl (ResVs.cons (ResV.tmp rfl) (ResVs.cons (ResV.tmp rfl) ResVs.nil)) [2] rfl rfl (.inr ⟨own_of _ _ _ _, trivial⟩) ⟨z10, rfl, rfl⟩
  ·
    refine JC.block ?_
    obtain ⟨y60, hl61, hmo62⟩ := bind_inv hm
    refine JC.loop (F17.b3 x2 x6) (fun x z => match x, z with | (d56, d57), _ => [(0, s1.v), (1, s4.v), (2, .int .i64 x6), (8, z10.v), (9, .int .i64 d56), (18, .int .i64 ((x2).length : Int)), (19, .int .i64 d57)]) (fun x z => match x, z with | (d56, d57), _ => [Asr.vn (NE.pair (NE.flat (Enc.int .u8)) (NE.pair (NE.flat (Enc.int .i64)) (NE.pair (NE.flat (Enc.int .i64)) (NE.sl (Enc.int .u8))))) (s1.v) z3 x2, Asr.vw (Enc.int .u8) (s4.v) x5, Asr.of 5 (Enc.int .u8) (z10.v) ([] : List Int)]) ((0 : Int), (0 : Int)) () y60 hl61 [2, 3, 0] (by exact ⟨rfl, rfl, rfl, rfl, rfl, rfl, rfl, trivial⟩) rfl rfl ?_
    rintro ⟨d56, d57⟩ ⟨⟩ s63 hm
    unfold F17.b3 at hm
    dsimp only at hm
    show JC _ _ _ [(0, s1.v), (1, s4.v), (2, .int .i64 x6), (8, z10.v), (9, .int .i64 d56), (18, .int .i64 ((x2).length : Int)), (19, .int .i64 d57)] [Asr.vn (NE.pair (NE.flat (Enc.int .u8)) (NE.pair (NE.flat (Enc.int .i64)) (NE.pair (NE.flat (Enc.int .i64)) (NE.sl (Enc.int .u8))))) (s1.v) z3 x2, Asr.vw (Enc.int .u8) (s4.v) x5, Asr.of 5 (Enc.int .u8) (z10.v) ([] : List Int)] _ _
    refine JC.seq ?_
    refine JC.region ?_
    refine JL.val (v := .bool (decide (d57 < ((x2).length : Int)))) (QV.lss rfl rfl) rfl rfl rfl ?_
    refine JL.nil ?_
    refine QJ.then_normal ?_
    refine JC.seq ?_
    rcases ite_inv hm with ⟨h64, hm⟩ | ⟨h64, hm⟩
    ·
      refine JC.condT' rfl (decide_eq_true h64) ?_
      refine JC.skip ?_
      refine QJ.then_normal ?_
      refine JC.seq ?_
      refine JC.block ?_
      refine JC.seq ?_
      refine JC.region ?_
      refine JL.val (v := .int .i64 d57) (QV.move rfl) rfl rfl rfl ?_
      refine JL.val (v := .int .i64 d57) (QV.assign rfl) rfl rfl rfl ?_
      refine JL.nil ?_
      refine QJ.then_normal ?_
      refine JC.seq ?_
      refine JC.seq ?_
      refine JC.region ?_
      refine JL.val (v := s1.v) (QV.move rfl) rfl rfl rfl ?_
      refine JL.val (v := .int .i64 d57) (QV.move rfl) rfl rfl rfl ?_
      obtain ⟨h65, hm⟩ := guard_inv hm
      refine JL.val (v := .pointer (some (elA (s1.v) (Int.toNat d57 * ((NE.pair (NE.flat (Enc.int .u8)) (NE.pair (NE.flat (Enc.int .i64)) (NE.pair (NE.flat (Enc.int .i64)) (NE.sl (Enc.int .u8))))).E).sz)))) (QV.indexN (RdN.vn 0 rfl) Try.underlying22 tk_35 rfl rfl h65) rfl rfl rfl ?_
      refine JL.val (v := .agg #[.int .u8 (gd x2 d57).1, .int .i64 (gd x2 d57).2.1, .int .i64 (gd x2 d57).2.2.1, (gd z3 d57).2.2.2.v]) (QV.eq (QV.elNN (RdN.vn 0 rfl) tk_35 rfl h65) rfl) rfl rfl rfl ?_
      obtain ⟨y66, hc67, hm⟩ := bind_inv hm
      refine JL.mv (d := some 26) (MV.call (Lo := []) (Lr := [Asr.vn (NE.pair (NE.flat (Enc.int .u8)) (NE.pair (NE.flat (Enc.int .i64)) (NE.pair (NE.flat (Enc.int .i64)) (NE.sl (Enc.int .u8))))) (s1.v) z3 x2, Asr.vw (Enc.int .u8) (s4.v) x5, Asr.of 5 (Enc.int .u8) (z10.v) ([] : List Int)]) (F24.spec ((gd z3 d57).2.2.2) ((gd x2 d57).1) ((gd x2 d57).2.1) ((gd x2 d57).2.2.1) ((gd x2 d57).2.2.2) _ hc67) rfl Try.func24 rfl rfl rfl [] [0, 1, 2] rfl rfl rfl ⟨(Drv.el (K := (NE.pair (NE.flat (Enc.int .u8)) (NE.pair (NE.flat (Enc.int .i64)) (NE.pair (NE.flat (Enc.int .i64)) (NE.sl (Enc.int .u8)))))) (A := Asr.vw (Enc.int .u8) ((gd z3 d57).2.2.2.v) (gd x2 d57).2.2.2) (Drv.vn 0 rfl) h65 (fun _ _ q => q.2.2.2)), trivial⟩) rfl rfl rfl ?_
      rintro _ _ ⟨_, ⟨rfl, rfl⟩, rfl⟩
      refine JL.val (v := .bool (!y66)) (QV.not rfl) rfl rfl rfl ?_
      refine JL.nil ?_
      refine QJ.then_normal ?_
      rcases ite_inv hm with ⟨h68, hm⟩ | ⟨h68, hm⟩
      ·
        refine JC.condF' rfl (congrArg Bool.not h68) ?_
        refine JC.skip ?_
        refine QJ.then_normal ?_
        refine JC.seq ?_
        refine JC.region ?_
        refine JL.val (v := .int .i64 d56) (QV.move rfl) rfl rfl rfl ?_
        refine JL.val (v := .int .i64 x6) (QV.move rfl) rfl rfl rfl ?_
        refine JL.val (v := .bool (decide (d56 ≤ x6))) (QV.leq rfl rfl) rfl rfl rfl ?_
        refine JL.nil ?_
        refine QJ.then_normal ?_
        refine JC.cutK (Y := Int × Unit) (fun y => match y with | (d69, _) => F17.j6 d57 (d69) = some s63) (fun y => match y with | (d69, _) => [(0, s1.v), (1, s4.v), (2, .int .i64 x6), (8, z10.v), (9, .int .i64 d69), (18, .int .i64 ((x2).length : Int)), (19, .int .i64 d57)]) (fun y => match y with | (d69, _) => [Asr.vn (NE.pair (NE.flat (Enc.int .u8)) (NE.pair (NE.flat (Enc.int .i64)) (NE.pair (NE.flat (Enc.int .i64)) (NE.sl (Enc.int .u8))))) (s1.v) z3 x2, Asr.vw (Enc.int .u8) (s4.v) x5, Asr.of 5 (Enc.int .u8) (z10.v) ([] : List Int)]) ?_ ?_
        ·
          rintro ⟨d69, ⟨⟩⟩ hm
          unfold F17.j6 at hm
          show QJ _ _ [(0, s1.v), (1, s4.v), (2, .int .i64 x6), (8, z10.v), (9, .int .i64 d69), (18, .int .i64 ((x2).length : Int)), (19, .int .i64 d57)] [Asr.vn (NE.pair (NE.flat (Enc.int .u8)) (NE.pair (NE.flat (Enc.int .i64)) (NE.pair (NE.flat (Enc.int .i64)) (NE.sl (Enc.int .u8))))) (s1.v) z3 x2, Asr.vw (Enc.int .u8) (s4.v) x5, Asr.of 5 (Enc.int .u8) (z10.v) ([] : List Int)] _ _
          refine QJ.block_normal ?_
          refine QJ.then_normal ?_
          refine JC.region ?_
          refine JL.val (v := .int .i64 (IntKind.wrap .i64 (d57 + (1 : Int)))) (QV.add rfl rfl) rfl rfl rfl ?_
          refine JL.val (v := .int .i64 (IntKind.wrap .i64 (d57 + (1 : Int)))) (QV.move rfl) rfl rfl rfl ?_
          refine JL.nil ?_
          obtain rfl := Option.some.inj hm
          exact QJ.round_on (d69, (IntKind.wrap .i64 (d57 + (1 : Int)))) () [0, 1, 2] (by exact ⟨rfl, rfl, rfl, rfl, rfl, rfl, rfl, trivial⟩) rfl rfl
        ·
          rcases ite_inv hm with ⟨h70, hm⟩ | ⟨h70, hm⟩
          ·
            refine JC.condT' rfl (decide_eq_true h70) ?_
            refine JC.region ?_
            refine JL.val (v := .int .i64 d56) (QV.move rfl) rfl rfl rfl ?_
            refine JL.val (v := s1.v) (QV.move rfl) rfl rfl rfl ?_
            refine JL.val (v := .int .i64 d57) (QV.move rfl) rfl rfl rfl ?_
            refine JL.val (v := .pointer (some (elA (s1.v) (Int.toNat d57 * ((NE.pair (NE.flat (Enc.int .u8)) (NE.pair (NE.flat (Enc.int .i64)) (NE.pair (NE.flat (Enc.int .i64)) (NE.sl (Enc.int .u8))))).E).sz)))) (QV.indexN (RdN.vn 0 rfl) Try.underlying22 tk_35 rfl rfl h65) rfl rfl rfl ?_
            refine JL.val (v := .pointer (some ((elA (s1.v) (Int.toNat d57 * ((NE.pair (NE.flat (Enc.int .u8)) (NE.pair (NE.flat (Enc.int .i64)) (NE.pair (NE.flat (Enc.int .i64)) (NE.sl (Enc.int .u8))))).E).sz)).add 2))) (QV.fieldA fo_35_2 rfl) rfl rfl rfl ?_
            refine JL.val (v := .int .i64 (gd x2 d57).2.2.1) (QV.elFN (RdN.vn 0 rfl) tk_3 rfl h65 rfl) rfl rfl rfl ?_
            refine JL.val (v := .int .i64 (IntKind.wrap .i64 (d56 + (gd x2 d57).2.2.1))) (QV.add rfl rfl) rfl rfl rfl ?_
            refine JL.val (v := .int .i64 (IntKind.wrap .i64 (d56 + (gd x2 d57).2.2.1))) (QV.assign rfl) rfl rfl rfl ?_
            refine JL.nil ?_
            exact QJ.cut_normal ((IntKind.wrap .i64 (d56 + (gd x2 d57).2.2.1)), ()) hm [0, 1, 2] (by exact ⟨rfl, rfl, rfl, rfl, rfl, rfl, rfl, trivial⟩) rfl rfl
          ·
            refine JC.condF' rfl (decide_eq_false h70) ?_
            refine JC.skip ?_
            exact QJ.cut_normal (d56, ()) hm [0, 1, 2] (by exact ⟨rfl, rfl, rfl, rfl, rfl, rfl, rfl, trivial⟩) rfl rfl
      ·
        refine JC.condT' rfl (congrArg Bool.not (bfalse h68)) ?_
        refine JC.seq ?_
        refine JC.region ?_
        refine JL.val (v := z10.v) (QV.move rfl) rfl rfl rfl ?_
        refine JL.val (v := z10.v) (QV.assign rfl) rfl rfl rfl ?_
        refine JL.val (v := .int .i64 (3 : Int)) (QV.assign rfl) rfl rfl rfl ?_
        refine JL.nil ?_
        refine QJ.then_normal ?_
        refine JC.ret ?_
        refine QJ.then_ret ?_
        refine QJ.block_ret ?_
        refine QJ.then_ret ?_
        obtain rfl := Option.some.inj hm
        refine QJ.round_ret (fun hy => ?_)
        subst hy
        refine QJ.block_ret ?_
        refine QJ.cut_ret ?_
        refine QJ.then_ret ?_
        obtain rfl := Option.some.inj hmo62
        exact QJ.body (vs := [z10.v, .int .i64 (3 : Int)]) (.inl rfl) rfl (ResVs.cons (ResV.tmp rfl) (ResVs.cons (ResV.tmp rfl) ResVs.nil)) [2] rfl rfl (.inr ⟨own_of _ _ _ _, trivial⟩) ⟨z10, rfl, rfl⟩
    ·
      refine JC.condF' rfl (decide_eq_false h64) ?_
      refine JC.exit ?_
      refine QJ.then_exit ?_
      obtain rfl := Option.some.inj hm
      refine QJ.round_exit (fun hy => ?_)
      subst hy
      refine QJ.block_hit ?_
      exact QJ.cut_normal (d56, ()) hmo62 [0, 1, 2] (by exact ⟨rfl, rfl, rfl, rfl, rfl, trivial⟩) rfl rfl

end Go.Proofs.Ytedokgdilpfomaa
