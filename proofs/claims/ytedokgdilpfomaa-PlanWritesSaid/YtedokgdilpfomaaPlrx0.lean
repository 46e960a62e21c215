/- Written by gen.py: functions and their contracts. -/
import Derived.Test.YtedokgdilpfomaaPlrFacts
namespace Go.Proofs.Ytedokgdilpfomaa
open Go Go.Eng Go.Proofs
set_option linter.unusedVariables false
set_option linter.unusedSimpArgs false
/-! ### 23: drogher/plan.Right -/
noncomputable def F23.m (x1 : Int) (x2 : Int) (x3 : Int) (x5 : List Int) : Option Bool :=
  (if x3 < (1 : Int) then some false else (if (4096 : Int) < x3 then some false else (if x2 < (0 : Int) then some false else (if (2147483647 : Int) < x2 then some false else (if x1 = (1 : Int) then (if x2 = (0 : Int) then some (decide (((x5).length : Int) = x3)) else some false) else (if x1 = (2 : Int) then some (decide (((x5).length : Int) = (0 : Int))) else (if x1 = (3 : Int) then some (decide (((x5).length : Int) = x3)) else some false)))))))
set_option maxRecDepth 100000 in
set_option maxHeartbeats 4000000 in
theorem F23.spec (s4 : SlV) (x1 : Int) (x2 : Int) (x3 : Int) (x5 : List Int) (r : Bool) (hm : F23.m x1 x2 x3 x5 = some r) :
    Ctr Try.prog false 23 [.agg #[.int .u8 x1, .int .i64 x2, .int .i64 x3, s4.v]] [Asr.vw (Enc.int .u8) (s4.v) x5] (fun v L' => v = .bool r ∧ L' = []) := by
  refine Ctr.intro (n := 50) (env := [(0, .agg #[.int .u8 x1, .int .i64 x2, .int .i64 x3, s4.v])]) Try.func23 rfl rfl rfl rfl (fun c => ?_)
  unfold F23.m at hm
  refine JC.seq ?_
  refine JC.region ?_
  refine JL.mv (d := some 1) (MV.box [Seg.c (.int .u8 x1), Seg.c (.int .i64 x2), Seg.c (.int .i64 x3), Seg.c (s4.v)] rfl (fun w hs => rfl)) rfl rfl rfl ?_
  rintro _ _ ⟨b7, rfl, rfl⟩
  refine JL.val (v := .bool false) (QV.assign rfl) rfl rfl rfl ?_
  refine JL.nil ?_
  refine QJ.then_normal ?_
  refine JC.seq ?_
  refine JC.seq ?_
  refine JC.region ?_
  refine JL.val (v := .pointer (some ⟨b7, 2, none⟩)) (QV.fieldB fo_35_2 rfl rfl) rfl rfl rfl ?_
  refine JL.val (v := .int .i64 x3) (QV.load1 (ss := [Seg.c (.int .u8 x1), Seg.c (.int .i64 x2), Seg.c (.int .i64 x3), Seg.c (s4.v)]) 0 2 rfl tk_3 rfl rfl rfl) rfl rfl rfl ?_
  refine JL.val (v := .bool (decide (x3 < (1 : Int)))) (QV.lss rfl rfl) rfl rfl rfl ?_
  rcases ite_inv hm with ⟨h8, hm⟩ | ⟨h8, hm⟩
  ·
    refine JL.val (v := .bool true) (QV.eq (QV.move rfl) (congrArg Value.bool (decide_eq_true h8))) rfl rfl rfl ?_
    refine JL.skip (d := some 7) rfl rfl rfl ?_
    refine JL.skip (d := some 8) rfl rfl rfl ?_
    refine JL.skip (d := some 9) rfl rfl rfl ?_
    refine JL.val (v := .bool true) (QV.pickT rfl rfl) rfl rfl rfl ?_
    refine JL.val (v := .bool true) (QV.move rfl) rfl rfl rfl ?_
    refine JL.skip (d := some 12) rfl rfl rfl ?_
    refine JL.skip (d := some 13) rfl rfl rfl ?_
    refine JL.skip (d := some 14) rfl rfl rfl ?_
    refine JL.val (v := .bool true) (QV.pickT rfl rfl) rfl rfl rfl ?_
    refine JL.val (v := .bool true) (QV.move rfl) rfl rfl rfl ?_
    refine JL.skip (d := some 17) rfl rfl rfl ?_
    refine JL.skip (d := some 18) rfl rfl rfl ?_
    refine JL.skip (d := some 19) rfl rfl rfl ?_
    refine JL.val (v := .bool true) (QV.pickT rfl rfl) rfl rfl rfl ?_
    refine JL.nil ?_
    refine QJ.then_normal ?_
    refine JC.condT rfl ?_
    refine JC.seq ?_
    refine JC.region ?_
    refine JL.val (v := .bool false) (QV.assign rfl) rfl rfl rfl ?_
    refine JL.nil ?_
    refine QJ.then_normal ?_
    refine JC.ret ?_
    refine QJ.then_ret ?_
    obtain rfl := Option.some.inj hm
    exact QJ.body (vs := [.bool false]) (.inl rfl) rfl (ResVs.cons (ResV.tmp rfl) ResVs.nil) [] rfl rfl (.inr trivial) ⟨rfl, rfl⟩
  ·
    refine JL.val (v := .bool false) (QV.eq (QV.move rfl) (congrArg Value.bool (decide_eq_false h8))) rfl rfl rfl ?_
    refine JL.val (v := .pointer (some ⟨b7, 2, none⟩)) (QV.fieldB fo_35_2 rfl rfl) rfl rfl rfl ?_
    refine JL.val (v := .int .i64 x3) (QV.load1 (ss := [Seg.c (.int .u8 x1), Seg.c (.int .i64 x2), Seg.c (.int .i64 x3), Seg.c (s4.v)]) 0 2 rfl tk_3 rfl rfl rfl) rfl rfl rfl ?_
    refine JL.val (v := .bool (decide ((4096 : Int) < x3))) (QV.gtr rfl rfl) rfl rfl rfl ?_
    refine JL.val (v := .bool (decide ((4096 : Int) < x3))) (QV.pickF rfl rfl) rfl rfl rfl ?_
    rcases ite_inv hm with ⟨h9, hm⟩ | ⟨h9, hm⟩
    ·
      refine JL.val (v := .bool true) (QV.eq (QV.move rfl) (congrArg Value.bool (decide_eq_true h9))) rfl rfl rfl ?_
      refine JL.skip (d := some 12) rfl rfl rfl ?_
      refine JL.skip (d := some 13) rfl rfl rfl ?_
      refine JL.skip (d := some 14) rfl rfl rfl ?_
      refine JL.val (v := .bool true) (QV.pickT rfl rfl) rfl rfl rfl ?_
      refine JL.val (v := .bool true) (QV.move rfl) rfl rfl rfl ?_
      refine JL.skip (d := some 17) rfl rfl rfl ?_
      refine JL.skip (d := some 18) rfl rfl rfl ?_
      refine JL.skip (d := some 19) rfl rfl rfl ?_
      refine JL.val (v := .bool true) (QV.pickT rfl rfl) rfl rfl rfl ?_
      refine JL.nil ?_
      refine QJ.then_normal ?_
      refine JC.condT rfl ?_
      refine JC.seq ?_
      refine JC.region ?_
      refine JL.val (v := .bool false) (QV.assign rfl) rfl rfl rfl ?_
      refine JL.nil ?_
      refine QJ.then_normal ?_
      refine JC.ret ?_
      refine QJ.then_ret ?_
      obtain rfl := Option.some.inj hm
      exact QJ.body (vs := [.bool false]) (.inl rfl) rfl (ResVs.cons (ResV.tmp rfl) ResVs.nil) [] rfl rfl (.inr trivial) ⟨rfl, rfl⟩
    ·
      refine JL.val (v := .bool false) (QV.eq (QV.move rfl) (congrArg Value.bool (decide_eq_false h9))) rfl rfl rfl ?_
      refine JL.val (v := .pointer (some ⟨b7, 1, none⟩)) (QV.fieldB fo_35_1 rfl rfl) rfl rfl rfl ?_
      refine JL.val (v := .int .i64 x2) (QV.load1 (ss := [Seg.c (.int .u8 x1), Seg.c (.int .i64 x2), Seg.c (.int .i64 x3), Seg.c (s4.v)]) 0 1 rfl tk_3 rfl rfl rfl) rfl rfl rfl ?_
      refine JL.val (v := .bool (decide (x2 < (0 : Int)))) (QV.lss rfl rfl) rfl rfl rfl ?_
      refine JL.val (v := .bool (decide (x2 < (0 : Int)))) (QV.pickF rfl rfl) rfl rfl rfl ?_
      rcases ite_inv hm with ⟨h10, hm⟩ | ⟨h10, hm⟩
      ·
        refine JL.val (v := .bool true) (QV.eq (QV.move rfl) (congrArg Value.bool (decide_eq_true h10))) rfl rfl rfl ?_
        refine JL.skip (d := some 17) rfl rfl rfl ?_
        refine JL.skip (d := some 18) rfl rfl rfl ?_
        refine JL.skip (d := some 19) rfl rfl rfl ?_
        refine JL.val (v := .bool true) (QV.pickT rfl rfl) rfl rfl rfl ?_
        refine JL.nil ?_
        refine QJ.then_normal ?_
        refine JC.condT rfl ?_
        refine JC.seq ?_
        refine JC.region ?_
        refine JL.val (v := .bool false) (QV.assign rfl) rfl rfl rfl ?_
        refine JL.nil ?_
        refine QJ.then_normal ?_
        refine JC.ret ?_
        refine QJ.then_ret ?_
        obtain rfl := Option.some.inj hm
        exact QJ.body (vs := [.bool false]) (.inl rfl) rfl (ResVs.cons (ResV.tmp rfl) ResVs.nil) [] rfl rfl (.inr trivial) ⟨rfl, rfl⟩
      ·
        refine JL.val (v := .bool false) (QV.eq (QV.move rfl) (congrArg Value.bool (decide_eq_false h10))) rfl rfl rfl ?_
        refine JL.val (v := .pointer (some ⟨b7, 1, none⟩)) (QV.fieldB fo_35_1 rfl rfl) rfl rfl rfl ?_
        refine JL.val (v := .int .i64 x2) (QV.load1 (ss := [Seg.c (.int .u8 x1), Seg.c (.int .i64 x2), Seg.c (.int .i64 x3), Seg.c (s4.v)]) 0 1 rfl tk_3 rfl rfl rfl) rfl rfl rfl ?_
        refine JL.val (v := .bool (decide ((2147483647 : Int) < x2))) (QV.gtr rfl rfl) rfl rfl rfl ?_
        refine JL.val (v := .bool (decide ((2147483647 : Int) < x2))) (QV.pickF rfl rfl) rfl rfl rfl ?_
        refine JL.nil ?_
        refine QJ.then_normal ?_
        rcases ite_inv hm with ⟨h11, hm⟩ | ⟨h11, hm⟩
        ·
          refine JC.condT' rfl (decide_eq_true h11) ?_
          refine JC.seq ?_
          refine JC.region ?_
          refine JL.val (v := .bool false) (QV.assign rfl) rfl rfl rfl ?_
          refine JL.nil ?_
          refine QJ.then_normal ?_
          refine JC.ret ?_
          refine QJ.then_ret ?_
          obtain rfl := Option.some.inj hm
          exact QJ.body (vs := [.bool false]) (.inl rfl) rfl (ResVs.cons (ResV.tmp rfl) ResVs.nil) [] rfl rfl (.inr trivial) ⟨rfl, rfl⟩
        ·
          refine JC.condF' rfl (decide_eq_false h11) ?_
          refine JC.skip ?_
          refine QJ.then_normal ?_
          refine JC.seq ?_
          refine JC.seq ?_
          refine JC.region ?_
          refine JL.val (v := .pointer (some ⟨b7, 0, none⟩)) (QV.fieldB fo_35_0 rfl rfl) rfl rfl rfl ?_
          refine JL.val (v := .int .u8 x1) (QV.load1 (ss := [Seg.c (.int .u8 x1), Seg.c (.int .i64 x2), Seg.c (.int .i64 x3), Seg.c (s4.v)]) 0 0 rfl tk_5 rfl rfl rfl) rfl rfl rfl ?_
          refine JL.nil ?_
          refine QJ.then_normal ?_
          refine JC.block ?_
          refine JC.seq ?_
          refine JC.region ?_
          refine JL.val (v := .bool (decide (x1 = (1 : Int)))) (QV.eql rfl rfl) rfl rfl rfl ?_
          refine JL.val (v := .bool (decide (x1 = (1 : Int)))) (QV.assign rfl) rfl rfl rfl ?_
          refine JL.nil ?_
          refine QJ.then_normal ?_
          rcases ite_inv hm with ⟨h12, hm⟩ | ⟨h12, hm⟩
          ·
            refine JC.condT' rfl (decide_eq_true h12) ?_
            refine JC.seq ?_
            refine JC.region ?_
            refine JL.val (v := .pointer (some ⟨b7, 1, none⟩)) (QV.fieldB fo_35_1 rfl rfl) rfl rfl rfl ?_
            refine JL.val (v := .int .i64 x2) (QV.load1 (ss := [Seg.c (.int .u8 x1), Seg.c (.int .i64 x2), Seg.c (.int .i64 x3), Seg.c (s4.v)]) 0 1 rfl tk_3 rfl rfl rfl) rfl rfl rfl ?_
            refine JL.val (v := .bool (decide (x2 = (0 : Int)))) (QV.eql rfl rfl) rfl rfl rfl ?_
            rcases ite_inv hm with ⟨h13, hm⟩ | ⟨h13, hm⟩
            ·
              refine JL.val (v := .bool true) (QV.eq (QV.move rfl) (congrArg Value.bool (decide_eq_true h13))) rfl rfl rfl ?_
              refine JL.val (v := .pointer (some ⟨b7, 3, none⟩)) (QV.fieldB fo_35_3 rfl rfl) rfl rfl rfl ?_
              refine JL.val (v := s4.v) (QV.load1 (ss := [Seg.c (.int .u8 x1), Seg.c (.int .i64 x2), Seg.c (.int .i64 x3), Seg.c (s4.v)]) 0 3 rfl tk_23 rfl rfl rfl) rfl rfl rfl ?_
              refine JL.val (v := .int .i64 ((x5).length : Int)) (QV.len (Rdg.vw 1 rfl) Try.underlying23 rfl) rfl rfl rfl ?_
              refine JL.val (v := .pointer (some ⟨b7, 2, none⟩)) (QV.fieldB fo_35_2 rfl rfl) rfl rfl rfl ?_
              refine JL.val (v := .int .i64 x3) (QV.load1 (ss := [Seg.c (.int .u8 x1), Seg.c (.int .i64 x2), Seg.c (.int .i64 x3), Seg.c (s4.v)]) 0 2 rfl tk_3 rfl rfl rfl) rfl rfl rfl ?_
              refine JL.val (v := .bool (decide (((x5).length : Int) = x3))) (QV.eql rfl rfl) rfl rfl rfl ?_
              refine JL.val (v := .bool (decide (((x5).length : Int) = x3))) (QV.pickT rfl rfl) rfl rfl rfl ?_
              refine JL.val (v := .bool (decide (((x5).length : Int) = x3))) (QV.assign rfl) rfl rfl rfl ?_
              refine JL.nil ?_
              refine QJ.then_normal ?_
              refine JC.ret ?_
              refine QJ.block_ret ?_
              refine QJ.then_ret ?_
              obtain rfl := Option.some.inj hm
              exact QJ.body (vs := [.bool (decide (((x5).length : Int) = x3))]) (.inl rfl) rfl (ResVs.cons (ResV.tmp rfl) ResVs.nil) [] rfl rfl (.inr trivial) ⟨rfl, rfl⟩
            ·
              refine JL.val (v := .bool false) (QV.eq (QV.move rfl) (congrArg Value.bool (decide_eq_false h13))) rfl rfl rfl ?_
              refine JL.skip (d := some 29) rfl rfl rfl ?_
              refine JL.skip (d := some 30) rfl rfl rfl ?_
              refine JL.skip (d := some 31) rfl rfl rfl ?_
              refine JL.skip (d := some 32) rfl rfl rfl ?_
              refine JL.skip (d := some 33) rfl rfl rfl ?_
              refine JL.skip (d := some 34) rfl rfl rfl ?_
              refine JL.val (v := .bool false) (QV.pickF rfl rfl) rfl rfl rfl ?_
              refine JL.val (v := .bool false) (QV.assign rfl) rfl rfl rfl ?_
              refine JL.nil ?_
              refine QJ.then_normal ?_
              refine JC.ret ?_
              refine QJ.block_ret ?_
              refine QJ.then_ret ?_
              obtain rfl := Option.some.inj hm
              exact QJ.body (vs := [.bool false]) (.inl rfl) rfl (ResVs.cons (ResV.tmp rfl) ResVs.nil) [] rfl rfl (.inr trivial) ⟨rfl, rfl⟩
          ·
            refine JC.condF' rfl (decide_eq_false h12) ?_
            refine JC.seq ?_
            refine JC.region ?_
            refine JL.val (v := .bool (decide (x1 = (2 : Int)))) (QV.eql rfl rfl) rfl rfl rfl ?_
            refine JL.val (v := .bool (decide (x1 = (2 : Int)))) (QV.assign rfl) rfl rfl rfl ?_
            refine JL.nil ?_
            refine QJ.then_normal ?_
            rcases ite_inv hm with ⟨h14, hm⟩ | ⟨h14, hm⟩
            ·
              refine JC.condT' rfl (decide_eq_true h14) ?_
              refine JC.seq ?_
              refine JC.region ?_
              refine JL.val (v := .pointer (some ⟨b7, 3, none⟩)) (QV.fieldB fo_35_3 rfl rfl) rfl rfl rfl ?_
              refine JL.val (v := s4.v) (QV.load1 (ss := [Seg.c (.int .u8 x1), Seg.c (.int .i64 x2), Seg.c (.int .i64 x3), Seg.c (s4.v)]) 0 3 rfl tk_23 rfl rfl rfl) rfl rfl rfl ?_
              refine JL.val (v := .int .i64 ((x5).length : Int)) (QV.len (Rdg.vw 1 rfl) Try.underlying23 rfl) rfl rfl rfl ?_
              refine JL.val (v := .bool (decide (((x5).length : Int) = (0 : Int)))) (QV.eql rfl rfl) rfl rfl rfl ?_
              refine JL.val (v := .bool (decide (((x5).length : Int) = (0 : Int)))) (QV.assign rfl) rfl rfl rfl ?_
              refine JL.nil ?_
              refine QJ.then_normal ?_
              refine JC.ret ?_
              refine QJ.block_ret ?_
              refine QJ.then_ret ?_
              obtain rfl := Option.some.inj hm
              exact QJ.body (vs := [.bool (decide (((x5).length : Int) = (0 : Int)))]) (.inl rfl) rfl (ResVs.cons (ResV.tmp rfl) ResVs.nil) [] rfl rfl (.inr trivial) ⟨rfl, rfl⟩
            ·
              refine JC.condF' rfl (decide_eq_false h14) ?_
              refine JC.seq ?_
              refine JC.region ?_
              refine JL.val (v := .bool (decide (x1 = (3 : Int)))) (QV.eql rfl rfl) rfl rfl rfl ?_
              refine JL.val (v := .bool (decide (x1 = (3 : Int)))) (QV.assign rfl) rfl rfl rfl ?_
              refine JL.nil ?_
              refine QJ.then_normal ?_
              rcases ite_inv hm with ⟨h15, hm⟩ | ⟨h15, hm⟩
              ·
                refine JC.condT' rfl (decide_eq_true h15) ?_
                refine JC.seq ?_
                refine JC.region ?_
                refine JL.val (v := .pointer (some ⟨b7, 3, none⟩)) (QV.fieldB fo_35_3 rfl rfl) rfl rfl rfl ?_
                refine JL.val (v := s4.v) (QV.load1 (ss := [Seg.c (.int .u8 x1), Seg.c (.int .i64 x2), Seg.c (.int .i64 x3), Seg.c (s4.v)]) 0 3 rfl tk_23 rfl rfl rfl) rfl rfl rfl ?_
                refine JL.val (v := .int .i64 ((x5).length : Int)) (QV.len (Rdg.vw 1 rfl) Try.underlying23 rfl) rfl rfl rfl ?_
                refine JL.val (v := .pointer (some ⟨b7, 2, none⟩)) (QV.fieldB fo_35_2 rfl rfl) rfl rfl rfl ?_
                refine JL.val (v := .int .i64 x3) (QV.load1 (ss := [Seg.c (.int .u8 x1), Seg.c (.int .i64 x2), Seg.c (.int .i64 x3), Seg.c (s4.v)]) 0 2 rfl tk_3 rfl rfl rfl) rfl rfl rfl ?_
                refine JL.val (v := .bool (decide (((x5).length : Int) = x3))) (QV.eql rfl rfl) rfl rfl rfl ?_
                refine JL.val (v := .bool (decide (((x5).length : Int) = x3))) (QV.assign rfl) rfl rfl rfl ?_
                refine JL.nil ?_
                refine QJ.then_normal ?_
                refine JC.ret ?_
                refine QJ.block_ret ?_
                refine QJ.then_ret ?_
                obtain rfl := Option.some.inj hm
                exact QJ.body (vs := [.bool (decide (((x5).length : Int) = x3))]) (.inl rfl) rfl (ResVs.cons (ResV.tmp rfl) ResVs.nil) [] rfl rfl (.inr trivial) ⟨rfl, rfl⟩
              ·
                refine JC.condF' rfl (decide_eq_false h15) ?_
                refine JC.skip ?_
                refine QJ.block_normal ?_
                refine QJ.then_normal ?_
                refine JC.seq ?_
                refine JC.region ?_
                refine JL.val (v := .bool false) (QV.assign rfl) rfl rfl rfl ?_
                refine JL.nil ?_
                refine QJ.then_normal ?_
                refine JC.ret ?_
                obtain rfl := Option.some.inj hm
                exact QJ.body (vs := [.bool false]) (.inl rfl) rfl (ResVs.cons (ResV.tmp rfl) ResVs.nil) [] rfl rfl (.inr trivial) ⟨rfl, rfl⟩

/-! ### 48: drogher/plan.number -/
noncomputable def F48_1.j1  (d7 : List Int) (d8 : Int) : Option (List Int) :=
  (if ((d7).length + ([(IntKind.wrap .u8 d8)]).length) * 1 ≤ 140737488355328 ∧ (d7).length + ([(IntKind.wrap .u8 d8)]).length ≤ 9223372036854775807 then some (d7 ++ [(IntKind.wrap .u8 d8)]) else none)
noncomputable def F48_1.b1  : (List Int × Int) → Option ((List Int × Int) ⊕ (List Int × Int))
  | (d13, d14) => (if (128 : Int) ≤ d14 then (if ((d13).length + ([(IntKind.wrap .u8 (IntKind.wrap .i64 ((Int.tmod d14 (128 : Int)) + (128 : Int))))]).length) * 1 ≤ 140737488355328 ∧ (d13).length + ([(IntKind.wrap .u8 (IntKind.wrap .i64 ((Int.tmod d14 (128 : Int)) + (128 : Int))))]).length ≤ 9223372036854775807 then some (.inl ((d13 ++ [(IntKind.wrap .u8 (IntKind.wrap .i64 ((Int.tmod d14 (128 : Int)) + (128 : Int))))]), (IntKind.wrap .i64 (Int.tdiv d14 (128 : Int))))) else none) else some (.inr (d13, d14)))
noncomputable def F48_1.m (x2 : List Int) (x3 : Int) : Option (List Int) :=
  ((loop (F48_1.b1) (x2, x3)).bind fun y => match y with | (d7, d8) => F48_1.j1 (d7) (d8))
set_option maxRecDepth 100000 in
set_option maxHeartbeats 4000000 in
theorem F48_1.spec (s1 : SlV) (x2 : List Int) (x3 : Int) (r : (List Int)) (hm : F48_1.m x2 x3 = some r) :
    Ctr Try.prog false 48 [s1.v, .int .i64 x3] [Asr.of 5 (Enc.int .u8) (s1.v) x2] (fun v L' => ∃ (g4 : SlV), v = g4.v ∧ L' = [Asr.of 5 (Enc.int .u8) (g4.v) r]) := by
  refine Ctr.intro (n := 21) (env := [(0, s1.v), (1, .int .i64 x3)]) Try.func48 rfl rfl rfl rfl (fun c => ?_)
  unfold F48_1.m at hm
  refine JC.seq ?_
  refine JC.region ?_
  refine JL.ent (fun _ hs => hs.nil 5 (Enc.int .u8)) ?_
  refine JL.val (v := SlV.nil.v) (QV.assign rfl) rfl rfl rfl ?_
  refine JL.nil ?_
  refine QJ.then_normal ?_
  refine JC.seq ?_
  refine JC.cutK (Y := (List Int × Int) × SlV) (fun y => match y with | ((d7, d8), _) => F48_1.j1 (d7) (d8) = some r) (fun y => match y with | ((d7, d8), z6) => [(0, z6.v), (1, .int .i64 d8)]) (fun y => match y with | ((d7, d8), z6) => [Asr.of 5 (Enc.int .u8) (z6.v) d7]) ?_ ?_
  ·
    rintro ⟨⟨d7, d8⟩, z6⟩ hm
    unfold F48_1.j1 at hm
    show QJ _ _ [(0, z6.v), (1, .int .i64 d8)] [Asr.of 5 (Enc.int .u8) (z6.v) d7] _ _
    refine QJ.then_normal ?_
    refine JC.seq ?_
    refine JC.region ?_
    refine JL.val (v := z6.v) (QV.move rfl) rfl rfl rfl ?_
    refine JL.val (v := .int .i64 d8) (QV.move rfl) rfl rfl rfl ?_
    refine JL.val (v := .int .u8 (IntKind.wrap .u8 d8)) (QV.conv rfl (by rw [Try.underlying3]; rfl) Try.underlying5) rfl rfl rfl ?_
    refine JL.mv (d := some 19) (MV.lit (E := (Enc.int .u8)) (vals := [(0, .int .u8 (IntKind.wrap .u8 d8))]) [(IntKind.wrap .u8 d8)] Try.underlying23 zi_5 rfl (by decide) rfl (by kernel_rfl)) rfl rfl rfl ?_
    rintro _ _ ⟨z9, rfl, rfl⟩
    obtain ⟨h10, hm⟩ := guard_inv hm
    refine JL.mv (d := some 20) (MV.append 1 rfl (Rdg.of 0 rfl) Try.underlying23 zi_5 rfl (by decide) rfl rfl h10) rfl rfl rfl ?_
    rintro _ _ ⟨z11, rfl, rfl⟩
    refine JL.val (v := z11.v) (QV.assign rfl) rfl rfl rfl ?_
    refine JL.nil ?_
    refine QJ.then_normal ?_
    refine JC.ret ?_
    obtain rfl := Option.some.inj hm
    exact QJ.body (vs := [z11.v]) (.inl rfl) rfl (ResVs.cons (ResV.tmp rfl) ResVs.nil) [1] rfl rfl (.inr ⟨own_of _ _ _ _, trivial⟩) ⟨z11, rfl, rfl⟩
  ·
    refine JC.block ?_
    obtain ⟨y18, hl19, hmo20⟩ := bind_inv hm
    refine JC.loop (F48_1.b1) (fun x z => match x, z with | (d13, d14), z12 => [(0, z12.v), (1, .int .i64 d14)]) (fun x z => match x, z with | (d13, d14), z12 => [Asr.of 5 (Enc.int .u8) (z12.v) d13]) (x2, x3) s1 y18 hl19 [1] (by exact ⟨rfl, rfl, trivial⟩) rfl rfl ?_
    rintro ⟨d13, d14⟩ z12 s21 hm
    unfold F48_1.b1 at hm
    dsimp only at hm
    show JC _ _ _ [(0, z12.v), (1, .int .i64 d14)] [Asr.of 5 (Enc.int .u8) (z12.v) d13] _ _
    refine JC.seq ?_
    refine JC.seq ?_
    refine JC.region ?_
    refine JL.val (v := .int .i64 d14) (QV.move rfl) rfl rfl rfl ?_
    refine JL.val (v := .bool (decide ((128 : Int) ≤ d14))) (QV.geq rfl rfl) rfl rfl rfl ?_
    refine JL.nil ?_
    refine QJ.then_normal ?_
    rcases ite_inv hm with ⟨h22, hm⟩ | ⟨h22, hm⟩
    ·
      refine JC.condT' rfl (decide_eq_true h22) ?_
      refine JC.skip ?_
      refine QJ.then_normal ?_
      refine JC.block ?_
      refine JC.seq ?_
      refine JC.region ?_
      refine JL.val (v := z12.v) (QV.move rfl) rfl rfl rfl ?_
      refine JL.val (v := .int .i64 d14) (QV.move rfl) rfl rfl rfl ?_
      refine JL.val (v := .int .i64 (Int.tmod d14 (128 : Int))) (QV.rem rfl rfl (by decide)) rfl rfl rfl ?_
      refine JL.val (v := .int .i64 (IntKind.wrap .i64 ((Int.tmod d14 (128 : Int)) + (128 : Int)))) (QV.add rfl rfl) rfl rfl rfl ?_
      refine JL.val (v := .int .u8 (IntKind.wrap .u8 (IntKind.wrap .i64 ((Int.tmod d14 (128 : Int)) + (128 : Int))))) (QV.conv rfl (by rw [Try.underlying3]; rfl) Try.underlying5) rfl rfl rfl ?_
      refine JL.mv (d := some 12) (MV.lit (E := (Enc.int .u8)) (vals := [(0, .int .u8 (IntKind.wrap .u8 (IntKind.wrap .i64 ((Int.tmod d14 (128 : Int)) + (128 : Int)))))]) [(IntKind.wrap .u8 (IntKind.wrap .i64 ((Int.tmod d14 (128 : Int)) + (128 : Int))))] Try.underlying23 zi_5 rfl (by decide) rfl (by kernel_rfl)) rfl rfl rfl ?_
      rintro _ _ ⟨z23, rfl, rfl⟩
      obtain ⟨h24, hm⟩ := guard_inv hm
      refine JL.mv (d := some 13) (MV.append 1 rfl (Rdg.of 0 rfl) Try.underlying23 zi_5 rfl (by decide) rfl rfl h24) rfl rfl rfl ?_
      rintro _ _ ⟨z25, rfl, rfl⟩
      refine JL.val (v := z25.v) (QV.assign rfl) rfl rfl rfl ?_
      refine JL.nil ?_
      refine QJ.then_normal ?_
      refine JC.region ?_
      refine JL.val (v := .int .i64 d14) (QV.move rfl) rfl rfl rfl ?_
      refine JL.val (v := .int .i64 (IntKind.wrap .i64 (Int.tdiv d14 (128 : Int)))) (QV.quo rfl rfl (by decide)) rfl rfl rfl ?_
      refine JL.val (v := .int .i64 (IntKind.wrap .i64 (Int.tdiv d14 (128 : Int)))) (QV.assign rfl) rfl rfl rfl ?_
      refine JL.nil ?_
      refine QJ.block_normal ?_
      obtain rfl := Option.some.inj hm
      exact QJ.round_on ((d13 ++ [(IntKind.wrap .u8 (IntKind.wrap .i64 ((Int.tmod d14 (128 : Int)) + (128 : Int))))]), (IntKind.wrap .i64 (Int.tdiv d14 (128 : Int)))) z25 [1] (by exact ⟨rfl, rfl, trivial⟩) rfl rfl
    ·
      refine JC.condF' rfl (decide_eq_false h22) ?_
      refine JC.exit ?_
      refine QJ.then_exit ?_
      obtain rfl := Option.some.inj hm
      refine QJ.round_exit (fun hy => ?_)
      subst hy
      refine QJ.block_hit ?_
      exact QJ.cut_normal ((d13, d14), z12) hmo20 [0] (by exact ⟨rfl, rfl, trivial⟩) rfl rfl

/-! ### 22: drogher/plan.Put -/
noncomputable def F22.j1  (d8 : List Int) : Option (List Int × Int) :=
  some (d8, (0 : Int))
noncomputable def F22.j2 (x2 : List (Int × Int × Int × (List Int))) (d11 : Int) (d32 : List Int) : Option ((List Int × Int) ⊕ (((List Int × Int)) ⊕ (List Int))) :=
  (if ((d32).length + ((gd x2 d11).2.2.2).length) * 1 ≤ 140737488355328 ∧ (d32).length + ((gd x2 d11).2.2.2).length ≤ 9223372036854775807 then some (.inl ((d32 ++ (gd x2 d11).2.2.2), (IntKind.wrap .i64 (d11 + (1 : Int))))) else none)
noncomputable def F22.b1 (x2 : List (Int × Int × Int × (List Int))) : (List Int × Int) → Option ((List Int × Int) ⊕ (((List Int × Int)) ⊕ (List Int)))
  | (d10, d11) => (if d11 < ((x2).length : Int) then (if 0 ≤ d11 ∧ d11 < ((x2).length : Int) then ((F23.m ((gd x2 d11).1) ((gd x2 d11).2.1) ((gd x2 d11).2.2.1) ((gd x2 d11).2.2.2)).bind fun y22 => (if y22 = true then (if ((d10).length + ([(gd x2 d11).1]).length) * 1 ≤ 140737488355328 ∧ (d10).length + ([(gd x2 d11).1]).length ≤ 9223372036854775807 then ((F48_1.m ((d10 ++ [(gd x2 d11).1])) ((gd x2 d11).2.2.1)).bind fun y28 => (if (gd x2 d11).1 = (1 : Int) then F22.j2 x2 d11 (y28) else ((F48_1.m (y28) ((gd x2 d11).2.1)).bind fun y36 => F22.j2 x2 d11 (y36)))) else none) else some (.inr (.inl ((([] : List Int), (3 : Int))))))) else none) else some (.inr (.inr (d10))))
noncomputable def F22.m (x2 : List (Int × Int × Int × (List Int))) : Option (List Int × Int) :=
  ((loop (F22.b1 x2) (([] : List Int), (0 : Int))).bind fun y => match y with | .inl r => some r | .inr d8 => F22.j1 (d8))
set_option maxRecDepth 100000 in
set_option maxHeartbeats 4000000 in
theorem F22.spec (s1 : SlV) (z3 : List (Unit × Unit × Unit × SlV)) (x2 : List (Int × Int × Int × (List Int))) (r : (List Int × Int)) (hm : F22.m x2 = some r) :
    Ctr Try.prog false 22 [s1.v] [Asr.vn (NE.pair (NE.flat (Enc.int .u8)) (NE.pair (NE.flat (Enc.int .i64)) (NE.pair (NE.flat (Enc.int .i64)) (NE.sl (Enc.int .u8))))) (s1.v) z3 x2] (fun v L' => ∃ (g4 : SlV), v = .tuple #[g4.v, .int .i64 r.2] ∧ L' = [Asr.of 5 (Enc.int .u8) (g4.v) r.1]) := by
  refine Ctr.intro (n := 37) (env := [(0, s1.v)]) Try.func22 rfl rfl rfl rfl (fun c => ?_)
  unfold F22.m at hm
  refine JC.seq ?_
  refine JC.region ?_
  refine JL.ent (fun _ hs => hs.nil 5 (Enc.int .u8)) ?_
  refine JL.val (v := SlV.nil.v) (QV.assign rfl) rfl rfl rfl ?_
  refine JL.val (v := .int .i64 (0 : Int)) (QV.assign rfl) rfl rfl rfl ?_
  refine JL.nil ?_
  refine QJ.then_normal ?_
  refine JC.seq ?_
  refine JC.region ?_
  refine JL.ent (fun _ hs => hs.nil 5 (Enc.int .u8)) ?_
  refine JL.val (v := SlV.nil.v) (QV.assign rfl) rfl rfl rfl ?_
  refine JL.nil ?_
  refine QJ.then_normal ?_
  refine JC.seq ?_
  refine JC.seq ?_
  refine JC.region ?_
  refine JL.val (v := s1.v) (QV.move rfl) rfl rfl rfl ?_
  refine JL.val (v := .int .i64 ((x2).length : Int)) (QV.lenN (RdN.vn 2 rfl) Try.underlying22 rfl) rfl rfl rfl ?_
  refine JL.val (v := .int .i64 (0 : Int)) (QV.move rfl) rfl rfl rfl ?_
  refine JL.nil ?_
  refine QJ.then_normal ?_
  refine JC.cutK (Y := (List Int) × SlV) (fun y => match y with | (d8, _) => F22.j1 (d8) = some r) (fun y => match y with | (d8, z7) => [(4, z7.v)]) (fun y => match y with | (d8, z7) => [Asr.of 5 (Enc.int .u8) (z7.v) d8]) ?_ ?_
  ·
    rintro ⟨d8, z7⟩ hm
    unfold F22.j1 at hm
    show QJ _ _ [(4, z7.v)] [Asr.of 5 (Enc.int .u8) (z7.v) d8] _ _
    refine QJ.then_normal ?_
    refine JC.seq ?_
    refine JC.region ?_
    refine JL.val (v := z7.v) (QV.move rfl) rfl rfl rfl ?_
    refine JL.val (v := z7.v) (QV.assign rfl) rfl rfl rfl ?_
    refine JL.val (v := .int .i64 (0 : Int)) (QV.assign rfl) rfl rfl rfl ?_
    refine JL.nil ?_
    refine QJ.then_normal ?_
    refine JC.ret ?_
    obtain rfl := Option.some.inj hm
    exact QJ.body (vs := [z7.v, .int .i64 (0 : Int)]) (.inl rfl) rfl (ResVs.cons (ResV.tmp rfl) (ResVs.cons (ResV.tmp rfl) ResVs.nil)) [0] rfl rfl (.inr ⟨own_of _ _ _ _, trivial⟩) ⟨z7, rfl, rfl⟩
  ·
    refine JC.block ?_
    obtain ⟨y15, hl16, hmo17⟩ := bind_inv hm
    refine JC.loop (F22.b1 x2) (fun x z => match x, z with | (d10, d11), z9 => [(4, z9.v), (7, s1.v), (8, .int .i64 ((x2).length : Int)), (9, .int .i64 d11)]) (fun x z => match x, z with | (d10, d11), z9 => [Asr.of 5 (Enc.int .u8) (z9.v) d10, Asr.vn (NE.pair (NE.flat (Enc.int .u8)) (NE.pair (NE.flat (Enc.int .i64)) (NE.pair (NE.flat (Enc.int .i64)) (NE.sl (Enc.int .u8))))) (s1.v) z3 x2]) (([] : List Int), (0 : Int)) SlV.nil y15 hl16 [0, 2] (by exact ⟨rfl, rfl, rfl, rfl, trivial⟩) rfl rfl ?_
    rintro ⟨d10, d11⟩ z9 s18 hm
    unfold F22.b1 at hm
    dsimp only at hm
    show JC _ _ _ [(4, z9.v), (7, s1.v), (8, .int .i64 ((x2).length : Int)), (9, .int .i64 d11)] [Asr.of 5 (Enc.int .u8) (z9.v) d10, Asr.vn (NE.pair (NE.flat (Enc.int .u8)) (NE.pair (NE.flat (Enc.int .i64)) (NE.pair (NE.flat (Enc.int .i64)) (NE.sl (Enc.int .u8))))) (s1.v) z3 x2] _ _
    refine JC.seq ?_
    refine JC.region ?_
    refine JL.val (v := .bool (decide (d11 < ((x2).length : Int)))) (QV.lss rfl rfl) rfl rfl rfl ?_
    refine JL.nil ?_
    refine QJ.then_normal ?_
    refine JC.seq ?_
    rcases ite_inv hm with ⟨h19, hm⟩ | ⟨h19, hm⟩
    ·
      refine JC.condT' rfl (decide_eq_true h19) ?_
      refine JC.skip ?_
      refine QJ.then_normal ?_
      refine JC.seq ?_
      refine JC.block ?_
      refine JC.seq ?_
      refine JC.region ?_
      obtain ⟨h20, hm⟩ := guard_inv hm
      refine JL.val (v := .pointer (some (elA (s1.v) (Int.toNat d11 * ((NE.pair (NE.flat (Enc.int .u8)) (NE.pair (NE.flat (Enc.int .i64)) (NE.pair (NE.flat (Enc.int .i64)) (NE.sl (Enc.int .u8))))).E).sz)))) (QV.indexN (RdN.vn 1 rfl) Try.underlying22 tk_35 rfl rfl h20) rfl rfl rfl ?_
      refine JL.val (v := .agg #[.int .u8 (gd x2 d11).1, .int .i64 (gd x2 d11).2.1, .int .i64 (gd x2 d11).2.2.1, (gd z3 d11).2.2.2.v]) (QV.eq (QV.elNN (RdN.vn 1 rfl) tk_35 rfl h20) rfl) rfl rfl rfl ?_
      refine JL.ent (fun _ hs => hs.nil 5 (Enc.int .u8)) ?_
      refine JL.mv (d := some 6) (MV.alloc [Seg.c (.int .u8 (0 : Int)), Seg.c (.int .i64 (0 : Int)), Seg.c (.int .i64 (0 : Int)), Seg.c (SlV.nil.v)] z_35 rfl) rfl rfl rfl ?_
      rintro _ _ ⟨b21, rfl, rfl⟩
      refine JL.ent (fun _ hs => hs.derive (Drv.el (K := (NE.pair (NE.flat (Enc.int .u8)) (NE.pair (NE.flat (Enc.int .i64)) (NE.pair (NE.flat (Enc.int .i64)) (NE.sl (Enc.int .u8)))))) (A := Asr.vw (Enc.int .u8) ((gd z3 d11).2.2.2.v) (gd x2 d11).2.2.2) (Drv.vn 3 rfl) h20 (fun _ _ q => q.2.2.2))) ?_
      refine JL.mv (d := none) (MV.store (ss := [Seg.c (.int .u8 (0 : Int)), Seg.c (.int .i64 (0 : Int)), Seg.c (.int .i64 (0 : Int)), Seg.c (SlV.nil.v)]) 1 0 4 [Seg.c (.int .u8 (gd x2 d11).1), Seg.c (.int .i64 (gd x2 d11).2.1), Seg.c (.int .i64 (gd x2 d11).2.2.1), Seg.c ((gd z3 d11).2.2.2.v)] rfl tk_35 rfl rfl rfl rfl (fun w hs => ⟨rfl, one_c rfl, one_c rfl, one_c rfl, one_sl (Rdg.vw 0 rfl) hs, trivial⟩)) rfl rfl rfl ?_
      rintro _ _ ⟨rfl, rfl⟩
      refine JL.nil ?_
      refine QJ.then_normal ?_
      refine JC.seq ?_
      refine JC.seq ?_
      refine JC.region ?_
      refine JL.val (v := .agg #[.int .u8 (gd x2 d11).1, .int .i64 (gd x2 d11).2.1, .int .i64 (gd x2 d11).2.2.1, (gd z3 d11).2.2.2.v]) (QV.eq (QV.loadN (ss := [Seg.c (.int .u8 (gd x2 d11).1), Seg.c (.int .i64 (gd x2 d11).2.1), Seg.c (.int .i64 (gd x2 d11).2.2.1), Seg.c ((gd z3 d11).2.2.2.v)]) 1 0 4 rfl tk_35 rfl rfl rfl rfl) rfl) rfl rfl rfl ?_
      obtain ⟨y22, hc23, hm⟩ := bind_inv hm
      refine JL.mv (d := some 14) (MV.call (Lo := []) (Lr := [Asr.vw (Enc.int .u8) ((gd z3 d11).2.2.2.v) (gd x2 d11).2.2.2, Asr.blk b21 35 [Seg.c (.int .u8 (gd x2 d11).1), Seg.c (.int .i64 (gd x2 d11).2.1), Seg.c (.int .i64 (gd x2 d11).2.2.1), Seg.c ((gd z3 d11).2.2.2.v)], Asr.of 5 (Enc.int .u8) (SlV.nil.v) ([] : List Int), Asr.of 5 (Enc.int .u8) (z9.v) d10, Asr.vn (NE.pair (NE.flat (Enc.int .u8)) (NE.pair (NE.flat (Enc.int .i64)) (NE.pair (NE.flat (Enc.int .i64)) (NE.sl (Enc.int .u8))))) (s1.v) z3 x2]) (F23.spec ((gd z3 d11).2.2.2) ((gd x2 d11).1) ((gd x2 d11).2.1) ((gd x2 d11).2.2.1) ((gd x2 d11).2.2.2) _ hc23) rfl Try.func23 rfl rfl rfl [] [0, 1, 2, 3, 4] rfl rfl rfl ⟨(Drv.vw 0 rfl), trivial⟩) rfl rfl rfl ?_
      rintro _ _ ⟨_, ⟨rfl, rfl⟩, rfl⟩
      refine JL.val (v := .bool (!y22)) (QV.not rfl) rfl rfl rfl ?_
      refine JL.nil ?_
      refine QJ.then_normal ?_
      rcases ite_inv hm with ⟨h24, hm⟩ | ⟨h24, hm⟩
      ·
        refine JC.condF' rfl (congrArg Bool.not h24) ?_
        refine JC.skip ?_
        refine QJ.then_normal ?_
        refine JC.seq ?_
        refine JC.regionT [Asr.vw (Enc.int .u8) ((gd z3 d11).2.2.2.v) (gd x2 d11).2.2.2, Asr.blk b21 35 [Seg.c (.int .u8 (gd x2 d11).1), Seg.c (.int .i64 (gd x2 d11).2.1), Seg.c (.int .i64 (gd x2 d11).2.2.1), Seg.c ((gd z3 d11).2.2.2.v)], Asr.of 5 (Enc.int .u8) (SlV.nil.v) ([] : List Int), Asr.vn (NE.pair (NE.flat (Enc.int .u8)) (NE.pair (NE.flat (Enc.int .i64)) (NE.pair (NE.flat (Enc.int .i64)) (NE.sl (Enc.int .u8))))) (s1.v) z3 x2] (fun t => false) [(0, true), (1, true), (2, true), (5, true), (6, true), (3, false), (4, false), (7, false), (8, false)] (by kernel_rfl) (by kernel_rfl) (by kernel_rfl) rfl (fun hsel => ?_)
        refine JT.take (i := 0) (v := z9.v) hsel rfl (QV.move rfl) rfl rfl rfl rfl [0, 1, 2, 4] rfl rfl ?_
        refine JT.take (i := 1) (v := .pointer (some ⟨b21, 0, none⟩)) hsel rfl (QV.fieldB fo_35_0 rfl rfl) rfl rfl rfl rfl [0, 1, 2, 4] rfl rfl ?_
        refine JT.take (i := 2) (v := .int .u8 (gd x2 d11).1) hsel rfl (QV.load1 (ss := [Seg.c (.int .u8 (gd x2 d11).1), Seg.c (.int .i64 (gd x2 d11).2.1), Seg.c (.int .i64 (gd x2 d11).2.2.1), Seg.c ((gd z3 d11).2.2.2.v)]) 1 0 rfl tk_5 rfl rfl rfl) rfl rfl rfl rfl [0, 1, 2, 4] rfl rfl ?_
        refine JT.take (i := 5) (v := .pointer (some ⟨b21, 2, none⟩)) hsel rfl (QV.fieldB fo_35_2 rfl rfl) rfl rfl rfl rfl [0, 1, 2, 4] rfl rfl ?_
        refine JT.take (i := 6) (v := .int .i64 (gd x2 d11).2.2.1) hsel rfl (QV.load1 (ss := [Seg.c (.int .u8 (gd x2 d11).1), Seg.c (.int .i64 (gd x2 d11).2.1), Seg.c (.int .i64 (gd x2 d11).2.2.1), Seg.c ((gd z3 d11).2.2.2.v)]) 1 2 rfl tk_3 rfl rfl rfl) rfl rfl rfl rfl [0, 1, 2, 4] rfl rfl ?_
        refine JT.only (i := 3) (d := some 19) rfl (MV.lit (E := (Enc.int .u8)) (vals := [(0, .int .u8 (gd x2 d11).1)]) [(gd x2 d11).1] Try.underlying23 zi_5 rfl (by decide) rfl (by kernel_rfl)) rfl rfl rfl ?_
        rintro _ _ ⟨z25, rfl, rfl⟩
        refine ⟨fun _ => ⟨[1, 2, 3, 5], rfl, rfl⟩, ?_⟩
        refine JT.grow [Asr.of 5 (Enc.int .u8) (z25.v) [(gd x2 d11).1], Asr.vw (Enc.int .u8) ((gd z3 d11).2.2.2.v) (gd x2 d11).2.2.2, Asr.blk b21 35 [Seg.c (.int .u8 (gd x2 d11).1), Seg.c (.int .i64 (gd x2 d11).2.1), Seg.c (.int .i64 (gd x2 d11).2.2.1), Seg.c ((gd z3 d11).2.2.2.v)], Asr.of 5 (Enc.int .u8) (SlV.nil.v) ([] : List Int), Asr.vn (NE.pair (NE.flat (Enc.int .u8)) (NE.pair (NE.flat (Enc.int .i64)) (NE.pair (NE.flat (Enc.int .i64)) (NE.sl (Enc.int .u8))))) (s1.v) z3 x2] [1, 2, 3, 4] rfl rfl ?_
        obtain ⟨h26, hm⟩ := guard_inv hm
        refine JT.only (i := 4) (d := some 20) rfl (MV.append 4 rfl (Rdg.of 0 rfl) Try.underlying23 zi_5 rfl (by decide) rfl rfl h26) rfl rfl rfl ?_
        rintro _ _ ⟨z27, rfl, rfl⟩
        refine ⟨fun _ => ⟨[0, 1, 2, 3, 5], rfl, rfl⟩, ?_⟩
        obtain ⟨y28, hc29, hm⟩ := bind_inv hm
        refine JT.only (i := 7) (d := some 23) rfl (MV.call (Lo := [Asr.of 5 (Enc.int .u8) (z27.v) (d10 ++ [(gd x2 d11).1])]) (Lr := [Asr.of 5 (Enc.int .u8) (z25.v) [(gd x2 d11).1], Asr.vw (Enc.int .u8) ((gd z3 d11).2.2.2.v) (gd x2 d11).2.2.2, Asr.blk b21 35 [Seg.c (.int .u8 (gd x2 d11).1), Seg.c (.int .i64 (gd x2 d11).2.1), Seg.c (.int .i64 (gd x2 d11).2.2.1), Seg.c ((gd z3 d11).2.2.2.v)], Asr.of 5 (Enc.int .u8) (SlV.nil.v) ([] : List Int), Asr.vn (NE.pair (NE.flat (Enc.int .u8)) (NE.pair (NE.flat (Enc.int .i64)) (NE.pair (NE.flat (Enc.int .i64)) (NE.sl (Enc.int .u8))))) (s1.v) z3 x2]) (F48_1.spec (z27) ((d10 ++ [(gd x2 d11).1])) ((gd x2 d11).2.2.1) _ hc29) rfl Try.func48 rfl rfl rfl [4] [0, 1, 2, 3, 5] rfl rfl rfl trivial) rfl rfl rfl ?_
        rintro _ _ ⟨_, ⟨z30, rfl, rfl⟩, rfl⟩
        refine ⟨fun _ => ⟨[1, 2, 3, 4, 5], rfl, rfl⟩, ?_⟩
        refine JT.grow [Asr.of 5 (Enc.int .u8) (z30.v) y28, Asr.of 5 (Enc.int .u8) (z25.v) [(gd x2 d11).1], Asr.vw (Enc.int .u8) ((gd z3 d11).2.2.2.v) (gd x2 d11).2.2.2, Asr.blk b21 35 [Seg.c (.int .u8 (gd x2 d11).1), Seg.c (.int .i64 (gd x2 d11).2.1), Seg.c (.int .i64 (gd x2 d11).2.2.1), Seg.c ((gd z3 d11).2.2.2.v)], Asr.of 5 (Enc.int .u8) (SlV.nil.v) ([] : List Int), Asr.vn (NE.pair (NE.flat (Enc.int .u8)) (NE.pair (NE.flat (Enc.int .i64)) (NE.pair (NE.flat (Enc.int .i64)) (NE.sl (Enc.int .u8))))) (s1.v) z3 x2] [1, 2, 3, 4, 5] rfl rfl ?_
        refine JT.only (i := 8) (d := some 4) rfl (MV.ofQV (v := z30.v) (QV.assign rfl)) rfl rfl rfl ?_
        rintro _ _ ⟨rfl, rfl⟩
        refine ⟨fun _ => ⟨[0, 1, 2, 3, 4, 5], rfl, rfl⟩, ?_⟩
        refine JT.nil ?_
        refine QJ.then_normal ?_
        refine JC.seq ?_
        refine JC.seq ?_
        refine JC.region ?_
        refine JL.val (v := .pointer (some ⟨b21, 0, none⟩)) (QV.fieldB fo_35_0 rfl rfl) rfl rfl rfl ?_
        refine JL.val (v := .int .u8 (gd x2 d11).1) (QV.load1 (ss := [Seg.c (.int .u8 (gd x2 d11).1), Seg.c (.int .i64 (gd x2 d11).2.1), Seg.c (.int .i64 (gd x2 d11).2.2.1), Seg.c ((gd z3 d11).2.2.2.v)]) 3 0 rfl tk_5 rfl rfl rfl) rfl rfl rfl ?_
        refine JL.val (v := .bool (!(decide ((gd x2 d11).1 = (1 : Int))))) (QV.neq rfl rfl) rfl rfl rfl ?_
        refine JL.nil ?_
        refine QJ.then_normal ?_
        refine JC.cutK (Y := (List Int) × SlV) (fun y => match y with | (d32, _) => F22.j2 x2 d11 (d32) = some s18) (fun y => match y with | (d32, z31) => [(4, z31.v), (6, .pointer (some ⟨b21, 0, none⟩)), (7, s1.v), (8, .int .i64 ((x2).length : Int)), (9, .int .i64 d11)]) (fun y => match y with | (d32, z31) => [Asr.of 5 (Enc.int .u8) (z31.v) d32, Asr.vw (Enc.int .u8) ((gd z3 d11).2.2.2.v) (gd x2 d11).2.2.2, Asr.blk b21 35 [Seg.c (.int .u8 (gd x2 d11).1), Seg.c (.int .i64 (gd x2 d11).2.1), Seg.c (.int .i64 (gd x2 d11).2.2.1), Seg.c ((gd z3 d11).2.2.2.v)], Asr.vn (NE.pair (NE.flat (Enc.int .u8)) (NE.pair (NE.flat (Enc.int .i64)) (NE.pair (NE.flat (Enc.int .i64)) (NE.sl (Enc.int .u8))))) (s1.v) z3 x2]) ?_ ?_
        ·
          rintro ⟨d32, z31⟩ hm
          unfold F22.j2 at hm
          show QJ _ _ [(4, z31.v), (6, .pointer (some ⟨b21, 0, none⟩)), (7, s1.v), (8, .int .i64 ((x2).length : Int)), (9, .int .i64 d11)] [Asr.of 5 (Enc.int .u8) (z31.v) d32, Asr.vw (Enc.int .u8) ((gd z3 d11).2.2.2.v) (gd x2 d11).2.2.2, Asr.blk b21 35 [Seg.c (.int .u8 (gd x2 d11).1), Seg.c (.int .i64 (gd x2 d11).2.1), Seg.c (.int .i64 (gd x2 d11).2.2.1), Seg.c ((gd z3 d11).2.2.2.v)], Asr.vn (NE.pair (NE.flat (Enc.int .u8)) (NE.pair (NE.flat (Enc.int .i64)) (NE.pair (NE.flat (Enc.int .i64)) (NE.sl (Enc.int .u8))))) (s1.v) z3 x2] _ _
          refine QJ.then_normal ?_
          refine JC.region ?_
          refine JL.val (v := z31.v) (QV.move rfl) rfl rfl rfl ?_
          refine JL.val (v := .pointer (some ⟨b21, 3, none⟩)) (QV.fieldB fo_35_3 rfl rfl) rfl rfl rfl ?_
          refine JL.val (v := (gd z3 d11).2.2.2.v) (QV.load1 (ss := [Seg.c (.int .u8 (gd x2 d11).1), Seg.c (.int .i64 (gd x2 d11).2.1), Seg.c (.int .i64 (gd x2 d11).2.2.1), Seg.c ((gd z3 d11).2.2.2.v)]) 2 3 rfl tk_23 rfl rfl rfl) rfl rfl rfl ?_
          obtain ⟨h33, hm⟩ := guard_inv hm
          refine JL.mv (d := some 34) (MV.append 0 rfl (Rdg.vw 1 rfl) Try.underlying23 zi_5 rfl (by decide) rfl rfl h33) rfl rfl rfl ?_
          rintro _ _ ⟨z34, rfl, rfl⟩
          refine JL.val (v := z34.v) (QV.assign rfl) rfl rfl rfl ?_
          refine JL.nil ?_
          refine QJ.block_normal ?_
          refine QJ.then_normal ?_
          refine JC.region ?_
          refine JL.val (v := .int .i64 (IntKind.wrap .i64 (d11 + (1 : Int)))) (QV.add rfl rfl) rfl rfl rfl ?_
          refine JL.val (v := .int .i64 (IntKind.wrap .i64 (d11 + (1 : Int)))) (QV.move rfl) rfl rfl rfl ?_
          refine JL.nil ?_
          obtain rfl := Option.some.inj hm
          exact QJ.round_on ((d32 ++ (gd x2 d11).2.2.2), (IntKind.wrap .i64 (d11 + (1 : Int)))) z34 [0, 3] (by exact ⟨rfl, rfl, rfl, rfl, trivial⟩) rfl rfl
        ·
          rcases ite_inv hm with ⟨h35, hm⟩ | ⟨h35, hm⟩
          ·
            refine JC.condF' rfl (congrArg Bool.not (decide_eq_true h35)) ?_
            refine JC.skip ?_
            exact QJ.cut_normal (y28, z30) hm [0, 2, 3, 5] (by exact ⟨rfl, rfl, rfl, rfl, rfl, trivial⟩) rfl rfl
          ·
            refine JC.condT' rfl (congrArg Bool.not (decide_eq_false h35)) ?_
            refine JC.region ?_
            refine JL.val (v := z30.v) (QV.move rfl) rfl rfl rfl ?_
            refine JL.val (v := .pointer (some ⟨b21, 1, none⟩)) (QV.fieldB fo_35_1 rfl rfl) rfl rfl rfl ?_
            refine JL.val (v := .int .i64 (gd x2 d11).2.1) (QV.load1 (ss := [Seg.c (.int .u8 (gd x2 d11).1), Seg.c (.int .i64 (gd x2 d11).2.1), Seg.c (.int .i64 (gd x2 d11).2.2.1), Seg.c ((gd z3 d11).2.2.2.v)]) 3 1 rfl tk_3 rfl rfl rfl) rfl rfl rfl ?_
            obtain ⟨y36, hc37, hm⟩ := bind_inv hm
            refine JL.mv (d := some 30) (MV.call (Lo := [Asr.of 5 (Enc.int .u8) (z30.v) y28]) (Lr := [Asr.of 5 (Enc.int .u8) (z25.v) [(gd x2 d11).1], Asr.vw (Enc.int .u8) ((gd z3 d11).2.2.2.v) (gd x2 d11).2.2.2, Asr.blk b21 35 [Seg.c (.int .u8 (gd x2 d11).1), Seg.c (.int .i64 (gd x2 d11).2.1), Seg.c (.int .i64 (gd x2 d11).2.2.1), Seg.c ((gd z3 d11).2.2.2.v)], Asr.of 5 (Enc.int .u8) (SlV.nil.v) ([] : List Int), Asr.vn (NE.pair (NE.flat (Enc.int .u8)) (NE.pair (NE.flat (Enc.int .i64)) (NE.pair (NE.flat (Enc.int .i64)) (NE.sl (Enc.int .u8))))) (s1.v) z3 x2]) (F48_1.spec (z30) (y28) ((gd x2 d11).2.1) _ hc37) rfl Try.func48 rfl rfl rfl [0] [1, 2, 3, 4, 5] rfl rfl rfl trivial) rfl rfl rfl ?_
            rintro _ _ ⟨_, ⟨z38, rfl, rfl⟩, rfl⟩
            refine JL.val (v := z38.v) (QV.assign rfl) rfl rfl rfl ?_
            refine JL.nil ?_
            exact QJ.cut_normal (y36, z38) hm [0, 2, 3, 5] (by exact ⟨rfl, rfl, rfl, rfl, rfl, trivial⟩) rfl rfl
      ·
        refine JC.condT' rfl (congrArg Bool.not (bfalse h24)) ?_
        refine JC.seq ?_
        refine JC.region ?_
        refine JL.ent (fun _ hs => hs.nil 5 (Enc.int .u8)) ?_
        refine JL.val (v := SlV.nil.v) (QV.assign rfl) rfl rfl rfl ?_
        refine JL.val (v := .int .i64 (3 : Int)) (QV.assign rfl) rfl rfl rfl ?_
        refine JL.nil ?_
        refine QJ.then_normal ?_
        refine JC.ret ?_
        refine QJ.then_ret ?_
        refine QJ.block_ret ?_
        refine QJ.then_ret ?_
        obtain rfl := Option.some.inj hm
        refine QJ.round_ret (fun hy => ?_)
        subst hy
        refine QJ.block_ret ?_
        refine QJ.cut_ret ?_
        refine QJ.then_ret ?_
        obtain rfl := Option.some.inj hmo17
        exact QJ.body (vs := [SlV.nil.v, .int .i64 (3 : Int)]) (.inl rfl) rfl (ResVs.cons (ResV.tmp rfl) (ResVs.cons (ResV.tmp rfl) ResVs.nil)) [0] rfl rfl (.inr ⟨own_of _ _ _ _, trivial⟩) ⟨(SlV.nil), rfl, rfl⟩
    ·
      refine JC.condF' rfl (decide_eq_false h19) ?_
      refine JC.exit ?_
      refine QJ.then_exit ?_
      obtain rfl := Option.some.inj hm
      refine QJ.round_exit (fun hy => ?_)
      subst hy
      refine QJ.block_hit ?_
      exact QJ.cut_normal (d10, z9) hmo17 [0] (by exact ⟨rfl, trivial⟩) rfl rfl

/-! ### 15: drogher/drogherlaw16.awake -/
noncomputable def F15.m  : Option Bool :=
  ((F22.m ([((1 : Int), (0 : Int), (2 : Int), [(97 : Int), (98 : Int)])])).bind fun y4 => (if y4.2 = (0 : Int) then some (decide ((strOfNums y4.1) = (⟨#[1, 2, 97, 98]⟩ : ByteArray))) else some false))
set_option maxRecDepth 100000 in
set_option maxHeartbeats 4000000 in
theorem F15.spec  (r : Bool) (hm : F15.m  = some r) :
    Ctr Try.prog false 15 [] [] (fun v L' => v = .bool r ∧ L' = []) := by
  refine Ctr.intro (n := 18) (env := []) Try.func15 rfl rfl rfl rfl (fun c => ?_)
  unfold F15.m at hm
  refine JC.seq ?_
  refine JC.region ?_
  refine JL.val (v := .bool false) (QV.assign rfl) rfl rfl rfl ?_
  refine JL.nil ?_
  refine QJ.then_normal ?_
  refine JC.seq ?_
  refine JC.region ?_
  refine JL.mv (d := some 4) (MV.lit (E := (Enc.int .u8)) (vals := [(0, .int .u8 (97 : Int)), (1, .int .u8 (98 : Int))]) [(97 : Int), (98 : Int)] Try.underlying23 zi_5 rfl (by decide) rfl (by kernel_rfl)) rfl rfl rfl ?_
  rintro _ _ ⟨z2, rfl, rfl⟩
  refine JL.mv (d := some 5) (MV.mark 0 rfl Try.underlying23 Try.underlying5 (by decide) rfl) rfl rfl rfl ?_
  rintro _ _ ⟨rfl, rfl⟩
  refine JL.ent (fun _ hs => hs.nil 5 (Enc.int .u8)) ?_
  refine JL.val (v := .agg #[.int .u8 (1 : Int), .int .i64 (0 : Int), .int .i64 (2 : Int), z2.v]) (QV.build (vals := [(0, .int .u8 (1 : Int)), (2, .int .i64 (2 : Int)), (3, z2.v)]) rfl (by kernel_rfl)) rfl rfl rfl ?_
  refine JL.mv (d := some 7) (MV.litV (K := (NE.pair (NE.flat (Enc.int .u8)) (NE.pair (NE.flat (Enc.int .i64)) (NE.pair (NE.flat (Enc.int .i64)) (NE.sl (Enc.int .u8)))))) (vals := [(0, .agg #[.int .u8 (1 : Int), .int .i64 (0 : Int), .int .i64 (2 : Int), z2.v])]) [((), (), (), z2)] [((1 : Int), (0 : Int), (2 : Int), [(97 : Int), (98 : Int)])] Try.underlying22 zi_35 ⟨fun w F G hst => ⟨trivial, trivial, trivial, (ok_vw (Drv.vw 1 rfl) w F G hst)⟩, trivial⟩ rfl (by decide) rfl (by kernel_rfl)) rfl rfl rfl ?_
  rintro _ _ ⟨z3, rfl, rfl⟩
  obtain ⟨y4, hc5, hm⟩ := bind_inv hm
  refine JL.mv (d := some 8) (MV.call (Lo := []) (Lr := [Asr.onv 35 (NE.pair (NE.flat (Enc.int .u8)) (NE.pair (NE.flat (Enc.int .i64)) (NE.pair (NE.flat (Enc.int .i64)) (NE.sl (Enc.int .u8))))) (z3.v) [((), (), (), z2)] [((1 : Int), (0 : Int), (2 : Int), [(97 : Int), (98 : Int)])], Asr.of 5 (Enc.int .u8) (SlV.nil.v) ([] : List Int), Asr.vw (Enc.int .u8) (z2.v) [(97 : Int), (98 : Int)]]) (F22.spec (z3) ([((), (), (), z2)]) ([((1 : Int), (0 : Int), (2 : Int), [(97 : Int), (98 : Int)])]) _ hc5) rfl Try.func22 rfl rfl rfl [] [0, 1, 2] rfl rfl rfl ⟨(Drv.onv 0 rfl), trivial⟩) rfl rfl rfl ?_
  rintro _ _ ⟨_, ⟨z6, rfl, rfl⟩, rfl⟩
  refine JL.val (v := .tuple #[z6.v, .int .i64 y4.2]) (QV.move rfl) rfl rfl rfl ?_
  refine JL.val (v := z6.v) (QV.extract (vs := [z6.v, .int .i64 y4.2]) rfl rfl) rfl rfl rfl ?_
  refine JL.val (v := .int .i64 y4.2) (QV.extract (vs := [z6.v, .int .i64 y4.2]) rfl rfl) rfl rfl rfl ?_
  refine JL.val (v := z6.v) (QV.assign rfl) rfl rfl rfl ?_
  refine JL.val (v := .int .i64 y4.2) (QV.assign rfl) rfl rfl rfl ?_
  refine JL.nil ?_
  refine QJ.then_normal ?_
  refine JC.seq ?_
  refine JC.region ?_
  refine JL.val (v := .int .i64 y4.2) (QV.move rfl) rfl rfl rfl ?_
  refine JL.val (v := .bool (decide (y4.2 = (0 : Int)))) (QV.eql rfl rfl) rfl rfl rfl ?_
  rcases ite_inv hm with ⟨h7, hm⟩ | ⟨h7, hm⟩
  ·
    refine JL.val (v := .bool true) (QV.eq (QV.move rfl) (congrArg Value.bool (decide_eq_true h7))) rfl rfl rfl ?_
    refine JL.val (v := z6.v) (QV.move rfl) rfl rfl rfl ?_
    refine JL.val (v := .string (strOfNums y4.1)) (QV.str (Rdg.of 0 rfl) Try.underlying23 Try.underlying5 Try.underlying9 rfl) rfl rfl rfl ?_
    refine JL.val (v := .bool (decide ((strOfNums y4.1) = (⟨#[1, 2, 97, 98]⟩ : ByteArray)))) (QV.eqlS rfl rfl) rfl rfl rfl ?_
    refine JL.val (v := .bool (decide ((strOfNums y4.1) = (⟨#[1, 2, 97, 98]⟩ : ByteArray)))) (QV.pickT rfl rfl) rfl rfl rfl ?_
    refine JL.val (v := .bool (decide ((strOfNums y4.1) = (⟨#[1, 2, 97, 98]⟩ : ByteArray)))) (QV.assign rfl) rfl rfl rfl ?_
    refine JL.nil ?_
    refine QJ.then_normal ?_
    refine JC.ret ?_
    obtain rfl := Option.some.inj hm
    exact QJ.body (vs := [.bool (decide ((strOfNums y4.1) = (⟨#[1, 2, 97, 98]⟩ : ByteArray)))]) (.inl rfl) rfl (ResVs.cons (ResV.tmp rfl) ResVs.nil) [] rfl rfl (.inr trivial) ⟨rfl, rfl⟩
  ·
    refine JL.val (v := .bool false) (QV.eq (QV.move rfl) (congrArg Value.bool (decide_eq_false h7))) rfl rfl rfl ?_
    refine JL.skip (d := some 14) rfl rfl rfl ?_
    refine JL.skip (d := some 15) rfl rfl rfl ?_
    refine JL.skip (d := some 16) rfl rfl rfl ?_
    refine JL.val (v := .bool false) (QV.pickF rfl rfl) rfl rfl rfl ?_
    refine JL.val (v := .bool false) (QV.assign rfl) rfl rfl rfl ?_
    refine JL.nil ?_
    refine QJ.then_normal ?_
    refine JC.ret ?_
    obtain rfl := Option.some.inj hm
    exact QJ.body (vs := [.bool false]) (.inl rfl) rfl (ResVs.cons (ResV.tmp rfl) ResVs.nil) [] rfl rfl (.inr trivial) ⟨rfl, rfl⟩

/-! ### 63: (*drogher/plan.reader).take -/
noncomputable def F63.m (x3 : List Int) (x4 : Int) : Option (Unit ⊕ (List Int × List Int)) :=
  (if ((x3).length : Int) < x4 then some (.inl ()) else (if 0 ≤ x4 ∧ x4 ≤ x4 ∧ x4 ≤ ((x3).length : Int) then (if 0 ≤ x4 ∧ x4 ≤ ((x3).length : Int) ∧ ((x3).length : Int) ≤ ((x3).length : Int) then some (.inr ((subL x3 (0 : Int) x4), (subL x3 x4 ((x3).length : Int)))) else none) else none))
set_option maxRecDepth 100000 in
set_option maxHeartbeats 4000000 in
theorem F63.spec (b1 : Nat) (s2 : SlV) (x3 : List Int) (x4 : Int) (r : (Unit ⊕ (List Int × List Int))) (hm : F63.m x3 x4 = some r) :
    CtrE Try.prog true 63 [.pointer (some ⟨b1, 0, none⟩), .int .i64 x4] [Asr.blk b1 73 [Seg.c (s2.v)], Asr.vw (Enc.int .u8) (s2.v) x3] (fun b v L' => match r with | (.inl r) => (b = true ∧ v = .iface 70 (.agg #[.int .i64 (2 : Int)]) ∧ L' = [Asr.vw (Enc.int .u8) (s2.v) x3, Asr.blk b1 73 [Seg.c (s2.v)]]) | (.inr r) => (b = false ∧ ∃ (g5 : SlV), ∃ (g7 : SlV), v = g5.v ∧ L' = [Asr.vw (Enc.int .u8) (g5.v) r.1, Asr.vw (Enc.int .u8) (g7.v) r.2, Asr.blk b1 73 [Seg.c (g7.v)]])) := by
  refine CtrE.intro (n := 32) (env := [(0, .pointer (some ⟨b1, 0, none⟩)), (1, .int .i64 x4)]) Try.func63 rfl rfl rfl rfl (fun c => ?_)
  unfold F63.m at hm
  refine JC.seq ?_
  refine JC.region ?_
  refine JL.ent (fun _ hs => hs.nil 5 (Enc.int .u8)) ?_
  refine JL.val (v := SlV.nil.v) (QV.assign rfl) rfl rfl rfl ?_
  refine JL.nil ?_
  refine QJ.then_normal ?_
  refine JC.seq ?_
  refine JC.seq ?_
  refine JC.region ?_
  refine JL.val (v := .int .i64 x4) (QV.move rfl) rfl rfl rfl ?_
  refine JL.val (v := .pointer (some ⟨b1, 0, none⟩)) (QV.move rfl) rfl rfl rfl ?_
  refine JL.val (v := .pointer (some ⟨b1, 0, none⟩)) (QV.nilCheck rfl) rfl rfl rfl ?_
  refine JL.val (v := .pointer (some ⟨b1, 0, none⟩)) (QV.fieldB fo_73_0 rfl rfl) rfl rfl rfl ?_
  refine JL.val (v := s2.v) (QV.load1 (ss := [Seg.c (s2.v)]) 1 0 rfl tk_23 rfl rfl rfl) rfl rfl rfl ?_
  refine JL.val (v := .int .i64 ((x3).length : Int)) (QV.len (Rdg.vw 2 rfl) Try.underlying23 rfl) rfl rfl rfl ?_
  refine JL.val (v := .bool (decide (((x3).length : Int) < x4))) (QV.gtr rfl rfl) rfl rfl rfl ?_
  refine JL.nil ?_
  refine QJ.then_normal ?_
  rcases ite_inv hm with ⟨h9, hm⟩ | ⟨h9, hm⟩
  ·
    refine JC.condT' rfl (decide_eq_true h9) ?_
    refine JC.region ?_
    refine JL.val (v := .agg #[.int .i64 (2 : Int)]) (QV.build (vals := [(0, .int .i64 (2 : Int))]) rfl (by kernel_rfl)) rfl rfl rfl ?_
    refine JL.val (v := .iface 70 (.agg #[.int .i64 (2 : Int)])) (QV.mkIface Try.underlying70 rfl rfl) rfl rfl rfl ?_
    refine JL.mvP (d := none) (MVE.panic (t := 70) (v := .agg #[.int .i64 (2 : Int)]) rfl) rfl rfl rfl (fun _ _ h => Bool.noConfusion h.1) ?_
    rintro _ _ ⟨_, rfl, rfl⟩
    refine QJ.then_panic ?_
    obtain rfl := Option.some.inj hm
    exact QJ.bodyP [2, 1] rfl rfl (.inl rfl) ⟨rfl, rfl, rfl⟩
  ·
    refine JC.condF' rfl (decide_eq_false h9) ?_
    refine JC.skip ?_
    refine QJ.then_normal ?_
    refine JC.seq ?_
    refine JC.region ?_
    refine JL.val (v := .pointer (some ⟨b1, 0, none⟩)) (QV.move rfl) rfl rfl rfl ?_
    refine JL.val (v := .pointer (some ⟨b1, 0, none⟩)) (QV.nilCheck rfl) rfl rfl rfl ?_
    refine JL.val (v := .pointer (some ⟨b1, 0, none⟩)) (QV.fieldB fo_73_0 rfl rfl) rfl rfl rfl ?_
    refine JL.val (v := s2.v) (QV.load1 (ss := [Seg.c (s2.v)]) 1 0 rfl tk_23 rfl rfl rfl) rfl rfl rfl ?_
    refine JL.val (v := .int .i64 x4) (QV.move rfl) rfl rfl rfl ?_
    refine JL.val (v := .int .i64 x4) (QV.move rfl) rfl rfl rfl ?_
    obtain ⟨h10, hm⟩ := guard_inv hm
    refine JL.val (v := (SlV.sub3 ((Enc.int .u8)).sz s2 (0 : Int) x4 x4).v) (QV.slice3 (Rdg.vw 2 rfl) Try.underlying23 tk_5 rfl rfl rfl h10) rfl rfl rfl ?_
    refine JL.val (v := (SlV.sub3 ((Enc.int .u8)).sz s2 (0 : Int) x4 x4).v) (QV.assign rfl) rfl rfl rfl ?_
    refine JL.nil ?_
    refine QJ.ent (fun _ hs => hs.derive ((Drv.vw 2 rfl).sub3V ⟨Int.le_refl _, h10⟩)) ?_
    refine QJ.then_normal ?_
    refine JC.seq ?_
    refine JC.region ?_
    refine JL.val (v := .pointer (some ⟨b1, 0, none⟩)) (QV.move rfl) rfl rfl rfl ?_
    refine JL.val (v := .pointer (some ⟨b1, 0, none⟩)) (QV.move rfl) rfl rfl rfl ?_
    refine JL.val (v := .pointer (some ⟨b1, 0, none⟩)) (QV.nilCheck rfl) rfl rfl rfl ?_
    refine JL.val (v := .pointer (some ⟨b1, 0, none⟩)) (QV.fieldB fo_73_0 rfl rfl) rfl rfl rfl ?_
    refine JL.val (v := s2.v) (QV.load1 (ss := [Seg.c (s2.v)]) 2 0 rfl tk_23 rfl rfl rfl) rfl rfl rfl ?_
    refine JL.val (v := .int .i64 x4) (QV.move rfl) rfl rfl rfl ?_
    obtain ⟨h11, hm⟩ := guard_inv hm
    refine JL.val (v := (SlV.sub ((Enc.int .u8)).sz s2 x4 ((x3).length : Int)).v) (QV.sliceV (Rdg.vw 3 rfl) Try.underlying23 tk_5 rfl rfl rfl h11) rfl rfl rfl ?_
    refine JL.val (v := .pointer (some ⟨b1, 0, none⟩)) (QV.nilCheck rfl) rfl rfl rfl ?_
    refine JL.val (v := .pointer (some ⟨b1, 0, none⟩)) (QV.fieldB fo_73_0 rfl rfl) rfl rfl rfl ?_
    refine JL.ent (fun _ hs => hs.derive ((Drv.vw 3 rfl).subV h11)) ?_
    refine JL.mv (d := none) (MV.store (ss := [Seg.c (s2.v)]) 3 0 1 [Seg.c ((SlV.sub ((Enc.int .u8)).sz s2 x4 ((x3).length : Int)).v)] rfl tk_23 rfl rfl rfl rfl (fun w hs => ⟨cells_sl (Rdg.vw 0 rfl) hs, one_sl (Rdg.vw 0 rfl) hs, trivial⟩)) rfl rfl rfl ?_
    rintro _ _ ⟨rfl, rfl⟩
    refine JL.nil ?_
    refine QJ.then_normal ?_
    refine JC.seq ?_
    refine JC.region ?_
    refine JL.val (v := (SlV.sub3 ((Enc.int .u8)).sz s2 (0 : Int) x4 x4).v) (QV.move rfl) rfl rfl rfl ?_
    refine JL.val (v := (SlV.sub3 ((Enc.int .u8)).sz s2 (0 : Int) x4 x4).v) (QV.assign rfl) rfl rfl rfl ?_
    refine JL.nil ?_
    refine QJ.then_normal ?_
    refine JC.ret ?_
    obtain rfl := Option.some.inj hm
    exact QJ.bodyE (vs := [(SlV.sub3 ((Enc.int .u8)).sz s2 (0 : Int) x4 x4).v]) (.inl rfl) rfl (ResVs.cons (ResV.tmp rfl) ResVs.nil) [1, 0, 3] rfl rfl (.inl rfl) ⟨rfl, ((SlV.sub3 ((Enc.int .u8)).sz s2 (0 : Int) x4 x4)), ((SlV.sub ((Enc.int .u8)).sz s2 x4 ((x3).length : Int))), rfl, rfl⟩

/-! ### 61: (*drogher/plan.reader).one -/
noncomputable def F61.m (x3 : List Int) : Option (Unit ⊕ (Int × List Int)) :=
  ((F63.m (x3) ((1 : Int))).bind fun y7 => match y7 with | (.inl y9) => some (.inl ()) | (.inr y10) => (if 0 ≤ (0 : Int) ∧ (0 : Int) < ((y10.1).length : Int) then some (.inr ((gd y10.1 (0 : Int)), y10.2)) else none))
set_option maxRecDepth 100000 in
set_option maxHeartbeats 4000000 in
theorem F61.spec (b1 : Nat) (s2 : SlV) (x3 : List Int) (r : (Unit ⊕ (Int × List Int))) (hm : F61.m x3 = some r) :
    CtrE Try.prog true 61 [.pointer (some ⟨b1, 0, none⟩)] [Asr.blk b1 73 [Seg.c (s2.v)], Asr.vw (Enc.int .u8) (s2.v) x3] (fun b v L' => match r with | (.inl r) => (b = true ∧ v = .iface 70 (.agg #[.int .i64 (2 : Int)]) ∧ L' = [Asr.vw (Enc.int .u8) (s2.v) x3, Asr.blk b1 73 [Seg.c (s2.v)]]) | (.inr r) => (b = false ∧ ∃ (g5 : SlV), v = .int .u8 r.1 ∧ L' = [Asr.vw (Enc.int .u8) (g5.v) r.2, Asr.blk b1 73 [Seg.c (g5.v)]])) := by
  refine CtrE.intro (n := 9) (env := [(0, .pointer (some ⟨b1, 0, none⟩))]) Try.func61 rfl rfl rfl rfl (fun c => ?_)
  unfold F61.m at hm
  refine JC.seq ?_
  refine JC.region ?_
  refine JL.val (v := .int .u8 (0 : Int)) (QV.assign rfl) rfl rfl rfl ?_
  refine JL.nil ?_
  refine QJ.then_normal ?_
  refine JC.seq ?_
  refine JC.region ?_
  refine JL.val (v := .pointer (some ⟨b1, 0, none⟩)) (QV.move rfl) rfl rfl rfl ?_
  obtain ⟨y7, hc8, hm⟩ := bind_inv hm
  rcases y7 with y9 | y10
  ·
    refine JL.mvP (d := some 5) (MVE.call (Lo := [Asr.blk b1 73 [Seg.c (s2.v)]]) (Lr := [Asr.vw (Enc.int .u8) (s2.v) x3]) (F63.spec (b1) (s2) (x3) ((1 : Int)) _ hc8) rfl Try.func63 rfl rfl rfl [0] [1] rfl rfl rfl ⟨(Drv.vw 0 rfl), trivial⟩) rfl rfl rfl (fun _ _ h => by obtain ⟨_, ⟨h, _⟩, _⟩ := h; cases h) ?_
    rintro _ _ ⟨_, ⟨_, rfl, rfl⟩, rfl⟩
    refine QJ.then_panic ?_
    obtain rfl := Option.some.inj hm
    exact QJ.bodyP [0, 1] rfl rfl (.inl rfl) ⟨rfl, rfl, rfl⟩
  ·
    refine JL.mvR (d := some 5) (MVE.call (Lo := [Asr.blk b1 73 [Seg.c (s2.v)]]) (Lr := [Asr.vw (Enc.int .u8) (s2.v) x3]) (F63.spec (b1) (s2) (x3) ((1 : Int)) _ hc8) rfl Try.func63 rfl rfl rfl [0] [1] rfl rfl rfl ⟨(Drv.vw 0 rfl), trivial⟩) rfl rfl rfl (fun _ _ h => by obtain ⟨_, ⟨h, _⟩, _⟩ := h; cases h) ?_
    rintro _ _ ⟨_, ⟨_, z11, z12, rfl, rfl⟩, rfl⟩
    refine JL.val (v := z11.v) (QV.assign rfl) rfl rfl rfl ?_
    refine JL.nil ?_
    refine QJ.then_normal ?_
    refine JC.seq ?_
    refine JC.region ?_
    refine JL.val (v := z11.v) (QV.move rfl) rfl rfl rfl ?_
    obtain ⟨h13, hm⟩ := guard_inv hm
    refine JL.val (v := .pointer (some (elA (z11.v) (Int.toNat (0 : Int) * ((Enc.int .u8)).sz)))) (QV.indexA (Rdg.vw 0 rfl) Try.underlying23 tk_5 rfl rfl h13) rfl rfl rfl ?_
    refine JL.val (v := .int .u8 (gd y10.1 (0 : Int))) (QV.el1 (Rdg.vw 0 rfl) tk_5 rfl h13 rfl) rfl rfl rfl ?_
    refine JL.val (v := .int .u8 (gd y10.1 (0 : Int))) (QV.assign rfl) rfl rfl rfl ?_
    refine JL.nil ?_
    refine QJ.then_normal ?_
    refine JC.ret ?_
    obtain rfl := Option.some.inj hm
    exact QJ.bodyE (vs := [.int .u8 (gd y10.1 (0 : Int))]) (.inl rfl) rfl (ResVs.cons (ResV.tmp rfl) ResVs.nil) [1, 2] rfl rfl (.inl rfl) ⟨rfl, z12, rfl, rfl⟩

/-! ### 62: (*drogher/plan.reader).number -/
noncomputable def F62.j1  (d11 : List Int) : Option ((Int × List Int) ⊕ (Int × List Int)) :=
  some (.inl ((13 : Int), d11))
noncomputable def F62.b1  : (List Int × Int × Int) → Option ((List Int × Int × Int) ⊕ ((((Int × List Int) ⊕ (Int × List Int))) ⊕ (List Int)))
  | (d13, d14, d15) => (if d15 < (5 : Int) then ((F61.m (d13)).bind fun y25 => match y25 with | (.inl y27) => some (.inr (.inl ((.inl ((2 : Int), d13))))) | (.inr y28) => (if 0 ≤ (IntKind.wrap .i64 ((7 : Int) * d15)) then (if y28.1 < (128 : Int) then (if y28.1 = (0 : Int) then (if (0 : Int) < d15 then some (.inr (.inr (y28.2))) else some (.inr (.inl ((.inr ((IntKind.wrap .i64 (d14 + (shlI .i64 (IntKind.wrap .i64 (Int.tmod y28.1 (128 : Int))) (IntKind.wrap .i64 ((7 : Int) * d15))))), y28.2)))))) else some (.inr (.inl ((.inr ((IntKind.wrap .i64 (d14 + (shlI .i64 (IntKind.wrap .i64 (Int.tmod y28.1 (128 : Int))) (IntKind.wrap .i64 ((7 : Int) * d15))))), y28.2)))))) else some (.inl (y28.2, (IntKind.wrap .i64 (d14 + (shlI .i64 (IntKind.wrap .i64 (Int.tmod y28.1 (128 : Int))) (IntKind.wrap .i64 ((7 : Int) * d15))))), (IntKind.wrap .i64 (d15 + (1 : Int)))))) else none)) else some (.inr (.inr (d13))))
noncomputable def F62.m (x3 : List Int) : Option ((Int × List Int) ⊕ (Int × List Int)) :=
  ((loop (F62.b1) (x3, (0 : Int), (0 : Int))).bind fun y => match y with | .inl r => some r | .inr d11 => F62.j1 (d11))
set_option maxRecDepth 100000 in
set_option maxHeartbeats 4000000 in
theorem F62.spec (b1 : Nat) (s2 : SlV) (x3 : List Int) (r : ((Int × List Int) ⊕ (Int × List Int))) (hm : F62.m x3 = some r) :
    CtrE Try.prog true 62 [.pointer (some ⟨b1, 0, none⟩)] [Asr.blk b1 73 [Seg.c (s2.v)], Asr.vw (Enc.int .u8) (s2.v) x3] (fun b v L' => match r with | (.inl r) => (b = true ∧ ∃ (g5 : SlV), v = .iface 70 (.agg #[.int .i64 r.1]) ∧ L' = [Asr.vw (Enc.int .u8) (g5.v) r.2, Asr.blk b1 73 [Seg.c (g5.v)]]) | (.inr r) => (b = false ∧ ∃ (g8 : SlV), v = .int .i64 r.1 ∧ L' = [Asr.vw (Enc.int .u8) (g8.v) r.2, Asr.blk b1 73 [Seg.c (g8.v)]])) := by
  refine CtrE.intro (n := 31) (env := [(0, .pointer (some ⟨b1, 0, none⟩))]) Try.func62 rfl rfl rfl rfl (fun c => ?_)
  unfold F62.m at hm
  refine JC.seq ?_
  refine JC.region ?_
  refine JL.val (v := .int .i64 (0 : Int)) (QV.assign rfl) rfl rfl rfl ?_
  refine JL.nil ?_
  refine QJ.then_normal ?_
  refine JC.seq ?_
  refine JC.region ?_
  refine JL.val (v := .int .i64 (0 : Int)) (QV.assign rfl) rfl rfl rfl ?_
  refine JL.nil ?_
  refine QJ.then_normal ?_
  refine JC.seq ?_
  refine JC.seq ?_
  refine JC.region ?_
  refine JL.val (v := .int .i64 (0 : Int)) (QV.move rfl) rfl rfl rfl ?_
  refine JL.nil ?_
  refine QJ.then_normal ?_
  refine JC.cutK (Y := (List Int) × SlV) (fun y => match y with | (d11, _) => F62.j1 (d11) = some r) (fun y => match y with | (d11, z10) => [(2, .int .i64 (0 : Int))]) (fun y => match y with | (d11, z10) => [Asr.vw (Enc.int .u8) (z10.v) d11, Asr.blk b1 73 [Seg.c (z10.v)]]) ?_ ?_
  ·
    rintro ⟨d11, z10⟩ hm
    unfold F62.j1 at hm
    show QJ _ _ [(2, .int .i64 (0 : Int))] [Asr.vw (Enc.int .u8) (z10.v) d11, Asr.blk b1 73 [Seg.c (z10.v)]] _ _
    refine QJ.then_normal ?_
    refine JC.region ?_
    refine JL.val (v := .agg #[.int .i64 (13 : Int)]) (QV.build (vals := [(0, .int .i64 (13 : Int))]) rfl (by kernel_rfl)) rfl rfl rfl ?_
    refine JL.val (v := .iface 70 (.agg #[.int .i64 (13 : Int)])) (QV.mkIface Try.underlying70 rfl rfl) rfl rfl rfl ?_
    refine JL.mvP (d := none) (MVE.panic (t := 70) (v := .agg #[.int .i64 (13 : Int)]) rfl) rfl rfl rfl (fun _ _ h => Bool.noConfusion h.1) ?_
    rintro _ _ ⟨_, rfl, rfl⟩
    obtain rfl := Option.some.inj hm
    exact QJ.bodyP [0, 1] rfl rfl (.inl rfl) ⟨rfl, z10, rfl, rfl⟩
  ·
    refine JC.block ?_
    obtain ⟨y20, hl21, hmo22⟩ := bind_inv hm
    refine JC.loop (F62.b1) (fun x z => match x, z with | (d13, d14, d15), z12 => [(0, .pointer (some ⟨b1, 0, none⟩)), (2, .int .i64 (0 : Int)), (3, .int .i64 d14), (6, .int .i64 d15)]) (fun x z => match x, z with | (d13, d14, d15), z12 => [Asr.vw (Enc.int .u8) (z12.v) d13, Asr.blk b1 73 [Seg.c (z12.v)]]) (x3, (0 : Int), (0 : Int)) s2 y20 hl21 [1, 0] (by exact ⟨rfl, rfl, rfl, rfl, trivial⟩) rfl rfl ?_
    rintro ⟨d13, d14, d15⟩ z12 s23 hm
    unfold F62.b1 at hm
    dsimp only at hm
    show JC _ _ _ [(0, .pointer (some ⟨b1, 0, none⟩)), (2, .int .i64 (0 : Int)), (3, .int .i64 d14), (6, .int .i64 d15)] [Asr.vw (Enc.int .u8) (z12.v) d13, Asr.blk b1 73 [Seg.c (z12.v)]] _ _
    refine JC.seq ?_
    refine JC.region ?_
    refine JL.val (v := .bool (decide (d15 < (5 : Int)))) (QV.lss rfl rfl) rfl rfl rfl ?_
    refine JL.nil ?_
    refine QJ.then_normal ?_
    refine JC.seq ?_
    rcases ite_inv hm with ⟨h24, hm⟩ | ⟨h24, hm⟩
    ·
      refine JC.condT' rfl (decide_eq_true h24) ?_
      refine JC.skip ?_
      refine QJ.then_normal ?_
      refine JC.seq ?_
      refine JC.block ?_
      refine JC.seq ?_
      refine JC.region ?_
      refine JL.val (v := .int .i64 d15) (QV.move rfl) rfl rfl rfl ?_
      refine JL.val (v := .int .i64 d15) (QV.assign rfl) rfl rfl rfl ?_
      refine JL.nil ?_
      refine QJ.then_normal ?_
      refine JC.seq ?_
      refine JC.region ?_
      refine JL.val (v := .pointer (some ⟨b1, 0, none⟩)) (QV.move rfl) rfl rfl rfl ?_
      obtain ⟨y25, hc26, hm⟩ := bind_inv hm
      rcases y25 with y27 | y28
      ·
        refine JL.mvP (d := some 10) (MVE.call (Lo := [Asr.blk b1 73 [Seg.c (z12.v)]]) (Lr := [Asr.vw (Enc.int .u8) (z12.v) d13]) (F61.spec (b1) (z12) (d13) _ hc26) rfl Try.func61 rfl rfl rfl [1] [0] rfl rfl rfl ⟨(Drv.vw 0 rfl), trivial⟩) rfl rfl rfl (fun _ _ h => by obtain ⟨_, ⟨h, _⟩, _⟩ := h; cases h) ?_
        rintro _ _ ⟨_, ⟨_, rfl, rfl⟩, rfl⟩
        refine QJ.then_panic ?_
        refine QJ.block_panic ?_
        refine QJ.then_panic ?_
        obtain rfl := Option.some.inj hm
        refine QJ.round_panic (fun hy => ?_)
        subst hy
        refine QJ.block_panic ?_
        refine QJ.cut_panic ?_
        refine QJ.then_panic ?_
        obtain rfl := Option.some.inj hmo22
        exact QJ.bodyP [0, 1] rfl rfl (.inl rfl) ⟨rfl, z12, rfl, rfl⟩
      ·
        refine JL.mvR (d := some 10) (MVE.call (Lo := [Asr.blk b1 73 [Seg.c (z12.v)]]) (Lr := [Asr.vw (Enc.int .u8) (z12.v) d13]) (F61.spec (b1) (z12) (d13) _ hc26) rfl Try.func61 rfl rfl rfl [1] [0] rfl rfl rfl ⟨(Drv.vw 0 rfl), trivial⟩) rfl rfl rfl (fun _ _ h => by obtain ⟨_, ⟨h, _⟩, _⟩ := h; cases h) ?_
        rintro _ _ ⟨_, ⟨_, z29, rfl, rfl⟩, rfl⟩
        refine JL.val (v := .int .u8 y28.1) (QV.assign rfl) rfl rfl rfl ?_
        refine JL.nil ?_
        refine QJ.then_normal ?_
        refine JC.seq ?_
        refine JC.region ?_
        refine JL.val (v := .int .i64 d14) (QV.move rfl) rfl rfl rfl ?_
        refine JL.val (v := .int .u8 y28.1) (QV.move rfl) rfl rfl rfl ?_
        refine JL.val (v := .int .u8 (Int.tmod y28.1 (128 : Int))) (QV.rem rfl rfl (by decide)) rfl rfl rfl ?_
        refine JL.val (v := .int .i64 (IntKind.wrap .i64 (Int.tmod y28.1 (128 : Int)))) (QV.conv rfl (by rw [Try.underlying5]; rfl) Try.underlying3) rfl rfl rfl ?_
        refine JL.val (v := .int .i64 d15) (QV.move rfl) rfl rfl rfl ?_
        refine JL.val (v := .int .i64 (IntKind.wrap .i64 ((7 : Int) * d15))) (QV.mul rfl rfl) rfl rfl rfl ?_
        obtain ⟨h30, hm⟩ := guard_inv hm
        refine JL.val (v := .int .i64 (shlI .i64 (IntKind.wrap .i64 (Int.tmod y28.1 (128 : Int))) (IntKind.wrap .i64 ((7 : Int) * d15)))) (QV.shl rfl rfl h30) rfl rfl rfl ?_
        refine JL.val (v := .int .i64 (IntKind.wrap .i64 (d14 + (shlI .i64 (IntKind.wrap .i64 (Int.tmod y28.1 (128 : Int))) (IntKind.wrap .i64 ((7 : Int) * d15)))))) (QV.add rfl rfl) rfl rfl rfl ?_
        refine JL.val (v := .int .i64 (IntKind.wrap .i64 (d14 + (shlI .i64 (IntKind.wrap .i64 (Int.tmod y28.1 (128 : Int))) (IntKind.wrap .i64 ((7 : Int) * d15)))))) (QV.assign rfl) rfl rfl rfl ?_
        refine JL.nil ?_
        refine QJ.then_normal ?_
        refine JC.seq ?_
        refine JC.region ?_
        refine JL.val (v := .int .u8 y28.1) (QV.move rfl) rfl rfl rfl ?_
        refine JL.val (v := .bool (decide (y28.1 < (128 : Int)))) (QV.lss rfl rfl) rfl rfl rfl ?_
        refine JL.nil ?_
        refine QJ.then_normal ?_
        rcases ite_inv hm with ⟨h31, hm⟩ | ⟨h31, hm⟩
        ·
          refine JC.condT' rfl (decide_eq_true h31) ?_
          refine JC.seq ?_
          refine JC.seq ?_
          refine JC.region ?_
          refine JL.val (v := .int .u8 y28.1) (QV.move rfl) rfl rfl rfl ?_
          refine JL.val (v := .bool (decide (y28.1 = (0 : Int)))) (QV.eql rfl rfl) rfl rfl rfl ?_
          rcases ite_inv hm with ⟨h32, hm⟩ | ⟨h32, hm⟩
          ·
            refine JL.val (v := .bool true) (QV.eq (QV.move rfl) (congrArg Value.bool (decide_eq_true h32))) rfl rfl rfl ?_
            refine JL.val (v := .int .i64 d15) (QV.move rfl) rfl rfl rfl ?_
            refine JL.val (v := .bool (decide ((0 : Int) < d15))) (QV.gtr rfl rfl) rfl rfl rfl ?_
            refine JL.val (v := .bool (decide ((0 : Int) < d15))) (QV.pickT rfl rfl) rfl rfl rfl ?_
            refine JL.nil ?_
            refine QJ.then_normal ?_
            rcases ite_inv hm with ⟨h33, hm⟩ | ⟨h33, hm⟩
            ·
              refine JC.condT' rfl (decide_eq_true h33) ?_
              refine JC.exit ?_
              refine QJ.then_exit ?_
              refine QJ.block_miss rfl ?_
              refine QJ.then_exit ?_
              obtain rfl := Option.some.inj hm
              refine QJ.round_exit (fun hy => ?_)
              subst hy
              refine QJ.block_hit ?_
              exact QJ.cut_normal (y28.2, z29) hmo22 [0, 1] (by exact ⟨rfl, trivial⟩) rfl rfl
            ·
              refine JC.condF' rfl (decide_eq_false h33) ?_
              refine JC.skip ?_
              refine QJ.then_normal ?_
              refine JC.seq ?_
              refine JC.region ?_
              refine JL.val (v := .int .i64 (IntKind.wrap .i64 (d14 + (shlI .i64 (IntKind.wrap .i64 (Int.tmod y28.1 (128 : Int))) (IntKind.wrap .i64 ((7 : Int) * d15)))))) (QV.move rfl) rfl rfl rfl ?_
              refine JL.val (v := .int .i64 (IntKind.wrap .i64 (d14 + (shlI .i64 (IntKind.wrap .i64 (Int.tmod y28.1 (128 : Int))) (IntKind.wrap .i64 ((7 : Int) * d15)))))) (QV.assign rfl) rfl rfl rfl ?_
              refine JL.nil ?_
              refine QJ.then_normal ?_
              refine JC.ret ?_
              refine QJ.block_ret ?_
              refine QJ.then_ret ?_
              obtain rfl := Option.some.inj hm
              refine QJ.round_ret (fun hy => ?_)
              subst hy
              refine QJ.block_ret ?_
              refine QJ.cut_ret ?_
              refine QJ.then_ret ?_
              obtain rfl := Option.some.inj hmo22
              exact QJ.bodyE (vs := [.int .i64 (IntKind.wrap .i64 (d14 + (shlI .i64 (IntKind.wrap .i64 (Int.tmod y28.1 (128 : Int))) (IntKind.wrap .i64 ((7 : Int) * d15)))))]) (.inl rfl) rfl (ResVs.cons (ResV.tmp rfl) ResVs.nil) [0, 1] rfl rfl (.inl rfl) ⟨rfl, z29, rfl, rfl⟩
          ·
            refine JL.val (v := .bool false) (QV.eq (QV.move rfl) (congrArg Value.bool (decide_eq_false h32))) rfl rfl rfl ?_
            refine JL.skip (d := some 24) rfl rfl rfl ?_
            refine JL.skip (d := some 25) rfl rfl rfl ?_
            refine JL.val (v := .bool false) (QV.pickF rfl rfl) rfl rfl rfl ?_
            refine JL.nil ?_
            refine QJ.then_normal ?_
            refine JC.condF rfl ?_
            refine JC.skip ?_
            refine QJ.then_normal ?_
            refine JC.seq ?_
            refine JC.region ?_
            refine JL.val (v := .int .i64 (IntKind.wrap .i64 (d14 + (shlI .i64 (IntKind.wrap .i64 (Int.tmod y28.1 (128 : Int))) (IntKind.wrap .i64 ((7 : Int) * d15)))))) (QV.move rfl) rfl rfl rfl ?_
            refine JL.val (v := .int .i64 (IntKind.wrap .i64 (d14 + (shlI .i64 (IntKind.wrap .i64 (Int.tmod y28.1 (128 : Int))) (IntKind.wrap .i64 ((7 : Int) * d15)))))) (QV.assign rfl) rfl rfl rfl ?_
            refine JL.nil ?_
            refine QJ.then_normal ?_
            refine JC.ret ?_
            refine QJ.block_ret ?_
            refine QJ.then_ret ?_
            obtain rfl := Option.some.inj hm
            refine QJ.round_ret (fun hy => ?_)
            subst hy
            refine QJ.block_ret ?_
            refine QJ.cut_ret ?_
            refine QJ.then_ret ?_
            obtain rfl := Option.some.inj hmo22
            exact QJ.bodyE (vs := [.int .i64 (IntKind.wrap .i64 (d14 + (shlI .i64 (IntKind.wrap .i64 (Int.tmod y28.1 (128 : Int))) (IntKind.wrap .i64 ((7 : Int) * d15)))))]) (.inl rfl) rfl (ResVs.cons (ResV.tmp rfl) ResVs.nil) [0, 1] rfl rfl (.inl rfl) ⟨rfl, z29, rfl, rfl⟩
        ·
          refine JC.condF' rfl (decide_eq_false h31) ?_
          refine JC.skip ?_
          refine QJ.block_normal ?_
          refine QJ.then_normal ?_
          refine JC.region ?_
          refine JL.val (v := .int .i64 (IntKind.wrap .i64 (d15 + (1 : Int)))) (QV.add rfl rfl) rfl rfl rfl ?_
          refine JL.val (v := .int .i64 (IntKind.wrap .i64 (d15 + (1 : Int)))) (QV.move rfl) rfl rfl rfl ?_
          refine JL.nil ?_
          obtain rfl := Option.some.inj hm
          exact QJ.round_on (y28.2, (IntKind.wrap .i64 (d14 + (shlI .i64 (IntKind.wrap .i64 (Int.tmod y28.1 (128 : Int))) (IntKind.wrap .i64 ((7 : Int) * d15))))), (IntKind.wrap .i64 (d15 + (1 : Int)))) z29 [0, 1] (by exact ⟨rfl, rfl, rfl, rfl, trivial⟩) rfl rfl
    ·
      refine JC.condF' rfl (decide_eq_false h24) ?_
      refine JC.exit ?_
      refine QJ.then_exit ?_
      obtain rfl := Option.some.inj hm
      refine QJ.round_exit (fun hy => ?_)
      subst hy
      refine QJ.block_hit ?_
      exact QJ.cut_normal (d13, z12) hmo22 [0, 1] (by exact ⟨rfl, trivial⟩) rfl rfl

/-! ### 60: slices.Clone[[]byte,byte] -/
noncomputable def F60.m (x2 : List Int) : Option (List Int) :=
  if (([] : List Int).length + x2.length) * 1 ≤ 140737488355328 ∧ ([] : List Int).length + x2.length ≤ 9223372036854775807 then some x2 else none
set_option maxRecDepth 100000 in
set_option maxHeartbeats 4000000 in
theorem F60.spec (s1 : SlV) (x2 : List Int) (r : List Int) (hm : F60.m x2 = some r) :
    Ctr Try.prog false 60 [s1.v] [Asr.vw (Enc.int .u8) (s1.v) x2] (fun v L' => ∃ (g1 : SlV), v = g1.v ∧ L' = [Asr.of 5 (Enc.int .u8) (g1.v) r]) := by
  refine Ctr.intro (n := 8) (env := [(0, s1.v)]) Try.func60 rfl rfl rfl rfl (fun c => ?_)
  unfold F60.m at hm
  obtain ⟨h4, hm⟩ := guard_inv hm
  obtain rfl := Option.some.inj hm
  refine JC.seq ?_
  refine JC.region ?_
  refine JL.ent (fun _ hs => hs.nil 5 (Enc.int .u8)) ?_
  refine JL.val (v := SlV.nil.v) (QV.assign rfl) rfl rfl rfl ?_
  refine JL.nil ?_
  refine QJ.then_normal ?_
  refine JC.seq ?_
  refine JC.seq ?_
  refine JC.region ?_
  refine JL.val (v := s1.v) (QV.move rfl) rfl rfl rfl ?_
  refine JL.val (v := .bool (decide (s1.a = none))) (QV.eqlNil Try.underlying23 rfl rfl) rfl rfl rfl ?_
  refine JL.nil ?_
  refine QJ.then_normal ?_
  refine JC.cond (decide (s1.a = none)) rfl (fun hb => ?_) (fun hb => ?_)
  · refine JC.fact ((Rdg.vw 1 rfl : Rdg c _ (Enc.int .u8) s1.v x2).none_nil (of_decide_eq_true hb)) (fun hx => ?_)
    subst hx
    refine JC.seq ?_
    refine JC.region ?_
    refine JL.ent (fun _ hs => hs.nil 5 (Enc.int .u8)) ?_
    refine JL.val (v := SlV.nil.v) (QV.assign rfl) rfl rfl rfl ?_
    refine JL.nil ?_
    refine QJ.then_normal ?_
    refine JC.ret ?_
    refine QJ.then_ret ?_
    exact QJ.body (vs := [SlV.nil.v]) (.inl rfl) rfl (ResVs.cons (ResV.tmp rfl) ResVs.nil) [0] rfl rfl (.inr ⟨own_of _ _ _ _, trivial⟩) ⟨SlV.nil, rfl, rfl⟩
  · refine JC.skip ?_
    refine QJ.then_normal ?_
    refine JC.seq ?_
    refine JC.region ?_
    refine JL.mv (d := some 5) (MV.lit0 (Enc.int .u8) Try.underlying23 (by kernel_rfl)) rfl rfl rfl ?_
    rintro _ _ ⟨z8, rfl, rfl⟩
    refine JL.val (v := s1.v) (QV.move rfl) rfl rfl rfl ?_
    refine JL.mv (d := some 7) (MV.append 0 rfl (Rdg.vw 2 rfl) Try.underlying23 zi_5 rfl (by decide) rfl rfl h4) rfl rfl rfl ?_
    rintro _ _ ⟨z9, rfl, rfl⟩
    refine JL.val (v := z9.v) (QV.assign rfl) rfl rfl rfl ?_
    refine JL.nil ?_
    refine QJ.then_normal ?_
    refine JC.ret ?_
    exact QJ.body (vs := [z9.v]) (.inl rfl) rfl (ResVs.cons (ResV.tmp rfl) ResVs.nil) [0] rfl rfl (.inr ⟨own_of _ _ _ _, trivial⟩) ⟨z9, rfl, rfl⟩

/-! ### 46: (*drogher/plan.reader).step -/
noncomputable def F46.j2 (y18 : (Int × List Int)) (y26 : (Int × List Int)) (d31 : Int) (d36 : List Int) (d38 : List Int) : Option ((Int × List Int) ⊕ (Int × Int × Int × List Int × List Int)) :=
  some (.inr (y18.1, d31, y26.1, d36, d38))
noncomputable def F46.j1 (y18 : (Int × List Int)) (y26 : (Int × List Int)) (d30 : List Int) (d31 : Int) : Option ((Int × List Int) ⊕ (Int × Int × Int × List Int × List Int)) :=
  (if y26.1 < (1 : Int) then some (.inl ((13 : Int), d30)) else (if (4096 : Int) < y26.1 then some (.inl ((13 : Int), d30)) else (if (2147483647 : Int) < d31 then some (.inl ((13 : Int), d30)) else (if y18.1 = (2 : Int) then F46.j2 y18 y26 d31 (([] : List Int)) (d30) else ((F63.m (d30) (y26.1)).bind fun y40 => match y40 with | (.inl y42) => some (.inl ((2 : Int), d30)) | (.inr y43) => ((F60.m (y43.1)).bind fun y46 => F46.j2 y18 y26 d31 (y46) (y43.2)))))))
noncomputable def F46.m (x3 : List Int) : Option ((Int × List Int) ⊕ (Int × Int × Int × List Int × List Int)) :=
  ((F61.m (x3)).bind fun y15 => match y15 with | (.inl y17) => some (.inl ((2 : Int), x3)) | (.inr y18) => (if y18.1 < (1 : Int) then some (.inl ((13 : Int), y18.2)) else (if (3 : Int) < y18.1 then some (.inl ((13 : Int), y18.2)) else ((F62.m (y18.2)).bind fun y23 => match y23 with | (.inl y25) => some (.inl (y25.1, y25.2)) | (.inr y26) => (if y18.1 = (1 : Int) then F46.j1 y18 y26 (y26.2) ((0 : Int)) else ((F62.m (y26.2)).bind fun y50 => match y50 with | (.inl y52) => some (.inl (y52.1, y52.2)) | (.inr y53) => F46.j1 y18 y26 (y53.2) (y53.1)))))))
set_option maxRecDepth 100000 in
set_option maxHeartbeats 4000000 in
theorem F46.spec (b1 : Nat) (s2 : SlV) (x3 : List Int) (r : ((Int × List Int) ⊕ (Int × Int × Int × List Int × List Int))) (hm : F46.m x3 = some r) :
    CtrE Try.prog true 46 [.pointer (some ⟨b1, 0, none⟩)] [Asr.blk b1 73 [Seg.c (s2.v)], Asr.vw (Enc.int .u8) (s2.v) x3] (fun b v L' => match r with | (.inl r) => (b = true ∧ ∃ (g5 : SlV), v = .iface 70 (.agg #[.int .i64 r.1]) ∧ L' = [Asr.vw (Enc.int .u8) (g5.v) r.2, Asr.blk b1 73 [Seg.c (g5.v)]]) | (.inr r) => (b = false ∧ ∃ (g10 : SlV), ∃ (g12 : SlV), v = .agg #[.int .u8 r.1, .int .i64 r.2.1, .int .i64 r.2.2.1, g10.v] ∧ L' = [Asr.of 5 (Enc.int .u8) (g10.v) r.2.2.2.1, Asr.vw (Enc.int .u8) (g12.v) r.2.2.2.2, Asr.blk b1 73 [Seg.c (g12.v)]])) := by
  refine CtrE.intro (n := 51) (env := [(0, .pointer (some ⟨b1, 0, none⟩))]) Try.func46 rfl rfl rfl rfl (fun c => ?_)
  unfold F46.m at hm
  refine JC.seq ?_
  refine JC.region ?_
  refine JL.ent (fun _ hs => hs.nil 5 (Enc.int .u8)) ?_
  refine JL.mv (d := some 2) (MV.alloc [Seg.c (.int .u8 (0 : Int)), Seg.c (.int .i64 (0 : Int)), Seg.c (.int .i64 (0 : Int)), Seg.c (SlV.nil.v)] z_35 rfl) rfl rfl rfl ?_
  rintro _ _ ⟨b14, rfl, rfl⟩
  refine JL.nil ?_
  refine QJ.then_normal ?_
  refine JC.seq ?_
  refine JC.region ?_
  refine JL.val (v := .pointer (some ⟨b1, 0, none⟩)) (QV.move rfl) rfl rfl rfl ?_
  obtain ⟨y15, hc16, hm⟩ := bind_inv hm
  rcases y15 with y17 | y18
  ·
    refine JL.mvP (d := some 5) (MVE.call (Lo := [Asr.blk b1 73 [Seg.c (s2.v)]]) (Lr := [Asr.blk b14 35 [Seg.c (.int .u8 (0 : Int)), Seg.c (.int .i64 (0 : Int)), Seg.c (.int .i64 (0 : Int)), Seg.c (SlV.nil.v)], Asr.of 5 (Enc.int .u8) (SlV.nil.v) ([] : List Int), Asr.vw (Enc.int .u8) (s2.v) x3]) (F61.spec (b1) (s2) (x3) _ hc16) rfl Try.func61 rfl rfl rfl [2] [0, 1, 3] rfl rfl rfl ⟨(Drv.vw 2 rfl), trivial⟩) rfl rfl rfl (fun _ _ h => by obtain ⟨_, ⟨h, _⟩, _⟩ := h; cases h) ?_
    rintro _ _ ⟨_, ⟨_, rfl, rfl⟩, rfl⟩
    refine QJ.then_panic ?_
    obtain rfl := Option.some.inj hm
    exact QJ.bodyP [0, 1] rfl rfl (.inl rfl) ⟨rfl, s2, rfl, rfl⟩
  ·
    refine JL.mvR (d := some 5) (MVE.call (Lo := [Asr.blk b1 73 [Seg.c (s2.v)]]) (Lr := [Asr.blk b14 35 [Seg.c (.int .u8 (0 : Int)), Seg.c (.int .i64 (0 : Int)), Seg.c (.int .i64 (0 : Int)), Seg.c (SlV.nil.v)], Asr.of 5 (Enc.int .u8) (SlV.nil.v) ([] : List Int), Asr.vw (Enc.int .u8) (s2.v) x3]) (F61.spec (b1) (s2) (x3) _ hc16) rfl Try.func61 rfl rfl rfl [2] [0, 1, 3] rfl rfl rfl ⟨(Drv.vw 2 rfl), trivial⟩) rfl rfl rfl (fun _ _ h => by obtain ⟨_, ⟨h, _⟩, _⟩ := h; cases h) ?_
    rintro _ _ ⟨_, ⟨_, z19, rfl, rfl⟩, rfl⟩
    refine JL.ent (fun _ hs => hs.nil 5 (Enc.int .u8)) ?_
    refine JL.val (v := .agg #[.int .u8 y18.1, .int .i64 (0 : Int), .int .i64 (0 : Int), SlV.nil.v]) (QV.build (vals := [(0, .int .u8 y18.1)]) rfl (by kernel_rfl)) rfl rfl rfl ?_
    refine JL.ent (fun _ hs => hs.nil 5 (Enc.int .u8)) ?_
    refine JL.mv (d := some 3) (MV.alloc [Seg.c (.int .u8 (0 : Int)), Seg.c (.int .i64 (0 : Int)), Seg.c (.int .i64 (0 : Int)), Seg.c (SlV.nil.v)] z_35 rfl) rfl rfl rfl ?_
    rintro _ _ ⟨b20, rfl, rfl⟩
    refine JL.mv (d := none) (MV.store (ss := [Seg.c (.int .u8 (0 : Int)), Seg.c (.int .i64 (0 : Int)), Seg.c (.int .i64 (0 : Int)), Seg.c (SlV.nil.v)]) 0 0 4 [Seg.c (.int .u8 y18.1), Seg.c (.int .i64 (0 : Int)), Seg.c (.int .i64 (0 : Int)), Seg.c (SlV.nil.v)] rfl tk_35 rfl rfl rfl rfl (fun w hs => ⟨rfl, one_c rfl, one_c rfl, one_c rfl, one_sl (Rdg.of 2 rfl) hs, trivial⟩)) rfl rfl rfl ?_
    rintro _ _ ⟨rfl, rfl⟩
    refine JL.nil ?_
    refine QJ.then_normal ?_
    refine JC.seq ?_
    refine JC.seq ?_
    refine JC.region ?_
    refine JL.val (v := .pointer (some ⟨b20, 0, none⟩)) (QV.fieldB fo_35_0 rfl rfl) rfl rfl rfl ?_
    refine JL.val (v := .int .u8 y18.1) (QV.load1 (ss := [Seg.c (.int .u8 y18.1), Seg.c (.int .i64 (0 : Int)), Seg.c (.int .i64 (0 : Int)), Seg.c (SlV.nil.v)]) 0 0 rfl tk_5 rfl rfl rfl) rfl rfl rfl ?_
    refine JL.val (v := .bool (decide (y18.1 < (1 : Int)))) (QV.lss rfl rfl) rfl rfl rfl ?_
    rcases ite_inv hm with ⟨h21, hm⟩ | ⟨h21, hm⟩
    ·
      refine JL.val (v := .bool true) (QV.eq (QV.move rfl) (congrArg Value.bool (decide_eq_true h21))) rfl rfl rfl ?_
      refine JL.skip (d := some 11) rfl rfl rfl ?_
      refine JL.skip (d := some 12) rfl rfl rfl ?_
      refine JL.skip (d := some 13) rfl rfl rfl ?_
      refine JL.val (v := .bool true) (QV.pickT rfl rfl) rfl rfl rfl ?_
      refine JL.nil ?_
      refine QJ.then_normal ?_
      refine JC.condT rfl ?_
      refine JC.region ?_
      refine JL.val (v := .agg #[.int .i64 (13 : Int)]) (QV.build (vals := [(0, .int .i64 (13 : Int))]) rfl (by kernel_rfl)) rfl rfl rfl ?_
      refine JL.val (v := .iface 70 (.agg #[.int .i64 (13 : Int)])) (QV.mkIface Try.underlying70 rfl rfl) rfl rfl rfl ?_
      refine JL.mvP (d := none) (MVE.panic (t := 70) (v := .agg #[.int .i64 (13 : Int)]) rfl) rfl rfl rfl (fun _ _ h => Bool.noConfusion h.1) ?_
      rintro _ _ ⟨_, rfl, rfl⟩
      refine QJ.then_panic ?_
      obtain rfl := Option.some.inj hm
      exact QJ.bodyP [3, 4] rfl rfl (.inl rfl) ⟨rfl, z19, rfl, rfl⟩
    ·
      refine JL.val (v := .bool false) (QV.eq (QV.move rfl) (congrArg Value.bool (decide_eq_false h21))) rfl rfl rfl ?_
      refine JL.val (v := .pointer (some ⟨b20, 0, none⟩)) (QV.fieldB fo_35_0 rfl rfl) rfl rfl rfl ?_
      refine JL.val (v := .int .u8 y18.1) (QV.load1 (ss := [Seg.c (.int .u8 y18.1), Seg.c (.int .i64 (0 : Int)), Seg.c (.int .i64 (0 : Int)), Seg.c (SlV.nil.v)]) 0 0 rfl tk_5 rfl rfl rfl) rfl rfl rfl ?_
      refine JL.val (v := .bool (decide ((3 : Int) < y18.1))) (QV.gtr rfl rfl) rfl rfl rfl ?_
      refine JL.val (v := .bool (decide ((3 : Int) < y18.1))) (QV.pickF rfl rfl) rfl rfl rfl ?_
      refine JL.nil ?_
      refine QJ.then_normal ?_
      rcases ite_inv hm with ⟨h22, hm⟩ | ⟨h22, hm⟩
      ·
        refine JC.condT' rfl (decide_eq_true h22) ?_
        refine JC.region ?_
        refine JL.val (v := .agg #[.int .i64 (13 : Int)]) (QV.build (vals := [(0, .int .i64 (13 : Int))]) rfl (by kernel_rfl)) rfl rfl rfl ?_
        refine JL.val (v := .iface 70 (.agg #[.int .i64 (13 : Int)])) (QV.mkIface Try.underlying70 rfl rfl) rfl rfl rfl ?_
        refine JL.mvP (d := none) (MVE.panic (t := 70) (v := .agg #[.int .i64 (13 : Int)]) rfl) rfl rfl rfl (fun _ _ h => Bool.noConfusion h.1) ?_
        rintro _ _ ⟨_, rfl, rfl⟩
        refine QJ.then_panic ?_
        obtain rfl := Option.some.inj hm
        exact QJ.bodyP [3, 4] rfl rfl (.inl rfl) ⟨rfl, z19, rfl, rfl⟩
      ·
        refine JC.condF' rfl (decide_eq_false h22) ?_
        refine JC.skip ?_
        refine QJ.then_normal ?_
        refine JC.seq ?_
        refine JC.region ?_
        refine JL.val (v := .pointer (some ⟨b1, 0, none⟩)) (QV.move rfl) rfl rfl rfl ?_
        obtain ⟨y23, hc24, hm⟩ := bind_inv hm
        rcases y23 with y25 | y26
        ·
          refine JL.mvP (d := some 18) (MVE.call (Lo := [Asr.blk b1 73 [Seg.c (z19.v)]]) (Lr := [Asr.blk b20 35 [Seg.c (.int .u8 y18.1), Seg.c (.int .i64 (0 : Int)), Seg.c (.int .i64 (0 : Int)), Seg.c (SlV.nil.v)], Asr.of 5 (Enc.int .u8) (SlV.nil.v) ([] : List Int), Asr.of 5 (Enc.int .u8) (SlV.nil.v) ([] : List Int), Asr.vw (Enc.int .u8) (z19.v) y18.2, Asr.blk b14 35 [Seg.c (.int .u8 (0 : Int)), Seg.c (.int .i64 (0 : Int)), Seg.c (.int .i64 (0 : Int)), Seg.c (SlV.nil.v)], Asr.of 5 (Enc.int .u8) (SlV.nil.v) ([] : List Int), Asr.vw (Enc.int .u8) (s2.v) x3]) (F62.spec (b1) (z19) (y18.2) _ hc24) rfl Try.func62 rfl rfl rfl [4] [0, 1, 2, 3, 5, 6, 7] rfl rfl rfl ⟨(Drv.vw 3 rfl), trivial⟩) rfl rfl rfl (fun _ _ h => by obtain ⟨_, ⟨h, _⟩, _⟩ := h; cases h) ?_
          rintro _ _ ⟨_, ⟨_, z27, rfl, rfl⟩, rfl⟩
          refine QJ.then_panic ?_
          obtain rfl := Option.some.inj hm
          exact QJ.bodyP [0, 1] rfl rfl (.inl rfl) ⟨rfl, z27, rfl, rfl⟩
        ·
          refine JL.mvR (d := some 18) (MVE.call (Lo := [Asr.blk b1 73 [Seg.c (z19.v)]]) (Lr := [Asr.blk b20 35 [Seg.c (.int .u8 y18.1), Seg.c (.int .i64 (0 : Int)), Seg.c (.int .i64 (0 : Int)), Seg.c (SlV.nil.v)], Asr.of 5 (Enc.int .u8) (SlV.nil.v) ([] : List Int), Asr.of 5 (Enc.int .u8) (SlV.nil.v) ([] : List Int), Asr.vw (Enc.int .u8) (z19.v) y18.2, Asr.blk b14 35 [Seg.c (.int .u8 (0 : Int)), Seg.c (.int .i64 (0 : Int)), Seg.c (.int .i64 (0 : Int)), Seg.c (SlV.nil.v)], Asr.of 5 (Enc.int .u8) (SlV.nil.v) ([] : List Int), Asr.vw (Enc.int .u8) (s2.v) x3]) (F62.spec (b1) (z19) (y18.2) _ hc24) rfl Try.func62 rfl rfl rfl [4] [0, 1, 2, 3, 5, 6, 7] rfl rfl rfl ⟨(Drv.vw 3 rfl), trivial⟩) rfl rfl rfl (fun _ _ h => by obtain ⟨_, ⟨h, _⟩, _⟩ := h; cases h) ?_
          rintro _ _ ⟨_, ⟨_, z28, rfl, rfl⟩, rfl⟩
          refine JL.val (v := .pointer (some ⟨b20, 2, none⟩)) (QV.fieldB fo_35_2 rfl rfl) rfl rfl rfl ?_
          refine JL.mv (d := none) (MV.store (ss := [Seg.c (.int .u8 y18.1), Seg.c (.int .i64 (0 : Int)), Seg.c (.int .i64 (0 : Int)), Seg.c (SlV.nil.v)]) 2 2 1 [Seg.c (.int .i64 y26.1)] rfl tk_3 rfl rfl rfl rfl (fun w hs => ⟨rfl, one_c rfl, trivial⟩)) rfl rfl rfl ?_
          rintro _ _ ⟨rfl, rfl⟩
          refine JL.nil ?_
          refine QJ.then_normal ?_
          refine JC.seq ?_
          refine JC.seq ?_
          refine JC.region ?_
          refine JL.val (v := .pointer (some ⟨b20, 0, none⟩)) (QV.fieldB fo_35_0 rfl rfl) rfl rfl rfl ?_
          refine JL.val (v := .int .u8 y18.1) (QV.load1 (ss := [Seg.c (.int .u8 y18.1), Seg.c (.int .i64 (0 : Int)), Seg.c (.int .i64 y26.1), Seg.c (SlV.nil.v)]) 2 0 rfl tk_5 rfl rfl rfl) rfl rfl rfl ?_
          refine JL.val (v := .bool (!(decide (y18.1 = (1 : Int))))) (QV.neq rfl rfl) rfl rfl rfl ?_
          refine JL.nil ?_
          refine QJ.then_normal ?_
          refine JC.cutK (Y := (List Int × Int) × SlV) (fun y => match y with | ((d30, d31), _) => F46.j1 y18 y26 (d30) (d31) = some r) (fun y => match y with | ((d30, d31), z29) => [(0, .pointer (some ⟨b1, 0, none⟩)), (2, .pointer (some ⟨b14, 0, none⟩)), (3, .pointer (some ⟨b20, 0, none⟩))]) (fun y => match y with | ((d30, d31), z29) => [Asr.vw (Enc.int .u8) (z29.v) d30, Asr.blk b1 73 [Seg.c (z29.v)], Asr.of 5 (Enc.int .u8) (SlV.nil.v) ([] : List Int), Asr.blk b14 35 [Seg.c (.int .u8 (0 : Int)), Seg.c (.int .i64 (0 : Int)), Seg.c (.int .i64 (0 : Int)), Seg.c (SlV.nil.v)], Asr.of 5 (Enc.int .u8) (SlV.nil.v) ([] : List Int), Asr.blk b20 35 [Seg.c (.int .u8 y18.1), Seg.c (.int .i64 d31), Seg.c (.int .i64 y26.1), Seg.c (SlV.nil.v)]]) ?_ ?_
          ·
            rintro ⟨⟨d30, d31⟩, z29⟩ hm
            unfold F46.j1 at hm
            show QJ _ _ [(0, .pointer (some ⟨b1, 0, none⟩)), (2, .pointer (some ⟨b14, 0, none⟩)), (3, .pointer (some ⟨b20, 0, none⟩))] [Asr.vw (Enc.int .u8) (z29.v) d30, Asr.blk b1 73 [Seg.c (z29.v)], Asr.of 5 (Enc.int .u8) (SlV.nil.v) ([] : List Int), Asr.blk b14 35 [Seg.c (.int .u8 (0 : Int)), Seg.c (.int .i64 (0 : Int)), Seg.c (.int .i64 (0 : Int)), Seg.c (SlV.nil.v)], Asr.of 5 (Enc.int .u8) (SlV.nil.v) ([] : List Int), Asr.blk b20 35 [Seg.c (.int .u8 y18.1), Seg.c (.int .i64 d31), Seg.c (.int .i64 y26.1), Seg.c (SlV.nil.v)]] _ _
            refine QJ.then_normal ?_
            refine JC.seq ?_
            refine JC.seq ?_
            refine JC.region ?_
            refine JL.val (v := .pointer (some ⟨b20, 2, none⟩)) (QV.fieldB fo_35_2 rfl rfl) rfl rfl rfl ?_
            refine JL.val (v := .int .i64 y26.1) (QV.load1 (ss := [Seg.c (.int .u8 y18.1), Seg.c (.int .i64 d31), Seg.c (.int .i64 y26.1), Seg.c (SlV.nil.v)]) 5 2 rfl tk_3 rfl rfl rfl) rfl rfl rfl ?_
            refine JL.val (v := .bool (decide (y26.1 < (1 : Int)))) (QV.lss rfl rfl) rfl rfl rfl ?_
            rcases ite_inv hm with ⟨h32, hm⟩ | ⟨h32, hm⟩
            ·
              refine JL.val (v := .bool true) (QV.eq (QV.move rfl) (congrArg Value.bool (decide_eq_true h32))) rfl rfl rfl ?_
              refine JL.skip (d := some 30) rfl rfl rfl ?_
              refine JL.skip (d := some 31) rfl rfl rfl ?_
              refine JL.skip (d := some 32) rfl rfl rfl ?_
              refine JL.val (v := .bool true) (QV.pickT rfl rfl) rfl rfl rfl ?_
              refine JL.val (v := .bool true) (QV.move rfl) rfl rfl rfl ?_
              refine JL.skip (d := some 35) rfl rfl rfl ?_
              refine JL.skip (d := some 36) rfl rfl rfl ?_
              refine JL.skip (d := some 37) rfl rfl rfl ?_
              refine JL.val (v := .bool true) (QV.pickT rfl rfl) rfl rfl rfl ?_
              refine JL.nil ?_
              refine QJ.then_normal ?_
              refine JC.condT rfl ?_
              refine JC.region ?_
              refine JL.val (v := .agg #[.int .i64 (13 : Int)]) (QV.build (vals := [(0, .int .i64 (13 : Int))]) rfl (by kernel_rfl)) rfl rfl rfl ?_
              refine JL.val (v := .iface 70 (.agg #[.int .i64 (13 : Int)])) (QV.mkIface Try.underlying70 rfl rfl) rfl rfl rfl ?_
              refine JL.mvP (d := none) (MVE.panic (t := 70) (v := .agg #[.int .i64 (13 : Int)]) rfl) rfl rfl rfl (fun _ _ h => Bool.noConfusion h.1) ?_
              rintro _ _ ⟨_, rfl, rfl⟩
              refine QJ.then_panic ?_
              obtain rfl := Option.some.inj hm
              exact QJ.bodyP [0, 1] rfl rfl (.inl rfl) ⟨rfl, z29, rfl, rfl⟩
            ·
              refine JL.val (v := .bool false) (QV.eq (QV.move rfl) (congrArg Value.bool (decide_eq_false h32))) rfl rfl rfl ?_
              refine JL.val (v := .pointer (some ⟨b20, 2, none⟩)) (QV.fieldB fo_35_2 rfl rfl) rfl rfl rfl ?_
              refine JL.val (v := .int .i64 y26.1) (QV.load1 (ss := [Seg.c (.int .u8 y18.1), Seg.c (.int .i64 d31), Seg.c (.int .i64 y26.1), Seg.c (SlV.nil.v)]) 5 2 rfl tk_3 rfl rfl rfl) rfl rfl rfl ?_
              refine JL.val (v := .bool (decide ((4096 : Int) < y26.1))) (QV.gtr rfl rfl) rfl rfl rfl ?_
              refine JL.val (v := .bool (decide ((4096 : Int) < y26.1))) (QV.pickF rfl rfl) rfl rfl rfl ?_
              rcases ite_inv hm with ⟨h33, hm⟩ | ⟨h33, hm⟩
              ·
                refine JL.val (v := .bool true) (QV.eq (QV.move rfl) (congrArg Value.bool (decide_eq_true h33))) rfl rfl rfl ?_
                refine JL.skip (d := some 35) rfl rfl rfl ?_
                refine JL.skip (d := some 36) rfl rfl rfl ?_
                refine JL.skip (d := some 37) rfl rfl rfl ?_
                refine JL.val (v := .bool true) (QV.pickT rfl rfl) rfl rfl rfl ?_
                refine JL.nil ?_
                refine QJ.then_normal ?_
                refine JC.condT rfl ?_
                refine JC.region ?_
                refine JL.val (v := .agg #[.int .i64 (13 : Int)]) (QV.build (vals := [(0, .int .i64 (13 : Int))]) rfl (by kernel_rfl)) rfl rfl rfl ?_
                refine JL.val (v := .iface 70 (.agg #[.int .i64 (13 : Int)])) (QV.mkIface Try.underlying70 rfl rfl) rfl rfl rfl ?_
                refine JL.mvP (d := none) (MVE.panic (t := 70) (v := .agg #[.int .i64 (13 : Int)]) rfl) rfl rfl rfl (fun _ _ h => Bool.noConfusion h.1) ?_
                rintro _ _ ⟨_, rfl, rfl⟩
                refine QJ.then_panic ?_
                obtain rfl := Option.some.inj hm
                exact QJ.bodyP [0, 1] rfl rfl (.inl rfl) ⟨rfl, z29, rfl, rfl⟩
              ·
                refine JL.val (v := .bool false) (QV.eq (QV.move rfl) (congrArg Value.bool (decide_eq_false h33))) rfl rfl rfl ?_
                refine JL.val (v := .pointer (some ⟨b20, 1, none⟩)) (QV.fieldB fo_35_1 rfl rfl) rfl rfl rfl ?_
                refine JL.val (v := .int .i64 d31) (QV.load1 (ss := [Seg.c (.int .u8 y18.1), Seg.c (.int .i64 d31), Seg.c (.int .i64 y26.1), Seg.c (SlV.nil.v)]) 5 1 rfl tk_3 rfl rfl rfl) rfl rfl rfl ?_
                refine JL.val (v := .bool (decide ((2147483647 : Int) < d31))) (QV.gtr rfl rfl) rfl rfl rfl ?_
                refine JL.val (v := .bool (decide ((2147483647 : Int) < d31))) (QV.pickF rfl rfl) rfl rfl rfl ?_
                refine JL.nil ?_
                refine QJ.then_normal ?_
                rcases ite_inv hm with ⟨h34, hm⟩ | ⟨h34, hm⟩
                ·
                  refine JC.condT' rfl (decide_eq_true h34) ?_
                  refine JC.region ?_
                  refine JL.val (v := .agg #[.int .i64 (13 : Int)]) (QV.build (vals := [(0, .int .i64 (13 : Int))]) rfl (by kernel_rfl)) rfl rfl rfl ?_
                  refine JL.val (v := .iface 70 (.agg #[.int .i64 (13 : Int)])) (QV.mkIface Try.underlying70 rfl rfl) rfl rfl rfl ?_
                  refine JL.mvP (d := none) (MVE.panic (t := 70) (v := .agg #[.int .i64 (13 : Int)]) rfl) rfl rfl rfl (fun _ _ h => Bool.noConfusion h.1) ?_
                  rintro _ _ ⟨_, rfl, rfl⟩
                  refine QJ.then_panic ?_
                  obtain rfl := Option.some.inj hm
                  exact QJ.bodyP [0, 1] rfl rfl (.inl rfl) ⟨rfl, z29, rfl, rfl⟩
                ·
                  refine JC.condF' rfl (decide_eq_false h34) ?_
                  refine JC.skip ?_
                  refine QJ.then_normal ?_
                  refine JC.seq ?_
                  refine JC.seq ?_
                  refine JC.region ?_
                  refine JL.val (v := .pointer (some ⟨b20, 0, none⟩)) (QV.fieldB fo_35_0 rfl rfl) rfl rfl rfl ?_
                  refine JL.val (v := .int .u8 y18.1) (QV.load1 (ss := [Seg.c (.int .u8 y18.1), Seg.c (.int .i64 d31), Seg.c (.int .i64 y26.1), Seg.c (SlV.nil.v)]) 5 0 rfl tk_5 rfl rfl rfl) rfl rfl rfl ?_
                  refine JL.val (v := .bool (!(decide (y18.1 = (2 : Int))))) (QV.neq rfl rfl) rfl rfl rfl ?_
                  refine JL.nil ?_
                  refine QJ.then_normal ?_
                  refine JC.cutK (Y := (List Int × List Int) × (SlV × SlV)) (fun y => match y with | ((d36, d38), _) => F46.j2 y18 y26 d31 (d36) (d38) = some r) (fun y => match y with | ((d36, d38), (z35, z37)) => [(2, .pointer (some ⟨b14, 0, none⟩)), (3, .pointer (some ⟨b20, 0, none⟩))]) (fun y => match y with | ((d36, d38), (z35, z37)) => [Asr.of 5 (Enc.int .u8) (SlV.nil.v) ([] : List Int), Asr.blk b14 35 [Seg.c (.int .u8 (0 : Int)), Seg.c (.int .i64 (0 : Int)), Seg.c (.int .i64 (0 : Int)), Seg.c (SlV.nil.v)], Asr.of 5 (Enc.int .u8) (z35.v) d36, Asr.blk b20 35 [Seg.c (.int .u8 y18.1), Seg.c (.int .i64 d31), Seg.c (.int .i64 y26.1), Seg.c (z35.v)], Asr.vw (Enc.int .u8) (z37.v) d38, Asr.blk b1 73 [Seg.c (z37.v)]]) ?_ ?_
                  ·
                    rintro ⟨⟨d36, d38⟩, ⟨z35, z37⟩⟩ hm
                    unfold F46.j2 at hm
                    show QJ _ _ [(2, .pointer (some ⟨b14, 0, none⟩)), (3, .pointer (some ⟨b20, 0, none⟩))] [Asr.of 5 (Enc.int .u8) (SlV.nil.v) ([] : List Int), Asr.blk b14 35 [Seg.c (.int .u8 (0 : Int)), Seg.c (.int .i64 (0 : Int)), Seg.c (.int .i64 (0 : Int)), Seg.c (SlV.nil.v)], Asr.of 5 (Enc.int .u8) (z35.v) d36, Asr.blk b20 35 [Seg.c (.int .u8 y18.1), Seg.c (.int .i64 d31), Seg.c (.int .i64 y26.1), Seg.c (z35.v)], Asr.vw (Enc.int .u8) (z37.v) d38, Asr.blk b1 73 [Seg.c (z37.v)]] _ _
                    refine QJ.then_normal ?_
                    refine JC.seq ?_
                    refine JC.region ?_
                    refine JL.val (v := .agg #[.int .u8 y18.1, .int .i64 d31, .int .i64 y26.1, z35.v]) (QV.eq (QV.loadN (ss := [Seg.c (.int .u8 y18.1), Seg.c (.int .i64 d31), Seg.c (.int .i64 y26.1), Seg.c (z35.v)]) 3 0 4 rfl tk_35 rfl rfl rfl rfl) rfl) rfl rfl rfl ?_
                    refine JL.mv (d := none) (MV.store (ss := [Seg.c (.int .u8 (0 : Int)), Seg.c (.int .i64 (0 : Int)), Seg.c (.int .i64 (0 : Int)), Seg.c (SlV.nil.v)]) 1 0 4 [Seg.c (.int .u8 y18.1), Seg.c (.int .i64 d31), Seg.c (.int .i64 y26.1), Seg.c (z35.v)] rfl tk_35 rfl rfl rfl rfl (fun w hs => ⟨rfl, one_c rfl, one_c rfl, one_c rfl, one_sl (Rdg.of 2 rfl) hs, trivial⟩)) rfl rfl rfl ?_
                    rintro _ _ ⟨rfl, rfl⟩
                    refine JL.nil ?_
                    refine QJ.then_normal ?_
                    refine JC.ret ?_
                    obtain rfl := Option.some.inj hm
                    exact QJ.bodyE (vs := [.agg #[.int .u8 y18.1, .int .i64 d31, .int .i64 y26.1, z35.v]]) (.inl rfl) rfl (ResVs.cons (ResV.cell (d := none) (ty := 0) (ps := "") (af := #[]) (g := none) rfl (QV.eq (QV.loadN (ss := [Seg.c (.int .u8 y18.1), Seg.c (.int .i64 d31), Seg.c (.int .i64 y26.1), Seg.c (z35.v)]) 1 0 4 rfl tk_35 rfl rfl rfl rfl) rfl)) ResVs.nil) [2, 4, 5] rfl rfl (.inl rfl) ⟨rfl, z35, z37, rfl, rfl⟩
                  ·
                    rcases ite_inv hm with ⟨h39, hm⟩ | ⟨h39, hm⟩
                    ·
                      refine JC.condF' rfl (congrArg Bool.not (decide_eq_true h39)) ?_
                      refine JC.skip ?_
                      exact QJ.cut_normal ((([] : List Int), d30), (SlV.nil, z29)) hm [2, 3, 4, 5, 0, 1] (by exact ⟨rfl, rfl, trivial⟩) rfl rfl
                    ·
                      refine JC.condT' rfl (congrArg Bool.not (decide_eq_false h39)) ?_
                      refine JC.region ?_
                      refine JL.val (v := .pointer (some ⟨b1, 0, none⟩)) (QV.move rfl) rfl rfl rfl ?_
                      refine JL.val (v := .pointer (some ⟨b20, 2, none⟩)) (QV.fieldB fo_35_2 rfl rfl) rfl rfl rfl ?_
                      refine JL.val (v := .int .i64 y26.1) (QV.load1 (ss := [Seg.c (.int .u8 y18.1), Seg.c (.int .i64 d31), Seg.c (.int .i64 y26.1), Seg.c (SlV.nil.v)]) 5 2 rfl tk_3 rfl rfl rfl) rfl rfl rfl ?_
                      obtain ⟨y40, hc41, hm⟩ := bind_inv hm
                      rcases y40 with y42 | y43
                      ·
                        refine JL.mvP (d := some 47) (MVE.call (Lo := [Asr.blk b1 73 [Seg.c (z29.v)]]) (Lr := [Asr.vw (Enc.int .u8) (z29.v) d30, Asr.of 5 (Enc.int .u8) (SlV.nil.v) ([] : List Int), Asr.blk b14 35 [Seg.c (.int .u8 (0 : Int)), Seg.c (.int .i64 (0 : Int)), Seg.c (.int .i64 (0 : Int)), Seg.c (SlV.nil.v)], Asr.of 5 (Enc.int .u8) (SlV.nil.v) ([] : List Int), Asr.blk b20 35 [Seg.c (.int .u8 y18.1), Seg.c (.int .i64 d31), Seg.c (.int .i64 y26.1), Seg.c (SlV.nil.v)]]) (F63.spec (b1) (z29) (d30) (y26.1) _ hc41) rfl Try.func63 rfl rfl rfl [1] [0, 2, 3, 4, 5] rfl rfl rfl ⟨(Drv.vw 0 rfl), trivial⟩) rfl rfl rfl (fun _ _ h => by obtain ⟨_, ⟨h, _⟩, _⟩ := h; cases h) ?_
                        rintro _ _ ⟨_, ⟨_, rfl, rfl⟩, rfl⟩
                        refine QJ.cut_panic ?_
                        refine QJ.then_panic ?_
                        obtain rfl := Option.some.inj hm
                        exact QJ.bodyP [0, 1] rfl rfl (.inl rfl) ⟨rfl, z29, rfl, rfl⟩
                      ·
                        refine JL.mvR (d := some 47) (MVE.call (Lo := [Asr.blk b1 73 [Seg.c (z29.v)]]) (Lr := [Asr.vw (Enc.int .u8) (z29.v) d30, Asr.of 5 (Enc.int .u8) (SlV.nil.v) ([] : List Int), Asr.blk b14 35 [Seg.c (.int .u8 (0 : Int)), Seg.c (.int .i64 (0 : Int)), Seg.c (.int .i64 (0 : Int)), Seg.c (SlV.nil.v)], Asr.of 5 (Enc.int .u8) (SlV.nil.v) ([] : List Int), Asr.blk b20 35 [Seg.c (.int .u8 y18.1), Seg.c (.int .i64 d31), Seg.c (.int .i64 y26.1), Seg.c (SlV.nil.v)]]) (F63.spec (b1) (z29) (d30) (y26.1) _ hc41) rfl Try.func63 rfl rfl rfl [1] [0, 2, 3, 4, 5] rfl rfl rfl ⟨(Drv.vw 0 rfl), trivial⟩) rfl rfl rfl (fun _ _ h => by obtain ⟨_, ⟨h, _⟩, _⟩ := h; cases h) ?_
                        rintro _ _ ⟨_, ⟨_, z44, z45, rfl, rfl⟩, rfl⟩
                        obtain ⟨y46, hc47, hm⟩ := bind_inv hm
                        refine JL.mv (d := some 48) (MV.call (Lo := []) (Lr := [Asr.vw (Enc.int .u8) (z44.v) y43.1, Asr.vw (Enc.int .u8) (z45.v) y43.2, Asr.blk b1 73 [Seg.c (z45.v)], Asr.vw (Enc.int .u8) (z29.v) d30, Asr.of 5 (Enc.int .u8) (SlV.nil.v) ([] : List Int), Asr.blk b14 35 [Seg.c (.int .u8 (0 : Int)), Seg.c (.int .i64 (0 : Int)), Seg.c (.int .i64 (0 : Int)), Seg.c (SlV.nil.v)], Asr.of 5 (Enc.int .u8) (SlV.nil.v) ([] : List Int), Asr.blk b20 35 [Seg.c (.int .u8 y18.1), Seg.c (.int .i64 d31), Seg.c (.int .i64 y26.1), Seg.c (SlV.nil.v)]]) (F60.spec (z44) (y43.1) _ hc47) rfl Try.func60 rfl rfl rfl [] [0, 1, 2, 3, 4, 5, 6, 7] rfl rfl rfl ⟨(Drv.vw 0 rfl), trivial⟩) rfl rfl rfl ?_
                        rintro _ _ ⟨_, ⟨z48, rfl, rfl⟩, rfl⟩
                        refine JL.val (v := .pointer (some ⟨b20, 3, none⟩)) (QV.fieldB fo_35_3 rfl rfl) rfl rfl rfl ?_
                        refine JL.mv (d := none) (MV.store (ss := [Seg.c (.int .u8 y18.1), Seg.c (.int .i64 d31), Seg.c (.int .i64 y26.1), Seg.c (SlV.nil.v)]) 8 3 1 [Seg.c (z48.v)] rfl tk_23 rfl rfl rfl rfl (fun w hs => ⟨cells_sl (Rdg.of 0 rfl) hs, one_sl (Rdg.of 0 rfl) hs, trivial⟩)) rfl rfl rfl ?_
                        rintro _ _ ⟨rfl, rfl⟩
                        refine JL.nil ?_
                        exact QJ.cut_normal ((y46, y43.2), (z48, z45)) hm [5, 6, 0, 8, 2, 3] (by exact ⟨rfl, rfl, trivial⟩) rfl rfl
          ·
            rcases ite_inv hm with ⟨h49, hm⟩ | ⟨h49, hm⟩
            ·
              refine JC.condF' rfl (congrArg Bool.not (decide_eq_true h49)) ?_
              refine JC.skip ?_
              exact QJ.cut_normal ((y26.2, (0 : Int)), z28) hm [0, 1, 7, 6, 4, 2] (by exact ⟨rfl, rfl, rfl, trivial⟩) rfl rfl
            ·
              refine JC.condT' rfl (congrArg Bool.not (decide_eq_false h49)) ?_
              refine JC.region ?_
              refine JL.val (v := .pointer (some ⟨b1, 0, none⟩)) (QV.move rfl) rfl rfl rfl ?_
              obtain ⟨y50, hc51, hm⟩ := bind_inv hm
              rcases y50 with y52 | y53
              ·
                refine JL.mvP (d := some 24) (MVE.call (Lo := [Asr.blk b1 73 [Seg.c (z28.v)]]) (Lr := [Asr.vw (Enc.int .u8) (z28.v) y26.2, Asr.blk b20 35 [Seg.c (.int .u8 y18.1), Seg.c (.int .i64 (0 : Int)), Seg.c (.int .i64 y26.1), Seg.c (SlV.nil.v)], Asr.of 5 (Enc.int .u8) (SlV.nil.v) ([] : List Int), Asr.of 5 (Enc.int .u8) (SlV.nil.v) ([] : List Int), Asr.vw (Enc.int .u8) (z19.v) y18.2, Asr.blk b14 35 [Seg.c (.int .u8 (0 : Int)), Seg.c (.int .i64 (0 : Int)), Seg.c (.int .i64 (0 : Int)), Seg.c (SlV.nil.v)], Asr.of 5 (Enc.int .u8) (SlV.nil.v) ([] : List Int), Asr.vw (Enc.int .u8) (s2.v) x3]) (F62.spec (b1) (z28) (y26.2) _ hc51) rfl Try.func62 rfl rfl rfl [1] [0, 2, 3, 4, 5, 6, 7, 8] rfl rfl rfl ⟨(Drv.vw 0 rfl), trivial⟩) rfl rfl rfl (fun _ _ h => by obtain ⟨_, ⟨h, _⟩, _⟩ := h; cases h) ?_
                rintro _ _ ⟨_, ⟨_, z54, rfl, rfl⟩, rfl⟩
                refine QJ.cut_panic ?_
                refine QJ.then_panic ?_
                obtain rfl := Option.some.inj hm
                exact QJ.bodyP [0, 1] rfl rfl (.inl rfl) ⟨rfl, z54, rfl, rfl⟩
              ·
                refine JL.mvR (d := some 24) (MVE.call (Lo := [Asr.blk b1 73 [Seg.c (z28.v)]]) (Lr := [Asr.vw (Enc.int .u8) (z28.v) y26.2, Asr.blk b20 35 [Seg.c (.int .u8 y18.1), Seg.c (.int .i64 (0 : Int)), Seg.c (.int .i64 y26.1), Seg.c (SlV.nil.v)], Asr.of 5 (Enc.int .u8) (SlV.nil.v) ([] : List Int), Asr.of 5 (Enc.int .u8) (SlV.nil.v) ([] : List Int), Asr.vw (Enc.int .u8) (z19.v) y18.2, Asr.blk b14 35 [Seg.c (.int .u8 (0 : Int)), Seg.c (.int .i64 (0 : Int)), Seg.c (.int .i64 (0 : Int)), Seg.c (SlV.nil.v)], Asr.of 5 (Enc.int .u8) (SlV.nil.v) ([] : List Int), Asr.vw (Enc.int .u8) (s2.v) x3]) (F62.spec (b1) (z28) (y26.2) _ hc51) rfl Try.func62 rfl rfl rfl [1] [0, 2, 3, 4, 5, 6, 7, 8] rfl rfl rfl ⟨(Drv.vw 0 rfl), trivial⟩) rfl rfl rfl (fun _ _ h => by obtain ⟨_, ⟨h, _⟩, _⟩ := h; cases h) ?_
                rintro _ _ ⟨_, ⟨_, z55, rfl, rfl⟩, rfl⟩
                refine JL.val (v := .pointer (some ⟨b20, 1, none⟩)) (QV.fieldB fo_35_1 rfl rfl) rfl rfl rfl ?_
                refine JL.mv (d := none) (MV.store (ss := [Seg.c (.int .u8 y18.1), Seg.c (.int .i64 (0 : Int)), Seg.c (.int .i64 y26.1), Seg.c (SlV.nil.v)]) 3 1 1 [Seg.c (.int .i64 y53.1)] rfl tk_3 rfl rfl rfl rfl (fun w hs => ⟨rfl, one_c rfl, trivial⟩)) rfl rfl rfl ?_
                rintro _ _ ⟨rfl, rfl⟩
                refine JL.nil ?_
                exact QJ.cut_normal ((y53.2, y53.1), z55) hm [0, 1, 8, 7, 5, 3] (by exact ⟨rfl, rfl, rfl, trivial⟩) rfl rfl

/-! ### 45: drogher/plan.Get$1, deferred -/
noncomputable def F45d.m (x4 : Int) : Unit :=
  ()
set_option maxRecDepth 100000 in
set_option maxHeartbeats 4000000 in
theorem F45d.spec (b1 : Nat) (z2 : Value) (b3 : Nat) (x4 : Int) :
    CtrD Try.prog 45 [.pointer (some ⟨b1, 0, none⟩), .pointer (some ⟨b3, 0, none⟩)] none [Asr.blk b1 22 [Seg.c (z2)], Asr.blk b3 26 [Seg.c (.int .i64 x4)]] (fun L' => L' = [Asr.blk b1 22 [Seg.c (z2)], Asr.blk b3 26 [Seg.c (.int .i64 x4)]]) := by
  refine CtrD.intro (n := 13) (env := [(0, .pointer (some ⟨b1, 0, none⟩)), (1, .pointer (some ⟨b3, 0, none⟩))]) Try.func45 rfl rfl rfl rfl rfl rfl rfl rfl rfl (fun c => ?_)
  refine JC.block ?_
  refine JC.seq ?_
  refine JC.region ?_
  refine JL.val (v := .bool true) ((QV.eq (QV.eqlI Try.underlying20 rfl rfl (.inl rfl) rfl true rfl) rfl)) rfl rfl rfl ?_
  refine JL.nil ?_
  refine QJ.then_normal ?_
  refine JC.condT rfl ?_
  refine JC.region ?_
  refine JL.val (v := .nilIface) (QV.assign rfl) rfl rfl rfl ?_
  refine JL.nil ?_
  refine QJ.block_normal ?_
  exact QJ.body (vs := []) (.inr rfl) rfl ResVs.nil [0, 1] rfl rfl (.inr ⟨own_blk _ _ _, own_blk _ _ _, trivial⟩) rfl

/-! ### 45: drogher/plan.Get$1, deferred -/
noncomputable def F45d_1.m (x4 : Int) (x5 : Int) : Unit :=
  ()
set_option maxRecDepth 100000 in
set_option maxHeartbeats 4000000 in
theorem F45d_1.spec (b1 : Nat) (z2 : Value) (b3 : Nat) (x4 : Int) (x5 : Int) :
    CtrD Try.prog 45 [.pointer (some ⟨b1, 0, none⟩), .pointer (some ⟨b3, 0, none⟩)] (some (.iface 70 (.agg #[.int .i64 x5]))) [Asr.blk b1 22 [Seg.c (z2)], Asr.blk b3 26 [Seg.c (.int .i64 x4)]] (fun L' => L' = [Asr.blk b1 22 [Seg.c (.slice none 0 0)], Asr.blk b3 26 [Seg.c (.int .i64 x5)]]) := by
  refine CtrD.intro (n := 13) (env := [(0, .pointer (some ⟨b1, 0, none⟩)), (1, .pointer (some ⟨b3, 0, none⟩))]) Try.func45 rfl rfl rfl rfl rfl rfl rfl rfl rfl (fun c => ?_)
  refine JC.block ?_
  refine JC.seq ?_
  refine JC.region ?_
  refine JL.val (v := .bool false) ((QV.eq (QV.eqlI Try.underlying20 rfl rfl (.inr rfl) rfl false rfl) rfl)) rfl rfl rfl ?_
  refine JL.nil ?_
  refine QJ.then_normal ?_
  refine JC.condF rfl ?_
  refine JC.seq ?_
  refine JC.region ?_
  refine JL.val (v := .tuple #[.agg #[.int .i64 x5], .bool true]) (QV.asrtT Try.underlying70 rfl rfl) rfl rfl rfl ?_
  refine JL.val (v := .bool true) (QV.extract (vs := [.agg #[.int .i64 x5], .bool true]) rfl rfl) rfl rfl rfl ?_
  refine JL.val (v := .agg #[.int .i64 x5]) (QV.extract (vs := [.agg #[.int .i64 x5], .bool true]) rfl rfl) rfl rfl rfl ?_
  refine JL.nil ?_
  refine QJ.then_normal ?_
  refine JC.condT rfl ?_
  refine JC.seq ?_
  refine JC.region ?_
  refine JL.mv (d := some 3) (MV.alloc [Seg.c (.int .i64 (0 : Int))] z_70 rfl) rfl rfl rfl ?_
  rintro _ _ ⟨b6, rfl, rfl⟩
  refine JL.mv (d := none) (MV.store (ss := [Seg.c (.int .i64 (0 : Int))]) 0 0 1 [Seg.c (.int .i64 x5)] rfl tk_70 rfl rfl rfl rfl (fun w hs => ⟨rfl, one_c rfl, trivial⟩)) rfl rfl rfl ?_
  rintro _ _ ⟨rfl, rfl⟩
  refine JL.nil ?_
  refine QJ.then_normal ?_
  refine JC.regionT [Asr.blk b6 70 [Seg.c (.int .i64 x5)]] (fun t => false) [(0, true), (1, true), (2, false), (3, false)] (by kernel_rfl) (by kernel_rfl) (by kernel_rfl) rfl (fun hsel => ?_)
  refine JT.take (i := 0) (v := .pointer (some ⟨b6, 0, none⟩)) hsel rfl (QV.fieldB fo_70_0 rfl rfl) rfl rfl rfl rfl [0] rfl rfl ?_
  refine JT.take (i := 1) (v := .int .i64 x5) hsel rfl (QV.load1 (ss := [Seg.c (.int .i64 x5)]) 0 0 rfl tk_26 rfl rfl rfl) rfl rfl rfl rfl [0] rfl rfl ?_
  refine JT.only (i := 2) (d := none) rfl (MV.store (ss := [Seg.c (z2)]) 1 0 1 [Seg.c (.slice none 0 0)] rfl tk_22 rfl rfl rfl rfl (fun w hs => ⟨rfl, one_c rfl, trivial⟩)) rfl rfl rfl ?_
  rintro _ _ ⟨rfl, rfl⟩
  refine ⟨fun _ => ⟨[0], rfl, rfl⟩, ?_⟩
  refine JT.grow [Asr.blk b6 70 [Seg.c (.int .i64 x5)], Asr.blk b1 22 [Seg.c (.slice none 0 0)]] [0] rfl rfl ?_
  refine JT.only (i := 3) (d := none) rfl (MV.store (ss := [Seg.c (.int .i64 x4)]) 2 0 1 [Seg.c (.int .i64 x5)] rfl tk_26 rfl rfl rfl rfl (fun w hs => ⟨rfl, one_c rfl, trivial⟩)) rfl rfl rfl ?_
  rintro _ _ ⟨rfl, rfl⟩
  refine ⟨fun _ => ⟨[0, 1], rfl, rfl⟩, ?_⟩
  refine JT.grow [Asr.blk b6 70 [Seg.c (.int .i64 x5)], Asr.blk b1 22 [Seg.c (.slice none 0 0)], Asr.blk b3 26 [Seg.c (.int .i64 x5)]] [0, 1] rfl rfl ?_
  refine JT.nil ?_
  refine QJ.block_normal ?_
  exact QJ.body (vs := []) (.inr rfl) rfl ResVs.nil [1, 2] rfl rfl (.inr ⟨own_blk _ _ _, own_blk _ _ _, trivial⟩) rfl

/-! ### 19: drogher/plan.Get -/
noncomputable def F19.j1  (d13 : List (Int × Int × Int × (List Int))) : Option (List (Int × Int × Int × (List Int)) × Int) :=
  some (d13, (0 : Int))
noncomputable def F19.b1  : (List (Int × Int × Int × (List Int)) × List Int) → Option ((List (Int × Int × Int × (List Int)) × List Int) ⊕ (((List (Int × Int × Int × (List Int)) × Int)) ⊕ (List (Int × Int × Int × (List Int)))))
  | (d16, d19) => (if (0 : Int) < ((d19).length : Int) then ((F46.m (d19)).bind fun y30 => match y30 with | (.inl y32) => some (.inr (.inl ((([] : List (Int × Int × Int × (List Int))), y32.1)))) | (.inr y33) => (if ((d16).length + ([(y33.1, y33.2.1, y33.2.2.1, y33.2.2.2.1)]).length) * 48 ≤ 140737488355328 ∧ (d16).length + ([(y33.1, y33.2.1, y33.2.2.1, y33.2.2.2.1)]).length ≤ 9223372036854775807 then some (.inl ((d16 ++ [(y33.1, y33.2.1, y33.2.2.1, y33.2.2.2.1)]), y33.2.2.2.2)) else none)) else some (.inr (.inr (d16))))
noncomputable def F19.m (x2 : List Int) (x3 : Int) : Option (List (Int × Int × Int × (List Int)) × Int) :=
  (if x3 < ((x2).length : Int) then some (([] : List (Int × Int × Int × (List Int))), (12 : Int)) else ((loop (F19.b1) (([] : List (Int × Int × Int × (List Int))), x2)).bind fun y => match y with | .inl r => some r | .inr d13 => F19.j1 (d13)))
set_option maxRecDepth 100000 in
set_option maxHeartbeats 4000000 in
theorem F19.spec (s1 : SlV) (x2 : List Int) (x3 : Int) (r : (List (Int × Int × Int × (List Int)) × Int)) (hm : F19.m x2 x3 = some r) :
    Ctr Try.prog true 19 [s1.v, .int .i64 x3] [Asr.vw (Enc.int .u8) (s1.v) x2] (fun v L' => ∃ (g4 : SlV), ∃ (g6 : List (Unit × Unit × Unit × SlV)), v = .tuple #[g4.v, .int .i64 r.2] ∧ L' = [Asr.onv 35 (NE.pair (NE.flat (Enc.int .u8)) (NE.pair (NE.flat (Enc.int .i64)) (NE.pair (NE.flat (Enc.int .i64)) (NE.sl (Enc.int .u8))))) (g4.v) g6 r.1]) := by
  refine Ctr.introD (n := 27) (env := [(0, s1.v), (1, .int .i64 x3)]) Try.func19 rfl rfl rfl rfl (fun c => ?_)
  unfold F19.m at hm
  refine JC.seq ?_
  refine JC.region ?_
  refine JL.ent (fun _ hs => hs.nilV 35 (NE.pair (NE.flat (Enc.int .u8)) (NE.pair (NE.flat (Enc.int .i64)) (NE.pair (NE.flat (Enc.int .i64)) (NE.sl (Enc.int .u8)))))) ?_
  refine JL.mv (d := some 4) (MV.alloc [Seg.c (SlV.nil.v)] z_22 rfl) rfl rfl rfl ?_
  rintro _ _ ⟨b8, rfl, rfl⟩
  refine JL.mv (d := some 5) (MV.alloc [Seg.c (.int .i64 (0 : Int))] z_26 rfl) rfl rfl rfl ?_
  rintro _ _ ⟨b9, rfl, rfl⟩
  refine JL.nil ?_
  refine QJ.then_normal ?_
  refine JC.seq ?_
  refine JC.seq ?_
  refine JC.region ?_
  refine JL.val (v := s1.v) (QV.move rfl) rfl rfl rfl ?_
  refine JL.val (v := .int .i64 ((x2).length : Int)) (QV.len (Rdg.vw 3 rfl) Try.underlying23 rfl) rfl rfl rfl ?_
  refine JL.val (v := .int .i64 x3) (QV.move rfl) rfl rfl rfl ?_
  refine JL.val (v := .bool (decide (x3 < ((x2).length : Int)))) (QV.gtr rfl rfl) rfl rfl rfl ?_
  refine JL.nil ?_
  refine QJ.then_normal ?_
  rcases ite_inv hm with ⟨h10, hm⟩ | ⟨h10, hm⟩
  ·
    refine JC.condT' rfl (decide_eq_true h10) ?_
    refine JC.seq ?_
    refine JC.region ?_
    refine JL.ent (fun _ hs => hs.nilV 35 (NE.pair (NE.flat (Enc.int .u8)) (NE.pair (NE.flat (Enc.int .i64)) (NE.pair (NE.flat (Enc.int .i64)) (NE.sl (Enc.int .u8)))))) ?_
    refine JL.mv (d := none) (MV.store (ss := [Seg.c (SlV.nil.v)]) 2 0 1 [Seg.c (SlV.nil.v)] rfl tk_22 rfl rfl rfl rfl (fun w hs => ⟨cells_slN (RdN.onv 0 rfl) hs, one_slN (RdN.onv 0 rfl) hs, trivial⟩)) rfl rfl rfl ?_
    rintro _ _ ⟨rfl, rfl⟩
    refine JL.mv (d := none) (MV.store (ss := [Seg.c (.int .i64 (0 : Int))]) 1 0 1 [Seg.c (.int .i64 (12 : Int))] rfl tk_26 rfl rfl rfl rfl (fun w hs => ⟨rfl, one_c rfl, trivial⟩)) rfl rfl rfl ?_
    rintro _ _ ⟨rfl, rfl⟩
    refine JL.nil ?_
    refine QJ.then_normal ?_
    refine JC.ret ?_
    refine QJ.then_ret ?_
    obtain rfl := Option.some.inj hm
    refine QJ.bodyD0 (.inl rfl) ?_
    exact QJ.body (vs := [SlV.nil.v, .int .i64 (12 : Int)]) (.inl rfl) rfl (ResVs.cons (ResV.cell (d := none) (ty := 0) (ps := "") (af := #[]) (g := none) rfl (QV.load1 (ss := [Seg.c (SlV.nil.v)]) 2 0 rfl tk_22 rfl rfl rfl)) (ResVs.cons (ResV.cell (d := none) (ty := 0) (ps := "") (af := #[]) (g := none) rfl (QV.load1 (ss := [Seg.c (.int .i64 (12 : Int))]) 1 0 rfl tk_26 rfl rfl rfl)) ResVs.nil)) [0] rfl rfl (.inl rfl) ⟨(SlV.nil), (([] : List (Unit × Unit × Unit × SlV))), rfl, rfl⟩
  ·
    refine JC.condF' rfl (decide_eq_false h10) ?_
    refine JC.skip ?_
    refine QJ.then_normal ?_
    refine JC.seq ?_
    refine JC.region ?_
    refine JL.val (v := .func (.func 45) #[] #[.pointer (some ⟨b8, 0, none⟩), .pointer (some ⟨b9, 0, none⟩)]) (QV.makeFunc (vals := [.pointer (some ⟨b8, 0, none⟩), .pointer (some ⟨b9, 0, none⟩)]) rfl) rfl rfl rfl ?_
    refine JL.defer (f := 45) (caps := [.pointer (some ⟨b8, 0, none⟩), .pointer (some ⟨b9, 0, none⟩)]) rfl rfl rfl rfl ?_
    refine JL.nil ?_
    refine QJ.then_normal ?_
    refine JC.seq ?_
    refine JC.region ?_
    refine JL.val (v := s1.v) (QV.move rfl) rfl rfl rfl ?_
    refine JL.ent (fun _ hs => hs.nil 5 (Enc.int .u8)) ?_
    refine JL.val (v := .agg #[s1.v]) (QV.build (vals := [(0, s1.v)]) rfl (by kernel_rfl)) rfl rfl rfl ?_
    refine JL.mv (d := some 14) (MV.box [Seg.c (s1.v)] rfl (fun w hs => rfl)) rfl rfl rfl ?_
    rintro _ _ ⟨b11, rfl, rfl⟩
    refine JL.val (v := .pointer (some ⟨b11, 0, none⟩)) (QV.assign rfl) rfl rfl rfl ?_
    refine JL.nil ?_
    refine QJ.then_normal ?_
    refine JC.seq ?_
    refine JC.cutK (Y := (List (Int × Int × Int × (List Int))) × (SlV × List (Unit × Unit × Unit × SlV))) (fun y => match y with | (d13, _) => F19.j1 (d13) = some r) (fun y => match y with | (d13, (z12, z14)) => [(4, .pointer (some ⟨b8, 0, none⟩)), (5, .pointer (some ⟨b9, 0, none⟩))]) (fun y => match y with | (d13, (z12, z14)) => [Asr.onv 35 (NE.pair (NE.flat (Enc.int .u8)) (NE.pair (NE.flat (Enc.int .i64)) (NE.pair (NE.flat (Enc.int .i64)) (NE.sl (Enc.int .u8))))) (z12.v) z14 d13, Asr.blk b8 22 [Seg.c (z12.v)], Asr.blk b9 26 [Seg.c (.int .i64 (0 : Int))]]) ?_ ?_
    ·
      rintro ⟨d13, ⟨z12, z14⟩⟩ hm
      unfold F19.j1 at hm
      show QJ _ _ [(4, .pointer (some ⟨b8, 0, none⟩)), (5, .pointer (some ⟨b9, 0, none⟩))] [Asr.onv 35 (NE.pair (NE.flat (Enc.int .u8)) (NE.pair (NE.flat (Enc.int .i64)) (NE.pair (NE.flat (Enc.int .i64)) (NE.sl (Enc.int .u8))))) (z12.v) z14 d13, Asr.blk b8 22 [Seg.c (z12.v)], Asr.blk b9 26 [Seg.c (.int .i64 (0 : Int))]] _ _
      refine QJ.then_normal ?_
      refine JC.seq ?_
      refine JC.region ?_
      refine JL.val (v := z12.v) (QV.load1 (ss := [Seg.c (z12.v)]) 1 0 rfl tk_22 rfl rfl rfl) rfl rfl rfl ?_
      refine JL.mv (d := none) (MV.store (ss := [Seg.c (z12.v)]) 1 0 1 [Seg.c (z12.v)] rfl tk_22 rfl rfl rfl rfl (fun w hs => ⟨cells_slN (RdN.onv 0 rfl) hs, one_slN (RdN.onv 0 rfl) hs, trivial⟩)) rfl rfl rfl ?_
      rintro _ _ ⟨rfl, rfl⟩
      refine JL.mv (d := none) (MV.store (ss := [Seg.c (.int .i64 (0 : Int))]) 2 0 1 [Seg.c (.int .i64 (0 : Int))] rfl tk_26 rfl rfl rfl rfl (fun w hs => ⟨rfl, one_c rfl, trivial⟩)) rfl rfl rfl ?_
      rintro _ _ ⟨rfl, rfl⟩
      refine JL.nil ?_
      refine QJ.then_normal ?_
      refine JC.ret ?_
      obtain rfl := Option.some.inj hm
      refine QJ.bodyD1 (Lo := [Asr.blk b8 22 [Seg.c (z12.v)], Asr.blk b9 26 [Seg.c (.int .i64 (0 : Int))]]) (Lr := [Asr.onv 35 (NE.pair (NE.flat (Enc.int .u8)) (NE.pair (NE.flat (Enc.int .i64)) (NE.pair (NE.flat (Enc.int .i64)) (NE.sl (Enc.int .u8))))) (z12.v) z14 d13]) none (.inl rfl) (F45d.spec (b8) (z12.v) (b9) ((0 : Int))) Try.func45 rfl rfl [1, 2] [0] rfl rfl rfl ?_
      rintro _ rfl
      exact QJ.body (vs := [z12.v, .int .i64 (0 : Int)]) (.inl rfl) rfl (ResVs.cons (ResV.cell (d := none) (ty := 0) (ps := "") (af := #[]) (g := none) rfl (QV.load1 (ss := [Seg.c (z12.v)]) 0 0 rfl tk_22 rfl rfl rfl)) (ResVs.cons (ResV.cell (d := none) (ty := 0) (ps := "") (af := #[]) (g := none) rfl (QV.load1 (ss := [Seg.c (.int .i64 (0 : Int))]) 1 0 rfl tk_26 rfl rfl rfl)) ResVs.nil)) [2] rfl rfl (.inl rfl) ⟨z12, z14, rfl, rfl⟩
    ·
      refine JC.block ?_
      obtain ⟨y25, hl26, hmo27⟩ := bind_inv hm
      refine JC.loop (F19.b1) (fun x z => match x, z with | (d16, d19), (z15, z17, z18) => [(4, .pointer (some ⟨b8, 0, none⟩)), (5, .pointer (some ⟨b9, 0, none⟩)), (6, .pointer (some ⟨b11, 0, none⟩))]) (fun x z => match x, z with | (d16, d19), (z15, z17, z18) => [Asr.onv 35 (NE.pair (NE.flat (Enc.int .u8)) (NE.pair (NE.flat (Enc.int .i64)) (NE.pair (NE.flat (Enc.int .i64)) (NE.sl (Enc.int .u8))))) (z15.v) z17 d16, Asr.blk b8 22 [Seg.c (z15.v)], Asr.blk b9 26 [Seg.c (.int .i64 (0 : Int))], Asr.vw (Enc.int .u8) (z18.v) d19, Asr.blk b11 73 [Seg.c (z18.v)]]) (([] : List (Int × Int × Int × (List Int))), x2) (SlV.nil, ([] : List (Unit × Unit × Unit × SlV)), s1) y25 hl26 [4, 3, 2, 5, 0] (by exact ⟨rfl, rfl, rfl, trivial⟩) rfl rfl ?_
      rintro ⟨d16, d19⟩ ⟨z15, z17, z18⟩ s28 hm
      unfold F19.b1 at hm
      dsimp only at hm
      show JC _ _ _ [(4, .pointer (some ⟨b8, 0, none⟩)), (5, .pointer (some ⟨b9, 0, none⟩)), (6, .pointer (some ⟨b11, 0, none⟩))] [Asr.onv 35 (NE.pair (NE.flat (Enc.int .u8)) (NE.pair (NE.flat (Enc.int .i64)) (NE.pair (NE.flat (Enc.int .i64)) (NE.sl (Enc.int .u8))))) (z15.v) z17 d16, Asr.blk b8 22 [Seg.c (z15.v)], Asr.blk b9 26 [Seg.c (.int .i64 (0 : Int))], Asr.vw (Enc.int .u8) (z18.v) d19, Asr.blk b11 73 [Seg.c (z18.v)]] _ _
      refine JC.seq ?_
      refine JC.seq ?_
      refine JC.region ?_
      refine JL.val (v := .pointer (some ⟨b11, 0, none⟩)) (QV.move rfl) rfl rfl rfl ?_
      refine JL.val (v := .pointer (some ⟨b11, 0, none⟩)) (QV.nilCheck rfl) rfl rfl rfl ?_
      refine JL.val (v := .pointer (some ⟨b11, 0, none⟩)) (QV.fieldB fo_73_0 rfl rfl) rfl rfl rfl ?_
      refine JL.val (v := z18.v) (QV.load1 (ss := [Seg.c (z18.v)]) 4 0 rfl tk_23 rfl rfl rfl) rfl rfl rfl ?_
      refine JL.val (v := .int .i64 ((d19).length : Int)) (QV.len (Rdg.vw 3 rfl) Try.underlying23 rfl) rfl rfl rfl ?_
      refine JL.val (v := .bool (decide ((0 : Int) < ((d19).length : Int)))) (QV.gtr rfl rfl) rfl rfl rfl ?_
      refine JL.nil ?_
      refine QJ.then_normal ?_
      rcases ite_inv hm with ⟨h29, hm⟩ | ⟨h29, hm⟩
      ·
        refine JC.condT' rfl (decide_eq_true h29) ?_
        refine JC.skip ?_
        refine QJ.then_normal ?_
        refine JC.block ?_
        refine JC.regionT [Asr.blk b8 22 [Seg.c (z15.v)], Asr.blk b9 26 [Seg.c (.int .i64 (0 : Int))], Asr.vw (Enc.int .u8) (z18.v) d19] (fun t => Nat.beq t 5) [(0, true), (1, false), (2, false), (3, false), (4, false), (5, false)] (by kernel_rfl) (by kernel_rfl) (by kernel_rfl) rfl (fun hsel => ?_)
        refine JT.take (i := 0) (v := z15.v) hsel rfl (QV.load1 (ss := [Seg.c (z15.v)]) 0 0 rfl tk_22 rfl rfl rfl) rfl rfl rfl rfl [1, 2, 3] rfl rfl ?_
        refine JT.only (i := 1) (d := some 22) rfl (MV.ofQV (v := .pointer (some ⟨b11, 0, none⟩)) (QV.move rfl)) rfl rfl rfl ?_
        rintro _ _ ⟨rfl, rfl⟩
        refine ⟨fun _ => ⟨[1, 2, 3], rfl, rfl⟩, ?_⟩
        obtain ⟨y30, hc31, hm⟩ := bind_inv hm
        rcases y30 with y32 | y33
        ·
          refine JT.onlyP (i := 2) (d := some 23) rfl (MVE.call (Lo := [Asr.blk b11 73 [Seg.c (z18.v)]]) (Lr := [Asr.onv 35 (NE.pair (NE.flat (Enc.int .u8)) (NE.pair (NE.flat (Enc.int .i64)) (NE.pair (NE.flat (Enc.int .i64)) (NE.sl (Enc.int .u8))))) (z15.v) z17 d16, Asr.blk b8 22 [Seg.c (z15.v)], Asr.blk b9 26 [Seg.c (.int .i64 (0 : Int))], Asr.vw (Enc.int .u8) (z18.v) d19]) (F46.spec (b11) (z18) (d19) _ hc31) rfl Try.func46 rfl rfl rfl [4] [0, 1, 2, 3] rfl rfl rfl ⟨(Drv.vw 3 rfl), trivial⟩) rfl rfl rfl (fun _ _ h => by obtain ⟨_, ⟨h, _⟩, _⟩ := h; cases h) ?_
          rintro _ _ ⟨_, ⟨_, z34, rfl, rfl⟩, rfl⟩
          refine QJ.block_panic ?_
          obtain rfl := Option.some.inj hm
          refine QJ.round_panic (fun hy => ?_)
          subst hy
          refine QJ.block_panic ?_
          refine QJ.cut_panic ?_
          refine QJ.then_panic ?_
          obtain rfl := Option.some.inj hmo27
          refine QJ.bodyD1 (Lo := [Asr.blk b8 22 [Seg.c (z15.v)], Asr.blk b9 26 [Seg.c (.int .i64 (0 : Int))]]) (Lr := [Asr.vw (Enc.int .u8) (z34.v) y32.2, Asr.blk b11 73 [Seg.c (z34.v)], Asr.onv 35 (NE.pair (NE.flat (Enc.int .u8)) (NE.pair (NE.flat (Enc.int .i64)) (NE.pair (NE.flat (Enc.int .i64)) (NE.sl (Enc.int .u8))))) (z15.v) z17 d16, Asr.vw (Enc.int .u8) (z18.v) d19]) (some (.iface 70 (.agg #[.int .i64 y32.1]))) rfl (F45d_1.spec (b8) (z15.v) (b9) ((0 : Int)) (y32.1)) Try.func45 rfl rfl [3, 4] [0, 1, 2, 5] rfl rfl rfl ?_
          rintro _ rfl
          refine QJ.ent (fun _ hs => hs.nilV 35 (NE.pair (NE.flat (Enc.int .u8)) (NE.pair (NE.flat (Enc.int .i64)) (NE.pair (NE.flat (Enc.int .i64)) (NE.sl (Enc.int .u8)))))) ?_
          exact QJ.body (vs := [SlV.nil.v, .int .i64 y32.1]) (.inl rfl) rfl (ResVs.cons (ResV.cell (d := none) (ty := 0) (ps := "") (af := #[]) (g := none) rfl (QV.load1 (ss := [Seg.c (SlV.nil.v)]) 1 0 rfl tk_22 rfl rfl rfl)) (ResVs.cons (ResV.cell (d := none) (ty := 0) (ps := "") (af := #[]) (g := none) rfl (QV.load1 (ss := [Seg.c (.int .i64 y32.1)]) 2 0 rfl tk_26 rfl rfl rfl)) ResVs.nil)) [0] rfl rfl (.inl rfl) ⟨(SlV.nil), (([] : List (Unit × Unit × Unit × SlV))), rfl, rfl⟩
        ·
          refine JT.onlyR (i := 2) (d := some 23) rfl (MVE.call (Lo := [Asr.blk b11 73 [Seg.c (z18.v)]]) (Lr := [Asr.onv 35 (NE.pair (NE.flat (Enc.int .u8)) (NE.pair (NE.flat (Enc.int .i64)) (NE.pair (NE.flat (Enc.int .i64)) (NE.sl (Enc.int .u8))))) (z15.v) z17 d16, Asr.blk b8 22 [Seg.c (z15.v)], Asr.blk b9 26 [Seg.c (.int .i64 (0 : Int))], Asr.vw (Enc.int .u8) (z18.v) d19]) (F46.spec (b11) (z18) (d19) _ hc31) rfl Try.func46 rfl rfl rfl [4] [0, 1, 2, 3] rfl rfl rfl ⟨(Drv.vw 3 rfl), trivial⟩) rfl rfl rfl (fun _ _ h => by obtain ⟨_, ⟨h, _⟩, _⟩ := h; cases h) ?_
          rintro _ _ ⟨_, ⟨_, z35, z36, rfl, rfl⟩, rfl⟩
          refine ⟨fun _ => ⟨[4, 5, 6], rfl, rfl⟩, ?_⟩
          refine JT.grow [Asr.vw (Enc.int .u8) (z36.v) y33.2.2.2.2, Asr.blk b11 73 [Seg.c (z36.v)], Asr.blk b8 22 [Seg.c (z15.v)], Asr.blk b9 26 [Seg.c (.int .i64 (0 : Int))], Asr.vw (Enc.int .u8) (z18.v) d19] [2, 3, 4] rfl rfl ?_
          refine JT.ent (fun _ hs => hs.share 0 rfl) ?_
          refine JT.only (i := 3) (d := some 24) rfl (MV.litV (K := (NE.pair (NE.flat (Enc.int .u8)) (NE.pair (NE.flat (Enc.int .i64)) (NE.pair (NE.flat (Enc.int .i64)) (NE.sl (Enc.int .u8)))))) (vals := [(0, .agg #[.int .u8 y33.1, .int .i64 y33.2.1, .int .i64 y33.2.2.1, z35.v])]) [((), (), (), z35)] [(y33.1, y33.2.1, y33.2.2.1, y33.2.2.2.1)] Try.underlying22 zi_35 ⟨fun w F G hst => ⟨trivial, trivial, trivial, (ok_vw (Drv.vw 0 rfl) w F G hst)⟩, trivial⟩ rfl (by decide) rfl (by kernel_rfl)) rfl rfl rfl ?_
          rintro _ _ ⟨z37, rfl, rfl⟩
          refine ⟨fun _ => ⟨[2, 3, 5, 6, 7], rfl, rfl⟩, ?_⟩
          refine JT.grow [Asr.onv 35 (NE.pair (NE.flat (Enc.int .u8)) (NE.pair (NE.flat (Enc.int .i64)) (NE.pair (NE.flat (Enc.int .i64)) (NE.sl (Enc.int .u8))))) (z37.v) [((), (), (), z35)] [(y33.1, y33.2.1, y33.2.2.1, y33.2.2.2.1)], Asr.vw (Enc.int .u8) (z35.v) y33.2.2.2.1, Asr.vw (Enc.int .u8) (z36.v) y33.2.2.2.2, Asr.blk b11 73 [Seg.c (z36.v)], Asr.blk b8 22 [Seg.c (z15.v)], Asr.blk b9 26 [Seg.c (.int .i64 (0 : Int))], Asr.vw (Enc.int .u8) (z18.v) d19] [2, 3, 4, 5, 6] rfl rfl ?_
          obtain ⟨h38, hm⟩ := guard_inv hm
          refine JT.only (i := 4) (d := some 25) rfl (MV.appendV 4 rfl (OkG.onv 0 rfl) (RdN.onv 0 rfl) Try.underlying22 zi_35 rfl (by decide) rfl rfl h38) rfl rfl rfl ?_
          rintro _ _ ⟨z39, rfl, rfl⟩
          refine ⟨fun _ => ⟨[0, 1, 2, 3, 5, 6, 7], rfl, rfl⟩, ?_⟩
          refine JT.grow [Asr.onv 35 (NE.pair (NE.flat (Enc.int .u8)) (NE.pair (NE.flat (Enc.int .i64)) (NE.pair (NE.flat (Enc.int .i64)) (NE.sl (Enc.int .u8))))) (z37.v) [((), (), (), z35)] [(y33.1, y33.2.1, y33.2.2.1, y33.2.2.2.1)], Asr.vw (Enc.int .u8) (z35.v) y33.2.2.2.1, Asr.vw (Enc.int .u8) (z36.v) y33.2.2.2.2, Asr.blk b11 73 [Seg.c (z36.v)], Asr.onv 35 (NE.pair (NE.flat (Enc.int .u8)) (NE.pair (NE.flat (Enc.int .i64)) (NE.pair (NE.flat (Enc.int .i64)) (NE.sl (Enc.int .u8))))) (z39.v) (z17 ++ [((), (), (), z35)]) (d16 ++ [(y33.1, y33.2.1, y33.2.2.1, y33.2.2.2.1)]), Asr.blk b8 22 [Seg.c (z15.v)], Asr.blk b9 26 [Seg.c (.int .i64 (0 : Int))], Asr.vw (Enc.int .u8) (z18.v) d19] [0, 1, 2, 3, 5, 6, 7] rfl rfl ?_
          refine JT.only (i := 5) (d := none) rfl (MV.store (ss := [Seg.c (z15.v)]) 5 0 1 [Seg.c (z39.v)] rfl tk_22 rfl rfl rfl rfl (fun w hs => ⟨cells_slN (RdN.onv 4 rfl) hs, one_slN (RdN.onv 4 rfl) hs, trivial⟩)) rfl rfl rfl ?_
          rintro _ _ ⟨rfl, rfl⟩
          refine ⟨fun h => absurd h (by decide), ?_⟩
          refine JT.nil ?_
          refine QJ.block_normal ?_
          obtain rfl := Option.some.inj hm
          exact QJ.round_on ((d16 ++ [(y33.1, y33.2.1, y33.2.2.1, y33.2.2.2.1)]), y33.2.2.2.2) (z39, (z17 ++ [((), (), (), z35)]), z36) [4, 5, 6, 2, 3] (by exact ⟨rfl, rfl, rfl, trivial⟩) rfl rfl
      ·
        refine JC.condF' rfl (decide_eq_false h29) ?_
        refine JC.exit ?_
        refine QJ.then_exit ?_
        obtain rfl := Option.some.inj hm
        refine QJ.round_exit (fun hy => ?_)
        subst hy
        refine QJ.block_hit ?_
        exact QJ.cut_normal (d16, (z15, z17)) hmo27 [0, 1, 2] (by exact ⟨rfl, rfl, trivial⟩) rfl rfl

end Go.Proofs.Ytedokgdilpfomaa
