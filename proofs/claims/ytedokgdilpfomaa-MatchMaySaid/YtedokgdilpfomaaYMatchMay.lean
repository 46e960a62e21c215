/- Written by gen.py: functions and their contracts. -/
import Derived.Test.YtedokgdilpfomaaMat
namespace Go.Proofs.Ytedokgdilpfomaa
open Go Go.Eng Go.Proofs
set_option linter.unusedVariables false
set_option linter.unusedSimpArgs false
/-! ### 57: drogher/match.may -/
noncomputable def F57.m (x1 : Int) (x2 : Int) (x3 : Int) (x4 : Int) (x5 : Int) (x6 : Int) : Option Bool :=
  (if (1 : Int) ≤ x3 then (if x4 ≤ x1 then (if x1 ≤ x6 then (if x3 ≤ (IntKind.wrap .i64 (x6 - x1)) then (if (0 : Int) ≤ x2 then (if x2 ≤ x5 then some (decide (x3 ≤ (IntKind.wrap .i64 (x5 - x2)))) else some false) else some false) else some false) else some false) else some false) else some false)
set_option maxRecDepth 100000 in
set_option maxHeartbeats 4000000 in
theorem F57.spec (x1 : Int) (x2 : Int) (x3 : Int) (x4 : Int) (x5 : Int) (x6 : Int) (r : Bool) (hm : F57.m x1 x2 x3 x4 x5 x6 = some r) :
    Ctr Try.prog false 57 [.agg #[.int .i64 x1, .int .i64 x2, .int .i64 x3], .int .i64 x4, .int .i64 x5, .int .i64 x6] [] (fun v L' => v = .bool r ∧ L' = []) := by
  refine Ctr.intro (n := 53) (env := [(0, .agg #[.int .i64 x1, .int .i64 x2, .int .i64 x3]), (1, .int .i64 x4), (2, .int .i64 x5), (3, .int .i64 x6)]) Try.func57 rfl rfl rfl rfl (fun c => ?_)
  unfold F57.m at hm
  refine JC.seq ?_
  refine JC.region ?_
  refine JL.mv (d := some 4) (MV.box [Seg.c (.int .i64 x1), Seg.c (.int .i64 x2), Seg.c (.int .i64 x3)] rfl (fun w hs => rfl)) rfl rfl rfl ?_
  rintro _ _ ⟨b8, rfl, rfl⟩
  refine JL.val (v := .bool false) (QV.assign rfl) rfl rfl rfl ?_
  refine JL.nil ?_
  refine QJ.then_normal ?_
  refine JC.seq ?_
  refine JC.region ?_
  refine JL.val (v := .pointer (some ⟨b8, 2, none⟩)) (QV.fieldB fo_52_2 rfl rfl) rfl rfl rfl ?_
  refine JL.val (v := .int .i64 x3) (QV.load1 (ss := [Seg.c (.int .i64 x1), Seg.c (.int .i64 x2), Seg.c (.int .i64 x3)]) 0 2 rfl tk_3 rfl rfl rfl) rfl rfl rfl ?_
  refine JL.val (v := .bool (decide ((1 : Int) ≤ x3))) (QV.geq rfl rfl) rfl rfl rfl ?_
  rcases ite_inv hm with ⟨h9, hm⟩ | ⟨h9, hm⟩
  ·
    refine JL.val (v := .bool true) (QV.eq (QV.move rfl) (congrArg Value.bool (decide_eq_true h9))) rfl rfl rfl ?_
    refine JL.val (v := .pointer (some ⟨b8, 0, none⟩)) (QV.fieldB fo_52_0 rfl rfl) rfl rfl rfl ?_
    refine JL.val (v := .int .i64 x1) (QV.load1 (ss := [Seg.c (.int .i64 x1), Seg.c (.int .i64 x2), Seg.c (.int .i64 x3)]) 0 0 rfl tk_3 rfl rfl rfl) rfl rfl rfl ?_
    refine JL.val (v := .int .i64 x4) (QV.move rfl) rfl rfl rfl ?_
    refine JL.val (v := .bool (decide (x4 ≤ x1))) (QV.geq rfl rfl) rfl rfl rfl ?_
    refine JL.val (v := .bool (decide (x4 ≤ x1))) (QV.pickT rfl rfl) rfl rfl rfl ?_
    rcases ite_inv hm with ⟨h10, hm⟩ | ⟨h10, hm⟩
    ·
      refine JL.val (v := .bool true) (QV.eq (QV.move rfl) (congrArg Value.bool (decide_eq_true h10))) rfl rfl rfl ?_
      refine JL.val (v := .pointer (some ⟨b8, 0, none⟩)) (QV.fieldB fo_52_0 rfl rfl) rfl rfl rfl ?_
      refine JL.val (v := .int .i64 x1) (QV.load1 (ss := [Seg.c (.int .i64 x1), Seg.c (.int .i64 x2), Seg.c (.int .i64 x3)]) 0 0 rfl tk_3 rfl rfl rfl) rfl rfl rfl ?_
      refine JL.val (v := .int .i64 x6) (QV.move rfl) rfl rfl rfl ?_
      refine JL.val (v := .bool (decide (x1 ≤ x6))) (QV.leq rfl rfl) rfl rfl rfl ?_
      refine JL.val (v := .bool (decide (x1 ≤ x6))) (QV.pickT rfl rfl) rfl rfl rfl ?_
      rcases ite_inv hm with ⟨h11, hm⟩ | ⟨h11, hm⟩
      ·
        refine JL.val (v := .bool true) (QV.eq (QV.move rfl) (congrArg Value.bool (decide_eq_true h11))) rfl rfl rfl ?_
        refine JL.val (v := .pointer (some ⟨b8, 2, none⟩)) (QV.fieldB fo_52_2 rfl rfl) rfl rfl rfl ?_
        refine JL.val (v := .int .i64 x3) (QV.load1 (ss := [Seg.c (.int .i64 x1), Seg.c (.int .i64 x2), Seg.c (.int .i64 x3)]) 0 2 rfl tk_3 rfl rfl rfl) rfl rfl rfl ?_
        refine JL.val (v := .int .i64 x6) (QV.move rfl) rfl rfl rfl ?_
        refine JL.val (v := .pointer (some ⟨b8, 0, none⟩)) (QV.fieldB fo_52_0 rfl rfl) rfl rfl rfl ?_
        refine JL.val (v := .int .i64 x1) (QV.load1 (ss := [Seg.c (.int .i64 x1), Seg.c (.int .i64 x2), Seg.c (.int .i64 x3)]) 0 0 rfl tk_3 rfl rfl rfl) rfl rfl rfl ?_
        refine JL.val (v := .int .i64 (IntKind.wrap .i64 (x6 - x1))) (QV.sub rfl rfl) rfl rfl rfl ?_
        refine JL.val (v := .bool (decide (x3 ≤ (IntKind.wrap .i64 (x6 - x1))))) (QV.leq rfl rfl) rfl rfl rfl ?_
        refine JL.val (v := .bool (decide (x3 ≤ (IntKind.wrap .i64 (x6 - x1))))) (QV.pickT rfl rfl) rfl rfl rfl ?_
        rcases ite_inv hm with ⟨h12, hm⟩ | ⟨h12, hm⟩
        ·
          refine JL.val (v := .bool true) (QV.eq (QV.move rfl) (congrArg Value.bool (decide_eq_true h12))) rfl rfl rfl ?_
          refine JL.val (v := .pointer (some ⟨b8, 1, none⟩)) (QV.fieldB fo_52_1 rfl rfl) rfl rfl rfl ?_
          refine JL.val (v := .int .i64 x2) (QV.load1 (ss := [Seg.c (.int .i64 x1), Seg.c (.int .i64 x2), Seg.c (.int .i64 x3)]) 0 1 rfl tk_3 rfl rfl rfl) rfl rfl rfl ?_
          refine JL.val (v := .bool (decide ((0 : Int) ≤ x2))) (QV.geq rfl rfl) rfl rfl rfl ?_
          refine JL.val (v := .bool (decide ((0 : Int) ≤ x2))) (QV.pickT rfl rfl) rfl rfl rfl ?_
          rcases ite_inv hm with ⟨h13, hm⟩ | ⟨h13, hm⟩
          ·
            refine JL.val (v := .bool true) (QV.eq (QV.move rfl) (congrArg Value.bool (decide_eq_true h13))) rfl rfl rfl ?_
            refine JL.val (v := .pointer (some ⟨b8, 1, none⟩)) (QV.fieldB fo_52_1 rfl rfl) rfl rfl rfl ?_
            refine JL.val (v := .int .i64 x2) (QV.load1 (ss := [Seg.c (.int .i64 x1), Seg.c (.int .i64 x2), Seg.c (.int .i64 x3)]) 0 1 rfl tk_3 rfl rfl rfl) rfl rfl rfl ?_
            refine JL.val (v := .int .i64 x5) (QV.move rfl) rfl rfl rfl ?_
            refine JL.val (v := .bool (decide (x2 ≤ x5))) (QV.leq rfl rfl) rfl rfl rfl ?_
            refine JL.val (v := .bool (decide (x2 ≤ x5))) (QV.pickT rfl rfl) rfl rfl rfl ?_
            rcases ite_inv hm with ⟨h14, hm⟩ | ⟨h14, hm⟩
            ·
              refine JL.val (v := .bool true) (QV.eq (QV.move rfl) (congrArg Value.bool (decide_eq_true h14))) rfl rfl rfl ?_
              refine JL.val (v := .pointer (some ⟨b8, 2, none⟩)) (QV.fieldB fo_52_2 rfl rfl) rfl rfl rfl ?_
              refine JL.val (v := .int .i64 x3) (QV.load1 (ss := [Seg.c (.int .i64 x1), Seg.c (.int .i64 x2), Seg.c (.int .i64 x3)]) 0 2 rfl tk_3 rfl rfl rfl) rfl rfl rfl ?_
              refine JL.val (v := .int .i64 x5) (QV.move rfl) rfl rfl rfl ?_
              refine JL.val (v := .pointer (some ⟨b8, 1, none⟩)) (QV.fieldB fo_52_1 rfl rfl) rfl rfl rfl ?_
              refine JL.val (v := .int .i64 x2) (QV.load1 (ss := [Seg.c (.int .i64 x1), Seg.c (.int .i64 x2), Seg.c (.int .i64 x3)]) 0 1 rfl tk_3 rfl rfl rfl) rfl rfl rfl ?_
              refine JL.val (v := .int .i64 (IntKind.wrap .i64 (x5 - x2))) (QV.sub rfl rfl) rfl rfl rfl ?_
              refine JL.val (v := .bool (decide (x3 ≤ (IntKind.wrap .i64 (x5 - x2))))) (QV.leq rfl rfl) rfl rfl rfl ?_
              refine JL.val (v := .bool (decide (x3 ≤ (IntKind.wrap .i64 (x5 - x2))))) (QV.pickT rfl rfl) rfl rfl rfl ?_
              refine JL.val (v := .bool (decide (x3 ≤ (IntKind.wrap .i64 (x5 - x2))))) (QV.assign rfl) rfl rfl rfl ?_
              refine JL.nil ?_
              refine QJ.then_normal ?_
              refine JC.ret ?_
              obtain rfl := Option.some.inj hm
              exact QJ.body (vs := [.bool (decide (x3 ≤ (IntKind.wrap .i64 (x5 - x2))))]) (.inl rfl) rfl (ResVs.cons (ResV.tmp rfl) ResVs.nil) [] rfl rfl (.inr trivial) ⟨rfl, rfl⟩
            ·
              refine JL.val (v := .bool false) (QV.eq (QV.move rfl) (congrArg Value.bool (decide_eq_false h14))) rfl rfl rfl ?_
              refine JL.skip (d := some 45) rfl rfl rfl ?_
              refine JL.skip (d := some 46) rfl rfl rfl ?_
              refine JL.skip (d := some 47) rfl rfl rfl ?_
              refine JL.skip (d := some 48) rfl rfl rfl ?_
              refine JL.skip (d := some 49) rfl rfl rfl ?_
              refine JL.skip (d := some 50) rfl rfl rfl ?_
              refine JL.skip (d := some 51) rfl rfl rfl ?_
              refine JL.val (v := .bool false) (QV.pickF rfl rfl) rfl rfl rfl ?_
              refine JL.val (v := .bool false) (QV.assign rfl) rfl rfl rfl ?_
              refine JL.nil ?_
              refine QJ.then_normal ?_
              refine JC.ret ?_
              obtain rfl := Option.some.inj hm
              exact QJ.body (vs := [.bool false]) (.inl rfl) rfl (ResVs.cons (ResV.tmp rfl) ResVs.nil) [] rfl rfl (.inr trivial) ⟨rfl, rfl⟩
          ·
            refine JL.val (v := .bool false) (QV.eq (QV.move rfl) (congrArg Value.bool (decide_eq_false h13))) rfl rfl rfl ?_
            refine JL.skip (d := some 39) rfl rfl rfl ?_
            refine JL.skip (d := some 40) rfl rfl rfl ?_
            refine JL.skip (d := some 41) rfl rfl rfl ?_
            refine JL.skip (d := some 42) rfl rfl rfl ?_
            refine JL.val (v := .bool false) (QV.pickF rfl rfl) rfl rfl rfl ?_
            refine JL.val (v := .bool false) (QV.move rfl) rfl rfl rfl ?_
            refine JL.skip (d := some 45) rfl rfl rfl ?_
            refine JL.skip (d := some 46) rfl rfl rfl ?_
            refine JL.skip (d := some 47) rfl rfl rfl ?_
            refine JL.skip (d := some 48) rfl rfl rfl ?_
            refine JL.skip (d := some 49) rfl rfl rfl ?_
            refine JL.skip (d := some 50) rfl rfl rfl ?_
            refine JL.skip (d := some 51) rfl rfl rfl ?_
            refine JL.val (v := .bool false) (QV.pickF rfl rfl) rfl rfl rfl ?_
            refine JL.val (v := .bool false) (QV.assign rfl) rfl rfl rfl ?_
            refine JL.nil ?_
            refine QJ.then_normal ?_
            refine JC.ret ?_
            obtain rfl := Option.some.inj hm
            exact QJ.body (vs := [.bool false]) (.inl rfl) rfl (ResVs.cons (ResV.tmp rfl) ResVs.nil) [] rfl rfl (.inr trivial) ⟨rfl, rfl⟩
        ·
          refine JL.val (v := .bool false) (QV.eq (QV.move rfl) (congrArg Value.bool (decide_eq_false h12))) rfl rfl rfl ?_
          refine JL.skip (d := some 34) rfl rfl rfl ?_
          refine JL.skip (d := some 35) rfl rfl rfl ?_
          refine JL.skip (d := some 36) rfl rfl rfl ?_
          refine JL.val (v := .bool false) (QV.pickF rfl rfl) rfl rfl rfl ?_
          refine JL.val (v := .bool false) (QV.move rfl) rfl rfl rfl ?_
          refine JL.skip (d := some 39) rfl rfl rfl ?_
          refine JL.skip (d := some 40) rfl rfl rfl ?_
          refine JL.skip (d := some 41) rfl rfl rfl ?_
          refine JL.skip (d := some 42) rfl rfl rfl ?_
          refine JL.val (v := .bool false) (QV.pickF rfl rfl) rfl rfl rfl ?_
          refine JL.val (v := .bool false) (QV.move rfl) rfl rfl rfl ?_
          refine JL.skip (d := some 45) rfl rfl rfl ?_
          refine JL.skip (d := some 46) rfl rfl rfl ?_
          refine JL.skip (d := some 47) rfl rfl rfl ?_
          refine JL.skip (d := some 48) rfl rfl rfl ?_
          refine JL.skip (d := some 49) rfl rfl rfl ?_
          refine JL.skip (d := some 50) rfl rfl rfl ?_
          refine JL.skip (d := some 51) rfl rfl rfl ?_
          refine JL.val (v := .bool false) (QV.pickF rfl rfl) rfl rfl rfl ?_
          refine JL.val (v := .bool false) (QV.assign rfl) rfl rfl rfl ?_
          refine JL.nil ?_
          refine QJ.then_normal ?_
          refine JC.ret ?_
          obtain rfl := Option.some.inj hm
          exact QJ.body (vs := [.bool false]) (.inl rfl) rfl (ResVs.cons (ResV.tmp rfl) ResVs.nil) [] rfl rfl (.inr trivial) ⟨rfl, rfl⟩
      ·
        refine JL.val (v := .bool false) (QV.eq (QV.move rfl) (congrArg Value.bool (decide_eq_false h11))) rfl rfl rfl ?_
        refine JL.skip (d := some 25) rfl rfl rfl ?_
        refine JL.skip (d := some 26) rfl rfl rfl ?_
        refine JL.skip (d := some 27) rfl rfl rfl ?_
        refine JL.skip (d := some 28) rfl rfl rfl ?_
        refine JL.skip (d := some 29) rfl rfl rfl ?_
        refine JL.skip (d := some 30) rfl rfl rfl ?_
        refine JL.skip (d := some 31) rfl rfl rfl ?_
        refine JL.val (v := .bool false) (QV.pickF rfl rfl) rfl rfl rfl ?_
        refine JL.val (v := .bool false) (QV.move rfl) rfl rfl rfl ?_
        refine JL.skip (d := some 34) rfl rfl rfl ?_
        refine JL.skip (d := some 35) rfl rfl rfl ?_
        refine JL.skip (d := some 36) rfl rfl rfl ?_
        refine JL.val (v := .bool false) (QV.pickF rfl rfl) rfl rfl rfl ?_
        refine JL.val (v := .bool false) (QV.move rfl) rfl rfl rfl ?_
        refine JL.skip (d := some 39) rfl rfl rfl ?_
        refine JL.skip (d := some 40) rfl rfl rfl ?_
        refine JL.skip (d := some 41) rfl rfl rfl ?_
        refine JL.skip (d := some 42) rfl rfl rfl ?_
        refine JL.val (v := .bool false) (QV.pickF rfl rfl) rfl rfl rfl ?_
        refine JL.val (v := .bool false) (QV.move rfl) rfl rfl rfl ?_
        refine JL.skip (d := some 45) rfl rfl rfl ?_
        refine JL.skip (d := some 46) rfl rfl rfl ?_
        refine JL.skip (d := some 47) rfl rfl rfl ?_
        refine JL.skip (d := some 48) rfl rfl rfl ?_
        refine JL.skip (d := some 49) rfl rfl rfl ?_
        refine JL.skip (d := some 50) rfl rfl rfl ?_
        refine JL.skip (d := some 51) rfl rfl rfl ?_
        refine JL.val (v := .bool false) (QV.pickF rfl rfl) rfl rfl rfl ?_
        refine JL.val (v := .bool false) (QV.assign rfl) rfl rfl rfl ?_
        refine JL.nil ?_
        refine QJ.then_normal ?_
        refine JC.ret ?_
        obtain rfl := Option.some.inj hm
        exact QJ.body (vs := [.bool false]) (.inl rfl) rfl (ResVs.cons (ResV.tmp rfl) ResVs.nil) [] rfl rfl (.inr trivial) ⟨rfl, rfl⟩
    ·
      refine JL.val (v := .bool false) (QV.eq (QV.move rfl) (congrArg Value.bool (decide_eq_false h10))) rfl rfl rfl ?_
      refine JL.skip (d := some 19) rfl rfl rfl ?_
      refine JL.skip (d := some 20) rfl rfl rfl ?_
      refine JL.skip (d := some 21) rfl rfl rfl ?_
      refine JL.skip (d := some 22) rfl rfl rfl ?_
      refine JL.val (v := .bool false) (QV.pickF rfl rfl) rfl rfl rfl ?_
      refine JL.val (v := .bool false) (QV.move rfl) rfl rfl rfl ?_
      refine JL.skip (d := some 25) rfl rfl rfl ?_
      refine JL.skip (d := some 26) rfl rfl rfl ?_
      refine JL.skip (d := some 27) rfl rfl rfl ?_
      refine JL.skip (d := some 28) rfl rfl rfl ?_
      refine JL.skip (d := some 29) rfl rfl rfl ?_
      refine JL.skip (d := some 30) rfl rfl rfl ?_
      refine JL.skip (d := some 31) rfl rfl rfl ?_
      refine JL.val (v := .bool false) (QV.pickF rfl rfl) rfl rfl rfl ?_
      refine JL.val (v := .bool false) (QV.move rfl) rfl rfl rfl ?_
      refine JL.skip (d := some 34) rfl rfl rfl ?_
      refine JL.skip (d := some 35) rfl rfl rfl ?_
      refine JL.skip (d := some 36) rfl rfl rfl ?_
      refine JL.val (v := .bool false) (QV.pickF rfl rfl) rfl rfl rfl ?_
      refine JL.val (v := .bool false) (QV.move rfl) rfl rfl rfl ?_
      refine JL.skip (d := some 39) rfl rfl rfl ?_
      refine JL.skip (d := some 40) rfl rfl rfl ?_
      refine JL.skip (d := some 41) rfl rfl rfl ?_
      refine JL.skip (d := some 42) rfl rfl rfl ?_
      refine JL.val (v := .bool false) (QV.pickF rfl rfl) rfl rfl rfl ?_
      refine JL.val (v := .bool false) (QV.move rfl) rfl rfl rfl ?_
      refine JL.skip (d := some 45) rfl rfl rfl ?_
      refine JL.skip (d := some 46) rfl rfl rfl ?_
      refine JL.skip (d := some 47) rfl rfl rfl ?_
      refine JL.skip (d := some 48) rfl rfl rfl ?_
      refine JL.skip (d := some 49) rfl rfl rfl ?_
      refine JL.skip (d := some 50) rfl rfl rfl ?_
      refine JL.skip (d := some 51) rfl rfl rfl ?_
      refine JL.val (v := .bool false) (QV.pickF rfl rfl) rfl rfl rfl ?_
      refine JL.val (v := .bool false) (QV.assign rfl) rfl rfl rfl ?_
      refine JL.nil ?_
      refine QJ.then_normal ?_
      refine JC.ret ?_
      obtain rfl := Option.some.inj hm
      exact QJ.body (vs := [.bool false]) (.inl rfl) rfl (ResVs.cons (ResV.tmp rfl) ResVs.nil) [] rfl rfl (.inr trivial) ⟨rfl, rfl⟩
  ·
    refine JL.val (v := .bool false) (QV.eq (QV.move rfl) (congrArg Value.bool (decide_eq_false h9))) rfl rfl rfl ?_
    refine JL.skip (d := some 13) rfl rfl rfl ?_
    refine JL.skip (d := some 14) rfl rfl rfl ?_
    refine JL.skip (d := some 15) rfl rfl rfl ?_
    refine JL.skip (d := some 16) rfl rfl rfl ?_
    refine JL.val (v := .bool false) (QV.pickF rfl rfl) rfl rfl rfl ?_
    refine JL.val (v := .bool false) (QV.move rfl) rfl rfl rfl ?_
    refine JL.skip (d := some 19) rfl rfl rfl ?_
    refine JL.skip (d := some 20) rfl rfl rfl ?_
    refine JL.skip (d := some 21) rfl rfl rfl ?_
    refine JL.skip (d := some 22) rfl rfl rfl ?_
    refine JL.val (v := .bool false) (QV.pickF rfl rfl) rfl rfl rfl ?_
    refine JL.val (v := .bool false) (QV.move rfl) rfl rfl rfl ?_
    refine JL.skip (d := some 25) rfl rfl rfl ?_
    refine JL.skip (d := some 26) rfl rfl rfl ?_
    refine JL.skip (d := some 27) rfl rfl rfl ?_
    refine JL.skip (d := some 28) rfl rfl rfl ?_
    refine JL.skip (d := some 29) rfl rfl rfl ?_
    refine JL.skip (d := some 30) rfl rfl rfl ?_
    refine JL.skip (d := some 31) rfl rfl rfl ?_
    refine JL.val (v := .bool false) (QV.pickF rfl rfl) rfl rfl rfl ?_
    refine JL.val (v := .bool false) (QV.move rfl) rfl rfl rfl ?_
    refine JL.skip (d := some 34) rfl rfl rfl ?_
    refine JL.skip (d := some 35) rfl rfl rfl ?_
    refine JL.skip (d := some 36) rfl rfl rfl ?_
    refine JL.val (v := .bool false) (QV.pickF rfl rfl) rfl rfl rfl ?_
    refine JL.val (v := .bool false) (QV.move rfl) rfl rfl rfl ?_
    refine JL.skip (d := some 39) rfl rfl rfl ?_
    refine JL.skip (d := some 40) rfl rfl rfl ?_
    refine JL.skip (d := some 41) rfl rfl rfl ?_
    refine JL.skip (d := some 42) rfl rfl rfl ?_
    refine JL.val (v := .bool false) (QV.pickF rfl rfl) rfl rfl rfl ?_
    refine JL.val (v := .bool false) (QV.move rfl) rfl rfl rfl ?_
    refine JL.skip (d := some 45) rfl rfl rfl ?_
    refine JL.skip (d := some 46) rfl rfl rfl ?_
    refine JL.skip (d := some 47) rfl rfl rfl ?_
    refine JL.skip (d := some 48) rfl rfl rfl ?_
    refine JL.skip (d := some 49) rfl rfl rfl ?_
    refine JL.skip (d := some 50) rfl rfl rfl ?_
    refine JL.skip (d := some 51) rfl rfl rfl ?_
    refine JL.val (v := .bool false) (QV.pickF rfl rfl) rfl rfl rfl ?_
    refine JL.val (v := .bool false) (QV.assign rfl) rfl rfl rfl ?_
    refine JL.nil ?_
    refine QJ.then_normal ?_
    refine JC.ret ?_
    obtain rfl := Option.some.inj hm
    exact QJ.body (vs := [.bool false]) (.inl rfl) rfl (ResVs.cons (ResV.tmp rfl) ResVs.nil) [] rfl rfl (.inr trivial) ⟨rfl, rfl⟩

/-! ### 32: drogher/match.May -/
noncomputable def F32.j1   : Option Bool :=
  some true
noncomputable def F32.b1 (x2 : List (Int × Int × Int)) (x3 : Int) (x4 : Int) : (Int × Int) → Option ((Int × Int) ⊕ ((Bool) ⊕ Unit))
  | (d6, d7) => (if d7 < ((x2).length : Int) then (if 0 ≤ d7 ∧ d7 < ((x2).length : Int) then ((F57.m ((gd x2 d7).1) ((gd x2 d7).2.1) ((gd x2 d7).2.2) (d6) (x3) (x4)).bind fun y17 => (if y17 = true then some (.inl ((IntKind.wrap .i64 ((gd x2 d7).1 + (gd x2 d7).2.2)), (IntKind.wrap .i64 (d7 + (1 : Int))))) else some (.inr (.inl (false))))) else none) else some (.inr (.inr (()))))
noncomputable def F32.m (x2 : List (Int × Int × Int)) (x3 : Int) (x4 : Int) : Option Bool :=
  ((loop (F32.b1 x2 x3 x4) ((0 : Int), (0 : Int))).bind fun y => match y with | .inl r => some r | .inr _ => F32.j1)
set_option maxRecDepth 100000 in
set_option maxHeartbeats 4000000 in
theorem F32.spec (s1 : SlV) (x2 : List (Int × Int × Int)) (x3 : Int) (x4 : Int) (r : Bool) (hm : F32.m x2 x3 x4 = some r) :
    Ctr Try.prog false 32 [s1.v, .int .i64 x3, .int .i64 x4] [Asr.vw (Enc.pair (Enc.int .i64) (Enc.pair (Enc.int .i64) (Enc.int .i64))) (s1.v) x2] (fun v L' => v = .bool r ∧ L' = []) := by
  refine Ctr.intro (n := 28) (env := [(0, s1.v), (1, .int .i64 x3), (2, .int .i64 x4)]) Try.func32 rfl rfl rfl rfl (fun c => ?_)
  unfold F32.m at hm
  refine JC.seq ?_
  refine JC.region ?_
  refine JL.val (v := .bool false) (QV.assign rfl) rfl rfl rfl ?_
  refine JL.nil ?_
  refine QJ.then_normal ?_
  refine JC.seq ?_
  refine JC.region ?_
  refine JL.val (v := .int .i64 (0 : Int)) (QV.assign rfl) rfl rfl rfl ?_
  refine JL.nil ?_
  refine QJ.then_normal ?_
  refine JC.seq ?_
  refine JC.seq ?_
  refine JC.region ?_
  refine JL.val (v := s1.v) (QV.move rfl) rfl rfl rfl ?_
  refine JL.val (v := .int .i64 ((x2).length : Int)) (QV.len (Rdg.vw 0 rfl) Try.underlying47 rfl) rfl rfl rfl ?_
  refine JL.val (v := .int .i64 (0 : Int)) (QV.move rfl) rfl rfl rfl ?_
  refine JL.nil ?_
  refine QJ.then_normal ?_
  refine JC.cutK (Y := Unit × Unit) (fun y => match y with | (_, _) => F32.j1 = some r) (fun y => match y with | (_, _) => []) (fun y => match y with | (_, _) => []) ?_ ?_
  ·
    rintro ⟨⟨⟩, ⟨⟩⟩ hm
    unfold F32.j1 at hm
    show QJ _ _ [] [] _ _
    refine QJ.then_normal ?_
    refine JC.seq ?_
    refine JC.region ?_
    refine JL.val (v := .bool true) (QV.assign rfl) rfl rfl rfl ?_
    refine JL.nil ?_
    refine QJ.then_normal ?_
    refine JC.ret ?_
    obtain rfl := Option.some.inj hm
    exact QJ.body (vs := [.bool true]) (.inl rfl) rfl (ResVs.cons (ResV.tmp rfl) ResVs.nil) [] rfl rfl (.inr trivial) ⟨rfl, rfl⟩
  ·
    refine JC.block ?_
    obtain ⟨y10, hl11, hmo12⟩ := bind_inv hm
    refine JC.loop (F32.b1 x2 x3 x4) (fun x z => match x, z with | (d6, d7), _ => [(1, .int .i64 x3), (2, .int .i64 x4), (7, .int .i64 d6), (10, s1.v), (11, .int .i64 ((x2).length : Int)), (12, .int .i64 d7)]) (fun x z => match x, z with | (d6, d7), _ => [Asr.vw (Enc.pair (Enc.int .i64) (Enc.pair (Enc.int .i64) (Enc.int .i64))) (s1.v) x2]) ((0 : Int), (0 : Int)) () y10 hl11 [0] (by exact ⟨rfl, rfl, rfl, rfl, rfl, rfl, trivial⟩) rfl rfl ?_
    rintro ⟨d6, d7⟩ ⟨⟩ s13 hm
    unfold F32.b1 at hm
    dsimp only at hm
    show JC _ _ _ [(1, .int .i64 x3), (2, .int .i64 x4), (7, .int .i64 d6), (10, s1.v), (11, .int .i64 ((x2).length : Int)), (12, .int .i64 d7)] [Asr.vw (Enc.pair (Enc.int .i64) (Enc.pair (Enc.int .i64) (Enc.int .i64))) (s1.v) x2] _ _
    refine JC.seq ?_
    refine JC.region ?_
    refine JL.val (v := .bool (decide (d7 < ((x2).length : Int)))) (QV.lss rfl rfl) rfl rfl rfl ?_
    refine JL.nil ?_
    refine QJ.then_normal ?_
    refine JC.seq ?_
    rcases ite_inv hm with ⟨h14, hm⟩ | ⟨h14, hm⟩
    ·
      refine JC.condT' rfl (decide_eq_true h14) ?_
      refine JC.skip ?_
      refine QJ.then_normal ?_
      refine JC.seq ?_
      refine JC.block ?_
      refine JC.seq ?_
      refine JC.region ?_
      obtain ⟨h15, hm⟩ := guard_inv hm
      refine JL.val (v := .pointer (some (elA (s1.v) (Int.toNat d7 * ((Enc.pair (Enc.int .i64) (Enc.pair (Enc.int .i64) (Enc.int .i64)))).sz)))) (QV.indexA (Rdg.vw 0 rfl) Try.underlying47 tk_52 rfl rfl h15) rfl rfl rfl ?_
      refine JL.val (v := .agg #[.int .i64 (gd x2 d7).1, .int .i64 (gd x2 d7).2.1, .int .i64 (gd x2 d7).2.2]) (QV.eq (QV.elN (Rdg.vw 0 rfl) tk_52 rfl h15) rfl) rfl rfl rfl ?_
      refine JL.mv (d := some 9) (MV.alloc [Seg.c (.int .i64 (0 : Int)), Seg.c (.int .i64 (0 : Int)), Seg.c (.int .i64 (0 : Int))] z_52 rfl) rfl rfl rfl ?_
      rintro _ _ ⟨b16, rfl, rfl⟩
      refine JL.mv (d := none) (MV.store (ss := [Seg.c (.int .i64 (0 : Int)), Seg.c (.int .i64 (0 : Int)), Seg.c (.int .i64 (0 : Int))]) 0 0 3 [Seg.c (.int .i64 (gd x2 d7).1), Seg.c (.int .i64 (gd x2 d7).2.1), Seg.c (.int .i64 (gd x2 d7).2.2)] rfl tk_52 rfl rfl rfl rfl (fun w hs => ⟨rfl, one_c rfl, one_c rfl, one_c rfl, trivial⟩)) rfl rfl rfl ?_
      rintro _ _ ⟨rfl, rfl⟩
      refine JL.nil ?_
      refine QJ.then_normal ?_
      refine JC.seq ?_
      refine JC.seq ?_
      refine JC.region ?_
      refine JL.val (v := .agg #[.int .i64 (gd x2 d7).1, .int .i64 (gd x2 d7).2.1, .int .i64 (gd x2 d7).2.2]) (QV.eq (QV.loadN (ss := [Seg.c (.int .i64 (gd x2 d7).1), Seg.c (.int .i64 (gd x2 d7).2.1), Seg.c (.int .i64 (gd x2 d7).2.2)]) 0 0 3 rfl tk_52 rfl rfl rfl rfl) rfl) rfl rfl rfl ?_
      refine JL.val (v := .int .i64 d6) (QV.move rfl) rfl rfl rfl ?_
      refine JL.val (v := .int .i64 x3) (QV.move rfl) rfl rfl rfl ?_
      refine JL.val (v := .int .i64 x4) (QV.move rfl) rfl rfl rfl ?_
      obtain ⟨y17, hc18, hm⟩ := bind_inv hm
      refine JL.mv (d := some 20) (MV.call (Lo := []) (Lr := [Asr.blk b16 52 [Seg.c (.int .i64 (gd x2 d7).1), Seg.c (.int .i64 (gd x2 d7).2.1), Seg.c (.int .i64 (gd x2 d7).2.2)], Asr.vw (Enc.pair (Enc.int .i64) (Enc.pair (Enc.int .i64) (Enc.int .i64))) (s1.v) x2]) (F57.spec ((gd x2 d7).1) ((gd x2 d7).2.1) ((gd x2 d7).2.2) (d6) (x3) (x4) _ hc18) rfl Try.func57 rfl rfl rfl [] [0, 1] rfl rfl rfl trivial) rfl rfl rfl ?_
      rintro _ _ ⟨_, ⟨rfl, rfl⟩, rfl⟩
      refine JL.val (v := .bool (!y17)) (QV.not rfl) rfl rfl rfl ?_
      refine JL.nil ?_
      refine QJ.then_normal ?_
      rcases ite_inv hm with ⟨h19, hm⟩ | ⟨h19, hm⟩
      ·
        refine JC.condF' rfl (congrArg Bool.not h19) ?_
        refine JC.skip ?_
        refine QJ.then_normal ?_
        refine JC.region ?_
        refine JL.val (v := .pointer (some ⟨b16, 0, none⟩)) (QV.fieldB fo_52_0 rfl rfl) rfl rfl rfl ?_
        refine JL.val (v := .int .i64 (gd x2 d7).1) (QV.load1 (ss := [Seg.c (.int .i64 (gd x2 d7).1), Seg.c (.int .i64 (gd x2 d7).2.1), Seg.c (.int .i64 (gd x2 d7).2.2)]) 0 0 rfl tk_3 rfl rfl rfl) rfl rfl rfl ?_
        refine JL.val (v := .pointer (some ⟨b16, 2, none⟩)) (QV.fieldB fo_52_2 rfl rfl) rfl rfl rfl ?_
        refine JL.val (v := .int .i64 (gd x2 d7).2.2) (QV.load1 (ss := [Seg.c (.int .i64 (gd x2 d7).1), Seg.c (.int .i64 (gd x2 d7).2.1), Seg.c (.int .i64 (gd x2 d7).2.2)]) 0 2 rfl tk_3 rfl rfl rfl) rfl rfl rfl ?_
        refine JL.val (v := .int .i64 (IntKind.wrap .i64 ((gd x2 d7).1 + (gd x2 d7).2.2))) (QV.add rfl rfl) rfl rfl rfl ?_
        refine JL.val (v := .int .i64 (IntKind.wrap .i64 ((gd x2 d7).1 + (gd x2 d7).2.2))) (QV.assign rfl) rfl rfl rfl ?_
        refine JL.nil ?_
        refine QJ.block_normal ?_
        refine QJ.then_normal ?_
        refine JC.region ?_
        refine JL.val (v := .int .i64 (IntKind.wrap .i64 (d7 + (1 : Int)))) (QV.add rfl rfl) rfl rfl rfl ?_
        refine JL.val (v := .int .i64 (IntKind.wrap .i64 (d7 + (1 : Int)))) (QV.move rfl) rfl rfl rfl ?_
        refine JL.nil ?_
        obtain rfl := Option.some.inj hm
        exact QJ.round_on ((IntKind.wrap .i64 ((gd x2 d7).1 + (gd x2 d7).2.2)), (IntKind.wrap .i64 (d7 + (1 : Int)))) () [1] (by exact ⟨rfl, rfl, rfl, rfl, rfl, rfl, trivial⟩) rfl rfl
      ·
        refine JC.condT' rfl (congrArg Bool.not (bfalse h19)) ?_
        refine JC.seq ?_
        refine JC.region ?_
        refine JL.val (v := .bool false) (QV.assign rfl) rfl rfl rfl ?_
        refine JL.nil ?_
        refine QJ.then_normal ?_
        refine JC.ret ?_
        refine QJ.then_ret ?_
        refine QJ.block_ret ?_
        refine QJ.then_ret ?_
        obtain rfl := Option.some.inj hm
        refine QJ.round_ret (fun hy => ?_)
        subst hy
        refine QJ.block_ret ?_
        refine QJ.cut_ret ?_
        refine QJ.then_ret ?_
        obtain rfl := Option.some.inj hmo12
        exact QJ.body (vs := [.bool false]) (.inl rfl) rfl (ResVs.cons (ResV.tmp rfl) ResVs.nil) [] rfl rfl (.inr trivial) ⟨rfl, rfl⟩
    ·
      refine JC.condF' rfl (decide_eq_false h14) ?_
      refine JC.exit ?_
      refine QJ.then_exit ?_
      obtain rfl := Option.some.inj hm
      refine QJ.round_exit (fun hy => ?_)
      subst hy
      refine QJ.block_hit ?_
      exact QJ.cut_normal ((), ()) hmo12 [] trivial rfl rfl

/-! ### 33: drogher/match.Same -/
noncomputable def F33.j1  (d13 : Int) : Option Int :=
  some d13
noncomputable def F33.j2 (d15 : Int) (d25 : Int) : Option ((Int × Int) ⊕ Int) :=
  some (.inl (d25, (IntKind.wrap .i64 (d15 + (1 : Int)))))
noncomputable def F33.b1 (x2 : List Int) (x4 : List Int) (x5 : Int) (x6 : Int) (x7 : Int) : (Int × Int) → Option ((Int × Int) ⊕ Int)
  | (d14, d15) => (if d15 < x7 then (if 0 ≤ (IntKind.wrap .i64 (x6 + d15)) ∧ (IntKind.wrap .i64 (x6 + d15)) < ((x2).length : Int) then (if 0 ≤ (IntKind.wrap .i64 (x5 + d15)) ∧ (IntKind.wrap .i64 (x5 + d15)) < ((x4).length : Int) then (if (gd x2 (IntKind.wrap .i64 (x6 + d15))) = (gd x4 (IntKind.wrap .i64 (x5 + d15))) then F33.j2 d15 ((IntKind.wrap .i64 (d14 + (1 : Int)))) else F33.j2 d15 (d14)) else none) else none) else some (.inr d14))
noncomputable def F33.m (x2 : List Int) (x4 : List Int) (x5 : Int) (x6 : Int) (x7 : Int) : Option Int :=
  ((F57.m (x5) (x6) (x7) ((0 : Int)) (((x2).length : Int)) (((x4).length : Int))).bind fun y10 => (if y10 = true then ((loop (F33.b1 x2 x4 x5 x6 x7) ((0 : Int), (0 : Int))).bind fun y => match y with | d13 => F33.j1 (d13)) else some (0 : Int)))
set_option maxRecDepth 100000 in
set_option maxHeartbeats 4000000 in
theorem F33.spec (s1 : SlV) (s3 : SlV) (x2 : List Int) (x4 : List Int) (x5 : Int) (x6 : Int) (x7 : Int) (r : Int) (hm : F33.m x2 x4 x5 x6 x7 = some r) :
    Ctr Try.prog false 33 [s1.v, s3.v, .agg #[.int .i64 x5, .int .i64 x6, .int .i64 x7]] [Asr.vw (Enc.int .u8) (s1.v) x2, Asr.vw (Enc.int .u8) (s3.v) x4] (fun v L' => v = .int .i64 r ∧ L' = []) := by
  refine Ctr.intro (n := 40) (env := [(0, s1.v), (1, s3.v), (2, .agg #[.int .i64 x5, .int .i64 x6, .int .i64 x7])]) Try.func33 rfl rfl rfl rfl (fun c => ?_)
  unfold F33.m at hm
  refine JC.seq ?_
  refine JC.region ?_
  refine JL.mv (d := some 5) (MV.box [Seg.c (.int .i64 x5), Seg.c (.int .i64 x6), Seg.c (.int .i64 x7)] rfl (fun w hs => rfl)) rfl rfl rfl ?_
  rintro _ _ ⟨b9, rfl, rfl⟩
  refine JL.val (v := .int .i64 (0 : Int)) (QV.assign rfl) rfl rfl rfl ?_
  refine JL.nil ?_
  refine QJ.then_normal ?_
  refine JC.seq ?_
  refine JC.seq ?_
  refine JC.region ?_
  refine JL.val (v := .agg #[.int .i64 x5, .int .i64 x6, .int .i64 x7]) (QV.eq (QV.loadN (ss := [Seg.c (.int .i64 x5), Seg.c (.int .i64 x6), Seg.c (.int .i64 x7)]) 0 0 3 rfl tk_52 rfl rfl rfl rfl) rfl) rfl rfl rfl ?_
  refine JL.val (v := s1.v) (QV.move rfl) rfl rfl rfl ?_
  refine JL.val (v := .int .i64 ((x2).length : Int)) (QV.len (Rdg.vw 1 rfl) Try.underlying23 rfl) rfl rfl rfl ?_
  refine JL.val (v := s3.v) (QV.move rfl) rfl rfl rfl ?_
  refine JL.val (v := .int .i64 ((x4).length : Int)) (QV.len (Rdg.vw 2 rfl) Try.underlying23 rfl) rfl rfl rfl ?_
  obtain ⟨y10, hc11, hm⟩ := bind_inv hm
  refine JL.mv (d := some 14) (MV.call (Lo := []) (Lr := [Asr.blk b9 52 [Seg.c (.int .i64 x5), Seg.c (.int .i64 x6), Seg.c (.int .i64 x7)], Asr.vw (Enc.int .u8) (s1.v) x2, Asr.vw (Enc.int .u8) (s3.v) x4]) (F57.spec (x5) (x6) (x7) ((0 : Int)) (((x2).length : Int)) (((x4).length : Int)) _ hc11) rfl Try.func57 rfl rfl rfl [] [0, 1, 2] rfl rfl rfl trivial) rfl rfl rfl ?_
  rintro _ _ ⟨_, ⟨rfl, rfl⟩, rfl⟩
  refine JL.val (v := .bool (!y10)) (QV.not rfl) rfl rfl rfl ?_
  refine JL.nil ?_
  refine QJ.then_normal ?_
  rcases ite_inv hm with ⟨h12, hm⟩ | ⟨h12, hm⟩
  ·
    refine JC.condF' rfl (congrArg Bool.not h12) ?_
    refine JC.skip ?_
    refine QJ.then_normal ?_
    refine JC.seq ?_
    refine JC.region ?_
    refine JL.val (v := .int .i64 (0 : Int)) (QV.assign rfl) rfl rfl rfl ?_
    refine JL.nil ?_
    refine QJ.then_normal ?_
    refine JC.seq ?_
    refine JC.seq ?_
    refine JC.region ?_
    refine JL.val (v := .pointer (some ⟨b9, 2, none⟩)) (QV.fieldB fo_52_2 rfl rfl) rfl rfl rfl ?_
    refine JL.val (v := .int .i64 x7) (QV.load1 (ss := [Seg.c (.int .i64 x5), Seg.c (.int .i64 x6), Seg.c (.int .i64 x7)]) 0 2 rfl tk_3 rfl rfl rfl) rfl rfl rfl ?_
    refine JL.val (v := .int .i64 (0 : Int)) (QV.move rfl) rfl rfl rfl ?_
    refine JL.nil ?_
    refine QJ.then_normal ?_
    refine JC.cutK (Y := Int × Unit) (fun y => match y with | (d13, _) => F33.j1 (d13) = some r) (fun y => match y with | (d13, _) => [(7, .int .i64 d13)]) (fun y => match y with | (d13, _) => []) ?_ ?_
    ·
      rintro ⟨d13, ⟨⟩⟩ hm
      unfold F33.j1 at hm
      show QJ _ _ [(7, .int .i64 d13)] [] _ _
      refine QJ.then_normal ?_
      refine JC.seq ?_
      refine JC.region ?_
      refine JL.val (v := .int .i64 d13) (QV.move rfl) rfl rfl rfl ?_
      refine JL.val (v := .int .i64 d13) (QV.assign rfl) rfl rfl rfl ?_
      refine JL.nil ?_
      refine QJ.then_normal ?_
      refine JC.ret ?_
      obtain rfl := Option.some.inj hm
      exact QJ.body (vs := [.int .i64 d13]) (.inl rfl) rfl (ResVs.cons (ResV.tmp rfl) ResVs.nil) [] rfl rfl (.inr trivial) ⟨rfl, rfl⟩
    ·
      refine JC.block ?_
      obtain ⟨y18, hl19, hmo20⟩ := bind_inv hm
      refine JC.loop (F33.b1 x2 x4 x5 x6 x7) (fun x z => match x, z with | (d14, d15), _ => [(0, s1.v), (1, s3.v), (5, .pointer (some ⟨b9, 0, none⟩)), (7, .int .i64 d14), (17, .int .i64 x7), (18, .int .i64 d15)]) (fun x z => match x, z with | (d14, d15), _ => [Asr.vw (Enc.int .u8) (s1.v) x2, Asr.vw (Enc.int .u8) (s3.v) x4, Asr.blk b9 52 [Seg.c (.int .i64 x5), Seg.c (.int .i64 x6), Seg.c (.int .i64 x7)]]) ((0 : Int), (0 : Int)) () y18 hl19 [1, 2, 0] (by exact ⟨rfl, rfl, rfl, rfl, rfl, rfl, trivial⟩) rfl rfl ?_
      rintro ⟨d14, d15⟩ ⟨⟩ s21 hm
      unfold F33.b1 at hm
      dsimp only at hm
      show JC _ _ _ [(0, s1.v), (1, s3.v), (5, .pointer (some ⟨b9, 0, none⟩)), (7, .int .i64 d14), (17, .int .i64 x7), (18, .int .i64 d15)] [Asr.vw (Enc.int .u8) (s1.v) x2, Asr.vw (Enc.int .u8) (s3.v) x4, Asr.blk b9 52 [Seg.c (.int .i64 x5), Seg.c (.int .i64 x6), Seg.c (.int .i64 x7)]] _ _
      refine JC.seq ?_
      refine JC.region ?_
      refine JL.val (v := .bool (decide (d15 < x7))) (QV.lss rfl rfl) rfl rfl rfl ?_
      refine JL.nil ?_
      refine QJ.then_normal ?_
      refine JC.seq ?_
      rcases ite_inv hm with ⟨h22, hm⟩ | ⟨h22, hm⟩
      ·
        refine JC.condT' rfl (decide_eq_true h22) ?_
        refine JC.skip ?_
        refine QJ.then_normal ?_
        refine JC.seq ?_
        refine JC.block ?_
        refine JC.seq ?_
        refine JC.region ?_
        refine JL.val (v := .int .i64 d15) (QV.move rfl) rfl rfl rfl ?_
        refine JL.val (v := .int .i64 d15) (QV.assign rfl) rfl rfl rfl ?_
        refine JL.nil ?_
        refine QJ.then_normal ?_
        refine JC.seq ?_
        refine JC.regionT [Asr.vw (Enc.int .u8) (s1.v) x2, Asr.vw (Enc.int .u8) (s3.v) x4, Asr.blk b9 52 [Seg.c (.int .i64 x5), Seg.c (.int .i64 x6), Seg.c (.int .i64 x7)]] (fun t => false) [(0, true), (1, true), (2, true), (3, true), (4, true), (5, true), (6, true), (7, true), (8, true), (9, true), (10, false), (11, false), (12, false), (13, false), (14, false)] (by kernel_rfl) (by kernel_rfl) (by kernel_rfl) rfl (fun hsel => ?_)
        refine JT.take (i := 0) (v := s1.v) hsel rfl (QV.move rfl) rfl rfl rfl [0, 1, 2] rfl rfl ?_
        refine JT.take (i := 1) (v := .pointer (some ⟨b9, 1, none⟩)) hsel rfl (QV.fieldB fo_52_1 rfl rfl) rfl rfl rfl [0, 1, 2] rfl rfl ?_
        refine JT.take (i := 2) (v := .int .i64 x6) hsel rfl (QV.load1 (ss := [Seg.c (.int .i64 x5), Seg.c (.int .i64 x6), Seg.c (.int .i64 x7)]) 2 1 rfl tk_3 rfl rfl rfl) rfl rfl rfl [0, 1, 2] rfl rfl ?_
        refine JT.take (i := 3) (v := .int .i64 d15) hsel rfl (QV.move rfl) rfl rfl rfl [0, 1, 2] rfl rfl ?_
        refine JT.take (i := 4) (v := .int .i64 (IntKind.wrap .i64 (x6 + d15))) hsel rfl (QV.add rfl rfl) rfl rfl rfl [0, 1, 2] rfl rfl ?_
        obtain ⟨h23, hm⟩ := guard_inv hm
        refine JT.take (i := 5) (v := .pointer (some (elA (s1.v) (Int.toNat (IntKind.wrap .i64 (x6 + d15)) * ((Enc.int .u8)).sz)))) hsel rfl (QV.indexA (Rdg.vw 0 rfl) Try.underlying23 tk_5 rfl rfl h23) rfl rfl rfl [0, 1, 2] rfl rfl ?_
        refine JT.take (i := 6) (v := .int .u8 (gd x2 (IntKind.wrap .i64 (x6 + d15)))) hsel rfl (QV.el1 (Rdg.vw 0 rfl) tk_5 rfl h23 rfl) rfl rfl rfl [0, 1, 2] rfl rfl ?_
        refine JT.take (i := 7) (v := s3.v) hsel rfl (QV.move rfl) rfl rfl rfl [0, 1, 2] rfl rfl ?_
        refine JT.take (i := 8) (v := .pointer (some ⟨b9, 0, none⟩)) hsel rfl (QV.fieldB fo_52_0 rfl rfl) rfl rfl rfl [0, 1, 2] rfl rfl ?_
        refine JT.take (i := 9) (v := .int .i64 x5) hsel rfl (QV.load1 (ss := [Seg.c (.int .i64 x5), Seg.c (.int .i64 x6), Seg.c (.int .i64 x7)]) 2 0 rfl tk_3 rfl rfl rfl) rfl rfl rfl [0, 1, 2] rfl rfl ?_
        refine JT.only (i := 10) (d := some 31) rfl (MV.ofQV (v := .int .i64 d15) (QV.move rfl)) rfl rfl rfl ?_
        rintro _ _ ⟨rfl, rfl⟩
        refine ⟨fun _ => ⟨[0, 1, 2], rfl, rfl⟩, ?_⟩
        refine JT.only (i := 11) (d := some 32) rfl (MV.ofQV (v := .int .i64 (IntKind.wrap .i64 (x5 + d15))) (QV.add rfl rfl)) rfl rfl rfl ?_
        rintro _ _ ⟨rfl, rfl⟩
        refine ⟨fun _ => ⟨[0, 1, 2], rfl, rfl⟩, ?_⟩
        obtain ⟨h24, hm⟩ := guard_inv hm
        refine JT.only (i := 12) (d := some 33) rfl (MV.ofQV (v := .pointer (some (elA (s3.v) (Int.toNat (IntKind.wrap .i64 (x5 + d15)) * ((Enc.int .u8)).sz)))) (QV.indexA (Rdg.vw 1 rfl) Try.underlying23 tk_5 rfl rfl h24)) rfl rfl rfl ?_
        rintro _ _ ⟨rfl, rfl⟩
        refine ⟨fun _ => ⟨[0, 1, 2], rfl, rfl⟩, ?_⟩
        refine JT.only (i := 13) (d := some 34) rfl (MV.ofQV (v := .int .u8 (gd x4 (IntKind.wrap .i64 (x5 + d15)))) (QV.el1 (Rdg.vw 1 rfl) tk_5 rfl h24 rfl)) rfl rfl rfl ?_
        rintro _ _ ⟨rfl, rfl⟩
        refine ⟨fun _ => ⟨[0, 1, 2], rfl, rfl⟩, ?_⟩
        refine JT.only (i := 14) (d := some 35) rfl (MV.ofQV (v := .bool (decide ((gd x2 (IntKind.wrap .i64 (x6 + d15))) = (gd x4 (IntKind.wrap .i64 (x5 + d15)))))) (QV.eql rfl rfl)) rfl rfl rfl ?_
        rintro _ _ ⟨rfl, rfl⟩
        refine ⟨fun _ => ⟨[0, 1, 2], rfl, rfl⟩, ?_⟩
        refine JT.nil ?_
        refine QJ.then_normal ?_
        refine JC.cutK (Y := Int × Unit) (fun y => match y with | (d25, _) => F33.j2 d15 (d25) = some s21) (fun y => match y with | (d25, _) => [(0, s1.v), (1, s3.v), (5, .pointer (some ⟨b9, 0, none⟩)), (7, .int .i64 d25), (17, .int .i64 x7), (18, .int .i64 d15)]) (fun y => match y with | (d25, _) => [Asr.vw (Enc.int .u8) (s1.v) x2, Asr.vw (Enc.int .u8) (s3.v) x4, Asr.blk b9 52 [Seg.c (.int .i64 x5), Seg.c (.int .i64 x6), Seg.c (.int .i64 x7)]]) ?_ ?_
        ·
          rintro ⟨d25, ⟨⟩⟩ hm
          unfold F33.j2 at hm
          show QJ _ _ [(0, s1.v), (1, s3.v), (5, .pointer (some ⟨b9, 0, none⟩)), (7, .int .i64 d25), (17, .int .i64 x7), (18, .int .i64 d15)] [Asr.vw (Enc.int .u8) (s1.v) x2, Asr.vw (Enc.int .u8) (s3.v) x4, Asr.blk b9 52 [Seg.c (.int .i64 x5), Seg.c (.int .i64 x6), Seg.c (.int .i64 x7)]] _ _
          refine QJ.block_normal ?_
          refine QJ.then_normal ?_
          refine JC.region ?_
          refine JL.val (v := .int .i64 (IntKind.wrap .i64 (d15 + (1 : Int)))) (QV.add rfl rfl) rfl rfl rfl ?_
          refine JL.val (v := .int .i64 (IntKind.wrap .i64 (d15 + (1 : Int)))) (QV.move rfl) rfl rfl rfl ?_
          refine JL.nil ?_
          obtain rfl := Option.some.inj hm
          exact QJ.round_on (d25, (IntKind.wrap .i64 (d15 + (1 : Int)))) () [0, 1, 2] (by exact ⟨rfl, rfl, rfl, rfl, rfl, rfl, trivial⟩) rfl rfl
        ·
          rcases ite_inv hm with ⟨h26, hm⟩ | ⟨h26, hm⟩
          ·
            refine JC.condT' rfl (decide_eq_true h26) ?_
            refine JC.region ?_
            refine JL.val (v := .int .i64 d14) (QV.move rfl) rfl rfl rfl ?_
            refine JL.val (v := .int .i64 (IntKind.wrap .i64 (d14 + (1 : Int)))) (QV.add rfl rfl) rfl rfl rfl ?_
            refine JL.val (v := .int .i64 (IntKind.wrap .i64 (d14 + (1 : Int)))) (QV.assign rfl) rfl rfl rfl ?_
            refine JL.nil ?_
            exact QJ.cut_normal ((IntKind.wrap .i64 (d14 + (1 : Int))), ()) hm [0, 1, 2] (by exact ⟨rfl, rfl, rfl, rfl, rfl, rfl, trivial⟩) rfl rfl
          ·
            refine JC.condF' rfl (decide_eq_false h26) ?_
            refine JC.skip ?_
            exact QJ.cut_normal (d14, ()) hm [0, 1, 2] (by exact ⟨rfl, rfl, rfl, rfl, rfl, rfl, trivial⟩) rfl rfl
      ·
        refine JC.condF' rfl (decide_eq_false h22) ?_
        refine JC.exit ?_
        refine QJ.then_exit ?_
        obtain rfl := Option.some.inj hm
        refine QJ.round_exit (fun hy => ?_)
        subst hy
        refine QJ.block_hit ?_
        exact QJ.cut_normal (d14, ()) hmo20 [] (by exact ⟨rfl, trivial⟩) rfl rfl
  ·
    refine JC.condT' rfl (congrArg Bool.not (bfalse h12)) ?_
    refine JC.seq ?_
    refine JC.region ?_
    refine JL.val (v := .int .i64 (0 : Int)) (QV.assign rfl) rfl rfl rfl ?_
    refine JL.nil ?_
    refine QJ.then_normal ?_
    refine JC.ret ?_
    refine QJ.then_ret ?_
    obtain rfl := Option.some.inj hm
    exact QJ.body (vs := [.int .i64 (0 : Int)]) (.inl rfl) rfl (ResVs.cons (ResV.tmp rfl) ResVs.nil) [] rfl rfl (.inr trivial) ⟨rfl, rfl⟩

/-! ### 10: drogher/drogherlaw15.MatchMay -/
noncomputable def F10.m (x2 : List (Int × Int × Int)) (x4 : List Int) (x6 : List Int) (x7 : Int) (x8 : Int) (x9 : Int) : Option Bool :=
  (if (60 : Int) < ((x2).length : Int) then ((F27.m).bind fun y13 => some y13) else (if (1000 : Int) < ((x4).length : Int) then ((F27.m).bind fun y16 => some y16) else (if (1000 : Int) < ((x6).length : Int) then ((F27.m).bind fun y19 => some y19) else ((F32.m (x2) (((x4).length : Int)) (((x6).length : Int))).bind fun y21 => ((F29.m (x2) (((x4).length : Int)) (((x6).length : Int))).bind fun y23 => (if (y21 == y23) = true then ((F33.m (x4) (x6) (x7) (x8) (x9)).bind fun y26 => ((F30.m (x4) (x6) (x7) (x8) (x9)).bind fun y28 => (if y26 = y28 then ((F27.m).bind fun y31 => some y31) else some false))) else some false))))))
set_option maxRecDepth 100000 in
set_option maxHeartbeats 4000000 in
theorem F10.spec (s1 : SlV) (s3 : SlV) (s5 : SlV) (x2 : List (Int × Int × Int)) (x4 : List Int) (x6 : List Int) (x7 : Int) (x8 : Int) (x9 : Int) (r : Bool) (hm : F10.m x2 x4 x6 x7 x8 x9 = some r) :
    Ctr Try.prog false 10 [s1.v, s3.v, s5.v, .agg #[.int .i64 x7, .int .i64 x8, .int .i64 x9]] [Asr.vw (Enc.pair (Enc.int .i64) (Enc.pair (Enc.int .i64) (Enc.int .i64))) (s1.v) x2, Asr.vw (Enc.int .u8) (s3.v) x4, Asr.vw (Enc.int .u8) (s5.v) x6] (fun v L' => v = .bool r ∧ L' = []) := by
  refine Ctr.intro (n := 50) (env := [(0, s1.v), (1, s3.v), (2, s5.v), (3, .agg #[.int .i64 x7, .int .i64 x8, .int .i64 x9])]) Try.func10 rfl rfl rfl rfl (fun c => ?_)
  unfold F10.m at hm
  refine JC.seq ?_
  refine JC.region ?_
  refine JL.mv (d := some 7) (MV.box [Seg.c (.int .i64 x7), Seg.c (.int .i64 x8), Seg.c (.int .i64 x9)] rfl (fun w hs => rfl)) rfl rfl rfl ?_
  rintro _ _ ⟨b11, rfl, rfl⟩
  refine JL.val (v := .bool false) (QV.assign rfl) rfl rfl rfl ?_
  refine JL.nil ?_
  refine QJ.then_normal ?_
  refine JC.seq ?_
  refine JC.seq ?_
  refine JC.region ?_
  refine JL.val (v := s1.v) (QV.move rfl) rfl rfl rfl ?_
  refine JL.val (v := .int .i64 ((x2).length : Int)) (QV.len (Rdg.vw 1 rfl) Try.underlying47 rfl) rfl rfl rfl ?_
  refine JL.val (v := .bool (decide ((60 : Int) < ((x2).length : Int)))) (QV.gtr rfl rfl) rfl rfl rfl ?_
  rcases ite_inv hm with ⟨h12, hm⟩ | ⟨h12, hm⟩
  ·
    refine JL.val (v := .bool true) (QV.eq (QV.move rfl) (congrArg Value.bool (decide_eq_true h12))) rfl rfl rfl ?_
    refine JL.skip (d := some 13) rfl rfl rfl ?_
    refine JL.skip (d := some 14) rfl rfl rfl ?_
    refine JL.skip (d := some 15) rfl rfl rfl ?_
    refine JL.val (v := .bool true) (QV.pickT rfl rfl) rfl rfl rfl ?_
    refine JL.val (v := .bool true) (QV.move rfl) rfl rfl rfl ?_
    refine JL.skip (d := some 18) rfl rfl rfl ?_
    refine JL.skip (d := some 19) rfl rfl rfl ?_
    refine JL.skip (d := some 20) rfl rfl rfl ?_
    refine JL.val (v := .bool true) (QV.pickT rfl rfl) rfl rfl rfl ?_
    refine JL.nil ?_
    refine QJ.then_normal ?_
    refine JC.condT rfl ?_
    refine JC.seq ?_
    refine JC.region ?_
    obtain ⟨y13, hc14, hm⟩ := bind_inv hm
    refine JL.mv (d := some 22) (MV.call (Lo := []) (Lr := [Asr.blk b11 52 [Seg.c (.int .i64 x7), Seg.c (.int .i64 x8), Seg.c (.int .i64 x9)], Asr.vw (Enc.pair (Enc.int .i64) (Enc.pair (Enc.int .i64) (Enc.int .i64))) (s1.v) x2, Asr.vw (Enc.int .u8) (s3.v) x4, Asr.vw (Enc.int .u8) (s5.v) x6]) (F27.spec _ hc14) rfl Try.func27 rfl rfl rfl [] [0, 1, 2, 3] rfl rfl rfl trivial) rfl rfl rfl ?_
    rintro _ _ ⟨_, ⟨rfl, rfl⟩, rfl⟩
    refine JL.val (v := .bool y13) (QV.assign rfl) rfl rfl rfl ?_
    refine JL.nil ?_
    refine QJ.then_normal ?_
    refine JC.ret ?_
    refine QJ.then_ret ?_
    obtain rfl := Option.some.inj hm
    exact QJ.body (vs := [.bool y13]) (.inl rfl) rfl (ResVs.cons (ResV.tmp rfl) ResVs.nil) [] rfl rfl (.inr trivial) ⟨rfl, rfl⟩
  ·
    refine JL.val (v := .bool false) (QV.eq (QV.move rfl) (congrArg Value.bool (decide_eq_false h12))) rfl rfl rfl ?_
    refine JL.val (v := s3.v) (QV.move rfl) rfl rfl rfl ?_
    refine JL.val (v := .int .i64 ((x4).length : Int)) (QV.len (Rdg.vw 2 rfl) Try.underlying23 rfl) rfl rfl rfl ?_
    refine JL.val (v := .bool (decide ((1000 : Int) < ((x4).length : Int)))) (QV.gtr rfl rfl) rfl rfl rfl ?_
    refine JL.val (v := .bool (decide ((1000 : Int) < ((x4).length : Int)))) (QV.pickF rfl rfl) rfl rfl rfl ?_
    rcases ite_inv hm with ⟨h15, hm⟩ | ⟨h15, hm⟩
    ·
      refine JL.val (v := .bool true) (QV.eq (QV.move rfl) (congrArg Value.bool (decide_eq_true h15))) rfl rfl rfl ?_
      refine JL.skip (d := some 18) rfl rfl rfl ?_
      refine JL.skip (d := some 19) rfl rfl rfl ?_
      refine JL.skip (d := some 20) rfl rfl rfl ?_
      refine JL.val (v := .bool true) (QV.pickT rfl rfl) rfl rfl rfl ?_
      refine JL.nil ?_
      refine QJ.then_normal ?_
      refine JC.condT rfl ?_
      refine JC.seq ?_
      refine JC.region ?_
      obtain ⟨y16, hc17, hm⟩ := bind_inv hm
      refine JL.mv (d := some 22) (MV.call (Lo := []) (Lr := [Asr.blk b11 52 [Seg.c (.int .i64 x7), Seg.c (.int .i64 x8), Seg.c (.int .i64 x9)], Asr.vw (Enc.pair (Enc.int .i64) (Enc.pair (Enc.int .i64) (Enc.int .i64))) (s1.v) x2, Asr.vw (Enc.int .u8) (s3.v) x4, Asr.vw (Enc.int .u8) (s5.v) x6]) (F27.spec _ hc17) rfl Try.func27 rfl rfl rfl [] [0, 1, 2, 3] rfl rfl rfl trivial) rfl rfl rfl ?_
      rintro _ _ ⟨_, ⟨rfl, rfl⟩, rfl⟩
      refine JL.val (v := .bool y16) (QV.assign rfl) rfl rfl rfl ?_
      refine JL.nil ?_
      refine QJ.then_normal ?_
      refine JC.ret ?_
      refine QJ.then_ret ?_
      obtain rfl := Option.some.inj hm
      exact QJ.body (vs := [.bool y16]) (.inl rfl) rfl (ResVs.cons (ResV.tmp rfl) ResVs.nil) [] rfl rfl (.inr trivial) ⟨rfl, rfl⟩
    ·
      refine JL.val (v := .bool false) (QV.eq (QV.move rfl) (congrArg Value.bool (decide_eq_false h15))) rfl rfl rfl ?_
      refine JL.val (v := s5.v) (QV.move rfl) rfl rfl rfl ?_
      refine JL.val (v := .int .i64 ((x6).length : Int)) (QV.len (Rdg.vw 3 rfl) Try.underlying23 rfl) rfl rfl rfl ?_
      refine JL.val (v := .bool (decide ((1000 : Int) < ((x6).length : Int)))) (QV.gtr rfl rfl) rfl rfl rfl ?_
      refine JL.val (v := .bool (decide ((1000 : Int) < ((x6).length : Int)))) (QV.pickF rfl rfl) rfl rfl rfl ?_
      refine JL.nil ?_
      refine QJ.then_normal ?_
      rcases ite_inv hm with ⟨h18, hm⟩ | ⟨h18, hm⟩
      ·
        refine JC.condT' rfl (decide_eq_true h18) ?_
        refine JC.seq ?_
        refine JC.region ?_
        obtain ⟨y19, hc20, hm⟩ := bind_inv hm
        refine JL.mv (d := some 22) (MV.call (Lo := []) (Lr := [Asr.blk b11 52 [Seg.c (.int .i64 x7), Seg.c (.int .i64 x8), Seg.c (.int .i64 x9)], Asr.vw (Enc.pair (Enc.int .i64) (Enc.pair (Enc.int .i64) (Enc.int .i64))) (s1.v) x2, Asr.vw (Enc.int .u8) (s3.v) x4, Asr.vw (Enc.int .u8) (s5.v) x6]) (F27.spec _ hc20) rfl Try.func27 rfl rfl rfl [] [0, 1, 2, 3] rfl rfl rfl trivial) rfl rfl rfl ?_
        rintro _ _ ⟨_, ⟨rfl, rfl⟩, rfl⟩
        refine JL.val (v := .bool y19) (QV.assign rfl) rfl rfl rfl ?_
        refine JL.nil ?_
        refine QJ.then_normal ?_
        refine JC.ret ?_
        refine QJ.then_ret ?_
        obtain rfl := Option.some.inj hm
        exact QJ.body (vs := [.bool y19]) (.inl rfl) rfl (ResVs.cons (ResV.tmp rfl) ResVs.nil) [] rfl rfl (.inr trivial) ⟨rfl, rfl⟩
      ·
        refine JC.condF' rfl (decide_eq_false h18) ?_
        refine JC.skip ?_
        refine QJ.then_normal ?_
        refine JC.seq ?_
        refine JC.regionT [Asr.blk b11 52 [Seg.c (.int .i64 x7), Seg.c (.int .i64 x8), Seg.c (.int .i64 x9)], Asr.vw (Enc.pair (Enc.int .i64) (Enc.pair (Enc.int .i64) (Enc.int .i64))) (s1.v) x2, Asr.vw (Enc.int .u8) (s3.v) x4, Asr.vw (Enc.int .u8) (s5.v) x6] (fun t => false) [(0, true), (1, true), (2, true), (3, true), (4, true), (6, true), (7, true), (8, true), (9, true), (10, true), (5, false), (11, false), (12, false), (13, false), (14, true), (15, true), (16, true), (18, true), (19, true), (20, true), (17, false), (21, false), (22, false), (23, false), (24, false), (25, false), (26, false), (27, false)] (by kernel_rfl) (by kernel_rfl) (by kernel_rfl) rfl (fun hsel => ?_)
        refine JT.take (i := 0) (v := s1.v) hsel rfl (QV.move rfl) rfl rfl rfl [0, 1, 2, 3] rfl rfl ?_
        refine JT.take (i := 1) (v := s3.v) hsel rfl (QV.move rfl) rfl rfl rfl [0, 1, 2, 3] rfl rfl ?_
        refine JT.take (i := 2) (v := .int .i64 ((x4).length : Int)) hsel rfl (QV.len (Rdg.vw 2 rfl) Try.underlying23 rfl) rfl rfl rfl [0, 1, 2, 3] rfl rfl ?_
        refine JT.take (i := 3) (v := s5.v) hsel rfl (QV.move rfl) rfl rfl rfl [0, 1, 2, 3] rfl rfl ?_
        refine JT.take (i := 4) (v := .int .i64 ((x6).length : Int)) hsel rfl (QV.len (Rdg.vw 3 rfl) Try.underlying23 rfl) rfl rfl rfl [0, 1, 2, 3] rfl rfl ?_
        refine JT.take (i := 6) (v := s1.v) hsel rfl (QV.move rfl) rfl rfl rfl [0, 1, 2, 3] rfl rfl ?_
        refine JT.take (i := 7) (v := s3.v) hsel rfl (QV.move rfl) rfl rfl rfl [0, 1, 2, 3] rfl rfl ?_
        refine JT.take (i := 8) (v := .int .i64 ((x4).length : Int)) hsel rfl (QV.len (Rdg.vw 2 rfl) Try.underlying23 rfl) rfl rfl rfl [0, 1, 2, 3] rfl rfl ?_
        refine JT.take (i := 9) (v := s5.v) hsel rfl (QV.move rfl) rfl rfl rfl [0, 1, 2, 3] rfl rfl ?_
        refine JT.take (i := 10) (v := .int .i64 ((x6).length : Int)) hsel rfl (QV.len (Rdg.vw 3 rfl) Try.underlying23 rfl) rfl rfl rfl [0, 1, 2, 3] rfl rfl ?_
        obtain ⟨y21, hc22, hm⟩ := bind_inv hm
        refine JT.only (i := 5) (d := some 28) rfl (MV.call (Lo := []) (Lr := [Asr.blk b11 52 [Seg.c (.int .i64 x7), Seg.c (.int .i64 x8), Seg.c (.int .i64 x9)], Asr.vw (Enc.pair (Enc.int .i64) (Enc.pair (Enc.int .i64) (Enc.int .i64))) (s1.v) x2, Asr.vw (Enc.int .u8) (s3.v) x4, Asr.vw (Enc.int .u8) (s5.v) x6]) (F32.spec (s1) (x2) (((x4).length : Int)) (((x6).length : Int)) _ hc22) rfl Try.func32 rfl rfl rfl [] [0, 1, 2, 3] rfl rfl rfl ⟨(Drv.vw 1 rfl), trivial⟩) rfl rfl rfl ?_
        rintro _ _ ⟨_, ⟨rfl, rfl⟩, rfl⟩
        refine ⟨fun _ => ⟨[0, 1, 2, 3], rfl, rfl⟩, ?_⟩
        obtain ⟨y23, hc24, hm⟩ := bind_inv hm
        refine JT.only (i := 11) (d := some 34) rfl (MV.call (Lo := []) (Lr := [Asr.blk b11 52 [Seg.c (.int .i64 x7), Seg.c (.int .i64 x8), Seg.c (.int .i64 x9)], Asr.vw (Enc.pair (Enc.int .i64) (Enc.pair (Enc.int .i64) (Enc.int .i64))) (s1.v) x2, Asr.vw (Enc.int .u8) (s3.v) x4, Asr.vw (Enc.int .u8) (s5.v) x6]) (F29.spec (s1) (x2) (((x4).length : Int)) (((x6).length : Int)) _ hc24) rfl Try.func29 rfl rfl rfl [] [0, 1, 2, 3] rfl rfl rfl ⟨(Drv.vw 1 rfl), trivial⟩) rfl rfl rfl ?_
        rintro _ _ ⟨_, ⟨rfl, rfl⟩, rfl⟩
        refine ⟨fun _ => ⟨[0, 1, 2, 3], rfl, rfl⟩, ?_⟩
        refine JT.only (i := 12) (d := some 35) rfl (MV.ofQV (v := .bool (y21 == y23)) (QV.eqlB Try.underlying4 rfl rfl)) rfl rfl rfl ?_
        rintro _ _ ⟨rfl, rfl⟩
        refine ⟨fun _ => ⟨[0, 1, 2, 3], rfl, rfl⟩, ?_⟩
        rcases ite_inv hm with ⟨h25, hm⟩ | ⟨h25, hm⟩
        ·
          refine JT.only (i := 13) (d := some 36) rfl (MV.ofQV (v := .bool true) (QV.eq (QV.move rfl) (congrArg Value.bool h25))) rfl rfl rfl ?_
          rintro _ _ ⟨rfl, rfl⟩
          refine ⟨fun _ => ⟨[0, 1, 2, 3], rfl, rfl⟩, ?_⟩
          refine JT.take (i := 14) (v := s3.v) hsel rfl (QV.move rfl) rfl rfl rfl [0, 1, 2, 3] rfl rfl ?_
          refine JT.take (i := 15) (v := s5.v) hsel rfl (QV.move rfl) rfl rfl rfl [0, 1, 2, 3] rfl rfl ?_
          refine JT.take (i := 16) (v := .agg #[.int .i64 x7, .int .i64 x8, .int .i64 x9]) hsel rfl (QV.eq (QV.loadN (ss := [Seg.c (.int .i64 x7), Seg.c (.int .i64 x8), Seg.c (.int .i64 x9)]) 0 0 3 rfl tk_52 rfl rfl rfl rfl) rfl) rfl rfl rfl [0, 1, 2, 3] rfl rfl ?_
          refine JT.take (i := 18) (v := s3.v) hsel rfl (QV.move rfl) rfl rfl rfl [0, 1, 2, 3] rfl rfl ?_
          refine JT.take (i := 19) (v := s5.v) hsel rfl (QV.move rfl) rfl rfl rfl [0, 1, 2, 3] rfl rfl ?_
          refine JT.take (i := 20) (v := .agg #[.int .i64 x7, .int .i64 x8, .int .i64 x9]) hsel rfl (QV.eq (QV.loadN (ss := [Seg.c (.int .i64 x7), Seg.c (.int .i64 x8), Seg.c (.int .i64 x9)]) 0 0 3 rfl tk_52 rfl rfl rfl rfl) rfl) rfl rfl rfl [0, 1, 2, 3] rfl rfl ?_
          obtain ⟨y26, hc27, hm⟩ := bind_inv hm
          refine JT.only (i := 17) (d := some 40) rfl (MV.call (Lo := []) (Lr := [Asr.blk b11 52 [Seg.c (.int .i64 x7), Seg.c (.int .i64 x8), Seg.c (.int .i64 x9)], Asr.vw (Enc.pair (Enc.int .i64) (Enc.pair (Enc.int .i64) (Enc.int .i64))) (s1.v) x2, Asr.vw (Enc.int .u8) (s3.v) x4, Asr.vw (Enc.int .u8) (s5.v) x6]) (F33.spec (s3) (s5) (x4) (x6) (x7) (x8) (x9) _ hc27) rfl Try.func33 rfl rfl rfl [] [0, 1, 2, 3] rfl rfl rfl ⟨(Drv.vw 2 rfl), ⟨(Drv.vw 3 rfl), trivial⟩⟩) rfl rfl rfl ?_
          rintro _ _ ⟨_, ⟨rfl, rfl⟩, rfl⟩
          refine ⟨fun _ => ⟨[0, 1, 2, 3], rfl, rfl⟩, ?_⟩
          obtain ⟨y28, hc29, hm⟩ := bind_inv hm
          refine JT.only (i := 21) (d := some 44) rfl (MV.call (Lo := []) (Lr := [Asr.blk b11 52 [Seg.c (.int .i64 x7), Seg.c (.int .i64 x8), Seg.c (.int .i64 x9)], Asr.vw (Enc.pair (Enc.int .i64) (Enc.pair (Enc.int .i64) (Enc.int .i64))) (s1.v) x2, Asr.vw (Enc.int .u8) (s3.v) x4, Asr.vw (Enc.int .u8) (s5.v) x6]) (F30.spec (s3) (s5) (x4) (x6) (x7) (x8) (x9) _ hc29) rfl Try.func30 rfl rfl rfl [] [0, 1, 2, 3] rfl rfl rfl ⟨(Drv.vw 2 rfl), ⟨(Drv.vw 3 rfl), trivial⟩⟩) rfl rfl rfl ?_
          rintro _ _ ⟨_, ⟨rfl, rfl⟩, rfl⟩
          refine ⟨fun _ => ⟨[0, 1, 2, 3], rfl, rfl⟩, ?_⟩
          refine JT.only (i := 22) (d := some 45) rfl (MV.ofQV (v := .bool (decide (y26 = y28))) (QV.eql rfl rfl)) rfl rfl rfl ?_
          rintro _ _ ⟨rfl, rfl⟩
          refine ⟨fun _ => ⟨[0, 1, 2, 3], rfl, rfl⟩, ?_⟩
          refine JT.only (i := 23) (d := some 46) rfl (MV.ofQV (v := .bool (decide (y26 = y28))) (QV.pickT rfl rfl)) rfl rfl rfl ?_
          rintro _ _ ⟨rfl, rfl⟩
          refine ⟨fun _ => ⟨[0, 1, 2, 3], rfl, rfl⟩, ?_⟩
          rcases ite_inv hm with ⟨h30, hm⟩ | ⟨h30, hm⟩
          ·
            refine JT.only (i := 24) (d := some 47) rfl (MV.ofQV (v := .bool true) (QV.eq (QV.move rfl) (congrArg Value.bool (decide_eq_true h30)))) rfl rfl rfl ?_
            rintro _ _ ⟨rfl, rfl⟩
            refine ⟨fun _ => ⟨[0, 1, 2, 3], rfl, rfl⟩, ?_⟩
            obtain ⟨y31, hc32, hm⟩ := bind_inv hm
            refine JT.only (i := 25) (d := some 48) rfl (MV.call (Lo := []) (Lr := [Asr.blk b11 52 [Seg.c (.int .i64 x7), Seg.c (.int .i64 x8), Seg.c (.int .i64 x9)], Asr.vw (Enc.pair (Enc.int .i64) (Enc.pair (Enc.int .i64) (Enc.int .i64))) (s1.v) x2, Asr.vw (Enc.int .u8) (s3.v) x4, Asr.vw (Enc.int .u8) (s5.v) x6]) (F27.spec _ hc32) rfl Try.func27 rfl rfl rfl [] [0, 1, 2, 3] rfl rfl rfl trivial) rfl rfl rfl ?_
            rintro _ _ ⟨_, ⟨rfl, rfl⟩, rfl⟩
            refine ⟨fun _ => ⟨[0, 1, 2, 3], rfl, rfl⟩, ?_⟩
            refine JT.only (i := 26) (d := some 49) rfl (MV.ofQV (v := .bool y31) (QV.pickT rfl rfl)) rfl rfl rfl ?_
            rintro _ _ ⟨rfl, rfl⟩
            refine ⟨fun _ => ⟨[0, 1, 2, 3], rfl, rfl⟩, ?_⟩
            refine JT.only (i := 27) (d := some 8) rfl (MV.ofQV (v := .bool y31) (QV.assign rfl)) rfl rfl rfl ?_
            rintro _ _ ⟨rfl, rfl⟩
            refine ⟨fun _ => ⟨[0, 1, 2, 3], rfl, rfl⟩, ?_⟩
            refine JT.nil ?_
            refine QJ.then_normal ?_
            refine JC.ret ?_
            obtain rfl := Option.some.inj hm
            exact QJ.body (vs := [.bool y31]) (.inl rfl) rfl (ResVs.cons (ResV.tmp rfl) ResVs.nil) [] rfl rfl (.inr trivial) ⟨rfl, rfl⟩
          ·
            refine JT.only (i := 24) (d := some 47) rfl (MV.ofQV (v := .bool false) (QV.eq (QV.move rfl) (congrArg Value.bool (decide_eq_false h30)))) rfl rfl rfl ?_
            rintro _ _ ⟨rfl, rfl⟩
            refine ⟨fun _ => ⟨[0, 1, 2, 3], rfl, rfl⟩, ?_⟩
            refine JT.skipO (i := 25) (d := some 48) rfl rfl rfl rfl [0, 1, 2, 3] rfl rfl ?_
            refine JT.only (i := 26) (d := some 49) rfl (MV.ofQV (v := .bool false) (QV.pickF rfl rfl)) rfl rfl rfl ?_
            rintro _ _ ⟨rfl, rfl⟩
            refine ⟨fun _ => ⟨[0, 1, 2, 3], rfl, rfl⟩, ?_⟩
            refine JT.only (i := 27) (d := some 8) rfl (MV.ofQV (v := .bool false) (QV.assign rfl)) rfl rfl rfl ?_
            rintro _ _ ⟨rfl, rfl⟩
            refine ⟨fun _ => ⟨[0, 1, 2, 3], rfl, rfl⟩, ?_⟩
            refine JT.nil ?_
            refine QJ.then_normal ?_
            refine JC.ret ?_
            obtain rfl := Option.some.inj hm
            exact QJ.body (vs := [.bool false]) (.inl rfl) rfl (ResVs.cons (ResV.tmp rfl) ResVs.nil) [] rfl rfl (.inr trivial) ⟨rfl, rfl⟩
        ·
          refine JT.only (i := 13) (d := some 36) rfl (MV.ofQV (v := .bool false) (QV.eq (QV.move rfl) (congrArg Value.bool (bfalse h25)))) rfl rfl rfl ?_
          rintro _ _ ⟨rfl, rfl⟩
          refine ⟨fun _ => ⟨[0, 1, 2, 3], rfl, rfl⟩, ?_⟩
          refine JT.skip (i := 14) (d := some 37) hsel rfl rfl rfl rfl [0, 1, 2, 3] rfl rfl ?_
          refine JT.skip (i := 15) (d := some 38) hsel rfl rfl rfl rfl [0, 1, 2, 3] rfl rfl ?_
          refine JT.skip (i := 16) (d := some 39) hsel rfl rfl rfl rfl [0, 1, 2, 3] rfl rfl ?_
          refine JT.skip (i := 18) (d := some 41) hsel rfl rfl rfl rfl [0, 1, 2, 3] rfl rfl ?_
          refine JT.skip (i := 19) (d := some 42) hsel rfl rfl rfl rfl [0, 1, 2, 3] rfl rfl ?_
          refine JT.skip (i := 20) (d := some 43) hsel rfl rfl rfl rfl [0, 1, 2, 3] rfl rfl ?_
          refine JT.skipO (i := 17) (d := some 40) rfl rfl rfl rfl [0, 1, 2, 3] rfl rfl ?_
          refine JT.skipO (i := 21) (d := some 44) rfl rfl rfl rfl [0, 1, 2, 3] rfl rfl ?_
          refine JT.skipO (i := 22) (d := some 45) rfl rfl rfl rfl [0, 1, 2, 3] rfl rfl ?_
          refine JT.only (i := 23) (d := some 46) rfl (MV.ofQV (v := .bool false) (QV.pickF rfl rfl)) rfl rfl rfl ?_
          rintro _ _ ⟨rfl, rfl⟩
          refine ⟨fun _ => ⟨[0, 1, 2, 3], rfl, rfl⟩, ?_⟩
          refine JT.only (i := 24) (d := some 47) rfl (MV.ofQV (v := .bool false) (QV.move rfl)) rfl rfl rfl ?_
          rintro _ _ ⟨rfl, rfl⟩
          refine ⟨fun _ => ⟨[0, 1, 2, 3], rfl, rfl⟩, ?_⟩
          refine JT.skipO (i := 25) (d := some 48) rfl rfl rfl rfl [0, 1, 2, 3] rfl rfl ?_
          refine JT.only (i := 26) (d := some 49) rfl (MV.ofQV (v := .bool false) (QV.pickF rfl rfl)) rfl rfl rfl ?_
          rintro _ _ ⟨rfl, rfl⟩
          refine ⟨fun _ => ⟨[0, 1, 2, 3], rfl, rfl⟩, ?_⟩
          refine JT.only (i := 27) (d := some 8) rfl (MV.ofQV (v := .bool false) (QV.assign rfl)) rfl rfl rfl ?_
          rintro _ _ ⟨rfl, rfl⟩
          refine ⟨fun _ => ⟨[0, 1, 2, 3], rfl, rfl⟩, ?_⟩
          refine JT.nil ?_
          refine QJ.then_normal ?_
          refine JC.ret ?_
          obtain rfl := Option.some.inj hm
          exact QJ.body (vs := [.bool false]) (.inl rfl) rfl (ResVs.cons (ResV.tmp rfl) ResVs.nil) [] rfl rfl (.inr trivial) ⟨rfl, rfl⟩

end Go.Proofs.Ytedokgdilpfomaa
