/- Written by gen.py: functions and their contracts. -/
import Derived.Test.YtgganckggdjpaaaImgFacts
namespace Go.Proofs.Ytgganckggdjpaaa
open Go Go.Eng Go.Proofs
set_option linter.unusedVariables false
set_option linter.unusedSimpArgs false
/-! ### 28: drogher/sector.New -/
noncomputable def F28.m (x1 : Int) (x2 : Int) : Option (Unit ⊕ Unit) :=
  (if x1 < (128 : Int) then some (.inl ()) else (if (4096 : Int) < x1 then some (.inl ()) else (if x2 < (1 : Int) then some (.inl ()) else (if (1048576 : Int) < x2 then some (.inl ()) else some (.inr ())))))
set_option maxRecDepth 100000 in
set_option maxHeartbeats 4000000 in
theorem F28.spec (x1 : Int) (x2 : Int) (r : (Unit ⊕ Unit)) (hm : F28.m x1 x2 = some r) :
    Ctr Try.prog false 28 [.int .i64 x1, .int .i64 x2] [] (fun v L' => match r with | (.inl r) => v = .tuple #[.pointer none, .int .i64 (1 : Int)] ∧ L' = [] | (.inr r) => ∃ (g3 : Nat), ∃ (g4 : Value), ∃ (g5 : Value), v = .tuple #[.pointer (some ⟨g3, 0, none⟩), .int .i64 (0 : Int)] ∧ L' = [Asr.blk g3 102 [Seg.c (.int .i64 x1), Seg.c (.int .i64 x2), Seg.c (g4), Seg.c (g5), Seg.c (.bool false), Seg.c (.int .i64 (0 : Int)), Seg.c (.bool false), Seg.c (.int .i64 (0 : Int)), Seg.c (.int .u64 (0 : Int))]]) := by
  refine Ctr.intro (n := 26) (env := [(0, .int .i64 x1), (1, .int .i64 x2)]) Try.func28 rfl rfl rfl rfl (fun c => ?_)
  unfold F28.m at hm
  refine JC.seq ?_
  refine JC.region ?_
  refine JL.val (v := .pointer none) (QV.assign rfl) rfl rfl rfl ?_
  refine JL.val (v := .int .i64 (0 : Int)) (QV.assign rfl) rfl rfl rfl ?_
  refine JL.nil ?_
  refine QJ.then_normal ?_
  refine JC.seq ?_
  refine JC.seq ?_
  refine JC.region ?_
  refine JL.val (v := .int .i64 x1) (QV.move rfl) rfl rfl rfl ?_
  refine JL.val (v := .bool (decide (x1 < (128 : Int)))) (QV.lss rfl rfl) rfl rfl rfl ?_
  rcases ite_inv hm with ⟨h6, hm⟩ | ⟨h6, hm⟩
  ·
    refine JL.val (v := .bool true) (QV.eq (QV.move rfl) (congrArg Value.bool (decide_eq_true h6))) rfl rfl rfl ?_
    refine JL.skip (d := some 9) rfl rfl rfl ?_
    refine JL.skip (d := some 10) rfl rfl rfl ?_
    refine JL.val (v := .bool true) (QV.pickT rfl rfl) rfl rfl rfl ?_
    refine JL.val (v := .bool true) (QV.move rfl) rfl rfl rfl ?_
    refine JL.skip (d := some 13) rfl rfl rfl ?_
    refine JL.skip (d := some 14) rfl rfl rfl ?_
    refine JL.val (v := .bool true) (QV.pickT rfl rfl) rfl rfl rfl ?_
    refine JL.val (v := .bool true) (QV.move rfl) rfl rfl rfl ?_
    refine JL.skip (d := some 17) rfl rfl rfl ?_
    refine JL.skip (d := some 18) rfl rfl rfl ?_
    refine JL.val (v := .bool true) (QV.pickT rfl rfl) rfl rfl rfl ?_
    refine JL.nil ?_
    refine QJ.then_normal ?_
    refine JC.condT rfl ?_
    refine JC.seq ?_
    refine JC.region ?_
    refine JL.val (v := .pointer none) (QV.assign rfl) rfl rfl rfl ?_
    refine JL.val (v := .int .i64 (1 : Int)) (QV.assign rfl) rfl rfl rfl ?_
    refine JL.nil ?_
    refine QJ.then_normal ?_
    refine JC.ret ?_
    refine QJ.then_ret ?_
    obtain rfl := Option.some.inj hm
    exact QJ.body (vs := [.pointer none, .int .i64 (1 : Int)]) (.inl rfl) rfl (ResVs.cons (ResV.tmp rfl) (ResVs.cons (ResV.tmp rfl) ResVs.nil)) [] rfl rfl (.inr trivial) ⟨rfl, rfl⟩
  ·
    refine JL.val (v := .bool false) (QV.eq (QV.move rfl) (congrArg Value.bool (decide_eq_false h6))) rfl rfl rfl ?_
    refine JL.val (v := .int .i64 x1) (QV.move rfl) rfl rfl rfl ?_
    refine JL.val (v := .bool (decide ((4096 : Int) < x1))) (QV.gtr rfl rfl) rfl rfl rfl ?_
    refine JL.val (v := .bool (decide ((4096 : Int) < x1))) (QV.pickF rfl rfl) rfl rfl rfl ?_
    rcases ite_inv hm with ⟨h7, hm⟩ | ⟨h7, hm⟩
    ·
      refine JL.val (v := .bool true) (QV.eq (QV.move rfl) (congrArg Value.bool (decide_eq_true h7))) rfl rfl rfl ?_
      refine JL.skip (d := some 13) rfl rfl rfl ?_
      refine JL.skip (d := some 14) rfl rfl rfl ?_
      refine JL.val (v := .bool true) (QV.pickT rfl rfl) rfl rfl rfl ?_
      refine JL.val (v := .bool true) (QV.move rfl) rfl rfl rfl ?_
      refine JL.skip (d := some 17) rfl rfl rfl ?_
      refine JL.skip (d := some 18) rfl rfl rfl ?_
      refine JL.val (v := .bool true) (QV.pickT rfl rfl) rfl rfl rfl ?_
      refine JL.nil ?_
      refine QJ.then_normal ?_
      refine JC.condT rfl ?_
      refine JC.seq ?_
      refine JC.region ?_
      refine JL.val (v := .pointer none) (QV.assign rfl) rfl rfl rfl ?_
      refine JL.val (v := .int .i64 (1 : Int)) (QV.assign rfl) rfl rfl rfl ?_
      refine JL.nil ?_
      refine QJ.then_normal ?_
      refine JC.ret ?_
      refine QJ.then_ret ?_
      obtain rfl := Option.some.inj hm
      exact QJ.body (vs := [.pointer none, .int .i64 (1 : Int)]) (.inl rfl) rfl (ResVs.cons (ResV.tmp rfl) (ResVs.cons (ResV.tmp rfl) ResVs.nil)) [] rfl rfl (.inr trivial) ⟨rfl, rfl⟩
    ·
      refine JL.val (v := .bool false) (QV.eq (QV.move rfl) (congrArg Value.bool (decide_eq_false h7))) rfl rfl rfl ?_
      refine JL.val (v := .int .i64 x2) (QV.move rfl) rfl rfl rfl ?_
      refine JL.val (v := .bool (decide (x2 < (1 : Int)))) (QV.lss rfl rfl) rfl rfl rfl ?_
      refine JL.val (v := .bool (decide (x2 < (1 : Int)))) (QV.pickF rfl rfl) rfl rfl rfl ?_
      rcases ite_inv hm with ⟨h8, hm⟩ | ⟨h8, hm⟩
      ·
        refine JL.val (v := .bool true) (QV.eq (QV.move rfl) (congrArg Value.bool (decide_eq_true h8))) rfl rfl rfl ?_
        refine JL.skip (d := some 17) rfl rfl rfl ?_
        refine JL.skip (d := some 18) rfl rfl rfl ?_
        refine JL.val (v := .bool true) (QV.pickT rfl rfl) rfl rfl rfl ?_
        refine JL.nil ?_
        refine QJ.then_normal ?_
        refine JC.condT rfl ?_
        refine JC.seq ?_
        refine JC.region ?_
        refine JL.val (v := .pointer none) (QV.assign rfl) rfl rfl rfl ?_
        refine JL.val (v := .int .i64 (1 : Int)) (QV.assign rfl) rfl rfl rfl ?_
        refine JL.nil ?_
        refine QJ.then_normal ?_
        refine JC.ret ?_
        refine QJ.then_ret ?_
        obtain rfl := Option.some.inj hm
        exact QJ.body (vs := [.pointer none, .int .i64 (1 : Int)]) (.inl rfl) rfl (ResVs.cons (ResV.tmp rfl) (ResVs.cons (ResV.tmp rfl) ResVs.nil)) [] rfl rfl (.inr trivial) ⟨rfl, rfl⟩
      ·
        refine JL.val (v := .bool false) (QV.eq (QV.move rfl) (congrArg Value.bool (decide_eq_false h8))) rfl rfl rfl ?_
        refine JL.val (v := .int .i64 x2) (QV.move rfl) rfl rfl rfl ?_
        refine JL.val (v := .bool (decide ((1048576 : Int) < x2))) (QV.gtr rfl rfl) rfl rfl rfl ?_
        refine JL.val (v := .bool (decide ((1048576 : Int) < x2))) (QV.pickF rfl rfl) rfl rfl rfl ?_
        refine JL.nil ?_
        refine QJ.then_normal ?_
        rcases ite_inv hm with ⟨h9, hm⟩ | ⟨h9, hm⟩
        ·
          refine JC.condT' rfl (decide_eq_true h9) ?_
          refine JC.seq ?_
          refine JC.region ?_
          refine JL.val (v := .pointer none) (QV.assign rfl) rfl rfl rfl ?_
          refine JL.val (v := .int .i64 (1 : Int)) (QV.assign rfl) rfl rfl rfl ?_
          refine JL.nil ?_
          refine QJ.then_normal ?_
          refine JC.ret ?_
          refine QJ.then_ret ?_
          obtain rfl := Option.some.inj hm
          exact QJ.body (vs := [.pointer none, .int .i64 (1 : Int)]) (.inl rfl) rfl (ResVs.cons (ResV.tmp rfl) (ResVs.cons (ResV.tmp rfl) ResVs.nil)) [] rfl rfl (.inr trivial) ⟨rfl, rfl⟩
        ·
          refine JC.condF' rfl (decide_eq_false h9) ?_
          refine JC.skip ?_
          refine QJ.then_normal ?_
          refine JC.seq ?_
          refine JC.region ?_
          refine JL.val (v := .int .i64 x1) (QV.move rfl) rfl rfl rfl ?_
          refine JL.val (v := .int .i64 x2) (QV.move rfl) rfl rfl rfl ?_
          refine JL.mv (d := some 22) (MV.makeMap .i64 .i64) rfl rfl rfl ?_
          rintro _ _ ⟨b10, rfl, rfl⟩
          refine JL.mv (d := some 23) (MV.makeMap .i64 .i64) rfl rfl rfl ?_
          rintro _ _ ⟨b11, rfl, rfl⟩
          refine JL.val (v := .agg #[.int .i64 x1, .int .i64 x2, .map (some b10), .map (some b11), .bool false, .int .i64 (0 : Int), .bool false, .int .i64 (0 : Int), .int .u64 (0 : Int)]) (QV.build (vals := [(0, .int .i64 x1), (1, .int .i64 x2), (2, .map (some b10)), (3, .map (some b11))]) rfl (by kernel_rfl)) rfl rfl rfl ?_
          refine JL.mv (d := some 25) (MV.box [Seg.c (.int .i64 x1), Seg.c (.int .i64 x2), Seg.c (.map (some b10)), Seg.c (.map (some b11)), Seg.c (.bool false), Seg.c (.int .i64 (0 : Int)), Seg.c (.bool false), Seg.c (.int .i64 (0 : Int)), Seg.c (.int .u64 (0 : Int))] rfl (fun w hs => rfl)) rfl rfl rfl ?_
          rintro _ _ ⟨b12, rfl, rfl⟩
          refine JL.val (v := .pointer (some ⟨b12, 0, none⟩)) (QV.assign rfl) rfl rfl rfl ?_
          refine JL.val (v := .int .i64 (0 : Int)) (QV.assign rfl) rfl rfl rfl ?_
          refine JL.nil ?_
          refine QJ.then_normal ?_
          refine JC.ret ?_
          obtain rfl := Option.some.inj hm
          exact QJ.body (vs := [.pointer (some ⟨b12, 0, none⟩), .int .i64 (0 : Int)]) (.inl rfl) rfl (ResVs.cons (ResV.tmp rfl) (ResVs.cons (ResV.tmp rfl) ResVs.nil)) [0] rfl rfl (.inr ⟨own_blk _ _ _, trivial⟩) ⟨b12, (.map (some b10)), (.map (some b11)), rfl, rfl⟩

/-! ### 84: drogher/part.in -/
noncomputable def F84.m (x1 : Int) (x2 : Int) (x3 : Int) : Option Bool :=
  (if x2 ≤ x1 then some (decide (x1 ≤ x3)) else some false)
set_option maxRecDepth 100000 in
set_option maxHeartbeats 4000000 in
theorem F84.spec (x1 : Int) (x2 : Int) (x3 : Int) (r : Bool) (hm : F84.m x1 x2 x3 = some r) :
    Ctr Try.prog false 84 [.int .i64 x1, .int .i64 x2, .int .i64 x3] [] (fun v L' => v = .bool r ∧ L' = []) := by
  refine Ctr.intro (n := 15) (env := [(0, .int .i64 x1), (1, .int .i64 x2), (2, .int .i64 x3)]) Try.func84 rfl rfl rfl rfl (fun c => ?_)
  unfold F84.m at hm
  refine JC.seq ?_
  refine JC.region ?_
  refine JL.val (v := .bool false) (QV.assign rfl) rfl rfl rfl ?_
  refine JL.nil ?_
  refine QJ.then_normal ?_
  refine JC.seq ?_
  refine JC.region ?_
  refine JL.val (v := .int .i64 x1) (QV.move rfl) rfl rfl rfl ?_
  refine JL.val (v := .int .i64 x2) (QV.move rfl) rfl rfl rfl ?_
  refine JL.val (v := .bool (decide (x2 ≤ x1))) (QV.geq rfl rfl) rfl rfl rfl ?_
  rcases ite_inv hm with ⟨h5, hm⟩ | ⟨h5, hm⟩
  ·
    refine JL.val (v := .bool true) (QV.eq (QV.move rfl) (congrArg Value.bool (decide_eq_true h5))) rfl rfl rfl ?_
    refine JL.val (v := .int .i64 x1) (QV.move rfl) rfl rfl rfl ?_
    refine JL.val (v := .int .i64 x3) (QV.move rfl) rfl rfl rfl ?_
    refine JL.val (v := .bool (decide (x1 ≤ x3))) (QV.leq rfl rfl) rfl rfl rfl ?_
    refine JL.val (v := .bool (decide (x1 ≤ x3))) (QV.pickT rfl rfl) rfl rfl rfl ?_
    refine JL.val (v := .bool (decide (x1 ≤ x3))) (QV.assign rfl) rfl rfl rfl ?_
    refine JL.nil ?_
    refine QJ.then_normal ?_
    refine JC.ret ?_
    obtain rfl := Option.some.inj hm
    exact QJ.body (vs := [.bool (decide (x1 ≤ x3))]) (.inl rfl) rfl (ResVs.cons (ResV.tmp rfl) ResVs.nil) [] rfl rfl (.inr trivial) ⟨rfl, rfl⟩
  ·
    refine JL.val (v := .bool false) (QV.eq (QV.move rfl) (congrArg Value.bool (decide_eq_false h5))) rfl rfl rfl ?_
    refine JL.skip (d := some 11) rfl rfl rfl ?_
    refine JL.skip (d := some 12) rfl rfl rfl ?_
    refine JL.skip (d := some 13) rfl rfl rfl ?_
    refine JL.val (v := .bool false) (QV.pickF rfl rfl) rfl rfl rfl ?_
    refine JL.val (v := .bool false) (QV.assign rfl) rfl rfl rfl ?_
    refine JL.nil ?_
    refine QJ.then_normal ?_
    refine JC.ret ?_
    obtain rfl := Option.some.inj hm
    exact QJ.body (vs := [.bool false]) (.inl rfl) rfl (ResVs.cons (ResV.tmp rfl) ResVs.nil) [] rfl rfl (.inr trivial) ⟨rfl, rfl⟩

/-! ### 85: drogher/part.plan$1 -/
noncomputable def F85.m (x1 : Int) (x3 : (Arr (Int × Int) 2)) (x4 : Int) (x5 : Int) (x6 : (Arr (Int × Int) 2)) (x7 : Int) : Option Int :=
  some (IntKind.wrap .i64 (x7 + x1))
set_option maxRecDepth 100000 in
set_option maxHeartbeats 4000000 in
theorem F85.spec (b2 : Nat) (x1 : Int) (x3 : (Arr (Int × Int) 2)) (x4 : Int) (x5 : Int) (x6 : (Arr (Int × Int) 2)) (x7 : Int) (r : Int) (hm : F85.m x1 x3 x4 x5 x6 x7 = some r) :
    Ctr Try.prog false 85 [.int .i64 x1, .pointer (some ⟨b2, 0, none⟩)] [Asr.blk b2 61 [Seg.of (Enc.arr 2 (Enc.pair (Enc.int .i64) (Enc.int .i64))) x3, Seg.c (.int .i64 x4), Seg.c (.int .i64 x5), Seg.of (Enc.arr 2 (Enc.pair (Enc.int .i64) (Enc.int .i64))) x6, Seg.c (.int .i64 x7)]] (fun v L' => v = .agg #[.int .i64 x7, .int .i64 x1] ∧ L' = [Asr.blk b2 61 [Seg.of (Enc.arr 2 (Enc.pair (Enc.int .i64) (Enc.int .i64))) x3, Seg.c (.int .i64 x4), Seg.c (.int .i64 x5), Seg.of (Enc.arr 2 (Enc.pair (Enc.int .i64) (Enc.int .i64))) x6, Seg.c (.int .i64 r)]]) := by
  refine Ctr.intro (n := 15) (env := [(0, .int .i64 x1), (1, .pointer (some ⟨b2, 0, none⟩))]) Try.func85 rfl rfl rfl rfl (fun c => ?_)
  unfold F85.m at hm
  refine JC.seq ?_
  refine JC.region ?_
  refine JL.mv (d := some 3) (MV.alloc [Seg.c (.int .i64 (0 : Int)), Seg.c (.int .i64 (0 : Int))] z_58 rfl) rfl rfl rfl ?_
  rintro _ _ ⟨b9, rfl, rfl⟩
  refine JL.nil ?_
  refine QJ.then_normal ?_
  refine JC.seq ?_
  refine JC.region ?_
  refine JL.val (v := .pointer (some ⟨b2, 10, none⟩)) (QV.fieldB fo_61_3 rfl rfl) rfl rfl rfl ?_
  refine JL.val (v := .int .i64 x7) (QV.load1 (ss := [Seg.of (Enc.arr 2 (Enc.pair (Enc.int .i64) (Enc.int .i64))) x3, Seg.c (.int .i64 x4), Seg.c (.int .i64 x5), Seg.of (Enc.arr 2 (Enc.pair (Enc.int .i64) (Enc.int .i64))) x6, Seg.c (.int .i64 x7)]) 1 4 rfl tk_3 rfl rfl rfl) rfl rfl rfl ?_
  refine JL.val (v := .int .i64 x1) (QV.move rfl) rfl rfl rfl ?_
  refine JL.val (v := .agg #[.int .i64 x7, .int .i64 x1]) (QV.build (vals := [(0, .int .i64 x7), (1, .int .i64 x1)]) rfl (by kernel_rfl)) rfl rfl rfl ?_
  refine JL.mv (d := some 4) (MV.alloc [Seg.c (.int .i64 (0 : Int)), Seg.c (.int .i64 (0 : Int))] z_58 rfl) rfl rfl rfl ?_
  rintro _ _ ⟨b10, rfl, rfl⟩
  refine JL.mv (d := none) (MV.store (ss := [Seg.c (.int .i64 (0 : Int)), Seg.c (.int .i64 (0 : Int))]) 0 0 2 [Seg.c (.int .i64 x7), Seg.c (.int .i64 x1)] rfl tk_58 rfl rfl rfl rfl (fun w hs => ⟨rfl, one_c rfl, one_c rfl, trivial⟩)) rfl rfl rfl ?_
  rintro _ _ ⟨rfl, rfl⟩
  refine JL.nil ?_
  refine QJ.then_normal ?_
  refine JC.seq ?_
  refine JC.region ?_
  refine JL.val (v := .pointer (some ⟨b2, 10, none⟩)) (QV.fieldB fo_61_3 rfl rfl) rfl rfl rfl ?_
  refine JL.val (v := .int .i64 x7) (QV.load1 (ss := [Seg.of (Enc.arr 2 (Enc.pair (Enc.int .i64) (Enc.int .i64))) x3, Seg.c (.int .i64 x4), Seg.c (.int .i64 x5), Seg.of (Enc.arr 2 (Enc.pair (Enc.int .i64) (Enc.int .i64))) x6, Seg.c (.int .i64 x7)]) 2 4 rfl tk_3 rfl rfl rfl) rfl rfl rfl ?_
  refine JL.val (v := .int .i64 x1) (QV.move rfl) rfl rfl rfl ?_
  refine JL.val (v := .int .i64 (IntKind.wrap .i64 (x7 + x1))) (QV.add rfl rfl) rfl rfl rfl ?_
  refine JL.val (v := .pointer (some ⟨b2, 10, none⟩)) (QV.fieldB fo_61_3 rfl rfl) rfl rfl rfl ?_
  refine JL.mv (d := none) (MV.store (ss := [Seg.of (Enc.arr 2 (Enc.pair (Enc.int .i64) (Enc.int .i64))) x3, Seg.c (.int .i64 x4), Seg.c (.int .i64 x5), Seg.of (Enc.arr 2 (Enc.pair (Enc.int .i64) (Enc.int .i64))) x6, Seg.c (.int .i64 x7)]) 2 4 1 [Seg.c (.int .i64 (IntKind.wrap .i64 (x7 + x1)))] rfl tk_3 rfl rfl rfl rfl (fun w hs => ⟨rfl, one_c rfl, trivial⟩)) rfl rfl rfl ?_
  rintro _ _ ⟨rfl, rfl⟩
  refine JL.nil ?_
  refine QJ.then_normal ?_
  refine JC.seq ?_
  refine JC.region ?_
  refine JL.val (v := .agg #[.int .i64 x7, .int .i64 x1]) (QV.eq (QV.loadN (ss := [Seg.c (.int .i64 x7), Seg.c (.int .i64 x1)]) 0 0 2 rfl tk_58 rfl rfl rfl rfl) rfl) rfl rfl rfl ?_
  refine JL.mv (d := none) (MV.store (ss := [Seg.c (.int .i64 (0 : Int)), Seg.c (.int .i64 (0 : Int))]) 1 0 2 [Seg.c (.int .i64 x7), Seg.c (.int .i64 x1)] rfl tk_58 rfl rfl rfl rfl (fun w hs => ⟨rfl, one_c rfl, one_c rfl, trivial⟩)) rfl rfl rfl ?_
  rintro _ _ ⟨rfl, rfl⟩
  refine JL.nil ?_
  refine QJ.then_normal ?_
  refine JC.ret ?_
  obtain rfl := Option.some.inj hm
  exact QJ.body (vs := [.agg #[.int .i64 x7, .int .i64 x1]]) (.inl rfl) rfl (ResVs.cons (ResV.cell (d := none) (ty := 0) (ps := "") (af := #[]) (g := none) rfl (QV.eq (QV.loadN (ss := [Seg.c (.int .i64 x7), Seg.c (.int .i64 x1)]) 1 0 2 rfl tk_58 rfl rfl rfl rfl) rfl)) ResVs.nil) [2] rfl rfl (.inr ⟨own_blk _ _ _, trivial⟩) ⟨rfl, rfl⟩

/-! ### 73: drogher/part.plan -/
noncomputable def F73.m (x1 : Int) (x2 : Int) (x3 : Int) : Option ((Arr (Int × Int) 2) × Int × Int × (Arr (Int × Int) 2) × Int) :=
  (if x1 ≠ 0 then ((F85.m ((1 : Int)) ((Arr.rep 2 ((0 : Int), (0 : Int)))) ((0 : Int)) ((0 : Int)) ((Arr.rep 2 ((0 : Int), (0 : Int)))) ((0 : Int))).bind fun y13 => ((F85.m ((1 : Int)) ((Arr.rep 2 ((0 : Int), (0 : Int)))) ((0 : Int)) ((0 : Int)) ((Arr.rep 2 ((0 : Int), (0 : Int)))) (y13)).bind fun y15 => ((F85.m ((IntKind.wrap .i64 (Int.tdiv x2 x1))) ((Arr.set (Arr.set (Arr.rep 2 ((0 : Int), (0 : Int))) (0 : Int) ((0 : Int), (1 : Int))) (1 : Int) (y13, (1 : Int)))) ((0 : Int)) ((0 : Int)) ((Arr.rep 2 ((0 : Int), (0 : Int)))) (y15)).bind fun y17 => ((F85.m ((IntKind.wrap .i64 ((IntKind.wrap .i64 (Int.tdiv x2 x1)) * x3))) ((Arr.set (Arr.set (Arr.rep 2 ((0 : Int), (0 : Int))) (0 : Int) ((0 : Int), (1 : Int))) (1 : Int) (y13, (1 : Int)))) (y15) ((IntKind.wrap .i64 (Int.tdiv x2 x1))) ((Arr.rep 2 ((0 : Int), (0 : Int)))) (y17)).bind fun y19 => ((F85.m ((IntKind.wrap .i64 ((IntKind.wrap .i64 (Int.tdiv x2 x1)) * x3))) ((Arr.set (Arr.set (Arr.rep 2 ((0 : Int), (0 : Int))) (0 : Int) ((0 : Int), (1 : Int))) (1 : Int) (y13, (1 : Int)))) (y15) ((IntKind.wrap .i64 (Int.tdiv x2 x1))) ((Arr.rep 2 ((0 : Int), (0 : Int)))) (y19)).bind fun y21 => some ((Arr.set (Arr.set (Arr.rep 2 ((0 : Int), (0 : Int))) (0 : Int) ((0 : Int), (1 : Int))) (1 : Int) (y13, (1 : Int))), y15, (IntKind.wrap .i64 (Int.tdiv x2 x1)), (Arr.set (Arr.set (Arr.rep 2 ((0 : Int), (0 : Int))) (0 : Int) (y17, (IntKind.wrap .i64 ((IntKind.wrap .i64 (Int.tdiv x2 x1)) * x3)))) (1 : Int) (y19, (IntKind.wrap .i64 ((IntKind.wrap .i64 (Int.tdiv x2 x1)) * x3)))), y21)))))) else none)
set_option maxRecDepth 100000 in
set_option maxHeartbeats 4000000 in
theorem F73.spec (x1 : Int) (x2 : Int) (x3 : Int) (r : ((Arr (Int × Int) 2) × Int × Int × (Arr (Int × Int) 2) × Int)) (hm : F73.m x1 x2 x3 = some r) :
    Ctr Try.prog false 73 [.agg #[.int .i64 x1, .int .i64 x2, .int .i64 x3]] [] (fun v L' => v = .agg (flat [Seg.of (Enc.arr 2 (Enc.pair (Enc.int .i64) (Enc.int .i64))) r.1, Seg.c (.int .i64 r.2.1), Seg.c (.int .i64 r.2.2.1), Seg.of (Enc.arr 2 (Enc.pair (Enc.int .i64) (Enc.int .i64))) r.2.2.2.1, Seg.c (.int .i64 r.2.2.2.2)]).toArray ∧ L' = []) := by
  refine Ctr.intro (n := 41) (env := [(0, .agg #[.int .i64 x1, .int .i64 x2, .int .i64 x3])]) Try.func73 rfl rfl rfl rfl (fun c => ?_)
  unfold F73.m at hm
  refine JC.seq ?_
  refine JC.region ?_
  refine JL.mv (d := some 1) (MV.box [Seg.c (.int .i64 x1), Seg.c (.int .i64 x2), Seg.c (.int .i64 x3)] rfl (fun w hs => rfl)) rfl rfl rfl ?_
  rintro _ _ ⟨b9, rfl, rfl⟩
  refine JL.mv (d := some 2) (MV.alloc [Seg.of (Enc.arr 2 (Enc.pair (Enc.int .i64) (Enc.int .i64))) (Arr.rep 2 ((0 : Int), (0 : Int))), Seg.c (.int .i64 (0 : Int)), Seg.c (.int .i64 (0 : Int)), Seg.of (Enc.arr 2 (Enc.pair (Enc.int .i64) (Enc.int .i64))) (Arr.rep 2 ((0 : Int), (0 : Int))), Seg.c (.int .i64 (0 : Int))] z_61 rfl) rfl rfl rfl ?_
  rintro _ _ ⟨b10, rfl, rfl⟩
  refine JL.nil ?_
  refine QJ.then_normal ?_
  refine JC.seq ?_
  refine JC.region ?_
  refine JL.mv (d := some 3) (MV.alloc [Seg.of (Enc.arr 2 (Enc.pair (Enc.int .i64) (Enc.int .i64))) (Arr.rep 2 ((0 : Int), (0 : Int))), Seg.c (.int .i64 (0 : Int)), Seg.c (.int .i64 (0 : Int)), Seg.of (Enc.arr 2 (Enc.pair (Enc.int .i64) (Enc.int .i64))) (Arr.rep 2 ((0 : Int), (0 : Int))), Seg.c (.int .i64 (0 : Int))] z_61 rfl) rfl rfl rfl ?_
  rintro _ _ ⟨b11, rfl, rfl⟩
  refine JL.nil ?_
  refine QJ.then_normal ?_
  refine JC.seq ?_
  refine JC.region ?_
  refine JL.val (v := .func (.func 85) #[] #[.pointer (some ⟨b11, 0, none⟩)]) (QV.makeFunc (vals := [.pointer (some ⟨b11, 0, none⟩)]) rfl) rfl rfl rfl ?_
  refine JL.val (v := .func (.func 85) #[] #[.pointer (some ⟨b11, 0, none⟩)]) (QV.assign rfl) rfl rfl rfl ?_
  refine JL.nil ?_
  refine QJ.then_normal ?_
  refine JC.seq ?_
  refine JC.region ?_
  refine JL.val (v := .pointer (some ⟨b9, 1, none⟩)) (QV.fieldB fo_47_1 rfl rfl) rfl rfl rfl ?_
  refine JL.val (v := .int .i64 x2) (QV.load1 (ss := [Seg.c (.int .i64 x1), Seg.c (.int .i64 x2), Seg.c (.int .i64 x3)]) 2 1 rfl tk_3 rfl rfl rfl) rfl rfl rfl ?_
  refine JL.val (v := .pointer (some ⟨b9, 0, none⟩)) (QV.fieldB fo_47_0 rfl rfl) rfl rfl rfl ?_
  refine JL.val (v := .int .i64 x1) (QV.load1 (ss := [Seg.c (.int .i64 x1), Seg.c (.int .i64 x2), Seg.c (.int .i64 x3)]) 2 0 rfl tk_3 rfl rfl rfl) rfl rfl rfl ?_
  obtain ⟨h12, hm⟩ := guard_inv hm
  refine JL.val (v := .int .i64 (IntKind.wrap .i64 (Int.tdiv x2 x1))) (QV.quo rfl rfl h12) rfl rfl rfl ?_
  refine JL.val (v := .int .i64 (IntKind.wrap .i64 (Int.tdiv x2 x1))) (QV.assign rfl) rfl rfl rfl ?_
  refine JL.nil ?_
  refine QJ.then_normal ?_
  refine JC.seq ?_
  refine JC.region ?_
  refine JL.val (v := .func (.func 85) #[] #[.pointer (some ⟨b11, 0, none⟩)]) (QV.move rfl) rfl rfl rfl ?_
  obtain ⟨y13, hc14, hm⟩ := bind_inv hm
  refine JL.mv (d := some 13) (MV.callV (vals := [.int .i64 (1 : Int)]) (cs := [.pointer (some ⟨b11, 0, none⟩)]) (Lo := [Asr.blk b11 61 [Seg.of (Enc.arr 2 (Enc.pair (Enc.int .i64) (Enc.int .i64))) (Arr.rep 2 ((0 : Int), (0 : Int))), Seg.c (.int .i64 (0 : Int)), Seg.c (.int .i64 (0 : Int)), Seg.of (Enc.arr 2 (Enc.pair (Enc.int .i64) (Enc.int .i64))) (Arr.rep 2 ((0 : Int), (0 : Int))), Seg.c (.int .i64 (0 : Int))]]) (Lr := [Asr.blk b10 61 [Seg.of (Enc.arr 2 (Enc.pair (Enc.int .i64) (Enc.int .i64))) (Arr.rep 2 ((0 : Int), (0 : Int))), Seg.c (.int .i64 (0 : Int)), Seg.c (.int .i64 (0 : Int)), Seg.of (Enc.arr 2 (Enc.pair (Enc.int .i64) (Enc.int .i64))) (Arr.rep 2 ((0 : Int), (0 : Int))), Seg.c (.int .i64 (0 : Int))], Asr.blk b9 47 [Seg.c (.int .i64 x1), Seg.c (.int .i64 x2), Seg.c (.int .i64 x3)]]) (F85.spec (b11) ((1 : Int)) ((Arr.rep 2 ((0 : Int), (0 : Int)))) ((0 : Int)) ((0 : Int)) ((Arr.rep 2 ((0 : Int), (0 : Int)))) ((0 : Int)) _ hc14) rfl rfl rfl Try.func85 rfl rfl rfl [0] [1, 2] rfl rfl rfl trivial) rfl rfl rfl ?_
  rintro _ _ ⟨_, ⟨rfl, rfl⟩, rfl⟩
  refine JL.val (v := .func (.func 85) #[] #[.pointer (some ⟨b11, 0, none⟩)]) (QV.move rfl) rfl rfl rfl ?_
  obtain ⟨y15, hc16, hm⟩ := bind_inv hm
  refine JL.mv (d := some 15) (MV.callV (vals := [.int .i64 (1 : Int)]) (cs := [.pointer (some ⟨b11, 0, none⟩)]) (Lo := [Asr.blk b11 61 [Seg.of (Enc.arr 2 (Enc.pair (Enc.int .i64) (Enc.int .i64))) (Arr.rep 2 ((0 : Int), (0 : Int))), Seg.c (.int .i64 (0 : Int)), Seg.c (.int .i64 (0 : Int)), Seg.of (Enc.arr 2 (Enc.pair (Enc.int .i64) (Enc.int .i64))) (Arr.rep 2 ((0 : Int), (0 : Int))), Seg.c (.int .i64 y13)]]) (Lr := [Asr.blk b10 61 [Seg.of (Enc.arr 2 (Enc.pair (Enc.int .i64) (Enc.int .i64))) (Arr.rep 2 ((0 : Int), (0 : Int))), Seg.c (.int .i64 (0 : Int)), Seg.c (.int .i64 (0 : Int)), Seg.of (Enc.arr 2 (Enc.pair (Enc.int .i64) (Enc.int .i64))) (Arr.rep 2 ((0 : Int), (0 : Int))), Seg.c (.int .i64 (0 : Int))], Asr.blk b9 47 [Seg.c (.int .i64 x1), Seg.c (.int .i64 x2), Seg.c (.int .i64 x3)]]) (F85.spec (b11) ((1 : Int)) ((Arr.rep 2 ((0 : Int), (0 : Int)))) ((0 : Int)) ((0 : Int)) ((Arr.rep 2 ((0 : Int), (0 : Int)))) (y13) _ hc16) rfl rfl rfl Try.func85 rfl rfl rfl [0] [1, 2] rfl rfl rfl trivial) rfl rfl rfl ?_
  rintro _ _ ⟨_, ⟨rfl, rfl⟩, rfl⟩
  refine JL.val (v := .pointer (some ⟨b11, 0, none⟩)) (QV.fieldB fo_61_0 rfl rfl) rfl rfl rfl ?_
  refine JL.val (v := .pointer (some ⟨b11, 0 + Int.toNat (0 : Int) * 2, none⟩)) (QV.indexB Try.underlying59 tk_58 rfl rfl (by decide)) rfl rfl rfl ?_
  refine JL.mv (d := none) (MV.storeAr (ss := [Seg.of (Enc.arr 2 (Enc.pair (Enc.int .i64) (Enc.int .i64))) (Arr.rep 2 ((0 : Int), (0 : Int))), Seg.c (.int .i64 (0 : Int)), Seg.c (.int .i64 (0 : Int)), Seg.of (Enc.arr 2 (Enc.pair (Enc.int .i64) (Enc.int .i64))) (Arr.rep 2 ((0 : Int), (0 : Int))), Seg.c (.int .i64 y15)]) 0 0 ((0 : Int), (1 : Int)) rfl tk_58 rfl rfl rfl rfl (by decide) rfl rfl) rfl rfl rfl ?_
  rintro _ _ ⟨rfl, rfl⟩
  refine JL.val (v := .pointer (some ⟨b11, 0, none⟩)) (QV.fieldB fo_61_0 rfl rfl) rfl rfl rfl ?_
  refine JL.val (v := .pointer (some ⟨b11, 0 + Int.toNat (1 : Int) * 2, none⟩)) (QV.indexB Try.underlying59 tk_58 rfl rfl (by decide)) rfl rfl rfl ?_
  refine JL.mv (d := none) (MV.storeAr (ss := [Seg.of (Enc.arr 2 (Enc.pair (Enc.int .i64) (Enc.int .i64))) (Arr.set (Arr.rep 2 ((0 : Int), (0 : Int))) (0 : Int) ((0 : Int), (1 : Int))), Seg.c (.int .i64 (0 : Int)), Seg.c (.int .i64 (0 : Int)), Seg.of (Enc.arr 2 (Enc.pair (Enc.int .i64) (Enc.int .i64))) (Arr.rep 2 ((0 : Int), (0 : Int))), Seg.c (.int .i64 y15)]) 0 0 (y13, (1 : Int)) rfl tk_58 rfl rfl rfl rfl (by decide) rfl rfl) rfl rfl rfl ?_
  rintro _ _ ⟨rfl, rfl⟩
  refine JL.nil ?_
  refine QJ.then_normal ?_
  refine JC.seq ?_
  refine JC.region ?_
  refine JL.val (v := .func (.func 85) #[] #[.pointer (some ⟨b11, 0, none⟩)]) (QV.move rfl) rfl rfl rfl ?_
  refine JL.val (v := .int .i64 (IntKind.wrap .i64 (Int.tdiv x2 x1))) (QV.move rfl) rfl rfl rfl ?_
  obtain ⟨y17, hc18, hm⟩ := bind_inv hm
  refine JL.mv (d := some 22) (MV.callV (vals := [.int .i64 (IntKind.wrap .i64 (Int.tdiv x2 x1))]) (cs := [.pointer (some ⟨b11, 0, none⟩)]) (Lo := [Asr.blk b11 61 [Seg.of (Enc.arr 2 (Enc.pair (Enc.int .i64) (Enc.int .i64))) (Arr.set (Arr.set (Arr.rep 2 ((0 : Int), (0 : Int))) (0 : Int) ((0 : Int), (1 : Int))) (1 : Int) (y13, (1 : Int))), Seg.c (.int .i64 (0 : Int)), Seg.c (.int .i64 (0 : Int)), Seg.of (Enc.arr 2 (Enc.pair (Enc.int .i64) (Enc.int .i64))) (Arr.rep 2 ((0 : Int), (0 : Int))), Seg.c (.int .i64 y15)]]) (Lr := [Asr.blk b10 61 [Seg.of (Enc.arr 2 (Enc.pair (Enc.int .i64) (Enc.int .i64))) (Arr.rep 2 ((0 : Int), (0 : Int))), Seg.c (.int .i64 (0 : Int)), Seg.c (.int .i64 (0 : Int)), Seg.of (Enc.arr 2 (Enc.pair (Enc.int .i64) (Enc.int .i64))) (Arr.rep 2 ((0 : Int), (0 : Int))), Seg.c (.int .i64 (0 : Int))], Asr.blk b9 47 [Seg.c (.int .i64 x1), Seg.c (.int .i64 x2), Seg.c (.int .i64 x3)]]) (F85.spec (b11) ((IntKind.wrap .i64 (Int.tdiv x2 x1))) ((Arr.set (Arr.set (Arr.rep 2 ((0 : Int), (0 : Int))) (0 : Int) ((0 : Int), (1 : Int))) (1 : Int) (y13, (1 : Int)))) ((0 : Int)) ((0 : Int)) ((Arr.rep 2 ((0 : Int), (0 : Int)))) (y15) _ hc18) rfl rfl rfl Try.func85 rfl rfl rfl [0] [1, 2] rfl rfl rfl trivial) rfl rfl rfl ?_
  rintro _ _ ⟨_, ⟨rfl, rfl⟩, rfl⟩
  refine JL.val (v := .pointer (some ⟨b11, 4, none⟩)) (QV.fieldB fo_61_1 rfl rfl) rfl rfl rfl ?_
  refine JL.mv (d := none) (MV.store (ss := [Seg.of (Enc.arr 2 (Enc.pair (Enc.int .i64) (Enc.int .i64))) (Arr.set (Arr.set (Arr.rep 2 ((0 : Int), (0 : Int))) (0 : Int) ((0 : Int), (1 : Int))) (1 : Int) (y13, (1 : Int))), Seg.c (.int .i64 (0 : Int)), Seg.c (.int .i64 (0 : Int)), Seg.of (Enc.arr 2 (Enc.pair (Enc.int .i64) (Enc.int .i64))) (Arr.rep 2 ((0 : Int), (0 : Int))), Seg.c (.int .i64 y17)]) 0 1 2 [Seg.c (.int .i64 y15), Seg.c (.int .i64 (IntKind.wrap .i64 (Int.tdiv x2 x1)))] rfl tk_58 rfl rfl rfl rfl (fun w hs => ⟨rfl, one_c rfl, one_c rfl, trivial⟩)) rfl rfl rfl ?_
  rintro _ _ ⟨rfl, rfl⟩
  refine JL.nil ?_
  refine QJ.then_normal ?_
  refine JC.seq ?_
  refine JC.regionT [Asr.blk b10 61 [Seg.of (Enc.arr 2 (Enc.pair (Enc.int .i64) (Enc.int .i64))) (Arr.rep 2 ((0 : Int), (0 : Int))), Seg.c (.int .i64 (0 : Int)), Seg.c (.int .i64 (0 : Int)), Seg.of (Enc.arr 2 (Enc.pair (Enc.int .i64) (Enc.int .i64))) (Arr.rep 2 ((0 : Int), (0 : Int))), Seg.c (.int .i64 (0 : Int))], Asr.blk b9 47 [Seg.c (.int .i64 x1), Seg.c (.int .i64 x2), Seg.c (.int .i64 x3)]] (fun t => false) [(0, true), (1, true), (2, true), (3, true), (4, true), (6, true), (7, true), (8, true), (9, true), (10, true), (12, true), (15, true), (5, false), (13, true), (11, false), (14, false), (16, false), (17, false)] (by kernel_rfl) (by kernel_rfl) (by kernel_rfl) rfl (fun hsel => ?_)
  refine JT.take (i := 0) (v := .func (.func 85) #[] #[.pointer (some ⟨b11, 0, none⟩)]) hsel rfl (QV.move rfl) rfl rfl rfl rfl [1, 2] rfl rfl ?_
  refine JT.take (i := 1) (v := .int .i64 (IntKind.wrap .i64 (Int.tdiv x2 x1))) hsel rfl (QV.move rfl) rfl rfl rfl rfl [1, 2] rfl rfl ?_
  refine JT.take (i := 2) (v := .pointer (some ⟨b9, 2, none⟩)) hsel rfl (QV.fieldB fo_47_2 rfl rfl) rfl rfl rfl rfl [1, 2] rfl rfl ?_
  refine JT.take (i := 3) (v := .int .i64 x3) hsel rfl (QV.load1 (ss := [Seg.c (.int .i64 x1), Seg.c (.int .i64 x2), Seg.c (.int .i64 x3)]) 1 2 rfl tk_3 rfl rfl rfl) rfl rfl rfl rfl [1, 2] rfl rfl ?_
  refine JT.take (i := 4) (v := .int .i64 (IntKind.wrap .i64 ((IntKind.wrap .i64 (Int.tdiv x2 x1)) * x3))) hsel rfl (QV.mul rfl rfl) rfl rfl rfl rfl [1, 2] rfl rfl ?_
  refine JT.take (i := 6) (v := .func (.func 85) #[] #[.pointer (some ⟨b11, 0, none⟩)]) hsel rfl (QV.move rfl) rfl rfl rfl rfl [1, 2] rfl rfl ?_
  refine JT.take (i := 7) (v := .int .i64 (IntKind.wrap .i64 (Int.tdiv x2 x1))) hsel rfl (QV.move rfl) rfl rfl rfl rfl [1, 2] rfl rfl ?_
  refine JT.take (i := 8) (v := .pointer (some ⟨b9, 2, none⟩)) hsel rfl (QV.fieldB fo_47_2 rfl rfl) rfl rfl rfl rfl [1, 2] rfl rfl ?_
  refine JT.take (i := 9) (v := .int .i64 x3) hsel rfl (QV.load1 (ss := [Seg.c (.int .i64 x1), Seg.c (.int .i64 x2), Seg.c (.int .i64 x3)]) 1 2 rfl tk_3 rfl rfl rfl) rfl rfl rfl rfl [1, 2] rfl rfl ?_
  refine JT.take (i := 10) (v := .int .i64 (IntKind.wrap .i64 ((IntKind.wrap .i64 (Int.tdiv x2 x1)) * x3))) hsel rfl (QV.mul rfl rfl) rfl rfl rfl rfl [1, 2] rfl rfl ?_
  refine JT.take (i := 12) (v := .pointer (some ⟨b11, 6, none⟩)) hsel rfl (QV.fieldB fo_61_2 rfl rfl) rfl rfl rfl rfl [1, 2] rfl rfl ?_
  refine JT.take (i := 15) (v := .pointer (some ⟨b11, 6, none⟩)) hsel rfl (QV.fieldB fo_61_2 rfl rfl) rfl rfl rfl rfl [1, 2] rfl rfl ?_
  obtain ⟨y19, hc20, hm⟩ := bind_inv hm
  refine JT.only (i := 5) (d := some 29) rfl (MV.callV (vals := [.int .i64 (IntKind.wrap .i64 ((IntKind.wrap .i64 (Int.tdiv x2 x1)) * x3))]) (cs := [.pointer (some ⟨b11, 0, none⟩)]) (Lo := [Asr.blk b11 61 [Seg.of (Enc.arr 2 (Enc.pair (Enc.int .i64) (Enc.int .i64))) (Arr.set (Arr.set (Arr.rep 2 ((0 : Int), (0 : Int))) (0 : Int) ((0 : Int), (1 : Int))) (1 : Int) (y13, (1 : Int))), Seg.c (.int .i64 y15), Seg.c (.int .i64 (IntKind.wrap .i64 (Int.tdiv x2 x1))), Seg.of (Enc.arr 2 (Enc.pair (Enc.int .i64) (Enc.int .i64))) (Arr.rep 2 ((0 : Int), (0 : Int))), Seg.c (.int .i64 y17)]]) (Lr := [Asr.blk b10 61 [Seg.of (Enc.arr 2 (Enc.pair (Enc.int .i64) (Enc.int .i64))) (Arr.rep 2 ((0 : Int), (0 : Int))), Seg.c (.int .i64 (0 : Int)), Seg.c (.int .i64 (0 : Int)), Seg.of (Enc.arr 2 (Enc.pair (Enc.int .i64) (Enc.int .i64))) (Arr.rep 2 ((0 : Int), (0 : Int))), Seg.c (.int .i64 (0 : Int))], Asr.blk b9 47 [Seg.c (.int .i64 x1), Seg.c (.int .i64 x2), Seg.c (.int .i64 x3)]]) (F85.spec (b11) ((IntKind.wrap .i64 ((IntKind.wrap .i64 (Int.tdiv x2 x1)) * x3))) ((Arr.set (Arr.set (Arr.rep 2 ((0 : Int), (0 : Int))) (0 : Int) ((0 : Int), (1 : Int))) (1 : Int) (y13, (1 : Int)))) (y15) ((IntKind.wrap .i64 (Int.tdiv x2 x1))) ((Arr.rep 2 ((0 : Int), (0 : Int)))) (y17) _ hc20) rfl rfl rfl Try.func85 rfl rfl rfl [0] [1, 2] rfl rfl rfl trivial) rfl rfl rfl ?_
  rintro _ _ ⟨_, ⟨rfl, rfl⟩, rfl⟩
  refine ⟨fun _ => ⟨[1, 2], rfl, rfl⟩, ?_⟩
  refine JT.take (i := 13) (v := .pointer (some ⟨b11, 6 + Int.toNat (0 : Int) * 2, none⟩)) hsel rfl (QV.indexB Try.underlying59 tk_58 rfl rfl (by decide)) rfl rfl rfl rfl [1, 2] rfl rfl ?_
  obtain ⟨y21, hc22, hm⟩ := bind_inv hm
  refine JT.only (i := 11) (d := some 35) rfl (MV.callV (vals := [.int .i64 (IntKind.wrap .i64 ((IntKind.wrap .i64 (Int.tdiv x2 x1)) * x3))]) (cs := [.pointer (some ⟨b11, 0, none⟩)]) (Lo := [Asr.blk b11 61 [Seg.of (Enc.arr 2 (Enc.pair (Enc.int .i64) (Enc.int .i64))) (Arr.set (Arr.set (Arr.rep 2 ((0 : Int), (0 : Int))) (0 : Int) ((0 : Int), (1 : Int))) (1 : Int) (y13, (1 : Int))), Seg.c (.int .i64 y15), Seg.c (.int .i64 (IntKind.wrap .i64 (Int.tdiv x2 x1))), Seg.of (Enc.arr 2 (Enc.pair (Enc.int .i64) (Enc.int .i64))) (Arr.rep 2 ((0 : Int), (0 : Int))), Seg.c (.int .i64 y19)]]) (Lr := [Asr.blk b10 61 [Seg.of (Enc.arr 2 (Enc.pair (Enc.int .i64) (Enc.int .i64))) (Arr.rep 2 ((0 : Int), (0 : Int))), Seg.c (.int .i64 (0 : Int)), Seg.c (.int .i64 (0 : Int)), Seg.of (Enc.arr 2 (Enc.pair (Enc.int .i64) (Enc.int .i64))) (Arr.rep 2 ((0 : Int), (0 : Int))), Seg.c (.int .i64 (0 : Int))], Asr.blk b9 47 [Seg.c (.int .i64 x1), Seg.c (.int .i64 x2), Seg.c (.int .i64 x3)]]) (F85.spec (b11) ((IntKind.wrap .i64 ((IntKind.wrap .i64 (Int.tdiv x2 x1)) * x3))) ((Arr.set (Arr.set (Arr.rep 2 ((0 : Int), (0 : Int))) (0 : Int) ((0 : Int), (1 : Int))) (1 : Int) (y13, (1 : Int)))) (y15) ((IntKind.wrap .i64 (Int.tdiv x2 x1))) ((Arr.rep 2 ((0 : Int), (0 : Int)))) (y19) _ hc22) rfl rfl rfl Try.func85 rfl rfl rfl [0] [1, 2] rfl rfl rfl trivial) rfl rfl rfl ?_
  rintro _ _ ⟨_, ⟨rfl, rfl⟩, rfl⟩
  refine ⟨fun _ => ⟨[1, 2], rfl, rfl⟩, ?_⟩
  refine JT.only (i := 14) (d := none) rfl (MV.storeAr (ss := [Seg.of (Enc.arr 2 (Enc.pair (Enc.int .i64) (Enc.int .i64))) (Arr.set (Arr.set (Arr.rep 2 ((0 : Int), (0 : Int))) (0 : Int) ((0 : Int), (1 : Int))) (1 : Int) (y13, (1 : Int))), Seg.c (.int .i64 y15), Seg.c (.int .i64 (IntKind.wrap .i64 (Int.tdiv x2 x1))), Seg.of (Enc.arr 2 (Enc.pair (Enc.int .i64) (Enc.int .i64))) (Arr.rep 2 ((0 : Int), (0 : Int))), Seg.c (.int .i64 y21)]) 0 3 (y17, (IntKind.wrap .i64 ((IntKind.wrap .i64 (Int.tdiv x2 x1)) * x3))) rfl tk_58 rfl rfl rfl rfl (by decide) rfl rfl) rfl rfl rfl ?_
  rintro _ _ ⟨rfl, rfl⟩
  refine ⟨fun _ => ⟨[1, 2], rfl, rfl⟩, ?_⟩
  refine JT.only (i := 16) (d := some 39) rfl (MV.ofQV (v := .pointer (some ⟨b11, 6 + Int.toNat (1 : Int) * 2, none⟩)) (QV.indexB Try.underlying59 tk_58 rfl rfl (by decide))) rfl rfl rfl ?_
  rintro _ _ ⟨rfl, rfl⟩
  refine ⟨fun _ => ⟨[1, 2], rfl, rfl⟩, ?_⟩
  refine JT.only (i := 17) (d := none) rfl (MV.storeAr (ss := [Seg.of (Enc.arr 2 (Enc.pair (Enc.int .i64) (Enc.int .i64))) (Arr.set (Arr.set (Arr.rep 2 ((0 : Int), (0 : Int))) (0 : Int) ((0 : Int), (1 : Int))) (1 : Int) (y13, (1 : Int))), Seg.c (.int .i64 y15), Seg.c (.int .i64 (IntKind.wrap .i64 (Int.tdiv x2 x1))), Seg.of (Enc.arr 2 (Enc.pair (Enc.int .i64) (Enc.int .i64))) (Arr.set (Arr.rep 2 ((0 : Int), (0 : Int))) (0 : Int) (y17, (IntKind.wrap .i64 ((IntKind.wrap .i64 (Int.tdiv x2 x1)) * x3)))), Seg.c (.int .i64 y21)]) 0 3 (y19, (IntKind.wrap .i64 ((IntKind.wrap .i64 (Int.tdiv x2 x1)) * x3))) rfl tk_58 rfl rfl rfl rfl (by decide) rfl rfl) rfl rfl rfl ?_
  rintro _ _ ⟨rfl, rfl⟩
  refine ⟨fun _ => ⟨[1, 2], rfl, rfl⟩, ?_⟩
  refine JT.grow [Asr.blk b11 61 [Seg.of (Enc.arr 2 (Enc.pair (Enc.int .i64) (Enc.int .i64))) (Arr.set (Arr.set (Arr.rep 2 ((0 : Int), (0 : Int))) (0 : Int) ((0 : Int), (1 : Int))) (1 : Int) (y13, (1 : Int))), Seg.c (.int .i64 y15), Seg.c (.int .i64 (IntKind.wrap .i64 (Int.tdiv x2 x1))), Seg.of (Enc.arr 2 (Enc.pair (Enc.int .i64) (Enc.int .i64))) (Arr.set (Arr.set (Arr.rep 2 ((0 : Int), (0 : Int))) (0 : Int) (y17, (IntKind.wrap .i64 ((IntKind.wrap .i64 (Int.tdiv x2 x1)) * x3)))) (1 : Int) (y19, (IntKind.wrap .i64 ((IntKind.wrap .i64 (Int.tdiv x2 x1)) * x3)))), Seg.c (.int .i64 y21)], Asr.blk b10 61 [Seg.of (Enc.arr 2 (Enc.pair (Enc.int .i64) (Enc.int .i64))) (Arr.rep 2 ((0 : Int), (0 : Int))), Seg.c (.int .i64 (0 : Int)), Seg.c (.int .i64 (0 : Int)), Seg.of (Enc.arr 2 (Enc.pair (Enc.int .i64) (Enc.int .i64))) (Arr.rep 2 ((0 : Int), (0 : Int))), Seg.c (.int .i64 (0 : Int))], Asr.blk b9 47 [Seg.c (.int .i64 x1), Seg.c (.int .i64 x2), Seg.c (.int .i64 x3)]] [1, 2] rfl rfl ?_
  refine JT.nil ?_
  refine QJ.then_normal ?_
  refine JC.seq ?_
  refine JC.region ?_
  refine JL.val (v := .agg (flat [Seg.of (Enc.arr 2 (Enc.pair (Enc.int .i64) (Enc.int .i64))) (Arr.set (Arr.set (Arr.rep 2 ((0 : Int), (0 : Int))) (0 : Int) ((0 : Int), (1 : Int))) (1 : Int) (y13, (1 : Int))), Seg.c (.int .i64 y15), Seg.c (.int .i64 (IntKind.wrap .i64 (Int.tdiv x2 x1))), Seg.of (Enc.arr 2 (Enc.pair (Enc.int .i64) (Enc.int .i64))) (Arr.set (Arr.set (Arr.rep 2 ((0 : Int), (0 : Int))) (0 : Int) (y17, (IntKind.wrap .i64 ((IntKind.wrap .i64 (Int.tdiv x2 x1)) * x3)))) (1 : Int) (y19, (IntKind.wrap .i64 ((IntKind.wrap .i64 (Int.tdiv x2 x1)) * x3)))), Seg.c (.int .i64 y21)]).toArray) (QV.eq (QV.loadN (ss := [Seg.of (Enc.arr 2 (Enc.pair (Enc.int .i64) (Enc.int .i64))) (Arr.set (Arr.set (Arr.rep 2 ((0 : Int), (0 : Int))) (0 : Int) ((0 : Int), (1 : Int))) (1 : Int) (y13, (1 : Int))), Seg.c (.int .i64 y15), Seg.c (.int .i64 (IntKind.wrap .i64 (Int.tdiv x2 x1))), Seg.of (Enc.arr 2 (Enc.pair (Enc.int .i64) (Enc.int .i64))) (Arr.set (Arr.set (Arr.rep 2 ((0 : Int), (0 : Int))) (0 : Int) (y17, (IntKind.wrap .i64 ((IntKind.wrap .i64 (Int.tdiv x2 x1)) * x3)))) (1 : Int) (y19, (IntKind.wrap .i64 ((IntKind.wrap .i64 (Int.tdiv x2 x1)) * x3)))), Seg.c (.int .i64 y21)]) 0 0 5 rfl tk_61 rfl rfl rfl rfl) rfl) rfl rfl rfl ?_
  refine JL.mv (d := none) (MV.store (ss := [Seg.of (Enc.arr 2 (Enc.pair (Enc.int .i64) (Enc.int .i64))) (Arr.rep 2 ((0 : Int), (0 : Int))), Seg.c (.int .i64 (0 : Int)), Seg.c (.int .i64 (0 : Int)), Seg.of (Enc.arr 2 (Enc.pair (Enc.int .i64) (Enc.int .i64))) (Arr.rep 2 ((0 : Int), (0 : Int))), Seg.c (.int .i64 (0 : Int))]) 1 0 5 [Seg.of (Enc.arr 2 (Enc.pair (Enc.int .i64) (Enc.int .i64))) (Arr.set (Arr.set (Arr.rep 2 ((0 : Int), (0 : Int))) (0 : Int) ((0 : Int), (1 : Int))) (1 : Int) (y13, (1 : Int))), Seg.c (.int .i64 y15), Seg.c (.int .i64 (IntKind.wrap .i64 (Int.tdiv x2 x1))), Seg.of (Enc.arr 2 (Enc.pair (Enc.int .i64) (Enc.int .i64))) (Arr.set (Arr.set (Arr.rep 2 ((0 : Int), (0 : Int))) (0 : Int) (y17, (IntKind.wrap .i64 ((IntKind.wrap .i64 (Int.tdiv x2 x1)) * x3)))) (1 : Int) (y19, (IntKind.wrap .i64 ((IntKind.wrap .i64 (Int.tdiv x2 x1)) * x3)))), Seg.c (.int .i64 y21)] rfl tk_61 rfl rfl rfl rfl (fun w hs => ⟨rfl, one_of _ _, one_c rfl, one_c rfl, one_of _ _, one_c rfl, trivial⟩)) rfl rfl rfl ?_
  rintro _ _ ⟨rfl, rfl⟩
  refine JL.nil ?_
  refine QJ.then_normal ?_
  refine JC.ret ?_
  obtain rfl := Option.some.inj hm
  exact QJ.body (vs := [.agg (flat [Seg.of (Enc.arr 2 (Enc.pair (Enc.int .i64) (Enc.int .i64))) (Arr.set (Arr.set (Arr.rep 2 ((0 : Int), (0 : Int))) (0 : Int) ((0 : Int), (1 : Int))) (1 : Int) (y13, (1 : Int))), Seg.c (.int .i64 y15), Seg.c (.int .i64 (IntKind.wrap .i64 (Int.tdiv x2 x1))), Seg.of (Enc.arr 2 (Enc.pair (Enc.int .i64) (Enc.int .i64))) (Arr.set (Arr.set (Arr.rep 2 ((0 : Int), (0 : Int))) (0 : Int) (y17, (IntKind.wrap .i64 ((IntKind.wrap .i64 (Int.tdiv x2 x1)) * x3)))) (1 : Int) (y19, (IntKind.wrap .i64 ((IntKind.wrap .i64 (Int.tdiv x2 x1)) * x3)))), Seg.c (.int .i64 y21)]).toArray]) (.inl rfl) rfl (ResVs.cons (ResV.cell (d := none) (ty := 0) (ps := "") (af := #[]) (g := none) rfl (QV.eq (QV.loadN (ss := [Seg.of (Enc.arr 2 (Enc.pair (Enc.int .i64) (Enc.int .i64))) (Arr.set (Arr.set (Arr.rep 2 ((0 : Int), (0 : Int))) (0 : Int) ((0 : Int), (1 : Int))) (1 : Int) (y13, (1 : Int))), Seg.c (.int .i64 y15), Seg.c (.int .i64 (IntKind.wrap .i64 (Int.tdiv x2 x1))), Seg.of (Enc.arr 2 (Enc.pair (Enc.int .i64) (Enc.int .i64))) (Arr.set (Arr.set (Arr.rep 2 ((0 : Int), (0 : Int))) (0 : Int) (y17, (IntKind.wrap .i64 ((IntKind.wrap .i64 (Int.tdiv x2 x1)) * x3)))) (1 : Int) (y19, (IntKind.wrap .i64 ((IntKind.wrap .i64 (Int.tdiv x2 x1)) * x3)))), Seg.c (.int .i64 y21)]) 1 0 5 rfl tk_61 rfl rfl rfl rfl) rfl)) ResVs.nil) [] rfl rfl (.inr trivial) ⟨rfl, rfl⟩

/-! ### 72: drogher/part.May -/
noncomputable def F72.m (x1 : Int) (x2 : Int) (x3 : Int) : Option Bool :=
  ((F84.m (x1) ((128 : Int)) ((4096 : Int))).bind fun y6 => (if y6 = true then ((F84.m (x2) ((128 : Int)) ((4096 : Int))).bind fun y9 => (if y9 = true then ((F84.m (x3) ((1 : Int)) ((4096 : Int))).bind fun y12 => (if y12 = true then (if x1 ≠ 0 then (if (Int.tmod x2 x1) = (0 : Int) then ((F73.m (x1) (x2) (x3)).bind fun y17 => some (decide (y17.2.2.2.2 ≤ (1048576 : Int)))) else some false) else none) else some false)) else some false)) else some false))
set_option maxRecDepth 100000 in
set_option maxHeartbeats 4000000 in
theorem F72.spec (x1 : Int) (x2 : Int) (x3 : Int) (r : Bool) (hm : F72.m x1 x2 x3 = some r) :
    Ctr Try.prog false 72 [.agg #[.int .i64 x1, .int .i64 x2, .int .i64 x3]] [] (fun v L' => v = .bool r ∧ L' = []) := by
  refine Ctr.intro (n := 31) (env := [(0, .agg #[.int .i64 x1, .int .i64 x2, .int .i64 x3])]) Try.func72 rfl rfl rfl rfl (fun c => ?_)
  unfold F72.m at hm
  refine JC.seq ?_
  refine JC.region ?_
  refine JL.mv (d := some 1) (MV.box [Seg.c (.int .i64 x1), Seg.c (.int .i64 x2), Seg.c (.int .i64 x3)] rfl (fun w hs => rfl)) rfl rfl rfl ?_
  rintro _ _ ⟨b5, rfl, rfl⟩
  refine JL.val (v := .bool false) (QV.assign rfl) rfl rfl rfl ?_
  refine JL.nil ?_
  refine QJ.then_normal ?_
  refine JC.seq ?_
  refine JC.seq ?_
  refine JC.region ?_
  refine JL.val (v := .pointer (some ⟨b5, 0, none⟩)) (QV.fieldB fo_47_0 rfl rfl) rfl rfl rfl ?_
  refine JL.val (v := .int .i64 x1) (QV.load1 (ss := [Seg.c (.int .i64 x1), Seg.c (.int .i64 x2), Seg.c (.int .i64 x3)]) 0 0 rfl tk_3 rfl rfl rfl) rfl rfl rfl ?_
  obtain ⟨y6, hc7, hm⟩ := bind_inv hm
  refine JL.mv (d := some 5) (MV.call (Lo := []) (Lr := [Asr.blk b5 47 [Seg.c (.int .i64 x1), Seg.c (.int .i64 x2), Seg.c (.int .i64 x3)]]) (F84.spec (x1) ((128 : Int)) ((4096 : Int)) _ hc7) rfl Try.func84 rfl rfl rfl [] [0] rfl rfl rfl trivial) rfl rfl rfl ?_
  rintro _ _ ⟨_, ⟨rfl, rfl⟩, rfl⟩
  refine JL.val (v := .bool (!y6)) (QV.not rfl) rfl rfl rfl ?_
  rcases ite_inv hm with ⟨h8, hm⟩ | ⟨h8, hm⟩
  ·
    refine JL.val (v := .bool false) (QV.eq (QV.move rfl) (congrArg Value.bool (congrArg Bool.not h8))) rfl rfl rfl ?_
    refine JL.val (v := .pointer (some ⟨b5, 1, none⟩)) (QV.fieldB fo_47_1 rfl rfl) rfl rfl rfl ?_
    refine JL.val (v := .int .i64 x2) (QV.load1 (ss := [Seg.c (.int .i64 x1), Seg.c (.int .i64 x2), Seg.c (.int .i64 x3)]) 0 1 rfl tk_3 rfl rfl rfl) rfl rfl rfl ?_
    obtain ⟨y9, hc10, hm⟩ := bind_inv hm
    refine JL.mv (d := some 10) (MV.call (Lo := []) (Lr := [Asr.blk b5 47 [Seg.c (.int .i64 x1), Seg.c (.int .i64 x2), Seg.c (.int .i64 x3)]]) (F84.spec (x2) ((128 : Int)) ((4096 : Int)) _ hc10) rfl Try.func84 rfl rfl rfl [] [0] rfl rfl rfl trivial) rfl rfl rfl ?_
    rintro _ _ ⟨_, ⟨rfl, rfl⟩, rfl⟩
    refine JL.val (v := .bool (!y9)) (QV.not rfl) rfl rfl rfl ?_
    refine JL.val (v := .bool (!y9)) (QV.pickF rfl rfl) rfl rfl rfl ?_
    rcases ite_inv hm with ⟨h11, hm⟩ | ⟨h11, hm⟩
    ·
      refine JL.val (v := .bool false) (QV.eq (QV.move rfl) (congrArg Value.bool (congrArg Bool.not h11))) rfl rfl rfl ?_
      refine JL.val (v := .pointer (some ⟨b5, 2, none⟩)) (QV.fieldB fo_47_2 rfl rfl) rfl rfl rfl ?_
      refine JL.val (v := .int .i64 x3) (QV.load1 (ss := [Seg.c (.int .i64 x1), Seg.c (.int .i64 x2), Seg.c (.int .i64 x3)]) 0 2 rfl tk_3 rfl rfl rfl) rfl rfl rfl ?_
      obtain ⟨y12, hc13, hm⟩ := bind_inv hm
      refine JL.mv (d := some 16) (MV.call (Lo := []) (Lr := [Asr.blk b5 47 [Seg.c (.int .i64 x1), Seg.c (.int .i64 x2), Seg.c (.int .i64 x3)]]) (F84.spec (x3) ((1 : Int)) ((4096 : Int)) _ hc13) rfl Try.func84 rfl rfl rfl [] [0] rfl rfl rfl trivial) rfl rfl rfl ?_
      rintro _ _ ⟨_, ⟨rfl, rfl⟩, rfl⟩
      refine JL.val (v := .bool (!y12)) (QV.not rfl) rfl rfl rfl ?_
      refine JL.val (v := .bool (!y12)) (QV.pickF rfl rfl) rfl rfl rfl ?_
      rcases ite_inv hm with ⟨h14, hm⟩ | ⟨h14, hm⟩
      ·
        refine JL.val (v := .bool false) (QV.eq (QV.move rfl) (congrArg Value.bool (congrArg Bool.not h14))) rfl rfl rfl ?_
        refine JL.val (v := .pointer (some ⟨b5, 1, none⟩)) (QV.fieldB fo_47_1 rfl rfl) rfl rfl rfl ?_
        refine JL.val (v := .int .i64 x2) (QV.load1 (ss := [Seg.c (.int .i64 x1), Seg.c (.int .i64 x2), Seg.c (.int .i64 x3)]) 0 1 rfl tk_3 rfl rfl rfl) rfl rfl rfl ?_
        refine JL.val (v := .pointer (some ⟨b5, 0, none⟩)) (QV.fieldB fo_47_0 rfl rfl) rfl rfl rfl ?_
        refine JL.val (v := .int .i64 x1) (QV.load1 (ss := [Seg.c (.int .i64 x1), Seg.c (.int .i64 x2), Seg.c (.int .i64 x3)]) 0 0 rfl tk_3 rfl rfl rfl) rfl rfl rfl ?_
        obtain ⟨h15, hm⟩ := guard_inv hm
        refine JL.val (v := .int .i64 (Int.tmod x2 x1)) (QV.rem rfl rfl h15) rfl rfl rfl ?_
        refine JL.val (v := .bool (!(decide ((Int.tmod x2 x1) = (0 : Int))))) (QV.neq rfl rfl) rfl rfl rfl ?_
        refine JL.val (v := .bool (!(decide ((Int.tmod x2 x1) = (0 : Int))))) (QV.pickF rfl rfl) rfl rfl rfl ?_
        refine JL.nil ?_
        refine QJ.then_normal ?_
        rcases ite_inv hm with ⟨h16, hm⟩ | ⟨h16, hm⟩
        ·
          refine JC.condF' rfl (congrArg Bool.not (decide_eq_true h16)) ?_
          refine JC.skip ?_
          refine QJ.then_normal ?_
          refine JC.seq ?_
          refine JC.region ?_
          refine JL.val (v := .agg #[.int .i64 x1, .int .i64 x2, .int .i64 x3]) (QV.eq (QV.loadN (ss := [Seg.c (.int .i64 x1), Seg.c (.int .i64 x2), Seg.c (.int .i64 x3)]) 0 0 3 rfl tk_47 rfl rfl rfl rfl) rfl) rfl rfl rfl ?_
          obtain ⟨y17, hc18, hm⟩ := bind_inv hm
          refine JL.mv (d := some 28) (MV.call (Lo := []) (Lr := [Asr.blk b5 47 [Seg.c (.int .i64 x1), Seg.c (.int .i64 x2), Seg.c (.int .i64 x3)]]) (F73.spec (x1) (x2) (x3) _ hc18) rfl Try.func73 rfl rfl rfl [] [0] rfl rfl rfl trivial) rfl rfl rfl ?_
          rintro _ _ ⟨_, ⟨rfl, rfl⟩, rfl⟩
          refine JL.val (v := .int .i64 y17.2.2.2.2) (QV.field1 (ss := [Seg.of (Enc.arr 2 (Enc.pair (Enc.int .i64) (Enc.int .i64))) y17.1, Seg.c (.int .i64 y17.2.1), Seg.c (.int .i64 y17.2.2.1), Seg.of (Enc.arr 2 (Enc.pair (Enc.int .i64) (Enc.int .i64))) y17.2.2.2.1, Seg.c (.int .i64 y17.2.2.2.2)]) 4 to_61_3 tk_3 rfl rfl rfl) rfl rfl rfl ?_
          refine JL.val (v := .bool (decide (y17.2.2.2.2 ≤ (1048576 : Int)))) (QV.leq rfl rfl) rfl rfl rfl ?_
          refine JL.val (v := .bool (decide (y17.2.2.2.2 ≤ (1048576 : Int)))) (QV.assign rfl) rfl rfl rfl ?_
          refine JL.nil ?_
          refine QJ.then_normal ?_
          refine JC.ret ?_
          obtain rfl := Option.some.inj hm
          exact QJ.body (vs := [.bool (decide (y17.2.2.2.2 ≤ (1048576 : Int)))]) (.inl rfl) rfl (ResVs.cons (ResV.tmp rfl) ResVs.nil) [] rfl rfl (.inr trivial) ⟨rfl, rfl⟩
        ·
          refine JC.condT' rfl (congrArg Bool.not (decide_eq_false h16)) ?_
          refine JC.seq ?_
          refine JC.region ?_
          refine JL.val (v := .bool false) (QV.assign rfl) rfl rfl rfl ?_
          refine JL.nil ?_
          refine QJ.then_normal ?_
          refine JC.ret ?_
          refine QJ.then_ret ?_
          obtain rfl := Option.some.inj hm
          exact QJ.body (vs := [.bool false]) (.inl rfl) rfl (ResVs.cons (ResV.tmp rfl) ResVs.nil) [] rfl rfl (.inr trivial) ⟨rfl, rfl⟩
      ·
        refine JL.val (v := .bool true) (QV.eq (QV.move rfl) (congrArg Value.bool (congrArg Bool.not (bfalse h14)))) rfl rfl rfl ?_
        refine JL.skip (d := some 20) rfl rfl rfl ?_
        refine JL.skip (d := some 21) rfl rfl rfl ?_
        refine JL.skip (d := some 22) rfl rfl rfl ?_
        refine JL.skip (d := some 23) rfl rfl rfl ?_
        refine JL.skip (d := some 24) rfl rfl rfl ?_
        refine JL.skip (d := some 25) rfl rfl rfl ?_
        refine JL.val (v := .bool true) (QV.pickT rfl rfl) rfl rfl rfl ?_
        refine JL.nil ?_
        refine QJ.then_normal ?_
        refine JC.condT rfl ?_
        refine JC.seq ?_
        refine JC.region ?_
        refine JL.val (v := .bool false) (QV.assign rfl) rfl rfl rfl ?_
        refine JL.nil ?_
        refine QJ.then_normal ?_
        refine JC.ret ?_
        refine QJ.then_ret ?_
        obtain rfl := Option.some.inj hm
        exact QJ.body (vs := [.bool false]) (.inl rfl) rfl (ResVs.cons (ResV.tmp rfl) ResVs.nil) [] rfl rfl (.inr trivial) ⟨rfl, rfl⟩
    ·
      refine JL.val (v := .bool true) (QV.eq (QV.move rfl) (congrArg Value.bool (congrArg Bool.not (bfalse h11)))) rfl rfl rfl ?_
      refine JL.skip (d := some 14) rfl rfl rfl ?_
      refine JL.skip (d := some 15) rfl rfl rfl ?_
      refine JL.skip (d := some 16) rfl rfl rfl ?_
      refine JL.skip (d := some 17) rfl rfl rfl ?_
      refine JL.val (v := .bool true) (QV.pickT rfl rfl) rfl rfl rfl ?_
      refine JL.val (v := .bool true) (QV.move rfl) rfl rfl rfl ?_
      refine JL.skip (d := some 20) rfl rfl rfl ?_
      refine JL.skip (d := some 21) rfl rfl rfl ?_
      refine JL.skip (d := some 22) rfl rfl rfl ?_
      refine JL.skip (d := some 23) rfl rfl rfl ?_
      refine JL.skip (d := some 24) rfl rfl rfl ?_
      refine JL.skip (d := some 25) rfl rfl rfl ?_
      refine JL.val (v := .bool true) (QV.pickT rfl rfl) rfl rfl rfl ?_
      refine JL.nil ?_
      refine QJ.then_normal ?_
      refine JC.condT rfl ?_
      refine JC.seq ?_
      refine JC.region ?_
      refine JL.val (v := .bool false) (QV.assign rfl) rfl rfl rfl ?_
      refine JL.nil ?_
      refine QJ.then_normal ?_
      refine JC.ret ?_
      refine QJ.then_ret ?_
      obtain rfl := Option.some.inj hm
      exact QJ.body (vs := [.bool false]) (.inl rfl) rfl (ResVs.cons (ResV.tmp rfl) ResVs.nil) [] rfl rfl (.inr trivial) ⟨rfl, rfl⟩
  ·
    refine JL.val (v := .bool true) (QV.eq (QV.move rfl) (congrArg Value.bool (congrArg Bool.not (bfalse h8)))) rfl rfl rfl ?_
    refine JL.skip (d := some 8) rfl rfl rfl ?_
    refine JL.skip (d := some 9) rfl rfl rfl ?_
    refine JL.skip (d := some 10) rfl rfl rfl ?_
    refine JL.skip (d := some 11) rfl rfl rfl ?_
    refine JL.val (v := .bool true) (QV.pickT rfl rfl) rfl rfl rfl ?_
    refine JL.val (v := .bool true) (QV.move rfl) rfl rfl rfl ?_
    refine JL.skip (d := some 14) rfl rfl rfl ?_
    refine JL.skip (d := some 15) rfl rfl rfl ?_
    refine JL.skip (d := some 16) rfl rfl rfl ?_
    refine JL.skip (d := some 17) rfl rfl rfl ?_
    refine JL.val (v := .bool true) (QV.pickT rfl rfl) rfl rfl rfl ?_
    refine JL.val (v := .bool true) (QV.move rfl) rfl rfl rfl ?_
    refine JL.skip (d := some 20) rfl rfl rfl ?_
    refine JL.skip (d := some 21) rfl rfl rfl ?_
    refine JL.skip (d := some 22) rfl rfl rfl ?_
    refine JL.skip (d := some 23) rfl rfl rfl ?_
    refine JL.skip (d := some 24) rfl rfl rfl ?_
    refine JL.skip (d := some 25) rfl rfl rfl ?_
    refine JL.val (v := .bool true) (QV.pickT rfl rfl) rfl rfl rfl ?_
    refine JL.nil ?_
    refine QJ.then_normal ?_
    refine JC.condT rfl ?_
    refine JC.seq ?_
    refine JC.region ?_
    refine JL.val (v := .bool false) (QV.assign rfl) rfl rfl rfl ?_
    refine JL.nil ?_
    refine QJ.then_normal ?_
    refine JC.ret ?_
    refine QJ.then_ret ?_
    obtain rfl := Option.some.inj hm
    exact QJ.body (vs := [.bool false]) (.inl rfl) rfl (ResVs.cons (ResV.tmp rfl) ResVs.nil) [] rfl rfl (.inr trivial) ⟨rfl, rfl⟩

/-! ### 54: drogher/part.Layout -/
noncomputable def F54.m (x1 : Int) (x2 : Int) (x3 : Int) : Option ((Arr (Int × Int) 2) × Int × Int × (Arr (Int × Int) 2) × Int × Int) :=
  ((F72.m (x1) (x2) (x3)).bind fun y12 => (if y12 = true then ((F73.m (x1) (x2) (x3)).bind fun y15 => some (y15.1, y15.2.1, y15.2.2.1, y15.2.2.2.1, y15.2.2.2.2, (0 : Int))) else some ((Arr.rep 2 ((0 : Int), (0 : Int))), (0 : Int), (0 : Int), (Arr.rep 2 ((0 : Int), (0 : Int))), (0 : Int), (1 : Int))))
set_option maxRecDepth 100000 in
set_option maxHeartbeats 4000000 in
theorem F54.spec (x1 : Int) (x2 : Int) (x3 : Int) (r : ((Arr (Int × Int) 2) × Int × Int × (Arr (Int × Int) 2) × Int × Int)) (hm : F54.m x1 x2 x3 = some r) :
    Ctr Try.prog false 54 [.agg #[.int .i64 x1, .int .i64 x2, .int .i64 x3]] [] (fun v L' => v = .tuple #[.agg (flat [Seg.of (Enc.arr 2 (Enc.pair (Enc.int .i64) (Enc.int .i64))) r.1, Seg.c (.int .i64 r.2.1), Seg.c (.int .i64 r.2.2.1), Seg.of (Enc.arr 2 (Enc.pair (Enc.int .i64) (Enc.int .i64))) r.2.2.2.1, Seg.c (.int .i64 r.2.2.2.2.1)]).toArray, .int .i64 r.2.2.2.2.2] ∧ L' = []) := by
  refine Ctr.intro (n := 10) (env := [(0, .agg #[.int .i64 x1, .int .i64 x2, .int .i64 x3])]) Try.func54 rfl rfl rfl rfl (fun c => ?_)
  unfold F54.m at hm
  refine JC.seq ?_
  refine JC.region ?_
  refine JL.mv (d := some 1) (MV.box [Seg.c (.int .i64 x1), Seg.c (.int .i64 x2), Seg.c (.int .i64 x3)] rfl (fun w hs => rfl)) rfl rfl rfl ?_
  rintro _ _ ⟨b10, rfl, rfl⟩
  refine JL.mv (d := some 2) (MV.alloc [Seg.of (Enc.arr 2 (Enc.pair (Enc.int .i64) (Enc.int .i64))) (Arr.rep 2 ((0 : Int), (0 : Int))), Seg.c (.int .i64 (0 : Int)), Seg.c (.int .i64 (0 : Int)), Seg.of (Enc.arr 2 (Enc.pair (Enc.int .i64) (Enc.int .i64))) (Arr.rep 2 ((0 : Int), (0 : Int))), Seg.c (.int .i64 (0 : Int))] z_61 rfl) rfl rfl rfl ?_
  rintro _ _ ⟨b11, rfl, rfl⟩
  refine JL.val (v := .int .i64 (0 : Int)) (QV.assign rfl) rfl rfl rfl ?_
  refine JL.nil ?_
  refine QJ.then_normal ?_
  refine JC.seq ?_
  refine JC.seq ?_
  refine JC.region ?_
  refine JL.val (v := .agg #[.int .i64 x1, .int .i64 x2, .int .i64 x3]) (QV.eq (QV.loadN (ss := [Seg.c (.int .i64 x1), Seg.c (.int .i64 x2), Seg.c (.int .i64 x3)]) 1 0 3 rfl tk_47 rfl rfl rfl rfl) rfl) rfl rfl rfl ?_
  obtain ⟨y12, hc13, hm⟩ := bind_inv hm
  refine JL.mv (d := some 5) (MV.call (Lo := []) (Lr := [Asr.blk b11 61 [Seg.of (Enc.arr 2 (Enc.pair (Enc.int .i64) (Enc.int .i64))) (Arr.rep 2 ((0 : Int), (0 : Int))), Seg.c (.int .i64 (0 : Int)), Seg.c (.int .i64 (0 : Int)), Seg.of (Enc.arr 2 (Enc.pair (Enc.int .i64) (Enc.int .i64))) (Arr.rep 2 ((0 : Int), (0 : Int))), Seg.c (.int .i64 (0 : Int))], Asr.blk b10 47 [Seg.c (.int .i64 x1), Seg.c (.int .i64 x2), Seg.c (.int .i64 x3)]]) (F72.spec (x1) (x2) (x3) _ hc13) rfl Try.func72 rfl rfl rfl [] [0, 1] rfl rfl rfl trivial) rfl rfl rfl ?_
  rintro _ _ ⟨_, ⟨rfl, rfl⟩, rfl⟩
  refine JL.val (v := .bool (!y12)) (QV.not rfl) rfl rfl rfl ?_
  refine JL.nil ?_
  refine QJ.then_normal ?_
  rcases ite_inv hm with ⟨h14, hm⟩ | ⟨h14, hm⟩
  ·
    refine JC.condF' rfl (congrArg Bool.not h14) ?_
    refine JC.skip ?_
    refine QJ.then_normal ?_
    refine JC.seq ?_
    refine JC.region ?_
    refine JL.val (v := .agg #[.int .i64 x1, .int .i64 x2, .int .i64 x3]) (QV.eq (QV.loadN (ss := [Seg.c (.int .i64 x1), Seg.c (.int .i64 x2), Seg.c (.int .i64 x3)]) 1 0 3 rfl tk_47 rfl rfl rfl rfl) rfl) rfl rfl rfl ?_
    obtain ⟨y15, hc16, hm⟩ := bind_inv hm
    refine JL.mv (d := some 9) (MV.call (Lo := []) (Lr := [Asr.blk b11 61 [Seg.of (Enc.arr 2 (Enc.pair (Enc.int .i64) (Enc.int .i64))) (Arr.rep 2 ((0 : Int), (0 : Int))), Seg.c (.int .i64 (0 : Int)), Seg.c (.int .i64 (0 : Int)), Seg.of (Enc.arr 2 (Enc.pair (Enc.int .i64) (Enc.int .i64))) (Arr.rep 2 ((0 : Int), (0 : Int))), Seg.c (.int .i64 (0 : Int))], Asr.blk b10 47 [Seg.c (.int .i64 x1), Seg.c (.int .i64 x2), Seg.c (.int .i64 x3)]]) (F73.spec (x1) (x2) (x3) _ hc16) rfl Try.func73 rfl rfl rfl [] [0, 1] rfl rfl rfl trivial) rfl rfl rfl ?_
    rintro _ _ ⟨_, ⟨rfl, rfl⟩, rfl⟩
    refine JL.mv (d := none) (MV.store (ss := [Seg.of (Enc.arr 2 (Enc.pair (Enc.int .i64) (Enc.int .i64))) (Arr.rep 2 ((0 : Int), (0 : Int))), Seg.c (.int .i64 (0 : Int)), Seg.c (.int .i64 (0 : Int)), Seg.of (Enc.arr 2 (Enc.pair (Enc.int .i64) (Enc.int .i64))) (Arr.rep 2 ((0 : Int), (0 : Int))), Seg.c (.int .i64 (0 : Int))]) 0 0 5 [Seg.of (Enc.arr 2 (Enc.pair (Enc.int .i64) (Enc.int .i64))) y15.1, Seg.c (.int .i64 y15.2.1), Seg.c (.int .i64 y15.2.2.1), Seg.of (Enc.arr 2 (Enc.pair (Enc.int .i64) (Enc.int .i64))) y15.2.2.2.1, Seg.c (.int .i64 y15.2.2.2.2)] rfl tk_61 rfl rfl rfl rfl (fun w hs => ⟨rfl, one_of _ _, one_c rfl, one_c rfl, one_of _ _, one_c rfl, trivial⟩)) rfl rfl rfl ?_
    rintro _ _ ⟨rfl, rfl⟩
    refine JL.val (v := .int .i64 (0 : Int)) (QV.assign rfl) rfl rfl rfl ?_
    refine JL.nil ?_
    refine QJ.then_normal ?_
    refine JC.ret ?_
    obtain rfl := Option.some.inj hm
    exact QJ.body (vs := [.agg (flat [Seg.of (Enc.arr 2 (Enc.pair (Enc.int .i64) (Enc.int .i64))) y15.1, Seg.c (.int .i64 y15.2.1), Seg.c (.int .i64 y15.2.2.1), Seg.of (Enc.arr 2 (Enc.pair (Enc.int .i64) (Enc.int .i64))) y15.2.2.2.1, Seg.c (.int .i64 y15.2.2.2.2)]).toArray, .int .i64 (0 : Int)]) (.inl rfl) rfl (ResVs.cons (ResV.cell (d := none) (ty := 0) (ps := "") (af := #[]) (g := none) rfl (QV.eq (QV.loadN (ss := [Seg.of (Enc.arr 2 (Enc.pair (Enc.int .i64) (Enc.int .i64))) y15.1, Seg.c (.int .i64 y15.2.1), Seg.c (.int .i64 y15.2.2.1), Seg.of (Enc.arr 2 (Enc.pair (Enc.int .i64) (Enc.int .i64))) y15.2.2.2.1, Seg.c (.int .i64 y15.2.2.2.2)]) 0 0 5 rfl tk_61 rfl rfl rfl rfl) rfl)) (ResVs.cons (ResV.tmp rfl) ResVs.nil)) [] rfl rfl (.inr trivial) ⟨rfl, rfl⟩
  ·
    refine JC.condT' rfl (congrArg Bool.not (bfalse h14)) ?_
    refine JC.seq ?_
    refine JC.region ?_
    refine JL.val (v := .agg (flat [Seg.of (Enc.arr 2 (Enc.pair (Enc.int .i64) (Enc.int .i64))) (Arr.rep 2 ((0 : Int), (0 : Int))), Seg.c (.int .i64 (0 : Int)), Seg.c (.int .i64 (0 : Int)), Seg.of (Enc.arr 2 (Enc.pair (Enc.int .i64) (Enc.int .i64))) (Arr.rep 2 ((0 : Int), (0 : Int))), Seg.c (.int .i64 (0 : Int))]).toArray) (QV.build (vals := []) rfl (by kernel_rfl)) rfl rfl rfl ?_
    refine JL.mv (d := none) (MV.store (ss := [Seg.of (Enc.arr 2 (Enc.pair (Enc.int .i64) (Enc.int .i64))) (Arr.rep 2 ((0 : Int), (0 : Int))), Seg.c (.int .i64 (0 : Int)), Seg.c (.int .i64 (0 : Int)), Seg.of (Enc.arr 2 (Enc.pair (Enc.int .i64) (Enc.int .i64))) (Arr.rep 2 ((0 : Int), (0 : Int))), Seg.c (.int .i64 (0 : Int))]) 0 0 5 [Seg.of (Enc.arr 2 (Enc.pair (Enc.int .i64) (Enc.int .i64))) (Arr.rep 2 ((0 : Int), (0 : Int))), Seg.c (.int .i64 (0 : Int)), Seg.c (.int .i64 (0 : Int)), Seg.of (Enc.arr 2 (Enc.pair (Enc.int .i64) (Enc.int .i64))) (Arr.rep 2 ((0 : Int), (0 : Int))), Seg.c (.int .i64 (0 : Int))] rfl tk_61 rfl rfl rfl rfl (fun w hs => ⟨rfl, one_of _ _, one_c rfl, one_c rfl, one_of _ _, one_c rfl, trivial⟩)) rfl rfl rfl ?_
    rintro _ _ ⟨rfl, rfl⟩
    refine JL.val (v := .int .i64 (1 : Int)) (QV.assign rfl) rfl rfl rfl ?_
    refine JL.nil ?_
    refine QJ.then_normal ?_
    refine JC.ret ?_
    refine QJ.then_ret ?_
    obtain rfl := Option.some.inj hm
    exact QJ.body (vs := [.agg (flat [Seg.of (Enc.arr 2 (Enc.pair (Enc.int .i64) (Enc.int .i64))) (Arr.rep 2 ((0 : Int), (0 : Int))), Seg.c (.int .i64 (0 : Int)), Seg.c (.int .i64 (0 : Int)), Seg.of (Enc.arr 2 (Enc.pair (Enc.int .i64) (Enc.int .i64))) (Arr.rep 2 ((0 : Int), (0 : Int))), Seg.c (.int .i64 (0 : Int))]).toArray, .int .i64 (1 : Int)]) (.inl rfl) rfl (ResVs.cons (ResV.cell (d := none) (ty := 0) (ps := "") (af := #[]) (g := none) rfl (QV.eq (QV.loadN (ss := [Seg.of (Enc.arr 2 (Enc.pair (Enc.int .i64) (Enc.int .i64))) (Arr.rep 2 ((0 : Int), (0 : Int))), Seg.c (.int .i64 (0 : Int)), Seg.c (.int .i64 (0 : Int)), Seg.of (Enc.arr 2 (Enc.pair (Enc.int .i64) (Enc.int .i64))) (Arr.rep 2 ((0 : Int), (0 : Int))), Seg.c (.int .i64 (0 : Int))]) 0 0 5 rfl tk_61 rfl rfl rfl rfl) rfl)) (ResVs.cons (ResV.tmp rfl) ResVs.nil)) [] rfl rfl (.inr trivial) ⟨rfl, rfl⟩

/-! ### 55: (*drogher/sector.Device).Size -/
noncomputable def F55.m  : Option Unit :=
  some ()
set_option maxRecDepth 100000 in
set_option maxHeartbeats 4000000 in
theorem F55.spec  (r : Unit) (hm : F55.m  = some r) :
    Ctr Try.prog false 55 [.pointer none] [] (fun v L' => v = .int .i64 (0 : Int) ∧ L' = []) := by
  refine Ctr.intro (n := 9) (env := [(0, .pointer none)]) Try.func55 rfl rfl rfl rfl (fun c => ?_)
  unfold F55.m at hm
  refine JC.seq ?_
  refine JC.region ?_
  refine JL.val (v := .int .i64 (0 : Int)) (QV.assign rfl) rfl rfl rfl ?_
  refine JL.nil ?_
  refine QJ.then_normal ?_
  refine JC.seq ?_
  refine JC.seq ?_
  refine JC.region ?_
  refine JL.val (v := .pointer none) (QV.move rfl) rfl rfl rfl ?_
  refine JL.val (v := .bool true) ((QV.eq (QV.eqlP Try.underlying50 rfl rfl (.inl rfl)) (by simp))) rfl rfl rfl ?_
  refine JL.nil ?_
  refine QJ.then_normal ?_
  refine JC.condT rfl ?_
  refine JC.seq ?_
  refine JC.region ?_
  refine JL.val (v := .int .i64 (0 : Int)) (QV.assign rfl) rfl rfl rfl ?_
  refine JL.nil ?_
  refine QJ.then_normal ?_
  refine JC.ret ?_
  refine QJ.then_ret ?_
  obtain rfl := Option.some.inj hm
  exact QJ.body (vs := [.int .i64 (0 : Int)]) (.inl rfl) rfl (ResVs.cons (ResV.tmp rfl) ResVs.nil) [] rfl rfl (.inr trivial) ⟨rfl, rfl⟩

/-! ### 74: (*drogher/sector.Device).Count -/
noncomputable def F74.m  : Option Unit :=
  some ()
set_option maxRecDepth 100000 in
set_option maxHeartbeats 4000000 in
theorem F74.spec  (r : Unit) (hm : F74.m  = some r) :
    Ctr Try.prog false 74 [.pointer none] [] (fun v L' => v = .int .i64 (0 : Int) ∧ L' = []) := by
  refine Ctr.intro (n := 9) (env := [(0, .pointer none)]) Try.func74 rfl rfl rfl rfl (fun c => ?_)
  unfold F74.m at hm
  refine JC.seq ?_
  refine JC.region ?_
  refine JL.val (v := .int .i64 (0 : Int)) (QV.assign rfl) rfl rfl rfl ?_
  refine JL.nil ?_
  refine QJ.then_normal ?_
  refine JC.seq ?_
  refine JC.seq ?_
  refine JC.region ?_
  refine JL.val (v := .pointer none) (QV.move rfl) rfl rfl rfl ?_
  refine JL.val (v := .bool true) ((QV.eq (QV.eqlP Try.underlying50 rfl rfl (.inl rfl)) (by simp))) rfl rfl rfl ?_
  refine JL.nil ?_
  refine QJ.then_normal ?_
  refine JC.condT rfl ?_
  refine JC.seq ?_
  refine JC.region ?_
  refine JL.val (v := .int .i64 (0 : Int)) (QV.assign rfl) rfl rfl rfl ?_
  refine JL.nil ?_
  refine QJ.then_normal ?_
  refine JC.ret ?_
  refine QJ.then_ret ?_
  obtain rfl := Option.some.inj hm
  exact QJ.body (vs := [.int .i64 (0 : Int)]) (.inl rfl) rfl (ResVs.cons (ResV.tmp rfl) ResVs.nil) [] rfl rfl (.inr trivial) ⟨rfl, rfl⟩

/-! ### 56: drogher/part.Open -/
noncomputable def F56.m (x1 : Int) (x2 : Int) : Option (Unit ⊕ Unit) :=
  (if x1 < (0 : Int) then some (.inl ()) else (if x2 < (1 : Int) then some (.inl ()) else ((F74.m).bind fun y7 => (if (0 : Int) < x1 then some (.inl ()) else ((F74.m).bind fun y10 => (if (IntKind.wrap .i64 ((0 : Int) - x1)) < x2 then some (.inl ()) else some (.inr ())))))))
set_option maxRecDepth 100000 in
set_option maxHeartbeats 4000000 in
theorem F56.spec (x1 : Int) (x2 : Int) (r : (Unit ⊕ Unit)) (hm : F56.m x1 x2 = some r) :
    Ctr Try.prog false 56 [.pointer none, .agg #[.int .i64 x1, .int .i64 x2]] [] (fun v L' => match r with | (.inl r) => v = .tuple #[.pointer none, .int .i64 (1 : Int)] ∧ L' = [] | (.inr r) => ∃ (g3 : Nat), v = .tuple #[.pointer (some ⟨g3, 0, none⟩), .int .i64 (0 : Int)] ∧ L' = [Asr.blk g3 134 [Seg.c (.pointer none), Seg.c (.int .i64 x1), Seg.c (.int .i64 x2)]]) := by
  refine Ctr.intro (n := 35) (env := [(0, .pointer none), (1, .agg #[.int .i64 x1, .int .i64 x2])]) Try.func56 rfl rfl rfl rfl (fun c => ?_)
  unfold F56.m at hm
  refine JC.seq ?_
  refine JC.region ?_
  refine JL.mv (d := some 3) (MV.box [Seg.c (.int .i64 x1), Seg.c (.int .i64 x2)] rfl (fun w hs => rfl)) rfl rfl rfl ?_
  rintro _ _ ⟨b4, rfl, rfl⟩
  refine JL.val (v := .pointer none) (QV.assign rfl) rfl rfl rfl ?_
  refine JL.val (v := .int .i64 (0 : Int)) (QV.assign rfl) rfl rfl rfl ?_
  refine JL.nil ?_
  refine QJ.then_normal ?_
  refine JC.seq ?_
  refine JC.seq ?_
  refine JC.regionT [Asr.blk b4 58 [Seg.c (.int .i64 x1), Seg.c (.int .i64 x2)]] (fun t => false) [(0, false), (1, false), (2, false), (3, false), (4, false), (5, false), (6, false), (7, false), (8, false), (9, true), (10, true), (11, false), (12, false), (13, false), (14, false), (15, false), (16, true), (17, true), (18, true), (20, true), (21, true), (19, false), (22, false), (23, false), (24, false)] (by kernel_rfl) (by kernel_rfl) (by kernel_rfl) rfl (fun hsel => ?_)
  refine JT.only (i := 0) (d := some 6) rfl (MV.ofQV (v := .pointer (some ⟨b4, 0, none⟩)) (QV.fieldB fo_58_0 rfl rfl)) rfl rfl rfl ?_
  rintro _ _ ⟨rfl, rfl⟩
  refine ⟨fun _ => ⟨[0], rfl, rfl⟩, ?_⟩
  refine JT.only (i := 1) (d := some 7) rfl (MV.ofQV (v := .int .i64 x1) (QV.load1 (ss := [Seg.c (.int .i64 x1), Seg.c (.int .i64 x2)]) 0 0 rfl tk_3 rfl rfl rfl)) rfl rfl rfl ?_
  rintro _ _ ⟨rfl, rfl⟩
  refine ⟨fun _ => ⟨[0], rfl, rfl⟩, ?_⟩
  refine JT.only (i := 2) (d := some 8) rfl (MV.ofQV (v := .bool (decide (x1 < (0 : Int)))) (QV.lss rfl rfl)) rfl rfl rfl ?_
  rintro _ _ ⟨rfl, rfl⟩
  refine ⟨fun _ => ⟨[0], rfl, rfl⟩, ?_⟩
  rcases ite_inv hm with ⟨h5, hm⟩ | ⟨h5, hm⟩
  ·
    refine JT.only (i := 3) (d := some 9) rfl (MV.ofQV (v := .bool true) (QV.eq (QV.move rfl) (congrArg Value.bool (decide_eq_true h5)))) rfl rfl rfl ?_
    rintro _ _ ⟨rfl, rfl⟩
    refine ⟨fun _ => ⟨[0], rfl, rfl⟩, ?_⟩
    refine JT.skipO (i := 4) (d := some 10) rfl rfl rfl rfl [0] rfl rfl ?_
    refine JT.skipO (i := 5) (d := some 11) rfl rfl rfl rfl [0] rfl rfl ?_
    refine JT.skipO (i := 6) (d := some 12) rfl rfl rfl rfl [0] rfl rfl ?_
    refine JT.only (i := 7) (d := some 13) rfl (MV.ofQV (v := .bool true) (QV.pickT rfl rfl)) rfl rfl rfl ?_
    rintro _ _ ⟨rfl, rfl⟩
    refine ⟨fun _ => ⟨[0], rfl, rfl⟩, ?_⟩
    refine JT.only (i := 8) (d := some 14) rfl (MV.ofQV (v := .bool true) (QV.move rfl)) rfl rfl rfl ?_
    rintro _ _ ⟨rfl, rfl⟩
    refine ⟨fun _ => ⟨[0], rfl, rfl⟩, ?_⟩
    refine JT.skip (i := 9) (d := some 15) hsel rfl rfl rfl rfl rfl [0] rfl rfl ?_
    refine JT.skip (i := 10) (d := some 16) hsel rfl rfl rfl rfl rfl [0] rfl rfl ?_
    refine JT.skipO (i := 11) (d := some 17) rfl rfl rfl rfl [0] rfl rfl ?_
    refine JT.skipO (i := 12) (d := some 18) rfl rfl rfl rfl [0] rfl rfl ?_
    refine JT.skipO (i := 13) (d := some 19) rfl rfl rfl rfl [0] rfl rfl ?_
    refine JT.only (i := 14) (d := some 20) rfl (MV.ofQV (v := .bool true) (QV.pickT rfl rfl)) rfl rfl rfl ?_
    rintro _ _ ⟨rfl, rfl⟩
    refine ⟨fun _ => ⟨[0], rfl, rfl⟩, ?_⟩
    refine JT.only (i := 15) (d := some 21) rfl (MV.ofQV (v := .bool true) (QV.move rfl)) rfl rfl rfl ?_
    rintro _ _ ⟨rfl, rfl⟩
    refine ⟨fun _ => ⟨[0], rfl, rfl⟩, ?_⟩
    refine JT.skip (i := 16) (d := some 22) hsel rfl rfl rfl rfl rfl [0] rfl rfl ?_
    refine JT.skip (i := 17) (d := some 23) hsel rfl rfl rfl rfl rfl [0] rfl rfl ?_
    refine JT.skip (i := 18) (d := some 24) hsel rfl rfl rfl rfl rfl [0] rfl rfl ?_
    refine JT.skip (i := 20) (d := some 26) hsel rfl rfl rfl rfl rfl [0] rfl rfl ?_
    refine JT.skip (i := 21) (d := some 27) hsel rfl rfl rfl rfl rfl [0] rfl rfl ?_
    refine JT.skipO (i := 19) (d := some 25) rfl rfl rfl rfl [0] rfl rfl ?_
    refine JT.skipO (i := 22) (d := some 28) rfl rfl rfl rfl [0] rfl rfl ?_
    refine JT.skipO (i := 23) (d := some 29) rfl rfl rfl rfl [0] rfl rfl ?_
    refine JT.only (i := 24) (d := some 30) rfl (MV.ofQV (v := .bool true) (QV.pickT rfl rfl)) rfl rfl rfl ?_
    rintro _ _ ⟨rfl, rfl⟩
    refine ⟨fun _ => ⟨[0], rfl, rfl⟩, ?_⟩
    refine JT.nil ?_
    refine QJ.then_normal ?_
    refine JC.condT rfl ?_
    refine JC.seq ?_
    refine JC.region ?_
    refine JL.val (v := .pointer none) (QV.assign rfl) rfl rfl rfl ?_
    refine JL.val (v := .int .i64 (1 : Int)) (QV.assign rfl) rfl rfl rfl ?_
    refine JL.nil ?_
    refine QJ.then_normal ?_
    refine JC.ret ?_
    refine QJ.then_ret ?_
    obtain rfl := Option.some.inj hm
    exact QJ.body (vs := [.pointer none, .int .i64 (1 : Int)]) (.inl rfl) rfl (ResVs.cons (ResV.tmp rfl) (ResVs.cons (ResV.tmp rfl) ResVs.nil)) [] rfl rfl (.inr trivial) ⟨rfl, rfl⟩
  ·
    refine JT.only (i := 3) (d := some 9) rfl (MV.ofQV (v := .bool false) (QV.eq (QV.move rfl) (congrArg Value.bool (decide_eq_false h5)))) rfl rfl rfl ?_
    rintro _ _ ⟨rfl, rfl⟩
    refine ⟨fun _ => ⟨[0], rfl, rfl⟩, ?_⟩
    refine JT.only (i := 4) (d := some 10) rfl (MV.ofQV (v := .pointer (some ⟨b4, 1, none⟩)) (QV.fieldB fo_58_1 rfl rfl)) rfl rfl rfl ?_
    rintro _ _ ⟨rfl, rfl⟩
    refine ⟨fun _ => ⟨[0], rfl, rfl⟩, ?_⟩
    refine JT.only (i := 5) (d := some 11) rfl (MV.ofQV (v := .int .i64 x2) (QV.load1 (ss := [Seg.c (.int .i64 x1), Seg.c (.int .i64 x2)]) 0 1 rfl tk_3 rfl rfl rfl)) rfl rfl rfl ?_
    rintro _ _ ⟨rfl, rfl⟩
    refine ⟨fun _ => ⟨[0], rfl, rfl⟩, ?_⟩
    refine JT.only (i := 6) (d := some 12) rfl (MV.ofQV (v := .bool (decide (x2 < (1 : Int)))) (QV.lss rfl rfl)) rfl rfl rfl ?_
    rintro _ _ ⟨rfl, rfl⟩
    refine ⟨fun _ => ⟨[0], rfl, rfl⟩, ?_⟩
    refine JT.only (i := 7) (d := some 13) rfl (MV.ofQV (v := .bool (decide (x2 < (1 : Int)))) (QV.pickF rfl rfl)) rfl rfl rfl ?_
    rintro _ _ ⟨rfl, rfl⟩
    refine ⟨fun _ => ⟨[0], rfl, rfl⟩, ?_⟩
    rcases ite_inv hm with ⟨h6, hm⟩ | ⟨h6, hm⟩
    ·
      refine JT.only (i := 8) (d := some 14) rfl (MV.ofQV (v := .bool true) (QV.eq (QV.move rfl) (congrArg Value.bool (decide_eq_true h6)))) rfl rfl rfl ?_
      rintro _ _ ⟨rfl, rfl⟩
      refine ⟨fun _ => ⟨[0], rfl, rfl⟩, ?_⟩
      refine JT.skip (i := 9) (d := some 15) hsel rfl rfl rfl rfl rfl [0] rfl rfl ?_
      refine JT.skip (i := 10) (d := some 16) hsel rfl rfl rfl rfl rfl [0] rfl rfl ?_
      refine JT.skipO (i := 11) (d := some 17) rfl rfl rfl rfl [0] rfl rfl ?_
      refine JT.skipO (i := 12) (d := some 18) rfl rfl rfl rfl [0] rfl rfl ?_
      refine JT.skipO (i := 13) (d := some 19) rfl rfl rfl rfl [0] rfl rfl ?_
      refine JT.only (i := 14) (d := some 20) rfl (MV.ofQV (v := .bool true) (QV.pickT rfl rfl)) rfl rfl rfl ?_
      rintro _ _ ⟨rfl, rfl⟩
      refine ⟨fun _ => ⟨[0], rfl, rfl⟩, ?_⟩
      refine JT.only (i := 15) (d := some 21) rfl (MV.ofQV (v := .bool true) (QV.move rfl)) rfl rfl rfl ?_
      rintro _ _ ⟨rfl, rfl⟩
      refine ⟨fun _ => ⟨[0], rfl, rfl⟩, ?_⟩
      refine JT.skip (i := 16) (d := some 22) hsel rfl rfl rfl rfl rfl [0] rfl rfl ?_
      refine JT.skip (i := 17) (d := some 23) hsel rfl rfl rfl rfl rfl [0] rfl rfl ?_
      refine JT.skip (i := 18) (d := some 24) hsel rfl rfl rfl rfl rfl [0] rfl rfl ?_
      refine JT.skip (i := 20) (d := some 26) hsel rfl rfl rfl rfl rfl [0] rfl rfl ?_
      refine JT.skip (i := 21) (d := some 27) hsel rfl rfl rfl rfl rfl [0] rfl rfl ?_
      refine JT.skipO (i := 19) (d := some 25) rfl rfl rfl rfl [0] rfl rfl ?_
      refine JT.skipO (i := 22) (d := some 28) rfl rfl rfl rfl [0] rfl rfl ?_
      refine JT.skipO (i := 23) (d := some 29) rfl rfl rfl rfl [0] rfl rfl ?_
      refine JT.only (i := 24) (d := some 30) rfl (MV.ofQV (v := .bool true) (QV.pickT rfl rfl)) rfl rfl rfl ?_
      rintro _ _ ⟨rfl, rfl⟩
      refine ⟨fun _ => ⟨[0], rfl, rfl⟩, ?_⟩
      refine JT.nil ?_
      refine QJ.then_normal ?_
      refine JC.condT rfl ?_
      refine JC.seq ?_
      refine JC.region ?_
      refine JL.val (v := .pointer none) (QV.assign rfl) rfl rfl rfl ?_
      refine JL.val (v := .int .i64 (1 : Int)) (QV.assign rfl) rfl rfl rfl ?_
      refine JL.nil ?_
      refine QJ.then_normal ?_
      refine JC.ret ?_
      refine QJ.then_ret ?_
      obtain rfl := Option.some.inj hm
      exact QJ.body (vs := [.pointer none, .int .i64 (1 : Int)]) (.inl rfl) rfl (ResVs.cons (ResV.tmp rfl) (ResVs.cons (ResV.tmp rfl) ResVs.nil)) [] rfl rfl (.inr trivial) ⟨rfl, rfl⟩
    ·
      refine JT.only (i := 8) (d := some 14) rfl (MV.ofQV (v := .bool false) (QV.eq (QV.move rfl) (congrArg Value.bool (decide_eq_false h6)))) rfl rfl rfl ?_
      rintro _ _ ⟨rfl, rfl⟩
      refine ⟨fun _ => ⟨[0], rfl, rfl⟩, ?_⟩
      refine JT.take (i := 9) (v := .pointer (some ⟨b4, 0, none⟩)) hsel rfl (QV.fieldB fo_58_0 rfl rfl) rfl rfl rfl rfl [0] rfl rfl ?_
      refine JT.take (i := 10) (v := .int .i64 x1) hsel rfl (QV.load1 (ss := [Seg.c (.int .i64 x1), Seg.c (.int .i64 x2)]) 0 0 rfl tk_3 rfl rfl rfl) rfl rfl rfl rfl [0] rfl rfl ?_
      refine JT.only (i := 11) (d := some 17) rfl (MV.ofQV (v := .pointer none) (QV.move rfl)) rfl rfl rfl ?_
      rintro _ _ ⟨rfl, rfl⟩
      refine ⟨fun _ => ⟨[0], rfl, rfl⟩, ?_⟩
      obtain ⟨y7, hc8, hm⟩ := bind_inv hm
      refine JT.only (i := 12) (d := some 18) rfl (MV.call (Lo := []) (Lr := [Asr.blk b4 58 [Seg.c (.int .i64 x1), Seg.c (.int .i64 x2)]]) (F74.spec _ hc8) rfl Try.func74 rfl rfl rfl [] [0] rfl rfl rfl trivial) rfl rfl rfl ?_
      rintro _ _ ⟨_, ⟨rfl, rfl⟩, rfl⟩
      refine ⟨fun _ => ⟨[0], rfl, rfl⟩, ?_⟩
      refine JT.only (i := 13) (d := some 19) rfl (MV.ofQV (v := .bool (decide ((0 : Int) < x1))) (QV.gtr rfl rfl)) rfl rfl rfl ?_
      rintro _ _ ⟨rfl, rfl⟩
      refine ⟨fun _ => ⟨[0], rfl, rfl⟩, ?_⟩
      refine JT.only (i := 14) (d := some 20) rfl (MV.ofQV (v := .bool (decide ((0 : Int) < x1))) (QV.pickF rfl rfl)) rfl rfl rfl ?_
      rintro _ _ ⟨rfl, rfl⟩
      refine ⟨fun _ => ⟨[0], rfl, rfl⟩, ?_⟩
      rcases ite_inv hm with ⟨h9, hm⟩ | ⟨h9, hm⟩
      ·
        refine JT.only (i := 15) (d := some 21) rfl (MV.ofQV (v := .bool true) (QV.eq (QV.move rfl) (congrArg Value.bool (decide_eq_true h9)))) rfl rfl rfl ?_
        rintro _ _ ⟨rfl, rfl⟩
        refine ⟨fun _ => ⟨[0], rfl, rfl⟩, ?_⟩
        refine JT.skip (i := 16) (d := some 22) hsel rfl rfl rfl rfl rfl [0] rfl rfl ?_
        refine JT.skip (i := 17) (d := some 23) hsel rfl rfl rfl rfl rfl [0] rfl rfl ?_
        refine JT.skip (i := 18) (d := some 24) hsel rfl rfl rfl rfl rfl [0] rfl rfl ?_
        refine JT.skip (i := 20) (d := some 26) hsel rfl rfl rfl rfl rfl [0] rfl rfl ?_
        refine JT.skip (i := 21) (d := some 27) hsel rfl rfl rfl rfl rfl [0] rfl rfl ?_
        refine JT.skipO (i := 19) (d := some 25) rfl rfl rfl rfl [0] rfl rfl ?_
        refine JT.skipO (i := 22) (d := some 28) rfl rfl rfl rfl [0] rfl rfl ?_
        refine JT.skipO (i := 23) (d := some 29) rfl rfl rfl rfl [0] rfl rfl ?_
        refine JT.only (i := 24) (d := some 30) rfl (MV.ofQV (v := .bool true) (QV.pickT rfl rfl)) rfl rfl rfl ?_
        rintro _ _ ⟨rfl, rfl⟩
        refine ⟨fun _ => ⟨[0], rfl, rfl⟩, ?_⟩
        refine JT.nil ?_
        refine QJ.then_normal ?_
        refine JC.condT rfl ?_
        refine JC.seq ?_
        refine JC.region ?_
        refine JL.val (v := .pointer none) (QV.assign rfl) rfl rfl rfl ?_
        refine JL.val (v := .int .i64 (1 : Int)) (QV.assign rfl) rfl rfl rfl ?_
        refine JL.nil ?_
        refine QJ.then_normal ?_
        refine JC.ret ?_
        refine QJ.then_ret ?_
        obtain rfl := Option.some.inj hm
        exact QJ.body (vs := [.pointer none, .int .i64 (1 : Int)]) (.inl rfl) rfl (ResVs.cons (ResV.tmp rfl) (ResVs.cons (ResV.tmp rfl) ResVs.nil)) [] rfl rfl (.inr trivial) ⟨rfl, rfl⟩
      ·
        refine JT.only (i := 15) (d := some 21) rfl (MV.ofQV (v := .bool false) (QV.eq (QV.move rfl) (congrArg Value.bool (decide_eq_false h9)))) rfl rfl rfl ?_
        rintro _ _ ⟨rfl, rfl⟩
        refine ⟨fun _ => ⟨[0], rfl, rfl⟩, ?_⟩
        refine JT.take (i := 16) (v := .pointer (some ⟨b4, 1, none⟩)) hsel rfl (QV.fieldB fo_58_1 rfl rfl) rfl rfl rfl rfl [0] rfl rfl ?_
        refine JT.take (i := 17) (v := .int .i64 x2) hsel rfl (QV.load1 (ss := [Seg.c (.int .i64 x1), Seg.c (.int .i64 x2)]) 0 1 rfl tk_3 rfl rfl rfl) rfl rfl rfl rfl [0] rfl rfl ?_
        refine JT.take (i := 18) (v := .pointer none) hsel rfl (QV.move rfl) rfl rfl rfl rfl [0] rfl rfl ?_
        refine JT.take (i := 20) (v := .pointer (some ⟨b4, 0, none⟩)) hsel rfl (QV.fieldB fo_58_0 rfl rfl) rfl rfl rfl rfl [0] rfl rfl ?_
        refine JT.take (i := 21) (v := .int .i64 x1) hsel rfl (QV.load1 (ss := [Seg.c (.int .i64 x1), Seg.c (.int .i64 x2)]) 0 0 rfl tk_3 rfl rfl rfl) rfl rfl rfl rfl [0] rfl rfl ?_
        obtain ⟨y10, hc11, hm⟩ := bind_inv hm
        refine JT.only (i := 19) (d := some 25) rfl (MV.call (Lo := []) (Lr := [Asr.blk b4 58 [Seg.c (.int .i64 x1), Seg.c (.int .i64 x2)]]) (F74.spec _ hc11) rfl Try.func74 rfl rfl rfl [] [0] rfl rfl rfl trivial) rfl rfl rfl ?_
        rintro _ _ ⟨_, ⟨rfl, rfl⟩, rfl⟩
        refine ⟨fun _ => ⟨[0], rfl, rfl⟩, ?_⟩
        refine JT.only (i := 22) (d := some 28) rfl (MV.ofQV (v := .int .i64 (IntKind.wrap .i64 ((0 : Int) - x1))) (QV.sub rfl rfl)) rfl rfl rfl ?_
        rintro _ _ ⟨rfl, rfl⟩
        refine ⟨fun _ => ⟨[0], rfl, rfl⟩, ?_⟩
        refine JT.only (i := 23) (d := some 29) rfl (MV.ofQV (v := .bool (decide ((IntKind.wrap .i64 ((0 : Int) - x1)) < x2))) (QV.gtr rfl rfl)) rfl rfl rfl ?_
        rintro _ _ ⟨rfl, rfl⟩
        refine ⟨fun _ => ⟨[0], rfl, rfl⟩, ?_⟩
        refine JT.only (i := 24) (d := some 30) rfl (MV.ofQV (v := .bool (decide ((IntKind.wrap .i64 ((0 : Int) - x1)) < x2))) (QV.pickF rfl rfl)) rfl rfl rfl ?_
        rintro _ _ ⟨rfl, rfl⟩
        refine ⟨fun _ => ⟨[0], rfl, rfl⟩, ?_⟩
        refine JT.nil ?_
        refine QJ.then_normal ?_
        rcases ite_inv hm with ⟨h12, hm⟩ | ⟨h12, hm⟩
        ·
          refine JC.condT' rfl (decide_eq_true h12) ?_
          refine JC.seq ?_
          refine JC.region ?_
          refine JL.val (v := .pointer none) (QV.assign rfl) rfl rfl rfl ?_
          refine JL.val (v := .int .i64 (1 : Int)) (QV.assign rfl) rfl rfl rfl ?_
          refine JL.nil ?_
          refine QJ.then_normal ?_
          refine JC.ret ?_
          refine QJ.then_ret ?_
          obtain rfl := Option.some.inj hm
          exact QJ.body (vs := [.pointer none, .int .i64 (1 : Int)]) (.inl rfl) rfl (ResVs.cons (ResV.tmp rfl) (ResVs.cons (ResV.tmp rfl) ResVs.nil)) [] rfl rfl (.inr trivial) ⟨rfl, rfl⟩
        ·
          refine JC.condF' rfl (decide_eq_false h12) ?_
          refine JC.skip ?_
          refine QJ.then_normal ?_
          refine JC.seq ?_
          refine JC.region ?_
          refine JL.val (v := .pointer none) (QV.move rfl) rfl rfl rfl ?_
          refine JL.val (v := .agg #[.int .i64 x1, .int .i64 x2]) (QV.eq (QV.loadN (ss := [Seg.c (.int .i64 x1), Seg.c (.int .i64 x2)]) 0 0 2 rfl tk_58 rfl rfl rfl rfl) rfl) rfl rfl rfl ?_
          refine JL.val (v := .agg #[.pointer none, .int .i64 x1, .int .i64 x2]) (QV.build (vals := [(0, .pointer none), (1, .agg #[.int .i64 x1, .int .i64 x2])]) rfl (by kernel_rfl)) rfl rfl rfl ?_
          refine JL.mv (d := some 34) (MV.box [Seg.c (.pointer none), Seg.c (.int .i64 x1), Seg.c (.int .i64 x2)] rfl (fun w hs => rfl)) rfl rfl rfl ?_
          rintro _ _ ⟨b13, rfl, rfl⟩
          refine JL.val (v := .pointer (some ⟨b13, 0, none⟩)) (QV.assign rfl) rfl rfl rfl ?_
          refine JL.val (v := .int .i64 (0 : Int)) (QV.assign rfl) rfl rfl rfl ?_
          refine JL.nil ?_
          refine QJ.then_normal ?_
          refine JC.ret ?_
          obtain rfl := Option.some.inj hm
          exact QJ.body (vs := [.pointer (some ⟨b13, 0, none⟩), .int .i64 (0 : Int)]) (.inl rfl) rfl (ResVs.cons (ResV.tmp rfl) (ResVs.cons (ResV.tmp rfl) ResVs.nil)) [0] rfl rfl (.inr ⟨own_blk _ _ _, trivial⟩) ⟨b13, rfl, rfl⟩

/-! ### 29: drogher/image.Open -/
noncomputable def F29.j1 (y15 : ((Arr (Int × Int) 2) × Int × Int × (Arr (Int × Int) 2) × Int × Int))  : Option (Unit ⊕ (Int × Int × Int × Int × Int × Int)) :=
  ((F56.m (y15.2.1) (y15.2.2.1)).bind fun y25 => match y25 with | (.inl y27) => some (.inl ()) | (.inr y28) => some (.inr ((gd (y15.2.2.2.1).l (0 : Int)).1, (gd (y15.2.2.2.1).l (0 : Int)).2, (gd (y15.2.2.2.1).l (1 : Int)).1, (gd (y15.2.2.2.1).l (1 : Int)).2, y15.2.1, y15.2.2.1)))
noncomputable def F29.m (x1 : Int) (x2 : Int) (x3 : Int) : Option (Unit ⊕ (Int × Int × Int × Int × Int × Int)) :=
  ((F54.m (x1) (x2) (x3)).bind fun y15 => (if y15.2.2.2.2.2 = (0 : Int) then ((F55.m).bind fun y19 => (if (0 : Int) = x1 then ((F56.m ((gd (y15.2.2.2.1).l (0 : Int)).1) ((gd (y15.2.2.2.1).l (0 : Int)).2)).bind fun y31 => match y31 with | (.inl y33) => some (.inl ()) | (.inr y34) => ((F56.m ((gd (y15.2.2.2.1).l (1 : Int)).1) ((gd (y15.2.2.2.1).l (1 : Int)).2)).bind fun y37 => match y37 with | (.inl y39) => some (.inl ()) | (.inr y40) => F29.j1 y15)) else some (.inl ()))) else some (.inl ())))
set_option maxRecDepth 100000 in
set_option maxHeartbeats 4000000 in
theorem F29.spec (x1 : Int) (x2 : Int) (x3 : Int) (r : (Unit ⊕ (Int × Int × Int × Int × Int × Int))) (hm : F29.m x1 x2 x3 = some r) :
    Ctr Try.prog false 29 [.pointer none, .agg #[.int .i64 x1, .int .i64 x2, .int .i64 x3]] [] (fun v L' => match r with | (.inl r) => v = .tuple #[.pointer none, .int .i64 (1 : Int)] ∧ L' = [] | (.inr r) => ∃ (g4 : Nat), ∃ (g5 : Nat), ∃ (g8 : Nat), ∃ (g11 : Nat), v = .tuple #[.pointer (some ⟨g4, 0, none⟩), .int .i64 (0 : Int)] ∧ L' = [Asr.blk g5 134 [Seg.c (.pointer none), Seg.c (.int .i64 r.1), Seg.c (.int .i64 r.2.1)], Asr.blk g8 134 [Seg.c (.pointer none), Seg.c (.int .i64 r.2.2.1), Seg.c (.int .i64 r.2.2.2.1)], Asr.blk g11 134 [Seg.c (.pointer none), Seg.c (.int .i64 r.2.2.2.2.1), Seg.c (.int .i64 r.2.2.2.2.2)], Asr.blk g4 108 [Seg.c (.int .i64 x1), Seg.c (.int .i64 x2), Seg.c (.int .i64 x3), Seg.c (.pointer (some ⟨g5, 0, none⟩)), Seg.c (.pointer (some ⟨g8, 0, none⟩)), Seg.c (.pointer (some ⟨g11, 0, none⟩))]]) := by
  refine Ctr.intro (n := 63) (env := [(0, .pointer none), (1, .agg #[.int .i64 x1, .int .i64 x2, .int .i64 x3])]) Try.func29 rfl rfl rfl rfl (fun c => ?_)
  unfold F29.m at hm
  refine JC.seq ?_
  refine JC.region ?_
  refine JL.mv (d := some 3) (MV.box [Seg.c (.int .i64 x1), Seg.c (.int .i64 x2), Seg.c (.int .i64 x3)] rfl (fun w hs => rfl)) rfl rfl rfl ?_
  rintro _ _ ⟨b14, rfl, rfl⟩
  refine JL.val (v := .pointer none) (QV.assign rfl) rfl rfl rfl ?_
  refine JL.val (v := .int .i64 (0 : Int)) (QV.assign rfl) rfl rfl rfl ?_
  refine JL.nil ?_
  refine QJ.then_normal ?_
  refine JC.seq ?_
  refine JC.region ?_
  refine JL.val (v := .agg #[.int .i64 x1, .int .i64 x2, .int .i64 x3]) (QV.eq (QV.loadN (ss := [Seg.c (.int .i64 x1), Seg.c (.int .i64 x2), Seg.c (.int .i64 x3)]) 0 0 3 rfl tk_47 rfl rfl rfl rfl) rfl) rfl rfl rfl ?_
  obtain ⟨y15, hc16, hm⟩ := bind_inv hm
  refine JL.mv (d := some 13) (MV.call (Lo := []) (Lr := [Asr.blk b14 47 [Seg.c (.int .i64 x1), Seg.c (.int .i64 x2), Seg.c (.int .i64 x3)]]) (F54.spec (x1) (x2) (x3) _ hc16) rfl Try.func54 rfl rfl rfl [] [0] rfl rfl rfl trivial) rfl rfl rfl ?_
  rintro _ _ ⟨_, ⟨rfl, rfl⟩, rfl⟩
  refine JL.val (v := .tuple #[.agg (flat [Seg.of (Enc.arr 2 (Enc.pair (Enc.int .i64) (Enc.int .i64))) y15.1, Seg.c (.int .i64 y15.2.1), Seg.c (.int .i64 y15.2.2.1), Seg.of (Enc.arr 2 (Enc.pair (Enc.int .i64) (Enc.int .i64))) y15.2.2.2.1, Seg.c (.int .i64 y15.2.2.2.2.1)]).toArray, .int .i64 y15.2.2.2.2.2]) (QV.move rfl) rfl rfl rfl ?_
  refine JL.val (v := .agg (flat [Seg.of (Enc.arr 2 (Enc.pair (Enc.int .i64) (Enc.int .i64))) y15.1, Seg.c (.int .i64 y15.2.1), Seg.c (.int .i64 y15.2.2.1), Seg.of (Enc.arr 2 (Enc.pair (Enc.int .i64) (Enc.int .i64))) y15.2.2.2.1, Seg.c (.int .i64 y15.2.2.2.2.1)]).toArray) (QV.extract (vs := [.agg (flat [Seg.of (Enc.arr 2 (Enc.pair (Enc.int .i64) (Enc.int .i64))) y15.1, Seg.c (.int .i64 y15.2.1), Seg.c (.int .i64 y15.2.2.1), Seg.of (Enc.arr 2 (Enc.pair (Enc.int .i64) (Enc.int .i64))) y15.2.2.2.1, Seg.c (.int .i64 y15.2.2.2.2.1)]).toArray, .int .i64 y15.2.2.2.2.2]) rfl rfl) rfl rfl rfl ?_
  refine JL.val (v := .int .i64 y15.2.2.2.2.2) (QV.extract (vs := [.agg (flat [Seg.of (Enc.arr 2 (Enc.pair (Enc.int .i64) (Enc.int .i64))) y15.1, Seg.c (.int .i64 y15.2.1), Seg.c (.int .i64 y15.2.2.1), Seg.of (Enc.arr 2 (Enc.pair (Enc.int .i64) (Enc.int .i64))) y15.2.2.2.1, Seg.c (.int .i64 y15.2.2.2.2.1)]).toArray, .int .i64 y15.2.2.2.2.2]) rfl rfl) rfl rfl rfl ?_
  refine JL.mv (d := some 6) (MV.alloc [Seg.of (Enc.arr 2 (Enc.pair (Enc.int .i64) (Enc.int .i64))) (Arr.rep 2 ((0 : Int), (0 : Int))), Seg.c (.int .i64 (0 : Int)), Seg.c (.int .i64 (0 : Int)), Seg.of (Enc.arr 2 (Enc.pair (Enc.int .i64) (Enc.int .i64))) (Arr.rep 2 ((0 : Int), (0 : Int))), Seg.c (.int .i64 (0 : Int))] z_61 rfl) rfl rfl rfl ?_
  rintro _ _ ⟨b17, rfl, rfl⟩
  refine JL.mv (d := none) (MV.store (ss := [Seg.of (Enc.arr 2 (Enc.pair (Enc.int .i64) (Enc.int .i64))) (Arr.rep 2 ((0 : Int), (0 : Int))), Seg.c (.int .i64 (0 : Int)), Seg.c (.int .i64 (0 : Int)), Seg.of (Enc.arr 2 (Enc.pair (Enc.int .i64) (Enc.int .i64))) (Arr.rep 2 ((0 : Int), (0 : Int))), Seg.c (.int .i64 (0 : Int))]) 0 0 5 [Seg.of (Enc.arr 2 (Enc.pair (Enc.int .i64) (Enc.int .i64))) y15.1, Seg.c (.int .i64 y15.2.1), Seg.c (.int .i64 y15.2.2.1), Seg.of (Enc.arr 2 (Enc.pair (Enc.int .i64) (Enc.int .i64))) y15.2.2.2.1, Seg.c (.int .i64 y15.2.2.2.2.1)] rfl tk_61 rfl rfl rfl rfl (fun w hs => ⟨rfl, one_of _ _, one_c rfl, one_c rfl, one_of _ _, one_c rfl, trivial⟩)) rfl rfl rfl ?_
  rintro _ _ ⟨rfl, rfl⟩
  refine JL.val (v := .int .i64 y15.2.2.2.2.2) (QV.assign rfl) rfl rfl rfl ?_
  refine JL.nil ?_
  refine QJ.then_normal ?_
  refine JC.seq ?_
  refine JC.seq ?_
  refine JC.regionT [Asr.blk b17 61 [Seg.of (Enc.arr 2 (Enc.pair (Enc.int .i64) (Enc.int .i64))) y15.1, Seg.c (.int .i64 y15.2.1), Seg.c (.int .i64 y15.2.2.1), Seg.of (Enc.arr 2 (Enc.pair (Enc.int .i64) (Enc.int .i64))) y15.2.2.2.1, Seg.c (.int .i64 y15.2.2.2.2.1)], Asr.blk b14 47 [Seg.c (.int .i64 x1), Seg.c (.int .i64 x2), Seg.c (.int .i64 x3)]] (fun t => false) [(0, false), (1, false), (2, false), (3, true), (5, true), (6, true), (4, false), (7, false), (8, false)] (by kernel_rfl) (by kernel_rfl) (by kernel_rfl) rfl (fun hsel => ?_)
  refine JT.only (i := 0) (d := some 16) rfl (MV.ofQV (v := .int .i64 y15.2.2.2.2.2) (QV.move rfl)) rfl rfl rfl ?_
  rintro _ _ ⟨rfl, rfl⟩
  refine ⟨fun _ => ⟨[0, 1], rfl, rfl⟩, ?_⟩
  refine JT.only (i := 1) (d := some 17) rfl (MV.ofQV (v := .bool (!(decide (y15.2.2.2.2.2 = (0 : Int))))) (QV.neq rfl rfl)) rfl rfl rfl ?_
  rintro _ _ ⟨rfl, rfl⟩
  refine ⟨fun _ => ⟨[0, 1], rfl, rfl⟩, ?_⟩
  rcases ite_inv hm with ⟨h18, hm⟩ | ⟨h18, hm⟩
  ·
    refine JT.only (i := 2) (d := some 18) rfl (MV.ofQV (v := .bool false) (QV.eq (QV.move rfl) (congrArg Value.bool (congrArg Bool.not (decide_eq_true h18))))) rfl rfl rfl ?_
    rintro _ _ ⟨rfl, rfl⟩
    refine ⟨fun _ => ⟨[0, 1], rfl, rfl⟩, ?_⟩
    refine JT.take (i := 3) (v := .pointer none) hsel rfl (QV.move rfl) rfl rfl rfl rfl [0, 1] rfl rfl ?_
    refine JT.take (i := 5) (v := .pointer (some ⟨b14, 0, none⟩)) hsel rfl (QV.fieldB fo_47_0 rfl rfl) rfl rfl rfl rfl [0, 1] rfl rfl ?_
    refine JT.take (i := 6) (v := .int .i64 x1) hsel rfl (QV.load1 (ss := [Seg.c (.int .i64 x1), Seg.c (.int .i64 x2), Seg.c (.int .i64 x3)]) 1 0 rfl tk_3 rfl rfl rfl) rfl rfl rfl rfl [0, 1] rfl rfl ?_
    obtain ⟨y19, hc20, hm⟩ := bind_inv hm
    refine JT.only (i := 4) (d := some 20) rfl (MV.call (Lo := []) (Lr := [Asr.blk b17 61 [Seg.of (Enc.arr 2 (Enc.pair (Enc.int .i64) (Enc.int .i64))) y15.1, Seg.c (.int .i64 y15.2.1), Seg.c (.int .i64 y15.2.2.1), Seg.of (Enc.arr 2 (Enc.pair (Enc.int .i64) (Enc.int .i64))) y15.2.2.2.1, Seg.c (.int .i64 y15.2.2.2.2.1)], Asr.blk b14 47 [Seg.c (.int .i64 x1), Seg.c (.int .i64 x2), Seg.c (.int .i64 x3)]]) (F55.spec _ hc20) rfl Try.func55 rfl rfl rfl [] [0, 1] rfl rfl rfl trivial) rfl rfl rfl ?_
    rintro _ _ ⟨_, ⟨rfl, rfl⟩, rfl⟩
    refine ⟨fun _ => ⟨[0, 1], rfl, rfl⟩, ?_⟩
    refine JT.only (i := 7) (d := some 23) rfl (MV.ofQV (v := .bool (!(decide ((0 : Int) = x1)))) (QV.neq rfl rfl)) rfl rfl rfl ?_
    rintro _ _ ⟨rfl, rfl⟩
    refine ⟨fun _ => ⟨[0, 1], rfl, rfl⟩, ?_⟩
    refine JT.only (i := 8) (d := some 24) rfl (MV.ofQV (v := .bool (!(decide ((0 : Int) = x1)))) (QV.pickF rfl rfl)) rfl rfl rfl ?_
    rintro _ _ ⟨rfl, rfl⟩
    refine ⟨fun _ => ⟨[0, 1], rfl, rfl⟩, ?_⟩
    refine JT.nil ?_
    refine QJ.then_normal ?_
    rcases ite_inv hm with ⟨h21, hm⟩ | ⟨h21, hm⟩
    ·
      refine JC.condF' rfl (congrArg Bool.not (decide_eq_true h21)) ?_
      refine JC.skip ?_
      refine QJ.then_normal ?_
      refine JC.seq ?_
      refine JC.region ?_
      refine JL.val (v := .agg #[.int .i64 x1, .int .i64 x2, .int .i64 x3]) (QV.eq (QV.loadN (ss := [Seg.c (.int .i64 x1), Seg.c (.int .i64 x2), Seg.c (.int .i64 x3)]) 1 0 3 rfl tk_47 rfl rfl rfl rfl) rfl) rfl rfl rfl ?_
      refine JL.val (v := .agg #[.int .i64 x1, .int .i64 x2, .int .i64 x3, .pointer none, .pointer none, .pointer none]) (QV.build (vals := [(0, .agg #[.int .i64 x1, .int .i64 x2, .int .i64 x3])]) rfl (by kernel_rfl)) rfl rfl rfl ?_
      refine JL.mv (d := some 27) (MV.box [Seg.c (.int .i64 x1), Seg.c (.int .i64 x2), Seg.c (.int .i64 x3), Seg.c (.pointer none), Seg.c (.pointer none), Seg.c (.pointer none)] rfl (fun w hs => rfl)) rfl rfl rfl ?_
      rintro _ _ ⟨b22, rfl, rfl⟩
      refine JL.val (v := .pointer (some ⟨b22, 0, none⟩)) (QV.assign rfl) rfl rfl rfl ?_
      refine JL.nil ?_
      refine QJ.then_normal ?_
      refine JC.seq ?_
      refine JC.seq ?_
      refine JC.region ?_
      refine JL.val (v := .pointer (some ⟨b17, 6, none⟩)) (QV.fieldB fo_61_2 rfl rfl) rfl rfl rfl ?_
      refine JL.val (v := .agg (((Enc.arr 2 (Enc.pair (Enc.int .i64) (Enc.int .i64)))).enc y15.2.2.2.1).toArray) (QV.eq (QV.loadN (ss := [Seg.of (Enc.arr 2 (Enc.pair (Enc.int .i64) (Enc.int .i64))) y15.1, Seg.c (.int .i64 y15.2.1), Seg.c (.int .i64 y15.2.2.1), Seg.of (Enc.arr 2 (Enc.pair (Enc.int .i64) (Enc.int .i64))) y15.2.2.2.1, Seg.c (.int .i64 y15.2.2.2.2.1)]) 1 3 1 rfl tk_59 rfl rfl rfl rfl) rfl) rfl rfl rfl ?_
      refine JL.val (v := .int .i64 (0 : Int)) (QV.move rfl) rfl rfl rfl ?_
      refine JL.nil ?_
      refine QJ.then_normal ?_
      refine JC.cutK (Y := Unit × (Nat × Nat)) (fun y => match y with | (_, _) => F29.j1 y15 = some r) (fun y => match y with | (_, (z23, z24)) => [(0, .pointer none), (6, .pointer (some ⟨b17, 0, none⟩)), (8, .pointer (some ⟨b22, 0, none⟩))]) (fun y => match y with | (_, (z23, z24)) => [Asr.blk b17 61 [Seg.of (Enc.arr 2 (Enc.pair (Enc.int .i64) (Enc.int .i64))) y15.1, Seg.c (.int .i64 y15.2.1), Seg.c (.int .i64 y15.2.2.1), Seg.of (Enc.arr 2 (Enc.pair (Enc.int .i64) (Enc.int .i64))) y15.2.2.2.1, Seg.c (.int .i64 y15.2.2.2.2.1)], Asr.blk z23 134 [Seg.c (.pointer none), Seg.c (.int .i64 (gd (y15.2.2.2.1).l (0 : Int)).1), Seg.c (.int .i64 (gd (y15.2.2.2.1).l (0 : Int)).2)], Asr.blk z24 134 [Seg.c (.pointer none), Seg.c (.int .i64 (gd (y15.2.2.2.1).l (1 : Int)).1), Seg.c (.int .i64 (gd (y15.2.2.2.1).l (1 : Int)).2)], Asr.blk b22 108 [Seg.c (.int .i64 x1), Seg.c (.int .i64 x2), Seg.c (.int .i64 x3), Seg.c (.pointer (some ⟨z23, 0, none⟩)), Seg.c (.pointer (some ⟨z24, 0, none⟩)), Seg.c (.pointer none)]]) ?_ ?_
      ·
        rintro ⟨⟨⟩, ⟨z23, z24⟩⟩ hm
        unfold F29.j1 at hm
        show QJ _ _ [(0, .pointer none), (6, .pointer (some ⟨b17, 0, none⟩)), (8, .pointer (some ⟨b22, 0, none⟩))] [Asr.blk b17 61 [Seg.of (Enc.arr 2 (Enc.pair (Enc.int .i64) (Enc.int .i64))) y15.1, Seg.c (.int .i64 y15.2.1), Seg.c (.int .i64 y15.2.2.1), Seg.of (Enc.arr 2 (Enc.pair (Enc.int .i64) (Enc.int .i64))) y15.2.2.2.1, Seg.c (.int .i64 y15.2.2.2.2.1)], Asr.blk z23 134 [Seg.c (.pointer none), Seg.c (.int .i64 (gd (y15.2.2.2.1).l (0 : Int)).1), Seg.c (.int .i64 (gd (y15.2.2.2.1).l (0 : Int)).2)], Asr.blk z24 134 [Seg.c (.pointer none), Seg.c (.int .i64 (gd (y15.2.2.2.1).l (1 : Int)).1), Seg.c (.int .i64 (gd (y15.2.2.2.1).l (1 : Int)).2)], Asr.blk b22 108 [Seg.c (.int .i64 x1), Seg.c (.int .i64 x2), Seg.c (.int .i64 x3), Seg.c (.pointer (some ⟨z23, 0, none⟩)), Seg.c (.pointer (some ⟨z24, 0, none⟩)), Seg.c (.pointer none)]] _ _
        refine QJ.then_normal ?_
        refine JC.seq ?_
        refine JC.seq ?_
        refine JC.region ?_
        refine JL.val (v := .pointer (some ⟨b22, 0, none⟩)) (QV.move rfl) rfl rfl rfl ?_
        refine JL.val (v := .pointer none) (QV.move rfl) rfl rfl rfl ?_
        refine JL.val (v := .pointer (some ⟨b17, 4, none⟩)) (QV.fieldB fo_61_1 rfl rfl) rfl rfl rfl ?_
        refine JL.val (v := .agg #[.int .i64 y15.2.1, .int .i64 y15.2.2.1]) (QV.eq (QV.loadN (ss := [Seg.of (Enc.arr 2 (Enc.pair (Enc.int .i64) (Enc.int .i64))) y15.1, Seg.c (.int .i64 y15.2.1), Seg.c (.int .i64 y15.2.2.1), Seg.of (Enc.arr 2 (Enc.pair (Enc.int .i64) (Enc.int .i64))) y15.2.2.2.1, Seg.c (.int .i64 y15.2.2.2.2.1)]) 0 1 2 rfl tk_58 rfl rfl rfl rfl) rfl) rfl rfl rfl ?_
        obtain ⟨y25, hc26, hm⟩ := bind_inv hm
        rcases y25 with y27 | y28
        ·
          refine JL.mv (d := some 54) (MV.call (Lo := []) (Lr := [Asr.blk b17 61 [Seg.of (Enc.arr 2 (Enc.pair (Enc.int .i64) (Enc.int .i64))) y15.1, Seg.c (.int .i64 y15.2.1), Seg.c (.int .i64 y15.2.2.1), Seg.of (Enc.arr 2 (Enc.pair (Enc.int .i64) (Enc.int .i64))) y15.2.2.2.1, Seg.c (.int .i64 y15.2.2.2.2.1)], Asr.blk z23 134 [Seg.c (.pointer none), Seg.c (.int .i64 (gd (y15.2.2.2.1).l (0 : Int)).1), Seg.c (.int .i64 (gd (y15.2.2.2.1).l (0 : Int)).2)], Asr.blk z24 134 [Seg.c (.pointer none), Seg.c (.int .i64 (gd (y15.2.2.2.1).l (1 : Int)).1), Seg.c (.int .i64 (gd (y15.2.2.2.1).l (1 : Int)).2)], Asr.blk b22 108 [Seg.c (.int .i64 x1), Seg.c (.int .i64 x2), Seg.c (.int .i64 x3), Seg.c (.pointer (some ⟨z23, 0, none⟩)), Seg.c (.pointer (some ⟨z24, 0, none⟩)), Seg.c (.pointer none)]]) (F56.spec (y15.2.1) (y15.2.2.1) _ hc26) rfl Try.func56 rfl rfl rfl [] [0, 1, 2, 3] rfl rfl rfl trivial) rfl rfl rfl ?_
          rintro _ _ ⟨_, ⟨rfl, rfl⟩, rfl⟩
          refine JL.val (v := .tuple #[.pointer none, .int .i64 (1 : Int)]) (QV.move rfl) rfl rfl rfl ?_
          refine JL.val (v := .pointer none) (QV.extract (vs := [.pointer none, .int .i64 (1 : Int)]) rfl rfl) rfl rfl rfl ?_
          refine JL.val (v := .int .i64 (1 : Int)) (QV.extract (vs := [.pointer none, .int .i64 (1 : Int)]) rfl rfl) rfl rfl rfl ?_
          refine JL.val (v := .pointer (some ⟨b22, 0, none⟩)) (QV.nilCheck rfl) rfl rfl rfl ?_
          refine JL.val (v := .pointer (some ⟨b22, 5, none⟩)) (QV.fieldB fo_108_2 rfl rfl) rfl rfl rfl ?_
          refine JL.mv (d := none) (MV.store (ss := [Seg.c (.int .i64 x1), Seg.c (.int .i64 x2), Seg.c (.int .i64 x3), Seg.c (.pointer (some ⟨z23, 0, none⟩)), Seg.c (.pointer (some ⟨z24, 0, none⟩)), Seg.c (.pointer none)]) 3 5 1 [Seg.c (.pointer none)] rfl tk_105 rfl rfl rfl rfl (fun w hs => ⟨rfl, one_c rfl, trivial⟩)) rfl rfl rfl ?_
          rintro _ _ ⟨rfl, rfl⟩
          refine JL.val (v := .int .i64 (1 : Int)) (QV.assign rfl) rfl rfl rfl ?_
          refine JL.nil ?_
          refine QJ.then_normal ?_
          refine JC.seq ?_
          refine JC.region ?_
          refine JL.val (v := .int .i64 (1 : Int)) (QV.move rfl) rfl rfl rfl ?_
          refine JL.val (v := .bool true) (QV.eq (QV.neq rfl rfl) rfl) rfl rfl rfl ?_
          refine JL.nil ?_
          refine QJ.then_normal ?_
          refine JC.condT rfl ?_
          refine JC.seq ?_
          refine JC.region ?_
          refine JL.val (v := .int .i64 (1 : Int)) (QV.move rfl) rfl rfl rfl ?_
          refine JL.val (v := .pointer none) (QV.assign rfl) rfl rfl rfl ?_
          refine JL.val (v := .int .i64 (1 : Int)) (QV.assign rfl) rfl rfl rfl ?_
          refine JL.nil ?_
          refine QJ.then_normal ?_
          refine JC.ret ?_
          refine QJ.then_ret ?_
          obtain rfl := Option.some.inj hm
          exact QJ.body (vs := [.pointer none, .int .i64 (1 : Int)]) (.inl rfl) rfl (ResVs.cons (ResV.tmp rfl) (ResVs.cons (ResV.tmp rfl) ResVs.nil)) [] rfl rfl (.inr trivial) ⟨rfl, rfl⟩
        ·
          refine JL.mv (d := some 54) (MV.call (Lo := []) (Lr := [Asr.blk b17 61 [Seg.of (Enc.arr 2 (Enc.pair (Enc.int .i64) (Enc.int .i64))) y15.1, Seg.c (.int .i64 y15.2.1), Seg.c (.int .i64 y15.2.2.1), Seg.of (Enc.arr 2 (Enc.pair (Enc.int .i64) (Enc.int .i64))) y15.2.2.2.1, Seg.c (.int .i64 y15.2.2.2.2.1)], Asr.blk z23 134 [Seg.c (.pointer none), Seg.c (.int .i64 (gd (y15.2.2.2.1).l (0 : Int)).1), Seg.c (.int .i64 (gd (y15.2.2.2.1).l (0 : Int)).2)], Asr.blk z24 134 [Seg.c (.pointer none), Seg.c (.int .i64 (gd (y15.2.2.2.1).l (1 : Int)).1), Seg.c (.int .i64 (gd (y15.2.2.2.1).l (1 : Int)).2)], Asr.blk b22 108 [Seg.c (.int .i64 x1), Seg.c (.int .i64 x2), Seg.c (.int .i64 x3), Seg.c (.pointer (some ⟨z23, 0, none⟩)), Seg.c (.pointer (some ⟨z24, 0, none⟩)), Seg.c (.pointer none)]]) (F56.spec (y15.2.1) (y15.2.2.1) _ hc26) rfl Try.func56 rfl rfl rfl [] [0, 1, 2, 3] rfl rfl rfl trivial) rfl rfl rfl ?_
          rintro _ _ ⟨_, ⟨b29, rfl, rfl⟩, rfl⟩
          refine JL.val (v := .tuple #[.pointer (some ⟨b29, 0, none⟩), .int .i64 (0 : Int)]) (QV.move rfl) rfl rfl rfl ?_
          refine JL.val (v := .pointer (some ⟨b29, 0, none⟩)) (QV.extract (vs := [.pointer (some ⟨b29, 0, none⟩), .int .i64 (0 : Int)]) rfl rfl) rfl rfl rfl ?_
          refine JL.val (v := .int .i64 (0 : Int)) (QV.extract (vs := [.pointer (some ⟨b29, 0, none⟩), .int .i64 (0 : Int)]) rfl rfl) rfl rfl rfl ?_
          refine JL.val (v := .pointer (some ⟨b22, 0, none⟩)) (QV.nilCheck rfl) rfl rfl rfl ?_
          refine JL.val (v := .pointer (some ⟨b22, 5, none⟩)) (QV.fieldB fo_108_2 rfl rfl) rfl rfl rfl ?_
          refine JL.mv (d := none) (MV.store (ss := [Seg.c (.int .i64 x1), Seg.c (.int .i64 x2), Seg.c (.int .i64 x3), Seg.c (.pointer (some ⟨z23, 0, none⟩)), Seg.c (.pointer (some ⟨z24, 0, none⟩)), Seg.c (.pointer none)]) 4 5 1 [Seg.c (.pointer (some ⟨b29, 0, none⟩))] rfl tk_105 rfl rfl rfl rfl (fun w hs => ⟨rfl, one_c rfl, trivial⟩)) rfl rfl rfl ?_
          rintro _ _ ⟨rfl, rfl⟩
          refine JL.val (v := .int .i64 (0 : Int)) (QV.assign rfl) rfl rfl rfl ?_
          refine JL.nil ?_
          refine QJ.then_normal ?_
          refine JC.seq ?_
          refine JC.region ?_
          refine JL.val (v := .int .i64 (0 : Int)) (QV.move rfl) rfl rfl rfl ?_
          refine JL.val (v := .bool false) (QV.eq (QV.neq rfl rfl) rfl) rfl rfl rfl ?_
          refine JL.nil ?_
          refine QJ.then_normal ?_
          refine JC.condF rfl ?_
          refine JC.skip ?_
          refine QJ.then_normal ?_
          refine JC.seq ?_
          refine JC.region ?_
          refine JL.val (v := .pointer (some ⟨b22, 0, none⟩)) (QV.move rfl) rfl rfl rfl ?_
          refine JL.val (v := .pointer (some ⟨b22, 0, none⟩)) (QV.assign rfl) rfl rfl rfl ?_
          refine JL.val (v := .int .i64 (0 : Int)) (QV.assign rfl) rfl rfl rfl ?_
          refine JL.nil ?_
          refine QJ.then_normal ?_
          refine JC.ret ?_
          obtain rfl := Option.some.inj hm
          exact QJ.body (vs := [.pointer (some ⟨b22, 0, none⟩), .int .i64 (0 : Int)]) (.inl rfl) rfl (ResVs.cons (ResV.tmp rfl) (ResVs.cons (ResV.tmp rfl) ResVs.nil)) [2, 3, 0, 4] rfl rfl (.inr ⟨own_blk _ _ _, own_blk _ _ _, own_blk _ _ _, own_blk _ _ _, trivial⟩) ⟨b22, z23, z24, b29, rfl, rfl⟩
      ·
        refine JC.block ?_
        refine JC.unroll 8 ?_
        refine JC.seq ?_
        refine JC.region ?_
        refine JL.val (v := .bool true) (QV.eq (QV.lss rfl rfl) rfl) rfl rfl rfl ?_
        refine JL.nil ?_
        refine QJ.then_normal ?_
        refine JC.seq ?_
        refine JC.condT rfl ?_
        refine JC.skip ?_
        refine QJ.then_normal ?_
        refine JC.seq ?_
        refine JC.block ?_
        refine JC.seq ?_
        refine JC.region ?_
        refine JL.val (v := .int .i64 (0 : Int)) (QV.move rfl) rfl rfl rfl ?_
        refine JL.val (v := .agg #[.int .i64 (gd (y15.2.2.2.1).l (0 : Int)).1, .int .i64 (gd (y15.2.2.2.1).l (0 : Int)).2]) (QV.eq (QV.indexVN (E := (Enc.pair (Enc.int .i64) (Enc.int .i64))) (xs := y15.2.2.2.1) Try.underlying59 tk_58 rfl rfl rfl (by decide)) rfl) rfl rfl rfl ?_
        refine JL.mv (d := some 10) (MV.alloc [Seg.c (.int .i64 (0 : Int)), Seg.c (.int .i64 (0 : Int))] z_58 rfl) rfl rfl rfl ?_
        rintro _ _ ⟨b30, rfl, rfl⟩
        refine JL.val (v := .int .i64 (0 : Int)) (QV.assign rfl) rfl rfl rfl ?_
        refine JL.mv (d := none) (MV.store (ss := [Seg.c (.int .i64 (0 : Int)), Seg.c (.int .i64 (0 : Int))]) 0 0 2 [Seg.c (.int .i64 (gd (y15.2.2.2.1).l (0 : Int)).1), Seg.c (.int .i64 (gd (y15.2.2.2.1).l (0 : Int)).2)] rfl tk_58 rfl rfl rfl rfl (fun w hs => ⟨rfl, one_c rfl, one_c rfl, trivial⟩)) rfl rfl rfl ?_
        rintro _ _ ⟨rfl, rfl⟩
        refine JL.nil ?_
        refine QJ.then_normal ?_
        refine JC.seq ?_
        refine JC.regionT [Asr.blk b30 58 [Seg.c (.int .i64 (gd (y15.2.2.2.1).l (0 : Int)).1), Seg.c (.int .i64 (gd (y15.2.2.2.1).l (0 : Int)).2)], Asr.blk b17 61 [Seg.of (Enc.arr 2 (Enc.pair (Enc.int .i64) (Enc.int .i64))) y15.1, Seg.c (.int .i64 y15.2.1), Seg.c (.int .i64 y15.2.2.1), Seg.of (Enc.arr 2 (Enc.pair (Enc.int .i64) (Enc.int .i64))) y15.2.2.2.1, Seg.c (.int .i64 y15.2.2.2.2.1)], Asr.blk b14 47 [Seg.c (.int .i64 x1), Seg.c (.int .i64 x2), Seg.c (.int .i64 x3)]] (fun t => false) [(0, true), (1, true), (2, true), (3, true), (8, true), (9, true), (4, false), (5, false), (6, true), (7, true), (10, false), (11, false), (12, false)] (by kernel_rfl) (by kernel_rfl) (by kernel_rfl) rfl (fun hsel => ?_)
        refine JT.take (i := 0) (v := .pointer (some ⟨b22, 0, none⟩)) hsel rfl (QV.move rfl) rfl rfl rfl rfl [0, 2, 3] rfl rfl ?_
        refine JT.take (i := 1) (v := .int .i64 (0 : Int)) hsel rfl (QV.move rfl) rfl rfl rfl rfl [0, 2, 3] rfl rfl ?_
        refine JT.take (i := 2) (v := .pointer none) hsel rfl (QV.move rfl) rfl rfl rfl rfl [0, 2, 3] rfl rfl ?_
        refine JT.take (i := 3) (v := .agg #[.int .i64 (gd (y15.2.2.2.1).l (0 : Int)).1, .int .i64 (gd (y15.2.2.2.1).l (0 : Int)).2]) hsel rfl (QV.eq (QV.loadN (ss := [Seg.c (.int .i64 (gd (y15.2.2.2.1).l (0 : Int)).1), Seg.c (.int .i64 (gd (y15.2.2.2.1).l (0 : Int)).2)]) 0 0 2 rfl tk_58 rfl rfl rfl rfl) rfl) rfl rfl rfl rfl [0, 2, 3] rfl rfl ?_
        refine JT.take (i := 8) (v := .pointer (some ⟨b22, 0, none⟩)) hsel rfl (QV.nilCheck rfl) rfl rfl rfl rfl [0, 2, 3] rfl rfl ?_
        refine JT.take (i := 9) (v := .pointer (some ⟨b22, 3, none⟩)) hsel rfl (QV.fieldB fo_108_1 rfl rfl) rfl rfl rfl rfl [0, 2, 3] rfl rfl ?_
        obtain ⟨y31, hc32, hm⟩ := bind_inv hm
        rcases y31 with y33 | y34
        ·
          refine JT.only (i := 4) (d := some 39) rfl (MV.call (Lo := []) (Lr := [Asr.blk b30 58 [Seg.c (.int .i64 (gd (y15.2.2.2.1).l (0 : Int)).1), Seg.c (.int .i64 (gd (y15.2.2.2.1).l (0 : Int)).2)], Asr.blk b22 108 [Seg.c (.int .i64 x1), Seg.c (.int .i64 x2), Seg.c (.int .i64 x3), Seg.c (.pointer none), Seg.c (.pointer none), Seg.c (.pointer none)], Asr.blk b17 61 [Seg.of (Enc.arr 2 (Enc.pair (Enc.int .i64) (Enc.int .i64))) y15.1, Seg.c (.int .i64 y15.2.1), Seg.c (.int .i64 y15.2.2.1), Seg.of (Enc.arr 2 (Enc.pair (Enc.int .i64) (Enc.int .i64))) y15.2.2.2.1, Seg.c (.int .i64 y15.2.2.2.2.1)], Asr.blk b14 47 [Seg.c (.int .i64 x1), Seg.c (.int .i64 x2), Seg.c (.int .i64 x3)]]) (F56.spec ((gd (y15.2.2.2.1).l (0 : Int)).1) ((gd (y15.2.2.2.1).l (0 : Int)).2) _ hc32) rfl Try.func56 rfl rfl rfl [] [0, 1, 2, 3] rfl rfl rfl trivial) rfl rfl rfl ?_
          rintro _ _ ⟨_, ⟨rfl, rfl⟩, rfl⟩
          refine ⟨fun _ => ⟨[0, 2, 3], rfl, rfl⟩, ?_⟩
          refine JT.only (i := 5) (d := some 34) rfl (MV.ofQV (v := .tuple #[.pointer none, .int .i64 (1 : Int)]) (QV.move rfl)) rfl rfl rfl ?_
          rintro _ _ ⟨rfl, rfl⟩
          refine ⟨fun _ => ⟨[0, 2, 3], rfl, rfl⟩, ?_⟩
          refine JT.take (i := 6) (v := .pointer none) hsel rfl (QV.extract (vs := [.pointer none, .int .i64 (1 : Int)]) rfl rfl) rfl rfl rfl rfl [0, 2, 3] rfl rfl ?_
          refine JT.take (i := 7) (v := .int .i64 (1 : Int)) hsel rfl (QV.extract (vs := [.pointer none, .int .i64 (1 : Int)]) rfl rfl) rfl rfl rfl rfl [0, 2, 3] rfl rfl ?_
          refine JT.only (i := 10) (d := some 44) rfl (MV.ofQV (v := .pointer (some ⟨b22, 3, none⟩)) (QV.eq (QV.indexB (i := (0 : Int)) Try.underlying106 tk_105 rfl rfl (by decide)) rfl)) rfl rfl rfl ?_
          rintro _ _ ⟨rfl, rfl⟩
          refine ⟨fun _ => ⟨[0, 2, 3], rfl, rfl⟩, ?_⟩
          refine JT.only (i := 11) (d := none) rfl (MV.store (ss := [Seg.c (.int .i64 x1), Seg.c (.int .i64 x2), Seg.c (.int .i64 x3), Seg.c (.pointer none), Seg.c (.pointer none), Seg.c (.pointer none)]) 1 3 1 [Seg.c (.pointer none)] rfl tk_105 rfl rfl rfl rfl (fun w hs => ⟨rfl, one_c rfl, trivial⟩)) rfl rfl rfl ?_
          rintro _ _ ⟨rfl, rfl⟩
          refine ⟨fun _ => ⟨[0, 2, 3], rfl, rfl⟩, ?_⟩
          refine JT.grow [Asr.blk b30 58 [Seg.c (.int .i64 (gd (y15.2.2.2.1).l (0 : Int)).1), Seg.c (.int .i64 (gd (y15.2.2.2.1).l (0 : Int)).2)], Asr.blk b22 108 [Seg.c (.int .i64 x1), Seg.c (.int .i64 x2), Seg.c (.int .i64 x3), Seg.c (.pointer none), Seg.c (.pointer none), Seg.c (.pointer none)], Asr.blk b17 61 [Seg.of (Enc.arr 2 (Enc.pair (Enc.int .i64) (Enc.int .i64))) y15.1, Seg.c (.int .i64 y15.2.1), Seg.c (.int .i64 y15.2.2.1), Seg.of (Enc.arr 2 (Enc.pair (Enc.int .i64) (Enc.int .i64))) y15.2.2.2.1, Seg.c (.int .i64 y15.2.2.2.2.1)], Asr.blk b14 47 [Seg.c (.int .i64 x1), Seg.c (.int .i64 x2), Seg.c (.int .i64 x3)]] [0, 2, 3] rfl rfl ?_
          refine JT.only (i := 12) (d := some 7) rfl (MV.ofQV (v := .int .i64 (1 : Int)) (QV.assign rfl)) rfl rfl rfl ?_
          rintro _ _ ⟨rfl, rfl⟩
          refine ⟨fun _ => ⟨[0, 1, 2, 3], rfl, rfl⟩, ?_⟩
          refine JT.nil ?_
          refine QJ.then_normal ?_
          refine JC.seq ?_
          refine JC.region ?_
          refine JL.val (v := .int .i64 (1 : Int)) (QV.move rfl) rfl rfl rfl ?_
          refine JL.val (v := .bool true) (QV.eq (QV.neq rfl rfl) rfl) rfl rfl rfl ?_
          refine JL.nil ?_
          refine QJ.then_normal ?_
          refine JC.condT rfl ?_
          refine JC.seq ?_
          refine JC.region ?_
          refine JL.val (v := .int .i64 (1 : Int)) (QV.move rfl) rfl rfl rfl ?_
          refine JL.val (v := .pointer none) (QV.assign rfl) rfl rfl rfl ?_
          refine JL.val (v := .int .i64 (1 : Int)) (QV.assign rfl) rfl rfl rfl ?_
          refine JL.nil ?_
          refine QJ.then_normal ?_
          refine JC.ret ?_
          refine QJ.block_ret ?_
          refine QJ.then_ret ?_
          refine QJ.rnd_ret ?_
          refine QJ.block_ret ?_
          refine QJ.cut_ret ?_
          refine QJ.then_ret ?_
          obtain rfl := Option.some.inj hm
          exact QJ.body (vs := [.pointer none, .int .i64 (1 : Int)]) (.inl rfl) rfl (ResVs.cons (ResV.tmp rfl) (ResVs.cons (ResV.tmp rfl) ResVs.nil)) [] rfl rfl (.inr trivial) ⟨rfl, rfl⟩
        ·
          refine JT.only (i := 4) (d := some 39) rfl (MV.call (Lo := []) (Lr := [Asr.blk b30 58 [Seg.c (.int .i64 (gd (y15.2.2.2.1).l (0 : Int)).1), Seg.c (.int .i64 (gd (y15.2.2.2.1).l (0 : Int)).2)], Asr.blk b22 108 [Seg.c (.int .i64 x1), Seg.c (.int .i64 x2), Seg.c (.int .i64 x3), Seg.c (.pointer none), Seg.c (.pointer none), Seg.c (.pointer none)], Asr.blk b17 61 [Seg.of (Enc.arr 2 (Enc.pair (Enc.int .i64) (Enc.int .i64))) y15.1, Seg.c (.int .i64 y15.2.1), Seg.c (.int .i64 y15.2.2.1), Seg.of (Enc.arr 2 (Enc.pair (Enc.int .i64) (Enc.int .i64))) y15.2.2.2.1, Seg.c (.int .i64 y15.2.2.2.2.1)], Asr.blk b14 47 [Seg.c (.int .i64 x1), Seg.c (.int .i64 x2), Seg.c (.int .i64 x3)]]) (F56.spec ((gd (y15.2.2.2.1).l (0 : Int)).1) ((gd (y15.2.2.2.1).l (0 : Int)).2) _ hc32) rfl Try.func56 rfl rfl rfl [] [0, 1, 2, 3] rfl rfl rfl trivial) rfl rfl rfl ?_
          rintro _ _ ⟨_, ⟨b35, rfl, rfl⟩, rfl⟩
          refine ⟨fun _ => ⟨[1, 3, 4], rfl, rfl⟩, ?_⟩
          refine JT.grow [Asr.blk b35 134 [Seg.c (.pointer none), Seg.c (.int .i64 (gd (y15.2.2.2.1).l (0 : Int)).1), Seg.c (.int .i64 (gd (y15.2.2.2.1).l (0 : Int)).2)], Asr.blk b30 58 [Seg.c (.int .i64 (gd (y15.2.2.2.1).l (0 : Int)).1), Seg.c (.int .i64 (gd (y15.2.2.2.1).l (0 : Int)).2)], Asr.blk b17 61 [Seg.of (Enc.arr 2 (Enc.pair (Enc.int .i64) (Enc.int .i64))) y15.1, Seg.c (.int .i64 y15.2.1), Seg.c (.int .i64 y15.2.2.1), Seg.of (Enc.arr 2 (Enc.pair (Enc.int .i64) (Enc.int .i64))) y15.2.2.2.1, Seg.c (.int .i64 y15.2.2.2.2.1)], Asr.blk b14 47 [Seg.c (.int .i64 x1), Seg.c (.int .i64 x2), Seg.c (.int .i64 x3)]] [1, 2, 3] rfl rfl ?_
          refine JT.only (i := 5) (d := some 34) rfl (MV.ofQV (v := .tuple #[.pointer (some ⟨b35, 0, none⟩), .int .i64 (0 : Int)]) (QV.move rfl)) rfl rfl rfl ?_
          rintro _ _ ⟨rfl, rfl⟩
          refine ⟨fun _ => ⟨[0, 1, 3, 4], rfl, rfl⟩, ?_⟩
          refine JT.take (i := 6) (v := .pointer (some ⟨b35, 0, none⟩)) hsel rfl (QV.extract (vs := [.pointer (some ⟨b35, 0, none⟩), .int .i64 (0 : Int)]) rfl rfl) rfl rfl rfl rfl [0, 1, 3, 4] rfl rfl ?_
          refine JT.take (i := 7) (v := .int .i64 (0 : Int)) hsel rfl (QV.extract (vs := [.pointer (some ⟨b35, 0, none⟩), .int .i64 (0 : Int)]) rfl rfl) rfl rfl rfl rfl [0, 1, 3, 4] rfl rfl ?_
          refine JT.only (i := 10) (d := some 44) rfl (MV.ofQV (v := .pointer (some ⟨b22, 3, none⟩)) (QV.eq (QV.indexB (i := (0 : Int)) Try.underlying106 tk_105 rfl rfl (by decide)) rfl)) rfl rfl rfl ?_
          rintro _ _ ⟨rfl, rfl⟩
          refine ⟨fun _ => ⟨[0, 1, 3, 4], rfl, rfl⟩, ?_⟩
          refine JT.only (i := 11) (d := none) rfl (MV.store (ss := [Seg.c (.int .i64 x1), Seg.c (.int .i64 x2), Seg.c (.int .i64 x3), Seg.c (.pointer none), Seg.c (.pointer none), Seg.c (.pointer none)]) 2 3 1 [Seg.c (.pointer (some ⟨b35, 0, none⟩))] rfl tk_105 rfl rfl rfl rfl (fun w hs => ⟨rfl, one_c rfl, trivial⟩)) rfl rfl rfl ?_
          rintro _ _ ⟨rfl, rfl⟩
          refine ⟨fun _ => ⟨[0, 1, 3, 4], rfl, rfl⟩, ?_⟩
          refine JT.grow [Asr.blk b35 134 [Seg.c (.pointer none), Seg.c (.int .i64 (gd (y15.2.2.2.1).l (0 : Int)).1), Seg.c (.int .i64 (gd (y15.2.2.2.1).l (0 : Int)).2)], Asr.blk b30 58 [Seg.c (.int .i64 (gd (y15.2.2.2.1).l (0 : Int)).1), Seg.c (.int .i64 (gd (y15.2.2.2.1).l (0 : Int)).2)], Asr.blk b22 108 [Seg.c (.int .i64 x1), Seg.c (.int .i64 x2), Seg.c (.int .i64 x3), Seg.c (.pointer (some ⟨b35, 0, none⟩)), Seg.c (.pointer none), Seg.c (.pointer none)], Asr.blk b17 61 [Seg.of (Enc.arr 2 (Enc.pair (Enc.int .i64) (Enc.int .i64))) y15.1, Seg.c (.int .i64 y15.2.1), Seg.c (.int .i64 y15.2.2.1), Seg.of (Enc.arr 2 (Enc.pair (Enc.int .i64) (Enc.int .i64))) y15.2.2.2.1, Seg.c (.int .i64 y15.2.2.2.2.1)], Asr.blk b14 47 [Seg.c (.int .i64 x1), Seg.c (.int .i64 x2), Seg.c (.int .i64 x3)]] [0, 1, 3, 4] rfl rfl ?_
          refine JT.only (i := 12) (d := some 7) rfl (MV.ofQV (v := .int .i64 (0 : Int)) (QV.assign rfl)) rfl rfl rfl ?_
          rintro _ _ ⟨rfl, rfl⟩
          refine ⟨fun _ => ⟨[0, 1, 2, 3, 4], rfl, rfl⟩, ?_⟩
          refine JT.nil ?_
          refine QJ.then_normal ?_
          refine JC.seq ?_
          refine JC.region ?_
          refine JL.val (v := .int .i64 (0 : Int)) (QV.move rfl) rfl rfl rfl ?_
          refine JL.val (v := .bool false) (QV.eq (QV.neq rfl rfl) rfl) rfl rfl rfl ?_
          refine JL.nil ?_
          refine QJ.then_normal ?_
          refine JC.condF rfl ?_
          refine JC.skip ?_
          refine QJ.block_normal ?_
          refine QJ.then_normal ?_
          refine JC.region ?_
          refine JL.val (v := .int .i64 (1 : Int)) (QV.eq (QV.add rfl rfl) (congrArg (Value.int .i64) (by decide : _ = (1 : Int)))) rfl rfl rfl ?_
          refine JL.val (v := .int .i64 (1 : Int)) (QV.move rfl) rfl rfl rfl ?_
          refine JL.nil ?_
          refine QJ.rnd_normal ?_
          refine JC.seq ?_
          refine JC.region ?_
          refine JL.val (v := .bool true) (QV.eq (QV.lss rfl rfl) rfl) rfl rfl rfl ?_
          refine JL.nil ?_
          refine QJ.then_normal ?_
          refine JC.seq ?_
          refine JC.condT rfl ?_
          refine JC.skip ?_
          refine QJ.then_normal ?_
          refine JC.seq ?_
          refine JC.block ?_
          refine JC.seq ?_
          refine JC.region ?_
          refine JL.val (v := .int .i64 (1 : Int)) (QV.move rfl) rfl rfl rfl ?_
          refine JL.val (v := .agg #[.int .i64 (gd (y15.2.2.2.1).l (1 : Int)).1, .int .i64 (gd (y15.2.2.2.1).l (1 : Int)).2]) (QV.eq (QV.indexVN (E := (Enc.pair (Enc.int .i64) (Enc.int .i64))) (xs := y15.2.2.2.1) Try.underlying59 tk_58 rfl rfl rfl (by decide)) rfl) rfl rfl rfl ?_
          refine JL.mv (d := some 10) (MV.alloc [Seg.c (.int .i64 (0 : Int)), Seg.c (.int .i64 (0 : Int))] z_58 rfl) rfl rfl rfl ?_
          rintro _ _ ⟨b36, rfl, rfl⟩
          refine JL.val (v := .int .i64 (1 : Int)) (QV.assign rfl) rfl rfl rfl ?_
          refine JL.mv (d := none) (MV.store (ss := [Seg.c (.int .i64 (0 : Int)), Seg.c (.int .i64 (0 : Int))]) 0 0 2 [Seg.c (.int .i64 (gd (y15.2.2.2.1).l (1 : Int)).1), Seg.c (.int .i64 (gd (y15.2.2.2.1).l (1 : Int)).2)] rfl tk_58 rfl rfl rfl rfl (fun w hs => ⟨rfl, one_c rfl, one_c rfl, trivial⟩)) rfl rfl rfl ?_
          rintro _ _ ⟨rfl, rfl⟩
          refine JL.nil ?_
          refine QJ.then_normal ?_
          refine JC.seq ?_
          refine JC.regionT [Asr.blk b36 58 [Seg.c (.int .i64 (gd (y15.2.2.2.1).l (1 : Int)).1), Seg.c (.int .i64 (gd (y15.2.2.2.1).l (1 : Int)).2)], Asr.blk b35 134 [Seg.c (.pointer none), Seg.c (.int .i64 (gd (y15.2.2.2.1).l (0 : Int)).1), Seg.c (.int .i64 (gd (y15.2.2.2.1).l (0 : Int)).2)], Asr.blk b30 58 [Seg.c (.int .i64 (gd (y15.2.2.2.1).l (0 : Int)).1), Seg.c (.int .i64 (gd (y15.2.2.2.1).l (0 : Int)).2)], Asr.blk b17 61 [Seg.of (Enc.arr 2 (Enc.pair (Enc.int .i64) (Enc.int .i64))) y15.1, Seg.c (.int .i64 y15.2.1), Seg.c (.int .i64 y15.2.2.1), Seg.of (Enc.arr 2 (Enc.pair (Enc.int .i64) (Enc.int .i64))) y15.2.2.2.1, Seg.c (.int .i64 y15.2.2.2.2.1)], Asr.blk b14 47 [Seg.c (.int .i64 x1), Seg.c (.int .i64 x2), Seg.c (.int .i64 x3)]] (fun t => false) [(0, true), (1, true), (2, true), (3, true), (8, true), (9, true), (4, false), (5, false), (6, true), (7, true), (10, false), (11, false), (12, false)] (by kernel_rfl) (by kernel_rfl) (by kernel_rfl) rfl (fun hsel => ?_)
          refine JT.take (i := 0) (v := .pointer (some ⟨b22, 0, none⟩)) hsel rfl (QV.move rfl) rfl rfl rfl rfl [0, 1, 2, 4, 5] rfl rfl ?_
          refine JT.take (i := 1) (v := .int .i64 (1 : Int)) hsel rfl (QV.move rfl) rfl rfl rfl rfl [0, 1, 2, 4, 5] rfl rfl ?_
          refine JT.take (i := 2) (v := .pointer none) hsel rfl (QV.move rfl) rfl rfl rfl rfl [0, 1, 2, 4, 5] rfl rfl ?_
          refine JT.take (i := 3) (v := .agg #[.int .i64 (gd (y15.2.2.2.1).l (1 : Int)).1, .int .i64 (gd (y15.2.2.2.1).l (1 : Int)).2]) hsel rfl (QV.eq (QV.loadN (ss := [Seg.c (.int .i64 (gd (y15.2.2.2.1).l (1 : Int)).1), Seg.c (.int .i64 (gd (y15.2.2.2.1).l (1 : Int)).2)]) 0 0 2 rfl tk_58 rfl rfl rfl rfl) rfl) rfl rfl rfl rfl [0, 1, 2, 4, 5] rfl rfl ?_
          refine JT.take (i := 8) (v := .pointer (some ⟨b22, 0, none⟩)) hsel rfl (QV.nilCheck rfl) rfl rfl rfl rfl [0, 1, 2, 4, 5] rfl rfl ?_
          refine JT.take (i := 9) (v := .pointer (some ⟨b22, 3, none⟩)) hsel rfl (QV.fieldB fo_108_1 rfl rfl) rfl rfl rfl rfl [0, 1, 2, 4, 5] rfl rfl ?_
          obtain ⟨y37, hc38, hm⟩ := bind_inv hm
          rcases y37 with y39 | y40
          ·
            refine JT.only (i := 4) (d := some 39) rfl (MV.call (Lo := []) (Lr := [Asr.blk b36 58 [Seg.c (.int .i64 (gd (y15.2.2.2.1).l (1 : Int)).1), Seg.c (.int .i64 (gd (y15.2.2.2.1).l (1 : Int)).2)], Asr.blk b35 134 [Seg.c (.pointer none), Seg.c (.int .i64 (gd (y15.2.2.2.1).l (0 : Int)).1), Seg.c (.int .i64 (gd (y15.2.2.2.1).l (0 : Int)).2)], Asr.blk b30 58 [Seg.c (.int .i64 (gd (y15.2.2.2.1).l (0 : Int)).1), Seg.c (.int .i64 (gd (y15.2.2.2.1).l (0 : Int)).2)], Asr.blk b22 108 [Seg.c (.int .i64 x1), Seg.c (.int .i64 x2), Seg.c (.int .i64 x3), Seg.c (.pointer (some ⟨b35, 0, none⟩)), Seg.c (.pointer none), Seg.c (.pointer none)], Asr.blk b17 61 [Seg.of (Enc.arr 2 (Enc.pair (Enc.int .i64) (Enc.int .i64))) y15.1, Seg.c (.int .i64 y15.2.1), Seg.c (.int .i64 y15.2.2.1), Seg.of (Enc.arr 2 (Enc.pair (Enc.int .i64) (Enc.int .i64))) y15.2.2.2.1, Seg.c (.int .i64 y15.2.2.2.2.1)], Asr.blk b14 47 [Seg.c (.int .i64 x1), Seg.c (.int .i64 x2), Seg.c (.int .i64 x3)]]) (F56.spec ((gd (y15.2.2.2.1).l (1 : Int)).1) ((gd (y15.2.2.2.1).l (1 : Int)).2) _ hc38) rfl Try.func56 rfl rfl rfl [] [0, 1, 2, 3, 4, 5] rfl rfl rfl trivial) rfl rfl rfl ?_
            rintro _ _ ⟨_, ⟨rfl, rfl⟩, rfl⟩
            refine ⟨fun _ => ⟨[0, 1, 2, 4, 5], rfl, rfl⟩, ?_⟩
            refine JT.only (i := 5) (d := some 34) rfl (MV.ofQV (v := .tuple #[.pointer none, .int .i64 (1 : Int)]) (QV.move rfl)) rfl rfl rfl ?_
            rintro _ _ ⟨rfl, rfl⟩
            refine ⟨fun _ => ⟨[0, 1, 2, 4, 5], rfl, rfl⟩, ?_⟩
            refine JT.take (i := 6) (v := .pointer none) hsel rfl (QV.extract (vs := [.pointer none, .int .i64 (1 : Int)]) rfl rfl) rfl rfl rfl rfl [0, 1, 2, 4, 5] rfl rfl ?_
            refine JT.take (i := 7) (v := .int .i64 (1 : Int)) hsel rfl (QV.extract (vs := [.pointer none, .int .i64 (1 : Int)]) rfl rfl) rfl rfl rfl rfl [0, 1, 2, 4, 5] rfl rfl ?_
            refine JT.only (i := 10) (d := some 44) rfl (MV.ofQV (v := .pointer (some ⟨b22, 4, none⟩)) (QV.eq (QV.indexB (i := (1 : Int)) Try.underlying106 tk_105 rfl rfl (by decide)) rfl)) rfl rfl rfl ?_
            rintro _ _ ⟨rfl, rfl⟩
            refine ⟨fun _ => ⟨[0, 1, 2, 4, 5], rfl, rfl⟩, ?_⟩
            refine JT.only (i := 11) (d := none) rfl (MV.store (ss := [Seg.c (.int .i64 x1), Seg.c (.int .i64 x2), Seg.c (.int .i64 x3), Seg.c (.pointer (some ⟨b35, 0, none⟩)), Seg.c (.pointer none), Seg.c (.pointer none)]) 3 4 1 [Seg.c (.pointer none)] rfl tk_105 rfl rfl rfl rfl (fun w hs => ⟨rfl, one_c rfl, trivial⟩)) rfl rfl rfl ?_
            rintro _ _ ⟨rfl, rfl⟩
            refine ⟨fun _ => ⟨[0, 1, 2, 4, 5], rfl, rfl⟩, ?_⟩
            refine JT.grow [Asr.blk b36 58 [Seg.c (.int .i64 (gd (y15.2.2.2.1).l (1 : Int)).1), Seg.c (.int .i64 (gd (y15.2.2.2.1).l (1 : Int)).2)], Asr.blk b35 134 [Seg.c (.pointer none), Seg.c (.int .i64 (gd (y15.2.2.2.1).l (0 : Int)).1), Seg.c (.int .i64 (gd (y15.2.2.2.1).l (0 : Int)).2)], Asr.blk b30 58 [Seg.c (.int .i64 (gd (y15.2.2.2.1).l (0 : Int)).1), Seg.c (.int .i64 (gd (y15.2.2.2.1).l (0 : Int)).2)], Asr.blk b22 108 [Seg.c (.int .i64 x1), Seg.c (.int .i64 x2), Seg.c (.int .i64 x3), Seg.c (.pointer (some ⟨b35, 0, none⟩)), Seg.c (.pointer none), Seg.c (.pointer none)], Asr.blk b17 61 [Seg.of (Enc.arr 2 (Enc.pair (Enc.int .i64) (Enc.int .i64))) y15.1, Seg.c (.int .i64 y15.2.1), Seg.c (.int .i64 y15.2.2.1), Seg.of (Enc.arr 2 (Enc.pair (Enc.int .i64) (Enc.int .i64))) y15.2.2.2.1, Seg.c (.int .i64 y15.2.2.2.2.1)], Asr.blk b14 47 [Seg.c (.int .i64 x1), Seg.c (.int .i64 x2), Seg.c (.int .i64 x3)]] [0, 1, 2, 4, 5] rfl rfl ?_
            refine JT.only (i := 12) (d := some 7) rfl (MV.ofQV (v := .int .i64 (1 : Int)) (QV.assign rfl)) rfl rfl rfl ?_
            rintro _ _ ⟨rfl, rfl⟩
            refine ⟨fun _ => ⟨[0, 1, 2, 3, 4, 5], rfl, rfl⟩, ?_⟩
            refine JT.nil ?_
            refine QJ.then_normal ?_
            refine JC.seq ?_
            refine JC.region ?_
            refine JL.val (v := .int .i64 (1 : Int)) (QV.move rfl) rfl rfl rfl ?_
            refine JL.val (v := .bool true) (QV.eq (QV.neq rfl rfl) rfl) rfl rfl rfl ?_
            refine JL.nil ?_
            refine QJ.then_normal ?_
            refine JC.condT rfl ?_
            refine JC.seq ?_
            refine JC.region ?_
            refine JL.val (v := .int .i64 (1 : Int)) (QV.move rfl) rfl rfl rfl ?_
            refine JL.val (v := .pointer none) (QV.assign rfl) rfl rfl rfl ?_
            refine JL.val (v := .int .i64 (1 : Int)) (QV.assign rfl) rfl rfl rfl ?_
            refine JL.nil ?_
            refine QJ.then_normal ?_
            refine JC.ret ?_
            refine QJ.block_ret ?_
            refine QJ.then_ret ?_
            refine QJ.rnd_ret ?_
            refine QJ.block_ret ?_
            refine QJ.cut_ret ?_
            refine QJ.then_ret ?_
            obtain rfl := Option.some.inj hm
            exact QJ.body (vs := [.pointer none, .int .i64 (1 : Int)]) (.inl rfl) rfl (ResVs.cons (ResV.tmp rfl) (ResVs.cons (ResV.tmp rfl) ResVs.nil)) [] rfl rfl (.inr trivial) ⟨rfl, rfl⟩
          ·
            refine JT.only (i := 4) (d := some 39) rfl (MV.call (Lo := []) (Lr := [Asr.blk b36 58 [Seg.c (.int .i64 (gd (y15.2.2.2.1).l (1 : Int)).1), Seg.c (.int .i64 (gd (y15.2.2.2.1).l (1 : Int)).2)], Asr.blk b35 134 [Seg.c (.pointer none), Seg.c (.int .i64 (gd (y15.2.2.2.1).l (0 : Int)).1), Seg.c (.int .i64 (gd (y15.2.2.2.1).l (0 : Int)).2)], Asr.blk b30 58 [Seg.c (.int .i64 (gd (y15.2.2.2.1).l (0 : Int)).1), Seg.c (.int .i64 (gd (y15.2.2.2.1).l (0 : Int)).2)], Asr.blk b22 108 [Seg.c (.int .i64 x1), Seg.c (.int .i64 x2), Seg.c (.int .i64 x3), Seg.c (.pointer (some ⟨b35, 0, none⟩)), Seg.c (.pointer none), Seg.c (.pointer none)], Asr.blk b17 61 [Seg.of (Enc.arr 2 (Enc.pair (Enc.int .i64) (Enc.int .i64))) y15.1, Seg.c (.int .i64 y15.2.1), Seg.c (.int .i64 y15.2.2.1), Seg.of (Enc.arr 2 (Enc.pair (Enc.int .i64) (Enc.int .i64))) y15.2.2.2.1, Seg.c (.int .i64 y15.2.2.2.2.1)], Asr.blk b14 47 [Seg.c (.int .i64 x1), Seg.c (.int .i64 x2), Seg.c (.int .i64 x3)]]) (F56.spec ((gd (y15.2.2.2.1).l (1 : Int)).1) ((gd (y15.2.2.2.1).l (1 : Int)).2) _ hc38) rfl Try.func56 rfl rfl rfl [] [0, 1, 2, 3, 4, 5] rfl rfl rfl trivial) rfl rfl rfl ?_
            rintro _ _ ⟨_, ⟨b41, rfl, rfl⟩, rfl⟩
            refine ⟨fun _ => ⟨[1, 2, 3, 5, 6], rfl, rfl⟩, ?_⟩
            refine JT.grow [Asr.blk b41 134 [Seg.c (.pointer none), Seg.c (.int .i64 (gd (y15.2.2.2.1).l (1 : Int)).1), Seg.c (.int .i64 (gd (y15.2.2.2.1).l (1 : Int)).2)], Asr.blk b36 58 [Seg.c (.int .i64 (gd (y15.2.2.2.1).l (1 : Int)).1), Seg.c (.int .i64 (gd (y15.2.2.2.1).l (1 : Int)).2)], Asr.blk b35 134 [Seg.c (.pointer none), Seg.c (.int .i64 (gd (y15.2.2.2.1).l (0 : Int)).1), Seg.c (.int .i64 (gd (y15.2.2.2.1).l (0 : Int)).2)], Asr.blk b30 58 [Seg.c (.int .i64 (gd (y15.2.2.2.1).l (0 : Int)).1), Seg.c (.int .i64 (gd (y15.2.2.2.1).l (0 : Int)).2)], Asr.blk b17 61 [Seg.of (Enc.arr 2 (Enc.pair (Enc.int .i64) (Enc.int .i64))) y15.1, Seg.c (.int .i64 y15.2.1), Seg.c (.int .i64 y15.2.2.1), Seg.of (Enc.arr 2 (Enc.pair (Enc.int .i64) (Enc.int .i64))) y15.2.2.2.1, Seg.c (.int .i64 y15.2.2.2.2.1)], Asr.blk b14 47 [Seg.c (.int .i64 x1), Seg.c (.int .i64 x2), Seg.c (.int .i64 x3)]] [1, 2, 3, 4, 5] rfl rfl ?_
            refine JT.only (i := 5) (d := some 34) rfl (MV.ofQV (v := .tuple #[.pointer (some ⟨b41, 0, none⟩), .int .i64 (0 : Int)]) (QV.move rfl)) rfl rfl rfl ?_
            rintro _ _ ⟨rfl, rfl⟩
            refine ⟨fun _ => ⟨[0, 1, 2, 3, 5, 6], rfl, rfl⟩, ?_⟩
            refine JT.take (i := 6) (v := .pointer (some ⟨b41, 0, none⟩)) hsel rfl (QV.extract (vs := [.pointer (some ⟨b41, 0, none⟩), .int .i64 (0 : Int)]) rfl rfl) rfl rfl rfl rfl [0, 1, 2, 3, 5, 6] rfl rfl ?_
            refine JT.take (i := 7) (v := .int .i64 (0 : Int)) hsel rfl (QV.extract (vs := [.pointer (some ⟨b41, 0, none⟩), .int .i64 (0 : Int)]) rfl rfl) rfl rfl rfl rfl [0, 1, 2, 3, 5, 6] rfl rfl ?_
            refine JT.only (i := 10) (d := some 44) rfl (MV.ofQV (v := .pointer (some ⟨b22, 4, none⟩)) (QV.eq (QV.indexB (i := (1 : Int)) Try.underlying106 tk_105 rfl rfl (by decide)) rfl)) rfl rfl rfl ?_
            rintro _ _ ⟨rfl, rfl⟩
            refine ⟨fun _ => ⟨[0, 1, 2, 3, 5, 6], rfl, rfl⟩, ?_⟩
            refine JT.only (i := 11) (d := none) rfl (MV.store (ss := [Seg.c (.int .i64 x1), Seg.c (.int .i64 x2), Seg.c (.int .i64 x3), Seg.c (.pointer (some ⟨b35, 0, none⟩)), Seg.c (.pointer none), Seg.c (.pointer none)]) 4 4 1 [Seg.c (.pointer (some ⟨b41, 0, none⟩))] rfl tk_105 rfl rfl rfl rfl (fun w hs => ⟨rfl, one_c rfl, trivial⟩)) rfl rfl rfl ?_
            rintro _ _ ⟨rfl, rfl⟩
            refine ⟨fun _ => ⟨[0, 1, 2, 3, 5, 6], rfl, rfl⟩, ?_⟩
            refine JT.grow [Asr.blk b41 134 [Seg.c (.pointer none), Seg.c (.int .i64 (gd (y15.2.2.2.1).l (1 : Int)).1), Seg.c (.int .i64 (gd (y15.2.2.2.1).l (1 : Int)).2)], Asr.blk b36 58 [Seg.c (.int .i64 (gd (y15.2.2.2.1).l (1 : Int)).1), Seg.c (.int .i64 (gd (y15.2.2.2.1).l (1 : Int)).2)], Asr.blk b35 134 [Seg.c (.pointer none), Seg.c (.int .i64 (gd (y15.2.2.2.1).l (0 : Int)).1), Seg.c (.int .i64 (gd (y15.2.2.2.1).l (0 : Int)).2)], Asr.blk b30 58 [Seg.c (.int .i64 (gd (y15.2.2.2.1).l (0 : Int)).1), Seg.c (.int .i64 (gd (y15.2.2.2.1).l (0 : Int)).2)], Asr.blk b22 108 [Seg.c (.int .i64 x1), Seg.c (.int .i64 x2), Seg.c (.int .i64 x3), Seg.c (.pointer (some ⟨b35, 0, none⟩)), Seg.c (.pointer (some ⟨b41, 0, none⟩)), Seg.c (.pointer none)], Asr.blk b17 61 [Seg.of (Enc.arr 2 (Enc.pair (Enc.int .i64) (Enc.int .i64))) y15.1, Seg.c (.int .i64 y15.2.1), Seg.c (.int .i64 y15.2.2.1), Seg.of (Enc.arr 2 (Enc.pair (Enc.int .i64) (Enc.int .i64))) y15.2.2.2.1, Seg.c (.int .i64 y15.2.2.2.2.1)], Asr.blk b14 47 [Seg.c (.int .i64 x1), Seg.c (.int .i64 x2), Seg.c (.int .i64 x3)]] [0, 1, 2, 3, 5, 6] rfl rfl ?_
            refine JT.only (i := 12) (d := some 7) rfl (MV.ofQV (v := .int .i64 (0 : Int)) (QV.assign rfl)) rfl rfl rfl ?_
            rintro _ _ ⟨rfl, rfl⟩
            refine ⟨fun _ => ⟨[0, 1, 2, 3, 4, 5, 6], rfl, rfl⟩, ?_⟩
            refine JT.nil ?_
            refine QJ.then_normal ?_
            refine JC.seq ?_
            refine JC.region ?_
            refine JL.val (v := .int .i64 (0 : Int)) (QV.move rfl) rfl rfl rfl ?_
            refine JL.val (v := .bool false) (QV.eq (QV.neq rfl rfl) rfl) rfl rfl rfl ?_
            refine JL.nil ?_
            refine QJ.then_normal ?_
            refine JC.condF rfl ?_
            refine JC.skip ?_
            refine QJ.block_normal ?_
            refine QJ.then_normal ?_
            refine JC.region ?_
            refine JL.val (v := .int .i64 (2 : Int)) (QV.eq (QV.add rfl rfl) (congrArg (Value.int .i64) (by decide : _ = (2 : Int)))) rfl rfl rfl ?_
            refine JL.val (v := .int .i64 (2 : Int)) (QV.move rfl) rfl rfl rfl ?_
            refine JL.nil ?_
            refine QJ.rnd_normal ?_
            refine JC.seq ?_
            refine JC.region ?_
            refine JL.val (v := .bool false) (QV.eq (QV.lss rfl rfl) rfl) rfl rfl rfl ?_
            refine JL.nil ?_
            refine QJ.then_normal ?_
            refine JC.seq ?_
            refine JC.condF rfl ?_
            refine JC.exit ?_
            refine QJ.then_exit ?_
            refine QJ.rnd_exit ?_
            refine QJ.block_hit ?_
            exact QJ.cut_normal ((), (b35, b41)) hm [5, 2, 0, 4] (by exact ⟨rfl, rfl, rfl, trivial⟩) rfl rfl
    ·
      refine JC.condT' rfl (congrArg Bool.not (decide_eq_false h21)) ?_
      refine JC.seq ?_
      refine JC.region ?_
      refine JL.val (v := .pointer none) (QV.assign rfl) rfl rfl rfl ?_
      refine JL.val (v := .int .i64 (1 : Int)) (QV.assign rfl) rfl rfl rfl ?_
      refine JL.nil ?_
      refine QJ.then_normal ?_
      refine JC.ret ?_
      refine QJ.then_ret ?_
      obtain rfl := Option.some.inj hm
      exact QJ.body (vs := [.pointer none, .int .i64 (1 : Int)]) (.inl rfl) rfl (ResVs.cons (ResV.tmp rfl) (ResVs.cons (ResV.tmp rfl) ResVs.nil)) [] rfl rfl (.inr trivial) ⟨rfl, rfl⟩
  ·
    refine JT.only (i := 2) (d := some 18) rfl (MV.ofQV (v := .bool true) (QV.eq (QV.move rfl) (congrArg Value.bool (congrArg Bool.not (decide_eq_false h18))))) rfl rfl rfl ?_
    rintro _ _ ⟨rfl, rfl⟩
    refine ⟨fun _ => ⟨[0, 1], rfl, rfl⟩, ?_⟩
    refine JT.skip (i := 3) (d := some 19) hsel rfl rfl rfl rfl rfl [0, 1] rfl rfl ?_
    refine JT.skip (i := 5) (d := some 21) hsel rfl rfl rfl rfl rfl [0, 1] rfl rfl ?_
    refine JT.skip (i := 6) (d := some 22) hsel rfl rfl rfl rfl rfl [0, 1] rfl rfl ?_
    refine JT.skipO (i := 4) (d := some 20) rfl rfl rfl rfl [0, 1] rfl rfl ?_
    refine JT.skipO (i := 7) (d := some 23) rfl rfl rfl rfl [0, 1] rfl rfl ?_
    refine JT.only (i := 8) (d := some 24) rfl (MV.ofQV (v := .bool true) (QV.pickT rfl rfl)) rfl rfl rfl ?_
    rintro _ _ ⟨rfl, rfl⟩
    refine ⟨fun _ => ⟨[0, 1], rfl, rfl⟩, ?_⟩
    refine JT.nil ?_
    refine QJ.then_normal ?_
    refine JC.condT rfl ?_
    refine JC.seq ?_
    refine JC.region ?_
    refine JL.val (v := .pointer none) (QV.assign rfl) rfl rfl rfl ?_
    refine JL.val (v := .int .i64 (1 : Int)) (QV.assign rfl) rfl rfl rfl ?_
    refine JL.nil ?_
    refine QJ.then_normal ?_
    refine JC.ret ?_
    refine QJ.then_ret ?_
    obtain rfl := Option.some.inj hm
    exact QJ.body (vs := [.pointer none, .int .i64 (1 : Int)]) (.inl rfl) rfl (ResVs.cons (ResV.tmp rfl) (ResVs.cons (ResV.tmp rfl) ResVs.nil)) [] rfl rfl (.inr trivial) ⟨rfl, rfl⟩

/-! ### 38: (*drogher/image.Image).Cap -/
noncomputable def F38.m (x2 : Int) (x3 : Int) (x4 : Int) (x6 : Int) (x7 : Int) (x9 : Int) (x10 : Int) (x12 : Int) (x13 : Int) : Option Int :=
  some (IntKind.wrap .i64 (x3 * x4))
set_option maxRecDepth 100000 in
set_option maxHeartbeats 4000000 in
theorem F38.spec (b1 : Nat) (b5 : Nat) (b8 : Nat) (b11 : Nat) (x2 : Int) (x3 : Int) (x4 : Int) (x6 : Int) (x7 : Int) (x9 : Int) (x10 : Int) (x12 : Int) (x13 : Int) (r : Int) (hm : F38.m x2 x3 x4 x6 x7 x9 x10 x12 x13 = some r) :
    Ctr Try.prog false 38 [.pointer (some ⟨b1, 0, none⟩)] [Asr.blk b1 108 [Seg.c (.int .i64 x2), Seg.c (.int .i64 x3), Seg.c (.int .i64 x4), Seg.c (.pointer (some ⟨b5, 0, none⟩)), Seg.c (.pointer (some ⟨b8, 0, none⟩)), Seg.c (.pointer (some ⟨b11, 0, none⟩))], Asr.blk b5 134 [Seg.c (.pointer none), Seg.c (.int .i64 x6), Seg.c (.int .i64 x7)], Asr.blk b8 134 [Seg.c (.pointer none), Seg.c (.int .i64 x9), Seg.c (.int .i64 x10)], Asr.blk b11 134 [Seg.c (.pointer none), Seg.c (.int .i64 x12), Seg.c (.int .i64 x13)]] (fun v L' => v = .int .i64 r ∧ L' = [Asr.blk b5 134 [Seg.c (.pointer none), Seg.c (.int .i64 x6), Seg.c (.int .i64 x7)], Asr.blk b8 134 [Seg.c (.pointer none), Seg.c (.int .i64 x9), Seg.c (.int .i64 x10)], Asr.blk b11 134 [Seg.c (.pointer none), Seg.c (.int .i64 x12), Seg.c (.int .i64 x13)], Asr.blk b1 108 [Seg.c (.int .i64 x2), Seg.c (.int .i64 x3), Seg.c (.int .i64 x4), Seg.c (.pointer (some ⟨b5, 0, none⟩)), Seg.c (.pointer (some ⟨b8, 0, none⟩)), Seg.c (.pointer (some ⟨b11, 0, none⟩))]]) := by
  refine Ctr.intro (n := 16) (env := [(0, .pointer (some ⟨b1, 0, none⟩))]) Try.func38 rfl rfl rfl rfl (fun c => ?_)
  unfold F38.m at hm
  refine JC.seq ?_
  refine JC.region ?_
  refine JL.val (v := .int .i64 (0 : Int)) (QV.assign rfl) rfl rfl rfl ?_
  refine JL.nil ?_
  refine QJ.then_normal ?_
  refine JC.seq ?_
  refine JC.seq ?_
  refine JC.region ?_
  refine JL.val (v := .pointer (some ⟨b1, 0, none⟩)) (QV.move rfl) rfl rfl rfl ?_
  refine JL.val (v := .bool false) ((QV.eq (QV.eqlP Try.underlying53 rfl rfl (.inr rfl)) (by simp))) rfl rfl rfl ?_
  refine JL.nil ?_
  refine QJ.then_normal ?_
  refine JC.condF rfl ?_
  refine JC.skip ?_
  refine QJ.then_normal ?_
  refine JC.seq ?_
  refine JC.regionT [Asr.blk b1 108 [Seg.c (.int .i64 x2), Seg.c (.int .i64 x3), Seg.c (.int .i64 x4), Seg.c (.pointer (some ⟨b5, 0, none⟩)), Seg.c (.pointer (some ⟨b8, 0, none⟩)), Seg.c (.pointer (some ⟨b11, 0, none⟩))], Asr.blk b5 134 [Seg.c (.pointer none), Seg.c (.int .i64 x6), Seg.c (.int .i64 x7)], Asr.blk b8 134 [Seg.c (.pointer none), Seg.c (.int .i64 x9), Seg.c (.int .i64 x10)], Asr.blk b11 134 [Seg.c (.pointer none), Seg.c (.int .i64 x12), Seg.c (.int .i64 x13)]] (fun t => false) [(0, true), (1, true), (2, true), (3, true), (4, true), (5, false), (6, false), (7, false), (8, false), (9, false), (10, false), (11, false)] (by kernel_rfl) (by kernel_rfl) (by kernel_rfl) rfl (fun hsel => ?_)
  refine JT.take (i := 0) (v := .pointer (some ⟨b1, 0, none⟩)) hsel rfl (QV.move rfl) rfl rfl rfl rfl [0, 1, 2, 3] rfl rfl ?_
  refine JT.take (i := 1) (v := .pointer (some ⟨b1, 0, none⟩)) hsel rfl (QV.nilCheck rfl) rfl rfl rfl rfl [0, 1, 2, 3] rfl rfl ?_
  refine JT.take (i := 2) (v := .pointer (some ⟨b1, 0, none⟩)) hsel rfl (QV.fieldB fo_108_0 rfl rfl) rfl rfl rfl rfl [0, 1, 2, 3] rfl rfl ?_
  refine JT.take (i := 3) (v := .pointer (some ⟨b1, 1, none⟩)) hsel rfl (QV.fieldB fo_47_1 rfl rfl) rfl rfl rfl rfl [0, 1, 2, 3] rfl rfl ?_
  refine JT.take (i := 4) (v := .int .i64 x3) hsel rfl (QV.load1 (ss := [Seg.c (.int .i64 x2), Seg.c (.int .i64 x3), Seg.c (.int .i64 x4), Seg.c (.pointer (some ⟨b5, 0, none⟩)), Seg.c (.pointer (some ⟨b8, 0, none⟩)), Seg.c (.pointer (some ⟨b11, 0, none⟩))]) 0 1 rfl tk_3 rfl rfl rfl) rfl rfl rfl rfl [0, 1, 2, 3] rfl rfl ?_
  refine JT.only (i := 5) (d := some 10) rfl (MV.ofQV (v := .pointer (some ⟨b1, 0, none⟩)) (QV.move rfl)) rfl rfl rfl ?_
  rintro _ _ ⟨rfl, rfl⟩
  refine ⟨fun _ => ⟨[0, 1, 2, 3], rfl, rfl⟩, ?_⟩
  refine JT.only (i := 6) (d := some 11) rfl (MV.ofQV (v := .pointer (some ⟨b1, 0, none⟩)) (QV.nilCheck rfl)) rfl rfl rfl ?_
  rintro _ _ ⟨rfl, rfl⟩
  refine ⟨fun _ => ⟨[0, 1, 2, 3], rfl, rfl⟩, ?_⟩
  refine JT.only (i := 7) (d := some 12) rfl (MV.ofQV (v := .pointer (some ⟨b1, 0, none⟩)) (QV.fieldB fo_108_0 rfl rfl)) rfl rfl rfl ?_
  rintro _ _ ⟨rfl, rfl⟩
  refine ⟨fun _ => ⟨[0, 1, 2, 3], rfl, rfl⟩, ?_⟩
  refine JT.only (i := 8) (d := some 13) rfl (MV.ofQV (v := .pointer (some ⟨b1, 2, none⟩)) (QV.fieldB fo_47_2 rfl rfl)) rfl rfl rfl ?_
  rintro _ _ ⟨rfl, rfl⟩
  refine ⟨fun _ => ⟨[0, 1, 2, 3], rfl, rfl⟩, ?_⟩
  refine JT.only (i := 9) (d := some 14) rfl (MV.ofQV (v := .int .i64 x4) (QV.load1 (ss := [Seg.c (.int .i64 x2), Seg.c (.int .i64 x3), Seg.c (.int .i64 x4), Seg.c (.pointer (some ⟨b5, 0, none⟩)), Seg.c (.pointer (some ⟨b8, 0, none⟩)), Seg.c (.pointer (some ⟨b11, 0, none⟩))]) 0 2 rfl tk_3 rfl rfl rfl)) rfl rfl rfl ?_
  rintro _ _ ⟨rfl, rfl⟩
  refine ⟨fun _ => ⟨[0, 1, 2, 3], rfl, rfl⟩, ?_⟩
  refine JT.only (i := 10) (d := some 15) rfl (MV.ofQV (v := .int .i64 (IntKind.wrap .i64 (x3 * x4))) (QV.mul rfl rfl)) rfl rfl rfl ?_
  rintro _ _ ⟨rfl, rfl⟩
  refine ⟨fun _ => ⟨[0, 1, 2, 3], rfl, rfl⟩, ?_⟩
  refine JT.only (i := 11) (d := some 2) rfl (MV.ofQV (v := .int .i64 (IntKind.wrap .i64 (x3 * x4))) (QV.assign rfl)) rfl rfl rfl ?_
  rintro _ _ ⟨rfl, rfl⟩
  refine ⟨fun _ => ⟨[0, 1, 2, 3], rfl, rfl⟩, ?_⟩
  refine JT.nil ?_
  refine QJ.then_normal ?_
  refine JC.ret ?_
  obtain rfl := Option.some.inj hm
  exact QJ.body (vs := [.int .i64 (IntKind.wrap .i64 (x3 * x4))]) (.inl rfl) rfl (ResVs.cons (ResV.tmp rfl) ResVs.nil) [1, 2, 3, 0] rfl rfl (.inr ⟨own_blk _ _ _, own_blk _ _ _, own_blk _ _ _, own_blk _ _ _, trivial⟩) ⟨rfl, rfl⟩

/-! ### 55: (*drogher/sector.Device).Size -/
noncomputable def F55_1.m (x2 : Int) (x3 : Int) (x6 : Bool) (x7 : Int) (x8 : Bool) (x9 : Int) (x10 : Int) : Option Unit :=
  some ()
set_option maxRecDepth 100000 in
set_option maxHeartbeats 4000000 in
theorem F55_1.spec (b1 : Nat) (z4 : Value) (z5 : Value) (x2 : Int) (x3 : Int) (x6 : Bool) (x7 : Int) (x8 : Bool) (x9 : Int) (x10 : Int) (r : Unit) (hm : F55_1.m x2 x3 x6 x7 x8 x9 x10 = some r) :
    Ctr Try.prog false 55 [.pointer (some ⟨b1, 0, none⟩)] [Asr.blk b1 102 [Seg.c (.int .i64 x2), Seg.c (.int .i64 x3), Seg.c (z4), Seg.c (z5), Seg.c (.bool x6), Seg.c (.int .i64 x7), Seg.c (.bool x8), Seg.c (.int .i64 x9), Seg.c (.int .u64 x10)]] (fun v L' => v = .int .i64 x2 ∧ L' = [Asr.blk b1 102 [Seg.c (.int .i64 x2), Seg.c (.int .i64 x3), Seg.c (z4), Seg.c (z5), Seg.c (.bool x6), Seg.c (.int .i64 x7), Seg.c (.bool x8), Seg.c (.int .i64 x9), Seg.c (.int .u64 x10)]]) := by
  refine Ctr.intro (n := 9) (env := [(0, .pointer (some ⟨b1, 0, none⟩))]) Try.func55 rfl rfl rfl rfl (fun c => ?_)
  unfold F55_1.m at hm
  refine JC.seq ?_
  refine JC.region ?_
  refine JL.val (v := .int .i64 (0 : Int)) (QV.assign rfl) rfl rfl rfl ?_
  refine JL.nil ?_
  refine QJ.then_normal ?_
  refine JC.seq ?_
  refine JC.seq ?_
  refine JC.region ?_
  refine JL.val (v := .pointer (some ⟨b1, 0, none⟩)) (QV.move rfl) rfl rfl rfl ?_
  refine JL.val (v := .bool false) ((QV.eq (QV.eqlP Try.underlying50 rfl rfl (.inr rfl)) (by simp))) rfl rfl rfl ?_
  refine JL.nil ?_
  refine QJ.then_normal ?_
  refine JC.condF rfl ?_
  refine JC.skip ?_
  refine QJ.then_normal ?_
  refine JC.seq ?_
  refine JC.region ?_
  refine JL.val (v := .pointer (some ⟨b1, 0, none⟩)) (QV.move rfl) rfl rfl rfl ?_
  refine JL.val (v := .pointer (some ⟨b1, 0, none⟩)) (QV.nilCheck rfl) rfl rfl rfl ?_
  refine JL.val (v := .pointer (some ⟨b1, 0, none⟩)) (QV.fieldB fo_102_0 rfl rfl) rfl rfl rfl ?_
  refine JL.val (v := .int .i64 x2) (QV.load1 (ss := [Seg.c (.int .i64 x2), Seg.c (.int .i64 x3), Seg.c (z4), Seg.c (z5), Seg.c (.bool x6), Seg.c (.int .i64 x7), Seg.c (.bool x8), Seg.c (.int .i64 x9), Seg.c (.int .u64 x10)]) 0 0 rfl tk_3 rfl rfl rfl) rfl rfl rfl ?_
  refine JL.val (v := .int .i64 x2) (QV.assign rfl) rfl rfl rfl ?_
  refine JL.nil ?_
  refine QJ.then_normal ?_
  refine JC.ret ?_
  obtain rfl := Option.some.inj hm
  exact QJ.body (vs := [.int .i64 x2]) (.inl rfl) rfl (ResVs.cons (ResV.tmp rfl) ResVs.nil) [0] rfl rfl (.inr ⟨own_blk _ _ _, trivial⟩) ⟨rfl, rfl⟩

/-! ### 74: (*drogher/sector.Device).Count -/
noncomputable def F74_1.m (x2 : Int) (x3 : Int) (x6 : Bool) (x7 : Int) (x8 : Bool) (x9 : Int) (x10 : Int) : Option Unit :=
  some ()
set_option maxRecDepth 100000 in
set_option maxHeartbeats 4000000 in
theorem F74_1.spec (b1 : Nat) (z4 : Value) (z5 : Value) (x2 : Int) (x3 : Int) (x6 : Bool) (x7 : Int) (x8 : Bool) (x9 : Int) (x10 : Int) (r : Unit) (hm : F74_1.m x2 x3 x6 x7 x8 x9 x10 = some r) :
    Ctr Try.prog false 74 [.pointer (some ⟨b1, 0, none⟩)] [Asr.blk b1 102 [Seg.c (.int .i64 x2), Seg.c (.int .i64 x3), Seg.c (z4), Seg.c (z5), Seg.c (.bool x6), Seg.c (.int .i64 x7), Seg.c (.bool x8), Seg.c (.int .i64 x9), Seg.c (.int .u64 x10)]] (fun v L' => v = .int .i64 x3 ∧ L' = [Asr.blk b1 102 [Seg.c (.int .i64 x2), Seg.c (.int .i64 x3), Seg.c (z4), Seg.c (z5), Seg.c (.bool x6), Seg.c (.int .i64 x7), Seg.c (.bool x8), Seg.c (.int .i64 x9), Seg.c (.int .u64 x10)]]) := by
  refine Ctr.intro (n := 9) (env := [(0, .pointer (some ⟨b1, 0, none⟩))]) Try.func74 rfl rfl rfl rfl (fun c => ?_)
  unfold F74_1.m at hm
  refine JC.seq ?_
  refine JC.region ?_
  refine JL.val (v := .int .i64 (0 : Int)) (QV.assign rfl) rfl rfl rfl ?_
  refine JL.nil ?_
  refine QJ.then_normal ?_
  refine JC.seq ?_
  refine JC.seq ?_
  refine JC.region ?_
  refine JL.val (v := .pointer (some ⟨b1, 0, none⟩)) (QV.move rfl) rfl rfl rfl ?_
  refine JL.val (v := .bool false) ((QV.eq (QV.eqlP Try.underlying50 rfl rfl (.inr rfl)) (by simp))) rfl rfl rfl ?_
  refine JL.nil ?_
  refine QJ.then_normal ?_
  refine JC.condF rfl ?_
  refine JC.skip ?_
  refine QJ.then_normal ?_
  refine JC.seq ?_
  refine JC.region ?_
  refine JL.val (v := .pointer (some ⟨b1, 0, none⟩)) (QV.move rfl) rfl rfl rfl ?_
  refine JL.val (v := .pointer (some ⟨b1, 0, none⟩)) (QV.nilCheck rfl) rfl rfl rfl ?_
  refine JL.val (v := .pointer (some ⟨b1, 1, none⟩)) (QV.fieldB fo_102_1 rfl rfl) rfl rfl rfl ?_
  refine JL.val (v := .int .i64 x3) (QV.load1 (ss := [Seg.c (.int .i64 x2), Seg.c (.int .i64 x3), Seg.c (z4), Seg.c (z5), Seg.c (.bool x6), Seg.c (.int .i64 x7), Seg.c (.bool x8), Seg.c (.int .i64 x9), Seg.c (.int .u64 x10)]) 0 1 rfl tk_3 rfl rfl rfl) rfl rfl rfl ?_
  refine JL.val (v := .int .i64 x3) (QV.assign rfl) rfl rfl rfl ?_
  refine JL.nil ?_
  refine QJ.then_normal ?_
  refine JC.ret ?_
  obtain rfl := Option.some.inj hm
  exact QJ.body (vs := [.int .i64 x3]) (.inl rfl) rfl (ResVs.cons (ResV.tmp rfl) ResVs.nil) [0] rfl rfl (.inr ⟨own_blk _ _ _, trivial⟩) ⟨rfl, rfl⟩

end Go.Proofs.Ytgganckggdjpaaa
