/- Written by gen.py: functions and their contracts. -/
import Derived.Test.YtgganckggdjpaaaYImageWrongx0
namespace Go.Proofs.Ytgganckggdjpaaa
open Go Go.Eng Go.Proofs
set_option linter.unusedVariables false
set_option linter.unusedSimpArgs false
/-! ### 56: drogher/part.Open -/
noncomputable def F56_1.m (x2 : Int) (x3 : Int) (x6 : Bool) (x7 : Int) (x8 : Bool) (x9 : Int) (x10 : Int) (x11 : Int) (x12 : Int) : Option (Unit ⊕ Unit) :=
  (if x11 < (0 : Int) then some (.inl ()) else (if x12 < (1 : Int) then some (.inl ()) else ((F74_1.m (x2) (x3) (x6) (x7) (x8) (x9) (x10)).bind fun y17 => (if x3 < x11 then some (.inl ()) else ((F74_1.m (x2) (x3) (x6) (x7) (x8) (x9) (x10)).bind fun y20 => (if (IntKind.wrap .i64 (x3 - x11)) < x12 then some (.inl ()) else some (.inr ())))))))
set_option maxRecDepth 100000 in
set_option maxHeartbeats 4000000 in
theorem F56_1.spec (b1 : Nat) (z4 : Value) (z5 : Value) (x2 : Int) (x3 : Int) (x6 : Bool) (x7 : Int) (x8 : Bool) (x9 : Int) (x10 : Int) (x11 : Int) (x12 : Int) (r : (Unit ⊕ Unit)) (hm : F56_1.m x2 x3 x6 x7 x8 x9 x10 x11 x12 = some r) :
    Ctr Try.prog false 56 [.pointer (some ⟨b1, 0, none⟩), .agg #[.int .i64 x11, .int .i64 x12]] [Asr.blk b1 102 [Seg.c (.int .i64 x2), Seg.c (.int .i64 x3), Seg.c (z4), Seg.c (z5), Seg.c (.bool x6), Seg.c (.int .i64 x7), Seg.c (.bool x8), Seg.c (.int .i64 x9), Seg.c (.int .u64 x10)]] (fun v L' => match r with | (.inl r) => v = .tuple #[.pointer none, .int .i64 (1 : Int)] ∧ L' = [Asr.blk b1 102 [Seg.c (.int .i64 x2), Seg.c (.int .i64 x3), Seg.c (z4), Seg.c (z5), Seg.c (.bool x6), Seg.c (.int .i64 x7), Seg.c (.bool x8), Seg.c (.int .i64 x9), Seg.c (.int .u64 x10)]] | (.inr r) => ∃ (g13 : Nat), v = .tuple #[.pointer (some ⟨g13, 0, none⟩), .int .i64 (0 : Int)] ∧ L' = [Asr.blk b1 102 [Seg.c (.int .i64 x2), Seg.c (.int .i64 x3), Seg.c (z4), Seg.c (z5), Seg.c (.bool x6), Seg.c (.int .i64 x7), Seg.c (.bool x8), Seg.c (.int .i64 x9), Seg.c (.int .u64 x10)], Asr.blk g13 134 [Seg.c (.pointer (some ⟨b1, 0, none⟩)), Seg.c (.int .i64 x11), Seg.c (.int .i64 x12)]]) := by
  refine Ctr.intro (n := 35) (env := [(0, .pointer (some ⟨b1, 0, none⟩)), (1, .agg #[.int .i64 x11, .int .i64 x12])]) Try.func56 rfl rfl rfl rfl (fun c => ?_)
  unfold F56_1.m at hm
  refine JC.seq ?_
  refine JC.region ?_
  refine JL.mv (d := some 3) (MV.box [Seg.c (.int .i64 x11), Seg.c (.int .i64 x12)] rfl (fun w hs => rfl)) rfl rfl rfl ?_
  rintro _ _ ⟨b14, rfl, rfl⟩
  refine JL.val (v := .pointer none) (QV.assign rfl) rfl rfl rfl ?_
  refine JL.val (v := .int .i64 (0 : Int)) (QV.assign rfl) rfl rfl rfl ?_
  refine JL.nil ?_
  refine QJ.then_normal ?_
  refine JC.seq ?_
  refine JC.seq ?_
  refine JC.regionT [Asr.blk b14 58 [Seg.c (.int .i64 x11), Seg.c (.int .i64 x12)], Asr.blk b1 102 [Seg.c (.int .i64 x2), Seg.c (.int .i64 x3), Seg.c (z4), Seg.c (z5), Seg.c (.bool x6), Seg.c (.int .i64 x7), Seg.c (.bool x8), Seg.c (.int .i64 x9), Seg.c (.int .u64 x10)]] (fun t => false) [(0, false), (1, false), (2, false), (3, false), (4, false), (5, false), (6, false), (7, false), (8, false), (9, true), (10, true), (11, false), (12, false), (13, false), (14, false), (15, false), (16, true), (17, true), (18, true), (20, true), (21, true), (19, false), (22, false), (23, false), (24, false)] (by kernel_rfl) (by kernel_rfl) (by kernel_rfl) rfl (fun hsel => ?_)
  refine JT.only (i := 0) (d := some 6) rfl (MV.ofQV (v := .pointer (some ⟨b14, 0, none⟩)) (QV.fieldB fo_58_0 rfl rfl)) rfl rfl rfl ?_
  rintro _ _ ⟨rfl, rfl⟩
  refine ⟨fun _ => ⟨[0, 1], rfl, rfl⟩, ?_⟩
  refine JT.only (i := 1) (d := some 7) rfl (MV.ofQV (v := .int .i64 x11) (QV.load1 (ss := [Seg.c (.int .i64 x11), Seg.c (.int .i64 x12)]) 0 0 rfl tk_3 rfl rfl rfl)) rfl rfl rfl ?_
  rintro _ _ ⟨rfl, rfl⟩
  refine ⟨fun _ => ⟨[0, 1], rfl, rfl⟩, ?_⟩
  refine JT.only (i := 2) (d := some 8) rfl (MV.ofQV (v := .bool (decide (x11 < (0 : Int)))) (QV.lss rfl rfl)) rfl rfl rfl ?_
  rintro _ _ ⟨rfl, rfl⟩
  refine ⟨fun _ => ⟨[0, 1], rfl, rfl⟩, ?_⟩
  rcases ite_inv hm with ⟨h15, hm⟩ | ⟨h15, hm⟩
  ·
    refine JT.only (i := 3) (d := some 9) rfl (MV.ofQV (v := .bool true) (QV.eq (QV.move rfl) (congrArg Value.bool (decide_eq_true h15)))) rfl rfl rfl ?_
    rintro _ _ ⟨rfl, rfl⟩
    refine ⟨fun _ => ⟨[0, 1], rfl, rfl⟩, ?_⟩
    refine JT.skipO (i := 4) (d := some 10) rfl rfl rfl rfl [0, 1] rfl rfl ?_
    refine JT.skipO (i := 5) (d := some 11) rfl rfl rfl rfl [0, 1] rfl rfl ?_
    refine JT.skipO (i := 6) (d := some 12) rfl rfl rfl rfl [0, 1] rfl rfl ?_
    refine JT.only (i := 7) (d := some 13) rfl (MV.ofQV (v := .bool true) (QV.pickT rfl rfl)) rfl rfl rfl ?_
    rintro _ _ ⟨rfl, rfl⟩
    refine ⟨fun _ => ⟨[0, 1], rfl, rfl⟩, ?_⟩
    refine JT.only (i := 8) (d := some 14) rfl (MV.ofQV (v := .bool true) (QV.move rfl)) rfl rfl rfl ?_
    rintro _ _ ⟨rfl, rfl⟩
    refine ⟨fun _ => ⟨[0, 1], rfl, rfl⟩, ?_⟩
    refine JT.skip (i := 9) (d := some 15) hsel rfl rfl rfl rfl rfl [0, 1] rfl rfl ?_
    refine JT.skip (i := 10) (d := some 16) hsel rfl rfl rfl rfl rfl [0, 1] rfl rfl ?_
    refine JT.skipO (i := 11) (d := some 17) rfl rfl rfl rfl [0, 1] rfl rfl ?_
    refine JT.skipO (i := 12) (d := some 18) rfl rfl rfl rfl [0, 1] rfl rfl ?_
    refine JT.skipO (i := 13) (d := some 19) rfl rfl rfl rfl [0, 1] rfl rfl ?_
    refine JT.only (i := 14) (d := some 20) rfl (MV.ofQV (v := .bool true) (QV.pickT rfl rfl)) rfl rfl rfl ?_
    rintro _ _ ⟨rfl, rfl⟩
    refine ⟨fun _ => ⟨[0, 1], rfl, rfl⟩, ?_⟩
    refine JT.only (i := 15) (d := some 21) rfl (MV.ofQV (v := .bool true) (QV.move rfl)) rfl rfl rfl ?_
    rintro _ _ ⟨rfl, rfl⟩
    refine ⟨fun _ => ⟨[0, 1], rfl, rfl⟩, ?_⟩
    refine JT.skip (i := 16) (d := some 22) hsel rfl rfl rfl rfl rfl [0, 1] rfl rfl ?_
    refine JT.skip (i := 17) (d := some 23) hsel rfl rfl rfl rfl rfl [0, 1] rfl rfl ?_
    refine JT.skip (i := 18) (d := some 24) hsel rfl rfl rfl rfl rfl [0, 1] rfl rfl ?_
    refine JT.skip (i := 20) (d := some 26) hsel rfl rfl rfl rfl rfl [0, 1] rfl rfl ?_
    refine JT.skip (i := 21) (d := some 27) hsel rfl rfl rfl rfl rfl [0, 1] rfl rfl ?_
    refine JT.skipO (i := 19) (d := some 25) rfl rfl rfl rfl [0, 1] rfl rfl ?_
    refine JT.skipO (i := 22) (d := some 28) rfl rfl rfl rfl [0, 1] rfl rfl ?_
    refine JT.skipO (i := 23) (d := some 29) rfl rfl rfl rfl [0, 1] rfl rfl ?_
    refine JT.only (i := 24) (d := some 30) rfl (MV.ofQV (v := .bool true) (QV.pickT rfl rfl)) rfl rfl rfl ?_
    rintro _ _ ⟨rfl, rfl⟩
    refine ⟨fun _ => ⟨[0, 1], rfl, rfl⟩, ?_⟩
    refine JT.nil ?_
    refine QJ.then_normal ?_
    refine JC.condT rfl ?_
    refine JC.seq ?_
    refine JC.region ?_
    refine JL.val (v := .pointer none) (QV.assign rfl) rfl rfl rfl ?_
    refine JL.val (v := .int .i64 (1 : Int)) (QV.assign rfl) rfl rfl rfl ?_
    refine JL.nil ?_
    refine QJ.then_normal ?_
    refine JC.ret ?_
    refine QJ.then_ret ?_
    obtain rfl := Option.some.inj hm
    exact QJ.body (vs := [.pointer none, .int .i64 (1 : Int)]) (.inl rfl) rfl (ResVs.cons (ResV.tmp rfl) (ResVs.cons (ResV.tmp rfl) ResVs.nil)) [1] rfl rfl (.inr ⟨own_blk _ _ _, trivial⟩) ⟨rfl, rfl⟩
  ·
    refine JT.only (i := 3) (d := some 9) rfl (MV.ofQV (v := .bool false) (QV.eq (QV.move rfl) (congrArg Value.bool (decide_eq_false h15)))) rfl rfl rfl ?_
    rintro _ _ ⟨rfl, rfl⟩
    refine ⟨fun _ => ⟨[0, 1], rfl, rfl⟩, ?_⟩
    refine JT.only (i := 4) (d := some 10) rfl (MV.ofQV (v := .pointer (some ⟨b14, 1, none⟩)) (QV.fieldB fo_58_1 rfl rfl)) rfl rfl rfl ?_
    rintro _ _ ⟨rfl, rfl⟩
    refine ⟨fun _ => ⟨[0, 1], rfl, rfl⟩, ?_⟩
    refine JT.only (i := 5) (d := some 11) rfl (MV.ofQV (v := .int .i64 x12) (QV.load1 (ss := [Seg.c (.int .i64 x11), Seg.c (.int .i64 x12)]) 0 1 rfl tk_3 rfl rfl rfl)) rfl rfl rfl ?_
    rintro _ _ ⟨rfl, rfl⟩
    refine ⟨fun _ => ⟨[0, 1], rfl, rfl⟩, ?_⟩
    refine JT.only (i := 6) (d := some 12) rfl (MV.ofQV (v := .bool (decide (x12 < (1 : Int)))) (QV.lss rfl rfl)) rfl rfl rfl ?_
    rintro _ _ ⟨rfl, rfl⟩
    refine ⟨fun _ => ⟨[0, 1], rfl, rfl⟩, ?_⟩
    refine JT.only (i := 7) (d := some 13) rfl (MV.ofQV (v := .bool (decide (x12 < (1 : Int)))) (QV.pickF rfl rfl)) rfl rfl rfl ?_
    rintro _ _ ⟨rfl, rfl⟩
    refine ⟨fun _ => ⟨[0, 1], rfl, rfl⟩, ?_⟩
    rcases ite_inv hm with ⟨h16, hm⟩ | ⟨h16, hm⟩
    ·
      refine JT.only (i := 8) (d := some 14) rfl (MV.ofQV (v := .bool true) (QV.eq (QV.move rfl) (congrArg Value.bool (decide_eq_true h16)))) rfl rfl rfl ?_
      rintro _ _ ⟨rfl, rfl⟩
      refine ⟨fun _ => ⟨[0, 1], rfl, rfl⟩, ?_⟩
      refine JT.skip (i := 9) (d := some 15) hsel rfl rfl rfl rfl rfl [0, 1] rfl rfl ?_
      refine JT.skip (i := 10) (d := some 16) hsel rfl rfl rfl rfl rfl [0, 1] rfl rfl ?_
      refine JT.skipO (i := 11) (d := some 17) rfl rfl rfl rfl [0, 1] rfl rfl ?_
      refine JT.skipO (i := 12) (d := some 18) rfl rfl rfl rfl [0, 1] rfl rfl ?_
      refine JT.skipO (i := 13) (d := some 19) rfl rfl rfl rfl [0, 1] rfl rfl ?_
      refine JT.only (i := 14) (d := some 20) rfl (MV.ofQV (v := .bool true) (QV.pickT rfl rfl)) rfl rfl rfl ?_
      rintro _ _ ⟨rfl, rfl⟩
      refine ⟨fun _ => ⟨[0, 1], rfl, rfl⟩, ?_⟩
      refine JT.only (i := 15) (d := some 21) rfl (MV.ofQV (v := .bool true) (QV.move rfl)) rfl rfl rfl ?_
      rintro _ _ ⟨rfl, rfl⟩
      refine ⟨fun _ => ⟨[0, 1], rfl, rfl⟩, ?_⟩
      refine JT.skip (i := 16) (d := some 22) hsel rfl rfl rfl rfl rfl [0, 1] rfl rfl ?_
      refine JT.skip (i := 17) (d := some 23) hsel rfl rfl rfl rfl rfl [0, 1] rfl rfl ?_
      refine JT.skip (i := 18) (d := some 24) hsel rfl rfl rfl rfl rfl [0, 1] rfl rfl ?_
      refine JT.skip (i := 20) (d := some 26) hsel rfl rfl rfl rfl rfl [0, 1] rfl rfl ?_
      refine JT.skip (i := 21) (d := some 27) hsel rfl rfl rfl rfl rfl [0, 1] rfl rfl ?_
      refine JT.skipO (i := 19) (d := some 25) rfl rfl rfl rfl [0, 1] rfl rfl ?_
      refine JT.skipO (i := 22) (d := some 28) rfl rfl rfl rfl [0, 1] rfl rfl ?_
      refine JT.skipO (i := 23) (d := some 29) rfl rfl rfl rfl [0, 1] rfl rfl ?_
      refine JT.only (i := 24) (d := some 30) rfl (MV.ofQV (v := .bool true) (QV.pickT rfl rfl)) rfl rfl rfl ?_
      rintro _ _ ⟨rfl, rfl⟩
      refine ⟨fun _ => ⟨[0, 1], rfl, rfl⟩, ?_⟩
      refine JT.nil ?_
      refine QJ.then_normal ?_
      refine JC.condT rfl ?_
      refine JC.seq ?_
      refine JC.region ?_
      refine JL.val (v := .pointer none) (QV.assign rfl) rfl rfl rfl ?_
      refine JL.val (v := .int .i64 (1 : Int)) (QV.assign rfl) rfl rfl rfl ?_
      refine JL.nil ?_
      refine QJ.then_normal ?_
      refine JC.ret ?_
      refine QJ.then_ret ?_
      obtain rfl := Option.some.inj hm
      exact QJ.body (vs := [.pointer none, .int .i64 (1 : Int)]) (.inl rfl) rfl (ResVs.cons (ResV.tmp rfl) (ResVs.cons (ResV.tmp rfl) ResVs.nil)) [1] rfl rfl (.inr ⟨own_blk _ _ _, trivial⟩) ⟨rfl, rfl⟩
    ·
      refine JT.only (i := 8) (d := some 14) rfl (MV.ofQV (v := .bool false) (QV.eq (QV.move rfl) (congrArg Value.bool (decide_eq_false h16)))) rfl rfl rfl ?_
      rintro _ _ ⟨rfl, rfl⟩
      refine ⟨fun _ => ⟨[0, 1], rfl, rfl⟩, ?_⟩
      refine JT.take (i := 9) (v := .pointer (some ⟨b14, 0, none⟩)) hsel rfl (QV.fieldB fo_58_0 rfl rfl) rfl rfl rfl rfl [0, 1] rfl rfl ?_
      refine JT.take (i := 10) (v := .int .i64 x11) hsel rfl (QV.load1 (ss := [Seg.c (.int .i64 x11), Seg.c (.int .i64 x12)]) 0 0 rfl tk_3 rfl rfl rfl) rfl rfl rfl rfl [0, 1] rfl rfl ?_
      refine JT.only (i := 11) (d := some 17) rfl (MV.ofQV (v := .pointer (some ⟨b1, 0, none⟩)) (QV.move rfl)) rfl rfl rfl ?_
      rintro _ _ ⟨rfl, rfl⟩
      refine ⟨fun _ => ⟨[0, 1], rfl, rfl⟩, ?_⟩
      obtain ⟨y17, hc18, hm⟩ := bind_inv hm
      refine JT.only (i := 12) (d := some 18) rfl (MV.call (Lo := [Asr.blk b1 102 [Seg.c (.int .i64 x2), Seg.c (.int .i64 x3), Seg.c (z4), Seg.c (z5), Seg.c (.bool x6), Seg.c (.int .i64 x7), Seg.c (.bool x8), Seg.c (.int .i64 x9), Seg.c (.int .u64 x10)]]) (Lr := [Asr.blk b14 58 [Seg.c (.int .i64 x11), Seg.c (.int .i64 x12)]]) (F74_1.spec (b1) (z4) (z5) (x2) (x3) (x6) (x7) (x8) (x9) (x10) _ hc18) rfl Try.func74 rfl rfl rfl [1] [0] rfl rfl rfl trivial) rfl rfl rfl ?_
      rintro _ _ ⟨_, ⟨rfl, rfl⟩, rfl⟩
      refine ⟨fun _ => ⟨[1, 0], rfl, rfl⟩, ?_⟩
      refine JT.grow [Asr.blk b1 102 [Seg.c (.int .i64 x2), Seg.c (.int .i64 x3), Seg.c (z4), Seg.c (z5), Seg.c (.bool x6), Seg.c (.int .i64 x7), Seg.c (.bool x8), Seg.c (.int .i64 x9), Seg.c (.int .u64 x10)], Asr.blk b14 58 [Seg.c (.int .i64 x11), Seg.c (.int .i64 x12)]] [1, 0] rfl rfl ?_
      refine JT.only (i := 13) (d := some 19) rfl (MV.ofQV (v := .bool (decide (x3 < x11))) (QV.gtr rfl rfl)) rfl rfl rfl ?_
      rintro _ _ ⟨rfl, rfl⟩
      refine ⟨fun _ => ⟨[0, 1], rfl, rfl⟩, ?_⟩
      refine JT.only (i := 14) (d := some 20) rfl (MV.ofQV (v := .bool (decide (x3 < x11))) (QV.pickF rfl rfl)) rfl rfl rfl ?_
      rintro _ _ ⟨rfl, rfl⟩
      refine ⟨fun _ => ⟨[0, 1], rfl, rfl⟩, ?_⟩
      rcases ite_inv hm with ⟨h19, hm⟩ | ⟨h19, hm⟩
      ·
        refine JT.only (i := 15) (d := some 21) rfl (MV.ofQV (v := .bool true) (QV.eq (QV.move rfl) (congrArg Value.bool (decide_eq_true h19)))) rfl rfl rfl ?_
        rintro _ _ ⟨rfl, rfl⟩
        refine ⟨fun _ => ⟨[0, 1], rfl, rfl⟩, ?_⟩
        refine JT.skip (i := 16) (d := some 22) hsel rfl rfl rfl rfl rfl [0, 1] rfl rfl ?_
        refine JT.skip (i := 17) (d := some 23) hsel rfl rfl rfl rfl rfl [0, 1] rfl rfl ?_
        refine JT.skip (i := 18) (d := some 24) hsel rfl rfl rfl rfl rfl [0, 1] rfl rfl ?_
        refine JT.skip (i := 20) (d := some 26) hsel rfl rfl rfl rfl rfl [0, 1] rfl rfl ?_
        refine JT.skip (i := 21) (d := some 27) hsel rfl rfl rfl rfl rfl [0, 1] rfl rfl ?_
        refine JT.skipO (i := 19) (d := some 25) rfl rfl rfl rfl [0, 1] rfl rfl ?_
        refine JT.skipO (i := 22) (d := some 28) rfl rfl rfl rfl [0, 1] rfl rfl ?_
        refine JT.skipO (i := 23) (d := some 29) rfl rfl rfl rfl [0, 1] rfl rfl ?_
        refine JT.only (i := 24) (d := some 30) rfl (MV.ofQV (v := .bool true) (QV.pickT rfl rfl)) rfl rfl rfl ?_
        rintro _ _ ⟨rfl, rfl⟩
        refine ⟨fun _ => ⟨[0, 1], rfl, rfl⟩, ?_⟩
        refine JT.nil ?_
        refine QJ.then_normal ?_
        refine JC.condT rfl ?_
        refine JC.seq ?_
        refine JC.region ?_
        refine JL.val (v := .pointer none) (QV.assign rfl) rfl rfl rfl ?_
        refine JL.val (v := .int .i64 (1 : Int)) (QV.assign rfl) rfl rfl rfl ?_
        refine JL.nil ?_
        refine QJ.then_normal ?_
        refine JC.ret ?_
        refine QJ.then_ret ?_
        obtain rfl := Option.some.inj hm
        exact QJ.body (vs := [.pointer none, .int .i64 (1 : Int)]) (.inl rfl) rfl (ResVs.cons (ResV.tmp rfl) (ResVs.cons (ResV.tmp rfl) ResVs.nil)) [0] rfl rfl (.inr ⟨own_blk _ _ _, trivial⟩) ⟨rfl, rfl⟩
      ·
        refine JT.only (i := 15) (d := some 21) rfl (MV.ofQV (v := .bool false) (QV.eq (QV.move rfl) (congrArg Value.bool (decide_eq_false h19)))) rfl rfl rfl ?_
        rintro _ _ ⟨rfl, rfl⟩
        refine ⟨fun _ => ⟨[0, 1], rfl, rfl⟩, ?_⟩
        refine JT.take (i := 16) (v := .pointer (some ⟨b14, 1, none⟩)) hsel rfl (QV.fieldB fo_58_1 rfl rfl) rfl rfl rfl rfl [0, 1] rfl rfl ?_
        refine JT.take (i := 17) (v := .int .i64 x12) hsel rfl (QV.load1 (ss := [Seg.c (.int .i64 x11), Seg.c (.int .i64 x12)]) 1 1 rfl tk_3 rfl rfl rfl) rfl rfl rfl rfl [0, 1] rfl rfl ?_
        refine JT.take (i := 18) (v := .pointer (some ⟨b1, 0, none⟩)) hsel rfl (QV.move rfl) rfl rfl rfl rfl [0, 1] rfl rfl ?_
        refine JT.take (i := 20) (v := .pointer (some ⟨b14, 0, none⟩)) hsel rfl (QV.fieldB fo_58_0 rfl rfl) rfl rfl rfl rfl [0, 1] rfl rfl ?_
        refine JT.take (i := 21) (v := .int .i64 x11) hsel rfl (QV.load1 (ss := [Seg.c (.int .i64 x11), Seg.c (.int .i64 x12)]) 1 0 rfl tk_3 rfl rfl rfl) rfl rfl rfl rfl [0, 1] rfl rfl ?_
        obtain ⟨y20, hc21, hm⟩ := bind_inv hm
        refine JT.only (i := 19) (d := some 25) rfl (MV.call (Lo := [Asr.blk b1 102 [Seg.c (.int .i64 x2), Seg.c (.int .i64 x3), Seg.c (z4), Seg.c (z5), Seg.c (.bool x6), Seg.c (.int .i64 x7), Seg.c (.bool x8), Seg.c (.int .i64 x9), Seg.c (.int .u64 x10)]]) (Lr := [Asr.blk b14 58 [Seg.c (.int .i64 x11), Seg.c (.int .i64 x12)]]) (F74_1.spec (b1) (z4) (z5) (x2) (x3) (x6) (x7) (x8) (x9) (x10) _ hc21) rfl Try.func74 rfl rfl rfl [0] [1] rfl rfl rfl trivial) rfl rfl rfl ?_
        rintro _ _ ⟨_, ⟨rfl, rfl⟩, rfl⟩
        refine ⟨fun _ => ⟨[0, 1], rfl, rfl⟩, ?_⟩
        refine JT.only (i := 22) (d := some 28) rfl (MV.ofQV (v := .int .i64 (IntKind.wrap .i64 (x3 - x11))) (QV.sub rfl rfl)) rfl rfl rfl ?_
        rintro _ _ ⟨rfl, rfl⟩
        refine ⟨fun _ => ⟨[0, 1], rfl, rfl⟩, ?_⟩
        refine JT.only (i := 23) (d := some 29) rfl (MV.ofQV (v := .bool (decide ((IntKind.wrap .i64 (x3 - x11)) < x12))) (QV.gtr rfl rfl)) rfl rfl rfl ?_
        rintro _ _ ⟨rfl, rfl⟩
        refine ⟨fun _ => ⟨[0, 1], rfl, rfl⟩, ?_⟩
        refine JT.only (i := 24) (d := some 30) rfl (MV.ofQV (v := .bool (decide ((IntKind.wrap .i64 (x3 - x11)) < x12))) (QV.pickF rfl rfl)) rfl rfl rfl ?_
        rintro _ _ ⟨rfl, rfl⟩
        refine ⟨fun _ => ⟨[0, 1], rfl, rfl⟩, ?_⟩
        refine JT.nil ?_
        refine QJ.then_normal ?_
        rcases ite_inv hm with ⟨h22, hm⟩ | ⟨h22, hm⟩
        ·
          refine JC.condT' rfl (decide_eq_true h22) ?_
          refine JC.seq ?_
          refine JC.region ?_
          refine JL.val (v := .pointer none) (QV.assign rfl) rfl rfl rfl ?_
          refine JL.val (v := .int .i64 (1 : Int)) (QV.assign rfl) rfl rfl rfl ?_
          refine JL.nil ?_
          refine QJ.then_normal ?_
          refine JC.ret ?_
          refine QJ.then_ret ?_
          obtain rfl := Option.some.inj hm
          exact QJ.body (vs := [.pointer none, .int .i64 (1 : Int)]) (.inl rfl) rfl (ResVs.cons (ResV.tmp rfl) (ResVs.cons (ResV.tmp rfl) ResVs.nil)) [0] rfl rfl (.inr ⟨own_blk _ _ _, trivial⟩) ⟨rfl, rfl⟩
        ·
          refine JC.condF' rfl (decide_eq_false h22) ?_
          refine JC.skip ?_
          refine QJ.then_normal ?_
          refine JC.seq ?_
          refine JC.region ?_
          refine JL.val (v := .pointer (some ⟨b1, 0, none⟩)) (QV.move rfl) rfl rfl rfl ?_
          refine JL.val (v := .agg #[.int .i64 x11, .int .i64 x12]) (QV.eq (QV.loadN (ss := [Seg.c (.int .i64 x11), Seg.c (.int .i64 x12)]) 1 0 2 rfl tk_58 rfl rfl rfl rfl) rfl) rfl rfl rfl ?_
          refine JL.val (v := .agg #[.pointer (some ⟨b1, 0, none⟩), .int .i64 x11, .int .i64 x12]) (QV.build (vals := [(0, .pointer (some ⟨b1, 0, none⟩)), (1, .agg #[.int .i64 x11, .int .i64 x12])]) rfl (by kernel_rfl)) rfl rfl rfl ?_
          refine JL.mv (d := some 34) (MV.box [Seg.c (.pointer (some ⟨b1, 0, none⟩)), Seg.c (.int .i64 x11), Seg.c (.int .i64 x12)] rfl (fun w hs => rfl)) rfl rfl rfl ?_
          rintro _ _ ⟨b23, rfl, rfl⟩
          refine JL.val (v := .pointer (some ⟨b23, 0, none⟩)) (QV.assign rfl) rfl rfl rfl ?_
          refine JL.val (v := .int .i64 (0 : Int)) (QV.assign rfl) rfl rfl rfl ?_
          refine JL.nil ?_
          refine QJ.then_normal ?_
          refine JC.ret ?_
          obtain rfl := Option.some.inj hm
          exact QJ.body (vs := [.pointer (some ⟨b23, 0, none⟩), .int .i64 (0 : Int)]) (.inl rfl) rfl (ResVs.cons (ResV.tmp rfl) (ResVs.cons (ResV.tmp rfl) ResVs.nil)) [1, 0] rfl rfl (.inr ⟨own_blk _ _ _, own_blk _ _ _, trivial⟩) ⟨b23, rfl, rfl⟩

/-! ### 29: drogher/image.Open -/
noncomputable def F29_1.j1 (x2 : Int) (x3 : Int) (x6 : Bool) (x7 : Int) (x8 : Bool) (x9 : Int) (x10 : Int) (y25 : ((Arr (Int × Int) 2) × Int × Int × (Arr (Int × Int) 2) × Int × Int))  : Option (Unit ⊕ (Int × Int × Int × Int × Int × Int)) :=
  ((F56_1.m (x2) (x3) (x6) (x7) (x8) (x9) (x10) (y25.2.1) (y25.2.2.1)).bind fun y35 => match y35 with | (.inl y37) => some (.inl ()) | (.inr y38) => some (.inr ((gd (y25.2.2.2.1).l (0 : Int)).1, (gd (y25.2.2.2.1).l (0 : Int)).2, (gd (y25.2.2.2.1).l (1 : Int)).1, (gd (y25.2.2.2.1).l (1 : Int)).2, y25.2.1, y25.2.2.1)))
noncomputable def F29_1.m (x2 : Int) (x3 : Int) (x6 : Bool) (x7 : Int) (x8 : Bool) (x9 : Int) (x10 : Int) (x11 : Int) (x12 : Int) (x13 : Int) : Option (Unit ⊕ (Int × Int × Int × Int × Int × Int)) :=
  ((F54.m (x11) (x12) (x13)).bind fun y25 => (if y25.2.2.2.2.2 = (0 : Int) then ((F55_1.m (x2) (x3) (x6) (x7) (x8) (x9) (x10)).bind fun y29 => (if x2 = x11 then ((F56_1.m (x2) (x3) (x6) (x7) (x8) (x9) (x10) ((gd (y25.2.2.2.1).l (0 : Int)).1) ((gd (y25.2.2.2.1).l (0 : Int)).2)).bind fun y41 => match y41 with | (.inl y43) => some (.inl ()) | (.inr y44) => ((F56_1.m (x2) (x3) (x6) (x7) (x8) (x9) (x10) ((gd (y25.2.2.2.1).l (1 : Int)).1) ((gd (y25.2.2.2.1).l (1 : Int)).2)).bind fun y47 => match y47 with | (.inl y49) => some (.inl ()) | (.inr y50) => F29_1.j1 x2 x3 x6 x7 x8 x9 x10 y25)) else some (.inl ()))) else some (.inl ())))
set_option maxRecDepth 100000 in
set_option maxHeartbeats 4000000 in
theorem F29_1.spec (b1 : Nat) (z4 : Value) (z5 : Value) (x2 : Int) (x3 : Int) (x6 : Bool) (x7 : Int) (x8 : Bool) (x9 : Int) (x10 : Int) (x11 : Int) (x12 : Int) (x13 : Int) (r : (Unit ⊕ (Int × Int × Int × Int × Int × Int))) (hm : F29_1.m x2 x3 x6 x7 x8 x9 x10 x11 x12 x13 = some r) :
    Ctr Try.prog false 29 [.pointer (some ⟨b1, 0, none⟩), .agg #[.int .i64 x11, .int .i64 x12, .int .i64 x13]] [Asr.blk b1 102 [Seg.c (.int .i64 x2), Seg.c (.int .i64 x3), Seg.c (z4), Seg.c (z5), Seg.c (.bool x6), Seg.c (.int .i64 x7), Seg.c (.bool x8), Seg.c (.int .i64 x9), Seg.c (.int .u64 x10)]] (fun v L' => match r with | (.inl r) => v = .tuple #[.pointer none, .int .i64 (1 : Int)] ∧ L' = [Asr.blk b1 102 [Seg.c (.int .i64 x2), Seg.c (.int .i64 x3), Seg.c (z4), Seg.c (z5), Seg.c (.bool x6), Seg.c (.int .i64 x7), Seg.c (.bool x8), Seg.c (.int .i64 x9), Seg.c (.int .u64 x10)]] | (.inr r) => ∃ (g14 : Nat), ∃ (g15 : Nat), ∃ (g18 : Nat), ∃ (g21 : Nat), v = .tuple #[.pointer (some ⟨g14, 0, none⟩), .int .i64 (0 : Int)] ∧ L' = [Asr.blk b1 102 [Seg.c (.int .i64 x2), Seg.c (.int .i64 x3), Seg.c (z4), Seg.c (z5), Seg.c (.bool x6), Seg.c (.int .i64 x7), Seg.c (.bool x8), Seg.c (.int .i64 x9), Seg.c (.int .u64 x10)], Asr.blk g15 134 [Seg.c (.pointer (some ⟨b1, 0, none⟩)), Seg.c (.int .i64 r.1), Seg.c (.int .i64 r.2.1)], Asr.blk g18 134 [Seg.c (.pointer (some ⟨b1, 0, none⟩)), Seg.c (.int .i64 r.2.2.1), Seg.c (.int .i64 r.2.2.2.1)], Asr.blk g21 134 [Seg.c (.pointer (some ⟨b1, 0, none⟩)), Seg.c (.int .i64 r.2.2.2.2.1), Seg.c (.int .i64 r.2.2.2.2.2)], Asr.blk g14 108 [Seg.c (.int .i64 x11), Seg.c (.int .i64 x12), Seg.c (.int .i64 x13), Seg.c (.pointer (some ⟨g15, 0, none⟩)), Seg.c (.pointer (some ⟨g18, 0, none⟩)), Seg.c (.pointer (some ⟨g21, 0, none⟩))]]) := by
  refine Ctr.intro (n := 63) (env := [(0, .pointer (some ⟨b1, 0, none⟩)), (1, .agg #[.int .i64 x11, .int .i64 x12, .int .i64 x13])]) Try.func29 rfl rfl rfl rfl (fun c => ?_)
  unfold F29_1.m at hm
  refine JC.seq ?_
  refine JC.region ?_
  refine JL.mv (d := some 3) (MV.box [Seg.c (.int .i64 x11), Seg.c (.int .i64 x12), Seg.c (.int .i64 x13)] rfl (fun w hs => rfl)) rfl rfl rfl ?_
  rintro _ _ ⟨b24, rfl, rfl⟩
  refine JL.val (v := .pointer none) (QV.assign rfl) rfl rfl rfl ?_
  refine JL.val (v := .int .i64 (0 : Int)) (QV.assign rfl) rfl rfl rfl ?_
  refine JL.nil ?_
  refine QJ.then_normal ?_
  refine JC.seq ?_
  refine JC.region ?_
  refine JL.val (v := .agg #[.int .i64 x11, .int .i64 x12, .int .i64 x13]) (QV.eq (QV.loadN (ss := [Seg.c (.int .i64 x11), Seg.c (.int .i64 x12), Seg.c (.int .i64 x13)]) 0 0 3 rfl tk_47 rfl rfl rfl rfl) rfl) rfl rfl rfl ?_
  obtain ⟨y25, hc26, hm⟩ := bind_inv hm
  refine JL.mv (d := some 13) (MV.call (Lo := []) (Lr := [Asr.blk b24 47 [Seg.c (.int .i64 x11), Seg.c (.int .i64 x12), Seg.c (.int .i64 x13)], Asr.blk b1 102 [Seg.c (.int .i64 x2), Seg.c (.int .i64 x3), Seg.c (z4), Seg.c (z5), Seg.c (.bool x6), Seg.c (.int .i64 x7), Seg.c (.bool x8), Seg.c (.int .i64 x9), Seg.c (.int .u64 x10)]]) (F54.spec (x11) (x12) (x13) _ hc26) rfl Try.func54 rfl rfl rfl [] [0, 1] rfl rfl rfl trivial) rfl rfl rfl ?_
  rintro _ _ ⟨_, ⟨rfl, rfl⟩, rfl⟩
  refine JL.val (v := .tuple #[.agg (flat [Seg.of (Enc.arr 2 (Enc.pair (Enc.int .i64) (Enc.int .i64))) y25.1, Seg.c (.int .i64 y25.2.1), Seg.c (.int .i64 y25.2.2.1), Seg.of (Enc.arr 2 (Enc.pair (Enc.int .i64) (Enc.int .i64))) y25.2.2.2.1, Seg.c (.int .i64 y25.2.2.2.2.1)]).toArray, .int .i64 y25.2.2.2.2.2]) (QV.move rfl) rfl rfl rfl ?_
  refine JL.val (v := .agg (flat [Seg.of (Enc.arr 2 (Enc.pair (Enc.int .i64) (Enc.int .i64))) y25.1, Seg.c (.int .i64 y25.2.1), Seg.c (.int .i64 y25.2.2.1), Seg.of (Enc.arr 2 (Enc.pair (Enc.int .i64) (Enc.int .i64))) y25.2.2.2.1, Seg.c (.int .i64 y25.2.2.2.2.1)]).toArray) (QV.extract (vs := [.agg (flat [Seg.of (Enc.arr 2 (Enc.pair (Enc.int .i64) (Enc.int .i64))) y25.1, Seg.c (.int .i64 y25.2.1), Seg.c (.int .i64 y25.2.2.1), Seg.of (Enc.arr 2 (Enc.pair (Enc.int .i64) (Enc.int .i64))) y25.2.2.2.1, Seg.c (.int .i64 y25.2.2.2.2.1)]).toArray, .int .i64 y25.2.2.2.2.2]) rfl rfl) rfl rfl rfl ?_
  refine JL.val (v := .int .i64 y25.2.2.2.2.2) (QV.extract (vs := [.agg (flat [Seg.of (Enc.arr 2 (Enc.pair (Enc.int .i64) (Enc.int .i64))) y25.1, Seg.c (.int .i64 y25.2.1), Seg.c (.int .i64 y25.2.2.1), Seg.of (Enc.arr 2 (Enc.pair (Enc.int .i64) (Enc.int .i64))) y25.2.2.2.1, Seg.c (.int .i64 y25.2.2.2.2.1)]).toArray, .int .i64 y25.2.2.2.2.2]) rfl rfl) rfl rfl rfl ?_
  refine JL.mv (d := some 6) (MV.alloc [Seg.of (Enc.arr 2 (Enc.pair (Enc.int .i64) (Enc.int .i64))) (Arr.rep 2 ((0 : Int), (0 : Int))), Seg.c (.int .i64 (0 : Int)), Seg.c (.int .i64 (0 : Int)), Seg.of (Enc.arr 2 (Enc.pair (Enc.int .i64) (Enc.int .i64))) (Arr.rep 2 ((0 : Int), (0 : Int))), Seg.c (.int .i64 (0 : Int))] z_61 rfl) rfl rfl rfl ?_
  rintro _ _ ⟨b27, rfl, rfl⟩
  refine JL.mv (d := none) (MV.store (ss := [Seg.of (Enc.arr 2 (Enc.pair (Enc.int .i64) (Enc.int .i64))) (Arr.rep 2 ((0 : Int), (0 : Int))), Seg.c (.int .i64 (0 : Int)), Seg.c (.int .i64 (0 : Int)), Seg.of (Enc.arr 2 (Enc.pair (Enc.int .i64) (Enc.int .i64))) (Arr.rep 2 ((0 : Int), (0 : Int))), Seg.c (.int .i64 (0 : Int))]) 0 0 5 [Seg.of (Enc.arr 2 (Enc.pair (Enc.int .i64) (Enc.int .i64))) y25.1, Seg.c (.int .i64 y25.2.1), Seg.c (.int .i64 y25.2.2.1), Seg.of (Enc.arr 2 (Enc.pair (Enc.int .i64) (Enc.int .i64))) y25.2.2.2.1, Seg.c (.int .i64 y25.2.2.2.2.1)] rfl tk_61 rfl rfl rfl rfl (fun w hs => ⟨rfl, one_of _ _, one_c rfl, one_c rfl, one_of _ _, one_c rfl, trivial⟩)) rfl rfl rfl ?_
  rintro _ _ ⟨rfl, rfl⟩
  refine JL.val (v := .int .i64 y25.2.2.2.2.2) (QV.assign rfl) rfl rfl rfl ?_
  refine JL.nil ?_
  refine QJ.then_normal ?_
  refine JC.seq ?_
  refine JC.seq ?_
  refine JC.regionT [Asr.blk b27 61 [Seg.of (Enc.arr 2 (Enc.pair (Enc.int .i64) (Enc.int .i64))) y25.1, Seg.c (.int .i64 y25.2.1), Seg.c (.int .i64 y25.2.2.1), Seg.of (Enc.arr 2 (Enc.pair (Enc.int .i64) (Enc.int .i64))) y25.2.2.2.1, Seg.c (.int .i64 y25.2.2.2.2.1)], Asr.blk b24 47 [Seg.c (.int .i64 x11), Seg.c (.int .i64 x12), Seg.c (.int .i64 x13)], Asr.blk b1 102 [Seg.c (.int .i64 x2), Seg.c (.int .i64 x3), Seg.c (z4), Seg.c (z5), Seg.c (.bool x6), Seg.c (.int .i64 x7), Seg.c (.bool x8), Seg.c (.int .i64 x9), Seg.c (.int .u64 x10)]] (fun t => false) [(0, false), (1, false), (2, false), (3, true), (5, true), (6, true), (4, false), (7, false), (8, false)] (by kernel_rfl) (by kernel_rfl) (by kernel_rfl) rfl (fun hsel => ?_)
  refine JT.only (i := 0) (d := some 16) rfl (MV.ofQV (v := .int .i64 y25.2.2.2.2.2) (QV.move rfl)) rfl rfl rfl ?_
  rintro _ _ ⟨rfl, rfl⟩
  refine ⟨fun _ => ⟨[0, 1, 2], rfl, rfl⟩, ?_⟩
  refine JT.only (i := 1) (d := some 17) rfl (MV.ofQV (v := .bool (!(decide (y25.2.2.2.2.2 = (0 : Int))))) (QV.neq rfl rfl)) rfl rfl rfl ?_
  rintro _ _ ⟨rfl, rfl⟩
  refine ⟨fun _ => ⟨[0, 1, 2], rfl, rfl⟩, ?_⟩
  rcases ite_inv hm with ⟨h28, hm⟩ | ⟨h28, hm⟩
  ·
    refine JT.only (i := 2) (d := some 18) rfl (MV.ofQV (v := .bool false) (QV.eq (QV.move rfl) (congrArg Value.bool (congrArg Bool.not (decide_eq_true h28))))) rfl rfl rfl ?_
    rintro _ _ ⟨rfl, rfl⟩
    refine ⟨fun _ => ⟨[0, 1, 2], rfl, rfl⟩, ?_⟩
    refine JT.take (i := 3) (v := .pointer (some ⟨b1, 0, none⟩)) hsel rfl (QV.move rfl) rfl rfl rfl rfl [0, 1, 2] rfl rfl ?_
    refine JT.take (i := 5) (v := .pointer (some ⟨b24, 0, none⟩)) hsel rfl (QV.fieldB fo_47_0 rfl rfl) rfl rfl rfl rfl [0, 1, 2] rfl rfl ?_
    refine JT.take (i := 6) (v := .int .i64 x11) hsel rfl (QV.load1 (ss := [Seg.c (.int .i64 x11), Seg.c (.int .i64 x12), Seg.c (.int .i64 x13)]) 1 0 rfl tk_3 rfl rfl rfl) rfl rfl rfl rfl [0, 1, 2] rfl rfl ?_
    obtain ⟨y29, hc30, hm⟩ := bind_inv hm
    refine JT.only (i := 4) (d := some 20) rfl (MV.call (Lo := [Asr.blk b1 102 [Seg.c (.int .i64 x2), Seg.c (.int .i64 x3), Seg.c (z4), Seg.c (z5), Seg.c (.bool x6), Seg.c (.int .i64 x7), Seg.c (.bool x8), Seg.c (.int .i64 x9), Seg.c (.int .u64 x10)]]) (Lr := [Asr.blk b27 61 [Seg.of (Enc.arr 2 (Enc.pair (Enc.int .i64) (Enc.int .i64))) y25.1, Seg.c (.int .i64 y25.2.1), Seg.c (.int .i64 y25.2.2.1), Seg.of (Enc.arr 2 (Enc.pair (Enc.int .i64) (Enc.int .i64))) y25.2.2.2.1, Seg.c (.int .i64 y25.2.2.2.2.1)], Asr.blk b24 47 [Seg.c (.int .i64 x11), Seg.c (.int .i64 x12), Seg.c (.int .i64 x13)]]) (F55_1.spec (b1) (z4) (z5) (x2) (x3) (x6) (x7) (x8) (x9) (x10) _ hc30) rfl Try.func55 rfl rfl rfl [2] [0, 1] rfl rfl rfl trivial) rfl rfl rfl ?_
    rintro _ _ ⟨_, ⟨rfl, rfl⟩, rfl⟩
    refine ⟨fun _ => ⟨[1, 2, 0], rfl, rfl⟩, ?_⟩
    refine JT.grow [Asr.blk b1 102 [Seg.c (.int .i64 x2), Seg.c (.int .i64 x3), Seg.c (z4), Seg.c (z5), Seg.c (.bool x6), Seg.c (.int .i64 x7), Seg.c (.bool x8), Seg.c (.int .i64 x9), Seg.c (.int .u64 x10)], Asr.blk b27 61 [Seg.of (Enc.arr 2 (Enc.pair (Enc.int .i64) (Enc.int .i64))) y25.1, Seg.c (.int .i64 y25.2.1), Seg.c (.int .i64 y25.2.2.1), Seg.of (Enc.arr 2 (Enc.pair (Enc.int .i64) (Enc.int .i64))) y25.2.2.2.1, Seg.c (.int .i64 y25.2.2.2.2.1)], Asr.blk b24 47 [Seg.c (.int .i64 x11), Seg.c (.int .i64 x12), Seg.c (.int .i64 x13)]] [1, 2, 0] rfl rfl ?_
    refine JT.only (i := 7) (d := some 23) rfl (MV.ofQV (v := .bool (!(decide (x2 = x11)))) (QV.neq rfl rfl)) rfl rfl rfl ?_
    rintro _ _ ⟨rfl, rfl⟩
    refine ⟨fun _ => ⟨[0, 1, 2], rfl, rfl⟩, ?_⟩
    refine JT.only (i := 8) (d := some 24) rfl (MV.ofQV (v := .bool (!(decide (x2 = x11)))) (QV.pickF rfl rfl)) rfl rfl rfl ?_
    rintro _ _ ⟨rfl, rfl⟩
    refine ⟨fun _ => ⟨[0, 1, 2], rfl, rfl⟩, ?_⟩
    refine JT.nil ?_
    refine QJ.then_normal ?_
    rcases ite_inv hm with ⟨h31, hm⟩ | ⟨h31, hm⟩
    ·
      refine JC.condF' rfl (congrArg Bool.not (decide_eq_true h31)) ?_
      refine JC.skip ?_
      refine QJ.then_normal ?_
      refine JC.seq ?_
      refine JC.region ?_
      refine JL.val (v := .agg #[.int .i64 x11, .int .i64 x12, .int .i64 x13]) (QV.eq (QV.loadN (ss := [Seg.c (.int .i64 x11), Seg.c (.int .i64 x12), Seg.c (.int .i64 x13)]) 2 0 3 rfl tk_47 rfl rfl rfl rfl) rfl) rfl rfl rfl ?_
      refine JL.val (v := .agg #[.int .i64 x11, .int .i64 x12, .int .i64 x13, .pointer none, .pointer none, .pointer none]) (QV.build (vals := [(0, .agg #[.int .i64 x11, .int .i64 x12, .int .i64 x13])]) rfl (by kernel_rfl)) rfl rfl rfl ?_
      refine JL.mv (d := some 27) (MV.box [Seg.c (.int .i64 x11), Seg.c (.int .i64 x12), Seg.c (.int .i64 x13), Seg.c (.pointer none), Seg.c (.pointer none), Seg.c (.pointer none)] rfl (fun w hs => rfl)) rfl rfl rfl ?_
      rintro _ _ ⟨b32, rfl, rfl⟩
      refine JL.val (v := .pointer (some ⟨b32, 0, none⟩)) (QV.assign rfl) rfl rfl rfl ?_
      refine JL.nil ?_
      refine QJ.then_normal ?_
      refine JC.seq ?_
      refine JC.seq ?_
      refine JC.region ?_
      refine JL.val (v := .pointer (some ⟨b27, 6, none⟩)) (QV.fieldB fo_61_2 rfl rfl) rfl rfl rfl ?_
      refine JL.val (v := .agg (((Enc.arr 2 (Enc.pair (Enc.int .i64) (Enc.int .i64)))).enc y25.2.2.2.1).toArray) (QV.eq (QV.loadN (ss := [Seg.of (Enc.arr 2 (Enc.pair (Enc.int .i64) (Enc.int .i64))) y25.1, Seg.c (.int .i64 y25.2.1), Seg.c (.int .i64 y25.2.2.1), Seg.of (Enc.arr 2 (Enc.pair (Enc.int .i64) (Enc.int .i64))) y25.2.2.2.1, Seg.c (.int .i64 y25.2.2.2.2.1)]) 2 3 1 rfl tk_59 rfl rfl rfl rfl) rfl) rfl rfl rfl ?_
      refine JL.val (v := .int .i64 (0 : Int)) (QV.move rfl) rfl rfl rfl ?_
      refine JL.nil ?_
      refine QJ.then_normal ?_
      refine JC.cutK (Y := Unit × (Nat × Nat)) (fun y => match y with | (_, _) => F29_1.j1 x2 x3 x6 x7 x8 x9 x10 y25 = some r) (fun y => match y with | (_, (z33, z34)) => [(0, .pointer (some ⟨b1, 0, none⟩)), (6, .pointer (some ⟨b27, 0, none⟩)), (8, .pointer (some ⟨b32, 0, none⟩))]) (fun y => match y with | (_, (z33, z34)) => [Asr.blk b1 102 [Seg.c (.int .i64 x2), Seg.c (.int .i64 x3), Seg.c (z4), Seg.c (z5), Seg.c (.bool x6), Seg.c (.int .i64 x7), Seg.c (.bool x8), Seg.c (.int .i64 x9), Seg.c (.int .u64 x10)], Asr.blk b27 61 [Seg.of (Enc.arr 2 (Enc.pair (Enc.int .i64) (Enc.int .i64))) y25.1, Seg.c (.int .i64 y25.2.1), Seg.c (.int .i64 y25.2.2.1), Seg.of (Enc.arr 2 (Enc.pair (Enc.int .i64) (Enc.int .i64))) y25.2.2.2.1, Seg.c (.int .i64 y25.2.2.2.2.1)], Asr.blk z33 134 [Seg.c (.pointer (some ⟨b1, 0, none⟩)), Seg.c (.int .i64 (gd (y25.2.2.2.1).l (0 : Int)).1), Seg.c (.int .i64 (gd (y25.2.2.2.1).l (0 : Int)).2)], Asr.blk z34 134 [Seg.c (.pointer (some ⟨b1, 0, none⟩)), Seg.c (.int .i64 (gd (y25.2.2.2.1).l (1 : Int)).1), Seg.c (.int .i64 (gd (y25.2.2.2.1).l (1 : Int)).2)], Asr.blk b32 108 [Seg.c (.int .i64 x11), Seg.c (.int .i64 x12), Seg.c (.int .i64 x13), Seg.c (.pointer (some ⟨z33, 0, none⟩)), Seg.c (.pointer (some ⟨z34, 0, none⟩)), Seg.c (.pointer none)]]) ?_ ?_
      ·
        rintro ⟨⟨⟩, ⟨z33, z34⟩⟩ hm
        unfold F29_1.j1 at hm
        show QJ _ _ [(0, .pointer (some ⟨b1, 0, none⟩)), (6, .pointer (some ⟨b27, 0, none⟩)), (8, .pointer (some ⟨b32, 0, none⟩))] [Asr.blk b1 102 [Seg.c (.int .i64 x2), Seg.c (.int .i64 x3), Seg.c (z4), Seg.c (z5), Seg.c (.bool x6), Seg.c (.int .i64 x7), Seg.c (.bool x8), Seg.c (.int .i64 x9), Seg.c (.int .u64 x10)], Asr.blk b27 61 [Seg.of (Enc.arr 2 (Enc.pair (Enc.int .i64) (Enc.int .i64))) y25.1, Seg.c (.int .i64 y25.2.1), Seg.c (.int .i64 y25.2.2.1), Seg.of (Enc.arr 2 (Enc.pair (Enc.int .i64) (Enc.int .i64))) y25.2.2.2.1, Seg.c (.int .i64 y25.2.2.2.2.1)], Asr.blk z33 134 [Seg.c (.pointer (some ⟨b1, 0, none⟩)), Seg.c (.int .i64 (gd (y25.2.2.2.1).l (0 : Int)).1), Seg.c (.int .i64 (gd (y25.2.2.2.1).l (0 : Int)).2)], Asr.blk z34 134 [Seg.c (.pointer (some ⟨b1, 0, none⟩)), Seg.c (.int .i64 (gd (y25.2.2.2.1).l (1 : Int)).1), Seg.c (.int .i64 (gd (y25.2.2.2.1).l (1 : Int)).2)], Asr.blk b32 108 [Seg.c (.int .i64 x11), Seg.c (.int .i64 x12), Seg.c (.int .i64 x13), Seg.c (.pointer (some ⟨z33, 0, none⟩)), Seg.c (.pointer (some ⟨z34, 0, none⟩)), Seg.c (.pointer none)]] _ _
        refine QJ.then_normal ?_
        refine JC.seq ?_
        refine JC.seq ?_
        refine JC.region ?_
        refine JL.val (v := .pointer (some ⟨b32, 0, none⟩)) (QV.move rfl) rfl rfl rfl ?_
        refine JL.val (v := .pointer (some ⟨b1, 0, none⟩)) (QV.move rfl) rfl rfl rfl ?_
        refine JL.val (v := .pointer (some ⟨b27, 4, none⟩)) (QV.fieldB fo_61_1 rfl rfl) rfl rfl rfl ?_
        refine JL.val (v := .agg #[.int .i64 y25.2.1, .int .i64 y25.2.2.1]) (QV.eq (QV.loadN (ss := [Seg.of (Enc.arr 2 (Enc.pair (Enc.int .i64) (Enc.int .i64))) y25.1, Seg.c (.int .i64 y25.2.1), Seg.c (.int .i64 y25.2.2.1), Seg.of (Enc.arr 2 (Enc.pair (Enc.int .i64) (Enc.int .i64))) y25.2.2.2.1, Seg.c (.int .i64 y25.2.2.2.2.1)]) 1 1 2 rfl tk_58 rfl rfl rfl rfl) rfl) rfl rfl rfl ?_
        obtain ⟨y35, hc36, hm⟩ := bind_inv hm
        rcases y35 with y37 | y38
        ·
          refine JL.mv (d := some 54) (MV.call (Lo := [Asr.blk b1 102 [Seg.c (.int .i64 x2), Seg.c (.int .i64 x3), Seg.c (z4), Seg.c (z5), Seg.c (.bool x6), Seg.c (.int .i64 x7), Seg.c (.bool x8), Seg.c (.int .i64 x9), Seg.c (.int .u64 x10)]]) (Lr := [Asr.blk b27 61 [Seg.of (Enc.arr 2 (Enc.pair (Enc.int .i64) (Enc.int .i64))) y25.1, Seg.c (.int .i64 y25.2.1), Seg.c (.int .i64 y25.2.2.1), Seg.of (Enc.arr 2 (Enc.pair (Enc.int .i64) (Enc.int .i64))) y25.2.2.2.1, Seg.c (.int .i64 y25.2.2.2.2.1)], Asr.blk z33 134 [Seg.c (.pointer (some ⟨b1, 0, none⟩)), Seg.c (.int .i64 (gd (y25.2.2.2.1).l (0 : Int)).1), Seg.c (.int .i64 (gd (y25.2.2.2.1).l (0 : Int)).2)], Asr.blk z34 134 [Seg.c (.pointer (some ⟨b1, 0, none⟩)), Seg.c (.int .i64 (gd (y25.2.2.2.1).l (1 : Int)).1), Seg.c (.int .i64 (gd (y25.2.2.2.1).l (1 : Int)).2)], Asr.blk b32 108 [Seg.c (.int .i64 x11), Seg.c (.int .i64 x12), Seg.c (.int .i64 x13), Seg.c (.pointer (some ⟨z33, 0, none⟩)), Seg.c (.pointer (some ⟨z34, 0, none⟩)), Seg.c (.pointer none)]]) (F56_1.spec (b1) (z4) (z5) (x2) (x3) (x6) (x7) (x8) (x9) (x10) (y25.2.1) (y25.2.2.1) _ hc36) rfl Try.func56 rfl rfl rfl [0] [1, 2, 3, 4] rfl rfl rfl trivial) rfl rfl rfl ?_
          rintro _ _ ⟨_, ⟨rfl, rfl⟩, rfl⟩
          refine JL.val (v := .tuple #[.pointer none, .int .i64 (1 : Int)]) (QV.move rfl) rfl rfl rfl ?_
          refine JL.val (v := .pointer none) (QV.extract (vs := [.pointer none, .int .i64 (1 : Int)]) rfl rfl) rfl rfl rfl ?_
          refine JL.val (v := .int .i64 (1 : Int)) (QV.extract (vs := [.pointer none, .int .i64 (1 : Int)]) rfl rfl) rfl rfl rfl ?_
          refine JL.val (v := .pointer (some ⟨b32, 0, none⟩)) (QV.nilCheck rfl) rfl rfl rfl ?_
          refine JL.val (v := .pointer (some ⟨b32, 5, none⟩)) (QV.fieldB fo_108_2 rfl rfl) rfl rfl rfl ?_
          refine JL.mv (d := none) (MV.store (ss := [Seg.c (.int .i64 x11), Seg.c (.int .i64 x12), Seg.c (.int .i64 x13), Seg.c (.pointer (some ⟨z33, 0, none⟩)), Seg.c (.pointer (some ⟨z34, 0, none⟩)), Seg.c (.pointer none)]) 4 5 1 [Seg.c (.pointer none)] rfl tk_105 rfl rfl rfl rfl (fun w hs => ⟨rfl, one_c rfl, trivial⟩)) rfl rfl rfl ?_
          rintro _ _ ⟨rfl, rfl⟩
          refine JL.val (v := .int .i64 (1 : Int)) (QV.assign rfl) rfl rfl rfl ?_
          refine JL.nil ?_
          refine QJ.then_normal ?_
          refine JC.seq ?_
          refine JC.region ?_
          refine JL.val (v := .int .i64 (1 : Int)) (QV.move rfl) rfl rfl rfl ?_
          refine JL.val (v := .bool true) (QV.eq (QV.neq rfl rfl) rfl) rfl rfl rfl ?_
          refine JL.nil ?_
          refine QJ.then_normal ?_
          refine JC.condT rfl ?_
          refine JC.seq ?_
          refine JC.region ?_
          refine JL.val (v := .int .i64 (1 : Int)) (QV.move rfl) rfl rfl rfl ?_
          refine JL.val (v := .pointer none) (QV.assign rfl) rfl rfl rfl ?_
          refine JL.val (v := .int .i64 (1 : Int)) (QV.assign rfl) rfl rfl rfl ?_
          refine JL.nil ?_
          refine QJ.then_normal ?_
          refine JC.ret ?_
          refine QJ.then_ret ?_
          obtain rfl := Option.some.inj hm
          exact QJ.body (vs := [.pointer none, .int .i64 (1 : Int)]) (.inl rfl) rfl (ResVs.cons (ResV.tmp rfl) (ResVs.cons (ResV.tmp rfl) ResVs.nil)) [0] rfl rfl (.inr ⟨own_blk _ _ _, trivial⟩) ⟨rfl, rfl⟩
        ·
          refine JL.mv (d := some 54) (MV.call (Lo := [Asr.blk b1 102 [Seg.c (.int .i64 x2), Seg.c (.int .i64 x3), Seg.c (z4), Seg.c (z5), Seg.c (.bool x6), Seg.c (.int .i64 x7), Seg.c (.bool x8), Seg.c (.int .i64 x9), Seg.c (.int .u64 x10)]]) (Lr := [Asr.blk b27 61 [Seg.of (Enc.arr 2 (Enc.pair (Enc.int .i64) (Enc.int .i64))) y25.1, Seg.c (.int .i64 y25.2.1), Seg.c (.int .i64 y25.2.2.1), Seg.of (Enc.arr 2 (Enc.pair (Enc.int .i64) (Enc.int .i64))) y25.2.2.2.1, Seg.c (.int .i64 y25.2.2.2.2.1)], Asr.blk z33 134 [Seg.c (.pointer (some ⟨b1, 0, none⟩)), Seg.c (.int .i64 (gd (y25.2.2.2.1).l (0 : Int)).1), Seg.c (.int .i64 (gd (y25.2.2.2.1).l (0 : Int)).2)], Asr.blk z34 134 [Seg.c (.pointer (some ⟨b1, 0, none⟩)), Seg.c (.int .i64 (gd (y25.2.2.2.1).l (1 : Int)).1), Seg.c (.int .i64 (gd (y25.2.2.2.1).l (1 : Int)).2)], Asr.blk b32 108 [Seg.c (.int .i64 x11), Seg.c (.int .i64 x12), Seg.c (.int .i64 x13), Seg.c (.pointer (some ⟨z33, 0, none⟩)), Seg.c (.pointer (some ⟨z34, 0, none⟩)), Seg.c (.pointer none)]]) (F56_1.spec (b1) (z4) (z5) (x2) (x3) (x6) (x7) (x8) (x9) (x10) (y25.2.1) (y25.2.2.1) _ hc36) rfl Try.func56 rfl rfl rfl [0] [1, 2, 3, 4] rfl rfl rfl trivial) rfl rfl rfl ?_
          rintro _ _ ⟨_, ⟨b39, rfl, rfl⟩, rfl⟩
          refine JL.val (v := .tuple #[.pointer (some ⟨b39, 0, none⟩), .int .i64 (0 : Int)]) (QV.move rfl) rfl rfl rfl ?_
          refine JL.val (v := .pointer (some ⟨b39, 0, none⟩)) (QV.extract (vs := [.pointer (some ⟨b39, 0, none⟩), .int .i64 (0 : Int)]) rfl rfl) rfl rfl rfl ?_
          refine JL.val (v := .int .i64 (0 : Int)) (QV.extract (vs := [.pointer (some ⟨b39, 0, none⟩), .int .i64 (0 : Int)]) rfl rfl) rfl rfl rfl ?_
          refine JL.val (v := .pointer (some ⟨b32, 0, none⟩)) (QV.nilCheck rfl) rfl rfl rfl ?_
          refine JL.val (v := .pointer (some ⟨b32, 5, none⟩)) (QV.fieldB fo_108_2 rfl rfl) rfl rfl rfl ?_
          refine JL.mv (d := none) (MV.store (ss := [Seg.c (.int .i64 x11), Seg.c (.int .i64 x12), Seg.c (.int .i64 x13), Seg.c (.pointer (some ⟨z33, 0, none⟩)), Seg.c (.pointer (some ⟨z34, 0, none⟩)), Seg.c (.pointer none)]) 5 5 1 [Seg.c (.pointer (some ⟨b39, 0, none⟩))] rfl tk_105 rfl rfl rfl rfl (fun w hs => ⟨rfl, one_c rfl, trivial⟩)) rfl rfl rfl ?_
          rintro _ _ ⟨rfl, rfl⟩
          refine JL.val (v := .int .i64 (0 : Int)) (QV.assign rfl) rfl rfl rfl ?_
          refine JL.nil ?_
          refine QJ.then_normal ?_
          refine JC.seq ?_
          refine JC.region ?_
          refine JL.val (v := .int .i64 (0 : Int)) (QV.move rfl) rfl rfl rfl ?_
          refine JL.val (v := .bool false) (QV.eq (QV.neq rfl rfl) rfl) rfl rfl rfl ?_
          refine JL.nil ?_
          refine QJ.then_normal ?_
          refine JC.condF rfl ?_
          refine JC.skip ?_
          refine QJ.then_normal ?_
          refine JC.seq ?_
          refine JC.region ?_
          refine JL.val (v := .pointer (some ⟨b32, 0, none⟩)) (QV.move rfl) rfl rfl rfl ?_
          refine JL.val (v := .pointer (some ⟨b32, 0, none⟩)) (QV.assign rfl) rfl rfl rfl ?_
          refine JL.val (v := .int .i64 (0 : Int)) (QV.assign rfl) rfl rfl rfl ?_
          refine JL.nil ?_
          refine QJ.then_normal ?_
          refine JC.ret ?_
          obtain rfl := Option.some.inj hm
          exact QJ.body (vs := [.pointer (some ⟨b32, 0, none⟩), .int .i64 (0 : Int)]) (.inl rfl) rfl (ResVs.cons (ResV.tmp rfl) (ResVs.cons (ResV.tmp rfl) ResVs.nil)) [0, 3, 4, 1, 5] rfl rfl (.inr ⟨own_blk _ _ _, own_blk _ _ _, own_blk _ _ _, own_blk _ _ _, own_blk _ _ _, trivial⟩) ⟨b32, z33, z34, b39, rfl, rfl⟩
      ·
        refine JC.block ?_
        refine JC.unroll 8 ?_
        refine JC.seq ?_
        refine JC.region ?_
        refine JL.val (v := .bool true) (QV.eq (QV.lss rfl rfl) rfl) rfl rfl rfl ?_
        refine JL.nil ?_
        refine QJ.then_normal ?_
        refine JC.seq ?_
        refine JC.condT rfl ?_
        refine JC.skip ?_
        refine QJ.then_normal ?_
        refine JC.seq ?_
        refine JC.block ?_
        refine JC.seq ?_
        refine JC.region ?_
        refine JL.val (v := .int .i64 (0 : Int)) (QV.move rfl) rfl rfl rfl ?_
        refine JL.val (v := .agg #[.int .i64 (gd (y25.2.2.2.1).l (0 : Int)).1, .int .i64 (gd (y25.2.2.2.1).l (0 : Int)).2]) (QV.eq (QV.indexVN (E := (Enc.pair (Enc.int .i64) (Enc.int .i64))) (xs := y25.2.2.2.1) Try.underlying59 tk_58 rfl rfl rfl (by decide)) rfl) rfl rfl rfl ?_
        refine JL.mv (d := some 10) (MV.alloc [Seg.c (.int .i64 (0 : Int)), Seg.c (.int .i64 (0 : Int))] z_58 rfl) rfl rfl rfl ?_
        rintro _ _ ⟨b40, rfl, rfl⟩
        refine JL.val (v := .int .i64 (0 : Int)) (QV.assign rfl) rfl rfl rfl ?_
        refine JL.mv (d := none) (MV.store (ss := [Seg.c (.int .i64 (0 : Int)), Seg.c (.int .i64 (0 : Int))]) 0 0 2 [Seg.c (.int .i64 (gd (y25.2.2.2.1).l (0 : Int)).1), Seg.c (.int .i64 (gd (y25.2.2.2.1).l (0 : Int)).2)] rfl tk_58 rfl rfl rfl rfl (fun w hs => ⟨rfl, one_c rfl, one_c rfl, trivial⟩)) rfl rfl rfl ?_
        rintro _ _ ⟨rfl, rfl⟩
        refine JL.nil ?_
        refine QJ.then_normal ?_
        refine JC.seq ?_
        refine JC.regionT [Asr.blk b40 58 [Seg.c (.int .i64 (gd (y25.2.2.2.1).l (0 : Int)).1), Seg.c (.int .i64 (gd (y25.2.2.2.1).l (0 : Int)).2)], Asr.blk b1 102 [Seg.c (.int .i64 x2), Seg.c (.int .i64 x3), Seg.c (z4), Seg.c (z5), Seg.c (.bool x6), Seg.c (.int .i64 x7), Seg.c (.bool x8), Seg.c (.int .i64 x9), Seg.c (.int .u64 x10)], Asr.blk b27 61 [Seg.of (Enc.arr 2 (Enc.pair (Enc.int .i64) (Enc.int .i64))) y25.1, Seg.c (.int .i64 y25.2.1), Seg.c (.int .i64 y25.2.2.1), Seg.of (Enc.arr 2 (Enc.pair (Enc.int .i64) (Enc.int .i64))) y25.2.2.2.1, Seg.c (.int .i64 y25.2.2.2.2.1)], Asr.blk b24 47 [Seg.c (.int .i64 x11), Seg.c (.int .i64 x12), Seg.c (.int .i64 x13)]] (fun t => false) [(0, true), (1, true), (2, true), (3, true), (8, true), (9, true), (4, false), (5, false), (6, true), (7, true), (10, false), (11, false), (12, false)] (by kernel_rfl) (by kernel_rfl) (by kernel_rfl) rfl (fun hsel => ?_)
        refine JT.take (i := 0) (v := .pointer (some ⟨b32, 0, none⟩)) hsel rfl (QV.move rfl) rfl rfl rfl rfl [0, 2, 3, 4] rfl rfl ?_
        refine JT.take (i := 1) (v := .int .i64 (0 : Int)) hsel rfl (QV.move rfl) rfl rfl rfl rfl [0, 2, 3, 4] rfl rfl ?_
        refine JT.take (i := 2) (v := .pointer (some ⟨b1, 0, none⟩)) hsel rfl (QV.move rfl) rfl rfl rfl rfl [0, 2, 3, 4] rfl rfl ?_
        refine JT.take (i := 3) (v := .agg #[.int .i64 (gd (y25.2.2.2.1).l (0 : Int)).1, .int .i64 (gd (y25.2.2.2.1).l (0 : Int)).2]) hsel rfl (QV.eq (QV.loadN (ss := [Seg.c (.int .i64 (gd (y25.2.2.2.1).l (0 : Int)).1), Seg.c (.int .i64 (gd (y25.2.2.2.1).l (0 : Int)).2)]) 0 0 2 rfl tk_58 rfl rfl rfl rfl) rfl) rfl rfl rfl rfl [0, 2, 3, 4] rfl rfl ?_
        refine JT.take (i := 8) (v := .pointer (some ⟨b32, 0, none⟩)) hsel rfl (QV.nilCheck rfl) rfl rfl rfl rfl [0, 2, 3, 4] rfl rfl ?_
        refine JT.take (i := 9) (v := .pointer (some ⟨b32, 3, none⟩)) hsel rfl (QV.fieldB fo_108_1 rfl rfl) rfl rfl rfl rfl [0, 2, 3, 4] rfl rfl ?_
        obtain ⟨y41, hc42, hm⟩ := bind_inv hm
        rcases y41 with y43 | y44
        ·
          refine JT.only (i := 4) (d := some 39) rfl (MV.call (Lo := [Asr.blk b1 102 [Seg.c (.int .i64 x2), Seg.c (.int .i64 x3), Seg.c (z4), Seg.c (z5), Seg.c (.bool x6), Seg.c (.int .i64 x7), Seg.c (.bool x8), Seg.c (.int .i64 x9), Seg.c (.int .u64 x10)]]) (Lr := [Asr.blk b40 58 [Seg.c (.int .i64 (gd (y25.2.2.2.1).l (0 : Int)).1), Seg.c (.int .i64 (gd (y25.2.2.2.1).l (0 : Int)).2)], Asr.blk b32 108 [Seg.c (.int .i64 x11), Seg.c (.int .i64 x12), Seg.c (.int .i64 x13), Seg.c (.pointer none), Seg.c (.pointer none), Seg.c (.pointer none)], Asr.blk b27 61 [Seg.of (Enc.arr 2 (Enc.pair (Enc.int .i64) (Enc.int .i64))) y25.1, Seg.c (.int .i64 y25.2.1), Seg.c (.int .i64 y25.2.2.1), Seg.of (Enc.arr 2 (Enc.pair (Enc.int .i64) (Enc.int .i64))) y25.2.2.2.1, Seg.c (.int .i64 y25.2.2.2.2.1)], Asr.blk b24 47 [Seg.c (.int .i64 x11), Seg.c (.int .i64 x12), Seg.c (.int .i64 x13)]]) (F56_1.spec (b1) (z4) (z5) (x2) (x3) (x6) (x7) (x8) (x9) (x10) ((gd (y25.2.2.2.1).l (0 : Int)).1) ((gd (y25.2.2.2.1).l (0 : Int)).2) _ hc42) rfl Try.func56 rfl rfl rfl [2] [0, 1, 3, 4] rfl rfl rfl trivial) rfl rfl rfl ?_
          rintro _ _ ⟨_, ⟨rfl, rfl⟩, rfl⟩
          refine ⟨fun _ => ⟨[1, 0, 3, 4], rfl, rfl⟩, ?_⟩
          refine JT.grow [Asr.blk b1 102 [Seg.c (.int .i64 x2), Seg.c (.int .i64 x3), Seg.c (z4), Seg.c (z5), Seg.c (.bool x6), Seg.c (.int .i64 x7), Seg.c (.bool x8), Seg.c (.int .i64 x9), Seg.c (.int .u64 x10)], Asr.blk b40 58 [Seg.c (.int .i64 (gd (y25.2.2.2.1).l (0 : Int)).1), Seg.c (.int .i64 (gd (y25.2.2.2.1).l (0 : Int)).2)], Asr.blk b27 61 [Seg.of (Enc.arr 2 (Enc.pair (Enc.int .i64) (Enc.int .i64))) y25.1, Seg.c (.int .i64 y25.2.1), Seg.c (.int .i64 y25.2.2.1), Seg.of (Enc.arr 2 (Enc.pair (Enc.int .i64) (Enc.int .i64))) y25.2.2.2.1, Seg.c (.int .i64 y25.2.2.2.2.1)], Asr.blk b24 47 [Seg.c (.int .i64 x11), Seg.c (.int .i64 x12), Seg.c (.int .i64 x13)]] [1, 0, 2, 3] rfl rfl ?_
          refine JT.only (i := 5) (d := some 34) rfl (MV.ofQV (v := .tuple #[.pointer none, .int .i64 (1 : Int)]) (QV.move rfl)) rfl rfl rfl ?_
          rintro _ _ ⟨rfl, rfl⟩
          refine ⟨fun _ => ⟨[0, 1, 3, 4], rfl, rfl⟩, ?_⟩
          refine JT.take (i := 6) (v := .pointer none) hsel rfl (QV.extract (vs := [.pointer none, .int .i64 (1 : Int)]) rfl rfl) rfl rfl rfl rfl [0, 1, 3, 4] rfl rfl ?_
          refine JT.take (i := 7) (v := .int .i64 (1 : Int)) hsel rfl (QV.extract (vs := [.pointer none, .int .i64 (1 : Int)]) rfl rfl) rfl rfl rfl rfl [0, 1, 3, 4] rfl rfl ?_
          refine JT.only (i := 10) (d := some 44) rfl (MV.ofQV (v := .pointer (some ⟨b32, 3, none⟩)) (QV.eq (QV.indexB (i := (0 : Int)) Try.underlying106 tk_105 rfl rfl (by decide)) rfl)) rfl rfl rfl ?_
          rintro _ _ ⟨rfl, rfl⟩
          refine ⟨fun _ => ⟨[0, 1, 3, 4], rfl, rfl⟩, ?_⟩
          refine JT.only (i := 11) (d := none) rfl (MV.store (ss := [Seg.c (.int .i64 x11), Seg.c (.int .i64 x12), Seg.c (.int .i64 x13), Seg.c (.pointer none), Seg.c (.pointer none), Seg.c (.pointer none)]) 2 3 1 [Seg.c (.pointer none)] rfl tk_105 rfl rfl rfl rfl (fun w hs => ⟨rfl, one_c rfl, trivial⟩)) rfl rfl rfl ?_
          rintro _ _ ⟨rfl, rfl⟩
          refine ⟨fun _ => ⟨[0, 1, 3, 4], rfl, rfl⟩, ?_⟩
          refine JT.grow [Asr.blk b1 102 [Seg.c (.int .i64 x2), Seg.c (.int .i64 x3), Seg.c (z4), Seg.c (z5), Seg.c (.bool x6), Seg.c (.int .i64 x7), Seg.c (.bool x8), Seg.c (.int .i64 x9), Seg.c (.int .u64 x10)], Asr.blk b40 58 [Seg.c (.int .i64 (gd (y25.2.2.2.1).l (0 : Int)).1), Seg.c (.int .i64 (gd (y25.2.2.2.1).l (0 : Int)).2)], Asr.blk b32 108 [Seg.c (.int .i64 x11), Seg.c (.int .i64 x12), Seg.c (.int .i64 x13), Seg.c (.pointer none), Seg.c (.pointer none), Seg.c (.pointer none)], Asr.blk b27 61 [Seg.of (Enc.arr 2 (Enc.pair (Enc.int .i64) (Enc.int .i64))) y25.1, Seg.c (.int .i64 y25.2.1), Seg.c (.int .i64 y25.2.2.1), Seg.of (Enc.arr 2 (Enc.pair (Enc.int .i64) (Enc.int .i64))) y25.2.2.2.1, Seg.c (.int .i64 y25.2.2.2.2.1)], Asr.blk b24 47 [Seg.c (.int .i64 x11), Seg.c (.int .i64 x12), Seg.c (.int .i64 x13)]] [0, 1, 3, 4] rfl rfl ?_
          refine JT.only (i := 12) (d := some 7) rfl (MV.ofQV (v := .int .i64 (1 : Int)) (QV.assign rfl)) rfl rfl rfl ?_
          rintro _ _ ⟨rfl, rfl⟩
          refine ⟨fun _ => ⟨[0, 1, 2, 3, 4], rfl, rfl⟩, ?_⟩
          refine JT.nil ?_
          refine QJ.then_normal ?_
          refine JC.seq ?_
          refine JC.region ?_
          refine JL.val (v := .int .i64 (1 : Int)) (QV.move rfl) rfl rfl rfl ?_
          refine JL.val (v := .bool true) (QV.eq (QV.neq rfl rfl) rfl) rfl rfl rfl ?_
          refine JL.nil ?_
          refine QJ.then_normal ?_
          refine JC.condT rfl ?_
          refine JC.seq ?_
          refine JC.region ?_
          refine JL.val (v := .int .i64 (1 : Int)) (QV.move rfl) rfl rfl rfl ?_
          refine JL.val (v := .pointer none) (QV.assign rfl) rfl rfl rfl ?_
          refine JL.val (v := .int .i64 (1 : Int)) (QV.assign rfl) rfl rfl rfl ?_
          refine JL.nil ?_
          refine QJ.then_normal ?_
          refine JC.ret ?_
          refine QJ.block_ret ?_
          refine QJ.then_ret ?_
          refine QJ.rnd_ret ?_
          refine QJ.block_ret ?_
          refine QJ.cut_ret ?_
          refine QJ.then_ret ?_
          obtain rfl := Option.some.inj hm
          exact QJ.body (vs := [.pointer none, .int .i64 (1 : Int)]) (.inl rfl) rfl (ResVs.cons (ResV.tmp rfl) (ResVs.cons (ResV.tmp rfl) ResVs.nil)) [0] rfl rfl (.inr ⟨own_blk _ _ _, trivial⟩) ⟨rfl, rfl⟩
        ·
          refine JT.only (i := 4) (d := some 39) rfl (MV.call (Lo := [Asr.blk b1 102 [Seg.c (.int .i64 x2), Seg.c (.int .i64 x3), Seg.c (z4), Seg.c (z5), Seg.c (.bool x6), Seg.c (.int .i64 x7), Seg.c (.bool x8), Seg.c (.int .i64 x9), Seg.c (.int .u64 x10)]]) (Lr := [Asr.blk b40 58 [Seg.c (.int .i64 (gd (y25.2.2.2.1).l (0 : Int)).1), Seg.c (.int .i64 (gd (y25.2.2.2.1).l (0 : Int)).2)], Asr.blk b32 108 [Seg.c (.int .i64 x11), Seg.c (.int .i64 x12), Seg.c (.int .i64 x13), Seg.c (.pointer none), Seg.c (.pointer none), Seg.c (.pointer none)], Asr.blk b27 61 [Seg.of (Enc.arr 2 (Enc.pair (Enc.int .i64) (Enc.int .i64))) y25.1, Seg.c (.int .i64 y25.2.1), Seg.c (.int .i64 y25.2.2.1), Seg.of (Enc.arr 2 (Enc.pair (Enc.int .i64) (Enc.int .i64))) y25.2.2.2.1, Seg.c (.int .i64 y25.2.2.2.2.1)], Asr.blk b24 47 [Seg.c (.int .i64 x11), Seg.c (.int .i64 x12), Seg.c (.int .i64 x13)]]) (F56_1.spec (b1) (z4) (z5) (x2) (x3) (x6) (x7) (x8) (x9) (x10) ((gd (y25.2.2.2.1).l (0 : Int)).1) ((gd (y25.2.2.2.1).l (0 : Int)).2) _ hc42) rfl Try.func56 rfl rfl rfl [2] [0, 1, 3, 4] rfl rfl rfl trivial) rfl rfl rfl ?_
          rintro _ _ ⟨_, ⟨b45, rfl, rfl⟩, rfl⟩
          refine ⟨fun _ => ⟨[2, 0, 4, 5], rfl, rfl⟩, ?_⟩
          refine JT.grow [Asr.blk b1 102 [Seg.c (.int .i64 x2), Seg.c (.int .i64 x3), Seg.c (z4), Seg.c (z5), Seg.c (.bool x6), Seg.c (.int .i64 x7), Seg.c (.bool x8), Seg.c (.int .i64 x9), Seg.c (.int .u64 x10)], Asr.blk b45 134 [Seg.c (.pointer (some ⟨b1, 0, none⟩)), Seg.c (.int .i64 (gd (y25.2.2.2.1).l (0 : Int)).1), Seg.c (.int .i64 (gd (y25.2.2.2.1).l (0 : Int)).2)], Asr.blk b40 58 [Seg.c (.int .i64 (gd (y25.2.2.2.1).l (0 : Int)).1), Seg.c (.int .i64 (gd (y25.2.2.2.1).l (0 : Int)).2)], Asr.blk b27 61 [Seg.of (Enc.arr 2 (Enc.pair (Enc.int .i64) (Enc.int .i64))) y25.1, Seg.c (.int .i64 y25.2.1), Seg.c (.int .i64 y25.2.2.1), Seg.of (Enc.arr 2 (Enc.pair (Enc.int .i64) (Enc.int .i64))) y25.2.2.2.1, Seg.c (.int .i64 y25.2.2.2.2.1)], Asr.blk b24 47 [Seg.c (.int .i64 x11), Seg.c (.int .i64 x12), Seg.c (.int .i64 x13)]] [2, 0, 3, 4] rfl rfl ?_
          refine JT.only (i := 5) (d := some 34) rfl (MV.ofQV (v := .tuple #[.pointer (some ⟨b45, 0, none⟩), .int .i64 (0 : Int)]) (QV.move rfl)) rfl rfl rfl ?_
          rintro _ _ ⟨rfl, rfl⟩
          refine ⟨fun _ => ⟨[0, 1, 2, 4, 5], rfl, rfl⟩, ?_⟩
          refine JT.take (i := 6) (v := .pointer (some ⟨b45, 0, none⟩)) hsel rfl (QV.extract (vs := [.pointer (some ⟨b45, 0, none⟩), .int .i64 (0 : Int)]) rfl rfl) rfl rfl rfl rfl [0, 1, 2, 4, 5] rfl rfl ?_
          refine JT.take (i := 7) (v := .int .i64 (0 : Int)) hsel rfl (QV.extract (vs := [.pointer (some ⟨b45, 0, none⟩), .int .i64 (0 : Int)]) rfl rfl) rfl rfl rfl rfl [0, 1, 2, 4, 5] rfl rfl ?_
          refine JT.only (i := 10) (d := some 44) rfl (MV.ofQV (v := .pointer (some ⟨b32, 3, none⟩)) (QV.eq (QV.indexB (i := (0 : Int)) Try.underlying106 tk_105 rfl rfl (by decide)) rfl)) rfl rfl rfl ?_
          rintro _ _ ⟨rfl, rfl⟩
          refine ⟨fun _ => ⟨[0, 1, 2, 4, 5], rfl, rfl⟩, ?_⟩
          refine JT.only (i := 11) (d := none) rfl (MV.store (ss := [Seg.c (.int .i64 x11), Seg.c (.int .i64 x12), Seg.c (.int .i64 x13), Seg.c (.pointer none), Seg.c (.pointer none), Seg.c (.pointer none)]) 3 3 1 [Seg.c (.pointer (some ⟨b45, 0, none⟩))] rfl tk_105 rfl rfl rfl rfl (fun w hs => ⟨rfl, one_c rfl, trivial⟩)) rfl rfl rfl ?_
          rintro _ _ ⟨rfl, rfl⟩
          refine ⟨fun _ => ⟨[0, 1, 2, 4, 5], rfl, rfl⟩, ?_⟩
          refine JT.grow [Asr.blk b1 102 [Seg.c (.int .i64 x2), Seg.c (.int .i64 x3), Seg.c (z4), Seg.c (z5), Seg.c (.bool x6), Seg.c (.int .i64 x7), Seg.c (.bool x8), Seg.c (.int .i64 x9), Seg.c (.int .u64 x10)], Asr.blk b45 134 [Seg.c (.pointer (some ⟨b1, 0, none⟩)), Seg.c (.int .i64 (gd (y25.2.2.2.1).l (0 : Int)).1), Seg.c (.int .i64 (gd (y25.2.2.2.1).l (0 : Int)).2)], Asr.blk b40 58 [Seg.c (.int .i64 (gd (y25.2.2.2.1).l (0 : Int)).1), Seg.c (.int .i64 (gd (y25.2.2.2.1).l (0 : Int)).2)], Asr.blk b32 108 [Seg.c (.int .i64 x11), Seg.c (.int .i64 x12), Seg.c (.int .i64 x13), Seg.c (.pointer (some ⟨b45, 0, none⟩)), Seg.c (.pointer none), Seg.c (.pointer none)], Asr.blk b27 61 [Seg.of (Enc.arr 2 (Enc.pair (Enc.int .i64) (Enc.int .i64))) y25.1, Seg.c (.int .i64 y25.2.1), Seg.c (.int .i64 y25.2.2.1), Seg.of (Enc.arr 2 (Enc.pair (Enc.int .i64) (Enc.int .i64))) y25.2.2.2.1, Seg.c (.int .i64 y25.2.2.2.2.1)], Asr.blk b24 47 [Seg.c (.int .i64 x11), Seg.c (.int .i64 x12), Seg.c (.int .i64 x13)]] [0, 1, 2, 4, 5] rfl rfl ?_
          refine JT.only (i := 12) (d := some 7) rfl (MV.ofQV (v := .int .i64 (0 : Int)) (QV.assign rfl)) rfl rfl rfl ?_
          rintro _ _ ⟨rfl, rfl⟩
          refine ⟨fun _ => ⟨[0, 1, 2, 3, 4, 5], rfl, rfl⟩, ?_⟩
          refine JT.nil ?_
          refine QJ.then_normal ?_
          refine JC.seq ?_
          refine JC.region ?_
          refine JL.val (v := .int .i64 (0 : Int)) (QV.move rfl) rfl rfl rfl ?_
          refine JL.val (v := .bool false) (QV.eq (QV.neq rfl rfl) rfl) rfl rfl rfl ?_
          refine JL.nil ?_
          refine QJ.then_normal ?_
          refine JC.condF rfl ?_
          refine JC.skip ?_
          refine QJ.block_normal ?_
          refine QJ.then_normal ?_
          refine JC.region ?_
          refine JL.val (v := .int .i64 (1 : Int)) (QV.eq (QV.add rfl rfl) (congrArg (Value.int .i64) (by decide : _ = (1 : Int)))) rfl rfl rfl ?_
          refine JL.val (v := .int .i64 (1 : Int)) (QV.move rfl) rfl rfl rfl ?_
          refine JL.nil ?_
          refine QJ.rnd_normal ?_
          refine JC.seq ?_
          refine JC.region ?_
          refine JL.val (v := .bool true) (QV.eq (QV.lss rfl rfl) rfl) rfl rfl rfl ?_
          refine JL.nil ?_
          refine QJ.then_normal ?_
          refine JC.seq ?_
          refine JC.condT rfl ?_
          refine JC.skip ?_
          refine QJ.then_normal ?_
          refine JC.seq ?_
          refine JC.block ?_
          refine JC.seq ?_
          refine JC.region ?_
          refine JL.val (v := .int .i64 (1 : Int)) (QV.move rfl) rfl rfl rfl ?_
          refine JL.val (v := .agg #[.int .i64 (gd (y25.2.2.2.1).l (1 : Int)).1, .int .i64 (gd (y25.2.2.2.1).l (1 : Int)).2]) (QV.eq (QV.indexVN (E := (Enc.pair (Enc.int .i64) (Enc.int .i64))) (xs := y25.2.2.2.1) Try.underlying59 tk_58 rfl rfl rfl (by decide)) rfl) rfl rfl rfl ?_
          refine JL.mv (d := some 10) (MV.alloc [Seg.c (.int .i64 (0 : Int)), Seg.c (.int .i64 (0 : Int))] z_58 rfl) rfl rfl rfl ?_
          rintro _ _ ⟨b46, rfl, rfl⟩
          refine JL.val (v := .int .i64 (1 : Int)) (QV.assign rfl) rfl rfl rfl ?_
          refine JL.mv (d := none) (MV.store (ss := [Seg.c (.int .i64 (0 : Int)), Seg.c (.int .i64 (0 : Int))]) 0 0 2 [Seg.c (.int .i64 (gd (y25.2.2.2.1).l (1 : Int)).1), Seg.c (.int .i64 (gd (y25.2.2.2.1).l (1 : Int)).2)] rfl tk_58 rfl rfl rfl rfl (fun w hs => ⟨rfl, one_c rfl, one_c rfl, trivial⟩)) rfl rfl rfl ?_
          rintro _ _ ⟨rfl, rfl⟩
          refine JL.nil ?_
          refine QJ.then_normal ?_
          refine JC.seq ?_
          refine JC.regionT [Asr.blk b46 58 [Seg.c (.int .i64 (gd (y25.2.2.2.1).l (1 : Int)).1), Seg.c (.int .i64 (gd (y25.2.2.2.1).l (1 : Int)).2)], Asr.blk b1 102 [Seg.c (.int .i64 x2), Seg.c (.int .i64 x3), Seg.c (z4), Seg.c (z5), Seg.c (.bool x6), Seg.c (.int .i64 x7), Seg.c (.bool x8), Seg.c (.int .i64 x9), Seg.c (.int .u64 x10)], Asr.blk b45 134 [Seg.c (.pointer (some ⟨b1, 0, none⟩)), Seg.c (.int .i64 (gd (y25.2.2.2.1).l (0 : Int)).1), Seg.c (.int .i64 (gd (y25.2.2.2.1).l (0 : Int)).2)], Asr.blk b40 58 [Seg.c (.int .i64 (gd (y25.2.2.2.1).l (0 : Int)).1), Seg.c (.int .i64 (gd (y25.2.2.2.1).l (0 : Int)).2)], Asr.blk b27 61 [Seg.of (Enc.arr 2 (Enc.pair (Enc.int .i64) (Enc.int .i64))) y25.1, Seg.c (.int .i64 y25.2.1), Seg.c (.int .i64 y25.2.2.1), Seg.of (Enc.arr 2 (Enc.pair (Enc.int .i64) (Enc.int .i64))) y25.2.2.2.1, Seg.c (.int .i64 y25.2.2.2.2.1)], Asr.blk b24 47 [Seg.c (.int .i64 x11), Seg.c (.int .i64 x12), Seg.c (.int .i64 x13)]] (fun t => false) [(0, true), (1, true), (2, true), (3, true), (8, true), (9, true), (4, false), (5, false), (6, true), (7, true), (10, false), (11, false), (12, false)] (by kernel_rfl) (by kernel_rfl) (by kernel_rfl) rfl (fun hsel => ?_)
          refine JT.take (i := 0) (v := .pointer (some ⟨b32, 0, none⟩)) hsel rfl (QV.move rfl) rfl rfl rfl rfl [0, 1, 2, 3, 5, 6] rfl rfl ?_
          refine JT.take (i := 1) (v := .int .i64 (1 : Int)) hsel rfl (QV.move rfl) rfl rfl rfl rfl [0, 1, 2, 3, 5, 6] rfl rfl ?_
          refine JT.take (i := 2) (v := .pointer (some ⟨b1, 0, none⟩)) hsel rfl (QV.move rfl) rfl rfl rfl rfl [0, 1, 2, 3, 5, 6] rfl rfl ?_
          refine JT.take (i := 3) (v := .agg #[.int .i64 (gd (y25.2.2.2.1).l (1 : Int)).1, .int .i64 (gd (y25.2.2.2.1).l (1 : Int)).2]) hsel rfl (QV.eq (QV.loadN (ss := [Seg.c (.int .i64 (gd (y25.2.2.2.1).l (1 : Int)).1), Seg.c (.int .i64 (gd (y25.2.2.2.1).l (1 : Int)).2)]) 0 0 2 rfl tk_58 rfl rfl rfl rfl) rfl) rfl rfl rfl rfl [0, 1, 2, 3, 5, 6] rfl rfl ?_
          refine JT.take (i := 8) (v := .pointer (some ⟨b32, 0, none⟩)) hsel rfl (QV.nilCheck rfl) rfl rfl rfl rfl [0, 1, 2, 3, 5, 6] rfl rfl ?_
          refine JT.take (i := 9) (v := .pointer (some ⟨b32, 3, none⟩)) hsel rfl (QV.fieldB fo_108_1 rfl rfl) rfl rfl rfl rfl [0, 1, 2, 3, 5, 6] rfl rfl ?_
          obtain ⟨y47, hc48, hm⟩ := bind_inv hm
          rcases y47 with y49 | y50
          ·
            refine JT.only (i := 4) (d := some 39) rfl (MV.call (Lo := [Asr.blk b1 102 [Seg.c (.int .i64 x2), Seg.c (.int .i64 x3), Seg.c (z4), Seg.c (z5), Seg.c (.bool x6), Seg.c (.int .i64 x7), Seg.c (.bool x8), Seg.c (.int .i64 x9), Seg.c (.int .u64 x10)]]) (Lr := [Asr.blk b46 58 [Seg.c (.int .i64 (gd (y25.2.2.2.1).l (1 : Int)).1), Seg.c (.int .i64 (gd (y25.2.2.2.1).l (1 : Int)).2)], Asr.blk b45 134 [Seg.c (.pointer (some ⟨b1, 0, none⟩)), Seg.c (.int .i64 (gd (y25.2.2.2.1).l (0 : Int)).1), Seg.c (.int .i64 (gd (y25.2.2.2.1).l (0 : Int)).2)], Asr.blk b40 58 [Seg.c (.int .i64 (gd (y25.2.2.2.1).l (0 : Int)).1), Seg.c (.int .i64 (gd (y25.2.2.2.1).l (0 : Int)).2)], Asr.blk b32 108 [Seg.c (.int .i64 x11), Seg.c (.int .i64 x12), Seg.c (.int .i64 x13), Seg.c (.pointer (some ⟨b45, 0, none⟩)), Seg.c (.pointer none), Seg.c (.pointer none)], Asr.blk b27 61 [Seg.of (Enc.arr 2 (Enc.pair (Enc.int .i64) (Enc.int .i64))) y25.1, Seg.c (.int .i64 y25.2.1), Seg.c (.int .i64 y25.2.2.1), Seg.of (Enc.arr 2 (Enc.pair (Enc.int .i64) (Enc.int .i64))) y25.2.2.2.1, Seg.c (.int .i64 y25.2.2.2.2.1)], Asr.blk b24 47 [Seg.c (.int .i64 x11), Seg.c (.int .i64 x12), Seg.c (.int .i64 x13)]]) (F56_1.spec (b1) (z4) (z5) (x2) (x3) (x6) (x7) (x8) (x9) (x10) ((gd (y25.2.2.2.1).l (1 : Int)).1) ((gd (y25.2.2.2.1).l (1 : Int)).2) _ hc48) rfl Try.func56 rfl rfl rfl [1] [0, 2, 3, 4, 5, 6] rfl rfl rfl trivial) rfl rfl rfl ?_
            rintro _ _ ⟨_, ⟨rfl, rfl⟩, rfl⟩
            refine ⟨fun _ => ⟨[1, 0, 2, 3, 5, 6], rfl, rfl⟩, ?_⟩
            refine JT.grow [Asr.blk b1 102 [Seg.c (.int .i64 x2), Seg.c (.int .i64 x3), Seg.c (z4), Seg.c (z5), Seg.c (.bool x6), Seg.c (.int .i64 x7), Seg.c (.bool x8), Seg.c (.int .i64 x9), Seg.c (.int .u64 x10)], Asr.blk b46 58 [Seg.c (.int .i64 (gd (y25.2.2.2.1).l (1 : Int)).1), Seg.c (.int .i64 (gd (y25.2.2.2.1).l (1 : Int)).2)], Asr.blk b45 134 [Seg.c (.pointer (some ⟨b1, 0, none⟩)), Seg.c (.int .i64 (gd (y25.2.2.2.1).l (0 : Int)).1), Seg.c (.int .i64 (gd (y25.2.2.2.1).l (0 : Int)).2)], Asr.blk b40 58 [Seg.c (.int .i64 (gd (y25.2.2.2.1).l (0 : Int)).1), Seg.c (.int .i64 (gd (y25.2.2.2.1).l (0 : Int)).2)], Asr.blk b27 61 [Seg.of (Enc.arr 2 (Enc.pair (Enc.int .i64) (Enc.int .i64))) y25.1, Seg.c (.int .i64 y25.2.1), Seg.c (.int .i64 y25.2.2.1), Seg.of (Enc.arr 2 (Enc.pair (Enc.int .i64) (Enc.int .i64))) y25.2.2.2.1, Seg.c (.int .i64 y25.2.2.2.2.1)], Asr.blk b24 47 [Seg.c (.int .i64 x11), Seg.c (.int .i64 x12), Seg.c (.int .i64 x13)]] [1, 0, 2, 3, 4, 5] rfl rfl ?_
            refine JT.only (i := 5) (d := some 34) rfl (MV.ofQV (v := .tuple #[.pointer none, .int .i64 (1 : Int)]) (QV.move rfl)) rfl rfl rfl ?_
            rintro _ _ ⟨rfl, rfl⟩
            refine ⟨fun _ => ⟨[0, 1, 2, 3, 5, 6], rfl, rfl⟩, ?_⟩
            refine JT.take (i := 6) (v := .pointer none) hsel rfl (QV.extract (vs := [.pointer none, .int .i64 (1 : Int)]) rfl rfl) rfl rfl rfl rfl [0, 1, 2, 3, 5, 6] rfl rfl ?_
            refine JT.take (i := 7) (v := .int .i64 (1 : Int)) hsel rfl (QV.extract (vs := [.pointer none, .int .i64 (1 : Int)]) rfl rfl) rfl rfl rfl rfl [0, 1, 2, 3, 5, 6] rfl rfl ?_
            refine JT.only (i := 10) (d := some 44) rfl (MV.ofQV (v := .pointer (some ⟨b32, 4, none⟩)) (QV.eq (QV.indexB (i := (1 : Int)) Try.underlying106 tk_105 rfl rfl (by decide)) rfl)) rfl rfl rfl ?_
            rintro _ _ ⟨rfl, rfl⟩
            refine ⟨fun _ => ⟨[0, 1, 2, 3, 5, 6], rfl, rfl⟩, ?_⟩
            refine JT.only (i := 11) (d := none) rfl (MV.store (ss := [Seg.c (.int .i64 x11), Seg.c (.int .i64 x12), Seg.c (.int .i64 x13), Seg.c (.pointer (some ⟨b45, 0, none⟩)), Seg.c (.pointer none), Seg.c (.pointer none)]) 4 4 1 [Seg.c (.pointer none)] rfl tk_105 rfl rfl rfl rfl (fun w hs => ⟨rfl, one_c rfl, trivial⟩)) rfl rfl rfl ?_
            rintro _ _ ⟨rfl, rfl⟩
            refine ⟨fun _ => ⟨[0, 1, 2, 3, 5, 6], rfl, rfl⟩, ?_⟩
            refine JT.grow [Asr.blk b1 102 [Seg.c (.int .i64 x2), Seg.c (.int .i64 x3), Seg.c (z4), Seg.c (z5), Seg.c (.bool x6), Seg.c (.int .i64 x7), Seg.c (.bool x8), Seg.c (.int .i64 x9), Seg.c (.int .u64 x10)], Asr.blk b46 58 [Seg.c (.int .i64 (gd (y25.2.2.2.1).l (1 : Int)).1), Seg.c (.int .i64 (gd (y25.2.2.2.1).l (1 : Int)).2)], Asr.blk b45 134 [Seg.c (.pointer (some ⟨b1, 0, none⟩)), Seg.c (.int .i64 (gd (y25.2.2.2.1).l (0 : Int)).1), Seg.c (.int .i64 (gd (y25.2.2.2.1).l (0 : Int)).2)], Asr.blk b40 58 [Seg.c (.int .i64 (gd (y25.2.2.2.1).l (0 : Int)).1), Seg.c (.int .i64 (gd (y25.2.2.2.1).l (0 : Int)).2)], Asr.blk b32 108 [Seg.c (.int .i64 x11), Seg.c (.int .i64 x12), Seg.c (.int .i64 x13), Seg.c (.pointer (some ⟨b45, 0, none⟩)), Seg.c (.pointer none), Seg.c (.pointer none)], Asr.blk b27 61 [Seg.of (Enc.arr 2 (Enc.pair (Enc.int .i64) (Enc.int .i64))) y25.1, Seg.c (.int .i64 y25.2.1), Seg.c (.int .i64 y25.2.2.1), Seg.of (Enc.arr 2 (Enc.pair (Enc.int .i64) (Enc.int .i64))) y25.2.2.2.1, Seg.c (.int .i64 y25.2.2.2.2.1)], Asr.blk b24 47 [Seg.c (.int .i64 x11), Seg.c (.int .i64 x12), Seg.c (.int .i64 x13)]] [0, 1, 2, 3, 5, 6] rfl rfl ?_
            refine JT.only (i := 12) (d := some 7) rfl (MV.ofQV (v := .int .i64 (1 : Int)) (QV.assign rfl)) rfl rfl rfl ?_
            rintro _ _ ⟨rfl, rfl⟩
            refine ⟨fun _ => ⟨[0, 1, 2, 3, 4, 5, 6], rfl, rfl⟩, ?_⟩
            refine JT.nil ?_
            refine QJ.then_normal ?_
            refine JC.seq ?_
            refine JC.region ?_
            refine JL.val (v := .int .i64 (1 : Int)) (QV.move rfl) rfl rfl rfl ?_
            refine JL.val (v := .bool true) (QV.eq (QV.neq rfl rfl) rfl) rfl rfl rfl ?_
            refine JL.nil ?_
            refine QJ.then_normal ?_
            refine JC.condT rfl ?_
            refine JC.seq ?_
            refine JC.region ?_
            refine JL.val (v := .int .i64 (1 : Int)) (QV.move rfl) rfl rfl rfl ?_
            refine JL.val (v := .pointer none) (QV.assign rfl) rfl rfl rfl ?_
            refine JL.val (v := .int .i64 (1 : Int)) (QV.assign rfl) rfl rfl rfl ?_
            refine JL.nil ?_
            refine QJ.then_normal ?_
            refine JC.ret ?_
            refine QJ.block_ret ?_
            refine QJ.then_ret ?_
            refine QJ.rnd_ret ?_
            refine QJ.block_ret ?_
            refine QJ.cut_ret ?_
            refine QJ.then_ret ?_
            obtain rfl := Option.some.inj hm
            exact QJ.body (vs := [.pointer none, .int .i64 (1 : Int)]) (.inl rfl) rfl (ResVs.cons (ResV.tmp rfl) (ResVs.cons (ResV.tmp rfl) ResVs.nil)) [0] rfl rfl (.inr ⟨own_blk _ _ _, trivial⟩) ⟨rfl, rfl⟩
          ·
            refine JT.only (i := 4) (d := some 39) rfl (MV.call (Lo := [Asr.blk b1 102 [Seg.c (.int .i64 x2), Seg.c (.int .i64 x3), Seg.c (z4), Seg.c (z5), Seg.c (.bool x6), Seg.c (.int .i64 x7), Seg.c (.bool x8), Seg.c (.int .i64 x9), Seg.c (.int .u64 x10)]]) (Lr := [Asr.blk b46 58 [Seg.c (.int .i64 (gd (y25.2.2.2.1).l (1 : Int)).1), Seg.c (.int .i64 (gd (y25.2.2.2.1).l (1 : Int)).2)], Asr.blk b45 134 [Seg.c (.pointer (some ⟨b1, 0, none⟩)), Seg.c (.int .i64 (gd (y25.2.2.2.1).l (0 : Int)).1), Seg.c (.int .i64 (gd (y25.2.2.2.1).l (0 : Int)).2)], Asr.blk b40 58 [Seg.c (.int .i64 (gd (y25.2.2.2.1).l (0 : Int)).1), Seg.c (.int .i64 (gd (y25.2.2.2.1).l (0 : Int)).2)], Asr.blk b32 108 [Seg.c (.int .i64 x11), Seg.c (.int .i64 x12), Seg.c (.int .i64 x13), Seg.c (.pointer (some ⟨b45, 0, none⟩)), Seg.c (.pointer none), Seg.c (.pointer none)], Asr.blk b27 61 [Seg.of (Enc.arr 2 (Enc.pair (Enc.int .i64) (Enc.int .i64))) y25.1, Seg.c (.int .i64 y25.2.1), Seg.c (.int .i64 y25.2.2.1), Seg.of (Enc.arr 2 (Enc.pair (Enc.int .i64) (Enc.int .i64))) y25.2.2.2.1, Seg.c (.int .i64 y25.2.2.2.2.1)], Asr.blk b24 47 [Seg.c (.int .i64 x11), Seg.c (.int .i64 x12), Seg.c (.int .i64 x13)]]) (F56_1.spec (b1) (z4) (z5) (x2) (x3) (x6) (x7) (x8) (x9) (x10) ((gd (y25.2.2.2.1).l (1 : Int)).1) ((gd (y25.2.2.2.1).l (1 : Int)).2) _ hc48) rfl Try.func56 rfl rfl rfl [1] [0, 2, 3, 4, 5, 6] rfl rfl rfl trivial) rfl rfl rfl ?_
            rintro _ _ ⟨_, ⟨b51, rfl, rfl⟩, rfl⟩
            refine ⟨fun _ => ⟨[2, 0, 3, 4, 6, 7], rfl, rfl⟩, ?_⟩
            refine JT.grow [Asr.blk b1 102 [Seg.c (.int .i64 x2), Seg.c (.int .i64 x3), Seg.c (z4), Seg.c (z5), Seg.c (.bool x6), Seg.c (.int .i64 x7), Seg.c (.bool x8), Seg.c (.int .i64 x9), Seg.c (.int .u64 x10)], Asr.blk b51 134 [Seg.c (.pointer (some ⟨b1, 0, none⟩)), Seg.c (.int .i64 (gd (y25.2.2.2.1).l (1 : Int)).1), Seg.c (.int .i64 (gd (y25.2.2.2.1).l (1 : Int)).2)], Asr.blk b46 58 [Seg.c (.int .i64 (gd (y25.2.2.2.1).l (1 : Int)).1), Seg.c (.int .i64 (gd (y25.2.2.2.1).l (1 : Int)).2)], Asr.blk b45 134 [Seg.c (.pointer (some ⟨b1, 0, none⟩)), Seg.c (.int .i64 (gd (y25.2.2.2.1).l (0 : Int)).1), Seg.c (.int .i64 (gd (y25.2.2.2.1).l (0 : Int)).2)], Asr.blk b40 58 [Seg.c (.int .i64 (gd (y25.2.2.2.1).l (0 : Int)).1), Seg.c (.int .i64 (gd (y25.2.2.2.1).l (0 : Int)).2)], Asr.blk b27 61 [Seg.of (Enc.arr 2 (Enc.pair (Enc.int .i64) (Enc.int .i64))) y25.1, Seg.c (.int .i64 y25.2.1), Seg.c (.int .i64 y25.2.2.1), Seg.of (Enc.arr 2 (Enc.pair (Enc.int .i64) (Enc.int .i64))) y25.2.2.2.1, Seg.c (.int .i64 y25.2.2.2.2.1)], Asr.blk b24 47 [Seg.c (.int .i64 x11), Seg.c (.int .i64 x12), Seg.c (.int .i64 x13)]] [2, 0, 3, 4, 5, 6] rfl rfl ?_
            refine JT.only (i := 5) (d := some 34) rfl (MV.ofQV (v := .tuple #[.pointer (some ⟨b51, 0, none⟩), .int .i64 (0 : Int)]) (QV.move rfl)) rfl rfl rfl ?_
            rintro _ _ ⟨rfl, rfl⟩
            refine ⟨fun _ => ⟨[0, 1, 2, 3, 4, 6, 7], rfl, rfl⟩, ?_⟩
            refine JT.take (i := 6) (v := .pointer (some ⟨b51, 0, none⟩)) hsel rfl (QV.extract (vs := [.pointer (some ⟨b51, 0, none⟩), .int .i64 (0 : Int)]) rfl rfl) rfl rfl rfl rfl [0, 1, 2, 3, 4, 6, 7] rfl rfl ?_
            refine JT.take (i := 7) (v := .int .i64 (0 : Int)) hsel rfl (QV.extract (vs := [.pointer (some ⟨b51, 0, none⟩), .int .i64 (0 : Int)]) rfl rfl) rfl rfl rfl rfl [0, 1, 2, 3, 4, 6, 7] rfl rfl ?_
            refine JT.only (i := 10) (d := some 44) rfl (MV.ofQV (v := .pointer (some ⟨b32, 4, none⟩)) (QV.eq (QV.indexB (i := (1 : Int)) Try.underlying106 tk_105 rfl rfl (by decide)) rfl)) rfl rfl rfl ?_
            rintro _ _ ⟨rfl, rfl⟩
            refine ⟨fun _ => ⟨[0, 1, 2, 3, 4, 6, 7], rfl, rfl⟩, ?_⟩
            refine JT.only (i := 11) (d := none) rfl (MV.store (ss := [Seg.c (.int .i64 x11), Seg.c (.int .i64 x12), Seg.c (.int .i64 x13), Seg.c (.pointer (some ⟨b45, 0, none⟩)), Seg.c (.pointer none), Seg.c (.pointer none)]) 5 4 1 [Seg.c (.pointer (some ⟨b51, 0, none⟩))] rfl tk_105 rfl rfl rfl rfl (fun w hs => ⟨rfl, one_c rfl, trivial⟩)) rfl rfl rfl ?_
            rintro _ _ ⟨rfl, rfl⟩
            refine ⟨fun _ => ⟨[0, 1, 2, 3, 4, 6, 7], rfl, rfl⟩, ?_⟩
            refine JT.grow [Asr.blk b1 102 [Seg.c (.int .i64 x2), Seg.c (.int .i64 x3), Seg.c (z4), Seg.c (z5), Seg.c (.bool x6), Seg.c (.int .i64 x7), Seg.c (.bool x8), Seg.c (.int .i64 x9), Seg.c (.int .u64 x10)], Asr.blk b51 134 [Seg.c (.pointer (some ⟨b1, 0, none⟩)), Seg.c (.int .i64 (gd (y25.2.2.2.1).l (1 : Int)).1), Seg.c (.int .i64 (gd (y25.2.2.2.1).l (1 : Int)).2)], Asr.blk b46 58 [Seg.c (.int .i64 (gd (y25.2.2.2.1).l (1 : Int)).1), Seg.c (.int .i64 (gd (y25.2.2.2.1).l (1 : Int)).2)], Asr.blk b45 134 [Seg.c (.pointer (some ⟨b1, 0, none⟩)), Seg.c (.int .i64 (gd (y25.2.2.2.1).l (0 : Int)).1), Seg.c (.int .i64 (gd (y25.2.2.2.1).l (0 : Int)).2)], Asr.blk b40 58 [Seg.c (.int .i64 (gd (y25.2.2.2.1).l (0 : Int)).1), Seg.c (.int .i64 (gd (y25.2.2.2.1).l (0 : Int)).2)], Asr.blk b32 108 [Seg.c (.int .i64 x11), Seg.c (.int .i64 x12), Seg.c (.int .i64 x13), Seg.c (.pointer (some ⟨b45, 0, none⟩)), Seg.c (.pointer (some ⟨b51, 0, none⟩)), Seg.c (.pointer none)], Asr.blk b27 61 [Seg.of (Enc.arr 2 (Enc.pair (Enc.int .i64) (Enc.int .i64))) y25.1, Seg.c (.int .i64 y25.2.1), Seg.c (.int .i64 y25.2.2.1), Seg.of (Enc.arr 2 (Enc.pair (Enc.int .i64) (Enc.int .i64))) y25.2.2.2.1, Seg.c (.int .i64 y25.2.2.2.2.1)], Asr.blk b24 47 [Seg.c (.int .i64 x11), Seg.c (.int .i64 x12), Seg.c (.int .i64 x13)]] [0, 1, 2, 3, 4, 6, 7] rfl rfl ?_
            refine JT.only (i := 12) (d := some 7) rfl (MV.ofQV (v := .int .i64 (0 : Int)) (QV.assign rfl)) rfl rfl rfl ?_
            rintro _ _ ⟨rfl, rfl⟩
            refine ⟨fun _ => ⟨[0, 1, 2, 3, 4, 5, 6, 7], rfl, rfl⟩, ?_⟩
            refine JT.nil ?_
            refine QJ.then_normal ?_
            refine JC.seq ?_
            refine JC.region ?_
            refine JL.val (v := .int .i64 (0 : Int)) (QV.move rfl) rfl rfl rfl ?_
            refine JL.val (v := .bool false) (QV.eq (QV.neq rfl rfl) rfl) rfl rfl rfl ?_
            refine JL.nil ?_
            refine QJ.then_normal ?_
            refine JC.condF rfl ?_
            refine JC.skip ?_
            refine QJ.block_normal ?_
            refine QJ.then_normal ?_
            refine JC.region ?_
            refine JL.val (v := .int .i64 (2 : Int)) (QV.eq (QV.add rfl rfl) (congrArg (Value.int .i64) (by decide : _ = (2 : Int)))) rfl rfl rfl ?_
            refine JL.val (v := .int .i64 (2 : Int)) (QV.move rfl) rfl rfl rfl ?_
            refine JL.nil ?_
            refine QJ.rnd_normal ?_
            refine JC.seq ?_
            refine JC.region ?_
            refine JL.val (v := .bool false) (QV.eq (QV.lss rfl rfl) rfl) rfl rfl rfl ?_
            refine JL.nil ?_
            refine QJ.then_normal ?_
            refine JC.seq ?_
            refine JC.condF rfl ?_
            refine JC.exit ?_
            refine QJ.then_exit ?_
            refine QJ.rnd_exit ?_
            refine QJ.block_hit ?_
            exact QJ.cut_normal ((), (b45, b51)) hm [0, 6, 3, 1, 5] (by exact ⟨rfl, rfl, rfl, trivial⟩) rfl rfl
    ·
      refine JC.condT' rfl (congrArg Bool.not (decide_eq_false h31)) ?_
      refine JC.seq ?_
      refine JC.region ?_
      refine JL.val (v := .pointer none) (QV.assign rfl) rfl rfl rfl ?_
      refine JL.val (v := .int .i64 (1 : Int)) (QV.assign rfl) rfl rfl rfl ?_
      refine JL.nil ?_
      refine QJ.then_normal ?_
      refine JC.ret ?_
      refine QJ.then_ret ?_
      obtain rfl := Option.some.inj hm
      exact QJ.body (vs := [.pointer none, .int .i64 (1 : Int)]) (.inl rfl) rfl (ResVs.cons (ResV.tmp rfl) (ResVs.cons (ResV.tmp rfl) ResVs.nil)) [0] rfl rfl (.inr ⟨own_blk _ _ _, trivial⟩) ⟨rfl, rfl⟩
  ·
    refine JT.only (i := 2) (d := some 18) rfl (MV.ofQV (v := .bool true) (QV.eq (QV.move rfl) (congrArg Value.bool (congrArg Bool.not (decide_eq_false h28))))) rfl rfl rfl ?_
    rintro _ _ ⟨rfl, rfl⟩
    refine ⟨fun _ => ⟨[0, 1, 2], rfl, rfl⟩, ?_⟩
    refine JT.skip (i := 3) (d := some 19) hsel rfl rfl rfl rfl rfl [0, 1, 2] rfl rfl ?_
    refine JT.skip (i := 5) (d := some 21) hsel rfl rfl rfl rfl rfl [0, 1, 2] rfl rfl ?_
    refine JT.skip (i := 6) (d := some 22) hsel rfl rfl rfl rfl rfl [0, 1, 2] rfl rfl ?_
    refine JT.skipO (i := 4) (d := some 20) rfl rfl rfl rfl [0, 1, 2] rfl rfl ?_
    refine JT.skipO (i := 7) (d := some 23) rfl rfl rfl rfl [0, 1, 2] rfl rfl ?_
    refine JT.only (i := 8) (d := some 24) rfl (MV.ofQV (v := .bool true) (QV.pickT rfl rfl)) rfl rfl rfl ?_
    rintro _ _ ⟨rfl, rfl⟩
    refine ⟨fun _ => ⟨[0, 1, 2], rfl, rfl⟩, ?_⟩
    refine JT.nil ?_
    refine QJ.then_normal ?_
    refine JC.condT rfl ?_
    refine JC.seq ?_
    refine JC.region ?_
    refine JL.val (v := .pointer none) (QV.assign rfl) rfl rfl rfl ?_
    refine JL.val (v := .int .i64 (1 : Int)) (QV.assign rfl) rfl rfl rfl ?_
    refine JL.nil ?_
    refine QJ.then_normal ?_
    refine JC.ret ?_
    refine QJ.then_ret ?_
    obtain rfl := Option.some.inj hm
    exact QJ.body (vs := [.pointer none, .int .i64 (1 : Int)]) (.inl rfl) rfl (ResVs.cons (ResV.tmp rfl) (ResVs.cons (ResV.tmp rfl) ResVs.nil)) [2] rfl rfl (.inr ⟨own_blk _ _ _, trivial⟩) ⟨rfl, rfl⟩

/-! ### 38: (*drogher/image.Image).Cap -/
noncomputable def F38_1.m (x2 : Int) (x3 : Int) (x4 : Int) (x7 : Int) (x8 : Int) (x11 : Bool) (x12 : Int) (x13 : Bool) (x14 : Int) (x15 : Int) (x16 : Int) (x17 : Int) (x19 : Int) (x20 : Int) (x22 : Int) (x23 : Int) : Option Int :=
  some (IntKind.wrap .i64 (x3 * x4))
set_option maxRecDepth 100000 in
set_option maxHeartbeats 4000000 in
theorem F38_1.spec (b1 : Nat) (b5 : Nat) (b6 : Nat) (z9 : Value) (z10 : Value) (b18 : Nat) (b21 : Nat) (x2 : Int) (x3 : Int) (x4 : Int) (x7 : Int) (x8 : Int) (x11 : Bool) (x12 : Int) (x13 : Bool) (x14 : Int) (x15 : Int) (x16 : Int) (x17 : Int) (x19 : Int) (x20 : Int) (x22 : Int) (x23 : Int) (r : Int) (hm : F38_1.m x2 x3 x4 x7 x8 x11 x12 x13 x14 x15 x16 x17 x19 x20 x22 x23 = some r) :
    Ctr Try.prog false 38 [.pointer (some ⟨b1, 0, none⟩)] [Asr.blk b1 108 [Seg.c (.int .i64 x2), Seg.c (.int .i64 x3), Seg.c (.int .i64 x4), Seg.c (.pointer (some ⟨b5, 0, none⟩)), Seg.c (.pointer (some ⟨b18, 0, none⟩)), Seg.c (.pointer (some ⟨b21, 0, none⟩))], Asr.blk b5 134 [Seg.c (.pointer (some ⟨b6, 0, none⟩)), Seg.c (.int .i64 x16), Seg.c (.int .i64 x17)], Asr.blk b6 102 [Seg.c (.int .i64 x7), Seg.c (.int .i64 x8), Seg.c (z9), Seg.c (z10), Seg.c (.bool x11), Seg.c (.int .i64 x12), Seg.c (.bool x13), Seg.c (.int .i64 x14), Seg.c (.int .u64 x15)], Asr.blk b18 134 [Seg.c (.pointer (some ⟨b6, 0, none⟩)), Seg.c (.int .i64 x19), Seg.c (.int .i64 x20)], Asr.blk b21 134 [Seg.c (.pointer (some ⟨b6, 0, none⟩)), Seg.c (.int .i64 x22), Seg.c (.int .i64 x23)]] (fun v L' => v = .int .i64 r ∧ L' = [Asr.blk b6 102 [Seg.c (.int .i64 x7), Seg.c (.int .i64 x8), Seg.c (z9), Seg.c (z10), Seg.c (.bool x11), Seg.c (.int .i64 x12), Seg.c (.bool x13), Seg.c (.int .i64 x14), Seg.c (.int .u64 x15)], Asr.blk b5 134 [Seg.c (.pointer (some ⟨b6, 0, none⟩)), Seg.c (.int .i64 x16), Seg.c (.int .i64 x17)], Asr.blk b18 134 [Seg.c (.pointer (some ⟨b6, 0, none⟩)), Seg.c (.int .i64 x19), Seg.c (.int .i64 x20)], Asr.blk b21 134 [Seg.c (.pointer (some ⟨b6, 0, none⟩)), Seg.c (.int .i64 x22), Seg.c (.int .i64 x23)], Asr.blk b1 108 [Seg.c (.int .i64 x2), Seg.c (.int .i64 x3), Seg.c (.int .i64 x4), Seg.c (.pointer (some ⟨b5, 0, none⟩)), Seg.c (.pointer (some ⟨b18, 0, none⟩)), Seg.c (.pointer (some ⟨b21, 0, none⟩))]]) := by
  refine Ctr.intro (n := 16) (env := [(0, .pointer (some ⟨b1, 0, none⟩))]) Try.func38 rfl rfl rfl rfl (fun c => ?_)
  unfold F38_1.m at hm
  refine JC.seq ?_
  refine JC.region ?_
  refine JL.val (v := .int .i64 (0 : Int)) (QV.assign rfl) rfl rfl rfl ?_
  refine JL.nil ?_
  refine QJ.then_normal ?_
  refine JC.seq ?_
  refine JC.seq ?_
  refine JC.region ?_
  refine JL.val (v := .pointer (some ⟨b1, 0, none⟩)) (QV.move rfl) rfl rfl rfl ?_
  refine JL.val (v := .bool false) ((QV.eq (QV.eqlP Try.underlying53 rfl rfl (.inr rfl)) (by simp))) rfl rfl rfl ?_
  refine JL.nil ?_
  refine QJ.then_normal ?_
  refine JC.condF rfl ?_
  refine JC.skip ?_
  refine QJ.then_normal ?_
  refine JC.seq ?_
  refine JC.regionT [Asr.blk b1 108 [Seg.c (.int .i64 x2), Seg.c (.int .i64 x3), Seg.c (.int .i64 x4), Seg.c (.pointer (some ⟨b5, 0, none⟩)), Seg.c (.pointer (some ⟨b18, 0, none⟩)), Seg.c (.pointer (some ⟨b21, 0, none⟩))], Asr.blk b5 134 [Seg.c (.pointer (some ⟨b6, 0, none⟩)), Seg.c (.int .i64 x16), Seg.c (.int .i64 x17)], Asr.blk b6 102 [Seg.c (.int .i64 x7), Seg.c (.int .i64 x8), Seg.c (z9), Seg.c (z10), Seg.c (.bool x11), Seg.c (.int .i64 x12), Seg.c (.bool x13), Seg.c (.int .i64 x14), Seg.c (.int .u64 x15)], Asr.blk b18 134 [Seg.c (.pointer (some ⟨b6, 0, none⟩)), Seg.c (.int .i64 x19), Seg.c (.int .i64 x20)], Asr.blk b21 134 [Seg.c (.pointer (some ⟨b6, 0, none⟩)), Seg.c (.int .i64 x22), Seg.c (.int .i64 x23)]] (fun t => false) [(0, true), (1, true), (2, true), (3, true), (4, true), (5, false), (6, false), (7, false), (8, false), (9, false), (10, false), (11, false)] (by kernel_rfl) (by kernel_rfl) (by kernel_rfl) rfl (fun hsel => ?_)
  refine JT.take (i := 0) (v := .pointer (some ⟨b1, 0, none⟩)) hsel rfl (QV.move rfl) rfl rfl rfl rfl [0, 1, 2, 3, 4] rfl rfl ?_
  refine JT.take (i := 1) (v := .pointer (some ⟨b1, 0, none⟩)) hsel rfl (QV.nilCheck rfl) rfl rfl rfl rfl [0, 1, 2, 3, 4] rfl rfl ?_
  refine JT.take (i := 2) (v := .pointer (some ⟨b1, 0, none⟩)) hsel rfl (QV.fieldB fo_108_0 rfl rfl) rfl rfl rfl rfl [0, 1, 2, 3, 4] rfl rfl ?_
  refine JT.take (i := 3) (v := .pointer (some ⟨b1, 1, none⟩)) hsel rfl (QV.fieldB fo_47_1 rfl rfl) rfl rfl rfl rfl [0, 1, 2, 3, 4] rfl rfl ?_
  refine JT.take (i := 4) (v := .int .i64 x3) hsel rfl (QV.load1 (ss := [Seg.c (.int .i64 x2), Seg.c (.int .i64 x3), Seg.c (.int .i64 x4), Seg.c (.pointer (some ⟨b5, 0, none⟩)), Seg.c (.pointer (some ⟨b18, 0, none⟩)), Seg.c (.pointer (some ⟨b21, 0, none⟩))]) 0 1 rfl tk_3 rfl rfl rfl) rfl rfl rfl rfl [0, 1, 2, 3, 4] rfl rfl ?_
  refine JT.only (i := 5) (d := some 10) rfl (MV.ofQV (v := .pointer (some ⟨b1, 0, none⟩)) (QV.move rfl)) rfl rfl rfl ?_
  rintro _ _ ⟨rfl, rfl⟩
  refine ⟨fun _ => ⟨[0, 1, 2, 3, 4], rfl, rfl⟩, ?_⟩
  refine JT.only (i := 6) (d := some 11) rfl (MV.ofQV (v := .pointer (some ⟨b1, 0, none⟩)) (QV.nilCheck rfl)) rfl rfl rfl ?_
  rintro _ _ ⟨rfl, rfl⟩
  refine ⟨fun _ => ⟨[0, 1, 2, 3, 4], rfl, rfl⟩, ?_⟩
  refine JT.only (i := 7) (d := some 12) rfl (MV.ofQV (v := .pointer (some ⟨b1, 0, none⟩)) (QV.fieldB fo_108_0 rfl rfl)) rfl rfl rfl ?_
  rintro _ _ ⟨rfl, rfl⟩
  refine ⟨fun _ => ⟨[0, 1, 2, 3, 4], rfl, rfl⟩, ?_⟩
  refine JT.only (i := 8) (d := some 13) rfl (MV.ofQV (v := .pointer (some ⟨b1, 2, none⟩)) (QV.fieldB fo_47_2 rfl rfl)) rfl rfl rfl ?_
  rintro _ _ ⟨rfl, rfl⟩
  refine ⟨fun _ => ⟨[0, 1, 2, 3, 4], rfl, rfl⟩, ?_⟩
  refine JT.only (i := 9) (d := some 14) rfl (MV.ofQV (v := .int .i64 x4) (QV.load1 (ss := [Seg.c (.int .i64 x2), Seg.c (.int .i64 x3), Seg.c (.int .i64 x4), Seg.c (.pointer (some ⟨b5, 0, none⟩)), Seg.c (.pointer (some ⟨b18, 0, none⟩)), Seg.c (.pointer (some ⟨b21, 0, none⟩))]) 0 2 rfl tk_3 rfl rfl rfl)) rfl rfl rfl ?_
  rintro _ _ ⟨rfl, rfl⟩
  refine ⟨fun _ => ⟨[0, 1, 2, 3, 4], rfl, rfl⟩, ?_⟩
  refine JT.only (i := 10) (d := some 15) rfl (MV.ofQV (v := .int .i64 (IntKind.wrap .i64 (x3 * x4))) (QV.mul rfl rfl)) rfl rfl rfl ?_
  rintro _ _ ⟨rfl, rfl⟩
  refine ⟨fun _ => ⟨[0, 1, 2, 3, 4], rfl, rfl⟩, ?_⟩
  refine JT.only (i := 11) (d := some 2) rfl (MV.ofQV (v := .int .i64 (IntKind.wrap .i64 (x3 * x4))) (QV.assign rfl)) rfl rfl rfl ?_
  rintro _ _ ⟨rfl, rfl⟩
  refine ⟨fun _ => ⟨[0, 1, 2, 3, 4], rfl, rfl⟩, ?_⟩
  refine JT.nil ?_
  refine QJ.then_normal ?_
  refine JC.ret ?_
  obtain rfl := Option.some.inj hm
  exact QJ.body (vs := [.int .i64 (IntKind.wrap .i64 (x3 * x4))]) (.inl rfl) rfl (ResVs.cons (ResV.tmp rfl) ResVs.nil) [2, 1, 3, 4, 0] rfl rfl (.inr ⟨own_blk _ _ _, own_blk _ _ _, own_blk _ _ _, own_blk _ _ _, own_blk _ _ _, trivial⟩) ⟨rfl, rfl⟩

end Go.Proofs.Ytgganckggdjpaaa
