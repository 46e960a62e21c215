/- Written by gen.py: functions and their contracts. -/
import Derived.Test.YtmedbpiapeiobaaOts
namespace Go.Proofs.Ytmedbpiapeiobaa
open Go Go.Eng Go.Proofs
set_option linter.unusedVariables false
set_option linter.unusedSimpArgs false
/-! ### 20: drogher/drogherlaw03.OtsSpoilt -/
noncomputable def F20.m (x1 : Int) (x2 : (Arr Int 16)) (x3 : Int) (x4 : (Arr Int 32)) (x6 : List Int) (x7 : Int) (x8 : Int) : Option Bool :=
  (if x1 < (1 : Int) then ((F64.m).bind fun y13 => some y13) else (if (3 : Int) < x1 then ((F64.m).bind fun y16 => some y16) else (if (200 : Int) < ((x6).length : Int) then ((F64.m).bind fun y19 => some y19) else (if x8 = (0 : Int) then ((F64.m).bind fun y22 => some y22) else (if x7 < (0 : Int) then ((F64.m).bind fun y25 => some y25) else ((F57.m (x1)).bind fun y27 => (if (IntKind.wrap .i64 ((32 : Int) * y27)) ≤ x7 then ((F64.m).bind fun y30 => some y30) else ((F65_1.m (x1) (x2) (x3) (x4) (x6)).bind fun y32 => (if y32.2 = (0 : Int) then ((F57.m (x1)).bind fun y36 => (if ((y32.1).length : Int) = (IntKind.wrap .i64 ((36 : Int) + (IntKind.wrap .i64 ((32 : Int) * y36)))) then ((F67_1.m (x1) (x2) (x3) (y32.1) (x6)).bind fun y39 => (if 0 ≤ (IntKind.wrap .i64 ((36 : Int) + x7)) ∧ (IntKind.wrap .i64 ((36 : Int) + x7)) < ((y32.1).length : Int) then ((F67_1.m (x1) (x2) (x3) ((List.set y32.1 (Int.toNat (IntKind.wrap .i64 ((36 : Int) + x7))) (xorI .u8 (gd y32.1 (IntKind.wrap .i64 ((36 : Int) + x7))) x8))) (x6)).bind fun y43 => (if y39.2 = (0 : Int) then (if y43.2 = (0 : Int) then ((F68.m (x1) (x2) (x3) ((List.set y32.1 (Int.toNat (IntKind.wrap .i64 ((36 : Int) + x7))) (xorI .u8 (gd y32.1 (IntKind.wrap .i64 ((36 : Int) + x7))) x8))) (x6)).bind fun y48 => (if y43.1 = y48.1 then (if y48.2 = (0 : Int) then (if ((decide (y43.1 = y39.1)) == (decide (y48.1 = y39.1))) = true then ((F64.m).bind fun y54 => some y54) else some false) else some false) else some false)) else some false) else some false)) else none)) else some false)) else some false)))))))))
set_option maxRecDepth 100000 in
set_option maxHeartbeats 4000000 in
theorem F20.spec (s5 : SlV) (x1 : Int) (x2 : (Arr Int 16)) (x3 : Int) (x4 : (Arr Int 32)) (x6 : List Int) (x7 : Int) (x8 : Int) (r : Bool) (hm : F20.m x1 x2 x3 x4 x6 x7 x8 = some r) :
    Ctr Try.prog false 20 [.int .u32 x1, .agg (((Enc.arr 16 (Enc.int .u8))).enc x2).toArray, .int .u32 x3, .agg (((Enc.arr 32 (Enc.int .u8))).enc x4).toArray, s5.v, .int .i64 x7, .int .u8 x8] [Asr.vw (Enc.int .u8) (s5.v) x6] (fun v L' => v = .bool r ∧ L' = []) := by
  refine Ctr.intro (n := 133) (env := [(0, .int .u32 x1), (1, .agg (((Enc.arr 16 (Enc.int .u8))).enc x2).toArray), (2, .int .u32 x3), (3, .agg (((Enc.arr 32 (Enc.int .u8))).enc x4).toArray), (4, s5.v), (5, .int .i64 x7), (6, .int .u8 x8)]) Try.func20 rfl rfl rfl rfl (fun c => ?_)
  unfold F20.m at hm
  refine JC.seq ?_
  refine JC.region ?_
  refine JL.mv (d := some 8) (MV.box [Seg.of (Enc.arr 16 (Enc.int .u8)) x2] rfl (fun w hs => rfl)) rfl rfl rfl ?_
  rintro _ _ ⟨b10, rfl, rfl⟩
  refine JL.mv (d := some 10) (MV.box [Seg.of (Enc.arr 32 (Enc.int .u8)) x4] rfl (fun w hs => rfl)) rfl rfl rfl ?_
  rintro _ _ ⟨b11, rfl, rfl⟩
  refine JL.val (v := .bool false) (QV.assign rfl) rfl rfl rfl ?_
  refine JL.nil ?_
  refine QJ.then_normal ?_
  refine JC.seq ?_
  refine JC.seq ?_
  refine JC.region ?_
  refine JL.val (v := .int .u32 x1) (QV.move rfl) rfl rfl rfl ?_
  refine JL.val (v := .bool (decide (x1 < (1 : Int)))) (QV.lss rfl rfl) rfl rfl rfl ?_
  rcases ite_inv hm with ⟨h12, hm⟩ | ⟨h12, hm⟩
  ·
    refine JL.val (v := .bool true) (QV.eq (QV.move rfl) (congrArg Value.bool (decide_eq_true h12))) rfl rfl rfl ?_
    refine JL.skip (d := some 26) rfl rfl rfl ?_
    refine JL.skip (d := some 27) rfl rfl rfl ?_
    refine JL.val (v := .bool true) (QV.pickT rfl rfl) rfl rfl rfl ?_
    refine JL.val (v := .bool true) (QV.move rfl) rfl rfl rfl ?_
    refine JL.skip (d := some 30) rfl rfl rfl ?_
    refine JL.skip (d := some 31) rfl rfl rfl ?_
    refine JL.skip (d := some 32) rfl rfl rfl ?_
    refine JL.val (v := .bool true) (QV.pickT rfl rfl) rfl rfl rfl ?_
    refine JL.val (v := .bool true) (QV.move rfl) rfl rfl rfl ?_
    refine JL.skip (d := some 35) rfl rfl rfl ?_
    refine JL.skip (d := some 36) rfl rfl rfl ?_
    refine JL.val (v := .bool true) (QV.pickT rfl rfl) rfl rfl rfl ?_
    refine JL.val (v := .bool true) (QV.move rfl) rfl rfl rfl ?_
    refine JL.skip (d := some 39) rfl rfl rfl ?_
    refine JL.skip (d := some 40) rfl rfl rfl ?_
    refine JL.val (v := .bool true) (QV.pickT rfl rfl) rfl rfl rfl ?_
    refine JL.val (v := .bool true) (QV.move rfl) rfl rfl rfl ?_
    refine JL.skip (d := some 43) rfl rfl rfl ?_
    refine JL.skip (d := some 44) rfl rfl rfl ?_
    refine JL.skip (d := some 45) rfl rfl rfl ?_
    refine JL.skip (d := some 46) rfl rfl rfl ?_
    refine JL.skip (d := some 47) rfl rfl rfl ?_
    refine JL.val (v := .bool true) (QV.pickT rfl rfl) rfl rfl rfl ?_
    refine JL.nil ?_
    refine QJ.then_normal ?_
    refine JC.condT rfl ?_
    refine JC.seq ?_
    refine JC.region ?_
    obtain ⟨y13, hc14, hm⟩ := bind_inv hm
    refine JL.mv (d := some 49) (MV.call (Lo := []) (Lr := [Asr.blk b11 39 [Seg.of (Enc.arr 32 (Enc.int .u8)) x4], Asr.blk b10 75 [Seg.of (Enc.arr 16 (Enc.int .u8)) x2], Asr.vw (Enc.int .u8) (s5.v) x6]) (F64.spec _ hc14) rfl Try.func64 rfl rfl rfl [] [0, 1, 2] rfl rfl rfl trivial) rfl rfl rfl ?_
    rintro _ _ ⟨_, ⟨rfl, rfl⟩, rfl⟩
    refine JL.val (v := .bool y13) (QV.assign rfl) rfl rfl rfl ?_
    refine JL.nil ?_
    refine QJ.then_normal ?_
    refine JC.ret ?_
    refine QJ.then_ret ?_
    obtain rfl := Option.some.inj hm
    exact QJ.body (vs := [.bool y13]) (.inl rfl) rfl (ResVs.cons (ResV.tmp rfl) ResVs.nil) [] rfl rfl (.inr trivial) ⟨rfl, rfl⟩
  ·
    refine JL.val (v := .bool false) (QV.eq (QV.move rfl) (congrArg Value.bool (decide_eq_false h12))) rfl rfl rfl ?_
    refine JL.val (v := .int .u32 x1) (QV.move rfl) rfl rfl rfl ?_
    refine JL.val (v := .bool (decide ((3 : Int) < x1))) (QV.gtr rfl rfl) rfl rfl rfl ?_
    refine JL.val (v := .bool (decide ((3 : Int) < x1))) (QV.pickF rfl rfl) rfl rfl rfl ?_
    rcases ite_inv hm with ⟨h15, hm⟩ | ⟨h15, hm⟩
    ·
      refine JL.val (v := .bool true) (QV.eq (QV.move rfl) (congrArg Value.bool (decide_eq_true h15))) rfl rfl rfl ?_
      refine JL.skip (d := some 30) rfl rfl rfl ?_
      refine JL.skip (d := some 31) rfl rfl rfl ?_
      refine JL.skip (d := some 32) rfl rfl rfl ?_
      refine JL.val (v := .bool true) (QV.pickT rfl rfl) rfl rfl rfl ?_
      refine JL.val (v := .bool true) (QV.move rfl) rfl rfl rfl ?_
      refine JL.skip (d := some 35) rfl rfl rfl ?_
      refine JL.skip (d := some 36) rfl rfl rfl ?_
      refine JL.val (v := .bool true) (QV.pickT rfl rfl) rfl rfl rfl ?_
      refine JL.val (v := .bool true) (QV.move rfl) rfl rfl rfl ?_
      refine JL.skip (d := some 39) rfl rfl rfl ?_
      refine JL.skip (d := some 40) rfl rfl rfl ?_
      refine JL.val (v := .bool true) (QV.pickT rfl rfl) rfl rfl rfl ?_
      refine JL.val (v := .bool true) (QV.move rfl) rfl rfl rfl ?_
      refine JL.skip (d := some 43) rfl rfl rfl ?_
      refine JL.skip (d := some 44) rfl rfl rfl ?_
      refine JL.skip (d := some 45) rfl rfl rfl ?_
      refine JL.skip (d := some 46) rfl rfl rfl ?_
      refine JL.skip (d := some 47) rfl rfl rfl ?_
      refine JL.val (v := .bool true) (QV.pickT rfl rfl) rfl rfl rfl ?_
      refine JL.nil ?_
      refine QJ.then_normal ?_
      refine JC.condT rfl ?_
      refine JC.seq ?_
      refine JC.region ?_
      obtain ⟨y16, hc17, hm⟩ := bind_inv hm
      refine JL.mv (d := some 49) (MV.call (Lo := []) (Lr := [Asr.blk b11 39 [Seg.of (Enc.arr 32 (Enc.int .u8)) x4], Asr.blk b10 75 [Seg.of (Enc.arr 16 (Enc.int .u8)) x2], Asr.vw (Enc.int .u8) (s5.v) x6]) (F64.spec _ hc17) rfl Try.func64 rfl rfl rfl [] [0, 1, 2] rfl rfl rfl trivial) rfl rfl rfl ?_
      rintro _ _ ⟨_, ⟨rfl, rfl⟩, rfl⟩
      refine JL.val (v := .bool y16) (QV.assign rfl) rfl rfl rfl ?_
      refine JL.nil ?_
      refine QJ.then_normal ?_
      refine JC.ret ?_
      refine QJ.then_ret ?_
      obtain rfl := Option.some.inj hm
      exact QJ.body (vs := [.bool y16]) (.inl rfl) rfl (ResVs.cons (ResV.tmp rfl) ResVs.nil) [] rfl rfl (.inr trivial) ⟨rfl, rfl⟩
    ·
      refine JL.val (v := .bool false) (QV.eq (QV.move rfl) (congrArg Value.bool (decide_eq_false h15))) rfl rfl rfl ?_
      refine JL.val (v := s5.v) (QV.move rfl) rfl rfl rfl ?_
      refine JL.val (v := .int .i64 ((x6).length : Int)) (QV.len (Rdg.vw 2 rfl) Try.underlying22 rfl) rfl rfl rfl ?_
      refine JL.val (v := .bool (decide ((200 : Int) < ((x6).length : Int)))) (QV.gtr rfl rfl) rfl rfl rfl ?_
      refine JL.val (v := .bool (decide ((200 : Int) < ((x6).length : Int)))) (QV.pickF rfl rfl) rfl rfl rfl ?_
      rcases ite_inv hm with ⟨h18, hm⟩ | ⟨h18, hm⟩
      ·
        refine JL.val (v := .bool true) (QV.eq (QV.move rfl) (congrArg Value.bool (decide_eq_true h18))) rfl rfl rfl ?_
        refine JL.skip (d := some 35) rfl rfl rfl ?_
        refine JL.skip (d := some 36) rfl rfl rfl ?_
        refine JL.val (v := .bool true) (QV.pickT rfl rfl) rfl rfl rfl ?_
        refine JL.val (v := .bool true) (QV.move rfl) rfl rfl rfl ?_
        refine JL.skip (d := some 39) rfl rfl rfl ?_
        refine JL.skip (d := some 40) rfl rfl rfl ?_
        refine JL.val (v := .bool true) (QV.pickT rfl rfl) rfl rfl rfl ?_
        refine JL.val (v := .bool true) (QV.move rfl) rfl rfl rfl ?_
        refine JL.skip (d := some 43) rfl rfl rfl ?_
        refine JL.skip (d := some 44) rfl rfl rfl ?_
        refine JL.skip (d := some 45) rfl rfl rfl ?_
        refine JL.skip (d := some 46) rfl rfl rfl ?_
        refine JL.skip (d := some 47) rfl rfl rfl ?_
        refine JL.val (v := .bool true) (QV.pickT rfl rfl) rfl rfl rfl ?_
        refine JL.nil ?_
        refine QJ.then_normal ?_
        refine JC.condT rfl ?_
        refine JC.seq ?_
        refine JC.region ?_
        obtain ⟨y19, hc20, hm⟩ := bind_inv hm
        refine JL.mv (d := some 49) (MV.call (Lo := []) (Lr := [Asr.blk b11 39 [Seg.of (Enc.arr 32 (Enc.int .u8)) x4], Asr.blk b10 75 [Seg.of (Enc.arr 16 (Enc.int .u8)) x2], Asr.vw (Enc.int .u8) (s5.v) x6]) (F64.spec _ hc20) rfl Try.func64 rfl rfl rfl [] [0, 1, 2] rfl rfl rfl trivial) rfl rfl rfl ?_
        rintro _ _ ⟨_, ⟨rfl, rfl⟩, rfl⟩
        refine JL.val (v := .bool y19) (QV.assign rfl) rfl rfl rfl ?_
        refine JL.nil ?_
        refine QJ.then_normal ?_
        refine JC.ret ?_
        refine QJ.then_ret ?_
        obtain rfl := Option.some.inj hm
        exact QJ.body (vs := [.bool y19]) (.inl rfl) rfl (ResVs.cons (ResV.tmp rfl) ResVs.nil) [] rfl rfl (.inr trivial) ⟨rfl, rfl⟩
      ·
        refine JL.val (v := .bool false) (QV.eq (QV.move rfl) (congrArg Value.bool (decide_eq_false h18))) rfl rfl rfl ?_
        refine JL.val (v := .int .u8 x8) (QV.move rfl) rfl rfl rfl ?_
        refine JL.val (v := .bool (decide (x8 = (0 : Int)))) (QV.eql rfl rfl) rfl rfl rfl ?_
        refine JL.val (v := .bool (decide (x8 = (0 : Int)))) (QV.pickF rfl rfl) rfl rfl rfl ?_
        rcases ite_inv hm with ⟨h21, hm⟩ | ⟨h21, hm⟩
        ·
          refine JL.val (v := .bool true) (QV.eq (QV.move rfl) (congrArg Value.bool (decide_eq_true h21))) rfl rfl rfl ?_
          refine JL.skip (d := some 39) rfl rfl rfl ?_
          refine JL.skip (d := some 40) rfl rfl rfl ?_
          refine JL.val (v := .bool true) (QV.pickT rfl rfl) rfl rfl rfl ?_
          refine JL.val (v := .bool true) (QV.move rfl) rfl rfl rfl ?_
          refine JL.skip (d := some 43) rfl rfl rfl ?_
          refine JL.skip (d := some 44) rfl rfl rfl ?_
          refine JL.skip (d := some 45) rfl rfl rfl ?_
          refine JL.skip (d := some 46) rfl rfl rfl ?_
          refine JL.skip (d := some 47) rfl rfl rfl ?_
          refine JL.val (v := .bool true) (QV.pickT rfl rfl) rfl rfl rfl ?_
          refine JL.nil ?_
          refine QJ.then_normal ?_
          refine JC.condT rfl ?_
          refine JC.seq ?_
          refine JC.region ?_
          obtain ⟨y22, hc23, hm⟩ := bind_inv hm
          refine JL.mv (d := some 49) (MV.call (Lo := []) (Lr := [Asr.blk b11 39 [Seg.of (Enc.arr 32 (Enc.int .u8)) x4], Asr.blk b10 75 [Seg.of (Enc.arr 16 (Enc.int .u8)) x2], Asr.vw (Enc.int .u8) (s5.v) x6]) (F64.spec _ hc23) rfl Try.func64 rfl rfl rfl [] [0, 1, 2] rfl rfl rfl trivial) rfl rfl rfl ?_
          rintro _ _ ⟨_, ⟨rfl, rfl⟩, rfl⟩
          refine JL.val (v := .bool y22) (QV.assign rfl) rfl rfl rfl ?_
          refine JL.nil ?_
          refine QJ.then_normal ?_
          refine JC.ret ?_
          refine QJ.then_ret ?_
          obtain rfl := Option.some.inj hm
          exact QJ.body (vs := [.bool y22]) (.inl rfl) rfl (ResVs.cons (ResV.tmp rfl) ResVs.nil) [] rfl rfl (.inr trivial) ⟨rfl, rfl⟩
        ·
          refine JL.val (v := .bool false) (QV.eq (QV.move rfl) (congrArg Value.bool (decide_eq_false h21))) rfl rfl rfl ?_
          refine JL.val (v := .int .i64 x7) (QV.move rfl) rfl rfl rfl ?_
          refine JL.val (v := .bool (decide (x7 < (0 : Int)))) (QV.lss rfl rfl) rfl rfl rfl ?_
          refine JL.val (v := .bool (decide (x7 < (0 : Int)))) (QV.pickF rfl rfl) rfl rfl rfl ?_
          rcases ite_inv hm with ⟨h24, hm⟩ | ⟨h24, hm⟩
          ·
            refine JL.val (v := .bool true) (QV.eq (QV.move rfl) (congrArg Value.bool (decide_eq_true h24))) rfl rfl rfl ?_
            refine JL.skip (d := some 43) rfl rfl rfl ?_
            refine JL.skip (d := some 44) rfl rfl rfl ?_
            refine JL.skip (d := some 45) rfl rfl rfl ?_
            refine JL.skip (d := some 46) rfl rfl rfl ?_
            refine JL.skip (d := some 47) rfl rfl rfl ?_
            refine JL.val (v := .bool true) (QV.pickT rfl rfl) rfl rfl rfl ?_
            refine JL.nil ?_
            refine QJ.then_normal ?_
            refine JC.condT rfl ?_
            refine JC.seq ?_
            refine JC.region ?_
            obtain ⟨y25, hc26, hm⟩ := bind_inv hm
            refine JL.mv (d := some 49) (MV.call (Lo := []) (Lr := [Asr.blk b11 39 [Seg.of (Enc.arr 32 (Enc.int .u8)) x4], Asr.blk b10 75 [Seg.of (Enc.arr 16 (Enc.int .u8)) x2], Asr.vw (Enc.int .u8) (s5.v) x6]) (F64.spec _ hc26) rfl Try.func64 rfl rfl rfl [] [0, 1, 2] rfl rfl rfl trivial) rfl rfl rfl ?_
            rintro _ _ ⟨_, ⟨rfl, rfl⟩, rfl⟩
            refine JL.val (v := .bool y25) (QV.assign rfl) rfl rfl rfl ?_
            refine JL.nil ?_
            refine QJ.then_normal ?_
            refine JC.ret ?_
            refine QJ.then_ret ?_
            obtain rfl := Option.some.inj hm
            exact QJ.body (vs := [.bool y25]) (.inl rfl) rfl (ResVs.cons (ResV.tmp rfl) ResVs.nil) [] rfl rfl (.inr trivial) ⟨rfl, rfl⟩
          ·
            refine JL.val (v := .bool false) (QV.eq (QV.move rfl) (congrArg Value.bool (decide_eq_false h24))) rfl rfl rfl ?_
            refine JL.val (v := .int .i64 x7) (QV.move rfl) rfl rfl rfl ?_
            refine JL.val (v := .int .u32 x1) (QV.move rfl) rfl rfl rfl ?_
            obtain ⟨y27, hc28, hm⟩ := bind_inv hm
            refine JL.mv (d := some 45) (MV.call (Lo := []) (Lr := [Asr.blk b11 39 [Seg.of (Enc.arr 32 (Enc.int .u8)) x4], Asr.blk b10 75 [Seg.of (Enc.arr 16 (Enc.int .u8)) x2], Asr.vw (Enc.int .u8) (s5.v) x6]) (F57.spec (x1) _ hc28) rfl Try.func57 rfl rfl rfl [] [0, 1, 2] rfl rfl rfl trivial) rfl rfl rfl ?_
            rintro _ _ ⟨_, ⟨rfl, rfl⟩, rfl⟩
            refine JL.val (v := .int .i64 (IntKind.wrap .i64 ((32 : Int) * y27))) (QV.mul rfl rfl) rfl rfl rfl ?_
            refine JL.val (v := .bool (decide ((IntKind.wrap .i64 ((32 : Int) * y27)) ≤ x7))) (QV.geq rfl rfl) rfl rfl rfl ?_
            refine JL.val (v := .bool (decide ((IntKind.wrap .i64 ((32 : Int) * y27)) ≤ x7))) (QV.pickF rfl rfl) rfl rfl rfl ?_
            refine JL.nil ?_
            refine QJ.then_normal ?_
            rcases ite_inv hm with ⟨h29, hm⟩ | ⟨h29, hm⟩
            ·
              refine JC.condT' rfl (decide_eq_true h29) ?_
              refine JC.seq ?_
              refine JC.region ?_
              obtain ⟨y30, hc31, hm⟩ := bind_inv hm
              refine JL.mv (d := some 49) (MV.call (Lo := []) (Lr := [Asr.blk b11 39 [Seg.of (Enc.arr 32 (Enc.int .u8)) x4], Asr.blk b10 75 [Seg.of (Enc.arr 16 (Enc.int .u8)) x2], Asr.vw (Enc.int .u8) (s5.v) x6]) (F64.spec _ hc31) rfl Try.func64 rfl rfl rfl [] [0, 1, 2] rfl rfl rfl trivial) rfl rfl rfl ?_
              rintro _ _ ⟨_, ⟨rfl, rfl⟩, rfl⟩
              refine JL.val (v := .bool y30) (QV.assign rfl) rfl rfl rfl ?_
              refine JL.nil ?_
              refine QJ.then_normal ?_
              refine JC.ret ?_
              refine QJ.then_ret ?_
              obtain rfl := Option.some.inj hm
              exact QJ.body (vs := [.bool y30]) (.inl rfl) rfl (ResVs.cons (ResV.tmp rfl) ResVs.nil) [] rfl rfl (.inr trivial) ⟨rfl, rfl⟩
            ·
              refine JC.condF' rfl (decide_eq_false h29) ?_
              refine JC.skip ?_
              refine QJ.then_normal ?_
              refine JC.seq ?_
              refine JC.region ?_
              refine JL.val (v := .int .u32 x1) (QV.move rfl) rfl rfl rfl ?_
              refine JL.val (v := .agg (((Enc.arr 16 (Enc.int .u8))).enc x2).toArray) (QV.eq (QV.loadN (ss := [Seg.of (Enc.arr 16 (Enc.int .u8)) x2]) 1 0 1 rfl tk_75 rfl rfl rfl rfl) rfl) rfl rfl rfl ?_
              refine JL.val (v := .int .u32 x3) (QV.move rfl) rfl rfl rfl ?_
              refine JL.val (v := .agg (((Enc.arr 32 (Enc.int .u8))).enc x4).toArray) (QV.eq (QV.loadN (ss := [Seg.of (Enc.arr 32 (Enc.int .u8)) x4]) 0 0 1 rfl tk_39 rfl rfl rfl rfl) rfl) rfl rfl rfl ?_
              refine JL.val (v := s5.v) (QV.move rfl) rfl rfl rfl ?_
              obtain ⟨y32, hc33, hm⟩ := bind_inv hm
              refine JL.mv (d := some 56) (MV.call (Lo := []) (Lr := [Asr.blk b11 39 [Seg.of (Enc.arr 32 (Enc.int .u8)) x4], Asr.blk b10 75 [Seg.of (Enc.arr 16 (Enc.int .u8)) x2], Asr.vw (Enc.int .u8) (s5.v) x6]) (F65_1.spec (s5) (x1) (x2) (x3) (x4) (x6) _ hc33) rfl Try.func65 rfl rfl rfl [] [0, 1, 2] rfl rfl rfl ⟨(Drv.vw 2 rfl), trivial⟩) rfl rfl rfl ?_
              rintro _ _ ⟨_, ⟨z34, rfl, rfl⟩, rfl⟩
              refine JL.val (v := .tuple #[z34.v, .int .i64 y32.2]) (QV.move rfl) rfl rfl rfl ?_
              refine JL.val (v := z34.v) (QV.extract (vs := [z34.v, .int .i64 y32.2]) rfl rfl) rfl rfl rfl ?_
              refine JL.val (v := .int .i64 y32.2) (QV.extract (vs := [z34.v, .int .i64 y32.2]) rfl rfl) rfl rfl rfl ?_
              refine JL.val (v := z34.v) (QV.assign rfl) rfl rfl rfl ?_
              refine JL.val (v := .int .i64 y32.2) (QV.assign rfl) rfl rfl rfl ?_
              refine JL.nil ?_
              refine QJ.then_normal ?_
              refine JC.seq ?_
              refine JC.seq ?_
              refine JC.region ?_
              refine JL.val (v := .int .i64 y32.2) (QV.move rfl) rfl rfl rfl ?_
              refine JL.val (v := .bool (!(decide (y32.2 = (0 : Int))))) (QV.neq rfl rfl) rfl rfl rfl ?_
              rcases ite_inv hm with ⟨h35, hm⟩ | ⟨h35, hm⟩
              ·
                refine JL.val (v := .bool false) (QV.eq (QV.move rfl) (congrArg Value.bool (congrArg Bool.not (decide_eq_true h35)))) rfl rfl rfl ?_
                refine JL.val (v := z34.v) (QV.move rfl) rfl rfl rfl ?_
                refine JL.val (v := .int .i64 ((y32.1).length : Int)) (QV.len (Rdg.of 0 rfl) Try.underlying22 rfl) rfl rfl rfl ?_
                refine JL.val (v := .int .u32 x1) (QV.move rfl) rfl rfl rfl ?_
                obtain ⟨y36, hc37, hm⟩ := bind_inv hm
                refine JL.mv (d := some 65) (MV.call (Lo := []) (Lr := [Asr.of 5 (Enc.int .u8) (z34.v) y32.1, Asr.blk b11 39 [Seg.of (Enc.arr 32 (Enc.int .u8)) x4], Asr.blk b10 75 [Seg.of (Enc.arr 16 (Enc.int .u8)) x2], Asr.vw (Enc.int .u8) (s5.v) x6]) (F57.spec (x1) _ hc37) rfl Try.func57 rfl rfl rfl [] [0, 1, 2, 3] rfl rfl rfl trivial) rfl rfl rfl ?_
                rintro _ _ ⟨_, ⟨rfl, rfl⟩, rfl⟩
                refine JL.val (v := .int .i64 (IntKind.wrap .i64 ((32 : Int) * y36))) (QV.mul rfl rfl) rfl rfl rfl ?_
                refine JL.val (v := .int .i64 (IntKind.wrap .i64 ((36 : Int) + (IntKind.wrap .i64 ((32 : Int) * y36))))) (QV.add rfl rfl) rfl rfl rfl ?_
                refine JL.val (v := .bool (!(decide (((y32.1).length : Int) = (IntKind.wrap .i64 ((36 : Int) + (IntKind.wrap .i64 ((32 : Int) * y36)))))))) (QV.neq rfl rfl) rfl rfl rfl ?_
                refine JL.val (v := .bool (!(decide (((y32.1).length : Int) = (IntKind.wrap .i64 ((36 : Int) + (IntKind.wrap .i64 ((32 : Int) * y36)))))))) (QV.pickF rfl rfl) rfl rfl rfl ?_
                refine JL.nil ?_
                refine QJ.then_normal ?_
                rcases ite_inv hm with ⟨h38, hm⟩ | ⟨h38, hm⟩
                ·
                  refine JC.condF' rfl (congrArg Bool.not (decide_eq_true h38)) ?_
                  refine JC.skip ?_
                  refine QJ.then_normal ?_
                  refine JC.seq ?_
                  refine JC.region ?_
                  refine JL.val (v := .int .u32 x1) (QV.move rfl) rfl rfl rfl ?_
                  refine JL.val (v := .agg (((Enc.arr 16 (Enc.int .u8))).enc x2).toArray) (QV.eq (QV.loadN (ss := [Seg.of (Enc.arr 16 (Enc.int .u8)) x2]) 2 0 1 rfl tk_75 rfl rfl rfl rfl) rfl) rfl rfl rfl ?_
                  refine JL.val (v := .int .u32 x3) (QV.move rfl) rfl rfl rfl ?_
                  refine JL.val (v := z34.v) (QV.move rfl) rfl rfl rfl ?_
                  refine JL.val (v := s5.v) (QV.move rfl) rfl rfl rfl ?_
                  obtain ⟨y39, hc40, hm⟩ := bind_inv hm
                  refine JL.mv (d := some 76) (MV.call (Lo := []) (Lr := [Asr.of 5 (Enc.int .u8) (z34.v) y32.1, Asr.blk b11 39 [Seg.of (Enc.arr 32 (Enc.int .u8)) x4], Asr.blk b10 75 [Seg.of (Enc.arr 16 (Enc.int .u8)) x2], Asr.vw (Enc.int .u8) (s5.v) x6]) (F67_1.spec (z34) (s5) (x1) (x2) (x3) (y32.1) (x6) _ hc40) rfl Try.func67 rfl rfl rfl [] [0, 1, 2, 3] rfl rfl rfl ⟨(Drv.of 0 rfl), ⟨(Drv.vw 3 rfl), trivial⟩⟩) rfl rfl rfl ?_
                  rintro _ _ ⟨_, ⟨rfl, rfl⟩, rfl⟩
                  refine JL.val (v := .tuple #[.agg (((Enc.arr 32 (Enc.int .u8))).enc y39.1).toArray, .int .i64 y39.2]) (QV.move rfl) rfl rfl rfl ?_
                  refine JL.val (v := .agg (((Enc.arr 32 (Enc.int .u8))).enc y39.1).toArray) (QV.extract (vs := [.agg (((Enc.arr 32 (Enc.int .u8))).enc y39.1).toArray, .int .i64 y39.2]) rfl rfl) rfl rfl rfl ?_
                  refine JL.val (v := .int .i64 y39.2) (QV.extract (vs := [.agg (((Enc.arr 32 (Enc.int .u8))).enc y39.1).toArray, .int .i64 y39.2]) rfl rfl) rfl rfl rfl ?_
                  refine JL.mv (d := some 17) (MV.alloc [Seg.of (Enc.arr 32 (Enc.int .u8)) (Arr.rep 32 (0 : Int))] z_41 rfl) rfl rfl rfl ?_
                  rintro _ _ ⟨b41, rfl, rfl⟩
                  refine JL.mv (d := none) (MV.store (ss := [Seg.of (Enc.arr 32 (Enc.int .u8)) (Arr.rep 32 (0 : Int))]) 0 0 1 [Seg.of (Enc.arr 32 (Enc.int .u8)) y39.1] rfl tk_41 rfl rfl rfl rfl (fun w hs => ⟨rfl, one_of _ _, trivial⟩)) rfl rfl rfl ?_
                  rintro _ _ ⟨rfl, rfl⟩
                  refine JL.val (v := .int .i64 y39.2) (QV.assign rfl) rfl rfl rfl ?_
                  refine JL.nil ?_
                  refine QJ.then_normal ?_
                  refine JC.seq ?_
                  refine JC.region ?_
                  refine JL.val (v := z34.v) (QV.move rfl) rfl rfl rfl ?_
                  refine JL.val (v := .int .i64 x7) (QV.move rfl) rfl rfl rfl ?_
                  refine JL.val (v := .int .i64 (IntKind.wrap .i64 ((36 : Int) + x7))) (QV.add rfl rfl) rfl rfl rfl ?_
                  refine JL.val (v := z34.v) (QV.move rfl) rfl rfl rfl ?_
                  refine JL.val (v := .int .i64 x7) (QV.move rfl) rfl rfl rfl ?_
                  refine JL.val (v := .int .i64 (IntKind.wrap .i64 ((36 : Int) + x7))) (QV.add rfl rfl) rfl rfl rfl ?_
                  obtain ⟨h42, hm⟩ := guard_inv hm
                  refine JL.val (v := .pointer (some (elA (z34.v) (Int.toNat (IntKind.wrap .i64 ((36 : Int) + x7)) * ((Enc.int .u8)).sz)))) (QV.indexA (Rdg.of 1 rfl) Try.underlying22 tk_5 rfl rfl h42) rfl rfl rfl ?_
                  refine JL.val (v := .int .u8 (gd y32.1 (IntKind.wrap .i64 ((36 : Int) + x7)))) (QV.el1 (Rdg.of 1 rfl) tk_5 rfl h42 rfl) rfl rfl rfl ?_
                  refine JL.val (v := .int .u8 x8) (QV.move rfl) rfl rfl rfl ?_
                  refine JL.val (v := .int .u8 (xorI .u8 (gd y32.1 (IntKind.wrap .i64 ((36 : Int) + x7))) x8)) (QV.xor rfl rfl) rfl rfl rfl ?_
                  refine JL.val (v := .pointer (some (elA (z34.v) (Int.toNat (IntKind.wrap .i64 ((36 : Int) + x7)) * ((Enc.int .u8)).sz)))) (QV.indexA (Rdg.of 1 rfl) Try.underlying22 tk_5 rfl rfl h42) rfl rfl rfl ?_
                  refine JL.mv (d := none) (MV.storeEl 1 (xorI .u8 (gd y32.1 (IntKind.wrap .i64 ((36 : Int) + x7))) x8) rfl tk_5 rfl rfl h42 rfl) rfl rfl rfl ?_
                  rintro _ _ ⟨rfl, rfl⟩
                  refine JL.nil ?_
                  refine QJ.then_normal ?_
                  refine JC.seq ?_
                  refine JC.region ?_
                  refine JL.val (v := .int .u32 x1) (QV.move rfl) rfl rfl rfl ?_
                  refine JL.val (v := .agg (((Enc.arr 16 (Enc.int .u8))).enc x2).toArray) (QV.eq (QV.loadN (ss := [Seg.of (Enc.arr 16 (Enc.int .u8)) x2]) 3 0 1 rfl tk_75 rfl rfl rfl rfl) rfl) rfl rfl rfl ?_
                  refine JL.val (v := .int .u32 x3) (QV.move rfl) rfl rfl rfl ?_
                  refine JL.val (v := z34.v) (QV.move rfl) rfl rfl rfl ?_
                  refine JL.val (v := s5.v) (QV.move rfl) rfl rfl rfl ?_
                  obtain ⟨y43, hc44, hm⟩ := bind_inv hm
                  refine JL.mv (d := some 96) (MV.call (Lo := []) (Lr := [Asr.blk b41 41 [Seg.of (Enc.arr 32 (Enc.int .u8)) y39.1], Asr.of 5 (Enc.int .u8) (z34.v) (List.set y32.1 (Int.toNat (IntKind.wrap .i64 ((36 : Int) + x7))) (xorI .u8 (gd y32.1 (IntKind.wrap .i64 ((36 : Int) + x7))) x8)), Asr.blk b11 39 [Seg.of (Enc.arr 32 (Enc.int .u8)) x4], Asr.blk b10 75 [Seg.of (Enc.arr 16 (Enc.int .u8)) x2], Asr.vw (Enc.int .u8) (s5.v) x6]) (F67_1.spec (z34) (s5) (x1) (x2) (x3) ((List.set y32.1 (Int.toNat (IntKind.wrap .i64 ((36 : Int) + x7))) (xorI .u8 (gd y32.1 (IntKind.wrap .i64 ((36 : Int) + x7))) x8))) (x6) _ hc44) rfl Try.func67 rfl rfl rfl [] [0, 1, 2, 3, 4] rfl rfl rfl ⟨(Drv.of 1 rfl), ⟨(Drv.vw 4 rfl), trivial⟩⟩) rfl rfl rfl ?_
                  rintro _ _ ⟨_, ⟨rfl, rfl⟩, rfl⟩
                  refine JL.val (v := .tuple #[.agg (((Enc.arr 32 (Enc.int .u8))).enc y43.1).toArray, .int .i64 y43.2]) (QV.move rfl) rfl rfl rfl ?_
                  refine JL.val (v := .agg (((Enc.arr 32 (Enc.int .u8))).enc y43.1).toArray) (QV.extract (vs := [.agg (((Enc.arr 32 (Enc.int .u8))).enc y43.1).toArray, .int .i64 y43.2]) rfl rfl) rfl rfl rfl ?_
                  refine JL.val (v := .int .i64 y43.2) (QV.extract (vs := [.agg (((Enc.arr 32 (Enc.int .u8))).enc y43.1).toArray, .int .i64 y43.2]) rfl rfl) rfl rfl rfl ?_
                  refine JL.mv (d := some 19) (MV.alloc [Seg.of (Enc.arr 32 (Enc.int .u8)) (Arr.rep 32 (0 : Int))] z_41 rfl) rfl rfl rfl ?_
                  rintro _ _ ⟨b45, rfl, rfl⟩
                  refine JL.mv (d := none) (MV.store (ss := [Seg.of (Enc.arr 32 (Enc.int .u8)) (Arr.rep 32 (0 : Int))]) 0 0 1 [Seg.of (Enc.arr 32 (Enc.int .u8)) y43.1] rfl tk_41 rfl rfl rfl rfl (fun w hs => ⟨rfl, one_of _ _, trivial⟩)) rfl rfl rfl ?_
                  rintro _ _ ⟨rfl, rfl⟩
                  refine JL.val (v := .int .i64 y43.2) (QV.assign rfl) rfl rfl rfl ?_
                  refine JL.nil ?_
                  refine QJ.then_normal ?_
                  refine JC.seq ?_
                  refine JC.seq ?_
                  refine JC.region ?_
                  refine JL.val (v := .int .i64 y39.2) (QV.move rfl) rfl rfl rfl ?_
                  refine JL.val (v := .bool (!(decide (y39.2 = (0 : Int))))) (QV.neq rfl rfl) rfl rfl rfl ?_
                  rcases ite_inv hm with ⟨h46, hm⟩ | ⟨h46, hm⟩
                  ·
                    refine JL.val (v := .bool false) (QV.eq (QV.move rfl) (congrArg Value.bool (congrArg Bool.not (decide_eq_true h46)))) rfl rfl rfl ?_
                    refine JL.val (v := .int .i64 y43.2) (QV.move rfl) rfl rfl rfl ?_
                    refine JL.val (v := .bool (!(decide (y43.2 = (0 : Int))))) (QV.neq rfl rfl) rfl rfl rfl ?_
                    refine JL.val (v := .bool (!(decide (y43.2 = (0 : Int))))) (QV.pickF rfl rfl) rfl rfl rfl ?_
                    refine JL.nil ?_
                    refine QJ.then_normal ?_
                    rcases ite_inv hm with ⟨h47, hm⟩ | ⟨h47, hm⟩
                    ·
                      refine JC.condF' rfl (congrArg Bool.not (decide_eq_true h47)) ?_
                      refine JC.skip ?_
                      refine QJ.then_normal ?_
                      refine JC.seq ?_
                      refine JC.region ?_
                      refine JL.val (v := .int .u32 x1) (QV.move rfl) rfl rfl rfl ?_
                      refine JL.val (v := .agg (((Enc.arr 16 (Enc.int .u8))).enc x2).toArray) (QV.eq (QV.loadN (ss := [Seg.of (Enc.arr 16 (Enc.int .u8)) x2]) 4 0 1 rfl tk_75 rfl rfl rfl rfl) rfl) rfl rfl rfl ?_
                      refine JL.val (v := .int .u32 x3) (QV.move rfl) rfl rfl rfl ?_
                      refine JL.val (v := z34.v) (QV.move rfl) rfl rfl rfl ?_
                      refine JL.val (v := s5.v) (QV.move rfl) rfl rfl rfl ?_
                      obtain ⟨y48, hc49, hm⟩ := bind_inv hm
                      refine JL.mv (d := some 111) (MV.call (Lo := []) (Lr := [Asr.blk b45 41 [Seg.of (Enc.arr 32 (Enc.int .u8)) y43.1], Asr.blk b41 41 [Seg.of (Enc.arr 32 (Enc.int .u8)) y39.1], Asr.of 5 (Enc.int .u8) (z34.v) (List.set y32.1 (Int.toNat (IntKind.wrap .i64 ((36 : Int) + x7))) (xorI .u8 (gd y32.1 (IntKind.wrap .i64 ((36 : Int) + x7))) x8)), Asr.blk b11 39 [Seg.of (Enc.arr 32 (Enc.int .u8)) x4], Asr.blk b10 75 [Seg.of (Enc.arr 16 (Enc.int .u8)) x2], Asr.vw (Enc.int .u8) (s5.v) x6]) (F68.spec (z34) (s5) (x1) (x2) (x3) ((List.set y32.1 (Int.toNat (IntKind.wrap .i64 ((36 : Int) + x7))) (xorI .u8 (gd y32.1 (IntKind.wrap .i64 ((36 : Int) + x7))) x8))) (x6) _ hc49) rfl Try.func68 rfl rfl rfl [] [0, 1, 2, 3, 4, 5] rfl rfl rfl ⟨(Drv.of 2 rfl), ⟨(Drv.vw 5 rfl), trivial⟩⟩) rfl rfl rfl ?_
                      rintro _ _ ⟨_, ⟨rfl, rfl⟩, rfl⟩
                      refine JL.val (v := .tuple #[.agg (((Enc.arr 32 (Enc.int .u8))).enc y48.1).toArray, .int .i64 y48.2]) (QV.move rfl) rfl rfl rfl ?_
                      refine JL.val (v := .agg (((Enc.arr 32 (Enc.int .u8))).enc y48.1).toArray) (QV.extract (vs := [.agg (((Enc.arr 32 (Enc.int .u8))).enc y48.1).toArray, .int .i64 y48.2]) rfl rfl) rfl rfl rfl ?_
                      refine JL.val (v := .int .i64 y48.2) (QV.extract (vs := [.agg (((Enc.arr 32 (Enc.int .u8))).enc y48.1).toArray, .int .i64 y48.2]) rfl rfl) rfl rfl rfl ?_
                      refine JL.mv (d := some 21) (MV.alloc [Seg.of (Enc.arr 32 (Enc.int .u8)) (Arr.rep 32 (0 : Int))] z_39 rfl) rfl rfl rfl ?_
                      rintro _ _ ⟨b50, rfl, rfl⟩
                      refine JL.mv (d := none) (MV.store (ss := [Seg.of (Enc.arr 32 (Enc.int .u8)) (Arr.rep 32 (0 : Int))]) 0 0 1 [Seg.of (Enc.arr 32 (Enc.int .u8)) y48.1] rfl tk_39 rfl rfl rfl rfl (fun w hs => ⟨rfl, one_of _ _, trivial⟩)) rfl rfl rfl ?_
                      rintro _ _ ⟨rfl, rfl⟩
                      refine JL.val (v := .int .i64 y48.2) (QV.assign rfl) rfl rfl rfl ?_
                      refine JL.nil ?_
                      refine QJ.then_normal ?_
                      refine JC.seq ?_
                      refine JC.regionT [Asr.blk b50 39 [Seg.of (Enc.arr 32 (Enc.int .u8)) y48.1], Asr.blk b45 41 [Seg.of (Enc.arr 32 (Enc.int .u8)) y43.1], Asr.blk b41 41 [Seg.of (Enc.arr 32 (Enc.int .u8)) y39.1], Asr.of 5 (Enc.int .u8) (z34.v) (List.set y32.1 (Int.toNat (IntKind.wrap .i64 ((36 : Int) + x7))) (xorI .u8 (gd y32.1 (IntKind.wrap .i64 ((36 : Int) + x7))) x8)), Asr.blk b11 39 [Seg.of (Enc.arr 32 (Enc.int .u8)) x4], Asr.blk b10 75 [Seg.of (Enc.arr 16 (Enc.int .u8)) x2], Asr.vw (Enc.int .u8) (s5.v) x6] (fun t => false) [(0, true), (1, false), (2, false), (3, false), (4, false), (5, false), (6, false), (7, false), (8, true), (9, true), (10, true), (11, true), (12, false), (13, false), (14, false), (15, false), (16, false), (17, false), (18, false), (19, false)] (by kernel_rfl) (by kernel_rfl) (by kernel_rfl) rfl (fun hsel => ?_)
                      refine JT.take (i := 0) (v := .agg (((Enc.arr 32 (Enc.int .u8))).enc y43.1).toArray) hsel rfl (QV.eq (QV.loadN (ss := [Seg.of (Enc.arr 32 (Enc.int .u8)) y43.1]) 1 0 1 rfl tk_41 rfl rfl rfl rfl) rfl) rfl rfl rfl [0, 1, 2, 3, 4, 5, 6] rfl rfl ?_
                      refine JT.only (i := 1) (d := some 115) rfl (MV.ofQV (v := .agg (((Enc.arr 32 (Enc.int .u8))).enc y48.1).toArray) (QV.eq (QV.loadN (ss := [Seg.of (Enc.arr 32 (Enc.int .u8)) y48.1]) 0 0 1 rfl tk_39 rfl rfl rfl rfl) rfl)) rfl rfl rfl ?_
                      rintro _ _ ⟨rfl, rfl⟩
                      refine ⟨fun _ => ⟨[0, 1, 2, 3, 4, 5, 6], rfl, rfl⟩, ?_⟩
                      refine JT.only (i := 2) (d := some 116) rfl (MV.ofQV (v := .bool (decide (y43.1 = y48.1))) (QV.eqlE (E := (Enc.arr 32 (Enc.int .u8))) (a := y43.1) (b := y48.1) zeq_41 (by kernel_rfl) rfl rfl)) rfl rfl rfl ?_
                      rintro _ _ ⟨rfl, rfl⟩
                      refine ⟨fun _ => ⟨[0, 1, 2, 3, 4, 5, 6], rfl, rfl⟩, ?_⟩
                      rcases ite_inv hm with ⟨h51, hm⟩ | ⟨h51, hm⟩
                      ·
                        refine JT.only (i := 3) (d := some 117) rfl (MV.ofQV (v := .bool true) (QV.eq (QV.move rfl) (congrArg Value.bool (decide_eq_true h51)))) rfl rfl rfl ?_
                        rintro _ _ ⟨rfl, rfl⟩
                        refine ⟨fun _ => ⟨[0, 1, 2, 3, 4, 5, 6], rfl, rfl⟩, ?_⟩
                        refine JT.only (i := 4) (d := some 118) rfl (MV.ofQV (v := .int .i64 y48.2) (QV.move rfl)) rfl rfl rfl ?_
                        rintro _ _ ⟨rfl, rfl⟩
                        refine ⟨fun _ => ⟨[0, 1, 2, 3, 4, 5, 6], rfl, rfl⟩, ?_⟩
                        refine JT.only (i := 5) (d := some 119) rfl (MV.ofQV (v := .bool (decide (y48.2 = (0 : Int)))) (QV.eql rfl rfl)) rfl rfl rfl ?_
                        rintro _ _ ⟨rfl, rfl⟩
                        refine ⟨fun _ => ⟨[0, 1, 2, 3, 4, 5, 6], rfl, rfl⟩, ?_⟩
                        refine JT.only (i := 6) (d := some 120) rfl (MV.ofQV (v := .bool (decide (y48.2 = (0 : Int)))) (QV.pickT rfl rfl)) rfl rfl rfl ?_
                        rintro _ _ ⟨rfl, rfl⟩
                        refine ⟨fun _ => ⟨[0, 1, 2, 3, 4, 5, 6], rfl, rfl⟩, ?_⟩
                        rcases ite_inv hm with ⟨h52, hm⟩ | ⟨h52, hm⟩
                        ·
                          refine JT.only (i := 7) (d := some 121) rfl (MV.ofQV (v := .bool true) (QV.eq (QV.move rfl) (congrArg Value.bool (decide_eq_true h52)))) rfl rfl rfl ?_
                          rintro _ _ ⟨rfl, rfl⟩
                          refine ⟨fun _ => ⟨[0, 1, 2, 3, 4, 5, 6], rfl, rfl⟩, ?_⟩
                          refine JT.take (i := 8) (v := .agg (((Enc.arr 32 (Enc.int .u8))).enc y43.1).toArray) hsel rfl (QV.eq (QV.loadN (ss := [Seg.of (Enc.arr 32 (Enc.int .u8)) y43.1]) 1 0 1 rfl tk_41 rfl rfl rfl rfl) rfl) rfl rfl rfl [0, 1, 2, 3, 4, 5, 6] rfl rfl ?_
                          refine JT.take (i := 9) (v := .agg (((Enc.arr 32 (Enc.int .u8))).enc y39.1).toArray) hsel rfl (QV.eq (QV.loadN (ss := [Seg.of (Enc.arr 32 (Enc.int .u8)) y39.1]) 2 0 1 rfl tk_41 rfl rfl rfl rfl) rfl) rfl rfl rfl [0, 1, 2, 3, 4, 5, 6] rfl rfl ?_
                          refine JT.take (i := 10) (v := .bool (decide (y43.1 = y39.1))) hsel rfl (QV.eqlE (E := (Enc.arr 32 (Enc.int .u8))) (a := y43.1) (b := y39.1) zeq_41 (by kernel_rfl) rfl rfl) rfl rfl rfl [0, 1, 2, 3, 4, 5, 6] rfl rfl ?_
                          refine JT.take (i := 11) (v := .agg (((Enc.arr 32 (Enc.int .u8))).enc y48.1).toArray) hsel rfl (QV.eq (QV.loadN (ss := [Seg.of (Enc.arr 32 (Enc.int .u8)) y48.1]) 0 0 1 rfl tk_39 rfl rfl rfl rfl) rfl) rfl rfl rfl [0, 1, 2, 3, 4, 5, 6] rfl rfl ?_
                          refine JT.only (i := 12) (d := some 126) rfl (MV.ofQV (v := .agg (((Enc.arr 32 (Enc.int .u8))).enc y39.1).toArray) (QV.eq (QV.loadN (ss := [Seg.of (Enc.arr 32 (Enc.int .u8)) y39.1]) 2 0 1 rfl tk_41 rfl rfl rfl rfl) rfl)) rfl rfl rfl ?_
                          rintro _ _ ⟨rfl, rfl⟩
                          refine ⟨fun _ => ⟨[0, 1, 2, 3, 4, 5, 6], rfl, rfl⟩, ?_⟩
                          refine JT.only (i := 13) (d := some 127) rfl (MV.ofQV (v := .bool (decide (y48.1 = y39.1))) (QV.eqlE (E := (Enc.arr 32 (Enc.int .u8))) (a := y48.1) (b := y39.1) zeq_41 (by kernel_rfl) rfl rfl)) rfl rfl rfl ?_
                          rintro _ _ ⟨rfl, rfl⟩
                          refine ⟨fun _ => ⟨[0, 1, 2, 3, 4, 5, 6], rfl, rfl⟩, ?_⟩
                          refine JT.only (i := 14) (d := some 128) rfl (MV.ofQV (v := .bool ((decide (y43.1 = y39.1)) == (decide (y48.1 = y39.1)))) (QV.eqlB Try.underlying4 rfl rfl)) rfl rfl rfl ?_
                          rintro _ _ ⟨rfl, rfl⟩
                          refine ⟨fun _ => ⟨[0, 1, 2, 3, 4, 5, 6], rfl, rfl⟩, ?_⟩
                          refine JT.only (i := 15) (d := some 129) rfl (MV.ofQV (v := .bool ((decide (y43.1 = y39.1)) == (decide (y48.1 = y39.1)))) (QV.pickT rfl rfl)) rfl rfl rfl ?_
                          rintro _ _ ⟨rfl, rfl⟩
                          refine ⟨fun _ => ⟨[0, 1, 2, 3, 4, 5, 6], rfl, rfl⟩, ?_⟩
                          rcases ite_inv hm with ⟨h53, hm⟩ | ⟨h53, hm⟩
                          ·
                            refine JT.only (i := 16) (d := some 130) rfl (MV.ofQV (v := .bool true) (QV.eq (QV.move rfl) (congrArg Value.bool h53))) rfl rfl rfl ?_
                            rintro _ _ ⟨rfl, rfl⟩
                            refine ⟨fun _ => ⟨[0, 1, 2, 3, 4, 5, 6], rfl, rfl⟩, ?_⟩
                            obtain ⟨y54, hc55, hm⟩ := bind_inv hm
                            refine JT.only (i := 17) (d := some 131) rfl (MV.call (Lo := []) (Lr := [Asr.blk b50 39 [Seg.of (Enc.arr 32 (Enc.int .u8)) y48.1], Asr.blk b45 41 [Seg.of (Enc.arr 32 (Enc.int .u8)) y43.1], Asr.blk b41 41 [Seg.of (Enc.arr 32 (Enc.int .u8)) y39.1], Asr.of 5 (Enc.int .u8) (z34.v) (List.set y32.1 (Int.toNat (IntKind.wrap .i64 ((36 : Int) + x7))) (xorI .u8 (gd y32.1 (IntKind.wrap .i64 ((36 : Int) + x7))) x8)), Asr.blk b11 39 [Seg.of (Enc.arr 32 (Enc.int .u8)) x4], Asr.blk b10 75 [Seg.of (Enc.arr 16 (Enc.int .u8)) x2], Asr.vw (Enc.int .u8) (s5.v) x6]) (F64.spec _ hc55) rfl Try.func64 rfl rfl rfl [] [0, 1, 2, 3, 4, 5, 6] rfl rfl rfl trivial) rfl rfl rfl ?_
                            rintro _ _ ⟨_, ⟨rfl, rfl⟩, rfl⟩
                            refine ⟨fun _ => ⟨[0, 1, 2, 3, 4, 5, 6], rfl, rfl⟩, ?_⟩
                            refine JT.only (i := 18) (d := some 132) rfl (MV.ofQV (v := .bool y54) (QV.pickT rfl rfl)) rfl rfl rfl ?_
                            rintro _ _ ⟨rfl, rfl⟩
                            refine ⟨fun _ => ⟨[0, 1, 2, 3, 4, 5, 6], rfl, rfl⟩, ?_⟩
                            refine JT.only (i := 19) (d := some 14) rfl (MV.ofQV (v := .bool y54) (QV.assign rfl)) rfl rfl rfl ?_
                            rintro _ _ ⟨rfl, rfl⟩
                            refine ⟨fun _ => ⟨[0, 1, 2, 3, 4, 5, 6], rfl, rfl⟩, ?_⟩
                            refine JT.nil ?_
                            refine QJ.then_normal ?_
                            refine JC.ret ?_
                            obtain rfl := Option.some.inj hm
                            exact QJ.body (vs := [.bool y54]) (.inl rfl) rfl (ResVs.cons (ResV.tmp rfl) ResVs.nil) [] rfl rfl (.inr trivial) ⟨rfl, rfl⟩
                          ·
                            refine JT.only (i := 16) (d := some 130) rfl (MV.ofQV (v := .bool false) (QV.eq (QV.move rfl) (congrArg Value.bool (bfalse h53)))) rfl rfl rfl ?_
                            rintro _ _ ⟨rfl, rfl⟩
                            refine ⟨fun _ => ⟨[0, 1, 2, 3, 4, 5, 6], rfl, rfl⟩, ?_⟩
                            refine JT.skipO (i := 17) (d := some 131) rfl rfl rfl rfl [0, 1, 2, 3, 4, 5, 6] rfl rfl ?_
                            refine JT.only (i := 18) (d := some 132) rfl (MV.ofQV (v := .bool false) (QV.pickF rfl rfl)) rfl rfl rfl ?_
                            rintro _ _ ⟨rfl, rfl⟩
                            refine ⟨fun _ => ⟨[0, 1, 2, 3, 4, 5, 6], rfl, rfl⟩, ?_⟩
                            refine JT.only (i := 19) (d := some 14) rfl (MV.ofQV (v := .bool false) (QV.assign rfl)) rfl rfl rfl ?_
                            rintro _ _ ⟨rfl, rfl⟩
                            refine ⟨fun _ => ⟨[0, 1, 2, 3, 4, 5, 6], rfl, rfl⟩, ?_⟩
                            refine JT.nil ?_
                            refine QJ.then_normal ?_
                            refine JC.ret ?_
                            obtain rfl := Option.some.inj hm
                            exact QJ.body (vs := [.bool false]) (.inl rfl) rfl (ResVs.cons (ResV.tmp rfl) ResVs.nil) [] rfl rfl (.inr trivial) ⟨rfl, rfl⟩
                        ·
                          refine JT.only (i := 7) (d := some 121) rfl (MV.ofQV (v := .bool false) (QV.eq (QV.move rfl) (congrArg Value.bool (decide_eq_false h52)))) rfl rfl rfl ?_
                          rintro _ _ ⟨rfl, rfl⟩
                          refine ⟨fun _ => ⟨[0, 1, 2, 3, 4, 5, 6], rfl, rfl⟩, ?_⟩
                          refine JT.skip (i := 8) (d := some 122) hsel rfl rfl rfl rfl [0, 1, 2, 3, 4, 5, 6] rfl rfl ?_
                          refine JT.skip (i := 9) (d := some 123) hsel rfl rfl rfl rfl [0, 1, 2, 3, 4, 5, 6] rfl rfl ?_
                          refine JT.skip (i := 10) (d := some 124) hsel rfl rfl rfl rfl [0, 1, 2, 3, 4, 5, 6] rfl rfl ?_
                          refine JT.skip (i := 11) (d := some 125) hsel rfl rfl rfl rfl [0, 1, 2, 3, 4, 5, 6] rfl rfl ?_
                          refine JT.skipO (i := 12) (d := some 126) rfl rfl rfl rfl [0, 1, 2, 3, 4, 5, 6] rfl rfl ?_
                          refine JT.skipO (i := 13) (d := some 127) rfl rfl rfl rfl [0, 1, 2, 3, 4, 5, 6] rfl rfl ?_
                          refine JT.skipO (i := 14) (d := some 128) rfl rfl rfl rfl [0, 1, 2, 3, 4, 5, 6] rfl rfl ?_
                          refine JT.only (i := 15) (d := some 129) rfl (MV.ofQV (v := .bool false) (QV.pickF rfl rfl)) rfl rfl rfl ?_
                          rintro _ _ ⟨rfl, rfl⟩
                          refine ⟨fun _ => ⟨[0, 1, 2, 3, 4, 5, 6], rfl, rfl⟩, ?_⟩
                          refine JT.only (i := 16) (d := some 130) rfl (MV.ofQV (v := .bool false) (QV.move rfl)) rfl rfl rfl ?_
                          rintro _ _ ⟨rfl, rfl⟩
                          refine ⟨fun _ => ⟨[0, 1, 2, 3, 4, 5, 6], rfl, rfl⟩, ?_⟩
                          refine JT.skipO (i := 17) (d := some 131) rfl rfl rfl rfl [0, 1, 2, 3, 4, 5, 6] rfl rfl ?_
                          refine JT.only (i := 18) (d := some 132) rfl (MV.ofQV (v := .bool false) (QV.pickF rfl rfl)) rfl rfl rfl ?_
                          rintro _ _ ⟨rfl, rfl⟩
                          refine ⟨fun _ => ⟨[0, 1, 2, 3, 4, 5, 6], rfl, rfl⟩, ?_⟩
                          refine JT.only (i := 19) (d := some 14) rfl (MV.ofQV (v := .bool false) (QV.assign rfl)) rfl rfl rfl ?_
                          rintro _ _ ⟨rfl, rfl⟩
                          refine ⟨fun _ => ⟨[0, 1, 2, 3, 4, 5, 6], rfl, rfl⟩, ?_⟩
                          refine JT.nil ?_
                          refine QJ.then_normal ?_
                          refine JC.ret ?_
                          obtain rfl := Option.some.inj hm
                          exact QJ.body (vs := [.bool false]) (.inl rfl) rfl (ResVs.cons (ResV.tmp rfl) ResVs.nil) [] rfl rfl (.inr trivial) ⟨rfl, rfl⟩
                      ·
                        refine JT.only (i := 3) (d := some 117) rfl (MV.ofQV (v := .bool false) (QV.eq (QV.move rfl) (congrArg Value.bool (decide_eq_false h51)))) rfl rfl rfl ?_
                        rintro _ _ ⟨rfl, rfl⟩
                        refine ⟨fun _ => ⟨[0, 1, 2, 3, 4, 5, 6], rfl, rfl⟩, ?_⟩
                        refine JT.skipO (i := 4) (d := some 118) rfl rfl rfl rfl [0, 1, 2, 3, 4, 5, 6] rfl rfl ?_
                        refine JT.skipO (i := 5) (d := some 119) rfl rfl rfl rfl [0, 1, 2, 3, 4, 5, 6] rfl rfl ?_
                        refine JT.only (i := 6) (d := some 120) rfl (MV.ofQV (v := .bool false) (QV.pickF rfl rfl)) rfl rfl rfl ?_
                        rintro _ _ ⟨rfl, rfl⟩
                        refine ⟨fun _ => ⟨[0, 1, 2, 3, 4, 5, 6], rfl, rfl⟩, ?_⟩
                        refine JT.only (i := 7) (d := some 121) rfl (MV.ofQV (v := .bool false) (QV.move rfl)) rfl rfl rfl ?_
                        rintro _ _ ⟨rfl, rfl⟩
                        refine ⟨fun _ => ⟨[0, 1, 2, 3, 4, 5, 6], rfl, rfl⟩, ?_⟩
                        refine JT.skip (i := 8) (d := some 122) hsel rfl rfl rfl rfl [0, 1, 2, 3, 4, 5, 6] rfl rfl ?_
                        refine JT.skip (i := 9) (d := some 123) hsel rfl rfl rfl rfl [0, 1, 2, 3, 4, 5, 6] rfl rfl ?_
                        refine JT.skip (i := 10) (d := some 124) hsel rfl rfl rfl rfl [0, 1, 2, 3, 4, 5, 6] rfl rfl ?_
                        refine JT.skip (i := 11) (d := some 125) hsel rfl rfl rfl rfl [0, 1, 2, 3, 4, 5, 6] rfl rfl ?_
                        refine JT.skipO (i := 12) (d := some 126) rfl rfl rfl rfl [0, 1, 2, 3, 4, 5, 6] rfl rfl ?_
                        refine JT.skipO (i := 13) (d := some 127) rfl rfl rfl rfl [0, 1, 2, 3, 4, 5, 6] rfl rfl ?_
                        refine JT.skipO (i := 14) (d := some 128) rfl rfl rfl rfl [0, 1, 2, 3, 4, 5, 6] rfl rfl ?_
                        refine JT.only (i := 15) (d := some 129) rfl (MV.ofQV (v := .bool false) (QV.pickF rfl rfl)) rfl rfl rfl ?_
                        rintro _ _ ⟨rfl, rfl⟩
                        refine ⟨fun _ => ⟨[0, 1, 2, 3, 4, 5, 6], rfl, rfl⟩, ?_⟩
                        refine JT.only (i := 16) (d := some 130) rfl (MV.ofQV (v := .bool false) (QV.move rfl)) rfl rfl rfl ?_
                        rintro _ _ ⟨rfl, rfl⟩
                        refine ⟨fun _ => ⟨[0, 1, 2, 3, 4, 5, 6], rfl, rfl⟩, ?_⟩
                        refine JT.skipO (i := 17) (d := some 131) rfl rfl rfl rfl [0, 1, 2, 3, 4, 5, 6] rfl rfl ?_
                        refine JT.only (i := 18) (d := some 132) rfl (MV.ofQV (v := .bool false) (QV.pickF rfl rfl)) rfl rfl rfl ?_
                        rintro _ _ ⟨rfl, rfl⟩
                        refine ⟨fun _ => ⟨[0, 1, 2, 3, 4, 5, 6], rfl, rfl⟩, ?_⟩
                        refine JT.only (i := 19) (d := some 14) rfl (MV.ofQV (v := .bool false) (QV.assign rfl)) rfl rfl rfl ?_
                        rintro _ _ ⟨rfl, rfl⟩
                        refine ⟨fun _ => ⟨[0, 1, 2, 3, 4, 5, 6], rfl, rfl⟩, ?_⟩
                        refine JT.nil ?_
                        refine QJ.then_normal ?_
                        refine JC.ret ?_
                        obtain rfl := Option.some.inj hm
                        exact QJ.body (vs := [.bool false]) (.inl rfl) rfl (ResVs.cons (ResV.tmp rfl) ResVs.nil) [] rfl rfl (.inr trivial) ⟨rfl, rfl⟩
                    ·
                      refine JC.condT' rfl (congrArg Bool.not (decide_eq_false h47)) ?_
                      refine JC.seq ?_
                      refine JC.region ?_
                      refine JL.val (v := .bool false) (QV.assign rfl) rfl rfl rfl ?_
                      refine JL.nil ?_
                      refine QJ.then_normal ?_
                      refine JC.ret ?_
                      refine QJ.then_ret ?_
                      obtain rfl := Option.some.inj hm
                      exact QJ.body (vs := [.bool false]) (.inl rfl) rfl (ResVs.cons (ResV.tmp rfl) ResVs.nil) [] rfl rfl (.inr trivial) ⟨rfl, rfl⟩
                  ·
                    refine JL.val (v := .bool true) (QV.eq (QV.move rfl) (congrArg Value.bool (congrArg Bool.not (decide_eq_false h46)))) rfl rfl rfl ?_
                    refine JL.skip (d := some 102) rfl rfl rfl ?_
                    refine JL.skip (d := some 103) rfl rfl rfl ?_
                    refine JL.val (v := .bool true) (QV.pickT rfl rfl) rfl rfl rfl ?_
                    refine JL.nil ?_
                    refine QJ.then_normal ?_
                    refine JC.condT rfl ?_
                    refine JC.seq ?_
                    refine JC.region ?_
                    refine JL.val (v := .bool false) (QV.assign rfl) rfl rfl rfl ?_
                    refine JL.nil ?_
                    refine QJ.then_normal ?_
                    refine JC.ret ?_
                    refine QJ.then_ret ?_
                    obtain rfl := Option.some.inj hm
                    exact QJ.body (vs := [.bool false]) (.inl rfl) rfl (ResVs.cons (ResV.tmp rfl) ResVs.nil) [] rfl rfl (.inr trivial) ⟨rfl, rfl⟩
                ·
                  refine JC.condT' rfl (congrArg Bool.not (decide_eq_false h38)) ?_
                  refine JC.seq ?_
                  refine JC.region ?_
                  refine JL.val (v := .bool false) (QV.assign rfl) rfl rfl rfl ?_
                  refine JL.nil ?_
                  refine QJ.then_normal ?_
                  refine JC.ret ?_
                  refine QJ.then_ret ?_
                  obtain rfl := Option.some.inj hm
                  exact QJ.body (vs := [.bool false]) (.inl rfl) rfl (ResVs.cons (ResV.tmp rfl) ResVs.nil) [] rfl rfl (.inr trivial) ⟨rfl, rfl⟩
              ·
                refine JL.val (v := .bool true) (QV.eq (QV.move rfl) (congrArg Value.bool (congrArg Bool.not (decide_eq_false h35)))) rfl rfl rfl ?_
                refine JL.skip (d := some 62) rfl rfl rfl ?_
                refine JL.skip (d := some 63) rfl rfl rfl ?_
                refine JL.skip (d := some 64) rfl rfl rfl ?_
                refine JL.skip (d := some 65) rfl rfl rfl ?_
                refine JL.skip (d := some 66) rfl rfl rfl ?_
                refine JL.skip (d := some 67) rfl rfl rfl ?_
                refine JL.skip (d := some 68) rfl rfl rfl ?_
                refine JL.val (v := .bool true) (QV.pickT rfl rfl) rfl rfl rfl ?_
                refine JL.nil ?_
                refine QJ.then_normal ?_
                refine JC.condT rfl ?_
                refine JC.seq ?_
                refine JC.region ?_
                refine JL.val (v := .bool false) (QV.assign rfl) rfl rfl rfl ?_
                refine JL.nil ?_
                refine QJ.then_normal ?_
                refine JC.ret ?_
                refine QJ.then_ret ?_
                obtain rfl := Option.some.inj hm
                exact QJ.body (vs := [.bool false]) (.inl rfl) rfl (ResVs.cons (ResV.tmp rfl) ResVs.nil) [] rfl rfl (.inr trivial) ⟨rfl, rfl⟩

end Go.Proofs.Ytmedbpiapeiobaa
