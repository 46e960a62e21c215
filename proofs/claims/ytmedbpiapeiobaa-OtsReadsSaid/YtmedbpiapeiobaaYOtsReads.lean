/- Written by gen.py: functions and their contracts. -/
import Derived.Test.YtmedbpiapeiobaaOts
namespace Go.Proofs.Ytmedbpiapeiobaa
open Go Go.Eng Go.Proofs
set_option linter.unusedVariables false
set_option linter.unusedSimpArgs false
/-! ### 19: drogher/drogherlaw03.OtsReads -/
noncomputable def F19.m (x1 : Int) (x2 : (Arr Int 16)) (x3 : Int) (x5 : List Int) (x7 : List Int) : Option Bool :=
  (if (9000 : Int) < ((x5).length : Int) then ((F64.m).bind fun y11 => some y11) else (if (1000 : Int) < ((x7).length : Int) then ((F64.m).bind fun y14 => some y14) else ((F67_1.m (x1) (x2) (x3) (x5) (x7)).bind fun y16 => ((F68.m (x1) (x2) (x3) (x5) (x7)).bind fun y19 => (if y16.1 = y19.1 then (if y16.2 = y19.2 then ((F64.m).bind fun y24 => some y24) else some false) else some false)))))
set_option maxRecDepth 100000 in
set_option maxHeartbeats 4000000 in
theorem F19.spec (s4 : SlV) (s6 : SlV) (x1 : Int) (x2 : (Arr Int 16)) (x3 : Int) (x5 : List Int) (x7 : List Int) (r : Bool) (hm : F19.m x1 x2 x3 x5 x7 = some r) :
    Ctr Try.prog false 19 [.int .u32 x1, .agg (((Enc.arr 16 (Enc.int .u8))).enc x2).toArray, .int .u32 x3, s4.v, s6.v] [Asr.vw (Enc.int .u8) (s4.v) x5, Asr.vw (Enc.int .u8) (s6.v) x7] (fun v L' => v = .bool r ∧ L' = []) := by
  refine Ctr.intro (n := 53) (env := [(0, .int .u32 x1), (1, .agg (((Enc.arr 16 (Enc.int .u8))).enc x2).toArray), (2, .int .u32 x3), (3, s4.v), (4, s6.v)]) Try.func19 rfl rfl rfl rfl (fun c => ?_)
  unfold F19.m at hm
  refine JC.seq ?_
  refine JC.region ?_
  refine JL.mv (d := some 6) (MV.box [Seg.of (Enc.arr 16 (Enc.int .u8)) x2] rfl (fun w hs => rfl)) rfl rfl rfl ?_
  rintro _ _ ⟨b9, rfl, rfl⟩
  refine JL.val (v := .bool false) (QV.assign rfl) rfl rfl rfl ?_
  refine JL.nil ?_
  refine QJ.then_normal ?_
  refine JC.seq ?_
  refine JC.seq ?_
  refine JC.region ?_
  refine JL.val (v := s4.v) (QV.move rfl) rfl rfl rfl ?_
  refine JL.val (v := .int .i64 ((x5).length : Int)) (QV.len (Rdg.vw 1 rfl) Try.underlying22 rfl) rfl rfl rfl ?_
  refine JL.val (v := .bool (decide ((9000 : Int) < ((x5).length : Int)))) (QV.gtr rfl rfl) rfl rfl rfl ?_
  rcases ite_inv hm with ⟨h10, hm⟩ | ⟨h10, hm⟩
  ·
    refine JL.val (v := .bool true) (QV.eq (QV.move rfl) (congrArg Value.bool (decide_eq_true h10))) rfl rfl rfl ?_
    refine JL.skip (d := some 19) rfl rfl rfl ?_
    refine JL.skip (d := some 20) rfl rfl rfl ?_
    refine JL.skip (d := some 21) rfl rfl rfl ?_
    refine JL.val (v := .bool true) (QV.pickT rfl rfl) rfl rfl rfl ?_
    refine JL.nil ?_
    refine QJ.then_normal ?_
    refine JC.condT rfl ?_
    refine JC.seq ?_
    refine JC.region ?_
    obtain ⟨y11, hc12, hm⟩ := bind_inv hm
    refine JL.mv (d := some 23) (MV.call (Lo := []) (Lr := [Asr.blk b9 75 [Seg.of (Enc.arr 16 (Enc.int .u8)) x2], Asr.vw (Enc.int .u8) (s4.v) x5, Asr.vw (Enc.int .u8) (s6.v) x7]) (F64.spec _ hc12) rfl Try.func64 rfl rfl rfl [] [0, 1, 2] rfl rfl rfl trivial) rfl rfl rfl ?_
    rintro _ _ ⟨_, ⟨rfl, rfl⟩, rfl⟩
    refine JL.val (v := .bool y11) (QV.assign rfl) rfl rfl rfl ?_
    refine JL.nil ?_
    refine QJ.then_normal ?_
    refine JC.ret ?_
    refine QJ.then_ret ?_
    obtain rfl := Option.some.inj hm
    exact QJ.body (vs := [.bool y11]) (.inl rfl) rfl (ResVs.cons (ResV.tmp rfl) ResVs.nil) [] rfl rfl (.inr trivial) ⟨rfl, rfl⟩
  ·
    refine JL.val (v := .bool false) (QV.eq (QV.move rfl) (congrArg Value.bool (decide_eq_false h10))) rfl rfl rfl ?_
    refine JL.val (v := s6.v) (QV.move rfl) rfl rfl rfl ?_
    refine JL.val (v := .int .i64 ((x7).length : Int)) (QV.len (Rdg.vw 2 rfl) Try.underlying22 rfl) rfl rfl rfl ?_
    refine JL.val (v := .bool (decide ((1000 : Int) < ((x7).length : Int)))) (QV.gtr rfl rfl) rfl rfl rfl ?_
    refine JL.val (v := .bool (decide ((1000 : Int) < ((x7).length : Int)))) (QV.pickF rfl rfl) rfl rfl rfl ?_
    refine JL.nil ?_
    refine QJ.then_normal ?_
    rcases ite_inv hm with ⟨h13, hm⟩ | ⟨h13, hm⟩
    ·
      refine JC.condT' rfl (decide_eq_true h13) ?_
      refine JC.seq ?_
      refine JC.region ?_
      obtain ⟨y14, hc15, hm⟩ := bind_inv hm
      refine JL.mv (d := some 23) (MV.call (Lo := []) (Lr := [Asr.blk b9 75 [Seg.of (Enc.arr 16 (Enc.int .u8)) x2], Asr.vw (Enc.int .u8) (s4.v) x5, Asr.vw (Enc.int .u8) (s6.v) x7]) (F64.spec _ hc15) rfl Try.func64 rfl rfl rfl [] [0, 1, 2] rfl rfl rfl trivial) rfl rfl rfl ?_
      rintro _ _ ⟨_, ⟨rfl, rfl⟩, rfl⟩
      refine JL.val (v := .bool y14) (QV.assign rfl) rfl rfl rfl ?_
      refine JL.nil ?_
      refine QJ.then_normal ?_
      refine JC.ret ?_
      refine QJ.then_ret ?_
      obtain rfl := Option.some.inj hm
      exact QJ.body (vs := [.bool y14]) (.inl rfl) rfl (ResVs.cons (ResV.tmp rfl) ResVs.nil) [] rfl rfl (.inr trivial) ⟨rfl, rfl⟩
    ·
      refine JC.condF' rfl (decide_eq_false h13) ?_
      refine JC.skip ?_
      refine QJ.then_normal ?_
      refine JC.seq ?_
      refine JC.region ?_
      refine JL.val (v := .int .u32 x1) (QV.move rfl) rfl rfl rfl ?_
      refine JL.val (v := .agg (((Enc.arr 16 (Enc.int .u8))).enc x2).toArray) (QV.eq (QV.loadN (ss := [Seg.of (Enc.arr 16 (Enc.int .u8)) x2]) 0 0 1 rfl tk_75 rfl rfl rfl rfl) rfl) rfl rfl rfl ?_
      refine JL.val (v := .int .u32 x3) (QV.move rfl) rfl rfl rfl ?_
      refine JL.val (v := s4.v) (QV.move rfl) rfl rfl rfl ?_
      refine JL.val (v := s6.v) (QV.move rfl) rfl rfl rfl ?_
      obtain ⟨y16, hc17, hm⟩ := bind_inv hm
      refine JL.mv (d := some 30) (MV.call (Lo := []) (Lr := [Asr.blk b9 75 [Seg.of (Enc.arr 16 (Enc.int .u8)) x2], Asr.vw (Enc.int .u8) (s4.v) x5, Asr.vw (Enc.int .u8) (s6.v) x7]) (F67_1.spec (s4) (s6) (x1) (x2) (x3) (x5) (x7) _ hc17) rfl Try.func67 rfl rfl rfl [] [0, 1, 2] rfl rfl rfl ⟨(Drv.vw 1 rfl), ⟨(Drv.vw 2 rfl), trivial⟩⟩) rfl rfl rfl ?_
      rintro _ _ ⟨_, ⟨rfl, rfl⟩, rfl⟩
      refine JL.val (v := .tuple #[.agg (((Enc.arr 32 (Enc.int .u8))).enc y16.1).toArray, .int .i64 y16.2]) (QV.move rfl) rfl rfl rfl ?_
      refine JL.val (v := .agg (((Enc.arr 32 (Enc.int .u8))).enc y16.1).toArray) (QV.extract (vs := [.agg (((Enc.arr 32 (Enc.int .u8))).enc y16.1).toArray, .int .i64 y16.2]) rfl rfl) rfl rfl rfl ?_
      refine JL.val (v := .int .i64 y16.2) (QV.extract (vs := [.agg (((Enc.arr 32 (Enc.int .u8))).enc y16.1).toArray, .int .i64 y16.2]) rfl rfl) rfl rfl rfl ?_
      refine JL.mv (d := some 11) (MV.alloc [Seg.of (Enc.arr 32 (Enc.int .u8)) (Arr.rep 32 (0 : Int))] z_41 rfl) rfl rfl rfl ?_
      rintro _ _ ⟨b18, rfl, rfl⟩
      refine JL.mv (d := none) (MV.store (ss := [Seg.of (Enc.arr 32 (Enc.int .u8)) (Arr.rep 32 (0 : Int))]) 0 0 1 [Seg.of (Enc.arr 32 (Enc.int .u8)) y16.1] rfl tk_41 rfl rfl rfl rfl (fun w hs => ⟨rfl, one_of _ _, trivial⟩)) rfl rfl rfl ?_
      rintro _ _ ⟨rfl, rfl⟩
      refine JL.val (v := .int .i64 y16.2) (QV.assign rfl) rfl rfl rfl ?_
      refine JL.nil ?_
      refine QJ.then_normal ?_
      refine JC.seq ?_
      refine JC.region ?_
      refine JL.val (v := .int .u32 x1) (QV.move rfl) rfl rfl rfl ?_
      refine JL.val (v := .agg (((Enc.arr 16 (Enc.int .u8))).enc x2).toArray) (QV.eq (QV.loadN (ss := [Seg.of (Enc.arr 16 (Enc.int .u8)) x2]) 1 0 1 rfl tk_75 rfl rfl rfl rfl) rfl) rfl rfl rfl ?_
      refine JL.val (v := .int .u32 x3) (QV.move rfl) rfl rfl rfl ?_
      refine JL.val (v := s4.v) (QV.move rfl) rfl rfl rfl ?_
      refine JL.val (v := s6.v) (QV.move rfl) rfl rfl rfl ?_
      obtain ⟨y19, hc20, hm⟩ := bind_inv hm
      refine JL.mv (d := some 39) (MV.call (Lo := []) (Lr := [Asr.blk b18 41 [Seg.of (Enc.arr 32 (Enc.int .u8)) y16.1], Asr.blk b9 75 [Seg.of (Enc.arr 16 (Enc.int .u8)) x2], Asr.vw (Enc.int .u8) (s4.v) x5, Asr.vw (Enc.int .u8) (s6.v) x7]) (F68.spec (s4) (s6) (x1) (x2) (x3) (x5) (x7) _ hc20) rfl Try.func68 rfl rfl rfl [] [0, 1, 2, 3] rfl rfl rfl ⟨(Drv.vw 2 rfl), ⟨(Drv.vw 3 rfl), trivial⟩⟩) rfl rfl rfl ?_
      rintro _ _ ⟨_, ⟨rfl, rfl⟩, rfl⟩
      refine JL.val (v := .tuple #[.agg (((Enc.arr 32 (Enc.int .u8))).enc y19.1).toArray, .int .i64 y19.2]) (QV.move rfl) rfl rfl rfl ?_
      refine JL.val (v := .agg (((Enc.arr 32 (Enc.int .u8))).enc y19.1).toArray) (QV.extract (vs := [.agg (((Enc.arr 32 (Enc.int .u8))).enc y19.1).toArray, .int .i64 y19.2]) rfl rfl) rfl rfl rfl ?_
      refine JL.val (v := .int .i64 y19.2) (QV.extract (vs := [.agg (((Enc.arr 32 (Enc.int .u8))).enc y19.1).toArray, .int .i64 y19.2]) rfl rfl) rfl rfl rfl ?_
      refine JL.mv (d := some 13) (MV.alloc [Seg.of (Enc.arr 32 (Enc.int .u8)) (Arr.rep 32 (0 : Int))] z_39 rfl) rfl rfl rfl ?_
      rintro _ _ ⟨b21, rfl, rfl⟩
      refine JL.mv (d := none) (MV.store (ss := [Seg.of (Enc.arr 32 (Enc.int .u8)) (Arr.rep 32 (0 : Int))]) 0 0 1 [Seg.of (Enc.arr 32 (Enc.int .u8)) y19.1] rfl tk_39 rfl rfl rfl rfl (fun w hs => ⟨rfl, one_of _ _, trivial⟩)) rfl rfl rfl ?_
      rintro _ _ ⟨rfl, rfl⟩
      refine JL.val (v := .int .i64 y19.2) (QV.assign rfl) rfl rfl rfl ?_
      refine JL.nil ?_
      refine QJ.then_normal ?_
      refine JC.seq ?_
      refine JC.region ?_
      refine JL.val (v := .agg (((Enc.arr 32 (Enc.int .u8))).enc y16.1).toArray) (QV.eq (QV.loadN (ss := [Seg.of (Enc.arr 32 (Enc.int .u8)) y16.1]) 1 0 1 rfl tk_41 rfl rfl rfl rfl) rfl) rfl rfl rfl ?_
      refine JL.val (v := .agg (((Enc.arr 32 (Enc.int .u8))).enc y19.1).toArray) (QV.eq (QV.loadN (ss := [Seg.of (Enc.arr 32 (Enc.int .u8)) y19.1]) 0 0 1 rfl tk_39 rfl rfl rfl rfl) rfl) rfl rfl rfl ?_
      refine JL.val (v := .bool (decide (y16.1 = y19.1))) (QV.eqlE (E := (Enc.arr 32 (Enc.int .u8))) (a := y16.1) (b := y19.1) zeq_41 (by kernel_rfl) rfl rfl) rfl rfl rfl ?_
      rcases ite_inv hm with ⟨h22, hm⟩ | ⟨h22, hm⟩
      ·
        refine JL.val (v := .bool true) (QV.eq (QV.move rfl) (congrArg Value.bool (decide_eq_true h22))) rfl rfl rfl ?_
        refine JL.val (v := .int .i64 y16.2) (QV.move rfl) rfl rfl rfl ?_
        refine JL.val (v := .int .i64 y19.2) (QV.move rfl) rfl rfl rfl ?_
        refine JL.val (v := .bool (decide (y16.2 = y19.2))) (QV.eql rfl rfl) rfl rfl rfl ?_
        refine JL.val (v := .bool (decide (y16.2 = y19.2))) (QV.pickT rfl rfl) rfl rfl rfl ?_
        rcases ite_inv hm with ⟨h23, hm⟩ | ⟨h23, hm⟩
        ·
          refine JL.val (v := .bool true) (QV.eq (QV.move rfl) (congrArg Value.bool (decide_eq_true h23))) rfl rfl rfl ?_
          obtain ⟨y24, hc25, hm⟩ := bind_inv hm
          refine JL.mv (d := some 51) (MV.call (Lo := []) (Lr := [Asr.blk b21 39 [Seg.of (Enc.arr 32 (Enc.int .u8)) y19.1], Asr.blk b18 41 [Seg.of (Enc.arr 32 (Enc.int .u8)) y16.1], Asr.blk b9 75 [Seg.of (Enc.arr 16 (Enc.int .u8)) x2], Asr.vw (Enc.int .u8) (s4.v) x5, Asr.vw (Enc.int .u8) (s6.v) x7]) (F64.spec _ hc25) rfl Try.func64 rfl rfl rfl [] [0, 1, 2, 3, 4] rfl rfl rfl trivial) rfl rfl rfl ?_
          rintro _ _ ⟨_, ⟨rfl, rfl⟩, rfl⟩
          refine JL.val (v := .bool y24) (QV.pickT rfl rfl) rfl rfl rfl ?_
          refine JL.val (v := .bool y24) (QV.assign rfl) rfl rfl rfl ?_
          refine JL.nil ?_
          refine QJ.then_normal ?_
          refine JC.ret ?_
          obtain rfl := Option.some.inj hm
          exact QJ.body (vs := [.bool y24]) (.inl rfl) rfl (ResVs.cons (ResV.tmp rfl) ResVs.nil) [] rfl rfl (.inr trivial) ⟨rfl, rfl⟩
        ·
          refine JL.val (v := .bool false) (QV.eq (QV.move rfl) (congrArg Value.bool (decide_eq_false h23))) rfl rfl rfl ?_
          refine JL.skip (d := some 51) rfl rfl rfl ?_
          refine JL.val (v := .bool false) (QV.pickF rfl rfl) rfl rfl rfl ?_
          refine JL.val (v := .bool false) (QV.assign rfl) rfl rfl rfl ?_
          refine JL.nil ?_
          refine QJ.then_normal ?_
          refine JC.ret ?_
          obtain rfl := Option.some.inj hm
          exact QJ.body (vs := [.bool false]) (.inl rfl) rfl (ResVs.cons (ResV.tmp rfl) ResVs.nil) [] rfl rfl (.inr trivial) ⟨rfl, rfl⟩
      ·
        refine JL.val (v := .bool false) (QV.eq (QV.move rfl) (congrArg Value.bool (decide_eq_false h22))) rfl rfl rfl ?_
        refine JL.skip (d := some 46) rfl rfl rfl ?_
        refine JL.skip (d := some 47) rfl rfl rfl ?_
        refine JL.skip (d := some 48) rfl rfl rfl ?_
        refine JL.val (v := .bool false) (QV.pickF rfl rfl) rfl rfl rfl ?_
        refine JL.val (v := .bool false) (QV.move rfl) rfl rfl rfl ?_
        refine JL.skip (d := some 51) rfl rfl rfl ?_
        refine JL.val (v := .bool false) (QV.pickF rfl rfl) rfl rfl rfl ?_
        refine JL.val (v := .bool false) (QV.assign rfl) rfl rfl rfl ?_
        refine JL.nil ?_
        refine QJ.then_normal ?_
        refine JC.ret ?_
        obtain rfl := Option.some.inj hm
        exact QJ.body (vs := [.bool false]) (.inl rfl) rfl (ResVs.cons (ResV.tmp rfl) ResVs.nil) [] rfl rfl (.inr trivial) ⟨rfl, rfl⟩

end Go.Proofs.Ytmedbpiapeiobaa
