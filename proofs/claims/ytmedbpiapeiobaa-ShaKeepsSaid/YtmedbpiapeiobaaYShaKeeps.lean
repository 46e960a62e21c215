/- Written by gen.py: functions and their contracts. -/
import Derived.Test.YtmedbpiapeiobaaSha
namespace Go.Proofs.Ytmedbpiapeiobaa
open Go Go.Eng Go.Proofs
set_option linter.unusedVariables false
set_option linter.unusedSimpArgs false
/-! ### 9: drogher/drogherlaw01.ShaKeeps -/
noncomputable def F9.j1 (x2 : List Int) (x4 : List Int) (y18 : ((Arr Int 8) × (Arr Int 64) × Int × Int))  : Option Bool :=
  ((F35.m (y18.1) (y18.2.1) (y18.2.2.1) (y18.2.2.2) (x4)).bind fun y20 => ((F36.m (y20.1) (y20.2.1) (y20.2.2.1) (y20.2.2.2)).bind fun y22 => ((F37.m ([x2, x4])).bind fun y25 => ((F33.m (y25)).bind fun y28 => (if y22 = y28 then ((F31.m).bind fun y31 => some y31) else some false)))))
noncomputable def F9.b1  : (List Int × Int) → Option ((List Int × Int) ⊕ Unit)
  | (d33, d34) => (if d34 < ((d33).length : Int) then (if 0 ≤ d34 ∧ d34 < ((d33).length : Int) then some (.inl ((List.set d33 (Int.toNat d34) (99 : Int)), (IntKind.wrap .i64 (d34 + (1 : Int))))) else none) else some (.inr ()))
noncomputable def F9.m (x2 : List Int) (x4 : List Int) : Option Bool :=
  (if (400 : Int) < ((x2).length : Int) then ((F31.m).bind fun y7 => some y7) else (if (400 : Int) < ((x4).length : Int) then ((F31.m).bind fun y10 => some y10) else (if ((([] : List Int)).length + (x2).length) * 1 ≤ 140737488355328 ∧ (([] : List Int)).length + (x2).length ≤ 9223372036854775807 then ((F34.m).bind fun y15 => ((F35.m (y15.1) (y15.2) ((0 : Int)) ((0 : Int)) ((([] : List Int) ++ x2))).bind fun y18 => ((loop (F9.b1) ((([] : List Int) ++ x2), (0 : Int))).bind fun y => match y with | _ => F9.j1 x2 x4 y18))) else none)))
set_option maxRecDepth 100000 in
set_option maxHeartbeats 4000000 in
theorem F9.spec (s1 : SlV) (s3 : SlV) (x2 : List Int) (x4 : List Int) (r : Bool) (hm : F9.m x2 x4 = some r) :
    Ctr Try.prog false 9 [s1.v, s3.v] [Asr.vw (Enc.int .u8) (s1.v) x2, Asr.vw (Enc.int .u8) (s3.v) x4] (fun v L' => v = .bool r ∧ L' = []) := by
  refine Ctr.intro (n := 48) (env := [(0, s1.v), (1, s3.v)]) Try.func9 rfl rfl rfl rfl (fun c => ?_)
  unfold F9.m at hm
  refine JC.seq ?_
  refine JC.region ?_
  refine JL.val (v := .bool false) (QV.assign rfl) rfl rfl rfl ?_
  refine JL.nil ?_
  refine QJ.then_normal ?_
  refine JC.seq ?_
  refine JC.seq ?_
  refine JC.region ?_
  refine JL.val (v := s1.v) (QV.move rfl) rfl rfl rfl ?_
  refine JL.val (v := .int .i64 ((x2).length : Int)) (QV.len (Rdg.vw 0 rfl) Try.underlying22 rfl) rfl rfl rfl ?_
  refine JL.val (v := .bool (decide ((400 : Int) < ((x2).length : Int)))) (QV.gtr rfl rfl) rfl rfl rfl ?_
  rcases ite_inv hm with ⟨h6, hm⟩ | ⟨h6, hm⟩
  ·
    refine JL.val (v := .bool true) (QV.eq (QV.move rfl) (congrArg Value.bool (decide_eq_true h6))) rfl rfl rfl ?_
    refine JL.skip (d := some 12) rfl rfl rfl ?_
    refine JL.skip (d := some 13) rfl rfl rfl ?_
    refine JL.skip (d := some 14) rfl rfl rfl ?_
    refine JL.val (v := .bool true) (QV.pickT rfl rfl) rfl rfl rfl ?_
    refine JL.nil ?_
    refine QJ.then_normal ?_
    refine JC.condT rfl ?_
    refine JC.seq ?_
    refine JC.region ?_
    obtain ⟨y7, hc8, hm⟩ := bind_inv hm
    refine JL.mv (d := some 16) (MV.call (Lo := []) (Lr := [Asr.vw (Enc.int .u8) (s1.v) x2, Asr.vw (Enc.int .u8) (s3.v) x4]) (F31.spec _ hc8) rfl Try.func31 rfl rfl rfl [] [0, 1] rfl rfl rfl trivial) rfl rfl rfl ?_
    rintro _ _ ⟨_, ⟨rfl, rfl⟩, rfl⟩
    refine JL.val (v := .bool y7) (QV.assign rfl) rfl rfl rfl ?_
    refine JL.nil ?_
    refine QJ.then_normal ?_
    refine JC.ret ?_
    refine QJ.then_ret ?_
    obtain rfl := Option.some.inj hm
    exact QJ.body (vs := [.bool y7]) (.inl rfl) rfl (ResVs.cons (ResV.tmp rfl) ResVs.nil) [] rfl rfl (.inr trivial) ⟨rfl, rfl⟩
  ·
    refine JL.val (v := .bool false) (QV.eq (QV.move rfl) (congrArg Value.bool (decide_eq_false h6))) rfl rfl rfl ?_
    refine JL.val (v := s3.v) (QV.move rfl) rfl rfl rfl ?_
    refine JL.val (v := .int .i64 ((x4).length : Int)) (QV.len (Rdg.vw 1 rfl) Try.underlying22 rfl) rfl rfl rfl ?_
    refine JL.val (v := .bool (decide ((400 : Int) < ((x4).length : Int)))) (QV.gtr rfl rfl) rfl rfl rfl ?_
    refine JL.val (v := .bool (decide ((400 : Int) < ((x4).length : Int)))) (QV.pickF rfl rfl) rfl rfl rfl ?_
    refine JL.nil ?_
    refine QJ.then_normal ?_
    rcases ite_inv hm with ⟨h9, hm⟩ | ⟨h9, hm⟩
    ·
      refine JC.condT' rfl (decide_eq_true h9) ?_
      refine JC.seq ?_
      refine JC.region ?_
      obtain ⟨y10, hc11, hm⟩ := bind_inv hm
      refine JL.mv (d := some 16) (MV.call (Lo := []) (Lr := [Asr.vw (Enc.int .u8) (s1.v) x2, Asr.vw (Enc.int .u8) (s3.v) x4]) (F31.spec _ hc11) rfl Try.func31 rfl rfl rfl [] [0, 1] rfl rfl rfl trivial) rfl rfl rfl ?_
      rintro _ _ ⟨_, ⟨rfl, rfl⟩, rfl⟩
      refine JL.val (v := .bool y10) (QV.assign rfl) rfl rfl rfl ?_
      refine JL.nil ?_
      refine QJ.then_normal ?_
      refine JC.ret ?_
      refine QJ.then_ret ?_
      obtain rfl := Option.some.inj hm
      exact QJ.body (vs := [.bool y10]) (.inl rfl) rfl (ResVs.cons (ResV.tmp rfl) ResVs.nil) [] rfl rfl (.inr trivial) ⟨rfl, rfl⟩
    ·
      refine JC.condF' rfl (decide_eq_false h9) ?_
      refine JC.skip ?_
      refine QJ.then_normal ?_
      refine JC.seq ?_
      refine JC.region ?_
      refine JL.mv (d := some 17) (MV.lit0 (Enc.int .u8) Try.underlying22 (by kernel_rfl)) rfl rfl rfl ?_
      rintro _ _ ⟨z12, rfl, rfl⟩
      refine JL.val (v := z12.v) (QV.assign rfl) rfl rfl rfl ?_
      refine JL.nil ?_
      refine QJ.then_normal ?_
      refine JC.seq ?_
      refine JC.region ?_
      refine JL.val (v := z12.v) (QV.move rfl) rfl rfl rfl ?_
      refine JL.val (v := s1.v) (QV.move rfl) rfl rfl rfl ?_
      obtain ⟨h13, hm⟩ := guard_inv hm
      refine JL.mv (d := some 20) (MV.append 0 rfl (Rdg.vw 1 rfl) Try.underlying22 zi_5 rfl (by decide) rfl rfl h13) rfl rfl rfl ?_
      rintro _ _ ⟨z14, rfl, rfl⟩
      refine JL.val (v := z14.v) (QV.assign rfl) rfl rfl rfl ?_
      refine JL.nil ?_
      refine QJ.then_normal ?_
      refine JC.seq ?_
      refine JC.region ?_
      obtain ⟨y15, hc16, hm⟩ := bind_inv hm
      refine JL.mv (d := some 21) (MV.call (Lo := []) (Lr := [Asr.of 5 (Enc.int .u8) (z14.v) (([] : List Int) ++ x2), Asr.vw (Enc.int .u8) (s1.v) x2, Asr.vw (Enc.int .u8) (s3.v) x4]) (F34.spec _ hc16) rfl Try.func34 rfl rfl rfl [] [0, 1, 2] rfl rfl rfl trivial) rfl rfl rfl ?_
      rintro _ _ ⟨_, ⟨b17, rfl, rfl⟩, rfl⟩
      refine JL.val (v := .pointer (some ⟨b17, 0, none⟩)) (QV.assign rfl) rfl rfl rfl ?_
      refine JL.nil ?_
      refine QJ.then_normal ?_
      refine JC.seq ?_
      refine JC.region ?_
      refine JL.val (v := .pointer (some ⟨b17, 0, none⟩)) (QV.move rfl) rfl rfl rfl ?_
      refine JL.val (v := z14.v) (QV.move rfl) rfl rfl rfl ?_
      obtain ⟨y18, hc19, hm⟩ := bind_inv hm
      refine JL.mv (d := some 24) (MV.call (Lo := [Asr.blk b17 105 [Seg.of (Enc.arr 8 (Enc.int .u32)) y15.1, Seg.of (Enc.arr 64 (Enc.int .u8)) y15.2, Seg.c (.int .i64 (0 : Int)), Seg.c (.int .u64 (0 : Int))]]) (Lr := [Asr.of 5 (Enc.int .u8) (z14.v) (([] : List Int) ++ x2), Asr.vw (Enc.int .u8) (s1.v) x2, Asr.vw (Enc.int .u8) (s3.v) x4]) (F35.spec (b17) (z14) (y15.1) (y15.2) ((0 : Int)) ((0 : Int)) ((([] : List Int) ++ x2)) _ hc19) rfl Try.func35 rfl rfl rfl [0] [1, 2, 3] rfl rfl rfl ⟨(Drv.of 0 rfl), trivial⟩) rfl rfl rfl ?_
      rintro _ _ ⟨_, ⟨rfl, rfl⟩, rfl⟩
      refine JL.nil ?_
      refine QJ.then_normal ?_
      refine JC.seq ?_
      refine JC.seq ?_
      refine JC.region ?_
      refine JL.val (v := .int .i64 (0 : Int)) (QV.assign rfl) rfl rfl rfl ?_
      refine JL.nil ?_
      refine QJ.then_normal ?_
      refine JC.cutK (Y := Unit × Unit) (fun y => match y with | (_, _) => F9.j1 x2 x4 y18 = some r) (fun y => match y with | (_, _) => [(0, s1.v), (1, s3.v), (6, .pointer (some ⟨b17, 0, none⟩))]) (fun y => match y with | (_, _) => [Asr.vw (Enc.int .u8) (s1.v) x2, Asr.vw (Enc.int .u8) (s3.v) x4, Asr.blk b17 105 [Seg.of (Enc.arr 8 (Enc.int .u32)) y18.1, Seg.of (Enc.arr 64 (Enc.int .u8)) y18.2.1, Seg.c (.int .i64 y18.2.2.1), Seg.c (.int .u64 y18.2.2.2)]]) ?_ ?_
      ·
        rintro ⟨⟨⟩, ⟨⟩⟩ hm
        unfold F9.j1 at hm
        show QJ _ _ [(0, s1.v), (1, s3.v), (6, .pointer (some ⟨b17, 0, none⟩))] [Asr.vw (Enc.int .u8) (s1.v) x2, Asr.vw (Enc.int .u8) (s3.v) x4, Asr.blk b17 105 [Seg.of (Enc.arr 8 (Enc.int .u32)) y18.1, Seg.of (Enc.arr 64 (Enc.int .u8)) y18.2.1, Seg.c (.int .i64 y18.2.2.1), Seg.c (.int .u64 y18.2.2.2)]] _ _
        refine QJ.then_normal ?_
        refine JC.seq ?_
        refine JC.region ?_
        refine JL.val (v := .pointer (some ⟨b17, 0, none⟩)) (QV.move rfl) rfl rfl rfl ?_
        refine JL.val (v := s3.v) (QV.move rfl) rfl rfl rfl ?_
        obtain ⟨y20, hc21, hm⟩ := bind_inv hm
        refine JL.mv (d := some 36) (MV.call (Lo := [Asr.blk b17 105 [Seg.of (Enc.arr 8 (Enc.int .u32)) y18.1, Seg.of (Enc.arr 64 (Enc.int .u8)) y18.2.1, Seg.c (.int .i64 y18.2.2.1), Seg.c (.int .u64 y18.2.2.2)]]) (Lr := [Asr.vw (Enc.int .u8) (s1.v) x2, Asr.vw (Enc.int .u8) (s3.v) x4]) (F35.spec (b17) (s3) (y18.1) (y18.2.1) (y18.2.2.1) (y18.2.2.2) (x4) _ hc21) rfl Try.func35 rfl rfl rfl [2] [0, 1] rfl rfl rfl ⟨(Drv.vw 1 rfl), trivial⟩) rfl rfl rfl ?_
        rintro _ _ ⟨_, ⟨rfl, rfl⟩, rfl⟩
        refine JL.nil ?_
        refine QJ.then_normal ?_
        refine JC.seq ?_
        refine JC.region ?_
        refine JL.val (v := .pointer (some ⟨b17, 0, none⟩)) (QV.move rfl) rfl rfl rfl ?_
        obtain ⟨y22, hc23, hm⟩ := bind_inv hm
        refine JL.mv (d := some 38) (MV.call (Lo := [Asr.blk b17 105 [Seg.of (Enc.arr 8 (Enc.int .u32)) y20.1, Seg.of (Enc.arr 64 (Enc.int .u8)) y20.2.1, Seg.c (.int .i64 y20.2.2.1), Seg.c (.int .u64 y20.2.2.2)]]) (Lr := [Asr.vw (Enc.int .u8) (s1.v) x2, Asr.vw (Enc.int .u8) (s3.v) x4]) (F36.spec (b17) (y20.1) (y20.2.1) (y20.2.2.1) (y20.2.2.2) _ hc23) rfl Try.func36 rfl rfl rfl [0] [1, 2] rfl rfl rfl trivial) rfl rfl rfl ?_
        rintro _ _ ⟨_, ⟨rfl, rfl⟩, rfl⟩
        refine JL.val (v := s1.v) (QV.move rfl) rfl rfl rfl ?_
        refine JL.val (v := s3.v) (QV.move rfl) rfl rfl rfl ?_
        refine JL.mv (d := some 41) (MV.lit (E := (NE.sl (Enc.int .u8)).E) (vals := [(0, s1.v), (1, s3.v)]) [(s1, x2), (s3, x4)] Try.underlying50 zi_22 rfl (by decide) rfl (by kernel_rfl)) rfl rfl rfl ?_
        rintro _ _ ⟨z24, rfl, rfl⟩
        obtain ⟨y25, hc26, hm⟩ := bind_inv hm
        refine JL.mv (d := some 42) (MV.call (Lo := []) (Lr := [Asr.of 22 (NE.sl (Enc.int .u8)).E (z24.v) [(s1, x2), (s3, x4)], Asr.blk b17 105 [Seg.of (Enc.arr 8 (Enc.int .u32)) y20.1, Seg.of (Enc.arr 64 (Enc.int .u8)) y20.2.1, Seg.c (.int .i64 y20.2.2.1), Seg.c (.int .u64 y20.2.2.2)], Asr.vw (Enc.int .u8) (s1.v) x2, Asr.vw (Enc.int .u8) (s3.v) x4]) (F37.spec (z24) ([s1, s3]) ([x2, x4]) _ hc26) rfl Try.func37 rfl rfl rfl [] [0, 1, 2, 3] rfl rfl rfl ⟨(Drv.lit (zs := [s1, s3]) (xs := [x2, x4]) 0 rfl rfl ⟨(Drv.vw 2 rfl), ⟨(Drv.vw 3 rfl), trivial⟩⟩), trivial⟩) rfl rfl rfl ?_
        rintro _ _ ⟨_, ⟨z27, rfl, rfl⟩, rfl⟩
        obtain ⟨y28, hc29, hm⟩ := bind_inv hm
        refine JL.mv (d := some 43) (MV.call (Lo := []) (Lr := [Asr.of 5 (Enc.int .u8) (z27.v) y25, Asr.of 22 (NE.sl (Enc.int .u8)).E (z24.v) [(s1, x2), (s3, x4)], Asr.blk b17 105 [Seg.of (Enc.arr 8 (Enc.int .u32)) y20.1, Seg.of (Enc.arr 64 (Enc.int .u8)) y20.2.1, Seg.c (.int .i64 y20.2.2.1), Seg.c (.int .u64 y20.2.2.2)], Asr.vw (Enc.int .u8) (s1.v) x2, Asr.vw (Enc.int .u8) (s3.v) x4]) (F33.spec (z27) (y25) _ hc29) rfl Try.func33 rfl rfl rfl [] [0, 1, 2, 3, 4] rfl rfl rfl ⟨(Drv.of 0 rfl), trivial⟩) rfl rfl rfl ?_
        rintro _ _ ⟨_, ⟨rfl, rfl⟩, rfl⟩
        refine JL.val (v := .bool (decide (y22 = y28))) (QV.eqlE (E := (Enc.arr 32 (Enc.int .u8))) (a := y22) (b := y28) zeq_41 (by kernel_rfl) rfl rfl) rfl rfl rfl ?_
        rcases ite_inv hm with ⟨h30, hm⟩ | ⟨h30, hm⟩
        ·
          refine JL.val (v := .bool true) (QV.eq (QV.move rfl) (congrArg Value.bool (decide_eq_true h30))) rfl rfl rfl ?_
          obtain ⟨y31, hc32, hm⟩ := bind_inv hm
          refine JL.mv (d := some 46) (MV.call (Lo := []) (Lr := [Asr.of 5 (Enc.int .u8) (z27.v) y25, Asr.of 22 (NE.sl (Enc.int .u8)).E (z24.v) [(s1, x2), (s3, x4)], Asr.blk b17 105 [Seg.of (Enc.arr 8 (Enc.int .u32)) y20.1, Seg.of (Enc.arr 64 (Enc.int .u8)) y20.2.1, Seg.c (.int .i64 y20.2.2.1), Seg.c (.int .u64 y20.2.2.2)], Asr.vw (Enc.int .u8) (s1.v) x2, Asr.vw (Enc.int .u8) (s3.v) x4]) (F31.spec _ hc32) rfl Try.func31 rfl rfl rfl [] [0, 1, 2, 3, 4] rfl rfl rfl trivial) rfl rfl rfl ?_
          rintro _ _ ⟨_, ⟨rfl, rfl⟩, rfl⟩
          refine JL.val (v := .bool y31) (QV.pickT rfl rfl) rfl rfl rfl ?_
          refine JL.val (v := .bool y31) (QV.assign rfl) rfl rfl rfl ?_
          refine JL.nil ?_
          refine QJ.then_normal ?_
          refine JC.ret ?_
          obtain rfl := Option.some.inj hm
          exact QJ.body (vs := [.bool y31]) (.inl rfl) rfl (ResVs.cons (ResV.tmp rfl) ResVs.nil) [] rfl rfl (.inr trivial) ⟨rfl, rfl⟩
        ·
          refine JL.val (v := .bool false) (QV.eq (QV.move rfl) (congrArg Value.bool (decide_eq_false h30))) rfl rfl rfl ?_
          refine JL.skip (d := some 46) rfl rfl rfl ?_
          refine JL.val (v := .bool false) (QV.pickF rfl rfl) rfl rfl rfl ?_
          refine JL.val (v := .bool false) (QV.assign rfl) rfl rfl rfl ?_
          refine JL.nil ?_
          refine QJ.then_normal ?_
          refine JC.ret ?_
          obtain rfl := Option.some.inj hm
          exact QJ.body (vs := [.bool false]) (.inl rfl) rfl (ResVs.cons (ResV.tmp rfl) ResVs.nil) [] rfl rfl (.inr trivial) ⟨rfl, rfl⟩
      ·
        refine JC.block ?_
        obtain ⟨y37, hl38, hmo39⟩ := bind_inv hm
        refine JC.loop (F9.b1) (fun x z => match x, z with | (d33, d34), _ => [(0, s1.v), (1, s3.v), (5, z14.v), (6, .pointer (some ⟨b17, 0, none⟩)), (7, .int .i64 d34)]) (fun x z => match x, z with | (d33, d34), _ => [Asr.vw (Enc.int .u8) (s1.v) x2, Asr.vw (Enc.int .u8) (s3.v) x4, Asr.of 5 (Enc.int .u8) (z14.v) d33, Asr.blk b17 105 [Seg.of (Enc.arr 8 (Enc.int .u32)) y18.1, Seg.of (Enc.arr 64 (Enc.int .u8)) y18.2.1, Seg.c (.int .i64 y18.2.2.1), Seg.c (.int .u64 y18.2.2.2)]]) ((([] : List Int) ++ x2), (0 : Int)) () y37 hl38 [2, 3, 1, 0] (by exact ⟨rfl, rfl, rfl, rfl, rfl, trivial⟩) rfl rfl ?_
        rintro ⟨d33, d34⟩ ⟨⟩ s40 hm
        unfold F9.b1 at hm
        dsimp only at hm
        show JC _ _ _ [(0, s1.v), (1, s3.v), (5, z14.v), (6, .pointer (some ⟨b17, 0, none⟩)), (7, .int .i64 d34)] [Asr.vw (Enc.int .u8) (s1.v) x2, Asr.vw (Enc.int .u8) (s3.v) x4, Asr.of 5 (Enc.int .u8) (z14.v) d33, Asr.blk b17 105 [Seg.of (Enc.arr 8 (Enc.int .u32)) y18.1, Seg.of (Enc.arr 64 (Enc.int .u8)) y18.2.1, Seg.c (.int .i64 y18.2.2.1), Seg.c (.int .u64 y18.2.2.2)]] _ _
        refine JC.seq ?_
        refine JC.seq ?_
        refine JC.region ?_
        refine JL.val (v := .int .i64 d34) (QV.move rfl) rfl rfl rfl ?_
        refine JL.val (v := z14.v) (QV.move rfl) rfl rfl rfl ?_
        refine JL.val (v := .int .i64 ((d33).length : Int)) (QV.len (Rdg.of 2 rfl) Try.underlying22 rfl) rfl rfl rfl ?_
        refine JL.val (v := .bool (decide (d34 < ((d33).length : Int)))) (QV.lss rfl rfl) rfl rfl rfl ?_
        refine JL.nil ?_
        refine QJ.then_normal ?_
        rcases ite_inv hm with ⟨h41, hm⟩ | ⟨h41, hm⟩
        ·
          refine JC.condT' rfl (decide_eq_true h41) ?_
          refine JC.skip ?_
          refine QJ.then_normal ?_
          refine JC.seq ?_
          refine JC.block ?_
          refine JC.region ?_
          refine JL.val (v := z14.v) (QV.move rfl) rfl rfl rfl ?_
          refine JL.val (v := .int .i64 d34) (QV.move rfl) rfl rfl rfl ?_
          obtain ⟨h42, hm⟩ := guard_inv hm
          refine JL.val (v := .pointer (some (elA (z14.v) (Int.toNat d34 * ((Enc.int .u8)).sz)))) (QV.indexA (Rdg.of 2 rfl) Try.underlying22 tk_5 rfl rfl h42) rfl rfl rfl ?_
          refine JL.mv (d := none) (MV.storeEl 2 (99 : Int) rfl tk_5 rfl rfl h42 rfl) rfl rfl rfl ?_
          rintro _ _ ⟨rfl, rfl⟩
          refine JL.nil ?_
          refine QJ.block_normal ?_
          refine QJ.then_normal ?_
          refine JC.region ?_
          refine JL.val (v := .int .i64 d34) (QV.move rfl) rfl rfl rfl ?_
          refine JL.val (v := .int .i64 (IntKind.wrap .i64 (d34 + (1 : Int)))) (QV.add rfl rfl) rfl rfl rfl ?_
          refine JL.val (v := .int .i64 (IntKind.wrap .i64 (d34 + (1 : Int)))) (QV.assign rfl) rfl rfl rfl ?_
          refine JL.nil ?_
          obtain rfl := Option.some.inj hm
          exact QJ.round_on ((List.set d33 (Int.toNat d34) (99 : Int)), (IntKind.wrap .i64 (d34 + (1 : Int)))) () [0, 1, 2, 3] (by exact ⟨rfl, rfl, rfl, rfl, rfl, trivial⟩) rfl rfl
        ·
          refine JC.condF' rfl (decide_eq_false h41) ?_
          refine JC.exit ?_
          refine QJ.then_exit ?_
          obtain rfl := Option.some.inj hm
          refine QJ.round_exit (fun hy => ?_)
          subst hy
          refine QJ.block_hit ?_
          exact QJ.cut_normal ((), ()) hmo39 [0, 1, 3] (by exact ⟨rfl, rfl, rfl, trivial⟩) rfl rfl

end Go.Proofs.Ytmedbpiapeiobaa
