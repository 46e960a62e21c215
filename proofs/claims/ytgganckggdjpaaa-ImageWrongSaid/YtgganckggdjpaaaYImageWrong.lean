/- Written by gen.py: functions and their contracts. -/
import Derived.Test.YtgganckggdjpaaaYImageWrongx2
namespace Go.Proofs.Ytgganckggdjpaaa
open Go Go.Eng Go.Proofs
set_option linter.unusedVariables false
set_option linter.unusedSimpArgs false
/-! ### 10: drogher/drogherlaw25.ImageWrong -/
noncomputable def F10.j4  (d44 : Bool) : Option Bool :=
  some d44
noncomputable def F10.j3 (x7 : Int) (x8 : Int) (x9 : Int) (x10 : Int) (x11 : Int) (x13 : List Int) (d33 : Bool) : Option Bool :=
  (if d33 = true then some false else ((F32.m (x11) (x10)).bind fun y35 => ((F33.m (x8) (x9)).bind fun y37 => ((F34.m (x11) (x9)).bind fun y39 => ((F35.m (x9)).bind fun y42 => (if (5 : Int) = (5 : Int) then (if (1 : Int) = (1 : Int) then (if (1 : Int) = (1 : Int) then ((F36.m (x11) (x7) (x13)).bind fun y48 => (if (1 : Int) = (1 : Int) then ((F37.m (x13)).bind fun y51 => (if (1 : Int) = (1 : Int) then ((F38_2.m).bind fun y54 => (if (0 : Int) = (0 : Int) then ((F27.m).bind fun y57 => F10.j4 (y57)) else F10.j4 (false))) else F10.j4 (false))) else F10.j4 (false))) else F10.j4 (false)) else F10.j4 (false)) else F10.j4 (false)))))))
noncomputable def F10.j2 (x7 : Int) (x8 : Int) (x9 : Int) (x10 : Int) (x11 : Int) (x13 : List Int) (d32 : Bool) : Option Bool :=
  (if (false == d32) = true then (if (d32 == (decide ((1 : Int) = (0 : Int)))) = true then (if d32 = true then F10.j3 x7 x8 x9 x10 x11 x13 (false) else F10.j3 x7 x8 x9 x10 x11 x13 ((!(decide ((1 : Int) = (1 : Int)))))) else F10.j3 x7 x8 x9 x10 x11 x13 (true)) else F10.j3 x7 x8 x9 x10 x11 x13 (true))
noncomputable def F10.j7  (d85 : Bool) : Option Bool :=
  some d85
noncomputable def F10.j6 (x7 : Int) (x8 : Int) (x9 : Int) (x10 : Int) (x11 : Int) (x13 : List Int) (d74 : Bool) : Option Bool :=
  (if d74 = true then some false else ((F32.m (x11) (x10)).bind fun y76 => ((F33.m (x8) (x9)).bind fun y78 => ((F34.m (x11) (x9)).bind fun y80 => ((F35.m (x9)).bind fun y83 => (if (5 : Int) = (5 : Int) then (if (1 : Int) = (1 : Int) then (if (1 : Int) = (1 : Int) then ((F36.m (x11) (x7) (x13)).bind fun y89 => (if (1 : Int) = (1 : Int) then ((F37.m (x13)).bind fun y92 => (if (1 : Int) = (1 : Int) then ((F38_2.m).bind fun y95 => (if (0 : Int) = (0 : Int) then ((F27.m).bind fun y98 => F10.j7 (y98)) else F10.j7 (false))) else F10.j7 (false))) else F10.j7 (false))) else F10.j7 (false)) else F10.j7 (false)) else F10.j7 (false)))))))
noncomputable def F10.j5 (x7 : Int) (x8 : Int) (x9 : Int) (x10 : Int) (x11 : Int) (x13 : List Int) (d73 : Bool) : Option Bool :=
  (if (true == d73) = true then (if (d73 == (decide ((0 : Int) = (0 : Int)))) = true then (if d73 = true then F10.j6 x7 x8 x9 x10 x11 x13 (false) else F10.j6 x7 x8 x9 x10 x11 x13 ((!(decide ((0 : Int) = (1 : Int)))))) else F10.j6 x7 x8 x9 x10 x11 x13 (true)) else F10.j6 x7 x8 x9 x10 x11 x13 (true))
noncomputable def F10.j10  (d129 : Bool) : Option Bool :=
  some d129
noncomputable def F10.j9 (x7 : Int) (x8 : Int) (x9 : Int) (x10 : Int) (x11 : Int) (x13 : List Int) (d118 : Bool) : Option Bool :=
  (if d118 = true then some false else ((F32.m (x11) (x10)).bind fun y120 => ((F33.m (x8) (x9)).bind fun y122 => ((F34.m (x11) (x9)).bind fun y124 => ((F35.m (x9)).bind fun y127 => (if (5 : Int) = (5 : Int) then (if (1 : Int) = (1 : Int) then (if (1 : Int) = (1 : Int) then ((F36.m (x11) (x7) (x13)).bind fun y133 => (if (1 : Int) = (1 : Int) then ((F37.m (x13)).bind fun y136 => (if (1 : Int) = (1 : Int) then ((F38_2.m).bind fun y139 => (if (0 : Int) = (0 : Int) then ((F27.m).bind fun y142 => F10.j10 (y142)) else F10.j10 (false))) else F10.j10 (false))) else F10.j10 (false))) else F10.j10 (false)) else F10.j10 (false)) else F10.j10 (false)))))))
noncomputable def F10.j8 (x7 : Int) (x8 : Int) (x9 : Int) (x10 : Int) (x11 : Int) (x13 : List Int) (d117 : Bool) : Option Bool :=
  (if (false == d117) = true then (if (d117 == (decide ((1 : Int) = (0 : Int)))) = true then (if d117 = true then F10.j9 x7 x8 x9 x10 x11 x13 (false) else F10.j9 x7 x8 x9 x10 x11 x13 ((!(decide ((1 : Int) = (1 : Int)))))) else F10.j9 x7 x8 x9 x10 x11 x13 (true)) else F10.j9 x7 x8 x9 x10 x11 x13 (true))
noncomputable def F10.j13  (d170 : Bool) : Option Bool :=
  some d170
noncomputable def F10.j12 (x7 : Int) (x8 : Int) (x9 : Int) (x10 : Int) (x11 : Int) (x13 : List Int) (d159 : Bool) : Option Bool :=
  (if d159 = true then some false else ((F32.m (x11) (x10)).bind fun y161 => ((F33.m (x8) (x9)).bind fun y163 => ((F34.m (x11) (x9)).bind fun y165 => ((F35.m (x9)).bind fun y168 => (if (5 : Int) = (5 : Int) then (if (1 : Int) = (1 : Int) then (if (1 : Int) = (1 : Int) then ((F36.m (x11) (x7) (x13)).bind fun y174 => (if (1 : Int) = (1 : Int) then ((F37.m (x13)).bind fun y177 => (if (1 : Int) = (1 : Int) then ((F38_2.m).bind fun y180 => (if (0 : Int) = (0 : Int) then ((F27.m).bind fun y183 => F10.j13 (y183)) else F10.j13 (false))) else F10.j13 (false))) else F10.j13 (false))) else F10.j13 (false)) else F10.j13 (false)) else F10.j13 (false)))))))
noncomputable def F10.j11 (x7 : Int) (x8 : Int) (x9 : Int) (x10 : Int) (x11 : Int) (x13 : List Int) (d158 : Bool) : Option Bool :=
  (if (true == d158) = true then (if (d158 == (decide ((0 : Int) = (0 : Int)))) = true then (if d158 = true then F10.j12 x7 x8 x9 x10 x11 x13 (false) else F10.j12 x7 x8 x9 x10 x11 x13 ((!(decide ((0 : Int) = (1 : Int)))))) else F10.j12 x7 x8 x9 x10 x11 x13 (true)) else F10.j12 x7 x8 x9 x10 x11 x13 (true))
noncomputable def F10.j1 (x1 : Int) (x2 : Int) (x3 : Int) (x4 : Int) (x5 : Int) (x7 : Int) (x8 : Int) (x9 : Int) (x10 : Int) (x11 : Int) (x13 : List Int) (d19 : Bool) : Option Bool :=
  (if d19 = true then ((F27.m).bind fun y21 => some y21) else ((F28.m (x4) (x5)).bind fun y23 => match y23 with | (.inl y25) => ((F29.m (x1) (x2) (x3)).bind fun y27 => match y27 with | (.inl y29) => (if (1 : Int) = (0 : Int) then ((F30.m (x1) (x2) (x3)).bind fun y62 => (if y62 = true then (if x1 = x4 then ((F31.m (x1) (x2) (x3)).bind fun y66 => F10.j2 x7 x8 x9 x10 x11 x13 ((decide (y66.2.2.2 ≤ x5)))) else F10.j2 x7 x8 x9 x10 x11 x13 (false)) else F10.j2 x7 x8 x9 x10 x11 x13 (false))) else some false) | (.inr y30) => (if (1 : Int) = (0 : Int) then ((F30.m (x1) (x2) (x3)).bind fun y103 => (if y103 = true then (if x1 = x4 then ((F31.m (x1) (x2) (x3)).bind fun y107 => F10.j5 x7 x8 x9 x10 x11 x13 ((decide (y107.2.2.2 ≤ x5)))) else F10.j5 x7 x8 x9 x10 x11 x13 (false)) else F10.j5 x7 x8 x9 x10 x11 x13 (false))) else some false)) | (.inr y26) => ((F29_1.m (x4) (x5) (false) ((0 : Int)) (false) ((0 : Int)) ((0 : Int)) (x1) (x2) (x3)).bind fun y112 => match y112 with | (.inl y114) => (if (0 : Int) = (0 : Int) then ((F30.m (x1) (x2) (x3)).bind fun y147 => (if y147 = true then (if x1 = x4 then ((F31.m (x1) (x2) (x3)).bind fun y151 => F10.j8 x7 x8 x9 x10 x11 x13 ((decide (y151.2.2.2 ≤ x5)))) else F10.j8 x7 x8 x9 x10 x11 x13 (false)) else F10.j8 x7 x8 x9 x10 x11 x13 (false))) else some false) | (.inr y115) => (if (0 : Int) = (0 : Int) then ((F30.m (x1) (x2) (x3)).bind fun y188 => (if y188 = true then (if x1 = x4 then ((F31.m (x1) (x2) (x3)).bind fun y192 => F10.j11 x7 x8 x9 x10 x11 x13 ((decide (y192.2.2.2 ≤ x5)))) else F10.j11 x7 x8 x9 x10 x11 x13 (false)) else F10.j11 x7 x8 x9 x10 x11 x13 (false))) else some false))))
noncomputable def F10.m (x1 : Int) (x2 : Int) (x3 : Int) (x4 : Int) (x5 : Int) (x6 : Int) (x7 : Int) (x8 : Int) (x9 : Int) (x10 : Int) (x11 : Int) (x13 : List Int) (x15 : List Int) : Option Bool :=
  (if x4 < (128 : Int) then F10.j1 x1 x2 x3 x4 x5 x7 x8 x9 x10 x11 x13 (true) else (if (4096 : Int) < x4 then F10.j1 x1 x2 x3 x4 x5 x7 x8 x9 x10 x11 x13 (true) else (if x5 < (1 : Int) then F10.j1 x1 x2 x3 x4 x5 x7 x8 x9 x10 x11 x13 (true) else (if (1000 : Int) < x5 then F10.j1 x1 x2 x3 x4 x5 x7 x8 x9 x10 x11 x13 (true) else F10.j1 x1 x2 x3 x4 x5 x7 x8 x9 x10 x11 x13 ((decide ((1000 : Int) < ((x13).length : Int))))))))
set_option maxRecDepth 100000 in
set_option maxHeartbeats 4000000 in
theorem F10.spec (s12 : SlV) (s14 : SlV) (x1 : Int) (x2 : Int) (x3 : Int) (x4 : Int) (x5 : Int) (x6 : Int) (x7 : Int) (x8 : Int) (x9 : Int) (x10 : Int) (x11 : Int) (x13 : List Int) (x15 : List Int) (r : Bool) (hm : F10.m x1 x2 x3 x4 x5 x6 x7 x8 x9 x10 x11 x13 x15 = some r) :
    Ctr Try.prog false 10 [.agg #[.int .i64 x1, .int .i64 x2, .int .i64 x3], .int .i64 x4, .int .i64 x5, .agg #[.int .i64 x6, .int .i64 x7, .int .i64 x8, .int .i64 x9, .int .i64 x10, .int .u8 x11, s12.v, s14.v]] [Asr.vw (Enc.int .u8) (s12.v) x13, Asr.vw (Enc.int .u8) (s14.v) x15] (fun v L' => v = .bool r ∧ L' = []) := by
  refine Ctr.intro (n := 155) (env := [(0, .agg #[.int .i64 x1, .int .i64 x2, .int .i64 x3]), (1, .int .i64 x4), (2, .int .i64 x5), (3, .agg #[.int .i64 x6, .int .i64 x7, .int .i64 x8, .int .i64 x9, .int .i64 x10, .int .u8 x11, s12.v, s14.v])]) Try.func10 rfl rfl rfl rfl (fun c => ?_)
  unfold F10.m at hm
  refine JC.seq ?_
  refine JC.region ?_
  refine JL.mv (d := some 4) (MV.box [Seg.c (.int .i64 x1), Seg.c (.int .i64 x2), Seg.c (.int .i64 x3)] rfl (fun w hs => rfl)) rfl rfl rfl ?_
  rintro _ _ ⟨b17, rfl, rfl⟩
  refine JL.mv (d := some 7) (MV.box [Seg.c (.int .i64 x6), Seg.c (.int .i64 x7), Seg.c (.int .i64 x8), Seg.c (.int .i64 x9), Seg.c (.int .i64 x10), Seg.c (.int .u8 x11), Seg.c (s12.v), Seg.c (s14.v)] rfl (fun w hs => rfl)) rfl rfl rfl ?_
  rintro _ _ ⟨b18, rfl, rfl⟩
  refine JL.val (v := .bool false) (QV.assign rfl) rfl rfl rfl ?_
  refine JL.nil ?_
  refine QJ.then_normal ?_
  refine JC.seq ?_
  refine JC.seq ?_
  refine JC.cutK (Y := Bool × Unit) (fun y => match y with | (d19, _) => F10.j1 x1 x2 x3 x4 x5 x7 x8 x9 x10 x11 x13 (d19) = some r) (fun y => match y with | (d19, _) => [(1, .int .i64 x4), (2, .int .i64 x5), (4, .pointer (some ⟨b17, 0, none⟩)), (7, .pointer (some ⟨b18, 0, none⟩)), (40, .bool d19)]) (fun y => match y with | (d19, _) => [Asr.blk b17 47 [Seg.c (.int .i64 x1), Seg.c (.int .i64 x2), Seg.c (.int .i64 x3)], Asr.vw (Enc.int .u8) (s12.v) x13, Asr.vw (Enc.int .u8) (s14.v) x15, Asr.blk b18 49 [Seg.c (.int .i64 x6), Seg.c (.int .i64 x7), Seg.c (.int .i64 x8), Seg.c (.int .i64 x9), Seg.c (.int .i64 x10), Seg.c (.int .u8 x11), Seg.c (s12.v), Seg.c (s14.v)]]) ?_ ?_
  ·
    rintro ⟨d19, ⟨⟩⟩ hm
    unfold F10.j1 at hm
    show QJ _ _ [(1, .int .i64 x4), (2, .int .i64 x5), (4, .pointer (some ⟨b17, 0, none⟩)), (7, .pointer (some ⟨b18, 0, none⟩)), (40, .bool d19)] [Asr.blk b17 47 [Seg.c (.int .i64 x1), Seg.c (.int .i64 x2), Seg.c (.int .i64 x3)], Asr.vw (Enc.int .u8) (s12.v) x13, Asr.vw (Enc.int .u8) (s14.v) x15, Asr.blk b18 49 [Seg.c (.int .i64 x6), Seg.c (.int .i64 x7), Seg.c (.int .i64 x8), Seg.c (.int .i64 x9), Seg.c (.int .i64 x10), Seg.c (.int .u8 x11), Seg.c (s12.v), Seg.c (s14.v)]] _ _
    refine QJ.then_normal ?_
    rcases ite_inv hm with ⟨h20, hm⟩ | ⟨h20, hm⟩
    ·
      refine JC.condT' rfl h20 ?_
      refine JC.seq ?_
      refine JC.region ?_
      obtain ⟨y21, hc22, hm⟩ := bind_inv hm
      refine JL.mv (d := some 41) (MV.call (Lo := []) (Lr := [Asr.blk b17 47 [Seg.c (.int .i64 x1), Seg.c (.int .i64 x2), Seg.c (.int .i64 x3)], Asr.vw (Enc.int .u8) (s12.v) x13, Asr.vw (Enc.int .u8) (s14.v) x15, Asr.blk b18 49 [Seg.c (.int .i64 x6), Seg.c (.int .i64 x7), Seg.c (.int .i64 x8), Seg.c (.int .i64 x9), Seg.c (.int .i64 x10), Seg.c (.int .u8 x11), Seg.c (s12.v), Seg.c (s14.v)]]) (F27.spec _ hc22) rfl Try.func27 rfl rfl rfl [] [0, 1, 2, 3] rfl rfl rfl trivial) rfl rfl rfl ?_
      rintro _ _ ⟨_, ⟨rfl, rfl⟩, rfl⟩
      refine JL.val (v := .bool y21) (QV.assign rfl) rfl rfl rfl ?_
      refine JL.nil ?_
      refine QJ.then_normal ?_
      refine JC.ret ?_
      refine QJ.then_ret ?_
      obtain rfl := Option.some.inj hm
      exact QJ.body (vs := [.bool y21]) (.inl rfl) rfl (ResVs.cons (ResV.tmp rfl) ResVs.nil) [] rfl rfl (.inr trivial) ⟨rfl, rfl⟩
    ·
      refine JC.condF' rfl (bfalse h20) ?_
      refine JC.skip ?_
      refine QJ.then_normal ?_
      refine JC.seq ?_
      refine JC.region ?_
      refine JL.val (v := .int .i64 x4) (QV.move rfl) rfl rfl rfl ?_
      refine JL.val (v := .int .i64 x5) (QV.move rfl) rfl rfl rfl ?_
      obtain ⟨y23, hc24, hm⟩ := bind_inv hm
      rcases y23 with y25 | y26
      ·
        refine JL.mv (d := some 45) (MV.call (Lo := []) (Lr := [Asr.blk b17 47 [Seg.c (.int .i64 x1), Seg.c (.int .i64 x2), Seg.c (.int .i64 x3)], Asr.vw (Enc.int .u8) (s12.v) x13, Asr.vw (Enc.int .u8) (s14.v) x15, Asr.blk b18 49 [Seg.c (.int .i64 x6), Seg.c (.int .i64 x7), Seg.c (.int .i64 x8), Seg.c (.int .i64 x9), Seg.c (.int .i64 x10), Seg.c (.int .u8 x11), Seg.c (s12.v), Seg.c (s14.v)]]) (F28.spec (x4) (x5) _ hc24) rfl Try.func28 rfl rfl rfl [] [0, 1, 2, 3] rfl rfl rfl trivial) rfl rfl rfl ?_
        rintro _ _ ⟨_, ⟨rfl, rfl⟩, rfl⟩
        refine JL.val (v := .tuple #[.pointer none, .int .i64 (1 : Int)]) (QV.move rfl) rfl rfl rfl ?_
        refine JL.val (v := .pointer none) (QV.extract (vs := [.pointer none, .int .i64 (1 : Int)]) rfl rfl) rfl rfl rfl ?_
        refine JL.val (v := .int .i64 (1 : Int)) (QV.extract (vs := [.pointer none, .int .i64 (1 : Int)]) rfl rfl) rfl rfl rfl ?_
        refine JL.val (v := .pointer none) (QV.assign rfl) rfl rfl rfl ?_
        refine JL.val (v := .int .i64 (1 : Int)) (QV.assign rfl) rfl rfl rfl ?_
        refine JL.nil ?_
        refine QJ.then_normal ?_
        refine JC.seq ?_
        refine JC.region ?_
        refine JL.val (v := .pointer none) (QV.move rfl) rfl rfl rfl ?_
        refine JL.val (v := .agg #[.int .i64 x1, .int .i64 x2, .int .i64 x3]) (QV.eq (QV.loadN (ss := [Seg.c (.int .i64 x1), Seg.c (.int .i64 x2), Seg.c (.int .i64 x3)]) 0 0 3 rfl tk_47 rfl rfl rfl rfl) rfl) rfl rfl rfl ?_
        obtain ⟨y27, hc28, hm⟩ := bind_inv hm
        rcases y27 with y29 | y30
        ·
          refine JL.mv (d := some 51) (MV.call (Lo := []) (Lr := [Asr.blk b17 47 [Seg.c (.int .i64 x1), Seg.c (.int .i64 x2), Seg.c (.int .i64 x3)], Asr.vw (Enc.int .u8) (s12.v) x13, Asr.vw (Enc.int .u8) (s14.v) x15, Asr.blk b18 49 [Seg.c (.int .i64 x6), Seg.c (.int .i64 x7), Seg.c (.int .i64 x8), Seg.c (.int .i64 x9), Seg.c (.int .i64 x10), Seg.c (.int .u8 x11), Seg.c (s12.v), Seg.c (s14.v)]]) (F29.spec (x1) (x2) (x3) _ hc28) rfl Try.func29 rfl rfl rfl [] [0, 1, 2, 3] rfl rfl rfl trivial) rfl rfl rfl ?_
          rintro _ _ ⟨_, ⟨rfl, rfl⟩, rfl⟩
          refine JL.val (v := .tuple #[.pointer none, .int .i64 (1 : Int)]) (QV.move rfl) rfl rfl rfl ?_
          refine JL.val (v := .pointer none) (QV.extract (vs := [.pointer none, .int .i64 (1 : Int)]) rfl rfl) rfl rfl rfl ?_
          refine JL.val (v := .int .i64 (1 : Int)) (QV.extract (vs := [.pointer none, .int .i64 (1 : Int)]) rfl rfl) rfl rfl rfl ?_
          refine JL.val (v := .pointer none) (QV.assign rfl) rfl rfl rfl ?_
          refine JL.val (v := .int .i64 (1 : Int)) (QV.assign rfl) rfl rfl rfl ?_
          refine JL.nil ?_
          refine QJ.then_normal ?_
          refine JC.seq ?_
          refine JC.seq ?_
          refine JC.region ?_
          refine JL.val (v := .int .i64 (1 : Int)) (QV.move rfl) rfl rfl rfl ?_
          refine JL.val (v := .bool (!(decide ((1 : Int) = (0 : Int))))) (QV.neq rfl rfl) rfl rfl rfl ?_
          refine JL.nil ?_
          refine QJ.then_normal ?_
          rcases ite_inv hm with ⟨h31, hm⟩ | ⟨h31, hm⟩
          ·
            refine JC.condF' rfl (congrArg Bool.not (decide_eq_true h31)) ?_
            refine JC.skip ?_
            refine QJ.then_normal ?_
            refine JC.seq ?_
            refine JC.cutK (Y := Bool × Unit) (fun y => match y with | (d32, _) => F10.j2 x7 x8 x9 x10 x11 x13 (d32) = some r) (fun y => match y with | (d32, _) => [(7, .pointer (some ⟨b18, 0, none⟩)), (11, .pointer none), (12, .int .i64 (1 : Int)), (13, .bool d32)]) (fun y => match y with | (d32, _) => [Asr.vw (Enc.int .u8) (s12.v) x13, Asr.vw (Enc.int .u8) (s14.v) x15, Asr.blk b18 49 [Seg.c (.int .i64 x6), Seg.c (.int .i64 x7), Seg.c (.int .i64 x8), Seg.c (.int .i64 x9), Seg.c (.int .i64 x10), Seg.c (.int .u8 x11), Seg.c (s12.v), Seg.c (s14.v)]]) ?_ ?_
            ·
              rintro ⟨d32, ⟨⟩⟩ hm
              unfold F10.j2 at hm
              show QJ _ _ [(7, .pointer (some ⟨b18, 0, none⟩)), (11, .pointer none), (12, .int .i64 (1 : Int)), (13, .bool d32)] [Asr.vw (Enc.int .u8) (s12.v) x13, Asr.vw (Enc.int .u8) (s14.v) x15, Asr.blk b18 49 [Seg.c (.int .i64 x6), Seg.c (.int .i64 x7), Seg.c (.int .i64 x8), Seg.c (.int .i64 x9), Seg.c (.int .i64 x10), Seg.c (.int .u8 x11), Seg.c (s12.v), Seg.c (s14.v)]] _ _
              refine QJ.then_normal ?_
              refine JC.seq ?_
              refine JC.seq ?_
              refine JC.cutK (Y := Bool × Unit) (fun y => match y with | (d33, _) => F10.j3 x7 x8 x9 x10 x11 x13 (d33) = some r) (fun y => match y with | (d33, _) => [(7, .pointer (some ⟨b18, 0, none⟩)), (88, .bool d33)]) (fun y => match y with | (d33, _) => [Asr.vw (Enc.int .u8) (s12.v) x13, Asr.vw (Enc.int .u8) (s14.v) x15, Asr.blk b18 49 [Seg.c (.int .i64 x6), Seg.c (.int .i64 x7), Seg.c (.int .i64 x8), Seg.c (.int .i64 x9), Seg.c (.int .i64 x10), Seg.c (.int .u8 x11), Seg.c (s12.v), Seg.c (s14.v)]]) ?_ ?_
              ·
                rintro ⟨d33, ⟨⟩⟩ hm
                unfold F10.j3 at hm
                show QJ _ _ [(7, .pointer (some ⟨b18, 0, none⟩)), (88, .bool d33)] [Asr.vw (Enc.int .u8) (s12.v) x13, Asr.vw (Enc.int .u8) (s14.v) x15, Asr.blk b18 49 [Seg.c (.int .i64 x6), Seg.c (.int .i64 x7), Seg.c (.int .i64 x8), Seg.c (.int .i64 x9), Seg.c (.int .i64 x10), Seg.c (.int .u8 x11), Seg.c (s12.v), Seg.c (s14.v)]] _ _
                refine QJ.then_normal ?_
                rcases ite_inv hm with ⟨h34, hm⟩ | ⟨h34, hm⟩
                ·
                  refine JC.condT' rfl h34 ?_
                  refine JC.seq ?_
                  refine JC.region ?_
                  refine JL.val (v := .bool false) (QV.assign rfl) rfl rfl rfl ?_
                  refine JL.nil ?_
                  refine QJ.then_normal ?_
                  refine JC.ret ?_
                  refine QJ.then_ret ?_
                  obtain rfl := Option.some.inj hm
                  exact QJ.body (vs := [.bool false]) (.inl rfl) rfl (ResVs.cons (ResV.tmp rfl) ResVs.nil) [] rfl rfl (.inr trivial) ⟨rfl, rfl⟩
                ·
                  refine JC.condF' rfl (bfalse h34) ?_
                  refine JC.skip ?_
                  refine QJ.then_normal ?_
                  refine JC.seq ?_
                  refine JC.region ?_
                  refine JL.val (v := .pointer none) (QV.assign rfl) rfl rfl rfl ?_
                  refine JL.nil ?_
                  refine QJ.then_normal ?_
                  refine JC.seq ?_
                  refine JC.regionT [Asr.vw (Enc.int .u8) (s12.v) x13, Asr.vw (Enc.int .u8) (s14.v) x15, Asr.blk b18 49 [Seg.c (.int .i64 x6), Seg.c (.int .i64 x7), Seg.c (.int .i64 x8), Seg.c (.int .i64 x9), Seg.c (.int .i64 x10), Seg.c (.int .u8 x11), Seg.c (s12.v), Seg.c (s14.v)]] (fun t => false) [(0, true), (1, true), (2, true), (3, true), (4, true), (6, true), (7, true), (8, true), (9, true), (5, false), (10, false), (11, false), (12, true), (13, true), (14, false), (15, false)] (by kernel_rfl) (by kernel_rfl) (by kernel_rfl) rfl (fun hsel => ?_)
                  refine JT.take (i := 0) (v := .pointer none) hsel rfl (QV.move rfl) rfl rfl rfl rfl [0, 1, 2] rfl rfl ?_
                  refine JT.take (i := 1) (v := .pointer (some ⟨b18, 5, none⟩)) hsel rfl (QV.fieldB fo_49_5 rfl rfl) rfl rfl rfl rfl [0, 1, 2] rfl rfl ?_
                  refine JT.take (i := 2) (v := .int .u8 x11) hsel rfl (QV.load1 (ss := [Seg.c (.int .i64 x6), Seg.c (.int .i64 x7), Seg.c (.int .i64 x8), Seg.c (.int .i64 x9), Seg.c (.int .i64 x10), Seg.c (.int .u8 x11), Seg.c (s12.v), Seg.c (s14.v)]) 2 5 rfl tk_5 rfl rfl rfl) rfl rfl rfl rfl [0, 1, 2] rfl rfl ?_
                  refine JT.take (i := 3) (v := .pointer (some ⟨b18, 4, none⟩)) hsel rfl (QV.fieldB fo_49_4 rfl rfl) rfl rfl rfl rfl [0, 1, 2] rfl rfl ?_
                  refine JT.take (i := 4) (v := .int .i64 x10) hsel rfl (QV.load1 (ss := [Seg.c (.int .i64 x6), Seg.c (.int .i64 x7), Seg.c (.int .i64 x8), Seg.c (.int .i64 x9), Seg.c (.int .i64 x10), Seg.c (.int .u8 x11), Seg.c (s12.v), Seg.c (s14.v)]) 2 4 rfl tk_3 rfl rfl rfl) rfl rfl rfl rfl [0, 1, 2] rfl rfl ?_
                  refine JT.take (i := 6) (v := .pointer (some ⟨b18, 2, none⟩)) hsel rfl (QV.fieldB fo_49_2 rfl rfl) rfl rfl rfl rfl [0, 1, 2] rfl rfl ?_
                  refine JT.take (i := 7) (v := .int .i64 x8) hsel rfl (QV.load1 (ss := [Seg.c (.int .i64 x6), Seg.c (.int .i64 x7), Seg.c (.int .i64 x8), Seg.c (.int .i64 x9), Seg.c (.int .i64 x10), Seg.c (.int .u8 x11), Seg.c (s12.v), Seg.c (s14.v)]) 2 2 rfl tk_3 rfl rfl rfl) rfl rfl rfl rfl [0, 1, 2] rfl rfl ?_
                  refine JT.take (i := 8) (v := .pointer (some ⟨b18, 3, none⟩)) hsel rfl (QV.fieldB fo_49_3 rfl rfl) rfl rfl rfl rfl [0, 1, 2] rfl rfl ?_
                  refine JT.take (i := 9) (v := .int .i64 x9) hsel rfl (QV.load1 (ss := [Seg.c (.int .i64 x6), Seg.c (.int .i64 x7), Seg.c (.int .i64 x8), Seg.c (.int .i64 x9), Seg.c (.int .i64 x10), Seg.c (.int .u8 x11), Seg.c (s12.v), Seg.c (s14.v)]) 2 3 rfl tk_3 rfl rfl rfl) rfl rfl rfl rfl [0, 1, 2] rfl rfl ?_
                  obtain ⟨y35, hc36, hm⟩ := bind_inv hm
                  refine JT.only (i := 5) (d := some 95) rfl (MV.call (Lo := []) (Lr := [Asr.vw (Enc.int .u8) (s12.v) x13, Asr.vw (Enc.int .u8) (s14.v) x15, Asr.blk b18 49 [Seg.c (.int .i64 x6), Seg.c (.int .i64 x7), Seg.c (.int .i64 x8), Seg.c (.int .i64 x9), Seg.c (.int .i64 x10), Seg.c (.int .u8 x11), Seg.c (s12.v), Seg.c (s14.v)]]) (F32.spec (x11) (x10) _ hc36) rfl Try.func32 rfl rfl rfl [] [0, 1, 2] rfl rfl rfl trivial) rfl rfl rfl ?_
                  rintro _ _ ⟨_, ⟨rfl, rfl⟩, rfl⟩
                  refine ⟨fun _ => ⟨[0, 1, 2], rfl, rfl⟩, ?_⟩
                  obtain ⟨y37, hc38, hm⟩ := bind_inv hm
                  refine JT.only (i := 10) (d := some 100) rfl (MV.call (Lo := []) (Lr := [Asr.vw (Enc.int .u8) (s12.v) x13, Asr.vw (Enc.int .u8) (s14.v) x15, Asr.blk b18 49 [Seg.c (.int .i64 x6), Seg.c (.int .i64 x7), Seg.c (.int .i64 x8), Seg.c (.int .i64 x9), Seg.c (.int .i64 x10), Seg.c (.int .u8 x11), Seg.c (s12.v), Seg.c (s14.v)]]) (F33.spec (x8) (x9) _ hc38) rfl Try.func33 rfl rfl rfl [] [0, 1, 2] rfl rfl rfl trivial) rfl rfl rfl ?_
                  rintro _ _ ⟨_, ⟨rfl, rfl⟩, rfl⟩
                  refine ⟨fun _ => ⟨[1, 2, 3], rfl, rfl⟩, ?_⟩
                  refine JT.grow [Asr.of 5 (Enc.int .u8) (SlV.nil.v) ([] : List Int), Asr.vw (Enc.int .u8) (s12.v) x13, Asr.vw (Enc.int .u8) (s14.v) x15, Asr.blk b18 49 [Seg.c (.int .i64 x6), Seg.c (.int .i64 x7), Seg.c (.int .i64 x8), Seg.c (.int .i64 x9), Seg.c (.int .i64 x10), Seg.c (.int .u8 x11), Seg.c (s12.v), Seg.c (s14.v)]] [1, 2, 3] rfl rfl ?_
                  refine JT.only (i := 11) (d := some 89) rfl (MV.ofQV (v := .tuple #[SlV.nil.v, .int .i64 (5 : Int)]) (QV.move rfl)) rfl rfl rfl ?_
                  rintro _ _ ⟨rfl, rfl⟩
                  refine ⟨fun _ => ⟨[0, 1, 2, 3], rfl, rfl⟩, ?_⟩
                  refine JT.take (i := 12) (v := SlV.nil.v) hsel rfl (QV.extract (vs := [SlV.nil.v, .int .i64 (5 : Int)]) rfl rfl) rfl rfl rfl rfl [0, 1, 2, 3] rfl rfl ?_
                  refine JT.take (i := 13) (v := .int .i64 (5 : Int)) hsel rfl (QV.extract (vs := [SlV.nil.v, .int .i64 (5 : Int)]) rfl rfl) rfl rfl rfl rfl [0, 1, 2, 3] rfl rfl ?_
                  refine JT.only (i := 14) (d := some 15) rfl (MV.ofQV (v := SlV.nil.v) (QV.assign rfl)) rfl rfl rfl ?_
                  rintro _ _ ⟨rfl, rfl⟩
                  refine ⟨fun _ => ⟨[0, 1, 2, 3], rfl, rfl⟩, ?_⟩
                  refine JT.only (i := 15) (d := some 16) rfl (MV.ofQV (v := .int .i64 (5 : Int)) (QV.assign rfl)) rfl rfl rfl ?_
                  rintro _ _ ⟨rfl, rfl⟩
                  refine ⟨fun _ => ⟨[0, 1, 2, 3], rfl, rfl⟩, ?_⟩
                  refine JT.nil ?_
                  refine QJ.then_normal ?_
                  refine JC.seq ?_
                  refine JC.region ?_
                  refine JL.val (v := .pointer none) (QV.move rfl) rfl rfl rfl ?_
                  refine JL.val (v := .pointer (some ⟨b18, 5, none⟩)) (QV.fieldB fo_49_5 rfl rfl) rfl rfl rfl ?_
                  refine JL.val (v := .int .u8 x11) (QV.load1 (ss := [Seg.c (.int .i64 x6), Seg.c (.int .i64 x7), Seg.c (.int .i64 x8), Seg.c (.int .i64 x9), Seg.c (.int .i64 x10), Seg.c (.int .u8 x11), Seg.c (s12.v), Seg.c (s14.v)]) 3 5 rfl tk_5 rfl rfl rfl) rfl rfl rfl ?_
                  refine JL.val (v := .pointer (some ⟨b18, 3, none⟩)) (QV.fieldB fo_49_3 rfl rfl) rfl rfl rfl ?_
                  refine JL.val (v := .int .i64 x9) (QV.load1 (ss := [Seg.c (.int .i64 x6), Seg.c (.int .i64 x7), Seg.c (.int .i64 x8), Seg.c (.int .i64 x9), Seg.c (.int .i64 x10), Seg.c (.int .u8 x11), Seg.c (s12.v), Seg.c (s14.v)]) 3 3 rfl tk_3 rfl rfl rfl) rfl rfl rfl ?_
                  obtain ⟨y39, hc40, hm⟩ := bind_inv hm
                  refine JL.mv (d := some 109) (MV.call (Lo := []) (Lr := [Asr.of 5 (Enc.int .u8) (SlV.nil.v) ([] : List Int), Asr.vw (Enc.int .u8) (s12.v) x13, Asr.vw (Enc.int .u8) (s14.v) x15, Asr.blk b18 49 [Seg.c (.int .i64 x6), Seg.c (.int .i64 x7), Seg.c (.int .i64 x8), Seg.c (.int .i64 x9), Seg.c (.int .i64 x10), Seg.c (.int .u8 x11), Seg.c (s12.v), Seg.c (s14.v)]]) (F34.spec (x11) (x9) _ hc40) rfl Try.func34 rfl rfl rfl [] [0, 1, 2, 3] rfl rfl rfl trivial) rfl rfl rfl ?_
                  rintro _ _ ⟨_, ⟨rfl, rfl⟩, rfl⟩
                  refine JL.val (v := .tuple #[.agg (((Enc.arr 32 (Enc.int .u8))).enc y39).toArray, .int .i64 (1 : Int)]) (QV.move rfl) rfl rfl rfl ?_
                  refine JL.val (v := .agg (((Enc.arr 32 (Enc.int .u8))).enc y39).toArray) (QV.extract (vs := [.agg (((Enc.arr 32 (Enc.int .u8))).enc y39).toArray, .int .i64 (1 : Int)]) rfl rfl) rfl rfl rfl ?_
                  refine JL.val (v := .int .i64 (1 : Int)) (QV.extract (vs := [.agg (((Enc.arr 32 (Enc.int .u8))).enc y39).toArray, .int .i64 (1 : Int)]) rfl rfl) rfl rfl rfl ?_
                  refine JL.mv (d := some 17) (MV.alloc [Seg.of (Enc.arr 32 (Enc.int .u8)) (Arr.rep 32 (0 : Int))] z_67 rfl) rfl rfl rfl ?_
                  rintro _ _ ⟨b41, rfl, rfl⟩
                  refine JL.mv (d := none) (MV.store (ss := [Seg.of (Enc.arr 32 (Enc.int .u8)) (Arr.rep 32 (0 : Int))]) 0 0 1 [Seg.of (Enc.arr 32 (Enc.int .u8)) y39] rfl tk_67 rfl rfl rfl rfl (fun w hs => ⟨rfl, one_of _ _, trivial⟩)) rfl rfl rfl ?_
                  rintro _ _ ⟨rfl, rfl⟩
                  refine JL.val (v := .int .i64 (1 : Int)) (QV.assign rfl) rfl rfl rfl ?_
                  refine JL.nil ?_
                  refine QJ.then_normal ?_
                  refine JC.seq ?_
                  refine JC.region ?_
                  refine JL.val (v := .pointer none) (QV.move rfl) rfl rfl rfl ?_
                  refine JL.val (v := .pointer (some ⟨b18, 3, none⟩)) (QV.fieldB fo_49_3 rfl rfl) rfl rfl rfl ?_
                  refine JL.val (v := .int .i64 x9) (QV.load1 (ss := [Seg.c (.int .i64 x6), Seg.c (.int .i64 x7), Seg.c (.int .i64 x8), Seg.c (.int .i64 x9), Seg.c (.int .i64 x10), Seg.c (.int .u8 x11), Seg.c (s12.v), Seg.c (s14.v)]) 4 3 rfl tk_3 rfl rfl rfl) rfl rfl rfl ?_
                  obtain ⟨y42, hc43, hm⟩ := bind_inv hm
                  refine JL.mv (d := some 116) (MV.call (Lo := []) (Lr := [Asr.blk b41 67 [Seg.of (Enc.arr 32 (Enc.int .u8)) y39], Asr.of 5 (Enc.int .u8) (SlV.nil.v) ([] : List Int), Asr.vw (Enc.int .u8) (s12.v) x13, Asr.vw (Enc.int .u8) (s14.v) x15, Asr.blk b18 49 [Seg.c (.int .i64 x6), Seg.c (.int .i64 x7), Seg.c (.int .i64 x8), Seg.c (.int .i64 x9), Seg.c (.int .i64 x10), Seg.c (.int .u8 x11), Seg.c (s12.v), Seg.c (s14.v)]]) (F35.spec (x9) _ hc43) rfl Try.func35 rfl rfl rfl [] [0, 1, 2, 3, 4] rfl rfl rfl trivial) rfl rfl rfl ?_
                  rintro _ _ ⟨_, ⟨rfl, rfl⟩, rfl⟩
                  refine JL.val (v := .tuple #[SlV.nil.v, .int .i64 (1 : Int)]) (QV.move rfl) rfl rfl rfl ?_
                  refine JL.val (v := SlV.nil.v) (QV.extract (vs := [SlV.nil.v, .int .i64 (1 : Int)]) rfl rfl) rfl rfl rfl ?_
                  refine JL.val (v := .int .i64 (1 : Int)) (QV.extract (vs := [SlV.nil.v, .int .i64 (1 : Int)]) rfl rfl) rfl rfl rfl ?_
                  refine JL.val (v := SlV.nil.v) (QV.assign rfl) rfl rfl rfl ?_
                  refine JL.val (v := .int .i64 (1 : Int)) (QV.assign rfl) rfl rfl rfl ?_
                  refine JL.nil ?_
                  refine QJ.then_normal ?_
                  refine JC.seq ?_
                  refine JC.cutK (Y := Bool × Unit) (fun y => match y with | (d44, _) => F10.j4 (d44) = some r) (fun y => match y with | (d44, _) => [(8, .bool d44)]) (fun y => match y with | (d44, _) => []) ?_ ?_
                  ·
                    rintro ⟨d44, ⟨⟩⟩ hm
                    unfold F10.j4 at hm
                    show QJ _ _ [(8, .bool d44)] [] _ _
                    refine QJ.then_normal ?_
                    refine JC.ret ?_
                    obtain rfl := Option.some.inj hm
                    exact QJ.body (vs := [.bool d44]) (.inl rfl) rfl (ResVs.cons (ResV.tmp rfl) ResVs.nil) [] rfl rfl (.inr trivial) ⟨rfl, rfl⟩
                  ·
                    refine JC.region ?_
                    refine JL.val (v := .int .i64 (5 : Int)) (QV.move rfl) rfl rfl rfl ?_
                    refine JL.val (v := .bool (decide ((5 : Int) = (5 : Int)))) (QV.eql rfl rfl) rfl rfl rfl ?_
                    rcases ite_inv hm with ⟨h45, hm⟩ | ⟨h45, hm⟩
                    ·
                      refine JL.val (v := .bool true) (QV.eq (QV.move rfl) (congrArg Value.bool (decide_eq_true h45))) rfl rfl rfl ?_
                      refine JL.val (v := .int .i64 (1 : Int)) (QV.move rfl) rfl rfl rfl ?_
                      refine JL.val (v := .bool (decide ((1 : Int) = (1 : Int)))) (QV.eql rfl rfl) rfl rfl rfl ?_
                      refine JL.val (v := .bool (decide ((1 : Int) = (1 : Int)))) (QV.pickT rfl rfl) rfl rfl rfl ?_
                      rcases ite_inv hm with ⟨h46, hm⟩ | ⟨h46, hm⟩
                      ·
                        refine JL.val (v := .bool true) (QV.eq (QV.move rfl) (congrArg Value.bool (decide_eq_true h46))) rfl rfl rfl ?_
                        refine JL.val (v := .int .i64 (1 : Int)) (QV.move rfl) rfl rfl rfl ?_
                        refine JL.val (v := .bool (decide ((1 : Int) = (1 : Int)))) (QV.eql rfl rfl) rfl rfl rfl ?_
                        refine JL.val (v := .bool (decide ((1 : Int) = (1 : Int)))) (QV.pickT rfl rfl) rfl rfl rfl ?_
                        rcases ite_inv hm with ⟨h47, hm⟩ | ⟨h47, hm⟩
                        ·
                          refine JL.val (v := .bool true) (QV.eq (QV.move rfl) (congrArg Value.bool (decide_eq_true h47))) rfl rfl rfl ?_
                          refine JL.val (v := .pointer none) (QV.move rfl) rfl rfl rfl ?_
                          refine JL.val (v := .pointer (some ⟨b18, 5, none⟩)) (QV.fieldB fo_49_5 rfl rfl) rfl rfl rfl ?_
                          refine JL.val (v := .int .u8 x11) (QV.load1 (ss := [Seg.c (.int .i64 x6), Seg.c (.int .i64 x7), Seg.c (.int .i64 x8), Seg.c (.int .i64 x9), Seg.c (.int .i64 x10), Seg.c (.int .u8 x11), Seg.c (s12.v), Seg.c (s14.v)]) 5 5 rfl tk_5 rfl rfl rfl) rfl rfl rfl ?_
                          refine JL.val (v := .pointer (some ⟨b18, 1, none⟩)) (QV.fieldB fo_49_1 rfl rfl) rfl rfl rfl ?_
                          refine JL.val (v := .int .i64 x7) (QV.load1 (ss := [Seg.c (.int .i64 x6), Seg.c (.int .i64 x7), Seg.c (.int .i64 x8), Seg.c (.int .i64 x9), Seg.c (.int .i64 x10), Seg.c (.int .u8 x11), Seg.c (s12.v), Seg.c (s14.v)]) 5 1 rfl tk_3 rfl rfl rfl) rfl rfl rfl ?_
                          refine JL.val (v := .pointer (some ⟨b18, 6, none⟩)) (QV.fieldB fo_49_6 rfl rfl) rfl rfl rfl ?_
                          refine JL.val (v := s12.v) (QV.load1 (ss := [Seg.c (.int .i64 x6), Seg.c (.int .i64 x7), Seg.c (.int .i64 x8), Seg.c (.int .i64 x9), Seg.c (.int .i64 x10), Seg.c (.int .u8 x11), Seg.c (s12.v), Seg.c (s14.v)]) 5 6 rfl tk_34 rfl rfl rfl) rfl rfl rfl ?_
                          obtain ⟨y48, hc49, hm⟩ := bind_inv hm
                          refine JL.mv (d := some 137) (MV.call (Lo := []) (Lr := [Asr.of 5 (Enc.int .u8) (SlV.nil.v) ([] : List Int), Asr.blk b41 67 [Seg.of (Enc.arr 32 (Enc.int .u8)) y39], Asr.of 5 (Enc.int .u8) (SlV.nil.v) ([] : List Int), Asr.vw (Enc.int .u8) (s12.v) x13, Asr.vw (Enc.int .u8) (s14.v) x15, Asr.blk b18 49 [Seg.c (.int .i64 x6), Seg.c (.int .i64 x7), Seg.c (.int .i64 x8), Seg.c (.int .i64 x9), Seg.c (.int .i64 x10), Seg.c (.int .u8 x11), Seg.c (s12.v), Seg.c (s14.v)]]) (F36.spec (s12) (x11) (x7) (x13) _ hc49) rfl Try.func36 rfl rfl rfl [] [0, 1, 2, 3, 4, 5] rfl rfl rfl ⟨(Drv.vw 3 rfl), trivial⟩) rfl rfl rfl ?_
                          rintro _ _ ⟨_, ⟨rfl, rfl⟩, rfl⟩
                          refine JL.val (v := .bool (decide ((1 : Int) = (1 : Int)))) (QV.eql rfl rfl) rfl rfl rfl ?_
                          refine JL.val (v := .bool (decide ((1 : Int) = (1 : Int)))) (QV.pickT rfl rfl) rfl rfl rfl ?_
                          rcases ite_inv hm with ⟨h50, hm⟩ | ⟨h50, hm⟩
                          ·
                            refine JL.val (v := .bool true) (QV.eq (QV.move rfl) (congrArg Value.bool (decide_eq_true h50))) rfl rfl rfl ?_
                            refine JL.val (v := .pointer none) (QV.move rfl) rfl rfl rfl ?_
                            refine JL.val (v := .pointer (some ⟨b18, 6, none⟩)) (QV.fieldB fo_49_6 rfl rfl) rfl rfl rfl ?_
                            refine JL.val (v := s12.v) (QV.load1 (ss := [Seg.c (.int .i64 x6), Seg.c (.int .i64 x7), Seg.c (.int .i64 x8), Seg.c (.int .i64 x9), Seg.c (.int .i64 x10), Seg.c (.int .u8 x11), Seg.c (s12.v), Seg.c (s14.v)]) 5 6 rfl tk_34 rfl rfl rfl) rfl rfl rfl ?_
                            obtain ⟨y51, hc52, hm⟩ := bind_inv hm
                            refine JL.mv (d := some 144) (MV.call (Lo := []) (Lr := [Asr.of 5 (Enc.int .u8) (SlV.nil.v) ([] : List Int), Asr.blk b41 67 [Seg.of (Enc.arr 32 (Enc.int .u8)) y39], Asr.of 5 (Enc.int .u8) (SlV.nil.v) ([] : List Int), Asr.vw (Enc.int .u8) (s12.v) x13, Asr.vw (Enc.int .u8) (s14.v) x15, Asr.blk b18 49 [Seg.c (.int .i64 x6), Seg.c (.int .i64 x7), Seg.c (.int .i64 x8), Seg.c (.int .i64 x9), Seg.c (.int .i64 x10), Seg.c (.int .u8 x11), Seg.c (s12.v), Seg.c (s14.v)]]) (F37.spec (s12) (x13) _ hc52) rfl Try.func37 rfl rfl rfl [] [0, 1, 2, 3, 4, 5] rfl rfl rfl ⟨(Drv.vw 3 rfl), trivial⟩) rfl rfl rfl ?_
                            rintro _ _ ⟨_, ⟨rfl, rfl⟩, rfl⟩
                            refine JL.val (v := .bool (decide ((1 : Int) = (1 : Int)))) (QV.eql rfl rfl) rfl rfl rfl ?_
                            refine JL.val (v := .bool (decide ((1 : Int) = (1 : Int)))) (QV.pickT rfl rfl) rfl rfl rfl ?_
                            rcases ite_inv hm with ⟨h53, hm⟩ | ⟨h53, hm⟩
                            ·
                              refine JL.val (v := .bool true) (QV.eq (QV.move rfl) (congrArg Value.bool (decide_eq_true h53))) rfl rfl rfl ?_
                              refine JL.val (v := .pointer none) (QV.move rfl) rfl rfl rfl ?_
                              obtain ⟨y54, hc55, hm⟩ := bind_inv hm
                              refine JL.mv (d := some 149) (MV.call (Lo := []) (Lr := [Asr.of 5 (Enc.int .u8) (SlV.nil.v) ([] : List Int), Asr.blk b41 67 [Seg.of (Enc.arr 32 (Enc.int .u8)) y39], Asr.of 5 (Enc.int .u8) (SlV.nil.v) ([] : List Int), Asr.vw (Enc.int .u8) (s12.v) x13, Asr.vw (Enc.int .u8) (s14.v) x15, Asr.blk b18 49 [Seg.c (.int .i64 x6), Seg.c (.int .i64 x7), Seg.c (.int .i64 x8), Seg.c (.int .i64 x9), Seg.c (.int .i64 x10), Seg.c (.int .u8 x11), Seg.c (s12.v), Seg.c (s14.v)]]) (F38_2.spec _ hc55) rfl Try.func38 rfl rfl rfl [] [0, 1, 2, 3, 4, 5] rfl rfl rfl trivial) rfl rfl rfl ?_
                              rintro _ _ ⟨_, ⟨rfl, rfl⟩, rfl⟩
                              refine JL.val (v := .bool (decide ((0 : Int) = (0 : Int)))) (QV.eql rfl rfl) rfl rfl rfl ?_
                              refine JL.val (v := .bool (decide ((0 : Int) = (0 : Int)))) (QV.pickT rfl rfl) rfl rfl rfl ?_
                              rcases ite_inv hm with ⟨h56, hm⟩ | ⟨h56, hm⟩
                              ·
                                refine JL.val (v := .bool true) (QV.eq (QV.move rfl) (congrArg Value.bool (decide_eq_true h56))) rfl rfl rfl ?_
                                obtain ⟨y57, hc58, hm⟩ := bind_inv hm
                                refine JL.mv (d := some 153) (MV.call (Lo := []) (Lr := [Asr.of 5 (Enc.int .u8) (SlV.nil.v) ([] : List Int), Asr.blk b41 67 [Seg.of (Enc.arr 32 (Enc.int .u8)) y39], Asr.of 5 (Enc.int .u8) (SlV.nil.v) ([] : List Int), Asr.vw (Enc.int .u8) (s12.v) x13, Asr.vw (Enc.int .u8) (s14.v) x15, Asr.blk b18 49 [Seg.c (.int .i64 x6), Seg.c (.int .i64 x7), Seg.c (.int .i64 x8), Seg.c (.int .i64 x9), Seg.c (.int .i64 x10), Seg.c (.int .u8 x11), Seg.c (s12.v), Seg.c (s14.v)]]) (F27.spec _ hc58) rfl Try.func27 rfl rfl rfl [] [0, 1, 2, 3, 4, 5] rfl rfl rfl trivial) rfl rfl rfl ?_
                                rintro _ _ ⟨_, ⟨rfl, rfl⟩, rfl⟩
                                refine JL.val (v := .bool y57) (QV.pickT rfl rfl) rfl rfl rfl ?_
                                refine JL.val (v := .bool y57) (QV.assign rfl) rfl rfl rfl ?_
                                refine JL.nil ?_
                                exact QJ.cut_normal (y57, ()) hm [] (by exact ⟨rfl, trivial⟩) rfl rfl
                              ·
                                refine JL.val (v := .bool false) (QV.eq (QV.move rfl) (congrArg Value.bool (decide_eq_false h56))) rfl rfl rfl ?_
                                refine JL.skip (d := some 153) rfl rfl rfl ?_
                                refine JL.val (v := .bool false) (QV.pickF rfl rfl) rfl rfl rfl ?_
                                refine JL.val (v := .bool false) (QV.assign rfl) rfl rfl rfl ?_
                                refine JL.nil ?_
                                exact QJ.cut_normal (false, ()) hm [] (by exact ⟨rfl, trivial⟩) rfl rfl
                            ·
                              refine JL.val (v := .bool false) (QV.eq (QV.move rfl) (congrArg Value.bool (decide_eq_false h53))) rfl rfl rfl ?_
                              refine JL.skip (d := some 148) rfl rfl rfl ?_
                              refine JL.skip (d := some 149) rfl rfl rfl ?_
                              refine JL.skip (d := some 150) rfl rfl rfl ?_
                              refine JL.val (v := .bool false) (QV.pickF rfl rfl) rfl rfl rfl ?_
                              refine JL.val (v := .bool false) (QV.move rfl) rfl rfl rfl ?_
                              refine JL.skip (d := some 153) rfl rfl rfl ?_
                              refine JL.val (v := .bool false) (QV.pickF rfl rfl) rfl rfl rfl ?_
                              refine JL.val (v := .bool false) (QV.assign rfl) rfl rfl rfl ?_
                              refine JL.nil ?_
                              exact QJ.cut_normal (false, ()) hm [] (by exact ⟨rfl, trivial⟩) rfl rfl
                          ·
                            refine JL.val (v := .bool false) (QV.eq (QV.move rfl) (congrArg Value.bool (decide_eq_false h50))) rfl rfl rfl ?_
                            refine JL.skip (d := some 141) rfl rfl rfl ?_
                            refine JL.skip (d := some 142) rfl rfl rfl ?_
                            refine JL.skip (d := some 143) rfl rfl rfl ?_
                            refine JL.skip (d := some 144) rfl rfl rfl ?_
                            refine JL.skip (d := some 145) rfl rfl rfl ?_
                            refine JL.val (v := .bool false) (QV.pickF rfl rfl) rfl rfl rfl ?_
                            refine JL.val (v := .bool false) (QV.move rfl) rfl rfl rfl ?_
                            refine JL.skip (d := some 148) rfl rfl rfl ?_
                            refine JL.skip (d := some 149) rfl rfl rfl ?_
                            refine JL.skip (d := some 150) rfl rfl rfl ?_
                            refine JL.val (v := .bool false) (QV.pickF rfl rfl) rfl rfl rfl ?_
                            refine JL.val (v := .bool false) (QV.move rfl) rfl rfl rfl ?_
                            refine JL.skip (d := some 153) rfl rfl rfl ?_
                            refine JL.val (v := .bool false) (QV.pickF rfl rfl) rfl rfl rfl ?_
                            refine JL.val (v := .bool false) (QV.assign rfl) rfl rfl rfl ?_
                            refine JL.nil ?_
                            exact QJ.cut_normal (false, ()) hm [] (by exact ⟨rfl, trivial⟩) rfl rfl
                        ·
                          refine JL.val (v := .bool false) (QV.eq (QV.move rfl) (congrArg Value.bool (decide_eq_false h47))) rfl rfl rfl ?_
                          refine JL.skip (d := some 130) rfl rfl rfl ?_
                          refine JL.skip (d := some 131) rfl rfl rfl ?_
                          refine JL.skip (d := some 132) rfl rfl rfl ?_
                          refine JL.skip (d := some 133) rfl rfl rfl ?_
                          refine JL.skip (d := some 134) rfl rfl rfl ?_
                          refine JL.skip (d := some 135) rfl rfl rfl ?_
                          refine JL.skip (d := some 136) rfl rfl rfl ?_
                          refine JL.skip (d := some 137) rfl rfl rfl ?_
                          refine JL.skip (d := some 138) rfl rfl rfl ?_
                          refine JL.val (v := .bool false) (QV.pickF rfl rfl) rfl rfl rfl ?_
                          refine JL.val (v := .bool false) (QV.move rfl) rfl rfl rfl ?_
                          refine JL.skip (d := some 141) rfl rfl rfl ?_
                          refine JL.skip (d := some 142) rfl rfl rfl ?_
                          refine JL.skip (d := some 143) rfl rfl rfl ?_
                          refine JL.skip (d := some 144) rfl rfl rfl ?_
                          refine JL.skip (d := some 145) rfl rfl rfl ?_
                          refine JL.val (v := .bool false) (QV.pickF rfl rfl) rfl rfl rfl ?_
                          refine JL.val (v := .bool false) (QV.move rfl) rfl rfl rfl ?_
                          refine JL.skip (d := some 148) rfl rfl rfl ?_
                          refine JL.skip (d := some 149) rfl rfl rfl ?_
                          refine JL.skip (d := some 150) rfl rfl rfl ?_
                          refine JL.val (v := .bool false) (QV.pickF rfl rfl) rfl rfl rfl ?_
                          refine JL.val (v := .bool false) (QV.move rfl) rfl rfl rfl ?_
                          refine JL.skip (d := some 153) rfl rfl rfl ?_
                          refine JL.val (v := .bool false) (QV.pickF rfl rfl) rfl rfl rfl ?_
                          refine JL.val (v := .bool false) (QV.assign rfl) rfl rfl rfl ?_
                          refine JL.nil ?_
                          exact QJ.cut_normal (false, ()) hm [] (by exact ⟨rfl, trivial⟩) rfl rfl
                      ·
                        refine JL.val (v := .bool false) (QV.eq (QV.move rfl) (congrArg Value.bool (decide_eq_false h46))) rfl rfl rfl ?_
                        refine JL.skip (d := some 126) rfl rfl rfl ?_
                        refine JL.skip (d := some 127) rfl rfl rfl ?_
                        refine JL.val (v := .bool false) (QV.pickF rfl rfl) rfl rfl rfl ?_
                        refine JL.val (v := .bool false) (QV.move rfl) rfl rfl rfl ?_
                        refine JL.skip (d := some 130) rfl rfl rfl ?_
                        refine JL.skip (d := some 131) rfl rfl rfl ?_
                        refine JL.skip (d := some 132) rfl rfl rfl ?_
                        refine JL.skip (d := some 133) rfl rfl rfl ?_
                        refine JL.skip (d := some 134) rfl rfl rfl ?_
                        refine JL.skip (d := some 135) rfl rfl rfl ?_
                        refine JL.skip (d := some 136) rfl rfl rfl ?_
                        refine JL.skip (d := some 137) rfl rfl rfl ?_
                        refine JL.skip (d := some 138) rfl rfl rfl ?_
                        refine JL.val (v := .bool false) (QV.pickF rfl rfl) rfl rfl rfl ?_
                        refine JL.val (v := .bool false) (QV.move rfl) rfl rfl rfl ?_
                        refine JL.skip (d := some 141) rfl rfl rfl ?_
                        refine JL.skip (d := some 142) rfl rfl rfl ?_
                        refine JL.skip (d := some 143) rfl rfl rfl ?_
                        refine JL.skip (d := some 144) rfl rfl rfl ?_
                        refine JL.skip (d := some 145) rfl rfl rfl ?_
                        refine JL.val (v := .bool false) (QV.pickF rfl rfl) rfl rfl rfl ?_
                        refine JL.val (v := .bool false) (QV.move rfl) rfl rfl rfl ?_
                        refine JL.skip (d := some 148) rfl rfl rfl ?_
                        refine JL.skip (d := some 149) rfl rfl rfl ?_
                        refine JL.skip (d := some 150) rfl rfl rfl ?_
                        refine JL.val (v := .bool false) (QV.pickF rfl rfl) rfl rfl rfl ?_
                        refine JL.val (v := .bool false) (QV.move rfl) rfl rfl rfl ?_
                        refine JL.skip (d := some 153) rfl rfl rfl ?_
                        refine JL.val (v := .bool false) (QV.pickF rfl rfl) rfl rfl rfl ?_
                        refine JL.val (v := .bool false) (QV.assign rfl) rfl rfl rfl ?_
                        refine JL.nil ?_
                        exact QJ.cut_normal (false, ()) hm [] (by exact ⟨rfl, trivial⟩) rfl rfl
                    ·
                      refine JL.val (v := .bool false) (QV.eq (QV.move rfl) (congrArg Value.bool (decide_eq_false h45))) rfl rfl rfl ?_
                      refine JL.skip (d := some 122) rfl rfl rfl ?_
                      refine JL.skip (d := some 123) rfl rfl rfl ?_
                      refine JL.val (v := .bool false) (QV.pickF rfl rfl) rfl rfl rfl ?_
                      refine JL.val (v := .bool false) (QV.move rfl) rfl rfl rfl ?_
                      refine JL.skip (d := some 126) rfl rfl rfl ?_
                      refine JL.skip (d := some 127) rfl rfl rfl ?_
                      refine JL.val (v := .bool false) (QV.pickF rfl rfl) rfl rfl rfl ?_
                      refine JL.val (v := .bool false) (QV.move rfl) rfl rfl rfl ?_
                      refine JL.skip (d := some 130) rfl rfl rfl ?_
                      refine JL.skip (d := some 131) rfl rfl rfl ?_
                      refine JL.skip (d := some 132) rfl rfl rfl ?_
                      refine JL.skip (d := some 133) rfl rfl rfl ?_
                      refine JL.skip (d := some 134) rfl rfl rfl ?_
                      refine JL.skip (d := some 135) rfl rfl rfl ?_
                      refine JL.skip (d := some 136) rfl rfl rfl ?_
                      refine JL.skip (d := some 137) rfl rfl rfl ?_
                      refine JL.skip (d := some 138) rfl rfl rfl ?_
                      refine JL.val (v := .bool false) (QV.pickF rfl rfl) rfl rfl rfl ?_
                      refine JL.val (v := .bool false) (QV.move rfl) rfl rfl rfl ?_
                      refine JL.skip (d := some 141) rfl rfl rfl ?_
                      refine JL.skip (d := some 142) rfl rfl rfl ?_
                      refine JL.skip (d := some 143) rfl rfl rfl ?_
                      refine JL.skip (d := some 144) rfl rfl rfl ?_
                      refine JL.skip (d := some 145) rfl rfl rfl ?_
                      refine JL.val (v := .bool false) (QV.pickF rfl rfl) rfl rfl rfl ?_
                      refine JL.val (v := .bool false) (QV.move rfl) rfl rfl rfl ?_
                      refine JL.skip (d := some 148) rfl rfl rfl ?_
                      refine JL.skip (d := some 149) rfl rfl rfl ?_
                      refine JL.skip (d := some 150) rfl rfl rfl ?_
                      refine JL.val (v := .bool false) (QV.pickF rfl rfl) rfl rfl rfl ?_
                      refine JL.val (v := .bool false) (QV.move rfl) rfl rfl rfl ?_
                      refine JL.skip (d := some 153) rfl rfl rfl ?_
                      refine JL.val (v := .bool false) (QV.pickF rfl rfl) rfl rfl rfl ?_
                      refine JL.val (v := .bool false) (QV.assign rfl) rfl rfl rfl ?_
                      refine JL.nil ?_
                      exact QJ.cut_normal (false, ()) hm [] (by exact ⟨rfl, trivial⟩) rfl rfl
              ·
                refine JC.region ?_
                refine JL.val (v := .pointer none) (QV.move rfl) rfl rfl rfl ?_
                refine JL.val (v := .bool false) ((QV.eq (QV.neqP Try.underlying53 rfl rfl (.inl rfl)) (by simp))) rfl rfl rfl ?_
                refine JL.val (v := .bool d32) (QV.move rfl) rfl rfl rfl ?_
                refine JL.val (v := .bool (!(false == d32))) (QV.neqB Try.underlying4 rfl rfl) rfl rfl rfl ?_
                rcases ite_inv hm with ⟨h59, hm⟩ | ⟨h59, hm⟩
                ·
                  refine JL.val (v := .bool false) (QV.eq (QV.move rfl) (congrArg Value.bool (congrArg Bool.not h59))) rfl rfl rfl ?_
                  refine JL.val (v := .bool d32) (QV.move rfl) rfl rfl rfl ?_
                  refine JL.val (v := .int .i64 (1 : Int)) (QV.move rfl) rfl rfl rfl ?_
                  refine JL.val (v := .bool (decide ((1 : Int) = (0 : Int)))) (QV.eql rfl rfl) rfl rfl rfl ?_
                  refine JL.val (v := .bool (!(d32 == (decide ((1 : Int) = (0 : Int)))))) (QV.neqB Try.underlying4 rfl rfl) rfl rfl rfl ?_
                  refine JL.val (v := .bool (!(d32 == (decide ((1 : Int) = (0 : Int)))))) (QV.pickF rfl rfl) rfl rfl rfl ?_
                  rcases ite_inv hm with ⟨h60, hm⟩ | ⟨h60, hm⟩
                  ·
                    refine JL.val (v := .bool false) (QV.eq (QV.move rfl) (congrArg Value.bool (congrArg Bool.not h60))) rfl rfl rfl ?_
                    refine JL.val (v := .bool d32) (QV.move rfl) rfl rfl rfl ?_
                    refine JL.val (v := .bool (!d32)) (QV.not rfl) rfl rfl rfl ?_
                    rcases ite_inv hm with ⟨h61, hm⟩ | ⟨h61, hm⟩
                    ·
                      refine JL.val (v := .bool false) (QV.eq (QV.move rfl) (congrArg Value.bool (congrArg Bool.not h61))) rfl rfl rfl ?_
                      refine JL.skip (d := some 85) rfl rfl rfl ?_
                      refine JL.skip (d := some 86) rfl rfl rfl ?_
                      refine JL.val (v := .bool false) (QV.pickF rfl rfl) rfl rfl rfl ?_
                      refine JL.val (v := .bool false) (QV.pickF rfl rfl) rfl rfl rfl ?_
                      refine JL.nil ?_
                      exact QJ.cut_normal (false, ()) hm [0, 1, 2] (by exact ⟨rfl, rfl, trivial⟩) rfl rfl
                    ·
                      refine JL.val (v := .bool true) (QV.eq (QV.move rfl) (congrArg Value.bool (congrArg Bool.not (bfalse h61)))) rfl rfl rfl ?_
                      refine JL.val (v := .int .i64 (1 : Int)) (QV.move rfl) rfl rfl rfl ?_
                      refine JL.val (v := .bool (!(decide ((1 : Int) = (1 : Int))))) (QV.neq rfl rfl) rfl rfl rfl ?_
                      refine JL.val (v := .bool (!(decide ((1 : Int) = (1 : Int))))) (QV.pickT rfl rfl) rfl rfl rfl ?_
                      refine JL.val (v := .bool (!(decide ((1 : Int) = (1 : Int))))) (QV.pickF rfl rfl) rfl rfl rfl ?_
                      refine JL.nil ?_
                      exact QJ.cut_normal ((!(decide ((1 : Int) = (1 : Int)))), ()) hm [0, 1, 2] (by exact ⟨rfl, rfl, trivial⟩) rfl rfl
                  ·
                    refine JL.val (v := .bool true) (QV.eq (QV.move rfl) (congrArg Value.bool (congrArg Bool.not (bfalse h60)))) rfl rfl rfl ?_
                    refine JL.skip (d := some 82) rfl rfl rfl ?_
                    refine JL.skip (d := some 83) rfl rfl rfl ?_
                    refine JL.skip (d := some 84) rfl rfl rfl ?_
                    refine JL.skip (d := some 85) rfl rfl rfl ?_
                    refine JL.skip (d := some 86) rfl rfl rfl ?_
                    refine JL.skip (d := some 87) rfl rfl rfl ?_
                    refine JL.val (v := .bool true) (QV.pickT rfl rfl) rfl rfl rfl ?_
                    refine JL.nil ?_
                    exact QJ.cut_normal (true, ()) hm [0, 1, 2] (by exact ⟨rfl, rfl, trivial⟩) rfl rfl
                ·
                  refine JL.val (v := .bool true) (QV.eq (QV.move rfl) (congrArg Value.bool (congrArg Bool.not (bfalse h59)))) rfl rfl rfl ?_
                  refine JL.skip (d := some 76) rfl rfl rfl ?_
                  refine JL.skip (d := some 77) rfl rfl rfl ?_
                  refine JL.skip (d := some 78) rfl rfl rfl ?_
                  refine JL.skip (d := some 79) rfl rfl rfl ?_
                  refine JL.val (v := .bool true) (QV.pickT rfl rfl) rfl rfl rfl ?_
                  refine JL.val (v := .bool true) (QV.move rfl) rfl rfl rfl ?_
                  refine JL.skip (d := some 82) rfl rfl rfl ?_
                  refine JL.skip (d := some 83) rfl rfl rfl ?_
                  refine JL.skip (d := some 84) rfl rfl rfl ?_
                  refine JL.skip (d := some 85) rfl rfl rfl ?_
                  refine JL.skip (d := some 86) rfl rfl rfl ?_
                  refine JL.skip (d := some 87) rfl rfl rfl ?_
                  refine JL.val (v := .bool true) (QV.pickT rfl rfl) rfl rfl rfl ?_
                  refine JL.nil ?_
                  exact QJ.cut_normal (true, ()) hm [0, 1, 2] (by exact ⟨rfl, rfl, trivial⟩) rfl rfl
            ·
              refine JC.region ?_
              refine JL.val (v := .agg #[.int .i64 x1, .int .i64 x2, .int .i64 x3]) (QV.eq (QV.loadN (ss := [Seg.c (.int .i64 x1), Seg.c (.int .i64 x2), Seg.c (.int .i64 x3)]) 0 0 3 rfl tk_47 rfl rfl rfl rfl) rfl) rfl rfl rfl ?_
              obtain ⟨y62, hc63, hm⟩ := bind_inv hm
              refine JL.mv (d := some 57) (MV.call (Lo := []) (Lr := [Asr.blk b17 47 [Seg.c (.int .i64 x1), Seg.c (.int .i64 x2), Seg.c (.int .i64 x3)], Asr.vw (Enc.int .u8) (s12.v) x13, Asr.vw (Enc.int .u8) (s14.v) x15, Asr.blk b18 49 [Seg.c (.int .i64 x6), Seg.c (.int .i64 x7), Seg.c (.int .i64 x8), Seg.c (.int .i64 x9), Seg.c (.int .i64 x10), Seg.c (.int .u8 x11), Seg.c (s12.v), Seg.c (s14.v)]]) (F30.spec (x1) (x2) (x3) _ hc63) rfl Try.func30 rfl rfl rfl [] [0, 1, 2, 3] rfl rfl rfl trivial) rfl rfl rfl ?_
              rintro _ _ ⟨_, ⟨rfl, rfl⟩, rfl⟩
              rcases ite_inv hm with ⟨h64, hm⟩ | ⟨h64, hm⟩
              ·
                refine JL.val (v := .bool true) (QV.eq (QV.move rfl) (congrArg Value.bool h64)) rfl rfl rfl ?_
                refine JL.val (v := .pointer (some ⟨b17, 0, none⟩)) (QV.fieldB fo_47_0 rfl rfl) rfl rfl rfl ?_
                refine JL.val (v := .int .i64 x1) (QV.load1 (ss := [Seg.c (.int .i64 x1), Seg.c (.int .i64 x2), Seg.c (.int .i64 x3)]) 0 0 rfl tk_3 rfl rfl rfl) rfl rfl rfl ?_
                refine JL.val (v := .int .i64 x4) (QV.move rfl) rfl rfl rfl ?_
                refine JL.val (v := .bool (decide (x1 = x4))) (QV.eql rfl rfl) rfl rfl rfl ?_
                refine JL.val (v := .bool (decide (x1 = x4))) (QV.pickT rfl rfl) rfl rfl rfl ?_
                rcases ite_inv hm with ⟨h65, hm⟩ | ⟨h65, hm⟩
                ·
                  refine JL.val (v := .bool true) (QV.eq (QV.move rfl) (congrArg Value.bool (decide_eq_true h65))) rfl rfl rfl ?_
                  refine JL.val (v := .agg #[.int .i64 x1, .int .i64 x2, .int .i64 x3]) (QV.eq (QV.loadN (ss := [Seg.c (.int .i64 x1), Seg.c (.int .i64 x2), Seg.c (.int .i64 x3)]) 0 0 3 rfl tk_47 rfl rfl rfl rfl) rfl) rfl rfl rfl ?_
                  obtain ⟨y66, hc67, hm⟩ := bind_inv hm
                  refine JL.mv (d := some 66) (MV.call (Lo := []) (Lr := [Asr.blk b17 47 [Seg.c (.int .i64 x1), Seg.c (.int .i64 x2), Seg.c (.int .i64 x3)], Asr.vw (Enc.int .u8) (s12.v) x13, Asr.vw (Enc.int .u8) (s14.v) x15, Asr.blk b18 49 [Seg.c (.int .i64 x6), Seg.c (.int .i64 x7), Seg.c (.int .i64 x8), Seg.c (.int .i64 x9), Seg.c (.int .i64 x10), Seg.c (.int .u8 x11), Seg.c (s12.v), Seg.c (s14.v)]]) (F31.spec (x1) (x2) (x3) _ hc67) rfl Try.func31 rfl rfl rfl [] [0, 1, 2, 3] rfl rfl rfl trivial) rfl rfl rfl ?_
                  rintro _ _ ⟨_, ⟨rfl, rfl⟩, rfl⟩
                  refine JL.val (v := .int .i64 y66.2.2.2) (QV.field1 (ss := [Seg.of (Enc.arr 2 (Enc.pair (Enc.int .i64) (Enc.int .i64))) y66.1, Seg.c (.int .i64 (2 : Int)), Seg.c (.int .i64 y66.2.1), Seg.of (Enc.arr 2 (Enc.pair (Enc.int .i64) (Enc.int .i64))) y66.2.2.1, Seg.c (.int .i64 y66.2.2.2)]) 4 to_61_3 tk_3 rfl rfl rfl) rfl rfl rfl ?_
                  refine JL.val (v := .int .i64 x5) (QV.move rfl) rfl rfl rfl ?_
                  refine JL.val (v := .bool (decide (y66.2.2.2 ≤ x5))) (QV.leq rfl rfl) rfl rfl rfl ?_
                  refine JL.val (v := .bool (decide (y66.2.2.2 ≤ x5))) (QV.pickT rfl rfl) rfl rfl rfl ?_
                  refine JL.val (v := .bool (decide (y66.2.2.2 ≤ x5))) (QV.assign rfl) rfl rfl rfl ?_
                  refine JL.nil ?_
                  exact QJ.cut_normal ((decide (y66.2.2.2 ≤ x5)), ()) hm [1, 2, 3] (by exact ⟨rfl, rfl, rfl, rfl, trivial⟩) rfl rfl
                ·
                  refine JL.val (v := .bool false) (QV.eq (QV.move rfl) (congrArg Value.bool (decide_eq_false h65))) rfl rfl rfl ?_
                  refine JL.skip (d := some 65) rfl rfl rfl ?_
                  refine JL.skip (d := some 66) rfl rfl rfl ?_
                  refine JL.skip (d := some 67) rfl rfl rfl ?_
                  refine JL.skip (d := some 68) rfl rfl rfl ?_
                  refine JL.skip (d := some 69) rfl rfl rfl ?_
                  refine JL.val (v := .bool false) (QV.pickF rfl rfl) rfl rfl rfl ?_
                  refine JL.val (v := .bool false) (QV.assign rfl) rfl rfl rfl ?_
                  refine JL.nil ?_
                  exact QJ.cut_normal (false, ()) hm [1, 2, 3] (by exact ⟨rfl, rfl, rfl, rfl, trivial⟩) rfl rfl
              ·
                refine JL.val (v := .bool false) (QV.eq (QV.move rfl) (congrArg Value.bool (bfalse h64))) rfl rfl rfl ?_
                refine JL.skip (d := some 59) rfl rfl rfl ?_
                refine JL.skip (d := some 60) rfl rfl rfl ?_
                refine JL.skip (d := some 61) rfl rfl rfl ?_
                refine JL.skip (d := some 62) rfl rfl rfl ?_
                refine JL.val (v := .bool false) (QV.pickF rfl rfl) rfl rfl rfl ?_
                refine JL.val (v := .bool false) (QV.move rfl) rfl rfl rfl ?_
                refine JL.skip (d := some 65) rfl rfl rfl ?_
                refine JL.skip (d := some 66) rfl rfl rfl ?_
                refine JL.skip (d := some 67) rfl rfl rfl ?_
                refine JL.skip (d := some 68) rfl rfl rfl ?_
                refine JL.skip (d := some 69) rfl rfl rfl ?_
                refine JL.val (v := .bool false) (QV.pickF rfl rfl) rfl rfl rfl ?_
                refine JL.val (v := .bool false) (QV.assign rfl) rfl rfl rfl ?_
                refine JL.nil ?_
                exact QJ.cut_normal (false, ()) hm [1, 2, 3] (by exact ⟨rfl, rfl, rfl, rfl, trivial⟩) rfl rfl
          ·
            refine JC.condT' rfl (congrArg Bool.not (decide_eq_false h31)) ?_
            refine JC.seq ?_
            refine JC.region ?_
            refine JL.val (v := .bool false) (QV.assign rfl) rfl rfl rfl ?_
            refine JL.nil ?_
            refine QJ.then_normal ?_
            refine JC.ret ?_
            refine QJ.then_ret ?_
            obtain rfl := Option.some.inj hm
            exact QJ.body (vs := [.bool false]) (.inl rfl) rfl (ResVs.cons (ResV.tmp rfl) ResVs.nil) [] rfl rfl (.inr trivial) ⟨rfl, rfl⟩
        ·
          refine JL.mv (d := some 51) (MV.call (Lo := []) (Lr := [Asr.blk b17 47 [Seg.c (.int .i64 x1), Seg.c (.int .i64 x2), Seg.c (.int .i64 x3)], Asr.vw (Enc.int .u8) (s12.v) x13, Asr.vw (Enc.int .u8) (s14.v) x15, Asr.blk b18 49 [Seg.c (.int .i64 x6), Seg.c (.int .i64 x7), Seg.c (.int .i64 x8), Seg.c (.int .i64 x9), Seg.c (.int .i64 x10), Seg.c (.int .u8 x11), Seg.c (s12.v), Seg.c (s14.v)]]) (F29.spec (x1) (x2) (x3) _ hc28) rfl Try.func29 rfl rfl rfl [] [0, 1, 2, 3] rfl rfl rfl trivial) rfl rfl rfl ?_
          rintro _ _ ⟨_, ⟨b68, b69, b70, b71, rfl, rfl⟩, rfl⟩
          refine JL.val (v := .tuple #[.pointer (some ⟨b68, 0, none⟩), .int .i64 (0 : Int)]) (QV.move rfl) rfl rfl rfl ?_
          refine JL.val (v := .pointer (some ⟨b68, 0, none⟩)) (QV.extract (vs := [.pointer (some ⟨b68, 0, none⟩), .int .i64 (0 : Int)]) rfl rfl) rfl rfl rfl ?_
          refine JL.val (v := .int .i64 (0 : Int)) (QV.extract (vs := [.pointer (some ⟨b68, 0, none⟩), .int .i64 (0 : Int)]) rfl rfl) rfl rfl rfl ?_
          refine JL.val (v := .pointer (some ⟨b68, 0, none⟩)) (QV.assign rfl) rfl rfl rfl ?_
          refine JL.val (v := .int .i64 (0 : Int)) (QV.assign rfl) rfl rfl rfl ?_
          refine JL.nil ?_
          refine QJ.then_normal ?_
          refine JC.seq ?_
          refine JC.seq ?_
          refine JC.region ?_
          refine JL.val (v := .int .i64 (1 : Int)) (QV.move rfl) rfl rfl rfl ?_
          refine JL.val (v := .bool (!(decide ((1 : Int) = (0 : Int))))) (QV.neq rfl rfl) rfl rfl rfl ?_
          refine JL.nil ?_
          refine QJ.then_normal ?_
          rcases ite_inv hm with ⟨h72, hm⟩ | ⟨h72, hm⟩
          ·
            refine JC.condF' rfl (congrArg Bool.not (decide_eq_true h72)) ?_
            refine JC.skip ?_
            refine QJ.then_normal ?_
            refine JC.seq ?_
            refine JC.cutK (Y := Bool × Unit) (fun y => match y with | (d73, _) => F10.j5 x7 x8 x9 x10 x11 x13 (d73) = some r) (fun y => match y with | (d73, _) => [(7, .pointer (some ⟨b18, 0, none⟩)), (11, .pointer (some ⟨b68, 0, none⟩)), (12, .int .i64 (0 : Int)), (13, .bool d73)]) (fun y => match y with | (d73, _) => [Asr.vw (Enc.int .u8) (s12.v) x13, Asr.vw (Enc.int .u8) (s14.v) x15, Asr.blk b18 49 [Seg.c (.int .i64 x6), Seg.c (.int .i64 x7), Seg.c (.int .i64 x8), Seg.c (.int .i64 x9), Seg.c (.int .i64 x10), Seg.c (.int .u8 x11), Seg.c (s12.v), Seg.c (s14.v)], Asr.blk b69 134 [Seg.c (.pointer none), Seg.c (.int .i64 y30.1), Seg.c (.int .i64 y30.2.1)], Asr.blk b70 134 [Seg.c (.pointer none), Seg.c (.int .i64 y30.2.2.1), Seg.c (.int .i64 y30.2.2.2.1)], Asr.blk b71 134 [Seg.c (.pointer none), Seg.c (.int .i64 y30.2.2.2.2.1), Seg.c (.int .i64 y30.2.2.2.2.2)], Asr.blk b68 108 [Seg.c (.int .i64 x1), Seg.c (.int .i64 x2), Seg.c (.int .i64 x3), Seg.c (.pointer (some ⟨b69, 0, none⟩)), Seg.c (.pointer (some ⟨b70, 0, none⟩)), Seg.c (.pointer (some ⟨b71, 0, none⟩))]]) ?_ ?_
            ·
              rintro ⟨d73, ⟨⟩⟩ hm
              unfold F10.j5 at hm
              show QJ _ _ [(7, .pointer (some ⟨b18, 0, none⟩)), (11, .pointer (some ⟨b68, 0, none⟩)), (12, .int .i64 (0 : Int)), (13, .bool d73)] [Asr.vw (Enc.int .u8) (s12.v) x13, Asr.vw (Enc.int .u8) (s14.v) x15, Asr.blk b18 49 [Seg.c (.int .i64 x6), Seg.c (.int .i64 x7), Seg.c (.int .i64 x8), Seg.c (.int .i64 x9), Seg.c (.int .i64 x10), Seg.c (.int .u8 x11), Seg.c (s12.v), Seg.c (s14.v)], Asr.blk b69 134 [Seg.c (.pointer none), Seg.c (.int .i64 y30.1), Seg.c (.int .i64 y30.2.1)], Asr.blk b70 134 [Seg.c (.pointer none), Seg.c (.int .i64 y30.2.2.1), Seg.c (.int .i64 y30.2.2.2.1)], Asr.blk b71 134 [Seg.c (.pointer none), Seg.c (.int .i64 y30.2.2.2.2.1), Seg.c (.int .i64 y30.2.2.2.2.2)], Asr.blk b68 108 [Seg.c (.int .i64 x1), Seg.c (.int .i64 x2), Seg.c (.int .i64 x3), Seg.c (.pointer (some ⟨b69, 0, none⟩)), Seg.c (.pointer (some ⟨b70, 0, none⟩)), Seg.c (.pointer (some ⟨b71, 0, none⟩))]] _ _
              refine QJ.then_normal ?_
              refine JC.seq ?_
              refine JC.seq ?_
              refine JC.cutK (Y := Bool × Unit) (fun y => match y with | (d74, _) => F10.j6 x7 x8 x9 x10 x11 x13 (d74) = some r) (fun y => match y with | (d74, _) => [(7, .pointer (some ⟨b18, 0, none⟩)), (88, .bool d74)]) (fun y => match y with | (d74, _) => [Asr.vw (Enc.int .u8) (s12.v) x13, Asr.vw (Enc.int .u8) (s14.v) x15, Asr.blk b18 49 [Seg.c (.int .i64 x6), Seg.c (.int .i64 x7), Seg.c (.int .i64 x8), Seg.c (.int .i64 x9), Seg.c (.int .i64 x10), Seg.c (.int .u8 x11), Seg.c (s12.v), Seg.c (s14.v)]]) ?_ ?_
              ·
                rintro ⟨d74, ⟨⟩⟩ hm
                unfold F10.j6 at hm
                show QJ _ _ [(7, .pointer (some ⟨b18, 0, none⟩)), (88, .bool d74)] [Asr.vw (Enc.int .u8) (s12.v) x13, Asr.vw (Enc.int .u8) (s14.v) x15, Asr.blk b18 49 [Seg.c (.int .i64 x6), Seg.c (.int .i64 x7), Seg.c (.int .i64 x8), Seg.c (.int .i64 x9), Seg.c (.int .i64 x10), Seg.c (.int .u8 x11), Seg.c (s12.v), Seg.c (s14.v)]] _ _
                refine QJ.then_normal ?_
                rcases ite_inv hm with ⟨h75, hm⟩ | ⟨h75, hm⟩
                ·
                  refine JC.condT' rfl h75 ?_
                  refine JC.seq ?_
                  refine JC.region ?_
                  refine JL.val (v := .bool false) (QV.assign rfl) rfl rfl rfl ?_
                  refine JL.nil ?_
                  refine QJ.then_normal ?_
                  refine JC.ret ?_
                  refine QJ.then_ret ?_
                  obtain rfl := Option.some.inj hm
                  exact QJ.body (vs := [.bool false]) (.inl rfl) rfl (ResVs.cons (ResV.tmp rfl) ResVs.nil) [] rfl rfl (.inr trivial) ⟨rfl, rfl⟩
                ·
                  refine JC.condF' rfl (bfalse h75) ?_
                  refine JC.skip ?_
                  refine QJ.then_normal ?_
                  refine JC.seq ?_
                  refine JC.region ?_
                  refine JL.val (v := .pointer none) (QV.assign rfl) rfl rfl rfl ?_
                  refine JL.nil ?_
                  refine QJ.then_normal ?_
                  refine JC.seq ?_
                  refine JC.regionT [Asr.vw (Enc.int .u8) (s12.v) x13, Asr.vw (Enc.int .u8) (s14.v) x15, Asr.blk b18 49 [Seg.c (.int .i64 x6), Seg.c (.int .i64 x7), Seg.c (.int .i64 x8), Seg.c (.int .i64 x9), Seg.c (.int .i64 x10), Seg.c (.int .u8 x11), Seg.c (s12.v), Seg.c (s14.v)]] (fun t => false) [(0, true), (1, true), (2, true), (3, true), (4, true), (6, true), (7, true), (8, true), (9, true), (5, false), (10, false), (11, false), (12, true), (13, true), (14, false), (15, false)] (by kernel_rfl) (by kernel_rfl) (by kernel_rfl) rfl (fun hsel => ?_)
                  refine JT.take (i := 0) (v := .pointer none) hsel rfl (QV.move rfl) rfl rfl rfl rfl [0, 1, 2] rfl rfl ?_
                  refine JT.take (i := 1) (v := .pointer (some ⟨b18, 5, none⟩)) hsel rfl (QV.fieldB fo_49_5 rfl rfl) rfl rfl rfl rfl [0, 1, 2] rfl rfl ?_
                  refine JT.take (i := 2) (v := .int .u8 x11) hsel rfl (QV.load1 (ss := [Seg.c (.int .i64 x6), Seg.c (.int .i64 x7), Seg.c (.int .i64 x8), Seg.c (.int .i64 x9), Seg.c (.int .i64 x10), Seg.c (.int .u8 x11), Seg.c (s12.v), Seg.c (s14.v)]) 2 5 rfl tk_5 rfl rfl rfl) rfl rfl rfl rfl [0, 1, 2] rfl rfl ?_
                  refine JT.take (i := 3) (v := .pointer (some ⟨b18, 4, none⟩)) hsel rfl (QV.fieldB fo_49_4 rfl rfl) rfl rfl rfl rfl [0, 1, 2] rfl rfl ?_
                  refine JT.take (i := 4) (v := .int .i64 x10) hsel rfl (QV.load1 (ss := [Seg.c (.int .i64 x6), Seg.c (.int .i64 x7), Seg.c (.int .i64 x8), Seg.c (.int .i64 x9), Seg.c (.int .i64 x10), Seg.c (.int .u8 x11), Seg.c (s12.v), Seg.c (s14.v)]) 2 4 rfl tk_3 rfl rfl rfl) rfl rfl rfl rfl [0, 1, 2] rfl rfl ?_
                  refine JT.take (i := 6) (v := .pointer (some ⟨b18, 2, none⟩)) hsel rfl (QV.fieldB fo_49_2 rfl rfl) rfl rfl rfl rfl [0, 1, 2] rfl rfl ?_
                  refine JT.take (i := 7) (v := .int .i64 x8) hsel rfl (QV.load1 (ss := [Seg.c (.int .i64 x6), Seg.c (.int .i64 x7), Seg.c (.int .i64 x8), Seg.c (.int .i64 x9), Seg.c (.int .i64 x10), Seg.c (.int .u8 x11), Seg.c (s12.v), Seg.c (s14.v)]) 2 2 rfl tk_3 rfl rfl rfl) rfl rfl rfl rfl [0, 1, 2] rfl rfl ?_
                  refine JT.take (i := 8) (v := .pointer (some ⟨b18, 3, none⟩)) hsel rfl (QV.fieldB fo_49_3 rfl rfl) rfl rfl rfl rfl [0, 1, 2] rfl rfl ?_
                  refine JT.take (i := 9) (v := .int .i64 x9) hsel rfl (QV.load1 (ss := [Seg.c (.int .i64 x6), Seg.c (.int .i64 x7), Seg.c (.int .i64 x8), Seg.c (.int .i64 x9), Seg.c (.int .i64 x10), Seg.c (.int .u8 x11), Seg.c (s12.v), Seg.c (s14.v)]) 2 3 rfl tk_3 rfl rfl rfl) rfl rfl rfl rfl [0, 1, 2] rfl rfl ?_
                  obtain ⟨y76, hc77, hm⟩ := bind_inv hm
                  refine JT.only (i := 5) (d := some 95) rfl (MV.call (Lo := []) (Lr := [Asr.vw (Enc.int .u8) (s12.v) x13, Asr.vw (Enc.int .u8) (s14.v) x15, Asr.blk b18 49 [Seg.c (.int .i64 x6), Seg.c (.int .i64 x7), Seg.c (.int .i64 x8), Seg.c (.int .i64 x9), Seg.c (.int .i64 x10), Seg.c (.int .u8 x11), Seg.c (s12.v), Seg.c (s14.v)]]) (F32.spec (x11) (x10) _ hc77) rfl Try.func32 rfl rfl rfl [] [0, 1, 2] rfl rfl rfl trivial) rfl rfl rfl ?_
                  rintro _ _ ⟨_, ⟨rfl, rfl⟩, rfl⟩
                  refine ⟨fun _ => ⟨[0, 1, 2], rfl, rfl⟩, ?_⟩
                  obtain ⟨y78, hc79, hm⟩ := bind_inv hm
                  refine JT.only (i := 10) (d := some 100) rfl (MV.call (Lo := []) (Lr := [Asr.vw (Enc.int .u8) (s12.v) x13, Asr.vw (Enc.int .u8) (s14.v) x15, Asr.blk b18 49 [Seg.c (.int .i64 x6), Seg.c (.int .i64 x7), Seg.c (.int .i64 x8), Seg.c (.int .i64 x9), Seg.c (.int .i64 x10), Seg.c (.int .u8 x11), Seg.c (s12.v), Seg.c (s14.v)]]) (F33.spec (x8) (x9) _ hc79) rfl Try.func33 rfl rfl rfl [] [0, 1, 2] rfl rfl rfl trivial) rfl rfl rfl ?_
                  rintro _ _ ⟨_, ⟨rfl, rfl⟩, rfl⟩
                  refine ⟨fun _ => ⟨[1, 2, 3], rfl, rfl⟩, ?_⟩
                  refine JT.grow [Asr.of 5 (Enc.int .u8) (SlV.nil.v) ([] : List Int), Asr.vw (Enc.int .u8) (s12.v) x13, Asr.vw (Enc.int .u8) (s14.v) x15, Asr.blk b18 49 [Seg.c (.int .i64 x6), Seg.c (.int .i64 x7), Seg.c (.int .i64 x8), Seg.c (.int .i64 x9), Seg.c (.int .i64 x10), Seg.c (.int .u8 x11), Seg.c (s12.v), Seg.c (s14.v)]] [1, 2, 3] rfl rfl ?_
                  refine JT.only (i := 11) (d := some 89) rfl (MV.ofQV (v := .tuple #[SlV.nil.v, .int .i64 (5 : Int)]) (QV.move rfl)) rfl rfl rfl ?_
                  rintro _ _ ⟨rfl, rfl⟩
                  refine ⟨fun _ => ⟨[0, 1, 2, 3], rfl, rfl⟩, ?_⟩
                  refine JT.take (i := 12) (v := SlV.nil.v) hsel rfl (QV.extract (vs := [SlV.nil.v, .int .i64 (5 : Int)]) rfl rfl) rfl rfl rfl rfl [0, 1, 2, 3] rfl rfl ?_
                  refine JT.take (i := 13) (v := .int .i64 (5 : Int)) hsel rfl (QV.extract (vs := [SlV.nil.v, .int .i64 (5 : Int)]) rfl rfl) rfl rfl rfl rfl [0, 1, 2, 3] rfl rfl ?_
                  refine JT.only (i := 14) (d := some 15) rfl (MV.ofQV (v := SlV.nil.v) (QV.assign rfl)) rfl rfl rfl ?_
                  rintro _ _ ⟨rfl, rfl⟩
                  refine ⟨fun _ => ⟨[0, 1, 2, 3], rfl, rfl⟩, ?_⟩
                  refine JT.only (i := 15) (d := some 16) rfl (MV.ofQV (v := .int .i64 (5 : Int)) (QV.assign rfl)) rfl rfl rfl ?_
                  rintro _ _ ⟨rfl, rfl⟩
                  refine ⟨fun _ => ⟨[0, 1, 2, 3], rfl, rfl⟩, ?_⟩
                  refine JT.nil ?_
                  refine QJ.then_normal ?_
                  refine JC.seq ?_
                  refine JC.region ?_
                  refine JL.val (v := .pointer none) (QV.move rfl) rfl rfl rfl ?_
                  refine JL.val (v := .pointer (some ⟨b18, 5, none⟩)) (QV.fieldB fo_49_5 rfl rfl) rfl rfl rfl ?_
                  refine JL.val (v := .int .u8 x11) (QV.load1 (ss := [Seg.c (.int .i64 x6), Seg.c (.int .i64 x7), Seg.c (.int .i64 x8), Seg.c (.int .i64 x9), Seg.c (.int .i64 x10), Seg.c (.int .u8 x11), Seg.c (s12.v), Seg.c (s14.v)]) 3 5 rfl tk_5 rfl rfl rfl) rfl rfl rfl ?_
                  refine JL.val (v := .pointer (some ⟨b18, 3, none⟩)) (QV.fieldB fo_49_3 rfl rfl) rfl rfl rfl ?_
                  refine JL.val (v := .int .i64 x9) (QV.load1 (ss := [Seg.c (.int .i64 x6), Seg.c (.int .i64 x7), Seg.c (.int .i64 x8), Seg.c (.int .i64 x9), Seg.c (.int .i64 x10), Seg.c (.int .u8 x11), Seg.c (s12.v), Seg.c (s14.v)]) 3 3 rfl tk_3 rfl rfl rfl) rfl rfl rfl ?_
                  obtain ⟨y80, hc81, hm⟩ := bind_inv hm
                  refine JL.mv (d := some 109) (MV.call (Lo := []) (Lr := [Asr.of 5 (Enc.int .u8) (SlV.nil.v) ([] : List Int), Asr.vw (Enc.int .u8) (s12.v) x13, Asr.vw (Enc.int .u8) (s14.v) x15, Asr.blk b18 49 [Seg.c (.int .i64 x6), Seg.c (.int .i64 x7), Seg.c (.int .i64 x8), Seg.c (.int .i64 x9), Seg.c (.int .i64 x10), Seg.c (.int .u8 x11), Seg.c (s12.v), Seg.c (s14.v)]]) (F34.spec (x11) (x9) _ hc81) rfl Try.func34 rfl rfl rfl [] [0, 1, 2, 3] rfl rfl rfl trivial) rfl rfl rfl ?_
                  rintro _ _ ⟨_, ⟨rfl, rfl⟩, rfl⟩
                  refine JL.val (v := .tuple #[.agg (((Enc.arr 32 (Enc.int .u8))).enc y80).toArray, .int .i64 (1 : Int)]) (QV.move rfl) rfl rfl rfl ?_
                  refine JL.val (v := .agg (((Enc.arr 32 (Enc.int .u8))).enc y80).toArray) (QV.extract (vs := [.agg (((Enc.arr 32 (Enc.int .u8))).enc y80).toArray, .int .i64 (1 : Int)]) rfl rfl) rfl rfl rfl ?_
                  refine JL.val (v := .int .i64 (1 : Int)) (QV.extract (vs := [.agg (((Enc.arr 32 (Enc.int .u8))).enc y80).toArray, .int .i64 (1 : Int)]) rfl rfl) rfl rfl rfl ?_
                  refine JL.mv (d := some 17) (MV.alloc [Seg.of (Enc.arr 32 (Enc.int .u8)) (Arr.rep 32 (0 : Int))] z_67 rfl) rfl rfl rfl ?_
                  rintro _ _ ⟨b82, rfl, rfl⟩
                  refine JL.mv (d := none) (MV.store (ss := [Seg.of (Enc.arr 32 (Enc.int .u8)) (Arr.rep 32 (0 : Int))]) 0 0 1 [Seg.of (Enc.arr 32 (Enc.int .u8)) y80] rfl tk_67 rfl rfl rfl rfl (fun w hs => ⟨rfl, one_of _ _, trivial⟩)) rfl rfl rfl ?_
                  rintro _ _ ⟨rfl, rfl⟩
                  refine JL.val (v := .int .i64 (1 : Int)) (QV.assign rfl) rfl rfl rfl ?_
                  refine JL.nil ?_
                  refine QJ.then_normal ?_
                  refine JC.seq ?_
                  refine JC.region ?_
                  refine JL.val (v := .pointer none) (QV.move rfl) rfl rfl rfl ?_
                  refine JL.val (v := .pointer (some ⟨b18, 3, none⟩)) (QV.fieldB fo_49_3 rfl rfl) rfl rfl rfl ?_
                  refine JL.val (v := .int .i64 x9) (QV.load1 (ss := [Seg.c (.int .i64 x6), Seg.c (.int .i64 x7), Seg.c (.int .i64 x8), Seg.c (.int .i64 x9), Seg.c (.int .i64 x10), Seg.c (.int .u8 x11), Seg.c (s12.v), Seg.c (s14.v)]) 4 3 rfl tk_3 rfl rfl rfl) rfl rfl rfl ?_
                  obtain ⟨y83, hc84, hm⟩ := bind_inv hm
                  refine JL.mv (d := some 116) (MV.call (Lo := []) (Lr := [Asr.blk b82 67 [Seg.of (Enc.arr 32 (Enc.int .u8)) y80], Asr.of 5 (Enc.int .u8) (SlV.nil.v) ([] : List Int), Asr.vw (Enc.int .u8) (s12.v) x13, Asr.vw (Enc.int .u8) (s14.v) x15, Asr.blk b18 49 [Seg.c (.int .i64 x6), Seg.c (.int .i64 x7), Seg.c (.int .i64 x8), Seg.c (.int .i64 x9), Seg.c (.int .i64 x10), Seg.c (.int .u8 x11), Seg.c (s12.v), Seg.c (s14.v)]]) (F35.spec (x9) _ hc84) rfl Try.func35 rfl rfl rfl [] [0, 1, 2, 3, 4] rfl rfl rfl trivial) rfl rfl rfl ?_
                  rintro _ _ ⟨_, ⟨rfl, rfl⟩, rfl⟩
                  refine JL.val (v := .tuple #[SlV.nil.v, .int .i64 (1 : Int)]) (QV.move rfl) rfl rfl rfl ?_
                  refine JL.val (v := SlV.nil.v) (QV.extract (vs := [SlV.nil.v, .int .i64 (1 : Int)]) rfl rfl) rfl rfl rfl ?_
                  refine JL.val (v := .int .i64 (1 : Int)) (QV.extract (vs := [SlV.nil.v, .int .i64 (1 : Int)]) rfl rfl) rfl rfl rfl ?_
                  refine JL.val (v := SlV.nil.v) (QV.assign rfl) rfl rfl rfl ?_
                  refine JL.val (v := .int .i64 (1 : Int)) (QV.assign rfl) rfl rfl rfl ?_
                  refine JL.nil ?_
                  refine QJ.then_normal ?_
                  refine JC.seq ?_
                  refine JC.cutK (Y := Bool × Unit) (fun y => match y with | (d85, _) => F10.j7 (d85) = some r) (fun y => match y with | (d85, _) => [(8, .bool d85)]) (fun y => match y with | (d85, _) => []) ?_ ?_
                  ·
                    rintro ⟨d85, ⟨⟩⟩ hm
                    unfold F10.j7 at hm
                    show QJ _ _ [(8, .bool d85)] [] _ _
                    refine QJ.then_normal ?_
                    refine JC.ret ?_
                    obtain rfl := Option.some.inj hm
                    exact QJ.body (vs := [.bool d85]) (.inl rfl) rfl (ResVs.cons (ResV.tmp rfl) ResVs.nil) [] rfl rfl (.inr trivial) ⟨rfl, rfl⟩
                  ·
                    refine JC.region ?_
                    refine JL.val (v := .int .i64 (5 : Int)) (QV.move rfl) rfl rfl rfl ?_
                    refine JL.val (v := .bool (decide ((5 : Int) = (5 : Int)))) (QV.eql rfl rfl) rfl rfl rfl ?_
                    rcases ite_inv hm with ⟨h86, hm⟩ | ⟨h86, hm⟩
                    ·
                      refine JL.val (v := .bool true) (QV.eq (QV.move rfl) (congrArg Value.bool (decide_eq_true h86))) rfl rfl rfl ?_
                      refine JL.val (v := .int .i64 (1 : Int)) (QV.move rfl) rfl rfl rfl ?_
                      refine JL.val (v := .bool (decide ((1 : Int) = (1 : Int)))) (QV.eql rfl rfl) rfl rfl rfl ?_
                      refine JL.val (v := .bool (decide ((1 : Int) = (1 : Int)))) (QV.pickT rfl rfl) rfl rfl rfl ?_
                      rcases ite_inv hm with ⟨h87, hm⟩ | ⟨h87, hm⟩
                      ·
                        refine JL.val (v := .bool true) (QV.eq (QV.move rfl) (congrArg Value.bool (decide_eq_true h87))) rfl rfl rfl ?_
                        refine JL.val (v := .int .i64 (1 : Int)) (QV.move rfl) rfl rfl rfl ?_
                        refine JL.val (v := .bool (decide ((1 : Int) = (1 : Int)))) (QV.eql rfl rfl) rfl rfl rfl ?_
                        refine JL.val (v := .bool (decide ((1 : Int) = (1 : Int)))) (QV.pickT rfl rfl) rfl rfl rfl ?_
                        rcases ite_inv hm with ⟨h88, hm⟩ | ⟨h88, hm⟩
                        ·
                          refine JL.val (v := .bool true) (QV.eq (QV.move rfl) (congrArg Value.bool (decide_eq_true h88))) rfl rfl rfl ?_
                          refine JL.val (v := .pointer none) (QV.move rfl) rfl rfl rfl ?_
                          refine JL.val (v := .pointer (some ⟨b18, 5, none⟩)) (QV.fieldB fo_49_5 rfl rfl) rfl rfl rfl ?_
                          refine JL.val (v := .int .u8 x11) (QV.load1 (ss := [Seg.c (.int .i64 x6), Seg.c (.int .i64 x7), Seg.c (.int .i64 x8), Seg.c (.int .i64 x9), Seg.c (.int .i64 x10), Seg.c (.int .u8 x11), Seg.c (s12.v), Seg.c (s14.v)]) 5 5 rfl tk_5 rfl rfl rfl) rfl rfl rfl ?_
                          refine JL.val (v := .pointer (some ⟨b18, 1, none⟩)) (QV.fieldB fo_49_1 rfl rfl) rfl rfl rfl ?_
                          refine JL.val (v := .int .i64 x7) (QV.load1 (ss := [Seg.c (.int .i64 x6), Seg.c (.int .i64 x7), Seg.c (.int .i64 x8), Seg.c (.int .i64 x9), Seg.c (.int .i64 x10), Seg.c (.int .u8 x11), Seg.c (s12.v), Seg.c (s14.v)]) 5 1 rfl tk_3 rfl rfl rfl) rfl rfl rfl ?_
                          refine JL.val (v := .pointer (some ⟨b18, 6, none⟩)) (QV.fieldB fo_49_6 rfl rfl) rfl rfl rfl ?_
                          refine JL.val (v := s12.v) (QV.load1 (ss := [Seg.c (.int .i64 x6), Seg.c (.int .i64 x7), Seg.c (.int .i64 x8), Seg.c (.int .i64 x9), Seg.c (.int .i64 x10), Seg.c (.int .u8 x11), Seg.c (s12.v), Seg.c (s14.v)]) 5 6 rfl tk_34 rfl rfl rfl) rfl rfl rfl ?_
                          obtain ⟨y89, hc90, hm⟩ := bind_inv hm
                          refine JL.mv (d := some 137) (MV.call (Lo := []) (Lr := [Asr.of 5 (Enc.int .u8) (SlV.nil.v) ([] : List Int), Asr.blk b82 67 [Seg.of (Enc.arr 32 (Enc.int .u8)) y80], Asr.of 5 (Enc.int .u8) (SlV.nil.v) ([] : List Int), Asr.vw (Enc.int .u8) (s12.v) x13, Asr.vw (Enc.int .u8) (s14.v) x15, Asr.blk b18 49 [Seg.c (.int .i64 x6), Seg.c (.int .i64 x7), Seg.c (.int .i64 x8), Seg.c (.int .i64 x9), Seg.c (.int .i64 x10), Seg.c (.int .u8 x11), Seg.c (s12.v), Seg.c (s14.v)]]) (F36.spec (s12) (x11) (x7) (x13) _ hc90) rfl Try.func36 rfl rfl rfl [] [0, 1, 2, 3, 4, 5] rfl rfl rfl ⟨(Drv.vw 3 rfl), trivial⟩) rfl rfl rfl ?_
                          rintro _ _ ⟨_, ⟨rfl, rfl⟩, rfl⟩
                          refine JL.val (v := .bool (decide ((1 : Int) = (1 : Int)))) (QV.eql rfl rfl) rfl rfl rfl ?_
                          refine JL.val (v := .bool (decide ((1 : Int) = (1 : Int)))) (QV.pickT rfl rfl) rfl rfl rfl ?_
                          rcases ite_inv hm with ⟨h91, hm⟩ | ⟨h91, hm⟩
                          ·
                            refine JL.val (v := .bool true) (QV.eq (QV.move rfl) (congrArg Value.bool (decide_eq_true h91))) rfl rfl rfl ?_
                            refine JL.val (v := .pointer none) (QV.move rfl) rfl rfl rfl ?_
                            refine JL.val (v := .pointer (some ⟨b18, 6, none⟩)) (QV.fieldB fo_49_6 rfl rfl) rfl rfl rfl ?_
                            refine JL.val (v := s12.v) (QV.load1 (ss := [Seg.c (.int .i64 x6), Seg.c (.int .i64 x7), Seg.c (.int .i64 x8), Seg.c (.int .i64 x9), Seg.c (.int .i64 x10), Seg.c (.int .u8 x11), Seg.c (s12.v), Seg.c (s14.v)]) 5 6 rfl tk_34 rfl rfl rfl) rfl rfl rfl ?_
                            obtain ⟨y92, hc93, hm⟩ := bind_inv hm
                            refine JL.mv (d := some 144) (MV.call (Lo := []) (Lr := [Asr.of 5 (Enc.int .u8) (SlV.nil.v) ([] : List Int), Asr.blk b82 67 [Seg.of (Enc.arr 32 (Enc.int .u8)) y80], Asr.of 5 (Enc.int .u8) (SlV.nil.v) ([] : List Int), Asr.vw (Enc.int .u8) (s12.v) x13, Asr.vw (Enc.int .u8) (s14.v) x15, Asr.blk b18 49 [Seg.c (.int .i64 x6), Seg.c (.int .i64 x7), Seg.c (.int .i64 x8), Seg.c (.int .i64 x9), Seg.c (.int .i64 x10), Seg.c (.int .u8 x11), Seg.c (s12.v), Seg.c (s14.v)]]) (F37.spec (s12) (x13) _ hc93) rfl Try.func37 rfl rfl rfl [] [0, 1, 2, 3, 4, 5] rfl rfl rfl ⟨(Drv.vw 3 rfl), trivial⟩) rfl rfl rfl ?_
                            rintro _ _ ⟨_, ⟨rfl, rfl⟩, rfl⟩
                            refine JL.val (v := .bool (decide ((1 : Int) = (1 : Int)))) (QV.eql rfl rfl) rfl rfl rfl ?_
                            refine JL.val (v := .bool (decide ((1 : Int) = (1 : Int)))) (QV.pickT rfl rfl) rfl rfl rfl ?_
                            rcases ite_inv hm with ⟨h94, hm⟩ | ⟨h94, hm⟩
                            ·
                              refine JL.val (v := .bool true) (QV.eq (QV.move rfl) (congrArg Value.bool (decide_eq_true h94))) rfl rfl rfl ?_
                              refine JL.val (v := .pointer none) (QV.move rfl) rfl rfl rfl ?_
                              obtain ⟨y95, hc96, hm⟩ := bind_inv hm
                              refine JL.mv (d := some 149) (MV.call (Lo := []) (Lr := [Asr.of 5 (Enc.int .u8) (SlV.nil.v) ([] : List Int), Asr.blk b82 67 [Seg.of (Enc.arr 32 (Enc.int .u8)) y80], Asr.of 5 (Enc.int .u8) (SlV.nil.v) ([] : List Int), Asr.vw (Enc.int .u8) (s12.v) x13, Asr.vw (Enc.int .u8) (s14.v) x15, Asr.blk b18 49 [Seg.c (.int .i64 x6), Seg.c (.int .i64 x7), Seg.c (.int .i64 x8), Seg.c (.int .i64 x9), Seg.c (.int .i64 x10), Seg.c (.int .u8 x11), Seg.c (s12.v), Seg.c (s14.v)]]) (F38_2.spec _ hc96) rfl Try.func38 rfl rfl rfl [] [0, 1, 2, 3, 4, 5] rfl rfl rfl trivial) rfl rfl rfl ?_
                              rintro _ _ ⟨_, ⟨rfl, rfl⟩, rfl⟩
                              refine JL.val (v := .bool (decide ((0 : Int) = (0 : Int)))) (QV.eql rfl rfl) rfl rfl rfl ?_
                              refine JL.val (v := .bool (decide ((0 : Int) = (0 : Int)))) (QV.pickT rfl rfl) rfl rfl rfl ?_
                              rcases ite_inv hm with ⟨h97, hm⟩ | ⟨h97, hm⟩
                              ·
                                refine JL.val (v := .bool true) (QV.eq (QV.move rfl) (congrArg Value.bool (decide_eq_true h97))) rfl rfl rfl ?_
                                obtain ⟨y98, hc99, hm⟩ := bind_inv hm
                                refine JL.mv (d := some 153) (MV.call (Lo := []) (Lr := [Asr.of 5 (Enc.int .u8) (SlV.nil.v) ([] : List Int), Asr.blk b82 67 [Seg.of (Enc.arr 32 (Enc.int .u8)) y80], Asr.of 5 (Enc.int .u8) (SlV.nil.v) ([] : List Int), Asr.vw (Enc.int .u8) (s12.v) x13, Asr.vw (Enc.int .u8) (s14.v) x15, Asr.blk b18 49 [Seg.c (.int .i64 x6), Seg.c (.int .i64 x7), Seg.c (.int .i64 x8), Seg.c (.int .i64 x9), Seg.c (.int .i64 x10), Seg.c (.int .u8 x11), Seg.c (s12.v), Seg.c (s14.v)]]) (F27.spec _ hc99) rfl Try.func27 rfl rfl rfl [] [0, 1, 2, 3, 4, 5] rfl rfl rfl trivial) rfl rfl rfl ?_
                                rintro _ _ ⟨_, ⟨rfl, rfl⟩, rfl⟩
                                refine JL.val (v := .bool y98) (QV.pickT rfl rfl) rfl rfl rfl ?_
                                refine JL.val (v := .bool y98) (QV.assign rfl) rfl rfl rfl ?_
                                refine JL.nil ?_
                                exact QJ.cut_normal (y98, ()) hm [] (by exact ⟨rfl, trivial⟩) rfl rfl
                              ·
                                refine JL.val (v := .bool false) (QV.eq (QV.move rfl) (congrArg Value.bool (decide_eq_false h97))) rfl rfl rfl ?_
                                refine JL.skip (d := some 153) rfl rfl rfl ?_
                                refine JL.val (v := .bool false) (QV.pickF rfl rfl) rfl rfl rfl ?_
                                refine JL.val (v := .bool false) (QV.assign rfl) rfl rfl rfl ?_
                                refine JL.nil ?_
                                exact QJ.cut_normal (false, ()) hm [] (by exact ⟨rfl, trivial⟩) rfl rfl
                            ·
                              refine JL.val (v := .bool false) (QV.eq (QV.move rfl) (congrArg Value.bool (decide_eq_false h94))) rfl rfl rfl ?_
                              refine JL.skip (d := some 148) rfl rfl rfl ?_
                              refine JL.skip (d := some 149) rfl rfl rfl ?_
                              refine JL.skip (d := some 150) rfl rfl rfl ?_
                              refine JL.val (v := .bool false) (QV.pickF rfl rfl) rfl rfl rfl ?_
                              refine JL.val (v := .bool false) (QV.move rfl) rfl rfl rfl ?_
                              refine JL.skip (d := some 153) rfl rfl rfl ?_
                              refine JL.val (v := .bool false) (QV.pickF rfl rfl) rfl rfl rfl ?_
                              refine JL.val (v := .bool false) (QV.assign rfl) rfl rfl rfl ?_
                              refine JL.nil ?_
                              exact QJ.cut_normal (false, ()) hm [] (by exact ⟨rfl, trivial⟩) rfl rfl
                          ·
                            refine JL.val (v := .bool false) (QV.eq (QV.move rfl) (congrArg Value.bool (decide_eq_false h91))) rfl rfl rfl ?_
                            refine JL.skip (d := some 141) rfl rfl rfl ?_
                            refine JL.skip (d := some 142) rfl rfl rfl ?_
                            refine JL.skip (d := some 143) rfl rfl rfl ?_
                            refine JL.skip (d := some 144) rfl rfl rfl ?_
                            refine JL.skip (d := some 145) rfl rfl rfl ?_
                            refine JL.val (v := .bool false) (QV.pickF rfl rfl) rfl rfl rfl ?_
                            refine JL.val (v := .bool false) (QV.move rfl) rfl rfl rfl ?_
                            refine JL.skip (d := some 148) rfl rfl rfl ?_
                            refine JL.skip (d := some 149) rfl rfl rfl ?_
                            refine JL.skip (d := some 150) rfl rfl rfl ?_
                            refine JL.val (v := .bool false) (QV.pickF rfl rfl) rfl rfl rfl ?_
                            refine JL.val (v := .bool false) (QV.move rfl) rfl rfl rfl ?_
                            refine JL.skip (d := some 153) rfl rfl rfl ?_
                            refine JL.val (v := .bool false) (QV.pickF rfl rfl) rfl rfl rfl ?_
                            refine JL.val (v := .bool false) (QV.assign rfl) rfl rfl rfl ?_
                            refine JL.nil ?_
                            exact QJ.cut_normal (false, ()) hm [] (by exact ⟨rfl, trivial⟩) rfl rfl
                        ·
                          refine JL.val (v := .bool false) (QV.eq (QV.move rfl) (congrArg Value.bool (decide_eq_false h88))) rfl rfl rfl ?_
                          refine JL.skip (d := some 130) rfl rfl rfl ?_
                          refine JL.skip (d := some 131) rfl rfl rfl ?_
                          refine JL.skip (d := some 132) rfl rfl rfl ?_
                          refine JL.skip (d := some 133) rfl rfl rfl ?_
                          refine JL.skip (d := some 134) rfl rfl rfl ?_
                          refine JL.skip (d := some 135) rfl rfl rfl ?_
                          refine JL.skip (d := some 136) rfl rfl rfl ?_
                          refine JL.skip (d := some 137) rfl rfl rfl ?_
                          refine JL.skip (d := some 138) rfl rfl rfl ?_
                          refine JL.val (v := .bool false) (QV.pickF rfl rfl) rfl rfl rfl ?_
                          refine JL.val (v := .bool false) (QV.move rfl) rfl rfl rfl ?_
                          refine JL.skip (d := some 141) rfl rfl rfl ?_
                          refine JL.skip (d := some 142) rfl rfl rfl ?_
                          refine JL.skip (d := some 143) rfl rfl rfl ?_
                          refine JL.skip (d := some 144) rfl rfl rfl ?_
                          refine JL.skip (d := some 145) rfl rfl rfl ?_
                          refine JL.val (v := .bool false) (QV.pickF rfl rfl) rfl rfl rfl ?_
                          refine JL.val (v := .bool false) (QV.move rfl) rfl rfl rfl ?_
                          refine JL.skip (d := some 148) rfl rfl rfl ?_
                          refine JL.skip (d := some 149) rfl rfl rfl ?_
                          refine JL.skip (d := some 150) rfl rfl rfl ?_
                          refine JL.val (v := .bool false) (QV.pickF rfl rfl) rfl rfl rfl ?_
                          refine JL.val (v := .bool false) (QV.move rfl) rfl rfl rfl ?_
                          refine JL.skip (d := some 153) rfl rfl rfl ?_
                          refine JL.val (v := .bool false) (QV.pickF rfl rfl) rfl rfl rfl ?_
                          refine JL.val (v := .bool false) (QV.assign rfl) rfl rfl rfl ?_
                          refine JL.nil ?_
                          exact QJ.cut_normal (false, ()) hm [] (by exact ⟨rfl, trivial⟩) rfl rfl
                      ·
                        refine JL.val (v := .bool false) (QV.eq (QV.move rfl) (congrArg Value.bool (decide_eq_false h87))) rfl rfl rfl ?_
                        refine JL.skip (d := some 126) rfl rfl rfl ?_
                        refine JL.skip (d := some 127) rfl rfl rfl ?_
                        refine JL.val (v := .bool false) (QV.pickF rfl rfl) rfl rfl rfl ?_
                        refine JL.val (v := .bool false) (QV.move rfl) rfl rfl rfl ?_
                        refine JL.skip (d := some 130) rfl rfl rfl ?_
                        refine JL.skip (d := some 131) rfl rfl rfl ?_
                        refine JL.skip (d := some 132) rfl rfl rfl ?_
                        refine JL.skip (d := some 133) rfl rfl rfl ?_
                        refine JL.skip (d := some 134) rfl rfl rfl ?_
                        refine JL.skip (d := some 135) rfl rfl rfl ?_
                        refine JL.skip (d := some 136) rfl rfl rfl ?_
                        refine JL.skip (d := some 137) rfl rfl rfl ?_
                        refine JL.skip (d := some 138) rfl rfl rfl ?_
                        refine JL.val (v := .bool false) (QV.pickF rfl rfl) rfl rfl rfl ?_
                        refine JL.val (v := .bool false) (QV.move rfl) rfl rfl rfl ?_
                        refine JL.skip (d := some 141) rfl rfl rfl ?_
                        refine JL.skip (d := some 142) rfl rfl rfl ?_
                        refine JL.skip (d := some 143) rfl rfl rfl ?_
                        refine JL.skip (d := some 144) rfl rfl rfl ?_
                        refine JL.skip (d := some 145) rfl rfl rfl ?_
                        refine JL.val (v := .bool false) (QV.pickF rfl rfl) rfl rfl rfl ?_
                        refine JL.val (v := .bool false) (QV.move rfl) rfl rfl rfl ?_
                        refine JL.skip (d := some 148) rfl rfl rfl ?_
                        refine JL.skip (d := some 149) rfl rfl rfl ?_
                        refine JL.skip (d := some 150) rfl rfl rfl ?_
                        refine JL.val (v := .bool false) (QV.pickF rfl rfl) rfl rfl rfl ?_
                        refine JL.val (v := .bool false) (QV.move rfl) rfl rfl rfl ?_
                        refine JL.skip (d := some 153) rfl rfl rfl ?_
                        refine JL.val (v := .bool false) (QV.pickF rfl rfl) rfl rfl rfl ?_
                        refine JL.val (v := .bool false) (QV.assign rfl) rfl rfl rfl ?_
                        refine JL.nil ?_
                        exact QJ.cut_normal (false, ()) hm [] (by exact ⟨rfl, trivial⟩) rfl rfl
                    ·
                      refine JL.val (v := .bool false) (QV.eq (QV.move rfl) (congrArg Value.bool (decide_eq_false h86))) rfl rfl rfl ?_
                      refine JL.skip (d := some 122) rfl rfl rfl ?_
                      refine JL.skip (d := some 123) rfl rfl rfl ?_
                      refine JL.val (v := .bool false) (QV.pickF rfl rfl) rfl rfl rfl ?_
                      refine JL.val (v := .bool false) (QV.move rfl) rfl rfl rfl ?_
                      refine JL.skip (d := some 126) rfl rfl rfl ?_
                      refine JL.skip (d := some 127) rfl rfl rfl ?_
                      refine JL.val (v := .bool false) (QV.pickF rfl rfl) rfl rfl rfl ?_
                      refine JL.val (v := .bool false) (QV.move rfl) rfl rfl rfl ?_
                      refine JL.skip (d := some 130) rfl rfl rfl ?_
                      refine JL.skip (d := some 131) rfl rfl rfl ?_
                      refine JL.skip (d := some 132) rfl rfl rfl ?_
                      refine JL.skip (d := some 133) rfl rfl rfl ?_
                      refine JL.skip (d := some 134) rfl rfl rfl ?_
                      refine JL.skip (d := some 135) rfl rfl rfl ?_
                      refine JL.skip (d := some 136) rfl rfl rfl ?_
                      refine JL.skip (d := some 137) rfl rfl rfl ?_
                      refine JL.skip (d := some 138) rfl rfl rfl ?_
                      refine JL.val (v := .bool false) (QV.pickF rfl rfl) rfl rfl rfl ?_
                      refine JL.val (v := .bool false) (QV.move rfl) rfl rfl rfl ?_
                      refine JL.skip (d := some 141) rfl rfl rfl ?_
                      refine JL.skip (d := some 142) rfl rfl rfl ?_
                      refine JL.skip (d := some 143) rfl rfl rfl ?_
                      refine JL.skip (d := some 144) rfl rfl rfl ?_
                      refine JL.skip (d := some 145) rfl rfl rfl ?_
                      refine JL.val (v := .bool false) (QV.pickF rfl rfl) rfl rfl rfl ?_
                      refine JL.val (v := .bool false) (QV.move rfl) rfl rfl rfl ?_
                      refine JL.skip (d := some 148) rfl rfl rfl ?_
                      refine JL.skip (d := some 149) rfl rfl rfl ?_
                      refine JL.skip (d := some 150) rfl rfl rfl ?_
                      refine JL.val (v := .bool false) (QV.pickF rfl rfl) rfl rfl rfl ?_
                      refine JL.val (v := .bool false) (QV.move rfl) rfl rfl rfl ?_
                      refine JL.skip (d := some 153) rfl rfl rfl ?_
                      refine JL.val (v := .bool false) (QV.pickF rfl rfl) rfl rfl rfl ?_
                      refine JL.val (v := .bool false) (QV.assign rfl) rfl rfl rfl ?_
                      refine JL.nil ?_
                      exact QJ.cut_normal (false, ()) hm [] (by exact ⟨rfl, trivial⟩) rfl rfl
              ·
                refine JC.region ?_
                refine JL.val (v := .pointer (some ⟨b68, 0, none⟩)) (QV.move rfl) rfl rfl rfl ?_
                refine JL.val (v := .bool true) ((QV.eq (QV.neqP Try.underlying53 rfl rfl (.inr rfl)) (by simp))) rfl rfl rfl ?_
                refine JL.val (v := .bool d73) (QV.move rfl) rfl rfl rfl ?_
                refine JL.val (v := .bool (!(true == d73))) (QV.neqB Try.underlying4 rfl rfl) rfl rfl rfl ?_
                rcases ite_inv hm with ⟨h100, hm⟩ | ⟨h100, hm⟩
                ·
                  refine JL.val (v := .bool false) (QV.eq (QV.move rfl) (congrArg Value.bool (congrArg Bool.not h100))) rfl rfl rfl ?_
                  refine JL.val (v := .bool d73) (QV.move rfl) rfl rfl rfl ?_
                  refine JL.val (v := .int .i64 (0 : Int)) (QV.move rfl) rfl rfl rfl ?_
                  refine JL.val (v := .bool (decide ((0 : Int) = (0 : Int)))) (QV.eql rfl rfl) rfl rfl rfl ?_
                  refine JL.val (v := .bool (!(d73 == (decide ((0 : Int) = (0 : Int)))))) (QV.neqB Try.underlying4 rfl rfl) rfl rfl rfl ?_
                  refine JL.val (v := .bool (!(d73 == (decide ((0 : Int) = (0 : Int)))))) (QV.pickF rfl rfl) rfl rfl rfl ?_
                  rcases ite_inv hm with ⟨h101, hm⟩ | ⟨h101, hm⟩
                  ·
                    refine JL.val (v := .bool false) (QV.eq (QV.move rfl) (congrArg Value.bool (congrArg Bool.not h101))) rfl rfl rfl ?_
                    refine JL.val (v := .bool d73) (QV.move rfl) rfl rfl rfl ?_
                    refine JL.val (v := .bool (!d73)) (QV.not rfl) rfl rfl rfl ?_
                    rcases ite_inv hm with ⟨h102, hm⟩ | ⟨h102, hm⟩
                    ·
                      refine JL.val (v := .bool false) (QV.eq (QV.move rfl) (congrArg Value.bool (congrArg Bool.not h102))) rfl rfl rfl ?_
                      refine JL.skip (d := some 85) rfl rfl rfl ?_
                      refine JL.skip (d := some 86) rfl rfl rfl ?_
                      refine JL.val (v := .bool false) (QV.pickF rfl rfl) rfl rfl rfl ?_
                      refine JL.val (v := .bool false) (QV.pickF rfl rfl) rfl rfl rfl ?_
                      refine JL.nil ?_
                      exact QJ.cut_normal (false, ()) hm [0, 1, 2] (by exact ⟨rfl, rfl, trivial⟩) rfl rfl
                    ·
                      refine JL.val (v := .bool true) (QV.eq (QV.move rfl) (congrArg Value.bool (congrArg Bool.not (bfalse h102)))) rfl rfl rfl ?_
                      refine JL.val (v := .int .i64 (0 : Int)) (QV.move rfl) rfl rfl rfl ?_
                      refine JL.val (v := .bool (!(decide ((0 : Int) = (1 : Int))))) (QV.neq rfl rfl) rfl rfl rfl ?_
                      refine JL.val (v := .bool (!(decide ((0 : Int) = (1 : Int))))) (QV.pickT rfl rfl) rfl rfl rfl ?_
                      refine JL.val (v := .bool (!(decide ((0 : Int) = (1 : Int))))) (QV.pickF rfl rfl) rfl rfl rfl ?_
                      refine JL.nil ?_
                      exact QJ.cut_normal ((!(decide ((0 : Int) = (1 : Int)))), ()) hm [0, 1, 2] (by exact ⟨rfl, rfl, trivial⟩) rfl rfl
                  ·
                    refine JL.val (v := .bool true) (QV.eq (QV.move rfl) (congrArg Value.bool (congrArg Bool.not (bfalse h101)))) rfl rfl rfl ?_
                    refine JL.skip (d := some 82) rfl rfl rfl ?_
                    refine JL.skip (d := some 83) rfl rfl rfl ?_
                    refine JL.skip (d := some 84) rfl rfl rfl ?_
                    refine JL.skip (d := some 85) rfl rfl rfl ?_
                    refine JL.skip (d := some 86) rfl rfl rfl ?_
                    refine JL.skip (d := some 87) rfl rfl rfl ?_
                    refine JL.val (v := .bool true) (QV.pickT rfl rfl) rfl rfl rfl ?_
                    refine JL.nil ?_
                    exact QJ.cut_normal (true, ()) hm [0, 1, 2] (by exact ⟨rfl, rfl, trivial⟩) rfl rfl
                ·
                  refine JL.val (v := .bool true) (QV.eq (QV.move rfl) (congrArg Value.bool (congrArg Bool.not (bfalse h100)))) rfl rfl rfl ?_
                  refine JL.skip (d := some 76) rfl rfl rfl ?_
                  refine JL.skip (d := some 77) rfl rfl rfl ?_
                  refine JL.skip (d := some 78) rfl rfl rfl ?_
                  refine JL.skip (d := some 79) rfl rfl rfl ?_
                  refine JL.val (v := .bool true) (QV.pickT rfl rfl) rfl rfl rfl ?_
                  refine JL.val (v := .bool true) (QV.move rfl) rfl rfl rfl ?_
                  refine JL.skip (d := some 82) rfl rfl rfl ?_
                  refine JL.skip (d := some 83) rfl rfl rfl ?_
                  refine JL.skip (d := some 84) rfl rfl rfl ?_
                  refine JL.skip (d := some 85) rfl rfl rfl ?_
                  refine JL.skip (d := some 86) rfl rfl rfl ?_
                  refine JL.skip (d := some 87) rfl rfl rfl ?_
                  refine JL.val (v := .bool true) (QV.pickT rfl rfl) rfl rfl rfl ?_
                  refine JL.nil ?_
                  exact QJ.cut_normal (true, ()) hm [0, 1, 2] (by exact ⟨rfl, rfl, trivial⟩) rfl rfl
            ·
              refine JC.region ?_
              refine JL.val (v := .agg #[.int .i64 x1, .int .i64 x2, .int .i64 x3]) (QV.eq (QV.loadN (ss := [Seg.c (.int .i64 x1), Seg.c (.int .i64 x2), Seg.c (.int .i64 x3)]) 4 0 3 rfl tk_47 rfl rfl rfl rfl) rfl) rfl rfl rfl ?_
              obtain ⟨y103, hc104, hm⟩ := bind_inv hm
              refine JL.mv (d := some 57) (MV.call (Lo := []) (Lr := [Asr.blk b69 134 [Seg.c (.pointer none), Seg.c (.int .i64 y30.1), Seg.c (.int .i64 y30.2.1)], Asr.blk b70 134 [Seg.c (.pointer none), Seg.c (.int .i64 y30.2.2.1), Seg.c (.int .i64 y30.2.2.2.1)], Asr.blk b71 134 [Seg.c (.pointer none), Seg.c (.int .i64 y30.2.2.2.2.1), Seg.c (.int .i64 y30.2.2.2.2.2)], Asr.blk b68 108 [Seg.c (.int .i64 x1), Seg.c (.int .i64 x2), Seg.c (.int .i64 x3), Seg.c (.pointer (some ⟨b69, 0, none⟩)), Seg.c (.pointer (some ⟨b70, 0, none⟩)), Seg.c (.pointer (some ⟨b71, 0, none⟩))], Asr.blk b17 47 [Seg.c (.int .i64 x1), Seg.c (.int .i64 x2), Seg.c (.int .i64 x3)], Asr.vw (Enc.int .u8) (s12.v) x13, Asr.vw (Enc.int .u8) (s14.v) x15, Asr.blk b18 49 [Seg.c (.int .i64 x6), Seg.c (.int .i64 x7), Seg.c (.int .i64 x8), Seg.c (.int .i64 x9), Seg.c (.int .i64 x10), Seg.c (.int .u8 x11), Seg.c (s12.v), Seg.c (s14.v)]]) (F30.spec (x1) (x2) (x3) _ hc104) rfl Try.func30 rfl rfl rfl [] [0, 1, 2, 3, 4, 5, 6, 7] rfl rfl rfl trivial) rfl rfl rfl ?_
              rintro _ _ ⟨_, ⟨rfl, rfl⟩, rfl⟩
              rcases ite_inv hm with ⟨h105, hm⟩ | ⟨h105, hm⟩
              ·
                refine JL.val (v := .bool true) (QV.eq (QV.move rfl) (congrArg Value.bool h105)) rfl rfl rfl ?_
                refine JL.val (v := .pointer (some ⟨b17, 0, none⟩)) (QV.fieldB fo_47_0 rfl rfl) rfl rfl rfl ?_
                refine JL.val (v := .int .i64 x1) (QV.load1 (ss := [Seg.c (.int .i64 x1), Seg.c (.int .i64 x2), Seg.c (.int .i64 x3)]) 4 0 rfl tk_3 rfl rfl rfl) rfl rfl rfl ?_
                refine JL.val (v := .int .i64 x4) (QV.move rfl) rfl rfl rfl ?_
                refine JL.val (v := .bool (decide (x1 = x4))) (QV.eql rfl rfl) rfl rfl rfl ?_
                refine JL.val (v := .bool (decide (x1 = x4))) (QV.pickT rfl rfl) rfl rfl rfl ?_
                rcases ite_inv hm with ⟨h106, hm⟩ | ⟨h106, hm⟩
                ·
                  refine JL.val (v := .bool true) (QV.eq (QV.move rfl) (congrArg Value.bool (decide_eq_true h106))) rfl rfl rfl ?_
                  refine JL.val (v := .agg #[.int .i64 x1, .int .i64 x2, .int .i64 x3]) (QV.eq (QV.loadN (ss := [Seg.c (.int .i64 x1), Seg.c (.int .i64 x2), Seg.c (.int .i64 x3)]) 4 0 3 rfl tk_47 rfl rfl rfl rfl) rfl) rfl rfl rfl ?_
                  obtain ⟨y107, hc108, hm⟩ := bind_inv hm
                  refine JL.mv (d := some 66) (MV.call (Lo := []) (Lr := [Asr.blk b69 134 [Seg.c (.pointer none), Seg.c (.int .i64 y30.1), Seg.c (.int .i64 y30.2.1)], Asr.blk b70 134 [Seg.c (.pointer none), Seg.c (.int .i64 y30.2.2.1), Seg.c (.int .i64 y30.2.2.2.1)], Asr.blk b71 134 [Seg.c (.pointer none), Seg.c (.int .i64 y30.2.2.2.2.1), Seg.c (.int .i64 y30.2.2.2.2.2)], Asr.blk b68 108 [Seg.c (.int .i64 x1), Seg.c (.int .i64 x2), Seg.c (.int .i64 x3), Seg.c (.pointer (some ⟨b69, 0, none⟩)), Seg.c (.pointer (some ⟨b70, 0, none⟩)), Seg.c (.pointer (some ⟨b71, 0, none⟩))], Asr.blk b17 47 [Seg.c (.int .i64 x1), Seg.c (.int .i64 x2), Seg.c (.int .i64 x3)], Asr.vw (Enc.int .u8) (s12.v) x13, Asr.vw (Enc.int .u8) (s14.v) x15, Asr.blk b18 49 [Seg.c (.int .i64 x6), Seg.c (.int .i64 x7), Seg.c (.int .i64 x8), Seg.c (.int .i64 x9), Seg.c (.int .i64 x10), Seg.c (.int .u8 x11), Seg.c (s12.v), Seg.c (s14.v)]]) (F31.spec (x1) (x2) (x3) _ hc108) rfl Try.func31 rfl rfl rfl [] [0, 1, 2, 3, 4, 5, 6, 7] rfl rfl rfl trivial) rfl rfl rfl ?_
                  rintro _ _ ⟨_, ⟨rfl, rfl⟩, rfl⟩
                  refine JL.val (v := .int .i64 y107.2.2.2) (QV.field1 (ss := [Seg.of (Enc.arr 2 (Enc.pair (Enc.int .i64) (Enc.int .i64))) y107.1, Seg.c (.int .i64 (2 : Int)), Seg.c (.int .i64 y107.2.1), Seg.of (Enc.arr 2 (Enc.pair (Enc.int .i64) (Enc.int .i64))) y107.2.2.1, Seg.c (.int .i64 y107.2.2.2)]) 4 to_61_3 tk_3 rfl rfl rfl) rfl rfl rfl ?_
                  refine JL.val (v := .int .i64 x5) (QV.move rfl) rfl rfl rfl ?_
                  refine JL.val (v := .bool (decide (y107.2.2.2 ≤ x5))) (QV.leq rfl rfl) rfl rfl rfl ?_
                  refine JL.val (v := .bool (decide (y107.2.2.2 ≤ x5))) (QV.pickT rfl rfl) rfl rfl rfl ?_
                  refine JL.val (v := .bool (decide (y107.2.2.2 ≤ x5))) (QV.assign rfl) rfl rfl rfl ?_
                  refine JL.nil ?_
                  exact QJ.cut_normal ((decide (y107.2.2.2 ≤ x5)), ()) hm [5, 6, 7, 0, 1, 2, 3] (by exact ⟨rfl, rfl, rfl, rfl, trivial⟩) rfl rfl
                ·
                  refine JL.val (v := .bool false) (QV.eq (QV.move rfl) (congrArg Value.bool (decide_eq_false h106))) rfl rfl rfl ?_
                  refine JL.skip (d := some 65) rfl rfl rfl ?_
                  refine JL.skip (d := some 66) rfl rfl rfl ?_
                  refine JL.skip (d := some 67) rfl rfl rfl ?_
                  refine JL.skip (d := some 68) rfl rfl rfl ?_
                  refine JL.skip (d := some 69) rfl rfl rfl ?_
                  refine JL.val (v := .bool false) (QV.pickF rfl rfl) rfl rfl rfl ?_
                  refine JL.val (v := .bool false) (QV.assign rfl) rfl rfl rfl ?_
                  refine JL.nil ?_
                  exact QJ.cut_normal (false, ()) hm [5, 6, 7, 0, 1, 2, 3] (by exact ⟨rfl, rfl, rfl, rfl, trivial⟩) rfl rfl
              ·
                refine JL.val (v := .bool false) (QV.eq (QV.move rfl) (congrArg Value.bool (bfalse h105))) rfl rfl rfl ?_
                refine JL.skip (d := some 59) rfl rfl rfl ?_
                refine JL.skip (d := some 60) rfl rfl rfl ?_
                refine JL.skip (d := some 61) rfl rfl rfl ?_
                refine JL.skip (d := some 62) rfl rfl rfl ?_
                refine JL.val (v := .bool false) (QV.pickF rfl rfl) rfl rfl rfl ?_
                refine JL.val (v := .bool false) (QV.move rfl) rfl rfl rfl ?_
                refine JL.skip (d := some 65) rfl rfl rfl ?_
                refine JL.skip (d := some 66) rfl rfl rfl ?_
                refine JL.skip (d := some 67) rfl rfl rfl ?_
                refine JL.skip (d := some 68) rfl rfl rfl ?_
                refine JL.skip (d := some 69) rfl rfl rfl ?_
                refine JL.val (v := .bool false) (QV.pickF rfl rfl) rfl rfl rfl ?_
                refine JL.val (v := .bool false) (QV.assign rfl) rfl rfl rfl ?_
                refine JL.nil ?_
                exact QJ.cut_normal (false, ()) hm [5, 6, 7, 0, 1, 2, 3] (by exact ⟨rfl, rfl, rfl, rfl, trivial⟩) rfl rfl
          ·
            refine JC.condT' rfl (congrArg Bool.not (decide_eq_false h72)) ?_
            refine JC.seq ?_
            refine JC.region ?_
            refine JL.val (v := .bool false) (QV.assign rfl) rfl rfl rfl ?_
            refine JL.nil ?_
            refine QJ.then_normal ?_
            refine JC.ret ?_
            refine QJ.then_ret ?_
            obtain rfl := Option.some.inj hm
            exact QJ.body (vs := [.bool false]) (.inl rfl) rfl (ResVs.cons (ResV.tmp rfl) ResVs.nil) [] rfl rfl (.inr trivial) ⟨rfl, rfl⟩
      ·
        refine JL.mv (d := some 45) (MV.call (Lo := []) (Lr := [Asr.blk b17 47 [Seg.c (.int .i64 x1), Seg.c (.int .i64 x2), Seg.c (.int .i64 x3)], Asr.vw (Enc.int .u8) (s12.v) x13, Asr.vw (Enc.int .u8) (s14.v) x15, Asr.blk b18 49 [Seg.c (.int .i64 x6), Seg.c (.int .i64 x7), Seg.c (.int .i64 x8), Seg.c (.int .i64 x9), Seg.c (.int .i64 x10), Seg.c (.int .u8 x11), Seg.c (s12.v), Seg.c (s14.v)]]) (F28.spec (x4) (x5) _ hc24) rfl Try.func28 rfl rfl rfl [] [0, 1, 2, 3] rfl rfl rfl trivial) rfl rfl rfl ?_
        rintro _ _ ⟨_, ⟨b109, z110, z111, rfl, rfl⟩, rfl⟩
        refine JL.val (v := .tuple #[.pointer (some ⟨b109, 0, none⟩), .int .i64 (0 : Int)]) (QV.move rfl) rfl rfl rfl ?_
        refine JL.val (v := .pointer (some ⟨b109, 0, none⟩)) (QV.extract (vs := [.pointer (some ⟨b109, 0, none⟩), .int .i64 (0 : Int)]) rfl rfl) rfl rfl rfl ?_
        refine JL.val (v := .int .i64 (0 : Int)) (QV.extract (vs := [.pointer (some ⟨b109, 0, none⟩), .int .i64 (0 : Int)]) rfl rfl) rfl rfl rfl ?_
        refine JL.val (v := .pointer (some ⟨b109, 0, none⟩)) (QV.assign rfl) rfl rfl rfl ?_
        refine JL.val (v := .int .i64 (0 : Int)) (QV.assign rfl) rfl rfl rfl ?_
        refine JL.nil ?_
        refine QJ.then_normal ?_
        refine JC.seq ?_
        refine JC.region ?_
        refine JL.val (v := .pointer (some ⟨b109, 0, none⟩)) (QV.move rfl) rfl rfl rfl ?_
        refine JL.val (v := .agg #[.int .i64 x1, .int .i64 x2, .int .i64 x3]) (QV.eq (QV.loadN (ss := [Seg.c (.int .i64 x1), Seg.c (.int .i64 x2), Seg.c (.int .i64 x3)]) 1 0 3 rfl tk_47 rfl rfl rfl rfl) rfl) rfl rfl rfl ?_
        obtain ⟨y112, hc113, hm⟩ := bind_inv hm
        rcases y112 with y114 | y115
        ·
          refine JL.mv (d := some 51) (MV.call (Lo := [Asr.blk b109 102 [Seg.c (.int .i64 x4), Seg.c (.int .i64 x5), Seg.c (z110), Seg.c (z111), Seg.c (.bool false), Seg.c (.int .i64 (0 : Int)), Seg.c (.bool false), Seg.c (.int .i64 (0 : Int)), Seg.c (.int .u64 (0 : Int))]]) (Lr := [Asr.blk b17 47 [Seg.c (.int .i64 x1), Seg.c (.int .i64 x2), Seg.c (.int .i64 x3)], Asr.vw (Enc.int .u8) (s12.v) x13, Asr.vw (Enc.int .u8) (s14.v) x15, Asr.blk b18 49 [Seg.c (.int .i64 x6), Seg.c (.int .i64 x7), Seg.c (.int .i64 x8), Seg.c (.int .i64 x9), Seg.c (.int .i64 x10), Seg.c (.int .u8 x11), Seg.c (s12.v), Seg.c (s14.v)]]) (F29_1.spec (b109) (z110) (z111) (x4) (x5) (false) ((0 : Int)) (false) ((0 : Int)) ((0 : Int)) (x1) (x2) (x3) _ hc113) rfl Try.func29 rfl rfl rfl [0] [1, 2, 3, 4] rfl rfl rfl trivial) rfl rfl rfl ?_
          rintro _ _ ⟨_, ⟨rfl, rfl⟩, rfl⟩
          refine JL.val (v := .tuple #[.pointer none, .int .i64 (1 : Int)]) (QV.move rfl) rfl rfl rfl ?_
          refine JL.val (v := .pointer none) (QV.extract (vs := [.pointer none, .int .i64 (1 : Int)]) rfl rfl) rfl rfl rfl ?_
          refine JL.val (v := .int .i64 (1 : Int)) (QV.extract (vs := [.pointer none, .int .i64 (1 : Int)]) rfl rfl) rfl rfl rfl ?_
          refine JL.val (v := .pointer none) (QV.assign rfl) rfl rfl rfl ?_
          refine JL.val (v := .int .i64 (1 : Int)) (QV.assign rfl) rfl rfl rfl ?_
          refine JL.nil ?_
          refine QJ.then_normal ?_
          refine JC.seq ?_
          refine JC.seq ?_
          refine JC.region ?_
          refine JL.val (v := .int .i64 (0 : Int)) (QV.move rfl) rfl rfl rfl ?_
          refine JL.val (v := .bool (!(decide ((0 : Int) = (0 : Int))))) (QV.neq rfl rfl) rfl rfl rfl ?_
          refine JL.nil ?_
          refine QJ.then_normal ?_
          rcases ite_inv hm with ⟨h116, hm⟩ | ⟨h116, hm⟩
          ·
            refine JC.condF' rfl (congrArg Bool.not (decide_eq_true h116)) ?_
            refine JC.skip ?_
            refine QJ.then_normal ?_
            refine JC.seq ?_
            refine JC.cutK (Y := Bool × Unit) (fun y => match y with | (d117, _) => F10.j8 x7 x8 x9 x10 x11 x13 (d117) = some r) (fun y => match y with | (d117, _) => [(7, .pointer (some ⟨b18, 0, none⟩)), (11, .pointer none), (12, .int .i64 (1 : Int)), (13, .bool d117)]) (fun y => match y with | (d117, _) => [Asr.vw (Enc.int .u8) (s12.v) x13, Asr.vw (Enc.int .u8) (s14.v) x15, Asr.blk b18 49 [Seg.c (.int .i64 x6), Seg.c (.int .i64 x7), Seg.c (.int .i64 x8), Seg.c (.int .i64 x9), Seg.c (.int .i64 x10), Seg.c (.int .u8 x11), Seg.c (s12.v), Seg.c (s14.v)]]) ?_ ?_
            ·
              rintro ⟨d117, ⟨⟩⟩ hm
              unfold F10.j8 at hm
              show QJ _ _ [(7, .pointer (some ⟨b18, 0, none⟩)), (11, .pointer none), (12, .int .i64 (1 : Int)), (13, .bool d117)] [Asr.vw (Enc.int .u8) (s12.v) x13, Asr.vw (Enc.int .u8) (s14.v) x15, Asr.blk b18 49 [Seg.c (.int .i64 x6), Seg.c (.int .i64 x7), Seg.c (.int .i64 x8), Seg.c (.int .i64 x9), Seg.c (.int .i64 x10), Seg.c (.int .u8 x11), Seg.c (s12.v), Seg.c (s14.v)]] _ _
              refine QJ.then_normal ?_
              refine JC.seq ?_
              refine JC.seq ?_
              refine JC.cutK (Y := Bool × Unit) (fun y => match y with | (d118, _) => F10.j9 x7 x8 x9 x10 x11 x13 (d118) = some r) (fun y => match y with | (d118, _) => [(7, .pointer (some ⟨b18, 0, none⟩)), (88, .bool d118)]) (fun y => match y with | (d118, _) => [Asr.vw (Enc.int .u8) (s12.v) x13, Asr.vw (Enc.int .u8) (s14.v) x15, Asr.blk b18 49 [Seg.c (.int .i64 x6), Seg.c (.int .i64 x7), Seg.c (.int .i64 x8), Seg.c (.int .i64 x9), Seg.c (.int .i64 x10), Seg.c (.int .u8 x11), Seg.c (s12.v), Seg.c (s14.v)]]) ?_ ?_
              ·
                rintro ⟨d118, ⟨⟩⟩ hm
                unfold F10.j9 at hm
                show QJ _ _ [(7, .pointer (some ⟨b18, 0, none⟩)), (88, .bool d118)] [Asr.vw (Enc.int .u8) (s12.v) x13, Asr.vw (Enc.int .u8) (s14.v) x15, Asr.blk b18 49 [Seg.c (.int .i64 x6), Seg.c (.int .i64 x7), Seg.c (.int .i64 x8), Seg.c (.int .i64 x9), Seg.c (.int .i64 x10), Seg.c (.int .u8 x11), Seg.c (s12.v), Seg.c (s14.v)]] _ _
                refine QJ.then_normal ?_
                rcases ite_inv hm with ⟨h119, hm⟩ | ⟨h119, hm⟩
                ·
                  refine JC.condT' rfl h119 ?_
                  refine JC.seq ?_
                  refine JC.region ?_
                  refine JL.val (v := .bool false) (QV.assign rfl) rfl rfl rfl ?_
                  refine JL.nil ?_
                  refine QJ.then_normal ?_
                  refine JC.ret ?_
                  refine QJ.then_ret ?_
                  obtain rfl := Option.some.inj hm
                  exact QJ.body (vs := [.bool false]) (.inl rfl) rfl (ResVs.cons (ResV.tmp rfl) ResVs.nil) [] rfl rfl (.inr trivial) ⟨rfl, rfl⟩
                ·
                  refine JC.condF' rfl (bfalse h119) ?_
                  refine JC.skip ?_
                  refine QJ.then_normal ?_
                  refine JC.seq ?_
                  refine JC.region ?_
                  refine JL.val (v := .pointer none) (QV.assign rfl) rfl rfl rfl ?_
                  refine JL.nil ?_
                  refine QJ.then_normal ?_
                  refine JC.seq ?_
                  refine JC.regionT [Asr.vw (Enc.int .u8) (s12.v) x13, Asr.vw (Enc.int .u8) (s14.v) x15, Asr.blk b18 49 [Seg.c (.int .i64 x6), Seg.c (.int .i64 x7), Seg.c (.int .i64 x8), Seg.c (.int .i64 x9), Seg.c (.int .i64 x10), Seg.c (.int .u8 x11), Seg.c (s12.v), Seg.c (s14.v)]] (fun t => false) [(0, true), (1, true), (2, true), (3, true), (4, true), (6, true), (7, true), (8, true), (9, true), (5, false), (10, false), (11, false), (12, true), (13, true), (14, false), (15, false)] (by kernel_rfl) (by kernel_rfl) (by kernel_rfl) rfl (fun hsel => ?_)
                  refine JT.take (i := 0) (v := .pointer none) hsel rfl (QV.move rfl) rfl rfl rfl rfl [0, 1, 2] rfl rfl ?_
                  refine JT.take (i := 1) (v := .pointer (some ⟨b18, 5, none⟩)) hsel rfl (QV.fieldB fo_49_5 rfl rfl) rfl rfl rfl rfl [0, 1, 2] rfl rfl ?_
                  refine JT.take (i := 2) (v := .int .u8 x11) hsel rfl (QV.load1 (ss := [Seg.c (.int .i64 x6), Seg.c (.int .i64 x7), Seg.c (.int .i64 x8), Seg.c (.int .i64 x9), Seg.c (.int .i64 x10), Seg.c (.int .u8 x11), Seg.c (s12.v), Seg.c (s14.v)]) 2 5 rfl tk_5 rfl rfl rfl) rfl rfl rfl rfl [0, 1, 2] rfl rfl ?_
                  refine JT.take (i := 3) (v := .pointer (some ⟨b18, 4, none⟩)) hsel rfl (QV.fieldB fo_49_4 rfl rfl) rfl rfl rfl rfl [0, 1, 2] rfl rfl ?_
                  refine JT.take (i := 4) (v := .int .i64 x10) hsel rfl (QV.load1 (ss := [Seg.c (.int .i64 x6), Seg.c (.int .i64 x7), Seg.c (.int .i64 x8), Seg.c (.int .i64 x9), Seg.c (.int .i64 x10), Seg.c (.int .u8 x11), Seg.c (s12.v), Seg.c (s14.v)]) 2 4 rfl tk_3 rfl rfl rfl) rfl rfl rfl rfl [0, 1, 2] rfl rfl ?_
                  refine JT.take (i := 6) (v := .pointer (some ⟨b18, 2, none⟩)) hsel rfl (QV.fieldB fo_49_2 rfl rfl) rfl rfl rfl rfl [0, 1, 2] rfl rfl ?_
                  refine JT.take (i := 7) (v := .int .i64 x8) hsel rfl (QV.load1 (ss := [Seg.c (.int .i64 x6), Seg.c (.int .i64 x7), Seg.c (.int .i64 x8), Seg.c (.int .i64 x9), Seg.c (.int .i64 x10), Seg.c (.int .u8 x11), Seg.c (s12.v), Seg.c (s14.v)]) 2 2 rfl tk_3 rfl rfl rfl) rfl rfl rfl rfl [0, 1, 2] rfl rfl ?_
                  refine JT.take (i := 8) (v := .pointer (some ⟨b18, 3, none⟩)) hsel rfl (QV.fieldB fo_49_3 rfl rfl) rfl rfl rfl rfl [0, 1, 2] rfl rfl ?_
                  refine JT.take (i := 9) (v := .int .i64 x9) hsel rfl (QV.load1 (ss := [Seg.c (.int .i64 x6), Seg.c (.int .i64 x7), Seg.c (.int .i64 x8), Seg.c (.int .i64 x9), Seg.c (.int .i64 x10), Seg.c (.int .u8 x11), Seg.c (s12.v), Seg.c (s14.v)]) 2 3 rfl tk_3 rfl rfl rfl) rfl rfl rfl rfl [0, 1, 2] rfl rfl ?_
                  obtain ⟨y120, hc121, hm⟩ := bind_inv hm
                  refine JT.only (i := 5) (d := some 95) rfl (MV.call (Lo := []) (Lr := [Asr.vw (Enc.int .u8) (s12.v) x13, Asr.vw (Enc.int .u8) (s14.v) x15, Asr.blk b18 49 [Seg.c (.int .i64 x6), Seg.c (.int .i64 x7), Seg.c (.int .i64 x8), Seg.c (.int .i64 x9), Seg.c (.int .i64 x10), Seg.c (.int .u8 x11), Seg.c (s12.v), Seg.c (s14.v)]]) (F32.spec (x11) (x10) _ hc121) rfl Try.func32 rfl rfl rfl [] [0, 1, 2] rfl rfl rfl trivial) rfl rfl rfl ?_
                  rintro _ _ ⟨_, ⟨rfl, rfl⟩, rfl⟩
                  refine ⟨fun _ => ⟨[0, 1, 2], rfl, rfl⟩, ?_⟩
                  obtain ⟨y122, hc123, hm⟩ := bind_inv hm
                  refine JT.only (i := 10) (d := some 100) rfl (MV.call (Lo := []) (Lr := [Asr.vw (Enc.int .u8) (s12.v) x13, Asr.vw (Enc.int .u8) (s14.v) x15, Asr.blk b18 49 [Seg.c (.int .i64 x6), Seg.c (.int .i64 x7), Seg.c (.int .i64 x8), Seg.c (.int .i64 x9), Seg.c (.int .i64 x10), Seg.c (.int .u8 x11), Seg.c (s12.v), Seg.c (s14.v)]]) (F33.spec (x8) (x9) _ hc123) rfl Try.func33 rfl rfl rfl [] [0, 1, 2] rfl rfl rfl trivial) rfl rfl rfl ?_
                  rintro _ _ ⟨_, ⟨rfl, rfl⟩, rfl⟩
                  refine ⟨fun _ => ⟨[1, 2, 3], rfl, rfl⟩, ?_⟩
                  refine JT.grow [Asr.of 5 (Enc.int .u8) (SlV.nil.v) ([] : List Int), Asr.vw (Enc.int .u8) (s12.v) x13, Asr.vw (Enc.int .u8) (s14.v) x15, Asr.blk b18 49 [Seg.c (.int .i64 x6), Seg.c (.int .i64 x7), Seg.c (.int .i64 x8), Seg.c (.int .i64 x9), Seg.c (.int .i64 x10), Seg.c (.int .u8 x11), Seg.c (s12.v), Seg.c (s14.v)]] [1, 2, 3] rfl rfl ?_
                  refine JT.only (i := 11) (d := some 89) rfl (MV.ofQV (v := .tuple #[SlV.nil.v, .int .i64 (5 : Int)]) (QV.move rfl)) rfl rfl rfl ?_
                  rintro _ _ ⟨rfl, rfl⟩
                  refine ⟨fun _ => ⟨[0, 1, 2, 3], rfl, rfl⟩, ?_⟩
                  refine JT.take (i := 12) (v := SlV.nil.v) hsel rfl (QV.extract (vs := [SlV.nil.v, .int .i64 (5 : Int)]) rfl rfl) rfl rfl rfl rfl [0, 1, 2, 3] rfl rfl ?_
                  refine JT.take (i := 13) (v := .int .i64 (5 : Int)) hsel rfl (QV.extract (vs := [SlV.nil.v, .int .i64 (5 : Int)]) rfl rfl) rfl rfl rfl rfl [0, 1, 2, 3] rfl rfl ?_
                  refine JT.only (i := 14) (d := some 15) rfl (MV.ofQV (v := SlV.nil.v) (QV.assign rfl)) rfl rfl rfl ?_
                  rintro _ _ ⟨rfl, rfl⟩
                  refine ⟨fun _ => ⟨[0, 1, 2, 3], rfl, rfl⟩, ?_⟩
                  refine JT.only (i := 15) (d := some 16) rfl (MV.ofQV (v := .int .i64 (5 : Int)) (QV.assign rfl)) rfl rfl rfl ?_
                  rintro _ _ ⟨rfl, rfl⟩
                  refine ⟨fun _ => ⟨[0, 1, 2, 3], rfl, rfl⟩, ?_⟩
                  refine JT.nil ?_
                  refine QJ.then_normal ?_
                  refine JC.seq ?_
                  refine JC.region ?_
                  refine JL.val (v := .pointer none) (QV.move rfl) rfl rfl rfl ?_
                  refine JL.val (v := .pointer (some ⟨b18, 5, none⟩)) (QV.fieldB fo_49_5 rfl rfl) rfl rfl rfl ?_
                  refine JL.val (v := .int .u8 x11) (QV.load1 (ss := [Seg.c (.int .i64 x6), Seg.c (.int .i64 x7), Seg.c (.int .i64 x8), Seg.c (.int .i64 x9), Seg.c (.int .i64 x10), Seg.c (.int .u8 x11), Seg.c (s12.v), Seg.c (s14.v)]) 3 5 rfl tk_5 rfl rfl rfl) rfl rfl rfl ?_
                  refine JL.val (v := .pointer (some ⟨b18, 3, none⟩)) (QV.fieldB fo_49_3 rfl rfl) rfl rfl rfl ?_
                  refine JL.val (v := .int .i64 x9) (QV.load1 (ss := [Seg.c (.int .i64 x6), Seg.c (.int .i64 x7), Seg.c (.int .i64 x8), Seg.c (.int .i64 x9), Seg.c (.int .i64 x10), Seg.c (.int .u8 x11), Seg.c (s12.v), Seg.c (s14.v)]) 3 3 rfl tk_3 rfl rfl rfl) rfl rfl rfl ?_
                  obtain ⟨y124, hc125, hm⟩ := bind_inv hm
                  refine JL.mv (d := some 109) (MV.call (Lo := []) (Lr := [Asr.of 5 (Enc.int .u8) (SlV.nil.v) ([] : List Int), Asr.vw (Enc.int .u8) (s12.v) x13, Asr.vw (Enc.int .u8) (s14.v) x15, Asr.blk b18 49 [Seg.c (.int .i64 x6), Seg.c (.int .i64 x7), Seg.c (.int .i64 x8), Seg.c (.int .i64 x9), Seg.c (.int .i64 x10), Seg.c (.int .u8 x11), Seg.c (s12.v), Seg.c (s14.v)]]) (F34.spec (x11) (x9) _ hc125) rfl Try.func34 rfl rfl rfl [] [0, 1, 2, 3] rfl rfl rfl trivial) rfl rfl rfl ?_
                  rintro _ _ ⟨_, ⟨rfl, rfl⟩, rfl⟩
                  refine JL.val (v := .tuple #[.agg (((Enc.arr 32 (Enc.int .u8))).enc y124).toArray, .int .i64 (1 : Int)]) (QV.move rfl) rfl rfl rfl ?_
                  refine JL.val (v := .agg (((Enc.arr 32 (Enc.int .u8))).enc y124).toArray) (QV.extract (vs := [.agg (((Enc.arr 32 (Enc.int .u8))).enc y124).toArray, .int .i64 (1 : Int)]) rfl rfl) rfl rfl rfl ?_
                  refine JL.val (v := .int .i64 (1 : Int)) (QV.extract (vs := [.agg (((Enc.arr 32 (Enc.int .u8))).enc y124).toArray, .int .i64 (1 : Int)]) rfl rfl) rfl rfl rfl ?_
                  refine JL.mv (d := some 17) (MV.alloc [Seg.of (Enc.arr 32 (Enc.int .u8)) (Arr.rep 32 (0 : Int))] z_67 rfl) rfl rfl rfl ?_
                  rintro _ _ ⟨b126, rfl, rfl⟩
                  refine JL.mv (d := none) (MV.store (ss := [Seg.of (Enc.arr 32 (Enc.int .u8)) (Arr.rep 32 (0 : Int))]) 0 0 1 [Seg.of (Enc.arr 32 (Enc.int .u8)) y124] rfl tk_67 rfl rfl rfl rfl (fun w hs => ⟨rfl, one_of _ _, trivial⟩)) rfl rfl rfl ?_
                  rintro _ _ ⟨rfl, rfl⟩
                  refine JL.val (v := .int .i64 (1 : Int)) (QV.assign rfl) rfl rfl rfl ?_
                  refine JL.nil ?_
                  refine QJ.then_normal ?_
                  refine JC.seq ?_
                  refine JC.region ?_
                  refine JL.val (v := .pointer none) (QV.move rfl) rfl rfl rfl ?_
                  refine JL.val (v := .pointer (some ⟨b18, 3, none⟩)) (QV.fieldB fo_49_3 rfl rfl) rfl rfl rfl ?_
                  refine JL.val (v := .int .i64 x9) (QV.load1 (ss := [Seg.c (.int .i64 x6), Seg.c (.int .i64 x7), Seg.c (.int .i64 x8), Seg.c (.int .i64 x9), Seg.c (.int .i64 x10), Seg.c (.int .u8 x11), Seg.c (s12.v), Seg.c (s14.v)]) 4 3 rfl tk_3 rfl rfl rfl) rfl rfl rfl ?_
                  obtain ⟨y127, hc128, hm⟩ := bind_inv hm
                  refine JL.mv (d := some 116) (MV.call (Lo := []) (Lr := [Asr.blk b126 67 [Seg.of (Enc.arr 32 (Enc.int .u8)) y124], Asr.of 5 (Enc.int .u8) (SlV.nil.v) ([] : List Int), Asr.vw (Enc.int .u8) (s12.v) x13, Asr.vw (Enc.int .u8) (s14.v) x15, Asr.blk b18 49 [Seg.c (.int .i64 x6), Seg.c (.int .i64 x7), Seg.c (.int .i64 x8), Seg.c (.int .i64 x9), Seg.c (.int .i64 x10), Seg.c (.int .u8 x11), Seg.c (s12.v), Seg.c (s14.v)]]) (F35.spec (x9) _ hc128) rfl Try.func35 rfl rfl rfl [] [0, 1, 2, 3, 4] rfl rfl rfl trivial) rfl rfl rfl ?_
                  rintro _ _ ⟨_, ⟨rfl, rfl⟩, rfl⟩
                  refine JL.val (v := .tuple #[SlV.nil.v, .int .i64 (1 : Int)]) (QV.move rfl) rfl rfl rfl ?_
                  refine JL.val (v := SlV.nil.v) (QV.extract (vs := [SlV.nil.v, .int .i64 (1 : Int)]) rfl rfl) rfl rfl rfl ?_
                  refine JL.val (v := .int .i64 (1 : Int)) (QV.extract (vs := [SlV.nil.v, .int .i64 (1 : Int)]) rfl rfl) rfl rfl rfl ?_
                  refine JL.val (v := SlV.nil.v) (QV.assign rfl) rfl rfl rfl ?_
                  refine JL.val (v := .int .i64 (1 : Int)) (QV.assign rfl) rfl rfl rfl ?_
                  refine JL.nil ?_
                  refine QJ.then_normal ?_
                  refine JC.seq ?_
                  refine JC.cutK (Y := Bool × Unit) (fun y => match y with | (d129, _) => F10.j10 (d129) = some r) (fun y => match y with | (d129, _) => [(8, .bool d129)]) (fun y => match y with | (d129, _) => []) ?_ ?_
                  ·
                    rintro ⟨d129, ⟨⟩⟩ hm
                    unfold F10.j10 at hm
                    show QJ _ _ [(8, .bool d129)] [] _ _
                    refine QJ.then_normal ?_
                    refine JC.ret ?_
                    obtain rfl := Option.some.inj hm
                    exact QJ.body (vs := [.bool d129]) (.inl rfl) rfl (ResVs.cons (ResV.tmp rfl) ResVs.nil) [] rfl rfl (.inr trivial) ⟨rfl, rfl⟩
                  ·
                    refine JC.region ?_
                    refine JL.val (v := .int .i64 (5 : Int)) (QV.move rfl) rfl rfl rfl ?_
                    refine JL.val (v := .bool (decide ((5 : Int) = (5 : Int)))) (QV.eql rfl rfl) rfl rfl rfl ?_
                    rcases ite_inv hm with ⟨h130, hm⟩ | ⟨h130, hm⟩
                    ·
                      refine JL.val (v := .bool true) (QV.eq (QV.move rfl) (congrArg Value.bool (decide_eq_true h130))) rfl rfl rfl ?_
                      refine JL.val (v := .int .i64 (1 : Int)) (QV.move rfl) rfl rfl rfl ?_
                      refine JL.val (v := .bool (decide ((1 : Int) = (1 : Int)))) (QV.eql rfl rfl) rfl rfl rfl ?_
                      refine JL.val (v := .bool (decide ((1 : Int) = (1 : Int)))) (QV.pickT rfl rfl) rfl rfl rfl ?_
                      rcases ite_inv hm with ⟨h131, hm⟩ | ⟨h131, hm⟩
                      ·
                        refine JL.val (v := .bool true) (QV.eq (QV.move rfl) (congrArg Value.bool (decide_eq_true h131))) rfl rfl rfl ?_
                        refine JL.val (v := .int .i64 (1 : Int)) (QV.move rfl) rfl rfl rfl ?_
                        refine JL.val (v := .bool (decide ((1 : Int) = (1 : Int)))) (QV.eql rfl rfl) rfl rfl rfl ?_
                        refine JL.val (v := .bool (decide ((1 : Int) = (1 : Int)))) (QV.pickT rfl rfl) rfl rfl rfl ?_
                        rcases ite_inv hm with ⟨h132, hm⟩ | ⟨h132, hm⟩
                        ·
                          refine JL.val (v := .bool true) (QV.eq (QV.move rfl) (congrArg Value.bool (decide_eq_true h132))) rfl rfl rfl ?_
                          refine JL.val (v := .pointer none) (QV.move rfl) rfl rfl rfl ?_
                          refine JL.val (v := .pointer (some ⟨b18, 5, none⟩)) (QV.fieldB fo_49_5 rfl rfl) rfl rfl rfl ?_
                          refine JL.val (v := .int .u8 x11) (QV.load1 (ss := [Seg.c (.int .i64 x6), Seg.c (.int .i64 x7), Seg.c (.int .i64 x8), Seg.c (.int .i64 x9), Seg.c (.int .i64 x10), Seg.c (.int .u8 x11), Seg.c (s12.v), Seg.c (s14.v)]) 5 5 rfl tk_5 rfl rfl rfl) rfl rfl rfl ?_
                          refine JL.val (v := .pointer (some ⟨b18, 1, none⟩)) (QV.fieldB fo_49_1 rfl rfl) rfl rfl rfl ?_
                          refine JL.val (v := .int .i64 x7) (QV.load1 (ss := [Seg.c (.int .i64 x6), Seg.c (.int .i64 x7), Seg.c (.int .i64 x8), Seg.c (.int .i64 x9), Seg.c (.int .i64 x10), Seg.c (.int .u8 x11), Seg.c (s12.v), Seg.c (s14.v)]) 5 1 rfl tk_3 rfl rfl rfl) rfl rfl rfl ?_
                          refine JL.val (v := .pointer (some ⟨b18, 6, none⟩)) (QV.fieldB fo_49_6 rfl rfl) rfl rfl rfl ?_
                          refine JL.val (v := s12.v) (QV.load1 (ss := [Seg.c (.int .i64 x6), Seg.c (.int .i64 x7), Seg.c (.int .i64 x8), Seg.c (.int .i64 x9), Seg.c (.int .i64 x10), Seg.c (.int .u8 x11), Seg.c (s12.v), Seg.c (s14.v)]) 5 6 rfl tk_34 rfl rfl rfl) rfl rfl rfl ?_
                          obtain ⟨y133, hc134, hm⟩ := bind_inv hm
                          refine JL.mv (d := some 137) (MV.call (Lo := []) (Lr := [Asr.of 5 (Enc.int .u8) (SlV.nil.v) ([] : List Int), Asr.blk b126 67 [Seg.of (Enc.arr 32 (Enc.int .u8)) y124], Asr.of 5 (Enc.int .u8) (SlV.nil.v) ([] : List Int), Asr.vw (Enc.int .u8) (s12.v) x13, Asr.vw (Enc.int .u8) (s14.v) x15, Asr.blk b18 49 [Seg.c (.int .i64 x6), Seg.c (.int .i64 x7), Seg.c (.int .i64 x8), Seg.c (.int .i64 x9), Seg.c (.int .i64 x10), Seg.c (.int .u8 x11), Seg.c (s12.v), Seg.c (s14.v)]]) (F36.spec (s12) (x11) (x7) (x13) _ hc134) rfl Try.func36 rfl rfl rfl [] [0, 1, 2, 3, 4, 5] rfl rfl rfl ⟨(Drv.vw 3 rfl), trivial⟩) rfl rfl rfl ?_
                          rintro _ _ ⟨_, ⟨rfl, rfl⟩, rfl⟩
                          refine JL.val (v := .bool (decide ((1 : Int) = (1 : Int)))) (QV.eql rfl rfl) rfl rfl rfl ?_
                          refine JL.val (v := .bool (decide ((1 : Int) = (1 : Int)))) (QV.pickT rfl rfl) rfl rfl rfl ?_
                          rcases ite_inv hm with ⟨h135, hm⟩ | ⟨h135, hm⟩
                          ·
                            refine JL.val (v := .bool true) (QV.eq (QV.move rfl) (congrArg Value.bool (decide_eq_true h135))) rfl rfl rfl ?_
                            refine JL.val (v := .pointer none) (QV.move rfl) rfl rfl rfl ?_
                            refine JL.val (v := .pointer (some ⟨b18, 6, none⟩)) (QV.fieldB fo_49_6 rfl rfl) rfl rfl rfl ?_
                            refine JL.val (v := s12.v) (QV.load1 (ss := [Seg.c (.int .i64 x6), Seg.c (.int .i64 x7), Seg.c (.int .i64 x8), Seg.c (.int .i64 x9), Seg.c (.int .i64 x10), Seg.c (.int .u8 x11), Seg.c (s12.v), Seg.c (s14.v)]) 5 6 rfl tk_34 rfl rfl rfl) rfl rfl rfl ?_
                            obtain ⟨y136, hc137, hm⟩ := bind_inv hm
                            refine JL.mv (d := some 144) (MV.call (Lo := []) (Lr := [Asr.of 5 (Enc.int .u8) (SlV.nil.v) ([] : List Int), Asr.blk b126 67 [Seg.of (Enc.arr 32 (Enc.int .u8)) y124], Asr.of 5 (Enc.int .u8) (SlV.nil.v) ([] : List Int), Asr.vw (Enc.int .u8) (s12.v) x13, Asr.vw (Enc.int .u8) (s14.v) x15, Asr.blk b18 49 [Seg.c (.int .i64 x6), Seg.c (.int .i64 x7), Seg.c (.int .i64 x8), Seg.c (.int .i64 x9), Seg.c (.int .i64 x10), Seg.c (.int .u8 x11), Seg.c (s12.v), Seg.c (s14.v)]]) (F37.spec (s12) (x13) _ hc137) rfl Try.func37 rfl rfl rfl [] [0, 1, 2, 3, 4, 5] rfl rfl rfl ⟨(Drv.vw 3 rfl), trivial⟩) rfl rfl rfl ?_
                            rintro _ _ ⟨_, ⟨rfl, rfl⟩, rfl⟩
                            refine JL.val (v := .bool (decide ((1 : Int) = (1 : Int)))) (QV.eql rfl rfl) rfl rfl rfl ?_
                            refine JL.val (v := .bool (decide ((1 : Int) = (1 : Int)))) (QV.pickT rfl rfl) rfl rfl rfl ?_
                            rcases ite_inv hm with ⟨h138, hm⟩ | ⟨h138, hm⟩
                            ·
                              refine JL.val (v := .bool true) (QV.eq (QV.move rfl) (congrArg Value.bool (decide_eq_true h138))) rfl rfl rfl ?_
                              refine JL.val (v := .pointer none) (QV.move rfl) rfl rfl rfl ?_
                              obtain ⟨y139, hc140, hm⟩ := bind_inv hm
                              refine JL.mv (d := some 149) (MV.call (Lo := []) (Lr := [Asr.of 5 (Enc.int .u8) (SlV.nil.v) ([] : List Int), Asr.blk b126 67 [Seg.of (Enc.arr 32 (Enc.int .u8)) y124], Asr.of 5 (Enc.int .u8) (SlV.nil.v) ([] : List Int), Asr.vw (Enc.int .u8) (s12.v) x13, Asr.vw (Enc.int .u8) (s14.v) x15, Asr.blk b18 49 [Seg.c (.int .i64 x6), Seg.c (.int .i64 x7), Seg.c (.int .i64 x8), Seg.c (.int .i64 x9), Seg.c (.int .i64 x10), Seg.c (.int .u8 x11), Seg.c (s12.v), Seg.c (s14.v)]]) (F38_2.spec _ hc140) rfl Try.func38 rfl rfl rfl [] [0, 1, 2, 3, 4, 5] rfl rfl rfl trivial) rfl rfl rfl ?_
                              rintro _ _ ⟨_, ⟨rfl, rfl⟩, rfl⟩
                              refine JL.val (v := .bool (decide ((0 : Int) = (0 : Int)))) (QV.eql rfl rfl) rfl rfl rfl ?_
                              refine JL.val (v := .bool (decide ((0 : Int) = (0 : Int)))) (QV.pickT rfl rfl) rfl rfl rfl ?_
                              rcases ite_inv hm with ⟨h141, hm⟩ | ⟨h141, hm⟩
                              ·
                                refine JL.val (v := .bool true) (QV.eq (QV.move rfl) (congrArg Value.bool (decide_eq_true h141))) rfl rfl rfl ?_
                                obtain ⟨y142, hc143, hm⟩ := bind_inv hm
                                refine JL.mv (d := some 153) (MV.call (Lo := []) (Lr := [Asr.of 5 (Enc.int .u8) (SlV.nil.v) ([] : List Int), Asr.blk b126 67 [Seg.of (Enc.arr 32 (Enc.int .u8)) y124], Asr.of 5 (Enc.int .u8) (SlV.nil.v) ([] : List Int), Asr.vw (Enc.int .u8) (s12.v) x13, Asr.vw (Enc.int .u8) (s14.v) x15, Asr.blk b18 49 [Seg.c (.int .i64 x6), Seg.c (.int .i64 x7), Seg.c (.int .i64 x8), Seg.c (.int .i64 x9), Seg.c (.int .i64 x10), Seg.c (.int .u8 x11), Seg.c (s12.v), Seg.c (s14.v)]]) (F27.spec _ hc143) rfl Try.func27 rfl rfl rfl [] [0, 1, 2, 3, 4, 5] rfl rfl rfl trivial) rfl rfl rfl ?_
                                rintro _ _ ⟨_, ⟨rfl, rfl⟩, rfl⟩
                                refine JL.val (v := .bool y142) (QV.pickT rfl rfl) rfl rfl rfl ?_
                                refine JL.val (v := .bool y142) (QV.assign rfl) rfl rfl rfl ?_
                                refine JL.nil ?_
                                exact QJ.cut_normal (y142, ()) hm [] (by exact ⟨rfl, trivial⟩) rfl rfl
                              ·
                                refine JL.val (v := .bool false) (QV.eq (QV.move rfl) (congrArg Value.bool (decide_eq_false h141))) rfl rfl rfl ?_
                                refine JL.skip (d := some 153) rfl rfl rfl ?_
                                refine JL.val (v := .bool false) (QV.pickF rfl rfl) rfl rfl rfl ?_
                                refine JL.val (v := .bool false) (QV.assign rfl) rfl rfl rfl ?_
                                refine JL.nil ?_
                                exact QJ.cut_normal (false, ()) hm [] (by exact ⟨rfl, trivial⟩) rfl rfl
                            ·
                              refine JL.val (v := .bool false) (QV.eq (QV.move rfl) (congrArg Value.bool (decide_eq_false h138))) rfl rfl rfl ?_
                              refine JL.skip (d := some 148) rfl rfl rfl ?_
                              refine JL.skip (d := some 149) rfl rfl rfl ?_
                              refine JL.skip (d := some 150) rfl rfl rfl ?_
                              refine JL.val (v := .bool false) (QV.pickF rfl rfl) rfl rfl rfl ?_
                              refine JL.val (v := .bool false) (QV.move rfl) rfl rfl rfl ?_
                              refine JL.skip (d := some 153) rfl rfl rfl ?_
                              refine JL.val (v := .bool false) (QV.pickF rfl rfl) rfl rfl rfl ?_
                              refine JL.val (v := .bool false) (QV.assign rfl) rfl rfl rfl ?_
                              refine JL.nil ?_
                              exact QJ.cut_normal (false, ()) hm [] (by exact ⟨rfl, trivial⟩) rfl rfl
                          ·
                            refine JL.val (v := .bool false) (QV.eq (QV.move rfl) (congrArg Value.bool (decide_eq_false h135))) rfl rfl rfl ?_
                            refine JL.skip (d := some 141) rfl rfl rfl ?_
                            refine JL.skip (d := some 142) rfl rfl rfl ?_
                            refine JL.skip (d := some 143) rfl rfl rfl ?_
                            refine JL.skip (d := some 144) rfl rfl rfl ?_
                            refine JL.skip (d := some 145) rfl rfl rfl ?_
                            refine JL.val (v := .bool false) (QV.pickF rfl rfl) rfl rfl rfl ?_
                            refine JL.val (v := .bool false) (QV.move rfl) rfl rfl rfl ?_
                            refine JL.skip (d := some 148) rfl rfl rfl ?_
                            refine JL.skip (d := some 149) rfl rfl rfl ?_
                            refine JL.skip (d := some 150) rfl rfl rfl ?_
                            refine JL.val (v := .bool false) (QV.pickF rfl rfl) rfl rfl rfl ?_
                            refine JL.val (v := .bool false) (QV.move rfl) rfl rfl rfl ?_
                            refine JL.skip (d := some 153) rfl rfl rfl ?_
                            refine JL.val (v := .bool false) (QV.pickF rfl rfl) rfl rfl rfl ?_
                            refine JL.val (v := .bool false) (QV.assign rfl) rfl rfl rfl ?_
                            refine JL.nil ?_
                            exact QJ.cut_normal (false, ()) hm [] (by exact ⟨rfl, trivial⟩) rfl rfl
                        ·
                          refine JL.val (v := .bool false) (QV.eq (QV.move rfl) (congrArg Value.bool (decide_eq_false h132))) rfl rfl rfl ?_
                          refine JL.skip (d := some 130) rfl rfl rfl ?_
                          refine JL.skip (d := some 131) rfl rfl rfl ?_
                          refine JL.skip (d := some 132) rfl rfl rfl ?_
                          refine JL.skip (d := some 133) rfl rfl rfl ?_
                          refine JL.skip (d := some 134) rfl rfl rfl ?_
                          refine JL.skip (d := some 135) rfl rfl rfl ?_
                          refine JL.skip (d := some 136) rfl rfl rfl ?_
                          refine JL.skip (d := some 137) rfl rfl rfl ?_
                          refine JL.skip (d := some 138) rfl rfl rfl ?_
                          refine JL.val (v := .bool false) (QV.pickF rfl rfl) rfl rfl rfl ?_
                          refine JL.val (v := .bool false) (QV.move rfl) rfl rfl rfl ?_
                          refine JL.skip (d := some 141) rfl rfl rfl ?_
                          refine JL.skip (d := some 142) rfl rfl rfl ?_
                          refine JL.skip (d := some 143) rfl rfl rfl ?_
                          refine JL.skip (d := some 144) rfl rfl rfl ?_
                          refine JL.skip (d := some 145) rfl rfl rfl ?_
                          refine JL.val (v := .bool false) (QV.pickF rfl rfl) rfl rfl rfl ?_
                          refine JL.val (v := .bool false) (QV.move rfl) rfl rfl rfl ?_
                          refine JL.skip (d := some 148) rfl rfl rfl ?_
                          refine JL.skip (d := some 149) rfl rfl rfl ?_
                          refine JL.skip (d := some 150) rfl rfl rfl ?_
                          refine JL.val (v := .bool false) (QV.pickF rfl rfl) rfl rfl rfl ?_
                          refine JL.val (v := .bool false) (QV.move rfl) rfl rfl rfl ?_
                          refine JL.skip (d := some 153) rfl rfl rfl ?_
                          refine JL.val (v := .bool false) (QV.pickF rfl rfl) rfl rfl rfl ?_
                          refine JL.val (v := .bool false) (QV.assign rfl) rfl rfl rfl ?_
                          refine JL.nil ?_
                          exact QJ.cut_normal (false, ()) hm [] (by exact ⟨rfl, trivial⟩) rfl rfl
                      ·
                        refine JL.val (v := .bool false) (QV.eq (QV.move rfl) (congrArg Value.bool (decide_eq_false h131))) rfl rfl rfl ?_
                        refine JL.skip (d := some 126) rfl rfl rfl ?_
                        refine JL.skip (d := some 127) rfl rfl rfl ?_
                        refine JL.val (v := .bool false) (QV.pickF rfl rfl) rfl rfl rfl ?_
                        refine JL.val (v := .bool false) (QV.move rfl) rfl rfl rfl ?_
                        refine JL.skip (d := some 130) rfl rfl rfl ?_
                        refine JL.skip (d := some 131) rfl rfl rfl ?_
                        refine JL.skip (d := some 132) rfl rfl rfl ?_
                        refine JL.skip (d := some 133) rfl rfl rfl ?_
                        refine JL.skip (d := some 134) rfl rfl rfl ?_
                        refine JL.skip (d := some 135) rfl rfl rfl ?_
                        refine JL.skip (d := some 136) rfl rfl rfl ?_
                        refine JL.skip (d := some 137) rfl rfl rfl ?_
                        refine JL.skip (d := some 138) rfl rfl rfl ?_
                        refine JL.val (v := .bool false) (QV.pickF rfl rfl) rfl rfl rfl ?_
                        refine JL.val (v := .bool false) (QV.move rfl) rfl rfl rfl ?_
                        refine JL.skip (d := some 141) rfl rfl rfl ?_
                        refine JL.skip (d := some 142) rfl rfl rfl ?_
                        refine JL.skip (d := some 143) rfl rfl rfl ?_
                        refine JL.skip (d := some 144) rfl rfl rfl ?_
                        refine JL.skip (d := some 145) rfl rfl rfl ?_
                        refine JL.val (v := .bool false) (QV.pickF rfl rfl) rfl rfl rfl ?_
                        refine JL.val (v := .bool false) (QV.move rfl) rfl rfl rfl ?_
                        refine JL.skip (d := some 148) rfl rfl rfl ?_
                        refine JL.skip (d := some 149) rfl rfl rfl ?_
                        refine JL.skip (d := some 150) rfl rfl rfl ?_
                        refine JL.val (v := .bool false) (QV.pickF rfl rfl) rfl rfl rfl ?_
                        refine JL.val (v := .bool false) (QV.move rfl) rfl rfl rfl ?_
                        refine JL.skip (d := some 153) rfl rfl rfl ?_
                        refine JL.val (v := .bool false) (QV.pickF rfl rfl) rfl rfl rfl ?_
                        refine JL.val (v := .bool false) (QV.assign rfl) rfl rfl rfl ?_
                        refine JL.nil ?_
                        exact QJ.cut_normal (false, ()) hm [] (by exact ⟨rfl, trivial⟩) rfl rfl
                    ·
                      refine JL.val (v := .bool false) (QV.eq (QV.move rfl) (congrArg Value.bool (decide_eq_false h130))) rfl rfl rfl ?_
                      refine JL.skip (d := some 122) rfl rfl rfl ?_
                      refine JL.skip (d := some 123) rfl rfl rfl ?_
                      refine JL.val (v := .bool false) (QV.pickF rfl rfl) rfl rfl rfl ?_
                      refine JL.val (v := .bool false) (QV.move rfl) rfl rfl rfl ?_
                      refine JL.skip (d := some 126) rfl rfl rfl ?_
                      refine JL.skip (d := some 127) rfl rfl rfl ?_
                      refine JL.val (v := .bool false) (QV.pickF rfl rfl) rfl rfl rfl ?_
                      refine JL.val (v := .bool false) (QV.move rfl) rfl rfl rfl ?_
                      refine JL.skip (d := some 130) rfl rfl rfl ?_
                      refine JL.skip (d := some 131) rfl rfl rfl ?_
                      refine JL.skip (d := some 132) rfl rfl rfl ?_
                      refine JL.skip (d := some 133) rfl rfl rfl ?_
                      refine JL.skip (d := some 134) rfl rfl rfl ?_
                      refine JL.skip (d := some 135) rfl rfl rfl ?_
                      refine JL.skip (d := some 136) rfl rfl rfl ?_
                      refine JL.skip (d := some 137) rfl rfl rfl ?_
                      refine JL.skip (d := some 138) rfl rfl rfl ?_
                      refine JL.val (v := .bool false) (QV.pickF rfl rfl) rfl rfl rfl ?_
                      refine JL.val (v := .bool false) (QV.move rfl) rfl rfl rfl ?_
                      refine JL.skip (d := some 141) rfl rfl rfl ?_
                      refine JL.skip (d := some 142) rfl rfl rfl ?_
                      refine JL.skip (d := some 143) rfl rfl rfl ?_
                      refine JL.skip (d := some 144) rfl rfl rfl ?_
                      refine JL.skip (d := some 145) rfl rfl rfl ?_
                      refine JL.val (v := .bool false) (QV.pickF rfl rfl) rfl rfl rfl ?_
                      refine JL.val (v := .bool false) (QV.move rfl) rfl rfl rfl ?_
                      refine JL.skip (d := some 148) rfl rfl rfl ?_
                      refine JL.skip (d := some 149) rfl rfl rfl ?_
                      refine JL.skip (d := some 150) rfl rfl rfl ?_
                      refine JL.val (v := .bool false) (QV.pickF rfl rfl) rfl rfl rfl ?_
                      refine JL.val (v := .bool false) (QV.move rfl) rfl rfl rfl ?_
                      refine JL.skip (d := some 153) rfl rfl rfl ?_
                      refine JL.val (v := .bool false) (QV.pickF rfl rfl) rfl rfl rfl ?_
                      refine JL.val (v := .bool false) (QV.assign rfl) rfl rfl rfl ?_
                      refine JL.nil ?_
                      exact QJ.cut_normal (false, ()) hm [] (by exact ⟨rfl, trivial⟩) rfl rfl
              ·
                refine JC.region ?_
                refine JL.val (v := .pointer none) (QV.move rfl) rfl rfl rfl ?_
                refine JL.val (v := .bool false) ((QV.eq (QV.neqP Try.underlying53 rfl rfl (.inl rfl)) (by simp))) rfl rfl rfl ?_
                refine JL.val (v := .bool d117) (QV.move rfl) rfl rfl rfl ?_
                refine JL.val (v := .bool (!(false == d117))) (QV.neqB Try.underlying4 rfl rfl) rfl rfl rfl ?_
                rcases ite_inv hm with ⟨h144, hm⟩ | ⟨h144, hm⟩
                ·
                  refine JL.val (v := .bool false) (QV.eq (QV.move rfl) (congrArg Value.bool (congrArg Bool.not h144))) rfl rfl rfl ?_
                  refine JL.val (v := .bool d117) (QV.move rfl) rfl rfl rfl ?_
                  refine JL.val (v := .int .i64 (1 : Int)) (QV.move rfl) rfl rfl rfl ?_
                  refine JL.val (v := .bool (decide ((1 : Int) = (0 : Int)))) (QV.eql rfl rfl) rfl rfl rfl ?_
                  refine JL.val (v := .bool (!(d117 == (decide ((1 : Int) = (0 : Int)))))) (QV.neqB Try.underlying4 rfl rfl) rfl rfl rfl ?_
                  refine JL.val (v := .bool (!(d117 == (decide ((1 : Int) = (0 : Int)))))) (QV.pickF rfl rfl) rfl rfl rfl ?_
                  rcases ite_inv hm with ⟨h145, hm⟩ | ⟨h145, hm⟩
                  ·
                    refine JL.val (v := .bool false) (QV.eq (QV.move rfl) (congrArg Value.bool (congrArg Bool.not h145))) rfl rfl rfl ?_
                    refine JL.val (v := .bool d117) (QV.move rfl) rfl rfl rfl ?_
                    refine JL.val (v := .bool (!d117)) (QV.not rfl) rfl rfl rfl ?_
                    rcases ite_inv hm with ⟨h146, hm⟩ | ⟨h146, hm⟩
                    ·
                      refine JL.val (v := .bool false) (QV.eq (QV.move rfl) (congrArg Value.bool (congrArg Bool.not h146))) rfl rfl rfl ?_
                      refine JL.skip (d := some 85) rfl rfl rfl ?_
                      refine JL.skip (d := some 86) rfl rfl rfl ?_
                      refine JL.val (v := .bool false) (QV.pickF rfl rfl) rfl rfl rfl ?_
                      refine JL.val (v := .bool false) (QV.pickF rfl rfl) rfl rfl rfl ?_
                      refine JL.nil ?_
                      exact QJ.cut_normal (false, ()) hm [0, 1, 2] (by exact ⟨rfl, rfl, trivial⟩) rfl rfl
                    ·
                      refine JL.val (v := .bool true) (QV.eq (QV.move rfl) (congrArg Value.bool (congrArg Bool.not (bfalse h146)))) rfl rfl rfl ?_
                      refine JL.val (v := .int .i64 (1 : Int)) (QV.move rfl) rfl rfl rfl ?_
                      refine JL.val (v := .bool (!(decide ((1 : Int) = (1 : Int))))) (QV.neq rfl rfl) rfl rfl rfl ?_
                      refine JL.val (v := .bool (!(decide ((1 : Int) = (1 : Int))))) (QV.pickT rfl rfl) rfl rfl rfl ?_
                      refine JL.val (v := .bool (!(decide ((1 : Int) = (1 : Int))))) (QV.pickF rfl rfl) rfl rfl rfl ?_
                      refine JL.nil ?_
                      exact QJ.cut_normal ((!(decide ((1 : Int) = (1 : Int)))), ()) hm [0, 1, 2] (by exact ⟨rfl, rfl, trivial⟩) rfl rfl
                  ·
                    refine JL.val (v := .bool true) (QV.eq (QV.move rfl) (congrArg Value.bool (congrArg Bool.not (bfalse h145)))) rfl rfl rfl ?_
                    refine JL.skip (d := some 82) rfl rfl rfl ?_
                    refine JL.skip (d := some 83) rfl rfl rfl ?_
                    refine JL.skip (d := some 84) rfl rfl rfl ?_
                    refine JL.skip (d := some 85) rfl rfl rfl ?_
                    refine JL.skip (d := some 86) rfl rfl rfl ?_
                    refine JL.skip (d := some 87) rfl rfl rfl ?_
                    refine JL.val (v := .bool true) (QV.pickT rfl rfl) rfl rfl rfl ?_
                    refine JL.nil ?_
                    exact QJ.cut_normal (true, ()) hm [0, 1, 2] (by exact ⟨rfl, rfl, trivial⟩) rfl rfl
                ·
                  refine JL.val (v := .bool true) (QV.eq (QV.move rfl) (congrArg Value.bool (congrArg Bool.not (bfalse h144)))) rfl rfl rfl ?_
                  refine JL.skip (d := some 76) rfl rfl rfl ?_
                  refine JL.skip (d := some 77) rfl rfl rfl ?_
                  refine JL.skip (d := some 78) rfl rfl rfl ?_
                  refine JL.skip (d := some 79) rfl rfl rfl ?_
                  refine JL.val (v := .bool true) (QV.pickT rfl rfl) rfl rfl rfl ?_
                  refine JL.val (v := .bool true) (QV.move rfl) rfl rfl rfl ?_
                  refine JL.skip (d := some 82) rfl rfl rfl ?_
                  refine JL.skip (d := some 83) rfl rfl rfl ?_
                  refine JL.skip (d := some 84) rfl rfl rfl ?_
                  refine JL.skip (d := some 85) rfl rfl rfl ?_
                  refine JL.skip (d := some 86) rfl rfl rfl ?_
                  refine JL.skip (d := some 87) rfl rfl rfl ?_
                  refine JL.val (v := .bool true) (QV.pickT rfl rfl) rfl rfl rfl ?_
                  refine JL.nil ?_
                  exact QJ.cut_normal (true, ()) hm [0, 1, 2] (by exact ⟨rfl, rfl, trivial⟩) rfl rfl
            ·
              refine JC.region ?_
              refine JL.val (v := .agg #[.int .i64 x1, .int .i64 x2, .int .i64 x3]) (QV.eq (QV.loadN (ss := [Seg.c (.int .i64 x1), Seg.c (.int .i64 x2), Seg.c (.int .i64 x3)]) 1 0 3 rfl tk_47 rfl rfl rfl rfl) rfl) rfl rfl rfl ?_
              obtain ⟨y147, hc148, hm⟩ := bind_inv hm
              refine JL.mv (d := some 57) (MV.call (Lo := []) (Lr := [Asr.blk b109 102 [Seg.c (.int .i64 x4), Seg.c (.int .i64 x5), Seg.c (z110), Seg.c (z111), Seg.c (.bool false), Seg.c (.int .i64 (0 : Int)), Seg.c (.bool false), Seg.c (.int .i64 (0 : Int)), Seg.c (.int .u64 (0 : Int))], Asr.blk b17 47 [Seg.c (.int .i64 x1), Seg.c (.int .i64 x2), Seg.c (.int .i64 x3)], Asr.vw (Enc.int .u8) (s12.v) x13, Asr.vw (Enc.int .u8) (s14.v) x15, Asr.blk b18 49 [Seg.c (.int .i64 x6), Seg.c (.int .i64 x7), Seg.c (.int .i64 x8), Seg.c (.int .i64 x9), Seg.c (.int .i64 x10), Seg.c (.int .u8 x11), Seg.c (s12.v), Seg.c (s14.v)]]) (F30.spec (x1) (x2) (x3) _ hc148) rfl Try.func30 rfl rfl rfl [] [0, 1, 2, 3, 4] rfl rfl rfl trivial) rfl rfl rfl ?_
              rintro _ _ ⟨_, ⟨rfl, rfl⟩, rfl⟩
              rcases ite_inv hm with ⟨h149, hm⟩ | ⟨h149, hm⟩
              ·
                refine JL.val (v := .bool true) (QV.eq (QV.move rfl) (congrArg Value.bool h149)) rfl rfl rfl ?_
                refine JL.val (v := .pointer (some ⟨b17, 0, none⟩)) (QV.fieldB fo_47_0 rfl rfl) rfl rfl rfl ?_
                refine JL.val (v := .int .i64 x1) (QV.load1 (ss := [Seg.c (.int .i64 x1), Seg.c (.int .i64 x2), Seg.c (.int .i64 x3)]) 1 0 rfl tk_3 rfl rfl rfl) rfl rfl rfl ?_
                refine JL.val (v := .int .i64 x4) (QV.move rfl) rfl rfl rfl ?_
                refine JL.val (v := .bool (decide (x1 = x4))) (QV.eql rfl rfl) rfl rfl rfl ?_
                refine JL.val (v := .bool (decide (x1 = x4))) (QV.pickT rfl rfl) rfl rfl rfl ?_
                rcases ite_inv hm with ⟨h150, hm⟩ | ⟨h150, hm⟩
                ·
                  refine JL.val (v := .bool true) (QV.eq (QV.move rfl) (congrArg Value.bool (decide_eq_true h150))) rfl rfl rfl ?_
                  refine JL.val (v := .agg #[.int .i64 x1, .int .i64 x2, .int .i64 x3]) (QV.eq (QV.loadN (ss := [Seg.c (.int .i64 x1), Seg.c (.int .i64 x2), Seg.c (.int .i64 x3)]) 1 0 3 rfl tk_47 rfl rfl rfl rfl) rfl) rfl rfl rfl ?_
                  obtain ⟨y151, hc152, hm⟩ := bind_inv hm
                  refine JL.mv (d := some 66) (MV.call (Lo := []) (Lr := [Asr.blk b109 102 [Seg.c (.int .i64 x4), Seg.c (.int .i64 x5), Seg.c (z110), Seg.c (z111), Seg.c (.bool false), Seg.c (.int .i64 (0 : Int)), Seg.c (.bool false), Seg.c (.int .i64 (0 : Int)), Seg.c (.int .u64 (0 : Int))], Asr.blk b17 47 [Seg.c (.int .i64 x1), Seg.c (.int .i64 x2), Seg.c (.int .i64 x3)], Asr.vw (Enc.int .u8) (s12.v) x13, Asr.vw (Enc.int .u8) (s14.v) x15, Asr.blk b18 49 [Seg.c (.int .i64 x6), Seg.c (.int .i64 x7), Seg.c (.int .i64 x8), Seg.c (.int .i64 x9), Seg.c (.int .i64 x10), Seg.c (.int .u8 x11), Seg.c (s12.v), Seg.c (s14.v)]]) (F31.spec (x1) (x2) (x3) _ hc152) rfl Try.func31 rfl rfl rfl [] [0, 1, 2, 3, 4] rfl rfl rfl trivial) rfl rfl rfl ?_
                  rintro _ _ ⟨_, ⟨rfl, rfl⟩, rfl⟩
                  refine JL.val (v := .int .i64 y151.2.2.2) (QV.field1 (ss := [Seg.of (Enc.arr 2 (Enc.pair (Enc.int .i64) (Enc.int .i64))) y151.1, Seg.c (.int .i64 (2 : Int)), Seg.c (.int .i64 y151.2.1), Seg.of (Enc.arr 2 (Enc.pair (Enc.int .i64) (Enc.int .i64))) y151.2.2.1, Seg.c (.int .i64 y151.2.2.2)]) 4 to_61_3 tk_3 rfl rfl rfl) rfl rfl rfl ?_
                  refine JL.val (v := .int .i64 x5) (QV.move rfl) rfl rfl rfl ?_
                  refine JL.val (v := .bool (decide (y151.2.2.2 ≤ x5))) (QV.leq rfl rfl) rfl rfl rfl ?_
                  refine JL.val (v := .bool (decide (y151.2.2.2 ≤ x5))) (QV.pickT rfl rfl) rfl rfl rfl ?_
                  refine JL.val (v := .bool (decide (y151.2.2.2 ≤ x5))) (QV.assign rfl) rfl rfl rfl ?_
                  refine JL.nil ?_
                  exact QJ.cut_normal ((decide (y151.2.2.2 ≤ x5)), ()) hm [2, 3, 4] (by exact ⟨rfl, rfl, rfl, rfl, trivial⟩) rfl rfl
                ·
                  refine JL.val (v := .bool false) (QV.eq (QV.move rfl) (congrArg Value.bool (decide_eq_false h150))) rfl rfl rfl ?_
                  refine JL.skip (d := some 65) rfl rfl rfl ?_
                  refine JL.skip (d := some 66) rfl rfl rfl ?_
                  refine JL.skip (d := some 67) rfl rfl rfl ?_
                  refine JL.skip (d := some 68) rfl rfl rfl ?_
                  refine JL.skip (d := some 69) rfl rfl rfl ?_
                  refine JL.val (v := .bool false) (QV.pickF rfl rfl) rfl rfl rfl ?_
                  refine JL.val (v := .bool false) (QV.assign rfl) rfl rfl rfl ?_
                  refine JL.nil ?_
                  exact QJ.cut_normal (false, ()) hm [2, 3, 4] (by exact ⟨rfl, rfl, rfl, rfl, trivial⟩) rfl rfl
              ·
                refine JL.val (v := .bool false) (QV.eq (QV.move rfl) (congrArg Value.bool (bfalse h149))) rfl rfl rfl ?_
                refine JL.skip (d := some 59) rfl rfl rfl ?_
                refine JL.skip (d := some 60) rfl rfl rfl ?_
                refine JL.skip (d := some 61) rfl rfl rfl ?_
                refine JL.skip (d := some 62) rfl rfl rfl ?_
                refine JL.val (v := .bool false) (QV.pickF rfl rfl) rfl rfl rfl ?_
                refine JL.val (v := .bool false) (QV.move rfl) rfl rfl rfl ?_
                refine JL.skip (d := some 65) rfl rfl rfl ?_
                refine JL.skip (d := some 66) rfl rfl rfl ?_
                refine JL.skip (d := some 67) rfl rfl rfl ?_
                refine JL.skip (d := some 68) rfl rfl rfl ?_
                refine JL.skip (d := some 69) rfl rfl rfl ?_
                refine JL.val (v := .bool false) (QV.pickF rfl rfl) rfl rfl rfl ?_
                refine JL.val (v := .bool false) (QV.assign rfl) rfl rfl rfl ?_
                refine JL.nil ?_
                exact QJ.cut_normal (false, ()) hm [2, 3, 4] (by exact ⟨rfl, rfl, rfl, rfl, trivial⟩) rfl rfl
          ·
            refine JC.condT' rfl (congrArg Bool.not (decide_eq_false h116)) ?_
            refine JC.seq ?_
            refine JC.region ?_
            refine JL.val (v := .bool false) (QV.assign rfl) rfl rfl rfl ?_
            refine JL.nil ?_
            refine QJ.then_normal ?_
            refine JC.ret ?_
            refine QJ.then_ret ?_
            obtain rfl := Option.some.inj hm
            exact QJ.body (vs := [.bool false]) (.inl rfl) rfl (ResVs.cons (ResV.tmp rfl) ResVs.nil) [] rfl rfl (.inr trivial) ⟨rfl, rfl⟩
        ·
          refine JL.mv (d := some 51) (MV.call (Lo := [Asr.blk b109 102 [Seg.c (.int .i64 x4), Seg.c (.int .i64 x5), Seg.c (z110), Seg.c (z111), Seg.c (.bool false), Seg.c (.int .i64 (0 : Int)), Seg.c (.bool false), Seg.c (.int .i64 (0 : Int)), Seg.c (.int .u64 (0 : Int))]]) (Lr := [Asr.blk b17 47 [Seg.c (.int .i64 x1), Seg.c (.int .i64 x2), Seg.c (.int .i64 x3)], Asr.vw (Enc.int .u8) (s12.v) x13, Asr.vw (Enc.int .u8) (s14.v) x15, Asr.blk b18 49 [Seg.c (.int .i64 x6), Seg.c (.int .i64 x7), Seg.c (.int .i64 x8), Seg.c (.int .i64 x9), Seg.c (.int .i64 x10), Seg.c (.int .u8 x11), Seg.c (s12.v), Seg.c (s14.v)]]) (F29_1.spec (b109) (z110) (z111) (x4) (x5) (false) ((0 : Int)) (false) ((0 : Int)) ((0 : Int)) (x1) (x2) (x3) _ hc113) rfl Try.func29 rfl rfl rfl [0] [1, 2, 3, 4] rfl rfl rfl trivial) rfl rfl rfl ?_
          rintro _ _ ⟨_, ⟨b153, b154, b155, b156, rfl, rfl⟩, rfl⟩
          refine JL.val (v := .tuple #[.pointer (some ⟨b153, 0, none⟩), .int .i64 (0 : Int)]) (QV.move rfl) rfl rfl rfl ?_
          refine JL.val (v := .pointer (some ⟨b153, 0, none⟩)) (QV.extract (vs := [.pointer (some ⟨b153, 0, none⟩), .int .i64 (0 : Int)]) rfl rfl) rfl rfl rfl ?_
          refine JL.val (v := .int .i64 (0 : Int)) (QV.extract (vs := [.pointer (some ⟨b153, 0, none⟩), .int .i64 (0 : Int)]) rfl rfl) rfl rfl rfl ?_
          refine JL.val (v := .pointer (some ⟨b153, 0, none⟩)) (QV.assign rfl) rfl rfl rfl ?_
          refine JL.val (v := .int .i64 (0 : Int)) (QV.assign rfl) rfl rfl rfl ?_
          refine JL.nil ?_
          refine QJ.then_normal ?_
          refine JC.seq ?_
          refine JC.seq ?_
          refine JC.region ?_
          refine JL.val (v := .int .i64 (0 : Int)) (QV.move rfl) rfl rfl rfl ?_
          refine JL.val (v := .bool (!(decide ((0 : Int) = (0 : Int))))) (QV.neq rfl rfl) rfl rfl rfl ?_
          refine JL.nil ?_
          refine QJ.then_normal ?_
          rcases ite_inv hm with ⟨h157, hm⟩ | ⟨h157, hm⟩
          ·
            refine JC.condF' rfl (congrArg Bool.not (decide_eq_true h157)) ?_
            refine JC.skip ?_
            refine QJ.then_normal ?_
            refine JC.seq ?_
            refine JC.cutK (Y := Bool × Unit) (fun y => match y with | (d158, _) => F10.j11 x7 x8 x9 x10 x11 x13 (d158) = some r) (fun y => match y with | (d158, _) => [(7, .pointer (some ⟨b18, 0, none⟩)), (11, .pointer (some ⟨b153, 0, none⟩)), (12, .int .i64 (0 : Int)), (13, .bool d158)]) (fun y => match y with | (d158, _) => [Asr.vw (Enc.int .u8) (s12.v) x13, Asr.vw (Enc.int .u8) (s14.v) x15, Asr.blk b18 49 [Seg.c (.int .i64 x6), Seg.c (.int .i64 x7), Seg.c (.int .i64 x8), Seg.c (.int .i64 x9), Seg.c (.int .i64 x10), Seg.c (.int .u8 x11), Seg.c (s12.v), Seg.c (s14.v)], Asr.blk b109 102 [Seg.c (.int .i64 x4), Seg.c (.int .i64 x5), Seg.c (z110), Seg.c (z111), Seg.c (.bool false), Seg.c (.int .i64 (0 : Int)), Seg.c (.bool false), Seg.c (.int .i64 (0 : Int)), Seg.c (.int .u64 (0 : Int))], Asr.blk b154 134 [Seg.c (.pointer (some ⟨b109, 0, none⟩)), Seg.c (.int .i64 y115.1), Seg.c (.int .i64 y115.2.1)], Asr.blk b155 134 [Seg.c (.pointer (some ⟨b109, 0, none⟩)), Seg.c (.int .i64 y115.2.2.1), Seg.c (.int .i64 y115.2.2.2.1)], Asr.blk b156 134 [Seg.c (.pointer (some ⟨b109, 0, none⟩)), Seg.c (.int .i64 y115.2.2.2.2.1), Seg.c (.int .i64 y115.2.2.2.2.2)], Asr.blk b153 108 [Seg.c (.int .i64 x1), Seg.c (.int .i64 x2), Seg.c (.int .i64 x3), Seg.c (.pointer (some ⟨b154, 0, none⟩)), Seg.c (.pointer (some ⟨b155, 0, none⟩)), Seg.c (.pointer (some ⟨b156, 0, none⟩))]]) ?_ ?_
            ·
              rintro ⟨d158, ⟨⟩⟩ hm
              unfold F10.j11 at hm
              show QJ _ _ [(7, .pointer (some ⟨b18, 0, none⟩)), (11, .pointer (some ⟨b153, 0, none⟩)), (12, .int .i64 (0 : Int)), (13, .bool d158)] [Asr.vw (Enc.int .u8) (s12.v) x13, Asr.vw (Enc.int .u8) (s14.v) x15, Asr.blk b18 49 [Seg.c (.int .i64 x6), Seg.c (.int .i64 x7), Seg.c (.int .i64 x8), Seg.c (.int .i64 x9), Seg.c (.int .i64 x10), Seg.c (.int .u8 x11), Seg.c (s12.v), Seg.c (s14.v)], Asr.blk b109 102 [Seg.c (.int .i64 x4), Seg.c (.int .i64 x5), Seg.c (z110), Seg.c (z111), Seg.c (.bool false), Seg.c (.int .i64 (0 : Int)), Seg.c (.bool false), Seg.c (.int .i64 (0 : Int)), Seg.c (.int .u64 (0 : Int))], Asr.blk b154 134 [Seg.c (.pointer (some ⟨b109, 0, none⟩)), Seg.c (.int .i64 y115.1), Seg.c (.int .i64 y115.2.1)], Asr.blk b155 134 [Seg.c (.pointer (some ⟨b109, 0, none⟩)), Seg.c (.int .i64 y115.2.2.1), Seg.c (.int .i64 y115.2.2.2.1)], Asr.blk b156 134 [Seg.c (.pointer (some ⟨b109, 0, none⟩)), Seg.c (.int .i64 y115.2.2.2.2.1), Seg.c (.int .i64 y115.2.2.2.2.2)], Asr.blk b153 108 [Seg.c (.int .i64 x1), Seg.c (.int .i64 x2), Seg.c (.int .i64 x3), Seg.c (.pointer (some ⟨b154, 0, none⟩)), Seg.c (.pointer (some ⟨b155, 0, none⟩)), Seg.c (.pointer (some ⟨b156, 0, none⟩))]] _ _
              refine QJ.then_normal ?_
              refine JC.seq ?_
              refine JC.seq ?_
              refine JC.cutK (Y := Bool × Unit) (fun y => match y with | (d159, _) => F10.j12 x7 x8 x9 x10 x11 x13 (d159) = some r) (fun y => match y with | (d159, _) => [(7, .pointer (some ⟨b18, 0, none⟩)), (88, .bool d159)]) (fun y => match y with | (d159, _) => [Asr.vw (Enc.int .u8) (s12.v) x13, Asr.vw (Enc.int .u8) (s14.v) x15, Asr.blk b18 49 [Seg.c (.int .i64 x6), Seg.c (.int .i64 x7), Seg.c (.int .i64 x8), Seg.c (.int .i64 x9), Seg.c (.int .i64 x10), Seg.c (.int .u8 x11), Seg.c (s12.v), Seg.c (s14.v)]]) ?_ ?_
              ·
                rintro ⟨d159, ⟨⟩⟩ hm
                unfold F10.j12 at hm
                show QJ _ _ [(7, .pointer (some ⟨b18, 0, none⟩)), (88, .bool d159)] [Asr.vw (Enc.int .u8) (s12.v) x13, Asr.vw (Enc.int .u8) (s14.v) x15, Asr.blk b18 49 [Seg.c (.int .i64 x6), Seg.c (.int .i64 x7), Seg.c (.int .i64 x8), Seg.c (.int .i64 x9), Seg.c (.int .i64 x10), Seg.c (.int .u8 x11), Seg.c (s12.v), Seg.c (s14.v)]] _ _
                refine QJ.then_normal ?_
                rcases ite_inv hm with ⟨h160, hm⟩ | ⟨h160, hm⟩
                ·
                  refine JC.condT' rfl h160 ?_
                  refine JC.seq ?_
                  refine JC.region ?_
                  refine JL.val (v := .bool false) (QV.assign rfl) rfl rfl rfl ?_
                  refine JL.nil ?_
                  refine QJ.then_normal ?_
                  refine JC.ret ?_
                  refine QJ.then_ret ?_
                  obtain rfl := Option.some.inj hm
                  exact QJ.body (vs := [.bool false]) (.inl rfl) rfl (ResVs.cons (ResV.tmp rfl) ResVs.nil) [] rfl rfl (.inr trivial) ⟨rfl, rfl⟩
                ·
                  refine JC.condF' rfl (bfalse h160) ?_
                  refine JC.skip ?_
                  refine QJ.then_normal ?_
                  refine JC.seq ?_
                  refine JC.region ?_
                  refine JL.val (v := .pointer none) (QV.assign rfl) rfl rfl rfl ?_
                  refine JL.nil ?_
                  refine QJ.then_normal ?_
                  refine JC.seq ?_
                  refine JC.regionT [Asr.vw (Enc.int .u8) (s12.v) x13, Asr.vw (Enc.int .u8) (s14.v) x15, Asr.blk b18 49 [Seg.c (.int .i64 x6), Seg.c (.int .i64 x7), Seg.c (.int .i64 x8), Seg.c (.int .i64 x9), Seg.c (.int .i64 x10), Seg.c (.int .u8 x11), Seg.c (s12.v), Seg.c (s14.v)]] (fun t => false) [(0, true), (1, true), (2, true), (3, true), (4, true), (6, true), (7, true), (8, true), (9, true), (5, false), (10, false), (11, false), (12, true), (13, true), (14, false), (15, false)] (by kernel_rfl) (by kernel_rfl) (by kernel_rfl) rfl (fun hsel => ?_)
                  refine JT.take (i := 0) (v := .pointer none) hsel rfl (QV.move rfl) rfl rfl rfl rfl [0, 1, 2] rfl rfl ?_
                  refine JT.take (i := 1) (v := .pointer (some ⟨b18, 5, none⟩)) hsel rfl (QV.fieldB fo_49_5 rfl rfl) rfl rfl rfl rfl [0, 1, 2] rfl rfl ?_
                  refine JT.take (i := 2) (v := .int .u8 x11) hsel rfl (QV.load1 (ss := [Seg.c (.int .i64 x6), Seg.c (.int .i64 x7), Seg.c (.int .i64 x8), Seg.c (.int .i64 x9), Seg.c (.int .i64 x10), Seg.c (.int .u8 x11), Seg.c (s12.v), Seg.c (s14.v)]) 2 5 rfl tk_5 rfl rfl rfl) rfl rfl rfl rfl [0, 1, 2] rfl rfl ?_
                  refine JT.take (i := 3) (v := .pointer (some ⟨b18, 4, none⟩)) hsel rfl (QV.fieldB fo_49_4 rfl rfl) rfl rfl rfl rfl [0, 1, 2] rfl rfl ?_
                  refine JT.take (i := 4) (v := .int .i64 x10) hsel rfl (QV.load1 (ss := [Seg.c (.int .i64 x6), Seg.c (.int .i64 x7), Seg.c (.int .i64 x8), Seg.c (.int .i64 x9), Seg.c (.int .i64 x10), Seg.c (.int .u8 x11), Seg.c (s12.v), Seg.c (s14.v)]) 2 4 rfl tk_3 rfl rfl rfl) rfl rfl rfl rfl [0, 1, 2] rfl rfl ?_
                  refine JT.take (i := 6) (v := .pointer (some ⟨b18, 2, none⟩)) hsel rfl (QV.fieldB fo_49_2 rfl rfl) rfl rfl rfl rfl [0, 1, 2] rfl rfl ?_
                  refine JT.take (i := 7) (v := .int .i64 x8) hsel rfl (QV.load1 (ss := [Seg.c (.int .i64 x6), Seg.c (.int .i64 x7), Seg.c (.int .i64 x8), Seg.c (.int .i64 x9), Seg.c (.int .i64 x10), Seg.c (.int .u8 x11), Seg.c (s12.v), Seg.c (s14.v)]) 2 2 rfl tk_3 rfl rfl rfl) rfl rfl rfl rfl [0, 1, 2] rfl rfl ?_
                  refine JT.take (i := 8) (v := .pointer (some ⟨b18, 3, none⟩)) hsel rfl (QV.fieldB fo_49_3 rfl rfl) rfl rfl rfl rfl [0, 1, 2] rfl rfl ?_
                  refine JT.take (i := 9) (v := .int .i64 x9) hsel rfl (QV.load1 (ss := [Seg.c (.int .i64 x6), Seg.c (.int .i64 x7), Seg.c (.int .i64 x8), Seg.c (.int .i64 x9), Seg.c (.int .i64 x10), Seg.c (.int .u8 x11), Seg.c (s12.v), Seg.c (s14.v)]) 2 3 rfl tk_3 rfl rfl rfl) rfl rfl rfl rfl [0, 1, 2] rfl rfl ?_
                  obtain ⟨y161, hc162, hm⟩ := bind_inv hm
                  refine JT.only (i := 5) (d := some 95) rfl (MV.call (Lo := []) (Lr := [Asr.vw (Enc.int .u8) (s12.v) x13, Asr.vw (Enc.int .u8) (s14.v) x15, Asr.blk b18 49 [Seg.c (.int .i64 x6), Seg.c (.int .i64 x7), Seg.c (.int .i64 x8), Seg.c (.int .i64 x9), Seg.c (.int .i64 x10), Seg.c (.int .u8 x11), Seg.c (s12.v), Seg.c (s14.v)]]) (F32.spec (x11) (x10) _ hc162) rfl Try.func32 rfl rfl rfl [] [0, 1, 2] rfl rfl rfl trivial) rfl rfl rfl ?_
                  rintro _ _ ⟨_, ⟨rfl, rfl⟩, rfl⟩
                  refine ⟨fun _ => ⟨[0, 1, 2], rfl, rfl⟩, ?_⟩
                  obtain ⟨y163, hc164, hm⟩ := bind_inv hm
                  refine JT.only (i := 10) (d := some 100) rfl (MV.call (Lo := []) (Lr := [Asr.vw (Enc.int .u8) (s12.v) x13, Asr.vw (Enc.int .u8) (s14.v) x15, Asr.blk b18 49 [Seg.c (.int .i64 x6), Seg.c (.int .i64 x7), Seg.c (.int .i64 x8), Seg.c (.int .i64 x9), Seg.c (.int .i64 x10), Seg.c (.int .u8 x11), Seg.c (s12.v), Seg.c (s14.v)]]) (F33.spec (x8) (x9) _ hc164) rfl Try.func33 rfl rfl rfl [] [0, 1, 2] rfl rfl rfl trivial) rfl rfl rfl ?_
                  rintro _ _ ⟨_, ⟨rfl, rfl⟩, rfl⟩
                  refine ⟨fun _ => ⟨[1, 2, 3], rfl, rfl⟩, ?_⟩
                  refine JT.grow [Asr.of 5 (Enc.int .u8) (SlV.nil.v) ([] : List Int), Asr.vw (Enc.int .u8) (s12.v) x13, Asr.vw (Enc.int .u8) (s14.v) x15, Asr.blk b18 49 [Seg.c (.int .i64 x6), Seg.c (.int .i64 x7), Seg.c (.int .i64 x8), Seg.c (.int .i64 x9), Seg.c (.int .i64 x10), Seg.c (.int .u8 x11), Seg.c (s12.v), Seg.c (s14.v)]] [1, 2, 3] rfl rfl ?_
                  refine JT.only (i := 11) (d := some 89) rfl (MV.ofQV (v := .tuple #[SlV.nil.v, .int .i64 (5 : Int)]) (QV.move rfl)) rfl rfl rfl ?_
                  rintro _ _ ⟨rfl, rfl⟩
                  refine ⟨fun _ => ⟨[0, 1, 2, 3], rfl, rfl⟩, ?_⟩
                  refine JT.take (i := 12) (v := SlV.nil.v) hsel rfl (QV.extract (vs := [SlV.nil.v, .int .i64 (5 : Int)]) rfl rfl) rfl rfl rfl rfl [0, 1, 2, 3] rfl rfl ?_
                  refine JT.take (i := 13) (v := .int .i64 (5 : Int)) hsel rfl (QV.extract (vs := [SlV.nil.v, .int .i64 (5 : Int)]) rfl rfl) rfl rfl rfl rfl [0, 1, 2, 3] rfl rfl ?_
                  refine JT.only (i := 14) (d := some 15) rfl (MV.ofQV (v := SlV.nil.v) (QV.assign rfl)) rfl rfl rfl ?_
                  rintro _ _ ⟨rfl, rfl⟩
                  refine ⟨fun _ => ⟨[0, 1, 2, 3], rfl, rfl⟩, ?_⟩
                  refine JT.only (i := 15) (d := some 16) rfl (MV.ofQV (v := .int .i64 (5 : Int)) (QV.assign rfl)) rfl rfl rfl ?_
                  rintro _ _ ⟨rfl, rfl⟩
                  refine ⟨fun _ => ⟨[0, 1, 2, 3], rfl, rfl⟩, ?_⟩
                  refine JT.nil ?_
                  refine QJ.then_normal ?_
                  refine JC.seq ?_
                  refine JC.region ?_
                  refine JL.val (v := .pointer none) (QV.move rfl) rfl rfl rfl ?_
                  refine JL.val (v := .pointer (some ⟨b18, 5, none⟩)) (QV.fieldB fo_49_5 rfl rfl) rfl rfl rfl ?_
                  refine JL.val (v := .int .u8 x11) (QV.load1 (ss := [Seg.c (.int .i64 x6), Seg.c (.int .i64 x7), Seg.c (.int .i64 x8), Seg.c (.int .i64 x9), Seg.c (.int .i64 x10), Seg.c (.int .u8 x11), Seg.c (s12.v), Seg.c (s14.v)]) 3 5 rfl tk_5 rfl rfl rfl) rfl rfl rfl ?_
                  refine JL.val (v := .pointer (some ⟨b18, 3, none⟩)) (QV.fieldB fo_49_3 rfl rfl) rfl rfl rfl ?_
                  refine JL.val (v := .int .i64 x9) (QV.load1 (ss := [Seg.c (.int .i64 x6), Seg.c (.int .i64 x7), Seg.c (.int .i64 x8), Seg.c (.int .i64 x9), Seg.c (.int .i64 x10), Seg.c (.int .u8 x11), Seg.c (s12.v), Seg.c (s14.v)]) 3 3 rfl tk_3 rfl rfl rfl) rfl rfl rfl ?_
                  obtain ⟨y165, hc166, hm⟩ := bind_inv hm
                  refine JL.mv (d := some 109) (MV.call (Lo := []) (Lr := [Asr.of 5 (Enc.int .u8) (SlV.nil.v) ([] : List Int), Asr.vw (Enc.int .u8) (s12.v) x13, Asr.vw (Enc.int .u8) (s14.v) x15, Asr.blk b18 49 [Seg.c (.int .i64 x6), Seg.c (.int .i64 x7), Seg.c (.int .i64 x8), Seg.c (.int .i64 x9), Seg.c (.int .i64 x10), Seg.c (.int .u8 x11), Seg.c (s12.v), Seg.c (s14.v)]]) (F34.spec (x11) (x9) _ hc166) rfl Try.func34 rfl rfl rfl [] [0, 1, 2, 3] rfl rfl rfl trivial) rfl rfl rfl ?_
                  rintro _ _ ⟨_, ⟨rfl, rfl⟩, rfl⟩
                  refine JL.val (v := .tuple #[.agg (((Enc.arr 32 (Enc.int .u8))).enc y165).toArray, .int .i64 (1 : Int)]) (QV.move rfl) rfl rfl rfl ?_
                  refine JL.val (v := .agg (((Enc.arr 32 (Enc.int .u8))).enc y165).toArray) (QV.extract (vs := [.agg (((Enc.arr 32 (Enc.int .u8))).enc y165).toArray, .int .i64 (1 : Int)]) rfl rfl) rfl rfl rfl ?_
                  refine JL.val (v := .int .i64 (1 : Int)) (QV.extract (vs := [.agg (((Enc.arr 32 (Enc.int .u8))).enc y165).toArray, .int .i64 (1 : Int)]) rfl rfl) rfl rfl rfl ?_
                  refine JL.mv (d := some 17) (MV.alloc [Seg.of (Enc.arr 32 (Enc.int .u8)) (Arr.rep 32 (0 : Int))] z_67 rfl) rfl rfl rfl ?_
                  rintro _ _ ⟨b167, rfl, rfl⟩
                  refine JL.mv (d := none) (MV.store (ss := [Seg.of (Enc.arr 32 (Enc.int .u8)) (Arr.rep 32 (0 : Int))]) 0 0 1 [Seg.of (Enc.arr 32 (Enc.int .u8)) y165] rfl tk_67 rfl rfl rfl rfl (fun w hs => ⟨rfl, one_of _ _, trivial⟩)) rfl rfl rfl ?_
                  rintro _ _ ⟨rfl, rfl⟩
                  refine JL.val (v := .int .i64 (1 : Int)) (QV.assign rfl) rfl rfl rfl ?_
                  refine JL.nil ?_
                  refine QJ.then_normal ?_
                  refine JC.seq ?_
                  refine JC.region ?_
                  refine JL.val (v := .pointer none) (QV.move rfl) rfl rfl rfl ?_
                  refine JL.val (v := .pointer (some ⟨b18, 3, none⟩)) (QV.fieldB fo_49_3 rfl rfl) rfl rfl rfl ?_
                  refine JL.val (v := .int .i64 x9) (QV.load1 (ss := [Seg.c (.int .i64 x6), Seg.c (.int .i64 x7), Seg.c (.int .i64 x8), Seg.c (.int .i64 x9), Seg.c (.int .i64 x10), Seg.c (.int .u8 x11), Seg.c (s12.v), Seg.c (s14.v)]) 4 3 rfl tk_3 rfl rfl rfl) rfl rfl rfl ?_
                  obtain ⟨y168, hc169, hm⟩ := bind_inv hm
                  refine JL.mv (d := some 116) (MV.call (Lo := []) (Lr := [Asr.blk b167 67 [Seg.of (Enc.arr 32 (Enc.int .u8)) y165], Asr.of 5 (Enc.int .u8) (SlV.nil.v) ([] : List Int), Asr.vw (Enc.int .u8) (s12.v) x13, Asr.vw (Enc.int .u8) (s14.v) x15, Asr.blk b18 49 [Seg.c (.int .i64 x6), Seg.c (.int .i64 x7), Seg.c (.int .i64 x8), Seg.c (.int .i64 x9), Seg.c (.int .i64 x10), Seg.c (.int .u8 x11), Seg.c (s12.v), Seg.c (s14.v)]]) (F35.spec (x9) _ hc169) rfl Try.func35 rfl rfl rfl [] [0, 1, 2, 3, 4] rfl rfl rfl trivial) rfl rfl rfl ?_
                  rintro _ _ ⟨_, ⟨rfl, rfl⟩, rfl⟩
                  refine JL.val (v := .tuple #[SlV.nil.v, .int .i64 (1 : Int)]) (QV.move rfl) rfl rfl rfl ?_
                  refine JL.val (v := SlV.nil.v) (QV.extract (vs := [SlV.nil.v, .int .i64 (1 : Int)]) rfl rfl) rfl rfl rfl ?_
                  refine JL.val (v := .int .i64 (1 : Int)) (QV.extract (vs := [SlV.nil.v, .int .i64 (1 : Int)]) rfl rfl) rfl rfl rfl ?_
                  refine JL.val (v := SlV.nil.v) (QV.assign rfl) rfl rfl rfl ?_
                  refine JL.val (v := .int .i64 (1 : Int)) (QV.assign rfl) rfl rfl rfl ?_
                  refine JL.nil ?_
                  refine QJ.then_normal ?_
                  refine JC.seq ?_
                  refine JC.cutK (Y := Bool × Unit) (fun y => match y with | (d170, _) => F10.j13 (d170) = some r) (fun y => match y with | (d170, _) => [(8, .bool d170)]) (fun y => match y with | (d170, _) => []) ?_ ?_
                  ·
                    rintro ⟨d170, ⟨⟩⟩ hm
                    unfold F10.j13 at hm
                    show QJ _ _ [(8, .bool d170)] [] _ _
                    refine QJ.then_normal ?_
                    refine JC.ret ?_
                    obtain rfl := Option.some.inj hm
                    exact QJ.body (vs := [.bool d170]) (.inl rfl) rfl (ResVs.cons (ResV.tmp rfl) ResVs.nil) [] rfl rfl (.inr trivial) ⟨rfl, rfl⟩
                  ·
                    refine JC.region ?_
                    refine JL.val (v := .int .i64 (5 : Int)) (QV.move rfl) rfl rfl rfl ?_
                    refine JL.val (v := .bool (decide ((5 : Int) = (5 : Int)))) (QV.eql rfl rfl) rfl rfl rfl ?_
                    rcases ite_inv hm with ⟨h171, hm⟩ | ⟨h171, hm⟩
                    ·
                      refine JL.val (v := .bool true) (QV.eq (QV.move rfl) (congrArg Value.bool (decide_eq_true h171))) rfl rfl rfl ?_
                      refine JL.val (v := .int .i64 (1 : Int)) (QV.move rfl) rfl rfl rfl ?_
                      refine JL.val (v := .bool (decide ((1 : Int) = (1 : Int)))) (QV.eql rfl rfl) rfl rfl rfl ?_
                      refine JL.val (v := .bool (decide ((1 : Int) = (1 : Int)))) (QV.pickT rfl rfl) rfl rfl rfl ?_
                      rcases ite_inv hm with ⟨h172, hm⟩ | ⟨h172, hm⟩
                      ·
                        refine JL.val (v := .bool true) (QV.eq (QV.move rfl) (congrArg Value.bool (decide_eq_true h172))) rfl rfl rfl ?_
                        refine JL.val (v := .int .i64 (1 : Int)) (QV.move rfl) rfl rfl rfl ?_
                        refine JL.val (v := .bool (decide ((1 : Int) = (1 : Int)))) (QV.eql rfl rfl) rfl rfl rfl ?_
                        refine JL.val (v := .bool (decide ((1 : Int) = (1 : Int)))) (QV.pickT rfl rfl) rfl rfl rfl ?_
                        rcases ite_inv hm with ⟨h173, hm⟩ | ⟨h173, hm⟩
                        ·
                          refine JL.val (v := .bool true) (QV.eq (QV.move rfl) (congrArg Value.bool (decide_eq_true h173))) rfl rfl rfl ?_
                          refine JL.val (v := .pointer none) (QV.move rfl) rfl rfl rfl ?_
                          refine JL.val (v := .pointer (some ⟨b18, 5, none⟩)) (QV.fieldB fo_49_5 rfl rfl) rfl rfl rfl ?_
                          refine JL.val (v := .int .u8 x11) (QV.load1 (ss := [Seg.c (.int .i64 x6), Seg.c (.int .i64 x7), Seg.c (.int .i64 x8), Seg.c (.int .i64 x9), Seg.c (.int .i64 x10), Seg.c (.int .u8 x11), Seg.c (s12.v), Seg.c (s14.v)]) 5 5 rfl tk_5 rfl rfl rfl) rfl rfl rfl ?_
                          refine JL.val (v := .pointer (some ⟨b18, 1, none⟩)) (QV.fieldB fo_49_1 rfl rfl) rfl rfl rfl ?_
                          refine JL.val (v := .int .i64 x7) (QV.load1 (ss := [Seg.c (.int .i64 x6), Seg.c (.int .i64 x7), Seg.c (.int .i64 x8), Seg.c (.int .i64 x9), Seg.c (.int .i64 x10), Seg.c (.int .u8 x11), Seg.c (s12.v), Seg.c (s14.v)]) 5 1 rfl tk_3 rfl rfl rfl) rfl rfl rfl ?_
                          refine JL.val (v := .pointer (some ⟨b18, 6, none⟩)) (QV.fieldB fo_49_6 rfl rfl) rfl rfl rfl ?_
                          refine JL.val (v := s12.v) (QV.load1 (ss := [Seg.c (.int .i64 x6), Seg.c (.int .i64 x7), Seg.c (.int .i64 x8), Seg.c (.int .i64 x9), Seg.c (.int .i64 x10), Seg.c (.int .u8 x11), Seg.c (s12.v), Seg.c (s14.v)]) 5 6 rfl tk_34 rfl rfl rfl) rfl rfl rfl ?_
                          obtain ⟨y174, hc175, hm⟩ := bind_inv hm
                          refine JL.mv (d := some 137) (MV.call (Lo := []) (Lr := [Asr.of 5 (Enc.int .u8) (SlV.nil.v) ([] : List Int), Asr.blk b167 67 [Seg.of (Enc.arr 32 (Enc.int .u8)) y165], Asr.of 5 (Enc.int .u8) (SlV.nil.v) ([] : List Int), Asr.vw (Enc.int .u8) (s12.v) x13, Asr.vw (Enc.int .u8) (s14.v) x15, Asr.blk b18 49 [Seg.c (.int .i64 x6), Seg.c (.int .i64 x7), Seg.c (.int .i64 x8), Seg.c (.int .i64 x9), Seg.c (.int .i64 x10), Seg.c (.int .u8 x11), Seg.c (s12.v), Seg.c (s14.v)]]) (F36.spec (s12) (x11) (x7) (x13) _ hc175) rfl Try.func36 rfl rfl rfl [] [0, 1, 2, 3, 4, 5] rfl rfl rfl ⟨(Drv.vw 3 rfl), trivial⟩) rfl rfl rfl ?_
                          rintro _ _ ⟨_, ⟨rfl, rfl⟩, rfl⟩
                          refine JL.val (v := .bool (decide ((1 : Int) = (1 : Int)))) (QV.eql rfl rfl) rfl rfl rfl ?_
                          refine JL.val (v := .bool (decide ((1 : Int) = (1 : Int)))) (QV.pickT rfl rfl) rfl rfl rfl ?_
                          rcases ite_inv hm with ⟨h176, hm⟩ | ⟨h176, hm⟩
                          ·
                            refine JL.val (v := .bool true) (QV.eq (QV.move rfl) (congrArg Value.bool (decide_eq_true h176))) rfl rfl rfl ?_
                            refine JL.val (v := .pointer none) (QV.move rfl) rfl rfl rfl ?_
                            refine JL.val (v := .pointer (some ⟨b18, 6, none⟩)) (QV.fieldB fo_49_6 rfl rfl) rfl rfl rfl ?_
                            refine JL.val (v := s12.v) (QV.load1 (ss := [Seg.c (.int .i64 x6), Seg.c (.int .i64 x7), Seg.c (.int .i64 x8), Seg.c (.int .i64 x9), Seg.c (.int .i64 x10), Seg.c (.int .u8 x11), Seg.c (s12.v), Seg.c (s14.v)]) 5 6 rfl tk_34 rfl rfl rfl) rfl rfl rfl ?_
                            obtain ⟨y177, hc178, hm⟩ := bind_inv hm
                            refine JL.mv (d := some 144) (MV.call (Lo := []) (Lr := [Asr.of 5 (Enc.int .u8) (SlV.nil.v) ([] : List Int), Asr.blk b167 67 [Seg.of (Enc.arr 32 (Enc.int .u8)) y165], Asr.of 5 (Enc.int .u8) (SlV.nil.v) ([] : List Int), Asr.vw (Enc.int .u8) (s12.v) x13, Asr.vw (Enc.int .u8) (s14.v) x15, Asr.blk b18 49 [Seg.c (.int .i64 x6), Seg.c (.int .i64 x7), Seg.c (.int .i64 x8), Seg.c (.int .i64 x9), Seg.c (.int .i64 x10), Seg.c (.int .u8 x11), Seg.c (s12.v), Seg.c (s14.v)]]) (F37.spec (s12) (x13) _ hc178) rfl Try.func37 rfl rfl rfl [] [0, 1, 2, 3, 4, 5] rfl rfl rfl ⟨(Drv.vw 3 rfl), trivial⟩) rfl rfl rfl ?_
                            rintro _ _ ⟨_, ⟨rfl, rfl⟩, rfl⟩
                            refine JL.val (v := .bool (decide ((1 : Int) = (1 : Int)))) (QV.eql rfl rfl) rfl rfl rfl ?_
                            refine JL.val (v := .bool (decide ((1 : Int) = (1 : Int)))) (QV.pickT rfl rfl) rfl rfl rfl ?_
                            rcases ite_inv hm with ⟨h179, hm⟩ | ⟨h179, hm⟩
                            ·
                              refine JL.val (v := .bool true) (QV.eq (QV.move rfl) (congrArg Value.bool (decide_eq_true h179))) rfl rfl rfl ?_
                              refine JL.val (v := .pointer none) (QV.move rfl) rfl rfl rfl ?_
                              obtain ⟨y180, hc181, hm⟩ := bind_inv hm
                              refine JL.mv (d := some 149) (MV.call (Lo := []) (Lr := [Asr.of 5 (Enc.int .u8) (SlV.nil.v) ([] : List Int), Asr.blk b167 67 [Seg.of (Enc.arr 32 (Enc.int .u8)) y165], Asr.of 5 (Enc.int .u8) (SlV.nil.v) ([] : List Int), Asr.vw (Enc.int .u8) (s12.v) x13, Asr.vw (Enc.int .u8) (s14.v) x15, Asr.blk b18 49 [Seg.c (.int .i64 x6), Seg.c (.int .i64 x7), Seg.c (.int .i64 x8), Seg.c (.int .i64 x9), Seg.c (.int .i64 x10), Seg.c (.int .u8 x11), Seg.c (s12.v), Seg.c (s14.v)]]) (F38_2.spec _ hc181) rfl Try.func38 rfl rfl rfl [] [0, 1, 2, 3, 4, 5] rfl rfl rfl trivial) rfl rfl rfl ?_
                              rintro _ _ ⟨_, ⟨rfl, rfl⟩, rfl⟩
                              refine JL.val (v := .bool (decide ((0 : Int) = (0 : Int)))) (QV.eql rfl rfl) rfl rfl rfl ?_
                              refine JL.val (v := .bool (decide ((0 : Int) = (0 : Int)))) (QV.pickT rfl rfl) rfl rfl rfl ?_
                              rcases ite_inv hm with ⟨h182, hm⟩ | ⟨h182, hm⟩
                              ·
                                refine JL.val (v := .bool true) (QV.eq (QV.move rfl) (congrArg Value.bool (decide_eq_true h182))) rfl rfl rfl ?_
                                obtain ⟨y183, hc184, hm⟩ := bind_inv hm
                                refine JL.mv (d := some 153) (MV.call (Lo := []) (Lr := [Asr.of 5 (Enc.int .u8) (SlV.nil.v) ([] : List Int), Asr.blk b167 67 [Seg.of (Enc.arr 32 (Enc.int .u8)) y165], Asr.of 5 (Enc.int .u8) (SlV.nil.v) ([] : List Int), Asr.vw (Enc.int .u8) (s12.v) x13, Asr.vw (Enc.int .u8) (s14.v) x15, Asr.blk b18 49 [Seg.c (.int .i64 x6), Seg.c (.int .i64 x7), Seg.c (.int .i64 x8), Seg.c (.int .i64 x9), Seg.c (.int .i64 x10), Seg.c (.int .u8 x11), Seg.c (s12.v), Seg.c (s14.v)]]) (F27.spec _ hc184) rfl Try.func27 rfl rfl rfl [] [0, 1, 2, 3, 4, 5] rfl rfl rfl trivial) rfl rfl rfl ?_
                                rintro _ _ ⟨_, ⟨rfl, rfl⟩, rfl⟩
                                refine JL.val (v := .bool y183) (QV.pickT rfl rfl) rfl rfl rfl ?_
                                refine JL.val (v := .bool y183) (QV.assign rfl) rfl rfl rfl ?_
                                refine JL.nil ?_
                                exact QJ.cut_normal (y183, ()) hm [] (by exact ⟨rfl, trivial⟩) rfl rfl
                              ·
                                refine JL.val (v := .bool false) (QV.eq (QV.move rfl) (congrArg Value.bool (decide_eq_false h182))) rfl rfl rfl ?_
                                refine JL.skip (d := some 153) rfl rfl rfl ?_
                                refine JL.val (v := .bool false) (QV.pickF rfl rfl) rfl rfl rfl ?_
                                refine JL.val (v := .bool false) (QV.assign rfl) rfl rfl rfl ?_
                                refine JL.nil ?_
                                exact QJ.cut_normal (false, ()) hm [] (by exact ⟨rfl, trivial⟩) rfl rfl
                            ·
                              refine JL.val (v := .bool false) (QV.eq (QV.move rfl) (congrArg Value.bool (decide_eq_false h179))) rfl rfl rfl ?_
                              refine JL.skip (d := some 148) rfl rfl rfl ?_
                              refine JL.skip (d := some 149) rfl rfl rfl ?_
                              refine JL.skip (d := some 150) rfl rfl rfl ?_
                              refine JL.val (v := .bool false) (QV.pickF rfl rfl) rfl rfl rfl ?_
                              refine JL.val (v := .bool false) (QV.move rfl) rfl rfl rfl ?_
                              refine JL.skip (d := some 153) rfl rfl rfl ?_
                              refine JL.val (v := .bool false) (QV.pickF rfl rfl) rfl rfl rfl ?_
                              refine JL.val (v := .bool false) (QV.assign rfl) rfl rfl rfl ?_
                              refine JL.nil ?_
                              exact QJ.cut_normal (false, ()) hm [] (by exact ⟨rfl, trivial⟩) rfl rfl
                          ·
                            refine JL.val (v := .bool false) (QV.eq (QV.move rfl) (congrArg Value.bool (decide_eq_false h176))) rfl rfl rfl ?_
                            refine JL.skip (d := some 141) rfl rfl rfl ?_
                            refine JL.skip (d := some 142) rfl rfl rfl ?_
                            refine JL.skip (d := some 143) rfl rfl rfl ?_
                            refine JL.skip (d := some 144) rfl rfl rfl ?_
                            refine JL.skip (d := some 145) rfl rfl rfl ?_
                            refine JL.val (v := .bool false) (QV.pickF rfl rfl) rfl rfl rfl ?_
                            refine JL.val (v := .bool false) (QV.move rfl) rfl rfl rfl ?_
                            refine JL.skip (d := some 148) rfl rfl rfl ?_
                            refine JL.skip (d := some 149) rfl rfl rfl ?_
                            refine JL.skip (d := some 150) rfl rfl rfl ?_
                            refine JL.val (v := .bool false) (QV.pickF rfl rfl) rfl rfl rfl ?_
                            refine JL.val (v := .bool false) (QV.move rfl) rfl rfl rfl ?_
                            refine JL.skip (d := some 153) rfl rfl rfl ?_
                            refine JL.val (v := .bool false) (QV.pickF rfl rfl) rfl rfl rfl ?_
                            refine JL.val (v := .bool false) (QV.assign rfl) rfl rfl rfl ?_
                            refine JL.nil ?_
                            exact QJ.cut_normal (false, ()) hm [] (by exact ⟨rfl, trivial⟩) rfl rfl
                        ·
                          refine JL.val (v := .bool false) (QV.eq (QV.move rfl) (congrArg Value.bool (decide_eq_false h173))) rfl rfl rfl ?_
                          refine JL.skip (d := some 130) rfl rfl rfl ?_
                          refine JL.skip (d := some 131) rfl rfl rfl ?_
                          refine JL.skip (d := some 132) rfl rfl rfl ?_
                          refine JL.skip (d := some 133) rfl rfl rfl ?_
                          refine JL.skip (d := some 134) rfl rfl rfl ?_
                          refine JL.skip (d := some 135) rfl rfl rfl ?_
                          refine JL.skip (d := some 136) rfl rfl rfl ?_
                          refine JL.skip (d := some 137) rfl rfl rfl ?_
                          refine JL.skip (d := some 138) rfl rfl rfl ?_
                          refine JL.val (v := .bool false) (QV.pickF rfl rfl) rfl rfl rfl ?_
                          refine JL.val (v := .bool false) (QV.move rfl) rfl rfl rfl ?_
                          refine JL.skip (d := some 141) rfl rfl rfl ?_
                          refine JL.skip (d := some 142) rfl rfl rfl ?_
                          refine JL.skip (d := some 143) rfl rfl rfl ?_
                          refine JL.skip (d := some 144) rfl rfl rfl ?_
                          refine JL.skip (d := some 145) rfl rfl rfl ?_
                          refine JL.val (v := .bool false) (QV.pickF rfl rfl) rfl rfl rfl ?_
                          refine JL.val (v := .bool false) (QV.move rfl) rfl rfl rfl ?_
                          refine JL.skip (d := some 148) rfl rfl rfl ?_
                          refine JL.skip (d := some 149) rfl rfl rfl ?_
                          refine JL.skip (d := some 150) rfl rfl rfl ?_
                          refine JL.val (v := .bool false) (QV.pickF rfl rfl) rfl rfl rfl ?_
                          refine JL.val (v := .bool false) (QV.move rfl) rfl rfl rfl ?_
                          refine JL.skip (d := some 153) rfl rfl rfl ?_
                          refine JL.val (v := .bool false) (QV.pickF rfl rfl) rfl rfl rfl ?_
                          refine JL.val (v := .bool false) (QV.assign rfl) rfl rfl rfl ?_
                          refine JL.nil ?_
                          exact QJ.cut_normal (false, ()) hm [] (by exact ⟨rfl, trivial⟩) rfl rfl
                      ·
                        refine JL.val (v := .bool false) (QV.eq (QV.move rfl) (congrArg Value.bool (decide_eq_false h172))) rfl rfl rfl ?_
                        refine JL.skip (d := some 126) rfl rfl rfl ?_
                        refine JL.skip (d := some 127) rfl rfl rfl ?_
                        refine JL.val (v := .bool false) (QV.pickF rfl rfl) rfl rfl rfl ?_
                        refine JL.val (v := .bool false) (QV.move rfl) rfl rfl rfl ?_
                        refine JL.skip (d := some 130) rfl rfl rfl ?_
                        refine JL.skip (d := some 131) rfl rfl rfl ?_
                        refine JL.skip (d := some 132) rfl rfl rfl ?_
                        refine JL.skip (d := some 133) rfl rfl rfl ?_
                        refine JL.skip (d := some 134) rfl rfl rfl ?_
                        refine JL.skip (d := some 135) rfl rfl rfl ?_
                        refine JL.skip (d := some 136) rfl rfl rfl ?_
                        refine JL.skip (d := some 137) rfl rfl rfl ?_
                        refine JL.skip (d := some 138) rfl rfl rfl ?_
                        refine JL.val (v := .bool false) (QV.pickF rfl rfl) rfl rfl rfl ?_
                        refine JL.val (v := .bool false) (QV.move rfl) rfl rfl rfl ?_
                        refine JL.skip (d := some 141) rfl rfl rfl ?_
                        refine JL.skip (d := some 142) rfl rfl rfl ?_
                        refine JL.skip (d := some 143) rfl rfl rfl ?_
                        refine JL.skip (d := some 144) rfl rfl rfl ?_
                        refine JL.skip (d := some 145) rfl rfl rfl ?_
                        refine JL.val (v := .bool false) (QV.pickF rfl rfl) rfl rfl rfl ?_
                        refine JL.val (v := .bool false) (QV.move rfl) rfl rfl rfl ?_
                        refine JL.skip (d := some 148) rfl rfl rfl ?_
                        refine JL.skip (d := some 149) rfl rfl rfl ?_
                        refine JL.skip (d := some 150) rfl rfl rfl ?_
                        refine JL.val (v := .bool false) (QV.pickF rfl rfl) rfl rfl rfl ?_
                        refine JL.val (v := .bool false) (QV.move rfl) rfl rfl rfl ?_
                        refine JL.skip (d := some 153) rfl rfl rfl ?_
                        refine JL.val (v := .bool false) (QV.pickF rfl rfl) rfl rfl rfl ?_
                        refine JL.val (v := .bool false) (QV.assign rfl) rfl rfl rfl ?_
                        refine JL.nil ?_
                        exact QJ.cut_normal (false, ()) hm [] (by exact ⟨rfl, trivial⟩) rfl rfl
                    ·
                      refine JL.val (v := .bool false) (QV.eq (QV.move rfl) (congrArg Value.bool (decide_eq_false h171))) rfl rfl rfl ?_
                      refine JL.skip (d := some 122) rfl rfl rfl ?_
                      refine JL.skip (d := some 123) rfl rfl rfl ?_
                      refine JL.val (v := .bool false) (QV.pickF rfl rfl) rfl rfl rfl ?_
                      refine JL.val (v := .bool false) (QV.move rfl) rfl rfl rfl ?_
                      refine JL.skip (d := some 126) rfl rfl rfl ?_
                      refine JL.skip (d := some 127) rfl rfl rfl ?_
                      refine JL.val (v := .bool false) (QV.pickF rfl rfl) rfl rfl rfl ?_
                      refine JL.val (v := .bool false) (QV.move rfl) rfl rfl rfl ?_
                      refine JL.skip (d := some 130) rfl rfl rfl ?_
                      refine JL.skip (d := some 131) rfl rfl rfl ?_
                      refine JL.skip (d := some 132) rfl rfl rfl ?_
                      refine JL.skip (d := some 133) rfl rfl rfl ?_
                      refine JL.skip (d := some 134) rfl rfl rfl ?_
                      refine JL.skip (d := some 135) rfl rfl rfl ?_
                      refine JL.skip (d := some 136) rfl rfl rfl ?_
                      refine JL.skip (d := some 137) rfl rfl rfl ?_
                      refine JL.skip (d := some 138) rfl rfl rfl ?_
                      refine JL.val (v := .bool false) (QV.pickF rfl rfl) rfl rfl rfl ?_
                      refine JL.val (v := .bool false) (QV.move rfl) rfl rfl rfl ?_
                      refine JL.skip (d := some 141) rfl rfl rfl ?_
                      refine JL.skip (d := some 142) rfl rfl rfl ?_
                      refine JL.skip (d := some 143) rfl rfl rfl ?_
                      refine JL.skip (d := some 144) rfl rfl rfl ?_
                      refine JL.skip (d := some 145) rfl rfl rfl ?_
                      refine JL.val (v := .bool false) (QV.pickF rfl rfl) rfl rfl rfl ?_
                      refine JL.val (v := .bool false) (QV.move rfl) rfl rfl rfl ?_
                      refine JL.skip (d := some 148) rfl rfl rfl ?_
                      refine JL.skip (d := some 149) rfl rfl rfl ?_
                      refine JL.skip (d := some 150) rfl rfl rfl ?_
                      refine JL.val (v := .bool false) (QV.pickF rfl rfl) rfl rfl rfl ?_
                      refine JL.val (v := .bool false) (QV.move rfl) rfl rfl rfl ?_
                      refine JL.skip (d := some 153) rfl rfl rfl ?_
                      refine JL.val (v := .bool false) (QV.pickF rfl rfl) rfl rfl rfl ?_
                      refine JL.val (v := .bool false) (QV.assign rfl) rfl rfl rfl ?_
                      refine JL.nil ?_
                      exact QJ.cut_normal (false, ()) hm [] (by exact ⟨rfl, trivial⟩) rfl rfl
              ·
                refine JC.region ?_
                refine JL.val (v := .pointer (some ⟨b153, 0, none⟩)) (QV.move rfl) rfl rfl rfl ?_
                refine JL.val (v := .bool true) ((QV.eq (QV.neqP Try.underlying53 rfl rfl (.inr rfl)) (by simp))) rfl rfl rfl ?_
                refine JL.val (v := .bool d158) (QV.move rfl) rfl rfl rfl ?_
                refine JL.val (v := .bool (!(true == d158))) (QV.neqB Try.underlying4 rfl rfl) rfl rfl rfl ?_
                rcases ite_inv hm with ⟨h185, hm⟩ | ⟨h185, hm⟩
                ·
                  refine JL.val (v := .bool false) (QV.eq (QV.move rfl) (congrArg Value.bool (congrArg Bool.not h185))) rfl rfl rfl ?_
                  refine JL.val (v := .bool d158) (QV.move rfl) rfl rfl rfl ?_
                  refine JL.val (v := .int .i64 (0 : Int)) (QV.move rfl) rfl rfl rfl ?_
                  refine JL.val (v := .bool (decide ((0 : Int) = (0 : Int)))) (QV.eql rfl rfl) rfl rfl rfl ?_
                  refine JL.val (v := .bool (!(d158 == (decide ((0 : Int) = (0 : Int)))))) (QV.neqB Try.underlying4 rfl rfl) rfl rfl rfl ?_
                  refine JL.val (v := .bool (!(d158 == (decide ((0 : Int) = (0 : Int)))))) (QV.pickF rfl rfl) rfl rfl rfl ?_
                  rcases ite_inv hm with ⟨h186, hm⟩ | ⟨h186, hm⟩
                  ·
                    refine JL.val (v := .bool false) (QV.eq (QV.move rfl) (congrArg Value.bool (congrArg Bool.not h186))) rfl rfl rfl ?_
                    refine JL.val (v := .bool d158) (QV.move rfl) rfl rfl rfl ?_
                    refine JL.val (v := .bool (!d158)) (QV.not rfl) rfl rfl rfl ?_
                    rcases ite_inv hm with ⟨h187, hm⟩ | ⟨h187, hm⟩
                    ·
                      refine JL.val (v := .bool false) (QV.eq (QV.move rfl) (congrArg Value.bool (congrArg Bool.not h187))) rfl rfl rfl ?_
                      refine JL.skip (d := some 85) rfl rfl rfl ?_
                      refine JL.skip (d := some 86) rfl rfl rfl ?_
                      refine JL.val (v := .bool false) (QV.pickF rfl rfl) rfl rfl rfl ?_
                      refine JL.val (v := .bool false) (QV.pickF rfl rfl) rfl rfl rfl ?_
                      refine JL.nil ?_
                      exact QJ.cut_normal (false, ()) hm [0, 1, 2] (by exact ⟨rfl, rfl, trivial⟩) rfl rfl
                    ·
                      refine JL.val (v := .bool true) (QV.eq (QV.move rfl) (congrArg Value.bool (congrArg Bool.not (bfalse h187)))) rfl rfl rfl ?_
                      refine JL.val (v := .int .i64 (0 : Int)) (QV.move rfl) rfl rfl rfl ?_
                      refine JL.val (v := .bool (!(decide ((0 : Int) = (1 : Int))))) (QV.neq rfl rfl) rfl rfl rfl ?_
                      refine JL.val (v := .bool (!(decide ((0 : Int) = (1 : Int))))) (QV.pickT rfl rfl) rfl rfl rfl ?_
                      refine JL.val (v := .bool (!(decide ((0 : Int) = (1 : Int))))) (QV.pickF rfl rfl) rfl rfl rfl ?_
                      refine JL.nil ?_
                      exact QJ.cut_normal ((!(decide ((0 : Int) = (1 : Int)))), ()) hm [0, 1, 2] (by exact ⟨rfl, rfl, trivial⟩) rfl rfl
                  ·
                    refine JL.val (v := .bool true) (QV.eq (QV.move rfl) (congrArg Value.bool (congrArg Bool.not (bfalse h186)))) rfl rfl rfl ?_
                    refine JL.skip (d := some 82) rfl rfl rfl ?_
                    refine JL.skip (d := some 83) rfl rfl rfl ?_
                    refine JL.skip (d := some 84) rfl rfl rfl ?_
                    refine JL.skip (d := some 85) rfl rfl rfl ?_
                    refine JL.skip (d := some 86) rfl rfl rfl ?_
                    refine JL.skip (d := some 87) rfl rfl rfl ?_
                    refine JL.val (v := .bool true) (QV.pickT rfl rfl) rfl rfl rfl ?_
                    refine JL.nil ?_
                    exact QJ.cut_normal (true, ()) hm [0, 1, 2] (by exact ⟨rfl, rfl, trivial⟩) rfl rfl
                ·
                  refine JL.val (v := .bool true) (QV.eq (QV.move rfl) (congrArg Value.bool (congrArg Bool.not (bfalse h185)))) rfl rfl rfl ?_
                  refine JL.skip (d := some 76) rfl rfl rfl ?_
                  refine JL.skip (d := some 77) rfl rfl rfl ?_
                  refine JL.skip (d := some 78) rfl rfl rfl ?_
                  refine JL.skip (d := some 79) rfl rfl rfl ?_
                  refine JL.val (v := .bool true) (QV.pickT rfl rfl) rfl rfl rfl ?_
                  refine JL.val (v := .bool true) (QV.move rfl) rfl rfl rfl ?_
                  refine JL.skip (d := some 82) rfl rfl rfl ?_
                  refine JL.skip (d := some 83) rfl rfl rfl ?_
                  refine JL.skip (d := some 84) rfl rfl rfl ?_
                  refine JL.skip (d := some 85) rfl rfl rfl ?_
                  refine JL.skip (d := some 86) rfl rfl rfl ?_
                  refine JL.skip (d := some 87) rfl rfl rfl ?_
                  refine JL.val (v := .bool true) (QV.pickT rfl rfl) rfl rfl rfl ?_
                  refine JL.nil ?_
                  exact QJ.cut_normal (true, ()) hm [0, 1, 2] (by exact ⟨rfl, rfl, trivial⟩) rfl rfl
            ·
              refine JC.region ?_
              refine JL.val (v := .agg #[.int .i64 x1, .int .i64 x2, .int .i64 x3]) (QV.eq (QV.loadN (ss := [Seg.c (.int .i64 x1), Seg.c (.int .i64 x2), Seg.c (.int .i64 x3)]) 5 0 3 rfl tk_47 rfl rfl rfl rfl) rfl) rfl rfl rfl ?_
              obtain ⟨y188, hc189, hm⟩ := bind_inv hm
              refine JL.mv (d := some 57) (MV.call (Lo := []) (Lr := [Asr.blk b109 102 [Seg.c (.int .i64 x4), Seg.c (.int .i64 x5), Seg.c (z110), Seg.c (z111), Seg.c (.bool false), Seg.c (.int .i64 (0 : Int)), Seg.c (.bool false), Seg.c (.int .i64 (0 : Int)), Seg.c (.int .u64 (0 : Int))], Asr.blk b154 134 [Seg.c (.pointer (some ⟨b109, 0, none⟩)), Seg.c (.int .i64 y115.1), Seg.c (.int .i64 y115.2.1)], Asr.blk b155 134 [Seg.c (.pointer (some ⟨b109, 0, none⟩)), Seg.c (.int .i64 y115.2.2.1), Seg.c (.int .i64 y115.2.2.2.1)], Asr.blk b156 134 [Seg.c (.pointer (some ⟨b109, 0, none⟩)), Seg.c (.int .i64 y115.2.2.2.2.1), Seg.c (.int .i64 y115.2.2.2.2.2)], Asr.blk b153 108 [Seg.c (.int .i64 x1), Seg.c (.int .i64 x2), Seg.c (.int .i64 x3), Seg.c (.pointer (some ⟨b154, 0, none⟩)), Seg.c (.pointer (some ⟨b155, 0, none⟩)), Seg.c (.pointer (some ⟨b156, 0, none⟩))], Asr.blk b17 47 [Seg.c (.int .i64 x1), Seg.c (.int .i64 x2), Seg.c (.int .i64 x3)], Asr.vw (Enc.int .u8) (s12.v) x13, Asr.vw (Enc.int .u8) (s14.v) x15, Asr.blk b18 49 [Seg.c (.int .i64 x6), Seg.c (.int .i64 x7), Seg.c (.int .i64 x8), Seg.c (.int .i64 x9), Seg.c (.int .i64 x10), Seg.c (.int .u8 x11), Seg.c (s12.v), Seg.c (s14.v)]]) (F30.spec (x1) (x2) (x3) _ hc189) rfl Try.func30 rfl rfl rfl [] [0, 1, 2, 3, 4, 5, 6, 7, 8] rfl rfl rfl trivial) rfl rfl rfl ?_
              rintro _ _ ⟨_, ⟨rfl, rfl⟩, rfl⟩
              rcases ite_inv hm with ⟨h190, hm⟩ | ⟨h190, hm⟩
              ·
                refine JL.val (v := .bool true) (QV.eq (QV.move rfl) (congrArg Value.bool h190)) rfl rfl rfl ?_
                refine JL.val (v := .pointer (some ⟨b17, 0, none⟩)) (QV.fieldB fo_47_0 rfl rfl) rfl rfl rfl ?_
                refine JL.val (v := .int .i64 x1) (QV.load1 (ss := [Seg.c (.int .i64 x1), Seg.c (.int .i64 x2), Seg.c (.int .i64 x3)]) 5 0 rfl tk_3 rfl rfl rfl) rfl rfl rfl ?_
                refine JL.val (v := .int .i64 x4) (QV.move rfl) rfl rfl rfl ?_
                refine JL.val (v := .bool (decide (x1 = x4))) (QV.eql rfl rfl) rfl rfl rfl ?_
                refine JL.val (v := .bool (decide (x1 = x4))) (QV.pickT rfl rfl) rfl rfl rfl ?_
                rcases ite_inv hm with ⟨h191, hm⟩ | ⟨h191, hm⟩
                ·
                  refine JL.val (v := .bool true) (QV.eq (QV.move rfl) (congrArg Value.bool (decide_eq_true h191))) rfl rfl rfl ?_
                  refine JL.val (v := .agg #[.int .i64 x1, .int .i64 x2, .int .i64 x3]) (QV.eq (QV.loadN (ss := [Seg.c (.int .i64 x1), Seg.c (.int .i64 x2), Seg.c (.int .i64 x3)]) 5 0 3 rfl tk_47 rfl rfl rfl rfl) rfl) rfl rfl rfl ?_
                  obtain ⟨y192, hc193, hm⟩ := bind_inv hm
                  refine JL.mv (d := some 66) (MV.call (Lo := []) (Lr := [Asr.blk b109 102 [Seg.c (.int .i64 x4), Seg.c (.int .i64 x5), Seg.c (z110), Seg.c (z111), Seg.c (.bool false), Seg.c (.int .i64 (0 : Int)), Seg.c (.bool false), Seg.c (.int .i64 (0 : Int)), Seg.c (.int .u64 (0 : Int))], Asr.blk b154 134 [Seg.c (.pointer (some ⟨b109, 0, none⟩)), Seg.c (.int .i64 y115.1), Seg.c (.int .i64 y115.2.1)], Asr.blk b155 134 [Seg.c (.pointer (some ⟨b109, 0, none⟩)), Seg.c (.int .i64 y115.2.2.1), Seg.c (.int .i64 y115.2.2.2.1)], Asr.blk b156 134 [Seg.c (.pointer (some ⟨b109, 0, none⟩)), Seg.c (.int .i64 y115.2.2.2.2.1), Seg.c (.int .i64 y115.2.2.2.2.2)], Asr.blk b153 108 [Seg.c (.int .i64 x1), Seg.c (.int .i64 x2), Seg.c (.int .i64 x3), Seg.c (.pointer (some ⟨b154, 0, none⟩)), Seg.c (.pointer (some ⟨b155, 0, none⟩)), Seg.c (.pointer (some ⟨b156, 0, none⟩))], Asr.blk b17 47 [Seg.c (.int .i64 x1), Seg.c (.int .i64 x2), Seg.c (.int .i64 x3)], Asr.vw (Enc.int .u8) (s12.v) x13, Asr.vw (Enc.int .u8) (s14.v) x15, Asr.blk b18 49 [Seg.c (.int .i64 x6), Seg.c (.int .i64 x7), Seg.c (.int .i64 x8), Seg.c (.int .i64 x9), Seg.c (.int .i64 x10), Seg.c (.int .u8 x11), Seg.c (s12.v), Seg.c (s14.v)]]) (F31.spec (x1) (x2) (x3) _ hc193) rfl Try.func31 rfl rfl rfl [] [0, 1, 2, 3, 4, 5, 6, 7, 8] rfl rfl rfl trivial) rfl rfl rfl ?_
                  rintro _ _ ⟨_, ⟨rfl, rfl⟩, rfl⟩
                  refine JL.val (v := .int .i64 y192.2.2.2) (QV.field1 (ss := [Seg.of (Enc.arr 2 (Enc.pair (Enc.int .i64) (Enc.int .i64))) y192.1, Seg.c (.int .i64 (2 : Int)), Seg.c (.int .i64 y192.2.1), Seg.of (Enc.arr 2 (Enc.pair (Enc.int .i64) (Enc.int .i64))) y192.2.2.1, Seg.c (.int .i64 y192.2.2.2)]) 4 to_61_3 tk_3 rfl rfl rfl) rfl rfl rfl ?_
                  refine JL.val (v := .int .i64 x5) (QV.move rfl) rfl rfl rfl ?_
                  refine JL.val (v := .bool (decide (y192.2.2.2 ≤ x5))) (QV.leq rfl rfl) rfl rfl rfl ?_
                  refine JL.val (v := .bool (decide (y192.2.2.2 ≤ x5))) (QV.pickT rfl rfl) rfl rfl rfl ?_
                  refine JL.val (v := .bool (decide (y192.2.2.2 ≤ x5))) (QV.assign rfl) rfl rfl rfl ?_
                  refine JL.nil ?_
                  exact QJ.cut_normal ((decide (y192.2.2.2 ≤ x5)), ()) hm [6, 7, 8, 0, 1, 2, 3, 4] (by exact ⟨rfl, rfl, rfl, rfl, trivial⟩) rfl rfl
                ·
                  refine JL.val (v := .bool false) (QV.eq (QV.move rfl) (congrArg Value.bool (decide_eq_false h191))) rfl rfl rfl ?_
                  refine JL.skip (d := some 65) rfl rfl rfl ?_
                  refine JL.skip (d := some 66) rfl rfl rfl ?_
                  refine JL.skip (d := some 67) rfl rfl rfl ?_
                  refine JL.skip (d := some 68) rfl rfl rfl ?_
                  refine JL.skip (d := some 69) rfl rfl rfl ?_
                  refine JL.val (v := .bool false) (QV.pickF rfl rfl) rfl rfl rfl ?_
                  refine JL.val (v := .bool false) (QV.assign rfl) rfl rfl rfl ?_
                  refine JL.nil ?_
                  exact QJ.cut_normal (false, ()) hm [6, 7, 8, 0, 1, 2, 3, 4] (by exact ⟨rfl, rfl, rfl, rfl, trivial⟩) rfl rfl
              ·
                refine JL.val (v := .bool false) (QV.eq (QV.move rfl) (congrArg Value.bool (bfalse h190))) rfl rfl rfl ?_
                refine JL.skip (d := some 59) rfl rfl rfl ?_
                refine JL.skip (d := some 60) rfl rfl rfl ?_
                refine JL.skip (d := some 61) rfl rfl rfl ?_
                refine JL.skip (d := some 62) rfl rfl rfl ?_
                refine JL.val (v := .bool false) (QV.pickF rfl rfl) rfl rfl rfl ?_
                refine JL.val (v := .bool false) (QV.move rfl) rfl rfl rfl ?_
                refine JL.skip (d := some 65) rfl rfl rfl ?_
                refine JL.skip (d := some 66) rfl rfl rfl ?_
                refine JL.skip (d := some 67) rfl rfl rfl ?_
                refine JL.skip (d := some 68) rfl rfl rfl ?_
                refine JL.skip (d := some 69) rfl rfl rfl ?_
                refine JL.val (v := .bool false) (QV.pickF rfl rfl) rfl rfl rfl ?_
                refine JL.val (v := .bool false) (QV.assign rfl) rfl rfl rfl ?_
                refine JL.nil ?_
                exact QJ.cut_normal (false, ()) hm [6, 7, 8, 0, 1, 2, 3, 4] (by exact ⟨rfl, rfl, rfl, rfl, trivial⟩) rfl rfl
          ·
            refine JC.condT' rfl (congrArg Bool.not (decide_eq_false h157)) ?_
            refine JC.seq ?_
            refine JC.region ?_
            refine JL.val (v := .bool false) (QV.assign rfl) rfl rfl rfl ?_
            refine JL.nil ?_
            refine QJ.then_normal ?_
            refine JC.ret ?_
            refine QJ.then_ret ?_
            obtain rfl := Option.some.inj hm
            exact QJ.body (vs := [.bool false]) (.inl rfl) rfl (ResVs.cons (ResV.tmp rfl) ResVs.nil) [] rfl rfl (.inr trivial) ⟨rfl, rfl⟩
  ·
    refine JC.region ?_
    refine JL.val (v := .int .i64 x4) (QV.move rfl) rfl rfl rfl ?_
    refine JL.val (v := .bool (decide (x4 < (128 : Int)))) (QV.lss rfl rfl) rfl rfl rfl ?_
    rcases ite_inv hm with ⟨h194, hm⟩ | ⟨h194, hm⟩
    ·
      refine JL.val (v := .bool true) (QV.eq (QV.move rfl) (congrArg Value.bool (decide_eq_true h194))) rfl rfl rfl ?_
      refine JL.skip (d := some 24) rfl rfl rfl ?_
      refine JL.skip (d := some 25) rfl rfl rfl ?_
      refine JL.val (v := .bool true) (QV.pickT rfl rfl) rfl rfl rfl ?_
      refine JL.val (v := .bool true) (QV.move rfl) rfl rfl rfl ?_
      refine JL.skip (d := some 28) rfl rfl rfl ?_
      refine JL.skip (d := some 29) rfl rfl rfl ?_
      refine JL.val (v := .bool true) (QV.pickT rfl rfl) rfl rfl rfl ?_
      refine JL.val (v := .bool true) (QV.move rfl) rfl rfl rfl ?_
      refine JL.skip (d := some 32) rfl rfl rfl ?_
      refine JL.skip (d := some 33) rfl rfl rfl ?_
      refine JL.val (v := .bool true) (QV.pickT rfl rfl) rfl rfl rfl ?_
      refine JL.val (v := .bool true) (QV.move rfl) rfl rfl rfl ?_
      refine JL.skip (d := some 36) rfl rfl rfl ?_
      refine JL.skip (d := some 37) rfl rfl rfl ?_
      refine JL.skip (d := some 38) rfl rfl rfl ?_
      refine JL.skip (d := some 39) rfl rfl rfl ?_
      refine JL.val (v := .bool true) (QV.pickT rfl rfl) rfl rfl rfl ?_
      refine JL.nil ?_
      exact QJ.cut_normal (true, ()) hm [1, 2, 3, 0] (by exact ⟨rfl, rfl, rfl, rfl, rfl, trivial⟩) rfl rfl
    ·
      refine JL.val (v := .bool false) (QV.eq (QV.move rfl) (congrArg Value.bool (decide_eq_false h194))) rfl rfl rfl ?_
      refine JL.val (v := .int .i64 x4) (QV.move rfl) rfl rfl rfl ?_
      refine JL.val (v := .bool (decide ((4096 : Int) < x4))) (QV.gtr rfl rfl) rfl rfl rfl ?_
      refine JL.val (v := .bool (decide ((4096 : Int) < x4))) (QV.pickF rfl rfl) rfl rfl rfl ?_
      rcases ite_inv hm with ⟨h195, hm⟩ | ⟨h195, hm⟩
      ·
        refine JL.val (v := .bool true) (QV.eq (QV.move rfl) (congrArg Value.bool (decide_eq_true h195))) rfl rfl rfl ?_
        refine JL.skip (d := some 28) rfl rfl rfl ?_
        refine JL.skip (d := some 29) rfl rfl rfl ?_
        refine JL.val (v := .bool true) (QV.pickT rfl rfl) rfl rfl rfl ?_
        refine JL.val (v := .bool true) (QV.move rfl) rfl rfl rfl ?_
        refine JL.skip (d := some 32) rfl rfl rfl ?_
        refine JL.skip (d := some 33) rfl rfl rfl ?_
        refine JL.val (v := .bool true) (QV.pickT rfl rfl) rfl rfl rfl ?_
        refine JL.val (v := .bool true) (QV.move rfl) rfl rfl rfl ?_
        refine JL.skip (d := some 36) rfl rfl rfl ?_
        refine JL.skip (d := some 37) rfl rfl rfl ?_
        refine JL.skip (d := some 38) rfl rfl rfl ?_
        refine JL.skip (d := some 39) rfl rfl rfl ?_
        refine JL.val (v := .bool true) (QV.pickT rfl rfl) rfl rfl rfl ?_
        refine JL.nil ?_
        exact QJ.cut_normal (true, ()) hm [1, 2, 3, 0] (by exact ⟨rfl, rfl, rfl, rfl, rfl, trivial⟩) rfl rfl
      ·
        refine JL.val (v := .bool false) (QV.eq (QV.move rfl) (congrArg Value.bool (decide_eq_false h195))) rfl rfl rfl ?_
        refine JL.val (v := .int .i64 x5) (QV.move rfl) rfl rfl rfl ?_
        refine JL.val (v := .bool (decide (x5 < (1 : Int)))) (QV.lss rfl rfl) rfl rfl rfl ?_
        refine JL.val (v := .bool (decide (x5 < (1 : Int)))) (QV.pickF rfl rfl) rfl rfl rfl ?_
        rcases ite_inv hm with ⟨h196, hm⟩ | ⟨h196, hm⟩
        ·
          refine JL.val (v := .bool true) (QV.eq (QV.move rfl) (congrArg Value.bool (decide_eq_true h196))) rfl rfl rfl ?_
          refine JL.skip (d := some 32) rfl rfl rfl ?_
          refine JL.skip (d := some 33) rfl rfl rfl ?_
          refine JL.val (v := .bool true) (QV.pickT rfl rfl) rfl rfl rfl ?_
          refine JL.val (v := .bool true) (QV.move rfl) rfl rfl rfl ?_
          refine JL.skip (d := some 36) rfl rfl rfl ?_
          refine JL.skip (d := some 37) rfl rfl rfl ?_
          refine JL.skip (d := some 38) rfl rfl rfl ?_
          refine JL.skip (d := some 39) rfl rfl rfl ?_
          refine JL.val (v := .bool true) (QV.pickT rfl rfl) rfl rfl rfl ?_
          refine JL.nil ?_
          exact QJ.cut_normal (true, ()) hm [1, 2, 3, 0] (by exact ⟨rfl, rfl, rfl, rfl, rfl, trivial⟩) rfl rfl
        ·
          refine JL.val (v := .bool false) (QV.eq (QV.move rfl) (congrArg Value.bool (decide_eq_false h196))) rfl rfl rfl ?_
          refine JL.val (v := .int .i64 x5) (QV.move rfl) rfl rfl rfl ?_
          refine JL.val (v := .bool (decide ((1000 : Int) < x5))) (QV.gtr rfl rfl) rfl rfl rfl ?_
          refine JL.val (v := .bool (decide ((1000 : Int) < x5))) (QV.pickF rfl rfl) rfl rfl rfl ?_
          rcases ite_inv hm with ⟨h197, hm⟩ | ⟨h197, hm⟩
          ·
            refine JL.val (v := .bool true) (QV.eq (QV.move rfl) (congrArg Value.bool (decide_eq_true h197))) rfl rfl rfl ?_
            refine JL.skip (d := some 36) rfl rfl rfl ?_
            refine JL.skip (d := some 37) rfl rfl rfl ?_
            refine JL.skip (d := some 38) rfl rfl rfl ?_
            refine JL.skip (d := some 39) rfl rfl rfl ?_
            refine JL.val (v := .bool true) (QV.pickT rfl rfl) rfl rfl rfl ?_
            refine JL.nil ?_
            exact QJ.cut_normal (true, ()) hm [1, 2, 3, 0] (by exact ⟨rfl, rfl, rfl, rfl, rfl, trivial⟩) rfl rfl
          ·
            refine JL.val (v := .bool false) (QV.eq (QV.move rfl) (congrArg Value.bool (decide_eq_false h197))) rfl rfl rfl ?_
            refine JL.val (v := .pointer (some ⟨b18, 6, none⟩)) (QV.fieldB fo_49_6 rfl rfl) rfl rfl rfl ?_
            refine JL.val (v := s12.v) (QV.load1 (ss := [Seg.c (.int .i64 x6), Seg.c (.int .i64 x7), Seg.c (.int .i64 x8), Seg.c (.int .i64 x9), Seg.c (.int .i64 x10), Seg.c (.int .u8 x11), Seg.c (s12.v), Seg.c (s14.v)]) 0 6 rfl tk_34 rfl rfl rfl) rfl rfl rfl ?_
            refine JL.val (v := .int .i64 ((x13).length : Int)) (QV.len (Rdg.vw 2 rfl) Try.underlying34 rfl) rfl rfl rfl ?_
            refine JL.val (v := .bool (decide ((1000 : Int) < ((x13).length : Int)))) (QV.gtr rfl rfl) rfl rfl rfl ?_
            refine JL.val (v := .bool (decide ((1000 : Int) < ((x13).length : Int)))) (QV.pickF rfl rfl) rfl rfl rfl ?_
            refine JL.nil ?_
            exact QJ.cut_normal ((decide ((1000 : Int) < ((x13).length : Int))), ()) hm [1, 2, 3, 0] (by exact ⟨rfl, rfl, rfl, rfl, rfl, trivial⟩) rfl rfl

end Go.Proofs.Ytgganckggdjpaaa
