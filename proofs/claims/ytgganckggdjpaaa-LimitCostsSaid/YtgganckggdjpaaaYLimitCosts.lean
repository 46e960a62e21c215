/- Written by gen.py: functions and their contracts. -/
import Derived.Test.YtgganckggdjpaaaLim
namespace Go.Proofs.Ytgganckggdjpaaa
open Go Go.Eng Go.Proofs
set_option linter.unusedVariables false
set_option linter.unusedSimpArgs false
/-! ### 9: drogher/drogherlaw10.LimitCosts -/
noncomputable def F9.m (x2 : List Int) (x4 : List Int) : Option Bool :=
  (if (400 : Int) < ((x2).length : Int) then ((F19.m).bind fun y7 => some y7) else (if (400 : Int) < ((x4).length : Int) then ((F19.m).bind fun y10 => some y10) else ((F24.m (x2) (x4)).bind fun y12 => ((F25.m (x2) (x4)).bind fun y14 => (if y12 = y14 then ((F19.m).bind fun y17 => some y17) else some false)))))
set_option maxRecDepth 100000 in
set_option maxHeartbeats 4000000 in
theorem F9.spec (s1 : SlV) (s3 : SlV) (x2 : List Int) (x4 : List Int) (r : Bool) (hm : F9.m x2 x4 = some r) :
    Ctr Try.prog false 9 [s1.v, s3.v] [Asr.vw (Enc.int .u32) (s1.v) x2, Asr.vw (Enc.int .u8) (s3.v) x4] (fun v L' => v = .bool r ∧ L' = []) := by
  refine Ctr.intro (n := 24) (env := [(0, s1.v), (1, s3.v)]) Try.func9 rfl rfl rfl rfl (fun c => ?_)
  unfold F9.m at hm
  refine JC.seq ?_
  refine JC.region ?_
  refine JL.val (v := .bool false) (QV.assign rfl) rfl rfl rfl ?_
  refine JL.nil ?_
  refine QJ.then_normal ?_
  refine JC.seq ?_
  refine JC.seq ?_
  refine JC.region ?_
  refine JL.val (v := s1.v) (QV.move rfl) rfl rfl rfl ?_
  refine JL.val (v := .int .i64 ((x2).length : Int)) (QV.len (Rdg.vw 0 rfl) Try.underlying33 rfl) rfl rfl rfl ?_
  refine JL.val (v := .bool (decide ((400 : Int) < ((x2).length : Int)))) (QV.gtr rfl rfl) rfl rfl rfl ?_
  rcases ite_inv hm with ⟨h6, hm⟩ | ⟨h6, hm⟩
  ·
    refine JL.val (v := .bool true) (QV.eq (QV.move rfl) (congrArg Value.bool (decide_eq_true h6))) rfl rfl rfl ?_
    refine JL.skip (d := some 9) rfl rfl rfl ?_
    refine JL.skip (d := some 10) rfl rfl rfl ?_
    refine JL.skip (d := some 11) rfl rfl rfl ?_
    refine JL.val (v := .bool true) (QV.pickT rfl rfl) rfl rfl rfl ?_
    refine JL.nil ?_
    refine QJ.then_normal ?_
    refine JC.condT rfl ?_
    refine JC.seq ?_
    refine JC.region ?_
    obtain ⟨y7, hc8, hm⟩ := bind_inv hm
    refine JL.mv (d := some 13) (MV.call (Lo := []) (Lr := [Asr.vw (Enc.int .u32) (s1.v) x2, Asr.vw (Enc.int .u8) (s3.v) x4]) (F19.spec _ hc8) rfl Try.func19 rfl rfl rfl [] [0, 1] rfl rfl rfl trivial) rfl rfl rfl ?_
    rintro _ _ ⟨_, ⟨rfl, rfl⟩, rfl⟩
    refine JL.val (v := .bool y7) (QV.assign rfl) rfl rfl rfl ?_
    refine JL.nil ?_
    refine QJ.then_normal ?_
    refine JC.ret ?_
    refine QJ.then_ret ?_
    obtain rfl := Option.some.inj hm
    exact QJ.body (vs := [.bool y7]) (.inl rfl) rfl (ResVs.cons (ResV.tmp rfl) ResVs.nil) [] rfl rfl (.inr trivial) ⟨rfl, rfl⟩
  ·
    refine JL.val (v := .bool false) (QV.eq (QV.move rfl) (congrArg Value.bool (decide_eq_false h6))) rfl rfl rfl ?_
    refine JL.val (v := s3.v) (QV.move rfl) rfl rfl rfl ?_
    refine JL.val (v := .int .i64 ((x4).length : Int)) (QV.len (Rdg.vw 1 rfl) Try.underlying34 rfl) rfl rfl rfl ?_
    refine JL.val (v := .bool (decide ((400 : Int) < ((x4).length : Int)))) (QV.gtr rfl rfl) rfl rfl rfl ?_
    refine JL.val (v := .bool (decide ((400 : Int) < ((x4).length : Int)))) (QV.pickF rfl rfl) rfl rfl rfl ?_
    refine JL.nil ?_
    refine QJ.then_normal ?_
    rcases ite_inv hm with ⟨h9, hm⟩ | ⟨h9, hm⟩
    ·
      refine JC.condT' rfl (decide_eq_true h9) ?_
      refine JC.seq ?_
      refine JC.region ?_
      obtain ⟨y10, hc11, hm⟩ := bind_inv hm
      refine JL.mv (d := some 13) (MV.call (Lo := []) (Lr := [Asr.vw (Enc.int .u32) (s1.v) x2, Asr.vw (Enc.int .u8) (s3.v) x4]) (F19.spec _ hc11) rfl Try.func19 rfl rfl rfl [] [0, 1] rfl rfl rfl trivial) rfl rfl rfl ?_
      rintro _ _ ⟨_, ⟨rfl, rfl⟩, rfl⟩
      refine JL.val (v := .bool y10) (QV.assign rfl) rfl rfl rfl ?_
      refine JL.nil ?_
      refine QJ.then_normal ?_
      refine JC.ret ?_
      refine QJ.then_ret ?_
      obtain rfl := Option.some.inj hm
      exact QJ.body (vs := [.bool y10]) (.inl rfl) rfl (ResVs.cons (ResV.tmp rfl) ResVs.nil) [] rfl rfl (.inr trivial) ⟨rfl, rfl⟩
    ·
      refine JC.condF' rfl (decide_eq_false h9) ?_
      refine JC.skip ?_
      refine QJ.then_normal ?_
      refine JC.seq ?_
      refine JC.region ?_
      refine JL.val (v := s1.v) (QV.move rfl) rfl rfl rfl ?_
      refine JL.val (v := s3.v) (QV.move rfl) rfl rfl rfl ?_
      obtain ⟨y12, hc13, hm⟩ := bind_inv hm
      refine JL.mv (d := some 16) (MV.call (Lo := []) (Lr := [Asr.vw (Enc.int .u32) (s1.v) x2, Asr.vw (Enc.int .u8) (s3.v) x4]) (F24.spec (s1) (s3) (x2) (x4) _ hc13) rfl Try.func24 rfl rfl rfl [] [0, 1] rfl rfl rfl ⟨(Drv.vw 0 rfl), ⟨(Drv.vw 1 rfl), trivial⟩⟩) rfl rfl rfl ?_
      rintro _ _ ⟨_, ⟨rfl, rfl⟩, rfl⟩
      refine JL.val (v := s1.v) (QV.move rfl) rfl rfl rfl ?_
      refine JL.val (v := s3.v) (QV.move rfl) rfl rfl rfl ?_
      obtain ⟨y14, hc15, hm⟩ := bind_inv hm
      refine JL.mv (d := some 19) (MV.call (Lo := []) (Lr := [Asr.vw (Enc.int .u32) (s1.v) x2, Asr.vw (Enc.int .u8) (s3.v) x4]) (F25.spec (s1) (s3) (x2) (x4) _ hc15) rfl Try.func25 rfl rfl rfl [] [0, 1] rfl rfl rfl ⟨(Drv.vw 0 rfl), ⟨(Drv.vw 1 rfl), trivial⟩⟩) rfl rfl rfl ?_
      rintro _ _ ⟨_, ⟨rfl, rfl⟩, rfl⟩
      refine JL.val (v := .bool (decide (y12 = y14))) (QV.eql rfl rfl) rfl rfl rfl ?_
      rcases ite_inv hm with ⟨h16, hm⟩ | ⟨h16, hm⟩
      ·
        refine JL.val (v := .bool true) (QV.eq (QV.move rfl) (congrArg Value.bool (decide_eq_true h16))) rfl rfl rfl ?_
        obtain ⟨y17, hc18, hm⟩ := bind_inv hm
        refine JL.mv (d := some 22) (MV.call (Lo := []) (Lr := [Asr.vw (Enc.int .u32) (s1.v) x2, Asr.vw (Enc.int .u8) (s3.v) x4]) (F19.spec _ hc18) rfl Try.func19 rfl rfl rfl [] [0, 1] rfl rfl rfl trivial) rfl rfl rfl ?_
        rintro _ _ ⟨_, ⟨rfl, rfl⟩, rfl⟩
        refine JL.val (v := .bool y17) (QV.pickT rfl rfl) rfl rfl rfl ?_
        refine JL.val (v := .bool y17) (QV.assign rfl) rfl rfl rfl ?_
        refine JL.nil ?_
        refine QJ.then_normal ?_
        refine JC.ret ?_
        obtain rfl := Option.some.inj hm
        exact QJ.body (vs := [.bool y17]) (.inl rfl) rfl (ResVs.cons (ResV.tmp rfl) ResVs.nil) [] rfl rfl (.inr trivial) ⟨rfl, rfl⟩
      ·
        refine JL.val (v := .bool false) (QV.eq (QV.move rfl) (congrArg Value.bool (decide_eq_false h16))) rfl rfl rfl ?_
        refine JL.skip (d := some 22) rfl rfl rfl ?_
        refine JL.val (v := .bool false) (QV.pickF rfl rfl) rfl rfl rfl ?_
        refine JL.val (v := .bool false) (QV.assign rfl) rfl rfl rfl ?_
        refine JL.nil ?_
        refine QJ.then_normal ?_
        refine JC.ret ?_
        obtain rfl := Option.some.inj hm
        exact QJ.body (vs := [.bool false]) (.inl rfl) rfl (ResVs.cons (ResV.tmp rfl) ResVs.nil) [] rfl rfl (.inr trivial) ⟨rfl, rfl⟩

end Go.Proofs.Ytgganckggdjpaaa
