/- Written by gen.py: functions and their contracts. -/
import Derived.Test.YtmedbpiapeiobaaOct
namespace Go.Proofs.Ytmedbpiapeiobaa
open Go Go.Eng Go.Proofs
set_option linter.unusedVariables false
set_option linter.unusedSimpArgs false
/-! ### 6: drogher/drogherlaw02.OctetChecks -/
noncomputable def F6.m (x2 : List Int) (x3 : Int) : Option Bool :=
  (if (500 : Int) < ((x2).length : Int) then ((F21.m).bind fun y6 => some y6) else ((F29.m (x2) (x3)).bind fun y8 => ((F30.m (x2) (x3)).bind fun y10 => (if y8 = y10 then ((F21.m).bind fun y13 => some y13) else some false))))
set_option maxRecDepth 100000 in
set_option maxHeartbeats 4000000 in
theorem F6.spec (s1 : SlV) (x2 : List Int) (x3 : Int) (r : Bool) (hm : F6.m x2 x3 = some r) :
    Ctr Try.prog false 6 [s1.v, .int .i64 x3] [Asr.vw (Enc.int .u8) (s1.v) x2] (fun v L' => v = .bool r ∧ L' = []) := by
  refine Ctr.intro (n := 19) (env := [(0, s1.v), (1, .int .i64 x3)]) Try.func6 rfl rfl rfl rfl (fun c => ?_)
  unfold F6.m at hm
  refine JC.seq ?_
  refine JC.region ?_
  refine JL.val (v := .bool false) (QV.assign rfl) rfl rfl rfl ?_
  refine JL.nil ?_
  refine QJ.then_normal ?_
  refine JC.seq ?_
  refine JC.seq ?_
  refine JC.region ?_
  refine JL.val (v := s1.v) (QV.move rfl) rfl rfl rfl ?_
  refine JL.val (v := .int .i64 ((x2).length : Int)) (QV.len (Rdg.vw 0 rfl) Try.underlying22 rfl) rfl rfl rfl ?_
  refine JL.val (v := .bool (decide ((500 : Int) < ((x2).length : Int)))) (QV.gtr rfl rfl) rfl rfl rfl ?_
  refine JL.nil ?_
  refine QJ.then_normal ?_
  rcases ite_inv hm with ⟨h5, hm⟩ | ⟨h5, hm⟩
  ·
    refine JC.condT' rfl (decide_eq_true h5) ?_
    refine JC.seq ?_
    refine JC.region ?_
    obtain ⟨y6, hc7, hm⟩ := bind_inv hm
    refine JL.mv (d := some 8) (MV.call (Lo := []) (Lr := [Asr.vw (Enc.int .u8) (s1.v) x2]) (F21.spec _ hc7) rfl Try.func21 rfl rfl rfl [] [0] rfl rfl rfl trivial) rfl rfl rfl ?_
    rintro _ _ ⟨_, ⟨rfl, rfl⟩, rfl⟩
    refine JL.val (v := .bool y6) (QV.assign rfl) rfl rfl rfl ?_
    refine JL.nil ?_
    refine QJ.then_normal ?_
    refine JC.ret ?_
    refine QJ.then_ret ?_
    obtain rfl := Option.some.inj hm
    exact QJ.body (vs := [.bool y6]) (.inl rfl) rfl (ResVs.cons (ResV.tmp rfl) ResVs.nil) [] rfl rfl (.inr trivial) ⟨rfl, rfl⟩
  ·
    refine JC.condF' rfl (decide_eq_false h5) ?_
    refine JC.skip ?_
    refine QJ.then_normal ?_
    refine JC.seq ?_
    refine JC.region ?_
    refine JL.val (v := s1.v) (QV.move rfl) rfl rfl rfl ?_
    refine JL.val (v := .int .i64 x3) (QV.move rfl) rfl rfl rfl ?_
    obtain ⟨y8, hc9, hm⟩ := bind_inv hm
    refine JL.mv (d := some 11) (MV.call (Lo := []) (Lr := [Asr.vw (Enc.int .u8) (s1.v) x2]) (F29.spec (s1) (x2) (x3) _ hc9) rfl Try.func29 rfl rfl rfl [] [0] rfl rfl rfl ⟨(Drv.vw 0 rfl), trivial⟩) rfl rfl rfl ?_
    rintro _ _ ⟨_, ⟨rfl, rfl⟩, rfl⟩
    refine JL.val (v := s1.v) (QV.move rfl) rfl rfl rfl ?_
    refine JL.val (v := .int .i64 x3) (QV.move rfl) rfl rfl rfl ?_
    obtain ⟨y10, hc11, hm⟩ := bind_inv hm
    refine JL.mv (d := some 14) (MV.call (Lo := []) (Lr := [Asr.vw (Enc.int .u8) (s1.v) x2]) (F30.spec (s1) (x2) (x3) _ hc11) rfl Try.func30 rfl rfl rfl [] [0] rfl rfl rfl ⟨(Drv.vw 0 rfl), trivial⟩) rfl rfl rfl ?_
    rintro _ _ ⟨_, ⟨rfl, rfl⟩, rfl⟩
    refine JL.val (v := .bool (decide (y8 = y10))) (QV.eql rfl rfl) rfl rfl rfl ?_
    rcases ite_inv hm with ⟨h12, hm⟩ | ⟨h12, hm⟩
    ·
      refine JL.val (v := .bool true) (QV.eq (QV.move rfl) (congrArg Value.bool (decide_eq_true h12))) rfl rfl rfl ?_
      obtain ⟨y13, hc14, hm⟩ := bind_inv hm
      refine JL.mv (d := some 17) (MV.call (Lo := []) (Lr := [Asr.vw (Enc.int .u8) (s1.v) x2]) (F21.spec _ hc14) rfl Try.func21 rfl rfl rfl [] [0] rfl rfl rfl trivial) rfl rfl rfl ?_
      rintro _ _ ⟨_, ⟨rfl, rfl⟩, rfl⟩
      refine JL.val (v := .bool y13) (QV.pickT rfl rfl) rfl rfl rfl ?_
      refine JL.val (v := .bool y13) (QV.assign rfl) rfl rfl rfl ?_
      refine JL.nil ?_
      refine QJ.then_normal ?_
      refine JC.ret ?_
      obtain rfl := Option.some.inj hm
      exact QJ.body (vs := [.bool y13]) (.inl rfl) rfl (ResVs.cons (ResV.tmp rfl) ResVs.nil) [] rfl rfl (.inr trivial) ⟨rfl, rfl⟩
    ·
      refine JL.val (v := .bool false) (QV.eq (QV.move rfl) (congrArg Value.bool (decide_eq_false h12))) rfl rfl rfl ?_
      refine JL.skip (d := some 17) rfl rfl rfl ?_
      refine JL.val (v := .bool false) (QV.pickF rfl rfl) rfl rfl rfl ?_
      refine JL.val (v := .bool false) (QV.assign rfl) rfl rfl rfl ?_
      refine JL.nil ?_
      refine QJ.then_normal ?_
      refine JC.ret ?_
      obtain rfl := Option.some.inj hm
      exact QJ.body (vs := [.bool false]) (.inl rfl) rfl (ResVs.cons (ResV.tmp rfl) ResVs.nil) [] rfl rfl (.inr trivial) ⟨rfl, rfl⟩

end Go.Proofs.Ytmedbpiapeiobaa
