/- Written by gen.py: functions and their contracts. -/
import Derived.Test.YtmedbpiapeiobaaSha
namespace Go.Proofs.Ytmedbpiapeiobaa
open Go Go.Eng Go.Proofs
set_option linter.unusedVariables false
set_option linter.unusedSimpArgs false
/-! ### 8: drogher/drogherlaw01.ShaSums -/
noncomputable def F8.m (x2 : List Int) : Option Bool :=
  (if (3000 : Int) < ((x2).length : Int) then ((F31.m).bind fun y5 => some y5) else ((F32.m (x2)).bind fun y7 => ((F33.m (x2)).bind fun y9 => (if y7 = y9 then ((F31.m).bind fun y12 => some y12) else some false))))
set_option maxRecDepth 100000 in
set_option maxHeartbeats 4000000 in
theorem F8.spec (s1 : SlV) (x2 : List Int) (r : Bool) (hm : F8.m x2 = some r) :
    Ctr Try.prog false 8 [s1.v] [Asr.vw (Enc.int .u8) (s1.v) x2] (fun v L' => v = .bool r ∧ L' = []) := by
  refine Ctr.intro (n := 15) (env := [(0, s1.v)]) Try.func8 rfl rfl rfl rfl (fun c => ?_)
  unfold F8.m at hm
  refine JC.seq ?_
  refine JC.region ?_
  refine JL.val (v := .bool false) (QV.assign rfl) rfl rfl rfl ?_
  refine JL.nil ?_
  refine QJ.then_normal ?_
  refine JC.seq ?_
  refine JC.seq ?_
  refine JC.region ?_
  refine JL.val (v := s1.v) (QV.move rfl) rfl rfl rfl ?_
  refine JL.val (v := .int .i64 ((x2).length : Int)) (QV.len (Rdg.vw 0 rfl) Try.underlying22 rfl) rfl rfl rfl ?_
  refine JL.val (v := .bool (decide ((3000 : Int) < ((x2).length : Int)))) (QV.gtr rfl rfl) rfl rfl rfl ?_
  refine JL.nil ?_
  refine QJ.then_normal ?_
  rcases ite_inv hm with ⟨h4, hm⟩ | ⟨h4, hm⟩
  ·
    refine JC.condT' rfl (decide_eq_true h4) ?_
    refine JC.seq ?_
    refine JC.region ?_
    obtain ⟨y5, hc6, hm⟩ := bind_inv hm
    refine JL.mv (d := some 6) (MV.call (Lo := []) (Lr := [Asr.vw (Enc.int .u8) (s1.v) x2]) (F31.spec _ hc6) rfl Try.func31 rfl rfl rfl [] [0] rfl rfl rfl trivial) rfl rfl rfl ?_
    rintro _ _ ⟨_, ⟨rfl, rfl⟩, rfl⟩
    refine JL.val (v := .bool y5) (QV.assign rfl) rfl rfl rfl ?_
    refine JL.nil ?_
    refine QJ.then_normal ?_
    refine JC.ret ?_
    refine QJ.then_ret ?_
    obtain rfl := Option.some.inj hm
    exact QJ.body (vs := [.bool y5]) (.inl rfl) rfl (ResVs.cons (ResV.tmp rfl) ResVs.nil) [] rfl rfl (.inr trivial) ⟨rfl, rfl⟩
  ·
    refine JC.condF' rfl (decide_eq_false h4) ?_
    refine JC.skip ?_
    refine QJ.then_normal ?_
    refine JC.seq ?_
    refine JC.region ?_
    refine JL.val (v := s1.v) (QV.move rfl) rfl rfl rfl ?_
    obtain ⟨y7, hc8, hm⟩ := bind_inv hm
    refine JL.mv (d := some 8) (MV.call (Lo := []) (Lr := [Asr.vw (Enc.int .u8) (s1.v) x2]) (F32.spec (s1) (x2) _ hc8) rfl Try.func32 rfl rfl rfl [] [0] rfl rfl rfl ⟨(Drv.vw 0 rfl), trivial⟩) rfl rfl rfl ?_
    rintro _ _ ⟨_, ⟨rfl, rfl⟩, rfl⟩
    refine JL.val (v := s1.v) (QV.move rfl) rfl rfl rfl ?_
    obtain ⟨y9, hc10, hm⟩ := bind_inv hm
    refine JL.mv (d := some 10) (MV.call (Lo := []) (Lr := [Asr.vw (Enc.int .u8) (s1.v) x2]) (F33.spec (s1) (x2) _ hc10) rfl Try.func33 rfl rfl rfl [] [0] rfl rfl rfl ⟨(Drv.vw 0 rfl), trivial⟩) rfl rfl rfl ?_
    rintro _ _ ⟨_, ⟨rfl, rfl⟩, rfl⟩
    refine JL.val (v := .bool (decide (y7 = y9))) (QV.eqlE (E := (Enc.arr 32 (Enc.int .u8))) (a := y7) (b := y9) zeq_41 (by kernel_rfl) rfl rfl) rfl rfl rfl ?_
    rcases ite_inv hm with ⟨h11, hm⟩ | ⟨h11, hm⟩
    ·
      refine JL.val (v := .bool true) (QV.eq (QV.move rfl) (congrArg Value.bool (decide_eq_true h11))) rfl rfl rfl ?_
      obtain ⟨y12, hc13, hm⟩ := bind_inv hm
      refine JL.mv (d := some 13) (MV.call (Lo := []) (Lr := [Asr.vw (Enc.int .u8) (s1.v) x2]) (F31.spec _ hc13) rfl Try.func31 rfl rfl rfl [] [0] rfl rfl rfl trivial) rfl rfl rfl ?_
      rintro _ _ ⟨_, ⟨rfl, rfl⟩, rfl⟩
      refine JL.val (v := .bool y12) (QV.pickT rfl rfl) rfl rfl rfl ?_
      refine JL.val (v := .bool y12) (QV.assign rfl) rfl rfl rfl ?_
      refine JL.nil ?_
      refine QJ.then_normal ?_
      refine JC.ret ?_
      obtain rfl := Option.some.inj hm
      exact QJ.body (vs := [.bool y12]) (.inl rfl) rfl (ResVs.cons (ResV.tmp rfl) ResVs.nil) [] rfl rfl (.inr trivial) ⟨rfl, rfl⟩
    ·
      refine JL.val (v := .bool false) (QV.eq (QV.move rfl) (congrArg Value.bool (decide_eq_false h11))) rfl rfl rfl ?_
      refine JL.skip (d := some 13) rfl rfl rfl ?_
      refine JL.val (v := .bool false) (QV.pickF rfl rfl) rfl rfl rfl ?_
      refine JL.val (v := .bool false) (QV.assign rfl) rfl rfl rfl ?_
      refine JL.nil ?_
      refine QJ.then_normal ?_
      refine JC.ret ?_
      obtain rfl := Option.some.inj hm
      exact QJ.body (vs := [.bool false]) (.inl rfl) rfl (ResVs.cons (ResV.tmp rfl) ResVs.nil) [] rfl rfl (.inr trivial) ⟨rfl, rfl⟩

end Go.Proofs.Ytmedbpiapeiobaa
