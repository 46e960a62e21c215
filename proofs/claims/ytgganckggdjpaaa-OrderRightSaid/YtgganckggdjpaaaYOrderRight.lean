/- Written by gen.py: functions and their contracts. -/
import Derived.Test.YtgganckggdjpaaaOrd
namespace Go.Proofs.Ytgganckggdjpaaa
open Go Go.Eng Go.Proofs
set_option linter.unusedVariables false
set_option linter.unusedSimpArgs false
/-! ### 5: drogher/drogherlaw19.OrderRight -/
noncomputable def F5.m (x2 : List (List Int)) (x5 : List Int) (x7 : List Int) : Option Bool :=
  ((F11.m (x2)).bind fun y9 => (if y9 = true then ((F12.m).bind fun y12 => some y12) else (if (60 : Int) < ((x5).length : Int) then ((F12.m).bind fun y15 => some y15) else (if (60 : Int) < ((x7).length : Int) then ((F12.m).bind fun y18 => some y18) else ((F18.m (x2) (x5) (x7)).bind fun y20 => ((F14.m (x2) (x5) (x7)).bind fun y22 => (if (y20 == y22) = true then ((F12.m).bind fun y25 => some y25) else some false)))))))
set_option maxRecDepth 100000 in
set_option maxHeartbeats 4000000 in
theorem F5.spec (s1 : SlV) (z3 : List SlV) (s4 : SlV) (s6 : SlV) (x2 : List (List Int)) (x5 : List Int) (x7 : List Int) (r : Bool) (hm : F5.m x2 x5 x7 = some r) :
    Ctr Try.prog false 5 [s1.v, s4.v, s6.v] [Asr.vn (NE.sl (Enc.int .i64)) (s1.v) z3 x2, Asr.vw (Enc.int .i64) (s4.v) x5, Asr.vw (Enc.int .i64) (s6.v) x7] (fun v L' => v = .bool r ∧ L' = []) := by
  refine Ctr.intro (n := 32) (env := [(0, s1.v), (1, s4.v), (2, s6.v)]) Try.func5 rfl rfl rfl rfl (fun c => ?_)
  unfold F5.m at hm
  refine JC.seq ?_
  refine JC.region ?_
  refine JL.val (v := .bool false) (QV.assign rfl) rfl rfl rfl ?_
  refine JL.nil ?_
  refine QJ.then_normal ?_
  refine JC.seq ?_
  refine JC.seq ?_
  refine JC.region ?_
  refine JL.val (v := s1.v) (QV.move rfl) rfl rfl rfl ?_
  obtain ⟨y9, hc10, hm⟩ := bind_inv hm
  refine JL.mv (d := some 8) (MV.call (Lo := []) (Lr := [Asr.vn (NE.sl (Enc.int .i64)) (s1.v) z3 x2, Asr.vw (Enc.int .i64) (s4.v) x5, Asr.vw (Enc.int .i64) (s6.v) x7]) (F11.spec (s1) (z3) (x2) _ hc10) rfl Try.func11 rfl rfl rfl [] [0, 1, 2] rfl rfl rfl ⟨(Drv.vn 0 rfl), trivial⟩) rfl rfl rfl ?_
  rintro _ _ ⟨_, ⟨rfl, rfl⟩, rfl⟩
  rcases ite_inv hm with ⟨h11, hm⟩ | ⟨h11, hm⟩
  ·
    refine JL.val (v := .bool true) (QV.eq (QV.move rfl) (congrArg Value.bool h11)) rfl rfl rfl ?_
    refine JL.skip (d := some 10) rfl rfl rfl ?_
    refine JL.skip (d := some 11) rfl rfl rfl ?_
    refine JL.skip (d := some 12) rfl rfl rfl ?_
    refine JL.val (v := .bool true) (QV.pickT rfl rfl) rfl rfl rfl ?_
    refine JL.val (v := .bool true) (QV.move rfl) rfl rfl rfl ?_
    refine JL.skip (d := some 15) rfl rfl rfl ?_
    refine JL.skip (d := some 16) rfl rfl rfl ?_
    refine JL.skip (d := some 17) rfl rfl rfl ?_
    refine JL.val (v := .bool true) (QV.pickT rfl rfl) rfl rfl rfl ?_
    refine JL.nil ?_
    refine QJ.then_normal ?_
    refine JC.condT rfl ?_
    refine JC.seq ?_
    refine JC.region ?_
    obtain ⟨y12, hc13, hm⟩ := bind_inv hm
    refine JL.mv (d := some 19) (MV.call (Lo := []) (Lr := [Asr.vn (NE.sl (Enc.int .i64)) (s1.v) z3 x2, Asr.vw (Enc.int .i64) (s4.v) x5, Asr.vw (Enc.int .i64) (s6.v) x7]) (F12.spec _ hc13) rfl Try.func12 rfl rfl rfl [] [0, 1, 2] rfl rfl rfl trivial) rfl rfl rfl ?_
    rintro _ _ ⟨_, ⟨rfl, rfl⟩, rfl⟩
    refine JL.val (v := .bool y12) (QV.assign rfl) rfl rfl rfl ?_
    refine JL.nil ?_
    refine QJ.then_normal ?_
    refine JC.ret ?_
    refine QJ.then_ret ?_
    obtain rfl := Option.some.inj hm
    exact QJ.body (vs := [.bool y12]) (.inl rfl) rfl (ResVs.cons (ResV.tmp rfl) ResVs.nil) [] rfl rfl (.inr trivial) ⟨rfl, rfl⟩
  ·
    refine JL.val (v := .bool false) (QV.eq (QV.move rfl) (congrArg Value.bool (bfalse h11))) rfl rfl rfl ?_
    refine JL.val (v := s4.v) (QV.move rfl) rfl rfl rfl ?_
    refine JL.val (v := .int .i64 ((x5).length : Int)) (QV.len (Rdg.vw 1 rfl) Try.underlying25 rfl) rfl rfl rfl ?_
    refine JL.val (v := .bool (decide ((60 : Int) < ((x5).length : Int)))) (QV.gtr rfl rfl) rfl rfl rfl ?_
    refine JL.val (v := .bool (decide ((60 : Int) < ((x5).length : Int)))) (QV.pickF rfl rfl) rfl rfl rfl ?_
    rcases ite_inv hm with ⟨h14, hm⟩ | ⟨h14, hm⟩
    ·
      refine JL.val (v := .bool true) (QV.eq (QV.move rfl) (congrArg Value.bool (decide_eq_true h14))) rfl rfl rfl ?_
      refine JL.skip (d := some 15) rfl rfl rfl ?_
      refine JL.skip (d := some 16) rfl rfl rfl ?_
      refine JL.skip (d := some 17) rfl rfl rfl ?_
      refine JL.val (v := .bool true) (QV.pickT rfl rfl) rfl rfl rfl ?_
      refine JL.nil ?_
      refine QJ.then_normal ?_
      refine JC.condT rfl ?_
      refine JC.seq ?_
      refine JC.region ?_
      obtain ⟨y15, hc16, hm⟩ := bind_inv hm
      refine JL.mv (d := some 19) (MV.call (Lo := []) (Lr := [Asr.vn (NE.sl (Enc.int .i64)) (s1.v) z3 x2, Asr.vw (Enc.int .i64) (s4.v) x5, Asr.vw (Enc.int .i64) (s6.v) x7]) (F12.spec _ hc16) rfl Try.func12 rfl rfl rfl [] [0, 1, 2] rfl rfl rfl trivial) rfl rfl rfl ?_
      rintro _ _ ⟨_, ⟨rfl, rfl⟩, rfl⟩
      refine JL.val (v := .bool y15) (QV.assign rfl) rfl rfl rfl ?_
      refine JL.nil ?_
      refine QJ.then_normal ?_
      refine JC.ret ?_
      refine QJ.then_ret ?_
      obtain rfl := Option.some.inj hm
      exact QJ.body (vs := [.bool y15]) (.inl rfl) rfl (ResVs.cons (ResV.tmp rfl) ResVs.nil) [] rfl rfl (.inr trivial) ⟨rfl, rfl⟩
    ·
      refine JL.val (v := .bool false) (QV.eq (QV.move rfl) (congrArg Value.bool (decide_eq_false h14))) rfl rfl rfl ?_
      refine JL.val (v := s6.v) (QV.move rfl) rfl rfl rfl ?_
      refine JL.val (v := .int .i64 ((x7).length : Int)) (QV.len (Rdg.vw 2 rfl) Try.underlying25 rfl) rfl rfl rfl ?_
      refine JL.val (v := .bool (decide ((60 : Int) < ((x7).length : Int)))) (QV.gtr rfl rfl) rfl rfl rfl ?_
      refine JL.val (v := .bool (decide ((60 : Int) < ((x7).length : Int)))) (QV.pickF rfl rfl) rfl rfl rfl ?_
      refine JL.nil ?_
      refine QJ.then_normal ?_
      rcases ite_inv hm with ⟨h17, hm⟩ | ⟨h17, hm⟩
      ·
        refine JC.condT' rfl (decide_eq_true h17) ?_
        refine JC.seq ?_
        refine JC.region ?_
        obtain ⟨y18, hc19, hm⟩ := bind_inv hm
        refine JL.mv (d := some 19) (MV.call (Lo := []) (Lr := [Asr.vn (NE.sl (Enc.int .i64)) (s1.v) z3 x2, Asr.vw (Enc.int .i64) (s4.v) x5, Asr.vw (Enc.int .i64) (s6.v) x7]) (F12.spec _ hc19) rfl Try.func12 rfl rfl rfl [] [0, 1, 2] rfl rfl rfl trivial) rfl rfl rfl ?_
        rintro _ _ ⟨_, ⟨rfl, rfl⟩, rfl⟩
        refine JL.val (v := .bool y18) (QV.assign rfl) rfl rfl rfl ?_
        refine JL.nil ?_
        refine QJ.then_normal ?_
        refine JC.ret ?_
        refine QJ.then_ret ?_
        obtain rfl := Option.some.inj hm
        exact QJ.body (vs := [.bool y18]) (.inl rfl) rfl (ResVs.cons (ResV.tmp rfl) ResVs.nil) [] rfl rfl (.inr trivial) ⟨rfl, rfl⟩
      ·
        refine JC.condF' rfl (decide_eq_false h17) ?_
        refine JC.skip ?_
        refine QJ.then_normal ?_
        refine JC.seq ?_
        refine JC.region ?_
        refine JL.val (v := s1.v) (QV.move rfl) rfl rfl rfl ?_
        refine JL.val (v := s4.v) (QV.move rfl) rfl rfl rfl ?_
        refine JL.val (v := s6.v) (QV.move rfl) rfl rfl rfl ?_
        obtain ⟨y20, hc21, hm⟩ := bind_inv hm
        refine JL.mv (d := some 23) (MV.call (Lo := []) (Lr := [Asr.vn (NE.sl (Enc.int .i64)) (s1.v) z3 x2, Asr.vw (Enc.int .i64) (s4.v) x5, Asr.vw (Enc.int .i64) (s6.v) x7]) (F18.spec (s1) (z3) (s4) (s6) (x2) (x5) (x7) _ hc21) rfl Try.func18 rfl rfl rfl [] [0, 1, 2] rfl rfl rfl ⟨(Drv.vn 0 rfl), ⟨(Drv.vw 1 rfl), ⟨(Drv.vw 2 rfl), trivial⟩⟩⟩) rfl rfl rfl ?_
        rintro _ _ ⟨_, ⟨rfl, rfl⟩, rfl⟩
        refine JL.val (v := s1.v) (QV.move rfl) rfl rfl rfl ?_
        refine JL.val (v := s4.v) (QV.move rfl) rfl rfl rfl ?_
        refine JL.val (v := s6.v) (QV.move rfl) rfl rfl rfl ?_
        obtain ⟨y22, hc23, hm⟩ := bind_inv hm
        refine JL.mv (d := some 27) (MV.call (Lo := []) (Lr := [Asr.vn (NE.sl (Enc.int .i64)) (s1.v) z3 x2, Asr.vw (Enc.int .i64) (s4.v) x5, Asr.vw (Enc.int .i64) (s6.v) x7]) (F14.spec (s1) (z3) (s4) (s6) (x2) (x5) (x7) _ hc23) rfl Try.func14 rfl rfl rfl [] [0, 1, 2] rfl rfl rfl ⟨(Drv.vn 0 rfl), ⟨(Drv.vw 1 rfl), ⟨(Drv.vw 2 rfl), trivial⟩⟩⟩) rfl rfl rfl ?_
        rintro _ _ ⟨_, ⟨rfl, rfl⟩, rfl⟩
        refine JL.val (v := .bool (y20 == y22)) (QV.eqlB Try.underlying4 rfl rfl) rfl rfl rfl ?_
        rcases ite_inv hm with ⟨h24, hm⟩ | ⟨h24, hm⟩
        ·
          refine JL.val (v := .bool true) (QV.eq (QV.move rfl) (congrArg Value.bool h24)) rfl rfl rfl ?_
          obtain ⟨y25, hc26, hm⟩ := bind_inv hm
          refine JL.mv (d := some 30) (MV.call (Lo := []) (Lr := [Asr.vn (NE.sl (Enc.int .i64)) (s1.v) z3 x2, Asr.vw (Enc.int .i64) (s4.v) x5, Asr.vw (Enc.int .i64) (s6.v) x7]) (F12.spec _ hc26) rfl Try.func12 rfl rfl rfl [] [0, 1, 2] rfl rfl rfl trivial) rfl rfl rfl ?_
          rintro _ _ ⟨_, ⟨rfl, rfl⟩, rfl⟩
          refine JL.val (v := .bool y25) (QV.pickT rfl rfl) rfl rfl rfl ?_
          refine JL.val (v := .bool y25) (QV.assign rfl) rfl rfl rfl ?_
          refine JL.nil ?_
          refine QJ.then_normal ?_
          refine JC.ret ?_
          obtain rfl := Option.some.inj hm
          exact QJ.body (vs := [.bool y25]) (.inl rfl) rfl (ResVs.cons (ResV.tmp rfl) ResVs.nil) [] rfl rfl (.inr trivial) ⟨rfl, rfl⟩
        ·
          refine JL.val (v := .bool false) (QV.eq (QV.move rfl) (congrArg Value.bool (bfalse h24))) rfl rfl rfl ?_
          refine JL.skip (d := some 30) rfl rfl rfl ?_
          refine JL.val (v := .bool false) (QV.pickF rfl rfl) rfl rfl rfl ?_
          refine JL.val (v := .bool false) (QV.assign rfl) rfl rfl rfl ?_
          refine JL.nil ?_
          refine QJ.then_normal ?_
          refine JC.ret ?_
          obtain rfl := Option.some.inj hm
          exact QJ.body (vs := [.bool false]) (.inl rfl) rfl (ResVs.cons (ResV.tmp rfl) ResVs.nil) [] rfl rfl (.inr trivial) ⟨rfl, rfl⟩

end Go.Proofs.Ytgganckggdjpaaa
