/- Written by gen.py: functions and their contracts. -/
import Derived.Test.YtedokgdilpfomaaMat
namespace Go.Proofs.Ytedokgdilpfomaa
open Go Go.Eng Go.Proofs
set_option linter.unusedVariables false
set_option linter.unusedSimpArgs false
/-! ### 8: drogher/drogherlaw15.MatchSame -/
noncomputable def F8.m (x2 : List Int) : Option Bool :=
  (if (1000 : Int) < ((x2).length : Int) then ((F28.m (([] : List Int)) (([] : List Int))).bind fun y5 => (if ((y5).length : Int) = (0 : Int) then ((F27.m).bind fun y9 => some y9) else some false)) else (if ((x2).length : Int) = (0 : Int) then ((F28.m (([] : List Int)) (([] : List Int))).bind fun y12 => (if ((y12).length : Int) = (0 : Int) then ((F27.m).bind fun y16 => some y16) else some false)) else ((F28.m (x2) (x2)).bind fun y18 => (if ((y18).length : Int) = (1 : Int) then (if 0 ≤ (0 : Int) ∧ (0 : Int) < ((y18).length : Int) then (if ((gd y18 (0 : Int)).1, (gd y18 (0 : Int)).2.1, (gd y18 (0 : Int)).2.2) = ((0 : Int), (0 : Int), ((x2).length : Int)) then ((F27.m).bind fun y24 => some y24) else some false) else none) else some false))))
set_option maxRecDepth 100000 in
set_option maxHeartbeats 4000000 in
theorem F8.spec (s1 : SlV) (x2 : List Int) (r : Bool) (hm : F8.m x2 = some r) :
    Ctr Try.prog false 8 [s1.v] [Asr.vw (Enc.int .u8) (s1.v) x2] (fun v L' => v = .bool r ∧ L' = []) := by
  refine Ctr.intro (n := 36) (env := [(0, s1.v)]) Try.func8 rfl rfl rfl rfl (fun c => ?_)
  unfold F8.m at hm
  refine JC.seq ?_
  refine JC.region ?_
  refine JL.val (v := .bool false) (QV.assign rfl) rfl rfl rfl ?_
  refine JL.nil ?_
  refine QJ.then_normal ?_
  refine JC.seq ?_
  refine JC.seq ?_
  refine JC.region ?_
  refine JL.val (v := s1.v) (QV.move rfl) rfl rfl rfl ?_
  refine JL.val (v := .int .i64 ((x2).length : Int)) (QV.len (Rdg.vw 0 rfl) Try.underlying23 rfl) rfl rfl rfl ?_
  refine JL.val (v := .bool (decide ((1000 : Int) < ((x2).length : Int)))) (QV.gtr rfl rfl) rfl rfl rfl ?_
  rcases ite_inv hm with ⟨h4, hm⟩ | ⟨h4, hm⟩
  ·
    refine JL.val (v := .bool true) (QV.eq (QV.move rfl) (congrArg Value.bool (decide_eq_true h4))) rfl rfl rfl ?_
    refine JL.skip (d := some 8) rfl rfl rfl ?_
    refine JL.skip (d := some 9) rfl rfl rfl ?_
    refine JL.skip (d := some 10) rfl rfl rfl ?_
    refine JL.val (v := .bool true) (QV.pickT rfl rfl) rfl rfl rfl ?_
    refine JL.nil ?_
    refine QJ.then_normal ?_
    refine JC.condT rfl ?_
    refine JC.seq ?_
    refine JC.region ?_
    refine JL.ent (fun _ hs => hs.nil 5 (Enc.int .u8)) ?_
    refine JL.ent (fun _ hs => hs.nil 5 (Enc.int .u8)) ?_
    obtain ⟨y5, hc6, hm⟩ := bind_inv hm
    refine JL.mv (d := some 12) (MV.call (Lo := []) (Lr := [Asr.of 5 (Enc.int .u8) (SlV.nil.v) ([] : List Int), Asr.of 5 (Enc.int .u8) (SlV.nil.v) ([] : List Int), Asr.vw (Enc.int .u8) (s1.v) x2]) (F28.spec (SlV.nil) (SlV.nil) (([] : List Int)) (([] : List Int)) _ hc6) rfl Try.func28 rfl rfl rfl [] [0, 1, 2] rfl rfl rfl ⟨(Drv.of 1 rfl), ⟨(Drv.of 0 rfl), trivial⟩⟩) rfl rfl rfl ?_
    rintro _ _ ⟨_, ⟨z7, rfl, rfl⟩, rfl⟩
    refine JL.val (v := .int .i64 ((y5).length : Int)) (QV.len (Rdg.of 0 rfl) Try.underlying47 rfl) rfl rfl rfl ?_
    refine JL.val (v := .bool (decide (((y5).length : Int) = (0 : Int)))) (QV.eql rfl rfl) rfl rfl rfl ?_
    rcases ite_inv hm with ⟨h8, hm⟩ | ⟨h8, hm⟩
    ·
      refine JL.val (v := .bool true) (QV.eq (QV.move rfl) (congrArg Value.bool (decide_eq_true h8))) rfl rfl rfl ?_
      obtain ⟨y9, hc10, hm⟩ := bind_inv hm
      refine JL.mv (d := some 16) (MV.call (Lo := []) (Lr := [Asr.of 52 (Enc.pair (Enc.int .i64) (Enc.pair (Enc.int .i64) (Enc.int .i64))) (z7.v) y5, Asr.of 5 (Enc.int .u8) (SlV.nil.v) ([] : List Int), Asr.of 5 (Enc.int .u8) (SlV.nil.v) ([] : List Int), Asr.vw (Enc.int .u8) (s1.v) x2]) (F27.spec _ hc10) rfl Try.func27 rfl rfl rfl [] [0, 1, 2, 3] rfl rfl rfl trivial) rfl rfl rfl ?_
      rintro _ _ ⟨_, ⟨rfl, rfl⟩, rfl⟩
      refine JL.val (v := .bool y9) (QV.pickT rfl rfl) rfl rfl rfl ?_
      refine JL.val (v := .bool y9) (QV.assign rfl) rfl rfl rfl ?_
      refine JL.nil ?_
      refine QJ.then_normal ?_
      refine JC.ret ?_
      refine QJ.then_ret ?_
      obtain rfl := Option.some.inj hm
      exact QJ.body (vs := [.bool y9]) (.inl rfl) rfl (ResVs.cons (ResV.tmp rfl) ResVs.nil) [] rfl rfl (.inr trivial) ⟨rfl, rfl⟩
    ·
      refine JL.val (v := .bool false) (QV.eq (QV.move rfl) (congrArg Value.bool (decide_eq_false h8))) rfl rfl rfl ?_
      refine JL.skip (d := some 16) rfl rfl rfl ?_
      refine JL.val (v := .bool false) (QV.pickF rfl rfl) rfl rfl rfl ?_
      refine JL.val (v := .bool false) (QV.assign rfl) rfl rfl rfl ?_
      refine JL.nil ?_
      refine QJ.then_normal ?_
      refine JC.ret ?_
      refine QJ.then_ret ?_
      obtain rfl := Option.some.inj hm
      exact QJ.body (vs := [.bool false]) (.inl rfl) rfl (ResVs.cons (ResV.tmp rfl) ResVs.nil) [] rfl rfl (.inr trivial) ⟨rfl, rfl⟩
  ·
    refine JL.val (v := .bool false) (QV.eq (QV.move rfl) (congrArg Value.bool (decide_eq_false h4))) rfl rfl rfl ?_
    refine JL.val (v := s1.v) (QV.move rfl) rfl rfl rfl ?_
    refine JL.val (v := .int .i64 ((x2).length : Int)) (QV.len (Rdg.vw 0 rfl) Try.underlying23 rfl) rfl rfl rfl ?_
    refine JL.val (v := .bool (decide (((x2).length : Int) = (0 : Int)))) (QV.eql rfl rfl) rfl rfl rfl ?_
    refine JL.val (v := .bool (decide (((x2).length : Int) = (0 : Int)))) (QV.pickF rfl rfl) rfl rfl rfl ?_
    refine JL.nil ?_
    refine QJ.then_normal ?_
    rcases ite_inv hm with ⟨h11, hm⟩ | ⟨h11, hm⟩
    ·
      refine JC.condT' rfl (decide_eq_true h11) ?_
      refine JC.seq ?_
      refine JC.region ?_
      refine JL.ent (fun _ hs => hs.nil 5 (Enc.int .u8)) ?_
      refine JL.ent (fun _ hs => hs.nil 5 (Enc.int .u8)) ?_
      obtain ⟨y12, hc13, hm⟩ := bind_inv hm
      refine JL.mv (d := some 12) (MV.call (Lo := []) (Lr := [Asr.of 5 (Enc.int .u8) (SlV.nil.v) ([] : List Int), Asr.of 5 (Enc.int .u8) (SlV.nil.v) ([] : List Int), Asr.vw (Enc.int .u8) (s1.v) x2]) (F28.spec (SlV.nil) (SlV.nil) (([] : List Int)) (([] : List Int)) _ hc13) rfl Try.func28 rfl rfl rfl [] [0, 1, 2] rfl rfl rfl ⟨(Drv.of 1 rfl), ⟨(Drv.of 0 rfl), trivial⟩⟩) rfl rfl rfl ?_
      rintro _ _ ⟨_, ⟨z14, rfl, rfl⟩, rfl⟩
      refine JL.val (v := .int .i64 ((y12).length : Int)) (QV.len (Rdg.of 0 rfl) Try.underlying47 rfl) rfl rfl rfl ?_
      refine JL.val (v := .bool (decide (((y12).length : Int) = (0 : Int)))) (QV.eql rfl rfl) rfl rfl rfl ?_
      rcases ite_inv hm with ⟨h15, hm⟩ | ⟨h15, hm⟩
      ·
        refine JL.val (v := .bool true) (QV.eq (QV.move rfl) (congrArg Value.bool (decide_eq_true h15))) rfl rfl rfl ?_
        obtain ⟨y16, hc17, hm⟩ := bind_inv hm
        refine JL.mv (d := some 16) (MV.call (Lo := []) (Lr := [Asr.of 52 (Enc.pair (Enc.int .i64) (Enc.pair (Enc.int .i64) (Enc.int .i64))) (z14.v) y12, Asr.of 5 (Enc.int .u8) (SlV.nil.v) ([] : List Int), Asr.of 5 (Enc.int .u8) (SlV.nil.v) ([] : List Int), Asr.vw (Enc.int .u8) (s1.v) x2]) (F27.spec _ hc17) rfl Try.func27 rfl rfl rfl [] [0, 1, 2, 3] rfl rfl rfl trivial) rfl rfl rfl ?_
        rintro _ _ ⟨_, ⟨rfl, rfl⟩, rfl⟩
        refine JL.val (v := .bool y16) (QV.pickT rfl rfl) rfl rfl rfl ?_
        refine JL.val (v := .bool y16) (QV.assign rfl) rfl rfl rfl ?_
        refine JL.nil ?_
        refine QJ.then_normal ?_
        refine JC.ret ?_
        refine QJ.then_ret ?_
        obtain rfl := Option.some.inj hm
        exact QJ.body (vs := [.bool y16]) (.inl rfl) rfl (ResVs.cons (ResV.tmp rfl) ResVs.nil) [] rfl rfl (.inr trivial) ⟨rfl, rfl⟩
      ·
        refine JL.val (v := .bool false) (QV.eq (QV.move rfl) (congrArg Value.bool (decide_eq_false h15))) rfl rfl rfl ?_
        refine JL.skip (d := some 16) rfl rfl rfl ?_
        refine JL.val (v := .bool false) (QV.pickF rfl rfl) rfl rfl rfl ?_
        refine JL.val (v := .bool false) (QV.assign rfl) rfl rfl rfl ?_
        refine JL.nil ?_
        refine QJ.then_normal ?_
        refine JC.ret ?_
        refine QJ.then_ret ?_
        obtain rfl := Option.some.inj hm
        exact QJ.body (vs := [.bool false]) (.inl rfl) rfl (ResVs.cons (ResV.tmp rfl) ResVs.nil) [] rfl rfl (.inr trivial) ⟨rfl, rfl⟩
    ·
      refine JC.condF' rfl (decide_eq_false h11) ?_
      refine JC.skip ?_
      refine QJ.then_normal ?_
      refine JC.seq ?_
      refine JC.region ?_
      refine JL.val (v := s1.v) (QV.move rfl) rfl rfl rfl ?_
      refine JL.val (v := s1.v) (QV.move rfl) rfl rfl rfl ?_
      obtain ⟨y18, hc19, hm⟩ := bind_inv hm
      refine JL.mv (d := some 20) (MV.call (Lo := []) (Lr := [Asr.vw (Enc.int .u8) (s1.v) x2]) (F28.spec (s1) (s1) (x2) (x2) _ hc19) rfl Try.func28 rfl rfl rfl [] [0] rfl rfl rfl ⟨(Drv.vw 0 rfl), ⟨(Drv.vw 0 rfl), trivial⟩⟩) rfl rfl rfl ?_
      rintro _ _ ⟨_, ⟨z20, rfl, rfl⟩, rfl⟩
      refine JL.val (v := z20.v) (QV.assign rfl) rfl rfl rfl ?_
      refine JL.nil ?_
      refine QJ.then_normal ?_
      refine JC.seq ?_
      refine JC.region ?_
      refine JL.val (v := z20.v) (QV.move rfl) rfl rfl rfl ?_
      refine JL.val (v := .int .i64 ((y18).length : Int)) (QV.len (Rdg.of 0 rfl) Try.underlying47 rfl) rfl rfl rfl ?_
      refine JL.val (v := .bool (decide (((y18).length : Int) = (1 : Int)))) (QV.eql rfl rfl) rfl rfl rfl ?_
      rcases ite_inv hm with ⟨h21, hm⟩ | ⟨h21, hm⟩
      ·
        refine JL.val (v := .bool true) (QV.eq (QV.move rfl) (congrArg Value.bool (decide_eq_true h21))) rfl rfl rfl ?_
        refine JL.val (v := z20.v) (QV.move rfl) rfl rfl rfl ?_
        obtain ⟨h22, hm⟩ := guard_inv hm
        refine JL.val (v := .pointer (some (elA (z20.v) (Int.toNat (0 : Int) * ((Enc.pair (Enc.int .i64) (Enc.pair (Enc.int .i64) (Enc.int .i64)))).sz)))) (QV.indexA (Rdg.of 0 rfl) Try.underlying47 tk_52 rfl rfl h22) rfl rfl rfl ?_
        refine JL.val (v := .agg #[.int .i64 (gd y18 (0 : Int)).1, .int .i64 (gd y18 (0 : Int)).2.1, .int .i64 (gd y18 (0 : Int)).2.2]) (QV.eq (QV.elN (Rdg.of 0 rfl) tk_52 rfl h22) rfl) rfl rfl rfl ?_
        refine JL.val (v := s1.v) (QV.move rfl) rfl rfl rfl ?_
        refine JL.val (v := .int .i64 ((x2).length : Int)) (QV.len (Rdg.vw 1 rfl) Try.underlying23 rfl) rfl rfl rfl ?_
        refine JL.val (v := .agg #[.int .i64 (0 : Int), .int .i64 (0 : Int), .int .i64 ((x2).length : Int)]) (QV.build (vals := [(2, .int .i64 ((x2).length : Int))]) rfl (by kernel_rfl)) rfl rfl rfl ?_
        refine JL.val (v := .bool (decide (((gd y18 (0 : Int)).1, (gd y18 (0 : Int)).2.1, (gd y18 (0 : Int)).2.2) = ((0 : Int), (0 : Int), ((x2).length : Int))))) (QV.eqlE (E := (Enc.pair (Enc.int .i64) (Enc.pair (Enc.int .i64) (Enc.int .i64)))) (a := ((gd y18 (0 : Int)).1, (gd y18 (0 : Int)).2.1, (gd y18 (0 : Int)).2.2)) (b := ((0 : Int), (0 : Int), ((x2).length : Int))) zeq_52 (by kernel_rfl) rfl rfl) rfl rfl rfl ?_
        refine JL.val (v := .bool (decide (((gd y18 (0 : Int)).1, (gd y18 (0 : Int)).2.1, (gd y18 (0 : Int)).2.2) = ((0 : Int), (0 : Int), ((x2).length : Int))))) (QV.pickT rfl rfl) rfl rfl rfl ?_
        rcases ite_inv hm with ⟨h23, hm⟩ | ⟨h23, hm⟩
        ·
          refine JL.val (v := .bool true) (QV.eq (QV.move rfl) (congrArg Value.bool (decide_eq_true h23))) rfl rfl rfl ?_
          obtain ⟨y24, hc25, hm⟩ := bind_inv hm
          refine JL.mv (d := some 34) (MV.call (Lo := []) (Lr := [Asr.of 52 (Enc.pair (Enc.int .i64) (Enc.pair (Enc.int .i64) (Enc.int .i64))) (z20.v) y18, Asr.vw (Enc.int .u8) (s1.v) x2]) (F27.spec _ hc25) rfl Try.func27 rfl rfl rfl [] [0, 1] rfl rfl rfl trivial) rfl rfl rfl ?_
          rintro _ _ ⟨_, ⟨rfl, rfl⟩, rfl⟩
          refine JL.val (v := .bool y24) (QV.pickT rfl rfl) rfl rfl rfl ?_
          refine JL.val (v := .bool y24) (QV.assign rfl) rfl rfl rfl ?_
          refine JL.nil ?_
          refine QJ.then_normal ?_
          refine JC.ret ?_
          obtain rfl := Option.some.inj hm
          exact QJ.body (vs := [.bool y24]) (.inl rfl) rfl (ResVs.cons (ResV.tmp rfl) ResVs.nil) [] rfl rfl (.inr trivial) ⟨rfl, rfl⟩
        ·
          refine JL.val (v := .bool false) (QV.eq (QV.move rfl) (congrArg Value.bool (decide_eq_false h23))) rfl rfl rfl ?_
          refine JL.skip (d := some 34) rfl rfl rfl ?_
          refine JL.val (v := .bool false) (QV.pickF rfl rfl) rfl rfl rfl ?_
          refine JL.val (v := .bool false) (QV.assign rfl) rfl rfl rfl ?_
          refine JL.nil ?_
          refine QJ.then_normal ?_
          refine JC.ret ?_
          obtain rfl := Option.some.inj hm
          exact QJ.body (vs := [.bool false]) (.inl rfl) rfl (ResVs.cons (ResV.tmp rfl) ResVs.nil) [] rfl rfl (.inr trivial) ⟨rfl, rfl⟩
      ·
        refine JL.val (v := .bool false) (QV.eq (QV.move rfl) (congrArg Value.bool (decide_eq_false h21))) rfl rfl rfl ?_
        refine JL.skip (d := some 25) rfl rfl rfl ?_
        refine JL.skip (d := some 26) rfl rfl rfl ?_
        refine JL.skip (d := some 27) rfl rfl rfl ?_
        refine JL.skip (d := some 28) rfl rfl rfl ?_
        refine JL.skip (d := some 29) rfl rfl rfl ?_
        refine JL.skip (d := some 30) rfl rfl rfl ?_
        refine JL.skip (d := some 31) rfl rfl rfl ?_
        refine JL.val (v := .bool false) (QV.pickF rfl rfl) rfl rfl rfl ?_
        refine JL.val (v := .bool false) (QV.move rfl) rfl rfl rfl ?_
        refine JL.skip (d := some 34) rfl rfl rfl ?_
        refine JL.val (v := .bool false) (QV.pickF rfl rfl) rfl rfl rfl ?_
        refine JL.val (v := .bool false) (QV.assign rfl) rfl rfl rfl ?_
        refine JL.nil ?_
        refine QJ.then_normal ?_
        refine JC.ret ?_
        obtain rfl := Option.some.inj hm
        exact QJ.body (vs := [.bool false]) (.inl rfl) rfl (ResVs.cons (ResV.tmp rfl) ResVs.nil) [] rfl rfl (.inr trivial) ⟨rfl, rfl⟩

end Go.Proofs.Ytedokgdilpfomaa
