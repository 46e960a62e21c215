/- Written by gen.py: functions and their contracts. -/
import Derived.Test.YtmedbpiapeiobaaSha
namespace Go.Proofs.Ytmedbpiapeiobaa
open Go Go.Eng Go.Proofs
set_option linter.unusedVariables false
set_option linter.unusedSimpArgs false
/-! ### 35: (*drogher/sha.Hash).Write -/
noncomputable def F35_1.m (x2 : List Int) : Option Unit :=
  some ()
set_option maxRecDepth 100000 in
set_option maxHeartbeats 4000000 in
theorem F35_1.spec (s1 : SlV) (x2 : List Int) (r : Unit) (hm : F35_1.m x2 = some r) :
    Ctr Try.prog false 35 [.pointer none, s1.v] [Asr.vw (Enc.int .u8) (s1.v) x2] (fun v L' => v = .tuple #[] ∧ L' = []) := by
  refine Ctr.intro (n := 75) (env := [(0, .pointer none), (1, s1.v)]) Try.func35 rfl rfl rfl rfl (fun c => ?_)
  unfold F35_1.m at hm
  refine JC.seq ?_
  refine JC.seq ?_
  refine JC.region ?_
  refine JL.val (v := .pointer none) (QV.move rfl) rfl rfl rfl ?_
  refine JL.val (v := .bool true) ((QV.eq (QV.eqlP Try.underlying45 rfl rfl (.inl rfl)) (by simp))) rfl rfl rfl ?_
  refine JL.nil ?_
  refine QJ.then_normal ?_
  refine JC.condT rfl ?_
  refine JC.ret ?_
  refine QJ.then_ret ?_
  obtain rfl := Option.some.inj hm
  exact QJ.body (vs := []) (.inl rfl) rfl ResVs.nil [] rfl rfl (.inr trivial) ⟨rfl, rfl⟩

/-! ### 36: (*drogher/sha.Hash).Sum -/
noncomputable def F36_1.m  : Option (Arr Int 32) :=
  ((F34.m).bind fun y3 => ((F36.m (y3.1) (y3.2) ((0 : Int)) ((0 : Int))).bind fun y6 => some y6))
set_option maxRecDepth 100000 in
set_option maxHeartbeats 4000000 in
theorem F36_1.spec  (r : (Arr Int 32)) (hm : F36_1.m  = some r) :
    Ctr Try.prog false 36 [.pointer none] [] (fun v L' => v = .agg (((Enc.arr 32 (Enc.int .u8))).enc r).toArray ∧ L' = []) := by
  refine Ctr.intro (n := 61) (env := [(0, .pointer none)]) Try.func36 rfl rfl rfl rfl (fun c => ?_)
  unfold F36_1.m at hm
  refine JC.seq ?_
  refine JC.region ?_
  refine JL.mv (d := some 2) (MV.alloc [Seg.of (Enc.arr 32 (Enc.int .u8)) (Arr.rep 32 (0 : Int))] z_41 rfl) rfl rfl rfl ?_
  rintro _ _ ⟨b2, rfl, rfl⟩
  refine JL.nil ?_
  refine QJ.then_normal ?_
  refine JC.seq ?_
  refine JC.seq ?_
  refine JC.region ?_
  refine JL.val (v := .pointer none) (QV.move rfl) rfl rfl rfl ?_
  refine JL.val (v := .bool true) ((QV.eq (QV.eqlP Try.underlying45 rfl rfl (.inl rfl)) (by simp))) rfl rfl rfl ?_
  refine JL.nil ?_
  refine QJ.then_normal ?_
  refine JC.condT rfl ?_
  refine JC.seq ?_
  refine JC.region ?_
  obtain ⟨y3, hc4, hm⟩ := bind_inv hm
  refine JL.mv (d := some 12) (MV.call (Lo := []) (Lr := [Asr.blk b2 41 [Seg.of (Enc.arr 32 (Enc.int .u8)) (Arr.rep 32 (0 : Int))]]) (F34.spec _ hc4) rfl Try.func34 rfl rfl rfl [] [0] rfl rfl rfl trivial) rfl rfl rfl ?_
  rintro _ _ ⟨_, ⟨b5, rfl, rfl⟩, rfl⟩
  obtain ⟨y6, hc7, hm⟩ := bind_inv hm
  refine JL.mv (d := some 13) (MV.call (Lo := [Asr.blk b5 105 [Seg.of (Enc.arr 8 (Enc.int .u32)) y3.1, Seg.of (Enc.arr 64 (Enc.int .u8)) y3.2, Seg.c (.int .i64 (0 : Int)), Seg.c (.int .u64 (0 : Int))]]) (Lr := [Asr.blk b2 41 [Seg.of (Enc.arr 32 (Enc.int .u8)) (Arr.rep 32 (0 : Int))]]) (F36.spec (b5) (y3.1) (y3.2) ((0 : Int)) ((0 : Int)) _ hc7) rfl Try.func36 rfl rfl rfl [0] [1] rfl rfl rfl trivial) rfl rfl rfl ?_
  rintro _ _ ⟨_, ⟨rfl, rfl⟩, rfl⟩
  refine JL.mv (d := none) (MV.store (ss := [Seg.of (Enc.arr 32 (Enc.int .u8)) (Arr.rep 32 (0 : Int))]) 1 0 1 [Seg.of (Enc.arr 32 (Enc.int .u8)) y6] rfl tk_41 rfl rfl rfl rfl (fun w hs => ⟨rfl, one_of _ _, trivial⟩)) rfl rfl rfl ?_
  rintro _ _ ⟨rfl, rfl⟩
  refine JL.nil ?_
  refine QJ.then_normal ?_
  refine JC.ret ?_
  refine QJ.then_ret ?_
  obtain rfl := Option.some.inj hm
  exact QJ.body (vs := [.agg (((Enc.arr 32 (Enc.int .u8))).enc y6).toArray]) (.inl rfl) rfl (ResVs.cons (ResV.cell (d := none) (ty := 0) (ps := "") (af := #[]) (g := none) rfl (QV.eq (QV.loadN (ss := [Seg.of (Enc.arr 32 (Enc.int .u8)) y6]) 1 0 1 rfl tk_41 rfl rfl rfl rfl) rfl)) ResVs.nil) [] rfl rfl (.inr trivial) ⟨rfl, rfl⟩

/-! ### 39: (*drogher/sha.Hash).Len -/
noncomputable def F39_1.m  : Option Unit :=
  some ()
set_option maxRecDepth 100000 in
set_option maxHeartbeats 4000000 in
theorem F39_1.spec  (r : Unit) (hm : F39_1.m  = some r) :
    Ctr Try.prog false 39 [.pointer none] [] (fun v L' => v = .int .u64 (0 : Int) ∧ L' = []) := by
  refine Ctr.intro (n := 9) (env := [(0, .pointer none)]) Try.func39 rfl rfl rfl rfl (fun c => ?_)
  unfold F39_1.m at hm
  refine JC.seq ?_
  refine JC.region ?_
  refine JL.val (v := .int .u64 (0 : Int)) (QV.assign rfl) rfl rfl rfl ?_
  refine JL.nil ?_
  refine QJ.then_normal ?_
  refine JC.seq ?_
  refine JC.seq ?_
  refine JC.region ?_
  refine JL.val (v := .pointer none) (QV.move rfl) rfl rfl rfl ?_
  refine JL.val (v := .bool true) ((QV.eq (QV.eqlP Try.underlying45 rfl rfl (.inl rfl)) (by simp))) rfl rfl rfl ?_
  refine JL.nil ?_
  refine QJ.then_normal ?_
  refine JC.condT rfl ?_
  refine JC.seq ?_
  refine JC.region ?_
  refine JL.val (v := .int .u64 (0 : Int)) (QV.assign rfl) rfl rfl rfl ?_
  refine JL.nil ?_
  refine QJ.then_normal ?_
  refine JC.ret ?_
  refine QJ.then_ret ?_
  obtain rfl := Option.some.inj hm
  exact QJ.body (vs := [.int .u64 (0 : Int)]) (.inl rfl) rfl (ResVs.cons (ResV.tmp rfl) ResVs.nil) [] rfl rfl (.inr trivial) ⟨rfl, rfl⟩

/-! ### 40: (*drogher/sha.Hash).Copy -/
noncomputable def F40_1.m  : Option Unit :=
  some ()
set_option maxRecDepth 100000 in
set_option maxHeartbeats 4000000 in
theorem F40_1.spec  (r : Unit) (hm : F40_1.m  = some r) :
    Ctr Try.prog false 40 [.pointer none] [] (fun v L' => v = .pointer none ∧ L' = []) := by
  refine Ctr.intro (n := 9) (env := [(0, .pointer none)]) Try.func40 rfl rfl rfl rfl (fun c => ?_)
  unfold F40_1.m at hm
  refine JC.seq ?_
  refine JC.region ?_
  refine JL.val (v := .pointer none) (QV.assign rfl) rfl rfl rfl ?_
  refine JL.nil ?_
  refine QJ.then_normal ?_
  refine JC.seq ?_
  refine JC.seq ?_
  refine JC.region ?_
  refine JL.val (v := .pointer none) (QV.move rfl) rfl rfl rfl ?_
  refine JL.val (v := .bool true) ((QV.eq (QV.eqlP Try.underlying45 rfl rfl (.inl rfl)) (by simp))) rfl rfl rfl ?_
  refine JL.nil ?_
  refine QJ.then_normal ?_
  refine JC.condT rfl ?_
  refine JC.seq ?_
  refine JC.region ?_
  refine JL.val (v := .pointer none) (QV.assign rfl) rfl rfl rfl ?_
  refine JL.nil ?_
  refine QJ.then_normal ?_
  refine JC.ret ?_
  refine QJ.then_ret ?_
  obtain rfl := Option.some.inj hm
  exact QJ.body (vs := [.pointer none]) (.inl rfl) rfl (ResVs.cons (ResV.tmp rfl) ResVs.nil) [] rfl rfl (.inr trivial) ⟨rfl, rfl⟩

/-! ### 12: drogher/drogherlaw01.ShaNil -/
noncomputable def F12.m (x2 : List Int) : Option Bool :=
  (if (400 : Int) < ((x2).length : Int) then ((F31.m).bind fun y5 => some y5) else ((F35_1.m (x2)).bind fun y7 => ((F36_1.m).bind fun y9 => ((F33.m (([] : List Int))).bind fun y12 => (if y9 = y12 then ((F39_1.m).bind fun y15 => (if (0 : Int) = (0 : Int) then ((F40_1.m).bind fun y18 => ((F31.m).bind fun y20 => some y20)) else some false)) else some false)))))
set_option maxRecDepth 100000 in
set_option maxHeartbeats 4000000 in
theorem F12.spec (s1 : SlV) (x2 : List Int) (r : Bool) (hm : F12.m x2 = some r) :
    Ctr Try.prog false 12 [s1.v] [Asr.vw (Enc.int .u8) (s1.v) x2] (fun v L' => v = .bool r ∧ L' = []) := by
  refine Ctr.intro (n := 29) (env := [(0, s1.v)]) Try.func12 rfl rfl rfl rfl (fun c => ?_)
  unfold F12.m at hm
  refine JC.seq ?_
  refine JC.region ?_
  refine JL.val (v := .bool false) (QV.assign rfl) rfl rfl rfl ?_
  refine JL.nil ?_
  refine QJ.then_normal ?_
  refine JC.seq ?_
  refine JC.seq ?_
  refine JC.region ?_
  refine JL.val (v := s1.v) (QV.move rfl) rfl rfl rfl ?_
  refine JL.val (v := .int .i64 ((x2).length : Int)) (QV.len (Rdg.vw 0 rfl) Try.underlying22 rfl) rfl rfl rfl ?_
  refine JL.val (v := .bool (decide ((400 : Int) < ((x2).length : Int)))) (QV.gtr rfl rfl) rfl rfl rfl ?_
  refine JL.nil ?_
  refine QJ.then_normal ?_
  rcases ite_inv hm with ⟨h4, hm⟩ | ⟨h4, hm⟩
  ·
    refine JC.condT' rfl (decide_eq_true h4) ?_
    refine JC.seq ?_
    refine JC.region ?_
    obtain ⟨y5, hc6, hm⟩ := bind_inv hm
    refine JL.mv (d := some 7) (MV.call (Lo := []) (Lr := [Asr.vw (Enc.int .u8) (s1.v) x2]) (F31.spec _ hc6) rfl Try.func31 rfl rfl rfl [] [0] rfl rfl rfl trivial) rfl rfl rfl ?_
    rintro _ _ ⟨_, ⟨rfl, rfl⟩, rfl⟩
    refine JL.val (v := .bool y5) (QV.assign rfl) rfl rfl rfl ?_
    refine JL.nil ?_
    refine QJ.then_normal ?_
    refine JC.ret ?_
    refine QJ.then_ret ?_
    obtain rfl := Option.some.inj hm
    exact QJ.body (vs := [.bool y5]) (.inl rfl) rfl (ResVs.cons (ResV.tmp rfl) ResVs.nil) [] rfl rfl (.inr trivial) ⟨rfl, rfl⟩
  ·
    refine JC.condF' rfl (decide_eq_false h4) ?_
    refine JC.skip ?_
    refine QJ.then_normal ?_
    refine JC.seq ?_
    refine JC.region ?_
    refine JL.val (v := .pointer none) (QV.assign rfl) rfl rfl rfl ?_
    refine JL.nil ?_
    refine QJ.then_normal ?_
    refine JC.seq ?_
    refine JC.region ?_
    refine JL.val (v := .pointer none) (QV.move rfl) rfl rfl rfl ?_
    refine JL.val (v := s1.v) (QV.move rfl) rfl rfl rfl ?_
    obtain ⟨y7, hc8, hm⟩ := bind_inv hm
    refine JL.mv (d := some 10) (MV.call (Lo := []) (Lr := [Asr.vw (Enc.int .u8) (s1.v) x2]) (F35_1.spec (s1) (x2) _ hc8) rfl Try.func35 rfl rfl rfl [] [0] rfl rfl rfl ⟨(Drv.vw 0 rfl), trivial⟩) rfl rfl rfl ?_
    rintro _ _ ⟨_, ⟨rfl, rfl⟩, rfl⟩
    refine JL.nil ?_
    refine QJ.then_normal ?_
    refine JC.seq ?_
    refine JC.region ?_
    refine JL.val (v := .pointer none) (QV.move rfl) rfl rfl rfl ?_
    obtain ⟨y9, hc10, hm⟩ := bind_inv hm
    refine JL.mv (d := some 12) (MV.call (Lo := []) (Lr := [Asr.vw (Enc.int .u8) (s1.v) x2]) (F36_1.spec _ hc10) rfl Try.func36 rfl rfl rfl [] [0] rfl rfl rfl trivial) rfl rfl rfl ?_
    rintro _ _ ⟨_, ⟨rfl, rfl⟩, rfl⟩
    refine JL.mv (d := some 13) (MV.lit0 (Enc.int .u8) Try.underlying22 (by kernel_rfl)) rfl rfl rfl ?_
    rintro _ _ ⟨z11, rfl, rfl⟩
    obtain ⟨y12, hc13, hm⟩ := bind_inv hm
    refine JL.mv (d := some 14) (MV.call (Lo := []) (Lr := [Asr.of 5 (Enc.int .u8) (z11.v) ([] : List Int), Asr.vw (Enc.int .u8) (s1.v) x2]) (F33.spec (z11) (([] : List Int)) _ hc13) rfl Try.func33 rfl rfl rfl [] [0, 1] rfl rfl rfl ⟨(Drv.of 0 rfl), trivial⟩) rfl rfl rfl ?_
    rintro _ _ ⟨_, ⟨rfl, rfl⟩, rfl⟩
    refine JL.val (v := .bool (decide (y9 = y12))) (QV.eqlE (E := (Enc.arr 32 (Enc.int .u8))) (a := y9) (b := y12) zeq_41 (by kernel_rfl) rfl rfl) rfl rfl rfl ?_
    rcases ite_inv hm with ⟨h14, hm⟩ | ⟨h14, hm⟩
    ·
      refine JL.val (v := .bool true) (QV.eq (QV.move rfl) (congrArg Value.bool (decide_eq_true h14))) rfl rfl rfl ?_
      refine JL.val (v := .pointer none) (QV.move rfl) rfl rfl rfl ?_
      obtain ⟨y15, hc16, hm⟩ := bind_inv hm
      refine JL.mv (d := some 18) (MV.call (Lo := []) (Lr := [Asr.of 5 (Enc.int .u8) (z11.v) ([] : List Int), Asr.vw (Enc.int .u8) (s1.v) x2]) (F39_1.spec _ hc16) rfl Try.func39 rfl rfl rfl [] [0, 1] rfl rfl rfl trivial) rfl rfl rfl ?_
      rintro _ _ ⟨_, ⟨rfl, rfl⟩, rfl⟩
      refine JL.val (v := .bool (decide ((0 : Int) = (0 : Int)))) (QV.eql rfl rfl) rfl rfl rfl ?_
      refine JL.val (v := .bool (decide ((0 : Int) = (0 : Int)))) (QV.pickT rfl rfl) rfl rfl rfl ?_
      rcases ite_inv hm with ⟨h17, hm⟩ | ⟨h17, hm⟩
      ·
        refine JL.val (v := .bool true) (QV.eq (QV.move rfl) (congrArg Value.bool (decide_eq_true h17))) rfl rfl rfl ?_
        refine JL.val (v := .pointer none) (QV.move rfl) rfl rfl rfl ?_
        obtain ⟨y18, hc19, hm⟩ := bind_inv hm
        refine JL.mv (d := some 23) (MV.call (Lo := []) (Lr := [Asr.of 5 (Enc.int .u8) (z11.v) ([] : List Int), Asr.vw (Enc.int .u8) (s1.v) x2]) (F40_1.spec _ hc19) rfl Try.func40 rfl rfl rfl [] [0, 1] rfl rfl rfl trivial) rfl rfl rfl ?_
        rintro _ _ ⟨_, ⟨rfl, rfl⟩, rfl⟩
        refine JL.val (v := .bool true) ((QV.eq (QV.eqlP Try.underlying45 rfl rfl (.inl rfl)) (by simp))) rfl rfl rfl ?_
        refine JL.val (v := .bool true) (QV.pickT rfl rfl) rfl rfl rfl ?_
        refine JL.val (v := .bool true) (QV.move rfl) rfl rfl rfl ?_
        obtain ⟨y20, hc21, hm⟩ := bind_inv hm
        refine JL.mv (d := some 27) (MV.call (Lo := []) (Lr := [Asr.of 5 (Enc.int .u8) (z11.v) ([] : List Int), Asr.vw (Enc.int .u8) (s1.v) x2]) (F31.spec _ hc21) rfl Try.func31 rfl rfl rfl [] [0, 1] rfl rfl rfl trivial) rfl rfl rfl ?_
        rintro _ _ ⟨_, ⟨rfl, rfl⟩, rfl⟩
        refine JL.val (v := .bool y20) (QV.pickT rfl rfl) rfl rfl rfl ?_
        refine JL.val (v := .bool y20) (QV.assign rfl) rfl rfl rfl ?_
        refine JL.nil ?_
        refine QJ.then_normal ?_
        refine JC.ret ?_
        obtain rfl := Option.some.inj hm
        exact QJ.body (vs := [.bool y20]) (.inl rfl) rfl (ResVs.cons (ResV.tmp rfl) ResVs.nil) [] rfl rfl (.inr trivial) ⟨rfl, rfl⟩
      ·
        refine JL.val (v := .bool false) (QV.eq (QV.move rfl) (congrArg Value.bool (decide_eq_false h17))) rfl rfl rfl ?_
        refine JL.skip (d := some 22) rfl rfl rfl ?_
        refine JL.skip (d := some 23) rfl rfl rfl ?_
        refine JL.skip (d := some 24) rfl rfl rfl ?_
        refine JL.val (v := .bool false) (QV.pickF rfl rfl) rfl rfl rfl ?_
        refine JL.val (v := .bool false) (QV.move rfl) rfl rfl rfl ?_
        refine JL.skip (d := some 27) rfl rfl rfl ?_
        refine JL.val (v := .bool false) (QV.pickF rfl rfl) rfl rfl rfl ?_
        refine JL.val (v := .bool false) (QV.assign rfl) rfl rfl rfl ?_
        refine JL.nil ?_
        refine QJ.then_normal ?_
        refine JC.ret ?_
        obtain rfl := Option.some.inj hm
        exact QJ.body (vs := [.bool false]) (.inl rfl) rfl (ResVs.cons (ResV.tmp rfl) ResVs.nil) [] rfl rfl (.inr trivial) ⟨rfl, rfl⟩
    ·
      refine JL.val (v := .bool false) (QV.eq (QV.move rfl) (congrArg Value.bool (decide_eq_false h14))) rfl rfl rfl ?_
      refine JL.skip (d := some 17) rfl rfl rfl ?_
      refine JL.skip (d := some 18) rfl rfl rfl ?_
      refine JL.skip (d := some 19) rfl rfl rfl ?_
      refine JL.val (v := .bool false) (QV.pickF rfl rfl) rfl rfl rfl ?_
      refine JL.val (v := .bool false) (QV.move rfl) rfl rfl rfl ?_
      refine JL.skip (d := some 22) rfl rfl rfl ?_
      refine JL.skip (d := some 23) rfl rfl rfl ?_
      refine JL.skip (d := some 24) rfl rfl rfl ?_
      refine JL.val (v := .bool false) (QV.pickF rfl rfl) rfl rfl rfl ?_
      refine JL.val (v := .bool false) (QV.move rfl) rfl rfl rfl ?_
      refine JL.skip (d := some 27) rfl rfl rfl ?_
      refine JL.val (v := .bool false) (QV.pickF rfl rfl) rfl rfl rfl ?_
      refine JL.val (v := .bool false) (QV.assign rfl) rfl rfl rfl ?_
      refine JL.nil ?_
      refine QJ.then_normal ?_
      refine JC.ret ?_
      obtain rfl := Option.some.inj hm
      exact QJ.body (vs := [.bool false]) (.inl rfl) rfl (ResVs.cons (ResV.tmp rfl) ResVs.nil) [] rfl rfl (.inr trivial) ⟨rfl, rfl⟩

end Go.Proofs.Ytmedbpiapeiobaa
