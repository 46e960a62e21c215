/- Written by gen.py: functions and their contracts. -/
import Derived.Test.YtmedbpiapeiobaaSha
namespace Go.Proofs.Ytmedbpiapeiobaa
open Go Go.Eng Go.Proofs
set_option linter.unusedVariables false
set_option linter.unusedSimpArgs false
/-! ### 40: (*drogher/sha.Hash).Copy -/
noncomputable def F40.m (x2 : (Arr Int 8)) (x3 : (Arr Int 64)) (x4 : Int) (x5 : Int) : Option Unit :=
  some ()
set_option maxRecDepth 100000 in
set_option maxHeartbeats 4000000 in
theorem F40.spec (b1 : Nat) (x2 : (Arr Int 8)) (x3 : (Arr Int 64)) (x4 : Int) (x5 : Int) (r : Unit) (hm : F40.m x2 x3 x4 x5 = some r) :
    Ctr Try.prog false 40 [.pointer (some ⟨b1, 0, none⟩)] [Asr.blk b1 105 [Seg.of (Enc.arr 8 (Enc.int .u32)) x2, Seg.of (Enc.arr 64 (Enc.int .u8)) x3, Seg.c (.int .i64 x4), Seg.c (.int .u64 x5)]] (fun v L' => ∃ (g6 : Nat), v = .pointer (some ⟨g6, 0, none⟩) ∧ L' = [Asr.blk g6 105 [Seg.of (Enc.arr 8 (Enc.int .u32)) x2, Seg.of (Enc.arr 64 (Enc.int .u8)) x3, Seg.c (.int .i64 x4), Seg.c (.int .u64 x5)], Asr.blk b1 105 [Seg.of (Enc.arr 8 (Enc.int .u32)) x2, Seg.of (Enc.arr 64 (Enc.int .u8)) x3, Seg.c (.int .i64 x4), Seg.c (.int .u64 x5)]]) := by
  refine Ctr.intro (n := 9) (env := [(0, .pointer (some ⟨b1, 0, none⟩))]) Try.func40 rfl rfl rfl rfl (fun c => ?_)
  unfold F40.m at hm
  refine JC.seq ?_
  refine JC.region ?_
  refine JL.val (v := .pointer none) (QV.assign rfl) rfl rfl rfl ?_
  refine JL.nil ?_
  refine QJ.then_normal ?_
  refine JC.seq ?_
  refine JC.seq ?_
  refine JC.region ?_
  refine JL.val (v := .pointer (some ⟨b1, 0, none⟩)) (QV.move rfl) rfl rfl rfl ?_
  refine JL.val (v := .bool false) ((QV.eq (QV.eqlP Try.underlying45 rfl rfl (.inr rfl)) (by simp))) rfl rfl rfl ?_
  refine JL.nil ?_
  refine QJ.then_normal ?_
  refine JC.condF rfl ?_
  refine JC.skip ?_
  refine QJ.then_normal ?_
  refine JC.seq ?_
  refine JC.region ?_
  refine JL.val (v := .pointer (some ⟨b1, 0, none⟩)) (QV.move rfl) rfl rfl rfl ?_
  refine JL.val (v := .pointer (some ⟨b1, 0, none⟩)) (QV.nilCheck rfl) rfl rfl rfl ?_
  refine JL.val (v := .agg (flat [Seg.of (Enc.arr 8 (Enc.int .u32)) x2, Seg.of (Enc.arr 64 (Enc.int .u8)) x3, Seg.c (.int .i64 x4), Seg.c (.int .u64 x5)]).toArray) (QV.eq (QV.loadN (ss := [Seg.of (Enc.arr 8 (Enc.int .u32)) x2, Seg.of (Enc.arr 64 (Enc.int .u8)) x3, Seg.c (.int .i64 x4), Seg.c (.int .u64 x5)]) 0 0 4 rfl tk_105 rfl rfl rfl rfl) rfl) rfl rfl rfl ?_
  refine JL.mv (d := some 3) (MV.alloc [Seg.of (Enc.arr 8 (Enc.int .u32)) (Arr.rep 8 (0 : Int)), Seg.of (Enc.arr 64 (Enc.int .u8)) (Arr.rep 64 (0 : Int)), Seg.c (.int .i64 (0 : Int)), Seg.c (.int .u64 (0 : Int))] z_105 rfl) rfl rfl rfl ?_
  rintro _ _ ⟨b7, rfl, rfl⟩
  refine JL.mv (d := none) (MV.store (ss := [Seg.of (Enc.arr 8 (Enc.int .u32)) (Arr.rep 8 (0 : Int)), Seg.of (Enc.arr 64 (Enc.int .u8)) (Arr.rep 64 (0 : Int)), Seg.c (.int .i64 (0 : Int)), Seg.c (.int .u64 (0 : Int))]) 0 0 4 [Seg.of (Enc.arr 8 (Enc.int .u32)) x2, Seg.of (Enc.arr 64 (Enc.int .u8)) x3, Seg.c (.int .i64 x4), Seg.c (.int .u64 x5)] rfl tk_105 rfl rfl rfl rfl (fun w hs => ⟨rfl, one_of _ _, one_of _ _, one_c rfl, one_c rfl, trivial⟩)) rfl rfl rfl ?_
  rintro _ _ ⟨rfl, rfl⟩
  refine JL.nil ?_
  refine QJ.then_normal ?_
  refine JC.seq ?_
  refine JC.region ?_
  refine JL.val (v := .pointer (some ⟨b7, 0, none⟩)) (QV.assign rfl) rfl rfl rfl ?_
  refine JL.nil ?_
  refine QJ.then_normal ?_
  refine JC.ret ?_
  obtain rfl := Option.some.inj hm
  exact QJ.body (vs := [.pointer (some ⟨b7, 0, none⟩)]) (.inl rfl) rfl (ResVs.cons (ResV.tmp rfl) ResVs.nil) [0, 1] rfl rfl (.inr ⟨own_blk _ _ _, own_blk _ _ _, trivial⟩) ⟨b7, rfl, rfl⟩

/-! ### 11: drogher/drogherlaw01.ShaCopies -/
noncomputable def F11.m (x2 : List Int) (x4 : List Int) (x6 : List Int) : Option Bool :=
  (if (400 : Int) < ((x2).length : Int) then ((F31.m).bind fun y9 => some y9) else (if (400 : Int) < ((x4).length : Int) then ((F31.m).bind fun y12 => some y12) else (if (400 : Int) < ((x6).length : Int) then ((F31.m).bind fun y15 => some y15) else ((F34.m).bind fun y17 => ((F35.m (y17.1) (y17.2) ((0 : Int)) ((0 : Int)) (x2)).bind fun y20 => ((F40.m (y20.1) (y20.2.1) (y20.2.2.1) (y20.2.2.2)).bind fun y22 => ((F35.m (y20.1) (y20.2.1) (y20.2.2.1) (y20.2.2.2) (x4)).bind fun y25 => ((F35.m (y20.1) (y20.2.1) (y20.2.2.1) (y20.2.2.2) (x6)).bind fun y27 => ((F36.m (y25.1) (y25.2.1) (y25.2.2.1) (y25.2.2.2)).bind fun y29 => ((F37.m ([x2, x4])).bind fun y32 => ((F33.m (y32)).bind fun y35 => (if y29 = y35 then ((F36.m (y27.1) (y27.2.1) (y27.2.2.1) (y27.2.2.2)).bind fun y38 => ((F37.m ([x2, x6])).bind fun y41 => ((F33.m (y41)).bind fun y44 => (if y38 = y44 then ((F31.m).bind fun y47 => some y47) else some false)))) else some false))))))))))))
set_option maxRecDepth 100000 in
set_option maxHeartbeats 4000000 in
theorem F11.spec (s1 : SlV) (s3 : SlV) (s5 : SlV) (x2 : List Int) (x4 : List Int) (x6 : List Int) (r : Bool) (hm : F11.m x2 x4 x6 = some r) :
    Ctr Try.prog false 11 [s1.v, s3.v, s5.v] [Asr.vw (Enc.int .u8) (s1.v) x2, Asr.vw (Enc.int .u8) (s3.v) x4, Asr.vw (Enc.int .u8) (s5.v) x6] (fun v L' => v = .bool r ∧ L' = []) := by
  refine Ctr.intro (n := 58) (env := [(0, s1.v), (1, s3.v), (2, s5.v)]) Try.func11 rfl rfl rfl rfl (fun c => ?_)
  unfold F11.m at hm
  refine JC.seq ?_
  refine JC.region ?_
  refine JL.val (v := .bool false) (QV.assign rfl) rfl rfl rfl ?_
  refine JL.nil ?_
  refine QJ.then_normal ?_
  refine JC.seq ?_
  refine JC.seq ?_
  refine JC.region ?_
  refine JL.val (v := s1.v) (QV.move rfl) rfl rfl rfl ?_
  refine JL.val (v := .int .i64 ((x2).length : Int)) (QV.len (Rdg.vw 0 rfl) Try.underlying22 rfl) rfl rfl rfl ?_
  refine JL.val (v := .bool (decide ((400 : Int) < ((x2).length : Int)))) (QV.gtr rfl rfl) rfl rfl rfl ?_
  rcases ite_inv hm with ⟨h8, hm⟩ | ⟨h8, hm⟩
  ·
    refine JL.val (v := .bool true) (QV.eq (QV.move rfl) (congrArg Value.bool (decide_eq_true h8))) rfl rfl rfl ?_
    refine JL.skip (d := some 13) rfl rfl rfl ?_
    refine JL.skip (d := some 14) rfl rfl rfl ?_
    refine JL.skip (d := some 15) rfl rfl rfl ?_
    refine JL.val (v := .bool true) (QV.pickT rfl rfl) rfl rfl rfl ?_
    refine JL.val (v := .bool true) (QV.move rfl) rfl rfl rfl ?_
    refine JL.skip (d := some 18) rfl rfl rfl ?_
    refine JL.skip (d := some 19) rfl rfl rfl ?_
    refine JL.skip (d := some 20) rfl rfl rfl ?_
    refine JL.val (v := .bool true) (QV.pickT rfl rfl) rfl rfl rfl ?_
    refine JL.nil ?_
    refine QJ.then_normal ?_
    refine JC.condT rfl ?_
    refine JC.seq ?_
    refine JC.region ?_
    obtain ⟨y9, hc10, hm⟩ := bind_inv hm
    refine JL.mv (d := some 22) (MV.call (Lo := []) (Lr := [Asr.vw (Enc.int .u8) (s1.v) x2, Asr.vw (Enc.int .u8) (s3.v) x4, Asr.vw (Enc.int .u8) (s5.v) x6]) (F31.spec _ hc10) rfl Try.func31 rfl rfl rfl [] [0, 1, 2] rfl rfl rfl trivial) rfl rfl rfl ?_
    rintro _ _ ⟨_, ⟨rfl, rfl⟩, rfl⟩
    refine JL.val (v := .bool y9) (QV.assign rfl) rfl rfl rfl ?_
    refine JL.nil ?_
    refine QJ.then_normal ?_
    refine JC.ret ?_
    refine QJ.then_ret ?_
    obtain rfl := Option.some.inj hm
    exact QJ.body (vs := [.bool y9]) (.inl rfl) rfl (ResVs.cons (ResV.tmp rfl) ResVs.nil) [] rfl rfl (.inr trivial) ⟨rfl, rfl⟩
  ·
    refine JL.val (v := .bool false) (QV.eq (QV.move rfl) (congrArg Value.bool (decide_eq_false h8))) rfl rfl rfl ?_
    refine JL.val (v := s3.v) (QV.move rfl) rfl rfl rfl ?_
    refine JL.val (v := .int .i64 ((x4).length : Int)) (QV.len (Rdg.vw 1 rfl) Try.underlying22 rfl) rfl rfl rfl ?_
    refine JL.val (v := .bool (decide ((400 : Int) < ((x4).length : Int)))) (QV.gtr rfl rfl) rfl rfl rfl ?_
    refine JL.val (v := .bool (decide ((400 : Int) < ((x4).length : Int)))) (QV.pickF rfl rfl) rfl rfl rfl ?_
    rcases ite_inv hm with ⟨h11, hm⟩ | ⟨h11, hm⟩
    ·
      refine JL.val (v := .bool true) (QV.eq (QV.move rfl) (congrArg Value.bool (decide_eq_true h11))) rfl rfl rfl ?_
      refine JL.skip (d := some 18) rfl rfl rfl ?_
      refine JL.skip (d := some 19) rfl rfl rfl ?_
      refine JL.skip (d := some 20) rfl rfl rfl ?_
      refine JL.val (v := .bool true) (QV.pickT rfl rfl) rfl rfl rfl ?_
      refine JL.nil ?_
      refine QJ.then_normal ?_
      refine JC.condT rfl ?_
      refine JC.seq ?_
      refine JC.region ?_
      obtain ⟨y12, hc13, hm⟩ := bind_inv hm
      refine JL.mv (d := some 22) (MV.call (Lo := []) (Lr := [Asr.vw (Enc.int .u8) (s1.v) x2, Asr.vw (Enc.int .u8) (s3.v) x4, Asr.vw (Enc.int .u8) (s5.v) x6]) (F31.spec _ hc13) rfl Try.func31 rfl rfl rfl [] [0, 1, 2] rfl rfl rfl trivial) rfl rfl rfl ?_
      rintro _ _ ⟨_, ⟨rfl, rfl⟩, rfl⟩
      refine JL.val (v := .bool y12) (QV.assign rfl) rfl rfl rfl ?_
      refine JL.nil ?_
      refine QJ.then_normal ?_
      refine JC.ret ?_
      refine QJ.then_ret ?_
      obtain rfl := Option.some.inj hm
      exact QJ.body (vs := [.bool y12]) (.inl rfl) rfl (ResVs.cons (ResV.tmp rfl) ResVs.nil) [] rfl rfl (.inr trivial) ⟨rfl, rfl⟩
    ·
      refine JL.val (v := .bool false) (QV.eq (QV.move rfl) (congrArg Value.bool (decide_eq_false h11))) rfl rfl rfl ?_
      refine JL.val (v := s5.v) (QV.move rfl) rfl rfl rfl ?_
      refine JL.val (v := .int .i64 ((x6).length : Int)) (QV.len (Rdg.vw 2 rfl) Try.underlying22 rfl) rfl rfl rfl ?_
      refine JL.val (v := .bool (decide ((400 : Int) < ((x6).length : Int)))) (QV.gtr rfl rfl) rfl rfl rfl ?_
      refine JL.val (v := .bool (decide ((400 : Int) < ((x6).length : Int)))) (QV.pickF rfl rfl) rfl rfl rfl ?_
      refine JL.nil ?_
      refine QJ.then_normal ?_
      rcases ite_inv hm with ⟨h14, hm⟩ | ⟨h14, hm⟩
      ·
        refine JC.condT' rfl (decide_eq_true h14) ?_
        refine JC.seq ?_
        refine JC.region ?_
        obtain ⟨y15, hc16, hm⟩ := bind_inv hm
        refine JL.mv (d := some 22) (MV.call (Lo := []) (Lr := [Asr.vw (Enc.int .u8) (s1.v) x2, Asr.vw (Enc.int .u8) (s3.v) x4, Asr.vw (Enc.int .u8) (s5.v) x6]) (F31.spec _ hc16) rfl Try.func31 rfl rfl rfl [] [0, 1, 2] rfl rfl rfl trivial) rfl rfl rfl ?_
        rintro _ _ ⟨_, ⟨rfl, rfl⟩, rfl⟩
        refine JL.val (v := .bool y15) (QV.assign rfl) rfl rfl rfl ?_
        refine JL.nil ?_
        refine QJ.then_normal ?_
        refine JC.ret ?_
        refine QJ.then_ret ?_
        obtain rfl := Option.some.inj hm
        exact QJ.body (vs := [.bool y15]) (.inl rfl) rfl (ResVs.cons (ResV.tmp rfl) ResVs.nil) [] rfl rfl (.inr trivial) ⟨rfl, rfl⟩
      ·
        refine JC.condF' rfl (decide_eq_false h14) ?_
        refine JC.skip ?_
        refine QJ.then_normal ?_
        refine JC.seq ?_
        refine JC.region ?_
        obtain ⟨y17, hc18, hm⟩ := bind_inv hm
        refine JL.mv (d := some 23) (MV.call (Lo := []) (Lr := [Asr.vw (Enc.int .u8) (s1.v) x2, Asr.vw (Enc.int .u8) (s3.v) x4, Asr.vw (Enc.int .u8) (s5.v) x6]) (F34.spec _ hc18) rfl Try.func34 rfl rfl rfl [] [0, 1, 2] rfl rfl rfl trivial) rfl rfl rfl ?_
        rintro _ _ ⟨_, ⟨b19, rfl, rfl⟩, rfl⟩
        refine JL.val (v := .pointer (some ⟨b19, 0, none⟩)) (QV.assign rfl) rfl rfl rfl ?_
        refine JL.nil ?_
        refine QJ.then_normal ?_
        refine JC.seq ?_
        refine JC.region ?_
        refine JL.val (v := .pointer (some ⟨b19, 0, none⟩)) (QV.move rfl) rfl rfl rfl ?_
        refine JL.val (v := s1.v) (QV.move rfl) rfl rfl rfl ?_
        obtain ⟨y20, hc21, hm⟩ := bind_inv hm
        refine JL.mv (d := some 26) (MV.call (Lo := [Asr.blk b19 105 [Seg.of (Enc.arr 8 (Enc.int .u32)) y17.1, Seg.of (Enc.arr 64 (Enc.int .u8)) y17.2, Seg.c (.int .i64 (0 : Int)), Seg.c (.int .u64 (0 : Int))]]) (Lr := [Asr.vw (Enc.int .u8) (s1.v) x2, Asr.vw (Enc.int .u8) (s3.v) x4, Asr.vw (Enc.int .u8) (s5.v) x6]) (F35.spec (b19) (s1) (y17.1) (y17.2) ((0 : Int)) ((0 : Int)) (x2) _ hc21) rfl Try.func35 rfl rfl rfl [0] [1, 2, 3] rfl rfl rfl ⟨(Drv.vw 0 rfl), trivial⟩) rfl rfl rfl ?_
        rintro _ _ ⟨_, ⟨rfl, rfl⟩, rfl⟩
        refine JL.nil ?_
        refine QJ.then_normal ?_
        refine JC.seq ?_
        refine JC.region ?_
        refine JL.val (v := .pointer (some ⟨b19, 0, none⟩)) (QV.move rfl) rfl rfl rfl ?_
        obtain ⟨y22, hc23, hm⟩ := bind_inv hm
        refine JL.mv (d := some 28) (MV.call (Lo := [Asr.blk b19 105 [Seg.of (Enc.arr 8 (Enc.int .u32)) y20.1, Seg.of (Enc.arr 64 (Enc.int .u8)) y20.2.1, Seg.c (.int .i64 y20.2.2.1), Seg.c (.int .u64 y20.2.2.2)]]) (Lr := [Asr.vw (Enc.int .u8) (s1.v) x2, Asr.vw (Enc.int .u8) (s3.v) x4, Asr.vw (Enc.int .u8) (s5.v) x6]) (F40.spec (b19) (y20.1) (y20.2.1) (y20.2.2.1) (y20.2.2.2) _ hc23) rfl Try.func40 rfl rfl rfl [0] [1, 2, 3] rfl rfl rfl trivial) rfl rfl rfl ?_
        rintro _ _ ⟨_, ⟨b24, rfl, rfl⟩, rfl⟩
        refine JL.val (v := .pointer (some ⟨b24, 0, none⟩)) (QV.assign rfl) rfl rfl rfl ?_
        refine JL.nil ?_
        refine QJ.then_normal ?_
        refine JC.seq ?_
        refine JC.seq ?_
        refine JC.region ?_
        refine JL.val (v := .pointer (some ⟨b24, 0, none⟩)) (QV.move rfl) rfl rfl rfl ?_
        refine JL.val (v := .bool false) ((QV.eq (QV.eqlP Try.underlying45 rfl rfl (.inr rfl)) (by simp))) rfl rfl rfl ?_
        refine JL.nil ?_
        refine QJ.then_normal ?_
        refine JC.condF rfl ?_
        refine JC.skip ?_
        refine QJ.then_normal ?_
        refine JC.seq ?_
        refine JC.region ?_
        refine JL.val (v := .pointer (some ⟨b19, 0, none⟩)) (QV.move rfl) rfl rfl rfl ?_
        refine JL.val (v := s3.v) (QV.move rfl) rfl rfl rfl ?_
        obtain ⟨y25, hc26, hm⟩ := bind_inv hm
        refine JL.mv (d := some 33) (MV.call (Lo := [Asr.blk b19 105 [Seg.of (Enc.arr 8 (Enc.int .u32)) y20.1, Seg.of (Enc.arr 64 (Enc.int .u8)) y20.2.1, Seg.c (.int .i64 y20.2.2.1), Seg.c (.int .u64 y20.2.2.2)]]) (Lr := [Asr.blk b24 105 [Seg.of (Enc.arr 8 (Enc.int .u32)) y20.1, Seg.of (Enc.arr 64 (Enc.int .u8)) y20.2.1, Seg.c (.int .i64 y20.2.2.1), Seg.c (.int .u64 y20.2.2.2)], Asr.vw (Enc.int .u8) (s1.v) x2, Asr.vw (Enc.int .u8) (s3.v) x4, Asr.vw (Enc.int .u8) (s5.v) x6]) (F35.spec (b19) (s3) (y20.1) (y20.2.1) (y20.2.2.1) (y20.2.2.2) (x4) _ hc26) rfl Try.func35 rfl rfl rfl [1] [0, 2, 3, 4] rfl rfl rfl ⟨(Drv.vw 2 rfl), trivial⟩) rfl rfl rfl ?_
        rintro _ _ ⟨_, ⟨rfl, rfl⟩, rfl⟩
        refine JL.nil ?_
        refine QJ.then_normal ?_
        refine JC.seq ?_
        refine JC.region ?_
        refine JL.val (v := .pointer (some ⟨b24, 0, none⟩)) (QV.move rfl) rfl rfl rfl ?_
        refine JL.val (v := s5.v) (QV.move rfl) rfl rfl rfl ?_
        obtain ⟨y27, hc28, hm⟩ := bind_inv hm
        refine JL.mv (d := some 36) (MV.call (Lo := [Asr.blk b24 105 [Seg.of (Enc.arr 8 (Enc.int .u32)) y20.1, Seg.of (Enc.arr 64 (Enc.int .u8)) y20.2.1, Seg.c (.int .i64 y20.2.2.1), Seg.c (.int .u64 y20.2.2.2)]]) (Lr := [Asr.blk b19 105 [Seg.of (Enc.arr 8 (Enc.int .u32)) y25.1, Seg.of (Enc.arr 64 (Enc.int .u8)) y25.2.1, Seg.c (.int .i64 y25.2.2.1), Seg.c (.int .u64 y25.2.2.2)], Asr.vw (Enc.int .u8) (s1.v) x2, Asr.vw (Enc.int .u8) (s3.v) x4, Asr.vw (Enc.int .u8) (s5.v) x6]) (F35.spec (b24) (s5) (y20.1) (y20.2.1) (y20.2.2.1) (y20.2.2.2) (x6) _ hc28) rfl Try.func35 rfl rfl rfl [1] [0, 2, 3, 4] rfl rfl rfl ⟨(Drv.vw 3 rfl), trivial⟩) rfl rfl rfl ?_
        rintro _ _ ⟨_, ⟨rfl, rfl⟩, rfl⟩
        refine JL.nil ?_
        refine QJ.then_normal ?_
        refine JC.seq ?_
        refine JC.region ?_
        refine JL.val (v := .pointer (some ⟨b19, 0, none⟩)) (QV.move rfl) rfl rfl rfl ?_
        obtain ⟨y29, hc30, hm⟩ := bind_inv hm
        refine JL.mv (d := some 38) (MV.call (Lo := [Asr.blk b19 105 [Seg.of (Enc.arr 8 (Enc.int .u32)) y25.1, Seg.of (Enc.arr 64 (Enc.int .u8)) y25.2.1, Seg.c (.int .i64 y25.2.2.1), Seg.c (.int .u64 y25.2.2.2)]]) (Lr := [Asr.blk b24 105 [Seg.of (Enc.arr 8 (Enc.int .u32)) y27.1, Seg.of (Enc.arr 64 (Enc.int .u8)) y27.2.1, Seg.c (.int .i64 y27.2.2.1), Seg.c (.int .u64 y27.2.2.2)], Asr.vw (Enc.int .u8) (s1.v) x2, Asr.vw (Enc.int .u8) (s3.v) x4, Asr.vw (Enc.int .u8) (s5.v) x6]) (F36.spec (b19) (y25.1) (y25.2.1) (y25.2.2.1) (y25.2.2.2) _ hc30) rfl Try.func36 rfl rfl rfl [1] [0, 2, 3, 4] rfl rfl rfl trivial) rfl rfl rfl ?_
        rintro _ _ ⟨_, ⟨rfl, rfl⟩, rfl⟩
        refine JL.val (v := s1.v) (QV.move rfl) rfl rfl rfl ?_
        refine JL.val (v := s3.v) (QV.move rfl) rfl rfl rfl ?_
        refine JL.mv (d := some 41) (MV.lit (E := (NE.sl (Enc.int .u8)).E) (vals := [(0, s1.v), (1, s3.v)]) [(s1, x2), (s3, x4)] Try.underlying50 zi_22 rfl (by decide) rfl (by kernel_rfl)) rfl rfl rfl ?_
        rintro _ _ ⟨z31, rfl, rfl⟩
        obtain ⟨y32, hc33, hm⟩ := bind_inv hm
        refine JL.mv (d := some 42) (MV.call (Lo := []) (Lr := [Asr.of 22 (NE.sl (Enc.int .u8)).E (z31.v) [(s1, x2), (s3, x4)], Asr.blk b19 105 [Seg.of (Enc.arr 8 (Enc.int .u32)) y25.1, Seg.of (Enc.arr 64 (Enc.int .u8)) y25.2.1, Seg.c (.int .i64 y25.2.2.1), Seg.c (.int .u64 y25.2.2.2)], Asr.blk b24 105 [Seg.of (Enc.arr 8 (Enc.int .u32)) y27.1, Seg.of (Enc.arr 64 (Enc.int .u8)) y27.2.1, Seg.c (.int .i64 y27.2.2.1), Seg.c (.int .u64 y27.2.2.2)], Asr.vw (Enc.int .u8) (s1.v) x2, Asr.vw (Enc.int .u8) (s3.v) x4, Asr.vw (Enc.int .u8) (s5.v) x6]) (F37.spec (z31) ([s1, s3]) ([x2, x4]) _ hc33) rfl Try.func37 rfl rfl rfl [] [0, 1, 2, 3, 4, 5] rfl rfl rfl ⟨(Drv.lit (zs := [s1, s3]) (xs := [x2, x4]) 0 rfl rfl ⟨(Drv.vw 3 rfl), ⟨(Drv.vw 4 rfl), trivial⟩⟩), trivial⟩) rfl rfl rfl ?_
        rintro _ _ ⟨_, ⟨z34, rfl, rfl⟩, rfl⟩
        obtain ⟨y35, hc36, hm⟩ := bind_inv hm
        refine JL.mv (d := some 43) (MV.call (Lo := []) (Lr := [Asr.of 5 (Enc.int .u8) (z34.v) y32, Asr.of 22 (NE.sl (Enc.int .u8)).E (z31.v) [(s1, x2), (s3, x4)], Asr.blk b19 105 [Seg.of (Enc.arr 8 (Enc.int .u32)) y25.1, Seg.of (Enc.arr 64 (Enc.int .u8)) y25.2.1, Seg.c (.int .i64 y25.2.2.1), Seg.c (.int .u64 y25.2.2.2)], Asr.blk b24 105 [Seg.of (Enc.arr 8 (Enc.int .u32)) y27.1, Seg.of (Enc.arr 64 (Enc.int .u8)) y27.2.1, Seg.c (.int .i64 y27.2.2.1), Seg.c (.int .u64 y27.2.2.2)], Asr.vw (Enc.int .u8) (s1.v) x2, Asr.vw (Enc.int .u8) (s3.v) x4, Asr.vw (Enc.int .u8) (s5.v) x6]) (F33.spec (z34) (y32) _ hc36) rfl Try.func33 rfl rfl rfl [] [0, 1, 2, 3, 4, 5, 6] rfl rfl rfl ⟨(Drv.of 0 rfl), trivial⟩) rfl rfl rfl ?_
        rintro _ _ ⟨_, ⟨rfl, rfl⟩, rfl⟩
        refine JL.val (v := .bool (decide (y29 = y35))) (QV.eqlE (E := (Enc.arr 32 (Enc.int .u8))) (a := y29) (b := y35) zeq_41 (by kernel_rfl) rfl rfl) rfl rfl rfl ?_
        rcases ite_inv hm with ⟨h37, hm⟩ | ⟨h37, hm⟩
        ·
          refine JL.val (v := .bool true) (QV.eq (QV.move rfl) (congrArg Value.bool (decide_eq_true h37))) rfl rfl rfl ?_
          refine JL.val (v := .pointer (some ⟨b24, 0, none⟩)) (QV.move rfl) rfl rfl rfl ?_
          obtain ⟨y38, hc39, hm⟩ := bind_inv hm
          refine JL.mv (d := some 47) (MV.call (Lo := [Asr.blk b24 105 [Seg.of (Enc.arr 8 (Enc.int .u32)) y27.1, Seg.of (Enc.arr 64 (Enc.int .u8)) y27.2.1, Seg.c (.int .i64 y27.2.2.1), Seg.c (.int .u64 y27.2.2.2)]]) (Lr := [Asr.of 5 (Enc.int .u8) (z34.v) y32, Asr.of 22 (NE.sl (Enc.int .u8)).E (z31.v) [(s1, x2), (s3, x4)], Asr.blk b19 105 [Seg.of (Enc.arr 8 (Enc.int .u32)) y25.1, Seg.of (Enc.arr 64 (Enc.int .u8)) y25.2.1, Seg.c (.int .i64 y25.2.2.1), Seg.c (.int .u64 y25.2.2.2)], Asr.vw (Enc.int .u8) (s1.v) x2, Asr.vw (Enc.int .u8) (s3.v) x4, Asr.vw (Enc.int .u8) (s5.v) x6]) (F36.spec (b24) (y27.1) (y27.2.1) (y27.2.2.1) (y27.2.2.2) _ hc39) rfl Try.func36 rfl rfl rfl [3] [0, 1, 2, 4, 5, 6] rfl rfl rfl trivial) rfl rfl rfl ?_
          rintro _ _ ⟨_, ⟨rfl, rfl⟩, rfl⟩
          refine JL.val (v := s1.v) (QV.move rfl) rfl rfl rfl ?_
          refine JL.val (v := s5.v) (QV.move rfl) rfl rfl rfl ?_
          refine JL.mv (d := some 50) (MV.lit (E := (NE.sl (Enc.int .u8)).E) (vals := [(0, s1.v), (1, s5.v)]) [(s1, x2), (s5, x6)] Try.underlying50 zi_22 rfl (by decide) rfl (by kernel_rfl)) rfl rfl rfl ?_
          rintro _ _ ⟨z40, rfl, rfl⟩
          obtain ⟨y41, hc42, hm⟩ := bind_inv hm
          refine JL.mv (d := some 51) (MV.call (Lo := []) (Lr := [Asr.of 22 (NE.sl (Enc.int .u8)).E (z40.v) [(s1, x2), (s5, x6)], Asr.blk b24 105 [Seg.of (Enc.arr 8 (Enc.int .u32)) y27.1, Seg.of (Enc.arr 64 (Enc.int .u8)) y27.2.1, Seg.c (.int .i64 y27.2.2.1), Seg.c (.int .u64 y27.2.2.2)], Asr.of 5 (Enc.int .u8) (z34.v) y32, Asr.of 22 (NE.sl (Enc.int .u8)).E (z31.v) [(s1, x2), (s3, x4)], Asr.blk b19 105 [Seg.of (Enc.arr 8 (Enc.int .u32)) y25.1, Seg.of (Enc.arr 64 (Enc.int .u8)) y25.2.1, Seg.c (.int .i64 y25.2.2.1), Seg.c (.int .u64 y25.2.2.2)], Asr.vw (Enc.int .u8) (s1.v) x2, Asr.vw (Enc.int .u8) (s3.v) x4, Asr.vw (Enc.int .u8) (s5.v) x6]) (F37.spec (z40) ([s1, s5]) ([x2, x6]) _ hc42) rfl Try.func37 rfl rfl rfl [] [0, 1, 2, 3, 4, 5, 6, 7] rfl rfl rfl ⟨(Drv.lit (zs := [s1, s5]) (xs := [x2, x6]) 0 rfl rfl ⟨(Drv.vw 5 rfl), ⟨(Drv.vw 7 rfl), trivial⟩⟩), trivial⟩) rfl rfl rfl ?_
          rintro _ _ ⟨_, ⟨z43, rfl, rfl⟩, rfl⟩
          obtain ⟨y44, hc45, hm⟩ := bind_inv hm
          refine JL.mv (d := some 52) (MV.call (Lo := []) (Lr := [Asr.of 5 (Enc.int .u8) (z43.v) y41, Asr.of 22 (NE.sl (Enc.int .u8)).E (z40.v) [(s1, x2), (s5, x6)], Asr.blk b24 105 [Seg.of (Enc.arr 8 (Enc.int .u32)) y27.1, Seg.of (Enc.arr 64 (Enc.int .u8)) y27.2.1, Seg.c (.int .i64 y27.2.2.1), Seg.c (.int .u64 y27.2.2.2)], Asr.of 5 (Enc.int .u8) (z34.v) y32, Asr.of 22 (NE.sl (Enc.int .u8)).E (z31.v) [(s1, x2), (s3, x4)], Asr.blk b19 105 [Seg.of (Enc.arr 8 (Enc.int .u32)) y25.1, Seg.of (Enc.arr 64 (Enc.int .u8)) y25.2.1, Seg.c (.int .i64 y25.2.2.1), Seg.c (.int .u64 y25.2.2.2)], Asr.vw (Enc.int .u8) (s1.v) x2, Asr.vw (Enc.int .u8) (s3.v) x4, Asr.vw (Enc.int .u8) (s5.v) x6]) (F33.spec (z43) (y41) _ hc45) rfl Try.func33 rfl rfl rfl [] [0, 1, 2, 3, 4, 5, 6, 7, 8] rfl rfl rfl ⟨(Drv.of 0 rfl), trivial⟩) rfl rfl rfl ?_
          rintro _ _ ⟨_, ⟨rfl, rfl⟩, rfl⟩
          refine JL.val (v := .bool (decide (y38 = y44))) (QV.eqlE (E := (Enc.arr 32 (Enc.int .u8))) (a := y38) (b := y44) zeq_41 (by kernel_rfl) rfl rfl) rfl rfl rfl ?_
          refine JL.val (v := .bool (decide (y38 = y44))) (QV.pickT rfl rfl) rfl rfl rfl ?_
          rcases ite_inv hm with ⟨h46, hm⟩ | ⟨h46, hm⟩
          ·
            refine JL.val (v := .bool true) (QV.eq (QV.move rfl) (congrArg Value.bool (decide_eq_true h46))) rfl rfl rfl ?_
            obtain ⟨y47, hc48, hm⟩ := bind_inv hm
            refine JL.mv (d := some 56) (MV.call (Lo := []) (Lr := [Asr.of 5 (Enc.int .u8) (z43.v) y41, Asr.of 22 (NE.sl (Enc.int .u8)).E (z40.v) [(s1, x2), (s5, x6)], Asr.blk b24 105 [Seg.of (Enc.arr 8 (Enc.int .u32)) y27.1, Seg.of (Enc.arr 64 (Enc.int .u8)) y27.2.1, Seg.c (.int .i64 y27.2.2.1), Seg.c (.int .u64 y27.2.2.2)], Asr.of 5 (Enc.int .u8) (z34.v) y32, Asr.of 22 (NE.sl (Enc.int .u8)).E (z31.v) [(s1, x2), (s3, x4)], Asr.blk b19 105 [Seg.of (Enc.arr 8 (Enc.int .u32)) y25.1, Seg.of (Enc.arr 64 (Enc.int .u8)) y25.2.1, Seg.c (.int .i64 y25.2.2.1), Seg.c (.int .u64 y25.2.2.2)], Asr.vw (Enc.int .u8) (s1.v) x2, Asr.vw (Enc.int .u8) (s3.v) x4, Asr.vw (Enc.int .u8) (s5.v) x6]) (F31.spec _ hc48) rfl Try.func31 rfl rfl rfl [] [0, 1, 2, 3, 4, 5, 6, 7, 8] rfl rfl rfl trivial) rfl rfl rfl ?_
            rintro _ _ ⟨_, ⟨rfl, rfl⟩, rfl⟩
            refine JL.val (v := .bool y47) (QV.pickT rfl rfl) rfl rfl rfl ?_
            refine JL.val (v := .bool y47) (QV.assign rfl) rfl rfl rfl ?_
            refine JL.nil ?_
            refine QJ.then_normal ?_
            refine JC.ret ?_
            obtain rfl := Option.some.inj hm
            exact QJ.body (vs := [.bool y47]) (.inl rfl) rfl (ResVs.cons (ResV.tmp rfl) ResVs.nil) [] rfl rfl (.inr trivial) ⟨rfl, rfl⟩
          ·
            refine JL.val (v := .bool false) (QV.eq (QV.move rfl) (congrArg Value.bool (decide_eq_false h46))) rfl rfl rfl ?_
            refine JL.skip (d := some 56) rfl rfl rfl ?_
            refine JL.val (v := .bool false) (QV.pickF rfl rfl) rfl rfl rfl ?_
            refine JL.val (v := .bool false) (QV.assign rfl) rfl rfl rfl ?_
            refine JL.nil ?_
            refine QJ.then_normal ?_
            refine JC.ret ?_
            obtain rfl := Option.some.inj hm
            exact QJ.body (vs := [.bool false]) (.inl rfl) rfl (ResVs.cons (ResV.tmp rfl) ResVs.nil) [] rfl rfl (.inr trivial) ⟨rfl, rfl⟩
        ·
          refine JL.val (v := .bool false) (QV.eq (QV.move rfl) (congrArg Value.bool (decide_eq_false h37))) rfl rfl rfl ?_
          refine JL.skip (d := some 46) rfl rfl rfl ?_
          refine JL.skip (d := some 47) rfl rfl rfl ?_
          refine JL.skip (d := some 48) rfl rfl rfl ?_
          refine JL.skip (d := some 49) rfl rfl rfl ?_
          refine JL.skip (d := some 50) rfl rfl rfl ?_
          refine JL.skip (d := some 51) rfl rfl rfl ?_
          refine JL.skip (d := some 52) rfl rfl rfl ?_
          refine JL.skip (d := some 53) rfl rfl rfl ?_
          refine JL.val (v := .bool false) (QV.pickF rfl rfl) rfl rfl rfl ?_
          refine JL.val (v := .bool false) (QV.move rfl) rfl rfl rfl ?_
          refine JL.skip (d := some 56) rfl rfl rfl ?_
          refine JL.val (v := .bool false) (QV.pickF rfl rfl) rfl rfl rfl ?_
          refine JL.val (v := .bool false) (QV.assign rfl) rfl rfl rfl ?_
          refine JL.nil ?_
          refine QJ.then_normal ?_
          refine JC.ret ?_
          obtain rfl := Option.some.inj hm
          exact QJ.body (vs := [.bool false]) (.inl rfl) rfl (ResVs.cons (ResV.tmp rfl) ResVs.nil) [] rfl rfl (.inr trivial) ⟨rfl, rfl⟩

end Go.Proofs.Ytmedbpiapeiobaa
