/- Written by gen.py: functions and their contracts. -/
import Derived.Test.YtpophpendlnehaaHuf
namespace Go.Proofs.Ytpophpendlnehaa
open Go Go.Eng Go.Proofs
set_option linter.unusedVariables false
set_option linter.unusedSimpArgs false
/-! ### 53: (*drogher/huff.Table).Next -/
noncomputable def F53_1.m (x3 : List Int) (x4 : Int) : Option Unit :=
  some ()
set_option maxRecDepth 100000 in
set_option maxHeartbeats 4000000 in
theorem F53_1.spec (b1 : Nat) (s2 : SlV) (x3 : List Int) (x4 : Int) (r : Unit) (hm : F53_1.m x3 x4 = some r) :
    Ctr Try.prog false 53 [.pointer none, .pointer (some ⟨b1, 0, none⟩)] [Asr.blk b1 101 [Seg.c (s2.v), Seg.c (.int .i64 x4)], Asr.of 5 (Enc.int .u8) (s2.v) x3] (fun v L' => v = .tuple #[.int .i64 (0 : Int), .int .i64 (1 : Int)] ∧ L' = [Asr.of 5 (Enc.int .u8) (s2.v) x3, Asr.blk b1 101 [Seg.c (s2.v), Seg.c (.int .i64 x4)]]) := by
  refine Ctr.intro (n := 79) (env := [(0, .pointer none), (1, .pointer (some ⟨b1, 0, none⟩))]) Try.func53 rfl rfl rfl rfl (fun c => ?_)
  unfold F53_1.m at hm
  refine JC.seq ?_
  refine JC.region ?_
  refine JL.val (v := .int .i64 (0 : Int)) (QV.assign rfl) rfl rfl rfl ?_
  refine JL.val (v := .int .i64 (0 : Int)) (QV.assign rfl) rfl rfl rfl ?_
  refine JL.nil ?_
  refine QJ.then_normal ?_
  refine JC.seq ?_
  refine JC.seq ?_
  refine JC.region ?_
  refine JL.val (v := .pointer none) (QV.move rfl) rfl rfl rfl ?_
  refine JL.val (v := .bool true) ((QV.eq (QV.eqlP Try.underlying66 rfl rfl (.inl rfl)) (by simp))) rfl rfl rfl ?_
  refine JL.val (v := .bool true) (QV.move rfl) rfl rfl rfl ?_
  refine JL.skip (d := some 15) rfl rfl rfl ?_
  refine JL.skip (d := some 16) rfl rfl rfl ?_
  refine JL.val (v := .bool true) (QV.pickT rfl rfl) rfl rfl rfl ?_
  refine JL.nil ?_
  refine QJ.then_normal ?_
  refine JC.condT rfl ?_
  refine JC.seq ?_
  refine JC.region ?_
  refine JL.val (v := .int .i64 (0 : Int)) (QV.assign rfl) rfl rfl rfl ?_
  refine JL.val (v := .int .i64 (1 : Int)) (QV.assign rfl) rfl rfl rfl ?_
  refine JL.nil ?_
  refine QJ.then_normal ?_
  refine JC.ret ?_
  refine QJ.then_ret ?_
  obtain rfl := Option.some.inj hm
  exact QJ.body (vs := [.int .i64 (0 : Int), .int .i64 (1 : Int)]) (.inl rfl) rfl (ResVs.cons (ResV.tmp rfl) (ResVs.cons (ResV.tmp rfl) ResVs.nil)) [1, 0] rfl rfl (.inr ⟨own_of _ _ _ _, own_blk _ _ _, trivial⟩) ⟨rfl, rfl⟩

/-! ### 53: (*drogher/huff.Table).Next -/
noncomputable def F53_2.m (x2 : (Arr Int 16)) (x3 : (Arr Int 16)) (x4 : (Arr Int 16)) (x6 : List Int) : Option Unit :=
  some ()
set_option maxRecDepth 100000 in
set_option maxHeartbeats 4000000 in
theorem F53_2.spec (b1 : Nat) (s5 : SlV) (x2 : (Arr Int 16)) (x3 : (Arr Int 16)) (x4 : (Arr Int 16)) (x6 : List Int) (r : Unit) (hm : F53_2.m x2 x3 x4 x6 = some r) :
    Ctr Try.prog false 53 [.pointer (some ⟨b1, 0, none⟩), .pointer none] [Asr.blk b1 107 [Seg.of (Enc.arr 16 (Enc.int .i64)) x2, Seg.of (Enc.arr 16 (Enc.int .i64)) x3, Seg.of (Enc.arr 16 (Enc.int .i64)) x4, Seg.c (s5.v)], Asr.of 3 (Enc.int .i64) (s5.v) x6] (fun v L' => v = .tuple #[.int .i64 (0 : Int), .int .i64 (1 : Int)] ∧ L' = [Asr.of 3 (Enc.int .i64) (s5.v) x6, Asr.blk b1 107 [Seg.of (Enc.arr 16 (Enc.int .i64)) x2, Seg.of (Enc.arr 16 (Enc.int .i64)) x3, Seg.of (Enc.arr 16 (Enc.int .i64)) x4, Seg.c (s5.v)]]) := by
  refine Ctr.intro (n := 79) (env := [(0, .pointer (some ⟨b1, 0, none⟩)), (1, .pointer none)]) Try.func53 rfl rfl rfl rfl (fun c => ?_)
  unfold F53_2.m at hm
  refine JC.seq ?_
  refine JC.region ?_
  refine JL.val (v := .int .i64 (0 : Int)) (QV.assign rfl) rfl rfl rfl ?_
  refine JL.val (v := .int .i64 (0 : Int)) (QV.assign rfl) rfl rfl rfl ?_
  refine JL.nil ?_
  refine QJ.then_normal ?_
  refine JC.seq ?_
  refine JC.seq ?_
  refine JC.region ?_
  refine JL.val (v := .pointer (some ⟨b1, 0, none⟩)) (QV.move rfl) rfl rfl rfl ?_
  refine JL.val (v := .bool false) ((QV.eq (QV.eqlP Try.underlying66 rfl rfl (.inr rfl)) (by simp))) rfl rfl rfl ?_
  refine JL.val (v := .bool false) (QV.move rfl) rfl rfl rfl ?_
  refine JL.val (v := .pointer none) (QV.move rfl) rfl rfl rfl ?_
  refine JL.val (v := .bool true) ((QV.eq (QV.eqlP Try.underlying51 rfl rfl (.inl rfl)) (by simp))) rfl rfl rfl ?_
  refine JL.val (v := .bool true) (QV.pickF rfl rfl) rfl rfl rfl ?_
  refine JL.nil ?_
  refine QJ.then_normal ?_
  refine JC.condT rfl ?_
  refine JC.seq ?_
  refine JC.region ?_
  refine JL.val (v := .int .i64 (0 : Int)) (QV.assign rfl) rfl rfl rfl ?_
  refine JL.val (v := .int .i64 (1 : Int)) (QV.assign rfl) rfl rfl rfl ?_
  refine JL.nil ?_
  refine QJ.then_normal ?_
  refine JC.ret ?_
  refine QJ.then_ret ?_
  obtain rfl := Option.some.inj hm
  exact QJ.body (vs := [.int .i64 (0 : Int), .int .i64 (1 : Int)]) (.inl rfl) rfl (ResVs.cons (ResV.tmp rfl) (ResVs.cons (ResV.tmp rfl) ResVs.nil)) [1, 0] rfl rfl (.inr ⟨own_of _ _ _ _, own_blk _ _ _, trivial⟩) ⟨rfl, rfl⟩

/-! ### 53: (*drogher/huff.Table).Next -/
noncomputable def F53_3.m  : Option Unit :=
  some ()
set_option maxRecDepth 100000 in
set_option maxHeartbeats 4000000 in
theorem F53_3.spec  (r : Unit) (hm : F53_3.m  = some r) :
    Ctr Try.prog false 53 [.pointer none, .pointer none] [] (fun v L' => v = .tuple #[.int .i64 (0 : Int), .int .i64 (1 : Int)] ∧ L' = []) := by
  refine Ctr.intro (n := 79) (env := [(0, .pointer none), (1, .pointer none)]) Try.func53 rfl rfl rfl rfl (fun c => ?_)
  unfold F53_3.m at hm
  refine JC.seq ?_
  refine JC.region ?_
  refine JL.val (v := .int .i64 (0 : Int)) (QV.assign rfl) rfl rfl rfl ?_
  refine JL.val (v := .int .i64 (0 : Int)) (QV.assign rfl) rfl rfl rfl ?_
  refine JL.nil ?_
  refine QJ.then_normal ?_
  refine JC.seq ?_
  refine JC.seq ?_
  refine JC.region ?_
  refine JL.val (v := .pointer none) (QV.move rfl) rfl rfl rfl ?_
  refine JL.val (v := .bool true) ((QV.eq (QV.eqlP Try.underlying66 rfl rfl (.inl rfl)) (by simp))) rfl rfl rfl ?_
  refine JL.val (v := .bool true) (QV.move rfl) rfl rfl rfl ?_
  refine JL.skip (d := some 15) rfl rfl rfl ?_
  refine JL.skip (d := some 16) rfl rfl rfl ?_
  refine JL.val (v := .bool true) (QV.pickT rfl rfl) rfl rfl rfl ?_
  refine JL.nil ?_
  refine QJ.then_normal ?_
  refine JC.condT rfl ?_
  refine JC.seq ?_
  refine JC.region ?_
  refine JL.val (v := .int .i64 (0 : Int)) (QV.assign rfl) rfl rfl rfl ?_
  refine JL.val (v := .int .i64 (1 : Int)) (QV.assign rfl) rfl rfl rfl ?_
  refine JL.nil ?_
  refine QJ.then_normal ?_
  refine JC.ret ?_
  refine QJ.then_ret ?_
  obtain rfl := Option.some.inj hm
  exact QJ.body (vs := [.int .i64 (0 : Int), .int .i64 (1 : Int)]) (.inl rfl) rfl (ResVs.cons (ResV.tmp rfl) (ResVs.cons (ResV.tmp rfl) ResVs.nil)) [] rfl rfl (.inr trivial) ⟨rfl, rfl⟩

/-! ### 13: drogher/drogherlaw09.HuffNil -/
noncomputable def F13.m (x2 : List Int) : Option Bool :=
  (if (100 : Int) < ((x2).length : Int) then ((F47.m).bind fun y5 => some y5) else ((F38.m (x2)).bind fun y7 => ((F53_1.m (y7) ((0 : Int))).bind fun y11 => ((F49.m ([(1 : Int), (1 : Int)])).bind fun y14 => match y14 with | (.inl y16) => ((F53_2.m (y16.1) (y16.2.1) (y16.2.2.1) (y16.2.2.2)).bind fun y20 => (if (1 : Int) = (1 : Int) then (if (0 : Int) = (0 : Int) then (if (1 : Int) = (1 : Int) then ((F47.m).bind fun y25 => some y25) else some false) else some false) else some false)) | (.inr y17) => ((F53_3.m).bind fun y27 => (if (1 : Int) = (1 : Int) then some false else some false))))))
set_option maxRecDepth 100000 in
set_option maxHeartbeats 4000000 in
theorem F13.spec (s1 : SlV) (x2 : List Int) (r : Bool) (hm : F13.m x2 = some r) :
    Ctr Try.prog false 13 [s1.v] [Asr.vw (Enc.int .u8) (s1.v) x2] (fun v L' => v = .bool r ∧ L' = []) := by
  refine Ctr.intro (n := 48) (env := [(0, s1.v)]) Try.func13 rfl rfl rfl rfl (fun c => ?_)
  unfold F13.m at hm
  refine JC.seq ?_
  refine JC.region ?_
  refine JL.val (v := .bool false) (QV.assign rfl) rfl rfl rfl ?_
  refine JL.nil ?_
  refine QJ.then_normal ?_
  refine JC.seq ?_
  refine JC.seq ?_
  refine JC.region ?_
  refine JL.val (v := s1.v) (QV.move rfl) rfl rfl rfl ?_
  refine JL.val (v := .int .i64 ((x2).length : Int)) (QV.len (Rdg.vw 0 rfl) Try.underlying26 rfl) rfl rfl rfl ?_
  refine JL.val (v := .bool (decide ((100 : Int) < ((x2).length : Int)))) (QV.gtr rfl rfl) rfl rfl rfl ?_
  refine JL.nil ?_
  refine QJ.then_normal ?_
  rcases ite_inv hm with ⟨h4, hm⟩ | ⟨h4, hm⟩
  ·
    refine JC.condT' rfl (decide_eq_true h4) ?_
    refine JC.seq ?_
    refine JC.region ?_
    obtain ⟨y5, hc6, hm⟩ := bind_inv hm
    refine JL.mv (d := some 13) (MV.call (Lo := []) (Lr := [Asr.vw (Enc.int .u8) (s1.v) x2]) (F47.spec _ hc6) rfl Try.func47 rfl rfl rfl [] [0] rfl rfl rfl trivial) rfl rfl rfl ?_
    rintro _ _ ⟨_, ⟨rfl, rfl⟩, rfl⟩
    refine JL.val (v := .bool y5) (QV.assign rfl) rfl rfl rfl ?_
    refine JL.nil ?_
    refine QJ.then_normal ?_
    refine JC.ret ?_
    refine QJ.then_ret ?_
    obtain rfl := Option.some.inj hm
    exact QJ.body (vs := [.bool y5]) (.inl rfl) rfl (ResVs.cons (ResV.tmp rfl) ResVs.nil) [] rfl rfl (.inr trivial) ⟨rfl, rfl⟩
  ·
    refine JC.condF' rfl (decide_eq_false h4) ?_
    refine JC.skip ?_
    refine QJ.then_normal ?_
    refine JC.seq ?_
    refine JC.region ?_
    refine JL.val (v := .pointer none) (QV.assign rfl) rfl rfl rfl ?_
    refine JL.nil ?_
    refine QJ.then_normal ?_
    refine JC.seq ?_
    refine JC.region ?_
    refine JL.val (v := .pointer none) (QV.move rfl) rfl rfl rfl ?_
    refine JL.val (v := s1.v) (QV.move rfl) rfl rfl rfl ?_
    obtain ⟨y7, hc8, hm⟩ := bind_inv hm
    refine JL.mv (d := some 17) (MV.call (Lo := []) (Lr := [Asr.vw (Enc.int .u8) (s1.v) x2]) (F38.spec (s1) (x2) _ hc8) rfl Try.func38 rfl rfl rfl [] [0] rfl rfl rfl ⟨(Drv.vw 0 rfl), trivial⟩) rfl rfl rfl ?_
    rintro _ _ ⟨_, ⟨b9, z10, rfl, rfl⟩, rfl⟩
    obtain ⟨y11, hc12, hm⟩ := bind_inv hm
    refine JL.mv (d := some 18) (MV.call (Lo := [Asr.blk b9 101 [Seg.c (z10.v), Seg.c (.int .i64 (0 : Int))], Asr.of 5 (Enc.int .u8) (z10.v) y7]) (Lr := [Asr.vw (Enc.int .u8) (s1.v) x2]) (F53_1.spec (b9) (z10) (y7) ((0 : Int)) _ hc12) rfl Try.func53 rfl rfl rfl [1, 0] [2] rfl rfl rfl trivial) rfl rfl rfl ?_
    rintro _ _ ⟨_, ⟨rfl, rfl⟩, rfl⟩
    refine JL.val (v := .tuple #[.int .i64 (0 : Int), .int .i64 (1 : Int)]) (QV.move rfl) rfl rfl rfl ?_
    refine JL.val (v := .int .i64 (0 : Int)) (QV.extract (vs := [.int .i64 (0 : Int), .int .i64 (1 : Int)]) rfl rfl) rfl rfl rfl ?_
    refine JL.val (v := .int .i64 (1 : Int)) (QV.extract (vs := [.int .i64 (0 : Int), .int .i64 (1 : Int)]) rfl rfl) rfl rfl rfl ?_
    refine JL.val (v := .int .i64 (0 : Int)) (QV.assign rfl) rfl rfl rfl ?_
    refine JL.val (v := .int .i64 (1 : Int)) (QV.assign rfl) rfl rfl rfl ?_
    refine JL.nil ?_
    refine QJ.then_normal ?_
    refine JC.seq ?_
    refine JC.region ?_
    refine JL.mv (d := some 22) (MV.lit (E := (Enc.int .u8)) (vals := [(0, .int .u8 (1 : Int)), (1, .int .u8 (1 : Int))]) [(1 : Int), (1 : Int)] Try.underlying26 zi_5 rfl (by decide) rfl (by kernel_rfl)) rfl rfl rfl ?_
    rintro _ _ ⟨z13, rfl, rfl⟩
    obtain ⟨y14, hc15, hm⟩ := bind_inv hm
    rcases y14 with y16 | y17
    ·
      refine JL.mv (d := some 23) (MV.call (Lo := []) (Lr := [Asr.of 5 (Enc.int .u8) (z13.v) [(1 : Int), (1 : Int)], Asr.of 5 (Enc.int .u8) (z10.v) y7, Asr.blk b9 101 [Seg.c (z10.v), Seg.c (.int .i64 (0 : Int))], Asr.vw (Enc.int .u8) (s1.v) x2]) (F49.spec (z13) ([(1 : Int), (1 : Int)]) _ hc15) rfl Try.func49 rfl rfl rfl [] [0, 1, 2, 3] rfl rfl rfl ⟨(Drv.of 0 rfl), trivial⟩) rfl rfl rfl ?_
      rintro _ _ ⟨_, ⟨b18, z19, rfl, rfl⟩, rfl⟩
      refine JL.val (v := .tuple #[.pointer (some ⟨b18, 0, none⟩), .int .i64 (0 : Int)]) (QV.move rfl) rfl rfl rfl ?_
      refine JL.val (v := .pointer (some ⟨b18, 0, none⟩)) (QV.extract (vs := [.pointer (some ⟨b18, 0, none⟩), .int .i64 (0 : Int)]) rfl rfl) rfl rfl rfl ?_
      refine JL.val (v := .int .i64 (0 : Int)) (QV.extract (vs := [.pointer (some ⟨b18, 0, none⟩), .int .i64 (0 : Int)]) rfl rfl) rfl rfl rfl ?_
      refine JL.val (v := .pointer (some ⟨b18, 0, none⟩)) (QV.assign rfl) rfl rfl rfl ?_
      refine JL.val (v := .int .i64 (0 : Int)) (QV.assign rfl) rfl rfl rfl ?_
      refine JL.nil ?_
      refine QJ.then_normal ?_
      refine JC.seq ?_
      refine JC.region ?_
      refine JL.val (v := .pointer (some ⟨b18, 0, none⟩)) (QV.move rfl) rfl rfl rfl ?_
      obtain ⟨y20, hc21, hm⟩ := bind_inv hm
      refine JL.mv (d := some 28) (MV.call (Lo := [Asr.blk b18 107 [Seg.of (Enc.arr 16 (Enc.int .i64)) y16.1, Seg.of (Enc.arr 16 (Enc.int .i64)) y16.2.1, Seg.of (Enc.arr 16 (Enc.int .i64)) y16.2.2.1, Seg.c (z19.v)], Asr.of 3 (Enc.int .i64) (z19.v) y16.2.2.2]) (Lr := [Asr.of 5 (Enc.int .u8) (z13.v) [(1 : Int), (1 : Int)], Asr.of 5 (Enc.int .u8) (z10.v) y7, Asr.blk b9 101 [Seg.c (z10.v), Seg.c (.int .i64 (0 : Int))], Asr.vw (Enc.int .u8) (s1.v) x2]) (F53_2.spec (b18) (z19) (y16.1) (y16.2.1) (y16.2.2.1) (y16.2.2.2) _ hc21) rfl Try.func53 rfl rfl rfl [1, 0] [2, 3, 4, 5] rfl rfl rfl trivial) rfl rfl rfl ?_
      rintro _ _ ⟨_, ⟨rfl, rfl⟩, rfl⟩
      refine JL.val (v := .tuple #[.int .i64 (0 : Int), .int .i64 (1 : Int)]) (QV.move rfl) rfl rfl rfl ?_
      refine JL.val (v := .int .i64 (0 : Int)) (QV.extract (vs := [.int .i64 (0 : Int), .int .i64 (1 : Int)]) rfl rfl) rfl rfl rfl ?_
      refine JL.val (v := .int .i64 (1 : Int)) (QV.extract (vs := [.int .i64 (0 : Int), .int .i64 (1 : Int)]) rfl rfl) rfl rfl rfl ?_
      refine JL.val (v := .int .i64 (0 : Int)) (QV.assign rfl) rfl rfl rfl ?_
      refine JL.val (v := .int .i64 (1 : Int)) (QV.assign rfl) rfl rfl rfl ?_
      refine JL.nil ?_
      refine QJ.then_normal ?_
      refine JC.seq ?_
      refine JC.region ?_
      refine JL.val (v := .int .i64 (1 : Int)) (QV.move rfl) rfl rfl rfl ?_
      refine JL.val (v := .bool (decide ((1 : Int) = (1 : Int)))) (QV.eql rfl rfl) rfl rfl rfl ?_
      rcases ite_inv hm with ⟨h22, hm⟩ | ⟨h22, hm⟩
      ·
        refine JL.val (v := .bool true) (QV.eq (QV.move rfl) (congrArg Value.bool (decide_eq_true h22))) rfl rfl rfl ?_
        refine JL.val (v := .pointer (some ⟨b18, 0, none⟩)) (QV.move rfl) rfl rfl rfl ?_
        refine JL.val (v := .bool true) ((QV.eq (QV.neqP Try.underlying66 rfl rfl (.inr rfl)) (by simp))) rfl rfl rfl ?_
        refine JL.val (v := .bool true) (QV.pickT rfl rfl) rfl rfl rfl ?_
        refine JL.val (v := .bool true) (QV.move rfl) rfl rfl rfl ?_
        refine JL.val (v := .int .i64 (0 : Int)) (QV.move rfl) rfl rfl rfl ?_
        refine JL.val (v := .bool (decide ((0 : Int) = (0 : Int)))) (QV.eql rfl rfl) rfl rfl rfl ?_
        refine JL.val (v := .bool (decide ((0 : Int) = (0 : Int)))) (QV.pickT rfl rfl) rfl rfl rfl ?_
        rcases ite_inv hm with ⟨h23, hm⟩ | ⟨h23, hm⟩
        ·
          refine JL.val (v := .bool true) (QV.eq (QV.move rfl) (congrArg Value.bool (decide_eq_true h23))) rfl rfl rfl ?_
          refine JL.val (v := .int .i64 (1 : Int)) (QV.move rfl) rfl rfl rfl ?_
          refine JL.val (v := .bool (decide ((1 : Int) = (1 : Int)))) (QV.eql rfl rfl) rfl rfl rfl ?_
          refine JL.val (v := .bool (decide ((1 : Int) = (1 : Int)))) (QV.pickT rfl rfl) rfl rfl rfl ?_
          rcases ite_inv hm with ⟨h24, hm⟩ | ⟨h24, hm⟩
          ·
            refine JL.val (v := .bool true) (QV.eq (QV.move rfl) (congrArg Value.bool (decide_eq_true h24))) rfl rfl rfl ?_
            obtain ⟨y25, hc26, hm⟩ := bind_inv hm
            refine JL.mv (d := some 46) (MV.call (Lo := []) (Lr := [Asr.of 3 (Enc.int .i64) (z19.v) y16.2.2.2, Asr.blk b18 107 [Seg.of (Enc.arr 16 (Enc.int .i64)) y16.1, Seg.of (Enc.arr 16 (Enc.int .i64)) y16.2.1, Seg.of (Enc.arr 16 (Enc.int .i64)) y16.2.2.1, Seg.c (z19.v)], Asr.of 5 (Enc.int .u8) (z13.v) [(1 : Int), (1 : Int)], Asr.of 5 (Enc.int .u8) (z10.v) y7, Asr.blk b9 101 [Seg.c (z10.v), Seg.c (.int .i64 (0 : Int))], Asr.vw (Enc.int .u8) (s1.v) x2]) (F47.spec _ hc26) rfl Try.func47 rfl rfl rfl [] [0, 1, 2, 3, 4, 5] rfl rfl rfl trivial) rfl rfl rfl ?_
            rintro _ _ ⟨_, ⟨rfl, rfl⟩, rfl⟩
            refine JL.val (v := .bool y25) (QV.pickT rfl rfl) rfl rfl rfl ?_
            refine JL.val (v := .bool y25) (QV.assign rfl) rfl rfl rfl ?_
            refine JL.nil ?_
            refine QJ.then_normal ?_
            refine JC.ret ?_
            obtain rfl := Option.some.inj hm
            exact QJ.body (vs := [.bool y25]) (.inl rfl) rfl (ResVs.cons (ResV.tmp rfl) ResVs.nil) [] rfl rfl (.inr trivial) ⟨rfl, rfl⟩
          ·
            refine JL.val (v := .bool false) (QV.eq (QV.move rfl) (congrArg Value.bool (decide_eq_false h24))) rfl rfl rfl ?_
            refine JL.skip (d := some 46) rfl rfl rfl ?_
            refine JL.val (v := .bool false) (QV.pickF rfl rfl) rfl rfl rfl ?_
            refine JL.val (v := .bool false) (QV.assign rfl) rfl rfl rfl ?_
            refine JL.nil ?_
            refine QJ.then_normal ?_
            refine JC.ret ?_
            obtain rfl := Option.some.inj hm
            exact QJ.body (vs := [.bool false]) (.inl rfl) rfl (ResVs.cons (ResV.tmp rfl) ResVs.nil) [] rfl rfl (.inr trivial) ⟨rfl, rfl⟩
        ·
          refine JL.val (v := .bool false) (QV.eq (QV.move rfl) (congrArg Value.bool (decide_eq_false h23))) rfl rfl rfl ?_
          refine JL.skip (d := some 42) rfl rfl rfl ?_
          refine JL.skip (d := some 43) rfl rfl rfl ?_
          refine JL.val (v := .bool false) (QV.pickF rfl rfl) rfl rfl rfl ?_
          refine JL.val (v := .bool false) (QV.move rfl) rfl rfl rfl ?_
          refine JL.skip (d := some 46) rfl rfl rfl ?_
          refine JL.val (v := .bool false) (QV.pickF rfl rfl) rfl rfl rfl ?_
          refine JL.val (v := .bool false) (QV.assign rfl) rfl rfl rfl ?_
          refine JL.nil ?_
          refine QJ.then_normal ?_
          refine JC.ret ?_
          obtain rfl := Option.some.inj hm
          exact QJ.body (vs := [.bool false]) (.inl rfl) rfl (ResVs.cons (ResV.tmp rfl) ResVs.nil) [] rfl rfl (.inr trivial) ⟨rfl, rfl⟩
      ·
        refine JL.val (v := .bool false) (QV.eq (QV.move rfl) (congrArg Value.bool (decide_eq_false h22))) rfl rfl rfl ?_
        refine JL.skip (d := some 34) rfl rfl rfl ?_
        refine JL.skip (d := some 35) rfl rfl rfl ?_
        refine JL.val (v := .bool false) (QV.pickF rfl rfl) rfl rfl rfl ?_
        refine JL.val (v := .bool false) (QV.move rfl) rfl rfl rfl ?_
        refine JL.skip (d := some 38) rfl rfl rfl ?_
        refine JL.skip (d := some 39) rfl rfl rfl ?_
        refine JL.val (v := .bool false) (QV.pickF rfl rfl) rfl rfl rfl ?_
        refine JL.val (v := .bool false) (QV.move rfl) rfl rfl rfl ?_
        refine JL.skip (d := some 42) rfl rfl rfl ?_
        refine JL.skip (d := some 43) rfl rfl rfl ?_
        refine JL.val (v := .bool false) (QV.pickF rfl rfl) rfl rfl rfl ?_
        refine JL.val (v := .bool false) (QV.move rfl) rfl rfl rfl ?_
        refine JL.skip (d := some 46) rfl rfl rfl ?_
        refine JL.val (v := .bool false) (QV.pickF rfl rfl) rfl rfl rfl ?_
        refine JL.val (v := .bool false) (QV.assign rfl) rfl rfl rfl ?_
        refine JL.nil ?_
        refine QJ.then_normal ?_
        refine JC.ret ?_
        obtain rfl := Option.some.inj hm
        exact QJ.body (vs := [.bool false]) (.inl rfl) rfl (ResVs.cons (ResV.tmp rfl) ResVs.nil) [] rfl rfl (.inr trivial) ⟨rfl, rfl⟩
    ·
      refine JL.mv (d := some 23) (MV.call (Lo := []) (Lr := [Asr.of 5 (Enc.int .u8) (z13.v) [(1 : Int), (1 : Int)], Asr.of 5 (Enc.int .u8) (z10.v) y7, Asr.blk b9 101 [Seg.c (z10.v), Seg.c (.int .i64 (0 : Int))], Asr.vw (Enc.int .u8) (s1.v) x2]) (F49.spec (z13) ([(1 : Int), (1 : Int)]) _ hc15) rfl Try.func49 rfl rfl rfl [] [0, 1, 2, 3] rfl rfl rfl ⟨(Drv.of 0 rfl), trivial⟩) rfl rfl rfl ?_
      rintro _ _ ⟨_, ⟨rfl, rfl⟩, rfl⟩
      refine JL.val (v := .tuple #[.pointer none, .int .i64 (3 : Int)]) (QV.move rfl) rfl rfl rfl ?_
      refine JL.val (v := .pointer none) (QV.extract (vs := [.pointer none, .int .i64 (3 : Int)]) rfl rfl) rfl rfl rfl ?_
      refine JL.val (v := .int .i64 (3 : Int)) (QV.extract (vs := [.pointer none, .int .i64 (3 : Int)]) rfl rfl) rfl rfl rfl ?_
      refine JL.val (v := .pointer none) (QV.assign rfl) rfl rfl rfl ?_
      refine JL.val (v := .int .i64 (3 : Int)) (QV.assign rfl) rfl rfl rfl ?_
      refine JL.nil ?_
      refine QJ.then_normal ?_
      refine JC.seq ?_
      refine JC.region ?_
      refine JL.val (v := .pointer none) (QV.move rfl) rfl rfl rfl ?_
      obtain ⟨y27, hc28, hm⟩ := bind_inv hm
      refine JL.mv (d := some 28) (MV.call (Lo := []) (Lr := [Asr.of 5 (Enc.int .u8) (z13.v) [(1 : Int), (1 : Int)], Asr.of 5 (Enc.int .u8) (z10.v) y7, Asr.blk b9 101 [Seg.c (z10.v), Seg.c (.int .i64 (0 : Int))], Asr.vw (Enc.int .u8) (s1.v) x2]) (F53_3.spec _ hc28) rfl Try.func53 rfl rfl rfl [] [0, 1, 2, 3] rfl rfl rfl trivial) rfl rfl rfl ?_
      rintro _ _ ⟨_, ⟨rfl, rfl⟩, rfl⟩
      refine JL.val (v := .tuple #[.int .i64 (0 : Int), .int .i64 (1 : Int)]) (QV.move rfl) rfl rfl rfl ?_
      refine JL.val (v := .int .i64 (0 : Int)) (QV.extract (vs := [.int .i64 (0 : Int), .int .i64 (1 : Int)]) rfl rfl) rfl rfl rfl ?_
      refine JL.val (v := .int .i64 (1 : Int)) (QV.extract (vs := [.int .i64 (0 : Int), .int .i64 (1 : Int)]) rfl rfl) rfl rfl rfl ?_
      refine JL.val (v := .int .i64 (0 : Int)) (QV.assign rfl) rfl rfl rfl ?_
      refine JL.val (v := .int .i64 (1 : Int)) (QV.assign rfl) rfl rfl rfl ?_
      refine JL.nil ?_
      refine QJ.then_normal ?_
      refine JC.seq ?_
      refine JC.region ?_
      refine JL.val (v := .int .i64 (1 : Int)) (QV.move rfl) rfl rfl rfl ?_
      refine JL.val (v := .bool (decide ((1 : Int) = (1 : Int)))) (QV.eql rfl rfl) rfl rfl rfl ?_
      rcases ite_inv hm with ⟨h29, hm⟩ | ⟨h29, hm⟩
      ·
        refine JL.val (v := .bool true) (QV.eq (QV.move rfl) (congrArg Value.bool (decide_eq_true h29))) rfl rfl rfl ?_
        refine JL.val (v := .pointer none) (QV.move rfl) rfl rfl rfl ?_
        refine JL.val (v := .bool false) ((QV.eq (QV.neqP Try.underlying66 rfl rfl (.inl rfl)) (by simp))) rfl rfl rfl ?_
        refine JL.val (v := .bool false) (QV.pickT rfl rfl) rfl rfl rfl ?_
        refine JL.val (v := .bool false) (QV.move rfl) rfl rfl rfl ?_
        refine JL.skip (d := some 38) rfl rfl rfl ?_
        refine JL.skip (d := some 39) rfl rfl rfl ?_
        refine JL.val (v := .bool false) (QV.pickF rfl rfl) rfl rfl rfl ?_
        refine JL.val (v := .bool false) (QV.move rfl) rfl rfl rfl ?_
        refine JL.skip (d := some 42) rfl rfl rfl ?_
        refine JL.skip (d := some 43) rfl rfl rfl ?_
        refine JL.val (v := .bool false) (QV.pickF rfl rfl) rfl rfl rfl ?_
        refine JL.val (v := .bool false) (QV.move rfl) rfl rfl rfl ?_
        refine JL.skip (d := some 46) rfl rfl rfl ?_
        refine JL.val (v := .bool false) (QV.pickF rfl rfl) rfl rfl rfl ?_
        refine JL.val (v := .bool false) (QV.assign rfl) rfl rfl rfl ?_
        refine JL.nil ?_
        refine QJ.then_normal ?_
        refine JC.ret ?_
        obtain rfl := Option.some.inj hm
        exact QJ.body (vs := [.bool false]) (.inl rfl) rfl (ResVs.cons (ResV.tmp rfl) ResVs.nil) [] rfl rfl (.inr trivial) ⟨rfl, rfl⟩
      ·
        refine JL.val (v := .bool false) (QV.eq (QV.move rfl) (congrArg Value.bool (decide_eq_false h29))) rfl rfl rfl ?_
        refine JL.skip (d := some 34) rfl rfl rfl ?_
        refine JL.skip (d := some 35) rfl rfl rfl ?_
        refine JL.val (v := .bool false) (QV.pickF rfl rfl) rfl rfl rfl ?_
        refine JL.val (v := .bool false) (QV.move rfl) rfl rfl rfl ?_
        refine JL.skip (d := some 38) rfl rfl rfl ?_
        refine JL.skip (d := some 39) rfl rfl rfl ?_
        refine JL.val (v := .bool false) (QV.pickF rfl rfl) rfl rfl rfl ?_
        refine JL.val (v := .bool false) (QV.move rfl) rfl rfl rfl ?_
        refine JL.skip (d := some 42) rfl rfl rfl ?_
        refine JL.skip (d := some 43) rfl rfl rfl ?_
        refine JL.val (v := .bool false) (QV.pickF rfl rfl) rfl rfl rfl ?_
        refine JL.val (v := .bool false) (QV.move rfl) rfl rfl rfl ?_
        refine JL.skip (d := some 46) rfl rfl rfl ?_
        refine JL.val (v := .bool false) (QV.pickF rfl rfl) rfl rfl rfl ?_
        refine JL.val (v := .bool false) (QV.assign rfl) rfl rfl rfl ?_
        refine JL.nil ?_
        refine QJ.then_normal ?_
        refine JC.ret ?_
        obtain rfl := Option.some.inj hm
        exact QJ.body (vs := [.bool false]) (.inl rfl) rfl (ResVs.cons (ResV.tmp rfl) ResVs.nil) [] rfl rfl (.inr trivial) ⟨rfl, rfl⟩

end Go.Proofs.Ytpophpendlnehaa
