/- Written by gen.py: functions and their contracts. -/
import Derived.Test.YtmedbpiapeiobaaSha
namespace Go.Proofs.Ytmedbpiapeiobaa
open Go Go.Eng Go.Proofs
set_option linter.unusedVariables false
set_option linter.unusedSimpArgs false
/-! ### 42: drogher/merkle.Leaf -/
noncomputable def F42.m (x2 : List Int) : Option (Arr Int 32) :=
  ((F34.m).bind fun y5 => ((F35.m (y5.1) (y5.2) ((0 : Int)) ((0 : Int)) ([(0 : Int)])).bind fun y9 => ((F35.m (y9.1) (y9.2.1) (y9.2.2.1) (y9.2.2.2) (x2)).bind fun y11 => ((F36.m (y11.1) (y11.2.1) (y11.2.2.1) (y11.2.2.2)).bind fun y13 => some y13))))
set_option maxRecDepth 100000 in
set_option maxHeartbeats 4000000 in
theorem F42.spec (s1 : SlV) (x2 : List Int) (r : (Arr Int 32)) (hm : F42.m x2 = some r) :
    Ctr Try.prog false 42 [s1.v] [Asr.vw (Enc.int .u8) (s1.v) x2] (fun v L' => v = .agg (((Enc.arr 32 (Enc.int .u8))).enc r).toArray ∧ L' = []) := by
  refine Ctr.intro (n := 13) (env := [(0, s1.v)]) Try.func42 rfl rfl rfl rfl (fun c => ?_)
  unfold F42.m at hm
  refine JC.seq ?_
  refine JC.region ?_
  refine JL.mv (d := some 2) (MV.alloc [Seg.of (Enc.arr 32 (Enc.int .u8)) (Arr.rep 32 (0 : Int))] z_41 rfl) rfl rfl rfl ?_
  rintro _ _ ⟨b4, rfl, rfl⟩
  refine JL.nil ?_
  refine QJ.then_normal ?_
  refine JC.seq ?_
  refine JC.region ?_
  obtain ⟨y5, hc6, hm⟩ := bind_inv hm
  refine JL.mv (d := some 4) (MV.call (Lo := []) (Lr := [Asr.blk b4 41 [Seg.of (Enc.arr 32 (Enc.int .u8)) (Arr.rep 32 (0 : Int))], Asr.vw (Enc.int .u8) (s1.v) x2]) (F34.spec _ hc6) rfl Try.func34 rfl rfl rfl [] [0, 1] rfl rfl rfl trivial) rfl rfl rfl ?_
  rintro _ _ ⟨_, ⟨b7, rfl, rfl⟩, rfl⟩
  refine JL.val (v := .pointer (some ⟨b7, 0, none⟩)) (QV.assign rfl) rfl rfl rfl ?_
  refine JL.nil ?_
  refine QJ.then_normal ?_
  refine JC.seq ?_
  refine JC.region ?_
  refine JL.val (v := .pointer (some ⟨b7, 0, none⟩)) (QV.move rfl) rfl rfl rfl ?_
  refine JL.mv (d := some 6) (MV.lit (E := (Enc.int .u8)) (vals := [(0, .int .u8 (0 : Int))]) [(0 : Int)] Try.underlying22 zi_5 rfl (by decide) rfl (by kernel_rfl)) rfl rfl rfl ?_
  rintro _ _ ⟨z8, rfl, rfl⟩
  obtain ⟨y9, hc10, hm⟩ := bind_inv hm
  refine JL.mv (d := some 7) (MV.call (Lo := [Asr.blk b7 105 [Seg.of (Enc.arr 8 (Enc.int .u32)) y5.1, Seg.of (Enc.arr 64 (Enc.int .u8)) y5.2, Seg.c (.int .i64 (0 : Int)), Seg.c (.int .u64 (0 : Int))]]) (Lr := [Asr.of 5 (Enc.int .u8) (z8.v) [(0 : Int)], Asr.blk b4 41 [Seg.of (Enc.arr 32 (Enc.int .u8)) (Arr.rep 32 (0 : Int))], Asr.vw (Enc.int .u8) (s1.v) x2]) (F35.spec (b7) (z8) (y5.1) (y5.2) ((0 : Int)) ((0 : Int)) ([(0 : Int)]) _ hc10) rfl Try.func35 rfl rfl rfl [1] [0, 2, 3] rfl rfl rfl ⟨(Drv.of 0 rfl), trivial⟩) rfl rfl rfl ?_
  rintro _ _ ⟨_, ⟨rfl, rfl⟩, rfl⟩
  refine JL.nil ?_
  refine QJ.then_normal ?_
  refine JC.seq ?_
  refine JC.region ?_
  refine JL.val (v := .pointer (some ⟨b7, 0, none⟩)) (QV.move rfl) rfl rfl rfl ?_
  refine JL.val (v := s1.v) (QV.move rfl) rfl rfl rfl ?_
  obtain ⟨y11, hc12, hm⟩ := bind_inv hm
  refine JL.mv (d := some 10) (MV.call (Lo := [Asr.blk b7 105 [Seg.of (Enc.arr 8 (Enc.int .u32)) y9.1, Seg.of (Enc.arr 64 (Enc.int .u8)) y9.2.1, Seg.c (.int .i64 y9.2.2.1), Seg.c (.int .u64 y9.2.2.2)]]) (Lr := [Asr.of 5 (Enc.int .u8) (z8.v) [(0 : Int)], Asr.blk b4 41 [Seg.of (Enc.arr 32 (Enc.int .u8)) (Arr.rep 32 (0 : Int))], Asr.vw (Enc.int .u8) (s1.v) x2]) (F35.spec (b7) (s1) (y9.1) (y9.2.1) (y9.2.2.1) (y9.2.2.2) (x2) _ hc12) rfl Try.func35 rfl rfl rfl [0] [1, 2, 3] rfl rfl rfl ⟨(Drv.vw 2 rfl), trivial⟩) rfl rfl rfl ?_
  rintro _ _ ⟨_, ⟨rfl, rfl⟩, rfl⟩
  refine JL.nil ?_
  refine QJ.then_normal ?_
  refine JC.seq ?_
  refine JC.region ?_
  refine JL.val (v := .pointer (some ⟨b7, 0, none⟩)) (QV.move rfl) rfl rfl rfl ?_
  obtain ⟨y13, hc14, hm⟩ := bind_inv hm
  refine JL.mv (d := some 12) (MV.call (Lo := [Asr.blk b7 105 [Seg.of (Enc.arr 8 (Enc.int .u32)) y11.1, Seg.of (Enc.arr 64 (Enc.int .u8)) y11.2.1, Seg.c (.int .i64 y11.2.2.1), Seg.c (.int .u64 y11.2.2.2)]]) (Lr := [Asr.of 5 (Enc.int .u8) (z8.v) [(0 : Int)], Asr.blk b4 41 [Seg.of (Enc.arr 32 (Enc.int .u8)) (Arr.rep 32 (0 : Int))], Asr.vw (Enc.int .u8) (s1.v) x2]) (F36.spec (b7) (y11.1) (y11.2.1) (y11.2.2.1) (y11.2.2.2) _ hc14) rfl Try.func36 rfl rfl rfl [0] [1, 2, 3] rfl rfl rfl trivial) rfl rfl rfl ?_
  rintro _ _ ⟨_, ⟨rfl, rfl⟩, rfl⟩
  refine JL.mv (d := none) (MV.store (ss := [Seg.of (Enc.arr 32 (Enc.int .u8)) (Arr.rep 32 (0 : Int))]) 2 0 1 [Seg.of (Enc.arr 32 (Enc.int .u8)) y13] rfl tk_41 rfl rfl rfl rfl (fun w hs => ⟨rfl, one_of _ _, trivial⟩)) rfl rfl rfl ?_
  rintro _ _ ⟨rfl, rfl⟩
  refine JL.nil ?_
  refine QJ.then_normal ?_
  refine JC.ret ?_
  obtain rfl := Option.some.inj hm
  exact QJ.body (vs := [.agg (((Enc.arr 32 (Enc.int .u8))).enc y13).toArray]) (.inl rfl) rfl (ResVs.cons (ResV.cell (d := none) (ty := 0) (ps := "") (af := #[]) (g := none) rfl (QV.eq (QV.loadN (ss := [Seg.of (Enc.arr 32 (Enc.int .u8)) y13]) 2 0 1 rfl tk_41 rfl rfl rfl rfl) rfl)) ResVs.nil) [] rfl rfl (.inr trivial) ⟨rfl, rfl⟩

/-! ### 98: math/bits.Len64 -/
noncomputable def F98.j3  (d7 : Int) (d8 : Int) : Option Int :=
  (if 0 ≤ (IntKind.wrap .u8 d7) then (if (IntKind.wrap .u8 d7) < (K4).size then some (IntKind.wrap .i64 (d8 + (IntKind.wrap .i64 (bt K4 (IntKind.wrap .u8 d7))))) else none) else none)
noncomputable def F98.j2  (d5 : Int) (d6 : Int) : Option Int :=
  (if (256 : Int) ≤ d5 then F98.j3 ((shrI .u64 d5 (8 : Int))) ((IntKind.wrap .i64 (d6 + (8 : Int)))) else F98.j3 (d5) (d6))
noncomputable def F98.j1  (d3 : Int) (d4 : Int) : Option Int :=
  (if (65536 : Int) ≤ d3 then F98.j2 ((shrI .u64 d3 (16 : Int))) ((IntKind.wrap .i64 (d4 + (16 : Int)))) else F98.j2 (d3) (d4))
noncomputable def F98.m (x1 : Int) : Option Int :=
  (if (4294967296 : Int) ≤ x1 then F98.j1 ((shrI .u64 x1 (32 : Int))) ((32 : Int)) else F98.j1 (x1) ((0 : Int)))
set_option maxRecDepth 100000 in
set_option maxHeartbeats 4000000 in
theorem F98.spec (x1 : Int) (r : Int) (hm : F98.m x1 = some r) :
    Ctr Try.prog false 98 [.int .u64 x1] [] (fun v L' => v = .int .i64 r ∧ L' = []) := by
  refine Ctr.intro (n := 25) (env := [(0, .int .u64 x1)]) Try.func98 rfl rfl rfl rfl (fun c => ?_)
  unfold F98.m at hm
  refine JC.seq ?_
  refine JC.region ?_
  refine JL.val (v := .int .i64 (0 : Int)) (QV.assign rfl) rfl rfl rfl ?_
  refine JL.nil ?_
  refine QJ.then_normal ?_
  refine JC.seq ?_
  refine JC.seq ?_
  refine JC.region ?_
  refine JL.val (v := .int .u64 x1) (QV.move rfl) rfl rfl rfl ?_
  refine JL.val (v := .bool (decide ((4294967296 : Int) ≤ x1))) (QV.geq rfl rfl) rfl rfl rfl ?_
  refine JL.nil ?_
  refine QJ.then_normal ?_
  refine JC.cutK (Y := (Int × Int) × Unit) (fun y => match y with | ((d3, d4), _) => F98.j1 (d3) (d4) = some r) (fun y => match y with | ((d3, d4), _) => [(0, .int .u64 d3), (2, .int .i64 d4)]) (fun y => match y with | ((d3, d4), _) => []) ?_ ?_
  ·
    rintro ⟨⟨d3, d4⟩, ⟨⟩⟩ hm
    unfold F98.j1 at hm
    show QJ _ _ [(0, .int .u64 d3), (2, .int .i64 d4)] [] _ _
    refine QJ.then_normal ?_
    refine JC.seq ?_
    refine JC.seq ?_
    refine JC.region ?_
    refine JL.val (v := .int .u64 d3) (QV.move rfl) rfl rfl rfl ?_
    refine JL.val (v := .bool (decide ((65536 : Int) ≤ d3))) (QV.geq rfl rfl) rfl rfl rfl ?_
    refine JL.nil ?_
    refine QJ.then_normal ?_
    refine JC.cutK (Y := (Int × Int) × Unit) (fun y => match y with | ((d5, d6), _) => F98.j2 (d5) (d6) = some r) (fun y => match y with | ((d5, d6), _) => [(0, .int .u64 d5), (2, .int .i64 d6)]) (fun y => match y with | ((d5, d6), _) => []) ?_ ?_
    ·
      rintro ⟨⟨d5, d6⟩, ⟨⟩⟩ hm
      unfold F98.j2 at hm
      show QJ _ _ [(0, .int .u64 d5), (2, .int .i64 d6)] [] _ _
      refine QJ.then_normal ?_
      refine JC.seq ?_
      refine JC.seq ?_
      refine JC.region ?_
      refine JL.val (v := .int .u64 d5) (QV.move rfl) rfl rfl rfl ?_
      refine JL.val (v := .bool (decide ((256 : Int) ≤ d5))) (QV.geq rfl rfl) rfl rfl rfl ?_
      refine JL.nil ?_
      refine QJ.then_normal ?_
      refine JC.cutK (Y := (Int × Int) × Unit) (fun y => match y with | ((d7, d8), _) => F98.j3 (d7) (d8) = some r) (fun y => match y with | ((d7, d8), _) => [(0, .int .u64 d7), (2, .int .i64 d8)]) (fun y => match y with | ((d7, d8), _) => []) ?_ ?_
      ·
        rintro ⟨⟨d7, d8⟩, ⟨⟩⟩ hm
        unfold F98.j3 at hm
        show QJ _ _ [(0, .int .u64 d7), (2, .int .i64 d8)] [] _ _
        refine QJ.then_normal ?_
        refine JC.seq ?_
        refine JC.region ?_
        refine JL.val (v := .int .i64 d8) (QV.move rfl) rfl rfl rfl ?_
        refine JL.val (v := .int .u64 d7) (QV.move rfl) rfl rfl rfl ?_
        refine JL.val (v := .int .u8 (IntKind.wrap .u8 d7)) (QV.conv rfl (by rw [Try.underlying28]; rfl) Try.underlying5) rfl rfl rfl ?_
        obtain ⟨h9, hm⟩ := guard_inv hm
        obtain ⟨h10, hm⟩ := guard_inv hm
        refine JL.val (v := .int .u8 (bt K4 (IntKind.wrap .u8 d7))) (QV.indexS Try.underlying9 rfl rfl h9 h10) rfl rfl rfl ?_
        refine JL.val (v := .int .i64 (IntKind.wrap .i64 (bt K4 (IntKind.wrap .u8 d7)))) (QV.conv rfl (by rw [Try.underlying5]; rfl) Try.underlying3) rfl rfl rfl ?_
        refine JL.val (v := .int .i64 (IntKind.wrap .i64 (d8 + (IntKind.wrap .i64 (bt K4 (IntKind.wrap .u8 d7)))))) (QV.add rfl rfl) rfl rfl rfl ?_
        refine JL.val (v := .int .i64 (IntKind.wrap .i64 (d8 + (IntKind.wrap .i64 (bt K4 (IntKind.wrap .u8 d7)))))) (QV.assign rfl) rfl rfl rfl ?_
        refine JL.nil ?_
        refine QJ.then_normal ?_
        refine JC.ret ?_
        obtain rfl := Option.some.inj hm
        exact QJ.body (vs := [.int .i64 (IntKind.wrap .i64 (d8 + (IntKind.wrap .i64 (bt K4 (IntKind.wrap .u8 d7)))))]) (.inl rfl) rfl (ResVs.cons (ResV.tmp rfl) ResVs.nil) [] rfl rfl (.inr trivial) ⟨rfl, rfl⟩
      ·
        rcases ite_inv hm with ⟨h11, hm⟩ | ⟨h11, hm⟩
        ·
          refine JC.condT' rfl (decide_eq_true h11) ?_
          refine JC.seq ?_
          refine JC.region ?_
          refine JL.val (v := .int .u64 d5) (QV.move rfl) rfl rfl rfl ?_
          refine JL.val (v := .int .u64 (shrI .u64 d5 (8 : Int))) (QV.shr rfl rfl (by decide)) rfl rfl rfl ?_
          refine JL.val (v := .int .u64 (shrI .u64 d5 (8 : Int))) (QV.assign rfl) rfl rfl rfl ?_
          refine JL.nil ?_
          refine QJ.then_normal ?_
          refine JC.region ?_
          refine JL.val (v := .int .i64 d6) (QV.move rfl) rfl rfl rfl ?_
          refine JL.val (v := .int .i64 (IntKind.wrap .i64 (d6 + (8 : Int)))) (QV.add rfl rfl) rfl rfl rfl ?_
          refine JL.val (v := .int .i64 (IntKind.wrap .i64 (d6 + (8 : Int)))) (QV.assign rfl) rfl rfl rfl ?_
          refine JL.nil ?_
          exact QJ.cut_normal (((shrI .u64 d5 (8 : Int)), (IntKind.wrap .i64 (d6 + (8 : Int)))), ()) hm [] (by exact ⟨rfl, rfl, trivial⟩) rfl rfl
        ·
          refine JC.condF' rfl (decide_eq_false h11) ?_
          refine JC.skip ?_
          exact QJ.cut_normal ((d5, d6), ()) hm [] (by exact ⟨rfl, rfl, trivial⟩) rfl rfl
    ·
      rcases ite_inv hm with ⟨h12, hm⟩ | ⟨h12, hm⟩
      ·
        refine JC.condT' rfl (decide_eq_true h12) ?_
        refine JC.seq ?_
        refine JC.region ?_
        refine JL.val (v := .int .u64 d3) (QV.move rfl) rfl rfl rfl ?_
        refine JL.val (v := .int .u64 (shrI .u64 d3 (16 : Int))) (QV.shr rfl rfl (by decide)) rfl rfl rfl ?_
        refine JL.val (v := .int .u64 (shrI .u64 d3 (16 : Int))) (QV.assign rfl) rfl rfl rfl ?_
        refine JL.nil ?_
        refine QJ.then_normal ?_
        refine JC.region ?_
        refine JL.val (v := .int .i64 d4) (QV.move rfl) rfl rfl rfl ?_
        refine JL.val (v := .int .i64 (IntKind.wrap .i64 (d4 + (16 : Int)))) (QV.add rfl rfl) rfl rfl rfl ?_
        refine JL.val (v := .int .i64 (IntKind.wrap .i64 (d4 + (16 : Int)))) (QV.assign rfl) rfl rfl rfl ?_
        refine JL.nil ?_
        exact QJ.cut_normal (((shrI .u64 d3 (16 : Int)), (IntKind.wrap .i64 (d4 + (16 : Int)))), ()) hm [] (by exact ⟨rfl, rfl, trivial⟩) rfl rfl
      ·
        refine JC.condF' rfl (decide_eq_false h12) ?_
        refine JC.skip ?_
        exact QJ.cut_normal ((d3, d4), ()) hm [] (by exact ⟨rfl, rfl, trivial⟩) rfl rfl
  ·
    rcases ite_inv hm with ⟨h13, hm⟩ | ⟨h13, hm⟩
    ·
      refine JC.condT' rfl (decide_eq_true h13) ?_
      refine JC.seq ?_
      refine JC.region ?_
      refine JL.val (v := .int .u64 x1) (QV.move rfl) rfl rfl rfl ?_
      refine JL.val (v := .int .u64 (shrI .u64 x1 (32 : Int))) (QV.shr rfl rfl (by decide)) rfl rfl rfl ?_
      refine JL.val (v := .int .u64 (shrI .u64 x1 (32 : Int))) (QV.assign rfl) rfl rfl rfl ?_
      refine JL.nil ?_
      refine QJ.then_normal ?_
      refine JC.region ?_
      refine JL.val (v := .int .i64 (32 : Int)) (QV.assign rfl) rfl rfl rfl ?_
      refine JL.nil ?_
      exact QJ.cut_normal (((shrI .u64 x1 (32 : Int)), (32 : Int)), ()) hm [] (by exact ⟨rfl, rfl, trivial⟩) rfl rfl
    ·
      refine JC.condF' rfl (decide_eq_false h13) ?_
      refine JC.skip ?_
      exact QJ.cut_normal ((x1, (0 : Int)), ()) hm [] (by exact ⟨rfl, rfl, trivial⟩) rfl rfl

/-! ### 95: math/bits.Len -/
noncomputable def F95.m (x1 : Int) : Option Int :=
  ((F98.m (x1)).bind fun y3 => some y3)
set_option maxRecDepth 100000 in
set_option maxHeartbeats 4000000 in
theorem F95.spec (x1 : Int) (r : Int) (hm : F95.m x1 = some r) :
    Ctr Try.prog false 95 [.int .u64 x1] [] (fun v L' => v = .int .i64 r ∧ L' = []) := by
  refine Ctr.intro (n := 8) (env := [(0, .int .u64 x1)]) Try.func95 rfl rfl rfl rfl (fun c => ?_)
  unfold F95.m at hm
  refine JC.seq ?_
  refine JC.region ?_
  refine JL.val (v := .int .i64 (0 : Int)) (QV.assign rfl) rfl rfl rfl ?_
  refine JL.nil ?_
  refine QJ.then_normal ?_
  refine JC.seq ?_
  refine JC.condF rfl ?_
  refine JC.skip ?_
  refine QJ.then_normal ?_
  refine JC.seq ?_
  refine JC.region ?_
  refine JL.val (v := .int .u64 x1) (QV.move rfl) rfl rfl rfl ?_
  obtain ⟨y3, hc4, hm⟩ := bind_inv hm
  refine JL.mv (d := some 7) (MV.call (Lo := []) (Lr := []) (F98.spec (x1) _ hc4) rfl Try.func98 rfl rfl rfl [] [] rfl rfl rfl trivial) rfl rfl rfl ?_
  rintro _ _ ⟨_, ⟨rfl, rfl⟩, rfl⟩
  refine JL.val (v := .int .i64 y3) (QV.assign rfl) rfl rfl rfl ?_
  refine JL.nil ?_
  refine QJ.then_normal ?_
  refine JC.ret ?_
  obtain rfl := Option.some.inj hm
  exact QJ.body (vs := [.int .i64 y3]) (.inl rfl) rfl (ResVs.cons (ResV.tmp rfl) ResVs.nil) [] rfl rfl (.inr trivial) ⟨rfl, rfl⟩

/-! ### 76: drogher/merkle.half -/
noncomputable def F76.m (x1 : Int) : Option Int :=
  ((F95.m ((IntKind.wrap .u64 (IntKind.wrap .i64 (x1 - (1 : Int)))))).bind fun y3 => (if 0 ≤ (IntKind.wrap .i64 (y3 - (1 : Int))) then some (shlI .i64 (1 : Int) (IntKind.wrap .i64 (y3 - (1 : Int)))) else none))
set_option maxRecDepth 100000 in
set_option maxHeartbeats 4000000 in
theorem F76.spec (x1 : Int) (r : Int) (hm : F76.m x1 = some r) :
    Ctr Try.prog false 76 [.int .i64 x1] [] (fun v L' => v = .int .i64 r ∧ L' = []) := by
  refine Ctr.intro (n := 9) (env := [(0, .int .i64 x1)]) Try.func76 rfl rfl rfl rfl (fun c => ?_)
  unfold F76.m at hm
  refine JC.seq ?_
  refine JC.region ?_
  refine JL.val (v := .int .i64 (0 : Int)) (QV.assign rfl) rfl rfl rfl ?_
  refine JL.nil ?_
  refine QJ.then_normal ?_
  refine JC.seq ?_
  refine JC.region ?_
  refine JL.val (v := .int .i64 x1) (QV.move rfl) rfl rfl rfl ?_
  refine JL.val (v := .int .i64 (IntKind.wrap .i64 (x1 - (1 : Int)))) (QV.sub rfl rfl) rfl rfl rfl ?_
  refine JL.val (v := .int .u64 (IntKind.wrap .u64 (IntKind.wrap .i64 (x1 - (1 : Int))))) (QV.conv rfl (by rw [Try.underlying3]; rfl) Try.underlying95) rfl rfl rfl ?_
  obtain ⟨y3, hc4, hm⟩ := bind_inv hm
  refine JL.mv (d := some 6) (MV.call (Lo := []) (Lr := []) (F95.spec ((IntKind.wrap .u64 (IntKind.wrap .i64 (x1 - (1 : Int))))) _ hc4) rfl Try.func95 rfl rfl rfl [] [] rfl rfl rfl trivial) rfl rfl rfl ?_
  rintro _ _ ⟨_, ⟨rfl, rfl⟩, rfl⟩
  refine JL.val (v := .int .i64 (IntKind.wrap .i64 (y3 - (1 : Int)))) (QV.sub rfl rfl) rfl rfl rfl ?_
  obtain ⟨h5, hm⟩ := guard_inv hm
  refine JL.val (v := .int .i64 (shlI .i64 (1 : Int) (IntKind.wrap .i64 (y3 - (1 : Int))))) (QV.shl rfl rfl h5) rfl rfl rfl ?_
  refine JL.val (v := .int .i64 (shlI .i64 (1 : Int) (IntKind.wrap .i64 (y3 - (1 : Int))))) (QV.assign rfl) rfl rfl rfl ?_
  refine JL.nil ?_
  refine QJ.then_normal ?_
  refine JC.ret ?_
  obtain rfl := Option.some.inj hm
  exact QJ.body (vs := [.int .i64 (shlI .i64 (1 : Int) (IntKind.wrap .i64 (y3 - (1 : Int))))]) (.inl rfl) rfl (ResVs.cons (ResV.tmp rfl) ResVs.nil) [] rfl rfl (.inr trivial) ⟨rfl, rfl⟩

/-! ### 79: drogher/merkle.turns -/
noncomputable def F79.j1  (d6 : List Bool) : Option (List Bool) :=
  some d6
noncomputable def F79.j2 (d7 : Int) (d10 : List Bool) (y20 : Int) (d25 : Int) (d26 : Int) : Option ((Int × Int × List Bool) ⊕ (List Bool)) :=
  some (.inl (d25, d26, (d10 ++ [(decide (y20 ≤ d7))])))
noncomputable def F79.b1  : (Int × Int × List Bool) → Option ((Int × Int × List Bool) ⊕ (List Bool))
  | (d7, d8, d10) => (if (1 : Int) < d8 then ((F76.m (d8)).bind fun y20 => (if ((d10).length + ([(decide (y20 ≤ d7))]).length) * 1 ≤ 140737488355328 ∧ (d10).length + ([(decide (y20 ≤ d7))]).length ≤ 9223372036854775807 then (if y20 ≤ d7 then F79.j2 d7 d10 y20 ((IntKind.wrap .i64 (d7 - y20))) ((IntKind.wrap .i64 (d8 - y20))) else F79.j2 d7 d10 y20 (d7) (y20)) else none)) else some (.inr d10))
noncomputable def F79.m (x1 : Int) (x2 : Int) : Option (List Bool) :=
  ((loop (F79.b1) (x1, x2, ([] : List Bool))).bind fun y => match y with | d6 => F79.j1 (d6))
set_option maxRecDepth 100000 in
set_option maxHeartbeats 4000000 in
theorem F79.spec (x1 : Int) (x2 : Int) (r : (List Bool)) (hm : F79.m x1 x2 = some r) :
    Ctr Try.prog false 79 [.int .i64 x1, .int .i64 x2] [] (fun v L' => ∃ (g3 : SlV), v = g3.v ∧ L' = [Asr.of 4 Enc.bool (g3.v) r]) := by
  refine Ctr.intro (n := 28) (env := [(0, .int .i64 x1), (1, .int .i64 x2)]) Try.func79 rfl rfl rfl rfl (fun c => ?_)
  unfold F79.m at hm
  refine JC.seq ?_
  refine JC.region ?_
  refine JL.ent (fun _ hs => hs.nil 4 Enc.bool) ?_
  refine JL.val (v := SlV.nil.v) (QV.assign rfl) rfl rfl rfl ?_
  refine JL.nil ?_
  refine QJ.then_normal ?_
  refine JC.seq ?_
  refine JC.region ?_
  refine JL.ent (fun _ hs => hs.nil 4 Enc.bool) ?_
  refine JL.val (v := SlV.nil.v) (QV.assign rfl) rfl rfl rfl ?_
  refine JL.nil ?_
  refine QJ.then_normal ?_
  refine JC.seq ?_
  refine JC.cutK (Y := (List Bool) × SlV) (fun y => match y with | (d6, _) => F79.j1 (d6) = some r) (fun y => match y with | (d6, z5) => [(5, z5.v)]) (fun y => match y with | (d6, z5) => [Asr.of 4 Enc.bool (z5.v) d6]) ?_ ?_
  ·
    rintro ⟨d6, z5⟩ hm
    unfold F79.j1 at hm
    show QJ _ _ [(5, z5.v)] [Asr.of 4 Enc.bool (z5.v) d6] _ _
    refine QJ.then_normal ?_
    refine JC.seq ?_
    refine JC.region ?_
    refine JL.val (v := z5.v) (QV.move rfl) rfl rfl rfl ?_
    refine JL.val (v := z5.v) (QV.assign rfl) rfl rfl rfl ?_
    refine JL.nil ?_
    refine QJ.then_normal ?_
    refine JC.ret ?_
    obtain rfl := Option.some.inj hm
    exact QJ.body (vs := [z5.v]) (.inl rfl) rfl (ResVs.cons (ResV.tmp rfl) ResVs.nil) [0] rfl rfl (.inr ⟨own_of _ _ _ _, trivial⟩) ⟨z5, rfl, rfl⟩
  ·
    refine JC.block ?_
    obtain ⟨y15, hl16, hmo17⟩ := bind_inv hm
    refine JC.loop (F79.b1) (fun x z => match x, z with | (d7, d8, d10), z9 => [(0, .int .i64 d7), (1, .int .i64 d8), (5, z9.v)]) (fun x z => match x, z with | (d7, d8, d10), z9 => [Asr.of 4 Enc.bool (z9.v) d10]) (x1, x2, ([] : List Bool)) SlV.nil y15 hl16 [0] (by exact ⟨rfl, rfl, rfl, trivial⟩) rfl rfl ?_
    rintro ⟨d7, d8, d10⟩ z9 s18 hm
    unfold F79.b1 at hm
    dsimp only at hm
    show JC _ _ _ [(0, .int .i64 d7), (1, .int .i64 d8), (5, z9.v)] [Asr.of 4 Enc.bool (z9.v) d10] _ _
    refine JC.seq ?_
    refine JC.seq ?_
    refine JC.region ?_
    refine JL.val (v := .int .i64 d8) (QV.move rfl) rfl rfl rfl ?_
    refine JL.val (v := .bool (decide ((1 : Int) < d8))) (QV.gtr rfl rfl) rfl rfl rfl ?_
    refine JL.nil ?_
    refine QJ.then_normal ?_
    rcases ite_inv hm with ⟨h19, hm⟩ | ⟨h19, hm⟩
    ·
      refine JC.condT' rfl (decide_eq_true h19) ?_
      refine JC.skip ?_
      refine QJ.then_normal ?_
      refine JC.block ?_
      refine JC.seq ?_
      refine JC.region ?_
      refine JL.val (v := .int .i64 d8) (QV.move rfl) rfl rfl rfl ?_
      obtain ⟨y20, hc21, hm⟩ := bind_inv hm
      refine JL.mv (d := some 11) (MV.call (Lo := []) (Lr := [Asr.of 4 Enc.bool (z9.v) d10]) (F76.spec (d8) _ hc21) rfl Try.func76 rfl rfl rfl [] [0] rfl rfl rfl trivial) rfl rfl rfl ?_
      rintro _ _ ⟨_, ⟨rfl, rfl⟩, rfl⟩
      refine JL.val (v := .int .i64 y20) (QV.assign rfl) rfl rfl rfl ?_
      refine JL.nil ?_
      refine QJ.then_normal ?_
      refine JC.seq ?_
      refine JC.region ?_
      refine JL.val (v := .int .i64 d7) (QV.move rfl) rfl rfl rfl ?_
      refine JL.val (v := .int .i64 y20) (QV.move rfl) rfl rfl rfl ?_
      refine JL.val (v := .bool (decide (y20 ≤ d7))) (QV.geq rfl rfl) rfl rfl rfl ?_
      refine JL.val (v := .bool (decide (y20 ≤ d7))) (QV.assign rfl) rfl rfl rfl ?_
      refine JL.nil ?_
      refine QJ.then_normal ?_
      refine JC.seq ?_
      refine JC.region ?_
      refine JL.val (v := z9.v) (QV.move rfl) rfl rfl rfl ?_
      refine JL.val (v := .bool (decide (y20 ≤ d7))) (QV.move rfl) rfl rfl rfl ?_
      refine JL.mv (d := some 17) (MV.lit (E := Enc.bool) (vals := [(0, .bool (decide (y20 ≤ d7)))]) [(decide (y20 ≤ d7))] Try.underlying110 zi_4 rfl (by decide) rfl (by kernel_rfl)) rfl rfl rfl ?_
      rintro _ _ ⟨z22, rfl, rfl⟩
      obtain ⟨h23, hm⟩ := guard_inv hm
      refine JL.mv (d := some 18) (MV.append 1 rfl (Rdg.of 0 rfl) Try.underlying110 zi_4 rfl (by decide) rfl rfl h23) rfl rfl rfl ?_
      rintro _ _ ⟨z24, rfl, rfl⟩
      refine JL.val (v := z24.v) (QV.assign rfl) rfl rfl rfl ?_
      refine JL.nil ?_
      refine QJ.then_normal ?_
      refine JC.seq ?_
      refine JC.region ?_
      refine JL.val (v := .bool (decide (y20 ≤ d7))) (QV.move rfl) rfl rfl rfl ?_
      refine JL.nil ?_
      refine QJ.then_normal ?_
      refine JC.cutK (Y := (Int × Int) × Unit) (fun y => match y with | ((d25, d26), _) => F79.j2 d7 d10 y20 (d25) (d26) = some s18) (fun y => match y with | ((d25, d26), _) => [(0, .int .i64 d25), (1, .int .i64 d26), (5, z24.v)]) (fun y => match y with | ((d25, d26), _) => [Asr.of 4 Enc.bool (z24.v) (d10 ++ [(decide (y20 ≤ d7))])]) ?_ ?_
      ·
        rintro ⟨⟨d25, d26⟩, ⟨⟩⟩ hm
        unfold F79.j2 at hm
        show QJ _ _ [(0, .int .i64 d25), (1, .int .i64 d26), (5, z24.v)] [Asr.of 4 Enc.bool (z24.v) (d10 ++ [(decide (y20 ≤ d7))])] _ _
        refine QJ.block_normal ?_
        obtain rfl := Option.some.inj hm
        exact QJ.round_on (d25, d26, (d10 ++ [(decide (y20 ≤ d7))])) z24 [0] (by exact ⟨rfl, rfl, rfl, trivial⟩) rfl rfl
      ·
        rcases ite_inv hm with ⟨h27, hm⟩ | ⟨h27, hm⟩
        ·
          refine JC.condT' rfl (decide_eq_true h27) ?_
          refine JC.region ?_
          refine JL.val (v := .int .i64 d7) (QV.move rfl) rfl rfl rfl ?_
          refine JL.val (v := .int .i64 y20) (QV.move rfl) rfl rfl rfl ?_
          refine JL.val (v := .int .i64 (IntKind.wrap .i64 (d7 - y20))) (QV.sub rfl rfl) rfl rfl rfl ?_
          refine JL.val (v := .int .i64 d8) (QV.move rfl) rfl rfl rfl ?_
          refine JL.val (v := .int .i64 y20) (QV.move rfl) rfl rfl rfl ?_
          refine JL.val (v := .int .i64 (IntKind.wrap .i64 (d8 - y20))) (QV.sub rfl rfl) rfl rfl rfl ?_
          refine JL.val (v := .int .i64 (IntKind.wrap .i64 (d7 - y20))) (QV.assign rfl) rfl rfl rfl ?_
          refine JL.val (v := .int .i64 (IntKind.wrap .i64 (d8 - y20))) (QV.assign rfl) rfl rfl rfl ?_
          refine JL.nil ?_
          exact QJ.cut_normal (((IntKind.wrap .i64 (d7 - y20)), (IntKind.wrap .i64 (d8 - y20))), ()) hm [1] (by exact ⟨rfl, rfl, rfl, trivial⟩) rfl rfl
        ·
          refine JC.condF' rfl (decide_eq_false h27) ?_
          refine JC.region ?_
          refine JL.val (v := .int .i64 y20) (QV.move rfl) rfl rfl rfl ?_
          refine JL.val (v := .int .i64 y20) (QV.assign rfl) rfl rfl rfl ?_
          refine JL.nil ?_
          exact QJ.cut_normal ((d7, y20), ()) hm [1] (by exact ⟨rfl, rfl, rfl, trivial⟩) rfl rfl
    ·
      refine JC.condF' rfl (decide_eq_false h19) ?_
      refine JC.exit ?_
      refine QJ.then_exit ?_
      obtain rfl := Option.some.inj hm
      refine QJ.round_exit (fun hy => ?_)
      subst hy
      refine QJ.block_hit ?_
      exact QJ.cut_normal (d10, z9) hmo17 [0] (by exact ⟨rfl, trivial⟩) rfl rfl

/-! ### 50: drogher/merkle.Steps -/
noncomputable def F50.m (x1 : Int) (x2 : Int) : Option Int :=
  (if x1 < (0 : Int) then some (-1 : Int) else (if x2 ≤ x1 then some (-1 : Int) else ((F79.m (x1) (x2)).bind fun y6 => some ((y6).length : Int))))
set_option maxRecDepth 100000 in
set_option maxHeartbeats 4000000 in
theorem F50.spec (x1 : Int) (x2 : Int) (r : Int) (hm : F50.m x1 x2 = some r) :
    Ctr Try.prog false 50 [.int .i64 x1, .int .i64 x2] [] (fun v L' => v = .int .i64 r ∧ L' = []) := by
  refine Ctr.intro (n := 16) (env := [(0, .int .i64 x1), (1, .int .i64 x2)]) Try.func50 rfl rfl rfl rfl (fun c => ?_)
  unfold F50.m at hm
  refine JC.seq ?_
  refine JC.region ?_
  refine JL.val (v := .int .i64 (0 : Int)) (QV.assign rfl) rfl rfl rfl ?_
  refine JL.nil ?_
  refine QJ.then_normal ?_
  refine JC.seq ?_
  refine JC.seq ?_
  refine JC.region ?_
  refine JL.val (v := .int .i64 x1) (QV.move rfl) rfl rfl rfl ?_
  refine JL.val (v := .bool (decide (x1 < (0 : Int)))) (QV.lss rfl rfl) rfl rfl rfl ?_
  rcases ite_inv hm with ⟨h4, hm⟩ | ⟨h4, hm⟩
  ·
    refine JL.val (v := .bool true) (QV.eq (QV.move rfl) (congrArg Value.bool (decide_eq_true h4))) rfl rfl rfl ?_
    refine JL.skip (d := some 8) rfl rfl rfl ?_
    refine JL.skip (d := some 9) rfl rfl rfl ?_
    refine JL.skip (d := some 10) rfl rfl rfl ?_
    refine JL.val (v := .bool true) (QV.pickT rfl rfl) rfl rfl rfl ?_
    refine JL.nil ?_
    refine QJ.then_normal ?_
    refine JC.condT rfl ?_
    refine JC.seq ?_
    refine JC.region ?_
    refine JL.val (v := .int .i64 (-1 : Int)) (QV.assign rfl) rfl rfl rfl ?_
    refine JL.nil ?_
    refine QJ.then_normal ?_
    refine JC.ret ?_
    refine QJ.then_ret ?_
    obtain rfl := Option.some.inj hm
    exact QJ.body (vs := [.int .i64 (-1 : Int)]) (.inl rfl) rfl (ResVs.cons (ResV.tmp rfl) ResVs.nil) [] rfl rfl (.inr trivial) ⟨rfl, rfl⟩
  ·
    refine JL.val (v := .bool false) (QV.eq (QV.move rfl) (congrArg Value.bool (decide_eq_false h4))) rfl rfl rfl ?_
    refine JL.val (v := .int .i64 x1) (QV.move rfl) rfl rfl rfl ?_
    refine JL.val (v := .int .i64 x2) (QV.move rfl) rfl rfl rfl ?_
    refine JL.val (v := .bool (decide (x2 ≤ x1))) (QV.geq rfl rfl) rfl rfl rfl ?_
    refine JL.val (v := .bool (decide (x2 ≤ x1))) (QV.pickF rfl rfl) rfl rfl rfl ?_
    refine JL.nil ?_
    refine QJ.then_normal ?_
    rcases ite_inv hm with ⟨h5, hm⟩ | ⟨h5, hm⟩
    ·
      refine JC.condT' rfl (decide_eq_true h5) ?_
      refine JC.seq ?_
      refine JC.region ?_
      refine JL.val (v := .int .i64 (-1 : Int)) (QV.assign rfl) rfl rfl rfl ?_
      refine JL.nil ?_
      refine QJ.then_normal ?_
      refine JC.ret ?_
      refine QJ.then_ret ?_
      obtain rfl := Option.some.inj hm
      exact QJ.body (vs := [.int .i64 (-1 : Int)]) (.inl rfl) rfl (ResVs.cons (ResV.tmp rfl) ResVs.nil) [] rfl rfl (.inr trivial) ⟨rfl, rfl⟩
    ·
      refine JC.condF' rfl (decide_eq_false h5) ?_
      refine JC.skip ?_
      refine QJ.then_normal ?_
      refine JC.seq ?_
      refine JC.region ?_
      refine JL.val (v := .int .i64 x1) (QV.move rfl) rfl rfl rfl ?_
      refine JL.val (v := .int .i64 x2) (QV.move rfl) rfl rfl rfl ?_
      obtain ⟨y6, hc7, hm⟩ := bind_inv hm
      refine JL.mv (d := some 14) (MV.call (Lo := []) (Lr := []) (F79.spec (x1) (x2) _ hc7) rfl Try.func79 rfl rfl rfl [] [] rfl rfl rfl trivial) rfl rfl rfl ?_
      rintro _ _ ⟨_, ⟨z8, rfl, rfl⟩, rfl⟩
      refine JL.val (v := .int .i64 ((y6).length : Int)) (QV.len (Rdg.of 0 rfl) Try.underlying110 rfl) rfl rfl rfl ?_
      refine JL.val (v := .int .i64 ((y6).length : Int)) (QV.assign rfl) rfl rfl rfl ?_
      refine JL.nil ?_
      refine QJ.then_normal ?_
      refine JC.ret ?_
      obtain rfl := Option.some.inj hm
      exact QJ.body (vs := [.int .i64 ((y6).length : Int)]) (.inl rfl) rfl (ResVs.cons (ResV.tmp rfl) ResVs.nil) [] rfl rfl (.inr trivial) ⟨rfl, rfl⟩

/-! ### 41: drogher/drogherlaw21.awake -/
noncomputable def F41.m  : Option Bool :=
  ((F42.m (([] : List Int))).bind fun y2 => ((F50.m ((2 : Int)) ((3 : Int))).bind fun y5 => (if y5 = (1 : Int) then ((F50.m ((0 : Int)) ((3 : Int))).bind fun y8 => (if y8 = (2 : Int) then some (decide ((gd (y2).l (0 : Int)) = (110 : Int))) else some false)) else some false)))
set_option maxRecDepth 100000 in
set_option maxHeartbeats 4000000 in
theorem F41.spec  (r : Bool) (hm : F41.m  = some r) :
    Ctr Try.prog false 41 [] [] (fun v L' => v = .bool r ∧ L' = []) := by
  refine Ctr.intro (n := 14) (env := []) Try.func41 rfl rfl rfl rfl (fun c => ?_)
  unfold F41.m at hm
  refine JC.seq ?_
  refine JC.region ?_
  refine JL.val (v := .bool false) (QV.assign rfl) rfl rfl rfl ?_
  refine JL.nil ?_
  refine QJ.then_normal ?_
  refine JC.seq ?_
  refine JC.region ?_
  refine JL.ent (fun _ hs => hs.nil 5 (Enc.int .u8)) ?_
  obtain ⟨y2, hc3, hm⟩ := bind_inv hm
  refine JL.mv (d := some 2) (MV.call (Lo := []) (Lr := [Asr.of 5 (Enc.int .u8) (SlV.nil.v) ([] : List Int)]) (F42.spec (SlV.nil) (([] : List Int)) _ hc3) rfl Try.func42 rfl rfl rfl [] [0] rfl rfl rfl ⟨(Drv.of 0 rfl), trivial⟩) rfl rfl rfl ?_
  rintro _ _ ⟨_, ⟨rfl, rfl⟩, rfl⟩
  refine JL.mv (d := some 1) (MV.alloc [Seg.of (Enc.arr 32 (Enc.int .u8)) (Arr.rep 32 (0 : Int))] z_41 rfl) rfl rfl rfl ?_
  rintro _ _ ⟨b4, rfl, rfl⟩
  refine JL.mv (d := none) (MV.store (ss := [Seg.of (Enc.arr 32 (Enc.int .u8)) (Arr.rep 32 (0 : Int))]) 0 0 1 [Seg.of (Enc.arr 32 (Enc.int .u8)) y2] rfl tk_41 rfl rfl rfl rfl (fun w hs => ⟨rfl, one_of _ _, trivial⟩)) rfl rfl rfl ?_
  rintro _ _ ⟨rfl, rfl⟩
  refine JL.nil ?_
  refine QJ.then_normal ?_
  refine JC.seq ?_
  refine JC.region ?_
  obtain ⟨y5, hc6, hm⟩ := bind_inv hm
  refine JL.mv (d := some 3) (MV.call (Lo := []) (Lr := [Asr.blk b4 41 [Seg.of (Enc.arr 32 (Enc.int .u8)) y2], Asr.of 5 (Enc.int .u8) (SlV.nil.v) ([] : List Int)]) (F50.spec ((2 : Int)) ((3 : Int)) _ hc6) rfl Try.func50 rfl rfl rfl [] [0, 1] rfl rfl rfl trivial) rfl rfl rfl ?_
  rintro _ _ ⟨_, ⟨rfl, rfl⟩, rfl⟩
  refine JL.val (v := .bool (decide (y5 = (1 : Int)))) (QV.eql rfl rfl) rfl rfl rfl ?_
  rcases ite_inv hm with ⟨h7, hm⟩ | ⟨h7, hm⟩
  ·
    refine JL.val (v := .bool true) (QV.eq (QV.move rfl) (congrArg Value.bool (decide_eq_true h7))) rfl rfl rfl ?_
    obtain ⟨y8, hc9, hm⟩ := bind_inv hm
    refine JL.mv (d := some 6) (MV.call (Lo := []) (Lr := [Asr.blk b4 41 [Seg.of (Enc.arr 32 (Enc.int .u8)) y2], Asr.of 5 (Enc.int .u8) (SlV.nil.v) ([] : List Int)]) (F50.spec ((0 : Int)) ((3 : Int)) _ hc9) rfl Try.func50 rfl rfl rfl [] [0, 1] rfl rfl rfl trivial) rfl rfl rfl ?_
    rintro _ _ ⟨_, ⟨rfl, rfl⟩, rfl⟩
    refine JL.val (v := .bool (decide (y8 = (2 : Int)))) (QV.eql rfl rfl) rfl rfl rfl ?_
    refine JL.val (v := .bool (decide (y8 = (2 : Int)))) (QV.pickT rfl rfl) rfl rfl rfl ?_
    rcases ite_inv hm with ⟨h10, hm⟩ | ⟨h10, hm⟩
    ·
      refine JL.val (v := .bool true) (QV.eq (QV.move rfl) (congrArg Value.bool (decide_eq_true h10))) rfl rfl rfl ?_
      refine JL.val (v := .pointer (some ⟨b4, 0 + Int.toNat (0 : Int) * 1, none⟩)) (QV.indexB Try.underlying41 tk_5 rfl rfl (by decide)) rfl rfl rfl ?_
      refine JL.val (v := .int .u8 (gd (y2).l (0 : Int))) (QV.ar1 (ss := [Seg.of (Enc.arr 32 (Enc.int .u8)) y2]) 0 0 rfl tk_5 rfl rfl rfl rfl (by decide) rfl) rfl rfl rfl ?_
      refine JL.val (v := .bool (decide ((gd (y2).l (0 : Int)) = (110 : Int)))) (QV.eql rfl rfl) rfl rfl rfl ?_
      refine JL.val (v := .bool (decide ((gd (y2).l (0 : Int)) = (110 : Int)))) (QV.pickT rfl rfl) rfl rfl rfl ?_
      refine JL.val (v := .bool (decide ((gd (y2).l (0 : Int)) = (110 : Int)))) (QV.assign rfl) rfl rfl rfl ?_
      refine JL.nil ?_
      refine QJ.then_normal ?_
      refine JC.ret ?_
      obtain rfl := Option.some.inj hm
      exact QJ.body (vs := [.bool (decide ((gd (y2).l (0 : Int)) = (110 : Int)))]) (.inl rfl) rfl (ResVs.cons (ResV.tmp rfl) ResVs.nil) [] rfl rfl (.inr trivial) ⟨rfl, rfl⟩
    ·
      refine JL.val (v := .bool false) (QV.eq (QV.move rfl) (congrArg Value.bool (decide_eq_false h10))) rfl rfl rfl ?_
      refine JL.skip (d := some 10) rfl rfl rfl ?_
      refine JL.skip (d := some 11) rfl rfl rfl ?_
      refine JL.skip (d := some 12) rfl rfl rfl ?_
      refine JL.val (v := .bool false) (QV.pickF rfl rfl) rfl rfl rfl ?_
      refine JL.val (v := .bool false) (QV.assign rfl) rfl rfl rfl ?_
      refine JL.nil ?_
      refine QJ.then_normal ?_
      refine JC.ret ?_
      obtain rfl := Option.some.inj hm
      exact QJ.body (vs := [.bool false]) (.inl rfl) rfl (ResVs.cons (ResV.tmp rfl) ResVs.nil) [] rfl rfl (.inr trivial) ⟨rfl, rfl⟩
  ·
    refine JL.val (v := .bool false) (QV.eq (QV.move rfl) (congrArg Value.bool (decide_eq_false h7))) rfl rfl rfl ?_
    refine JL.skip (d := some 6) rfl rfl rfl ?_
    refine JL.skip (d := some 7) rfl rfl rfl ?_
    refine JL.val (v := .bool false) (QV.pickF rfl rfl) rfl rfl rfl ?_
    refine JL.val (v := .bool false) (QV.move rfl) rfl rfl rfl ?_
    refine JL.skip (d := some 10) rfl rfl rfl ?_
    refine JL.skip (d := some 11) rfl rfl rfl ?_
    refine JL.skip (d := some 12) rfl rfl rfl ?_
    refine JL.val (v := .bool false) (QV.pickF rfl rfl) rfl rfl rfl ?_
    refine JL.val (v := .bool false) (QV.assign rfl) rfl rfl rfl ?_
    refine JL.nil ?_
    refine QJ.then_normal ?_
    refine JC.ret ?_
    obtain rfl := Option.some.inj hm
    exact QJ.body (vs := [.bool false]) (.inl rfl) rfl (ResVs.cons (ResV.tmp rfl) ResVs.nil) [] rfl rfl (.inr trivial) ⟨rfl, rfl⟩

/-! ### 45: drogher/drogherlaw21.digests -/
noncomputable def F45.j1  (d7 : List (Arr Int 32)) : Option (List (Arr Int 32)) :=
  some d7
noncomputable def F45.b1 (x2 : List (Arr Int 32)) : (List (Arr Int 32) × Int) → Option ((List (Arr Int 32) × Int) ⊕ (List (Arr Int 32)))
  | (d9, d10) => (if d10 < ((x2).length : Int) then (if 0 ≤ d10 ∧ d10 < ((x2).length : Int) then (if ((d9).length + ([(gd x2 d10)]).length) * 32 ≤ 140737488355328 ∧ (d9).length + ([(gd x2 d10)]).length ≤ 9223372036854775807 then some (.inl ((d9 ++ [(gd x2 d10)]), (IntKind.wrap .i64 (d10 + (1 : Int))))) else none) else none) else some (.inr d9))
noncomputable def F45.m (x2 : List (Arr Int 32)) : Option (List (Arr Int 32)) :=
  ((loop (F45.b1 x2) (([] : List (Arr Int 32)), (0 : Int))).bind fun y => match y with | d7 => F45.j1 (d7))
set_option maxRecDepth 100000 in
set_option maxHeartbeats 4000000 in
theorem F45.spec (s1 : SlV) (x2 : List (Arr Int 32)) (r : (List (Arr Int 32))) (hm : F45.m x2 = some r) :
    Ctr Try.prog false 45 [s1.v] [Asr.vw (Enc.arr 32 (Enc.int .u8)) (s1.v) x2] (fun v L' => ∃ (g3 : SlV), v = g3.v ∧ L' = [Asr.of 41 (Enc.arr 32 (Enc.int .u8)) (g3.v) r]) := by
  refine Ctr.intro (n := 20) (env := [(0, s1.v)]) Try.func45 rfl rfl rfl rfl (fun c => ?_)
  unfold F45.m at hm
  refine JC.seq ?_
  refine JC.region ?_
  refine JL.ent (fun _ hs => hs.nil 41 (Enc.arr 32 (Enc.int .u8))) ?_
  refine JL.val (v := SlV.nil.v) (QV.assign rfl) rfl rfl rfl ?_
  refine JL.nil ?_
  refine QJ.then_normal ?_
  refine JC.seq ?_
  refine JC.region ?_
  refine JL.mv (d := some 5) (MV.lit0 (Enc.arr 32 (Enc.int .u8)) Try.underlying57 (by kernel_rfl)) rfl rfl rfl ?_
  rintro _ _ ⟨z5, rfl, rfl⟩
  refine JL.val (v := z5.v) (QV.assign rfl) rfl rfl rfl ?_
  refine JL.nil ?_
  refine QJ.then_normal ?_
  refine JC.seq ?_
  refine JC.seq ?_
  refine JC.region ?_
  refine JL.val (v := .int .i64 (0 : Int)) (QV.assign rfl) rfl rfl rfl ?_
  refine JL.nil ?_
  refine QJ.then_normal ?_
  refine JC.cutK (Y := (List (Arr Int 32)) × SlV) (fun y => match y with | (d7, _) => F45.j1 (d7) = some r) (fun y => match y with | (d7, z6) => [(3, z6.v)]) (fun y => match y with | (d7, z6) => [Asr.of 41 (Enc.arr 32 (Enc.int .u8)) (z6.v) d7]) ?_ ?_
  ·
    rintro ⟨d7, z6⟩ hm
    unfold F45.j1 at hm
    show QJ _ _ [(3, z6.v)] [Asr.of 41 (Enc.arr 32 (Enc.int .u8)) (z6.v) d7] _ _
    refine QJ.then_normal ?_
    refine JC.seq ?_
    refine JC.region ?_
    refine JL.val (v := z6.v) (QV.move rfl) rfl rfl rfl ?_
    refine JL.val (v := z6.v) (QV.assign rfl) rfl rfl rfl ?_
    refine JL.nil ?_
    refine QJ.then_normal ?_
    refine JC.ret ?_
    obtain rfl := Option.some.inj hm
    exact QJ.body (vs := [z6.v]) (.inl rfl) rfl (ResVs.cons (ResV.tmp rfl) ResVs.nil) [0] rfl rfl (.inr ⟨own_of _ _ _ _, trivial⟩) ⟨z6, rfl, rfl⟩
  ·
    refine JC.block ?_
    obtain ⟨y14, hl15, hmo16⟩ := bind_inv hm
    refine JC.loop (F45.b1 x2) (fun x z => match x, z with | (d9, d10), z8 => [(0, s1.v), (3, z8.v), (4, .int .i64 d10)]) (fun x z => match x, z with | (d9, d10), z8 => [Asr.vw (Enc.arr 32 (Enc.int .u8)) (s1.v) x2, Asr.of 41 (Enc.arr 32 (Enc.int .u8)) (z8.v) d9]) (([] : List (Arr Int 32)), (0 : Int)) z5 y14 hl15 [2, 0] (by exact ⟨rfl, rfl, rfl, trivial⟩) rfl rfl ?_
    rintro ⟨d9, d10⟩ z8 s17 hm
    unfold F45.b1 at hm
    dsimp only at hm
    show JC _ _ _ [(0, s1.v), (3, z8.v), (4, .int .i64 d10)] [Asr.vw (Enc.arr 32 (Enc.int .u8)) (s1.v) x2, Asr.of 41 (Enc.arr 32 (Enc.int .u8)) (z8.v) d9] _ _
    refine JC.seq ?_
    refine JC.seq ?_
    refine JC.region ?_
    refine JL.val (v := .int .i64 d10) (QV.move rfl) rfl rfl rfl ?_
    refine JL.val (v := s1.v) (QV.move rfl) rfl rfl rfl ?_
    refine JL.val (v := .int .i64 ((x2).length : Int)) (QV.len (Rdg.vw 0 rfl) Try.underlying55 rfl) rfl rfl rfl ?_
    refine JL.val (v := .bool (decide (d10 < ((x2).length : Int)))) (QV.lss rfl rfl) rfl rfl rfl ?_
    refine JL.nil ?_
    refine QJ.then_normal ?_
    rcases ite_inv hm with ⟨h18, hm⟩ | ⟨h18, hm⟩
    ·
      refine JC.condT' rfl (decide_eq_true h18) ?_
      refine JC.skip ?_
      refine QJ.then_normal ?_
      refine JC.seq ?_
      refine JC.block ?_
      refine JC.region ?_
      refine JL.val (v := z8.v) (QV.move rfl) rfl rfl rfl ?_
      refine JL.val (v := s1.v) (QV.move rfl) rfl rfl rfl ?_
      refine JL.val (v := .int .i64 d10) (QV.move rfl) rfl rfl rfl ?_
      obtain ⟨h19, hm⟩ := guard_inv hm
      refine JL.val (v := .pointer (some (elA (s1.v) (Int.toNat d10 * ((Enc.arr 32 (Enc.int .u8))).sz)))) (QV.indexA (Rdg.vw 0 rfl) Try.underlying55 tk_39 rfl rfl h19) rfl rfl rfl ?_
      refine JL.val (v := .agg (((Enc.arr 32 (Enc.int .u8))).enc (gd x2 d10)).toArray) (QV.eq (QV.elN (Rdg.vw 0 rfl) tk_39 rfl h19) rfl) rfl rfl rfl ?_
      refine JL.mv (d := some 17) (MV.litA (E := (Enc.arr 32 (Enc.int .u8))) (vals := [(0, .agg (((Enc.arr 32 (Enc.int .u8))).enc (gd x2 d10)).toArray)]) [(gd x2 d10)] (fun x => .agg (Enc.enc (Enc.arr 32 (Enc.int .u8)) x).toArray) (fun _ => rfl) Try.underlying57 zi_41 rfl (by decide) rfl rfl) rfl rfl rfl ?_
      rintro _ _ ⟨z20, rfl, rfl⟩
      obtain ⟨h21, hm⟩ := guard_inv hm
      refine JL.mv (d := some 18) (MV.append 2 rfl (Rdg.of 0 rfl) Try.underlying57 zi_41 rfl (by decide) rfl rfl h21) rfl rfl rfl ?_
      rintro _ _ ⟨z22, rfl, rfl⟩
      refine JL.val (v := z22.v) (QV.assign rfl) rfl rfl rfl ?_
      refine JL.nil ?_
      refine QJ.block_normal ?_
      refine QJ.then_normal ?_
      refine JC.region ?_
      refine JL.val (v := .int .i64 d10) (QV.move rfl) rfl rfl rfl ?_
      refine JL.val (v := .int .i64 (IntKind.wrap .i64 (d10 + (1 : Int)))) (QV.add rfl rfl) rfl rfl rfl ?_
      refine JL.val (v := .int .i64 (IntKind.wrap .i64 (d10 + (1 : Int)))) (QV.assign rfl) rfl rfl rfl ?_
      refine JL.nil ?_
      obtain rfl := Option.some.inj hm
      exact QJ.round_on ((d9 ++ [(gd x2 d10)]), (IntKind.wrap .i64 (d10 + (1 : Int)))) z22 [1, 2] (by exact ⟨rfl, rfl, rfl, trivial⟩) rfl rfl
    ·
      refine JC.condF' rfl (decide_eq_false h18) ?_
      refine JC.exit ?_
      refine QJ.then_exit ?_
      obtain rfl := Option.some.inj hm
      refine QJ.round_exit (fun hy => ?_)
      subst hy
      refine QJ.block_hit ?_
      exact QJ.cut_normal (d9, z8) hmo16 [1] (by exact ⟨rfl, trivial⟩) rfl rfl

/-! ### 47: drogher/merkle.Pair -/
noncomputable def F47.m (x1 : (Arr Int 32)) (x2 : (Arr Int 32)) : Option (Arr Int 32) :=
  ((F32.m ((subL ((Arr.cp (Arr.cp (Arr.set (Arr.rep 65 (0 : Int)) (0 : Int) (1 : Int)) (1 : Int) ((65 : Nat) : Int) (subL (x1).l (0 : Int) ((32 : Nat) : Int))) (33 : Int) ((65 : Nat) : Int) (subL (x2).l (0 : Int) ((32 : Nat) : Int)))).l (0 : Int) ((65 : Nat) : Int)))).bind fun y8 => some y8)
set_option maxRecDepth 100000 in
set_option maxHeartbeats 4000000 in
theorem F47.spec (x1 : (Arr Int 32)) (x2 : (Arr Int 32)) (r : (Arr Int 32)) (hm : F47.m x1 x2 = some r) :
    Ctr Try.prog false 47 [.agg (((Enc.arr 32 (Enc.int .u8))).enc x1).toArray, .agg (((Enc.arr 32 (Enc.int .u8))).enc x2).toArray] [] (fun v L' => v = .agg (((Enc.arr 32 (Enc.int .u8))).enc r).toArray ∧ L' = []) := by
  refine Ctr.intro (n := 15) (env := [(0, .agg (((Enc.arr 32 (Enc.int .u8))).enc x1).toArray), (1, .agg (((Enc.arr 32 (Enc.int .u8))).enc x2).toArray)]) Try.func47 rfl rfl rfl rfl (fun c => ?_)
  unfold F47.m at hm
  refine JC.seq ?_
  refine JC.region ?_
  refine JL.mv (d := some 2) (MV.box [Seg.of (Enc.arr 32 (Enc.int .u8)) x1] rfl (fun w hs => rfl)) rfl rfl rfl ?_
  rintro _ _ ⟨b4, rfl, rfl⟩
  refine JL.mv (d := some 3) (MV.box [Seg.of (Enc.arr 32 (Enc.int .u8)) x2] rfl (fun w hs => rfl)) rfl rfl rfl ?_
  rintro _ _ ⟨b5, rfl, rfl⟩
  refine JL.mv (d := some 4) (MV.alloc [Seg.of (Enc.arr 32 (Enc.int .u8)) (Arr.rep 32 (0 : Int))] z_41 rfl) rfl rfl rfl ?_
  rintro _ _ ⟨b6, rfl, rfl⟩
  refine JL.nil ?_
  refine QJ.then_normal ?_
  refine JC.seq ?_
  refine JC.region ?_
  refine JL.mv (d := some 5) (MV.alloc [Seg.of (Enc.arr 65 (Enc.int .u8)) (Arr.rep 65 (0 : Int))] z_108 rfl) rfl rfl rfl ?_
  rintro _ _ ⟨b7, rfl, rfl⟩
  refine JL.nil ?_
  refine QJ.then_normal ?_
  refine JC.seq ?_
  refine JC.region ?_
  refine JL.val (v := .pointer (some ⟨b7, 0 + Int.toNat (0 : Int) * 1, none⟩)) (QV.indexB Try.underlying108 tk_5 rfl rfl (by decide)) rfl rfl rfl ?_
  refine JL.mv (d := none) (MV.storeAr (ss := [Seg.of (Enc.arr 65 (Enc.int .u8)) (Arr.rep 65 (0 : Int))]) 0 0 (1 : Int) rfl tk_5 rfl rfl rfl rfl (by decide) rfl rfl) rfl rfl rfl ?_
  rintro _ _ ⟨rfl, rfl⟩
  refine JL.nil ?_
  refine QJ.then_normal ?_
  refine JC.seq ?_
  refine JC.regionT [Asr.blk b6 41 [Seg.of (Enc.arr 32 (Enc.int .u8)) (Arr.rep 32 (0 : Int))], Asr.blk b5 41 [Seg.of (Enc.arr 32 (Enc.int .u8)) x2], Asr.blk b4 41 [Seg.of (Enc.arr 32 (Enc.int .u8)) x1]] (fun t => false) [(0, true), (1, false), (2, false)] (by kernel_rfl) (by kernel_rfl) (by kernel_rfl) rfl (fun hsel => ?_)
  refine JT.take (i := 0) (v := (SlV.sub ((Enc.int .u8)).sz (SlV.mk (some ⟨b7, 0, none⟩) 65 65) (1 : Int) ((65 : Nat) : Int)).v) hsel rfl (QV.sliceB Try.underlying108 tk_5 rfl rfl rfl (by decide)) rfl rfl rfl [1, 2, 3] rfl rfl ?_
  refine JT.only (i := 1) (d := some 8) rfl (MV.ofQV (v := (SlV.sub ((Enc.int .u8)).sz (SlV.mk (some ⟨b4, 0, none⟩) 32 32) (0 : Int) ((32 : Nat) : Int)).v) (QV.sliceB Try.underlying41 tk_5 rfl rfl rfl (by decide))) rfl rfl rfl ?_
  rintro _ _ ⟨rfl, rfl⟩
  refine ⟨fun _ => ⟨[1, 2, 3], rfl, rfl⟩, ?_⟩
  refine JT.only (i := 2) (d := some 9) rfl (MV.copyB (ss := [Seg.of (Enc.arr 65 (Enc.int .u8)) (Arr.set (Arr.rep 65 (0 : Int)) (0 : Int) (1 : Int))]) (xs := (Arr.set (Arr.rep 65 (0 : Int)) (0 : Int) (1 : Int))) (l := (1 : Int)) (h := ((65 : Nat) : Int)) 0 0 rfl (Rdg.ofDrv ((Drv.arr (ss := [Seg.of (Enc.arr 32 (Enc.int .u8)) x1]) 3 0 rfl rfl rfl rfl).subV (by rw [Arr.h]; exact (show 0 ≤ (0 : Int) ∧ (0 : Int) ≤ ((32 : Nat) : Int) ∧ ((32 : Nat) : Int) ≤ ((32 : Nat) : Int) from by decide)))) Try.underlying22 tk_5 rfl rfl rfl rfl (show 0 ≤ (1 : Int) ∧ (1 : Int) ≤ ((65 : Nat) : Int) ∧ ((65 : Nat) : Int) ≤ ((65 : Nat) : Int) from by decide)) rfl rfl rfl ?_
  rintro _ _ ⟨rfl, rfl⟩
  refine ⟨fun _ => ⟨[1, 2, 3], rfl, rfl⟩, ?_⟩
  refine JT.grow [Asr.blk b7 108 [Seg.of (Enc.arr 65 (Enc.int .u8)) (Arr.cp (Arr.set (Arr.rep 65 (0 : Int)) (0 : Int) (1 : Int)) (1 : Int) ((65 : Nat) : Int) (subL (x1).l (0 : Int) ((32 : Nat) : Int)))], Asr.blk b6 41 [Seg.of (Enc.arr 32 (Enc.int .u8)) (Arr.rep 32 (0 : Int))], Asr.blk b5 41 [Seg.of (Enc.arr 32 (Enc.int .u8)) x2], Asr.blk b4 41 [Seg.of (Enc.arr 32 (Enc.int .u8)) x1]] [1, 2, 3] rfl rfl ?_
  refine JT.nil ?_
  refine QJ.then_normal ?_
  refine JC.seq ?_
  refine JC.regionT [Asr.blk b6 41 [Seg.of (Enc.arr 32 (Enc.int .u8)) (Arr.rep 32 (0 : Int))], Asr.blk b5 41 [Seg.of (Enc.arr 32 (Enc.int .u8)) x2], Asr.blk b4 41 [Seg.of (Enc.arr 32 (Enc.int .u8)) x1]] (fun t => false) [(0, true), (1, false), (2, false)] (by kernel_rfl) (by kernel_rfl) (by kernel_rfl) rfl (fun hsel => ?_)
  refine JT.take (i := 0) (v := (SlV.sub ((Enc.int .u8)).sz (SlV.mk (some ⟨b7, 0, none⟩) 65 65) (33 : Int) ((65 : Nat) : Int)).v) hsel rfl (QV.sliceB Try.underlying108 tk_5 rfl rfl rfl (by decide)) rfl rfl rfl [1, 2, 3] rfl rfl ?_
  refine JT.only (i := 1) (d := some 11) rfl (MV.ofQV (v := (SlV.sub ((Enc.int .u8)).sz (SlV.mk (some ⟨b5, 0, none⟩) 32 32) (0 : Int) ((32 : Nat) : Int)).v) (QV.sliceB Try.underlying41 tk_5 rfl rfl rfl (by decide))) rfl rfl rfl ?_
  rintro _ _ ⟨rfl, rfl⟩
  refine ⟨fun _ => ⟨[1, 2, 3], rfl, rfl⟩, ?_⟩
  refine JT.only (i := 2) (d := some 12) rfl (MV.copyB (ss := [Seg.of (Enc.arr 65 (Enc.int .u8)) (Arr.cp (Arr.set (Arr.rep 65 (0 : Int)) (0 : Int) (1 : Int)) (1 : Int) ((65 : Nat) : Int) (subL (x1).l (0 : Int) ((32 : Nat) : Int)))]) (xs := (Arr.cp (Arr.set (Arr.rep 65 (0 : Int)) (0 : Int) (1 : Int)) (1 : Int) ((65 : Nat) : Int) (subL (x1).l (0 : Int) ((32 : Nat) : Int)))) (l := (33 : Int)) (h := ((65 : Nat) : Int)) 0 0 rfl (Rdg.ofDrv ((Drv.arr (ss := [Seg.of (Enc.arr 32 (Enc.int .u8)) x2]) 2 0 rfl rfl rfl rfl).subV (by rw [Arr.h]; exact (show 0 ≤ (0 : Int) ∧ (0 : Int) ≤ ((32 : Nat) : Int) ∧ ((32 : Nat) : Int) ≤ ((32 : Nat) : Int) from by decide)))) Try.underlying22 tk_5 rfl rfl rfl rfl (show 0 ≤ (33 : Int) ∧ (33 : Int) ≤ ((65 : Nat) : Int) ∧ ((65 : Nat) : Int) ≤ ((65 : Nat) : Int) from by decide)) rfl rfl rfl ?_
  rintro _ _ ⟨rfl, rfl⟩
  refine ⟨fun _ => ⟨[1, 2, 3], rfl, rfl⟩, ?_⟩
  refine JT.grow [Asr.blk b7 108 [Seg.of (Enc.arr 65 (Enc.int .u8)) (Arr.cp (Arr.cp (Arr.set (Arr.rep 65 (0 : Int)) (0 : Int) (1 : Int)) (1 : Int) ((65 : Nat) : Int) (subL (x1).l (0 : Int) ((32 : Nat) : Int))) (33 : Int) ((65 : Nat) : Int) (subL (x2).l (0 : Int) ((32 : Nat) : Int)))], Asr.blk b6 41 [Seg.of (Enc.arr 32 (Enc.int .u8)) (Arr.rep 32 (0 : Int))], Asr.blk b5 41 [Seg.of (Enc.arr 32 (Enc.int .u8)) x2], Asr.blk b4 41 [Seg.of (Enc.arr 32 (Enc.int .u8)) x1]] [1, 2, 3] rfl rfl ?_
  refine JT.nil ?_
  refine QJ.then_normal ?_
  refine JC.seq ?_
  refine JC.region ?_
  refine JL.val (v := (SlV.sub ((Enc.int .u8)).sz (SlV.mk (some ⟨b7, 0, none⟩) 65 65) (0 : Int) ((65 : Nat) : Int)).v) (QV.sliceB Try.underlying108 tk_5 rfl rfl rfl (by decide)) rfl rfl rfl ?_
  obtain ⟨y8, hc9, hm⟩ := bind_inv hm
  refine JL.mv (d := some 14) (MV.call (Lo := []) (Lr := [Asr.blk b7 108 [Seg.of (Enc.arr 65 (Enc.int .u8)) (Arr.cp (Arr.cp (Arr.set (Arr.rep 65 (0 : Int)) (0 : Int) (1 : Int)) (1 : Int) ((65 : Nat) : Int) (subL (x1).l (0 : Int) ((32 : Nat) : Int))) (33 : Int) ((65 : Nat) : Int) (subL (x2).l (0 : Int) ((32 : Nat) : Int)))], Asr.blk b6 41 [Seg.of (Enc.arr 32 (Enc.int .u8)) (Arr.rep 32 (0 : Int))], Asr.blk b5 41 [Seg.of (Enc.arr 32 (Enc.int .u8)) x2], Asr.blk b4 41 [Seg.of (Enc.arr 32 (Enc.int .u8)) x1]]) (F32.spec ((SlV.sub ((Enc.int .u8)).sz (SlV.mk (some ⟨b7, 0, none⟩) 65 65) (0 : Int) ((65 : Nat) : Int))) ((subL ((Arr.cp (Arr.cp (Arr.set (Arr.rep 65 (0 : Int)) (0 : Int) (1 : Int)) (1 : Int) ((65 : Nat) : Int) (subL (x1).l (0 : Int) ((32 : Nat) : Int))) (33 : Int) ((65 : Nat) : Int) (subL (x2).l (0 : Int) ((32 : Nat) : Int)))).l (0 : Int) ((65 : Nat) : Int))) _ hc9) rfl Try.func32 rfl rfl rfl [] [0, 1, 2, 3] rfl rfl rfl ⟨((Drv.arr (ss := [Seg.of (Enc.arr 65 (Enc.int .u8)) (Arr.cp (Arr.cp (Arr.set (Arr.rep 65 (0 : Int)) (0 : Int) (1 : Int)) (1 : Int) ((65 : Nat) : Int) (subL (x1).l (0 : Int) ((32 : Nat) : Int))) (33 : Int) ((65 : Nat) : Int) (subL (x2).l (0 : Int) ((32 : Nat) : Int)))]) 0 0 rfl rfl rfl rfl).subV (by rw [Arr.h]; exact (show 0 ≤ (0 : Int) ∧ (0 : Int) ≤ ((65 : Nat) : Int) ∧ ((65 : Nat) : Int) ≤ ((65 : Nat) : Int) from by decide))), trivial⟩) rfl rfl rfl ?_
  rintro _ _ ⟨_, ⟨rfl, rfl⟩, rfl⟩
  refine JL.mv (d := none) (MV.store (ss := [Seg.of (Enc.arr 32 (Enc.int .u8)) (Arr.rep 32 (0 : Int))]) 1 0 1 [Seg.of (Enc.arr 32 (Enc.int .u8)) y8] rfl tk_41 rfl rfl rfl rfl (fun w hs => ⟨rfl, one_of _ _, trivial⟩)) rfl rfl rfl ?_
  rintro _ _ ⟨rfl, rfl⟩
  refine JL.nil ?_
  refine QJ.then_normal ?_
  refine JC.ret ?_
  obtain rfl := Option.some.inj hm
  exact QJ.body (vs := [.agg (((Enc.arr 32 (Enc.int .u8))).enc y8).toArray]) (.inl rfl) rfl (ResVs.cons (ResV.cell (d := none) (ty := 0) (ps := "") (af := #[]) (g := none) rfl (QV.eq (QV.loadN (ss := [Seg.of (Enc.arr 32 (Enc.int .u8)) y8]) 1 0 1 rfl tk_41 rfl rfl rfl rfl) rfl)) ResVs.nil) [] rfl rfl (.inr trivial) ⟨rfl, rfl⟩

/-! ### 44: drogher/merkle.Root -/
noncomputable def F44.g (recM : (List (Arr Int 32)) → Option (Arr Int 32)) (x2 : List (Arr Int 32)) : Option (Arr Int 32) :=
  (if ((x2).length : Int) = (0 : Int) then ((F32.m (([] : List Int))).bind fun y7 => some y7) else (if ((x2).length : Int) = (1 : Int) then (if 0 ≤ (0 : Int) ∧ (0 : Int) < ((x2).length : Int) then some (gd x2 (0 : Int)) else none) else ((F76.m (((x2).length : Int))).bind fun y11 => (if 0 ≤ (0 : Int) ∧ (0 : Int) ≤ y11 ∧ y11 ≤ ((x2).length : Int) then (if 0 ≤ y11 ∧ y11 ≤ ((x2).length : Int) ∧ ((x2).length : Int) ≤ ((x2).length : Int) then ((recM ((subL x2 (0 : Int) y11))).bind fun y15 => ((recM ((subL x2 y11 ((x2).length : Int)))).bind fun y17 => ((F47.m (y15) (y17)).bind fun y19 => some y19))) else none) else none))))
noncomputable def F44.mF : Nat → (List (Arr Int 32)) → Option (Arr Int 32)
  | 0 => fun _ => none
  | n + 1 => fun x2 => F44.g (F44.mF n) x2
noncomputable def F44.m (x2 : List (Arr Int 32)) : Option (Arr Int 32) := evt (fun n => F44.mF n x2)
set_option maxRecDepth 100000 in
set_option maxHeartbeats 4000000 in
theorem F44.specG (recM : (List (Arr Int 32)) → Option (Arr Int 32)) (ih : ∀ (s1 : SlV) (x2 : List (Arr Int 32)) (r : (Arr Int 32)) (_hm : recM x2 = some r), Ctr Try.prog false 44 [s1.v] [Asr.vw (Enc.arr 32 (Enc.int .u8)) (s1.v) x2] (fun v L' => v = .agg (((Enc.arr 32 (Enc.int .u8))).enc r).toArray ∧ L' = [])) (s1 : SlV) (x2 : List (Arr Int 32)) (r : (Arr Int 32)) (hm : F44.g recM x2 = some r) :
    Ctr Try.prog false 44 [s1.v] [Asr.vw (Enc.arr 32 (Enc.int .u8)) (s1.v) x2] (fun v L' => v = .agg (((Enc.arr 32 (Enc.int .u8))).enc r).toArray ∧ L' = []) := by
  refine Ctr.intro (n := 26) (env := [(0, s1.v)]) Try.func44 rfl rfl rfl rfl (fun c => ?_)
  unfold F44.g at hm
  refine JC.seq ?_
  refine JC.region ?_
  refine JL.mv (d := some 2) (MV.alloc [Seg.of (Enc.arr 32 (Enc.int .u8)) (Arr.rep 32 (0 : Int))] z_41 rfl) rfl rfl rfl ?_
  rintro _ _ ⟨b5, rfl, rfl⟩
  refine JL.nil ?_
  refine QJ.then_normal ?_
  refine JC.seq ?_
  refine JC.seq ?_
  refine JC.region ?_
  refine JL.val (v := s1.v) (QV.move rfl) rfl rfl rfl ?_
  refine JL.val (v := .int .i64 ((x2).length : Int)) (QV.len (Rdg.vw 1 rfl) Try.underlying57 rfl) rfl rfl rfl ?_
  refine JL.nil ?_
  refine QJ.then_normal ?_
  refine JC.block ?_
  refine JC.seq ?_
  refine JC.region ?_
  refine JL.val (v := .bool (decide (((x2).length : Int) = (0 : Int)))) (QV.eql rfl rfl) rfl rfl rfl ?_
  refine JL.val (v := .bool (decide (((x2).length : Int) = (0 : Int)))) (QV.assign rfl) rfl rfl rfl ?_
  refine JL.nil ?_
  refine QJ.then_normal ?_
  rcases ite_inv hm with ⟨h6, hm⟩ | ⟨h6, hm⟩
  ·
    refine JC.condT' rfl (decide_eq_true h6) ?_
    refine JC.seq ?_
    refine JC.region ?_
    refine JL.ent (fun _ hs => hs.nil 5 (Enc.int .u8)) ?_
    obtain ⟨y7, hc8, hm⟩ := bind_inv hm
    refine JL.mv (d := some 8) (MV.call (Lo := []) (Lr := [Asr.of 5 (Enc.int .u8) (SlV.nil.v) ([] : List Int), Asr.blk b5 41 [Seg.of (Enc.arr 32 (Enc.int .u8)) (Arr.rep 32 (0 : Int))], Asr.vw (Enc.arr 32 (Enc.int .u8)) (s1.v) x2]) (F32.spec (SlV.nil) (([] : List Int)) _ hc8) rfl Try.func32 rfl rfl rfl [] [0, 1, 2] rfl rfl rfl ⟨(Drv.of 0 rfl), trivial⟩) rfl rfl rfl ?_
    rintro _ _ ⟨_, ⟨rfl, rfl⟩, rfl⟩
    refine JL.mv (d := none) (MV.store (ss := [Seg.of (Enc.arr 32 (Enc.int .u8)) (Arr.rep 32 (0 : Int))]) 1 0 1 [Seg.of (Enc.arr 32 (Enc.int .u8)) y7] rfl tk_41 rfl rfl rfl rfl (fun w hs => ⟨rfl, one_of _ _, trivial⟩)) rfl rfl rfl ?_
    rintro _ _ ⟨rfl, rfl⟩
    refine JL.nil ?_
    refine QJ.then_normal ?_
    refine JC.ret ?_
    refine QJ.block_ret ?_
    refine QJ.then_ret ?_
    obtain rfl := Option.some.inj hm
    exact QJ.body (vs := [.agg (((Enc.arr 32 (Enc.int .u8))).enc y7).toArray]) (.inl rfl) rfl (ResVs.cons (ResV.cell (d := none) (ty := 0) (ps := "") (af := #[]) (g := none) rfl (QV.eq (QV.loadN (ss := [Seg.of (Enc.arr 32 (Enc.int .u8)) y7]) 1 0 1 rfl tk_41 rfl rfl rfl rfl) rfl)) ResVs.nil) [] rfl rfl (.inr trivial) ⟨rfl, rfl⟩
  ·
    refine JC.condF' rfl (decide_eq_false h6) ?_
    refine JC.seq ?_
    refine JC.region ?_
    refine JL.val (v := .bool (decide (((x2).length : Int) = (1 : Int)))) (QV.eql rfl rfl) rfl rfl rfl ?_
    refine JL.val (v := .bool (decide (((x2).length : Int) = (1 : Int)))) (QV.assign rfl) rfl rfl rfl ?_
    refine JL.nil ?_
    refine QJ.then_normal ?_
    rcases ite_inv hm with ⟨h9, hm⟩ | ⟨h9, hm⟩
    ·
      refine JC.condT' rfl (decide_eq_true h9) ?_
      refine JC.seq ?_
      refine JC.region ?_
      refine JL.val (v := s1.v) (QV.move rfl) rfl rfl rfl ?_
      obtain ⟨h10, hm⟩ := guard_inv hm
      refine JL.val (v := .pointer (some (elA (s1.v) (Int.toNat (0 : Int) * ((Enc.arr 32 (Enc.int .u8))).sz)))) (QV.indexA (Rdg.vw 1 rfl) Try.underlying57 tk_41 rfl rfl h10) rfl rfl rfl ?_
      refine JL.val (v := .agg (((Enc.arr 32 (Enc.int .u8))).enc (gd x2 (0 : Int))).toArray) (QV.eq (QV.elN (Rdg.vw 1 rfl) tk_41 rfl h10) rfl) rfl rfl rfl ?_
      refine JL.mv (d := none) (MV.store (ss := [Seg.of (Enc.arr 32 (Enc.int .u8)) (Arr.rep 32 (0 : Int))]) 0 0 1 [Seg.of (Enc.arr 32 (Enc.int .u8)) (gd x2 (0 : Int))] rfl tk_41 rfl rfl rfl rfl (fun w hs => ⟨rfl, one_of _ _, trivial⟩)) rfl rfl rfl ?_
      rintro _ _ ⟨rfl, rfl⟩
      refine JL.nil ?_
      refine QJ.then_normal ?_
      refine JC.ret ?_
      refine QJ.block_ret ?_
      refine QJ.then_ret ?_
      obtain rfl := Option.some.inj hm
      exact QJ.body (vs := [.agg (((Enc.arr 32 (Enc.int .u8))).enc (gd x2 (0 : Int))).toArray]) (.inl rfl) rfl (ResVs.cons (ResV.cell (d := none) (ty := 0) (ps := "") (af := #[]) (g := none) rfl (QV.eq (QV.loadN (ss := [Seg.of (Enc.arr 32 (Enc.int .u8)) (gd x2 (0 : Int))]) 0 0 1 rfl tk_41 rfl rfl rfl rfl) rfl)) ResVs.nil) [] rfl rfl (.inr trivial) ⟨rfl, rfl⟩
    ·
      refine JC.condF' rfl (decide_eq_false h9) ?_
      refine JC.skip ?_
      refine QJ.block_normal ?_
      refine QJ.then_normal ?_
      refine JC.seq ?_
      refine JC.region ?_
      refine JL.val (v := s1.v) (QV.move rfl) rfl rfl rfl ?_
      refine JL.val (v := .int .i64 ((x2).length : Int)) (QV.len (Rdg.vw 1 rfl) Try.underlying57 rfl) rfl rfl rfl ?_
      obtain ⟨y11, hc12, hm⟩ := bind_inv hm
      refine JL.mv (d := some 16) (MV.call (Lo := []) (Lr := [Asr.blk b5 41 [Seg.of (Enc.arr 32 (Enc.int .u8)) (Arr.rep 32 (0 : Int))], Asr.vw (Enc.arr 32 (Enc.int .u8)) (s1.v) x2]) (F76.spec (((x2).length : Int)) _ hc12) rfl Try.func76 rfl rfl rfl [] [0, 1] rfl rfl rfl trivial) rfl rfl rfl ?_
      rintro _ _ ⟨_, ⟨rfl, rfl⟩, rfl⟩
      refine JL.val (v := .int .i64 y11) (QV.assign rfl) rfl rfl rfl ?_
      refine JL.nil ?_
      refine QJ.then_normal ?_
      refine JC.seq ?_
      refine JC.regionT [Asr.vw (Enc.arr 32 (Enc.int .u8)) (s1.v) x2] (fun t => false) [(0, true), (1, true), (2, true), (4, true), (5, true), (6, true), (3, false), (7, false), (8, false), (9, false)] (by kernel_rfl) (by kernel_rfl) (by kernel_rfl) rfl (fun hsel => ?_)
      refine JT.take (i := 0) (v := s1.v) hsel rfl (QV.move rfl) rfl rfl rfl [1] rfl rfl ?_
      refine JT.take (i := 1) (v := .int .i64 y11) hsel rfl (QV.move rfl) rfl rfl rfl [1] rfl rfl ?_
      obtain ⟨h13, hm⟩ := guard_inv hm
      refine JT.take (i := 2) (v := (SlV.sub ((Enc.arr 32 (Enc.int .u8))).sz s1 (0 : Int) y11).v) hsel rfl (QV.sliceV (Rdg.vw 0 rfl) Try.underlying57 tk_41 rfl rfl rfl h13) rfl rfl rfl [1] rfl rfl ?_
      refine JT.take (i := 4) (v := s1.v) hsel rfl (QV.move rfl) rfl rfl rfl [1] rfl rfl ?_
      refine JT.take (i := 5) (v := .int .i64 y11) hsel rfl (QV.move rfl) rfl rfl rfl [1] rfl rfl ?_
      obtain ⟨h14, hm⟩ := guard_inv hm
      refine JT.take (i := 6) (v := (SlV.sub ((Enc.arr 32 (Enc.int .u8))).sz s1 y11 ((x2).length : Int)).v) hsel rfl (QV.sliceV (Rdg.vw 0 rfl) Try.underlying57 tk_41 rfl rfl rfl h14) rfl rfl rfl [1] rfl rfl ?_
      obtain ⟨y15, hc16, hm⟩ := bind_inv hm
      refine JT.only (i := 3) (d := some 20) rfl (MV.call (Lo := []) (Lr := [Asr.blk b5 41 [Seg.of (Enc.arr 32 (Enc.int .u8)) (Arr.rep 32 (0 : Int))], Asr.vw (Enc.arr 32 (Enc.int .u8)) (s1.v) x2]) (ih ((SlV.sub ((Enc.arr 32 (Enc.int .u8))).sz s1 (0 : Int) y11)) ((subL x2 (0 : Int) y11)) _ hc16) rfl Try.func44 rfl rfl rfl [] [0, 1] rfl rfl rfl ⟨((Drv.vw 1 rfl).subV h13), trivial⟩) rfl rfl rfl ?_
      rintro _ _ ⟨_, ⟨rfl, rfl⟩, rfl⟩
      refine ⟨fun _ => ⟨[1], rfl, rfl⟩, ?_⟩
      obtain ⟨y17, hc18, hm⟩ := bind_inv hm
      refine JT.only (i := 7) (d := some 24) rfl (MV.call (Lo := []) (Lr := [Asr.blk b5 41 [Seg.of (Enc.arr 32 (Enc.int .u8)) (Arr.rep 32 (0 : Int))], Asr.vw (Enc.arr 32 (Enc.int .u8)) (s1.v) x2]) (ih ((SlV.sub ((Enc.arr 32 (Enc.int .u8))).sz s1 y11 ((x2).length : Int))) ((subL x2 y11 ((x2).length : Int))) _ hc18) rfl Try.func44 rfl rfl rfl [] [0, 1] rfl rfl rfl ⟨((Drv.vw 1 rfl).subV h14), trivial⟩) rfl rfl rfl ?_
      rintro _ _ ⟨_, ⟨rfl, rfl⟩, rfl⟩
      refine ⟨fun _ => ⟨[1], rfl, rfl⟩, ?_⟩
      obtain ⟨y19, hc20, hm⟩ := bind_inv hm
      refine JT.only (i := 8) (d := some 25) rfl (MV.call (Lo := []) (Lr := [Asr.blk b5 41 [Seg.of (Enc.arr 32 (Enc.int .u8)) (Arr.rep 32 (0 : Int))], Asr.vw (Enc.arr 32 (Enc.int .u8)) (s1.v) x2]) (F47.spec (y15) (y17) _ hc20) rfl Try.func47 rfl rfl rfl [] [0, 1] rfl rfl rfl trivial) rfl rfl rfl ?_
      rintro _ _ ⟨_, ⟨rfl, rfl⟩, rfl⟩
      refine ⟨fun _ => ⟨[1], rfl, rfl⟩, ?_⟩
      refine JT.only (i := 9) (d := none) rfl (MV.store (ss := [Seg.of (Enc.arr 32 (Enc.int .u8)) (Arr.rep 32 (0 : Int))]) 0 0 1 [Seg.of (Enc.arr 32 (Enc.int .u8)) y19] rfl tk_41 rfl rfl rfl rfl (fun w hs => ⟨rfl, one_of _ _, trivial⟩)) rfl rfl rfl ?_
      rintro _ _ ⟨rfl, rfl⟩
      refine ⟨fun _ => ⟨[1], rfl, rfl⟩, ?_⟩
      refine JT.grow [Asr.blk b5 41 [Seg.of (Enc.arr 32 (Enc.int .u8)) y19], Asr.vw (Enc.arr 32 (Enc.int .u8)) (s1.v) x2] [1] rfl rfl ?_
      refine JT.nil ?_
      refine QJ.then_normal ?_
      refine JC.ret ?_
      obtain rfl := Option.some.inj hm
      exact QJ.body (vs := [.agg (((Enc.arr 32 (Enc.int .u8))).enc y19).toArray]) (.inl rfl) rfl (ResVs.cons (ResV.cell (d := none) (ty := 0) (ps := "") (af := #[]) (g := none) rfl (QV.eq (QV.loadN (ss := [Seg.of (Enc.arr 32 (Enc.int .u8)) y19]) 0 0 1 rfl tk_41 rfl rfl rfl rfl) rfl)) ResVs.nil) [] rfl rfl (.inr trivial) ⟨rfl, rfl⟩
theorem F44.specF : ∀ (n : Nat) (s1 : SlV) (x2 : List (Arr Int 32)) (r : (Arr Int 32)) (_hm : F44.mF n x2 = some r), Ctr Try.prog false 44 [s1.v] [Asr.vw (Enc.arr 32 (Enc.int .u8)) (s1.v) x2] (fun v L' => v = .agg (((Enc.arr 32 (Enc.int .u8))).enc r).toArray ∧ L' = [])
  | 0, s1, x2, r, hm => by cases hm
  | n + 1, s1, x2, r, hm => F44.specG (F44.mF n) (F44.specF n) s1 x2 r hm
theorem F44.spec (s1 : SlV) (x2 : List (Arr Int 32)) (r : (Arr Int 32)) (hm : F44.m x2 = some r) :
    Ctr Try.prog false 44 [s1.v] [Asr.vw (Enc.arr 32 (Enc.int .u8)) (s1.v) x2] (fun v L' => v = .agg (((Enc.arr 32 (Enc.int .u8))).enc r).toArray ∧ L' = []) := by
  obtain ⟨n, hn⟩ := evt_some hm
  exact F44.specF n s1 x2 r hn

/-! ### 77: drogher/drogherref21.half -/
noncomputable def F77.j1  (d3 : Int) : Option Int :=
  some d3
noncomputable def F77.b1 (x1 : Int) : Int → Option (Int ⊕ Int)
  | d4 => (if d4 < (IntKind.wrap .i64 (x1 - d4)) then some (.inl (IntKind.wrap .i64 ((2 : Int) * d4))) else some (.inr d4))
noncomputable def F77.m (x1 : Int) : Option Int :=
  ((loop (F77.b1 x1) (1 : Int)).bind fun y => match y with | d3 => F77.j1 (d3))
set_option maxRecDepth 100000 in
set_option maxHeartbeats 4000000 in
theorem F77.spec (x1 : Int) (r : Int) (hm : F77.m x1 = some r) :
    Ctr Try.prog false 77 [.int .i64 x1] [] (fun v L' => v = .int .i64 r ∧ L' = []) := by
  refine Ctr.intro (n := 12) (env := [(0, .int .i64 x1)]) Try.func77 rfl rfl rfl rfl (fun c => ?_)
  unfold F77.m at hm
  refine JC.seq ?_
  refine JC.region ?_
  refine JL.val (v := .int .i64 (0 : Int)) (QV.assign rfl) rfl rfl rfl ?_
  refine JL.nil ?_
  refine QJ.then_normal ?_
  refine JC.seq ?_
  refine JC.region ?_
  refine JL.val (v := .int .i64 (1 : Int)) (QV.assign rfl) rfl rfl rfl ?_
  refine JL.nil ?_
  refine QJ.then_normal ?_
  refine JC.seq ?_
  refine JC.cutK (Y := Int × Unit) (fun y => match y with | (d3, _) => F77.j1 (d3) = some r) (fun y => match y with | (d3, _) => [(3, .int .i64 d3)]) (fun y => match y with | (d3, _) => []) ?_ ?_
  ·
    rintro ⟨d3, ⟨⟩⟩ hm
    unfold F77.j1 at hm
    show QJ _ _ [(3, .int .i64 d3)] [] _ _
    refine QJ.then_normal ?_
    refine JC.seq ?_
    refine JC.region ?_
    refine JL.val (v := .int .i64 d3) (QV.move rfl) rfl rfl rfl ?_
    refine JL.val (v := .int .i64 d3) (QV.assign rfl) rfl rfl rfl ?_
    refine JL.nil ?_
    refine QJ.then_normal ?_
    refine JC.ret ?_
    obtain rfl := Option.some.inj hm
    exact QJ.body (vs := [.int .i64 d3]) (.inl rfl) rfl (ResVs.cons (ResV.tmp rfl) ResVs.nil) [] rfl rfl (.inr trivial) ⟨rfl, rfl⟩
  ·
    refine JC.block ?_
    obtain ⟨y6, hl7, hmo8⟩ := bind_inv hm
    refine JC.loop (F77.b1 x1) (fun x z => match x, z with | d4, _ => [(0, .int .i64 x1), (3, .int .i64 d4)]) (fun x z => match x, z with | d4, _ => []) (1 : Int) () y6 hl7 [] (by exact ⟨rfl, rfl, trivial⟩) rfl rfl ?_
    rintro d4 ⟨⟩ s9 hm
    unfold F77.b1 at hm
    dsimp only at hm
    show JC _ _ _ [(0, .int .i64 x1), (3, .int .i64 d4)] [] _ _
    refine JC.seq ?_
    refine JC.seq ?_
    refine JC.region ?_
    refine JL.val (v := .int .i64 d4) (QV.move rfl) rfl rfl rfl ?_
    refine JL.val (v := .int .i64 x1) (QV.move rfl) rfl rfl rfl ?_
    refine JL.val (v := .int .i64 d4) (QV.move rfl) rfl rfl rfl ?_
    refine JL.val (v := .int .i64 (IntKind.wrap .i64 (x1 - d4))) (QV.sub rfl rfl) rfl rfl rfl ?_
    refine JL.val (v := .bool (decide (d4 < (IntKind.wrap .i64 (x1 - d4))))) (QV.lss rfl rfl) rfl rfl rfl ?_
    refine JL.nil ?_
    refine QJ.then_normal ?_
    rcases ite_inv hm with ⟨h10, hm⟩ | ⟨h10, hm⟩
    ·
      refine JC.condT' rfl (decide_eq_true h10) ?_
      refine JC.skip ?_
      refine QJ.then_normal ?_
      refine JC.block ?_
      refine JC.region ?_
      refine JL.val (v := .int .i64 d4) (QV.move rfl) rfl rfl rfl ?_
      refine JL.val (v := .int .i64 (IntKind.wrap .i64 ((2 : Int) * d4))) (QV.mul rfl rfl) rfl rfl rfl ?_
      refine JL.val (v := .int .i64 (IntKind.wrap .i64 ((2 : Int) * d4))) (QV.assign rfl) rfl rfl rfl ?_
      refine JL.nil ?_
      refine QJ.block_normal ?_
      obtain rfl := Option.some.inj hm
      exact QJ.round_on (IntKind.wrap .i64 ((2 : Int) * d4)) () [] (by exact ⟨rfl, rfl, trivial⟩) rfl rfl
    ·
      refine JC.condF' rfl (decide_eq_false h10) ?_
      refine JC.exit ?_
      refine QJ.then_exit ?_
      obtain rfl := Option.some.inj hm
      refine QJ.round_exit (fun hy => ?_)
      subst hy
      refine QJ.block_hit ?_
      exact QJ.cut_normal (d4, ()) hmo8 [] (by exact ⟨rfl, trivial⟩) rfl rfl

/-! ### 78: drogher/drogherref21.Text -/
noncomputable def F78.m (x1 : (Arr Int 32)) (x2 : (Arr Int 32)) : Option (List Int) :=
  ((F37.m ([[(1 : Int)], (subL (x1).l (0 : Int) ((32 : Nat) : Int)), (subL (x2).l (0 : Int) ((32 : Nat) : Int))])).bind fun y9 => some y9)
set_option maxRecDepth 100000 in
set_option maxHeartbeats 4000000 in
theorem F78.spec (x1 : (Arr Int 32)) (x2 : (Arr Int 32)) (r : (List Int)) (hm : F78.m x1 x2 = some r) :
    Ctr Try.prog false 78 [.agg (((Enc.arr 32 (Enc.int .u8))).enc x1).toArray, .agg (((Enc.arr 32 (Enc.int .u8))).enc x2).toArray] [] (fun v L' => ∃ (g3 : SlV), v = g3.v ∧ L' = [Asr.of 5 (Enc.int .u8) (g3.v) r]) := by
  refine Ctr.intro (n := 10) (env := [(0, .agg (((Enc.arr 32 (Enc.int .u8))).enc x1).toArray), (1, .agg (((Enc.arr 32 (Enc.int .u8))).enc x2).toArray)]) Try.func78 rfl rfl rfl rfl (fun c => ?_)
  unfold F78.m at hm
  refine JC.seq ?_
  refine JC.region ?_
  refine JL.mv (d := some 2) (MV.box [Seg.of (Enc.arr 32 (Enc.int .u8)) x1] rfl (fun w hs => rfl)) rfl rfl rfl ?_
  rintro _ _ ⟨b5, rfl, rfl⟩
  refine JL.mv (d := some 3) (MV.box [Seg.of (Enc.arr 32 (Enc.int .u8)) x2] rfl (fun w hs => rfl)) rfl rfl rfl ?_
  rintro _ _ ⟨b6, rfl, rfl⟩
  refine JL.ent (fun _ hs => hs.nil 5 (Enc.int .u8)) ?_
  refine JL.val (v := SlV.nil.v) (QV.assign rfl) rfl rfl rfl ?_
  refine JL.nil ?_
  refine QJ.then_normal ?_
  refine JC.seq ?_
  refine JC.regionT [Asr.of 5 (Enc.int .u8) (SlV.nil.v) ([] : List Int), Asr.blk b6 39 [Seg.of (Enc.arr 32 (Enc.int .u8)) x2], Asr.blk b5 39 [Seg.of (Enc.arr 32 (Enc.int .u8)) x1]] (fun t => false) [(1, true), (2, true), (0, false), (3, false), (4, false), (5, false)] (by kernel_rfl) (by kernel_rfl) (by kernel_rfl) rfl (fun hsel => ?_)
  refine JT.take (i := 1) (v := (SlV.sub ((Enc.int .u8)).sz (SlV.mk (some ⟨b5, 0, none⟩) 32 32) (0 : Int) ((32 : Nat) : Int)).v) hsel rfl (QV.sliceB Try.underlying39 tk_5 rfl rfl rfl (by decide)) rfl rfl rfl [0, 1, 2] rfl rfl ?_
  refine JT.take (i := 2) (v := (SlV.sub ((Enc.int .u8)).sz (SlV.mk (some ⟨b6, 0, none⟩) 32 32) (0 : Int) ((32 : Nat) : Int)).v) hsel rfl (QV.sliceB Try.underlying39 tk_5 rfl rfl rfl (by decide)) rfl rfl rfl [0, 1, 2] rfl rfl ?_
  refine JT.only (i := 0) (d := some 5) rfl (MV.lit (E := (Enc.int .u8)) (vals := [(0, .int .u8 (1 : Int))]) [(1 : Int)] Try.underlying22 zi_5 rfl (by decide) rfl (by kernel_rfl)) rfl rfl rfl ?_
  rintro _ _ ⟨z7, rfl, rfl⟩
  refine ⟨fun _ => ⟨[1, 2, 3], rfl, rfl⟩, ?_⟩
  refine JT.grow [Asr.of 5 (Enc.int .u8) (z7.v) [(1 : Int)], Asr.of 5 (Enc.int .u8) (SlV.nil.v) ([] : List Int), Asr.blk b6 39 [Seg.of (Enc.arr 32 (Enc.int .u8)) x2], Asr.blk b5 39 [Seg.of (Enc.arr 32 (Enc.int .u8)) x1]] [1, 2, 3] rfl rfl ?_
  refine JT.only (i := 3) (d := some 8) rfl (MV.lit (E := (NE.sl (Enc.int .u8)).E) (vals := [(0, z7.v), (1, (SlV.sub ((Enc.int .u8)).sz (SlV.mk (some ⟨b5, 0, none⟩) 32 32) (0 : Int) ((32 : Nat) : Int)).v), (2, (SlV.sub ((Enc.int .u8)).sz (SlV.mk (some ⟨b6, 0, none⟩) 32 32) (0 : Int) ((32 : Nat) : Int)).v)]) [(z7, [(1 : Int)]), ((SlV.sub ((Enc.int .u8)).sz (SlV.mk (some ⟨b5, 0, none⟩) 32 32) (0 : Int) ((32 : Nat) : Int)), (subL (x1).l (0 : Int) ((32 : Nat) : Int))), ((SlV.sub ((Enc.int .u8)).sz (SlV.mk (some ⟨b6, 0, none⟩) 32 32) (0 : Int) ((32 : Nat) : Int)), (subL (x2).l (0 : Int) ((32 : Nat) : Int)))] Try.underlying50 zi_22 rfl (by decide) rfl (by kernel_rfl)) rfl rfl rfl ?_
  rintro _ _ ⟨z8, rfl, rfl⟩
  refine ⟨fun _ => ⟨[1, 2, 3, 4], rfl, rfl⟩, ?_⟩
  refine JT.grow [Asr.of 22 (NE.sl (Enc.int .u8)).E (z8.v) [(z7, [(1 : Int)]), ((SlV.sub ((Enc.int .u8)).sz (SlV.mk (some ⟨b5, 0, none⟩) 32 32) (0 : Int) ((32 : Nat) : Int)), (subL (x1).l (0 : Int) ((32 : Nat) : Int))), ((SlV.sub ((Enc.int .u8)).sz (SlV.mk (some ⟨b6, 0, none⟩) 32 32) (0 : Int) ((32 : Nat) : Int)), (subL (x2).l (0 : Int) ((32 : Nat) : Int)))], Asr.of 5 (Enc.int .u8) (z7.v) [(1 : Int)], Asr.of 5 (Enc.int .u8) (SlV.nil.v) ([] : List Int), Asr.blk b6 39 [Seg.of (Enc.arr 32 (Enc.int .u8)) x2], Asr.blk b5 39 [Seg.of (Enc.arr 32 (Enc.int .u8)) x1]] [1, 2, 3, 4] rfl rfl ?_
  obtain ⟨y9, hc10, hm⟩ := bind_inv hm
  refine JT.only (i := 4) (d := some 9) rfl (MV.call (Lo := []) (Lr := [Asr.of 22 (NE.sl (Enc.int .u8)).E (z8.v) [(z7, [(1 : Int)]), ((SlV.sub ((Enc.int .u8)).sz (SlV.mk (some ⟨b5, 0, none⟩) 32 32) (0 : Int) ((32 : Nat) : Int)), (subL (x1).l (0 : Int) ((32 : Nat) : Int))), ((SlV.sub ((Enc.int .u8)).sz (SlV.mk (some ⟨b6, 0, none⟩) 32 32) (0 : Int) ((32 : Nat) : Int)), (subL (x2).l (0 : Int) ((32 : Nat) : Int)))], Asr.of 5 (Enc.int .u8) (z7.v) [(1 : Int)], Asr.of 5 (Enc.int .u8) (SlV.nil.v) ([] : List Int), Asr.blk b6 39 [Seg.of (Enc.arr 32 (Enc.int .u8)) x2], Asr.blk b5 39 [Seg.of (Enc.arr 32 (Enc.int .u8)) x1]]) (F37.spec (z8) ([z7, (SlV.sub ((Enc.int .u8)).sz (SlV.mk (some ⟨b5, 0, none⟩) 32 32) (0 : Int) ((32 : Nat) : Int)), (SlV.sub ((Enc.int .u8)).sz (SlV.mk (some ⟨b6, 0, none⟩) 32 32) (0 : Int) ((32 : Nat) : Int))]) ([[(1 : Int)], (subL (x1).l (0 : Int) ((32 : Nat) : Int)), (subL (x2).l (0 : Int) ((32 : Nat) : Int))]) _ hc10) rfl Try.func37 rfl rfl rfl [] [0, 1, 2, 3, 4] rfl rfl rfl ⟨(Drv.lit (zs := [z7, (SlV.sub ((Enc.int .u8)).sz (SlV.mk (some ⟨b5, 0, none⟩) 32 32) (0 : Int) ((32 : Nat) : Int)), (SlV.sub ((Enc.int .u8)).sz (SlV.mk (some ⟨b6, 0, none⟩) 32 32) (0 : Int) ((32 : Nat) : Int))]) (xs := [[(1 : Int)], (subL (x1).l (0 : Int) ((32 : Nat) : Int)), (subL (x2).l (0 : Int) ((32 : Nat) : Int))]) 0 rfl rfl ⟨(Drv.of 1 rfl), ⟨((Drv.arr (ss := [Seg.of (Enc.arr 32 (Enc.int .u8)) x1]) 4 0 rfl rfl rfl rfl).subV (by rw [Arr.h]; exact (show 0 ≤ (0 : Int) ∧ (0 : Int) ≤ ((32 : Nat) : Int) ∧ ((32 : Nat) : Int) ≤ ((32 : Nat) : Int) from by decide))), ⟨((Drv.arr (ss := [Seg.of (Enc.arr 32 (Enc.int .u8)) x2]) 3 0 rfl rfl rfl rfl).subV (by rw [Arr.h]; exact (show 0 ≤ (0 : Int) ∧ (0 : Int) ≤ ((32 : Nat) : Int) ∧ ((32 : Nat) : Int) ≤ ((32 : Nat) : Int) from by decide))), trivial⟩⟩⟩), trivial⟩) rfl rfl rfl ?_
  rintro _ _ ⟨_, ⟨z11, rfl, rfl⟩, rfl⟩
  refine ⟨fun _ => ⟨[1, 2, 3, 4, 5], rfl, rfl⟩, ?_⟩
  refine JT.grow [Asr.of 5 (Enc.int .u8) (z11.v) y9, Asr.of 22 (NE.sl (Enc.int .u8)).E (z8.v) [(z7, [(1 : Int)]), ((SlV.sub ((Enc.int .u8)).sz (SlV.mk (some ⟨b5, 0, none⟩) 32 32) (0 : Int) ((32 : Nat) : Int)), (subL (x1).l (0 : Int) ((32 : Nat) : Int))), ((SlV.sub ((Enc.int .u8)).sz (SlV.mk (some ⟨b6, 0, none⟩) 32 32) (0 : Int) ((32 : Nat) : Int)), (subL (x2).l (0 : Int) ((32 : Nat) : Int)))], Asr.of 5 (Enc.int .u8) (z7.v) [(1 : Int)], Asr.of 5 (Enc.int .u8) (SlV.nil.v) ([] : List Int), Asr.blk b6 39 [Seg.of (Enc.arr 32 (Enc.int .u8)) x2], Asr.blk b5 39 [Seg.of (Enc.arr 32 (Enc.int .u8)) x1]] [1, 2, 3, 4, 5] rfl rfl ?_
  refine JT.only (i := 5) (d := some 4) rfl (MV.ofQV (v := z11.v) (QV.assign rfl)) rfl rfl rfl ?_
  rintro _ _ ⟨rfl, rfl⟩
  refine ⟨fun _ => ⟨[0, 1, 2, 3, 4, 5], rfl, rfl⟩, ?_⟩
  refine JT.nil ?_
  refine QJ.then_normal ?_
  refine JC.ret ?_
  obtain rfl := Option.some.inj hm
  exact QJ.body (vs := [z11.v]) (.inl rfl) rfl (ResVs.cons (ResV.tmp rfl) ResVs.nil) [0] rfl rfl (.inr ⟨own_of _ _ _ _, trivial⟩) ⟨z11, rfl, rfl⟩

/-! ### 48: drogher/drogherref21.Pair -/
noncomputable def F48.m (x1 : (Arr Int 32)) (x2 : (Arr Int 32)) : Option (Arr Int 32) :=
  ((F78.m (x1) (x2)).bind fun y7 => ((F33.m (y7)).bind fun y10 => some y10))
set_option maxRecDepth 100000 in
set_option maxHeartbeats 4000000 in
theorem F48.spec (x1 : (Arr Int 32)) (x2 : (Arr Int 32)) (r : (Arr Int 32)) (hm : F48.m x1 x2 = some r) :
    Ctr Try.prog false 48 [.agg (((Enc.arr 32 (Enc.int .u8))).enc x1).toArray, .agg (((Enc.arr 32 (Enc.int .u8))).enc x2).toArray] [] (fun v L' => v = .agg (((Enc.arr 32 (Enc.int .u8))).enc r).toArray ∧ L' = []) := by
  refine Ctr.intro (n := 9) (env := [(0, .agg (((Enc.arr 32 (Enc.int .u8))).enc x1).toArray), (1, .agg (((Enc.arr 32 (Enc.int .u8))).enc x2).toArray)]) Try.func48 rfl rfl rfl rfl (fun c => ?_)
  unfold F48.m at hm
  refine JC.seq ?_
  refine JC.region ?_
  refine JL.mv (d := some 2) (MV.box [Seg.of (Enc.arr 32 (Enc.int .u8)) x1] rfl (fun w hs => rfl)) rfl rfl rfl ?_
  rintro _ _ ⟨b4, rfl, rfl⟩
  refine JL.mv (d := some 3) (MV.box [Seg.of (Enc.arr 32 (Enc.int .u8)) x2] rfl (fun w hs => rfl)) rfl rfl rfl ?_
  rintro _ _ ⟨b5, rfl, rfl⟩
  refine JL.mv (d := some 4) (MV.alloc [Seg.of (Enc.arr 32 (Enc.int .u8)) (Arr.rep 32 (0 : Int))] z_39 rfl) rfl rfl rfl ?_
  rintro _ _ ⟨b6, rfl, rfl⟩
  refine JL.nil ?_
  refine QJ.then_normal ?_
  refine JC.seq ?_
  refine JC.region ?_
  refine JL.val (v := .agg (((Enc.arr 32 (Enc.int .u8))).enc x1).toArray) (QV.eq (QV.loadN (ss := [Seg.of (Enc.arr 32 (Enc.int .u8)) x1]) 2 0 1 rfl tk_39 rfl rfl rfl rfl) rfl) rfl rfl rfl ?_
  refine JL.val (v := .agg (((Enc.arr 32 (Enc.int .u8))).enc x2).toArray) (QV.eq (QV.loadN (ss := [Seg.of (Enc.arr 32 (Enc.int .u8)) x2]) 1 0 1 rfl tk_39 rfl rfl rfl rfl) rfl) rfl rfl rfl ?_
  obtain ⟨y7, hc8, hm⟩ := bind_inv hm
  refine JL.mv (d := some 7) (MV.call (Lo := []) (Lr := [Asr.blk b6 39 [Seg.of (Enc.arr 32 (Enc.int .u8)) (Arr.rep 32 (0 : Int))], Asr.blk b5 39 [Seg.of (Enc.arr 32 (Enc.int .u8)) x2], Asr.blk b4 39 [Seg.of (Enc.arr 32 (Enc.int .u8)) x1]]) (F78.spec (x1) (x2) _ hc8) rfl Try.func78 rfl rfl rfl [] [0, 1, 2] rfl rfl rfl trivial) rfl rfl rfl ?_
  rintro _ _ ⟨_, ⟨z9, rfl, rfl⟩, rfl⟩
  obtain ⟨y10, hc11, hm⟩ := bind_inv hm
  refine JL.mv (d := some 8) (MV.call (Lo := []) (Lr := [Asr.of 5 (Enc.int .u8) (z9.v) y7, Asr.blk b6 39 [Seg.of (Enc.arr 32 (Enc.int .u8)) (Arr.rep 32 (0 : Int))], Asr.blk b5 39 [Seg.of (Enc.arr 32 (Enc.int .u8)) x2], Asr.blk b4 39 [Seg.of (Enc.arr 32 (Enc.int .u8)) x1]]) (F33.spec (z9) (y7) _ hc11) rfl Try.func33 rfl rfl rfl [] [0, 1, 2, 3] rfl rfl rfl ⟨(Drv.of 0 rfl), trivial⟩) rfl rfl rfl ?_
  rintro _ _ ⟨_, ⟨rfl, rfl⟩, rfl⟩
  refine JL.mv (d := none) (MV.store (ss := [Seg.of (Enc.arr 32 (Enc.int .u8)) (Arr.rep 32 (0 : Int))]) 1 0 1 [Seg.of (Enc.arr 32 (Enc.int .u8)) y10] rfl tk_39 rfl rfl rfl rfl (fun w hs => ⟨rfl, one_of _ _, trivial⟩)) rfl rfl rfl ?_
  rintro _ _ ⟨rfl, rfl⟩
  refine JL.nil ?_
  refine QJ.then_normal ?_
  refine JC.ret ?_
  obtain rfl := Option.some.inj hm
  exact QJ.body (vs := [.agg (((Enc.arr 32 (Enc.int .u8))).enc y10).toArray]) (.inl rfl) rfl (ResVs.cons (ResV.cell (d := none) (ty := 0) (ps := "") (af := #[]) (g := none) rfl (QV.eq (QV.loadN (ss := [Seg.of (Enc.arr 32 (Enc.int .u8)) y10]) 1 0 1 rfl tk_39 rfl rfl rfl rfl) rfl)) ResVs.nil) [] rfl rfl (.inr trivial) ⟨rfl, rfl⟩

/-! ### 46: drogher/drogherref21.Root -/
noncomputable def F46.g (recM : (List (Arr Int 32)) → Option (Arr Int 32)) (x2 : List (Arr Int 32)) : Option (Arr Int 32) :=
  (if ((x2).length : Int) = (0 : Int) then ((F33.m (([] : List Int))).bind fun y8 => some y8) else (if ((x2).length : Int) = (1 : Int) then (if 0 ≤ (0 : Int) ∧ (0 : Int) < ((x2).length : Int) then some (gd x2 (0 : Int)) else none) else ((F77.m (((x2).length : Int))).bind fun y12 => (if 0 ≤ (0 : Int) ∧ (0 : Int) ≤ y12 ∧ y12 ≤ ((x2).length : Int) then (if 0 ≤ y12 ∧ y12 ≤ ((x2).length : Int) ∧ ((x2).length : Int) ≤ ((x2).length : Int) then ((recM ((subL x2 (0 : Int) y12))).bind fun y16 => ((recM ((subL x2 y12 ((x2).length : Int)))).bind fun y18 => ((F48.m (y16) (y18)).bind fun y20 => some y20))) else none) else none))))
noncomputable def F46.mF : Nat → (List (Arr Int 32)) → Option (Arr Int 32)
  | 0 => fun _ => none
  | n + 1 => fun x2 => F46.g (F46.mF n) x2
noncomputable def F46.m (x2 : List (Arr Int 32)) : Option (Arr Int 32) := evt (fun n => F46.mF n x2)
set_option maxRecDepth 100000 in
set_option maxHeartbeats 4000000 in
theorem F46.specG (recM : (List (Arr Int 32)) → Option (Arr Int 32)) (ih : ∀ (s1 : SlV) (x2 : List (Arr Int 32)) (r : (Arr Int 32)) (_hm : recM x2 = some r), Ctr Try.prog false 46 [s1.v] [Asr.vw (Enc.arr 32 (Enc.int .u8)) (s1.v) x2] (fun v L' => v = .agg (((Enc.arr 32 (Enc.int .u8))).enc r).toArray ∧ L' = [])) (s1 : SlV) (x2 : List (Arr Int 32)) (r : (Arr Int 32)) (hm : F46.g recM x2 = some r) :
    Ctr Try.prog false 46 [s1.v] [Asr.vw (Enc.arr 32 (Enc.int .u8)) (s1.v) x2] (fun v L' => v = .agg (((Enc.arr 32 (Enc.int .u8))).enc r).toArray ∧ L' = []) := by
  refine Ctr.intro (n := 27) (env := [(0, s1.v)]) Try.func46 rfl rfl rfl rfl (fun c => ?_)
  unfold F46.g at hm
  refine JC.seq ?_
  refine JC.region ?_
  refine JL.mv (d := some 2) (MV.alloc [Seg.of (Enc.arr 32 (Enc.int .u8)) (Arr.rep 32 (0 : Int))] z_39 rfl) rfl rfl rfl ?_
  rintro _ _ ⟨b5, rfl, rfl⟩
  refine JL.nil ?_
  refine QJ.then_normal ?_
  refine JC.seq ?_
  refine JC.seq ?_
  refine JC.region ?_
  refine JL.val (v := s1.v) (QV.move rfl) rfl rfl rfl ?_
  refine JL.val (v := .int .i64 ((x2).length : Int)) (QV.len (Rdg.vw 1 rfl) Try.underlying55 rfl) rfl rfl rfl ?_
  refine JL.val (v := .bool (decide (((x2).length : Int) = (0 : Int)))) (QV.eql rfl rfl) rfl rfl rfl ?_
  refine JL.nil ?_
  refine QJ.then_normal ?_
  rcases ite_inv hm with ⟨h6, hm⟩ | ⟨h6, hm⟩
  ·
    refine JC.condT' rfl (decide_eq_true h6) ?_
    refine JC.seq ?_
    refine JC.region ?_
    refine JL.mv (d := some 7) (MV.lit0 (Enc.int .u8) Try.underlying22 (by kernel_rfl)) rfl rfl rfl ?_
    rintro _ _ ⟨z7, rfl, rfl⟩
    obtain ⟨y8, hc9, hm⟩ := bind_inv hm
    refine JL.mv (d := some 8) (MV.call (Lo := []) (Lr := [Asr.of 5 (Enc.int .u8) (z7.v) ([] : List Int), Asr.blk b5 39 [Seg.of (Enc.arr 32 (Enc.int .u8)) (Arr.rep 32 (0 : Int))], Asr.vw (Enc.arr 32 (Enc.int .u8)) (s1.v) x2]) (F33.spec (z7) (([] : List Int)) _ hc9) rfl Try.func33 rfl rfl rfl [] [0, 1, 2] rfl rfl rfl ⟨(Drv.of 0 rfl), trivial⟩) rfl rfl rfl ?_
    rintro _ _ ⟨_, ⟨rfl, rfl⟩, rfl⟩
    refine JL.mv (d := none) (MV.store (ss := [Seg.of (Enc.arr 32 (Enc.int .u8)) (Arr.rep 32 (0 : Int))]) 1 0 1 [Seg.of (Enc.arr 32 (Enc.int .u8)) y8] rfl tk_39 rfl rfl rfl rfl (fun w hs => ⟨rfl, one_of _ _, trivial⟩)) rfl rfl rfl ?_
    rintro _ _ ⟨rfl, rfl⟩
    refine JL.nil ?_
    refine QJ.then_normal ?_
    refine JC.ret ?_
    refine QJ.then_ret ?_
    obtain rfl := Option.some.inj hm
    exact QJ.body (vs := [.agg (((Enc.arr 32 (Enc.int .u8))).enc y8).toArray]) (.inl rfl) rfl (ResVs.cons (ResV.cell (d := none) (ty := 0) (ps := "") (af := #[]) (g := none) rfl (QV.eq (QV.loadN (ss := [Seg.of (Enc.arr 32 (Enc.int .u8)) y8]) 1 0 1 rfl tk_39 rfl rfl rfl rfl) rfl)) ResVs.nil) [] rfl rfl (.inr trivial) ⟨rfl, rfl⟩
  ·
    refine JC.condF' rfl (decide_eq_false h6) ?_
    refine JC.skip ?_
    refine QJ.then_normal ?_
    refine JC.seq ?_
    refine JC.seq ?_
    refine JC.region ?_
    refine JL.val (v := s1.v) (QV.move rfl) rfl rfl rfl ?_
    refine JL.val (v := .int .i64 ((x2).length : Int)) (QV.len (Rdg.vw 1 rfl) Try.underlying55 rfl) rfl rfl rfl ?_
    refine JL.val (v := .bool (decide (((x2).length : Int) = (1 : Int)))) (QV.eql rfl rfl) rfl rfl rfl ?_
    refine JL.nil ?_
    refine QJ.then_normal ?_
    rcases ite_inv hm with ⟨h10, hm⟩ | ⟨h10, hm⟩
    ·
      refine JC.condT' rfl (decide_eq_true h10) ?_
      refine JC.seq ?_
      refine JC.region ?_
      refine JL.val (v := s1.v) (QV.move rfl) rfl rfl rfl ?_
      obtain ⟨h11, hm⟩ := guard_inv hm
      refine JL.val (v := .pointer (some (elA (s1.v) (Int.toNat (0 : Int) * ((Enc.arr 32 (Enc.int .u8))).sz)))) (QV.indexA (Rdg.vw 1 rfl) Try.underlying55 tk_39 rfl rfl h11) rfl rfl rfl ?_
      refine JL.val (v := .agg (((Enc.arr 32 (Enc.int .u8))).enc (gd x2 (0 : Int))).toArray) (QV.eq (QV.elN (Rdg.vw 1 rfl) tk_39 rfl h11) rfl) rfl rfl rfl ?_
      refine JL.mv (d := none) (MV.store (ss := [Seg.of (Enc.arr 32 (Enc.int .u8)) (Arr.rep 32 (0 : Int))]) 0 0 1 [Seg.of (Enc.arr 32 (Enc.int .u8)) (gd x2 (0 : Int))] rfl tk_39 rfl rfl rfl rfl (fun w hs => ⟨rfl, one_of _ _, trivial⟩)) rfl rfl rfl ?_
      rintro _ _ ⟨rfl, rfl⟩
      refine JL.nil ?_
      refine QJ.then_normal ?_
      refine JC.ret ?_
      refine QJ.then_ret ?_
      obtain rfl := Option.some.inj hm
      exact QJ.body (vs := [.agg (((Enc.arr 32 (Enc.int .u8))).enc (gd x2 (0 : Int))).toArray]) (.inl rfl) rfl (ResVs.cons (ResV.cell (d := none) (ty := 0) (ps := "") (af := #[]) (g := none) rfl (QV.eq (QV.loadN (ss := [Seg.of (Enc.arr 32 (Enc.int .u8)) (gd x2 (0 : Int))]) 0 0 1 rfl tk_39 rfl rfl rfl rfl) rfl)) ResVs.nil) [] rfl rfl (.inr trivial) ⟨rfl, rfl⟩
    ·
      refine JC.condF' rfl (decide_eq_false h10) ?_
      refine JC.skip ?_
      refine QJ.then_normal ?_
      refine JC.seq ?_
      refine JC.region ?_
      refine JL.val (v := s1.v) (QV.move rfl) rfl rfl rfl ?_
      refine JL.val (v := .int .i64 ((x2).length : Int)) (QV.len (Rdg.vw 1 rfl) Try.underlying55 rfl) rfl rfl rfl ?_
      obtain ⟨y12, hc13, hm⟩ := bind_inv hm
      refine JL.mv (d := some 17) (MV.call (Lo := []) (Lr := [Asr.blk b5 39 [Seg.of (Enc.arr 32 (Enc.int .u8)) (Arr.rep 32 (0 : Int))], Asr.vw (Enc.arr 32 (Enc.int .u8)) (s1.v) x2]) (F77.spec (((x2).length : Int)) _ hc13) rfl Try.func77 rfl rfl rfl [] [0, 1] rfl rfl rfl trivial) rfl rfl rfl ?_
      rintro _ _ ⟨_, ⟨rfl, rfl⟩, rfl⟩
      refine JL.val (v := .int .i64 y12) (QV.assign rfl) rfl rfl rfl ?_
      refine JL.nil ?_
      refine QJ.then_normal ?_
      refine JC.seq ?_
      refine JC.regionT [Asr.vw (Enc.arr 32 (Enc.int .u8)) (s1.v) x2] (fun t => false) [(0, true), (1, true), (2, true), (4, true), (5, true), (6, true), (3, false), (7, false), (8, false), (9, false)] (by kernel_rfl) (by kernel_rfl) (by kernel_rfl) rfl (fun hsel => ?_)
      refine JT.take (i := 0) (v := s1.v) hsel rfl (QV.move rfl) rfl rfl rfl [1] rfl rfl ?_
      refine JT.take (i := 1) (v := .int .i64 y12) hsel rfl (QV.move rfl) rfl rfl rfl [1] rfl rfl ?_
      obtain ⟨h14, hm⟩ := guard_inv hm
      refine JT.take (i := 2) (v := (SlV.sub ((Enc.arr 32 (Enc.int .u8))).sz s1 (0 : Int) y12).v) hsel rfl (QV.sliceV (Rdg.vw 0 rfl) Try.underlying55 tk_39 rfl rfl rfl h14) rfl rfl rfl [1] rfl rfl ?_
      refine JT.take (i := 4) (v := s1.v) hsel rfl (QV.move rfl) rfl rfl rfl [1] rfl rfl ?_
      refine JT.take (i := 5) (v := .int .i64 y12) hsel rfl (QV.move rfl) rfl rfl rfl [1] rfl rfl ?_
      obtain ⟨h15, hm⟩ := guard_inv hm
      refine JT.take (i := 6) (v := (SlV.sub ((Enc.arr 32 (Enc.int .u8))).sz s1 y12 ((x2).length : Int)).v) hsel rfl (QV.sliceV (Rdg.vw 0 rfl) Try.underlying55 tk_39 rfl rfl rfl h15) rfl rfl rfl [1] rfl rfl ?_
      obtain ⟨y16, hc17, hm⟩ := bind_inv hm
      refine JT.only (i := 3) (d := some 21) rfl (MV.call (Lo := []) (Lr := [Asr.blk b5 39 [Seg.of (Enc.arr 32 (Enc.int .u8)) (Arr.rep 32 (0 : Int))], Asr.vw (Enc.arr 32 (Enc.int .u8)) (s1.v) x2]) (ih ((SlV.sub ((Enc.arr 32 (Enc.int .u8))).sz s1 (0 : Int) y12)) ((subL x2 (0 : Int) y12)) _ hc17) rfl Try.func46 rfl rfl rfl [] [0, 1] rfl rfl rfl ⟨((Drv.vw 1 rfl).subV h14), trivial⟩) rfl rfl rfl ?_
      rintro _ _ ⟨_, ⟨rfl, rfl⟩, rfl⟩
      refine ⟨fun _ => ⟨[1], rfl, rfl⟩, ?_⟩
      obtain ⟨y18, hc19, hm⟩ := bind_inv hm
      refine JT.only (i := 7) (d := some 25) rfl (MV.call (Lo := []) (Lr := [Asr.blk b5 39 [Seg.of (Enc.arr 32 (Enc.int .u8)) (Arr.rep 32 (0 : Int))], Asr.vw (Enc.arr 32 (Enc.int .u8)) (s1.v) x2]) (ih ((SlV.sub ((Enc.arr 32 (Enc.int .u8))).sz s1 y12 ((x2).length : Int))) ((subL x2 y12 ((x2).length : Int))) _ hc19) rfl Try.func46 rfl rfl rfl [] [0, 1] rfl rfl rfl ⟨((Drv.vw 1 rfl).subV h15), trivial⟩) rfl rfl rfl ?_
      rintro _ _ ⟨_, ⟨rfl, rfl⟩, rfl⟩
      refine ⟨fun _ => ⟨[1], rfl, rfl⟩, ?_⟩
      obtain ⟨y20, hc21, hm⟩ := bind_inv hm
      refine JT.only (i := 8) (d := some 26) rfl (MV.call (Lo := []) (Lr := [Asr.blk b5 39 [Seg.of (Enc.arr 32 (Enc.int .u8)) (Arr.rep 32 (0 : Int))], Asr.vw (Enc.arr 32 (Enc.int .u8)) (s1.v) x2]) (F48.spec (y16) (y18) _ hc21) rfl Try.func48 rfl rfl rfl [] [0, 1] rfl rfl rfl trivial) rfl rfl rfl ?_
      rintro _ _ ⟨_, ⟨rfl, rfl⟩, rfl⟩
      refine ⟨fun _ => ⟨[1], rfl, rfl⟩, ?_⟩
      refine JT.only (i := 9) (d := none) rfl (MV.store (ss := [Seg.of (Enc.arr 32 (Enc.int .u8)) (Arr.rep 32 (0 : Int))]) 0 0 1 [Seg.of (Enc.arr 32 (Enc.int .u8)) y20] rfl tk_39 rfl rfl rfl rfl (fun w hs => ⟨rfl, one_of _ _, trivial⟩)) rfl rfl rfl ?_
      rintro _ _ ⟨rfl, rfl⟩
      refine ⟨fun _ => ⟨[1], rfl, rfl⟩, ?_⟩
      refine JT.grow [Asr.blk b5 39 [Seg.of (Enc.arr 32 (Enc.int .u8)) y20], Asr.vw (Enc.arr 32 (Enc.int .u8)) (s1.v) x2] [1] rfl rfl ?_
      refine JT.nil ?_
      refine QJ.then_normal ?_
      refine JC.ret ?_
      obtain rfl := Option.some.inj hm
      exact QJ.body (vs := [.agg (((Enc.arr 32 (Enc.int .u8))).enc y20).toArray]) (.inl rfl) rfl (ResVs.cons (ResV.cell (d := none) (ty := 0) (ps := "") (af := #[]) (g := none) rfl (QV.eq (QV.loadN (ss := [Seg.of (Enc.arr 32 (Enc.int .u8)) y20]) 0 0 1 rfl tk_39 rfl rfl rfl rfl) rfl)) ResVs.nil) [] rfl rfl (.inr trivial) ⟨rfl, rfl⟩
theorem F46.specF : ∀ (n : Nat) (s1 : SlV) (x2 : List (Arr Int 32)) (r : (Arr Int 32)) (_hm : F46.mF n x2 = some r), Ctr Try.prog false 46 [s1.v] [Asr.vw (Enc.arr 32 (Enc.int .u8)) (s1.v) x2] (fun v L' => v = .agg (((Enc.arr 32 (Enc.int .u8))).enc r).toArray ∧ L' = [])
  | 0, s1, x2, r, hm => by cases hm
  | n + 1, s1, x2, r, hm => F46.specG (F46.mF n) (F46.specF n) s1 x2 r hm
theorem F46.spec (s1 : SlV) (x2 : List (Arr Int 32)) (r : (Arr Int 32)) (hm : F46.m x2 = some r) :
    Ctr Try.prog false 46 [s1.v] [Asr.vw (Enc.arr 32 (Enc.int .u8)) (s1.v) x2] (fun v L' => v = .agg (((Enc.arr 32 (Enc.int .u8))).enc r).toArray ∧ L' = []) := by
  obtain ⟨n, hn⟩ := evt_some hm
  exact F46.specF n s1 x2 r hn

/-! ### 47: drogher/merkle.Pair -/
noncomputable def F47_2.m (x1 : (Arr Int 32)) (x2 : (Arr Int 32)) : Option (Arr Int 32) :=
  ((F32.m ((subL ((Arr.cp (Arr.cp (Arr.set (Arr.rep 65 (0 : Int)) (0 : Int) (1 : Int)) (1 : Int) ((65 : Nat) : Int) (subL (x1).l (0 : Int) ((32 : Nat) : Int))) (33 : Int) ((65 : Nat) : Int) (subL (x2).l (0 : Int) ((32 : Nat) : Int)))).l (0 : Int) ((65 : Nat) : Int)))).bind fun y8 => some y8)
set_option maxRecDepth 100000 in
set_option maxHeartbeats 4000000 in
theorem F47_2.spec (x1 : (Arr Int 32)) (x2 : (Arr Int 32)) (r : (Arr Int 32)) (hm : F47_2.m x1 x2 = some r) :
    Ctr Try.prog false 47 [.agg (((Enc.arr 32 (Enc.int .u8))).enc x1).toArray, .agg (((Enc.arr 32 (Enc.int .u8))).enc x2).toArray] [] (fun v L' => v = .agg (((Enc.arr 32 (Enc.int .u8))).enc r).toArray ∧ L' = []) := by
  refine Ctr.intro (n := 15) (env := [(0, .agg (((Enc.arr 32 (Enc.int .u8))).enc x1).toArray), (1, .agg (((Enc.arr 32 (Enc.int .u8))).enc x2).toArray)]) Try.func47 rfl rfl rfl rfl (fun c => ?_)
  unfold F47_2.m at hm
  refine JC.seq ?_
  refine JC.region ?_
  refine JL.mv (d := some 2) (MV.box [Seg.of (Enc.arr 32 (Enc.int .u8)) x1] rfl (fun w hs => rfl)) rfl rfl rfl ?_
  rintro _ _ ⟨b4, rfl, rfl⟩
  refine JL.mv (d := some 3) (MV.box [Seg.of (Enc.arr 32 (Enc.int .u8)) x2] rfl (fun w hs => rfl)) rfl rfl rfl ?_
  rintro _ _ ⟨b5, rfl, rfl⟩
  refine JL.mv (d := some 4) (MV.alloc [Seg.of (Enc.arr 32 (Enc.int .u8)) (Arr.rep 32 (0 : Int))] z_41 rfl) rfl rfl rfl ?_
  rintro _ _ ⟨b6, rfl, rfl⟩
  refine JL.nil ?_
  refine QJ.then_normal ?_
  refine JC.seq ?_
  refine JC.region ?_
  refine JL.mv (d := some 5) (MV.alloc [Seg.of (Enc.arr 65 (Enc.int .u8)) (Arr.rep 65 (0 : Int))] z_108 rfl) rfl rfl rfl ?_
  rintro _ _ ⟨b7, rfl, rfl⟩
  refine JL.nil ?_
  refine QJ.then_normal ?_
  refine JC.seq ?_
  refine JC.region ?_
  refine JL.val (v := .pointer (some ⟨b7, 0 + Int.toNat (0 : Int) * 1, none⟩)) (QV.indexB Try.underlying108 tk_5 rfl rfl (by decide)) rfl rfl rfl ?_
  refine JL.mv (d := none) (MV.storeAr (ss := [Seg.of (Enc.arr 65 (Enc.int .u8)) (Arr.rep 65 (0 : Int))]) 0 0 (1 : Int) rfl tk_5 rfl rfl rfl rfl (by decide) rfl rfl) rfl rfl rfl ?_
  rintro _ _ ⟨rfl, rfl⟩
  refine JL.nil ?_
  refine QJ.then_normal ?_
  refine JC.seq ?_
  refine JC.regionT [Asr.blk b6 41 [Seg.of (Enc.arr 32 (Enc.int .u8)) (Arr.rep 32 (0 : Int))], Asr.blk b5 41 [Seg.of (Enc.arr 32 (Enc.int .u8)) x2], Asr.blk b4 41 [Seg.of (Enc.arr 32 (Enc.int .u8)) x1]] (fun t => false) [(0, true), (1, false), (2, false)] (by kernel_rfl) (by kernel_rfl) (by kernel_rfl) rfl (fun hsel => ?_)
  refine JT.take (i := 0) (v := (SlV.sub ((Enc.int .u8)).sz (SlV.mk (some ⟨b7, 0, none⟩) 65 65) (1 : Int) ((65 : Nat) : Int)).v) hsel rfl (QV.sliceB Try.underlying108 tk_5 rfl rfl rfl (by decide)) rfl rfl rfl [1, 2, 3] rfl rfl ?_
  refine JT.only (i := 1) (d := some 8) rfl (MV.ofQV (v := (SlV.sub ((Enc.int .u8)).sz (SlV.mk (some ⟨b4, 0, none⟩) 32 32) (0 : Int) ((32 : Nat) : Int)).v) (QV.sliceB Try.underlying41 tk_5 rfl rfl rfl (by decide))) rfl rfl rfl ?_
  rintro _ _ ⟨rfl, rfl⟩
  refine ⟨fun _ => ⟨[1, 2, 3], rfl, rfl⟩, ?_⟩
  refine JT.only (i := 2) (d := some 9) rfl (MV.copyB (ss := [Seg.of (Enc.arr 65 (Enc.int .u8)) (Arr.set (Arr.rep 65 (0 : Int)) (0 : Int) (1 : Int))]) (xs := (Arr.set (Arr.rep 65 (0 : Int)) (0 : Int) (1 : Int))) (l := (1 : Int)) (h := ((65 : Nat) : Int)) 0 0 rfl (Rdg.ofDrv ((Drv.arr (ss := [Seg.of (Enc.arr 32 (Enc.int .u8)) x1]) 3 0 rfl rfl rfl rfl).subV (by rw [Arr.h]; exact (show 0 ≤ (0 : Int) ∧ (0 : Int) ≤ ((32 : Nat) : Int) ∧ ((32 : Nat) : Int) ≤ ((32 : Nat) : Int) from by decide)))) Try.underlying22 tk_5 rfl rfl rfl rfl (show 0 ≤ (1 : Int) ∧ (1 : Int) ≤ ((65 : Nat) : Int) ∧ ((65 : Nat) : Int) ≤ ((65 : Nat) : Int) from by decide)) rfl rfl rfl ?_
  rintro _ _ ⟨rfl, rfl⟩
  refine ⟨fun _ => ⟨[1, 2, 3], rfl, rfl⟩, ?_⟩
  refine JT.grow [Asr.blk b7 108 [Seg.of (Enc.arr 65 (Enc.int .u8)) (Arr.cp (Arr.set (Arr.rep 65 (0 : Int)) (0 : Int) (1 : Int)) (1 : Int) ((65 : Nat) : Int) (subL (x1).l (0 : Int) ((32 : Nat) : Int)))], Asr.blk b6 41 [Seg.of (Enc.arr 32 (Enc.int .u8)) (Arr.rep 32 (0 : Int))], Asr.blk b5 41 [Seg.of (Enc.arr 32 (Enc.int .u8)) x2], Asr.blk b4 41 [Seg.of (Enc.arr 32 (Enc.int .u8)) x1]] [1, 2, 3] rfl rfl ?_
  refine JT.nil ?_
  refine QJ.then_normal ?_
  refine JC.seq ?_
  refine JC.regionT [Asr.blk b6 41 [Seg.of (Enc.arr 32 (Enc.int .u8)) (Arr.rep 32 (0 : Int))], Asr.blk b5 41 [Seg.of (Enc.arr 32 (Enc.int .u8)) x2], Asr.blk b4 41 [Seg.of (Enc.arr 32 (Enc.int .u8)) x1]] (fun t => false) [(0, true), (1, false), (2, false)] (by kernel_rfl) (by kernel_rfl) (by kernel_rfl) rfl (fun hsel => ?_)
  refine JT.take (i := 0) (v := (SlV.sub ((Enc.int .u8)).sz (SlV.mk (some ⟨b7, 0, none⟩) 65 65) (33 : Int) ((65 : Nat) : Int)).v) hsel rfl (QV.sliceB Try.underlying108 tk_5 rfl rfl rfl (by decide)) rfl rfl rfl [1, 2, 3] rfl rfl ?_
  refine JT.only (i := 1) (d := some 11) rfl (MV.ofQV (v := (SlV.sub ((Enc.int .u8)).sz (SlV.mk (some ⟨b5, 0, none⟩) 32 32) (0 : Int) ((32 : Nat) : Int)).v) (QV.sliceB Try.underlying41 tk_5 rfl rfl rfl (by decide))) rfl rfl rfl ?_
  rintro _ _ ⟨rfl, rfl⟩
  refine ⟨fun _ => ⟨[1, 2, 3], rfl, rfl⟩, ?_⟩
  refine JT.only (i := 2) (d := some 12) rfl (MV.copyB (ss := [Seg.of (Enc.arr 65 (Enc.int .u8)) (Arr.cp (Arr.set (Arr.rep 65 (0 : Int)) (0 : Int) (1 : Int)) (1 : Int) ((65 : Nat) : Int) (subL (x1).l (0 : Int) ((32 : Nat) : Int)))]) (xs := (Arr.cp (Arr.set (Arr.rep 65 (0 : Int)) (0 : Int) (1 : Int)) (1 : Int) ((65 : Nat) : Int) (subL (x1).l (0 : Int) ((32 : Nat) : Int)))) (l := (33 : Int)) (h := ((65 : Nat) : Int)) 0 0 rfl (Rdg.ofDrv ((Drv.arr (ss := [Seg.of (Enc.arr 32 (Enc.int .u8)) x2]) 2 0 rfl rfl rfl rfl).subV (by rw [Arr.h]; exact (show 0 ≤ (0 : Int) ∧ (0 : Int) ≤ ((32 : Nat) : Int) ∧ ((32 : Nat) : Int) ≤ ((32 : Nat) : Int) from by decide)))) Try.underlying22 tk_5 rfl rfl rfl rfl (show 0 ≤ (33 : Int) ∧ (33 : Int) ≤ ((65 : Nat) : Int) ∧ ((65 : Nat) : Int) ≤ ((65 : Nat) : Int) from by decide)) rfl rfl rfl ?_
  rintro _ _ ⟨rfl, rfl⟩
  refine ⟨fun _ => ⟨[1, 2, 3], rfl, rfl⟩, ?_⟩
  refine JT.grow [Asr.blk b7 108 [Seg.of (Enc.arr 65 (Enc.int .u8)) (Arr.cp (Arr.cp (Arr.set (Arr.rep 65 (0 : Int)) (0 : Int) (1 : Int)) (1 : Int) ((65 : Nat) : Int) (subL (x1).l (0 : Int) ((32 : Nat) : Int))) (33 : Int) ((65 : Nat) : Int) (subL (x2).l (0 : Int) ((32 : Nat) : Int)))], Asr.blk b6 41 [Seg.of (Enc.arr 32 (Enc.int .u8)) (Arr.rep 32 (0 : Int))], Asr.blk b5 41 [Seg.of (Enc.arr 32 (Enc.int .u8)) x2], Asr.blk b4 41 [Seg.of (Enc.arr 32 (Enc.int .u8)) x1]] [1, 2, 3] rfl rfl ?_
  refine JT.nil ?_
  refine QJ.then_normal ?_
  refine JC.seq ?_
  refine JC.region ?_
  refine JL.val (v := (SlV.sub ((Enc.int .u8)).sz (SlV.mk (some ⟨b7, 0, none⟩) 65 65) (0 : Int) ((65 : Nat) : Int)).v) (QV.sliceB Try.underlying108 tk_5 rfl rfl rfl (by decide)) rfl rfl rfl ?_
  obtain ⟨y8, hc9, hm⟩ := bind_inv hm
  refine JL.mv (d := some 14) (MV.call (Lo := []) (Lr := [Asr.blk b7 108 [Seg.of (Enc.arr 65 (Enc.int .u8)) (Arr.cp (Arr.cp (Arr.set (Arr.rep 65 (0 : Int)) (0 : Int) (1 : Int)) (1 : Int) ((65 : Nat) : Int) (subL (x1).l (0 : Int) ((32 : Nat) : Int))) (33 : Int) ((65 : Nat) : Int) (subL (x2).l (0 : Int) ((32 : Nat) : Int)))], Asr.blk b6 41 [Seg.of (Enc.arr 32 (Enc.int .u8)) (Arr.rep 32 (0 : Int))], Asr.blk b5 41 [Seg.of (Enc.arr 32 (Enc.int .u8)) x2], Asr.blk b4 41 [Seg.of (Enc.arr 32 (Enc.int .u8)) x1]]) (F32.spec ((SlV.sub ((Enc.int .u8)).sz (SlV.mk (some ⟨b7, 0, none⟩) 65 65) (0 : Int) ((65 : Nat) : Int))) ((subL ((Arr.cp (Arr.cp (Arr.set (Arr.rep 65 (0 : Int)) (0 : Int) (1 : Int)) (1 : Int) ((65 : Nat) : Int) (subL (x1).l (0 : Int) ((32 : Nat) : Int))) (33 : Int) ((65 : Nat) : Int) (subL (x2).l (0 : Int) ((32 : Nat) : Int)))).l (0 : Int) ((65 : Nat) : Int))) _ hc9) rfl Try.func32 rfl rfl rfl [] [0, 1, 2, 3] rfl rfl rfl ⟨((Drv.arr (ss := [Seg.of (Enc.arr 65 (Enc.int .u8)) (Arr.cp (Arr.cp (Arr.set (Arr.rep 65 (0 : Int)) (0 : Int) (1 : Int)) (1 : Int) ((65 : Nat) : Int) (subL (x1).l (0 : Int) ((32 : Nat) : Int))) (33 : Int) ((65 : Nat) : Int) (subL (x2).l (0 : Int) ((32 : Nat) : Int)))]) 0 0 rfl rfl rfl rfl).subV (by rw [Arr.h]; exact (show 0 ≤ (0 : Int) ∧ (0 : Int) ≤ ((65 : Nat) : Int) ∧ ((65 : Nat) : Int) ≤ ((65 : Nat) : Int) from by decide))), trivial⟩) rfl rfl rfl ?_
  rintro _ _ ⟨_, ⟨rfl, rfl⟩, rfl⟩
  refine JL.mv (d := none) (MV.store (ss := [Seg.of (Enc.arr 32 (Enc.int .u8)) (Arr.rep 32 (0 : Int))]) 1 0 1 [Seg.of (Enc.arr 32 (Enc.int .u8)) y8] rfl tk_41 rfl rfl rfl rfl (fun w hs => ⟨rfl, one_of _ _, trivial⟩)) rfl rfl rfl ?_
  rintro _ _ ⟨rfl, rfl⟩
  refine JL.nil ?_
  refine QJ.then_normal ?_
  refine JC.ret ?_
  obtain rfl := Option.some.inj hm
  exact QJ.body (vs := [.agg (((Enc.arr 32 (Enc.int .u8))).enc y8).toArray]) (.inl rfl) rfl (ResVs.cons (ResV.cell (d := none) (ty := 0) (ps := "") (af := #[]) (g := none) rfl (QV.eq (QV.loadN (ss := [Seg.of (Enc.arr 32 (Enc.int .u8)) y8]) 1 0 1 rfl tk_41 rfl rfl rfl rfl) rfl)) ResVs.nil) [] rfl rfl (.inr trivial) ⟨rfl, rfl⟩

/-! ### 47: drogher/merkle.Pair -/
noncomputable def F47_3.m (x1 : (Arr Int 32)) (x2 : (Arr Int 32)) : Option (Arr Int 32) :=
  ((F32.m ((subL ((Arr.cp (Arr.cp (Arr.set (Arr.rep 65 (0 : Int)) (0 : Int) (1 : Int)) (1 : Int) ((65 : Nat) : Int) (subL (x1).l (0 : Int) ((32 : Nat) : Int))) (33 : Int) ((65 : Nat) : Int) (subL (x2).l (0 : Int) ((32 : Nat) : Int)))).l (0 : Int) ((65 : Nat) : Int)))).bind fun y8 => some y8)
set_option maxRecDepth 100000 in
set_option maxHeartbeats 4000000 in
theorem F47_3.spec (x1 : (Arr Int 32)) (x2 : (Arr Int 32)) (r : (Arr Int 32)) (hm : F47_3.m x1 x2 = some r) :
    Ctr Try.prog false 47 [.agg (((Enc.arr 32 (Enc.int .u8))).enc x1).toArray, .agg (((Enc.arr 32 (Enc.int .u8))).enc x2).toArray] [] (fun v L' => v = .agg (((Enc.arr 32 (Enc.int .u8))).enc r).toArray ∧ L' = []) := by
  refine Ctr.intro (n := 15) (env := [(0, .agg (((Enc.arr 32 (Enc.int .u8))).enc x1).toArray), (1, .agg (((Enc.arr 32 (Enc.int .u8))).enc x2).toArray)]) Try.func47 rfl rfl rfl rfl (fun c => ?_)
  unfold F47_3.m at hm
  refine JC.seq ?_
  refine JC.region ?_
  refine JL.mv (d := some 2) (MV.box [Seg.of (Enc.arr 32 (Enc.int .u8)) x1] rfl (fun w hs => rfl)) rfl rfl rfl ?_
  rintro _ _ ⟨b4, rfl, rfl⟩
  refine JL.mv (d := some 3) (MV.box [Seg.of (Enc.arr 32 (Enc.int .u8)) x2] rfl (fun w hs => rfl)) rfl rfl rfl ?_
  rintro _ _ ⟨b5, rfl, rfl⟩
  refine JL.mv (d := some 4) (MV.alloc [Seg.of (Enc.arr 32 (Enc.int .u8)) (Arr.rep 32 (0 : Int))] z_41 rfl) rfl rfl rfl ?_
  rintro _ _ ⟨b6, rfl, rfl⟩
  refine JL.nil ?_
  refine QJ.then_normal ?_
  refine JC.seq ?_
  refine JC.region ?_
  refine JL.mv (d := some 5) (MV.alloc [Seg.of (Enc.arr 65 (Enc.int .u8)) (Arr.rep 65 (0 : Int))] z_108 rfl) rfl rfl rfl ?_
  rintro _ _ ⟨b7, rfl, rfl⟩
  refine JL.nil ?_
  refine QJ.then_normal ?_
  refine JC.seq ?_
  refine JC.region ?_
  refine JL.val (v := .pointer (some ⟨b7, 0 + Int.toNat (0 : Int) * 1, none⟩)) (QV.indexB Try.underlying108 tk_5 rfl rfl (by decide)) rfl rfl rfl ?_
  refine JL.mv (d := none) (MV.storeAr (ss := [Seg.of (Enc.arr 65 (Enc.int .u8)) (Arr.rep 65 (0 : Int))]) 0 0 (1 : Int) rfl tk_5 rfl rfl rfl rfl (by decide) rfl rfl) rfl rfl rfl ?_
  rintro _ _ ⟨rfl, rfl⟩
  refine JL.nil ?_
  refine QJ.then_normal ?_
  refine JC.seq ?_
  refine JC.regionT [Asr.blk b6 41 [Seg.of (Enc.arr 32 (Enc.int .u8)) (Arr.rep 32 (0 : Int))], Asr.blk b5 41 [Seg.of (Enc.arr 32 (Enc.int .u8)) x2], Asr.blk b4 41 [Seg.of (Enc.arr 32 (Enc.int .u8)) x1]] (fun t => false) [(0, true), (1, false), (2, false)] (by kernel_rfl) (by kernel_rfl) (by kernel_rfl) rfl (fun hsel => ?_)
  refine JT.take (i := 0) (v := (SlV.sub ((Enc.int .u8)).sz (SlV.mk (some ⟨b7, 0, none⟩) 65 65) (1 : Int) ((65 : Nat) : Int)).v) hsel rfl (QV.sliceB Try.underlying108 tk_5 rfl rfl rfl (by decide)) rfl rfl rfl [1, 2, 3] rfl rfl ?_
  refine JT.only (i := 1) (d := some 8) rfl (MV.ofQV (v := (SlV.sub ((Enc.int .u8)).sz (SlV.mk (some ⟨b4, 0, none⟩) 32 32) (0 : Int) ((32 : Nat) : Int)).v) (QV.sliceB Try.underlying41 tk_5 rfl rfl rfl (by decide))) rfl rfl rfl ?_
  rintro _ _ ⟨rfl, rfl⟩
  refine ⟨fun _ => ⟨[1, 2, 3], rfl, rfl⟩, ?_⟩
  refine JT.only (i := 2) (d := some 9) rfl (MV.copyB (ss := [Seg.of (Enc.arr 65 (Enc.int .u8)) (Arr.set (Arr.rep 65 (0 : Int)) (0 : Int) (1 : Int))]) (xs := (Arr.set (Arr.rep 65 (0 : Int)) (0 : Int) (1 : Int))) (l := (1 : Int)) (h := ((65 : Nat) : Int)) 0 0 rfl (Rdg.ofDrv ((Drv.arr (ss := [Seg.of (Enc.arr 32 (Enc.int .u8)) x1]) 3 0 rfl rfl rfl rfl).subV (by rw [Arr.h]; exact (show 0 ≤ (0 : Int) ∧ (0 : Int) ≤ ((32 : Nat) : Int) ∧ ((32 : Nat) : Int) ≤ ((32 : Nat) : Int) from by decide)))) Try.underlying22 tk_5 rfl rfl rfl rfl (show 0 ≤ (1 : Int) ∧ (1 : Int) ≤ ((65 : Nat) : Int) ∧ ((65 : Nat) : Int) ≤ ((65 : Nat) : Int) from by decide)) rfl rfl rfl ?_
  rintro _ _ ⟨rfl, rfl⟩
  refine ⟨fun _ => ⟨[1, 2, 3], rfl, rfl⟩, ?_⟩
  refine JT.grow [Asr.blk b7 108 [Seg.of (Enc.arr 65 (Enc.int .u8)) (Arr.cp (Arr.set (Arr.rep 65 (0 : Int)) (0 : Int) (1 : Int)) (1 : Int) ((65 : Nat) : Int) (subL (x1).l (0 : Int) ((32 : Nat) : Int)))], Asr.blk b6 41 [Seg.of (Enc.arr 32 (Enc.int .u8)) (Arr.rep 32 (0 : Int))], Asr.blk b5 41 [Seg.of (Enc.arr 32 (Enc.int .u8)) x2], Asr.blk b4 41 [Seg.of (Enc.arr 32 (Enc.int .u8)) x1]] [1, 2, 3] rfl rfl ?_
  refine JT.nil ?_
  refine QJ.then_normal ?_
  refine JC.seq ?_
  refine JC.regionT [Asr.blk b6 41 [Seg.of (Enc.arr 32 (Enc.int .u8)) (Arr.rep 32 (0 : Int))], Asr.blk b5 41 [Seg.of (Enc.arr 32 (Enc.int .u8)) x2], Asr.blk b4 41 [Seg.of (Enc.arr 32 (Enc.int .u8)) x1]] (fun t => false) [(0, true), (1, false), (2, false)] (by kernel_rfl) (by kernel_rfl) (by kernel_rfl) rfl (fun hsel => ?_)
  refine JT.take (i := 0) (v := (SlV.sub ((Enc.int .u8)).sz (SlV.mk (some ⟨b7, 0, none⟩) 65 65) (33 : Int) ((65 : Nat) : Int)).v) hsel rfl (QV.sliceB Try.underlying108 tk_5 rfl rfl rfl (by decide)) rfl rfl rfl [1, 2, 3] rfl rfl ?_
  refine JT.only (i := 1) (d := some 11) rfl (MV.ofQV (v := (SlV.sub ((Enc.int .u8)).sz (SlV.mk (some ⟨b5, 0, none⟩) 32 32) (0 : Int) ((32 : Nat) : Int)).v) (QV.sliceB Try.underlying41 tk_5 rfl rfl rfl (by decide))) rfl rfl rfl ?_
  rintro _ _ ⟨rfl, rfl⟩
  refine ⟨fun _ => ⟨[1, 2, 3], rfl, rfl⟩, ?_⟩
  refine JT.only (i := 2) (d := some 12) rfl (MV.copyB (ss := [Seg.of (Enc.arr 65 (Enc.int .u8)) (Arr.cp (Arr.set (Arr.rep 65 (0 : Int)) (0 : Int) (1 : Int)) (1 : Int) ((65 : Nat) : Int) (subL (x1).l (0 : Int) ((32 : Nat) : Int)))]) (xs := (Arr.cp (Arr.set (Arr.rep 65 (0 : Int)) (0 : Int) (1 : Int)) (1 : Int) ((65 : Nat) : Int) (subL (x1).l (0 : Int) ((32 : Nat) : Int)))) (l := (33 : Int)) (h := ((65 : Nat) : Int)) 0 0 rfl (Rdg.ofDrv ((Drv.arr (ss := [Seg.of (Enc.arr 32 (Enc.int .u8)) x2]) 2 0 rfl rfl rfl rfl).subV (by rw [Arr.h]; exact (show 0 ≤ (0 : Int) ∧ (0 : Int) ≤ ((32 : Nat) : Int) ∧ ((32 : Nat) : Int) ≤ ((32 : Nat) : Int) from by decide)))) Try.underlying22 tk_5 rfl rfl rfl rfl (show 0 ≤ (33 : Int) ∧ (33 : Int) ≤ ((65 : Nat) : Int) ∧ ((65 : Nat) : Int) ≤ ((65 : Nat) : Int) from by decide)) rfl rfl rfl ?_
  rintro _ _ ⟨rfl, rfl⟩
  refine ⟨fun _ => ⟨[1, 2, 3], rfl, rfl⟩, ?_⟩
  refine JT.grow [Asr.blk b7 108 [Seg.of (Enc.arr 65 (Enc.int .u8)) (Arr.cp (Arr.cp (Arr.set (Arr.rep 65 (0 : Int)) (0 : Int) (1 : Int)) (1 : Int) ((65 : Nat) : Int) (subL (x1).l (0 : Int) ((32 : Nat) : Int))) (33 : Int) ((65 : Nat) : Int) (subL (x2).l (0 : Int) ((32 : Nat) : Int)))], Asr.blk b6 41 [Seg.of (Enc.arr 32 (Enc.int .u8)) (Arr.rep 32 (0 : Int))], Asr.blk b5 41 [Seg.of (Enc.arr 32 (Enc.int .u8)) x2], Asr.blk b4 41 [Seg.of (Enc.arr 32 (Enc.int .u8)) x1]] [1, 2, 3] rfl rfl ?_
  refine JT.nil ?_
  refine QJ.then_normal ?_
  refine JC.seq ?_
  refine JC.region ?_
  refine JL.val (v := (SlV.sub ((Enc.int .u8)).sz (SlV.mk (some ⟨b7, 0, none⟩) 65 65) (0 : Int) ((65 : Nat) : Int)).v) (QV.sliceB Try.underlying108 tk_5 rfl rfl rfl (by decide)) rfl rfl rfl ?_
  obtain ⟨y8, hc9, hm⟩ := bind_inv hm
  refine JL.mv (d := some 14) (MV.call (Lo := []) (Lr := [Asr.blk b7 108 [Seg.of (Enc.arr 65 (Enc.int .u8)) (Arr.cp (Arr.cp (Arr.set (Arr.rep 65 (0 : Int)) (0 : Int) (1 : Int)) (1 : Int) ((65 : Nat) : Int) (subL (x1).l (0 : Int) ((32 : Nat) : Int))) (33 : Int) ((65 : Nat) : Int) (subL (x2).l (0 : Int) ((32 : Nat) : Int)))], Asr.blk b6 41 [Seg.of (Enc.arr 32 (Enc.int .u8)) (Arr.rep 32 (0 : Int))], Asr.blk b5 41 [Seg.of (Enc.arr 32 (Enc.int .u8)) x2], Asr.blk b4 41 [Seg.of (Enc.arr 32 (Enc.int .u8)) x1]]) (F32.spec ((SlV.sub ((Enc.int .u8)).sz (SlV.mk (some ⟨b7, 0, none⟩) 65 65) (0 : Int) ((65 : Nat) : Int))) ((subL ((Arr.cp (Arr.cp (Arr.set (Arr.rep 65 (0 : Int)) (0 : Int) (1 : Int)) (1 : Int) ((65 : Nat) : Int) (subL (x1).l (0 : Int) ((32 : Nat) : Int))) (33 : Int) ((65 : Nat) : Int) (subL (x2).l (0 : Int) ((32 : Nat) : Int)))).l (0 : Int) ((65 : Nat) : Int))) _ hc9) rfl Try.func32 rfl rfl rfl [] [0, 1, 2, 3] rfl rfl rfl ⟨((Drv.arr (ss := [Seg.of (Enc.arr 65 (Enc.int .u8)) (Arr.cp (Arr.cp (Arr.set (Arr.rep 65 (0 : Int)) (0 : Int) (1 : Int)) (1 : Int) ((65 : Nat) : Int) (subL (x1).l (0 : Int) ((32 : Nat) : Int))) (33 : Int) ((65 : Nat) : Int) (subL (x2).l (0 : Int) ((32 : Nat) : Int)))]) 0 0 rfl rfl rfl rfl).subV (by rw [Arr.h]; exact (show 0 ≤ (0 : Int) ∧ (0 : Int) ≤ ((65 : Nat) : Int) ∧ ((65 : Nat) : Int) ≤ ((65 : Nat) : Int) from by decide))), trivial⟩) rfl rfl rfl ?_
  rintro _ _ ⟨_, ⟨rfl, rfl⟩, rfl⟩
  refine JL.mv (d := none) (MV.store (ss := [Seg.of (Enc.arr 32 (Enc.int .u8)) (Arr.rep 32 (0 : Int))]) 1 0 1 [Seg.of (Enc.arr 32 (Enc.int .u8)) y8] rfl tk_41 rfl rfl rfl rfl (fun w hs => ⟨rfl, one_of _ _, trivial⟩)) rfl rfl rfl ?_
  rintro _ _ ⟨rfl, rfl⟩
  refine JL.nil ?_
  refine QJ.then_normal ?_
  refine JC.ret ?_
  obtain rfl := Option.some.inj hm
  exact QJ.body (vs := [.agg (((Enc.arr 32 (Enc.int .u8))).enc y8).toArray]) (.inl rfl) rfl (ResVs.cons (ResV.cell (d := none) (ty := 0) (ps := "") (af := #[]) (g := none) rfl (QV.eq (QV.loadN (ss := [Seg.of (Enc.arr 32 (Enc.int .u8)) y8]) 1 0 1 rfl tk_41 rfl rfl rfl rfl) rfl)) ResVs.nil) [] rfl rfl (.inr trivial) ⟨rfl, rfl⟩

/-! ### 49: drogher/merkle.Lead -/
noncomputable def F49.j1  (d18 : (Arr Int 32)) : Option ((Arr Int 32) × Int) :=
  some (d18, (0 : Int))
noncomputable def F49.j2 (d20 : Int) (d31 : (Arr Int 32)) : Option (((Arr Int 32) × Int) ⊕ (Arr Int 32)) :=
  some (.inl (d31, (IntKind.wrap .i64 (d20 + (1 : Int)))))
noncomputable def F49.b1 (x5 : List (Arr Int 32)) (y14 : (List Bool)) : ((Arr Int 32) × Int) → Option (((Arr Int 32) × Int) ⊕ (Arr Int 32))
  | (d19, d20) => (if d20 < ((x5).length : Int) then (if 0 ≤ d20 ∧ d20 < ((x5).length : Int) then (if 0 ≤ (IntKind.wrap .i64 ((IntKind.wrap .i64 (((y14).length : Int) - (1 : Int))) - d20)) ∧ (IntKind.wrap .i64 ((IntKind.wrap .i64 (((y14).length : Int) - (1 : Int))) - d20)) < ((y14).length : Int) then (if (gd y14 (IntKind.wrap .i64 ((IntKind.wrap .i64 (((y14).length : Int) - (1 : Int))) - d20))) = true then ((F47_2.m ((gd x5 d20)) (d19)).bind fun y33 => F49.j2 d20 (y33)) else ((F47_3.m (d19) ((gd x5 d20))).bind fun y35 => F49.j2 d20 (y35))) else none) else none) else some (.inr d19))
noncomputable def F49.m (x1 : (Arr Int 32)) (x2 : Int) (x3 : Int) (x5 : List (Arr Int 32)) : Option ((Arr Int 32) × Int) :=
  ((F50.m (x2) (x3)).bind fun y10 => (if y10 < (0 : Int) then some (K3, (5 : Int)) else (if y10 = ((x5).length : Int) then ((F79.m (x2) (x3)).bind fun y14 => ((loop (F49.b1 x5 y14) (x1, (0 : Int))).bind fun y => match y with | d18 => F49.j1 (d18))) else some (K3, (3 : Int)))))
set_option maxRecDepth 100000 in
set_option maxHeartbeats 4000000 in
theorem F49.spec (s4 : SlV) (x1 : (Arr Int 32)) (x2 : Int) (x3 : Int) (x5 : List (Arr Int 32)) (r : ((Arr Int 32) × Int)) (hm : F49.m x1 x2 x3 x5 = some r) :
    Ctr Try.prog false 49 [.agg (((Enc.arr 32 (Enc.int .u8))).enc x1).toArray, .int .i64 x2, .int .i64 x3, s4.v] [Asr.vw (Enc.arr 32 (Enc.int .u8)) (s4.v) x5] (fun v L' => v = .tuple #[.agg (((Enc.arr 32 (Enc.int .u8))).enc r.1).toArray, .int .i64 r.2] ∧ L' = []) := by
  refine Ctr.intro (n := 55) (env := [(0, .agg (((Enc.arr 32 (Enc.int .u8))).enc x1).toArray), (1, .int .i64 x2), (2, .int .i64 x3), (3, s4.v)]) Try.func49 rfl rfl rfl rfl (fun c => ?_)
  unfold F49.m at hm
  refine JC.seq ?_
  refine JC.region ?_
  refine JL.mv (d := some 4) (MV.box [Seg.of (Enc.arr 32 (Enc.int .u8)) x1] rfl (fun w hs => rfl)) rfl rfl rfl ?_
  rintro _ _ ⟨b8, rfl, rfl⟩
  refine JL.mv (d := some 8) (MV.alloc [Seg.of (Enc.arr 32 (Enc.int .u8)) (Arr.rep 32 (0 : Int))] z_41 rfl) rfl rfl rfl ?_
  rintro _ _ ⟨b9, rfl, rfl⟩
  refine JL.val (v := .int .i64 (0 : Int)) (QV.assign rfl) rfl rfl rfl ?_
  refine JL.nil ?_
  refine QJ.then_normal ?_
  refine JC.seq ?_
  refine JC.seq ?_
  refine JC.region ?_
  refine JL.val (v := .int .i64 x2) (QV.move rfl) rfl rfl rfl ?_
  refine JL.val (v := .int .i64 x3) (QV.move rfl) rfl rfl rfl ?_
  obtain ⟨y10, hc11, hm⟩ := bind_inv hm
  refine JL.mv (d := some 17) (MV.call (Lo := []) (Lr := [Asr.blk b9 41 [Seg.of (Enc.arr 32 (Enc.int .u8)) (Arr.rep 32 (0 : Int))], Asr.blk b8 41 [Seg.of (Enc.arr 32 (Enc.int .u8)) x1], Asr.vw (Enc.arr 32 (Enc.int .u8)) (s4.v) x5]) (F50.spec (x2) (x3) _ hc11) rfl Try.func50 rfl rfl rfl [] [0, 1, 2] rfl rfl rfl trivial) rfl rfl rfl ?_
  rintro _ _ ⟨_, ⟨rfl, rfl⟩, rfl⟩
  refine JL.val (v := .int .i64 y10) (QV.assign rfl) rfl rfl rfl ?_
  refine JL.nil ?_
  refine QJ.then_normal ?_
  refine JC.block ?_
  refine JC.seq ?_
  refine JC.region ?_
  refine JL.val (v := .int .i64 y10) (QV.move rfl) rfl rfl rfl ?_
  refine JL.val (v := .bool (decide (y10 < (0 : Int)))) (QV.lss rfl rfl) rfl rfl rfl ?_
  refine JL.val (v := .bool (decide (y10 < (0 : Int)))) (QV.assign rfl) rfl rfl rfl ?_
  refine JL.nil ?_
  refine QJ.then_normal ?_
  rcases ite_inv hm with ⟨h12, hm⟩ | ⟨h12, hm⟩
  ·
    refine JC.condT' rfl (decide_eq_true h12) ?_
    refine JC.seq ?_
    refine JC.region ?_
    refine JL.val (v := .agg (((Enc.arr 32 (Enc.int .u8))).enc K3).toArray) (QV.build (vals := []) (cells := ((Enc.arr 32 (Enc.int .u8)).enc K3).toArray) rfl (by kernel_rfl)) rfl rfl rfl ?_
    refine JL.mv (d := none) (MV.store (ss := [Seg.of (Enc.arr 32 (Enc.int .u8)) (Arr.rep 32 (0 : Int))]) 0 0 1 [Seg.of (Enc.arr 32 (Enc.int .u8)) K3] rfl tk_41 rfl rfl rfl rfl (fun w hs => ⟨rfl, one_of _ _, trivial⟩)) rfl rfl rfl ?_
    rintro _ _ ⟨rfl, rfl⟩
    refine JL.val (v := .int .i64 (5 : Int)) (QV.assign rfl) rfl rfl rfl ?_
    refine JL.nil ?_
    refine QJ.then_normal ?_
    refine JC.ret ?_
    refine QJ.block_ret ?_
    refine QJ.then_ret ?_
    obtain rfl := Option.some.inj hm
    exact QJ.body (vs := [.agg (((Enc.arr 32 (Enc.int .u8))).enc K3).toArray, .int .i64 (5 : Int)]) (.inl rfl) rfl (ResVs.cons (ResV.cell (d := none) (ty := 0) (ps := "") (af := #[]) (g := none) rfl (QV.eq (QV.loadN (ss := [Seg.of (Enc.arr 32 (Enc.int .u8)) K3]) 0 0 1 rfl tk_41 rfl rfl rfl rfl) rfl)) (ResVs.cons (ResV.tmp rfl) ResVs.nil)) [] rfl rfl (.inr trivial) ⟨rfl, rfl⟩
  ·
    refine JC.condF' rfl (decide_eq_false h12) ?_
    refine JC.seq ?_
    refine JC.region ?_
    refine JL.val (v := .int .i64 y10) (QV.move rfl) rfl rfl rfl ?_
    refine JL.val (v := s4.v) (QV.move rfl) rfl rfl rfl ?_
    refine JL.val (v := .int .i64 ((x5).length : Int)) (QV.len (Rdg.vw 2 rfl) Try.underlying57 rfl) rfl rfl rfl ?_
    refine JL.val (v := .bool (!(decide (y10 = ((x5).length : Int))))) (QV.neq rfl rfl) rfl rfl rfl ?_
    refine JL.val (v := .bool (!(decide (y10 = ((x5).length : Int))))) (QV.assign rfl) rfl rfl rfl ?_
    refine JL.nil ?_
    refine QJ.then_normal ?_
    rcases ite_inv hm with ⟨h13, hm⟩ | ⟨h13, hm⟩
    ·
      refine JC.condF' rfl (congrArg Bool.not (decide_eq_true h13)) ?_
      refine JC.skip ?_
      refine QJ.block_normal ?_
      refine QJ.then_normal ?_
      refine JC.seq ?_
      refine JC.region ?_
      refine JL.val (v := .int .i64 x2) (QV.move rfl) rfl rfl rfl ?_
      refine JL.val (v := .int .i64 x3) (QV.move rfl) rfl rfl rfl ?_
      obtain ⟨y14, hc15, hm⟩ := bind_inv hm
      refine JL.mv (d := some 30) (MV.call (Lo := []) (Lr := [Asr.blk b9 41 [Seg.of (Enc.arr 32 (Enc.int .u8)) (Arr.rep 32 (0 : Int))], Asr.blk b8 41 [Seg.of (Enc.arr 32 (Enc.int .u8)) x1], Asr.vw (Enc.arr 32 (Enc.int .u8)) (s4.v) x5]) (F79.spec (x2) (x3) _ hc15) rfl Try.func79 rfl rfl rfl [] [0, 1, 2] rfl rfl rfl trivial) rfl rfl rfl ?_
      rintro _ _ ⟨_, ⟨z16, rfl, rfl⟩, rfl⟩
      refine JL.val (v := z16.v) (QV.assign rfl) rfl rfl rfl ?_
      refine JL.nil ?_
      refine QJ.then_normal ?_
      refine JC.seq ?_
      refine JC.region ?_
      refine JL.val (v := .agg (((Enc.arr 32 (Enc.int .u8))).enc x1).toArray) (QV.eq (QV.loadN (ss := [Seg.of (Enc.arr 32 (Enc.int .u8)) x1]) 2 0 1 rfl tk_41 rfl rfl rfl rfl) rfl) rfl rfl rfl ?_
      refine JL.mv (d := some 12) (MV.alloc [Seg.of (Enc.arr 32 (Enc.int .u8)) (Arr.rep 32 (0 : Int))] z_41 rfl) rfl rfl rfl ?_
      rintro _ _ ⟨b17, rfl, rfl⟩
      refine JL.mv (d := none) (MV.store (ss := [Seg.of (Enc.arr 32 (Enc.int .u8)) (Arr.rep 32 (0 : Int))]) 0 0 1 [Seg.of (Enc.arr 32 (Enc.int .u8)) x1] rfl tk_41 rfl rfl rfl rfl (fun w hs => ⟨rfl, one_of _ _, trivial⟩)) rfl rfl rfl ?_
      rintro _ _ ⟨rfl, rfl⟩
      refine JL.nil ?_
      refine QJ.then_normal ?_
      refine JC.seq ?_
      refine JC.seq ?_
      refine JC.region ?_
      refine JL.val (v := s4.v) (QV.move rfl) rfl rfl rfl ?_
      refine JL.val (v := .int .i64 ((x5).length : Int)) (QV.len (Rdg.vw 4 rfl) Try.underlying57 rfl) rfl rfl rfl ?_
      refine JL.val (v := .int .i64 (0 : Int)) (QV.move rfl) rfl rfl rfl ?_
      refine JL.nil ?_
      refine QJ.then_normal ?_
      refine JC.cutK (Y := (Arr Int 32) × Unit) (fun y => match y with | (d18, _) => F49.j1 (d18) = some r) (fun y => match y with | (d18, _) => [(8, .pointer (some ⟨b9, 0, none⟩)), (12, .pointer (some ⟨b17, 0, none⟩))]) (fun y => match y with | (d18, _) => [Asr.blk b9 41 [Seg.of (Enc.arr 32 (Enc.int .u8)) (Arr.rep 32 (0 : Int))], Asr.blk b17 41 [Seg.of (Enc.arr 32 (Enc.int .u8)) d18]]) ?_ ?_
      ·
        rintro ⟨d18, ⟨⟩⟩ hm
        unfold F49.j1 at hm
        show QJ _ _ [(8, .pointer (some ⟨b9, 0, none⟩)), (12, .pointer (some ⟨b17, 0, none⟩))] [Asr.blk b9 41 [Seg.of (Enc.arr 32 (Enc.int .u8)) (Arr.rep 32 (0 : Int))], Asr.blk b17 41 [Seg.of (Enc.arr 32 (Enc.int .u8)) d18]] _ _
        refine QJ.then_normal ?_
        refine JC.seq ?_
        refine JC.region ?_
        refine JL.val (v := .agg (((Enc.arr 32 (Enc.int .u8))).enc d18).toArray) (QV.eq (QV.loadN (ss := [Seg.of (Enc.arr 32 (Enc.int .u8)) d18]) 1 0 1 rfl tk_41 rfl rfl rfl rfl) rfl) rfl rfl rfl ?_
        refine JL.mv (d := none) (MV.store (ss := [Seg.of (Enc.arr 32 (Enc.int .u8)) (Arr.rep 32 (0 : Int))]) 0 0 1 [Seg.of (Enc.arr 32 (Enc.int .u8)) d18] rfl tk_41 rfl rfl rfl rfl (fun w hs => ⟨rfl, one_of _ _, trivial⟩)) rfl rfl rfl ?_
        rintro _ _ ⟨rfl, rfl⟩
        refine JL.val (v := .int .i64 (0 : Int)) (QV.assign rfl) rfl rfl rfl ?_
        refine JL.nil ?_
        refine QJ.then_normal ?_
        refine JC.ret ?_
        obtain rfl := Option.some.inj hm
        exact QJ.body (vs := [.agg (((Enc.arr 32 (Enc.int .u8))).enc d18).toArray, .int .i64 (0 : Int)]) (.inl rfl) rfl (ResVs.cons (ResV.cell (d := none) (ty := 0) (ps := "") (af := #[]) (g := none) rfl (QV.eq (QV.loadN (ss := [Seg.of (Enc.arr 32 (Enc.int .u8)) d18]) 0 0 1 rfl tk_41 rfl rfl rfl rfl) rfl)) (ResVs.cons (ResV.tmp rfl) ResVs.nil)) [] rfl rfl (.inr trivial) ⟨rfl, rfl⟩
      ·
        refine JC.block ?_
        obtain ⟨y23, hl24, hmo25⟩ := bind_inv hm
        refine JC.loop (F49.b1 x5 y14) (fun x z => match x, z with | (d19, d20), _ => [(8, .pointer (some ⟨b9, 0, none⟩)), (11, z16.v), (12, .pointer (some ⟨b17, 0, none⟩)), (32, s4.v), (33, .int .i64 ((x5).length : Int)), (34, .int .i64 d20)]) (fun x z => match x, z with | (d19, d20), _ => [Asr.blk b9 41 [Seg.of (Enc.arr 32 (Enc.int .u8)) (Arr.rep 32 (0 : Int))], Asr.of 4 Enc.bool (z16.v) y14, Asr.blk b17 41 [Seg.of (Enc.arr 32 (Enc.int .u8)) d19], Asr.vw (Enc.arr 32 (Enc.int .u8)) (s4.v) x5]) (x1, (0 : Int)) () y23 hl24 [2, 1, 0, 4] (by exact ⟨rfl, rfl, rfl, rfl, rfl, rfl, trivial⟩) rfl rfl ?_
        rintro ⟨d19, d20⟩ ⟨⟩ s26 hm
        unfold F49.b1 at hm
        dsimp only at hm
        show JC _ _ _ [(8, .pointer (some ⟨b9, 0, none⟩)), (11, z16.v), (12, .pointer (some ⟨b17, 0, none⟩)), (32, s4.v), (33, .int .i64 ((x5).length : Int)), (34, .int .i64 d20)] [Asr.blk b9 41 [Seg.of (Enc.arr 32 (Enc.int .u8)) (Arr.rep 32 (0 : Int))], Asr.of 4 Enc.bool (z16.v) y14, Asr.blk b17 41 [Seg.of (Enc.arr 32 (Enc.int .u8)) d19], Asr.vw (Enc.arr 32 (Enc.int .u8)) (s4.v) x5] _ _
        refine JC.seq ?_
        refine JC.region ?_
        refine JL.val (v := .bool (decide (d20 < ((x5).length : Int)))) (QV.lss rfl rfl) rfl rfl rfl ?_
        refine JL.nil ?_
        refine QJ.then_normal ?_
        refine JC.seq ?_
        rcases ite_inv hm with ⟨h27, hm⟩ | ⟨h27, hm⟩
        ·
          refine JC.condT' rfl (decide_eq_true h27) ?_
          refine JC.skip ?_
          refine QJ.then_normal ?_
          refine JC.seq ?_
          refine JC.block ?_
          refine JC.seq ?_
          refine JC.region ?_
          refine JL.val (v := .int .i64 d20) (QV.move rfl) rfl rfl rfl ?_
          obtain ⟨h28, hm⟩ := guard_inv hm
          refine JL.val (v := .pointer (some (elA (s4.v) (Int.toNat d20 * ((Enc.arr 32 (Enc.int .u8))).sz)))) (QV.indexA (Rdg.vw 3 rfl) Try.underlying57 tk_41 rfl rfl h28) rfl rfl rfl ?_
          refine JL.val (v := .agg (((Enc.arr 32 (Enc.int .u8))).enc (gd x5 d20)).toArray) (QV.eq (QV.elN (Rdg.vw 3 rfl) tk_41 rfl h28) rfl) rfl rfl rfl ?_
          refine JL.mv (d := some 14) (MV.alloc [Seg.of (Enc.arr 32 (Enc.int .u8)) (Arr.rep 32 (0 : Int))] z_41 rfl) rfl rfl rfl ?_
          rintro _ _ ⟨b29, rfl, rfl⟩
          refine JL.val (v := .int .i64 d20) (QV.assign rfl) rfl rfl rfl ?_
          refine JL.mv (d := none) (MV.store (ss := [Seg.of (Enc.arr 32 (Enc.int .u8)) (Arr.rep 32 (0 : Int))]) 0 0 1 [Seg.of (Enc.arr 32 (Enc.int .u8)) (gd x5 d20)] rfl tk_41 rfl rfl rfl rfl (fun w hs => ⟨rfl, one_of _ _, trivial⟩)) rfl rfl rfl ?_
          rintro _ _ ⟨rfl, rfl⟩
          refine JL.nil ?_
          refine QJ.then_normal ?_
          refine JC.seq ?_
          refine JC.region ?_
          refine JL.val (v := z16.v) (QV.move rfl) rfl rfl rfl ?_
          refine JL.val (v := z16.v) (QV.move rfl) rfl rfl rfl ?_
          refine JL.val (v := .int .i64 ((y14).length : Int)) (QV.len (Rdg.of 2 rfl) Try.underlying110 rfl) rfl rfl rfl ?_
          refine JL.val (v := .int .i64 (IntKind.wrap .i64 (((y14).length : Int) - (1 : Int)))) (QV.sub rfl rfl) rfl rfl rfl ?_
          refine JL.val (v := .int .i64 d20) (QV.move rfl) rfl rfl rfl ?_
          refine JL.val (v := .int .i64 (IntKind.wrap .i64 ((IntKind.wrap .i64 (((y14).length : Int) - (1 : Int))) - d20))) (QV.sub rfl rfl) rfl rfl rfl ?_
          obtain ⟨h30, hm⟩ := guard_inv hm
          refine JL.val (v := .pointer (some (elA (z16.v) (Int.toNat (IntKind.wrap .i64 ((IntKind.wrap .i64 (((y14).length : Int) - (1 : Int))) - d20)) * (Enc.bool).sz)))) (QV.indexA (Rdg.of 2 rfl) Try.underlying110 tk_4 rfl rfl h30) rfl rfl rfl ?_
          refine JL.val (v := .bool (gd y14 (IntKind.wrap .i64 ((IntKind.wrap .i64 (((y14).length : Int) - (1 : Int))) - d20)))) (QV.el1 (Rdg.of 2 rfl) tk_4 rfl h30 rfl) rfl rfl rfl ?_
          refine JL.nil ?_
          refine QJ.then_normal ?_
          refine JC.cutK (Y := (Arr Int 32) × Unit) (fun y => match y with | (d31, _) => F49.j2 d20 (d31) = some s26) (fun y => match y with | (d31, _) => [(8, .pointer (some ⟨b9, 0, none⟩)), (11, z16.v), (12, .pointer (some ⟨b17, 0, none⟩)), (32, s4.v), (33, .int .i64 ((x5).length : Int)), (34, .int .i64 d20)]) (fun y => match y with | (d31, _) => [Asr.blk b9 41 [Seg.of (Enc.arr 32 (Enc.int .u8)) (Arr.rep 32 (0 : Int))], Asr.of 4 Enc.bool (z16.v) y14, Asr.blk b17 41 [Seg.of (Enc.arr 32 (Enc.int .u8)) d31], Asr.vw (Enc.arr 32 (Enc.int .u8)) (s4.v) x5]) ?_ ?_
          ·
            rintro ⟨d31, ⟨⟩⟩ hm
            unfold F49.j2 at hm
            show QJ _ _ [(8, .pointer (some ⟨b9, 0, none⟩)), (11, z16.v), (12, .pointer (some ⟨b17, 0, none⟩)), (32, s4.v), (33, .int .i64 ((x5).length : Int)), (34, .int .i64 d20)] [Asr.blk b9 41 [Seg.of (Enc.arr 32 (Enc.int .u8)) (Arr.rep 32 (0 : Int))], Asr.of 4 Enc.bool (z16.v) y14, Asr.blk b17 41 [Seg.of (Enc.arr 32 (Enc.int .u8)) d31], Asr.vw (Enc.arr 32 (Enc.int .u8)) (s4.v) x5] _ _
            refine QJ.block_normal ?_
            refine QJ.then_normal ?_
            refine JC.region ?_
            refine JL.val (v := .int .i64 (IntKind.wrap .i64 (d20 + (1 : Int)))) (QV.add rfl rfl) rfl rfl rfl ?_
            refine JL.val (v := .int .i64 (IntKind.wrap .i64 (d20 + (1 : Int)))) (QV.move rfl) rfl rfl rfl ?_
            refine JL.nil ?_
            obtain rfl := Option.some.inj hm
            exact QJ.round_on (d31, (IntKind.wrap .i64 (d20 + (1 : Int)))) () [0, 1, 2, 3] (by exact ⟨rfl, rfl, rfl, rfl, rfl, rfl, trivial⟩) rfl rfl
          ·
            rcases ite_inv hm with ⟨h32, hm⟩ | ⟨h32, hm⟩
            ·
              refine JC.condT' rfl h32 ?_
              refine JC.region ?_
              refine JL.val (v := .agg (((Enc.arr 32 (Enc.int .u8))).enc (gd x5 d20)).toArray) (QV.eq (QV.loadN (ss := [Seg.of (Enc.arr 32 (Enc.int .u8)) (gd x5 d20)]) 0 0 1 rfl tk_41 rfl rfl rfl rfl) rfl) rfl rfl rfl ?_
              refine JL.val (v := .agg (((Enc.arr 32 (Enc.int .u8))).enc d19).toArray) (QV.eq (QV.loadN (ss := [Seg.of (Enc.arr 32 (Enc.int .u8)) d19]) 3 0 1 rfl tk_41 rfl rfl rfl rfl) rfl) rfl rfl rfl ?_
              obtain ⟨y33, hc34, hm⟩ := bind_inv hm
              refine JL.mv (d := some 49) (MV.call (Lo := []) (Lr := [Asr.blk b29 41 [Seg.of (Enc.arr 32 (Enc.int .u8)) (gd x5 d20)], Asr.blk b9 41 [Seg.of (Enc.arr 32 (Enc.int .u8)) (Arr.rep 32 (0 : Int))], Asr.of 4 Enc.bool (z16.v) y14, Asr.blk b17 41 [Seg.of (Enc.arr 32 (Enc.int .u8)) d19], Asr.vw (Enc.arr 32 (Enc.int .u8)) (s4.v) x5]) (F47_2.spec ((gd x5 d20)) (d19) _ hc34) rfl Try.func47 rfl rfl rfl [] [0, 1, 2, 3, 4] rfl rfl rfl trivial) rfl rfl rfl ?_
              rintro _ _ ⟨_, ⟨rfl, rfl⟩, rfl⟩
              refine JL.mv (d := none) (MV.store (ss := [Seg.of (Enc.arr 32 (Enc.int .u8)) d19]) 3 0 1 [Seg.of (Enc.arr 32 (Enc.int .u8)) y33] rfl tk_41 rfl rfl rfl rfl (fun w hs => ⟨rfl, one_of _ _, trivial⟩)) rfl rfl rfl ?_
              rintro _ _ ⟨rfl, rfl⟩
              refine JL.nil ?_
              exact QJ.cut_normal (y33, ()) hm [1, 2, 3, 4] (by exact ⟨rfl, rfl, rfl, rfl, rfl, rfl, trivial⟩) rfl rfl
            ·
              refine JC.condF' rfl (bfalse h32) ?_
              refine JC.region ?_
              refine JL.val (v := .agg (((Enc.arr 32 (Enc.int .u8))).enc d19).toArray) (QV.eq (QV.loadN (ss := [Seg.of (Enc.arr 32 (Enc.int .u8)) d19]) 3 0 1 rfl tk_41 rfl rfl rfl rfl) rfl) rfl rfl rfl ?_
              refine JL.val (v := .agg (((Enc.arr 32 (Enc.int .u8))).enc (gd x5 d20)).toArray) (QV.eq (QV.loadN (ss := [Seg.of (Enc.arr 32 (Enc.int .u8)) (gd x5 d20)]) 0 0 1 rfl tk_41 rfl rfl rfl rfl) rfl) rfl rfl rfl ?_
              obtain ⟨y35, hc36, hm⟩ := bind_inv hm
              refine JL.mv (d := some 52) (MV.call (Lo := []) (Lr := [Asr.blk b29 41 [Seg.of (Enc.arr 32 (Enc.int .u8)) (gd x5 d20)], Asr.blk b9 41 [Seg.of (Enc.arr 32 (Enc.int .u8)) (Arr.rep 32 (0 : Int))], Asr.of 4 Enc.bool (z16.v) y14, Asr.blk b17 41 [Seg.of (Enc.arr 32 (Enc.int .u8)) d19], Asr.vw (Enc.arr 32 (Enc.int .u8)) (s4.v) x5]) (F47_3.spec (d19) ((gd x5 d20)) _ hc36) rfl Try.func47 rfl rfl rfl [] [0, 1, 2, 3, 4] rfl rfl rfl trivial) rfl rfl rfl ?_
              rintro _ _ ⟨_, ⟨rfl, rfl⟩, rfl⟩
              refine JL.mv (d := none) (MV.store (ss := [Seg.of (Enc.arr 32 (Enc.int .u8)) d19]) 3 0 1 [Seg.of (Enc.arr 32 (Enc.int .u8)) y35] rfl tk_41 rfl rfl rfl rfl (fun w hs => ⟨rfl, one_of _ _, trivial⟩)) rfl rfl rfl ?_
              rintro _ _ ⟨rfl, rfl⟩
              refine JL.nil ?_
              exact QJ.cut_normal (y35, ()) hm [1, 2, 3, 4] (by exact ⟨rfl, rfl, rfl, rfl, rfl, rfl, trivial⟩) rfl rfl
        ·
          refine JC.condF' rfl (decide_eq_false h27) ?_
          refine JC.exit ?_
          refine QJ.then_exit ?_
          obtain rfl := Option.some.inj hm
          refine QJ.round_exit (fun hy => ?_)
          subst hy
          refine QJ.block_hit ?_
          exact QJ.cut_normal (d19, ()) hmo25 [0, 2] (by exact ⟨rfl, rfl, trivial⟩) rfl rfl
    ·
      refine JC.condT' rfl (congrArg Bool.not (decide_eq_false h13)) ?_
      refine JC.seq ?_
      refine JC.region ?_
      refine JL.val (v := .agg (((Enc.arr 32 (Enc.int .u8))).enc K3).toArray) (QV.build (vals := []) (cells := ((Enc.arr 32 (Enc.int .u8)).enc K3).toArray) rfl (by kernel_rfl)) rfl rfl rfl ?_
      refine JL.mv (d := none) (MV.store (ss := [Seg.of (Enc.arr 32 (Enc.int .u8)) (Arr.rep 32 (0 : Int))]) 0 0 1 [Seg.of (Enc.arr 32 (Enc.int .u8)) K3] rfl tk_41 rfl rfl rfl rfl (fun w hs => ⟨rfl, one_of _ _, trivial⟩)) rfl rfl rfl ?_
      rintro _ _ ⟨rfl, rfl⟩
      refine JL.val (v := .int .i64 (3 : Int)) (QV.assign rfl) rfl rfl rfl ?_
      refine JL.nil ?_
      refine QJ.then_normal ?_
      refine JC.ret ?_
      refine QJ.block_ret ?_
      refine QJ.then_ret ?_
      obtain rfl := Option.some.inj hm
      exact QJ.body (vs := [.agg (((Enc.arr 32 (Enc.int .u8))).enc K3).toArray, .int .i64 (3 : Int)]) (.inl rfl) rfl (ResVs.cons (ResV.cell (d := none) (ty := 0) (ps := "") (af := #[]) (g := none) rfl (QV.eq (QV.loadN (ss := [Seg.of (Enc.arr 32 (Enc.int .u8)) K3]) 0 0 1 rfl tk_41 rfl rfl rfl rfl) rfl)) (ResVs.cons (ResV.tmp rfl) ResVs.nil)) [] rfl rfl (.inr trivial) ⟨rfl, rfl⟩

/-! ### 52: drogher/drogherref21.Lead -/
noncomputable def F52.g (recM : (Arr Int 32) → (Int) → (Int) → (List (Arr Int 32)) → Option (Arr Int 32)) (x1 : (Arr Int 32)) (x2 : Int) (x3 : Int) (x5 : List (Arr Int 32)) : Option (Arr Int 32) :=
  (if x3 = (1 : Int) then some x1 else ((F77.m (x3)).bind fun y11 => (if x2 < y11 then (if 0 ≤ (0 : Int) ∧ (0 : Int) ≤ (IntKind.wrap .i64 (((x5).length : Int) - (1 : Int))) ∧ (IntKind.wrap .i64 (((x5).length : Int) - (1 : Int))) ≤ ((x5).length : Int) then (if 0 ≤ (IntKind.wrap .i64 (((x5).length : Int) - (1 : Int))) ∧ (IntKind.wrap .i64 (((x5).length : Int) - (1 : Int))) < ((x5).length : Int) then ((recM (x1) (x2) (y11) ((subL x5 (0 : Int) (IntKind.wrap .i64 (((x5).length : Int) - (1 : Int)))))).bind fun y16 => ((F48.m (y16) ((gd x5 (IntKind.wrap .i64 (((x5).length : Int) - (1 : Int)))))).bind fun y18 => some y18)) else none) else none) else (if 0 ≤ (IntKind.wrap .i64 (((x5).length : Int) - (1 : Int))) ∧ (IntKind.wrap .i64 (((x5).length : Int) - (1 : Int))) < ((x5).length : Int) then (if 0 ≤ (0 : Int) ∧ (0 : Int) ≤ (IntKind.wrap .i64 (((x5).length : Int) - (1 : Int))) ∧ (IntKind.wrap .i64 (((x5).length : Int) - (1 : Int))) ≤ ((x5).length : Int) then ((recM (x1) ((IntKind.wrap .i64 (x2 - y11))) ((IntKind.wrap .i64 (x3 - y11))) ((subL x5 (0 : Int) (IntKind.wrap .i64 (((x5).length : Int) - (1 : Int)))))).bind fun y22 => ((F48.m ((gd x5 (IntKind.wrap .i64 (((x5).length : Int) - (1 : Int))))) (y22)).bind fun y24 => some y24)) else none) else none))))
noncomputable def F52.mF : Nat → (Arr Int 32) → (Int) → (Int) → (List (Arr Int 32)) → Option (Arr Int 32)
  | 0 => fun _ _ _ _ => none
  | n + 1 => fun x1 x2 x3 x5 => F52.g (F52.mF n) x1 x2 x3 x5
noncomputable def F52.m (x1 : (Arr Int 32)) (x2 : Int) (x3 : Int) (x5 : List (Arr Int 32)) : Option (Arr Int 32) := evt (fun n => F52.mF n x1 x2 x3 x5)
set_option maxRecDepth 100000 in
set_option maxHeartbeats 4000000 in
theorem F52.specG (recM : (Arr Int 32) → (Int) → (Int) → (List (Arr Int 32)) → Option (Arr Int 32)) (ih : ∀ (s4 : SlV) (x1 : (Arr Int 32)) (x2 : Int) (x3 : Int) (x5 : List (Arr Int 32)) (r : (Arr Int 32)) (_hm : recM x1 x2 x3 x5 = some r), Ctr Try.prog false 52 [.agg (((Enc.arr 32 (Enc.int .u8))).enc x1).toArray, .int .i64 x2, .int .i64 x3, s4.v] [Asr.vw (Enc.arr 32 (Enc.int .u8)) (s4.v) x5] (fun v L' => v = .agg (((Enc.arr 32 (Enc.int .u8))).enc r).toArray ∧ L' = [])) (s4 : SlV) (x1 : (Arr Int 32)) (x2 : Int) (x3 : Int) (x5 : List (Arr Int 32)) (r : (Arr Int 32)) (hm : F52.g recM x1 x2 x3 x5 = some r) :
    Ctr Try.prog false 52 [.agg (((Enc.arr 32 (Enc.int .u8))).enc x1).toArray, .int .i64 x2, .int .i64 x3, s4.v] [Asr.vw (Enc.arr 32 (Enc.int .u8)) (s4.v) x5] (fun v L' => v = .agg (((Enc.arr 32 (Enc.int .u8))).enc r).toArray ∧ L' = []) := by
  refine Ctr.intro (n := 50) (env := [(0, .agg (((Enc.arr 32 (Enc.int .u8))).enc x1).toArray), (1, .int .i64 x2), (2, .int .i64 x3), (3, s4.v)]) Try.func52 rfl rfl rfl rfl (fun c => ?_)
  unfold F52.g at hm
  refine JC.seq ?_
  refine JC.region ?_
  refine JL.mv (d := some 4) (MV.box [Seg.of (Enc.arr 32 (Enc.int .u8)) x1] rfl (fun w hs => rfl)) rfl rfl rfl ?_
  rintro _ _ ⟨b8, rfl, rfl⟩
  refine JL.mv (d := some 8) (MV.alloc [Seg.of (Enc.arr 32 (Enc.int .u8)) (Arr.rep 32 (0 : Int))] z_39 rfl) rfl rfl rfl ?_
  rintro _ _ ⟨b9, rfl, rfl⟩
  refine JL.nil ?_
  refine QJ.then_normal ?_
  refine JC.seq ?_
  refine JC.seq ?_
  refine JC.region ?_
  refine JL.val (v := .int .i64 x3) (QV.move rfl) rfl rfl rfl ?_
  refine JL.val (v := .bool (decide (x3 = (1 : Int)))) (QV.eql rfl rfl) rfl rfl rfl ?_
  refine JL.nil ?_
  refine QJ.then_normal ?_
  rcases ite_inv hm with ⟨h10, hm⟩ | ⟨h10, hm⟩
  ·
    refine JC.condT' rfl (decide_eq_true h10) ?_
    refine JC.seq ?_
    refine JC.region ?_
    refine JL.val (v := .agg (((Enc.arr 32 (Enc.int .u8))).enc x1).toArray) (QV.eq (QV.loadN (ss := [Seg.of (Enc.arr 32 (Enc.int .u8)) x1]) 1 0 1 rfl tk_39 rfl rfl rfl rfl) rfl) rfl rfl rfl ?_
    refine JL.mv (d := none) (MV.store (ss := [Seg.of (Enc.arr 32 (Enc.int .u8)) (Arr.rep 32 (0 : Int))]) 0 0 1 [Seg.of (Enc.arr 32 (Enc.int .u8)) x1] rfl tk_39 rfl rfl rfl rfl (fun w hs => ⟨rfl, one_of _ _, trivial⟩)) rfl rfl rfl ?_
    rintro _ _ ⟨rfl, rfl⟩
    refine JL.nil ?_
    refine QJ.then_normal ?_
    refine JC.ret ?_
    refine QJ.then_ret ?_
    obtain rfl := Option.some.inj hm
    exact QJ.body (vs := [.agg (((Enc.arr 32 (Enc.int .u8))).enc x1).toArray]) (.inl rfl) rfl (ResVs.cons (ResV.cell (d := none) (ty := 0) (ps := "") (af := #[]) (g := none) rfl (QV.eq (QV.loadN (ss := [Seg.of (Enc.arr 32 (Enc.int .u8)) x1]) 0 0 1 rfl tk_39 rfl rfl rfl rfl) rfl)) ResVs.nil) [] rfl rfl (.inr trivial) ⟨rfl, rfl⟩
  ·
    refine JC.condF' rfl (decide_eq_false h10) ?_
    refine JC.skip ?_
    refine QJ.then_normal ?_
    refine JC.seq ?_
    refine JC.region ?_
    refine JL.val (v := s4.v) (QV.move rfl) rfl rfl rfl ?_
    refine JL.val (v := .int .i64 ((x5).length : Int)) (QV.len (Rdg.vw 2 rfl) Try.underlying55 rfl) rfl rfl rfl ?_
    refine JL.val (v := .int .i64 (IntKind.wrap .i64 (((x5).length : Int) - (1 : Int)))) (QV.sub rfl rfl) rfl rfl rfl ?_
    refine JL.val (v := .int .i64 (IntKind.wrap .i64 (((x5).length : Int) - (1 : Int)))) (QV.assign rfl) rfl rfl rfl ?_
    refine JL.nil ?_
    refine QJ.then_normal ?_
    refine JC.seq ?_
    refine JC.region ?_
    refine JL.val (v := .int .i64 x3) (QV.move rfl) rfl rfl rfl ?_
    obtain ⟨y11, hc12, hm⟩ := bind_inv hm
    refine JL.mv (d := some 18) (MV.call (Lo := []) (Lr := [Asr.blk b9 39 [Seg.of (Enc.arr 32 (Enc.int .u8)) (Arr.rep 32 (0 : Int))], Asr.blk b8 39 [Seg.of (Enc.arr 32 (Enc.int .u8)) x1], Asr.vw (Enc.arr 32 (Enc.int .u8)) (s4.v) x5]) (F77.spec (x3) _ hc12) rfl Try.func77 rfl rfl rfl [] [0, 1, 2] rfl rfl rfl trivial) rfl rfl rfl ?_
    rintro _ _ ⟨_, ⟨rfl, rfl⟩, rfl⟩
    refine JL.val (v := .int .i64 y11) (QV.assign rfl) rfl rfl rfl ?_
    refine JL.nil ?_
    refine QJ.then_normal ?_
    refine JC.seq ?_
    refine JC.seq ?_
    refine JC.region ?_
    refine JL.val (v := .int .i64 x2) (QV.move rfl) rfl rfl rfl ?_
    refine JL.val (v := .int .i64 y11) (QV.move rfl) rfl rfl rfl ?_
    refine JL.val (v := .bool (decide (x2 < y11))) (QV.lss rfl rfl) rfl rfl rfl ?_
    refine JL.nil ?_
    refine QJ.then_normal ?_
    rcases ite_inv hm with ⟨h13, hm⟩ | ⟨h13, hm⟩
    ·
      refine JC.condT' rfl (decide_eq_true h13) ?_
      refine JC.seq ?_
      refine JC.regionT [Asr.blk b8 39 [Seg.of (Enc.arr 32 (Enc.int .u8)) x1], Asr.vw (Enc.arr 32 (Enc.int .u8)) (s4.v) x5] (fun t => false) [(0, true), (1, true), (2, true), (3, true), (4, true), (5, true), (7, true), (8, true), (9, true), (10, true), (6, false), (11, false), (12, false)] (by kernel_rfl) (by kernel_rfl) (by kernel_rfl) rfl (fun hsel => ?_)
      refine JT.take (i := 0) (v := .agg (((Enc.arr 32 (Enc.int .u8))).enc x1).toArray) hsel rfl (QV.eq (QV.loadN (ss := [Seg.of (Enc.arr 32 (Enc.int .u8)) x1]) 0 0 1 rfl tk_39 rfl rfl rfl rfl) rfl) rfl rfl rfl [1, 2] rfl rfl ?_
      refine JT.take (i := 1) (v := .int .i64 x2) hsel rfl (QV.move rfl) rfl rfl rfl [1, 2] rfl rfl ?_
      refine JT.take (i := 2) (v := .int .i64 y11) hsel rfl (QV.move rfl) rfl rfl rfl [1, 2] rfl rfl ?_
      refine JT.take (i := 3) (v := s4.v) hsel rfl (QV.move rfl) rfl rfl rfl [1, 2] rfl rfl ?_
      refine JT.take (i := 4) (v := .int .i64 (IntKind.wrap .i64 (((x5).length : Int) - (1 : Int)))) hsel rfl (QV.move rfl) rfl rfl rfl [1, 2] rfl rfl ?_
      obtain ⟨h14, hm⟩ := guard_inv hm
      refine JT.take (i := 5) (v := (SlV.sub ((Enc.arr 32 (Enc.int .u8))).sz s4 (0 : Int) (IntKind.wrap .i64 (((x5).length : Int) - (1 : Int)))).v) hsel rfl (QV.sliceV (Rdg.vw 1 rfl) Try.underlying55 tk_39 rfl rfl rfl h14) rfl rfl rfl [1, 2] rfl rfl ?_
      refine JT.take (i := 7) (v := s4.v) hsel rfl (QV.move rfl) rfl rfl rfl [1, 2] rfl rfl ?_
      refine JT.take (i := 8) (v := .int .i64 (IntKind.wrap .i64 (((x5).length : Int) - (1 : Int)))) hsel rfl (QV.move rfl) rfl rfl rfl [1, 2] rfl rfl ?_
      obtain ⟨h15, hm⟩ := guard_inv hm
      refine JT.take (i := 9) (v := .pointer (some (elA (s4.v) (Int.toNat (IntKind.wrap .i64 (((x5).length : Int) - (1 : Int))) * ((Enc.arr 32 (Enc.int .u8))).sz)))) hsel rfl (QV.indexA (Rdg.vw 1 rfl) Try.underlying55 tk_39 rfl rfl h15) rfl rfl rfl [1, 2] rfl rfl ?_
      refine JT.take (i := 10) (v := .agg (((Enc.arr 32 (Enc.int .u8))).enc (gd x5 (IntKind.wrap .i64 (((x5).length : Int) - (1 : Int))))).toArray) hsel rfl (QV.eq (QV.elN (Rdg.vw 1 rfl) tk_39 rfl h15) rfl) rfl rfl rfl [1, 2] rfl rfl ?_
      obtain ⟨y16, hc17, hm⟩ := bind_inv hm
      refine JT.only (i := 6) (d := some 28) rfl (MV.call (Lo := []) (Lr := [Asr.blk b9 39 [Seg.of (Enc.arr 32 (Enc.int .u8)) (Arr.rep 32 (0 : Int))], Asr.blk b8 39 [Seg.of (Enc.arr 32 (Enc.int .u8)) x1], Asr.vw (Enc.arr 32 (Enc.int .u8)) (s4.v) x5]) (ih ((SlV.sub ((Enc.arr 32 (Enc.int .u8))).sz s4 (0 : Int) (IntKind.wrap .i64 (((x5).length : Int) - (1 : Int))))) (x1) (x2) (y11) ((subL x5 (0 : Int) (IntKind.wrap .i64 (((x5).length : Int) - (1 : Int))))) _ hc17) rfl Try.func52 rfl rfl rfl [] [0, 1, 2] rfl rfl rfl ⟨((Drv.vw 2 rfl).subV h14), trivial⟩) rfl rfl rfl ?_
      rintro _ _ ⟨_, ⟨rfl, rfl⟩, rfl⟩
      refine ⟨fun _ => ⟨[1, 2], rfl, rfl⟩, ?_⟩
      obtain ⟨y18, hc19, hm⟩ := bind_inv hm
      refine JT.only (i := 11) (d := some 33) rfl (MV.call (Lo := []) (Lr := [Asr.blk b9 39 [Seg.of (Enc.arr 32 (Enc.int .u8)) (Arr.rep 32 (0 : Int))], Asr.blk b8 39 [Seg.of (Enc.arr 32 (Enc.int .u8)) x1], Asr.vw (Enc.arr 32 (Enc.int .u8)) (s4.v) x5]) (F48.spec (y16) ((gd x5 (IntKind.wrap .i64 (((x5).length : Int) - (1 : Int))))) _ hc19) rfl Try.func48 rfl rfl rfl [] [0, 1, 2] rfl rfl rfl trivial) rfl rfl rfl ?_
      rintro _ _ ⟨_, ⟨rfl, rfl⟩, rfl⟩
      refine ⟨fun _ => ⟨[1, 2], rfl, rfl⟩, ?_⟩
      refine JT.only (i := 12) (d := none) rfl (MV.store (ss := [Seg.of (Enc.arr 32 (Enc.int .u8)) (Arr.rep 32 (0 : Int))]) 0 0 1 [Seg.of (Enc.arr 32 (Enc.int .u8)) y18] rfl tk_39 rfl rfl rfl rfl (fun w hs => ⟨rfl, one_of _ _, trivial⟩)) rfl rfl rfl ?_
      rintro _ _ ⟨rfl, rfl⟩
      refine ⟨fun _ => ⟨[1, 2], rfl, rfl⟩, ?_⟩
      refine JT.grow [Asr.blk b9 39 [Seg.of (Enc.arr 32 (Enc.int .u8)) y18], Asr.blk b8 39 [Seg.of (Enc.arr 32 (Enc.int .u8)) x1], Asr.vw (Enc.arr 32 (Enc.int .u8)) (s4.v) x5] [1, 2] rfl rfl ?_
      refine JT.nil ?_
      refine QJ.then_normal ?_
      refine JC.ret ?_
      refine QJ.then_ret ?_
      obtain rfl := Option.some.inj hm
      exact QJ.body (vs := [.agg (((Enc.arr 32 (Enc.int .u8))).enc y18).toArray]) (.inl rfl) rfl (ResVs.cons (ResV.cell (d := none) (ty := 0) (ps := "") (af := #[]) (g := none) rfl (QV.eq (QV.loadN (ss := [Seg.of (Enc.arr 32 (Enc.int .u8)) y18]) 0 0 1 rfl tk_39 rfl rfl rfl rfl) rfl)) ResVs.nil) [] rfl rfl (.inr trivial) ⟨rfl, rfl⟩
    ·
      refine JC.condF' rfl (decide_eq_false h13) ?_
      refine JC.skip ?_
      refine QJ.then_normal ?_
      refine JC.seq ?_
      refine JC.regionT [Asr.blk b8 39 [Seg.of (Enc.arr 32 (Enc.int .u8)) x1], Asr.vw (Enc.arr 32 (Enc.int .u8)) (s4.v) x5] (fun t => false) [(0, true), (1, true), (2, true), (3, true), (4, true), (5, true), (6, true), (7, true), (8, true), (9, true), (10, true), (11, true), (12, false), (13, false), (14, false), (15, false), (16, false)] (by kernel_rfl) (by kernel_rfl) (by kernel_rfl) rfl (fun hsel => ?_)
      refine JT.take (i := 0) (v := s4.v) hsel rfl (QV.move rfl) rfl rfl rfl [1, 2] rfl rfl ?_
      refine JT.take (i := 1) (v := .int .i64 (IntKind.wrap .i64 (((x5).length : Int) - (1 : Int)))) hsel rfl (QV.move rfl) rfl rfl rfl [1, 2] rfl rfl ?_
      obtain ⟨h20, hm⟩ := guard_inv hm
      refine JT.take (i := 2) (v := .pointer (some (elA (s4.v) (Int.toNat (IntKind.wrap .i64 (((x5).length : Int) - (1 : Int))) * ((Enc.arr 32 (Enc.int .u8))).sz)))) hsel rfl (QV.indexA (Rdg.vw 1 rfl) Try.underlying55 tk_39 rfl rfl h20) rfl rfl rfl [1, 2] rfl rfl ?_
      refine JT.take (i := 3) (v := .agg (((Enc.arr 32 (Enc.int .u8))).enc (gd x5 (IntKind.wrap .i64 (((x5).length : Int) - (1 : Int))))).toArray) hsel rfl (QV.eq (QV.elN (Rdg.vw 1 rfl) tk_39 rfl h20) rfl) rfl rfl rfl [1, 2] rfl rfl ?_
      refine JT.take (i := 4) (v := .agg (((Enc.arr 32 (Enc.int .u8))).enc x1).toArray) hsel rfl (QV.eq (QV.loadN (ss := [Seg.of (Enc.arr 32 (Enc.int .u8)) x1]) 0 0 1 rfl tk_39 rfl rfl rfl rfl) rfl) rfl rfl rfl [1, 2] rfl rfl ?_
      refine JT.take (i := 5) (v := .int .i64 x2) hsel rfl (QV.move rfl) rfl rfl rfl [1, 2] rfl rfl ?_
      refine JT.take (i := 6) (v := .int .i64 y11) hsel rfl (QV.move rfl) rfl rfl rfl [1, 2] rfl rfl ?_
      refine JT.take (i := 7) (v := .int .i64 (IntKind.wrap .i64 (x2 - y11))) hsel rfl (QV.sub rfl rfl) rfl rfl rfl [1, 2] rfl rfl ?_
      refine JT.take (i := 8) (v := .int .i64 x3) hsel rfl (QV.move rfl) rfl rfl rfl [1, 2] rfl rfl ?_
      refine JT.take (i := 9) (v := .int .i64 y11) hsel rfl (QV.move rfl) rfl rfl rfl [1, 2] rfl rfl ?_
      refine JT.take (i := 10) (v := .int .i64 (IntKind.wrap .i64 (x3 - y11))) hsel rfl (QV.sub rfl rfl) rfl rfl rfl [1, 2] rfl rfl ?_
      refine JT.take (i := 11) (v := s4.v) hsel rfl (QV.move rfl) rfl rfl rfl [1, 2] rfl rfl ?_
      refine JT.only (i := 12) (d := some 46) rfl (MV.ofQV (v := .int .i64 (IntKind.wrap .i64 (((x5).length : Int) - (1 : Int)))) (QV.move rfl)) rfl rfl rfl ?_
      rintro _ _ ⟨rfl, rfl⟩
      refine ⟨fun _ => ⟨[1, 2], rfl, rfl⟩, ?_⟩
      obtain ⟨h21, hm⟩ := guard_inv hm
      refine JT.only (i := 13) (d := some 47) rfl (MV.ofQV (v := (SlV.sub ((Enc.arr 32 (Enc.int .u8))).sz s4 (0 : Int) (IntKind.wrap .i64 (((x5).length : Int) - (1 : Int)))).v) (QV.sliceV (Rdg.vw 2 rfl) Try.underlying55 tk_39 rfl rfl rfl h21)) rfl rfl rfl ?_
      rintro _ _ ⟨rfl, rfl⟩
      refine ⟨fun _ => ⟨[1, 2], rfl, rfl⟩, ?_⟩
      obtain ⟨y22, hc23, hm⟩ := bind_inv hm
      refine JT.only (i := 14) (d := some 48) rfl (MV.call (Lo := []) (Lr := [Asr.blk b9 39 [Seg.of (Enc.arr 32 (Enc.int .u8)) (Arr.rep 32 (0 : Int))], Asr.blk b8 39 [Seg.of (Enc.arr 32 (Enc.int .u8)) x1], Asr.vw (Enc.arr 32 (Enc.int .u8)) (s4.v) x5]) (ih ((SlV.sub ((Enc.arr 32 (Enc.int .u8))).sz s4 (0 : Int) (IntKind.wrap .i64 (((x5).length : Int) - (1 : Int))))) (x1) ((IntKind.wrap .i64 (x2 - y11))) ((IntKind.wrap .i64 (x3 - y11))) ((subL x5 (0 : Int) (IntKind.wrap .i64 (((x5).length : Int) - (1 : Int))))) _ hc23) rfl Try.func52 rfl rfl rfl [] [0, 1, 2] rfl rfl rfl ⟨((Drv.vw 2 rfl).subV h21), trivial⟩) rfl rfl rfl ?_
      rintro _ _ ⟨_, ⟨rfl, rfl⟩, rfl⟩
      refine ⟨fun _ => ⟨[1, 2], rfl, rfl⟩, ?_⟩
      obtain ⟨y24, hc25, hm⟩ := bind_inv hm
      refine JT.only (i := 15) (d := some 49) rfl (MV.call (Lo := []) (Lr := [Asr.blk b9 39 [Seg.of (Enc.arr 32 (Enc.int .u8)) (Arr.rep 32 (0 : Int))], Asr.blk b8 39 [Seg.of (Enc.arr 32 (Enc.int .u8)) x1], Asr.vw (Enc.arr 32 (Enc.int .u8)) (s4.v) x5]) (F48.spec ((gd x5 (IntKind.wrap .i64 (((x5).length : Int) - (1 : Int))))) (y22) _ hc25) rfl Try.func48 rfl rfl rfl [] [0, 1, 2] rfl rfl rfl trivial) rfl rfl rfl ?_
      rintro _ _ ⟨_, ⟨rfl, rfl⟩, rfl⟩
      refine ⟨fun _ => ⟨[1, 2], rfl, rfl⟩, ?_⟩
      refine JT.only (i := 16) (d := none) rfl (MV.store (ss := [Seg.of (Enc.arr 32 (Enc.int .u8)) (Arr.rep 32 (0 : Int))]) 0 0 1 [Seg.of (Enc.arr 32 (Enc.int .u8)) y24] rfl tk_39 rfl rfl rfl rfl (fun w hs => ⟨rfl, one_of _ _, trivial⟩)) rfl rfl rfl ?_
      rintro _ _ ⟨rfl, rfl⟩
      refine ⟨fun _ => ⟨[1, 2], rfl, rfl⟩, ?_⟩
      refine JT.grow [Asr.blk b9 39 [Seg.of (Enc.arr 32 (Enc.int .u8)) y24], Asr.blk b8 39 [Seg.of (Enc.arr 32 (Enc.int .u8)) x1], Asr.vw (Enc.arr 32 (Enc.int .u8)) (s4.v) x5] [1, 2] rfl rfl ?_
      refine JT.nil ?_
      refine QJ.then_normal ?_
      refine JC.ret ?_
      obtain rfl := Option.some.inj hm
      exact QJ.body (vs := [.agg (((Enc.arr 32 (Enc.int .u8))).enc y24).toArray]) (.inl rfl) rfl (ResVs.cons (ResV.cell (d := none) (ty := 0) (ps := "") (af := #[]) (g := none) rfl (QV.eq (QV.loadN (ss := [Seg.of (Enc.arr 32 (Enc.int .u8)) y24]) 0 0 1 rfl tk_39 rfl rfl rfl rfl) rfl)) ResVs.nil) [] rfl rfl (.inr trivial) ⟨rfl, rfl⟩
theorem F52.specF : ∀ (n : Nat) (s4 : SlV) (x1 : (Arr Int 32)) (x2 : Int) (x3 : Int) (x5 : List (Arr Int 32)) (r : (Arr Int 32)) (_hm : F52.mF n x1 x2 x3 x5 = some r), Ctr Try.prog false 52 [.agg (((Enc.arr 32 (Enc.int .u8))).enc x1).toArray, .int .i64 x2, .int .i64 x3, s4.v] [Asr.vw (Enc.arr 32 (Enc.int .u8)) (s4.v) x5] (fun v L' => v = .agg (((Enc.arr 32 (Enc.int .u8))).enc r).toArray ∧ L' = [])
  | 0, s4, x1, x2, x3, x5, r, hm => by cases hm
  | n + 1, s4, x1, x2, x3, x5, r, hm => F52.specG (F52.mF n) (F52.specF n) s4 x1 x2 x3 x5 r hm
theorem F52.spec (s4 : SlV) (x1 : (Arr Int 32)) (x2 : Int) (x3 : Int) (x5 : List (Arr Int 32)) (r : (Arr Int 32)) (hm : F52.m x1 x2 x3 x5 = some r) :
    Ctr Try.prog false 52 [.agg (((Enc.arr 32 (Enc.int .u8))).enc x1).toArray, .int .i64 x2, .int .i64 x3, s4.v] [Asr.vw (Enc.arr 32 (Enc.int .u8)) (s4.v) x5] (fun v L' => v = .agg (((Enc.arr 32 (Enc.int .u8))).enc r).toArray ∧ L' = []) := by
  obtain ⟨n, hn⟩ := evt_some hm
  exact F52.specF n s4 x1 x2 x3 x5 r hn

end Go.Proofs.Ytmedbpiapeiobaa
