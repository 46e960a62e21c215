/- Written by gen.py: functions and their contracts. -/
import Derived.Test.YtmedbpiapeiobaaOctx0
namespace Go.Proofs.Ytmedbpiapeiobaa
open Go Go.Eng Go.Proofs
set_option linter.unusedVariables false
set_option linter.unusedSimpArgs false
/-! ### 71: drogher/drogherref02.Plain -/
noncomputable def F71.j2  (d9 : Int) : Option Int :=
  some d9
noncomputable def F71.b1 (d5 : Int) (y6 : (List Int)) : (Int × Int) → Option ((Int × Int) ⊕ Int)
  | (d10, d11) => (if d11 < ((y6).length : Int) then (if 0 ≤ d11 ∧ d11 < ((y6).length : Int) then some (.inl ((IntKind.wrap .i64 ((IntKind.wrap .i64 ((IntKind.wrap .i64 (d10 + d5)) - (1 : Int))) - (gd y6 d11))), (IntKind.wrap .i64 (d11 + (1 : Int))))) else none) else some (.inr d10))
noncomputable def F71.j1 (x2 : List Int) (x3 : Int) (d5 : Int) : Option Int :=
  ((F23.m (x2) (x3)).bind fun y6 => ((loop (F71.b1 d5 y6) ((0 : Int), (0 : Int))).bind fun y => match y with | d9 => F71.j2 (d9)))
noncomputable def F71.b2 (x3 : Int) : (Int × Int) → Option ((Int × Int) ⊕ Int)
  | (d20, d21) => (if d21 < x3 then some (.inl ((IntKind.wrap .i64 ((2 : Int) * d20)), (IntKind.wrap .i64 (d21 + (1 : Int))))) else some (.inr d20))
noncomputable def F71.m (x2 : List Int) (x3 : Int) : Option Int :=
  ((loop (F71.b2 x3) ((1 : Int), (0 : Int))).bind fun y => match y with | d5 => F71.j1 x2 x3 (d5))
set_option maxRecDepth 100000 in
set_option maxHeartbeats 4000000 in
theorem F71.spec (s1 : SlV) (x2 : List Int) (x3 : Int) (r : Int) (hm : F71.m x2 x3 = some r) :
    Ctr Try.prog false 71 [s1.v, .int .i64 x3] [Asr.vw (Enc.int .u8) (s1.v) x2] (fun v L' => v = .int .i64 r ∧ L' = []) := by
  refine Ctr.intro (n := 36) (env := [(0, s1.v), (1, .int .i64 x3)]) Try.func71 rfl rfl rfl rfl (fun c => ?_)
  unfold F71.m at hm
  refine JC.seq ?_
  refine JC.region ?_
  refine JL.val (v := .int .i64 (0 : Int)) (QV.assign rfl) rfl rfl rfl ?_
  refine JL.nil ?_
  refine QJ.then_normal ?_
  refine JC.seq ?_
  refine JC.region ?_
  refine JL.val (v := .int .i64 (1 : Int)) (QV.assign rfl) rfl rfl rfl ?_
  refine JL.nil ?_
  refine QJ.then_normal ?_
  refine JC.seq ?_
  refine JC.seq ?_
  refine JC.region ?_
  refine JL.val (v := .int .i64 (0 : Int)) (QV.assign rfl) rfl rfl rfl ?_
  refine JL.nil ?_
  refine QJ.then_normal ?_
  refine JC.cutK (Y := Int × Unit) (fun y => match y with | (d5, _) => F71.j1 x2 x3 (d5) = some r) (fun y => match y with | (d5, _) => [(0, s1.v), (1, .int .i64 x3), (5, .int .i64 d5)]) (fun y => match y with | (d5, _) => [Asr.vw (Enc.int .u8) (s1.v) x2]) ?_ ?_
  ·
    rintro ⟨d5, ⟨⟩⟩ hm
    unfold F71.j1 at hm
    show QJ _ _ [(0, s1.v), (1, .int .i64 x3), (5, .int .i64 d5)] [Asr.vw (Enc.int .u8) (s1.v) x2] _ _
    refine QJ.then_normal ?_
    refine JC.seq ?_
    refine JC.region ?_
    refine JL.val (v := s1.v) (QV.move rfl) rfl rfl rfl ?_
    refine JL.val (v := .int .i64 x3) (QV.move rfl) rfl rfl rfl ?_
    obtain ⟨y6, hc7, hm⟩ := bind_inv hm
    refine JL.mv (d := some 19) (MV.call (Lo := []) (Lr := [Asr.vw (Enc.int .u8) (s1.v) x2]) (F23.spec (s1) (x2) (x3) _ hc7) rfl Try.func23 rfl rfl rfl [] [0] rfl rfl rfl ⟨(Drv.vw 0 rfl), trivial⟩) rfl rfl rfl ?_
    rintro _ _ ⟨_, ⟨z8, rfl, rfl⟩, rfl⟩
    refine JL.val (v := z8.v) (QV.assign rfl) rfl rfl rfl ?_
    refine JL.nil ?_
    refine QJ.then_normal ?_
    refine JC.seq ?_
    refine JC.region ?_
    refine JL.val (v := .int .i64 (0 : Int)) (QV.assign rfl) rfl rfl rfl ?_
    refine JL.nil ?_
    refine QJ.then_normal ?_
    refine JC.seq ?_
    refine JC.seq ?_
    refine JC.region ?_
    refine JL.val (v := z8.v) (QV.move rfl) rfl rfl rfl ?_
    refine JL.val (v := .int .i64 ((y6).length : Int)) (QV.len (Rdg.of 0 rfl) Try.underlying24 rfl) rfl rfl rfl ?_
    refine JL.val (v := .int .i64 (0 : Int)) (QV.move rfl) rfl rfl rfl ?_
    refine JL.nil ?_
    refine QJ.then_normal ?_
    refine JC.cutK (Y := Int × Unit) (fun y => match y with | (d9, _) => F71.j2 (d9) = some r) (fun y => match y with | (d9, _) => [(8, .int .i64 d9)]) (fun y => match y with | (d9, _) => []) ?_ ?_
    ·
      rintro ⟨d9, ⟨⟩⟩ hm
      unfold F71.j2 at hm
      show QJ _ _ [(8, .int .i64 d9)] [] _ _
      refine QJ.then_normal ?_
      refine JC.seq ?_
      refine JC.region ?_
      refine JL.val (v := .int .i64 d9) (QV.move rfl) rfl rfl rfl ?_
      refine JL.val (v := .int .i64 d9) (QV.assign rfl) rfl rfl rfl ?_
      refine JL.nil ?_
      refine QJ.then_normal ?_
      refine JC.ret ?_
      obtain rfl := Option.some.inj hm
      exact QJ.body (vs := [.int .i64 d9]) (.inl rfl) rfl (ResVs.cons (ResV.tmp rfl) ResVs.nil) [] rfl rfl (.inr trivial) ⟨rfl, rfl⟩
    ·
      refine JC.block ?_
      obtain ⟨y14, hl15, hmo16⟩ := bind_inv hm
      refine JC.loop (F71.b1 d5 y6) (fun x z => match x, z with | (d10, d11), _ => [(5, .int .i64 d5), (7, z8.v), (8, .int .i64 d10), (21, .int .i64 ((y6).length : Int)), (22, .int .i64 d11)]) (fun x z => match x, z with | (d10, d11), _ => [Asr.of 3 (Enc.int .i64) (z8.v) y6]) ((0 : Int), (0 : Int)) () y14 hl15 [0] (by exact ⟨rfl, rfl, rfl, rfl, rfl, trivial⟩) rfl rfl ?_
      rintro ⟨d10, d11⟩ ⟨⟩ s17 hm
      unfold F71.b1 at hm
      dsimp only at hm
      show JC _ _ _ [(5, .int .i64 d5), (7, z8.v), (8, .int .i64 d10), (21, .int .i64 ((y6).length : Int)), (22, .int .i64 d11)] [Asr.of 3 (Enc.int .i64) (z8.v) y6] _ _
      refine JC.seq ?_
      refine JC.region ?_
      refine JL.val (v := .bool (decide (d11 < ((y6).length : Int)))) (QV.lss rfl rfl) rfl rfl rfl ?_
      refine JL.nil ?_
      refine QJ.then_normal ?_
      refine JC.seq ?_
      rcases ite_inv hm with ⟨h18, hm⟩ | ⟨h18, hm⟩
      ·
        refine JC.condT' rfl (decide_eq_true h18) ?_
        refine JC.skip ?_
        refine QJ.then_normal ?_
        refine JC.seq ?_
        refine JC.block ?_
        refine JC.seq ?_
        refine JC.region ?_
        refine JL.val (v := .int .i64 d11) (QV.move rfl) rfl rfl rfl ?_
        refine JL.val (v := .int .i64 d11) (QV.assign rfl) rfl rfl rfl ?_
        refine JL.nil ?_
        refine QJ.then_normal ?_
        refine JC.region ?_
        refine JL.val (v := .int .i64 d10) (QV.move rfl) rfl rfl rfl ?_
        refine JL.val (v := .int .i64 d5) (QV.move rfl) rfl rfl rfl ?_
        refine JL.val (v := .int .i64 (IntKind.wrap .i64 (d10 + d5))) (QV.add rfl rfl) rfl rfl rfl ?_
        refine JL.val (v := .int .i64 (IntKind.wrap .i64 ((IntKind.wrap .i64 (d10 + d5)) - (1 : Int)))) (QV.sub rfl rfl) rfl rfl rfl ?_
        refine JL.val (v := z8.v) (QV.move rfl) rfl rfl rfl ?_
        refine JL.val (v := .int .i64 d11) (QV.move rfl) rfl rfl rfl ?_
        obtain ⟨h19, hm⟩ := guard_inv hm
        refine JL.val (v := .pointer (some (elA (z8.v) (Int.toNat d11 * ((Enc.int .i64)).sz)))) (QV.indexA (Rdg.of 0 rfl) Try.underlying24 tk_3 rfl rfl h19) rfl rfl rfl ?_
        refine JL.val (v := .int .i64 (gd y6 d11)) (QV.el1 (Rdg.of 0 rfl) tk_3 rfl h19 rfl) rfl rfl rfl ?_
        refine JL.val (v := .int .i64 (IntKind.wrap .i64 ((IntKind.wrap .i64 ((IntKind.wrap .i64 (d10 + d5)) - (1 : Int))) - (gd y6 d11)))) (QV.sub rfl rfl) rfl rfl rfl ?_
        refine JL.val (v := .int .i64 (IntKind.wrap .i64 ((IntKind.wrap .i64 ((IntKind.wrap .i64 (d10 + d5)) - (1 : Int))) - (gd y6 d11)))) (QV.assign rfl) rfl rfl rfl ?_
        refine JL.nil ?_
        refine QJ.block_normal ?_
        refine QJ.then_normal ?_
        refine JC.region ?_
        refine JL.val (v := .int .i64 (IntKind.wrap .i64 (d11 + (1 : Int)))) (QV.add rfl rfl) rfl rfl rfl ?_
        refine JL.val (v := .int .i64 (IntKind.wrap .i64 (d11 + (1 : Int)))) (QV.move rfl) rfl rfl rfl ?_
        refine JL.nil ?_
        obtain rfl := Option.some.inj hm
        exact QJ.round_on ((IntKind.wrap .i64 ((IntKind.wrap .i64 ((IntKind.wrap .i64 (d10 + d5)) - (1 : Int))) - (gd y6 d11))), (IntKind.wrap .i64 (d11 + (1 : Int)))) () [0] (by exact ⟨rfl, rfl, rfl, rfl, rfl, trivial⟩) rfl rfl
      ·
        refine JC.condF' rfl (decide_eq_false h18) ?_
        refine JC.exit ?_
        refine QJ.then_exit ?_
        obtain rfl := Option.some.inj hm
        refine QJ.round_exit (fun hy => ?_)
        subst hy
        refine QJ.block_hit ?_
        exact QJ.cut_normal (d10, ()) hmo16 [] (by exact ⟨rfl, trivial⟩) rfl rfl
  ·
    refine JC.block ?_
    obtain ⟨y24, hl25, hmo26⟩ := bind_inv hm
    refine JC.loop (F71.b2 x3) (fun x z => match x, z with | (d20, d21), _ => [(0, s1.v), (1, .int .i64 x3), (5, .int .i64 d20), (6, .int .i64 d21)]) (fun x z => match x, z with | (d20, d21), _ => [Asr.vw (Enc.int .u8) (s1.v) x2]) ((1 : Int), (0 : Int)) () y24 hl25 [0] (by exact ⟨rfl, rfl, rfl, rfl, trivial⟩) rfl rfl ?_
    rintro ⟨d20, d21⟩ ⟨⟩ s27 hm
    unfold F71.b2 at hm
    dsimp only at hm
    show JC _ _ _ [(0, s1.v), (1, .int .i64 x3), (5, .int .i64 d20), (6, .int .i64 d21)] [Asr.vw (Enc.int .u8) (s1.v) x2] _ _
    refine JC.seq ?_
    refine JC.seq ?_
    refine JC.region ?_
    refine JL.val (v := .int .i64 d21) (QV.move rfl) rfl rfl rfl ?_
    refine JL.val (v := .int .i64 x3) (QV.move rfl) rfl rfl rfl ?_
    refine JL.val (v := .bool (decide (d21 < x3))) (QV.lss rfl rfl) rfl rfl rfl ?_
    refine JL.nil ?_
    refine QJ.then_normal ?_
    rcases ite_inv hm with ⟨h28, hm⟩ | ⟨h28, hm⟩
    ·
      refine JC.condT' rfl (decide_eq_true h28) ?_
      refine JC.skip ?_
      refine QJ.then_normal ?_
      refine JC.seq ?_
      refine JC.block ?_
      refine JC.region ?_
      refine JL.val (v := .int .i64 d20) (QV.move rfl) rfl rfl rfl ?_
      refine JL.val (v := .int .i64 (IntKind.wrap .i64 ((2 : Int) * d20))) (QV.mul rfl rfl) rfl rfl rfl ?_
      refine JL.val (v := .int .i64 (IntKind.wrap .i64 ((2 : Int) * d20))) (QV.assign rfl) rfl rfl rfl ?_
      refine JL.nil ?_
      refine QJ.block_normal ?_
      refine QJ.then_normal ?_
      refine JC.region ?_
      refine JL.val (v := .int .i64 d21) (QV.move rfl) rfl rfl rfl ?_
      refine JL.val (v := .int .i64 (IntKind.wrap .i64 (d21 + (1 : Int)))) (QV.add rfl rfl) rfl rfl rfl ?_
      refine JL.val (v := .int .i64 (IntKind.wrap .i64 (d21 + (1 : Int)))) (QV.assign rfl) rfl rfl rfl ?_
      refine JL.nil ?_
      obtain rfl := Option.some.inj hm
      exact QJ.round_on ((IntKind.wrap .i64 ((2 : Int) * d20)), (IntKind.wrap .i64 (d21 + (1 : Int)))) () [0] (by exact ⟨rfl, rfl, rfl, rfl, trivial⟩) rfl rfl
    ·
      refine JC.condF' rfl (decide_eq_false h28) ?_
      refine JC.exit ?_
      refine QJ.then_exit ?_
      obtain rfl := Option.some.inj hm
      refine QJ.round_exit (fun hy => ?_)
      subst hy
      refine QJ.block_hit ?_
      exact QJ.cut_normal (d20, ()) hmo26 [0] (by exact ⟨rfl, rfl, rfl, trivial⟩) rfl rfl

/-! ### 30: drogher/drogherref02.Check -/
noncomputable def F30.j1 (x2 : List Int) (x3 : Int) (d5 : Int) : Option Int :=
  ((F71.m (x2) (x3)).bind fun y6 => some (IntKind.wrap .u16 (Int.tmod (IntKind.wrap .i64 (y6 * d5)) (65536 : Int))))
noncomputable def F30.j2 (x2 : List Int) (x3 : Int) (d9 : Int) : Option Int :=
  F30.j1 x2 x3 (d9)
noncomputable def F30.j3 (x2 : List Int) (x3 : Int) (d11 : Int) : Option Int :=
  F30.j2 x2 x3 (d11)
noncomputable def F30.m (x2 : List Int) (x3 : Int) : Option Int :=
  (if x3 = (1 : Int) then F30.j1 x2 x3 ((128 : Int)) else (if x3 = (2 : Int) then F30.j2 x2 x3 ((64 : Int)) else (if x3 = (4 : Int) then F30.j3 x2 x3 ((16 : Int)) else (if x3 = (8 : Int) then F30.j3 x2 x3 ((1 : Int)) else some (0 : Int)))))
set_option maxRecDepth 100000 in
set_option maxHeartbeats 4000000 in
theorem F30.spec (s1 : SlV) (x2 : List Int) (x3 : Int) (r : Int) (hm : F30.m x2 x3 = some r) :
    Ctr Try.prog false 30 [s1.v, .int .i64 x3] [Asr.vw (Enc.int .u8) (s1.v) x2] (fun v L' => v = .int .u16 r ∧ L' = []) := by
  refine Ctr.intro (n := 22) (env := [(0, s1.v), (1, .int .i64 x3)]) Try.func30 rfl rfl rfl rfl (fun c => ?_)
  unfold F30.m at hm
  refine JC.seq ?_
  refine JC.region ?_
  refine JL.val (v := .int .u16 (0 : Int)) (QV.assign rfl) rfl rfl rfl ?_
  refine JL.nil ?_
  refine QJ.then_normal ?_
  refine JC.seq ?_
  refine JC.region ?_
  refine JL.val (v := .int .i64 (0 : Int)) (QV.assign rfl) rfl rfl rfl ?_
  refine JL.nil ?_
  refine QJ.then_normal ?_
  refine JC.seq ?_
  refine JC.seq ?_
  refine JC.region ?_
  refine JL.val (v := .int .i64 x3) (QV.move rfl) rfl rfl rfl ?_
  refine JL.nil ?_
  refine QJ.then_normal ?_
  refine JC.block ?_
  refine JC.seq ?_
  refine JC.region ?_
  refine JL.val (v := .bool (decide (x3 = (1 : Int)))) (QV.eql rfl rfl) rfl rfl rfl ?_
  refine JL.val (v := .bool (decide (x3 = (1 : Int)))) (QV.assign rfl) rfl rfl rfl ?_
  refine JL.nil ?_
  refine QJ.then_normal ?_
  refine JC.cutK (Y := Int × Unit) (fun y => match y with | (d5, _) => F30.j1 x2 x3 (d5) = some r) (fun y => match y with | (d5, _) => [(0, s1.v), (1, .int .i64 x3), (5, .int .i64 d5)]) (fun y => match y with | (d5, _) => [Asr.vw (Enc.int .u8) (s1.v) x2]) ?_ ?_
  ·
    rintro ⟨d5, ⟨⟩⟩ hm
    unfold F30.j1 at hm
    show QJ _ _ [(0, s1.v), (1, .int .i64 x3), (5, .int .i64 d5)] [Asr.vw (Enc.int .u8) (s1.v) x2] _ _
    refine QJ.block_normal ?_
    refine QJ.then_normal ?_
    refine JC.seq ?_
    refine JC.region ?_
    refine JL.val (v := s1.v) (QV.move rfl) rfl rfl rfl ?_
    refine JL.val (v := .int .i64 x3) (QV.move rfl) rfl rfl rfl ?_
    obtain ⟨y6, hc7, hm⟩ := bind_inv hm
    refine JL.mv (d := some 17) (MV.call (Lo := []) (Lr := [Asr.vw (Enc.int .u8) (s1.v) x2]) (F71.spec (s1) (x2) (x3) _ hc7) rfl Try.func71 rfl rfl rfl [] [0] rfl rfl rfl ⟨(Drv.vw 0 rfl), trivial⟩) rfl rfl rfl ?_
    rintro _ _ ⟨_, ⟨rfl, rfl⟩, rfl⟩
    refine JL.val (v := .int .i64 d5) (QV.move rfl) rfl rfl rfl ?_
    refine JL.val (v := .int .i64 (IntKind.wrap .i64 (y6 * d5))) (QV.mul rfl rfl) rfl rfl rfl ?_
    refine JL.val (v := .int .i64 (Int.tmod (IntKind.wrap .i64 (y6 * d5)) (65536 : Int))) (QV.rem rfl rfl (by decide)) rfl rfl rfl ?_
    refine JL.val (v := .int .u16 (IntKind.wrap .u16 (Int.tmod (IntKind.wrap .i64 (y6 * d5)) (65536 : Int)))) (QV.conv rfl (by rw [Try.underlying3]; rfl) Try.underlying36) rfl rfl rfl ?_
    refine JL.val (v := .int .u16 (IntKind.wrap .u16 (Int.tmod (IntKind.wrap .i64 (y6 * d5)) (65536 : Int)))) (QV.assign rfl) rfl rfl rfl ?_
    refine JL.nil ?_
    refine QJ.then_normal ?_
    refine JC.ret ?_
    obtain rfl := Option.some.inj hm
    exact QJ.body (vs := [.int .u16 (IntKind.wrap .u16 (Int.tmod (IntKind.wrap .i64 (y6 * d5)) (65536 : Int)))]) (.inl rfl) rfl (ResVs.cons (ResV.tmp rfl) ResVs.nil) [] rfl rfl (.inr trivial) ⟨rfl, rfl⟩
  ·
    rcases ite_inv hm with ⟨h8, hm⟩ | ⟨h8, hm⟩
    ·
      refine JC.condT' rfl (decide_eq_true h8) ?_
      refine JC.region ?_
      refine JL.val (v := .int .i64 (128 : Int)) (QV.assign rfl) rfl rfl rfl ?_
      refine JL.nil ?_
      exact QJ.cut_normal ((128 : Int), ()) hm [0] (by exact ⟨rfl, rfl, rfl, trivial⟩) rfl rfl
    ·
      refine JC.condF' rfl (decide_eq_false h8) ?_
      refine JC.seq ?_
      refine JC.region ?_
      refine JL.val (v := .bool (decide (x3 = (2 : Int)))) (QV.eql rfl rfl) rfl rfl rfl ?_
      refine JL.val (v := .bool (decide (x3 = (2 : Int)))) (QV.assign rfl) rfl rfl rfl ?_
      refine JL.nil ?_
      refine QJ.then_normal ?_
      refine JC.cutK (Y := Int × Unit) (fun y => match y with | (d9, _) => F30.j2 x2 x3 (d9) = some r) (fun y => match y with | (d9, _) => [(0, s1.v), (1, .int .i64 x3), (5, .int .i64 d9)]) (fun y => match y with | (d9, _) => [Asr.vw (Enc.int .u8) (s1.v) x2]) ?_ ?_
      ·
        rintro ⟨d9, ⟨⟩⟩ hm
        unfold F30.j2 at hm
        show QJ _ _ [(0, s1.v), (1, .int .i64 x3), (5, .int .i64 d9)] [Asr.vw (Enc.int .u8) (s1.v) x2] _ _
        exact QJ.cut_normal (d9, ()) hm [0] (by exact ⟨rfl, rfl, rfl, trivial⟩) rfl rfl
      ·
        rcases ite_inv hm with ⟨h10, hm⟩ | ⟨h10, hm⟩
        ·
          refine JC.condT' rfl (decide_eq_true h10) ?_
          refine JC.region ?_
          refine JL.val (v := .int .i64 (64 : Int)) (QV.assign rfl) rfl rfl rfl ?_
          refine JL.nil ?_
          exact QJ.cut_normal ((64 : Int), ()) hm [0] (by exact ⟨rfl, rfl, rfl, trivial⟩) rfl rfl
        ·
          refine JC.condF' rfl (decide_eq_false h10) ?_
          refine JC.seq ?_
          refine JC.region ?_
          refine JL.val (v := .bool (decide (x3 = (4 : Int)))) (QV.eql rfl rfl) rfl rfl rfl ?_
          refine JL.val (v := .bool (decide (x3 = (4 : Int)))) (QV.assign rfl) rfl rfl rfl ?_
          refine JL.nil ?_
          refine QJ.then_normal ?_
          refine JC.cutK (Y := Int × Unit) (fun y => match y with | (d11, _) => F30.j3 x2 x3 (d11) = some r) (fun y => match y with | (d11, _) => [(0, s1.v), (1, .int .i64 x3), (5, .int .i64 d11)]) (fun y => match y with | (d11, _) => [Asr.vw (Enc.int .u8) (s1.v) x2]) ?_ ?_
          ·
            rintro ⟨d11, ⟨⟩⟩ hm
            unfold F30.j3 at hm
            show QJ _ _ [(0, s1.v), (1, .int .i64 x3), (5, .int .i64 d11)] [Asr.vw (Enc.int .u8) (s1.v) x2] _ _
            exact QJ.cut_normal (d11, ()) hm [0] (by exact ⟨rfl, rfl, rfl, trivial⟩) rfl rfl
          ·
            rcases ite_inv hm with ⟨h12, hm⟩ | ⟨h12, hm⟩
            ·
              refine JC.condT' rfl (decide_eq_true h12) ?_
              refine JC.region ?_
              refine JL.val (v := .int .i64 (16 : Int)) (QV.assign rfl) rfl rfl rfl ?_
              refine JL.nil ?_
              exact QJ.cut_normal ((16 : Int), ()) hm [0] (by exact ⟨rfl, rfl, rfl, trivial⟩) rfl rfl
            ·
              refine JC.condF' rfl (decide_eq_false h12) ?_
              refine JC.seq ?_
              refine JC.region ?_
              refine JL.val (v := .bool (decide (x3 = (8 : Int)))) (QV.eql rfl rfl) rfl rfl rfl ?_
              refine JL.val (v := .bool (decide (x3 = (8 : Int)))) (QV.assign rfl) rfl rfl rfl ?_
              refine JL.nil ?_
              refine QJ.then_normal ?_
              rcases ite_inv hm with ⟨h13, hm⟩ | ⟨h13, hm⟩
              ·
                refine JC.condT' rfl (decide_eq_true h13) ?_
                refine JC.region ?_
                refine JL.val (v := .int .i64 (1 : Int)) (QV.assign rfl) rfl rfl rfl ?_
                refine JL.nil ?_
                exact QJ.cut_normal ((1 : Int), ()) hm [0] (by exact ⟨rfl, rfl, rfl, trivial⟩) rfl rfl
              ·
                refine JC.condF' rfl (decide_eq_false h13) ?_
                refine JC.seq ?_
                refine JC.region ?_
                refine JL.val (v := .int .u16 (0 : Int)) (QV.assign rfl) rfl rfl rfl ?_
                refine JL.nil ?_
                refine QJ.then_normal ?_
                refine JC.ret ?_
                refine QJ.cut_ret ?_
                refine QJ.cut_ret ?_
                refine QJ.cut_ret ?_
                refine QJ.block_ret ?_
                refine QJ.then_ret ?_
                obtain rfl := Option.some.inj hm
                exact QJ.body (vs := [.int .u16 (0 : Int)]) (.inl rfl) rfl (ResVs.cons (ResV.tmp rfl) ResVs.nil) [] rfl rfl (.inr trivial) ⟨rfl, rfl⟩

end Go.Proofs.Ytmedbpiapeiobaa
