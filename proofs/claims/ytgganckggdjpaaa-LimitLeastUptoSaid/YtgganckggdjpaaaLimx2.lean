/- Written by gen.py: functions and their contracts. -/
import Derived.Test.YtgganckggdjpaaaLimx1
namespace Go.Proofs.Ytgganckggdjpaaa
open Go Go.Eng Go.Proofs
set_option linter.unusedVariables false
set_option linter.unusedSimpArgs false
/-! ### 68: slices.stableCmpFunc[drogher/limit.pack] -/
noncomputable def F68_1.j2  (d13 : List (Int × (List Int))) : Option (List (Int × (List Int))) :=
  some d13
noncomputable def F68_1.j3 (d17 : Int) (d26 : List (Int × (List Int))) : Option ((List (Int × (List Int)) × Int) ⊕ (List (Int × (List Int)))) :=
  some (.inl (d26, (IntKind.wrap .i64 (d17 * (2 : Int)))))
noncomputable def F68_1.j5 (d17 : Int) (d31 : List (Int × (List Int))) : Option ((List (Int × (List Int)) × Int) ⊕ (List (Int × (List Int)))) :=
  F68_1.j3 d17 (d31)
noncomputable def F68_1.j4 (x4 : Int) (d17 : Int) (d28 : List (Int × (List Int))) (d30 : Int) : Option ((List (Int × (List Int)) × Int) ⊕ (List (Int × (List Int)))) :=
  (if (IntKind.wrap .i64 (d30 + d17)) < x4 then ((F80_1.m (d28) (d30) ((IntKind.wrap .i64 (d30 + d17))) (x4)).bind fun y34 => F68_1.j5 d17 (y34)) else F68_1.j5 d17 (d28))
noncomputable def F68_1.b2 (x4 : Int) (d17 : Int) : (List (Int × (List Int)) × Int × Int) → Option ((List (Int × (List Int)) × Int × Int) ⊕ (List (Int × (List Int)) × Int))
  | (d37, d39, d40) => (if d40 ≤ x4 then ((F80_1.m (d37) (d39) ((IntKind.wrap .i64 (d39 + d17))) (d40)).bind fun y50 => some (.inl (y50, d40, (IntKind.wrap .i64 (d40 + (IntKind.wrap .i64 ((2 : Int) * d17))))))) else some (.inr (d37, d39)))
noncomputable def F68_1.b1 (x4 : Int) : (List (Int × (List Int)) × Int) → Option ((List (Int × (List Int)) × Int) ⊕ (List (Int × (List Int))))
  | (d15, d17) => (if d17 < x4 then ((loop (F68_1.b2 x4 d17) (d15, (0 : Int), (IntKind.wrap .i64 ((2 : Int) * d17)))).bind fun y => match y with | (d28, d30) => F68_1.j4 x4 d17 (d28) (d30)) else some (.inr d15))
noncomputable def F68_1.j1 (x4 : Int) (d7 : List (Int × (List Int))) (d9 : Int) : Option (List (Int × (List Int))) :=
  ((F79_1.m (d7) (d9) (x4)).bind fun y10 => ((loop (F68_1.b1 x4) (y10, (20 : Int))).bind fun y => match y with | d13 => F68_1.j2 (d13)))
noncomputable def F68_1.b3 (x4 : Int) : (List (Int × (List Int)) × Int × Int) → Option ((List (Int × (List Int)) × Int × Int) ⊕ (List (Int × (List Int)) × Int))
  | (d53, d55, d56) => (if d56 ≤ x4 then ((F79_1.m (d53) (d55) (d56)).bind fun y66 => some (.inl (y66, d56, (IntKind.wrap .i64 (d56 + (20 : Int)))))) else some (.inr (d53, d55)))
noncomputable def F68_1.m (x2 : List (Int × (List Int))) (x4 : Int) : Option (List (Int × (List Int))) :=
  ((loop (F68_1.b3 x4) (x2, (0 : Int), (20 : Int))).bind fun y => match y with | (d7, d9) => F68_1.j1 x4 (d7) (d9))
set_option maxRecDepth 100000 in
set_option maxHeartbeats 4000000 in
theorem F68_1.spec (s1 : SlV) (z3 : List (Unit × SlV)) (x2 : List (Int × (List Int))) (x4 : Int) (r : (List (Int × (List Int)))) (hm : F68_1.m x2 x4 = some r) :
    Ctr Try.prog true 68 [s1.v, .int .i64 x4, .func (.func 48) #[] #[]] [Asr.onv 91 (NE.pair (NE.flat (Enc.int .u64)) (NE.sl (Enc.int .i64))) (s1.v) z3 x2] (fun v L' => ∃ (g6 : List (Unit × SlV)), v = .tuple #[] ∧ L' = [Asr.onv 91 (NE.pair (NE.flat (Enc.int .u64)) (NE.sl (Enc.int .i64))) (s1.v) g6 r]) := by
  refine Ctr.intro (n := 63) (env := [(0, s1.v), (1, .int .i64 x4), (2, .func (.func 48) #[] #[])]) Try.func68 rfl rfl rfl rfl (fun c => ?_)
  unfold F68_1.m at hm
  refine JC.seq ?_
  refine JC.region ?_
  refine JL.val (v := .int .i64 (20 : Int)) (QV.assign rfl) rfl rfl rfl ?_
  refine JL.nil ?_
  refine QJ.then_normal ?_
  refine JC.seq ?_
  refine JC.region ?_
  refine JL.val (v := .int .i64 (20 : Int)) (QV.move rfl) rfl rfl rfl ?_
  refine JL.val (v := .int .i64 (0 : Int)) (QV.assign rfl) rfl rfl rfl ?_
  refine JL.val (v := .int .i64 (20 : Int)) (QV.assign rfl) rfl rfl rfl ?_
  refine JL.nil ?_
  refine QJ.then_normal ?_
  refine JC.seq ?_
  refine JC.cutK (Y := (List (Int × (List Int)) × Int) × (List (Unit × SlV))) (fun y => match y with | ((d7, d9), _) => F68_1.j1 x4 (d7) (d9) = some r) (fun y => match y with | ((d7, d9), z8) => [(0, s1.v), (1, .int .i64 x4), (2, .func (.func 48) #[] #[]), (6, .int .i64 (20 : Int)), (7, .int .i64 d9)]) (fun y => match y with | ((d7, d9), z8) => [Asr.onv 91 (NE.pair (NE.flat (Enc.int .u64)) (NE.sl (Enc.int .i64))) (s1.v) z8 d7]) ?_ ?_
  ·
    rintro ⟨⟨d7, d9⟩, z8⟩ hm
    unfold F68_1.j1 at hm
    show QJ _ _ [(0, s1.v), (1, .int .i64 x4), (2, .func (.func 48) #[] #[]), (6, .int .i64 (20 : Int)), (7, .int .i64 d9)] [Asr.onv 91 (NE.pair (NE.flat (Enc.int .u64)) (NE.sl (Enc.int .i64))) (s1.v) z8 d7] _ _
    refine QJ.then_normal ?_
    refine JC.seq ?_
    refine JC.region ?_
    refine JL.val (v := s1.v) (QV.move rfl) rfl rfl rfl ?_
    refine JL.val (v := .int .i64 d9) (QV.move rfl) rfl rfl rfl ?_
    refine JL.val (v := .int .i64 x4) (QV.move rfl) rfl rfl rfl ?_
    refine JL.val (v := .func (.func 48) #[] #[]) (QV.move rfl) rfl rfl rfl ?_
    obtain ⟨y10, hc11, hm⟩ := bind_inv hm
    refine JL.mv (d := some 27) (MV.call (Lo := [Asr.onv 91 (NE.pair (NE.flat (Enc.int .u64)) (NE.sl (Enc.int .i64))) (s1.v) z8 d7]) (Lr := []) (F79_1.spec (s1) (z8) (d7) (d9) (x4) _ hc11) rfl Try.func79 rfl rfl rfl [0] [] rfl rfl rfl trivial) rfl rfl rfl ?_
    rintro _ _ ⟨_, ⟨z12, rfl, rfl⟩, rfl⟩
    refine JL.nil ?_
    refine QJ.then_normal ?_
    refine JC.cutK (Y := (List (Int × (List Int))) × (List (Unit × SlV))) (fun y => match y with | (d13, _) => F68_1.j2 (d13) = some r) (fun y => match y with | (d13, z14) => []) (fun y => match y with | (d13, z14) => [Asr.onv 91 (NE.pair (NE.flat (Enc.int .u64)) (NE.sl (Enc.int .i64))) (s1.v) z14 d13]) ?_ ?_
    ·
      rintro ⟨d13, z14⟩ hm
      unfold F68_1.j2 at hm
      show QJ _ _ [] [Asr.onv 91 (NE.pair (NE.flat (Enc.int .u64)) (NE.sl (Enc.int .i64))) (s1.v) z14 d13] _ _
      obtain rfl := Option.some.inj hm
      exact QJ.body (vs := []) (.inr rfl) rfl ResVs.nil [0] rfl rfl (.inl rfl) ⟨z14, rfl, rfl⟩
    ·
      refine JC.block ?_
      obtain ⟨y21, hl22, hmo23⟩ := bind_inv hm
      refine JC.loop (F68_1.b1 x4) (fun x z => match x, z with | (d15, d17), z16 => [(0, s1.v), (1, .int .i64 x4), (2, .func (.func 48) #[] #[]), (6, .int .i64 d17)]) (fun x z => match x, z with | (d15, d17), z16 => [Asr.onv 91 (NE.pair (NE.flat (Enc.int .u64)) (NE.sl (Enc.int .i64))) (s1.v) z16 d15]) (y10, (20 : Int)) z12 y21 hl22 [0] (by exact ⟨rfl, rfl, rfl, rfl, trivial⟩) rfl rfl ?_
      rintro ⟨d15, d17⟩ z16 s24 hm
      unfold F68_1.b1 at hm
      dsimp only at hm
      show JC _ _ _ [(0, s1.v), (1, .int .i64 x4), (2, .func (.func 48) #[] #[]), (6, .int .i64 d17)] [Asr.onv 91 (NE.pair (NE.flat (Enc.int .u64)) (NE.sl (Enc.int .i64))) (s1.v) z16 d15] _ _
      refine JC.seq ?_
      refine JC.seq ?_
      refine JC.region ?_
      refine JL.val (v := .int .i64 d17) (QV.move rfl) rfl rfl rfl ?_
      refine JL.val (v := .int .i64 x4) (QV.move rfl) rfl rfl rfl ?_
      refine JL.val (v := .bool (decide (d17 < x4))) (QV.lss rfl rfl) rfl rfl rfl ?_
      refine JL.nil ?_
      refine QJ.then_normal ?_
      rcases ite_inv hm with ⟨h25, hm⟩ | ⟨h25, hm⟩
      ·
        refine JC.condT' rfl (decide_eq_true h25) ?_
        refine JC.skip ?_
        refine QJ.then_normal ?_
        refine JC.cutK (Y := (List (Int × (List Int))) × (List (Unit × SlV))) (fun y => match y with | (d26, _) => F68_1.j3 d17 (d26) = some s24) (fun y => match y with | (d26, z27) => [(0, s1.v), (1, .int .i64 x4), (2, .func (.func 48) #[] #[]), (6, .int .i64 (IntKind.wrap .i64 (d17 * (2 : Int))))]) (fun y => match y with | (d26, z27) => [Asr.onv 91 (NE.pair (NE.flat (Enc.int .u64)) (NE.sl (Enc.int .i64))) (s1.v) z27 d26]) ?_ ?_
        ·
          rintro ⟨d26, z27⟩ hm
          unfold F68_1.j3 at hm
          show QJ _ _ [(0, s1.v), (1, .int .i64 x4), (2, .func (.func 48) #[] #[]), (6, .int .i64 (IntKind.wrap .i64 (d17 * (2 : Int))))] [Asr.onv 91 (NE.pair (NE.flat (Enc.int .u64)) (NE.sl (Enc.int .i64))) (s1.v) z27 d26] _ _
          obtain rfl := Option.some.inj hm
          exact QJ.round_on (d26, (IntKind.wrap .i64 (d17 * (2 : Int)))) z27 [0] (by exact ⟨rfl, rfl, rfl, rfl, trivial⟩) rfl rfl
        ·
          refine JC.block ?_
          refine JC.seq ?_
          refine JC.region ?_
          refine JL.val (v := .int .i64 d17) (QV.move rfl) rfl rfl rfl ?_
          refine JL.val (v := .int .i64 (IntKind.wrap .i64 ((2 : Int) * d17))) (QV.mul rfl rfl) rfl rfl rfl ?_
          refine JL.val (v := .int .i64 (0 : Int)) (QV.assign rfl) rfl rfl rfl ?_
          refine JL.val (v := .int .i64 (IntKind.wrap .i64 ((2 : Int) * d17))) (QV.assign rfl) rfl rfl rfl ?_
          refine JL.nil ?_
          refine QJ.then_normal ?_
          refine JC.seq ?_
          refine JC.cutK (Y := (List (Int × (List Int)) × Int) × (List (Unit × SlV))) (fun y => match y with | ((d28, d30), _) => F68_1.j4 x4 d17 (d28) (d30) = some s24) (fun y => match y with | ((d28, d30), z29) => [(0, s1.v), (1, .int .i64 x4), (2, .func (.func 48) #[] #[]), (6, .int .i64 d17), (7, .int .i64 d30)]) (fun y => match y with | ((d28, d30), z29) => [Asr.onv 91 (NE.pair (NE.flat (Enc.int .u64)) (NE.sl (Enc.int .i64))) (s1.v) z29 d28]) ?_ ?_
          ·
            rintro ⟨⟨d28, d30⟩, z29⟩ hm
            unfold F68_1.j4 at hm
            show QJ _ _ [(0, s1.v), (1, .int .i64 x4), (2, .func (.func 48) #[] #[]), (6, .int .i64 d17), (7, .int .i64 d30)] [Asr.onv 91 (NE.pair (NE.flat (Enc.int .u64)) (NE.sl (Enc.int .i64))) (s1.v) z29 d28] _ _
            refine QJ.then_normal ?_
            refine JC.seq ?_
            refine JC.seq ?_
            refine JC.region ?_
            refine JL.val (v := .int .i64 d30) (QV.move rfl) rfl rfl rfl ?_
            refine JL.val (v := .int .i64 d17) (QV.move rfl) rfl rfl rfl ?_
            refine JL.val (v := .int .i64 (IntKind.wrap .i64 (d30 + d17))) (QV.add rfl rfl) rfl rfl rfl ?_
            refine JL.val (v := .int .i64 (IntKind.wrap .i64 (d30 + d17))) (QV.assign rfl) rfl rfl rfl ?_
            refine JL.nil ?_
            refine QJ.then_normal ?_
            refine JC.seq ?_
            refine JC.region ?_
            refine JL.val (v := .int .i64 (IntKind.wrap .i64 (d30 + d17))) (QV.move rfl) rfl rfl rfl ?_
            refine JL.val (v := .int .i64 x4) (QV.move rfl) rfl rfl rfl ?_
            refine JL.val (v := .bool (decide ((IntKind.wrap .i64 (d30 + d17)) < x4))) (QV.lss rfl rfl) rfl rfl rfl ?_
            refine JL.nil ?_
            refine QJ.then_normal ?_
            refine JC.cutK (Y := (List (Int × (List Int))) × (List (Unit × SlV))) (fun y => match y with | (d31, _) => F68_1.j5 d17 (d31) = some s24) (fun y => match y with | (d31, z32) => [(0, s1.v), (1, .int .i64 x4), (2, .func (.func 48) #[] #[]), (6, .int .i64 d17)]) (fun y => match y with | (d31, z32) => [Asr.onv 91 (NE.pair (NE.flat (Enc.int .u64)) (NE.sl (Enc.int .i64))) (s1.v) z32 d31]) ?_ ?_
            ·
              rintro ⟨d31, z32⟩ hm
              unfold F68_1.j5 at hm
              show QJ _ _ [(0, s1.v), (1, .int .i64 x4), (2, .func (.func 48) #[] #[]), (6, .int .i64 d17)] [Asr.onv 91 (NE.pair (NE.flat (Enc.int .u64)) (NE.sl (Enc.int .i64))) (s1.v) z32 d31] _ _
              refine QJ.then_normal ?_
              refine JC.region ?_
              refine JL.val (v := .int .i64 d17) (QV.move rfl) rfl rfl rfl ?_
              refine JL.val (v := .int .i64 (IntKind.wrap .i64 (d17 * (2 : Int)))) (QV.mul rfl rfl) rfl rfl rfl ?_
              refine JL.val (v := .int .i64 (IntKind.wrap .i64 (d17 * (2 : Int)))) (QV.assign rfl) rfl rfl rfl ?_
              refine JL.nil ?_
              refine QJ.block_normal ?_
              exact QJ.cut_normal (d31, z32) hm [0] (by exact ⟨rfl, rfl, rfl, rfl, trivial⟩) rfl rfl
            ·
              rcases ite_inv hm with ⟨h33, hm⟩ | ⟨h33, hm⟩
              ·
                refine JC.condT' rfl (decide_eq_true h33) ?_
                refine JC.region ?_
                refine JL.val (v := s1.v) (QV.move rfl) rfl rfl rfl ?_
                refine JL.val (v := .int .i64 d30) (QV.move rfl) rfl rfl rfl ?_
                refine JL.val (v := .int .i64 (IntKind.wrap .i64 (d30 + d17))) (QV.move rfl) rfl rfl rfl ?_
                refine JL.val (v := .int .i64 x4) (QV.move rfl) rfl rfl rfl ?_
                refine JL.val (v := .func (.func 48) #[] #[]) (QV.move rfl) rfl rfl rfl ?_
                obtain ⟨y34, hc35, hm⟩ := bind_inv hm
                refine JL.mv (d := some 60) (MV.call (Lo := [Asr.onv 91 (NE.pair (NE.flat (Enc.int .u64)) (NE.sl (Enc.int .i64))) (s1.v) z29 d28]) (Lr := []) (F80_1.spec (s1) (z29) (d28) (d30) ((IntKind.wrap .i64 (d30 + d17))) (x4) _ hc35) rfl Try.func80 rfl rfl rfl [0] [] rfl rfl rfl trivial) rfl rfl rfl ?_
                rintro _ _ ⟨_, ⟨z36, rfl, rfl⟩, rfl⟩
                refine JL.nil ?_
                exact QJ.cut_normal (y34, z36) hm [0] (by exact ⟨rfl, rfl, rfl, rfl, trivial⟩) rfl rfl
              ·
                refine JC.condF' rfl (decide_eq_false h33) ?_
                refine JC.skip ?_
                exact QJ.cut_normal (d28, z29) hm [0] (by exact ⟨rfl, rfl, rfl, rfl, trivial⟩) rfl rfl
          ·
            refine JC.block ?_
            obtain ⟨y45, hl46, hmo47⟩ := bind_inv hm
            refine JC.loop (F68_1.b2 x4 d17) (fun x z => match x, z with | (d37, d39, d40), z38 => [(0, s1.v), (1, .int .i64 x4), (2, .func (.func 48) #[] #[]), (6, .int .i64 d17), (7, .int .i64 d39), (8, .int .i64 d40)]) (fun x z => match x, z with | (d37, d39, d40), z38 => [Asr.onv 91 (NE.pair (NE.flat (Enc.int .u64)) (NE.sl (Enc.int .i64))) (s1.v) z38 d37]) (d15, (0 : Int), (IntKind.wrap .i64 ((2 : Int) * d17))) z16 y45 hl46 [0] (by exact ⟨rfl, rfl, rfl, rfl, rfl, rfl, trivial⟩) rfl rfl ?_
            rintro ⟨d37, d39, d40⟩ z38 s48 hm
            unfold F68_1.b2 at hm
            dsimp only at hm
            show JC _ _ _ [(0, s1.v), (1, .int .i64 x4), (2, .func (.func 48) #[] #[]), (6, .int .i64 d17), (7, .int .i64 d39), (8, .int .i64 d40)] [Asr.onv 91 (NE.pair (NE.flat (Enc.int .u64)) (NE.sl (Enc.int .i64))) (s1.v) z38 d37] _ _
            refine JC.seq ?_
            refine JC.seq ?_
            refine JC.region ?_
            refine JL.val (v := .int .i64 d40) (QV.move rfl) rfl rfl rfl ?_
            refine JL.val (v := .int .i64 x4) (QV.move rfl) rfl rfl rfl ?_
            refine JL.val (v := .bool (decide (d40 ≤ x4))) (QV.leq rfl rfl) rfl rfl rfl ?_
            refine JL.nil ?_
            refine QJ.then_normal ?_
            rcases ite_inv hm with ⟨h49, hm⟩ | ⟨h49, hm⟩
            ·
              refine JC.condT' rfl (decide_eq_true h49) ?_
              refine JC.skip ?_
              refine QJ.then_normal ?_
              refine JC.block ?_
              refine JC.seq ?_
              refine JC.region ?_
              refine JL.val (v := s1.v) (QV.move rfl) rfl rfl rfl ?_
              refine JL.val (v := .int .i64 d39) (QV.move rfl) rfl rfl rfl ?_
              refine JL.val (v := .int .i64 d39) (QV.move rfl) rfl rfl rfl ?_
              refine JL.val (v := .int .i64 d17) (QV.move rfl) rfl rfl rfl ?_
              refine JL.val (v := .int .i64 (IntKind.wrap .i64 (d39 + d17))) (QV.add rfl rfl) rfl rfl rfl ?_
              refine JL.val (v := .int .i64 d40) (QV.move rfl) rfl rfl rfl ?_
              refine JL.val (v := .func (.func 48) #[] #[]) (QV.move rfl) rfl rfl rfl ?_
              obtain ⟨y50, hc51, hm⟩ := bind_inv hm
              refine JL.mv (d := some 43) (MV.call (Lo := [Asr.onv 91 (NE.pair (NE.flat (Enc.int .u64)) (NE.sl (Enc.int .i64))) (s1.v) z38 d37]) (Lr := []) (F80_1.spec (s1) (z38) (d37) (d39) ((IntKind.wrap .i64 (d39 + d17))) (d40) _ hc51) rfl Try.func80 rfl rfl rfl [0] [] rfl rfl rfl trivial) rfl rfl rfl ?_
              rintro _ _ ⟨_, ⟨z52, rfl, rfl⟩, rfl⟩
              refine JL.nil ?_
              refine QJ.then_normal ?_
              refine JC.seq ?_
              refine JC.region ?_
              refine JL.val (v := .int .i64 d40) (QV.move rfl) rfl rfl rfl ?_
              refine JL.val (v := .int .i64 d40) (QV.assign rfl) rfl rfl rfl ?_
              refine JL.nil ?_
              refine QJ.then_normal ?_
              refine JC.region ?_
              refine JL.val (v := .int .i64 d40) (QV.move rfl) rfl rfl rfl ?_
              refine JL.val (v := .int .i64 d17) (QV.move rfl) rfl rfl rfl ?_
              refine JL.val (v := .int .i64 (IntKind.wrap .i64 ((2 : Int) * d17))) (QV.mul rfl rfl) rfl rfl rfl ?_
              refine JL.val (v := .int .i64 (IntKind.wrap .i64 (d40 + (IntKind.wrap .i64 ((2 : Int) * d17))))) (QV.add rfl rfl) rfl rfl rfl ?_
              refine JL.val (v := .int .i64 (IntKind.wrap .i64 (d40 + (IntKind.wrap .i64 ((2 : Int) * d17))))) (QV.assign rfl) rfl rfl rfl ?_
              refine JL.nil ?_
              refine QJ.block_normal ?_
              obtain rfl := Option.some.inj hm
              exact QJ.round_on (y50, d40, (IntKind.wrap .i64 (d40 + (IntKind.wrap .i64 ((2 : Int) * d17))))) z52 [0] (by exact ⟨rfl, rfl, rfl, rfl, rfl, rfl, trivial⟩) rfl rfl
            ·
              refine JC.condF' rfl (decide_eq_false h49) ?_
              refine JC.exit ?_
              refine QJ.then_exit ?_
              obtain rfl := Option.some.inj hm
              refine QJ.round_exit (fun hy => ?_)
              subst hy
              refine QJ.block_hit ?_
              exact QJ.cut_normal ((d37, d39), z38) hmo47 [0] (by exact ⟨rfl, rfl, rfl, rfl, rfl, trivial⟩) rfl rfl
      ·
        refine JC.condF' rfl (decide_eq_false h25) ?_
        refine JC.exit ?_
        refine QJ.then_exit ?_
        obtain rfl := Option.some.inj hm
        refine QJ.round_exit (fun hy => ?_)
        subst hy
        refine QJ.block_hit ?_
        exact QJ.cut_normal (d15, z16) hmo23 [0] trivial rfl rfl
  ·
    refine JC.block ?_
    obtain ⟨y61, hl62, hmo63⟩ := bind_inv hm
    refine JC.loop (F68_1.b3 x4) (fun x z => match x, z with | (d53, d55, d56), z54 => [(0, s1.v), (1, .int .i64 x4), (2, .func (.func 48) #[] #[]), (6, .int .i64 (20 : Int)), (7, .int .i64 d55), (8, .int .i64 d56)]) (fun x z => match x, z with | (d53, d55, d56), z54 => [Asr.onv 91 (NE.pair (NE.flat (Enc.int .u64)) (NE.sl (Enc.int .i64))) (s1.v) z54 d53]) (x2, (0 : Int), (20 : Int)) z3 y61 hl62 [0] (by exact ⟨rfl, rfl, rfl, rfl, rfl, rfl, trivial⟩) rfl rfl ?_
    rintro ⟨d53, d55, d56⟩ z54 s64 hm
    unfold F68_1.b3 at hm
    dsimp only at hm
    show JC _ _ _ [(0, s1.v), (1, .int .i64 x4), (2, .func (.func 48) #[] #[]), (6, .int .i64 (20 : Int)), (7, .int .i64 d55), (8, .int .i64 d56)] [Asr.onv 91 (NE.pair (NE.flat (Enc.int .u64)) (NE.sl (Enc.int .i64))) (s1.v) z54 d53] _ _
    refine JC.seq ?_
    refine JC.seq ?_
    refine JC.region ?_
    refine JL.val (v := .int .i64 d56) (QV.move rfl) rfl rfl rfl ?_
    refine JL.val (v := .int .i64 x4) (QV.move rfl) rfl rfl rfl ?_
    refine JL.val (v := .bool (decide (d56 ≤ x4))) (QV.leq rfl rfl) rfl rfl rfl ?_
    refine JL.nil ?_
    refine QJ.then_normal ?_
    rcases ite_inv hm with ⟨h65, hm⟩ | ⟨h65, hm⟩
    ·
      refine JC.condT' rfl (decide_eq_true h65) ?_
      refine JC.skip ?_
      refine QJ.then_normal ?_
      refine JC.block ?_
      refine JC.seq ?_
      refine JC.region ?_
      refine JL.val (v := s1.v) (QV.move rfl) rfl rfl rfl ?_
      refine JL.val (v := .int .i64 d55) (QV.move rfl) rfl rfl rfl ?_
      refine JL.val (v := .int .i64 d56) (QV.move rfl) rfl rfl rfl ?_
      refine JL.val (v := .func (.func 48) #[] #[]) (QV.move rfl) rfl rfl rfl ?_
      obtain ⟨y66, hc67, hm⟩ := bind_inv hm
      refine JL.mv (d := some 18) (MV.call (Lo := [Asr.onv 91 (NE.pair (NE.flat (Enc.int .u64)) (NE.sl (Enc.int .i64))) (s1.v) z54 d53]) (Lr := []) (F79_1.spec (s1) (z54) (d53) (d55) (d56) _ hc67) rfl Try.func79 rfl rfl rfl [0] [] rfl rfl rfl trivial) rfl rfl rfl ?_
      rintro _ _ ⟨_, ⟨z68, rfl, rfl⟩, rfl⟩
      refine JL.nil ?_
      refine QJ.then_normal ?_
      refine JC.seq ?_
      refine JC.region ?_
      refine JL.val (v := .int .i64 d56) (QV.move rfl) rfl rfl rfl ?_
      refine JL.val (v := .int .i64 d56) (QV.assign rfl) rfl rfl rfl ?_
      refine JL.nil ?_
      refine QJ.then_normal ?_
      refine JC.region ?_
      refine JL.val (v := .int .i64 d56) (QV.move rfl) rfl rfl rfl ?_
      refine JL.val (v := .int .i64 (20 : Int)) (QV.move rfl) rfl rfl rfl ?_
      refine JL.val (v := .int .i64 (IntKind.wrap .i64 (d56 + (20 : Int)))) (QV.add rfl rfl) rfl rfl rfl ?_
      refine JL.val (v := .int .i64 (IntKind.wrap .i64 (d56 + (20 : Int)))) (QV.assign rfl) rfl rfl rfl ?_
      refine JL.nil ?_
      refine QJ.block_normal ?_
      obtain rfl := Option.some.inj hm
      exact QJ.round_on (y66, d56, (IntKind.wrap .i64 (d56 + (20 : Int)))) z68 [0] (by exact ⟨rfl, rfl, rfl, rfl, rfl, rfl, trivial⟩) rfl rfl
    ·
      refine JC.condF' rfl (decide_eq_false h65) ?_
      refine JC.exit ?_
      refine QJ.then_exit ?_
      obtain rfl := Option.some.inj hm
      refine QJ.round_exit (fun hy => ?_)
      subst hy
      refine QJ.block_hit ?_
      exact QJ.cut_normal ((d53, d55), z54) hmo63 [0] (by exact ⟨rfl, rfl, rfl, rfl, rfl, trivial⟩) rfl rfl

/-! ### 47: slices.SortStableFunc[[]drogher/limit.pack,drogher/limit.pack] -/
noncomputable def F47_1.m (x2 : List (Int × (List Int))) : Option (List (Int × (List Int))) :=
  ((F68_1.m (x2) (((x2).length : Int))).bind fun y6 => some y6)
set_option maxRecDepth 100000 in
set_option maxHeartbeats 4000000 in
theorem F47_1.spec (s1 : SlV) (z3 : List (Unit × SlV)) (x2 : List (Int × (List Int))) (r : (List (Int × (List Int)))) (hm : F47_1.m x2 = some r) :
    Ctr Try.prog true 47 [s1.v, .func (.func 48) #[] #[]] [Asr.onv 91 (NE.pair (NE.flat (Enc.int .u64)) (NE.sl (Enc.int .i64))) (s1.v) z3 x2] (fun v L' => ∃ (g5 : List (Unit × SlV)), v = .tuple #[] ∧ L' = [Asr.onv 91 (NE.pair (NE.flat (Enc.int .u64)) (NE.sl (Enc.int .i64))) (s1.v) g5 r]) := by
  refine Ctr.intro (n := 9) (env := [(0, s1.v), (1, .func (.func 48) #[] #[])]) Try.func47 rfl rfl rfl rfl (fun c => ?_)
  unfold F47_1.m at hm
  refine JC.region ?_
  refine JL.val (v := s1.v) (QV.move rfl) rfl rfl rfl ?_
  refine JL.val (v := s1.v) (QV.move rfl) rfl rfl rfl ?_
  refine JL.val (v := .int .i64 ((x2).length : Int)) (QV.lenN (RdN.onv 0 rfl) Try.underlying89 rfl) rfl rfl rfl ?_
  refine JL.val (v := .func (.func 48) #[] #[]) (QV.move rfl) rfl rfl rfl ?_
  obtain ⟨y6, hc7, hm⟩ := bind_inv hm
  refine JL.mv (d := some 8) (MV.call (Lo := [Asr.onv 91 (NE.pair (NE.flat (Enc.int .u64)) (NE.sl (Enc.int .i64))) (s1.v) z3 x2]) (Lr := []) (F68_1.spec (s1) (z3) (x2) (((x2).length : Int)) _ hc7) rfl Try.func68 rfl rfl rfl [0] [] rfl rfl rfl trivial) rfl rfl rfl ?_
  rintro _ _ ⟨_, ⟨z8, rfl, rfl⟩, rfl⟩
  refine JL.nil ?_
  obtain rfl := Option.some.inj hm
  exact QJ.body (vs := []) (.inr rfl) rfl ResVs.nil [0] rfl rfl (.inl rfl) ⟨z8, rfl, rfl⟩

/-! ### 49: slices.Clone[[]drogher/limit.pack,drogher/limit.pack] -/
noncomputable def F49.m (x2 : List (Int × (List Int))) : Option (List (Int × (List Int))) :=
  if (([] : List (Int × (List Int))).length + x2.length) * 32 ≤ 140737488355328 ∧ ([] : List (Int × (List Int))).length + x2.length ≤ 9223372036854775807 then some x2 else none
set_option maxRecDepth 100000 in
set_option maxHeartbeats 4000000 in
theorem F49.spec (s1 : SlV) (z1 : List (Unit × SlV)) (x2 : List (Int × (List Int))) (r : List (Int × (List Int))) (hm : F49.m x2 = some r) :
    Ctr Try.prog true 49 [s1.v] [Asr.vn (NE.pair (NE.flat (Enc.int .u64)) (NE.sl (Enc.int .i64))) (s1.v) z1 x2] (fun v L' => ∃ (g1 : SlV) (g2 : List (Unit × SlV)), v = g1.v ∧ L' = [Asr.onv 91 (NE.pair (NE.flat (Enc.int .u64)) (NE.sl (Enc.int .i64))) (g1.v) g2 r]) := by
  refine Ctr.intro (n := 8) (env := [(0, s1.v)]) Try.func49 rfl rfl rfl rfl (fun c => ?_)
  unfold F49.m at hm
  obtain ⟨h4, hm⟩ := guard_inv hm
  obtain rfl := Option.some.inj hm
  refine JC.seq ?_
  refine JC.region ?_
  refine JL.ent (fun _ hs => hs.nilV 91 (NE.pair (NE.flat (Enc.int .u64)) (NE.sl (Enc.int .i64)))) ?_
  refine JL.val (v := SlV.nil.v) (QV.assign rfl) rfl rfl rfl ?_
  refine JL.nil ?_
  refine QJ.then_normal ?_
  refine JC.seq ?_
  refine JC.seq ?_
  refine JC.region ?_
  refine JL.val (v := s1.v) (QV.move rfl) rfl rfl rfl ?_
  refine JL.val (v := .bool (decide (s1.a = none))) (QV.eqlNil Try.underlying89 rfl rfl) rfl rfl rfl ?_
  refine JL.nil ?_
  refine QJ.then_normal ?_
  refine JC.cond (decide (s1.a = none)) rfl (fun hb => ?_) (fun hb => ?_)
  · refine JC.fact ((RdN.vn 1 rfl : RdN c _ (NE.pair (NE.flat (Enc.int .u64)) (NE.sl (Enc.int .i64))) s1.v z1 x2).none_nil (of_decide_eq_true hb)) (fun hx => ?_)
    obtain ⟨hz, hx⟩ := hx
    subst hz
    subst hx
    refine JC.seq ?_
    refine JC.region ?_
    refine JL.ent (fun _ hs => hs.nilV 91 (NE.pair (NE.flat (Enc.int .u64)) (NE.sl (Enc.int .i64)))) ?_
    refine JL.val (v := SlV.nil.v) (QV.assign rfl) rfl rfl rfl ?_
    refine JL.nil ?_
    refine QJ.then_normal ?_
    refine JC.ret ?_
    refine QJ.then_ret ?_
    exact QJ.body (vs := [SlV.nil.v]) (.inl rfl) rfl (ResVs.cons (ResV.tmp rfl) ResVs.nil) [0] rfl rfl (.inl rfl) ⟨SlV.nil, [], rfl, rfl⟩
  · refine JC.skip ?_
    refine QJ.then_normal ?_
    refine JC.seq ?_
    refine JC.region ?_
    refine JL.mv (d := some 5) (MV.lit0V (NE.pair (NE.flat (Enc.int .u64)) (NE.sl (Enc.int .i64))) Try.underlying89 (by kernel_rfl)) rfl rfl rfl ?_
    rintro _ _ ⟨z8, rfl, rfl⟩
    refine JL.val (v := s1.v) (QV.move rfl) rfl rfl rfl ?_
    refine JL.mv (d := some 7) (MV.appendV 0 rfl (OkG.drv (Drv.vn 2 rfl)) (RdN.vn 2 rfl) Try.underlying89 zi_91 rfl (by decide) rfl rfl h4) rfl rfl rfl ?_
    rintro _ _ ⟨z9, rfl, rfl⟩
    refine JL.val (v := z9.v) (QV.assign rfl) rfl rfl rfl ?_
    refine JL.nil ?_
    refine QJ.then_normal ?_
    refine JC.ret ?_
    exact QJ.body (vs := [z9.v]) (.inl rfl) rfl (ResVs.cons (ResV.tmp rfl) ResVs.nil) [0] rfl rfl (.inl rfl) ⟨z9, _, rfl, rfl⟩

/-! ### 83: slices.Grow[[]int,int] -/
noncomputable def F83.j1  (d6 : List Int) : Option (List Int) :=
  some d6
noncomputable def F83.m (x1 : Int) : Option (List Int) :=
  (if x1 < (0 : Int) then none else (if (0 : Int) < (IntKind.wrap .i64 (x1 - (IntKind.wrap .i64 ((0 : Int) - ((([] : List Int)).length : Int))))) then (if 0 < (IntKind.wrap .i64 (x1 - (IntKind.wrap .i64 ((0 : Int) - ((([] : List Int)).length : Int))))) ∧ (IntKind.wrap .i64 (x1 - (IntKind.wrap .i64 ((0 : Int) - ((([] : List Int)).length : Int))))) * 8 ≤ 140737488355328 ∧ (IntKind.wrap .i64 (x1 - (IntKind.wrap .i64 ((0 : Int) - ((([] : List Int)).length : Int))))) ≤ 140737488355328 then (if 0 ≤ (0 : Int) ∧ (0 : Int) ≤ ((([] : List Int)).length : Int) ∧ ((([] : List Int)).length : Int) ≤ (((List.replicate (Int.toNat (IntKind.wrap .i64 (x1 - (IntKind.wrap .i64 ((0 : Int) - ((([] : List Int)).length : Int)))))) (0 : Int))).length : Int) then F83.j1 ((subL (List.replicate (Int.toNat (IntKind.wrap .i64 (x1 - (IntKind.wrap .i64 ((0 : Int) - ((([] : List Int)).length : Int)))))) (0 : Int)) (0 : Int) ((([] : List Int)).length : Int))) else none) else none) else F83.j1 (([] : List Int))))
set_option maxRecDepth 100000 in
set_option maxHeartbeats 4000000 in
theorem F83.spec (x1 : Int) (r : (List Int)) (hm : F83.m x1 = some r) :
    Ctr Try.prog false 83 [.slice none 0 0, .int .i64 x1] [] (fun v L' => ∃ (g2 : SlV), v = g2.v ∧ L' = [Asr.of 3 (Enc.int .i64) (g2.v) r]) := by
  refine Ctr.intro (n := 27) (env := [(0, .slice none 0 0), (1, .int .i64 x1)]) Try.func83 rfl rfl rfl rfl (fun c => ?_)
  unfold F83.m at hm
  refine JC.ent (fun _ hs => hs.nil 3 (Enc.int .i64)) ?_
  refine JC.seq ?_
  refine JC.region ?_
  refine JL.ent (fun _ hs => hs.nil 3 (Enc.int .i64)) ?_
  refine JL.val (v := SlV.nil.v) (QV.assign rfl) rfl rfl rfl ?_
  refine JL.nil ?_
  refine QJ.then_normal ?_
  refine JC.seq ?_
  refine JC.seq ?_
  refine JC.region ?_
  refine JL.val (v := .int .i64 x1) (QV.move rfl) rfl rfl rfl ?_
  refine JL.val (v := .bool (decide (x1 < (0 : Int)))) (QV.lss rfl rfl) rfl rfl rfl ?_
  refine JL.nil ?_
  refine QJ.then_normal ?_
  rcases ite_inv hm with ⟨h4, hm⟩ | ⟨h4, hm⟩
  ·
    refine JC.condT' rfl (decide_eq_true h4) ?_
    cases hm
  ·
    refine JC.condF' rfl (decide_eq_false h4) ?_
    refine JC.skip ?_
    refine QJ.then_normal ?_
    refine JC.seq ?_
    refine JC.seq ?_
    refine JC.region ?_
    refine JL.val (v := .int .i64 x1) (QV.move rfl) rfl rfl rfl ?_
    refine JL.val (v := SlV.nil.v) (QV.move rfl) rfl rfl rfl ?_
    refine JL.val (v := .int .i64 (0 : Int)) (QV.capNil Try.underlying25 rfl) rfl rfl rfl ?_
    refine JL.val (v := SlV.nil.v) (QV.move rfl) rfl rfl rfl ?_
    refine JL.val (v := .int .i64 ((([] : List Int)).length : Int)) (QV.len (Rdg.of 1 rfl) Try.underlying25 rfl) rfl rfl rfl ?_
    refine JL.val (v := .int .i64 (IntKind.wrap .i64 ((0 : Int) - ((([] : List Int)).length : Int)))) (QV.sub rfl rfl) rfl rfl rfl ?_
    refine JL.val (v := .int .i64 (IntKind.wrap .i64 (x1 - (IntKind.wrap .i64 ((0 : Int) - ((([] : List Int)).length : Int)))))) (QV.sub rfl rfl) rfl rfl rfl ?_
    refine JL.val (v := .int .i64 (IntKind.wrap .i64 (x1 - (IntKind.wrap .i64 ((0 : Int) - ((([] : List Int)).length : Int)))))) (QV.assign rfl) rfl rfl rfl ?_
    refine JL.nil ?_
    refine QJ.then_normal ?_
    refine JC.seq ?_
    refine JC.region ?_
    refine JL.val (v := .int .i64 (IntKind.wrap .i64 (x1 - (IntKind.wrap .i64 ((0 : Int) - ((([] : List Int)).length : Int)))))) (QV.move rfl) rfl rfl rfl ?_
    refine JL.val (v := .bool (decide ((0 : Int) < (IntKind.wrap .i64 (x1 - (IntKind.wrap .i64 ((0 : Int) - ((([] : List Int)).length : Int)))))))) (QV.gtr rfl rfl) rfl rfl rfl ?_
    refine JL.nil ?_
    refine QJ.then_normal ?_
    refine JC.cutK (Y := (List Int) × SlV) (fun y => match y with | (d6, _) => F83.j1 (d6) = some r) (fun y => match y with | (d6, z5) => [(0, z5.v)]) (fun y => match y with | (d6, z5) => [Asr.of 3 (Enc.int .i64) (z5.v) d6]) ?_ ?_
    ·
      rintro ⟨d6, z5⟩ hm
      unfold F83.j1 at hm
      show QJ _ _ [(0, z5.v)] [Asr.of 3 (Enc.int .i64) (z5.v) d6] _ _
      refine QJ.then_normal ?_
      refine JC.seq ?_
      refine JC.region ?_
      refine JL.val (v := z5.v) (QV.move rfl) rfl rfl rfl ?_
      refine JL.val (v := z5.v) (QV.assign rfl) rfl rfl rfl ?_
      refine JL.nil ?_
      refine QJ.then_normal ?_
      refine JC.ret ?_
      obtain rfl := Option.some.inj hm
      exact QJ.body (vs := [z5.v]) (.inl rfl) rfl (ResVs.cons (ResV.tmp rfl) ResVs.nil) [0] rfl rfl (.inr ⟨own_of _ _ _ _, trivial⟩) ⟨z5, rfl, rfl⟩
    ·
      rcases ite_inv hm with ⟨h7, hm⟩ | ⟨h7, hm⟩
      ·
        refine JC.condT' rfl (decide_eq_true h7) ?_
        refine JC.region ?_
        refine JL.val (v := SlV.nil.v) (QV.move rfl) rfl rfl rfl ?_
        refine JL.val (v := SlV.nil.v) (QV.move rfl) rfl rfl rfl ?_
        refine JL.val (v := .int .i64 (0 : Int)) (QV.capNil Try.underlying25 rfl) rfl rfl rfl ?_
        refine JL.val (v := SlV.nil.v) (QV.eq (QV.sliceV (Rdg.of 1 rfl) Try.underlying25 tk_3 rfl rfl rfl (by decide)) rfl) rfl rfl rfl ?_
        refine JL.val (v := .int .i64 (IntKind.wrap .i64 (x1 - (IntKind.wrap .i64 ((0 : Int) - ((([] : List Int)).length : Int)))))) (QV.move rfl) rfl rfl rfl ?_
        obtain ⟨h8, hm⟩ := guard_inv hm
        refine JL.mv (d := some 22) (MV.appendZ (E := (Enc.int .i64)) (0 : Int) Try.underlying25 Try.underlying3 zi_3 (by decide) rfl rfl rfl h8) rfl rfl rfl ?_
        rintro _ _ ⟨z9, rfl, rfl⟩
        refine JL.val (v := SlV.nil.v) (QV.move rfl) rfl rfl rfl ?_
        refine JL.val (v := .int .i64 ((([] : List Int)).length : Int)) (QV.len (Rdg.of 2 rfl) Try.underlying25 rfl) rfl rfl rfl ?_
        obtain ⟨h10, hm⟩ := guard_inv hm
        refine JL.val (v := (SlV.sub ((Enc.int .i64)).sz z9 (0 : Int) ((([] : List Int)).length : Int)).v) (QV.sliceV (Rdg.of 0 rfl) Try.underlying25 tk_3 rfl rfl rfl h10) rfl rfl rfl ?_
        refine JL.ent (fun _ hs => hs.trunc 0 rfl h10) ?_
        refine JL.val (v := (SlV.sub ((Enc.int .i64)).sz z9 (0 : Int) ((([] : List Int)).length : Int)).v) (QV.assign rfl) rfl rfl rfl ?_
        refine JL.nil ?_
        exact QJ.cut_normal ((subL (List.replicate (Int.toNat (IntKind.wrap .i64 (x1 - (IntKind.wrap .i64 ((0 : Int) - ((([] : List Int)).length : Int)))))) (0 : Int)) (0 : Int) ((([] : List Int)).length : Int)), (SlV.sub ((Enc.int .i64)).sz z9 (0 : Int) ((([] : List Int)).length : Int))) hm [0] (by exact ⟨rfl, trivial⟩) rfl rfl
      ·
        refine JC.condF' rfl (decide_eq_false h7) ?_
        refine JC.skip ?_
        exact QJ.cut_normal (([] : List Int), SlV.nil) hm [1] (by exact ⟨rfl, trivial⟩) rfl rfl

/-! ### 71: slices.Concat[[]int,int] -/
noncomputable def F71.j2  (d11 : List Int) : Option (List Int) :=
  some d11
noncomputable def F71.b1 (x2 : List (List Int)) : (List Int × Int) → Option ((List Int × Int) ⊕ (List Int))
  | (d13, d14) => (if d14 < ((x2).length : Int) then (if 0 ≤ d14 ∧ d14 < ((x2).length : Int) then (if ((d13).length + ((gd x2 d14)).length) * 8 ≤ 140737488355328 ∧ (d13).length + ((gd x2 d14)).length ≤ 9223372036854775807 then some (.inl ((d13 ++ (gd x2 d14)), (IntKind.wrap .i64 (d14 + (1 : Int))))) else none) else none) else some (.inr d13))
noncomputable def F71.j1 (x2 : List (List Int)) (d6 : Int) : Option (List Int) :=
  ((F83.m (d6)).bind fun y7 => ((loop (F71.b1 x2) (y7, (0 : Int))).bind fun y => match y with | d11 => F71.j2 (d11)))
noncomputable def F71.b2 (x2 : List (List Int)) : (Int × Int) → Option ((Int × Int) ⊕ Int)
  | (d26, d27) => (if d27 < ((x2).length : Int) then (if 0 ≤ d27 ∧ d27 < ((x2).length : Int) then (if (IntKind.wrap .i64 (d26 + (((gd x2 d27)).length : Int))) < (0 : Int) then none else some (.inl ((IntKind.wrap .i64 (d26 + (((gd x2 d27)).length : Int))), (IntKind.wrap .i64 (d27 + (1 : Int)))))) else none) else some (.inr d26))
noncomputable def F71.m (x2 : List (List Int)) : Option (List Int) :=
  ((loop (F71.b2 x2) ((0 : Int), (0 : Int))).bind fun y => match y with | d6 => F71.j1 x2 (d6))
set_option maxRecDepth 100000 in
set_option maxHeartbeats 4000000 in
theorem F71.spec (s1 : SlV) (z3 : List SlV) (x2 : List (List Int)) (r : (List Int)) (hm : F71.m x2 = some r) :
    Ctr Try.prog false 71 [s1.v] [Asr.vn (NE.sl (Enc.int .i64)) (s1.v) z3 x2] (fun v L' => ∃ (g4 : SlV), v = g4.v ∧ L' = [Asr.of 3 (Enc.int .i64) (g4.v) r]) := by
  refine Ctr.intro (n := 36) (env := [(0, s1.v)]) Try.func71 rfl rfl rfl rfl (fun c => ?_)
  unfold F71.m at hm
  refine JC.seq ?_
  refine JC.region ?_
  refine JL.ent (fun _ hs => hs.nil 3 (Enc.int .i64)) ?_
  refine JL.val (v := SlV.nil.v) (QV.assign rfl) rfl rfl rfl ?_
  refine JL.nil ?_
  refine QJ.then_normal ?_
  refine JC.seq ?_
  refine JC.region ?_
  refine JL.val (v := .int .i64 (0 : Int)) (QV.assign rfl) rfl rfl rfl ?_
  refine JL.nil ?_
  refine QJ.then_normal ?_
  refine JC.seq ?_
  refine JC.seq ?_
  refine JC.region ?_
  refine JL.val (v := s1.v) (QV.move rfl) rfl rfl rfl ?_
  refine JL.val (v := .int .i64 ((x2).length : Int)) (QV.lenN (RdN.vn 1 rfl) Try.underlying22 rfl) rfl rfl rfl ?_
  refine JL.val (v := .int .i64 (0 : Int)) (QV.move rfl) rfl rfl rfl ?_
  refine JL.nil ?_
  refine QJ.then_normal ?_
  refine JC.cutK (Y := Int × Unit) (fun y => match y with | (d6, _) => F71.j1 x2 (d6) = some r) (fun y => match y with | (d6, _) => [(0, s1.v), (3, .int .i64 d6)]) (fun y => match y with | (d6, _) => [Asr.vn (NE.sl (Enc.int .i64)) (s1.v) z3 x2]) ?_ ?_
  ·
    rintro ⟨d6, ⟨⟩⟩ hm
    unfold F71.j1 at hm
    show QJ _ _ [(0, s1.v), (3, .int .i64 d6)] [Asr.vn (NE.sl (Enc.int .i64)) (s1.v) z3 x2] _ _
    refine QJ.then_normal ?_
    refine JC.seq ?_
    refine JC.region ?_
    refine JL.val (v := .int .i64 d6) (QV.move rfl) rfl rfl rfl ?_
    obtain ⟨y7, hc8, hm⟩ := bind_inv hm
    refine JL.mv (d := some 24) (MV.call (Lo := []) (Lr := [Asr.vn (NE.sl (Enc.int .i64)) (s1.v) z3 x2]) (F83.spec (d6) _ hc8) rfl Try.func83 rfl rfl rfl [] [0] rfl rfl rfl trivial) rfl rfl rfl ?_
    rintro _ _ ⟨_, ⟨z9, rfl, rfl⟩, rfl⟩
    refine JL.val (v := z9.v) (QV.assign rfl) rfl rfl rfl ?_
    refine JL.nil ?_
    refine QJ.then_normal ?_
    refine JC.seq ?_
    refine JC.seq ?_
    refine JC.region ?_
    refine JL.val (v := s1.v) (QV.move rfl) rfl rfl rfl ?_
    refine JL.val (v := .int .i64 ((x2).length : Int)) (QV.lenN (RdN.vn 1 rfl) Try.underlying22 rfl) rfl rfl rfl ?_
    refine JL.val (v := .int .i64 (0 : Int)) (QV.move rfl) rfl rfl rfl ?_
    refine JL.nil ?_
    refine QJ.then_normal ?_
    refine JC.cutK (Y := (List Int) × SlV) (fun y => match y with | (d11, _) => F71.j2 (d11) = some r) (fun y => match y with | (d11, z10) => [(6, z10.v)]) (fun y => match y with | (d11, z10) => [Asr.of 3 (Enc.int .i64) (z10.v) d11]) ?_ ?_
    ·
      rintro ⟨d11, z10⟩ hm
      unfold F71.j2 at hm
      show QJ _ _ [(6, z10.v)] [Asr.of 3 (Enc.int .i64) (z10.v) d11] _ _
      refine QJ.then_normal ?_
      refine JC.seq ?_
      refine JC.region ?_
      refine JL.val (v := z10.v) (QV.move rfl) rfl rfl rfl ?_
      refine JL.val (v := z10.v) (QV.assign rfl) rfl rfl rfl ?_
      refine JL.nil ?_
      refine QJ.then_normal ?_
      refine JC.ret ?_
      obtain rfl := Option.some.inj hm
      exact QJ.body (vs := [z10.v]) (.inl rfl) rfl (ResVs.cons (ResV.tmp rfl) ResVs.nil) [0] rfl rfl (.inr ⟨own_of _ _ _ _, trivial⟩) ⟨z10, rfl, rfl⟩
    ·
      refine JC.block ?_
      obtain ⟨y18, hl19, hmo20⟩ := bind_inv hm
      refine JC.loop (F71.b1 x2) (fun x z => match x, z with | (d13, d14), z12 => [(6, z12.v), (25, s1.v), (26, .int .i64 ((x2).length : Int)), (27, .int .i64 d14)]) (fun x z => match x, z with | (d13, d14), z12 => [Asr.of 3 (Enc.int .i64) (z12.v) d13, Asr.vn (NE.sl (Enc.int .i64)) (s1.v) z3 x2]) (y7, (0 : Int)) z9 y18 hl19 [0, 1] (by exact ⟨rfl, rfl, rfl, rfl, trivial⟩) rfl rfl ?_
      rintro ⟨d13, d14⟩ z12 s21 hm
      unfold F71.b1 at hm
      dsimp only at hm
      show JC _ _ _ [(6, z12.v), (25, s1.v), (26, .int .i64 ((x2).length : Int)), (27, .int .i64 d14)] [Asr.of 3 (Enc.int .i64) (z12.v) d13, Asr.vn (NE.sl (Enc.int .i64)) (s1.v) z3 x2] _ _
      refine JC.seq ?_
      refine JC.region ?_
      refine JL.val (v := .bool (decide (d14 < ((x2).length : Int)))) (QV.lss rfl rfl) rfl rfl rfl ?_
      refine JL.nil ?_
      refine QJ.then_normal ?_
      refine JC.seq ?_
      rcases ite_inv hm with ⟨h22, hm⟩ | ⟨h22, hm⟩
      ·
        refine JC.condT' rfl (decide_eq_true h22) ?_
        refine JC.skip ?_
        refine QJ.then_normal ?_
        refine JC.seq ?_
        refine JC.block ?_
        refine JC.seq ?_
        refine JC.region ?_
        obtain ⟨h23, hm⟩ := guard_inv hm
        refine JL.val (v := .pointer (some (elA (s1.v) (Int.toNat d14 * ((NE.sl (Enc.int .i64)).E).sz)))) (QV.indexN (RdN.vn 1 rfl) Try.underlying22 tk_25 rfl rfl h23) rfl rfl rfl ?_
        refine JL.val (v := (gd z3 d14).v) (QV.el1N (RdN.vn 1 rfl) tk_25 rfl h23 rfl) rfl rfl rfl ?_
        refine JL.val (v := (gd z3 d14).v) (QV.assign rfl) rfl rfl rfl ?_
        refine JL.nil ?_
        refine QJ.ent (fun _ hs => hs.derive (Drv.el (K := (NE.sl (Enc.int .i64))) (A := Asr.vw (Enc.int .i64) ((gd z3 d14).v) (gd x2 d14)) (Drv.vn 1 rfl) h23 (fun _ _ q => q))) ?_
        refine QJ.then_normal ?_
        refine JC.region ?_
        refine JL.val (v := z12.v) (QV.move rfl) rfl rfl rfl ?_
        refine JL.val (v := (gd z3 d14).v) (QV.move rfl) rfl rfl rfl ?_
        obtain ⟨h24, hm⟩ := guard_inv hm
        refine JL.mv (d := some 33) (MV.append 1 rfl (Rdg.vw 0 rfl) Try.underlying25 zi_3 rfl (by decide) rfl rfl h24) rfl rfl rfl ?_
        rintro _ _ ⟨z25, rfl, rfl⟩
        refine JL.val (v := z25.v) (QV.assign rfl) rfl rfl rfl ?_
        refine JL.nil ?_
        refine QJ.block_normal ?_
        refine QJ.then_normal ?_
        refine JC.region ?_
        refine JL.val (v := .int .i64 (IntKind.wrap .i64 (d14 + (1 : Int)))) (QV.add rfl rfl) rfl rfl rfl ?_
        refine JL.val (v := .int .i64 (IntKind.wrap .i64 (d14 + (1 : Int)))) (QV.move rfl) rfl rfl rfl ?_
        refine JL.nil ?_
        obtain rfl := Option.some.inj hm
        exact QJ.round_on ((d13 ++ (gd x2 d14)), (IntKind.wrap .i64 (d14 + (1 : Int)))) z25 [1, 2] (by exact ⟨rfl, rfl, rfl, rfl, trivial⟩) rfl rfl
      ·
        refine JC.condF' rfl (decide_eq_false h22) ?_
        refine JC.exit ?_
        refine QJ.then_exit ?_
        obtain rfl := Option.some.inj hm
        refine QJ.round_exit (fun hy => ?_)
        subst hy
        refine QJ.block_hit ?_
        exact QJ.cut_normal (d13, z12) hmo20 [0] (by exact ⟨rfl, trivial⟩) rfl rfl
  ·
    refine JC.block ?_
    obtain ⟨y30, hl31, hmo32⟩ := bind_inv hm
    refine JC.loop (F71.b2 x2) (fun x z => match x, z with | (d26, d27), _ => [(0, s1.v), (3, .int .i64 d26), (9, s1.v), (10, .int .i64 ((x2).length : Int)), (11, .int .i64 d27)]) (fun x z => match x, z with | (d26, d27), _ => [Asr.vn (NE.sl (Enc.int .i64)) (s1.v) z3 x2]) ((0 : Int), (0 : Int)) () y30 hl31 [1] (by exact ⟨rfl, rfl, rfl, rfl, rfl, trivial⟩) rfl rfl ?_
    rintro ⟨d26, d27⟩ ⟨⟩ s33 hm
    unfold F71.b2 at hm
    dsimp only at hm
    show JC _ _ _ [(0, s1.v), (3, .int .i64 d26), (9, s1.v), (10, .int .i64 ((x2).length : Int)), (11, .int .i64 d27)] [Asr.vn (NE.sl (Enc.int .i64)) (s1.v) z3 x2] _ _
    refine JC.seq ?_
    refine JC.region ?_
    refine JL.val (v := .bool (decide (d27 < ((x2).length : Int)))) (QV.lss rfl rfl) rfl rfl rfl ?_
    refine JL.nil ?_
    refine QJ.then_normal ?_
    refine JC.seq ?_
    rcases ite_inv hm with ⟨h34, hm⟩ | ⟨h34, hm⟩
    ·
      refine JC.condT' rfl (decide_eq_true h34) ?_
      refine JC.skip ?_
      refine QJ.then_normal ?_
      refine JC.seq ?_
      refine JC.block ?_
      refine JC.seq ?_
      refine JC.region ?_
      obtain ⟨h35, hm⟩ := guard_inv hm
      refine JL.val (v := .pointer (some (elA (s1.v) (Int.toNat d27 * ((NE.sl (Enc.int .i64)).E).sz)))) (QV.indexN (RdN.vn 0 rfl) Try.underlying22 tk_25 rfl rfl h35) rfl rfl rfl ?_
      refine JL.val (v := (gd z3 d27).v) (QV.el1N (RdN.vn 0 rfl) tk_25 rfl h35 rfl) rfl rfl rfl ?_
      refine JL.val (v := (gd z3 d27).v) (QV.assign rfl) rfl rfl rfl ?_
      refine JL.nil ?_
      refine QJ.ent (fun _ hs => hs.derive (Drv.el (K := (NE.sl (Enc.int .i64))) (A := Asr.vw (Enc.int .i64) ((gd z3 d27).v) (gd x2 d27)) (Drv.vn 0 rfl) h35 (fun _ _ q => q))) ?_
      refine QJ.then_normal ?_
      refine JC.seq ?_
      refine JC.region ?_
      refine JL.val (v := .int .i64 d26) (QV.move rfl) rfl rfl rfl ?_
      refine JL.val (v := (gd z3 d27).v) (QV.move rfl) rfl rfl rfl ?_
      refine JL.val (v := .int .i64 (((gd x2 d27)).length : Int)) (QV.len (Rdg.vw 0 rfl) Try.underlying25 rfl) rfl rfl rfl ?_
      refine JL.val (v := .int .i64 (IntKind.wrap .i64 (d26 + (((gd x2 d27)).length : Int)))) (QV.add rfl rfl) rfl rfl rfl ?_
      refine JL.val (v := .int .i64 (IntKind.wrap .i64 (d26 + (((gd x2 d27)).length : Int)))) (QV.assign rfl) rfl rfl rfl ?_
      refine JL.nil ?_
      refine QJ.then_normal ?_
      refine JC.seq ?_
      refine JC.region ?_
      refine JL.val (v := .int .i64 (IntKind.wrap .i64 (d26 + (((gd x2 d27)).length : Int)))) (QV.move rfl) rfl rfl rfl ?_
      refine JL.val (v := .bool (decide ((IntKind.wrap .i64 (d26 + (((gd x2 d27)).length : Int))) < (0 : Int)))) (QV.lss rfl rfl) rfl rfl rfl ?_
      refine JL.nil ?_
      refine QJ.then_normal ?_
      rcases ite_inv hm with ⟨h36, hm⟩ | ⟨h36, hm⟩
      ·
        refine JC.condT' rfl (decide_eq_true h36) ?_
        cases hm
      ·
        refine JC.condF' rfl (decide_eq_false h36) ?_
        refine JC.skip ?_
        refine QJ.block_normal ?_
        refine QJ.then_normal ?_
        refine JC.region ?_
        refine JL.val (v := .int .i64 (IntKind.wrap .i64 (d27 + (1 : Int)))) (QV.add rfl rfl) rfl rfl rfl ?_
        refine JL.val (v := .int .i64 (IntKind.wrap .i64 (d27 + (1 : Int)))) (QV.move rfl) rfl rfl rfl ?_
        refine JL.nil ?_
        obtain rfl := Option.some.inj hm
        exact QJ.round_on ((IntKind.wrap .i64 (d26 + (((gd x2 d27)).length : Int))), (IntKind.wrap .i64 (d27 + (1 : Int)))) () [1] (by exact ⟨rfl, rfl, rfl, rfl, rfl, trivial⟩) rfl rfl
    ·
      refine JC.condF' rfl (decide_eq_false h34) ?_
      refine JC.exit ?_
      refine QJ.then_exit ?_
      obtain rfl := Option.some.inj hm
      refine QJ.round_exit (fun hy => ?_)
      subst hy
      refine QJ.block_hit ?_
      exact QJ.cut_normal (d26, ()) hmo32 [0] (by exact ⟨rfl, rfl, trivial⟩) rfl rfl

noncomputable def F50.rb : Code := match Try.f50.body with
  | some (.seq _ (.seq _ (.seq (.seq _ (.block _ (.rangeFunc _ _ _ b))) _))) => b
  | _ => .skip
/-! ### 119: a round of drogher/limit.pairs -/
noncomputable def F119.j1  (d12 : List (Int × (List Int))) : Option (List (Int × (List Int))) :=
  some d12
noncomputable def F119.m (x3 : List (Int × (List Int))) (x6 : List (Int × (List Int))) : Option (List (Int × (List Int))) :=
  (if ((x6).length : Int) = (2 : Int) then (if 0 ≤ (0 : Int) ∧ (0 : Int) < ((x6).length : Int) then (if 0 ≤ (1 : Int) ∧ (1 : Int) < ((x6).length : Int) then ((F71.m ([(gd x6 (0 : Int)).2, (gd x6 (1 : Int)).2])).bind fun y18 => (if ((x3).length + ([((IntKind.wrap .u64 ((gd x6 (0 : Int)).1 + (gd x6 (1 : Int)).1)), y18)]).length) * 32 ≤ 140737488355328 ∧ (x3).length + ([((IntKind.wrap .u64 ((gd x6 (0 : Int)).1 + (gd x6 (1 : Int)).1)), y18)]).length ≤ 9223372036854775807 then F119.j1 ((x3 ++ [((IntKind.wrap .u64 ((gd x6 (0 : Int)).1 + (gd x6 (1 : Int)).1)), y18)])) else none)) else none) else none) else F119.j1 (x3))
set_option maxRecDepth 100000 in
set_option maxHeartbeats 4000000 in
theorem F119.spec (b1 : Nat) (s2 : SlV) (z4 : List (Unit × SlV)) (s5 : SlV) (z7 : List (Unit × SlV)) (x3 : List (Int × (List Int))) (x6 : List (Int × (List Int))) (r : (List (Int × (List Int)))) (hm : F119.m x3 x6 = some r) :
    CtrB Try.prog 35 [(3, .pointer (some ⟨b1, 0, none⟩)), (4, s5.v)] F50.rb [Asr.blk b1 89 [Seg.c (s2.v)], Asr.onv 91 (NE.pair (NE.flat (Enc.int .u64)) (NE.sl (Enc.int .i64))) (s2.v) z4 x3, Asr.vn (NE.pair (NE.flat (Enc.int .u64)) (NE.sl (Enc.int .i64))) (s5.v) z7 x6] (fun L' => ∃ (g8 : SlV), ∃ (g10 : List (Unit × SlV)), L' = [Asr.onv 91 (NE.pair (NE.flat (Enc.int .u64)) (NE.sl (Enc.int .i64))) (g8.v) g10 r, Asr.blk b1 89 [Seg.c (g8.v)]]) := by
  intro l c
  unfold F119.m at hm
  refine JC.block ?_
  refine JC.seq ?_
  refine JC.region ?_
  refine JL.val (v := s5.v) (QV.move rfl) rfl rfl rfl ?_
  refine JL.val (v := .int .i64 ((x6).length : Int)) (QV.lenN (RdN.vn 2 rfl) Try.underlying89 rfl) rfl rfl rfl ?_
  refine JL.val (v := .bool (decide (((x6).length : Int) = (2 : Int)))) (QV.eql rfl rfl) rfl rfl rfl ?_
  refine JL.nil ?_
  refine QJ.then_normal ?_
  refine JC.cutK (Y := (List (Int × (List Int))) × (SlV × List (Unit × SlV))) (fun y => match y with | (d12, _) => F119.j1 (d12) = some r) (fun y => match y with | (d12, (z11, z13)) => []) (fun y => match y with | (d12, (z11, z13)) => [Asr.onv 91 (NE.pair (NE.flat (Enc.int .u64)) (NE.sl (Enc.int .i64))) (z11.v) z13 d12, Asr.blk b1 89 [Seg.c (z11.v)]]) ?_ ?_
  ·
    rintro ⟨d12, ⟨z11, z13⟩⟩ hm
    unfold F119.j1 at hm
    show QJ _ _ [] [Asr.onv 91 (NE.pair (NE.flat (Enc.int .u64)) (NE.sl (Enc.int .i64))) (z11.v) z13 d12, Asr.blk b1 89 [Seg.c (z11.v)]] _ _
    refine QJ.block_normal ?_
    obtain rfl := Option.some.inj hm
    exact QJ.rbody [0, 1] rfl rfl ⟨z11, z13, rfl⟩
  ·
    rcases ite_inv hm with ⟨h14, hm⟩ | ⟨h14, hm⟩
    ·
      refine JC.condT' rfl (decide_eq_true h14) ?_
      refine JC.regionT [Asr.blk b1 89 [Seg.c (s2.v)], Asr.vn (NE.pair (NE.flat (Enc.int .u64)) (NE.sl (Enc.int .i64))) (s5.v) z7 x6] (fun t => Nat.beq t 23) [(0, true), (1, true), (2, true), (3, true), (4, true), (5, true), (6, true), (7, true), (8, true), (9, true), (10, true), (11, true), (12, true), (13, true), (14, false), (15, false), (16, false), (17, false), (18, false), (19, false), (20, false), (21, false), (22, false), (23, false)] (by kernel_rfl) (by kernel_rfl) (by kernel_rfl) rfl (fun hsel => ?_)
      refine JT.take (i := 0) (v := s2.v) hsel rfl (QV.load1 (ss := [Seg.c (s2.v)]) 0 0 rfl tk_89 rfl rfl rfl) rfl rfl rfl rfl [0, 2] rfl rfl ?_
      refine JT.take (i := 1) (v := s5.v) hsel rfl (QV.move rfl) rfl rfl rfl rfl [0, 2] rfl rfl ?_
      obtain ⟨h15, hm⟩ := guard_inv hm
      refine JT.take (i := 2) (v := .pointer (some (elA (s5.v) (Int.toNat (0 : Int) * ((NE.pair (NE.flat (Enc.int .u64)) (NE.sl (Enc.int .i64))).E).sz)))) hsel rfl (QV.indexN (RdN.vn 1 rfl) Try.underlying89 tk_91 rfl rfl h15) rfl rfl rfl rfl [0, 2] rfl rfl ?_
      refine JT.take (i := 3) (v := .pointer (some ((elA (s5.v) (Int.toNat (0 : Int) * ((NE.pair (NE.flat (Enc.int .u64)) (NE.sl (Enc.int .i64))).E).sz)).add 0))) hsel rfl (QV.fieldA fo_91_0 rfl) rfl rfl rfl rfl [0, 2] rfl rfl ?_
      refine JT.take (i := 4) (v := .int .u64 (gd x6 (0 : Int)).1) hsel rfl (QV.elFN (RdN.vn 1 rfl) tk_41 rfl h15 rfl) rfl rfl rfl rfl [0, 2] rfl rfl ?_
      refine JT.take (i := 5) (v := s5.v) hsel rfl (QV.move rfl) rfl rfl rfl rfl [0, 2] rfl rfl ?_
      obtain ⟨h16, hm⟩ := guard_inv hm
      refine JT.take (i := 6) (v := .pointer (some (elA (s5.v) (Int.toNat (1 : Int) * ((NE.pair (NE.flat (Enc.int .u64)) (NE.sl (Enc.int .i64))).E).sz)))) hsel rfl (QV.indexN (RdN.vn 1 rfl) Try.underlying89 tk_91 rfl rfl h16) rfl rfl rfl rfl [0, 2] rfl rfl ?_
      refine JT.take (i := 7) (v := .pointer (some ((elA (s5.v) (Int.toNat (1 : Int) * ((NE.pair (NE.flat (Enc.int .u64)) (NE.sl (Enc.int .i64))).E).sz)).add 0))) hsel rfl (QV.fieldA fo_91_0 rfl) rfl rfl rfl rfl [0, 2] rfl rfl ?_
      refine JT.take (i := 8) (v := .int .u64 (gd x6 (1 : Int)).1) hsel rfl (QV.elFN (RdN.vn 1 rfl) tk_41 rfl h16 rfl) rfl rfl rfl rfl [0, 2] rfl rfl ?_
      refine JT.take (i := 9) (v := .int .u64 (IntKind.wrap .u64 ((gd x6 (0 : Int)).1 + (gd x6 (1 : Int)).1))) hsel rfl (QV.add rfl rfl) rfl rfl rfl rfl [0, 2] rfl rfl ?_
      refine JT.take (i := 10) (v := s5.v) hsel rfl (QV.move rfl) rfl rfl rfl rfl [0, 2] rfl rfl ?_
      refine JT.take (i := 11) (v := .pointer (some (elA (s5.v) (Int.toNat (0 : Int) * ((NE.pair (NE.flat (Enc.int .u64)) (NE.sl (Enc.int .i64))).E).sz)))) hsel rfl (QV.indexN (RdN.vn 1 rfl) Try.underlying89 tk_91 rfl rfl h15) rfl rfl rfl rfl [0, 2] rfl rfl ?_
      refine JT.take (i := 12) (v := .pointer (some ((elA (s5.v) (Int.toNat (0 : Int) * ((NE.pair (NE.flat (Enc.int .u64)) (NE.sl (Enc.int .i64))).E).sz)).add 1))) hsel rfl (QV.fieldA fo_91_1 rfl) rfl rfl rfl rfl [0, 2] rfl rfl ?_
      refine JT.take (i := 13) (v := (gd z7 (0 : Int)).2.v) hsel rfl (QV.elFN (RdN.vn 1 rfl) tk_25 rfl h15 rfl) rfl rfl rfl rfl [0, 2] rfl rfl ?_
      refine JT.only (i := 14) (d := some 25) rfl (MV.ofQV (v := s5.v) (QV.move rfl)) rfl rfl rfl ?_
      rintro _ _ ⟨rfl, rfl⟩
      refine ⟨fun _ => ⟨[0, 2], rfl, rfl⟩, ?_⟩
      refine JT.only (i := 15) (d := some 26) rfl (MV.ofQV (v := .pointer (some (elA (s5.v) (Int.toNat (1 : Int) * ((NE.pair (NE.flat (Enc.int .u64)) (NE.sl (Enc.int .i64))).E).sz)))) (QV.indexN (RdN.vn 2 rfl) Try.underlying89 tk_91 rfl rfl h16)) rfl rfl rfl ?_
      rintro _ _ ⟨rfl, rfl⟩
      refine ⟨fun _ => ⟨[0, 2], rfl, rfl⟩, ?_⟩
      refine JT.only (i := 16) (d := some 27) rfl (MV.ofQV (v := .pointer (some ((elA (s5.v) (Int.toNat (1 : Int) * ((NE.pair (NE.flat (Enc.int .u64)) (NE.sl (Enc.int .i64))).E).sz)).add 1))) (QV.fieldA fo_91_1 rfl)) rfl rfl rfl ?_
      rintro _ _ ⟨rfl, rfl⟩
      refine ⟨fun _ => ⟨[0, 2], rfl, rfl⟩, ?_⟩
      refine JT.only (i := 17) (d := some 28) rfl (MV.ofQV (v := (gd z7 (1 : Int)).2.v) (QV.elFN (RdN.vn 2 rfl) tk_25 rfl h16 rfl)) rfl rfl rfl ?_
      rintro _ _ ⟨rfl, rfl⟩
      refine ⟨fun _ => ⟨[0, 2], rfl, rfl⟩, ?_⟩
      refine JT.only (i := 18) (d := some 29) rfl (MV.lit (E := (NE.sl (Enc.int .i64)).E) (vals := [(0, (gd z7 (0 : Int)).2.v), (1, (gd z7 (1 : Int)).2.v)]) [((gd z7 (0 : Int)).2, (gd x6 (0 : Int)).2), ((gd z7 (1 : Int)).2, (gd x6 (1 : Int)).2)] Try.underlying22 zi_25 rfl (by decide) rfl (by kernel_rfl)) rfl rfl rfl ?_
      rintro _ _ ⟨z17, rfl, rfl⟩
      refine ⟨fun _ => ⟨[1, 3], rfl, rfl⟩, ?_⟩
      refine JT.grow [Asr.of 25 (NE.sl (Enc.int .i64)).E (z17.v) [((gd z7 (0 : Int)).2, (gd x6 (0 : Int)).2), ((gd z7 (1 : Int)).2, (gd x6 (1 : Int)).2)], Asr.blk b1 89 [Seg.c (s2.v)], Asr.vn (NE.pair (NE.flat (Enc.int .u64)) (NE.sl (Enc.int .i64))) (s5.v) z7 x6] [1, 2] rfl rfl ?_
      obtain ⟨y18, hc19, hm⟩ := bind_inv hm
      refine JT.only (i := 19) (d := some 30) rfl (MV.call (Lo := []) (Lr := [Asr.of 25 (NE.sl (Enc.int .i64)).E (z17.v) [((gd z7 (0 : Int)).2, (gd x6 (0 : Int)).2), ((gd z7 (1 : Int)).2, (gd x6 (1 : Int)).2)], Asr.blk b1 89 [Seg.c (s2.v)], Asr.onv 91 (NE.pair (NE.flat (Enc.int .u64)) (NE.sl (Enc.int .i64))) (s2.v) z4 x3, Asr.vn (NE.pair (NE.flat (Enc.int .u64)) (NE.sl (Enc.int .i64))) (s5.v) z7 x6]) (F71.spec (z17) ([(gd z7 (0 : Int)).2, (gd z7 (1 : Int)).2]) ([(gd x6 (0 : Int)).2, (gd x6 (1 : Int)).2]) _ hc19) rfl Try.func71 rfl rfl rfl [] [0, 1, 2, 3] rfl rfl rfl ⟨(Drv.lit (zs := [(gd z7 (0 : Int)).2, (gd z7 (1 : Int)).2]) (xs := [(gd x6 (0 : Int)).2, (gd x6 (1 : Int)).2]) 0 rfl rfl ⟨(Drv.el (K := (NE.pair (NE.flat (Enc.int .u64)) (NE.sl (Enc.int .i64)))) (A := Asr.vw (Enc.int .i64) ((gd z7 (0 : Int)).2.v) (gd x6 (0 : Int)).2) (Drv.vn 3 rfl) h15 (fun _ _ q => q.2)), ⟨(Drv.el (K := (NE.pair (NE.flat (Enc.int .u64)) (NE.sl (Enc.int .i64)))) (A := Asr.vw (Enc.int .i64) ((gd z7 (1 : Int)).2.v) (gd x6 (1 : Int)).2) (Drv.vn 3 rfl) h16 (fun _ _ q => q.2)), trivial⟩⟩), trivial⟩) rfl rfl rfl ?_
      rintro _ _ ⟨_, ⟨z20, rfl, rfl⟩, rfl⟩
      refine ⟨fun _ => ⟨[1, 2, 4], rfl, rfl⟩, ?_⟩
      refine JT.ent (fun _ hs => hs.nil 3 (Enc.int .i64)) ?_
      refine JT.only (i := 20) (d := some 31) rfl (MV.ofQV (v := .agg #[.int .u64 (IntKind.wrap .u64 ((gd x6 (0 : Int)).1 + (gd x6 (1 : Int)).1)), z20.v]) (QV.build (vals := [(0, .int .u64 (IntKind.wrap .u64 ((gd x6 (0 : Int)).1 + (gd x6 (1 : Int)).1))), (1, z20.v)]) rfl (by kernel_rfl))) rfl rfl rfl ?_
      rintro _ _ ⟨rfl, rfl⟩
      refine ⟨fun _ => ⟨[2, 3, 5], rfl, rfl⟩, ?_⟩
      refine JT.ent (fun _ hs => hs.share 1 rfl) ?_
      refine JT.only (i := 21) (d := some 32) rfl (MV.litV (K := (NE.pair (NE.flat (Enc.int .u64)) (NE.sl (Enc.int .i64)))) (vals := [(0, .agg #[.int .u64 (IntKind.wrap .u64 ((gd x6 (0 : Int)).1 + (gd x6 (1 : Int)).1)), z20.v])]) [((), z20)] [((IntKind.wrap .u64 ((gd x6 (0 : Int)).1 + (gd x6 (1 : Int)).1)), y18)] Try.underlying89 zi_91 ⟨fun w F G hst => ⟨trivial, (ok_vw (Drv.vw 1 rfl) w F G hst)⟩, trivial⟩ rfl (by decide) rfl (by kernel_rfl)) rfl rfl rfl ?_
      rintro _ _ ⟨z21, rfl, rfl⟩
      refine ⟨fun _ => ⟨[3, 4, 6], rfl, rfl⟩, ?_⟩
      refine JT.grow [Asr.onv 91 (NE.pair (NE.flat (Enc.int .u64)) (NE.sl (Enc.int .i64))) (z21.v) [((), z20)] [((IntKind.wrap .u64 ((gd x6 (0 : Int)).1 + (gd x6 (1 : Int)).1)), y18)], Asr.of 3 (Enc.int .i64) (SlV.nil.v) ([] : List Int), Asr.vw (Enc.int .i64) (z20.v) y18, Asr.of 25 (NE.sl (Enc.int .i64)).E (z17.v) [((gd z7 (0 : Int)).2, (gd x6 (0 : Int)).2), ((gd z7 (1 : Int)).2, (gd x6 (1 : Int)).2)], Asr.blk b1 89 [Seg.c (s2.v)], Asr.vn (NE.pair (NE.flat (Enc.int .u64)) (NE.sl (Enc.int .i64))) (s5.v) z7 x6] [3, 4, 5] rfl rfl ?_
      obtain ⟨h22, hm⟩ := guard_inv hm
      refine JT.only (i := 22) (d := some 33) rfl (MV.appendV 5 rfl (OkG.onv 0 rfl) (RdN.onv 0 rfl) Try.underlying89 zi_91 rfl (by decide) rfl rfl h22) rfl rfl rfl ?_
      rintro _ _ ⟨z23, rfl, rfl⟩
      refine ⟨fun _ => ⟨[0, 1, 2, 3, 4, 6], rfl, rfl⟩, ?_⟩
      refine JT.grow [Asr.onv 91 (NE.pair (NE.flat (Enc.int .u64)) (NE.sl (Enc.int .i64))) (z21.v) [((), z20)] [((IntKind.wrap .u64 ((gd x6 (0 : Int)).1 + (gd x6 (1 : Int)).1)), y18)], Asr.of 3 (Enc.int .i64) (SlV.nil.v) ([] : List Int), Asr.vw (Enc.int .i64) (z20.v) y18, Asr.of 25 (NE.sl (Enc.int .i64)).E (z17.v) [((gd z7 (0 : Int)).2, (gd x6 (0 : Int)).2), ((gd z7 (1 : Int)).2, (gd x6 (1 : Int)).2)], Asr.blk b1 89 [Seg.c (s2.v)], Asr.onv 91 (NE.pair (NE.flat (Enc.int .u64)) (NE.sl (Enc.int .i64))) (z23.v) (z4 ++ [((), z20)]) (x3 ++ [((IntKind.wrap .u64 ((gd x6 (0 : Int)).1 + (gd x6 (1 : Int)).1)), y18)]), Asr.vn (NE.pair (NE.flat (Enc.int .u64)) (NE.sl (Enc.int .i64))) (s5.v) z7 x6] [0, 1, 2, 3, 4, 6] rfl rfl ?_
      refine JT.only (i := 23) (d := none) rfl (MV.store (ss := [Seg.c (s2.v)]) 4 0 1 [Seg.c (z23.v)] rfl tk_89 rfl rfl rfl rfl (fun w hs => ⟨cells_slN (RdN.onv 5 rfl) hs, one_slN (RdN.onv 5 rfl) hs, trivial⟩)) rfl rfl rfl ?_
      rintro _ _ ⟨rfl, rfl⟩
      refine ⟨fun h => absurd h (by decide), ?_⟩
      refine JT.nil ?_
      exact QJ.cut_normal ((x3 ++ [((IntKind.wrap .u64 ((gd x6 (0 : Int)).1 + (gd x6 (1 : Int)).1)), y18)]), (z23, (z4 ++ [((), z20)]))) hm [5, 4] trivial rfl rfl
    ·
      refine JC.condF' rfl (decide_eq_false h14) ?_
      refine JC.skip ?_
      exact QJ.cut_normal (x3, (s2, z4)) hm [1, 0] trivial rfl rfl

/-! ### 82: the iterator of slices.Chunk, at the rounds of 50 -/
noncomputable def F82.b (x : List (Int × (List Int))) (t : Int × List (Int × (List Int))) : Option ((Int × List (Int × (List Int))) ⊕ List (Int × (List Int))) :=
  if t.1 < (x.length : Int) then
    (if 0 ≤ t.1 ∧ t.1 ≤ (x.length : Int) ∧ (x.length : Int) ≤ (x.length : Int) then
      (if 0 ≤ t.1 ∧ t.1 ≤ IntKind.wrap .i64 (t.1 + minI (2 : Int) ((subL x t.1 (x.length : Int)).length : Int)) ∧ IntKind.wrap .i64 (t.1 + minI (2 : Int) ((subL x t.1 (x.length : Int)).length : Int)) ≤ IntKind.wrap .i64 (t.1 + minI (2 : Int) ((subL x t.1 (x.length : Int)).length : Int)) ∧ IntKind.wrap .i64 (t.1 + minI (2 : Int) ((subL x t.1 (x.length : Int)).length : Int)) ≤ (x.length : Int) then
        (F119.m t.2 (subL x t.1 (IntKind.wrap .i64 (t.1 + minI (2 : Int) ((subL x t.1 (x.length : Int)).length : Int))))).bind fun o => some (.inl (IntKind.wrap .i64 (t.1 + (2 : Int)), o)) else none) else none)
  else some (.inr t.2)
noncomputable def F50.m (x1 : List (Int × (List Int))) : Option (List (Int × (List Int))) := loop (F82.b x1) ((0 : Int), ([] : List (Int × (List Int))))
noncomputable def F50.ra : Code := match Try.f50.body with
  | some (.seq _ (.seq _ (.seq (.seq _ (.block _ (.rangeFunc _ _ a _))) _))) => a
  | _ => .skip
set_option maxRecDepth 100000 in
set_option maxHeartbeats 4000000 in
theorem F82.spec (l D f : Nat) (tmps : Array Value) (bo b1 b2 : Nat) (hsz : tmps.size = 35) (hat : ∀ t v, get [(3, .pointer (some ⟨bo, 0, none⟩))] t = some v → tmps[t]? = some v)
    (s1 so : SlV) (z1 zo : List (Unit × SlV)) (x1 r : List (Int × (List Int))) (hm : loop (F82.b x1) ((0 : Int), ([] : List (Int × (List Int)))) = some r) (hzo : zo = []) :
    Ctr Try.prog true 82 [.func (.yield l) #[] #[], .pointer (some ⟨b1, 0, none⟩), .pointer (some ⟨b2, 0, none⟩)]
      [Asr.obj l (.loop { state := .ready, pending := none, fn := f, tmps, params := #[7], assign := F50.ra, body := F50.rb, defers := D }), Asr.blk b1 89 [Seg.c s1.v], Asr.blk b2 3 [Seg.c (.int .i64 2)], Asr.blk bo 89 [Seg.c so.v], Asr.onv 91 (NE.pair (NE.flat (Enc.int .u64)) (NE.sl (Enc.int .i64))) so.v zo ([] : List (Int × (List Int))), Asr.vn (NE.pair (NE.flat (Enc.int .u64)) (NE.sl (Enc.int .i64))) s1.v z1 x1]
      (fun _ L' => ∃ L1, (∃ (g : SlV) (zg : List (Unit × SlV)), L1 = [Asr.onv 91 (NE.pair (NE.flat (Enc.int .u64)) (NE.sl (Enc.int .i64))) g.v zg r, Asr.blk bo 89 [Seg.c g.v]]) ∧ L' = Asr.obj l (.loop { state := .ready, pending := none, fn := f, tmps, params := #[7], assign := F50.ra, body := F50.rb, defers := D }) :: L1) := by
  refine Ctr.intro (n := 31) (env := [(0, .func (.yield l) #[] #[]), (1, .pointer (some ⟨b1, 0, none⟩)), (2, .pointer (some ⟨b2, 0, none⟩))]) Try.func82 rfl rfl rfl rfl (fun c => ?_)
  generalize hrec : Obj.loop { state := .ready, pending := none, fn := f, tmps, params := #[7], assign := F50.ra, body := F50.rb, defers := D } = rec
  refine JC.seq ?_
  refine JC.region ?_
  refine JL.val (v := .int .i64 0) (QV.assign rfl) rfl rfl rfl ?_
  refine JL.nil ?_
  refine QJ.then_normal ?_
  refine JC.block ?_
  refine JC.loop (F82.b x1) (fun x z => [(0, .func (.yield l) #[] #[]), (1, .pointer (some ⟨b1, 0, none⟩)), (2, .pointer (some ⟨b2, 0, none⟩)), (4, .int .i64 x.1)])
    (fun x (z : SlV × List (Unit × SlV)) => [Asr.obj l rec, Asr.blk b1 89 [Seg.c s1.v], Asr.blk b2 3 [Seg.c (.int .i64 2)], Asr.blk bo 89 [Seg.c z.1.v], Asr.onv 91 (NE.pair (NE.flat (Enc.int .u64)) (NE.sl (Enc.int .i64))) z.1.v z.2 x.2, Asr.vn (NE.pair (NE.flat (Enc.int .u64)) (NE.sl (Enc.int .i64))) s1.v z1 x1]) ((0 : Int), ([] : List (Int × (List Int)))) (so, zo) r hm [0, 1, 2, 3, 4, 5] (by exact ⟨rfl, rfl, rfl, rfl, trivial⟩) rfl rfl ?_
  rintro ⟨i, o⟩ ⟨g, zg⟩ s hm
  unfold F82.b at hm
  dsimp only at hm
  show JC _ _ _ [(0, .func (.yield l) #[] #[]), (1, .pointer (some ⟨b1, 0, none⟩)), (2, .pointer (some ⟨b2, 0, none⟩)), (4, .int .i64 i)] [Asr.obj l rec, Asr.blk b1 89 [Seg.c s1.v], Asr.blk b2 3 [Seg.c (.int .i64 2)], Asr.blk bo 89 [Seg.c g.v], Asr.onv 91 (NE.pair (NE.flat (Enc.int .u64)) (NE.sl (Enc.int .i64))) g.v zg o, Asr.vn (NE.pair (NE.flat (Enc.int .u64)) (NE.sl (Enc.int .i64))) s1.v z1 x1] _ _
  refine JC.seq ?_
  refine JC.seq ?_
  refine JC.region ?_
  refine JL.val (v := .int .i64 i) (QV.move rfl) rfl rfl rfl ?_
  refine JL.val (v := s1.v) (QV.load1 (ss := [Seg.c s1.v]) 1 0 rfl tk_89 rfl rfl rfl) rfl rfl rfl ?_
  refine JL.val (v := .int .i64 (x1.length : Int)) (QV.lenN (RdN.vn 5 rfl) Try.underlying89 rfl) rfl rfl rfl ?_
  refine JL.val (v := .bool (decide (i < (x1.length : Int)))) (QV.lss rfl rfl) rfl rfl rfl ?_
  refine JL.nil ?_
  refine QJ.then_normal ?_
  rcases ite_inv hm with ⟨h1, hm⟩ | ⟨h1, hm⟩
  · refine JC.condT' rfl (decide_eq_true h1) ?_
    refine JC.skip ?_
    refine QJ.then_normal ?_
    refine JC.seq ?_
    obtain ⟨h2, hm⟩ := guard_inv hm
    obtain ⟨h3, hm⟩ := guard_inv hm
    obtain ⟨o', hc, hm⟩ := bind_inv hm
    obtain rfl := Option.some.inj hm
    have h4 : Drv false [Asr.obj l rec, Asr.blk b1 89 [Seg.c s1.v], Asr.blk b2 3 [Seg.c (.int .i64 2)], Asr.blk bo 89 [Seg.c g.v], Asr.onv 91 (NE.pair (NE.flat (Enc.int .u64)) (NE.sl (Enc.int .i64))) g.v zg o, Asr.vn (NE.pair (NE.flat (Enc.int .u64)) (NE.sl (Enc.int .i64))) s1.v z1 x1] _ := Drv.subN (Drv.vn 5 rfl) h2
    refine JC.block ?_
    refine JC.seq ?_
    refine JC.regionT [Asr.obj l rec, Asr.blk b1 89 [Seg.c s1.v], Asr.blk b2 3 [Seg.c (.int .i64 2)], Asr.blk bo 89 [Seg.c g.v], Asr.onv 91 (NE.pair (NE.flat (Enc.int .u64)) (NE.sl (Enc.int .i64))) g.v zg o, Asr.vn (NE.pair (NE.flat (Enc.int .u64)) (NE.sl (Enc.int .i64))) s1.v z1 x1] (fun _ => false) [(0, true), (1, true), (2, true), (3, true), (4, true), (5, true), (6, true)] (by kernel_rfl) (by kernel_rfl) (by kernel_rfl) rfl (fun hsel => ?_)
    refine JT.take (i := 0) (v := .int .i64 2) hsel rfl (QV.load1 (ss := [Seg.c (.int .i64 2)]) 2 0 rfl tk_3 rfl rfl rfl) rfl rfl rfl rfl [0, 1, 2, 3, 4, 5] rfl rfl ?_
    refine JT.take (i := 1) (v := s1.v) hsel rfl (QV.load1 (ss := [Seg.c s1.v]) 1 0 rfl tk_89 rfl rfl rfl) rfl rfl rfl rfl [0, 1, 2, 3, 4, 5] rfl rfl ?_
    refine JT.take (i := 2) (v := .int .i64 i) hsel rfl (QV.move rfl) rfl rfl rfl rfl [0, 1, 2, 3, 4, 5] rfl rfl ?_
    refine JT.take (i := 3) (v := (SlV.sub ((NE.pair (NE.flat (Enc.int .u64)) (NE.sl (Enc.int .i64)))).E.sz s1 i (x1.length : Int)).v) hsel rfl (QV.sliceN (RdN.vn 5 rfl) Try.underlying89 tk_91 rfl rfl rfl h2) rfl rfl rfl rfl [0, 1, 2, 3, 4, 5] rfl rfl ?_
    refine JT.take (i := 4) (v := .int .i64 ((subL x1 i (x1.length : Int)).length : Int)) hsel rfl (QV.lenN (RdN.ofDrv h4) Try.underlying89 rfl) rfl rfl rfl rfl [0, 1, 2, 3, 4, 5] rfl rfl ?_
    refine JT.take (i := 5) (v := .int .i64 (minI (2 : Int) ((subL x1 i (x1.length : Int)).length : Int))) hsel rfl (QV.min2 rfl rfl) rfl rfl rfl rfl [0, 1, 2, 3, 4, 5] rfl rfl ?_
    refine JT.take (i := 6) (v := .int .i64 (minI (2 : Int) ((subL x1 i (x1.length : Int)).length : Int))) hsel rfl (QV.assign rfl) rfl rfl rfl rfl [0, 1, 2, 3, 4, 5] rfl rfl ?_
    refine JT.nil ?_
    refine QJ.then_normal ?_
    refine JC.seq ?_
    generalize he : minI (2 : Int) ((subL x1 i (x1.length : Int)).length : Int) = e at *
    generalize hw : IntKind.wrap .i64 (i + e) = w at *
    refine JC.region ?_
    refine JL.val (v := .func (.yield l) #[] #[]) (QV.move rfl) rfl rfl rfl ?_
    refine JL.val (v := s1.v) (QV.load1 (ss := [Seg.c s1.v]) 1 0 rfl tk_89 rfl rfl rfl) rfl rfl rfl ?_
    refine JL.val (v := .int .i64 i) (QV.move rfl) rfl rfl rfl ?_
    refine JL.val (v := .int .i64 i) (QV.move rfl) rfl rfl rfl ?_
    refine JL.val (v := .int .i64 e) (QV.move rfl) rfl rfl rfl ?_
    refine JL.val (v := .int .i64 w) (hw ▸ QV.add rfl rfl) rfl rfl rfl ?_
    refine JL.val (v := .int .i64 i) (QV.move rfl) rfl rfl rfl ?_
    refine JL.val (v := .int .i64 e) (QV.move rfl) rfl rfl rfl ?_
    refine JL.val (v := .int .i64 w) (hw ▸ QV.add rfl rfl) rfl rfl rfl ?_
    refine JL.val (v := (SlV.sub3 ((NE.pair (NE.flat (Enc.int .u64)) (NE.sl (Enc.int .i64)))).E.sz s1 i w w).v) (QV.slice3N (RdN.vn 5 rfl) Try.underlying89 tk_91 rfl rfl rfl rfl h3) rfl rfl rfl ?_
    refine JL.mv (d := some 29) (MV.yield (l := l) (vals := [(SlV.sub3 ((NE.pair (NE.flat (Enc.int .u64)) (NE.sl (Enc.int .i64)))).E.sz s1 i w w).v]) (Lo := [Asr.obj l rec, Asr.blk bo 89 [Seg.c g.v], Asr.onv 91 (NE.pair (NE.flat (Enc.int .u64)) (NE.sl (Enc.int .i64))) g.v zg o]) (Lr := [Asr.blk b1 89 [Seg.c s1.v], Asr.blk b2 3 [Seg.c (.int .i64 2)], Asr.vn (NE.pair (NE.flat (Enc.int .u64)) (NE.sl (Enc.int .i64))) s1.v z1 x1])
      (Lv := [Asr.vn (NE.pair (NE.flat (Enc.int .u64)) (NE.sl (Enc.int .i64))) (SlV.sub3 ((NE.pair (NE.flat (Enc.int .u64)) (NE.sl (Enc.int .i64)))).E.sz s1 i w w).v (subL z1 i w) (subL x1 i w)])
      (hrec ▸ CtrY.intro (m := 35) (env0 := [(7, (SlV.sub3 ((NE.pair (NE.flat (Enc.int .u64)) (NE.sl (Enc.int .i64)))).E.sz s1 i w w).v), (3, .pointer (some ⟨bo, 0, none⟩))]) rfl (Rep.par1 hsz hat rfl) (assign1 rfl rfl) (fun l c => JC.sub [(3, .pointer (some ⟨bo, 0, none⟩)), (4, (SlV.sub3 ((NE.pair (NE.flat (Enc.int .u64)) (NE.sl (Enc.int .i64)))).E.sz s1 i w w).v)] _ [0, 1, 2] ⟨rfl, rfl, trivial⟩ rfl rfl (F119.spec bo g zg (SlV.sub3 ((NE.pair (NE.flat (Enc.int .u64)) (NE.sl (Enc.int .i64)))).E.sz s1 i w w) (subL z1 i w) o (subL x1 i w) o' hc l c)))
      rfl rfl rfl [0, 3, 4] [1, 2, 5] rfl rfl rfl ⟨Drv.sub3N (Drv.vn 2 rfl) h3, trivial⟩) rfl rfl rfl ?_
    rintro _ _ ⟨rfl, _, ⟨_, ⟨g', zg', rfl⟩, rfl⟩, rfl⟩
    refine JL.val (v := .bool false) (QV.not (b := true) rfl) rfl rfl rfl ?_
    refine JL.nil ?_
    refine QJ.then_normal ?_
    refine JC.condF' rfl rfl ?_
    refine JC.skip ?_
    refine QJ.block_normal ?_
    refine QJ.then_normal ?_
    refine JC.region ?_
    refine JL.val (v := .int .i64 i) (QV.move rfl) rfl rfl rfl ?_
    refine JL.val (v := .int .i64 2) (QV.load1 (ss := [Seg.c (.int .i64 2)]) 4 0 rfl tk_3 rfl rfl rfl) rfl rfl rfl ?_
    refine JL.val (v := .int .i64 (IntKind.wrap .i64 (i + (2 : Int)))) (QV.add rfl rfl) rfl rfl rfl ?_
    refine JL.val (v := .int .i64 (IntKind.wrap .i64 (i + (2 : Int)))) (QV.assign rfl) rfl rfl rfl ?_
    refine JL.nil ?_
    exact QJ.round_on (IntKind.wrap .i64 (i + (2 : Int)), o') (g', zg') [0, 3, 4, 2, 1, 5] (by exact ⟨rfl, rfl, rfl, rfl, trivial⟩) rfl rfl
  · refine JC.condF' rfl (decide_eq_false h1) ?_
    refine JC.exit ?_
    obtain rfl := Option.some.inj hm
    refine QJ.then_exit ?_
    refine QJ.round_exit (fun heq => ?_)
    subst heq
    refine QJ.block_hit ?_
    exact QJ.body (vs := []) (.inr rfl) rfl ResVs.nil [0, 4, 3] rfl rfl (.inl rfl) ⟨_, ⟨g, zg, rfl⟩, rfl⟩
/-! ### 70: slices.Chunk, of two -/
set_option maxRecDepth 100000 in
set_option maxHeartbeats 4000000 in
theorem F70.spec (s1 : SlV) :
    Ctr Try.prog true 70 [s1.v, .int .i64 2] [] (fun v L' => ∃ b1 b2 : Nat, v = .func (.func 82) #[] [.pointer (some ⟨b1, 0, none⟩), .pointer (some ⟨b2, 0, none⟩)].toArray ∧ L' = [Asr.blk b2 3 [Seg.c (.int .i64 2)], Asr.blk b1 89 [Seg.c s1.v]]) := by
  refine Ctr.intro (n := 9) (env := [(0, s1.v), (1, .int .i64 2)]) Try.func70 rfl rfl rfl rfl (fun c => ?_)
  refine JC.seq ?_
  refine JC.region ?_
  refine JL.mv (d := some 2) (MV.box [Seg.c s1.v] rfl (fun _ _ => rfl)) rfl rfl rfl ?_
  rintro _ _ ⟨b1, rfl, rfl⟩
  refine JL.mv (d := some 3) (MV.box [Seg.c (.int .i64 2)] rfl (fun _ _ => rfl)) rfl rfl rfl ?_
  rintro _ _ ⟨b2, rfl, rfl⟩
  refine JL.val (v := .nilFunc) (QV.assign rfl) rfl rfl rfl ?_
  refine JL.nil ?_
  refine QJ.then_normal ?_
  refine JC.seq ?_
  refine JC.seq ?_
  refine JC.region ?_
  refine JL.val (v := .int .i64 2) (QV.load1 (ss := [Seg.c (.int .i64 2)]) 0 0 rfl tk_3 rfl rfl rfl) rfl rfl rfl ?_
  refine JL.val (v := .bool (decide ((2 : Int) < 1))) (QV.lss rfl rfl) rfl rfl rfl ?_
  refine JL.nil ?_
  refine QJ.then_normal ?_
  refine JC.condF' rfl (by decide) ?_
  refine JC.skip ?_
  refine QJ.then_normal ?_
  refine JC.seq ?_
  refine JC.region ?_
  refine JL.val (v := .func (.func 82) #[] [.pointer (some ⟨b1, 0, none⟩), .pointer (some ⟨b2, 0, none⟩)].toArray) (QV.makeFunc (vals := [.pointer (some ⟨b1, 0, none⟩), .pointer (some ⟨b2, 0, none⟩)]) rfl) rfl rfl rfl ?_
  refine JL.val (v := .func (.func 82) #[] [.pointer (some ⟨b1, 0, none⟩), .pointer (some ⟨b2, 0, none⟩)].toArray) (QV.assign rfl) rfl rfl rfl ?_
  refine JL.nil ?_
  refine QJ.then_normal ?_
  refine JC.ret ?_
  exact QJ.body (vs := [.func (.func 82) #[] [.pointer (some ⟨b1, 0, none⟩), .pointer (some ⟨b2, 0, none⟩)].toArray]) (.inl rfl) rfl (ResVs.cons (ResV.tmp rfl) ResVs.nil) [0, 1] rfl rfl (.inl rfl) ⟨b1, b2, rfl, rfl⟩
/-! ### 50 -/
set_option maxRecDepth 100000 in
set_option maxHeartbeats 4000000 in
theorem F50.spec (s1 : SlV) (z1 : List (Unit × SlV)) (x1 : List (Int × (List Int))) (r : List (Int × (List Int))) (hm : F50.m x1 = some r) :
    Ctr Try.prog true 50 [s1.v] [Asr.vn (NE.pair (NE.flat (Enc.int .u64)) (NE.sl (Enc.int .i64))) (s1.v) z1 x1] (fun v L' => ∃ (g1 : SlV) (g2 : List (Unit × SlV)), v = g1.v ∧ L' = [Asr.onv 91 (NE.pair (NE.flat (Enc.int .u64)) (NE.sl (Enc.int .i64))) (g1.v) g2 r]) := by
  refine Ctr.introM (n := 35) (env := [(0, s1.v)]) Try.func50 rfl rfl rfl rfl (fun c => ?_)
  unfold F50.m at hm
  refine JC.seq ?_
  refine JC.region ?_
  refine JL.val (v := SlV.nil.v) (QV.assign rfl) rfl rfl rfl ?_
  refine JL.nil ?_
  refine QJ.then_normal ?_
  refine JC.seq ?_
  refine JC.region ?_
  refine JL.mv (d := some 3) (MV.alloc [Seg.c SlV.nil.v] z_89 rfl) rfl rfl rfl ?_
  rintro _ _ ⟨bo, rfl, rfl⟩
  refine JL.nil ?_
  refine QJ.then_normal ?_
  refine JC.seq ?_
  refine JC.seq ?_
  refine JC.region ?_
  refine JL.val (v := s1.v) (QV.move rfl) rfl rfl rfl ?_
  refine JL.mv (d := some 6) (MV.call (Lo := []) (Lv := []) (Lr := [Asr.blk bo 89 [Seg.c SlV.nil.v], Asr.vn (NE.pair (NE.flat (Enc.int .u64)) (NE.sl (Enc.int .i64))) s1.v z1 x1]) (F70.spec s1) rfl Try.func70 rfl rfl rfl [] [0, 1] rfl rfl rfl trivial) rfl rfl rfl ?_
  rintro _ _ ⟨_, ⟨b1, b2, rfl, rfl⟩, rfl⟩
  refine JL.nil ?_
  refine QJ.then_normal ?_
  refine JC.ent (fun _ hs => hs.nilV 91 (NE.pair (NE.flat (Enc.int .u64)) (NE.sl (Enc.int .i64)))) ?_
  refine JC.block ?_
  refine JC.rangeFunc (gf := 82) (caps := [.pointer (some ⟨b1, 0, none⟩), .pointer (some ⟨b2, 0, none⟩)]) (Lo := [Asr.blk b1 89 [Seg.c s1.v], Asr.blk b2 3 [Seg.c (.int .i64 2)], Asr.blk bo 89 [Seg.c SlV.nil.v], Asr.onv 91 (NE.pair (NE.flat (Enc.int .u64)) (NE.sl (Enc.int .i64))) SlV.nil.v [] ([] : List (Int × (List Int)))]) (Lr := [Asr.vn (NE.pair (NE.flat (Enc.int .u64)) (NE.sl (Enc.int .i64))) s1.v z1 x1]) (Lv := [Asr.vn (NE.pair (NE.flat (Enc.int .u64)) (NE.sl (Enc.int .i64))) s1.v z1 x1])
    (post := fun L1 => ∃ (g : SlV) (zg : List (Unit × SlV)), L1 = [Asr.onv 91 (NE.pair (NE.flat (Enc.int .u64)) (NE.sl (Enc.int .i64))) g.v zg r, Asr.blk bo 89 [Seg.c g.v]]) rfl Try.func82 rfl rfl [4, 3, 5, 2] [6] rfl (fun _ _ => rfl) (fun _ _ => rfl) ⟨Drv.vn 0 rfl, trivial⟩
    (fun l D f tmps hsz hat => F82.spec l D f tmps bo b1 b2 hsz (fun t v h => hat t v (Sub.get (e := [(3, .pointer (some ⟨bo, 0, none⟩))]) ⟨rfl, trivial⟩ h)) s1 SlV.nil z1 [] x1 r hm rfl) ?_
  rintro D _ ⟨g, zg, rfl⟩
  show QJ _ _ _ [Asr.onv 91 (NE.pair (NE.flat (Enc.int .u64)) (NE.sl (Enc.int .i64))) g.v zg r, Asr.blk bo 89 [Seg.c g.v], Asr.obj D (.deferred (some [])), Asr.vn (NE.pair (NE.flat (Enc.int .u64)) (NE.sl (Enc.int .i64))) s1.v z1 x1] _ _
  refine QJ.block_normal ?_
  refine QJ.then_normal ?_
  refine JC.seq ?_
  refine JC.region ?_
  refine JL.val (v := g.v) (QV.load1 (ss := [Seg.c g.v]) 1 0 rfl tk_89 rfl rfl rfl) rfl rfl rfl ?_
  refine JL.val (v := g.v) (QV.assign rfl) rfl rfl rfl ?_
  refine JL.nil ?_
  refine QJ.then_normal ?_
  refine JC.ret ?_
  refine QJ.sub [(2, g.v)] [Asr.obj D (.deferred (some [])), Asr.onv 91 (NE.pair (NE.flat (Enc.int .u64)) (NE.sl (Enc.int .i64))) g.v zg r] [2, 0] ⟨rfl, trivial⟩ rfl rfl ?_
  exact QJ.bodyM (vs := [g.v]) (.inr rfl) rfl (ResVs.cons (ResV.tmp rfl) ResVs.nil) [0] rfl rfl (.inl rfl) ⟨g, zg, rfl, rfl⟩

/-! ### 20: drogher/limit.Lengths -/
noncomputable def F20.j3  (d32 : List Int) : Option (List Int × Int) :=
  some (d32, (0 : Int))
noncomputable def F20.j4 (d34 : Int) (d42 : List Int) : Option ((List Int × Int) ⊕ (List Int)) :=
  some (.inl (d42, (IntKind.wrap .i64 (d34 + (1 : Int)))))
noncomputable def F20.j5 (d34 : Int) (d45 : List Int) : Option ((List Int × Int) ⊕ (List Int)) :=
  F20.j4 d34 (d45)
noncomputable def F20.b2 (y21 : (List (Int × (List Int)))) (d29 : List (Int × (List Int))) (d34 : Int) : (List Int × Int) → Option ((List Int × Int) ⊕ (List Int))
  | (d46, d47) => (if d47 < (((gd (subL d29 (0 : Int) (maxI (0 : Int) (IntKind.wrap .i64 ((IntKind.wrap .i64 ((2 : Int) * ((y21).length : Int))) - (2 : Int))))) d34).2).length : Int) then (if 0 ≤ d47 ∧ d47 < (((gd (subL d29 (0 : Int) (maxI (0 : Int) (IntKind.wrap .i64 ((IntKind.wrap .i64 ((2 : Int) * ((y21).length : Int))) - (2 : Int))))) d34).2).length : Int) then (if 0 ≤ (gd (gd (subL d29 (0 : Int) (maxI (0 : Int) (IntKind.wrap .i64 ((IntKind.wrap .i64 ((2 : Int) * ((y21).length : Int))) - (2 : Int))))) d34).2 d47) ∧ (gd (gd (subL d29 (0 : Int) (maxI (0 : Int) (IntKind.wrap .i64 ((IntKind.wrap .i64 ((2 : Int) * ((y21).length : Int))) - (2 : Int))))) d34).2 d47) < ((d46).length : Int) then some (.inl ((List.set d46 (Int.toNat (gd (gd (subL d29 (0 : Int) (maxI (0 : Int) (IntKind.wrap .i64 ((IntKind.wrap .i64 ((2 : Int) * ((y21).length : Int))) - (2 : Int))))) d34).2 d47)) (IntKind.wrap .u8 ((gd d46 (gd (gd (subL d29 (0 : Int) (maxI (0 : Int) (IntKind.wrap .i64 ((IntKind.wrap .i64 ((2 : Int) * ((y21).length : Int))) - (2 : Int))))) d34).2 d47)) + (1 : Int)))), (IntKind.wrap .i64 (d47 + (1 : Int))))) else none) else none) else some (.inr d46))
noncomputable def F20.b1 (y21 : (List (Int × (List Int)))) (d29 : List (Int × (List Int))) : (List Int × Int) → Option ((List Int × Int) ⊕ (List Int))
  | (d33, d34) => (if d34 < (((subL d29 (0 : Int) (maxI (0 : Int) (IntKind.wrap .i64 ((IntKind.wrap .i64 ((2 : Int) * ((y21).length : Int))) - (2 : Int)))))).length : Int) then (if 0 ≤ d34 ∧ d34 < (((subL d29 (0 : Int) (maxI (0 : Int) (IntKind.wrap .i64 ((IntKind.wrap .i64 ((2 : Int) * ((y21).length : Int))) - (2 : Int)))))).length : Int) then ((loop (F20.b2 y21 d29 d34) (d33, (0 : Int))).bind fun y => match y with | d45 => F20.j5 d34 (d45)) else none) else some (.inr d33))
noncomputable def F20.j2 (x2 : List Int) (y21 : (List (Int × (List Int)))) (d29 : List (Int × (List Int))) : Option (List Int × Int) :=
  (if 0 ≤ (0 : Int) ∧ (0 : Int) ≤ (maxI (0 : Int) (IntKind.wrap .i64 ((IntKind.wrap .i64 ((2 : Int) * ((y21).length : Int))) - (2 : Int)))) ∧ (maxI (0 : Int) (IntKind.wrap .i64 ((IntKind.wrap .i64 ((2 : Int) * ((y21).length : Int))) - (2 : Int)))) ≤ ((d29).length : Int) then ((loop (F20.b1 y21 d29) ((List.replicate (Int.toNat ((x2).length : Int)) (0 : Int)), (0 : Int))).bind fun y => match y with | d32 => F20.j3 (d32)) else none)
noncomputable def F20.b3 (x3 : Int) (y21 : (List (Int × (List Int)))) : (List (Int × (List Int)) × Int) → Option ((List (Int × (List Int)) × Int) ⊕ (List (Int × (List Int))))
  | (d58, d60) => (if d60 < (IntKind.wrap .i64 (x3 - (1 : Int))) then ((F49.m (y21)).bind fun y70 => ((F50.m (d58)).bind fun y74 => (if ((y70).length + (y74).length) * 32 ≤ 140737488355328 ∧ (y70).length + (y74).length ≤ 9223372036854775807 then ((F47_1.m ((y70 ++ y74))).bind fun y80 => some (.inl (y80, (IntKind.wrap .i64 (d60 + (1 : Int)))))) else none))) else some (.inr d58))
noncomputable def F20.j1 (x2 : List Int) (x3 : Int) (d11 : List (Int × (List Int))) : Option (List Int × Int) :=
  (if 0 ≤ ((x2).length : Int) ∧ ((x2).length : Int) * 1 ≤ 281474976710656 ∧ ((x2).length : Int) ≤ 9223372036854775807 then (if 0 ≤ x3 then (if (shlI .i64 (1 : Int) x3) < ((d11).length : Int) then some (([] : List Int), (1 : Int)) else (if ((d11).length : Int) = (1 : Int) then (if 0 ≤ (0 : Int) ∧ (0 : Int) < ((d11).length : Int) then (if 0 ≤ (0 : Int) ∧ (0 : Int) < (((gd d11 (0 : Int)).2).length : Int) then (if 0 ≤ (gd (gd d11 (0 : Int)).2 (0 : Int)) ∧ (gd (gd d11 (0 : Int)).2 (0 : Int)) < (((List.replicate (Int.toNat ((x2).length : Int)) (0 : Int))).length : Int) then some ((List.set (List.replicate (Int.toNat ((x2).length : Int)) (0 : Int)) (Int.toNat (gd (gd d11 (0 : Int)).2 (0 : Int))) (1 : Int)), (0 : Int)) else none) else none) else none) else ((F47_1.m (d11)).bind fun y21 => ((F49.m (y21)).bind fun y24 => ((loop (F20.b3 x3 y21) (y24, (0 : Int))).bind fun y => match y with | d29 => F20.j2 x2 y21 (d29)))))) else none) else none)
noncomputable def F20.j6 (d86 : Int) (d98 : List (Int × (List Int))) : Option ((List (Int × (List Int)) × Int) ⊕ (List (Int × (List Int)))) :=
  some (.inl (d98, (IntKind.wrap .i64 (d86 + (1 : Int)))))
noncomputable def F20.b4 (x2 : List Int) : (List (Int × (List Int)) × Int) → Option ((List (Int × (List Int)) × Int) ⊕ (List (Int × (List Int))))
  | (d84, d86) => (if d86 < ((x2).length : Int) then (if 0 ≤ d86 ∧ d86 < ((x2).length : Int) then (if (0 : Int) < (gd x2 d86) then (if ((d84).length + ([((IntKind.wrap .u64 (gd x2 d86)), [d86])]).length) * 32 ≤ 140737488355328 ∧ (d84).length + ([((IntKind.wrap .u64 (gd x2 d86)), [d86])]).length ≤ 9223372036854775807 then F20.j6 d86 ((d84 ++ [((IntKind.wrap .u64 (gd x2 d86)), [d86])])) else none) else F20.j6 d86 (d84)) else none) else some (.inr d84))
noncomputable def F20.m (x2 : List Int) (x3 : Int) : Option (List Int × Int) :=
  (if x3 < (1 : Int) then some (([] : List Int), (1 : Int)) else (if (15 : Int) < x3 then some (([] : List Int), (1 : Int)) else (if (300 : Int) < ((x2).length : Int) then some (([] : List Int), (1 : Int)) else ((loop (F20.b4 x2) (([] : List (Int × (List Int))), (0 : Int))).bind fun y => match y with | d11 => F20.j1 x2 x3 (d11)))))
set_option maxRecDepth 100000 in
set_option maxHeartbeats 4000000 in
theorem F20.spec (s1 : SlV) (x2 : List Int) (x3 : Int) (r : (List Int × Int)) (hm : F20.m x2 x3 = some r) :
    Ctr Try.prog false 20 [s1.v, .int .i64 x3] [Asr.vw (Enc.int .u32) (s1.v) x2] (fun v L' => ∃ (g4 : SlV), v = .tuple #[g4.v, .int .i64 r.2] ∧ L' = [Asr.of 5 (Enc.int .u8) (g4.v) r.1]) := by
  refine Ctr.intro (n := 110) (env := [(0, s1.v), (1, .int .i64 x3)]) Try.func20 rfl rfl rfl rfl (fun c => ?_)
  unfold F20.m at hm
  refine JC.seq ?_
  refine JC.region ?_
  refine JL.ent (fun _ hs => hs.nil 5 (Enc.int .u8)) ?_
  refine JL.val (v := SlV.nil.v) (QV.assign rfl) rfl rfl rfl ?_
  refine JL.val (v := .int .i64 (0 : Int)) (QV.assign rfl) rfl rfl rfl ?_
  refine JL.nil ?_
  refine QJ.then_normal ?_
  refine JC.seq ?_
  refine JC.seq ?_
  refine JC.region ?_
  refine JL.val (v := .int .i64 x3) (QV.move rfl) rfl rfl rfl ?_
  refine JL.val (v := .bool (decide (x3 < (1 : Int)))) (QV.lss rfl rfl) rfl rfl rfl ?_
  rcases ite_inv hm with ⟨h7, hm⟩ | ⟨h7, hm⟩
  ·
    refine JL.val (v := .bool true) (QV.eq (QV.move rfl) (congrArg Value.bool (decide_eq_true h7))) rfl rfl rfl ?_
    refine JL.skip (d := some 18) rfl rfl rfl ?_
    refine JL.skip (d := some 19) rfl rfl rfl ?_
    refine JL.val (v := .bool true) (QV.pickT rfl rfl) rfl rfl rfl ?_
    refine JL.val (v := .bool true) (QV.move rfl) rfl rfl rfl ?_
    refine JL.skip (d := some 22) rfl rfl rfl ?_
    refine JL.skip (d := some 23) rfl rfl rfl ?_
    refine JL.skip (d := some 24) rfl rfl rfl ?_
    refine JL.val (v := .bool true) (QV.pickT rfl rfl) rfl rfl rfl ?_
    refine JL.nil ?_
    refine QJ.then_normal ?_
    refine JC.condT rfl ?_
    refine JC.seq ?_
    refine JC.region ?_
    refine JL.ent (fun _ hs => hs.nil 5 (Enc.int .u8)) ?_
    refine JL.val (v := SlV.nil.v) (QV.assign rfl) rfl rfl rfl ?_
    refine JL.val (v := .int .i64 (1 : Int)) (QV.assign rfl) rfl rfl rfl ?_
    refine JL.nil ?_
    refine QJ.then_normal ?_
    refine JC.ret ?_
    refine QJ.then_ret ?_
    obtain rfl := Option.some.inj hm
    exact QJ.body (vs := [SlV.nil.v, .int .i64 (1 : Int)]) (.inl rfl) rfl (ResVs.cons (ResV.tmp rfl) (ResVs.cons (ResV.tmp rfl) ResVs.nil)) [0] rfl rfl (.inr ⟨own_of _ _ _ _, trivial⟩) ⟨(SlV.nil), rfl, rfl⟩
  ·
    refine JL.val (v := .bool false) (QV.eq (QV.move rfl) (congrArg Value.bool (decide_eq_false h7))) rfl rfl rfl ?_
    refine JL.val (v := .int .i64 x3) (QV.move rfl) rfl rfl rfl ?_
    refine JL.val (v := .bool (decide ((15 : Int) < x3))) (QV.gtr rfl rfl) rfl rfl rfl ?_
    refine JL.val (v := .bool (decide ((15 : Int) < x3))) (QV.pickF rfl rfl) rfl rfl rfl ?_
    rcases ite_inv hm with ⟨h8, hm⟩ | ⟨h8, hm⟩
    ·
      refine JL.val (v := .bool true) (QV.eq (QV.move rfl) (congrArg Value.bool (decide_eq_true h8))) rfl rfl rfl ?_
      refine JL.skip (d := some 22) rfl rfl rfl ?_
      refine JL.skip (d := some 23) rfl rfl rfl ?_
      refine JL.skip (d := some 24) rfl rfl rfl ?_
      refine JL.val (v := .bool true) (QV.pickT rfl rfl) rfl rfl rfl ?_
      refine JL.nil ?_
      refine QJ.then_normal ?_
      refine JC.condT rfl ?_
      refine JC.seq ?_
      refine JC.region ?_
      refine JL.ent (fun _ hs => hs.nil 5 (Enc.int .u8)) ?_
      refine JL.val (v := SlV.nil.v) (QV.assign rfl) rfl rfl rfl ?_
      refine JL.val (v := .int .i64 (1 : Int)) (QV.assign rfl) rfl rfl rfl ?_
      refine JL.nil ?_
      refine QJ.then_normal ?_
      refine JC.ret ?_
      refine QJ.then_ret ?_
      obtain rfl := Option.some.inj hm
      exact QJ.body (vs := [SlV.nil.v, .int .i64 (1 : Int)]) (.inl rfl) rfl (ResVs.cons (ResV.tmp rfl) (ResVs.cons (ResV.tmp rfl) ResVs.nil)) [0] rfl rfl (.inr ⟨own_of _ _ _ _, trivial⟩) ⟨(SlV.nil), rfl, rfl⟩
    ·
      refine JL.val (v := .bool false) (QV.eq (QV.move rfl) (congrArg Value.bool (decide_eq_false h8))) rfl rfl rfl ?_
      refine JL.val (v := s1.v) (QV.move rfl) rfl rfl rfl ?_
      refine JL.val (v := .int .i64 ((x2).length : Int)) (QV.len (Rdg.vw 1 rfl) Try.underlying33 rfl) rfl rfl rfl ?_
      refine JL.val (v := .bool (decide ((300 : Int) < ((x2).length : Int)))) (QV.gtr rfl rfl) rfl rfl rfl ?_
      refine JL.val (v := .bool (decide ((300 : Int) < ((x2).length : Int)))) (QV.pickF rfl rfl) rfl rfl rfl ?_
      refine JL.nil ?_
      refine QJ.then_normal ?_
      rcases ite_inv hm with ⟨h9, hm⟩ | ⟨h9, hm⟩
      ·
        refine JC.condT' rfl (decide_eq_true h9) ?_
        refine JC.seq ?_
        refine JC.region ?_
        refine JL.ent (fun _ hs => hs.nil 5 (Enc.int .u8)) ?_
        refine JL.val (v := SlV.nil.v) (QV.assign rfl) rfl rfl rfl ?_
        refine JL.val (v := .int .i64 (1 : Int)) (QV.assign rfl) rfl rfl rfl ?_
        refine JL.nil ?_
        refine QJ.then_normal ?_
        refine JC.ret ?_
        refine QJ.then_ret ?_
        obtain rfl := Option.some.inj hm
        exact QJ.body (vs := [SlV.nil.v, .int .i64 (1 : Int)]) (.inl rfl) rfl (ResVs.cons (ResV.tmp rfl) (ResVs.cons (ResV.tmp rfl) ResVs.nil)) [0] rfl rfl (.inr ⟨own_of _ _ _ _, trivial⟩) ⟨(SlV.nil), rfl, rfl⟩
      ·
        refine JC.condF' rfl (decide_eq_false h9) ?_
        refine JC.skip ?_
        refine QJ.then_normal ?_
        refine JC.seq ?_
        refine JC.region ?_
        refine JL.ent (fun _ hs => hs.nilV 91 (NE.pair (NE.flat (Enc.int .u64)) (NE.sl (Enc.int .i64)))) ?_
        refine JL.val (v := SlV.nil.v) (QV.assign rfl) rfl rfl rfl ?_
        refine JL.nil ?_
        refine QJ.then_normal ?_
        refine JC.seq ?_
        refine JC.seq ?_
        refine JC.region ?_
        refine JL.val (v := s1.v) (QV.move rfl) rfl rfl rfl ?_
        refine JL.val (v := .int .i64 ((x2).length : Int)) (QV.len (Rdg.vw 2 rfl) Try.underlying33 rfl) rfl rfl rfl ?_
        refine JL.val (v := .int .i64 (0 : Int)) (QV.move rfl) rfl rfl rfl ?_
        refine JL.nil ?_
        refine QJ.then_normal ?_
        refine JC.cutK (Y := (List (Int × (List Int))) × (SlV × List (Unit × SlV))) (fun y => match y with | (d11, _) => F20.j1 x2 x3 (d11) = some r) (fun y => match y with | (d11, (z10, z12)) => [(0, s1.v), (1, .int .i64 x3), (6, z10.v)]) (fun y => match y with | (d11, (z10, z12)) => [Asr.vw (Enc.int .u32) (s1.v) x2, Asr.onv 91 (NE.pair (NE.flat (Enc.int .u64)) (NE.sl (Enc.int .i64))) (z10.v) z12 d11]) ?_ ?_
        ·
          rintro ⟨d11, ⟨z10, z12⟩⟩ hm
          unfold F20.j1 at hm
          show QJ _ _ [(0, s1.v), (1, .int .i64 x3), (6, z10.v)] [Asr.vw (Enc.int .u32) (s1.v) x2, Asr.onv 91 (NE.pair (NE.flat (Enc.int .u64)) (NE.sl (Enc.int .i64))) (z10.v) z12 d11] _ _
          refine QJ.then_normal ?_
          refine JC.seq ?_
          refine JC.region ?_
          refine JL.val (v := s1.v) (QV.move rfl) rfl rfl rfl ?_
          refine JL.val (v := .int .i64 ((x2).length : Int)) (QV.len (Rdg.vw 0 rfl) Try.underlying33 rfl) rfl rfl rfl ?_
          obtain ⟨h13, hm⟩ := guard_inv hm
          refine JL.mv (d := some 46) (MV.make (E := (Enc.int .u8)) (0 : Int) Try.underlying34 zi_5 (by decide) rfl rfl rfl h13) rfl rfl rfl ?_
          rintro _ _ ⟨z14, rfl, rfl⟩
          refine JL.val (v := z14.v) (QV.assign rfl) rfl rfl rfl ?_
          refine JL.nil ?_
          refine QJ.then_normal ?_
          refine JC.seq ?_
          refine JC.block ?_
          refine JC.seq ?_
          refine JC.region ?_
          refine JL.val (v := z10.v) (QV.move rfl) rfl rfl rfl ?_
          refine JL.val (v := .int .i64 ((d11).length : Int)) (QV.lenN (RdN.onv 2 rfl) Try.underlying89 rfl) rfl rfl rfl ?_
          refine JL.val (v := .int .i64 x3) (QV.move rfl) rfl rfl rfl ?_
          obtain ⟨h15, hm⟩ := guard_inv hm
          refine JL.val (v := .int .i64 (shlI .i64 (1 : Int) x3)) (QV.shl rfl rfl h15) rfl rfl rfl ?_
          refine JL.val (v := .bool (decide ((shlI .i64 (1 : Int) x3) < ((d11).length : Int)))) (QV.gtr rfl rfl) rfl rfl rfl ?_
          refine JL.val (v := .bool (decide ((shlI .i64 (1 : Int) x3) < ((d11).length : Int)))) (QV.assign rfl) rfl rfl rfl ?_
          refine JL.nil ?_
          refine QJ.then_normal ?_
          rcases ite_inv hm with ⟨h16, hm⟩ | ⟨h16, hm⟩
          ·
            refine JC.condT' rfl (decide_eq_true h16) ?_
            refine JC.seq ?_
            refine JC.region ?_
            refine JL.ent (fun _ hs => hs.nil 5 (Enc.int .u8)) ?_
            refine JL.val (v := SlV.nil.v) (QV.assign rfl) rfl rfl rfl ?_
            refine JL.val (v := .int .i64 (1 : Int)) (QV.assign rfl) rfl rfl rfl ?_
            refine JL.nil ?_
            refine QJ.then_normal ?_
            refine JC.ret ?_
            refine QJ.block_ret ?_
            refine QJ.then_ret ?_
            obtain rfl := Option.some.inj hm
            exact QJ.body (vs := [SlV.nil.v, .int .i64 (1 : Int)]) (.inl rfl) rfl (ResVs.cons (ResV.tmp rfl) (ResVs.cons (ResV.tmp rfl) ResVs.nil)) [0] rfl rfl (.inr ⟨own_of _ _ _ _, trivial⟩) ⟨(SlV.nil), rfl, rfl⟩
          ·
            refine JC.condF' rfl (decide_eq_false h16) ?_
            refine JC.seq ?_
            refine JC.region ?_
            refine JL.val (v := z10.v) (QV.move rfl) rfl rfl rfl ?_
            refine JL.val (v := .int .i64 ((d11).length : Int)) (QV.lenN (RdN.onv 2 rfl) Try.underlying89 rfl) rfl rfl rfl ?_
            refine JL.val (v := .bool (decide (((d11).length : Int) = (1 : Int)))) (QV.eql rfl rfl) rfl rfl rfl ?_
            refine JL.val (v := .bool (decide (((d11).length : Int) = (1 : Int)))) (QV.assign rfl) rfl rfl rfl ?_
            refine JL.nil ?_
            refine QJ.then_normal ?_
            rcases ite_inv hm with ⟨h17, hm⟩ | ⟨h17, hm⟩
            ·
              refine JC.condT' rfl (decide_eq_true h17) ?_
              refine JC.seq ?_
              refine JC.region ?_
              refine JL.val (v := z14.v) (QV.move rfl) rfl rfl rfl ?_
              refine JL.val (v := z10.v) (QV.move rfl) rfl rfl rfl ?_
              obtain ⟨h18, hm⟩ := guard_inv hm
              refine JL.val (v := .pointer (some (elA (z10.v) (Int.toNat (0 : Int) * ((NE.pair (NE.flat (Enc.int .u64)) (NE.sl (Enc.int .i64))).E).sz)))) (QV.indexN (RdN.onv 2 rfl) Try.underlying89 tk_91 rfl rfl h18) rfl rfl rfl ?_
              refine JL.val (v := .pointer (some ((elA (z10.v) (Int.toNat (0 : Int) * ((NE.pair (NE.flat (Enc.int .u64)) (NE.sl (Enc.int .i64))).E).sz)).add 1))) (QV.fieldA fo_91_1 rfl) rfl rfl rfl ?_
              refine JL.val (v := (gd z12 (0 : Int)).2.v) (QV.elFN (RdN.onv 2 rfl) tk_25 rfl h18 rfl) rfl rfl rfl ?_
              obtain ⟨h19, hm⟩ := guard_inv hm
              refine JL.val (v := .pointer (some (elA ((gd z12 (0 : Int)).2.v) (Int.toNat (0 : Int) * ((Enc.int .i64)).sz)))) (QV.indexA (Rdg.ofDrv (Drv.elV (K := (NE.pair (NE.flat (Enc.int .u64)) (NE.sl (Enc.int .i64)))) (A := Asr.vw (Enc.int .i64) ((gd z12 (0 : Int)).2.v) (gd d11 (0 : Int)).2) 2 rfl h18 (fun _ _ q => q.2))) Try.underlying25 tk_3 rfl rfl h19) rfl rfl rfl ?_
              refine JL.val (v := .int .i64 (gd (gd d11 (0 : Int)).2 (0 : Int))) (QV.el1 (Rdg.ofDrv (Drv.elV (K := (NE.pair (NE.flat (Enc.int .u64)) (NE.sl (Enc.int .i64)))) (A := Asr.vw (Enc.int .i64) ((gd z12 (0 : Int)).2.v) (gd d11 (0 : Int)).2) 2 rfl h18 (fun _ _ q => q.2))) tk_3 rfl h19 rfl) rfl rfl rfl ?_
              obtain ⟨h20, hm⟩ := guard_inv hm
              refine JL.val (v := .pointer (some (elA (z14.v) (Int.toNat (gd (gd d11 (0 : Int)).2 (0 : Int)) * ((Enc.int .u8)).sz)))) (QV.indexA (Rdg.of 0 rfl) Try.underlying34 tk_5 rfl rfl h20) rfl rfl rfl ?_
              refine JL.mv (d := none) (MV.storeEl 0 (1 : Int) rfl tk_5 rfl rfl h20 rfl) rfl rfl rfl ?_
              rintro _ _ ⟨rfl, rfl⟩
              refine JL.nil ?_
              refine QJ.then_normal ?_
              refine JC.seq ?_
              refine JC.region ?_
              refine JL.val (v := z14.v) (QV.move rfl) rfl rfl rfl ?_
              refine JL.val (v := z14.v) (QV.assign rfl) rfl rfl rfl ?_
              refine JL.val (v := .int .i64 (0 : Int)) (QV.assign rfl) rfl rfl rfl ?_
              refine JL.nil ?_
              refine QJ.then_normal ?_
              refine JC.ret ?_
              refine QJ.block_ret ?_
              refine QJ.then_ret ?_
              obtain rfl := Option.some.inj hm
              exact QJ.body (vs := [z14.v, .int .i64 (0 : Int)]) (.inl rfl) rfl (ResVs.cons (ResV.tmp rfl) (ResVs.cons (ResV.tmp rfl) ResVs.nil)) [0] rfl rfl (.inr ⟨own_of _ _ _ _, trivial⟩) ⟨z14, rfl, rfl⟩
            ·
              refine JC.condF' rfl (decide_eq_false h17) ?_
              refine JC.skip ?_
              refine QJ.block_normal ?_
              refine QJ.then_normal ?_
              refine JC.seq ?_
              refine JC.region ?_
              refine JL.val (v := z10.v) (QV.move rfl) rfl rfl rfl ?_
              obtain ⟨y21, hc22, hm⟩ := bind_inv hm
              refine JL.mv (d := some 67) (MV.call (Lo := [Asr.onv 91 (NE.pair (NE.flat (Enc.int .u64)) (NE.sl (Enc.int .i64))) (z10.v) z12 d11]) (Lr := [Asr.of 5 (Enc.int .u8) (z14.v) (List.replicate (Int.toNat ((x2).length : Int)) (0 : Int)), Asr.vw (Enc.int .u32) (s1.v) x2]) (F47_1.spec (z10) (z12) (d11) _ hc22) rfl Try.func47 rfl rfl rfl [2] [0, 1] rfl rfl rfl trivial) rfl rfl rfl ?_
              rintro _ _ ⟨_, ⟨z23, rfl, rfl⟩, rfl⟩
              refine JL.nil ?_
              refine QJ.then_normal ?_
              refine JC.seq ?_
              refine JC.region ?_
              refine JL.val (v := z10.v) (QV.move rfl) rfl rfl rfl ?_
              refine JL.ent (fun _ hs => hs.shareV 0 rfl) ?_
              obtain ⟨y24, hc25, hm⟩ := bind_inv hm
              refine JL.mv (d := some 69) (MV.call (Lo := []) (Lr := [Asr.vn (NE.pair (NE.flat (Enc.int .u64)) (NE.sl (Enc.int .i64))) (z10.v) z23 y21, Asr.of 5 (Enc.int .u8) (z14.v) (List.replicate (Int.toNat ((x2).length : Int)) (0 : Int)), Asr.vw (Enc.int .u32) (s1.v) x2]) (F49.spec (z10) (z23) (y21) _ hc25) rfl Try.func49 rfl rfl rfl [] [0, 1, 2] rfl rfl rfl ⟨(Drv.vn 0 rfl), trivial⟩) rfl rfl rfl ?_
              rintro _ _ ⟨_, ⟨z26, z27, rfl, rfl⟩, rfl⟩
              refine JL.val (v := z26.v) (QV.assign rfl) rfl rfl rfl ?_
              refine JL.nil ?_
              refine QJ.then_normal ?_
              refine JC.seq ?_
              refine JC.seq ?_
              refine JC.region ?_
              refine JL.val (v := .int .i64 x3) (QV.move rfl) rfl rfl rfl ?_
              refine JL.val (v := .int .i64 (IntKind.wrap .i64 (x3 - (1 : Int)))) (QV.sub rfl rfl) rfl rfl rfl ?_
              refine JL.val (v := .int .i64 (0 : Int)) (QV.move rfl) rfl rfl rfl ?_
              refine JL.nil ?_
              refine QJ.then_normal ?_
              refine JC.cutK (Y := (List (Int × (List Int))) × (SlV × List (Unit × SlV))) (fun y => match y with | (d29, _) => F20.j2 x2 y21 (d29) = some r) (fun y => match y with | (d29, (z28, z30)) => [(6, z10.v), (9, z14.v), (10, z28.v)]) (fun y => match y with | (d29, (z28, z30)) => [Asr.vn (NE.pair (NE.flat (Enc.int .u64)) (NE.sl (Enc.int .i64))) (z10.v) z23 y21, Asr.of 5 (Enc.int .u8) (z14.v) (List.replicate (Int.toNat ((x2).length : Int)) (0 : Int)), Asr.onv 91 (NE.pair (NE.flat (Enc.int .u64)) (NE.sl (Enc.int .i64))) (z28.v) z30 d29]) ?_ ?_
              ·
                rintro ⟨d29, ⟨z28, z30⟩⟩ hm
                unfold F20.j2 at hm
                show QJ _ _ [(6, z10.v), (9, z14.v), (10, z28.v)] [Asr.vn (NE.pair (NE.flat (Enc.int .u64)) (NE.sl (Enc.int .i64))) (z10.v) z23 y21, Asr.of 5 (Enc.int .u8) (z14.v) (List.replicate (Int.toNat ((x2).length : Int)) (0 : Int)), Asr.onv 91 (NE.pair (NE.flat (Enc.int .u64)) (NE.sl (Enc.int .i64))) (z28.v) z30 d29] _ _
                refine QJ.then_normal ?_
                refine JC.seq ?_
                refine JC.seq ?_
                refine JC.region ?_
                refine JL.val (v := z28.v) (QV.move rfl) rfl rfl rfl ?_
                refine JL.val (v := z10.v) (QV.move rfl) rfl rfl rfl ?_
                refine JL.val (v := .int .i64 ((y21).length : Int)) (QV.lenN (RdN.vn 0 rfl) Try.underlying89 rfl) rfl rfl rfl ?_
                refine JL.val (v := .int .i64 (IntKind.wrap .i64 ((2 : Int) * ((y21).length : Int)))) (QV.mul rfl rfl) rfl rfl rfl ?_
                refine JL.val (v := .int .i64 (IntKind.wrap .i64 ((IntKind.wrap .i64 ((2 : Int) * ((y21).length : Int))) - (2 : Int)))) (QV.sub rfl rfl) rfl rfl rfl ?_
                refine JL.val (v := .int .i64 (maxI (0 : Int) (IntKind.wrap .i64 ((IntKind.wrap .i64 ((2 : Int) * ((y21).length : Int))) - (2 : Int))))) (QV.max2 rfl rfl) rfl rfl rfl ?_
                obtain ⟨h31, hm⟩ := guard_inv hm
                refine JL.val (v := (SlV.sub ((NE.pair (NE.flat (Enc.int .u64)) (NE.sl (Enc.int .i64)))).E.sz z28 (0 : Int) (maxI (0 : Int) (IntKind.wrap .i64 ((IntKind.wrap .i64 ((2 : Int) * ((y21).length : Int))) - (2 : Int))))).v) (QV.sliceN (RdN.onv 2 rfl) Try.underlying89 tk_91 rfl rfl rfl h31) rfl rfl rfl ?_
                refine JL.val (v := .int .i64 (((subL d29 (0 : Int) (maxI (0 : Int) (IntKind.wrap .i64 ((IntKind.wrap .i64 ((2 : Int) * ((y21).length : Int))) - (2 : Int)))))).length : Int)) (QV.lenN (RdN.ofDrv ((Drv.onv 2 rfl).subN h31)) Try.underlying89 rfl) rfl rfl rfl ?_
                refine JL.val (v := .int .i64 (0 : Int)) (QV.move rfl) rfl rfl rfl ?_
                refine JL.nil ?_
                refine QJ.then_normal ?_
                refine JC.cutK (Y := (List Int) × Unit) (fun y => match y with | (d32, _) => F20.j3 (d32) = some r) (fun y => match y with | (d32, _) => [(9, z14.v)]) (fun y => match y with | (d32, _) => [Asr.of 5 (Enc.int .u8) (z14.v) d32]) ?_ ?_
                ·
                  rintro ⟨d32, ⟨⟩⟩ hm
                  unfold F20.j3 at hm
                  show QJ _ _ [(9, z14.v)] [Asr.of 5 (Enc.int .u8) (z14.v) d32] _ _
                  refine QJ.then_normal ?_
                  refine JC.seq ?_
                  refine JC.region ?_
                  refine JL.val (v := z14.v) (QV.move rfl) rfl rfl rfl ?_
                  refine JL.val (v := z14.v) (QV.assign rfl) rfl rfl rfl ?_
                  refine JL.val (v := .int .i64 (0 : Int)) (QV.assign rfl) rfl rfl rfl ?_
                  refine JL.nil ?_
                  refine QJ.then_normal ?_
                  refine JC.ret ?_
                  obtain rfl := Option.some.inj hm
                  exact QJ.body (vs := [z14.v, .int .i64 (0 : Int)]) (.inl rfl) rfl (ResVs.cons (ResV.tmp rfl) (ResVs.cons (ResV.tmp rfl) ResVs.nil)) [0] rfl rfl (.inr ⟨own_of _ _ _ _, trivial⟩) ⟨z14, rfl, rfl⟩
                ·
                  refine JC.block ?_
                  obtain ⟨y37, hl38, hmo39⟩ := bind_inv hm
                  refine JC.loop (F20.b1 y21 d29) (fun x z => match x, z with | (d33, d34), _ => [(9, z14.v), (88, (SlV.sub ((NE.pair (NE.flat (Enc.int .u64)) (NE.sl (Enc.int .i64)))).E.sz z28 (0 : Int) (maxI (0 : Int) (IntKind.wrap .i64 ((IntKind.wrap .i64 ((2 : Int) * ((y21).length : Int))) - (2 : Int))))).v), (89, .int .i64 (((subL d29 (0 : Int) (maxI (0 : Int) (IntKind.wrap .i64 ((IntKind.wrap .i64 ((2 : Int) * ((y21).length : Int))) - (2 : Int)))))).length : Int)), (90, .int .i64 d34)]) (fun x z => match x, z with | (d33, d34), _ => [Asr.of 5 (Enc.int .u8) (z14.v) d33, Asr.onv 91 (NE.pair (NE.flat (Enc.int .u64)) (NE.sl (Enc.int .i64))) (z28.v) z30 d29]) ((List.replicate (Int.toNat ((x2).length : Int)) (0 : Int)), (0 : Int)) () y37 hl38 [1, 2] (by exact ⟨rfl, rfl, rfl, rfl, trivial⟩) rfl rfl ?_
                  rintro ⟨d33, d34⟩ ⟨⟩ s40 hm
                  unfold F20.b1 at hm
                  dsimp only at hm
                  show JC _ _ _ [(9, z14.v), (88, (SlV.sub ((NE.pair (NE.flat (Enc.int .u64)) (NE.sl (Enc.int .i64)))).E.sz z28 (0 : Int) (maxI (0 : Int) (IntKind.wrap .i64 ((IntKind.wrap .i64 ((2 : Int) * ((y21).length : Int))) - (2 : Int))))).v), (89, .int .i64 (((subL d29 (0 : Int) (maxI (0 : Int) (IntKind.wrap .i64 ((IntKind.wrap .i64 ((2 : Int) * ((y21).length : Int))) - (2 : Int)))))).length : Int)), (90, .int .i64 d34)] [Asr.of 5 (Enc.int .u8) (z14.v) d33, Asr.onv 91 (NE.pair (NE.flat (Enc.int .u64)) (NE.sl (Enc.int .i64))) (z28.v) z30 d29] _ _
                  refine JC.seq ?_
                  refine JC.region ?_
                  refine JL.val (v := .bool (decide (d34 < (((subL d29 (0 : Int) (maxI (0 : Int) (IntKind.wrap .i64 ((IntKind.wrap .i64 ((2 : Int) * ((y21).length : Int))) - (2 : Int)))))).length : Int)))) (QV.lss rfl rfl) rfl rfl rfl ?_
                  refine JL.nil ?_
                  refine QJ.then_normal ?_
                  refine JC.seq ?_
                  rcases ite_inv hm with ⟨h41, hm⟩ | ⟨h41, hm⟩
                  ·
                    refine JC.condT' rfl (decide_eq_true h41) ?_
                    refine JC.skip ?_
                    refine QJ.then_normal ?_
                    refine JC.seq ?_
                    refine JC.cutK (Y := (List Int) × Unit) (fun y => match y with | (d42, _) => F20.j4 d34 (d42) = some s40) (fun y => match y with | (d42, _) => [(9, z14.v), (88, (SlV.sub ((NE.pair (NE.flat (Enc.int .u64)) (NE.sl (Enc.int .i64)))).E.sz z28 (0 : Int) (maxI (0 : Int) (IntKind.wrap .i64 ((IntKind.wrap .i64 ((2 : Int) * ((y21).length : Int))) - (2 : Int))))).v), (89, .int .i64 (((subL d29 (0 : Int) (maxI (0 : Int) (IntKind.wrap .i64 ((IntKind.wrap .i64 ((2 : Int) * ((y21).length : Int))) - (2 : Int)))))).length : Int)), (90, .int .i64 d34)]) (fun y => match y with | (d42, _) => [Asr.of 5 (Enc.int .u8) (z14.v) d42, Asr.onv 91 (NE.pair (NE.flat (Enc.int .u64)) (NE.sl (Enc.int .i64))) (z28.v) z30 d29]) ?_ ?_
                    ·
                      rintro ⟨d42, ⟨⟩⟩ hm
                      unfold F20.j4 at hm
                      show QJ _ _ [(9, z14.v), (88, (SlV.sub ((NE.pair (NE.flat (Enc.int .u64)) (NE.sl (Enc.int .i64)))).E.sz z28 (0 : Int) (maxI (0 : Int) (IntKind.wrap .i64 ((IntKind.wrap .i64 ((2 : Int) * ((y21).length : Int))) - (2 : Int))))).v), (89, .int .i64 (((subL d29 (0 : Int) (maxI (0 : Int) (IntKind.wrap .i64 ((IntKind.wrap .i64 ((2 : Int) * ((y21).length : Int))) - (2 : Int)))))).length : Int)), (90, .int .i64 d34)] [Asr.of 5 (Enc.int .u8) (z14.v) d42, Asr.onv 91 (NE.pair (NE.flat (Enc.int .u64)) (NE.sl (Enc.int .i64))) (z28.v) z30 d29] _ _
                      refine QJ.then_normal ?_
                      refine JC.region ?_
                      refine JL.val (v := .int .i64 (IntKind.wrap .i64 (d34 + (1 : Int)))) (QV.add rfl rfl) rfl rfl rfl ?_
                      refine JL.val (v := .int .i64 (IntKind.wrap .i64 (d34 + (1 : Int)))) (QV.move rfl) rfl rfl rfl ?_
                      refine JL.nil ?_
                      obtain rfl := Option.some.inj hm
                      exact QJ.round_on (d42, (IntKind.wrap .i64 (d34 + (1 : Int)))) () [0, 1] (by exact ⟨rfl, rfl, rfl, rfl, trivial⟩) rfl rfl
                    ·
                      refine JC.block ?_
                      refine JC.seq ?_
                      refine JC.region ?_
                      obtain ⟨h43, hm⟩ := guard_inv hm
                      refine JL.val (v := .pointer (some (elA ((SlV.sub ((NE.pair (NE.flat (Enc.int .u64)) (NE.sl (Enc.int .i64)))).E.sz z28 (0 : Int) (maxI (0 : Int) (IntKind.wrap .i64 ((IntKind.wrap .i64 ((2 : Int) * ((y21).length : Int))) - (2 : Int))))).v) (Int.toNat d34 * ((NE.pair (NE.flat (Enc.int .u64)) (NE.sl (Enc.int .i64))).E).sz)))) (QV.indexN (RdN.ofDrv ((Drv.onv 1 rfl).subN h31)) Try.underlying89 tk_91 rfl rfl h43) rfl rfl rfl ?_
                      refine JL.val (v := .agg #[.int .u64 (gd (subL d29 (0 : Int) (maxI (0 : Int) (IntKind.wrap .i64 ((IntKind.wrap .i64 ((2 : Int) * ((y21).length : Int))) - (2 : Int))))) d34).1, (gd (subL z30 (0 : Int) (maxI (0 : Int) (IntKind.wrap .i64 ((IntKind.wrap .i64 ((2 : Int) * ((y21).length : Int))) - (2 : Int))))) d34).2.v]) (QV.eq (QV.elNN (RdN.ofDrv ((Drv.onv 1 rfl).subN h31)) tk_91 rfl h43) rfl) rfl rfl rfl ?_
                      refine JL.ent (fun _ hs => hs.nil 3 (Enc.int .i64)) ?_
                      refine JL.mv (d := some 12) (MV.alloc [Seg.c (.int .u64 (0 : Int)), Seg.c (SlV.nil.v)] z_91 rfl) rfl rfl rfl ?_
                      rintro _ _ ⟨b44, rfl, rfl⟩
                      refine JL.mv (d := none) (MV.store (ss := [Seg.c (.int .u64 (0 : Int)), Seg.c (SlV.nil.v)]) 0 0 2 [Seg.c (.int .u64 (gd (subL d29 (0 : Int) (maxI (0 : Int) (IntKind.wrap .i64 ((IntKind.wrap .i64 ((2 : Int) * ((y21).length : Int))) - (2 : Int))))) d34).1), Seg.c ((gd (subL z30 (0 : Int) (maxI (0 : Int) (IntKind.wrap .i64 ((IntKind.wrap .i64 ((2 : Int) * ((y21).length : Int))) - (2 : Int))))) d34).2.v)] rfl tk_91 rfl rfl rfl rfl (fun w hs => ⟨rfl, one_c rfl, one_sl (Rdg.ofDrv (Drv.el (K := (NE.pair (NE.flat (Enc.int .u64)) (NE.sl (Enc.int .i64)))) (A := Asr.vw (Enc.int .i64) ((gd (subL z30 (0 : Int) (maxI (0 : Int) (IntKind.wrap .i64 ((IntKind.wrap .i64 ((2 : Int) * ((y21).length : Int))) - (2 : Int))))) d34).2.v) (gd (subL d29 (0 : Int) (maxI (0 : Int) (IntKind.wrap .i64 ((IntKind.wrap .i64 ((2 : Int) * ((y21).length : Int))) - (2 : Int))))) d34).2) ((Drv.onv 3 rfl).subN h31) h43 (fun _ _ q => q.2))) hs, trivial⟩)) rfl rfl rfl ?_
                      rintro _ _ ⟨rfl, rfl⟩
                      refine JL.nil ?_
                      refine QJ.then_normal ?_
                      refine JC.seq ?_
                      refine JC.region ?_
                      refine JL.val (v := .pointer (some ⟨b44, 1, none⟩)) (QV.fieldB fo_91_1 rfl rfl) rfl rfl rfl ?_
                      refine JL.val (v := (gd (subL z30 (0 : Int) (maxI (0 : Int) (IntKind.wrap .i64 ((IntKind.wrap .i64 ((2 : Int) * ((y21).length : Int))) - (2 : Int))))) d34).2.v) (QV.load1 (ss := [Seg.c (.int .u64 (gd (subL d29 (0 : Int) (maxI (0 : Int) (IntKind.wrap .i64 ((IntKind.wrap .i64 ((2 : Int) * ((y21).length : Int))) - (2 : Int))))) d34).1), Seg.c ((gd (subL z30 (0 : Int) (maxI (0 : Int) (IntKind.wrap .i64 ((IntKind.wrap .i64 ((2 : Int) * ((y21).length : Int))) - (2 : Int))))) d34).2.v)]) 0 1 rfl tk_25 rfl rfl rfl) rfl rfl rfl ?_
                      refine JL.val (v := .int .i64 (((gd (subL d29 (0 : Int) (maxI (0 : Int) (IntKind.wrap .i64 ((IntKind.wrap .i64 ((2 : Int) * ((y21).length : Int))) - (2 : Int))))) d34).2).length : Int)) (QV.len (Rdg.ofDrv (Drv.el (K := (NE.pair (NE.flat (Enc.int .u64)) (NE.sl (Enc.int .i64)))) (A := Asr.vw (Enc.int .i64) ((gd (subL z30 (0 : Int) (maxI (0 : Int) (IntKind.wrap .i64 ((IntKind.wrap .i64 ((2 : Int) * ((y21).length : Int))) - (2 : Int))))) d34).2.v) (gd (subL d29 (0 : Int) (maxI (0 : Int) (IntKind.wrap .i64 ((IntKind.wrap .i64 ((2 : Int) * ((y21).length : Int))) - (2 : Int))))) d34).2) ((Drv.onv 3 rfl).subN h31) h43 (fun _ _ q => q.2))) Try.underlying25 rfl) rfl rfl rfl ?_
                      refine JL.val (v := .int .i64 (0 : Int)) (QV.move rfl) rfl rfl rfl ?_
                      refine JL.nil ?_
                      refine QJ.then_normal ?_
                      refine JC.cutK (Y := (List Int) × Unit) (fun y => match y with | (d45, _) => F20.j5 d34 (d45) = some s40) (fun y => match y with | (d45, _) => [(9, z14.v), (88, (SlV.sub ((NE.pair (NE.flat (Enc.int .u64)) (NE.sl (Enc.int .i64)))).E.sz z28 (0 : Int) (maxI (0 : Int) (IntKind.wrap .i64 ((IntKind.wrap .i64 ((2 : Int) * ((y21).length : Int))) - (2 : Int))))).v), (89, .int .i64 (((subL d29 (0 : Int) (maxI (0 : Int) (IntKind.wrap .i64 ((IntKind.wrap .i64 ((2 : Int) * ((y21).length : Int))) - (2 : Int)))))).length : Int)), (90, .int .i64 d34)]) (fun y => match y with | (d45, _) => [Asr.of 5 (Enc.int .u8) (z14.v) d45, Asr.onv 91 (NE.pair (NE.flat (Enc.int .u64)) (NE.sl (Enc.int .i64))) (z28.v) z30 d29]) ?_ ?_
                      ·
                        rintro ⟨d45, ⟨⟩⟩ hm
                        unfold F20.j5 at hm
                        show QJ _ _ [(9, z14.v), (88, (SlV.sub ((NE.pair (NE.flat (Enc.int .u64)) (NE.sl (Enc.int .i64)))).E.sz z28 (0 : Int) (maxI (0 : Int) (IntKind.wrap .i64 ((IntKind.wrap .i64 ((2 : Int) * ((y21).length : Int))) - (2 : Int))))).v), (89, .int .i64 (((subL d29 (0 : Int) (maxI (0 : Int) (IntKind.wrap .i64 ((IntKind.wrap .i64 ((2 : Int) * ((y21).length : Int))) - (2 : Int)))))).length : Int)), (90, .int .i64 d34)] [Asr.of 5 (Enc.int .u8) (z14.v) d45, Asr.onv 91 (NE.pair (NE.flat (Enc.int .u64)) (NE.sl (Enc.int .i64))) (z28.v) z30 d29] _ _
                        refine QJ.block_normal ?_
                        exact QJ.cut_normal (d45, ()) hm [0, 1] (by exact ⟨rfl, rfl, rfl, rfl, trivial⟩) rfl rfl
                      ·
                        refine JC.block ?_
                        obtain ⟨y50, hl51, hmo52⟩ := bind_inv hm
                        refine JC.loop (F20.b2 y21 d29 d34) (fun x z => match x, z with | (d46, d47), _ => [(9, z14.v), (88, (SlV.sub ((NE.pair (NE.flat (Enc.int .u64)) (NE.sl (Enc.int .i64)))).E.sz z28 (0 : Int) (maxI (0 : Int) (IntKind.wrap .i64 ((IntKind.wrap .i64 ((2 : Int) * ((y21).length : Int))) - (2 : Int))))).v), (89, .int .i64 (((subL d29 (0 : Int) (maxI (0 : Int) (IntKind.wrap .i64 ((IntKind.wrap .i64 ((2 : Int) * ((y21).length : Int))) - (2 : Int)))))).length : Int)), (90, .int .i64 d34), (95, (gd (subL z30 (0 : Int) (maxI (0 : Int) (IntKind.wrap .i64 ((IntKind.wrap .i64 ((2 : Int) * ((y21).length : Int))) - (2 : Int))))) d34).2.v), (96, .int .i64 (((gd (subL d29 (0 : Int) (maxI (0 : Int) (IntKind.wrap .i64 ((IntKind.wrap .i64 ((2 : Int) * ((y21).length : Int))) - (2 : Int))))) d34).2).length : Int)), (97, .int .i64 d47)]) (fun x z => match x, z with | (d46, d47), _ => [Asr.of 5 (Enc.int .u8) (z14.v) d46, Asr.onv 91 (NE.pair (NE.flat (Enc.int .u64)) (NE.sl (Enc.int .i64))) (z28.v) z30 d29]) (d33, (0 : Int)) () y50 hl51 [2, 3] (by exact ⟨rfl, rfl, rfl, rfl, rfl, rfl, rfl, trivial⟩) rfl rfl ?_
                        rintro ⟨d46, d47⟩ ⟨⟩ s53 hm
                        unfold F20.b2 at hm
                        dsimp only at hm
                        show JC _ _ _ [(9, z14.v), (88, (SlV.sub ((NE.pair (NE.flat (Enc.int .u64)) (NE.sl (Enc.int .i64)))).E.sz z28 (0 : Int) (maxI (0 : Int) (IntKind.wrap .i64 ((IntKind.wrap .i64 ((2 : Int) * ((y21).length : Int))) - (2 : Int))))).v), (89, .int .i64 (((subL d29 (0 : Int) (maxI (0 : Int) (IntKind.wrap .i64 ((IntKind.wrap .i64 ((2 : Int) * ((y21).length : Int))) - (2 : Int)))))).length : Int)), (90, .int .i64 d34), (95, (gd (subL z30 (0 : Int) (maxI (0 : Int) (IntKind.wrap .i64 ((IntKind.wrap .i64 ((2 : Int) * ((y21).length : Int))) - (2 : Int))))) d34).2.v), (96, .int .i64 (((gd (subL d29 (0 : Int) (maxI (0 : Int) (IntKind.wrap .i64 ((IntKind.wrap .i64 ((2 : Int) * ((y21).length : Int))) - (2 : Int))))) d34).2).length : Int)), (97, .int .i64 d47)] [Asr.of 5 (Enc.int .u8) (z14.v) d46, Asr.onv 91 (NE.pair (NE.flat (Enc.int .u64)) (NE.sl (Enc.int .i64))) (z28.v) z30 d29] _ _
                        refine JC.seq ?_
                        refine JC.region ?_
                        refine JL.val (v := .bool (decide (d47 < (((gd (subL d29 (0 : Int) (maxI (0 : Int) (IntKind.wrap .i64 ((IntKind.wrap .i64 ((2 : Int) * ((y21).length : Int))) - (2 : Int))))) d34).2).length : Int)))) (QV.lss rfl rfl) rfl rfl rfl ?_
                        refine JL.nil ?_
                        refine QJ.then_normal ?_
                        refine JC.seq ?_
                        rcases ite_inv hm with ⟨h54, hm⟩ | ⟨h54, hm⟩
                        ·
                          refine JC.condT' rfl (decide_eq_true h54) ?_
                          refine JC.skip ?_
                          refine QJ.then_normal ?_
                          refine JC.seq ?_
                          refine JC.block ?_
                          refine JC.seq ?_
                          refine JC.region ?_
                          obtain ⟨h55, hm⟩ := guard_inv hm
                          refine JL.val (v := .pointer (some (elA ((gd (subL z30 (0 : Int) (maxI (0 : Int) (IntKind.wrap .i64 ((IntKind.wrap .i64 ((2 : Int) * ((y21).length : Int))) - (2 : Int))))) d34).2.v) (Int.toNat d47 * ((Enc.int .i64)).sz)))) (QV.indexA (Rdg.ofDrv (Drv.el (K := (NE.pair (NE.flat (Enc.int .u64)) (NE.sl (Enc.int .i64)))) (A := Asr.vw (Enc.int .i64) ((gd (subL z30 (0 : Int) (maxI (0 : Int) (IntKind.wrap .i64 ((IntKind.wrap .i64 ((2 : Int) * ((y21).length : Int))) - (2 : Int))))) d34).2.v) (gd (subL d29 (0 : Int) (maxI (0 : Int) (IntKind.wrap .i64 ((IntKind.wrap .i64 ((2 : Int) * ((y21).length : Int))) - (2 : Int))))) d34).2) ((Drv.onv 1 rfl).subN h31) h43 (fun _ _ q => q.2))) Try.underlying25 tk_3 rfl rfl h55) rfl rfl rfl ?_
                          refine JL.val (v := .int .i64 (gd (gd (subL d29 (0 : Int) (maxI (0 : Int) (IntKind.wrap .i64 ((IntKind.wrap .i64 ((2 : Int) * ((y21).length : Int))) - (2 : Int))))) d34).2 d47)) (QV.el1 (Rdg.ofDrv (Drv.el (K := (NE.pair (NE.flat (Enc.int .u64)) (NE.sl (Enc.int .i64)))) (A := Asr.vw (Enc.int .i64) ((gd (subL z30 (0 : Int) (maxI (0 : Int) (IntKind.wrap .i64 ((IntKind.wrap .i64 ((2 : Int) * ((y21).length : Int))) - (2 : Int))))) d34).2.v) (gd (subL d29 (0 : Int) (maxI (0 : Int) (IntKind.wrap .i64 ((IntKind.wrap .i64 ((2 : Int) * ((y21).length : Int))) - (2 : Int))))) d34).2) ((Drv.onv 1 rfl).subN h31) h43 (fun _ _ q => q.2))) tk_3 rfl h55 rfl) rfl rfl rfl ?_
                          refine JL.val (v := .int .i64 (gd (gd (subL d29 (0 : Int) (maxI (0 : Int) (IntKind.wrap .i64 ((IntKind.wrap .i64 ((2 : Int) * ((y21).length : Int))) - (2 : Int))))) d34).2 d47)) (QV.assign rfl) rfl rfl rfl ?_
                          refine JL.nil ?_
                          refine QJ.then_normal ?_
                          refine JC.region ?_
                          refine JL.val (v := z14.v) (QV.move rfl) rfl rfl rfl ?_
                          refine JL.val (v := .int .i64 (gd (gd (subL d29 (0 : Int) (maxI (0 : Int) (IntKind.wrap .i64 ((IntKind.wrap .i64 ((2 : Int) * ((y21).length : Int))) - (2 : Int))))) d34).2 d47)) (QV.move rfl) rfl rfl rfl ?_
                          obtain ⟨h56, hm⟩ := guard_inv hm
                          refine JL.val (v := .pointer (some (elA (z14.v) (Int.toNat (gd (gd (subL d29 (0 : Int) (maxI (0 : Int) (IntKind.wrap .i64 ((IntKind.wrap .i64 ((2 : Int) * ((y21).length : Int))) - (2 : Int))))) d34).2 d47) * ((Enc.int .u8)).sz)))) (QV.indexA (Rdg.of 0 rfl) Try.underlying34 tk_5 rfl rfl h56) rfl rfl rfl ?_
                          refine JL.val (v := .int .u8 (gd d46 (gd (gd (subL d29 (0 : Int) (maxI (0 : Int) (IntKind.wrap .i64 ((IntKind.wrap .i64 ((2 : Int) * ((y21).length : Int))) - (2 : Int))))) d34).2 d47))) (QV.el1 (Rdg.of 0 rfl) tk_5 rfl h56 rfl) rfl rfl rfl ?_
                          refine JL.val (v := .int .u8 (IntKind.wrap .u8 ((gd d46 (gd (gd (subL d29 (0 : Int) (maxI (0 : Int) (IntKind.wrap .i64 ((IntKind.wrap .i64 ((2 : Int) * ((y21).length : Int))) - (2 : Int))))) d34).2 d47)) + (1 : Int)))) (QV.add rfl rfl) rfl rfl rfl ?_
                          refine JL.val (v := .pointer (some (elA (z14.v) (Int.toNat (gd (gd (subL d29 (0 : Int) (maxI (0 : Int) (IntKind.wrap .i64 ((IntKind.wrap .i64 ((2 : Int) * ((y21).length : Int))) - (2 : Int))))) d34).2 d47) * ((Enc.int .u8)).sz)))) (QV.indexA (Rdg.of 0 rfl) Try.underlying34 tk_5 rfl rfl h56) rfl rfl rfl ?_
                          refine JL.mv (d := none) (MV.storeEl 0 (IntKind.wrap .u8 ((gd d46 (gd (gd (subL d29 (0 : Int) (maxI (0 : Int) (IntKind.wrap .i64 ((IntKind.wrap .i64 ((2 : Int) * ((y21).length : Int))) - (2 : Int))))) d34).2 d47)) + (1 : Int))) rfl tk_5 rfl rfl h56 rfl) rfl rfl rfl ?_
                          rintro _ _ ⟨rfl, rfl⟩
                          refine JL.nil ?_
                          refine QJ.block_normal ?_
                          refine QJ.then_normal ?_
                          refine JC.region ?_
                          refine JL.val (v := .int .i64 (IntKind.wrap .i64 (d47 + (1 : Int)))) (QV.add rfl rfl) rfl rfl rfl ?_
                          refine JL.val (v := .int .i64 (IntKind.wrap .i64 (d47 + (1 : Int)))) (QV.move rfl) rfl rfl rfl ?_
                          refine JL.nil ?_
                          obtain rfl := Option.some.inj hm
                          exact QJ.round_on ((List.set d46 (Int.toNat (gd (gd (subL d29 (0 : Int) (maxI (0 : Int) (IntKind.wrap .i64 ((IntKind.wrap .i64 ((2 : Int) * ((y21).length : Int))) - (2 : Int))))) d34).2 d47)) (IntKind.wrap .u8 ((gd d46 (gd (gd (subL d29 (0 : Int) (maxI (0 : Int) (IntKind.wrap .i64 ((IntKind.wrap .i64 ((2 : Int) * ((y21).length : Int))) - (2 : Int))))) d34).2 d47)) + (1 : Int)))), (IntKind.wrap .i64 (d47 + (1 : Int)))) () [0, 1] (by exact ⟨rfl, rfl, rfl, rfl, rfl, rfl, rfl, trivial⟩) rfl rfl
                        ·
                          refine JC.condF' rfl (decide_eq_false h54) ?_
                          refine JC.exit ?_
                          refine QJ.then_exit ?_
                          obtain rfl := Option.some.inj hm
                          refine QJ.round_exit (fun hy => ?_)
                          subst hy
                          refine QJ.block_hit ?_
                          exact QJ.cut_normal (d46, ()) hmo52 [0, 1] (by exact ⟨rfl, rfl, rfl, rfl, trivial⟩) rfl rfl
                  ·
                    refine JC.condF' rfl (decide_eq_false h41) ?_
                    refine JC.exit ?_
                    refine QJ.then_exit ?_
                    obtain rfl := Option.some.inj hm
                    refine QJ.round_exit (fun hy => ?_)
                    subst hy
                    refine QJ.block_hit ?_
                    exact QJ.cut_normal (d33, ()) hmo39 [0] (by exact ⟨rfl, trivial⟩) rfl rfl
              ·
                refine JC.block ?_
                obtain ⟨y65, hl66, hmo67⟩ := bind_inv hm
                refine JC.loop (F20.b3 x3 y21) (fun x z => match x, z with | (d58, d60), (z57, z59) => [(6, z10.v), (9, z14.v), (10, z57.v), (71, .int .i64 (IntKind.wrap .i64 (x3 - (1 : Int)))), (72, .int .i64 d60)]) (fun x z => match x, z with | (d58, d60), (z57, z59) => [Asr.vn (NE.pair (NE.flat (Enc.int .u64)) (NE.sl (Enc.int .i64))) (z10.v) z23 y21, Asr.of 5 (Enc.int .u8) (z14.v) (List.replicate (Int.toNat ((x2).length : Int)) (0 : Int)), Asr.onv 91 (NE.pair (NE.flat (Enc.int .u64)) (NE.sl (Enc.int .i64))) (z57.v) z59 d58]) (y24, (0 : Int)) (z26, z27) y65 hl66 [1, 2, 0] (by exact ⟨rfl, rfl, rfl, rfl, rfl, trivial⟩) rfl rfl ?_
                rintro ⟨d58, d60⟩ ⟨z57, z59⟩ s68 hm
                unfold F20.b3 at hm
                dsimp only at hm
                show JC _ _ _ [(6, z10.v), (9, z14.v), (10, z57.v), (71, .int .i64 (IntKind.wrap .i64 (x3 - (1 : Int)))), (72, .int .i64 d60)] [Asr.vn (NE.pair (NE.flat (Enc.int .u64)) (NE.sl (Enc.int .i64))) (z10.v) z23 y21, Asr.of 5 (Enc.int .u8) (z14.v) (List.replicate (Int.toNat ((x2).length : Int)) (0 : Int)), Asr.onv 91 (NE.pair (NE.flat (Enc.int .u64)) (NE.sl (Enc.int .i64))) (z57.v) z59 d58] _ _
                refine JC.seq ?_
                refine JC.region ?_
                refine JL.val (v := .bool (decide (d60 < (IntKind.wrap .i64 (x3 - (1 : Int)))))) (QV.lss rfl rfl) rfl rfl rfl ?_
                refine JL.nil ?_
                refine QJ.then_normal ?_
                refine JC.seq ?_
                rcases ite_inv hm with ⟨h69, hm⟩ | ⟨h69, hm⟩
                ·
                  refine JC.condT' rfl (decide_eq_true h69) ?_
                  refine JC.skip ?_
                  refine QJ.then_normal ?_
                  refine JC.seq ?_
                  refine JC.block ?_
                  refine JC.seq ?_
                  refine JC.region ?_
                  refine JL.val (v := z10.v) (QV.move rfl) rfl rfl rfl ?_
                  obtain ⟨y70, hc71, hm⟩ := bind_inv hm
                  refine JL.mv (d := some 75) (MV.call (Lo := []) (Lr := [Asr.vn (NE.pair (NE.flat (Enc.int .u64)) (NE.sl (Enc.int .i64))) (z10.v) z23 y21, Asr.of 5 (Enc.int .u8) (z14.v) (List.replicate (Int.toNat ((x2).length : Int)) (0 : Int)), Asr.onv 91 (NE.pair (NE.flat (Enc.int .u64)) (NE.sl (Enc.int .i64))) (z57.v) z59 d58]) (F49.spec (z10) (z23) (y21) _ hc71) rfl Try.func49 rfl rfl rfl [] [0, 1, 2] rfl rfl rfl ⟨(Drv.vn 0 rfl), trivial⟩) rfl rfl rfl ?_
                  rintro _ _ ⟨_, ⟨z72, z73, rfl, rfl⟩, rfl⟩
                  refine JL.val (v := z57.v) (QV.move rfl) rfl rfl rfl ?_
                  refine JL.ent (fun _ hs => hs.shareV 3 rfl) ?_
                  obtain ⟨y74, hc75, hm⟩ := bind_inv hm
                  refine JL.mv (d := some 77) (MV.call (Lo := []) (Lr := [Asr.onv 91 (NE.pair (NE.flat (Enc.int .u64)) (NE.sl (Enc.int .i64))) (z72.v) z73 y70, Asr.vn (NE.pair (NE.flat (Enc.int .u64)) (NE.sl (Enc.int .i64))) (z10.v) z23 y21, Asr.of 5 (Enc.int .u8) (z14.v) (List.replicate (Int.toNat ((x2).length : Int)) (0 : Int)), Asr.vn (NE.pair (NE.flat (Enc.int .u64)) (NE.sl (Enc.int .i64))) (z57.v) z59 d58]) (F50.spec (z57) (z59) (d58) _ hc75) rfl Try.func50 rfl rfl rfl [] [0, 1, 2, 3] rfl rfl rfl ⟨(Drv.vn 3 rfl), trivial⟩) rfl rfl rfl ?_
                  rintro _ _ ⟨_, ⟨z76, z77, rfl, rfl⟩, rfl⟩
                  obtain ⟨h78, hm⟩ := guard_inv hm
                  refine JL.mv (d := some 78) (MV.appendV 1 rfl (OkG.onv 0 rfl) (RdN.onv 0 rfl) Try.underlying89 zi_91 rfl (by decide) rfl rfl h78) rfl rfl rfl ?_
                  rintro _ _ ⟨z79, rfl, rfl⟩
                  refine JL.val (v := z79.v) (QV.assign rfl) rfl rfl rfl ?_
                  refine JL.nil ?_
                  refine QJ.then_normal ?_
                  refine JC.region ?_
                  refine JL.val (v := z79.v) (QV.move rfl) rfl rfl rfl ?_
                  obtain ⟨y80, hc81, hm⟩ := bind_inv hm
                  refine JL.mv (d := some 80) (MV.call (Lo := [Asr.onv 91 (NE.pair (NE.flat (Enc.int .u64)) (NE.sl (Enc.int .i64))) (z79.v) (z73 ++ z77) (y70 ++ y74)]) (Lr := [Asr.onv 91 (NE.pair (NE.flat (Enc.int .u64)) (NE.sl (Enc.int .i64))) (z76.v) z77 y74, Asr.vn (NE.pair (NE.flat (Enc.int .u64)) (NE.sl (Enc.int .i64))) (z10.v) z23 y21, Asr.of 5 (Enc.int .u8) (z14.v) (List.replicate (Int.toNat ((x2).length : Int)) (0 : Int)), Asr.vn (NE.pair (NE.flat (Enc.int .u64)) (NE.sl (Enc.int .i64))) (z57.v) z59 d58]) (F47_1.spec (z79) ((z73 ++ z77)) ((y70 ++ y74)) _ hc81) rfl Try.func47 rfl rfl rfl [1] [0, 2, 3, 4] rfl rfl rfl trivial) rfl rfl rfl ?_
                  rintro _ _ ⟨_, ⟨z82, rfl, rfl⟩, rfl⟩
                  refine JL.nil ?_
                  refine QJ.block_normal ?_
                  refine QJ.then_normal ?_
                  refine JC.region ?_
                  refine JL.val (v := .int .i64 (IntKind.wrap .i64 (d60 + (1 : Int)))) (QV.add rfl rfl) rfl rfl rfl ?_
                  refine JL.val (v := .int .i64 (IntKind.wrap .i64 (d60 + (1 : Int)))) (QV.move rfl) rfl rfl rfl ?_
                  refine JL.nil ?_
                  obtain rfl := Option.some.inj hm
                  exact QJ.round_on (y80, (IntKind.wrap .i64 (d60 + (1 : Int)))) (z79, z82) [2, 3, 0] (by exact ⟨rfl, rfl, rfl, rfl, rfl, trivial⟩) rfl rfl
                ·
                  refine JC.condF' rfl (decide_eq_false h69) ?_
                  refine JC.exit ?_
                  refine QJ.then_exit ?_
                  obtain rfl := Option.some.inj hm
                  refine QJ.round_exit (fun hy => ?_)
                  subst hy
                  refine QJ.block_hit ?_
                  exact QJ.cut_normal (d58, (z57, z59)) hmo67 [0, 1, 2] (by exact ⟨rfl, rfl, rfl, trivial⟩) rfl rfl
        ·
          refine JC.block ?_
          obtain ⟨y91, hl92, hmo93⟩ := bind_inv hm
          refine JC.loop (F20.b4 x2) (fun x z => match x, z with | (d84, d86), (z83, z85) => [(0, s1.v), (1, .int .i64 x3), (6, z83.v), (26, s1.v), (27, .int .i64 ((x2).length : Int)), (28, .int .i64 d86)]) (fun x z => match x, z with | (d84, d86), (z83, z85) => [Asr.vw (Enc.int .u32) (s1.v) x2, Asr.onv 91 (NE.pair (NE.flat (Enc.int .u64)) (NE.sl (Enc.int .i64))) (z83.v) z85 d84]) (([] : List (Int × (List Int))), (0 : Int)) (SlV.nil, ([] : List (Unit × SlV))) y91 hl92 [2, 0] (by exact ⟨rfl, rfl, rfl, rfl, rfl, rfl, trivial⟩) rfl rfl ?_
          rintro ⟨d84, d86⟩ ⟨z83, z85⟩ s94 hm
          unfold F20.b4 at hm
          dsimp only at hm
          show JC _ _ _ [(0, s1.v), (1, .int .i64 x3), (6, z83.v), (26, s1.v), (27, .int .i64 ((x2).length : Int)), (28, .int .i64 d86)] [Asr.vw (Enc.int .u32) (s1.v) x2, Asr.onv 91 (NE.pair (NE.flat (Enc.int .u64)) (NE.sl (Enc.int .i64))) (z83.v) z85 d84] _ _
          refine JC.seq ?_
          refine JC.region ?_
          refine JL.val (v := .bool (decide (d86 < ((x2).length : Int)))) (QV.lss rfl rfl) rfl rfl rfl ?_
          refine JL.nil ?_
          refine QJ.then_normal ?_
          refine JC.seq ?_
          rcases ite_inv hm with ⟨h95, hm⟩ | ⟨h95, hm⟩
          ·
            refine JC.condT' rfl (decide_eq_true h95) ?_
            refine JC.skip ?_
            refine QJ.then_normal ?_
            refine JC.seq ?_
            refine JC.block ?_
            refine JC.seq ?_
            refine JC.region ?_
            refine JL.val (v := .int .i64 d86) (QV.move rfl) rfl rfl rfl ?_
            obtain ⟨h96, hm⟩ := guard_inv hm
            refine JL.val (v := .pointer (some (elA (s1.v) (Int.toNat d86 * ((Enc.int .u32)).sz)))) (QV.indexA (Rdg.vw 0 rfl) Try.underlying33 tk_40 rfl rfl h96) rfl rfl rfl ?_
            refine JL.val (v := .int .u32 (gd x2 d86)) (QV.el1 (Rdg.vw 0 rfl) tk_40 rfl h96 rfl) rfl rfl rfl ?_
            refine JL.val (v := .int .i64 d86) (QV.assign rfl) rfl rfl rfl ?_
            refine JL.val (v := .int .u32 (gd x2 d86)) (QV.assign rfl) rfl rfl rfl ?_
            refine JL.nil ?_
            refine QJ.then_normal ?_
            refine JC.seq ?_
            refine JC.region ?_
            refine JL.val (v := .int .u32 (gd x2 d86)) (QV.move rfl) rfl rfl rfl ?_
            refine JL.val (v := .bool (decide ((0 : Int) < (gd x2 d86)))) (QV.gtr rfl rfl) rfl rfl rfl ?_
            refine JL.nil ?_
            refine QJ.then_normal ?_
            refine JC.cutK (Y := (List (Int × (List Int))) × (SlV × List (Unit × SlV))) (fun y => match y with | (d98, _) => F20.j6 d86 (d98) = some s94) (fun y => match y with | (d98, (z97, z99)) => [(0, s1.v), (1, .int .i64 x3), (6, z97.v), (26, s1.v), (27, .int .i64 ((x2).length : Int)), (28, .int .i64 d86)]) (fun y => match y with | (d98, (z97, z99)) => [Asr.vw (Enc.int .u32) (s1.v) x2, Asr.onv 91 (NE.pair (NE.flat (Enc.int .u64)) (NE.sl (Enc.int .i64))) (z97.v) z99 d98]) ?_ ?_
            ·
              rintro ⟨d98, ⟨z97, z99⟩⟩ hm
              unfold F20.j6 at hm
              show QJ _ _ [(0, s1.v), (1, .int .i64 x3), (6, z97.v), (26, s1.v), (27, .int .i64 ((x2).length : Int)), (28, .int .i64 d86)] [Asr.vw (Enc.int .u32) (s1.v) x2, Asr.onv 91 (NE.pair (NE.flat (Enc.int .u64)) (NE.sl (Enc.int .i64))) (z97.v) z99 d98] _ _
              refine QJ.block_normal ?_
              refine QJ.then_normal ?_
              refine JC.region ?_
              refine JL.val (v := .int .i64 (IntKind.wrap .i64 (d86 + (1 : Int)))) (QV.add rfl rfl) rfl rfl rfl ?_
              refine JL.val (v := .int .i64 (IntKind.wrap .i64 (d86 + (1 : Int)))) (QV.move rfl) rfl rfl rfl ?_
              refine JL.nil ?_
              obtain rfl := Option.some.inj hm
              exact QJ.round_on (d98, (IntKind.wrap .i64 (d86 + (1 : Int)))) (z97, z99) [0, 1] (by exact ⟨rfl, rfl, rfl, rfl, rfl, rfl, trivial⟩) rfl rfl
            ·
              rcases ite_inv hm with ⟨h100, hm⟩ | ⟨h100, hm⟩
              ·
                refine JC.condT' rfl (decide_eq_true h100) ?_
                refine JC.region ?_
                refine JL.val (v := z83.v) (QV.move rfl) rfl rfl rfl ?_
                refine JL.val (v := .int .u32 (gd x2 d86)) (QV.move rfl) rfl rfl rfl ?_
                refine JL.val (v := .int .u64 (IntKind.wrap .u64 (gd x2 d86))) (QV.conv rfl (by rw [Try.underlying40]; rfl) Try.underlying41) rfl rfl rfl ?_
                refine JL.val (v := .int .i64 d86) (QV.move rfl) rfl rfl rfl ?_
                refine JL.mv (d := some 39) (MV.lit (E := (Enc.int .i64)) (vals := [(0, .int .i64 d86)]) [d86] Try.underlying25 zi_3 rfl (by decide) rfl (by kernel_rfl)) rfl rfl rfl ?_
                rintro _ _ ⟨z101, rfl, rfl⟩
                refine JL.ent (fun _ hs => hs.nil 3 (Enc.int .i64)) ?_
                refine JL.val (v := .agg #[.int .u64 (IntKind.wrap .u64 (gd x2 d86)), z101.v]) (QV.build (vals := [(0, .int .u64 (IntKind.wrap .u64 (gd x2 d86))), (1, z101.v)]) rfl (by kernel_rfl)) rfl rfl rfl ?_
                refine JL.ent (fun _ hs => hs.share 1 rfl) ?_
                refine JL.mv (d := some 41) (MV.litV (K := (NE.pair (NE.flat (Enc.int .u64)) (NE.sl (Enc.int .i64)))) (vals := [(0, .agg #[.int .u64 (IntKind.wrap .u64 (gd x2 d86)), z101.v])]) [((), z101)] [((IntKind.wrap .u64 (gd x2 d86)), [d86])] Try.underlying89 zi_91 ⟨fun w F G hst => ⟨trivial, (ok_vw (Drv.vw 1 rfl) w F G hst)⟩, trivial⟩ rfl (by decide) rfl (by kernel_rfl)) rfl rfl rfl ?_
                rintro _ _ ⟨z102, rfl, rfl⟩
                obtain ⟨h103, hm⟩ := guard_inv hm
                refine JL.mv (d := some 42) (MV.appendV 4 rfl (OkG.onv 0 rfl) (RdN.onv 0 rfl) Try.underlying89 zi_91 rfl (by decide) rfl rfl h103) rfl rfl rfl ?_
                rintro _ _ ⟨z104, rfl, rfl⟩
                refine JL.val (v := z104.v) (QV.assign rfl) rfl rfl rfl ?_
                refine JL.nil ?_
                exact QJ.cut_normal ((d84 ++ [((IntKind.wrap .u64 (gd x2 d86)), [d86])]), (z104, (z85 ++ [((), z101)]))) hm [3, 4] (by exact ⟨rfl, rfl, rfl, rfl, rfl, rfl, trivial⟩) rfl rfl
              ·
                refine JC.condF' rfl (decide_eq_false h100) ?_
                refine JC.skip ?_
                exact QJ.cut_normal (d84, (z83, z85)) hm [0, 1] (by exact ⟨rfl, rfl, rfl, rfl, rfl, rfl, trivial⟩) rfl rfl
          ·
            refine JC.condF' rfl (decide_eq_false h95) ?_
            refine JC.exit ?_
            refine QJ.then_exit ?_
            obtain rfl := Option.some.inj hm
            refine QJ.round_exit (fun hy => ?_)
            subst hy
            refine QJ.block_hit ?_
            exact QJ.cut_normal (d84, (z83, z85)) hmo93 [0, 1] (by exact ⟨rfl, rfl, rfl, trivial⟩) rfl rfl

/-! ### 24: drogher/limit.Cost -/
noncomputable def F24.j1  (d7 : Int) : Option Int :=
  some d7
noncomputable def F24.b1 (x2 : List Int) (x4 : List Int) : (Int × Int) → Option ((Int × Int) ⊕ Int)
  | (d8, d9) => (if d9 < (((subL x2 (0 : Int) (minI ((x2).length : Int) ((x4).length : Int)))).length : Int) then (if 0 ≤ d9 ∧ d9 < (((subL x2 (0 : Int) (minI ((x2).length : Int) ((x4).length : Int)))).length : Int) then (if 0 ≤ d9 ∧ d9 < ((x4).length : Int) then some (.inl ((IntKind.wrap .u64 (d8 + (IntKind.wrap .u64 ((IntKind.wrap .u64 (gd (subL x2 (0 : Int) (minI ((x2).length : Int) ((x4).length : Int))) d9)) * (IntKind.wrap .u64 (gd x4 d9)))))), (IntKind.wrap .i64 (d9 + (1 : Int))))) else none) else none) else some (.inr d8))
noncomputable def F24.m (x2 : List Int) (x4 : List Int) : Option Int :=
  (if 0 ≤ (0 : Int) ∧ (0 : Int) ≤ (minI ((x2).length : Int) ((x4).length : Int)) ∧ (minI ((x2).length : Int) ((x4).length : Int)) ≤ ((x2).length : Int) then ((loop (F24.b1 x2 x4) ((0 : Int), (0 : Int))).bind fun y => match y with | d7 => F24.j1 (d7)) else none)
set_option maxRecDepth 100000 in
set_option maxHeartbeats 4000000 in
theorem F24.spec (s1 : SlV) (s3 : SlV) (x2 : List Int) (x4 : List Int) (r : Int) (hm : F24.m x2 x4 = some r) :
    Ctr Try.prog false 24 [s1.v, s3.v] [Asr.vw (Enc.int .u32) (s1.v) x2, Asr.vw (Enc.int .u8) (s3.v) x4] (fun v L' => v = .int .u64 r ∧ L' = []) := by
  refine Ctr.intro (n := 33) (env := [(0, s1.v), (1, s3.v)]) Try.func24 rfl rfl rfl rfl (fun c => ?_)
  unfold F24.m at hm
  refine JC.seq ?_
  refine JC.region ?_
  refine JL.val (v := .int .u64 (0 : Int)) (QV.assign rfl) rfl rfl rfl ?_
  refine JL.nil ?_
  refine QJ.then_normal ?_
  refine JC.seq ?_
  refine JC.region ?_
  refine JL.val (v := .int .u64 (0 : Int)) (QV.assign rfl) rfl rfl rfl ?_
  refine JL.nil ?_
  refine QJ.then_normal ?_
  refine JC.seq ?_
  refine JC.seq ?_
  refine JC.region ?_
  refine JL.val (v := s1.v) (QV.move rfl) rfl rfl rfl ?_
  refine JL.val (v := s1.v) (QV.move rfl) rfl rfl rfl ?_
  refine JL.val (v := .int .i64 ((x2).length : Int)) (QV.len (Rdg.vw 0 rfl) Try.underlying33 rfl) rfl rfl rfl ?_
  refine JL.val (v := s3.v) (QV.move rfl) rfl rfl rfl ?_
  refine JL.val (v := .int .i64 ((x4).length : Int)) (QV.len (Rdg.vw 1 rfl) Try.underlying34 rfl) rfl rfl rfl ?_
  refine JL.val (v := .int .i64 (minI ((x2).length : Int) ((x4).length : Int))) (QV.min2 rfl rfl) rfl rfl rfl ?_
  obtain ⟨h6, hm⟩ := guard_inv hm
  refine JL.val (v := (SlV.sub ((Enc.int .u32)).sz s1 (0 : Int) (minI ((x2).length : Int) ((x4).length : Int))).v) (QV.sliceV (Rdg.vw 0 rfl) Try.underlying33 tk_40 rfl rfl rfl h6) rfl rfl rfl ?_
  refine JL.val (v := .int .i64 (((subL x2 (0 : Int) (minI ((x2).length : Int) ((x4).length : Int)))).length : Int)) (QV.len (Rdg.ofDrv ((Drv.vw 0 rfl).subV h6)) Try.underlying33 rfl) rfl rfl rfl ?_
  refine JL.val (v := .int .i64 (0 : Int)) (QV.move rfl) rfl rfl rfl ?_
  refine JL.nil ?_
  refine QJ.ent (fun _ hs => hs.derive ((Drv.vw 0 rfl).subV h6)) ?_
  refine QJ.then_normal ?_
  refine JC.cutK (Y := Int × Unit) (fun y => match y with | (d7, _) => F24.j1 (d7) = some r) (fun y => match y with | (d7, _) => [(5, .int .u64 d7)]) (fun y => match y with | (d7, _) => []) ?_ ?_
  ·
    rintro ⟨d7, ⟨⟩⟩ hm
    unfold F24.j1 at hm
    show QJ _ _ [(5, .int .u64 d7)] [] _ _
    refine QJ.then_normal ?_
    refine JC.seq ?_
    refine JC.region ?_
    refine JL.val (v := .int .u64 d7) (QV.move rfl) rfl rfl rfl ?_
    refine JL.val (v := .int .u64 d7) (QV.assign rfl) rfl rfl rfl ?_
    refine JL.nil ?_
    refine QJ.then_normal ?_
    refine JC.ret ?_
    obtain rfl := Option.some.inj hm
    exact QJ.body (vs := [.int .u64 d7]) (.inl rfl) rfl (ResVs.cons (ResV.tmp rfl) ResVs.nil) [] rfl rfl (.inr trivial) ⟨rfl, rfl⟩
  ·
    refine JC.block ?_
    obtain ⟨y12, hl13, hmo14⟩ := bind_inv hm
    refine JC.loop (F24.b1 x2 x4) (fun x z => match x, z with | (d8, d9), _ => [(1, s3.v), (5, .int .u64 d8), (14, (SlV.sub ((Enc.int .u32)).sz s1 (0 : Int) (minI ((x2).length : Int) ((x4).length : Int))).v), (15, .int .i64 (((subL x2 (0 : Int) (minI ((x2).length : Int) ((x4).length : Int)))).length : Int)), (16, .int .i64 d9)]) (fun x z => match x, z with | (d8, d9), _ => [Asr.vw (Enc.int .u8) (s3.v) x4, Asr.vw (Enc.int .u32) ((SlV.sub ((Enc.int .u32)).sz s1 (0 : Int) (minI ((x2).length : Int) ((x4).length : Int))).v) (subL x2 (0 : Int) (minI ((x2).length : Int) ((x4).length : Int)))]) ((0 : Int), (0 : Int)) () y12 hl13 [2, 0] (by exact ⟨rfl, rfl, rfl, rfl, rfl, trivial⟩) rfl rfl ?_
    rintro ⟨d8, d9⟩ ⟨⟩ s15 hm
    unfold F24.b1 at hm
    dsimp only at hm
    show JC _ _ _ [(1, s3.v), (5, .int .u64 d8), (14, (SlV.sub ((Enc.int .u32)).sz s1 (0 : Int) (minI ((x2).length : Int) ((x4).length : Int))).v), (15, .int .i64 (((subL x2 (0 : Int) (minI ((x2).length : Int) ((x4).length : Int)))).length : Int)), (16, .int .i64 d9)] [Asr.vw (Enc.int .u8) (s3.v) x4, Asr.vw (Enc.int .u32) ((SlV.sub ((Enc.int .u32)).sz s1 (0 : Int) (minI ((x2).length : Int) ((x4).length : Int))).v) (subL x2 (0 : Int) (minI ((x2).length : Int) ((x4).length : Int)))] _ _
    refine JC.seq ?_
    refine JC.region ?_
    refine JL.val (v := .bool (decide (d9 < (((subL x2 (0 : Int) (minI ((x2).length : Int) ((x4).length : Int)))).length : Int)))) (QV.lss rfl rfl) rfl rfl rfl ?_
    refine JL.nil ?_
    refine QJ.then_normal ?_
    refine JC.seq ?_
    rcases ite_inv hm with ⟨h16, hm⟩ | ⟨h16, hm⟩
    ·
      refine JC.condT' rfl (decide_eq_true h16) ?_
      refine JC.skip ?_
      refine QJ.then_normal ?_
      refine JC.seq ?_
      refine JC.block ?_
      refine JC.seq ?_
      refine JC.region ?_
      refine JL.val (v := .int .i64 d9) (QV.move rfl) rfl rfl rfl ?_
      obtain ⟨h17, hm⟩ := guard_inv hm
      refine JL.val (v := .pointer (some (elA ((SlV.sub ((Enc.int .u32)).sz s1 (0 : Int) (minI ((x2).length : Int) ((x4).length : Int))).v) (Int.toNat d9 * ((Enc.int .u32)).sz)))) (QV.indexA (Rdg.vw 1 rfl) Try.underlying33 tk_40 rfl rfl h17) rfl rfl rfl ?_
      refine JL.val (v := .int .u32 (gd (subL x2 (0 : Int) (minI ((x2).length : Int) ((x4).length : Int))) d9)) (QV.el1 (Rdg.vw 1 rfl) tk_40 rfl h17 rfl) rfl rfl rfl ?_
      refine JL.val (v := .int .i64 d9) (QV.assign rfl) rfl rfl rfl ?_
      refine JL.val (v := .int .u32 (gd (subL x2 (0 : Int) (minI ((x2).length : Int) ((x4).length : Int))) d9)) (QV.assign rfl) rfl rfl rfl ?_
      refine JL.nil ?_
      refine QJ.then_normal ?_
      refine JC.region ?_
      refine JL.val (v := .int .u64 d8) (QV.move rfl) rfl rfl rfl ?_
      refine JL.val (v := .int .u32 (gd (subL x2 (0 : Int) (minI ((x2).length : Int) ((x4).length : Int))) d9)) (QV.move rfl) rfl rfl rfl ?_
      refine JL.val (v := .int .u64 (IntKind.wrap .u64 (gd (subL x2 (0 : Int) (minI ((x2).length : Int) ((x4).length : Int))) d9))) (QV.conv rfl (by rw [Try.underlying40]; rfl) Try.underlying41) rfl rfl rfl ?_
      refine JL.val (v := s3.v) (QV.move rfl) rfl rfl rfl ?_
      refine JL.val (v := .int .i64 d9) (QV.move rfl) rfl rfl rfl ?_
      obtain ⟨h18, hm⟩ := guard_inv hm
      refine JL.val (v := .pointer (some (elA (s3.v) (Int.toNat d9 * ((Enc.int .u8)).sz)))) (QV.indexA (Rdg.vw 0 rfl) Try.underlying34 tk_5 rfl rfl h18) rfl rfl rfl ?_
      refine JL.val (v := .int .u8 (gd x4 d9)) (QV.el1 (Rdg.vw 0 rfl) tk_5 rfl h18 rfl) rfl rfl rfl ?_
      refine JL.val (v := .int .u64 (IntKind.wrap .u64 (gd x4 d9))) (QV.conv rfl (by rw [Try.underlying5]; rfl) Try.underlying41) rfl rfl rfl ?_
      refine JL.val (v := .int .u64 (IntKind.wrap .u64 ((IntKind.wrap .u64 (gd (subL x2 (0 : Int) (minI ((x2).length : Int) ((x4).length : Int))) d9)) * (IntKind.wrap .u64 (gd x4 d9))))) (QV.mul rfl rfl) rfl rfl rfl ?_
      refine JL.val (v := .int .u64 (IntKind.wrap .u64 (d8 + (IntKind.wrap .u64 ((IntKind.wrap .u64 (gd (subL x2 (0 : Int) (minI ((x2).length : Int) ((x4).length : Int))) d9)) * (IntKind.wrap .u64 (gd x4 d9))))))) (QV.add rfl rfl) rfl rfl rfl ?_
      refine JL.val (v := .int .u64 (IntKind.wrap .u64 (d8 + (IntKind.wrap .u64 ((IntKind.wrap .u64 (gd (subL x2 (0 : Int) (minI ((x2).length : Int) ((x4).length : Int))) d9)) * (IntKind.wrap .u64 (gd x4 d9))))))) (QV.assign rfl) rfl rfl rfl ?_
      refine JL.nil ?_
      refine QJ.block_normal ?_
      refine QJ.then_normal ?_
      refine JC.region ?_
      refine JL.val (v := .int .i64 (IntKind.wrap .i64 (d9 + (1 : Int)))) (QV.add rfl rfl) rfl rfl rfl ?_
      refine JL.val (v := .int .i64 (IntKind.wrap .i64 (d9 + (1 : Int)))) (QV.move rfl) rfl rfl rfl ?_
      refine JL.nil ?_
      obtain rfl := Option.some.inj hm
      exact QJ.round_on ((IntKind.wrap .u64 (d8 + (IntKind.wrap .u64 ((IntKind.wrap .u64 (gd (subL x2 (0 : Int) (minI ((x2).length : Int) ((x4).length : Int))) d9)) * (IntKind.wrap .u64 (gd x4 d9)))))), (IntKind.wrap .i64 (d9 + (1 : Int)))) () [0, 1] (by exact ⟨rfl, rfl, rfl, rfl, rfl, trivial⟩) rfl rfl
    ·
      refine JC.condF' rfl (decide_eq_false h16) ?_
      refine JC.exit ?_
      refine QJ.then_exit ?_
      obtain rfl := Option.some.inj hm
      refine QJ.round_exit (fun hy => ?_)
      subst hy
      refine QJ.block_hit ?_
      exact QJ.cut_normal (d8, ()) hmo14 [] (by exact ⟨rfl, trivial⟩) rfl rfl

/-! ### 19: drogher/drogherlaw10.awake -/
noncomputable def F19.m  : Option Bool :=
  ((F20.m ([(1 : Int), (1 : Int), (2 : Int), (4 : Int)]) ((15 : Int))).bind fun y3 => ((F20.m ([(1 : Int), (1 : Int), (2 : Int), (4 : Int)]) ((2 : Int))).bind fun y6 => (if y3.2 = (0 : Int) then (if y6.2 = (0 : Int) then ((F24.m ([(1 : Int), (1 : Int), (2 : Int), (4 : Int)]) (y3.1)).bind fun y11 => (if y11 = (14 : Int) then ((F24.m ([(1 : Int), (1 : Int), (2 : Int), (4 : Int)]) (y6.1)).bind fun y14 => some (decide (y14 = (16 : Int)))) else some false)) else some false) else some false)))
set_option maxRecDepth 100000 in
set_option maxHeartbeats 4000000 in
theorem F19.spec  (r : Bool) (hm : F19.m  = some r) :
    Ctr Try.prog false 19 [] [] (fun v L' => v = .bool r ∧ L' = []) := by
  refine Ctr.intro (n := 35) (env := []) Try.func19 rfl rfl rfl rfl (fun c => ?_)
  unfold F19.m at hm
  refine JC.seq ?_
  refine JC.region ?_
  refine JL.val (v := .bool false) (QV.assign rfl) rfl rfl rfl ?_
  refine JL.nil ?_
  refine QJ.then_normal ?_
  refine JC.seq ?_
  refine JC.region ?_
  refine JL.mv (d := some 6) (MV.lit (E := (Enc.int .u32)) (vals := [(0, .int .u32 (1 : Int)), (1, .int .u32 (1 : Int)), (2, .int .u32 (2 : Int)), (3, .int .u32 (4 : Int))]) [(1 : Int), (1 : Int), (2 : Int), (4 : Int)] Try.underlying33 zi_40 rfl (by decide) rfl (by kernel_rfl)) rfl rfl rfl ?_
  rintro _ _ ⟨z2, rfl, rfl⟩
  refine JL.val (v := z2.v) (QV.assign rfl) rfl rfl rfl ?_
  refine JL.nil ?_
  refine QJ.then_normal ?_
  refine JC.seq ?_
  refine JC.region ?_
  refine JL.val (v := z2.v) (QV.move rfl) rfl rfl rfl ?_
  obtain ⟨y3, hc4, hm⟩ := bind_inv hm
  refine JL.mv (d := some 9) (MV.call (Lo := []) (Lr := [Asr.of 40 (Enc.int .u32) (z2.v) [(1 : Int), (1 : Int), (2 : Int), (4 : Int)]]) (F20.spec (z2) ([(1 : Int), (1 : Int), (2 : Int), (4 : Int)]) ((15 : Int)) _ hc4) rfl Try.func20 rfl rfl rfl [] [0] rfl rfl rfl ⟨(Drv.of 0 rfl), trivial⟩) rfl rfl rfl ?_
  rintro _ _ ⟨_, ⟨z5, rfl, rfl⟩, rfl⟩
  refine JL.val (v := .tuple #[z5.v, .int .i64 y3.2]) (QV.move rfl) rfl rfl rfl ?_
  refine JL.val (v := z5.v) (QV.extract (vs := [z5.v, .int .i64 y3.2]) rfl rfl) rfl rfl rfl ?_
  refine JL.val (v := .int .i64 y3.2) (QV.extract (vs := [z5.v, .int .i64 y3.2]) rfl rfl) rfl rfl rfl ?_
  refine JL.val (v := z5.v) (QV.assign rfl) rfl rfl rfl ?_
  refine JL.val (v := .int .i64 y3.2) (QV.assign rfl) rfl rfl rfl ?_
  refine JL.nil ?_
  refine QJ.then_normal ?_
  refine JC.seq ?_
  refine JC.region ?_
  refine JL.val (v := z2.v) (QV.move rfl) rfl rfl rfl ?_
  obtain ⟨y6, hc7, hm⟩ := bind_inv hm
  refine JL.mv (d := some 14) (MV.call (Lo := []) (Lr := [Asr.of 5 (Enc.int .u8) (z5.v) y3.1, Asr.of 40 (Enc.int .u32) (z2.v) [(1 : Int), (1 : Int), (2 : Int), (4 : Int)]]) (F20.spec (z2) ([(1 : Int), (1 : Int), (2 : Int), (4 : Int)]) ((2 : Int)) _ hc7) rfl Try.func20 rfl rfl rfl [] [0, 1] rfl rfl rfl ⟨(Drv.of 1 rfl), trivial⟩) rfl rfl rfl ?_
  rintro _ _ ⟨_, ⟨z8, rfl, rfl⟩, rfl⟩
  refine JL.val (v := .tuple #[z8.v, .int .i64 y6.2]) (QV.move rfl) rfl rfl rfl ?_
  refine JL.val (v := z8.v) (QV.extract (vs := [z8.v, .int .i64 y6.2]) rfl rfl) rfl rfl rfl ?_
  refine JL.val (v := .int .i64 y6.2) (QV.extract (vs := [z8.v, .int .i64 y6.2]) rfl rfl) rfl rfl rfl ?_
  refine JL.val (v := z8.v) (QV.assign rfl) rfl rfl rfl ?_
  refine JL.val (v := .int .i64 y6.2) (QV.assign rfl) rfl rfl rfl ?_
  refine JL.nil ?_
  refine QJ.then_normal ?_
  refine JC.seq ?_
  refine JC.region ?_
  refine JL.val (v := .int .i64 y3.2) (QV.move rfl) rfl rfl rfl ?_
  refine JL.val (v := .bool (decide (y3.2 = (0 : Int)))) (QV.eql rfl rfl) rfl rfl rfl ?_
  rcases ite_inv hm with ⟨h9, hm⟩ | ⟨h9, hm⟩
  ·
    refine JL.val (v := .bool true) (QV.eq (QV.move rfl) (congrArg Value.bool (decide_eq_true h9))) rfl rfl rfl ?_
    refine JL.val (v := .int .i64 y6.2) (QV.move rfl) rfl rfl rfl ?_
    refine JL.val (v := .bool (decide (y6.2 = (0 : Int)))) (QV.eql rfl rfl) rfl rfl rfl ?_
    refine JL.val (v := .bool (decide (y6.2 = (0 : Int)))) (QV.pickT rfl rfl) rfl rfl rfl ?_
    rcases ite_inv hm with ⟨h10, hm⟩ | ⟨h10, hm⟩
    ·
      refine JL.val (v := .bool true) (QV.eq (QV.move rfl) (congrArg Value.bool (decide_eq_true h10))) rfl rfl rfl ?_
      refine JL.val (v := z2.v) (QV.move rfl) rfl rfl rfl ?_
      refine JL.val (v := z5.v) (QV.move rfl) rfl rfl rfl ?_
      obtain ⟨y11, hc12, hm⟩ := bind_inv hm
      refine JL.mv (d := some 26) (MV.call (Lo := []) (Lr := [Asr.of 5 (Enc.int .u8) (z8.v) y6.1, Asr.of 5 (Enc.int .u8) (z5.v) y3.1, Asr.of 40 (Enc.int .u32) (z2.v) [(1 : Int), (1 : Int), (2 : Int), (4 : Int)]]) (F24.spec (z2) (z5) ([(1 : Int), (1 : Int), (2 : Int), (4 : Int)]) (y3.1) _ hc12) rfl Try.func24 rfl rfl rfl [] [0, 1, 2] rfl rfl rfl ⟨(Drv.of 2 rfl), ⟨(Drv.of 1 rfl), trivial⟩⟩) rfl rfl rfl ?_
      rintro _ _ ⟨_, ⟨rfl, rfl⟩, rfl⟩
      refine JL.val (v := .bool (decide (y11 = (14 : Int)))) (QV.eql rfl rfl) rfl rfl rfl ?_
      refine JL.val (v := .bool (decide (y11 = (14 : Int)))) (QV.pickT rfl rfl) rfl rfl rfl ?_
      rcases ite_inv hm with ⟨h13, hm⟩ | ⟨h13, hm⟩
      ·
        refine JL.val (v := .bool true) (QV.eq (QV.move rfl) (congrArg Value.bool (decide_eq_true h13))) rfl rfl rfl ?_
        refine JL.val (v := z2.v) (QV.move rfl) rfl rfl rfl ?_
        refine JL.val (v := z8.v) (QV.move rfl) rfl rfl rfl ?_
        obtain ⟨y14, hc15, hm⟩ := bind_inv hm
        refine JL.mv (d := some 32) (MV.call (Lo := []) (Lr := [Asr.of 5 (Enc.int .u8) (z8.v) y6.1, Asr.of 5 (Enc.int .u8) (z5.v) y3.1, Asr.of 40 (Enc.int .u32) (z2.v) [(1 : Int), (1 : Int), (2 : Int), (4 : Int)]]) (F24.spec (z2) (z8) ([(1 : Int), (1 : Int), (2 : Int), (4 : Int)]) (y6.1) _ hc15) rfl Try.func24 rfl rfl rfl [] [0, 1, 2] rfl rfl rfl ⟨(Drv.of 2 rfl), ⟨(Drv.of 0 rfl), trivial⟩⟩) rfl rfl rfl ?_
        rintro _ _ ⟨_, ⟨rfl, rfl⟩, rfl⟩
        refine JL.val (v := .bool (decide (y14 = (16 : Int)))) (QV.eql rfl rfl) rfl rfl rfl ?_
        refine JL.val (v := .bool (decide (y14 = (16 : Int)))) (QV.pickT rfl rfl) rfl rfl rfl ?_
        refine JL.val (v := .bool (decide (y14 = (16 : Int)))) (QV.assign rfl) rfl rfl rfl ?_
        refine JL.nil ?_
        refine QJ.then_normal ?_
        refine JC.ret ?_
        obtain rfl := Option.some.inj hm
        exact QJ.body (vs := [.bool (decide (y14 = (16 : Int)))]) (.inl rfl) rfl (ResVs.cons (ResV.tmp rfl) ResVs.nil) [] rfl rfl (.inr trivial) ⟨rfl, rfl⟩
      ·
        refine JL.val (v := .bool false) (QV.eq (QV.move rfl) (congrArg Value.bool (decide_eq_false h13))) rfl rfl rfl ?_
        refine JL.skip (d := some 30) rfl rfl rfl ?_
        refine JL.skip (d := some 31) rfl rfl rfl ?_
        refine JL.skip (d := some 32) rfl rfl rfl ?_
        refine JL.skip (d := some 33) rfl rfl rfl ?_
        refine JL.val (v := .bool false) (QV.pickF rfl rfl) rfl rfl rfl ?_
        refine JL.val (v := .bool false) (QV.assign rfl) rfl rfl rfl ?_
        refine JL.nil ?_
        refine QJ.then_normal ?_
        refine JC.ret ?_
        obtain rfl := Option.some.inj hm
        exact QJ.body (vs := [.bool false]) (.inl rfl) rfl (ResVs.cons (ResV.tmp rfl) ResVs.nil) [] rfl rfl (.inr trivial) ⟨rfl, rfl⟩
    ·
      refine JL.val (v := .bool false) (QV.eq (QV.move rfl) (congrArg Value.bool (decide_eq_false h10))) rfl rfl rfl ?_
      refine JL.skip (d := some 24) rfl rfl rfl ?_
      refine JL.skip (d := some 25) rfl rfl rfl ?_
      refine JL.skip (d := some 26) rfl rfl rfl ?_
      refine JL.skip (d := some 27) rfl rfl rfl ?_
      refine JL.val (v := .bool false) (QV.pickF rfl rfl) rfl rfl rfl ?_
      refine JL.val (v := .bool false) (QV.move rfl) rfl rfl rfl ?_
      refine JL.skip (d := some 30) rfl rfl rfl ?_
      refine JL.skip (d := some 31) rfl rfl rfl ?_
      refine JL.skip (d := some 32) rfl rfl rfl ?_
      refine JL.skip (d := some 33) rfl rfl rfl ?_
      refine JL.val (v := .bool false) (QV.pickF rfl rfl) rfl rfl rfl ?_
      refine JL.val (v := .bool false) (QV.assign rfl) rfl rfl rfl ?_
      refine JL.nil ?_
      refine QJ.then_normal ?_
      refine JC.ret ?_
      obtain rfl := Option.some.inj hm
      exact QJ.body (vs := [.bool false]) (.inl rfl) rfl (ResVs.cons (ResV.tmp rfl) ResVs.nil) [] rfl rfl (.inr trivial) ⟨rfl, rfl⟩
  ·
    refine JL.val (v := .bool false) (QV.eq (QV.move rfl) (congrArg Value.bool (decide_eq_false h9))) rfl rfl rfl ?_
    refine JL.skip (d := some 20) rfl rfl rfl ?_
    refine JL.skip (d := some 21) rfl rfl rfl ?_
    refine JL.val (v := .bool false) (QV.pickF rfl rfl) rfl rfl rfl ?_
    refine JL.val (v := .bool false) (QV.move rfl) rfl rfl rfl ?_
    refine JL.skip (d := some 24) rfl rfl rfl ?_
    refine JL.skip (d := some 25) rfl rfl rfl ?_
    refine JL.skip (d := some 26) rfl rfl rfl ?_
    refine JL.skip (d := some 27) rfl rfl rfl ?_
    refine JL.val (v := .bool false) (QV.pickF rfl rfl) rfl rfl rfl ?_
    refine JL.val (v := .bool false) (QV.move rfl) rfl rfl rfl ?_
    refine JL.skip (d := some 30) rfl rfl rfl ?_
    refine JL.skip (d := some 31) rfl rfl rfl ?_
    refine JL.skip (d := some 32) rfl rfl rfl ?_
    refine JL.skip (d := some 33) rfl rfl rfl ?_
    refine JL.val (v := .bool false) (QV.pickF rfl rfl) rfl rfl rfl ?_
    refine JL.val (v := .bool false) (QV.assign rfl) rfl rfl rfl ?_
    refine JL.nil ?_
    refine QJ.then_normal ?_
    refine JC.ret ?_
    obtain rfl := Option.some.inj hm
    exact QJ.body (vs := [.bool false]) (.inl rfl) rfl (ResVs.cons (ResV.tmp rfl) ResVs.nil) [] rfl rfl (.inr trivial) ⟨rfl, rfl⟩

end Go.Proofs.Ytgganckggdjpaaa
