/- Written by gen.py: functions and their contracts. -/
import Derived.Test.YtpophpendlnehaaHuf
namespace Go.Proofs.Ytpophpendlnehaa
open Go Go.Eng Go.Proofs
set_option linter.unusedVariables false
set_option linter.unusedSimpArgs false
/-! ### 67: drogher/drogherref09.many -/
noncomputable def F67.j1  (d5 : Int) : Option Int :=
  some d5
noncomputable def F67.j2 (d7 : Int) (d16 : Int) : Option ((Int × Int) ⊕ Int) :=
  some (.inl (d16, (IntKind.wrap .i64 (d7 + (1 : Int)))))
noncomputable def F67.b1 (x2 : List Int) (x3 : Int) : (Int × Int) → Option ((Int × Int) ⊕ Int)
  | (d6, d7) => (if d7 < ((x2).length : Int) then (if 0 ≤ d7 ∧ d7 < ((x2).length : Int) then (if (IntKind.wrap .i64 (gd x2 d7)) = x3 then F67.j2 d7 ((IntKind.wrap .i64 (d6 + (1 : Int)))) else F67.j2 d7 (d6)) else none) else some (.inr d6))
noncomputable def F67.m (x2 : List Int) (x3 : Int) : Option Int :=
  ((loop (F67.b1 x2 x3) ((0 : Int), (0 : Int))).bind fun y => match y with | d5 => F67.j1 (d5))
set_option maxRecDepth 100000 in
set_option maxHeartbeats 4000000 in
theorem F67.spec (s1 : SlV) (x2 : List Int) (x3 : Int) (r : Int) (hm : F67.m x2 x3 = some r) :
    Ctr Try.prog false 67 [s1.v, .int .i64 x3] [Asr.vw (Enc.int .u8) (s1.v) x2] (fun v L' => v = .int .i64 r ∧ L' = []) := by
  refine Ctr.intro (n := 23) (env := [(0, s1.v), (1, .int .i64 x3)]) Try.func67 rfl rfl rfl rfl (fun c => ?_)
  unfold F67.m at hm
  refine JC.seq ?_
  refine JC.region ?_
  refine JL.val (v := .int .i64 (0 : Int)) (QV.assign rfl) rfl rfl rfl ?_
  refine JL.nil ?_
  refine QJ.then_normal ?_
  refine JC.seq ?_
  refine JC.region ?_
  refine JL.val (v := .int .i64 (0 : Int)) (QV.assign rfl) rfl rfl rfl ?_
  refine JL.nil ?_
  refine QJ.then_normal ?_
  refine JC.seq ?_
  refine JC.seq ?_
  refine JC.region ?_
  refine JL.val (v := s1.v) (QV.move rfl) rfl rfl rfl ?_
  refine JL.val (v := .int .i64 ((x2).length : Int)) (QV.len (Rdg.vw 0 rfl) Try.underlying26 rfl) rfl rfl rfl ?_
  refine JL.val (v := .int .i64 (0 : Int)) (QV.move rfl) rfl rfl rfl ?_
  refine JL.nil ?_
  refine QJ.then_normal ?_
  refine JC.cutK (Y := Int × Unit) (fun y => match y with | (d5, _) => F67.j1 (d5) = some r) (fun y => match y with | (d5, _) => [(5, .int .i64 d5)]) (fun y => match y with | (d5, _) => []) ?_ ?_
  ·
    rintro ⟨d5, ⟨⟩⟩ hm
    unfold F67.j1 at hm
    show QJ _ _ [(5, .int .i64 d5)] [] _ _
    refine QJ.then_normal ?_
    refine JC.seq ?_
    refine JC.region ?_
    refine JL.val (v := .int .i64 d5) (QV.move rfl) rfl rfl rfl ?_
    refine JL.val (v := .int .i64 d5) (QV.assign rfl) rfl rfl rfl ?_
    refine JL.nil ?_
    refine QJ.then_normal ?_
    refine JC.ret ?_
    obtain rfl := Option.some.inj hm
    exact QJ.body (vs := [.int .i64 d5]) (.inl rfl) rfl (ResVs.cons (ResV.tmp rfl) ResVs.nil) [] rfl rfl (.inr trivial) ⟨rfl, rfl⟩
  ·
    refine JC.block ?_
    obtain ⟨y10, hl11, hmo12⟩ := bind_inv hm
    refine JC.loop (F67.b1 x2 x3) (fun x z => match x, z with | (d6, d7), _ => [(0, s1.v), (1, .int .i64 x3), (5, .int .i64 d6), (8, .int .i64 ((x2).length : Int)), (9, .int .i64 d7)]) (fun x z => match x, z with | (d6, d7), _ => [Asr.vw (Enc.int .u8) (s1.v) x2]) ((0 : Int), (0 : Int)) () y10 hl11 [0] (by exact ⟨rfl, rfl, rfl, rfl, rfl, trivial⟩) rfl rfl ?_
    rintro ⟨d6, d7⟩ ⟨⟩ s13 hm
    unfold F67.b1 at hm
    dsimp only at hm
    show JC _ _ _ [(0, s1.v), (1, .int .i64 x3), (5, .int .i64 d6), (8, .int .i64 ((x2).length : Int)), (9, .int .i64 d7)] [Asr.vw (Enc.int .u8) (s1.v) x2] _ _
    refine JC.seq ?_
    refine JC.region ?_
    refine JL.val (v := .bool (decide (d7 < ((x2).length : Int)))) (QV.lss rfl rfl) rfl rfl rfl ?_
    refine JL.nil ?_
    refine QJ.then_normal ?_
    refine JC.seq ?_
    rcases ite_inv hm with ⟨h14, hm⟩ | ⟨h14, hm⟩
    ·
      refine JC.condT' rfl (decide_eq_true h14) ?_
      refine JC.skip ?_
      refine QJ.then_normal ?_
      refine JC.seq ?_
      refine JC.block ?_
      refine JC.seq ?_
      refine JC.region ?_
      refine JL.val (v := .int .i64 d7) (QV.move rfl) rfl rfl rfl ?_
      refine JL.val (v := .int .i64 d7) (QV.assign rfl) rfl rfl rfl ?_
      refine JL.nil ?_
      refine QJ.then_normal ?_
      refine JC.seq ?_
      refine JC.region ?_
      refine JL.val (v := s1.v) (QV.move rfl) rfl rfl rfl ?_
      refine JL.val (v := .int .i64 d7) (QV.move rfl) rfl rfl rfl ?_
      obtain ⟨h15, hm⟩ := guard_inv hm
      refine JL.val (v := .pointer (some (elA (s1.v) (Int.toNat d7 * ((Enc.int .u8)).sz)))) (QV.indexA (Rdg.vw 0 rfl) Try.underlying26 tk_5 rfl rfl h15) rfl rfl rfl ?_
      refine JL.val (v := .int .u8 (gd x2 d7)) (QV.el1 (Rdg.vw 0 rfl) tk_5 rfl h15 rfl) rfl rfl rfl ?_
      refine JL.val (v := .int .i64 (IntKind.wrap .i64 (gd x2 d7))) (QV.conv rfl (by rw [Try.underlying5]; rfl) Try.underlying3) rfl rfl rfl ?_
      refine JL.val (v := .int .i64 x3) (QV.move rfl) rfl rfl rfl ?_
      refine JL.val (v := .bool (decide ((IntKind.wrap .i64 (gd x2 d7)) = x3))) (QV.eql rfl rfl) rfl rfl rfl ?_
      refine JL.nil ?_
      refine QJ.then_normal ?_
      refine JC.cutK (Y := Int × Unit) (fun y => match y with | (d16, _) => F67.j2 d7 (d16) = some s13) (fun y => match y with | (d16, _) => [(0, s1.v), (1, .int .i64 x3), (5, .int .i64 d16), (8, .int .i64 ((x2).length : Int)), (9, .int .i64 d7)]) (fun y => match y with | (d16, _) => [Asr.vw (Enc.int .u8) (s1.v) x2]) ?_ ?_
      ·
        rintro ⟨d16, ⟨⟩⟩ hm
        unfold F67.j2 at hm
        show QJ _ _ [(0, s1.v), (1, .int .i64 x3), (5, .int .i64 d16), (8, .int .i64 ((x2).length : Int)), (9, .int .i64 d7)] [Asr.vw (Enc.int .u8) (s1.v) x2] _ _
        refine QJ.block_normal ?_
        refine QJ.then_normal ?_
        refine JC.region ?_
        refine JL.val (v := .int .i64 (IntKind.wrap .i64 (d7 + (1 : Int)))) (QV.add rfl rfl) rfl rfl rfl ?_
        refine JL.val (v := .int .i64 (IntKind.wrap .i64 (d7 + (1 : Int)))) (QV.move rfl) rfl rfl rfl ?_
        refine JL.nil ?_
        obtain rfl := Option.some.inj hm
        exact QJ.round_on (d16, (IntKind.wrap .i64 (d7 + (1 : Int)))) () [0] (by exact ⟨rfl, rfl, rfl, rfl, rfl, trivial⟩) rfl rfl
      ·
        rcases ite_inv hm with ⟨h17, hm⟩ | ⟨h17, hm⟩
        ·
          refine JC.condT' rfl (decide_eq_true h17) ?_
          refine JC.region ?_
          refine JL.val (v := .int .i64 d6) (QV.move rfl) rfl rfl rfl ?_
          refine JL.val (v := .int .i64 (IntKind.wrap .i64 (d6 + (1 : Int)))) (QV.add rfl rfl) rfl rfl rfl ?_
          refine JL.val (v := .int .i64 (IntKind.wrap .i64 (d6 + (1 : Int)))) (QV.assign rfl) rfl rfl rfl ?_
          refine JL.nil ?_
          exact QJ.cut_normal ((IntKind.wrap .i64 (d6 + (1 : Int))), ()) hm [0] (by exact ⟨rfl, rfl, rfl, rfl, rfl, trivial⟩) rfl rfl
        ·
          refine JC.condF' rfl (decide_eq_false h17) ?_
          refine JC.skip ?_
          exact QJ.cut_normal (d6, ()) hm [0] (by exact ⟨rfl, rfl, rfl, rfl, rfl, trivial⟩) rfl rfl
    ·
      refine JC.condF' rfl (decide_eq_false h14) ?_
      refine JC.exit ?_
      refine QJ.then_exit ?_
      obtain rfl := Option.some.inj hm
      refine QJ.round_exit (fun hy => ?_)
      subst hy
      refine QJ.block_hit ?_
      exact QJ.cut_normal (d6, ()) hmo12 [] (by exact ⟨rfl, trivial⟩) rfl rfl

/-! ### 52: drogher/drogherref09.Codes -/
noncomputable def F52.j1  (d7 : List Int) : Option (List Int) :=
  some d7
noncomputable def F52.j2 (d10 : Int) (d19 : List Int) (d20 : Int) : Option ((List Int × Int × Int) ⊕ (List Int)) :=
  some (.inl (d19, d20, (IntKind.wrap .i64 (d10 + (1 : Int)))))
noncomputable def F52.j4 (d10 : Int) (d21 : Int) (d22 : List Int) : Option ((List Int × Int × Int) ⊕ (List Int)) :=
  F52.j2 d10 (d22) (d21)
noncomputable def F52.j5 (d25 : Int) (d35 : List Int) (d36 : Int) : Option ((List Int × Int × Int) ⊕ (List Int)) :=
  some (.inl (d35, d36, (IntKind.wrap .i64 (d25 + (1 : Int)))))
noncomputable def F52.b2 (x2 : List Int) (d10 : Int) : (List Int × Int × Int) → Option ((List Int × Int × Int) ⊕ (List Int))
  | (d23, d24, d25) => (if d25 < ((x2).length : Int) then (if 0 ≤ d25 ∧ d25 < ((x2).length : Int) then (if (IntKind.wrap .i64 (gd x2 d25)) = d10 then (if 0 ≤ d25 ∧ d25 < ((d23).length : Int) then F52.j5 d25 ((List.set d23 (Int.toNat d25) (IntKind.wrap .u16 d24))) ((IntKind.wrap .i64 (d24 + (1 : Int)))) else none) else F52.j5 d25 (d23) (d24)) else none) else some (.inr d23))
noncomputable def F52.j3 (x2 : List Int) (d8 : List Int) (d10 : Int) (d21 : Int) : Option ((List Int × Int × Int) ⊕ (List Int)) :=
  ((loop (F52.b2 x2 d10) (d8, d21, (0 : Int))).bind fun y => match y with | d22 => F52.j4 d10 d21 (d22))
noncomputable def F52.b1 (x2 : List Int) : (List Int × Int × Int) → Option ((List Int × Int × Int) ⊕ (List Int))
  | (d8, d9, d10) => (if d10 ≤ (15 : Int) then (if (1 : Int) < d10 then ((F67.m (x2) ((IntKind.wrap .i64 (d10 - (1 : Int))))).bind fun y40 => F52.j3 x2 d8 d10 ((IntKind.wrap .i64 ((2 : Int) * (IntKind.wrap .i64 (d9 + y40)))))) else F52.j3 x2 d8 d10 (d9)) else some (.inr d8))
noncomputable def F52.m (x2 : List Int) : Option (List Int) :=
  (if 0 ≤ ((x2).length : Int) ∧ ((x2).length : Int) * 2 ≤ 281474976710656 ∧ ((x2).length : Int) ≤ 9223372036854775807 then ((loop (F52.b1 x2) ((List.replicate (Int.toNat ((x2).length : Int)) (0 : Int)), (0 : Int), (1 : Int))).bind fun y => match y with | d7 => F52.j1 (d7)) else none)
set_option maxRecDepth 100000 in
set_option maxHeartbeats 4000000 in
theorem F52.spec (s1 : SlV) (x2 : List Int) (r : (List Int)) (hm : F52.m x2 = some r) :
    Ctr Try.prog false 52 [s1.v] [Asr.vw (Enc.int .u8) (s1.v) x2] (fun v L' => ∃ (g3 : SlV), v = g3.v ∧ L' = [Asr.of 32 (Enc.int .u16) (g3.v) r]) := by
  refine Ctr.intro (n := 46) (env := [(0, s1.v)]) Try.func52 rfl rfl rfl rfl (fun c => ?_)
  unfold F52.m at hm
  refine JC.seq ?_
  refine JC.region ?_
  refine JL.ent (fun _ hs => hs.nil 32 (Enc.int .u16)) ?_
  refine JL.val (v := SlV.nil.v) (QV.assign rfl) rfl rfl rfl ?_
  refine JL.nil ?_
  refine QJ.then_normal ?_
  refine JC.seq ?_
  refine JC.region ?_
  refine JL.val (v := s1.v) (QV.move rfl) rfl rfl rfl ?_
  refine JL.val (v := .int .i64 ((x2).length : Int)) (QV.len (Rdg.vw 1 rfl) Try.underlying26 rfl) rfl rfl rfl ?_
  obtain ⟨h5, hm⟩ := guard_inv hm
  refine JL.mv (d := some 10) (MV.make (E := (Enc.int .u16)) (0 : Int) Try.underlying63 zi_32 (by decide) rfl rfl rfl h5) rfl rfl rfl ?_
  rintro _ _ ⟨z6, rfl, rfl⟩
  refine JL.val (v := z6.v) (QV.assign rfl) rfl rfl rfl ?_
  refine JL.nil ?_
  refine QJ.then_normal ?_
  refine JC.seq ?_
  refine JC.region ?_
  refine JL.val (v := .int .i64 (0 : Int)) (QV.assign rfl) rfl rfl rfl ?_
  refine JL.nil ?_
  refine QJ.then_normal ?_
  refine JC.seq ?_
  refine JC.seq ?_
  refine JC.region ?_
  refine JL.val (v := .int .i64 (1 : Int)) (QV.assign rfl) rfl rfl rfl ?_
  refine JL.nil ?_
  refine QJ.then_normal ?_
  refine JC.cutK (Y := (List Int) × Unit) (fun y => match y with | (d7, _) => F52.j1 (d7) = some r) (fun y => match y with | (d7, _) => [(3, z6.v)]) (fun y => match y with | (d7, _) => [Asr.of 32 (Enc.int .u16) (z6.v) d7]) ?_ ?_
  ·
    rintro ⟨d7, ⟨⟩⟩ hm
    unfold F52.j1 at hm
    show QJ _ _ [(3, z6.v)] [Asr.of 32 (Enc.int .u16) (z6.v) d7] _ _
    refine QJ.then_normal ?_
    refine JC.seq ?_
    refine JC.region ?_
    refine JL.val (v := z6.v) (QV.move rfl) rfl rfl rfl ?_
    refine JL.val (v := z6.v) (QV.assign rfl) rfl rfl rfl ?_
    refine JL.nil ?_
    refine QJ.then_normal ?_
    refine JC.ret ?_
    obtain rfl := Option.some.inj hm
    exact QJ.body (vs := [z6.v]) (.inl rfl) rfl (ResVs.cons (ResV.tmp rfl) ResVs.nil) [0] rfl rfl (.inr ⟨own_of _ _ _ _, trivial⟩) ⟨z6, rfl, rfl⟩
  ·
    refine JC.block ?_
    obtain ⟨y14, hl15, hmo16⟩ := bind_inv hm
    refine JC.loop (F52.b1 x2) (fun x z => match x, z with | (d8, d9, d10), _ => [(0, s1.v), (3, z6.v), (4, .int .i64 d9), (5, .int .i64 d10)]) (fun x z => match x, z with | (d8, d9, d10), _ => [Asr.vw (Enc.int .u8) (s1.v) x2, Asr.of 32 (Enc.int .u16) (z6.v) d8]) ((List.replicate (Int.toNat ((x2).length : Int)) (0 : Int)), (0 : Int), (1 : Int)) () y14 hl15 [2, 0] (by exact ⟨rfl, rfl, rfl, rfl, trivial⟩) rfl rfl ?_
    rintro ⟨d8, d9, d10⟩ ⟨⟩ s17 hm
    unfold F52.b1 at hm
    dsimp only at hm
    show JC _ _ _ [(0, s1.v), (3, z6.v), (4, .int .i64 d9), (5, .int .i64 d10)] [Asr.vw (Enc.int .u8) (s1.v) x2, Asr.of 32 (Enc.int .u16) (z6.v) d8] _ _
    refine JC.seq ?_
    refine JC.seq ?_
    refine JC.region ?_
    refine JL.val (v := .int .i64 d10) (QV.move rfl) rfl rfl rfl ?_
    refine JL.val (v := .bool (decide (d10 ≤ (15 : Int)))) (QV.leq rfl rfl) rfl rfl rfl ?_
    refine JL.nil ?_
    refine QJ.then_normal ?_
    rcases ite_inv hm with ⟨h18, hm⟩ | ⟨h18, hm⟩
    ·
      refine JC.condT' rfl (decide_eq_true h18) ?_
      refine JC.skip ?_
      refine QJ.then_normal ?_
      refine JC.seq ?_
      refine JC.cutK (Y := (List Int × Int) × Unit) (fun y => match y with | ((d19, d20), _) => F52.j2 d10 (d19) (d20) = some s17) (fun y => match y with | ((d19, d20), _) => [(0, s1.v), (3, z6.v), (4, .int .i64 d20), (5, .int .i64 d10)]) (fun y => match y with | ((d19, d20), _) => [Asr.vw (Enc.int .u8) (s1.v) x2, Asr.of 32 (Enc.int .u16) (z6.v) d19]) ?_ ?_
      ·
        rintro ⟨⟨d19, d20⟩, ⟨⟩⟩ hm
        unfold F52.j2 at hm
        show QJ _ _ [(0, s1.v), (3, z6.v), (4, .int .i64 d20), (5, .int .i64 d10)] [Asr.vw (Enc.int .u8) (s1.v) x2, Asr.of 32 (Enc.int .u16) (z6.v) d19] _ _
        refine QJ.then_normal ?_
        refine JC.region ?_
        refine JL.val (v := .int .i64 d10) (QV.move rfl) rfl rfl rfl ?_
        refine JL.val (v := .int .i64 (IntKind.wrap .i64 (d10 + (1 : Int)))) (QV.add rfl rfl) rfl rfl rfl ?_
        refine JL.val (v := .int .i64 (IntKind.wrap .i64 (d10 + (1 : Int)))) (QV.assign rfl) rfl rfl rfl ?_
        refine JL.nil ?_
        obtain rfl := Option.some.inj hm
        exact QJ.round_on (d19, d20, (IntKind.wrap .i64 (d10 + (1 : Int)))) () [0, 1] (by exact ⟨rfl, rfl, rfl, rfl, trivial⟩) rfl rfl
      ·
        refine JC.block ?_
        refine JC.seq ?_
        refine JC.seq ?_
        refine JC.region ?_
        refine JL.val (v := .int .i64 d10) (QV.move rfl) rfl rfl rfl ?_
        refine JL.val (v := .bool (decide ((1 : Int) < d10))) (QV.gtr rfl rfl) rfl rfl rfl ?_
        refine JL.nil ?_
        refine QJ.then_normal ?_
        refine JC.cutK (Y := Int × Unit) (fun y => match y with | (d21, _) => F52.j3 x2 d8 d10 (d21) = some s17) (fun y => match y with | (d21, _) => [(0, s1.v), (3, z6.v), (4, .int .i64 d21), (5, .int .i64 d10)]) (fun y => match y with | (d21, _) => [Asr.vw (Enc.int .u8) (s1.v) x2, Asr.of 32 (Enc.int .u16) (z6.v) d8]) ?_ ?_
        ·
          rintro ⟨d21, ⟨⟩⟩ hm
          unfold F52.j3 at hm
          show QJ _ _ [(0, s1.v), (3, z6.v), (4, .int .i64 d21), (5, .int .i64 d10)] [Asr.vw (Enc.int .u8) (s1.v) x2, Asr.of 32 (Enc.int .u16) (z6.v) d8] _ _
          refine QJ.then_normal ?_
          refine JC.seq ?_
          refine JC.region ?_
          refine JL.val (v := .int .i64 d21) (QV.move rfl) rfl rfl rfl ?_
          refine JL.val (v := .int .i64 d21) (QV.assign rfl) rfl rfl rfl ?_
          refine JL.nil ?_
          refine QJ.then_normal ?_
          refine JC.seq ?_
          refine JC.region ?_
          refine JL.val (v := s1.v) (QV.move rfl) rfl rfl rfl ?_
          refine JL.val (v := .int .i64 ((x2).length : Int)) (QV.len (Rdg.vw 0 rfl) Try.underlying26 rfl) rfl rfl rfl ?_
          refine JL.val (v := .int .i64 (0 : Int)) (QV.move rfl) rfl rfl rfl ?_
          refine JL.nil ?_
          refine QJ.then_normal ?_
          refine JC.cutK (Y := (List Int) × Unit) (fun y => match y with | (d22, _) => F52.j4 d10 d21 (d22) = some s17) (fun y => match y with | (d22, _) => [(0, s1.v), (3, z6.v), (4, .int .i64 d21), (5, .int .i64 d10)]) (fun y => match y with | (d22, _) => [Asr.vw (Enc.int .u8) (s1.v) x2, Asr.of 32 (Enc.int .u16) (z6.v) d22]) ?_ ?_
          ·
            rintro ⟨d22, ⟨⟩⟩ hm
            unfold F52.j4 at hm
            show QJ _ _ [(0, s1.v), (3, z6.v), (4, .int .i64 d21), (5, .int .i64 d10)] [Asr.vw (Enc.int .u8) (s1.v) x2, Asr.of 32 (Enc.int .u16) (z6.v) d22] _ _
            refine QJ.block_normal ?_
            exact QJ.cut_normal ((d22, d21), ()) hm [0, 1] (by exact ⟨rfl, rfl, rfl, rfl, trivial⟩) rfl rfl
          ·
            refine JC.block ?_
            obtain ⟨y29, hl30, hmo31⟩ := bind_inv hm
            refine JC.loop (F52.b2 x2 d10) (fun x z => match x, z with | (d23, d24, d25), _ => [(0, s1.v), (3, z6.v), (4, .int .i64 d21), (5, .int .i64 d10), (6, .int .i64 d24), (26, .int .i64 ((x2).length : Int)), (27, .int .i64 d25)]) (fun x z => match x, z with | (d23, d24, d25), _ => [Asr.vw (Enc.int .u8) (s1.v) x2, Asr.of 32 (Enc.int .u16) (z6.v) d23]) (d8, d21, (0 : Int)) () y29 hl30 [0, 1] (by exact ⟨rfl, rfl, rfl, rfl, rfl, rfl, rfl, trivial⟩) rfl rfl ?_
            rintro ⟨d23, d24, d25⟩ ⟨⟩ s32 hm
            unfold F52.b2 at hm
            dsimp only at hm
            show JC _ _ _ [(0, s1.v), (3, z6.v), (4, .int .i64 d21), (5, .int .i64 d10), (6, .int .i64 d24), (26, .int .i64 ((x2).length : Int)), (27, .int .i64 d25)] [Asr.vw (Enc.int .u8) (s1.v) x2, Asr.of 32 (Enc.int .u16) (z6.v) d23] _ _
            refine JC.seq ?_
            refine JC.region ?_
            refine JL.val (v := .bool (decide (d25 < ((x2).length : Int)))) (QV.lss rfl rfl) rfl rfl rfl ?_
            refine JL.nil ?_
            refine QJ.then_normal ?_
            refine JC.seq ?_
            rcases ite_inv hm with ⟨h33, hm⟩ | ⟨h33, hm⟩
            ·
              refine JC.condT' rfl (decide_eq_true h33) ?_
              refine JC.skip ?_
              refine QJ.then_normal ?_
              refine JC.seq ?_
              refine JC.block ?_
              refine JC.seq ?_
              refine JC.region ?_
              refine JL.val (v := .int .i64 d25) (QV.move rfl) rfl rfl rfl ?_
              refine JL.val (v := .int .i64 d25) (QV.assign rfl) rfl rfl rfl ?_
              refine JL.nil ?_
              refine QJ.then_normal ?_
              refine JC.seq ?_
              refine JC.region ?_
              refine JL.val (v := s1.v) (QV.move rfl) rfl rfl rfl ?_
              refine JL.val (v := .int .i64 d25) (QV.move rfl) rfl rfl rfl ?_
              obtain ⟨h34, hm⟩ := guard_inv hm
              refine JL.val (v := .pointer (some (elA (s1.v) (Int.toNat d25 * ((Enc.int .u8)).sz)))) (QV.indexA (Rdg.vw 0 rfl) Try.underlying26 tk_5 rfl rfl h34) rfl rfl rfl ?_
              refine JL.val (v := .int .u8 (gd x2 d25)) (QV.el1 (Rdg.vw 0 rfl) tk_5 rfl h34 rfl) rfl rfl rfl ?_
              refine JL.val (v := .int .i64 (IntKind.wrap .i64 (gd x2 d25))) (QV.conv rfl (by rw [Try.underlying5]; rfl) Try.underlying3) rfl rfl rfl ?_
              refine JL.val (v := .int .i64 d10) (QV.move rfl) rfl rfl rfl ?_
              refine JL.val (v := .bool (decide ((IntKind.wrap .i64 (gd x2 d25)) = d10))) (QV.eql rfl rfl) rfl rfl rfl ?_
              refine JL.nil ?_
              refine QJ.then_normal ?_
              refine JC.cutK (Y := (List Int × Int) × Unit) (fun y => match y with | ((d35, d36), _) => F52.j5 d25 (d35) (d36) = some s32) (fun y => match y with | ((d35, d36), _) => [(0, s1.v), (3, z6.v), (4, .int .i64 d21), (5, .int .i64 d10), (6, .int .i64 d36), (26, .int .i64 ((x2).length : Int)), (27, .int .i64 d25)]) (fun y => match y with | ((d35, d36), _) => [Asr.vw (Enc.int .u8) (s1.v) x2, Asr.of 32 (Enc.int .u16) (z6.v) d35]) ?_ ?_
              ·
                rintro ⟨⟨d35, d36⟩, ⟨⟩⟩ hm
                unfold F52.j5 at hm
                show QJ _ _ [(0, s1.v), (3, z6.v), (4, .int .i64 d21), (5, .int .i64 d10), (6, .int .i64 d36), (26, .int .i64 ((x2).length : Int)), (27, .int .i64 d25)] [Asr.vw (Enc.int .u8) (s1.v) x2, Asr.of 32 (Enc.int .u16) (z6.v) d35] _ _
                refine QJ.block_normal ?_
                refine QJ.then_normal ?_
                refine JC.region ?_
                refine JL.val (v := .int .i64 (IntKind.wrap .i64 (d25 + (1 : Int)))) (QV.add rfl rfl) rfl rfl rfl ?_
                refine JL.val (v := .int .i64 (IntKind.wrap .i64 (d25 + (1 : Int)))) (QV.move rfl) rfl rfl rfl ?_
                refine JL.nil ?_
                obtain rfl := Option.some.inj hm
                exact QJ.round_on (d35, d36, (IntKind.wrap .i64 (d25 + (1 : Int)))) () [0, 1] (by exact ⟨rfl, rfl, rfl, rfl, rfl, rfl, rfl, trivial⟩) rfl rfl
              ·
                rcases ite_inv hm with ⟨h37, hm⟩ | ⟨h37, hm⟩
                ·
                  refine JC.condT' rfl (decide_eq_true h37) ?_
                  refine JC.seq ?_
                  refine JC.region ?_
                  refine JL.val (v := z6.v) (QV.move rfl) rfl rfl rfl ?_
                  refine JL.val (v := .int .i64 d25) (QV.move rfl) rfl rfl rfl ?_
                  refine JL.val (v := .int .i64 d24) (QV.move rfl) rfl rfl rfl ?_
                  refine JL.val (v := .int .u16 (IntKind.wrap .u16 d24)) (QV.conv rfl (by rw [Try.underlying3]; rfl) Try.underlying32) rfl rfl rfl ?_
                  obtain ⟨h38, hm⟩ := guard_inv hm
                  refine JL.val (v := .pointer (some (elA (z6.v) (Int.toNat d25 * ((Enc.int .u16)).sz)))) (QV.indexA (Rdg.of 1 rfl) Try.underlying63 tk_32 rfl rfl h38) rfl rfl rfl ?_
                  refine JL.mv (d := none) (MV.storeEl 1 (IntKind.wrap .u16 d24) rfl tk_32 rfl rfl h38 rfl) rfl rfl rfl ?_
                  rintro _ _ ⟨rfl, rfl⟩
                  refine JL.nil ?_
                  refine QJ.then_normal ?_
                  refine JC.region ?_
                  refine JL.val (v := .int .i64 d24) (QV.move rfl) rfl rfl rfl ?_
                  refine JL.val (v := .int .i64 (IntKind.wrap .i64 (d24 + (1 : Int)))) (QV.add rfl rfl) rfl rfl rfl ?_
                  refine JL.val (v := .int .i64 (IntKind.wrap .i64 (d24 + (1 : Int)))) (QV.assign rfl) rfl rfl rfl ?_
                  refine JL.nil ?_
                  exact QJ.cut_normal (((List.set d23 (Int.toNat d25) (IntKind.wrap .u16 d24)), (IntKind.wrap .i64 (d24 + (1 : Int)))), ()) hm [0, 1] (by exact ⟨rfl, rfl, rfl, rfl, rfl, rfl, rfl, trivial⟩) rfl rfl
                ·
                  refine JC.condF' rfl (decide_eq_false h37) ?_
                  refine JC.skip ?_
                  exact QJ.cut_normal ((d23, d24), ()) hm [0, 1] (by exact ⟨rfl, rfl, rfl, rfl, rfl, rfl, rfl, trivial⟩) rfl rfl
            ·
              refine JC.condF' rfl (decide_eq_false h33) ?_
              refine JC.exit ?_
              refine QJ.then_exit ?_
              obtain rfl := Option.some.inj hm
              refine QJ.round_exit (fun hy => ?_)
              subst hy
              refine QJ.block_hit ?_
              exact QJ.cut_normal (d23, ()) hmo31 [0, 1] (by exact ⟨rfl, rfl, rfl, rfl, trivial⟩) rfl rfl
        ·
          rcases ite_inv hm with ⟨h39, hm⟩ | ⟨h39, hm⟩
          ·
            refine JC.condT' rfl (decide_eq_true h39) ?_
            refine JC.region ?_
            refine JL.val (v := .int .i64 d9) (QV.move rfl) rfl rfl rfl ?_
            refine JL.val (v := s1.v) (QV.move rfl) rfl rfl rfl ?_
            refine JL.val (v := .int .i64 d10) (QV.move rfl) rfl rfl rfl ?_
            refine JL.val (v := .int .i64 (IntKind.wrap .i64 (d10 - (1 : Int)))) (QV.sub rfl rfl) rfl rfl rfl ?_
            obtain ⟨y40, hc41, hm⟩ := bind_inv hm
            refine JL.mv (d := some 21) (MV.call (Lo := []) (Lr := [Asr.vw (Enc.int .u8) (s1.v) x2, Asr.of 32 (Enc.int .u16) (z6.v) d8]) (F67.spec (s1) (x2) ((IntKind.wrap .i64 (d10 - (1 : Int)))) _ hc41) rfl Try.func67 rfl rfl rfl [] [0, 1] rfl rfl rfl ⟨(Drv.vw 0 rfl), trivial⟩) rfl rfl rfl ?_
            rintro _ _ ⟨_, ⟨rfl, rfl⟩, rfl⟩
            refine JL.val (v := .int .i64 (IntKind.wrap .i64 (d9 + y40))) (QV.add rfl rfl) rfl rfl rfl ?_
            refine JL.val (v := .int .i64 (IntKind.wrap .i64 ((2 : Int) * (IntKind.wrap .i64 (d9 + y40))))) (QV.mul rfl rfl) rfl rfl rfl ?_
            refine JL.val (v := .int .i64 (IntKind.wrap .i64 ((2 : Int) * (IntKind.wrap .i64 (d9 + y40))))) (QV.assign rfl) rfl rfl rfl ?_
            refine JL.nil ?_
            exact QJ.cut_normal ((IntKind.wrap .i64 ((2 : Int) * (IntKind.wrap .i64 (d9 + y40)))), ()) hm [0, 1] (by exact ⟨rfl, rfl, rfl, rfl, trivial⟩) rfl rfl
          ·
            refine JC.condF' rfl (decide_eq_false h39) ?_
            refine JC.skip ?_
            exact QJ.cut_normal (d9, ()) hm [0, 1] (by exact ⟨rfl, rfl, rfl, rfl, trivial⟩) rfl rfl
    ·
      refine JC.condF' rfl (decide_eq_false h18) ?_
      refine JC.exit ?_
      refine QJ.then_exit ?_
      obtain rfl := Option.some.inj hm
      refine QJ.round_exit (fun hy => ?_)
      subst hy
      refine QJ.block_hit ?_
      exact QJ.cut_normal (d8, ()) hmo16 [1] (by exact ⟨rfl, trivial⟩) rfl rfl

/-! ### 31: drogher/drogherref08.Code -/
noncomputable def F31.j1  (d10 : List Int) : Option (List Int) :=
  some d10
noncomputable def F31.b1 (y5 : (List Int)) : (List Int × Int) → Option ((List Int × Int) ⊕ (List Int))
  | (d12, d13) => (if (0 : Int) ≤ d13 then (if 0 ≤ d13 ∧ d13 < ((y5).length : Int) then (if ((d12).length + ([(gd y5 d13)]).length) * 1 ≤ 140737488355328 ∧ (d12).length + ([(gd y5 d13)]).length ≤ 9223372036854775807 then some (.inl ((d12 ++ [(gd y5 d13)]), (IntKind.wrap .i64 (d13 - (1 : Int))))) else none) else none) else some (.inr d12))
noncomputable def F31.m (x1 : Int) (x2 : Int) : Option (List Int) :=
  ((F29.m (x1) (x2)).bind fun y5 => ((loop (F31.b1 y5) (([] : List Int), (IntKind.wrap .i64 (((y5).length : Int) - (1 : Int))))).bind fun y => match y with | d10 => F31.j1 (d10)))
set_option maxRecDepth 100000 in
set_option maxHeartbeats 4000000 in
theorem F31.spec (x1 : Int) (x2 : Int) (r : (List Int)) (hm : F31.m x1 x2 = some r) :
    Ctr Try.prog false 31 [.int .u32 x1, .int .i64 x2] [] (fun v L' => ∃ (g3 : SlV), v = g3.v ∧ L' = [Asr.of 5 (Enc.int .u8) (g3.v) r]) := by
  refine Ctr.intro (n := 27) (env := [(0, .int .u32 x1), (1, .int .i64 x2)]) Try.func31 rfl rfl rfl rfl (fun c => ?_)
  unfold F31.m at hm
  refine JC.seq ?_
  refine JC.region ?_
  refine JL.ent (fun _ hs => hs.nil 5 (Enc.int .u8)) ?_
  refine JL.val (v := SlV.nil.v) (QV.assign rfl) rfl rfl rfl ?_
  refine JL.nil ?_
  refine QJ.then_normal ?_
  refine JC.seq ?_
  refine JC.region ?_
  refine JL.val (v := .int .u32 x1) (QV.move rfl) rfl rfl rfl ?_
  refine JL.val (v := .int .i64 x2) (QV.move rfl) rfl rfl rfl ?_
  obtain ⟨y5, hc6, hm⟩ := bind_inv hm
  refine JL.mv (d := some 10) (MV.call (Lo := []) (Lr := [Asr.of 5 (Enc.int .u8) (SlV.nil.v) ([] : List Int)]) (F29.spec (x1) (x2) _ hc6) rfl Try.func29 rfl rfl rfl [] [0] rfl rfl rfl trivial) rfl rfl rfl ?_
  rintro _ _ ⟨_, ⟨z7, rfl, rfl⟩, rfl⟩
  refine JL.val (v := z7.v) (QV.assign rfl) rfl rfl rfl ?_
  refine JL.nil ?_
  refine QJ.then_normal ?_
  refine JC.seq ?_
  refine JC.region ?_
  refine JL.mv (d := some 11) (MV.lit0 (Enc.int .u8) Try.underlying26 (by kernel_rfl)) rfl rfl rfl ?_
  rintro _ _ ⟨z8, rfl, rfl⟩
  refine JL.val (v := z8.v) (QV.assign rfl) rfl rfl rfl ?_
  refine JL.nil ?_
  refine QJ.then_normal ?_
  refine JC.seq ?_
  refine JC.seq ?_
  refine JC.region ?_
  refine JL.val (v := z7.v) (QV.move rfl) rfl rfl rfl ?_
  refine JL.val (v := .int .i64 ((y5).length : Int)) (QV.len (Rdg.of 1 rfl) Try.underlying26 rfl) rfl rfl rfl ?_
  refine JL.val (v := .int .i64 (IntKind.wrap .i64 (((y5).length : Int) - (1 : Int)))) (QV.sub rfl rfl) rfl rfl rfl ?_
  refine JL.val (v := .int .i64 (IntKind.wrap .i64 (((y5).length : Int) - (1 : Int)))) (QV.assign rfl) rfl rfl rfl ?_
  refine JL.nil ?_
  refine QJ.then_normal ?_
  refine JC.cutK (Y := (List Int) × SlV) (fun y => match y with | (d10, _) => F31.j1 (d10) = some r) (fun y => match y with | (d10, z9) => [(6, z9.v)]) (fun y => match y with | (d10, z9) => [Asr.of 5 (Enc.int .u8) (z9.v) d10]) ?_ ?_
  ·
    rintro ⟨d10, z9⟩ hm
    unfold F31.j1 at hm
    show QJ _ _ [(6, z9.v)] [Asr.of 5 (Enc.int .u8) (z9.v) d10] _ _
    refine QJ.then_normal ?_
    refine JC.seq ?_
    refine JC.region ?_
    refine JL.val (v := z9.v) (QV.move rfl) rfl rfl rfl ?_
    refine JL.val (v := z9.v) (QV.assign rfl) rfl rfl rfl ?_
    refine JL.nil ?_
    refine QJ.then_normal ?_
    refine JC.ret ?_
    obtain rfl := Option.some.inj hm
    exact QJ.body (vs := [z9.v]) (.inl rfl) rfl (ResVs.cons (ResV.tmp rfl) ResVs.nil) [0] rfl rfl (.inr ⟨own_of _ _ _ _, trivial⟩) ⟨z9, rfl, rfl⟩
  ·
    refine JC.block ?_
    obtain ⟨y17, hl18, hmo19⟩ := bind_inv hm
    refine JC.loop (F31.b1 y5) (fun x z => match x, z with | (d12, d13), z11 => [(5, z7.v), (6, z11.v), (7, .int .i64 d13)]) (fun x z => match x, z with | (d12, d13), z11 => [Asr.of 5 (Enc.int .u8) (z7.v) y5, Asr.of 5 (Enc.int .u8) (z11.v) d12]) (([] : List Int), (IntKind.wrap .i64 (((y5).length : Int) - (1 : Int)))) z8 y17 hl18 [1, 0] (by exact ⟨rfl, rfl, rfl, trivial⟩) rfl rfl ?_
    rintro ⟨d12, d13⟩ z11 s20 hm
    unfold F31.b1 at hm
    dsimp only at hm
    show JC _ _ _ [(5, z7.v), (6, z11.v), (7, .int .i64 d13)] [Asr.of 5 (Enc.int .u8) (z7.v) y5, Asr.of 5 (Enc.int .u8) (z11.v) d12] _ _
    refine JC.seq ?_
    refine JC.seq ?_
    refine JC.region ?_
    refine JL.val (v := .int .i64 d13) (QV.move rfl) rfl rfl rfl ?_
    refine JL.val (v := .bool (decide ((0 : Int) ≤ d13))) (QV.geq rfl rfl) rfl rfl rfl ?_
    refine JL.nil ?_
    refine QJ.then_normal ?_
    rcases ite_inv hm with ⟨h21, hm⟩ | ⟨h21, hm⟩
    ·
      refine JC.condT' rfl (decide_eq_true h21) ?_
      refine JC.skip ?_
      refine QJ.then_normal ?_
      refine JC.seq ?_
      refine JC.block ?_
      refine JC.region ?_
      refine JL.val (v := z11.v) (QV.move rfl) rfl rfl rfl ?_
      refine JL.val (v := z7.v) (QV.move rfl) rfl rfl rfl ?_
      refine JL.val (v := .int .i64 d13) (QV.move rfl) rfl rfl rfl ?_
      obtain ⟨h22, hm⟩ := guard_inv hm
      refine JL.val (v := .pointer (some (elA (z7.v) (Int.toNat d13 * ((Enc.int .u8)).sz)))) (QV.indexA (Rdg.of 0 rfl) Try.underlying26 tk_5 rfl rfl h22) rfl rfl rfl ?_
      refine JL.val (v := .int .u8 (gd y5 d13)) (QV.el1 (Rdg.of 0 rfl) tk_5 rfl h22 rfl) rfl rfl rfl ?_
      refine JL.mv (d := some 24) (MV.lit (E := (Enc.int .u8)) (vals := [(0, .int .u8 (gd y5 d13))]) [(gd y5 d13)] Try.underlying26 zi_5 rfl (by decide) rfl (by kernel_rfl)) rfl rfl rfl ?_
      rintro _ _ ⟨z23, rfl, rfl⟩
      obtain ⟨h24, hm⟩ := guard_inv hm
      refine JL.mv (d := some 25) (MV.append 2 rfl (Rdg.of 0 rfl) Try.underlying26 zi_5 rfl (by decide) rfl rfl h24) rfl rfl rfl ?_
      rintro _ _ ⟨z25, rfl, rfl⟩
      refine JL.val (v := z25.v) (QV.assign rfl) rfl rfl rfl ?_
      refine JL.nil ?_
      refine QJ.block_normal ?_
      refine QJ.then_normal ?_
      refine JC.region ?_
      refine JL.val (v := .int .i64 d13) (QV.move rfl) rfl rfl rfl ?_
      refine JL.val (v := .int .i64 (IntKind.wrap .i64 (d13 - (1 : Int)))) (QV.sub rfl rfl) rfl rfl rfl ?_
      refine JL.val (v := .int .i64 (IntKind.wrap .i64 (d13 - (1 : Int)))) (QV.assign rfl) rfl rfl rfl ?_
      refine JL.nil ?_
      obtain rfl := Option.some.inj hm
      exact QJ.round_on ((d12 ++ [(gd y5 d13)]), (IntKind.wrap .i64 (d13 - (1 : Int)))) z25 [1, 2] (by exact ⟨rfl, rfl, rfl, trivial⟩) rfl rfl
    ·
      refine JC.condF' rfl (decide_eq_false h21) ?_
      refine JC.exit ?_
      refine QJ.then_exit ?_
      obtain rfl := Option.some.inj hm
      refine QJ.round_exit (fun hy => ?_)
      subst hy
      refine QJ.block_hit ?_
      exact QJ.cut_normal (d12, z11) hmo19 [1] (by exact ⟨rfl, trivial⟩) rfl rfl

/-! ### 54: drogher/drogherref09.Next -/
noncomputable def F54.j1  (d10 : Bool) : Option (Int × Int × Int) :=
  (if d10 = true then some ((0 : Int), (0 : Int), (2 : Int)) else some ((0 : Int), (0 : Int), (3 : Int)))
noncomputable def F54.j2 (d13 : Int) (d21 : Bool) : Option ((Bool × Int) ⊕ (((Int × Int × Int)) ⊕ Bool)) :=
  some (.inl (d21, (IntKind.wrap .i64 (d13 + (1 : Int)))))
noncomputable def F54.j3 (x6 : List Int) (d12 : Bool) (d13 : Int) (y25 : (List Int)) (d28 : Bool) : Option ((Bool × Int) ⊕ (((Int × Int × Int)) ⊕ Bool)) :=
  (if d28 = true then (if ((y25).length : Int) ≤ ((x6).length : Int) then some (.inr (.inl ((d13, ((y25).length : Int), (0 : Int))))) else (if d12 = true then F54.j2 d13 (true) else F54.j2 d13 (d28))) else (if d12 = true then F54.j2 d13 (true) else F54.j2 d13 (d28)))
noncomputable def F54.j4 (d34 : Int) (d43 : Bool) : Option ((Bool × Int) ⊕ Bool) :=
  some (.inl (d43, (IntKind.wrap .i64 (d34 + (1 : Int)))))
noncomputable def F54.b2 (x6 : List Int) (y25 : (List Int)) : (Bool × Int) → Option ((Bool × Int) ⊕ Bool)
  | (d33, d34) => (if d34 < ((y25).length : Int) then (if d34 < ((x6).length : Int) then (if d33 = true then (if 0 ≤ d34 ∧ d34 < ((y25).length : Int) then (if 0 ≤ d34 ∧ d34 < ((x6).length : Int) then F54.j4 d34 ((decide ((gd y25 d34) = (gd x6 d34)))) else none) else none) else F54.j4 d34 (false)) else some (.inr d33)) else some (.inr d33))
noncomputable def F54.b1 (x2 : List Int) (x4 : List Int) (x6 : List Int) : (Bool × Int) → Option ((Bool × Int) ⊕ (((Int × Int × Int)) ⊕ Bool))
  | (d12, d13) => (if d13 < ((x2).length : Int) then (if 0 ≤ d13 ∧ d13 < ((x2).length : Int) then (if (gd x2 d13) = (0 : Int) then F54.j2 d13 (d12) else (if 0 ≤ d13 ∧ d13 < ((x4).length : Int) then ((F31.m ((IntKind.wrap .u32 (gd x4 d13))) ((IntKind.wrap .i64 (gd x2 d13)))).bind fun y25 => ((loop (F54.b2 x6 y25) (true, (0 : Int))).bind fun y => match y with | d28 => F54.j3 x6 d12 d13 y25 (d28))) else none)) else none) else some (.inr (.inr (d12))))
noncomputable def F54.m (x2 : List Int) (x4 : List Int) (x6 : List Int) : Option (Int × Int × Int) :=
  ((loop (F54.b1 x2 x4 x6) (false, (0 : Int))).bind fun y => match y with | .inl r => some r | .inr d10 => F54.j1 (d10))
set_option maxRecDepth 100000 in
set_option maxHeartbeats 4000000 in
theorem F54.spec (s1 : SlV) (s3 : SlV) (s5 : SlV) (x2 : List Int) (x4 : List Int) (x6 : List Int) (r : (Int × Int × Int)) (hm : F54.m x2 x4 x6 = some r) :
    Ctr Try.prog false 54 [s1.v, s3.v, s5.v] [Asr.vw (Enc.int .u8) (s1.v) x2, Asr.vw (Enc.int .u16) (s3.v) x4, Asr.vw (Enc.int .u8) (s5.v) x6] (fun v L' => v = .tuple #[.int .i64 r.1, .int .i64 r.2.1, .int .i64 r.2.2] ∧ L' = []) := by
  refine Ctr.intro (n := 76) (env := [(0, s1.v), (1, s3.v), (2, s5.v)]) Try.func54 rfl rfl rfl rfl (fun c => ?_)
  unfold F54.m at hm
  refine JC.seq ?_
  refine JC.region ?_
  refine JL.val (v := .int .i64 (0 : Int)) (QV.assign rfl) rfl rfl rfl ?_
  refine JL.val (v := .int .i64 (0 : Int)) (QV.assign rfl) rfl rfl rfl ?_
  refine JL.val (v := .int .i64 (0 : Int)) (QV.assign rfl) rfl rfl rfl ?_
  refine JL.nil ?_
  refine QJ.then_normal ?_
  refine JC.seq ?_
  refine JC.region ?_
  refine JL.val (v := .bool false) (QV.assign rfl) rfl rfl rfl ?_
  refine JL.nil ?_
  refine QJ.then_normal ?_
  refine JC.seq ?_
  refine JC.seq ?_
  refine JC.region ?_
  refine JL.val (v := s1.v) (QV.move rfl) rfl rfl rfl ?_
  refine JL.val (v := .int .i64 ((x2).length : Int)) (QV.len (Rdg.vw 0 rfl) Try.underlying26 rfl) rfl rfl rfl ?_
  refine JL.val (v := .int .i64 (0 : Int)) (QV.move rfl) rfl rfl rfl ?_
  refine JL.nil ?_
  refine QJ.then_normal ?_
  refine JC.cutK (Y := Bool × Unit) (fun y => match y with | (d10, _) => F54.j1 (d10) = some r) (fun y => match y with | (d10, _) => [(9, .bool d10)]) (fun y => match y with | (d10, _) => []) ?_ ?_
  ·
    rintro ⟨d10, ⟨⟩⟩ hm
    unfold F54.j1 at hm
    show QJ _ _ [(9, .bool d10)] [] _ _
    refine QJ.then_normal ?_
    refine JC.seq ?_
    refine JC.seq ?_
    refine JC.region ?_
    refine JL.val (v := .bool d10) (QV.move rfl) rfl rfl rfl ?_
    refine JL.nil ?_
    refine QJ.then_normal ?_
    rcases ite_inv hm with ⟨h11, hm⟩ | ⟨h11, hm⟩
    ·
      refine JC.condT' rfl h11 ?_
      refine JC.seq ?_
      refine JC.region ?_
      refine JL.val (v := .int .i64 (0 : Int)) (QV.assign rfl) rfl rfl rfl ?_
      refine JL.val (v := .int .i64 (0 : Int)) (QV.assign rfl) rfl rfl rfl ?_
      refine JL.val (v := .int .i64 (2 : Int)) (QV.assign rfl) rfl rfl rfl ?_
      refine JL.nil ?_
      refine QJ.then_normal ?_
      refine JC.ret ?_
      refine QJ.then_ret ?_
      obtain rfl := Option.some.inj hm
      exact QJ.body (vs := [.int .i64 (0 : Int), .int .i64 (0 : Int), .int .i64 (2 : Int)]) (.inl rfl) rfl (ResVs.cons (ResV.tmp rfl) (ResVs.cons (ResV.tmp rfl) (ResVs.cons (ResV.tmp rfl) ResVs.nil))) [] rfl rfl (.inr trivial) ⟨rfl, rfl⟩
    ·
      refine JC.condF' rfl (bfalse h11) ?_
      refine JC.skip ?_
      refine QJ.then_normal ?_
      refine JC.seq ?_
      refine JC.region ?_
      refine JL.val (v := .int .i64 (0 : Int)) (QV.assign rfl) rfl rfl rfl ?_
      refine JL.val (v := .int .i64 (0 : Int)) (QV.assign rfl) rfl rfl rfl ?_
      refine JL.val (v := .int .i64 (3 : Int)) (QV.assign rfl) rfl rfl rfl ?_
      refine JL.nil ?_
      refine QJ.then_normal ?_
      refine JC.ret ?_
      obtain rfl := Option.some.inj hm
      exact QJ.body (vs := [.int .i64 (0 : Int), .int .i64 (0 : Int), .int .i64 (3 : Int)]) (.inl rfl) rfl (ResVs.cons (ResV.tmp rfl) (ResVs.cons (ResV.tmp rfl) (ResVs.cons (ResV.tmp rfl) ResVs.nil))) [] rfl rfl (.inr trivial) ⟨rfl, rfl⟩
  ·
    refine JC.block ?_
    obtain ⟨y16, hl17, hmo18⟩ := bind_inv hm
    refine JC.loop (F54.b1 x2 x4 x6) (fun x z => match x, z with | (d12, d13), _ => [(0, s1.v), (1, s3.v), (2, s5.v), (9, .bool d12), (15, .int .i64 ((x2).length : Int)), (16, .int .i64 d13)]) (fun x z => match x, z with | (d12, d13), _ => [Asr.vw (Enc.int .u8) (s1.v) x2, Asr.vw (Enc.int .u16) (s3.v) x4, Asr.vw (Enc.int .u8) (s5.v) x6]) (false, (0 : Int)) () y16 hl17 [0, 1, 2] (by exact ⟨rfl, rfl, rfl, rfl, rfl, rfl, trivial⟩) rfl rfl ?_
    rintro ⟨d12, d13⟩ ⟨⟩ s19 hm
    unfold F54.b1 at hm
    dsimp only at hm
    show JC _ _ _ [(0, s1.v), (1, s3.v), (2, s5.v), (9, .bool d12), (15, .int .i64 ((x2).length : Int)), (16, .int .i64 d13)] [Asr.vw (Enc.int .u8) (s1.v) x2, Asr.vw (Enc.int .u16) (s3.v) x4, Asr.vw (Enc.int .u8) (s5.v) x6] _ _
    refine JC.seq ?_
    refine JC.region ?_
    refine JL.val (v := .bool (decide (d13 < ((x2).length : Int)))) (QV.lss rfl rfl) rfl rfl rfl ?_
    refine JL.nil ?_
    refine QJ.then_normal ?_
    refine JC.seq ?_
    rcases ite_inv hm with ⟨h20, hm⟩ | ⟨h20, hm⟩
    ·
      refine JC.condT' rfl (decide_eq_true h20) ?_
      refine JC.skip ?_
      refine QJ.then_normal ?_
      refine JC.seq ?_
      refine JC.cutK (Y := Bool × Unit) (fun y => match y with | (d21, _) => F54.j2 d13 (d21) = some s19) (fun y => match y with | (d21, _) => [(0, s1.v), (1, s3.v), (2, s5.v), (9, .bool d21), (15, .int .i64 ((x2).length : Int)), (16, .int .i64 d13)]) (fun y => match y with | (d21, _) => [Asr.vw (Enc.int .u8) (s1.v) x2, Asr.vw (Enc.int .u16) (s3.v) x4, Asr.vw (Enc.int .u8) (s5.v) x6]) ?_ ?_
      ·
        rintro ⟨d21, ⟨⟩⟩ hm
        unfold F54.j2 at hm
        show QJ _ _ [(0, s1.v), (1, s3.v), (2, s5.v), (9, .bool d21), (15, .int .i64 ((x2).length : Int)), (16, .int .i64 d13)] [Asr.vw (Enc.int .u8) (s1.v) x2, Asr.vw (Enc.int .u16) (s3.v) x4, Asr.vw (Enc.int .u8) (s5.v) x6] _ _
        refine QJ.then_normal ?_
        refine JC.region ?_
        refine JL.val (v := .int .i64 (IntKind.wrap .i64 (d13 + (1 : Int)))) (QV.add rfl rfl) rfl rfl rfl ?_
        refine JL.val (v := .int .i64 (IntKind.wrap .i64 (d13 + (1 : Int)))) (QV.move rfl) rfl rfl rfl ?_
        refine JL.nil ?_
        obtain rfl := Option.some.inj hm
        exact QJ.round_on (d21, (IntKind.wrap .i64 (d13 + (1 : Int)))) () [0, 1, 2] (by exact ⟨rfl, rfl, rfl, rfl, rfl, rfl, trivial⟩) rfl rfl
      ·
        refine JC.block ?_
        refine JC.seq ?_
        refine JC.region ?_
        refine JL.val (v := .int .i64 d13) (QV.move rfl) rfl rfl rfl ?_
        refine JL.val (v := .int .i64 d13) (QV.assign rfl) rfl rfl rfl ?_
        refine JL.nil ?_
        refine QJ.then_normal ?_
        refine JC.seq ?_
        refine JC.seq ?_
        refine JC.region ?_
        refine JL.val (v := s1.v) (QV.move rfl) rfl rfl rfl ?_
        refine JL.val (v := .int .i64 d13) (QV.move rfl) rfl rfl rfl ?_
        obtain ⟨h22, hm⟩ := guard_inv hm
        refine JL.val (v := .pointer (some (elA (s1.v) (Int.toNat d13 * ((Enc.int .u8)).sz)))) (QV.indexA (Rdg.vw 0 rfl) Try.underlying26 tk_5 rfl rfl h22) rfl rfl rfl ?_
        refine JL.val (v := .int .u8 (gd x2 d13)) (QV.el1 (Rdg.vw 0 rfl) tk_5 rfl h22 rfl) rfl rfl rfl ?_
        refine JL.val (v := .bool (decide ((gd x2 d13) = (0 : Int)))) (QV.eql rfl rfl) rfl rfl rfl ?_
        refine JL.nil ?_
        refine QJ.then_normal ?_
        rcases ite_inv hm with ⟨h23, hm⟩ | ⟨h23, hm⟩
        ·
          refine JC.condT' rfl (decide_eq_true h23) ?_
          refine JC.exit ?_
          refine QJ.then_exit ?_
          refine QJ.block_hit ?_
          exact QJ.cut_normal (d12, ()) hm [0, 1, 2] (by exact ⟨rfl, rfl, rfl, rfl, rfl, rfl, trivial⟩) rfl rfl
        ·
          refine JC.condF' rfl (decide_eq_false h23) ?_
          refine JC.skip ?_
          refine QJ.then_normal ?_
          refine JC.seq ?_
          refine JC.regionT [Asr.vw (Enc.int .u8) (s1.v) x2, Asr.vw (Enc.int .u16) (s3.v) x4, Asr.vw (Enc.int .u8) (s5.v) x6] (fun t => false) [(0, true), (1, true), (2, true), (3, true), (4, true), (5, true), (6, false), (7, false), (8, false), (9, false), (10, false), (11, false)] (by kernel_rfl) (by kernel_rfl) (by kernel_rfl) rfl (fun hsel => ?_)
          refine JT.take (i := 0) (v := s3.v) hsel rfl (QV.move rfl) rfl rfl rfl [0, 1, 2] rfl rfl ?_
          refine JT.take (i := 1) (v := .int .i64 d13) hsel rfl (QV.move rfl) rfl rfl rfl [0, 1, 2] rfl rfl ?_
          obtain ⟨h24, hm⟩ := guard_inv hm
          refine JT.take (i := 2) (v := .pointer (some (elA (s3.v) (Int.toNat d13 * ((Enc.int .u16)).sz)))) hsel rfl (QV.indexA (Rdg.vw 1 rfl) Try.underlying63 tk_32 rfl rfl h24) rfl rfl rfl [0, 1, 2] rfl rfl ?_
          refine JT.take (i := 3) (v := .int .u16 (gd x4 d13)) hsel rfl (QV.el1 (Rdg.vw 1 rfl) tk_32 rfl h24 rfl) rfl rfl rfl [0, 1, 2] rfl rfl ?_
          refine JT.take (i := 4) (v := .int .u32 (IntKind.wrap .u32 (gd x4 d13))) hsel rfl (QV.conv rfl (by rw [Try.underlying32]; rfl) Try.underlying42) rfl rfl rfl [0, 1, 2] rfl rfl ?_
          refine JT.take (i := 5) (v := s1.v) hsel rfl (QV.move rfl) rfl rfl rfl [0, 1, 2] rfl rfl ?_
          refine JT.only (i := 6) (d := some 30) rfl (MV.ofQV (v := .int .i64 d13) (QV.move rfl)) rfl rfl rfl ?_
          rintro _ _ ⟨rfl, rfl⟩
          refine ⟨fun _ => ⟨[0, 1, 2], rfl, rfl⟩, ?_⟩
          refine JT.only (i := 7) (d := some 31) rfl (MV.ofQV (v := .pointer (some (elA (s1.v) (Int.toNat d13 * ((Enc.int .u8)).sz)))) (QV.indexA (Rdg.vw 0 rfl) Try.underlying26 tk_5 rfl rfl h22)) rfl rfl rfl ?_
          rintro _ _ ⟨rfl, rfl⟩
          refine ⟨fun _ => ⟨[0, 1, 2], rfl, rfl⟩, ?_⟩
          refine JT.only (i := 8) (d := some 32) rfl (MV.ofQV (v := .int .u8 (gd x2 d13)) (QV.el1 (Rdg.vw 0 rfl) tk_5 rfl h22 rfl)) rfl rfl rfl ?_
          rintro _ _ ⟨rfl, rfl⟩
          refine ⟨fun _ => ⟨[0, 1, 2], rfl, rfl⟩, ?_⟩
          refine JT.only (i := 9) (d := some 33) rfl (MV.ofQV (v := .int .i64 (IntKind.wrap .i64 (gd x2 d13))) (QV.conv rfl (by rw [Try.underlying5]; rfl) Try.underlying3)) rfl rfl rfl ?_
          rintro _ _ ⟨rfl, rfl⟩
          refine ⟨fun _ => ⟨[0, 1, 2], rfl, rfl⟩, ?_⟩
          obtain ⟨y25, hc26, hm⟩ := bind_inv hm
          refine JT.only (i := 10) (d := some 34) rfl (MV.call (Lo := []) (Lr := [Asr.vw (Enc.int .u8) (s1.v) x2, Asr.vw (Enc.int .u16) (s3.v) x4, Asr.vw (Enc.int .u8) (s5.v) x6]) (F31.spec ((IntKind.wrap .u32 (gd x4 d13))) ((IntKind.wrap .i64 (gd x2 d13))) _ hc26) rfl Try.func31 rfl rfl rfl [] [0, 1, 2] rfl rfl rfl trivial) rfl rfl rfl ?_
          rintro _ _ ⟨_, ⟨z27, rfl, rfl⟩, rfl⟩
          refine ⟨fun _ => ⟨[1, 2, 3], rfl, rfl⟩, ?_⟩
          refine JT.grow [Asr.of 5 (Enc.int .u8) (z27.v) y25, Asr.vw (Enc.int .u8) (s1.v) x2, Asr.vw (Enc.int .u16) (s3.v) x4, Asr.vw (Enc.int .u8) (s5.v) x6] [1, 2, 3] rfl rfl ?_
          refine JT.only (i := 11) (d := some 11) rfl (MV.ofQV (v := z27.v) (QV.assign rfl)) rfl rfl rfl ?_
          rintro _ _ ⟨rfl, rfl⟩
          refine ⟨fun _ => ⟨[0, 1, 2, 3], rfl, rfl⟩, ?_⟩
          refine JT.nil ?_
          refine QJ.then_normal ?_
          refine JC.seq ?_
          refine JC.region ?_
          refine JL.val (v := .bool true) (QV.assign rfl) rfl rfl rfl ?_
          refine JL.nil ?_
          refine QJ.then_normal ?_
          refine JC.seq ?_
          refine JC.seq ?_
          refine JC.region ?_
          refine JL.val (v := .int .i64 (0 : Int)) (QV.assign rfl) rfl rfl rfl ?_
          refine JL.nil ?_
          refine QJ.then_normal ?_
          refine JC.cutK (Y := Bool × Unit) (fun y => match y with | (d28, _) => F54.j3 x6 d12 d13 y25 (d28) = some s19) (fun y => match y with | (d28, _) => [(0, s1.v), (1, s3.v), (2, s5.v), (9, .bool d12), (10, .int .i64 d13), (11, z27.v), (12, .bool d28), (15, .int .i64 ((x2).length : Int)), (16, .int .i64 d13)]) (fun y => match y with | (d28, _) => [Asr.vw (Enc.int .u8) (s1.v) x2, Asr.vw (Enc.int .u16) (s3.v) x4, Asr.vw (Enc.int .u8) (s5.v) x6, Asr.of 5 (Enc.int .u8) (z27.v) y25]) ?_ ?_
          ·
            rintro ⟨d28, ⟨⟩⟩ hm
            unfold F54.j3 at hm
            show QJ _ _ [(0, s1.v), (1, s3.v), (2, s5.v), (9, .bool d12), (10, .int .i64 d13), (11, z27.v), (12, .bool d28), (15, .int .i64 ((x2).length : Int)), (16, .int .i64 d13)] [Asr.vw (Enc.int .u8) (s1.v) x2, Asr.vw (Enc.int .u16) (s3.v) x4, Asr.vw (Enc.int .u8) (s5.v) x6, Asr.of 5 (Enc.int .u8) (z27.v) y25] _ _
            refine QJ.then_normal ?_
            refine JC.seq ?_
            refine JC.seq ?_
            refine JC.region ?_
            refine JL.val (v := .bool d28) (QV.move rfl) rfl rfl rfl ?_
            rcases ite_inv hm with ⟨h29, hm⟩ | ⟨h29, hm⟩
            ·
              refine JL.val (v := .bool true) (QV.eq (QV.move rfl) (congrArg Value.bool h29)) rfl rfl rfl ?_
              refine JL.val (v := z27.v) (QV.move rfl) rfl rfl rfl ?_
              refine JL.val (v := .int .i64 ((y25).length : Int)) (QV.len (Rdg.of 3 rfl) Try.underlying26 rfl) rfl rfl rfl ?_
              refine JL.val (v := s5.v) (QV.move rfl) rfl rfl rfl ?_
              refine JL.val (v := .int .i64 ((x6).length : Int)) (QV.len (Rdg.vw 2 rfl) Try.underlying26 rfl) rfl rfl rfl ?_
              refine JL.val (v := .bool (decide (((y25).length : Int) ≤ ((x6).length : Int)))) (QV.leq rfl rfl) rfl rfl rfl ?_
              refine JL.val (v := .bool (decide (((y25).length : Int) ≤ ((x6).length : Int)))) (QV.pickT rfl rfl) rfl rfl rfl ?_
              refine JL.nil ?_
              refine QJ.then_normal ?_
              rcases ite_inv hm with ⟨h30, hm⟩ | ⟨h30, hm⟩
              ·
                refine JC.condT' rfl (decide_eq_true h30) ?_
                refine JC.seq ?_
                refine JC.region ?_
                refine JL.val (v := .int .i64 d13) (QV.move rfl) rfl rfl rfl ?_
                refine JL.val (v := z27.v) (QV.move rfl) rfl rfl rfl ?_
                refine JL.val (v := .int .i64 ((y25).length : Int)) (QV.len (Rdg.of 3 rfl) Try.underlying26 rfl) rfl rfl rfl ?_
                refine JL.val (v := .int .i64 d13) (QV.assign rfl) rfl rfl rfl ?_
                refine JL.val (v := .int .i64 ((y25).length : Int)) (QV.assign rfl) rfl rfl rfl ?_
                refine JL.val (v := .int .i64 (0 : Int)) (QV.assign rfl) rfl rfl rfl ?_
                refine JL.nil ?_
                refine QJ.then_normal ?_
                refine JC.ret ?_
                refine QJ.then_ret ?_
                refine QJ.block_ret ?_
                refine QJ.cut_ret ?_
                refine QJ.then_ret ?_
                obtain rfl := Option.some.inj hm
                refine QJ.round_ret (fun hy => ?_)
                subst hy
                refine QJ.block_ret ?_
                refine QJ.cut_ret ?_
                refine QJ.then_ret ?_
                obtain rfl := Option.some.inj hmo18
                exact QJ.body (vs := [.int .i64 d13, .int .i64 ((y25).length : Int), .int .i64 (0 : Int)]) (.inl rfl) rfl (ResVs.cons (ResV.tmp rfl) (ResVs.cons (ResV.tmp rfl) (ResVs.cons (ResV.tmp rfl) ResVs.nil))) [] rfl rfl (.inr trivial) ⟨rfl, rfl⟩
              ·
                refine JC.condF' rfl (decide_eq_false h30) ?_
                refine JC.skip ?_
                refine QJ.then_normal ?_
                refine JC.region ?_
                refine JL.val (v := .bool d12) (QV.move rfl) rfl rfl rfl ?_
                rcases ite_inv hm with ⟨h31, hm⟩ | ⟨h31, hm⟩
                ·
                  refine JL.val (v := .bool true) (QV.eq (QV.move rfl) (congrArg Value.bool h31)) rfl rfl rfl ?_
                  refine JL.skip (d := some 72) rfl rfl rfl ?_
                  refine JL.val (v := .bool true) (QV.pickT rfl rfl) rfl rfl rfl ?_
                  refine JL.val (v := .bool true) (QV.assign rfl) rfl rfl rfl ?_
                  refine JL.nil ?_
                  refine QJ.block_normal ?_
                  exact QJ.cut_normal (true, ()) hm [0, 1, 2] (by exact ⟨rfl, rfl, rfl, rfl, rfl, rfl, trivial⟩) rfl rfl
                ·
                  refine JL.val (v := .bool false) (QV.eq (QV.move rfl) (congrArg Value.bool (bfalse h31))) rfl rfl rfl ?_
                  refine JL.val (v := .bool d28) (QV.move rfl) rfl rfl rfl ?_
                  refine JL.val (v := .bool d28) (QV.pickF rfl rfl) rfl rfl rfl ?_
                  refine JL.val (v := .bool d28) (QV.assign rfl) rfl rfl rfl ?_
                  refine JL.nil ?_
                  refine QJ.block_normal ?_
                  exact QJ.cut_normal (d28, ()) hm [0, 1, 2] (by exact ⟨rfl, rfl, rfl, rfl, rfl, rfl, trivial⟩) rfl rfl
            ·
              refine JL.val (v := .bool false) (QV.eq (QV.move rfl) (congrArg Value.bool (bfalse h29))) rfl rfl rfl ?_
              refine JL.skip (d := some 61) rfl rfl rfl ?_
              refine JL.skip (d := some 62) rfl rfl rfl ?_
              refine JL.skip (d := some 63) rfl rfl rfl ?_
              refine JL.skip (d := some 64) rfl rfl rfl ?_
              refine JL.skip (d := some 65) rfl rfl rfl ?_
              refine JL.val (v := .bool false) (QV.pickF rfl rfl) rfl rfl rfl ?_
              refine JL.nil ?_
              refine QJ.then_normal ?_
              refine JC.condF rfl ?_
              refine JC.skip ?_
              refine QJ.then_normal ?_
              refine JC.region ?_
              refine JL.val (v := .bool d12) (QV.move rfl) rfl rfl rfl ?_
              rcases ite_inv hm with ⟨h32, hm⟩ | ⟨h32, hm⟩
              ·
                refine JL.val (v := .bool true) (QV.eq (QV.move rfl) (congrArg Value.bool h32)) rfl rfl rfl ?_
                refine JL.skip (d := some 72) rfl rfl rfl ?_
                refine JL.val (v := .bool true) (QV.pickT rfl rfl) rfl rfl rfl ?_
                refine JL.val (v := .bool true) (QV.assign rfl) rfl rfl rfl ?_
                refine JL.nil ?_
                refine QJ.block_normal ?_
                exact QJ.cut_normal (true, ()) hm [0, 1, 2] (by exact ⟨rfl, rfl, rfl, rfl, rfl, rfl, trivial⟩) rfl rfl
              ·
                refine JL.val (v := .bool false) (QV.eq (QV.move rfl) (congrArg Value.bool (bfalse h32))) rfl rfl rfl ?_
                refine JL.val (v := .bool d28) (QV.move rfl) rfl rfl rfl ?_
                refine JL.val (v := .bool d28) (QV.pickF rfl rfl) rfl rfl rfl ?_
                refine JL.val (v := .bool d28) (QV.assign rfl) rfl rfl rfl ?_
                refine JL.nil ?_
                refine QJ.block_normal ?_
                exact QJ.cut_normal (d28, ()) hm [0, 1, 2] (by exact ⟨rfl, rfl, rfl, rfl, rfl, rfl, trivial⟩) rfl rfl
          ·
            refine JC.block ?_
            obtain ⟨y37, hl38, hmo39⟩ := bind_inv hm
            refine JC.loop (F54.b2 x6 y25) (fun x z => match x, z with | (d33, d34), _ => [(0, s1.v), (1, s3.v), (2, s5.v), (9, .bool d12), (10, .int .i64 d13), (11, z27.v), (12, .bool d33), (13, .int .i64 d34), (15, .int .i64 ((x2).length : Int)), (16, .int .i64 d13)]) (fun x z => match x, z with | (d33, d34), _ => [Asr.vw (Enc.int .u8) (s1.v) x2, Asr.vw (Enc.int .u16) (s3.v) x4, Asr.vw (Enc.int .u8) (s5.v) x6, Asr.of 5 (Enc.int .u8) (z27.v) y25]) (true, (0 : Int)) () y37 hl38 [1, 2, 3, 0] (by exact ⟨rfl, rfl, rfl, rfl, rfl, rfl, rfl, rfl, rfl, rfl, trivial⟩) rfl rfl ?_
            rintro ⟨d33, d34⟩ ⟨⟩ s40 hm
            unfold F54.b2 at hm
            dsimp only at hm
            show JC _ _ _ [(0, s1.v), (1, s3.v), (2, s5.v), (9, .bool d12), (10, .int .i64 d13), (11, z27.v), (12, .bool d33), (13, .int .i64 d34), (15, .int .i64 ((x2).length : Int)), (16, .int .i64 d13)] [Asr.vw (Enc.int .u8) (s1.v) x2, Asr.vw (Enc.int .u16) (s3.v) x4, Asr.vw (Enc.int .u8) (s5.v) x6, Asr.of 5 (Enc.int .u8) (z27.v) y25] _ _
            refine JC.seq ?_
            refine JC.seq ?_
            refine JC.region ?_
            refine JL.val (v := .int .i64 d34) (QV.move rfl) rfl rfl rfl ?_
            refine JL.val (v := z27.v) (QV.move rfl) rfl rfl rfl ?_
            refine JL.val (v := .int .i64 ((y25).length : Int)) (QV.len (Rdg.of 3 rfl) Try.underlying26 rfl) rfl rfl rfl ?_
            refine JL.val (v := .bool (decide (d34 < ((y25).length : Int)))) (QV.lss rfl rfl) rfl rfl rfl ?_
            rcases ite_inv hm with ⟨h41, hm⟩ | ⟨h41, hm⟩
            ·
              refine JL.val (v := .bool true) (QV.eq (QV.move rfl) (congrArg Value.bool (decide_eq_true h41))) rfl rfl rfl ?_
              refine JL.val (v := .int .i64 d34) (QV.move rfl) rfl rfl rfl ?_
              refine JL.val (v := s5.v) (QV.move rfl) rfl rfl rfl ?_
              refine JL.val (v := .int .i64 ((x6).length : Int)) (QV.len (Rdg.vw 2 rfl) Try.underlying26 rfl) rfl rfl rfl ?_
              refine JL.val (v := .bool (decide (d34 < ((x6).length : Int)))) (QV.lss rfl rfl) rfl rfl rfl ?_
              refine JL.val (v := .bool (decide (d34 < ((x6).length : Int)))) (QV.pickT rfl rfl) rfl rfl rfl ?_
              refine JL.nil ?_
              refine QJ.then_normal ?_
              rcases ite_inv hm with ⟨h42, hm⟩ | ⟨h42, hm⟩
              ·
                refine JC.condT' rfl (decide_eq_true h42) ?_
                refine JC.skip ?_
                refine QJ.then_normal ?_
                refine JC.seq ?_
                refine JC.cutK (Y := Bool × Unit) (fun y => match y with | (d43, _) => F54.j4 d34 (d43) = some s40) (fun y => match y with | (d43, _) => [(0, s1.v), (1, s3.v), (2, s5.v), (9, .bool d12), (10, .int .i64 d13), (11, z27.v), (12, .bool d43), (13, .int .i64 d34), (15, .int .i64 ((x2).length : Int)), (16, .int .i64 d13)]) (fun y => match y with | (d43, _) => [Asr.vw (Enc.int .u8) (s1.v) x2, Asr.vw (Enc.int .u16) (s3.v) x4, Asr.vw (Enc.int .u8) (s5.v) x6, Asr.of 5 (Enc.int .u8) (z27.v) y25]) ?_ ?_
                ·
                  rintro ⟨d43, ⟨⟩⟩ hm
                  unfold F54.j4 at hm
                  show QJ _ _ [(0, s1.v), (1, s3.v), (2, s5.v), (9, .bool d12), (10, .int .i64 d13), (11, z27.v), (12, .bool d43), (13, .int .i64 d34), (15, .int .i64 ((x2).length : Int)), (16, .int .i64 d13)] [Asr.vw (Enc.int .u8) (s1.v) x2, Asr.vw (Enc.int .u16) (s3.v) x4, Asr.vw (Enc.int .u8) (s5.v) x6, Asr.of 5 (Enc.int .u8) (z27.v) y25] _ _
                  refine QJ.then_normal ?_
                  refine JC.region ?_
                  refine JL.val (v := .int .i64 d34) (QV.move rfl) rfl rfl rfl ?_
                  refine JL.val (v := .int .i64 (IntKind.wrap .i64 (d34 + (1 : Int)))) (QV.add rfl rfl) rfl rfl rfl ?_
                  refine JL.val (v := .int .i64 (IntKind.wrap .i64 (d34 + (1 : Int)))) (QV.assign rfl) rfl rfl rfl ?_
                  refine JL.nil ?_
                  obtain rfl := Option.some.inj hm
                  exact QJ.round_on (d43, (IntKind.wrap .i64 (d34 + (1 : Int)))) () [0, 1, 2, 3] (by exact ⟨rfl, rfl, rfl, rfl, rfl, rfl, rfl, rfl, rfl, rfl, trivial⟩) rfl rfl
                ·
                  refine JC.block ?_
                  refine JC.regionT [Asr.vw (Enc.int .u8) (s1.v) x2, Asr.vw (Enc.int .u16) (s3.v) x4, Asr.vw (Enc.int .u8) (s5.v) x6, Asr.of 5 (Enc.int .u8) (z27.v) y25] (fun t => false) [(0, false), (1, false), (2, true), (3, true), (4, true), (5, true), (6, true), (7, false), (8, false), (9, false), (10, false), (11, false), (12, false)] (by kernel_rfl) (by kernel_rfl) (by kernel_rfl) rfl (fun hsel => ?_)
                  refine JT.only (i := 0) (d := some 47) rfl (MV.ofQV (v := .bool d33) (QV.move rfl)) rfl rfl rfl ?_
                  rintro _ _ ⟨rfl, rfl⟩
                  refine ⟨fun _ => ⟨[0, 1, 2, 3], rfl, rfl⟩, ?_⟩
                  rcases ite_inv hm with ⟨h44, hm⟩ | ⟨h44, hm⟩
                  ·
                    refine JT.only (i := 1) (d := some 48) rfl (MV.ofQV (v := .bool true) (QV.eq (QV.move rfl) (congrArg Value.bool h44))) rfl rfl rfl ?_
                    rintro _ _ ⟨rfl, rfl⟩
                    refine ⟨fun _ => ⟨[0, 1, 2, 3], rfl, rfl⟩, ?_⟩
                    refine JT.take (i := 2) (v := z27.v) hsel rfl (QV.move rfl) rfl rfl rfl [0, 1, 2, 3] rfl rfl ?_
                    refine JT.take (i := 3) (v := .int .i64 d34) hsel rfl (QV.move rfl) rfl rfl rfl [0, 1, 2, 3] rfl rfl ?_
                    obtain ⟨h45, hm⟩ := guard_inv hm
                    refine JT.take (i := 4) (v := .pointer (some (elA (z27.v) (Int.toNat d34 * ((Enc.int .u8)).sz)))) hsel rfl (QV.indexA (Rdg.of 3 rfl) Try.underlying26 tk_5 rfl rfl h45) rfl rfl rfl [0, 1, 2, 3] rfl rfl ?_
                    refine JT.take (i := 5) (v := .int .u8 (gd y25 d34)) hsel rfl (QV.el1 (Rdg.of 3 rfl) tk_5 rfl h45 rfl) rfl rfl rfl [0, 1, 2, 3] rfl rfl ?_
                    refine JT.take (i := 6) (v := s5.v) hsel rfl (QV.move rfl) rfl rfl rfl [0, 1, 2, 3] rfl rfl ?_
                    refine JT.only (i := 7) (d := some 54) rfl (MV.ofQV (v := .int .i64 d34) (QV.move rfl)) rfl rfl rfl ?_
                    rintro _ _ ⟨rfl, rfl⟩
                    refine ⟨fun _ => ⟨[0, 1, 2, 3], rfl, rfl⟩, ?_⟩
                    obtain ⟨h46, hm⟩ := guard_inv hm
                    refine JT.only (i := 8) (d := some 55) rfl (MV.ofQV (v := .pointer (some (elA (s5.v) (Int.toNat d34 * ((Enc.int .u8)).sz)))) (QV.indexA (Rdg.vw 2 rfl) Try.underlying26 tk_5 rfl rfl h46)) rfl rfl rfl ?_
                    rintro _ _ ⟨rfl, rfl⟩
                    refine ⟨fun _ => ⟨[0, 1, 2, 3], rfl, rfl⟩, ?_⟩
                    refine JT.only (i := 9) (d := some 56) rfl (MV.ofQV (v := .int .u8 (gd x6 d34)) (QV.el1 (Rdg.vw 2 rfl) tk_5 rfl h46 rfl)) rfl rfl rfl ?_
                    rintro _ _ ⟨rfl, rfl⟩
                    refine ⟨fun _ => ⟨[0, 1, 2, 3], rfl, rfl⟩, ?_⟩
                    refine JT.only (i := 10) (d := some 57) rfl (MV.ofQV (v := .bool (decide ((gd y25 d34) = (gd x6 d34)))) (QV.eql rfl rfl)) rfl rfl rfl ?_
                    rintro _ _ ⟨rfl, rfl⟩
                    refine ⟨fun _ => ⟨[0, 1, 2, 3], rfl, rfl⟩, ?_⟩
                    refine JT.only (i := 11) (d := some 58) rfl (MV.ofQV (v := .bool (decide ((gd y25 d34) = (gd x6 d34)))) (QV.pickT rfl rfl)) rfl rfl rfl ?_
                    rintro _ _ ⟨rfl, rfl⟩
                    refine ⟨fun _ => ⟨[0, 1, 2, 3], rfl, rfl⟩, ?_⟩
                    refine JT.only (i := 12) (d := some 12) rfl (MV.ofQV (v := .bool (decide ((gd y25 d34) = (gd x6 d34)))) (QV.assign rfl)) rfl rfl rfl ?_
                    rintro _ _ ⟨rfl, rfl⟩
                    refine ⟨fun _ => ⟨[0, 1, 2, 3], rfl, rfl⟩, ?_⟩
                    refine JT.nil ?_
                    refine QJ.block_normal ?_
                    exact QJ.cut_normal ((decide ((gd y25 d34) = (gd x6 d34))), ()) hm [0, 1, 2, 3] (by exact ⟨rfl, rfl, rfl, rfl, rfl, rfl, rfl, rfl, rfl, rfl, trivial⟩) rfl rfl
                  ·
                    refine JT.only (i := 1) (d := some 48) rfl (MV.ofQV (v := .bool false) (QV.eq (QV.move rfl) (congrArg Value.bool (bfalse h44)))) rfl rfl rfl ?_
                    rintro _ _ ⟨rfl, rfl⟩
                    refine ⟨fun _ => ⟨[0, 1, 2, 3], rfl, rfl⟩, ?_⟩
                    refine JT.skip (i := 2) (d := some 49) hsel rfl rfl rfl rfl [0, 1, 2, 3] rfl rfl ?_
                    refine JT.skip (i := 3) (d := some 50) hsel rfl rfl rfl rfl [0, 1, 2, 3] rfl rfl ?_
                    refine JT.skip (i := 4) (d := some 51) hsel rfl rfl rfl rfl [0, 1, 2, 3] rfl rfl ?_
                    refine JT.skip (i := 5) (d := some 52) hsel rfl rfl rfl rfl [0, 1, 2, 3] rfl rfl ?_
                    refine JT.skip (i := 6) (d := some 53) hsel rfl rfl rfl rfl [0, 1, 2, 3] rfl rfl ?_
                    refine JT.skipO (i := 7) (d := some 54) rfl rfl rfl rfl [0, 1, 2, 3] rfl rfl ?_
                    refine JT.skipO (i := 8) (d := some 55) rfl rfl rfl rfl [0, 1, 2, 3] rfl rfl ?_
                    refine JT.skipO (i := 9) (d := some 56) rfl rfl rfl rfl [0, 1, 2, 3] rfl rfl ?_
                    refine JT.skipO (i := 10) (d := some 57) rfl rfl rfl rfl [0, 1, 2, 3] rfl rfl ?_
                    refine JT.only (i := 11) (d := some 58) rfl (MV.ofQV (v := .bool false) (QV.pickF rfl rfl)) rfl rfl rfl ?_
                    rintro _ _ ⟨rfl, rfl⟩
                    refine ⟨fun _ => ⟨[0, 1, 2, 3], rfl, rfl⟩, ?_⟩
                    refine JT.only (i := 12) (d := some 12) rfl (MV.ofQV (v := .bool false) (QV.assign rfl)) rfl rfl rfl ?_
                    rintro _ _ ⟨rfl, rfl⟩
                    refine ⟨fun _ => ⟨[0, 1, 2, 3], rfl, rfl⟩, ?_⟩
                    refine JT.nil ?_
                    refine QJ.block_normal ?_
                    exact QJ.cut_normal (false, ()) hm [0, 1, 2, 3] (by exact ⟨rfl, rfl, rfl, rfl, rfl, rfl, rfl, rfl, rfl, rfl, trivial⟩) rfl rfl
              ·
                refine JC.condF' rfl (decide_eq_false h42) ?_
                refine JC.exit ?_
                refine QJ.then_exit ?_
                obtain rfl := Option.some.inj hm
                refine QJ.round_exit (fun hy => ?_)
                subst hy
                refine QJ.block_hit ?_
                exact QJ.cut_normal (d33, ()) hmo39 [0, 1, 2, 3] (by exact ⟨rfl, rfl, rfl, rfl, rfl, rfl, rfl, rfl, rfl, trivial⟩) rfl rfl
            ·
              refine JL.val (v := .bool false) (QV.eq (QV.move rfl) (congrArg Value.bool (decide_eq_false h41))) rfl rfl rfl ?_
              refine JL.skip (d := some 40) rfl rfl rfl ?_
              refine JL.skip (d := some 41) rfl rfl rfl ?_
              refine JL.skip (d := some 42) rfl rfl rfl ?_
              refine JL.skip (d := some 43) rfl rfl rfl ?_
              refine JL.val (v := .bool false) (QV.pickF rfl rfl) rfl rfl rfl ?_
              refine JL.nil ?_
              refine QJ.then_normal ?_
              refine JC.condF rfl ?_
              refine JC.exit ?_
              refine QJ.then_exit ?_
              obtain rfl := Option.some.inj hm
              refine QJ.round_exit (fun hy => ?_)
              subst hy
              refine QJ.block_hit ?_
              exact QJ.cut_normal (d33, ()) hmo39 [0, 1, 2, 3] (by exact ⟨rfl, rfl, rfl, rfl, rfl, rfl, rfl, rfl, rfl, trivial⟩) rfl rfl
    ·
      refine JC.condF' rfl (decide_eq_false h20) ?_
      refine JC.exit ?_
      refine QJ.then_exit ?_
      obtain rfl := Option.some.inj hm
      refine QJ.round_exit (fun hy => ?_)
      subst hy
      refine QJ.block_hit ?_
      exact QJ.cut_normal (d12, ()) hmo18 [] (by exact ⟨rfl, trivial⟩) rfl rfl

/-! ### 12: drogher/drogherlaw09.HuffReads -/
noncomputable def F12.j2   : Option Bool :=
  ((F47.m).bind fun y36 => some y36)
noncomputable def F12.b1 (x2 : List Int) (y18 : ((Arr Int 16) × (Arr Int 16) × (Arr Int 16) × List Int)) (y22 : (List Int)) (y27 : (List Int)) (y30 : (List Int)) : (Int × Int × Int) → Option ((Int × Int × Int) ⊕ ((Bool) ⊕ Unit))
  | (d38, d39, d40) => (if d40 < (60 : Int) then ((F53.m (y18.1) (y18.2.1) (y18.2.2.1) (y18.2.2.2) (y22) (d38)).bind fun y49 => (if 0 ≤ d39 ∧ d39 ≤ ((y27).length : Int) ∧ ((y27).length : Int) ≤ ((y27).length : Int) then ((F54.m (x2) (y30) ((subL y27 d39 ((y27).length : Int)))).bind fun y52 => (if y49.1 = y52.1 then (if y49.2.1 = y52.2.2 then ((F46.m (y22) (y49.2.2)).bind fun y56 => (if y49.2.2 = (IntKind.wrap .i64 (d39 + y52.2.1)) then (if y52.2.2 = (0 : Int) then some (.inl (y49.2.2, (IntKind.wrap .i64 (d39 + y52.2.1)), (IntKind.wrap .i64 (d40 + (1 : Int))))) else ((F47.m).bind fun y60 => some (.inr (.inl (y60))))) else some (.inr (.inl (false))))) else some (.inr (.inl (false)))) else some (.inr (.inl (false))))) else none)) else some (.inr (.inr (()))))
noncomputable def F12.j1 (x2 : List Int) (y18 : ((Arr Int 16) × (Arr Int 16) × (Arr Int 16) × List Int)) (y22 : (List Int)) (y27 : (List Int)) (y30 : (List Int)) (y33 : (Int × Int)) (d35 : Int) : Option Bool :=
  ((loop (F12.b1 x2 y18 y22 y27 y30) (y33.2, d35, (0 : Int))).bind fun y => match y with | .inl r => some r | .inr _ => F12.j2)
noncomputable def F12.m (x2 : List Int) (x4 : List Int) (x5 : Int) : Option Bool :=
  (if (300 : Int) < ((x2).length : Int) then ((F47.m).bind fun y8 => some y8) else (if (200 : Int) < ((x4).length : Int) then ((F47.m).bind fun y11 => some y11) else ((F50.m (x2)).bind fun y13 => (if y13 = true then ((F49.m (x2)).bind fun y16 => match y16 with | (.inl y18) => ((F38.m (x4)).bind fun y22 => (if (0 : Int) = (0 : Int) then ((F33.m (x4)).bind fun y27 => ((F52.m (x2)).bind fun y30 => ((F45.m (y22) ((0 : Int)) (x5)).bind fun y33 => (if y33.1 = (0 : Int) then F12.j1 x2 y18 y22 y27 y30 y33 (x5) else F12.j1 x2 y18 y22 y27 y30 y33 ((0 : Int)))))) else some false)) | (.inr y19) => ((F38.m (x4)).bind fun y63 => some false)) else ((F47.m).bind fun y67 => some y67)))))
set_option maxRecDepth 100000 in
set_option maxHeartbeats 4000000 in
theorem F12.spec (s1 : SlV) (s3 : SlV) (x2 : List Int) (x4 : List Int) (x5 : Int) (r : Bool) (hm : F12.m x2 x4 x5 = some r) :
    Ctr Try.prog false 12 [s1.v, s3.v, .int .i64 x5] [Asr.vw (Enc.int .u8) (s1.v) x2, Asr.vw (Enc.int .u8) (s3.v) x4] (fun v L' => v = .bool r ∧ L' = []) := by
  refine Ctr.intro (n := 96) (env := [(0, s1.v), (1, s3.v), (2, .int .i64 x5)]) Try.func12 rfl rfl rfl rfl (fun c => ?_)
  unfold F12.m at hm
  refine JC.seq ?_
  refine JC.region ?_
  refine JL.val (v := .bool false) (QV.assign rfl) rfl rfl rfl ?_
  refine JL.nil ?_
  refine QJ.then_normal ?_
  refine JC.seq ?_
  refine JC.seq ?_
  refine JC.region ?_
  refine JL.val (v := s1.v) (QV.move rfl) rfl rfl rfl ?_
  refine JL.val (v := .int .i64 ((x2).length : Int)) (QV.len (Rdg.vw 0 rfl) Try.underlying26 rfl) rfl rfl rfl ?_
  refine JL.val (v := .bool (decide ((300 : Int) < ((x2).length : Int)))) (QV.gtr rfl rfl) rfl rfl rfl ?_
  rcases ite_inv hm with ⟨h7, hm⟩ | ⟨h7, hm⟩
  ·
    refine JL.val (v := .bool true) (QV.eq (QV.move rfl) (congrArg Value.bool (decide_eq_true h7))) rfl rfl rfl ?_
    refine JL.skip (d := some 23) rfl rfl rfl ?_
    refine JL.skip (d := some 24) rfl rfl rfl ?_
    refine JL.skip (d := some 25) rfl rfl rfl ?_
    refine JL.val (v := .bool true) (QV.pickT rfl rfl) rfl rfl rfl ?_
    refine JL.val (v := .bool true) (QV.move rfl) rfl rfl rfl ?_
    refine JL.skip (d := some 28) rfl rfl rfl ?_
    refine JL.skip (d := some 29) rfl rfl rfl ?_
    refine JL.skip (d := some 30) rfl rfl rfl ?_
    refine JL.val (v := .bool true) (QV.pickT rfl rfl) rfl rfl rfl ?_
    refine JL.nil ?_
    refine QJ.then_normal ?_
    refine JC.condT rfl ?_
    refine JC.seq ?_
    refine JC.region ?_
    obtain ⟨y8, hc9, hm⟩ := bind_inv hm
    refine JL.mv (d := some 32) (MV.call (Lo := []) (Lr := [Asr.vw (Enc.int .u8) (s1.v) x2, Asr.vw (Enc.int .u8) (s3.v) x4]) (F47.spec _ hc9) rfl Try.func47 rfl rfl rfl [] [0, 1] rfl rfl rfl trivial) rfl rfl rfl ?_
    rintro _ _ ⟨_, ⟨rfl, rfl⟩, rfl⟩
    refine JL.val (v := .bool y8) (QV.assign rfl) rfl rfl rfl ?_
    refine JL.nil ?_
    refine QJ.then_normal ?_
    refine JC.ret ?_
    refine QJ.then_ret ?_
    obtain rfl := Option.some.inj hm
    exact QJ.body (vs := [.bool y8]) (.inl rfl) rfl (ResVs.cons (ResV.tmp rfl) ResVs.nil) [] rfl rfl (.inr trivial) ⟨rfl, rfl⟩
  ·
    refine JL.val (v := .bool false) (QV.eq (QV.move rfl) (congrArg Value.bool (decide_eq_false h7))) rfl rfl rfl ?_
    refine JL.val (v := s3.v) (QV.move rfl) rfl rfl rfl ?_
    refine JL.val (v := .int .i64 ((x4).length : Int)) (QV.len (Rdg.vw 1 rfl) Try.underlying26 rfl) rfl rfl rfl ?_
    refine JL.val (v := .bool (decide ((200 : Int) < ((x4).length : Int)))) (QV.gtr rfl rfl) rfl rfl rfl ?_
    refine JL.val (v := .bool (decide ((200 : Int) < ((x4).length : Int)))) (QV.pickF rfl rfl) rfl rfl rfl ?_
    rcases ite_inv hm with ⟨h10, hm⟩ | ⟨h10, hm⟩
    ·
      refine JL.val (v := .bool true) (QV.eq (QV.move rfl) (congrArg Value.bool (decide_eq_true h10))) rfl rfl rfl ?_
      refine JL.skip (d := some 28) rfl rfl rfl ?_
      refine JL.skip (d := some 29) rfl rfl rfl ?_
      refine JL.skip (d := some 30) rfl rfl rfl ?_
      refine JL.val (v := .bool true) (QV.pickT rfl rfl) rfl rfl rfl ?_
      refine JL.nil ?_
      refine QJ.then_normal ?_
      refine JC.condT rfl ?_
      refine JC.seq ?_
      refine JC.region ?_
      obtain ⟨y11, hc12, hm⟩ := bind_inv hm
      refine JL.mv (d := some 32) (MV.call (Lo := []) (Lr := [Asr.vw (Enc.int .u8) (s1.v) x2, Asr.vw (Enc.int .u8) (s3.v) x4]) (F47.spec _ hc12) rfl Try.func47 rfl rfl rfl [] [0, 1] rfl rfl rfl trivial) rfl rfl rfl ?_
      rintro _ _ ⟨_, ⟨rfl, rfl⟩, rfl⟩
      refine JL.val (v := .bool y11) (QV.assign rfl) rfl rfl rfl ?_
      refine JL.nil ?_
      refine QJ.then_normal ?_
      refine JC.ret ?_
      refine QJ.then_ret ?_
      obtain rfl := Option.some.inj hm
      exact QJ.body (vs := [.bool y11]) (.inl rfl) rfl (ResVs.cons (ResV.tmp rfl) ResVs.nil) [] rfl rfl (.inr trivial) ⟨rfl, rfl⟩
    ·
      refine JL.val (v := .bool false) (QV.eq (QV.move rfl) (congrArg Value.bool (decide_eq_false h10))) rfl rfl rfl ?_
      refine JL.val (v := s1.v) (QV.move rfl) rfl rfl rfl ?_
      obtain ⟨y13, hc14, hm⟩ := bind_inv hm
      refine JL.mv (d := some 29) (MV.call (Lo := []) (Lr := [Asr.vw (Enc.int .u8) (s1.v) x2, Asr.vw (Enc.int .u8) (s3.v) x4]) (F50.spec (s1) (x2) _ hc14) rfl Try.func50 rfl rfl rfl [] [0, 1] rfl rfl rfl ⟨(Drv.vw 0 rfl), trivial⟩) rfl rfl rfl ?_
      rintro _ _ ⟨_, ⟨rfl, rfl⟩, rfl⟩
      refine JL.val (v := .bool (!y13)) (QV.not rfl) rfl rfl rfl ?_
      refine JL.val (v := .bool (!y13)) (QV.pickF rfl rfl) rfl rfl rfl ?_
      refine JL.nil ?_
      refine QJ.then_normal ?_
      rcases ite_inv hm with ⟨h15, hm⟩ | ⟨h15, hm⟩
      ·
        refine JC.condF' rfl (congrArg Bool.not h15) ?_
        refine JC.skip ?_
        refine QJ.then_normal ?_
        refine JC.seq ?_
        refine JC.region ?_
        refine JL.val (v := s1.v) (QV.move rfl) rfl rfl rfl ?_
        obtain ⟨y16, hc17, hm⟩ := bind_inv hm
        rcases y16 with y18 | y19
        ·
          refine JL.mv (d := some 35) (MV.call (Lo := []) (Lr := [Asr.vw (Enc.int .u8) (s1.v) x2, Asr.vw (Enc.int .u8) (s3.v) x4]) (F49.spec (s1) (x2) _ hc17) rfl Try.func49 rfl rfl rfl [] [0, 1] rfl rfl rfl ⟨(Drv.vw 0 rfl), trivial⟩) rfl rfl rfl ?_
          rintro _ _ ⟨_, ⟨b20, z21, rfl, rfl⟩, rfl⟩
          refine JL.val (v := .tuple #[.pointer (some ⟨b20, 0, none⟩), .int .i64 (0 : Int)]) (QV.move rfl) rfl rfl rfl ?_
          refine JL.val (v := .pointer (some ⟨b20, 0, none⟩)) (QV.extract (vs := [.pointer (some ⟨b20, 0, none⟩), .int .i64 (0 : Int)]) rfl rfl) rfl rfl rfl ?_
          refine JL.val (v := .int .i64 (0 : Int)) (QV.extract (vs := [.pointer (some ⟨b20, 0, none⟩), .int .i64 (0 : Int)]) rfl rfl) rfl rfl rfl ?_
          refine JL.val (v := .pointer (some ⟨b20, 0, none⟩)) (QV.assign rfl) rfl rfl rfl ?_
          refine JL.val (v := .int .i64 (0 : Int)) (QV.assign rfl) rfl rfl rfl ?_
          refine JL.nil ?_
          refine QJ.then_normal ?_
          refine JC.seq ?_
          refine JC.region ?_
          refine JL.val (v := s3.v) (QV.move rfl) rfl rfl rfl ?_
          obtain ⟨y22, hc23, hm⟩ := bind_inv hm
          refine JL.mv (d := some 39) (MV.call (Lo := []) (Lr := [Asr.of 3 (Enc.int .i64) (z21.v) y18.2.2.2, Asr.blk b20 107 [Seg.of (Enc.arr 16 (Enc.int .i64)) y18.1, Seg.of (Enc.arr 16 (Enc.int .i64)) y18.2.1, Seg.of (Enc.arr 16 (Enc.int .i64)) y18.2.2.1, Seg.c (z21.v)], Asr.vw (Enc.int .u8) (s1.v) x2, Asr.vw (Enc.int .u8) (s3.v) x4]) (F38.spec (s3) (x4) _ hc23) rfl Try.func38 rfl rfl rfl [] [0, 1, 2, 3] rfl rfl rfl ⟨(Drv.vw 3 rfl), trivial⟩) rfl rfl rfl ?_
          rintro _ _ ⟨_, ⟨b24, z25, rfl, rfl⟩, rfl⟩
          refine JL.val (v := .pointer (some ⟨b24, 0, none⟩)) (QV.assign rfl) rfl rfl rfl ?_
          refine JL.nil ?_
          refine QJ.then_normal ?_
          refine JC.seq ?_
          refine JC.seq ?_
          refine JC.region ?_
          refine JL.val (v := .pointer (some ⟨b20, 0, none⟩)) (QV.move rfl) rfl rfl rfl ?_
          refine JL.val (v := .bool false) ((QV.eq (QV.eqlP Try.underlying66 rfl rfl (.inr rfl)) (by simp))) rfl rfl rfl ?_
          refine JL.val (v := .bool false) (QV.move rfl) rfl rfl rfl ?_
          refine JL.val (v := .int .i64 (0 : Int)) (QV.move rfl) rfl rfl rfl ?_
          refine JL.val (v := .bool (!(decide ((0 : Int) = (0 : Int))))) (QV.neq rfl rfl) rfl rfl rfl ?_
          refine JL.val (v := .bool (!(decide ((0 : Int) = (0 : Int))))) (QV.pickF rfl rfl) rfl rfl rfl ?_
          refine JL.nil ?_
          refine QJ.then_normal ?_
          rcases ite_inv hm with ⟨h26, hm⟩ | ⟨h26, hm⟩
          ·
            refine JC.condF' rfl (congrArg Bool.not (decide_eq_true h26)) ?_
            refine JC.skip ?_
            refine QJ.then_normal ?_
            refine JC.seq ?_
            refine JC.region ?_
            refine JL.val (v := s3.v) (QV.move rfl) rfl rfl rfl ?_
            obtain ⟨y27, hc28, hm⟩ := bind_inv hm
            refine JL.mv (d := some 47) (MV.call (Lo := []) (Lr := [Asr.of 5 (Enc.int .u8) (z25.v) y22, Asr.blk b24 101 [Seg.c (z25.v), Seg.c (.int .i64 (0 : Int))], Asr.of 3 (Enc.int .i64) (z21.v) y18.2.2.2, Asr.blk b20 107 [Seg.of (Enc.arr 16 (Enc.int .i64)) y18.1, Seg.of (Enc.arr 16 (Enc.int .i64)) y18.2.1, Seg.of (Enc.arr 16 (Enc.int .i64)) y18.2.2.1, Seg.c (z21.v)], Asr.vw (Enc.int .u8) (s1.v) x2, Asr.vw (Enc.int .u8) (s3.v) x4]) (F33.spec (s3) (x4) _ hc28) rfl Try.func33 rfl rfl rfl [] [0, 1, 2, 3, 4, 5] rfl rfl rfl ⟨(Drv.vw 5 rfl), trivial⟩) rfl rfl rfl ?_
            rintro _ _ ⟨_, ⟨z29, rfl, rfl⟩, rfl⟩
            refine JL.val (v := z29.v) (QV.assign rfl) rfl rfl rfl ?_
            refine JL.nil ?_
            refine QJ.then_normal ?_
            refine JC.seq ?_
            refine JC.region ?_
            refine JL.val (v := s1.v) (QV.move rfl) rfl rfl rfl ?_
            obtain ⟨y30, hc31, hm⟩ := bind_inv hm
            refine JL.mv (d := some 49) (MV.call (Lo := []) (Lr := [Asr.of 5 (Enc.int .u8) (z29.v) y27, Asr.of 5 (Enc.int .u8) (z25.v) y22, Asr.blk b24 101 [Seg.c (z25.v), Seg.c (.int .i64 (0 : Int))], Asr.of 3 (Enc.int .i64) (z21.v) y18.2.2.2, Asr.blk b20 107 [Seg.of (Enc.arr 16 (Enc.int .i64)) y18.1, Seg.of (Enc.arr 16 (Enc.int .i64)) y18.2.1, Seg.of (Enc.arr 16 (Enc.int .i64)) y18.2.2.1, Seg.c (z21.v)], Asr.vw (Enc.int .u8) (s1.v) x2, Asr.vw (Enc.int .u8) (s3.v) x4]) (F52.spec (s1) (x2) _ hc31) rfl Try.func52 rfl rfl rfl [] [0, 1, 2, 3, 4, 5, 6] rfl rfl rfl ⟨(Drv.vw 5 rfl), trivial⟩) rfl rfl rfl ?_
            rintro _ _ ⟨_, ⟨z32, rfl, rfl⟩, rfl⟩
            refine JL.val (v := z32.v) (QV.assign rfl) rfl rfl rfl ?_
            refine JL.nil ?_
            refine QJ.then_normal ?_
            refine JC.seq ?_
            refine JC.region ?_
            refine JL.val (v := .int .i64 (0 : Int)) (QV.assign rfl) rfl rfl rfl ?_
            refine JL.nil ?_
            refine QJ.then_normal ?_
            refine JC.seq ?_
            refine JC.seq ?_
            refine JC.region ?_
            refine JL.val (v := .pointer (some ⟨b24, 0, none⟩)) (QV.move rfl) rfl rfl rfl ?_
            refine JL.val (v := .int .i64 x5) (QV.move rfl) rfl rfl rfl ?_
            obtain ⟨y33, hc34, hm⟩ := bind_inv hm
            refine JL.mv (d := some 52) (MV.call (Lo := [Asr.blk b24 101 [Seg.c (z25.v), Seg.c (.int .i64 (0 : Int))], Asr.of 5 (Enc.int .u8) (z25.v) y22]) (Lr := [Asr.of 32 (Enc.int .u16) (z32.v) y30, Asr.of 5 (Enc.int .u8) (z29.v) y27, Asr.of 3 (Enc.int .i64) (z21.v) y18.2.2.2, Asr.blk b20 107 [Seg.of (Enc.arr 16 (Enc.int .i64)) y18.1, Seg.of (Enc.arr 16 (Enc.int .i64)) y18.2.1, Seg.of (Enc.arr 16 (Enc.int .i64)) y18.2.2.1, Seg.c (z21.v)], Asr.vw (Enc.int .u8) (s1.v) x2, Asr.vw (Enc.int .u8) (s3.v) x4]) (F45.spec (b24) (z25) (y22) ((0 : Int)) (x5) _ hc34) rfl Try.func45 rfl rfl rfl [3, 2] [0, 1, 4, 5, 6, 7] rfl rfl rfl trivial) rfl rfl rfl ?_
            rintro _ _ ⟨_, ⟨rfl, rfl⟩, rfl⟩
            refine JL.val (v := .bool (decide (y33.1 = (0 : Int)))) (QV.eql rfl rfl) rfl rfl rfl ?_
            refine JL.nil ?_
            refine QJ.then_normal ?_
            refine JC.cutK (Y := Int × Unit) (fun y => match y with | (d35, _) => F12.j1 x2 y18 y22 y27 y30 y33 (d35) = some r) (fun y => match y with | (d35, _) => [(0, s1.v), (7, .pointer (some ⟨b20, 0, none⟩)), (9, .pointer (some ⟨b24, 0, none⟩)), (10, z29.v), (11, z32.v), (12, .int .i64 d35)]) (fun y => match y with | (d35, _) => [Asr.vw (Enc.int .u8) (s1.v) x2, Asr.of 3 (Enc.int .i64) (z21.v) y18.2.2.2, Asr.blk b20 107 [Seg.of (Enc.arr 16 (Enc.int .i64)) y18.1, Seg.of (Enc.arr 16 (Enc.int .i64)) y18.2.1, Seg.of (Enc.arr 16 (Enc.int .i64)) y18.2.2.1, Seg.c (z21.v)], Asr.of 5 (Enc.int .u8) (z25.v) y22, Asr.blk b24 101 [Seg.c (z25.v), Seg.c (.int .i64 y33.2)], Asr.of 5 (Enc.int .u8) (z29.v) y27, Asr.of 32 (Enc.int .u16) (z32.v) y30]) ?_ ?_
            ·
              rintro ⟨d35, ⟨⟩⟩ hm
              unfold F12.j1 at hm
              show QJ _ _ [(0, s1.v), (7, .pointer (some ⟨b20, 0, none⟩)), (9, .pointer (some ⟨b24, 0, none⟩)), (10, z29.v), (11, z32.v), (12, .int .i64 d35)] [Asr.vw (Enc.int .u8) (s1.v) x2, Asr.of 3 (Enc.int .i64) (z21.v) y18.2.2.2, Asr.blk b20 107 [Seg.of (Enc.arr 16 (Enc.int .i64)) y18.1, Seg.of (Enc.arr 16 (Enc.int .i64)) y18.2.1, Seg.of (Enc.arr 16 (Enc.int .i64)) y18.2.2.1, Seg.c (z21.v)], Asr.of 5 (Enc.int .u8) (z25.v) y22, Asr.blk b24 101 [Seg.c (z25.v), Seg.c (.int .i64 y33.2)], Asr.of 5 (Enc.int .u8) (z29.v) y27, Asr.of 32 (Enc.int .u16) (z32.v) y30] _ _
              refine QJ.then_normal ?_
              refine JC.seq ?_
              refine JC.seq ?_
              refine JC.region ?_
              refine JL.val (v := .int .i64 (0 : Int)) (QV.assign rfl) rfl rfl rfl ?_
              refine JL.nil ?_
              refine QJ.then_normal ?_
              refine JC.cutK (Y := Unit × Unit) (fun y => match y with | (_, _) => F12.j2 = some r) (fun y => match y with | (_, _) => []) (fun y => match y with | (_, _) => []) ?_ ?_
              ·
                rintro ⟨⟨⟩, ⟨⟩⟩ hm
                unfold F12.j2 at hm
                show QJ _ _ [] [] _ _
                refine QJ.then_normal ?_
                refine JC.seq ?_
                refine JC.region ?_
                obtain ⟨y36, hc37, hm⟩ := bind_inv hm
                refine JL.mv (d := some 95) (MV.call (Lo := []) (Lr := []) (F47.spec _ hc37) rfl Try.func47 rfl rfl rfl [] [] rfl rfl rfl trivial) rfl rfl rfl ?_
                rintro _ _ ⟨_, ⟨rfl, rfl⟩, rfl⟩
                refine JL.val (v := .bool y36) (QV.assign rfl) rfl rfl rfl ?_
                refine JL.nil ?_
                refine QJ.then_normal ?_
                refine JC.ret ?_
                obtain rfl := Option.some.inj hm
                exact QJ.body (vs := [.bool y36]) (.inl rfl) rfl (ResVs.cons (ResV.tmp rfl) ResVs.nil) [] rfl rfl (.inr trivial) ⟨rfl, rfl⟩
              ·
                refine JC.block ?_
                obtain ⟨y44, hl45, hmo46⟩ := bind_inv hm
                refine JC.loop (F12.b1 x2 y18 y22 y27 y30) (fun x z => match x, z with | (d38, d39, d40), _ => [(0, s1.v), (7, .pointer (some ⟨b20, 0, none⟩)), (9, .pointer (some ⟨b24, 0, none⟩)), (10, z29.v), (11, z32.v), (12, .int .i64 d39), (13, .int .i64 d40)]) (fun x z => match x, z with | (d38, d39, d40), _ => [Asr.vw (Enc.int .u8) (s1.v) x2, Asr.of 3 (Enc.int .i64) (z21.v) y18.2.2.2, Asr.blk b20 107 [Seg.of (Enc.arr 16 (Enc.int .i64)) y18.1, Seg.of (Enc.arr 16 (Enc.int .i64)) y18.2.1, Seg.of (Enc.arr 16 (Enc.int .i64)) y18.2.2.1, Seg.c (z21.v)], Asr.of 5 (Enc.int .u8) (z25.v) y22, Asr.blk b24 101 [Seg.c (z25.v), Seg.c (.int .i64 d38)], Asr.of 5 (Enc.int .u8) (z29.v) y27, Asr.of 32 (Enc.int .u16) (z32.v) y30]) (y33.2, d35, (0 : Int)) () y44 hl45 [0, 1, 2, 3, 4, 5, 6] (by exact ⟨rfl, rfl, rfl, rfl, rfl, rfl, rfl, trivial⟩) rfl rfl ?_
                rintro ⟨d38, d39, d40⟩ ⟨⟩ s47 hm
                unfold F12.b1 at hm
                dsimp only at hm
                show JC _ _ _ [(0, s1.v), (7, .pointer (some ⟨b20, 0, none⟩)), (9, .pointer (some ⟨b24, 0, none⟩)), (10, z29.v), (11, z32.v), (12, .int .i64 d39), (13, .int .i64 d40)] [Asr.vw (Enc.int .u8) (s1.v) x2, Asr.of 3 (Enc.int .i64) (z21.v) y18.2.2.2, Asr.blk b20 107 [Seg.of (Enc.arr 16 (Enc.int .i64)) y18.1, Seg.of (Enc.arr 16 (Enc.int .i64)) y18.2.1, Seg.of (Enc.arr 16 (Enc.int .i64)) y18.2.2.1, Seg.c (z21.v)], Asr.of 5 (Enc.int .u8) (z25.v) y22, Asr.blk b24 101 [Seg.c (z25.v), Seg.c (.int .i64 d38)], Asr.of 5 (Enc.int .u8) (z29.v) y27, Asr.of 32 (Enc.int .u16) (z32.v) y30] _ _
                refine JC.seq ?_
                refine JC.seq ?_
                refine JC.region ?_
                refine JL.val (v := .int .i64 d40) (QV.move rfl) rfl rfl rfl ?_
                refine JL.val (v := .bool (decide (d40 < (60 : Int)))) (QV.lss rfl rfl) rfl rfl rfl ?_
                refine JL.nil ?_
                refine QJ.then_normal ?_
                rcases ite_inv hm with ⟨h48, hm⟩ | ⟨h48, hm⟩
                ·
                  refine JC.condT' rfl (decide_eq_true h48) ?_
                  refine JC.skip ?_
                  refine QJ.then_normal ?_
                  refine JC.seq ?_
                  refine JC.block ?_
                  refine JC.seq ?_
                  refine JC.region ?_
                  refine JL.val (v := .pointer (some ⟨b20, 0, none⟩)) (QV.move rfl) rfl rfl rfl ?_
                  refine JL.val (v := .pointer (some ⟨b24, 0, none⟩)) (QV.move rfl) rfl rfl rfl ?_
                  obtain ⟨y49, hc50, hm⟩ := bind_inv hm
                  refine JL.mv (d := some 62) (MV.call (Lo := [Asr.blk b20 107 [Seg.of (Enc.arr 16 (Enc.int .i64)) y18.1, Seg.of (Enc.arr 16 (Enc.int .i64)) y18.2.1, Seg.of (Enc.arr 16 (Enc.int .i64)) y18.2.2.1, Seg.c (z21.v)], Asr.of 3 (Enc.int .i64) (z21.v) y18.2.2.2, Asr.blk b24 101 [Seg.c (z25.v), Seg.c (.int .i64 d38)], Asr.of 5 (Enc.int .u8) (z25.v) y22]) (Lr := [Asr.vw (Enc.int .u8) (s1.v) x2, Asr.of 5 (Enc.int .u8) (z29.v) y27, Asr.of 32 (Enc.int .u16) (z32.v) y30]) (F53.spec (b20) (z21) (b24) (z25) (y18.1) (y18.2.1) (y18.2.2.1) (y18.2.2.2) (y22) (d38) _ hc50) rfl Try.func53 rfl rfl rfl [2, 1, 4, 3] [0, 5, 6] rfl rfl rfl trivial) rfl rfl rfl ?_
                  rintro _ _ ⟨_, ⟨rfl, rfl⟩, rfl⟩
                  refine JL.val (v := .tuple #[.int .i64 y49.1, .int .i64 y49.2.1]) (QV.move rfl) rfl rfl rfl ?_
                  refine JL.val (v := .int .i64 y49.1) (QV.extract (vs := [.int .i64 y49.1, .int .i64 y49.2.1]) rfl rfl) rfl rfl rfl ?_
                  refine JL.val (v := .int .i64 y49.2.1) (QV.extract (vs := [.int .i64 y49.1, .int .i64 y49.2.1]) rfl rfl) rfl rfl rfl ?_
                  refine JL.val (v := .int .i64 y49.1) (QV.assign rfl) rfl rfl rfl ?_
                  refine JL.val (v := .int .i64 y49.2.1) (QV.assign rfl) rfl rfl rfl ?_
                  refine JL.nil ?_
                  refine QJ.then_normal ?_
                  refine JC.seq ?_
                  refine JC.region ?_
                  refine JL.val (v := s1.v) (QV.move rfl) rfl rfl rfl ?_
                  refine JL.val (v := z32.v) (QV.move rfl) rfl rfl rfl ?_
                  refine JL.val (v := z29.v) (QV.move rfl) rfl rfl rfl ?_
                  refine JL.val (v := .int .i64 d39) (QV.move rfl) rfl rfl rfl ?_
                  obtain ⟨h51, hm⟩ := guard_inv hm
                  refine JL.val (v := (SlV.sub ((Enc.int .u8)).sz z29 d39 ((y27).length : Int)).v) (QV.sliceV (Rdg.of 5 rfl) Try.underlying26 tk_5 rfl rfl rfl h51) rfl rfl rfl ?_
                  obtain ⟨y52, hc53, hm⟩ := bind_inv hm
                  refine JL.mv (d := some 71) (MV.call (Lo := []) (Lr := [Asr.of 3 (Enc.int .i64) (z21.v) y18.2.2.2, Asr.blk b20 107 [Seg.of (Enc.arr 16 (Enc.int .i64)) y18.1, Seg.of (Enc.arr 16 (Enc.int .i64)) y18.2.1, Seg.of (Enc.arr 16 (Enc.int .i64)) y18.2.2.1, Seg.c (z21.v)], Asr.of 5 (Enc.int .u8) (z25.v) y22, Asr.blk b24 101 [Seg.c (z25.v), Seg.c (.int .i64 y49.2.2)], Asr.vw (Enc.int .u8) (s1.v) x2, Asr.of 5 (Enc.int .u8) (z29.v) y27, Asr.of 32 (Enc.int .u16) (z32.v) y30]) (F54.spec (s1) (z32) ((SlV.sub ((Enc.int .u8)).sz z29 d39 ((y27).length : Int))) (x2) (y30) ((subL y27 d39 ((y27).length : Int))) _ hc53) rfl Try.func54 rfl rfl rfl [] [0, 1, 2, 3, 4, 5, 6] rfl rfl rfl ⟨(Drv.vw 4 rfl), ⟨(Drv.of 6 rfl), ⟨((Drv.of 5 rfl).subV h51), trivial⟩⟩⟩) rfl rfl rfl ?_
                  rintro _ _ ⟨_, ⟨rfl, rfl⟩, rfl⟩
                  refine JL.val (v := .tuple #[.int .i64 y52.1, .int .i64 y52.2.1, .int .i64 y52.2.2]) (QV.move rfl) rfl rfl rfl ?_
                  refine JL.val (v := .int .i64 y52.1) (QV.extract (vs := [.int .i64 y52.1, .int .i64 y52.2.1, .int .i64 y52.2.2]) rfl rfl) rfl rfl rfl ?_
                  refine JL.val (v := .int .i64 y52.2.1) (QV.extract (vs := [.int .i64 y52.1, .int .i64 y52.2.1, .int .i64 y52.2.2]) rfl rfl) rfl rfl rfl ?_
                  refine JL.val (v := .int .i64 y52.2.2) (QV.extract (vs := [.int .i64 y52.1, .int .i64 y52.2.1, .int .i64 y52.2.2]) rfl rfl) rfl rfl rfl ?_
                  refine JL.val (v := .int .i64 y52.1) (QV.assign rfl) rfl rfl rfl ?_
                  refine JL.val (v := .int .i64 y52.2.1) (QV.assign rfl) rfl rfl rfl ?_
                  refine JL.val (v := .int .i64 y52.2.2) (QV.assign rfl) rfl rfl rfl ?_
                  refine JL.nil ?_
                  refine QJ.then_normal ?_
                  refine JC.seq ?_
                  refine JC.region ?_
                  refine JL.val (v := .int .i64 d39) (QV.move rfl) rfl rfl rfl ?_
                  refine JL.val (v := .int .i64 y52.2.1) (QV.move rfl) rfl rfl rfl ?_
                  refine JL.val (v := .int .i64 (IntKind.wrap .i64 (d39 + y52.2.1))) (QV.add rfl rfl) rfl rfl rfl ?_
                  refine JL.val (v := .int .i64 (IntKind.wrap .i64 (d39 + y52.2.1))) (QV.assign rfl) rfl rfl rfl ?_
                  refine JL.nil ?_
                  refine QJ.then_normal ?_
                  refine JC.seq ?_
                  refine JC.seq ?_
                  refine JC.region ?_
                  refine JL.val (v := .int .i64 y49.1) (QV.move rfl) rfl rfl rfl ?_
                  refine JL.val (v := .int .i64 y52.1) (QV.move rfl) rfl rfl rfl ?_
                  refine JL.val (v := .bool (!(decide (y49.1 = y52.1)))) (QV.neq rfl rfl) rfl rfl rfl ?_
                  rcases ite_inv hm with ⟨h54, hm⟩ | ⟨h54, hm⟩
                  ·
                    refine JL.val (v := .bool false) (QV.eq (QV.move rfl) (congrArg Value.bool (congrArg Bool.not (decide_eq_true h54)))) rfl rfl rfl ?_
                    refine JL.val (v := .int .i64 y49.2.1) (QV.move rfl) rfl rfl rfl ?_
                    refine JL.val (v := .int .i64 y52.2.2) (QV.move rfl) rfl rfl rfl ?_
                    refine JL.val (v := .bool (!(decide (y49.2.1 = y52.2.2)))) (QV.neq rfl rfl) rfl rfl rfl ?_
                    refine JL.val (v := .bool (!(decide (y49.2.1 = y52.2.2)))) (QV.pickF rfl rfl) rfl rfl rfl ?_
                    rcases ite_inv hm with ⟨h55, hm⟩ | ⟨h55, hm⟩
                    ·
                      refine JL.val (v := .bool false) (QV.eq (QV.move rfl) (congrArg Value.bool (congrArg Bool.not (decide_eq_true h55)))) rfl rfl rfl ?_
                      refine JL.val (v := .pointer (some ⟨b24, 0, none⟩)) (QV.move rfl) rfl rfl rfl ?_
                      obtain ⟨y56, hc57, hm⟩ := bind_inv hm
                      refine JL.mv (d := some 88) (MV.call (Lo := [Asr.blk b24 101 [Seg.c (z25.v), Seg.c (.int .i64 y49.2.2)], Asr.of 5 (Enc.int .u8) (z25.v) y22]) (Lr := [Asr.of 3 (Enc.int .i64) (z21.v) y18.2.2.2, Asr.blk b20 107 [Seg.of (Enc.arr 16 (Enc.int .i64)) y18.1, Seg.of (Enc.arr 16 (Enc.int .i64)) y18.2.1, Seg.of (Enc.arr 16 (Enc.int .i64)) y18.2.2.1, Seg.c (z21.v)], Asr.vw (Enc.int .u8) (s1.v) x2, Asr.of 5 (Enc.int .u8) (z29.v) y27, Asr.of 32 (Enc.int .u16) (z32.v) y30]) (F46.spec (b24) (z25) (y22) (y49.2.2) _ hc57) rfl Try.func46 rfl rfl rfl [3, 2] [0, 1, 4, 5, 6] rfl rfl rfl trivial) rfl rfl rfl ?_
                      rintro _ _ ⟨_, ⟨rfl, rfl⟩, rfl⟩
                      refine JL.val (v := .int .i64 (IntKind.wrap .i64 (d39 + y52.2.1))) (QV.move rfl) rfl rfl rfl ?_
                      refine JL.val (v := .bool (!(decide (y49.2.2 = (IntKind.wrap .i64 (d39 + y52.2.1)))))) (QV.neq rfl rfl) rfl rfl rfl ?_
                      refine JL.val (v := .bool (!(decide (y49.2.2 = (IntKind.wrap .i64 (d39 + y52.2.1)))))) (QV.pickF rfl rfl) rfl rfl rfl ?_
                      refine JL.nil ?_
                      refine QJ.then_normal ?_
                      rcases ite_inv hm with ⟨h58, hm⟩ | ⟨h58, hm⟩
                      ·
                        refine JC.condF' rfl (congrArg Bool.not (decide_eq_true h58)) ?_
                        refine JC.skip ?_
                        refine QJ.then_normal ?_
                        refine JC.seq ?_
                        refine JC.region ?_
                        refine JL.val (v := .int .i64 y52.2.2) (QV.move rfl) rfl rfl rfl ?_
                        refine JL.val (v := .bool (!(decide (y52.2.2 = (0 : Int))))) (QV.neq rfl rfl) rfl rfl rfl ?_
                        refine JL.nil ?_
                        refine QJ.then_normal ?_
                        rcases ite_inv hm with ⟨h59, hm⟩ | ⟨h59, hm⟩
                        ·
                          refine JC.condF' rfl (congrArg Bool.not (decide_eq_true h59)) ?_
                          refine JC.skip ?_
                          refine QJ.block_normal ?_
                          refine QJ.then_normal ?_
                          refine JC.region ?_
                          refine JL.val (v := .int .i64 d40) (QV.move rfl) rfl rfl rfl ?_
                          refine JL.val (v := .int .i64 (IntKind.wrap .i64 (d40 + (1 : Int)))) (QV.add rfl rfl) rfl rfl rfl ?_
                          refine JL.val (v := .int .i64 (IntKind.wrap .i64 (d40 + (1 : Int)))) (QV.assign rfl) rfl rfl rfl ?_
                          refine JL.nil ?_
                          obtain rfl := Option.some.inj hm
                          exact QJ.round_on (y49.2.2, (IntKind.wrap .i64 (d39 + y52.2.1)), (IntKind.wrap .i64 (d40 + (1 : Int)))) () [4, 2, 3, 0, 1, 5, 6] (by exact ⟨rfl, rfl, rfl, rfl, rfl, rfl, rfl, trivial⟩) rfl rfl
                        ·
                          refine JC.condT' rfl (congrArg Bool.not (decide_eq_false h59)) ?_
                          refine JC.seq ?_
                          refine JC.region ?_
                          obtain ⟨y60, hc61, hm⟩ := bind_inv hm
                          refine JL.mv (d := some 94) (MV.call (Lo := []) (Lr := [Asr.of 5 (Enc.int .u8) (z25.v) y22, Asr.blk b24 101 [Seg.c (z25.v), Seg.c (.int .i64 y49.2.2)], Asr.of 3 (Enc.int .i64) (z21.v) y18.2.2.2, Asr.blk b20 107 [Seg.of (Enc.arr 16 (Enc.int .i64)) y18.1, Seg.of (Enc.arr 16 (Enc.int .i64)) y18.2.1, Seg.of (Enc.arr 16 (Enc.int .i64)) y18.2.2.1, Seg.c (z21.v)], Asr.vw (Enc.int .u8) (s1.v) x2, Asr.of 5 (Enc.int .u8) (z29.v) y27, Asr.of 32 (Enc.int .u16) (z32.v) y30]) (F47.spec _ hc61) rfl Try.func47 rfl rfl rfl [] [0, 1, 2, 3, 4, 5, 6] rfl rfl rfl trivial) rfl rfl rfl ?_
                          rintro _ _ ⟨_, ⟨rfl, rfl⟩, rfl⟩
                          refine JL.val (v := .bool y60) (QV.assign rfl) rfl rfl rfl ?_
                          refine JL.nil ?_
                          refine QJ.then_normal ?_
                          refine JC.ret ?_
                          refine QJ.block_ret ?_
                          refine QJ.then_ret ?_
                          obtain rfl := Option.some.inj hm
                          refine QJ.round_ret (fun hy => ?_)
                          subst hy
                          refine QJ.block_ret ?_
                          refine QJ.cut_ret ?_
                          refine QJ.then_ret ?_
                          obtain rfl := Option.some.inj hmo46
                          exact QJ.body (vs := [.bool y60]) (.inl rfl) rfl (ResVs.cons (ResV.tmp rfl) ResVs.nil) [] rfl rfl (.inr trivial) ⟨rfl, rfl⟩
                      ·
                        refine JC.condT' rfl (congrArg Bool.not (decide_eq_false h58)) ?_
                        refine JC.seq ?_
                        refine JC.region ?_
                        refine JL.val (v := .bool false) (QV.assign rfl) rfl rfl rfl ?_
                        refine JL.nil ?_
                        refine QJ.then_normal ?_
                        refine JC.ret ?_
                        refine QJ.then_ret ?_
                        refine QJ.block_ret ?_
                        refine QJ.then_ret ?_
                        obtain rfl := Option.some.inj hm
                        refine QJ.round_ret (fun hy => ?_)
                        subst hy
                        refine QJ.block_ret ?_
                        refine QJ.cut_ret ?_
                        refine QJ.then_ret ?_
                        obtain rfl := Option.some.inj hmo46
                        exact QJ.body (vs := [.bool false]) (.inl rfl) rfl (ResVs.cons (ResV.tmp rfl) ResVs.nil) [] rfl rfl (.inr trivial) ⟨rfl, rfl⟩
                    ·
                      refine JL.val (v := .bool true) (QV.eq (QV.move rfl) (congrArg Value.bool (congrArg Bool.not (decide_eq_false h55)))) rfl rfl rfl ?_
                      refine JL.skip (d := some 87) rfl rfl rfl ?_
                      refine JL.skip (d := some 88) rfl rfl rfl ?_
                      refine JL.skip (d := some 89) rfl rfl rfl ?_
                      refine JL.skip (d := some 90) rfl rfl rfl ?_
                      refine JL.val (v := .bool true) (QV.pickT rfl rfl) rfl rfl rfl ?_
                      refine JL.nil ?_
                      refine QJ.then_normal ?_
                      refine JC.condT rfl ?_
                      refine JC.seq ?_
                      refine JC.region ?_
                      refine JL.val (v := .bool false) (QV.assign rfl) rfl rfl rfl ?_
                      refine JL.nil ?_
                      refine QJ.then_normal ?_
                      refine JC.ret ?_
                      refine QJ.then_ret ?_
                      refine QJ.block_ret ?_
                      refine QJ.then_ret ?_
                      obtain rfl := Option.some.inj hm
                      refine QJ.round_ret (fun hy => ?_)
                      subst hy
                      refine QJ.block_ret ?_
                      refine QJ.cut_ret ?_
                      refine QJ.then_ret ?_
                      obtain rfl := Option.some.inj hmo46
                      exact QJ.body (vs := [.bool false]) (.inl rfl) rfl (ResVs.cons (ResV.tmp rfl) ResVs.nil) [] rfl rfl (.inr trivial) ⟨rfl, rfl⟩
                  ·
                    refine JL.val (v := .bool true) (QV.eq (QV.move rfl) (congrArg Value.bool (congrArg Bool.not (decide_eq_false h54)))) rfl rfl rfl ?_
                    refine JL.skip (d := some 82) rfl rfl rfl ?_
                    refine JL.skip (d := some 83) rfl rfl rfl ?_
                    refine JL.skip (d := some 84) rfl rfl rfl ?_
                    refine JL.val (v := .bool true) (QV.pickT rfl rfl) rfl rfl rfl ?_
                    refine JL.val (v := .bool true) (QV.move rfl) rfl rfl rfl ?_
                    refine JL.skip (d := some 87) rfl rfl rfl ?_
                    refine JL.skip (d := some 88) rfl rfl rfl ?_
                    refine JL.skip (d := some 89) rfl rfl rfl ?_
                    refine JL.skip (d := some 90) rfl rfl rfl ?_
                    refine JL.val (v := .bool true) (QV.pickT rfl rfl) rfl rfl rfl ?_
                    refine JL.nil ?_
                    refine QJ.then_normal ?_
                    refine JC.condT rfl ?_
                    refine JC.seq ?_
                    refine JC.region ?_
                    refine JL.val (v := .bool false) (QV.assign rfl) rfl rfl rfl ?_
                    refine JL.nil ?_
                    refine QJ.then_normal ?_
                    refine JC.ret ?_
                    refine QJ.then_ret ?_
                    refine QJ.block_ret ?_
                    refine QJ.then_ret ?_
                    obtain rfl := Option.some.inj hm
                    refine QJ.round_ret (fun hy => ?_)
                    subst hy
                    refine QJ.block_ret ?_
                    refine QJ.cut_ret ?_
                    refine QJ.then_ret ?_
                    obtain rfl := Option.some.inj hmo46
                    exact QJ.body (vs := [.bool false]) (.inl rfl) rfl (ResVs.cons (ResV.tmp rfl) ResVs.nil) [] rfl rfl (.inr trivial) ⟨rfl, rfl⟩
                ·
                  refine JC.condF' rfl (decide_eq_false h48) ?_
                  refine JC.exit ?_
                  refine QJ.then_exit ?_
                  obtain rfl := Option.some.inj hm
                  refine QJ.round_exit (fun hy => ?_)
                  subst hy
                  refine QJ.block_hit ?_
                  exact QJ.cut_normal ((), ()) hmo46 [] trivial rfl rfl
            ·
              rcases ite_inv hm with ⟨h62, hm⟩ | ⟨h62, hm⟩
              ·
                refine JC.condT' rfl (decide_eq_true h62) ?_
                refine JC.region ?_
                refine JL.val (v := .int .i64 x5) (QV.move rfl) rfl rfl rfl ?_
                refine JL.val (v := .int .i64 x5) (QV.assign rfl) rfl rfl rfl ?_
                refine JL.nil ?_
                exact QJ.cut_normal (x5, ()) hm [6, 4, 5, 0, 1, 3, 2] (by exact ⟨rfl, rfl, rfl, rfl, rfl, rfl, trivial⟩) rfl rfl
              ·
                refine JC.condF' rfl (decide_eq_false h62) ?_
                refine JC.skip ?_
                exact QJ.cut_normal ((0 : Int), ()) hm [6, 4, 5, 0, 1, 3, 2] (by exact ⟨rfl, rfl, rfl, rfl, rfl, rfl, trivial⟩) rfl rfl
          ·
            refine JC.condT' rfl (congrArg Bool.not (decide_eq_false h26)) ?_
            refine JC.seq ?_
            refine JC.region ?_
            refine JL.val (v := .bool false) (QV.assign rfl) rfl rfl rfl ?_
            refine JL.nil ?_
            refine QJ.then_normal ?_
            refine JC.ret ?_
            refine QJ.then_ret ?_
            obtain rfl := Option.some.inj hm
            exact QJ.body (vs := [.bool false]) (.inl rfl) rfl (ResVs.cons (ResV.tmp rfl) ResVs.nil) [] rfl rfl (.inr trivial) ⟨rfl, rfl⟩
        ·
          refine JL.mv (d := some 35) (MV.call (Lo := []) (Lr := [Asr.vw (Enc.int .u8) (s1.v) x2, Asr.vw (Enc.int .u8) (s3.v) x4]) (F49.spec (s1) (x2) _ hc17) rfl Try.func49 rfl rfl rfl [] [0, 1] rfl rfl rfl ⟨(Drv.vw 0 rfl), trivial⟩) rfl rfl rfl ?_
          rintro _ _ ⟨_, ⟨rfl, rfl⟩, rfl⟩
          refine JL.val (v := .tuple #[.pointer none, .int .i64 (3 : Int)]) (QV.move rfl) rfl rfl rfl ?_
          refine JL.val (v := .pointer none) (QV.extract (vs := [.pointer none, .int .i64 (3 : Int)]) rfl rfl) rfl rfl rfl ?_
          refine JL.val (v := .int .i64 (3 : Int)) (QV.extract (vs := [.pointer none, .int .i64 (3 : Int)]) rfl rfl) rfl rfl rfl ?_
          refine JL.val (v := .pointer none) (QV.assign rfl) rfl rfl rfl ?_
          refine JL.val (v := .int .i64 (3 : Int)) (QV.assign rfl) rfl rfl rfl ?_
          refine JL.nil ?_
          refine QJ.then_normal ?_
          refine JC.seq ?_
          refine JC.region ?_
          refine JL.val (v := s3.v) (QV.move rfl) rfl rfl rfl ?_
          obtain ⟨y63, hc64, hm⟩ := bind_inv hm
          refine JL.mv (d := some 39) (MV.call (Lo := []) (Lr := [Asr.vw (Enc.int .u8) (s1.v) x2, Asr.vw (Enc.int .u8) (s3.v) x4]) (F38.spec (s3) (x4) _ hc64) rfl Try.func38 rfl rfl rfl [] [0, 1] rfl rfl rfl ⟨(Drv.vw 1 rfl), trivial⟩) rfl rfl rfl ?_
          rintro _ _ ⟨_, ⟨b65, z66, rfl, rfl⟩, rfl⟩
          refine JL.val (v := .pointer (some ⟨b65, 0, none⟩)) (QV.assign rfl) rfl rfl rfl ?_
          refine JL.nil ?_
          refine QJ.then_normal ?_
          refine JC.seq ?_
          refine JC.seq ?_
          refine JC.region ?_
          refine JL.val (v := .pointer none) (QV.move rfl) rfl rfl rfl ?_
          refine JL.val (v := .bool true) ((QV.eq (QV.eqlP Try.underlying66 rfl rfl (.inl rfl)) (by simp))) rfl rfl rfl ?_
          refine JL.val (v := .bool true) (QV.move rfl) rfl rfl rfl ?_
          refine JL.skip (d := some 43) rfl rfl rfl ?_
          refine JL.skip (d := some 44) rfl rfl rfl ?_
          refine JL.val (v := .bool true) (QV.pickT rfl rfl) rfl rfl rfl ?_
          refine JL.nil ?_
          refine QJ.then_normal ?_
          refine JC.condT rfl ?_
          refine JC.seq ?_
          refine JC.region ?_
          refine JL.val (v := .bool false) (QV.assign rfl) rfl rfl rfl ?_
          refine JL.nil ?_
          refine QJ.then_normal ?_
          refine JC.ret ?_
          refine QJ.then_ret ?_
          obtain rfl := Option.some.inj hm
          exact QJ.body (vs := [.bool false]) (.inl rfl) rfl (ResVs.cons (ResV.tmp rfl) ResVs.nil) [] rfl rfl (.inr trivial) ⟨rfl, rfl⟩
      ·
        refine JC.condT' rfl (congrArg Bool.not (bfalse h15)) ?_
        refine JC.seq ?_
        refine JC.region ?_
        obtain ⟨y67, hc68, hm⟩ := bind_inv hm
        refine JL.mv (d := some 32) (MV.call (Lo := []) (Lr := [Asr.vw (Enc.int .u8) (s1.v) x2, Asr.vw (Enc.int .u8) (s3.v) x4]) (F47.spec _ hc68) rfl Try.func47 rfl rfl rfl [] [0, 1] rfl rfl rfl trivial) rfl rfl rfl ?_
        rintro _ _ ⟨_, ⟨rfl, rfl⟩, rfl⟩
        refine JL.val (v := .bool y67) (QV.assign rfl) rfl rfl rfl ?_
        refine JL.nil ?_
        refine QJ.then_normal ?_
        refine JC.ret ?_
        refine QJ.then_ret ?_
        obtain rfl := Option.some.inj hm
        exact QJ.body (vs := [.bool y67]) (.inl rfl) rfl (ResVs.cons (ResV.tmp rfl) ResVs.nil) [] rfl rfl (.inr trivial) ⟨rfl, rfl⟩

end Go.Proofs.Ytpophpendlnehaa
