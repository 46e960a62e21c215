/- Written by gen.py: functions and their contracts. -/
import Derived.Test.YtgganckggdjpaaaLimx2
namespace Go.Proofs.Ytgganckggdjpaaa
open Go Go.Eng Go.Proofs
set_option linter.unusedVariables false
set_option linter.unusedSimpArgs false
/-! ### 25: drogher/drogherref10.Cost -/
noncomputable def F25.j1  (d6 : Int) : Option Int :=
  some d6
noncomputable def F25.j2 (d8 : Int) (d16 : Int) : Option ((Int × Int) ⊕ Int) :=
  some (.inl (d16, (IntKind.wrap .i64 (d8 + (1 : Int)))))
noncomputable def F25.b1 (x2 : List Int) (x4 : List Int) : (Int × Int) → Option ((Int × Int) ⊕ Int)
  | (d7, d8) => (if d8 < ((x2).length : Int) then (if d8 < ((x4).length : Int) then (if 0 ≤ d8 ∧ d8 < ((x2).length : Int) then (if 0 ≤ d8 ∧ d8 < ((x4).length : Int) then F25.j2 d8 ((IntKind.wrap .u64 (d7 + (IntKind.wrap .u64 ((IntKind.wrap .u64 (gd x2 d8)) * (IntKind.wrap .u64 (gd x4 d8))))))) else none) else none) else F25.j2 d8 (d7)) else some (.inr d7))
noncomputable def F25.m (x2 : List Int) (x4 : List Int) : Option Int :=
  ((loop (F25.b1 x2 x4) ((0 : Int), (0 : Int))).bind fun y => match y with | d6 => F25.j1 (d6))
set_option maxRecDepth 100000 in
set_option maxHeartbeats 4000000 in
theorem F25.spec (s1 : SlV) (s3 : SlV) (x2 : List Int) (x4 : List Int) (r : Int) (hm : F25.m x2 x4 = some r) :
    Ctr Try.prog false 25 [s1.v, s3.v] [Asr.vw (Enc.int .u32) (s1.v) x2, Asr.vw (Enc.int .u8) (s3.v) x4] (fun v L' => v = .int .u64 r ∧ L' = []) := by
  refine Ctr.intro (n := 31) (env := [(0, s1.v), (1, s3.v)]) Try.func25 rfl rfl rfl rfl (fun c => ?_)
  unfold F25.m at hm
  refine JC.seq ?_
  refine JC.region ?_
  refine JL.val (v := .int .u64 (0 : Int)) (QV.assign rfl) rfl rfl rfl ?_
  refine JL.nil ?_
  refine QJ.then_normal ?_
  refine JC.seq ?_
  refine JC.region ?_
  refine JL.val (v := .int .u64 (0 : Int)) (QV.assign rfl) rfl rfl rfl ?_
  refine JL.nil ?_
  refine QJ.then_normal ?_
  refine JC.seq ?_
  refine JC.seq ?_
  refine JC.region ?_
  refine JL.val (v := s1.v) (QV.move rfl) rfl rfl rfl ?_
  refine JL.val (v := .int .i64 ((x2).length : Int)) (QV.len (Rdg.vw 0 rfl) Try.underlying33 rfl) rfl rfl rfl ?_
  refine JL.val (v := .int .i64 (0 : Int)) (QV.move rfl) rfl rfl rfl ?_
  refine JL.nil ?_
  refine QJ.then_normal ?_
  refine JC.cutK (Y := Int × Unit) (fun y => match y with | (d6, _) => F25.j1 (d6) = some r) (fun y => match y with | (d6, _) => [(5, .int .u64 d6)]) (fun y => match y with | (d6, _) => []) ?_ ?_
  ·
    rintro ⟨d6, ⟨⟩⟩ hm
    unfold F25.j1 at hm
    show QJ _ _ [(5, .int .u64 d6)] [] _ _
    refine QJ.then_normal ?_
    refine JC.seq ?_
    refine JC.region ?_
    refine JL.val (v := .int .u64 d6) (QV.move rfl) rfl rfl rfl ?_
    refine JL.val (v := .int .u64 d6) (QV.assign rfl) rfl rfl rfl ?_
    refine JL.nil ?_
    refine QJ.then_normal ?_
    refine JC.ret ?_
    obtain rfl := Option.some.inj hm
    exact QJ.body (vs := [.int .u64 d6]) (.inl rfl) rfl (ResVs.cons (ResV.tmp rfl) ResVs.nil) [] rfl rfl (.inr trivial) ⟨rfl, rfl⟩
  ·
    refine JC.block ?_
    obtain ⟨y11, hl12, hmo13⟩ := bind_inv hm
    refine JC.loop (F25.b1 x2 x4) (fun x z => match x, z with | (d7, d8), _ => [(0, s1.v), (1, s3.v), (5, .int .u64 d7), (8, .int .i64 ((x2).length : Int)), (9, .int .i64 d8)]) (fun x z => match x, z with | (d7, d8), _ => [Asr.vw (Enc.int .u32) (s1.v) x2, Asr.vw (Enc.int .u8) (s3.v) x4]) ((0 : Int), (0 : Int)) () y11 hl12 [0, 1] (by exact ⟨rfl, rfl, rfl, rfl, rfl, trivial⟩) rfl rfl ?_
    rintro ⟨d7, d8⟩ ⟨⟩ s14 hm
    unfold F25.b1 at hm
    dsimp only at hm
    show JC _ _ _ [(0, s1.v), (1, s3.v), (5, .int .u64 d7), (8, .int .i64 ((x2).length : Int)), (9, .int .i64 d8)] [Asr.vw (Enc.int .u32) (s1.v) x2, Asr.vw (Enc.int .u8) (s3.v) x4] _ _
    refine JC.seq ?_
    refine JC.region ?_
    refine JL.val (v := .bool (decide (d8 < ((x2).length : Int)))) (QV.lss rfl rfl) rfl rfl rfl ?_
    refine JL.nil ?_
    refine QJ.then_normal ?_
    refine JC.seq ?_
    rcases ite_inv hm with ⟨h15, hm⟩ | ⟨h15, hm⟩
    ·
      refine JC.condT' rfl (decide_eq_true h15) ?_
      refine JC.skip ?_
      refine QJ.then_normal ?_
      refine JC.seq ?_
      refine JC.block ?_
      refine JC.seq ?_
      refine JC.region ?_
      refine JL.val (v := .int .i64 d8) (QV.move rfl) rfl rfl rfl ?_
      refine JL.val (v := .int .i64 d8) (QV.assign rfl) rfl rfl rfl ?_
      refine JL.nil ?_
      refine QJ.then_normal ?_
      refine JC.seq ?_
      refine JC.region ?_
      refine JL.val (v := .int .i64 d8) (QV.move rfl) rfl rfl rfl ?_
      refine JL.val (v := s3.v) (QV.move rfl) rfl rfl rfl ?_
      refine JL.val (v := .int .i64 ((x4).length : Int)) (QV.len (Rdg.vw 1 rfl) Try.underlying34 rfl) rfl rfl rfl ?_
      refine JL.val (v := .bool (decide (d8 < ((x4).length : Int)))) (QV.lss rfl rfl) rfl rfl rfl ?_
      refine JL.nil ?_
      refine QJ.then_normal ?_
      refine JC.cutK (Y := Int × Unit) (fun y => match y with | (d16, _) => F25.j2 d8 (d16) = some s14) (fun y => match y with | (d16, _) => [(0, s1.v), (1, s3.v), (5, .int .u64 d16), (8, .int .i64 ((x2).length : Int)), (9, .int .i64 d8)]) (fun y => match y with | (d16, _) => [Asr.vw (Enc.int .u32) (s1.v) x2, Asr.vw (Enc.int .u8) (s3.v) x4]) ?_ ?_
      ·
        rintro ⟨d16, ⟨⟩⟩ hm
        unfold F25.j2 at hm
        show QJ _ _ [(0, s1.v), (1, s3.v), (5, .int .u64 d16), (8, .int .i64 ((x2).length : Int)), (9, .int .i64 d8)] [Asr.vw (Enc.int .u32) (s1.v) x2, Asr.vw (Enc.int .u8) (s3.v) x4] _ _
        refine QJ.block_normal ?_
        refine QJ.then_normal ?_
        refine JC.region ?_
        refine JL.val (v := .int .i64 (IntKind.wrap .i64 (d8 + (1 : Int)))) (QV.add rfl rfl) rfl rfl rfl ?_
        refine JL.val (v := .int .i64 (IntKind.wrap .i64 (d8 + (1 : Int)))) (QV.move rfl) rfl rfl rfl ?_
        refine JL.nil ?_
        obtain rfl := Option.some.inj hm
        exact QJ.round_on (d16, (IntKind.wrap .i64 (d8 + (1 : Int)))) () [0, 1] (by exact ⟨rfl, rfl, rfl, rfl, rfl, trivial⟩) rfl rfl
      ·
        rcases ite_inv hm with ⟨h17, hm⟩ | ⟨h17, hm⟩
        ·
          refine JC.condT' rfl (decide_eq_true h17) ?_
          refine JC.regionT [Asr.vw (Enc.int .u32) (s1.v) x2, Asr.vw (Enc.int .u8) (s3.v) x4] (fun t => false) [(0, true), (1, true), (2, true), (3, true), (4, true), (5, true), (6, true), (7, false), (8, false), (9, false), (10, false), (11, false), (12, false), (13, false)] (by kernel_rfl) (by kernel_rfl) (by kernel_rfl) rfl (fun hsel => ?_)
          refine JT.take (i := 0) (v := .int .u64 d7) hsel rfl (QV.move rfl) rfl rfl rfl rfl [0, 1] rfl rfl ?_
          refine JT.take (i := 1) (v := s1.v) hsel rfl (QV.move rfl) rfl rfl rfl rfl [0, 1] rfl rfl ?_
          refine JT.take (i := 2) (v := .int .i64 d8) hsel rfl (QV.move rfl) rfl rfl rfl rfl [0, 1] rfl rfl ?_
          obtain ⟨h18, hm⟩ := guard_inv hm
          refine JT.take (i := 3) (v := .pointer (some (elA (s1.v) (Int.toNat d8 * ((Enc.int .u32)).sz)))) hsel rfl (QV.indexA (Rdg.vw 0 rfl) Try.underlying33 tk_40 rfl rfl h18) rfl rfl rfl rfl [0, 1] rfl rfl ?_
          refine JT.take (i := 4) (v := .int .u32 (gd x2 d8)) hsel rfl (QV.el1 (Rdg.vw 0 rfl) tk_40 rfl h18 rfl) rfl rfl rfl rfl [0, 1] rfl rfl ?_
          refine JT.take (i := 5) (v := .int .u64 (IntKind.wrap .u64 (gd x2 d8))) hsel rfl (QV.conv rfl (by rw [Try.underlying40]; rfl) Try.underlying41) rfl rfl rfl rfl [0, 1] rfl rfl ?_
          refine JT.take (i := 6) (v := s3.v) hsel rfl (QV.move rfl) rfl rfl rfl rfl [0, 1] rfl rfl ?_
          refine JT.only (i := 7) (d := some 23) rfl (MV.ofQV (v := .int .i64 d8) (QV.move rfl)) rfl rfl rfl ?_
          rintro _ _ ⟨rfl, rfl⟩
          refine ⟨fun _ => ⟨[0, 1], rfl, rfl⟩, ?_⟩
          obtain ⟨h19, hm⟩ := guard_inv hm
          refine JT.only (i := 8) (d := some 24) rfl (MV.ofQV (v := .pointer (some (elA (s3.v) (Int.toNat d8 * ((Enc.int .u8)).sz)))) (QV.indexA (Rdg.vw 1 rfl) Try.underlying34 tk_5 rfl rfl h19)) rfl rfl rfl ?_
          rintro _ _ ⟨rfl, rfl⟩
          refine ⟨fun _ => ⟨[0, 1], rfl, rfl⟩, ?_⟩
          refine JT.only (i := 9) (d := some 25) rfl (MV.ofQV (v := .int .u8 (gd x4 d8)) (QV.el1 (Rdg.vw 1 rfl) tk_5 rfl h19 rfl)) rfl rfl rfl ?_
          rintro _ _ ⟨rfl, rfl⟩
          refine ⟨fun _ => ⟨[0, 1], rfl, rfl⟩, ?_⟩
          refine JT.only (i := 10) (d := some 26) rfl (MV.ofQV (v := .int .u64 (IntKind.wrap .u64 (gd x4 d8))) (QV.conv rfl (by rw [Try.underlying5]; rfl) Try.underlying41)) rfl rfl rfl ?_
          rintro _ _ ⟨rfl, rfl⟩
          refine ⟨fun _ => ⟨[0, 1], rfl, rfl⟩, ?_⟩
          refine JT.only (i := 11) (d := some 27) rfl (MV.ofQV (v := .int .u64 (IntKind.wrap .u64 ((IntKind.wrap .u64 (gd x2 d8)) * (IntKind.wrap .u64 (gd x4 d8))))) (QV.mul rfl rfl)) rfl rfl rfl ?_
          rintro _ _ ⟨rfl, rfl⟩
          refine ⟨fun _ => ⟨[0, 1], rfl, rfl⟩, ?_⟩
          refine JT.only (i := 12) (d := some 28) rfl (MV.ofQV (v := .int .u64 (IntKind.wrap .u64 (d7 + (IntKind.wrap .u64 ((IntKind.wrap .u64 (gd x2 d8)) * (IntKind.wrap .u64 (gd x4 d8))))))) (QV.add rfl rfl)) rfl rfl rfl ?_
          rintro _ _ ⟨rfl, rfl⟩
          refine ⟨fun _ => ⟨[0, 1], rfl, rfl⟩, ?_⟩
          refine JT.only (i := 13) (d := some 5) rfl (MV.ofQV (v := .int .u64 (IntKind.wrap .u64 (d7 + (IntKind.wrap .u64 ((IntKind.wrap .u64 (gd x2 d8)) * (IntKind.wrap .u64 (gd x4 d8))))))) (QV.assign rfl)) rfl rfl rfl ?_
          rintro _ _ ⟨rfl, rfl⟩
          refine ⟨fun _ => ⟨[0, 1], rfl, rfl⟩, ?_⟩
          refine JT.nil ?_
          exact QJ.cut_normal ((IntKind.wrap .u64 (d7 + (IntKind.wrap .u64 ((IntKind.wrap .u64 (gd x2 d8)) * (IntKind.wrap .u64 (gd x4 d8)))))), ()) hm [0, 1] (by exact ⟨rfl, rfl, rfl, rfl, rfl, trivial⟩) rfl rfl
        ·
          refine JC.condF' rfl (decide_eq_false h17) ?_
          refine JC.skip ?_
          exact QJ.cut_normal (d7, ()) hm [0, 1] (by exact ⟨rfl, rfl, rfl, rfl, rfl, trivial⟩) rfl rfl
    ·
      refine JC.condF' rfl (decide_eq_false h15) ?_
      refine JC.exit ?_
      refine QJ.then_exit ?_
      obtain rfl := Option.some.inj hm
      refine QJ.round_exit (fun hy => ?_)
      subst hy
      refine QJ.block_hit ?_
      exact QJ.cut_normal (d7, ()) hmo13 [] (by exact ⟨rfl, trivial⟩) rfl rfl

end Go.Proofs.Ytgganckggdjpaaa
