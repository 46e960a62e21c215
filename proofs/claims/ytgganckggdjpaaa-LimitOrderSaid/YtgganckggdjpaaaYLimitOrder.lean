/- Written by gen.py: functions and their contracts. -/
import Derived.Test.YtgganckggdjpaaaLim
namespace Go.Proofs.Ytgganckggdjpaaa
open Go Go.Eng Go.Proofs
set_option linter.unusedVariables false
set_option linter.unusedSimpArgs false
/-! ### 8: drogher/drogherlaw10.LimitOrder -/
noncomputable def F8.j1   : Option Bool :=
  ((F19.m).bind fun y13 => some y13)
noncomputable def F8.j2 (d15 : Int)  : Option (Int ⊕ ((Bool) ⊕ Unit)) :=
  some (.inl (IntKind.wrap .i64 (d15 + (1 : Int))))
noncomputable def F8.j3 (d15 : Int)  : Option (Int ⊕ ((Bool) ⊕ Unit)) :=
  F8.j2 d15
noncomputable def F8.j4 (d22 : Int)  : Option (Int ⊕ ((Bool) ⊕ Unit)) :=
  some (.inl (IntKind.wrap .i64 (d22 + (1 : Int))))
noncomputable def F8.b2 (x2 : List Int) (y8 : (List Int × Int)) (d15 : Int) : Int → Option (Int ⊕ ((Bool) ⊕ Unit))
  | d22 => (if d22 < ((y8.1).length : Int) then (if 0 ≤ d15 ∧ d15 < ((x2).length : Int) then (if 0 ≤ d22 ∧ d22 < ((x2).length : Int) then (if (gd x2 d22) < (gd x2 d15) then (if (0 : Int) < (gd x2 d22) then (if 0 ≤ d15 ∧ d15 < ((y8.1).length : Int) then (if 0 ≤ d22 ∧ d22 < ((y8.1).length : Int) then (if (gd y8.1 d22) < (gd y8.1 d15) then some (.inr (.inl (false))) else F8.j4 d22) else none) else none) else F8.j4 d22) else F8.j4 d22) else none) else none) else some (.inr (.inr (()))))
noncomputable def F8.b1 (x2 : List Int) (y8 : (List Int × Int)) : Int → Option (Int ⊕ ((Bool) ⊕ Unit))
  | d15 => (if d15 < ((y8.1).length : Int) then ((loop (F8.b2 x2 y8 d15) (0 : Int)).bind fun y => match y with | .inl r => some (.inr (.inl (r))) | .inr _ => F8.j3 d15) else some (.inr (.inr (()))))
noncomputable def F8.m (x2 : List Int) (x3 : Int) : Option Bool :=
  (if (60 : Int) < ((x2).length : Int) then ((F19.m).bind fun y6 => some y6) else ((F20.m (x2) (x3)).bind fun y8 => (if y8.2 = (0 : Int) then (if ((y8.1).length : Int) = ((x2).length : Int) then ((loop (F8.b1 x2 y8) (0 : Int)).bind fun y => match y with | .inl r => some r | .inr _ => F8.j1) else some false) else (if ((y8.1).length : Int) = (0 : Int) then ((F19.m).bind fun y37 => some y37) else some false))))
set_option maxRecDepth 100000 in
set_option maxHeartbeats 4000000 in
theorem F8.spec (s1 : SlV) (x2 : List Int) (x3 : Int) (r : Bool) (hm : F8.m x2 x3 = some r) :
    Ctr Try.prog false 8 [s1.v, .int .i64 x3] [Asr.vw (Enc.int .u32) (s1.v) x2] (fun v L' => v = .bool r ∧ L' = []) := by
  refine Ctr.intro (n := 72) (env := [(0, s1.v), (1, .int .i64 x3)]) Try.func8 rfl rfl rfl rfl (fun c => ?_)
  unfold F8.m at hm
  refine JC.seq ?_
  refine JC.region ?_
  refine JL.val (v := .bool false) (QV.assign rfl) rfl rfl rfl ?_
  refine JL.nil ?_
  refine QJ.then_normal ?_
  refine JC.seq ?_
  refine JC.seq ?_
  refine JC.region ?_
  refine JL.val (v := s1.v) (QV.move rfl) rfl rfl rfl ?_
  refine JL.val (v := .int .i64 ((x2).length : Int)) (QV.len (Rdg.vw 0 rfl) Try.underlying33 rfl) rfl rfl rfl ?_
  refine JL.val (v := .bool (decide ((60 : Int) < ((x2).length : Int)))) (QV.gtr rfl rfl) rfl rfl rfl ?_
  refine JL.nil ?_
  refine QJ.then_normal ?_
  rcases ite_inv hm with ⟨h5, hm⟩ | ⟨h5, hm⟩
  ·
    refine JC.condT' rfl (decide_eq_true h5) ?_
    refine JC.seq ?_
    refine JC.region ?_
    obtain ⟨y6, hc7, hm⟩ := bind_inv hm
    refine JL.mv (d := some 12) (MV.call (Lo := []) (Lr := [Asr.vw (Enc.int .u32) (s1.v) x2]) (F19.spec _ hc7) rfl Try.func19 rfl rfl rfl [] [0] rfl rfl rfl trivial) rfl rfl rfl ?_
    rintro _ _ ⟨_, ⟨rfl, rfl⟩, rfl⟩
    refine JL.val (v := .bool y6) (QV.assign rfl) rfl rfl rfl ?_
    refine JL.nil ?_
    refine QJ.then_normal ?_
    refine JC.ret ?_
    refine QJ.then_ret ?_
    obtain rfl := Option.some.inj hm
    exact QJ.body (vs := [.bool y6]) (.inl rfl) rfl (ResVs.cons (ResV.tmp rfl) ResVs.nil) [] rfl rfl (.inr trivial) ⟨rfl, rfl⟩
  ·
    refine JC.condF' rfl (decide_eq_false h5) ?_
    refine JC.skip ?_
    refine QJ.then_normal ?_
    refine JC.seq ?_
    refine JC.region ?_
    refine JL.val (v := s1.v) (QV.move rfl) rfl rfl rfl ?_
    refine JL.val (v := .int .i64 x3) (QV.move rfl) rfl rfl rfl ?_
    obtain ⟨y8, hc9, hm⟩ := bind_inv hm
    refine JL.mv (d := some 16) (MV.call (Lo := []) (Lr := [Asr.vw (Enc.int .u32) (s1.v) x2]) (F20.spec (s1) (x2) (x3) _ hc9) rfl Try.func20 rfl rfl rfl [] [0] rfl rfl rfl ⟨(Drv.vw 0 rfl), trivial⟩) rfl rfl rfl ?_
    rintro _ _ ⟨_, ⟨z10, rfl, rfl⟩, rfl⟩
    refine JL.val (v := .tuple #[z10.v, .int .i64 y8.2]) (QV.move rfl) rfl rfl rfl ?_
    refine JL.val (v := z10.v) (QV.extract (vs := [z10.v, .int .i64 y8.2]) rfl rfl) rfl rfl rfl ?_
    refine JL.val (v := .int .i64 y8.2) (QV.extract (vs := [z10.v, .int .i64 y8.2]) rfl rfl) rfl rfl rfl ?_
    refine JL.val (v := z10.v) (QV.assign rfl) rfl rfl rfl ?_
    refine JL.val (v := .int .i64 y8.2) (QV.assign rfl) rfl rfl rfl ?_
    refine JL.nil ?_
    refine QJ.then_normal ?_
    refine JC.seq ?_
    refine JC.seq ?_
    refine JC.region ?_
    refine JL.val (v := .int .i64 y8.2) (QV.move rfl) rfl rfl rfl ?_
    refine JL.val (v := .bool (!(decide (y8.2 = (0 : Int))))) (QV.neq rfl rfl) rfl rfl rfl ?_
    refine JL.nil ?_
    refine QJ.then_normal ?_
    rcases ite_inv hm with ⟨h11, hm⟩ | ⟨h11, hm⟩
    ·
      refine JC.condF' rfl (congrArg Bool.not (decide_eq_true h11)) ?_
      refine JC.skip ?_
      refine QJ.then_normal ?_
      refine JC.seq ?_
      refine JC.seq ?_
      refine JC.region ?_
      refine JL.val (v := z10.v) (QV.move rfl) rfl rfl rfl ?_
      refine JL.val (v := .int .i64 ((y8.1).length : Int)) (QV.len (Rdg.of 0 rfl) Try.underlying34 rfl) rfl rfl rfl ?_
      refine JL.val (v := s1.v) (QV.move rfl) rfl rfl rfl ?_
      refine JL.val (v := .int .i64 ((x2).length : Int)) (QV.len (Rdg.vw 1 rfl) Try.underlying33 rfl) rfl rfl rfl ?_
      refine JL.val (v := .bool (!(decide (((y8.1).length : Int) = ((x2).length : Int))))) (QV.neq rfl rfl) rfl rfl rfl ?_
      refine JL.nil ?_
      refine QJ.then_normal ?_
      rcases ite_inv hm with ⟨h12, hm⟩ | ⟨h12, hm⟩
      ·
        refine JC.condF' rfl (congrArg Bool.not (decide_eq_true h12)) ?_
        refine JC.skip ?_
        refine QJ.then_normal ?_
        refine JC.seq ?_
        refine JC.seq ?_
        refine JC.region ?_
        refine JL.val (v := .int .i64 (0 : Int)) (QV.assign rfl) rfl rfl rfl ?_
        refine JL.nil ?_
        refine QJ.then_normal ?_
        refine JC.cutK (Y := Unit × Unit) (fun y => match y with | (_, _) => F8.j1 = some r) (fun y => match y with | (_, _) => []) (fun y => match y with | (_, _) => []) ?_ ?_
        ·
          rintro ⟨⟨⟩, ⟨⟩⟩ hm
          unfold F8.j1 at hm
          show QJ _ _ [] [] _ _
          refine QJ.then_normal ?_
          refine JC.seq ?_
          refine JC.region ?_
          obtain ⟨y13, hc14, hm⟩ := bind_inv hm
          refine JL.mv (d := some 71) (MV.call (Lo := []) (Lr := []) (F19.spec _ hc14) rfl Try.func19 rfl rfl rfl [] [] rfl rfl rfl trivial) rfl rfl rfl ?_
          rintro _ _ ⟨_, ⟨rfl, rfl⟩, rfl⟩
          refine JL.val (v := .bool y13) (QV.assign rfl) rfl rfl rfl ?_
          refine JL.nil ?_
          refine QJ.then_normal ?_
          refine JC.ret ?_
          obtain rfl := Option.some.inj hm
          exact QJ.body (vs := [.bool y13]) (.inl rfl) rfl (ResVs.cons (ResV.tmp rfl) ResVs.nil) [] rfl rfl (.inr trivial) ⟨rfl, rfl⟩
        ·
          refine JC.block ?_
          obtain ⟨y17, hl18, hmo19⟩ := bind_inv hm
          refine JC.loop (F8.b1 x2 y8) (fun x z => match x, z with | d15, _ => [(0, s1.v), (5, z10.v), (7, .int .i64 d15)]) (fun x z => match x, z with | d15, _ => [Asr.vw (Enc.int .u32) (s1.v) x2, Asr.of 5 (Enc.int .u8) (z10.v) y8.1]) (0 : Int) () y17 hl18 [1, 0] (by exact ⟨rfl, rfl, rfl, trivial⟩) rfl rfl ?_
          rintro d15 ⟨⟩ s20 hm
          unfold F8.b1 at hm
          dsimp only at hm
          show JC _ _ _ [(0, s1.v), (5, z10.v), (7, .int .i64 d15)] [Asr.vw (Enc.int .u32) (s1.v) x2, Asr.of 5 (Enc.int .u8) (z10.v) y8.1] _ _
          refine JC.seq ?_
          refine JC.seq ?_
          refine JC.region ?_
          refine JL.val (v := .int .i64 d15) (QV.move rfl) rfl rfl rfl ?_
          refine JL.val (v := z10.v) (QV.move rfl) rfl rfl rfl ?_
          refine JL.val (v := .int .i64 ((y8.1).length : Int)) (QV.len (Rdg.of 1 rfl) Try.underlying34 rfl) rfl rfl rfl ?_
          refine JL.val (v := .bool (decide (d15 < ((y8.1).length : Int)))) (QV.lss rfl rfl) rfl rfl rfl ?_
          refine JL.nil ?_
          refine QJ.then_normal ?_
          rcases ite_inv hm with ⟨h21, hm⟩ | ⟨h21, hm⟩
          ·
            refine JC.condT' rfl (decide_eq_true h21) ?_
            refine JC.skip ?_
            refine QJ.then_normal ?_
            refine JC.seq ?_
            refine JC.cutK (Y := Unit × Unit) (fun y => match y with | (_, _) => F8.j2 d15 = some s20) (fun y => match y with | (_, _) => [(0, s1.v), (5, z10.v), (7, .int .i64 d15)]) (fun y => match y with | (_, _) => [Asr.vw (Enc.int .u32) (s1.v) x2, Asr.of 5 (Enc.int .u8) (z10.v) y8.1]) ?_ ?_
            ·
              rintro ⟨⟨⟩, ⟨⟩⟩ hm
              unfold F8.j2 at hm
              show QJ _ _ [(0, s1.v), (5, z10.v), (7, .int .i64 d15)] [Asr.vw (Enc.int .u32) (s1.v) x2, Asr.of 5 (Enc.int .u8) (z10.v) y8.1] _ _
              refine QJ.then_normal ?_
              refine JC.region ?_
              refine JL.val (v := .int .i64 d15) (QV.move rfl) rfl rfl rfl ?_
              refine JL.val (v := .int .i64 (IntKind.wrap .i64 (d15 + (1 : Int)))) (QV.add rfl rfl) rfl rfl rfl ?_
              refine JL.val (v := .int .i64 (IntKind.wrap .i64 (d15 + (1 : Int)))) (QV.assign rfl) rfl rfl rfl ?_
              refine JL.nil ?_
              obtain rfl := Option.some.inj hm
              exact QJ.round_on (IntKind.wrap .i64 (d15 + (1 : Int))) () [0, 1] (by exact ⟨rfl, rfl, rfl, trivial⟩) rfl rfl
            ·
              refine JC.block ?_
              refine JC.seq ?_
              refine JC.region ?_
              refine JL.val (v := .int .i64 (0 : Int)) (QV.assign rfl) rfl rfl rfl ?_
              refine JL.nil ?_
              refine QJ.then_normal ?_
              refine JC.cutK (Y := Unit × Unit) (fun y => match y with | (_, _) => F8.j3 d15 = some s20) (fun y => match y with | (_, _) => [(0, s1.v), (5, z10.v), (7, .int .i64 d15)]) (fun y => match y with | (_, _) => [Asr.vw (Enc.int .u32) (s1.v) x2, Asr.of 5 (Enc.int .u8) (z10.v) y8.1]) ?_ ?_
              ·
                rintro ⟨⟨⟩, ⟨⟩⟩ hm
                unfold F8.j3 at hm
                show QJ _ _ [(0, s1.v), (5, z10.v), (7, .int .i64 d15)] [Asr.vw (Enc.int .u32) (s1.v) x2, Asr.of 5 (Enc.int .u8) (z10.v) y8.1] _ _
                refine QJ.block_normal ?_
                exact QJ.cut_normal ((), ()) hm [0, 1] (by exact ⟨rfl, rfl, rfl, trivial⟩) rfl rfl
              ·
                refine JC.block ?_
                obtain ⟨y24, hl25, hmo26⟩ := bind_inv hm
                refine JC.loop (F8.b2 x2 y8 d15) (fun x z => match x, z with | d22, _ => [(0, s1.v), (5, z10.v), (7, .int .i64 d15), (8, .int .i64 d22)]) (fun x z => match x, z with | d22, _ => [Asr.vw (Enc.int .u32) (s1.v) x2, Asr.of 5 (Enc.int .u8) (z10.v) y8.1]) (0 : Int) () y24 hl25 [0, 1] (by exact ⟨rfl, rfl, rfl, rfl, trivial⟩) rfl rfl ?_
                rintro d22 ⟨⟩ s27 hm
                unfold F8.b2 at hm
                dsimp only at hm
                show JC _ _ _ [(0, s1.v), (5, z10.v), (7, .int .i64 d15), (8, .int .i64 d22)] [Asr.vw (Enc.int .u32) (s1.v) x2, Asr.of 5 (Enc.int .u8) (z10.v) y8.1] _ _
                refine JC.seq ?_
                refine JC.seq ?_
                refine JC.region ?_
                refine JL.val (v := .int .i64 d22) (QV.move rfl) rfl rfl rfl ?_
                refine JL.val (v := z10.v) (QV.move rfl) rfl rfl rfl ?_
                refine JL.val (v := .int .i64 ((y8.1).length : Int)) (QV.len (Rdg.of 1 rfl) Try.underlying34 rfl) rfl rfl rfl ?_
                refine JL.val (v := .bool (decide (d22 < ((y8.1).length : Int)))) (QV.lss rfl rfl) rfl rfl rfl ?_
                refine JL.nil ?_
                refine QJ.then_normal ?_
                rcases ite_inv hm with ⟨h28, hm⟩ | ⟨h28, hm⟩
                ·
                  refine JC.condT' rfl (decide_eq_true h28) ?_
                  refine JC.skip ?_
                  refine QJ.then_normal ?_
                  refine JC.seq ?_
                  refine JC.cutK (Y := Unit × Unit) (fun y => match y with | (_, _) => F8.j4 d22 = some s27) (fun y => match y with | (_, _) => [(0, s1.v), (5, z10.v), (7, .int .i64 d15), (8, .int .i64 d22)]) (fun y => match y with | (_, _) => [Asr.vw (Enc.int .u32) (s1.v) x2, Asr.of 5 (Enc.int .u8) (z10.v) y8.1]) ?_ ?_
                  ·
                    rintro ⟨⟨⟩, ⟨⟩⟩ hm
                    unfold F8.j4 at hm
                    show QJ _ _ [(0, s1.v), (5, z10.v), (7, .int .i64 d15), (8, .int .i64 d22)] [Asr.vw (Enc.int .u32) (s1.v) x2, Asr.of 5 (Enc.int .u8) (z10.v) y8.1] _ _
                    refine QJ.then_normal ?_
                    refine JC.region ?_
                    refine JL.val (v := .int .i64 d22) (QV.move rfl) rfl rfl rfl ?_
                    refine JL.val (v := .int .i64 (IntKind.wrap .i64 (d22 + (1 : Int)))) (QV.add rfl rfl) rfl rfl rfl ?_
                    refine JL.val (v := .int .i64 (IntKind.wrap .i64 (d22 + (1 : Int)))) (QV.assign rfl) rfl rfl rfl ?_
                    refine JL.nil ?_
                    obtain rfl := Option.some.inj hm
                    exact QJ.round_on (IntKind.wrap .i64 (d22 + (1 : Int))) () [0, 1] (by exact ⟨rfl, rfl, rfl, rfl, trivial⟩) rfl rfl
                  ·
                    refine JC.block ?_
                    refine JC.seq ?_
                    refine JC.regionT [Asr.vw (Enc.int .u32) (s1.v) x2, Asr.of 5 (Enc.int .u8) (z10.v) y8.1] (fun t => false) [(0, true), (1, true), (2, true), (3, true), (4, true), (5, false), (6, false), (7, false), (8, false), (9, false), (10, true), (11, false), (12, false), (13, false), (14, false), (15, false), (16, false), (17, true), (18, true), (19, true), (20, true), (21, true), (22, false), (23, false), (24, false), (25, false), (26, false)] (by kernel_rfl) (by kernel_rfl) (by kernel_rfl) rfl (fun hsel => ?_)
                    refine JT.take (i := 0) (v := s1.v) hsel rfl (QV.move rfl) rfl rfl rfl rfl [0, 1] rfl rfl ?_
                    refine JT.take (i := 1) (v := .int .i64 d15) hsel rfl (QV.move rfl) rfl rfl rfl rfl [0, 1] rfl rfl ?_
                    obtain ⟨h29, hm⟩ := guard_inv hm
                    refine JT.take (i := 2) (v := .pointer (some (elA (s1.v) (Int.toNat d15 * ((Enc.int .u32)).sz)))) hsel rfl (QV.indexA (Rdg.vw 0 rfl) Try.underlying33 tk_40 rfl rfl h29) rfl rfl rfl rfl [0, 1] rfl rfl ?_
                    refine JT.take (i := 3) (v := .int .u32 (gd x2 d15)) hsel rfl (QV.el1 (Rdg.vw 0 rfl) tk_40 rfl h29 rfl) rfl rfl rfl rfl [0, 1] rfl rfl ?_
                    refine JT.take (i := 4) (v := s1.v) hsel rfl (QV.move rfl) rfl rfl rfl rfl [0, 1] rfl rfl ?_
                    refine JT.only (i := 5) (d := some 49) rfl (MV.ofQV (v := .int .i64 d22) (QV.move rfl)) rfl rfl rfl ?_
                    rintro _ _ ⟨rfl, rfl⟩
                    refine ⟨fun _ => ⟨[0, 1], rfl, rfl⟩, ?_⟩
                    obtain ⟨h30, hm⟩ := guard_inv hm
                    refine JT.only (i := 6) (d := some 50) rfl (MV.ofQV (v := .pointer (some (elA (s1.v) (Int.toNat d22 * ((Enc.int .u32)).sz)))) (QV.indexA (Rdg.vw 0 rfl) Try.underlying33 tk_40 rfl rfl h30)) rfl rfl rfl ?_
                    rintro _ _ ⟨rfl, rfl⟩
                    refine ⟨fun _ => ⟨[0, 1], rfl, rfl⟩, ?_⟩
                    refine JT.only (i := 7) (d := some 51) rfl (MV.ofQV (v := .int .u32 (gd x2 d22)) (QV.el1 (Rdg.vw 0 rfl) tk_40 rfl h30 rfl)) rfl rfl rfl ?_
                    rintro _ _ ⟨rfl, rfl⟩
                    refine ⟨fun _ => ⟨[0, 1], rfl, rfl⟩, ?_⟩
                    refine JT.only (i := 8) (d := some 52) rfl (MV.ofQV (v := .bool (decide ((gd x2 d22) < (gd x2 d15)))) (QV.gtr rfl rfl)) rfl rfl rfl ?_
                    rintro _ _ ⟨rfl, rfl⟩
                    refine ⟨fun _ => ⟨[0, 1], rfl, rfl⟩, ?_⟩
                    rcases ite_inv hm with ⟨h31, hm⟩ | ⟨h31, hm⟩
                    ·
                      refine JT.only (i := 9) (d := some 53) rfl (MV.ofQV (v := .bool true) (QV.eq (QV.move rfl) (congrArg Value.bool (decide_eq_true h31)))) rfl rfl rfl ?_
                      rintro _ _ ⟨rfl, rfl⟩
                      refine ⟨fun _ => ⟨[0, 1], rfl, rfl⟩, ?_⟩
                      refine JT.take (i := 10) (v := s1.v) hsel rfl (QV.move rfl) rfl rfl rfl rfl [0, 1] rfl rfl ?_
                      refine JT.only (i := 11) (d := some 55) rfl (MV.ofQV (v := .int .i64 d22) (QV.move rfl)) rfl rfl rfl ?_
                      rintro _ _ ⟨rfl, rfl⟩
                      refine ⟨fun _ => ⟨[0, 1], rfl, rfl⟩, ?_⟩
                      refine JT.only (i := 12) (d := some 56) rfl (MV.ofQV (v := .pointer (some (elA (s1.v) (Int.toNat d22 * ((Enc.int .u32)).sz)))) (QV.indexA (Rdg.vw 0 rfl) Try.underlying33 tk_40 rfl rfl h30)) rfl rfl rfl ?_
                      rintro _ _ ⟨rfl, rfl⟩
                      refine ⟨fun _ => ⟨[0, 1], rfl, rfl⟩, ?_⟩
                      refine JT.only (i := 13) (d := some 57) rfl (MV.ofQV (v := .int .u32 (gd x2 d22)) (QV.el1 (Rdg.vw 0 rfl) tk_40 rfl h30 rfl)) rfl rfl rfl ?_
                      rintro _ _ ⟨rfl, rfl⟩
                      refine ⟨fun _ => ⟨[0, 1], rfl, rfl⟩, ?_⟩
                      refine JT.only (i := 14) (d := some 58) rfl (MV.ofQV (v := .bool (decide ((0 : Int) < (gd x2 d22)))) (QV.gtr rfl rfl)) rfl rfl rfl ?_
                      rintro _ _ ⟨rfl, rfl⟩
                      refine ⟨fun _ => ⟨[0, 1], rfl, rfl⟩, ?_⟩
                      refine JT.only (i := 15) (d := some 59) rfl (MV.ofQV (v := .bool (decide ((0 : Int) < (gd x2 d22)))) (QV.pickT rfl rfl)) rfl rfl rfl ?_
                      rintro _ _ ⟨rfl, rfl⟩
                      refine ⟨fun _ => ⟨[0, 1], rfl, rfl⟩, ?_⟩
                      rcases ite_inv hm with ⟨h32, hm⟩ | ⟨h32, hm⟩
                      ·
                        refine JT.only (i := 16) (d := some 60) rfl (MV.ofQV (v := .bool true) (QV.eq (QV.move rfl) (congrArg Value.bool (decide_eq_true h32)))) rfl rfl rfl ?_
                        rintro _ _ ⟨rfl, rfl⟩
                        refine ⟨fun _ => ⟨[0, 1], rfl, rfl⟩, ?_⟩
                        refine JT.take (i := 17) (v := z10.v) hsel rfl (QV.move rfl) rfl rfl rfl rfl [0, 1] rfl rfl ?_
                        refine JT.take (i := 18) (v := .int .i64 d15) hsel rfl (QV.move rfl) rfl rfl rfl rfl [0, 1] rfl rfl ?_
                        obtain ⟨h33, hm⟩ := guard_inv hm
                        refine JT.take (i := 19) (v := .pointer (some (elA (z10.v) (Int.toNat d15 * ((Enc.int .u8)).sz)))) hsel rfl (QV.indexA (Rdg.of 1 rfl) Try.underlying34 tk_5 rfl rfl h33) rfl rfl rfl rfl [0, 1] rfl rfl ?_
                        refine JT.take (i := 20) (v := .int .u8 (gd y8.1 d15)) hsel rfl (QV.el1 (Rdg.of 1 rfl) tk_5 rfl h33 rfl) rfl rfl rfl rfl [0, 1] rfl rfl ?_
                        refine JT.take (i := 21) (v := z10.v) hsel rfl (QV.move rfl) rfl rfl rfl rfl [0, 1] rfl rfl ?_
                        refine JT.only (i := 22) (d := some 66) rfl (MV.ofQV (v := .int .i64 d22) (QV.move rfl)) rfl rfl rfl ?_
                        rintro _ _ ⟨rfl, rfl⟩
                        refine ⟨fun _ => ⟨[0, 1], rfl, rfl⟩, ?_⟩
                        obtain ⟨h34, hm⟩ := guard_inv hm
                        refine JT.only (i := 23) (d := some 67) rfl (MV.ofQV (v := .pointer (some (elA (z10.v) (Int.toNat d22 * ((Enc.int .u8)).sz)))) (QV.indexA (Rdg.of 1 rfl) Try.underlying34 tk_5 rfl rfl h34)) rfl rfl rfl ?_
                        rintro _ _ ⟨rfl, rfl⟩
                        refine ⟨fun _ => ⟨[0, 1], rfl, rfl⟩, ?_⟩
                        refine JT.only (i := 24) (d := some 68) rfl (MV.ofQV (v := .int .u8 (gd y8.1 d22)) (QV.el1 (Rdg.of 1 rfl) tk_5 rfl h34 rfl)) rfl rfl rfl ?_
                        rintro _ _ ⟨rfl, rfl⟩
                        refine ⟨fun _ => ⟨[0, 1], rfl, rfl⟩, ?_⟩
                        refine JT.only (i := 25) (d := some 69) rfl (MV.ofQV (v := .bool (decide ((gd y8.1 d22) < (gd y8.1 d15)))) (QV.gtr rfl rfl)) rfl rfl rfl ?_
                        rintro _ _ ⟨rfl, rfl⟩
                        refine ⟨fun _ => ⟨[0, 1], rfl, rfl⟩, ?_⟩
                        refine JT.only (i := 26) (d := some 70) rfl (MV.ofQV (v := .bool (decide ((gd y8.1 d22) < (gd y8.1 d15)))) (QV.pickT rfl rfl)) rfl rfl rfl ?_
                        rintro _ _ ⟨rfl, rfl⟩
                        refine ⟨fun _ => ⟨[0, 1], rfl, rfl⟩, ?_⟩
                        refine JT.nil ?_
                        refine QJ.then_normal ?_
                        rcases ite_inv hm with ⟨h35, hm⟩ | ⟨h35, hm⟩
                        ·
                          refine JC.condT' rfl (decide_eq_true h35) ?_
                          refine JC.seq ?_
                          refine JC.region ?_
                          refine JL.val (v := .bool false) (QV.assign rfl) rfl rfl rfl ?_
                          refine JL.nil ?_
                          refine QJ.then_normal ?_
                          refine JC.ret ?_
                          refine QJ.block_ret ?_
                          refine QJ.cut_ret ?_
                          refine QJ.then_ret ?_
                          obtain rfl := Option.some.inj hm
                          refine QJ.round_ret (fun hy => ?_)
                          subst hy
                          refine QJ.block_ret ?_
                          refine QJ.cut_ret ?_
                          refine QJ.block_ret ?_
                          refine QJ.cut_ret ?_
                          refine QJ.then_ret ?_
                          obtain rfl := Option.some.inj hmo26
                          refine QJ.round_ret (fun hy => ?_)
                          subst hy
                          refine QJ.block_ret ?_
                          refine QJ.cut_ret ?_
                          refine QJ.then_ret ?_
                          obtain rfl := Option.some.inj hmo19
                          exact QJ.body (vs := [.bool false]) (.inl rfl) rfl (ResVs.cons (ResV.tmp rfl) ResVs.nil) [] rfl rfl (.inr trivial) ⟨rfl, rfl⟩
                        ·
                          refine JC.condF' rfl (decide_eq_false h35) ?_
                          refine JC.skip ?_
                          refine QJ.block_normal ?_
                          exact QJ.cut_normal ((), ()) hm [0, 1] (by exact ⟨rfl, rfl, rfl, rfl, trivial⟩) rfl rfl
                      ·
                        refine JT.only (i := 16) (d := some 60) rfl (MV.ofQV (v := .bool false) (QV.eq (QV.move rfl) (congrArg Value.bool (decide_eq_false h32)))) rfl rfl rfl ?_
                        rintro _ _ ⟨rfl, rfl⟩
                        refine ⟨fun _ => ⟨[0, 1], rfl, rfl⟩, ?_⟩
                        refine JT.skip (i := 17) (d := some 61) hsel rfl rfl rfl rfl rfl [0, 1] rfl rfl ?_
                        refine JT.skip (i := 18) (d := some 62) hsel rfl rfl rfl rfl rfl [0, 1] rfl rfl ?_
                        refine JT.skip (i := 19) (d := some 63) hsel rfl rfl rfl rfl rfl [0, 1] rfl rfl ?_
                        refine JT.skip (i := 20) (d := some 64) hsel rfl rfl rfl rfl rfl [0, 1] rfl rfl ?_
                        refine JT.skip (i := 21) (d := some 65) hsel rfl rfl rfl rfl rfl [0, 1] rfl rfl ?_
                        refine JT.skipO (i := 22) (d := some 66) rfl rfl rfl rfl [0, 1] rfl rfl ?_
                        refine JT.skipO (i := 23) (d := some 67) rfl rfl rfl rfl [0, 1] rfl rfl ?_
                        refine JT.skipO (i := 24) (d := some 68) rfl rfl rfl rfl [0, 1] rfl rfl ?_
                        refine JT.skipO (i := 25) (d := some 69) rfl rfl rfl rfl [0, 1] rfl rfl ?_
                        refine JT.only (i := 26) (d := some 70) rfl (MV.ofQV (v := .bool false) (QV.pickF rfl rfl)) rfl rfl rfl ?_
                        rintro _ _ ⟨rfl, rfl⟩
                        refine ⟨fun _ => ⟨[0, 1], rfl, rfl⟩, ?_⟩
                        refine JT.nil ?_
                        refine QJ.then_normal ?_
                        refine JC.condF rfl ?_
                        refine JC.skip ?_
                        refine QJ.block_normal ?_
                        exact QJ.cut_normal ((), ()) hm [0, 1] (by exact ⟨rfl, rfl, rfl, rfl, trivial⟩) rfl rfl
                    ·
                      refine JT.only (i := 9) (d := some 53) rfl (MV.ofQV (v := .bool false) (QV.eq (QV.move rfl) (congrArg Value.bool (decide_eq_false h31)))) rfl rfl rfl ?_
                      rintro _ _ ⟨rfl, rfl⟩
                      refine ⟨fun _ => ⟨[0, 1], rfl, rfl⟩, ?_⟩
                      refine JT.skip (i := 10) (d := some 54) hsel rfl rfl rfl rfl rfl [0, 1] rfl rfl ?_
                      refine JT.skipO (i := 11) (d := some 55) rfl rfl rfl rfl [0, 1] rfl rfl ?_
                      refine JT.skipO (i := 12) (d := some 56) rfl rfl rfl rfl [0, 1] rfl rfl ?_
                      refine JT.skipO (i := 13) (d := some 57) rfl rfl rfl rfl [0, 1] rfl rfl ?_
                      refine JT.skipO (i := 14) (d := some 58) rfl rfl rfl rfl [0, 1] rfl rfl ?_
                      refine JT.only (i := 15) (d := some 59) rfl (MV.ofQV (v := .bool false) (QV.pickF rfl rfl)) rfl rfl rfl ?_
                      rintro _ _ ⟨rfl, rfl⟩
                      refine ⟨fun _ => ⟨[0, 1], rfl, rfl⟩, ?_⟩
                      refine JT.only (i := 16) (d := some 60) rfl (MV.ofQV (v := .bool false) (QV.move rfl)) rfl rfl rfl ?_
                      rintro _ _ ⟨rfl, rfl⟩
                      refine ⟨fun _ => ⟨[0, 1], rfl, rfl⟩, ?_⟩
                      refine JT.skip (i := 17) (d := some 61) hsel rfl rfl rfl rfl rfl [0, 1] rfl rfl ?_
                      refine JT.skip (i := 18) (d := some 62) hsel rfl rfl rfl rfl rfl [0, 1] rfl rfl ?_
                      refine JT.skip (i := 19) (d := some 63) hsel rfl rfl rfl rfl rfl [0, 1] rfl rfl ?_
                      refine JT.skip (i := 20) (d := some 64) hsel rfl rfl rfl rfl rfl [0, 1] rfl rfl ?_
                      refine JT.skip (i := 21) (d := some 65) hsel rfl rfl rfl rfl rfl [0, 1] rfl rfl ?_
                      refine JT.skipO (i := 22) (d := some 66) rfl rfl rfl rfl [0, 1] rfl rfl ?_
                      refine JT.skipO (i := 23) (d := some 67) rfl rfl rfl rfl [0, 1] rfl rfl ?_
                      refine JT.skipO (i := 24) (d := some 68) rfl rfl rfl rfl [0, 1] rfl rfl ?_
                      refine JT.skipO (i := 25) (d := some 69) rfl rfl rfl rfl [0, 1] rfl rfl ?_
                      refine JT.only (i := 26) (d := some 70) rfl (MV.ofQV (v := .bool false) (QV.pickF rfl rfl)) rfl rfl rfl ?_
                      rintro _ _ ⟨rfl, rfl⟩
                      refine ⟨fun _ => ⟨[0, 1], rfl, rfl⟩, ?_⟩
                      refine JT.nil ?_
                      refine QJ.then_normal ?_
                      refine JC.condF rfl ?_
                      refine JC.skip ?_
                      refine QJ.block_normal ?_
                      exact QJ.cut_normal ((), ()) hm [0, 1] (by exact ⟨rfl, rfl, rfl, rfl, trivial⟩) rfl rfl
                ·
                  refine JC.condF' rfl (decide_eq_false h28) ?_
                  refine JC.exit ?_
                  refine QJ.then_exit ?_
                  obtain rfl := Option.some.inj hm
                  refine QJ.round_exit (fun hy => ?_)
                  subst hy
                  refine QJ.block_hit ?_
                  exact QJ.cut_normal ((), ()) hmo26 [0, 1] (by exact ⟨rfl, rfl, rfl, trivial⟩) rfl rfl
          ·
            refine JC.condF' rfl (decide_eq_false h21) ?_
            refine JC.exit ?_
            refine QJ.then_exit ?_
            obtain rfl := Option.some.inj hm
            refine QJ.round_exit (fun hy => ?_)
            subst hy
            refine QJ.block_hit ?_
            exact QJ.cut_normal ((), ()) hmo19 [] trivial rfl rfl
      ·
        refine JC.condT' rfl (congrArg Bool.not (decide_eq_false h12)) ?_
        refine JC.seq ?_
        refine JC.region ?_
        refine JL.val (v := .bool false) (QV.assign rfl) rfl rfl rfl ?_
        refine JL.nil ?_
        refine QJ.then_normal ?_
        refine JC.ret ?_
        refine QJ.then_ret ?_
        obtain rfl := Option.some.inj hm
        exact QJ.body (vs := [.bool false]) (.inl rfl) rfl (ResVs.cons (ResV.tmp rfl) ResVs.nil) [] rfl rfl (.inr trivial) ⟨rfl, rfl⟩
    ·
      refine JC.condT' rfl (congrArg Bool.not (decide_eq_false h11)) ?_
      refine JC.seq ?_
      refine JC.region ?_
      refine JL.val (v := z10.v) (QV.move rfl) rfl rfl rfl ?_
      refine JL.val (v := .int .i64 ((y8.1).length : Int)) (QV.len (Rdg.of 0 rfl) Try.underlying34 rfl) rfl rfl rfl ?_
      refine JL.val (v := .bool (decide (((y8.1).length : Int) = (0 : Int)))) (QV.eql rfl rfl) rfl rfl rfl ?_
      rcases ite_inv hm with ⟨h36, hm⟩ | ⟨h36, hm⟩
      ·
        refine JL.val (v := .bool true) (QV.eq (QV.move rfl) (congrArg Value.bool (decide_eq_true h36))) rfl rfl rfl ?_
        obtain ⟨y37, hc38, hm⟩ := bind_inv hm
        refine JL.mv (d := some 25) (MV.call (Lo := []) (Lr := [Asr.of 5 (Enc.int .u8) (z10.v) y8.1, Asr.vw (Enc.int .u32) (s1.v) x2]) (F19.spec _ hc38) rfl Try.func19 rfl rfl rfl [] [0, 1] rfl rfl rfl trivial) rfl rfl rfl ?_
        rintro _ _ ⟨_, ⟨rfl, rfl⟩, rfl⟩
        refine JL.val (v := .bool y37) (QV.pickT rfl rfl) rfl rfl rfl ?_
        refine JL.val (v := .bool y37) (QV.assign rfl) rfl rfl rfl ?_
        refine JL.nil ?_
        refine QJ.then_normal ?_
        refine JC.ret ?_
        refine QJ.then_ret ?_
        obtain rfl := Option.some.inj hm
        exact QJ.body (vs := [.bool y37]) (.inl rfl) rfl (ResVs.cons (ResV.tmp rfl) ResVs.nil) [] rfl rfl (.inr trivial) ⟨rfl, rfl⟩
      ·
        refine JL.val (v := .bool false) (QV.eq (QV.move rfl) (congrArg Value.bool (decide_eq_false h36))) rfl rfl rfl ?_
        refine JL.skip (d := some 25) rfl rfl rfl ?_
        refine JL.val (v := .bool false) (QV.pickF rfl rfl) rfl rfl rfl ?_
        refine JL.val (v := .bool false) (QV.assign rfl) rfl rfl rfl ?_
        refine JL.nil ?_
        refine QJ.then_normal ?_
        refine JC.ret ?_
        refine QJ.then_ret ?_
        obtain rfl := Option.some.inj hm
        exact QJ.body (vs := [.bool false]) (.inl rfl) rfl (ResVs.cons (ResV.tmp rfl) ResVs.nil) [] rfl rfl (.inr trivial) ⟨rfl, rfl⟩

end Go.Proofs.Ytgganckggdjpaaa
