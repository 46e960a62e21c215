/- Written by gen.py: functions and their contracts. -/
import Derived.Test.YtgganckggdjpaaaOrdx1
namespace Go.Proofs.Ytgganckggdjpaaa
open Go Go.Eng Go.Proofs
set_option linter.unusedVariables false
set_option linter.unusedSimpArgs false
/-! ### 14: drogher/drogherref19.Right -/
noncomputable def F14.j2   : Option Bool :=
  some true
noncomputable def F14.j3 (d13 : Int)  : Option (Int ⊕ ((Bool) ⊕ Unit)) :=
  some (.inl (IntKind.wrap .i64 (d13 + (1 : Int))))
noncomputable def F14.j4 (d13 : Int)  : Option (Int ⊕ ((Bool) ⊕ Unit)) :=
  F14.j3 d13
noncomputable def F14.j5 (d20 : Int)  : Option (Int ⊕ ((Bool) ⊕ Unit)) :=
  some (.inl (IntKind.wrap .i64 (d20 + (1 : Int))))
noncomputable def F14.b2 (x2 : List (List Int)) (x5 : List Int) (x7 : List Int) (d13 : Int) : Int → Option (Int ⊕ ((Bool) ⊕ Unit))
  | d20 => (if d20 < ((x5).length : Int) then (if d13 < d20 then (if 0 ≤ d20 ∧ d20 < ((x5).length : Int) then (if 0 ≤ (gd x5 d20) ∧ (gd x5 d20) < ((x2).length : Int) then (if 0 ≤ d13 ∧ d13 < ((x5).length : Int) then ((F44.m ((gd x2 (gd x5 d20))) ((gd x5 d13))).bind fun y31 => (if y31 = true then ((F44.m (x7) ((gd x5 d20))).bind fun y34 => (if y34 = true then F14.j5 d20 else some (.inr (.inl (false))))) else F14.j5 d20)) else none) else none) else none) else F14.j5 d20) else some (.inr (.inr (()))))
noncomputable def F14.b1 (x2 : List (List Int)) (x5 : List Int) (x7 : List Int) : Int → Option (Int ⊕ ((Bool) ⊕ Unit))
  | d13 => (if d13 < ((x5).length : Int) then ((loop (F14.b2 x2 x5 x7 d13) (0 : Int)).bind fun y => match y with | .inl r => some (.inr (.inl (r))) | .inr _ => F14.j4 d13) else some (.inr (.inr (()))))
noncomputable def F14.j1 (x2 : List (List Int)) (x5 : List Int) (x7 : List Int)  : Option Bool :=
  ((loop (F14.b1 x2 x5 x7) (0 : Int)).bind fun y => match y with | .inl r => some r | .inr _ => F14.j2)
noncomputable def F14.b3 (x2 : List (List Int)) (x5 : List Int) : Int → Option (Int ⊕ ((Bool) ⊕ Unit))
  | d37 => (if d37 < ((x2).length : Int) then ((F44.m (x5) (d37)).bind fun y44 => (if y44 = true then some (.inl (IntKind.wrap .i64 (d37 + (1 : Int)))) else some (.inr (.inl (false))))) else some (.inr (.inr (()))))
noncomputable def F14.m (x2 : List (List Int)) (x5 : List Int) (x7 : List Int) : Option Bool :=
  ((F15.m (x2)).bind fun y9 => (if y9 = true then (if ((x5).length : Int) = ((x2).length : Int) then ((loop (F14.b3 x2 x5) (0 : Int)).bind fun y => match y with | .inl r => some r | .inr _ => F14.j1 x2 x5 x7) else some false) else some false))
set_option maxRecDepth 100000 in
set_option maxHeartbeats 4000000 in
theorem F14.spec (s1 : SlV) (z3 : List SlV) (s4 : SlV) (s6 : SlV) (x2 : List (List Int)) (x5 : List Int) (x7 : List Int) (r : Bool) (hm : F14.m x2 x5 x7 = some r) :
    Ctr Try.prog false 14 [s1.v, s4.v, s6.v] [Asr.vn (NE.sl (Enc.int .i64)) (s1.v) z3 x2, Asr.vw (Enc.int .i64) (s4.v) x5, Asr.vw (Enc.int .i64) (s6.v) x7] (fun v L' => v = .bool r ∧ L' = []) := by
  refine Ctr.intro (n := 68) (env := [(0, s1.v), (1, s4.v), (2, s6.v)]) Try.func14 rfl rfl rfl rfl (fun c => ?_)
  unfold F14.m at hm
  refine JC.seq ?_
  refine JC.region ?_
  refine JL.val (v := .bool false) (QV.assign rfl) rfl rfl rfl ?_
  refine JL.nil ?_
  refine QJ.then_normal ?_
  refine JC.seq ?_
  refine JC.seq ?_
  refine JC.region ?_
  refine JL.val (v := s1.v) (QV.move rfl) rfl rfl rfl ?_
  obtain ⟨y9, hc10, hm⟩ := bind_inv hm
  refine JL.mv (d := some 11) (MV.call (Lo := []) (Lr := [Asr.vn (NE.sl (Enc.int .i64)) (s1.v) z3 x2, Asr.vw (Enc.int .i64) (s4.v) x5, Asr.vw (Enc.int .i64) (s6.v) x7]) (F15.spec (s1) (z3) (x2) _ hc10) rfl Try.func15 rfl rfl rfl [] [0, 1, 2] rfl rfl rfl ⟨(Drv.vn 0 rfl), trivial⟩) rfl rfl rfl ?_
  rintro _ _ ⟨_, ⟨rfl, rfl⟩, rfl⟩
  refine JL.val (v := .bool (!y9)) (QV.not rfl) rfl rfl rfl ?_
  rcases ite_inv hm with ⟨h11, hm⟩ | ⟨h11, hm⟩
  ·
    refine JL.val (v := .bool false) (QV.eq (QV.move rfl) (congrArg Value.bool (congrArg Bool.not h11))) rfl rfl rfl ?_
    refine JL.val (v := s4.v) (QV.move rfl) rfl rfl rfl ?_
    refine JL.val (v := .int .i64 ((x5).length : Int)) (QV.len (Rdg.vw 1 rfl) Try.underlying25 rfl) rfl rfl rfl ?_
    refine JL.val (v := s1.v) (QV.move rfl) rfl rfl rfl ?_
    refine JL.val (v := .int .i64 ((x2).length : Int)) (QV.lenN (RdN.vn 0 rfl) Try.underlying22 rfl) rfl rfl rfl ?_
    refine JL.val (v := .bool (!(decide (((x5).length : Int) = ((x2).length : Int))))) (QV.neq rfl rfl) rfl rfl rfl ?_
    refine JL.val (v := .bool (!(decide (((x5).length : Int) = ((x2).length : Int))))) (QV.pickF rfl rfl) rfl rfl rfl ?_
    refine JL.nil ?_
    refine QJ.then_normal ?_
    rcases ite_inv hm with ⟨h12, hm⟩ | ⟨h12, hm⟩
    ·
      refine JC.condF' rfl (congrArg Bool.not (decide_eq_true h12)) ?_
      refine JC.skip ?_
      refine QJ.then_normal ?_
      refine JC.seq ?_
      refine JC.seq ?_
      refine JC.region ?_
      refine JL.val (v := s1.v) (QV.move rfl) rfl rfl rfl ?_
      refine JL.val (v := .int .i64 ((x2).length : Int)) (QV.lenN (RdN.vn 0 rfl) Try.underlying22 rfl) rfl rfl rfl ?_
      refine JL.val (v := .int .i64 (0 : Int)) (QV.move rfl) rfl rfl rfl ?_
      refine JL.nil ?_
      refine QJ.then_normal ?_
      refine JC.cutK (Y := Unit × Unit) (fun y => match y with | (_, _) => F14.j1 x2 x5 x7 = some r) (fun y => match y with | (_, _) => [(0, s1.v), (1, s4.v), (2, s6.v)]) (fun y => match y with | (_, _) => [Asr.vn (NE.sl (Enc.int .i64)) (s1.v) z3 x2, Asr.vw (Enc.int .i64) (s4.v) x5, Asr.vw (Enc.int .i64) (s6.v) x7]) ?_ ?_
      ·
        rintro ⟨⟨⟩, ⟨⟩⟩ hm
        unfold F14.j1 at hm
        show QJ _ _ [(0, s1.v), (1, s4.v), (2, s6.v)] [Asr.vn (NE.sl (Enc.int .i64)) (s1.v) z3 x2, Asr.vw (Enc.int .i64) (s4.v) x5, Asr.vw (Enc.int .i64) (s6.v) x7] _ _
        refine QJ.then_normal ?_
        refine JC.seq ?_
        refine JC.seq ?_
        refine JC.region ?_
        refine JL.val (v := s4.v) (QV.move rfl) rfl rfl rfl ?_
        refine JL.val (v := .int .i64 ((x5).length : Int)) (QV.len (Rdg.vw 1 rfl) Try.underlying25 rfl) rfl rfl rfl ?_
        refine JL.val (v := .int .i64 (0 : Int)) (QV.move rfl) rfl rfl rfl ?_
        refine JL.nil ?_
        refine QJ.then_normal ?_
        refine JC.cutK (Y := Unit × Unit) (fun y => match y with | (_, _) => F14.j2 = some r) (fun y => match y with | (_, _) => []) (fun y => match y with | (_, _) => []) ?_ ?_
        ·
          rintro ⟨⟨⟩, ⟨⟩⟩ hm
          unfold F14.j2 at hm
          show QJ _ _ [] [] _ _
          refine QJ.then_normal ?_
          refine JC.seq ?_
          refine JC.region ?_
          refine JL.val (v := .bool true) (QV.assign rfl) rfl rfl rfl ?_
          refine JL.nil ?_
          refine QJ.then_normal ?_
          refine JC.ret ?_
          obtain rfl := Option.some.inj hm
          exact QJ.body (vs := [.bool true]) (.inl rfl) rfl (ResVs.cons (ResV.tmp rfl) ResVs.nil) [] rfl rfl (.inr trivial) ⟨rfl, rfl⟩
        ·
          refine JC.block ?_
          obtain ⟨y15, hl16, hmo17⟩ := bind_inv hm
          refine JC.loop (F14.b1 x2 x5 x7) (fun x z => match x, z with | d13, _ => [(0, s1.v), (1, s4.v), (2, s6.v), (31, .int .i64 ((x5).length : Int)), (32, .int .i64 d13)]) (fun x z => match x, z with | d13, _ => [Asr.vn (NE.sl (Enc.int .i64)) (s1.v) z3 x2, Asr.vw (Enc.int .i64) (s4.v) x5, Asr.vw (Enc.int .i64) (s6.v) x7]) (0 : Int) () y15 hl16 [0, 1, 2] (by exact ⟨rfl, rfl, rfl, rfl, rfl, trivial⟩) rfl rfl ?_
          rintro d13 ⟨⟩ s18 hm
          unfold F14.b1 at hm
          dsimp only at hm
          show JC _ _ _ [(0, s1.v), (1, s4.v), (2, s6.v), (31, .int .i64 ((x5).length : Int)), (32, .int .i64 d13)] [Asr.vn (NE.sl (Enc.int .i64)) (s1.v) z3 x2, Asr.vw (Enc.int .i64) (s4.v) x5, Asr.vw (Enc.int .i64) (s6.v) x7] _ _
          refine JC.seq ?_
          refine JC.region ?_
          refine JL.val (v := .bool (decide (d13 < ((x5).length : Int)))) (QV.lss rfl rfl) rfl rfl rfl ?_
          refine JL.nil ?_
          refine QJ.then_normal ?_
          refine JC.seq ?_
          rcases ite_inv hm with ⟨h19, hm⟩ | ⟨h19, hm⟩
          ·
            refine JC.condT' rfl (decide_eq_true h19) ?_
            refine JC.skip ?_
            refine QJ.then_normal ?_
            refine JC.seq ?_
            refine JC.cutK (Y := Unit × Unit) (fun y => match y with | (_, _) => F14.j3 d13 = some s18) (fun y => match y with | (_, _) => [(0, s1.v), (1, s4.v), (2, s6.v), (31, .int .i64 ((x5).length : Int)), (32, .int .i64 d13)]) (fun y => match y with | (_, _) => [Asr.vn (NE.sl (Enc.int .i64)) (s1.v) z3 x2, Asr.vw (Enc.int .i64) (s4.v) x5, Asr.vw (Enc.int .i64) (s6.v) x7]) ?_ ?_
            ·
              rintro ⟨⟨⟩, ⟨⟩⟩ hm
              unfold F14.j3 at hm
              show QJ _ _ [(0, s1.v), (1, s4.v), (2, s6.v), (31, .int .i64 ((x5).length : Int)), (32, .int .i64 d13)] [Asr.vn (NE.sl (Enc.int .i64)) (s1.v) z3 x2, Asr.vw (Enc.int .i64) (s4.v) x5, Asr.vw (Enc.int .i64) (s6.v) x7] _ _
              refine QJ.then_normal ?_
              refine JC.region ?_
              refine JL.val (v := .int .i64 (IntKind.wrap .i64 (d13 + (1 : Int)))) (QV.add rfl rfl) rfl rfl rfl ?_
              refine JL.val (v := .int .i64 (IntKind.wrap .i64 (d13 + (1 : Int)))) (QV.move rfl) rfl rfl rfl ?_
              refine JL.nil ?_
              obtain rfl := Option.some.inj hm
              exact QJ.round_on (IntKind.wrap .i64 (d13 + (1 : Int))) () [0, 1, 2] (by exact ⟨rfl, rfl, rfl, rfl, rfl, trivial⟩) rfl rfl
            ·
              refine JC.block ?_
              refine JC.seq ?_
              refine JC.region ?_
              refine JL.val (v := .int .i64 d13) (QV.move rfl) rfl rfl rfl ?_
              refine JL.val (v := .int .i64 d13) (QV.assign rfl) rfl rfl rfl ?_
              refine JL.nil ?_
              refine QJ.then_normal ?_
              refine JC.seq ?_
              refine JC.region ?_
              refine JL.val (v := s4.v) (QV.move rfl) rfl rfl rfl ?_
              refine JL.val (v := .int .i64 ((x5).length : Int)) (QV.len (Rdg.vw 1 rfl) Try.underlying25 rfl) rfl rfl rfl ?_
              refine JL.val (v := .int .i64 (0 : Int)) (QV.move rfl) rfl rfl rfl ?_
              refine JL.nil ?_
              refine QJ.then_normal ?_
              refine JC.cutK (Y := Unit × Unit) (fun y => match y with | (_, _) => F14.j4 d13 = some s18) (fun y => match y with | (_, _) => [(0, s1.v), (1, s4.v), (2, s6.v), (31, .int .i64 ((x5).length : Int)), (32, .int .i64 d13)]) (fun y => match y with | (_, _) => [Asr.vn (NE.sl (Enc.int .i64)) (s1.v) z3 x2, Asr.vw (Enc.int .i64) (s4.v) x5, Asr.vw (Enc.int .i64) (s6.v) x7]) ?_ ?_
              ·
                rintro ⟨⟨⟩, ⟨⟩⟩ hm
                unfold F14.j4 at hm
                show QJ _ _ [(0, s1.v), (1, s4.v), (2, s6.v), (31, .int .i64 ((x5).length : Int)), (32, .int .i64 d13)] [Asr.vn (NE.sl (Enc.int .i64)) (s1.v) z3 x2, Asr.vw (Enc.int .i64) (s4.v) x5, Asr.vw (Enc.int .i64) (s6.v) x7] _ _
                refine QJ.block_normal ?_
                exact QJ.cut_normal ((), ()) hm [0, 1, 2] (by exact ⟨rfl, rfl, rfl, rfl, rfl, trivial⟩) rfl rfl
              ·
                refine JC.block ?_
                obtain ⟨y22, hl23, hmo24⟩ := bind_inv hm
                refine JC.loop (F14.b2 x2 x5 x7 d13) (fun x z => match x, z with | d20, _ => [(0, s1.v), (1, s4.v), (2, s6.v), (8, .int .i64 d13), (31, .int .i64 ((x5).length : Int)), (32, .int .i64 d13), (36, .int .i64 ((x5).length : Int)), (37, .int .i64 d20)]) (fun x z => match x, z with | d20, _ => [Asr.vn (NE.sl (Enc.int .i64)) (s1.v) z3 x2, Asr.vw (Enc.int .i64) (s4.v) x5, Asr.vw (Enc.int .i64) (s6.v) x7]) (0 : Int) () y22 hl23 [0, 1, 2] (by exact ⟨rfl, rfl, rfl, rfl, rfl, rfl, rfl, rfl, trivial⟩) rfl rfl ?_
                rintro d20 ⟨⟩ s25 hm
                unfold F14.b2 at hm
                dsimp only at hm
                show JC _ _ _ [(0, s1.v), (1, s4.v), (2, s6.v), (8, .int .i64 d13), (31, .int .i64 ((x5).length : Int)), (32, .int .i64 d13), (36, .int .i64 ((x5).length : Int)), (37, .int .i64 d20)] [Asr.vn (NE.sl (Enc.int .i64)) (s1.v) z3 x2, Asr.vw (Enc.int .i64) (s4.v) x5, Asr.vw (Enc.int .i64) (s6.v) x7] _ _
                refine JC.seq ?_
                refine JC.region ?_
                refine JL.val (v := .bool (decide (d20 < ((x5).length : Int)))) (QV.lss rfl rfl) rfl rfl rfl ?_
                refine JL.nil ?_
                refine QJ.then_normal ?_
                refine JC.seq ?_
                rcases ite_inv hm with ⟨h26, hm⟩ | ⟨h26, hm⟩
                ·
                  refine JC.condT' rfl (decide_eq_true h26) ?_
                  refine JC.skip ?_
                  refine QJ.then_normal ?_
                  refine JC.seq ?_
                  refine JC.cutK (Y := Unit × Unit) (fun y => match y with | (_, _) => F14.j5 d20 = some s25) (fun y => match y with | (_, _) => [(0, s1.v), (1, s4.v), (2, s6.v), (8, .int .i64 d13), (31, .int .i64 ((x5).length : Int)), (32, .int .i64 d13), (36, .int .i64 ((x5).length : Int)), (37, .int .i64 d20)]) (fun y => match y with | (_, _) => [Asr.vn (NE.sl (Enc.int .i64)) (s1.v) z3 x2, Asr.vw (Enc.int .i64) (s4.v) x5, Asr.vw (Enc.int .i64) (s6.v) x7]) ?_ ?_
                  ·
                    rintro ⟨⟨⟩, ⟨⟩⟩ hm
                    unfold F14.j5 at hm
                    show QJ _ _ [(0, s1.v), (1, s4.v), (2, s6.v), (8, .int .i64 d13), (31, .int .i64 ((x5).length : Int)), (32, .int .i64 d13), (36, .int .i64 ((x5).length : Int)), (37, .int .i64 d20)] [Asr.vn (NE.sl (Enc.int .i64)) (s1.v) z3 x2, Asr.vw (Enc.int .i64) (s4.v) x5, Asr.vw (Enc.int .i64) (s6.v) x7] _ _
                    refine QJ.then_normal ?_
                    refine JC.region ?_
                    refine JL.val (v := .int .i64 (IntKind.wrap .i64 (d20 + (1 : Int)))) (QV.add rfl rfl) rfl rfl rfl ?_
                    refine JL.val (v := .int .i64 (IntKind.wrap .i64 (d20 + (1 : Int)))) (QV.move rfl) rfl rfl rfl ?_
                    refine JL.nil ?_
                    obtain rfl := Option.some.inj hm
                    exact QJ.round_on (IntKind.wrap .i64 (d20 + (1 : Int))) () [0, 1, 2] (by exact ⟨rfl, rfl, rfl, rfl, rfl, rfl, rfl, rfl, trivial⟩) rfl rfl
                  ·
                    refine JC.block ?_
                    refine JC.seq ?_
                    refine JC.region ?_
                    refine JL.val (v := .int .i64 d20) (QV.move rfl) rfl rfl rfl ?_
                    refine JL.val (v := .int .i64 d20) (QV.assign rfl) rfl rfl rfl ?_
                    refine JL.nil ?_
                    refine QJ.then_normal ?_
                    refine JC.seq ?_
                    refine JC.regionT [Asr.vn (NE.sl (Enc.int .i64)) (s1.v) z3 x2, Asr.vw (Enc.int .i64) (s4.v) x5, Asr.vw (Enc.int .i64) (s6.v) x7] (fun t => false) [(0, true), (1, false), (2, false), (3, false), (4, true), (5, true), (6, true), (7, true), (8, true), (9, true), (10, true), (11, true), (12, false), (13, false), (14, false), (15, false), (16, false), (17, false), (18, true), (19, true), (20, false), (21, false), (22, false), (23, false), (24, false), (25, false)] (by kernel_rfl) (by kernel_rfl) (by kernel_rfl) rfl (fun hsel => ?_)
                    refine JT.take (i := 0) (v := .int .i64 d13) hsel rfl (QV.move rfl) rfl rfl rfl rfl [0, 1, 2] rfl rfl ?_
                    refine JT.only (i := 1) (d := some 41) rfl (MV.ofQV (v := .int .i64 d20) (QV.move rfl)) rfl rfl rfl ?_
                    rintro _ _ ⟨rfl, rfl⟩
                    refine ⟨fun _ => ⟨[0, 1, 2], rfl, rfl⟩, ?_⟩
                    refine JT.only (i := 2) (d := some 42) rfl (MV.ofQV (v := .bool (decide (d13 < d20))) (QV.lss rfl rfl)) rfl rfl rfl ?_
                    rintro _ _ ⟨rfl, rfl⟩
                    refine ⟨fun _ => ⟨[0, 1, 2], rfl, rfl⟩, ?_⟩
                    rcases ite_inv hm with ⟨h27, hm⟩ | ⟨h27, hm⟩
                    ·
                      refine JT.only (i := 3) (d := some 43) rfl (MV.ofQV (v := .bool true) (QV.eq (QV.move rfl) (congrArg Value.bool (decide_eq_true h27)))) rfl rfl rfl ?_
                      rintro _ _ ⟨rfl, rfl⟩
                      refine ⟨fun _ => ⟨[0, 1, 2], rfl, rfl⟩, ?_⟩
                      refine JT.take (i := 4) (v := s1.v) hsel rfl (QV.move rfl) rfl rfl rfl rfl [0, 1, 2] rfl rfl ?_
                      refine JT.take (i := 5) (v := s4.v) hsel rfl (QV.move rfl) rfl rfl rfl rfl [0, 1, 2] rfl rfl ?_
                      refine JT.take (i := 6) (v := .int .i64 d20) hsel rfl (QV.move rfl) rfl rfl rfl rfl [0, 1, 2] rfl rfl ?_
                      obtain ⟨h28, hm⟩ := guard_inv hm
                      refine JT.take (i := 7) (v := .pointer (some (elA (s4.v) (Int.toNat d20 * ((Enc.int .i64)).sz)))) hsel rfl (QV.indexA (Rdg.vw 1 rfl) Try.underlying25 tk_3 rfl rfl h28) rfl rfl rfl rfl [0, 1, 2] rfl rfl ?_
                      refine JT.take (i := 8) (v := .int .i64 (gd x5 d20)) hsel rfl (QV.el1 (Rdg.vw 1 rfl) tk_3 rfl h28 rfl) rfl rfl rfl rfl [0, 1, 2] rfl rfl ?_
                      obtain ⟨h29, hm⟩ := guard_inv hm
                      refine JT.take (i := 9) (v := .pointer (some (elA (s1.v) (Int.toNat (gd x5 d20) * ((NE.sl (Enc.int .i64)).E).sz)))) hsel rfl (QV.indexN (RdN.vn 0 rfl) Try.underlying22 tk_25 rfl rfl h29) rfl rfl rfl rfl [0, 1, 2] rfl rfl ?_
                      refine JT.take (i := 10) (v := (gd z3 (gd x5 d20)).v) hsel rfl (QV.el1N (RdN.vn 0 rfl) tk_25 rfl h29 rfl) rfl rfl rfl rfl [0, 1, 2] rfl rfl ?_
                      refine JT.take (i := 11) (v := s4.v) hsel rfl (QV.move rfl) rfl rfl rfl rfl [0, 1, 2] rfl rfl ?_
                      refine JT.only (i := 12) (d := some 52) rfl (MV.ofQV (v := .int .i64 d13) (QV.move rfl)) rfl rfl rfl ?_
                      rintro _ _ ⟨rfl, rfl⟩
                      refine ⟨fun _ => ⟨[0, 1, 2], rfl, rfl⟩, ?_⟩
                      obtain ⟨h30, hm⟩ := guard_inv hm
                      refine JT.only (i := 13) (d := some 53) rfl (MV.ofQV (v := .pointer (some (elA (s4.v) (Int.toNat d13 * ((Enc.int .i64)).sz)))) (QV.indexA (Rdg.vw 1 rfl) Try.underlying25 tk_3 rfl rfl h30)) rfl rfl rfl ?_
                      rintro _ _ ⟨rfl, rfl⟩
                      refine ⟨fun _ => ⟨[0, 1, 2], rfl, rfl⟩, ?_⟩
                      refine JT.only (i := 14) (d := some 54) rfl (MV.ofQV (v := .int .i64 (gd x5 d13)) (QV.el1 (Rdg.vw 1 rfl) tk_3 rfl h30 rfl)) rfl rfl rfl ?_
                      rintro _ _ ⟨rfl, rfl⟩
                      refine ⟨fun _ => ⟨[0, 1, 2], rfl, rfl⟩, ?_⟩
                      obtain ⟨y31, hc32, hm⟩ := bind_inv hm
                      refine JT.only (i := 15) (d := some 55) rfl (MV.call (Lo := []) (Lr := [Asr.vn (NE.sl (Enc.int .i64)) (s1.v) z3 x2, Asr.vw (Enc.int .i64) (s4.v) x5, Asr.vw (Enc.int .i64) (s6.v) x7]) (F44.spec ((gd z3 (gd x5 d20))) ((gd x2 (gd x5 d20))) ((gd x5 d13)) _ hc32) rfl Try.func44 rfl rfl rfl [] [0, 1, 2] rfl rfl rfl ⟨(Drv.el (K := (NE.sl (Enc.int .i64))) (A := Asr.vw (Enc.int .i64) ((gd z3 (gd x5 d20)).v) (gd x2 (gd x5 d20))) (Drv.vn 0 rfl) h29 (fun _ _ q => q)), trivial⟩) rfl rfl rfl ?_
                      rintro _ _ ⟨_, ⟨rfl, rfl⟩, rfl⟩
                      refine ⟨fun _ => ⟨[0, 1, 2], rfl, rfl⟩, ?_⟩
                      refine JT.only (i := 16) (d := some 56) rfl (MV.ofQV (v := .bool y31) (QV.pickT rfl rfl)) rfl rfl rfl ?_
                      rintro _ _ ⟨rfl, rfl⟩
                      refine ⟨fun _ => ⟨[0, 1, 2], rfl, rfl⟩, ?_⟩
                      rcases ite_inv hm with ⟨h33, hm⟩ | ⟨h33, hm⟩
                      ·
                        refine JT.only (i := 17) (d := some 57) rfl (MV.ofQV (v := .bool true) (QV.eq (QV.move rfl) (congrArg Value.bool h33))) rfl rfl rfl ?_
                        rintro _ _ ⟨rfl, rfl⟩
                        refine ⟨fun _ => ⟨[0, 1, 2], rfl, rfl⟩, ?_⟩
                        refine JT.take (i := 18) (v := s6.v) hsel rfl (QV.move rfl) rfl rfl rfl rfl [0, 1, 2] rfl rfl ?_
                        refine JT.take (i := 19) (v := s4.v) hsel rfl (QV.move rfl) rfl rfl rfl rfl [0, 1, 2] rfl rfl ?_
                        refine JT.only (i := 20) (d := some 60) rfl (MV.ofQV (v := .int .i64 d20) (QV.move rfl)) rfl rfl rfl ?_
                        rintro _ _ ⟨rfl, rfl⟩
                        refine ⟨fun _ => ⟨[0, 1, 2], rfl, rfl⟩, ?_⟩
                        refine JT.only (i := 21) (d := some 61) rfl (MV.ofQV (v := .pointer (some (elA (s4.v) (Int.toNat d20 * ((Enc.int .i64)).sz)))) (QV.indexA (Rdg.vw 1 rfl) Try.underlying25 tk_3 rfl rfl h28)) rfl rfl rfl ?_
                        rintro _ _ ⟨rfl, rfl⟩
                        refine ⟨fun _ => ⟨[0, 1, 2], rfl, rfl⟩, ?_⟩
                        refine JT.only (i := 22) (d := some 62) rfl (MV.ofQV (v := .int .i64 (gd x5 d20)) (QV.el1 (Rdg.vw 1 rfl) tk_3 rfl h28 rfl)) rfl rfl rfl ?_
                        rintro _ _ ⟨rfl, rfl⟩
                        refine ⟨fun _ => ⟨[0, 1, 2], rfl, rfl⟩, ?_⟩
                        obtain ⟨y34, hc35, hm⟩ := bind_inv hm
                        refine JT.only (i := 23) (d := some 63) rfl (MV.call (Lo := []) (Lr := [Asr.vn (NE.sl (Enc.int .i64)) (s1.v) z3 x2, Asr.vw (Enc.int .i64) (s4.v) x5, Asr.vw (Enc.int .i64) (s6.v) x7]) (F44.spec (s6) (x7) ((gd x5 d20)) _ hc35) rfl Try.func44 rfl rfl rfl [] [0, 1, 2] rfl rfl rfl ⟨(Drv.vw 2 rfl), trivial⟩) rfl rfl rfl ?_
                        rintro _ _ ⟨_, ⟨rfl, rfl⟩, rfl⟩
                        refine ⟨fun _ => ⟨[0, 1, 2], rfl, rfl⟩, ?_⟩
                        refine JT.only (i := 24) (d := some 64) rfl (MV.ofQV (v := .bool (!y34)) (QV.not rfl)) rfl rfl rfl ?_
                        rintro _ _ ⟨rfl, rfl⟩
                        refine ⟨fun _ => ⟨[0, 1, 2], rfl, rfl⟩, ?_⟩
                        refine JT.only (i := 25) (d := some 65) rfl (MV.ofQV (v := .bool (!y34)) (QV.pickT rfl rfl)) rfl rfl rfl ?_
                        rintro _ _ ⟨rfl, rfl⟩
                        refine ⟨fun _ => ⟨[0, 1, 2], rfl, rfl⟩, ?_⟩
                        refine JT.nil ?_
                        refine QJ.then_normal ?_
                        rcases ite_inv hm with ⟨h36, hm⟩ | ⟨h36, hm⟩
                        ·
                          refine JC.condF' rfl (congrArg Bool.not h36) ?_
                          refine JC.skip ?_
                          refine QJ.block_normal ?_
                          exact QJ.cut_normal ((), ()) hm [0, 1, 2] (by exact ⟨rfl, rfl, rfl, rfl, rfl, rfl, rfl, rfl, trivial⟩) rfl rfl
                        ·
                          refine JC.condT' rfl (congrArg Bool.not (bfalse h36)) ?_
                          refine JC.seq ?_
                          refine JC.region ?_
                          refine JL.val (v := .bool false) (QV.assign rfl) rfl rfl rfl ?_
                          refine JL.nil ?_
                          refine QJ.then_normal ?_
                          refine JC.ret ?_
                          refine QJ.block_ret ?_
                          refine QJ.cut_ret ?_
                          refine QJ.then_ret ?_
                          obtain rfl := Option.some.inj hm
                          refine QJ.round_ret (fun hy => ?_)
                          subst hy
                          refine QJ.block_ret ?_
                          refine QJ.cut_ret ?_
                          refine QJ.block_ret ?_
                          refine QJ.cut_ret ?_
                          refine QJ.then_ret ?_
                          obtain rfl := Option.some.inj hmo24
                          refine QJ.round_ret (fun hy => ?_)
                          subst hy
                          refine QJ.block_ret ?_
                          refine QJ.cut_ret ?_
                          refine QJ.then_ret ?_
                          obtain rfl := Option.some.inj hmo17
                          exact QJ.body (vs := [.bool false]) (.inl rfl) rfl (ResVs.cons (ResV.tmp rfl) ResVs.nil) [] rfl rfl (.inr trivial) ⟨rfl, rfl⟩
                      ·
                        refine JT.only (i := 17) (d := some 57) rfl (MV.ofQV (v := .bool false) (QV.eq (QV.move rfl) (congrArg Value.bool (bfalse h33)))) rfl rfl rfl ?_
                        rintro _ _ ⟨rfl, rfl⟩
                        refine ⟨fun _ => ⟨[0, 1, 2], rfl, rfl⟩, ?_⟩
                        refine JT.skip (i := 18) (d := some 58) hsel rfl rfl rfl rfl rfl [0, 1, 2] rfl rfl ?_
                        refine JT.skip (i := 19) (d := some 59) hsel rfl rfl rfl rfl rfl [0, 1, 2] rfl rfl ?_
                        refine JT.skipO (i := 20) (d := some 60) rfl rfl rfl rfl [0, 1, 2] rfl rfl ?_
                        refine JT.skipO (i := 21) (d := some 61) rfl rfl rfl rfl [0, 1, 2] rfl rfl ?_
                        refine JT.skipO (i := 22) (d := some 62) rfl rfl rfl rfl [0, 1, 2] rfl rfl ?_
                        refine JT.skipO (i := 23) (d := some 63) rfl rfl rfl rfl [0, 1, 2] rfl rfl ?_
                        refine JT.skipO (i := 24) (d := some 64) rfl rfl rfl rfl [0, 1, 2] rfl rfl ?_
                        refine JT.only (i := 25) (d := some 65) rfl (MV.ofQV (v := .bool false) (QV.pickF rfl rfl)) rfl rfl rfl ?_
                        rintro _ _ ⟨rfl, rfl⟩
                        refine ⟨fun _ => ⟨[0, 1, 2], rfl, rfl⟩, ?_⟩
                        refine JT.nil ?_
                        refine QJ.then_normal ?_
                        refine JC.condF rfl ?_
                        refine JC.skip ?_
                        refine QJ.block_normal ?_
                        exact QJ.cut_normal ((), ()) hm [0, 1, 2] (by exact ⟨rfl, rfl, rfl, rfl, rfl, rfl, rfl, rfl, trivial⟩) rfl rfl
                    ·
                      refine JT.only (i := 3) (d := some 43) rfl (MV.ofQV (v := .bool false) (QV.eq (QV.move rfl) (congrArg Value.bool (decide_eq_false h27)))) rfl rfl rfl ?_
                      rintro _ _ ⟨rfl, rfl⟩
                      refine ⟨fun _ => ⟨[0, 1, 2], rfl, rfl⟩, ?_⟩
                      refine JT.skip (i := 4) (d := some 44) hsel rfl rfl rfl rfl rfl [0, 1, 2] rfl rfl ?_
                      refine JT.skip (i := 5) (d := some 45) hsel rfl rfl rfl rfl rfl [0, 1, 2] rfl rfl ?_
                      refine JT.skip (i := 6) (d := some 46) hsel rfl rfl rfl rfl rfl [0, 1, 2] rfl rfl ?_
                      refine JT.skip (i := 7) (d := some 47) hsel rfl rfl rfl rfl rfl [0, 1, 2] rfl rfl ?_
                      refine JT.skip (i := 8) (d := some 48) hsel rfl rfl rfl rfl rfl [0, 1, 2] rfl rfl ?_
                      refine JT.skip (i := 9) (d := some 49) hsel rfl rfl rfl rfl rfl [0, 1, 2] rfl rfl ?_
                      refine JT.skip (i := 10) (d := some 50) hsel rfl rfl rfl rfl rfl [0, 1, 2] rfl rfl ?_
                      refine JT.skip (i := 11) (d := some 51) hsel rfl rfl rfl rfl rfl [0, 1, 2] rfl rfl ?_
                      refine JT.skipO (i := 12) (d := some 52) rfl rfl rfl rfl [0, 1, 2] rfl rfl ?_
                      refine JT.skipO (i := 13) (d := some 53) rfl rfl rfl rfl [0, 1, 2] rfl rfl ?_
                      refine JT.skipO (i := 14) (d := some 54) rfl rfl rfl rfl [0, 1, 2] rfl rfl ?_
                      refine JT.skipO (i := 15) (d := some 55) rfl rfl rfl rfl [0, 1, 2] rfl rfl ?_
                      refine JT.only (i := 16) (d := some 56) rfl (MV.ofQV (v := .bool false) (QV.pickF rfl rfl)) rfl rfl rfl ?_
                      rintro _ _ ⟨rfl, rfl⟩
                      refine ⟨fun _ => ⟨[0, 1, 2], rfl, rfl⟩, ?_⟩
                      refine JT.only (i := 17) (d := some 57) rfl (MV.ofQV (v := .bool false) (QV.move rfl)) rfl rfl rfl ?_
                      rintro _ _ ⟨rfl, rfl⟩
                      refine ⟨fun _ => ⟨[0, 1, 2], rfl, rfl⟩, ?_⟩
                      refine JT.skip (i := 18) (d := some 58) hsel rfl rfl rfl rfl rfl [0, 1, 2] rfl rfl ?_
                      refine JT.skip (i := 19) (d := some 59) hsel rfl rfl rfl rfl rfl [0, 1, 2] rfl rfl ?_
                      refine JT.skipO (i := 20) (d := some 60) rfl rfl rfl rfl [0, 1, 2] rfl rfl ?_
                      refine JT.skipO (i := 21) (d := some 61) rfl rfl rfl rfl [0, 1, 2] rfl rfl ?_
                      refine JT.skipO (i := 22) (d := some 62) rfl rfl rfl rfl [0, 1, 2] rfl rfl ?_
                      refine JT.skipO (i := 23) (d := some 63) rfl rfl rfl rfl [0, 1, 2] rfl rfl ?_
                      refine JT.skipO (i := 24) (d := some 64) rfl rfl rfl rfl [0, 1, 2] rfl rfl ?_
                      refine JT.only (i := 25) (d := some 65) rfl (MV.ofQV (v := .bool false) (QV.pickF rfl rfl)) rfl rfl rfl ?_
                      rintro _ _ ⟨rfl, rfl⟩
                      refine ⟨fun _ => ⟨[0, 1, 2], rfl, rfl⟩, ?_⟩
                      refine JT.nil ?_
                      refine QJ.then_normal ?_
                      refine JC.condF rfl ?_
                      refine JC.skip ?_
                      refine QJ.block_normal ?_
                      exact QJ.cut_normal ((), ()) hm [0, 1, 2] (by exact ⟨rfl, rfl, rfl, rfl, rfl, rfl, rfl, rfl, trivial⟩) rfl rfl
                ·
                  refine JC.condF' rfl (decide_eq_false h26) ?_
                  refine JC.exit ?_
                  refine QJ.then_exit ?_
                  obtain rfl := Option.some.inj hm
                  refine QJ.round_exit (fun hy => ?_)
                  subst hy
                  refine QJ.block_hit ?_
                  exact QJ.cut_normal ((), ()) hmo24 [0, 1, 2] (by exact ⟨rfl, rfl, rfl, rfl, rfl, trivial⟩) rfl rfl
          ·
            refine JC.condF' rfl (decide_eq_false h19) ?_
            refine JC.exit ?_
            refine QJ.then_exit ?_
            obtain rfl := Option.some.inj hm
            refine QJ.round_exit (fun hy => ?_)
            subst hy
            refine QJ.block_hit ?_
            exact QJ.cut_normal ((), ()) hmo17 [] trivial rfl rfl
      ·
        refine JC.block ?_
        obtain ⟨y39, hl40, hmo41⟩ := bind_inv hm
        refine JC.loop (F14.b3 x2 x5) (fun x z => match x, z with | d37, _ => [(0, s1.v), (1, s4.v), (2, s6.v), (21, .int .i64 ((x2).length : Int)), (22, .int .i64 d37)]) (fun x z => match x, z with | d37, _ => [Asr.vn (NE.sl (Enc.int .i64)) (s1.v) z3 x2, Asr.vw (Enc.int .i64) (s4.v) x5, Asr.vw (Enc.int .i64) (s6.v) x7]) (0 : Int) () y39 hl40 [0, 1, 2] (by exact ⟨rfl, rfl, rfl, rfl, rfl, trivial⟩) rfl rfl ?_
        rintro d37 ⟨⟩ s42 hm
        unfold F14.b3 at hm
        dsimp only at hm
        show JC _ _ _ [(0, s1.v), (1, s4.v), (2, s6.v), (21, .int .i64 ((x2).length : Int)), (22, .int .i64 d37)] [Asr.vn (NE.sl (Enc.int .i64)) (s1.v) z3 x2, Asr.vw (Enc.int .i64) (s4.v) x5, Asr.vw (Enc.int .i64) (s6.v) x7] _ _
        refine JC.seq ?_
        refine JC.region ?_
        refine JL.val (v := .bool (decide (d37 < ((x2).length : Int)))) (QV.lss rfl rfl) rfl rfl rfl ?_
        refine JL.nil ?_
        refine QJ.then_normal ?_
        refine JC.seq ?_
        rcases ite_inv hm with ⟨h43, hm⟩ | ⟨h43, hm⟩
        ·
          refine JC.condT' rfl (decide_eq_true h43) ?_
          refine JC.skip ?_
          refine QJ.then_normal ?_
          refine JC.seq ?_
          refine JC.block ?_
          refine JC.seq ?_
          refine JC.region ?_
          refine JL.val (v := .int .i64 d37) (QV.move rfl) rfl rfl rfl ?_
          refine JL.val (v := .int .i64 d37) (QV.assign rfl) rfl rfl rfl ?_
          refine JL.nil ?_
          refine QJ.then_normal ?_
          refine JC.seq ?_
          refine JC.region ?_
          refine JL.val (v := s4.v) (QV.move rfl) rfl rfl rfl ?_
          refine JL.val (v := .int .i64 d37) (QV.move rfl) rfl rfl rfl ?_
          obtain ⟨y44, hc45, hm⟩ := bind_inv hm
          refine JL.mv (d := some 27) (MV.call (Lo := []) (Lr := [Asr.vn (NE.sl (Enc.int .i64)) (s1.v) z3 x2, Asr.vw (Enc.int .i64) (s4.v) x5, Asr.vw (Enc.int .i64) (s6.v) x7]) (F44.spec (s4) (x5) (d37) _ hc45) rfl Try.func44 rfl rfl rfl [] [0, 1, 2] rfl rfl rfl ⟨(Drv.vw 1 rfl), trivial⟩) rfl rfl rfl ?_
          rintro _ _ ⟨_, ⟨rfl, rfl⟩, rfl⟩
          refine JL.val (v := .bool (!y44)) (QV.not rfl) rfl rfl rfl ?_
          refine JL.nil ?_
          refine QJ.then_normal ?_
          rcases ite_inv hm with ⟨h46, hm⟩ | ⟨h46, hm⟩
          ·
            refine JC.condF' rfl (congrArg Bool.not h46) ?_
            refine JC.skip ?_
            refine QJ.block_normal ?_
            refine QJ.then_normal ?_
            refine JC.region ?_
            refine JL.val (v := .int .i64 (IntKind.wrap .i64 (d37 + (1 : Int)))) (QV.add rfl rfl) rfl rfl rfl ?_
            refine JL.val (v := .int .i64 (IntKind.wrap .i64 (d37 + (1 : Int)))) (QV.move rfl) rfl rfl rfl ?_
            refine JL.nil ?_
            obtain rfl := Option.some.inj hm
            exact QJ.round_on (IntKind.wrap .i64 (d37 + (1 : Int))) () [0, 1, 2] (by exact ⟨rfl, rfl, rfl, rfl, rfl, trivial⟩) rfl rfl
          ·
            refine JC.condT' rfl (congrArg Bool.not (bfalse h46)) ?_
            refine JC.seq ?_
            refine JC.region ?_
            refine JL.val (v := .bool false) (QV.assign rfl) rfl rfl rfl ?_
            refine JL.nil ?_
            refine QJ.then_normal ?_
            refine JC.ret ?_
            refine QJ.block_ret ?_
            refine QJ.then_ret ?_
            obtain rfl := Option.some.inj hm
            refine QJ.round_ret (fun hy => ?_)
            subst hy
            refine QJ.block_ret ?_
            refine QJ.cut_ret ?_
            refine QJ.then_ret ?_
            obtain rfl := Option.some.inj hmo41
            exact QJ.body (vs := [.bool false]) (.inl rfl) rfl (ResVs.cons (ResV.tmp rfl) ResVs.nil) [] rfl rfl (.inr trivial) ⟨rfl, rfl⟩
        ·
          refine JC.condF' rfl (decide_eq_false h43) ?_
          refine JC.exit ?_
          refine QJ.then_exit ?_
          obtain rfl := Option.some.inj hm
          refine QJ.round_exit (fun hy => ?_)
          subst hy
          refine QJ.block_hit ?_
          exact QJ.cut_normal ((), ()) hmo41 [0, 1, 2] (by exact ⟨rfl, rfl, rfl, trivial⟩) rfl rfl
    ·
      refine JC.condT' rfl (congrArg Bool.not (decide_eq_false h12)) ?_
      refine JC.seq ?_
      refine JC.region ?_
      refine JL.val (v := .bool false) (QV.assign rfl) rfl rfl rfl ?_
      refine JL.nil ?_
      refine QJ.then_normal ?_
      refine JC.ret ?_
      refine QJ.then_ret ?_
      obtain rfl := Option.some.inj hm
      exact QJ.body (vs := [.bool false]) (.inl rfl) rfl (ResVs.cons (ResV.tmp rfl) ResVs.nil) [] rfl rfl (.inr trivial) ⟨rfl, rfl⟩
  ·
    refine JL.val (v := .bool true) (QV.eq (QV.move rfl) (congrArg Value.bool (congrArg Bool.not (bfalse h11)))) rfl rfl rfl ?_
    refine JL.skip (d := some 14) rfl rfl rfl ?_
    refine JL.skip (d := some 15) rfl rfl rfl ?_
    refine JL.skip (d := some 16) rfl rfl rfl ?_
    refine JL.skip (d := some 17) rfl rfl rfl ?_
    refine JL.skip (d := some 18) rfl rfl rfl ?_
    refine JL.val (v := .bool true) (QV.pickT rfl rfl) rfl rfl rfl ?_
    refine JL.nil ?_
    refine QJ.then_normal ?_
    refine JC.condT rfl ?_
    refine JC.seq ?_
    refine JC.region ?_
    refine JL.val (v := .bool false) (QV.assign rfl) rfl rfl rfl ?_
    refine JL.nil ?_
    refine QJ.then_normal ?_
    refine JC.ret ?_
    refine QJ.then_ret ?_
    obtain rfl := Option.some.inj hm
    exact QJ.body (vs := [.bool false]) (.inl rfl) rfl (ResVs.cons (ResV.tmp rfl) ResVs.nil) [] rfl rfl (.inr trivial) ⟨rfl, rfl⟩

/-! ### 67: slices.Index[[]int,int] -/
noncomputable def F67.j1   : Option Int :=
  some (-1 : Int)
noncomputable def F67.b1 (x2 : List Int) (x3 : Int) : Int → Option (Int ⊕ ((Int) ⊕ Unit))
  | d5 => (if d5 < ((x2).length : Int) then (if 0 ≤ d5 ∧ d5 < ((x2).length : Int) then (if x3 = (gd x2 d5) then some (.inr (.inl (d5))) else some (.inl (IntKind.wrap .i64 (d5 + (1 : Int))))) else none) else some (.inr (.inr (()))))
noncomputable def F67.m (x2 : List Int) (x3 : Int) : Option Int :=
  ((loop (F67.b1 x2 x3) (0 : Int)).bind fun y => match y with | .inl r => some r | .inr _ => F67.j1)
set_option maxRecDepth 100000 in
set_option maxHeartbeats 4000000 in
theorem F67.spec (s1 : SlV) (x2 : List Int) (x3 : Int) (r : Int) (hm : F67.m x2 x3 = some r) :
    Ctr Try.prog false 67 [s1.v, .int .i64 x3] [Asr.vw (Enc.int .i64) (s1.v) x2] (fun v L' => v = .int .i64 r ∧ L' = []) := by
  refine Ctr.intro (n := 19) (env := [(0, s1.v), (1, .int .i64 x3)]) Try.func67 rfl rfl rfl rfl (fun c => ?_)
  unfold F67.m at hm
  refine JC.seq ?_
  refine JC.region ?_
  refine JL.val (v := .int .i64 (0 : Int)) (QV.assign rfl) rfl rfl rfl ?_
  refine JL.nil ?_
  refine QJ.then_normal ?_
  refine JC.seq ?_
  refine JC.seq ?_
  refine JC.region ?_
  refine JL.val (v := s1.v) (QV.move rfl) rfl rfl rfl ?_
  refine JL.val (v := .int .i64 ((x2).length : Int)) (QV.len (Rdg.vw 0 rfl) Try.underlying25 rfl) rfl rfl rfl ?_
  refine JL.val (v := .int .i64 (0 : Int)) (QV.move rfl) rfl rfl rfl ?_
  refine JL.nil ?_
  refine QJ.then_normal ?_
  refine JC.cutK (Y := Unit × Unit) (fun y => match y with | (_, _) => F67.j1 = some r) (fun y => match y with | (_, _) => []) (fun y => match y with | (_, _) => []) ?_ ?_
  ·
    rintro ⟨⟨⟩, ⟨⟩⟩ hm
    unfold F67.j1 at hm
    show QJ _ _ [] [] _ _
    refine QJ.then_normal ?_
    refine JC.seq ?_
    refine JC.region ?_
    refine JL.val (v := .int .i64 (-1 : Int)) (QV.assign rfl) rfl rfl rfl ?_
    refine JL.nil ?_
    refine QJ.then_normal ?_
    refine JC.ret ?_
    obtain rfl := Option.some.inj hm
    exact QJ.body (vs := [.int .i64 (-1 : Int)]) (.inl rfl) rfl (ResVs.cons (ResV.tmp rfl) ResVs.nil) [] rfl rfl (.inr trivial) ⟨rfl, rfl⟩
  ·
    refine JC.block ?_
    obtain ⟨y7, hl8, hmo9⟩ := bind_inv hm
    refine JC.loop (F67.b1 x2 x3) (fun x z => match x, z with | d5, _ => [(0, s1.v), (1, .int .i64 x3), (7, .int .i64 ((x2).length : Int)), (8, .int .i64 d5)]) (fun x z => match x, z with | d5, _ => [Asr.vw (Enc.int .i64) (s1.v) x2]) (0 : Int) () y7 hl8 [0] (by exact ⟨rfl, rfl, rfl, rfl, trivial⟩) rfl rfl ?_
    rintro d5 ⟨⟩ s10 hm
    unfold F67.b1 at hm
    dsimp only at hm
    show JC _ _ _ [(0, s1.v), (1, .int .i64 x3), (7, .int .i64 ((x2).length : Int)), (8, .int .i64 d5)] [Asr.vw (Enc.int .i64) (s1.v) x2] _ _
    refine JC.seq ?_
    refine JC.region ?_
    refine JL.val (v := .bool (decide (d5 < ((x2).length : Int)))) (QV.lss rfl rfl) rfl rfl rfl ?_
    refine JL.nil ?_
    refine QJ.then_normal ?_
    refine JC.seq ?_
    rcases ite_inv hm with ⟨h11, hm⟩ | ⟨h11, hm⟩
    ·
      refine JC.condT' rfl (decide_eq_true h11) ?_
      refine JC.skip ?_
      refine QJ.then_normal ?_
      refine JC.seq ?_
      refine JC.block ?_
      refine JC.seq ?_
      refine JC.region ?_
      refine JL.val (v := .int .i64 d5) (QV.move rfl) rfl rfl rfl ?_
      refine JL.val (v := .int .i64 d5) (QV.assign rfl) rfl rfl rfl ?_
      refine JL.nil ?_
      refine QJ.then_normal ?_
      refine JC.seq ?_
      refine JC.region ?_
      refine JL.val (v := .int .i64 x3) (QV.move rfl) rfl rfl rfl ?_
      refine JL.val (v := s1.v) (QV.move rfl) rfl rfl rfl ?_
      refine JL.val (v := .int .i64 d5) (QV.move rfl) rfl rfl rfl ?_
      obtain ⟨h12, hm⟩ := guard_inv hm
      refine JL.val (v := .pointer (some (elA (s1.v) (Int.toNat d5 * ((Enc.int .i64)).sz)))) (QV.indexA (Rdg.vw 0 rfl) Try.underlying25 tk_3 rfl rfl h12) rfl rfl rfl ?_
      refine JL.val (v := .int .i64 (gd x2 d5)) (QV.el1 (Rdg.vw 0 rfl) tk_3 rfl h12 rfl) rfl rfl rfl ?_
      refine JL.val (v := .bool (decide (x3 = (gd x2 d5)))) (QV.eql rfl rfl) rfl rfl rfl ?_
      refine JL.nil ?_
      refine QJ.then_normal ?_
      rcases ite_inv hm with ⟨h13, hm⟩ | ⟨h13, hm⟩
      ·
        refine JC.condT' rfl (decide_eq_true h13) ?_
        refine JC.seq ?_
        refine JC.region ?_
        refine JL.val (v := .int .i64 d5) (QV.move rfl) rfl rfl rfl ?_
        refine JL.val (v := .int .i64 d5) (QV.assign rfl) rfl rfl rfl ?_
        refine JL.nil ?_
        refine QJ.then_normal ?_
        refine JC.ret ?_
        refine QJ.block_ret ?_
        refine QJ.then_ret ?_
        obtain rfl := Option.some.inj hm
        refine QJ.round_ret (fun hy => ?_)
        subst hy
        refine QJ.block_ret ?_
        refine QJ.cut_ret ?_
        refine QJ.then_ret ?_
        obtain rfl := Option.some.inj hmo9
        exact QJ.body (vs := [.int .i64 d5]) (.inl rfl) rfl (ResVs.cons (ResV.tmp rfl) ResVs.nil) [] rfl rfl (.inr trivial) ⟨rfl, rfl⟩
      ·
        refine JC.condF' rfl (decide_eq_false h13) ?_
        refine JC.skip ?_
        refine QJ.block_normal ?_
        refine QJ.then_normal ?_
        refine JC.region ?_
        refine JL.val (v := .int .i64 (IntKind.wrap .i64 (d5 + (1 : Int)))) (QV.add rfl rfl) rfl rfl rfl ?_
        refine JL.val (v := .int .i64 (IntKind.wrap .i64 (d5 + (1 : Int)))) (QV.move rfl) rfl rfl rfl ?_
        refine JL.nil ?_
        obtain rfl := Option.some.inj hm
        exact QJ.round_on (IntKind.wrap .i64 (d5 + (1 : Int))) () [0] (by exact ⟨rfl, rfl, rfl, rfl, trivial⟩) rfl rfl
    ·
      refine JC.condF' rfl (decide_eq_false h11) ?_
      refine JC.exit ?_
      refine QJ.then_exit ?_
      obtain rfl := Option.some.inj hm
      refine QJ.round_exit (fun hy => ?_)
      subst hy
      refine QJ.block_hit ?_
      exact QJ.cut_normal ((), ()) hmo9 [] trivial rfl rfl

/-! ### 46: slices.Contains[[]int,int] -/
noncomputable def F46.m (x2 : List Int) (x3 : Int) : Option Bool :=
  ((F67.m (x2) (x3)).bind fun y5 => some (decide ((0 : Int) ≤ y5)))
set_option maxRecDepth 100000 in
set_option maxHeartbeats 4000000 in
theorem F46.spec (s1 : SlV) (x2 : List Int) (x3 : Int) (r : Bool) (hm : F46.m x2 x3 = some r) :
    Ctr Try.prog false 46 [s1.v, .int .i64 x3] [Asr.vw (Enc.int .i64) (s1.v) x2] (fun v L' => v = .bool r ∧ L' = []) := by
  refine Ctr.intro (n := 9) (env := [(0, s1.v), (1, .int .i64 x3)]) Try.func46 rfl rfl rfl rfl (fun c => ?_)
  unfold F46.m at hm
  refine JC.seq ?_
  refine JC.region ?_
  refine JL.val (v := .bool false) (QV.assign rfl) rfl rfl rfl ?_
  refine JL.nil ?_
  refine QJ.then_normal ?_
  refine JC.seq ?_
  refine JC.region ?_
  refine JL.val (v := s1.v) (QV.move rfl) rfl rfl rfl ?_
  refine JL.val (v := .int .i64 x3) (QV.move rfl) rfl rfl rfl ?_
  obtain ⟨y5, hc6, hm⟩ := bind_inv hm
  refine JL.mv (d := some 7) (MV.call (Lo := []) (Lr := [Asr.vw (Enc.int .i64) (s1.v) x2]) (F67.spec (s1) (x2) (x3) _ hc6) rfl Try.func67 rfl rfl rfl [] [0] rfl rfl rfl ⟨(Drv.vw 0 rfl), trivial⟩) rfl rfl rfl ?_
  rintro _ _ ⟨_, ⟨rfl, rfl⟩, rfl⟩
  refine JL.val (v := .bool (decide ((0 : Int) ≤ y5))) (QV.geq rfl rfl) rfl rfl rfl ?_
  refine JL.val (v := .bool (decide ((0 : Int) ≤ y5))) (QV.assign rfl) rfl rfl rfl ?_
  refine JL.nil ?_
  refine QJ.then_normal ?_
  refine JC.ret ?_
  obtain rfl := Option.some.inj hm
  exact QJ.body (vs := [.bool (decide ((0 : Int) ≤ y5))]) (.inl rfl) rfl (ResVs.cons (ResV.tmp rfl) ResVs.nil) [] rfl rfl (.inr trivial) ⟨rfl, rfl⟩

/-! ### 18: drogher/order.Right -/
noncomputable def F18.j2   : Option Bool :=
  some true
noncomputable def F18.j3 (d18 : Int)  : Option (Int ⊕ ((Bool) ⊕ Unit)) :=
  some (.inl (IntKind.wrap .i64 (d18 + (1 : Int))))
noncomputable def F18.j4 (d18 : Int)  : Option (Int ⊕ ((Bool) ⊕ Unit)) :=
  F18.j3 d18
noncomputable def F18.j5 (d26 : Int)  : Option (Int ⊕ ((Bool) ⊕ Unit)) :=
  some (.inl (IntKind.wrap .i64 (d26 + (1 : Int))))
noncomputable def F18.b2 (x7 : List Int) (y9 : (List (List Int) × Int)) (d17 : List Int) (d18 : Int) : Int → Option (Int ⊕ ((Bool) ⊕ Unit))
  | d26 => (if d26 < (((gd y9.1 d18)).length : Int) then (if 0 ≤ d26 ∧ d26 < (((gd y9.1 d18)).length : Int) then (if 0 ≤ (gd (gd y9.1 d18) d26) ∧ (gd (gd y9.1 d18) d26) < ((d17).length : Int) then (if 0 ≤ d18 ∧ d18 < ((d17).length : Int) then (if (gd d17 d18) < (gd d17 (gd (gd y9.1 d18) d26)) then ((F46.m (x7) ((gd (gd y9.1 d18) d26))).bind fun y37 => (if y37 = true then F18.j5 d26 else some (.inr (.inl (false))))) else F18.j5 d26) else none) else none) else none) else some (.inr (.inr (()))))
noncomputable def F18.b1 (x7 : List Int) (y9 : (List (List Int) × Int)) (d17 : List Int) : Int → Option (Int ⊕ ((Bool) ⊕ Unit))
  | d18 => (if d18 < ((y9.1).length : Int) then (if 0 ≤ d18 ∧ d18 < ((y9.1).length : Int) then ((loop (F18.b2 x7 y9 d17 d18) (0 : Int)).bind fun y => match y with | .inl r => some (.inr (.inl (r))) | .inr _ => F18.j4 d18) else none) else some (.inr (.inr (()))))
noncomputable def F18.j1 (x7 : List Int) (y9 : (List (List Int) × Int)) (d17 : List Int) : Option Bool :=
  ((loop (F18.b1 x7 y9 d17) (0 : Int)).bind fun y => match y with | .inl r => some r | .inr _ => F18.j2)
noncomputable def F18.b3 (x2 : List (List Int)) (x5 : List Int) : (List Int × Int) → Option ((List Int × Int) ⊕ ((Bool) ⊕ (List Int)))
  | (d40, d41) => (if d41 < ((x5).length : Int) then (if 0 ≤ d41 ∧ d41 < ((x5).length : Int) then (if (gd x5 d41) < (0 : Int) then some (.inr (.inl (false))) else (if ((x2).length : Int) ≤ (gd x5 d41) then some (.inr (.inl (false))) else (if 0 ≤ (gd x5 d41) ∧ (gd x5 d41) < ((d40).length : Int) then (if (0 : Int) < (gd d40 (gd x5 d41)) then some (.inr (.inl (false))) else some (.inl ((List.set d40 (Int.toNat (gd x5 d41)) (IntKind.wrap .i64 (d41 + (1 : Int)))), (IntKind.wrap .i64 (d41 + (1 : Int)))))) else none))) else none) else some (.inr (.inr (d40))))
noncomputable def F18.m (x2 : List (List Int)) (x5 : List Int) (x7 : List Int) : Option Bool :=
  ((F39.m (x2)).bind fun y9 => (if y9.2 = (0 : Int) then (if ((x5).length : Int) = ((x2).length : Int) then (if 0 ≤ ((x2).length : Int) ∧ ((x2).length : Int) * 8 ≤ 281474976710656 ∧ ((x2).length : Int) ≤ 9223372036854775807 then ((loop (F18.b3 x2 x5) ((List.replicate (Int.toNat ((x2).length : Int)) (0 : Int)), (0 : Int))).bind fun y => match y with | .inl r => some r | .inr d17 => F18.j1 x7 y9 (d17)) else none) else some false) else some false))
set_option maxRecDepth 100000 in
set_option maxHeartbeats 4000000 in
theorem F18.spec (s1 : SlV) (z3 : List SlV) (s4 : SlV) (s6 : SlV) (x2 : List (List Int)) (x5 : List Int) (x7 : List Int) (r : Bool) (hm : F18.m x2 x5 x7 = some r) :
    Ctr Try.prog false 18 [s1.v, s4.v, s6.v] [Asr.vn (NE.sl (Enc.int .i64)) (s1.v) z3 x2, Asr.vw (Enc.int .i64) (s4.v) x5, Asr.vw (Enc.int .i64) (s6.v) x7] (fun v L' => v = .bool r ∧ L' = []) := by
  refine Ctr.intro (n := 91) (env := [(0, s1.v), (1, s4.v), (2, s6.v)]) Try.func18 rfl rfl rfl rfl (fun c => ?_)
  unfold F18.m at hm
  refine JC.seq ?_
  refine JC.region ?_
  refine JL.val (v := .bool false) (QV.assign rfl) rfl rfl rfl ?_
  refine JL.nil ?_
  refine QJ.then_normal ?_
  refine JC.seq ?_
  refine JC.region ?_
  refine JL.val (v := s1.v) (QV.move rfl) rfl rfl rfl ?_
  obtain ⟨y9, hc10, hm⟩ := bind_inv hm
  refine JL.mv (d := some 18) (MV.call (Lo := []) (Lr := [Asr.vn (NE.sl (Enc.int .i64)) (s1.v) z3 x2, Asr.vw (Enc.int .i64) (s4.v) x5, Asr.vw (Enc.int .i64) (s6.v) x7]) (F39.spec (s1) (z3) (x2) _ hc10) rfl Try.func39 rfl rfl rfl [] [0, 1, 2] rfl rfl rfl ⟨(Drv.vn 0 rfl), trivial⟩) rfl rfl rfl ?_
  rintro _ _ ⟨_, ⟨z11, z12, rfl, rfl⟩, rfl⟩
  refine JL.val (v := .tuple #[z11.v, .int .i64 y9.2]) (QV.move rfl) rfl rfl rfl ?_
  refine JL.val (v := z11.v) (QV.extract (vs := [z11.v, .int .i64 y9.2]) rfl rfl) rfl rfl rfl ?_
  refine JL.val (v := .int .i64 y9.2) (QV.extract (vs := [z11.v, .int .i64 y9.2]) rfl rfl) rfl rfl rfl ?_
  refine JL.val (v := z11.v) (QV.assign rfl) rfl rfl rfl ?_
  refine JL.val (v := .int .i64 y9.2) (QV.assign rfl) rfl rfl rfl ?_
  refine JL.nil ?_
  refine QJ.then_normal ?_
  refine JC.seq ?_
  refine JC.seq ?_
  refine JC.region ?_
  refine JL.val (v := .int .i64 y9.2) (QV.move rfl) rfl rfl rfl ?_
  refine JL.val (v := .bool (!(decide (y9.2 = (0 : Int))))) (QV.neq rfl rfl) rfl rfl rfl ?_
  rcases ite_inv hm with ⟨h13, hm⟩ | ⟨h13, hm⟩
  ·
    refine JL.val (v := .bool false) (QV.eq (QV.move rfl) (congrArg Value.bool (congrArg Bool.not (decide_eq_true h13)))) rfl rfl rfl ?_
    refine JL.val (v := s4.v) (QV.move rfl) rfl rfl rfl ?_
    refine JL.val (v := .int .i64 ((x5).length : Int)) (QV.len (Rdg.vw 2 rfl) Try.underlying25 rfl) rfl rfl rfl ?_
    refine JL.val (v := s1.v) (QV.move rfl) rfl rfl rfl ?_
    refine JL.val (v := .int .i64 ((x2).length : Int)) (QV.lenN (RdN.vn 1 rfl) Try.underlying22 rfl) rfl rfl rfl ?_
    refine JL.val (v := .bool (!(decide (((x5).length : Int) = ((x2).length : Int))))) (QV.neq rfl rfl) rfl rfl rfl ?_
    refine JL.val (v := .bool (!(decide (((x5).length : Int) = ((x2).length : Int))))) (QV.pickF rfl rfl) rfl rfl rfl ?_
    refine JL.nil ?_
    refine QJ.then_normal ?_
    rcases ite_inv hm with ⟨h14, hm⟩ | ⟨h14, hm⟩
    ·
      refine JC.condF' rfl (congrArg Bool.not (decide_eq_true h14)) ?_
      refine JC.skip ?_
      refine QJ.then_normal ?_
      refine JC.seq ?_
      refine JC.region ?_
      refine JL.val (v := s1.v) (QV.move rfl) rfl rfl rfl ?_
      refine JL.val (v := .int .i64 ((x2).length : Int)) (QV.lenN (RdN.vn 1 rfl) Try.underlying22 rfl) rfl rfl rfl ?_
      obtain ⟨h15, hm⟩ := guard_inv hm
      refine JL.mv (d := some 32) (MV.make (E := (Enc.int .i64)) (0 : Int) Try.underlying25 zi_3 (by decide) rfl rfl rfl h15) rfl rfl rfl ?_
      rintro _ _ ⟨z16, rfl, rfl⟩
      refine JL.val (v := z16.v) (QV.assign rfl) rfl rfl rfl ?_
      refine JL.nil ?_
      refine QJ.then_normal ?_
      refine JC.seq ?_
      refine JC.seq ?_
      refine JC.region ?_
      refine JL.val (v := s4.v) (QV.move rfl) rfl rfl rfl ?_
      refine JL.val (v := .int .i64 ((x5).length : Int)) (QV.len (Rdg.vw 3 rfl) Try.underlying25 rfl) rfl rfl rfl ?_
      refine JL.val (v := .int .i64 (0 : Int)) (QV.move rfl) rfl rfl rfl ?_
      refine JL.nil ?_
      refine QJ.then_normal ?_
      refine JC.cutK (Y := (List Int) × Unit) (fun y => match y with | (d17, _) => F18.j1 x7 y9 (d17) = some r) (fun y => match y with | (d17, _) => [(2, s6.v), (7, z11.v), (9, z16.v)]) (fun y => match y with | (d17, _) => [Asr.vw (Enc.int .i64) (s6.v) x7, Asr.vn (NE.sl (Enc.int .i64)) (z11.v) z12 y9.1, Asr.of 3 (Enc.int .i64) (z16.v) d17]) ?_ ?_
      ·
        rintro ⟨d17, ⟨⟩⟩ hm
        unfold F18.j1 at hm
        show QJ _ _ [(2, s6.v), (7, z11.v), (9, z16.v)] [Asr.vw (Enc.int .i64) (s6.v) x7, Asr.vn (NE.sl (Enc.int .i64)) (z11.v) z12 y9.1, Asr.of 3 (Enc.int .i64) (z16.v) d17] _ _
        refine QJ.then_normal ?_
        refine JC.seq ?_
        refine JC.seq ?_
        refine JC.region ?_
        refine JL.val (v := z11.v) (QV.move rfl) rfl rfl rfl ?_
        refine JL.val (v := .int .i64 ((y9.1).length : Int)) (QV.lenN (RdN.vn 1 rfl) Try.underlying22 rfl) rfl rfl rfl ?_
        refine JL.val (v := .int .i64 (0 : Int)) (QV.move rfl) rfl rfl rfl ?_
        refine JL.nil ?_
        refine QJ.then_normal ?_
        refine JC.cutK (Y := Unit × Unit) (fun y => match y with | (_, _) => F18.j2 = some r) (fun y => match y with | (_, _) => []) (fun y => match y with | (_, _) => []) ?_ ?_
        ·
          rintro ⟨⟨⟩, ⟨⟩⟩ hm
          unfold F18.j2 at hm
          show QJ _ _ [] [] _ _
          refine QJ.then_normal ?_
          refine JC.seq ?_
          refine JC.region ?_
          refine JL.val (v := .bool true) (QV.assign rfl) rfl rfl rfl ?_
          refine JL.nil ?_
          refine QJ.then_normal ?_
          refine JC.ret ?_
          obtain rfl := Option.some.inj hm
          exact QJ.body (vs := [.bool true]) (.inl rfl) rfl (ResVs.cons (ResV.tmp rfl) ResVs.nil) [] rfl rfl (.inr trivial) ⟨rfl, rfl⟩
        ·
          refine JC.block ?_
          obtain ⟨y20, hl21, hmo22⟩ := bind_inv hm
          refine JC.loop (F18.b1 x7 y9 d17) (fun x z => match x, z with | d18, _ => [(2, s6.v), (9, z16.v), (61, z11.v), (62, .int .i64 ((y9.1).length : Int)), (63, .int .i64 d18)]) (fun x z => match x, z with | d18, _ => [Asr.vw (Enc.int .i64) (s6.v) x7, Asr.of 3 (Enc.int .i64) (z16.v) d17, Asr.vn (NE.sl (Enc.int .i64)) (z11.v) z12 y9.1]) (0 : Int) () y20 hl21 [0, 2, 1] (by exact ⟨rfl, rfl, rfl, rfl, rfl, trivial⟩) rfl rfl ?_
          rintro d18 ⟨⟩ s23 hm
          unfold F18.b1 at hm
          dsimp only at hm
          show JC _ _ _ [(2, s6.v), (9, z16.v), (61, z11.v), (62, .int .i64 ((y9.1).length : Int)), (63, .int .i64 d18)] [Asr.vw (Enc.int .i64) (s6.v) x7, Asr.of 3 (Enc.int .i64) (z16.v) d17, Asr.vn (NE.sl (Enc.int .i64)) (z11.v) z12 y9.1] _ _
          refine JC.seq ?_
          refine JC.region ?_
          refine JL.val (v := .bool (decide (d18 < ((y9.1).length : Int)))) (QV.lss rfl rfl) rfl rfl rfl ?_
          refine JL.nil ?_
          refine QJ.then_normal ?_
          refine JC.seq ?_
          rcases ite_inv hm with ⟨h24, hm⟩ | ⟨h24, hm⟩
          ·
            refine JC.condT' rfl (decide_eq_true h24) ?_
            refine JC.skip ?_
            refine QJ.then_normal ?_
            refine JC.seq ?_
            refine JC.cutK (Y := Unit × Unit) (fun y => match y with | (_, _) => F18.j3 d18 = some s23) (fun y => match y with | (_, _) => [(2, s6.v), (9, z16.v), (61, z11.v), (62, .int .i64 ((y9.1).length : Int)), (63, .int .i64 d18)]) (fun y => match y with | (_, _) => [Asr.vw (Enc.int .i64) (s6.v) x7, Asr.of 3 (Enc.int .i64) (z16.v) d17, Asr.vn (NE.sl (Enc.int .i64)) (z11.v) z12 y9.1]) ?_ ?_
            ·
              rintro ⟨⟨⟩, ⟨⟩⟩ hm
              unfold F18.j3 at hm
              show QJ _ _ [(2, s6.v), (9, z16.v), (61, z11.v), (62, .int .i64 ((y9.1).length : Int)), (63, .int .i64 d18)] [Asr.vw (Enc.int .i64) (s6.v) x7, Asr.of 3 (Enc.int .i64) (z16.v) d17, Asr.vn (NE.sl (Enc.int .i64)) (z11.v) z12 y9.1] _ _
              refine QJ.then_normal ?_
              refine JC.region ?_
              refine JL.val (v := .int .i64 (IntKind.wrap .i64 (d18 + (1 : Int)))) (QV.add rfl rfl) rfl rfl rfl ?_
              refine JL.val (v := .int .i64 (IntKind.wrap .i64 (d18 + (1 : Int)))) (QV.move rfl) rfl rfl rfl ?_
              refine JL.nil ?_
              obtain rfl := Option.some.inj hm
              exact QJ.round_on (IntKind.wrap .i64 (d18 + (1 : Int))) () [0, 1, 2] (by exact ⟨rfl, rfl, rfl, rfl, rfl, trivial⟩) rfl rfl
            ·
              refine JC.block ?_
              refine JC.seq ?_
              refine JC.region ?_
              refine JL.val (v := .int .i64 d18) (QV.move rfl) rfl rfl rfl ?_
              obtain ⟨h25, hm⟩ := guard_inv hm
              refine JL.val (v := .pointer (some (elA (z11.v) (Int.toNat d18 * ((NE.sl (Enc.int .i64)).E).sz)))) (QV.indexN (RdN.vn 2 rfl) Try.underlying22 tk_25 rfl rfl h25) rfl rfl rfl ?_
              refine JL.val (v := (gd z12 d18).v) (QV.el1N (RdN.vn 2 rfl) tk_25 rfl h25 rfl) rfl rfl rfl ?_
              refine JL.val (v := .int .i64 d18) (QV.assign rfl) rfl rfl rfl ?_
              refine JL.val (v := (gd z12 d18).v) (QV.assign rfl) rfl rfl rfl ?_
              refine JL.nil ?_
              refine QJ.ent (fun _ hs => hs.derive (Drv.el (K := (NE.sl (Enc.int .i64))) (A := Asr.vw (Enc.int .i64) ((gd z12 d18).v) (gd y9.1 d18)) (Drv.vn 2 rfl) h25 (fun _ _ q => q))) ?_
              refine QJ.then_normal ?_
              refine JC.seq ?_
              refine JC.region ?_
              refine JL.val (v := (gd z12 d18).v) (QV.move rfl) rfl rfl rfl ?_
              refine JL.val (v := .int .i64 (((gd y9.1 d18)).length : Int)) (QV.len (Rdg.vw 0 rfl) Try.underlying25 rfl) rfl rfl rfl ?_
              refine JL.val (v := .int .i64 (0 : Int)) (QV.move rfl) rfl rfl rfl ?_
              refine JL.nil ?_
              refine QJ.then_normal ?_
              refine JC.cutK (Y := Unit × Unit) (fun y => match y with | (_, _) => F18.j4 d18 = some s23) (fun y => match y with | (_, _) => [(2, s6.v), (9, z16.v), (61, z11.v), (62, .int .i64 ((y9.1).length : Int)), (63, .int .i64 d18)]) (fun y => match y with | (_, _) => [Asr.vw (Enc.int .i64) (s6.v) x7, Asr.of 3 (Enc.int .i64) (z16.v) d17, Asr.vn (NE.sl (Enc.int .i64)) (z11.v) z12 y9.1]) ?_ ?_
              ·
                rintro ⟨⟨⟩, ⟨⟩⟩ hm
                unfold F18.j4 at hm
                show QJ _ _ [(2, s6.v), (9, z16.v), (61, z11.v), (62, .int .i64 ((y9.1).length : Int)), (63, .int .i64 d18)] [Asr.vw (Enc.int .i64) (s6.v) x7, Asr.of 3 (Enc.int .i64) (z16.v) d17, Asr.vn (NE.sl (Enc.int .i64)) (z11.v) z12 y9.1] _ _
                refine QJ.block_normal ?_
                exact QJ.cut_normal ((), ()) hm [0, 1, 2] (by exact ⟨rfl, rfl, rfl, rfl, rfl, trivial⟩) rfl rfl
              ·
                refine JC.block ?_
                obtain ⟨y28, hl29, hmo30⟩ := bind_inv hm
                refine JC.loop (F18.b2 x7 y9 d17 d18) (fun x z => match x, z with | d26, _ => [(2, s6.v), (9, z16.v), (12, .int .i64 d18), (61, z11.v), (62, .int .i64 ((y9.1).length : Int)), (63, .int .i64 d18), (68, (gd z12 d18).v), (69, .int .i64 (((gd y9.1 d18)).length : Int)), (70, .int .i64 d26)]) (fun x z => match x, z with | d26, _ => [Asr.vw (Enc.int .i64) (s6.v) x7, Asr.of 3 (Enc.int .i64) (z16.v) d17, Asr.vn (NE.sl (Enc.int .i64)) (z11.v) z12 y9.1, Asr.vw (Enc.int .i64) ((gd z12 d18).v) (gd y9.1 d18)]) (0 : Int) () y28 hl29 [1, 2, 3, 0] (by exact ⟨rfl, rfl, rfl, rfl, rfl, rfl, rfl, rfl, rfl, trivial⟩) rfl rfl ?_
                rintro d26 ⟨⟩ s31 hm
                unfold F18.b2 at hm
                dsimp only at hm
                show JC _ _ _ [(2, s6.v), (9, z16.v), (12, .int .i64 d18), (61, z11.v), (62, .int .i64 ((y9.1).length : Int)), (63, .int .i64 d18), (68, (gd z12 d18).v), (69, .int .i64 (((gd y9.1 d18)).length : Int)), (70, .int .i64 d26)] [Asr.vw (Enc.int .i64) (s6.v) x7, Asr.of 3 (Enc.int .i64) (z16.v) d17, Asr.vn (NE.sl (Enc.int .i64)) (z11.v) z12 y9.1, Asr.vw (Enc.int .i64) ((gd z12 d18).v) (gd y9.1 d18)] _ _
                refine JC.seq ?_
                refine JC.region ?_
                refine JL.val (v := .bool (decide (d26 < (((gd y9.1 d18)).length : Int)))) (QV.lss rfl rfl) rfl rfl rfl ?_
                refine JL.nil ?_
                refine QJ.then_normal ?_
                refine JC.seq ?_
                rcases ite_inv hm with ⟨h32, hm⟩ | ⟨h32, hm⟩
                ·
                  refine JC.condT' rfl (decide_eq_true h32) ?_
                  refine JC.skip ?_
                  refine QJ.then_normal ?_
                  refine JC.seq ?_
                  refine JC.cutK (Y := Unit × Unit) (fun y => match y with | (_, _) => F18.j5 d26 = some s31) (fun y => match y with | (_, _) => [(2, s6.v), (9, z16.v), (12, .int .i64 d18), (61, z11.v), (62, .int .i64 ((y9.1).length : Int)), (63, .int .i64 d18), (68, (gd z12 d18).v), (69, .int .i64 (((gd y9.1 d18)).length : Int)), (70, .int .i64 d26)]) (fun y => match y with | (_, _) => [Asr.vw (Enc.int .i64) (s6.v) x7, Asr.of 3 (Enc.int .i64) (z16.v) d17, Asr.vn (NE.sl (Enc.int .i64)) (z11.v) z12 y9.1, Asr.vw (Enc.int .i64) ((gd z12 d18).v) (gd y9.1 d18)]) ?_ ?_
                  ·
                    rintro ⟨⟨⟩, ⟨⟩⟩ hm
                    unfold F18.j5 at hm
                    show QJ _ _ [(2, s6.v), (9, z16.v), (12, .int .i64 d18), (61, z11.v), (62, .int .i64 ((y9.1).length : Int)), (63, .int .i64 d18), (68, (gd z12 d18).v), (69, .int .i64 (((gd y9.1 d18)).length : Int)), (70, .int .i64 d26)] [Asr.vw (Enc.int .i64) (s6.v) x7, Asr.of 3 (Enc.int .i64) (z16.v) d17, Asr.vn (NE.sl (Enc.int .i64)) (z11.v) z12 y9.1, Asr.vw (Enc.int .i64) ((gd z12 d18).v) (gd y9.1 d18)] _ _
                    refine QJ.then_normal ?_
                    refine JC.region ?_
                    refine JL.val (v := .int .i64 (IntKind.wrap .i64 (d26 + (1 : Int)))) (QV.add rfl rfl) rfl rfl rfl ?_
                    refine JL.val (v := .int .i64 (IntKind.wrap .i64 (d26 + (1 : Int)))) (QV.move rfl) rfl rfl rfl ?_
                    refine JL.nil ?_
                    obtain rfl := Option.some.inj hm
                    exact QJ.round_on (IntKind.wrap .i64 (d26 + (1 : Int))) () [0, 1, 2, 3] (by exact ⟨rfl, rfl, rfl, rfl, rfl, rfl, rfl, rfl, rfl, trivial⟩) rfl rfl
                  ·
                    refine JC.block ?_
                    refine JC.seq ?_
                    refine JC.region ?_
                    obtain ⟨h33, hm⟩ := guard_inv hm
                    refine JL.val (v := .pointer (some (elA ((gd z12 d18).v) (Int.toNat d26 * ((Enc.int .i64)).sz)))) (QV.indexA (Rdg.vw 3 rfl) Try.underlying25 tk_3 rfl rfl h33) rfl rfl rfl ?_
                    refine JL.val (v := .int .i64 (gd (gd y9.1 d18) d26)) (QV.el1 (Rdg.vw 3 rfl) tk_3 rfl h33 rfl) rfl rfl rfl ?_
                    refine JL.val (v := .int .i64 (gd (gd y9.1 d18) d26)) (QV.assign rfl) rfl rfl rfl ?_
                    refine JL.nil ?_
                    refine QJ.then_normal ?_
                    refine JC.seq ?_
                    refine JC.regionT [Asr.vw (Enc.int .i64) (s6.v) x7, Asr.of 3 (Enc.int .i64) (z16.v) d17, Asr.vn (NE.sl (Enc.int .i64)) (z11.v) z12 y9.1, Asr.vw (Enc.int .i64) ((gd z12 d18).v) (gd y9.1 d18)] (fun t => false) [(0, true), (1, true), (2, true), (3, true), (4, true), (5, false), (6, false), (7, false), (8, false), (9, false), (10, true), (11, false), (12, false), (13, false), (14, false)] (by kernel_rfl) (by kernel_rfl) (by kernel_rfl) rfl (fun hsel => ?_)
                    refine JT.take (i := 0) (v := z16.v) hsel rfl (QV.move rfl) rfl rfl rfl rfl [0, 1, 2, 3] rfl rfl ?_
                    refine JT.take (i := 1) (v := .int .i64 (gd (gd y9.1 d18) d26)) hsel rfl (QV.move rfl) rfl rfl rfl rfl [0, 1, 2, 3] rfl rfl ?_
                    obtain ⟨h34, hm⟩ := guard_inv hm
                    refine JT.take (i := 2) (v := .pointer (some (elA (z16.v) (Int.toNat (gd (gd y9.1 d18) d26) * ((Enc.int .i64)).sz)))) hsel rfl (QV.indexA (Rdg.of 1 rfl) Try.underlying25 tk_3 rfl rfl h34) rfl rfl rfl rfl [0, 1, 2, 3] rfl rfl ?_
                    refine JT.take (i := 3) (v := .int .i64 (gd d17 (gd (gd y9.1 d18) d26))) hsel rfl (QV.el1 (Rdg.of 1 rfl) tk_3 rfl h34 rfl) rfl rfl rfl rfl [0, 1, 2, 3] rfl rfl ?_
                    refine JT.take (i := 4) (v := z16.v) hsel rfl (QV.move rfl) rfl rfl rfl rfl [0, 1, 2, 3] rfl rfl ?_
                    refine JT.only (i := 5) (d := some 79) rfl (MV.ofQV (v := .int .i64 d18) (QV.move rfl)) rfl rfl rfl ?_
                    rintro _ _ ⟨rfl, rfl⟩
                    refine ⟨fun _ => ⟨[0, 1, 2, 3], rfl, rfl⟩, ?_⟩
                    obtain ⟨h35, hm⟩ := guard_inv hm
                    refine JT.only (i := 6) (d := some 80) rfl (MV.ofQV (v := .pointer (some (elA (z16.v) (Int.toNat d18 * ((Enc.int .i64)).sz)))) (QV.indexA (Rdg.of 1 rfl) Try.underlying25 tk_3 rfl rfl h35)) rfl rfl rfl ?_
                    rintro _ _ ⟨rfl, rfl⟩
                    refine ⟨fun _ => ⟨[0, 1, 2, 3], rfl, rfl⟩, ?_⟩
                    refine JT.only (i := 7) (d := some 81) rfl (MV.ofQV (v := .int .i64 (gd d17 d18)) (QV.el1 (Rdg.of 1 rfl) tk_3 rfl h35 rfl)) rfl rfl rfl ?_
                    rintro _ _ ⟨rfl, rfl⟩
                    refine ⟨fun _ => ⟨[0, 1, 2, 3], rfl, rfl⟩, ?_⟩
                    refine JT.only (i := 8) (d := some 82) rfl (MV.ofQV (v := .bool (decide ((gd d17 d18) < (gd d17 (gd (gd y9.1 d18) d26))))) (QV.gtr rfl rfl)) rfl rfl rfl ?_
                    rintro _ _ ⟨rfl, rfl⟩
                    refine ⟨fun _ => ⟨[0, 1, 2, 3], rfl, rfl⟩, ?_⟩
                    rcases ite_inv hm with ⟨h36, hm⟩ | ⟨h36, hm⟩
                    ·
                      refine JT.only (i := 9) (d := some 83) rfl (MV.ofQV (v := .bool true) (QV.eq (QV.move rfl) (congrArg Value.bool (decide_eq_true h36)))) rfl rfl rfl ?_
                      rintro _ _ ⟨rfl, rfl⟩
                      refine ⟨fun _ => ⟨[0, 1, 2, 3], rfl, rfl⟩, ?_⟩
                      refine JT.take (i := 10) (v := s6.v) hsel rfl (QV.move rfl) rfl rfl rfl rfl [0, 1, 2, 3] rfl rfl ?_
                      refine JT.only (i := 11) (d := some 85) rfl (MV.ofQV (v := .int .i64 (gd (gd y9.1 d18) d26)) (QV.move rfl)) rfl rfl rfl ?_
                      rintro _ _ ⟨rfl, rfl⟩
                      refine ⟨fun _ => ⟨[0, 1, 2, 3], rfl, rfl⟩, ?_⟩
                      obtain ⟨y37, hc38, hm⟩ := bind_inv hm
                      refine JT.only (i := 12) (d := some 86) rfl (MV.call (Lo := []) (Lr := [Asr.vw (Enc.int .i64) (s6.v) x7, Asr.of 3 (Enc.int .i64) (z16.v) d17, Asr.vn (NE.sl (Enc.int .i64)) (z11.v) z12 y9.1, Asr.vw (Enc.int .i64) ((gd z12 d18).v) (gd y9.1 d18)]) (F46.spec (s6) (x7) ((gd (gd y9.1 d18) d26)) _ hc38) rfl Try.func46 rfl rfl rfl [] [0, 1, 2, 3] rfl rfl rfl ⟨(Drv.vw 0 rfl), trivial⟩) rfl rfl rfl ?_
                      rintro _ _ ⟨_, ⟨rfl, rfl⟩, rfl⟩
                      refine ⟨fun _ => ⟨[0, 1, 2, 3], rfl, rfl⟩, ?_⟩
                      refine JT.only (i := 13) (d := some 87) rfl (MV.ofQV (v := .bool (!y37)) (QV.not rfl)) rfl rfl rfl ?_
                      rintro _ _ ⟨rfl, rfl⟩
                      refine ⟨fun _ => ⟨[0, 1, 2, 3], rfl, rfl⟩, ?_⟩
                      refine JT.only (i := 14) (d := some 88) rfl (MV.ofQV (v := .bool (!y37)) (QV.pickT rfl rfl)) rfl rfl rfl ?_
                      rintro _ _ ⟨rfl, rfl⟩
                      refine ⟨fun _ => ⟨[0, 1, 2, 3], rfl, rfl⟩, ?_⟩
                      refine JT.nil ?_
                      refine QJ.then_normal ?_
                      rcases ite_inv hm with ⟨h39, hm⟩ | ⟨h39, hm⟩
                      ·
                        refine JC.condF' rfl (congrArg Bool.not h39) ?_
                        refine JC.skip ?_
                        refine QJ.block_normal ?_
                        exact QJ.cut_normal ((), ()) hm [0, 1, 2, 3] (by exact ⟨rfl, rfl, rfl, rfl, rfl, rfl, rfl, rfl, rfl, trivial⟩) rfl rfl
                      ·
                        refine JC.condT' rfl (congrArg Bool.not (bfalse h39)) ?_
                        refine JC.seq ?_
                        refine JC.region ?_
                        refine JL.val (v := .bool false) (QV.assign rfl) rfl rfl rfl ?_
                        refine JL.nil ?_
                        refine QJ.then_normal ?_
                        refine JC.ret ?_
                        refine QJ.block_ret ?_
                        refine QJ.cut_ret ?_
                        refine QJ.then_ret ?_
                        obtain rfl := Option.some.inj hm
                        refine QJ.round_ret (fun hy => ?_)
                        subst hy
                        refine QJ.block_ret ?_
                        refine QJ.cut_ret ?_
                        refine QJ.block_ret ?_
                        refine QJ.cut_ret ?_
                        refine QJ.then_ret ?_
                        obtain rfl := Option.some.inj hmo30
                        refine QJ.round_ret (fun hy => ?_)
                        subst hy
                        refine QJ.block_ret ?_
                        refine QJ.cut_ret ?_
                        refine QJ.then_ret ?_
                        obtain rfl := Option.some.inj hmo22
                        exact QJ.body (vs := [.bool false]) (.inl rfl) rfl (ResVs.cons (ResV.tmp rfl) ResVs.nil) [] rfl rfl (.inr trivial) ⟨rfl, rfl⟩
                    ·
                      refine JT.only (i := 9) (d := some 83) rfl (MV.ofQV (v := .bool false) (QV.eq (QV.move rfl) (congrArg Value.bool (decide_eq_false h36)))) rfl rfl rfl ?_
                      rintro _ _ ⟨rfl, rfl⟩
                      refine ⟨fun _ => ⟨[0, 1, 2, 3], rfl, rfl⟩, ?_⟩
                      refine JT.skip (i := 10) (d := some 84) hsel rfl rfl rfl rfl rfl [0, 1, 2, 3] rfl rfl ?_
                      refine JT.skipO (i := 11) (d := some 85) rfl rfl rfl rfl [0, 1, 2, 3] rfl rfl ?_
                      refine JT.skipO (i := 12) (d := some 86) rfl rfl rfl rfl [0, 1, 2, 3] rfl rfl ?_
                      refine JT.skipO (i := 13) (d := some 87) rfl rfl rfl rfl [0, 1, 2, 3] rfl rfl ?_
                      refine JT.only (i := 14) (d := some 88) rfl (MV.ofQV (v := .bool false) (QV.pickF rfl rfl)) rfl rfl rfl ?_
                      rintro _ _ ⟨rfl, rfl⟩
                      refine ⟨fun _ => ⟨[0, 1, 2, 3], rfl, rfl⟩, ?_⟩
                      refine JT.nil ?_
                      refine QJ.then_normal ?_
                      refine JC.condF rfl ?_
                      refine JC.skip ?_
                      refine QJ.block_normal ?_
                      exact QJ.cut_normal ((), ()) hm [0, 1, 2, 3] (by exact ⟨rfl, rfl, rfl, rfl, rfl, rfl, rfl, rfl, rfl, trivial⟩) rfl rfl
                ·
                  refine JC.condF' rfl (decide_eq_false h32) ?_
                  refine JC.exit ?_
                  refine QJ.then_exit ?_
                  obtain rfl := Option.some.inj hm
                  refine QJ.round_exit (fun hy => ?_)
                  subst hy
                  refine QJ.block_hit ?_
                  exact QJ.cut_normal ((), ()) hmo30 [0, 1, 2] (by exact ⟨rfl, rfl, rfl, rfl, rfl, trivial⟩) rfl rfl
          ·
            refine JC.condF' rfl (decide_eq_false h24) ?_
            refine JC.exit ?_
            refine QJ.then_exit ?_
            obtain rfl := Option.some.inj hm
            refine QJ.round_exit (fun hy => ?_)
            subst hy
            refine QJ.block_hit ?_
            exact QJ.cut_normal ((), ()) hmo22 [] trivial rfl rfl
      ·
        refine JC.block ?_
        obtain ⟨y44, hl45, hmo46⟩ := bind_inv hm
        refine JC.loop (F18.b3 x2 x5) (fun x z => match x, z with | (d40, d41), _ => [(0, s1.v), (2, s6.v), (7, z11.v), (9, z16.v), (33, s4.v), (34, .int .i64 ((x5).length : Int)), (35, .int .i64 d41)]) (fun x z => match x, z with | (d40, d41), _ => [Asr.vn (NE.sl (Enc.int .i64)) (s1.v) z3 x2, Asr.vw (Enc.int .i64) (s6.v) x7, Asr.vn (NE.sl (Enc.int .i64)) (z11.v) z12 y9.1, Asr.of 3 (Enc.int .i64) (z16.v) d40, Asr.vw (Enc.int .i64) (s4.v) x5]) ((List.replicate (Int.toNat ((x2).length : Int)) (0 : Int)), (0 : Int)) () y44 hl45 [2, 4, 1, 0, 3] (by exact ⟨rfl, rfl, rfl, rfl, rfl, rfl, rfl, trivial⟩) rfl rfl ?_
        rintro ⟨d40, d41⟩ ⟨⟩ s47 hm
        unfold F18.b3 at hm
        dsimp only at hm
        show JC _ _ _ [(0, s1.v), (2, s6.v), (7, z11.v), (9, z16.v), (33, s4.v), (34, .int .i64 ((x5).length : Int)), (35, .int .i64 d41)] [Asr.vn (NE.sl (Enc.int .i64)) (s1.v) z3 x2, Asr.vw (Enc.int .i64) (s6.v) x7, Asr.vn (NE.sl (Enc.int .i64)) (z11.v) z12 y9.1, Asr.of 3 (Enc.int .i64) (z16.v) d40, Asr.vw (Enc.int .i64) (s4.v) x5] _ _
        refine JC.seq ?_
        refine JC.region ?_
        refine JL.val (v := .bool (decide (d41 < ((x5).length : Int)))) (QV.lss rfl rfl) rfl rfl rfl ?_
        refine JL.nil ?_
        refine QJ.then_normal ?_
        refine JC.seq ?_
        rcases ite_inv hm with ⟨h48, hm⟩ | ⟨h48, hm⟩
        ·
          refine JC.condT' rfl (decide_eq_true h48) ?_
          refine JC.skip ?_
          refine QJ.then_normal ?_
          refine JC.seq ?_
          refine JC.block ?_
          refine JC.seq ?_
          refine JC.region ?_
          refine JL.val (v := .int .i64 d41) (QV.move rfl) rfl rfl rfl ?_
          obtain ⟨h49, hm⟩ := guard_inv hm
          refine JL.val (v := .pointer (some (elA (s4.v) (Int.toNat d41 * ((Enc.int .i64)).sz)))) (QV.indexA (Rdg.vw 4 rfl) Try.underlying25 tk_3 rfl rfl h49) rfl rfl rfl ?_
          refine JL.val (v := .int .i64 (gd x5 d41)) (QV.el1 (Rdg.vw 4 rfl) tk_3 rfl h49 rfl) rfl rfl rfl ?_
          refine JL.val (v := .int .i64 d41) (QV.assign rfl) rfl rfl rfl ?_
          refine JL.val (v := .int .i64 (gd x5 d41)) (QV.assign rfl) rfl rfl rfl ?_
          refine JL.nil ?_
          refine QJ.then_normal ?_
          refine JC.seq ?_
          refine JC.seq ?_
          refine JC.region ?_
          refine JL.val (v := .int .i64 (gd x5 d41)) (QV.move rfl) rfl rfl rfl ?_
          refine JL.val (v := .bool (decide ((gd x5 d41) < (0 : Int)))) (QV.lss rfl rfl) rfl rfl rfl ?_
          rcases ite_inv hm with ⟨h50, hm⟩ | ⟨h50, hm⟩
          ·
            refine JL.val (v := .bool true) (QV.eq (QV.move rfl) (congrArg Value.bool (decide_eq_true h50))) rfl rfl rfl ?_
            refine JL.skip (d := some 43) rfl rfl rfl ?_
            refine JL.skip (d := some 44) rfl rfl rfl ?_
            refine JL.skip (d := some 45) rfl rfl rfl ?_
            refine JL.skip (d := some 46) rfl rfl rfl ?_
            refine JL.val (v := .bool true) (QV.pickT rfl rfl) rfl rfl rfl ?_
            refine JL.val (v := .bool true) (QV.move rfl) rfl rfl rfl ?_
            refine JL.skip (d := some 49) rfl rfl rfl ?_
            refine JL.skip (d := some 50) rfl rfl rfl ?_
            refine JL.skip (d := some 51) rfl rfl rfl ?_
            refine JL.skip (d := some 52) rfl rfl rfl ?_
            refine JL.skip (d := some 53) rfl rfl rfl ?_
            refine JL.val (v := .bool true) (QV.pickT rfl rfl) rfl rfl rfl ?_
            refine JL.nil ?_
            refine QJ.then_normal ?_
            refine JC.condT rfl ?_
            refine JC.seq ?_
            refine JC.region ?_
            refine JL.val (v := .bool false) (QV.assign rfl) rfl rfl rfl ?_
            refine JL.nil ?_
            refine QJ.then_normal ?_
            refine JC.ret ?_
            refine QJ.then_ret ?_
            refine QJ.block_ret ?_
            refine QJ.then_ret ?_
            obtain rfl := Option.some.inj hm
            refine QJ.round_ret (fun hy => ?_)
            subst hy
            refine QJ.block_ret ?_
            refine QJ.cut_ret ?_
            refine QJ.then_ret ?_
            obtain rfl := Option.some.inj hmo46
            exact QJ.body (vs := [.bool false]) (.inl rfl) rfl (ResVs.cons (ResV.tmp rfl) ResVs.nil) [] rfl rfl (.inr trivial) ⟨rfl, rfl⟩
          ·
            refine JL.val (v := .bool false) (QV.eq (QV.move rfl) (congrArg Value.bool (decide_eq_false h50))) rfl rfl rfl ?_
            refine JL.val (v := .int .i64 (gd x5 d41)) (QV.move rfl) rfl rfl rfl ?_
            refine JL.val (v := s1.v) (QV.move rfl) rfl rfl rfl ?_
            refine JL.val (v := .int .i64 ((x2).length : Int)) (QV.lenN (RdN.vn 0 rfl) Try.underlying22 rfl) rfl rfl rfl ?_
            refine JL.val (v := .bool (decide (((x2).length : Int) ≤ (gd x5 d41)))) (QV.geq rfl rfl) rfl rfl rfl ?_
            refine JL.val (v := .bool (decide (((x2).length : Int) ≤ (gd x5 d41)))) (QV.pickF rfl rfl) rfl rfl rfl ?_
            rcases ite_inv hm with ⟨h51, hm⟩ | ⟨h51, hm⟩
            ·
              refine JL.val (v := .bool true) (QV.eq (QV.move rfl) (congrArg Value.bool (decide_eq_true h51))) rfl rfl rfl ?_
              refine JL.skip (d := some 49) rfl rfl rfl ?_
              refine JL.skip (d := some 50) rfl rfl rfl ?_
              refine JL.skip (d := some 51) rfl rfl rfl ?_
              refine JL.skip (d := some 52) rfl rfl rfl ?_
              refine JL.skip (d := some 53) rfl rfl rfl ?_
              refine JL.val (v := .bool true) (QV.pickT rfl rfl) rfl rfl rfl ?_
              refine JL.nil ?_
              refine QJ.then_normal ?_
              refine JC.condT rfl ?_
              refine JC.seq ?_
              refine JC.region ?_
              refine JL.val (v := .bool false) (QV.assign rfl) rfl rfl rfl ?_
              refine JL.nil ?_
              refine QJ.then_normal ?_
              refine JC.ret ?_
              refine QJ.then_ret ?_
              refine QJ.block_ret ?_
              refine QJ.then_ret ?_
              obtain rfl := Option.some.inj hm
              refine QJ.round_ret (fun hy => ?_)
              subst hy
              refine QJ.block_ret ?_
              refine QJ.cut_ret ?_
              refine QJ.then_ret ?_
              obtain rfl := Option.some.inj hmo46
              exact QJ.body (vs := [.bool false]) (.inl rfl) rfl (ResVs.cons (ResV.tmp rfl) ResVs.nil) [] rfl rfl (.inr trivial) ⟨rfl, rfl⟩
            ·
              refine JL.val (v := .bool false) (QV.eq (QV.move rfl) (congrArg Value.bool (decide_eq_false h51))) rfl rfl rfl ?_
              refine JL.val (v := z16.v) (QV.move rfl) rfl rfl rfl ?_
              refine JL.val (v := .int .i64 (gd x5 d41)) (QV.move rfl) rfl rfl rfl ?_
              obtain ⟨h52, hm⟩ := guard_inv hm
              refine JL.val (v := .pointer (some (elA (z16.v) (Int.toNat (gd x5 d41) * ((Enc.int .i64)).sz)))) (QV.indexA (Rdg.of 3 rfl) Try.underlying25 tk_3 rfl rfl h52) rfl rfl rfl ?_
              refine JL.val (v := .int .i64 (gd d40 (gd x5 d41))) (QV.el1 (Rdg.of 3 rfl) tk_3 rfl h52 rfl) rfl rfl rfl ?_
              refine JL.val (v := .bool (decide ((0 : Int) < (gd d40 (gd x5 d41))))) (QV.gtr rfl rfl) rfl rfl rfl ?_
              refine JL.val (v := .bool (decide ((0 : Int) < (gd d40 (gd x5 d41))))) (QV.pickF rfl rfl) rfl rfl rfl ?_
              refine JL.nil ?_
              refine QJ.then_normal ?_
              rcases ite_inv hm with ⟨h53, hm⟩ | ⟨h53, hm⟩
              ·
                refine JC.condT' rfl (decide_eq_true h53) ?_
                refine JC.seq ?_
                refine JC.region ?_
                refine JL.val (v := .bool false) (QV.assign rfl) rfl rfl rfl ?_
                refine JL.nil ?_
                refine QJ.then_normal ?_
                refine JC.ret ?_
                refine QJ.then_ret ?_
                refine QJ.block_ret ?_
                refine QJ.then_ret ?_
                obtain rfl := Option.some.inj hm
                refine QJ.round_ret (fun hy => ?_)
                subst hy
                refine QJ.block_ret ?_
                refine QJ.cut_ret ?_
                refine QJ.then_ret ?_
                obtain rfl := Option.some.inj hmo46
                exact QJ.body (vs := [.bool false]) (.inl rfl) rfl (ResVs.cons (ResV.tmp rfl) ResVs.nil) [] rfl rfl (.inr trivial) ⟨rfl, rfl⟩
              ·
                refine JC.condF' rfl (decide_eq_false h53) ?_
                refine JC.skip ?_
                refine QJ.then_normal ?_
                refine JC.region ?_
                refine JL.val (v := z16.v) (QV.move rfl) rfl rfl rfl ?_
                refine JL.val (v := .int .i64 (gd x5 d41)) (QV.move rfl) rfl rfl rfl ?_
                refine JL.val (v := .int .i64 d41) (QV.move rfl) rfl rfl rfl ?_
                refine JL.val (v := .int .i64 (IntKind.wrap .i64 (d41 + (1 : Int)))) (QV.add rfl rfl) rfl rfl rfl ?_
                refine JL.val (v := .pointer (some (elA (z16.v) (Int.toNat (gd x5 d41) * ((Enc.int .i64)).sz)))) (QV.indexA (Rdg.of 3 rfl) Try.underlying25 tk_3 rfl rfl h52) rfl rfl rfl ?_
                refine JL.mv (d := none) (MV.storeEl 3 (IntKind.wrap .i64 (d41 + (1 : Int))) rfl tk_3 rfl rfl h52 rfl) rfl rfl rfl ?_
                rintro _ _ ⟨rfl, rfl⟩
                refine JL.nil ?_
                refine QJ.block_normal ?_
                refine QJ.then_normal ?_
                refine JC.region ?_
                refine JL.val (v := .int .i64 (IntKind.wrap .i64 (d41 + (1 : Int)))) (QV.add rfl rfl) rfl rfl rfl ?_
                refine JL.val (v := .int .i64 (IntKind.wrap .i64 (d41 + (1 : Int)))) (QV.move rfl) rfl rfl rfl ?_
                refine JL.nil ?_
                obtain rfl := Option.some.inj hm
                exact QJ.round_on ((List.set d40 (Int.toNat (gd x5 d41)) (IntKind.wrap .i64 (d41 + (1 : Int)))), (IntKind.wrap .i64 (d41 + (1 : Int)))) () [0, 1, 2, 3, 4] (by exact ⟨rfl, rfl, rfl, rfl, rfl, rfl, rfl, trivial⟩) rfl rfl
        ·
          refine JC.condF' rfl (decide_eq_false h48) ?_
          refine JC.exit ?_
          refine QJ.then_exit ?_
          obtain rfl := Option.some.inj hm
          refine QJ.round_exit (fun hy => ?_)
          subst hy
          refine QJ.block_hit ?_
          exact QJ.cut_normal (d40, ()) hmo46 [1, 2, 3] (by exact ⟨rfl, rfl, rfl, trivial⟩) rfl rfl
    ·
      refine JC.condT' rfl (congrArg Bool.not (decide_eq_false h14)) ?_
      refine JC.seq ?_
      refine JC.region ?_
      refine JL.val (v := .bool false) (QV.assign rfl) rfl rfl rfl ?_
      refine JL.nil ?_
      refine QJ.then_normal ?_
      refine JC.ret ?_
      refine QJ.then_ret ?_
      obtain rfl := Option.some.inj hm
      exact QJ.body (vs := [.bool false]) (.inl rfl) rfl (ResVs.cons (ResV.tmp rfl) ResVs.nil) [] rfl rfl (.inr trivial) ⟨rfl, rfl⟩
  ·
    refine JL.val (v := .bool true) (QV.eq (QV.move rfl) (congrArg Value.bool (congrArg Bool.not (decide_eq_false h13)))) rfl rfl rfl ?_
    refine JL.skip (d := some 24) rfl rfl rfl ?_
    refine JL.skip (d := some 25) rfl rfl rfl ?_
    refine JL.skip (d := some 26) rfl rfl rfl ?_
    refine JL.skip (d := some 27) rfl rfl rfl ?_
    refine JL.skip (d := some 28) rfl rfl rfl ?_
    refine JL.val (v := .bool true) (QV.pickT rfl rfl) rfl rfl rfl ?_
    refine JL.nil ?_
    refine QJ.then_normal ?_
    refine JC.condT rfl ?_
    refine JC.seq ?_
    refine JC.region ?_
    refine JL.val (v := .bool false) (QV.assign rfl) rfl rfl rfl ?_
    refine JL.nil ?_
    refine QJ.then_normal ?_
    refine JC.ret ?_
    refine QJ.then_ret ?_
    obtain rfl := Option.some.inj hm
    exact QJ.body (vs := [.bool false]) (.inl rfl) rfl (ResVs.cons (ResV.tmp rfl) ResVs.nil) [] rfl rfl (.inr trivial) ⟨rfl, rfl⟩

end Go.Proofs.Ytgganckggdjpaaa
