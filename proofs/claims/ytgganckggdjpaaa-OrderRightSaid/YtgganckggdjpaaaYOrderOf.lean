/- Written by gen.py: functions and their contracts. -/
import Derived.Test.YtgganckggdjpaaaOrd
namespace Go.Proofs.Ytgganckggdjpaaa
open Go Go.Eng Go.Proofs
set_option linter.unusedVariables false
set_option linter.unusedSimpArgs false
/-! ### 45: drogher/drogherref19.waits -/
noncomputable def F45.j1   : Option Bool :=
  some false
noncomputable def F45.j2 (d10 : Int)  : Option (Int ⊕ ((Bool) ⊕ Unit)) :=
  some (.inl (IntKind.wrap .i64 (d10 + (1 : Int))))
noncomputable def F45.b1 (x2 : List (List Int)) (x5 : List Int) (x7 : List Int) (x8 : Int) : Int → Option (Int ⊕ ((Bool) ⊕ Unit))
  | d10 => (if d10 < ((x2).length : Int) then (if d10 = x8 then F45.j2 d10 else (if 0 ≤ d10 ∧ d10 < ((x2).length : Int) then ((F44.m ((gd x2 d10)) (x8)).bind fun y19 => (if y19 = true then ((F44.m (x5) (d10)).bind fun y22 => (if y22 = true then F45.j2 d10 else ((F44.m (x7) (d10)).bind fun y25 => (if y25 = true then F45.j2 d10 else some (.inr (.inl (true))))))) else F45.j2 d10)) else none)) else some (.inr (.inr (()))))
noncomputable def F45.m (x2 : List (List Int)) (x5 : List Int) (x7 : List Int) (x8 : Int) : Option Bool :=
  ((loop (F45.b1 x2 x5 x7 x8) (0 : Int)).bind fun y => match y with | .inl r => some r | .inr _ => F45.j1)
set_option maxRecDepth 100000 in
set_option maxHeartbeats 4000000 in
theorem F45.spec (s1 : SlV) (z3 : List SlV) (s4 : SlV) (s6 : SlV) (x2 : List (List Int)) (x5 : List Int) (x7 : List Int) (x8 : Int) (r : Bool) (hm : F45.m x2 x5 x7 x8 = some r) :
    Ctr Try.prog false 45 [s1.v, s4.v, s6.v, .int .i64 x8] [Asr.vn (NE.sl (Enc.int .i64)) (s1.v) z3 x2, Asr.vw (Enc.int .i64) (s4.v) x5, Asr.vw (Enc.int .i64) (s6.v) x7] (fun v L' => v = .bool r ∧ L' = []) := by
  refine Ctr.intro (n := 39) (env := [(0, s1.v), (1, s4.v), (2, s6.v), (3, .int .i64 x8)]) Try.func45 rfl rfl rfl rfl (fun c => ?_)
  unfold F45.m at hm
  refine JC.seq ?_
  refine JC.region ?_
  refine JL.val (v := .bool false) (QV.assign rfl) rfl rfl rfl ?_
  refine JL.nil ?_
  refine QJ.then_normal ?_
  refine JC.seq ?_
  refine JC.seq ?_
  refine JC.region ?_
  refine JL.val (v := s1.v) (QV.move rfl) rfl rfl rfl ?_
  refine JL.val (v := .int .i64 ((x2).length : Int)) (QV.lenN (RdN.vn 0 rfl) Try.underlying22 rfl) rfl rfl rfl ?_
  refine JL.val (v := .int .i64 (0 : Int)) (QV.move rfl) rfl rfl rfl ?_
  refine JL.nil ?_
  refine QJ.then_normal ?_
  refine JC.cutK (Y := Unit × Unit) (fun y => match y with | (_, _) => F45.j1 = some r) (fun y => match y with | (_, _) => []) (fun y => match y with | (_, _) => []) ?_ ?_
  ·
    rintro ⟨⟨⟩, ⟨⟩⟩ hm
    unfold F45.j1 at hm
    show QJ _ _ [] [] _ _
    refine QJ.then_normal ?_
    refine JC.seq ?_
    refine JC.region ?_
    refine JL.val (v := .bool false) (QV.assign rfl) rfl rfl rfl ?_
    refine JL.nil ?_
    refine QJ.then_normal ?_
    refine JC.ret ?_
    obtain rfl := Option.some.inj hm
    exact QJ.body (vs := [.bool false]) (.inl rfl) rfl (ResVs.cons (ResV.tmp rfl) ResVs.nil) [] rfl rfl (.inr trivial) ⟨rfl, rfl⟩
  ·
    refine JC.block ?_
    obtain ⟨y12, hl13, hmo14⟩ := bind_inv hm
    refine JC.loop (F45.b1 x2 x5 x7 x8) (fun x z => match x, z with | d10, _ => [(0, s1.v), (1, s4.v), (2, s6.v), (3, .int .i64 x8), (11, .int .i64 ((x2).length : Int)), (12, .int .i64 d10)]) (fun x z => match x, z with | d10, _ => [Asr.vn (NE.sl (Enc.int .i64)) (s1.v) z3 x2, Asr.vw (Enc.int .i64) (s4.v) x5, Asr.vw (Enc.int .i64) (s6.v) x7]) (0 : Int) () y12 hl13 [0, 1, 2] (by exact ⟨rfl, rfl, rfl, rfl, rfl, rfl, trivial⟩) rfl rfl ?_
    rintro d10 ⟨⟩ s15 hm
    unfold F45.b1 at hm
    dsimp only at hm
    show JC _ _ _ [(0, s1.v), (1, s4.v), (2, s6.v), (3, .int .i64 x8), (11, .int .i64 ((x2).length : Int)), (12, .int .i64 d10)] [Asr.vn (NE.sl (Enc.int .i64)) (s1.v) z3 x2, Asr.vw (Enc.int .i64) (s4.v) x5, Asr.vw (Enc.int .i64) (s6.v) x7] _ _
    refine JC.seq ?_
    refine JC.region ?_
    refine JL.val (v := .bool (decide (d10 < ((x2).length : Int)))) (QV.lss rfl rfl) rfl rfl rfl ?_
    refine JL.nil ?_
    refine QJ.then_normal ?_
    refine JC.seq ?_
    rcases ite_inv hm with ⟨h16, hm⟩ | ⟨h16, hm⟩
    ·
      refine JC.condT' rfl (decide_eq_true h16) ?_
      refine JC.skip ?_
      refine QJ.then_normal ?_
      refine JC.seq ?_
      refine JC.cutK (Y := Unit × Unit) (fun y => match y with | (_, _) => F45.j2 d10 = some s15) (fun y => match y with | (_, _) => [(0, s1.v), (1, s4.v), (2, s6.v), (3, .int .i64 x8), (11, .int .i64 ((x2).length : Int)), (12, .int .i64 d10)]) (fun y => match y with | (_, _) => [Asr.vn (NE.sl (Enc.int .i64)) (s1.v) z3 x2, Asr.vw (Enc.int .i64) (s4.v) x5, Asr.vw (Enc.int .i64) (s6.v) x7]) ?_ ?_
      ·
        rintro ⟨⟨⟩, ⟨⟩⟩ hm
        unfold F45.j2 at hm
        show QJ _ _ [(0, s1.v), (1, s4.v), (2, s6.v), (3, .int .i64 x8), (11, .int .i64 ((x2).length : Int)), (12, .int .i64 d10)] [Asr.vn (NE.sl (Enc.int .i64)) (s1.v) z3 x2, Asr.vw (Enc.int .i64) (s4.v) x5, Asr.vw (Enc.int .i64) (s6.v) x7] _ _
        refine QJ.then_normal ?_
        refine JC.region ?_
        refine JL.val (v := .int .i64 (IntKind.wrap .i64 (d10 + (1 : Int)))) (QV.add rfl rfl) rfl rfl rfl ?_
        refine JL.val (v := .int .i64 (IntKind.wrap .i64 (d10 + (1 : Int)))) (QV.move rfl) rfl rfl rfl ?_
        refine JL.nil ?_
        obtain rfl := Option.some.inj hm
        exact QJ.round_on (IntKind.wrap .i64 (d10 + (1 : Int))) () [0, 1, 2] (by exact ⟨rfl, rfl, rfl, rfl, rfl, rfl, trivial⟩) rfl rfl
      ·
        refine JC.block ?_
        refine JC.seq ?_
        refine JC.region ?_
        refine JL.val (v := .int .i64 d10) (QV.move rfl) rfl rfl rfl ?_
        refine JL.val (v := .int .i64 d10) (QV.assign rfl) rfl rfl rfl ?_
        refine JL.nil ?_
        refine QJ.then_normal ?_
        refine JC.seq ?_
        refine JC.region ?_
        refine JL.val (v := .int .i64 d10) (QV.move rfl) rfl rfl rfl ?_
        refine JL.val (v := .int .i64 x8) (QV.move rfl) rfl rfl rfl ?_
        refine JL.val (v := .bool (!(decide (d10 = x8)))) (QV.neq rfl rfl) rfl rfl rfl ?_
        rcases ite_inv hm with ⟨h17, hm⟩ | ⟨h17, hm⟩
        ·
          refine JL.val (v := .bool false) (QV.eq (QV.move rfl) (congrArg Value.bool (congrArg Bool.not (decide_eq_true h17)))) rfl rfl rfl ?_
          refine JL.skip (d := some 19) rfl rfl rfl ?_
          refine JL.skip (d := some 20) rfl rfl rfl ?_
          refine JL.skip (d := some 21) rfl rfl rfl ?_
          refine JL.skip (d := some 22) rfl rfl rfl ?_
          refine JL.skip (d := some 23) rfl rfl rfl ?_
          refine JL.skip (d := some 24) rfl rfl rfl ?_
          refine JL.val (v := .bool false) (QV.pickF rfl rfl) rfl rfl rfl ?_
          refine JL.val (v := .bool false) (QV.move rfl) rfl rfl rfl ?_
          refine JL.skip (d := some 27) rfl rfl rfl ?_
          refine JL.skip (d := some 28) rfl rfl rfl ?_
          refine JL.skip (d := some 29) rfl rfl rfl ?_
          refine JL.skip (d := some 30) rfl rfl rfl ?_
          refine JL.val (v := .bool false) (QV.pickF rfl rfl) rfl rfl rfl ?_
          refine JL.val (v := .bool false) (QV.move rfl) rfl rfl rfl ?_
          refine JL.skip (d := some 33) rfl rfl rfl ?_
          refine JL.skip (d := some 34) rfl rfl rfl ?_
          refine JL.skip (d := some 35) rfl rfl rfl ?_
          refine JL.skip (d := some 36) rfl rfl rfl ?_
          refine JL.val (v := .bool false) (QV.pickF rfl rfl) rfl rfl rfl ?_
          refine JL.nil ?_
          refine QJ.then_normal ?_
          refine JC.condF rfl ?_
          refine JC.skip ?_
          refine QJ.block_normal ?_
          exact QJ.cut_normal ((), ()) hm [0, 1, 2] (by exact ⟨rfl, rfl, rfl, rfl, rfl, rfl, trivial⟩) rfl rfl
        ·
          refine JL.val (v := .bool true) (QV.eq (QV.move rfl) (congrArg Value.bool (congrArg Bool.not (decide_eq_false h17)))) rfl rfl rfl ?_
          refine JL.val (v := s1.v) (QV.move rfl) rfl rfl rfl ?_
          refine JL.val (v := .int .i64 d10) (QV.move rfl) rfl rfl rfl ?_
          obtain ⟨h18, hm⟩ := guard_inv hm
          refine JL.val (v := .pointer (some (elA (s1.v) (Int.toNat d10 * ((NE.sl (Enc.int .i64)).E).sz)))) (QV.indexN (RdN.vn 0 rfl) Try.underlying22 tk_25 rfl rfl h18) rfl rfl rfl ?_
          refine JL.val (v := (gd z3 d10).v) (QV.el1N (RdN.vn 0 rfl) tk_25 rfl h18 rfl) rfl rfl rfl ?_
          refine JL.val (v := .int .i64 x8) (QV.move rfl) rfl rfl rfl ?_
          obtain ⟨y19, hc20, hm⟩ := bind_inv hm
          refine JL.mv (d := some 24) (MV.call (Lo := []) (Lr := [Asr.vn (NE.sl (Enc.int .i64)) (s1.v) z3 x2, Asr.vw (Enc.int .i64) (s4.v) x5, Asr.vw (Enc.int .i64) (s6.v) x7]) (F44.spec ((gd z3 d10)) ((gd x2 d10)) (x8) _ hc20) rfl Try.func44 rfl rfl rfl [] [0, 1, 2] rfl rfl rfl ⟨(Drv.el (K := (NE.sl (Enc.int .i64))) (A := Asr.vw (Enc.int .i64) ((gd z3 d10).v) (gd x2 d10)) (Drv.vn 0 rfl) h18 (fun _ _ q => q)), trivial⟩) rfl rfl rfl ?_
          rintro _ _ ⟨_, ⟨rfl, rfl⟩, rfl⟩
          refine JL.val (v := .bool y19) (QV.pickT rfl rfl) rfl rfl rfl ?_
          rcases ite_inv hm with ⟨h21, hm⟩ | ⟨h21, hm⟩
          ·
            refine JL.val (v := .bool true) (QV.eq (QV.move rfl) (congrArg Value.bool h21)) rfl rfl rfl ?_
            refine JL.val (v := s4.v) (QV.move rfl) rfl rfl rfl ?_
            refine JL.val (v := .int .i64 d10) (QV.move rfl) rfl rfl rfl ?_
            obtain ⟨y22, hc23, hm⟩ := bind_inv hm
            refine JL.mv (d := some 29) (MV.call (Lo := []) (Lr := [Asr.vn (NE.sl (Enc.int .i64)) (s1.v) z3 x2, Asr.vw (Enc.int .i64) (s4.v) x5, Asr.vw (Enc.int .i64) (s6.v) x7]) (F44.spec (s4) (x5) (d10) _ hc23) rfl Try.func44 rfl rfl rfl [] [0, 1, 2] rfl rfl rfl ⟨(Drv.vw 1 rfl), trivial⟩) rfl rfl rfl ?_
            rintro _ _ ⟨_, ⟨rfl, rfl⟩, rfl⟩
            refine JL.val (v := .bool (!y22)) (QV.not rfl) rfl rfl rfl ?_
            refine JL.val (v := .bool (!y22)) (QV.pickT rfl rfl) rfl rfl rfl ?_
            rcases ite_inv hm with ⟨h24, hm⟩ | ⟨h24, hm⟩
            ·
              refine JL.val (v := .bool false) (QV.eq (QV.move rfl) (congrArg Value.bool (congrArg Bool.not h24))) rfl rfl rfl ?_
              refine JL.skip (d := some 33) rfl rfl rfl ?_
              refine JL.skip (d := some 34) rfl rfl rfl ?_
              refine JL.skip (d := some 35) rfl rfl rfl ?_
              refine JL.skip (d := some 36) rfl rfl rfl ?_
              refine JL.val (v := .bool false) (QV.pickF rfl rfl) rfl rfl rfl ?_
              refine JL.nil ?_
              refine QJ.then_normal ?_
              refine JC.condF rfl ?_
              refine JC.skip ?_
              refine QJ.block_normal ?_
              exact QJ.cut_normal ((), ()) hm [0, 1, 2] (by exact ⟨rfl, rfl, rfl, rfl, rfl, rfl, trivial⟩) rfl rfl
            ·
              refine JL.val (v := .bool true) (QV.eq (QV.move rfl) (congrArg Value.bool (congrArg Bool.not (bfalse h24)))) rfl rfl rfl ?_
              refine JL.val (v := s6.v) (QV.move rfl) rfl rfl rfl ?_
              refine JL.val (v := .int .i64 d10) (QV.move rfl) rfl rfl rfl ?_
              obtain ⟨y25, hc26, hm⟩ := bind_inv hm
              refine JL.mv (d := some 35) (MV.call (Lo := []) (Lr := [Asr.vn (NE.sl (Enc.int .i64)) (s1.v) z3 x2, Asr.vw (Enc.int .i64) (s4.v) x5, Asr.vw (Enc.int .i64) (s6.v) x7]) (F44.spec (s6) (x7) (d10) _ hc26) rfl Try.func44 rfl rfl rfl [] [0, 1, 2] rfl rfl rfl ⟨(Drv.vw 2 rfl), trivial⟩) rfl rfl rfl ?_
              rintro _ _ ⟨_, ⟨rfl, rfl⟩, rfl⟩
              refine JL.val (v := .bool (!y25)) (QV.not rfl) rfl rfl rfl ?_
              refine JL.val (v := .bool (!y25)) (QV.pickT rfl rfl) rfl rfl rfl ?_
              refine JL.nil ?_
              refine QJ.then_normal ?_
              rcases ite_inv hm with ⟨h27, hm⟩ | ⟨h27, hm⟩
              ·
                refine JC.condF' rfl (congrArg Bool.not h27) ?_
                refine JC.skip ?_
                refine QJ.block_normal ?_
                exact QJ.cut_normal ((), ()) hm [0, 1, 2] (by exact ⟨rfl, rfl, rfl, rfl, rfl, rfl, trivial⟩) rfl rfl
              ·
                refine JC.condT' rfl (congrArg Bool.not (bfalse h27)) ?_
                refine JC.seq ?_
                refine JC.region ?_
                refine JL.val (v := .bool true) (QV.assign rfl) rfl rfl rfl ?_
                refine JL.nil ?_
                refine QJ.then_normal ?_
                refine JC.ret ?_
                refine QJ.block_ret ?_
                refine QJ.cut_ret ?_
                refine QJ.then_ret ?_
                obtain rfl := Option.some.inj hm
                refine QJ.round_ret (fun hy => ?_)
                subst hy
                refine QJ.block_ret ?_
                refine QJ.cut_ret ?_
                refine QJ.then_ret ?_
                obtain rfl := Option.some.inj hmo14
                exact QJ.body (vs := [.bool true]) (.inl rfl) rfl (ResVs.cons (ResV.tmp rfl) ResVs.nil) [] rfl rfl (.inr trivial) ⟨rfl, rfl⟩
          ·
            refine JL.val (v := .bool false) (QV.eq (QV.move rfl) (congrArg Value.bool (bfalse h21))) rfl rfl rfl ?_
            refine JL.skip (d := some 27) rfl rfl rfl ?_
            refine JL.skip (d := some 28) rfl rfl rfl ?_
            refine JL.skip (d := some 29) rfl rfl rfl ?_
            refine JL.skip (d := some 30) rfl rfl rfl ?_
            refine JL.val (v := .bool false) (QV.pickF rfl rfl) rfl rfl rfl ?_
            refine JL.val (v := .bool false) (QV.move rfl) rfl rfl rfl ?_
            refine JL.skip (d := some 33) rfl rfl rfl ?_
            refine JL.skip (d := some 34) rfl rfl rfl ?_
            refine JL.skip (d := some 35) rfl rfl rfl ?_
            refine JL.skip (d := some 36) rfl rfl rfl ?_
            refine JL.val (v := .bool false) (QV.pickF rfl rfl) rfl rfl rfl ?_
            refine JL.nil ?_
            refine QJ.then_normal ?_
            refine JC.condF rfl ?_
            refine JC.skip ?_
            refine QJ.block_normal ?_
            exact QJ.cut_normal ((), ()) hm [0, 1, 2] (by exact ⟨rfl, rfl, rfl, rfl, rfl, rfl, trivial⟩) rfl rfl
    ·
      refine JC.condF' rfl (decide_eq_false h16) ?_
      refine JC.exit ?_
      refine QJ.then_exit ?_
      obtain rfl := Option.some.inj hm
      refine QJ.round_exit (fun hy => ?_)
      subst hy
      refine QJ.block_hit ?_
      exact QJ.cut_normal ((), ()) hmo14 [] trivial rfl rfl

/-! ### 16: drogher/drogherref19.Of -/
noncomputable def F16.j1  (d11 : List Int) (d13 : List Int) : Option (List Int × List Int) :=
  some (d11, d13)
noncomputable def F16.j2  (d28 : List Int) (d30 : List Int) : Option ((List Int × List Int) ⊕ (List Int × List Int)) :=
  some (.inl (d28, d30))
noncomputable def F16.j4  (d34 : List Int) (d36 : List Int) : Option ((List Int × List Int) ⊕ (List Int × List Int)) :=
  F16.j2 (d34) (d36)
noncomputable def F16.j3 (d15 : List Int) (d17 : List Int) (d31 : Int) (d32 : Int) : Option ((List Int × List Int) ⊕ (List Int × List Int)) :=
  (if (0 : Int) ≤ d31 then (if ((d15).length + ([d31]).length) * 8 ≤ 140737488355328 ∧ (d15).length + ([d31]).length ≤ 9223372036854775807 then F16.j4 ((d15 ++ [d31])) (d17) else none) else (if ((d17).length + ([d32]).length) * 8 ≤ 140737488355328 ∧ (d17).length + ([d32]).length ≤ 9223372036854775807 then F16.j4 (d15) ((d17 ++ [d32])) else none))
noncomputable def F16.j5 (d46 : Int) (d55 : Int) (d56 : Int) : Option ((Int × Int × Int) ⊕ (Int × Int)) :=
  some (.inl (d55, d56, (IntKind.wrap .i64 (d46 + (1 : Int)))))
noncomputable def F16.j7 (d46 : Int) (d63 : Int) (d67 : Int) : Option ((Int × Int × Int) ⊕ (Int × Int)) :=
  F16.j5 d46 (d63) (d67)
noncomputable def F16.j6 (d17 : List Int) (d45 : Int) (d46 : Int) (d63 : Int) : Option ((Int × Int × Int) ⊕ (Int × Int)) :=
  (if d45 < (0 : Int) then ((F44.m (d17) (d46)).bind fun y65 => (if y65 = true then F16.j7 d46 d63 (d45) else F16.j7 d46 d63 (d46))) else F16.j5 d46 (d63) (d45))
noncomputable def F16.j8 (d44 : Int) (d46 : Int) (d73 : Int) : Option ((Int × Int × Int) ⊕ (Int × Int)) :=
  F16.j5 d46 (d44) (d73)
noncomputable def F16.b2 (x2 : List (List Int)) (d15 : List Int) (d17 : List Int) : (Int × Int × Int) → Option ((Int × Int × Int) ⊕ (Int × Int))
  | (d44, d45, d46) => (if d46 < ((x2).length : Int) then ((F44.m (d15) (d46)).bind fun y57 => (if y57 = true then F16.j5 d46 (d44) (d45) else (if d44 < (0 : Int) then ((F45.m (x2) (d15) (d17) (d46)).bind fun y61 => (if y61 = true then F16.j6 d17 d45 d46 (d44) else F16.j6 d17 d45 d46 (d46))) else (if d45 < (0 : Int) then ((F44.m (d17) (d46)).bind fun y71 => (if y71 = true then F16.j8 d44 d46 (d45) else F16.j8 d44 d46 (d46))) else F16.j5 d46 (d44) (d45))))) else some (.inr (d44, d45)))
noncomputable def F16.b1 (x2 : List (List Int)) : (List Int × List Int) → Option ((List Int × List Int) ⊕ (List Int × List Int))
  | (d15, d17) => (if ((d15).length : Int) < ((x2).length : Int) then ((loop (F16.b2 x2 d15 d17) ((-1 : Int), (-1 : Int), (0 : Int))).bind fun y => match y with | (d31, d32) => F16.j3 d15 d17 (d31) (d32)) else some (.inr (d15, d17)))
noncomputable def F16.m (x2 : List (List Int)) : Option (List Int × List Int) :=
  ((loop (F16.b1 x2) (([] : List Int), ([] : List Int))).bind fun y => match y with | (d11, d13) => F16.j1 (d11) (d13))
set_option maxRecDepth 100000 in
set_option maxHeartbeats 4000000 in
theorem F16.spec (s1 : SlV) (z3 : List SlV) (x2 : List (List Int)) (r : (List Int × List Int)) (hm : F16.m x2 = some r) :
    Ctr Try.prog false 16 [s1.v] [Asr.vn (NE.sl (Enc.int .i64)) (s1.v) z3 x2] (fun v L' => ∃ (g4 : SlV), ∃ (g6 : SlV), v = .tuple #[g4.v, g6.v] ∧ L' = [Asr.of 3 (Enc.int .i64) (g4.v) r.1, Asr.of 3 (Enc.int .i64) (g6.v) r.2]) := by
  refine Ctr.intro (n := 57) (env := [(0, s1.v)]) Try.func16 rfl rfl rfl rfl (fun c => ?_)
  unfold F16.m at hm
  refine JC.seq ?_
  refine JC.region ?_
  refine JL.ent (fun _ hs => hs.nil 3 (Enc.int .i64)) ?_
  refine JL.val (v := SlV.nil.v) (QV.assign rfl) rfl rfl rfl ?_
  refine JL.ent (fun _ hs => hs.nil 3 (Enc.int .i64)) ?_
  refine JL.val (v := SlV.nil.v) (QV.assign rfl) rfl rfl rfl ?_
  refine JL.nil ?_
  refine QJ.then_normal ?_
  refine JC.seq ?_
  refine JC.region ?_
  refine JL.mv (d := some 9) (MV.lit0 (Enc.int .i64) Try.underlying25 (by kernel_rfl)) rfl rfl rfl ?_
  rintro _ _ ⟨z8, rfl, rfl⟩
  refine JL.val (v := z8.v) (QV.assign rfl) rfl rfl rfl ?_
  refine JL.nil ?_
  refine QJ.then_normal ?_
  refine JC.seq ?_
  refine JC.region ?_
  refine JL.mv (d := some 10) (MV.lit0 (Enc.int .i64) Try.underlying25 (by kernel_rfl)) rfl rfl rfl ?_
  rintro _ _ ⟨z9, rfl, rfl⟩
  refine JL.val (v := z9.v) (QV.assign rfl) rfl rfl rfl ?_
  refine JL.nil ?_
  refine QJ.then_normal ?_
  refine JC.seq ?_
  refine JC.cutK (Y := (List Int × List Int) × (SlV × SlV)) (fun y => match y with | ((d11, d13), _) => F16.j1 (d11) (d13) = some r) (fun y => match y with | ((d11, d13), (z10, z12)) => [(4, z10.v), (5, z12.v)]) (fun y => match y with | ((d11, d13), (z10, z12)) => [Asr.of 3 (Enc.int .i64) (z10.v) d11, Asr.of 3 (Enc.int .i64) (z12.v) d13]) ?_ ?_
  ·
    rintro ⟨⟨d11, d13⟩, ⟨z10, z12⟩⟩ hm
    unfold F16.j1 at hm
    show QJ _ _ [(4, z10.v), (5, z12.v)] [Asr.of 3 (Enc.int .i64) (z10.v) d11, Asr.of 3 (Enc.int .i64) (z12.v) d13] _ _
    refine QJ.then_normal ?_
    refine JC.seq ?_
    refine JC.region ?_
    refine JL.val (v := z10.v) (QV.move rfl) rfl rfl rfl ?_
    refine JL.val (v := z12.v) (QV.move rfl) rfl rfl rfl ?_
    refine JL.val (v := z10.v) (QV.assign rfl) rfl rfl rfl ?_
    refine JL.val (v := z12.v) (QV.assign rfl) rfl rfl rfl ?_
    refine JL.nil ?_
    refine QJ.then_normal ?_
    refine JC.ret ?_
    obtain rfl := Option.some.inj hm
    exact QJ.body (vs := [z10.v, z12.v]) (.inl rfl) rfl (ResVs.cons (ResV.tmp rfl) (ResVs.cons (ResV.tmp rfl) ResVs.nil)) [0, 1] rfl rfl (.inr ⟨own_of _ _ _ _, own_of _ _ _ _, trivial⟩) ⟨z10, z12, rfl, rfl⟩
  ·
    refine JC.block ?_
    obtain ⟨y22, hl23, hmo24⟩ := bind_inv hm
    refine JC.loop (F16.b1 x2) (fun x z => match x, z with | (d15, d17), (z14, z16) => [(0, s1.v), (4, z14.v), (5, z16.v)]) (fun x z => match x, z with | (d15, d17), (z14, z16) => [Asr.vn (NE.sl (Enc.int .i64)) (s1.v) z3 x2, Asr.of 3 (Enc.int .i64) (z14.v) d15, Asr.of 3 (Enc.int .i64) (z16.v) d17]) (([] : List Int), ([] : List Int)) (z8, z9) y22 hl23 [4, 1, 0] (by exact ⟨rfl, rfl, rfl, trivial⟩) rfl rfl ?_
    rintro ⟨d15, d17⟩ ⟨z14, z16⟩ s25 hm
    unfold F16.b1 at hm
    dsimp only at hm
    show JC _ _ _ [(0, s1.v), (4, z14.v), (5, z16.v)] [Asr.vn (NE.sl (Enc.int .i64)) (s1.v) z3 x2, Asr.of 3 (Enc.int .i64) (z14.v) d15, Asr.of 3 (Enc.int .i64) (z16.v) d17] _ _
    refine JC.seq ?_
    refine JC.seq ?_
    refine JC.region ?_
    refine JL.val (v := z14.v) (QV.move rfl) rfl rfl rfl ?_
    refine JL.val (v := .int .i64 ((d15).length : Int)) (QV.len (Rdg.of 1 rfl) Try.underlying25 rfl) rfl rfl rfl ?_
    refine JL.val (v := s1.v) (QV.move rfl) rfl rfl rfl ?_
    refine JL.val (v := .int .i64 ((x2).length : Int)) (QV.lenN (RdN.vn 0 rfl) Try.underlying22 rfl) rfl rfl rfl ?_
    refine JL.val (v := .bool (decide (((d15).length : Int) < ((x2).length : Int)))) (QV.lss rfl rfl) rfl rfl rfl ?_
    refine JL.nil ?_
    refine QJ.then_normal ?_
    rcases ite_inv hm with ⟨h26, hm⟩ | ⟨h26, hm⟩
    ·
      refine JC.condT' rfl (decide_eq_true h26) ?_
      refine JC.skip ?_
      refine QJ.then_normal ?_
      refine JC.cutK (Y := (List Int × List Int) × (SlV × SlV)) (fun y => match y with | ((d28, d30), _) => F16.j2 (d28) (d30) = some s25) (fun y => match y with | ((d28, d30), (z27, z29)) => [(0, s1.v), (4, z27.v), (5, z29.v)]) (fun y => match y with | ((d28, d30), (z27, z29)) => [Asr.vn (NE.sl (Enc.int .i64)) (s1.v) z3 x2, Asr.of 3 (Enc.int .i64) (z27.v) d28, Asr.of 3 (Enc.int .i64) (z29.v) d30]) ?_ ?_
      ·
        rintro ⟨⟨d28, d30⟩, ⟨z27, z29⟩⟩ hm
        unfold F16.j2 at hm
        show QJ _ _ [(0, s1.v), (4, z27.v), (5, z29.v)] [Asr.vn (NE.sl (Enc.int .i64)) (s1.v) z3 x2, Asr.of 3 (Enc.int .i64) (z27.v) d28, Asr.of 3 (Enc.int .i64) (z29.v) d30] _ _
        obtain rfl := Option.some.inj hm
        exact QJ.round_on (d28, d30) (z27, z29) [0, 1, 2] (by exact ⟨rfl, rfl, rfl, trivial⟩) rfl rfl
      ·
        refine JC.block ?_
        refine JC.seq ?_
        refine JC.region ?_
        refine JL.val (v := .int .i64 (-1 : Int)) (QV.assign rfl) rfl rfl rfl ?_
        refine JL.nil ?_
        refine QJ.then_normal ?_
        refine JC.seq ?_
        refine JC.region ?_
        refine JL.val (v := .int .i64 (-1 : Int)) (QV.assign rfl) rfl rfl rfl ?_
        refine JL.nil ?_
        refine QJ.then_normal ?_
        refine JC.seq ?_
        refine JC.seq ?_
        refine JC.region ?_
        refine JL.val (v := s1.v) (QV.move rfl) rfl rfl rfl ?_
        refine JL.val (v := .int .i64 ((x2).length : Int)) (QV.lenN (RdN.vn 0 rfl) Try.underlying22 rfl) rfl rfl rfl ?_
        refine JL.val (v := .int .i64 (0 : Int)) (QV.move rfl) rfl rfl rfl ?_
        refine JL.nil ?_
        refine QJ.then_normal ?_
        refine JC.cutK (Y := (Int × Int) × Unit) (fun y => match y with | ((d31, d32), _) => F16.j3 d15 d17 (d31) (d32) = some s25) (fun y => match y with | ((d31, d32), _) => [(0, s1.v), (4, z14.v), (5, z16.v), (6, .int .i64 d31), (7, .int .i64 d32)]) (fun y => match y with | ((d31, d32), _) => [Asr.vn (NE.sl (Enc.int .i64)) (s1.v) z3 x2, Asr.of 3 (Enc.int .i64) (z14.v) d15, Asr.of 3 (Enc.int .i64) (z16.v) d17]) ?_ ?_
        ·
          rintro ⟨⟨d31, d32⟩, ⟨⟩⟩ hm
          unfold F16.j3 at hm
          show QJ _ _ [(0, s1.v), (4, z14.v), (5, z16.v), (6, .int .i64 d31), (7, .int .i64 d32)] [Asr.vn (NE.sl (Enc.int .i64)) (s1.v) z3 x2, Asr.of 3 (Enc.int .i64) (z14.v) d15, Asr.of 3 (Enc.int .i64) (z16.v) d17] _ _
          refine QJ.then_normal ?_
          refine JC.seq ?_
          refine JC.region ?_
          refine JL.val (v := .int .i64 d31) (QV.move rfl) rfl rfl rfl ?_
          refine JL.val (v := .bool (decide ((0 : Int) ≤ d31))) (QV.geq rfl rfl) rfl rfl rfl ?_
          refine JL.nil ?_
          refine QJ.then_normal ?_
          refine JC.cutK (Y := (List Int × List Int) × (SlV × SlV)) (fun y => match y with | ((d34, d36), _) => F16.j4 (d34) (d36) = some s25) (fun y => match y with | ((d34, d36), (z33, z35)) => [(0, s1.v), (4, z33.v), (5, z35.v)]) (fun y => match y with | ((d34, d36), (z33, z35)) => [Asr.vn (NE.sl (Enc.int .i64)) (s1.v) z3 x2, Asr.of 3 (Enc.int .i64) (z33.v) d34, Asr.of 3 (Enc.int .i64) (z35.v) d36]) ?_ ?_
          ·
            rintro ⟨⟨d34, d36⟩, ⟨z33, z35⟩⟩ hm
            unfold F16.j4 at hm
            show QJ _ _ [(0, s1.v), (4, z33.v), (5, z35.v)] [Asr.vn (NE.sl (Enc.int .i64)) (s1.v) z3 x2, Asr.of 3 (Enc.int .i64) (z33.v) d34, Asr.of 3 (Enc.int .i64) (z35.v) d36] _ _
            refine QJ.block_normal ?_
            exact QJ.cut_normal ((d34, d36), (z33, z35)) hm [0, 1, 2] (by exact ⟨rfl, rfl, rfl, trivial⟩) rfl rfl
          ·
            rcases ite_inv hm with ⟨h37, hm⟩ | ⟨h37, hm⟩
            ·
              refine JC.condT' rfl (decide_eq_true h37) ?_
              refine JC.region ?_
              refine JL.val (v := z14.v) (QV.move rfl) rfl rfl rfl ?_
              refine JL.val (v := .int .i64 d31) (QV.move rfl) rfl rfl rfl ?_
              refine JL.mv (d := some 49) (MV.lit (E := (Enc.int .i64)) (vals := [(0, .int .i64 d31)]) [d31] Try.underlying25 zi_3 rfl (by decide) rfl (by kernel_rfl)) rfl rfl rfl ?_
              rintro _ _ ⟨z38, rfl, rfl⟩
              obtain ⟨h39, hm⟩ := guard_inv hm
              refine JL.mv (d := some 50) (MV.append 2 rfl (Rdg.of 0 rfl) Try.underlying25 zi_3 rfl (by decide) rfl rfl h39) rfl rfl rfl ?_
              rintro _ _ ⟨z40, rfl, rfl⟩
              refine JL.val (v := z40.v) (QV.assign rfl) rfl rfl rfl ?_
              refine JL.nil ?_
              exact QJ.cut_normal (((d15 ++ [d31]), d17), (z40, z16)) hm [1, 2, 3] (by exact ⟨rfl, rfl, rfl, trivial⟩) rfl rfl
            ·
              refine JC.condF' rfl (decide_eq_false h37) ?_
              refine JC.region ?_
              refine JL.val (v := z16.v) (QV.move rfl) rfl rfl rfl ?_
              refine JL.val (v := .int .i64 d32) (QV.move rfl) rfl rfl rfl ?_
              refine JL.mv (d := some 53) (MV.lit (E := (Enc.int .i64)) (vals := [(0, .int .i64 d32)]) [d32] Try.underlying25 zi_3 rfl (by decide) rfl (by kernel_rfl)) rfl rfl rfl ?_
              rintro _ _ ⟨z41, rfl, rfl⟩
              obtain ⟨h42, hm⟩ := guard_inv hm
              refine JL.mv (d := some 54) (MV.append 3 rfl (Rdg.of 0 rfl) Try.underlying25 zi_3 rfl (by decide) rfl rfl h42) rfl rfl rfl ?_
              rintro _ _ ⟨z43, rfl, rfl⟩
              refine JL.val (v := z43.v) (QV.assign rfl) rfl rfl rfl ?_
              refine JL.nil ?_
              exact QJ.cut_normal ((d15, (d17 ++ [d32])), (z14, z43)) hm [1, 2, 3] (by exact ⟨rfl, rfl, rfl, trivial⟩) rfl rfl
        ·
          refine JC.block ?_
          obtain ⟨y50, hl51, hmo52⟩ := bind_inv hm
          refine JC.loop (F16.b2 x2 d15 d17) (fun x z => match x, z with | (d44, d45, d46), _ => [(0, s1.v), (4, z14.v), (5, z16.v), (6, .int .i64 d44), (7, .int .i64 d45), (17, .int .i64 ((x2).length : Int)), (18, .int .i64 d46)]) (fun x z => match x, z with | (d44, d45, d46), _ => [Asr.vn (NE.sl (Enc.int .i64)) (s1.v) z3 x2, Asr.of 3 (Enc.int .i64) (z14.v) d15, Asr.of 3 (Enc.int .i64) (z16.v) d17]) ((-1 : Int), (-1 : Int), (0 : Int)) () y50 hl51 [0, 1, 2] (by exact ⟨rfl, rfl, rfl, rfl, rfl, rfl, rfl, trivial⟩) rfl rfl ?_
          rintro ⟨d44, d45, d46⟩ ⟨⟩ s53 hm
          unfold F16.b2 at hm
          dsimp only at hm
          show JC _ _ _ [(0, s1.v), (4, z14.v), (5, z16.v), (6, .int .i64 d44), (7, .int .i64 d45), (17, .int .i64 ((x2).length : Int)), (18, .int .i64 d46)] [Asr.vn (NE.sl (Enc.int .i64)) (s1.v) z3 x2, Asr.of 3 (Enc.int .i64) (z14.v) d15, Asr.of 3 (Enc.int .i64) (z16.v) d17] _ _
          refine JC.seq ?_
          refine JC.region ?_
          refine JL.val (v := .bool (decide (d46 < ((x2).length : Int)))) (QV.lss rfl rfl) rfl rfl rfl ?_
          refine JL.nil ?_
          refine QJ.then_normal ?_
          refine JC.seq ?_
          rcases ite_inv hm with ⟨h54, hm⟩ | ⟨h54, hm⟩
          ·
            refine JC.condT' rfl (decide_eq_true h54) ?_
            refine JC.skip ?_
            refine QJ.then_normal ?_
            refine JC.seq ?_
            refine JC.cutK (Y := (Int × Int) × Unit) (fun y => match y with | ((d55, d56), _) => F16.j5 d46 (d55) (d56) = some s53) (fun y => match y with | ((d55, d56), _) => [(0, s1.v), (4, z14.v), (5, z16.v), (6, .int .i64 d55), (7, .int .i64 d56), (17, .int .i64 ((x2).length : Int)), (18, .int .i64 d46)]) (fun y => match y with | ((d55, d56), _) => [Asr.vn (NE.sl (Enc.int .i64)) (s1.v) z3 x2, Asr.of 3 (Enc.int .i64) (z14.v) d15, Asr.of 3 (Enc.int .i64) (z16.v) d17]) ?_ ?_
            ·
              rintro ⟨⟨d55, d56⟩, ⟨⟩⟩ hm
              unfold F16.j5 at hm
              show QJ _ _ [(0, s1.v), (4, z14.v), (5, z16.v), (6, .int .i64 d55), (7, .int .i64 d56), (17, .int .i64 ((x2).length : Int)), (18, .int .i64 d46)] [Asr.vn (NE.sl (Enc.int .i64)) (s1.v) z3 x2, Asr.of 3 (Enc.int .i64) (z14.v) d15, Asr.of 3 (Enc.int .i64) (z16.v) d17] _ _
              refine QJ.then_normal ?_
              refine JC.region ?_
              refine JL.val (v := .int .i64 (IntKind.wrap .i64 (d46 + (1 : Int)))) (QV.add rfl rfl) rfl rfl rfl ?_
              refine JL.val (v := .int .i64 (IntKind.wrap .i64 (d46 + (1 : Int)))) (QV.move rfl) rfl rfl rfl ?_
              refine JL.nil ?_
              obtain rfl := Option.some.inj hm
              exact QJ.round_on (d55, d56, (IntKind.wrap .i64 (d46 + (1 : Int)))) () [0, 1, 2] (by exact ⟨rfl, rfl, rfl, rfl, rfl, rfl, rfl, trivial⟩) rfl rfl
            ·
              refine JC.block ?_
              refine JC.seq ?_
              refine JC.region ?_
              refine JL.val (v := .int .i64 d46) (QV.move rfl) rfl rfl rfl ?_
              refine JL.val (v := .int .i64 d46) (QV.assign rfl) rfl rfl rfl ?_
              refine JL.nil ?_
              refine QJ.then_normal ?_
              refine JC.seq ?_
              refine JC.seq ?_
              refine JC.region ?_
              refine JL.val (v := z14.v) (QV.move rfl) rfl rfl rfl ?_
              refine JL.val (v := .int .i64 d46) (QV.move rfl) rfl rfl rfl ?_
              obtain ⟨y57, hc58, hm⟩ := bind_inv hm
              refine JL.mv (d := some 23) (MV.call (Lo := []) (Lr := [Asr.vn (NE.sl (Enc.int .i64)) (s1.v) z3 x2, Asr.of 3 (Enc.int .i64) (z14.v) d15, Asr.of 3 (Enc.int .i64) (z16.v) d17]) (F44.spec (z14) (d15) (d46) _ hc58) rfl Try.func44 rfl rfl rfl [] [0, 1, 2] rfl rfl rfl ⟨(Drv.of 1 rfl), trivial⟩) rfl rfl rfl ?_
              rintro _ _ ⟨_, ⟨rfl, rfl⟩, rfl⟩
              refine JL.nil ?_
              refine QJ.then_normal ?_
              rcases ite_inv hm with ⟨h59, hm⟩ | ⟨h59, hm⟩
              ·
                refine JC.condT' rfl h59 ?_
                refine JC.exit ?_
                refine QJ.then_exit ?_
                refine QJ.block_hit ?_
                exact QJ.cut_normal ((d44, d45), ()) hm [0, 1, 2] (by exact ⟨rfl, rfl, rfl, rfl, rfl, rfl, rfl, trivial⟩) rfl rfl
              ·
                refine JC.condF' rfl (bfalse h59) ?_
                refine JC.skip ?_
                refine QJ.then_normal ?_
                refine JC.seq ?_
                refine JC.seq ?_
                refine JC.region ?_
                refine JL.val (v := .int .i64 d44) (QV.move rfl) rfl rfl rfl ?_
                refine JL.val (v := .bool (decide (d44 < (0 : Int)))) (QV.lss rfl rfl) rfl rfl rfl ?_
                rcases ite_inv hm with ⟨h60, hm⟩ | ⟨h60, hm⟩
                ·
                  refine JL.val (v := .bool true) (QV.eq (QV.move rfl) (congrArg Value.bool (decide_eq_true h60))) rfl rfl rfl ?_
                  refine JL.val (v := s1.v) (QV.move rfl) rfl rfl rfl ?_
                  refine JL.val (v := z14.v) (QV.move rfl) rfl rfl rfl ?_
                  refine JL.val (v := z16.v) (QV.move rfl) rfl rfl rfl ?_
                  refine JL.val (v := .int .i64 d46) (QV.move rfl) rfl rfl rfl ?_
                  obtain ⟨y61, hc62, hm⟩ := bind_inv hm
                  refine JL.mv (d := some 31) (MV.call (Lo := []) (Lr := [Asr.vn (NE.sl (Enc.int .i64)) (s1.v) z3 x2, Asr.of 3 (Enc.int .i64) (z14.v) d15, Asr.of 3 (Enc.int .i64) (z16.v) d17]) (F45.spec (s1) (z3) (z14) (z16) (x2) (d15) (d17) (d46) _ hc62) rfl Try.func45 rfl rfl rfl [] [0, 1, 2] rfl rfl rfl ⟨(Drv.vn 0 rfl), ⟨(Drv.of 1 rfl), ⟨(Drv.of 2 rfl), trivial⟩⟩⟩) rfl rfl rfl ?_
                  rintro _ _ ⟨_, ⟨rfl, rfl⟩, rfl⟩
                  refine JL.val (v := .bool (!y61)) (QV.not rfl) rfl rfl rfl ?_
                  refine JL.val (v := .bool (!y61)) (QV.pickT rfl rfl) rfl rfl rfl ?_
                  refine JL.nil ?_
                  refine QJ.then_normal ?_
                  refine JC.cutK (Y := Int × Unit) (fun y => match y with | (d63, _) => F16.j6 d17 d45 d46 (d63) = some s53) (fun y => match y with | (d63, _) => [(0, s1.v), (4, z14.v), (5, z16.v), (6, .int .i64 d63), (7, .int .i64 d45), (8, .int .i64 d46), (17, .int .i64 ((x2).length : Int)), (18, .int .i64 d46)]) (fun y => match y with | (d63, _) => [Asr.vn (NE.sl (Enc.int .i64)) (s1.v) z3 x2, Asr.of 3 (Enc.int .i64) (z14.v) d15, Asr.of 3 (Enc.int .i64) (z16.v) d17]) ?_ ?_
                  ·
                    rintro ⟨d63, ⟨⟩⟩ hm
                    unfold F16.j6 at hm
                    show QJ _ _ [(0, s1.v), (4, z14.v), (5, z16.v), (6, .int .i64 d63), (7, .int .i64 d45), (8, .int .i64 d46), (17, .int .i64 ((x2).length : Int)), (18, .int .i64 d46)] [Asr.vn (NE.sl (Enc.int .i64)) (s1.v) z3 x2, Asr.of 3 (Enc.int .i64) (z14.v) d15, Asr.of 3 (Enc.int .i64) (z16.v) d17] _ _
                    refine QJ.then_normal ?_
                    refine JC.seq ?_
                    refine JC.region ?_
                    refine JL.val (v := .int .i64 d45) (QV.move rfl) rfl rfl rfl ?_
                    refine JL.val (v := .bool (decide (d45 < (0 : Int)))) (QV.lss rfl rfl) rfl rfl rfl ?_
                    rcases ite_inv hm with ⟨h64, hm⟩ | ⟨h64, hm⟩
                    ·
                      refine JL.val (v := .bool true) (QV.eq (QV.move rfl) (congrArg Value.bool (decide_eq_true h64))) rfl rfl rfl ?_
                      refine JL.val (v := z16.v) (QV.move rfl) rfl rfl rfl ?_
                      refine JL.val (v := .int .i64 d46) (QV.move rfl) rfl rfl rfl ?_
                      obtain ⟨y65, hc66, hm⟩ := bind_inv hm
                      refine JL.mv (d := some 40) (MV.call (Lo := []) (Lr := [Asr.vn (NE.sl (Enc.int .i64)) (s1.v) z3 x2, Asr.of 3 (Enc.int .i64) (z14.v) d15, Asr.of 3 (Enc.int .i64) (z16.v) d17]) (F44.spec (z16) (d17) (d46) _ hc66) rfl Try.func44 rfl rfl rfl [] [0, 1, 2] rfl rfl rfl ⟨(Drv.of 2 rfl), trivial⟩) rfl rfl rfl ?_
                      rintro _ _ ⟨_, ⟨rfl, rfl⟩, rfl⟩
                      refine JL.val (v := .bool (!y65)) (QV.not rfl) rfl rfl rfl ?_
                      refine JL.val (v := .bool (!y65)) (QV.pickT rfl rfl) rfl rfl rfl ?_
                      refine JL.nil ?_
                      refine QJ.then_normal ?_
                      refine JC.cutK (Y := Int × Unit) (fun y => match y with | (d67, _) => F16.j7 d46 d63 (d67) = some s53) (fun y => match y with | (d67, _) => [(0, s1.v), (4, z14.v), (5, z16.v), (6, .int .i64 d63), (7, .int .i64 d67), (17, .int .i64 ((x2).length : Int)), (18, .int .i64 d46)]) (fun y => match y with | (d67, _) => [Asr.vn (NE.sl (Enc.int .i64)) (s1.v) z3 x2, Asr.of 3 (Enc.int .i64) (z14.v) d15, Asr.of 3 (Enc.int .i64) (z16.v) d17]) ?_ ?_
                      ·
                        rintro ⟨d67, ⟨⟩⟩ hm
                        unfold F16.j7 at hm
                        show QJ _ _ [(0, s1.v), (4, z14.v), (5, z16.v), (6, .int .i64 d63), (7, .int .i64 d67), (17, .int .i64 ((x2).length : Int)), (18, .int .i64 d46)] [Asr.vn (NE.sl (Enc.int .i64)) (s1.v) z3 x2, Asr.of 3 (Enc.int .i64) (z14.v) d15, Asr.of 3 (Enc.int .i64) (z16.v) d17] _ _
                        refine QJ.block_normal ?_
                        exact QJ.cut_normal ((d63, d67), ()) hm [0, 1, 2] (by exact ⟨rfl, rfl, rfl, rfl, rfl, rfl, rfl, trivial⟩) rfl rfl
                      ·
                        rcases ite_inv hm with ⟨h68, hm⟩ | ⟨h68, hm⟩
                        ·
                          refine JC.condF' rfl (congrArg Bool.not h68) ?_
                          refine JC.skip ?_
                          exact QJ.cut_normal (d45, ()) hm [0, 1, 2] (by exact ⟨rfl, rfl, rfl, rfl, rfl, rfl, rfl, trivial⟩) rfl rfl
                        ·
                          refine JC.condT' rfl (congrArg Bool.not (bfalse h68)) ?_
                          refine JC.region ?_
                          refine JL.val (v := .int .i64 d46) (QV.move rfl) rfl rfl rfl ?_
                          refine JL.val (v := .int .i64 d46) (QV.assign rfl) rfl rfl rfl ?_
                          refine JL.nil ?_
                          exact QJ.cut_normal (d46, ()) hm [0, 1, 2] (by exact ⟨rfl, rfl, rfl, rfl, rfl, rfl, rfl, trivial⟩) rfl rfl
                    ·
                      refine JL.val (v := .bool false) (QV.eq (QV.move rfl) (congrArg Value.bool (decide_eq_false h64))) rfl rfl rfl ?_
                      refine JL.skip (d := some 38) rfl rfl rfl ?_
                      refine JL.skip (d := some 39) rfl rfl rfl ?_
                      refine JL.skip (d := some 40) rfl rfl rfl ?_
                      refine JL.skip (d := some 41) rfl rfl rfl ?_
                      refine JL.val (v := .bool false) (QV.pickF rfl rfl) rfl rfl rfl ?_
                      refine JL.nil ?_
                      refine QJ.then_normal ?_
                      refine JC.condF rfl ?_
                      refine JC.skip ?_
                      refine QJ.block_normal ?_
                      exact QJ.cut_normal ((d63, d45), ()) hm [0, 1, 2] (by exact ⟨rfl, rfl, rfl, rfl, rfl, rfl, rfl, trivial⟩) rfl rfl
                  ·
                    rcases ite_inv hm with ⟨h69, hm⟩ | ⟨h69, hm⟩
                    ·
                      refine JC.condF' rfl (congrArg Bool.not h69) ?_
                      refine JC.skip ?_
                      exact QJ.cut_normal (d44, ()) hm [0, 1, 2] (by exact ⟨rfl, rfl, rfl, rfl, rfl, rfl, rfl, rfl, trivial⟩) rfl rfl
                    ·
                      refine JC.condT' rfl (congrArg Bool.not (bfalse h69)) ?_
                      refine JC.region ?_
                      refine JL.val (v := .int .i64 d46) (QV.move rfl) rfl rfl rfl ?_
                      refine JL.val (v := .int .i64 d46) (QV.assign rfl) rfl rfl rfl ?_
                      refine JL.nil ?_
                      exact QJ.cut_normal (d46, ()) hm [0, 1, 2] (by exact ⟨rfl, rfl, rfl, rfl, rfl, rfl, rfl, rfl, trivial⟩) rfl rfl
                ·
                  refine JL.val (v := .bool false) (QV.eq (QV.move rfl) (congrArg Value.bool (decide_eq_false h60))) rfl rfl rfl ?_
                  refine JL.skip (d := some 27) rfl rfl rfl ?_
                  refine JL.skip (d := some 28) rfl rfl rfl ?_
                  refine JL.skip (d := some 29) rfl rfl rfl ?_
                  refine JL.skip (d := some 30) rfl rfl rfl ?_
                  refine JL.skip (d := some 31) rfl rfl rfl ?_
                  refine JL.skip (d := some 32) rfl rfl rfl ?_
                  refine JL.val (v := .bool false) (QV.pickF rfl rfl) rfl rfl rfl ?_
                  refine JL.nil ?_
                  refine QJ.then_normal ?_
                  refine JC.condF rfl ?_
                  refine JC.skip ?_
                  refine QJ.then_normal ?_
                  refine JC.seq ?_
                  refine JC.region ?_
                  refine JL.val (v := .int .i64 d45) (QV.move rfl) rfl rfl rfl ?_
                  refine JL.val (v := .bool (decide (d45 < (0 : Int)))) (QV.lss rfl rfl) rfl rfl rfl ?_
                  rcases ite_inv hm with ⟨h70, hm⟩ | ⟨h70, hm⟩
                  ·
                    refine JL.val (v := .bool true) (QV.eq (QV.move rfl) (congrArg Value.bool (decide_eq_true h70))) rfl rfl rfl ?_
                    refine JL.val (v := z16.v) (QV.move rfl) rfl rfl rfl ?_
                    refine JL.val (v := .int .i64 d46) (QV.move rfl) rfl rfl rfl ?_
                    obtain ⟨y71, hc72, hm⟩ := bind_inv hm
                    refine JL.mv (d := some 40) (MV.call (Lo := []) (Lr := [Asr.vn (NE.sl (Enc.int .i64)) (s1.v) z3 x2, Asr.of 3 (Enc.int .i64) (z14.v) d15, Asr.of 3 (Enc.int .i64) (z16.v) d17]) (F44.spec (z16) (d17) (d46) _ hc72) rfl Try.func44 rfl rfl rfl [] [0, 1, 2] rfl rfl rfl ⟨(Drv.of 2 rfl), trivial⟩) rfl rfl rfl ?_
                    rintro _ _ ⟨_, ⟨rfl, rfl⟩, rfl⟩
                    refine JL.val (v := .bool (!y71)) (QV.not rfl) rfl rfl rfl ?_
                    refine JL.val (v := .bool (!y71)) (QV.pickT rfl rfl) rfl rfl rfl ?_
                    refine JL.nil ?_
                    refine QJ.then_normal ?_
                    refine JC.cutK (Y := Int × Unit) (fun y => match y with | (d73, _) => F16.j8 d44 d46 (d73) = some s53) (fun y => match y with | (d73, _) => [(0, s1.v), (4, z14.v), (5, z16.v), (6, .int .i64 d44), (7, .int .i64 d73), (17, .int .i64 ((x2).length : Int)), (18, .int .i64 d46)]) (fun y => match y with | (d73, _) => [Asr.vn (NE.sl (Enc.int .i64)) (s1.v) z3 x2, Asr.of 3 (Enc.int .i64) (z14.v) d15, Asr.of 3 (Enc.int .i64) (z16.v) d17]) ?_ ?_
                    ·
                      rintro ⟨d73, ⟨⟩⟩ hm
                      unfold F16.j8 at hm
                      show QJ _ _ [(0, s1.v), (4, z14.v), (5, z16.v), (6, .int .i64 d44), (7, .int .i64 d73), (17, .int .i64 ((x2).length : Int)), (18, .int .i64 d46)] [Asr.vn (NE.sl (Enc.int .i64)) (s1.v) z3 x2, Asr.of 3 (Enc.int .i64) (z14.v) d15, Asr.of 3 (Enc.int .i64) (z16.v) d17] _ _
                      refine QJ.block_normal ?_
                      exact QJ.cut_normal ((d44, d73), ()) hm [0, 1, 2] (by exact ⟨rfl, rfl, rfl, rfl, rfl, rfl, rfl, trivial⟩) rfl rfl
                    ·
                      rcases ite_inv hm with ⟨h74, hm⟩ | ⟨h74, hm⟩
                      ·
                        refine JC.condF' rfl (congrArg Bool.not h74) ?_
                        refine JC.skip ?_
                        exact QJ.cut_normal (d45, ()) hm [0, 1, 2] (by exact ⟨rfl, rfl, rfl, rfl, rfl, rfl, rfl, trivial⟩) rfl rfl
                      ·
                        refine JC.condT' rfl (congrArg Bool.not (bfalse h74)) ?_
                        refine JC.region ?_
                        refine JL.val (v := .int .i64 d46) (QV.move rfl) rfl rfl rfl ?_
                        refine JL.val (v := .int .i64 d46) (QV.assign rfl) rfl rfl rfl ?_
                        refine JL.nil ?_
                        exact QJ.cut_normal (d46, ()) hm [0, 1, 2] (by exact ⟨rfl, rfl, rfl, rfl, rfl, rfl, rfl, trivial⟩) rfl rfl
                  ·
                    refine JL.val (v := .bool false) (QV.eq (QV.move rfl) (congrArg Value.bool (decide_eq_false h70))) rfl rfl rfl ?_
                    refine JL.skip (d := some 38) rfl rfl rfl ?_
                    refine JL.skip (d := some 39) rfl rfl rfl ?_
                    refine JL.skip (d := some 40) rfl rfl rfl ?_
                    refine JL.skip (d := some 41) rfl rfl rfl ?_
                    refine JL.val (v := .bool false) (QV.pickF rfl rfl) rfl rfl rfl ?_
                    refine JL.nil ?_
                    refine QJ.then_normal ?_
                    refine JC.condF rfl ?_
                    refine JC.skip ?_
                    refine QJ.block_normal ?_
                    exact QJ.cut_normal ((d44, d45), ()) hm [0, 1, 2] (by exact ⟨rfl, rfl, rfl, rfl, rfl, rfl, rfl, trivial⟩) rfl rfl
          ·
            refine JC.condF' rfl (decide_eq_false h54) ?_
            refine JC.exit ?_
            refine QJ.then_exit ?_
            obtain rfl := Option.some.inj hm
            refine QJ.round_exit (fun hy => ?_)
            subst hy
            refine QJ.block_hit ?_
            exact QJ.cut_normal ((d44, d45), ()) hmo52 [0, 1, 2] (by exact ⟨rfl, rfl, rfl, rfl, rfl, trivial⟩) rfl rfl
    ·
      refine JC.condF' rfl (decide_eq_false h26) ?_
      refine JC.exit ?_
      refine QJ.then_exit ?_
      obtain rfl := Option.some.inj hm
      refine QJ.round_exit (fun hy => ?_)
      subst hy
      refine QJ.block_hit ?_
      exact QJ.cut_normal ((d15, d17), (z14, z16)) hmo24 [1, 2] (by exact ⟨rfl, rfl, trivial⟩) rfl rfl

/-! ### 4: drogher/drogherlaw19.OrderOf -/
noncomputable def F4.m (x2 : List (List Int)) : Option Bool :=
  ((F11.m (x2)).bind fun y5 => (if y5 = true then ((F12.m).bind fun y8 => some y8) else ((F13.m (x2)).bind fun y10 => ((F15.m (x2)).bind fun y14 => (if y14 = true then ((F16.m (x2)).bind fun y17 => (if y10.2.2 = (0 : Int) then ((F17.m (y10.1) (y17.1)).bind fun y22 => (if y22 = true then ((F17.m (y10.2.1) (y17.2)).bind fun y25 => (if y25 = true then ((F18.m (x2) (y10.1) (y10.2.1)).bind fun y28 => (if y28 = true then ((F12.m).bind fun y31 => some y31) else some false)) else some false)) else some false)) else some false)) else (if ((y10.1).length : Int) = (0 : Int) then (if ((y10.2.1).length : Int) = (0 : Int) then (if y10.2.2 = (3 : Int) then ((F12.m).bind fun y36 => some y36) else some false) else some false) else some false))))))
set_option maxRecDepth 100000 in
set_option maxHeartbeats 4000000 in
theorem F4.spec (s1 : SlV) (z3 : List SlV) (x2 : List (List Int)) (r : Bool) (hm : F4.m x2 = some r) :
    Ctr Try.prog false 4 [s1.v] [Asr.vn (NE.sl (Enc.int .i64)) (s1.v) z3 x2] (fun v L' => v = .bool r ∧ L' = []) := by
  refine Ctr.intro (n := 61) (env := [(0, s1.v)]) Try.func4 rfl rfl rfl rfl (fun c => ?_)
  unfold F4.m at hm
  refine JC.seq ?_
  refine JC.region ?_
  refine JL.val (v := .bool false) (QV.assign rfl) rfl rfl rfl ?_
  refine JL.nil ?_
  refine QJ.then_normal ?_
  refine JC.seq ?_
  refine JC.seq ?_
  refine JC.region ?_
  refine JL.val (v := s1.v) (QV.move rfl) rfl rfl rfl ?_
  obtain ⟨y5, hc6, hm⟩ := bind_inv hm
  refine JL.mv (d := some 9) (MV.call (Lo := []) (Lr := [Asr.vn (NE.sl (Enc.int .i64)) (s1.v) z3 x2]) (F11.spec (s1) (z3) (x2) _ hc6) rfl Try.func11 rfl rfl rfl [] [0] rfl rfl rfl ⟨(Drv.vn 0 rfl), trivial⟩) rfl rfl rfl ?_
  rintro _ _ ⟨_, ⟨rfl, rfl⟩, rfl⟩
  refine JL.nil ?_
  refine QJ.then_normal ?_
  rcases ite_inv hm with ⟨h7, hm⟩ | ⟨h7, hm⟩
  ·
    refine JC.condT' rfl h7 ?_
    refine JC.seq ?_
    refine JC.region ?_
    obtain ⟨y8, hc9, hm⟩ := bind_inv hm
    refine JL.mv (d := some 10) (MV.call (Lo := []) (Lr := [Asr.vn (NE.sl (Enc.int .i64)) (s1.v) z3 x2]) (F12.spec _ hc9) rfl Try.func12 rfl rfl rfl [] [0] rfl rfl rfl trivial) rfl rfl rfl ?_
    rintro _ _ ⟨_, ⟨rfl, rfl⟩, rfl⟩
    refine JL.val (v := .bool y8) (QV.assign rfl) rfl rfl rfl ?_
    refine JL.nil ?_
    refine QJ.then_normal ?_
    refine JC.ret ?_
    refine QJ.then_ret ?_
    obtain rfl := Option.some.inj hm
    exact QJ.body (vs := [.bool y8]) (.inl rfl) rfl (ResVs.cons (ResV.tmp rfl) ResVs.nil) [] rfl rfl (.inr trivial) ⟨rfl, rfl⟩
  ·
    refine JC.condF' rfl (bfalse h7) ?_
    refine JC.skip ?_
    refine QJ.then_normal ?_
    refine JC.seq ?_
    refine JC.region ?_
    refine JL.val (v := s1.v) (QV.move rfl) rfl rfl rfl ?_
    obtain ⟨y10, hc11, hm⟩ := bind_inv hm
    refine JL.mv (d := some 13) (MV.call (Lo := []) (Lr := [Asr.vn (NE.sl (Enc.int .i64)) (s1.v) z3 x2]) (F13.spec (s1) (z3) (x2) _ hc11) rfl Try.func13 rfl rfl rfl [] [0] rfl rfl rfl ⟨(Drv.vn 0 rfl), trivial⟩) rfl rfl rfl ?_
    rintro _ _ ⟨_, ⟨z12, z13, rfl, rfl⟩, rfl⟩
    refine JL.val (v := .tuple #[z12.v, z13.v, .int .i64 y10.2.2]) (QV.move rfl) rfl rfl rfl ?_
    refine JL.val (v := z12.v) (QV.extract (vs := [z12.v, z13.v, .int .i64 y10.2.2]) rfl rfl) rfl rfl rfl ?_
    refine JL.val (v := z13.v) (QV.extract (vs := [z12.v, z13.v, .int .i64 y10.2.2]) rfl rfl) rfl rfl rfl ?_
    refine JL.val (v := .int .i64 y10.2.2) (QV.extract (vs := [z12.v, z13.v, .int .i64 y10.2.2]) rfl rfl) rfl rfl rfl ?_
    refine JL.val (v := z12.v) (QV.assign rfl) rfl rfl rfl ?_
    refine JL.val (v := z13.v) (QV.assign rfl) rfl rfl rfl ?_
    refine JL.val (v := .int .i64 y10.2.2) (QV.assign rfl) rfl rfl rfl ?_
    refine JL.nil ?_
    refine QJ.then_normal ?_
    refine JC.seq ?_
    refine JC.seq ?_
    refine JC.region ?_
    refine JL.val (v := s1.v) (QV.move rfl) rfl rfl rfl ?_
    obtain ⟨y14, hc15, hm⟩ := bind_inv hm
    refine JL.mv (d := some 18) (MV.call (Lo := []) (Lr := [Asr.of 3 (Enc.int .i64) (z12.v) y10.1, Asr.of 3 (Enc.int .i64) (z13.v) y10.2.1, Asr.vn (NE.sl (Enc.int .i64)) (s1.v) z3 x2]) (F15.spec (s1) (z3) (x2) _ hc15) rfl Try.func15 rfl rfl rfl [] [0, 1, 2] rfl rfl rfl ⟨(Drv.vn 2 rfl), trivial⟩) rfl rfl rfl ?_
    rintro _ _ ⟨_, ⟨rfl, rfl⟩, rfl⟩
    refine JL.val (v := .bool (!y14)) (QV.not rfl) rfl rfl rfl ?_
    refine JL.nil ?_
    refine QJ.then_normal ?_
    rcases ite_inv hm with ⟨h16, hm⟩ | ⟨h16, hm⟩
    ·
      refine JC.condF' rfl (congrArg Bool.not h16) ?_
      refine JC.skip ?_
      refine QJ.then_normal ?_
      refine JC.seq ?_
      refine JC.region ?_
      refine JL.val (v := s1.v) (QV.move rfl) rfl rfl rfl ?_
      obtain ⟨y17, hc18, hm⟩ := bind_inv hm
      refine JL.mv (d := some 37) (MV.call (Lo := []) (Lr := [Asr.of 3 (Enc.int .i64) (z12.v) y10.1, Asr.of 3 (Enc.int .i64) (z13.v) y10.2.1, Asr.vn (NE.sl (Enc.int .i64)) (s1.v) z3 x2]) (F16.spec (s1) (z3) (x2) _ hc18) rfl Try.func16 rfl rfl rfl [] [0, 1, 2] rfl rfl rfl ⟨(Drv.vn 2 rfl), trivial⟩) rfl rfl rfl ?_
      rintro _ _ ⟨_, ⟨z19, z20, rfl, rfl⟩, rfl⟩
      refine JL.val (v := .tuple #[z19.v, z20.v]) (QV.move rfl) rfl rfl rfl ?_
      refine JL.val (v := z19.v) (QV.extract (vs := [z19.v, z20.v]) rfl rfl) rfl rfl rfl ?_
      refine JL.val (v := z20.v) (QV.extract (vs := [z19.v, z20.v]) rfl rfl) rfl rfl rfl ?_
      refine JL.val (v := z19.v) (QV.assign rfl) rfl rfl rfl ?_
      refine JL.val (v := z20.v) (QV.assign rfl) rfl rfl rfl ?_
      refine JL.nil ?_
      refine QJ.then_normal ?_
      refine JC.seq ?_
      refine JC.region ?_
      refine JL.val (v := .int .i64 y10.2.2) (QV.move rfl) rfl rfl rfl ?_
      refine JL.val (v := .bool (decide (y10.2.2 = (0 : Int)))) (QV.eql rfl rfl) rfl rfl rfl ?_
      rcases ite_inv hm with ⟨h21, hm⟩ | ⟨h21, hm⟩
      ·
        refine JL.val (v := .bool true) (QV.eq (QV.move rfl) (congrArg Value.bool (decide_eq_true h21))) rfl rfl rfl ?_
        refine JL.val (v := z12.v) (QV.move rfl) rfl rfl rfl ?_
        refine JL.val (v := z19.v) (QV.move rfl) rfl rfl rfl ?_
        obtain ⟨y22, hc23, hm⟩ := bind_inv hm
        refine JL.mv (d := some 45) (MV.call (Lo := []) (Lr := [Asr.of 3 (Enc.int .i64) (z19.v) y17.1, Asr.of 3 (Enc.int .i64) (z20.v) y17.2, Asr.of 3 (Enc.int .i64) (z12.v) y10.1, Asr.of 3 (Enc.int .i64) (z13.v) y10.2.1, Asr.vn (NE.sl (Enc.int .i64)) (s1.v) z3 x2]) (F17.spec (z12) (z19) (y10.1) (y17.1) _ hc23) rfl Try.func17 rfl rfl rfl [] [0, 1, 2, 3, 4] rfl rfl rfl ⟨(Drv.of 2 rfl), ⟨(Drv.of 0 rfl), trivial⟩⟩) rfl rfl rfl ?_
        rintro _ _ ⟨_, ⟨rfl, rfl⟩, rfl⟩
        refine JL.val (v := .bool y22) (QV.pickT rfl rfl) rfl rfl rfl ?_
        rcases ite_inv hm with ⟨h24, hm⟩ | ⟨h24, hm⟩
        ·
          refine JL.val (v := .bool true) (QV.eq (QV.move rfl) (congrArg Value.bool h24)) rfl rfl rfl ?_
          refine JL.val (v := z13.v) (QV.move rfl) rfl rfl rfl ?_
          refine JL.val (v := z20.v) (QV.move rfl) rfl rfl rfl ?_
          obtain ⟨y25, hc26, hm⟩ := bind_inv hm
          refine JL.mv (d := some 50) (MV.call (Lo := []) (Lr := [Asr.of 3 (Enc.int .i64) (z19.v) y17.1, Asr.of 3 (Enc.int .i64) (z20.v) y17.2, Asr.of 3 (Enc.int .i64) (z12.v) y10.1, Asr.of 3 (Enc.int .i64) (z13.v) y10.2.1, Asr.vn (NE.sl (Enc.int .i64)) (s1.v) z3 x2]) (F17.spec (z13) (z20) (y10.2.1) (y17.2) _ hc26) rfl Try.func17 rfl rfl rfl [] [0, 1, 2, 3, 4] rfl rfl rfl ⟨(Drv.of 3 rfl), ⟨(Drv.of 1 rfl), trivial⟩⟩) rfl rfl rfl ?_
          rintro _ _ ⟨_, ⟨rfl, rfl⟩, rfl⟩
          refine JL.val (v := .bool y25) (QV.pickT rfl rfl) rfl rfl rfl ?_
          rcases ite_inv hm with ⟨h27, hm⟩ | ⟨h27, hm⟩
          ·
            refine JL.val (v := .bool true) (QV.eq (QV.move rfl) (congrArg Value.bool h27)) rfl rfl rfl ?_
            refine JL.val (v := s1.v) (QV.move rfl) rfl rfl rfl ?_
            refine JL.val (v := z12.v) (QV.move rfl) rfl rfl rfl ?_
            refine JL.val (v := z13.v) (QV.move rfl) rfl rfl rfl ?_
            obtain ⟨y28, hc29, hm⟩ := bind_inv hm
            refine JL.mv (d := some 56) (MV.call (Lo := []) (Lr := [Asr.of 3 (Enc.int .i64) (z19.v) y17.1, Asr.of 3 (Enc.int .i64) (z20.v) y17.2, Asr.of 3 (Enc.int .i64) (z12.v) y10.1, Asr.of 3 (Enc.int .i64) (z13.v) y10.2.1, Asr.vn (NE.sl (Enc.int .i64)) (s1.v) z3 x2]) (F18.spec (s1) (z3) (z12) (z13) (x2) (y10.1) (y10.2.1) _ hc29) rfl Try.func18 rfl rfl rfl [] [0, 1, 2, 3, 4] rfl rfl rfl ⟨(Drv.vn 4 rfl), ⟨(Drv.of 2 rfl), ⟨(Drv.of 3 rfl), trivial⟩⟩⟩) rfl rfl rfl ?_
            rintro _ _ ⟨_, ⟨rfl, rfl⟩, rfl⟩
            refine JL.val (v := .bool y28) (QV.pickT rfl rfl) rfl rfl rfl ?_
            rcases ite_inv hm with ⟨h30, hm⟩ | ⟨h30, hm⟩
            ·
              refine JL.val (v := .bool true) (QV.eq (QV.move rfl) (congrArg Value.bool h30)) rfl rfl rfl ?_
              obtain ⟨y31, hc32, hm⟩ := bind_inv hm
              refine JL.mv (d := some 59) (MV.call (Lo := []) (Lr := [Asr.of 3 (Enc.int .i64) (z19.v) y17.1, Asr.of 3 (Enc.int .i64) (z20.v) y17.2, Asr.of 3 (Enc.int .i64) (z12.v) y10.1, Asr.of 3 (Enc.int .i64) (z13.v) y10.2.1, Asr.vn (NE.sl (Enc.int .i64)) (s1.v) z3 x2]) (F12.spec _ hc32) rfl Try.func12 rfl rfl rfl [] [0, 1, 2, 3, 4] rfl rfl rfl trivial) rfl rfl rfl ?_
              rintro _ _ ⟨_, ⟨rfl, rfl⟩, rfl⟩
              refine JL.val (v := .bool y31) (QV.pickT rfl rfl) rfl rfl rfl ?_
              refine JL.val (v := .bool y31) (QV.assign rfl) rfl rfl rfl ?_
              refine JL.nil ?_
              refine QJ.then_normal ?_
              refine JC.ret ?_
              obtain rfl := Option.some.inj hm
              exact QJ.body (vs := [.bool y31]) (.inl rfl) rfl (ResVs.cons (ResV.tmp rfl) ResVs.nil) [] rfl rfl (.inr trivial) ⟨rfl, rfl⟩
            ·
              refine JL.val (v := .bool false) (QV.eq (QV.move rfl) (congrArg Value.bool (bfalse h30))) rfl rfl rfl ?_
              refine JL.skip (d := some 59) rfl rfl rfl ?_
              refine JL.val (v := .bool false) (QV.pickF rfl rfl) rfl rfl rfl ?_
              refine JL.val (v := .bool false) (QV.assign rfl) rfl rfl rfl ?_
              refine JL.nil ?_
              refine QJ.then_normal ?_
              refine JC.ret ?_
              obtain rfl := Option.some.inj hm
              exact QJ.body (vs := [.bool false]) (.inl rfl) rfl (ResVs.cons (ResV.tmp rfl) ResVs.nil) [] rfl rfl (.inr trivial) ⟨rfl, rfl⟩
          ·
            refine JL.val (v := .bool false) (QV.eq (QV.move rfl) (congrArg Value.bool (bfalse h27))) rfl rfl rfl ?_
            refine JL.skip (d := some 53) rfl rfl rfl ?_
            refine JL.skip (d := some 54) rfl rfl rfl ?_
            refine JL.skip (d := some 55) rfl rfl rfl ?_
            refine JL.skip (d := some 56) rfl rfl rfl ?_
            refine JL.val (v := .bool false) (QV.pickF rfl rfl) rfl rfl rfl ?_
            refine JL.val (v := .bool false) (QV.move rfl) rfl rfl rfl ?_
            refine JL.skip (d := some 59) rfl rfl rfl ?_
            refine JL.val (v := .bool false) (QV.pickF rfl rfl) rfl rfl rfl ?_
            refine JL.val (v := .bool false) (QV.assign rfl) rfl rfl rfl ?_
            refine JL.nil ?_
            refine QJ.then_normal ?_
            refine JC.ret ?_
            obtain rfl := Option.some.inj hm
            exact QJ.body (vs := [.bool false]) (.inl rfl) rfl (ResVs.cons (ResV.tmp rfl) ResVs.nil) [] rfl rfl (.inr trivial) ⟨rfl, rfl⟩
        ·
          refine JL.val (v := .bool false) (QV.eq (QV.move rfl) (congrArg Value.bool (bfalse h24))) rfl rfl rfl ?_
          refine JL.skip (d := some 48) rfl rfl rfl ?_
          refine JL.skip (d := some 49) rfl rfl rfl ?_
          refine JL.skip (d := some 50) rfl rfl rfl ?_
          refine JL.val (v := .bool false) (QV.pickF rfl rfl) rfl rfl rfl ?_
          refine JL.val (v := .bool false) (QV.move rfl) rfl rfl rfl ?_
          refine JL.skip (d := some 53) rfl rfl rfl ?_
          refine JL.skip (d := some 54) rfl rfl rfl ?_
          refine JL.skip (d := some 55) rfl rfl rfl ?_
          refine JL.skip (d := some 56) rfl rfl rfl ?_
          refine JL.val (v := .bool false) (QV.pickF rfl rfl) rfl rfl rfl ?_
          refine JL.val (v := .bool false) (QV.move rfl) rfl rfl rfl ?_
          refine JL.skip (d := some 59) rfl rfl rfl ?_
          refine JL.val (v := .bool false) (QV.pickF rfl rfl) rfl rfl rfl ?_
          refine JL.val (v := .bool false) (QV.assign rfl) rfl rfl rfl ?_
          refine JL.nil ?_
          refine QJ.then_normal ?_
          refine JC.ret ?_
          obtain rfl := Option.some.inj hm
          exact QJ.body (vs := [.bool false]) (.inl rfl) rfl (ResVs.cons (ResV.tmp rfl) ResVs.nil) [] rfl rfl (.inr trivial) ⟨rfl, rfl⟩
      ·
        refine JL.val (v := .bool false) (QV.eq (QV.move rfl) (congrArg Value.bool (decide_eq_false h21))) rfl rfl rfl ?_
        refine JL.skip (d := some 43) rfl rfl rfl ?_
        refine JL.skip (d := some 44) rfl rfl rfl ?_
        refine JL.skip (d := some 45) rfl rfl rfl ?_
        refine JL.val (v := .bool false) (QV.pickF rfl rfl) rfl rfl rfl ?_
        refine JL.val (v := .bool false) (QV.move rfl) rfl rfl rfl ?_
        refine JL.skip (d := some 48) rfl rfl rfl ?_
        refine JL.skip (d := some 49) rfl rfl rfl ?_
        refine JL.skip (d := some 50) rfl rfl rfl ?_
        refine JL.val (v := .bool false) (QV.pickF rfl rfl) rfl rfl rfl ?_
        refine JL.val (v := .bool false) (QV.move rfl) rfl rfl rfl ?_
        refine JL.skip (d := some 53) rfl rfl rfl ?_
        refine JL.skip (d := some 54) rfl rfl rfl ?_
        refine JL.skip (d := some 55) rfl rfl rfl ?_
        refine JL.skip (d := some 56) rfl rfl rfl ?_
        refine JL.val (v := .bool false) (QV.pickF rfl rfl) rfl rfl rfl ?_
        refine JL.val (v := .bool false) (QV.move rfl) rfl rfl rfl ?_
        refine JL.skip (d := some 59) rfl rfl rfl ?_
        refine JL.val (v := .bool false) (QV.pickF rfl rfl) rfl rfl rfl ?_
        refine JL.val (v := .bool false) (QV.assign rfl) rfl rfl rfl ?_
        refine JL.nil ?_
        refine QJ.then_normal ?_
        refine JC.ret ?_
        obtain rfl := Option.some.inj hm
        exact QJ.body (vs := [.bool false]) (.inl rfl) rfl (ResVs.cons (ResV.tmp rfl) ResVs.nil) [] rfl rfl (.inr trivial) ⟨rfl, rfl⟩
    ·
      refine JC.condT' rfl (congrArg Bool.not (bfalse h16)) ?_
      refine JC.seq ?_
      refine JC.region ?_
      refine JL.val (v := z12.v) (QV.move rfl) rfl rfl rfl ?_
      refine JL.val (v := .int .i64 ((y10.1).length : Int)) (QV.len (Rdg.of 0 rfl) Try.underlying25 rfl) rfl rfl rfl ?_
      refine JL.val (v := .bool (decide (((y10.1).length : Int) = (0 : Int)))) (QV.eql rfl rfl) rfl rfl rfl ?_
      rcases ite_inv hm with ⟨h33, hm⟩ | ⟨h33, hm⟩
      ·
        refine JL.val (v := .bool true) (QV.eq (QV.move rfl) (congrArg Value.bool (decide_eq_true h33))) rfl rfl rfl ?_
        refine JL.val (v := z13.v) (QV.move rfl) rfl rfl rfl ?_
        refine JL.val (v := .int .i64 ((y10.2.1).length : Int)) (QV.len (Rdg.of 1 rfl) Try.underlying25 rfl) rfl rfl rfl ?_
        refine JL.val (v := .bool (decide (((y10.2.1).length : Int) = (0 : Int)))) (QV.eql rfl rfl) rfl rfl rfl ?_
        refine JL.val (v := .bool (decide (((y10.2.1).length : Int) = (0 : Int)))) (QV.pickT rfl rfl) rfl rfl rfl ?_
        rcases ite_inv hm with ⟨h34, hm⟩ | ⟨h34, hm⟩
        ·
          refine JL.val (v := .bool true) (QV.eq (QV.move rfl) (congrArg Value.bool (decide_eq_true h34))) rfl rfl rfl ?_
          refine JL.val (v := .int .i64 y10.2.2) (QV.move rfl) rfl rfl rfl ?_
          refine JL.val (v := .bool (decide (y10.2.2 = (3 : Int)))) (QV.eql rfl rfl) rfl rfl rfl ?_
          refine JL.val (v := .bool (decide (y10.2.2 = (3 : Int)))) (QV.pickT rfl rfl) rfl rfl rfl ?_
          rcases ite_inv hm with ⟨h35, hm⟩ | ⟨h35, hm⟩
          ·
            refine JL.val (v := .bool true) (QV.eq (QV.move rfl) (congrArg Value.bool (decide_eq_true h35))) rfl rfl rfl ?_
            obtain ⟨y36, hc37, hm⟩ := bind_inv hm
            refine JL.mv (d := some 33) (MV.call (Lo := []) (Lr := [Asr.of 3 (Enc.int .i64) (z12.v) y10.1, Asr.of 3 (Enc.int .i64) (z13.v) y10.2.1, Asr.vn (NE.sl (Enc.int .i64)) (s1.v) z3 x2]) (F12.spec _ hc37) rfl Try.func12 rfl rfl rfl [] [0, 1, 2] rfl rfl rfl trivial) rfl rfl rfl ?_
            rintro _ _ ⟨_, ⟨rfl, rfl⟩, rfl⟩
            refine JL.val (v := .bool y36) (QV.pickT rfl rfl) rfl rfl rfl ?_
            refine JL.val (v := .bool y36) (QV.assign rfl) rfl rfl rfl ?_
            refine JL.nil ?_
            refine QJ.then_normal ?_
            refine JC.ret ?_
            refine QJ.then_ret ?_
            obtain rfl := Option.some.inj hm
            exact QJ.body (vs := [.bool y36]) (.inl rfl) rfl (ResVs.cons (ResV.tmp rfl) ResVs.nil) [] rfl rfl (.inr trivial) ⟨rfl, rfl⟩
          ·
            refine JL.val (v := .bool false) (QV.eq (QV.move rfl) (congrArg Value.bool (decide_eq_false h35))) rfl rfl rfl ?_
            refine JL.skip (d := some 33) rfl rfl rfl ?_
            refine JL.val (v := .bool false) (QV.pickF rfl rfl) rfl rfl rfl ?_
            refine JL.val (v := .bool false) (QV.assign rfl) rfl rfl rfl ?_
            refine JL.nil ?_
            refine QJ.then_normal ?_
            refine JC.ret ?_
            refine QJ.then_ret ?_
            obtain rfl := Option.some.inj hm
            exact QJ.body (vs := [.bool false]) (.inl rfl) rfl (ResVs.cons (ResV.tmp rfl) ResVs.nil) [] rfl rfl (.inr trivial) ⟨rfl, rfl⟩
        ·
          refine JL.val (v := .bool false) (QV.eq (QV.move rfl) (congrArg Value.bool (decide_eq_false h34))) rfl rfl rfl ?_
          refine JL.skip (d := some 29) rfl rfl rfl ?_
          refine JL.skip (d := some 30) rfl rfl rfl ?_
          refine JL.val (v := .bool false) (QV.pickF rfl rfl) rfl rfl rfl ?_
          refine JL.val (v := .bool false) (QV.move rfl) rfl rfl rfl ?_
          refine JL.skip (d := some 33) rfl rfl rfl ?_
          refine JL.val (v := .bool false) (QV.pickF rfl rfl) rfl rfl rfl ?_
          refine JL.val (v := .bool false) (QV.assign rfl) rfl rfl rfl ?_
          refine JL.nil ?_
          refine QJ.then_normal ?_
          refine JC.ret ?_
          refine QJ.then_ret ?_
          obtain rfl := Option.some.inj hm
          exact QJ.body (vs := [.bool false]) (.inl rfl) rfl (ResVs.cons (ResV.tmp rfl) ResVs.nil) [] rfl rfl (.inr trivial) ⟨rfl, rfl⟩
      ·
        refine JL.val (v := .bool false) (QV.eq (QV.move rfl) (congrArg Value.bool (decide_eq_false h33))) rfl rfl rfl ?_
        refine JL.skip (d := some 24) rfl rfl rfl ?_
        refine JL.skip (d := some 25) rfl rfl rfl ?_
        refine JL.skip (d := some 26) rfl rfl rfl ?_
        refine JL.val (v := .bool false) (QV.pickF rfl rfl) rfl rfl rfl ?_
        refine JL.val (v := .bool false) (QV.move rfl) rfl rfl rfl ?_
        refine JL.skip (d := some 29) rfl rfl rfl ?_
        refine JL.skip (d := some 30) rfl rfl rfl ?_
        refine JL.val (v := .bool false) (QV.pickF rfl rfl) rfl rfl rfl ?_
        refine JL.val (v := .bool false) (QV.move rfl) rfl rfl rfl ?_
        refine JL.skip (d := some 33) rfl rfl rfl ?_
        refine JL.val (v := .bool false) (QV.pickF rfl rfl) rfl rfl rfl ?_
        refine JL.val (v := .bool false) (QV.assign rfl) rfl rfl rfl ?_
        refine JL.nil ?_
        refine QJ.then_normal ?_
        refine JC.ret ?_
        refine QJ.then_ret ?_
        obtain rfl := Option.some.inj hm
        exact QJ.body (vs := [.bool false]) (.inl rfl) rfl (ResVs.cons (ResV.tmp rfl) ResVs.nil) [] rfl rfl (.inr trivial) ⟨rfl, rfl⟩

end Go.Proofs.Ytgganckggdjpaaa
