/- Written by gen.py: functions and their contracts. -/
import Derived.Test.YtgganckggdjpaaaLim
namespace Go.Proofs.Ytgganckggdjpaaa
open Go Go.Eng Go.Proofs
set_option linter.unusedVariables false
set_option linter.unusedSimpArgs false
/-! ### 23: drogher/drogherref09.May -/
noncomputable def F23.j1  (d5 : Int) (d6 : Int) : Option Bool :=
  (if d5 = (32768 : Int) then some true else (if d6 = (0 : Int) then some true else (if d6 = (1 : Int) then some (decide (d5 = (16384 : Int))) else some false)))
noncomputable def F23.j2 (d12 : Int) (d21 : Int) (d22 : Int) : Option ((Int × Int × Int) ⊕ ((Bool) ⊕ (Int × Int))) :=
  some (.inl (d21, d22, (IntKind.wrap .i64 (d12 + (1 : Int)))))
noncomputable def F23.j3 (d12 : Int) (d25 : Int) (d26 : Int) : Option ((Int × Int × Int) ⊕ ((Bool) ⊕ (Int × Int))) :=
  F23.j2 d12 (d25) (d26)
noncomputable def F23.j4 (d10 : Int) (d11 : Int) (d12 : Int) (d28 : Int) : Option ((Int × Int × Int) ⊕ ((Bool) ⊕ (Int × Int))) :=
  F23.j3 d12 ((IntKind.wrap .i64 (d10 + d28))) ((IntKind.wrap .i64 (d11 + (1 : Int))))
noncomputable def F23.b2 (x2 : List Int) (d12 : Int) : (Int × Int) → Option ((Int × Int) ⊕ Int)
  | (d29, d30) => (if d30 < (gd x2 d12) then some (.inl ((IntKind.wrap .i64 (Int.tdiv d29 (2 : Int))), (IntKind.wrap .u8 (d30 + (1 : Int))))) else some (.inr d29))
noncomputable def F23.b1 (x2 : List Int) : (Int × Int × Int) → Option ((Int × Int × Int) ⊕ ((Bool) ⊕ (Int × Int)))
  | (d10, d11, d12) => (if d12 < ((x2).length : Int) then (if 0 ≤ d12 ∧ d12 < ((x2).length : Int) then (if (15 : Int) < (gd x2 d12) then some (.inr (.inl (false))) else (if (0 : Int) < (gd x2 d12) then ((loop (F23.b2 x2 d12) ((32768 : Int), (0 : Int))).bind fun y => match y with | d28 => F23.j4 d10 d11 d12 (d28)) else F23.j3 d12 (d10) (d11))) else none) else some (.inr (.inr ((d10, d11)))))
noncomputable def F23.m (x2 : List Int) : Option Bool :=
  (if (300 : Int) < ((x2).length : Int) then some false else ((loop (F23.b1 x2) ((0 : Int), (0 : Int), (0 : Int))).bind fun y => match y with | .inl r => some r | .inr (d5, d6) => F23.j1 (d5) (d6)))
set_option maxRecDepth 100000 in
set_option maxHeartbeats 4000000 in
theorem F23.spec (s1 : SlV) (x2 : List Int) (r : Bool) (hm : F23.m x2 = some r) :
    Ctr Try.prog false 23 [s1.v] [Asr.vw (Enc.int .u8) (s1.v) x2] (fun v L' => v = .bool r ∧ L' = []) := by
  refine Ctr.intro (n := 56) (env := [(0, s1.v)]) Try.func23 rfl rfl rfl rfl (fun c => ?_)
  unfold F23.m at hm
  refine JC.seq ?_
  refine JC.region ?_
  refine JL.val (v := .bool false) (QV.assign rfl) rfl rfl rfl ?_
  refine JL.nil ?_
  refine QJ.then_normal ?_
  refine JC.seq ?_
  refine JC.seq ?_
  refine JC.region ?_
  refine JL.val (v := s1.v) (QV.move rfl) rfl rfl rfl ?_
  refine JL.val (v := .int .i64 ((x2).length : Int)) (QV.len (Rdg.vw 0 rfl) Try.underlying34 rfl) rfl rfl rfl ?_
  refine JL.val (v := .bool (decide ((300 : Int) < ((x2).length : Int)))) (QV.gtr rfl rfl) rfl rfl rfl ?_
  refine JL.nil ?_
  refine QJ.then_normal ?_
  rcases ite_inv hm with ⟨h4, hm⟩ | ⟨h4, hm⟩
  ·
    refine JC.condT' rfl (decide_eq_true h4) ?_
    refine JC.seq ?_
    refine JC.region ?_
    refine JL.val (v := .bool false) (QV.assign rfl) rfl rfl rfl ?_
    refine JL.nil ?_
    refine QJ.then_normal ?_
    refine JC.ret ?_
    refine QJ.then_ret ?_
    obtain rfl := Option.some.inj hm
    exact QJ.body (vs := [.bool false]) (.inl rfl) rfl (ResVs.cons (ResV.tmp rfl) ResVs.nil) [] rfl rfl (.inr trivial) ⟨rfl, rfl⟩
  ·
    refine JC.condF' rfl (decide_eq_false h4) ?_
    refine JC.skip ?_
    refine QJ.then_normal ?_
    refine JC.seq ?_
    refine JC.region ?_
    refine JL.val (v := .int .i64 (0 : Int)) (QV.assign rfl) rfl rfl rfl ?_
    refine JL.nil ?_
    refine QJ.then_normal ?_
    refine JC.seq ?_
    refine JC.region ?_
    refine JL.val (v := .int .i64 (0 : Int)) (QV.assign rfl) rfl rfl rfl ?_
    refine JL.nil ?_
    refine QJ.then_normal ?_
    refine JC.seq ?_
    refine JC.seq ?_
    refine JC.region ?_
    refine JL.val (v := s1.v) (QV.move rfl) rfl rfl rfl ?_
    refine JL.val (v := .int .i64 ((x2).length : Int)) (QV.len (Rdg.vw 0 rfl) Try.underlying34 rfl) rfl rfl rfl ?_
    refine JL.val (v := .int .i64 (0 : Int)) (QV.move rfl) rfl rfl rfl ?_
    refine JL.nil ?_
    refine QJ.then_normal ?_
    refine JC.cutK (Y := (Int × Int) × Unit) (fun y => match y with | ((d5, d6), _) => F23.j1 (d5) (d6) = some r) (fun y => match y with | ((d5, d6), _) => [(3, .int .i64 d5), (4, .int .i64 d6)]) (fun y => match y with | ((d5, d6), _) => []) ?_ ?_
    ·
      rintro ⟨⟨d5, d6⟩, ⟨⟩⟩ hm
      unfold F23.j1 at hm
      show QJ _ _ [(3, .int .i64 d5), (4, .int .i64 d6)] [] _ _
      refine QJ.then_normal ?_
      refine JC.seq ?_
      refine JC.region ?_
      refine JL.val (v := .int .i64 d5) (QV.move rfl) rfl rfl rfl ?_
      refine JL.val (v := .bool (decide (d5 = (32768 : Int)))) (QV.eql rfl rfl) rfl rfl rfl ?_
      rcases ite_inv hm with ⟨h7, hm⟩ | ⟨h7, hm⟩
      ·
        refine JL.val (v := .bool true) (QV.eq (QV.move rfl) (congrArg Value.bool (decide_eq_true h7))) rfl rfl rfl ?_
        refine JL.skip (d := some 45) rfl rfl rfl ?_
        refine JL.skip (d := some 46) rfl rfl rfl ?_
        refine JL.val (v := .bool true) (QV.pickT rfl rfl) rfl rfl rfl ?_
        refine JL.val (v := .bool true) (QV.move rfl) rfl rfl rfl ?_
        refine JL.skip (d := some 49) rfl rfl rfl ?_
        refine JL.skip (d := some 50) rfl rfl rfl ?_
        refine JL.skip (d := some 51) rfl rfl rfl ?_
        refine JL.skip (d := some 52) rfl rfl rfl ?_
        refine JL.skip (d := some 53) rfl rfl rfl ?_
        refine JL.skip (d := some 54) rfl rfl rfl ?_
        refine JL.val (v := .bool true) (QV.pickT rfl rfl) rfl rfl rfl ?_
        refine JL.val (v := .bool true) (QV.assign rfl) rfl rfl rfl ?_
        refine JL.nil ?_
        refine QJ.then_normal ?_
        refine JC.ret ?_
        obtain rfl := Option.some.inj hm
        exact QJ.body (vs := [.bool true]) (.inl rfl) rfl (ResVs.cons (ResV.tmp rfl) ResVs.nil) [] rfl rfl (.inr trivial) ⟨rfl, rfl⟩
      ·
        refine JL.val (v := .bool false) (QV.eq (QV.move rfl) (congrArg Value.bool (decide_eq_false h7))) rfl rfl rfl ?_
        refine JL.val (v := .int .i64 d6) (QV.move rfl) rfl rfl rfl ?_
        refine JL.val (v := .bool (decide (d6 = (0 : Int)))) (QV.eql rfl rfl) rfl rfl rfl ?_
        refine JL.val (v := .bool (decide (d6 = (0 : Int)))) (QV.pickF rfl rfl) rfl rfl rfl ?_
        rcases ite_inv hm with ⟨h8, hm⟩ | ⟨h8, hm⟩
        ·
          refine JL.val (v := .bool true) (QV.eq (QV.move rfl) (congrArg Value.bool (decide_eq_true h8))) rfl rfl rfl ?_
          refine JL.skip (d := some 49) rfl rfl rfl ?_
          refine JL.skip (d := some 50) rfl rfl rfl ?_
          refine JL.skip (d := some 51) rfl rfl rfl ?_
          refine JL.skip (d := some 52) rfl rfl rfl ?_
          refine JL.skip (d := some 53) rfl rfl rfl ?_
          refine JL.skip (d := some 54) rfl rfl rfl ?_
          refine JL.val (v := .bool true) (QV.pickT rfl rfl) rfl rfl rfl ?_
          refine JL.val (v := .bool true) (QV.assign rfl) rfl rfl rfl ?_
          refine JL.nil ?_
          refine QJ.then_normal ?_
          refine JC.ret ?_
          obtain rfl := Option.some.inj hm
          exact QJ.body (vs := [.bool true]) (.inl rfl) rfl (ResVs.cons (ResV.tmp rfl) ResVs.nil) [] rfl rfl (.inr trivial) ⟨rfl, rfl⟩
        ·
          refine JL.val (v := .bool false) (QV.eq (QV.move rfl) (congrArg Value.bool (decide_eq_false h8))) rfl rfl rfl ?_
          refine JL.val (v := .int .i64 d6) (QV.move rfl) rfl rfl rfl ?_
          refine JL.val (v := .bool (decide (d6 = (1 : Int)))) (QV.eql rfl rfl) rfl rfl rfl ?_
          rcases ite_inv hm with ⟨h9, hm⟩ | ⟨h9, hm⟩
          ·
            refine JL.val (v := .bool true) (QV.eq (QV.move rfl) (congrArg Value.bool (decide_eq_true h9))) rfl rfl rfl ?_
            refine JL.val (v := .int .i64 d5) (QV.move rfl) rfl rfl rfl ?_
            refine JL.val (v := .bool (decide (d5 = (16384 : Int)))) (QV.eql rfl rfl) rfl rfl rfl ?_
            refine JL.val (v := .bool (decide (d5 = (16384 : Int)))) (QV.pickT rfl rfl) rfl rfl rfl ?_
            refine JL.val (v := .bool (decide (d5 = (16384 : Int)))) (QV.pickF rfl rfl) rfl rfl rfl ?_
            refine JL.val (v := .bool (decide (d5 = (16384 : Int)))) (QV.assign rfl) rfl rfl rfl ?_
            refine JL.nil ?_
            refine QJ.then_normal ?_
            refine JC.ret ?_
            obtain rfl := Option.some.inj hm
            exact QJ.body (vs := [.bool (decide (d5 = (16384 : Int)))]) (.inl rfl) rfl (ResVs.cons (ResV.tmp rfl) ResVs.nil) [] rfl rfl (.inr trivial) ⟨rfl, rfl⟩
          ·
            refine JL.val (v := .bool false) (QV.eq (QV.move rfl) (congrArg Value.bool (decide_eq_false h9))) rfl rfl rfl ?_
            refine JL.skip (d := some 52) rfl rfl rfl ?_
            refine JL.skip (d := some 53) rfl rfl rfl ?_
            refine JL.val (v := .bool false) (QV.pickF rfl rfl) rfl rfl rfl ?_
            refine JL.val (v := .bool false) (QV.pickF rfl rfl) rfl rfl rfl ?_
            refine JL.val (v := .bool false) (QV.assign rfl) rfl rfl rfl ?_
            refine JL.nil ?_
            refine QJ.then_normal ?_
            refine JC.ret ?_
            obtain rfl := Option.some.inj hm
            exact QJ.body (vs := [.bool false]) (.inl rfl) rfl (ResVs.cons (ResV.tmp rfl) ResVs.nil) [] rfl rfl (.inr trivial) ⟨rfl, rfl⟩
    ·
      refine JC.block ?_
      obtain ⟨y16, hl17, hmo18⟩ := bind_inv hm
      refine JC.loop (F23.b1 x2) (fun x z => match x, z with | (d10, d11, d12), _ => [(0, s1.v), (3, .int .i64 d10), (4, .int .i64 d11), (12, .int .i64 ((x2).length : Int)), (13, .int .i64 d12)]) (fun x z => match x, z with | (d10, d11, d12), _ => [Asr.vw (Enc.int .u8) (s1.v) x2]) ((0 : Int), (0 : Int), (0 : Int)) () y16 hl17 [0] (by exact ⟨rfl, rfl, rfl, rfl, rfl, trivial⟩) rfl rfl ?_
      rintro ⟨d10, d11, d12⟩ ⟨⟩ s19 hm
      unfold F23.b1 at hm
      dsimp only at hm
      show JC _ _ _ [(0, s1.v), (3, .int .i64 d10), (4, .int .i64 d11), (12, .int .i64 ((x2).length : Int)), (13, .int .i64 d12)] [Asr.vw (Enc.int .u8) (s1.v) x2] _ _
      refine JC.seq ?_
      refine JC.region ?_
      refine JL.val (v := .bool (decide (d12 < ((x2).length : Int)))) (QV.lss rfl rfl) rfl rfl rfl ?_
      refine JL.nil ?_
      refine QJ.then_normal ?_
      refine JC.seq ?_
      rcases ite_inv hm with ⟨h20, hm⟩ | ⟨h20, hm⟩
      ·
        refine JC.condT' rfl (decide_eq_true h20) ?_
        refine JC.skip ?_
        refine QJ.then_normal ?_
        refine JC.seq ?_
        refine JC.cutK (Y := (Int × Int) × Unit) (fun y => match y with | ((d21, d22), _) => F23.j2 d12 (d21) (d22) = some s19) (fun y => match y with | ((d21, d22), _) => [(0, s1.v), (3, .int .i64 d21), (4, .int .i64 d22), (12, .int .i64 ((x2).length : Int)), (13, .int .i64 d12)]) (fun y => match y with | ((d21, d22), _) => [Asr.vw (Enc.int .u8) (s1.v) x2]) ?_ ?_
        ·
          rintro ⟨⟨d21, d22⟩, ⟨⟩⟩ hm
          unfold F23.j2 at hm
          show QJ _ _ [(0, s1.v), (3, .int .i64 d21), (4, .int .i64 d22), (12, .int .i64 ((x2).length : Int)), (13, .int .i64 d12)] [Asr.vw (Enc.int .u8) (s1.v) x2] _ _
          refine QJ.then_normal ?_
          refine JC.region ?_
          refine JL.val (v := .int .i64 (IntKind.wrap .i64 (d12 + (1 : Int)))) (QV.add rfl rfl) rfl rfl rfl ?_
          refine JL.val (v := .int .i64 (IntKind.wrap .i64 (d12 + (1 : Int)))) (QV.move rfl) rfl rfl rfl ?_
          refine JL.nil ?_
          obtain rfl := Option.some.inj hm
          exact QJ.round_on (d21, d22, (IntKind.wrap .i64 (d12 + (1 : Int)))) () [0] (by exact ⟨rfl, rfl, rfl, rfl, rfl, trivial⟩) rfl rfl
        ·
          refine JC.block ?_
          refine JC.seq ?_
          refine JC.region ?_
          refine JL.val (v := .int .i64 d12) (QV.move rfl) rfl rfl rfl ?_
          refine JL.val (v := .int .i64 d12) (QV.assign rfl) rfl rfl rfl ?_
          refine JL.nil ?_
          refine QJ.then_normal ?_
          refine JC.seq ?_
          refine JC.seq ?_
          refine JC.region ?_
          refine JL.val (v := s1.v) (QV.move rfl) rfl rfl rfl ?_
          refine JL.val (v := .int .i64 d12) (QV.move rfl) rfl rfl rfl ?_
          obtain ⟨h23, hm⟩ := guard_inv hm
          refine JL.val (v := .pointer (some (elA (s1.v) (Int.toNat d12 * ((Enc.int .u8)).sz)))) (QV.indexA (Rdg.vw 0 rfl) Try.underlying34 tk_5 rfl rfl h23) rfl rfl rfl ?_
          refine JL.val (v := .int .u8 (gd x2 d12)) (QV.el1 (Rdg.vw 0 rfl) tk_5 rfl h23 rfl) rfl rfl rfl ?_
          refine JL.val (v := .bool (decide ((15 : Int) < (gd x2 d12)))) (QV.gtr rfl rfl) rfl rfl rfl ?_
          refine JL.nil ?_
          refine QJ.then_normal ?_
          rcases ite_inv hm with ⟨h24, hm⟩ | ⟨h24, hm⟩
          ·
            refine JC.condT' rfl (decide_eq_true h24) ?_
            refine JC.seq ?_
            refine JC.region ?_
            refine JL.val (v := .bool false) (QV.assign rfl) rfl rfl rfl ?_
            refine JL.nil ?_
            refine QJ.then_normal ?_
            refine JC.ret ?_
            refine QJ.then_ret ?_
            refine QJ.block_ret ?_
            refine QJ.cut_ret ?_
            refine QJ.then_ret ?_
            obtain rfl := Option.some.inj hm
            refine QJ.round_ret (fun hy => ?_)
            subst hy
            refine QJ.block_ret ?_
            refine QJ.cut_ret ?_
            refine QJ.then_ret ?_
            obtain rfl := Option.some.inj hmo18
            exact QJ.body (vs := [.bool false]) (.inl rfl) rfl (ResVs.cons (ResV.tmp rfl) ResVs.nil) [] rfl rfl (.inr trivial) ⟨rfl, rfl⟩
          ·
            refine JC.condF' rfl (decide_eq_false h24) ?_
            refine JC.skip ?_
            refine QJ.then_normal ?_
            refine JC.seq ?_
            refine JC.region ?_
            refine JL.val (v := s1.v) (QV.move rfl) rfl rfl rfl ?_
            refine JL.val (v := .int .i64 d12) (QV.move rfl) rfl rfl rfl ?_
            refine JL.val (v := .pointer (some (elA (s1.v) (Int.toNat d12 * ((Enc.int .u8)).sz)))) (QV.indexA (Rdg.vw 0 rfl) Try.underlying34 tk_5 rfl rfl h23) rfl rfl rfl ?_
            refine JL.val (v := .int .u8 (gd x2 d12)) (QV.el1 (Rdg.vw 0 rfl) tk_5 rfl h23 rfl) rfl rfl rfl ?_
            refine JL.val (v := .bool (decide ((0 : Int) < (gd x2 d12)))) (QV.gtr rfl rfl) rfl rfl rfl ?_
            refine JL.nil ?_
            refine QJ.then_normal ?_
            refine JC.cutK (Y := (Int × Int) × Unit) (fun y => match y with | ((d25, d26), _) => F23.j3 d12 (d25) (d26) = some s19) (fun y => match y with | ((d25, d26), _) => [(0, s1.v), (3, .int .i64 d25), (4, .int .i64 d26), (12, .int .i64 ((x2).length : Int)), (13, .int .i64 d12)]) (fun y => match y with | ((d25, d26), _) => [Asr.vw (Enc.int .u8) (s1.v) x2]) ?_ ?_
            ·
              rintro ⟨⟨d25, d26⟩, ⟨⟩⟩ hm
              unfold F23.j3 at hm
              show QJ _ _ [(0, s1.v), (3, .int .i64 d25), (4, .int .i64 d26), (12, .int .i64 ((x2).length : Int)), (13, .int .i64 d12)] [Asr.vw (Enc.int .u8) (s1.v) x2] _ _
              refine QJ.block_normal ?_
              exact QJ.cut_normal ((d25, d26), ()) hm [0] (by exact ⟨rfl, rfl, rfl, rfl, rfl, trivial⟩) rfl rfl
            ·
              rcases ite_inv hm with ⟨h27, hm⟩ | ⟨h27, hm⟩
              ·
                refine JC.condT' rfl (decide_eq_true h27) ?_
                refine JC.seq ?_
                refine JC.region ?_
                refine JL.val (v := .int .i64 d11) (QV.move rfl) rfl rfl rfl ?_
                refine JL.val (v := .int .i64 (IntKind.wrap .i64 (d11 + (1 : Int)))) (QV.add rfl rfl) rfl rfl rfl ?_
                refine JL.val (v := .int .i64 (IntKind.wrap .i64 (d11 + (1 : Int)))) (QV.assign rfl) rfl rfl rfl ?_
                refine JL.nil ?_
                refine QJ.then_normal ?_
                refine JC.seq ?_
                refine JC.region ?_
                refine JL.val (v := .int .i64 (32768 : Int)) (QV.assign rfl) rfl rfl rfl ?_
                refine JL.nil ?_
                refine QJ.then_normal ?_
                refine JC.seq ?_
                refine JC.seq ?_
                refine JC.region ?_
                refine JL.val (v := .int .u8 (0 : Int)) (QV.assign rfl) rfl rfl rfl ?_
                refine JL.nil ?_
                refine QJ.then_normal ?_
                refine JC.cutK (Y := Int × Unit) (fun y => match y with | (d28, _) => F23.j4 d10 d11 d12 (d28) = some s19) (fun y => match y with | (d28, _) => [(0, s1.v), (3, .int .i64 d10), (4, .int .i64 (IntKind.wrap .i64 (d11 + (1 : Int)))), (6, .int .i64 d28), (12, .int .i64 ((x2).length : Int)), (13, .int .i64 d12)]) (fun y => match y with | (d28, _) => [Asr.vw (Enc.int .u8) (s1.v) x2]) ?_ ?_
                ·
                  rintro ⟨d28, ⟨⟩⟩ hm
                  unfold F23.j4 at hm
                  show QJ _ _ [(0, s1.v), (3, .int .i64 d10), (4, .int .i64 (IntKind.wrap .i64 (d11 + (1 : Int)))), (6, .int .i64 d28), (12, .int .i64 ((x2).length : Int)), (13, .int .i64 d12)] [Asr.vw (Enc.int .u8) (s1.v) x2] _ _
                  refine QJ.then_normal ?_
                  refine JC.region ?_
                  refine JL.val (v := .int .i64 d10) (QV.move rfl) rfl rfl rfl ?_
                  refine JL.val (v := .int .i64 d28) (QV.move rfl) rfl rfl rfl ?_
                  refine JL.val (v := .int .i64 (IntKind.wrap .i64 (d10 + d28))) (QV.add rfl rfl) rfl rfl rfl ?_
                  refine JL.val (v := .int .i64 (IntKind.wrap .i64 (d10 + d28))) (QV.assign rfl) rfl rfl rfl ?_
                  refine JL.nil ?_
                  exact QJ.cut_normal (((IntKind.wrap .i64 (d10 + d28)), (IntKind.wrap .i64 (d11 + (1 : Int)))), ()) hm [0] (by exact ⟨rfl, rfl, rfl, rfl, rfl, trivial⟩) rfl rfl
                ·
                  refine JC.block ?_
                  obtain ⟨y33, hl34, hmo35⟩ := bind_inv hm
                  refine JC.loop (F23.b2 x2 d12) (fun x z => match x, z with | (d29, d30), _ => [(0, s1.v), (3, .int .i64 d10), (4, .int .i64 (IntKind.wrap .i64 (d11 + (1 : Int)))), (5, .int .i64 d12), (6, .int .i64 d29), (7, .int .u8 d30), (12, .int .i64 ((x2).length : Int)), (13, .int .i64 d12)]) (fun x z => match x, z with | (d29, d30), _ => [Asr.vw (Enc.int .u8) (s1.v) x2]) ((32768 : Int), (0 : Int)) () y33 hl34 [0] (by exact ⟨rfl, rfl, rfl, rfl, rfl, rfl, rfl, rfl, trivial⟩) rfl rfl ?_
                  rintro ⟨d29, d30⟩ ⟨⟩ s36 hm
                  unfold F23.b2 at hm
                  dsimp only at hm
                  show JC _ _ _ [(0, s1.v), (3, .int .i64 d10), (4, .int .i64 (IntKind.wrap .i64 (d11 + (1 : Int)))), (5, .int .i64 d12), (6, .int .i64 d29), (7, .int .u8 d30), (12, .int .i64 ((x2).length : Int)), (13, .int .i64 d12)] [Asr.vw (Enc.int .u8) (s1.v) x2] _ _
                  refine JC.seq ?_
                  refine JC.seq ?_
                  refine JC.region ?_
                  refine JL.val (v := .int .u8 d30) (QV.move rfl) rfl rfl rfl ?_
                  refine JL.val (v := s1.v) (QV.move rfl) rfl rfl rfl ?_
                  refine JL.val (v := .int .i64 d12) (QV.move rfl) rfl rfl rfl ?_
                  refine JL.val (v := .pointer (some (elA (s1.v) (Int.toNat d12 * ((Enc.int .u8)).sz)))) (QV.indexA (Rdg.vw 0 rfl) Try.underlying34 tk_5 rfl rfl h23) rfl rfl rfl ?_
                  refine JL.val (v := .int .u8 (gd x2 d12)) (QV.el1 (Rdg.vw 0 rfl) tk_5 rfl h23 rfl) rfl rfl rfl ?_
                  refine JL.val (v := .bool (decide (d30 < (gd x2 d12)))) (QV.lss rfl rfl) rfl rfl rfl ?_
                  refine JL.nil ?_
                  refine QJ.then_normal ?_
                  rcases ite_inv hm with ⟨h37, hm⟩ | ⟨h37, hm⟩
                  ·
                    refine JC.condT' rfl (decide_eq_true h37) ?_
                    refine JC.skip ?_
                    refine QJ.then_normal ?_
                    refine JC.seq ?_
                    refine JC.block ?_
                    refine JC.region ?_
                    refine JL.val (v := .int .i64 d29) (QV.move rfl) rfl rfl rfl ?_
                    refine JL.val (v := .int .i64 (IntKind.wrap .i64 (Int.tdiv d29 (2 : Int)))) (QV.quo rfl rfl (by decide)) rfl rfl rfl ?_
                    refine JL.val (v := .int .i64 (IntKind.wrap .i64 (Int.tdiv d29 (2 : Int)))) (QV.assign rfl) rfl rfl rfl ?_
                    refine JL.nil ?_
                    refine QJ.block_normal ?_
                    refine QJ.then_normal ?_
                    refine JC.region ?_
                    refine JL.val (v := .int .u8 d30) (QV.move rfl) rfl rfl rfl ?_
                    refine JL.val (v := .int .u8 (IntKind.wrap .u8 (d30 + (1 : Int)))) (QV.add rfl rfl) rfl rfl rfl ?_
                    refine JL.val (v := .int .u8 (IntKind.wrap .u8 (d30 + (1 : Int)))) (QV.assign rfl) rfl rfl rfl ?_
                    refine JL.nil ?_
                    obtain rfl := Option.some.inj hm
                    exact QJ.round_on ((IntKind.wrap .i64 (Int.tdiv d29 (2 : Int))), (IntKind.wrap .u8 (d30 + (1 : Int)))) () [0] (by exact ⟨rfl, rfl, rfl, rfl, rfl, rfl, rfl, rfl, trivial⟩) rfl rfl
                  ·
                    refine JC.condF' rfl (decide_eq_false h37) ?_
                    refine JC.exit ?_
                    refine QJ.then_exit ?_
                    obtain rfl := Option.some.inj hm
                    refine QJ.round_exit (fun hy => ?_)
                    subst hy
                    refine QJ.block_hit ?_
                    exact QJ.cut_normal (d29, ()) hmo35 [0] (by exact ⟨rfl, rfl, rfl, rfl, rfl, rfl, trivial⟩) rfl rfl
              ·
                refine JC.condF' rfl (decide_eq_false h27) ?_
                refine JC.skip ?_
                exact QJ.cut_normal ((d10, d11), ()) hm [0] (by exact ⟨rfl, rfl, rfl, rfl, rfl, trivial⟩) rfl rfl
      ·
        refine JC.condF' rfl (decide_eq_false h20) ?_
        refine JC.exit ?_
        refine QJ.then_exit ?_
        obtain rfl := Option.some.inj hm
        refine QJ.round_exit (fun hy => ?_)
        subst hy
        refine QJ.block_hit ?_
        exact QJ.cut_normal ((d10, d11), ()) hmo18 [] (by exact ⟨rfl, rfl, trivial⟩) rfl rfl

/-! ### 6: drogher/drogherlaw10.LimitRight -/
noncomputable def F6.j1 (x2 : List Int) (y8 : (List Int × Int))  : Option Bool :=
  ((F24.m (x2) (y8.1)).bind fun y36 => ((F25.m (x2) (y8.1)).bind fun y38 => (if y36 = y38 then ((F19.m).bind fun y41 => some y41) else some false)))
noncomputable def F6.b1 (x2 : List Int) (x3 : Int) (y8 : (List Int × Int)) : Int → Option (Int ⊕ ((Bool) ⊕ Unit))
  | d43 => (if d43 < ((y8.1).length : Int) then (if 0 ≤ d43 ∧ d43 < ((y8.1).length : Int) then (if 0 ≤ d43 ∧ d43 < ((x2).length : Int) then (if ((decide ((0 : Int) < (gd y8.1 d43))) == (decide ((0 : Int) < (gd x2 d43)))) = true then (if x3 < (IntKind.wrap .i64 (gd y8.1 d43)) then some (.inr (.inl (false))) else some (.inl (IntKind.wrap .i64 (d43 + (1 : Int))))) else some (.inr (.inl (false)))) else none) else none) else some (.inr (.inr (()))))
noncomputable def F6.m (x2 : List Int) (x3 : Int) : Option Bool :=
  (if (400 : Int) < ((x2).length : Int) then ((F19.m).bind fun y6 => some y6) else ((F20.m (x2) (x3)).bind fun y8 => (if x3 < (1 : Int) then (if ((y8.1).length : Int) = (0 : Int) then (if y8.2 = (1 : Int) then ((F19.m).bind fun y14 => some y14) else some false) else some false) else (if (15 : Int) < x3 then (if ((y8.1).length : Int) = (0 : Int) then (if y8.2 = (1 : Int) then ((F19.m).bind fun y19 => some y19) else some false) else some false) else (if (300 : Int) < ((x2).length : Int) then (if ((y8.1).length : Int) = (0 : Int) then (if y8.2 = (1 : Int) then ((F19.m).bind fun y24 => some y24) else some false) else some false) else ((F22.m (x2)).bind fun y26 => ((F21.m (y26) (x3)).bind fun y28 => (if y28 = true then (if y8.2 = (0 : Int) then (if ((y8.1).length : Int) = ((x2).length : Int) then ((F23.m (y8.1)).bind fun y33 => (if y33 = true then ((loop (F6.b1 x2 x3 y8) (0 : Int)).bind fun y => match y with | .inl r => some r | .inr _ => F6.j1 x2 y8) else some false)) else some false) else some false) else (if ((y8.1).length : Int) = (0 : Int) then (if y8.2 = (1 : Int) then ((F19.m).bind fun y56 => some y56) else some false) else some false)))))))))
set_option maxRecDepth 100000 in
set_option maxHeartbeats 4000000 in
theorem F6.spec (s1 : SlV) (x2 : List Int) (x3 : Int) (r : Bool) (hm : F6.m x2 x3 = some r) :
    Ctr Try.prog false 6 [s1.v, .int .i64 x3] [Asr.vw (Enc.int .u32) (s1.v) x2] (fun v L' => v = .bool r ∧ L' = []) := by
  refine Ctr.intro (n := 96) (env := [(0, s1.v), (1, .int .i64 x3)]) Try.func6 rfl rfl rfl rfl (fun c => ?_)
  unfold F6.m at hm
  refine JC.seq ?_
  refine JC.region ?_
  refine JL.val (v := .bool false) (QV.assign rfl) rfl rfl rfl ?_
  refine JL.nil ?_
  refine QJ.then_normal ?_
  refine JC.seq ?_
  refine JC.seq ?_
  refine JC.region ?_
  refine JL.val (v := s1.v) (QV.move rfl) rfl rfl rfl ?_
  refine JL.val (v := .int .i64 ((x2).length : Int)) (QV.len (Rdg.vw 0 rfl) Try.underlying33 rfl) rfl rfl rfl ?_
  refine JL.val (v := .bool (decide ((400 : Int) < ((x2).length : Int)))) (QV.gtr rfl rfl) rfl rfl rfl ?_
  refine JL.nil ?_
  refine QJ.then_normal ?_
  rcases ite_inv hm with ⟨h5, hm⟩ | ⟨h5, hm⟩
  ·
    refine JC.condT' rfl (decide_eq_true h5) ?_
    refine JC.seq ?_
    refine JC.region ?_
    obtain ⟨y6, hc7, hm⟩ := bind_inv hm
    refine JL.mv (d := some 11) (MV.call (Lo := []) (Lr := [Asr.vw (Enc.int .u32) (s1.v) x2]) (F19.spec _ hc7) rfl Try.func19 rfl rfl rfl [] [0] rfl rfl rfl trivial) rfl rfl rfl ?_
    rintro _ _ ⟨_, ⟨rfl, rfl⟩, rfl⟩
    refine JL.val (v := .bool y6) (QV.assign rfl) rfl rfl rfl ?_
    refine JL.nil ?_
    refine QJ.then_normal ?_
    refine JC.ret ?_
    refine QJ.then_ret ?_
    obtain rfl := Option.some.inj hm
    exact QJ.body (vs := [.bool y6]) (.inl rfl) rfl (ResVs.cons (ResV.tmp rfl) ResVs.nil) [] rfl rfl (.inr trivial) ⟨rfl, rfl⟩
  ·
    refine JC.condF' rfl (decide_eq_false h5) ?_
    refine JC.skip ?_
    refine QJ.then_normal ?_
    refine JC.seq ?_
    refine JC.region ?_
    refine JL.val (v := s1.v) (QV.move rfl) rfl rfl rfl ?_
    refine JL.val (v := .int .i64 x3) (QV.move rfl) rfl rfl rfl ?_
    obtain ⟨y8, hc9, hm⟩ := bind_inv hm
    refine JL.mv (d := some 15) (MV.call (Lo := []) (Lr := [Asr.vw (Enc.int .u32) (s1.v) x2]) (F20.spec (s1) (x2) (x3) _ hc9) rfl Try.func20 rfl rfl rfl [] [0] rfl rfl rfl ⟨(Drv.vw 0 rfl), trivial⟩) rfl rfl rfl ?_
    rintro _ _ ⟨_, ⟨z10, rfl, rfl⟩, rfl⟩
    refine JL.val (v := .tuple #[z10.v, .int .i64 y8.2]) (QV.move rfl) rfl rfl rfl ?_
    refine JL.val (v := z10.v) (QV.extract (vs := [z10.v, .int .i64 y8.2]) rfl rfl) rfl rfl rfl ?_
    refine JL.val (v := .int .i64 y8.2) (QV.extract (vs := [z10.v, .int .i64 y8.2]) rfl rfl) rfl rfl rfl ?_
    refine JL.val (v := z10.v) (QV.assign rfl) rfl rfl rfl ?_
    refine JL.val (v := .int .i64 y8.2) (QV.assign rfl) rfl rfl rfl ?_
    refine JL.nil ?_
    refine QJ.then_normal ?_
    refine JC.seq ?_
    refine JC.seq ?_
    refine JC.region ?_
    refine JL.val (v := .int .i64 x3) (QV.move rfl) rfl rfl rfl ?_
    refine JL.val (v := .bool (decide (x3 < (1 : Int)))) (QV.lss rfl rfl) rfl rfl rfl ?_
    rcases ite_inv hm with ⟨h11, hm⟩ | ⟨h11, hm⟩
    ·
      refine JL.val (v := .bool true) (QV.eq (QV.move rfl) (congrArg Value.bool (decide_eq_true h11))) rfl rfl rfl ?_
      refine JL.skip (d := some 21) rfl rfl rfl ?_
      refine JL.skip (d := some 22) rfl rfl rfl ?_
      refine JL.val (v := .bool true) (QV.pickT rfl rfl) rfl rfl rfl ?_
      refine JL.val (v := .bool true) (QV.move rfl) rfl rfl rfl ?_
      refine JL.skip (d := some 25) rfl rfl rfl ?_
      refine JL.skip (d := some 26) rfl rfl rfl ?_
      refine JL.skip (d := some 27) rfl rfl rfl ?_
      refine JL.val (v := .bool true) (QV.pickT rfl rfl) rfl rfl rfl ?_
      refine JL.val (v := .bool true) (QV.move rfl) rfl rfl rfl ?_
      refine JL.skip (d := some 30) rfl rfl rfl ?_
      refine JL.skip (d := some 31) rfl rfl rfl ?_
      refine JL.skip (d := some 32) rfl rfl rfl ?_
      refine JL.skip (d := some 33) rfl rfl rfl ?_
      refine JL.skip (d := some 34) rfl rfl rfl ?_
      refine JL.val (v := .bool true) (QV.pickT rfl rfl) rfl rfl rfl ?_
      refine JL.nil ?_
      refine QJ.then_normal ?_
      refine JC.condT rfl ?_
      refine JC.seq ?_
      refine JC.region ?_
      refine JL.val (v := z10.v) (QV.move rfl) rfl rfl rfl ?_
      refine JL.val (v := .int .i64 ((y8.1).length : Int)) (QV.len (Rdg.of 0 rfl) Try.underlying34 rfl) rfl rfl rfl ?_
      refine JL.val (v := .bool (decide (((y8.1).length : Int) = (0 : Int)))) (QV.eql rfl rfl) rfl rfl rfl ?_
      rcases ite_inv hm with ⟨h12, hm⟩ | ⟨h12, hm⟩
      ·
        refine JL.val (v := .bool true) (QV.eq (QV.move rfl) (congrArg Value.bool (decide_eq_true h12))) rfl rfl rfl ?_
        refine JL.val (v := .int .i64 y8.2) (QV.move rfl) rfl rfl rfl ?_
        refine JL.val (v := .bool (decide (y8.2 = (1 : Int)))) (QV.eql rfl rfl) rfl rfl rfl ?_
        refine JL.val (v := .bool (decide (y8.2 = (1 : Int)))) (QV.pickT rfl rfl) rfl rfl rfl ?_
        rcases ite_inv hm with ⟨h13, hm⟩ | ⟨h13, hm⟩
        ·
          refine JL.val (v := .bool true) (QV.eq (QV.move rfl) (congrArg Value.bool (decide_eq_true h13))) rfl rfl rfl ?_
          obtain ⟨y14, hc15, hm⟩ := bind_inv hm
          refine JL.mv (d := some 44) (MV.call (Lo := []) (Lr := [Asr.of 5 (Enc.int .u8) (z10.v) y8.1, Asr.vw (Enc.int .u32) (s1.v) x2]) (F19.spec _ hc15) rfl Try.func19 rfl rfl rfl [] [0, 1] rfl rfl rfl trivial) rfl rfl rfl ?_
          rintro _ _ ⟨_, ⟨rfl, rfl⟩, rfl⟩
          refine JL.val (v := .bool y14) (QV.pickT rfl rfl) rfl rfl rfl ?_
          refine JL.val (v := .bool y14) (QV.assign rfl) rfl rfl rfl ?_
          refine JL.nil ?_
          refine QJ.then_normal ?_
          refine JC.ret ?_
          refine QJ.then_ret ?_
          obtain rfl := Option.some.inj hm
          exact QJ.body (vs := [.bool y14]) (.inl rfl) rfl (ResVs.cons (ResV.tmp rfl) ResVs.nil) [] rfl rfl (.inr trivial) ⟨rfl, rfl⟩
        ·
          refine JL.val (v := .bool false) (QV.eq (QV.move rfl) (congrArg Value.bool (decide_eq_false h13))) rfl rfl rfl ?_
          refine JL.skip (d := some 44) rfl rfl rfl ?_
          refine JL.val (v := .bool false) (QV.pickF rfl rfl) rfl rfl rfl ?_
          refine JL.val (v := .bool false) (QV.assign rfl) rfl rfl rfl ?_
          refine JL.nil ?_
          refine QJ.then_normal ?_
          refine JC.ret ?_
          refine QJ.then_ret ?_
          obtain rfl := Option.some.inj hm
          exact QJ.body (vs := [.bool false]) (.inl rfl) rfl (ResVs.cons (ResV.tmp rfl) ResVs.nil) [] rfl rfl (.inr trivial) ⟨rfl, rfl⟩
      ·
        refine JL.val (v := .bool false) (QV.eq (QV.move rfl) (congrArg Value.bool (decide_eq_false h12))) rfl rfl rfl ?_
        refine JL.skip (d := some 40) rfl rfl rfl ?_
        refine JL.skip (d := some 41) rfl rfl rfl ?_
        refine JL.val (v := .bool false) (QV.pickF rfl rfl) rfl rfl rfl ?_
        refine JL.val (v := .bool false) (QV.move rfl) rfl rfl rfl ?_
        refine JL.skip (d := some 44) rfl rfl rfl ?_
        refine JL.val (v := .bool false) (QV.pickF rfl rfl) rfl rfl rfl ?_
        refine JL.val (v := .bool false) (QV.assign rfl) rfl rfl rfl ?_
        refine JL.nil ?_
        refine QJ.then_normal ?_
        refine JC.ret ?_
        refine QJ.then_ret ?_
        obtain rfl := Option.some.inj hm
        exact QJ.body (vs := [.bool false]) (.inl rfl) rfl (ResVs.cons (ResV.tmp rfl) ResVs.nil) [] rfl rfl (.inr trivial) ⟨rfl, rfl⟩
    ·
      refine JL.val (v := .bool false) (QV.eq (QV.move rfl) (congrArg Value.bool (decide_eq_false h11))) rfl rfl rfl ?_
      refine JL.val (v := .int .i64 x3) (QV.move rfl) rfl rfl rfl ?_
      refine JL.val (v := .bool (decide ((15 : Int) < x3))) (QV.gtr rfl rfl) rfl rfl rfl ?_
      refine JL.val (v := .bool (decide ((15 : Int) < x3))) (QV.pickF rfl rfl) rfl rfl rfl ?_
      rcases ite_inv hm with ⟨h16, hm⟩ | ⟨h16, hm⟩
      ·
        refine JL.val (v := .bool true) (QV.eq (QV.move rfl) (congrArg Value.bool (decide_eq_true h16))) rfl rfl rfl ?_
        refine JL.skip (d := some 25) rfl rfl rfl ?_
        refine JL.skip (d := some 26) rfl rfl rfl ?_
        refine JL.skip (d := some 27) rfl rfl rfl ?_
        refine JL.val (v := .bool true) (QV.pickT rfl rfl) rfl rfl rfl ?_
        refine JL.val (v := .bool true) (QV.move rfl) rfl rfl rfl ?_
        refine JL.skip (d := some 30) rfl rfl rfl ?_
        refine JL.skip (d := some 31) rfl rfl rfl ?_
        refine JL.skip (d := some 32) rfl rfl rfl ?_
        refine JL.skip (d := some 33) rfl rfl rfl ?_
        refine JL.skip (d := some 34) rfl rfl rfl ?_
        refine JL.val (v := .bool true) (QV.pickT rfl rfl) rfl rfl rfl ?_
        refine JL.nil ?_
        refine QJ.then_normal ?_
        refine JC.condT rfl ?_
        refine JC.seq ?_
        refine JC.region ?_
        refine JL.val (v := z10.v) (QV.move rfl) rfl rfl rfl ?_
        refine JL.val (v := .int .i64 ((y8.1).length : Int)) (QV.len (Rdg.of 0 rfl) Try.underlying34 rfl) rfl rfl rfl ?_
        refine JL.val (v := .bool (decide (((y8.1).length : Int) = (0 : Int)))) (QV.eql rfl rfl) rfl rfl rfl ?_
        rcases ite_inv hm with ⟨h17, hm⟩ | ⟨h17, hm⟩
        ·
          refine JL.val (v := .bool true) (QV.eq (QV.move rfl) (congrArg Value.bool (decide_eq_true h17))) rfl rfl rfl ?_
          refine JL.val (v := .int .i64 y8.2) (QV.move rfl) rfl rfl rfl ?_
          refine JL.val (v := .bool (decide (y8.2 = (1 : Int)))) (QV.eql rfl rfl) rfl rfl rfl ?_
          refine JL.val (v := .bool (decide (y8.2 = (1 : Int)))) (QV.pickT rfl rfl) rfl rfl rfl ?_
          rcases ite_inv hm with ⟨h18, hm⟩ | ⟨h18, hm⟩
          ·
            refine JL.val (v := .bool true) (QV.eq (QV.move rfl) (congrArg Value.bool (decide_eq_true h18))) rfl rfl rfl ?_
            obtain ⟨y19, hc20, hm⟩ := bind_inv hm
            refine JL.mv (d := some 44) (MV.call (Lo := []) (Lr := [Asr.of 5 (Enc.int .u8) (z10.v) y8.1, Asr.vw (Enc.int .u32) (s1.v) x2]) (F19.spec _ hc20) rfl Try.func19 rfl rfl rfl [] [0, 1] rfl rfl rfl trivial) rfl rfl rfl ?_
            rintro _ _ ⟨_, ⟨rfl, rfl⟩, rfl⟩
            refine JL.val (v := .bool y19) (QV.pickT rfl rfl) rfl rfl rfl ?_
            refine JL.val (v := .bool y19) (QV.assign rfl) rfl rfl rfl ?_
            refine JL.nil ?_
            refine QJ.then_normal ?_
            refine JC.ret ?_
            refine QJ.then_ret ?_
            obtain rfl := Option.some.inj hm
            exact QJ.body (vs := [.bool y19]) (.inl rfl) rfl (ResVs.cons (ResV.tmp rfl) ResVs.nil) [] rfl rfl (.inr trivial) ⟨rfl, rfl⟩
          ·
            refine JL.val (v := .bool false) (QV.eq (QV.move rfl) (congrArg Value.bool (decide_eq_false h18))) rfl rfl rfl ?_
            refine JL.skip (d := some 44) rfl rfl rfl ?_
            refine JL.val (v := .bool false) (QV.pickF rfl rfl) rfl rfl rfl ?_
            refine JL.val (v := .bool false) (QV.assign rfl) rfl rfl rfl ?_
            refine JL.nil ?_
            refine QJ.then_normal ?_
            refine JC.ret ?_
            refine QJ.then_ret ?_
            obtain rfl := Option.some.inj hm
            exact QJ.body (vs := [.bool false]) (.inl rfl) rfl (ResVs.cons (ResV.tmp rfl) ResVs.nil) [] rfl rfl (.inr trivial) ⟨rfl, rfl⟩
        ·
          refine JL.val (v := .bool false) (QV.eq (QV.move rfl) (congrArg Value.bool (decide_eq_false h17))) rfl rfl rfl ?_
          refine JL.skip (d := some 40) rfl rfl rfl ?_
          refine JL.skip (d := some 41) rfl rfl rfl ?_
          refine JL.val (v := .bool false) (QV.pickF rfl rfl) rfl rfl rfl ?_
          refine JL.val (v := .bool false) (QV.move rfl) rfl rfl rfl ?_
          refine JL.skip (d := some 44) rfl rfl rfl ?_
          refine JL.val (v := .bool false) (QV.pickF rfl rfl) rfl rfl rfl ?_
          refine JL.val (v := .bool false) (QV.assign rfl) rfl rfl rfl ?_
          refine JL.nil ?_
          refine QJ.then_normal ?_
          refine JC.ret ?_
          refine QJ.then_ret ?_
          obtain rfl := Option.some.inj hm
          exact QJ.body (vs := [.bool false]) (.inl rfl) rfl (ResVs.cons (ResV.tmp rfl) ResVs.nil) [] rfl rfl (.inr trivial) ⟨rfl, rfl⟩
      ·
        refine JL.val (v := .bool false) (QV.eq (QV.move rfl) (congrArg Value.bool (decide_eq_false h16))) rfl rfl rfl ?_
        refine JL.val (v := s1.v) (QV.move rfl) rfl rfl rfl ?_
        refine JL.val (v := .int .i64 ((x2).length : Int)) (QV.len (Rdg.vw 1 rfl) Try.underlying33 rfl) rfl rfl rfl ?_
        refine JL.val (v := .bool (decide ((300 : Int) < ((x2).length : Int)))) (QV.gtr rfl rfl) rfl rfl rfl ?_
        refine JL.val (v := .bool (decide ((300 : Int) < ((x2).length : Int)))) (QV.pickF rfl rfl) rfl rfl rfl ?_
        rcases ite_inv hm with ⟨h21, hm⟩ | ⟨h21, hm⟩
        ·
          refine JL.val (v := .bool true) (QV.eq (QV.move rfl) (congrArg Value.bool (decide_eq_true h21))) rfl rfl rfl ?_
          refine JL.skip (d := some 30) rfl rfl rfl ?_
          refine JL.skip (d := some 31) rfl rfl rfl ?_
          refine JL.skip (d := some 32) rfl rfl rfl ?_
          refine JL.skip (d := some 33) rfl rfl rfl ?_
          refine JL.skip (d := some 34) rfl rfl rfl ?_
          refine JL.val (v := .bool true) (QV.pickT rfl rfl) rfl rfl rfl ?_
          refine JL.nil ?_
          refine QJ.then_normal ?_
          refine JC.condT rfl ?_
          refine JC.seq ?_
          refine JC.region ?_
          refine JL.val (v := z10.v) (QV.move rfl) rfl rfl rfl ?_
          refine JL.val (v := .int .i64 ((y8.1).length : Int)) (QV.len (Rdg.of 0 rfl) Try.underlying34 rfl) rfl rfl rfl ?_
          refine JL.val (v := .bool (decide (((y8.1).length : Int) = (0 : Int)))) (QV.eql rfl rfl) rfl rfl rfl ?_
          rcases ite_inv hm with ⟨h22, hm⟩ | ⟨h22, hm⟩
          ·
            refine JL.val (v := .bool true) (QV.eq (QV.move rfl) (congrArg Value.bool (decide_eq_true h22))) rfl rfl rfl ?_
            refine JL.val (v := .int .i64 y8.2) (QV.move rfl) rfl rfl rfl ?_
            refine JL.val (v := .bool (decide (y8.2 = (1 : Int)))) (QV.eql rfl rfl) rfl rfl rfl ?_
            refine JL.val (v := .bool (decide (y8.2 = (1 : Int)))) (QV.pickT rfl rfl) rfl rfl rfl ?_
            rcases ite_inv hm with ⟨h23, hm⟩ | ⟨h23, hm⟩
            ·
              refine JL.val (v := .bool true) (QV.eq (QV.move rfl) (congrArg Value.bool (decide_eq_true h23))) rfl rfl rfl ?_
              obtain ⟨y24, hc25, hm⟩ := bind_inv hm
              refine JL.mv (d := some 44) (MV.call (Lo := []) (Lr := [Asr.of 5 (Enc.int .u8) (z10.v) y8.1, Asr.vw (Enc.int .u32) (s1.v) x2]) (F19.spec _ hc25) rfl Try.func19 rfl rfl rfl [] [0, 1] rfl rfl rfl trivial) rfl rfl rfl ?_
              rintro _ _ ⟨_, ⟨rfl, rfl⟩, rfl⟩
              refine JL.val (v := .bool y24) (QV.pickT rfl rfl) rfl rfl rfl ?_
              refine JL.val (v := .bool y24) (QV.assign rfl) rfl rfl rfl ?_
              refine JL.nil ?_
              refine QJ.then_normal ?_
              refine JC.ret ?_
              refine QJ.then_ret ?_
              obtain rfl := Option.some.inj hm
              exact QJ.body (vs := [.bool y24]) (.inl rfl) rfl (ResVs.cons (ResV.tmp rfl) ResVs.nil) [] rfl rfl (.inr trivial) ⟨rfl, rfl⟩
            ·
              refine JL.val (v := .bool false) (QV.eq (QV.move rfl) (congrArg Value.bool (decide_eq_false h23))) rfl rfl rfl ?_
              refine JL.skip (d := some 44) rfl rfl rfl ?_
              refine JL.val (v := .bool false) (QV.pickF rfl rfl) rfl rfl rfl ?_
              refine JL.val (v := .bool false) (QV.assign rfl) rfl rfl rfl ?_
              refine JL.nil ?_
              refine QJ.then_normal ?_
              refine JC.ret ?_
              refine QJ.then_ret ?_
              obtain rfl := Option.some.inj hm
              exact QJ.body (vs := [.bool false]) (.inl rfl) rfl (ResVs.cons (ResV.tmp rfl) ResVs.nil) [] rfl rfl (.inr trivial) ⟨rfl, rfl⟩
          ·
            refine JL.val (v := .bool false) (QV.eq (QV.move rfl) (congrArg Value.bool (decide_eq_false h22))) rfl rfl rfl ?_
            refine JL.skip (d := some 40) rfl rfl rfl ?_
            refine JL.skip (d := some 41) rfl rfl rfl ?_
            refine JL.val (v := .bool false) (QV.pickF rfl rfl) rfl rfl rfl ?_
            refine JL.val (v := .bool false) (QV.move rfl) rfl rfl rfl ?_
            refine JL.skip (d := some 44) rfl rfl rfl ?_
            refine JL.val (v := .bool false) (QV.pickF rfl rfl) rfl rfl rfl ?_
            refine JL.val (v := .bool false) (QV.assign rfl) rfl rfl rfl ?_
            refine JL.nil ?_
            refine QJ.then_normal ?_
            refine JC.ret ?_
            refine QJ.then_ret ?_
            obtain rfl := Option.some.inj hm
            exact QJ.body (vs := [.bool false]) (.inl rfl) rfl (ResVs.cons (ResV.tmp rfl) ResVs.nil) [] rfl rfl (.inr trivial) ⟨rfl, rfl⟩
        ·
          refine JL.val (v := .bool false) (QV.eq (QV.move rfl) (congrArg Value.bool (decide_eq_false h21))) rfl rfl rfl ?_
          refine JL.val (v := s1.v) (QV.move rfl) rfl rfl rfl ?_
          obtain ⟨y26, hc27, hm⟩ := bind_inv hm
          refine JL.mv (d := some 31) (MV.call (Lo := []) (Lr := [Asr.of 5 (Enc.int .u8) (z10.v) y8.1, Asr.vw (Enc.int .u32) (s1.v) x2]) (F22.spec (s1) (x2) _ hc27) rfl Try.func22 rfl rfl rfl [] [0, 1] rfl rfl rfl ⟨(Drv.vw 1 rfl), trivial⟩) rfl rfl rfl ?_
          rintro _ _ ⟨_, ⟨rfl, rfl⟩, rfl⟩
          refine JL.val (v := .int .i64 x3) (QV.move rfl) rfl rfl rfl ?_
          obtain ⟨y28, hc29, hm⟩ := bind_inv hm
          refine JL.mv (d := some 33) (MV.call (Lo := []) (Lr := [Asr.of 5 (Enc.int .u8) (z10.v) y8.1, Asr.vw (Enc.int .u32) (s1.v) x2]) (F21.spec (y26) (x3) _ hc29) rfl Try.func21 rfl rfl rfl [] [0, 1] rfl rfl rfl trivial) rfl rfl rfl ?_
          rintro _ _ ⟨_, ⟨rfl, rfl⟩, rfl⟩
          refine JL.val (v := .bool (!y28)) (QV.not rfl) rfl rfl rfl ?_
          refine JL.val (v := .bool (!y28)) (QV.pickF rfl rfl) rfl rfl rfl ?_
          refine JL.nil ?_
          refine QJ.then_normal ?_
          rcases ite_inv hm with ⟨h30, hm⟩ | ⟨h30, hm⟩
          ·
            refine JC.condF' rfl (congrArg Bool.not h30) ?_
            refine JC.skip ?_
            refine QJ.then_normal ?_
            refine JC.seq ?_
            refine JC.seq ?_
            refine JC.region ?_
            refine JL.val (v := .int .i64 y8.2) (QV.move rfl) rfl rfl rfl ?_
            refine JL.val (v := .bool (!(decide (y8.2 = (0 : Int))))) (QV.neq rfl rfl) rfl rfl rfl ?_
            rcases ite_inv hm with ⟨h31, hm⟩ | ⟨h31, hm⟩
            ·
              refine JL.val (v := .bool false) (QV.eq (QV.move rfl) (congrArg Value.bool (congrArg Bool.not (decide_eq_true h31)))) rfl rfl rfl ?_
              refine JL.val (v := z10.v) (QV.move rfl) rfl rfl rfl ?_
              refine JL.val (v := .int .i64 ((y8.1).length : Int)) (QV.len (Rdg.of 0 rfl) Try.underlying34 rfl) rfl rfl rfl ?_
              refine JL.val (v := s1.v) (QV.move rfl) rfl rfl rfl ?_
              refine JL.val (v := .int .i64 ((x2).length : Int)) (QV.len (Rdg.vw 1 rfl) Try.underlying33 rfl) rfl rfl rfl ?_
              refine JL.val (v := .bool (!(decide (((y8.1).length : Int) = ((x2).length : Int))))) (QV.neq rfl rfl) rfl rfl rfl ?_
              refine JL.val (v := .bool (!(decide (((y8.1).length : Int) = ((x2).length : Int))))) (QV.pickF rfl rfl) rfl rfl rfl ?_
              rcases ite_inv hm with ⟨h32, hm⟩ | ⟨h32, hm⟩
              ·
                refine JL.val (v := .bool false) (QV.eq (QV.move rfl) (congrArg Value.bool (congrArg Bool.not (decide_eq_true h32)))) rfl rfl rfl ?_
                refine JL.val (v := z10.v) (QV.move rfl) rfl rfl rfl ?_
                obtain ⟨y33, hc34, hm⟩ := bind_inv hm
                refine JL.mv (d := some 57) (MV.call (Lo := []) (Lr := [Asr.of 5 (Enc.int .u8) (z10.v) y8.1, Asr.vw (Enc.int .u32) (s1.v) x2]) (F23.spec (z10) (y8.1) _ hc34) rfl Try.func23 rfl rfl rfl [] [0, 1] rfl rfl rfl ⟨(Drv.of 0 rfl), trivial⟩) rfl rfl rfl ?_
                rintro _ _ ⟨_, ⟨rfl, rfl⟩, rfl⟩
                refine JL.val (v := .bool (!y33)) (QV.not rfl) rfl rfl rfl ?_
                refine JL.val (v := .bool (!y33)) (QV.pickF rfl rfl) rfl rfl rfl ?_
                refine JL.nil ?_
                refine QJ.then_normal ?_
                rcases ite_inv hm with ⟨h35, hm⟩ | ⟨h35, hm⟩
                ·
                  refine JC.condF' rfl (congrArg Bool.not h35) ?_
                  refine JC.skip ?_
                  refine QJ.then_normal ?_
                  refine JC.seq ?_
                  refine JC.seq ?_
                  refine JC.region ?_
                  refine JL.val (v := .int .i64 (0 : Int)) (QV.assign rfl) rfl rfl rfl ?_
                  refine JL.nil ?_
                  refine QJ.then_normal ?_
                  refine JC.cutK (Y := Unit × Unit) (fun y => match y with | (_, _) => F6.j1 x2 y8 = some r) (fun y => match y with | (_, _) => [(0, s1.v), (5, z10.v)]) (fun y => match y with | (_, _) => [Asr.vw (Enc.int .u32) (s1.v) x2, Asr.of 5 (Enc.int .u8) (z10.v) y8.1]) ?_ ?_
                  ·
                    rintro ⟨⟨⟩, ⟨⟩⟩ hm
                    unfold F6.j1 at hm
                    show QJ _ _ [(0, s1.v), (5, z10.v)] [Asr.vw (Enc.int .u32) (s1.v) x2, Asr.of 5 (Enc.int .u8) (z10.v) y8.1] _ _
                    refine QJ.then_normal ?_
                    refine JC.seq ?_
                    refine JC.region ?_
                    refine JL.val (v := s1.v) (QV.move rfl) rfl rfl rfl ?_
                    refine JL.val (v := z10.v) (QV.move rfl) rfl rfl rfl ?_
                    obtain ⟨y36, hc37, hm⟩ := bind_inv hm
                    refine JL.mv (d := some 88) (MV.call (Lo := []) (Lr := [Asr.vw (Enc.int .u32) (s1.v) x2, Asr.of 5 (Enc.int .u8) (z10.v) y8.1]) (F24.spec (s1) (z10) (x2) (y8.1) _ hc37) rfl Try.func24 rfl rfl rfl [] [0, 1] rfl rfl rfl ⟨(Drv.vw 0 rfl), ⟨(Drv.of 1 rfl), trivial⟩⟩) rfl rfl rfl ?_
                    rintro _ _ ⟨_, ⟨rfl, rfl⟩, rfl⟩
                    refine JL.val (v := s1.v) (QV.move rfl) rfl rfl rfl ?_
                    refine JL.val (v := z10.v) (QV.move rfl) rfl rfl rfl ?_
                    obtain ⟨y38, hc39, hm⟩ := bind_inv hm
                    refine JL.mv (d := some 91) (MV.call (Lo := []) (Lr := [Asr.vw (Enc.int .u32) (s1.v) x2, Asr.of 5 (Enc.int .u8) (z10.v) y8.1]) (F25.spec (s1) (z10) (x2) (y8.1) _ hc39) rfl Try.func25 rfl rfl rfl [] [0, 1] rfl rfl rfl ⟨(Drv.vw 0 rfl), ⟨(Drv.of 1 rfl), trivial⟩⟩) rfl rfl rfl ?_
                    rintro _ _ ⟨_, ⟨rfl, rfl⟩, rfl⟩
                    refine JL.val (v := .bool (decide (y36 = y38))) (QV.eql rfl rfl) rfl rfl rfl ?_
                    rcases ite_inv hm with ⟨h40, hm⟩ | ⟨h40, hm⟩
                    ·
                      refine JL.val (v := .bool true) (QV.eq (QV.move rfl) (congrArg Value.bool (decide_eq_true h40))) rfl rfl rfl ?_
                      obtain ⟨y41, hc42, hm⟩ := bind_inv hm
                      refine JL.mv (d := some 94) (MV.call (Lo := []) (Lr := [Asr.vw (Enc.int .u32) (s1.v) x2, Asr.of 5 (Enc.int .u8) (z10.v) y8.1]) (F19.spec _ hc42) rfl Try.func19 rfl rfl rfl [] [0, 1] rfl rfl rfl trivial) rfl rfl rfl ?_
                      rintro _ _ ⟨_, ⟨rfl, rfl⟩, rfl⟩
                      refine JL.val (v := .bool y41) (QV.pickT rfl rfl) rfl rfl rfl ?_
                      refine JL.val (v := .bool y41) (QV.assign rfl) rfl rfl rfl ?_
                      refine JL.nil ?_
                      refine QJ.then_normal ?_
                      refine JC.ret ?_
                      obtain rfl := Option.some.inj hm
                      exact QJ.body (vs := [.bool y41]) (.inl rfl) rfl (ResVs.cons (ResV.tmp rfl) ResVs.nil) [] rfl rfl (.inr trivial) ⟨rfl, rfl⟩
                    ·
                      refine JL.val (v := .bool false) (QV.eq (QV.move rfl) (congrArg Value.bool (decide_eq_false h40))) rfl rfl rfl ?_
                      refine JL.skip (d := some 94) rfl rfl rfl ?_
                      refine JL.val (v := .bool false) (QV.pickF rfl rfl) rfl rfl rfl ?_
                      refine JL.val (v := .bool false) (QV.assign rfl) rfl rfl rfl ?_
                      refine JL.nil ?_
                      refine QJ.then_normal ?_
                      refine JC.ret ?_
                      obtain rfl := Option.some.inj hm
                      exact QJ.body (vs := [.bool false]) (.inl rfl) rfl (ResVs.cons (ResV.tmp rfl) ResVs.nil) [] rfl rfl (.inr trivial) ⟨rfl, rfl⟩
                  ·
                    refine JC.block ?_
                    obtain ⟨y45, hl46, hmo47⟩ := bind_inv hm
                    refine JC.loop (F6.b1 x2 x3 y8) (fun x z => match x, z with | d43, _ => [(0, s1.v), (1, .int .i64 x3), (5, z10.v), (7, .int .i64 d43)]) (fun x z => match x, z with | d43, _ => [Asr.vw (Enc.int .u32) (s1.v) x2, Asr.of 5 (Enc.int .u8) (z10.v) y8.1]) (0 : Int) () y45 hl46 [1, 0] (by exact ⟨rfl, rfl, rfl, rfl, trivial⟩) rfl rfl ?_
                    rintro d43 ⟨⟩ s48 hm
                    unfold F6.b1 at hm
                    dsimp only at hm
                    show JC _ _ _ [(0, s1.v), (1, .int .i64 x3), (5, z10.v), (7, .int .i64 d43)] [Asr.vw (Enc.int .u32) (s1.v) x2, Asr.of 5 (Enc.int .u8) (z10.v) y8.1] _ _
                    refine JC.seq ?_
                    refine JC.seq ?_
                    refine JC.region ?_
                    refine JL.val (v := .int .i64 d43) (QV.move rfl) rfl rfl rfl ?_
                    refine JL.val (v := z10.v) (QV.move rfl) rfl rfl rfl ?_
                    refine JL.val (v := .int .i64 ((y8.1).length : Int)) (QV.len (Rdg.of 1 rfl) Try.underlying34 rfl) rfl rfl rfl ?_
                    refine JL.val (v := .bool (decide (d43 < ((y8.1).length : Int)))) (QV.lss rfl rfl) rfl rfl rfl ?_
                    refine JL.nil ?_
                    refine QJ.then_normal ?_
                    rcases ite_inv hm with ⟨h49, hm⟩ | ⟨h49, hm⟩
                    ·
                      refine JC.condT' rfl (decide_eq_true h49) ?_
                      refine JC.skip ?_
                      refine QJ.then_normal ?_
                      refine JC.seq ?_
                      refine JC.block ?_
                      refine JC.seq ?_
                      refine JC.regionT [Asr.vw (Enc.int .u32) (s1.v) x2, Asr.of 5 (Enc.int .u8) (z10.v) y8.1] (fun t => false) [(0, true), (1, true), (2, true), (3, true), (4, true), (5, true), (6, false), (7, false), (8, false), (9, false), (10, false), (11, false), (12, true), (13, true), (14, true), (15, true), (16, true), (17, false), (18, false), (19, false)] (by kernel_rfl) (by kernel_rfl) (by kernel_rfl) rfl (fun hsel => ?_)
                      refine JT.take (i := 0) (v := z10.v) hsel rfl (QV.move rfl) rfl rfl rfl rfl [0, 1] rfl rfl ?_
                      refine JT.take (i := 1) (v := .int .i64 d43) hsel rfl (QV.move rfl) rfl rfl rfl rfl [0, 1] rfl rfl ?_
                      obtain ⟨h50, hm⟩ := guard_inv hm
                      refine JT.take (i := 2) (v := .pointer (some (elA (z10.v) (Int.toNat d43 * ((Enc.int .u8)).sz)))) hsel rfl (QV.indexA (Rdg.of 1 rfl) Try.underlying34 tk_5 rfl rfl h50) rfl rfl rfl rfl [0, 1] rfl rfl ?_
                      refine JT.take (i := 3) (v := .int .u8 (gd y8.1 d43)) hsel rfl (QV.el1 (Rdg.of 1 rfl) tk_5 rfl h50 rfl) rfl rfl rfl rfl [0, 1] rfl rfl ?_
                      refine JT.take (i := 4) (v := .bool (decide ((0 : Int) < (gd y8.1 d43)))) hsel rfl (QV.gtr rfl rfl) rfl rfl rfl rfl [0, 1] rfl rfl ?_
                      refine JT.take (i := 5) (v := s1.v) hsel rfl (QV.move rfl) rfl rfl rfl rfl [0, 1] rfl rfl ?_
                      refine JT.only (i := 6) (d := some 72) rfl (MV.ofQV (v := .int .i64 d43) (QV.move rfl)) rfl rfl rfl ?_
                      rintro _ _ ⟨rfl, rfl⟩
                      refine ⟨fun _ => ⟨[0, 1], rfl, rfl⟩, ?_⟩
                      obtain ⟨h51, hm⟩ := guard_inv hm
                      refine JT.only (i := 7) (d := some 73) rfl (MV.ofQV (v := .pointer (some (elA (s1.v) (Int.toNat d43 * ((Enc.int .u32)).sz)))) (QV.indexA (Rdg.vw 0 rfl) Try.underlying33 tk_40 rfl rfl h51)) rfl rfl rfl ?_
                      rintro _ _ ⟨rfl, rfl⟩
                      refine ⟨fun _ => ⟨[0, 1], rfl, rfl⟩, ?_⟩
                      refine JT.only (i := 8) (d := some 74) rfl (MV.ofQV (v := .int .u32 (gd x2 d43)) (QV.el1 (Rdg.vw 0 rfl) tk_40 rfl h51 rfl)) rfl rfl rfl ?_
                      rintro _ _ ⟨rfl, rfl⟩
                      refine ⟨fun _ => ⟨[0, 1], rfl, rfl⟩, ?_⟩
                      refine JT.only (i := 9) (d := some 75) rfl (MV.ofQV (v := .bool (decide ((0 : Int) < (gd x2 d43)))) (QV.gtr rfl rfl)) rfl rfl rfl ?_
                      rintro _ _ ⟨rfl, rfl⟩
                      refine ⟨fun _ => ⟨[0, 1], rfl, rfl⟩, ?_⟩
                      refine JT.only (i := 10) (d := some 76) rfl (MV.ofQV (v := .bool (!((decide ((0 : Int) < (gd y8.1 d43))) == (decide ((0 : Int) < (gd x2 d43)))))) (QV.neqB Try.underlying4 rfl rfl)) rfl rfl rfl ?_
                      rintro _ _ ⟨rfl, rfl⟩
                      refine ⟨fun _ => ⟨[0, 1], rfl, rfl⟩, ?_⟩
                      rcases ite_inv hm with ⟨h52, hm⟩ | ⟨h52, hm⟩
                      ·
                        refine JT.only (i := 11) (d := some 77) rfl (MV.ofQV (v := .bool false) (QV.eq (QV.move rfl) (congrArg Value.bool (congrArg Bool.not h52)))) rfl rfl rfl ?_
                        rintro _ _ ⟨rfl, rfl⟩
                        refine ⟨fun _ => ⟨[0, 1], rfl, rfl⟩, ?_⟩
                        refine JT.take (i := 12) (v := z10.v) hsel rfl (QV.move rfl) rfl rfl rfl rfl [0, 1] rfl rfl ?_
                        refine JT.take (i := 13) (v := .int .i64 d43) hsel rfl (QV.move rfl) rfl rfl rfl rfl [0, 1] rfl rfl ?_
                        refine JT.take (i := 14) (v := .pointer (some (elA (z10.v) (Int.toNat d43 * ((Enc.int .u8)).sz)))) hsel rfl (QV.indexA (Rdg.of 1 rfl) Try.underlying34 tk_5 rfl rfl h50) rfl rfl rfl rfl [0, 1] rfl rfl ?_
                        refine JT.take (i := 15) (v := .int .u8 (gd y8.1 d43)) hsel rfl (QV.el1 (Rdg.of 1 rfl) tk_5 rfl h50 rfl) rfl rfl rfl rfl [0, 1] rfl rfl ?_
                        refine JT.take (i := 16) (v := .int .i64 (IntKind.wrap .i64 (gd y8.1 d43))) hsel rfl (QV.conv rfl (by rw [Try.underlying5]; rfl) Try.underlying3) rfl rfl rfl rfl [0, 1] rfl rfl ?_
                        refine JT.only (i := 17) (d := some 83) rfl (MV.ofQV (v := .int .i64 x3) (QV.move rfl)) rfl rfl rfl ?_
                        rintro _ _ ⟨rfl, rfl⟩
                        refine ⟨fun _ => ⟨[0, 1], rfl, rfl⟩, ?_⟩
                        refine JT.only (i := 18) (d := some 84) rfl (MV.ofQV (v := .bool (decide (x3 < (IntKind.wrap .i64 (gd y8.1 d43))))) (QV.gtr rfl rfl)) rfl rfl rfl ?_
                        rintro _ _ ⟨rfl, rfl⟩
                        refine ⟨fun _ => ⟨[0, 1], rfl, rfl⟩, ?_⟩
                        refine JT.only (i := 19) (d := some 85) rfl (MV.ofQV (v := .bool (decide (x3 < (IntKind.wrap .i64 (gd y8.1 d43))))) (QV.pickF rfl rfl)) rfl rfl rfl ?_
                        rintro _ _ ⟨rfl, rfl⟩
                        refine ⟨fun _ => ⟨[0, 1], rfl, rfl⟩, ?_⟩
                        refine JT.nil ?_
                        refine QJ.then_normal ?_
                        rcases ite_inv hm with ⟨h53, hm⟩ | ⟨h53, hm⟩
                        ·
                          refine JC.condT' rfl (decide_eq_true h53) ?_
                          refine JC.seq ?_
                          refine JC.region ?_
                          refine JL.val (v := .bool false) (QV.assign rfl) rfl rfl rfl ?_
                          refine JL.nil ?_
                          refine QJ.then_normal ?_
                          refine JC.ret ?_
                          refine QJ.block_ret ?_
                          refine QJ.then_ret ?_
                          obtain rfl := Option.some.inj hm
                          refine QJ.round_ret (fun hy => ?_)
                          subst hy
                          refine QJ.block_ret ?_
                          refine QJ.cut_ret ?_
                          refine QJ.then_ret ?_
                          obtain rfl := Option.some.inj hmo47
                          exact QJ.body (vs := [.bool false]) (.inl rfl) rfl (ResVs.cons (ResV.tmp rfl) ResVs.nil) [] rfl rfl (.inr trivial) ⟨rfl, rfl⟩
                        ·
                          refine JC.condF' rfl (decide_eq_false h53) ?_
                          refine JC.skip ?_
                          refine QJ.block_normal ?_
                          refine QJ.then_normal ?_
                          refine JC.region ?_
                          refine JL.val (v := .int .i64 d43) (QV.move rfl) rfl rfl rfl ?_
                          refine JL.val (v := .int .i64 (IntKind.wrap .i64 (d43 + (1 : Int)))) (QV.add rfl rfl) rfl rfl rfl ?_
                          refine JL.val (v := .int .i64 (IntKind.wrap .i64 (d43 + (1 : Int)))) (QV.assign rfl) rfl rfl rfl ?_
                          refine JL.nil ?_
                          obtain rfl := Option.some.inj hm
                          exact QJ.round_on (IntKind.wrap .i64 (d43 + (1 : Int))) () [0, 1] (by exact ⟨rfl, rfl, rfl, rfl, trivial⟩) rfl rfl
                      ·
                        refine JT.only (i := 11) (d := some 77) rfl (MV.ofQV (v := .bool true) (QV.eq (QV.move rfl) (congrArg Value.bool (congrArg Bool.not (bfalse h52))))) rfl rfl rfl ?_
                        rintro _ _ ⟨rfl, rfl⟩
                        refine ⟨fun _ => ⟨[0, 1], rfl, rfl⟩, ?_⟩
                        refine JT.skip (i := 12) (d := some 78) hsel rfl rfl rfl rfl rfl [0, 1] rfl rfl ?_
                        refine JT.skip (i := 13) (d := some 79) hsel rfl rfl rfl rfl rfl [0, 1] rfl rfl ?_
                        refine JT.skip (i := 14) (d := some 80) hsel rfl rfl rfl rfl rfl [0, 1] rfl rfl ?_
                        refine JT.skip (i := 15) (d := some 81) hsel rfl rfl rfl rfl rfl [0, 1] rfl rfl ?_
                        refine JT.skip (i := 16) (d := some 82) hsel rfl rfl rfl rfl rfl [0, 1] rfl rfl ?_
                        refine JT.skipO (i := 17) (d := some 83) rfl rfl rfl rfl [0, 1] rfl rfl ?_
                        refine JT.skipO (i := 18) (d := some 84) rfl rfl rfl rfl [0, 1] rfl rfl ?_
                        refine JT.only (i := 19) (d := some 85) rfl (MV.ofQV (v := .bool true) (QV.pickT rfl rfl)) rfl rfl rfl ?_
                        rintro _ _ ⟨rfl, rfl⟩
                        refine ⟨fun _ => ⟨[0, 1], rfl, rfl⟩, ?_⟩
                        refine JT.nil ?_
                        refine QJ.then_normal ?_
                        refine JC.condT rfl ?_
                        refine JC.seq ?_
                        refine JC.region ?_
                        refine JL.val (v := .bool false) (QV.assign rfl) rfl rfl rfl ?_
                        refine JL.nil ?_
                        refine QJ.then_normal ?_
                        refine JC.ret ?_
                        refine QJ.block_ret ?_
                        refine QJ.then_ret ?_
                        obtain rfl := Option.some.inj hm
                        refine QJ.round_ret (fun hy => ?_)
                        subst hy
                        refine QJ.block_ret ?_
                        refine QJ.cut_ret ?_
                        refine QJ.then_ret ?_
                        obtain rfl := Option.some.inj hmo47
                        exact QJ.body (vs := [.bool false]) (.inl rfl) rfl (ResVs.cons (ResV.tmp rfl) ResVs.nil) [] rfl rfl (.inr trivial) ⟨rfl, rfl⟩
                    ·
                      refine JC.condF' rfl (decide_eq_false h49) ?_
                      refine JC.exit ?_
                      refine QJ.then_exit ?_
                      obtain rfl := Option.some.inj hm
                      refine QJ.round_exit (fun hy => ?_)
                      subst hy
                      refine QJ.block_hit ?_
                      exact QJ.cut_normal ((), ()) hmo47 [0, 1] (by exact ⟨rfl, rfl, trivial⟩) rfl rfl
                ·
                  refine JC.condT' rfl (congrArg Bool.not (bfalse h35)) ?_
                  refine JC.seq ?_
                  refine JC.region ?_
                  refine JL.val (v := .bool false) (QV.assign rfl) rfl rfl rfl ?_
                  refine JL.nil ?_
                  refine QJ.then_normal ?_
                  refine JC.ret ?_
                  refine QJ.then_ret ?_
                  obtain rfl := Option.some.inj hm
                  exact QJ.body (vs := [.bool false]) (.inl rfl) rfl (ResVs.cons (ResV.tmp rfl) ResVs.nil) [] rfl rfl (.inr trivial) ⟨rfl, rfl⟩
              ·
                refine JL.val (v := .bool true) (QV.eq (QV.move rfl) (congrArg Value.bool (congrArg Bool.not (decide_eq_false h32)))) rfl rfl rfl ?_
                refine JL.skip (d := some 56) rfl rfl rfl ?_
                refine JL.skip (d := some 57) rfl rfl rfl ?_
                refine JL.skip (d := some 58) rfl rfl rfl ?_
                refine JL.val (v := .bool true) (QV.pickT rfl rfl) rfl rfl rfl ?_
                refine JL.nil ?_
                refine QJ.then_normal ?_
                refine JC.condT rfl ?_
                refine JC.seq ?_
                refine JC.region ?_
                refine JL.val (v := .bool false) (QV.assign rfl) rfl rfl rfl ?_
                refine JL.nil ?_
                refine QJ.then_normal ?_
                refine JC.ret ?_
                refine QJ.then_ret ?_
                obtain rfl := Option.some.inj hm
                exact QJ.body (vs := [.bool false]) (.inl rfl) rfl (ResVs.cons (ResV.tmp rfl) ResVs.nil) [] rfl rfl (.inr trivial) ⟨rfl, rfl⟩
            ·
              refine JL.val (v := .bool true) (QV.eq (QV.move rfl) (congrArg Value.bool (congrArg Bool.not (decide_eq_false h31)))) rfl rfl rfl ?_
              refine JL.skip (d := some 49) rfl rfl rfl ?_
              refine JL.skip (d := some 50) rfl rfl rfl ?_
              refine JL.skip (d := some 51) rfl rfl rfl ?_
              refine JL.skip (d := some 52) rfl rfl rfl ?_
              refine JL.skip (d := some 53) rfl rfl rfl ?_
              refine JL.val (v := .bool true) (QV.pickT rfl rfl) rfl rfl rfl ?_
              refine JL.val (v := .bool true) (QV.move rfl) rfl rfl rfl ?_
              refine JL.skip (d := some 56) rfl rfl rfl ?_
              refine JL.skip (d := some 57) rfl rfl rfl ?_
              refine JL.skip (d := some 58) rfl rfl rfl ?_
              refine JL.val (v := .bool true) (QV.pickT rfl rfl) rfl rfl rfl ?_
              refine JL.nil ?_
              refine QJ.then_normal ?_
              refine JC.condT rfl ?_
              refine JC.seq ?_
              refine JC.region ?_
              refine JL.val (v := .bool false) (QV.assign rfl) rfl rfl rfl ?_
              refine JL.nil ?_
              refine QJ.then_normal ?_
              refine JC.ret ?_
              refine QJ.then_ret ?_
              obtain rfl := Option.some.inj hm
              exact QJ.body (vs := [.bool false]) (.inl rfl) rfl (ResVs.cons (ResV.tmp rfl) ResVs.nil) [] rfl rfl (.inr trivial) ⟨rfl, rfl⟩
          ·
            refine JC.condT' rfl (congrArg Bool.not (bfalse h30)) ?_
            refine JC.seq ?_
            refine JC.region ?_
            refine JL.val (v := z10.v) (QV.move rfl) rfl rfl rfl ?_
            refine JL.val (v := .int .i64 ((y8.1).length : Int)) (QV.len (Rdg.of 0 rfl) Try.underlying34 rfl) rfl rfl rfl ?_
            refine JL.val (v := .bool (decide (((y8.1).length : Int) = (0 : Int)))) (QV.eql rfl rfl) rfl rfl rfl ?_
            rcases ite_inv hm with ⟨h54, hm⟩ | ⟨h54, hm⟩
            ·
              refine JL.val (v := .bool true) (QV.eq (QV.move rfl) (congrArg Value.bool (decide_eq_true h54))) rfl rfl rfl ?_
              refine JL.val (v := .int .i64 y8.2) (QV.move rfl) rfl rfl rfl ?_
              refine JL.val (v := .bool (decide (y8.2 = (1 : Int)))) (QV.eql rfl rfl) rfl rfl rfl ?_
              refine JL.val (v := .bool (decide (y8.2 = (1 : Int)))) (QV.pickT rfl rfl) rfl rfl rfl ?_
              rcases ite_inv hm with ⟨h55, hm⟩ | ⟨h55, hm⟩
              ·
                refine JL.val (v := .bool true) (QV.eq (QV.move rfl) (congrArg Value.bool (decide_eq_true h55))) rfl rfl rfl ?_
                obtain ⟨y56, hc57, hm⟩ := bind_inv hm
                refine JL.mv (d := some 44) (MV.call (Lo := []) (Lr := [Asr.of 5 (Enc.int .u8) (z10.v) y8.1, Asr.vw (Enc.int .u32) (s1.v) x2]) (F19.spec _ hc57) rfl Try.func19 rfl rfl rfl [] [0, 1] rfl rfl rfl trivial) rfl rfl rfl ?_
                rintro _ _ ⟨_, ⟨rfl, rfl⟩, rfl⟩
                refine JL.val (v := .bool y56) (QV.pickT rfl rfl) rfl rfl rfl ?_
                refine JL.val (v := .bool y56) (QV.assign rfl) rfl rfl rfl ?_
                refine JL.nil ?_
                refine QJ.then_normal ?_
                refine JC.ret ?_
                refine QJ.then_ret ?_
                obtain rfl := Option.some.inj hm
                exact QJ.body (vs := [.bool y56]) (.inl rfl) rfl (ResVs.cons (ResV.tmp rfl) ResVs.nil) [] rfl rfl (.inr trivial) ⟨rfl, rfl⟩
              ·
                refine JL.val (v := .bool false) (QV.eq (QV.move rfl) (congrArg Value.bool (decide_eq_false h55))) rfl rfl rfl ?_
                refine JL.skip (d := some 44) rfl rfl rfl ?_
                refine JL.val (v := .bool false) (QV.pickF rfl rfl) rfl rfl rfl ?_
                refine JL.val (v := .bool false) (QV.assign rfl) rfl rfl rfl ?_
                refine JL.nil ?_
                refine QJ.then_normal ?_
                refine JC.ret ?_
                refine QJ.then_ret ?_
                obtain rfl := Option.some.inj hm
                exact QJ.body (vs := [.bool false]) (.inl rfl) rfl (ResVs.cons (ResV.tmp rfl) ResVs.nil) [] rfl rfl (.inr trivial) ⟨rfl, rfl⟩
            ·
              refine JL.val (v := .bool false) (QV.eq (QV.move rfl) (congrArg Value.bool (decide_eq_false h54))) rfl rfl rfl ?_
              refine JL.skip (d := some 40) rfl rfl rfl ?_
              refine JL.skip (d := some 41) rfl rfl rfl ?_
              refine JL.val (v := .bool false) (QV.pickF rfl rfl) rfl rfl rfl ?_
              refine JL.val (v := .bool false) (QV.move rfl) rfl rfl rfl ?_
              refine JL.skip (d := some 44) rfl rfl rfl ?_
              refine JL.val (v := .bool false) (QV.pickF rfl rfl) rfl rfl rfl ?_
              refine JL.val (v := .bool false) (QV.assign rfl) rfl rfl rfl ?_
              refine JL.nil ?_
              refine QJ.then_normal ?_
              refine JC.ret ?_
              refine QJ.then_ret ?_
              obtain rfl := Option.some.inj hm
              exact QJ.body (vs := [.bool false]) (.inl rfl) rfl (ResVs.cons (ResV.tmp rfl) ResVs.nil) [] rfl rfl (.inr trivial) ⟨rfl, rfl⟩

end Go.Proofs.Ytgganckggdjpaaa
