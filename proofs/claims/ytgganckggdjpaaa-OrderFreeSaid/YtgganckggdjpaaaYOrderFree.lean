/- Written by gen.py: functions and their contracts. -/
import Derived.Test.YtgganckggdjpaaaOrd
namespace Go.Proofs.Ytgganckggdjpaaa
open Go Go.Eng Go.Proofs
set_option linter.unusedVariables false
set_option linter.unusedSimpArgs false
/-! ### 3: drogher/drogherlaw19.OrderFree -/
noncomputable def F3.j1  (d12 : List (List Int)) : Option Bool :=
  ((F13.m (d12)).bind fun y14 => (if y14.2.2 = (0 : Int) then (if ((y14.2.1).length : Int) = (0 : Int) then (if ((y14.1).length : Int) = ((d12).length : Int) then ((F14.m (d12) (y14.1) (([] : List Int))).bind fun y21 => (if y21 = true then ((F12.m).bind fun y24 => some y24) else some false)) else some false) else some false) else some false))
noncomputable def F3.j2 (d29 : Int) (d40 : List (List Int)) : Option ((List (List Int) × Int) ⊕ (List (List Int))) :=
  some (.inl (d40, (IntKind.wrap .i64 (d29 + (1 : Int)))))
noncomputable def F3.j3 (d27 : List (List Int)) (d29 : Int) (d44 : List Int) : Option ((List (List Int) × Int) ⊕ (List (List Int))) :=
  (if ((d27).length + ([d44]).length) * 24 ≤ 140737488355328 ∧ (d27).length + ([d44]).length ≤ 9223372036854775807 then F3.j2 d29 ((d27 ++ [d44])) else none)
noncomputable def F3.j4 (d50 : Int) (d61 : List Int) : Option ((List Int × Int) ⊕ (List Int)) :=
  some (.inl (d61, (IntKind.wrap .i64 (d50 + (1 : Int)))))
noncomputable def F3.j5 (d50 : Int) (d71 : List Int) : Option ((List Int × Int) ⊕ (List Int)) :=
  F3.j4 d50 (d71)
noncomputable def F3.b2 (x2 : List (List Int)) (d29 : Int) : (List Int × Int) → Option ((List Int × Int) ⊕ (List Int))
  | (d49, d50) => (if 0 ≤ d29 ∧ d29 < ((x2).length : Int) then (if d50 < (((gd x2 d29)).length : Int) then (if 0 ≤ d50 ∧ d50 < (((gd x2 d29)).length : Int) then (if (0 : Int) ≤ (gd (gd x2 d29) d50) then (if (gd (gd x2 d29) d50) < d29 then (if ((d49).length : Int) = (0 : Int) then (if ((d49).length + ([(gd (gd x2 d29) d50)]).length) * 8 ≤ 140737488355328 ∧ (d49).length + ([(gd (gd x2 d29) d50)]).length ≤ 9223372036854775807 then F3.j4 d50 ((d49 ++ [(gd (gd x2 d29) d50)])) else none) else (if 0 ≤ (IntKind.wrap .i64 (((d49).length : Int) - (1 : Int))) ∧ (IntKind.wrap .i64 (((d49).length : Int) - (1 : Int))) < ((d49).length : Int) then (if (gd d49 (IntKind.wrap .i64 (((d49).length : Int) - (1 : Int)))) < (gd (gd x2 d29) d50) then (if ((d49).length + ([(gd (gd x2 d29) d50)]).length) * 8 ≤ 140737488355328 ∧ (d49).length + ([(gd (gd x2 d29) d50)]).length ≤ 9223372036854775807 then F3.j5 d50 ((d49 ++ [(gd (gd x2 d29) d50)])) else none) else F3.j5 d50 (d49)) else none)) else F3.j4 d50 (d49)) else F3.j4 d50 (d49)) else none) else some (.inr d49)) else none)
noncomputable def F3.b1 (x2 : List (List Int)) : (List (List Int) × Int) → Option ((List (List Int) × Int) ⊕ (List (List Int)))
  | (d27, d29) => (if d29 < ((x2).length : Int) then ((loop (F3.b2 x2 d29) (([] : List Int), (0 : Int))).bind fun y => match y with | d44 => F3.j3 d27 d29 (d44)) else some (.inr d27))
noncomputable def F3.m (x2 : List (List Int)) : Option Bool :=
  ((F11.m (x2)).bind fun y5 => (if y5 = true then ((F12.m).bind fun y8 => some y8) else ((loop (F3.b1 x2) (([] : List (List Int)), (0 : Int))).bind fun y => match y with | d12 => F3.j1 (d12))))
set_option maxRecDepth 100000 in
set_option maxHeartbeats 4000000 in
theorem F3.spec (s1 : SlV) (z3 : List SlV) (x2 : List (List Int)) (r : Bool) (hm : F3.m x2 = some r) :
    Ctr Try.prog false 3 [s1.v] [Asr.vn (NE.sl (Enc.int .i64)) (s1.v) z3 x2] (fun v L' => v = .bool r ∧ L' = []) := by
  refine Ctr.intro (n := 96) (env := [(0, s1.v)]) Try.func3 rfl rfl rfl rfl (fun c => ?_)
  unfold F3.m at hm
  refine JC.seq ?_
  refine JC.region ?_
  refine JL.val (v := .bool false) (QV.assign rfl) rfl rfl rfl ?_
  refine JL.nil ?_
  refine QJ.then_normal ?_
  refine JC.seq ?_
  refine JC.seq ?_
  refine JC.region ?_
  refine JL.val (v := s1.v) (QV.move rfl) rfl rfl rfl ?_
  obtain ⟨y5, hc6, hm⟩ := bind_inv hm
  refine JL.mv (d := some 12) (MV.call (Lo := []) (Lr := [Asr.vn (NE.sl (Enc.int .i64)) (s1.v) z3 x2]) (F11.spec (s1) (z3) (x2) _ hc6) rfl Try.func11 rfl rfl rfl [] [0] rfl rfl rfl ⟨(Drv.vn 0 rfl), trivial⟩) rfl rfl rfl ?_
  rintro _ _ ⟨_, ⟨rfl, rfl⟩, rfl⟩
  refine JL.nil ?_
  refine QJ.then_normal ?_
  rcases ite_inv hm with ⟨h7, hm⟩ | ⟨h7, hm⟩
  ·
    refine JC.condT' rfl h7 ?_
    refine JC.seq ?_
    refine JC.region ?_
    obtain ⟨y8, hc9, hm⟩ := bind_inv hm
    refine JL.mv (d := some 13) (MV.call (Lo := []) (Lr := [Asr.vn (NE.sl (Enc.int .i64)) (s1.v) z3 x2]) (F12.spec _ hc9) rfl Try.func12 rfl rfl rfl [] [0] rfl rfl rfl trivial) rfl rfl rfl ?_
    rintro _ _ ⟨_, ⟨rfl, rfl⟩, rfl⟩
    refine JL.val (v := .bool y8) (QV.assign rfl) rfl rfl rfl ?_
    refine JL.nil ?_
    refine QJ.then_normal ?_
    refine JC.ret ?_
    refine QJ.then_ret ?_
    obtain rfl := Option.some.inj hm
    exact QJ.body (vs := [.bool y8]) (.inl rfl) rfl (ResVs.cons (ResV.tmp rfl) ResVs.nil) [] rfl rfl (.inr trivial) ⟨rfl, rfl⟩
  ·
    refine JC.condF' rfl (bfalse h7) ?_
    refine JC.skip ?_
    refine QJ.then_normal ?_
    refine JC.seq ?_
    refine JC.region ?_
    refine JL.mv (d := some 14) (MV.lit0V (NE.sl (Enc.int .i64)) Try.underlying22 (by kernel_rfl)) rfl rfl rfl ?_
    rintro _ _ ⟨z10, rfl, rfl⟩
    refine JL.val (v := z10.v) (QV.assign rfl) rfl rfl rfl ?_
    refine JL.nil ?_
    refine QJ.then_normal ?_
    refine JC.seq ?_
    refine JC.seq ?_
    refine JC.region ?_
    refine JL.val (v := .int .i64 (0 : Int)) (QV.assign rfl) rfl rfl rfl ?_
    refine JL.nil ?_
    refine QJ.then_normal ?_
    refine JC.cutK (Y := (List (List Int)) × (SlV × List SlV)) (fun y => match y with | (d12, _) => F3.j1 (d12) = some r) (fun y => match y with | (d12, (z11, z13)) => [(3, z11.v)]) (fun y => match y with | (d12, (z11, z13)) => [Asr.onv 25 (NE.sl (Enc.int .i64)) (z11.v) z13 d12]) ?_ ?_
    ·
      rintro ⟨d12, ⟨z11, z13⟩⟩ hm
      unfold F3.j1 at hm
      show QJ _ _ [(3, z11.v)] [Asr.onv 25 (NE.sl (Enc.int .i64)) (z11.v) z13 d12] _ _
      refine QJ.then_normal ?_
      refine JC.seq ?_
      refine JC.region ?_
      refine JL.val (v := z11.v) (QV.move rfl) rfl rfl rfl ?_
      obtain ⟨y14, hc15, hm⟩ := bind_inv hm
      refine JL.mv (d := some 70) (MV.call (Lo := []) (Lr := [Asr.onv 25 (NE.sl (Enc.int .i64)) (z11.v) z13 d12]) (F13.spec (z11) (z13) (d12) _ hc15) rfl Try.func13 rfl rfl rfl [] [0] rfl rfl rfl ⟨(Drv.onv 0 rfl), trivial⟩) rfl rfl rfl ?_
      rintro _ _ ⟨_, ⟨z16, z17, rfl, rfl⟩, rfl⟩
      refine JL.val (v := .tuple #[z16.v, z17.v, .int .i64 y14.2.2]) (QV.move rfl) rfl rfl rfl ?_
      refine JL.val (v := z16.v) (QV.extract (vs := [z16.v, z17.v, .int .i64 y14.2.2]) rfl rfl) rfl rfl rfl ?_
      refine JL.val (v := z17.v) (QV.extract (vs := [z16.v, z17.v, .int .i64 y14.2.2]) rfl rfl) rfl rfl rfl ?_
      refine JL.val (v := .int .i64 y14.2.2) (QV.extract (vs := [z16.v, z17.v, .int .i64 y14.2.2]) rfl rfl) rfl rfl rfl ?_
      refine JL.val (v := z16.v) (QV.assign rfl) rfl rfl rfl ?_
      refine JL.val (v := z17.v) (QV.assign rfl) rfl rfl rfl ?_
      refine JL.val (v := .int .i64 y14.2.2) (QV.assign rfl) rfl rfl rfl ?_
      refine JL.nil ?_
      refine QJ.then_normal ?_
      refine JC.seq ?_
      refine JC.region ?_
      refine JL.val (v := .int .i64 y14.2.2) (QV.move rfl) rfl rfl rfl ?_
      refine JL.val (v := .bool (decide (y14.2.2 = (0 : Int)))) (QV.eql rfl rfl) rfl rfl rfl ?_
      rcases ite_inv hm with ⟨h18, hm⟩ | ⟨h18, hm⟩
      ·
        refine JL.val (v := .bool true) (QV.eq (QV.move rfl) (congrArg Value.bool (decide_eq_true h18))) rfl rfl rfl ?_
        refine JL.val (v := z17.v) (QV.move rfl) rfl rfl rfl ?_
        refine JL.val (v := .int .i64 ((y14.2.1).length : Int)) (QV.len (Rdg.of 1 rfl) Try.underlying25 rfl) rfl rfl rfl ?_
        refine JL.val (v := .bool (decide (((y14.2.1).length : Int) = (0 : Int)))) (QV.eql rfl rfl) rfl rfl rfl ?_
        refine JL.val (v := .bool (decide (((y14.2.1).length : Int) = (0 : Int)))) (QV.pickT rfl rfl) rfl rfl rfl ?_
        rcases ite_inv hm with ⟨h19, hm⟩ | ⟨h19, hm⟩
        ·
          refine JL.val (v := .bool true) (QV.eq (QV.move rfl) (congrArg Value.bool (decide_eq_true h19))) rfl rfl rfl ?_
          refine JL.val (v := z16.v) (QV.move rfl) rfl rfl rfl ?_
          refine JL.val (v := .int .i64 ((y14.1).length : Int)) (QV.len (Rdg.of 0 rfl) Try.underlying25 rfl) rfl rfl rfl ?_
          refine JL.val (v := z11.v) (QV.move rfl) rfl rfl rfl ?_
          refine JL.val (v := .int .i64 ((d12).length : Int)) (QV.lenN (RdN.onv 2 rfl) Try.underlying22 rfl) rfl rfl rfl ?_
          refine JL.val (v := .bool (decide (((y14.1).length : Int) = ((d12).length : Int)))) (QV.eql rfl rfl) rfl rfl rfl ?_
          refine JL.val (v := .bool (decide (((y14.1).length : Int) = ((d12).length : Int)))) (QV.pickT rfl rfl) rfl rfl rfl ?_
          rcases ite_inv hm with ⟨h20, hm⟩ | ⟨h20, hm⟩
          ·
            refine JL.val (v := .bool true) (QV.eq (QV.move rfl) (congrArg Value.bool (decide_eq_true h20))) rfl rfl rfl ?_
            refine JL.val (v := z11.v) (QV.move rfl) rfl rfl rfl ?_
            refine JL.val (v := z16.v) (QV.move rfl) rfl rfl rfl ?_
            refine JL.ent (fun _ hs => hs.nil 3 (Enc.int .i64)) ?_
            obtain ⟨y21, hc22, hm⟩ := bind_inv hm
            refine JL.mv (d := some 91) (MV.call (Lo := []) (Lr := [Asr.of 3 (Enc.int .i64) (SlV.nil.v) ([] : List Int), Asr.of 3 (Enc.int .i64) (z16.v) y14.1, Asr.of 3 (Enc.int .i64) (z17.v) y14.2.1, Asr.onv 25 (NE.sl (Enc.int .i64)) (z11.v) z13 d12]) (F14.spec (z11) (z13) (z16) (SlV.nil) (d12) (y14.1) (([] : List Int)) _ hc22) rfl Try.func14 rfl rfl rfl [] [0, 1, 2, 3] rfl rfl rfl ⟨(Drv.onv 3 rfl), ⟨(Drv.of 1 rfl), ⟨(Drv.of 0 rfl), trivial⟩⟩⟩) rfl rfl rfl ?_
            rintro _ _ ⟨_, ⟨rfl, rfl⟩, rfl⟩
            refine JL.val (v := .bool y21) (QV.pickT rfl rfl) rfl rfl rfl ?_
            rcases ite_inv hm with ⟨h23, hm⟩ | ⟨h23, hm⟩
            ·
              refine JL.val (v := .bool true) (QV.eq (QV.move rfl) (congrArg Value.bool h23)) rfl rfl rfl ?_
              obtain ⟨y24, hc25, hm⟩ := bind_inv hm
              refine JL.mv (d := some 94) (MV.call (Lo := []) (Lr := [Asr.of 3 (Enc.int .i64) (SlV.nil.v) ([] : List Int), Asr.of 3 (Enc.int .i64) (z16.v) y14.1, Asr.of 3 (Enc.int .i64) (z17.v) y14.2.1, Asr.onv 25 (NE.sl (Enc.int .i64)) (z11.v) z13 d12]) (F12.spec _ hc25) rfl Try.func12 rfl rfl rfl [] [0, 1, 2, 3] rfl rfl rfl trivial) rfl rfl rfl ?_
              rintro _ _ ⟨_, ⟨rfl, rfl⟩, rfl⟩
              refine JL.val (v := .bool y24) (QV.pickT rfl rfl) rfl rfl rfl ?_
              refine JL.val (v := .bool y24) (QV.assign rfl) rfl rfl rfl ?_
              refine JL.nil ?_
              refine QJ.then_normal ?_
              refine JC.ret ?_
              obtain rfl := Option.some.inj hm
              exact QJ.body (vs := [.bool y24]) (.inl rfl) rfl (ResVs.cons (ResV.tmp rfl) ResVs.nil) [] rfl rfl (.inr trivial) ⟨rfl, rfl⟩
            ·
              refine JL.val (v := .bool false) (QV.eq (QV.move rfl) (congrArg Value.bool (bfalse h23))) rfl rfl rfl ?_
              refine JL.skip (d := some 94) rfl rfl rfl ?_
              refine JL.val (v := .bool false) (QV.pickF rfl rfl) rfl rfl rfl ?_
              refine JL.val (v := .bool false) (QV.assign rfl) rfl rfl rfl ?_
              refine JL.nil ?_
              refine QJ.then_normal ?_
              refine JC.ret ?_
              obtain rfl := Option.some.inj hm
              exact QJ.body (vs := [.bool false]) (.inl rfl) rfl (ResVs.cons (ResV.tmp rfl) ResVs.nil) [] rfl rfl (.inr trivial) ⟨rfl, rfl⟩
          ·
            refine JL.val (v := .bool false) (QV.eq (QV.move rfl) (congrArg Value.bool (decide_eq_false h20))) rfl rfl rfl ?_
            refine JL.skip (d := some 89) rfl rfl rfl ?_
            refine JL.skip (d := some 90) rfl rfl rfl ?_
            refine JL.skip (d := some 91) rfl rfl rfl ?_
            refine JL.val (v := .bool false) (QV.pickF rfl rfl) rfl rfl rfl ?_
            refine JL.val (v := .bool false) (QV.move rfl) rfl rfl rfl ?_
            refine JL.skip (d := some 94) rfl rfl rfl ?_
            refine JL.val (v := .bool false) (QV.pickF rfl rfl) rfl rfl rfl ?_
            refine JL.val (v := .bool false) (QV.assign rfl) rfl rfl rfl ?_
            refine JL.nil ?_
            refine QJ.then_normal ?_
            refine JC.ret ?_
            obtain rfl := Option.some.inj hm
            exact QJ.body (vs := [.bool false]) (.inl rfl) rfl (ResVs.cons (ResV.tmp rfl) ResVs.nil) [] rfl rfl (.inr trivial) ⟨rfl, rfl⟩
        ·
          refine JL.val (v := .bool false) (QV.eq (QV.move rfl) (congrArg Value.bool (decide_eq_false h19))) rfl rfl rfl ?_
          refine JL.skip (d := some 82) rfl rfl rfl ?_
          refine JL.skip (d := some 83) rfl rfl rfl ?_
          refine JL.skip (d := some 84) rfl rfl rfl ?_
          refine JL.skip (d := some 85) rfl rfl rfl ?_
          refine JL.skip (d := some 86) rfl rfl rfl ?_
          refine JL.val (v := .bool false) (QV.pickF rfl rfl) rfl rfl rfl ?_
          refine JL.val (v := .bool false) (QV.move rfl) rfl rfl rfl ?_
          refine JL.skip (d := some 89) rfl rfl rfl ?_
          refine JL.skip (d := some 90) rfl rfl rfl ?_
          refine JL.skip (d := some 91) rfl rfl rfl ?_
          refine JL.val (v := .bool false) (QV.pickF rfl rfl) rfl rfl rfl ?_
          refine JL.val (v := .bool false) (QV.move rfl) rfl rfl rfl ?_
          refine JL.skip (d := some 94) rfl rfl rfl ?_
          refine JL.val (v := .bool false) (QV.pickF rfl rfl) rfl rfl rfl ?_
          refine JL.val (v := .bool false) (QV.assign rfl) rfl rfl rfl ?_
          refine JL.nil ?_
          refine QJ.then_normal ?_
          refine JC.ret ?_
          obtain rfl := Option.some.inj hm
          exact QJ.body (vs := [.bool false]) (.inl rfl) rfl (ResVs.cons (ResV.tmp rfl) ResVs.nil) [] rfl rfl (.inr trivial) ⟨rfl, rfl⟩
      ·
        refine JL.val (v := .bool false) (QV.eq (QV.move rfl) (congrArg Value.bool (decide_eq_false h18))) rfl rfl rfl ?_
        refine JL.skip (d := some 77) rfl rfl rfl ?_
        refine JL.skip (d := some 78) rfl rfl rfl ?_
        refine JL.skip (d := some 79) rfl rfl rfl ?_
        refine JL.val (v := .bool false) (QV.pickF rfl rfl) rfl rfl rfl ?_
        refine JL.val (v := .bool false) (QV.move rfl) rfl rfl rfl ?_
        refine JL.skip (d := some 82) rfl rfl rfl ?_
        refine JL.skip (d := some 83) rfl rfl rfl ?_
        refine JL.skip (d := some 84) rfl rfl rfl ?_
        refine JL.skip (d := some 85) rfl rfl rfl ?_
        refine JL.skip (d := some 86) rfl rfl rfl ?_
        refine JL.val (v := .bool false) (QV.pickF rfl rfl) rfl rfl rfl ?_
        refine JL.val (v := .bool false) (QV.move rfl) rfl rfl rfl ?_
        refine JL.skip (d := some 89) rfl rfl rfl ?_
        refine JL.skip (d := some 90) rfl rfl rfl ?_
        refine JL.skip (d := some 91) rfl rfl rfl ?_
        refine JL.val (v := .bool false) (QV.pickF rfl rfl) rfl rfl rfl ?_
        refine JL.val (v := .bool false) (QV.move rfl) rfl rfl rfl ?_
        refine JL.skip (d := some 94) rfl rfl rfl ?_
        refine JL.val (v := .bool false) (QV.pickF rfl rfl) rfl rfl rfl ?_
        refine JL.val (v := .bool false) (QV.assign rfl) rfl rfl rfl ?_
        refine JL.nil ?_
        refine QJ.then_normal ?_
        refine JC.ret ?_
        obtain rfl := Option.some.inj hm
        exact QJ.body (vs := [.bool false]) (.inl rfl) rfl (ResVs.cons (ResV.tmp rfl) ResVs.nil) [] rfl rfl (.inr trivial) ⟨rfl, rfl⟩
    ·
      refine JC.block ?_
      obtain ⟨y34, hl35, hmo36⟩ := bind_inv hm
      refine JC.loop (F3.b1 x2) (fun x z => match x, z with | (d27, d29), (z26, z28) => [(0, s1.v), (3, z26.v), (4, .int .i64 d29)]) (fun x z => match x, z with | (d27, d29), (z26, z28) => [Asr.vn (NE.sl (Enc.int .i64)) (s1.v) z3 x2, Asr.onv 25 (NE.sl (Enc.int .i64)) (z26.v) z28 d27]) (([] : List (List Int)), (0 : Int)) (z10, ([] : List SlV)) y34 hl35 [1, 0] (by exact ⟨rfl, rfl, rfl, trivial⟩) rfl rfl ?_
      rintro ⟨d27, d29⟩ ⟨z26, z28⟩ s37 hm
      unfold F3.b1 at hm
      dsimp only at hm
      show JC _ _ _ [(0, s1.v), (3, z26.v), (4, .int .i64 d29)] [Asr.vn (NE.sl (Enc.int .i64)) (s1.v) z3 x2, Asr.onv 25 (NE.sl (Enc.int .i64)) (z26.v) z28 d27] _ _
      refine JC.seq ?_
      refine JC.seq ?_
      refine JC.region ?_
      refine JL.val (v := .int .i64 d29) (QV.move rfl) rfl rfl rfl ?_
      refine JL.val (v := s1.v) (QV.move rfl) rfl rfl rfl ?_
      refine JL.val (v := .int .i64 ((x2).length : Int)) (QV.lenN (RdN.vn 0 rfl) Try.underlying22 rfl) rfl rfl rfl ?_
      refine JL.val (v := .bool (decide (d29 < ((x2).length : Int)))) (QV.lss rfl rfl) rfl rfl rfl ?_
      refine JL.nil ?_
      refine QJ.then_normal ?_
      rcases ite_inv hm with ⟨h38, hm⟩ | ⟨h38, hm⟩
      ·
        refine JC.condT' rfl (decide_eq_true h38) ?_
        refine JC.skip ?_
        refine QJ.then_normal ?_
        refine JC.seq ?_
        refine JC.cutK (Y := (List (List Int)) × (SlV × List SlV)) (fun y => match y with | (d40, _) => F3.j2 d29 (d40) = some s37) (fun y => match y with | (d40, (z39, z41)) => [(0, s1.v), (3, z39.v), (4, .int .i64 d29)]) (fun y => match y with | (d40, (z39, z41)) => [Asr.vn (NE.sl (Enc.int .i64)) (s1.v) z3 x2, Asr.onv 25 (NE.sl (Enc.int .i64)) (z39.v) z41 d40]) ?_ ?_
        ·
          rintro ⟨d40, ⟨z39, z41⟩⟩ hm
          unfold F3.j2 at hm
          show QJ _ _ [(0, s1.v), (3, z39.v), (4, .int .i64 d29)] [Asr.vn (NE.sl (Enc.int .i64)) (s1.v) z3 x2, Asr.onv 25 (NE.sl (Enc.int .i64)) (z39.v) z41 d40] _ _
          refine QJ.then_normal ?_
          refine JC.region ?_
          refine JL.val (v := .int .i64 d29) (QV.move rfl) rfl rfl rfl ?_
          refine JL.val (v := .int .i64 (IntKind.wrap .i64 (d29 + (1 : Int)))) (QV.add rfl rfl) rfl rfl rfl ?_
          refine JL.val (v := .int .i64 (IntKind.wrap .i64 (d29 + (1 : Int)))) (QV.assign rfl) rfl rfl rfl ?_
          refine JL.nil ?_
          obtain rfl := Option.some.inj hm
          exact QJ.round_on (d40, (IntKind.wrap .i64 (d29 + (1 : Int)))) (z39, z41) [0, 1] (by exact ⟨rfl, rfl, rfl, trivial⟩) rfl rfl
        ·
          refine JC.block ?_
          refine JC.seq ?_
          refine JC.region ?_
          refine JL.mv (d := some 21) (MV.lit0 (Enc.int .i64) Try.underlying25 (by kernel_rfl)) rfl rfl rfl ?_
          rintro _ _ ⟨z42, rfl, rfl⟩
          refine JL.val (v := z42.v) (QV.assign rfl) rfl rfl rfl ?_
          refine JL.nil ?_
          refine QJ.then_normal ?_
          refine JC.seq ?_
          refine JC.seq ?_
          refine JC.region ?_
          refine JL.val (v := .int .i64 (0 : Int)) (QV.assign rfl) rfl rfl rfl ?_
          refine JL.nil ?_
          refine QJ.then_normal ?_
          refine JC.cutK (Y := (List Int) × SlV) (fun y => match y with | (d44, _) => F3.j3 d27 d29 (d44) = some s37) (fun y => match y with | (d44, z43) => [(0, s1.v), (3, z26.v), (4, .int .i64 d29), (5, z43.v)]) (fun y => match y with | (d44, z43) => [Asr.vn (NE.sl (Enc.int .i64)) (s1.v) z3 x2, Asr.onv 25 (NE.sl (Enc.int .i64)) (z26.v) z28 d27, Asr.of 3 (Enc.int .i64) (z43.v) d44]) ?_ ?_
          ·
            rintro ⟨d44, z43⟩ hm
            unfold F3.j3 at hm
            show QJ _ _ [(0, s1.v), (3, z26.v), (4, .int .i64 d29), (5, z43.v)] [Asr.vn (NE.sl (Enc.int .i64)) (s1.v) z3 x2, Asr.onv 25 (NE.sl (Enc.int .i64)) (z26.v) z28 d27, Asr.of 3 (Enc.int .i64) (z43.v) d44] _ _
            refine QJ.then_normal ?_
            refine JC.region ?_
            refine JL.val (v := z26.v) (QV.move rfl) rfl rfl rfl ?_
            refine JL.val (v := z43.v) (QV.move rfl) rfl rfl rfl ?_
            refine JL.ent (fun _ hs => hs.share 2 rfl) ?_
            refine JL.mv (d := some 66) (MV.litV (K := (NE.sl (Enc.int .i64))) (vals := [(0, z43.v)]) [z43] [d44] Try.underlying22 zi_25 ⟨fun w F G hst => (ok_vw (Drv.vw 2 rfl) w F G hst), trivial⟩ rfl (by decide) rfl (by kernel_rfl)) rfl rfl rfl ?_
            rintro _ _ ⟨z45, rfl, rfl⟩
            obtain ⟨h46, hm⟩ := guard_inv hm
            refine JL.mv (d := some 67) (MV.appendV 2 rfl (OkG.onv 0 rfl) (RdN.onv 0 rfl) Try.underlying22 zi_25 rfl (by decide) rfl rfl h46) rfl rfl rfl ?_
            rintro _ _ ⟨z47, rfl, rfl⟩
            refine JL.val (v := z47.v) (QV.assign rfl) rfl rfl rfl ?_
            refine JL.nil ?_
            refine QJ.block_normal ?_
            exact QJ.cut_normal ((d27 ++ [d44]), (z47, (z28 ++ [z43]))) hm [1, 2] (by exact ⟨rfl, rfl, rfl, trivial⟩) rfl rfl
          ·
            refine JC.block ?_
            obtain ⟨y54, hl55, hmo56⟩ := bind_inv hm
            refine JC.loop (F3.b2 x2 d29) (fun x z => match x, z with | (d49, d50), z48 => [(0, s1.v), (3, z26.v), (4, .int .i64 d29), (5, z48.v), (6, .int .i64 d50)]) (fun x z => match x, z with | (d49, d50), z48 => [Asr.vn (NE.sl (Enc.int .i64)) (s1.v) z3 x2, Asr.onv 25 (NE.sl (Enc.int .i64)) (z26.v) z28 d27, Asr.of 3 (Enc.int .i64) (z48.v) d49]) (([] : List Int), (0 : Int)) z42 y54 hl55 [1, 2, 0] (by exact ⟨rfl, rfl, rfl, rfl, rfl, trivial⟩) rfl rfl ?_
            rintro ⟨d49, d50⟩ z48 s57 hm
            unfold F3.b2 at hm
            dsimp only at hm
            show JC _ _ _ [(0, s1.v), (3, z26.v), (4, .int .i64 d29), (5, z48.v), (6, .int .i64 d50)] [Asr.vn (NE.sl (Enc.int .i64)) (s1.v) z3 x2, Asr.onv 25 (NE.sl (Enc.int .i64)) (z26.v) z28 d27, Asr.of 3 (Enc.int .i64) (z48.v) d49] _ _
            refine JC.seq ?_
            refine JC.seq ?_
            refine JC.region ?_
            refine JL.val (v := .int .i64 d50) (QV.move rfl) rfl rfl rfl ?_
            refine JL.val (v := s1.v) (QV.move rfl) rfl rfl rfl ?_
            refine JL.val (v := .int .i64 d29) (QV.move rfl) rfl rfl rfl ?_
            obtain ⟨h58, hm⟩ := guard_inv hm
            refine JL.val (v := .pointer (some (elA (s1.v) (Int.toNat d29 * ((NE.sl (Enc.int .i64)).E).sz)))) (QV.indexN (RdN.vn 0 rfl) Try.underlying22 tk_25 rfl rfl h58) rfl rfl rfl ?_
            refine JL.val (v := (gd z3 d29).v) (QV.el1N (RdN.vn 0 rfl) tk_25 rfl h58 rfl) rfl rfl rfl ?_
            refine JL.val (v := .int .i64 (((gd x2 d29)).length : Int)) (QV.len (Rdg.ofDrv (Drv.el (K := (NE.sl (Enc.int .i64))) (A := Asr.vw (Enc.int .i64) ((gd z3 d29).v) (gd x2 d29)) (Drv.vn 0 rfl) h58 (fun _ _ q => q))) Try.underlying25 rfl) rfl rfl rfl ?_
            refine JL.val (v := .bool (decide (d50 < (((gd x2 d29)).length : Int)))) (QV.lss rfl rfl) rfl rfl rfl ?_
            refine JL.nil ?_
            refine QJ.then_normal ?_
            rcases ite_inv hm with ⟨h59, hm⟩ | ⟨h59, hm⟩
            ·
              refine JC.condT' rfl (decide_eq_true h59) ?_
              refine JC.skip ?_
              refine QJ.then_normal ?_
              refine JC.seq ?_
              refine JC.cutK (Y := (List Int) × SlV) (fun y => match y with | (d61, _) => F3.j4 d50 (d61) = some s57) (fun y => match y with | (d61, z60) => [(0, s1.v), (3, z26.v), (4, .int .i64 d29), (5, z60.v), (6, .int .i64 d50)]) (fun y => match y with | (d61, z60) => [Asr.vn (NE.sl (Enc.int .i64)) (s1.v) z3 x2, Asr.onv 25 (NE.sl (Enc.int .i64)) (z26.v) z28 d27, Asr.of 3 (Enc.int .i64) (z60.v) d61]) ?_ ?_
              ·
                rintro ⟨d61, z60⟩ hm
                unfold F3.j4 at hm
                show QJ _ _ [(0, s1.v), (3, z26.v), (4, .int .i64 d29), (5, z60.v), (6, .int .i64 d50)] [Asr.vn (NE.sl (Enc.int .i64)) (s1.v) z3 x2, Asr.onv 25 (NE.sl (Enc.int .i64)) (z26.v) z28 d27, Asr.of 3 (Enc.int .i64) (z60.v) d61] _ _
                refine QJ.then_normal ?_
                refine JC.region ?_
                refine JL.val (v := .int .i64 d50) (QV.move rfl) rfl rfl rfl ?_
                refine JL.val (v := .int .i64 (IntKind.wrap .i64 (d50 + (1 : Int)))) (QV.add rfl rfl) rfl rfl rfl ?_
                refine JL.val (v := .int .i64 (IntKind.wrap .i64 (d50 + (1 : Int)))) (QV.assign rfl) rfl rfl rfl ?_
                refine JL.nil ?_
                obtain rfl := Option.some.inj hm
                exact QJ.round_on (d61, (IntKind.wrap .i64 (d50 + (1 : Int)))) z60 [0, 1, 2] (by exact ⟨rfl, rfl, rfl, rfl, rfl, trivial⟩) rfl rfl
              ·
                refine JC.block ?_
                refine JC.seq ?_
                refine JC.region ?_
                refine JL.val (v := s1.v) (QV.move rfl) rfl rfl rfl ?_
                refine JL.val (v := .int .i64 d29) (QV.move rfl) rfl rfl rfl ?_
                refine JL.val (v := .pointer (some (elA (s1.v) (Int.toNat d29 * ((NE.sl (Enc.int .i64)).E).sz)))) (QV.indexN (RdN.vn 0 rfl) Try.underlying22 tk_25 rfl rfl h58) rfl rfl rfl ?_
                refine JL.val (v := (gd z3 d29).v) (QV.el1N (RdN.vn 0 rfl) tk_25 rfl h58 rfl) rfl rfl rfl ?_
                refine JL.val (v := .int .i64 d50) (QV.move rfl) rfl rfl rfl ?_
                obtain ⟨h62, hm⟩ := guard_inv hm
                refine JL.val (v := .pointer (some (elA ((gd z3 d29).v) (Int.toNat d50 * ((Enc.int .i64)).sz)))) (QV.indexA (Rdg.ofDrv (Drv.el (K := (NE.sl (Enc.int .i64))) (A := Asr.vw (Enc.int .i64) ((gd z3 d29).v) (gd x2 d29)) (Drv.vn 0 rfl) h58 (fun _ _ q => q))) Try.underlying25 tk_3 rfl rfl h62) rfl rfl rfl ?_
                refine JL.val (v := .int .i64 (gd (gd x2 d29) d50)) (QV.el1 (Rdg.ofDrv (Drv.el (K := (NE.sl (Enc.int .i64))) (A := Asr.vw (Enc.int .i64) ((gd z3 d29).v) (gd x2 d29)) (Drv.vn 0 rfl) h58 (fun _ _ q => q))) tk_3 rfl h62 rfl) rfl rfl rfl ?_
                refine JL.val (v := .int .i64 (gd (gd x2 d29) d50)) (QV.assign rfl) rfl rfl rfl ?_
                refine JL.nil ?_
                refine QJ.then_normal ?_
                refine JC.seq ?_
                refine JC.region ?_
                refine JL.val (v := .int .i64 (gd (gd x2 d29) d50)) (QV.move rfl) rfl rfl rfl ?_
                refine JL.val (v := .bool (decide ((0 : Int) ≤ (gd (gd x2 d29) d50)))) (QV.geq rfl rfl) rfl rfl rfl ?_
                rcases ite_inv hm with ⟨h63, hm⟩ | ⟨h63, hm⟩
                ·
                  refine JL.val (v := .bool true) (QV.eq (QV.move rfl) (congrArg Value.bool (decide_eq_true h63))) rfl rfl rfl ?_
                  refine JL.val (v := .int .i64 (gd (gd x2 d29) d50)) (QV.move rfl) rfl rfl rfl ?_
                  refine JL.val (v := .int .i64 d29) (QV.move rfl) rfl rfl rfl ?_
                  refine JL.val (v := .bool (decide ((gd (gd x2 d29) d50) < d29))) (QV.lss rfl rfl) rfl rfl rfl ?_
                  refine JL.val (v := .bool (decide ((gd (gd x2 d29) d50) < d29))) (QV.pickT rfl rfl) rfl rfl rfl ?_
                  rcases ite_inv hm with ⟨h64, hm⟩ | ⟨h64, hm⟩
                  ·
                    refine JL.val (v := .bool true) (QV.eq (QV.move rfl) (congrArg Value.bool (decide_eq_true h64))) rfl rfl rfl ?_
                    refine JL.val (v := z48.v) (QV.move rfl) rfl rfl rfl ?_
                    refine JL.val (v := .int .i64 ((d49).length : Int)) (QV.len (Rdg.of 2 rfl) Try.underlying25 rfl) rfl rfl rfl ?_
                    refine JL.val (v := .bool (decide (((d49).length : Int) = (0 : Int)))) (QV.eql rfl rfl) rfl rfl rfl ?_
                    rcases ite_inv hm with ⟨h65, hm⟩ | ⟨h65, hm⟩
                    ·
                      refine JL.val (v := .bool true) (QV.eq (QV.move rfl) (congrArg Value.bool (decide_eq_true h65))) rfl rfl rfl ?_
                      refine JL.skip (d := some 50) rfl rfl rfl ?_
                      refine JL.skip (d := some 51) rfl rfl rfl ?_
                      refine JL.skip (d := some 52) rfl rfl rfl ?_
                      refine JL.skip (d := some 53) rfl rfl rfl ?_
                      refine JL.skip (d := some 54) rfl rfl rfl ?_
                      refine JL.skip (d := some 55) rfl rfl rfl ?_
                      refine JL.skip (d := some 56) rfl rfl rfl ?_
                      refine JL.skip (d := some 57) rfl rfl rfl ?_
                      refine JL.val (v := .bool true) (QV.pickT rfl rfl) rfl rfl rfl ?_
                      refine JL.val (v := .bool true) (QV.pickT rfl rfl) rfl rfl rfl ?_
                      refine JL.nil ?_
                      refine QJ.then_normal ?_
                      refine JC.condT rfl ?_
                      refine JC.region ?_
                      refine JL.val (v := z48.v) (QV.move rfl) rfl rfl rfl ?_
                      refine JL.val (v := .int .i64 (gd (gd x2 d29) d50)) (QV.move rfl) rfl rfl rfl ?_
                      refine JL.mv (d := some 62) (MV.lit (E := (Enc.int .i64)) (vals := [(0, .int .i64 (gd (gd x2 d29) d50))]) [(gd (gd x2 d29) d50)] Try.underlying25 zi_3 rfl (by decide) rfl (by kernel_rfl)) rfl rfl rfl ?_
                      rintro _ _ ⟨z66, rfl, rfl⟩
                      obtain ⟨h67, hm⟩ := guard_inv hm
                      refine JL.mv (d := some 63) (MV.append 3 rfl (Rdg.of 0 rfl) Try.underlying25 zi_3 rfl (by decide) rfl rfl h67) rfl rfl rfl ?_
                      rintro _ _ ⟨z68, rfl, rfl⟩
                      refine JL.val (v := z68.v) (QV.assign rfl) rfl rfl rfl ?_
                      refine JL.nil ?_
                      refine QJ.block_normal ?_
                      exact QJ.cut_normal ((d49 ++ [(gd (gd x2 d29) d50)]), z68) hm [1, 2, 3] (by exact ⟨rfl, rfl, rfl, rfl, rfl, trivial⟩) rfl rfl
                    ·
                      refine JL.val (v := .bool false) (QV.eq (QV.move rfl) (congrArg Value.bool (decide_eq_false h65))) rfl rfl rfl ?_
                      refine JL.val (v := z48.v) (QV.move rfl) rfl rfl rfl ?_
                      refine JL.val (v := z48.v) (QV.move rfl) rfl rfl rfl ?_
                      refine JL.val (v := .int .i64 ((d49).length : Int)) (QV.len (Rdg.of 2 rfl) Try.underlying25 rfl) rfl rfl rfl ?_
                      refine JL.val (v := .int .i64 (IntKind.wrap .i64 (((d49).length : Int) - (1 : Int)))) (QV.sub rfl rfl) rfl rfl rfl ?_
                      obtain ⟨h69, hm⟩ := guard_inv hm
                      refine JL.val (v := .pointer (some (elA (z48.v) (Int.toNat (IntKind.wrap .i64 (((d49).length : Int) - (1 : Int))) * ((Enc.int .i64)).sz)))) (QV.indexA (Rdg.of 2 rfl) Try.underlying25 tk_3 rfl rfl h69) rfl rfl rfl ?_
                      refine JL.val (v := .int .i64 (gd d49 (IntKind.wrap .i64 (((d49).length : Int) - (1 : Int))))) (QV.el1 (Rdg.of 2 rfl) tk_3 rfl h69 rfl) rfl rfl rfl ?_
                      refine JL.val (v := .int .i64 (gd (gd x2 d29) d50)) (QV.move rfl) rfl rfl rfl ?_
                      refine JL.val (v := .bool (decide ((gd d49 (IntKind.wrap .i64 (((d49).length : Int) - (1 : Int)))) < (gd (gd x2 d29) d50)))) (QV.lss rfl rfl) rfl rfl rfl ?_
                      refine JL.val (v := .bool (decide ((gd d49 (IntKind.wrap .i64 (((d49).length : Int) - (1 : Int)))) < (gd (gd x2 d29) d50)))) (QV.pickF rfl rfl) rfl rfl rfl ?_
                      refine JL.val (v := .bool (decide ((gd d49 (IntKind.wrap .i64 (((d49).length : Int) - (1 : Int)))) < (gd (gd x2 d29) d50)))) (QV.pickT rfl rfl) rfl rfl rfl ?_
                      refine JL.nil ?_
                      refine QJ.then_normal ?_
                      refine JC.cutK (Y := (List Int) × SlV) (fun y => match y with | (d71, _) => F3.j5 d50 (d71) = some s57) (fun y => match y with | (d71, z70) => [(0, s1.v), (3, z26.v), (4, .int .i64 d29), (5, z70.v), (6, .int .i64 d50)]) (fun y => match y with | (d71, z70) => [Asr.vn (NE.sl (Enc.int .i64)) (s1.v) z3 x2, Asr.onv 25 (NE.sl (Enc.int .i64)) (z26.v) z28 d27, Asr.of 3 (Enc.int .i64) (z70.v) d71]) ?_ ?_
                      ·
                        rintro ⟨d71, z70⟩ hm
                        unfold F3.j5 at hm
                        show QJ _ _ [(0, s1.v), (3, z26.v), (4, .int .i64 d29), (5, z70.v), (6, .int .i64 d50)] [Asr.vn (NE.sl (Enc.int .i64)) (s1.v) z3 x2, Asr.onv 25 (NE.sl (Enc.int .i64)) (z26.v) z28 d27, Asr.of 3 (Enc.int .i64) (z70.v) d71] _ _
                        refine QJ.block_normal ?_
                        exact QJ.cut_normal (d71, z70) hm [0, 1, 2] (by exact ⟨rfl, rfl, rfl, rfl, rfl, trivial⟩) rfl rfl
                      ·
                        rcases ite_inv hm with ⟨h72, hm⟩ | ⟨h72, hm⟩
                        ·
                          refine JC.condT' rfl (decide_eq_true h72) ?_
                          refine JC.region ?_
                          refine JL.val (v := z48.v) (QV.move rfl) rfl rfl rfl ?_
                          refine JL.val (v := .int .i64 (gd (gd x2 d29) d50)) (QV.move rfl) rfl rfl rfl ?_
                          refine JL.mv (d := some 62) (MV.lit (E := (Enc.int .i64)) (vals := [(0, .int .i64 (gd (gd x2 d29) d50))]) [(gd (gd x2 d29) d50)] Try.underlying25 zi_3 rfl (by decide) rfl (by kernel_rfl)) rfl rfl rfl ?_
                          rintro _ _ ⟨z73, rfl, rfl⟩
                          obtain ⟨h74, hm⟩ := guard_inv hm
                          refine JL.mv (d := some 63) (MV.append 3 rfl (Rdg.of 0 rfl) Try.underlying25 zi_3 rfl (by decide) rfl rfl h74) rfl rfl rfl ?_
                          rintro _ _ ⟨z75, rfl, rfl⟩
                          refine JL.val (v := z75.v) (QV.assign rfl) rfl rfl rfl ?_
                          refine JL.nil ?_
                          exact QJ.cut_normal ((d49 ++ [(gd (gd x2 d29) d50)]), z75) hm [1, 2, 3] (by exact ⟨rfl, rfl, rfl, rfl, rfl, trivial⟩) rfl rfl
                        ·
                          refine JC.condF' rfl (decide_eq_false h72) ?_
                          refine JC.skip ?_
                          exact QJ.cut_normal (d49, z48) hm [0, 1, 2] (by exact ⟨rfl, rfl, rfl, rfl, rfl, trivial⟩) rfl rfl
                  ·
                    refine JL.val (v := .bool false) (QV.eq (QV.move rfl) (congrArg Value.bool (decide_eq_false h64))) rfl rfl rfl ?_
                    refine JL.skip (d := some 46) rfl rfl rfl ?_
                    refine JL.skip (d := some 47) rfl rfl rfl ?_
                    refine JL.skip (d := some 48) rfl rfl rfl ?_
                    refine JL.skip (d := some 49) rfl rfl rfl ?_
                    refine JL.skip (d := some 50) rfl rfl rfl ?_
                    refine JL.skip (d := some 51) rfl rfl rfl ?_
                    refine JL.skip (d := some 52) rfl rfl rfl ?_
                    refine JL.skip (d := some 53) rfl rfl rfl ?_
                    refine JL.skip (d := some 54) rfl rfl rfl ?_
                    refine JL.skip (d := some 55) rfl rfl rfl ?_
                    refine JL.skip (d := some 56) rfl rfl rfl ?_
                    refine JL.skip (d := some 57) rfl rfl rfl ?_
                    refine JL.skip (d := some 58) rfl rfl rfl ?_
                    refine JL.val (v := .bool false) (QV.pickF rfl rfl) rfl rfl rfl ?_
                    refine JL.nil ?_
                    refine QJ.then_normal ?_
                    refine JC.condF rfl ?_
                    refine JC.skip ?_
                    refine QJ.block_normal ?_
                    exact QJ.cut_normal (d49, z48) hm [0, 1, 2] (by exact ⟨rfl, rfl, rfl, rfl, rfl, trivial⟩) rfl rfl
                ·
                  refine JL.val (v := .bool false) (QV.eq (QV.move rfl) (congrArg Value.bool (decide_eq_false h63))) rfl rfl rfl ?_
                  refine JL.skip (d := some 41) rfl rfl rfl ?_
                  refine JL.skip (d := some 42) rfl rfl rfl ?_
                  refine JL.skip (d := some 43) rfl rfl rfl ?_
                  refine JL.val (v := .bool false) (QV.pickF rfl rfl) rfl rfl rfl ?_
                  refine JL.val (v := .bool false) (QV.move rfl) rfl rfl rfl ?_
                  refine JL.skip (d := some 46) rfl rfl rfl ?_
                  refine JL.skip (d := some 47) rfl rfl rfl ?_
                  refine JL.skip (d := some 48) rfl rfl rfl ?_
                  refine JL.skip (d := some 49) rfl rfl rfl ?_
                  refine JL.skip (d := some 50) rfl rfl rfl ?_
                  refine JL.skip (d := some 51) rfl rfl rfl ?_
                  refine JL.skip (d := some 52) rfl rfl rfl ?_
                  refine JL.skip (d := some 53) rfl rfl rfl ?_
                  refine JL.skip (d := some 54) rfl rfl rfl ?_
                  refine JL.skip (d := some 55) rfl rfl rfl ?_
                  refine JL.skip (d := some 56) rfl rfl rfl ?_
                  refine JL.skip (d := some 57) rfl rfl rfl ?_
                  refine JL.skip (d := some 58) rfl rfl rfl ?_
                  refine JL.val (v := .bool false) (QV.pickF rfl rfl) rfl rfl rfl ?_
                  refine JL.nil ?_
                  refine QJ.then_normal ?_
                  refine JC.condF rfl ?_
                  refine JC.skip ?_
                  refine QJ.block_normal ?_
                  exact QJ.cut_normal (d49, z48) hm [0, 1, 2] (by exact ⟨rfl, rfl, rfl, rfl, rfl, trivial⟩) rfl rfl
            ·
              refine JC.condF' rfl (decide_eq_false h59) ?_
              refine JC.exit ?_
              refine QJ.then_exit ?_
              obtain rfl := Option.some.inj hm
              refine QJ.round_exit (fun hy => ?_)
              subst hy
              refine QJ.block_hit ?_
              exact QJ.cut_normal (d49, z48) hmo56 [0, 1, 2] (by exact ⟨rfl, rfl, rfl, rfl, trivial⟩) rfl rfl
      ·
        refine JC.condF' rfl (decide_eq_false h38) ?_
        refine JC.exit ?_
        refine QJ.then_exit ?_
        obtain rfl := Option.some.inj hm
        refine QJ.round_exit (fun hy => ?_)
        subst hy
        refine QJ.block_hit ?_
        exact QJ.cut_normal (d27, (z26, z28)) hmo36 [1] (by exact ⟨rfl, trivial⟩) rfl rfl

end Go.Proofs.Ytgganckggdjpaaa
