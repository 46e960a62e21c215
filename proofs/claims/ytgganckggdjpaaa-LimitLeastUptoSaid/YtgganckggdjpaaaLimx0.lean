/- Written by gen.py: functions and their contracts. -/
import Derived.Test.YtgganckggdjpaaaLimFacts
namespace Go.Proofs.Ytgganckggdjpaaa
open Go Go.Eng Go.Proofs
set_option linter.unusedVariables false
set_option linter.unusedSimpArgs false
/-! ### 81: cmp.isNaN[uint64] -/
noncomputable def F81.m (x1 : Int) : Option Bool :=
  some (!(decide (x1 = x1)))
set_option maxRecDepth 100000 in
set_option maxHeartbeats 4000000 in
theorem F81.spec (x1 : Int) (r : Bool) (hm : F81.m x1 = some r) :
    Ctr Try.prog false 81 [.int .u64 x1] [] (fun v L' => v = .bool r ∧ L' = []) := by
  refine Ctr.intro (n := 6) (env := [(0, .int .u64 x1)]) Try.func81 rfl rfl rfl rfl (fun c => ?_)
  unfold F81.m at hm
  refine JC.seq ?_
  refine JC.region ?_
  refine JL.val (v := .bool false) (QV.assign rfl) rfl rfl rfl ?_
  refine JL.nil ?_
  refine QJ.then_normal ?_
  refine JC.seq ?_
  refine JC.region ?_
  refine JL.val (v := .int .u64 x1) (QV.move rfl) rfl rfl rfl ?_
  refine JL.val (v := .int .u64 x1) (QV.move rfl) rfl rfl rfl ?_
  refine JL.val (v := .bool (!(decide (x1 = x1)))) (QV.neq rfl rfl) rfl rfl rfl ?_
  refine JL.val (v := .bool (!(decide (x1 = x1)))) (QV.assign rfl) rfl rfl rfl ?_
  refine JL.nil ?_
  refine QJ.then_normal ?_
  refine JC.ret ?_
  obtain rfl := Option.some.inj hm
  exact QJ.body (vs := [.bool (!(decide (x1 = x1)))]) (.inl rfl) rfl (ResVs.cons (ResV.tmp rfl) ResVs.nil) [] rfl rfl (.inr trivial) ⟨rfl, rfl⟩

/-! ### 69: cmp.Compare[uint64] -/
noncomputable def F69.m (x1 : Int) (x2 : Int) : Option Int :=
  ((F81.m (x1)).bind fun y4 => ((F81.m (x2)).bind fun y6 => (if y4 = true then (if y6 = true then some (0 : Int) else some (-1 : Int)) else (if y6 = true then some (1 : Int) else (if x1 < x2 then some (-1 : Int) else (if x2 < x1 then some (1 : Int) else some (0 : Int)))))))
set_option maxRecDepth 100000 in
set_option maxHeartbeats 4000000 in
theorem F69.spec (x1 : Int) (x2 : Int) (r : Int) (hm : F69.m x1 x2 = some r) :
    Ctr Try.prog false 69 [.int .u64 x1, .int .u64 x2] [] (fun v L' => v = .int .i64 r ∧ L' = []) := by
  refine Ctr.intro (n := 20) (env := [(0, .int .u64 x1), (1, .int .u64 x2)]) Try.func69 rfl rfl rfl rfl (fun c => ?_)
  unfold F69.m at hm
  refine JC.seq ?_
  refine JC.region ?_
  refine JL.val (v := .int .i64 (0 : Int)) (QV.assign rfl) rfl rfl rfl ?_
  refine JL.nil ?_
  refine QJ.then_normal ?_
  refine JC.seq ?_
  refine JC.region ?_
  refine JL.val (v := .int .u64 x1) (QV.move rfl) rfl rfl rfl ?_
  obtain ⟨y4, hc5, hm⟩ := bind_inv hm
  refine JL.mv (d := some 8) (MV.call (Lo := []) (Lr := []) (F81.spec (x1) _ hc5) rfl Try.func81 rfl rfl rfl [] [] rfl rfl rfl trivial) rfl rfl rfl ?_
  rintro _ _ ⟨_, ⟨rfl, rfl⟩, rfl⟩
  refine JL.val (v := .bool y4) (QV.assign rfl) rfl rfl rfl ?_
  refine JL.nil ?_
  refine QJ.then_normal ?_
  refine JC.seq ?_
  refine JC.region ?_
  refine JL.val (v := .int .u64 x2) (QV.move rfl) rfl rfl rfl ?_
  obtain ⟨y6, hc7, hm⟩ := bind_inv hm
  refine JL.mv (d := some 10) (MV.call (Lo := []) (Lr := []) (F81.spec (x2) _ hc7) rfl Try.func81 rfl rfl rfl [] [] rfl rfl rfl trivial) rfl rfl rfl ?_
  rintro _ _ ⟨_, ⟨rfl, rfl⟩, rfl⟩
  refine JL.val (v := .bool y6) (QV.assign rfl) rfl rfl rfl ?_
  refine JL.nil ?_
  refine QJ.then_normal ?_
  refine JC.seq ?_
  refine JC.seq ?_
  refine JC.region ?_
  refine JL.val (v := .bool y4) (QV.move rfl) rfl rfl rfl ?_
  refine JL.nil ?_
  refine QJ.then_normal ?_
  rcases ite_inv hm with ⟨h8, hm⟩ | ⟨h8, hm⟩
  ·
    refine JC.condT' rfl h8 ?_
    refine JC.seq ?_
    refine JC.seq ?_
    refine JC.region ?_
    refine JL.val (v := .bool y6) (QV.move rfl) rfl rfl rfl ?_
    refine JL.nil ?_
    refine QJ.then_normal ?_
    rcases ite_inv hm with ⟨h9, hm⟩ | ⟨h9, hm⟩
    ·
      refine JC.condT' rfl h9 ?_
      refine JC.seq ?_
      refine JC.region ?_
      refine JL.val (v := .int .i64 (0 : Int)) (QV.assign rfl) rfl rfl rfl ?_
      refine JL.nil ?_
      refine QJ.then_normal ?_
      refine JC.ret ?_
      refine QJ.then_ret ?_
      refine QJ.then_ret ?_
      obtain rfl := Option.some.inj hm
      exact QJ.body (vs := [.int .i64 (0 : Int)]) (.inl rfl) rfl (ResVs.cons (ResV.tmp rfl) ResVs.nil) [] rfl rfl (.inr trivial) ⟨rfl, rfl⟩
    ·
      refine JC.condF' rfl (bfalse h9) ?_
      refine JC.skip ?_
      refine QJ.then_normal ?_
      refine JC.seq ?_
      refine JC.region ?_
      refine JL.val (v := .int .i64 (-1 : Int)) (QV.assign rfl) rfl rfl rfl ?_
      refine JL.nil ?_
      refine QJ.then_normal ?_
      refine JC.ret ?_
      refine QJ.then_ret ?_
      obtain rfl := Option.some.inj hm
      exact QJ.body (vs := [.int .i64 (-1 : Int)]) (.inl rfl) rfl (ResVs.cons (ResV.tmp rfl) ResVs.nil) [] rfl rfl (.inr trivial) ⟨rfl, rfl⟩
  ·
    refine JC.condF' rfl (bfalse h8) ?_
    refine JC.skip ?_
    refine QJ.then_normal ?_
    refine JC.seq ?_
    refine JC.seq ?_
    refine JC.region ?_
    refine JL.val (v := .bool y6) (QV.move rfl) rfl rfl rfl ?_
    refine JL.nil ?_
    refine QJ.then_normal ?_
    rcases ite_inv hm with ⟨h10, hm⟩ | ⟨h10, hm⟩
    ·
      refine JC.condT' rfl h10 ?_
      refine JC.seq ?_
      refine JC.region ?_
      refine JL.val (v := .int .i64 (1 : Int)) (QV.assign rfl) rfl rfl rfl ?_
      refine JL.nil ?_
      refine QJ.then_normal ?_
      refine JC.ret ?_
      refine QJ.then_ret ?_
      obtain rfl := Option.some.inj hm
      exact QJ.body (vs := [.int .i64 (1 : Int)]) (.inl rfl) rfl (ResVs.cons (ResV.tmp rfl) ResVs.nil) [] rfl rfl (.inr trivial) ⟨rfl, rfl⟩
    ·
      refine JC.condF' rfl (bfalse h10) ?_
      refine JC.skip ?_
      refine QJ.then_normal ?_
      refine JC.seq ?_
      refine JC.seq ?_
      refine JC.region ?_
      refine JL.val (v := .int .u64 x1) (QV.move rfl) rfl rfl rfl ?_
      refine JL.val (v := .int .u64 x2) (QV.move rfl) rfl rfl rfl ?_
      refine JL.val (v := .bool (decide (x1 < x2))) (QV.lss rfl rfl) rfl rfl rfl ?_
      refine JL.nil ?_
      refine QJ.then_normal ?_
      rcases ite_inv hm with ⟨h11, hm⟩ | ⟨h11, hm⟩
      ·
        refine JC.condT' rfl (decide_eq_true h11) ?_
        refine JC.seq ?_
        refine JC.region ?_
        refine JL.val (v := .int .i64 (-1 : Int)) (QV.assign rfl) rfl rfl rfl ?_
        refine JL.nil ?_
        refine QJ.then_normal ?_
        refine JC.ret ?_
        refine QJ.then_ret ?_
        obtain rfl := Option.some.inj hm
        exact QJ.body (vs := [.int .i64 (-1 : Int)]) (.inl rfl) rfl (ResVs.cons (ResV.tmp rfl) ResVs.nil) [] rfl rfl (.inr trivial) ⟨rfl, rfl⟩
      ·
        refine JC.condF' rfl (decide_eq_false h11) ?_
        refine JC.skip ?_
        refine QJ.then_normal ?_
        refine JC.seq ?_
        refine JC.seq ?_
        refine JC.region ?_
        refine JL.val (v := .int .u64 x1) (QV.move rfl) rfl rfl rfl ?_
        refine JL.val (v := .int .u64 x2) (QV.move rfl) rfl rfl rfl ?_
        refine JL.val (v := .bool (decide (x2 < x1))) (QV.gtr rfl rfl) rfl rfl rfl ?_
        refine JL.nil ?_
        refine QJ.then_normal ?_
        rcases ite_inv hm with ⟨h12, hm⟩ | ⟨h12, hm⟩
        ·
          refine JC.condT' rfl (decide_eq_true h12) ?_
          refine JC.seq ?_
          refine JC.region ?_
          refine JL.val (v := .int .i64 (1 : Int)) (QV.assign rfl) rfl rfl rfl ?_
          refine JL.nil ?_
          refine QJ.then_normal ?_
          refine JC.ret ?_
          refine QJ.then_ret ?_
          obtain rfl := Option.some.inj hm
          exact QJ.body (vs := [.int .i64 (1 : Int)]) (.inl rfl) rfl (ResVs.cons (ResV.tmp rfl) ResVs.nil) [] rfl rfl (.inr trivial) ⟨rfl, rfl⟩
        ·
          refine JC.condF' rfl (decide_eq_false h12) ?_
          refine JC.skip ?_
          refine QJ.then_normal ?_
          refine JC.seq ?_
          refine JC.region ?_
          refine JL.val (v := .int .i64 (0 : Int)) (QV.assign rfl) rfl rfl rfl ?_
          refine JL.nil ?_
          refine QJ.then_normal ?_
          refine JC.ret ?_
          obtain rfl := Option.some.inj hm
          exact QJ.body (vs := [.int .i64 (0 : Int)]) (.inl rfl) rfl (ResVs.cons (ResV.tmp rfl) ResVs.nil) [] rfl rfl (.inr trivial) ⟨rfl, rfl⟩

/-! ### 48: drogher/limit.byWeight -/
noncomputable def F48.m (x1 : Int) (x3 : List Int) (x4 : Int) (x6 : List Int) : Option Int :=
  ((F69.m (x1) (x4)).bind fun y10 => some y10)
set_option maxRecDepth 100000 in
set_option maxHeartbeats 4000000 in
theorem F48.spec (s2 : SlV) (s5 : SlV) (x1 : Int) (x3 : List Int) (x4 : Int) (x6 : List Int) (r : Int) (hm : F48.m x1 x3 x4 x6 = some r) :
    Ctr Try.prog false 48 [.agg #[.int .u64 x1, s2.v], .agg #[.int .u64 x4, s5.v]] [Asr.vw (Enc.int .i64) (s2.v) x3, Asr.vw (Enc.int .i64) (s5.v) x6] (fun v L' => v = .int .i64 r ∧ L' = []) := by
  refine Ctr.intro (n := 10) (env := [(0, .agg #[.int .u64 x1, s2.v]), (1, .agg #[.int .u64 x4, s5.v])]) Try.func48 rfl rfl rfl rfl (fun c => ?_)
  unfold F48.m at hm
  refine JC.seq ?_
  refine JC.region ?_
  refine JL.mv (d := some 2) (MV.box [Seg.c (.int .u64 x1), Seg.c (s2.v)] rfl (fun w hs => rfl)) rfl rfl rfl ?_
  rintro _ _ ⟨b8, rfl, rfl⟩
  refine JL.mv (d := some 3) (MV.box [Seg.c (.int .u64 x4), Seg.c (s5.v)] rfl (fun w hs => rfl)) rfl rfl rfl ?_
  rintro _ _ ⟨b9, rfl, rfl⟩
  refine JL.val (v := .int .i64 (0 : Int)) (QV.assign rfl) rfl rfl rfl ?_
  refine JL.nil ?_
  refine QJ.then_normal ?_
  refine JC.seq ?_
  refine JC.region ?_
  refine JL.val (v := .pointer (some ⟨b8, 0, none⟩)) (QV.fieldB fo_91_0 rfl rfl) rfl rfl rfl ?_
  refine JL.val (v := .int .u64 x1) (QV.load1 (ss := [Seg.c (.int .u64 x1), Seg.c (s2.v)]) 1 0 rfl tk_41 rfl rfl rfl) rfl rfl rfl ?_
  refine JL.val (v := .pointer (some ⟨b9, 0, none⟩)) (QV.fieldB fo_91_0 rfl rfl) rfl rfl rfl ?_
  refine JL.val (v := .int .u64 x4) (QV.load1 (ss := [Seg.c (.int .u64 x4), Seg.c (s5.v)]) 0 0 rfl tk_41 rfl rfl rfl) rfl rfl rfl ?_
  obtain ⟨y10, hc11, hm⟩ := bind_inv hm
  refine JL.mv (d := some 9) (MV.call (Lo := []) (Lr := [Asr.blk b9 91 [Seg.c (.int .u64 x4), Seg.c (s5.v)], Asr.blk b8 91 [Seg.c (.int .u64 x1), Seg.c (s2.v)], Asr.vw (Enc.int .i64) (s2.v) x3, Asr.vw (Enc.int .i64) (s5.v) x6]) (F69.spec (x1) (x4) _ hc11) rfl Try.func69 rfl rfl rfl [] [0, 1, 2, 3] rfl rfl rfl trivial) rfl rfl rfl ?_
  rintro _ _ ⟨_, ⟨rfl, rfl⟩, rfl⟩
  refine JL.val (v := .int .i64 y10) (QV.assign rfl) rfl rfl rfl ?_
  refine JL.nil ?_
  refine QJ.then_normal ?_
  refine JC.ret ?_
  obtain rfl := Option.some.inj hm
  exact QJ.body (vs := [.int .i64 y10]) (.inl rfl) rfl (ResVs.cons (ResV.tmp rfl) ResVs.nil) [] rfl rfl (.inr trivial) ⟨rfl, rfl⟩

/-! ### 79: slices.insertionSortCmpFunc[drogher/limit.pack] -/
noncomputable def F79_1.j1  (d8 : List (Int × (List Int))) : Option (List (Int × (List Int))) :=
  some d8
noncomputable def F79_1.j2 (d12 : Int) (d21 : List (Int × (List Int))) : Option ((List (Int × (List Int)) × Int) ⊕ (List (Int × (List Int)))) :=
  some (.inl (d21, (IntKind.wrap .i64 (d12 + (1 : Int)))))
noncomputable def F79_1.j3 (d12 : Int) (d23 : List (Int × (List Int))) : Option ((List (Int × (List Int)) × Int) ⊕ (List (Int × (List Int)))) :=
  F79_1.j2 d12 (d23)
noncomputable def F79_1.j4 (d25 : List (Int × (List Int))) (d27 : Int)  : Option ((List (Int × (List Int)) × Int) ⊕ (List (Int × (List Int)))) :=
  some (.inl ((List.set (List.set d25 (Int.toNat d27) ((gd d25 (IntKind.wrap .i64 (d27 - (1 : Int)))).1, (gd d25 (IntKind.wrap .i64 (d27 - (1 : Int)))).2)) (Int.toNat (IntKind.wrap .i64 (d27 - (1 : Int)))) ((gd d25 d27).1, (gd d25 d27).2)), (IntKind.wrap .i64 (d27 - (1 : Int)))))
noncomputable def F79_1.b2 (x4 : Int) : (List (Int × (List Int)) × Int) → Option ((List (Int × (List Int)) × Int) ⊕ (List (Int × (List Int))))
  | (d25, d27) => (if x4 < d27 then (if 0 ≤ d27 ∧ d27 < ((d25).length : Int) then (if 0 ≤ (IntKind.wrap .i64 (d27 - (1 : Int))) ∧ (IntKind.wrap .i64 (d27 - (1 : Int))) < ((d25).length : Int) then ((F48.m ((gd d25 d27).1) ((gd d25 d27).2) ((gd d25 (IntKind.wrap .i64 (d27 - (1 : Int)))).1) ((gd d25 (IntKind.wrap .i64 (d27 - (1 : Int)))).2)).bind fun y38 => (if y38 < (0 : Int) then (if 0 ≤ (IntKind.wrap .i64 (d27 - (1 : Int))) ∧ (IntKind.wrap .i64 (d27 - (1 : Int))) < (((List.set d25 (Int.toNat d27) ((gd d25 (IntKind.wrap .i64 (d27 - (1 : Int)))).1, (gd d25 (IntKind.wrap .i64 (d27 - (1 : Int)))).2))).length : Int) then F79_1.j4 d25 d27 else none) else some (.inr d25))) else none) else none) else some (.inr d25))
noncomputable def F79_1.b1 (x4 : Int) (x5 : Int) : (List (Int × (List Int)) × Int) → Option ((List (Int × (List Int)) × Int) ⊕ (List (Int × (List Int))))
  | (d10, d12) => (if d12 < x5 then ((loop (F79_1.b2 x4) (d10, d12)).bind fun y => match y with | d23 => F79_1.j3 d12 (d23)) else some (.inr d10))
noncomputable def F79_1.m (x2 : List (Int × (List Int))) (x4 : Int) (x5 : Int) : Option (List (Int × (List Int))) :=
  ((loop (F79_1.b1 x4 x5) (x2, (IntKind.wrap .i64 (x4 + (1 : Int))))).bind fun y => match y with | d8 => F79_1.j1 (d8))
set_option maxRecDepth 100000 in
set_option maxHeartbeats 4000000 in
theorem F79_1.spec (s1 : SlV) (z3 : List (Unit × SlV)) (x2 : List (Int × (List Int))) (x4 : Int) (x5 : Int) (r : (List (Int × (List Int)))) (hm : F79_1.m x2 x4 x5 = some r) :
    Ctr Try.prog true 79 [s1.v, .int .i64 x4, .int .i64 x5, .func (.func 48) #[] #[]] [Asr.onv 91 (NE.pair (NE.flat (Enc.int .u64)) (NE.sl (Enc.int .i64))) (s1.v) z3 x2] (fun v L' => ∃ (g7 : List (Unit × SlV)), v = .tuple #[] ∧ L' = [Asr.onv 91 (NE.pair (NE.flat (Enc.int .u64)) (NE.sl (Enc.int .i64))) (s1.v) g7 r]) := by
  refine Ctr.intro (n := 53) (env := [(0, s1.v), (1, .int .i64 x4), (2, .int .i64 x5), (3, .func (.func 48) #[] #[])]) Try.func79 rfl rfl rfl rfl (fun c => ?_)
  unfold F79_1.m at hm
  refine JC.seq ?_
  refine JC.region ?_
  refine JL.val (v := .int .i64 x4) (QV.move rfl) rfl rfl rfl ?_
  refine JL.val (v := .int .i64 (IntKind.wrap .i64 (x4 + (1 : Int)))) (QV.add rfl rfl) rfl rfl rfl ?_
  refine JL.val (v := .int .i64 (IntKind.wrap .i64 (x4 + (1 : Int)))) (QV.assign rfl) rfl rfl rfl ?_
  refine JL.nil ?_
  refine QJ.then_normal ?_
  refine JC.cutK (Y := (List (Int × (List Int))) × (List (Unit × SlV))) (fun y => match y with | (d8, _) => F79_1.j1 (d8) = some r) (fun y => match y with | (d8, z9) => []) (fun y => match y with | (d8, z9) => [Asr.onv 91 (NE.pair (NE.flat (Enc.int .u64)) (NE.sl (Enc.int .i64))) (s1.v) z9 d8]) ?_ ?_
  ·
    rintro ⟨d8, z9⟩ hm
    unfold F79_1.j1 at hm
    show QJ _ _ [] [Asr.onv 91 (NE.pair (NE.flat (Enc.int .u64)) (NE.sl (Enc.int .i64))) (s1.v) z9 d8] _ _
    obtain rfl := Option.some.inj hm
    exact QJ.body (vs := []) (.inr rfl) rfl ResVs.nil [0] rfl rfl (.inl rfl) ⟨z9, rfl, rfl⟩
  ·
    refine JC.block ?_
    obtain ⟨y16, hl17, hmo18⟩ := bind_inv hm
    refine JC.loop (F79_1.b1 x4 x5) (fun x z => match x, z with | (d10, d12), z11 => [(0, s1.v), (1, .int .i64 x4), (2, .int .i64 x5), (3, .func (.func 48) #[] #[]), (8, .int .i64 d12)]) (fun x z => match x, z with | (d10, d12), z11 => [Asr.onv 91 (NE.pair (NE.flat (Enc.int .u64)) (NE.sl (Enc.int .i64))) (s1.v) z11 d10]) (x2, (IntKind.wrap .i64 (x4 + (1 : Int)))) z3 y16 hl17 [0] (by exact ⟨rfl, rfl, rfl, rfl, rfl, trivial⟩) rfl rfl ?_
    rintro ⟨d10, d12⟩ z11 s19 hm
    unfold F79_1.b1 at hm
    dsimp only at hm
    show JC _ _ _ [(0, s1.v), (1, .int .i64 x4), (2, .int .i64 x5), (3, .func (.func 48) #[] #[]), (8, .int .i64 d12)] [Asr.onv 91 (NE.pair (NE.flat (Enc.int .u64)) (NE.sl (Enc.int .i64))) (s1.v) z11 d10] _ _
    refine JC.seq ?_
    refine JC.seq ?_
    refine JC.region ?_
    refine JL.val (v := .int .i64 d12) (QV.move rfl) rfl rfl rfl ?_
    refine JL.val (v := .int .i64 x5) (QV.move rfl) rfl rfl rfl ?_
    refine JL.val (v := .bool (decide (d12 < x5))) (QV.lss rfl rfl) rfl rfl rfl ?_
    refine JL.nil ?_
    refine QJ.then_normal ?_
    rcases ite_inv hm with ⟨h20, hm⟩ | ⟨h20, hm⟩
    ·
      refine JC.condT' rfl (decide_eq_true h20) ?_
      refine JC.skip ?_
      refine QJ.then_normal ?_
      refine JC.seq ?_
      refine JC.cutK (Y := (List (Int × (List Int))) × (List (Unit × SlV))) (fun y => match y with | (d21, _) => F79_1.j2 d12 (d21) = some s19) (fun y => match y with | (d21, z22) => [(0, s1.v), (1, .int .i64 x4), (2, .int .i64 x5), (3, .func (.func 48) #[] #[]), (8, .int .i64 d12)]) (fun y => match y with | (d21, z22) => [Asr.onv 91 (NE.pair (NE.flat (Enc.int .u64)) (NE.sl (Enc.int .i64))) (s1.v) z22 d21]) ?_ ?_
      ·
        rintro ⟨d21, z22⟩ hm
        unfold F79_1.j2 at hm
        show QJ _ _ [(0, s1.v), (1, .int .i64 x4), (2, .int .i64 x5), (3, .func (.func 48) #[] #[]), (8, .int .i64 d12)] [Asr.onv 91 (NE.pair (NE.flat (Enc.int .u64)) (NE.sl (Enc.int .i64))) (s1.v) z22 d21] _ _
        refine QJ.then_normal ?_
        refine JC.region ?_
        refine JL.val (v := .int .i64 d12) (QV.move rfl) rfl rfl rfl ?_
        refine JL.val (v := .int .i64 (IntKind.wrap .i64 (d12 + (1 : Int)))) (QV.add rfl rfl) rfl rfl rfl ?_
        refine JL.val (v := .int .i64 (IntKind.wrap .i64 (d12 + (1 : Int)))) (QV.assign rfl) rfl rfl rfl ?_
        refine JL.nil ?_
        obtain rfl := Option.some.inj hm
        exact QJ.round_on (d21, (IntKind.wrap .i64 (d12 + (1 : Int)))) z22 [0] (by exact ⟨rfl, rfl, rfl, rfl, rfl, trivial⟩) rfl rfl
      ·
        refine JC.block ?_
        refine JC.seq ?_
        refine JC.region ?_
        refine JL.val (v := .int .i64 d12) (QV.move rfl) rfl rfl rfl ?_
        refine JL.val (v := .int .i64 d12) (QV.assign rfl) rfl rfl rfl ?_
        refine JL.nil ?_
        refine QJ.then_normal ?_
        refine JC.cutK (Y := (List (Int × (List Int))) × (List (Unit × SlV))) (fun y => match y with | (d23, _) => F79_1.j3 d12 (d23) = some s19) (fun y => match y with | (d23, z24) => [(0, s1.v), (1, .int .i64 x4), (2, .int .i64 x5), (3, .func (.func 48) #[] #[]), (8, .int .i64 d12)]) (fun y => match y with | (d23, z24) => [Asr.onv 91 (NE.pair (NE.flat (Enc.int .u64)) (NE.sl (Enc.int .i64))) (s1.v) z24 d23]) ?_ ?_
        ·
          rintro ⟨d23, z24⟩ hm
          unfold F79_1.j3 at hm
          show QJ _ _ [(0, s1.v), (1, .int .i64 x4), (2, .int .i64 x5), (3, .func (.func 48) #[] #[]), (8, .int .i64 d12)] [Asr.onv 91 (NE.pair (NE.flat (Enc.int .u64)) (NE.sl (Enc.int .i64))) (s1.v) z24 d23] _ _
          refine QJ.block_normal ?_
          exact QJ.cut_normal (d23, z24) hm [0] (by exact ⟨rfl, rfl, rfl, rfl, rfl, trivial⟩) rfl rfl
        ·
          refine JC.block ?_
          obtain ⟨y31, hl32, hmo33⟩ := bind_inv hm
          refine JC.loop (F79_1.b2 x4) (fun x z => match x, z with | (d25, d27), z26 => [(0, s1.v), (1, .int .i64 x4), (2, .int .i64 x5), (3, .func (.func 48) #[] #[]), (8, .int .i64 d12), (9, .int .i64 d27)]) (fun x z => match x, z with | (d25, d27), z26 => [Asr.onv 91 (NE.pair (NE.flat (Enc.int .u64)) (NE.sl (Enc.int .i64))) (s1.v) z26 d25]) (d10, d12) z11 y31 hl32 [0] (by exact ⟨rfl, rfl, rfl, rfl, rfl, rfl, trivial⟩) rfl rfl ?_
          rintro ⟨d25, d27⟩ z26 s34 hm
          unfold F79_1.b2 at hm
          dsimp only at hm
          show JC _ _ _ [(0, s1.v), (1, .int .i64 x4), (2, .int .i64 x5), (3, .func (.func 48) #[] #[]), (8, .int .i64 d12), (9, .int .i64 d27)] [Asr.onv 91 (NE.pair (NE.flat (Enc.int .u64)) (NE.sl (Enc.int .i64))) (s1.v) z26 d25] _ _
          refine JC.seq ?_
          refine JC.seq ?_
          refine JC.regionT [Asr.onv 91 (NE.pair (NE.flat (Enc.int .u64)) (NE.sl (Enc.int .i64))) (s1.v) z26 d25] (fun t => false) [(0, true), (1, false), (2, false), (3, false), (4, true), (5, true), (6, true), (7, true), (8, true), (9, true), (10, false), (11, false), (12, false), (13, false), (14, false), (15, false), (16, false)] (by kernel_rfl) (by kernel_rfl) (by kernel_rfl) rfl (fun hsel => ?_)
          refine JT.take (i := 0) (v := .int .i64 d27) hsel rfl (QV.move rfl) rfl rfl rfl rfl [0] rfl rfl ?_
          refine JT.only (i := 1) (d := some 19) rfl (MV.ofQV (v := .int .i64 x4) (QV.move rfl)) rfl rfl rfl ?_
          rintro _ _ ⟨rfl, rfl⟩
          refine ⟨fun _ => ⟨[0], rfl, rfl⟩, ?_⟩
          refine JT.only (i := 2) (d := some 20) rfl (MV.ofQV (v := .bool (decide (x4 < d27))) (QV.gtr rfl rfl)) rfl rfl rfl ?_
          rintro _ _ ⟨rfl, rfl⟩
          refine ⟨fun _ => ⟨[0], rfl, rfl⟩, ?_⟩
          rcases ite_inv hm with ⟨h35, hm⟩ | ⟨h35, hm⟩
          ·
            refine JT.only (i := 3) (d := some 21) rfl (MV.ofQV (v := .bool true) (QV.eq (QV.move rfl) (congrArg Value.bool (decide_eq_true h35)))) rfl rfl rfl ?_
            rintro _ _ ⟨rfl, rfl⟩
            refine ⟨fun _ => ⟨[0], rfl, rfl⟩, ?_⟩
            refine JT.take (i := 4) (v := .func (.func 48) #[] #[]) hsel rfl (QV.move rfl) rfl rfl rfl rfl [0] rfl rfl ?_
            refine JT.take (i := 5) (v := s1.v) hsel rfl (QV.move rfl) rfl rfl rfl rfl [0] rfl rfl ?_
            refine JT.take (i := 6) (v := .int .i64 d27) hsel rfl (QV.move rfl) rfl rfl rfl rfl [0] rfl rfl ?_
            obtain ⟨h36, hm⟩ := guard_inv hm
            refine JT.take (i := 7) (v := .pointer (some (elA (s1.v) (Int.toNat d27 * ((NE.pair (NE.flat (Enc.int .u64)) (NE.sl (Enc.int .i64))).E).sz)))) hsel rfl (QV.indexN (RdN.onv 0 rfl) Try.underlying89 tk_91 rfl rfl h36) rfl rfl rfl rfl [0] rfl rfl ?_
            refine JT.take (i := 8) (v := .agg #[.int .u64 (gd d25 d27).1, (gd z26 d27).2.v]) hsel rfl (QV.eq (QV.elNN (RdN.onv 0 rfl) tk_91 rfl h36) rfl) rfl rfl rfl rfl [0] rfl rfl ?_
            refine JT.take (i := 9) (v := s1.v) hsel rfl (QV.move rfl) rfl rfl rfl rfl [0] rfl rfl ?_
            refine JT.only (i := 10) (d := some 28) rfl (MV.ofQV (v := .int .i64 d27) (QV.move rfl)) rfl rfl rfl ?_
            rintro _ _ ⟨rfl, rfl⟩
            refine ⟨fun _ => ⟨[0], rfl, rfl⟩, ?_⟩
            refine JT.only (i := 11) (d := some 29) rfl (MV.ofQV (v := .int .i64 (IntKind.wrap .i64 (d27 - (1 : Int)))) (QV.sub rfl rfl)) rfl rfl rfl ?_
            rintro _ _ ⟨rfl, rfl⟩
            refine ⟨fun _ => ⟨[0], rfl, rfl⟩, ?_⟩
            obtain ⟨h37, hm⟩ := guard_inv hm
            refine JT.only (i := 12) (d := some 30) rfl (MV.ofQV (v := .pointer (some (elA (s1.v) (Int.toNat (IntKind.wrap .i64 (d27 - (1 : Int))) * ((NE.pair (NE.flat (Enc.int .u64)) (NE.sl (Enc.int .i64))).E).sz)))) (QV.indexN (RdN.onv 0 rfl) Try.underlying89 tk_91 rfl rfl h37)) rfl rfl rfl ?_
            rintro _ _ ⟨rfl, rfl⟩
            refine ⟨fun _ => ⟨[0], rfl, rfl⟩, ?_⟩
            refine JT.only (i := 13) (d := some 31) rfl (MV.ofQV (v := .agg #[.int .u64 (gd d25 (IntKind.wrap .i64 (d27 - (1 : Int)))).1, (gd z26 (IntKind.wrap .i64 (d27 - (1 : Int)))).2.v]) (QV.eq (QV.elNN (RdN.onv 0 rfl) tk_91 rfl h37) rfl)) rfl rfl rfl ?_
            rintro _ _ ⟨rfl, rfl⟩
            refine ⟨fun _ => ⟨[0], rfl, rfl⟩, ?_⟩
            obtain ⟨y38, hc39, hm⟩ := bind_inv hm
            refine JT.only (i := 14) (d := some 32) rfl (MV.callV (vals := [.agg #[.int .u64 (gd d25 d27).1, (gd z26 d27).2.v], .agg #[.int .u64 (gd d25 (IntKind.wrap .i64 (d27 - (1 : Int)))).1, (gd z26 (IntKind.wrap .i64 (d27 - (1 : Int)))).2.v]]) (cs := []) (Lo := []) (Lr := [Asr.onv 91 (NE.pair (NE.flat (Enc.int .u64)) (NE.sl (Enc.int .i64))) (s1.v) z26 d25]) (F48.spec ((gd z26 d27).2) ((gd z26 (IntKind.wrap .i64 (d27 - (1 : Int)))).2) ((gd d25 d27).1) ((gd d25 d27).2) ((gd d25 (IntKind.wrap .i64 (d27 - (1 : Int)))).1) ((gd d25 (IntKind.wrap .i64 (d27 - (1 : Int)))).2) _ hc39) rfl rfl rfl Try.func48 rfl rfl rfl [] [0] rfl rfl rfl ⟨(Drv.elV (K := (NE.pair (NE.flat (Enc.int .u64)) (NE.sl (Enc.int .i64)))) (A := Asr.vw (Enc.int .i64) ((gd z26 d27).2.v) (gd d25 d27).2) 0 rfl h36 (fun _ _ q => q.2)), ⟨(Drv.elV (K := (NE.pair (NE.flat (Enc.int .u64)) (NE.sl (Enc.int .i64)))) (A := Asr.vw (Enc.int .i64) ((gd z26 (IntKind.wrap .i64 (d27 - (1 : Int)))).2.v) (gd d25 (IntKind.wrap .i64 (d27 - (1 : Int)))).2) 0 rfl h37 (fun _ _ q => q.2)), trivial⟩⟩) rfl rfl rfl ?_
            rintro _ _ ⟨_, ⟨rfl, rfl⟩, rfl⟩
            refine ⟨fun _ => ⟨[0], rfl, rfl⟩, ?_⟩
            refine JT.only (i := 15) (d := some 33) rfl (MV.ofQV (v := .bool (decide (y38 < (0 : Int)))) (QV.lss rfl rfl)) rfl rfl rfl ?_
            rintro _ _ ⟨rfl, rfl⟩
            refine ⟨fun _ => ⟨[0], rfl, rfl⟩, ?_⟩
            refine JT.only (i := 16) (d := some 34) rfl (MV.ofQV (v := .bool (decide (y38 < (0 : Int)))) (QV.pickT rfl rfl)) rfl rfl rfl ?_
            rintro _ _ ⟨rfl, rfl⟩
            refine ⟨fun _ => ⟨[0], rfl, rfl⟩, ?_⟩
            refine JT.nil ?_
            refine QJ.then_normal ?_
            rcases ite_inv hm with ⟨h40, hm⟩ | ⟨h40, hm⟩
            ·
              refine JC.condT' rfl (decide_eq_true h40) ?_
              refine JC.skip ?_
              refine QJ.then_normal ?_
              refine JC.seq ?_
              refine JC.block ?_
              obtain ⟨h41, hm⟩ := guard_inv hm
              refine JC.cutK (Y := Unit × Unit) (fun y => match y with | (_, _) => F79_1.j4 d25 d27 = some s34) (fun y => match y with | (_, _) => [(0, s1.v), (1, .int .i64 x4), (2, .int .i64 x5), (3, .func (.func 48) #[] #[]), (8, .int .i64 d12), (9, .int .i64 d27)]) (fun y => match y with | (_, _) => [Asr.onv 91 (NE.pair (NE.flat (Enc.int .u64)) (NE.sl (Enc.int .i64))) (s1.v) (List.set (List.set z26 (Int.toNat d27) ((), (gd z26 (IntKind.wrap .i64 (d27 - (1 : Int)))).2)) (Int.toNat (IntKind.wrap .i64 (d27 - (1 : Int)))) ((), (gd z26 d27).2)) (List.set (List.set d25 (Int.toNat d27) ((gd d25 (IntKind.wrap .i64 (d27 - (1 : Int)))).1, (gd d25 (IntKind.wrap .i64 (d27 - (1 : Int)))).2)) (Int.toNat (IntKind.wrap .i64 (d27 - (1 : Int)))) ((gd d25 d27).1, (gd d25 d27).2))]) ?_ ?_
              ·
                rintro ⟨⟨⟩, ⟨⟩⟩ hm
                unfold F79_1.j4 at hm
                show QJ _ _ [(0, s1.v), (1, .int .i64 x4), (2, .int .i64 x5), (3, .func (.func 48) #[] #[]), (8, .int .i64 d12), (9, .int .i64 d27)] [Asr.onv 91 (NE.pair (NE.flat (Enc.int .u64)) (NE.sl (Enc.int .i64))) (s1.v) (List.set (List.set z26 (Int.toNat d27) ((), (gd z26 (IntKind.wrap .i64 (d27 - (1 : Int)))).2)) (Int.toNat (IntKind.wrap .i64 (d27 - (1 : Int)))) ((), (gd z26 d27).2)) (List.set (List.set d25 (Int.toNat d27) ((gd d25 (IntKind.wrap .i64 (d27 - (1 : Int)))).1, (gd d25 (IntKind.wrap .i64 (d27 - (1 : Int)))).2)) (Int.toNat (IntKind.wrap .i64 (d27 - (1 : Int)))) ((gd d25 d27).1, (gd d25 d27).2))] _ _
                refine QJ.block_normal ?_
                refine QJ.then_normal ?_
                refine JC.region ?_
                refine JL.val (v := .int .i64 d27) (QV.move rfl) rfl rfl rfl ?_
                refine JL.val (v := .int .i64 (IntKind.wrap .i64 (d27 - (1 : Int)))) (QV.sub rfl rfl) rfl rfl rfl ?_
                refine JL.val (v := .int .i64 (IntKind.wrap .i64 (d27 - (1 : Int)))) (QV.assign rfl) rfl rfl rfl ?_
                refine JL.nil ?_
                obtain rfl := Option.some.inj hm
                exact QJ.round_on ((List.set (List.set d25 (Int.toNat d27) ((gd d25 (IntKind.wrap .i64 (d27 - (1 : Int)))).1, (gd d25 (IntKind.wrap .i64 (d27 - (1 : Int)))).2)) (Int.toNat (IntKind.wrap .i64 (d27 - (1 : Int)))) ((gd d25 d27).1, (gd d25 d27).2)), (IntKind.wrap .i64 (d27 - (1 : Int)))) (List.set (List.set z26 (Int.toNat d27) ((), (gd z26 (IntKind.wrap .i64 (d27 - (1 : Int)))).2)) (Int.toNat (IntKind.wrap .i64 (d27 - (1 : Int)))) ((), (gd z26 d27).2)) [0] (by exact ⟨rfl, rfl, rfl, rfl, rfl, rfl, trivial⟩) rfl rfl
              ·
                refine JC.regionU [] (fun _ => false) 18 rfl (by kernel_rfl) (by kernel_rfl) (fun hsel => ?_)
                refine JU.take (i := 0) (v := s1.v) hsel rfl (by kernel_rfl) (QV.move rfl) rfl rfl rfl rfl [] rfl rfl ?_
                refine JU.take (i := 1) (v := .int .i64 d27) hsel rfl (by kernel_rfl) (QV.move rfl) rfl rfl rfl rfl [] rfl rfl ?_
                refine JU.take (i := 2) (v := s1.v) hsel rfl (by kernel_rfl) (QV.move rfl) rfl rfl rfl rfl [] rfl rfl ?_
                refine JU.take (i := 3) (v := .int .i64 d27) hsel rfl (by kernel_rfl) (QV.move rfl) rfl rfl rfl rfl [] rfl rfl ?_
                refine JU.take (i := 4) (v := .int .i64 (IntKind.wrap .i64 (d27 - (1 : Int)))) hsel rfl (by kernel_rfl) (QV.sub rfl rfl) rfl rfl rfl rfl [] rfl rfl ?_
                refine JU.take (i := 5) (v := s1.v) hsel rfl (by kernel_rfl) (QV.move rfl) rfl rfl rfl rfl [] rfl rfl ?_
                refine JU.take (i := 6) (v := .int .i64 d27) hsel rfl (by kernel_rfl) (QV.move rfl) rfl rfl rfl rfl [] rfl rfl ?_
                refine JU.take (i := 7) (v := .int .i64 (IntKind.wrap .i64 (d27 - (1 : Int)))) hsel rfl (by kernel_rfl) (QV.sub rfl rfl) rfl rfl rfl rfl [] rfl rfl ?_
                refine JU.take (i := 10) (v := s1.v) hsel rfl (by kernel_rfl) (QV.move rfl) rfl rfl rfl rfl [] rfl rfl ?_
                refine JU.take (i := 11) (v := .int .i64 d27) hsel rfl (by kernel_rfl) (QV.move rfl) rfl rfl rfl rfl [] rfl rfl ?_
                refine JU.any [8, 12] (by kernel_rfl) rfl ?_
                refine ⟨?_, ?_, trivial⟩
                ·
                  refine JUo.mv (d := some 45) rfl (MV.ofQV (v := .pointer (some (elA (s1.v) (Int.toNat (IntKind.wrap .i64 (d27 - (1 : Int))) * ((NE.pair (NE.flat (Enc.int .u64)) (NE.sl (Enc.int .i64))).E).sz)))) (QV.indexN (RdN.onv 0 rfl) Try.underlying89 tk_91 rfl rfl h37)) rfl rfl rfl ?_
                  rintro _ _ ⟨rfl, rfl⟩
                  refine ⟨fun _ => ⟨[], rfl, rfl⟩, ?_⟩
                  refine JU.any [9, 12] (by kernel_rfl) rfl ?_
                  refine ⟨?_, ?_, trivial⟩
                  ·
                    refine JUo.mv (d := some 46) rfl (MV.ofQV (v := .agg #[.int .u64 (gd d25 (IntKind.wrap .i64 (d27 - (1 : Int)))).1, (gd z26 (IntKind.wrap .i64 (d27 - (1 : Int)))).2.v]) (QV.eq (QV.elNN (RdN.onv 0 rfl) tk_91 rfl h37) rfl)) rfl rfl rfl ?_
                    rintro _ _ ⟨rfl, rfl⟩
                    refine ⟨fun _ => ⟨[], rfl, rfl⟩, ?_⟩
                    refine JU.any [12] (by kernel_rfl) rfl ?_
                    refine ⟨?_, trivial⟩
                    refine JUo.mv (d := some 49) rfl (MV.ofQV (v := .pointer (some (elA (s1.v) (Int.toNat d27 * ((NE.pair (NE.flat (Enc.int .u64)) (NE.sl (Enc.int .i64))).E).sz)))) (QV.indexN (RdN.onv 0 rfl) Try.underlying89 tk_91 rfl rfl h36)) rfl rfl rfl ?_
                    rintro _ _ ⟨rfl, rfl⟩
                    refine ⟨fun _ => ⟨[], rfl, rfl⟩, ?_⟩
                    refine JU.any [13] (by kernel_rfl) rfl ?_
                    refine ⟨?_, trivial⟩
                    refine JUo.mv (d := some 50) rfl (MV.ofQV (v := .agg #[.int .u64 (gd d25 d27).1, (gd z26 d27).2.v]) (QV.eq (QV.elNN (RdN.onv 0 rfl) tk_91 rfl h36) rfl)) rfl rfl rfl ?_
                    rintro _ _ ⟨rfl, rfl⟩
                    refine ⟨fun _ => ⟨[], rfl, rfl⟩, ?_⟩
                    refine JU.any [14] (by kernel_rfl) rfl ?_
                    refine ⟨?_, trivial⟩
                    refine JUo.mv (d := some 51) rfl (MV.ofQV (v := .pointer (some (elA (s1.v) (Int.toNat d27 * ((NE.pair (NE.flat (Enc.int .u64)) (NE.sl (Enc.int .i64))).E).sz)))) (QV.indexN (RdN.onv 0 rfl) Try.underlying89 tk_91 rfl rfl h36)) rfl rfl rfl ?_
                    rintro _ _ ⟨rfl, rfl⟩
                    refine ⟨fun _ => ⟨[], rfl, rfl⟩, ?_⟩
                    refine JU.any [15] (by kernel_rfl) rfl ?_
                    refine ⟨?_, trivial⟩
                    refine JUo.ent (fun _ hs => hs.derive (Drv.elV (K := (NE.pair (NE.flat (Enc.int .u64)) (NE.sl (Enc.int .i64)))) (A := Asr.vw (Enc.int .i64) ((gd z26 d27).2.v) (gd d25 d27).2) 0 rfl h36 (fun _ _ q => q.2))) ?_
                    refine JUo.ent (fun _ hs => hs.derive (Drv.elV (K := (NE.pair (NE.flat (Enc.int .u64)) (NE.sl (Enc.int .i64)))) (A := Asr.vw (Enc.int .i64) ((gd z26 (IntKind.wrap .i64 (d27 - (1 : Int)))).2.v) (gd d25 (IntKind.wrap .i64 (d27 - (1 : Int)))).2) 1 rfl h37 (fun _ _ q => q.2))) ?_
                    refine JUo.ent (fun _ hs => hs.derive (Drv.elV (K := (NE.pair (NE.flat (Enc.int .u64)) (NE.sl (Enc.int .i64)))) (A := Asr.vw (Enc.int .i64) ((gd z26 (IntKind.wrap .i64 (d27 - (1 : Int)))).2.v) (gd d25 (IntKind.wrap .i64 (d27 - (1 : Int)))).2) 2 rfl h37 (fun _ _ q => q.2))) ?_
                    refine JUo.ent (fun _ hs => hs.derive (Drv.elV (K := (NE.pair (NE.flat (Enc.int .u64)) (NE.sl (Enc.int .i64)))) (A := Asr.vw (Enc.int .i64) ((gd z26 d27).2.v) (gd d25 d27).2) 3 rfl h36 (fun _ _ q => q.2))) ?_
                    refine JUo.mv (d := none) rfl (MV.storeElV 4 ((), (gd z26 (IntKind.wrap .i64 (d27 - (1 : Int)))).2) ((gd d25 (IntKind.wrap .i64 (d27 - (1 : Int)))).1, (gd d25 (IntKind.wrap .i64 (d27 - (1 : Int)))).2) rfl tk_91 rfl rfl h36 rfl (fun w F G hst => ⟨trivial, (ok_vw (Drv.vw 1 rfl) w F G hst)⟩)) rfl rfl rfl ?_
                    rintro _ _ ⟨rfl, rfl⟩
                    refine ⟨fun _ => ⟨[], rfl, rfl⟩, ?_⟩
                    refine JU.any [16] (by kernel_rfl) rfl ?_
                    refine ⟨?_, trivial⟩
                    refine JUo.mv (d := some 52) rfl (MV.ofQV (v := .pointer (some (elA (s1.v) (Int.toNat (IntKind.wrap .i64 (d27 - (1 : Int))) * ((NE.pair (NE.flat (Enc.int .u64)) (NE.sl (Enc.int .i64))).E).sz)))) (QV.indexN (RdN.onv 4 rfl) Try.underlying89 tk_91 rfl rfl h41)) rfl rfl rfl ?_
                    rintro _ _ ⟨rfl, rfl⟩
                    refine ⟨fun _ => ⟨[], rfl, rfl⟩, ?_⟩
                    refine JU.any [17] (by kernel_rfl) rfl ?_
                    refine ⟨?_, trivial⟩
                    refine JUo.mv (d := none) rfl (MV.storeElV 4 ((), (gd z26 d27).2) ((gd d25 d27).1, (gd d25 d27).2) rfl tk_91 rfl rfl h41 rfl (fun w F G hst => ⟨trivial, (ok_vw (Drv.vw 0 rfl) w F G hst)⟩)) rfl rfl rfl ?_
                    rintro _ _ ⟨rfl, rfl⟩
                    refine ⟨fun _ => ⟨[], rfl, rfl⟩, ?_⟩
                    refine JU.nil (by kernel_rfl) ?_
                    exact QJ.cut_normal ((), ()) hm [4] (by exact ⟨rfl, rfl, rfl, rfl, rfl, rfl, trivial⟩) rfl rfl
                  ·
                    refine JUo.mv (d := some 49) rfl (MV.ofQV (v := .pointer (some (elA (s1.v) (Int.toNat d27 * ((NE.pair (NE.flat (Enc.int .u64)) (NE.sl (Enc.int .i64))).E).sz)))) (QV.indexN (RdN.onv 0 rfl) Try.underlying89 tk_91 rfl rfl h36)) rfl rfl rfl ?_
                    rintro _ _ ⟨rfl, rfl⟩
                    refine ⟨fun _ => ⟨[], rfl, rfl⟩, ?_⟩
                    refine JU.any [9, 13] (by kernel_rfl) rfl ?_
                    refine ⟨?_, ?_, trivial⟩
                    ·
                      refine JUo.mv (d := some 46) rfl (MV.ofQV (v := .agg #[.int .u64 (gd d25 (IntKind.wrap .i64 (d27 - (1 : Int)))).1, (gd z26 (IntKind.wrap .i64 (d27 - (1 : Int)))).2.v]) (QV.eq (QV.elNN (RdN.onv 0 rfl) tk_91 rfl h37) rfl)) rfl rfl rfl ?_
                      rintro _ _ ⟨rfl, rfl⟩
                      refine ⟨fun _ => ⟨[], rfl, rfl⟩, ?_⟩
                      refine JU.any [13] (by kernel_rfl) rfl ?_
                      refine ⟨?_, trivial⟩
                      refine JUo.mv (d := some 50) rfl (MV.ofQV (v := .agg #[.int .u64 (gd d25 d27).1, (gd z26 d27).2.v]) (QV.eq (QV.elNN (RdN.onv 0 rfl) tk_91 rfl h36) rfl)) rfl rfl rfl ?_
                      rintro _ _ ⟨rfl, rfl⟩
                      refine ⟨fun _ => ⟨[], rfl, rfl⟩, ?_⟩
                      refine JU.any [14] (by kernel_rfl) rfl ?_
                      refine ⟨?_, trivial⟩
                      refine JUo.mv (d := some 51) rfl (MV.ofQV (v := .pointer (some (elA (s1.v) (Int.toNat d27 * ((NE.pair (NE.flat (Enc.int .u64)) (NE.sl (Enc.int .i64))).E).sz)))) (QV.indexN (RdN.onv 0 rfl) Try.underlying89 tk_91 rfl rfl h36)) rfl rfl rfl ?_
                      rintro _ _ ⟨rfl, rfl⟩
                      refine ⟨fun _ => ⟨[], rfl, rfl⟩, ?_⟩
                      refine JU.any [15] (by kernel_rfl) rfl ?_
                      refine ⟨?_, trivial⟩
                      refine JUo.ent (fun _ hs => hs.derive (Drv.elV (K := (NE.pair (NE.flat (Enc.int .u64)) (NE.sl (Enc.int .i64)))) (A := Asr.vw (Enc.int .i64) ((gd z26 d27).2.v) (gd d25 d27).2) 0 rfl h36 (fun _ _ q => q.2))) ?_
                      refine JUo.ent (fun _ hs => hs.derive (Drv.elV (K := (NE.pair (NE.flat (Enc.int .u64)) (NE.sl (Enc.int .i64)))) (A := Asr.vw (Enc.int .i64) ((gd z26 (IntKind.wrap .i64 (d27 - (1 : Int)))).2.v) (gd d25 (IntKind.wrap .i64 (d27 - (1 : Int)))).2) 1 rfl h37 (fun _ _ q => q.2))) ?_
                      refine JUo.ent (fun _ hs => hs.derive (Drv.elV (K := (NE.pair (NE.flat (Enc.int .u64)) (NE.sl (Enc.int .i64)))) (A := Asr.vw (Enc.int .i64) ((gd z26 (IntKind.wrap .i64 (d27 - (1 : Int)))).2.v) (gd d25 (IntKind.wrap .i64 (d27 - (1 : Int)))).2) 2 rfl h37 (fun _ _ q => q.2))) ?_
                      refine JUo.ent (fun _ hs => hs.derive (Drv.elV (K := (NE.pair (NE.flat (Enc.int .u64)) (NE.sl (Enc.int .i64)))) (A := Asr.vw (Enc.int .i64) ((gd z26 d27).2.v) (gd d25 d27).2) 3 rfl h36 (fun _ _ q => q.2))) ?_
                      refine JUo.mv (d := none) rfl (MV.storeElV 4 ((), (gd z26 (IntKind.wrap .i64 (d27 - (1 : Int)))).2) ((gd d25 (IntKind.wrap .i64 (d27 - (1 : Int)))).1, (gd d25 (IntKind.wrap .i64 (d27 - (1 : Int)))).2) rfl tk_91 rfl rfl h36 rfl (fun w F G hst => ⟨trivial, (ok_vw (Drv.vw 1 rfl) w F G hst)⟩)) rfl rfl rfl ?_
                      rintro _ _ ⟨rfl, rfl⟩
                      refine ⟨fun _ => ⟨[], rfl, rfl⟩, ?_⟩
                      refine JU.any [16] (by kernel_rfl) rfl ?_
                      refine ⟨?_, trivial⟩
                      refine JUo.mv (d := some 52) rfl (MV.ofQV (v := .pointer (some (elA (s1.v) (Int.toNat (IntKind.wrap .i64 (d27 - (1 : Int))) * ((NE.pair (NE.flat (Enc.int .u64)) (NE.sl (Enc.int .i64))).E).sz)))) (QV.indexN (RdN.onv 4 rfl) Try.underlying89 tk_91 rfl rfl h41)) rfl rfl rfl ?_
                      rintro _ _ ⟨rfl, rfl⟩
                      refine ⟨fun _ => ⟨[], rfl, rfl⟩, ?_⟩
                      refine JU.any [17] (by kernel_rfl) rfl ?_
                      refine ⟨?_, trivial⟩
                      refine JUo.mv (d := none) rfl (MV.storeElV 4 ((), (gd z26 d27).2) ((gd d25 d27).1, (gd d25 d27).2) rfl tk_91 rfl rfl h41 rfl (fun w F G hst => ⟨trivial, (ok_vw (Drv.vw 0 rfl) w F G hst)⟩)) rfl rfl rfl ?_
                      rintro _ _ ⟨rfl, rfl⟩
                      refine ⟨fun _ => ⟨[], rfl, rfl⟩, ?_⟩
                      refine JU.nil (by kernel_rfl) ?_
                      exact QJ.cut_normal ((), ()) hm [4] (by exact ⟨rfl, rfl, rfl, rfl, rfl, rfl, trivial⟩) rfl rfl
                    ·
                      refine JUo.mv (d := some 50) rfl (MV.ofQV (v := .agg #[.int .u64 (gd d25 d27).1, (gd z26 d27).2.v]) (QV.eq (QV.elNN (RdN.onv 0 rfl) tk_91 rfl h36) rfl)) rfl rfl rfl ?_
                      rintro _ _ ⟨rfl, rfl⟩
                      refine ⟨fun _ => ⟨[], rfl, rfl⟩, ?_⟩
                      refine JU.any [9] (by kernel_rfl) rfl ?_
                      refine ⟨?_, trivial⟩
                      refine JUo.mv (d := some 46) rfl (MV.ofQV (v := .agg #[.int .u64 (gd d25 (IntKind.wrap .i64 (d27 - (1 : Int)))).1, (gd z26 (IntKind.wrap .i64 (d27 - (1 : Int)))).2.v]) (QV.eq (QV.elNN (RdN.onv 0 rfl) tk_91 rfl h37) rfl)) rfl rfl rfl ?_
                      rintro _ _ ⟨rfl, rfl⟩
                      refine ⟨fun _ => ⟨[], rfl, rfl⟩, ?_⟩
                      refine JU.any [14] (by kernel_rfl) rfl ?_
                      refine ⟨?_, trivial⟩
                      refine JUo.mv (d := some 51) rfl (MV.ofQV (v := .pointer (some (elA (s1.v) (Int.toNat d27 * ((NE.pair (NE.flat (Enc.int .u64)) (NE.sl (Enc.int .i64))).E).sz)))) (QV.indexN (RdN.onv 0 rfl) Try.underlying89 tk_91 rfl rfl h36)) rfl rfl rfl ?_
                      rintro _ _ ⟨rfl, rfl⟩
                      refine ⟨fun _ => ⟨[], rfl, rfl⟩, ?_⟩
                      refine JU.any [15] (by kernel_rfl) rfl ?_
                      refine ⟨?_, trivial⟩
                      refine JUo.ent (fun _ hs => hs.derive (Drv.elV (K := (NE.pair (NE.flat (Enc.int .u64)) (NE.sl (Enc.int .i64)))) (A := Asr.vw (Enc.int .i64) ((gd z26 d27).2.v) (gd d25 d27).2) 0 rfl h36 (fun _ _ q => q.2))) ?_
                      refine JUo.ent (fun _ hs => hs.derive (Drv.elV (K := (NE.pair (NE.flat (Enc.int .u64)) (NE.sl (Enc.int .i64)))) (A := Asr.vw (Enc.int .i64) ((gd z26 (IntKind.wrap .i64 (d27 - (1 : Int)))).2.v) (gd d25 (IntKind.wrap .i64 (d27 - (1 : Int)))).2) 1 rfl h37 (fun _ _ q => q.2))) ?_
                      refine JUo.ent (fun _ hs => hs.derive (Drv.elV (K := (NE.pair (NE.flat (Enc.int .u64)) (NE.sl (Enc.int .i64)))) (A := Asr.vw (Enc.int .i64) ((gd z26 d27).2.v) (gd d25 d27).2) 2 rfl h36 (fun _ _ q => q.2))) ?_
                      refine JUo.ent (fun _ hs => hs.derive (Drv.elV (K := (NE.pair (NE.flat (Enc.int .u64)) (NE.sl (Enc.int .i64)))) (A := Asr.vw (Enc.int .i64) ((gd z26 (IntKind.wrap .i64 (d27 - (1 : Int)))).2.v) (gd d25 (IntKind.wrap .i64 (d27 - (1 : Int)))).2) 3 rfl h37 (fun _ _ q => q.2))) ?_
                      refine JUo.mv (d := none) rfl (MV.storeElV 4 ((), (gd z26 (IntKind.wrap .i64 (d27 - (1 : Int)))).2) ((gd d25 (IntKind.wrap .i64 (d27 - (1 : Int)))).1, (gd d25 (IntKind.wrap .i64 (d27 - (1 : Int)))).2) rfl tk_91 rfl rfl h36 rfl (fun w F G hst => ⟨trivial, (ok_vw (Drv.vw 0 rfl) w F G hst)⟩)) rfl rfl rfl ?_
                      rintro _ _ ⟨rfl, rfl⟩
                      refine ⟨fun _ => ⟨[], rfl, rfl⟩, ?_⟩
                      refine JU.any [16] (by kernel_rfl) rfl ?_
                      refine ⟨?_, trivial⟩
                      refine JUo.mv (d := some 52) rfl (MV.ofQV (v := .pointer (some (elA (s1.v) (Int.toNat (IntKind.wrap .i64 (d27 - (1 : Int))) * ((NE.pair (NE.flat (Enc.int .u64)) (NE.sl (Enc.int .i64))).E).sz)))) (QV.indexN (RdN.onv 4 rfl) Try.underlying89 tk_91 rfl rfl h41)) rfl rfl rfl ?_
                      rintro _ _ ⟨rfl, rfl⟩
                      refine ⟨fun _ => ⟨[], rfl, rfl⟩, ?_⟩
                      refine JU.any [17] (by kernel_rfl) rfl ?_
                      refine ⟨?_, trivial⟩
                      refine JUo.mv (d := none) rfl (MV.storeElV 4 ((), (gd z26 d27).2) ((gd d25 d27).1, (gd d25 d27).2) rfl tk_91 rfl rfl h41 rfl (fun w F G hst => ⟨trivial, (ok_vw (Drv.vw 1 rfl) w F G hst)⟩)) rfl rfl rfl ?_
                      rintro _ _ ⟨rfl, rfl⟩
                      refine ⟨fun _ => ⟨[], rfl, rfl⟩, ?_⟩
                      refine JU.nil (by kernel_rfl) ?_
                      exact QJ.cut_normal ((), ()) hm [4] (by exact ⟨rfl, rfl, rfl, rfl, rfl, rfl, trivial⟩) rfl rfl
                ·
                  refine JUo.mv (d := some 49) rfl (MV.ofQV (v := .pointer (some (elA (s1.v) (Int.toNat d27 * ((NE.pair (NE.flat (Enc.int .u64)) (NE.sl (Enc.int .i64))).E).sz)))) (QV.indexN (RdN.onv 0 rfl) Try.underlying89 tk_91 rfl rfl h36)) rfl rfl rfl ?_
                  rintro _ _ ⟨rfl, rfl⟩
                  refine ⟨fun _ => ⟨[], rfl, rfl⟩, ?_⟩
                  refine JU.any [8, 13] (by kernel_rfl) rfl ?_
                  refine ⟨?_, ?_, trivial⟩
                  ·
                    refine JUo.mv (d := some 45) rfl (MV.ofQV (v := .pointer (some (elA (s1.v) (Int.toNat (IntKind.wrap .i64 (d27 - (1 : Int))) * ((NE.pair (NE.flat (Enc.int .u64)) (NE.sl (Enc.int .i64))).E).sz)))) (QV.indexN (RdN.onv 0 rfl) Try.underlying89 tk_91 rfl rfl h37)) rfl rfl rfl ?_
                    rintro _ _ ⟨rfl, rfl⟩
                    refine ⟨fun _ => ⟨[], rfl, rfl⟩, ?_⟩
                    refine JU.any [9, 13] (by kernel_rfl) rfl ?_
                    refine ⟨?_, ?_, trivial⟩
                    ·
                      refine JUo.mv (d := some 46) rfl (MV.ofQV (v := .agg #[.int .u64 (gd d25 (IntKind.wrap .i64 (d27 - (1 : Int)))).1, (gd z26 (IntKind.wrap .i64 (d27 - (1 : Int)))).2.v]) (QV.eq (QV.elNN (RdN.onv 0 rfl) tk_91 rfl h37) rfl)) rfl rfl rfl ?_
                      rintro _ _ ⟨rfl, rfl⟩
                      refine ⟨fun _ => ⟨[], rfl, rfl⟩, ?_⟩
                      refine JU.any [13] (by kernel_rfl) rfl ?_
                      refine ⟨?_, trivial⟩
                      refine JUo.mv (d := some 50) rfl (MV.ofQV (v := .agg #[.int .u64 (gd d25 d27).1, (gd z26 d27).2.v]) (QV.eq (QV.elNN (RdN.onv 0 rfl) tk_91 rfl h36) rfl)) rfl rfl rfl ?_
                      rintro _ _ ⟨rfl, rfl⟩
                      refine ⟨fun _ => ⟨[], rfl, rfl⟩, ?_⟩
                      refine JU.any [14] (by kernel_rfl) rfl ?_
                      refine ⟨?_, trivial⟩
                      refine JUo.mv (d := some 51) rfl (MV.ofQV (v := .pointer (some (elA (s1.v) (Int.toNat d27 * ((NE.pair (NE.flat (Enc.int .u64)) (NE.sl (Enc.int .i64))).E).sz)))) (QV.indexN (RdN.onv 0 rfl) Try.underlying89 tk_91 rfl rfl h36)) rfl rfl rfl ?_
                      rintro _ _ ⟨rfl, rfl⟩
                      refine ⟨fun _ => ⟨[], rfl, rfl⟩, ?_⟩
                      refine JU.any [15] (by kernel_rfl) rfl ?_
                      refine ⟨?_, trivial⟩
                      refine JUo.ent (fun _ hs => hs.derive (Drv.elV (K := (NE.pair (NE.flat (Enc.int .u64)) (NE.sl (Enc.int .i64)))) (A := Asr.vw (Enc.int .i64) ((gd z26 d27).2.v) (gd d25 d27).2) 0 rfl h36 (fun _ _ q => q.2))) ?_
                      refine JUo.ent (fun _ hs => hs.derive (Drv.elV (K := (NE.pair (NE.flat (Enc.int .u64)) (NE.sl (Enc.int .i64)))) (A := Asr.vw (Enc.int .i64) ((gd z26 (IntKind.wrap .i64 (d27 - (1 : Int)))).2.v) (gd d25 (IntKind.wrap .i64 (d27 - (1 : Int)))).2) 1 rfl h37 (fun _ _ q => q.2))) ?_
                      refine JUo.ent (fun _ hs => hs.derive (Drv.elV (K := (NE.pair (NE.flat (Enc.int .u64)) (NE.sl (Enc.int .i64)))) (A := Asr.vw (Enc.int .i64) ((gd z26 (IntKind.wrap .i64 (d27 - (1 : Int)))).2.v) (gd d25 (IntKind.wrap .i64 (d27 - (1 : Int)))).2) 2 rfl h37 (fun _ _ q => q.2))) ?_
                      refine JUo.ent (fun _ hs => hs.derive (Drv.elV (K := (NE.pair (NE.flat (Enc.int .u64)) (NE.sl (Enc.int .i64)))) (A := Asr.vw (Enc.int .i64) ((gd z26 d27).2.v) (gd d25 d27).2) 3 rfl h36 (fun _ _ q => q.2))) ?_
                      refine JUo.mv (d := none) rfl (MV.storeElV 4 ((), (gd z26 (IntKind.wrap .i64 (d27 - (1 : Int)))).2) ((gd d25 (IntKind.wrap .i64 (d27 - (1 : Int)))).1, (gd d25 (IntKind.wrap .i64 (d27 - (1 : Int)))).2) rfl tk_91 rfl rfl h36 rfl (fun w F G hst => ⟨trivial, (ok_vw (Drv.vw 1 rfl) w F G hst)⟩)) rfl rfl rfl ?_
                      rintro _ _ ⟨rfl, rfl⟩
                      refine ⟨fun _ => ⟨[], rfl, rfl⟩, ?_⟩
                      refine JU.any [16] (by kernel_rfl) rfl ?_
                      refine ⟨?_, trivial⟩
                      refine JUo.mv (d := some 52) rfl (MV.ofQV (v := .pointer (some (elA (s1.v) (Int.toNat (IntKind.wrap .i64 (d27 - (1 : Int))) * ((NE.pair (NE.flat (Enc.int .u64)) (NE.sl (Enc.int .i64))).E).sz)))) (QV.indexN (RdN.onv 4 rfl) Try.underlying89 tk_91 rfl rfl h41)) rfl rfl rfl ?_
                      rintro _ _ ⟨rfl, rfl⟩
                      refine ⟨fun _ => ⟨[], rfl, rfl⟩, ?_⟩
                      refine JU.any [17] (by kernel_rfl) rfl ?_
                      refine ⟨?_, trivial⟩
                      refine JUo.mv (d := none) rfl (MV.storeElV 4 ((), (gd z26 d27).2) ((gd d25 d27).1, (gd d25 d27).2) rfl tk_91 rfl rfl h41 rfl (fun w F G hst => ⟨trivial, (ok_vw (Drv.vw 0 rfl) w F G hst)⟩)) rfl rfl rfl ?_
                      rintro _ _ ⟨rfl, rfl⟩
                      refine ⟨fun _ => ⟨[], rfl, rfl⟩, ?_⟩
                      refine JU.nil (by kernel_rfl) ?_
                      exact QJ.cut_normal ((), ()) hm [4] (by exact ⟨rfl, rfl, rfl, rfl, rfl, rfl, trivial⟩) rfl rfl
                    ·
                      refine JUo.mv (d := some 50) rfl (MV.ofQV (v := .agg #[.int .u64 (gd d25 d27).1, (gd z26 d27).2.v]) (QV.eq (QV.elNN (RdN.onv 0 rfl) tk_91 rfl h36) rfl)) rfl rfl rfl ?_
                      rintro _ _ ⟨rfl, rfl⟩
                      refine ⟨fun _ => ⟨[], rfl, rfl⟩, ?_⟩
                      refine JU.any [9] (by kernel_rfl) rfl ?_
                      refine ⟨?_, trivial⟩
                      refine JUo.mv (d := some 46) rfl (MV.ofQV (v := .agg #[.int .u64 (gd d25 (IntKind.wrap .i64 (d27 - (1 : Int)))).1, (gd z26 (IntKind.wrap .i64 (d27 - (1 : Int)))).2.v]) (QV.eq (QV.elNN (RdN.onv 0 rfl) tk_91 rfl h37) rfl)) rfl rfl rfl ?_
                      rintro _ _ ⟨rfl, rfl⟩
                      refine ⟨fun _ => ⟨[], rfl, rfl⟩, ?_⟩
                      refine JU.any [14] (by kernel_rfl) rfl ?_
                      refine ⟨?_, trivial⟩
                      refine JUo.mv (d := some 51) rfl (MV.ofQV (v := .pointer (some (elA (s1.v) (Int.toNat d27 * ((NE.pair (NE.flat (Enc.int .u64)) (NE.sl (Enc.int .i64))).E).sz)))) (QV.indexN (RdN.onv 0 rfl) Try.underlying89 tk_91 rfl rfl h36)) rfl rfl rfl ?_
                      rintro _ _ ⟨rfl, rfl⟩
                      refine ⟨fun _ => ⟨[], rfl, rfl⟩, ?_⟩
                      refine JU.any [15] (by kernel_rfl) rfl ?_
                      refine ⟨?_, trivial⟩
                      refine JUo.ent (fun _ hs => hs.derive (Drv.elV (K := (NE.pair (NE.flat (Enc.int .u64)) (NE.sl (Enc.int .i64)))) (A := Asr.vw (Enc.int .i64) ((gd z26 d27).2.v) (gd d25 d27).2) 0 rfl h36 (fun _ _ q => q.2))) ?_
                      refine JUo.ent (fun _ hs => hs.derive (Drv.elV (K := (NE.pair (NE.flat (Enc.int .u64)) (NE.sl (Enc.int .i64)))) (A := Asr.vw (Enc.int .i64) ((gd z26 (IntKind.wrap .i64 (d27 - (1 : Int)))).2.v) (gd d25 (IntKind.wrap .i64 (d27 - (1 : Int)))).2) 1 rfl h37 (fun _ _ q => q.2))) ?_
                      refine JUo.ent (fun _ hs => hs.derive (Drv.elV (K := (NE.pair (NE.flat (Enc.int .u64)) (NE.sl (Enc.int .i64)))) (A := Asr.vw (Enc.int .i64) ((gd z26 d27).2.v) (gd d25 d27).2) 2 rfl h36 (fun _ _ q => q.2))) ?_
                      refine JUo.ent (fun _ hs => hs.derive (Drv.elV (K := (NE.pair (NE.flat (Enc.int .u64)) (NE.sl (Enc.int .i64)))) (A := Asr.vw (Enc.int .i64) ((gd z26 (IntKind.wrap .i64 (d27 - (1 : Int)))).2.v) (gd d25 (IntKind.wrap .i64 (d27 - (1 : Int)))).2) 3 rfl h37 (fun _ _ q => q.2))) ?_
                      refine JUo.mv (d := none) rfl (MV.storeElV 4 ((), (gd z26 (IntKind.wrap .i64 (d27 - (1 : Int)))).2) ((gd d25 (IntKind.wrap .i64 (d27 - (1 : Int)))).1, (gd d25 (IntKind.wrap .i64 (d27 - (1 : Int)))).2) rfl tk_91 rfl rfl h36 rfl (fun w F G hst => ⟨trivial, (ok_vw (Drv.vw 0 rfl) w F G hst)⟩)) rfl rfl rfl ?_
                      rintro _ _ ⟨rfl, rfl⟩
                      refine ⟨fun _ => ⟨[], rfl, rfl⟩, ?_⟩
                      refine JU.any [16] (by kernel_rfl) rfl ?_
                      refine ⟨?_, trivial⟩
                      refine JUo.mv (d := some 52) rfl (MV.ofQV (v := .pointer (some (elA (s1.v) (Int.toNat (IntKind.wrap .i64 (d27 - (1 : Int))) * ((NE.pair (NE.flat (Enc.int .u64)) (NE.sl (Enc.int .i64))).E).sz)))) (QV.indexN (RdN.onv 4 rfl) Try.underlying89 tk_91 rfl rfl h41)) rfl rfl rfl ?_
                      rintro _ _ ⟨rfl, rfl⟩
                      refine ⟨fun _ => ⟨[], rfl, rfl⟩, ?_⟩
                      refine JU.any [17] (by kernel_rfl) rfl ?_
                      refine ⟨?_, trivial⟩
                      refine JUo.mv (d := none) rfl (MV.storeElV 4 ((), (gd z26 d27).2) ((gd d25 d27).1, (gd d25 d27).2) rfl tk_91 rfl rfl h41 rfl (fun w F G hst => ⟨trivial, (ok_vw (Drv.vw 1 rfl) w F G hst)⟩)) rfl rfl rfl ?_
                      rintro _ _ ⟨rfl, rfl⟩
                      refine ⟨fun _ => ⟨[], rfl, rfl⟩, ?_⟩
                      refine JU.nil (by kernel_rfl) ?_
                      exact QJ.cut_normal ((), ()) hm [4] (by exact ⟨rfl, rfl, rfl, rfl, rfl, rfl, trivial⟩) rfl rfl
                  ·
                    refine JUo.mv (d := some 50) rfl (MV.ofQV (v := .agg #[.int .u64 (gd d25 d27).1, (gd z26 d27).2.v]) (QV.eq (QV.elNN (RdN.onv 0 rfl) tk_91 rfl h36) rfl)) rfl rfl rfl ?_
                    rintro _ _ ⟨rfl, rfl⟩
                    refine ⟨fun _ => ⟨[], rfl, rfl⟩, ?_⟩
                    refine JU.any [8] (by kernel_rfl) rfl ?_
                    refine ⟨?_, trivial⟩
                    refine JUo.mv (d := some 45) rfl (MV.ofQV (v := .pointer (some (elA (s1.v) (Int.toNat (IntKind.wrap .i64 (d27 - (1 : Int))) * ((NE.pair (NE.flat (Enc.int .u64)) (NE.sl (Enc.int .i64))).E).sz)))) (QV.indexN (RdN.onv 0 rfl) Try.underlying89 tk_91 rfl rfl h37)) rfl rfl rfl ?_
                    rintro _ _ ⟨rfl, rfl⟩
                    refine ⟨fun _ => ⟨[], rfl, rfl⟩, ?_⟩
                    refine JU.any [9] (by kernel_rfl) rfl ?_
                    refine ⟨?_, trivial⟩
                    refine JUo.mv (d := some 46) rfl (MV.ofQV (v := .agg #[.int .u64 (gd d25 (IntKind.wrap .i64 (d27 - (1 : Int)))).1, (gd z26 (IntKind.wrap .i64 (d27 - (1 : Int)))).2.v]) (QV.eq (QV.elNN (RdN.onv 0 rfl) tk_91 rfl h37) rfl)) rfl rfl rfl ?_
                    rintro _ _ ⟨rfl, rfl⟩
                    refine ⟨fun _ => ⟨[], rfl, rfl⟩, ?_⟩
                    refine JU.any [14] (by kernel_rfl) rfl ?_
                    refine ⟨?_, trivial⟩
                    refine JUo.mv (d := some 51) rfl (MV.ofQV (v := .pointer (some (elA (s1.v) (Int.toNat d27 * ((NE.pair (NE.flat (Enc.int .u64)) (NE.sl (Enc.int .i64))).E).sz)))) (QV.indexN (RdN.onv 0 rfl) Try.underlying89 tk_91 rfl rfl h36)) rfl rfl rfl ?_
                    rintro _ _ ⟨rfl, rfl⟩
                    refine ⟨fun _ => ⟨[], rfl, rfl⟩, ?_⟩
                    refine JU.any [15] (by kernel_rfl) rfl ?_
                    refine ⟨?_, trivial⟩
                    refine JUo.ent (fun _ hs => hs.derive (Drv.elV (K := (NE.pair (NE.flat (Enc.int .u64)) (NE.sl (Enc.int .i64)))) (A := Asr.vw (Enc.int .i64) ((gd z26 d27).2.v) (gd d25 d27).2) 0 rfl h36 (fun _ _ q => q.2))) ?_
                    refine JUo.ent (fun _ hs => hs.derive (Drv.elV (K := (NE.pair (NE.flat (Enc.int .u64)) (NE.sl (Enc.int .i64)))) (A := Asr.vw (Enc.int .i64) ((gd z26 (IntKind.wrap .i64 (d27 - (1 : Int)))).2.v) (gd d25 (IntKind.wrap .i64 (d27 - (1 : Int)))).2) 1 rfl h37 (fun _ _ q => q.2))) ?_
                    refine JUo.ent (fun _ hs => hs.derive (Drv.elV (K := (NE.pair (NE.flat (Enc.int .u64)) (NE.sl (Enc.int .i64)))) (A := Asr.vw (Enc.int .i64) ((gd z26 d27).2.v) (gd d25 d27).2) 2 rfl h36 (fun _ _ q => q.2))) ?_
                    refine JUo.ent (fun _ hs => hs.derive (Drv.elV (K := (NE.pair (NE.flat (Enc.int .u64)) (NE.sl (Enc.int .i64)))) (A := Asr.vw (Enc.int .i64) ((gd z26 (IntKind.wrap .i64 (d27 - (1 : Int)))).2.v) (gd d25 (IntKind.wrap .i64 (d27 - (1 : Int)))).2) 3 rfl h37 (fun _ _ q => q.2))) ?_
                    refine JUo.mv (d := none) rfl (MV.storeElV 4 ((), (gd z26 (IntKind.wrap .i64 (d27 - (1 : Int)))).2) ((gd d25 (IntKind.wrap .i64 (d27 - (1 : Int)))).1, (gd d25 (IntKind.wrap .i64 (d27 - (1 : Int)))).2) rfl tk_91 rfl rfl h36 rfl (fun w F G hst => ⟨trivial, (ok_vw (Drv.vw 0 rfl) w F G hst)⟩)) rfl rfl rfl ?_
                    rintro _ _ ⟨rfl, rfl⟩
                    refine ⟨fun _ => ⟨[], rfl, rfl⟩, ?_⟩
                    refine JU.any [16] (by kernel_rfl) rfl ?_
                    refine ⟨?_, trivial⟩
                    refine JUo.mv (d := some 52) rfl (MV.ofQV (v := .pointer (some (elA (s1.v) (Int.toNat (IntKind.wrap .i64 (d27 - (1 : Int))) * ((NE.pair (NE.flat (Enc.int .u64)) (NE.sl (Enc.int .i64))).E).sz)))) (QV.indexN (RdN.onv 4 rfl) Try.underlying89 tk_91 rfl rfl h41)) rfl rfl rfl ?_
                    rintro _ _ ⟨rfl, rfl⟩
                    refine ⟨fun _ => ⟨[], rfl, rfl⟩, ?_⟩
                    refine JU.any [17] (by kernel_rfl) rfl ?_
                    refine ⟨?_, trivial⟩
                    refine JUo.mv (d := none) rfl (MV.storeElV 4 ((), (gd z26 d27).2) ((gd d25 d27).1, (gd d25 d27).2) rfl tk_91 rfl rfl h41 rfl (fun w F G hst => ⟨trivial, (ok_vw (Drv.vw 1 rfl) w F G hst)⟩)) rfl rfl rfl ?_
                    rintro _ _ ⟨rfl, rfl⟩
                    refine ⟨fun _ => ⟨[], rfl, rfl⟩, ?_⟩
                    refine JU.nil (by kernel_rfl) ?_
                    exact QJ.cut_normal ((), ()) hm [4] (by exact ⟨rfl, rfl, rfl, rfl, rfl, rfl, trivial⟩) rfl rfl
            ·
              refine JC.condF' rfl (decide_eq_false h40) ?_
              refine JC.exit ?_
              refine QJ.then_exit ?_
              obtain rfl := Option.some.inj hm
              refine QJ.round_exit (fun hy => ?_)
              subst hy
              refine QJ.block_hit ?_
              exact QJ.cut_normal (d25, z26) hmo33 [0] (by exact ⟨rfl, rfl, rfl, rfl, rfl, trivial⟩) rfl rfl
          ·
            refine JT.only (i := 3) (d := some 21) rfl (MV.ofQV (v := .bool false) (QV.eq (QV.move rfl) (congrArg Value.bool (decide_eq_false h35)))) rfl rfl rfl ?_
            rintro _ _ ⟨rfl, rfl⟩
            refine ⟨fun _ => ⟨[0], rfl, rfl⟩, ?_⟩
            refine JT.skip (i := 4) (d := some 22) hsel rfl rfl rfl rfl rfl [0] rfl rfl ?_
            refine JT.skip (i := 5) (d := some 23) hsel rfl rfl rfl rfl rfl [0] rfl rfl ?_
            refine JT.skip (i := 6) (d := some 24) hsel rfl rfl rfl rfl rfl [0] rfl rfl ?_
            refine JT.skip (i := 7) (d := some 25) hsel rfl rfl rfl rfl rfl [0] rfl rfl ?_
            refine JT.skip (i := 8) (d := some 26) hsel rfl rfl rfl rfl rfl [0] rfl rfl ?_
            refine JT.skip (i := 9) (d := some 27) hsel rfl rfl rfl rfl rfl [0] rfl rfl ?_
            refine JT.skipO (i := 10) (d := some 28) rfl rfl rfl rfl [0] rfl rfl ?_
            refine JT.skipO (i := 11) (d := some 29) rfl rfl rfl rfl [0] rfl rfl ?_
            refine JT.skipO (i := 12) (d := some 30) rfl rfl rfl rfl [0] rfl rfl ?_
            refine JT.skipO (i := 13) (d := some 31) rfl rfl rfl rfl [0] rfl rfl ?_
            refine JT.skipO (i := 14) (d := some 32) rfl rfl rfl rfl [0] rfl rfl ?_
            refine JT.skipO (i := 15) (d := some 33) rfl rfl rfl rfl [0] rfl rfl ?_
            refine JT.only (i := 16) (d := some 34) rfl (MV.ofQV (v := .bool false) (QV.pickF rfl rfl)) rfl rfl rfl ?_
            rintro _ _ ⟨rfl, rfl⟩
            refine ⟨fun _ => ⟨[0], rfl, rfl⟩, ?_⟩
            refine JT.nil ?_
            refine QJ.then_normal ?_
            refine JC.condF rfl ?_
            refine JC.exit ?_
            refine QJ.then_exit ?_
            obtain rfl := Option.some.inj hm
            refine QJ.round_exit (fun hy => ?_)
            subst hy
            refine QJ.block_hit ?_
            exact QJ.cut_normal (d25, z26) hmo33 [0] (by exact ⟨rfl, rfl, rfl, rfl, rfl, trivial⟩) rfl rfl
    ·
      refine JC.condF' rfl (decide_eq_false h20) ?_
      refine JC.exit ?_
      refine QJ.then_exit ?_
      obtain rfl := Option.some.inj hm
      refine QJ.round_exit (fun hy => ?_)
      subst hy
      refine QJ.block_hit ?_
      exact QJ.cut_normal (d10, z11) hmo18 [0] trivial rfl rfl

/-! ### 95: slices.swapRangeCmpFunc[drogher/limit.pack] -/
noncomputable def F95_1.j1  (d9 : List (Int × (List Int))) : Option (List (Int × (List Int))) :=
  some d9
noncomputable def F95_1.j2 (x4 : Int) (x5 : Int) (d11 : List (Int × (List Int))) (d13 : Int)  : Option ((List (Int × (List Int)) × Int) ⊕ (List (Int × (List Int)))) :=
  some (.inl ((List.set (List.set d11 (Int.toNat (IntKind.wrap .i64 (x4 + d13))) ((gd d11 (IntKind.wrap .i64 (x5 + d13))).1, (gd d11 (IntKind.wrap .i64 (x5 + d13))).2)) (Int.toNat (IntKind.wrap .i64 (x5 + d13))) ((gd d11 (IntKind.wrap .i64 (x4 + d13))).1, (gd d11 (IntKind.wrap .i64 (x4 + d13))).2)), (IntKind.wrap .i64 (d13 + (1 : Int)))))
noncomputable def F95_1.b1 (x4 : Int) (x5 : Int) (x6 : Int) : (List (Int × (List Int)) × Int) → Option ((List (Int × (List Int)) × Int) ⊕ (List (Int × (List Int))))
  | (d11, d13) => (if d13 < x6 then (if 0 ≤ (IntKind.wrap .i64 (x5 + d13)) ∧ (IntKind.wrap .i64 (x5 + d13)) < ((d11).length : Int) then (if 0 ≤ (IntKind.wrap .i64 (x4 + d13)) ∧ (IntKind.wrap .i64 (x4 + d13)) < ((d11).length : Int) then (if 0 ≤ (IntKind.wrap .i64 (x5 + d13)) ∧ (IntKind.wrap .i64 (x5 + d13)) < (((List.set d11 (Int.toNat (IntKind.wrap .i64 (x4 + d13))) ((gd d11 (IntKind.wrap .i64 (x5 + d13))).1, (gd d11 (IntKind.wrap .i64 (x5 + d13))).2))).length : Int) then F95_1.j2 x4 x5 d11 d13 else none) else none) else none) else some (.inr d11))
noncomputable def F95_1.m (x2 : List (Int × (List Int))) (x4 : Int) (x5 : Int) (x6 : Int) : Option (List (Int × (List Int))) :=
  ((loop (F95_1.b1 x4 x5 x6) (x2, (0 : Int))).bind fun y => match y with | d9 => F95_1.j1 (d9))
set_option maxRecDepth 100000 in
set_option maxHeartbeats 4000000 in
theorem F95_1.spec (s1 : SlV) (z3 : List (Unit × SlV)) (x2 : List (Int × (List Int))) (x4 : Int) (x5 : Int) (x6 : Int) (r : (List (Int × (List Int)))) (hm : F95_1.m x2 x4 x5 x6 = some r) :
    Ctr Try.prog true 95 [s1.v, .int .i64 x4, .int .i64 x5, .int .i64 x6, .func (.func 48) #[] #[]] [Asr.onv 91 (NE.pair (NE.flat (Enc.int .u64)) (NE.sl (Enc.int .i64))) (s1.v) z3 x2] (fun v L' => ∃ (g8 : List (Unit × SlV)), v = .tuple #[] ∧ L' = [Asr.onv 91 (NE.pair (NE.flat (Enc.int .u64)) (NE.sl (Enc.int .i64))) (s1.v) g8 r]) := by
  refine Ctr.intro (n := 38) (env := [(0, s1.v), (1, .int .i64 x4), (2, .int .i64 x5), (3, .int .i64 x6), (4, .func (.func 48) #[] #[])]) Try.func95 rfl rfl rfl rfl (fun c => ?_)
  unfold F95_1.m at hm
  refine JC.seq ?_
  refine JC.region ?_
  refine JL.val (v := .int .i64 (0 : Int)) (QV.assign rfl) rfl rfl rfl ?_
  refine JL.nil ?_
  refine QJ.then_normal ?_
  refine JC.cutK (Y := (List (Int × (List Int))) × (List (Unit × SlV))) (fun y => match y with | (d9, _) => F95_1.j1 (d9) = some r) (fun y => match y with | (d9, z10) => []) (fun y => match y with | (d9, z10) => [Asr.onv 91 (NE.pair (NE.flat (Enc.int .u64)) (NE.sl (Enc.int .i64))) (s1.v) z10 d9]) ?_ ?_
  ·
    rintro ⟨d9, z10⟩ hm
    unfold F95_1.j1 at hm
    show QJ _ _ [] [Asr.onv 91 (NE.pair (NE.flat (Enc.int .u64)) (NE.sl (Enc.int .i64))) (s1.v) z10 d9] _ _
    obtain rfl := Option.some.inj hm
    exact QJ.body (vs := []) (.inr rfl) rfl ResVs.nil [0] rfl rfl (.inl rfl) ⟨z10, rfl, rfl⟩
  ·
    refine JC.block ?_
    obtain ⟨y17, hl18, hmo19⟩ := bind_inv hm
    refine JC.loop (F95_1.b1 x4 x5 x6) (fun x z => match x, z with | (d11, d13), z12 => [(0, s1.v), (1, .int .i64 x4), (2, .int .i64 x5), (3, .int .i64 x6), (10, .int .i64 d13)]) (fun x z => match x, z with | (d11, d13), z12 => [Asr.onv 91 (NE.pair (NE.flat (Enc.int .u64)) (NE.sl (Enc.int .i64))) (s1.v) z12 d11]) (x2, (0 : Int)) z3 y17 hl18 [0] (by exact ⟨rfl, rfl, rfl, rfl, rfl, trivial⟩) rfl rfl ?_
    rintro ⟨d11, d13⟩ z12 s20 hm
    unfold F95_1.b1 at hm
    dsimp only at hm
    show JC _ _ _ [(0, s1.v), (1, .int .i64 x4), (2, .int .i64 x5), (3, .int .i64 x6), (10, .int .i64 d13)] [Asr.onv 91 (NE.pair (NE.flat (Enc.int .u64)) (NE.sl (Enc.int .i64))) (s1.v) z12 d11] _ _
    refine JC.seq ?_
    refine JC.seq ?_
    refine JC.region ?_
    refine JL.val (v := .int .i64 d13) (QV.move rfl) rfl rfl rfl ?_
    refine JL.val (v := .int .i64 x6) (QV.move rfl) rfl rfl rfl ?_
    refine JL.val (v := .bool (decide (d13 < x6))) (QV.lss rfl rfl) rfl rfl rfl ?_
    refine JL.nil ?_
    refine QJ.then_normal ?_
    rcases ite_inv hm with ⟨h21, hm⟩ | ⟨h21, hm⟩
    ·
      refine JC.condT' rfl (decide_eq_true h21) ?_
      refine JC.skip ?_
      refine QJ.then_normal ?_
      refine JC.seq ?_
      refine JC.block ?_
      obtain ⟨h22, hm⟩ := guard_inv hm
      obtain ⟨h23, hm⟩ := guard_inv hm
      obtain ⟨h24, hm⟩ := guard_inv hm
      refine JC.cutK (Y := Unit × Unit) (fun y => match y with | (_, _) => F95_1.j2 x4 x5 d11 d13 = some s20) (fun y => match y with | (_, _) => [(0, s1.v), (1, .int .i64 x4), (2, .int .i64 x5), (3, .int .i64 x6), (10, .int .i64 d13)]) (fun y => match y with | (_, _) => [Asr.onv 91 (NE.pair (NE.flat (Enc.int .u64)) (NE.sl (Enc.int .i64))) (s1.v) (List.set (List.set z12 (Int.toNat (IntKind.wrap .i64 (x4 + d13))) ((), (gd z12 (IntKind.wrap .i64 (x5 + d13))).2)) (Int.toNat (IntKind.wrap .i64 (x5 + d13))) ((), (gd z12 (IntKind.wrap .i64 (x4 + d13))).2)) (List.set (List.set d11 (Int.toNat (IntKind.wrap .i64 (x4 + d13))) ((gd d11 (IntKind.wrap .i64 (x5 + d13))).1, (gd d11 (IntKind.wrap .i64 (x5 + d13))).2)) (Int.toNat (IntKind.wrap .i64 (x5 + d13))) ((gd d11 (IntKind.wrap .i64 (x4 + d13))).1, (gd d11 (IntKind.wrap .i64 (x4 + d13))).2))]) ?_ ?_
      ·
        rintro ⟨⟨⟩, ⟨⟩⟩ hm
        unfold F95_1.j2 at hm
        show QJ _ _ [(0, s1.v), (1, .int .i64 x4), (2, .int .i64 x5), (3, .int .i64 x6), (10, .int .i64 d13)] [Asr.onv 91 (NE.pair (NE.flat (Enc.int .u64)) (NE.sl (Enc.int .i64))) (s1.v) (List.set (List.set z12 (Int.toNat (IntKind.wrap .i64 (x4 + d13))) ((), (gd z12 (IntKind.wrap .i64 (x5 + d13))).2)) (Int.toNat (IntKind.wrap .i64 (x5 + d13))) ((), (gd z12 (IntKind.wrap .i64 (x4 + d13))).2)) (List.set (List.set d11 (Int.toNat (IntKind.wrap .i64 (x4 + d13))) ((gd d11 (IntKind.wrap .i64 (x5 + d13))).1, (gd d11 (IntKind.wrap .i64 (x5 + d13))).2)) (Int.toNat (IntKind.wrap .i64 (x5 + d13))) ((gd d11 (IntKind.wrap .i64 (x4 + d13))).1, (gd d11 (IntKind.wrap .i64 (x4 + d13))).2))] _ _
        refine QJ.block_normal ?_
        refine QJ.then_normal ?_
        refine JC.region ?_
        refine JL.val (v := .int .i64 d13) (QV.move rfl) rfl rfl rfl ?_
        refine JL.val (v := .int .i64 (IntKind.wrap .i64 (d13 + (1 : Int)))) (QV.add rfl rfl) rfl rfl rfl ?_
        refine JL.val (v := .int .i64 (IntKind.wrap .i64 (d13 + (1 : Int)))) (QV.assign rfl) rfl rfl rfl ?_
        refine JL.nil ?_
        obtain rfl := Option.some.inj hm
        exact QJ.round_on ((List.set (List.set d11 (Int.toNat (IntKind.wrap .i64 (x4 + d13))) ((gd d11 (IntKind.wrap .i64 (x5 + d13))).1, (gd d11 (IntKind.wrap .i64 (x5 + d13))).2)) (Int.toNat (IntKind.wrap .i64 (x5 + d13))) ((gd d11 (IntKind.wrap .i64 (x4 + d13))).1, (gd d11 (IntKind.wrap .i64 (x4 + d13))).2)), (IntKind.wrap .i64 (d13 + (1 : Int)))) (List.set (List.set z12 (Int.toNat (IntKind.wrap .i64 (x4 + d13))) ((), (gd z12 (IntKind.wrap .i64 (x5 + d13))).2)) (Int.toNat (IntKind.wrap .i64 (x5 + d13))) ((), (gd z12 (IntKind.wrap .i64 (x4 + d13))).2)) [0] (by exact ⟨rfl, rfl, rfl, rfl, rfl, trivial⟩) rfl rfl
      ·
        refine JC.regionU [] (fun _ => false) 24 rfl (by kernel_rfl) (by kernel_rfl) (fun hsel => ?_)
        refine JU.take (i := 0) (v := s1.v) hsel rfl (by kernel_rfl) (QV.move rfl) rfl rfl rfl rfl [] rfl rfl ?_
        refine JU.take (i := 1) (v := .int .i64 x4) hsel rfl (by kernel_rfl) (QV.move rfl) rfl rfl rfl rfl [] rfl rfl ?_
        refine JU.take (i := 2) (v := .int .i64 d13) hsel rfl (by kernel_rfl) (QV.move rfl) rfl rfl rfl rfl [] rfl rfl ?_
        refine JU.take (i := 3) (v := .int .i64 (IntKind.wrap .i64 (x4 + d13))) hsel rfl (by kernel_rfl) (QV.add rfl rfl) rfl rfl rfl rfl [] rfl rfl ?_
        refine JU.take (i := 4) (v := s1.v) hsel rfl (by kernel_rfl) (QV.move rfl) rfl rfl rfl rfl [] rfl rfl ?_
        refine JU.take (i := 5) (v := .int .i64 x5) hsel rfl (by kernel_rfl) (QV.move rfl) rfl rfl rfl rfl [] rfl rfl ?_
        refine JU.take (i := 6) (v := .int .i64 d13) hsel rfl (by kernel_rfl) (QV.move rfl) rfl rfl rfl rfl [] rfl rfl ?_
        refine JU.take (i := 7) (v := .int .i64 (IntKind.wrap .i64 (x5 + d13))) hsel rfl (by kernel_rfl) (QV.add rfl rfl) rfl rfl rfl rfl [] rfl rfl ?_
        refine JU.take (i := 8) (v := s1.v) hsel rfl (by kernel_rfl) (QV.move rfl) rfl rfl rfl rfl [] rfl rfl ?_
        refine JU.take (i := 9) (v := .int .i64 x5) hsel rfl (by kernel_rfl) (QV.move rfl) rfl rfl rfl rfl [] rfl rfl ?_
        refine JU.take (i := 10) (v := .int .i64 d13) hsel rfl (by kernel_rfl) (QV.move rfl) rfl rfl rfl rfl [] rfl rfl ?_
        refine JU.take (i := 11) (v := .int .i64 (IntKind.wrap .i64 (x5 + d13))) hsel rfl (by kernel_rfl) (QV.add rfl rfl) rfl rfl rfl rfl [] rfl rfl ?_
        refine JU.take (i := 14) (v := s1.v) hsel rfl (by kernel_rfl) (QV.move rfl) rfl rfl rfl rfl [] rfl rfl ?_
        refine JU.take (i := 15) (v := .int .i64 x4) hsel rfl (by kernel_rfl) (QV.move rfl) rfl rfl rfl rfl [] rfl rfl ?_
        refine JU.take (i := 16) (v := .int .i64 d13) hsel rfl (by kernel_rfl) (QV.move rfl) rfl rfl rfl rfl [] rfl rfl ?_
        refine JU.take (i := 17) (v := .int .i64 (IntKind.wrap .i64 (x4 + d13))) hsel rfl (by kernel_rfl) (QV.add rfl rfl) rfl rfl rfl rfl [] rfl rfl ?_
        refine JU.any [12, 18] (by kernel_rfl) rfl ?_
        refine ⟨?_, ?_, trivial⟩
        ·
          refine JUo.mv (d := some 28) rfl (MV.ofQV (v := .pointer (some (elA (s1.v) (Int.toNat (IntKind.wrap .i64 (x5 + d13)) * ((NE.pair (NE.flat (Enc.int .u64)) (NE.sl (Enc.int .i64))).E).sz)))) (QV.indexN (RdN.onv 0 rfl) Try.underlying89 tk_91 rfl rfl h22)) rfl rfl rfl ?_
          rintro _ _ ⟨rfl, rfl⟩
          refine ⟨fun _ => ⟨[], rfl, rfl⟩, ?_⟩
          refine JU.any [13, 18] (by kernel_rfl) rfl ?_
          refine ⟨?_, ?_, trivial⟩
          ·
            refine JUo.mv (d := some 29) rfl (MV.ofQV (v := .agg #[.int .u64 (gd d11 (IntKind.wrap .i64 (x5 + d13))).1, (gd z12 (IntKind.wrap .i64 (x5 + d13))).2.v]) (QV.eq (QV.elNN (RdN.onv 0 rfl) tk_91 rfl h22) rfl)) rfl rfl rfl ?_
            rintro _ _ ⟨rfl, rfl⟩
            refine ⟨fun _ => ⟨[], rfl, rfl⟩, ?_⟩
            refine JU.any [18] (by kernel_rfl) rfl ?_
            refine ⟨?_, trivial⟩
            refine JUo.mv (d := some 34) rfl (MV.ofQV (v := .pointer (some (elA (s1.v) (Int.toNat (IntKind.wrap .i64 (x4 + d13)) * ((NE.pair (NE.flat (Enc.int .u64)) (NE.sl (Enc.int .i64))).E).sz)))) (QV.indexN (RdN.onv 0 rfl) Try.underlying89 tk_91 rfl rfl h23)) rfl rfl rfl ?_
            rintro _ _ ⟨rfl, rfl⟩
            refine ⟨fun _ => ⟨[], rfl, rfl⟩, ?_⟩
            refine JU.any [19] (by kernel_rfl) rfl ?_
            refine ⟨?_, trivial⟩
            refine JUo.mv (d := some 35) rfl (MV.ofQV (v := .agg #[.int .u64 (gd d11 (IntKind.wrap .i64 (x4 + d13))).1, (gd z12 (IntKind.wrap .i64 (x4 + d13))).2.v]) (QV.eq (QV.elNN (RdN.onv 0 rfl) tk_91 rfl h23) rfl)) rfl rfl rfl ?_
            rintro _ _ ⟨rfl, rfl⟩
            refine ⟨fun _ => ⟨[], rfl, rfl⟩, ?_⟩
            refine JU.any [20] (by kernel_rfl) rfl ?_
            refine ⟨?_, trivial⟩
            refine JUo.mv (d := some 36) rfl (MV.ofQV (v := .pointer (some (elA (s1.v) (Int.toNat (IntKind.wrap .i64 (x4 + d13)) * ((NE.pair (NE.flat (Enc.int .u64)) (NE.sl (Enc.int .i64))).E).sz)))) (QV.indexN (RdN.onv 0 rfl) Try.underlying89 tk_91 rfl rfl h23)) rfl rfl rfl ?_
            rintro _ _ ⟨rfl, rfl⟩
            refine ⟨fun _ => ⟨[], rfl, rfl⟩, ?_⟩
            refine JU.any [21] (by kernel_rfl) rfl ?_
            refine ⟨?_, trivial⟩
            refine JUo.ent (fun _ hs => hs.derive (Drv.elV (K := (NE.pair (NE.flat (Enc.int .u64)) (NE.sl (Enc.int .i64)))) (A := Asr.vw (Enc.int .i64) ((gd z12 (IntKind.wrap .i64 (x5 + d13))).2.v) (gd d11 (IntKind.wrap .i64 (x5 + d13))).2) 0 rfl h22 (fun _ _ q => q.2))) ?_
            refine JUo.ent (fun _ hs => hs.derive (Drv.elV (K := (NE.pair (NE.flat (Enc.int .u64)) (NE.sl (Enc.int .i64)))) (A := Asr.vw (Enc.int .i64) ((gd z12 (IntKind.wrap .i64 (x4 + d13))).2.v) (gd d11 (IntKind.wrap .i64 (x4 + d13))).2) 1 rfl h23 (fun _ _ q => q.2))) ?_
            refine JUo.mv (d := none) rfl (MV.storeElV 2 ((), (gd z12 (IntKind.wrap .i64 (x5 + d13))).2) ((gd d11 (IntKind.wrap .i64 (x5 + d13))).1, (gd d11 (IntKind.wrap .i64 (x5 + d13))).2) rfl tk_91 rfl rfl h23 rfl (fun w F G hst => ⟨trivial, (ok_vw (Drv.vw 1 rfl) w F G hst)⟩)) rfl rfl rfl ?_
            rintro _ _ ⟨rfl, rfl⟩
            refine ⟨fun _ => ⟨[], rfl, rfl⟩, ?_⟩
            refine JU.any [22] (by kernel_rfl) rfl ?_
            refine ⟨?_, trivial⟩
            refine JUo.mv (d := some 37) rfl (MV.ofQV (v := .pointer (some (elA (s1.v) (Int.toNat (IntKind.wrap .i64 (x5 + d13)) * ((NE.pair (NE.flat (Enc.int .u64)) (NE.sl (Enc.int .i64))).E).sz)))) (QV.indexN (RdN.onv 2 rfl) Try.underlying89 tk_91 rfl rfl h24)) rfl rfl rfl ?_
            rintro _ _ ⟨rfl, rfl⟩
            refine ⟨fun _ => ⟨[], rfl, rfl⟩, ?_⟩
            refine JU.any [23] (by kernel_rfl) rfl ?_
            refine ⟨?_, trivial⟩
            refine JUo.mv (d := none) rfl (MV.storeElV 2 ((), (gd z12 (IntKind.wrap .i64 (x4 + d13))).2) ((gd d11 (IntKind.wrap .i64 (x4 + d13))).1, (gd d11 (IntKind.wrap .i64 (x4 + d13))).2) rfl tk_91 rfl rfl h24 rfl (fun w F G hst => ⟨trivial, (ok_vw (Drv.vw 0 rfl) w F G hst)⟩)) rfl rfl rfl ?_
            rintro _ _ ⟨rfl, rfl⟩
            refine ⟨fun _ => ⟨[], rfl, rfl⟩, ?_⟩
            refine JU.nil (by kernel_rfl) ?_
            exact QJ.cut_normal ((), ()) hm [2] (by exact ⟨rfl, rfl, rfl, rfl, rfl, trivial⟩) rfl rfl
          ·
            refine JUo.mv (d := some 34) rfl (MV.ofQV (v := .pointer (some (elA (s1.v) (Int.toNat (IntKind.wrap .i64 (x4 + d13)) * ((NE.pair (NE.flat (Enc.int .u64)) (NE.sl (Enc.int .i64))).E).sz)))) (QV.indexN (RdN.onv 0 rfl) Try.underlying89 tk_91 rfl rfl h23)) rfl rfl rfl ?_
            rintro _ _ ⟨rfl, rfl⟩
            refine ⟨fun _ => ⟨[], rfl, rfl⟩, ?_⟩
            refine JU.any [13, 19] (by kernel_rfl) rfl ?_
            refine ⟨?_, ?_, trivial⟩
            ·
              refine JUo.mv (d := some 29) rfl (MV.ofQV (v := .agg #[.int .u64 (gd d11 (IntKind.wrap .i64 (x5 + d13))).1, (gd z12 (IntKind.wrap .i64 (x5 + d13))).2.v]) (QV.eq (QV.elNN (RdN.onv 0 rfl) tk_91 rfl h22) rfl)) rfl rfl rfl ?_
              rintro _ _ ⟨rfl, rfl⟩
              refine ⟨fun _ => ⟨[], rfl, rfl⟩, ?_⟩
              refine JU.any [19] (by kernel_rfl) rfl ?_
              refine ⟨?_, trivial⟩
              refine JUo.mv (d := some 35) rfl (MV.ofQV (v := .agg #[.int .u64 (gd d11 (IntKind.wrap .i64 (x4 + d13))).1, (gd z12 (IntKind.wrap .i64 (x4 + d13))).2.v]) (QV.eq (QV.elNN (RdN.onv 0 rfl) tk_91 rfl h23) rfl)) rfl rfl rfl ?_
              rintro _ _ ⟨rfl, rfl⟩
              refine ⟨fun _ => ⟨[], rfl, rfl⟩, ?_⟩
              refine JU.any [20] (by kernel_rfl) rfl ?_
              refine ⟨?_, trivial⟩
              refine JUo.mv (d := some 36) rfl (MV.ofQV (v := .pointer (some (elA (s1.v) (Int.toNat (IntKind.wrap .i64 (x4 + d13)) * ((NE.pair (NE.flat (Enc.int .u64)) (NE.sl (Enc.int .i64))).E).sz)))) (QV.indexN (RdN.onv 0 rfl) Try.underlying89 tk_91 rfl rfl h23)) rfl rfl rfl ?_
              rintro _ _ ⟨rfl, rfl⟩
              refine ⟨fun _ => ⟨[], rfl, rfl⟩, ?_⟩
              refine JU.any [21] (by kernel_rfl) rfl ?_
              refine ⟨?_, trivial⟩
              refine JUo.ent (fun _ hs => hs.derive (Drv.elV (K := (NE.pair (NE.flat (Enc.int .u64)) (NE.sl (Enc.int .i64)))) (A := Asr.vw (Enc.int .i64) ((gd z12 (IntKind.wrap .i64 (x5 + d13))).2.v) (gd d11 (IntKind.wrap .i64 (x5 + d13))).2) 0 rfl h22 (fun _ _ q => q.2))) ?_
              refine JUo.ent (fun _ hs => hs.derive (Drv.elV (K := (NE.pair (NE.flat (Enc.int .u64)) (NE.sl (Enc.int .i64)))) (A := Asr.vw (Enc.int .i64) ((gd z12 (IntKind.wrap .i64 (x4 + d13))).2.v) (gd d11 (IntKind.wrap .i64 (x4 + d13))).2) 1 rfl h23 (fun _ _ q => q.2))) ?_
              refine JUo.mv (d := none) rfl (MV.storeElV 2 ((), (gd z12 (IntKind.wrap .i64 (x5 + d13))).2) ((gd d11 (IntKind.wrap .i64 (x5 + d13))).1, (gd d11 (IntKind.wrap .i64 (x5 + d13))).2) rfl tk_91 rfl rfl h23 rfl (fun w F G hst => ⟨trivial, (ok_vw (Drv.vw 1 rfl) w F G hst)⟩)) rfl rfl rfl ?_
              rintro _ _ ⟨rfl, rfl⟩
              refine ⟨fun _ => ⟨[], rfl, rfl⟩, ?_⟩
              refine JU.any [22] (by kernel_rfl) rfl ?_
              refine ⟨?_, trivial⟩
              refine JUo.mv (d := some 37) rfl (MV.ofQV (v := .pointer (some (elA (s1.v) (Int.toNat (IntKind.wrap .i64 (x5 + d13)) * ((NE.pair (NE.flat (Enc.int .u64)) (NE.sl (Enc.int .i64))).E).sz)))) (QV.indexN (RdN.onv 2 rfl) Try.underlying89 tk_91 rfl rfl h24)) rfl rfl rfl ?_
              rintro _ _ ⟨rfl, rfl⟩
              refine ⟨fun _ => ⟨[], rfl, rfl⟩, ?_⟩
              refine JU.any [23] (by kernel_rfl) rfl ?_
              refine ⟨?_, trivial⟩
              refine JUo.mv (d := none) rfl (MV.storeElV 2 ((), (gd z12 (IntKind.wrap .i64 (x4 + d13))).2) ((gd d11 (IntKind.wrap .i64 (x4 + d13))).1, (gd d11 (IntKind.wrap .i64 (x4 + d13))).2) rfl tk_91 rfl rfl h24 rfl (fun w F G hst => ⟨trivial, (ok_vw (Drv.vw 0 rfl) w F G hst)⟩)) rfl rfl rfl ?_
              rintro _ _ ⟨rfl, rfl⟩
              refine ⟨fun _ => ⟨[], rfl, rfl⟩, ?_⟩
              refine JU.nil (by kernel_rfl) ?_
              exact QJ.cut_normal ((), ()) hm [2] (by exact ⟨rfl, rfl, rfl, rfl, rfl, trivial⟩) rfl rfl
            ·
              refine JUo.mv (d := some 35) rfl (MV.ofQV (v := .agg #[.int .u64 (gd d11 (IntKind.wrap .i64 (x4 + d13))).1, (gd z12 (IntKind.wrap .i64 (x4 + d13))).2.v]) (QV.eq (QV.elNN (RdN.onv 0 rfl) tk_91 rfl h23) rfl)) rfl rfl rfl ?_
              rintro _ _ ⟨rfl, rfl⟩
              refine ⟨fun _ => ⟨[], rfl, rfl⟩, ?_⟩
              refine JU.any [13] (by kernel_rfl) rfl ?_
              refine ⟨?_, trivial⟩
              refine JUo.mv (d := some 29) rfl (MV.ofQV (v := .agg #[.int .u64 (gd d11 (IntKind.wrap .i64 (x5 + d13))).1, (gd z12 (IntKind.wrap .i64 (x5 + d13))).2.v]) (QV.eq (QV.elNN (RdN.onv 0 rfl) tk_91 rfl h22) rfl)) rfl rfl rfl ?_
              rintro _ _ ⟨rfl, rfl⟩
              refine ⟨fun _ => ⟨[], rfl, rfl⟩, ?_⟩
              refine JU.any [20] (by kernel_rfl) rfl ?_
              refine ⟨?_, trivial⟩
              refine JUo.mv (d := some 36) rfl (MV.ofQV (v := .pointer (some (elA (s1.v) (Int.toNat (IntKind.wrap .i64 (x4 + d13)) * ((NE.pair (NE.flat (Enc.int .u64)) (NE.sl (Enc.int .i64))).E).sz)))) (QV.indexN (RdN.onv 0 rfl) Try.underlying89 tk_91 rfl rfl h23)) rfl rfl rfl ?_
              rintro _ _ ⟨rfl, rfl⟩
              refine ⟨fun _ => ⟨[], rfl, rfl⟩, ?_⟩
              refine JU.any [21] (by kernel_rfl) rfl ?_
              refine ⟨?_, trivial⟩
              refine JUo.ent (fun _ hs => hs.derive (Drv.elV (K := (NE.pair (NE.flat (Enc.int .u64)) (NE.sl (Enc.int .i64)))) (A := Asr.vw (Enc.int .i64) ((gd z12 (IntKind.wrap .i64 (x4 + d13))).2.v) (gd d11 (IntKind.wrap .i64 (x4 + d13))).2) 0 rfl h23 (fun _ _ q => q.2))) ?_
              refine JUo.ent (fun _ hs => hs.derive (Drv.elV (K := (NE.pair (NE.flat (Enc.int .u64)) (NE.sl (Enc.int .i64)))) (A := Asr.vw (Enc.int .i64) ((gd z12 (IntKind.wrap .i64 (x5 + d13))).2.v) (gd d11 (IntKind.wrap .i64 (x5 + d13))).2) 1 rfl h22 (fun _ _ q => q.2))) ?_
              refine JUo.mv (d := none) rfl (MV.storeElV 2 ((), (gd z12 (IntKind.wrap .i64 (x5 + d13))).2) ((gd d11 (IntKind.wrap .i64 (x5 + d13))).1, (gd d11 (IntKind.wrap .i64 (x5 + d13))).2) rfl tk_91 rfl rfl h23 rfl (fun w F G hst => ⟨trivial, (ok_vw (Drv.vw 0 rfl) w F G hst)⟩)) rfl rfl rfl ?_
              rintro _ _ ⟨rfl, rfl⟩
              refine ⟨fun _ => ⟨[], rfl, rfl⟩, ?_⟩
              refine JU.any [22] (by kernel_rfl) rfl ?_
              refine ⟨?_, trivial⟩
              refine JUo.mv (d := some 37) rfl (MV.ofQV (v := .pointer (some (elA (s1.v) (Int.toNat (IntKind.wrap .i64 (x5 + d13)) * ((NE.pair (NE.flat (Enc.int .u64)) (NE.sl (Enc.int .i64))).E).sz)))) (QV.indexN (RdN.onv 2 rfl) Try.underlying89 tk_91 rfl rfl h24)) rfl rfl rfl ?_
              rintro _ _ ⟨rfl, rfl⟩
              refine ⟨fun _ => ⟨[], rfl, rfl⟩, ?_⟩
              refine JU.any [23] (by kernel_rfl) rfl ?_
              refine ⟨?_, trivial⟩
              refine JUo.mv (d := none) rfl (MV.storeElV 2 ((), (gd z12 (IntKind.wrap .i64 (x4 + d13))).2) ((gd d11 (IntKind.wrap .i64 (x4 + d13))).1, (gd d11 (IntKind.wrap .i64 (x4 + d13))).2) rfl tk_91 rfl rfl h24 rfl (fun w F G hst => ⟨trivial, (ok_vw (Drv.vw 1 rfl) w F G hst)⟩)) rfl rfl rfl ?_
              rintro _ _ ⟨rfl, rfl⟩
              refine ⟨fun _ => ⟨[], rfl, rfl⟩, ?_⟩
              refine JU.nil (by kernel_rfl) ?_
              exact QJ.cut_normal ((), ()) hm [2] (by exact ⟨rfl, rfl, rfl, rfl, rfl, trivial⟩) rfl rfl
        ·
          refine JUo.mv (d := some 34) rfl (MV.ofQV (v := .pointer (some (elA (s1.v) (Int.toNat (IntKind.wrap .i64 (x4 + d13)) * ((NE.pair (NE.flat (Enc.int .u64)) (NE.sl (Enc.int .i64))).E).sz)))) (QV.indexN (RdN.onv 0 rfl) Try.underlying89 tk_91 rfl rfl h23)) rfl rfl rfl ?_
          rintro _ _ ⟨rfl, rfl⟩
          refine ⟨fun _ => ⟨[], rfl, rfl⟩, ?_⟩
          refine JU.any [12, 19] (by kernel_rfl) rfl ?_
          refine ⟨?_, ?_, trivial⟩
          ·
            refine JUo.mv (d := some 28) rfl (MV.ofQV (v := .pointer (some (elA (s1.v) (Int.toNat (IntKind.wrap .i64 (x5 + d13)) * ((NE.pair (NE.flat (Enc.int .u64)) (NE.sl (Enc.int .i64))).E).sz)))) (QV.indexN (RdN.onv 0 rfl) Try.underlying89 tk_91 rfl rfl h22)) rfl rfl rfl ?_
            rintro _ _ ⟨rfl, rfl⟩
            refine ⟨fun _ => ⟨[], rfl, rfl⟩, ?_⟩
            refine JU.any [13, 19] (by kernel_rfl) rfl ?_
            refine ⟨?_, ?_, trivial⟩
            ·
              refine JUo.mv (d := some 29) rfl (MV.ofQV (v := .agg #[.int .u64 (gd d11 (IntKind.wrap .i64 (x5 + d13))).1, (gd z12 (IntKind.wrap .i64 (x5 + d13))).2.v]) (QV.eq (QV.elNN (RdN.onv 0 rfl) tk_91 rfl h22) rfl)) rfl rfl rfl ?_
              rintro _ _ ⟨rfl, rfl⟩
              refine ⟨fun _ => ⟨[], rfl, rfl⟩, ?_⟩
              refine JU.any [19] (by kernel_rfl) rfl ?_
              refine ⟨?_, trivial⟩
              refine JUo.mv (d := some 35) rfl (MV.ofQV (v := .agg #[.int .u64 (gd d11 (IntKind.wrap .i64 (x4 + d13))).1, (gd z12 (IntKind.wrap .i64 (x4 + d13))).2.v]) (QV.eq (QV.elNN (RdN.onv 0 rfl) tk_91 rfl h23) rfl)) rfl rfl rfl ?_
              rintro _ _ ⟨rfl, rfl⟩
              refine ⟨fun _ => ⟨[], rfl, rfl⟩, ?_⟩
              refine JU.any [20] (by kernel_rfl) rfl ?_
              refine ⟨?_, trivial⟩
              refine JUo.mv (d := some 36) rfl (MV.ofQV (v := .pointer (some (elA (s1.v) (Int.toNat (IntKind.wrap .i64 (x4 + d13)) * ((NE.pair (NE.flat (Enc.int .u64)) (NE.sl (Enc.int .i64))).E).sz)))) (QV.indexN (RdN.onv 0 rfl) Try.underlying89 tk_91 rfl rfl h23)) rfl rfl rfl ?_
              rintro _ _ ⟨rfl, rfl⟩
              refine ⟨fun _ => ⟨[], rfl, rfl⟩, ?_⟩
              refine JU.any [21] (by kernel_rfl) rfl ?_
              refine ⟨?_, trivial⟩
              refine JUo.ent (fun _ hs => hs.derive (Drv.elV (K := (NE.pair (NE.flat (Enc.int .u64)) (NE.sl (Enc.int .i64)))) (A := Asr.vw (Enc.int .i64) ((gd z12 (IntKind.wrap .i64 (x5 + d13))).2.v) (gd d11 (IntKind.wrap .i64 (x5 + d13))).2) 0 rfl h22 (fun _ _ q => q.2))) ?_
              refine JUo.ent (fun _ hs => hs.derive (Drv.elV (K := (NE.pair (NE.flat (Enc.int .u64)) (NE.sl (Enc.int .i64)))) (A := Asr.vw (Enc.int .i64) ((gd z12 (IntKind.wrap .i64 (x4 + d13))).2.v) (gd d11 (IntKind.wrap .i64 (x4 + d13))).2) 1 rfl h23 (fun _ _ q => q.2))) ?_
              refine JUo.mv (d := none) rfl (MV.storeElV 2 ((), (gd z12 (IntKind.wrap .i64 (x5 + d13))).2) ((gd d11 (IntKind.wrap .i64 (x5 + d13))).1, (gd d11 (IntKind.wrap .i64 (x5 + d13))).2) rfl tk_91 rfl rfl h23 rfl (fun w F G hst => ⟨trivial, (ok_vw (Drv.vw 1 rfl) w F G hst)⟩)) rfl rfl rfl ?_
              rintro _ _ ⟨rfl, rfl⟩
              refine ⟨fun _ => ⟨[], rfl, rfl⟩, ?_⟩
              refine JU.any [22] (by kernel_rfl) rfl ?_
              refine ⟨?_, trivial⟩
              refine JUo.mv (d := some 37) rfl (MV.ofQV (v := .pointer (some (elA (s1.v) (Int.toNat (IntKind.wrap .i64 (x5 + d13)) * ((NE.pair (NE.flat (Enc.int .u64)) (NE.sl (Enc.int .i64))).E).sz)))) (QV.indexN (RdN.onv 2 rfl) Try.underlying89 tk_91 rfl rfl h24)) rfl rfl rfl ?_
              rintro _ _ ⟨rfl, rfl⟩
              refine ⟨fun _ => ⟨[], rfl, rfl⟩, ?_⟩
              refine JU.any [23] (by kernel_rfl) rfl ?_
              refine ⟨?_, trivial⟩
              refine JUo.mv (d := none) rfl (MV.storeElV 2 ((), (gd z12 (IntKind.wrap .i64 (x4 + d13))).2) ((gd d11 (IntKind.wrap .i64 (x4 + d13))).1, (gd d11 (IntKind.wrap .i64 (x4 + d13))).2) rfl tk_91 rfl rfl h24 rfl (fun w F G hst => ⟨trivial, (ok_vw (Drv.vw 0 rfl) w F G hst)⟩)) rfl rfl rfl ?_
              rintro _ _ ⟨rfl, rfl⟩
              refine ⟨fun _ => ⟨[], rfl, rfl⟩, ?_⟩
              refine JU.nil (by kernel_rfl) ?_
              exact QJ.cut_normal ((), ()) hm [2] (by exact ⟨rfl, rfl, rfl, rfl, rfl, trivial⟩) rfl rfl
            ·
              refine JUo.mv (d := some 35) rfl (MV.ofQV (v := .agg #[.int .u64 (gd d11 (IntKind.wrap .i64 (x4 + d13))).1, (gd z12 (IntKind.wrap .i64 (x4 + d13))).2.v]) (QV.eq (QV.elNN (RdN.onv 0 rfl) tk_91 rfl h23) rfl)) rfl rfl rfl ?_
              rintro _ _ ⟨rfl, rfl⟩
              refine ⟨fun _ => ⟨[], rfl, rfl⟩, ?_⟩
              refine JU.any [13] (by kernel_rfl) rfl ?_
              refine ⟨?_, trivial⟩
              refine JUo.mv (d := some 29) rfl (MV.ofQV (v := .agg #[.int .u64 (gd d11 (IntKind.wrap .i64 (x5 + d13))).1, (gd z12 (IntKind.wrap .i64 (x5 + d13))).2.v]) (QV.eq (QV.elNN (RdN.onv 0 rfl) tk_91 rfl h22) rfl)) rfl rfl rfl ?_
              rintro _ _ ⟨rfl, rfl⟩
              refine ⟨fun _ => ⟨[], rfl, rfl⟩, ?_⟩
              refine JU.any [20] (by kernel_rfl) rfl ?_
              refine ⟨?_, trivial⟩
              refine JUo.mv (d := some 36) rfl (MV.ofQV (v := .pointer (some (elA (s1.v) (Int.toNat (IntKind.wrap .i64 (x4 + d13)) * ((NE.pair (NE.flat (Enc.int .u64)) (NE.sl (Enc.int .i64))).E).sz)))) (QV.indexN (RdN.onv 0 rfl) Try.underlying89 tk_91 rfl rfl h23)) rfl rfl rfl ?_
              rintro _ _ ⟨rfl, rfl⟩
              refine ⟨fun _ => ⟨[], rfl, rfl⟩, ?_⟩
              refine JU.any [21] (by kernel_rfl) rfl ?_
              refine ⟨?_, trivial⟩
              refine JUo.ent (fun _ hs => hs.derive (Drv.elV (K := (NE.pair (NE.flat (Enc.int .u64)) (NE.sl (Enc.int .i64)))) (A := Asr.vw (Enc.int .i64) ((gd z12 (IntKind.wrap .i64 (x4 + d13))).2.v) (gd d11 (IntKind.wrap .i64 (x4 + d13))).2) 0 rfl h23 (fun _ _ q => q.2))) ?_
              refine JUo.ent (fun _ hs => hs.derive (Drv.elV (K := (NE.pair (NE.flat (Enc.int .u64)) (NE.sl (Enc.int .i64)))) (A := Asr.vw (Enc.int .i64) ((gd z12 (IntKind.wrap .i64 (x5 + d13))).2.v) (gd d11 (IntKind.wrap .i64 (x5 + d13))).2) 1 rfl h22 (fun _ _ q => q.2))) ?_
              refine JUo.mv (d := none) rfl (MV.storeElV 2 ((), (gd z12 (IntKind.wrap .i64 (x5 + d13))).2) ((gd d11 (IntKind.wrap .i64 (x5 + d13))).1, (gd d11 (IntKind.wrap .i64 (x5 + d13))).2) rfl tk_91 rfl rfl h23 rfl (fun w F G hst => ⟨trivial, (ok_vw (Drv.vw 0 rfl) w F G hst)⟩)) rfl rfl rfl ?_
              rintro _ _ ⟨rfl, rfl⟩
              refine ⟨fun _ => ⟨[], rfl, rfl⟩, ?_⟩
              refine JU.any [22] (by kernel_rfl) rfl ?_
              refine ⟨?_, trivial⟩
              refine JUo.mv (d := some 37) rfl (MV.ofQV (v := .pointer (some (elA (s1.v) (Int.toNat (IntKind.wrap .i64 (x5 + d13)) * ((NE.pair (NE.flat (Enc.int .u64)) (NE.sl (Enc.int .i64))).E).sz)))) (QV.indexN (RdN.onv 2 rfl) Try.underlying89 tk_91 rfl rfl h24)) rfl rfl rfl ?_
              rintro _ _ ⟨rfl, rfl⟩
              refine ⟨fun _ => ⟨[], rfl, rfl⟩, ?_⟩
              refine JU.any [23] (by kernel_rfl) rfl ?_
              refine ⟨?_, trivial⟩
              refine JUo.mv (d := none) rfl (MV.storeElV 2 ((), (gd z12 (IntKind.wrap .i64 (x4 + d13))).2) ((gd d11 (IntKind.wrap .i64 (x4 + d13))).1, (gd d11 (IntKind.wrap .i64 (x4 + d13))).2) rfl tk_91 rfl rfl h24 rfl (fun w F G hst => ⟨trivial, (ok_vw (Drv.vw 1 rfl) w F G hst)⟩)) rfl rfl rfl ?_
              rintro _ _ ⟨rfl, rfl⟩
              refine ⟨fun _ => ⟨[], rfl, rfl⟩, ?_⟩
              refine JU.nil (by kernel_rfl) ?_
              exact QJ.cut_normal ((), ()) hm [2] (by exact ⟨rfl, rfl, rfl, rfl, rfl, trivial⟩) rfl rfl
          ·
            refine JUo.mv (d := some 35) rfl (MV.ofQV (v := .agg #[.int .u64 (gd d11 (IntKind.wrap .i64 (x4 + d13))).1, (gd z12 (IntKind.wrap .i64 (x4 + d13))).2.v]) (QV.eq (QV.elNN (RdN.onv 0 rfl) tk_91 rfl h23) rfl)) rfl rfl rfl ?_
            rintro _ _ ⟨rfl, rfl⟩
            refine ⟨fun _ => ⟨[], rfl, rfl⟩, ?_⟩
            refine JU.any [12] (by kernel_rfl) rfl ?_
            refine ⟨?_, trivial⟩
            refine JUo.mv (d := some 28) rfl (MV.ofQV (v := .pointer (some (elA (s1.v) (Int.toNat (IntKind.wrap .i64 (x5 + d13)) * ((NE.pair (NE.flat (Enc.int .u64)) (NE.sl (Enc.int .i64))).E).sz)))) (QV.indexN (RdN.onv 0 rfl) Try.underlying89 tk_91 rfl rfl h22)) rfl rfl rfl ?_
            rintro _ _ ⟨rfl, rfl⟩
            refine ⟨fun _ => ⟨[], rfl, rfl⟩, ?_⟩
            refine JU.any [13] (by kernel_rfl) rfl ?_
            refine ⟨?_, trivial⟩
            refine JUo.mv (d := some 29) rfl (MV.ofQV (v := .agg #[.int .u64 (gd d11 (IntKind.wrap .i64 (x5 + d13))).1, (gd z12 (IntKind.wrap .i64 (x5 + d13))).2.v]) (QV.eq (QV.elNN (RdN.onv 0 rfl) tk_91 rfl h22) rfl)) rfl rfl rfl ?_
            rintro _ _ ⟨rfl, rfl⟩
            refine ⟨fun _ => ⟨[], rfl, rfl⟩, ?_⟩
            refine JU.any [20] (by kernel_rfl) rfl ?_
            refine ⟨?_, trivial⟩
            refine JUo.mv (d := some 36) rfl (MV.ofQV (v := .pointer (some (elA (s1.v) (Int.toNat (IntKind.wrap .i64 (x4 + d13)) * ((NE.pair (NE.flat (Enc.int .u64)) (NE.sl (Enc.int .i64))).E).sz)))) (QV.indexN (RdN.onv 0 rfl) Try.underlying89 tk_91 rfl rfl h23)) rfl rfl rfl ?_
            rintro _ _ ⟨rfl, rfl⟩
            refine ⟨fun _ => ⟨[], rfl, rfl⟩, ?_⟩
            refine JU.any [21] (by kernel_rfl) rfl ?_
            refine ⟨?_, trivial⟩
            refine JUo.ent (fun _ hs => hs.derive (Drv.elV (K := (NE.pair (NE.flat (Enc.int .u64)) (NE.sl (Enc.int .i64)))) (A := Asr.vw (Enc.int .i64) ((gd z12 (IntKind.wrap .i64 (x4 + d13))).2.v) (gd d11 (IntKind.wrap .i64 (x4 + d13))).2) 0 rfl h23 (fun _ _ q => q.2))) ?_
            refine JUo.ent (fun _ hs => hs.derive (Drv.elV (K := (NE.pair (NE.flat (Enc.int .u64)) (NE.sl (Enc.int .i64)))) (A := Asr.vw (Enc.int .i64) ((gd z12 (IntKind.wrap .i64 (x5 + d13))).2.v) (gd d11 (IntKind.wrap .i64 (x5 + d13))).2) 1 rfl h22 (fun _ _ q => q.2))) ?_
            refine JUo.mv (d := none) rfl (MV.storeElV 2 ((), (gd z12 (IntKind.wrap .i64 (x5 + d13))).2) ((gd d11 (IntKind.wrap .i64 (x5 + d13))).1, (gd d11 (IntKind.wrap .i64 (x5 + d13))).2) rfl tk_91 rfl rfl h23 rfl (fun w F G hst => ⟨trivial, (ok_vw (Drv.vw 0 rfl) w F G hst)⟩)) rfl rfl rfl ?_
            rintro _ _ ⟨rfl, rfl⟩
            refine ⟨fun _ => ⟨[], rfl, rfl⟩, ?_⟩
            refine JU.any [22] (by kernel_rfl) rfl ?_
            refine ⟨?_, trivial⟩
            refine JUo.mv (d := some 37) rfl (MV.ofQV (v := .pointer (some (elA (s1.v) (Int.toNat (IntKind.wrap .i64 (x5 + d13)) * ((NE.pair (NE.flat (Enc.int .u64)) (NE.sl (Enc.int .i64))).E).sz)))) (QV.indexN (RdN.onv 2 rfl) Try.underlying89 tk_91 rfl rfl h24)) rfl rfl rfl ?_
            rintro _ _ ⟨rfl, rfl⟩
            refine ⟨fun _ => ⟨[], rfl, rfl⟩, ?_⟩
            refine JU.any [23] (by kernel_rfl) rfl ?_
            refine ⟨?_, trivial⟩
            refine JUo.mv (d := none) rfl (MV.storeElV 2 ((), (gd z12 (IntKind.wrap .i64 (x4 + d13))).2) ((gd d11 (IntKind.wrap .i64 (x4 + d13))).1, (gd d11 (IntKind.wrap .i64 (x4 + d13))).2) rfl tk_91 rfl rfl h24 rfl (fun w F G hst => ⟨trivial, (ok_vw (Drv.vw 1 rfl) w F G hst)⟩)) rfl rfl rfl ?_
            rintro _ _ ⟨rfl, rfl⟩
            refine ⟨fun _ => ⟨[], rfl, rfl⟩, ?_⟩
            refine JU.nil (by kernel_rfl) ?_
            exact QJ.cut_normal ((), ()) hm [2] (by exact ⟨rfl, rfl, rfl, rfl, rfl, trivial⟩) rfl rfl
    ·
      refine JC.condF' rfl (decide_eq_false h21) ?_
      refine JC.exit ?_
      refine QJ.then_exit ?_
      obtain rfl := Option.some.inj hm
      refine QJ.round_exit (fun hy => ?_)
      subst hy
      refine QJ.block_hit ?_
      exact QJ.cut_normal (d11, z12) hmo19 [0] trivial rfl rfl

/-! ### 93: slices.rotateCmpFunc[drogher/limit.pack] -/
noncomputable def F93_1.j1 (x5 : Int) (d9 : List (Int × (List Int))) (d11 : Int) : Option (List (Int × (List Int))) :=
  ((F95_1.m (d9) ((IntKind.wrap .i64 (x5 - d11))) (x5) (d11)).bind fun y12 => some y12)
noncomputable def F93_1.j2  (d28 : List (Int × (List Int))) (d30 : Int) (d31 : Int) : Option ((List (Int × (List Int)) × Int × Int) ⊕ (List (Int × (List Int)) × Int)) :=
  some (.inl (d28, d30, d31))
noncomputable def F93_1.b1 (x5 : Int) : (List (Int × (List Int)) × Int × Int) → Option ((List (Int × (List Int)) × Int × Int) ⊕ (List (Int × (List Int)) × Int))
  | (d15, d17, d18) => (if d17 = d18 then some (.inr (d15, d17)) else (if d18 < d17 then ((F95_1.m (d15) ((IntKind.wrap .i64 (x5 - d17))) (x5) (d18)).bind fun y33 => F93_1.j2 (y33) ((IntKind.wrap .i64 (d17 - d18))) (d18)) else ((F95_1.m (d15) ((IntKind.wrap .i64 (x5 - d17))) ((IntKind.wrap .i64 ((IntKind.wrap .i64 (x5 + d18)) - d17))) (d17)).bind fun y36 => F93_1.j2 (y36) (d17) ((IntKind.wrap .i64 (d18 - d17))))))
noncomputable def F93_1.m (x2 : List (Int × (List Int))) (x4 : Int) (x5 : Int) (x6 : Int) : Option (List (Int × (List Int))) :=
  ((loop (F93_1.b1 x5) (x2, (IntKind.wrap .i64 (x5 - x4)), (IntKind.wrap .i64 (x6 - x5)))).bind fun y => match y with | (d9, d11) => F93_1.j1 x5 (d9) (d11))
set_option maxRecDepth 100000 in
set_option maxHeartbeats 4000000 in
theorem F93_1.spec (s1 : SlV) (z3 : List (Unit × SlV)) (x2 : List (Int × (List Int))) (x4 : Int) (x5 : Int) (x6 : Int) (r : (List (Int × (List Int)))) (hm : F93_1.m x2 x4 x5 x6 = some r) :
    Ctr Try.prog true 93 [s1.v, .int .i64 x4, .int .i64 x5, .int .i64 x6, .func (.func 48) #[] #[]] [Asr.onv 91 (NE.pair (NE.flat (Enc.int .u64)) (NE.sl (Enc.int .i64))) (s1.v) z3 x2] (fun v L' => ∃ (g8 : List (Unit × SlV)), v = .tuple #[] ∧ L' = [Asr.onv 91 (NE.pair (NE.flat (Enc.int .u64)) (NE.sl (Enc.int .i64))) (s1.v) g8 r]) := by
  refine Ctr.intro (n := 58) (env := [(0, s1.v), (1, .int .i64 x4), (2, .int .i64 x5), (3, .int .i64 x6), (4, .func (.func 48) #[] #[])]) Try.func93 rfl rfl rfl rfl (fun c => ?_)
  unfold F93_1.m at hm
  refine JC.seq ?_
  refine JC.region ?_
  refine JL.val (v := .int .i64 x5) (QV.move rfl) rfl rfl rfl ?_
  refine JL.val (v := .int .i64 x4) (QV.move rfl) rfl rfl rfl ?_
  refine JL.val (v := .int .i64 (IntKind.wrap .i64 (x5 - x4))) (QV.sub rfl rfl) rfl rfl rfl ?_
  refine JL.val (v := .int .i64 (IntKind.wrap .i64 (x5 - x4))) (QV.assign rfl) rfl rfl rfl ?_
  refine JL.nil ?_
  refine QJ.then_normal ?_
  refine JC.seq ?_
  refine JC.region ?_
  refine JL.val (v := .int .i64 x6) (QV.move rfl) rfl rfl rfl ?_
  refine JL.val (v := .int .i64 x5) (QV.move rfl) rfl rfl rfl ?_
  refine JL.val (v := .int .i64 (IntKind.wrap .i64 (x6 - x5))) (QV.sub rfl rfl) rfl rfl rfl ?_
  refine JL.val (v := .int .i64 (IntKind.wrap .i64 (x6 - x5))) (QV.assign rfl) rfl rfl rfl ?_
  refine JL.nil ?_
  refine QJ.then_normal ?_
  refine JC.seq ?_
  refine JC.cutK (Y := (List (Int × (List Int)) × Int) × (List (Unit × SlV))) (fun y => match y with | ((d9, d11), _) => F93_1.j1 x5 (d9) (d11) = some r) (fun y => match y with | ((d9, d11), z10) => [(0, s1.v), (2, .int .i64 x5), (4, .func (.func 48) #[] #[]), (10, .int .i64 d11)]) (fun y => match y with | ((d9, d11), z10) => [Asr.onv 91 (NE.pair (NE.flat (Enc.int .u64)) (NE.sl (Enc.int .i64))) (s1.v) z10 d9]) ?_ ?_
  ·
    rintro ⟨⟨d9, d11⟩, z10⟩ hm
    unfold F93_1.j1 at hm
    show QJ _ _ [(0, s1.v), (2, .int .i64 x5), (4, .func (.func 48) #[] #[]), (10, .int .i64 d11)] [Asr.onv 91 (NE.pair (NE.flat (Enc.int .u64)) (NE.sl (Enc.int .i64))) (s1.v) z10 d9] _ _
    refine QJ.then_normal ?_
    refine JC.region ?_
    refine JL.val (v := s1.v) (QV.move rfl) rfl rfl rfl ?_
    refine JL.val (v := .int .i64 x5) (QV.move rfl) rfl rfl rfl ?_
    refine JL.val (v := .int .i64 d11) (QV.move rfl) rfl rfl rfl ?_
    refine JL.val (v := .int .i64 (IntKind.wrap .i64 (x5 - d11))) (QV.sub rfl rfl) rfl rfl rfl ?_
    refine JL.val (v := .int .i64 x5) (QV.move rfl) rfl rfl rfl ?_
    refine JL.val (v := .int .i64 d11) (QV.move rfl) rfl rfl rfl ?_
    refine JL.val (v := .func (.func 48) #[] #[]) (QV.move rfl) rfl rfl rfl ?_
    obtain ⟨y12, hc13, hm⟩ := bind_inv hm
    refine JL.mv (d := some 57) (MV.call (Lo := [Asr.onv 91 (NE.pair (NE.flat (Enc.int .u64)) (NE.sl (Enc.int .i64))) (s1.v) z10 d9]) (Lr := []) (F95_1.spec (s1) (z10) (d9) ((IntKind.wrap .i64 (x5 - d11))) (x5) (d11) _ hc13) rfl Try.func95 rfl rfl rfl [0] [] rfl rfl rfl trivial) rfl rfl rfl ?_
    rintro _ _ ⟨_, ⟨z14, rfl, rfl⟩, rfl⟩
    refine JL.nil ?_
    obtain rfl := Option.some.inj hm
    exact QJ.body (vs := []) (.inr rfl) rfl ResVs.nil [0] rfl rfl (.inl rfl) ⟨z14, rfl, rfl⟩
  ·
    refine JC.block ?_
    obtain ⟨y23, hl24, hmo25⟩ := bind_inv hm
    refine JC.loop (F93_1.b1 x5) (fun x z => match x, z with | (d15, d17, d18), z16 => [(0, s1.v), (2, .int .i64 x5), (4, .func (.func 48) #[] #[]), (10, .int .i64 d17), (11, .int .i64 d18)]) (fun x z => match x, z with | (d15, d17, d18), z16 => [Asr.onv 91 (NE.pair (NE.flat (Enc.int .u64)) (NE.sl (Enc.int .i64))) (s1.v) z16 d15]) (x2, (IntKind.wrap .i64 (x5 - x4)), (IntKind.wrap .i64 (x6 - x5))) z3 y23 hl24 [0] (by exact ⟨rfl, rfl, rfl, rfl, rfl, trivial⟩) rfl rfl ?_
    rintro ⟨d15, d17, d18⟩ z16 s26 hm
    unfold F93_1.b1 at hm
    dsimp only at hm
    show JC _ _ _ [(0, s1.v), (2, .int .i64 x5), (4, .func (.func 48) #[] #[]), (10, .int .i64 d17), (11, .int .i64 d18)] [Asr.onv 91 (NE.pair (NE.flat (Enc.int .u64)) (NE.sl (Enc.int .i64))) (s1.v) z16 d15] _ _
    refine JC.seq ?_
    refine JC.seq ?_
    refine JC.region ?_
    refine JL.val (v := .int .i64 d17) (QV.move rfl) rfl rfl rfl ?_
    refine JL.val (v := .int .i64 d18) (QV.move rfl) rfl rfl rfl ?_
    refine JL.val (v := .bool (!(decide (d17 = d18)))) (QV.neq rfl rfl) rfl rfl rfl ?_
    refine JL.nil ?_
    refine QJ.then_normal ?_
    rcases ite_inv hm with ⟨h27, hm⟩ | ⟨h27, hm⟩
    ·
      refine JC.condF' rfl (congrArg Bool.not (decide_eq_true h27)) ?_
      refine JC.exit ?_
      refine QJ.then_exit ?_
      obtain rfl := Option.some.inj hm
      refine QJ.round_exit (fun hy => ?_)
      subst hy
      refine QJ.block_hit ?_
      exact QJ.cut_normal ((d15, d17), z16) hmo25 [0] (by exact ⟨rfl, rfl, rfl, rfl, trivial⟩) rfl rfl
    ·
      refine JC.condT' rfl (congrArg Bool.not (decide_eq_false h27)) ?_
      refine JC.skip ?_
      refine QJ.then_normal ?_
      refine JC.block ?_
      refine JC.seq ?_
      refine JC.region ?_
      refine JL.val (v := .int .i64 d17) (QV.move rfl) rfl rfl rfl ?_
      refine JL.val (v := .int .i64 d18) (QV.move rfl) rfl rfl rfl ?_
      refine JL.val (v := .bool (decide (d18 < d17))) (QV.gtr rfl rfl) rfl rfl rfl ?_
      refine JL.nil ?_
      refine QJ.then_normal ?_
      refine JC.cutK (Y := (List (Int × (List Int)) × Int × Int) × (List (Unit × SlV))) (fun y => match y with | ((d28, d30, d31), _) => F93_1.j2 (d28) (d30) (d31) = some s26) (fun y => match y with | ((d28, d30, d31), z29) => [(0, s1.v), (2, .int .i64 x5), (4, .func (.func 48) #[] #[]), (10, .int .i64 d30), (11, .int .i64 d31)]) (fun y => match y with | ((d28, d30, d31), z29) => [Asr.onv 91 (NE.pair (NE.flat (Enc.int .u64)) (NE.sl (Enc.int .i64))) (s1.v) z29 d28]) ?_ ?_
      ·
        rintro ⟨⟨d28, d30, d31⟩, z29⟩ hm
        unfold F93_1.j2 at hm
        show QJ _ _ [(0, s1.v), (2, .int .i64 x5), (4, .func (.func 48) #[] #[]), (10, .int .i64 d30), (11, .int .i64 d31)] [Asr.onv 91 (NE.pair (NE.flat (Enc.int .u64)) (NE.sl (Enc.int .i64))) (s1.v) z29 d28] _ _
        refine QJ.block_normal ?_
        obtain rfl := Option.some.inj hm
        exact QJ.round_on (d28, d30, d31) z29 [0] (by exact ⟨rfl, rfl, rfl, rfl, rfl, trivial⟩) rfl rfl
      ·
        rcases ite_inv hm with ⟨h32, hm⟩ | ⟨h32, hm⟩
        ·
          refine JC.condT' rfl (decide_eq_true h32) ?_
          refine JC.seq ?_
          refine JC.region ?_
          refine JL.val (v := s1.v) (QV.move rfl) rfl rfl rfl ?_
          refine JL.val (v := .int .i64 x5) (QV.move rfl) rfl rfl rfl ?_
          refine JL.val (v := .int .i64 d17) (QV.move rfl) rfl rfl rfl ?_
          refine JL.val (v := .int .i64 (IntKind.wrap .i64 (x5 - d17))) (QV.sub rfl rfl) rfl rfl rfl ?_
          refine JL.val (v := .int .i64 x5) (QV.move rfl) rfl rfl rfl ?_
          refine JL.val (v := .int .i64 d18) (QV.move rfl) rfl rfl rfl ?_
          refine JL.val (v := .func (.func 48) #[] #[]) (QV.move rfl) rfl rfl rfl ?_
          obtain ⟨y33, hc34, hm⟩ := bind_inv hm
          refine JL.mv (d := some 31) (MV.call (Lo := [Asr.onv 91 (NE.pair (NE.flat (Enc.int .u64)) (NE.sl (Enc.int .i64))) (s1.v) z16 d15]) (Lr := []) (F95_1.spec (s1) (z16) (d15) ((IntKind.wrap .i64 (x5 - d17))) (x5) (d18) _ hc34) rfl Try.func95 rfl rfl rfl [0] [] rfl rfl rfl trivial) rfl rfl rfl ?_
          rintro _ _ ⟨_, ⟨z35, rfl, rfl⟩, rfl⟩
          refine JL.nil ?_
          refine QJ.then_normal ?_
          refine JC.region ?_
          refine JL.val (v := .int .i64 d17) (QV.move rfl) rfl rfl rfl ?_
          refine JL.val (v := .int .i64 d18) (QV.move rfl) rfl rfl rfl ?_
          refine JL.val (v := .int .i64 (IntKind.wrap .i64 (d17 - d18))) (QV.sub rfl rfl) rfl rfl rfl ?_
          refine JL.val (v := .int .i64 (IntKind.wrap .i64 (d17 - d18))) (QV.assign rfl) rfl rfl rfl ?_
          refine JL.nil ?_
          exact QJ.cut_normal ((y33, (IntKind.wrap .i64 (d17 - d18)), d18), z35) hm [0] (by exact ⟨rfl, rfl, rfl, rfl, rfl, trivial⟩) rfl rfl
        ·
          refine JC.condF' rfl (decide_eq_false h32) ?_
          refine JC.seq ?_
          refine JC.region ?_
          refine JL.val (v := s1.v) (QV.move rfl) rfl rfl rfl ?_
          refine JL.val (v := .int .i64 x5) (QV.move rfl) rfl rfl rfl ?_
          refine JL.val (v := .int .i64 d17) (QV.move rfl) rfl rfl rfl ?_
          refine JL.val (v := .int .i64 (IntKind.wrap .i64 (x5 - d17))) (QV.sub rfl rfl) rfl rfl rfl ?_
          refine JL.val (v := .int .i64 x5) (QV.move rfl) rfl rfl rfl ?_
          refine JL.val (v := .int .i64 d18) (QV.move rfl) rfl rfl rfl ?_
          refine JL.val (v := .int .i64 (IntKind.wrap .i64 (x5 + d18))) (QV.add rfl rfl) rfl rfl rfl ?_
          refine JL.val (v := .int .i64 d17) (QV.move rfl) rfl rfl rfl ?_
          refine JL.val (v := .int .i64 (IntKind.wrap .i64 ((IntKind.wrap .i64 (x5 + d18)) - d17))) (QV.sub rfl rfl) rfl rfl rfl ?_
          refine JL.val (v := .int .i64 d17) (QV.move rfl) rfl rfl rfl ?_
          refine JL.val (v := .func (.func 48) #[] #[]) (QV.move rfl) rfl rfl rfl ?_
          obtain ⟨y36, hc37, hm⟩ := bind_inv hm
          refine JL.mv (d := some 46) (MV.call (Lo := [Asr.onv 91 (NE.pair (NE.flat (Enc.int .u64)) (NE.sl (Enc.int .i64))) (s1.v) z16 d15]) (Lr := []) (F95_1.spec (s1) (z16) (d15) ((IntKind.wrap .i64 (x5 - d17))) ((IntKind.wrap .i64 ((IntKind.wrap .i64 (x5 + d18)) - d17))) (d17) _ hc37) rfl Try.func95 rfl rfl rfl [0] [] rfl rfl rfl trivial) rfl rfl rfl ?_
          rintro _ _ ⟨_, ⟨z38, rfl, rfl⟩, rfl⟩
          refine JL.nil ?_
          refine QJ.then_normal ?_
          refine JC.region ?_
          refine JL.val (v := .int .i64 d18) (QV.move rfl) rfl rfl rfl ?_
          refine JL.val (v := .int .i64 d17) (QV.move rfl) rfl rfl rfl ?_
          refine JL.val (v := .int .i64 (IntKind.wrap .i64 (d18 - d17))) (QV.sub rfl rfl) rfl rfl rfl ?_
          refine JL.val (v := .int .i64 (IntKind.wrap .i64 (d18 - d17))) (QV.assign rfl) rfl rfl rfl ?_
          refine JL.nil ?_
          exact QJ.cut_normal ((y36, d17, (IntKind.wrap .i64 (d18 - d17))), z38) hm [0] (by exact ⟨rfl, rfl, rfl, rfl, rfl, trivial⟩) rfl rfl

end Go.Proofs.Ytgganckggdjpaaa
