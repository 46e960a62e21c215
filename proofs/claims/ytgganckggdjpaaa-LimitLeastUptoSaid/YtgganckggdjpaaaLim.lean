/- Written by gen.py: functions and their contracts. -/
import Derived.Test.YtgganckggdjpaaaLimx2
namespace Go.Proofs.Ytgganckggdjpaaa
open Go Go.Eng Go.Proofs
set_option linter.unusedVariables false
set_option linter.unusedSimpArgs false
/-! ### 51: drogher/drogherref10.sorted -/
noncomputable def F51.j1  (d7 : List Int) : Option (List Int) :=
  some d7
noncomputable def F51.j2 (d10 : Int) (d20 : List Int) : Option ((List Int × Int) ⊕ (List Int)) :=
  some (.inl (d20, (IntKind.wrap .i64 (d10 + (1 : Int)))))
noncomputable def F51.j4 (d10 : Int) (d28 : List Int) : Option ((List Int × Int) ⊕ (List Int)) :=
  F51.j2 d10 (d28)
noncomputable def F51.j3 (x2 : List Int) (d10 : Int) (d25 : List Int) (d26 : Bool) : Option ((List Int × Int) ⊕ (List Int)) :=
  (if d26 = true then F51.j4 d10 (d25) else (if ((d25).length + ([(IntKind.wrap .u64 (gd x2 d10))]).length) * 8 ≤ 140737488355328 ∧ (d25).length + ([(IntKind.wrap .u64 (gd x2 d10))]).length ≤ 9223372036854775807 then F51.j4 d10 ((d25 ++ [(IntKind.wrap .u64 (gd x2 d10))])) else none))
noncomputable def F51.j5 (d36 : Int) (d47 : List Int) (d48 : Bool) : Option ((List Int × Bool × Int) ⊕ (List Int × Bool)) :=
  some (.inl (d47, d48, (IntKind.wrap .i64 (d36 + (1 : Int)))))
noncomputable def F51.j6 (d9 : List Int) (d36 : Int) (d56 : List Int) (d57 : Bool) : Option ((List Int × Bool × Int) ⊕ (List Int × Bool)) :=
  (if ((d56).length + ([(gd d9 d36)]).length) * 8 ≤ 140737488355328 ∧ (d56).length + ([(gd d9 d36)]).length ≤ 9223372036854775807 then F51.j5 d36 ((d56 ++ [(gd d9 d36)])) (d57) else none)
noncomputable def F51.b2 (x2 : List Int) (d9 : List Int) (d10 : Int) : (List Int × Bool × Int) → Option ((List Int × Bool × Int) ⊕ (List Int × Bool))
  | (d34, d35, d36) => (if d36 < ((d9).length : Int) then (if d35 = true then (if 0 ≤ d36 ∧ d36 < ((d9).length : Int) then (if ((d34).length + ([(gd d9 d36)]).length) * 8 ≤ 140737488355328 ∧ (d34).length + ([(gd d9 d36)]).length ≤ 9223372036854775807 then F51.j5 d36 ((d34 ++ [(gd d9 d36)])) (d35) else none) else none) else (if 0 ≤ d36 ∧ d36 < ((d9).length : Int) then (if (gd d9 d36) < (IntKind.wrap .u64 (gd x2 d10)) then (if ((d34).length + ([(IntKind.wrap .u64 (gd x2 d10))]).length) * 8 ≤ 140737488355328 ∧ (d34).length + ([(IntKind.wrap .u64 (gd x2 d10))]).length ≤ 9223372036854775807 then F51.j6 d9 d36 ((d34 ++ [(IntKind.wrap .u64 (gd x2 d10))])) (true) else none) else F51.j6 d9 d36 (d34) (d35)) else none)) else some (.inr (d34, d35)))
noncomputable def F51.b1 (x2 : List Int) : (List Int × Int) → Option ((List Int × Int) ⊕ (List Int))
  | (d9, d10) => (if d10 < ((x2).length : Int) then (if 0 ≤ d10 ∧ d10 < ((x2).length : Int) then (if (gd x2 d10) = (0 : Int) then F51.j2 d10 (d9) else ((loop (F51.b2 x2 d9 d10) (([] : List Int), false, (0 : Int))).bind fun y => match y with | (d25, d26) => F51.j3 x2 d10 (d25) (d26))) else none) else some (.inr d9))
noncomputable def F51.m (x2 : List Int) : Option (List Int) :=
  ((loop (F51.b1 x2) (([] : List Int), (0 : Int))).bind fun y => match y with | d7 => F51.j1 (d7))
set_option maxRecDepth 100000 in
set_option maxHeartbeats 4000000 in
theorem F51.spec (s1 : SlV) (x2 : List Int) (r : (List Int)) (hm : F51.m x2 = some r) :
    Ctr Try.prog false 51 [s1.v] [Asr.vw (Enc.int .u32) (s1.v) x2] (fun v L' => ∃ (g3 : SlV), v = g3.v ∧ L' = [Asr.of 41 (Enc.int .u64) (g3.v) r]) := by
  refine Ctr.intro (n := 62) (env := [(0, s1.v)]) Try.func51 rfl rfl rfl rfl (fun c => ?_)
  unfold F51.m at hm
  refine JC.seq ?_
  refine JC.region ?_
  refine JL.ent (fun _ hs => hs.nil 41 (Enc.int .u64)) ?_
  refine JL.val (v := SlV.nil.v) (QV.assign rfl) rfl rfl rfl ?_
  refine JL.nil ?_
  refine QJ.then_normal ?_
  refine JC.seq ?_
  refine JC.region ?_
  refine JL.mv (d := some 9) (MV.lit0 (Enc.int .u64) Try.underlying95 (by kernel_rfl)) rfl rfl rfl ?_
  rintro _ _ ⟨z5, rfl, rfl⟩
  refine JL.val (v := z5.v) (QV.assign rfl) rfl rfl rfl ?_
  refine JL.nil ?_
  refine QJ.then_normal ?_
  refine JC.seq ?_
  refine JC.seq ?_
  refine JC.region ?_
  refine JL.val (v := s1.v) (QV.move rfl) rfl rfl rfl ?_
  refine JL.val (v := .int .i64 ((x2).length : Int)) (QV.len (Rdg.vw 2 rfl) Try.underlying33 rfl) rfl rfl rfl ?_
  refine JL.val (v := .int .i64 (0 : Int)) (QV.move rfl) rfl rfl rfl ?_
  refine JL.nil ?_
  refine QJ.then_normal ?_
  refine JC.cutK (Y := (List Int) × SlV) (fun y => match y with | (d7, _) => F51.j1 (d7) = some r) (fun y => match y with | (d7, z6) => [(3, z6.v)]) (fun y => match y with | (d7, z6) => [Asr.of 41 (Enc.int .u64) (z6.v) d7]) ?_ ?_
  ·
    rintro ⟨d7, z6⟩ hm
    unfold F51.j1 at hm
    show QJ _ _ [(3, z6.v)] [Asr.of 41 (Enc.int .u64) (z6.v) d7] _ _
    refine QJ.then_normal ?_
    refine JC.seq ?_
    refine JC.region ?_
    refine JL.val (v := z6.v) (QV.move rfl) rfl rfl rfl ?_
    refine JL.val (v := z6.v) (QV.assign rfl) rfl rfl rfl ?_
    refine JL.nil ?_
    refine QJ.then_normal ?_
    refine JC.ret ?_
    obtain rfl := Option.some.inj hm
    exact QJ.body (vs := [z6.v]) (.inl rfl) rfl (ResVs.cons (ResV.tmp rfl) ResVs.nil) [0] rfl rfl (.inr ⟨own_of _ _ _ _, trivial⟩) ⟨z6, rfl, rfl⟩
  ·
    refine JC.block ?_
    obtain ⟨y14, hl15, hmo16⟩ := bind_inv hm
    refine JC.loop (F51.b1 x2) (fun x z => match x, z with | (d9, d10), z8 => [(0, s1.v), (3, z8.v), (11, .int .i64 ((x2).length : Int)), (12, .int .i64 d10)]) (fun x z => match x, z with | (d9, d10), z8 => [Asr.vw (Enc.int .u32) (s1.v) x2, Asr.of 41 (Enc.int .u64) (z8.v) d9]) (([] : List Int), (0 : Int)) z5 y14 hl15 [2, 0] (by exact ⟨rfl, rfl, rfl, rfl, trivial⟩) rfl rfl ?_
    rintro ⟨d9, d10⟩ z8 s17 hm
    unfold F51.b1 at hm
    dsimp only at hm
    show JC _ _ _ [(0, s1.v), (3, z8.v), (11, .int .i64 ((x2).length : Int)), (12, .int .i64 d10)] [Asr.vw (Enc.int .u32) (s1.v) x2, Asr.of 41 (Enc.int .u64) (z8.v) d9] _ _
    refine JC.seq ?_
    refine JC.region ?_
    refine JL.val (v := .bool (decide (d10 < ((x2).length : Int)))) (QV.lss rfl rfl) rfl rfl rfl ?_
    refine JL.nil ?_
    refine QJ.then_normal ?_
    refine JC.seq ?_
    rcases ite_inv hm with ⟨h18, hm⟩ | ⟨h18, hm⟩
    ·
      refine JC.condT' rfl (decide_eq_true h18) ?_
      refine JC.skip ?_
      refine QJ.then_normal ?_
      refine JC.seq ?_
      refine JC.cutK (Y := (List Int) × SlV) (fun y => match y with | (d20, _) => F51.j2 d10 (d20) = some s17) (fun y => match y with | (d20, z19) => [(0, s1.v), (3, z19.v), (11, .int .i64 ((x2).length : Int)), (12, .int .i64 d10)]) (fun y => match y with | (d20, z19) => [Asr.vw (Enc.int .u32) (s1.v) x2, Asr.of 41 (Enc.int .u64) (z19.v) d20]) ?_ ?_
      ·
        rintro ⟨d20, z19⟩ hm
        unfold F51.j2 at hm
        show QJ _ _ [(0, s1.v), (3, z19.v), (11, .int .i64 ((x2).length : Int)), (12, .int .i64 d10)] [Asr.vw (Enc.int .u32) (s1.v) x2, Asr.of 41 (Enc.int .u64) (z19.v) d20] _ _
        refine QJ.then_normal ?_
        refine JC.region ?_
        refine JL.val (v := .int .i64 (IntKind.wrap .i64 (d10 + (1 : Int)))) (QV.add rfl rfl) rfl rfl rfl ?_
        refine JL.val (v := .int .i64 (IntKind.wrap .i64 (d10 + (1 : Int)))) (QV.move rfl) rfl rfl rfl ?_
        refine JL.nil ?_
        obtain rfl := Option.some.inj hm
        exact QJ.round_on (d20, (IntKind.wrap .i64 (d10 + (1 : Int)))) z19 [0, 1] (by exact ⟨rfl, rfl, rfl, rfl, trivial⟩) rfl rfl
      ·
        refine JC.block ?_
        refine JC.seq ?_
        refine JC.region ?_
        refine JL.val (v := .int .i64 d10) (QV.move rfl) rfl rfl rfl ?_
        refine JL.val (v := .int .i64 d10) (QV.assign rfl) rfl rfl rfl ?_
        refine JL.nil ?_
        refine QJ.then_normal ?_
        refine JC.seq ?_
        refine JC.seq ?_
        refine JC.region ?_
        refine JL.val (v := s1.v) (QV.move rfl) rfl rfl rfl ?_
        refine JL.val (v := .int .i64 d10) (QV.move rfl) rfl rfl rfl ?_
        obtain ⟨h21, hm⟩ := guard_inv hm
        refine JL.val (v := .pointer (some (elA (s1.v) (Int.toNat d10 * ((Enc.int .u32)).sz)))) (QV.indexA (Rdg.vw 0 rfl) Try.underlying33 tk_40 rfl rfl h21) rfl rfl rfl ?_
        refine JL.val (v := .int .u32 (gd x2 d10)) (QV.el1 (Rdg.vw 0 rfl) tk_40 rfl h21 rfl) rfl rfl rfl ?_
        refine JL.val (v := .bool (decide ((gd x2 d10) = (0 : Int)))) (QV.eql rfl rfl) rfl rfl rfl ?_
        refine JL.nil ?_
        refine QJ.then_normal ?_
        rcases ite_inv hm with ⟨h22, hm⟩ | ⟨h22, hm⟩
        ·
          refine JC.condT' rfl (decide_eq_true h22) ?_
          refine JC.exit ?_
          refine QJ.then_exit ?_
          refine QJ.block_hit ?_
          exact QJ.cut_normal (d9, z8) hm [0, 1] (by exact ⟨rfl, rfl, rfl, rfl, trivial⟩) rfl rfl
        ·
          refine JC.condF' rfl (decide_eq_false h22) ?_
          refine JC.skip ?_
          refine QJ.then_normal ?_
          refine JC.seq ?_
          refine JC.region ?_
          refine JL.val (v := s1.v) (QV.move rfl) rfl rfl rfl ?_
          refine JL.val (v := .int .i64 d10) (QV.move rfl) rfl rfl rfl ?_
          refine JL.val (v := .pointer (some (elA (s1.v) (Int.toNat d10 * ((Enc.int .u32)).sz)))) (QV.indexA (Rdg.vw 0 rfl) Try.underlying33 tk_40 rfl rfl h21) rfl rfl rfl ?_
          refine JL.val (v := .int .u32 (gd x2 d10)) (QV.el1 (Rdg.vw 0 rfl) tk_40 rfl h21 rfl) rfl rfl rfl ?_
          refine JL.val (v := .int .u64 (IntKind.wrap .u64 (gd x2 d10))) (QV.conv rfl (by rw [Try.underlying40]; rfl) Try.underlying41) rfl rfl rfl ?_
          refine JL.val (v := .int .u64 (IntKind.wrap .u64 (gd x2 d10))) (QV.assign rfl) rfl rfl rfl ?_
          refine JL.nil ?_
          refine QJ.then_normal ?_
          refine JC.seq ?_
          refine JC.region ?_
          refine JL.mv (d := some 25) (MV.lit0 (Enc.int .u64) Try.underlying95 (by kernel_rfl)) rfl rfl rfl ?_
          rintro _ _ ⟨z23, rfl, rfl⟩
          refine JL.val (v := z23.v) (QV.assign rfl) rfl rfl rfl ?_
          refine JL.nil ?_
          refine QJ.then_normal ?_
          refine JC.seq ?_
          refine JC.region ?_
          refine JL.val (v := .bool false) (QV.assign rfl) rfl rfl rfl ?_
          refine JL.nil ?_
          refine QJ.then_normal ?_
          refine JC.seq ?_
          refine JC.seq ?_
          refine JC.region ?_
          refine JL.val (v := z8.v) (QV.move rfl) rfl rfl rfl ?_
          refine JL.val (v := .int .i64 ((d9).length : Int)) (QV.len (Rdg.of 2 rfl) Try.underlying95 rfl) rfl rfl rfl ?_
          refine JL.val (v := .int .i64 (0 : Int)) (QV.move rfl) rfl rfl rfl ?_
          refine JL.nil ?_
          refine QJ.then_normal ?_
          refine JC.cutK (Y := (List Int × Bool) × SlV) (fun y => match y with | ((d25, d26), _) => F51.j3 x2 d10 (d25) (d26) = some s17) (fun y => match y with | ((d25, d26), z24) => [(0, s1.v), (5, .int .u64 (IntKind.wrap .u64 (gd x2 d10))), (6, z24.v), (7, .bool d26), (11, .int .i64 ((x2).length : Int)), (12, .int .i64 d10)]) (fun y => match y with | ((d25, d26), z24) => [Asr.vw (Enc.int .u32) (s1.v) x2, Asr.of 41 (Enc.int .u64) (z24.v) d25]) ?_ ?_
          ·
            rintro ⟨⟨d25, d26⟩, z24⟩ hm
            unfold F51.j3 at hm
            show QJ _ _ [(0, s1.v), (5, .int .u64 (IntKind.wrap .u64 (gd x2 d10))), (6, z24.v), (7, .bool d26), (11, .int .i64 ((x2).length : Int)), (12, .int .i64 d10)] [Asr.vw (Enc.int .u32) (s1.v) x2, Asr.of 41 (Enc.int .u64) (z24.v) d25] _ _
            refine QJ.then_normal ?_
            refine JC.seq ?_
            refine JC.seq ?_
            refine JC.region ?_
            refine JL.val (v := .bool d26) (QV.move rfl) rfl rfl rfl ?_
            refine JL.val (v := .bool (!d26)) (QV.not rfl) rfl rfl rfl ?_
            refine JL.nil ?_
            refine QJ.then_normal ?_
            refine JC.cutK (Y := (List Int) × SlV) (fun y => match y with | (d28, _) => F51.j4 d10 (d28) = some s17) (fun y => match y with | (d28, z27) => [(0, s1.v), (6, z27.v), (11, .int .i64 ((x2).length : Int)), (12, .int .i64 d10)]) (fun y => match y with | (d28, z27) => [Asr.vw (Enc.int .u32) (s1.v) x2, Asr.of 41 (Enc.int .u64) (z27.v) d28]) ?_ ?_
            ·
              rintro ⟨d28, z27⟩ hm
              unfold F51.j4 at hm
              show QJ _ _ [(0, s1.v), (6, z27.v), (11, .int .i64 ((x2).length : Int)), (12, .int .i64 d10)] [Asr.vw (Enc.int .u32) (s1.v) x2, Asr.of 41 (Enc.int .u64) (z27.v) d28] _ _
              refine QJ.then_normal ?_
              refine JC.region ?_
              refine JL.val (v := z27.v) (QV.move rfl) rfl rfl rfl ?_
              refine JL.val (v := z27.v) (QV.assign rfl) rfl rfl rfl ?_
              refine JL.nil ?_
              refine QJ.block_normal ?_
              exact QJ.cut_normal (d28, z27) hm [0, 1] (by exact ⟨rfl, rfl, rfl, rfl, trivial⟩) rfl rfl
            ·
              rcases ite_inv hm with ⟨h29, hm⟩ | ⟨h29, hm⟩
              ·
                refine JC.condF' rfl (congrArg Bool.not h29) ?_
                refine JC.skip ?_
                exact QJ.cut_normal (d25, z24) hm [0, 1] (by exact ⟨rfl, rfl, rfl, rfl, trivial⟩) rfl rfl
              ·
                refine JC.condT' rfl (congrArg Bool.not (bfalse h29)) ?_
                refine JC.region ?_
                refine JL.val (v := z24.v) (QV.move rfl) rfl rfl rfl ?_
                refine JL.val (v := .int .u64 (IntKind.wrap .u64 (gd x2 d10))) (QV.move rfl) rfl rfl rfl ?_
                refine JL.mv (d := some 57) (MV.lit (E := (Enc.int .u64)) (vals := [(0, .int .u64 (IntKind.wrap .u64 (gd x2 d10)))]) [(IntKind.wrap .u64 (gd x2 d10))] Try.underlying95 zi_41 rfl (by decide) rfl (by kernel_rfl)) rfl rfl rfl ?_
                rintro _ _ ⟨z30, rfl, rfl⟩
                obtain ⟨h31, hm⟩ := guard_inv hm
                refine JL.mv (d := some 58) (MV.append 2 rfl (Rdg.of 0 rfl) Try.underlying95 zi_41 rfl (by decide) rfl rfl h31) rfl rfl rfl ?_
                rintro _ _ ⟨z32, rfl, rfl⟩
                refine JL.val (v := z32.v) (QV.assign rfl) rfl rfl rfl ?_
                refine JL.nil ?_
                exact QJ.cut_normal ((d25 ++ [(IntKind.wrap .u64 (gd x2 d10))]), z32) hm [1, 2] (by exact ⟨rfl, rfl, rfl, rfl, trivial⟩) rfl rfl
          ·
            refine JC.block ?_
            obtain ⟨y41, hl42, hmo43⟩ := bind_inv hm
            refine JC.loop (F51.b2 x2 d9 d10) (fun x z => match x, z with | (d34, d35, d36), z33 => [(0, s1.v), (3, z8.v), (5, .int .u64 (IntKind.wrap .u64 (gd x2 d10))), (6, z33.v), (7, .bool d35), (11, .int .i64 ((x2).length : Int)), (12, .int .i64 d10), (27, .int .i64 ((d9).length : Int)), (28, .int .i64 d36)]) (fun x z => match x, z with | (d34, d35, d36), z33 => [Asr.vw (Enc.int .u32) (s1.v) x2, Asr.of 41 (Enc.int .u64) (z8.v) d9, Asr.of 41 (Enc.int .u64) (z33.v) d34]) (([] : List Int), false, (0 : Int)) z23 y41 hl42 [1, 2, 0] (by exact ⟨rfl, rfl, rfl, rfl, rfl, rfl, rfl, rfl, rfl, trivial⟩) rfl rfl ?_
            rintro ⟨d34, d35, d36⟩ z33 s44 hm
            unfold F51.b2 at hm
            dsimp only at hm
            show JC _ _ _ [(0, s1.v), (3, z8.v), (5, .int .u64 (IntKind.wrap .u64 (gd x2 d10))), (6, z33.v), (7, .bool d35), (11, .int .i64 ((x2).length : Int)), (12, .int .i64 d10), (27, .int .i64 ((d9).length : Int)), (28, .int .i64 d36)] [Asr.vw (Enc.int .u32) (s1.v) x2, Asr.of 41 (Enc.int .u64) (z8.v) d9, Asr.of 41 (Enc.int .u64) (z33.v) d34] _ _
            refine JC.seq ?_
            refine JC.region ?_
            refine JL.val (v := .bool (decide (d36 < ((d9).length : Int)))) (QV.lss rfl rfl) rfl rfl rfl ?_
            refine JL.nil ?_
            refine QJ.then_normal ?_
            refine JC.seq ?_
            rcases ite_inv hm with ⟨h45, hm⟩ | ⟨h45, hm⟩
            ·
              refine JC.condT' rfl (decide_eq_true h45) ?_
              refine JC.skip ?_
              refine QJ.then_normal ?_
              refine JC.seq ?_
              refine JC.cutK (Y := (List Int × Bool) × SlV) (fun y => match y with | ((d47, d48), _) => F51.j5 d36 (d47) (d48) = some s44) (fun y => match y with | ((d47, d48), z46) => [(0, s1.v), (3, z8.v), (5, .int .u64 (IntKind.wrap .u64 (gd x2 d10))), (6, z46.v), (7, .bool d48), (11, .int .i64 ((x2).length : Int)), (12, .int .i64 d10), (27, .int .i64 ((d9).length : Int)), (28, .int .i64 d36)]) (fun y => match y with | ((d47, d48), z46) => [Asr.vw (Enc.int .u32) (s1.v) x2, Asr.of 41 (Enc.int .u64) (z8.v) d9, Asr.of 41 (Enc.int .u64) (z46.v) d47]) ?_ ?_
              ·
                rintro ⟨⟨d47, d48⟩, z46⟩ hm
                unfold F51.j5 at hm
                show QJ _ _ [(0, s1.v), (3, z8.v), (5, .int .u64 (IntKind.wrap .u64 (gd x2 d10))), (6, z46.v), (7, .bool d48), (11, .int .i64 ((x2).length : Int)), (12, .int .i64 d10), (27, .int .i64 ((d9).length : Int)), (28, .int .i64 d36)] [Asr.vw (Enc.int .u32) (s1.v) x2, Asr.of 41 (Enc.int .u64) (z8.v) d9, Asr.of 41 (Enc.int .u64) (z46.v) d47] _ _
                refine QJ.then_normal ?_
                refine JC.region ?_
                refine JL.val (v := .int .i64 (IntKind.wrap .i64 (d36 + (1 : Int)))) (QV.add rfl rfl) rfl rfl rfl ?_
                refine JL.val (v := .int .i64 (IntKind.wrap .i64 (d36 + (1 : Int)))) (QV.move rfl) rfl rfl rfl ?_
                refine JL.nil ?_
                obtain rfl := Option.some.inj hm
                exact QJ.round_on (d47, d48, (IntKind.wrap .i64 (d36 + (1 : Int)))) z46 [0, 1, 2] (by exact ⟨rfl, rfl, rfl, rfl, rfl, rfl, rfl, rfl, rfl, trivial⟩) rfl rfl
              ·
                refine JC.block ?_
                refine JC.seq ?_
                refine JC.region ?_
                refine JL.val (v := .int .i64 d36) (QV.move rfl) rfl rfl rfl ?_
                refine JL.val (v := .int .i64 d36) (QV.assign rfl) rfl rfl rfl ?_
                refine JL.nil ?_
                refine QJ.then_normal ?_
                refine JC.seq ?_
                refine JC.seq ?_
                refine JC.region ?_
                refine JL.val (v := .bool d35) (QV.move rfl) rfl rfl rfl ?_
                refine JL.val (v := .bool (!d35)) (QV.not rfl) rfl rfl rfl ?_
                rcases ite_inv hm with ⟨h49, hm⟩ | ⟨h49, hm⟩
                ·
                  refine JL.val (v := .bool false) (QV.eq (QV.move rfl) (congrArg Value.bool (congrArg Bool.not h49))) rfl rfl rfl ?_
                  refine JL.skip (d := some 34) rfl rfl rfl ?_
                  refine JL.skip (d := some 35) rfl rfl rfl ?_
                  refine JL.skip (d := some 36) rfl rfl rfl ?_
                  refine JL.skip (d := some 37) rfl rfl rfl ?_
                  refine JL.skip (d := some 38) rfl rfl rfl ?_
                  refine JL.skip (d := some 39) rfl rfl rfl ?_
                  refine JL.val (v := .bool false) (QV.pickF rfl rfl) rfl rfl rfl ?_
                  refine JL.nil ?_
                  refine QJ.then_normal ?_
                  refine JC.condF rfl ?_
                  refine JC.skip ?_
                  refine QJ.then_normal ?_
                  refine JC.region ?_
                  refine JL.val (v := z33.v) (QV.move rfl) rfl rfl rfl ?_
                  refine JL.val (v := z8.v) (QV.move rfl) rfl rfl rfl ?_
                  refine JL.val (v := .int .i64 d36) (QV.move rfl) rfl rfl rfl ?_
                  obtain ⟨h50, hm⟩ := guard_inv hm
                  refine JL.val (v := .pointer (some (elA (z8.v) (Int.toNat d36 * ((Enc.int .u64)).sz)))) (QV.indexA (Rdg.of 1 rfl) Try.underlying95 tk_41 rfl rfl h50) rfl rfl rfl ?_
                  refine JL.val (v := .int .u64 (gd d9 d36)) (QV.el1 (Rdg.of 1 rfl) tk_41 rfl h50 rfl) rfl rfl rfl ?_
                  refine JL.mv (d := some 50) (MV.lit (E := (Enc.int .u64)) (vals := [(0, .int .u64 (gd d9 d36))]) [(gd d9 d36)] Try.underlying95 zi_41 rfl (by decide) rfl (by kernel_rfl)) rfl rfl rfl ?_
                  rintro _ _ ⟨z51, rfl, rfl⟩
                  obtain ⟨h52, hm⟩ := guard_inv hm
                  refine JL.mv (d := some 51) (MV.append 3 rfl (Rdg.of 0 rfl) Try.underlying95 zi_41 rfl (by decide) rfl rfl h52) rfl rfl rfl ?_
                  rintro _ _ ⟨z53, rfl, rfl⟩
                  refine JL.val (v := z53.v) (QV.assign rfl) rfl rfl rfl ?_
                  refine JL.nil ?_
                  refine QJ.block_normal ?_
                  exact QJ.cut_normal (((d34 ++ [(gd d9 d36)]), d35), z53) hm [1, 2, 3] (by exact ⟨rfl, rfl, rfl, rfl, rfl, rfl, rfl, rfl, rfl, trivial⟩) rfl rfl
                ·
                  refine JL.val (v := .bool true) (QV.eq (QV.move rfl) (congrArg Value.bool (congrArg Bool.not (bfalse h49)))) rfl rfl rfl ?_
                  refine JL.val (v := z8.v) (QV.move rfl) rfl rfl rfl ?_
                  refine JL.val (v := .int .i64 d36) (QV.move rfl) rfl rfl rfl ?_
                  obtain ⟨h54, hm⟩ := guard_inv hm
                  refine JL.val (v := .pointer (some (elA (z8.v) (Int.toNat d36 * ((Enc.int .u64)).sz)))) (QV.indexA (Rdg.of 1 rfl) Try.underlying95 tk_41 rfl rfl h54) rfl rfl rfl ?_
                  refine JL.val (v := .int .u64 (gd d9 d36)) (QV.el1 (Rdg.of 1 rfl) tk_41 rfl h54 rfl) rfl rfl rfl ?_
                  refine JL.val (v := .int .u64 (IntKind.wrap .u64 (gd x2 d10))) (QV.move rfl) rfl rfl rfl ?_
                  refine JL.val (v := .bool (decide ((gd d9 d36) < (IntKind.wrap .u64 (gd x2 d10))))) (QV.lss rfl rfl) rfl rfl rfl ?_
                  refine JL.val (v := .bool (decide ((gd d9 d36) < (IntKind.wrap .u64 (gd x2 d10))))) (QV.pickT rfl rfl) rfl rfl rfl ?_
                  refine JL.nil ?_
                  refine QJ.then_normal ?_
                  refine JC.cutK (Y := (List Int × Bool) × SlV) (fun y => match y with | ((d56, d57), _) => F51.j6 d9 d36 (d56) (d57) = some s44) (fun y => match y with | ((d56, d57), z55) => [(0, s1.v), (3, z8.v), (5, .int .u64 (IntKind.wrap .u64 (gd x2 d10))), (6, z55.v), (7, .bool d57), (8, .int .i64 d36), (11, .int .i64 ((x2).length : Int)), (12, .int .i64 d10), (27, .int .i64 ((d9).length : Int)), (28, .int .i64 d36)]) (fun y => match y with | ((d56, d57), z55) => [Asr.vw (Enc.int .u32) (s1.v) x2, Asr.of 41 (Enc.int .u64) (z8.v) d9, Asr.of 41 (Enc.int .u64) (z55.v) d56]) ?_ ?_
                  ·
                    rintro ⟨⟨d56, d57⟩, z55⟩ hm
                    unfold F51.j6 at hm
                    show QJ _ _ [(0, s1.v), (3, z8.v), (5, .int .u64 (IntKind.wrap .u64 (gd x2 d10))), (6, z55.v), (7, .bool d57), (8, .int .i64 d36), (11, .int .i64 ((x2).length : Int)), (12, .int .i64 d10), (27, .int .i64 ((d9).length : Int)), (28, .int .i64 d36)] [Asr.vw (Enc.int .u32) (s1.v) x2, Asr.of 41 (Enc.int .u64) (z8.v) d9, Asr.of 41 (Enc.int .u64) (z55.v) d56] _ _
                    refine QJ.then_normal ?_
                    refine JC.region ?_
                    refine JL.val (v := z55.v) (QV.move rfl) rfl rfl rfl ?_
                    refine JL.val (v := z8.v) (QV.move rfl) rfl rfl rfl ?_
                    refine JL.val (v := .int .i64 d36) (QV.move rfl) rfl rfl rfl ?_
                    refine JL.val (v := .pointer (some (elA (z8.v) (Int.toNat d36 * ((Enc.int .u64)).sz)))) (QV.indexA (Rdg.of 1 rfl) Try.underlying95 tk_41 rfl rfl h54) rfl rfl rfl ?_
                    refine JL.val (v := .int .u64 (gd d9 d36)) (QV.el1 (Rdg.of 1 rfl) tk_41 rfl h54 rfl) rfl rfl rfl ?_
                    refine JL.mv (d := some 50) (MV.lit (E := (Enc.int .u64)) (vals := [(0, .int .u64 (gd d9 d36))]) [(gd d9 d36)] Try.underlying95 zi_41 rfl (by decide) rfl (by kernel_rfl)) rfl rfl rfl ?_
                    rintro _ _ ⟨z58, rfl, rfl⟩
                    obtain ⟨h59, hm⟩ := guard_inv hm
                    refine JL.mv (d := some 51) (MV.append 3 rfl (Rdg.of 0 rfl) Try.underlying95 zi_41 rfl (by decide) rfl rfl h59) rfl rfl rfl ?_
                    rintro _ _ ⟨z60, rfl, rfl⟩
                    refine JL.val (v := z60.v) (QV.assign rfl) rfl rfl rfl ?_
                    refine JL.nil ?_
                    refine QJ.block_normal ?_
                    exact QJ.cut_normal (((d56 ++ [(gd d9 d36)]), d57), z60) hm [1, 2, 3] (by exact ⟨rfl, rfl, rfl, rfl, rfl, rfl, rfl, rfl, rfl, trivial⟩) rfl rfl
                  ·
                    rcases ite_inv hm with ⟨h61, hm⟩ | ⟨h61, hm⟩
                    ·
                      refine JC.condT' rfl (decide_eq_true h61) ?_
                      refine JC.seq ?_
                      refine JC.region ?_
                      refine JL.val (v := z33.v) (QV.move rfl) rfl rfl rfl ?_
                      refine JL.val (v := .int .u64 (IntKind.wrap .u64 (gd x2 d10))) (QV.move rfl) rfl rfl rfl ?_
                      refine JL.mv (d := some 43) (MV.lit (E := (Enc.int .u64)) (vals := [(0, .int .u64 (IntKind.wrap .u64 (gd x2 d10)))]) [(IntKind.wrap .u64 (gd x2 d10))] Try.underlying95 zi_41 rfl (by decide) rfl (by kernel_rfl)) rfl rfl rfl ?_
                      rintro _ _ ⟨z62, rfl, rfl⟩
                      obtain ⟨h63, hm⟩ := guard_inv hm
                      refine JL.mv (d := some 44) (MV.append 3 rfl (Rdg.of 0 rfl) Try.underlying95 zi_41 rfl (by decide) rfl rfl h63) rfl rfl rfl ?_
                      rintro _ _ ⟨z64, rfl, rfl⟩
                      refine JL.val (v := z64.v) (QV.assign rfl) rfl rfl rfl ?_
                      refine JL.nil ?_
                      refine QJ.then_normal ?_
                      refine JC.region ?_
                      refine JL.val (v := .bool true) (QV.assign rfl) rfl rfl rfl ?_
                      refine JL.nil ?_
                      exact QJ.cut_normal (((d34 ++ [(IntKind.wrap .u64 (gd x2 d10))]), true), z64) hm [1, 2, 3] (by exact ⟨rfl, rfl, rfl, rfl, rfl, rfl, rfl, rfl, rfl, rfl, trivial⟩) rfl rfl
                    ·
                      refine JC.condF' rfl (decide_eq_false h61) ?_
                      refine JC.skip ?_
                      exact QJ.cut_normal ((d34, d35), z33) hm [0, 1, 2] (by exact ⟨rfl, rfl, rfl, rfl, rfl, rfl, rfl, rfl, rfl, rfl, trivial⟩) rfl rfl
            ·
              refine JC.condF' rfl (decide_eq_false h45) ?_
              refine JC.exit ?_
              refine QJ.then_exit ?_
              obtain rfl := Option.some.inj hm
              refine QJ.round_exit (fun hy => ?_)
              subst hy
              refine QJ.block_hit ?_
              exact QJ.cut_normal ((d34, d35), z33) hmo43 [0, 2] (by exact ⟨rfl, rfl, rfl, rfl, rfl, rfl, trivial⟩) rfl rfl
    ·
      refine JC.condF' rfl (decide_eq_false h18) ?_
      refine JC.exit ?_
      refine QJ.then_exit ?_
      obtain rfl := Option.some.inj hm
      refine QJ.round_exit (fun hy => ?_)
      subst hy
      refine QJ.block_hit ?_
      exact QJ.cut_normal (d9, z8) hmo16 [1] (by exact ⟨rfl, trivial⟩) rfl rfl

/-! ### 22: drogher/drogherref10.Many -/
noncomputable def F22.m (x2 : List Int) : Option Int :=
  ((F51.m (x2)).bind fun y4 => some ((y4).length : Int))
set_option maxRecDepth 100000 in
set_option maxHeartbeats 4000000 in
theorem F22.spec (s1 : SlV) (x2 : List Int) (r : Int) (hm : F22.m x2 = some r) :
    Ctr Try.prog false 22 [s1.v] [Asr.vw (Enc.int .u32) (s1.v) x2] (fun v L' => v = .int .i64 r ∧ L' = []) := by
  refine Ctr.intro (n := 6) (env := [(0, s1.v)]) Try.func22 rfl rfl rfl rfl (fun c => ?_)
  unfold F22.m at hm
  refine JC.seq ?_
  refine JC.region ?_
  refine JL.val (v := .int .i64 (0 : Int)) (QV.assign rfl) rfl rfl rfl ?_
  refine JL.nil ?_
  refine QJ.then_normal ?_
  refine JC.seq ?_
  refine JC.region ?_
  refine JL.val (v := s1.v) (QV.move rfl) rfl rfl rfl ?_
  obtain ⟨y4, hc5, hm⟩ := bind_inv hm
  refine JL.mv (d := some 4) (MV.call (Lo := []) (Lr := [Asr.vw (Enc.int .u32) (s1.v) x2]) (F51.spec (s1) (x2) _ hc5) rfl Try.func51 rfl rfl rfl [] [0] rfl rfl rfl ⟨(Drv.vw 0 rfl), trivial⟩) rfl rfl rfl ?_
  rintro _ _ ⟨_, ⟨z6, rfl, rfl⟩, rfl⟩
  refine JL.val (v := .int .i64 ((y4).length : Int)) (QV.len (Rdg.of 0 rfl) Try.underlying95 rfl) rfl rfl rfl ?_
  refine JL.val (v := .int .i64 ((y4).length : Int)) (QV.assign rfl) rfl rfl rfl ?_
  refine JL.nil ?_
  refine QJ.then_normal ?_
  refine JC.ret ?_
  obtain rfl := Option.some.inj hm
  exact QJ.body (vs := [.int .i64 ((y4).length : Int)]) (.inl rfl) rfl (ResVs.cons (ResV.tmp rfl) ResVs.nil) [] rfl rfl (.inr trivial) ⟨rfl, rfl⟩

/-! ### 21: drogher/drogherlaw10.room -/
noncomputable def F21.m (x1 : Int) (x2 : Int) : Option Bool :=
  (if (9 : Int) ≤ x2 then some true else (if 0 ≤ x2 then some (decide (x1 ≤ (shlI .i64 (1 : Int) x2))) else none))
set_option maxRecDepth 100000 in
set_option maxHeartbeats 4000000 in
theorem F21.spec (x1 : Int) (x2 : Int) (r : Bool) (hm : F21.m x1 x2 = some r) :
    Ctr Try.prog false 21 [.int .i64 x1, .int .i64 x2] [] (fun v L' => v = .bool r ∧ L' = []) := by
  refine Ctr.intro (n := 13) (env := [(0, .int .i64 x1), (1, .int .i64 x2)]) Try.func21 rfl rfl rfl rfl (fun c => ?_)
  unfold F21.m at hm
  refine JC.seq ?_
  refine JC.region ?_
  refine JL.val (v := .bool false) (QV.assign rfl) rfl rfl rfl ?_
  refine JL.nil ?_
  refine QJ.then_normal ?_
  refine JC.seq ?_
  refine JC.region ?_
  refine JL.val (v := .int .i64 x2) (QV.move rfl) rfl rfl rfl ?_
  refine JL.val (v := .bool (decide ((9 : Int) ≤ x2))) (QV.geq rfl rfl) rfl rfl rfl ?_
  rcases ite_inv hm with ⟨h4, hm⟩ | ⟨h4, hm⟩
  ·
    refine JL.val (v := .bool true) (QV.eq (QV.move rfl) (congrArg Value.bool (decide_eq_true h4))) rfl rfl rfl ?_
    refine JL.skip (d := some 8) rfl rfl rfl ?_
    refine JL.skip (d := some 9) rfl rfl rfl ?_
    refine JL.skip (d := some 10) rfl rfl rfl ?_
    refine JL.skip (d := some 11) rfl rfl rfl ?_
    refine JL.val (v := .bool true) (QV.pickT rfl rfl) rfl rfl rfl ?_
    refine JL.val (v := .bool true) (QV.assign rfl) rfl rfl rfl ?_
    refine JL.nil ?_
    refine QJ.then_normal ?_
    refine JC.ret ?_
    obtain rfl := Option.some.inj hm
    exact QJ.body (vs := [.bool true]) (.inl rfl) rfl (ResVs.cons (ResV.tmp rfl) ResVs.nil) [] rfl rfl (.inr trivial) ⟨rfl, rfl⟩
  ·
    refine JL.val (v := .bool false) (QV.eq (QV.move rfl) (congrArg Value.bool (decide_eq_false h4))) rfl rfl rfl ?_
    refine JL.val (v := .int .i64 x1) (QV.move rfl) rfl rfl rfl ?_
    refine JL.val (v := .int .i64 x2) (QV.move rfl) rfl rfl rfl ?_
    obtain ⟨h5, hm⟩ := guard_inv hm
    refine JL.val (v := .int .i64 (shlI .i64 (1 : Int) x2)) (QV.shl rfl rfl h5) rfl rfl rfl ?_
    refine JL.val (v := .bool (decide (x1 ≤ (shlI .i64 (1 : Int) x2)))) (QV.leq rfl rfl) rfl rfl rfl ?_
    refine JL.val (v := .bool (decide (x1 ≤ (shlI .i64 (1 : Int) x2)))) (QV.pickF rfl rfl) rfl rfl rfl ?_
    refine JL.val (v := .bool (decide (x1 ≤ (shlI .i64 (1 : Int) x2)))) (QV.assign rfl) rfl rfl rfl ?_
    refine JL.nil ?_
    refine QJ.then_normal ?_
    refine JC.ret ?_
    obtain rfl := Option.some.inj hm
    exact QJ.body (vs := [.bool (decide (x1 ≤ (shlI .i64 (1 : Int) x2)))]) (.inl rfl) rfl (ResVs.cons (ResV.tmp rfl) ResVs.nil) [] rfl rfl (.inr trivial) ⟨rfl, rfl⟩

/-! ### 25: drogher/drogherref10.Cost -/
noncomputable def F25.j1  (d6 : Int) : Option Int :=
  some d6
noncomputable def F25.j2 (d8 : Int) (d16 : Int) : Option ((Int × Int) ⊕ Int) :=
  some (.inl (d16, (IntKind.wrap .i64 (d8 + (1 : Int)))))
noncomputable def F25.b1 (x2 : List Int) (x4 : List Int) : (Int × Int) → Option ((Int × Int) ⊕ Int)
  | (d7, d8) => (if d8 < ((x2).length : Int) then (if d8 < ((x4).length : Int) then (if 0 ≤ d8 ∧ d8 < ((x2).length : Int) then (if 0 ≤ d8 ∧ d8 < ((x4).length : Int) then F25.j2 d8 ((IntKind.wrap .u64 (d7 + (IntKind.wrap .u64 ((IntKind.wrap .u64 (gd x2 d8)) * (IntKind.wrap .u64 (gd x4 d8))))))) else none) else none) else F25.j2 d8 (d7)) else some (.inr d7))
noncomputable def F25.m (x2 : List Int) (x4 : List Int) : Option Int :=
  ((loop (F25.b1 x2 x4) ((0 : Int), (0 : Int))).bind fun y => match y with | d6 => F25.j1 (d6))
set_option maxRecDepth 100000 in
set_option maxHeartbeats 4000000 in
theorem F25.spec (s1 : SlV) (s3 : SlV) (x2 : List Int) (x4 : List Int) (r : Int) (hm : F25.m x2 x4 = some r) :
    Ctr Try.prog false 25 [s1.v, s3.v] [Asr.vw (Enc.int .u32) (s1.v) x2, Asr.vw (Enc.int .u8) (s3.v) x4] (fun v L' => v = .int .u64 r ∧ L' = []) := by
  refine Ctr.intro (n := 31) (env := [(0, s1.v), (1, s3.v)]) Try.func25 rfl rfl rfl rfl (fun c => ?_)
  unfold F25.m at hm
  refine JC.seq ?_
  refine JC.region ?_
  refine JL.val (v := .int .u64 (0 : Int)) (QV.assign rfl) rfl rfl rfl ?_
  refine JL.nil ?_
  refine QJ.then_normal ?_
  refine JC.seq ?_
  refine JC.region ?_
  refine JL.val (v := .int .u64 (0 : Int)) (QV.assign rfl) rfl rfl rfl ?_
  refine JL.nil ?_
  refine QJ.then_normal ?_
  refine JC.seq ?_
  refine JC.seq ?_
  refine JC.region ?_
  refine JL.val (v := s1.v) (QV.move rfl) rfl rfl rfl ?_
  refine JL.val (v := .int .i64 ((x2).length : Int)) (QV.len (Rdg.vw 0 rfl) Try.underlying33 rfl) rfl rfl rfl ?_
  refine JL.val (v := .int .i64 (0 : Int)) (QV.move rfl) rfl rfl rfl ?_
  refine JL.nil ?_
  refine QJ.then_normal ?_
  refine JC.cutK (Y := Int × Unit) (fun y => match y with | (d6, _) => F25.j1 (d6) = some r) (fun y => match y with | (d6, _) => [(5, .int .u64 d6)]) (fun y => match y with | (d6, _) => []) ?_ ?_
  ·
    rintro ⟨d6, ⟨⟩⟩ hm
    unfold F25.j1 at hm
    show QJ _ _ [(5, .int .u64 d6)] [] _ _
    refine QJ.then_normal ?_
    refine JC.seq ?_
    refine JC.region ?_
    refine JL.val (v := .int .u64 d6) (QV.move rfl) rfl rfl rfl ?_
    refine JL.val (v := .int .u64 d6) (QV.assign rfl) rfl rfl rfl ?_
    refine JL.nil ?_
    refine QJ.then_normal ?_
    refine JC.ret ?_
    obtain rfl := Option.some.inj hm
    exact QJ.body (vs := [.int .u64 d6]) (.inl rfl) rfl (ResVs.cons (ResV.tmp rfl) ResVs.nil) [] rfl rfl (.inr trivial) ⟨rfl, rfl⟩
  ·
    refine JC.block ?_
    obtain ⟨y11, hl12, hmo13⟩ := bind_inv hm
    refine JC.loop (F25.b1 x2 x4) (fun x z => match x, z with | (d7, d8), _ => [(0, s1.v), (1, s3.v), (5, .int .u64 d7), (8, .int .i64 ((x2).length : Int)), (9, .int .i64 d8)]) (fun x z => match x, z with | (d7, d8), _ => [Asr.vw (Enc.int .u32) (s1.v) x2, Asr.vw (Enc.int .u8) (s3.v) x4]) ((0 : Int), (0 : Int)) () y11 hl12 [0, 1] (by exact ⟨rfl, rfl, rfl, rfl, rfl, trivial⟩) rfl rfl ?_
    rintro ⟨d7, d8⟩ ⟨⟩ s14 hm
    unfold F25.b1 at hm
    dsimp only at hm
    show JC _ _ _ [(0, s1.v), (1, s3.v), (5, .int .u64 d7), (8, .int .i64 ((x2).length : Int)), (9, .int .i64 d8)] [Asr.vw (Enc.int .u32) (s1.v) x2, Asr.vw (Enc.int .u8) (s3.v) x4] _ _
    refine JC.seq ?_
    refine JC.region ?_
    refine JL.val (v := .bool (decide (d8 < ((x2).length : Int)))) (QV.lss rfl rfl) rfl rfl rfl ?_
    refine JL.nil ?_
    refine QJ.then_normal ?_
    refine JC.seq ?_
    rcases ite_inv hm with ⟨h15, hm⟩ | ⟨h15, hm⟩
    ·
      refine JC.condT' rfl (decide_eq_true h15) ?_
      refine JC.skip ?_
      refine QJ.then_normal ?_
      refine JC.seq ?_
      refine JC.block ?_
      refine JC.seq ?_
      refine JC.region ?_
      refine JL.val (v := .int .i64 d8) (QV.move rfl) rfl rfl rfl ?_
      refine JL.val (v := .int .i64 d8) (QV.assign rfl) rfl rfl rfl ?_
      refine JL.nil ?_
      refine QJ.then_normal ?_
      refine JC.seq ?_
      refine JC.region ?_
      refine JL.val (v := .int .i64 d8) (QV.move rfl) rfl rfl rfl ?_
      refine JL.val (v := s3.v) (QV.move rfl) rfl rfl rfl ?_
      refine JL.val (v := .int .i64 ((x4).length : Int)) (QV.len (Rdg.vw 1 rfl) Try.underlying34 rfl) rfl rfl rfl ?_
      refine JL.val (v := .bool (decide (d8 < ((x4).length : Int)))) (QV.lss rfl rfl) rfl rfl rfl ?_
      refine JL.nil ?_
      refine QJ.then_normal ?_
      refine JC.cutK (Y := Int × Unit) (fun y => match y with | (d16, _) => F25.j2 d8 (d16) = some s14) (fun y => match y with | (d16, _) => [(0, s1.v), (1, s3.v), (5, .int .u64 d16), (8, .int .i64 ((x2).length : Int)), (9, .int .i64 d8)]) (fun y => match y with | (d16, _) => [Asr.vw (Enc.int .u32) (s1.v) x2, Asr.vw (Enc.int .u8) (s3.v) x4]) ?_ ?_
      ·
        rintro ⟨d16, ⟨⟩⟩ hm
        unfold F25.j2 at hm
        show QJ _ _ [(0, s1.v), (1, s3.v), (5, .int .u64 d16), (8, .int .i64 ((x2).length : Int)), (9, .int .i64 d8)] [Asr.vw (Enc.int .u32) (s1.v) x2, Asr.vw (Enc.int .u8) (s3.v) x4] _ _
        refine QJ.block_normal ?_
        refine QJ.then_normal ?_
        refine JC.region ?_
        refine JL.val (v := .int .i64 (IntKind.wrap .i64 (d8 + (1 : Int)))) (QV.add rfl rfl) rfl rfl rfl ?_
        refine JL.val (v := .int .i64 (IntKind.wrap .i64 (d8 + (1 : Int)))) (QV.move rfl) rfl rfl rfl ?_
        refine JL.nil ?_
        obtain rfl := Option.some.inj hm
        exact QJ.round_on (d16, (IntKind.wrap .i64 (d8 + (1 : Int)))) () [0, 1] (by exact ⟨rfl, rfl, rfl, rfl, rfl, trivial⟩) rfl rfl
      ·
        rcases ite_inv hm with ⟨h17, hm⟩ | ⟨h17, hm⟩
        ·
          refine JC.condT' rfl (decide_eq_true h17) ?_
          refine JC.regionT [Asr.vw (Enc.int .u32) (s1.v) x2, Asr.vw (Enc.int .u8) (s3.v) x4] (fun t => false) [(0, true), (1, true), (2, true), (3, true), (4, true), (5, true), (6, true), (7, false), (8, false), (9, false), (10, false), (11, false), (12, false), (13, false)] (by kernel_rfl) (by kernel_rfl) (by kernel_rfl) rfl (fun hsel => ?_)
          refine JT.take (i := 0) (v := .int .u64 d7) hsel rfl (QV.move rfl) rfl rfl rfl rfl [0, 1] rfl rfl ?_
          refine JT.take (i := 1) (v := s1.v) hsel rfl (QV.move rfl) rfl rfl rfl rfl [0, 1] rfl rfl ?_
          refine JT.take (i := 2) (v := .int .i64 d8) hsel rfl (QV.move rfl) rfl rfl rfl rfl [0, 1] rfl rfl ?_
          obtain ⟨h18, hm⟩ := guard_inv hm
          refine JT.take (i := 3) (v := .pointer (some (elA (s1.v) (Int.toNat d8 * ((Enc.int .u32)).sz)))) hsel rfl (QV.indexA (Rdg.vw 0 rfl) Try.underlying33 tk_40 rfl rfl h18) rfl rfl rfl rfl [0, 1] rfl rfl ?_
          refine JT.take (i := 4) (v := .int .u32 (gd x2 d8)) hsel rfl (QV.el1 (Rdg.vw 0 rfl) tk_40 rfl h18 rfl) rfl rfl rfl rfl [0, 1] rfl rfl ?_
          refine JT.take (i := 5) (v := .int .u64 (IntKind.wrap .u64 (gd x2 d8))) hsel rfl (QV.conv rfl (by rw [Try.underlying40]; rfl) Try.underlying41) rfl rfl rfl rfl [0, 1] rfl rfl ?_
          refine JT.take (i := 6) (v := s3.v) hsel rfl (QV.move rfl) rfl rfl rfl rfl [0, 1] rfl rfl ?_
          refine JT.only (i := 7) (d := some 23) rfl (MV.ofQV (v := .int .i64 d8) (QV.move rfl)) rfl rfl rfl ?_
          rintro _ _ ⟨rfl, rfl⟩
          refine ⟨fun _ => ⟨[0, 1], rfl, rfl⟩, ?_⟩
          obtain ⟨h19, hm⟩ := guard_inv hm
          refine JT.only (i := 8) (d := some 24) rfl (MV.ofQV (v := .pointer (some (elA (s3.v) (Int.toNat d8 * ((Enc.int .u8)).sz)))) (QV.indexA (Rdg.vw 1 rfl) Try.underlying34 tk_5 rfl rfl h19)) rfl rfl rfl ?_
          rintro _ _ ⟨rfl, rfl⟩
          refine ⟨fun _ => ⟨[0, 1], rfl, rfl⟩, ?_⟩
          refine JT.only (i := 9) (d := some 25) rfl (MV.ofQV (v := .int .u8 (gd x4 d8)) (QV.el1 (Rdg.vw 1 rfl) tk_5 rfl h19 rfl)) rfl rfl rfl ?_
          rintro _ _ ⟨rfl, rfl⟩
          refine ⟨fun _ => ⟨[0, 1], rfl, rfl⟩, ?_⟩
          refine JT.only (i := 10) (d := some 26) rfl (MV.ofQV (v := .int .u64 (IntKind.wrap .u64 (gd x4 d8))) (QV.conv rfl (by rw [Try.underlying5]; rfl) Try.underlying41)) rfl rfl rfl ?_
          rintro _ _ ⟨rfl, rfl⟩
          refine ⟨fun _ => ⟨[0, 1], rfl, rfl⟩, ?_⟩
          refine JT.only (i := 11) (d := some 27) rfl (MV.ofQV (v := .int .u64 (IntKind.wrap .u64 ((IntKind.wrap .u64 (gd x2 d8)) * (IntKind.wrap .u64 (gd x4 d8))))) (QV.mul rfl rfl)) rfl rfl rfl ?_
          rintro _ _ ⟨rfl, rfl⟩
          refine ⟨fun _ => ⟨[0, 1], rfl, rfl⟩, ?_⟩
          refine JT.only (i := 12) (d := some 28) rfl (MV.ofQV (v := .int .u64 (IntKind.wrap .u64 (d7 + (IntKind.wrap .u64 ((IntKind.wrap .u64 (gd x2 d8)) * (IntKind.wrap .u64 (gd x4 d8))))))) (QV.add rfl rfl)) rfl rfl rfl ?_
          rintro _ _ ⟨rfl, rfl⟩
          refine ⟨fun _ => ⟨[0, 1], rfl, rfl⟩, ?_⟩
          refine JT.only (i := 13) (d := some 5) rfl (MV.ofQV (v := .int .u64 (IntKind.wrap .u64 (d7 + (IntKind.wrap .u64 ((IntKind.wrap .u64 (gd x2 d8)) * (IntKind.wrap .u64 (gd x4 d8))))))) (QV.assign rfl)) rfl rfl rfl ?_
          rintro _ _ ⟨rfl, rfl⟩
          refine ⟨fun _ => ⟨[0, 1], rfl, rfl⟩, ?_⟩
          refine JT.nil ?_
          exact QJ.cut_normal ((IntKind.wrap .u64 (d7 + (IntKind.wrap .u64 ((IntKind.wrap .u64 (gd x2 d8)) * (IntKind.wrap .u64 (gd x4 d8)))))), ()) hm [0, 1] (by exact ⟨rfl, rfl, rfl, rfl, rfl, trivial⟩) rfl rfl
        ·
          refine JC.condF' rfl (decide_eq_false h17) ?_
          refine JC.skip ?_
          exact QJ.cut_normal (d7, ()) hm [0, 1] (by exact ⟨rfl, rfl, rfl, rfl, rfl, trivial⟩) rfl rfl
    ·
      refine JC.condF' rfl (decide_eq_false h15) ?_
      refine JC.exit ?_
      refine QJ.then_exit ?_
      obtain rfl := Option.some.inj hm
      refine QJ.round_exit (fun hy => ?_)
      subst hy
      refine QJ.block_hit ?_
      exact QJ.cut_normal (d7, ()) hmo13 [] (by exact ⟨rfl, trivial⟩) rfl rfl

end Go.Proofs.Ytgganckggdjpaaa
