/- Written by gen.py: functions and their contracts. -/
import Derived.Test.YtedokgdilpfomaaPln
namespace Go.Proofs.Ytedokgdilpfomaa
open Go Go.Eng Go.Proofs
set_option linter.unusedVariables false
set_option linter.unusedSimpArgs false
/-! ### 43: drogher/plan.ask -/
noncomputable def F43_1.m (x1 : Int) (x2 : Int) : Option Unit :=
  some ()
set_option maxRecDepth 100000 in
set_option maxHeartbeats 4000000 in
theorem F43_1.spec (x1 : Int) (x2 : Int) (r : Unit) (hm : F43_1.m x1 x2 = some r) :
    Ctr Try.prog false 43 [.nilIface, .int .i64 x1, .int .i64 x2] [] (fun v L' => v = .tuple #[SlV.nil.v, .int .i64 (5 : Int)] ∧ L' = [Asr.of 5 (Enc.int .u8) (SlV.nil.v) ([] : List Int)]) := by
  refine Ctr.intro (n := 29) (env := [(0, .nilIface), (1, .int .i64 x1), (2, .int .i64 x2)]) Try.func43 rfl rfl rfl rfl (fun c => ?_)
  unfold F43_1.m at hm
  refine JC.seq ?_
  refine JC.region ?_
  refine JL.ent (fun _ hs => hs.nil 5 (Enc.int .u8)) ?_
  refine JL.val (v := SlV.nil.v) (QV.assign rfl) rfl rfl rfl ?_
  refine JL.val (v := .int .i64 (0 : Int)) (QV.assign rfl) rfl rfl rfl ?_
  refine JL.nil ?_
  refine QJ.then_normal ?_
  refine JC.seq ?_
  refine JC.seq ?_
  refine JC.region ?_
  refine JL.val (v := .nilIface) (QV.move rfl) rfl rfl rfl ?_
  refine JL.val (v := .bool true) ((QV.eq (QV.eqlI Try.underlying66 rfl rfl (.inl rfl) rfl true rfl) rfl)) rfl rfl rfl ?_
  refine JL.nil ?_
  refine QJ.then_normal ?_
  refine JC.condT rfl ?_
  refine JC.seq ?_
  refine JC.region ?_
  refine JL.ent (fun _ hs => hs.nil 5 (Enc.int .u8)) ?_
  refine JL.val (v := SlV.nil.v) (QV.assign rfl) rfl rfl rfl ?_
  refine JL.val (v := .int .i64 (5 : Int)) (QV.assign rfl) rfl rfl rfl ?_
  refine JL.nil ?_
  refine QJ.then_normal ?_
  refine JC.ret ?_
  refine QJ.then_ret ?_
  obtain rfl := Option.some.inj hm
  exact QJ.body (vs := [SlV.nil.v, .int .i64 (5 : Int)]) (.inl rfl) rfl (ResVs.cons (ResV.tmp rfl) (ResVs.cons (ResV.tmp rfl) ResVs.nil)) [0] rfl rfl (.inr ⟨own_of _ _ _ _, trivial⟩) ⟨rfl, rfl⟩

/-! ### 16: drogher/plan.Eval -/
noncomputable def F16_1.j1  (d13 : List Int) : Option (List Int × Int) :=
  some (d13, (0 : Int))
noncomputable def F16_1.j2 (d16 : Int) (d26 : List Int) : Option ((List Int × Int) ⊕ (((List Int × Int)) ⊕ (List Int))) :=
  some (.inl (d26, (IntKind.wrap .i64 (d16 + (1 : Int)))))
noncomputable def F16_1.j3 (d15 : List Int) (d16 : Int) (d35 : List Int) : Option ((List Int × Int) ⊕ (((List Int × Int)) ⊕ (List Int))) :=
  (if ((d15).length + (d35).length) * 1 ≤ 140737488355328 ∧ (d15).length + (d35).length ≤ 9223372036854775807 then F16_1.j2 d16 ((d15 ++ d35)) else none)
noncomputable def F16_1.b2 (x2 : List (Int × Int × Int × (List Int))) (d16 : Int) : (List Int × Int) → Option ((List Int × Int) ⊕ (List Int))
  | (d38, d39) => (if d39 < (((gd x2 d16).2.2.2).length : Int) then (if 0 ≤ d39 ∧ d39 < ((d38).length : Int) then (if 0 ≤ d39 ∧ d39 < (((gd x2 d16).2.2.2).length : Int) then some (.inl ((List.set d38 (Int.toNat d39) (IntKind.wrap .u8 ((gd d38 d39) + (gd (gd x2 d16).2.2.2 d39)))), (IntKind.wrap .i64 (d39 + (1 : Int))))) else none) else none) else some (.inr d38))
noncomputable def F16_1.b1 (x2 : List (Int × Int × Int × (List Int))) : (List Int × Int) → Option ((List Int × Int) ⊕ (((List Int × Int)) ⊕ (List Int)))
  | (d15, d16) => (if d16 < ((x2).length : Int) then (if 0 ≤ d16 ∧ d16 < ((x2).length : Int) then (if (gd x2 d16).1 = (1 : Int) then (if ((d15).length + ((gd x2 d16).2.2.2).length) * 1 ≤ 140737488355328 ∧ (d15).length + ((gd x2 d16).2.2.2).length ≤ 9223372036854775807 then F16_1.j2 d16 ((d15 ++ (gd x2 d16).2.2.2)) else none) else ((F43_1.m ((gd x2 d16).2.1) ((gd x2 d16).2.2.1)).bind fun y32 => (if (5 : Int) = (0 : Int) then ((loop (F16_1.b2 x2 d16) (([] : List Int), (0 : Int))).bind fun y => match y with | d35 => F16_1.j3 d15 d16 (d35)) else some (.inr (.inl ((([] : List Int), (5 : Int)))))))) else none) else some (.inr (.inr (d15))))
noncomputable def F16_1.m (x2 : List (Int × Int × Int × (List Int))) (x4 : Int) : Option (List Int × Int) :=
  ((F42.m (x2)).bind fun y8 => (if y8 < (0 : Int) then some (([] : List Int), (3 : Int)) else (if y8 = x4 then ((loop (F16_1.b1 x2) (([] : List Int), (0 : Int))).bind fun y => match y with | .inl r => some r | .inr d13 => F16_1.j1 (d13)) else some (([] : List Int), (13 : Int)))))
set_option maxRecDepth 100000 in
set_option maxHeartbeats 4000000 in
theorem F16_1.spec (s1 : SlV) (z3 : List (Unit × Unit × Unit × SlV)) (x2 : List (Int × Int × Int × (List Int))) (x4 : Int) (r : (List Int × Int)) (hm : F16_1.m x2 x4 = some r) :
    Ctr Try.prog false 16 [s1.v, .nilIface, .int .i64 x4] [Asr.vn (NE.pair (NE.flat (Enc.int .u8)) (NE.pair (NE.flat (Enc.int .i64)) (NE.pair (NE.flat (Enc.int .i64)) (NE.sl (Enc.int .u8))))) (s1.v) z3 x2] (fun v L' => ∃ (g5 : SlV), v = .tuple #[g5.v, .int .i64 r.2] ∧ L' = [Asr.of 5 (Enc.int .u8) (g5.v) r.1]) := by
  refine Ctr.intro (n := 72) (env := [(0, s1.v), (1, .nilIface), (2, .int .i64 x4)]) Try.func16 rfl rfl rfl rfl (fun c => ?_)
  unfold F16_1.m at hm
  refine JC.seq ?_
  refine JC.region ?_
  refine JL.ent (fun _ hs => hs.nil 5 (Enc.int .u8)) ?_
  refine JL.val (v := SlV.nil.v) (QV.assign rfl) rfl rfl rfl ?_
  refine JL.val (v := .int .i64 (0 : Int)) (QV.assign rfl) rfl rfl rfl ?_
  refine JL.nil ?_
  refine QJ.then_normal ?_
  refine JC.seq ?_
  refine JC.seq ?_
  refine JC.region ?_
  refine JL.val (v := s1.v) (QV.move rfl) rfl rfl rfl ?_
  obtain ⟨y8, hc9, hm⟩ := bind_inv hm
  refine JL.mv (d := some 16) (MV.call (Lo := []) (Lr := [Asr.of 5 (Enc.int .u8) (SlV.nil.v) ([] : List Int), Asr.vn (NE.pair (NE.flat (Enc.int .u8)) (NE.pair (NE.flat (Enc.int .i64)) (NE.pair (NE.flat (Enc.int .i64)) (NE.sl (Enc.int .u8))))) (s1.v) z3 x2]) (F42.spec (s1) (z3) (x2) _ hc9) rfl Try.func42 rfl rfl rfl [] [0, 1] rfl rfl rfl ⟨(Drv.vn 1 rfl), trivial⟩) rfl rfl rfl ?_
  rintro _ _ ⟨_, ⟨rfl, rfl⟩, rfl⟩
  refine JL.val (v := .int .i64 y8) (QV.assign rfl) rfl rfl rfl ?_
  refine JL.nil ?_
  refine QJ.then_normal ?_
  refine JC.block ?_
  refine JC.seq ?_
  refine JC.region ?_
  refine JL.val (v := .int .i64 y8) (QV.move rfl) rfl rfl rfl ?_
  refine JL.val (v := .bool (decide (y8 < (0 : Int)))) (QV.lss rfl rfl) rfl rfl rfl ?_
  refine JL.val (v := .bool (decide (y8 < (0 : Int)))) (QV.assign rfl) rfl rfl rfl ?_
  refine JL.nil ?_
  refine QJ.then_normal ?_
  rcases ite_inv hm with ⟨h10, hm⟩ | ⟨h10, hm⟩
  ·
    refine JC.condT' rfl (decide_eq_true h10) ?_
    refine JC.seq ?_
    refine JC.region ?_
    refine JL.ent (fun _ hs => hs.nil 5 (Enc.int .u8)) ?_
    refine JL.val (v := SlV.nil.v) (QV.assign rfl) rfl rfl rfl ?_
    refine JL.val (v := .int .i64 (3 : Int)) (QV.assign rfl) rfl rfl rfl ?_
    refine JL.nil ?_
    refine QJ.then_normal ?_
    refine JC.ret ?_
    refine QJ.block_ret ?_
    refine QJ.then_ret ?_
    obtain rfl := Option.some.inj hm
    exact QJ.body (vs := [SlV.nil.v, .int .i64 (3 : Int)]) (.inl rfl) rfl (ResVs.cons (ResV.tmp rfl) (ResVs.cons (ResV.tmp rfl) ResVs.nil)) [0] rfl rfl (.inr ⟨own_of _ _ _ _, trivial⟩) ⟨(SlV.nil), rfl, rfl⟩
  ·
    refine JC.condF' rfl (decide_eq_false h10) ?_
    refine JC.seq ?_
    refine JC.region ?_
    refine JL.val (v := .int .i64 y8) (QV.move rfl) rfl rfl rfl ?_
    refine JL.val (v := .int .i64 x4) (QV.move rfl) rfl rfl rfl ?_
    refine JL.val (v := .bool (!(decide (y8 = x4)))) (QV.neq rfl rfl) rfl rfl rfl ?_
    refine JL.val (v := .bool (!(decide (y8 = x4)))) (QV.assign rfl) rfl rfl rfl ?_
    refine JL.nil ?_
    refine QJ.then_normal ?_
    rcases ite_inv hm with ⟨h11, hm⟩ | ⟨h11, hm⟩
    ·
      refine JC.condF' rfl (congrArg Bool.not (decide_eq_true h11)) ?_
      refine JC.skip ?_
      refine QJ.block_normal ?_
      refine QJ.then_normal ?_
      refine JC.seq ?_
      refine JC.region ?_
      refine JL.ent (fun _ hs => hs.nil 5 (Enc.int .u8)) ?_
      refine JL.val (v := SlV.nil.v) (QV.assign rfl) rfl rfl rfl ?_
      refine JL.nil ?_
      refine QJ.then_normal ?_
      refine JC.seq ?_
      refine JC.seq ?_
      refine JC.region ?_
      refine JL.val (v := s1.v) (QV.move rfl) rfl rfl rfl ?_
      refine JL.val (v := .int .i64 ((x2).length : Int)) (QV.lenN (RdN.vn 2 rfl) Try.underlying22 rfl) rfl rfl rfl ?_
      refine JL.val (v := .int .i64 (0 : Int)) (QV.move rfl) rfl rfl rfl ?_
      refine JL.nil ?_
      refine QJ.then_normal ?_
      refine JC.cutK (Y := (List Int) × SlV) (fun y => match y with | (d13, _) => F16_1.j1 (d13) = some r) (fun y => match y with | (d13, z12) => [(9, z12.v)]) (fun y => match y with | (d13, z12) => [Asr.of 5 (Enc.int .u8) (z12.v) d13]) ?_ ?_
      ·
        rintro ⟨d13, z12⟩ hm
        unfold F16_1.j1 at hm
        show QJ _ _ [(9, z12.v)] [Asr.of 5 (Enc.int .u8) (z12.v) d13] _ _
        refine QJ.then_normal ?_
        refine JC.seq ?_
        refine JC.region ?_
        refine JL.val (v := z12.v) (QV.move rfl) rfl rfl rfl ?_
        refine JL.val (v := z12.v) (QV.assign rfl) rfl rfl rfl ?_
        refine JL.val (v := .int .i64 (0 : Int)) (QV.assign rfl) rfl rfl rfl ?_
        refine JL.nil ?_
        refine QJ.then_normal ?_
        refine JC.ret ?_
        obtain rfl := Option.some.inj hm
        exact QJ.body (vs := [z12.v, .int .i64 (0 : Int)]) (.inl rfl) rfl (ResVs.cons (ResV.tmp rfl) (ResVs.cons (ResV.tmp rfl) ResVs.nil)) [0] rfl rfl (.inr ⟨own_of _ _ _ _, trivial⟩) ⟨z12, rfl, rfl⟩
      ·
        refine JC.block ?_
        obtain ⟨y20, hl21, hmo22⟩ := bind_inv hm
        refine JC.loop (F16_1.b1 x2) (fun x z => match x, z with | (d15, d16), z14 => [(1, .nilIface), (9, z14.v), (24, s1.v), (25, .int .i64 ((x2).length : Int)), (26, .int .i64 d16)]) (fun x z => match x, z with | (d15, d16), z14 => [Asr.of 5 (Enc.int .u8) (z14.v) d15, Asr.vn (NE.pair (NE.flat (Enc.int .u8)) (NE.pair (NE.flat (Enc.int .i64)) (NE.pair (NE.flat (Enc.int .i64)) (NE.sl (Enc.int .u8))))) (s1.v) z3 x2]) (([] : List Int), (0 : Int)) SlV.nil y20 hl21 [0, 2] (by exact ⟨rfl, rfl, rfl, rfl, rfl, trivial⟩) rfl rfl ?_
        rintro ⟨d15, d16⟩ z14 s23 hm
        unfold F16_1.b1 at hm
        dsimp only at hm
        show JC _ _ _ [(1, .nilIface), (9, z14.v), (24, s1.v), (25, .int .i64 ((x2).length : Int)), (26, .int .i64 d16)] [Asr.of 5 (Enc.int .u8) (z14.v) d15, Asr.vn (NE.pair (NE.flat (Enc.int .u8)) (NE.pair (NE.flat (Enc.int .i64)) (NE.pair (NE.flat (Enc.int .i64)) (NE.sl (Enc.int .u8))))) (s1.v) z3 x2] _ _
        refine JC.seq ?_
        refine JC.region ?_
        refine JL.val (v := .bool (decide (d16 < ((x2).length : Int)))) (QV.lss rfl rfl) rfl rfl rfl ?_
        refine JL.nil ?_
        refine QJ.then_normal ?_
        refine JC.seq ?_
        rcases ite_inv hm with ⟨h24, hm⟩ | ⟨h24, hm⟩
        ·
          refine JC.condT' rfl (decide_eq_true h24) ?_
          refine JC.skip ?_
          refine QJ.then_normal ?_
          refine JC.seq ?_
          refine JC.cutK (Y := (List Int) × SlV) (fun y => match y with | (d26, _) => F16_1.j2 d16 (d26) = some s23) (fun y => match y with | (d26, z25) => [(1, .nilIface), (9, z25.v), (24, s1.v), (25, .int .i64 ((x2).length : Int)), (26, .int .i64 d16)]) (fun y => match y with | (d26, z25) => [Asr.of 5 (Enc.int .u8) (z25.v) d26, Asr.vn (NE.pair (NE.flat (Enc.int .u8)) (NE.pair (NE.flat (Enc.int .i64)) (NE.pair (NE.flat (Enc.int .i64)) (NE.sl (Enc.int .u8))))) (s1.v) z3 x2]) ?_ ?_
          ·
            rintro ⟨d26, z25⟩ hm
            unfold F16_1.j2 at hm
            show QJ _ _ [(1, .nilIface), (9, z25.v), (24, s1.v), (25, .int .i64 ((x2).length : Int)), (26, .int .i64 d16)] [Asr.of 5 (Enc.int .u8) (z25.v) d26, Asr.vn (NE.pair (NE.flat (Enc.int .u8)) (NE.pair (NE.flat (Enc.int .i64)) (NE.pair (NE.flat (Enc.int .i64)) (NE.sl (Enc.int .u8))))) (s1.v) z3 x2] _ _
            refine QJ.then_normal ?_
            refine JC.region ?_
            refine JL.val (v := .int .i64 (IntKind.wrap .i64 (d16 + (1 : Int)))) (QV.add rfl rfl) rfl rfl rfl ?_
            refine JL.val (v := .int .i64 (IntKind.wrap .i64 (d16 + (1 : Int)))) (QV.move rfl) rfl rfl rfl ?_
            refine JL.nil ?_
            obtain rfl := Option.some.inj hm
            exact QJ.round_on (d26, (IntKind.wrap .i64 (d16 + (1 : Int)))) z25 [0, 1] (by exact ⟨rfl, rfl, rfl, rfl, rfl, trivial⟩) rfl rfl
          ·
            refine JC.block ?_
            refine JC.seq ?_
            refine JC.region ?_
            obtain ⟨h27, hm⟩ := guard_inv hm
            refine JL.val (v := .pointer (some (elA (s1.v) (Int.toNat d16 * ((NE.pair (NE.flat (Enc.int .u8)) (NE.pair (NE.flat (Enc.int .i64)) (NE.pair (NE.flat (Enc.int .i64)) (NE.sl (Enc.int .u8))))).E).sz)))) (QV.indexN (RdN.vn 1 rfl) Try.underlying22 tk_35 rfl rfl h27) rfl rfl rfl ?_
            refine JL.val (v := .agg #[.int .u8 (gd x2 d16).1, .int .i64 (gd x2 d16).2.1, .int .i64 (gd x2 d16).2.2.1, (gd z3 d16).2.2.2.v]) (QV.eq (QV.elNN (RdN.vn 1 rfl) tk_35 rfl h27) rfl) rfl rfl rfl ?_
            refine JL.ent (fun _ hs => hs.nil 5 (Enc.int .u8)) ?_
            refine JL.mv (d := some 11) (MV.alloc [Seg.c (.int .u8 (0 : Int)), Seg.c (.int .i64 (0 : Int)), Seg.c (.int .i64 (0 : Int)), Seg.c (SlV.nil.v)] z_35 rfl) rfl rfl rfl ?_
            rintro _ _ ⟨b28, rfl, rfl⟩
            refine JL.ent (fun _ hs => hs.derive (Drv.el (K := (NE.pair (NE.flat (Enc.int .u8)) (NE.pair (NE.flat (Enc.int .i64)) (NE.pair (NE.flat (Enc.int .i64)) (NE.sl (Enc.int .u8)))))) (A := Asr.vw (Enc.int .u8) ((gd z3 d16).2.2.2.v) (gd x2 d16).2.2.2) (Drv.vn 3 rfl) h27 (fun _ _ q => q.2.2.2))) ?_
            refine JL.mv (d := none) (MV.store (ss := [Seg.c (.int .u8 (0 : Int)), Seg.c (.int .i64 (0 : Int)), Seg.c (.int .i64 (0 : Int)), Seg.c (SlV.nil.v)]) 1 0 4 [Seg.c (.int .u8 (gd x2 d16).1), Seg.c (.int .i64 (gd x2 d16).2.1), Seg.c (.int .i64 (gd x2 d16).2.2.1), Seg.c ((gd z3 d16).2.2.2.v)] rfl tk_35 rfl rfl rfl rfl (fun w hs => ⟨rfl, one_c rfl, one_c rfl, one_c rfl, one_sl (Rdg.vw 0 rfl) hs, trivial⟩)) rfl rfl rfl ?_
            rintro _ _ ⟨rfl, rfl⟩
            refine JL.nil ?_
            refine QJ.then_normal ?_
            refine JC.seq ?_
            refine JC.seq ?_
            refine JC.region ?_
            refine JL.val (v := .pointer (some ⟨b28, 0, none⟩)) (QV.fieldB fo_35_0 rfl rfl) rfl rfl rfl ?_
            refine JL.val (v := .int .u8 (gd x2 d16).1) (QV.load1 (ss := [Seg.c (.int .u8 (gd x2 d16).1), Seg.c (.int .i64 (gd x2 d16).2.1), Seg.c (.int .i64 (gd x2 d16).2.2.1), Seg.c ((gd z3 d16).2.2.2.v)]) 1 0 rfl tk_5 rfl rfl rfl) rfl rfl rfl ?_
            refine JL.val (v := .bool (decide ((gd x2 d16).1 = (1 : Int)))) (QV.eql rfl rfl) rfl rfl rfl ?_
            refine JL.nil ?_
            refine QJ.then_normal ?_
            rcases ite_inv hm with ⟨h29, hm⟩ | ⟨h29, hm⟩
            ·
              refine JC.condT' rfl (decide_eq_true h29) ?_
              refine JC.seq ?_
              refine JC.region ?_
              refine JL.val (v := z14.v) (QV.move rfl) rfl rfl rfl ?_
              refine JL.val (v := .pointer (some ⟨b28, 3, none⟩)) (QV.fieldB fo_35_3 rfl rfl) rfl rfl rfl ?_
              refine JL.val (v := (gd z3 d16).2.2.2.v) (QV.load1 (ss := [Seg.c (.int .u8 (gd x2 d16).1), Seg.c (.int .i64 (gd x2 d16).2.1), Seg.c (.int .i64 (gd x2 d16).2.2.1), Seg.c ((gd z3 d16).2.2.2.v)]) 1 3 rfl tk_23 rfl rfl rfl) rfl rfl rfl ?_
              obtain ⟨h30, hm⟩ := guard_inv hm
              refine JL.mv (d := some 36) (MV.append 3 rfl (Rdg.vw 0 rfl) Try.underlying23 zi_5 rfl (by decide) rfl rfl h30) rfl rfl rfl ?_
              rintro _ _ ⟨z31, rfl, rfl⟩
              refine JL.val (v := z31.v) (QV.assign rfl) rfl rfl rfl ?_
              refine JL.nil ?_
              refine QJ.then_normal ?_
              refine JC.exit ?_
              refine QJ.then_exit ?_
              refine QJ.block_hit ?_
              exact QJ.cut_normal ((d15 ++ (gd x2 d16).2.2.2), z31) hm [3, 4] (by exact ⟨rfl, rfl, rfl, rfl, rfl, trivial⟩) rfl rfl
            ·
              refine JC.condF' rfl (decide_eq_false h29) ?_
              refine JC.skip ?_
              refine QJ.then_normal ?_
              refine JC.seq ?_
              refine JC.region ?_
              refine JL.val (v := .nilIface) (QV.move rfl) rfl rfl rfl ?_
              refine JL.val (v := .pointer (some ⟨b28, 1, none⟩)) (QV.fieldB fo_35_1 rfl rfl) rfl rfl rfl ?_
              refine JL.val (v := .int .i64 (gd x2 d16).2.1) (QV.load1 (ss := [Seg.c (.int .u8 (gd x2 d16).1), Seg.c (.int .i64 (gd x2 d16).2.1), Seg.c (.int .i64 (gd x2 d16).2.2.1), Seg.c ((gd z3 d16).2.2.2.v)]) 1 1 rfl tk_3 rfl rfl rfl) rfl rfl rfl ?_
              refine JL.val (v := .pointer (some ⟨b28, 2, none⟩)) (QV.fieldB fo_35_2 rfl rfl) rfl rfl rfl ?_
              refine JL.val (v := .int .i64 (gd x2 d16).2.2.1) (QV.load1 (ss := [Seg.c (.int .u8 (gd x2 d16).1), Seg.c (.int .i64 (gd x2 d16).2.1), Seg.c (.int .i64 (gd x2 d16).2.2.1), Seg.c ((gd z3 d16).2.2.2.v)]) 1 2 rfl tk_3 rfl rfl rfl) rfl rfl rfl ?_
              obtain ⟨y32, hc33, hm⟩ := bind_inv hm
              refine JL.mv (d := some 43) (MV.call (Lo := []) (Lr := [Asr.vw (Enc.int .u8) ((gd z3 d16).2.2.2.v) (gd x2 d16).2.2.2, Asr.blk b28 35 [Seg.c (.int .u8 (gd x2 d16).1), Seg.c (.int .i64 (gd x2 d16).2.1), Seg.c (.int .i64 (gd x2 d16).2.2.1), Seg.c ((gd z3 d16).2.2.2.v)], Asr.of 5 (Enc.int .u8) (SlV.nil.v) ([] : List Int), Asr.of 5 (Enc.int .u8) (z14.v) d15, Asr.vn (NE.pair (NE.flat (Enc.int .u8)) (NE.pair (NE.flat (Enc.int .i64)) (NE.pair (NE.flat (Enc.int .i64)) (NE.sl (Enc.int .u8))))) (s1.v) z3 x2]) (F43_1.spec ((gd x2 d16).2.1) ((gd x2 d16).2.2.1) _ hc33) rfl Try.func43 rfl rfl rfl [] [0, 1, 2, 3, 4] rfl rfl rfl trivial) rfl rfl rfl ?_
              rintro _ _ ⟨_, ⟨rfl, rfl⟩, rfl⟩
              refine JL.val (v := .tuple #[SlV.nil.v, .int .i64 (5 : Int)]) (QV.move rfl) rfl rfl rfl ?_
              refine JL.val (v := SlV.nil.v) (QV.extract (vs := [SlV.nil.v, .int .i64 (5 : Int)]) rfl rfl) rfl rfl rfl ?_
              refine JL.val (v := .int .i64 (5 : Int)) (QV.extract (vs := [SlV.nil.v, .int .i64 (5 : Int)]) rfl rfl) rfl rfl rfl ?_
              refine JL.val (v := SlV.nil.v) (QV.assign rfl) rfl rfl rfl ?_
              refine JL.val (v := .int .i64 (5 : Int)) (QV.assign rfl) rfl rfl rfl ?_
              refine JL.nil ?_
              refine QJ.then_normal ?_
              refine JC.seq ?_
              refine JC.seq ?_
              refine JC.region ?_
              refine JL.val (v := .int .i64 (5 : Int)) (QV.move rfl) rfl rfl rfl ?_
              refine JL.val (v := .bool (!(decide ((5 : Int) = (0 : Int))))) (QV.neq rfl rfl) rfl rfl rfl ?_
              refine JL.nil ?_
              refine QJ.then_normal ?_
              rcases ite_inv hm with ⟨h34, hm⟩ | ⟨h34, hm⟩
              ·
                refine JC.condF' rfl (congrArg Bool.not (decide_eq_true h34)) ?_
                refine JC.skip ?_
                refine QJ.then_normal ?_
                refine JC.seq ?_
                refine JC.seq ?_
                refine JC.region ?_
                refine JL.val (v := .pointer (some ⟨b28, 3, none⟩)) (QV.fieldB fo_35_3 rfl rfl) rfl rfl rfl ?_
                refine JL.val (v := (gd z3 d16).2.2.2.v) (QV.load1 (ss := [Seg.c (.int .u8 (gd x2 d16).1), Seg.c (.int .i64 (gd x2 d16).2.1), Seg.c (.int .i64 (gd x2 d16).2.2.1), Seg.c ((gd z3 d16).2.2.2.v)]) 2 3 rfl tk_23 rfl rfl rfl) rfl rfl rfl ?_
                refine JL.val (v := .int .i64 (((gd x2 d16).2.2.2).length : Int)) (QV.len (Rdg.vw 1 rfl) Try.underlying23 rfl) rfl rfl rfl ?_
                refine JL.val (v := .int .i64 (0 : Int)) (QV.move rfl) rfl rfl rfl ?_
                refine JL.nil ?_
                refine QJ.then_normal ?_
                refine JC.cutK (Y := (List Int) × Unit) (fun y => match y with | (d35, _) => F16_1.j3 d15 d16 (d35) = some s23) (fun y => match y with | (d35, _) => [(1, .nilIface), (9, z14.v), (12, SlV.nil.v), (24, s1.v), (25, .int .i64 ((x2).length : Int)), (26, .int .i64 d16)]) (fun y => match y with | (d35, _) => [Asr.of 5 (Enc.int .u8) (z14.v) d15, Asr.of 5 (Enc.int .u8) (SlV.nil.v) d35, Asr.vn (NE.pair (NE.flat (Enc.int .u8)) (NE.pair (NE.flat (Enc.int .i64)) (NE.pair (NE.flat (Enc.int .i64)) (NE.sl (Enc.int .u8))))) (s1.v) z3 x2]) ?_ ?_
                ·
                  rintro ⟨d35, ⟨⟩⟩ hm
                  unfold F16_1.j3 at hm
                  show QJ _ _ [(1, .nilIface), (9, z14.v), (12, SlV.nil.v), (24, s1.v), (25, .int .i64 ((x2).length : Int)), (26, .int .i64 d16)] [Asr.of 5 (Enc.int .u8) (z14.v) d15, Asr.of 5 (Enc.int .u8) (SlV.nil.v) d35, Asr.vn (NE.pair (NE.flat (Enc.int .u8)) (NE.pair (NE.flat (Enc.int .i64)) (NE.pair (NE.flat (Enc.int .i64)) (NE.sl (Enc.int .u8))))) (s1.v) z3 x2] _ _
                  refine QJ.then_normal ?_
                  refine JC.region ?_
                  refine JL.val (v := z14.v) (QV.move rfl) rfl rfl rfl ?_
                  refine JL.val (v := SlV.nil.v) (QV.move rfl) rfl rfl rfl ?_
                  obtain ⟨h36, hm⟩ := guard_inv hm
                  refine JL.mv (d := some 69) (MV.append 0 rfl (Rdg.of 1 rfl) Try.underlying23 zi_5 rfl (by decide) rfl rfl h36) rfl rfl rfl ?_
                  rintro _ _ ⟨z37, rfl, rfl⟩
                  refine JL.val (v := z37.v) (QV.assign rfl) rfl rfl rfl ?_
                  refine JL.nil ?_
                  refine QJ.block_normal ?_
                  exact QJ.cut_normal ((d15 ++ d35), z37) hm [0, 2] (by exact ⟨rfl, rfl, rfl, rfl, rfl, trivial⟩) rfl rfl
                ·
                  refine JC.block ?_
                  obtain ⟨y42, hl43, hmo44⟩ := bind_inv hm
                  refine JC.loop (F16_1.b2 x2 d16) (fun x z => match x, z with | (d38, d39), _ => [(1, .nilIface), (9, z14.v), (11, .pointer (some ⟨b28, 0, none⟩)), (12, SlV.nil.v), (24, s1.v), (25, .int .i64 ((x2).length : Int)), (26, .int .i64 d16), (51, .int .i64 (((gd x2 d16).2.2.2).length : Int)), (52, .int .i64 d39)]) (fun x z => match x, z with | (d38, d39), _ => [Asr.of 5 (Enc.int .u8) (z14.v) d15, Asr.vw (Enc.int .u8) ((gd z3 d16).2.2.2.v) (gd x2 d16).2.2.2, Asr.blk b28 35 [Seg.c (.int .u8 (gd x2 d16).1), Seg.c (.int .i64 (gd x2 d16).2.1), Seg.c (.int .i64 (gd x2 d16).2.2.1), Seg.c ((gd z3 d16).2.2.2.v)], Asr.of 5 (Enc.int .u8) (SlV.nil.v) d38, Asr.vn (NE.pair (NE.flat (Enc.int .u8)) (NE.pair (NE.flat (Enc.int .i64)) (NE.pair (NE.flat (Enc.int .i64)) (NE.sl (Enc.int .u8))))) (s1.v) z3 x2]) (([] : List Int), (0 : Int)) () y42 hl43 [4, 1, 2, 0, 5] (by exact ⟨rfl, rfl, rfl, rfl, rfl, rfl, rfl, rfl, rfl, trivial⟩) rfl rfl ?_
                  rintro ⟨d38, d39⟩ ⟨⟩ s45 hm
                  unfold F16_1.b2 at hm
                  dsimp only at hm
                  show JC _ _ _ [(1, .nilIface), (9, z14.v), (11, .pointer (some ⟨b28, 0, none⟩)), (12, SlV.nil.v), (24, s1.v), (25, .int .i64 ((x2).length : Int)), (26, .int .i64 d16), (51, .int .i64 (((gd x2 d16).2.2.2).length : Int)), (52, .int .i64 d39)] [Asr.of 5 (Enc.int .u8) (z14.v) d15, Asr.vw (Enc.int .u8) ((gd z3 d16).2.2.2.v) (gd x2 d16).2.2.2, Asr.blk b28 35 [Seg.c (.int .u8 (gd x2 d16).1), Seg.c (.int .i64 (gd x2 d16).2.1), Seg.c (.int .i64 (gd x2 d16).2.2.1), Seg.c ((gd z3 d16).2.2.2.v)], Asr.of 5 (Enc.int .u8) (SlV.nil.v) d38, Asr.vn (NE.pair (NE.flat (Enc.int .u8)) (NE.pair (NE.flat (Enc.int .i64)) (NE.pair (NE.flat (Enc.int .i64)) (NE.sl (Enc.int .u8))))) (s1.v) z3 x2] _ _
                  refine JC.seq ?_
                  refine JC.region ?_
                  refine JL.val (v := .bool (decide (d39 < (((gd x2 d16).2.2.2).length : Int)))) (QV.lss rfl rfl) rfl rfl rfl ?_
                  refine JL.nil ?_
                  refine QJ.then_normal ?_
                  refine JC.seq ?_
                  rcases ite_inv hm with ⟨h46, hm⟩ | ⟨h46, hm⟩
                  ·
                    refine JC.condT' rfl (decide_eq_true h46) ?_
                    refine JC.skip ?_
                    refine QJ.then_normal ?_
                    refine JC.seq ?_
                    refine JC.block ?_
                    refine JC.seq ?_
                    refine JC.region ?_
                    refine JL.val (v := .int .i64 d39) (QV.move rfl) rfl rfl rfl ?_
                    refine JL.val (v := .int .i64 d39) (QV.assign rfl) rfl rfl rfl ?_
                    refine JL.nil ?_
                    refine QJ.then_normal ?_
                    refine JC.regionT [Asr.of 5 (Enc.int .u8) (z14.v) d15, Asr.vw (Enc.int .u8) ((gd z3 d16).2.2.2.v) (gd x2 d16).2.2.2, Asr.blk b28 35 [Seg.c (.int .u8 (gd x2 d16).1), Seg.c (.int .i64 (gd x2 d16).2.1), Seg.c (.int .i64 (gd x2 d16).2.2.1), Seg.c ((gd z3 d16).2.2.2.v)], Asr.of 5 (Enc.int .u8) (SlV.nil.v) d38, Asr.vn (NE.pair (NE.flat (Enc.int .u8)) (NE.pair (NE.flat (Enc.int .i64)) (NE.pair (NE.flat (Enc.int .i64)) (NE.sl (Enc.int .u8))))) (s1.v) z3 x2] (fun t => Nat.beq t 11) [(0, true), (1, true), (2, true), (3, true), (4, true), (5, true), (6, false), (7, false), (8, false), (9, false), (10, false), (11, false)] (by kernel_rfl) (by kernel_rfl) (by kernel_rfl) rfl (fun hsel => ?_)
                    refine JT.take (i := 0) (v := SlV.nil.v) hsel rfl (QV.move rfl) rfl rfl rfl [0, 1, 2, 3, 4] rfl rfl ?_
                    refine JT.take (i := 1) (v := .int .i64 d39) hsel rfl (QV.move rfl) rfl rfl rfl [0, 1, 2, 3, 4] rfl rfl ?_
                    obtain ⟨h47, hm⟩ := guard_inv hm
                    refine JT.take (i := 2) (v := .pointer (some (elA (SlV.nil.v) (Int.toNat d39 * ((Enc.int .u8)).sz)))) hsel rfl (QV.indexA (Rdg.of 3 rfl) Try.underlying23 tk_5 rfl rfl h47) rfl rfl rfl [0, 1, 2, 3, 4] rfl rfl ?_
                    refine JT.take (i := 3) (v := .int .u8 (gd d38 d39)) hsel rfl (QV.el1 (Rdg.of 3 rfl) tk_5 rfl h47 rfl) rfl rfl rfl [0, 1, 2, 3, 4] rfl rfl ?_
                    refine JT.take (i := 4) (v := .pointer (some ⟨b28, 3, none⟩)) hsel rfl (QV.fieldB fo_35_3 rfl rfl) rfl rfl rfl [0, 1, 2, 3, 4] rfl rfl ?_
                    refine JT.take (i := 5) (v := (gd z3 d16).2.2.2.v) hsel rfl (QV.load1 (ss := [Seg.c (.int .u8 (gd x2 d16).1), Seg.c (.int .i64 (gd x2 d16).2.1), Seg.c (.int .i64 (gd x2 d16).2.2.1), Seg.c ((gd z3 d16).2.2.2.v)]) 2 3 rfl tk_23 rfl rfl rfl) rfl rfl rfl [0, 1, 2, 3, 4] rfl rfl ?_
                    refine JT.only (i := 6) (d := some 61) rfl (MV.ofQV (v := .int .i64 d39) (QV.move rfl)) rfl rfl rfl ?_
                    rintro _ _ ⟨rfl, rfl⟩
                    refine ⟨fun _ => ⟨[0, 1, 2, 3, 4], rfl, rfl⟩, ?_⟩
                    obtain ⟨h48, hm⟩ := guard_inv hm
                    refine JT.only (i := 7) (d := some 62) rfl (MV.ofQV (v := .pointer (some (elA ((gd z3 d16).2.2.2.v) (Int.toNat d39 * ((Enc.int .u8)).sz)))) (QV.indexA (Rdg.vw 1 rfl) Try.underlying23 tk_5 rfl rfl h48)) rfl rfl rfl ?_
                    rintro _ _ ⟨rfl, rfl⟩
                    refine ⟨fun _ => ⟨[0, 1, 2, 3, 4], rfl, rfl⟩, ?_⟩
                    refine JT.only (i := 8) (d := some 63) rfl (MV.ofQV (v := .int .u8 (gd (gd x2 d16).2.2.2 d39)) (QV.el1 (Rdg.vw 1 rfl) tk_5 rfl h48 rfl)) rfl rfl rfl ?_
                    rintro _ _ ⟨rfl, rfl⟩
                    refine ⟨fun _ => ⟨[0, 1, 2, 3, 4], rfl, rfl⟩, ?_⟩
                    refine JT.only (i := 9) (d := some 64) rfl (MV.ofQV (v := .int .u8 (IntKind.wrap .u8 ((gd d38 d39) + (gd (gd x2 d16).2.2.2 d39)))) (QV.add rfl rfl)) rfl rfl rfl ?_
                    rintro _ _ ⟨rfl, rfl⟩
                    refine ⟨fun _ => ⟨[0, 1, 2, 3, 4], rfl, rfl⟩, ?_⟩
                    refine JT.only (i := 10) (d := some 65) rfl (MV.ofQV (v := .pointer (some (elA (SlV.nil.v) (Int.toNat d39 * ((Enc.int .u8)).sz)))) (QV.indexA (Rdg.of 3 rfl) Try.underlying23 tk_5 rfl rfl h47)) rfl rfl rfl ?_
                    rintro _ _ ⟨rfl, rfl⟩
                    refine ⟨fun _ => ⟨[0, 1, 2, 3, 4], rfl, rfl⟩, ?_⟩
                    refine JT.only (i := 11) (d := none) rfl (MV.storeEl 3 (IntKind.wrap .u8 ((gd d38 d39) + (gd (gd x2 d16).2.2.2 d39))) rfl tk_5 rfl rfl h47 rfl) rfl rfl rfl ?_
                    rintro _ _ ⟨rfl, rfl⟩
                    refine ⟨fun h => absurd h (by decide), ?_⟩
                    refine JT.nil ?_
                    refine QJ.block_normal ?_
                    refine QJ.then_normal ?_
                    refine JC.region ?_
                    refine JL.val (v := .int .i64 (IntKind.wrap .i64 (d39 + (1 : Int)))) (QV.add rfl rfl) rfl rfl rfl ?_
                    refine JL.val (v := .int .i64 (IntKind.wrap .i64 (d39 + (1 : Int)))) (QV.move rfl) rfl rfl rfl ?_
                    refine JL.nil ?_
                    obtain rfl := Option.some.inj hm
                    exact QJ.round_on ((List.set d38 (Int.toNat d39) (IntKind.wrap .u8 ((gd d38 d39) + (gd (gd x2 d16).2.2.2 d39)))), (IntKind.wrap .i64 (d39 + (1 : Int)))) () [0, 1, 2, 3, 4] (by exact ⟨rfl, rfl, rfl, rfl, rfl, rfl, rfl, rfl, rfl, trivial⟩) rfl rfl
                  ·
                    refine JC.condF' rfl (decide_eq_false h46) ?_
                    refine JC.exit ?_
                    refine QJ.then_exit ?_
                    obtain rfl := Option.some.inj hm
                    refine QJ.round_exit (fun hy => ?_)
                    subst hy
                    refine QJ.block_hit ?_
                    exact QJ.cut_normal (d38, ()) hmo44 [0, 3, 4] (by exact ⟨rfl, rfl, rfl, rfl, rfl, rfl, trivial⟩) rfl rfl
              ·
                refine JC.condT' rfl (congrArg Bool.not (decide_eq_false h34)) ?_
                refine JC.seq ?_
                refine JC.region ?_
                refine JL.val (v := .int .i64 (5 : Int)) (QV.move rfl) rfl rfl rfl ?_
                refine JL.ent (fun _ hs => hs.nil 5 (Enc.int .u8)) ?_
                refine JL.val (v := SlV.nil.v) (QV.assign rfl) rfl rfl rfl ?_
                refine JL.val (v := .int .i64 (5 : Int)) (QV.assign rfl) rfl rfl rfl ?_
                refine JL.nil ?_
                refine QJ.then_normal ?_
                refine JC.ret ?_
                refine QJ.then_ret ?_
                refine QJ.block_ret ?_
                refine QJ.cut_ret ?_
                refine QJ.then_ret ?_
                obtain rfl := Option.some.inj hm
                refine QJ.round_ret (fun hy => ?_)
                subst hy
                refine QJ.block_ret ?_
                refine QJ.cut_ret ?_
                refine QJ.then_ret ?_
                obtain rfl := Option.some.inj hmo22
                exact QJ.body (vs := [SlV.nil.v, .int .i64 (5 : Int)]) (.inl rfl) rfl (ResVs.cons (ResV.tmp rfl) (ResVs.cons (ResV.tmp rfl) ResVs.nil)) [0] rfl rfl (.inr ⟨own_of _ _ _ _, trivial⟩) ⟨(SlV.nil), rfl, rfl⟩
        ·
          refine JC.condF' rfl (decide_eq_false h24) ?_
          refine JC.exit ?_
          refine QJ.then_exit ?_
          obtain rfl := Option.some.inj hm
          refine QJ.round_exit (fun hy => ?_)
          subst hy
          refine QJ.block_hit ?_
          exact QJ.cut_normal (d15, z14) hmo22 [0] (by exact ⟨rfl, trivial⟩) rfl rfl
    ·
      refine JC.condT' rfl (congrArg Bool.not (decide_eq_false h11)) ?_
      refine JC.seq ?_
      refine JC.region ?_
      refine JL.ent (fun _ hs => hs.nil 5 (Enc.int .u8)) ?_
      refine JL.val (v := SlV.nil.v) (QV.assign rfl) rfl rfl rfl ?_
      refine JL.val (v := .int .i64 (13 : Int)) (QV.assign rfl) rfl rfl rfl ?_
      refine JL.nil ?_
      refine QJ.then_normal ?_
      refine JC.ret ?_
      refine QJ.block_ret ?_
      refine QJ.then_ret ?_
      obtain rfl := Option.some.inj hm
      exact QJ.body (vs := [SlV.nil.v, .int .i64 (13 : Int)]) (.inl rfl) rfl (ResVs.cons (ResV.tmp rfl) (ResVs.cons (ResV.tmp rfl) ResVs.nil)) [0] rfl rfl (.inr ⟨own_of _ _ _ _, trivial⟩) ⟨(SlV.nil), rfl, rfl⟩

/-! ### 4: drogher/drogherlaw16.PlanSources -/
noncomputable def F4.m (x2 : List Int) (x3 : Int) (x4 : Int) : Option Bool :=
  (if (2000 : Int) < ((x2).length : Int) then ((F15.m).bind fun y7 => some y7) else ((F18.m (x2) (x3) (x4)).bind fun y9 => (if x3 < (0 : Int) then (if ((y9.1).length : Int) = (0 : Int) then (if y9.2 = (5 : Int) then ((F15.m).bind fun y15 => some y15) else some false) else some false) else (if x4 < (0 : Int) then (if ((y9.1).length : Int) = (0 : Int) then (if y9.2 = (5 : Int) then ((F15.m).bind fun y20 => some y20) else some false) else some false) else (if ((x2).length : Int) < x3 then (if ((y9.1).length : Int) = (0 : Int) then (if y9.2 = (5 : Int) then ((F15.m).bind fun y25 => some y25) else some false) else some false) else (if (IntKind.wrap .i64 (((x2).length : Int) - x3)) < x4 then (if ((y9.1).length : Int) = (0 : Int) then (if y9.2 = (5 : Int) then ((F15.m).bind fun y30 => some y30) else some false) else some false) else (if y9.2 = (0 : Int) then (if 0 ≤ x3 ∧ x3 ≤ (IntKind.wrap .i64 (x3 + x4)) ∧ (IntKind.wrap .i64 (x3 + x4)) ≤ ((x2).length : Int) then (if (strOfNums y9.1) = (strOfNums (subL x2 x3 (IntKind.wrap .i64 (x3 + x4)))) then ((F16_1.m ([((2 : Int), (0 : Int), (1 : Int), ([] : List Int))]) ((1 : Int))).bind fun y36 => ((F16_1.m ([((1 : Int), (0 : Int), (1 : Int), [(7 : Int)])]) ((1 : Int))).bind fun y41 => (if y36.2 = (5 : Int) then (if y41.2 = (0 : Int) then (if (strOfNums y41.1) = (⟨#[7]⟩ : ByteArray) then ((F15.m).bind fun y47 => some y47) else some false) else some false) else some false))) else some false) else none) else some false)))))))
set_option maxRecDepth 100000 in
set_option maxHeartbeats 4000000 in
theorem F4.spec (s1 : SlV) (x2 : List Int) (x3 : Int) (x4 : Int) (r : Bool) (hm : F4.m x2 x3 x4 = some r) :
    Ctr Try.prog false 4 [s1.v, .int .i64 x3, .int .i64 x4] [Asr.vw (Enc.int .u8) (s1.v) x2] (fun v L' => v = .bool r ∧ L' = []) := by
  refine Ctr.intro (n := 95) (env := [(0, s1.v), (1, .int .i64 x3), (2, .int .i64 x4)]) Try.func4 rfl rfl rfl rfl (fun c => ?_)
  unfold F4.m at hm
  refine JC.seq ?_
  refine JC.region ?_
  refine JL.val (v := .bool false) (QV.assign rfl) rfl rfl rfl ?_
  refine JL.nil ?_
  refine QJ.then_normal ?_
  refine JC.seq ?_
  refine JC.seq ?_
  refine JC.region ?_
  refine JL.val (v := s1.v) (QV.move rfl) rfl rfl rfl ?_
  refine JL.val (v := .int .i64 ((x2).length : Int)) (QV.len (Rdg.vw 0 rfl) Try.underlying23 rfl) rfl rfl rfl ?_
  refine JL.val (v := .bool (decide ((2000 : Int) < ((x2).length : Int)))) (QV.gtr rfl rfl) rfl rfl rfl ?_
  refine JL.nil ?_
  refine QJ.then_normal ?_
  rcases ite_inv hm with ⟨h6, hm⟩ | ⟨h6, hm⟩
  ·
    refine JC.condT' rfl (decide_eq_true h6) ?_
    refine JC.seq ?_
    refine JC.region ?_
    obtain ⟨y7, hc8, hm⟩ := bind_inv hm
    refine JL.mv (d := some 16) (MV.call (Lo := []) (Lr := [Asr.vw (Enc.int .u8) (s1.v) x2]) (F15.spec _ hc8) rfl Try.func15 rfl rfl rfl [] [0] rfl rfl rfl trivial) rfl rfl rfl ?_
    rintro _ _ ⟨_, ⟨rfl, rfl⟩, rfl⟩
    refine JL.val (v := .bool y7) (QV.assign rfl) rfl rfl rfl ?_
    refine JL.nil ?_
    refine QJ.then_normal ?_
    refine JC.ret ?_
    refine QJ.then_ret ?_
    obtain rfl := Option.some.inj hm
    exact QJ.body (vs := [.bool y7]) (.inl rfl) rfl (ResVs.cons (ResV.tmp rfl) ResVs.nil) [] rfl rfl (.inr trivial) ⟨rfl, rfl⟩
  ·
    refine JC.condF' rfl (decide_eq_false h6) ?_
    refine JC.skip ?_
    refine QJ.then_normal ?_
    refine JC.seq ?_
    refine JC.region ?_
    refine JL.val (v := s1.v) (QV.move rfl) rfl rfl rfl ?_
    refine JL.val (v := .int .i64 x3) (QV.move rfl) rfl rfl rfl ?_
    refine JL.val (v := .int .i64 x4) (QV.move rfl) rfl rfl rfl ?_
    obtain ⟨y9, hc10, hm⟩ := bind_inv hm
    refine JL.mv (d := some 21) (MV.call (Lo := []) (Lr := [Asr.vw (Enc.int .u8) (s1.v) x2]) (F18.spec (s1) (x2) (x3) (x4) _ hc10) rfl Try.func18 rfl rfl rfl [] [0] rfl rfl rfl ⟨(Drv.vw 0 rfl), trivial⟩) rfl rfl rfl ?_
    rintro _ _ ⟨_, ⟨z11, rfl, rfl⟩, rfl⟩
    refine JL.val (v := .tuple #[z11.v, .int .i64 y9.2]) (QV.move rfl) rfl rfl rfl ?_
    refine JL.val (v := z11.v) (QV.extract (vs := [z11.v, .int .i64 y9.2]) rfl rfl) rfl rfl rfl ?_
    refine JL.val (v := .int .i64 y9.2) (QV.extract (vs := [z11.v, .int .i64 y9.2]) rfl rfl) rfl rfl rfl ?_
    refine JL.val (v := z11.v) (QV.assign rfl) rfl rfl rfl ?_
    refine JL.val (v := .int .i64 y9.2) (QV.assign rfl) rfl rfl rfl ?_
    refine JL.nil ?_
    refine QJ.then_normal ?_
    refine JC.seq ?_
    refine JC.seq ?_
    refine JC.region ?_
    refine JL.val (v := .int .i64 x3) (QV.move rfl) rfl rfl rfl ?_
    refine JL.val (v := .bool (decide (x3 < (0 : Int)))) (QV.lss rfl rfl) rfl rfl rfl ?_
    rcases ite_inv hm with ⟨h12, hm⟩ | ⟨h12, hm⟩
    ·
      refine JL.val (v := .bool true) (QV.eq (QV.move rfl) (congrArg Value.bool (decide_eq_true h12))) rfl rfl rfl ?_
      refine JL.skip (d := some 27) rfl rfl rfl ?_
      refine JL.skip (d := some 28) rfl rfl rfl ?_
      refine JL.val (v := .bool true) (QV.pickT rfl rfl) rfl rfl rfl ?_
      refine JL.val (v := .bool true) (QV.move rfl) rfl rfl rfl ?_
      refine JL.skip (d := some 31) rfl rfl rfl ?_
      refine JL.skip (d := some 32) rfl rfl rfl ?_
      refine JL.skip (d := some 33) rfl rfl rfl ?_
      refine JL.skip (d := some 34) rfl rfl rfl ?_
      refine JL.val (v := .bool true) (QV.pickT rfl rfl) rfl rfl rfl ?_
      refine JL.val (v := .bool true) (QV.move rfl) rfl rfl rfl ?_
      refine JL.skip (d := some 37) rfl rfl rfl ?_
      refine JL.skip (d := some 38) rfl rfl rfl ?_
      refine JL.skip (d := some 39) rfl rfl rfl ?_
      refine JL.skip (d := some 40) rfl rfl rfl ?_
      refine JL.skip (d := some 41) rfl rfl rfl ?_
      refine JL.skip (d := some 42) rfl rfl rfl ?_
      refine JL.val (v := .bool true) (QV.pickT rfl rfl) rfl rfl rfl ?_
      refine JL.nil ?_
      refine QJ.then_normal ?_
      refine JC.condT rfl ?_
      refine JC.seq ?_
      refine JC.region ?_
      refine JL.val (v := z11.v) (QV.move rfl) rfl rfl rfl ?_
      refine JL.val (v := .int .i64 ((y9.1).length : Int)) (QV.len (Rdg.of 0 rfl) Try.underlying23 rfl) rfl rfl rfl ?_
      refine JL.val (v := .bool (decide (((y9.1).length : Int) = (0 : Int)))) (QV.eql rfl rfl) rfl rfl rfl ?_
      rcases ite_inv hm with ⟨h13, hm⟩ | ⟨h13, hm⟩
      ·
        refine JL.val (v := .bool true) (QV.eq (QV.move rfl) (congrArg Value.bool (decide_eq_true h13))) rfl rfl rfl ?_
        refine JL.val (v := .int .i64 y9.2) (QV.move rfl) rfl rfl rfl ?_
        refine JL.val (v := .bool (decide (y9.2 = (5 : Int)))) (QV.eql rfl rfl) rfl rfl rfl ?_
        refine JL.val (v := .bool (decide (y9.2 = (5 : Int)))) (QV.pickT rfl rfl) rfl rfl rfl ?_
        rcases ite_inv hm with ⟨h14, hm⟩ | ⟨h14, hm⟩
        ·
          refine JL.val (v := .bool true) (QV.eq (QV.move rfl) (congrArg Value.bool (decide_eq_true h14))) rfl rfl rfl ?_
          obtain ⟨y15, hc16, hm⟩ := bind_inv hm
          refine JL.mv (d := some 52) (MV.call (Lo := []) (Lr := [Asr.of 5 (Enc.int .u8) (z11.v) y9.1, Asr.vw (Enc.int .u8) (s1.v) x2]) (F15.spec _ hc16) rfl Try.func15 rfl rfl rfl [] [0, 1] rfl rfl rfl trivial) rfl rfl rfl ?_
          rintro _ _ ⟨_, ⟨rfl, rfl⟩, rfl⟩
          refine JL.val (v := .bool y15) (QV.pickT rfl rfl) rfl rfl rfl ?_
          refine JL.val (v := .bool y15) (QV.assign rfl) rfl rfl rfl ?_
          refine JL.nil ?_
          refine QJ.then_normal ?_
          refine JC.ret ?_
          refine QJ.then_ret ?_
          obtain rfl := Option.some.inj hm
          exact QJ.body (vs := [.bool y15]) (.inl rfl) rfl (ResVs.cons (ResV.tmp rfl) ResVs.nil) [] rfl rfl (.inr trivial) ⟨rfl, rfl⟩
        ·
          refine JL.val (v := .bool false) (QV.eq (QV.move rfl) (congrArg Value.bool (decide_eq_false h14))) rfl rfl rfl ?_
          refine JL.skip (d := some 52) rfl rfl rfl ?_
          refine JL.val (v := .bool false) (QV.pickF rfl rfl) rfl rfl rfl ?_
          refine JL.val (v := .bool false) (QV.assign rfl) rfl rfl rfl ?_
          refine JL.nil ?_
          refine QJ.then_normal ?_
          refine JC.ret ?_
          refine QJ.then_ret ?_
          obtain rfl := Option.some.inj hm
          exact QJ.body (vs := [.bool false]) (.inl rfl) rfl (ResVs.cons (ResV.tmp rfl) ResVs.nil) [] rfl rfl (.inr trivial) ⟨rfl, rfl⟩
      ·
        refine JL.val (v := .bool false) (QV.eq (QV.move rfl) (congrArg Value.bool (decide_eq_false h13))) rfl rfl rfl ?_
        refine JL.skip (d := some 48) rfl rfl rfl ?_
        refine JL.skip (d := some 49) rfl rfl rfl ?_
        refine JL.val (v := .bool false) (QV.pickF rfl rfl) rfl rfl rfl ?_
        refine JL.val (v := .bool false) (QV.move rfl) rfl rfl rfl ?_
        refine JL.skip (d := some 52) rfl rfl rfl ?_
        refine JL.val (v := .bool false) (QV.pickF rfl rfl) rfl rfl rfl ?_
        refine JL.val (v := .bool false) (QV.assign rfl) rfl rfl rfl ?_
        refine JL.nil ?_
        refine QJ.then_normal ?_
        refine JC.ret ?_
        refine QJ.then_ret ?_
        obtain rfl := Option.some.inj hm
        exact QJ.body (vs := [.bool false]) (.inl rfl) rfl (ResVs.cons (ResV.tmp rfl) ResVs.nil) [] rfl rfl (.inr trivial) ⟨rfl, rfl⟩
    ·
      refine JL.val (v := .bool false) (QV.eq (QV.move rfl) (congrArg Value.bool (decide_eq_false h12))) rfl rfl rfl ?_
      refine JL.val (v := .int .i64 x4) (QV.move rfl) rfl rfl rfl ?_
      refine JL.val (v := .bool (decide (x4 < (0 : Int)))) (QV.lss rfl rfl) rfl rfl rfl ?_
      refine JL.val (v := .bool (decide (x4 < (0 : Int)))) (QV.pickF rfl rfl) rfl rfl rfl ?_
      rcases ite_inv hm with ⟨h17, hm⟩ | ⟨h17, hm⟩
      ·
        refine JL.val (v := .bool true) (QV.eq (QV.move rfl) (congrArg Value.bool (decide_eq_true h17))) rfl rfl rfl ?_
        refine JL.skip (d := some 31) rfl rfl rfl ?_
        refine JL.skip (d := some 32) rfl rfl rfl ?_
        refine JL.skip (d := some 33) rfl rfl rfl ?_
        refine JL.skip (d := some 34) rfl rfl rfl ?_
        refine JL.val (v := .bool true) (QV.pickT rfl rfl) rfl rfl rfl ?_
        refine JL.val (v := .bool true) (QV.move rfl) rfl rfl rfl ?_
        refine JL.skip (d := some 37) rfl rfl rfl ?_
        refine JL.skip (d := some 38) rfl rfl rfl ?_
        refine JL.skip (d := some 39) rfl rfl rfl ?_
        refine JL.skip (d := some 40) rfl rfl rfl ?_
        refine JL.skip (d := some 41) rfl rfl rfl ?_
        refine JL.skip (d := some 42) rfl rfl rfl ?_
        refine JL.val (v := .bool true) (QV.pickT rfl rfl) rfl rfl rfl ?_
        refine JL.nil ?_
        refine QJ.then_normal ?_
        refine JC.condT rfl ?_
        refine JC.seq ?_
        refine JC.region ?_
        refine JL.val (v := z11.v) (QV.move rfl) rfl rfl rfl ?_
        refine JL.val (v := .int .i64 ((y9.1).length : Int)) (QV.len (Rdg.of 0 rfl) Try.underlying23 rfl) rfl rfl rfl ?_
        refine JL.val (v := .bool (decide (((y9.1).length : Int) = (0 : Int)))) (QV.eql rfl rfl) rfl rfl rfl ?_
        rcases ite_inv hm with ⟨h18, hm⟩ | ⟨h18, hm⟩
        ·
          refine JL.val (v := .bool true) (QV.eq (QV.move rfl) (congrArg Value.bool (decide_eq_true h18))) rfl rfl rfl ?_
          refine JL.val (v := .int .i64 y9.2) (QV.move rfl) rfl rfl rfl ?_
          refine JL.val (v := .bool (decide (y9.2 = (5 : Int)))) (QV.eql rfl rfl) rfl rfl rfl ?_
          refine JL.val (v := .bool (decide (y9.2 = (5 : Int)))) (QV.pickT rfl rfl) rfl rfl rfl ?_
          rcases ite_inv hm with ⟨h19, hm⟩ | ⟨h19, hm⟩
          ·
            refine JL.val (v := .bool true) (QV.eq (QV.move rfl) (congrArg Value.bool (decide_eq_true h19))) rfl rfl rfl ?_
            obtain ⟨y20, hc21, hm⟩ := bind_inv hm
            refine JL.mv (d := some 52) (MV.call (Lo := []) (Lr := [Asr.of 5 (Enc.int .u8) (z11.v) y9.1, Asr.vw (Enc.int .u8) (s1.v) x2]) (F15.spec _ hc21) rfl Try.func15 rfl rfl rfl [] [0, 1] rfl rfl rfl trivial) rfl rfl rfl ?_
            rintro _ _ ⟨_, ⟨rfl, rfl⟩, rfl⟩
            refine JL.val (v := .bool y20) (QV.pickT rfl rfl) rfl rfl rfl ?_
            refine JL.val (v := .bool y20) (QV.assign rfl) rfl rfl rfl ?_
            refine JL.nil ?_
            refine QJ.then_normal ?_
            refine JC.ret ?_
            refine QJ.then_ret ?_
            obtain rfl := Option.some.inj hm
            exact QJ.body (vs := [.bool y20]) (.inl rfl) rfl (ResVs.cons (ResV.tmp rfl) ResVs.nil) [] rfl rfl (.inr trivial) ⟨rfl, rfl⟩
          ·
            refine JL.val (v := .bool false) (QV.eq (QV.move rfl) (congrArg Value.bool (decide_eq_false h19))) rfl rfl rfl ?_
            refine JL.skip (d := some 52) rfl rfl rfl ?_
            refine JL.val (v := .bool false) (QV.pickF rfl rfl) rfl rfl rfl ?_
            refine JL.val (v := .bool false) (QV.assign rfl) rfl rfl rfl ?_
            refine JL.nil ?_
            refine QJ.then_normal ?_
            refine JC.ret ?_
            refine QJ.then_ret ?_
            obtain rfl := Option.some.inj hm
            exact QJ.body (vs := [.bool false]) (.inl rfl) rfl (ResVs.cons (ResV.tmp rfl) ResVs.nil) [] rfl rfl (.inr trivial) ⟨rfl, rfl⟩
        ·
          refine JL.val (v := .bool false) (QV.eq (QV.move rfl) (congrArg Value.bool (decide_eq_false h18))) rfl rfl rfl ?_
          refine JL.skip (d := some 48) rfl rfl rfl ?_
          refine JL.skip (d := some 49) rfl rfl rfl ?_
          refine JL.val (v := .bool false) (QV.pickF rfl rfl) rfl rfl rfl ?_
          refine JL.val (v := .bool false) (QV.move rfl) rfl rfl rfl ?_
          refine JL.skip (d := some 52) rfl rfl rfl ?_
          refine JL.val (v := .bool false) (QV.pickF rfl rfl) rfl rfl rfl ?_
          refine JL.val (v := .bool false) (QV.assign rfl) rfl rfl rfl ?_
          refine JL.nil ?_
          refine QJ.then_normal ?_
          refine JC.ret ?_
          refine QJ.then_ret ?_
          obtain rfl := Option.some.inj hm
          exact QJ.body (vs := [.bool false]) (.inl rfl) rfl (ResVs.cons (ResV.tmp rfl) ResVs.nil) [] rfl rfl (.inr trivial) ⟨rfl, rfl⟩
      ·
        refine JL.val (v := .bool false) (QV.eq (QV.move rfl) (congrArg Value.bool (decide_eq_false h17))) rfl rfl rfl ?_
        refine JL.val (v := .int .i64 x3) (QV.move rfl) rfl rfl rfl ?_
        refine JL.val (v := s1.v) (QV.move rfl) rfl rfl rfl ?_
        refine JL.val (v := .int .i64 ((x2).length : Int)) (QV.len (Rdg.vw 1 rfl) Try.underlying23 rfl) rfl rfl rfl ?_
        refine JL.val (v := .bool (decide (((x2).length : Int) < x3))) (QV.gtr rfl rfl) rfl rfl rfl ?_
        refine JL.val (v := .bool (decide (((x2).length : Int) < x3))) (QV.pickF rfl rfl) rfl rfl rfl ?_
        rcases ite_inv hm with ⟨h22, hm⟩ | ⟨h22, hm⟩
        ·
          refine JL.val (v := .bool true) (QV.eq (QV.move rfl) (congrArg Value.bool (decide_eq_true h22))) rfl rfl rfl ?_
          refine JL.skip (d := some 37) rfl rfl rfl ?_
          refine JL.skip (d := some 38) rfl rfl rfl ?_
          refine JL.skip (d := some 39) rfl rfl rfl ?_
          refine JL.skip (d := some 40) rfl rfl rfl ?_
          refine JL.skip (d := some 41) rfl rfl rfl ?_
          refine JL.skip (d := some 42) rfl rfl rfl ?_
          refine JL.val (v := .bool true) (QV.pickT rfl rfl) rfl rfl rfl ?_
          refine JL.nil ?_
          refine QJ.then_normal ?_
          refine JC.condT rfl ?_
          refine JC.seq ?_
          refine JC.region ?_
          refine JL.val (v := z11.v) (QV.move rfl) rfl rfl rfl ?_
          refine JL.val (v := .int .i64 ((y9.1).length : Int)) (QV.len (Rdg.of 0 rfl) Try.underlying23 rfl) rfl rfl rfl ?_
          refine JL.val (v := .bool (decide (((y9.1).length : Int) = (0 : Int)))) (QV.eql rfl rfl) rfl rfl rfl ?_
          rcases ite_inv hm with ⟨h23, hm⟩ | ⟨h23, hm⟩
          ·
            refine JL.val (v := .bool true) (QV.eq (QV.move rfl) (congrArg Value.bool (decide_eq_true h23))) rfl rfl rfl ?_
            refine JL.val (v := .int .i64 y9.2) (QV.move rfl) rfl rfl rfl ?_
            refine JL.val (v := .bool (decide (y9.2 = (5 : Int)))) (QV.eql rfl rfl) rfl rfl rfl ?_
            refine JL.val (v := .bool (decide (y9.2 = (5 : Int)))) (QV.pickT rfl rfl) rfl rfl rfl ?_
            rcases ite_inv hm with ⟨h24, hm⟩ | ⟨h24, hm⟩
            ·
              refine JL.val (v := .bool true) (QV.eq (QV.move rfl) (congrArg Value.bool (decide_eq_true h24))) rfl rfl rfl ?_
              obtain ⟨y25, hc26, hm⟩ := bind_inv hm
              refine JL.mv (d := some 52) (MV.call (Lo := []) (Lr := [Asr.of 5 (Enc.int .u8) (z11.v) y9.1, Asr.vw (Enc.int .u8) (s1.v) x2]) (F15.spec _ hc26) rfl Try.func15 rfl rfl rfl [] [0, 1] rfl rfl rfl trivial) rfl rfl rfl ?_
              rintro _ _ ⟨_, ⟨rfl, rfl⟩, rfl⟩
              refine JL.val (v := .bool y25) (QV.pickT rfl rfl) rfl rfl rfl ?_
              refine JL.val (v := .bool y25) (QV.assign rfl) rfl rfl rfl ?_
              refine JL.nil ?_
              refine QJ.then_normal ?_
              refine JC.ret ?_
              refine QJ.then_ret ?_
              obtain rfl := Option.some.inj hm
              exact QJ.body (vs := [.bool y25]) (.inl rfl) rfl (ResVs.cons (ResV.tmp rfl) ResVs.nil) [] rfl rfl (.inr trivial) ⟨rfl, rfl⟩
            ·
              refine JL.val (v := .bool false) (QV.eq (QV.move rfl) (congrArg Value.bool (decide_eq_false h24))) rfl rfl rfl ?_
              refine JL.skip (d := some 52) rfl rfl rfl ?_
              refine JL.val (v := .bool false) (QV.pickF rfl rfl) rfl rfl rfl ?_
              refine JL.val (v := .bool false) (QV.assign rfl) rfl rfl rfl ?_
              refine JL.nil ?_
              refine QJ.then_normal ?_
              refine JC.ret ?_
              refine QJ.then_ret ?_
              obtain rfl := Option.some.inj hm
              exact QJ.body (vs := [.bool false]) (.inl rfl) rfl (ResVs.cons (ResV.tmp rfl) ResVs.nil) [] rfl rfl (.inr trivial) ⟨rfl, rfl⟩
          ·
            refine JL.val (v := .bool false) (QV.eq (QV.move rfl) (congrArg Value.bool (decide_eq_false h23))) rfl rfl rfl ?_
            refine JL.skip (d := some 48) rfl rfl rfl ?_
            refine JL.skip (d := some 49) rfl rfl rfl ?_
            refine JL.val (v := .bool false) (QV.pickF rfl rfl) rfl rfl rfl ?_
            refine JL.val (v := .bool false) (QV.move rfl) rfl rfl rfl ?_
            refine JL.skip (d := some 52) rfl rfl rfl ?_
            refine JL.val (v := .bool false) (QV.pickF rfl rfl) rfl rfl rfl ?_
            refine JL.val (v := .bool false) (QV.assign rfl) rfl rfl rfl ?_
            refine JL.nil ?_
            refine QJ.then_normal ?_
            refine JC.ret ?_
            refine QJ.then_ret ?_
            obtain rfl := Option.some.inj hm
            exact QJ.body (vs := [.bool false]) (.inl rfl) rfl (ResVs.cons (ResV.tmp rfl) ResVs.nil) [] rfl rfl (.inr trivial) ⟨rfl, rfl⟩
        ·
          refine JL.val (v := .bool false) (QV.eq (QV.move rfl) (congrArg Value.bool (decide_eq_false h22))) rfl rfl rfl ?_
          refine JL.val (v := .int .i64 x4) (QV.move rfl) rfl rfl rfl ?_
          refine JL.val (v := s1.v) (QV.move rfl) rfl rfl rfl ?_
          refine JL.val (v := .int .i64 ((x2).length : Int)) (QV.len (Rdg.vw 1 rfl) Try.underlying23 rfl) rfl rfl rfl ?_
          refine JL.val (v := .int .i64 x3) (QV.move rfl) rfl rfl rfl ?_
          refine JL.val (v := .int .i64 (IntKind.wrap .i64 (((x2).length : Int) - x3))) (QV.sub rfl rfl) rfl rfl rfl ?_
          refine JL.val (v := .bool (decide ((IntKind.wrap .i64 (((x2).length : Int) - x3)) < x4))) (QV.gtr rfl rfl) rfl rfl rfl ?_
          refine JL.val (v := .bool (decide ((IntKind.wrap .i64 (((x2).length : Int) - x3)) < x4))) (QV.pickF rfl rfl) rfl rfl rfl ?_
          refine JL.nil ?_
          refine QJ.then_normal ?_
          rcases ite_inv hm with ⟨h27, hm⟩ | ⟨h27, hm⟩
          ·
            refine JC.condT' rfl (decide_eq_true h27) ?_
            refine JC.seq ?_
            refine JC.region ?_
            refine JL.val (v := z11.v) (QV.move rfl) rfl rfl rfl ?_
            refine JL.val (v := .int .i64 ((y9.1).length : Int)) (QV.len (Rdg.of 0 rfl) Try.underlying23 rfl) rfl rfl rfl ?_
            refine JL.val (v := .bool (decide (((y9.1).length : Int) = (0 : Int)))) (QV.eql rfl rfl) rfl rfl rfl ?_
            rcases ite_inv hm with ⟨h28, hm⟩ | ⟨h28, hm⟩
            ·
              refine JL.val (v := .bool true) (QV.eq (QV.move rfl) (congrArg Value.bool (decide_eq_true h28))) rfl rfl rfl ?_
              refine JL.val (v := .int .i64 y9.2) (QV.move rfl) rfl rfl rfl ?_
              refine JL.val (v := .bool (decide (y9.2 = (5 : Int)))) (QV.eql rfl rfl) rfl rfl rfl ?_
              refine JL.val (v := .bool (decide (y9.2 = (5 : Int)))) (QV.pickT rfl rfl) rfl rfl rfl ?_
              rcases ite_inv hm with ⟨h29, hm⟩ | ⟨h29, hm⟩
              ·
                refine JL.val (v := .bool true) (QV.eq (QV.move rfl) (congrArg Value.bool (decide_eq_true h29))) rfl rfl rfl ?_
                obtain ⟨y30, hc31, hm⟩ := bind_inv hm
                refine JL.mv (d := some 52) (MV.call (Lo := []) (Lr := [Asr.of 5 (Enc.int .u8) (z11.v) y9.1, Asr.vw (Enc.int .u8) (s1.v) x2]) (F15.spec _ hc31) rfl Try.func15 rfl rfl rfl [] [0, 1] rfl rfl rfl trivial) rfl rfl rfl ?_
                rintro _ _ ⟨_, ⟨rfl, rfl⟩, rfl⟩
                refine JL.val (v := .bool y30) (QV.pickT rfl rfl) rfl rfl rfl ?_
                refine JL.val (v := .bool y30) (QV.assign rfl) rfl rfl rfl ?_
                refine JL.nil ?_
                refine QJ.then_normal ?_
                refine JC.ret ?_
                refine QJ.then_ret ?_
                obtain rfl := Option.some.inj hm
                exact QJ.body (vs := [.bool y30]) (.inl rfl) rfl (ResVs.cons (ResV.tmp rfl) ResVs.nil) [] rfl rfl (.inr trivial) ⟨rfl, rfl⟩
              ·
                refine JL.val (v := .bool false) (QV.eq (QV.move rfl) (congrArg Value.bool (decide_eq_false h29))) rfl rfl rfl ?_
                refine JL.skip (d := some 52) rfl rfl rfl ?_
                refine JL.val (v := .bool false) (QV.pickF rfl rfl) rfl rfl rfl ?_
                refine JL.val (v := .bool false) (QV.assign rfl) rfl rfl rfl ?_
                refine JL.nil ?_
                refine QJ.then_normal ?_
                refine JC.ret ?_
                refine QJ.then_ret ?_
                obtain rfl := Option.some.inj hm
                exact QJ.body (vs := [.bool false]) (.inl rfl) rfl (ResVs.cons (ResV.tmp rfl) ResVs.nil) [] rfl rfl (.inr trivial) ⟨rfl, rfl⟩
            ·
              refine JL.val (v := .bool false) (QV.eq (QV.move rfl) (congrArg Value.bool (decide_eq_false h28))) rfl rfl rfl ?_
              refine JL.skip (d := some 48) rfl rfl rfl ?_
              refine JL.skip (d := some 49) rfl rfl rfl ?_
              refine JL.val (v := .bool false) (QV.pickF rfl rfl) rfl rfl rfl ?_
              refine JL.val (v := .bool false) (QV.move rfl) rfl rfl rfl ?_
              refine JL.skip (d := some 52) rfl rfl rfl ?_
              refine JL.val (v := .bool false) (QV.pickF rfl rfl) rfl rfl rfl ?_
              refine JL.val (v := .bool false) (QV.assign rfl) rfl rfl rfl ?_
              refine JL.nil ?_
              refine QJ.then_normal ?_
              refine JC.ret ?_
              refine QJ.then_ret ?_
              obtain rfl := Option.some.inj hm
              exact QJ.body (vs := [.bool false]) (.inl rfl) rfl (ResVs.cons (ResV.tmp rfl) ResVs.nil) [] rfl rfl (.inr trivial) ⟨rfl, rfl⟩
          ·
            refine JC.condF' rfl (decide_eq_false h27) ?_
            refine JC.skip ?_
            refine QJ.then_normal ?_
            refine JC.seq ?_
            refine JC.seq ?_
            refine JC.regionT [Asr.of 5 (Enc.int .u8) (z11.v) y9.1, Asr.vw (Enc.int .u8) (s1.v) x2] (fun t => false) [(0, false), (1, false), (2, false), (3, true), (4, true), (5, true), (6, true), (7, true), (8, false), (9, false), (10, false), (11, false), (12, false), (13, false)] (by kernel_rfl) (by kernel_rfl) (by kernel_rfl) rfl (fun hsel => ?_)
            refine JT.only (i := 0) (d := some 54) rfl (MV.ofQV (v := .int .i64 y9.2) (QV.move rfl)) rfl rfl rfl ?_
            rintro _ _ ⟨rfl, rfl⟩
            refine ⟨fun _ => ⟨[0, 1], rfl, rfl⟩, ?_⟩
            refine JT.only (i := 1) (d := some 55) rfl (MV.ofQV (v := .bool (!(decide (y9.2 = (0 : Int))))) (QV.neq rfl rfl)) rfl rfl rfl ?_
            rintro _ _ ⟨rfl, rfl⟩
            refine ⟨fun _ => ⟨[0, 1], rfl, rfl⟩, ?_⟩
            rcases ite_inv hm with ⟨h32, hm⟩ | ⟨h32, hm⟩
            ·
              refine JT.only (i := 2) (d := some 56) rfl (MV.ofQV (v := .bool false) (QV.eq (QV.move rfl) (congrArg Value.bool (congrArg Bool.not (decide_eq_true h32))))) rfl rfl rfl ?_
              rintro _ _ ⟨rfl, rfl⟩
              refine ⟨fun _ => ⟨[0, 1], rfl, rfl⟩, ?_⟩
              refine JT.take (i := 3) (v := z11.v) hsel rfl (QV.move rfl) rfl rfl rfl [0, 1] rfl rfl ?_
              refine JT.take (i := 4) (v := .string (strOfNums y9.1)) hsel rfl (QV.str (Rdg.of 0 rfl) Try.underlying23 Try.underlying5 Try.underlying9 rfl) rfl rfl rfl [0, 1] rfl rfl ?_
              refine JT.take (i := 5) (v := s1.v) hsel rfl (QV.move rfl) rfl rfl rfl [0, 1] rfl rfl ?_
              refine JT.take (i := 6) (v := .int .i64 x3) hsel rfl (QV.move rfl) rfl rfl rfl [0, 1] rfl rfl ?_
              refine JT.take (i := 7) (v := .int .i64 x3) hsel rfl (QV.move rfl) rfl rfl rfl [0, 1] rfl rfl ?_
              refine JT.only (i := 8) (d := some 62) rfl (MV.ofQV (v := .int .i64 x4) (QV.move rfl)) rfl rfl rfl ?_
              rintro _ _ ⟨rfl, rfl⟩
              refine ⟨fun _ => ⟨[0, 1], rfl, rfl⟩, ?_⟩
              refine JT.only (i := 9) (d := some 63) rfl (MV.ofQV (v := .int .i64 (IntKind.wrap .i64 (x3 + x4))) (QV.add rfl rfl)) rfl rfl rfl ?_
              rintro _ _ ⟨rfl, rfl⟩
              refine ⟨fun _ => ⟨[0, 1], rfl, rfl⟩, ?_⟩
              obtain ⟨h33, hm⟩ := guard_inv hm
              refine JT.only (i := 10) (d := some 64) rfl (MV.ofQV (v := (SlV.sub ((Enc.int .u8)).sz s1 x3 (IntKind.wrap .i64 (x3 + x4))).v) (QV.sliceV (Rdg.vw 1 rfl) Try.underlying23 tk_5 rfl rfl rfl h33)) rfl rfl rfl ?_
              rintro _ _ ⟨rfl, rfl⟩
              refine ⟨fun _ => ⟨[0, 1], rfl, rfl⟩, ?_⟩
              refine JT.only (i := 11) (d := some 65) rfl (MV.ofQV (v := .string (strOfNums (subL x2 x3 (IntKind.wrap .i64 (x3 + x4))))) (QV.str (Rdg.ofDrv ((Drv.vw 1 rfl).subV h33)) Try.underlying23 Try.underlying5 Try.underlying9 rfl)) rfl rfl rfl ?_
              rintro _ _ ⟨rfl, rfl⟩
              refine ⟨fun _ => ⟨[0, 1], rfl, rfl⟩, ?_⟩
              refine JT.only (i := 12) (d := some 66) rfl (MV.ofQV (v := .bool (!(decide ((strOfNums y9.1) = (strOfNums (subL x2 x3 (IntKind.wrap .i64 (x3 + x4)))))))) (QV.neqS rfl rfl)) rfl rfl rfl ?_
              rintro _ _ ⟨rfl, rfl⟩
              refine ⟨fun _ => ⟨[0, 1], rfl, rfl⟩, ?_⟩
              refine JT.only (i := 13) (d := some 67) rfl (MV.ofQV (v := .bool (!(decide ((strOfNums y9.1) = (strOfNums (subL x2 x3 (IntKind.wrap .i64 (x3 + x4)))))))) (QV.pickF rfl rfl)) rfl rfl rfl ?_
              rintro _ _ ⟨rfl, rfl⟩
              refine ⟨fun _ => ⟨[0, 1], rfl, rfl⟩, ?_⟩
              refine JT.nil ?_
              refine QJ.then_normal ?_
              rcases ite_inv hm with ⟨h34, hm⟩ | ⟨h34, hm⟩
              ·
                refine JC.condF' rfl (congrArg Bool.not (decide_eq_true h34)) ?_
                refine JC.skip ?_
                refine QJ.then_normal ?_
                refine JC.seq ?_
                refine JC.region ?_
                refine JL.ent (fun _ hs => hs.nil 5 (Enc.int .u8)) ?_
                refine JL.val (v := .agg #[.int .u8 (2 : Int), .int .i64 (0 : Int), .int .i64 (1 : Int), SlV.nil.v]) (QV.build (vals := [(0, .int .u8 (2 : Int)), (2, .int .i64 (1 : Int))]) rfl (by kernel_rfl)) rfl rfl rfl ?_
                refine JL.ent (fun _ hs => hs.share 0 rfl) ?_
                refine JL.mv (d := some 70) (MV.litV (K := (NE.pair (NE.flat (Enc.int .u8)) (NE.pair (NE.flat (Enc.int .i64)) (NE.pair (NE.flat (Enc.int .i64)) (NE.sl (Enc.int .u8)))))) (vals := [(0, .agg #[.int .u8 (2 : Int), .int .i64 (0 : Int), .int .i64 (1 : Int), SlV.nil.v])]) [((), (), (), SlV.nil)] [((2 : Int), (0 : Int), (1 : Int), ([] : List Int))] Try.underlying22 zi_35 ⟨fun w F G hst => ⟨trivial, trivial, trivial, (ok_vw (Drv.vw 0 rfl) w F G hst)⟩, trivial⟩ rfl (by decide) rfl (by kernel_rfl)) rfl rfl rfl ?_
                rintro _ _ ⟨z35, rfl, rfl⟩
                obtain ⟨y36, hc37, hm⟩ := bind_inv hm
                refine JL.mv (d := some 71) (MV.call (Lo := []) (Lr := [Asr.onv 35 (NE.pair (NE.flat (Enc.int .u8)) (NE.pair (NE.flat (Enc.int .i64)) (NE.pair (NE.flat (Enc.int .i64)) (NE.sl (Enc.int .u8))))) (z35.v) [((), (), (), SlV.nil)] [((2 : Int), (0 : Int), (1 : Int), ([] : List Int))], Asr.vw (Enc.int .u8) (SlV.nil.v) ([] : List Int), Asr.of 5 (Enc.int .u8) (z11.v) y9.1, Asr.vw (Enc.int .u8) (s1.v) x2]) (F16_1.spec (z35) ([((), (), (), SlV.nil)]) ([((2 : Int), (0 : Int), (1 : Int), ([] : List Int))]) ((1 : Int)) _ hc37) rfl Try.func16 rfl rfl rfl [] [0, 1, 2, 3] rfl rfl rfl ⟨(Drv.onv 0 rfl), trivial⟩) rfl rfl rfl ?_
                rintro _ _ ⟨_, ⟨z38, rfl, rfl⟩, rfl⟩
                refine JL.val (v := .tuple #[z38.v, .int .i64 y36.2]) (QV.move rfl) rfl rfl rfl ?_
                refine JL.val (v := z38.v) (QV.extract (vs := [z38.v, .int .i64 y36.2]) rfl rfl) rfl rfl rfl ?_
                refine JL.val (v := .int .i64 y36.2) (QV.extract (vs := [z38.v, .int .i64 y36.2]) rfl rfl) rfl rfl rfl ?_
                refine JL.val (v := z38.v) (QV.assign rfl) rfl rfl rfl ?_
                refine JL.val (v := .int .i64 y36.2) (QV.assign rfl) rfl rfl rfl ?_
                refine JL.nil ?_
                refine QJ.then_normal ?_
                refine JC.seq ?_
                refine JC.region ?_
                refine JL.mv (d := some 75) (MV.lit (E := (Enc.int .u8)) (vals := [(0, .int .u8 (7 : Int))]) [(7 : Int)] Try.underlying23 zi_5 rfl (by decide) rfl (by kernel_rfl)) rfl rfl rfl ?_
                rintro _ _ ⟨z39, rfl, rfl⟩
                refine JL.ent (fun _ hs => hs.nil 5 (Enc.int .u8)) ?_
                refine JL.val (v := .agg #[.int .u8 (1 : Int), .int .i64 (0 : Int), .int .i64 (1 : Int), z39.v]) (QV.build (vals := [(0, .int .u8 (1 : Int)), (2, .int .i64 (1 : Int)), (3, z39.v)]) rfl (by kernel_rfl)) rfl rfl rfl ?_
                refine JL.ent (fun _ hs => hs.share 1 rfl) ?_
                refine JL.mv (d := some 77) (MV.litV (K := (NE.pair (NE.flat (Enc.int .u8)) (NE.pair (NE.flat (Enc.int .i64)) (NE.pair (NE.flat (Enc.int .i64)) (NE.sl (Enc.int .u8)))))) (vals := [(0, .agg #[.int .u8 (1 : Int), .int .i64 (0 : Int), .int .i64 (1 : Int), z39.v])]) [((), (), (), z39)] [((1 : Int), (0 : Int), (1 : Int), [(7 : Int)])] Try.underlying22 zi_35 ⟨fun w F G hst => ⟨trivial, trivial, trivial, (ok_vw (Drv.vw 1 rfl) w F G hst)⟩, trivial⟩ rfl (by decide) rfl (by kernel_rfl)) rfl rfl rfl ?_
                rintro _ _ ⟨z40, rfl, rfl⟩
                obtain ⟨y41, hc42, hm⟩ := bind_inv hm
                refine JL.mv (d := some 78) (MV.call (Lo := []) (Lr := [Asr.onv 35 (NE.pair (NE.flat (Enc.int .u8)) (NE.pair (NE.flat (Enc.int .i64)) (NE.pair (NE.flat (Enc.int .i64)) (NE.sl (Enc.int .u8))))) (z40.v) [((), (), (), z39)] [((1 : Int), (0 : Int), (1 : Int), [(7 : Int)])], Asr.of 5 (Enc.int .u8) (SlV.nil.v) ([] : List Int), Asr.vw (Enc.int .u8) (z39.v) [(7 : Int)], Asr.of 5 (Enc.int .u8) (z38.v) y36.1, Asr.onv 35 (NE.pair (NE.flat (Enc.int .u8)) (NE.pair (NE.flat (Enc.int .i64)) (NE.pair (NE.flat (Enc.int .i64)) (NE.sl (Enc.int .u8))))) (z35.v) [((), (), (), SlV.nil)] [((2 : Int), (0 : Int), (1 : Int), ([] : List Int))], Asr.vw (Enc.int .u8) (SlV.nil.v) ([] : List Int), Asr.of 5 (Enc.int .u8) (z11.v) y9.1, Asr.vw (Enc.int .u8) (s1.v) x2]) (F16_1.spec (z40) ([((), (), (), z39)]) ([((1 : Int), (0 : Int), (1 : Int), [(7 : Int)])]) ((1 : Int)) _ hc42) rfl Try.func16 rfl rfl rfl [] [0, 1, 2, 3, 4, 5, 6, 7] rfl rfl rfl ⟨(Drv.onv 0 rfl), trivial⟩) rfl rfl rfl ?_
                rintro _ _ ⟨_, ⟨z43, rfl, rfl⟩, rfl⟩
                refine JL.val (v := .tuple #[z43.v, .int .i64 y41.2]) (QV.move rfl) rfl rfl rfl ?_
                refine JL.val (v := z43.v) (QV.extract (vs := [z43.v, .int .i64 y41.2]) rfl rfl) rfl rfl rfl ?_
                refine JL.val (v := .int .i64 y41.2) (QV.extract (vs := [z43.v, .int .i64 y41.2]) rfl rfl) rfl rfl rfl ?_
                refine JL.val (v := z43.v) (QV.assign rfl) rfl rfl rfl ?_
                refine JL.val (v := .int .i64 y41.2) (QV.assign rfl) rfl rfl rfl ?_
                refine JL.nil ?_
                refine QJ.then_normal ?_
                refine JC.seq ?_
                refine JC.region ?_
                refine JL.val (v := .int .i64 y36.2) (QV.move rfl) rfl rfl rfl ?_
                refine JL.val (v := .bool (decide (y36.2 = (5 : Int)))) (QV.eql rfl rfl) rfl rfl rfl ?_
                rcases ite_inv hm with ⟨h44, hm⟩ | ⟨h44, hm⟩
                ·
                  refine JL.val (v := .bool true) (QV.eq (QV.move rfl) (congrArg Value.bool (decide_eq_true h44))) rfl rfl rfl ?_
                  refine JL.val (v := .int .i64 y41.2) (QV.move rfl) rfl rfl rfl ?_
                  refine JL.val (v := .bool (decide (y41.2 = (0 : Int)))) (QV.eql rfl rfl) rfl rfl rfl ?_
                  refine JL.val (v := .bool (decide (y41.2 = (0 : Int)))) (QV.pickT rfl rfl) rfl rfl rfl ?_
                  rcases ite_inv hm with ⟨h45, hm⟩ | ⟨h45, hm⟩
                  ·
                    refine JL.val (v := .bool true) (QV.eq (QV.move rfl) (congrArg Value.bool (decide_eq_true h45))) rfl rfl rfl ?_
                    refine JL.val (v := z43.v) (QV.move rfl) rfl rfl rfl ?_
                    refine JL.val (v := .string (strOfNums y41.1)) (QV.str (Rdg.of 0 rfl) Try.underlying23 Try.underlying5 Try.underlying9 rfl) rfl rfl rfl ?_
                    refine JL.val (v := .bool (decide ((strOfNums y41.1) = (⟨#[7]⟩ : ByteArray)))) (QV.eqlS rfl rfl) rfl rfl rfl ?_
                    refine JL.val (v := .bool (decide ((strOfNums y41.1) = (⟨#[7]⟩ : ByteArray)))) (QV.pickT rfl rfl) rfl rfl rfl ?_
                    rcases ite_inv hm with ⟨h46, hm⟩ | ⟨h46, hm⟩
                    ·
                      refine JL.val (v := .bool true) (QV.eq (QV.move rfl) (congrArg Value.bool (decide_eq_true h46))) rfl rfl rfl ?_
                      obtain ⟨y47, hc48, hm⟩ := bind_inv hm
                      refine JL.mv (d := some 93) (MV.call (Lo := []) (Lr := [Asr.of 5 (Enc.int .u8) (z43.v) y41.1, Asr.onv 35 (NE.pair (NE.flat (Enc.int .u8)) (NE.pair (NE.flat (Enc.int .i64)) (NE.pair (NE.flat (Enc.int .i64)) (NE.sl (Enc.int .u8))))) (z40.v) [((), (), (), z39)] [((1 : Int), (0 : Int), (1 : Int), [(7 : Int)])], Asr.of 5 (Enc.int .u8) (SlV.nil.v) ([] : List Int), Asr.vw (Enc.int .u8) (z39.v) [(7 : Int)], Asr.of 5 (Enc.int .u8) (z38.v) y36.1, Asr.onv 35 (NE.pair (NE.flat (Enc.int .u8)) (NE.pair (NE.flat (Enc.int .i64)) (NE.pair (NE.flat (Enc.int .i64)) (NE.sl (Enc.int .u8))))) (z35.v) [((), (), (), SlV.nil)] [((2 : Int), (0 : Int), (1 : Int), ([] : List Int))], Asr.vw (Enc.int .u8) (SlV.nil.v) ([] : List Int), Asr.of 5 (Enc.int .u8) (z11.v) y9.1, Asr.vw (Enc.int .u8) (s1.v) x2]) (F15.spec _ hc48) rfl Try.func15 rfl rfl rfl [] [0, 1, 2, 3, 4, 5, 6, 7, 8] rfl rfl rfl trivial) rfl rfl rfl ?_
                      rintro _ _ ⟨_, ⟨rfl, rfl⟩, rfl⟩
                      refine JL.val (v := .bool y47) (QV.pickT rfl rfl) rfl rfl rfl ?_
                      refine JL.val (v := .bool y47) (QV.assign rfl) rfl rfl rfl ?_
                      refine JL.nil ?_
                      refine QJ.then_normal ?_
                      refine JC.ret ?_
                      obtain rfl := Option.some.inj hm
                      exact QJ.body (vs := [.bool y47]) (.inl rfl) rfl (ResVs.cons (ResV.tmp rfl) ResVs.nil) [] rfl rfl (.inr trivial) ⟨rfl, rfl⟩
                    ·
                      refine JL.val (v := .bool false) (QV.eq (QV.move rfl) (congrArg Value.bool (decide_eq_false h46))) rfl rfl rfl ?_
                      refine JL.skip (d := some 93) rfl rfl rfl ?_
                      refine JL.val (v := .bool false) (QV.pickF rfl rfl) rfl rfl rfl ?_
                      refine JL.val (v := .bool false) (QV.assign rfl) rfl rfl rfl ?_
                      refine JL.nil ?_
                      refine QJ.then_normal ?_
                      refine JC.ret ?_
                      obtain rfl := Option.some.inj hm
                      exact QJ.body (vs := [.bool false]) (.inl rfl) rfl (ResVs.cons (ResV.tmp rfl) ResVs.nil) [] rfl rfl (.inr trivial) ⟨rfl, rfl⟩
                  ·
                    refine JL.val (v := .bool false) (QV.eq (QV.move rfl) (congrArg Value.bool (decide_eq_false h45))) rfl rfl rfl ?_
                    refine JL.skip (d := some 88) rfl rfl rfl ?_
                    refine JL.skip (d := some 89) rfl rfl rfl ?_
                    refine JL.skip (d := some 90) rfl rfl rfl ?_
                    refine JL.val (v := .bool false) (QV.pickF rfl rfl) rfl rfl rfl ?_
                    refine JL.val (v := .bool false) (QV.move rfl) rfl rfl rfl ?_
                    refine JL.skip (d := some 93) rfl rfl rfl ?_
                    refine JL.val (v := .bool false) (QV.pickF rfl rfl) rfl rfl rfl ?_
                    refine JL.val (v := .bool false) (QV.assign rfl) rfl rfl rfl ?_
                    refine JL.nil ?_
                    refine QJ.then_normal ?_
                    refine JC.ret ?_
                    obtain rfl := Option.some.inj hm
                    exact QJ.body (vs := [.bool false]) (.inl rfl) rfl (ResVs.cons (ResV.tmp rfl) ResVs.nil) [] rfl rfl (.inr trivial) ⟨rfl, rfl⟩
                ·
                  refine JL.val (v := .bool false) (QV.eq (QV.move rfl) (congrArg Value.bool (decide_eq_false h44))) rfl rfl rfl ?_
                  refine JL.skip (d := some 84) rfl rfl rfl ?_
                  refine JL.skip (d := some 85) rfl rfl rfl ?_
                  refine JL.val (v := .bool false) (QV.pickF rfl rfl) rfl rfl rfl ?_
                  refine JL.val (v := .bool false) (QV.move rfl) rfl rfl rfl ?_
                  refine JL.skip (d := some 88) rfl rfl rfl ?_
                  refine JL.skip (d := some 89) rfl rfl rfl ?_
                  refine JL.skip (d := some 90) rfl rfl rfl ?_
                  refine JL.val (v := .bool false) (QV.pickF rfl rfl) rfl rfl rfl ?_
                  refine JL.val (v := .bool false) (QV.move rfl) rfl rfl rfl ?_
                  refine JL.skip (d := some 93) rfl rfl rfl ?_
                  refine JL.val (v := .bool false) (QV.pickF rfl rfl) rfl rfl rfl ?_
                  refine JL.val (v := .bool false) (QV.assign rfl) rfl rfl rfl ?_
                  refine JL.nil ?_
                  refine QJ.then_normal ?_
                  refine JC.ret ?_
                  obtain rfl := Option.some.inj hm
                  exact QJ.body (vs := [.bool false]) (.inl rfl) rfl (ResVs.cons (ResV.tmp rfl) ResVs.nil) [] rfl rfl (.inr trivial) ⟨rfl, rfl⟩
              ·
                refine JC.condT' rfl (congrArg Bool.not (decide_eq_false h34)) ?_
                refine JC.seq ?_
                refine JC.region ?_
                refine JL.val (v := .bool false) (QV.assign rfl) rfl rfl rfl ?_
                refine JL.nil ?_
                refine QJ.then_normal ?_
                refine JC.ret ?_
                refine QJ.then_ret ?_
                obtain rfl := Option.some.inj hm
                exact QJ.body (vs := [.bool false]) (.inl rfl) rfl (ResVs.cons (ResV.tmp rfl) ResVs.nil) [] rfl rfl (.inr trivial) ⟨rfl, rfl⟩
            ·
              refine JT.only (i := 2) (d := some 56) rfl (MV.ofQV (v := .bool true) (QV.eq (QV.move rfl) (congrArg Value.bool (congrArg Bool.not (decide_eq_false h32))))) rfl rfl rfl ?_
              rintro _ _ ⟨rfl, rfl⟩
              refine ⟨fun _ => ⟨[0, 1], rfl, rfl⟩, ?_⟩
              refine JT.skip (i := 3) (d := some 57) hsel rfl rfl rfl rfl [0, 1] rfl rfl ?_
              refine JT.skip (i := 4) (d := some 58) hsel rfl rfl rfl rfl [0, 1] rfl rfl ?_
              refine JT.skip (i := 5) (d := some 59) hsel rfl rfl rfl rfl [0, 1] rfl rfl ?_
              refine JT.skip (i := 6) (d := some 60) hsel rfl rfl rfl rfl [0, 1] rfl rfl ?_
              refine JT.skip (i := 7) (d := some 61) hsel rfl rfl rfl rfl [0, 1] rfl rfl ?_
              refine JT.skipO (i := 8) (d := some 62) rfl rfl rfl rfl [0, 1] rfl rfl ?_
              refine JT.skipO (i := 9) (d := some 63) rfl rfl rfl rfl [0, 1] rfl rfl ?_
              refine JT.skipO (i := 10) (d := some 64) rfl rfl rfl rfl [0, 1] rfl rfl ?_
              refine JT.skipO (i := 11) (d := some 65) rfl rfl rfl rfl [0, 1] rfl rfl ?_
              refine JT.skipO (i := 12) (d := some 66) rfl rfl rfl rfl [0, 1] rfl rfl ?_
              refine JT.only (i := 13) (d := some 67) rfl (MV.ofQV (v := .bool true) (QV.pickT rfl rfl)) rfl rfl rfl ?_
              rintro _ _ ⟨rfl, rfl⟩
              refine ⟨fun _ => ⟨[0, 1], rfl, rfl⟩, ?_⟩
              refine JT.nil ?_
              refine QJ.then_normal ?_
              refine JC.condT rfl ?_
              refine JC.seq ?_
              refine JC.region ?_
              refine JL.val (v := .bool false) (QV.assign rfl) rfl rfl rfl ?_
              refine JL.nil ?_
              refine QJ.then_normal ?_
              refine JC.ret ?_
              refine QJ.then_ret ?_
              obtain rfl := Option.some.inj hm
              exact QJ.body (vs := [.bool false]) (.inl rfl) rfl (ResVs.cons (ResV.tmp rfl) ResVs.nil) [] rfl rfl (.inr trivial) ⟨rfl, rfl⟩

end Go.Proofs.Ytedokgdilpfomaa
