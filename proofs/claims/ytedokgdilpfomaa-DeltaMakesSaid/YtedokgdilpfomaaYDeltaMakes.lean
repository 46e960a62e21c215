/- Written by gen.py: functions and their contracts. -/
import Derived.Test.YtedokgdilpfomaaDel
namespace Go.Proofs.Ytedokgdilpfomaa
open Go Go.Eng Go.Proofs
set_option linter.unusedVariables false
set_option linter.unusedSimpArgs false
/-! ### 49: drogher/drogherref16.Number -/
noncomputable def F49.j1  (d5 : Int) (d7 : List Int) : Option (List Int) :=
  (if ((d7).length + ([(IntKind.wrap .u8 d5)]).length) * 1 ≤ 140737488355328 ∧ (d7).length + ([(IntKind.wrap .u8 d5)]).length ≤ 9223372036854775807 then some (d7 ++ [(IntKind.wrap .u8 d5)]) else none)
noncomputable def F49.b1  : (Int × List Int) → Option ((Int × List Int) ⊕ (Int × List Int))
  | (d11, d13) => (if (127 : Int) < d11 then (if ((d13).length + ([(IntKind.wrap .u8 (IntKind.wrap .i64 ((128 : Int) + (Int.tmod d11 (128 : Int)))))]).length) * 1 ≤ 140737488355328 ∧ (d13).length + ([(IntKind.wrap .u8 (IntKind.wrap .i64 ((128 : Int) + (Int.tmod d11 (128 : Int)))))]).length ≤ 9223372036854775807 then some (.inl ((IntKind.wrap .i64 (Int.tdiv d11 (128 : Int))), (d13 ++ [(IntKind.wrap .u8 (IntKind.wrap .i64 ((128 : Int) + (Int.tmod d11 (128 : Int)))))]))) else none) else some (.inr (d11, d13)))
noncomputable def F49.m (x1 : Int) : Option (List Int) :=
  ((loop (F49.b1) (x1, ([] : List Int))).bind fun y => match y with | (d5, d7) => F49.j1 (d5) (d7))
set_option maxRecDepth 100000 in
set_option maxHeartbeats 4000000 in
theorem F49.spec (x1 : Int) (r : (List Int)) (hm : F49.m x1 = some r) :
    Ctr Try.prog false 49 [.int .i64 x1] [] (fun v L' => ∃ (g2 : SlV), v = g2.v ∧ L' = [Asr.of 5 (Enc.int .u8) (g2.v) r]) := by
  refine Ctr.intro (n := 21) (env := [(0, .int .i64 x1)]) Try.func49 rfl rfl rfl rfl (fun c => ?_)
  unfold F49.m at hm
  refine JC.seq ?_
  refine JC.region ?_
  refine JL.ent (fun _ hs => hs.nil 5 (Enc.int .u8)) ?_
  refine JL.val (v := SlV.nil.v) (QV.assign rfl) rfl rfl rfl ?_
  refine JL.nil ?_
  refine QJ.then_normal ?_
  refine JC.seq ?_
  refine JC.region ?_
  refine JL.mv (d := some 4) (MV.lit0 (Enc.int .u8) Try.underlying23 (by kernel_rfl)) rfl rfl rfl ?_
  rintro _ _ ⟨z4, rfl, rfl⟩
  refine JL.val (v := z4.v) (QV.assign rfl) rfl rfl rfl ?_
  refine JL.nil ?_
  refine QJ.then_normal ?_
  refine JC.seq ?_
  refine JC.cutK (Y := (Int × List Int) × SlV) (fun y => match y with | ((d5, d7), _) => F49.j1 (d5) (d7) = some r) (fun y => match y with | ((d5, d7), z6) => [(0, .int .i64 d5), (3, z6.v)]) (fun y => match y with | ((d5, d7), z6) => [Asr.of 5 (Enc.int .u8) (z6.v) d7]) ?_ ?_
  ·
    rintro ⟨⟨d5, d7⟩, z6⟩ hm
    unfold F49.j1 at hm
    show QJ _ _ [(0, .int .i64 d5), (3, z6.v)] [Asr.of 5 (Enc.int .u8) (z6.v) d7] _ _
    refine QJ.then_normal ?_
    refine JC.seq ?_
    refine JC.region ?_
    refine JL.val (v := z6.v) (QV.move rfl) rfl rfl rfl ?_
    refine JL.val (v := .int .i64 d5) (QV.move rfl) rfl rfl rfl ?_
    refine JL.val (v := .int .u8 (IntKind.wrap .u8 d5)) (QV.conv rfl (by rw [Try.underlying3]; rfl) Try.underlying5) rfl rfl rfl ?_
    refine JL.mv (d := some 19) (MV.lit (E := (Enc.int .u8)) (vals := [(0, .int .u8 (IntKind.wrap .u8 d5))]) [(IntKind.wrap .u8 d5)] Try.underlying23 zi_5 rfl (by decide) rfl (by kernel_rfl)) rfl rfl rfl ?_
    rintro _ _ ⟨z8, rfl, rfl⟩
    obtain ⟨h9, hm⟩ := guard_inv hm
    refine JL.mv (d := some 20) (MV.append 1 rfl (Rdg.of 0 rfl) Try.underlying23 zi_5 rfl (by decide) rfl rfl h9) rfl rfl rfl ?_
    rintro _ _ ⟨z10, rfl, rfl⟩
    refine JL.val (v := z10.v) (QV.assign rfl) rfl rfl rfl ?_
    refine JL.nil ?_
    refine QJ.then_normal ?_
    refine JC.ret ?_
    obtain rfl := Option.some.inj hm
    exact QJ.body (vs := [z10.v]) (.inl rfl) rfl (ResVs.cons (ResV.tmp rfl) ResVs.nil) [1] rfl rfl (.inr ⟨own_of _ _ _ _, trivial⟩) ⟨z10, rfl, rfl⟩
  ·
    refine JC.block ?_
    obtain ⟨y17, hl18, hmo19⟩ := bind_inv hm
    refine JC.loop (F49.b1) (fun x z => match x, z with | (d11, d13), z12 => [(0, .int .i64 d11), (3, z12.v)]) (fun x z => match x, z with | (d11, d13), z12 => [Asr.of 5 (Enc.int .u8) (z12.v) d13]) (x1, ([] : List Int)) z4 y17 hl18 [0] (by exact ⟨rfl, rfl, trivial⟩) rfl rfl ?_
    rintro ⟨d11, d13⟩ z12 s20 hm
    unfold F49.b1 at hm
    dsimp only at hm
    show JC _ _ _ [(0, .int .i64 d11), (3, z12.v)] [Asr.of 5 (Enc.int .u8) (z12.v) d13] _ _
    refine JC.seq ?_
    refine JC.seq ?_
    refine JC.region ?_
    refine JL.val (v := .int .i64 d11) (QV.move rfl) rfl rfl rfl ?_
    refine JL.val (v := .bool (decide ((127 : Int) < d11))) (QV.gtr rfl rfl) rfl rfl rfl ?_
    refine JL.nil ?_
    refine QJ.then_normal ?_
    rcases ite_inv hm with ⟨h21, hm⟩ | ⟨h21, hm⟩
    ·
      refine JC.condT' rfl (decide_eq_true h21) ?_
      refine JC.skip ?_
      refine QJ.then_normal ?_
      refine JC.block ?_
      refine JC.seq ?_
      refine JC.region ?_
      refine JL.val (v := z12.v) (QV.move rfl) rfl rfl rfl ?_
      refine JL.val (v := .int .i64 d11) (QV.move rfl) rfl rfl rfl ?_
      refine JL.val (v := .int .i64 (Int.tmod d11 (128 : Int))) (QV.rem rfl rfl (by decide)) rfl rfl rfl ?_
      refine JL.val (v := .int .i64 (IntKind.wrap .i64 ((128 : Int) + (Int.tmod d11 (128 : Int))))) (QV.add rfl rfl) rfl rfl rfl ?_
      refine JL.val (v := .int .u8 (IntKind.wrap .u8 (IntKind.wrap .i64 ((128 : Int) + (Int.tmod d11 (128 : Int)))))) (QV.conv rfl (by rw [Try.underlying3]; rfl) Try.underlying5) rfl rfl rfl ?_
      refine JL.mv (d := some 12) (MV.lit (E := (Enc.int .u8)) (vals := [(0, .int .u8 (IntKind.wrap .u8 (IntKind.wrap .i64 ((128 : Int) + (Int.tmod d11 (128 : Int))))))]) [(IntKind.wrap .u8 (IntKind.wrap .i64 ((128 : Int) + (Int.tmod d11 (128 : Int)))))] Try.underlying23 zi_5 rfl (by decide) rfl (by kernel_rfl)) rfl rfl rfl ?_
      rintro _ _ ⟨z22, rfl, rfl⟩
      obtain ⟨h23, hm⟩ := guard_inv hm
      refine JL.mv (d := some 13) (MV.append 1 rfl (Rdg.of 0 rfl) Try.underlying23 zi_5 rfl (by decide) rfl rfl h23) rfl rfl rfl ?_
      rintro _ _ ⟨z24, rfl, rfl⟩
      refine JL.val (v := z24.v) (QV.assign rfl) rfl rfl rfl ?_
      refine JL.nil ?_
      refine QJ.then_normal ?_
      refine JC.region ?_
      refine JL.val (v := .int .i64 d11) (QV.move rfl) rfl rfl rfl ?_
      refine JL.val (v := .int .i64 (IntKind.wrap .i64 (Int.tdiv d11 (128 : Int)))) (QV.quo rfl rfl (by decide)) rfl rfl rfl ?_
      refine JL.val (v := .int .i64 (IntKind.wrap .i64 (Int.tdiv d11 (128 : Int)))) (QV.assign rfl) rfl rfl rfl ?_
      refine JL.nil ?_
      refine QJ.block_normal ?_
      obtain rfl := Option.some.inj hm
      exact QJ.round_on ((IntKind.wrap .i64 (Int.tdiv d11 (128 : Int))), (d13 ++ [(IntKind.wrap .u8 (IntKind.wrap .i64 ((128 : Int) + (Int.tmod d11 (128 : Int)))))])) z24 [1] (by exact ⟨rfl, rfl, trivial⟩) rfl rfl
    ·
      refine JC.condF' rfl (decide_eq_false h21) ?_
      refine JC.exit ?_
      refine QJ.then_exit ?_
      obtain rfl := Option.some.inj hm
      refine QJ.round_exit (fun hy => ?_)
      subst hy
      refine QJ.block_hit ?_
      exact QJ.cut_normal ((d11, d13), z12) hmo19 [0] (by exact ⟨rfl, rfl, trivial⟩) rfl rfl

/-! ### 25: drogher/drogherref16.Put -/
noncomputable def F25.j1  (d9 : List Int) : Option (List Int × Int) :=
  some (d9, (0 : Int))
noncomputable def F25.j2 (x2 : List (Int × Int × Int × (List Int))) (d12 : Int) (d35 : List Int) : Option ((List Int × Int) ⊕ (((List Int × Int)) ⊕ (List Int))) :=
  (if ((d35).length + ((gd x2 d12).2.2.2).length) * 1 ≤ 140737488355328 ∧ (d35).length + ((gd x2 d12).2.2.2).length ≤ 9223372036854775807 then some (.inl ((d35 ++ (gd x2 d12).2.2.2), (IntKind.wrap .i64 (d12 + (1 : Int))))) else none)
noncomputable def F25.b1 (x2 : List (Int × Int × Int × (List Int))) : (List Int × Int) → Option ((List Int × Int) ⊕ (((List Int × Int)) ⊕ (List Int)))
  | (d11, d12) => (if d12 < ((x2).length : Int) then (if 0 ≤ d12 ∧ d12 < ((x2).length : Int) then ((F24.m ((gd x2 d12).1) ((gd x2 d12).2.1) ((gd x2 d12).2.2.1) ((gd x2 d12).2.2.2)).bind fun y23 => (if y23 = true then (if ((d11).length + ([(gd x2 d12).1]).length) * 1 ≤ 140737488355328 ∧ (d11).length + ([(gd x2 d12).1]).length ≤ 9223372036854775807 then ((F49.m ((gd x2 d12).2.2.1)).bind fun y29 => (if (((d11 ++ [(gd x2 d12).1])).length + (y29).length) * 1 ≤ 140737488355328 ∧ ((d11 ++ [(gd x2 d12).1])).length + (y29).length ≤ 9223372036854775807 then (if (1 : Int) < (gd x2 d12).1 then ((F49.m ((gd x2 d12).2.1)).bind fun y39 => (if ((((d11 ++ [(gd x2 d12).1]) ++ y29)).length + (y39).length) * 1 ≤ 140737488355328 ∧ (((d11 ++ [(gd x2 d12).1]) ++ y29)).length + (y39).length ≤ 9223372036854775807 then F25.j2 x2 d12 ((((d11 ++ [(gd x2 d12).1]) ++ y29) ++ y39)) else none)) else F25.j2 x2 d12 (((d11 ++ [(gd x2 d12).1]) ++ y29))) else none)) else none) else some (.inr (.inl ((([] : List Int), (3 : Int))))))) else none) else some (.inr (.inr (d11))))
noncomputable def F25.m (x2 : List (Int × Int × Int × (List Int))) : Option (List Int × Int) :=
  ((loop (F25.b1 x2) (([] : List Int), (0 : Int))).bind fun y => match y with | .inl r => some r | .inr d9 => F25.j1 (d9))
set_option maxRecDepth 100000 in
set_option maxHeartbeats 4000000 in
theorem F25.spec (s1 : SlV) (z3 : List (Unit × Unit × Unit × SlV)) (x2 : List (Int × Int × Int × (List Int))) (r : (List Int × Int)) (hm : F25.m x2 = some r) :
    Ctr Try.prog false 25 [s1.v] [Asr.vn (NE.pair (NE.flat (Enc.int .u8)) (NE.pair (NE.flat (Enc.int .i64)) (NE.pair (NE.flat (Enc.int .i64)) (NE.sl (Enc.int .u8))))) (s1.v) z3 x2] (fun v L' => ∃ (g4 : SlV), v = .tuple #[g4.v, .int .i64 r.2] ∧ L' = [Asr.of 5 (Enc.int .u8) (g4.v) r.1]) := by
  refine Ctr.intro (n := 49) (env := [(0, s1.v)]) Try.func25 rfl rfl rfl rfl (fun c => ?_)
  unfold F25.m at hm
  refine JC.seq ?_
  refine JC.region ?_
  refine JL.ent (fun _ hs => hs.nil 5 (Enc.int .u8)) ?_
  refine JL.val (v := SlV.nil.v) (QV.assign rfl) rfl rfl rfl ?_
  refine JL.val (v := .int .i64 (0 : Int)) (QV.assign rfl) rfl rfl rfl ?_
  refine JL.nil ?_
  refine QJ.then_normal ?_
  refine JC.seq ?_
  refine JC.region ?_
  refine JL.mv (d := some 9) (MV.lit0 (Enc.int .u8) Try.underlying23 (by kernel_rfl)) rfl rfl rfl ?_
  rintro _ _ ⟨z7, rfl, rfl⟩
  refine JL.val (v := z7.v) (QV.assign rfl) rfl rfl rfl ?_
  refine JL.nil ?_
  refine QJ.then_normal ?_
  refine JC.seq ?_
  refine JC.seq ?_
  refine JC.region ?_
  refine JL.val (v := s1.v) (QV.move rfl) rfl rfl rfl ?_
  refine JL.val (v := .int .i64 ((x2).length : Int)) (QV.lenN (RdN.vn 2 rfl) Try.underlying22 rfl) rfl rfl rfl ?_
  refine JL.val (v := .int .i64 (0 : Int)) (QV.move rfl) rfl rfl rfl ?_
  refine JL.nil ?_
  refine QJ.then_normal ?_
  refine JC.cutK (Y := (List Int) × SlV) (fun y => match y with | (d9, _) => F25.j1 (d9) = some r) (fun y => match y with | (d9, z8) => [(4, z8.v)]) (fun y => match y with | (d9, z8) => [Asr.of 5 (Enc.int .u8) (z8.v) d9]) ?_ ?_
  ·
    rintro ⟨d9, z8⟩ hm
    unfold F25.j1 at hm
    show QJ _ _ [(4, z8.v)] [Asr.of 5 (Enc.int .u8) (z8.v) d9] _ _
    refine QJ.then_normal ?_
    refine JC.seq ?_
    refine JC.region ?_
    refine JL.val (v := z8.v) (QV.move rfl) rfl rfl rfl ?_
    refine JL.val (v := z8.v) (QV.assign rfl) rfl rfl rfl ?_
    refine JL.val (v := .int .i64 (0 : Int)) (QV.assign rfl) rfl rfl rfl ?_
    refine JL.nil ?_
    refine QJ.then_normal ?_
    refine JC.ret ?_
    obtain rfl := Option.some.inj hm
    exact QJ.body (vs := [z8.v, .int .i64 (0 : Int)]) (.inl rfl) rfl (ResVs.cons (ResV.tmp rfl) (ResVs.cons (ResV.tmp rfl) ResVs.nil)) [0] rfl rfl (.inr ⟨own_of _ _ _ _, trivial⟩) ⟨z8, rfl, rfl⟩
  ·
    refine JC.block ?_
    obtain ⟨y16, hl17, hmo18⟩ := bind_inv hm
    refine JC.loop (F25.b1 x2) (fun x z => match x, z with | (d11, d12), z10 => [(0, s1.v), (4, z10.v), (11, .int .i64 ((x2).length : Int)), (12, .int .i64 d12)]) (fun x z => match x, z with | (d11, d12), z10 => [Asr.vn (NE.pair (NE.flat (Enc.int .u8)) (NE.pair (NE.flat (Enc.int .i64)) (NE.pair (NE.flat (Enc.int .i64)) (NE.sl (Enc.int .u8))))) (s1.v) z3 x2, Asr.of 5 (Enc.int .u8) (z10.v) d11]) (([] : List Int), (0 : Int)) z7 y16 hl17 [2, 0] (by exact ⟨rfl, rfl, rfl, rfl, trivial⟩) rfl rfl ?_
    rintro ⟨d11, d12⟩ z10 s19 hm
    unfold F25.b1 at hm
    dsimp only at hm
    show JC _ _ _ [(0, s1.v), (4, z10.v), (11, .int .i64 ((x2).length : Int)), (12, .int .i64 d12)] [Asr.vn (NE.pair (NE.flat (Enc.int .u8)) (NE.pair (NE.flat (Enc.int .i64)) (NE.pair (NE.flat (Enc.int .i64)) (NE.sl (Enc.int .u8))))) (s1.v) z3 x2, Asr.of 5 (Enc.int .u8) (z10.v) d11] _ _
    refine JC.seq ?_
    refine JC.region ?_
    refine JL.val (v := .bool (decide (d12 < ((x2).length : Int)))) (QV.lss rfl rfl) rfl rfl rfl ?_
    refine JL.nil ?_
    refine QJ.then_normal ?_
    refine JC.seq ?_
    rcases ite_inv hm with ⟨h20, hm⟩ | ⟨h20, hm⟩
    ·
      refine JC.condT' rfl (decide_eq_true h20) ?_
      refine JC.skip ?_
      refine QJ.then_normal ?_
      refine JC.seq ?_
      refine JC.block ?_
      refine JC.seq ?_
      refine JC.region ?_
      refine JL.val (v := .int .i64 d12) (QV.move rfl) rfl rfl rfl ?_
      refine JL.val (v := .int .i64 d12) (QV.assign rfl) rfl rfl rfl ?_
      refine JL.nil ?_
      refine QJ.then_normal ?_
      refine JC.seq ?_
      refine JC.region ?_
      refine JL.val (v := s1.v) (QV.move rfl) rfl rfl rfl ?_
      refine JL.val (v := .int .i64 d12) (QV.move rfl) rfl rfl rfl ?_
      obtain ⟨h21, hm⟩ := guard_inv hm
      refine JL.val (v := .pointer (some (elA (s1.v) (Int.toNat d12 * ((NE.pair (NE.flat (Enc.int .u8)) (NE.pair (NE.flat (Enc.int .i64)) (NE.pair (NE.flat (Enc.int .i64)) (NE.sl (Enc.int .u8))))).E).sz)))) (QV.indexN (RdN.vn 0 rfl) Try.underlying22 tk_35 rfl rfl h21) rfl rfl rfl ?_
      refine JL.val (v := .agg #[.int .u8 (gd x2 d12).1, .int .i64 (gd x2 d12).2.1, .int .i64 (gd x2 d12).2.2.1, (gd z3 d12).2.2.2.v]) (QV.eq (QV.elNN (RdN.vn 0 rfl) tk_35 rfl h21) rfl) rfl rfl rfl ?_
      refine JL.ent (fun _ hs => hs.nil 5 (Enc.int .u8)) ?_
      refine JL.mv (d := some 6) (MV.alloc [Seg.c (.int .u8 (0 : Int)), Seg.c (.int .i64 (0 : Int)), Seg.c (.int .i64 (0 : Int)), Seg.c (SlV.nil.v)] z_35 rfl) rfl rfl rfl ?_
      rintro _ _ ⟨b22, rfl, rfl⟩
      refine JL.ent (fun _ hs => hs.derive (Drv.el (K := (NE.pair (NE.flat (Enc.int .u8)) (NE.pair (NE.flat (Enc.int .i64)) (NE.pair (NE.flat (Enc.int .i64)) (NE.sl (Enc.int .u8)))))) (A := Asr.vw (Enc.int .u8) ((gd z3 d12).2.2.2.v) (gd x2 d12).2.2.2) (Drv.vn 2 rfl) h21 (fun _ _ q => q.2.2.2))) ?_
      refine JL.mv (d := none) (MV.store (ss := [Seg.c (.int .u8 (0 : Int)), Seg.c (.int .i64 (0 : Int)), Seg.c (.int .i64 (0 : Int)), Seg.c (SlV.nil.v)]) 1 0 4 [Seg.c (.int .u8 (gd x2 d12).1), Seg.c (.int .i64 (gd x2 d12).2.1), Seg.c (.int .i64 (gd x2 d12).2.2.1), Seg.c ((gd z3 d12).2.2.2.v)] rfl tk_35 rfl rfl rfl rfl (fun w hs => ⟨rfl, one_c rfl, one_c rfl, one_c rfl, one_sl (Rdg.vw 0 rfl) hs, trivial⟩)) rfl rfl rfl ?_
      rintro _ _ ⟨rfl, rfl⟩
      refine JL.nil ?_
      refine QJ.then_normal ?_
      refine JC.seq ?_
      refine JC.seq ?_
      refine JC.region ?_
      refine JL.val (v := .agg #[.int .u8 (gd x2 d12).1, .int .i64 (gd x2 d12).2.1, .int .i64 (gd x2 d12).2.2.1, (gd z3 d12).2.2.2.v]) (QV.eq (QV.loadN (ss := [Seg.c (.int .u8 (gd x2 d12).1), Seg.c (.int .i64 (gd x2 d12).2.1), Seg.c (.int .i64 (gd x2 d12).2.2.1), Seg.c ((gd z3 d12).2.2.2.v)]) 1 0 4 rfl tk_35 rfl rfl rfl rfl) rfl) rfl rfl rfl ?_
      obtain ⟨y23, hc24, hm⟩ := bind_inv hm
      refine JL.mv (d := some 20) (MV.call (Lo := []) (Lr := [Asr.vw (Enc.int .u8) ((gd z3 d12).2.2.2.v) (gd x2 d12).2.2.2, Asr.blk b22 35 [Seg.c (.int .u8 (gd x2 d12).1), Seg.c (.int .i64 (gd x2 d12).2.1), Seg.c (.int .i64 (gd x2 d12).2.2.1), Seg.c ((gd z3 d12).2.2.2.v)], Asr.of 5 (Enc.int .u8) (SlV.nil.v) ([] : List Int), Asr.vn (NE.pair (NE.flat (Enc.int .u8)) (NE.pair (NE.flat (Enc.int .i64)) (NE.pair (NE.flat (Enc.int .i64)) (NE.sl (Enc.int .u8))))) (s1.v) z3 x2, Asr.of 5 (Enc.int .u8) (z10.v) d11]) (F24.spec ((gd z3 d12).2.2.2) ((gd x2 d12).1) ((gd x2 d12).2.1) ((gd x2 d12).2.2.1) ((gd x2 d12).2.2.2) _ hc24) rfl Try.func24 rfl rfl rfl [] [0, 1, 2, 3, 4] rfl rfl rfl ⟨(Drv.vw 0 rfl), trivial⟩) rfl rfl rfl ?_
      rintro _ _ ⟨_, ⟨rfl, rfl⟩, rfl⟩
      refine JL.val (v := .bool (!y23)) (QV.not rfl) rfl rfl rfl ?_
      refine JL.nil ?_
      refine QJ.then_normal ?_
      rcases ite_inv hm with ⟨h25, hm⟩ | ⟨h25, hm⟩
      ·
        refine JC.condF' rfl (congrArg Bool.not h25) ?_
        refine JC.skip ?_
        refine QJ.then_normal ?_
        refine JC.seq ?_
        refine JC.region ?_
        refine JL.val (v := z10.v) (QV.move rfl) rfl rfl rfl ?_
        refine JL.val (v := .pointer (some ⟨b22, 0, none⟩)) (QV.fieldB fo_35_0 rfl rfl) rfl rfl rfl ?_
        refine JL.val (v := .int .u8 (gd x2 d12).1) (QV.load1 (ss := [Seg.c (.int .u8 (gd x2 d12).1), Seg.c (.int .i64 (gd x2 d12).2.1), Seg.c (.int .i64 (gd x2 d12).2.2.1), Seg.c ((gd z3 d12).2.2.2.v)]) 1 0 rfl tk_5 rfl rfl rfl) rfl rfl rfl ?_
        refine JL.mv (d := some 26) (MV.lit (E := (Enc.int .u8)) (vals := [(0, .int .u8 (gd x2 d12).1)]) [(gd x2 d12).1] Try.underlying23 zi_5 rfl (by decide) rfl (by kernel_rfl)) rfl rfl rfl ?_
        rintro _ _ ⟨z26, rfl, rfl⟩
        obtain ⟨h27, hm⟩ := guard_inv hm
        refine JL.mv (d := some 27) (MV.append 5 rfl (Rdg.of 0 rfl) Try.underlying23 zi_5 rfl (by decide) rfl rfl h27) rfl rfl rfl ?_
        rintro _ _ ⟨z28, rfl, rfl⟩
        refine JL.val (v := z28.v) (QV.assign rfl) rfl rfl rfl ?_
        refine JL.nil ?_
        refine QJ.then_normal ?_
        refine JC.seq ?_
        refine JC.region ?_
        refine JL.val (v := .pointer (some ⟨b22, 2, none⟩)) (QV.fieldB fo_35_2 rfl rfl) rfl rfl rfl ?_
        refine JL.val (v := .int .i64 (gd x2 d12).2.2.1) (QV.load1 (ss := [Seg.c (.int .u8 (gd x2 d12).1), Seg.c (.int .i64 (gd x2 d12).2.1), Seg.c (.int .i64 (gd x2 d12).2.2.1), Seg.c ((gd z3 d12).2.2.2.v)]) 2 2 rfl tk_3 rfl rfl rfl) rfl rfl rfl ?_
        obtain ⟨y29, hc30, hm⟩ := bind_inv hm
        refine JL.mv (d := some 30) (MV.call (Lo := []) (Lr := [Asr.of 5 (Enc.int .u8) (z26.v) [(gd x2 d12).1], Asr.vw (Enc.int .u8) ((gd z3 d12).2.2.2.v) (gd x2 d12).2.2.2, Asr.blk b22 35 [Seg.c (.int .u8 (gd x2 d12).1), Seg.c (.int .i64 (gd x2 d12).2.1), Seg.c (.int .i64 (gd x2 d12).2.2.1), Seg.c ((gd z3 d12).2.2.2.v)], Asr.of 5 (Enc.int .u8) (SlV.nil.v) ([] : List Int), Asr.vn (NE.pair (NE.flat (Enc.int .u8)) (NE.pair (NE.flat (Enc.int .i64)) (NE.pair (NE.flat (Enc.int .i64)) (NE.sl (Enc.int .u8))))) (s1.v) z3 x2, Asr.of 5 (Enc.int .u8) (z28.v) (d11 ++ [(gd x2 d12).1])]) (F49.spec ((gd x2 d12).2.2.1) _ hc30) rfl Try.func49 rfl rfl rfl [] [0, 1, 2, 3, 4, 5] rfl rfl rfl trivial) rfl rfl rfl ?_
        rintro _ _ ⟨_, ⟨z31, rfl, rfl⟩, rfl⟩
        refine JL.val (v := z31.v) (QV.assign rfl) rfl rfl rfl ?_
        refine JL.nil ?_
        refine QJ.then_normal ?_
        refine JC.seq ?_
        refine JC.region ?_
        refine JL.val (v := z28.v) (QV.move rfl) rfl rfl rfl ?_
        refine JL.val (v := z31.v) (QV.move rfl) rfl rfl rfl ?_
        obtain ⟨h32, hm⟩ := guard_inv hm
        refine JL.mv (d := some 33) (MV.append 6 rfl (Rdg.of 0 rfl) Try.underlying23 zi_5 rfl (by decide) rfl rfl h32) rfl rfl rfl ?_
        rintro _ _ ⟨z33, rfl, rfl⟩
        refine JL.val (v := z33.v) (QV.assign rfl) rfl rfl rfl ?_
        refine JL.nil ?_
        refine QJ.then_normal ?_
        refine JC.seq ?_
        refine JC.seq ?_
        refine JC.region ?_
        refine JL.val (v := .pointer (some ⟨b22, 0, none⟩)) (QV.fieldB fo_35_0 rfl rfl) rfl rfl rfl ?_
        refine JL.val (v := .int .u8 (gd x2 d12).1) (QV.load1 (ss := [Seg.c (.int .u8 (gd x2 d12).1), Seg.c (.int .i64 (gd x2 d12).2.1), Seg.c (.int .i64 (gd x2 d12).2.2.1), Seg.c ((gd z3 d12).2.2.2.v)]) 3 0 rfl tk_5 rfl rfl rfl) rfl rfl rfl ?_
        refine JL.val (v := .bool (decide ((1 : Int) < (gd x2 d12).1))) (QV.gtr rfl rfl) rfl rfl rfl ?_
        refine JL.nil ?_
        refine QJ.then_normal ?_
        refine JC.cutK (Y := (List Int) × SlV) (fun y => match y with | (d35, _) => F25.j2 x2 d12 (d35) = some s19) (fun y => match y with | (d35, z34) => [(0, s1.v), (4, z34.v), (6, .pointer (some ⟨b22, 0, none⟩)), (11, .int .i64 ((x2).length : Int)), (12, .int .i64 d12)]) (fun y => match y with | (d35, z34) => [Asr.vn (NE.pair (NE.flat (Enc.int .u8)) (NE.pair (NE.flat (Enc.int .i64)) (NE.pair (NE.flat (Enc.int .i64)) (NE.sl (Enc.int .u8))))) (s1.v) z3 x2, Asr.of 5 (Enc.int .u8) (z34.v) d35, Asr.vw (Enc.int .u8) ((gd z3 d12).2.2.2.v) (gd x2 d12).2.2.2, Asr.blk b22 35 [Seg.c (.int .u8 (gd x2 d12).1), Seg.c (.int .i64 (gd x2 d12).2.1), Seg.c (.int .i64 (gd x2 d12).2.2.1), Seg.c ((gd z3 d12).2.2.2.v)]]) ?_ ?_
        ·
          rintro ⟨d35, z34⟩ hm
          unfold F25.j2 at hm
          show QJ _ _ [(0, s1.v), (4, z34.v), (6, .pointer (some ⟨b22, 0, none⟩)), (11, .int .i64 ((x2).length : Int)), (12, .int .i64 d12)] [Asr.vn (NE.pair (NE.flat (Enc.int .u8)) (NE.pair (NE.flat (Enc.int .i64)) (NE.pair (NE.flat (Enc.int .i64)) (NE.sl (Enc.int .u8))))) (s1.v) z3 x2, Asr.of 5 (Enc.int .u8) (z34.v) d35, Asr.vw (Enc.int .u8) ((gd z3 d12).2.2.2.v) (gd x2 d12).2.2.2, Asr.blk b22 35 [Seg.c (.int .u8 (gd x2 d12).1), Seg.c (.int .i64 (gd x2 d12).2.1), Seg.c (.int .i64 (gd x2 d12).2.2.1), Seg.c ((gd z3 d12).2.2.2.v)]] _ _
          refine QJ.then_normal ?_
          refine JC.region ?_
          refine JL.val (v := z34.v) (QV.move rfl) rfl rfl rfl ?_
          refine JL.val (v := .pointer (some ⟨b22, 3, none⟩)) (QV.fieldB fo_35_3 rfl rfl) rfl rfl rfl ?_
          refine JL.val (v := (gd z3 d12).2.2.2.v) (QV.load1 (ss := [Seg.c (.int .u8 (gd x2 d12).1), Seg.c (.int .i64 (gd x2 d12).2.1), Seg.c (.int .i64 (gd x2 d12).2.2.1), Seg.c ((gd z3 d12).2.2.2.v)]) 3 3 rfl tk_23 rfl rfl rfl) rfl rfl rfl ?_
          obtain ⟨h36, hm⟩ := guard_inv hm
          refine JL.mv (d := some 46) (MV.append 1 rfl (Rdg.vw 2 rfl) Try.underlying23 zi_5 rfl (by decide) rfl rfl h36) rfl rfl rfl ?_
          rintro _ _ ⟨z37, rfl, rfl⟩
          refine JL.val (v := z37.v) (QV.assign rfl) rfl rfl rfl ?_
          refine JL.nil ?_
          refine QJ.block_normal ?_
          refine QJ.then_normal ?_
          refine JC.region ?_
          refine JL.val (v := .int .i64 (IntKind.wrap .i64 (d12 + (1 : Int)))) (QV.add rfl rfl) rfl rfl rfl ?_
          refine JL.val (v := .int .i64 (IntKind.wrap .i64 (d12 + (1 : Int)))) (QV.move rfl) rfl rfl rfl ?_
          refine JL.nil ?_
          obtain rfl := Option.some.inj hm
          exact QJ.round_on ((d35 ++ (gd x2 d12).2.2.2), (IntKind.wrap .i64 (d12 + (1 : Int)))) z37 [0, 1] (by exact ⟨rfl, rfl, rfl, rfl, trivial⟩) rfl rfl
        ·
          rcases ite_inv hm with ⟨h38, hm⟩ | ⟨h38, hm⟩
          ·
            refine JC.condT' rfl (decide_eq_true h38) ?_
            refine JC.seq ?_
            refine JC.region ?_
            refine JL.val (v := .pointer (some ⟨b22, 1, none⟩)) (QV.fieldB fo_35_1 rfl rfl) rfl rfl rfl ?_
            refine JL.val (v := .int .i64 (gd x2 d12).2.1) (QV.load1 (ss := [Seg.c (.int .u8 (gd x2 d12).1), Seg.c (.int .i64 (gd x2 d12).2.1), Seg.c (.int .i64 (gd x2 d12).2.2.1), Seg.c ((gd z3 d12).2.2.2.v)]) 3 1 rfl tk_3 rfl rfl rfl) rfl rfl rfl ?_
            obtain ⟨y39, hc40, hm⟩ := bind_inv hm
            refine JL.mv (d := some 39) (MV.call (Lo := []) (Lr := [Asr.of 5 (Enc.int .u8) (z31.v) y29, Asr.of 5 (Enc.int .u8) (z26.v) [(gd x2 d12).1], Asr.vw (Enc.int .u8) ((gd z3 d12).2.2.2.v) (gd x2 d12).2.2.2, Asr.blk b22 35 [Seg.c (.int .u8 (gd x2 d12).1), Seg.c (.int .i64 (gd x2 d12).2.1), Seg.c (.int .i64 (gd x2 d12).2.2.1), Seg.c ((gd z3 d12).2.2.2.v)], Asr.of 5 (Enc.int .u8) (SlV.nil.v) ([] : List Int), Asr.vn (NE.pair (NE.flat (Enc.int .u8)) (NE.pair (NE.flat (Enc.int .i64)) (NE.pair (NE.flat (Enc.int .i64)) (NE.sl (Enc.int .u8))))) (s1.v) z3 x2, Asr.of 5 (Enc.int .u8) (z33.v) ((d11 ++ [(gd x2 d12).1]) ++ y29)]) (F49.spec ((gd x2 d12).2.1) _ hc40) rfl Try.func49 rfl rfl rfl [] [0, 1, 2, 3, 4, 5, 6] rfl rfl rfl trivial) rfl rfl rfl ?_
            rintro _ _ ⟨_, ⟨z41, rfl, rfl⟩, rfl⟩
            refine JL.val (v := z41.v) (QV.assign rfl) rfl rfl rfl ?_
            refine JL.nil ?_
            refine QJ.then_normal ?_
            refine JC.region ?_
            refine JL.val (v := z33.v) (QV.move rfl) rfl rfl rfl ?_
            refine JL.val (v := z41.v) (QV.move rfl) rfl rfl rfl ?_
            obtain ⟨h42, hm⟩ := guard_inv hm
            refine JL.mv (d := some 42) (MV.append 7 rfl (Rdg.of 0 rfl) Try.underlying23 zi_5 rfl (by decide) rfl rfl h42) rfl rfl rfl ?_
            rintro _ _ ⟨z43, rfl, rfl⟩
            refine JL.val (v := z43.v) (QV.assign rfl) rfl rfl rfl ?_
            refine JL.nil ?_
            exact QJ.cut_normal ((((d11 ++ [(gd x2 d12).1]) ++ y29) ++ y39), z43) hm [6, 7, 3, 4] (by exact ⟨rfl, rfl, rfl, rfl, rfl, trivial⟩) rfl rfl
          ·
            refine JC.condF' rfl (decide_eq_false h38) ?_
            refine JC.skip ?_
            exact QJ.cut_normal (((d11 ++ [(gd x2 d12).1]) ++ y29), z33) hm [5, 6, 2, 3] (by exact ⟨rfl, rfl, rfl, rfl, rfl, trivial⟩) rfl rfl
      ·
        refine JC.condT' rfl (congrArg Bool.not (bfalse h25)) ?_
        refine JC.seq ?_
        refine JC.region ?_
        refine JL.mv (d := some 22) (MV.lit0 (Enc.int .u8) Try.underlying23 (by kernel_rfl)) rfl rfl rfl ?_
        rintro _ _ ⟨z44, rfl, rfl⟩
        refine JL.val (v := z44.v) (QV.assign rfl) rfl rfl rfl ?_
        refine JL.val (v := .int .i64 (3 : Int)) (QV.assign rfl) rfl rfl rfl ?_
        refine JL.nil ?_
        refine QJ.then_normal ?_
        refine JC.ret ?_
        refine QJ.then_ret ?_
        refine QJ.block_ret ?_
        refine QJ.then_ret ?_
        obtain rfl := Option.some.inj hm
        refine QJ.round_ret (fun hy => ?_)
        subst hy
        refine QJ.block_ret ?_
        refine QJ.cut_ret ?_
        refine QJ.then_ret ?_
        obtain rfl := Option.some.inj hmo18
        exact QJ.body (vs := [z44.v, .int .i64 (3 : Int)]) (.inl rfl) rfl (ResVs.cons (ResV.tmp rfl) (ResVs.cons (ResV.tmp rfl) ResVs.nil)) [0] rfl rfl (.inr ⟨own_of _ _ _ _, trivial⟩) ⟨z44, rfl, rfl⟩
    ·
      refine JC.condF' rfl (decide_eq_false h20) ?_
      refine JC.exit ?_
      refine QJ.then_exit ?_
      obtain rfl := Option.some.inj hm
      refine QJ.round_exit (fun hy => ?_)
      subst hy
      refine QJ.block_hit ?_
      exact QJ.cut_normal (d11, z10) hmo18 [1] (by exact ⟨rfl, trivial⟩) rfl rfl

/-! ### 11: drogher/drogherlaw17.DeltaMakes -/
noncomputable def F11.j1   : Option Bool :=
  ((F34.m).bind fun y31 => some y31)
noncomputable def F11.b1 (x2 : List Int) (x4 : List Int) (x5 : Int) (y13 : (List (List (Int × Int × Int × (List Int))) × Int)) : Int → Option (Int ⊕ ((Bool) ⊕ Unit))
  | d33 => (if d33 < ((y13.1).length : Int) then ((F37.m (x4) (x5) (d33)).bind fun y40 => (if 0 ≤ d33 ∧ d33 < ((y13.1).length : Int) then ((F17.m ((gd y13.1 d33)) (x2) (((y40).length : Int))).bind fun y44 => ((F25.m ((gd y13.1 d33))).bind fun y47 => (if y44.2 = (0 : Int) then (if (strOfNums y44.1) = (strOfNums y40) then (if y47.2 = (0 : Int) then (if (IntKind.wrap .i64 (x5 + (12 : Int))) < ((y47.1).length : Int) then some (.inr (.inl (false))) else some (.inl (IntKind.wrap .i64 (d33 + (1 : Int))))) else some (.inr (.inl (false)))) else some (.inr (.inl (false)))) else some (.inr (.inl (false)))))) else none)) else some (.inr (.inr (()))))
noncomputable def F11.m (x2 : List Int) (x4 : List Int) (x5 : Int) : Option Bool :=
  (if (2000 : Int) < ((x2).length : Int) then ((F34.m).bind fun y8 => some y8) else (if (2000 : Int) < ((x4).length : Int) then ((F34.m).bind fun y11 => some y11) else ((F35_1.m (x2) (x4) (x5)).bind fun y13 => (if x5 < (128 : Int) then (if ((y13.1).length : Int) = (0 : Int) then (if y13.2 = (1 : Int) then ((F34.m).bind fun y20 => some y20) else some false) else some false) else (if (4096 : Int) < x5 then (if ((y13.1).length : Int) = (0 : Int) then (if y13.2 = (1 : Int) then ((F34.m).bind fun y25 => some y25) else some false) else some false) else (if y13.2 = (0 : Int) then ((F36.m (((x4).length : Int)) (x5)).bind fun y28 => (if ((y13.1).length : Int) = y28 then ((loop (F11.b1 x2 x4 x5 y13) (0 : Int)).bind fun y => match y with | .inl r => some r | .inr _ => F11.j1) else some false)) else some false))))))
set_option maxRecDepth 100000 in
set_option maxHeartbeats 4000000 in
theorem F11.spec (s1 : SlV) (s3 : SlV) (x2 : List Int) (x4 : List Int) (x5 : Int) (r : Bool) (hm : F11.m x2 x4 x5 = some r) :
    Ctr Try.prog false 11 [s1.v, s3.v, .int .i64 x5] [Asr.vw (Enc.int .u8) (s1.v) x2, Asr.vw (Enc.int .u8) (s3.v) x4] (fun v L' => v = .bool r ∧ L' = []) := by
  refine Ctr.intro (n := 108) (env := [(0, s1.v), (1, s3.v), (2, .int .i64 x5)]) Try.func11 rfl rfl rfl rfl (fun c => ?_)
  unfold F11.m at hm
  refine JC.seq ?_
  refine JC.region ?_
  refine JL.val (v := .bool false) (QV.assign rfl) rfl rfl rfl ?_
  refine JL.nil ?_
  refine QJ.then_normal ?_
  refine JC.seq ?_
  refine JC.seq ?_
  refine JC.region ?_
  refine JL.val (v := s1.v) (QV.move rfl) rfl rfl rfl ?_
  refine JL.val (v := .int .i64 ((x2).length : Int)) (QV.len (Rdg.vw 0 rfl) Try.underlying23 rfl) rfl rfl rfl ?_
  refine JL.val (v := .bool (decide ((2000 : Int) < ((x2).length : Int)))) (QV.gtr rfl rfl) rfl rfl rfl ?_
  rcases ite_inv hm with ⟨h7, hm⟩ | ⟨h7, hm⟩
  ·
    refine JL.val (v := .bool true) (QV.eq (QV.move rfl) (congrArg Value.bool (decide_eq_true h7))) rfl rfl rfl ?_
    refine JL.skip (d := some 19) rfl rfl rfl ?_
    refine JL.skip (d := some 20) rfl rfl rfl ?_
    refine JL.skip (d := some 21) rfl rfl rfl ?_
    refine JL.val (v := .bool true) (QV.pickT rfl rfl) rfl rfl rfl ?_
    refine JL.nil ?_
    refine QJ.then_normal ?_
    refine JC.condT rfl ?_
    refine JC.seq ?_
    refine JC.region ?_
    obtain ⟨y8, hc9, hm⟩ := bind_inv hm
    refine JL.mv (d := some 23) (MV.call (Lo := []) (Lr := [Asr.vw (Enc.int .u8) (s1.v) x2, Asr.vw (Enc.int .u8) (s3.v) x4]) (F34.spec _ hc9) rfl Try.func34 rfl rfl rfl [] [0, 1] rfl rfl rfl trivial) rfl rfl rfl ?_
    rintro _ _ ⟨_, ⟨rfl, rfl⟩, rfl⟩
    refine JL.val (v := .bool y8) (QV.assign rfl) rfl rfl rfl ?_
    refine JL.nil ?_
    refine QJ.then_normal ?_
    refine JC.ret ?_
    refine QJ.then_ret ?_
    obtain rfl := Option.some.inj hm
    exact QJ.body (vs := [.bool y8]) (.inl rfl) rfl (ResVs.cons (ResV.tmp rfl) ResVs.nil) [] rfl rfl (.inr trivial) ⟨rfl, rfl⟩
  ·
    refine JL.val (v := .bool false) (QV.eq (QV.move rfl) (congrArg Value.bool (decide_eq_false h7))) rfl rfl rfl ?_
    refine JL.val (v := s3.v) (QV.move rfl) rfl rfl rfl ?_
    refine JL.val (v := .int .i64 ((x4).length : Int)) (QV.len (Rdg.vw 1 rfl) Try.underlying23 rfl) rfl rfl rfl ?_
    refine JL.val (v := .bool (decide ((2000 : Int) < ((x4).length : Int)))) (QV.gtr rfl rfl) rfl rfl rfl ?_
    refine JL.val (v := .bool (decide ((2000 : Int) < ((x4).length : Int)))) (QV.pickF rfl rfl) rfl rfl rfl ?_
    refine JL.nil ?_
    refine QJ.then_normal ?_
    rcases ite_inv hm with ⟨h10, hm⟩ | ⟨h10, hm⟩
    ·
      refine JC.condT' rfl (decide_eq_true h10) ?_
      refine JC.seq ?_
      refine JC.region ?_
      obtain ⟨y11, hc12, hm⟩ := bind_inv hm
      refine JL.mv (d := some 23) (MV.call (Lo := []) (Lr := [Asr.vw (Enc.int .u8) (s1.v) x2, Asr.vw (Enc.int .u8) (s3.v) x4]) (F34.spec _ hc12) rfl Try.func34 rfl rfl rfl [] [0, 1] rfl rfl rfl trivial) rfl rfl rfl ?_
      rintro _ _ ⟨_, ⟨rfl, rfl⟩, rfl⟩
      refine JL.val (v := .bool y11) (QV.assign rfl) rfl rfl rfl ?_
      refine JL.nil ?_
      refine QJ.then_normal ?_
      refine JC.ret ?_
      refine QJ.then_ret ?_
      obtain rfl := Option.some.inj hm
      exact QJ.body (vs := [.bool y11]) (.inl rfl) rfl (ResVs.cons (ResV.tmp rfl) ResVs.nil) [] rfl rfl (.inr trivial) ⟨rfl, rfl⟩
    ·
      refine JC.condF' rfl (decide_eq_false h10) ?_
      refine JC.skip ?_
      refine QJ.then_normal ?_
      refine JC.seq ?_
      refine JC.region ?_
      refine JL.val (v := s1.v) (QV.move rfl) rfl rfl rfl ?_
      refine JL.val (v := s3.v) (QV.move rfl) rfl rfl rfl ?_
      refine JL.val (v := .int .i64 x5) (QV.move rfl) rfl rfl rfl ?_
      obtain ⟨y13, hc14, hm⟩ := bind_inv hm
      refine JL.mv (d := some 28) (MV.call (Lo := []) (Lr := [Asr.vw (Enc.int .u8) (s1.v) x2, Asr.vw (Enc.int .u8) (s3.v) x4]) (F35_1.spec (s1) (s3) (x2) (x4) (x5) _ hc14) rfl Try.func35 rfl rfl rfl [] [0, 1] rfl rfl rfl ⟨(Drv.vw 0 rfl), ⟨(Drv.vw 1 rfl), trivial⟩⟩) rfl rfl rfl ?_
      rintro _ _ ⟨_, ⟨z15, z16, rfl, rfl⟩, rfl⟩
      refine JL.val (v := .tuple #[z15.v, .int .i64 y13.2]) (QV.move rfl) rfl rfl rfl ?_
      refine JL.val (v := z15.v) (QV.extract (vs := [z15.v, .int .i64 y13.2]) rfl rfl) rfl rfl rfl ?_
      refine JL.val (v := .int .i64 y13.2) (QV.extract (vs := [z15.v, .int .i64 y13.2]) rfl rfl) rfl rfl rfl ?_
      refine JL.val (v := z15.v) (QV.assign rfl) rfl rfl rfl ?_
      refine JL.val (v := .int .i64 y13.2) (QV.assign rfl) rfl rfl rfl ?_
      refine JL.nil ?_
      refine QJ.then_normal ?_
      refine JC.seq ?_
      refine JC.seq ?_
      refine JC.region ?_
      refine JL.val (v := .int .i64 x5) (QV.move rfl) rfl rfl rfl ?_
      refine JL.val (v := .bool (decide (x5 < (128 : Int)))) (QV.lss rfl rfl) rfl rfl rfl ?_
      rcases ite_inv hm with ⟨h17, hm⟩ | ⟨h17, hm⟩
      ·
        refine JL.val (v := .bool true) (QV.eq (QV.move rfl) (congrArg Value.bool (decide_eq_true h17))) rfl rfl rfl ?_
        refine JL.skip (d := some 34) rfl rfl rfl ?_
        refine JL.skip (d := some 35) rfl rfl rfl ?_
        refine JL.val (v := .bool true) (QV.pickT rfl rfl) rfl rfl rfl ?_
        refine JL.nil ?_
        refine QJ.then_normal ?_
        refine JC.condT rfl ?_
        refine JC.seq ?_
        refine JC.region ?_
        refine JL.val (v := z15.v) (QV.move rfl) rfl rfl rfl ?_
        refine JL.val (v := .int .i64 ((y13.1).length : Int)) (QV.lenN (RdN.onv 0 rfl) Try.underlying57 rfl) rfl rfl rfl ?_
        refine JL.val (v := .bool (decide (((y13.1).length : Int) = (0 : Int)))) (QV.eql rfl rfl) rfl rfl rfl ?_
        rcases ite_inv hm with ⟨h18, hm⟩ | ⟨h18, hm⟩
        ·
          refine JL.val (v := .bool true) (QV.eq (QV.move rfl) (congrArg Value.bool (decide_eq_true h18))) rfl rfl rfl ?_
          refine JL.val (v := .int .i64 y13.2) (QV.move rfl) rfl rfl rfl ?_
          refine JL.val (v := .bool (decide (y13.2 = (1 : Int)))) (QV.eql rfl rfl) rfl rfl rfl ?_
          refine JL.val (v := .bool (decide (y13.2 = (1 : Int)))) (QV.pickT rfl rfl) rfl rfl rfl ?_
          rcases ite_inv hm with ⟨h19, hm⟩ | ⟨h19, hm⟩
          ·
            refine JL.val (v := .bool true) (QV.eq (QV.move rfl) (congrArg Value.bool (decide_eq_true h19))) rfl rfl rfl ?_
            obtain ⟨y20, hc21, hm⟩ := bind_inv hm
            refine JL.mv (d := some 45) (MV.call (Lo := []) (Lr := [Asr.onv 22 (NE.nest (NE.pair (NE.flat (Enc.int .u8)) (NE.pair (NE.flat (Enc.int .i64)) (NE.pair (NE.flat (Enc.int .i64)) (NE.sl (Enc.int .u8)))))) (z15.v) z16 y13.1, Asr.vw (Enc.int .u8) (s1.v) x2, Asr.vw (Enc.int .u8) (s3.v) x4]) (F34.spec _ hc21) rfl Try.func34 rfl rfl rfl [] [0, 1, 2] rfl rfl rfl trivial) rfl rfl rfl ?_
            rintro _ _ ⟨_, ⟨rfl, rfl⟩, rfl⟩
            refine JL.val (v := .bool y20) (QV.pickT rfl rfl) rfl rfl rfl ?_
            refine JL.val (v := .bool y20) (QV.assign rfl) rfl rfl rfl ?_
            refine JL.nil ?_
            refine QJ.then_normal ?_
            refine JC.ret ?_
            refine QJ.then_ret ?_
            obtain rfl := Option.some.inj hm
            exact QJ.body (vs := [.bool y20]) (.inl rfl) rfl (ResVs.cons (ResV.tmp rfl) ResVs.nil) [] rfl rfl (.inr trivial) ⟨rfl, rfl⟩
          ·
            refine JL.val (v := .bool false) (QV.eq (QV.move rfl) (congrArg Value.bool (decide_eq_false h19))) rfl rfl rfl ?_
            refine JL.skip (d := some 45) rfl rfl rfl ?_
            refine JL.val (v := .bool false) (QV.pickF rfl rfl) rfl rfl rfl ?_
            refine JL.val (v := .bool false) (QV.assign rfl) rfl rfl rfl ?_
            refine JL.nil ?_
            refine QJ.then_normal ?_
            refine JC.ret ?_
            refine QJ.then_ret ?_
            obtain rfl := Option.some.inj hm
            exact QJ.body (vs := [.bool false]) (.inl rfl) rfl (ResVs.cons (ResV.tmp rfl) ResVs.nil) [] rfl rfl (.inr trivial) ⟨rfl, rfl⟩
        ·
          refine JL.val (v := .bool false) (QV.eq (QV.move rfl) (congrArg Value.bool (decide_eq_false h18))) rfl rfl rfl ?_
          refine JL.skip (d := some 41) rfl rfl rfl ?_
          refine JL.skip (d := some 42) rfl rfl rfl ?_
          refine JL.val (v := .bool false) (QV.pickF rfl rfl) rfl rfl rfl ?_
          refine JL.val (v := .bool false) (QV.move rfl) rfl rfl rfl ?_
          refine JL.skip (d := some 45) rfl rfl rfl ?_
          refine JL.val (v := .bool false) (QV.pickF rfl rfl) rfl rfl rfl ?_
          refine JL.val (v := .bool false) (QV.assign rfl) rfl rfl rfl ?_
          refine JL.nil ?_
          refine QJ.then_normal ?_
          refine JC.ret ?_
          refine QJ.then_ret ?_
          obtain rfl := Option.some.inj hm
          exact QJ.body (vs := [.bool false]) (.inl rfl) rfl (ResVs.cons (ResV.tmp rfl) ResVs.nil) [] rfl rfl (.inr trivial) ⟨rfl, rfl⟩
      ·
        refine JL.val (v := .bool false) (QV.eq (QV.move rfl) (congrArg Value.bool (decide_eq_false h17))) rfl rfl rfl ?_
        refine JL.val (v := .int .i64 x5) (QV.move rfl) rfl rfl rfl ?_
        refine JL.val (v := .bool (decide ((4096 : Int) < x5))) (QV.gtr rfl rfl) rfl rfl rfl ?_
        refine JL.val (v := .bool (decide ((4096 : Int) < x5))) (QV.pickF rfl rfl) rfl rfl rfl ?_
        refine JL.nil ?_
        refine QJ.then_normal ?_
        rcases ite_inv hm with ⟨h22, hm⟩ | ⟨h22, hm⟩
        ·
          refine JC.condT' rfl (decide_eq_true h22) ?_
          refine JC.seq ?_
          refine JC.region ?_
          refine JL.val (v := z15.v) (QV.move rfl) rfl rfl rfl ?_
          refine JL.val (v := .int .i64 ((y13.1).length : Int)) (QV.lenN (RdN.onv 0 rfl) Try.underlying57 rfl) rfl rfl rfl ?_
          refine JL.val (v := .bool (decide (((y13.1).length : Int) = (0 : Int)))) (QV.eql rfl rfl) rfl rfl rfl ?_
          rcases ite_inv hm with ⟨h23, hm⟩ | ⟨h23, hm⟩
          ·
            refine JL.val (v := .bool true) (QV.eq (QV.move rfl) (congrArg Value.bool (decide_eq_true h23))) rfl rfl rfl ?_
            refine JL.val (v := .int .i64 y13.2) (QV.move rfl) rfl rfl rfl ?_
            refine JL.val (v := .bool (decide (y13.2 = (1 : Int)))) (QV.eql rfl rfl) rfl rfl rfl ?_
            refine JL.val (v := .bool (decide (y13.2 = (1 : Int)))) (QV.pickT rfl rfl) rfl rfl rfl ?_
            rcases ite_inv hm with ⟨h24, hm⟩ | ⟨h24, hm⟩
            ·
              refine JL.val (v := .bool true) (QV.eq (QV.move rfl) (congrArg Value.bool (decide_eq_true h24))) rfl rfl rfl ?_
              obtain ⟨y25, hc26, hm⟩ := bind_inv hm
              refine JL.mv (d := some 45) (MV.call (Lo := []) (Lr := [Asr.onv 22 (NE.nest (NE.pair (NE.flat (Enc.int .u8)) (NE.pair (NE.flat (Enc.int .i64)) (NE.pair (NE.flat (Enc.int .i64)) (NE.sl (Enc.int .u8)))))) (z15.v) z16 y13.1, Asr.vw (Enc.int .u8) (s1.v) x2, Asr.vw (Enc.int .u8) (s3.v) x4]) (F34.spec _ hc26) rfl Try.func34 rfl rfl rfl [] [0, 1, 2] rfl rfl rfl trivial) rfl rfl rfl ?_
              rintro _ _ ⟨_, ⟨rfl, rfl⟩, rfl⟩
              refine JL.val (v := .bool y25) (QV.pickT rfl rfl) rfl rfl rfl ?_
              refine JL.val (v := .bool y25) (QV.assign rfl) rfl rfl rfl ?_
              refine JL.nil ?_
              refine QJ.then_normal ?_
              refine JC.ret ?_
              refine QJ.then_ret ?_
              obtain rfl := Option.some.inj hm
              exact QJ.body (vs := [.bool y25]) (.inl rfl) rfl (ResVs.cons (ResV.tmp rfl) ResVs.nil) [] rfl rfl (.inr trivial) ⟨rfl, rfl⟩
            ·
              refine JL.val (v := .bool false) (QV.eq (QV.move rfl) (congrArg Value.bool (decide_eq_false h24))) rfl rfl rfl ?_
              refine JL.skip (d := some 45) rfl rfl rfl ?_
              refine JL.val (v := .bool false) (QV.pickF rfl rfl) rfl rfl rfl ?_
              refine JL.val (v := .bool false) (QV.assign rfl) rfl rfl rfl ?_
              refine JL.nil ?_
              refine QJ.then_normal ?_
              refine JC.ret ?_
              refine QJ.then_ret ?_
              obtain rfl := Option.some.inj hm
              exact QJ.body (vs := [.bool false]) (.inl rfl) rfl (ResVs.cons (ResV.tmp rfl) ResVs.nil) [] rfl rfl (.inr trivial) ⟨rfl, rfl⟩
          ·
            refine JL.val (v := .bool false) (QV.eq (QV.move rfl) (congrArg Value.bool (decide_eq_false h23))) rfl rfl rfl ?_
            refine JL.skip (d := some 41) rfl rfl rfl ?_
            refine JL.skip (d := some 42) rfl rfl rfl ?_
            refine JL.val (v := .bool false) (QV.pickF rfl rfl) rfl rfl rfl ?_
            refine JL.val (v := .bool false) (QV.move rfl) rfl rfl rfl ?_
            refine JL.skip (d := some 45) rfl rfl rfl ?_
            refine JL.val (v := .bool false) (QV.pickF rfl rfl) rfl rfl rfl ?_
            refine JL.val (v := .bool false) (QV.assign rfl) rfl rfl rfl ?_
            refine JL.nil ?_
            refine QJ.then_normal ?_
            refine JC.ret ?_
            refine QJ.then_ret ?_
            obtain rfl := Option.some.inj hm
            exact QJ.body (vs := [.bool false]) (.inl rfl) rfl (ResVs.cons (ResV.tmp rfl) ResVs.nil) [] rfl rfl (.inr trivial) ⟨rfl, rfl⟩
        ·
          refine JC.condF' rfl (decide_eq_false h22) ?_
          refine JC.skip ?_
          refine QJ.then_normal ?_
          refine JC.seq ?_
          refine JC.seq ?_
          refine JC.region ?_
          refine JL.val (v := .int .i64 y13.2) (QV.move rfl) rfl rfl rfl ?_
          refine JL.val (v := .bool (!(decide (y13.2 = (0 : Int))))) (QV.neq rfl rfl) rfl rfl rfl ?_
          rcases ite_inv hm with ⟨h27, hm⟩ | ⟨h27, hm⟩
          ·
            refine JL.val (v := .bool false) (QV.eq (QV.move rfl) (congrArg Value.bool (congrArg Bool.not (decide_eq_true h27)))) rfl rfl rfl ?_
            refine JL.val (v := z15.v) (QV.move rfl) rfl rfl rfl ?_
            refine JL.val (v := .int .i64 ((y13.1).length : Int)) (QV.lenN (RdN.onv 0 rfl) Try.underlying57 rfl) rfl rfl rfl ?_
            refine JL.val (v := s3.v) (QV.move rfl) rfl rfl rfl ?_
            refine JL.val (v := .int .i64 ((x4).length : Int)) (QV.len (Rdg.vw 2 rfl) Try.underlying23 rfl) rfl rfl rfl ?_
            refine JL.val (v := .int .i64 x5) (QV.move rfl) rfl rfl rfl ?_
            obtain ⟨y28, hc29, hm⟩ := bind_inv hm
            refine JL.mv (d := some 55) (MV.call (Lo := []) (Lr := [Asr.onv 22 (NE.nest (NE.pair (NE.flat (Enc.int .u8)) (NE.pair (NE.flat (Enc.int .i64)) (NE.pair (NE.flat (Enc.int .i64)) (NE.sl (Enc.int .u8)))))) (z15.v) z16 y13.1, Asr.vw (Enc.int .u8) (s1.v) x2, Asr.vw (Enc.int .u8) (s3.v) x4]) (F36.spec (((x4).length : Int)) (x5) _ hc29) rfl Try.func36 rfl rfl rfl [] [0, 1, 2] rfl rfl rfl trivial) rfl rfl rfl ?_
            rintro _ _ ⟨_, ⟨rfl, rfl⟩, rfl⟩
            refine JL.val (v := .bool (!(decide (((y13.1).length : Int) = y28)))) (QV.neq rfl rfl) rfl rfl rfl ?_
            refine JL.val (v := .bool (!(decide (((y13.1).length : Int) = y28)))) (QV.pickF rfl rfl) rfl rfl rfl ?_
            refine JL.nil ?_
            refine QJ.then_normal ?_
            rcases ite_inv hm with ⟨h30, hm⟩ | ⟨h30, hm⟩
            ·
              refine JC.condF' rfl (congrArg Bool.not (decide_eq_true h30)) ?_
              refine JC.skip ?_
              refine QJ.then_normal ?_
              refine JC.seq ?_
              refine JC.seq ?_
              refine JC.region ?_
              refine JL.val (v := .int .i64 (0 : Int)) (QV.assign rfl) rfl rfl rfl ?_
              refine JL.nil ?_
              refine QJ.then_normal ?_
              refine JC.cutK (Y := Unit × Unit) (fun y => match y with | (_, _) => F11.j1 = some r) (fun y => match y with | (_, _) => []) (fun y => match y with | (_, _) => []) ?_ ?_
              ·
                rintro ⟨⟨⟩, ⟨⟩⟩ hm
                unfold F11.j1 at hm
                show QJ _ _ [] [] _ _
                refine QJ.then_normal ?_
                refine JC.seq ?_
                refine JC.region ?_
                obtain ⟨y31, hc32, hm⟩ := bind_inv hm
                refine JL.mv (d := some 107) (MV.call (Lo := []) (Lr := []) (F34.spec _ hc32) rfl Try.func34 rfl rfl rfl [] [] rfl rfl rfl trivial) rfl rfl rfl ?_
                rintro _ _ ⟨_, ⟨rfl, rfl⟩, rfl⟩
                refine JL.val (v := .bool y31) (QV.assign rfl) rfl rfl rfl ?_
                refine JL.nil ?_
                refine QJ.then_normal ?_
                refine JC.ret ?_
                obtain rfl := Option.some.inj hm
                exact QJ.body (vs := [.bool y31]) (.inl rfl) rfl (ResVs.cons (ResV.tmp rfl) ResVs.nil) [] rfl rfl (.inr trivial) ⟨rfl, rfl⟩
              ·
                refine JC.block ?_
                obtain ⟨y35, hl36, hmo37⟩ := bind_inv hm
                refine JC.loop (F11.b1 x2 x4 x5 y13) (fun x z => match x, z with | d33, _ => [(0, s1.v), (1, s3.v), (2, .int .i64 x5), (7, z15.v), (9, .int .i64 d33)]) (fun x z => match x, z with | d33, _ => [Asr.vw (Enc.int .u8) (s1.v) x2, Asr.vw (Enc.int .u8) (s3.v) x4, Asr.onv 22 (NE.nest (NE.pair (NE.flat (Enc.int .u8)) (NE.pair (NE.flat (Enc.int .i64)) (NE.pair (NE.flat (Enc.int .i64)) (NE.sl (Enc.int .u8)))))) (z15.v) z16 y13.1]) (0 : Int) () y35 hl36 [1, 2, 0] (by exact ⟨rfl, rfl, rfl, rfl, rfl, trivial⟩) rfl rfl ?_
                rintro d33 ⟨⟩ s38 hm
                unfold F11.b1 at hm
                dsimp only at hm
                show JC _ _ _ [(0, s1.v), (1, s3.v), (2, .int .i64 x5), (7, z15.v), (9, .int .i64 d33)] [Asr.vw (Enc.int .u8) (s1.v) x2, Asr.vw (Enc.int .u8) (s3.v) x4, Asr.onv 22 (NE.nest (NE.pair (NE.flat (Enc.int .u8)) (NE.pair (NE.flat (Enc.int .i64)) (NE.pair (NE.flat (Enc.int .i64)) (NE.sl (Enc.int .u8)))))) (z15.v) z16 y13.1] _ _
                refine JC.seq ?_
                refine JC.seq ?_
                refine JC.region ?_
                refine JL.val (v := .int .i64 d33) (QV.move rfl) rfl rfl rfl ?_
                refine JL.val (v := z15.v) (QV.move rfl) rfl rfl rfl ?_
                refine JL.val (v := .int .i64 ((y13.1).length : Int)) (QV.lenN (RdN.onv 2 rfl) Try.underlying57 rfl) rfl rfl rfl ?_
                refine JL.val (v := .bool (decide (d33 < ((y13.1).length : Int)))) (QV.lss rfl rfl) rfl rfl rfl ?_
                refine JL.nil ?_
                refine QJ.then_normal ?_
                rcases ite_inv hm with ⟨h39, hm⟩ | ⟨h39, hm⟩
                ·
                  refine JC.condT' rfl (decide_eq_true h39) ?_
                  refine JC.skip ?_
                  refine QJ.then_normal ?_
                  refine JC.seq ?_
                  refine JC.block ?_
                  refine JC.seq ?_
                  refine JC.region ?_
                  refine JL.val (v := s3.v) (QV.move rfl) rfl rfl rfl ?_
                  refine JL.val (v := .int .i64 x5) (QV.move rfl) rfl rfl rfl ?_
                  refine JL.val (v := .int .i64 d33) (QV.move rfl) rfl rfl rfl ?_
                  obtain ⟨y40, hc41, hm⟩ := bind_inv hm
                  refine JL.mv (d := some 67) (MV.call (Lo := []) (Lr := [Asr.vw (Enc.int .u8) (s1.v) x2, Asr.vw (Enc.int .u8) (s3.v) x4, Asr.onv 22 (NE.nest (NE.pair (NE.flat (Enc.int .u8)) (NE.pair (NE.flat (Enc.int .i64)) (NE.pair (NE.flat (Enc.int .i64)) (NE.sl (Enc.int .u8)))))) (z15.v) z16 y13.1]) (F37.spec (s3) (x4) (x5) (d33) _ hc41) rfl Try.func37 rfl rfl rfl [] [0, 1, 2] rfl rfl rfl ⟨(Drv.vw 1 rfl), trivial⟩) rfl rfl rfl ?_
                  rintro _ _ ⟨_, ⟨z42, rfl, rfl⟩, rfl⟩
                  refine JL.val (v := z42.v) (QV.assign rfl) rfl rfl rfl ?_
                  refine JL.nil ?_
                  refine QJ.then_normal ?_
                  refine JC.seq ?_
                  refine JC.region ?_
                  refine JL.val (v := z15.v) (QV.move rfl) rfl rfl rfl ?_
                  refine JL.val (v := .int .i64 d33) (QV.move rfl) rfl rfl rfl ?_
                  obtain ⟨h43, hm⟩ := guard_inv hm
                  refine JL.val (v := .pointer (some (elA (z15.v) (Int.toNat d33 * ((NE.nest (NE.pair (NE.flat (Enc.int .u8)) (NE.pair (NE.flat (Enc.int .i64)) (NE.pair (NE.flat (Enc.int .i64)) (NE.sl (Enc.int .u8)))))).E).sz)))) (QV.indexN (RdN.onv 3 rfl) Try.underlying57 tk_22 rfl rfl h43) rfl rfl rfl ?_
                  refine JL.val (v := (gd z16 d33).1.v) (QV.el1N (RdN.onv 3 rfl) tk_22 rfl h43 rfl) rfl rfl rfl ?_
                  refine JL.val (v := s1.v) (QV.move rfl) rfl rfl rfl ?_
                  refine JL.val (v := z42.v) (QV.move rfl) rfl rfl rfl ?_
                  refine JL.val (v := .int .i64 ((y40).length : Int)) (QV.len (Rdg.vw 0 rfl) Try.underlying23 rfl) rfl rfl rfl ?_
                  obtain ⟨y44, hc45, hm⟩ := bind_inv hm
                  refine JL.mv (d := some 76) (MV.call (Lo := []) (Lr := [Asr.vw (Enc.int .u8) (z42.v) y40, Asr.vw (Enc.int .u8) (s1.v) x2, Asr.vw (Enc.int .u8) (s3.v) x4, Asr.onv 22 (NE.nest (NE.pair (NE.flat (Enc.int .u8)) (NE.pair (NE.flat (Enc.int .i64)) (NE.pair (NE.flat (Enc.int .i64)) (NE.sl (Enc.int .u8)))))) (z15.v) z16 y13.1]) (F17.spec ((gd z16 d33).1) ((gd z16 d33).2) (s1) ((gd y13.1 d33)) (x2) (((y40).length : Int)) _ hc45) rfl Try.func17 rfl rfl rfl [] [0, 1, 2, 3] rfl rfl rfl ⟨(Drv.el (K := (NE.nest (NE.pair (NE.flat (Enc.int .u8)) (NE.pair (NE.flat (Enc.int .i64)) (NE.pair (NE.flat (Enc.int .i64)) (NE.sl (Enc.int .u8))))))) (A := Asr.vn (NE.pair (NE.flat (Enc.int .u8)) (NE.pair (NE.flat (Enc.int .i64)) (NE.pair (NE.flat (Enc.int .i64)) (NE.sl (Enc.int .u8))))) ((gd z16 d33).1.v) (gd z16 d33).2 (gd y13.1 d33)) (Drv.onv 3 rfl) h43 (fun _ _ q => q)), ⟨(Drv.vw 1 rfl), trivial⟩⟩) rfl rfl rfl ?_
                  rintro _ _ ⟨_, ⟨z46, rfl, rfl⟩, rfl⟩
                  refine JL.val (v := .tuple #[z46.v, .int .i64 y44.2]) (QV.move rfl) rfl rfl rfl ?_
                  refine JL.val (v := z46.v) (QV.extract (vs := [z46.v, .int .i64 y44.2]) rfl rfl) rfl rfl rfl ?_
                  refine JL.val (v := .int .i64 y44.2) (QV.extract (vs := [z46.v, .int .i64 y44.2]) rfl rfl) rfl rfl rfl ?_
                  refine JL.val (v := z46.v) (QV.assign rfl) rfl rfl rfl ?_
                  refine JL.val (v := .int .i64 y44.2) (QV.assign rfl) rfl rfl rfl ?_
                  refine JL.nil ?_
                  refine QJ.then_normal ?_
                  refine JC.seq ?_
                  refine JC.region ?_
                  refine JL.val (v := z15.v) (QV.move rfl) rfl rfl rfl ?_
                  refine JL.val (v := .int .i64 d33) (QV.move rfl) rfl rfl rfl ?_
                  refine JL.val (v := .pointer (some (elA (z15.v) (Int.toNat d33 * ((NE.nest (NE.pair (NE.flat (Enc.int .u8)) (NE.pair (NE.flat (Enc.int .i64)) (NE.pair (NE.flat (Enc.int .i64)) (NE.sl (Enc.int .u8)))))).E).sz)))) (QV.indexN (RdN.onv 4 rfl) Try.underlying57 tk_22 rfl rfl h43) rfl rfl rfl ?_
                  refine JL.val (v := (gd z16 d33).1.v) (QV.el1N (RdN.onv 4 rfl) tk_22 rfl h43 rfl) rfl rfl rfl ?_
                  obtain ⟨y47, hc48, hm⟩ := bind_inv hm
                  refine JL.mv (d := some 84) (MV.call (Lo := []) (Lr := [Asr.of 5 (Enc.int .u8) (z46.v) y44.1, Asr.vw (Enc.int .u8) (z42.v) y40, Asr.vw (Enc.int .u8) (s1.v) x2, Asr.vw (Enc.int .u8) (s3.v) x4, Asr.onv 22 (NE.nest (NE.pair (NE.flat (Enc.int .u8)) (NE.pair (NE.flat (Enc.int .i64)) (NE.pair (NE.flat (Enc.int .i64)) (NE.sl (Enc.int .u8)))))) (z15.v) z16 y13.1]) (F25.spec ((gd z16 d33).1) ((gd z16 d33).2) ((gd y13.1 d33)) _ hc48) rfl Try.func25 rfl rfl rfl [] [0, 1, 2, 3, 4] rfl rfl rfl ⟨(Drv.el (K := (NE.nest (NE.pair (NE.flat (Enc.int .u8)) (NE.pair (NE.flat (Enc.int .i64)) (NE.pair (NE.flat (Enc.int .i64)) (NE.sl (Enc.int .u8))))))) (A := Asr.vn (NE.pair (NE.flat (Enc.int .u8)) (NE.pair (NE.flat (Enc.int .i64)) (NE.pair (NE.flat (Enc.int .i64)) (NE.sl (Enc.int .u8))))) ((gd z16 d33).1.v) (gd z16 d33).2 (gd y13.1 d33)) (Drv.onv 4 rfl) h43 (fun _ _ q => q)), trivial⟩) rfl rfl rfl ?_
                  rintro _ _ ⟨_, ⟨z49, rfl, rfl⟩, rfl⟩
                  refine JL.val (v := .tuple #[z49.v, .int .i64 y47.2]) (QV.move rfl) rfl rfl rfl ?_
                  refine JL.val (v := z49.v) (QV.extract (vs := [z49.v, .int .i64 y47.2]) rfl rfl) rfl rfl rfl ?_
                  refine JL.val (v := .int .i64 y47.2) (QV.extract (vs := [z49.v, .int .i64 y47.2]) rfl rfl) rfl rfl rfl ?_
                  refine JL.val (v := z49.v) (QV.assign rfl) rfl rfl rfl ?_
                  refine JL.val (v := .int .i64 y47.2) (QV.assign rfl) rfl rfl rfl ?_
                  refine JL.nil ?_
                  refine QJ.then_normal ?_
                  refine JC.seq ?_
                  refine JC.region ?_
                  refine JL.val (v := .int .i64 y44.2) (QV.move rfl) rfl rfl rfl ?_
                  refine JL.val (v := .bool (!(decide (y44.2 = (0 : Int))))) (QV.neq rfl rfl) rfl rfl rfl ?_
                  rcases ite_inv hm with ⟨h50, hm⟩ | ⟨h50, hm⟩
                  ·
                    refine JL.val (v := .bool false) (QV.eq (QV.move rfl) (congrArg Value.bool (congrArg Bool.not (decide_eq_true h50)))) rfl rfl rfl ?_
                    refine JL.val (v := z46.v) (QV.move rfl) rfl rfl rfl ?_
                    refine JL.val (v := .string (strOfNums y44.1)) (QV.str (Rdg.of 1 rfl) Try.underlying23 Try.underlying5 Try.underlying9 rfl) rfl rfl rfl ?_
                    refine JL.val (v := z42.v) (QV.move rfl) rfl rfl rfl ?_
                    refine JL.val (v := .string (strOfNums y40)) (QV.str (Rdg.vw 2 rfl) Try.underlying23 Try.underlying5 Try.underlying9 rfl) rfl rfl rfl ?_
                    refine JL.val (v := .bool (!(decide ((strOfNums y44.1) = (strOfNums y40))))) (QV.neqS rfl rfl) rfl rfl rfl ?_
                    refine JL.val (v := .bool (!(decide ((strOfNums y44.1) = (strOfNums y40))))) (QV.pickF rfl rfl) rfl rfl rfl ?_
                    rcases ite_inv hm with ⟨h51, hm⟩ | ⟨h51, hm⟩
                    ·
                      refine JL.val (v := .bool false) (QV.eq (QV.move rfl) (congrArg Value.bool (congrArg Bool.not (decide_eq_true h51)))) rfl rfl rfl ?_
                      refine JL.val (v := .int .i64 y47.2) (QV.move rfl) rfl rfl rfl ?_
                      refine JL.val (v := .bool (!(decide (y47.2 = (0 : Int))))) (QV.neq rfl rfl) rfl rfl rfl ?_
                      refine JL.val (v := .bool (!(decide (y47.2 = (0 : Int))))) (QV.pickF rfl rfl) rfl rfl rfl ?_
                      rcases ite_inv hm with ⟨h52, hm⟩ | ⟨h52, hm⟩
                      ·
                        refine JL.val (v := .bool false) (QV.eq (QV.move rfl) (congrArg Value.bool (congrArg Bool.not (decide_eq_true h52)))) rfl rfl rfl ?_
                        refine JL.val (v := z49.v) (QV.move rfl) rfl rfl rfl ?_
                        refine JL.val (v := .int .i64 ((y47.1).length : Int)) (QV.len (Rdg.of 0 rfl) Try.underlying23 rfl) rfl rfl rfl ?_
                        refine JL.val (v := .int .i64 x5) (QV.move rfl) rfl rfl rfl ?_
                        refine JL.val (v := .int .i64 (IntKind.wrap .i64 (x5 + (12 : Int)))) (QV.add rfl rfl) rfl rfl rfl ?_
                        refine JL.val (v := .bool (decide ((IntKind.wrap .i64 (x5 + (12 : Int))) < ((y47.1).length : Int)))) (QV.gtr rfl rfl) rfl rfl rfl ?_
                        refine JL.val (v := .bool (decide ((IntKind.wrap .i64 (x5 + (12 : Int))) < ((y47.1).length : Int)))) (QV.pickF rfl rfl) rfl rfl rfl ?_
                        refine JL.nil ?_
                        refine QJ.then_normal ?_
                        rcases ite_inv hm with ⟨h53, hm⟩ | ⟨h53, hm⟩
                        ·
                          refine JC.condT' rfl (decide_eq_true h53) ?_
                          refine JC.seq ?_
                          refine JC.region ?_
                          refine JL.val (v := .bool false) (QV.assign rfl) rfl rfl rfl ?_
                          refine JL.nil ?_
                          refine QJ.then_normal ?_
                          refine JC.ret ?_
                          refine QJ.block_ret ?_
                          refine QJ.then_ret ?_
                          obtain rfl := Option.some.inj hm
                          refine QJ.round_ret (fun hy => ?_)
                          subst hy
                          refine QJ.block_ret ?_
                          refine QJ.cut_ret ?_
                          refine QJ.then_ret ?_
                          obtain rfl := Option.some.inj hmo37
                          exact QJ.body (vs := [.bool false]) (.inl rfl) rfl (ResVs.cons (ResV.tmp rfl) ResVs.nil) [] rfl rfl (.inr trivial) ⟨rfl, rfl⟩
                        ·
                          refine JC.condF' rfl (decide_eq_false h53) ?_
                          refine JC.skip ?_
                          refine QJ.block_normal ?_
                          refine QJ.then_normal ?_
                          refine JC.region ?_
                          refine JL.val (v := .int .i64 d33) (QV.move rfl) rfl rfl rfl ?_
                          refine JL.val (v := .int .i64 (IntKind.wrap .i64 (d33 + (1 : Int)))) (QV.add rfl rfl) rfl rfl rfl ?_
                          refine JL.val (v := .int .i64 (IntKind.wrap .i64 (d33 + (1 : Int)))) (QV.assign rfl) rfl rfl rfl ?_
                          refine JL.nil ?_
                          obtain rfl := Option.some.inj hm
                          exact QJ.round_on (IntKind.wrap .i64 (d33 + (1 : Int))) () [3, 4, 5] (by exact ⟨rfl, rfl, rfl, rfl, rfl, trivial⟩) rfl rfl
                      ·
                        refine JL.val (v := .bool true) (QV.eq (QV.move rfl) (congrArg Value.bool (congrArg Bool.not (decide_eq_false h52)))) rfl rfl rfl ?_
                        refine JL.skip (d := some 101) rfl rfl rfl ?_
                        refine JL.skip (d := some 102) rfl rfl rfl ?_
                        refine JL.skip (d := some 103) rfl rfl rfl ?_
                        refine JL.skip (d := some 104) rfl rfl rfl ?_
                        refine JL.skip (d := some 105) rfl rfl rfl ?_
                        refine JL.val (v := .bool true) (QV.pickT rfl rfl) rfl rfl rfl ?_
                        refine JL.nil ?_
                        refine QJ.then_normal ?_
                        refine JC.condT rfl ?_
                        refine JC.seq ?_
                        refine JC.region ?_
                        refine JL.val (v := .bool false) (QV.assign rfl) rfl rfl rfl ?_
                        refine JL.nil ?_
                        refine QJ.then_normal ?_
                        refine JC.ret ?_
                        refine QJ.block_ret ?_
                        refine QJ.then_ret ?_
                        obtain rfl := Option.some.inj hm
                        refine QJ.round_ret (fun hy => ?_)
                        subst hy
                        refine QJ.block_ret ?_
                        refine QJ.cut_ret ?_
                        refine QJ.then_ret ?_
                        obtain rfl := Option.some.inj hmo37
                        exact QJ.body (vs := [.bool false]) (.inl rfl) rfl (ResVs.cons (ResV.tmp rfl) ResVs.nil) [] rfl rfl (.inr trivial) ⟨rfl, rfl⟩
                    ·
                      refine JL.val (v := .bool true) (QV.eq (QV.move rfl) (congrArg Value.bool (congrArg Bool.not (decide_eq_false h51)))) rfl rfl rfl ?_
                      refine JL.skip (d := some 97) rfl rfl rfl ?_
                      refine JL.skip (d := some 98) rfl rfl rfl ?_
                      refine JL.val (v := .bool true) (QV.pickT rfl rfl) rfl rfl rfl ?_
                      refine JL.val (v := .bool true) (QV.move rfl) rfl rfl rfl ?_
                      refine JL.skip (d := some 101) rfl rfl rfl ?_
                      refine JL.skip (d := some 102) rfl rfl rfl ?_
                      refine JL.skip (d := some 103) rfl rfl rfl ?_
                      refine JL.skip (d := some 104) rfl rfl rfl ?_
                      refine JL.skip (d := some 105) rfl rfl rfl ?_
                      refine JL.val (v := .bool true) (QV.pickT rfl rfl) rfl rfl rfl ?_
                      refine JL.nil ?_
                      refine QJ.then_normal ?_
                      refine JC.condT rfl ?_
                      refine JC.seq ?_
                      refine JC.region ?_
                      refine JL.val (v := .bool false) (QV.assign rfl) rfl rfl rfl ?_
                      refine JL.nil ?_
                      refine QJ.then_normal ?_
                      refine JC.ret ?_
                      refine QJ.block_ret ?_
                      refine QJ.then_ret ?_
                      obtain rfl := Option.some.inj hm
                      refine QJ.round_ret (fun hy => ?_)
                      subst hy
                      refine QJ.block_ret ?_
                      refine QJ.cut_ret ?_
                      refine QJ.then_ret ?_
                      obtain rfl := Option.some.inj hmo37
                      exact QJ.body (vs := [.bool false]) (.inl rfl) rfl (ResVs.cons (ResV.tmp rfl) ResVs.nil) [] rfl rfl (.inr trivial) ⟨rfl, rfl⟩
                  ·
                    refine JL.val (v := .bool true) (QV.eq (QV.move rfl) (congrArg Value.bool (congrArg Bool.not (decide_eq_false h50)))) rfl rfl rfl ?_
                    refine JL.skip (d := some 90) rfl rfl rfl ?_
                    refine JL.skip (d := some 91) rfl rfl rfl ?_
                    refine JL.skip (d := some 92) rfl rfl rfl ?_
                    refine JL.skip (d := some 93) rfl rfl rfl ?_
                    refine JL.skip (d := some 94) rfl rfl rfl ?_
                    refine JL.val (v := .bool true) (QV.pickT rfl rfl) rfl rfl rfl ?_
                    refine JL.val (v := .bool true) (QV.move rfl) rfl rfl rfl ?_
                    refine JL.skip (d := some 97) rfl rfl rfl ?_
                    refine JL.skip (d := some 98) rfl rfl rfl ?_
                    refine JL.val (v := .bool true) (QV.pickT rfl rfl) rfl rfl rfl ?_
                    refine JL.val (v := .bool true) (QV.move rfl) rfl rfl rfl ?_
                    refine JL.skip (d := some 101) rfl rfl rfl ?_
                    refine JL.skip (d := some 102) rfl rfl rfl ?_
                    refine JL.skip (d := some 103) rfl rfl rfl ?_
                    refine JL.skip (d := some 104) rfl rfl rfl ?_
                    refine JL.skip (d := some 105) rfl rfl rfl ?_
                    refine JL.val (v := .bool true) (QV.pickT rfl rfl) rfl rfl rfl ?_
                    refine JL.nil ?_
                    refine QJ.then_normal ?_
                    refine JC.condT rfl ?_
                    refine JC.seq ?_
                    refine JC.region ?_
                    refine JL.val (v := .bool false) (QV.assign rfl) rfl rfl rfl ?_
                    refine JL.nil ?_
                    refine QJ.then_normal ?_
                    refine JC.ret ?_
                    refine QJ.block_ret ?_
                    refine QJ.then_ret ?_
                    obtain rfl := Option.some.inj hm
                    refine QJ.round_ret (fun hy => ?_)
                    subst hy
                    refine QJ.block_ret ?_
                    refine QJ.cut_ret ?_
                    refine QJ.then_ret ?_
                    obtain rfl := Option.some.inj hmo37
                    exact QJ.body (vs := [.bool false]) (.inl rfl) rfl (ResVs.cons (ResV.tmp rfl) ResVs.nil) [] rfl rfl (.inr trivial) ⟨rfl, rfl⟩
                ·
                  refine JC.condF' rfl (decide_eq_false h39) ?_
                  refine JC.exit ?_
                  refine QJ.then_exit ?_
                  obtain rfl := Option.some.inj hm
                  refine QJ.round_exit (fun hy => ?_)
                  subst hy
                  refine QJ.block_hit ?_
                  exact QJ.cut_normal ((), ()) hmo37 [] trivial rfl rfl
            ·
              refine JC.condT' rfl (congrArg Bool.not (decide_eq_false h30)) ?_
              refine JC.seq ?_
              refine JC.region ?_
              refine JL.val (v := .bool false) (QV.assign rfl) rfl rfl rfl ?_
              refine JL.nil ?_
              refine QJ.then_normal ?_
              refine JC.ret ?_
              refine QJ.then_ret ?_
              obtain rfl := Option.some.inj hm
              exact QJ.body (vs := [.bool false]) (.inl rfl) rfl (ResVs.cons (ResV.tmp rfl) ResVs.nil) [] rfl rfl (.inr trivial) ⟨rfl, rfl⟩
          ·
            refine JL.val (v := .bool true) (QV.eq (QV.move rfl) (congrArg Value.bool (congrArg Bool.not (decide_eq_false h27)))) rfl rfl rfl ?_
            refine JL.skip (d := some 50) rfl rfl rfl ?_
            refine JL.skip (d := some 51) rfl rfl rfl ?_
            refine JL.skip (d := some 52) rfl rfl rfl ?_
            refine JL.skip (d := some 53) rfl rfl rfl ?_
            refine JL.skip (d := some 54) rfl rfl rfl ?_
            refine JL.skip (d := some 55) rfl rfl rfl ?_
            refine JL.skip (d := some 56) rfl rfl rfl ?_
            refine JL.val (v := .bool true) (QV.pickT rfl rfl) rfl rfl rfl ?_
            refine JL.nil ?_
            refine QJ.then_normal ?_
            refine JC.condT rfl ?_
            refine JC.seq ?_
            refine JC.region ?_
            refine JL.val (v := .bool false) (QV.assign rfl) rfl rfl rfl ?_
            refine JL.nil ?_
            refine QJ.then_normal ?_
            refine JC.ret ?_
            refine QJ.then_ret ?_
            obtain rfl := Option.some.inj hm
            exact QJ.body (vs := [.bool false]) (.inl rfl) rfl (ResVs.cons (ResV.tmp rfl) ResVs.nil) [] rfl rfl (.inr trivial) ⟨rfl, rfl⟩

end Go.Proofs.Ytedokgdilpfomaa
