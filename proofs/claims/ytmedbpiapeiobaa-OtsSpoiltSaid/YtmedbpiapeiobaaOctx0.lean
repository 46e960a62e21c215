/- Written by gen.py: functions and their contracts. -/
import Derived.Test.YtmedbpiapeiobaaSha
namespace Go.Proofs.Ytmedbpiapeiobaa
open Go Go.Eng Go.Proofs
set_option linter.unusedVariables false
set_option linter.unusedSimpArgs false
/-! ### 91: slices.Grow[[]byte,byte] -/
noncomputable def F91.j1  (d6 : List Int) : Option (List Int) :=
  some d6
noncomputable def F91.m (x1 : Int) : Option (List Int) :=
  (if x1 < (0 : Int) then none else (if (0 : Int) < (IntKind.wrap .i64 (x1 - (IntKind.wrap .i64 ((0 : Int) - ((([] : List Int)).length : Int))))) then (if 0 < (IntKind.wrap .i64 (x1 - (IntKind.wrap .i64 ((0 : Int) - ((([] : List Int)).length : Int))))) ∧ (IntKind.wrap .i64 (x1 - (IntKind.wrap .i64 ((0 : Int) - ((([] : List Int)).length : Int))))) * 1 ≤ 140737488355328 ∧ (IntKind.wrap .i64 (x1 - (IntKind.wrap .i64 ((0 : Int) - ((([] : List Int)).length : Int))))) ≤ 140737488355328 then (if 0 ≤ (0 : Int) ∧ (0 : Int) ≤ ((([] : List Int)).length : Int) ∧ ((([] : List Int)).length : Int) ≤ (((List.replicate (Int.toNat (IntKind.wrap .i64 (x1 - (IntKind.wrap .i64 ((0 : Int) - ((([] : List Int)).length : Int)))))) (0 : Int))).length : Int) then F91.j1 ((subL (List.replicate (Int.toNat (IntKind.wrap .i64 (x1 - (IntKind.wrap .i64 ((0 : Int) - ((([] : List Int)).length : Int)))))) (0 : Int)) (0 : Int) ((([] : List Int)).length : Int))) else none) else none) else F91.j1 (([] : List Int))))
set_option maxRecDepth 100000 in
set_option maxHeartbeats 4000000 in
theorem F91.spec (x1 : Int) (r : (List Int)) (hm : F91.m x1 = some r) :
    Ctr Try.prog false 91 [.slice none 0 0, .int .i64 x1] [] (fun v L' => ∃ (g2 : SlV), v = g2.v ∧ L' = [Asr.of 5 (Enc.int .u8) (g2.v) r]) := by
  refine Ctr.intro (n := 27) (env := [(0, .slice none 0 0), (1, .int .i64 x1)]) Try.func91 rfl rfl rfl rfl (fun c => ?_)
  unfold F91.m at hm
  refine JC.ent (fun _ hs => hs.nil 5 (Enc.int .u8)) ?_
  refine JC.seq ?_
  refine JC.region ?_
  refine JL.ent (fun _ hs => hs.nil 5 (Enc.int .u8)) ?_
  refine JL.val (v := SlV.nil.v) (QV.assign rfl) rfl rfl rfl ?_
  refine JL.nil ?_
  refine QJ.then_normal ?_
  refine JC.seq ?_
  refine JC.seq ?_
  refine JC.region ?_
  refine JL.val (v := .int .i64 x1) (QV.move rfl) rfl rfl rfl ?_
  refine JL.val (v := .bool (decide (x1 < (0 : Int)))) (QV.lss rfl rfl) rfl rfl rfl ?_
  refine JL.nil ?_
  refine QJ.then_normal ?_
  rcases ite_inv hm with ⟨h4, hm⟩ | ⟨h4, hm⟩
  ·
    refine JC.condT' rfl (decide_eq_true h4) ?_
    cases hm
  ·
    refine JC.condF' rfl (decide_eq_false h4) ?_
    refine JC.skip ?_
    refine QJ.then_normal ?_
    refine JC.seq ?_
    refine JC.seq ?_
    refine JC.region ?_
    refine JL.val (v := .int .i64 x1) (QV.move rfl) rfl rfl rfl ?_
    refine JL.val (v := SlV.nil.v) (QV.move rfl) rfl rfl rfl ?_
    refine JL.val (v := .int .i64 (0 : Int)) (QV.capNil Try.underlying22 rfl) rfl rfl rfl ?_
    refine JL.val (v := SlV.nil.v) (QV.move rfl) rfl rfl rfl ?_
    refine JL.val (v := .int .i64 ((([] : List Int)).length : Int)) (QV.len (Rdg.of 1 rfl) Try.underlying22 rfl) rfl rfl rfl ?_
    refine JL.val (v := .int .i64 (IntKind.wrap .i64 ((0 : Int) - ((([] : List Int)).length : Int)))) (QV.sub rfl rfl) rfl rfl rfl ?_
    refine JL.val (v := .int .i64 (IntKind.wrap .i64 (x1 - (IntKind.wrap .i64 ((0 : Int) - ((([] : List Int)).length : Int)))))) (QV.sub rfl rfl) rfl rfl rfl ?_
    refine JL.val (v := .int .i64 (IntKind.wrap .i64 (x1 - (IntKind.wrap .i64 ((0 : Int) - ((([] : List Int)).length : Int)))))) (QV.assign rfl) rfl rfl rfl ?_
    refine JL.nil ?_
    refine QJ.then_normal ?_
    refine JC.seq ?_
    refine JC.region ?_
    refine JL.val (v := .int .i64 (IntKind.wrap .i64 (x1 - (IntKind.wrap .i64 ((0 : Int) - ((([] : List Int)).length : Int)))))) (QV.move rfl) rfl rfl rfl ?_
    refine JL.val (v := .bool (decide ((0 : Int) < (IntKind.wrap .i64 (x1 - (IntKind.wrap .i64 ((0 : Int) - ((([] : List Int)).length : Int)))))))) (QV.gtr rfl rfl) rfl rfl rfl ?_
    refine JL.nil ?_
    refine QJ.then_normal ?_
    refine JC.cutK (Y := (List Int) × SlV) (fun y => match y with | (d6, _) => F91.j1 (d6) = some r) (fun y => match y with | (d6, z5) => [(0, z5.v)]) (fun y => match y with | (d6, z5) => [Asr.of 5 (Enc.int .u8) (z5.v) d6]) ?_ ?_
    ·
      rintro ⟨d6, z5⟩ hm
      unfold F91.j1 at hm
      show QJ _ _ [(0, z5.v)] [Asr.of 5 (Enc.int .u8) (z5.v) d6] _ _
      refine QJ.then_normal ?_
      refine JC.seq ?_
      refine JC.region ?_
      refine JL.val (v := z5.v) (QV.move rfl) rfl rfl rfl ?_
      refine JL.val (v := z5.v) (QV.assign rfl) rfl rfl rfl ?_
      refine JL.nil ?_
      refine QJ.then_normal ?_
      refine JC.ret ?_
      obtain rfl := Option.some.inj hm
      exact QJ.body (vs := [z5.v]) (.inl rfl) rfl (ResVs.cons (ResV.tmp rfl) ResVs.nil) [0] rfl rfl (.inr ⟨own_of _ _ _ _, trivial⟩) ⟨z5, rfl, rfl⟩
    ·
      rcases ite_inv hm with ⟨h7, hm⟩ | ⟨h7, hm⟩
      ·
        refine JC.condT' rfl (decide_eq_true h7) ?_
        refine JC.region ?_
        refine JL.val (v := SlV.nil.v) (QV.move rfl) rfl rfl rfl ?_
        refine JL.val (v := SlV.nil.v) (QV.move rfl) rfl rfl rfl ?_
        refine JL.val (v := .int .i64 (0 : Int)) (QV.capNil Try.underlying22 rfl) rfl rfl rfl ?_
        refine JL.val (v := SlV.nil.v) (QV.eq (QV.sliceV (Rdg.of 1 rfl) Try.underlying22 tk_5 rfl rfl rfl (by decide)) rfl) rfl rfl rfl ?_
        refine JL.val (v := .int .i64 (IntKind.wrap .i64 (x1 - (IntKind.wrap .i64 ((0 : Int) - ((([] : List Int)).length : Int)))))) (QV.move rfl) rfl rfl rfl ?_
        obtain ⟨h8, hm⟩ := guard_inv hm
        refine JL.mv (d := some 22) (MV.appendZ (E := (Enc.int .u8)) (0 : Int) Try.underlying22 Try.underlying3 zi_5 (by decide) rfl rfl rfl h8) rfl rfl rfl ?_
        rintro _ _ ⟨z9, rfl, rfl⟩
        refine JL.val (v := SlV.nil.v) (QV.move rfl) rfl rfl rfl ?_
        refine JL.val (v := .int .i64 ((([] : List Int)).length : Int)) (QV.len (Rdg.of 2 rfl) Try.underlying22 rfl) rfl rfl rfl ?_
        obtain ⟨h10, hm⟩ := guard_inv hm
        refine JL.val (v := (SlV.sub ((Enc.int .u8)).sz z9 (0 : Int) ((([] : List Int)).length : Int)).v) (QV.sliceV (Rdg.of 0 rfl) Try.underlying22 tk_5 rfl rfl rfl h10) rfl rfl rfl ?_
        refine JL.ent (fun _ hs => hs.trunc 0 rfl h10) ?_
        refine JL.val (v := (SlV.sub ((Enc.int .u8)).sz z9 (0 : Int) ((([] : List Int)).length : Int)).v) (QV.assign rfl) rfl rfl rfl ?_
        refine JL.nil ?_
        exact QJ.cut_normal ((subL (List.replicate (Int.toNat (IntKind.wrap .i64 (x1 - (IntKind.wrap .i64 ((0 : Int) - ((([] : List Int)).length : Int)))))) (0 : Int)) (0 : Int) ((([] : List Int)).length : Int)), (SlV.sub ((Enc.int .u8)).sz z9 (0 : Int) ((([] : List Int)).length : Int))) hm [0] (by exact ⟨rfl, trivial⟩) rfl rfl
      ·
        refine JC.condF' rfl (decide_eq_false h7) ?_
        refine JC.skip ?_
        exact QJ.cut_normal (([] : List Int), SlV.nil) hm [1] (by exact ⟨rfl, trivial⟩) rfl rfl

/-! ### 70: slices.Concat[[]byte,byte] -/
noncomputable def F70.j2  (d11 : List Int) : Option (List Int) :=
  some d11
noncomputable def F70.b1 (x2 : List (List Int)) : (List Int × Int) → Option ((List Int × Int) ⊕ (List Int))
  | (d13, d14) => (if d14 < ((x2).length : Int) then (if 0 ≤ d14 ∧ d14 < ((x2).length : Int) then (if ((d13).length + ((gd x2 d14)).length) * 1 ≤ 140737488355328 ∧ (d13).length + ((gd x2 d14)).length ≤ 9223372036854775807 then some (.inl ((d13 ++ (gd x2 d14)), (IntKind.wrap .i64 (d14 + (1 : Int))))) else none) else none) else some (.inr d13))
noncomputable def F70.j1 (x2 : List (List Int)) (d6 : Int) : Option (List Int) :=
  ((F91.m (d6)).bind fun y7 => ((loop (F70.b1 x2) (y7, (0 : Int))).bind fun y => match y with | d11 => F70.j2 (d11)))
noncomputable def F70.b2 (x2 : List (List Int)) : (Int × Int) → Option ((Int × Int) ⊕ Int)
  | (d26, d27) => (if d27 < ((x2).length : Int) then (if 0 ≤ d27 ∧ d27 < ((x2).length : Int) then (if (IntKind.wrap .i64 (d26 + (((gd x2 d27)).length : Int))) < (0 : Int) then none else some (.inl ((IntKind.wrap .i64 (d26 + (((gd x2 d27)).length : Int))), (IntKind.wrap .i64 (d27 + (1 : Int)))))) else none) else some (.inr d26))
noncomputable def F70.m (x2 : List (List Int)) : Option (List Int) :=
  ((loop (F70.b2 x2) ((0 : Int), (0 : Int))).bind fun y => match y with | d6 => F70.j1 x2 (d6))
set_option maxRecDepth 100000 in
set_option maxHeartbeats 4000000 in
theorem F70.spec (s1 : SlV) (z3 : List SlV) (x2 : List (List Int)) (r : (List Int)) (hm : F70.m x2 = some r) :
    Ctr Try.prog false 70 [s1.v] [Asr.vn (NE.sl (Enc.int .u8)) (s1.v) z3 x2] (fun v L' => ∃ (g4 : SlV), v = g4.v ∧ L' = [Asr.of 5 (Enc.int .u8) (g4.v) r]) := by
  refine Ctr.intro (n := 36) (env := [(0, s1.v)]) Try.func70 rfl rfl rfl rfl (fun c => ?_)
  unfold F70.m at hm
  refine JC.seq ?_
  refine JC.region ?_
  refine JL.ent (fun _ hs => hs.nil 5 (Enc.int .u8)) ?_
  refine JL.val (v := SlV.nil.v) (QV.assign rfl) rfl rfl rfl ?_
  refine JL.nil ?_
  refine QJ.then_normal ?_
  refine JC.seq ?_
  refine JC.region ?_
  refine JL.val (v := .int .i64 (0 : Int)) (QV.assign rfl) rfl rfl rfl ?_
  refine JL.nil ?_
  refine QJ.then_normal ?_
  refine JC.seq ?_
  refine JC.seq ?_
  refine JC.region ?_
  refine JL.val (v := s1.v) (QV.move rfl) rfl rfl rfl ?_
  refine JL.val (v := .int .i64 ((x2).length : Int)) (QV.lenN (RdN.vn 1 rfl) Try.underlying50 rfl) rfl rfl rfl ?_
  refine JL.val (v := .int .i64 (0 : Int)) (QV.move rfl) rfl rfl rfl ?_
  refine JL.nil ?_
  refine QJ.then_normal ?_
  refine JC.cutK (Y := Int × Unit) (fun y => match y with | (d6, _) => F70.j1 x2 (d6) = some r) (fun y => match y with | (d6, _) => [(0, s1.v), (3, .int .i64 d6)]) (fun y => match y with | (d6, _) => [Asr.vn (NE.sl (Enc.int .u8)) (s1.v) z3 x2]) ?_ ?_
  ·
    rintro ⟨d6, ⟨⟩⟩ hm
    unfold F70.j1 at hm
    show QJ _ _ [(0, s1.v), (3, .int .i64 d6)] [Asr.vn (NE.sl (Enc.int .u8)) (s1.v) z3 x2] _ _
    refine QJ.then_normal ?_
    refine JC.seq ?_
    refine JC.region ?_
    refine JL.val (v := .int .i64 d6) (QV.move rfl) rfl rfl rfl ?_
    obtain ⟨y7, hc8, hm⟩ := bind_inv hm
    refine JL.mv (d := some 24) (MV.call (Lo := []) (Lr := [Asr.vn (NE.sl (Enc.int .u8)) (s1.v) z3 x2]) (F91.spec (d6) _ hc8) rfl Try.func91 rfl rfl rfl [] [0] rfl rfl rfl trivial) rfl rfl rfl ?_
    rintro _ _ ⟨_, ⟨z9, rfl, rfl⟩, rfl⟩
    refine JL.val (v := z9.v) (QV.assign rfl) rfl rfl rfl ?_
    refine JL.nil ?_
    refine QJ.then_normal ?_
    refine JC.seq ?_
    refine JC.seq ?_
    refine JC.region ?_
    refine JL.val (v := s1.v) (QV.move rfl) rfl rfl rfl ?_
    refine JL.val (v := .int .i64 ((x2).length : Int)) (QV.lenN (RdN.vn 1 rfl) Try.underlying50 rfl) rfl rfl rfl ?_
    refine JL.val (v := .int .i64 (0 : Int)) (QV.move rfl) rfl rfl rfl ?_
    refine JL.nil ?_
    refine QJ.then_normal ?_
    refine JC.cutK (Y := (List Int) × SlV) (fun y => match y with | (d11, _) => F70.j2 (d11) = some r) (fun y => match y with | (d11, z10) => [(6, z10.v)]) (fun y => match y with | (d11, z10) => [Asr.of 5 (Enc.int .u8) (z10.v) d11]) ?_ ?_
    ·
      rintro ⟨d11, z10⟩ hm
      unfold F70.j2 at hm
      show QJ _ _ [(6, z10.v)] [Asr.of 5 (Enc.int .u8) (z10.v) d11] _ _
      refine QJ.then_normal ?_
      refine JC.seq ?_
      refine JC.region ?_
      refine JL.val (v := z10.v) (QV.move rfl) rfl rfl rfl ?_
      refine JL.val (v := z10.v) (QV.assign rfl) rfl rfl rfl ?_
      refine JL.nil ?_
      refine QJ.then_normal ?_
      refine JC.ret ?_
      obtain rfl := Option.some.inj hm
      exact QJ.body (vs := [z10.v]) (.inl rfl) rfl (ResVs.cons (ResV.tmp rfl) ResVs.nil) [0] rfl rfl (.inr ⟨own_of _ _ _ _, trivial⟩) ⟨z10, rfl, rfl⟩
    ·
      refine JC.block ?_
      obtain ⟨y18, hl19, hmo20⟩ := bind_inv hm
      refine JC.loop (F70.b1 x2) (fun x z => match x, z with | (d13, d14), z12 => [(6, z12.v), (25, s1.v), (26, .int .i64 ((x2).length : Int)), (27, .int .i64 d14)]) (fun x z => match x, z with | (d13, d14), z12 => [Asr.of 5 (Enc.int .u8) (z12.v) d13, Asr.vn (NE.sl (Enc.int .u8)) (s1.v) z3 x2]) (y7, (0 : Int)) z9 y18 hl19 [0, 1] (by exact ⟨rfl, rfl, rfl, rfl, trivial⟩) rfl rfl ?_
      rintro ⟨d13, d14⟩ z12 s21 hm
      unfold F70.b1 at hm
      dsimp only at hm
      show JC _ _ _ [(6, z12.v), (25, s1.v), (26, .int .i64 ((x2).length : Int)), (27, .int .i64 d14)] [Asr.of 5 (Enc.int .u8) (z12.v) d13, Asr.vn (NE.sl (Enc.int .u8)) (s1.v) z3 x2] _ _
      refine JC.seq ?_
      refine JC.region ?_
      refine JL.val (v := .bool (decide (d14 < ((x2).length : Int)))) (QV.lss rfl rfl) rfl rfl rfl ?_
      refine JL.nil ?_
      refine QJ.then_normal ?_
      refine JC.seq ?_
      rcases ite_inv hm with ⟨h22, hm⟩ | ⟨h22, hm⟩
      ·
        refine JC.condT' rfl (decide_eq_true h22) ?_
        refine JC.skip ?_
        refine QJ.then_normal ?_
        refine JC.seq ?_
        refine JC.block ?_
        refine JC.seq ?_
        refine JC.region ?_
        obtain ⟨h23, hm⟩ := guard_inv hm
        refine JL.val (v := .pointer (some (elA (s1.v) (Int.toNat d14 * ((NE.sl (Enc.int .u8)).E).sz)))) (QV.indexN (RdN.vn 1 rfl) Try.underlying50 tk_22 rfl rfl h23) rfl rfl rfl ?_
        refine JL.val (v := (gd z3 d14).v) (QV.el1N (RdN.vn 1 rfl) tk_22 rfl h23 rfl) rfl rfl rfl ?_
        refine JL.val (v := (gd z3 d14).v) (QV.assign rfl) rfl rfl rfl ?_
        refine JL.nil ?_
        refine QJ.ent (fun _ hs => hs.derive (Drv.el (K := (NE.sl (Enc.int .u8))) (A := Asr.vw (Enc.int .u8) ((gd z3 d14).v) (gd x2 d14)) (Drv.vn 1 rfl) h23 (fun _ _ q => q))) ?_
        refine QJ.then_normal ?_
        refine JC.region ?_
        refine JL.val (v := z12.v) (QV.move rfl) rfl rfl rfl ?_
        refine JL.val (v := (gd z3 d14).v) (QV.move rfl) rfl rfl rfl ?_
        obtain ⟨h24, hm⟩ := guard_inv hm
        refine JL.mv (d := some 33) (MV.append 1 rfl (Rdg.vw 0 rfl) Try.underlying22 zi_5 rfl (by decide) rfl rfl h24) rfl rfl rfl ?_
        rintro _ _ ⟨z25, rfl, rfl⟩
        refine JL.val (v := z25.v) (QV.assign rfl) rfl rfl rfl ?_
        refine JL.nil ?_
        refine QJ.block_normal ?_
        refine QJ.then_normal ?_
        refine JC.region ?_
        refine JL.val (v := .int .i64 (IntKind.wrap .i64 (d14 + (1 : Int)))) (QV.add rfl rfl) rfl rfl rfl ?_
        refine JL.val (v := .int .i64 (IntKind.wrap .i64 (d14 + (1 : Int)))) (QV.move rfl) rfl rfl rfl ?_
        refine JL.nil ?_
        obtain rfl := Option.some.inj hm
        exact QJ.round_on ((d13 ++ (gd x2 d14)), (IntKind.wrap .i64 (d14 + (1 : Int)))) z25 [1, 2] (by exact ⟨rfl, rfl, rfl, rfl, trivial⟩) rfl rfl
      ·
        refine JC.condF' rfl (decide_eq_false h22) ?_
        refine JC.exit ?_
        refine QJ.then_exit ?_
        obtain rfl := Option.some.inj hm
        refine QJ.round_exit (fun hy => ?_)
        subst hy
        refine QJ.block_hit ?_
        exact QJ.cut_normal (d13, z12) hmo20 [0] (by exact ⟨rfl, trivial⟩) rfl rfl
  ·
    refine JC.block ?_
    obtain ⟨y30, hl31, hmo32⟩ := bind_inv hm
    refine JC.loop (F70.b2 x2) (fun x z => match x, z with | (d26, d27), _ => [(0, s1.v), (3, .int .i64 d26), (9, s1.v), (10, .int .i64 ((x2).length : Int)), (11, .int .i64 d27)]) (fun x z => match x, z with | (d26, d27), _ => [Asr.vn (NE.sl (Enc.int .u8)) (s1.v) z3 x2]) ((0 : Int), (0 : Int)) () y30 hl31 [1] (by exact ⟨rfl, rfl, rfl, rfl, rfl, trivial⟩) rfl rfl ?_
    rintro ⟨d26, d27⟩ ⟨⟩ s33 hm
    unfold F70.b2 at hm
    dsimp only at hm
    show JC _ _ _ [(0, s1.v), (3, .int .i64 d26), (9, s1.v), (10, .int .i64 ((x2).length : Int)), (11, .int .i64 d27)] [Asr.vn (NE.sl (Enc.int .u8)) (s1.v) z3 x2] _ _
    refine JC.seq ?_
    refine JC.region ?_
    refine JL.val (v := .bool (decide (d27 < ((x2).length : Int)))) (QV.lss rfl rfl) rfl rfl rfl ?_
    refine JL.nil ?_
    refine QJ.then_normal ?_
    refine JC.seq ?_
    rcases ite_inv hm with ⟨h34, hm⟩ | ⟨h34, hm⟩
    ·
      refine JC.condT' rfl (decide_eq_true h34) ?_
      refine JC.skip ?_
      refine QJ.then_normal ?_
      refine JC.seq ?_
      refine JC.block ?_
      refine JC.seq ?_
      refine JC.region ?_
      obtain ⟨h35, hm⟩ := guard_inv hm
      refine JL.val (v := .pointer (some (elA (s1.v) (Int.toNat d27 * ((NE.sl (Enc.int .u8)).E).sz)))) (QV.indexN (RdN.vn 0 rfl) Try.underlying50 tk_22 rfl rfl h35) rfl rfl rfl ?_
      refine JL.val (v := (gd z3 d27).v) (QV.el1N (RdN.vn 0 rfl) tk_22 rfl h35 rfl) rfl rfl rfl ?_
      refine JL.val (v := (gd z3 d27).v) (QV.assign rfl) rfl rfl rfl ?_
      refine JL.nil ?_
      refine QJ.ent (fun _ hs => hs.derive (Drv.el (K := (NE.sl (Enc.int .u8))) (A := Asr.vw (Enc.int .u8) ((gd z3 d27).v) (gd x2 d27)) (Drv.vn 0 rfl) h35 (fun _ _ q => q))) ?_
      refine QJ.then_normal ?_
      refine JC.seq ?_
      refine JC.region ?_
      refine JL.val (v := .int .i64 d26) (QV.move rfl) rfl rfl rfl ?_
      refine JL.val (v := (gd z3 d27).v) (QV.move rfl) rfl rfl rfl ?_
      refine JL.val (v := .int .i64 (((gd x2 d27)).length : Int)) (QV.len (Rdg.vw 0 rfl) Try.underlying22 rfl) rfl rfl rfl ?_
      refine JL.val (v := .int .i64 (IntKind.wrap .i64 (d26 + (((gd x2 d27)).length : Int)))) (QV.add rfl rfl) rfl rfl rfl ?_
      refine JL.val (v := .int .i64 (IntKind.wrap .i64 (d26 + (((gd x2 d27)).length : Int)))) (QV.assign rfl) rfl rfl rfl ?_
      refine JL.nil ?_
      refine QJ.then_normal ?_
      refine JC.seq ?_
      refine JC.region ?_
      refine JL.val (v := .int .i64 (IntKind.wrap .i64 (d26 + (((gd x2 d27)).length : Int)))) (QV.move rfl) rfl rfl rfl ?_
      refine JL.val (v := .bool (decide ((IntKind.wrap .i64 (d26 + (((gd x2 d27)).length : Int))) < (0 : Int)))) (QV.lss rfl rfl) rfl rfl rfl ?_
      refine JL.nil ?_
      refine QJ.then_normal ?_
      rcases ite_inv hm with ⟨h36, hm⟩ | ⟨h36, hm⟩
      ·
        refine JC.condT' rfl (decide_eq_true h36) ?_
        cases hm
      ·
        refine JC.condF' rfl (decide_eq_false h36) ?_
        refine JC.skip ?_
        refine QJ.block_normal ?_
        refine QJ.then_normal ?_
        refine JC.region ?_
        refine JL.val (v := .int .i64 (IntKind.wrap .i64 (d27 + (1 : Int)))) (QV.add rfl rfl) rfl rfl rfl ?_
        refine JL.val (v := .int .i64 (IntKind.wrap .i64 (d27 + (1 : Int)))) (QV.move rfl) rfl rfl rfl ?_
        refine JL.nil ?_
        obtain rfl := Option.some.inj hm
        exact QJ.round_on ((IntKind.wrap .i64 (d26 + (((gd x2 d27)).length : Int))), (IntKind.wrap .i64 (d27 + (1 : Int)))) () [1] (by exact ⟨rfl, rfl, rfl, rfl, rfl, trivial⟩) rfl rfl
    ·
      refine JC.condF' rfl (decide_eq_false h34) ?_
      refine JC.exit ?_
      refine QJ.then_exit ?_
      obtain rfl := Option.some.inj hm
      refine QJ.round_exit (fun hy => ?_)
      subst hy
      refine QJ.block_hit ?_
      exact QJ.cut_normal (d26, ()) hmo32 [0] (by exact ⟨rfl, rfl, trivial⟩) rfl rfl

/-! ### 25: drogher/octet.Put -/
noncomputable def F25.j1 (x2 : List Int) (x3 : Int) (d8 : (Arr Int 8)) : Option (List Int) :=
  (if 0 ≤ (IntKind.wrap .i64 ((8 : Int) - (minI (maxI x3 (1 : Int)) (8 : Int)))) ∧ (IntKind.wrap .i64 ((8 : Int) - (minI (maxI x3 (1 : Int)) (8 : Int)))) ≤ ((8 : Nat) : Int) ∧ ((8 : Nat) : Int) ≤ 8 then ((F70.m ([x2, (subL (d8).l (IntKind.wrap .i64 ((8 : Int) - (minI (maxI x3 (1 : Int)) (8 : Int)))) ((8 : Nat) : Int))])).bind fun y11 => some y11) else none)
noncomputable def F25.b1 (x4 : Int) : ((Arr Int 8) × Int) → Option (((Arr Int 8) × Int) ⊕ (Arr Int 8))
  | (d14, d15) => (if d15 < (8 : Int) then (if 0 ≤ (IntKind.wrap .i64 ((56 : Int) - (IntKind.wrap .i64 ((8 : Int) * d15)))) then (if 0 ≤ d15 ∧ d15 < 8 then some (.inl ((Arr.set d14 d15 (IntKind.wrap .u8 (shrI .u64 x4 (IntKind.wrap .i64 ((56 : Int) - (IntKind.wrap .i64 ((8 : Int) * d15))))))), (IntKind.wrap .i64 (d15 + (1 : Int))))) else none) else none) else some (.inr d14))
noncomputable def F25.m (x2 : List Int) (x3 : Int) (x4 : Int) : Option (List Int) :=
  ((loop (F25.b1 x4) ((Arr.rep 8 (0 : Int)), (0 : Int))).bind fun y => match y with | d8 => F25.j1 x2 x3 (d8))
set_option maxRecDepth 100000 in
set_option maxHeartbeats 4000000 in
theorem F25.spec (s1 : SlV) (x2 : List Int) (x3 : Int) (x4 : Int) (r : (List Int)) (hm : F25.m x2 x3 x4 = some r) :
    Ctr Try.prog false 25 [s1.v, .int .i64 x3, .int .u64 x4] [Asr.vw (Enc.int .u8) (s1.v) x2] (fun v L' => ∃ (g5 : SlV), v = g5.v ∧ L' = [Asr.of 5 (Enc.int .u8) (g5.v) r]) := by
  refine Ctr.intro (n := 30) (env := [(0, s1.v), (1, .int .i64 x3), (2, .int .u64 x4)]) Try.func25 rfl rfl rfl rfl (fun c => ?_)
  unfold F25.m at hm
  refine JC.seq ?_
  refine JC.region ?_
  refine JL.ent (fun _ hs => hs.nil 5 (Enc.int .u8)) ?_
  refine JL.val (v := SlV.nil.v) (QV.assign rfl) rfl rfl rfl ?_
  refine JL.nil ?_
  refine QJ.then_normal ?_
  refine JC.seq ?_
  refine JC.region ?_
  refine JL.val (v := .int .i64 x3) (QV.move rfl) rfl rfl rfl ?_
  refine JL.val (v := .int .i64 (maxI x3 (1 : Int))) (QV.max2 rfl rfl) rfl rfl rfl ?_
  refine JL.val (v := .int .i64 (minI (maxI x3 (1 : Int)) (8 : Int))) (QV.min2 rfl rfl) rfl rfl rfl ?_
  refine JL.val (v := .int .i64 (minI (maxI x3 (1 : Int)) (8 : Int))) (QV.assign rfl) rfl rfl rfl ?_
  refine JL.nil ?_
  refine QJ.then_normal ?_
  refine JC.seq ?_
  refine JC.region ?_
  refine JL.mv (d := some 7) (MV.alloc [Seg.of (Enc.arr 8 (Enc.int .u8)) (Arr.rep 8 (0 : Int))] z_93 rfl) rfl rfl rfl ?_
  rintro _ _ ⟨b7, rfl, rfl⟩
  refine JL.nil ?_
  refine QJ.then_normal ?_
  refine JC.seq ?_
  refine JC.seq ?_
  refine JC.region ?_
  refine JL.val (v := .int .i64 (0 : Int)) (QV.move rfl) rfl rfl rfl ?_
  refine JL.nil ?_
  refine QJ.then_normal ?_
  refine JC.cutK (Y := (Arr Int 8) × Unit) (fun y => match y with | (d8, _) => F25.j1 x2 x3 (d8) = some r) (fun y => match y with | (d8, _) => [(0, s1.v), (1, .int .i64 (minI (maxI x3 (1 : Int)) (8 : Int))), (7, .pointer (some ⟨b7, 0, none⟩))]) (fun y => match y with | (d8, _) => [Asr.vw (Enc.int .u8) (s1.v) x2, Asr.blk b7 93 [Seg.of (Enc.arr 8 (Enc.int .u8)) d8]]) ?_ ?_
  ·
    rintro ⟨d8, ⟨⟩⟩ hm
    unfold F25.j1 at hm
    show QJ _ _ [(0, s1.v), (1, .int .i64 (minI (maxI x3 (1 : Int)) (8 : Int))), (7, .pointer (some ⟨b7, 0, none⟩))] [Asr.vw (Enc.int .u8) (s1.v) x2, Asr.blk b7 93 [Seg.of (Enc.arr 8 (Enc.int .u8)) d8]] _ _
    refine QJ.then_normal ?_
    refine JC.seq ?_
    refine JC.region ?_
    refine JL.val (v := s1.v) (QV.move rfl) rfl rfl rfl ?_
    refine JL.val (v := .int .i64 (minI (maxI x3 (1 : Int)) (8 : Int))) (QV.move rfl) rfl rfl rfl ?_
    refine JL.val (v := .int .i64 (IntKind.wrap .i64 ((8 : Int) - (minI (maxI x3 (1 : Int)) (8 : Int))))) (QV.sub rfl rfl) rfl rfl rfl ?_
    obtain ⟨h9, hm⟩ := guard_inv hm
    refine JL.val (v := (SlV.sub ((Enc.int .u8)).sz (SlV.mk (some ⟨b7, 0, none⟩) 8 8) (IntKind.wrap .i64 ((8 : Int) - (minI (maxI x3 (1 : Int)) (8 : Int)))) ((8 : Nat) : Int)).v) (QV.sliceB Try.underlying93 tk_5 rfl rfl rfl h9) rfl rfl rfl ?_
    refine JL.mv (d := some 28) (MV.lit (E := (NE.sl (Enc.int .u8)).E) (vals := [(0, s1.v), (1, (SlV.sub ((Enc.int .u8)).sz (SlV.mk (some ⟨b7, 0, none⟩) 8 8) (IntKind.wrap .i64 ((8 : Int) - (minI (maxI x3 (1 : Int)) (8 : Int)))) ((8 : Nat) : Int)).v)]) [(s1, x2), ((SlV.sub ((Enc.int .u8)).sz (SlV.mk (some ⟨b7, 0, none⟩) 8 8) (IntKind.wrap .i64 ((8 : Int) - (minI (maxI x3 (1 : Int)) (8 : Int)))) ((8 : Nat) : Int)), (subL (d8).l (IntKind.wrap .i64 ((8 : Int) - (minI (maxI x3 (1 : Int)) (8 : Int)))) ((8 : Nat) : Int)))] Try.underlying50 zi_22 rfl (by decide) rfl (by kernel_rfl)) rfl rfl rfl ?_
    rintro _ _ ⟨z10, rfl, rfl⟩
    obtain ⟨y11, hc12, hm⟩ := bind_inv hm
    refine JL.mv (d := some 29) (MV.call (Lo := []) (Lr := [Asr.of 22 (NE.sl (Enc.int .u8)).E (z10.v) [(s1, x2), ((SlV.sub ((Enc.int .u8)).sz (SlV.mk (some ⟨b7, 0, none⟩) 8 8) (IntKind.wrap .i64 ((8 : Int) - (minI (maxI x3 (1 : Int)) (8 : Int)))) ((8 : Nat) : Int)), (subL (d8).l (IntKind.wrap .i64 ((8 : Int) - (minI (maxI x3 (1 : Int)) (8 : Int)))) ((8 : Nat) : Int)))], Asr.vw (Enc.int .u8) (s1.v) x2, Asr.blk b7 93 [Seg.of (Enc.arr 8 (Enc.int .u8)) d8]]) (F70.spec (z10) ([s1, (SlV.sub ((Enc.int .u8)).sz (SlV.mk (some ⟨b7, 0, none⟩) 8 8) (IntKind.wrap .i64 ((8 : Int) - (minI (maxI x3 (1 : Int)) (8 : Int)))) ((8 : Nat) : Int))]) ([x2, (subL (d8).l (IntKind.wrap .i64 ((8 : Int) - (minI (maxI x3 (1 : Int)) (8 : Int)))) ((8 : Nat) : Int))]) _ hc12) rfl Try.func70 rfl rfl rfl [] [0, 1, 2] rfl rfl rfl ⟨(Drv.lit (zs := [s1, (SlV.sub ((Enc.int .u8)).sz (SlV.mk (some ⟨b7, 0, none⟩) 8 8) (IntKind.wrap .i64 ((8 : Int) - (minI (maxI x3 (1 : Int)) (8 : Int)))) ((8 : Nat) : Int))]) (xs := [x2, (subL (d8).l (IntKind.wrap .i64 ((8 : Int) - (minI (maxI x3 (1 : Int)) (8 : Int)))) ((8 : Nat) : Int))]) 0 rfl rfl ⟨(Drv.vw 1 rfl), ⟨((Drv.arr (ss := [Seg.of (Enc.arr 8 (Enc.int .u8)) d8]) 2 0 rfl rfl rfl rfl).subV (by rw [Arr.h]; exact h9)), trivial⟩⟩), trivial⟩) rfl rfl rfl ?_
    rintro _ _ ⟨_, ⟨z13, rfl, rfl⟩, rfl⟩
    refine JL.val (v := z13.v) (QV.assign rfl) rfl rfl rfl ?_
    refine JL.nil ?_
    refine QJ.then_normal ?_
    refine JC.ret ?_
    obtain rfl := Option.some.inj hm
    exact QJ.body (vs := [z13.v]) (.inl rfl) rfl (ResVs.cons (ResV.tmp rfl) ResVs.nil) [0] rfl rfl (.inr ⟨own_of _ _ _ _, trivial⟩) ⟨z13, rfl, rfl⟩
  ·
    refine JC.block ?_
    obtain ⟨y18, hl19, hmo20⟩ := bind_inv hm
    refine JC.loop (F25.b1 x4) (fun x z => match x, z with | (d14, d15), _ => [(0, s1.v), (1, .int .i64 (minI (maxI x3 (1 : Int)) (8 : Int))), (2, .int .u64 x4), (7, .pointer (some ⟨b7, 0, none⟩)), (12, .int .i64 d15)]) (fun x z => match x, z with | (d14, d15), _ => [Asr.vw (Enc.int .u8) (s1.v) x2, Asr.blk b7 93 [Seg.of (Enc.arr 8 (Enc.int .u8)) d14]]) ((Arr.rep 8 (0 : Int)), (0 : Int)) () y18 hl19 [2, 0] (by exact ⟨rfl, rfl, rfl, rfl, rfl, trivial⟩) rfl rfl ?_
    rintro ⟨d14, d15⟩ ⟨⟩ s21 hm
    unfold F25.b1 at hm
    dsimp only at hm
    show JC _ _ _ [(0, s1.v), (1, .int .i64 (minI (maxI x3 (1 : Int)) (8 : Int))), (2, .int .u64 x4), (7, .pointer (some ⟨b7, 0, none⟩)), (12, .int .i64 d15)] [Asr.vw (Enc.int .u8) (s1.v) x2, Asr.blk b7 93 [Seg.of (Enc.arr 8 (Enc.int .u8)) d14]] _ _
    refine JC.seq ?_
    refine JC.region ?_
    refine JL.val (v := .bool (decide (d15 < (8 : Int)))) (QV.lss rfl rfl) rfl rfl rfl ?_
    refine JL.nil ?_
    refine QJ.then_normal ?_
    refine JC.seq ?_
    rcases ite_inv hm with ⟨h22, hm⟩ | ⟨h22, hm⟩
    ·
      refine JC.condT' rfl (decide_eq_true h22) ?_
      refine JC.skip ?_
      refine QJ.then_normal ?_
      refine JC.seq ?_
      refine JC.block ?_
      refine JC.seq ?_
      refine JC.region ?_
      refine JL.val (v := .int .i64 d15) (QV.move rfl) rfl rfl rfl ?_
      refine JL.val (v := .int .i64 d15) (QV.assign rfl) rfl rfl rfl ?_
      refine JL.nil ?_
      refine QJ.then_normal ?_
      refine JC.region ?_
      refine JL.val (v := .int .i64 d15) (QV.move rfl) rfl rfl rfl ?_
      refine JL.val (v := .int .u64 x4) (QV.move rfl) rfl rfl rfl ?_
      refine JL.val (v := .int .i64 d15) (QV.move rfl) rfl rfl rfl ?_
      refine JL.val (v := .int .i64 (IntKind.wrap .i64 ((8 : Int) * d15))) (QV.mul rfl rfl) rfl rfl rfl ?_
      refine JL.val (v := .int .i64 (IntKind.wrap .i64 ((56 : Int) - (IntKind.wrap .i64 ((8 : Int) * d15))))) (QV.sub rfl rfl) rfl rfl rfl ?_
      obtain ⟨h23, hm⟩ := guard_inv hm
      refine JL.val (v := .int .u64 (shrI .u64 x4 (IntKind.wrap .i64 ((56 : Int) - (IntKind.wrap .i64 ((8 : Int) * d15)))))) (QV.shr rfl rfl h23) rfl rfl rfl ?_
      refine JL.val (v := .int .u8 (IntKind.wrap .u8 (shrI .u64 x4 (IntKind.wrap .i64 ((56 : Int) - (IntKind.wrap .i64 ((8 : Int) * d15))))))) (QV.conv rfl (by rw [Try.underlying28]; rfl) Try.underlying5) rfl rfl rfl ?_
      obtain ⟨h24, hm⟩ := guard_inv hm
      refine JL.val (v := .pointer (some ⟨b7, 0 + Int.toNat d15 * 1, none⟩)) (QV.indexB Try.underlying93 tk_5 rfl rfl h24) rfl rfl rfl ?_
      refine JL.mv (d := none) (MV.storeAr (ss := [Seg.of (Enc.arr 8 (Enc.int .u8)) d14]) 1 0 (IntKind.wrap .u8 (shrI .u64 x4 (IntKind.wrap .i64 ((56 : Int) - (IntKind.wrap .i64 ((8 : Int) * d15)))))) rfl tk_5 rfl rfl rfl rfl h24 rfl rfl) rfl rfl rfl ?_
      rintro _ _ ⟨rfl, rfl⟩
      refine JL.nil ?_
      refine QJ.block_normal ?_
      refine QJ.then_normal ?_
      refine JC.region ?_
      refine JL.val (v := .int .i64 (IntKind.wrap .i64 (d15 + (1 : Int)))) (QV.add rfl rfl) rfl rfl rfl ?_
      refine JL.val (v := .int .i64 (IntKind.wrap .i64 (d15 + (1 : Int)))) (QV.move rfl) rfl rfl rfl ?_
      refine JL.nil ?_
      obtain rfl := Option.some.inj hm
      exact QJ.round_on ((Arr.set d14 d15 (IntKind.wrap .u8 (shrI .u64 x4 (IntKind.wrap .i64 ((56 : Int) - (IntKind.wrap .i64 ((8 : Int) * d15))))))), (IntKind.wrap .i64 (d15 + (1 : Int)))) () [0, 1] (by exact ⟨rfl, rfl, rfl, rfl, rfl, trivial⟩) rfl rfl
    ·
      refine JC.condF' rfl (decide_eq_false h22) ?_
      refine JC.exit ?_
      refine QJ.then_exit ?_
      obtain rfl := Option.some.inj hm
      refine QJ.round_exit (fun hy => ?_)
      subst hy
      refine QJ.block_hit ?_
      exact QJ.cut_normal (d14, ()) hmo20 [0, 1] (by exact ⟨rfl, rfl, rfl, trivial⟩) rfl rfl

/-! ### 69: drogher/octet.right -/
noncomputable def F69.j1 (x1 : Int) (d4 : Bool) : Option (Int × Bool) :=
  (if d4 = true then (if x1 ≠ 0 then some ((IntKind.wrap .i64 (Int.tdiv (8 : Int) x1)), true) else none) else some ((0 : Int), false))
noncomputable def F69.j2 (x1 : Int) (d8 : Bool) : Option (Int × Bool) :=
  F69.j1 x1 (d8)
noncomputable def F69.j3 (x1 : Int) (d10 : Bool) : Option (Int × Bool) :=
  F69.j2 x1 (d10)
noncomputable def F69.m (x1 : Int) : Option (Int × Bool) :=
  (if x1 = (1 : Int) then F69.j1 x1 ((decide (x1 = (1 : Int)))) else (if x1 = (2 : Int) then F69.j2 x1 ((decide (x1 = (2 : Int)))) else (if x1 = (4 : Int) then F69.j3 x1 ((decide (x1 = (4 : Int)))) else F69.j3 x1 ((decide (x1 = (8 : Int)))))))
set_option maxRecDepth 100000 in
set_option maxHeartbeats 4000000 in
theorem F69.spec (x1 : Int) (r : (Int × Bool)) (hm : F69.m x1 = some r) :
    Ctr Try.prog false 69 [.int .i64 x1] [] (fun v L' => v = .tuple #[.int .i64 r.1, .bool r.2] ∧ L' = []) := by
  refine Ctr.intro (n := 12) (env := [(0, .int .i64 x1)]) Try.func69 rfl rfl rfl rfl (fun c => ?_)
  unfold F69.m at hm
  refine JC.seq ?_
  refine JC.region ?_
  refine JL.val (v := .int .i64 (0 : Int)) (QV.assign rfl) rfl rfl rfl ?_
  refine JL.val (v := .bool false) (QV.assign rfl) rfl rfl rfl ?_
  refine JL.nil ?_
  refine QJ.then_normal ?_
  refine JC.seq ?_
  refine JC.seq ?_
  refine JC.region ?_
  refine JL.val (v := .int .i64 x1) (QV.move rfl) rfl rfl rfl ?_
  refine JL.nil ?_
  refine QJ.then_normal ?_
  refine JC.block ?_
  refine JC.seq ?_
  refine JC.seq ?_
  refine JC.region ?_
  refine JL.val (v := .bool (decide (x1 = (1 : Int)))) (QV.eql rfl rfl) rfl rfl rfl ?_
  refine JL.val (v := .bool (decide (x1 = (1 : Int)))) (QV.assign rfl) rfl rfl rfl ?_
  refine JL.nil ?_
  refine QJ.then_normal ?_
  refine JC.cutK (Y := Bool × Unit) (fun y => match y with | (d4, _) => F69.j1 x1 (d4) = some r) (fun y => match y with | (d4, _) => [(0, .int .i64 x1), (5, .bool d4)]) (fun y => match y with | (d4, _) => []) ?_ ?_
  ·
    rintro ⟨d4, ⟨⟩⟩ hm
    unfold F69.j1 at hm
    show QJ _ _ [(0, .int .i64 x1), (5, .bool d4)] [] _ _
    refine QJ.then_normal ?_
    rcases ite_inv hm with ⟨h5, hm⟩ | ⟨h5, hm⟩
    ·
      refine JC.condT' rfl h5 ?_
      refine JC.seq ?_
      refine JC.region ?_
      refine JL.val (v := .int .i64 x1) (QV.move rfl) rfl rfl rfl ?_
      obtain ⟨h6, hm⟩ := guard_inv hm
      refine JL.val (v := .int .i64 (IntKind.wrap .i64 (Int.tdiv (8 : Int) x1))) (QV.quo rfl rfl h6) rfl rfl rfl ?_
      refine JL.val (v := .int .i64 (IntKind.wrap .i64 (Int.tdiv (8 : Int) x1))) (QV.assign rfl) rfl rfl rfl ?_
      refine JL.val (v := .bool true) (QV.assign rfl) rfl rfl rfl ?_
      refine JL.nil ?_
      refine QJ.then_normal ?_
      refine JC.ret ?_
      refine QJ.block_ret ?_
      refine QJ.then_ret ?_
      obtain rfl := Option.some.inj hm
      exact QJ.body (vs := [.int .i64 (IntKind.wrap .i64 (Int.tdiv (8 : Int) x1)), .bool true]) (.inl rfl) rfl (ResVs.cons (ResV.tmp rfl) (ResVs.cons (ResV.tmp rfl) ResVs.nil)) [] rfl rfl (.inr trivial) ⟨rfl, rfl⟩
    ·
      refine JC.condF' rfl (bfalse h5) ?_
      refine JC.skip ?_
      refine QJ.block_normal ?_
      refine QJ.then_normal ?_
      refine JC.seq ?_
      refine JC.region ?_
      refine JL.val (v := .int .i64 (0 : Int)) (QV.assign rfl) rfl rfl rfl ?_
      refine JL.val (v := .bool false) (QV.assign rfl) rfl rfl rfl ?_
      refine JL.nil ?_
      refine QJ.then_normal ?_
      refine JC.ret ?_
      obtain rfl := Option.some.inj hm
      exact QJ.body (vs := [.int .i64 (0 : Int), .bool false]) (.inl rfl) rfl (ResVs.cons (ResV.tmp rfl) (ResVs.cons (ResV.tmp rfl) ResVs.nil)) [] rfl rfl (.inr trivial) ⟨rfl, rfl⟩
  ·
    rcases ite_inv hm with ⟨h7, hm⟩ | ⟨h7, hm⟩
    ·
      refine JC.condT' rfl (decide_eq_true h7) ?_
      refine JC.skip ?_
      exact QJ.cut_normal ((decide (x1 = (1 : Int))), ()) hm [] (by exact ⟨rfl, rfl, trivial⟩) rfl rfl
    ·
      refine JC.condF' rfl (decide_eq_false h7) ?_
      refine JC.seq ?_
      refine JC.region ?_
      refine JL.val (v := .bool (decide (x1 = (2 : Int)))) (QV.eql rfl rfl) rfl rfl rfl ?_
      refine JL.val (v := .bool (decide (x1 = (2 : Int)))) (QV.assign rfl) rfl rfl rfl ?_
      refine JL.nil ?_
      refine QJ.then_normal ?_
      refine JC.cutK (Y := Bool × Unit) (fun y => match y with | (d8, _) => F69.j2 x1 (d8) = some r) (fun y => match y with | (d8, _) => [(0, .int .i64 x1), (5, .bool d8)]) (fun y => match y with | (d8, _) => []) ?_ ?_
      ·
        rintro ⟨d8, ⟨⟩⟩ hm
        unfold F69.j2 at hm
        show QJ _ _ [(0, .int .i64 x1), (5, .bool d8)] [] _ _
        exact QJ.cut_normal (d8, ()) hm [] (by exact ⟨rfl, rfl, trivial⟩) rfl rfl
      ·
        rcases ite_inv hm with ⟨h9, hm⟩ | ⟨h9, hm⟩
        ·
          refine JC.condT' rfl (decide_eq_true h9) ?_
          refine JC.skip ?_
          exact QJ.cut_normal ((decide (x1 = (2 : Int))), ()) hm [] (by exact ⟨rfl, rfl, trivial⟩) rfl rfl
        ·
          refine JC.condF' rfl (decide_eq_false h9) ?_
          refine JC.seq ?_
          refine JC.region ?_
          refine JL.val (v := .bool (decide (x1 = (4 : Int)))) (QV.eql rfl rfl) rfl rfl rfl ?_
          refine JL.val (v := .bool (decide (x1 = (4 : Int)))) (QV.assign rfl) rfl rfl rfl ?_
          refine JL.nil ?_
          refine QJ.then_normal ?_
          refine JC.cutK (Y := Bool × Unit) (fun y => match y with | (d10, _) => F69.j3 x1 (d10) = some r) (fun y => match y with | (d10, _) => [(0, .int .i64 x1), (5, .bool d10)]) (fun y => match y with | (d10, _) => []) ?_ ?_
          ·
            rintro ⟨d10, ⟨⟩⟩ hm
            unfold F69.j3 at hm
            show QJ _ _ [(0, .int .i64 x1), (5, .bool d10)] [] _ _
            exact QJ.cut_normal (d10, ()) hm [] (by exact ⟨rfl, rfl, trivial⟩) rfl rfl
          ·
            rcases ite_inv hm with ⟨h11, hm⟩ | ⟨h11, hm⟩
            ·
              refine JC.condT' rfl (decide_eq_true h11) ?_
              refine JC.skip ?_
              exact QJ.cut_normal ((decide (x1 = (4 : Int))), ()) hm [] (by exact ⟨rfl, rfl, trivial⟩) rfl rfl
            ·
              refine JC.condF' rfl (decide_eq_false h11) ?_
              refine JC.region ?_
              refine JL.val (v := .bool (decide (x1 = (8 : Int)))) (QV.eql rfl rfl) rfl rfl rfl ?_
              refine JL.val (v := .bool (decide (x1 = (8 : Int)))) (QV.assign rfl) rfl rfl rfl ?_
              refine JL.nil ?_
              exact QJ.cut_normal ((decide (x1 = (8 : Int))), ()) hm [] (by exact ⟨rfl, rfl, trivial⟩) rfl rfl

/-! ### 24: drogher/octet.Digit -/
noncomputable def F24.m (x2 : List Int) (x3 : Int) (x4 : Int) : Option Int :=
  ((F69.m (x4)).bind fun y6 => (if y6.2 = true then (if x3 < (0 : Int) then some (0 : Int) else (if y6.1 ≠ 0 then (if ((x2).length : Int) ≤ (IntKind.wrap .i64 (Int.tdiv x3 y6.1)) then some (0 : Int) else (if 0 ≤ (IntKind.wrap .i64 (Int.tdiv x3 y6.1)) ∧ (IntKind.wrap .i64 (Int.tdiv x3 y6.1)) < ((x2).length : Int) then (if 0 ≤ (IntKind.wrap .i64 ((8 : Int) - (IntKind.wrap .i64 (x4 * (IntKind.wrap .i64 ((Int.tmod x3 y6.1) + (1 : Int))))))) then (if 0 ≤ x4 then some (andI .i64 (shrI .i64 (IntKind.wrap .i64 (gd x2 (IntKind.wrap .i64 (Int.tdiv x3 y6.1)))) (IntKind.wrap .i64 ((8 : Int) - (IntKind.wrap .i64 (x4 * (IntKind.wrap .i64 ((Int.tmod x3 y6.1) + (1 : Int)))))))) (IntKind.wrap .i64 ((shlI .i64 (1 : Int) x4) - (1 : Int)))) else none) else none) else none)) else none)) else some (0 : Int)))
set_option maxRecDepth 100000 in
set_option maxHeartbeats 4000000 in
theorem F24.spec (s1 : SlV) (x2 : List Int) (x3 : Int) (x4 : Int) (r : Int) (hm : F24.m x2 x3 x4 = some r) :
    Ctr Try.prog false 24 [s1.v, .int .i64 x3, .int .i64 x4] [Asr.vw (Enc.int .u8) (s1.v) x2] (fun v L' => v = .int .i64 r ∧ L' = []) := by
  refine Ctr.intro (n := 49) (env := [(0, s1.v), (1, .int .i64 x3), (2, .int .i64 x4)]) Try.func24 rfl rfl rfl rfl (fun c => ?_)
  unfold F24.m at hm
  refine JC.seq ?_
  refine JC.region ?_
  refine JL.val (v := .int .i64 (0 : Int)) (QV.assign rfl) rfl rfl rfl ?_
  refine JL.nil ?_
  refine QJ.then_normal ?_
  refine JC.seq ?_
  refine JC.region ?_
  refine JL.val (v := .int .i64 x4) (QV.move rfl) rfl rfl rfl ?_
  obtain ⟨y6, hc7, hm⟩ := bind_inv hm
  refine JL.mv (d := some 12) (MV.call (Lo := []) (Lr := [Asr.vw (Enc.int .u8) (s1.v) x2]) (F69.spec (x4) _ hc7) rfl Try.func69 rfl rfl rfl [] [0] rfl rfl rfl trivial) rfl rfl rfl ?_
  rintro _ _ ⟨_, ⟨rfl, rfl⟩, rfl⟩
  refine JL.val (v := .tuple #[.int .i64 y6.1, .bool y6.2]) (QV.move rfl) rfl rfl rfl ?_
  refine JL.val (v := .int .i64 y6.1) (QV.extract (vs := [.int .i64 y6.1, .bool y6.2]) rfl rfl) rfl rfl rfl ?_
  refine JL.val (v := .bool y6.2) (QV.extract (vs := [.int .i64 y6.1, .bool y6.2]) rfl rfl) rfl rfl rfl ?_
  refine JL.val (v := .int .i64 y6.1) (QV.assign rfl) rfl rfl rfl ?_
  refine JL.val (v := .bool y6.2) (QV.assign rfl) rfl rfl rfl ?_
  refine JL.nil ?_
  refine QJ.then_normal ?_
  refine JC.seq ?_
  refine JC.seq ?_
  refine JC.region ?_
  refine JL.val (v := .bool y6.2) (QV.move rfl) rfl rfl rfl ?_
  refine JL.val (v := .bool (!y6.2)) (QV.not rfl) rfl rfl rfl ?_
  rcases ite_inv hm with ⟨h8, hm⟩ | ⟨h8, hm⟩
  ·
    refine JL.val (v := .bool false) (QV.eq (QV.move rfl) (congrArg Value.bool (congrArg Bool.not h8))) rfl rfl rfl ?_
    refine JL.val (v := .int .i64 x3) (QV.move rfl) rfl rfl rfl ?_
    refine JL.val (v := .bool (decide (x3 < (0 : Int)))) (QV.lss rfl rfl) rfl rfl rfl ?_
    refine JL.val (v := .bool (decide (x3 < (0 : Int)))) (QV.pickF rfl rfl) rfl rfl rfl ?_
    rcases ite_inv hm with ⟨h9, hm⟩ | ⟨h9, hm⟩
    ·
      refine JL.val (v := .bool true) (QV.eq (QV.move rfl) (congrArg Value.bool (decide_eq_true h9))) rfl rfl rfl ?_
      refine JL.skip (d := some 22) rfl rfl rfl ?_
      refine JL.skip (d := some 23) rfl rfl rfl ?_
      refine JL.skip (d := some 24) rfl rfl rfl ?_
      refine JL.skip (d := some 25) rfl rfl rfl ?_
      refine JL.skip (d := some 26) rfl rfl rfl ?_
      refine JL.skip (d := some 27) rfl rfl rfl ?_
      refine JL.val (v := .bool true) (QV.pickT rfl rfl) rfl rfl rfl ?_
      refine JL.nil ?_
      refine QJ.then_normal ?_
      refine JC.condT rfl ?_
      refine JC.seq ?_
      refine JC.region ?_
      refine JL.val (v := .int .i64 (0 : Int)) (QV.assign rfl) rfl rfl rfl ?_
      refine JL.nil ?_
      refine QJ.then_normal ?_
      refine JC.ret ?_
      refine QJ.then_ret ?_
      obtain rfl := Option.some.inj hm
      exact QJ.body (vs := [.int .i64 (0 : Int)]) (.inl rfl) rfl (ResVs.cons (ResV.tmp rfl) ResVs.nil) [] rfl rfl (.inr trivial) ⟨rfl, rfl⟩
    ·
      refine JL.val (v := .bool false) (QV.eq (QV.move rfl) (congrArg Value.bool (decide_eq_false h9))) rfl rfl rfl ?_
      refine JL.val (v := .int .i64 x3) (QV.move rfl) rfl rfl rfl ?_
      refine JL.val (v := .int .i64 y6.1) (QV.move rfl) rfl rfl rfl ?_
      obtain ⟨h10, hm⟩ := guard_inv hm
      refine JL.val (v := .int .i64 (IntKind.wrap .i64 (Int.tdiv x3 y6.1))) (QV.quo rfl rfl h10) rfl rfl rfl ?_
      refine JL.val (v := s1.v) (QV.move rfl) rfl rfl rfl ?_
      refine JL.val (v := .int .i64 ((x2).length : Int)) (QV.len (Rdg.vw 0 rfl) Try.underlying22 rfl) rfl rfl rfl ?_
      refine JL.val (v := .bool (decide (((x2).length : Int) ≤ (IntKind.wrap .i64 (Int.tdiv x3 y6.1))))) (QV.geq rfl rfl) rfl rfl rfl ?_
      refine JL.val (v := .bool (decide (((x2).length : Int) ≤ (IntKind.wrap .i64 (Int.tdiv x3 y6.1))))) (QV.pickF rfl rfl) rfl rfl rfl ?_
      refine JL.nil ?_
      refine QJ.then_normal ?_
      rcases ite_inv hm with ⟨h11, hm⟩ | ⟨h11, hm⟩
      ·
        refine JC.condT' rfl (decide_eq_true h11) ?_
        refine JC.seq ?_
        refine JC.region ?_
        refine JL.val (v := .int .i64 (0 : Int)) (QV.assign rfl) rfl rfl rfl ?_
        refine JL.nil ?_
        refine QJ.then_normal ?_
        refine JC.ret ?_
        refine QJ.then_ret ?_
        obtain rfl := Option.some.inj hm
        exact QJ.body (vs := [.int .i64 (0 : Int)]) (.inl rfl) rfl (ResVs.cons (ResV.tmp rfl) ResVs.nil) [] rfl rfl (.inr trivial) ⟨rfl, rfl⟩
      ·
        refine JC.condF' rfl (decide_eq_false h11) ?_
        refine JC.skip ?_
        refine QJ.then_normal ?_
        refine JC.seq ?_
        refine JC.region ?_
        refine JL.val (v := .int .i64 x4) (QV.move rfl) rfl rfl rfl ?_
        refine JL.val (v := .int .i64 x3) (QV.move rfl) rfl rfl rfl ?_
        refine JL.val (v := .int .i64 y6.1) (QV.move rfl) rfl rfl rfl ?_
        refine JL.val (v := .int .i64 (Int.tmod x3 y6.1)) (QV.rem rfl rfl h10) rfl rfl rfl ?_
        refine JL.val (v := .int .i64 (IntKind.wrap .i64 ((Int.tmod x3 y6.1) + (1 : Int)))) (QV.add rfl rfl) rfl rfl rfl ?_
        refine JL.val (v := .int .i64 (IntKind.wrap .i64 (x4 * (IntKind.wrap .i64 ((Int.tmod x3 y6.1) + (1 : Int)))))) (QV.mul rfl rfl) rfl rfl rfl ?_
        refine JL.val (v := .int .i64 (IntKind.wrap .i64 ((8 : Int) - (IntKind.wrap .i64 (x4 * (IntKind.wrap .i64 ((Int.tmod x3 y6.1) + (1 : Int)))))))) (QV.sub rfl rfl) rfl rfl rfl ?_
        refine JL.val (v := .int .i64 (IntKind.wrap .i64 ((8 : Int) - (IntKind.wrap .i64 (x4 * (IntKind.wrap .i64 ((Int.tmod x3 y6.1) + (1 : Int)))))))) (QV.assign rfl) rfl rfl rfl ?_
        refine JL.nil ?_
        refine QJ.then_normal ?_
        refine JC.seq ?_
        refine JC.regionT [Asr.vw (Enc.int .u8) (s1.v) x2] (fun t => false) [(0, true), (1, true), (2, true), (3, true), (4, true), (5, true), (6, true), (7, true), (8, true), (9, false), (10, false), (11, false), (12, false), (13, false)] (by kernel_rfl) (by kernel_rfl) (by kernel_rfl) rfl (fun hsel => ?_)
        refine JT.take (i := 0) (v := s1.v) hsel rfl (QV.move rfl) rfl rfl rfl [0] rfl rfl ?_
        refine JT.take (i := 1) (v := .int .i64 x3) hsel rfl (QV.move rfl) rfl rfl rfl [0] rfl rfl ?_
        refine JT.take (i := 2) (v := .int .i64 y6.1) hsel rfl (QV.move rfl) rfl rfl rfl [0] rfl rfl ?_
        refine JT.take (i := 3) (v := .int .i64 (IntKind.wrap .i64 (Int.tdiv x3 y6.1))) hsel rfl (QV.quo rfl rfl h10) rfl rfl rfl [0] rfl rfl ?_
        obtain ⟨h12, hm⟩ := guard_inv hm
        refine JT.take (i := 4) (v := .pointer (some (elA (s1.v) (Int.toNat (IntKind.wrap .i64 (Int.tdiv x3 y6.1)) * ((Enc.int .u8)).sz)))) hsel rfl (QV.indexA (Rdg.vw 0 rfl) Try.underlying22 tk_5 rfl rfl h12) rfl rfl rfl [0] rfl rfl ?_
        refine JT.take (i := 5) (v := .int .u8 (gd x2 (IntKind.wrap .i64 (Int.tdiv x3 y6.1)))) hsel rfl (QV.el1 (Rdg.vw 0 rfl) tk_5 rfl h12 rfl) rfl rfl rfl [0] rfl rfl ?_
        refine JT.take (i := 6) (v := .int .i64 (IntKind.wrap .i64 (gd x2 (IntKind.wrap .i64 (Int.tdiv x3 y6.1))))) hsel rfl (QV.conv rfl (by rw [Try.underlying5]; rfl) Try.underlying3) rfl rfl rfl [0] rfl rfl ?_
        refine JT.take (i := 7) (v := .int .i64 (IntKind.wrap .i64 ((8 : Int) - (IntKind.wrap .i64 (x4 * (IntKind.wrap .i64 ((Int.tmod x3 y6.1) + (1 : Int)))))))) hsel rfl (QV.move rfl) rfl rfl rfl [0] rfl rfl ?_
        obtain ⟨h13, hm⟩ := guard_inv hm
        refine JT.take (i := 8) (v := .int .i64 (shrI .i64 (IntKind.wrap .i64 (gd x2 (IntKind.wrap .i64 (Int.tdiv x3 y6.1)))) (IntKind.wrap .i64 ((8 : Int) - (IntKind.wrap .i64 (x4 * (IntKind.wrap .i64 ((Int.tmod x3 y6.1) + (1 : Int))))))))) hsel rfl (QV.shr rfl rfl h13) rfl rfl rfl [0] rfl rfl ?_
        refine JT.only (i := 9) (d := some 45) rfl (MV.ofQV (v := .int .i64 x4) (QV.move rfl)) rfl rfl rfl ?_
        rintro _ _ ⟨rfl, rfl⟩
        refine ⟨fun _ => ⟨[0], rfl, rfl⟩, ?_⟩
        obtain ⟨h14, hm⟩ := guard_inv hm
        refine JT.only (i := 10) (d := some 46) rfl (MV.ofQV (v := .int .i64 (shlI .i64 (1 : Int) x4)) (QV.shl rfl rfl h14)) rfl rfl rfl ?_
        rintro _ _ ⟨rfl, rfl⟩
        refine ⟨fun _ => ⟨[0], rfl, rfl⟩, ?_⟩
        refine JT.only (i := 11) (d := some 47) rfl (MV.ofQV (v := .int .i64 (IntKind.wrap .i64 ((shlI .i64 (1 : Int) x4) - (1 : Int)))) (QV.sub rfl rfl)) rfl rfl rfl ?_
        rintro _ _ ⟨rfl, rfl⟩
        refine ⟨fun _ => ⟨[0], rfl, rfl⟩, ?_⟩
        refine JT.only (i := 12) (d := some 48) rfl (MV.ofQV (v := .int .i64 (andI .i64 (shrI .i64 (IntKind.wrap .i64 (gd x2 (IntKind.wrap .i64 (Int.tdiv x3 y6.1)))) (IntKind.wrap .i64 ((8 : Int) - (IntKind.wrap .i64 (x4 * (IntKind.wrap .i64 ((Int.tmod x3 y6.1) + (1 : Int)))))))) (IntKind.wrap .i64 ((shlI .i64 (1 : Int) x4) - (1 : Int))))) (QV.and rfl rfl)) rfl rfl rfl ?_
        rintro _ _ ⟨rfl, rfl⟩
        refine ⟨fun _ => ⟨[0], rfl, rfl⟩, ?_⟩
        refine JT.only (i := 13) (d := some 6) rfl (MV.ofQV (v := .int .i64 (andI .i64 (shrI .i64 (IntKind.wrap .i64 (gd x2 (IntKind.wrap .i64 (Int.tdiv x3 y6.1)))) (IntKind.wrap .i64 ((8 : Int) - (IntKind.wrap .i64 (x4 * (IntKind.wrap .i64 ((Int.tmod x3 y6.1) + (1 : Int)))))))) (IntKind.wrap .i64 ((shlI .i64 (1 : Int) x4) - (1 : Int))))) (QV.assign rfl)) rfl rfl rfl ?_
        rintro _ _ ⟨rfl, rfl⟩
        refine ⟨fun _ => ⟨[0], rfl, rfl⟩, ?_⟩
        refine JT.nil ?_
        refine QJ.then_normal ?_
        refine JC.ret ?_
        obtain rfl := Option.some.inj hm
        exact QJ.body (vs := [.int .i64 (andI .i64 (shrI .i64 (IntKind.wrap .i64 (gd x2 (IntKind.wrap .i64 (Int.tdiv x3 y6.1)))) (IntKind.wrap .i64 ((8 : Int) - (IntKind.wrap .i64 (x4 * (IntKind.wrap .i64 ((Int.tmod x3 y6.1) + (1 : Int)))))))) (IntKind.wrap .i64 ((shlI .i64 (1 : Int) x4) - (1 : Int))))]) (.inl rfl) rfl (ResVs.cons (ResV.tmp rfl) ResVs.nil) [] rfl rfl (.inr trivial) ⟨rfl, rfl⟩
  ·
    refine JL.val (v := .bool true) (QV.eq (QV.move rfl) (congrArg Value.bool (congrArg Bool.not (bfalse h8)))) rfl rfl rfl ?_
    refine JL.skip (d := some 18) rfl rfl rfl ?_
    refine JL.skip (d := some 19) rfl rfl rfl ?_
    refine JL.val (v := .bool true) (QV.pickT rfl rfl) rfl rfl rfl ?_
    refine JL.val (v := .bool true) (QV.move rfl) rfl rfl rfl ?_
    refine JL.skip (d := some 22) rfl rfl rfl ?_
    refine JL.skip (d := some 23) rfl rfl rfl ?_
    refine JL.skip (d := some 24) rfl rfl rfl ?_
    refine JL.skip (d := some 25) rfl rfl rfl ?_
    refine JL.skip (d := some 26) rfl rfl rfl ?_
    refine JL.skip (d := some 27) rfl rfl rfl ?_
    refine JL.val (v := .bool true) (QV.pickT rfl rfl) rfl rfl rfl ?_
    refine JL.nil ?_
    refine QJ.then_normal ?_
    refine JC.condT rfl ?_
    refine JC.seq ?_
    refine JC.region ?_
    refine JL.val (v := .int .i64 (0 : Int)) (QV.assign rfl) rfl rfl rfl ?_
    refine JL.nil ?_
    refine QJ.then_normal ?_
    refine JC.ret ?_
    refine QJ.then_ret ?_
    obtain rfl := Option.some.inj hm
    exact QJ.body (vs := [.int .i64 (0 : Int)]) (.inl rfl) rfl (ResVs.cons (ResV.tmp rfl) ResVs.nil) [] rfl rfl (.inr trivial) ⟨rfl, rfl⟩

/-! ### 21: drogher/drogherlaw02.awake -/
noncomputable def F21.m  : Option Bool :=
  ((F25.m (([] : List Int)) ((2 : Int)) ((258 : Int))).bind fun y2 => (if (strOfNums y2) = (⟨#[1, 2]⟩ : ByteArray) then ((F24.m ([(165 : Int)]) ((1 : Int)) ((4 : Int))).bind fun y7 => some (decide (y7 = (5 : Int)))) else some false))
set_option maxRecDepth 100000 in
set_option maxHeartbeats 4000000 in
theorem F21.spec  (r : Bool) (hm : F21.m  = some r) :
    Ctr Try.prog false 21 [] [] (fun v L' => v = .bool r ∧ L' = []) := by
  refine Ctr.intro (n := 11) (env := []) Try.func21 rfl rfl rfl rfl (fun c => ?_)
  unfold F21.m at hm
  refine JC.seq ?_
  refine JC.region ?_
  refine JL.val (v := .bool false) (QV.assign rfl) rfl rfl rfl ?_
  refine JL.nil ?_
  refine QJ.then_normal ?_
  refine JC.seq ?_
  refine JC.region ?_
  refine JL.ent (fun _ hs => hs.nil 5 (Enc.int .u8)) ?_
  obtain ⟨y2, hc3, hm⟩ := bind_inv hm
  refine JL.mv (d := some 2) (MV.call (Lo := []) (Lr := [Asr.of 5 (Enc.int .u8) (SlV.nil.v) ([] : List Int)]) (F25.spec (SlV.nil) (([] : List Int)) ((2 : Int)) ((258 : Int)) _ hc3) rfl Try.func25 rfl rfl rfl [] [0] rfl rfl rfl ⟨(Drv.of 0 rfl), trivial⟩) rfl rfl rfl ?_
  rintro _ _ ⟨_, ⟨z4, rfl, rfl⟩, rfl⟩
  refine JL.val (v := z4.v) (QV.assign rfl) rfl rfl rfl ?_
  refine JL.nil ?_
  refine QJ.then_normal ?_
  refine JC.seq ?_
  refine JC.region ?_
  refine JL.val (v := z4.v) (QV.move rfl) rfl rfl rfl ?_
  refine JL.val (v := .string (strOfNums y2)) (QV.str (Rdg.of 0 rfl) Try.underlying22 Try.underlying5 Try.underlying9 rfl) rfl rfl rfl ?_
  refine JL.val (v := .bool (decide ((strOfNums y2) = (⟨#[1, 2]⟩ : ByteArray)))) (QV.eqlS rfl rfl) rfl rfl rfl ?_
  rcases ite_inv hm with ⟨h5, hm⟩ | ⟨h5, hm⟩
  ·
    refine JL.val (v := .bool true) (QV.eq (QV.move rfl) (congrArg Value.bool (decide_eq_true h5))) rfl rfl rfl ?_
    refine JL.mv (d := some 7) (MV.lit (E := (Enc.int .u8)) (vals := [(0, .int .u8 (165 : Int))]) [(165 : Int)] Try.underlying22 zi_5 rfl (by decide) rfl (by kernel_rfl)) rfl rfl rfl ?_
    rintro _ _ ⟨z6, rfl, rfl⟩
    obtain ⟨y7, hc8, hm⟩ := bind_inv hm
    refine JL.mv (d := some 8) (MV.call (Lo := []) (Lr := [Asr.of 5 (Enc.int .u8) (z6.v) [(165 : Int)], Asr.of 5 (Enc.int .u8) (z4.v) y2, Asr.of 5 (Enc.int .u8) (SlV.nil.v) ([] : List Int)]) (F24.spec (z6) ([(165 : Int)]) ((1 : Int)) ((4 : Int)) _ hc8) rfl Try.func24 rfl rfl rfl [] [0, 1, 2] rfl rfl rfl ⟨(Drv.of 0 rfl), trivial⟩) rfl rfl rfl ?_
    rintro _ _ ⟨_, ⟨rfl, rfl⟩, rfl⟩
    refine JL.val (v := .bool (decide (y7 = (5 : Int)))) (QV.eql rfl rfl) rfl rfl rfl ?_
    refine JL.val (v := .bool (decide (y7 = (5 : Int)))) (QV.pickT rfl rfl) rfl rfl rfl ?_
    refine JL.val (v := .bool (decide (y7 = (5 : Int)))) (QV.assign rfl) rfl rfl rfl ?_
    refine JL.nil ?_
    refine QJ.then_normal ?_
    refine JC.ret ?_
    obtain rfl := Option.some.inj hm
    exact QJ.body (vs := [.bool (decide (y7 = (5 : Int)))]) (.inl rfl) rfl (ResVs.cons (ResV.tmp rfl) ResVs.nil) [] rfl rfl (.inr trivial) ⟨rfl, rfl⟩
  ·
    refine JL.val (v := .bool false) (QV.eq (QV.move rfl) (congrArg Value.bool (decide_eq_false h5))) rfl rfl rfl ?_
    refine JL.skip (d := some 7) rfl rfl rfl ?_
    refine JL.skip (d := some 8) rfl rfl rfl ?_
    refine JL.skip (d := some 9) rfl rfl rfl ?_
    refine JL.val (v := .bool false) (QV.pickF rfl rfl) rfl rfl rfl ?_
    refine JL.val (v := .bool false) (QV.assign rfl) rfl rfl rfl ?_
    refine JL.nil ?_
    refine QJ.then_normal ?_
    refine JC.ret ?_
    obtain rfl := Option.some.inj hm
    exact QJ.body (vs := [.bool false]) (.inl rfl) rfl (ResVs.cons (ResV.tmp rfl) ResVs.nil) [] rfl rfl (.inr trivial) ⟨rfl, rfl⟩

/-! ### 22: drogher/octet.Digits -/
noncomputable def F22.j1  (d11 : List Int) : Option (List Int) :=
  some d11
noncomputable def F22.b1 (x2 : List Int) (x3 : Int) (y6 : (Int × Bool)) : (List Int × Int) → Option ((List Int × Int) ⊕ (List Int))
  | (d12, d13) => (if d13 < (((List.replicate (Int.toNat (IntKind.wrap .i64 (y6.1 * ((x2).length : Int)))) (0 : Int))).length : Int) then ((F24.m (x2) (d13) (x3)).bind fun y21 => (if 0 ≤ d13 ∧ d13 < ((d12).length : Int) then some (.inl ((List.set d12 (Int.toNat d13) y21), (IntKind.wrap .i64 (d13 + (1 : Int))))) else none)) else some (.inr d12))
noncomputable def F22.m (x2 : List Int) (x3 : Int) : Option (List Int) :=
  ((F69.m (x3)).bind fun y6 => (if y6.2 = true then (if 0 ≤ (IntKind.wrap .i64 (y6.1 * ((x2).length : Int))) ∧ (IntKind.wrap .i64 (y6.1 * ((x2).length : Int))) * 8 ≤ 281474976710656 ∧ (IntKind.wrap .i64 (y6.1 * ((x2).length : Int))) ≤ 9223372036854775807 then ((loop (F22.b1 x2 x3 y6) ((List.replicate (Int.toNat (IntKind.wrap .i64 (y6.1 * ((x2).length : Int)))) (0 : Int)), (0 : Int))).bind fun y => match y with | d11 => F22.j1 (d11)) else none) else some ([] : List Int)))
set_option maxRecDepth 100000 in
set_option maxHeartbeats 4000000 in
theorem F22.spec (s1 : SlV) (x2 : List Int) (x3 : Int) (r : (List Int)) (hm : F22.m x2 x3 = some r) :
    Ctr Try.prog false 22 [s1.v, .int .i64 x3] [Asr.vw (Enc.int .u8) (s1.v) x2] (fun v L' => ∃ (g4 : SlV), v = g4.v ∧ L' = [Asr.of 3 (Enc.int .i64) (g4.v) r]) := by
  refine Ctr.intro (n := 35) (env := [(0, s1.v), (1, .int .i64 x3)]) Try.func22 rfl rfl rfl rfl (fun c => ?_)
  unfold F22.m at hm
  refine JC.seq ?_
  refine JC.region ?_
  refine JL.ent (fun _ hs => hs.nil 3 (Enc.int .i64)) ?_
  refine JL.val (v := SlV.nil.v) (QV.assign rfl) rfl rfl rfl ?_
  refine JL.nil ?_
  refine QJ.then_normal ?_
  refine JC.seq ?_
  refine JC.region ?_
  refine JL.val (v := .int .i64 x3) (QV.move rfl) rfl rfl rfl ?_
  obtain ⟨y6, hc7, hm⟩ := bind_inv hm
  refine JL.mv (d := some 11) (MV.call (Lo := []) (Lr := [Asr.of 3 (Enc.int .i64) (SlV.nil.v) ([] : List Int), Asr.vw (Enc.int .u8) (s1.v) x2]) (F69.spec (x3) _ hc7) rfl Try.func69 rfl rfl rfl [] [0, 1] rfl rfl rfl trivial) rfl rfl rfl ?_
  rintro _ _ ⟨_, ⟨rfl, rfl⟩, rfl⟩
  refine JL.val (v := .tuple #[.int .i64 y6.1, .bool y6.2]) (QV.move rfl) rfl rfl rfl ?_
  refine JL.val (v := .int .i64 y6.1) (QV.extract (vs := [.int .i64 y6.1, .bool y6.2]) rfl rfl) rfl rfl rfl ?_
  refine JL.val (v := .bool y6.2) (QV.extract (vs := [.int .i64 y6.1, .bool y6.2]) rfl rfl) rfl rfl rfl ?_
  refine JL.val (v := .int .i64 y6.1) (QV.assign rfl) rfl rfl rfl ?_
  refine JL.val (v := .bool y6.2) (QV.assign rfl) rfl rfl rfl ?_
  refine JL.nil ?_
  refine QJ.then_normal ?_
  refine JC.seq ?_
  refine JC.seq ?_
  refine JC.region ?_
  refine JL.val (v := .bool y6.2) (QV.move rfl) rfl rfl rfl ?_
  refine JL.val (v := .bool (!y6.2)) (QV.not rfl) rfl rfl rfl ?_
  refine JL.nil ?_
  refine QJ.then_normal ?_
  rcases ite_inv hm with ⟨h8, hm⟩ | ⟨h8, hm⟩
  ·
    refine JC.condF' rfl (congrArg Bool.not h8) ?_
    refine JC.skip ?_
    refine QJ.then_normal ?_
    refine JC.seq ?_
    refine JC.region ?_
    refine JL.val (v := .int .i64 y6.1) (QV.move rfl) rfl rfl rfl ?_
    refine JL.val (v := s1.v) (QV.move rfl) rfl rfl rfl ?_
    refine JL.val (v := .int .i64 ((x2).length : Int)) (QV.len (Rdg.vw 1 rfl) Try.underlying22 rfl) rfl rfl rfl ?_
    refine JL.val (v := .int .i64 (IntKind.wrap .i64 (y6.1 * ((x2).length : Int)))) (QV.mul rfl rfl) rfl rfl rfl ?_
    obtain ⟨h9, hm⟩ := guard_inv hm
    refine JL.mv (d := some 20) (MV.make (E := (Enc.int .i64)) (0 : Int) Try.underlying24 zi_3 (by decide) rfl rfl rfl h9) rfl rfl rfl ?_
    rintro _ _ ⟨z10, rfl, rfl⟩
    refine JL.val (v := z10.v) (QV.assign rfl) rfl rfl rfl ?_
    refine JL.nil ?_
    refine QJ.then_normal ?_
    refine JC.seq ?_
    refine JC.seq ?_
    refine JC.region ?_
    refine JL.val (v := z10.v) (QV.move rfl) rfl rfl rfl ?_
    refine JL.val (v := .int .i64 (((List.replicate (Int.toNat (IntKind.wrap .i64 (y6.1 * ((x2).length : Int)))) (0 : Int))).length : Int)) (QV.len (Rdg.of 0 rfl) Try.underlying24 rfl) rfl rfl rfl ?_
    refine JL.val (v := .int .i64 (0 : Int)) (QV.move rfl) rfl rfl rfl ?_
    refine JL.nil ?_
    refine QJ.then_normal ?_
    refine JC.cutK (Y := (List Int) × Unit) (fun y => match y with | (d11, _) => F22.j1 (d11) = some r) (fun y => match y with | (d11, _) => [(7, z10.v)]) (fun y => match y with | (d11, _) => [Asr.of 3 (Enc.int .i64) (z10.v) d11]) ?_ ?_
    ·
      rintro ⟨d11, ⟨⟩⟩ hm
      unfold F22.j1 at hm
      show QJ _ _ [(7, z10.v)] [Asr.of 3 (Enc.int .i64) (z10.v) d11] _ _
      refine QJ.then_normal ?_
      refine JC.seq ?_
      refine JC.region ?_
      refine JL.val (v := z10.v) (QV.move rfl) rfl rfl rfl ?_
      refine JL.val (v := z10.v) (QV.assign rfl) rfl rfl rfl ?_
      refine JL.nil ?_
      refine QJ.then_normal ?_
      refine JC.ret ?_
      obtain rfl := Option.some.inj hm
      exact QJ.body (vs := [z10.v]) (.inl rfl) rfl (ResVs.cons (ResV.tmp rfl) ResVs.nil) [0] rfl rfl (.inr ⟨own_of _ _ _ _, trivial⟩) ⟨z10, rfl, rfl⟩
    ·
      refine JC.block ?_
      obtain ⟨y16, hl17, hmo18⟩ := bind_inv hm
      refine JC.loop (F22.b1 x2 x3 y6) (fun x z => match x, z with | (d12, d13), _ => [(0, s1.v), (1, .int .i64 x3), (7, z10.v), (22, .int .i64 (((List.replicate (Int.toNat (IntKind.wrap .i64 (y6.1 * ((x2).length : Int)))) (0 : Int))).length : Int)), (23, .int .i64 d13)]) (fun x z => match x, z with | (d12, d13), _ => [Asr.vw (Enc.int .u8) (s1.v) x2, Asr.of 3 (Enc.int .i64) (z10.v) d12]) ((List.replicate (Int.toNat (IntKind.wrap .i64 (y6.1 * ((x2).length : Int)))) (0 : Int)), (0 : Int)) () y16 hl17 [2, 0] (by exact ⟨rfl, rfl, rfl, rfl, rfl, trivial⟩) rfl rfl ?_
      rintro ⟨d12, d13⟩ ⟨⟩ s19 hm
      unfold F22.b1 at hm
      dsimp only at hm
      show JC _ _ _ [(0, s1.v), (1, .int .i64 x3), (7, z10.v), (22, .int .i64 (((List.replicate (Int.toNat (IntKind.wrap .i64 (y6.1 * ((x2).length : Int)))) (0 : Int))).length : Int)), (23, .int .i64 d13)] [Asr.vw (Enc.int .u8) (s1.v) x2, Asr.of 3 (Enc.int .i64) (z10.v) d12] _ _
      refine JC.seq ?_
      refine JC.region ?_
      refine JL.val (v := .bool (decide (d13 < (((List.replicate (Int.toNat (IntKind.wrap .i64 (y6.1 * ((x2).length : Int)))) (0 : Int))).length : Int)))) (QV.lss rfl rfl) rfl rfl rfl ?_
      refine JL.nil ?_
      refine QJ.then_normal ?_
      refine JC.seq ?_
      rcases ite_inv hm with ⟨h20, hm⟩ | ⟨h20, hm⟩
      ·
        refine JC.condT' rfl (decide_eq_true h20) ?_
        refine JC.skip ?_
        refine QJ.then_normal ?_
        refine JC.seq ?_
        refine JC.block ?_
        refine JC.seq ?_
        refine JC.region ?_
        refine JL.val (v := .int .i64 d13) (QV.move rfl) rfl rfl rfl ?_
        refine JL.val (v := .int .i64 d13) (QV.assign rfl) rfl rfl rfl ?_
        refine JL.nil ?_
        refine QJ.then_normal ?_
        refine JC.region ?_
        refine JL.val (v := z10.v) (QV.move rfl) rfl rfl rfl ?_
        refine JL.val (v := .int .i64 d13) (QV.move rfl) rfl rfl rfl ?_
        refine JL.val (v := s1.v) (QV.move rfl) rfl rfl rfl ?_
        refine JL.val (v := .int .i64 d13) (QV.move rfl) rfl rfl rfl ?_
        refine JL.val (v := .int .i64 x3) (QV.move rfl) rfl rfl rfl ?_
        obtain ⟨y21, hc22, hm⟩ := bind_inv hm
        refine JL.mv (d := some 31) (MV.call (Lo := []) (Lr := [Asr.vw (Enc.int .u8) (s1.v) x2, Asr.of 3 (Enc.int .i64) (z10.v) d12]) (F24.spec (s1) (x2) (d13) (x3) _ hc22) rfl Try.func24 rfl rfl rfl [] [0, 1] rfl rfl rfl ⟨(Drv.vw 0 rfl), trivial⟩) rfl rfl rfl ?_
        rintro _ _ ⟨_, ⟨rfl, rfl⟩, rfl⟩
        obtain ⟨h23, hm⟩ := guard_inv hm
        refine JL.val (v := .pointer (some (elA (z10.v) (Int.toNat d13 * ((Enc.int .i64)).sz)))) (QV.indexA (Rdg.of 1 rfl) Try.underlying24 tk_3 rfl rfl h23) rfl rfl rfl ?_
        refine JL.mv (d := none) (MV.storeEl 1 y21 rfl tk_3 rfl rfl h23 rfl) rfl rfl rfl ?_
        rintro _ _ ⟨rfl, rfl⟩
        refine JL.nil ?_
        refine QJ.block_normal ?_
        refine QJ.then_normal ?_
        refine JC.region ?_
        refine JL.val (v := .int .i64 (IntKind.wrap .i64 (d13 + (1 : Int)))) (QV.add rfl rfl) rfl rfl rfl ?_
        refine JL.val (v := .int .i64 (IntKind.wrap .i64 (d13 + (1 : Int)))) (QV.move rfl) rfl rfl rfl ?_
        refine JL.nil ?_
        obtain rfl := Option.some.inj hm
        exact QJ.round_on ((List.set d12 (Int.toNat d13) y21), (IntKind.wrap .i64 (d13 + (1 : Int)))) () [0, 1] (by exact ⟨rfl, rfl, rfl, rfl, rfl, trivial⟩) rfl rfl
      ·
        refine JC.condF' rfl (decide_eq_false h20) ?_
        refine JC.exit ?_
        refine QJ.then_exit ?_
        obtain rfl := Option.some.inj hm
        refine QJ.round_exit (fun hy => ?_)
        subst hy
        refine QJ.block_hit ?_
        exact QJ.cut_normal (d12, ()) hmo18 [1] (by exact ⟨rfl, trivial⟩) rfl rfl
  ·
    refine JC.condT' rfl (congrArg Bool.not (bfalse h8)) ?_
    refine JC.seq ?_
    refine JC.region ?_
    refine JL.ent (fun _ hs => hs.nil 3 (Enc.int .i64)) ?_
    refine JL.val (v := SlV.nil.v) (QV.assign rfl) rfl rfl rfl ?_
    refine JL.nil ?_
    refine QJ.then_normal ?_
    refine JC.ret ?_
    refine QJ.then_ret ?_
    obtain rfl := Option.some.inj hm
    exact QJ.body (vs := [SlV.nil.v]) (.inl rfl) rfl (ResVs.cons (ResV.tmp rfl) ResVs.nil) [0] rfl rfl (.inr ⟨own_of _ _ _ _, trivial⟩) ⟨(SlV.nil), rfl, rfl⟩

/-! ### 29: drogher/octet.Check -/
noncomputable def F29.j1 (x3 : Int) (d12 : Int) : Option Int :=
  (if 0 ≤ (lkp [((1 : Int), (7 : Int)), ((2 : Int), (6 : Int)), ((4 : Int), (4 : Int))] x3) then some (IntKind.wrap .u16 (shlI .i64 d12 (lkp [((1 : Int), (7 : Int)), ((2 : Int), (6 : Int)), ((4 : Int), (4 : Int))] x3))) else none)
noncomputable def F29.b1 (y9 : (List Int)) : (Int × Int) → Option ((Int × Int) ⊕ Int)
  | (d15, d16) => (if d16 < ((y9).length : Int) then (if 0 ≤ d16 ∧ d16 < ((y9).length : Int) then some (.inl ((IntKind.wrap .i64 (d15 - (gd y9 d16))), (IntKind.wrap .i64 (d16 + (1 : Int))))) else none) else some (.inr d15))
noncomputable def F29.m (x2 : List Int) (x3 : Int) : Option Int :=
  ((F69.m (x3)).bind fun y5 => (if y5.2 = true then (if 0 ≤ x3 then ((F22.m (x2) (x3)).bind fun y9 => ((loop (F29.b1 y9) ((IntKind.wrap .i64 ((IntKind.wrap .i64 (y5.1 * ((x2).length : Int))) * (IntKind.wrap .i64 ((shlI .i64 (1 : Int) x3) - (1 : Int))))), (0 : Int))).bind fun y => match y with | d12 => F29.j1 x3 (d12))) else none) else some (0 : Int)))
set_option maxRecDepth 100000 in
set_option maxHeartbeats 4000000 in
theorem F29.spec (s1 : SlV) (x2 : List Int) (x3 : Int) (r : Int) (hm : F29.m x2 x3 = some r) :
    Ctr Try.prog false 29 [s1.v, .int .i64 x3] [Asr.vw (Enc.int .u8) (s1.v) x2] (fun v L' => v = .int .u16 r ∧ L' = []) := by
  refine Ctr.intro (n := 46) (env := [(0, s1.v), (1, .int .i64 x3)]) Try.func29 rfl rfl rfl rfl (fun c => ?_)
  unfold F29.m at hm
  refine JC.seq ?_
  refine JC.region ?_
  refine JL.val (v := .int .u16 (0 : Int)) (QV.assign rfl) rfl rfl rfl ?_
  refine JL.nil ?_
  refine QJ.then_normal ?_
  refine JC.seq ?_
  refine JC.region ?_
  refine JL.val (v := .int .i64 x3) (QV.move rfl) rfl rfl rfl ?_
  obtain ⟨y5, hc6, hm⟩ := bind_inv hm
  refine JL.mv (d := some 13) (MV.call (Lo := []) (Lr := [Asr.vw (Enc.int .u8) (s1.v) x2]) (F69.spec (x3) _ hc6) rfl Try.func69 rfl rfl rfl [] [0] rfl rfl rfl trivial) rfl rfl rfl ?_
  rintro _ _ ⟨_, ⟨rfl, rfl⟩, rfl⟩
  refine JL.val (v := .tuple #[.int .i64 y5.1, .bool y5.2]) (QV.move rfl) rfl rfl rfl ?_
  refine JL.val (v := .int .i64 y5.1) (QV.extract (vs := [.int .i64 y5.1, .bool y5.2]) rfl rfl) rfl rfl rfl ?_
  refine JL.val (v := .bool y5.2) (QV.extract (vs := [.int .i64 y5.1, .bool y5.2]) rfl rfl) rfl rfl rfl ?_
  refine JL.val (v := .int .i64 y5.1) (QV.assign rfl) rfl rfl rfl ?_
  refine JL.val (v := .bool y5.2) (QV.assign rfl) rfl rfl rfl ?_
  refine JL.nil ?_
  refine QJ.then_normal ?_
  refine JC.seq ?_
  refine JC.seq ?_
  refine JC.region ?_
  refine JL.val (v := .bool y5.2) (QV.move rfl) rfl rfl rfl ?_
  refine JL.val (v := .bool (!y5.2)) (QV.not rfl) rfl rfl rfl ?_
  refine JL.nil ?_
  refine QJ.then_normal ?_
  rcases ite_inv hm with ⟨h7, hm⟩ | ⟨h7, hm⟩
  ·
    refine JC.condF' rfl (congrArg Bool.not h7) ?_
    refine JC.skip ?_
    refine QJ.then_normal ?_
    refine JC.seq ?_
    refine JC.region ?_
    refine JL.val (v := .int .i64 y5.1) (QV.move rfl) rfl rfl rfl ?_
    refine JL.val (v := s1.v) (QV.move rfl) rfl rfl rfl ?_
    refine JL.val (v := .int .i64 ((x2).length : Int)) (QV.len (Rdg.vw 0 rfl) Try.underlying22 rfl) rfl rfl rfl ?_
    refine JL.val (v := .int .i64 (IntKind.wrap .i64 (y5.1 * ((x2).length : Int)))) (QV.mul rfl rfl) rfl rfl rfl ?_
    refine JL.val (v := .int .i64 x3) (QV.move rfl) rfl rfl rfl ?_
    obtain ⟨h8, hm⟩ := guard_inv hm
    refine JL.val (v := .int .i64 (shlI .i64 (1 : Int) x3)) (QV.shl rfl rfl h8) rfl rfl rfl ?_
    refine JL.val (v := .int .i64 (IntKind.wrap .i64 ((shlI .i64 (1 : Int) x3) - (1 : Int)))) (QV.sub rfl rfl) rfl rfl rfl ?_
    refine JL.val (v := .int .i64 (IntKind.wrap .i64 ((IntKind.wrap .i64 (y5.1 * ((x2).length : Int))) * (IntKind.wrap .i64 ((shlI .i64 (1 : Int) x3) - (1 : Int)))))) (QV.mul rfl rfl) rfl rfl rfl ?_
    refine JL.val (v := .int .i64 (IntKind.wrap .i64 ((IntKind.wrap .i64 (y5.1 * ((x2).length : Int))) * (IntKind.wrap .i64 ((shlI .i64 (1 : Int) x3) - (1 : Int)))))) (QV.assign rfl) rfl rfl rfl ?_
    refine JL.nil ?_
    refine QJ.then_normal ?_
    refine JC.seq ?_
    refine JC.seq ?_
    refine JC.region ?_
    refine JL.val (v := s1.v) (QV.move rfl) rfl rfl rfl ?_
    refine JL.val (v := .int .i64 x3) (QV.move rfl) rfl rfl rfl ?_
    obtain ⟨y9, hc10, hm⟩ := bind_inv hm
    refine JL.mv (d := some 28) (MV.call (Lo := []) (Lr := [Asr.vw (Enc.int .u8) (s1.v) x2]) (F22.spec (s1) (x2) (x3) _ hc10) rfl Try.func22 rfl rfl rfl [] [0] rfl rfl rfl ⟨(Drv.vw 0 rfl), trivial⟩) rfl rfl rfl ?_
    rintro _ _ ⟨_, ⟨z11, rfl, rfl⟩, rfl⟩
    refine JL.val (v := .int .i64 ((y9).length : Int)) (QV.len (Rdg.of 0 rfl) Try.underlying24 rfl) rfl rfl rfl ?_
    refine JL.val (v := .int .i64 (0 : Int)) (QV.move rfl) rfl rfl rfl ?_
    refine JL.nil ?_
    refine QJ.then_normal ?_
    refine JC.cutK (Y := Int × Unit) (fun y => match y with | (d12, _) => F29.j1 x3 (d12) = some r) (fun y => match y with | (d12, _) => [(1, .int .i64 x3), (7, .int .i64 d12)]) (fun y => match y with | (d12, _) => []) ?_ ?_
    ·
      rintro ⟨d12, ⟨⟩⟩ hm
      unfold F29.j1 at hm
      show QJ _ _ [(1, .int .i64 x3), (7, .int .i64 d12)] [] _ _
      refine QJ.then_normal ?_
      refine JC.seq ?_
      refine JC.region ?_
      refine JL.mv (d := some 38) (MV.makeMap .i64 .i64) rfl rfl rfl ?_
      rintro _ _ ⟨b13, rfl, rfl⟩
      refine JL.mv (d := none) (MV.insert 0 rfl Try.underlying96 Try.underlying3 rfl rfl rfl (by decide)) rfl rfl rfl ?_
      rintro _ _ ⟨rfl, rfl⟩
      refine JL.mv (d := none) (MV.insert 0 rfl Try.underlying96 Try.underlying3 rfl rfl rfl (by decide)) rfl rfl rfl ?_
      rintro _ _ ⟨rfl, rfl⟩
      refine JL.mv (d := none) (MV.insert 0 rfl Try.underlying96 Try.underlying3 rfl rfl rfl (by decide)) rfl rfl rfl ?_
      rintro _ _ ⟨rfl, rfl⟩
      refine JL.val (v := .map (some b13)) (QV.move rfl) rfl rfl rfl ?_
      refine JL.val (v := .int .i64 x3) (QV.move rfl) rfl rfl rfl ?_
      refine JL.val (v := .int .i64 (lkp [((1 : Int), (7 : Int)), ((2 : Int), (6 : Int)), ((4 : Int), (4 : Int))] x3)) (QV.lookup 0 rfl Try.underlying96 Try.underlying3 z_3 rfl rfl) rfl rfl rfl ?_
      refine JL.val (v := .int .i64 (lkp [((1 : Int), (7 : Int)), ((2 : Int), (6 : Int)), ((4 : Int), (4 : Int))] x3)) (QV.assign rfl) rfl rfl rfl ?_
      refine JL.nil ?_
      refine QJ.then_normal ?_
      refine JC.seq ?_
      refine JC.region ?_
      refine JL.val (v := .int .i64 d12) (QV.move rfl) rfl rfl rfl ?_
      refine JL.val (v := .int .i64 (lkp [((1 : Int), (7 : Int)), ((2 : Int), (6 : Int)), ((4 : Int), (4 : Int))] x3)) (QV.move rfl) rfl rfl rfl ?_
      obtain ⟨h14, hm⟩ := guard_inv hm
      refine JL.val (v := .int .i64 (shlI .i64 d12 (lkp [((1 : Int), (7 : Int)), ((2 : Int), (6 : Int)), ((4 : Int), (4 : Int))] x3))) (QV.shl rfl rfl h14) rfl rfl rfl ?_
      refine JL.val (v := .int .u16 (IntKind.wrap .u16 (shlI .i64 d12 (lkp [((1 : Int), (7 : Int)), ((2 : Int), (6 : Int)), ((4 : Int), (4 : Int))] x3)))) (QV.conv rfl (by rw [Try.underlying3]; rfl) Try.underlying36) rfl rfl rfl ?_
      refine JL.val (v := .int .u16 (IntKind.wrap .u16 (shlI .i64 d12 (lkp [((1 : Int), (7 : Int)), ((2 : Int), (6 : Int)), ((4 : Int), (4 : Int))] x3)))) (QV.assign rfl) rfl rfl rfl ?_
      refine JL.nil ?_
      refine QJ.then_normal ?_
      refine JC.ret ?_
      obtain rfl := Option.some.inj hm
      exact QJ.body (vs := [.int .u16 (IntKind.wrap .u16 (shlI .i64 d12 (lkp [((1 : Int), (7 : Int)), ((2 : Int), (6 : Int)), ((4 : Int), (4 : Int))] x3)))]) (.inl rfl) rfl (ResVs.cons (ResV.tmp rfl) ResVs.nil) [] rfl rfl (.inr trivial) ⟨rfl, rfl⟩
    ·
      refine JC.block ?_
      obtain ⟨y19, hl20, hmo21⟩ := bind_inv hm
      refine JC.loop (F29.b1 y9) (fun x z => match x, z with | (d15, d16), _ => [(1, .int .i64 x3), (7, .int .i64 d15), (28, z11.v), (29, .int .i64 ((y9).length : Int)), (30, .int .i64 d16)]) (fun x z => match x, z with | (d15, d16), _ => [Asr.of 3 (Enc.int .i64) (z11.v) y9]) ((IntKind.wrap .i64 ((IntKind.wrap .i64 (y5.1 * ((x2).length : Int))) * (IntKind.wrap .i64 ((shlI .i64 (1 : Int) x3) - (1 : Int))))), (0 : Int)) () y19 hl20 [0] (by exact ⟨rfl, rfl, rfl, rfl, rfl, trivial⟩) rfl rfl ?_
      rintro ⟨d15, d16⟩ ⟨⟩ s22 hm
      unfold F29.b1 at hm
      dsimp only at hm
      show JC _ _ _ [(1, .int .i64 x3), (7, .int .i64 d15), (28, z11.v), (29, .int .i64 ((y9).length : Int)), (30, .int .i64 d16)] [Asr.of 3 (Enc.int .i64) (z11.v) y9] _ _
      refine JC.seq ?_
      refine JC.region ?_
      refine JL.val (v := .bool (decide (d16 < ((y9).length : Int)))) (QV.lss rfl rfl) rfl rfl rfl ?_
      refine JL.nil ?_
      refine QJ.then_normal ?_
      refine JC.seq ?_
      rcases ite_inv hm with ⟨h23, hm⟩ | ⟨h23, hm⟩
      ·
        refine JC.condT' rfl (decide_eq_true h23) ?_
        refine JC.skip ?_
        refine QJ.then_normal ?_
        refine JC.seq ?_
        refine JC.block ?_
        refine JC.seq ?_
        refine JC.region ?_
        obtain ⟨h24, hm⟩ := guard_inv hm
        refine JL.val (v := .pointer (some (elA (z11.v) (Int.toNat d16 * ((Enc.int .i64)).sz)))) (QV.indexA (Rdg.of 0 rfl) Try.underlying24 tk_3 rfl rfl h24) rfl rfl rfl ?_
        refine JL.val (v := .int .i64 (gd y9 d16)) (QV.el1 (Rdg.of 0 rfl) tk_3 rfl h24 rfl) rfl rfl rfl ?_
        refine JL.val (v := .int .i64 (gd y9 d16)) (QV.assign rfl) rfl rfl rfl ?_
        refine JL.nil ?_
        refine QJ.then_normal ?_
        refine JC.region ?_
        refine JL.val (v := .int .i64 d15) (QV.move rfl) rfl rfl rfl ?_
        refine JL.val (v := .int .i64 (gd y9 d16)) (QV.move rfl) rfl rfl rfl ?_
        refine JL.val (v := .int .i64 (IntKind.wrap .i64 (d15 - (gd y9 d16)))) (QV.sub rfl rfl) rfl rfl rfl ?_
        refine JL.val (v := .int .i64 (IntKind.wrap .i64 (d15 - (gd y9 d16)))) (QV.assign rfl) rfl rfl rfl ?_
        refine JL.nil ?_
        refine QJ.block_normal ?_
        refine QJ.then_normal ?_
        refine JC.region ?_
        refine JL.val (v := .int .i64 (IntKind.wrap .i64 (d16 + (1 : Int)))) (QV.add rfl rfl) rfl rfl rfl ?_
        refine JL.val (v := .int .i64 (IntKind.wrap .i64 (d16 + (1 : Int)))) (QV.move rfl) rfl rfl rfl ?_
        refine JL.nil ?_
        obtain rfl := Option.some.inj hm
        exact QJ.round_on ((IntKind.wrap .i64 (d15 - (gd y9 d16))), (IntKind.wrap .i64 (d16 + (1 : Int)))) () [0] (by exact ⟨rfl, rfl, rfl, rfl, rfl, trivial⟩) rfl rfl
      ·
        refine JC.condF' rfl (decide_eq_false h23) ?_
        refine JC.exit ?_
        refine QJ.then_exit ?_
        obtain rfl := Option.some.inj hm
        refine QJ.round_exit (fun hy => ?_)
        subst hy
        refine QJ.block_hit ?_
        exact QJ.cut_normal (d15, ()) hmo21 [] (by exact ⟨rfl, rfl, trivial⟩) rfl rfl
  ·
    refine JC.condT' rfl (congrArg Bool.not (bfalse h7)) ?_
    refine JC.seq ?_
    refine JC.region ?_
    refine JL.val (v := .int .u16 (0 : Int)) (QV.assign rfl) rfl rfl rfl ?_
    refine JL.nil ?_
    refine QJ.then_normal ?_
    refine JC.ret ?_
    refine QJ.then_ret ?_
    obtain rfl := Option.some.inj hm
    exact QJ.body (vs := [.int .u16 (0 : Int)]) (.inl rfl) rfl (ResVs.cons (ResV.tmp rfl) ResVs.nil) [] rfl rfl (.inr trivial) ⟨rfl, rfl⟩

/-! ### 23: drogher/drogherref02.Digits -/
noncomputable def F23.j1  (d9 : List Int) : Option (List Int) :=
  some d9
noncomputable def F23.j2 (d12 : Int) (d22 : List Int) : Option ((List Int × Int) ⊕ (List Int)) :=
  some (.inl (d22, (IntKind.wrap .i64 (d12 + (1 : Int)))))
noncomputable def F23.j3 (d12 : Int) (d24 : List Int) : Option ((List Int × Int) ⊕ (List Int)) :=
  F23.j2 d12 (d24)
noncomputable def F23.j4 (d28 : Int) (d42 : List Int) (d43 : Int) : Option ((List Int × Int × Int) ⊕ (List Int)) :=
  some (.inl (d42, d43, (IntKind.wrap .i64 (d28 + (1 : Int)))))
noncomputable def F23.b2 (x2 : List Int) (x3 : Int) (d12 : Int) : (List Int × Int × Int) → Option ((List Int × Int × Int) ⊕ (List Int))
  | (d26, d27, d28) => (if d28 < (8 : Int) then (if 0 ≤ d12 ∧ d12 < ((x2).length : Int) then (if 0 ≤ (IntKind.wrap .i64 ((7 : Int) - d28)) then (if x3 ≠ 0 then (if (Int.tmod d28 x3) = (IntKind.wrap .i64 (x3 - (1 : Int))) then (if ((d26).length + ([(IntKind.wrap .i64 ((IntKind.wrap .i64 ((2 : Int) * d27)) + (Int.tmod (shrI .i64 (IntKind.wrap .i64 (gd x2 d12)) (IntKind.wrap .i64 ((7 : Int) - d28))) (2 : Int))))]).length) * 8 ≤ 140737488355328 ∧ (d26).length + ([(IntKind.wrap .i64 ((IntKind.wrap .i64 ((2 : Int) * d27)) + (Int.tmod (shrI .i64 (IntKind.wrap .i64 (gd x2 d12)) (IntKind.wrap .i64 ((7 : Int) - d28))) (2 : Int))))]).length ≤ 9223372036854775807 then F23.j4 d28 ((d26 ++ [(IntKind.wrap .i64 ((IntKind.wrap .i64 ((2 : Int) * d27)) + (Int.tmod (shrI .i64 (IntKind.wrap .i64 (gd x2 d12)) (IntKind.wrap .i64 ((7 : Int) - d28))) (2 : Int))))])) ((0 : Int)) else none) else F23.j4 d28 (d26) ((IntKind.wrap .i64 ((IntKind.wrap .i64 ((2 : Int) * d27)) + (Int.tmod (shrI .i64 (IntKind.wrap .i64 (gd x2 d12)) (IntKind.wrap .i64 ((7 : Int) - d28))) (2 : Int)))))) else none) else none) else none) else some (.inr d26))
noncomputable def F23.b1 (x2 : List Int) (x3 : Int) : (List Int × Int) → Option ((List Int × Int) ⊕ (List Int))
  | (d11, d12) => (if d12 < ((x2).length : Int) then ((loop (F23.b2 x2 x3 d12) (d11, (0 : Int), (0 : Int))).bind fun y => match y with | d24 => F23.j3 d12 (d24)) else some (.inr d11))
noncomputable def F23.j5  (d50 : List Int) : Option (List Int) :=
  some d50
noncomputable def F23.j6 (d53 : Int) (d63 : List Int) : Option ((List Int × Int) ⊕ (List Int)) :=
  some (.inl (d63, (IntKind.wrap .i64 (d53 + (1 : Int)))))
noncomputable def F23.j7 (d53 : Int) (d65 : List Int) : Option ((List Int × Int) ⊕ (List Int)) :=
  F23.j6 d53 (d65)
noncomputable def F23.j8 (d69 : Int) (d83 : List Int) (d84 : Int) : Option ((List Int × Int × Int) ⊕ (List Int)) :=
  some (.inl (d83, d84, (IntKind.wrap .i64 (d69 + (1 : Int)))))
noncomputable def F23.b4 (x2 : List Int) (x3 : Int) (d53 : Int) : (List Int × Int × Int) → Option ((List Int × Int × Int) ⊕ (List Int))
  | (d67, d68, d69) => (if d69 < (8 : Int) then (if 0 ≤ d53 ∧ d53 < ((x2).length : Int) then (if 0 ≤ (IntKind.wrap .i64 ((7 : Int) - d69)) then (if x3 ≠ 0 then (if (Int.tmod d69 x3) = (IntKind.wrap .i64 (x3 - (1 : Int))) then (if ((d67).length + ([(IntKind.wrap .i64 ((IntKind.wrap .i64 ((2 : Int) * d68)) + (Int.tmod (shrI .i64 (IntKind.wrap .i64 (gd x2 d53)) (IntKind.wrap .i64 ((7 : Int) - d69))) (2 : Int))))]).length) * 8 ≤ 140737488355328 ∧ (d67).length + ([(IntKind.wrap .i64 ((IntKind.wrap .i64 ((2 : Int) * d68)) + (Int.tmod (shrI .i64 (IntKind.wrap .i64 (gd x2 d53)) (IntKind.wrap .i64 ((7 : Int) - d69))) (2 : Int))))]).length ≤ 9223372036854775807 then F23.j8 d69 ((d67 ++ [(IntKind.wrap .i64 ((IntKind.wrap .i64 ((2 : Int) * d68)) + (Int.tmod (shrI .i64 (IntKind.wrap .i64 (gd x2 d53)) (IntKind.wrap .i64 ((7 : Int) - d69))) (2 : Int))))])) ((0 : Int)) else none) else F23.j8 d69 (d67) ((IntKind.wrap .i64 ((IntKind.wrap .i64 ((2 : Int) * d68)) + (Int.tmod (shrI .i64 (IntKind.wrap .i64 (gd x2 d53)) (IntKind.wrap .i64 ((7 : Int) - d69))) (2 : Int)))))) else none) else none) else none) else some (.inr d67))
noncomputable def F23.b3 (x2 : List Int) (x3 : Int) : (List Int × Int) → Option ((List Int × Int) ⊕ (List Int))
  | (d52, d53) => (if d53 < ((x2).length : Int) then ((loop (F23.b4 x2 x3 d53) (d52, (0 : Int), (0 : Int))).bind fun y => match y with | d65 => F23.j7 d53 (d65)) else some (.inr d52))
noncomputable def F23.j9  (d91 : List Int) : Option (List Int) :=
  some d91
noncomputable def F23.j10 (d94 : Int) (d104 : List Int) : Option ((List Int × Int) ⊕ (List Int)) :=
  some (.inl (d104, (IntKind.wrap .i64 (d94 + (1 : Int)))))
noncomputable def F23.j11 (d94 : Int) (d106 : List Int) : Option ((List Int × Int) ⊕ (List Int)) :=
  F23.j10 d94 (d106)
noncomputable def F23.j12 (d110 : Int) (d124 : List Int) (d125 : Int) : Option ((List Int × Int × Int) ⊕ (List Int)) :=
  some (.inl (d124, d125, (IntKind.wrap .i64 (d110 + (1 : Int)))))
noncomputable def F23.b6 (x2 : List Int) (x3 : Int) (d94 : Int) : (List Int × Int × Int) → Option ((List Int × Int × Int) ⊕ (List Int))
  | (d108, d109, d110) => (if d110 < (8 : Int) then (if 0 ≤ d94 ∧ d94 < ((x2).length : Int) then (if 0 ≤ (IntKind.wrap .i64 ((7 : Int) - d110)) then (if x3 ≠ 0 then (if (Int.tmod d110 x3) = (IntKind.wrap .i64 (x3 - (1 : Int))) then (if ((d108).length + ([(IntKind.wrap .i64 ((IntKind.wrap .i64 ((2 : Int) * d109)) + (Int.tmod (shrI .i64 (IntKind.wrap .i64 (gd x2 d94)) (IntKind.wrap .i64 ((7 : Int) - d110))) (2 : Int))))]).length) * 8 ≤ 140737488355328 ∧ (d108).length + ([(IntKind.wrap .i64 ((IntKind.wrap .i64 ((2 : Int) * d109)) + (Int.tmod (shrI .i64 (IntKind.wrap .i64 (gd x2 d94)) (IntKind.wrap .i64 ((7 : Int) - d110))) (2 : Int))))]).length ≤ 9223372036854775807 then F23.j12 d110 ((d108 ++ [(IntKind.wrap .i64 ((IntKind.wrap .i64 ((2 : Int) * d109)) + (Int.tmod (shrI .i64 (IntKind.wrap .i64 (gd x2 d94)) (IntKind.wrap .i64 ((7 : Int) - d110))) (2 : Int))))])) ((0 : Int)) else none) else F23.j12 d110 (d108) ((IntKind.wrap .i64 ((IntKind.wrap .i64 ((2 : Int) * d109)) + (Int.tmod (shrI .i64 (IntKind.wrap .i64 (gd x2 d94)) (IntKind.wrap .i64 ((7 : Int) - d110))) (2 : Int)))))) else none) else none) else none) else some (.inr d108))
noncomputable def F23.b5 (x2 : List Int) (x3 : Int) : (List Int × Int) → Option ((List Int × Int) ⊕ (List Int))
  | (d93, d94) => (if d94 < ((x2).length : Int) then ((loop (F23.b6 x2 x3 d94) (d93, (0 : Int), (0 : Int))).bind fun y => match y with | d106 => F23.j11 d94 (d106)) else some (.inr d93))
noncomputable def F23.j13  (d132 : List Int) : Option (List Int) :=
  some d132
noncomputable def F23.j14 (d135 : Int) (d145 : List Int) : Option ((List Int × Int) ⊕ (List Int)) :=
  some (.inl (d145, (IntKind.wrap .i64 (d135 + (1 : Int)))))
noncomputable def F23.j15 (d135 : Int) (d147 : List Int) : Option ((List Int × Int) ⊕ (List Int)) :=
  F23.j14 d135 (d147)
noncomputable def F23.j16 (d151 : Int) (d165 : List Int) (d166 : Int) : Option ((List Int × Int × Int) ⊕ (List Int)) :=
  some (.inl (d165, d166, (IntKind.wrap .i64 (d151 + (1 : Int)))))
noncomputable def F23.b8 (x2 : List Int) (x3 : Int) (d135 : Int) : (List Int × Int × Int) → Option ((List Int × Int × Int) ⊕ (List Int))
  | (d149, d150, d151) => (if d151 < (8 : Int) then (if 0 ≤ d135 ∧ d135 < ((x2).length : Int) then (if 0 ≤ (IntKind.wrap .i64 ((7 : Int) - d151)) then (if x3 ≠ 0 then (if (Int.tmod d151 x3) = (IntKind.wrap .i64 (x3 - (1 : Int))) then (if ((d149).length + ([(IntKind.wrap .i64 ((IntKind.wrap .i64 ((2 : Int) * d150)) + (Int.tmod (shrI .i64 (IntKind.wrap .i64 (gd x2 d135)) (IntKind.wrap .i64 ((7 : Int) - d151))) (2 : Int))))]).length) * 8 ≤ 140737488355328 ∧ (d149).length + ([(IntKind.wrap .i64 ((IntKind.wrap .i64 ((2 : Int) * d150)) + (Int.tmod (shrI .i64 (IntKind.wrap .i64 (gd x2 d135)) (IntKind.wrap .i64 ((7 : Int) - d151))) (2 : Int))))]).length ≤ 9223372036854775807 then F23.j16 d151 ((d149 ++ [(IntKind.wrap .i64 ((IntKind.wrap .i64 ((2 : Int) * d150)) + (Int.tmod (shrI .i64 (IntKind.wrap .i64 (gd x2 d135)) (IntKind.wrap .i64 ((7 : Int) - d151))) (2 : Int))))])) ((0 : Int)) else none) else F23.j16 d151 (d149) ((IntKind.wrap .i64 ((IntKind.wrap .i64 ((2 : Int) * d150)) + (Int.tmod (shrI .i64 (IntKind.wrap .i64 (gd x2 d135)) (IntKind.wrap .i64 ((7 : Int) - d151))) (2 : Int)))))) else none) else none) else none) else some (.inr d149))
noncomputable def F23.b7 (x2 : List Int) (x3 : Int) : (List Int × Int) → Option ((List Int × Int) ⊕ (List Int))
  | (d134, d135) => (if d135 < ((x2).length : Int) then ((loop (F23.b8 x2 x3 d135) (d134, (0 : Int), (0 : Int))).bind fun y => match y with | d147 => F23.j15 d135 (d147)) else some (.inr d134))
noncomputable def F23.m (x2 : List Int) (x3 : Int) : Option (List Int) :=
  (if x3 = (1 : Int) then ((loop (F23.b1 x2 x3) (([] : List Int), (0 : Int))).bind fun y => match y with | d9 => F23.j1 (d9)) else (if x3 = (2 : Int) then ((loop (F23.b3 x2 x3) (([] : List Int), (0 : Int))).bind fun y => match y with | d50 => F23.j5 (d50)) else (if x3 = (4 : Int) then ((loop (F23.b5 x2 x3) (([] : List Int), (0 : Int))).bind fun y => match y with | d91 => F23.j9 (d91)) else (if x3 = (8 : Int) then ((loop (F23.b7 x2 x3) (([] : List Int), (0 : Int))).bind fun y => match y with | d132 => F23.j13 (d132)) else some ([] : List Int)))))
set_option maxRecDepth 100000 in
set_option maxHeartbeats 4000000 in
theorem F23.spec (s1 : SlV) (x2 : List Int) (x3 : Int) (r : (List Int)) (hm : F23.m x2 x3 = some r) :
    Ctr Try.prog false 23 [s1.v, .int .i64 x3] [Asr.vw (Enc.int .u8) (s1.v) x2] (fun v L' => ∃ (g4 : SlV), v = g4.v ∧ L' = [Asr.of 3 (Enc.int .i64) (g4.v) r]) := by
  refine Ctr.intro (n := 58) (env := [(0, s1.v), (1, .int .i64 x3)]) Try.func23 rfl rfl rfl rfl (fun c => ?_)
  unfold F23.m at hm
  refine JC.seq ?_
  refine JC.region ?_
  refine JL.ent (fun _ hs => hs.nil 3 (Enc.int .i64)) ?_
  refine JL.val (v := SlV.nil.v) (QV.assign rfl) rfl rfl rfl ?_
  refine JL.nil ?_
  refine QJ.then_normal ?_
  refine JC.seq ?_
  refine JC.region ?_
  refine JL.mv (d := some 9) (MV.lit0 (Enc.int .i64) Try.underlying24 (by kernel_rfl)) rfl rfl rfl ?_
  rintro _ _ ⟨z6, rfl, rfl⟩
  refine JL.val (v := z6.v) (QV.assign rfl) rfl rfl rfl ?_
  refine JL.nil ?_
  refine QJ.then_normal ?_
  refine JC.seq ?_
  refine JC.seq ?_
  refine JC.region ?_
  refine JL.val (v := .int .i64 x3) (QV.move rfl) rfl rfl rfl ?_
  refine JL.val (v := .bool (!(decide (x3 = (1 : Int))))) (QV.neq rfl rfl) rfl rfl rfl ?_
  rcases ite_inv hm with ⟨h7, hm⟩ | ⟨h7, hm⟩
  ·
    refine JL.val (v := .bool false) (QV.eq (QV.move rfl) (congrArg Value.bool (congrArg Bool.not (decide_eq_true h7)))) rfl rfl rfl ?_
    refine JL.skip (d := some 13) rfl rfl rfl ?_
    refine JL.skip (d := some 14) rfl rfl rfl ?_
    refine JL.val (v := .bool false) (QV.pickF rfl rfl) rfl rfl rfl ?_
    refine JL.val (v := .bool false) (QV.move rfl) rfl rfl rfl ?_
    refine JL.skip (d := some 17) rfl rfl rfl ?_
    refine JL.skip (d := some 18) rfl rfl rfl ?_
    refine JL.val (v := .bool false) (QV.pickF rfl rfl) rfl rfl rfl ?_
    refine JL.val (v := .bool false) (QV.move rfl) rfl rfl rfl ?_
    refine JL.skip (d := some 21) rfl rfl rfl ?_
    refine JL.skip (d := some 22) rfl rfl rfl ?_
    refine JL.val (v := .bool false) (QV.pickF rfl rfl) rfl rfl rfl ?_
    refine JL.nil ?_
    refine QJ.then_normal ?_
    refine JC.condF rfl ?_
    refine JC.skip ?_
    refine QJ.then_normal ?_
    refine JC.seq ?_
    refine JC.seq ?_
    refine JC.region ?_
    refine JL.val (v := s1.v) (QV.move rfl) rfl rfl rfl ?_
    refine JL.val (v := .int .i64 ((x2).length : Int)) (QV.len (Rdg.vw 2 rfl) Try.underlying22 rfl) rfl rfl rfl ?_
    refine JL.val (v := .int .i64 (0 : Int)) (QV.move rfl) rfl rfl rfl ?_
    refine JL.nil ?_
    refine QJ.then_normal ?_
    refine JC.cutK (Y := (List Int) × SlV) (fun y => match y with | (d9, _) => F23.j1 (d9) = some r) (fun y => match y with | (d9, z8) => [(5, z8.v)]) (fun y => match y with | (d9, z8) => [Asr.of 3 (Enc.int .i64) (z8.v) d9]) ?_ ?_
    ·
      rintro ⟨d9, z8⟩ hm
      unfold F23.j1 at hm
      show QJ _ _ [(5, z8.v)] [Asr.of 3 (Enc.int .i64) (z8.v) d9] _ _
      refine QJ.then_normal ?_
      refine JC.seq ?_
      refine JC.region ?_
      refine JL.val (v := z8.v) (QV.move rfl) rfl rfl rfl ?_
      refine JL.val (v := z8.v) (QV.assign rfl) rfl rfl rfl ?_
      refine JL.nil ?_
      refine QJ.then_normal ?_
      refine JC.ret ?_
      obtain rfl := Option.some.inj hm
      exact QJ.body (vs := [z8.v]) (.inl rfl) rfl (ResVs.cons (ResV.tmp rfl) ResVs.nil) [0] rfl rfl (.inr ⟨own_of _ _ _ _, trivial⟩) ⟨z8, rfl, rfl⟩
    ·
      refine JC.block ?_
      obtain ⟨y16, hl17, hmo18⟩ := bind_inv hm
      refine JC.loop (F23.b1 x2 x3) (fun x z => match x, z with | (d11, d12), z10 => [(0, s1.v), (1, .int .i64 x3), (5, z10.v), (26, .int .i64 ((x2).length : Int)), (27, .int .i64 d12)]) (fun x z => match x, z with | (d11, d12), z10 => [Asr.vw (Enc.int .u8) (s1.v) x2, Asr.of 3 (Enc.int .i64) (z10.v) d11]) (([] : List Int), (0 : Int)) z6 y16 hl17 [2, 0] (by exact ⟨rfl, rfl, rfl, rfl, rfl, trivial⟩) rfl rfl ?_
      rintro ⟨d11, d12⟩ z10 s19 hm
      unfold F23.b1 at hm
      dsimp only at hm
      show JC _ _ _ [(0, s1.v), (1, .int .i64 x3), (5, z10.v), (26, .int .i64 ((x2).length : Int)), (27, .int .i64 d12)] [Asr.vw (Enc.int .u8) (s1.v) x2, Asr.of 3 (Enc.int .i64) (z10.v) d11] _ _
      refine JC.seq ?_
      refine JC.region ?_
      refine JL.val (v := .bool (decide (d12 < ((x2).length : Int)))) (QV.lss rfl rfl) rfl rfl rfl ?_
      refine JL.nil ?_
      refine QJ.then_normal ?_
      refine JC.seq ?_
      rcases ite_inv hm with ⟨h20, hm⟩ | ⟨h20, hm⟩
      ·
        refine JC.condT' rfl (decide_eq_true h20) ?_
        refine JC.skip ?_
        refine QJ.then_normal ?_
        refine JC.seq ?_
        refine JC.cutK (Y := (List Int) × SlV) (fun y => match y with | (d22, _) => F23.j2 d12 (d22) = some s19) (fun y => match y with | (d22, z21) => [(0, s1.v), (1, .int .i64 x3), (5, z21.v), (26, .int .i64 ((x2).length : Int)), (27, .int .i64 d12)]) (fun y => match y with | (d22, z21) => [Asr.vw (Enc.int .u8) (s1.v) x2, Asr.of 3 (Enc.int .i64) (z21.v) d22]) ?_ ?_
        ·
          rintro ⟨d22, z21⟩ hm
          unfold F23.j2 at hm
          show QJ _ _ [(0, s1.v), (1, .int .i64 x3), (5, z21.v), (26, .int .i64 ((x2).length : Int)), (27, .int .i64 d12)] [Asr.vw (Enc.int .u8) (s1.v) x2, Asr.of 3 (Enc.int .i64) (z21.v) d22] _ _
          refine QJ.then_normal ?_
          refine JC.region ?_
          refine JL.val (v := .int .i64 (IntKind.wrap .i64 (d12 + (1 : Int)))) (QV.add rfl rfl) rfl rfl rfl ?_
          refine JL.val (v := .int .i64 (IntKind.wrap .i64 (d12 + (1 : Int)))) (QV.move rfl) rfl rfl rfl ?_
          refine JL.nil ?_
          obtain rfl := Option.some.inj hm
          exact QJ.round_on (d22, (IntKind.wrap .i64 (d12 + (1 : Int)))) z21 [0, 1] (by exact ⟨rfl, rfl, rfl, rfl, rfl, trivial⟩) rfl rfl
        ·
          refine JC.block ?_
          refine JC.seq ?_
          refine JC.region ?_
          refine JL.val (v := .int .i64 d12) (QV.move rfl) rfl rfl rfl ?_
          refine JL.val (v := .int .i64 d12) (QV.assign rfl) rfl rfl rfl ?_
          refine JL.nil ?_
          refine QJ.then_normal ?_
          refine JC.seq ?_
          refine JC.region ?_
          refine JL.val (v := .int .i64 (0 : Int)) (QV.assign rfl) rfl rfl rfl ?_
          refine JL.nil ?_
          refine QJ.then_normal ?_
          refine JC.seq ?_
          refine JC.region ?_
          refine JL.val (v := .int .i64 (0 : Int)) (QV.assign rfl) rfl rfl rfl ?_
          refine JL.nil ?_
          refine QJ.then_normal ?_
          refine JC.cutK (Y := (List Int) × SlV) (fun y => match y with | (d24, _) => F23.j3 d12 (d24) = some s19) (fun y => match y with | (d24, z23) => [(0, s1.v), (1, .int .i64 x3), (5, z23.v), (26, .int .i64 ((x2).length : Int)), (27, .int .i64 d12)]) (fun y => match y with | (d24, z23) => [Asr.vw (Enc.int .u8) (s1.v) x2, Asr.of 3 (Enc.int .i64) (z23.v) d24]) ?_ ?_
          ·
            rintro ⟨d24, z23⟩ hm
            unfold F23.j3 at hm
            show QJ _ _ [(0, s1.v), (1, .int .i64 x3), (5, z23.v), (26, .int .i64 ((x2).length : Int)), (27, .int .i64 d12)] [Asr.vw (Enc.int .u8) (s1.v) x2, Asr.of 3 (Enc.int .i64) (z23.v) d24] _ _
            refine QJ.block_normal ?_
            exact QJ.cut_normal (d24, z23) hm [0, 1] (by exact ⟨rfl, rfl, rfl, rfl, rfl, trivial⟩) rfl rfl
          ·
            refine JC.block ?_
            obtain ⟨y33, hl34, hmo35⟩ := bind_inv hm
            refine JC.loop (F23.b2 x2 x3 d12) (fun x z => match x, z with | (d26, d27, d28), z25 => [(0, s1.v), (1, .int .i64 x3), (5, z25.v), (6, .int .i64 d12), (7, .int .i64 d27), (8, .int .i64 d28), (26, .int .i64 ((x2).length : Int)), (27, .int .i64 d12)]) (fun x z => match x, z with | (d26, d27, d28), z25 => [Asr.vw (Enc.int .u8) (s1.v) x2, Asr.of 3 (Enc.int .i64) (z25.v) d26]) (d11, (0 : Int), (0 : Int)) z10 y33 hl34 [0, 1] (by exact ⟨rfl, rfl, rfl, rfl, rfl, rfl, rfl, rfl, trivial⟩) rfl rfl ?_
            rintro ⟨d26, d27, d28⟩ z25 s36 hm
            unfold F23.b2 at hm
            dsimp only at hm
            show JC _ _ _ [(0, s1.v), (1, .int .i64 x3), (5, z25.v), (6, .int .i64 d12), (7, .int .i64 d27), (8, .int .i64 d28), (26, .int .i64 ((x2).length : Int)), (27, .int .i64 d12)] [Asr.vw (Enc.int .u8) (s1.v) x2, Asr.of 3 (Enc.int .i64) (z25.v) d26] _ _
            refine JC.seq ?_
            refine JC.seq ?_
            refine JC.region ?_
            refine JL.val (v := .int .i64 d28) (QV.move rfl) rfl rfl rfl ?_
            refine JL.val (v := .bool (decide (d28 < (8 : Int)))) (QV.lss rfl rfl) rfl rfl rfl ?_
            refine JL.nil ?_
            refine QJ.then_normal ?_
            rcases ite_inv hm with ⟨h37, hm⟩ | ⟨h37, hm⟩
            ·
              refine JC.condT' rfl (decide_eq_true h37) ?_
              refine JC.skip ?_
              refine QJ.then_normal ?_
              refine JC.seq ?_
              refine JC.block ?_
              refine JC.seq ?_
              refine JC.region ?_
              refine JL.val (v := .int .i64 d27) (QV.move rfl) rfl rfl rfl ?_
              refine JL.val (v := .int .i64 (IntKind.wrap .i64 ((2 : Int) * d27))) (QV.mul rfl rfl) rfl rfl rfl ?_
              refine JL.val (v := s1.v) (QV.move rfl) rfl rfl rfl ?_
              refine JL.val (v := .int .i64 d12) (QV.move rfl) rfl rfl rfl ?_
              obtain ⟨h38, hm⟩ := guard_inv hm
              refine JL.val (v := .pointer (some (elA (s1.v) (Int.toNat d12 * ((Enc.int .u8)).sz)))) (QV.indexA (Rdg.vw 0 rfl) Try.underlying22 tk_5 rfl rfl h38) rfl rfl rfl ?_
              refine JL.val (v := .int .u8 (gd x2 d12)) (QV.el1 (Rdg.vw 0 rfl) tk_5 rfl h38 rfl) rfl rfl rfl ?_
              refine JL.val (v := .int .i64 (IntKind.wrap .i64 (gd x2 d12))) (QV.conv rfl (by rw [Try.underlying5]; rfl) Try.underlying3) rfl rfl rfl ?_
              refine JL.val (v := .int .i64 d28) (QV.move rfl) rfl rfl rfl ?_
              refine JL.val (v := .int .i64 (IntKind.wrap .i64 ((7 : Int) - d28))) (QV.sub rfl rfl) rfl rfl rfl ?_
              obtain ⟨h39, hm⟩ := guard_inv hm
              refine JL.val (v := .int .i64 (shrI .i64 (IntKind.wrap .i64 (gd x2 d12)) (IntKind.wrap .i64 ((7 : Int) - d28)))) (QV.shr rfl rfl h39) rfl rfl rfl ?_
              refine JL.val (v := .int .i64 (Int.tmod (shrI .i64 (IntKind.wrap .i64 (gd x2 d12)) (IntKind.wrap .i64 ((7 : Int) - d28))) (2 : Int))) (QV.rem rfl rfl (by decide)) rfl rfl rfl ?_
              refine JL.val (v := .int .i64 (IntKind.wrap .i64 ((IntKind.wrap .i64 ((2 : Int) * d27)) + (Int.tmod (shrI .i64 (IntKind.wrap .i64 (gd x2 d12)) (IntKind.wrap .i64 ((7 : Int) - d28))) (2 : Int))))) (QV.add rfl rfl) rfl rfl rfl ?_
              refine JL.val (v := .int .i64 (IntKind.wrap .i64 ((IntKind.wrap .i64 ((2 : Int) * d27)) + (Int.tmod (shrI .i64 (IntKind.wrap .i64 (gd x2 d12)) (IntKind.wrap .i64 ((7 : Int) - d28))) (2 : Int))))) (QV.assign rfl) rfl rfl rfl ?_
              refine JL.nil ?_
              refine QJ.then_normal ?_
              refine JC.seq ?_
              refine JC.region ?_
              refine JL.val (v := .int .i64 d28) (QV.move rfl) rfl rfl rfl ?_
              refine JL.val (v := .int .i64 x3) (QV.move rfl) rfl rfl rfl ?_
              obtain ⟨h40, hm⟩ := guard_inv hm
              refine JL.val (v := .int .i64 (Int.tmod d28 x3)) (QV.rem rfl rfl h40) rfl rfl rfl ?_
              refine JL.val (v := .int .i64 x3) (QV.move rfl) rfl rfl rfl ?_
              refine JL.val (v := .int .i64 (IntKind.wrap .i64 (x3 - (1 : Int)))) (QV.sub rfl rfl) rfl rfl rfl ?_
              refine JL.val (v := .bool (decide ((Int.tmod d28 x3) = (IntKind.wrap .i64 (x3 - (1 : Int)))))) (QV.eql rfl rfl) rfl rfl rfl ?_
              refine JL.nil ?_
              refine QJ.then_normal ?_
              refine JC.cutK (Y := (List Int × Int) × SlV) (fun y => match y with | ((d42, d43), _) => F23.j4 d28 (d42) (d43) = some s36) (fun y => match y with | ((d42, d43), z41) => [(0, s1.v), (1, .int .i64 x3), (5, z41.v), (6, .int .i64 d12), (7, .int .i64 d43), (8, .int .i64 d28), (26, .int .i64 ((x2).length : Int)), (27, .int .i64 d12)]) (fun y => match y with | ((d42, d43), z41) => [Asr.vw (Enc.int .u8) (s1.v) x2, Asr.of 3 (Enc.int .i64) (z41.v) d42]) ?_ ?_
              ·
                rintro ⟨⟨d42, d43⟩, z41⟩ hm
                unfold F23.j4 at hm
                show QJ _ _ [(0, s1.v), (1, .int .i64 x3), (5, z41.v), (6, .int .i64 d12), (7, .int .i64 d43), (8, .int .i64 d28), (26, .int .i64 ((x2).length : Int)), (27, .int .i64 d12)] [Asr.vw (Enc.int .u8) (s1.v) x2, Asr.of 3 (Enc.int .i64) (z41.v) d42] _ _
                refine QJ.block_normal ?_
                refine QJ.then_normal ?_
                refine JC.region ?_
                refine JL.val (v := .int .i64 d28) (QV.move rfl) rfl rfl rfl ?_
                refine JL.val (v := .int .i64 (IntKind.wrap .i64 (d28 + (1 : Int)))) (QV.add rfl rfl) rfl rfl rfl ?_
                refine JL.val (v := .int .i64 (IntKind.wrap .i64 (d28 + (1 : Int)))) (QV.assign rfl) rfl rfl rfl ?_
                refine JL.nil ?_
                obtain rfl := Option.some.inj hm
                exact QJ.round_on (d42, d43, (IntKind.wrap .i64 (d28 + (1 : Int)))) z41 [0, 1] (by exact ⟨rfl, rfl, rfl, rfl, rfl, rfl, rfl, rfl, trivial⟩) rfl rfl
              ·
                rcases ite_inv hm with ⟨h44, hm⟩ | ⟨h44, hm⟩
                ·
                  refine JC.condT' rfl (decide_eq_true h44) ?_
                  refine JC.seq ?_
                  refine JC.region ?_
                  refine JL.val (v := z25.v) (QV.move rfl) rfl rfl rfl ?_
                  refine JL.val (v := .int .i64 (IntKind.wrap .i64 ((IntKind.wrap .i64 ((2 : Int) * d27)) + (Int.tmod (shrI .i64 (IntKind.wrap .i64 (gd x2 d12)) (IntKind.wrap .i64 ((7 : Int) - d28))) (2 : Int))))) (QV.move rfl) rfl rfl rfl ?_
                  refine JL.mv (d := some 54) (MV.lit (E := (Enc.int .i64)) (vals := [(0, .int .i64 (IntKind.wrap .i64 ((IntKind.wrap .i64 ((2 : Int) * d27)) + (Int.tmod (shrI .i64 (IntKind.wrap .i64 (gd x2 d12)) (IntKind.wrap .i64 ((7 : Int) - d28))) (2 : Int)))))]) [(IntKind.wrap .i64 ((IntKind.wrap .i64 ((2 : Int) * d27)) + (Int.tmod (shrI .i64 (IntKind.wrap .i64 (gd x2 d12)) (IntKind.wrap .i64 ((7 : Int) - d28))) (2 : Int))))] Try.underlying24 zi_3 rfl (by decide) rfl (by kernel_rfl)) rfl rfl rfl ?_
                  rintro _ _ ⟨z45, rfl, rfl⟩
                  obtain ⟨h46, hm⟩ := guard_inv hm
                  refine JL.mv (d := some 55) (MV.append 2 rfl (Rdg.of 0 rfl) Try.underlying24 zi_3 rfl (by decide) rfl rfl h46) rfl rfl rfl ?_
                  rintro _ _ ⟨z47, rfl, rfl⟩
                  refine JL.val (v := z47.v) (QV.assign rfl) rfl rfl rfl ?_
                  refine JL.nil ?_
                  refine QJ.then_normal ?_
                  refine JC.region ?_
                  refine JL.val (v := .int .i64 (0 : Int)) (QV.assign rfl) rfl rfl rfl ?_
                  refine JL.nil ?_
                  exact QJ.cut_normal (((d26 ++ [(IntKind.wrap .i64 ((IntKind.wrap .i64 ((2 : Int) * d27)) + (Int.tmod (shrI .i64 (IntKind.wrap .i64 (gd x2 d12)) (IntKind.wrap .i64 ((7 : Int) - d28))) (2 : Int))))]), (0 : Int)), z47) hm [1, 2] (by exact ⟨rfl, rfl, rfl, rfl, rfl, rfl, rfl, rfl, trivial⟩) rfl rfl
                ·
                  refine JC.condF' rfl (decide_eq_false h44) ?_
                  refine JC.skip ?_
                  exact QJ.cut_normal ((d26, (IntKind.wrap .i64 ((IntKind.wrap .i64 ((2 : Int) * d27)) + (Int.tmod (shrI .i64 (IntKind.wrap .i64 (gd x2 d12)) (IntKind.wrap .i64 ((7 : Int) - d28))) (2 : Int))))), z25) hm [0, 1] (by exact ⟨rfl, rfl, rfl, rfl, rfl, rfl, rfl, rfl, trivial⟩) rfl rfl
            ·
              refine JC.condF' rfl (decide_eq_false h37) ?_
              refine JC.exit ?_
              refine QJ.then_exit ?_
              obtain rfl := Option.some.inj hm
              refine QJ.round_exit (fun hy => ?_)
              subst hy
              refine QJ.block_hit ?_
              exact QJ.cut_normal (d26, z25) hmo35 [0, 1] (by exact ⟨rfl, rfl, rfl, rfl, rfl, trivial⟩) rfl rfl
      ·
        refine JC.condF' rfl (decide_eq_false h20) ?_
        refine JC.exit ?_
        refine QJ.then_exit ?_
        obtain rfl := Option.some.inj hm
        refine QJ.round_exit (fun hy => ?_)
        subst hy
        refine QJ.block_hit ?_
        exact QJ.cut_normal (d11, z10) hmo18 [1] (by exact ⟨rfl, trivial⟩) rfl rfl
  ·
    refine JL.val (v := .bool true) (QV.eq (QV.move rfl) (congrArg Value.bool (congrArg Bool.not (decide_eq_false h7)))) rfl rfl rfl ?_
    refine JL.val (v := .int .i64 x3) (QV.move rfl) rfl rfl rfl ?_
    refine JL.val (v := .bool (!(decide (x3 = (2 : Int))))) (QV.neq rfl rfl) rfl rfl rfl ?_
    refine JL.val (v := .bool (!(decide (x3 = (2 : Int))))) (QV.pickT rfl rfl) rfl rfl rfl ?_
    rcases ite_inv hm with ⟨h48, hm⟩ | ⟨h48, hm⟩
    ·
      refine JL.val (v := .bool false) (QV.eq (QV.move rfl) (congrArg Value.bool (congrArg Bool.not (decide_eq_true h48)))) rfl rfl rfl ?_
      refine JL.skip (d := some 17) rfl rfl rfl ?_
      refine JL.skip (d := some 18) rfl rfl rfl ?_
      refine JL.val (v := .bool false) (QV.pickF rfl rfl) rfl rfl rfl ?_
      refine JL.val (v := .bool false) (QV.move rfl) rfl rfl rfl ?_
      refine JL.skip (d := some 21) rfl rfl rfl ?_
      refine JL.skip (d := some 22) rfl rfl rfl ?_
      refine JL.val (v := .bool false) (QV.pickF rfl rfl) rfl rfl rfl ?_
      refine JL.nil ?_
      refine QJ.then_normal ?_
      refine JC.condF rfl ?_
      refine JC.skip ?_
      refine QJ.then_normal ?_
      refine JC.seq ?_
      refine JC.seq ?_
      refine JC.region ?_
      refine JL.val (v := s1.v) (QV.move rfl) rfl rfl rfl ?_
      refine JL.val (v := .int .i64 ((x2).length : Int)) (QV.len (Rdg.vw 2 rfl) Try.underlying22 rfl) rfl rfl rfl ?_
      refine JL.val (v := .int .i64 (0 : Int)) (QV.move rfl) rfl rfl rfl ?_
      refine JL.nil ?_
      refine QJ.then_normal ?_
      refine JC.cutK (Y := (List Int) × SlV) (fun y => match y with | (d50, _) => F23.j5 (d50) = some r) (fun y => match y with | (d50, z49) => [(5, z49.v)]) (fun y => match y with | (d50, z49) => [Asr.of 3 (Enc.int .i64) (z49.v) d50]) ?_ ?_
      ·
        rintro ⟨d50, z49⟩ hm
        unfold F23.j5 at hm
        show QJ _ _ [(5, z49.v)] [Asr.of 3 (Enc.int .i64) (z49.v) d50] _ _
        refine QJ.then_normal ?_
        refine JC.seq ?_
        refine JC.region ?_
        refine JL.val (v := z49.v) (QV.move rfl) rfl rfl rfl ?_
        refine JL.val (v := z49.v) (QV.assign rfl) rfl rfl rfl ?_
        refine JL.nil ?_
        refine QJ.then_normal ?_
        refine JC.ret ?_
        obtain rfl := Option.some.inj hm
        exact QJ.body (vs := [z49.v]) (.inl rfl) rfl (ResVs.cons (ResV.tmp rfl) ResVs.nil) [0] rfl rfl (.inr ⟨own_of _ _ _ _, trivial⟩) ⟨z49, rfl, rfl⟩
      ·
        refine JC.block ?_
        obtain ⟨y57, hl58, hmo59⟩ := bind_inv hm
        refine JC.loop (F23.b3 x2 x3) (fun x z => match x, z with | (d52, d53), z51 => [(0, s1.v), (1, .int .i64 x3), (5, z51.v), (26, .int .i64 ((x2).length : Int)), (27, .int .i64 d53)]) (fun x z => match x, z with | (d52, d53), z51 => [Asr.vw (Enc.int .u8) (s1.v) x2, Asr.of 3 (Enc.int .i64) (z51.v) d52]) (([] : List Int), (0 : Int)) z6 y57 hl58 [2, 0] (by exact ⟨rfl, rfl, rfl, rfl, rfl, trivial⟩) rfl rfl ?_
        rintro ⟨d52, d53⟩ z51 s60 hm
        unfold F23.b3 at hm
        dsimp only at hm
        show JC _ _ _ [(0, s1.v), (1, .int .i64 x3), (5, z51.v), (26, .int .i64 ((x2).length : Int)), (27, .int .i64 d53)] [Asr.vw (Enc.int .u8) (s1.v) x2, Asr.of 3 (Enc.int .i64) (z51.v) d52] _ _
        refine JC.seq ?_
        refine JC.region ?_
        refine JL.val (v := .bool (decide (d53 < ((x2).length : Int)))) (QV.lss rfl rfl) rfl rfl rfl ?_
        refine JL.nil ?_
        refine QJ.then_normal ?_
        refine JC.seq ?_
        rcases ite_inv hm with ⟨h61, hm⟩ | ⟨h61, hm⟩
        ·
          refine JC.condT' rfl (decide_eq_true h61) ?_
          refine JC.skip ?_
          refine QJ.then_normal ?_
          refine JC.seq ?_
          refine JC.cutK (Y := (List Int) × SlV) (fun y => match y with | (d63, _) => F23.j6 d53 (d63) = some s60) (fun y => match y with | (d63, z62) => [(0, s1.v), (1, .int .i64 x3), (5, z62.v), (26, .int .i64 ((x2).length : Int)), (27, .int .i64 d53)]) (fun y => match y with | (d63, z62) => [Asr.vw (Enc.int .u8) (s1.v) x2, Asr.of 3 (Enc.int .i64) (z62.v) d63]) ?_ ?_
          ·
            rintro ⟨d63, z62⟩ hm
            unfold F23.j6 at hm
            show QJ _ _ [(0, s1.v), (1, .int .i64 x3), (5, z62.v), (26, .int .i64 ((x2).length : Int)), (27, .int .i64 d53)] [Asr.vw (Enc.int .u8) (s1.v) x2, Asr.of 3 (Enc.int .i64) (z62.v) d63] _ _
            refine QJ.then_normal ?_
            refine JC.region ?_
            refine JL.val (v := .int .i64 (IntKind.wrap .i64 (d53 + (1 : Int)))) (QV.add rfl rfl) rfl rfl rfl ?_
            refine JL.val (v := .int .i64 (IntKind.wrap .i64 (d53 + (1 : Int)))) (QV.move rfl) rfl rfl rfl ?_
            refine JL.nil ?_
            obtain rfl := Option.some.inj hm
            exact QJ.round_on (d63, (IntKind.wrap .i64 (d53 + (1 : Int)))) z62 [0, 1] (by exact ⟨rfl, rfl, rfl, rfl, rfl, trivial⟩) rfl rfl
          ·
            refine JC.block ?_
            refine JC.seq ?_
            refine JC.region ?_
            refine JL.val (v := .int .i64 d53) (QV.move rfl) rfl rfl rfl ?_
            refine JL.val (v := .int .i64 d53) (QV.assign rfl) rfl rfl rfl ?_
            refine JL.nil ?_
            refine QJ.then_normal ?_
            refine JC.seq ?_
            refine JC.region ?_
            refine JL.val (v := .int .i64 (0 : Int)) (QV.assign rfl) rfl rfl rfl ?_
            refine JL.nil ?_
            refine QJ.then_normal ?_
            refine JC.seq ?_
            refine JC.region ?_
            refine JL.val (v := .int .i64 (0 : Int)) (QV.assign rfl) rfl rfl rfl ?_
            refine JL.nil ?_
            refine QJ.then_normal ?_
            refine JC.cutK (Y := (List Int) × SlV) (fun y => match y with | (d65, _) => F23.j7 d53 (d65) = some s60) (fun y => match y with | (d65, z64) => [(0, s1.v), (1, .int .i64 x3), (5, z64.v), (26, .int .i64 ((x2).length : Int)), (27, .int .i64 d53)]) (fun y => match y with | (d65, z64) => [Asr.vw (Enc.int .u8) (s1.v) x2, Asr.of 3 (Enc.int .i64) (z64.v) d65]) ?_ ?_
            ·
              rintro ⟨d65, z64⟩ hm
              unfold F23.j7 at hm
              show QJ _ _ [(0, s1.v), (1, .int .i64 x3), (5, z64.v), (26, .int .i64 ((x2).length : Int)), (27, .int .i64 d53)] [Asr.vw (Enc.int .u8) (s1.v) x2, Asr.of 3 (Enc.int .i64) (z64.v) d65] _ _
              refine QJ.block_normal ?_
              exact QJ.cut_normal (d65, z64) hm [0, 1] (by exact ⟨rfl, rfl, rfl, rfl, rfl, trivial⟩) rfl rfl
            ·
              refine JC.block ?_
              obtain ⟨y74, hl75, hmo76⟩ := bind_inv hm
              refine JC.loop (F23.b4 x2 x3 d53) (fun x z => match x, z with | (d67, d68, d69), z66 => [(0, s1.v), (1, .int .i64 x3), (5, z66.v), (6, .int .i64 d53), (7, .int .i64 d68), (8, .int .i64 d69), (26, .int .i64 ((x2).length : Int)), (27, .int .i64 d53)]) (fun x z => match x, z with | (d67, d68, d69), z66 => [Asr.vw (Enc.int .u8) (s1.v) x2, Asr.of 3 (Enc.int .i64) (z66.v) d67]) (d52, (0 : Int), (0 : Int)) z51 y74 hl75 [0, 1] (by exact ⟨rfl, rfl, rfl, rfl, rfl, rfl, rfl, rfl, trivial⟩) rfl rfl ?_
              rintro ⟨d67, d68, d69⟩ z66 s77 hm
              unfold F23.b4 at hm
              dsimp only at hm
              show JC _ _ _ [(0, s1.v), (1, .int .i64 x3), (5, z66.v), (6, .int .i64 d53), (7, .int .i64 d68), (8, .int .i64 d69), (26, .int .i64 ((x2).length : Int)), (27, .int .i64 d53)] [Asr.vw (Enc.int .u8) (s1.v) x2, Asr.of 3 (Enc.int .i64) (z66.v) d67] _ _
              refine JC.seq ?_
              refine JC.seq ?_
              refine JC.region ?_
              refine JL.val (v := .int .i64 d69) (QV.move rfl) rfl rfl rfl ?_
              refine JL.val (v := .bool (decide (d69 < (8 : Int)))) (QV.lss rfl rfl) rfl rfl rfl ?_
              refine JL.nil ?_
              refine QJ.then_normal ?_
              rcases ite_inv hm with ⟨h78, hm⟩ | ⟨h78, hm⟩
              ·
                refine JC.condT' rfl (decide_eq_true h78) ?_
                refine JC.skip ?_
                refine QJ.then_normal ?_
                refine JC.seq ?_
                refine JC.block ?_
                refine JC.seq ?_
                refine JC.region ?_
                refine JL.val (v := .int .i64 d68) (QV.move rfl) rfl rfl rfl ?_
                refine JL.val (v := .int .i64 (IntKind.wrap .i64 ((2 : Int) * d68))) (QV.mul rfl rfl) rfl rfl rfl ?_
                refine JL.val (v := s1.v) (QV.move rfl) rfl rfl rfl ?_
                refine JL.val (v := .int .i64 d53) (QV.move rfl) rfl rfl rfl ?_
                obtain ⟨h79, hm⟩ := guard_inv hm
                refine JL.val (v := .pointer (some (elA (s1.v) (Int.toNat d53 * ((Enc.int .u8)).sz)))) (QV.indexA (Rdg.vw 0 rfl) Try.underlying22 tk_5 rfl rfl h79) rfl rfl rfl ?_
                refine JL.val (v := .int .u8 (gd x2 d53)) (QV.el1 (Rdg.vw 0 rfl) tk_5 rfl h79 rfl) rfl rfl rfl ?_
                refine JL.val (v := .int .i64 (IntKind.wrap .i64 (gd x2 d53))) (QV.conv rfl (by rw [Try.underlying5]; rfl) Try.underlying3) rfl rfl rfl ?_
                refine JL.val (v := .int .i64 d69) (QV.move rfl) rfl rfl rfl ?_
                refine JL.val (v := .int .i64 (IntKind.wrap .i64 ((7 : Int) - d69))) (QV.sub rfl rfl) rfl rfl rfl ?_
                obtain ⟨h80, hm⟩ := guard_inv hm
                refine JL.val (v := .int .i64 (shrI .i64 (IntKind.wrap .i64 (gd x2 d53)) (IntKind.wrap .i64 ((7 : Int) - d69)))) (QV.shr rfl rfl h80) rfl rfl rfl ?_
                refine JL.val (v := .int .i64 (Int.tmod (shrI .i64 (IntKind.wrap .i64 (gd x2 d53)) (IntKind.wrap .i64 ((7 : Int) - d69))) (2 : Int))) (QV.rem rfl rfl (by decide)) rfl rfl rfl ?_
                refine JL.val (v := .int .i64 (IntKind.wrap .i64 ((IntKind.wrap .i64 ((2 : Int) * d68)) + (Int.tmod (shrI .i64 (IntKind.wrap .i64 (gd x2 d53)) (IntKind.wrap .i64 ((7 : Int) - d69))) (2 : Int))))) (QV.add rfl rfl) rfl rfl rfl ?_
                refine JL.val (v := .int .i64 (IntKind.wrap .i64 ((IntKind.wrap .i64 ((2 : Int) * d68)) + (Int.tmod (shrI .i64 (IntKind.wrap .i64 (gd x2 d53)) (IntKind.wrap .i64 ((7 : Int) - d69))) (2 : Int))))) (QV.assign rfl) rfl rfl rfl ?_
                refine JL.nil ?_
                refine QJ.then_normal ?_
                refine JC.seq ?_
                refine JC.region ?_
                refine JL.val (v := .int .i64 d69) (QV.move rfl) rfl rfl rfl ?_
                refine JL.val (v := .int .i64 x3) (QV.move rfl) rfl rfl rfl ?_
                obtain ⟨h81, hm⟩ := guard_inv hm
                refine JL.val (v := .int .i64 (Int.tmod d69 x3)) (QV.rem rfl rfl h81) rfl rfl rfl ?_
                refine JL.val (v := .int .i64 x3) (QV.move rfl) rfl rfl rfl ?_
                refine JL.val (v := .int .i64 (IntKind.wrap .i64 (x3 - (1 : Int)))) (QV.sub rfl rfl) rfl rfl rfl ?_
                refine JL.val (v := .bool (decide ((Int.tmod d69 x3) = (IntKind.wrap .i64 (x3 - (1 : Int)))))) (QV.eql rfl rfl) rfl rfl rfl ?_
                refine JL.nil ?_
                refine QJ.then_normal ?_
                refine JC.cutK (Y := (List Int × Int) × SlV) (fun y => match y with | ((d83, d84), _) => F23.j8 d69 (d83) (d84) = some s77) (fun y => match y with | ((d83, d84), z82) => [(0, s1.v), (1, .int .i64 x3), (5, z82.v), (6, .int .i64 d53), (7, .int .i64 d84), (8, .int .i64 d69), (26, .int .i64 ((x2).length : Int)), (27, .int .i64 d53)]) (fun y => match y with | ((d83, d84), z82) => [Asr.vw (Enc.int .u8) (s1.v) x2, Asr.of 3 (Enc.int .i64) (z82.v) d83]) ?_ ?_
                ·
                  rintro ⟨⟨d83, d84⟩, z82⟩ hm
                  unfold F23.j8 at hm
                  show QJ _ _ [(0, s1.v), (1, .int .i64 x3), (5, z82.v), (6, .int .i64 d53), (7, .int .i64 d84), (8, .int .i64 d69), (26, .int .i64 ((x2).length : Int)), (27, .int .i64 d53)] [Asr.vw (Enc.int .u8) (s1.v) x2, Asr.of 3 (Enc.int .i64) (z82.v) d83] _ _
                  refine QJ.block_normal ?_
                  refine QJ.then_normal ?_
                  refine JC.region ?_
                  refine JL.val (v := .int .i64 d69) (QV.move rfl) rfl rfl rfl ?_
                  refine JL.val (v := .int .i64 (IntKind.wrap .i64 (d69 + (1 : Int)))) (QV.add rfl rfl) rfl rfl rfl ?_
                  refine JL.val (v := .int .i64 (IntKind.wrap .i64 (d69 + (1 : Int)))) (QV.assign rfl) rfl rfl rfl ?_
                  refine JL.nil ?_
                  obtain rfl := Option.some.inj hm
                  exact QJ.round_on (d83, d84, (IntKind.wrap .i64 (d69 + (1 : Int)))) z82 [0, 1] (by exact ⟨rfl, rfl, rfl, rfl, rfl, rfl, rfl, rfl, trivial⟩) rfl rfl
                ·
                  rcases ite_inv hm with ⟨h85, hm⟩ | ⟨h85, hm⟩
                  ·
                    refine JC.condT' rfl (decide_eq_true h85) ?_
                    refine JC.seq ?_
                    refine JC.region ?_
                    refine JL.val (v := z66.v) (QV.move rfl) rfl rfl rfl ?_
                    refine JL.val (v := .int .i64 (IntKind.wrap .i64 ((IntKind.wrap .i64 ((2 : Int) * d68)) + (Int.tmod (shrI .i64 (IntKind.wrap .i64 (gd x2 d53)) (IntKind.wrap .i64 ((7 : Int) - d69))) (2 : Int))))) (QV.move rfl) rfl rfl rfl ?_
                    refine JL.mv (d := some 54) (MV.lit (E := (Enc.int .i64)) (vals := [(0, .int .i64 (IntKind.wrap .i64 ((IntKind.wrap .i64 ((2 : Int) * d68)) + (Int.tmod (shrI .i64 (IntKind.wrap .i64 (gd x2 d53)) (IntKind.wrap .i64 ((7 : Int) - d69))) (2 : Int)))))]) [(IntKind.wrap .i64 ((IntKind.wrap .i64 ((2 : Int) * d68)) + (Int.tmod (shrI .i64 (IntKind.wrap .i64 (gd x2 d53)) (IntKind.wrap .i64 ((7 : Int) - d69))) (2 : Int))))] Try.underlying24 zi_3 rfl (by decide) rfl (by kernel_rfl)) rfl rfl rfl ?_
                    rintro _ _ ⟨z86, rfl, rfl⟩
                    obtain ⟨h87, hm⟩ := guard_inv hm
                    refine JL.mv (d := some 55) (MV.append 2 rfl (Rdg.of 0 rfl) Try.underlying24 zi_3 rfl (by decide) rfl rfl h87) rfl rfl rfl ?_
                    rintro _ _ ⟨z88, rfl, rfl⟩
                    refine JL.val (v := z88.v) (QV.assign rfl) rfl rfl rfl ?_
                    refine JL.nil ?_
                    refine QJ.then_normal ?_
                    refine JC.region ?_
                    refine JL.val (v := .int .i64 (0 : Int)) (QV.assign rfl) rfl rfl rfl ?_
                    refine JL.nil ?_
                    exact QJ.cut_normal (((d67 ++ [(IntKind.wrap .i64 ((IntKind.wrap .i64 ((2 : Int) * d68)) + (Int.tmod (shrI .i64 (IntKind.wrap .i64 (gd x2 d53)) (IntKind.wrap .i64 ((7 : Int) - d69))) (2 : Int))))]), (0 : Int)), z88) hm [1, 2] (by exact ⟨rfl, rfl, rfl, rfl, rfl, rfl, rfl, rfl, trivial⟩) rfl rfl
                  ·
                    refine JC.condF' rfl (decide_eq_false h85) ?_
                    refine JC.skip ?_
                    exact QJ.cut_normal ((d67, (IntKind.wrap .i64 ((IntKind.wrap .i64 ((2 : Int) * d68)) + (Int.tmod (shrI .i64 (IntKind.wrap .i64 (gd x2 d53)) (IntKind.wrap .i64 ((7 : Int) - d69))) (2 : Int))))), z66) hm [0, 1] (by exact ⟨rfl, rfl, rfl, rfl, rfl, rfl, rfl, rfl, trivial⟩) rfl rfl
              ·
                refine JC.condF' rfl (decide_eq_false h78) ?_
                refine JC.exit ?_
                refine QJ.then_exit ?_
                obtain rfl := Option.some.inj hm
                refine QJ.round_exit (fun hy => ?_)
                subst hy
                refine QJ.block_hit ?_
                exact QJ.cut_normal (d67, z66) hmo76 [0, 1] (by exact ⟨rfl, rfl, rfl, rfl, rfl, trivial⟩) rfl rfl
        ·
          refine JC.condF' rfl (decide_eq_false h61) ?_
          refine JC.exit ?_
          refine QJ.then_exit ?_
          obtain rfl := Option.some.inj hm
          refine QJ.round_exit (fun hy => ?_)
          subst hy
          refine QJ.block_hit ?_
          exact QJ.cut_normal (d52, z51) hmo59 [1] (by exact ⟨rfl, trivial⟩) rfl rfl
    ·
      refine JL.val (v := .bool true) (QV.eq (QV.move rfl) (congrArg Value.bool (congrArg Bool.not (decide_eq_false h48)))) rfl rfl rfl ?_
      refine JL.val (v := .int .i64 x3) (QV.move rfl) rfl rfl rfl ?_
      refine JL.val (v := .bool (!(decide (x3 = (4 : Int))))) (QV.neq rfl rfl) rfl rfl rfl ?_
      refine JL.val (v := .bool (!(decide (x3 = (4 : Int))))) (QV.pickT rfl rfl) rfl rfl rfl ?_
      rcases ite_inv hm with ⟨h89, hm⟩ | ⟨h89, hm⟩
      ·
        refine JL.val (v := .bool false) (QV.eq (QV.move rfl) (congrArg Value.bool (congrArg Bool.not (decide_eq_true h89)))) rfl rfl rfl ?_
        refine JL.skip (d := some 21) rfl rfl rfl ?_
        refine JL.skip (d := some 22) rfl rfl rfl ?_
        refine JL.val (v := .bool false) (QV.pickF rfl rfl) rfl rfl rfl ?_
        refine JL.nil ?_
        refine QJ.then_normal ?_
        refine JC.condF rfl ?_
        refine JC.skip ?_
        refine QJ.then_normal ?_
        refine JC.seq ?_
        refine JC.seq ?_
        refine JC.region ?_
        refine JL.val (v := s1.v) (QV.move rfl) rfl rfl rfl ?_
        refine JL.val (v := .int .i64 ((x2).length : Int)) (QV.len (Rdg.vw 2 rfl) Try.underlying22 rfl) rfl rfl rfl ?_
        refine JL.val (v := .int .i64 (0 : Int)) (QV.move rfl) rfl rfl rfl ?_
        refine JL.nil ?_
        refine QJ.then_normal ?_
        refine JC.cutK (Y := (List Int) × SlV) (fun y => match y with | (d91, _) => F23.j9 (d91) = some r) (fun y => match y with | (d91, z90) => [(5, z90.v)]) (fun y => match y with | (d91, z90) => [Asr.of 3 (Enc.int .i64) (z90.v) d91]) ?_ ?_
        ·
          rintro ⟨d91, z90⟩ hm
          unfold F23.j9 at hm
          show QJ _ _ [(5, z90.v)] [Asr.of 3 (Enc.int .i64) (z90.v) d91] _ _
          refine QJ.then_normal ?_
          refine JC.seq ?_
          refine JC.region ?_
          refine JL.val (v := z90.v) (QV.move rfl) rfl rfl rfl ?_
          refine JL.val (v := z90.v) (QV.assign rfl) rfl rfl rfl ?_
          refine JL.nil ?_
          refine QJ.then_normal ?_
          refine JC.ret ?_
          obtain rfl := Option.some.inj hm
          exact QJ.body (vs := [z90.v]) (.inl rfl) rfl (ResVs.cons (ResV.tmp rfl) ResVs.nil) [0] rfl rfl (.inr ⟨own_of _ _ _ _, trivial⟩) ⟨z90, rfl, rfl⟩
        ·
          refine JC.block ?_
          obtain ⟨y98, hl99, hmo100⟩ := bind_inv hm
          refine JC.loop (F23.b5 x2 x3) (fun x z => match x, z with | (d93, d94), z92 => [(0, s1.v), (1, .int .i64 x3), (5, z92.v), (26, .int .i64 ((x2).length : Int)), (27, .int .i64 d94)]) (fun x z => match x, z with | (d93, d94), z92 => [Asr.vw (Enc.int .u8) (s1.v) x2, Asr.of 3 (Enc.int .i64) (z92.v) d93]) (([] : List Int), (0 : Int)) z6 y98 hl99 [2, 0] (by exact ⟨rfl, rfl, rfl, rfl, rfl, trivial⟩) rfl rfl ?_
          rintro ⟨d93, d94⟩ z92 s101 hm
          unfold F23.b5 at hm
          dsimp only at hm
          show JC _ _ _ [(0, s1.v), (1, .int .i64 x3), (5, z92.v), (26, .int .i64 ((x2).length : Int)), (27, .int .i64 d94)] [Asr.vw (Enc.int .u8) (s1.v) x2, Asr.of 3 (Enc.int .i64) (z92.v) d93] _ _
          refine JC.seq ?_
          refine JC.region ?_
          refine JL.val (v := .bool (decide (d94 < ((x2).length : Int)))) (QV.lss rfl rfl) rfl rfl rfl ?_
          refine JL.nil ?_
          refine QJ.then_normal ?_
          refine JC.seq ?_
          rcases ite_inv hm with ⟨h102, hm⟩ | ⟨h102, hm⟩
          ·
            refine JC.condT' rfl (decide_eq_true h102) ?_
            refine JC.skip ?_
            refine QJ.then_normal ?_
            refine JC.seq ?_
            refine JC.cutK (Y := (List Int) × SlV) (fun y => match y with | (d104, _) => F23.j10 d94 (d104) = some s101) (fun y => match y with | (d104, z103) => [(0, s1.v), (1, .int .i64 x3), (5, z103.v), (26, .int .i64 ((x2).length : Int)), (27, .int .i64 d94)]) (fun y => match y with | (d104, z103) => [Asr.vw (Enc.int .u8) (s1.v) x2, Asr.of 3 (Enc.int .i64) (z103.v) d104]) ?_ ?_
            ·
              rintro ⟨d104, z103⟩ hm
              unfold F23.j10 at hm
              show QJ _ _ [(0, s1.v), (1, .int .i64 x3), (5, z103.v), (26, .int .i64 ((x2).length : Int)), (27, .int .i64 d94)] [Asr.vw (Enc.int .u8) (s1.v) x2, Asr.of 3 (Enc.int .i64) (z103.v) d104] _ _
              refine QJ.then_normal ?_
              refine JC.region ?_
              refine JL.val (v := .int .i64 (IntKind.wrap .i64 (d94 + (1 : Int)))) (QV.add rfl rfl) rfl rfl rfl ?_
              refine JL.val (v := .int .i64 (IntKind.wrap .i64 (d94 + (1 : Int)))) (QV.move rfl) rfl rfl rfl ?_
              refine JL.nil ?_
              obtain rfl := Option.some.inj hm
              exact QJ.round_on (d104, (IntKind.wrap .i64 (d94 + (1 : Int)))) z103 [0, 1] (by exact ⟨rfl, rfl, rfl, rfl, rfl, trivial⟩) rfl rfl
            ·
              refine JC.block ?_
              refine JC.seq ?_
              refine JC.region ?_
              refine JL.val (v := .int .i64 d94) (QV.move rfl) rfl rfl rfl ?_
              refine JL.val (v := .int .i64 d94) (QV.assign rfl) rfl rfl rfl ?_
              refine JL.nil ?_
              refine QJ.then_normal ?_
              refine JC.seq ?_
              refine JC.region ?_
              refine JL.val (v := .int .i64 (0 : Int)) (QV.assign rfl) rfl rfl rfl ?_
              refine JL.nil ?_
              refine QJ.then_normal ?_
              refine JC.seq ?_
              refine JC.region ?_
              refine JL.val (v := .int .i64 (0 : Int)) (QV.assign rfl) rfl rfl rfl ?_
              refine JL.nil ?_
              refine QJ.then_normal ?_
              refine JC.cutK (Y := (List Int) × SlV) (fun y => match y with | (d106, _) => F23.j11 d94 (d106) = some s101) (fun y => match y with | (d106, z105) => [(0, s1.v), (1, .int .i64 x3), (5, z105.v), (26, .int .i64 ((x2).length : Int)), (27, .int .i64 d94)]) (fun y => match y with | (d106, z105) => [Asr.vw (Enc.int .u8) (s1.v) x2, Asr.of 3 (Enc.int .i64) (z105.v) d106]) ?_ ?_
              ·
                rintro ⟨d106, z105⟩ hm
                unfold F23.j11 at hm
                show QJ _ _ [(0, s1.v), (1, .int .i64 x3), (5, z105.v), (26, .int .i64 ((x2).length : Int)), (27, .int .i64 d94)] [Asr.vw (Enc.int .u8) (s1.v) x2, Asr.of 3 (Enc.int .i64) (z105.v) d106] _ _
                refine QJ.block_normal ?_
                exact QJ.cut_normal (d106, z105) hm [0, 1] (by exact ⟨rfl, rfl, rfl, rfl, rfl, trivial⟩) rfl rfl
              ·
                refine JC.block ?_
                obtain ⟨y115, hl116, hmo117⟩ := bind_inv hm
                refine JC.loop (F23.b6 x2 x3 d94) (fun x z => match x, z with | (d108, d109, d110), z107 => [(0, s1.v), (1, .int .i64 x3), (5, z107.v), (6, .int .i64 d94), (7, .int .i64 d109), (8, .int .i64 d110), (26, .int .i64 ((x2).length : Int)), (27, .int .i64 d94)]) (fun x z => match x, z with | (d108, d109, d110), z107 => [Asr.vw (Enc.int .u8) (s1.v) x2, Asr.of 3 (Enc.int .i64) (z107.v) d108]) (d93, (0 : Int), (0 : Int)) z92 y115 hl116 [0, 1] (by exact ⟨rfl, rfl, rfl, rfl, rfl, rfl, rfl, rfl, trivial⟩) rfl rfl ?_
                rintro ⟨d108, d109, d110⟩ z107 s118 hm
                unfold F23.b6 at hm
                dsimp only at hm
                show JC _ _ _ [(0, s1.v), (1, .int .i64 x3), (5, z107.v), (6, .int .i64 d94), (7, .int .i64 d109), (8, .int .i64 d110), (26, .int .i64 ((x2).length : Int)), (27, .int .i64 d94)] [Asr.vw (Enc.int .u8) (s1.v) x2, Asr.of 3 (Enc.int .i64) (z107.v) d108] _ _
                refine JC.seq ?_
                refine JC.seq ?_
                refine JC.region ?_
                refine JL.val (v := .int .i64 d110) (QV.move rfl) rfl rfl rfl ?_
                refine JL.val (v := .bool (decide (d110 < (8 : Int)))) (QV.lss rfl rfl) rfl rfl rfl ?_
                refine JL.nil ?_
                refine QJ.then_normal ?_
                rcases ite_inv hm with ⟨h119, hm⟩ | ⟨h119, hm⟩
                ·
                  refine JC.condT' rfl (decide_eq_true h119) ?_
                  refine JC.skip ?_
                  refine QJ.then_normal ?_
                  refine JC.seq ?_
                  refine JC.block ?_
                  refine JC.seq ?_
                  refine JC.region ?_
                  refine JL.val (v := .int .i64 d109) (QV.move rfl) rfl rfl rfl ?_
                  refine JL.val (v := .int .i64 (IntKind.wrap .i64 ((2 : Int) * d109))) (QV.mul rfl rfl) rfl rfl rfl ?_
                  refine JL.val (v := s1.v) (QV.move rfl) rfl rfl rfl ?_
                  refine JL.val (v := .int .i64 d94) (QV.move rfl) rfl rfl rfl ?_
                  obtain ⟨h120, hm⟩ := guard_inv hm
                  refine JL.val (v := .pointer (some (elA (s1.v) (Int.toNat d94 * ((Enc.int .u8)).sz)))) (QV.indexA (Rdg.vw 0 rfl) Try.underlying22 tk_5 rfl rfl h120) rfl rfl rfl ?_
                  refine JL.val (v := .int .u8 (gd x2 d94)) (QV.el1 (Rdg.vw 0 rfl) tk_5 rfl h120 rfl) rfl rfl rfl ?_
                  refine JL.val (v := .int .i64 (IntKind.wrap .i64 (gd x2 d94))) (QV.conv rfl (by rw [Try.underlying5]; rfl) Try.underlying3) rfl rfl rfl ?_
                  refine JL.val (v := .int .i64 d110) (QV.move rfl) rfl rfl rfl ?_
                  refine JL.val (v := .int .i64 (IntKind.wrap .i64 ((7 : Int) - d110))) (QV.sub rfl rfl) rfl rfl rfl ?_
                  obtain ⟨h121, hm⟩ := guard_inv hm
                  refine JL.val (v := .int .i64 (shrI .i64 (IntKind.wrap .i64 (gd x2 d94)) (IntKind.wrap .i64 ((7 : Int) - d110)))) (QV.shr rfl rfl h121) rfl rfl rfl ?_
                  refine JL.val (v := .int .i64 (Int.tmod (shrI .i64 (IntKind.wrap .i64 (gd x2 d94)) (IntKind.wrap .i64 ((7 : Int) - d110))) (2 : Int))) (QV.rem rfl rfl (by decide)) rfl rfl rfl ?_
                  refine JL.val (v := .int .i64 (IntKind.wrap .i64 ((IntKind.wrap .i64 ((2 : Int) * d109)) + (Int.tmod (shrI .i64 (IntKind.wrap .i64 (gd x2 d94)) (IntKind.wrap .i64 ((7 : Int) - d110))) (2 : Int))))) (QV.add rfl rfl) rfl rfl rfl ?_
                  refine JL.val (v := .int .i64 (IntKind.wrap .i64 ((IntKind.wrap .i64 ((2 : Int) * d109)) + (Int.tmod (shrI .i64 (IntKind.wrap .i64 (gd x2 d94)) (IntKind.wrap .i64 ((7 : Int) - d110))) (2 : Int))))) (QV.assign rfl) rfl rfl rfl ?_
                  refine JL.nil ?_
                  refine QJ.then_normal ?_
                  refine JC.seq ?_
                  refine JC.region ?_
                  refine JL.val (v := .int .i64 d110) (QV.move rfl) rfl rfl rfl ?_
                  refine JL.val (v := .int .i64 x3) (QV.move rfl) rfl rfl rfl ?_
                  obtain ⟨h122, hm⟩ := guard_inv hm
                  refine JL.val (v := .int .i64 (Int.tmod d110 x3)) (QV.rem rfl rfl h122) rfl rfl rfl ?_
                  refine JL.val (v := .int .i64 x3) (QV.move rfl) rfl rfl rfl ?_
                  refine JL.val (v := .int .i64 (IntKind.wrap .i64 (x3 - (1 : Int)))) (QV.sub rfl rfl) rfl rfl rfl ?_
                  refine JL.val (v := .bool (decide ((Int.tmod d110 x3) = (IntKind.wrap .i64 (x3 - (1 : Int)))))) (QV.eql rfl rfl) rfl rfl rfl ?_
                  refine JL.nil ?_
                  refine QJ.then_normal ?_
                  refine JC.cutK (Y := (List Int × Int) × SlV) (fun y => match y with | ((d124, d125), _) => F23.j12 d110 (d124) (d125) = some s118) (fun y => match y with | ((d124, d125), z123) => [(0, s1.v), (1, .int .i64 x3), (5, z123.v), (6, .int .i64 d94), (7, .int .i64 d125), (8, .int .i64 d110), (26, .int .i64 ((x2).length : Int)), (27, .int .i64 d94)]) (fun y => match y with | ((d124, d125), z123) => [Asr.vw (Enc.int .u8) (s1.v) x2, Asr.of 3 (Enc.int .i64) (z123.v) d124]) ?_ ?_
                  ·
                    rintro ⟨⟨d124, d125⟩, z123⟩ hm
                    unfold F23.j12 at hm
                    show QJ _ _ [(0, s1.v), (1, .int .i64 x3), (5, z123.v), (6, .int .i64 d94), (7, .int .i64 d125), (8, .int .i64 d110), (26, .int .i64 ((x2).length : Int)), (27, .int .i64 d94)] [Asr.vw (Enc.int .u8) (s1.v) x2, Asr.of 3 (Enc.int .i64) (z123.v) d124] _ _
                    refine QJ.block_normal ?_
                    refine QJ.then_normal ?_
                    refine JC.region ?_
                    refine JL.val (v := .int .i64 d110) (QV.move rfl) rfl rfl rfl ?_
                    refine JL.val (v := .int .i64 (IntKind.wrap .i64 (d110 + (1 : Int)))) (QV.add rfl rfl) rfl rfl rfl ?_
                    refine JL.val (v := .int .i64 (IntKind.wrap .i64 (d110 + (1 : Int)))) (QV.assign rfl) rfl rfl rfl ?_
                    refine JL.nil ?_
                    obtain rfl := Option.some.inj hm
                    exact QJ.round_on (d124, d125, (IntKind.wrap .i64 (d110 + (1 : Int)))) z123 [0, 1] (by exact ⟨rfl, rfl, rfl, rfl, rfl, rfl, rfl, rfl, trivial⟩) rfl rfl
                  ·
                    rcases ite_inv hm with ⟨h126, hm⟩ | ⟨h126, hm⟩
                    ·
                      refine JC.condT' rfl (decide_eq_true h126) ?_
                      refine JC.seq ?_
                      refine JC.region ?_
                      refine JL.val (v := z107.v) (QV.move rfl) rfl rfl rfl ?_
                      refine JL.val (v := .int .i64 (IntKind.wrap .i64 ((IntKind.wrap .i64 ((2 : Int) * d109)) + (Int.tmod (shrI .i64 (IntKind.wrap .i64 (gd x2 d94)) (IntKind.wrap .i64 ((7 : Int) - d110))) (2 : Int))))) (QV.move rfl) rfl rfl rfl ?_
                      refine JL.mv (d := some 54) (MV.lit (E := (Enc.int .i64)) (vals := [(0, .int .i64 (IntKind.wrap .i64 ((IntKind.wrap .i64 ((2 : Int) * d109)) + (Int.tmod (shrI .i64 (IntKind.wrap .i64 (gd x2 d94)) (IntKind.wrap .i64 ((7 : Int) - d110))) (2 : Int)))))]) [(IntKind.wrap .i64 ((IntKind.wrap .i64 ((2 : Int) * d109)) + (Int.tmod (shrI .i64 (IntKind.wrap .i64 (gd x2 d94)) (IntKind.wrap .i64 ((7 : Int) - d110))) (2 : Int))))] Try.underlying24 zi_3 rfl (by decide) rfl (by kernel_rfl)) rfl rfl rfl ?_
                      rintro _ _ ⟨z127, rfl, rfl⟩
                      obtain ⟨h128, hm⟩ := guard_inv hm
                      refine JL.mv (d := some 55) (MV.append 2 rfl (Rdg.of 0 rfl) Try.underlying24 zi_3 rfl (by decide) rfl rfl h128) rfl rfl rfl ?_
                      rintro _ _ ⟨z129, rfl, rfl⟩
                      refine JL.val (v := z129.v) (QV.assign rfl) rfl rfl rfl ?_
                      refine JL.nil ?_
                      refine QJ.then_normal ?_
                      refine JC.region ?_
                      refine JL.val (v := .int .i64 (0 : Int)) (QV.assign rfl) rfl rfl rfl ?_
                      refine JL.nil ?_
                      exact QJ.cut_normal (((d108 ++ [(IntKind.wrap .i64 ((IntKind.wrap .i64 ((2 : Int) * d109)) + (Int.tmod (shrI .i64 (IntKind.wrap .i64 (gd x2 d94)) (IntKind.wrap .i64 ((7 : Int) - d110))) (2 : Int))))]), (0 : Int)), z129) hm [1, 2] (by exact ⟨rfl, rfl, rfl, rfl, rfl, rfl, rfl, rfl, trivial⟩) rfl rfl
                    ·
                      refine JC.condF' rfl (decide_eq_false h126) ?_
                      refine JC.skip ?_
                      exact QJ.cut_normal ((d108, (IntKind.wrap .i64 ((IntKind.wrap .i64 ((2 : Int) * d109)) + (Int.tmod (shrI .i64 (IntKind.wrap .i64 (gd x2 d94)) (IntKind.wrap .i64 ((7 : Int) - d110))) (2 : Int))))), z107) hm [0, 1] (by exact ⟨rfl, rfl, rfl, rfl, rfl, rfl, rfl, rfl, trivial⟩) rfl rfl
                ·
                  refine JC.condF' rfl (decide_eq_false h119) ?_
                  refine JC.exit ?_
                  refine QJ.then_exit ?_
                  obtain rfl := Option.some.inj hm
                  refine QJ.round_exit (fun hy => ?_)
                  subst hy
                  refine QJ.block_hit ?_
                  exact QJ.cut_normal (d108, z107) hmo117 [0, 1] (by exact ⟨rfl, rfl, rfl, rfl, rfl, trivial⟩) rfl rfl
          ·
            refine JC.condF' rfl (decide_eq_false h102) ?_
            refine JC.exit ?_
            refine QJ.then_exit ?_
            obtain rfl := Option.some.inj hm
            refine QJ.round_exit (fun hy => ?_)
            subst hy
            refine QJ.block_hit ?_
            exact QJ.cut_normal (d93, z92) hmo100 [1] (by exact ⟨rfl, trivial⟩) rfl rfl
      ·
        refine JL.val (v := .bool true) (QV.eq (QV.move rfl) (congrArg Value.bool (congrArg Bool.not (decide_eq_false h89)))) rfl rfl rfl ?_
        refine JL.val (v := .int .i64 x3) (QV.move rfl) rfl rfl rfl ?_
        refine JL.val (v := .bool (!(decide (x3 = (8 : Int))))) (QV.neq rfl rfl) rfl rfl rfl ?_
        refine JL.val (v := .bool (!(decide (x3 = (8 : Int))))) (QV.pickT rfl rfl) rfl rfl rfl ?_
        refine JL.nil ?_
        refine QJ.then_normal ?_
        rcases ite_inv hm with ⟨h130, hm⟩ | ⟨h130, hm⟩
        ·
          refine JC.condF' rfl (congrArg Bool.not (decide_eq_true h130)) ?_
          refine JC.skip ?_
          refine QJ.then_normal ?_
          refine JC.seq ?_
          refine JC.seq ?_
          refine JC.region ?_
          refine JL.val (v := s1.v) (QV.move rfl) rfl rfl rfl ?_
          refine JL.val (v := .int .i64 ((x2).length : Int)) (QV.len (Rdg.vw 2 rfl) Try.underlying22 rfl) rfl rfl rfl ?_
          refine JL.val (v := .int .i64 (0 : Int)) (QV.move rfl) rfl rfl rfl ?_
          refine JL.nil ?_
          refine QJ.then_normal ?_
          refine JC.cutK (Y := (List Int) × SlV) (fun y => match y with | (d132, _) => F23.j13 (d132) = some r) (fun y => match y with | (d132, z131) => [(5, z131.v)]) (fun y => match y with | (d132, z131) => [Asr.of 3 (Enc.int .i64) (z131.v) d132]) ?_ ?_
          ·
            rintro ⟨d132, z131⟩ hm
            unfold F23.j13 at hm
            show QJ _ _ [(5, z131.v)] [Asr.of 3 (Enc.int .i64) (z131.v) d132] _ _
            refine QJ.then_normal ?_
            refine JC.seq ?_
            refine JC.region ?_
            refine JL.val (v := z131.v) (QV.move rfl) rfl rfl rfl ?_
            refine JL.val (v := z131.v) (QV.assign rfl) rfl rfl rfl ?_
            refine JL.nil ?_
            refine QJ.then_normal ?_
            refine JC.ret ?_
            obtain rfl := Option.some.inj hm
            exact QJ.body (vs := [z131.v]) (.inl rfl) rfl (ResVs.cons (ResV.tmp rfl) ResVs.nil) [0] rfl rfl (.inr ⟨own_of _ _ _ _, trivial⟩) ⟨z131, rfl, rfl⟩
          ·
            refine JC.block ?_
            obtain ⟨y139, hl140, hmo141⟩ := bind_inv hm
            refine JC.loop (F23.b7 x2 x3) (fun x z => match x, z with | (d134, d135), z133 => [(0, s1.v), (1, .int .i64 x3), (5, z133.v), (26, .int .i64 ((x2).length : Int)), (27, .int .i64 d135)]) (fun x z => match x, z with | (d134, d135), z133 => [Asr.vw (Enc.int .u8) (s1.v) x2, Asr.of 3 (Enc.int .i64) (z133.v) d134]) (([] : List Int), (0 : Int)) z6 y139 hl140 [2, 0] (by exact ⟨rfl, rfl, rfl, rfl, rfl, trivial⟩) rfl rfl ?_
            rintro ⟨d134, d135⟩ z133 s142 hm
            unfold F23.b7 at hm
            dsimp only at hm
            show JC _ _ _ [(0, s1.v), (1, .int .i64 x3), (5, z133.v), (26, .int .i64 ((x2).length : Int)), (27, .int .i64 d135)] [Asr.vw (Enc.int .u8) (s1.v) x2, Asr.of 3 (Enc.int .i64) (z133.v) d134] _ _
            refine JC.seq ?_
            refine JC.region ?_
            refine JL.val (v := .bool (decide (d135 < ((x2).length : Int)))) (QV.lss rfl rfl) rfl rfl rfl ?_
            refine JL.nil ?_
            refine QJ.then_normal ?_
            refine JC.seq ?_
            rcases ite_inv hm with ⟨h143, hm⟩ | ⟨h143, hm⟩
            ·
              refine JC.condT' rfl (decide_eq_true h143) ?_
              refine JC.skip ?_
              refine QJ.then_normal ?_
              refine JC.seq ?_
              refine JC.cutK (Y := (List Int) × SlV) (fun y => match y with | (d145, _) => F23.j14 d135 (d145) = some s142) (fun y => match y with | (d145, z144) => [(0, s1.v), (1, .int .i64 x3), (5, z144.v), (26, .int .i64 ((x2).length : Int)), (27, .int .i64 d135)]) (fun y => match y with | (d145, z144) => [Asr.vw (Enc.int .u8) (s1.v) x2, Asr.of 3 (Enc.int .i64) (z144.v) d145]) ?_ ?_
              ·
                rintro ⟨d145, z144⟩ hm
                unfold F23.j14 at hm
                show QJ _ _ [(0, s1.v), (1, .int .i64 x3), (5, z144.v), (26, .int .i64 ((x2).length : Int)), (27, .int .i64 d135)] [Asr.vw (Enc.int .u8) (s1.v) x2, Asr.of 3 (Enc.int .i64) (z144.v) d145] _ _
                refine QJ.then_normal ?_
                refine JC.region ?_
                refine JL.val (v := .int .i64 (IntKind.wrap .i64 (d135 + (1 : Int)))) (QV.add rfl rfl) rfl rfl rfl ?_
                refine JL.val (v := .int .i64 (IntKind.wrap .i64 (d135 + (1 : Int)))) (QV.move rfl) rfl rfl rfl ?_
                refine JL.nil ?_
                obtain rfl := Option.some.inj hm
                exact QJ.round_on (d145, (IntKind.wrap .i64 (d135 + (1 : Int)))) z144 [0, 1] (by exact ⟨rfl, rfl, rfl, rfl, rfl, trivial⟩) rfl rfl
              ·
                refine JC.block ?_
                refine JC.seq ?_
                refine JC.region ?_
                refine JL.val (v := .int .i64 d135) (QV.move rfl) rfl rfl rfl ?_
                refine JL.val (v := .int .i64 d135) (QV.assign rfl) rfl rfl rfl ?_
                refine JL.nil ?_
                refine QJ.then_normal ?_
                refine JC.seq ?_
                refine JC.region ?_
                refine JL.val (v := .int .i64 (0 : Int)) (QV.assign rfl) rfl rfl rfl ?_
                refine JL.nil ?_
                refine QJ.then_normal ?_
                refine JC.seq ?_
                refine JC.region ?_
                refine JL.val (v := .int .i64 (0 : Int)) (QV.assign rfl) rfl rfl rfl ?_
                refine JL.nil ?_
                refine QJ.then_normal ?_
                refine JC.cutK (Y := (List Int) × SlV) (fun y => match y with | (d147, _) => F23.j15 d135 (d147) = some s142) (fun y => match y with | (d147, z146) => [(0, s1.v), (1, .int .i64 x3), (5, z146.v), (26, .int .i64 ((x2).length : Int)), (27, .int .i64 d135)]) (fun y => match y with | (d147, z146) => [Asr.vw (Enc.int .u8) (s1.v) x2, Asr.of 3 (Enc.int .i64) (z146.v) d147]) ?_ ?_
                ·
                  rintro ⟨d147, z146⟩ hm
                  unfold F23.j15 at hm
                  show QJ _ _ [(0, s1.v), (1, .int .i64 x3), (5, z146.v), (26, .int .i64 ((x2).length : Int)), (27, .int .i64 d135)] [Asr.vw (Enc.int .u8) (s1.v) x2, Asr.of 3 (Enc.int .i64) (z146.v) d147] _ _
                  refine QJ.block_normal ?_
                  exact QJ.cut_normal (d147, z146) hm [0, 1] (by exact ⟨rfl, rfl, rfl, rfl, rfl, trivial⟩) rfl rfl
                ·
                  refine JC.block ?_
                  obtain ⟨y156, hl157, hmo158⟩ := bind_inv hm
                  refine JC.loop (F23.b8 x2 x3 d135) (fun x z => match x, z with | (d149, d150, d151), z148 => [(0, s1.v), (1, .int .i64 x3), (5, z148.v), (6, .int .i64 d135), (7, .int .i64 d150), (8, .int .i64 d151), (26, .int .i64 ((x2).length : Int)), (27, .int .i64 d135)]) (fun x z => match x, z with | (d149, d150, d151), z148 => [Asr.vw (Enc.int .u8) (s1.v) x2, Asr.of 3 (Enc.int .i64) (z148.v) d149]) (d134, (0 : Int), (0 : Int)) z133 y156 hl157 [0, 1] (by exact ⟨rfl, rfl, rfl, rfl, rfl, rfl, rfl, rfl, trivial⟩) rfl rfl ?_
                  rintro ⟨d149, d150, d151⟩ z148 s159 hm
                  unfold F23.b8 at hm
                  dsimp only at hm
                  show JC _ _ _ [(0, s1.v), (1, .int .i64 x3), (5, z148.v), (6, .int .i64 d135), (7, .int .i64 d150), (8, .int .i64 d151), (26, .int .i64 ((x2).length : Int)), (27, .int .i64 d135)] [Asr.vw (Enc.int .u8) (s1.v) x2, Asr.of 3 (Enc.int .i64) (z148.v) d149] _ _
                  refine JC.seq ?_
                  refine JC.seq ?_
                  refine JC.region ?_
                  refine JL.val (v := .int .i64 d151) (QV.move rfl) rfl rfl rfl ?_
                  refine JL.val (v := .bool (decide (d151 < (8 : Int)))) (QV.lss rfl rfl) rfl rfl rfl ?_
                  refine JL.nil ?_
                  refine QJ.then_normal ?_
                  rcases ite_inv hm with ⟨h160, hm⟩ | ⟨h160, hm⟩
                  ·
                    refine JC.condT' rfl (decide_eq_true h160) ?_
                    refine JC.skip ?_
                    refine QJ.then_normal ?_
                    refine JC.seq ?_
                    refine JC.block ?_
                    refine JC.seq ?_
                    refine JC.region ?_
                    refine JL.val (v := .int .i64 d150) (QV.move rfl) rfl rfl rfl ?_
                    refine JL.val (v := .int .i64 (IntKind.wrap .i64 ((2 : Int) * d150))) (QV.mul rfl rfl) rfl rfl rfl ?_
                    refine JL.val (v := s1.v) (QV.move rfl) rfl rfl rfl ?_
                    refine JL.val (v := .int .i64 d135) (QV.move rfl) rfl rfl rfl ?_
                    obtain ⟨h161, hm⟩ := guard_inv hm
                    refine JL.val (v := .pointer (some (elA (s1.v) (Int.toNat d135 * ((Enc.int .u8)).sz)))) (QV.indexA (Rdg.vw 0 rfl) Try.underlying22 tk_5 rfl rfl h161) rfl rfl rfl ?_
                    refine JL.val (v := .int .u8 (gd x2 d135)) (QV.el1 (Rdg.vw 0 rfl) tk_5 rfl h161 rfl) rfl rfl rfl ?_
                    refine JL.val (v := .int .i64 (IntKind.wrap .i64 (gd x2 d135))) (QV.conv rfl (by rw [Try.underlying5]; rfl) Try.underlying3) rfl rfl rfl ?_
                    refine JL.val (v := .int .i64 d151) (QV.move rfl) rfl rfl rfl ?_
                    refine JL.val (v := .int .i64 (IntKind.wrap .i64 ((7 : Int) - d151))) (QV.sub rfl rfl) rfl rfl rfl ?_
                    obtain ⟨h162, hm⟩ := guard_inv hm
                    refine JL.val (v := .int .i64 (shrI .i64 (IntKind.wrap .i64 (gd x2 d135)) (IntKind.wrap .i64 ((7 : Int) - d151)))) (QV.shr rfl rfl h162) rfl rfl rfl ?_
                    refine JL.val (v := .int .i64 (Int.tmod (shrI .i64 (IntKind.wrap .i64 (gd x2 d135)) (IntKind.wrap .i64 ((7 : Int) - d151))) (2 : Int))) (QV.rem rfl rfl (by decide)) rfl rfl rfl ?_
                    refine JL.val (v := .int .i64 (IntKind.wrap .i64 ((IntKind.wrap .i64 ((2 : Int) * d150)) + (Int.tmod (shrI .i64 (IntKind.wrap .i64 (gd x2 d135)) (IntKind.wrap .i64 ((7 : Int) - d151))) (2 : Int))))) (QV.add rfl rfl) rfl rfl rfl ?_
                    refine JL.val (v := .int .i64 (IntKind.wrap .i64 ((IntKind.wrap .i64 ((2 : Int) * d150)) + (Int.tmod (shrI .i64 (IntKind.wrap .i64 (gd x2 d135)) (IntKind.wrap .i64 ((7 : Int) - d151))) (2 : Int))))) (QV.assign rfl) rfl rfl rfl ?_
                    refine JL.nil ?_
                    refine QJ.then_normal ?_
                    refine JC.seq ?_
                    refine JC.region ?_
                    refine JL.val (v := .int .i64 d151) (QV.move rfl) rfl rfl rfl ?_
                    refine JL.val (v := .int .i64 x3) (QV.move rfl) rfl rfl rfl ?_
                    obtain ⟨h163, hm⟩ := guard_inv hm
                    refine JL.val (v := .int .i64 (Int.tmod d151 x3)) (QV.rem rfl rfl h163) rfl rfl rfl ?_
                    refine JL.val (v := .int .i64 x3) (QV.move rfl) rfl rfl rfl ?_
                    refine JL.val (v := .int .i64 (IntKind.wrap .i64 (x3 - (1 : Int)))) (QV.sub rfl rfl) rfl rfl rfl ?_
                    refine JL.val (v := .bool (decide ((Int.tmod d151 x3) = (IntKind.wrap .i64 (x3 - (1 : Int)))))) (QV.eql rfl rfl) rfl rfl rfl ?_
                    refine JL.nil ?_
                    refine QJ.then_normal ?_
                    refine JC.cutK (Y := (List Int × Int) × SlV) (fun y => match y with | ((d165, d166), _) => F23.j16 d151 (d165) (d166) = some s159) (fun y => match y with | ((d165, d166), z164) => [(0, s1.v), (1, .int .i64 x3), (5, z164.v), (6, .int .i64 d135), (7, .int .i64 d166), (8, .int .i64 d151), (26, .int .i64 ((x2).length : Int)), (27, .int .i64 d135)]) (fun y => match y with | ((d165, d166), z164) => [Asr.vw (Enc.int .u8) (s1.v) x2, Asr.of 3 (Enc.int .i64) (z164.v) d165]) ?_ ?_
                    ·
                      rintro ⟨⟨d165, d166⟩, z164⟩ hm
                      unfold F23.j16 at hm
                      show QJ _ _ [(0, s1.v), (1, .int .i64 x3), (5, z164.v), (6, .int .i64 d135), (7, .int .i64 d166), (8, .int .i64 d151), (26, .int .i64 ((x2).length : Int)), (27, .int .i64 d135)] [Asr.vw (Enc.int .u8) (s1.v) x2, Asr.of 3 (Enc.int .i64) (z164.v) d165] _ _
                      refine QJ.block_normal ?_
                      refine QJ.then_normal ?_
                      refine JC.region ?_
                      refine JL.val (v := .int .i64 d151) (QV.move rfl) rfl rfl rfl ?_
                      refine JL.val (v := .int .i64 (IntKind.wrap .i64 (d151 + (1 : Int)))) (QV.add rfl rfl) rfl rfl rfl ?_
                      refine JL.val (v := .int .i64 (IntKind.wrap .i64 (d151 + (1 : Int)))) (QV.assign rfl) rfl rfl rfl ?_
                      refine JL.nil ?_
                      obtain rfl := Option.some.inj hm
                      exact QJ.round_on (d165, d166, (IntKind.wrap .i64 (d151 + (1 : Int)))) z164 [0, 1] (by exact ⟨rfl, rfl, rfl, rfl, rfl, rfl, rfl, rfl, trivial⟩) rfl rfl
                    ·
                      rcases ite_inv hm with ⟨h167, hm⟩ | ⟨h167, hm⟩
                      ·
                        refine JC.condT' rfl (decide_eq_true h167) ?_
                        refine JC.seq ?_
                        refine JC.region ?_
                        refine JL.val (v := z148.v) (QV.move rfl) rfl rfl rfl ?_
                        refine JL.val (v := .int .i64 (IntKind.wrap .i64 ((IntKind.wrap .i64 ((2 : Int) * d150)) + (Int.tmod (shrI .i64 (IntKind.wrap .i64 (gd x2 d135)) (IntKind.wrap .i64 ((7 : Int) - d151))) (2 : Int))))) (QV.move rfl) rfl rfl rfl ?_
                        refine JL.mv (d := some 54) (MV.lit (E := (Enc.int .i64)) (vals := [(0, .int .i64 (IntKind.wrap .i64 ((IntKind.wrap .i64 ((2 : Int) * d150)) + (Int.tmod (shrI .i64 (IntKind.wrap .i64 (gd x2 d135)) (IntKind.wrap .i64 ((7 : Int) - d151))) (2 : Int)))))]) [(IntKind.wrap .i64 ((IntKind.wrap .i64 ((2 : Int) * d150)) + (Int.tmod (shrI .i64 (IntKind.wrap .i64 (gd x2 d135)) (IntKind.wrap .i64 ((7 : Int) - d151))) (2 : Int))))] Try.underlying24 zi_3 rfl (by decide) rfl (by kernel_rfl)) rfl rfl rfl ?_
                        rintro _ _ ⟨z168, rfl, rfl⟩
                        obtain ⟨h169, hm⟩ := guard_inv hm
                        refine JL.mv (d := some 55) (MV.append 2 rfl (Rdg.of 0 rfl) Try.underlying24 zi_3 rfl (by decide) rfl rfl h169) rfl rfl rfl ?_
                        rintro _ _ ⟨z170, rfl, rfl⟩
                        refine JL.val (v := z170.v) (QV.assign rfl) rfl rfl rfl ?_
                        refine JL.nil ?_
                        refine QJ.then_normal ?_
                        refine JC.region ?_
                        refine JL.val (v := .int .i64 (0 : Int)) (QV.assign rfl) rfl rfl rfl ?_
                        refine JL.nil ?_
                        exact QJ.cut_normal (((d149 ++ [(IntKind.wrap .i64 ((IntKind.wrap .i64 ((2 : Int) * d150)) + (Int.tmod (shrI .i64 (IntKind.wrap .i64 (gd x2 d135)) (IntKind.wrap .i64 ((7 : Int) - d151))) (2 : Int))))]), (0 : Int)), z170) hm [1, 2] (by exact ⟨rfl, rfl, rfl, rfl, rfl, rfl, rfl, rfl, trivial⟩) rfl rfl
                      ·
                        refine JC.condF' rfl (decide_eq_false h167) ?_
                        refine JC.skip ?_
                        exact QJ.cut_normal ((d149, (IntKind.wrap .i64 ((IntKind.wrap .i64 ((2 : Int) * d150)) + (Int.tmod (shrI .i64 (IntKind.wrap .i64 (gd x2 d135)) (IntKind.wrap .i64 ((7 : Int) - d151))) (2 : Int))))), z148) hm [0, 1] (by exact ⟨rfl, rfl, rfl, rfl, rfl, rfl, rfl, rfl, trivial⟩) rfl rfl
                  ·
                    refine JC.condF' rfl (decide_eq_false h160) ?_
                    refine JC.exit ?_
                    refine QJ.then_exit ?_
                    obtain rfl := Option.some.inj hm
                    refine QJ.round_exit (fun hy => ?_)
                    subst hy
                    refine QJ.block_hit ?_
                    exact QJ.cut_normal (d149, z148) hmo158 [0, 1] (by exact ⟨rfl, rfl, rfl, rfl, rfl, trivial⟩) rfl rfl
            ·
              refine JC.condF' rfl (decide_eq_false h143) ?_
              refine JC.exit ?_
              refine QJ.then_exit ?_
              obtain rfl := Option.some.inj hm
              refine QJ.round_exit (fun hy => ?_)
              subst hy
              refine QJ.block_hit ?_
              exact QJ.cut_normal (d134, z133) hmo141 [1] (by exact ⟨rfl, trivial⟩) rfl rfl
        ·
          refine JC.condT' rfl (congrArg Bool.not (decide_eq_false h130)) ?_
          refine JC.seq ?_
          refine JC.region ?_
          refine JL.val (v := z6.v) (QV.move rfl) rfl rfl rfl ?_
          refine JL.val (v := z6.v) (QV.assign rfl) rfl rfl rfl ?_
          refine JL.nil ?_
          refine QJ.then_normal ?_
          refine JC.ret ?_
          refine QJ.then_ret ?_
          obtain rfl := Option.some.inj hm
          exact QJ.body (vs := [z6.v]) (.inl rfl) rfl (ResVs.cons (ResV.tmp rfl) ResVs.nil) [0] rfl rfl (.inr ⟨own_of _ _ _ _, trivial⟩) ⟨z6, rfl, rfl⟩

end Go.Proofs.Ytmedbpiapeiobaa
