/- Written by gen.py: functions and their contracts. -/
import Derived.Test.YtedokgdilpfomaaPlnFacts
namespace Go.Proofs.Ytedokgdilpfomaa
open Go Go.Eng Go.Proofs
set_option linter.unusedVariables false
set_option linter.unusedSimpArgs false
/-! ### 50: bytes.Equal -/
noncomputable def F50.m (x2 : List Int) (x4 : List Int) : Option Bool :=
  some (decide ((strOfNums x2) = (strOfNums x4)))
set_option maxRecDepth 100000 in
set_option maxHeartbeats 4000000 in
theorem F50.spec (s1 : SlV) (s3 : SlV) (x2 : List Int) (x4 : List Int) (r : Bool) (hm : F50.m x2 x4 = some r) :
    Ctr Try.prog false 50 [s1.v, s3.v] [Asr.vw (Enc.int .u8) (s1.v) x2, Asr.vw (Enc.int .u8) (s3.v) x4] (fun v L' => v = .bool r ∧ L' = []) := by
  refine Ctr.intro (n := 10) (env := [(0, s1.v), (1, s3.v)]) Try.func50 rfl rfl rfl rfl (fun c => ?_)
  unfold F50.m at hm
  refine JC.seq ?_
  refine JC.region ?_
  refine JL.val (v := .bool false) (QV.assign rfl) rfl rfl rfl ?_
  refine JL.nil ?_
  refine QJ.then_normal ?_
  refine JC.seq ?_
  refine JC.region ?_
  refine JL.val (v := s1.v) (QV.move rfl) rfl rfl rfl ?_
  refine JL.val (v := .string (strOfNums x2)) (QV.str (Rdg.vw 0 rfl) Try.underlying23 Try.underlying5 Try.underlying9 rfl) rfl rfl rfl ?_
  refine JL.val (v := s3.v) (QV.move rfl) rfl rfl rfl ?_
  refine JL.val (v := .string (strOfNums x4)) (QV.str (Rdg.vw 1 rfl) Try.underlying23 Try.underlying5 Try.underlying9 rfl) rfl rfl rfl ?_
  refine JL.val (v := .bool (decide ((strOfNums x2) = (strOfNums x4)))) (QV.eqlS rfl rfl) rfl rfl rfl ?_
  refine JL.val (v := .bool (decide ((strOfNums x2) = (strOfNums x4)))) (QV.assign rfl) rfl rfl rfl ?_
  refine JL.nil ?_
  refine QJ.then_normal ?_
  refine JC.ret ?_
  obtain rfl := Option.some.inj hm
  exact QJ.body (vs := [.bool (decide ((strOfNums x2) = (strOfNums x4)))]) (.inl rfl) rfl (ResVs.cons (ResV.tmp rfl) ResVs.nil) [] rfl rfl (.inr trivial) ⟨rfl, rfl⟩

/-! ### 60: slices.Clone[[]byte,byte] -/
noncomputable def F60.m (x2 : List Int) : Option (List Int) :=
  if (([] : List Int).length + x2.length) * 1 ≤ 140737488355328 ∧ ([] : List Int).length + x2.length ≤ 9223372036854775807 then some x2 else none
set_option maxRecDepth 100000 in
set_option maxHeartbeats 4000000 in
theorem F60.spec (s1 : SlV) (x2 : List Int) (r : List Int) (hm : F60.m x2 = some r) :
    Ctr Try.prog false 60 [s1.v] [Asr.vw (Enc.int .u8) (s1.v) x2] (fun v L' => ∃ (g1 : SlV), v = g1.v ∧ L' = [Asr.of 5 (Enc.int .u8) (g1.v) r]) := by
  refine Ctr.intro (n := 8) (env := [(0, s1.v)]) Try.func60 rfl rfl rfl rfl (fun c => ?_)
  unfold F60.m at hm
  obtain ⟨h4, hm⟩ := guard_inv hm
  obtain rfl := Option.some.inj hm
  refine JC.seq ?_
  refine JC.region ?_
  refine JL.ent (fun _ hs => hs.nil 5 (Enc.int .u8)) ?_
  refine JL.val (v := SlV.nil.v) (QV.assign rfl) rfl rfl rfl ?_
  refine JL.nil ?_
  refine QJ.then_normal ?_
  refine JC.seq ?_
  refine JC.seq ?_
  refine JC.region ?_
  refine JL.val (v := s1.v) (QV.move rfl) rfl rfl rfl ?_
  refine JL.val (v := .bool (decide (s1.a = none))) (QV.eqlNil Try.underlying23 rfl rfl) rfl rfl rfl ?_
  refine JL.nil ?_
  refine QJ.then_normal ?_
  refine JC.cond (decide (s1.a = none)) rfl (fun hb => ?_) (fun hb => ?_)
  · refine JC.fact ((Rdg.vw 1 rfl : Rdg c _ (Enc.int .u8) s1.v x2).none_nil (of_decide_eq_true hb)) (fun hx => ?_)
    subst hx
    refine JC.seq ?_
    refine JC.region ?_
    refine JL.ent (fun _ hs => hs.nil 5 (Enc.int .u8)) ?_
    refine JL.val (v := SlV.nil.v) (QV.assign rfl) rfl rfl rfl ?_
    refine JL.nil ?_
    refine QJ.then_normal ?_
    refine JC.ret ?_
    refine QJ.then_ret ?_
    exact QJ.body (vs := [SlV.nil.v]) (.inl rfl) rfl (ResVs.cons (ResV.tmp rfl) ResVs.nil) [0] rfl rfl (.inr ⟨own_of _ _ _ _, trivial⟩) ⟨SlV.nil, rfl, rfl⟩
  · refine JC.skip ?_
    refine QJ.then_normal ?_
    refine JC.seq ?_
    refine JC.region ?_
    refine JL.mv (d := some 5) (MV.lit0 (Enc.int .u8) Try.underlying23 (by kernel_rfl)) rfl rfl rfl ?_
    rintro _ _ ⟨z8, rfl, rfl⟩
    refine JL.val (v := s1.v) (QV.move rfl) rfl rfl rfl ?_
    refine JL.mv (d := some 7) (MV.append 0 rfl (Rdg.vw 2 rfl) Try.underlying23 zi_5 rfl (by decide) rfl rfl h4) rfl rfl rfl ?_
    rintro _ _ ⟨z9, rfl, rfl⟩
    refine JL.val (v := z9.v) (QV.assign rfl) rfl rfl rfl ?_
    refine JL.nil ?_
    refine QJ.then_normal ?_
    refine JC.ret ?_
    exact QJ.body (vs := [z9.v]) (.inl rfl) rfl (ResVs.cons (ResV.tmp rfl) ResVs.nil) [0] rfl rfl (.inr ⟨own_of _ _ _ _, trivial⟩) ⟨z9, rfl, rfl⟩

/-! ### 71: drogher/suffix.counted -/
noncomputable def F71.j3  (d14 : List Int) : Option (List Int) :=
  some d14
noncomputable def F71.b1 (x2 : List Int) (x4 : List Int) : (List Int × List Int × Int) → Option ((List Int × List Int × Int) ⊕ (List Int))
  | (d15, d16, d17) => (if d17 < ((x2).length : Int) then (if 0 ≤ d17 ∧ d17 < ((x2).length : Int) then (if 0 ≤ (gd x2 d17) ∧ (gd x2 d17) < ((x4).length : Int) then (if 0 ≤ (gd x4 (gd x2 d17)) ∧ (gd x4 (gd x2 d17)) < ((d15).length : Int) then (if 0 ≤ (gd d15 (gd x4 (gd x2 d17))) ∧ (gd d15 (gd x4 (gd x2 d17))) < ((d16).length : Int) then some (.inl ((List.set d15 (Int.toNat (gd x4 (gd x2 d17))) (IntKind.wrap .i64 ((gd d15 (gd x4 (gd x2 d17))) + (1 : Int)))), (List.set d16 (Int.toNat (gd d15 (gd x4 (gd x2 d17)))) (gd x2 d17)), (IntKind.wrap .i64 (d17 + (1 : Int))))) else none) else none) else none) else none) else some (.inr d16))
noncomputable def F71.j2 (x2 : List Int) (x4 : List Int) (d11 : List Int) : Option (List Int) :=
  (if 0 ≤ ((x2).length : Int) ∧ ((x2).length : Int) * 8 ≤ 281474976710656 ∧ ((x2).length : Int) ≤ 9223372036854775807 then ((loop (F71.b1 x2 x4) (d11, (List.replicate (Int.toNat ((x2).length : Int)) (0 : Int)), (0 : Int))).bind fun y => match y with | d14 => F71.j3 (d14)) else none)
noncomputable def F71.b2 (x5 : Int) : (List Int × Int) → Option ((List Int × Int) ⊕ (List Int))
  | (d30, d31) => (if d31 ≤ x5 then (if 0 ≤ d31 ∧ d31 < ((d30).length : Int) then (if 0 ≤ (IntKind.wrap .i64 (d31 - (1 : Int))) ∧ (IntKind.wrap .i64 (d31 - (1 : Int))) < ((d30).length : Int) then some (.inl ((List.set d30 (Int.toNat d31) (IntKind.wrap .i64 ((gd d30 d31) + (gd d30 (IntKind.wrap .i64 (d31 - (1 : Int))))))), (IntKind.wrap .i64 (d31 + (1 : Int))))) else none) else none) else some (.inr d30))
noncomputable def F71.j1 (x2 : List Int) (x4 : List Int) (x5 : Int) (d10 : List Int) : Option (List Int) :=
  ((loop (F71.b2 x5) (d10, (1 : Int))).bind fun y => match y with | d11 => F71.j2 x2 x4 (d11))
noncomputable def F71.b3 (x2 : List Int) (x4 : List Int) : (List Int × Int) → Option ((List Int × Int) ⊕ (List Int))
  | (d41, d42) => (if d42 < ((x2).length : Int) then (if 0 ≤ d42 ∧ d42 < ((x2).length : Int) then (if 0 ≤ (gd x2 d42) ∧ (gd x2 d42) < ((x4).length : Int) then (if 0 ≤ (IntKind.wrap .i64 ((gd x4 (gd x2 d42)) + (1 : Int))) ∧ (IntKind.wrap .i64 ((gd x4 (gd x2 d42)) + (1 : Int))) < ((d41).length : Int) then some (.inl ((List.set d41 (Int.toNat (IntKind.wrap .i64 ((gd x4 (gd x2 d42)) + (1 : Int)))) (IntKind.wrap .i64 ((gd d41 (IntKind.wrap .i64 ((gd x4 (gd x2 d42)) + (1 : Int)))) + (1 : Int)))), (IntKind.wrap .i64 (d42 + (1 : Int))))) else none) else none) else none) else some (.inr d41))
noncomputable def F71.m (x2 : List Int) (x4 : List Int) (x5 : Int) : Option (List Int) :=
  (if 0 ≤ (IntKind.wrap .i64 (x5 + (1 : Int))) ∧ (IntKind.wrap .i64 (x5 + (1 : Int))) * 8 ≤ 281474976710656 ∧ (IntKind.wrap .i64 (x5 + (1 : Int))) ≤ 9223372036854775807 then ((loop (F71.b3 x2 x4) ((List.replicate (Int.toNat (IntKind.wrap .i64 (x5 + (1 : Int)))) (0 : Int)), (0 : Int))).bind fun y => match y with | d10 => F71.j1 x2 x4 x5 (d10)) else none)
set_option maxRecDepth 100000 in
set_option maxHeartbeats 4000000 in
theorem F71.spec (s1 : SlV) (s3 : SlV) (x2 : List Int) (x4 : List Int) (x5 : Int) (r : (List Int)) (hm : F71.m x2 x4 x5 = some r) :
    Ctr Try.prog false 71 [s1.v, s3.v, .int .i64 x5] [Asr.vw (Enc.int .i64) (s1.v) x2, Asr.vw (Enc.int .i64) (s3.v) x4] (fun v L' => ∃ (g6 : SlV), v = g6.v ∧ L' = [Asr.of 3 (Enc.int .i64) (g6.v) r]) := by
  refine Ctr.intro (n := 79) (env := [(0, s1.v), (1, s3.v), (2, .int .i64 x5)]) Try.func71 rfl rfl rfl rfl (fun c => ?_)
  unfold F71.m at hm
  refine JC.seq ?_
  refine JC.region ?_
  refine JL.ent (fun _ hs => hs.nil 3 (Enc.int .i64)) ?_
  refine JL.val (v := SlV.nil.v) (QV.assign rfl) rfl rfl rfl ?_
  refine JL.nil ?_
  refine QJ.then_normal ?_
  refine JC.seq ?_
  refine JC.region ?_
  refine JL.val (v := .int .i64 x5) (QV.move rfl) rfl rfl rfl ?_
  refine JL.val (v := .int .i64 (IntKind.wrap .i64 (x5 + (1 : Int)))) (QV.add rfl rfl) rfl rfl rfl ?_
  obtain ⟨h8, hm⟩ := guard_inv hm
  refine JL.mv (d := some 17) (MV.make (E := (Enc.int .i64)) (0 : Int) Try.underlying94 zi_3 (by decide) rfl rfl rfl h8) rfl rfl rfl ?_
  rintro _ _ ⟨z9, rfl, rfl⟩
  refine JL.val (v := z9.v) (QV.assign rfl) rfl rfl rfl ?_
  refine JL.nil ?_
  refine QJ.then_normal ?_
  refine JC.seq ?_
  refine JC.seq ?_
  refine JC.region ?_
  refine JL.val (v := s1.v) (QV.move rfl) rfl rfl rfl ?_
  refine JL.val (v := .int .i64 ((x2).length : Int)) (QV.len (Rdg.vw 2 rfl) Try.underlying94 rfl) rfl rfl rfl ?_
  refine JL.val (v := .int .i64 (0 : Int)) (QV.move rfl) rfl rfl rfl ?_
  refine JL.nil ?_
  refine QJ.then_normal ?_
  refine JC.cutK (Y := (List Int) × Unit) (fun y => match y with | (d10, _) => F71.j1 x2 x4 x5 (d10) = some r) (fun y => match y with | (d10, _) => [(0, s1.v), (1, s3.v), (2, .int .i64 x5), (7, z9.v)]) (fun y => match y with | (d10, _) => [Asr.vw (Enc.int .i64) (s1.v) x2, Asr.vw (Enc.int .i64) (s3.v) x4, Asr.of 3 (Enc.int .i64) (z9.v) d10]) ?_ ?_
  ·
    rintro ⟨d10, ⟨⟩⟩ hm
    unfold F71.j1 at hm
    show QJ _ _ [(0, s1.v), (1, s3.v), (2, .int .i64 x5), (7, z9.v)] [Asr.vw (Enc.int .i64) (s1.v) x2, Asr.vw (Enc.int .i64) (s3.v) x4, Asr.of 3 (Enc.int .i64) (z9.v) d10] _ _
    refine QJ.then_normal ?_
    refine JC.seq ?_
    refine JC.seq ?_
    refine JC.region ?_
    refine JL.val (v := .int .i64 (1 : Int)) (QV.assign rfl) rfl rfl rfl ?_
    refine JL.nil ?_
    refine QJ.then_normal ?_
    refine JC.cutK (Y := (List Int) × Unit) (fun y => match y with | (d11, _) => F71.j2 x2 x4 (d11) = some r) (fun y => match y with | (d11, _) => [(0, s1.v), (1, s3.v), (7, z9.v)]) (fun y => match y with | (d11, _) => [Asr.vw (Enc.int .i64) (s1.v) x2, Asr.vw (Enc.int .i64) (s3.v) x4, Asr.of 3 (Enc.int .i64) (z9.v) d11]) ?_ ?_
    ·
      rintro ⟨d11, ⟨⟩⟩ hm
      unfold F71.j2 at hm
      show QJ _ _ [(0, s1.v), (1, s3.v), (7, z9.v)] [Asr.vw (Enc.int .i64) (s1.v) x2, Asr.vw (Enc.int .i64) (s3.v) x4, Asr.of 3 (Enc.int .i64) (z9.v) d11] _ _
      refine QJ.then_normal ?_
      refine JC.seq ?_
      refine JC.region ?_
      refine JL.val (v := s1.v) (QV.move rfl) rfl rfl rfl ?_
      refine JL.val (v := .int .i64 ((x2).length : Int)) (QV.len (Rdg.vw 0 rfl) Try.underlying94 rfl) rfl rfl rfl ?_
      obtain ⟨h12, hm⟩ := guard_inv hm
      refine JL.mv (d := some 53) (MV.make (E := (Enc.int .i64)) (0 : Int) Try.underlying94 zi_3 (by decide) rfl rfl rfl h12) rfl rfl rfl ?_
      rintro _ _ ⟨z13, rfl, rfl⟩
      refine JL.val (v := z13.v) (QV.assign rfl) rfl rfl rfl ?_
      refine JL.nil ?_
      refine QJ.then_normal ?_
      refine JC.seq ?_
      refine JC.seq ?_
      refine JC.region ?_
      refine JL.val (v := s1.v) (QV.move rfl) rfl rfl rfl ?_
      refine JL.val (v := .int .i64 ((x2).length : Int)) (QV.len (Rdg.vw 1 rfl) Try.underlying94 rfl) rfl rfl rfl ?_
      refine JL.val (v := .int .i64 (0 : Int)) (QV.move rfl) rfl rfl rfl ?_
      refine JL.nil ?_
      refine QJ.then_normal ?_
      refine JC.cutK (Y := (List Int) × Unit) (fun y => match y with | (d14, _) => F71.j3 (d14) = some r) (fun y => match y with | (d14, _) => [(11, z13.v)]) (fun y => match y with | (d14, _) => [Asr.of 3 (Enc.int .i64) (z13.v) d14]) ?_ ?_
      ·
        rintro ⟨d14, ⟨⟩⟩ hm
        unfold F71.j3 at hm
        show QJ _ _ [(11, z13.v)] [Asr.of 3 (Enc.int .i64) (z13.v) d14] _ _
        refine QJ.then_normal ?_
        refine JC.seq ?_
        refine JC.region ?_
        refine JL.val (v := z13.v) (QV.move rfl) rfl rfl rfl ?_
        refine JL.val (v := z13.v) (QV.assign rfl) rfl rfl rfl ?_
        refine JL.nil ?_
        refine QJ.then_normal ?_
        refine JC.ret ?_
        obtain rfl := Option.some.inj hm
        exact QJ.body (vs := [z13.v]) (.inl rfl) rfl (ResVs.cons (ResV.tmp rfl) ResVs.nil) [0] rfl rfl (.inr ⟨own_of _ _ _ _, trivial⟩) ⟨z13, rfl, rfl⟩
      ·
        refine JC.block ?_
        obtain ⟨y21, hl22, hmo23⟩ := bind_inv hm
        refine JC.loop (F71.b1 x2 x4) (fun x z => match x, z with | (d15, d16, d17), _ => [(1, s3.v), (7, z9.v), (11, z13.v), (54, s1.v), (55, .int .i64 ((x2).length : Int)), (56, .int .i64 d17)]) (fun x z => match x, z with | (d15, d16, d17), _ => [Asr.vw (Enc.int .i64) (s3.v) x4, Asr.of 3 (Enc.int .i64) (z9.v) d15, Asr.of 3 (Enc.int .i64) (z13.v) d16, Asr.vw (Enc.int .i64) (s1.v) x2]) (d11, (List.replicate (Int.toNat ((x2).length : Int)) (0 : Int)), (0 : Int)) () y21 hl22 [2, 3, 0, 1] (by exact ⟨rfl, rfl, rfl, rfl, rfl, rfl, trivial⟩) rfl rfl ?_
        rintro ⟨d15, d16, d17⟩ ⟨⟩ s24 hm
        unfold F71.b1 at hm
        dsimp only at hm
        show JC _ _ _ [(1, s3.v), (7, z9.v), (11, z13.v), (54, s1.v), (55, .int .i64 ((x2).length : Int)), (56, .int .i64 d17)] [Asr.vw (Enc.int .i64) (s3.v) x4, Asr.of 3 (Enc.int .i64) (z9.v) d15, Asr.of 3 (Enc.int .i64) (z13.v) d16, Asr.vw (Enc.int .i64) (s1.v) x2] _ _
        refine JC.seq ?_
        refine JC.region ?_
        refine JL.val (v := .bool (decide (d17 < ((x2).length : Int)))) (QV.lss rfl rfl) rfl rfl rfl ?_
        refine JL.nil ?_
        refine QJ.then_normal ?_
        refine JC.seq ?_
        rcases ite_inv hm with ⟨h25, hm⟩ | ⟨h25, hm⟩
        ·
          refine JC.condT' rfl (decide_eq_true h25) ?_
          refine JC.skip ?_
          refine QJ.then_normal ?_
          refine JC.seq ?_
          refine JC.block ?_
          refine JC.seq ?_
          refine JC.region ?_
          obtain ⟨h26, hm⟩ := guard_inv hm
          refine JL.val (v := .pointer (some (elA (s1.v) (Int.toNat d17 * ((Enc.int .i64)).sz)))) (QV.indexA (Rdg.vw 3 rfl) Try.underlying94 tk_3 rfl rfl h26) rfl rfl rfl ?_
          refine JL.val (v := .int .i64 (gd x2 d17)) (QV.el1 (Rdg.vw 3 rfl) tk_3 rfl h26 rfl) rfl rfl rfl ?_
          refine JL.val (v := .int .i64 (gd x2 d17)) (QV.assign rfl) rfl rfl rfl ?_
          refine JL.nil ?_
          refine QJ.then_normal ?_
          refine JC.seq ?_
          refine JC.region ?_
          refine JL.val (v := s3.v) (QV.move rfl) rfl rfl rfl ?_
          refine JL.val (v := .int .i64 (gd x2 d17)) (QV.move rfl) rfl rfl rfl ?_
          obtain ⟨h27, hm⟩ := guard_inv hm
          refine JL.val (v := .pointer (some (elA (s3.v) (Int.toNat (gd x2 d17) * ((Enc.int .i64)).sz)))) (QV.indexA (Rdg.vw 0 rfl) Try.underlying94 tk_3 rfl rfl h27) rfl rfl rfl ?_
          refine JL.val (v := .int .i64 (gd x4 (gd x2 d17))) (QV.el1 (Rdg.vw 0 rfl) tk_3 rfl h27 rfl) rfl rfl rfl ?_
          refine JL.val (v := .int .i64 (gd x4 (gd x2 d17))) (QV.assign rfl) rfl rfl rfl ?_
          refine JL.nil ?_
          refine QJ.then_normal ?_
          refine JC.seq ?_
          refine JC.region ?_
          refine JL.val (v := z13.v) (QV.move rfl) rfl rfl rfl ?_
          refine JL.val (v := z9.v) (QV.move rfl) rfl rfl rfl ?_
          refine JL.val (v := .int .i64 (gd x4 (gd x2 d17))) (QV.move rfl) rfl rfl rfl ?_
          obtain ⟨h28, hm⟩ := guard_inv hm
          refine JL.val (v := .pointer (some (elA (z9.v) (Int.toNat (gd x4 (gd x2 d17)) * ((Enc.int .i64)).sz)))) (QV.indexA (Rdg.of 1 rfl) Try.underlying94 tk_3 rfl rfl h28) rfl rfl rfl ?_
          refine JL.val (v := .int .i64 (gd d15 (gd x4 (gd x2 d17)))) (QV.el1 (Rdg.of 1 rfl) tk_3 rfl h28 rfl) rfl rfl rfl ?_
          refine JL.val (v := .int .i64 (gd x2 d17)) (QV.move rfl) rfl rfl rfl ?_
          obtain ⟨h29, hm⟩ := guard_inv hm
          refine JL.val (v := .pointer (some (elA (z13.v) (Int.toNat (gd d15 (gd x4 (gd x2 d17))) * ((Enc.int .i64)).sz)))) (QV.indexA (Rdg.of 2 rfl) Try.underlying94 tk_3 rfl rfl h29) rfl rfl rfl ?_
          refine JL.mv (d := none) (MV.storeEl 2 (gd x2 d17) rfl tk_3 rfl rfl h29 rfl) rfl rfl rfl ?_
          rintro _ _ ⟨rfl, rfl⟩
          refine JL.nil ?_
          refine QJ.then_normal ?_
          refine JC.region ?_
          refine JL.val (v := z9.v) (QV.move rfl) rfl rfl rfl ?_
          refine JL.val (v := .int .i64 (gd x4 (gd x2 d17))) (QV.move rfl) rfl rfl rfl ?_
          refine JL.val (v := .pointer (some (elA (z9.v) (Int.toNat (gd x4 (gd x2 d17)) * ((Enc.int .i64)).sz)))) (QV.indexA (Rdg.of 1 rfl) Try.underlying94 tk_3 rfl rfl h28) rfl rfl rfl ?_
          refine JL.val (v := .int .i64 (gd d15 (gd x4 (gd x2 d17)))) (QV.el1 (Rdg.of 1 rfl) tk_3 rfl h28 rfl) rfl rfl rfl ?_
          refine JL.val (v := .int .i64 (IntKind.wrap .i64 ((gd d15 (gd x4 (gd x2 d17))) + (1 : Int)))) (QV.add rfl rfl) rfl rfl rfl ?_
          refine JL.val (v := .pointer (some (elA (z9.v) (Int.toNat (gd x4 (gd x2 d17)) * ((Enc.int .i64)).sz)))) (QV.indexA (Rdg.of 1 rfl) Try.underlying94 tk_3 rfl rfl h28) rfl rfl rfl ?_
          refine JL.mv (d := none) (MV.storeEl 1 (IntKind.wrap .i64 ((gd d15 (gd x4 (gd x2 d17))) + (1 : Int))) rfl tk_3 rfl rfl h28 rfl) rfl rfl rfl ?_
          rintro _ _ ⟨rfl, rfl⟩
          refine JL.nil ?_
          refine QJ.block_normal ?_
          refine QJ.then_normal ?_
          refine JC.region ?_
          refine JL.val (v := .int .i64 (IntKind.wrap .i64 (d17 + (1 : Int)))) (QV.add rfl rfl) rfl rfl rfl ?_
          refine JL.val (v := .int .i64 (IntKind.wrap .i64 (d17 + (1 : Int)))) (QV.move rfl) rfl rfl rfl ?_
          refine JL.nil ?_
          obtain rfl := Option.some.inj hm
          exact QJ.round_on ((List.set d15 (Int.toNat (gd x4 (gd x2 d17))) (IntKind.wrap .i64 ((gd d15 (gd x4 (gd x2 d17))) + (1 : Int)))), (List.set d16 (Int.toNat (gd d15 (gd x4 (gd x2 d17)))) (gd x2 d17)), (IntKind.wrap .i64 (d17 + (1 : Int)))) () [0, 1, 2, 3] (by exact ⟨rfl, rfl, rfl, rfl, rfl, rfl, trivial⟩) rfl rfl
        ·
          refine JC.condF' rfl (decide_eq_false h25) ?_
          refine JC.exit ?_
          refine QJ.then_exit ?_
          obtain rfl := Option.some.inj hm
          refine QJ.round_exit (fun hy => ?_)
          subst hy
          refine QJ.block_hit ?_
          exact QJ.cut_normal (d16, ()) hmo23 [2] (by exact ⟨rfl, trivial⟩) rfl rfl
    ·
      refine JC.block ?_
      obtain ⟨y34, hl35, hmo36⟩ := bind_inv hm
      refine JC.loop (F71.b2 x5) (fun x z => match x, z with | (d30, d31), _ => [(0, s1.v), (1, s3.v), (2, .int .i64 x5), (7, z9.v), (10, .int .i64 d31)]) (fun x z => match x, z with | (d30, d31), _ => [Asr.vw (Enc.int .i64) (s1.v) x2, Asr.vw (Enc.int .i64) (s3.v) x4, Asr.of 3 (Enc.int .i64) (z9.v) d30]) (d10, (1 : Int)) () y34 hl35 [0, 1, 2] (by exact ⟨rfl, rfl, rfl, rfl, rfl, trivial⟩) rfl rfl ?_
      rintro ⟨d30, d31⟩ ⟨⟩ s37 hm
      unfold F71.b2 at hm
      dsimp only at hm
      show JC _ _ _ [(0, s1.v), (1, s3.v), (2, .int .i64 x5), (7, z9.v), (10, .int .i64 d31)] [Asr.vw (Enc.int .i64) (s1.v) x2, Asr.vw (Enc.int .i64) (s3.v) x4, Asr.of 3 (Enc.int .i64) (z9.v) d30] _ _
      refine JC.seq ?_
      refine JC.seq ?_
      refine JC.region ?_
      refine JL.val (v := .int .i64 d31) (QV.move rfl) rfl rfl rfl ?_
      refine JL.val (v := .int .i64 x5) (QV.move rfl) rfl rfl rfl ?_
      refine JL.val (v := .bool (decide (d31 ≤ x5))) (QV.leq rfl rfl) rfl rfl rfl ?_
      refine JL.nil ?_
      refine QJ.then_normal ?_
      rcases ite_inv hm with ⟨h38, hm⟩ | ⟨h38, hm⟩
      ·
        refine JC.condT' rfl (decide_eq_true h38) ?_
        refine JC.skip ?_
        refine QJ.then_normal ?_
        refine JC.seq ?_
        refine JC.block ?_
        refine JC.regionT [Asr.vw (Enc.int .i64) (s1.v) x2, Asr.vw (Enc.int .i64) (s3.v) x4, Asr.of 3 (Enc.int .i64) (z9.v) d30] (fun t => Nat.beq t 11) [(0, true), (1, true), (2, true), (3, true), (4, true), (5, false), (6, false), (7, false), (8, false), (9, false), (10, false), (11, false)] (by kernel_rfl) (by kernel_rfl) (by kernel_rfl) rfl (fun hsel => ?_)
        refine JT.take (i := 0) (v := z9.v) hsel rfl (QV.move rfl) rfl rfl rfl [0, 1, 2] rfl rfl ?_
        refine JT.take (i := 1) (v := .int .i64 d31) hsel rfl (QV.move rfl) rfl rfl rfl [0, 1, 2] rfl rfl ?_
        obtain ⟨h39, hm⟩ := guard_inv hm
        refine JT.take (i := 2) (v := .pointer (some (elA (z9.v) (Int.toNat d31 * ((Enc.int .i64)).sz)))) hsel rfl (QV.indexA (Rdg.of 2 rfl) Try.underlying94 tk_3 rfl rfl h39) rfl rfl rfl [0, 1, 2] rfl rfl ?_
        refine JT.take (i := 3) (v := .int .i64 (gd d30 d31)) hsel rfl (QV.el1 (Rdg.of 2 rfl) tk_3 rfl h39 rfl) rfl rfl rfl [0, 1, 2] rfl rfl ?_
        refine JT.take (i := 4) (v := z9.v) hsel rfl (QV.move rfl) rfl rfl rfl [0, 1, 2] rfl rfl ?_
        refine JT.only (i := 5) (d := some 45) rfl (MV.ofQV (v := .int .i64 d31) (QV.move rfl)) rfl rfl rfl ?_
        rintro _ _ ⟨rfl, rfl⟩
        refine ⟨fun _ => ⟨[0, 1, 2], rfl, rfl⟩, ?_⟩
        refine JT.only (i := 6) (d := some 46) rfl (MV.ofQV (v := .int .i64 (IntKind.wrap .i64 (d31 - (1 : Int)))) (QV.sub rfl rfl)) rfl rfl rfl ?_
        rintro _ _ ⟨rfl, rfl⟩
        refine ⟨fun _ => ⟨[0, 1, 2], rfl, rfl⟩, ?_⟩
        obtain ⟨h40, hm⟩ := guard_inv hm
        refine JT.only (i := 7) (d := some 47) rfl (MV.ofQV (v := .pointer (some (elA (z9.v) (Int.toNat (IntKind.wrap .i64 (d31 - (1 : Int))) * ((Enc.int .i64)).sz)))) (QV.indexA (Rdg.of 2 rfl) Try.underlying94 tk_3 rfl rfl h40)) rfl rfl rfl ?_
        rintro _ _ ⟨rfl, rfl⟩
        refine ⟨fun _ => ⟨[0, 1, 2], rfl, rfl⟩, ?_⟩
        refine JT.only (i := 8) (d := some 48) rfl (MV.ofQV (v := .int .i64 (gd d30 (IntKind.wrap .i64 (d31 - (1 : Int))))) (QV.el1 (Rdg.of 2 rfl) tk_3 rfl h40 rfl)) rfl rfl rfl ?_
        rintro _ _ ⟨rfl, rfl⟩
        refine ⟨fun _ => ⟨[0, 1, 2], rfl, rfl⟩, ?_⟩
        refine JT.only (i := 9) (d := some 49) rfl (MV.ofQV (v := .int .i64 (IntKind.wrap .i64 ((gd d30 d31) + (gd d30 (IntKind.wrap .i64 (d31 - (1 : Int))))))) (QV.add rfl rfl)) rfl rfl rfl ?_
        rintro _ _ ⟨rfl, rfl⟩
        refine ⟨fun _ => ⟨[0, 1, 2], rfl, rfl⟩, ?_⟩
        refine JT.only (i := 10) (d := some 50) rfl (MV.ofQV (v := .pointer (some (elA (z9.v) (Int.toNat d31 * ((Enc.int .i64)).sz)))) (QV.indexA (Rdg.of 2 rfl) Try.underlying94 tk_3 rfl rfl h39)) rfl rfl rfl ?_
        rintro _ _ ⟨rfl, rfl⟩
        refine ⟨fun _ => ⟨[0, 1, 2], rfl, rfl⟩, ?_⟩
        refine JT.only (i := 11) (d := none) rfl (MV.storeEl 2 (IntKind.wrap .i64 ((gd d30 d31) + (gd d30 (IntKind.wrap .i64 (d31 - (1 : Int)))))) rfl tk_3 rfl rfl h39 rfl) rfl rfl rfl ?_
        rintro _ _ ⟨rfl, rfl⟩
        refine ⟨fun h => absurd h (by decide), ?_⟩
        refine JT.nil ?_
        refine QJ.block_normal ?_
        refine QJ.then_normal ?_
        refine JC.region ?_
        refine JL.val (v := .int .i64 d31) (QV.move rfl) rfl rfl rfl ?_
        refine JL.val (v := .int .i64 (IntKind.wrap .i64 (d31 + (1 : Int)))) (QV.add rfl rfl) rfl rfl rfl ?_
        refine JL.val (v := .int .i64 (IntKind.wrap .i64 (d31 + (1 : Int)))) (QV.assign rfl) rfl rfl rfl ?_
        refine JL.nil ?_
        obtain rfl := Option.some.inj hm
        exact QJ.round_on ((List.set d30 (Int.toNat d31) (IntKind.wrap .i64 ((gd d30 d31) + (gd d30 (IntKind.wrap .i64 (d31 - (1 : Int))))))), (IntKind.wrap .i64 (d31 + (1 : Int)))) () [0, 1, 2] (by exact ⟨rfl, rfl, rfl, rfl, rfl, trivial⟩) rfl rfl
      ·
        refine JC.condF' rfl (decide_eq_false h38) ?_
        refine JC.exit ?_
        refine QJ.then_exit ?_
        obtain rfl := Option.some.inj hm
        refine QJ.round_exit (fun hy => ?_)
        subst hy
        refine QJ.block_hit ?_
        exact QJ.cut_normal (d30, ()) hmo36 [0, 1, 2] (by exact ⟨rfl, rfl, rfl, trivial⟩) rfl rfl
  ·
    refine JC.block ?_
    obtain ⟨y45, hl46, hmo47⟩ := bind_inv hm
    refine JC.loop (F71.b3 x2 x4) (fun x z => match x, z with | (d41, d42), _ => [(0, s1.v), (1, s3.v), (2, .int .i64 x5), (7, z9.v), (18, s1.v), (19, .int .i64 ((x2).length : Int)), (20, .int .i64 d42)]) (fun x z => match x, z with | (d41, d42), _ => [Asr.vw (Enc.int .i64) (s1.v) x2, Asr.vw (Enc.int .i64) (s3.v) x4, Asr.of 3 (Enc.int .i64) (z9.v) d41]) ((List.replicate (Int.toNat (IntKind.wrap .i64 (x5 + (1 : Int)))) (0 : Int)), (0 : Int)) () y45 hl46 [2, 3, 0] (by exact ⟨rfl, rfl, rfl, rfl, rfl, rfl, rfl, trivial⟩) rfl rfl ?_
    rintro ⟨d41, d42⟩ ⟨⟩ s48 hm
    unfold F71.b3 at hm
    dsimp only at hm
    show JC _ _ _ [(0, s1.v), (1, s3.v), (2, .int .i64 x5), (7, z9.v), (18, s1.v), (19, .int .i64 ((x2).length : Int)), (20, .int .i64 d42)] [Asr.vw (Enc.int .i64) (s1.v) x2, Asr.vw (Enc.int .i64) (s3.v) x4, Asr.of 3 (Enc.int .i64) (z9.v) d41] _ _
    refine JC.seq ?_
    refine JC.region ?_
    refine JL.val (v := .bool (decide (d42 < ((x2).length : Int)))) (QV.lss rfl rfl) rfl rfl rfl ?_
    refine JL.nil ?_
    refine QJ.then_normal ?_
    refine JC.seq ?_
    rcases ite_inv hm with ⟨h49, hm⟩ | ⟨h49, hm⟩
    ·
      refine JC.condT' rfl (decide_eq_true h49) ?_
      refine JC.skip ?_
      refine QJ.then_normal ?_
      refine JC.seq ?_
      refine JC.block ?_
      refine JC.seq ?_
      refine JC.region ?_
      obtain ⟨h50, hm⟩ := guard_inv hm
      refine JL.val (v := .pointer (some (elA (s1.v) (Int.toNat d42 * ((Enc.int .i64)).sz)))) (QV.indexA (Rdg.vw 0 rfl) Try.underlying94 tk_3 rfl rfl h50) rfl rfl rfl ?_
      refine JL.val (v := .int .i64 (gd x2 d42)) (QV.el1 (Rdg.vw 0 rfl) tk_3 rfl h50 rfl) rfl rfl rfl ?_
      refine JL.val (v := .int .i64 (gd x2 d42)) (QV.assign rfl) rfl rfl rfl ?_
      refine JL.nil ?_
      refine QJ.then_normal ?_
      refine JC.region ?_
      refine JL.val (v := z9.v) (QV.move rfl) rfl rfl rfl ?_
      refine JL.val (v := s3.v) (QV.move rfl) rfl rfl rfl ?_
      refine JL.val (v := .int .i64 (gd x2 d42)) (QV.move rfl) rfl rfl rfl ?_
      obtain ⟨h51, hm⟩ := guard_inv hm
      refine JL.val (v := .pointer (some (elA (s3.v) (Int.toNat (gd x2 d42) * ((Enc.int .i64)).sz)))) (QV.indexA (Rdg.vw 1 rfl) Try.underlying94 tk_3 rfl rfl h51) rfl rfl rfl ?_
      refine JL.val (v := .int .i64 (gd x4 (gd x2 d42))) (QV.el1 (Rdg.vw 1 rfl) tk_3 rfl h51 rfl) rfl rfl rfl ?_
      refine JL.val (v := .int .i64 (IntKind.wrap .i64 ((gd x4 (gd x2 d42)) + (1 : Int)))) (QV.add rfl rfl) rfl rfl rfl ?_
      obtain ⟨h52, hm⟩ := guard_inv hm
      refine JL.val (v := .pointer (some (elA (z9.v) (Int.toNat (IntKind.wrap .i64 ((gd x4 (gd x2 d42)) + (1 : Int))) * ((Enc.int .i64)).sz)))) (QV.indexA (Rdg.of 2 rfl) Try.underlying94 tk_3 rfl rfl h52) rfl rfl rfl ?_
      refine JL.val (v := .int .i64 (gd d41 (IntKind.wrap .i64 ((gd x4 (gd x2 d42)) + (1 : Int))))) (QV.el1 (Rdg.of 2 rfl) tk_3 rfl h52 rfl) rfl rfl rfl ?_
      refine JL.val (v := .int .i64 (IntKind.wrap .i64 ((gd d41 (IntKind.wrap .i64 ((gd x4 (gd x2 d42)) + (1 : Int)))) + (1 : Int)))) (QV.add rfl rfl) rfl rfl rfl ?_
      refine JL.val (v := .pointer (some (elA (z9.v) (Int.toNat (IntKind.wrap .i64 ((gd x4 (gd x2 d42)) + (1 : Int))) * ((Enc.int .i64)).sz)))) (QV.indexA (Rdg.of 2 rfl) Try.underlying94 tk_3 rfl rfl h52) rfl rfl rfl ?_
      refine JL.mv (d := none) (MV.storeEl 2 (IntKind.wrap .i64 ((gd d41 (IntKind.wrap .i64 ((gd x4 (gd x2 d42)) + (1 : Int)))) + (1 : Int))) rfl tk_3 rfl rfl h52 rfl) rfl rfl rfl ?_
      rintro _ _ ⟨rfl, rfl⟩
      refine JL.nil ?_
      refine QJ.block_normal ?_
      refine QJ.then_normal ?_
      refine JC.region ?_
      refine JL.val (v := .int .i64 (IntKind.wrap .i64 (d42 + (1 : Int)))) (QV.add rfl rfl) rfl rfl rfl ?_
      refine JL.val (v := .int .i64 (IntKind.wrap .i64 (d42 + (1 : Int)))) (QV.move rfl) rfl rfl rfl ?_
      refine JL.nil ?_
      obtain rfl := Option.some.inj hm
      exact QJ.round_on ((List.set d41 (Int.toNat (IntKind.wrap .i64 ((gd x4 (gd x2 d42)) + (1 : Int)))) (IntKind.wrap .i64 ((gd d41 (IntKind.wrap .i64 ((gd x4 (gd x2 d42)) + (1 : Int)))) + (1 : Int)))), (IntKind.wrap .i64 (d42 + (1 : Int)))) () [0, 1, 2] (by exact ⟨rfl, rfl, rfl, rfl, rfl, rfl, rfl, trivial⟩) rfl rfl
    ·
      refine JC.condF' rfl (decide_eq_false h49) ?_
      refine JC.exit ?_
      refine QJ.then_exit ?_
      obtain rfl := Option.some.inj hm
      refine QJ.round_exit (fun hy => ?_)
      subst hy
      refine QJ.block_hit ?_
      exact QJ.cut_normal (d41, ()) hmo47 [0, 1, 2] (by exact ⟨rfl, rfl, rfl, rfl, trivial⟩) rfl rfl

/-! ### 74: drogher/suffix.second -/
noncomputable def F74.m (x2 : List Int) (x3 : Int) (x4 : Int) : Option Int :=
  (if ((x2).length : Int) ≤ (IntKind.wrap .i64 (x3 + x4)) then some (0 : Int) else (if 0 ≤ (IntKind.wrap .i64 (x3 + x4)) ∧ (IntKind.wrap .i64 (x3 + x4)) < ((x2).length : Int) then some (IntKind.wrap .i64 ((gd x2 (IntKind.wrap .i64 (x3 + x4))) + (1 : Int))) else none))
set_option maxRecDepth 100000 in
set_option maxHeartbeats 4000000 in
theorem F74.spec (s1 : SlV) (x2 : List Int) (x3 : Int) (x4 : Int) (r : Int) (hm : F74.m x2 x3 x4 = some r) :
    Ctr Try.prog false 74 [s1.v, .int .i64 x3, .int .i64 x4] [Asr.vw (Enc.int .i64) (s1.v) x2] (fun v L' => v = .int .i64 r ∧ L' = []) := by
  refine Ctr.intro (n := 20) (env := [(0, s1.v), (1, .int .i64 x3), (2, .int .i64 x4)]) Try.func74 rfl rfl rfl rfl (fun c => ?_)
  unfold F74.m at hm
  refine JC.seq ?_
  refine JC.region ?_
  refine JL.val (v := .int .i64 (0 : Int)) (QV.assign rfl) rfl rfl rfl ?_
  refine JL.nil ?_
  refine QJ.then_normal ?_
  refine JC.seq ?_
  refine JC.seq ?_
  refine JC.region ?_
  refine JL.val (v := .int .i64 x3) (QV.move rfl) rfl rfl rfl ?_
  refine JL.val (v := .int .i64 x4) (QV.move rfl) rfl rfl rfl ?_
  refine JL.val (v := .int .i64 (IntKind.wrap .i64 (x3 + x4))) (QV.add rfl rfl) rfl rfl rfl ?_
  refine JL.val (v := s1.v) (QV.move rfl) rfl rfl rfl ?_
  refine JL.val (v := .int .i64 ((x2).length : Int)) (QV.len (Rdg.vw 0 rfl) Try.underlying94 rfl) rfl rfl rfl ?_
  refine JL.val (v := .bool (decide (((x2).length : Int) ≤ (IntKind.wrap .i64 (x3 + x4))))) (QV.geq rfl rfl) rfl rfl rfl ?_
  refine JL.nil ?_
  refine QJ.then_normal ?_
  rcases ite_inv hm with ⟨h6, hm⟩ | ⟨h6, hm⟩
  ·
    refine JC.condT' rfl (decide_eq_true h6) ?_
    refine JC.seq ?_
    refine JC.region ?_
    refine JL.val (v := .int .i64 (0 : Int)) (QV.assign rfl) rfl rfl rfl ?_
    refine JL.nil ?_
    refine QJ.then_normal ?_
    refine JC.ret ?_
    refine QJ.then_ret ?_
    obtain rfl := Option.some.inj hm
    exact QJ.body (vs := [.int .i64 (0 : Int)]) (.inl rfl) rfl (ResVs.cons (ResV.tmp rfl) ResVs.nil) [] rfl rfl (.inr trivial) ⟨rfl, rfl⟩
  ·
    refine JC.condF' rfl (decide_eq_false h6) ?_
    refine JC.skip ?_
    refine QJ.then_normal ?_
    refine JC.seq ?_
    refine JC.region ?_
    refine JL.val (v := s1.v) (QV.move rfl) rfl rfl rfl ?_
    refine JL.val (v := .int .i64 x3) (QV.move rfl) rfl rfl rfl ?_
    refine JL.val (v := .int .i64 x4) (QV.move rfl) rfl rfl rfl ?_
    refine JL.val (v := .int .i64 (IntKind.wrap .i64 (x3 + x4))) (QV.add rfl rfl) rfl rfl rfl ?_
    obtain ⟨h7, hm⟩ := guard_inv hm
    refine JL.val (v := .pointer (some (elA (s1.v) (Int.toNat (IntKind.wrap .i64 (x3 + x4)) * ((Enc.int .i64)).sz)))) (QV.indexA (Rdg.vw 0 rfl) Try.underlying94 tk_3 rfl rfl h7) rfl rfl rfl ?_
    refine JL.val (v := .int .i64 (gd x2 (IntKind.wrap .i64 (x3 + x4)))) (QV.el1 (Rdg.vw 0 rfl) tk_3 rfl h7 rfl) rfl rfl rfl ?_
    refine JL.val (v := .int .i64 (IntKind.wrap .i64 ((gd x2 (IntKind.wrap .i64 (x3 + x4))) + (1 : Int)))) (QV.add rfl rfl) rfl rfl rfl ?_
    refine JL.val (v := .int .i64 (IntKind.wrap .i64 ((gd x2 (IntKind.wrap .i64 (x3 + x4))) + (1 : Int)))) (QV.assign rfl) rfl rfl rfl ?_
    refine JL.nil ?_
    refine QJ.then_normal ?_
    refine JC.ret ?_
    obtain rfl := Option.some.inj hm
    exact QJ.body (vs := [.int .i64 (IntKind.wrap .i64 ((gd x2 (IntKind.wrap .i64 (x3 + x4))) + (1 : Int)))]) (.inl rfl) rfl (ResVs.cons (ResV.tmp rfl) ResVs.nil) [] rfl rfl (.inr trivial) ⟨rfl, rfl⟩

/-! ### 72: drogher/suffix.ranked -/
noncomputable def F72.j1  (d11 : List Int) (d12 : Int) : Option (List Int × Int) :=
  some (d11, (IntKind.wrap .i64 (d12 + (1 : Int))))
noncomputable def F72.j2 (x2 : List Int) (d13 : List Int) (d15 : Int) (d25 : Int) : Option ((List Int × Int × Int) ⊕ (List Int × Int)) :=
  (if 0 ≤ (gd x2 d15) ∧ (gd x2 d15) < ((d13).length : Int) then some (.inl ((List.set d13 (Int.toNat (gd x2 d15)) d25), d25, (IntKind.wrap .i64 (d15 + (1 : Int))))) else none)
noncomputable def F72.j3 (x2 : List Int) (d13 : List Int) (d15 : Int) (d36 : Int) : Option ((List Int × Int × Int) ⊕ (List Int × Int)) :=
  F72.j2 x2 d13 d15 (d36)
noncomputable def F72.b1 (x2 : List Int) (x4 : List Int) (x5 : Int) : (List Int × Int × Int) → Option ((List Int × Int × Int) ⊕ (List Int × Int))
  | (d13, d14, d15) => (if d15 < ((x2).length : Int) then (if 0 ≤ d15 ∧ d15 < ((x2).length : Int) then (if (0 : Int) < d15 then (if 0 ≤ (IntKind.wrap .i64 (d15 - (1 : Int))) ∧ (IntKind.wrap .i64 (d15 - (1 : Int))) < ((x2).length : Int) then (if 0 ≤ (gd x2 d15) ∧ (gd x2 d15) < ((x4).length : Int) then (if 0 ≤ (gd x2 (IntKind.wrap .i64 (d15 - (1 : Int)))) ∧ (gd x2 (IntKind.wrap .i64 (d15 - (1 : Int)))) < ((x4).length : Int) then (if (gd x4 (gd x2 d15)) = (gd x4 (gd x2 (IntKind.wrap .i64 (d15 - (1 : Int))))) then ((F74.m (x4) ((gd x2 d15)) (x5)).bind fun y32 => ((F74.m (x4) ((gd x2 (IntKind.wrap .i64 (d15 - (1 : Int))))) (x5)).bind fun y34 => (if y32 = y34 then F72.j3 x2 d13 d15 (d14) else F72.j3 x2 d13 d15 ((IntKind.wrap .i64 (d14 + (1 : Int))))))) else F72.j2 x2 d13 d15 ((IntKind.wrap .i64 (d14 + (1 : Int))))) else none) else none) else none) else F72.j2 x2 d13 d15 (d14)) else none) else some (.inr (d13, d14)))
noncomputable def F72.m (x2 : List Int) (x4 : List Int) (x5 : Int) : Option (List Int × Int) :=
  (if 0 ≤ ((x4).length : Int) ∧ ((x4).length : Int) * 8 ≤ 281474976710656 ∧ ((x4).length : Int) ≤ 9223372036854775807 then ((loop (F72.b1 x2 x4 x5) ((List.replicate (Int.toNat ((x4).length : Int)) (0 : Int)), (0 : Int), (0 : Int))).bind fun y => match y with | (d11, d12) => F72.j1 (d11) (d12)) else none)
set_option maxRecDepth 100000 in
set_option maxHeartbeats 4000000 in
theorem F72.spec (s1 : SlV) (s3 : SlV) (x2 : List Int) (x4 : List Int) (x5 : Int) (r : (List Int × Int)) (hm : F72.m x2 x4 x5 = some r) :
    Ctr Try.prog false 72 [s1.v, s3.v, .int .i64 x5] [Asr.vw (Enc.int .i64) (s1.v) x2, Asr.vw (Enc.int .i64) (s3.v) x4] (fun v L' => ∃ (g6 : SlV), v = .tuple #[g6.v, .int .i64 r.2] ∧ L' = [Asr.of 3 (Enc.int .i64) (g6.v) r.1]) := by
  refine Ctr.intro (n := 60) (env := [(0, s1.v), (1, s3.v), (2, .int .i64 x5)]) Try.func72 rfl rfl rfl rfl (fun c => ?_)
  unfold F72.m at hm
  refine JC.seq ?_
  refine JC.region ?_
  refine JL.ent (fun _ hs => hs.nil 3 (Enc.int .i64)) ?_
  refine JL.val (v := SlV.nil.v) (QV.assign rfl) rfl rfl rfl ?_
  refine JL.val (v := .int .i64 (0 : Int)) (QV.assign rfl) rfl rfl rfl ?_
  refine JL.nil ?_
  refine QJ.then_normal ?_
  refine JC.seq ?_
  refine JC.region ?_
  refine JL.val (v := s3.v) (QV.move rfl) rfl rfl rfl ?_
  refine JL.val (v := .int .i64 ((x4).length : Int)) (QV.len (Rdg.vw 2 rfl) Try.underlying94 rfl) rfl rfl rfl ?_
  obtain ⟨h9, hm⟩ := guard_inv hm
  refine JL.mv (d := some 15) (MV.make (E := (Enc.int .i64)) (0 : Int) Try.underlying94 zi_3 (by decide) rfl rfl rfl h9) rfl rfl rfl ?_
  rintro _ _ ⟨z10, rfl, rfl⟩
  refine JL.val (v := z10.v) (QV.assign rfl) rfl rfl rfl ?_
  refine JL.nil ?_
  refine QJ.then_normal ?_
  refine JC.seq ?_
  refine JC.region ?_
  refine JL.val (v := .int .i64 (0 : Int)) (QV.assign rfl) rfl rfl rfl ?_
  refine JL.nil ?_
  refine QJ.then_normal ?_
  refine JC.seq ?_
  refine JC.seq ?_
  refine JC.region ?_
  refine JL.val (v := s1.v) (QV.move rfl) rfl rfl rfl ?_
  refine JL.val (v := .int .i64 ((x2).length : Int)) (QV.len (Rdg.vw 2 rfl) Try.underlying94 rfl) rfl rfl rfl ?_
  refine JL.val (v := .int .i64 (0 : Int)) (QV.move rfl) rfl rfl rfl ?_
  refine JL.nil ?_
  refine QJ.then_normal ?_
  refine JC.cutK (Y := (List Int × Int) × Unit) (fun y => match y with | ((d11, d12), _) => F72.j1 (d11) (d12) = some r) (fun y => match y with | ((d11, d12), _) => [(8, z10.v), (9, .int .i64 d12)]) (fun y => match y with | ((d11, d12), _) => [Asr.of 3 (Enc.int .i64) (z10.v) d11]) ?_ ?_
  ·
    rintro ⟨⟨d11, d12⟩, ⟨⟩⟩ hm
    unfold F72.j1 at hm
    show QJ _ _ [(8, z10.v), (9, .int .i64 d12)] [Asr.of 3 (Enc.int .i64) (z10.v) d11] _ _
    refine QJ.then_normal ?_
    refine JC.seq ?_
    refine JC.region ?_
    refine JL.val (v := z10.v) (QV.move rfl) rfl rfl rfl ?_
    refine JL.val (v := .int .i64 d12) (QV.move rfl) rfl rfl rfl ?_
    refine JL.val (v := .int .i64 (IntKind.wrap .i64 (d12 + (1 : Int)))) (QV.add rfl rfl) rfl rfl rfl ?_
    refine JL.val (v := z10.v) (QV.assign rfl) rfl rfl rfl ?_
    refine JL.val (v := .int .i64 (IntKind.wrap .i64 (d12 + (1 : Int)))) (QV.assign rfl) rfl rfl rfl ?_
    refine JL.nil ?_
    refine QJ.then_normal ?_
    refine JC.ret ?_
    obtain rfl := Option.some.inj hm
    exact QJ.body (vs := [z10.v, .int .i64 (IntKind.wrap .i64 (d12 + (1 : Int)))]) (.inl rfl) rfl (ResVs.cons (ResV.tmp rfl) (ResVs.cons (ResV.tmp rfl) ResVs.nil)) [0] rfl rfl (.inr ⟨own_of _ _ _ _, trivial⟩) ⟨z10, rfl, rfl⟩
  ·
    refine JC.block ?_
    obtain ⟨y19, hl20, hmo21⟩ := bind_inv hm
    refine JC.loop (F72.b1 x2 x4 x5) (fun x z => match x, z with | (d13, d14, d15), _ => [(0, s1.v), (1, s3.v), (2, .int .i64 x5), (8, z10.v), (9, .int .i64 d14), (16, s1.v), (17, .int .i64 ((x2).length : Int)), (18, .int .i64 d15)]) (fun x z => match x, z with | (d13, d14, d15), _ => [Asr.vw (Enc.int .i64) (s1.v) x2, Asr.vw (Enc.int .i64) (s3.v) x4, Asr.of 3 (Enc.int .i64) (z10.v) d13]) ((List.replicate (Int.toNat ((x4).length : Int)) (0 : Int)), (0 : Int), (0 : Int)) () y19 hl20 [2, 3, 0] (by exact ⟨rfl, rfl, rfl, rfl, rfl, rfl, rfl, rfl, trivial⟩) rfl rfl ?_
    rintro ⟨d13, d14, d15⟩ ⟨⟩ s22 hm
    unfold F72.b1 at hm
    dsimp only at hm
    show JC _ _ _ [(0, s1.v), (1, s3.v), (2, .int .i64 x5), (8, z10.v), (9, .int .i64 d14), (16, s1.v), (17, .int .i64 ((x2).length : Int)), (18, .int .i64 d15)] [Asr.vw (Enc.int .i64) (s1.v) x2, Asr.vw (Enc.int .i64) (s3.v) x4, Asr.of 3 (Enc.int .i64) (z10.v) d13] _ _
    refine JC.seq ?_
    refine JC.region ?_
    refine JL.val (v := .bool (decide (d15 < ((x2).length : Int)))) (QV.lss rfl rfl) rfl rfl rfl ?_
    refine JL.nil ?_
    refine QJ.then_normal ?_
    refine JC.seq ?_
    rcases ite_inv hm with ⟨h23, hm⟩ | ⟨h23, hm⟩
    ·
      refine JC.condT' rfl (decide_eq_true h23) ?_
      refine JC.skip ?_
      refine QJ.then_normal ?_
      refine JC.seq ?_
      refine JC.block ?_
      refine JC.seq ?_
      refine JC.region ?_
      refine JL.val (v := .int .i64 d15) (QV.move rfl) rfl rfl rfl ?_
      obtain ⟨h24, hm⟩ := guard_inv hm
      refine JL.val (v := .pointer (some (elA (s1.v) (Int.toNat d15 * ((Enc.int .i64)).sz)))) (QV.indexA (Rdg.vw 0 rfl) Try.underlying94 tk_3 rfl rfl h24) rfl rfl rfl ?_
      refine JL.val (v := .int .i64 (gd x2 d15)) (QV.el1 (Rdg.vw 0 rfl) tk_3 rfl h24 rfl) rfl rfl rfl ?_
      refine JL.val (v := .int .i64 d15) (QV.assign rfl) rfl rfl rfl ?_
      refine JL.val (v := .int .i64 (gd x2 d15)) (QV.assign rfl) rfl rfl rfl ?_
      refine JL.nil ?_
      refine QJ.then_normal ?_
      refine JC.seq ?_
      refine JC.seq ?_
      refine JC.region ?_
      refine JL.val (v := .int .i64 d15) (QV.move rfl) rfl rfl rfl ?_
      refine JL.val (v := .bool (decide ((0 : Int) < d15))) (QV.gtr rfl rfl) rfl rfl rfl ?_
      refine JL.nil ?_
      refine QJ.then_normal ?_
      refine JC.cutK (Y := Int × Unit) (fun y => match y with | (d25, _) => F72.j2 x2 d13 d15 (d25) = some s22) (fun y => match y with | (d25, _) => [(0, s1.v), (1, s3.v), (2, .int .i64 x5), (8, z10.v), (9, .int .i64 d25), (11, .int .i64 (gd x2 d15)), (16, s1.v), (17, .int .i64 ((x2).length : Int)), (18, .int .i64 d15)]) (fun y => match y with | (d25, _) => [Asr.vw (Enc.int .i64) (s1.v) x2, Asr.vw (Enc.int .i64) (s3.v) x4, Asr.of 3 (Enc.int .i64) (z10.v) d13]) ?_ ?_
      ·
        rintro ⟨d25, ⟨⟩⟩ hm
        unfold F72.j2 at hm
        show QJ _ _ [(0, s1.v), (1, s3.v), (2, .int .i64 x5), (8, z10.v), (9, .int .i64 d25), (11, .int .i64 (gd x2 d15)), (16, s1.v), (17, .int .i64 ((x2).length : Int)), (18, .int .i64 d15)] [Asr.vw (Enc.int .i64) (s1.v) x2, Asr.vw (Enc.int .i64) (s3.v) x4, Asr.of 3 (Enc.int .i64) (z10.v) d13] _ _
        refine QJ.then_normal ?_
        refine JC.region ?_
        refine JL.val (v := z10.v) (QV.move rfl) rfl rfl rfl ?_
        refine JL.val (v := .int .i64 (gd x2 d15)) (QV.move rfl) rfl rfl rfl ?_
        refine JL.val (v := .int .i64 d25) (QV.move rfl) rfl rfl rfl ?_
        obtain ⟨h26, hm⟩ := guard_inv hm
        refine JL.val (v := .pointer (some (elA (z10.v) (Int.toNat (gd x2 d15) * ((Enc.int .i64)).sz)))) (QV.indexA (Rdg.of 2 rfl) Try.underlying94 tk_3 rfl rfl h26) rfl rfl rfl ?_
        refine JL.mv (d := none) (MV.storeEl 2 d25 rfl tk_3 rfl rfl h26 rfl) rfl rfl rfl ?_
        rintro _ _ ⟨rfl, rfl⟩
        refine JL.nil ?_
        refine QJ.block_normal ?_
        refine QJ.then_normal ?_
        refine JC.region ?_
        refine JL.val (v := .int .i64 (IntKind.wrap .i64 (d15 + (1 : Int)))) (QV.add rfl rfl) rfl rfl rfl ?_
        refine JL.val (v := .int .i64 (IntKind.wrap .i64 (d15 + (1 : Int)))) (QV.move rfl) rfl rfl rfl ?_
        refine JL.nil ?_
        obtain rfl := Option.some.inj hm
        exact QJ.round_on ((List.set d13 (Int.toNat (gd x2 d15)) d25), d25, (IntKind.wrap .i64 (d15 + (1 : Int)))) () [0, 1, 2] (by exact ⟨rfl, rfl, rfl, rfl, rfl, rfl, rfl, rfl, trivial⟩) rfl rfl
      ·
        rcases ite_inv hm with ⟨h27, hm⟩ | ⟨h27, hm⟩
        ·
          refine JC.condT' rfl (decide_eq_true h27) ?_
          refine JC.seq ?_
          refine JC.region ?_
          refine JL.val (v := s1.v) (QV.move rfl) rfl rfl rfl ?_
          refine JL.val (v := .int .i64 d15) (QV.move rfl) rfl rfl rfl ?_
          refine JL.val (v := .int .i64 (IntKind.wrap .i64 (d15 - (1 : Int)))) (QV.sub rfl rfl) rfl rfl rfl ?_
          obtain ⟨h28, hm⟩ := guard_inv hm
          refine JL.val (v := .pointer (some (elA (s1.v) (Int.toNat (IntKind.wrap .i64 (d15 - (1 : Int))) * ((Enc.int .i64)).sz)))) (QV.indexA (Rdg.vw 0 rfl) Try.underlying94 tk_3 rfl rfl h28) rfl rfl rfl ?_
          refine JL.val (v := .int .i64 (gd x2 (IntKind.wrap .i64 (d15 - (1 : Int))))) (QV.el1 (Rdg.vw 0 rfl) tk_3 rfl h28 rfl) rfl rfl rfl ?_
          refine JL.val (v := .int .i64 (gd x2 (IntKind.wrap .i64 (d15 - (1 : Int))))) (QV.assign rfl) rfl rfl rfl ?_
          refine JL.nil ?_
          refine QJ.then_normal ?_
          refine JC.seq ?_
          refine JC.regionT [Asr.vw (Enc.int .i64) (s1.v) x2, Asr.vw (Enc.int .i64) (s3.v) x4, Asr.of 3 (Enc.int .i64) (z10.v) d13] (fun t => false) [(0, true), (1, true), (2, true), (3, true), (4, true), (5, false), (6, false), (7, false), (8, false), (9, false), (10, true), (11, true), (12, true), (14, true), (15, true), (16, true), (13, false), (17, false), (18, false), (19, false)] (by kernel_rfl) (by kernel_rfl) (by kernel_rfl) rfl (fun hsel => ?_)
          refine JT.take (i := 0) (v := s3.v) hsel rfl (QV.move rfl) rfl rfl rfl [0, 1, 2] rfl rfl ?_
          refine JT.take (i := 1) (v := .int .i64 (gd x2 d15)) hsel rfl (QV.move rfl) rfl rfl rfl [0, 1, 2] rfl rfl ?_
          obtain ⟨h29, hm⟩ := guard_inv hm
          refine JT.take (i := 2) (v := .pointer (some (elA (s3.v) (Int.toNat (gd x2 d15) * ((Enc.int .i64)).sz)))) hsel rfl (QV.indexA (Rdg.vw 1 rfl) Try.underlying94 tk_3 rfl rfl h29) rfl rfl rfl [0, 1, 2] rfl rfl ?_
          refine JT.take (i := 3) (v := .int .i64 (gd x4 (gd x2 d15))) hsel rfl (QV.el1 (Rdg.vw 1 rfl) tk_3 rfl h29 rfl) rfl rfl rfl [0, 1, 2] rfl rfl ?_
          refine JT.take (i := 4) (v := s3.v) hsel rfl (QV.move rfl) rfl rfl rfl [0, 1, 2] rfl rfl ?_
          refine JT.only (i := 5) (d := some 35) rfl (MV.ofQV (v := .int .i64 (gd x2 (IntKind.wrap .i64 (d15 - (1 : Int))))) (QV.move rfl)) rfl rfl rfl ?_
          rintro _ _ ⟨rfl, rfl⟩
          refine ⟨fun _ => ⟨[0, 1, 2], rfl, rfl⟩, ?_⟩
          obtain ⟨h30, hm⟩ := guard_inv hm
          refine JT.only (i := 6) (d := some 36) rfl (MV.ofQV (v := .pointer (some (elA (s3.v) (Int.toNat (gd x2 (IntKind.wrap .i64 (d15 - (1 : Int)))) * ((Enc.int .i64)).sz)))) (QV.indexA (Rdg.vw 1 rfl) Try.underlying94 tk_3 rfl rfl h30)) rfl rfl rfl ?_
          rintro _ _ ⟨rfl, rfl⟩
          refine ⟨fun _ => ⟨[0, 1, 2], rfl, rfl⟩, ?_⟩
          refine JT.only (i := 7) (d := some 37) rfl (MV.ofQV (v := .int .i64 (gd x4 (gd x2 (IntKind.wrap .i64 (d15 - (1 : Int)))))) (QV.el1 (Rdg.vw 1 rfl) tk_3 rfl h30 rfl)) rfl rfl rfl ?_
          rintro _ _ ⟨rfl, rfl⟩
          refine ⟨fun _ => ⟨[0, 1, 2], rfl, rfl⟩, ?_⟩
          refine JT.only (i := 8) (d := some 38) rfl (MV.ofQV (v := .bool (!(decide ((gd x4 (gd x2 d15)) = (gd x4 (gd x2 (IntKind.wrap .i64 (d15 - (1 : Int))))))))) (QV.neq rfl rfl)) rfl rfl rfl ?_
          rintro _ _ ⟨rfl, rfl⟩
          refine ⟨fun _ => ⟨[0, 1, 2], rfl, rfl⟩, ?_⟩
          rcases ite_inv hm with ⟨h31, hm⟩ | ⟨h31, hm⟩
          ·
            refine JT.only (i := 9) (d := some 39) rfl (MV.ofQV (v := .bool false) (QV.eq (QV.move rfl) (congrArg Value.bool (congrArg Bool.not (decide_eq_true h31))))) rfl rfl rfl ?_
            rintro _ _ ⟨rfl, rfl⟩
            refine ⟨fun _ => ⟨[0, 1, 2], rfl, rfl⟩, ?_⟩
            refine JT.take (i := 10) (v := s3.v) hsel rfl (QV.move rfl) rfl rfl rfl [0, 1, 2] rfl rfl ?_
            refine JT.take (i := 11) (v := .int .i64 (gd x2 d15)) hsel rfl (QV.move rfl) rfl rfl rfl [0, 1, 2] rfl rfl ?_
            refine JT.take (i := 12) (v := .int .i64 x5) hsel rfl (QV.move rfl) rfl rfl rfl [0, 1, 2] rfl rfl ?_
            refine JT.take (i := 14) (v := s3.v) hsel rfl (QV.move rfl) rfl rfl rfl [0, 1, 2] rfl rfl ?_
            refine JT.take (i := 15) (v := .int .i64 (gd x2 (IntKind.wrap .i64 (d15 - (1 : Int))))) hsel rfl (QV.move rfl) rfl rfl rfl [0, 1, 2] rfl rfl ?_
            refine JT.take (i := 16) (v := .int .i64 x5) hsel rfl (QV.move rfl) rfl rfl rfl [0, 1, 2] rfl rfl ?_
            obtain ⟨y32, hc33, hm⟩ := bind_inv hm
            refine JT.only (i := 13) (d := some 43) rfl (MV.call (Lo := []) (Lr := [Asr.vw (Enc.int .i64) (s1.v) x2, Asr.vw (Enc.int .i64) (s3.v) x4, Asr.of 3 (Enc.int .i64) (z10.v) d13]) (F74.spec (s3) (x4) ((gd x2 d15)) (x5) _ hc33) rfl Try.func74 rfl rfl rfl [] [0, 1, 2] rfl rfl rfl ⟨(Drv.vw 1 rfl), trivial⟩) rfl rfl rfl ?_
            rintro _ _ ⟨_, ⟨rfl, rfl⟩, rfl⟩
            refine ⟨fun _ => ⟨[0, 1, 2], rfl, rfl⟩, ?_⟩
            obtain ⟨y34, hc35, hm⟩ := bind_inv hm
            refine JT.only (i := 17) (d := some 47) rfl (MV.call (Lo := []) (Lr := [Asr.vw (Enc.int .i64) (s1.v) x2, Asr.vw (Enc.int .i64) (s3.v) x4, Asr.of 3 (Enc.int .i64) (z10.v) d13]) (F74.spec (s3) (x4) ((gd x2 (IntKind.wrap .i64 (d15 - (1 : Int))))) (x5) _ hc35) rfl Try.func74 rfl rfl rfl [] [0, 1, 2] rfl rfl rfl ⟨(Drv.vw 1 rfl), trivial⟩) rfl rfl rfl ?_
            rintro _ _ ⟨_, ⟨rfl, rfl⟩, rfl⟩
            refine ⟨fun _ => ⟨[0, 1, 2], rfl, rfl⟩, ?_⟩
            refine JT.only (i := 18) (d := some 48) rfl (MV.ofQV (v := .bool (!(decide (y32 = y34)))) (QV.neq rfl rfl)) rfl rfl rfl ?_
            rintro _ _ ⟨rfl, rfl⟩
            refine ⟨fun _ => ⟨[0, 1, 2], rfl, rfl⟩, ?_⟩
            refine JT.only (i := 19) (d := some 49) rfl (MV.ofQV (v := .bool (!(decide (y32 = y34)))) (QV.pickF rfl rfl)) rfl rfl rfl ?_
            rintro _ _ ⟨rfl, rfl⟩
            refine ⟨fun _ => ⟨[0, 1, 2], rfl, rfl⟩, ?_⟩
            refine JT.nil ?_
            refine QJ.then_normal ?_
            refine JC.cutK (Y := Int × Unit) (fun y => match y with | (d36, _) => F72.j3 x2 d13 d15 (d36) = some s22) (fun y => match y with | (d36, _) => [(0, s1.v), (1, s3.v), (2, .int .i64 x5), (8, z10.v), (9, .int .i64 d36), (11, .int .i64 (gd x2 d15)), (16, s1.v), (17, .int .i64 ((x2).length : Int)), (18, .int .i64 d15)]) (fun y => match y with | (d36, _) => [Asr.vw (Enc.int .i64) (s1.v) x2, Asr.vw (Enc.int .i64) (s3.v) x4, Asr.of 3 (Enc.int .i64) (z10.v) d13]) ?_ ?_
            ·
              rintro ⟨d36, ⟨⟩⟩ hm
              unfold F72.j3 at hm
              show QJ _ _ [(0, s1.v), (1, s3.v), (2, .int .i64 x5), (8, z10.v), (9, .int .i64 d36), (11, .int .i64 (gd x2 d15)), (16, s1.v), (17, .int .i64 ((x2).length : Int)), (18, .int .i64 d15)] [Asr.vw (Enc.int .i64) (s1.v) x2, Asr.vw (Enc.int .i64) (s3.v) x4, Asr.of 3 (Enc.int .i64) (z10.v) d13] _ _
              exact QJ.cut_normal (d36, ()) hm [0, 1, 2] (by exact ⟨rfl, rfl, rfl, rfl, rfl, rfl, rfl, rfl, rfl, trivial⟩) rfl rfl
            ·
              rcases ite_inv hm with ⟨h37, hm⟩ | ⟨h37, hm⟩
              ·
                refine JC.condF' rfl (congrArg Bool.not (decide_eq_true h37)) ?_
                refine JC.skip ?_
                exact QJ.cut_normal (d14, ()) hm [0, 1, 2] (by exact ⟨rfl, rfl, rfl, rfl, rfl, rfl, rfl, rfl, rfl, trivial⟩) rfl rfl
              ·
                refine JC.condT' rfl (congrArg Bool.not (decide_eq_false h37)) ?_
                refine JC.region ?_
                refine JL.val (v := .int .i64 d14) (QV.move rfl) rfl rfl rfl ?_
                refine JL.val (v := .int .i64 (IntKind.wrap .i64 (d14 + (1 : Int)))) (QV.add rfl rfl) rfl rfl rfl ?_
                refine JL.val (v := .int .i64 (IntKind.wrap .i64 (d14 + (1 : Int)))) (QV.assign rfl) rfl rfl rfl ?_
                refine JL.nil ?_
                exact QJ.cut_normal ((IntKind.wrap .i64 (d14 + (1 : Int))), ()) hm [0, 1, 2] (by exact ⟨rfl, rfl, rfl, rfl, rfl, rfl, rfl, rfl, rfl, trivial⟩) rfl rfl
          ·
            refine JT.only (i := 9) (d := some 39) rfl (MV.ofQV (v := .bool true) (QV.eq (QV.move rfl) (congrArg Value.bool (congrArg Bool.not (decide_eq_false h31))))) rfl rfl rfl ?_
            rintro _ _ ⟨rfl, rfl⟩
            refine ⟨fun _ => ⟨[0, 1, 2], rfl, rfl⟩, ?_⟩
            refine JT.skip (i := 10) (d := some 40) hsel rfl rfl rfl rfl [0, 1, 2] rfl rfl ?_
            refine JT.skip (i := 11) (d := some 41) hsel rfl rfl rfl rfl [0, 1, 2] rfl rfl ?_
            refine JT.skip (i := 12) (d := some 42) hsel rfl rfl rfl rfl [0, 1, 2] rfl rfl ?_
            refine JT.skip (i := 14) (d := some 44) hsel rfl rfl rfl rfl [0, 1, 2] rfl rfl ?_
            refine JT.skip (i := 15) (d := some 45) hsel rfl rfl rfl rfl [0, 1, 2] rfl rfl ?_
            refine JT.skip (i := 16) (d := some 46) hsel rfl rfl rfl rfl [0, 1, 2] rfl rfl ?_
            refine JT.skipO (i := 13) (d := some 43) rfl rfl rfl rfl [0, 1, 2] rfl rfl ?_
            refine JT.skipO (i := 17) (d := some 47) rfl rfl rfl rfl [0, 1, 2] rfl rfl ?_
            refine JT.skipO (i := 18) (d := some 48) rfl rfl rfl rfl [0, 1, 2] rfl rfl ?_
            refine JT.only (i := 19) (d := some 49) rfl (MV.ofQV (v := .bool true) (QV.pickT rfl rfl)) rfl rfl rfl ?_
            rintro _ _ ⟨rfl, rfl⟩
            refine ⟨fun _ => ⟨[0, 1, 2], rfl, rfl⟩, ?_⟩
            refine JT.nil ?_
            refine QJ.then_normal ?_
            refine JC.condT rfl ?_
            refine JC.region ?_
            refine JL.val (v := .int .i64 d14) (QV.move rfl) rfl rfl rfl ?_
            refine JL.val (v := .int .i64 (IntKind.wrap .i64 (d14 + (1 : Int)))) (QV.add rfl rfl) rfl rfl rfl ?_
            refine JL.val (v := .int .i64 (IntKind.wrap .i64 (d14 + (1 : Int)))) (QV.assign rfl) rfl rfl rfl ?_
            refine JL.nil ?_
            exact QJ.cut_normal ((IntKind.wrap .i64 (d14 + (1 : Int))), ()) hm [0, 1, 2] (by exact ⟨rfl, rfl, rfl, rfl, rfl, rfl, rfl, rfl, rfl, trivial⟩) rfl rfl
        ·
          refine JC.condF' rfl (decide_eq_false h27) ?_
          refine JC.skip ?_
          exact QJ.cut_normal (d14, ()) hm [0, 1, 2] (by exact ⟨rfl, rfl, rfl, rfl, rfl, rfl, rfl, rfl, rfl, trivial⟩) rfl rfl
    ·
      refine JC.condF' rfl (decide_eq_false h23) ?_
      refine JC.exit ?_
      refine QJ.then_exit ?_
      obtain rfl := Option.some.inj hm
      refine QJ.round_exit (fun hy => ?_)
      subst hy
      refine QJ.block_hit ?_
      exact QJ.cut_normal ((d13, d14), ()) hmo21 [2] (by exact ⟨rfl, rfl, trivial⟩) rfl rfl

/-! ### 65: drogher/suffix.array -/
noncomputable def F65.j3  (d16 : List Int) : Option (List Int) :=
  some d16
noncomputable def F65.j4 (d22 : Int) (d35 : List Int) (d37 : List Int) (d38 : Int) : Option ((List Int × List Int × Int × Int) ⊕ (List Int)) :=
  some (.inl (d35, d37, d38, (IntKind.wrap .i64 (d22 * (2 : Int)))))
noncomputable def F65.j6 (x2 : List Int) (d20 : List Int) (d21 : Int) (d22 : Int) (d42 : List Int) : Option ((List Int × List Int × Int × Int) ⊕ (List Int)) :=
  ((F71.m (d42) (d20) (d21)).bind fun y43 => ((F72.m (y43) (d20) (d22)).bind fun y46 => (if y46.2 = ((x2).length : Int) then some (.inr y43) else F65.j4 d22 (y43) (y46.1) (y46.2))))
noncomputable def F65.j7 (d52 : Int) (d63 : List Int) : Option ((List Int × Int) ⊕ (List Int)) :=
  some (.inl (d63, (IntKind.wrap .i64 (d52 + (1 : Int)))))
noncomputable def F65.b2 (d18 : List Int) (d22 : Int) : (List Int × Int) → Option ((List Int × Int) ⊕ (List Int))
  | (d51, d52) => (if d52 < ((d18).length : Int) then (if 0 ≤ d52 ∧ d52 < ((d18).length : Int) then (if d22 ≤ (gd d18 d52) then (if ((d51).length + ([(IntKind.wrap .i64 ((gd d18 d52) - d22))]).length) * 8 ≤ 140737488355328 ∧ (d51).length + ([(IntKind.wrap .i64 ((gd d18 d52) - d22))]).length ≤ 9223372036854775807 then F65.j7 d52 ((d51 ++ [(IntKind.wrap .i64 ((gd d18 d52) - d22))])) else none) else F65.j7 d52 (d51)) else none) else some (.inr d51))
noncomputable def F65.j5 (x2 : List Int) (d18 : List Int) (d20 : List Int) (d21 : Int) (d22 : Int) (d40 : List Int) : Option ((List Int × List Int × Int × Int) ⊕ (List Int)) :=
  ((loop (F65.b2 d18 d22) (d40, (0 : Int))).bind fun y => match y with | d42 => F65.j6 x2 d20 d21 d22 (d42))
noncomputable def F65.b3 (x2 : List Int) : (List Int × Int) → Option ((List Int × Int) ⊕ (List Int))
  | (d69, d70) => (if d70 < ((x2).length : Int) then (if ((d69).length + ([d70]).length) * 8 ≤ 140737488355328 ∧ (d69).length + ([d70]).length ≤ 9223372036854775807 then some (.inl ((d69 ++ [d70]), (IntKind.wrap .i64 (d70 + (1 : Int))))) else none) else some (.inr d69))
noncomputable def F65.b1 (x2 : List Int) : (List Int × List Int × Int × Int) → Option ((List Int × List Int × Int × Int) ⊕ (List Int))
  | (d18, d20, d21, d22) => (if d22 < ((x2).length : Int) then ((loop (F65.b3 x2) (([] : List Int), (maxI (0 : Int) (IntKind.wrap .i64 (((x2).length : Int) - d22))))).bind fun y => match y with | d40 => F65.j5 x2 d18 d20 d21 d22 (d40)) else some (.inr d18))
noncomputable def F65.j2 (x2 : List Int) (d10 : List Int) (d11 : List Int) : Option (List Int) :=
  ((F71.m (d10) (d11) ((256 : Int))).bind fun y12 => ((loop (F65.b1 x2) (y12, d11, (256 : Int), (1 : Int))).bind fun y => match y with | d16 => F65.j3 (d16)))
noncomputable def F65.b4 (x2 : List Int) : (List Int × List Int × Int) → Option ((List Int × List Int × Int) ⊕ (List Int × List Int))
  | (d82, d83, d84) => (if d84 < ((x2).length : Int) then (if 0 ≤ d84 ∧ d84 < ((x2).length : Int) then (if 0 ≤ d84 ∧ d84 < ((d82).length : Int) then (if 0 ≤ d84 ∧ d84 < ((d83).length : Int) then some (.inl ((List.set d82 (Int.toNat d84) d84), (List.set d83 (Int.toNat d84) (IntKind.wrap .i64 (gd x2 d84))), (IntKind.wrap .i64 (d84 + (1 : Int))))) else none) else none) else none) else some (.inr (d82, d83)))
noncomputable def F65.j1 (x2 : List Int)  : Option (List Int) :=
  ((loop (F65.b4 x2) ((List.replicate (Int.toNat ((x2).length : Int)) (0 : Int)), (List.replicate (Int.toNat ((x2).length : Int)) (0 : Int)), (0 : Int))).bind fun y => match y with | (d10, d11) => F65.j2 x2 (d10) (d11))
noncomputable def F65.m (x2 : List Int) : Option (List Int) :=
  (if 0 ≤ ((x2).length : Int) ∧ ((x2).length : Int) * 8 ≤ 281474976710656 ∧ ((x2).length : Int) ≤ 9223372036854775807 then F65.j1 x2 else none)
set_option maxRecDepth 100000 in
set_option maxHeartbeats 4000000 in
theorem F65.spec (s1 : SlV) (x2 : List Int) (r : (List Int)) (hm : F65.m x2 = some r) :
    Ctr Try.prog false 65 [s1.v] [Asr.vw (Enc.int .u8) (s1.v) x2] (fun v L' => ∃ (g3 : SlV), v = g3.v ∧ L' = [Asr.of 3 (Enc.int .i64) (g3.v) r]) := by
  refine Ctr.intro (n := 90) (env := [(0, s1.v)]) Try.func65 rfl rfl rfl rfl (fun c => ?_)
  unfold F65.m at hm
  refine JC.seq ?_
  refine JC.region ?_
  refine JL.ent (fun _ hs => hs.nil 3 (Enc.int .i64)) ?_
  refine JL.val (v := SlV.nil.v) (QV.assign rfl) rfl rfl rfl ?_
  refine JL.nil ?_
  refine QJ.then_normal ?_
  refine JC.seq ?_
  refine JC.region ?_
  refine JL.val (v := s1.v) (QV.move rfl) rfl rfl rfl ?_
  refine JL.val (v := .int .i64 ((x2).length : Int)) (QV.len (Rdg.vw 1 rfl) Try.underlying23 rfl) rfl rfl rfl ?_
  refine JL.val (v := .int .i64 ((x2).length : Int)) (QV.assign rfl) rfl rfl rfl ?_
  refine JL.nil ?_
  refine QJ.then_normal ?_
  refine JC.seq ?_
  obtain ⟨h5, hm⟩ := guard_inv hm
  refine JC.cutK (Y := Unit × (SlV × SlV)) (fun y => match y with | (_, _) => F65.j1 x2 = some r) (fun y => match y with | (_, (z8, z9)) => [(0, s1.v), (3, .int .i64 ((x2).length : Int)), (4, z8.v), (5, z9.v)]) (fun y => match y with | (_, (z8, z9)) => [Asr.vw (Enc.int .u8) (s1.v) x2, Asr.of 3 (Enc.int .i64) (z8.v) (List.replicate (Int.toNat ((x2).length : Int)) (0 : Int)), Asr.of 3 (Enc.int .i64) (z9.v) (List.replicate (Int.toNat ((x2).length : Int)) (0 : Int))]) ?_ ?_
  ·
    rintro ⟨⟨⟩, ⟨z8, z9⟩⟩ hm
    unfold F65.j1 at hm
    show QJ _ _ [(0, s1.v), (3, .int .i64 ((x2).length : Int)), (4, z8.v), (5, z9.v)] [Asr.vw (Enc.int .u8) (s1.v) x2, Asr.of 3 (Enc.int .i64) (z8.v) (List.replicate (Int.toNat ((x2).length : Int)) (0 : Int)), Asr.of 3 (Enc.int .i64) (z9.v) (List.replicate (Int.toNat ((x2).length : Int)) (0 : Int))] _ _
    refine QJ.then_normal ?_
    refine JC.seq ?_
    refine JC.seq ?_
    refine JC.region ?_
    refine JL.val (v := s1.v) (QV.move rfl) rfl rfl rfl ?_
    refine JL.val (v := .int .i64 ((x2).length : Int)) (QV.len (Rdg.vw 0 rfl) Try.underlying23 rfl) rfl rfl rfl ?_
    refine JL.val (v := .int .i64 (0 : Int)) (QV.move rfl) rfl rfl rfl ?_
    refine JL.nil ?_
    refine QJ.then_normal ?_
    refine JC.cutK (Y := (List Int × List Int) × Unit) (fun y => match y with | ((d10, d11), _) => F65.j2 x2 (d10) (d11) = some r) (fun y => match y with | ((d10, d11), _) => [(3, .int .i64 ((x2).length : Int)), (4, z8.v), (5, z9.v)]) (fun y => match y with | ((d10, d11), _) => [Asr.of 3 (Enc.int .i64) (z8.v) d10, Asr.of 3 (Enc.int .i64) (z9.v) d11]) ?_ ?_
    ·
      rintro ⟨⟨d10, d11⟩, ⟨⟩⟩ hm
      unfold F65.j2 at hm
      show QJ _ _ [(3, .int .i64 ((x2).length : Int)), (4, z8.v), (5, z9.v)] [Asr.of 3 (Enc.int .i64) (z8.v) d10, Asr.of 3 (Enc.int .i64) (z9.v) d11] _ _
      refine QJ.then_normal ?_
      refine JC.seq ?_
      refine JC.region ?_
      refine JL.val (v := .int .i64 (256 : Int)) (QV.assign rfl) rfl rfl rfl ?_
      refine JL.nil ?_
      refine QJ.then_normal ?_
      refine JC.seq ?_
      refine JC.region ?_
      refine JL.val (v := z8.v) (QV.move rfl) rfl rfl rfl ?_
      refine JL.val (v := z9.v) (QV.move rfl) rfl rfl rfl ?_
      refine JL.val (v := .int .i64 (256 : Int)) (QV.move rfl) rfl rfl rfl ?_
      obtain ⟨y12, hc13, hm⟩ := bind_inv hm
      refine JL.mv (d := some 40) (MV.call (Lo := []) (Lr := [Asr.of 3 (Enc.int .i64) (z8.v) d10, Asr.of 3 (Enc.int .i64) (z9.v) d11]) (F71.spec (z8) (z9) (d10) (d11) ((256 : Int)) _ hc13) rfl Try.func71 rfl rfl rfl [] [0, 1] rfl rfl rfl ⟨(Drv.of 0 rfl), ⟨(Drv.of 1 rfl), trivial⟩⟩) rfl rfl rfl ?_
      rintro _ _ ⟨_, ⟨z14, rfl, rfl⟩, rfl⟩
      refine JL.val (v := z14.v) (QV.assign rfl) rfl rfl rfl ?_
      refine JL.nil ?_
      refine QJ.then_normal ?_
      refine JC.seq ?_
      refine JC.seq ?_
      refine JC.region ?_
      refine JL.val (v := .int .i64 (1 : Int)) (QV.assign rfl) rfl rfl rfl ?_
      refine JL.nil ?_
      refine QJ.then_normal ?_
      refine JC.cutK (Y := (List Int) × SlV) (fun y => match y with | (d16, _) => F65.j3 (d16) = some r) (fun y => match y with | (d16, z15) => [(4, z15.v)]) (fun y => match y with | (d16, z15) => [Asr.of 3 (Enc.int .i64) (z15.v) d16]) ?_ ?_
      ·
        rintro ⟨d16, z15⟩ hm
        unfold F65.j3 at hm
        show QJ _ _ [(4, z15.v)] [Asr.of 3 (Enc.int .i64) (z15.v) d16] _ _
        refine QJ.then_normal ?_
        refine JC.seq ?_
        refine JC.region ?_
        refine JL.val (v := z15.v) (QV.move rfl) rfl rfl rfl ?_
        refine JL.val (v := z15.v) (QV.assign rfl) rfl rfl rfl ?_
        refine JL.nil ?_
        refine QJ.then_normal ?_
        refine JC.ret ?_
        obtain rfl := Option.some.inj hm
        exact QJ.body (vs := [z15.v]) (.inl rfl) rfl (ResVs.cons (ResV.tmp rfl) ResVs.nil) [0] rfl rfl (.inr ⟨own_of _ _ _ _, trivial⟩) ⟨z15, rfl, rfl⟩
      ·
        refine JC.block ?_
        obtain ⟨y29, hl30, hmo31⟩ := bind_inv hm
        refine JC.loop (F65.b1 x2) (fun x z => match x, z with | (d18, d20, d21, d22), (z17, z19) => [(3, .int .i64 ((x2).length : Int)), (4, z17.v), (5, z19.v), (8, .int .i64 d21), (9, .int .i64 d22)]) (fun x z => match x, z with | (d18, d20, d21, d22), (z17, z19) => [Asr.of 3 (Enc.int .i64) (z17.v) d18, Asr.of 3 (Enc.int .i64) (z19.v) d20]) (y12, d11, (256 : Int), (1 : Int)) (z14, z9) y29 hl30 [0, 2] (by exact ⟨rfl, rfl, rfl, rfl, rfl, trivial⟩) rfl rfl ?_
        rintro ⟨d18, d20, d21, d22⟩ ⟨z17, z19⟩ s32 hm
        unfold F65.b1 at hm
        dsimp only at hm
        show JC _ _ _ [(3, .int .i64 ((x2).length : Int)), (4, z17.v), (5, z19.v), (8, .int .i64 d21), (9, .int .i64 d22)] [Asr.of 3 (Enc.int .i64) (z17.v) d18, Asr.of 3 (Enc.int .i64) (z19.v) d20] _ _
        refine JC.seq ?_
        refine JC.seq ?_
        refine JC.region ?_
        refine JL.val (v := .int .i64 d22) (QV.move rfl) rfl rfl rfl ?_
        refine JL.val (v := .int .i64 ((x2).length : Int)) (QV.move rfl) rfl rfl rfl ?_
        refine JL.val (v := .bool (decide (d22 < ((x2).length : Int)))) (QV.lss rfl rfl) rfl rfl rfl ?_
        refine JL.nil ?_
        refine QJ.then_normal ?_
        rcases ite_inv hm with ⟨h33, hm⟩ | ⟨h33, hm⟩
        ·
          refine JC.condT' rfl (decide_eq_true h33) ?_
          refine JC.skip ?_
          refine QJ.then_normal ?_
          refine JC.seq ?_
          refine JC.cutK (Y := (List Int × List Int × Int) × (SlV × SlV)) (fun y => match y with | ((d35, d37, d38), _) => F65.j4 d22 (d35) (d37) (d38) = some s32) (fun y => match y with | ((d35, d37, d38), (z34, z36)) => [(3, .int .i64 ((x2).length : Int)), (4, z34.v), (5, z36.v), (8, .int .i64 d38), (9, .int .i64 d22)]) (fun y => match y with | ((d35, d37, d38), (z34, z36)) => [Asr.of 3 (Enc.int .i64) (z34.v) d35, Asr.of 3 (Enc.int .i64) (z36.v) d37]) ?_ ?_
          ·
            rintro ⟨⟨d35, d37, d38⟩, ⟨z34, z36⟩⟩ hm
            unfold F65.j4 at hm
            show QJ _ _ [(3, .int .i64 ((x2).length : Int)), (4, z34.v), (5, z36.v), (8, .int .i64 d38), (9, .int .i64 d22)] [Asr.of 3 (Enc.int .i64) (z34.v) d35, Asr.of 3 (Enc.int .i64) (z36.v) d37] _ _
            refine QJ.then_normal ?_
            refine JC.region ?_
            refine JL.val (v := .int .i64 d22) (QV.move rfl) rfl rfl rfl ?_
            refine JL.val (v := .int .i64 (IntKind.wrap .i64 (d22 * (2 : Int)))) (QV.mul rfl rfl) rfl rfl rfl ?_
            refine JL.val (v := .int .i64 (IntKind.wrap .i64 (d22 * (2 : Int)))) (QV.assign rfl) rfl rfl rfl ?_
            refine JL.nil ?_
            obtain rfl := Option.some.inj hm
            exact QJ.round_on (d35, d37, d38, (IntKind.wrap .i64 (d22 * (2 : Int)))) (z34, z36) [0, 1] (by exact ⟨rfl, rfl, rfl, rfl, rfl, trivial⟩) rfl rfl
          ·
            refine JC.block ?_
            refine JC.seq ?_
            refine JC.region ?_
            refine JL.ent (fun _ hs => hs.nil 3 (Enc.int .i64)) ?_
            refine JL.val (v := SlV.nil.v) (QV.assign rfl) rfl rfl rfl ?_
            refine JL.nil ?_
            refine QJ.then_normal ?_
            refine JC.seq ?_
            refine JC.seq ?_
            refine JC.region ?_
            refine JL.val (v := .int .i64 ((x2).length : Int)) (QV.move rfl) rfl rfl rfl ?_
            refine JL.val (v := .int .i64 d22) (QV.move rfl) rfl rfl rfl ?_
            refine JL.val (v := .int .i64 (IntKind.wrap .i64 (((x2).length : Int) - d22))) (QV.sub rfl rfl) rfl rfl rfl ?_
            refine JL.val (v := .int .i64 (maxI (0 : Int) (IntKind.wrap .i64 (((x2).length : Int) - d22)))) (QV.max2 rfl rfl) rfl rfl rfl ?_
            refine JL.val (v := .int .i64 (maxI (0 : Int) (IntKind.wrap .i64 (((x2).length : Int) - d22)))) (QV.assign rfl) rfl rfl rfl ?_
            refine JL.nil ?_
            refine QJ.then_normal ?_
            refine JC.cutK (Y := (List Int) × SlV) (fun y => match y with | (d40, _) => F65.j5 x2 d18 d20 d21 d22 (d40) = some s32) (fun y => match y with | (d40, z39) => [(3, .int .i64 ((x2).length : Int)), (4, z17.v), (5, z19.v), (8, .int .i64 d21), (9, .int .i64 d22), (10, z39.v)]) (fun y => match y with | (d40, z39) => [Asr.of 3 (Enc.int .i64) (z17.v) d18, Asr.of 3 (Enc.int .i64) (z19.v) d20, Asr.of 3 (Enc.int .i64) (z39.v) d40]) ?_ ?_
            ·
              rintro ⟨d40, z39⟩ hm
              unfold F65.j5 at hm
              show QJ _ _ [(3, .int .i64 ((x2).length : Int)), (4, z17.v), (5, z19.v), (8, .int .i64 d21), (9, .int .i64 d22), (10, z39.v)] [Asr.of 3 (Enc.int .i64) (z17.v) d18, Asr.of 3 (Enc.int .i64) (z19.v) d20, Asr.of 3 (Enc.int .i64) (z39.v) d40] _ _
              refine QJ.then_normal ?_
              refine JC.seq ?_
              refine JC.seq ?_
              refine JC.region ?_
              refine JL.val (v := z17.v) (QV.move rfl) rfl rfl rfl ?_
              refine JL.val (v := .int .i64 ((d18).length : Int)) (QV.len (Rdg.of 0 rfl) Try.underlying94 rfl) rfl rfl rfl ?_
              refine JL.val (v := .int .i64 (0 : Int)) (QV.move rfl) rfl rfl rfl ?_
              refine JL.nil ?_
              refine QJ.then_normal ?_
              refine JC.cutK (Y := (List Int) × SlV) (fun y => match y with | (d42, _) => F65.j6 x2 d20 d21 d22 (d42) = some s32) (fun y => match y with | (d42, z41) => [(3, .int .i64 ((x2).length : Int)), (5, z19.v), (8, .int .i64 d21), (9, .int .i64 d22), (10, z41.v)]) (fun y => match y with | (d42, z41) => [Asr.of 3 (Enc.int .i64) (z19.v) d20, Asr.of 3 (Enc.int .i64) (z41.v) d42]) ?_ ?_
              ·
                rintro ⟨d42, z41⟩ hm
                unfold F65.j6 at hm
                show QJ _ _ [(3, .int .i64 ((x2).length : Int)), (5, z19.v), (8, .int .i64 d21), (9, .int .i64 d22), (10, z41.v)] [Asr.of 3 (Enc.int .i64) (z19.v) d20, Asr.of 3 (Enc.int .i64) (z41.v) d42] _ _
                refine QJ.then_normal ?_
                refine JC.seq ?_
                refine JC.region ?_
                refine JL.val (v := z41.v) (QV.move rfl) rfl rfl rfl ?_
                refine JL.val (v := z19.v) (QV.move rfl) rfl rfl rfl ?_
                refine JL.val (v := .int .i64 d21) (QV.move rfl) rfl rfl rfl ?_
                obtain ⟨y43, hc44, hm⟩ := bind_inv hm
                refine JL.mv (d := some 78) (MV.call (Lo := []) (Lr := [Asr.of 3 (Enc.int .i64) (z19.v) d20, Asr.of 3 (Enc.int .i64) (z41.v) d42]) (F71.spec (z41) (z19) (d42) (d20) (d21) _ hc44) rfl Try.func71 rfl rfl rfl [] [0, 1] rfl rfl rfl ⟨(Drv.of 1 rfl), ⟨(Drv.of 0 rfl), trivial⟩⟩) rfl rfl rfl ?_
                rintro _ _ ⟨_, ⟨z45, rfl, rfl⟩, rfl⟩
                refine JL.val (v := z45.v) (QV.assign rfl) rfl rfl rfl ?_
                refine JL.nil ?_
                refine QJ.then_normal ?_
                refine JC.seq ?_
                refine JC.region ?_
                refine JL.val (v := z45.v) (QV.move rfl) rfl rfl rfl ?_
                refine JL.val (v := z19.v) (QV.move rfl) rfl rfl rfl ?_
                refine JL.val (v := .int .i64 d22) (QV.move rfl) rfl rfl rfl ?_
                obtain ⟨y46, hc47, hm⟩ := bind_inv hm
                refine JL.mv (d := some 83) (MV.call (Lo := []) (Lr := [Asr.of 3 (Enc.int .i64) (z45.v) y43, Asr.of 3 (Enc.int .i64) (z19.v) d20, Asr.of 3 (Enc.int .i64) (z41.v) d42]) (F72.spec (z45) (z19) (y43) (d20) (d22) _ hc47) rfl Try.func72 rfl rfl rfl [] [0, 1, 2] rfl rfl rfl ⟨(Drv.of 0 rfl), ⟨(Drv.of 1 rfl), trivial⟩⟩) rfl rfl rfl ?_
                rintro _ _ ⟨_, ⟨z48, rfl, rfl⟩, rfl⟩
                refine JL.val (v := .tuple #[z48.v, .int .i64 y46.2]) (QV.move rfl) rfl rfl rfl ?_
                refine JL.val (v := z48.v) (QV.extract (vs := [z48.v, .int .i64 y46.2]) rfl rfl) rfl rfl rfl ?_
                refine JL.val (v := .int .i64 y46.2) (QV.extract (vs := [z48.v, .int .i64 y46.2]) rfl rfl) rfl rfl rfl ?_
                refine JL.val (v := z48.v) (QV.assign rfl) rfl rfl rfl ?_
                refine JL.val (v := .int .i64 y46.2) (QV.assign rfl) rfl rfl rfl ?_
                refine JL.nil ?_
                refine QJ.then_normal ?_
                refine JC.seq ?_
                refine JC.region ?_
                refine JL.val (v := .int .i64 y46.2) (QV.move rfl) rfl rfl rfl ?_
                refine JL.val (v := .int .i64 ((x2).length : Int)) (QV.move rfl) rfl rfl rfl ?_
                refine JL.val (v := .bool (decide (y46.2 = ((x2).length : Int)))) (QV.eql rfl rfl) rfl rfl rfl ?_
                refine JL.nil ?_
                refine QJ.then_normal ?_
                rcases ite_inv hm with ⟨h49, hm⟩ | ⟨h49, hm⟩
                ·
                  refine JC.condT' rfl (decide_eq_true h49) ?_
                  refine JC.exit ?_
                  refine QJ.block_miss rfl ?_
                  refine QJ.cut_exit ?_
                  refine QJ.then_exit ?_
                  obtain rfl := Option.some.inj hm
                  refine QJ.round_exit (fun hy => ?_)
                  subst hy
                  refine QJ.block_hit ?_
                  exact QJ.cut_normal (y43, z45) hmo31 [1] (by exact ⟨rfl, trivial⟩) rfl rfl
                ·
                  refine JC.condF' rfl (decide_eq_false h49) ?_
                  refine JC.skip ?_
                  refine QJ.block_normal ?_
                  exact QJ.cut_normal ((y43, y46.1, y46.2), (z45, z48)) hm [1, 0] (by exact ⟨rfl, rfl, rfl, rfl, rfl, trivial⟩) rfl rfl
              ·
                refine JC.block ?_
                obtain ⟨y56, hl57, hmo58⟩ := bind_inv hm
                refine JC.loop (F65.b2 d18 d22) (fun x z => match x, z with | (d51, d52), z50 => [(3, .int .i64 ((x2).length : Int)), (5, z19.v), (8, .int .i64 d21), (9, .int .i64 d22), (10, z50.v), (59, z17.v), (60, .int .i64 ((d18).length : Int)), (61, .int .i64 d52)]) (fun x z => match x, z with | (d51, d52), z50 => [Asr.of 3 (Enc.int .i64) (z19.v) d20, Asr.of 3 (Enc.int .i64) (z50.v) d51, Asr.of 3 (Enc.int .i64) (z17.v) d18]) (d40, (0 : Int)) z39 y56 hl57 [1, 2, 0] (by exact ⟨rfl, rfl, rfl, rfl, rfl, rfl, rfl, rfl, trivial⟩) rfl rfl ?_
                rintro ⟨d51, d52⟩ z50 s59 hm
                unfold F65.b2 at hm
                dsimp only at hm
                show JC _ _ _ [(3, .int .i64 ((x2).length : Int)), (5, z19.v), (8, .int .i64 d21), (9, .int .i64 d22), (10, z50.v), (59, z17.v), (60, .int .i64 ((d18).length : Int)), (61, .int .i64 d52)] [Asr.of 3 (Enc.int .i64) (z19.v) d20, Asr.of 3 (Enc.int .i64) (z50.v) d51, Asr.of 3 (Enc.int .i64) (z17.v) d18] _ _
                refine JC.seq ?_
                refine JC.region ?_
                refine JL.val (v := .bool (decide (d52 < ((d18).length : Int)))) (QV.lss rfl rfl) rfl rfl rfl ?_
                refine JL.nil ?_
                refine QJ.then_normal ?_
                refine JC.seq ?_
                rcases ite_inv hm with ⟨h60, hm⟩ | ⟨h60, hm⟩
                ·
                  refine JC.condT' rfl (decide_eq_true h60) ?_
                  refine JC.skip ?_
                  refine QJ.then_normal ?_
                  refine JC.seq ?_
                  refine JC.block ?_
                  refine JC.seq ?_
                  refine JC.region ?_
                  obtain ⟨h61, hm⟩ := guard_inv hm
                  refine JL.val (v := .pointer (some (elA (z17.v) (Int.toNat d52 * ((Enc.int .i64)).sz)))) (QV.indexA (Rdg.of 2 rfl) Try.underlying94 tk_3 rfl rfl h61) rfl rfl rfl ?_
                  refine JL.val (v := .int .i64 (gd d18 d52)) (QV.el1 (Rdg.of 2 rfl) tk_3 rfl h61 rfl) rfl rfl rfl ?_
                  refine JL.val (v := .int .i64 (gd d18 d52)) (QV.assign rfl) rfl rfl rfl ?_
                  refine JL.nil ?_
                  refine QJ.then_normal ?_
                  refine JC.seq ?_
                  refine JC.region ?_
                  refine JL.val (v := .int .i64 (gd d18 d52)) (QV.move rfl) rfl rfl rfl ?_
                  refine JL.val (v := .int .i64 d22) (QV.move rfl) rfl rfl rfl ?_
                  refine JL.val (v := .bool (decide (d22 ≤ (gd d18 d52)))) (QV.geq rfl rfl) rfl rfl rfl ?_
                  refine JL.nil ?_
                  refine QJ.then_normal ?_
                  refine JC.cutK (Y := (List Int) × SlV) (fun y => match y with | (d63, _) => F65.j7 d52 (d63) = some s59) (fun y => match y with | (d63, z62) => [(3, .int .i64 ((x2).length : Int)), (5, z19.v), (8, .int .i64 d21), (9, .int .i64 d22), (10, z62.v), (59, z17.v), (60, .int .i64 ((d18).length : Int)), (61, .int .i64 d52)]) (fun y => match y with | (d63, z62) => [Asr.of 3 (Enc.int .i64) (z19.v) d20, Asr.of 3 (Enc.int .i64) (z62.v) d63, Asr.of 3 (Enc.int .i64) (z17.v) d18]) ?_ ?_
                  ·
                    rintro ⟨d63, z62⟩ hm
                    unfold F65.j7 at hm
                    show QJ _ _ [(3, .int .i64 ((x2).length : Int)), (5, z19.v), (8, .int .i64 d21), (9, .int .i64 d22), (10, z62.v), (59, z17.v), (60, .int .i64 ((d18).length : Int)), (61, .int .i64 d52)] [Asr.of 3 (Enc.int .i64) (z19.v) d20, Asr.of 3 (Enc.int .i64) (z62.v) d63, Asr.of 3 (Enc.int .i64) (z17.v) d18] _ _
                    refine QJ.block_normal ?_
                    refine QJ.then_normal ?_
                    refine JC.region ?_
                    refine JL.val (v := .int .i64 (IntKind.wrap .i64 (d52 + (1 : Int)))) (QV.add rfl rfl) rfl rfl rfl ?_
                    refine JL.val (v := .int .i64 (IntKind.wrap .i64 (d52 + (1 : Int)))) (QV.move rfl) rfl rfl rfl ?_
                    refine JL.nil ?_
                    obtain rfl := Option.some.inj hm
                    exact QJ.round_on (d63, (IntKind.wrap .i64 (d52 + (1 : Int)))) z62 [0, 1, 2] (by exact ⟨rfl, rfl, rfl, rfl, rfl, rfl, rfl, rfl, trivial⟩) rfl rfl
                  ·
                    rcases ite_inv hm with ⟨h64, hm⟩ | ⟨h64, hm⟩
                    ·
                      refine JC.condT' rfl (decide_eq_true h64) ?_
                      refine JC.region ?_
                      refine JL.val (v := z50.v) (QV.move rfl) rfl rfl rfl ?_
                      refine JL.val (v := .int .i64 (gd d18 d52)) (QV.move rfl) rfl rfl rfl ?_
                      refine JL.val (v := .int .i64 d22) (QV.move rfl) rfl rfl rfl ?_
                      refine JL.val (v := .int .i64 (IntKind.wrap .i64 ((gd d18 d52) - d22))) (QV.sub rfl rfl) rfl rfl rfl ?_
                      refine JL.mv (d := some 72) (MV.lit (E := (Enc.int .i64)) (vals := [(0, .int .i64 (IntKind.wrap .i64 ((gd d18 d52) - d22)))]) [(IntKind.wrap .i64 ((gd d18 d52) - d22))] Try.underlying94 zi_3 rfl (by decide) rfl (by kernel_rfl)) rfl rfl rfl ?_
                      rintro _ _ ⟨z65, rfl, rfl⟩
                      obtain ⟨h66, hm⟩ := guard_inv hm
                      refine JL.mv (d := some 73) (MV.append 2 rfl (Rdg.of 0 rfl) Try.underlying94 zi_3 rfl (by decide) rfl rfl h66) rfl rfl rfl ?_
                      rintro _ _ ⟨z67, rfl, rfl⟩
                      refine JL.val (v := z67.v) (QV.assign rfl) rfl rfl rfl ?_
                      refine JL.nil ?_
                      exact QJ.cut_normal ((d51 ++ [(IntKind.wrap .i64 ((gd d18 d52) - d22))]), z67) hm [1, 2, 3] (by exact ⟨rfl, rfl, rfl, rfl, rfl, rfl, rfl, rfl, trivial⟩) rfl rfl
                    ·
                      refine JC.condF' rfl (decide_eq_false h64) ?_
                      refine JC.skip ?_
                      exact QJ.cut_normal (d51, z50) hm [0, 1, 2] (by exact ⟨rfl, rfl, rfl, rfl, rfl, rfl, rfl, rfl, trivial⟩) rfl rfl
                ·
                  refine JC.condF' rfl (decide_eq_false h60) ?_
                  refine JC.exit ?_
                  refine QJ.then_exit ?_
                  obtain rfl := Option.some.inj hm
                  refine QJ.round_exit (fun hy => ?_)
                  subst hy
                  refine QJ.block_hit ?_
                  exact QJ.cut_normal (d51, z50) hmo58 [0, 1] (by exact ⟨rfl, rfl, rfl, rfl, rfl, trivial⟩) rfl rfl
            ·
              refine JC.block ?_
              obtain ⟨y74, hl75, hmo76⟩ := bind_inv hm
              refine JC.loop (F65.b3 x2) (fun x z => match x, z with | (d69, d70), z68 => [(3, .int .i64 ((x2).length : Int)), (4, z17.v), (5, z19.v), (8, .int .i64 d21), (9, .int .i64 d22), (10, z68.v), (11, .int .i64 d70)]) (fun x z => match x, z with | (d69, d70), z68 => [Asr.of 3 (Enc.int .i64) (z17.v) d18, Asr.of 3 (Enc.int .i64) (z19.v) d20, Asr.of 3 (Enc.int .i64) (z68.v) d69]) (([] : List Int), (maxI (0 : Int) (IntKind.wrap .i64 (((x2).length : Int) - d22)))) SlV.nil y74 hl75 [1, 2, 0] (by exact ⟨rfl, rfl, rfl, rfl, rfl, rfl, rfl, trivial⟩) rfl rfl ?_
              rintro ⟨d69, d70⟩ z68 s77 hm
              unfold F65.b3 at hm
              dsimp only at hm
              show JC _ _ _ [(3, .int .i64 ((x2).length : Int)), (4, z17.v), (5, z19.v), (8, .int .i64 d21), (9, .int .i64 d22), (10, z68.v), (11, .int .i64 d70)] [Asr.of 3 (Enc.int .i64) (z17.v) d18, Asr.of 3 (Enc.int .i64) (z19.v) d20, Asr.of 3 (Enc.int .i64) (z68.v) d69] _ _
              refine JC.seq ?_
              refine JC.seq ?_
              refine JC.region ?_
              refine JL.val (v := .int .i64 d70) (QV.move rfl) rfl rfl rfl ?_
              refine JL.val (v := .int .i64 ((x2).length : Int)) (QV.move rfl) rfl rfl rfl ?_
              refine JL.val (v := .bool (decide (d70 < ((x2).length : Int)))) (QV.lss rfl rfl) rfl rfl rfl ?_
              refine JL.nil ?_
              refine QJ.then_normal ?_
              rcases ite_inv hm with ⟨h78, hm⟩ | ⟨h78, hm⟩
              ·
                refine JC.condT' rfl (decide_eq_true h78) ?_
                refine JC.skip ?_
                refine QJ.then_normal ?_
                refine JC.seq ?_
                refine JC.block ?_
                refine JC.region ?_
                refine JL.val (v := z68.v) (QV.move rfl) rfl rfl rfl ?_
                refine JL.val (v := .int .i64 d70) (QV.move rfl) rfl rfl rfl ?_
                refine JL.mv (d := some 57) (MV.lit (E := (Enc.int .i64)) (vals := [(0, .int .i64 d70)]) [d70] Try.underlying94 zi_3 rfl (by decide) rfl (by kernel_rfl)) rfl rfl rfl ?_
                rintro _ _ ⟨z79, rfl, rfl⟩
                obtain ⟨h80, hm⟩ := guard_inv hm
                refine JL.mv (d := some 58) (MV.append 3 rfl (Rdg.of 0 rfl) Try.underlying94 zi_3 rfl (by decide) rfl rfl h80) rfl rfl rfl ?_
                rintro _ _ ⟨z81, rfl, rfl⟩
                refine JL.val (v := z81.v) (QV.assign rfl) rfl rfl rfl ?_
                refine JL.nil ?_
                refine QJ.block_normal ?_
                refine QJ.then_normal ?_
                refine JC.region ?_
                refine JL.val (v := .int .i64 d70) (QV.move rfl) rfl rfl rfl ?_
                refine JL.val (v := .int .i64 (IntKind.wrap .i64 (d70 + (1 : Int)))) (QV.add rfl rfl) rfl rfl rfl ?_
                refine JL.val (v := .int .i64 (IntKind.wrap .i64 (d70 + (1 : Int)))) (QV.assign rfl) rfl rfl rfl ?_
                refine JL.nil ?_
                obtain rfl := Option.some.inj hm
                exact QJ.round_on ((d69 ++ [d70]), (IntKind.wrap .i64 (d70 + (1 : Int)))) z81 [1, 2, 3] (by exact ⟨rfl, rfl, rfl, rfl, rfl, rfl, rfl, trivial⟩) rfl rfl
              ·
                refine JC.condF' rfl (decide_eq_false h78) ?_
                refine JC.exit ?_
                refine QJ.then_exit ?_
                obtain rfl := Option.some.inj hm
                refine QJ.round_exit (fun hy => ?_)
                subst hy
                refine QJ.block_hit ?_
                exact QJ.cut_normal (d69, z68) hmo76 [0, 1, 2] (by exact ⟨rfl, rfl, rfl, rfl, rfl, rfl, trivial⟩) rfl rfl
        ·
          refine JC.condF' rfl (decide_eq_false h33) ?_
          refine JC.exit ?_
          refine QJ.then_exit ?_
          obtain rfl := Option.some.inj hm
          refine QJ.round_exit (fun hy => ?_)
          subst hy
          refine QJ.block_hit ?_
          exact QJ.cut_normal (d18, z17) hmo31 [0] (by exact ⟨rfl, trivial⟩) rfl rfl
    ·
      refine JC.block ?_
      obtain ⟨y88, hl89, hmo90⟩ := bind_inv hm
      refine JC.loop (F65.b4 x2) (fun x z => match x, z with | (d82, d83, d84), _ => [(3, .int .i64 ((x2).length : Int)), (4, z8.v), (5, z9.v), (20, s1.v), (21, .int .i64 ((x2).length : Int)), (22, .int .i64 d84)]) (fun x z => match x, z with | (d82, d83, d84), _ => [Asr.of 3 (Enc.int .i64) (z8.v) d82, Asr.of 3 (Enc.int .i64) (z9.v) d83, Asr.vw (Enc.int .u8) (s1.v) x2]) ((List.replicate (Int.toNat ((x2).length : Int)) (0 : Int)), (List.replicate (Int.toNat ((x2).length : Int)) (0 : Int)), (0 : Int)) () y88 hl89 [1, 2, 0] (by exact ⟨rfl, rfl, rfl, rfl, rfl, rfl, trivial⟩) rfl rfl ?_
      rintro ⟨d82, d83, d84⟩ ⟨⟩ s91 hm
      unfold F65.b4 at hm
      dsimp only at hm
      show JC _ _ _ [(3, .int .i64 ((x2).length : Int)), (4, z8.v), (5, z9.v), (20, s1.v), (21, .int .i64 ((x2).length : Int)), (22, .int .i64 d84)] [Asr.of 3 (Enc.int .i64) (z8.v) d82, Asr.of 3 (Enc.int .i64) (z9.v) d83, Asr.vw (Enc.int .u8) (s1.v) x2] _ _
      refine JC.seq ?_
      refine JC.region ?_
      refine JL.val (v := .bool (decide (d84 < ((x2).length : Int)))) (QV.lss rfl rfl) rfl rfl rfl ?_
      refine JL.nil ?_
      refine QJ.then_normal ?_
      refine JC.seq ?_
      rcases ite_inv hm with ⟨h92, hm⟩ | ⟨h92, hm⟩
      ·
        refine JC.condT' rfl (decide_eq_true h92) ?_
        refine JC.skip ?_
        refine QJ.then_normal ?_
        refine JC.seq ?_
        refine JC.block ?_
        refine JC.seq ?_
        refine JC.region ?_
        refine JL.val (v := .int .i64 d84) (QV.move rfl) rfl rfl rfl ?_
        obtain ⟨h93, hm⟩ := guard_inv hm
        refine JL.val (v := .pointer (some (elA (s1.v) (Int.toNat d84 * ((Enc.int .u8)).sz)))) (QV.indexA (Rdg.vw 2 rfl) Try.underlying23 tk_5 rfl rfl h93) rfl rfl rfl ?_
        refine JL.val (v := .int .u8 (gd x2 d84)) (QV.el1 (Rdg.vw 2 rfl) tk_5 rfl h93 rfl) rfl rfl rfl ?_
        refine JL.val (v := .int .i64 d84) (QV.assign rfl) rfl rfl rfl ?_
        refine JL.val (v := .int .u8 (gd x2 d84)) (QV.assign rfl) rfl rfl rfl ?_
        refine JL.nil ?_
        refine QJ.then_normal ?_
        refine JC.region ?_
        refine JL.val (v := z8.v) (QV.move rfl) rfl rfl rfl ?_
        refine JL.val (v := .int .i64 d84) (QV.move rfl) rfl rfl rfl ?_
        refine JL.val (v := z9.v) (QV.move rfl) rfl rfl rfl ?_
        refine JL.val (v := .int .i64 d84) (QV.move rfl) rfl rfl rfl ?_
        refine JL.val (v := .int .i64 d84) (QV.move rfl) rfl rfl rfl ?_
        refine JL.val (v := .int .u8 (gd x2 d84)) (QV.move rfl) rfl rfl rfl ?_
        refine JL.val (v := .int .i64 (IntKind.wrap .i64 (gd x2 d84))) (QV.conv rfl (by rw [Try.underlying5]; rfl) Try.underlying3) rfl rfl rfl ?_
        obtain ⟨h94, hm⟩ := guard_inv hm
        refine JL.val (v := .pointer (some (elA (z8.v) (Int.toNat d84 * ((Enc.int .i64)).sz)))) (QV.indexA (Rdg.of 0 rfl) Try.underlying94 tk_3 rfl rfl h94) rfl rfl rfl ?_
        refine JL.mv (d := none) (MV.storeEl 0 d84 rfl tk_3 rfl rfl h94 rfl) rfl rfl rfl ?_
        rintro _ _ ⟨rfl, rfl⟩
        obtain ⟨h95, hm⟩ := guard_inv hm
        refine JL.val (v := .pointer (some (elA (z9.v) (Int.toNat d84 * ((Enc.int .i64)).sz)))) (QV.indexA (Rdg.of 1 rfl) Try.underlying94 tk_3 rfl rfl h95) rfl rfl rfl ?_
        refine JL.mv (d := none) (MV.storeEl 1 (IntKind.wrap .i64 (gd x2 d84)) rfl tk_3 rfl rfl h95 rfl) rfl rfl rfl ?_
        rintro _ _ ⟨rfl, rfl⟩
        refine JL.nil ?_
        refine QJ.block_normal ?_
        refine QJ.then_normal ?_
        refine JC.region ?_
        refine JL.val (v := .int .i64 (IntKind.wrap .i64 (d84 + (1 : Int)))) (QV.add rfl rfl) rfl rfl rfl ?_
        refine JL.val (v := .int .i64 (IntKind.wrap .i64 (d84 + (1 : Int)))) (QV.move rfl) rfl rfl rfl ?_
        refine JL.nil ?_
        obtain rfl := Option.some.inj hm
        exact QJ.round_on ((List.set d82 (Int.toNat d84) d84), (List.set d83 (Int.toNat d84) (IntKind.wrap .i64 (gd x2 d84))), (IntKind.wrap .i64 (d84 + (1 : Int)))) () [0, 1, 2] (by exact ⟨rfl, rfl, rfl, rfl, rfl, rfl, trivial⟩) rfl rfl
      ·
        refine JC.condF' rfl (decide_eq_false h92) ?_
        refine JC.exit ?_
        refine QJ.then_exit ?_
        obtain rfl := Option.some.inj hm
        refine QJ.round_exit (fun hy => ?_)
        subst hy
        refine QJ.block_hit ?_
        exact QJ.cut_normal ((d82, d83), ()) hmo90 [0, 1] (by exact ⟨rfl, rfl, rfl, trivial⟩) rfl rfl
  ·
    refine JC.regionU [Asr.of 3 (Enc.int .i64) (SlV.nil.v) ([] : List Int), Asr.vw (Enc.int .u8) (s1.v) x2] (fun _ => false) 6 rfl (by kernel_rfl) (by kernel_rfl) (fun hsel => ?_)
    refine JU.take (i := 0) (v := .int .i64 ((x2).length : Int)) hsel rfl (by kernel_rfl) (QV.move rfl) rfl rfl rfl [0, 1] rfl rfl ?_
    refine JU.take (i := 2) (v := .int .i64 ((x2).length : Int)) hsel rfl (by kernel_rfl) (QV.move rfl) rfl rfl rfl [0, 1] rfl rfl ?_
    refine JU.any [1, 3] (by kernel_rfl) rfl ?_
    refine ⟨?_, ?_, trivial⟩
    ·
      refine JUo.mv (d := some 17) rfl (MV.make (E := (Enc.int .i64)) (0 : Int) Try.underlying94 zi_3 (by decide) rfl rfl rfl h5) rfl rfl rfl ?_
      rintro _ _ ⟨z96, rfl, rfl⟩
      refine ⟨fun _ => ⟨[1, 2], rfl, rfl⟩, ?_⟩
      refine JU.take (i := 4) (v := z96.v) hsel rfl (by kernel_rfl) (QV.assign rfl) rfl rfl rfl [1, 2] rfl rfl ?_
      refine JU.any [3] (by kernel_rfl) rfl ?_
      refine ⟨?_, trivial⟩
      refine JUo.mv (d := some 19) rfl (MV.make (E := (Enc.int .i64)) (0 : Int) Try.underlying94 zi_3 (by decide) rfl rfl rfl h5) rfl rfl rfl ?_
      rintro _ _ ⟨z97, rfl, rfl⟩
      refine ⟨fun _ => ⟨[2, 3], rfl, rfl⟩, ?_⟩
      refine JU.take (i := 5) (v := z97.v) hsel rfl (by kernel_rfl) (QV.assign rfl) rfl rfl rfl [2, 3] rfl rfl ?_
      refine JU.nil (by kernel_rfl) ?_
      exact QJ.cut_normal ((), (z96, z97)) hm [3, 1, 0] (by exact ⟨rfl, rfl, rfl, rfl, trivial⟩) rfl rfl
    ·
      refine JUo.mv (d := some 19) rfl (MV.make (E := (Enc.int .i64)) (0 : Int) Try.underlying94 zi_3 (by decide) rfl rfl rfl h5) rfl rfl rfl ?_
      rintro _ _ ⟨z98, rfl, rfl⟩
      refine ⟨fun _ => ⟨[1, 2], rfl, rfl⟩, ?_⟩
      refine JU.any [1] (by kernel_rfl) rfl ?_
      refine ⟨?_, trivial⟩
      refine JUo.mv (d := some 17) rfl (MV.make (E := (Enc.int .i64)) (0 : Int) Try.underlying94 zi_3 (by decide) rfl rfl rfl h5) rfl rfl rfl ?_
      rintro _ _ ⟨z99, rfl, rfl⟩
      refine ⟨fun _ => ⟨[2, 3], rfl, rfl⟩, ?_⟩
      refine JU.take (i := 4) (v := z99.v) hsel rfl (by kernel_rfl) (QV.assign rfl) rfl rfl rfl [2, 3] rfl rfl ?_
      refine JU.take (i := 5) (v := z98.v) hsel rfl (by kernel_rfl) (QV.assign rfl) rfl rfl rfl [2, 3] rfl rfl ?_
      refine JU.nil (by kernel_rfl) ?_
      exact QJ.cut_normal ((), (z99, z98)) hm [3, 0, 1] (by exact ⟨rfl, rfl, rfl, rfl, trivial⟩) rfl rfl

/-! ### 51: drogher/suffix.New -/
noncomputable def F51.m (x2 : List Int) : Option (Unit ⊕ (List Int × List Int)) :=
  (if (2147483647 : Int) < ((x2).length : Int) then some (.inl ()) else ((F60.m (x2)).bind fun y9 => ((F65.m (y9)).bind fun y12 => some (.inr (y9, y12)))))
set_option maxRecDepth 100000 in
set_option maxHeartbeats 4000000 in
theorem F51.spec (s1 : SlV) (x2 : List Int) (r : (Unit ⊕ (List Int × List Int))) (hm : F51.m x2 = some r) :
    Ctr Try.prog false 51 [s1.v] [Asr.vw (Enc.int .u8) (s1.v) x2] (fun v L' => match r with | (.inl r) => v = .tuple #[.pointer none, .int .i64 (4 : Int)] ∧ L' = [] | (.inr r) => ∃ (g3 : Nat), ∃ (g4 : SlV), ∃ (g6 : SlV), v = .tuple #[.pointer (some ⟨g3, 0, none⟩), .int .i64 (0 : Int)] ∧ L' = [Asr.of 5 (Enc.int .u8) (g4.v) r.1, Asr.of 3 (Enc.int .i64) (g6.v) r.2, Asr.blk g3 97 [Seg.c (g4.v), Seg.c (g6.v)]]) := by
  refine Ctr.intro (n := 15) (env := [(0, s1.v)]) Try.func51 rfl rfl rfl rfl (fun c => ?_)
  unfold F51.m at hm
  refine JC.seq ?_
  refine JC.region ?_
  refine JL.val (v := .pointer none) (QV.assign rfl) rfl rfl rfl ?_
  refine JL.val (v := .int .i64 (0 : Int)) (QV.assign rfl) rfl rfl rfl ?_
  refine JL.nil ?_
  refine QJ.then_normal ?_
  refine JC.seq ?_
  refine JC.seq ?_
  refine JC.region ?_
  refine JL.val (v := s1.v) (QV.move rfl) rfl rfl rfl ?_
  refine JL.val (v := .int .i64 ((x2).length : Int)) (QV.len (Rdg.vw 0 rfl) Try.underlying23 rfl) rfl rfl rfl ?_
  refine JL.val (v := .bool (decide ((2147483647 : Int) < ((x2).length : Int)))) (QV.gtr rfl rfl) rfl rfl rfl ?_
  refine JL.nil ?_
  refine QJ.then_normal ?_
  rcases ite_inv hm with ⟨h8, hm⟩ | ⟨h8, hm⟩
  ·
    refine JC.condT' rfl (decide_eq_true h8) ?_
    refine JC.seq ?_
    refine JC.region ?_
    refine JL.val (v := .pointer none) (QV.assign rfl) rfl rfl rfl ?_
    refine JL.val (v := .int .i64 (4 : Int)) (QV.assign rfl) rfl rfl rfl ?_
    refine JL.nil ?_
    refine QJ.then_normal ?_
    refine JC.ret ?_
    refine QJ.then_ret ?_
    obtain rfl := Option.some.inj hm
    exact QJ.body (vs := [.pointer none, .int .i64 (4 : Int)]) (.inl rfl) rfl (ResVs.cons (ResV.tmp rfl) (ResVs.cons (ResV.tmp rfl) ResVs.nil)) [] rfl rfl (.inr trivial) ⟨rfl, rfl⟩
  ·
    refine JC.condF' rfl (decide_eq_false h8) ?_
    refine JC.skip ?_
    refine QJ.then_normal ?_
    refine JC.seq ?_
    refine JC.region ?_
    refine JL.val (v := s1.v) (QV.move rfl) rfl rfl rfl ?_
    obtain ⟨y9, hc10, hm⟩ := bind_inv hm
    refine JL.mv (d := some 9) (MV.call (Lo := []) (Lr := [Asr.vw (Enc.int .u8) (s1.v) x2]) (F60.spec (s1) (x2) _ hc10) rfl Try.func60 rfl rfl rfl [] [0] rfl rfl rfl ⟨(Drv.vw 0 rfl), trivial⟩) rfl rfl rfl ?_
    rintro _ _ ⟨_, ⟨z11, rfl, rfl⟩, rfl⟩
    refine JL.val (v := z11.v) (QV.assign rfl) rfl rfl rfl ?_
    refine JL.nil ?_
    refine QJ.then_normal ?_
    refine JC.seq ?_
    refine JC.region ?_
    refine JL.val (v := z11.v) (QV.move rfl) rfl rfl rfl ?_
    refine JL.val (v := z11.v) (QV.move rfl) rfl rfl rfl ?_
    obtain ⟨y12, hc13, hm⟩ := bind_inv hm
    refine JL.mv (d := some 12) (MV.call (Lo := []) (Lr := [Asr.of 5 (Enc.int .u8) (z11.v) y9, Asr.vw (Enc.int .u8) (s1.v) x2]) (F65.spec (z11) (y9) _ hc13) rfl Try.func65 rfl rfl rfl [] [0, 1] rfl rfl rfl ⟨(Drv.of 0 rfl), trivial⟩) rfl rfl rfl ?_
    rintro _ _ ⟨_, ⟨z14, rfl, rfl⟩, rfl⟩
    refine JL.ent (fun _ hs => hs.nil 5 (Enc.int .u8)) ?_
    refine JL.ent (fun _ hs => hs.nil 3 (Enc.int .i64)) ?_
    refine JL.val (v := .agg #[z11.v, z14.v]) (QV.build (vals := [(0, z11.v), (1, z14.v)]) rfl (by kernel_rfl)) rfl rfl rfl ?_
    refine JL.mv (d := some 14) (MV.box [Seg.c (z11.v), Seg.c (z14.v)] rfl (fun w hs => rfl)) rfl rfl rfl ?_
    rintro _ _ ⟨b15, rfl, rfl⟩
    refine JL.val (v := .pointer (some ⟨b15, 0, none⟩)) (QV.assign rfl) rfl rfl rfl ?_
    refine JL.val (v := .int .i64 (0 : Int)) (QV.assign rfl) rfl rfl rfl ?_
    refine JL.nil ?_
    refine QJ.then_normal ?_
    refine JC.ret ?_
    obtain rfl := Option.some.inj hm
    exact QJ.body (vs := [.pointer (some ⟨b15, 0, none⟩), .int .i64 (0 : Int)]) (.inl rfl) rfl (ResVs.cons (ResV.tmp rfl) (ResVs.cons (ResV.tmp rfl) ResVs.nil)) [4, 3, 0] rfl rfl (.inr ⟨own_of _ _ _ _, own_of _ _ _ _, own_blk _ _ _, trivial⟩) ⟨b15, z11, z14, rfl, rfl⟩

/-! ### 52: (*drogher/suffix.Index).Longest -/
noncomputable def F52.m (x2 : List Int) : Option Unit :=
  some ()
set_option maxRecDepth 100000 in
set_option maxHeartbeats 4000000 in
theorem F52.spec (s1 : SlV) (x2 : List Int) (r : Unit) (hm : F52.m x2 = some r) :
    Ctr Try.prog false 52 [.pointer none, s1.v] [Asr.vw (Enc.int .u8) (s1.v) x2] (fun v L' => v = .tuple #[.int .i64 (0 : Int), .int .i64 (0 : Int)] ∧ L' = []) := by
  refine Ctr.intro (n := 77) (env := [(0, .pointer none), (1, s1.v)]) Try.func52 rfl rfl rfl rfl (fun c => ?_)
  unfold F52.m at hm
  refine JC.seq ?_
  refine JC.region ?_
  refine JL.mv (d := some 2) (MV.box [Seg.c (.pointer none)] rfl (fun w hs => rfl)) rfl rfl rfl ?_
  rintro _ _ ⟨b3, rfl, rfl⟩
  refine JL.mv (d := some 3) (MV.box [Seg.c (s1.v)] rfl (fun w hs => cells_sl (Rdg.vw 1 rfl) hs)) rfl rfl rfl ?_
  rintro _ _ ⟨b4, rfl, rfl⟩
  refine JL.val (v := .int .i64 (0 : Int)) (QV.assign rfl) rfl rfl rfl ?_
  refine JL.val (v := .int .i64 (0 : Int)) (QV.assign rfl) rfl rfl rfl ?_
  refine JL.nil ?_
  refine QJ.then_normal ?_
  refine JC.seq ?_
  refine JC.seq ?_
  refine JC.region ?_
  refine JL.val (v := .pointer none) (QV.load1 (ss := [Seg.c (.pointer none)]) 1 0 rfl tk_79 rfl rfl rfl) rfl rfl rfl ?_
  refine JL.val (v := .bool true) ((QV.eq (QV.eqlP Try.underlying79 rfl rfl (.inl rfl)) (by simp))) rfl rfl rfl ?_
  refine JL.val (v := .bool true) (QV.move rfl) rfl rfl rfl ?_
  refine JL.skip (d := some 15) rfl rfl rfl ?_
  refine JL.skip (d := some 16) rfl rfl rfl ?_
  refine JL.skip (d := some 17) rfl rfl rfl ?_
  refine JL.skip (d := some 18) rfl rfl rfl ?_
  refine JL.skip (d := some 19) rfl rfl rfl ?_
  refine JL.skip (d := some 20) rfl rfl rfl ?_
  refine JL.val (v := .bool true) (QV.pickT rfl rfl) rfl rfl rfl ?_
  refine JL.nil ?_
  refine QJ.then_normal ?_
  refine JC.condT rfl ?_
  refine JC.seq ?_
  refine JC.region ?_
  refine JL.val (v := .int .i64 (0 : Int)) (QV.assign rfl) rfl rfl rfl ?_
  refine JL.val (v := .int .i64 (0 : Int)) (QV.assign rfl) rfl rfl rfl ?_
  refine JL.nil ?_
  refine QJ.then_normal ?_
  refine JC.ret ?_
  refine QJ.then_ret ?_
  obtain rfl := Option.some.inj hm
  exact QJ.body (vs := [.int .i64 (0 : Int), .int .i64 (0 : Int)]) (.inl rfl) rfl (ResVs.cons (ResV.tmp rfl) (ResVs.cons (ResV.tmp rfl) ResVs.nil)) [] rfl rfl (.inr trivial) ⟨rfl, rfl⟩

/-! ### 54: drogher/match.Find$1 -/
noncomputable def F54.m (x1 : Int) (x4 : List Int) (x6 : Int) (x9 : List Int) (x11 : Int) : Option Bool :=
  (if 0 ≤ (IntKind.wrap .i64 ((IntKind.wrap .i64 (x6 - (1 : Int))) - x1)) ∧ (IntKind.wrap .i64 ((IntKind.wrap .i64 (x6 - (1 : Int))) - x1)) < ((x4).length : Int) then (if 0 ≤ (IntKind.wrap .i64 ((IntKind.wrap .i64 (x11 - (1 : Int))) - x1)) ∧ (IntKind.wrap .i64 ((IntKind.wrap .i64 (x11 - (1 : Int))) - x1)) < ((x9).length : Int) then some (decide ((gd x4 (IntKind.wrap .i64 ((IntKind.wrap .i64 (x6 - (1 : Int))) - x1))) = (gd x9 (IntKind.wrap .i64 ((IntKind.wrap .i64 (x11 - (1 : Int))) - x1))))) else none) else none)
set_option maxRecDepth 100000 in
set_option maxHeartbeats 4000000 in
theorem F54.spec (b2 : Nat) (s3 : SlV) (b5 : Nat) (b7 : Nat) (s8 : SlV) (b10 : Nat) (x1 : Int) (x4 : List Int) (x6 : Int) (x9 : List Int) (x11 : Int) (r : Bool) (hm : F54.m x1 x4 x6 x9 x11 = some r) :
    Ctr Try.prog true 54 [.int .i64 x1, .pointer (some ⟨b2, 0, none⟩), .pointer (some ⟨b5, 0, none⟩), .pointer (some ⟨b7, 0, none⟩), .pointer (some ⟨b10, 0, none⟩)] [Asr.blk b2 23 [Seg.c (s3.v)], Asr.blk b5 3 [Seg.c (.int .i64 x6)], Asr.blk b7 23 [Seg.c (s8.v)], Asr.blk b10 3 [Seg.c (.int .i64 x11)], Asr.vw (Enc.int .u8) (s3.v) x4, Asr.vw (Enc.int .u8) (s8.v) x9] (fun v L' => v = .bool r ∧ L' = [Asr.vw (Enc.int .u8) (s3.v) x4, Asr.blk b2 23 [Seg.c (s3.v)], Asr.blk b5 3 [Seg.c (.int .i64 x6)], Asr.vw (Enc.int .u8) (s8.v) x9, Asr.blk b7 23 [Seg.c (s8.v)], Asr.blk b10 3 [Seg.c (.int .i64 x11)]]) := by
  refine Ctr.intro (n := 22) (env := [(0, .int .i64 x1), (1, .pointer (some ⟨b2, 0, none⟩)), (2, .pointer (some ⟨b5, 0, none⟩)), (3, .pointer (some ⟨b7, 0, none⟩)), (4, .pointer (some ⟨b10, 0, none⟩))]) Try.func54 rfl rfl rfl rfl (fun c => ?_)
  unfold F54.m at hm
  refine JC.seq ?_
  refine JC.region ?_
  refine JL.val (v := .bool false) (QV.assign rfl) rfl rfl rfl ?_
  refine JL.nil ?_
  refine QJ.then_normal ?_
  refine JC.seq ?_
  refine JC.regionT [Asr.blk b2 23 [Seg.c (s3.v)], Asr.blk b5 3 [Seg.c (.int .i64 x6)], Asr.blk b7 23 [Seg.c (s8.v)], Asr.blk b10 3 [Seg.c (.int .i64 x11)], Asr.vw (Enc.int .u8) (s3.v) x4, Asr.vw (Enc.int .u8) (s8.v) x9] (fun t => false) [(0, true), (1, true), (2, true), (3, true), (4, true), (5, true), (6, true), (7, true), (8, true), (9, true), (10, false), (11, false), (12, false), (13, false), (14, false), (15, false)] (by kernel_rfl) (by kernel_rfl) (by kernel_rfl) rfl (fun hsel => ?_)
  refine JT.take (i := 0) (v := s3.v) hsel rfl (QV.load1 (ss := [Seg.c (s3.v)]) 0 0 rfl tk_23 rfl rfl rfl) rfl rfl rfl [0, 1, 2, 3, 4, 5] rfl rfl ?_
  refine JT.take (i := 1) (v := .int .i64 x6) hsel rfl (QV.load1 (ss := [Seg.c (.int .i64 x6)]) 1 0 rfl tk_3 rfl rfl rfl) rfl rfl rfl [0, 1, 2, 3, 4, 5] rfl rfl ?_
  refine JT.take (i := 2) (v := .int .i64 (IntKind.wrap .i64 (x6 - (1 : Int)))) hsel rfl (QV.sub rfl rfl) rfl rfl rfl [0, 1, 2, 3, 4, 5] rfl rfl ?_
  refine JT.take (i := 3) (v := .int .i64 x1) hsel rfl (QV.move rfl) rfl rfl rfl [0, 1, 2, 3, 4, 5] rfl rfl ?_
  refine JT.take (i := 4) (v := .int .i64 (IntKind.wrap .i64 ((IntKind.wrap .i64 (x6 - (1 : Int))) - x1))) hsel rfl (QV.sub rfl rfl) rfl rfl rfl [0, 1, 2, 3, 4, 5] rfl rfl ?_
  obtain ⟨h13, hm⟩ := guard_inv hm
  refine JT.take (i := 5) (v := .pointer (some (elA (s3.v) (Int.toNat (IntKind.wrap .i64 ((IntKind.wrap .i64 (x6 - (1 : Int))) - x1)) * ((Enc.int .u8)).sz)))) hsel rfl (QV.indexA (Rdg.vw 4 rfl) Try.underlying23 tk_5 rfl rfl h13) rfl rfl rfl [0, 1, 2, 3, 4, 5] rfl rfl ?_
  refine JT.take (i := 6) (v := .int .u8 (gd x4 (IntKind.wrap .i64 ((IntKind.wrap .i64 (x6 - (1 : Int))) - x1)))) hsel rfl (QV.el1 (Rdg.vw 4 rfl) tk_5 rfl h13 rfl) rfl rfl rfl [0, 1, 2, 3, 4, 5] rfl rfl ?_
  refine JT.take (i := 7) (v := s8.v) hsel rfl (QV.load1 (ss := [Seg.c (s8.v)]) 2 0 rfl tk_23 rfl rfl rfl) rfl rfl rfl [0, 1, 2, 3, 4, 5] rfl rfl ?_
  refine JT.take (i := 8) (v := .int .i64 x11) hsel rfl (QV.load1 (ss := [Seg.c (.int .i64 x11)]) 3 0 rfl tk_3 rfl rfl rfl) rfl rfl rfl [0, 1, 2, 3, 4, 5] rfl rfl ?_
  refine JT.take (i := 9) (v := .int .i64 (IntKind.wrap .i64 (x11 - (1 : Int)))) hsel rfl (QV.sub rfl rfl) rfl rfl rfl [0, 1, 2, 3, 4, 5] rfl rfl ?_
  refine JT.only (i := 10) (d := some 17) rfl (MV.ofQV (v := .int .i64 x1) (QV.move rfl)) rfl rfl rfl ?_
  rintro _ _ ⟨rfl, rfl⟩
  refine ⟨fun _ => ⟨[0, 1, 2, 3, 4, 5], rfl, rfl⟩, ?_⟩
  refine JT.only (i := 11) (d := some 18) rfl (MV.ofQV (v := .int .i64 (IntKind.wrap .i64 ((IntKind.wrap .i64 (x11 - (1 : Int))) - x1))) (QV.sub rfl rfl)) rfl rfl rfl ?_
  rintro _ _ ⟨rfl, rfl⟩
  refine ⟨fun _ => ⟨[0, 1, 2, 3, 4, 5], rfl, rfl⟩, ?_⟩
  obtain ⟨h14, hm⟩ := guard_inv hm
  refine JT.only (i := 12) (d := some 19) rfl (MV.ofQV (v := .pointer (some (elA (s8.v) (Int.toNat (IntKind.wrap .i64 ((IntKind.wrap .i64 (x11 - (1 : Int))) - x1)) * ((Enc.int .u8)).sz)))) (QV.indexA (Rdg.vw 5 rfl) Try.underlying23 tk_5 rfl rfl h14)) rfl rfl rfl ?_
  rintro _ _ ⟨rfl, rfl⟩
  refine ⟨fun _ => ⟨[0, 1, 2, 3, 4, 5], rfl, rfl⟩, ?_⟩
  refine JT.only (i := 13) (d := some 20) rfl (MV.ofQV (v := .int .u8 (gd x9 (IntKind.wrap .i64 ((IntKind.wrap .i64 (x11 - (1 : Int))) - x1)))) (QV.el1 (Rdg.vw 5 rfl) tk_5 rfl h14 rfl)) rfl rfl rfl ?_
  rintro _ _ ⟨rfl, rfl⟩
  refine ⟨fun _ => ⟨[0, 1, 2, 3, 4, 5], rfl, rfl⟩, ?_⟩
  refine JT.only (i := 14) (d := some 21) rfl (MV.ofQV (v := .bool (decide ((gd x4 (IntKind.wrap .i64 ((IntKind.wrap .i64 (x6 - (1 : Int))) - x1))) = (gd x9 (IntKind.wrap .i64 ((IntKind.wrap .i64 (x11 - (1 : Int))) - x1)))))) (QV.eql rfl rfl)) rfl rfl rfl ?_
  rintro _ _ ⟨rfl, rfl⟩
  refine ⟨fun _ => ⟨[0, 1, 2, 3, 4, 5], rfl, rfl⟩, ?_⟩
  refine JT.only (i := 15) (d := some 6) rfl (MV.ofQV (v := .bool (decide ((gd x4 (IntKind.wrap .i64 ((IntKind.wrap .i64 (x6 - (1 : Int))) - x1))) = (gd x9 (IntKind.wrap .i64 ((IntKind.wrap .i64 (x11 - (1 : Int))) - x1)))))) (QV.assign rfl)) rfl rfl rfl ?_
  rintro _ _ ⟨rfl, rfl⟩
  refine ⟨fun _ => ⟨[0, 1, 2, 3, 4, 5], rfl, rfl⟩, ?_⟩
  refine JT.nil ?_
  refine QJ.then_normal ?_
  refine JC.ret ?_
  obtain rfl := Option.some.inj hm
  exact QJ.body (vs := [.bool (decide ((gd x4 (IntKind.wrap .i64 ((IntKind.wrap .i64 (x6 - (1 : Int))) - x1))) = (gd x9 (IntKind.wrap .i64 ((IntKind.wrap .i64 (x11 - (1 : Int))) - x1)))))]) (.inl rfl) rfl (ResVs.cons (ResV.tmp rfl) ResVs.nil) [4, 0, 1, 5, 2, 3] rfl rfl (.inl rfl) ⟨rfl, rfl⟩

/-! ### 53: drogher/match.reach -/
noncomputable def F53.j1  (d13 : Int) : Option Int :=
  some d13
noncomputable def F53.j2 (d17 : Int) (d27 : Int) (d28 : Int) (d29 : Int) : Option ((Int × Int × Int × Int) ⊕ Int) :=
  some (.inl (d27, d28, d29, (IntKind.wrap .i64 (d17 + (1 : Int)))))
noncomputable def F53.j4 (d17 : Int) (d32 : Int) (d36 : Int) (d37 : Int) : Option ((Int × Int × Int × Int) ⊕ Int) :=
  (if d32 < (IntKind.wrap .i64 (d36 - (24 : Int))) then some (.inr d37) else F53.j2 d17 (d36) (d32) (d37))
noncomputable def F53.j3 (x4 : List Int) (x6 : Int) (x9 : List Int) (x11 : Int) (d14 : Int) (d16 : Int) (d17 : Int) (d32 : Int) : Option ((Int × Int × Int × Int) ⊕ Int) :=
  (if d14 ≤ d32 then ((F54.m (d17) (x4) (x6) (x9) (x11)).bind fun y34 => (if y34 = true then F53.j4 d17 d32 (d32) ((IntKind.wrap .i64 (d17 + (1 : Int)))) else F53.j4 d17 d32 (d14) (d16))) else (if d32 < (IntKind.wrap .i64 (d14 - (24 : Int))) then some (.inr d16) else F53.j2 d17 (d14) (d32) (d16)))
noncomputable def F53.b1 (x1 : Int) (x4 : List Int) (x6 : Int) (x9 : List Int) (x11 : Int) : (Int × Int × Int × Int) → Option ((Int × Int × Int × Int) ⊕ Int)
  | (d14, d15, d16, d17) => (if d17 < x1 then ((F54.m (d17) (x4) (x6) (x9) (x11)).bind fun y30 => (if y30 = true then F53.j3 x4 x6 x9 x11 d14 d16 d17 ((IntKind.wrap .i64 (d15 + (1 : Int)))) else F53.j3 x4 x6 x9 x11 d14 d16 d17 ((IntKind.wrap .i64 (d15 - (1 : Int)))))) else some (.inr d16))
noncomputable def F53.m (x1 : Int) (x4 : List Int) (x6 : Int) (x9 : List Int) (x11 : Int) : Option Int :=
  ((loop (F53.b1 x1 x4 x6 x9 x11) ((0 : Int), (0 : Int), (0 : Int), (0 : Int))).bind fun y => match y with | d13 => F53.j1 (d13))
set_option maxRecDepth 100000 in
set_option maxHeartbeats 4000000 in
theorem F53.spec (b2 : Nat) (s3 : SlV) (b5 : Nat) (b7 : Nat) (s8 : SlV) (b10 : Nat) (x1 : Int) (x4 : List Int) (x6 : Int) (x9 : List Int) (x11 : Int) (r : Int) (hm : F53.m x1 x4 x6 x9 x11 = some r) :
    Ctr Try.prog true 53 [.int .i64 x1, .func (.func 54) #[] #[.pointer (some ⟨b2, 0, none⟩), .pointer (some ⟨b5, 0, none⟩), .pointer (some ⟨b7, 0, none⟩), .pointer (some ⟨b10, 0, none⟩)]] [Asr.blk b2 23 [Seg.c (s3.v)], Asr.blk b5 3 [Seg.c (.int .i64 x6)], Asr.blk b7 23 [Seg.c (s8.v)], Asr.blk b10 3 [Seg.c (.int .i64 x11)], Asr.vw (Enc.int .u8) (s3.v) x4, Asr.vw (Enc.int .u8) (s8.v) x9] (fun v L' => v = .int .i64 r ∧ L' = [Asr.vw (Enc.int .u8) (s3.v) x4, Asr.blk b2 23 [Seg.c (s3.v)], Asr.blk b5 3 [Seg.c (.int .i64 x6)], Asr.vw (Enc.int .u8) (s8.v) x9, Asr.blk b7 23 [Seg.c (s8.v)], Asr.blk b10 3 [Seg.c (.int .i64 x11)]]) := by
  refine Ctr.intro (n := 37) (env := [(0, .int .i64 x1), (1, .func (.func 54) #[] #[.pointer (some ⟨b2, 0, none⟩), .pointer (some ⟨b5, 0, none⟩), .pointer (some ⟨b7, 0, none⟩), .pointer (some ⟨b10, 0, none⟩)])]) Try.func53 rfl rfl rfl rfl (fun c => ?_)
  unfold F53.m at hm
  refine JC.seq ?_
  refine JC.region ?_
  refine JL.val (v := .int .i64 (0 : Int)) (QV.assign rfl) rfl rfl rfl ?_
  refine JL.nil ?_
  refine QJ.then_normal ?_
  refine JC.seq ?_
  refine JC.region ?_
  refine JL.val (v := .int .i64 (0 : Int)) (QV.assign rfl) rfl rfl rfl ?_
  refine JL.val (v := .int .i64 (0 : Int)) (QV.assign rfl) rfl rfl rfl ?_
  refine JL.val (v := .int .i64 (0 : Int)) (QV.assign rfl) rfl rfl rfl ?_
  refine JL.nil ?_
  refine QJ.then_normal ?_
  refine JC.seq ?_
  refine JC.seq ?_
  refine JC.region ?_
  refine JL.val (v := .int .i64 x1) (QV.move rfl) rfl rfl rfl ?_
  refine JL.val (v := .int .i64 (0 : Int)) (QV.move rfl) rfl rfl rfl ?_
  refine JL.nil ?_
  refine QJ.then_normal ?_
  refine JC.cutK (Y := Int × Unit) (fun y => match y with | (d13, _) => F53.j1 (d13) = some r) (fun y => match y with | (d13, _) => [(7, .int .i64 d13)]) (fun y => match y with | (d13, _) => [Asr.vw (Enc.int .u8) (s3.v) x4, Asr.blk b2 23 [Seg.c (s3.v)], Asr.blk b5 3 [Seg.c (.int .i64 x6)], Asr.vw (Enc.int .u8) (s8.v) x9, Asr.blk b7 23 [Seg.c (s8.v)], Asr.blk b10 3 [Seg.c (.int .i64 x11)]]) ?_ ?_
  ·
    rintro ⟨d13, ⟨⟩⟩ hm
    unfold F53.j1 at hm
    show QJ _ _ [(7, .int .i64 d13)] [Asr.vw (Enc.int .u8) (s3.v) x4, Asr.blk b2 23 [Seg.c (s3.v)], Asr.blk b5 3 [Seg.c (.int .i64 x6)], Asr.vw (Enc.int .u8) (s8.v) x9, Asr.blk b7 23 [Seg.c (s8.v)], Asr.blk b10 3 [Seg.c (.int .i64 x11)]] _ _
    refine QJ.then_normal ?_
    refine JC.seq ?_
    refine JC.region ?_
    refine JL.val (v := .int .i64 d13) (QV.move rfl) rfl rfl rfl ?_
    refine JL.val (v := .int .i64 d13) (QV.assign rfl) rfl rfl rfl ?_
    refine JL.nil ?_
    refine QJ.then_normal ?_
    refine JC.ret ?_
    obtain rfl := Option.some.inj hm
    exact QJ.body (vs := [.int .i64 d13]) (.inl rfl) rfl (ResVs.cons (ResV.tmp rfl) ResVs.nil) [0, 1, 2, 3, 4, 5] rfl rfl (.inl rfl) ⟨rfl, rfl⟩
  ·
    refine JC.block ?_
    obtain ⟨y22, hl23, hmo24⟩ := bind_inv hm
    refine JC.loop (F53.b1 x1 x4 x6 x9 x11) (fun x z => match x, z with | (d14, d15, d16, d17), _ => [(1, .func (.func 54) #[] #[.pointer (some ⟨b2, 0, none⟩), .pointer (some ⟨b5, 0, none⟩), .pointer (some ⟨b7, 0, none⟩), .pointer (some ⟨b10, 0, none⟩)]), (5, .int .i64 d14), (6, .int .i64 d15), (7, .int .i64 d16), (9, .int .i64 x1), (10, .int .i64 d17)]) (fun x z => match x, z with | (d14, d15, d16, d17), _ => [Asr.vw (Enc.int .u8) (s3.v) x4, Asr.blk b2 23 [Seg.c (s3.v)], Asr.blk b5 3 [Seg.c (.int .i64 x6)], Asr.vw (Enc.int .u8) (s8.v) x9, Asr.blk b7 23 [Seg.c (s8.v)], Asr.blk b10 3 [Seg.c (.int .i64 x11)]]) ((0 : Int), (0 : Int), (0 : Int), (0 : Int)) () y22 hl23 [4, 0, 1, 5, 2, 3] (by exact ⟨rfl, rfl, rfl, rfl, rfl, rfl, trivial⟩) rfl rfl ?_
    rintro ⟨d14, d15, d16, d17⟩ ⟨⟩ s25 hm
    unfold F53.b1 at hm
    dsimp only at hm
    show JC _ _ _ [(1, .func (.func 54) #[] #[.pointer (some ⟨b2, 0, none⟩), .pointer (some ⟨b5, 0, none⟩), .pointer (some ⟨b7, 0, none⟩), .pointer (some ⟨b10, 0, none⟩)]), (5, .int .i64 d14), (6, .int .i64 d15), (7, .int .i64 d16), (9, .int .i64 x1), (10, .int .i64 d17)] [Asr.vw (Enc.int .u8) (s3.v) x4, Asr.blk b2 23 [Seg.c (s3.v)], Asr.blk b5 3 [Seg.c (.int .i64 x6)], Asr.vw (Enc.int .u8) (s8.v) x9, Asr.blk b7 23 [Seg.c (s8.v)], Asr.blk b10 3 [Seg.c (.int .i64 x11)]] _ _
    refine JC.seq ?_
    refine JC.region ?_
    refine JL.val (v := .bool (decide (d17 < x1))) (QV.lss rfl rfl) rfl rfl rfl ?_
    refine JL.nil ?_
    refine QJ.then_normal ?_
    refine JC.seq ?_
    rcases ite_inv hm with ⟨h26, hm⟩ | ⟨h26, hm⟩
    ·
      refine JC.condT' rfl (decide_eq_true h26) ?_
      refine JC.skip ?_
      refine QJ.then_normal ?_
      refine JC.seq ?_
      refine JC.cutK (Y := (Int × Int × Int) × Unit) (fun y => match y with | ((d27, d28, d29), _) => F53.j2 d17 (d27) (d28) (d29) = some s25) (fun y => match y with | ((d27, d28, d29), _) => [(1, .func (.func 54) #[] #[.pointer (some ⟨b2, 0, none⟩), .pointer (some ⟨b5, 0, none⟩), .pointer (some ⟨b7, 0, none⟩), .pointer (some ⟨b10, 0, none⟩)]), (5, .int .i64 d27), (6, .int .i64 d28), (7, .int .i64 d29), (9, .int .i64 x1), (10, .int .i64 d17)]) (fun y => match y with | ((d27, d28, d29), _) => [Asr.vw (Enc.int .u8) (s3.v) x4, Asr.blk b2 23 [Seg.c (s3.v)], Asr.blk b5 3 [Seg.c (.int .i64 x6)], Asr.vw (Enc.int .u8) (s8.v) x9, Asr.blk b7 23 [Seg.c (s8.v)], Asr.blk b10 3 [Seg.c (.int .i64 x11)]]) ?_ ?_
      ·
        rintro ⟨⟨d27, d28, d29⟩, ⟨⟩⟩ hm
        unfold F53.j2 at hm
        show QJ _ _ [(1, .func (.func 54) #[] #[.pointer (some ⟨b2, 0, none⟩), .pointer (some ⟨b5, 0, none⟩), .pointer (some ⟨b7, 0, none⟩), .pointer (some ⟨b10, 0, none⟩)]), (5, .int .i64 d27), (6, .int .i64 d28), (7, .int .i64 d29), (9, .int .i64 x1), (10, .int .i64 d17)] [Asr.vw (Enc.int .u8) (s3.v) x4, Asr.blk b2 23 [Seg.c (s3.v)], Asr.blk b5 3 [Seg.c (.int .i64 x6)], Asr.vw (Enc.int .u8) (s8.v) x9, Asr.blk b7 23 [Seg.c (s8.v)], Asr.blk b10 3 [Seg.c (.int .i64 x11)]] _ _
        refine QJ.then_normal ?_
        refine JC.region ?_
        refine JL.val (v := .int .i64 (IntKind.wrap .i64 (d17 + (1 : Int)))) (QV.add rfl rfl) rfl rfl rfl ?_
        refine JL.val (v := .int .i64 (IntKind.wrap .i64 (d17 + (1 : Int)))) (QV.move rfl) rfl rfl rfl ?_
        refine JL.nil ?_
        obtain rfl := Option.some.inj hm
        exact QJ.round_on (d27, d28, d29, (IntKind.wrap .i64 (d17 + (1 : Int)))) () [0, 1, 2, 3, 4, 5] (by exact ⟨rfl, rfl, rfl, rfl, rfl, rfl, trivial⟩) rfl rfl
      ·
        refine JC.block ?_
        refine JC.seq ?_
        refine JC.region ?_
        refine JL.val (v := .int .i64 d17) (QV.move rfl) rfl rfl rfl ?_
        refine JL.val (v := .int .i64 d17) (QV.assign rfl) rfl rfl rfl ?_
        refine JL.nil ?_
        refine QJ.then_normal ?_
        refine JC.seq ?_
        refine JC.seq ?_
        refine JC.region ?_
        refine JL.val (v := .func (.func 54) #[] #[.pointer (some ⟨b2, 0, none⟩), .pointer (some ⟨b5, 0, none⟩), .pointer (some ⟨b7, 0, none⟩), .pointer (some ⟨b10, 0, none⟩)]) (QV.move rfl) rfl rfl rfl ?_
        refine JL.val (v := .int .i64 d17) (QV.move rfl) rfl rfl rfl ?_
        obtain ⟨y30, hc31, hm⟩ := bind_inv hm
        refine JL.mv (d := some 15) (MV.callV (vals := [.int .i64 d17]) (cs := [.pointer (some ⟨b2, 0, none⟩), .pointer (some ⟨b5, 0, none⟩), .pointer (some ⟨b7, 0, none⟩), .pointer (some ⟨b10, 0, none⟩)]) (Lo := [Asr.blk b2 23 [Seg.c (s3.v)], Asr.blk b5 3 [Seg.c (.int .i64 x6)], Asr.blk b7 23 [Seg.c (s8.v)], Asr.blk b10 3 [Seg.c (.int .i64 x11)]]) (Lr := [Asr.vw (Enc.int .u8) (s3.v) x4, Asr.vw (Enc.int .u8) (s8.v) x9]) (F54.spec (b2) (s3) (b5) (b7) (s8) (b10) (d17) (x4) (x6) (x9) (x11) _ hc31) rfl rfl rfl Try.func54 rfl rfl rfl [1, 2, 4, 5] [0, 3] rfl rfl rfl ⟨(Drv.vw 0 rfl), ⟨(Drv.vw 1 rfl), trivial⟩⟩) rfl rfl rfl ?_
        rintro _ _ ⟨_, ⟨rfl, rfl⟩, rfl⟩
        refine JL.nil ?_
        refine QJ.then_normal ?_
        refine JC.cutK (Y := Int × Unit) (fun y => match y with | (d32, _) => F53.j3 x4 x6 x9 x11 d14 d16 d17 (d32) = some s25) (fun y => match y with | (d32, _) => [(1, .func (.func 54) #[] #[.pointer (some ⟨b2, 0, none⟩), .pointer (some ⟨b5, 0, none⟩), .pointer (some ⟨b7, 0, none⟩), .pointer (some ⟨b10, 0, none⟩)]), (5, .int .i64 d14), (6, .int .i64 d32), (7, .int .i64 d16), (8, .int .i64 d17), (9, .int .i64 x1), (10, .int .i64 d17)]) (fun y => match y with | (d32, _) => [Asr.vw (Enc.int .u8) (s3.v) x4, Asr.blk b2 23 [Seg.c (s3.v)], Asr.blk b5 3 [Seg.c (.int .i64 x6)], Asr.vw (Enc.int .u8) (s8.v) x9, Asr.blk b7 23 [Seg.c (s8.v)], Asr.blk b10 3 [Seg.c (.int .i64 x11)]]) ?_ ?_
        ·
          rintro ⟨d32, ⟨⟩⟩ hm
          unfold F53.j3 at hm
          show QJ _ _ [(1, .func (.func 54) #[] #[.pointer (some ⟨b2, 0, none⟩), .pointer (some ⟨b5, 0, none⟩), .pointer (some ⟨b7, 0, none⟩), .pointer (some ⟨b10, 0, none⟩)]), (5, .int .i64 d14), (6, .int .i64 d32), (7, .int .i64 d16), (8, .int .i64 d17), (9, .int .i64 x1), (10, .int .i64 d17)] [Asr.vw (Enc.int .u8) (s3.v) x4, Asr.blk b2 23 [Seg.c (s3.v)], Asr.blk b5 3 [Seg.c (.int .i64 x6)], Asr.vw (Enc.int .u8) (s8.v) x9, Asr.blk b7 23 [Seg.c (s8.v)], Asr.blk b10 3 [Seg.c (.int .i64 x11)]] _ _
          refine QJ.then_normal ?_
          refine JC.seq ?_
          refine JC.seq ?_
          refine JC.region ?_
          refine JL.val (v := .int .i64 d32) (QV.move rfl) rfl rfl rfl ?_
          refine JL.val (v := .int .i64 d14) (QV.move rfl) rfl rfl rfl ?_
          refine JL.val (v := .bool (decide (d14 ≤ d32))) (QV.geq rfl rfl) rfl rfl rfl ?_
          rcases ite_inv hm with ⟨h33, hm⟩ | ⟨h33, hm⟩
          ·
            refine JL.val (v := .bool true) (QV.eq (QV.move rfl) (congrArg Value.bool (decide_eq_true h33))) rfl rfl rfl ?_
            refine JL.val (v := .func (.func 54) #[] #[.pointer (some ⟨b2, 0, none⟩), .pointer (some ⟨b5, 0, none⟩), .pointer (some ⟨b7, 0, none⟩), .pointer (some ⟨b10, 0, none⟩)]) (QV.move rfl) rfl rfl rfl ?_
            refine JL.val (v := .int .i64 d17) (QV.move rfl) rfl rfl rfl ?_
            obtain ⟨y34, hc35, hm⟩ := bind_inv hm
            refine JL.mv (d := some 26) (MV.callV (vals := [.int .i64 d17]) (cs := [.pointer (some ⟨b2, 0, none⟩), .pointer (some ⟨b5, 0, none⟩), .pointer (some ⟨b7, 0, none⟩), .pointer (some ⟨b10, 0, none⟩)]) (Lo := [Asr.blk b2 23 [Seg.c (s3.v)], Asr.blk b5 3 [Seg.c (.int .i64 x6)], Asr.blk b7 23 [Seg.c (s8.v)], Asr.blk b10 3 [Seg.c (.int .i64 x11)]]) (Lr := [Asr.vw (Enc.int .u8) (s3.v) x4, Asr.vw (Enc.int .u8) (s8.v) x9]) (F54.spec (b2) (s3) (b5) (b7) (s8) (b10) (d17) (x4) (x6) (x9) (x11) _ hc35) rfl rfl rfl Try.func54 rfl rfl rfl [1, 2, 4, 5] [0, 3] rfl rfl rfl ⟨(Drv.vw 0 rfl), ⟨(Drv.vw 1 rfl), trivial⟩⟩) rfl rfl rfl ?_
            rintro _ _ ⟨_, ⟨rfl, rfl⟩, rfl⟩
            refine JL.val (v := .bool y34) (QV.pickT rfl rfl) rfl rfl rfl ?_
            refine JL.nil ?_
            refine QJ.then_normal ?_
            refine JC.cutK (Y := (Int × Int) × Unit) (fun y => match y with | ((d36, d37), _) => F53.j4 d17 d32 (d36) (d37) = some s25) (fun y => match y with | ((d36, d37), _) => [(1, .func (.func 54) #[] #[.pointer (some ⟨b2, 0, none⟩), .pointer (some ⟨b5, 0, none⟩), .pointer (some ⟨b7, 0, none⟩), .pointer (some ⟨b10, 0, none⟩)]), (5, .int .i64 d36), (6, .int .i64 d32), (7, .int .i64 d37), (9, .int .i64 x1), (10, .int .i64 d17)]) (fun y => match y with | ((d36, d37), _) => [Asr.vw (Enc.int .u8) (s3.v) x4, Asr.blk b2 23 [Seg.c (s3.v)], Asr.blk b5 3 [Seg.c (.int .i64 x6)], Asr.vw (Enc.int .u8) (s8.v) x9, Asr.blk b7 23 [Seg.c (s8.v)], Asr.blk b10 3 [Seg.c (.int .i64 x11)]]) ?_ ?_
            ·
              rintro ⟨⟨d36, d37⟩, ⟨⟩⟩ hm
              unfold F53.j4 at hm
              show QJ _ _ [(1, .func (.func 54) #[] #[.pointer (some ⟨b2, 0, none⟩), .pointer (some ⟨b5, 0, none⟩), .pointer (some ⟨b7, 0, none⟩), .pointer (some ⟨b10, 0, none⟩)]), (5, .int .i64 d36), (6, .int .i64 d32), (7, .int .i64 d37), (9, .int .i64 x1), (10, .int .i64 d17)] [Asr.vw (Enc.int .u8) (s3.v) x4, Asr.blk b2 23 [Seg.c (s3.v)], Asr.blk b5 3 [Seg.c (.int .i64 x6)], Asr.vw (Enc.int .u8) (s8.v) x9, Asr.blk b7 23 [Seg.c (s8.v)], Asr.blk b10 3 [Seg.c (.int .i64 x11)]] _ _
              refine QJ.then_normal ?_
              refine JC.seq ?_
              refine JC.region ?_
              refine JL.val (v := .int .i64 d32) (QV.move rfl) rfl rfl rfl ?_
              refine JL.val (v := .int .i64 d36) (QV.move rfl) rfl rfl rfl ?_
              refine JL.val (v := .int .i64 (IntKind.wrap .i64 (d36 - (24 : Int)))) (QV.sub rfl rfl) rfl rfl rfl ?_
              refine JL.val (v := .bool (decide (d32 < (IntKind.wrap .i64 (d36 - (24 : Int)))))) (QV.lss rfl rfl) rfl rfl rfl ?_
              refine JL.nil ?_
              refine QJ.then_normal ?_
              rcases ite_inv hm with ⟨h38, hm⟩ | ⟨h38, hm⟩
              ·
                refine JC.condT' rfl (decide_eq_true h38) ?_
                refine JC.exit ?_
                refine QJ.block_miss rfl ?_
                refine QJ.cut_exit ?_
                refine QJ.then_exit ?_
                obtain rfl := Option.some.inj hm
                refine QJ.round_exit (fun hy => ?_)
                subst hy
                refine QJ.block_hit ?_
                exact QJ.cut_normal (d37, ()) hmo24 [0, 1, 2, 3, 4, 5] (by exact ⟨rfl, trivial⟩) rfl rfl
              ·
                refine JC.condF' rfl (decide_eq_false h38) ?_
                refine JC.skip ?_
                refine QJ.block_normal ?_
                exact QJ.cut_normal ((d36, d32, d37), ()) hm [0, 1, 2, 3, 4, 5] (by exact ⟨rfl, rfl, rfl, rfl, rfl, rfl, trivial⟩) rfl rfl
            ·
              rcases ite_inv hm with ⟨h39, hm⟩ | ⟨h39, hm⟩
              ·
                refine JC.condT' rfl h39 ?_
                refine JC.region ?_
                refine JL.val (v := .int .i64 d32) (QV.move rfl) rfl rfl rfl ?_
                refine JL.val (v := .int .i64 d17) (QV.move rfl) rfl rfl rfl ?_
                refine JL.val (v := .int .i64 (IntKind.wrap .i64 (d17 + (1 : Int)))) (QV.add rfl rfl) rfl rfl rfl ?_
                refine JL.val (v := .int .i64 d32) (QV.assign rfl) rfl rfl rfl ?_
                refine JL.val (v := .int .i64 (IntKind.wrap .i64 (d17 + (1 : Int)))) (QV.assign rfl) rfl rfl rfl ?_
                refine JL.nil ?_
                exact QJ.cut_normal ((d32, (IntKind.wrap .i64 (d17 + (1 : Int)))), ()) hm [0, 1, 2, 3, 4, 5] (by exact ⟨rfl, rfl, rfl, rfl, rfl, rfl, trivial⟩) rfl rfl
              ·
                refine JC.condF' rfl (bfalse h39) ?_
                refine JC.skip ?_
                exact QJ.cut_normal ((d14, d16), ()) hm [0, 1, 2, 3, 4, 5] (by exact ⟨rfl, rfl, rfl, rfl, rfl, rfl, trivial⟩) rfl rfl
          ·
            refine JL.val (v := .bool false) (QV.eq (QV.move rfl) (congrArg Value.bool (decide_eq_false h33))) rfl rfl rfl ?_
            refine JL.skip (d := some 24) rfl rfl rfl ?_
            refine JL.skip (d := some 25) rfl rfl rfl ?_
            refine JL.skip (d := some 26) rfl rfl rfl ?_
            refine JL.val (v := .bool false) (QV.pickF rfl rfl) rfl rfl rfl ?_
            refine JL.nil ?_
            refine QJ.then_normal ?_
            refine JC.condF rfl ?_
            refine JC.skip ?_
            refine QJ.then_normal ?_
            refine JC.seq ?_
            refine JC.region ?_
            refine JL.val (v := .int .i64 d32) (QV.move rfl) rfl rfl rfl ?_
            refine JL.val (v := .int .i64 d14) (QV.move rfl) rfl rfl rfl ?_
            refine JL.val (v := .int .i64 (IntKind.wrap .i64 (d14 - (24 : Int)))) (QV.sub rfl rfl) rfl rfl rfl ?_
            refine JL.val (v := .bool (decide (d32 < (IntKind.wrap .i64 (d14 - (24 : Int)))))) (QV.lss rfl rfl) rfl rfl rfl ?_
            refine JL.nil ?_
            refine QJ.then_normal ?_
            rcases ite_inv hm with ⟨h40, hm⟩ | ⟨h40, hm⟩
            ·
              refine JC.condT' rfl (decide_eq_true h40) ?_
              refine JC.exit ?_
              refine QJ.block_miss rfl ?_
              refine QJ.cut_exit ?_
              refine QJ.then_exit ?_
              obtain rfl := Option.some.inj hm
              refine QJ.round_exit (fun hy => ?_)
              subst hy
              refine QJ.block_hit ?_
              exact QJ.cut_normal (d16, ()) hmo24 [0, 1, 2, 3, 4, 5] (by exact ⟨rfl, trivial⟩) rfl rfl
            ·
              refine JC.condF' rfl (decide_eq_false h40) ?_
              refine JC.skip ?_
              refine QJ.block_normal ?_
              exact QJ.cut_normal ((d14, d32, d16), ()) hm [0, 1, 2, 3, 4, 5] (by exact ⟨rfl, rfl, rfl, rfl, rfl, rfl, trivial⟩) rfl rfl
        ·
          rcases ite_inv hm with ⟨h41, hm⟩ | ⟨h41, hm⟩
          ·
            refine JC.condT' rfl h41 ?_
            refine JC.region ?_
            refine JL.val (v := .int .i64 d15) (QV.move rfl) rfl rfl rfl ?_
            refine JL.val (v := .int .i64 (IntKind.wrap .i64 (d15 + (1 : Int)))) (QV.add rfl rfl) rfl rfl rfl ?_
            refine JL.val (v := .int .i64 (IntKind.wrap .i64 (d15 + (1 : Int)))) (QV.assign rfl) rfl rfl rfl ?_
            refine JL.nil ?_
            exact QJ.cut_normal ((IntKind.wrap .i64 (d15 + (1 : Int))), ()) hm [0, 1, 2, 3, 4, 5] (by exact ⟨rfl, rfl, rfl, rfl, rfl, rfl, rfl, trivial⟩) rfl rfl
          ·
            refine JC.condF' rfl (bfalse h41) ?_
            refine JC.region ?_
            refine JL.val (v := .int .i64 d15) (QV.move rfl) rfl rfl rfl ?_
            refine JL.val (v := .int .i64 (IntKind.wrap .i64 (d15 - (1 : Int)))) (QV.sub rfl rfl) rfl rfl rfl ?_
            refine JL.val (v := .int .i64 (IntKind.wrap .i64 (d15 - (1 : Int)))) (QV.assign rfl) rfl rfl rfl ?_
            refine JL.nil ?_
            exact QJ.cut_normal ((IntKind.wrap .i64 (d15 - (1 : Int))), ()) hm [0, 1, 2, 3, 4, 5] (by exact ⟨rfl, rfl, rfl, rfl, rfl, rfl, rfl, trivial⟩) rfl rfl
    ·
      refine JC.condF' rfl (decide_eq_false h26) ?_
      refine JC.exit ?_
      refine QJ.then_exit ?_
      obtain rfl := Option.some.inj hm
      refine QJ.round_exit (fun hy => ?_)
      subst hy
      refine QJ.block_hit ?_
      exact QJ.cut_normal (d16, ()) hmo24 [0, 1, 2, 3, 4, 5] (by exact ⟨rfl, trivial⟩) rfl rfl

/-! ### 55: drogher/match.Find$2 -/
noncomputable def F55.m (x1 : Int) (x4 : List Int) (x6 : Int) (x8 : Int) (x11 : List Int) (x13 : Int) : Option Bool :=
  (if 0 ≤ (IntKind.wrap .i64 ((IntKind.wrap .i64 (x6 + x8)) + x1)) ∧ (IntKind.wrap .i64 ((IntKind.wrap .i64 (x6 + x8)) + x1)) < ((x4).length : Int) then (if 0 ≤ (IntKind.wrap .i64 ((IntKind.wrap .i64 (x13 + x8)) + x1)) ∧ (IntKind.wrap .i64 ((IntKind.wrap .i64 (x13 + x8)) + x1)) < ((x11).length : Int) then some (decide ((gd x4 (IntKind.wrap .i64 ((IntKind.wrap .i64 (x6 + x8)) + x1))) = (gd x11 (IntKind.wrap .i64 ((IntKind.wrap .i64 (x13 + x8)) + x1))))) else none) else none)
set_option maxRecDepth 100000 in
set_option maxHeartbeats 4000000 in
theorem F55.spec (b2 : Nat) (s3 : SlV) (b5 : Nat) (b7 : Nat) (b9 : Nat) (s10 : SlV) (b12 : Nat) (x1 : Int) (x4 : List Int) (x6 : Int) (x8 : Int) (x11 : List Int) (x13 : Int) (r : Bool) (hm : F55.m x1 x4 x6 x8 x11 x13 = some r) :
    Ctr Try.prog true 55 [.int .i64 x1, .pointer (some ⟨b2, 0, none⟩), .pointer (some ⟨b5, 0, none⟩), .pointer (some ⟨b7, 0, none⟩), .pointer (some ⟨b9, 0, none⟩), .pointer (some ⟨b12, 0, none⟩)] [Asr.blk b2 23 [Seg.c (s3.v)], Asr.blk b5 3 [Seg.c (.int .i64 x6)], Asr.blk b7 3 [Seg.c (.int .i64 x8)], Asr.blk b9 23 [Seg.c (s10.v)], Asr.blk b12 3 [Seg.c (.int .i64 x13)], Asr.vw (Enc.int .u8) (s3.v) x4, Asr.vw (Enc.int .u8) (s10.v) x11] (fun v L' => v = .bool r ∧ L' = [Asr.vw (Enc.int .u8) (s3.v) x4, Asr.blk b2 23 [Seg.c (s3.v)], Asr.blk b5 3 [Seg.c (.int .i64 x6)], Asr.blk b7 3 [Seg.c (.int .i64 x8)], Asr.vw (Enc.int .u8) (s10.v) x11, Asr.blk b9 23 [Seg.c (s10.v)], Asr.blk b12 3 [Seg.c (.int .i64 x13)]]) := by
  refine Ctr.intro (n := 25) (env := [(0, .int .i64 x1), (1, .pointer (some ⟨b2, 0, none⟩)), (2, .pointer (some ⟨b5, 0, none⟩)), (3, .pointer (some ⟨b7, 0, none⟩)), (4, .pointer (some ⟨b9, 0, none⟩)), (5, .pointer (some ⟨b12, 0, none⟩))]) Try.func55 rfl rfl rfl rfl (fun c => ?_)
  unfold F55.m at hm
  refine JC.seq ?_
  refine JC.region ?_
  refine JL.val (v := .bool false) (QV.assign rfl) rfl rfl rfl ?_
  refine JL.nil ?_
  refine QJ.then_normal ?_
  refine JC.seq ?_
  refine JC.regionT [Asr.blk b2 23 [Seg.c (s3.v)], Asr.blk b5 3 [Seg.c (.int .i64 x6)], Asr.blk b7 3 [Seg.c (.int .i64 x8)], Asr.blk b9 23 [Seg.c (s10.v)], Asr.blk b12 3 [Seg.c (.int .i64 x13)], Asr.vw (Enc.int .u8) (s3.v) x4, Asr.vw (Enc.int .u8) (s10.v) x11] (fun t => false) [(0, true), (1, true), (2, true), (3, true), (4, true), (5, true), (6, true), (7, true), (8, true), (9, true), (10, true), (11, true), (12, false), (13, false), (14, false), (15, false), (16, false), (17, false)] (by kernel_rfl) (by kernel_rfl) (by kernel_rfl) rfl (fun hsel => ?_)
  refine JT.take (i := 0) (v := s3.v) hsel rfl (QV.load1 (ss := [Seg.c (s3.v)]) 0 0 rfl tk_23 rfl rfl rfl) rfl rfl rfl [0, 1, 2, 3, 4, 5, 6] rfl rfl ?_
  refine JT.take (i := 1) (v := .int .i64 x6) hsel rfl (QV.load1 (ss := [Seg.c (.int .i64 x6)]) 1 0 rfl tk_3 rfl rfl rfl) rfl rfl rfl [0, 1, 2, 3, 4, 5, 6] rfl rfl ?_
  refine JT.take (i := 2) (v := .int .i64 x8) hsel rfl (QV.load1 (ss := [Seg.c (.int .i64 x8)]) 2 0 rfl tk_3 rfl rfl rfl) rfl rfl rfl [0, 1, 2, 3, 4, 5, 6] rfl rfl ?_
  refine JT.take (i := 3) (v := .int .i64 (IntKind.wrap .i64 (x6 + x8))) hsel rfl (QV.add rfl rfl) rfl rfl rfl [0, 1, 2, 3, 4, 5, 6] rfl rfl ?_
  refine JT.take (i := 4) (v := .int .i64 x1) hsel rfl (QV.move rfl) rfl rfl rfl [0, 1, 2, 3, 4, 5, 6] rfl rfl ?_
  refine JT.take (i := 5) (v := .int .i64 (IntKind.wrap .i64 ((IntKind.wrap .i64 (x6 + x8)) + x1))) hsel rfl (QV.add rfl rfl) rfl rfl rfl [0, 1, 2, 3, 4, 5, 6] rfl rfl ?_
  obtain ⟨h15, hm⟩ := guard_inv hm
  refine JT.take (i := 6) (v := .pointer (some (elA (s3.v) (Int.toNat (IntKind.wrap .i64 ((IntKind.wrap .i64 (x6 + x8)) + x1)) * ((Enc.int .u8)).sz)))) hsel rfl (QV.indexA (Rdg.vw 5 rfl) Try.underlying23 tk_5 rfl rfl h15) rfl rfl rfl [0, 1, 2, 3, 4, 5, 6] rfl rfl ?_
  refine JT.take (i := 7) (v := .int .u8 (gd x4 (IntKind.wrap .i64 ((IntKind.wrap .i64 (x6 + x8)) + x1)))) hsel rfl (QV.el1 (Rdg.vw 5 rfl) tk_5 rfl h15 rfl) rfl rfl rfl [0, 1, 2, 3, 4, 5, 6] rfl rfl ?_
  refine JT.take (i := 8) (v := s10.v) hsel rfl (QV.load1 (ss := [Seg.c (s10.v)]) 3 0 rfl tk_23 rfl rfl rfl) rfl rfl rfl [0, 1, 2, 3, 4, 5, 6] rfl rfl ?_
  refine JT.take (i := 9) (v := .int .i64 x13) hsel rfl (QV.load1 (ss := [Seg.c (.int .i64 x13)]) 4 0 rfl tk_3 rfl rfl rfl) rfl rfl rfl [0, 1, 2, 3, 4, 5, 6] rfl rfl ?_
  refine JT.take (i := 10) (v := .int .i64 x8) hsel rfl (QV.load1 (ss := [Seg.c (.int .i64 x8)]) 2 0 rfl tk_3 rfl rfl rfl) rfl rfl rfl [0, 1, 2, 3, 4, 5, 6] rfl rfl ?_
  refine JT.take (i := 11) (v := .int .i64 (IntKind.wrap .i64 (x13 + x8))) hsel rfl (QV.add rfl rfl) rfl rfl rfl [0, 1, 2, 3, 4, 5, 6] rfl rfl ?_
  refine JT.only (i := 12) (d := some 20) rfl (MV.ofQV (v := .int .i64 x1) (QV.move rfl)) rfl rfl rfl ?_
  rintro _ _ ⟨rfl, rfl⟩
  refine ⟨fun _ => ⟨[0, 1, 2, 3, 4, 5, 6], rfl, rfl⟩, ?_⟩
  refine JT.only (i := 13) (d := some 21) rfl (MV.ofQV (v := .int .i64 (IntKind.wrap .i64 ((IntKind.wrap .i64 (x13 + x8)) + x1))) (QV.add rfl rfl)) rfl rfl rfl ?_
  rintro _ _ ⟨rfl, rfl⟩
  refine ⟨fun _ => ⟨[0, 1, 2, 3, 4, 5, 6], rfl, rfl⟩, ?_⟩
  obtain ⟨h16, hm⟩ := guard_inv hm
  refine JT.only (i := 14) (d := some 22) rfl (MV.ofQV (v := .pointer (some (elA (s10.v) (Int.toNat (IntKind.wrap .i64 ((IntKind.wrap .i64 (x13 + x8)) + x1)) * ((Enc.int .u8)).sz)))) (QV.indexA (Rdg.vw 6 rfl) Try.underlying23 tk_5 rfl rfl h16)) rfl rfl rfl ?_
  rintro _ _ ⟨rfl, rfl⟩
  refine ⟨fun _ => ⟨[0, 1, 2, 3, 4, 5, 6], rfl, rfl⟩, ?_⟩
  refine JT.only (i := 15) (d := some 23) rfl (MV.ofQV (v := .int .u8 (gd x11 (IntKind.wrap .i64 ((IntKind.wrap .i64 (x13 + x8)) + x1)))) (QV.el1 (Rdg.vw 6 rfl) tk_5 rfl h16 rfl)) rfl rfl rfl ?_
  rintro _ _ ⟨rfl, rfl⟩
  refine ⟨fun _ => ⟨[0, 1, 2, 3, 4, 5, 6], rfl, rfl⟩, ?_⟩
  refine JT.only (i := 16) (d := some 24) rfl (MV.ofQV (v := .bool (decide ((gd x4 (IntKind.wrap .i64 ((IntKind.wrap .i64 (x6 + x8)) + x1))) = (gd x11 (IntKind.wrap .i64 ((IntKind.wrap .i64 (x13 + x8)) + x1)))))) (QV.eql rfl rfl)) rfl rfl rfl ?_
  rintro _ _ ⟨rfl, rfl⟩
  refine ⟨fun _ => ⟨[0, 1, 2, 3, 4, 5, 6], rfl, rfl⟩, ?_⟩
  refine JT.only (i := 17) (d := some 7) rfl (MV.ofQV (v := .bool (decide ((gd x4 (IntKind.wrap .i64 ((IntKind.wrap .i64 (x6 + x8)) + x1))) = (gd x11 (IntKind.wrap .i64 ((IntKind.wrap .i64 (x13 + x8)) + x1)))))) (QV.assign rfl)) rfl rfl rfl ?_
  rintro _ _ ⟨rfl, rfl⟩
  refine ⟨fun _ => ⟨[0, 1, 2, 3, 4, 5, 6], rfl, rfl⟩, ?_⟩
  refine JT.nil ?_
  refine QJ.then_normal ?_
  refine JC.ret ?_
  obtain rfl := Option.some.inj hm
  exact QJ.body (vs := [.bool (decide ((gd x4 (IntKind.wrap .i64 ((IntKind.wrap .i64 (x6 + x8)) + x1))) = (gd x11 (IntKind.wrap .i64 ((IntKind.wrap .i64 (x13 + x8)) + x1)))))]) (.inl rfl) rfl (ResVs.cons (ResV.tmp rfl) ResVs.nil) [5, 0, 1, 2, 6, 3, 4] rfl rfl (.inl rfl) ⟨rfl, rfl⟩

end Go.Proofs.Ytedokgdilpfomaa
