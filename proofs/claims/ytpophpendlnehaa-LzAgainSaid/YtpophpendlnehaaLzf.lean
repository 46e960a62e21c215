/- Written by gen.py: functions and their contracts. -/
import Derived.Test.YtpophpendlnehaaLzfx0
namespace Go.Proofs.Ytpophpendlnehaa
open Go Go.Eng Go.Proofs
set_option linter.unusedVariables false
set_option linter.unusedSimpArgs false
/-! ### 18: drogher/lz.Find -/
noncomputable def F18.j2  (d15 : List (Int × Int × Int)) : Option (List (Int × Int × Int)) :=
  some d15
noncomputable def F18.j3  (d31 : List Int) (d32 : List Int) (d34 : List (Int × Int × Int)) (d35 : Int) : Option ((List Int × List Int × List (Int × Int × Int) × Int) ⊕ (List (Int × Int × Int))) :=
  some (.inl (d31, d32, d34, d35))
noncomputable def F18.j6 (d19 : List (Int × Int × Int)) (d20 : Int) (d45 : Int) (d46 : Int) (d47 : Int) (d48 : Int) (d49 : List Int) (d50 : List Int) : Option ((List Int × List Int × List (Int × Int × Int) × Int) ⊕ (List (Int × Int × Int))) :=
  (if ((d19).length + ([(d45, d46, d47)]).length) * 24 ≤ 140737488355328 ∧ (d19).length + ([(d45, d46, d47)]).length ≤ 9223372036854775807 then F18.j3 (d49) (d50) ((d19 ++ [(d45, d46, d47)])) ((IntKind.wrap .i64 (d20 + d48))) else none)
noncomputable def F18.b2 (x2 : List Int) (d20 : Int) (d48 : Int) : (List Int × List Int × Int) → Option ((List Int × List Int × Int) ⊕ (List Int × List Int))
  | (d54, d55, d56) => (if d56 < d48 then ((F57.m (x2) (d54) (d55) ((IntKind.wrap .i64 (d20 + d56)))).bind fun y65 => some (.inl (y65.1, y65.2, (IntKind.wrap .i64 (d56 + (1 : Int)))))) else some (.inr (d54, d55)))
noncomputable def F18.j5 (x2 : List Int) (d19 : List (Int × Int × Int)) (d20 : Int) (d41 : List Int) (d42 : List Int) (d45 : Int) (d46 : Int) (d47 : Int) (d48 : Int) : Option ((List Int × List Int × List (Int × Int × Int) × Int) ⊕ (List (Int × Int × Int))) :=
  ((loop (F18.b2 x2 d20 d48) (d41, d42, (1 : Int))).bind fun y => match y with | (d49, d50) => F18.j6 d19 d20 d45 d46 d47 d48 (d49) (d50))
noncomputable def F18.j4 (x2 : List Int) (d19 : List (Int × Int × Int)) (d20 : Int) (d41 : List Int) (d42 : List Int) (d43 : Int) (d44 : Int) : Option ((List Int × List Int × List (Int × Int × Int) × Int) ⊕ (List (Int × Int × Int))) :=
  (if d43 = (0 : Int) then (if 0 ≤ d20 ∧ d20 < ((x2).length : Int) then F18.j5 x2 d19 d20 d41 d42 ((gd x2 d20)) ((0 : Int)) ((0 : Int)) ((1 : Int)) else none) else F18.j5 x2 d19 d20 d41 d42 ((0 : Int)) (d43) (d44) (d43))
noncomputable def F18.j7 (x2 : List Int) (d19 : List (Int × Int × Int)) (d20 : Int) (y70 : (List Int × List Int)) (d75 : Int) (d76 : Int) : Option ((List Int × List Int × List (Int × Int × Int) × Int) ⊕ (List (Int × Int × Int))) :=
  F18.j4 x2 d19 d20 (y70.1) (y70.2) (d75) (d76)
noncomputable def F18.j9 (d19 : List (Int × Int × Int)) (d20 : Int) (d82 : Int) (d83 : Int) (d84 : Int) (d85 : Int) (d86 : List Int) (d87 : List Int) : Option ((List Int × List Int × List (Int × Int × Int) × Int) ⊕ (List (Int × Int × Int))) :=
  (if ((d19).length + ([(d82, d83, d84)]).length) * 24 ≤ 140737488355328 ∧ (d19).length + ([(d82, d83, d84)]).length ≤ 9223372036854775807 then F18.j3 (d86) (d87) ((d19 ++ [(d82, d83, d84)])) ((IntKind.wrap .i64 (d20 + d85))) else none)
noncomputable def F18.b3 (x2 : List Int) (d20 : Int) (d85 : Int) : (List Int × List Int × Int) → Option ((List Int × List Int × Int) ⊕ (List Int × List Int))
  | (d91, d92, d93) => (if d93 < d85 then ((F57.m (x2) (d91) (d92) ((IntKind.wrap .i64 (d20 + d93)))).bind fun y102 => some (.inl (y102.1, y102.2, (IntKind.wrap .i64 (d93 + (1 : Int)))))) else some (.inr (d91, d92)))
noncomputable def F18.j8 (x2 : List Int) (d19 : List (Int × Int × Int)) (d20 : Int) (y80 : (List Int × List Int)) (d82 : Int) (d83 : Int) (d84 : Int) (d85 : Int) : Option ((List Int × List Int × List (Int × Int × Int) × Int) ⊕ (List (Int × Int × Int))) :=
  ((loop (F18.b3 x2 d20 d85) (y80.1, y80.2, (1 : Int))).bind fun y => match y with | (d86, d87) => F18.j9 d19 d20 d82 d83 d84 d85 (d86) (d87))
noncomputable def F18.j11 (d19 : List (Int × Int × Int)) (d20 : Int) (d108 : Int) (d109 : Int) (d110 : Int) (d111 : Int) (d112 : List Int) (d113 : List Int) : Option ((List Int × List Int × List (Int × Int × Int) × Int) ⊕ (List (Int × Int × Int))) :=
  (if ((d19).length + ([(d108, d109, d110)]).length) * 24 ≤ 140737488355328 ∧ (d19).length + ([(d108, d109, d110)]).length ≤ 9223372036854775807 then F18.j3 (d112) (d113) ((d19 ++ [(d108, d109, d110)])) ((IntKind.wrap .i64 (d20 + d111))) else none)
noncomputable def F18.b4 (x2 : List Int) (d20 : Int) (d111 : Int) : (List Int × List Int × Int) → Option ((List Int × List Int × Int) ⊕ (List Int × List Int))
  | (d117, d118, d119) => (if d119 < d111 then ((F57.m (x2) (d117) (d118) ((IntKind.wrap .i64 (d20 + d119)))).bind fun y128 => some (.inl (y128.1, y128.2, (IntKind.wrap .i64 (d119 + (1 : Int)))))) else some (.inr (d117, d118)))
noncomputable def F18.j10 (x2 : List Int) (d19 : List (Int × Int × Int)) (d20 : Int) (y106 : (List Int × List Int)) (d108 : Int) (d109 : Int) (d110 : Int) (d111 : Int) : Option ((List Int × List Int × List (Int × Int × Int) × Int) ⊕ (List (Int × Int × Int))) :=
  ((loop (F18.b4 x2 d20 d111) (y106.1, y106.2, (1 : Int))).bind fun y => match y with | (d112, d113) => F18.j11 d19 d20 d108 d109 d110 d111 (d112) (d113))
noncomputable def F18.b1 (x2 : List Int) (x3 : Int) : (List Int × List Int × List (Int × Int × Int) × Int) → Option ((List Int × List Int × List (Int × Int × Int) × Int) ⊕ (List (Int × Int × Int)))
  | (d16, d17, d19, d20) => (if d20 < ((x2).length : Int) then ((F56.m (x2) (d16) (d17) (d20) (x3)).bind fun y36 => (if (0 : Int) < y36.1 then (if y36.1 < (32 : Int) then (if (1 : Int) < x3 then ((F57.m (x2) (d16) (d17) (d20)).bind fun y70 => ((F56.m (x2) (y70.1) (y70.2) ((IntKind.wrap .i64 (d20 + (1 : Int)))) (x3)).bind fun y72 => (if (IntKind.wrap .i64 (y36.1 + (1 : Int))) < y72.1 then F18.j7 x2 d19 d20 y70 ((0 : Int)) ((0 : Int)) else F18.j7 x2 d19 d20 y70 (y36.1) (y36.2)))) else ((F57.m (x2) (d16) (d17) (d20)).bind fun y78 => F18.j4 x2 d19 d20 (y78.1) (y78.2) (y36.1) (y36.2))) else ((F57.m (x2) (d16) (d17) (d20)).bind fun y80 => (if y36.1 = (0 : Int) then (if 0 ≤ d20 ∧ d20 < ((x2).length : Int) then F18.j8 x2 d19 d20 y80 ((gd x2 d20)) ((0 : Int)) ((0 : Int)) ((1 : Int)) else none) else F18.j8 x2 d19 d20 y80 ((0 : Int)) (y36.1) (y36.2) (y36.1)))) else ((F57.m (x2) (d16) (d17) (d20)).bind fun y106 => (if y36.1 = (0 : Int) then (if 0 ≤ d20 ∧ d20 < ((x2).length : Int) then F18.j10 x2 d19 d20 y106 ((gd x2 d20)) ((0 : Int)) ((0 : Int)) ((1 : Int)) else none) else F18.j10 x2 d19 d20 y106 ((0 : Int)) (y36.1) (y36.2) (y36.1))))) else some (.inr d19))
noncomputable def F18.j1 (x2 : List Int) (x3 : Int)  : Option (List (Int × Int × Int)) :=
  ((loop (F18.b1 x2 x3) ((List.replicate (Int.toNat (4096 : Int)) (0 : Int)), (List.replicate (Int.toNat ((x2).length : Int)) (0 : Int)), ([] : List (Int × Int × Int)), (0 : Int))).bind fun y => match y with | d15 => F18.j2 (d15))
noncomputable def F18.m (x2 : List Int) (x3 : Int) : Option (List (Int × Int × Int)) :=
  (if 0 ≤ (4096 : Int) ∧ (4096 : Int) * 8 ≤ 281474976710656 ∧ (4096 : Int) ≤ 9223372036854775807 then (if 0 ≤ ((x2).length : Int) ∧ ((x2).length : Int) * 8 ≤ 281474976710656 ∧ ((x2).length : Int) ≤ 9223372036854775807 then F18.j1 x2 x3 else none) else none)
set_option maxRecDepth 100000 in
set_option maxHeartbeats 4000000 in
theorem F18.spec (s1 : SlV) (x2 : List Int) (x3 : Int) (r : (List (Int × Int × Int))) (hm : F18.m x2 x3 = some r) :
    Ctr Try.prog false 18 [s1.v, .int .i64 x3] [Asr.vw (Enc.int .u8) (s1.v) x2] (fun v L' => ∃ (g4 : SlV), v = g4.v ∧ L' = [Asr.of 23 (Enc.pair (Enc.int .u8) (Enc.pair (Enc.int .i64) (Enc.int .i64))) (g4.v) r]) := by
  refine Ctr.intro (n := 85) (env := [(0, s1.v), (1, .int .i64 x3)]) Try.func18 rfl rfl rfl rfl (fun c => ?_)
  unfold F18.m at hm
  refine JC.seq ?_
  refine JC.region ?_
  refine JL.ent (fun _ hs => hs.nil 23 (Enc.pair (Enc.int .u8) (Enc.pair (Enc.int .i64) (Enc.int .i64)))) ?_
  refine JL.val (v := SlV.nil.v) (QV.assign rfl) rfl rfl rfl ?_
  refine JL.nil ?_
  refine QJ.then_normal ?_
  refine JC.seq ?_
  obtain ⟨h6, hm⟩ := guard_inv hm
  obtain ⟨h8, hm⟩ := guard_inv hm
  refine JC.cutK (Y := Unit × (Nat × SlV × SlV)) (fun y => match y with | (_, _) => F18.j1 x2 x3 = some r) (fun y => match y with | (_, (z11, z12, z13)) => [(0, s1.v), (1, .int .i64 x3), (5, .pointer (some ⟨z11, 0, none⟩))]) (fun y => match y with | (_, (z11, z12, z13)) => [Asr.vw (Enc.int .u8) (s1.v) x2, Asr.of 3 (Enc.int .i64) (z12.v) (List.replicate (Int.toNat (4096 : Int)) (0 : Int)), Asr.of 3 (Enc.int .i64) (z13.v) (List.replicate (Int.toNat ((x2).length : Int)) (0 : Int)), Asr.blk z11 81 [Seg.c (s1.v), Seg.c (z12.v), Seg.c (z13.v)]]) ?_ ?_
  ·
    rintro ⟨⟨⟩, ⟨z11, z12, z13⟩⟩ hm
    unfold F18.j1 at hm
    show QJ _ _ [(0, s1.v), (1, .int .i64 x3), (5, .pointer (some ⟨z11, 0, none⟩))] [Asr.vw (Enc.int .u8) (s1.v) x2, Asr.of 3 (Enc.int .i64) (z12.v) (List.replicate (Int.toNat (4096 : Int)) (0 : Int)), Asr.of 3 (Enc.int .i64) (z13.v) (List.replicate (Int.toNat ((x2).length : Int)) (0 : Int)), Asr.blk z11 81 [Seg.c (s1.v), Seg.c (z12.v), Seg.c (z13.v)]] _ _
    refine QJ.then_normal ?_
    refine JC.seq ?_
    refine JC.region ?_
    refine JL.ent (fun _ hs => hs.nil 23 (Enc.pair (Enc.int .u8) (Enc.pair (Enc.int .i64) (Enc.int .i64)))) ?_
    refine JL.val (v := SlV.nil.v) (QV.assign rfl) rfl rfl rfl ?_
    refine JL.nil ?_
    refine QJ.then_normal ?_
    refine JC.seq ?_
    refine JC.seq ?_
    refine JC.region ?_
    refine JL.val (v := .int .i64 (0 : Int)) (QV.assign rfl) rfl rfl rfl ?_
    refine JL.nil ?_
    refine QJ.then_normal ?_
    refine JC.cutK (Y := (List (Int × Int × Int)) × SlV) (fun y => match y with | (d15, _) => F18.j2 (d15) = some r) (fun y => match y with | (d15, z14) => [(6, z14.v)]) (fun y => match y with | (d15, z14) => [Asr.of 23 (Enc.pair (Enc.int .u8) (Enc.pair (Enc.int .i64) (Enc.int .i64))) (z14.v) d15]) ?_ ?_
    ·
      rintro ⟨d15, z14⟩ hm
      unfold F18.j2 at hm
      show QJ _ _ [(6, z14.v)] [Asr.of 23 (Enc.pair (Enc.int .u8) (Enc.pair (Enc.int .i64) (Enc.int .i64))) (z14.v) d15] _ _
      refine QJ.then_normal ?_
      refine JC.seq ?_
      refine JC.region ?_
      refine JL.val (v := z14.v) (QV.move rfl) rfl rfl rfl ?_
      refine JL.val (v := z14.v) (QV.assign rfl) rfl rfl rfl ?_
      refine JL.nil ?_
      refine QJ.then_normal ?_
      refine JC.ret ?_
      obtain rfl := Option.some.inj hm
      exact QJ.body (vs := [z14.v]) (.inl rfl) rfl (ResVs.cons (ResV.tmp rfl) ResVs.nil) [0] rfl rfl (.inr ⟨own_of _ _ _ _, trivial⟩) ⟨z14, rfl, rfl⟩
    ·
      refine JC.block ?_
      obtain ⟨y26, hl27, hmo28⟩ := bind_inv hm
      refine JC.loop (F18.b1 x2 x3) (fun x z => match x, z with | (d16, d17, d19, d20), z18 => [(0, s1.v), (1, .int .i64 x3), (5, .pointer (some ⟨z11, 0, none⟩)), (6, z18.v), (7, .int .i64 d20)]) (fun x z => match x, z with | (d16, d17, d19, d20), z18 => [Asr.vw (Enc.int .u8) (s1.v) x2, Asr.of 3 (Enc.int .i64) (z12.v) d16, Asr.of 3 (Enc.int .i64) (z13.v) d17, Asr.blk z11 81 [Seg.c (s1.v), Seg.c (z12.v), Seg.c (z13.v)], Asr.of 23 (Enc.pair (Enc.int .u8) (Enc.pair (Enc.int .i64) (Enc.int .i64))) (z18.v) d19]) ((List.replicate (Int.toNat (4096 : Int)) (0 : Int)), (List.replicate (Int.toNat ((x2).length : Int)) (0 : Int)), ([] : List (Int × Int × Int)), (0 : Int)) SlV.nil y26 hl27 [1, 2, 3, 4, 0] (by exact ⟨rfl, rfl, rfl, rfl, rfl, trivial⟩) rfl rfl ?_
      rintro ⟨d16, d17, d19, d20⟩ z18 s29 hm
      unfold F18.b1 at hm
      dsimp only at hm
      show JC _ _ _ [(0, s1.v), (1, .int .i64 x3), (5, .pointer (some ⟨z11, 0, none⟩)), (6, z18.v), (7, .int .i64 d20)] [Asr.vw (Enc.int .u8) (s1.v) x2, Asr.of 3 (Enc.int .i64) (z12.v) d16, Asr.of 3 (Enc.int .i64) (z13.v) d17, Asr.blk z11 81 [Seg.c (s1.v), Seg.c (z12.v), Seg.c (z13.v)], Asr.of 23 (Enc.pair (Enc.int .u8) (Enc.pair (Enc.int .i64) (Enc.int .i64))) (z18.v) d19] _ _
      refine JC.seq ?_
      refine JC.seq ?_
      refine JC.region ?_
      refine JL.val (v := .int .i64 d20) (QV.move rfl) rfl rfl rfl ?_
      refine JL.val (v := s1.v) (QV.move rfl) rfl rfl rfl ?_
      refine JL.val (v := .int .i64 ((x2).length : Int)) (QV.len (Rdg.vw 0 rfl) Try.underlying26 rfl) rfl rfl rfl ?_
      refine JL.val (v := .bool (decide (d20 < ((x2).length : Int)))) (QV.lss rfl rfl) rfl rfl rfl ?_
      refine JL.nil ?_
      refine QJ.then_normal ?_
      rcases ite_inv hm with ⟨h30, hm⟩ | ⟨h30, hm⟩
      ·
        refine JC.condT' rfl (decide_eq_true h30) ?_
        refine JC.skip ?_
        refine QJ.then_normal ?_
        refine JC.cutK (Y := (List Int × List Int × List (Int × Int × Int) × Int) × SlV) (fun y => match y with | ((d31, d32, d34, d35), _) => F18.j3 (d31) (d32) (d34) (d35) = some s29) (fun y => match y with | ((d31, d32, d34, d35), z33) => [(0, s1.v), (1, .int .i64 x3), (5, .pointer (some ⟨z11, 0, none⟩)), (6, z33.v), (7, .int .i64 d35)]) (fun y => match y with | ((d31, d32, d34, d35), z33) => [Asr.vw (Enc.int .u8) (s1.v) x2, Asr.of 3 (Enc.int .i64) (z12.v) d31, Asr.of 3 (Enc.int .i64) (z13.v) d32, Asr.blk z11 81 [Seg.c (s1.v), Seg.c (z12.v), Seg.c (z13.v)], Asr.of 23 (Enc.pair (Enc.int .u8) (Enc.pair (Enc.int .i64) (Enc.int .i64))) (z33.v) d34]) ?_ ?_
        ·
          rintro ⟨⟨d31, d32, d34, d35⟩, z33⟩ hm
          unfold F18.j3 at hm
          show QJ _ _ [(0, s1.v), (1, .int .i64 x3), (5, .pointer (some ⟨z11, 0, none⟩)), (6, z33.v), (7, .int .i64 d35)] [Asr.vw (Enc.int .u8) (s1.v) x2, Asr.of 3 (Enc.int .i64) (z12.v) d31, Asr.of 3 (Enc.int .i64) (z13.v) d32, Asr.blk z11 81 [Seg.c (s1.v), Seg.c (z12.v), Seg.c (z13.v)], Asr.of 23 (Enc.pair (Enc.int .u8) (Enc.pair (Enc.int .i64) (Enc.int .i64))) (z33.v) d34] _ _
          obtain rfl := Option.some.inj hm
          exact QJ.round_on (d31, d32, d34, d35) z33 [0, 1, 2, 3, 4] (by exact ⟨rfl, rfl, rfl, rfl, rfl, trivial⟩) rfl rfl
        ·
          refine JC.block ?_
          refine JC.seq ?_
          refine JC.region ?_
          refine JL.val (v := .pointer (some ⟨z11, 0, none⟩)) (QV.move rfl) rfl rfl rfl ?_
          refine JL.val (v := .int .i64 d20) (QV.move rfl) rfl rfl rfl ?_
          refine JL.val (v := .int .i64 x3) (QV.move rfl) rfl rfl rfl ?_
          obtain ⟨y36, hc37, hm⟩ := bind_inv hm
          refine JL.mv (d := some 26) (MV.call (Lo := [Asr.blk z11 81 [Seg.c (s1.v), Seg.c (z12.v), Seg.c (z13.v)], Asr.of 3 (Enc.int .i64) (z12.v) d16, Asr.of 3 (Enc.int .i64) (z13.v) d17]) (Lr := [Asr.vw (Enc.int .u8) (s1.v) x2, Asr.of 23 (Enc.pair (Enc.int .u8) (Enc.pair (Enc.int .i64) (Enc.int .i64))) (z18.v) d19]) (F56.spec (z11) (s1) (z12) (z13) (x2) (d16) (d17) (d20) (x3) _ hc37) rfl Try.func56 rfl rfl rfl [3, 1, 2] [0, 4] rfl rfl rfl ⟨(Drv.vw 0 rfl), trivial⟩) rfl rfl rfl ?_
          rintro _ _ ⟨_, ⟨rfl, rfl⟩, rfl⟩
          refine JL.mv (d := some 8) (MV.alloc [Seg.c (.int .u8 (0 : Int)), Seg.c (.int .i64 (0 : Int)), Seg.c (.int .i64 (0 : Int))] z_23 rfl) rfl rfl rfl ?_
          rintro _ _ ⟨b38, rfl, rfl⟩
          refine JL.mv (d := none) (MV.store (ss := [Seg.c (.int .u8 (0 : Int)), Seg.c (.int .i64 (0 : Int)), Seg.c (.int .i64 (0 : Int))]) 0 0 3 [Seg.c (.int .u8 (0 : Int)), Seg.c (.int .i64 y36.1), Seg.c (.int .i64 y36.2)] rfl tk_23 rfl rfl rfl rfl (fun w hs => ⟨rfl, one_c rfl, one_c rfl, one_c rfl, trivial⟩)) rfl rfl rfl ?_
          rintro _ _ ⟨rfl, rfl⟩
          refine JL.nil ?_
          refine QJ.then_normal ?_
          refine JC.seq ?_
          refine JC.seq ?_
          refine JC.region ?_
          refine JL.val (v := .pointer (some ⟨b38, 1, none⟩)) (QV.fieldB fo_23_1 rfl rfl) rfl rfl rfl ?_
          refine JL.val (v := .int .i64 y36.1) (QV.load1 (ss := [Seg.c (.int .u8 (0 : Int)), Seg.c (.int .i64 y36.1), Seg.c (.int .i64 y36.2)]) 0 1 rfl tk_3 rfl rfl rfl) rfl rfl rfl ?_
          refine JL.val (v := .bool (decide ((0 : Int) < y36.1))) (QV.gtr rfl rfl) rfl rfl rfl ?_
          rcases ite_inv hm with ⟨h39, hm⟩ | ⟨h39, hm⟩
          ·
            refine JL.val (v := .bool true) (QV.eq (QV.move rfl) (congrArg Value.bool (decide_eq_true h39))) rfl rfl rfl ?_
            refine JL.val (v := .pointer (some ⟨b38, 1, none⟩)) (QV.fieldB fo_23_1 rfl rfl) rfl rfl rfl ?_
            refine JL.val (v := .int .i64 y36.1) (QV.load1 (ss := [Seg.c (.int .u8 (0 : Int)), Seg.c (.int .i64 y36.1), Seg.c (.int .i64 y36.2)]) 0 1 rfl tk_3 rfl rfl rfl) rfl rfl rfl ?_
            refine JL.val (v := .bool (decide (y36.1 < (32 : Int)))) (QV.lss rfl rfl) rfl rfl rfl ?_
            refine JL.val (v := .bool (decide (y36.1 < (32 : Int)))) (QV.pickT rfl rfl) rfl rfl rfl ?_
            rcases ite_inv hm with ⟨h40, hm⟩ | ⟨h40, hm⟩
            ·
              refine JL.val (v := .bool true) (QV.eq (QV.move rfl) (congrArg Value.bool (decide_eq_true h40))) rfl rfl rfl ?_
              refine JL.val (v := .int .i64 x3) (QV.move rfl) rfl rfl rfl ?_
              refine JL.val (v := .bool (decide ((1 : Int) < x3))) (QV.gtr rfl rfl) rfl rfl rfl ?_
              refine JL.val (v := .bool (decide ((1 : Int) < x3))) (QV.pickT rfl rfl) rfl rfl rfl ?_
              refine JL.nil ?_
              refine QJ.then_normal ?_
              refine JC.cutK (Y := (List Int × List Int × Int × Int) × Unit) (fun y => match y with | ((d41, d42, d43, d44), _) => F18.j4 x2 d19 d20 (d41) (d42) (d43) (d44) = some s29) (fun y => match y with | ((d41, d42, d43, d44), _) => [(0, s1.v), (1, .int .i64 x3), (5, .pointer (some ⟨z11, 0, none⟩)), (6, z18.v), (7, .int .i64 d20), (8, .pointer (some ⟨b38, 0, none⟩))]) (fun y => match y with | ((d41, d42, d43, d44), _) => [Asr.vw (Enc.int .u8) (s1.v) x2, Asr.of 3 (Enc.int .i64) (z12.v) d41, Asr.of 3 (Enc.int .i64) (z13.v) d42, Asr.blk z11 81 [Seg.c (s1.v), Seg.c (z12.v), Seg.c (z13.v)], Asr.of 23 (Enc.pair (Enc.int .u8) (Enc.pair (Enc.int .i64) (Enc.int .i64))) (z18.v) d19, Asr.blk b38 23 [Seg.c (.int .u8 (0 : Int)), Seg.c (.int .i64 d43), Seg.c (.int .i64 d44)]]) ?_ ?_
              ·
                rintro ⟨⟨d41, d42, d43, d44⟩, ⟨⟩⟩ hm
                unfold F18.j4 at hm
                show QJ _ _ [(0, s1.v), (1, .int .i64 x3), (5, .pointer (some ⟨z11, 0, none⟩)), (6, z18.v), (7, .int .i64 d20), (8, .pointer (some ⟨b38, 0, none⟩))] [Asr.vw (Enc.int .u8) (s1.v) x2, Asr.of 3 (Enc.int .i64) (z12.v) d41, Asr.of 3 (Enc.int .i64) (z13.v) d42, Asr.blk z11 81 [Seg.c (s1.v), Seg.c (z12.v), Seg.c (z13.v)], Asr.of 23 (Enc.pair (Enc.int .u8) (Enc.pair (Enc.int .i64) (Enc.int .i64))) (z18.v) d19, Asr.blk b38 23 [Seg.c (.int .u8 (0 : Int)), Seg.c (.int .i64 d43), Seg.c (.int .i64 d44)]] _ _
                refine QJ.then_normal ?_
                refine JC.seq ?_
                refine JC.region ?_
                refine JL.val (v := .int .i64 (1 : Int)) (QV.assign rfl) rfl rfl rfl ?_
                refine JL.nil ?_
                refine QJ.then_normal ?_
                refine JC.seq ?_
                refine JC.seq ?_
                refine JC.region ?_
                refine JL.val (v := .pointer (some ⟨b38, 1, none⟩)) (QV.fieldB fo_23_1 rfl rfl) rfl rfl rfl ?_
                refine JL.val (v := .int .i64 d43) (QV.load1 (ss := [Seg.c (.int .u8 (0 : Int)), Seg.c (.int .i64 d43), Seg.c (.int .i64 d44)]) 5 1 rfl tk_3 rfl rfl rfl) rfl rfl rfl ?_
                refine JL.val (v := .bool (decide (d43 = (0 : Int)))) (QV.eql rfl rfl) rfl rfl rfl ?_
                refine JL.nil ?_
                refine QJ.then_normal ?_
                refine JC.cutK (Y := (Int × Int × Int × Int) × Unit) (fun y => match y with | ((d45, d46, d47, d48), _) => F18.j5 x2 d19 d20 d41 d42 (d45) (d46) (d47) (d48) = some s29) (fun y => match y with | ((d45, d46, d47, d48), _) => [(0, s1.v), (1, .int .i64 x3), (5, .pointer (some ⟨z11, 0, none⟩)), (6, z18.v), (7, .int .i64 d20), (8, .pointer (some ⟨b38, 0, none⟩)), (10, .int .i64 d48)]) (fun y => match y with | ((d45, d46, d47, d48), _) => [Asr.vw (Enc.int .u8) (s1.v) x2, Asr.of 3 (Enc.int .i64) (z12.v) d41, Asr.of 3 (Enc.int .i64) (z13.v) d42, Asr.blk z11 81 [Seg.c (s1.v), Seg.c (z12.v), Seg.c (z13.v)], Asr.of 23 (Enc.pair (Enc.int .u8) (Enc.pair (Enc.int .i64) (Enc.int .i64))) (z18.v) d19, Asr.blk b38 23 [Seg.c (.int .u8 d45), Seg.c (.int .i64 d46), Seg.c (.int .i64 d47)]]) ?_ ?_
                ·
                  rintro ⟨⟨d45, d46, d47, d48⟩, ⟨⟩⟩ hm
                  unfold F18.j5 at hm
                  show QJ _ _ [(0, s1.v), (1, .int .i64 x3), (5, .pointer (some ⟨z11, 0, none⟩)), (6, z18.v), (7, .int .i64 d20), (8, .pointer (some ⟨b38, 0, none⟩)), (10, .int .i64 d48)] [Asr.vw (Enc.int .u8) (s1.v) x2, Asr.of 3 (Enc.int .i64) (z12.v) d41, Asr.of 3 (Enc.int .i64) (z13.v) d42, Asr.blk z11 81 [Seg.c (s1.v), Seg.c (z12.v), Seg.c (z13.v)], Asr.of 23 (Enc.pair (Enc.int .u8) (Enc.pair (Enc.int .i64) (Enc.int .i64))) (z18.v) d19, Asr.blk b38 23 [Seg.c (.int .u8 d45), Seg.c (.int .i64 d46), Seg.c (.int .i64 d47)]] _ _
                  refine QJ.then_normal ?_
                  refine JC.seq ?_
                  refine JC.seq ?_
                  refine JC.region ?_
                  refine JL.val (v := .int .i64 (1 : Int)) (QV.assign rfl) rfl rfl rfl ?_
                  refine JL.nil ?_
                  refine QJ.then_normal ?_
                  refine JC.cutK (Y := (List Int × List Int) × Unit) (fun y => match y with | ((d49, d50), _) => F18.j6 d19 d20 d45 d46 d47 d48 (d49) (d50) = some s29) (fun y => match y with | ((d49, d50), _) => [(0, s1.v), (1, .int .i64 x3), (5, .pointer (some ⟨z11, 0, none⟩)), (6, z18.v), (7, .int .i64 d20), (8, .pointer (some ⟨b38, 0, none⟩)), (10, .int .i64 d48)]) (fun y => match y with | ((d49, d50), _) => [Asr.vw (Enc.int .u8) (s1.v) x2, Asr.of 3 (Enc.int .i64) (z12.v) d49, Asr.of 3 (Enc.int .i64) (z13.v) d50, Asr.blk z11 81 [Seg.c (s1.v), Seg.c (z12.v), Seg.c (z13.v)], Asr.of 23 (Enc.pair (Enc.int .u8) (Enc.pair (Enc.int .i64) (Enc.int .i64))) (z18.v) d19, Asr.blk b38 23 [Seg.c (.int .u8 d45), Seg.c (.int .i64 d46), Seg.c (.int .i64 d47)]]) ?_ ?_
                  ·
                    rintro ⟨⟨d49, d50⟩, ⟨⟩⟩ hm
                    unfold F18.j6 at hm
                    show QJ _ _ [(0, s1.v), (1, .int .i64 x3), (5, .pointer (some ⟨z11, 0, none⟩)), (6, z18.v), (7, .int .i64 d20), (8, .pointer (some ⟨b38, 0, none⟩)), (10, .int .i64 d48)] [Asr.vw (Enc.int .u8) (s1.v) x2, Asr.of 3 (Enc.int .i64) (z12.v) d49, Asr.of 3 (Enc.int .i64) (z13.v) d50, Asr.blk z11 81 [Seg.c (s1.v), Seg.c (z12.v), Seg.c (z13.v)], Asr.of 23 (Enc.pair (Enc.int .u8) (Enc.pair (Enc.int .i64) (Enc.int .i64))) (z18.v) d19, Asr.blk b38 23 [Seg.c (.int .u8 d45), Seg.c (.int .i64 d46), Seg.c (.int .i64 d47)]] _ _
                    refine QJ.then_normal ?_
                    refine JC.seq ?_
                    refine JC.region ?_
                    refine JL.val (v := z18.v) (QV.move rfl) rfl rfl rfl ?_
                    refine JL.val (v := .agg #[.int .u8 d45, .int .i64 d46, .int .i64 d47]) (QV.eq (QV.loadN (ss := [Seg.c (.int .u8 d45), Seg.c (.int .i64 d46), Seg.c (.int .i64 d47)]) 5 0 3 rfl tk_23 rfl rfl rfl rfl) rfl) rfl rfl rfl ?_
                    refine JL.mv (d := some 79) (MV.lit (E := (Enc.pair (Enc.int .u8) (Enc.pair (Enc.int .i64) (Enc.int .i64)))) (vals := [(0, .agg #[.int .u8 d45, .int .i64 d46, .int .i64 d47])]) [(d45, d46, d47)] Try.underlying27 zi_23 rfl (by decide) rfl (by kernel_rfl)) rfl rfl rfl ?_
                    rintro _ _ ⟨z51, rfl, rfl⟩
                    obtain ⟨h52, hm⟩ := guard_inv hm
                    refine JL.mv (d := some 80) (MV.append 5 rfl (Rdg.of 0 rfl) Try.underlying27 zi_23 rfl (by decide) rfl rfl h52) rfl rfl rfl ?_
                    rintro _ _ ⟨z53, rfl, rfl⟩
                    refine JL.val (v := z53.v) (QV.assign rfl) rfl rfl rfl ?_
                    refine JL.nil ?_
                    refine QJ.then_normal ?_
                    refine JC.region ?_
                    refine JL.val (v := .int .i64 d20) (QV.move rfl) rfl rfl rfl ?_
                    refine JL.val (v := .int .i64 d48) (QV.move rfl) rfl rfl rfl ?_
                    refine JL.val (v := .int .i64 (IntKind.wrap .i64 (d20 + d48))) (QV.add rfl rfl) rfl rfl rfl ?_
                    refine JL.val (v := .int .i64 (IntKind.wrap .i64 (d20 + d48))) (QV.assign rfl) rfl rfl rfl ?_
                    refine JL.nil ?_
                    refine QJ.block_normal ?_
                    exact QJ.cut_normal ((d49, d50, (d19 ++ [(d45, d46, d47)]), (IntKind.wrap .i64 (d20 + d48))), z53) hm [1, 2, 3, 4, 5] (by exact ⟨rfl, rfl, rfl, rfl, rfl, trivial⟩) rfl rfl
                  ·
                    refine JC.block ?_
                    obtain ⟨y60, hl61, hmo62⟩ := bind_inv hm
                    refine JC.loop (F18.b2 x2 d20 d48) (fun x z => match x, z with | (d54, d55, d56), _ => [(0, s1.v), (1, .int .i64 x3), (5, .pointer (some ⟨z11, 0, none⟩)), (6, z18.v), (7, .int .i64 d20), (8, .pointer (some ⟨b38, 0, none⟩)), (10, .int .i64 d48), (11, .int .i64 d56)]) (fun x z => match x, z with | (d54, d55, d56), _ => [Asr.vw (Enc.int .u8) (s1.v) x2, Asr.of 3 (Enc.int .i64) (z12.v) d54, Asr.of 3 (Enc.int .i64) (z13.v) d55, Asr.blk z11 81 [Seg.c (s1.v), Seg.c (z12.v), Seg.c (z13.v)], Asr.of 23 (Enc.pair (Enc.int .u8) (Enc.pair (Enc.int .i64) (Enc.int .i64))) (z18.v) d19, Asr.blk b38 23 [Seg.c (.int .u8 d45), Seg.c (.int .i64 d46), Seg.c (.int .i64 d47)]]) (d41, d42, (1 : Int)) () y60 hl61 [0, 1, 2, 3, 4, 5] (by exact ⟨rfl, rfl, rfl, rfl, rfl, rfl, rfl, rfl, trivial⟩) rfl rfl ?_
                    rintro ⟨d54, d55, d56⟩ ⟨⟩ s63 hm
                    unfold F18.b2 at hm
                    dsimp only at hm
                    show JC _ _ _ [(0, s1.v), (1, .int .i64 x3), (5, .pointer (some ⟨z11, 0, none⟩)), (6, z18.v), (7, .int .i64 d20), (8, .pointer (some ⟨b38, 0, none⟩)), (10, .int .i64 d48), (11, .int .i64 d56)] [Asr.vw (Enc.int .u8) (s1.v) x2, Asr.of 3 (Enc.int .i64) (z12.v) d54, Asr.of 3 (Enc.int .i64) (z13.v) d55, Asr.blk z11 81 [Seg.c (s1.v), Seg.c (z12.v), Seg.c (z13.v)], Asr.of 23 (Enc.pair (Enc.int .u8) (Enc.pair (Enc.int .i64) (Enc.int .i64))) (z18.v) d19, Asr.blk b38 23 [Seg.c (.int .u8 d45), Seg.c (.int .i64 d46), Seg.c (.int .i64 d47)]] _ _
                    refine JC.seq ?_
                    refine JC.seq ?_
                    refine JC.region ?_
                    refine JL.val (v := .int .i64 d56) (QV.move rfl) rfl rfl rfl ?_
                    refine JL.val (v := .int .i64 d48) (QV.move rfl) rfl rfl rfl ?_
                    refine JL.val (v := .bool (decide (d56 < d48))) (QV.lss rfl rfl) rfl rfl rfl ?_
                    refine JL.nil ?_
                    refine QJ.then_normal ?_
                    rcases ite_inv hm with ⟨h64, hm⟩ | ⟨h64, hm⟩
                    ·
                      refine JC.condT' rfl (decide_eq_true h64) ?_
                      refine JC.skip ?_
                      refine QJ.then_normal ?_
                      refine JC.seq ?_
                      refine JC.block ?_
                      refine JC.region ?_
                      refine JL.val (v := .pointer (some ⟨z11, 0, none⟩)) (QV.move rfl) rfl rfl rfl ?_
                      refine JL.val (v := .int .i64 d20) (QV.move rfl) rfl rfl rfl ?_
                      refine JL.val (v := .int .i64 d56) (QV.move rfl) rfl rfl rfl ?_
                      refine JL.val (v := .int .i64 (IntKind.wrap .i64 (d20 + d56))) (QV.add rfl rfl) rfl rfl rfl ?_
                      obtain ⟨y65, hc66, hm⟩ := bind_inv hm
                      refine JL.mv (d := some 76) (MV.call (Lo := [Asr.blk z11 81 [Seg.c (s1.v), Seg.c (z12.v), Seg.c (z13.v)], Asr.of 3 (Enc.int .i64) (z12.v) d54, Asr.of 3 (Enc.int .i64) (z13.v) d55]) (Lr := [Asr.vw (Enc.int .u8) (s1.v) x2, Asr.of 23 (Enc.pair (Enc.int .u8) (Enc.pair (Enc.int .i64) (Enc.int .i64))) (z18.v) d19, Asr.blk b38 23 [Seg.c (.int .u8 d45), Seg.c (.int .i64 d46), Seg.c (.int .i64 d47)]]) (F57.spec (z11) (s1) (z12) (z13) (x2) (d54) (d55) ((IntKind.wrap .i64 (d20 + d56))) _ hc66) rfl Try.func57 rfl rfl rfl [3, 1, 2] [0, 4, 5] rfl rfl rfl ⟨(Drv.vw 0 rfl), trivial⟩) rfl rfl rfl ?_
                      rintro _ _ ⟨_, ⟨rfl, rfl⟩, rfl⟩
                      refine JL.nil ?_
                      refine QJ.block_normal ?_
                      refine QJ.then_normal ?_
                      refine JC.region ?_
                      refine JL.val (v := .int .i64 d56) (QV.move rfl) rfl rfl rfl ?_
                      refine JL.val (v := .int .i64 (IntKind.wrap .i64 (d56 + (1 : Int)))) (QV.add rfl rfl) rfl rfl rfl ?_
                      refine JL.val (v := .int .i64 (IntKind.wrap .i64 (d56 + (1 : Int)))) (QV.assign rfl) rfl rfl rfl ?_
                      refine JL.nil ?_
                      obtain rfl := Option.some.inj hm
                      exact QJ.round_on (y65.1, y65.2, (IntKind.wrap .i64 (d56 + (1 : Int)))) () [4, 0, 1, 3, 5, 6] (by exact ⟨rfl, rfl, rfl, rfl, rfl, rfl, rfl, rfl, trivial⟩) rfl rfl
                    ·
                      refine JC.condF' rfl (decide_eq_false h64) ?_
                      refine JC.exit ?_
                      refine QJ.then_exit ?_
                      obtain rfl := Option.some.inj hm
                      refine QJ.round_exit (fun hy => ?_)
                      subst hy
                      refine QJ.block_hit ?_
                      exact QJ.cut_normal ((d54, d55), ()) hmo62 [0, 1, 2, 3, 4, 5] (by exact ⟨rfl, rfl, rfl, rfl, rfl, rfl, rfl, trivial⟩) rfl rfl
                ·
                  rcases ite_inv hm with ⟨h67, hm⟩ | ⟨h67, hm⟩
                  ·
                    refine JC.condT' rfl (decide_eq_true h67) ?_
                    refine JC.region ?_
                    refine JL.val (v := s1.v) (QV.move rfl) rfl rfl rfl ?_
                    refine JL.val (v := .int .i64 d20) (QV.move rfl) rfl rfl rfl ?_
                    obtain ⟨h68, hm⟩ := guard_inv hm
                    refine JL.val (v := .pointer (some (elA (s1.v) (Int.toNat d20 * ((Enc.int .u8)).sz)))) (QV.indexA (Rdg.vw 0 rfl) Try.underlying26 tk_5 rfl rfl h68) rfl rfl rfl ?_
                    refine JL.val (v := .int .u8 (gd x2 d20)) (QV.el1 (Rdg.vw 0 rfl) tk_5 rfl h68 rfl) rfl rfl rfl ?_
                    refine JL.val (v := .agg #[.int .u8 (gd x2 d20), .int .i64 (0 : Int), .int .i64 (0 : Int)]) (QV.build (vals := [(0, .int .u8 (gd x2 d20))]) rfl (by kernel_rfl)) rfl rfl rfl ?_
                    refine JL.mv (d := none) (MV.store (ss := [Seg.c (.int .u8 (0 : Int)), Seg.c (.int .i64 d43), Seg.c (.int .i64 d44)]) 5 0 3 [Seg.c (.int .u8 (gd x2 d20)), Seg.c (.int .i64 (0 : Int)), Seg.c (.int .i64 (0 : Int))] rfl tk_23 rfl rfl rfl rfl (fun w hs => ⟨rfl, one_c rfl, one_c rfl, one_c rfl, trivial⟩)) rfl rfl rfl ?_
                    rintro _ _ ⟨rfl, rfl⟩
                    refine JL.nil ?_
                    exact QJ.cut_normal (((gd x2 d20), (0 : Int), (0 : Int), (1 : Int)), ()) hm [0, 1, 2, 3, 4, 5] (by exact ⟨rfl, rfl, rfl, rfl, rfl, rfl, rfl, trivial⟩) rfl rfl
                  ·
                    refine JC.condF' rfl (decide_eq_false h67) ?_
                    refine JC.region ?_
                    refine JL.val (v := .pointer (some ⟨b38, 1, none⟩)) (QV.fieldB fo_23_1 rfl rfl) rfl rfl rfl ?_
                    refine JL.val (v := .int .i64 d43) (QV.load1 (ss := [Seg.c (.int .u8 (0 : Int)), Seg.c (.int .i64 d43), Seg.c (.int .i64 d44)]) 5 1 rfl tk_3 rfl rfl rfl) rfl rfl rfl ?_
                    refine JL.val (v := .int .i64 d43) (QV.assign rfl) rfl rfl rfl ?_
                    refine JL.nil ?_
                    exact QJ.cut_normal (((0 : Int), d43, d44, d43), ()) hm [0, 1, 2, 3, 4, 5] (by exact ⟨rfl, rfl, rfl, rfl, rfl, rfl, rfl, trivial⟩) rfl rfl
              ·
                rcases ite_inv hm with ⟨h69, hm⟩ | ⟨h69, hm⟩
                ·
                  refine JC.condT' rfl (decide_eq_true h69) ?_
                  refine JC.seq ?_
                  refine JC.region ?_
                  refine JL.val (v := .pointer (some ⟨z11, 0, none⟩)) (QV.move rfl) rfl rfl rfl ?_
                  refine JL.val (v := .int .i64 d20) (QV.move rfl) rfl rfl rfl ?_
                  obtain ⟨y70, hc71, hm⟩ := bind_inv hm
                  refine JL.mv (d := some 41) (MV.call (Lo := [Asr.blk z11 81 [Seg.c (s1.v), Seg.c (z12.v), Seg.c (z13.v)], Asr.of 3 (Enc.int .i64) (z12.v) d16, Asr.of 3 (Enc.int .i64) (z13.v) d17]) (Lr := [Asr.blk b38 23 [Seg.c (.int .u8 (0 : Int)), Seg.c (.int .i64 y36.1), Seg.c (.int .i64 y36.2)], Asr.vw (Enc.int .u8) (s1.v) x2, Asr.vw (Enc.int .u8) (s1.v) x2, Asr.of 23 (Enc.pair (Enc.int .u8) (Enc.pair (Enc.int .i64) (Enc.int .i64))) (z18.v) d19]) (F57.spec (z11) (s1) (z12) (z13) (x2) (d16) (d17) (d20) _ hc71) rfl Try.func57 rfl rfl rfl [4, 1, 2] [0, 3, 5, 6] rfl rfl rfl ⟨(Drv.vw 1 rfl), trivial⟩) rfl rfl rfl ?_
                  rintro _ _ ⟨_, ⟨rfl, rfl⟩, rfl⟩
                  refine JL.nil ?_
                  refine QJ.then_normal ?_
                  refine JC.seq ?_
                  refine JC.region ?_
                  refine JL.val (v := .pointer (some ⟨z11, 0, none⟩)) (QV.move rfl) rfl rfl rfl ?_
                  refine JL.val (v := .int .i64 d20) (QV.move rfl) rfl rfl rfl ?_
                  refine JL.val (v := .int .i64 (IntKind.wrap .i64 (d20 + (1 : Int)))) (QV.add rfl rfl) rfl rfl rfl ?_
                  refine JL.val (v := .int .i64 x3) (QV.move rfl) rfl rfl rfl ?_
                  obtain ⟨y72, hc73, hm⟩ := bind_inv hm
                  refine JL.mv (d := some 46) (MV.call (Lo := [Asr.blk z11 81 [Seg.c (s1.v), Seg.c (z12.v), Seg.c (z13.v)], Asr.of 3 (Enc.int .i64) (z12.v) y70.1, Asr.of 3 (Enc.int .i64) (z13.v) y70.2]) (Lr := [Asr.vw (Enc.int .u8) (s1.v) x2, Asr.blk b38 23 [Seg.c (.int .u8 (0 : Int)), Seg.c (.int .i64 y36.1), Seg.c (.int .i64 y36.2)], Asr.vw (Enc.int .u8) (s1.v) x2, Asr.vw (Enc.int .u8) (s1.v) x2, Asr.of 23 (Enc.pair (Enc.int .u8) (Enc.pair (Enc.int .i64) (Enc.int .i64))) (z18.v) d19]) (F56.spec (z11) (s1) (z12) (z13) (x2) (y70.1) (y70.2) ((IntKind.wrap .i64 (d20 + (1 : Int)))) (x3) _ hc73) rfl Try.func56 rfl rfl rfl [3, 0, 1] [2, 4, 5, 6, 7] rfl rfl rfl ⟨(Drv.vw 0 rfl), trivial⟩) rfl rfl rfl ?_
                  rintro _ _ ⟨_, ⟨rfl, rfl⟩, rfl⟩
                  refine JL.mv (d := some 9) (MV.alloc [Seg.c (.int .u8 (0 : Int)), Seg.c (.int .i64 (0 : Int)), Seg.c (.int .i64 (0 : Int))] z_23 rfl) rfl rfl rfl ?_
                  rintro _ _ ⟨b74, rfl, rfl⟩
                  refine JL.mv (d := none) (MV.store (ss := [Seg.c (.int .u8 (0 : Int)), Seg.c (.int .i64 (0 : Int)), Seg.c (.int .i64 (0 : Int))]) 0 0 3 [Seg.c (.int .u8 (0 : Int)), Seg.c (.int .i64 y72.1), Seg.c (.int .i64 y72.2)] rfl tk_23 rfl rfl rfl rfl (fun w hs => ⟨rfl, one_c rfl, one_c rfl, one_c rfl, trivial⟩)) rfl rfl rfl ?_
                  rintro _ _ ⟨rfl, rfl⟩
                  refine JL.nil ?_
                  refine QJ.then_normal ?_
                  refine JC.seq ?_
                  refine JC.region ?_
                  refine JL.val (v := .pointer (some ⟨b74, 1, none⟩)) (QV.fieldB fo_23_1 rfl rfl) rfl rfl rfl ?_
                  refine JL.val (v := .int .i64 y72.1) (QV.load1 (ss := [Seg.c (.int .u8 (0 : Int)), Seg.c (.int .i64 y72.1), Seg.c (.int .i64 y72.2)]) 0 1 rfl tk_3 rfl rfl rfl) rfl rfl rfl ?_
                  refine JL.val (v := .pointer (some ⟨b38, 1, none⟩)) (QV.fieldB fo_23_1 rfl rfl) rfl rfl rfl ?_
                  refine JL.val (v := .int .i64 y36.1) (QV.load1 (ss := [Seg.c (.int .u8 (0 : Int)), Seg.c (.int .i64 y36.1), Seg.c (.int .i64 y36.2)]) 6 1 rfl tk_3 rfl rfl rfl) rfl rfl rfl ?_
                  refine JL.val (v := .int .i64 (IntKind.wrap .i64 (y36.1 + (1 : Int)))) (QV.add rfl rfl) rfl rfl rfl ?_
                  refine JL.val (v := .bool (decide ((IntKind.wrap .i64 (y36.1 + (1 : Int))) < y72.1))) (QV.gtr rfl rfl) rfl rfl rfl ?_
                  refine JL.nil ?_
                  refine QJ.then_normal ?_
                  refine JC.cutK (Y := (Int × Int) × Unit) (fun y => match y with | ((d75, d76), _) => F18.j7 x2 d19 d20 y70 (d75) (d76) = some s29) (fun y => match y with | ((d75, d76), _) => [(0, s1.v), (1, .int .i64 x3), (5, .pointer (some ⟨z11, 0, none⟩)), (6, z18.v), (7, .int .i64 d20), (8, .pointer (some ⟨b38, 0, none⟩))]) (fun y => match y with | ((d75, d76), _) => [Asr.vw (Enc.int .u8) (s1.v) x2, Asr.of 3 (Enc.int .i64) (z12.v) y70.1, Asr.of 3 (Enc.int .i64) (z13.v) y70.2, Asr.blk z11 81 [Seg.c (s1.v), Seg.c (z12.v), Seg.c (z13.v)], Asr.of 23 (Enc.pair (Enc.int .u8) (Enc.pair (Enc.int .i64) (Enc.int .i64))) (z18.v) d19, Asr.blk b38 23 [Seg.c (.int .u8 (0 : Int)), Seg.c (.int .i64 d75), Seg.c (.int .i64 d76)]]) ?_ ?_
                  ·
                    rintro ⟨⟨d75, d76⟩, ⟨⟩⟩ hm
                    unfold F18.j7 at hm
                    show QJ _ _ [(0, s1.v), (1, .int .i64 x3), (5, .pointer (some ⟨z11, 0, none⟩)), (6, z18.v), (7, .int .i64 d20), (8, .pointer (some ⟨b38, 0, none⟩))] [Asr.vw (Enc.int .u8) (s1.v) x2, Asr.of 3 (Enc.int .i64) (z12.v) y70.1, Asr.of 3 (Enc.int .i64) (z13.v) y70.2, Asr.blk z11 81 [Seg.c (s1.v), Seg.c (z12.v), Seg.c (z13.v)], Asr.of 23 (Enc.pair (Enc.int .u8) (Enc.pair (Enc.int .i64) (Enc.int .i64))) (z18.v) d19, Asr.blk b38 23 [Seg.c (.int .u8 (0 : Int)), Seg.c (.int .i64 d75), Seg.c (.int .i64 d76)]] _ _
                    exact QJ.cut_normal ((y70.1, y70.2, d75, d76), ()) hm [0, 1, 2, 3, 4, 5] (by exact ⟨rfl, rfl, rfl, rfl, rfl, rfl, trivial⟩) rfl rfl
                  ·
                    rcases ite_inv hm with ⟨h77, hm⟩ | ⟨h77, hm⟩
                    ·
                      refine JC.condT' rfl (decide_eq_true h77) ?_
                      refine JC.region ?_
                      refine JL.val (v := .agg #[.int .u8 (0 : Int), .int .i64 (0 : Int), .int .i64 (0 : Int)]) (QV.build (vals := []) rfl (by kernel_rfl)) rfl rfl rfl ?_
                      refine JL.mv (d := none) (MV.store (ss := [Seg.c (.int .u8 (0 : Int)), Seg.c (.int .i64 y36.1), Seg.c (.int .i64 y36.2)]) 6 0 3 [Seg.c (.int .u8 (0 : Int)), Seg.c (.int .i64 (0 : Int)), Seg.c (.int .i64 (0 : Int))] rfl tk_23 rfl rfl rfl rfl (fun w hs => ⟨rfl, one_c rfl, one_c rfl, one_c rfl, trivial⟩)) rfl rfl rfl ?_
                      rintro _ _ ⟨rfl, rfl⟩
                      refine JL.nil ?_
                      exact QJ.cut_normal (((0 : Int), (0 : Int)), ()) hm [8, 1, 2, 4, 9, 6] (by exact ⟨rfl, rfl, rfl, rfl, rfl, rfl, trivial⟩) rfl rfl
                    ·
                      refine JC.condF' rfl (decide_eq_false h77) ?_
                      refine JC.skip ?_
                      exact QJ.cut_normal ((y36.1, y36.2), ()) hm [8, 1, 2, 4, 9, 6] (by exact ⟨rfl, rfl, rfl, rfl, rfl, rfl, trivial⟩) rfl rfl
                ·
                  refine JC.condF' rfl (decide_eq_false h69) ?_
                  refine JC.region ?_
                  refine JL.val (v := .pointer (some ⟨z11, 0, none⟩)) (QV.move rfl) rfl rfl rfl ?_
                  refine JL.val (v := .int .i64 d20) (QV.move rfl) rfl rfl rfl ?_
                  obtain ⟨y78, hc79, hm⟩ := bind_inv hm
                  refine JL.mv (d := some 56) (MV.call (Lo := [Asr.blk z11 81 [Seg.c (s1.v), Seg.c (z12.v), Seg.c (z13.v)], Asr.of 3 (Enc.int .i64) (z12.v) d16, Asr.of 3 (Enc.int .i64) (z13.v) d17]) (Lr := [Asr.blk b38 23 [Seg.c (.int .u8 (0 : Int)), Seg.c (.int .i64 y36.1), Seg.c (.int .i64 y36.2)], Asr.vw (Enc.int .u8) (s1.v) x2, Asr.vw (Enc.int .u8) (s1.v) x2, Asr.of 23 (Enc.pair (Enc.int .u8) (Enc.pair (Enc.int .i64) (Enc.int .i64))) (z18.v) d19]) (F57.spec (z11) (s1) (z12) (z13) (x2) (d16) (d17) (d20) _ hc79) rfl Try.func57 rfl rfl rfl [4, 1, 2] [0, 3, 5, 6] rfl rfl rfl ⟨(Drv.vw 1 rfl), trivial⟩) rfl rfl rfl ?_
                  rintro _ _ ⟨_, ⟨rfl, rfl⟩, rfl⟩
                  refine JL.nil ?_
                  exact QJ.cut_normal ((y78.1, y78.2, y36.1, y36.2), ()) hm [6, 0, 1, 3, 7, 4] (by exact ⟨rfl, rfl, rfl, rfl, rfl, rfl, trivial⟩) rfl rfl
            ·
              refine JL.val (v := .bool false) (QV.eq (QV.move rfl) (congrArg Value.bool (decide_eq_false h40))) rfl rfl rfl ?_
              refine JL.skip (d := some 36) rfl rfl rfl ?_
              refine JL.skip (d := some 37) rfl rfl rfl ?_
              refine JL.val (v := .bool false) (QV.pickF rfl rfl) rfl rfl rfl ?_
              refine JL.nil ?_
              refine QJ.then_normal ?_
              refine JC.condF rfl ?_
              refine JC.region ?_
              refine JL.val (v := .pointer (some ⟨z11, 0, none⟩)) (QV.move rfl) rfl rfl rfl ?_
              refine JL.val (v := .int .i64 d20) (QV.move rfl) rfl rfl rfl ?_
              obtain ⟨y80, hc81, hm⟩ := bind_inv hm
              refine JL.mv (d := some 56) (MV.call (Lo := [Asr.blk z11 81 [Seg.c (s1.v), Seg.c (z12.v), Seg.c (z13.v)], Asr.of 3 (Enc.int .i64) (z12.v) d16, Asr.of 3 (Enc.int .i64) (z13.v) d17]) (Lr := [Asr.blk b38 23 [Seg.c (.int .u8 (0 : Int)), Seg.c (.int .i64 y36.1), Seg.c (.int .i64 y36.2)], Asr.vw (Enc.int .u8) (s1.v) x2, Asr.vw (Enc.int .u8) (s1.v) x2, Asr.of 23 (Enc.pair (Enc.int .u8) (Enc.pair (Enc.int .i64) (Enc.int .i64))) (z18.v) d19]) (F57.spec (z11) (s1) (z12) (z13) (x2) (d16) (d17) (d20) _ hc81) rfl Try.func57 rfl rfl rfl [4, 1, 2] [0, 3, 5, 6] rfl rfl rfl ⟨(Drv.vw 1 rfl), trivial⟩) rfl rfl rfl ?_
              rintro _ _ ⟨_, ⟨rfl, rfl⟩, rfl⟩
              refine JL.nil ?_
              refine QJ.then_normal ?_
              refine JC.seq ?_
              refine JC.region ?_
              refine JL.val (v := .int .i64 (1 : Int)) (QV.assign rfl) rfl rfl rfl ?_
              refine JL.nil ?_
              refine QJ.then_normal ?_
              refine JC.seq ?_
              refine JC.seq ?_
              refine JC.region ?_
              refine JL.val (v := .pointer (some ⟨b38, 1, none⟩)) (QV.fieldB fo_23_1 rfl rfl) rfl rfl rfl ?_
              refine JL.val (v := .int .i64 y36.1) (QV.load1 (ss := [Seg.c (.int .u8 (0 : Int)), Seg.c (.int .i64 y36.1), Seg.c (.int .i64 y36.2)]) 4 1 rfl tk_3 rfl rfl rfl) rfl rfl rfl ?_
              refine JL.val (v := .bool (decide (y36.1 = (0 : Int)))) (QV.eql rfl rfl) rfl rfl rfl ?_
              refine JL.nil ?_
              refine QJ.then_normal ?_
              refine JC.cutK (Y := (Int × Int × Int × Int) × Unit) (fun y => match y with | ((d82, d83, d84, d85), _) => F18.j8 x2 d19 d20 y80 (d82) (d83) (d84) (d85) = some s29) (fun y => match y with | ((d82, d83, d84, d85), _) => [(0, s1.v), (1, .int .i64 x3), (5, .pointer (some ⟨z11, 0, none⟩)), (6, z18.v), (7, .int .i64 d20), (8, .pointer (some ⟨b38, 0, none⟩)), (10, .int .i64 d85)]) (fun y => match y with | ((d82, d83, d84, d85), _) => [Asr.vw (Enc.int .u8) (s1.v) x2, Asr.of 3 (Enc.int .i64) (z12.v) y80.1, Asr.of 3 (Enc.int .i64) (z13.v) y80.2, Asr.blk z11 81 [Seg.c (s1.v), Seg.c (z12.v), Seg.c (z13.v)], Asr.of 23 (Enc.pair (Enc.int .u8) (Enc.pair (Enc.int .i64) (Enc.int .i64))) (z18.v) d19, Asr.blk b38 23 [Seg.c (.int .u8 d82), Seg.c (.int .i64 d83), Seg.c (.int .i64 d84)]]) ?_ ?_
              ·
                rintro ⟨⟨d82, d83, d84, d85⟩, ⟨⟩⟩ hm
                unfold F18.j8 at hm
                show QJ _ _ [(0, s1.v), (1, .int .i64 x3), (5, .pointer (some ⟨z11, 0, none⟩)), (6, z18.v), (7, .int .i64 d20), (8, .pointer (some ⟨b38, 0, none⟩)), (10, .int .i64 d85)] [Asr.vw (Enc.int .u8) (s1.v) x2, Asr.of 3 (Enc.int .i64) (z12.v) y80.1, Asr.of 3 (Enc.int .i64) (z13.v) y80.2, Asr.blk z11 81 [Seg.c (s1.v), Seg.c (z12.v), Seg.c (z13.v)], Asr.of 23 (Enc.pair (Enc.int .u8) (Enc.pair (Enc.int .i64) (Enc.int .i64))) (z18.v) d19, Asr.blk b38 23 [Seg.c (.int .u8 d82), Seg.c (.int .i64 d83), Seg.c (.int .i64 d84)]] _ _
                refine QJ.then_normal ?_
                refine JC.seq ?_
                refine JC.seq ?_
                refine JC.region ?_
                refine JL.val (v := .int .i64 (1 : Int)) (QV.assign rfl) rfl rfl rfl ?_
                refine JL.nil ?_
                refine QJ.then_normal ?_
                refine JC.cutK (Y := (List Int × List Int) × Unit) (fun y => match y with | ((d86, d87), _) => F18.j9 d19 d20 d82 d83 d84 d85 (d86) (d87) = some s29) (fun y => match y with | ((d86, d87), _) => [(0, s1.v), (1, .int .i64 x3), (5, .pointer (some ⟨z11, 0, none⟩)), (6, z18.v), (7, .int .i64 d20), (8, .pointer (some ⟨b38, 0, none⟩)), (10, .int .i64 d85)]) (fun y => match y with | ((d86, d87), _) => [Asr.vw (Enc.int .u8) (s1.v) x2, Asr.of 3 (Enc.int .i64) (z12.v) d86, Asr.of 3 (Enc.int .i64) (z13.v) d87, Asr.blk z11 81 [Seg.c (s1.v), Seg.c (z12.v), Seg.c (z13.v)], Asr.of 23 (Enc.pair (Enc.int .u8) (Enc.pair (Enc.int .i64) (Enc.int .i64))) (z18.v) d19, Asr.blk b38 23 [Seg.c (.int .u8 d82), Seg.c (.int .i64 d83), Seg.c (.int .i64 d84)]]) ?_ ?_
                ·
                  rintro ⟨⟨d86, d87⟩, ⟨⟩⟩ hm
                  unfold F18.j9 at hm
                  show QJ _ _ [(0, s1.v), (1, .int .i64 x3), (5, .pointer (some ⟨z11, 0, none⟩)), (6, z18.v), (7, .int .i64 d20), (8, .pointer (some ⟨b38, 0, none⟩)), (10, .int .i64 d85)] [Asr.vw (Enc.int .u8) (s1.v) x2, Asr.of 3 (Enc.int .i64) (z12.v) d86, Asr.of 3 (Enc.int .i64) (z13.v) d87, Asr.blk z11 81 [Seg.c (s1.v), Seg.c (z12.v), Seg.c (z13.v)], Asr.of 23 (Enc.pair (Enc.int .u8) (Enc.pair (Enc.int .i64) (Enc.int .i64))) (z18.v) d19, Asr.blk b38 23 [Seg.c (.int .u8 d82), Seg.c (.int .i64 d83), Seg.c (.int .i64 d84)]] _ _
                  refine QJ.then_normal ?_
                  refine JC.seq ?_
                  refine JC.region ?_
                  refine JL.val (v := z18.v) (QV.move rfl) rfl rfl rfl ?_
                  refine JL.val (v := .agg #[.int .u8 d82, .int .i64 d83, .int .i64 d84]) (QV.eq (QV.loadN (ss := [Seg.c (.int .u8 d82), Seg.c (.int .i64 d83), Seg.c (.int .i64 d84)]) 5 0 3 rfl tk_23 rfl rfl rfl rfl) rfl) rfl rfl rfl ?_
                  refine JL.mv (d := some 79) (MV.lit (E := (Enc.pair (Enc.int .u8) (Enc.pair (Enc.int .i64) (Enc.int .i64)))) (vals := [(0, .agg #[.int .u8 d82, .int .i64 d83, .int .i64 d84])]) [(d82, d83, d84)] Try.underlying27 zi_23 rfl (by decide) rfl (by kernel_rfl)) rfl rfl rfl ?_
                  rintro _ _ ⟨z88, rfl, rfl⟩
                  obtain ⟨h89, hm⟩ := guard_inv hm
                  refine JL.mv (d := some 80) (MV.append 5 rfl (Rdg.of 0 rfl) Try.underlying27 zi_23 rfl (by decide) rfl rfl h89) rfl rfl rfl ?_
                  rintro _ _ ⟨z90, rfl, rfl⟩
                  refine JL.val (v := z90.v) (QV.assign rfl) rfl rfl rfl ?_
                  refine JL.nil ?_
                  refine QJ.then_normal ?_
                  refine JC.region ?_
                  refine JL.val (v := .int .i64 d20) (QV.move rfl) rfl rfl rfl ?_
                  refine JL.val (v := .int .i64 d85) (QV.move rfl) rfl rfl rfl ?_
                  refine JL.val (v := .int .i64 (IntKind.wrap .i64 (d20 + d85))) (QV.add rfl rfl) rfl rfl rfl ?_
                  refine JL.val (v := .int .i64 (IntKind.wrap .i64 (d20 + d85))) (QV.assign rfl) rfl rfl rfl ?_
                  refine JL.nil ?_
                  refine QJ.block_normal ?_
                  exact QJ.cut_normal ((d86, d87, (d19 ++ [(d82, d83, d84)]), (IntKind.wrap .i64 (d20 + d85))), z90) hm [1, 2, 3, 4, 5] (by exact ⟨rfl, rfl, rfl, rfl, rfl, trivial⟩) rfl rfl
                ·
                  refine JC.block ?_
                  obtain ⟨y97, hl98, hmo99⟩ := bind_inv hm
                  refine JC.loop (F18.b3 x2 d20 d85) (fun x z => match x, z with | (d91, d92, d93), _ => [(0, s1.v), (1, .int .i64 x3), (5, .pointer (some ⟨z11, 0, none⟩)), (6, z18.v), (7, .int .i64 d20), (8, .pointer (some ⟨b38, 0, none⟩)), (10, .int .i64 d85), (11, .int .i64 d93)]) (fun x z => match x, z with | (d91, d92, d93), _ => [Asr.vw (Enc.int .u8) (s1.v) x2, Asr.of 3 (Enc.int .i64) (z12.v) d91, Asr.of 3 (Enc.int .i64) (z13.v) d92, Asr.blk z11 81 [Seg.c (s1.v), Seg.c (z12.v), Seg.c (z13.v)], Asr.of 23 (Enc.pair (Enc.int .u8) (Enc.pair (Enc.int .i64) (Enc.int .i64))) (z18.v) d19, Asr.blk b38 23 [Seg.c (.int .u8 d82), Seg.c (.int .i64 d83), Seg.c (.int .i64 d84)]]) (y80.1, y80.2, (1 : Int)) () y97 hl98 [0, 1, 2, 3, 4, 5] (by exact ⟨rfl, rfl, rfl, rfl, rfl, rfl, rfl, rfl, trivial⟩) rfl rfl ?_
                  rintro ⟨d91, d92, d93⟩ ⟨⟩ s100 hm
                  unfold F18.b3 at hm
                  dsimp only at hm
                  show JC _ _ _ [(0, s1.v), (1, .int .i64 x3), (5, .pointer (some ⟨z11, 0, none⟩)), (6, z18.v), (7, .int .i64 d20), (8, .pointer (some ⟨b38, 0, none⟩)), (10, .int .i64 d85), (11, .int .i64 d93)] [Asr.vw (Enc.int .u8) (s1.v) x2, Asr.of 3 (Enc.int .i64) (z12.v) d91, Asr.of 3 (Enc.int .i64) (z13.v) d92, Asr.blk z11 81 [Seg.c (s1.v), Seg.c (z12.v), Seg.c (z13.v)], Asr.of 23 (Enc.pair (Enc.int .u8) (Enc.pair (Enc.int .i64) (Enc.int .i64))) (z18.v) d19, Asr.blk b38 23 [Seg.c (.int .u8 d82), Seg.c (.int .i64 d83), Seg.c (.int .i64 d84)]] _ _
                  refine JC.seq ?_
                  refine JC.seq ?_
                  refine JC.region ?_
                  refine JL.val (v := .int .i64 d93) (QV.move rfl) rfl rfl rfl ?_
                  refine JL.val (v := .int .i64 d85) (QV.move rfl) rfl rfl rfl ?_
                  refine JL.val (v := .bool (decide (d93 < d85))) (QV.lss rfl rfl) rfl rfl rfl ?_
                  refine JL.nil ?_
                  refine QJ.then_normal ?_
                  rcases ite_inv hm with ⟨h101, hm⟩ | ⟨h101, hm⟩
                  ·
                    refine JC.condT' rfl (decide_eq_true h101) ?_
                    refine JC.skip ?_
                    refine QJ.then_normal ?_
                    refine JC.seq ?_
                    refine JC.block ?_
                    refine JC.region ?_
                    refine JL.val (v := .pointer (some ⟨z11, 0, none⟩)) (QV.move rfl) rfl rfl rfl ?_
                    refine JL.val (v := .int .i64 d20) (QV.move rfl) rfl rfl rfl ?_
                    refine JL.val (v := .int .i64 d93) (QV.move rfl) rfl rfl rfl ?_
                    refine JL.val (v := .int .i64 (IntKind.wrap .i64 (d20 + d93))) (QV.add rfl rfl) rfl rfl rfl ?_
                    obtain ⟨y102, hc103, hm⟩ := bind_inv hm
                    refine JL.mv (d := some 76) (MV.call (Lo := [Asr.blk z11 81 [Seg.c (s1.v), Seg.c (z12.v), Seg.c (z13.v)], Asr.of 3 (Enc.int .i64) (z12.v) d91, Asr.of 3 (Enc.int .i64) (z13.v) d92]) (Lr := [Asr.vw (Enc.int .u8) (s1.v) x2, Asr.of 23 (Enc.pair (Enc.int .u8) (Enc.pair (Enc.int .i64) (Enc.int .i64))) (z18.v) d19, Asr.blk b38 23 [Seg.c (.int .u8 d82), Seg.c (.int .i64 d83), Seg.c (.int .i64 d84)]]) (F57.spec (z11) (s1) (z12) (z13) (x2) (d91) (d92) ((IntKind.wrap .i64 (d20 + d93))) _ hc103) rfl Try.func57 rfl rfl rfl [3, 1, 2] [0, 4, 5] rfl rfl rfl ⟨(Drv.vw 0 rfl), trivial⟩) rfl rfl rfl ?_
                    rintro _ _ ⟨_, ⟨rfl, rfl⟩, rfl⟩
                    refine JL.nil ?_
                    refine QJ.block_normal ?_
                    refine QJ.then_normal ?_
                    refine JC.region ?_
                    refine JL.val (v := .int .i64 d93) (QV.move rfl) rfl rfl rfl ?_
                    refine JL.val (v := .int .i64 (IntKind.wrap .i64 (d93 + (1 : Int)))) (QV.add rfl rfl) rfl rfl rfl ?_
                    refine JL.val (v := .int .i64 (IntKind.wrap .i64 (d93 + (1 : Int)))) (QV.assign rfl) rfl rfl rfl ?_
                    refine JL.nil ?_
                    obtain rfl := Option.some.inj hm
                    exact QJ.round_on (y102.1, y102.2, (IntKind.wrap .i64 (d93 + (1 : Int)))) () [4, 0, 1, 3, 5, 6] (by exact ⟨rfl, rfl, rfl, rfl, rfl, rfl, rfl, rfl, trivial⟩) rfl rfl
                  ·
                    refine JC.condF' rfl (decide_eq_false h101) ?_
                    refine JC.exit ?_
                    refine QJ.then_exit ?_
                    obtain rfl := Option.some.inj hm
                    refine QJ.round_exit (fun hy => ?_)
                    subst hy
                    refine QJ.block_hit ?_
                    exact QJ.cut_normal ((d91, d92), ()) hmo99 [0, 1, 2, 3, 4, 5] (by exact ⟨rfl, rfl, rfl, rfl, rfl, rfl, rfl, trivial⟩) rfl rfl
              ·
                rcases ite_inv hm with ⟨h104, hm⟩ | ⟨h104, hm⟩
                ·
                  refine JC.condT' rfl (decide_eq_true h104) ?_
                  refine JC.region ?_
                  refine JL.val (v := s1.v) (QV.move rfl) rfl rfl rfl ?_
                  refine JL.val (v := .int .i64 d20) (QV.move rfl) rfl rfl rfl ?_
                  obtain ⟨h105, hm⟩ := guard_inv hm
                  refine JL.val (v := .pointer (some (elA (s1.v) (Int.toNat d20 * ((Enc.int .u8)).sz)))) (QV.indexA (Rdg.vw 6 rfl) Try.underlying26 tk_5 rfl rfl h105) rfl rfl rfl ?_
                  refine JL.val (v := .int .u8 (gd x2 d20)) (QV.el1 (Rdg.vw 6 rfl) tk_5 rfl h105 rfl) rfl rfl rfl ?_
                  refine JL.val (v := .agg #[.int .u8 (gd x2 d20), .int .i64 (0 : Int), .int .i64 (0 : Int)]) (QV.build (vals := [(0, .int .u8 (gd x2 d20))]) rfl (by kernel_rfl)) rfl rfl rfl ?_
                  refine JL.mv (d := none) (MV.store (ss := [Seg.c (.int .u8 (0 : Int)), Seg.c (.int .i64 y36.1), Seg.c (.int .i64 y36.2)]) 4 0 3 [Seg.c (.int .u8 (gd x2 d20)), Seg.c (.int .i64 (0 : Int)), Seg.c (.int .i64 (0 : Int))] rfl tk_23 rfl rfl rfl rfl (fun w hs => ⟨rfl, one_c rfl, one_c rfl, one_c rfl, trivial⟩)) rfl rfl rfl ?_
                  rintro _ _ ⟨rfl, rfl⟩
                  refine JL.nil ?_
                  exact QJ.cut_normal (((gd x2 d20), (0 : Int), (0 : Int), (1 : Int)), ()) hm [6, 0, 1, 3, 7, 4] (by exact ⟨rfl, rfl, rfl, rfl, rfl, rfl, rfl, trivial⟩) rfl rfl
                ·
                  refine JC.condF' rfl (decide_eq_false h104) ?_
                  refine JC.region ?_
                  refine JL.val (v := .pointer (some ⟨b38, 1, none⟩)) (QV.fieldB fo_23_1 rfl rfl) rfl rfl rfl ?_
                  refine JL.val (v := .int .i64 y36.1) (QV.load1 (ss := [Seg.c (.int .u8 (0 : Int)), Seg.c (.int .i64 y36.1), Seg.c (.int .i64 y36.2)]) 4 1 rfl tk_3 rfl rfl rfl) rfl rfl rfl ?_
                  refine JL.val (v := .int .i64 y36.1) (QV.assign rfl) rfl rfl rfl ?_
                  refine JL.nil ?_
                  exact QJ.cut_normal (((0 : Int), y36.1, y36.2, y36.1), ()) hm [6, 0, 1, 3, 7, 4] (by exact ⟨rfl, rfl, rfl, rfl, rfl, rfl, rfl, trivial⟩) rfl rfl
          ·
            refine JL.val (v := .bool false) (QV.eq (QV.move rfl) (congrArg Value.bool (decide_eq_false h39))) rfl rfl rfl ?_
            refine JL.skip (d := some 31) rfl rfl rfl ?_
            refine JL.skip (d := some 32) rfl rfl rfl ?_
            refine JL.skip (d := some 33) rfl rfl rfl ?_
            refine JL.val (v := .bool false) (QV.pickF rfl rfl) rfl rfl rfl ?_
            refine JL.val (v := .bool false) (QV.move rfl) rfl rfl rfl ?_
            refine JL.skip (d := some 36) rfl rfl rfl ?_
            refine JL.skip (d := some 37) rfl rfl rfl ?_
            refine JL.val (v := .bool false) (QV.pickF rfl rfl) rfl rfl rfl ?_
            refine JL.nil ?_
            refine QJ.then_normal ?_
            refine JC.condF rfl ?_
            refine JC.region ?_
            refine JL.val (v := .pointer (some ⟨z11, 0, none⟩)) (QV.move rfl) rfl rfl rfl ?_
            refine JL.val (v := .int .i64 d20) (QV.move rfl) rfl rfl rfl ?_
            obtain ⟨y106, hc107, hm⟩ := bind_inv hm
            refine JL.mv (d := some 56) (MV.call (Lo := [Asr.blk z11 81 [Seg.c (s1.v), Seg.c (z12.v), Seg.c (z13.v)], Asr.of 3 (Enc.int .i64) (z12.v) d16, Asr.of 3 (Enc.int .i64) (z13.v) d17]) (Lr := [Asr.blk b38 23 [Seg.c (.int .u8 (0 : Int)), Seg.c (.int .i64 y36.1), Seg.c (.int .i64 y36.2)], Asr.vw (Enc.int .u8) (s1.v) x2, Asr.vw (Enc.int .u8) (s1.v) x2, Asr.of 23 (Enc.pair (Enc.int .u8) (Enc.pair (Enc.int .i64) (Enc.int .i64))) (z18.v) d19]) (F57.spec (z11) (s1) (z12) (z13) (x2) (d16) (d17) (d20) _ hc107) rfl Try.func57 rfl rfl rfl [4, 1, 2] [0, 3, 5, 6] rfl rfl rfl ⟨(Drv.vw 1 rfl), trivial⟩) rfl rfl rfl ?_
            rintro _ _ ⟨_, ⟨rfl, rfl⟩, rfl⟩
            refine JL.nil ?_
            refine QJ.then_normal ?_
            refine JC.seq ?_
            refine JC.region ?_
            refine JL.val (v := .int .i64 (1 : Int)) (QV.assign rfl) rfl rfl rfl ?_
            refine JL.nil ?_
            refine QJ.then_normal ?_
            refine JC.seq ?_
            refine JC.seq ?_
            refine JC.region ?_
            refine JL.val (v := .pointer (some ⟨b38, 1, none⟩)) (QV.fieldB fo_23_1 rfl rfl) rfl rfl rfl ?_
            refine JL.val (v := .int .i64 y36.1) (QV.load1 (ss := [Seg.c (.int .u8 (0 : Int)), Seg.c (.int .i64 y36.1), Seg.c (.int .i64 y36.2)]) 4 1 rfl tk_3 rfl rfl rfl) rfl rfl rfl ?_
            refine JL.val (v := .bool (decide (y36.1 = (0 : Int)))) (QV.eql rfl rfl) rfl rfl rfl ?_
            refine JL.nil ?_
            refine QJ.then_normal ?_
            refine JC.cutK (Y := (Int × Int × Int × Int) × Unit) (fun y => match y with | ((d108, d109, d110, d111), _) => F18.j10 x2 d19 d20 y106 (d108) (d109) (d110) (d111) = some s29) (fun y => match y with | ((d108, d109, d110, d111), _) => [(0, s1.v), (1, .int .i64 x3), (5, .pointer (some ⟨z11, 0, none⟩)), (6, z18.v), (7, .int .i64 d20), (8, .pointer (some ⟨b38, 0, none⟩)), (10, .int .i64 d111)]) (fun y => match y with | ((d108, d109, d110, d111), _) => [Asr.vw (Enc.int .u8) (s1.v) x2, Asr.of 3 (Enc.int .i64) (z12.v) y106.1, Asr.of 3 (Enc.int .i64) (z13.v) y106.2, Asr.blk z11 81 [Seg.c (s1.v), Seg.c (z12.v), Seg.c (z13.v)], Asr.of 23 (Enc.pair (Enc.int .u8) (Enc.pair (Enc.int .i64) (Enc.int .i64))) (z18.v) d19, Asr.blk b38 23 [Seg.c (.int .u8 d108), Seg.c (.int .i64 d109), Seg.c (.int .i64 d110)]]) ?_ ?_
            ·
              rintro ⟨⟨d108, d109, d110, d111⟩, ⟨⟩⟩ hm
              unfold F18.j10 at hm
              show QJ _ _ [(0, s1.v), (1, .int .i64 x3), (5, .pointer (some ⟨z11, 0, none⟩)), (6, z18.v), (7, .int .i64 d20), (8, .pointer (some ⟨b38, 0, none⟩)), (10, .int .i64 d111)] [Asr.vw (Enc.int .u8) (s1.v) x2, Asr.of 3 (Enc.int .i64) (z12.v) y106.1, Asr.of 3 (Enc.int .i64) (z13.v) y106.2, Asr.blk z11 81 [Seg.c (s1.v), Seg.c (z12.v), Seg.c (z13.v)], Asr.of 23 (Enc.pair (Enc.int .u8) (Enc.pair (Enc.int .i64) (Enc.int .i64))) (z18.v) d19, Asr.blk b38 23 [Seg.c (.int .u8 d108), Seg.c (.int .i64 d109), Seg.c (.int .i64 d110)]] _ _
              refine QJ.then_normal ?_
              refine JC.seq ?_
              refine JC.seq ?_
              refine JC.region ?_
              refine JL.val (v := .int .i64 (1 : Int)) (QV.assign rfl) rfl rfl rfl ?_
              refine JL.nil ?_
              refine QJ.then_normal ?_
              refine JC.cutK (Y := (List Int × List Int) × Unit) (fun y => match y with | ((d112, d113), _) => F18.j11 d19 d20 d108 d109 d110 d111 (d112) (d113) = some s29) (fun y => match y with | ((d112, d113), _) => [(0, s1.v), (1, .int .i64 x3), (5, .pointer (some ⟨z11, 0, none⟩)), (6, z18.v), (7, .int .i64 d20), (8, .pointer (some ⟨b38, 0, none⟩)), (10, .int .i64 d111)]) (fun y => match y with | ((d112, d113), _) => [Asr.vw (Enc.int .u8) (s1.v) x2, Asr.of 3 (Enc.int .i64) (z12.v) d112, Asr.of 3 (Enc.int .i64) (z13.v) d113, Asr.blk z11 81 [Seg.c (s1.v), Seg.c (z12.v), Seg.c (z13.v)], Asr.of 23 (Enc.pair (Enc.int .u8) (Enc.pair (Enc.int .i64) (Enc.int .i64))) (z18.v) d19, Asr.blk b38 23 [Seg.c (.int .u8 d108), Seg.c (.int .i64 d109), Seg.c (.int .i64 d110)]]) ?_ ?_
              ·
                rintro ⟨⟨d112, d113⟩, ⟨⟩⟩ hm
                unfold F18.j11 at hm
                show QJ _ _ [(0, s1.v), (1, .int .i64 x3), (5, .pointer (some ⟨z11, 0, none⟩)), (6, z18.v), (7, .int .i64 d20), (8, .pointer (some ⟨b38, 0, none⟩)), (10, .int .i64 d111)] [Asr.vw (Enc.int .u8) (s1.v) x2, Asr.of 3 (Enc.int .i64) (z12.v) d112, Asr.of 3 (Enc.int .i64) (z13.v) d113, Asr.blk z11 81 [Seg.c (s1.v), Seg.c (z12.v), Seg.c (z13.v)], Asr.of 23 (Enc.pair (Enc.int .u8) (Enc.pair (Enc.int .i64) (Enc.int .i64))) (z18.v) d19, Asr.blk b38 23 [Seg.c (.int .u8 d108), Seg.c (.int .i64 d109), Seg.c (.int .i64 d110)]] _ _
                refine QJ.then_normal ?_
                refine JC.seq ?_
                refine JC.region ?_
                refine JL.val (v := z18.v) (QV.move rfl) rfl rfl rfl ?_
                refine JL.val (v := .agg #[.int .u8 d108, .int .i64 d109, .int .i64 d110]) (QV.eq (QV.loadN (ss := [Seg.c (.int .u8 d108), Seg.c (.int .i64 d109), Seg.c (.int .i64 d110)]) 5 0 3 rfl tk_23 rfl rfl rfl rfl) rfl) rfl rfl rfl ?_
                refine JL.mv (d := some 79) (MV.lit (E := (Enc.pair (Enc.int .u8) (Enc.pair (Enc.int .i64) (Enc.int .i64)))) (vals := [(0, .agg #[.int .u8 d108, .int .i64 d109, .int .i64 d110])]) [(d108, d109, d110)] Try.underlying27 zi_23 rfl (by decide) rfl (by kernel_rfl)) rfl rfl rfl ?_
                rintro _ _ ⟨z114, rfl, rfl⟩
                obtain ⟨h115, hm⟩ := guard_inv hm
                refine JL.mv (d := some 80) (MV.append 5 rfl (Rdg.of 0 rfl) Try.underlying27 zi_23 rfl (by decide) rfl rfl h115) rfl rfl rfl ?_
                rintro _ _ ⟨z116, rfl, rfl⟩
                refine JL.val (v := z116.v) (QV.assign rfl) rfl rfl rfl ?_
                refine JL.nil ?_
                refine QJ.then_normal ?_
                refine JC.region ?_
                refine JL.val (v := .int .i64 d20) (QV.move rfl) rfl rfl rfl ?_
                refine JL.val (v := .int .i64 d111) (QV.move rfl) rfl rfl rfl ?_
                refine JL.val (v := .int .i64 (IntKind.wrap .i64 (d20 + d111))) (QV.add rfl rfl) rfl rfl rfl ?_
                refine JL.val (v := .int .i64 (IntKind.wrap .i64 (d20 + d111))) (QV.assign rfl) rfl rfl rfl ?_
                refine JL.nil ?_
                refine QJ.block_normal ?_
                exact QJ.cut_normal ((d112, d113, (d19 ++ [(d108, d109, d110)]), (IntKind.wrap .i64 (d20 + d111))), z116) hm [1, 2, 3, 4, 5] (by exact ⟨rfl, rfl, rfl, rfl, rfl, trivial⟩) rfl rfl
              ·
                refine JC.block ?_
                obtain ⟨y123, hl124, hmo125⟩ := bind_inv hm
                refine JC.loop (F18.b4 x2 d20 d111) (fun x z => match x, z with | (d117, d118, d119), _ => [(0, s1.v), (1, .int .i64 x3), (5, .pointer (some ⟨z11, 0, none⟩)), (6, z18.v), (7, .int .i64 d20), (8, .pointer (some ⟨b38, 0, none⟩)), (10, .int .i64 d111), (11, .int .i64 d119)]) (fun x z => match x, z with | (d117, d118, d119), _ => [Asr.vw (Enc.int .u8) (s1.v) x2, Asr.of 3 (Enc.int .i64) (z12.v) d117, Asr.of 3 (Enc.int .i64) (z13.v) d118, Asr.blk z11 81 [Seg.c (s1.v), Seg.c (z12.v), Seg.c (z13.v)], Asr.of 23 (Enc.pair (Enc.int .u8) (Enc.pair (Enc.int .i64) (Enc.int .i64))) (z18.v) d19, Asr.blk b38 23 [Seg.c (.int .u8 d108), Seg.c (.int .i64 d109), Seg.c (.int .i64 d110)]]) (y106.1, y106.2, (1 : Int)) () y123 hl124 [0, 1, 2, 3, 4, 5] (by exact ⟨rfl, rfl, rfl, rfl, rfl, rfl, rfl, rfl, trivial⟩) rfl rfl ?_
                rintro ⟨d117, d118, d119⟩ ⟨⟩ s126 hm
                unfold F18.b4 at hm
                dsimp only at hm
                show JC _ _ _ [(0, s1.v), (1, .int .i64 x3), (5, .pointer (some ⟨z11, 0, none⟩)), (6, z18.v), (7, .int .i64 d20), (8, .pointer (some ⟨b38, 0, none⟩)), (10, .int .i64 d111), (11, .int .i64 d119)] [Asr.vw (Enc.int .u8) (s1.v) x2, Asr.of 3 (Enc.int .i64) (z12.v) d117, Asr.of 3 (Enc.int .i64) (z13.v) d118, Asr.blk z11 81 [Seg.c (s1.v), Seg.c (z12.v), Seg.c (z13.v)], Asr.of 23 (Enc.pair (Enc.int .u8) (Enc.pair (Enc.int .i64) (Enc.int .i64))) (z18.v) d19, Asr.blk b38 23 [Seg.c (.int .u8 d108), Seg.c (.int .i64 d109), Seg.c (.int .i64 d110)]] _ _
                refine JC.seq ?_
                refine JC.seq ?_
                refine JC.region ?_
                refine JL.val (v := .int .i64 d119) (QV.move rfl) rfl rfl rfl ?_
                refine JL.val (v := .int .i64 d111) (QV.move rfl) rfl rfl rfl ?_
                refine JL.val (v := .bool (decide (d119 < d111))) (QV.lss rfl rfl) rfl rfl rfl ?_
                refine JL.nil ?_
                refine QJ.then_normal ?_
                rcases ite_inv hm with ⟨h127, hm⟩ | ⟨h127, hm⟩
                ·
                  refine JC.condT' rfl (decide_eq_true h127) ?_
                  refine JC.skip ?_
                  refine QJ.then_normal ?_
                  refine JC.seq ?_
                  refine JC.block ?_
                  refine JC.region ?_
                  refine JL.val (v := .pointer (some ⟨z11, 0, none⟩)) (QV.move rfl) rfl rfl rfl ?_
                  refine JL.val (v := .int .i64 d20) (QV.move rfl) rfl rfl rfl ?_
                  refine JL.val (v := .int .i64 d119) (QV.move rfl) rfl rfl rfl ?_
                  refine JL.val (v := .int .i64 (IntKind.wrap .i64 (d20 + d119))) (QV.add rfl rfl) rfl rfl rfl ?_
                  obtain ⟨y128, hc129, hm⟩ := bind_inv hm
                  refine JL.mv (d := some 76) (MV.call (Lo := [Asr.blk z11 81 [Seg.c (s1.v), Seg.c (z12.v), Seg.c (z13.v)], Asr.of 3 (Enc.int .i64) (z12.v) d117, Asr.of 3 (Enc.int .i64) (z13.v) d118]) (Lr := [Asr.vw (Enc.int .u8) (s1.v) x2, Asr.of 23 (Enc.pair (Enc.int .u8) (Enc.pair (Enc.int .i64) (Enc.int .i64))) (z18.v) d19, Asr.blk b38 23 [Seg.c (.int .u8 d108), Seg.c (.int .i64 d109), Seg.c (.int .i64 d110)]]) (F57.spec (z11) (s1) (z12) (z13) (x2) (d117) (d118) ((IntKind.wrap .i64 (d20 + d119))) _ hc129) rfl Try.func57 rfl rfl rfl [3, 1, 2] [0, 4, 5] rfl rfl rfl ⟨(Drv.vw 0 rfl), trivial⟩) rfl rfl rfl ?_
                  rintro _ _ ⟨_, ⟨rfl, rfl⟩, rfl⟩
                  refine JL.nil ?_
                  refine QJ.block_normal ?_
                  refine QJ.then_normal ?_
                  refine JC.region ?_
                  refine JL.val (v := .int .i64 d119) (QV.move rfl) rfl rfl rfl ?_
                  refine JL.val (v := .int .i64 (IntKind.wrap .i64 (d119 + (1 : Int)))) (QV.add rfl rfl) rfl rfl rfl ?_
                  refine JL.val (v := .int .i64 (IntKind.wrap .i64 (d119 + (1 : Int)))) (QV.assign rfl) rfl rfl rfl ?_
                  refine JL.nil ?_
                  obtain rfl := Option.some.inj hm
                  exact QJ.round_on (y128.1, y128.2, (IntKind.wrap .i64 (d119 + (1 : Int)))) () [4, 0, 1, 3, 5, 6] (by exact ⟨rfl, rfl, rfl, rfl, rfl, rfl, rfl, rfl, trivial⟩) rfl rfl
                ·
                  refine JC.condF' rfl (decide_eq_false h127) ?_
                  refine JC.exit ?_
                  refine QJ.then_exit ?_
                  obtain rfl := Option.some.inj hm
                  refine QJ.round_exit (fun hy => ?_)
                  subst hy
                  refine QJ.block_hit ?_
                  exact QJ.cut_normal ((d117, d118), ()) hmo125 [0, 1, 2, 3, 4, 5] (by exact ⟨rfl, rfl, rfl, rfl, rfl, rfl, rfl, trivial⟩) rfl rfl
            ·
              rcases ite_inv hm with ⟨h130, hm⟩ | ⟨h130, hm⟩
              ·
                refine JC.condT' rfl (decide_eq_true h130) ?_
                refine JC.region ?_
                refine JL.val (v := s1.v) (QV.move rfl) rfl rfl rfl ?_
                refine JL.val (v := .int .i64 d20) (QV.move rfl) rfl rfl rfl ?_
                obtain ⟨h131, hm⟩ := guard_inv hm
                refine JL.val (v := .pointer (some (elA (s1.v) (Int.toNat d20 * ((Enc.int .u8)).sz)))) (QV.indexA (Rdg.vw 6 rfl) Try.underlying26 tk_5 rfl rfl h131) rfl rfl rfl ?_
                refine JL.val (v := .int .u8 (gd x2 d20)) (QV.el1 (Rdg.vw 6 rfl) tk_5 rfl h131 rfl) rfl rfl rfl ?_
                refine JL.val (v := .agg #[.int .u8 (gd x2 d20), .int .i64 (0 : Int), .int .i64 (0 : Int)]) (QV.build (vals := [(0, .int .u8 (gd x2 d20))]) rfl (by kernel_rfl)) rfl rfl rfl ?_
                refine JL.mv (d := none) (MV.store (ss := [Seg.c (.int .u8 (0 : Int)), Seg.c (.int .i64 y36.1), Seg.c (.int .i64 y36.2)]) 4 0 3 [Seg.c (.int .u8 (gd x2 d20)), Seg.c (.int .i64 (0 : Int)), Seg.c (.int .i64 (0 : Int))] rfl tk_23 rfl rfl rfl rfl (fun w hs => ⟨rfl, one_c rfl, one_c rfl, one_c rfl, trivial⟩)) rfl rfl rfl ?_
                rintro _ _ ⟨rfl, rfl⟩
                refine JL.nil ?_
                exact QJ.cut_normal (((gd x2 d20), (0 : Int), (0 : Int), (1 : Int)), ()) hm [6, 0, 1, 3, 7, 4] (by exact ⟨rfl, rfl, rfl, rfl, rfl, rfl, rfl, trivial⟩) rfl rfl
              ·
                refine JC.condF' rfl (decide_eq_false h130) ?_
                refine JC.region ?_
                refine JL.val (v := .pointer (some ⟨b38, 1, none⟩)) (QV.fieldB fo_23_1 rfl rfl) rfl rfl rfl ?_
                refine JL.val (v := .int .i64 y36.1) (QV.load1 (ss := [Seg.c (.int .u8 (0 : Int)), Seg.c (.int .i64 y36.1), Seg.c (.int .i64 y36.2)]) 4 1 rfl tk_3 rfl rfl rfl) rfl rfl rfl ?_
                refine JL.val (v := .int .i64 y36.1) (QV.assign rfl) rfl rfl rfl ?_
                refine JL.nil ?_
                exact QJ.cut_normal (((0 : Int), y36.1, y36.2, y36.1), ()) hm [6, 0, 1, 3, 7, 4] (by exact ⟨rfl, rfl, rfl, rfl, rfl, rfl, rfl, trivial⟩) rfl rfl
      ·
        refine JC.condF' rfl (decide_eq_false h30) ?_
        refine JC.exit ?_
        refine QJ.then_exit ?_
        obtain rfl := Option.some.inj hm
        refine QJ.round_exit (fun hy => ?_)
        subst hy
        refine QJ.block_hit ?_
        exact QJ.cut_normal (d19, z18) hmo28 [4] (by exact ⟨rfl, trivial⟩) rfl rfl
  ·
    refine JC.regionU [Asr.of 23 (Enc.pair (Enc.int .u8) (Enc.pair (Enc.int .i64) (Enc.int .i64))) (SlV.nil.v) ([] : List (Int × Int × Int)), Asr.vw (Enc.int .u8) (s1.v) x2] (fun _ => false) 8 rfl (by kernel_rfl) (by kernel_rfl) (fun hsel => ?_)
    refine JU.take (i := 0) (v := s1.v) hsel rfl (by kernel_rfl) (QV.move rfl) rfl rfl rfl [0, 1] rfl rfl ?_
    refine JU.take (i := 2) (v := s1.v) hsel rfl (by kernel_rfl) (QV.move rfl) rfl rfl rfl [0, 1] rfl rfl ?_
    refine JU.take (i := 3) (v := .int .i64 ((x2).length : Int)) hsel rfl (by kernel_rfl) (QV.len (Rdg.vw 1 rfl) Try.underlying26 rfl) rfl rfl rfl [0, 1] rfl rfl ?_
    refine JU.any [1, 4] (by kernel_rfl) rfl ?_
    refine ⟨?_, ?_, trivial⟩
    ·
      refine JUo.mv (d := some 13) rfl (MV.make (E := (Enc.int .i64)) (0 : Int) Try.underlying76 zi_3 (by decide) rfl rfl rfl h6) rfl rfl rfl ?_
      rintro _ _ ⟨z132, rfl, rfl⟩
      refine ⟨fun _ => ⟨[1, 2], rfl, rfl⟩, ?_⟩
      refine JU.any [4] (by kernel_rfl) rfl ?_
      refine ⟨?_, trivial⟩
      refine JUo.mv (d := some 16) rfl (MV.make (E := (Enc.int .i64)) (0 : Int) Try.underlying76 zi_3 (by decide) rfl rfl rfl h8) rfl rfl rfl ?_
      rintro _ _ ⟨z133, rfl, rfl⟩
      refine ⟨fun _ => ⟨[2, 3], rfl, rfl⟩, ?_⟩
      refine JU.ent (fun _ hs => hs.nil 5 (Enc.int .u8)) ?_
      refine JU.ent (fun _ hs => hs.nil 3 (Enc.int .i64)) ?_
      refine JU.ent (fun _ hs => hs.nil 3 (Enc.int .i64)) ?_
      refine JU.take (i := 5) (v := .agg #[s1.v, z132.v, z133.v]) hsel rfl (by kernel_rfl) (QV.build (vals := [(0, s1.v), (1, z132.v), (2, z133.v)]) rfl (by kernel_rfl)) rfl rfl rfl [5, 6] rfl rfl ?_
      refine JU.any [6] (by kernel_rfl) rfl ?_
      refine ⟨?_, trivial⟩
      refine JUo.mv (d := some 18) rfl (MV.box [Seg.c (s1.v), Seg.c (z132.v), Seg.c (z133.v)] rfl (fun w hs => rfl)) rfl rfl rfl ?_
      rintro _ _ ⟨b134, rfl, rfl⟩
      refine ⟨fun _ => ⟨[6, 7], rfl, rfl⟩, ?_⟩
      refine JU.take (i := 7) (v := .pointer (some ⟨b134, 0, none⟩)) hsel rfl (by kernel_rfl) (QV.assign rfl) rfl rfl rfl [6, 7] rfl rfl ?_
      refine JU.nil (by kernel_rfl) ?_
      exact QJ.cut_normal ((), (b134, z132, z133)) hm [7, 5, 4, 0] (by exact ⟨rfl, rfl, rfl, trivial⟩) rfl rfl
    ·
      refine JUo.mv (d := some 16) rfl (MV.make (E := (Enc.int .i64)) (0 : Int) Try.underlying76 zi_3 (by decide) rfl rfl rfl h8) rfl rfl rfl ?_
      rintro _ _ ⟨z135, rfl, rfl⟩
      refine ⟨fun _ => ⟨[1, 2], rfl, rfl⟩, ?_⟩
      refine JU.any [1] (by kernel_rfl) rfl ?_
      refine ⟨?_, trivial⟩
      refine JUo.mv (d := some 13) rfl (MV.make (E := (Enc.int .i64)) (0 : Int) Try.underlying76 zi_3 (by decide) rfl rfl rfl h6) rfl rfl rfl ?_
      rintro _ _ ⟨z136, rfl, rfl⟩
      refine ⟨fun _ => ⟨[2, 3], rfl, rfl⟩, ?_⟩
      refine JU.ent (fun _ hs => hs.nil 5 (Enc.int .u8)) ?_
      refine JU.ent (fun _ hs => hs.nil 3 (Enc.int .i64)) ?_
      refine JU.ent (fun _ hs => hs.nil 3 (Enc.int .i64)) ?_
      refine JU.take (i := 5) (v := .agg #[s1.v, z136.v, z135.v]) hsel rfl (by kernel_rfl) (QV.build (vals := [(0, s1.v), (1, z136.v), (2, z135.v)]) rfl (by kernel_rfl)) rfl rfl rfl [5, 6] rfl rfl ?_
      refine JU.any [6] (by kernel_rfl) rfl ?_
      refine ⟨?_, trivial⟩
      refine JUo.mv (d := some 18) rfl (MV.box [Seg.c (s1.v), Seg.c (z136.v), Seg.c (z135.v)] rfl (fun w hs => rfl)) rfl rfl rfl ?_
      rintro _ _ ⟨b137, rfl, rfl⟩
      refine ⟨fun _ => ⟨[6, 7], rfl, rfl⟩, ?_⟩
      refine JU.take (i := 7) (v := .pointer (some ⟨b137, 0, none⟩)) hsel rfl (by kernel_rfl) (QV.assign rfl) rfl rfl rfl [6, 7] rfl rfl ?_
      refine JU.nil (by kernel_rfl) ?_
      exact QJ.cut_normal ((), (b137, z136, z135)) hm [7, 4, 5, 0] (by exact ⟨rfl, rfl, rfl, trivial⟩) rfl rfl

end Go.Proofs.Ytpophpendlnehaa
