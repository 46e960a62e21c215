/- Written by gen.py: functions and their contracts. -/
import Derived.Test.YtgganckggdjpaaaLim
namespace Go.Proofs.Ytgganckggdjpaaa
open Go Go.Eng Go.Proofs
set_option linter.unusedVariables false
set_option linter.unusedSimpArgs false
/-! ### 52: drogher/drogherref10.none -/
noncomputable def F52.m  : Option Unit :=
  some ()
set_option maxRecDepth 100000 in
set_option maxHeartbeats 4000000 in
theorem F52.spec  (r : Unit) (hm : F52.m  = some r) :
    Ctr Try.prog false 52 [] [] (fun v L' => v = .int .u64 (18446744073709551615 : Int) ∧ L' = []) := by
  refine Ctr.intro (n := 1) (env := []) Try.func52 rfl rfl rfl rfl (fun c => ?_)
  unfold F52.m at hm
  refine JC.seq ?_
  refine JC.region ?_
  refine JL.val (v := .int .u64 (0 : Int)) (QV.assign rfl) rfl rfl rfl ?_
  refine JL.nil ?_
  refine QJ.then_normal ?_
  refine JC.seq ?_
  refine JC.region ?_
  refine JL.val (v := .int .u64 (18446744073709551615 : Int)) (QV.assign rfl) rfl rfl rfl ?_
  refine JL.nil ?_
  refine QJ.then_normal ?_
  refine JC.ret ?_
  obtain rfl := Option.some.inj hm
  exact QJ.body (vs := [.int .u64 (18446744073709551615 : Int)]) (.inl rfl) rfl (ResVs.cons (ResV.tmp rfl) ResVs.nil) [] rfl rfl (.inr trivial) ⟨rfl, rfl⟩

/-! ### 53: drogher/drogherref10.above -/
noncomputable def F53.j1  (d12 : List (List Int)) : Option (List (List Int)) :=
  some d12
noncomputable def F53.j2 (d16 : Int) (d25 : List (List Int)) : Option ((List (List Int) × Int) ⊕ (List (List Int))) :=
  some (.inl (d25, (IntKind.wrap .i64 (d16 + (1 : Int)))))
noncomputable def F53.j3 (d16 : Int) (d31 : List (List Int)) : Option ((List (List Int) × Int) ⊕ (List (List Int))) :=
  F53.j2 d16 (d31)
noncomputable def F53.j4 (d33 : Int) (d41 : List (List Int)) : Option ((List (List Int) × Int) ⊕ (List (List Int))) :=
  some (.inl (d41, (IntKind.wrap .i64 (d33 + (1 : Int)))))
noncomputable def F53.j5 (d16 : Int) (d32 : List (List Int)) (d33 : Int) (d44 : Int) : Option ((List (List Int) × Int) ⊕ (List (List Int))) :=
  (if 0 ≤ d16 ∧ d16 < ((d32).length : Int) then (if 0 ≤ d33 ∧ d33 < (((gd d32 d16)).length : Int) then F53.j4 d33 ((List.set d32 (Int.toNat d16) (List.set (gd d32 d16) (Int.toNat d33) d44))) else none) else none)
noncomputable def F53.j6 (d48 : Int) (d57 : Int) : Option ((Int × Int) ⊕ Int) :=
  some (.inl (d57, (IntKind.wrap .i64 (d48 + (1 : Int)))))
noncomputable def F53.b3 (x2 : List (List Int)) (x5 : List Int) (x6 : Int) (d16 : Int) (d33 : Int) : (Int × Int) → Option ((Int × Int) ⊕ Int)
  | (d47, d48) => (if d48 ≤ d33 then (if (IntKind.wrap .i64 (d16 + d48)) ≤ x6 then (if x6 < (IntKind.wrap .i64 ((2 : Int) * (IntKind.wrap .i64 (d33 - d48)))) then F53.j6 d48 (d47) else (if 0 ≤ (IntKind.wrap .i64 (d16 + d48)) ∧ (IntKind.wrap .i64 (d16 + d48)) < ((x2).length : Int) then (if 0 ≤ (IntKind.wrap .i64 ((2 : Int) * (IntKind.wrap .i64 (d33 - d48)))) ∧ (IntKind.wrap .i64 ((2 : Int) * (IntKind.wrap .i64 (d33 - d48)))) < (((gd x2 (IntKind.wrap .i64 (d16 + d48)))).length : Int) then ((F52.m).bind fun y61 => (if (gd (gd x2 (IntKind.wrap .i64 (d16 + d48))) (IntKind.wrap .i64 ((2 : Int) * (IntKind.wrap .i64 (d33 - d48))))) = (18446744073709551615 : Int) then F53.j6 d48 (d47) else (if 0 ≤ (IntKind.wrap .i64 (d16 + d48)) ∧ (IntKind.wrap .i64 (d16 + d48)) < ((x5).length : Int) then F53.j6 d48 ((minI d47 (IntKind.wrap .u64 ((gd (gd x2 (IntKind.wrap .i64 (d16 + d48))) (IntKind.wrap .i64 ((2 : Int) * (IntKind.wrap .i64 (d33 - d48))))) + (gd x5 (IntKind.wrap .i64 (d16 + d48))))))) else none))) else none) else none)) else some (.inr d47)) else some (.inr d47))
noncomputable def F53.b2 (x2 : List (List Int)) (x5 : List Int) (x6 : Int) (d14 : List (List Int)) (d16 : Int) : (List (List Int) × Int) → Option ((List (List Int) × Int) ⊕ (List (List Int)))
  | (d32, d33) => (if d33 < (((gd (List.set d14 (Int.toNat d16) (List.replicate (Int.toNat (IntKind.wrap .i64 (x6 + (1 : Int)))) (0 : Int))) d16)).length : Int) then ((F52.m).bind fun y42 => ((loop (F53.b3 x2 x5 x6 d16 d33) ((18446744073709551615 : Int), (0 : Int))).bind fun y => match y with | d44 => F53.j5 d16 d32 d33 (d44))) else some (.inr d32))
noncomputable def F53.b1 (x2 : List (List Int)) (x5 : List Int) (x6 : Int) : (List (List Int) × Int) → Option ((List (List Int) × Int) ⊕ (List (List Int)))
  | (d14, d16) => (if d16 < (((List.replicate (Int.toNat (IntKind.wrap .i64 (x6 + (1 : Int)))) ([] : (List Int)))).length : Int) then (if 0 ≤ (IntKind.wrap .i64 (x6 + (1 : Int))) ∧ (IntKind.wrap .i64 (x6 + (1 : Int))) * 8 ≤ 281474976710656 ∧ (IntKind.wrap .i64 (x6 + (1 : Int))) ≤ 9223372036854775807 then (if 0 ≤ d16 ∧ d16 < ((d14).length : Int) then (if 0 ≤ d16 ∧ d16 < (((List.set d14 (Int.toNat d16) (List.replicate (Int.toNat (IntKind.wrap .i64 (x6 + (1 : Int)))) (0 : Int)))).length : Int) then ((loop (F53.b2 x2 x5 x6 d14 d16) ((List.set d14 (Int.toNat d16) (List.replicate (Int.toNat (IntKind.wrap .i64 (x6 + (1 : Int)))) (0 : Int))), (0 : Int))).bind fun y => match y with | d31 => F53.j3 d16 (d31)) else none) else none) else none) else some (.inr d14))
noncomputable def F53.m (x2 : List (List Int)) (x5 : List Int) (x6 : Int) : Option (List (List Int)) :=
  (if 0 ≤ (IntKind.wrap .i64 (x6 + (1 : Int))) ∧ (IntKind.wrap .i64 (x6 + (1 : Int))) * 24 ≤ 281474976710656 ∧ (IntKind.wrap .i64 (x6 + (1 : Int))) ≤ 9223372036854775807 then ((loop (F53.b1 x2 x5 x6) ((List.replicate (Int.toNat (IntKind.wrap .i64 (x6 + (1 : Int)))) ([] : (List Int))), (0 : Int))).bind fun y => match y with | d12 => F53.j1 (d12)) else none)
set_option maxRecDepth 100000 in
set_option maxHeartbeats 4000000 in
theorem F53.spec (s1 : SlV) (z3 : List SlV) (s4 : SlV) (x2 : List (List Int)) (x5 : List Int) (x6 : Int) (r : (List (List Int))) (hm : F53.m x2 x5 x6 = some r) :
    Ctr Try.prog false 53 [s1.v, s4.v, .int .i64 x6] [Asr.vn (NE.sl (Enc.int .u64)) (s1.v) z3 x2, Asr.vw (Enc.int .u64) (s4.v) x5] (fun v L' => ∃ (g7 : SlV), ∃ (g9 : List SlV), v = g7.v ∧ L' = [Asr.onn 95 41 (Enc.int .u64) (g7.v) g9 r]) := by
  refine Ctr.intro (n := 96) (env := [(0, s1.v), (1, s4.v), (2, .int .i64 x6)]) Try.func53 rfl rfl rfl rfl (fun c => ?_)
  unfold F53.m at hm
  refine JC.seq ?_
  refine JC.region ?_
  refine JL.ent (fun _ hs => hs.nilV 95 (NE.sl (Enc.int .u64))) ?_
  refine JL.val (v := SlV.nil.v) (QV.assign rfl) rfl rfl rfl ?_
  refine JL.nil ?_
  refine QJ.then_normal ?_
  refine JC.seq ?_
  refine JC.region ?_
  refine JL.val (v := .int .i64 x6) (QV.move rfl) rfl rfl rfl ?_
  refine JL.val (v := .int .i64 (IntKind.wrap .i64 (x6 + (1 : Int)))) (QV.add rfl rfl) rfl rfl rfl ?_
  obtain ⟨h10, hm⟩ := guard_inv hm
  refine JL.mv (d := some 15) (MV.makeNn 41 (Enc.int .u64) Try.underlying97 zi_95 rfl rfl rfl h10) rfl rfl rfl ?_
  rintro _ _ ⟨z11, rfl, rfl⟩
  refine JL.val (v := z11.v) (QV.assign rfl) rfl rfl rfl ?_
  refine JL.nil ?_
  refine QJ.then_normal ?_
  refine JC.seq ?_
  refine JC.seq ?_
  refine JC.region ?_
  refine JL.val (v := z11.v) (QV.move rfl) rfl rfl rfl ?_
  refine JL.val (v := .int .i64 (((List.replicate (Int.toNat (IntKind.wrap .i64 (x6 + (1 : Int)))) ([] : (List Int)))).length : Int)) (QV.lenN (RdN.onn 0 rfl) Try.underlying97 rfl) rfl rfl rfl ?_
  refine JL.val (v := .int .i64 (0 : Int)) (QV.move rfl) rfl rfl rfl ?_
  refine JL.nil ?_
  refine QJ.then_normal ?_
  refine JC.cutK (Y := (List (List Int)) × (List SlV)) (fun y => match y with | (d12, _) => F53.j1 (d12) = some r) (fun y => match y with | (d12, z13) => [(7, z11.v)]) (fun y => match y with | (d12, z13) => [Asr.onn 95 41 (Enc.int .u64) (z11.v) z13 d12]) ?_ ?_
  ·
    rintro ⟨d12, z13⟩ hm
    unfold F53.j1 at hm
    show QJ _ _ [(7, z11.v)] [Asr.onn 95 41 (Enc.int .u64) (z11.v) z13 d12] _ _
    refine QJ.then_normal ?_
    refine JC.seq ?_
    refine JC.region ?_
    refine JL.val (v := z11.v) (QV.move rfl) rfl rfl rfl ?_
    refine JL.val (v := z11.v) (QV.assign rfl) rfl rfl rfl ?_
    refine JL.nil ?_
    refine QJ.then_normal ?_
    refine JC.ret ?_
    obtain rfl := Option.some.inj hm
    exact QJ.body (vs := [z11.v]) (.inl rfl) rfl (ResVs.cons (ResV.tmp rfl) ResVs.nil) [0] rfl rfl (.inr ⟨own_onn _ _ _ _ _ _, trivial⟩) ⟨z11, z13, rfl, rfl⟩
  ·
    refine JC.block ?_
    obtain ⟨y20, hl21, hmo22⟩ := bind_inv hm
    refine JC.loop (F53.b1 x2 x5 x6) (fun x z => match x, z with | (d14, d16), z15 => [(0, s1.v), (1, s4.v), (2, .int .i64 x6), (7, z11.v), (17, .int .i64 (((List.replicate (Int.toNat (IntKind.wrap .i64 (x6 + (1 : Int)))) ([] : (List Int)))).length : Int)), (18, .int .i64 d16)]) (fun x z => match x, z with | (d14, d16), z15 => [Asr.vn (NE.sl (Enc.int .u64)) (s1.v) z3 x2, Asr.vw (Enc.int .u64) (s4.v) x5, Asr.onn 95 41 (Enc.int .u64) (z11.v) z15 d14]) ((List.replicate (Int.toNat (IntKind.wrap .i64 (x6 + (1 : Int)))) ([] : (List Int))), (0 : Int)) (List.replicate (Int.toNat (IntKind.wrap .i64 (x6 + (1 : Int)))) SlV.nil) y20 hl21 [2, 3, 0] (by exact ⟨rfl, rfl, rfl, rfl, rfl, rfl, trivial⟩) rfl rfl ?_
    rintro ⟨d14, d16⟩ z15 s23 hm
    unfold F53.b1 at hm
    dsimp only at hm
    show JC _ _ _ [(0, s1.v), (1, s4.v), (2, .int .i64 x6), (7, z11.v), (17, .int .i64 (((List.replicate (Int.toNat (IntKind.wrap .i64 (x6 + (1 : Int)))) ([] : (List Int)))).length : Int)), (18, .int .i64 d16)] [Asr.vn (NE.sl (Enc.int .u64)) (s1.v) z3 x2, Asr.vw (Enc.int .u64) (s4.v) x5, Asr.onn 95 41 (Enc.int .u64) (z11.v) z15 d14] _ _
    refine JC.seq ?_
    refine JC.region ?_
    refine JL.val (v := .bool (decide (d16 < (((List.replicate (Int.toNat (IntKind.wrap .i64 (x6 + (1 : Int)))) ([] : (List Int)))).length : Int)))) (QV.lss rfl rfl) rfl rfl rfl ?_
    refine JL.nil ?_
    refine QJ.then_normal ?_
    refine JC.seq ?_
    rcases ite_inv hm with ⟨h24, hm⟩ | ⟨h24, hm⟩
    ·
      refine JC.condT' rfl (decide_eq_true h24) ?_
      refine JC.skip ?_
      refine QJ.then_normal ?_
      refine JC.seq ?_
      refine JC.cutK (Y := (List (List Int)) × (List SlV)) (fun y => match y with | (d25, _) => F53.j2 d16 (d25) = some s23) (fun y => match y with | (d25, z26) => [(0, s1.v), (1, s4.v), (2, .int .i64 x6), (7, z11.v), (17, .int .i64 (((List.replicate (Int.toNat (IntKind.wrap .i64 (x6 + (1 : Int)))) ([] : (List Int)))).length : Int)), (18, .int .i64 d16)]) (fun y => match y with | (d25, z26) => [Asr.vn (NE.sl (Enc.int .u64)) (s1.v) z3 x2, Asr.vw (Enc.int .u64) (s4.v) x5, Asr.onn 95 41 (Enc.int .u64) (z11.v) z26 d25]) ?_ ?_
      ·
        rintro ⟨d25, z26⟩ hm
        unfold F53.j2 at hm
        show QJ _ _ [(0, s1.v), (1, s4.v), (2, .int .i64 x6), (7, z11.v), (17, .int .i64 (((List.replicate (Int.toNat (IntKind.wrap .i64 (x6 + (1 : Int)))) ([] : (List Int)))).length : Int)), (18, .int .i64 d16)] [Asr.vn (NE.sl (Enc.int .u64)) (s1.v) z3 x2, Asr.vw (Enc.int .u64) (s4.v) x5, Asr.onn 95 41 (Enc.int .u64) (z11.v) z26 d25] _ _
        refine QJ.then_normal ?_
        refine JC.region ?_
        refine JL.val (v := .int .i64 (IntKind.wrap .i64 (d16 + (1 : Int)))) (QV.add rfl rfl) rfl rfl rfl ?_
        refine JL.val (v := .int .i64 (IntKind.wrap .i64 (d16 + (1 : Int)))) (QV.move rfl) rfl rfl rfl ?_
        refine JL.nil ?_
        obtain rfl := Option.some.inj hm
        exact QJ.round_on (d25, (IntKind.wrap .i64 (d16 + (1 : Int)))) z26 [0, 1, 2] (by exact ⟨rfl, rfl, rfl, rfl, rfl, rfl, trivial⟩) rfl rfl
      ·
        refine JC.block ?_
        refine JC.seq ?_
        refine JC.region ?_
        refine JL.val (v := .int .i64 d16) (QV.move rfl) rfl rfl rfl ?_
        refine JL.val (v := .int .i64 d16) (QV.assign rfl) rfl rfl rfl ?_
        refine JL.nil ?_
        refine QJ.then_normal ?_
        refine JC.seq ?_
        refine JC.region ?_
        refine JL.val (v := z11.v) (QV.move rfl) rfl rfl rfl ?_
        refine JL.val (v := .int .i64 d16) (QV.move rfl) rfl rfl rfl ?_
        refine JL.val (v := .int .i64 x6) (QV.move rfl) rfl rfl rfl ?_
        refine JL.val (v := .int .i64 (IntKind.wrap .i64 (x6 + (1 : Int)))) (QV.add rfl rfl) rfl rfl rfl ?_
        obtain ⟨h27, hm⟩ := guard_inv hm
        refine JL.mv (d := some 25) (MV.make (E := (Enc.int .u64)) (0 : Int) Try.underlying95 zi_41 (by decide) rfl rfl rfl h27) rfl rfl rfl ?_
        rintro _ _ ⟨z28, rfl, rfl⟩
        obtain ⟨h29, hm⟩ := guard_inv hm
        refine JL.val (v := .pointer (some (elA (z11.v) (Int.toNat d16 * ((NE.sl (Enc.int .u64)).E).sz)))) (QV.indexN (RdN.onn 3 rfl) Try.underlying97 tk_95 rfl rfl h29) rfl rfl rfl ?_
        refine JL.ent (fun _ hs => hs.letgo 3 (Int.toNat d16) rfl) ?_
        refine JL.mv (d := none) (MV.storeH 0 2 rfl rfl tk_95 rfl rfl h29) rfl rfl rfl ?_
        rintro _ _ ⟨rfl, rfl⟩
        refine JL.nil ?_
        refine QJ.then_normal ?_
        refine JC.seq ?_
        refine JC.region ?_
        refine JL.val (v := z11.v) (QV.move rfl) rfl rfl rfl ?_
        refine JL.val (v := .int .i64 d16) (QV.move rfl) rfl rfl rfl ?_
        obtain ⟨h30, hm⟩ := guard_inv hm
        refine JL.val (v := .pointer (some (elA (z11.v) (Int.toNat d16 * ((NE.sl (Enc.int .u64)).E).sz)))) (QV.indexN (RdN.onn 2 rfl) Try.underlying97 tk_95 rfl rfl h30) rfl rfl rfl ?_
        refine JL.val (v := (gd (List.set z15 (Int.toNat d16) z28) d16).v) (QV.el1N (RdN.onn 2 rfl) tk_95 rfl h30 rfl) rfl rfl rfl ?_
        refine JL.val (v := .int .i64 (((gd (List.set d14 (Int.toNat d16) (List.replicate (Int.toNat (IntKind.wrap .i64 (x6 + (1 : Int)))) (0 : Int))) d16)).length : Int)) (QV.len (Rdg.ofDrv (Drv.el (K := (NE.sl (Enc.int .u64))) (A := Asr.vw (Enc.int .u64) ((gd (List.set z15 (Int.toNat d16) z28) d16).v) (gd (List.set d14 (Int.toNat d16) (List.replicate (Int.toNat (IntKind.wrap .i64 (x6 + (1 : Int)))) (0 : Int))) d16)) (Drv.onn 2 rfl) h30 (fun _ _ q => q))) Try.underlying95 rfl) rfl rfl rfl ?_
        refine JL.val (v := .int .i64 (0 : Int)) (QV.move rfl) rfl rfl rfl ?_
        refine JL.nil ?_
        refine QJ.then_normal ?_
        refine JC.cutK (Y := (List (List Int)) × Unit) (fun y => match y with | (d31, _) => F53.j3 d16 (d31) = some s23) (fun y => match y with | (d31, _) => [(0, s1.v), (1, s4.v), (2, .int .i64 x6), (7, z11.v), (17, .int .i64 (((List.replicate (Int.toNat (IntKind.wrap .i64 (x6 + (1 : Int)))) ([] : (List Int)))).length : Int)), (18, .int .i64 d16)]) (fun y => match y with | (d31, _) => [Asr.vn (NE.sl (Enc.int .u64)) (s1.v) z3 x2, Asr.vw (Enc.int .u64) (s4.v) x5, Asr.onn 95 41 (Enc.int .u64) (z11.v) (List.set z15 (Int.toNat d16) z28) d31]) ?_ ?_
        ·
          rintro ⟨d31, ⟨⟩⟩ hm
          unfold F53.j3 at hm
          show QJ _ _ [(0, s1.v), (1, s4.v), (2, .int .i64 x6), (7, z11.v), (17, .int .i64 (((List.replicate (Int.toNat (IntKind.wrap .i64 (x6 + (1 : Int)))) ([] : (List Int)))).length : Int)), (18, .int .i64 d16)] [Asr.vn (NE.sl (Enc.int .u64)) (s1.v) z3 x2, Asr.vw (Enc.int .u64) (s4.v) x5, Asr.onn 95 41 (Enc.int .u64) (z11.v) (List.set z15 (Int.toNat d16) z28) d31] _ _
          refine QJ.block_normal ?_
          exact QJ.cut_normal (d31, (List.set z15 (Int.toNat d16) z28)) hm [0, 1, 2] (by exact ⟨rfl, rfl, rfl, rfl, rfl, rfl, trivial⟩) rfl rfl
        ·
          refine JC.block ?_
          obtain ⟨y36, hl37, hmo38⟩ := bind_inv hm
          refine JC.loop (F53.b2 x2 x5 x6 d14 d16) (fun x z => match x, z with | (d32, d33), _ => [(0, s1.v), (1, s4.v), (2, .int .i64 x6), (7, z11.v), (8, .int .i64 d16), (17, .int .i64 (((List.replicate (Int.toNat (IntKind.wrap .i64 (x6 + (1 : Int)))) ([] : (List Int)))).length : Int)), (18, .int .i64 d16), (31, .int .i64 (((gd (List.set d14 (Int.toNat d16) (List.replicate (Int.toNat (IntKind.wrap .i64 (x6 + (1 : Int)))) (0 : Int))) d16)).length : Int)), (32, .int .i64 d33)]) (fun x z => match x, z with | (d32, d33), _ => [Asr.vn (NE.sl (Enc.int .u64)) (s1.v) z3 x2, Asr.vw (Enc.int .u64) (s4.v) x5, Asr.onn 95 41 (Enc.int .u64) (z11.v) (List.set z15 (Int.toNat d16) z28) d32]) ((List.set d14 (Int.toNat d16) (List.replicate (Int.toNat (IntKind.wrap .i64 (x6 + (1 : Int)))) (0 : Int))), (0 : Int)) () y36 hl37 [0, 1, 2] (by exact ⟨rfl, rfl, rfl, rfl, rfl, rfl, rfl, rfl, rfl, trivial⟩) rfl rfl ?_
          rintro ⟨d32, d33⟩ ⟨⟩ s39 hm
          unfold F53.b2 at hm
          dsimp only at hm
          show JC _ _ _ [(0, s1.v), (1, s4.v), (2, .int .i64 x6), (7, z11.v), (8, .int .i64 d16), (17, .int .i64 (((List.replicate (Int.toNat (IntKind.wrap .i64 (x6 + (1 : Int)))) ([] : (List Int)))).length : Int)), (18, .int .i64 d16), (31, .int .i64 (((gd (List.set d14 (Int.toNat d16) (List.replicate (Int.toNat (IntKind.wrap .i64 (x6 + (1 : Int)))) (0 : Int))) d16)).length : Int)), (32, .int .i64 d33)] [Asr.vn (NE.sl (Enc.int .u64)) (s1.v) z3 x2, Asr.vw (Enc.int .u64) (s4.v) x5, Asr.onn 95 41 (Enc.int .u64) (z11.v) (List.set z15 (Int.toNat d16) z28) d32] _ _
          refine JC.seq ?_
          refine JC.region ?_
          refine JL.val (v := .bool (decide (d33 < (((gd (List.set d14 (Int.toNat d16) (List.replicate (Int.toNat (IntKind.wrap .i64 (x6 + (1 : Int)))) (0 : Int))) d16)).length : Int)))) (QV.lss rfl rfl) rfl rfl rfl ?_
          refine JL.nil ?_
          refine QJ.then_normal ?_
          refine JC.seq ?_
          rcases ite_inv hm with ⟨h40, hm⟩ | ⟨h40, hm⟩
          ·
            refine JC.condT' rfl (decide_eq_true h40) ?_
            refine JC.skip ?_
            refine QJ.then_normal ?_
            refine JC.seq ?_
            refine JC.cutK (Y := (List (List Int)) × Unit) (fun y => match y with | (d41, _) => F53.j4 d33 (d41) = some s39) (fun y => match y with | (d41, _) => [(0, s1.v), (1, s4.v), (2, .int .i64 x6), (7, z11.v), (8, .int .i64 d16), (17, .int .i64 (((List.replicate (Int.toNat (IntKind.wrap .i64 (x6 + (1 : Int)))) ([] : (List Int)))).length : Int)), (18, .int .i64 d16), (31, .int .i64 (((gd (List.set d14 (Int.toNat d16) (List.replicate (Int.toNat (IntKind.wrap .i64 (x6 + (1 : Int)))) (0 : Int))) d16)).length : Int)), (32, .int .i64 d33)]) (fun y => match y with | (d41, _) => [Asr.vn (NE.sl (Enc.int .u64)) (s1.v) z3 x2, Asr.vw (Enc.int .u64) (s4.v) x5, Asr.onn 95 41 (Enc.int .u64) (z11.v) (List.set z15 (Int.toNat d16) z28) d41]) ?_ ?_
            ·
              rintro ⟨d41, ⟨⟩⟩ hm
              unfold F53.j4 at hm
              show QJ _ _ [(0, s1.v), (1, s4.v), (2, .int .i64 x6), (7, z11.v), (8, .int .i64 d16), (17, .int .i64 (((List.replicate (Int.toNat (IntKind.wrap .i64 (x6 + (1 : Int)))) ([] : (List Int)))).length : Int)), (18, .int .i64 d16), (31, .int .i64 (((gd (List.set d14 (Int.toNat d16) (List.replicate (Int.toNat (IntKind.wrap .i64 (x6 + (1 : Int)))) (0 : Int))) d16)).length : Int)), (32, .int .i64 d33)] [Asr.vn (NE.sl (Enc.int .u64)) (s1.v) z3 x2, Asr.vw (Enc.int .u64) (s4.v) x5, Asr.onn 95 41 (Enc.int .u64) (z11.v) (List.set z15 (Int.toNat d16) z28) d41] _ _
              refine QJ.then_normal ?_
              refine JC.region ?_
              refine JL.val (v := .int .i64 (IntKind.wrap .i64 (d33 + (1 : Int)))) (QV.add rfl rfl) rfl rfl rfl ?_
              refine JL.val (v := .int .i64 (IntKind.wrap .i64 (d33 + (1 : Int)))) (QV.move rfl) rfl rfl rfl ?_
              refine JL.nil ?_
              obtain rfl := Option.some.inj hm
              exact QJ.round_on (d41, (IntKind.wrap .i64 (d33 + (1 : Int)))) () [0, 1, 2] (by exact ⟨rfl, rfl, rfl, rfl, rfl, rfl, rfl, rfl, rfl, trivial⟩) rfl rfl
            ·
              refine JC.block ?_
              refine JC.seq ?_
              refine JC.region ?_
              refine JL.val (v := .int .i64 d33) (QV.move rfl) rfl rfl rfl ?_
              refine JL.val (v := .int .i64 d33) (QV.assign rfl) rfl rfl rfl ?_
              refine JL.nil ?_
              refine QJ.then_normal ?_
              refine JC.seq ?_
              refine JC.region ?_
              obtain ⟨y42, hc43, hm⟩ := bind_inv hm
              refine JL.mv (d := some 35) (MV.call (Lo := []) (Lr := [Asr.vn (NE.sl (Enc.int .u64)) (s1.v) z3 x2, Asr.vw (Enc.int .u64) (s4.v) x5, Asr.onn 95 41 (Enc.int .u64) (z11.v) (List.set z15 (Int.toNat d16) z28) d32]) (F52.spec _ hc43) rfl Try.func52 rfl rfl rfl [] [0, 1, 2] rfl rfl rfl trivial) rfl rfl rfl ?_
              rintro _ _ ⟨_, ⟨rfl, rfl⟩, rfl⟩
              refine JL.val (v := .int .u64 (18446744073709551615 : Int)) (QV.assign rfl) rfl rfl rfl ?_
              refine JL.nil ?_
              refine QJ.then_normal ?_
              refine JC.seq ?_
              refine JC.seq ?_
              refine JC.region ?_
              refine JL.val (v := .int .i64 (0 : Int)) (QV.assign rfl) rfl rfl rfl ?_
              refine JL.nil ?_
              refine QJ.then_normal ?_
              refine JC.cutK (Y := Int × Unit) (fun y => match y with | (d44, _) => F53.j5 d16 d32 d33 (d44) = some s39) (fun y => match y with | (d44, _) => [(0, s1.v), (1, s4.v), (2, .int .i64 x6), (7, z11.v), (8, .int .i64 d16), (9, .int .i64 d33), (10, .int .u64 d44), (17, .int .i64 (((List.replicate (Int.toNat (IntKind.wrap .i64 (x6 + (1 : Int)))) ([] : (List Int)))).length : Int)), (18, .int .i64 d16), (31, .int .i64 (((gd (List.set d14 (Int.toNat d16) (List.replicate (Int.toNat (IntKind.wrap .i64 (x6 + (1 : Int)))) (0 : Int))) d16)).length : Int)), (32, .int .i64 d33)]) (fun y => match y with | (d44, _) => [Asr.vn (NE.sl (Enc.int .u64)) (s1.v) z3 x2, Asr.vw (Enc.int .u64) (s4.v) x5, Asr.onn 95 41 (Enc.int .u64) (z11.v) (List.set z15 (Int.toNat d16) z28) d32]) ?_ ?_
              ·
                rintro ⟨d44, ⟨⟩⟩ hm
                unfold F53.j5 at hm
                show QJ _ _ [(0, s1.v), (1, s4.v), (2, .int .i64 x6), (7, z11.v), (8, .int .i64 d16), (9, .int .i64 d33), (10, .int .u64 d44), (17, .int .i64 (((List.replicate (Int.toNat (IntKind.wrap .i64 (x6 + (1 : Int)))) ([] : (List Int)))).length : Int)), (18, .int .i64 d16), (31, .int .i64 (((gd (List.set d14 (Int.toNat d16) (List.replicate (Int.toNat (IntKind.wrap .i64 (x6 + (1 : Int)))) (0 : Int))) d16)).length : Int)), (32, .int .i64 d33)] [Asr.vn (NE.sl (Enc.int .u64)) (s1.v) z3 x2, Asr.vw (Enc.int .u64) (s4.v) x5, Asr.onn 95 41 (Enc.int .u64) (z11.v) (List.set z15 (Int.toNat d16) z28) d32] _ _
                refine QJ.then_normal ?_
                refine JC.region ?_
                refine JL.val (v := z11.v) (QV.move rfl) rfl rfl rfl ?_
                refine JL.val (v := .int .i64 d16) (QV.move rfl) rfl rfl rfl ?_
                obtain ⟨h45, hm⟩ := guard_inv hm
                refine JL.val (v := .pointer (some (elA (z11.v) (Int.toNat d16 * ((NE.sl (Enc.int .u64)).E).sz)))) (QV.indexN (RdN.onn 2 rfl) Try.underlying97 tk_95 rfl rfl h45) rfl rfl rfl ?_
                refine JL.val (v := (gd (List.set z15 (Int.toNat d16) z28) d16).v) (QV.el1N (RdN.onn 2 rfl) tk_95 rfl h45 rfl) rfl rfl rfl ?_
                refine JL.val (v := .int .i64 d33) (QV.move rfl) rfl rfl rfl ?_
                refine JL.val (v := .int .u64 d44) (QV.move rfl) rfl rfl rfl ?_
                obtain ⟨h46, hm⟩ := guard_inv hm
                refine JL.val (v := .pointer (some (elA ((gd (List.set z15 (Int.toNat d16) z28) d16).v) (Int.toNat d33 * ((Enc.int .u64)).sz)))) (QV.indexA (Rdg.ofDrv (Drv.el (K := (NE.sl (Enc.int .u64))) (A := Asr.vw (Enc.int .u64) ((gd (List.set z15 (Int.toNat d16) z28) d16).v) (gd d32 d16)) (Drv.onn 2 rfl) h45 (fun _ _ q => q))) Try.underlying95 tk_41 rfl rfl h46) rfl rfl rfl ?_
                refine JL.mv (d := none) (MV.storeNn 2 d44 rfl h45 tk_41 rfl rfl h46 rfl) rfl rfl rfl ?_
                rintro _ _ ⟨rfl, rfl⟩
                refine JL.nil ?_
                refine QJ.block_normal ?_
                exact QJ.cut_normal ((List.set d32 (Int.toNat d16) (List.set (gd d32 d16) (Int.toNat d33) d44)), ()) hm [0, 1, 2] (by exact ⟨rfl, rfl, rfl, rfl, rfl, rfl, rfl, rfl, rfl, trivial⟩) rfl rfl
              ·
                refine JC.block ?_
                obtain ⟨y51, hl52, hmo53⟩ := bind_inv hm
                refine JC.loop (F53.b3 x2 x5 x6 d16 d33) (fun x z => match x, z with | (d47, d48), _ => [(0, s1.v), (1, s4.v), (2, .int .i64 x6), (7, z11.v), (8, .int .i64 d16), (9, .int .i64 d33), (10, .int .u64 d47), (11, .int .i64 d48), (17, .int .i64 (((List.replicate (Int.toNat (IntKind.wrap .i64 (x6 + (1 : Int)))) ([] : (List Int)))).length : Int)), (18, .int .i64 d16), (31, .int .i64 (((gd (List.set d14 (Int.toNat d16) (List.replicate (Int.toNat (IntKind.wrap .i64 (x6 + (1 : Int)))) (0 : Int))) d16)).length : Int)), (32, .int .i64 d33)]) (fun x z => match x, z with | (d47, d48), _ => [Asr.vn (NE.sl (Enc.int .u64)) (s1.v) z3 x2, Asr.vw (Enc.int .u64) (s4.v) x5, Asr.onn 95 41 (Enc.int .u64) (z11.v) (List.set z15 (Int.toNat d16) z28) d32]) ((18446744073709551615 : Int), (0 : Int)) () y51 hl52 [0, 1, 2] (by exact ⟨rfl, rfl, rfl, rfl, rfl, rfl, rfl, rfl, rfl, rfl, rfl, rfl, trivial⟩) rfl rfl ?_
                rintro ⟨d47, d48⟩ ⟨⟩ s54 hm
                unfold F53.b3 at hm
                dsimp only at hm
                show JC _ _ _ [(0, s1.v), (1, s4.v), (2, .int .i64 x6), (7, z11.v), (8, .int .i64 d16), (9, .int .i64 d33), (10, .int .u64 d47), (11, .int .i64 d48), (17, .int .i64 (((List.replicate (Int.toNat (IntKind.wrap .i64 (x6 + (1 : Int)))) ([] : (List Int)))).length : Int)), (18, .int .i64 d16), (31, .int .i64 (((gd (List.set d14 (Int.toNat d16) (List.replicate (Int.toNat (IntKind.wrap .i64 (x6 + (1 : Int)))) (0 : Int))) d16)).length : Int)), (32, .int .i64 d33)] [Asr.vn (NE.sl (Enc.int .u64)) (s1.v) z3 x2, Asr.vw (Enc.int .u64) (s4.v) x5, Asr.onn 95 41 (Enc.int .u64) (z11.v) (List.set z15 (Int.toNat d16) z28) d32] _ _
                refine JC.seq ?_
                refine JC.seq ?_
                refine JC.region ?_
                refine JL.val (v := .int .i64 d48) (QV.move rfl) rfl rfl rfl ?_
                refine JL.val (v := .int .i64 d33) (QV.move rfl) rfl rfl rfl ?_
                refine JL.val (v := .bool (decide (d48 ≤ d33))) (QV.leq rfl rfl) rfl rfl rfl ?_
                rcases ite_inv hm with ⟨h55, hm⟩ | ⟨h55, hm⟩
                ·
                  refine JL.val (v := .bool true) (QV.eq (QV.move rfl) (congrArg Value.bool (decide_eq_true h55))) rfl rfl rfl ?_
                  refine JL.val (v := .int .i64 d16) (QV.move rfl) rfl rfl rfl ?_
                  refine JL.val (v := .int .i64 d48) (QV.move rfl) rfl rfl rfl ?_
                  refine JL.val (v := .int .i64 (IntKind.wrap .i64 (d16 + d48))) (QV.add rfl rfl) rfl rfl rfl ?_
                  refine JL.val (v := .int .i64 x6) (QV.move rfl) rfl rfl rfl ?_
                  refine JL.val (v := .bool (decide ((IntKind.wrap .i64 (d16 + d48)) ≤ x6))) (QV.leq rfl rfl) rfl rfl rfl ?_
                  refine JL.val (v := .bool (decide ((IntKind.wrap .i64 (d16 + d48)) ≤ x6))) (QV.pickT rfl rfl) rfl rfl rfl ?_
                  refine JL.nil ?_
                  refine QJ.then_normal ?_
                  rcases ite_inv hm with ⟨h56, hm⟩ | ⟨h56, hm⟩
                  ·
                    refine JC.condT' rfl (decide_eq_true h56) ?_
                    refine JC.skip ?_
                    refine QJ.then_normal ?_
                    refine JC.seq ?_
                    refine JC.cutK (Y := Int × Unit) (fun y => match y with | (d57, _) => F53.j6 d48 (d57) = some s54) (fun y => match y with | (d57, _) => [(0, s1.v), (1, s4.v), (2, .int .i64 x6), (7, z11.v), (8, .int .i64 d16), (9, .int .i64 d33), (10, .int .u64 d57), (11, .int .i64 d48), (17, .int .i64 (((List.replicate (Int.toNat (IntKind.wrap .i64 (x6 + (1 : Int)))) ([] : (List Int)))).length : Int)), (18, .int .i64 d16), (31, .int .i64 (((gd (List.set d14 (Int.toNat d16) (List.replicate (Int.toNat (IntKind.wrap .i64 (x6 + (1 : Int)))) (0 : Int))) d16)).length : Int)), (32, .int .i64 d33)]) (fun y => match y with | (d57, _) => [Asr.vn (NE.sl (Enc.int .u64)) (s1.v) z3 x2, Asr.vw (Enc.int .u64) (s4.v) x5, Asr.onn 95 41 (Enc.int .u64) (z11.v) (List.set z15 (Int.toNat d16) z28) d32]) ?_ ?_
                    ·
                      rintro ⟨d57, ⟨⟩⟩ hm
                      unfold F53.j6 at hm
                      show QJ _ _ [(0, s1.v), (1, s4.v), (2, .int .i64 x6), (7, z11.v), (8, .int .i64 d16), (9, .int .i64 d33), (10, .int .u64 d57), (11, .int .i64 d48), (17, .int .i64 (((List.replicate (Int.toNat (IntKind.wrap .i64 (x6 + (1 : Int)))) ([] : (List Int)))).length : Int)), (18, .int .i64 d16), (31, .int .i64 (((gd (List.set d14 (Int.toNat d16) (List.replicate (Int.toNat (IntKind.wrap .i64 (x6 + (1 : Int)))) (0 : Int))) d16)).length : Int)), (32, .int .i64 d33)] [Asr.vn (NE.sl (Enc.int .u64)) (s1.v) z3 x2, Asr.vw (Enc.int .u64) (s4.v) x5, Asr.onn 95 41 (Enc.int .u64) (z11.v) (List.set z15 (Int.toNat d16) z28) d32] _ _
                      refine QJ.then_normal ?_
                      refine JC.region ?_
                      refine JL.val (v := .int .i64 d48) (QV.move rfl) rfl rfl rfl ?_
                      refine JL.val (v := .int .i64 (IntKind.wrap .i64 (d48 + (1 : Int)))) (QV.add rfl rfl) rfl rfl rfl ?_
                      refine JL.val (v := .int .i64 (IntKind.wrap .i64 (d48 + (1 : Int)))) (QV.assign rfl) rfl rfl rfl ?_
                      refine JL.nil ?_
                      obtain rfl := Option.some.inj hm
                      exact QJ.round_on (d57, (IntKind.wrap .i64 (d48 + (1 : Int)))) () [0, 1, 2] (by exact ⟨rfl, rfl, rfl, rfl, rfl, rfl, rfl, rfl, rfl, rfl, rfl, rfl, trivial⟩) rfl rfl
                    ·
                      refine JC.block ?_
                      refine JC.seq ?_
                      refine JC.region ?_
                      refine JL.val (v := .int .i64 d33) (QV.move rfl) rfl rfl rfl ?_
                      refine JL.val (v := .int .i64 d48) (QV.move rfl) rfl rfl rfl ?_
                      refine JL.val (v := .int .i64 (IntKind.wrap .i64 (d33 - d48))) (QV.sub rfl rfl) rfl rfl rfl ?_
                      refine JL.val (v := .int .i64 (IntKind.wrap .i64 ((2 : Int) * (IntKind.wrap .i64 (d33 - d48))))) (QV.mul rfl rfl) rfl rfl rfl ?_
                      refine JL.val (v := .int .i64 (IntKind.wrap .i64 ((2 : Int) * (IntKind.wrap .i64 (d33 - d48))))) (QV.assign rfl) rfl rfl rfl ?_
                      refine JL.nil ?_
                      refine QJ.then_normal ?_
                      refine JC.seq ?_
                      refine JC.seq ?_
                      refine JC.regionT [Asr.vn (NE.sl (Enc.int .u64)) (s1.v) z3 x2, Asr.vw (Enc.int .u64) (s4.v) x5, Asr.onn 95 41 (Enc.int .u64) (z11.v) (List.set z15 (Int.toNat d16) z28) d32] (fun t => false) [(0, true), (1, false), (2, false), (3, false), (4, true), (5, true), (6, true), (7, true), (8, true), (9, true), (10, true), (11, true), (12, true), (13, false), (14, false), (15, false)] (by kernel_rfl) (by kernel_rfl) (by kernel_rfl) rfl (fun hsel => ?_)
                      refine JT.take (i := 0) (v := .int .i64 (IntKind.wrap .i64 ((2 : Int) * (IntKind.wrap .i64 (d33 - d48))))) hsel rfl (QV.move rfl) rfl rfl rfl rfl [0, 1, 2] rfl rfl ?_
                      refine JT.only (i := 1) (d := some 53) rfl (MV.ofQV (v := .int .i64 x6) (QV.move rfl)) rfl rfl rfl ?_
                      rintro _ _ ⟨rfl, rfl⟩
                      refine ⟨fun _ => ⟨[0, 1, 2], rfl, rfl⟩, ?_⟩
                      refine JT.only (i := 2) (d := some 54) rfl (MV.ofQV (v := .bool (decide (x6 < (IntKind.wrap .i64 ((2 : Int) * (IntKind.wrap .i64 (d33 - d48))))))) (QV.gtr rfl rfl)) rfl rfl rfl ?_
                      rintro _ _ ⟨rfl, rfl⟩
                      refine ⟨fun _ => ⟨[0, 1, 2], rfl, rfl⟩, ?_⟩
                      rcases ite_inv hm with ⟨h58, hm⟩ | ⟨h58, hm⟩
                      ·
                        refine JT.only (i := 3) (d := some 55) rfl (MV.ofQV (v := .bool true) (QV.eq (QV.move rfl) (congrArg Value.bool (decide_eq_true h58)))) rfl rfl rfl ?_
                        rintro _ _ ⟨rfl, rfl⟩
                        refine ⟨fun _ => ⟨[0, 1, 2], rfl, rfl⟩, ?_⟩
                        refine JT.skip (i := 4) (d := some 56) hsel rfl rfl rfl rfl rfl [0, 1, 2] rfl rfl ?_
                        refine JT.skip (i := 5) (d := some 57) hsel rfl rfl rfl rfl rfl [0, 1, 2] rfl rfl ?_
                        refine JT.skip (i := 6) (d := some 58) hsel rfl rfl rfl rfl rfl [0, 1, 2] rfl rfl ?_
                        refine JT.skip (i := 7) (d := some 59) hsel rfl rfl rfl rfl rfl [0, 1, 2] rfl rfl ?_
                        refine JT.skip (i := 8) (d := some 60) hsel rfl rfl rfl rfl rfl [0, 1, 2] rfl rfl ?_
                        refine JT.skip (i := 9) (d := some 61) hsel rfl rfl rfl rfl rfl [0, 1, 2] rfl rfl ?_
                        refine JT.skip (i := 10) (d := some 62) hsel rfl rfl rfl rfl rfl [0, 1, 2] rfl rfl ?_
                        refine JT.skip (i := 11) (d := some 63) hsel rfl rfl rfl rfl rfl [0, 1, 2] rfl rfl ?_
                        refine JT.skip (i := 12) (d := some 64) hsel rfl rfl rfl rfl rfl [0, 1, 2] rfl rfl ?_
                        refine JT.skipO (i := 13) (d := some 65) rfl rfl rfl rfl [0, 1, 2] rfl rfl ?_
                        refine JT.skipO (i := 14) (d := some 66) rfl rfl rfl rfl [0, 1, 2] rfl rfl ?_
                        refine JT.only (i := 15) (d := some 67) rfl (MV.ofQV (v := .bool true) (QV.pickT rfl rfl)) rfl rfl rfl ?_
                        rintro _ _ ⟨rfl, rfl⟩
                        refine ⟨fun _ => ⟨[0, 1, 2], rfl, rfl⟩, ?_⟩
                        refine JT.nil ?_
                        refine QJ.then_normal ?_
                        refine JC.condT rfl ?_
                        refine JC.exit ?_
                        refine QJ.then_exit ?_
                        refine QJ.block_hit ?_
                        exact QJ.cut_normal (d47, ()) hm [0, 1, 2] (by exact ⟨rfl, rfl, rfl, rfl, rfl, rfl, rfl, rfl, rfl, rfl, rfl, rfl, trivial⟩) rfl rfl
                      ·
                        refine JT.only (i := 3) (d := some 55) rfl (MV.ofQV (v := .bool false) (QV.eq (QV.move rfl) (congrArg Value.bool (decide_eq_false h58)))) rfl rfl rfl ?_
                        rintro _ _ ⟨rfl, rfl⟩
                        refine ⟨fun _ => ⟨[0, 1, 2], rfl, rfl⟩, ?_⟩
                        refine JT.take (i := 4) (v := s1.v) hsel rfl (QV.move rfl) rfl rfl rfl rfl [0, 1, 2] rfl rfl ?_
                        refine JT.take (i := 5) (v := .int .i64 d16) hsel rfl (QV.move rfl) rfl rfl rfl rfl [0, 1, 2] rfl rfl ?_
                        refine JT.take (i := 6) (v := .int .i64 d48) hsel rfl (QV.move rfl) rfl rfl rfl rfl [0, 1, 2] rfl rfl ?_
                        refine JT.take (i := 7) (v := .int .i64 (IntKind.wrap .i64 (d16 + d48))) hsel rfl (QV.add rfl rfl) rfl rfl rfl rfl [0, 1, 2] rfl rfl ?_
                        obtain ⟨h59, hm⟩ := guard_inv hm
                        refine JT.take (i := 8) (v := .pointer (some (elA (s1.v) (Int.toNat (IntKind.wrap .i64 (d16 + d48)) * ((NE.sl (Enc.int .u64)).E).sz)))) hsel rfl (QV.indexN (RdN.vn 0 rfl) Try.underlying97 tk_95 rfl rfl h59) rfl rfl rfl rfl [0, 1, 2] rfl rfl ?_
                        refine JT.take (i := 9) (v := (gd z3 (IntKind.wrap .i64 (d16 + d48))).v) hsel rfl (QV.el1N (RdN.vn 0 rfl) tk_95 rfl h59 rfl) rfl rfl rfl rfl [0, 1, 2] rfl rfl ?_
                        refine JT.take (i := 10) (v := .int .i64 (IntKind.wrap .i64 ((2 : Int) * (IntKind.wrap .i64 (d33 - d48))))) hsel rfl (QV.move rfl) rfl rfl rfl rfl [0, 1, 2] rfl rfl ?_
                        obtain ⟨h60, hm⟩ := guard_inv hm
                        refine JT.take (i := 11) (v := .pointer (some (elA ((gd z3 (IntKind.wrap .i64 (d16 + d48))).v) (Int.toNat (IntKind.wrap .i64 ((2 : Int) * (IntKind.wrap .i64 (d33 - d48)))) * ((Enc.int .u64)).sz)))) hsel rfl (QV.indexA (Rdg.ofDrv (Drv.el (K := (NE.sl (Enc.int .u64))) (A := Asr.vw (Enc.int .u64) ((gd z3 (IntKind.wrap .i64 (d16 + d48))).v) (gd x2 (IntKind.wrap .i64 (d16 + d48)))) (Drv.vn 0 rfl) h59 (fun _ _ q => q))) Try.underlying95 tk_41 rfl rfl h60) rfl rfl rfl rfl [0, 1, 2] rfl rfl ?_
                        refine JT.take (i := 12) (v := .int .u64 (gd (gd x2 (IntKind.wrap .i64 (d16 + d48))) (IntKind.wrap .i64 ((2 : Int) * (IntKind.wrap .i64 (d33 - d48)))))) hsel rfl (QV.el1 (Rdg.ofDrv (Drv.el (K := (NE.sl (Enc.int .u64))) (A := Asr.vw (Enc.int .u64) ((gd z3 (IntKind.wrap .i64 (d16 + d48))).v) (gd x2 (IntKind.wrap .i64 (d16 + d48)))) (Drv.vn 0 rfl) h59 (fun _ _ q => q))) tk_41 rfl h60 rfl) rfl rfl rfl rfl [0, 1, 2] rfl rfl ?_
                        obtain ⟨y61, hc62, hm⟩ := bind_inv hm
                        refine JT.only (i := 13) (d := some 65) rfl (MV.call (Lo := []) (Lr := [Asr.vn (NE.sl (Enc.int .u64)) (s1.v) z3 x2, Asr.vw (Enc.int .u64) (s4.v) x5, Asr.onn 95 41 (Enc.int .u64) (z11.v) (List.set z15 (Int.toNat d16) z28) d32]) (F52.spec _ hc62) rfl Try.func52 rfl rfl rfl [] [0, 1, 2] rfl rfl rfl trivial) rfl rfl rfl ?_
                        rintro _ _ ⟨_, ⟨rfl, rfl⟩, rfl⟩
                        refine ⟨fun _ => ⟨[0, 1, 2], rfl, rfl⟩, ?_⟩
                        refine JT.only (i := 14) (d := some 66) rfl (MV.ofQV (v := .bool (decide ((gd (gd x2 (IntKind.wrap .i64 (d16 + d48))) (IntKind.wrap .i64 ((2 : Int) * (IntKind.wrap .i64 (d33 - d48))))) = (18446744073709551615 : Int)))) (QV.eql rfl rfl)) rfl rfl rfl ?_
                        rintro _ _ ⟨rfl, rfl⟩
                        refine ⟨fun _ => ⟨[0, 1, 2], rfl, rfl⟩, ?_⟩
                        refine JT.only (i := 15) (d := some 67) rfl (MV.ofQV (v := .bool (decide ((gd (gd x2 (IntKind.wrap .i64 (d16 + d48))) (IntKind.wrap .i64 ((2 : Int) * (IntKind.wrap .i64 (d33 - d48))))) = (18446744073709551615 : Int)))) (QV.pickF rfl rfl)) rfl rfl rfl ?_
                        rintro _ _ ⟨rfl, rfl⟩
                        refine ⟨fun _ => ⟨[0, 1, 2], rfl, rfl⟩, ?_⟩
                        refine JT.nil ?_
                        refine QJ.then_normal ?_
                        rcases ite_inv hm with ⟨h63, hm⟩ | ⟨h63, hm⟩
                        ·
                          refine JC.condT' rfl (decide_eq_true h63) ?_
                          refine JC.exit ?_
                          refine QJ.then_exit ?_
                          refine QJ.block_hit ?_
                          exact QJ.cut_normal (d47, ()) hm [0, 1, 2] (by exact ⟨rfl, rfl, rfl, rfl, rfl, rfl, rfl, rfl, rfl, rfl, rfl, rfl, trivial⟩) rfl rfl
                        ·
                          refine JC.condF' rfl (decide_eq_false h63) ?_
                          refine JC.skip ?_
                          refine QJ.then_normal ?_
                          refine JC.regionT [Asr.vn (NE.sl (Enc.int .u64)) (s1.v) z3 x2, Asr.vw (Enc.int .u64) (s4.v) x5, Asr.onn 95 41 (Enc.int .u64) (z11.v) (List.set z15 (Int.toNat d16) z28) d32] (fun t => false) [(0, true), (1, true), (2, true), (3, true), (4, true), (5, true), (6, true), (7, true), (8, true), (9, true), (10, true), (11, true), (12, false), (13, false), (14, false), (15, false), (16, false), (17, false), (18, false)] (by kernel_rfl) (by kernel_rfl) (by kernel_rfl) rfl (fun hsel => ?_)
                          refine JT.take (i := 0) (v := .int .u64 d47) hsel rfl (QV.move rfl) rfl rfl rfl rfl [0, 1, 2] rfl rfl ?_
                          refine JT.take (i := 1) (v := s1.v) hsel rfl (QV.move rfl) rfl rfl rfl rfl [0, 1, 2] rfl rfl ?_
                          refine JT.take (i := 2) (v := .int .i64 d16) hsel rfl (QV.move rfl) rfl rfl rfl rfl [0, 1, 2] rfl rfl ?_
                          refine JT.take (i := 3) (v := .int .i64 d48) hsel rfl (QV.move rfl) rfl rfl rfl rfl [0, 1, 2] rfl rfl ?_
                          refine JT.take (i := 4) (v := .int .i64 (IntKind.wrap .i64 (d16 + d48))) hsel rfl (QV.add rfl rfl) rfl rfl rfl rfl [0, 1, 2] rfl rfl ?_
                          refine JT.take (i := 5) (v := .pointer (some (elA (s1.v) (Int.toNat (IntKind.wrap .i64 (d16 + d48)) * ((NE.sl (Enc.int .u64)).E).sz)))) hsel rfl (QV.indexN (RdN.vn 0 rfl) Try.underlying97 tk_95 rfl rfl h59) rfl rfl rfl rfl [0, 1, 2] rfl rfl ?_
                          refine JT.take (i := 6) (v := (gd z3 (IntKind.wrap .i64 (d16 + d48))).v) hsel rfl (QV.el1N (RdN.vn 0 rfl) tk_95 rfl h59 rfl) rfl rfl rfl rfl [0, 1, 2] rfl rfl ?_
                          refine JT.take (i := 7) (v := .int .i64 (IntKind.wrap .i64 ((2 : Int) * (IntKind.wrap .i64 (d33 - d48))))) hsel rfl (QV.move rfl) rfl rfl rfl rfl [0, 1, 2] rfl rfl ?_
                          refine JT.take (i := 8) (v := .pointer (some (elA ((gd z3 (IntKind.wrap .i64 (d16 + d48))).v) (Int.toNat (IntKind.wrap .i64 ((2 : Int) * (IntKind.wrap .i64 (d33 - d48)))) * ((Enc.int .u64)).sz)))) hsel rfl (QV.indexA (Rdg.ofDrv (Drv.el (K := (NE.sl (Enc.int .u64))) (A := Asr.vw (Enc.int .u64) ((gd z3 (IntKind.wrap .i64 (d16 + d48))).v) (gd x2 (IntKind.wrap .i64 (d16 + d48)))) (Drv.vn 0 rfl) h59 (fun _ _ q => q))) Try.underlying95 tk_41 rfl rfl h60) rfl rfl rfl rfl [0, 1, 2] rfl rfl ?_
                          refine JT.take (i := 9) (v := .int .u64 (gd (gd x2 (IntKind.wrap .i64 (d16 + d48))) (IntKind.wrap .i64 ((2 : Int) * (IntKind.wrap .i64 (d33 - d48)))))) hsel rfl (QV.el1 (Rdg.ofDrv (Drv.el (K := (NE.sl (Enc.int .u64))) (A := Asr.vw (Enc.int .u64) ((gd z3 (IntKind.wrap .i64 (d16 + d48))).v) (gd x2 (IntKind.wrap .i64 (d16 + d48)))) (Drv.vn 0 rfl) h59 (fun _ _ q => q))) tk_41 rfl h60 rfl) rfl rfl rfl rfl [0, 1, 2] rfl rfl ?_
                          refine JT.take (i := 10) (v := s4.v) hsel rfl (QV.move rfl) rfl rfl rfl rfl [0, 1, 2] rfl rfl ?_
                          refine JT.take (i := 11) (v := .int .i64 d16) hsel rfl (QV.move rfl) rfl rfl rfl rfl [0, 1, 2] rfl rfl ?_
                          refine JT.only (i := 12) (d := some 80) rfl (MV.ofQV (v := .int .i64 d48) (QV.move rfl)) rfl rfl rfl ?_
                          rintro _ _ ⟨rfl, rfl⟩
                          refine ⟨fun _ => ⟨[0, 1, 2], rfl, rfl⟩, ?_⟩
                          refine JT.only (i := 13) (d := some 81) rfl (MV.ofQV (v := .int .i64 (IntKind.wrap .i64 (d16 + d48))) (QV.add rfl rfl)) rfl rfl rfl ?_
                          rintro _ _ ⟨rfl, rfl⟩
                          refine ⟨fun _ => ⟨[0, 1, 2], rfl, rfl⟩, ?_⟩
                          obtain ⟨h64, hm⟩ := guard_inv hm
                          refine JT.only (i := 14) (d := some 82) rfl (MV.ofQV (v := .pointer (some (elA (s4.v) (Int.toNat (IntKind.wrap .i64 (d16 + d48)) * ((Enc.int .u64)).sz)))) (QV.indexA (Rdg.vw 1 rfl) Try.underlying95 tk_41 rfl rfl h64)) rfl rfl rfl ?_
                          rintro _ _ ⟨rfl, rfl⟩
                          refine ⟨fun _ => ⟨[0, 1, 2], rfl, rfl⟩, ?_⟩
                          refine JT.only (i := 15) (d := some 83) rfl (MV.ofQV (v := .int .u64 (gd x5 (IntKind.wrap .i64 (d16 + d48)))) (QV.el1 (Rdg.vw 1 rfl) tk_41 rfl h64 rfl)) rfl rfl rfl ?_
                          rintro _ _ ⟨rfl, rfl⟩
                          refine ⟨fun _ => ⟨[0, 1, 2], rfl, rfl⟩, ?_⟩
                          refine JT.only (i := 16) (d := some 84) rfl (MV.ofQV (v := .int .u64 (IntKind.wrap .u64 ((gd (gd x2 (IntKind.wrap .i64 (d16 + d48))) (IntKind.wrap .i64 ((2 : Int) * (IntKind.wrap .i64 (d33 - d48))))) + (gd x5 (IntKind.wrap .i64 (d16 + d48)))))) (QV.add rfl rfl)) rfl rfl rfl ?_
                          rintro _ _ ⟨rfl, rfl⟩
                          refine ⟨fun _ => ⟨[0, 1, 2], rfl, rfl⟩, ?_⟩
                          refine JT.only (i := 17) (d := some 85) rfl (MV.ofQV (v := .int .u64 (minI d47 (IntKind.wrap .u64 ((gd (gd x2 (IntKind.wrap .i64 (d16 + d48))) (IntKind.wrap .i64 ((2 : Int) * (IntKind.wrap .i64 (d33 - d48))))) + (gd x5 (IntKind.wrap .i64 (d16 + d48))))))) (QV.min2 rfl rfl)) rfl rfl rfl ?_
                          rintro _ _ ⟨rfl, rfl⟩
                          refine ⟨fun _ => ⟨[0, 1, 2], rfl, rfl⟩, ?_⟩
                          refine JT.only (i := 18) (d := some 10) rfl (MV.ofQV (v := .int .u64 (minI d47 (IntKind.wrap .u64 ((gd (gd x2 (IntKind.wrap .i64 (d16 + d48))) (IntKind.wrap .i64 ((2 : Int) * (IntKind.wrap .i64 (d33 - d48))))) + (gd x5 (IntKind.wrap .i64 (d16 + d48))))))) (QV.assign rfl)) rfl rfl rfl ?_
                          rintro _ _ ⟨rfl, rfl⟩
                          refine ⟨fun _ => ⟨[0, 1, 2], rfl, rfl⟩, ?_⟩
                          refine JT.nil ?_
                          refine QJ.block_normal ?_
                          exact QJ.cut_normal ((minI d47 (IntKind.wrap .u64 ((gd (gd x2 (IntKind.wrap .i64 (d16 + d48))) (IntKind.wrap .i64 ((2 : Int) * (IntKind.wrap .i64 (d33 - d48))))) + (gd x5 (IntKind.wrap .i64 (d16 + d48)))))), ()) hm [0, 1, 2] (by exact ⟨rfl, rfl, rfl, rfl, rfl, rfl, rfl, rfl, rfl, rfl, rfl, rfl, trivial⟩) rfl rfl
                  ·
                    refine JC.condF' rfl (decide_eq_false h56) ?_
                    refine JC.exit ?_
                    refine QJ.then_exit ?_
                    obtain rfl := Option.some.inj hm
                    refine QJ.round_exit (fun hy => ?_)
                    subst hy
                    refine QJ.block_hit ?_
                    exact QJ.cut_normal (d47, ()) hmo53 [0, 1, 2] (by exact ⟨rfl, rfl, rfl, rfl, rfl, rfl, rfl, rfl, rfl, rfl, rfl, trivial⟩) rfl rfl
                ·
                  refine JL.val (v := .bool false) (QV.eq (QV.move rfl) (congrArg Value.bool (decide_eq_false h55))) rfl rfl rfl ?_
                  refine JL.skip (d := some 40) rfl rfl rfl ?_
                  refine JL.skip (d := some 41) rfl rfl rfl ?_
                  refine JL.skip (d := some 42) rfl rfl rfl ?_
                  refine JL.skip (d := some 43) rfl rfl rfl ?_
                  refine JL.skip (d := some 44) rfl rfl rfl ?_
                  refine JL.val (v := .bool false) (QV.pickF rfl rfl) rfl rfl rfl ?_
                  refine JL.nil ?_
                  refine QJ.then_normal ?_
                  refine JC.condF rfl ?_
                  refine JC.exit ?_
                  refine QJ.then_exit ?_
                  obtain rfl := Option.some.inj hm
                  refine QJ.round_exit (fun hy => ?_)
                  subst hy
                  refine QJ.block_hit ?_
                  exact QJ.cut_normal (d47, ()) hmo53 [0, 1, 2] (by exact ⟨rfl, rfl, rfl, rfl, rfl, rfl, rfl, rfl, rfl, rfl, rfl, trivial⟩) rfl rfl
          ·
            refine JC.condF' rfl (decide_eq_false h40) ?_
            refine JC.exit ?_
            refine QJ.then_exit ?_
            obtain rfl := Option.some.inj hm
            refine QJ.round_exit (fun hy => ?_)
            subst hy
            refine QJ.block_hit ?_
            exact QJ.cut_normal (d32, ()) hmo38 [0, 1, 2] (by exact ⟨rfl, rfl, rfl, rfl, rfl, rfl, trivial⟩) rfl rfl
    ·
      refine JC.condF' rfl (decide_eq_false h24) ?_
      refine JC.exit ?_
      refine QJ.then_exit ?_
      obtain rfl := Option.some.inj hm
      refine QJ.round_exit (fun hy => ?_)
      subst hy
      refine QJ.block_hit ?_
      exact QJ.cut_normal (d14, z15) hmo22 [2] (by exact ⟨rfl, trivial⟩) rfl rfl

/-! ### 26: drogher/drogherref10.Least -/
noncomputable def F26.j3  (d16 : List (List Int)) : Option Int :=
  (if 0 ≤ (0 : Int) ∧ (0 : Int) < ((d16).length : Int) then (if 0 ≤ (1 : Int) ∧ (1 : Int) < (((gd d16 (0 : Int))).length : Int) then some (gd (gd d16 (0 : Int)) (1 : Int)) else none) else none)
noncomputable def F26.b1 (y5 : (List Int)) (d10 : List Int) : (List (List Int) × Int) → Option ((List (List Int) × Int) ⊕ (List (List Int)))
  | (d21, d23) => (if (0 : Int) ≤ d23 then ((F53.m (d21) (d10) (((y5).length : Int))).bind fun y33 => some (.inl (y33, (IntKind.wrap .i64 (d23 - (1 : Int)))))) else some (.inr d21))
noncomputable def F26.j2 (x3 : Int) (y5 : (List Int)) (d10 : List Int) (d13 : List (List Int)) : Option Int :=
  ((loop (F26.b1 y5 d10) (d13, (IntKind.wrap .i64 (x3 - (1 : Int))))).bind fun y => match y with | d16 => F26.j3 (d16))
noncomputable def F26.j4 (d39 : Int) (d48 : List (List Int)) : Option ((List (List Int) × Int) ⊕ (List (List Int))) :=
  some (.inl (d48, (IntKind.wrap .i64 (d39 + (1 : Int)))))
noncomputable def F26.j5 (d39 : Int) (d53 : List (List Int)) : Option ((List (List Int) × Int) ⊕ (List (List Int))) :=
  F26.j4 d39 (d53)
noncomputable def F26.j6 (d55 : Int) (d67 : List (List Int)) : Option ((List (List Int) × Int) ⊕ (List (List Int))) :=
  some (.inl (d67, (IntKind.wrap .i64 (d55 + (1 : Int)))))
noncomputable def F26.b3 (y5 : (List Int)) (d37 : List (List Int)) (d39 : Int) : (List (List Int) × Int) → Option ((List (List Int) × Int) ⊕ (List (List Int)))
  | (d54, d55) => (if d55 < (((gd (List.set d37 (Int.toNat d39) (List.replicate (Int.toNat (IntKind.wrap .i64 (((y5).length : Int) + (1 : Int)))) (0 : Int))) d39)).length : Int) then (if 0 ≤ d39 ∧ d39 < ((d54).length : Int) then ((F52.m).bind fun y64 => (if 0 ≤ d55 ∧ d55 < (((gd d54 d39)).length : Int) then (if (IntKind.wrap .i64 (((y5).length : Int) - d39)) = d55 then (if 0 ≤ d39 ∧ d39 < (((List.set d54 (Int.toNat d39) (List.set (gd d54 d39) (Int.toNat d55) (18446744073709551615 : Int)))).length : Int) then (if 0 ≤ d55 ∧ d55 < (((gd (List.set d54 (Int.toNat d39) (List.set (gd d54 d39) (Int.toNat d55) (18446744073709551615 : Int))) d39)).length : Int) then F26.j6 d55 ((List.set (List.set d54 (Int.toNat d39) (List.set (gd d54 d39) (Int.toNat d55) (18446744073709551615 : Int))) (Int.toNat d39) (List.set (gd (List.set d54 (Int.toNat d39) (List.set (gd d54 d39) (Int.toNat d55) (18446744073709551615 : Int))) d39) (Int.toNat d55) (0 : Int)))) else none) else none) else F26.j6 d55 ((List.set d54 (Int.toNat d39) (List.set (gd d54 d39) (Int.toNat d55) (18446744073709551615 : Int))))) else none)) else none) else some (.inr d54))
noncomputable def F26.b2 (y5 : (List Int)) : (List (List Int) × Int) → Option ((List (List Int) × Int) ⊕ (List (List Int)))
  | (d37, d39) => (if d39 < (((List.replicate (Int.toNat (IntKind.wrap .i64 (((y5).length : Int) + (1 : Int)))) ([] : (List Int)))).length : Int) then (if 0 ≤ d39 ∧ d39 < ((d37).length : Int) then (if 0 ≤ d39 ∧ d39 < (((List.set d37 (Int.toNat d39) (List.replicate (Int.toNat (IntKind.wrap .i64 (((y5).length : Int) + (1 : Int)))) (0 : Int)))).length : Int) then ((loop (F26.b3 y5 d37 d39) ((List.set d37 (Int.toNat d39) (List.replicate (Int.toNat (IntKind.wrap .i64 (((y5).length : Int) + (1 : Int)))) (0 : Int))), (0 : Int))).bind fun y => match y with | d53 => F26.j5 d39 (d53)) else none) else none) else some (.inr d37))
noncomputable def F26.j1 (x3 : Int) (y5 : (List Int)) (d10 : List Int) : Option Int :=
  (if 0 ≤ (IntKind.wrap .i64 (((y5).length : Int) + (1 : Int))) ∧ (IntKind.wrap .i64 (((y5).length : Int) + (1 : Int))) * 24 ≤ 281474976710656 ∧ (IntKind.wrap .i64 (((y5).length : Int) + (1 : Int))) ≤ 9223372036854775807 then ((loop (F26.b2 y5) ((List.replicate (Int.toNat (IntKind.wrap .i64 (((y5).length : Int) + (1 : Int)))) ([] : (List Int))), (0 : Int))).bind fun y => match y with | d13 => F26.j2 x3 y5 d10 (d13)) else none)
noncomputable def F26.b4 (y5 : (List Int)) : (List Int × Int) → Option ((List Int × Int) ⊕ (List Int))
  | (d71, d72) => (if (0 : Int) ≤ d72 then (if 0 ≤ (IntKind.wrap .i64 (d72 + (1 : Int))) ∧ (IntKind.wrap .i64 (d72 + (1 : Int))) < ((d71).length : Int) then (if 0 ≤ d72 ∧ d72 < ((y5).length : Int) then (if 0 ≤ d72 ∧ d72 < ((d71).length : Int) then some (.inl ((List.set d71 (Int.toNat d72) (IntKind.wrap .u64 ((gd d71 (IntKind.wrap .i64 (d72 + (1 : Int)))) + (gd y5 d72)))), (IntKind.wrap .i64 (d72 - (1 : Int))))) else none) else none) else none) else some (.inr d71))
noncomputable def F26.m (x2 : List Int) (x3 : Int) : Option Int :=
  ((F51.m (x2)).bind fun y5 => (if 0 ≤ (IntKind.wrap .i64 (((y5).length : Int) + (1 : Int))) ∧ (IntKind.wrap .i64 (((y5).length : Int) + (1 : Int))) * 8 ≤ 281474976710656 ∧ (IntKind.wrap .i64 (((y5).length : Int) + (1 : Int))) ≤ 9223372036854775807 then ((loop (F26.b4 y5) ((List.replicate (Int.toNat (IntKind.wrap .i64 (((y5).length : Int) + (1 : Int)))) (0 : Int)), (IntKind.wrap .i64 (((y5).length : Int) - (1 : Int))))).bind fun y => match y with | d10 => F26.j1 x3 y5 (d10)) else none))
set_option maxRecDepth 100000 in
set_option maxHeartbeats 4000000 in
theorem F26.spec (s1 : SlV) (x2 : List Int) (x3 : Int) (r : Int) (hm : F26.m x2 x3 = some r) :
    Ctr Try.prog false 26 [s1.v, .int .i64 x3] [Asr.vw (Enc.int .u32) (s1.v) x2] (fun v L' => v = .int .u64 r ∧ L' = []) := by
  refine Ctr.intro (n := 96) (env := [(0, s1.v), (1, .int .i64 x3)]) Try.func26 rfl rfl rfl rfl (fun c => ?_)
  unfold F26.m at hm
  refine JC.seq ?_
  refine JC.region ?_
  refine JL.val (v := .int .u64 (0 : Int)) (QV.assign rfl) rfl rfl rfl ?_
  refine JL.nil ?_
  refine QJ.then_normal ?_
  refine JC.seq ?_
  refine JC.region ?_
  refine JL.val (v := s1.v) (QV.move rfl) rfl rfl rfl ?_
  obtain ⟨y5, hc6, hm⟩ := bind_inv hm
  refine JL.mv (d := some 14) (MV.call (Lo := []) (Lr := [Asr.vw (Enc.int .u32) (s1.v) x2]) (F51.spec (s1) (x2) _ hc6) rfl Try.func51 rfl rfl rfl [] [0] rfl rfl rfl ⟨(Drv.vw 0 rfl), trivial⟩) rfl rfl rfl ?_
  rintro _ _ ⟨_, ⟨z7, rfl, rfl⟩, rfl⟩
  refine JL.val (v := z7.v) (QV.assign rfl) rfl rfl rfl ?_
  refine JL.nil ?_
  refine QJ.then_normal ?_
  refine JC.seq ?_
  refine JC.region ?_
  refine JL.val (v := z7.v) (QV.move rfl) rfl rfl rfl ?_
  refine JL.val (v := .int .i64 ((y5).length : Int)) (QV.len (Rdg.of 0 rfl) Try.underlying95 rfl) rfl rfl rfl ?_
  refine JL.val (v := .int .i64 ((y5).length : Int)) (QV.assign rfl) rfl rfl rfl ?_
  refine JL.nil ?_
  refine QJ.then_normal ?_
  refine JC.seq ?_
  refine JC.region ?_
  refine JL.val (v := .int .i64 ((y5).length : Int)) (QV.move rfl) rfl rfl rfl ?_
  refine JL.val (v := .int .i64 (IntKind.wrap .i64 (((y5).length : Int) + (1 : Int)))) (QV.add rfl rfl) rfl rfl rfl ?_
  obtain ⟨h8, hm⟩ := guard_inv hm
  refine JL.mv (d := some 19) (MV.make (E := (Enc.int .u64)) (0 : Int) Try.underlying95 zi_41 (by decide) rfl rfl rfl h8) rfl rfl rfl ?_
  rintro _ _ ⟨z9, rfl, rfl⟩
  refine JL.val (v := z9.v) (QV.assign rfl) rfl rfl rfl ?_
  refine JL.nil ?_
  refine QJ.then_normal ?_
  refine JC.seq ?_
  refine JC.seq ?_
  refine JC.region ?_
  refine JL.val (v := .int .i64 ((y5).length : Int)) (QV.move rfl) rfl rfl rfl ?_
  refine JL.val (v := .int .i64 (IntKind.wrap .i64 (((y5).length : Int) - (1 : Int)))) (QV.sub rfl rfl) rfl rfl rfl ?_
  refine JL.val (v := .int .i64 (IntKind.wrap .i64 (((y5).length : Int) - (1 : Int)))) (QV.assign rfl) rfl rfl rfl ?_
  refine JL.nil ?_
  refine QJ.then_normal ?_
  refine JC.cutK (Y := (List Int) × Unit) (fun y => match y with | (d10, _) => F26.j1 x3 y5 (d10) = some r) (fun y => match y with | (d10, _) => [(1, .int .i64 x3), (6, .int .i64 ((y5).length : Int)), (7, z9.v)]) (fun y => match y with | (d10, _) => [Asr.of 41 (Enc.int .u64) (z9.v) d10]) ?_ ?_
  ·
    rintro ⟨d10, ⟨⟩⟩ hm
    unfold F26.j1 at hm
    show QJ _ _ [(1, .int .i64 x3), (6, .int .i64 ((y5).length : Int)), (7, z9.v)] [Asr.of 41 (Enc.int .u64) (z9.v) d10] _ _
    refine QJ.then_normal ?_
    refine JC.seq ?_
    refine JC.region ?_
    refine JL.val (v := .int .i64 ((y5).length : Int)) (QV.move rfl) rfl rfl rfl ?_
    refine JL.val (v := .int .i64 (IntKind.wrap .i64 (((y5).length : Int) + (1 : Int)))) (QV.add rfl rfl) rfl rfl rfl ?_
    obtain ⟨h11, hm⟩ := guard_inv hm
    refine JL.mv (d := some 41) (MV.makeNn 41 (Enc.int .u64) Try.underlying97 zi_95 rfl rfl rfl h11) rfl rfl rfl ?_
    rintro _ _ ⟨z12, rfl, rfl⟩
    refine JL.val (v := z12.v) (QV.assign rfl) rfl rfl rfl ?_
    refine JL.nil ?_
    refine QJ.then_normal ?_
    refine JC.seq ?_
    refine JC.seq ?_
    refine JC.region ?_
    refine JL.val (v := z12.v) (QV.move rfl) rfl rfl rfl ?_
    refine JL.val (v := .int .i64 (((List.replicate (Int.toNat (IntKind.wrap .i64 (((y5).length : Int) + (1 : Int)))) ([] : (List Int)))).length : Int)) (QV.lenN (RdN.onn 0 rfl) Try.underlying97 rfl) rfl rfl rfl ?_
    refine JL.val (v := .int .i64 (0 : Int)) (QV.move rfl) rfl rfl rfl ?_
    refine JL.nil ?_
    refine QJ.then_normal ?_
    refine JC.cutK (Y := (List (List Int)) × (List SlV)) (fun y => match y with | (d13, _) => F26.j2 x3 y5 d10 (d13) = some r) (fun y => match y with | (d13, z14) => [(1, .int .i64 x3), (6, .int .i64 ((y5).length : Int)), (7, z9.v), (9, z12.v)]) (fun y => match y with | (d13, z14) => [Asr.of 41 (Enc.int .u64) (z9.v) d10, Asr.onn 95 41 (Enc.int .u64) (z12.v) z14 d13]) ?_ ?_
    ·
      rintro ⟨d13, z14⟩ hm
      unfold F26.j2 at hm
      show QJ _ _ [(1, .int .i64 x3), (6, .int .i64 ((y5).length : Int)), (7, z9.v), (9, z12.v)] [Asr.of 41 (Enc.int .u64) (z9.v) d10, Asr.onn 95 41 (Enc.int .u64) (z12.v) z14 d13] _ _
      refine QJ.then_normal ?_
      refine JC.seq ?_
      refine JC.seq ?_
      refine JC.region ?_
      refine JL.val (v := .int .i64 x3) (QV.move rfl) rfl rfl rfl ?_
      refine JL.val (v := .int .i64 (IntKind.wrap .i64 (x3 - (1 : Int)))) (QV.sub rfl rfl) rfl rfl rfl ?_
      refine JL.val (v := .int .i64 (IntKind.wrap .i64 (x3 - (1 : Int)))) (QV.assign rfl) rfl rfl rfl ?_
      refine JL.nil ?_
      refine QJ.then_normal ?_
      refine JC.cutK (Y := (List (List Int)) × (SlV × List SlV)) (fun y => match y with | (d16, _) => F26.j3 (d16) = some r) (fun y => match y with | (d16, (z15, z17)) => [(9, z15.v)]) (fun y => match y with | (d16, (z15, z17)) => [Asr.onn 95 41 (Enc.int .u64) (z15.v) z17 d16]) ?_ ?_
      ·
        rintro ⟨d16, ⟨z15, z17⟩⟩ hm
        unfold F26.j3 at hm
        show QJ _ _ [(9, z15.v)] [Asr.onn 95 41 (Enc.int .u64) (z15.v) z17 d16] _ _
        refine QJ.then_normal ?_
        refine JC.seq ?_
        refine JC.region ?_
        refine JL.val (v := z15.v) (QV.move rfl) rfl rfl rfl ?_
        obtain ⟨h18, hm⟩ := guard_inv hm
        refine JL.val (v := .pointer (some (elA (z15.v) (Int.toNat (0 : Int) * ((NE.sl (Enc.int .u64)).E).sz)))) (QV.indexN (RdN.onn 0 rfl) Try.underlying97 tk_95 rfl rfl h18) rfl rfl rfl ?_
        refine JL.val (v := (gd z17 (0 : Int)).v) (QV.el1N (RdN.onn 0 rfl) tk_95 rfl h18 rfl) rfl rfl rfl ?_
        obtain ⟨h19, hm⟩ := guard_inv hm
        refine JL.val (v := .pointer (some (elA ((gd z17 (0 : Int)).v) (Int.toNat (1 : Int) * ((Enc.int .u64)).sz)))) (QV.indexA (Rdg.ofDrv (Drv.el (K := (NE.sl (Enc.int .u64))) (A := Asr.vw (Enc.int .u64) ((gd z17 (0 : Int)).v) (gd d16 (0 : Int))) (Drv.onn 0 rfl) h18 (fun _ _ q => q))) Try.underlying95 tk_41 rfl rfl h19) rfl rfl rfl ?_
        refine JL.val (v := .int .u64 (gd (gd d16 (0 : Int)) (1 : Int))) (QV.el1 (Rdg.ofDrv (Drv.el (K := (NE.sl (Enc.int .u64))) (A := Asr.vw (Enc.int .u64) ((gd z17 (0 : Int)).v) (gd d16 (0 : Int))) (Drv.onn 0 rfl) h18 (fun _ _ q => q))) tk_41 rfl h19 rfl) rfl rfl rfl ?_
        refine JL.val (v := .int .u64 (gd (gd d16 (0 : Int)) (1 : Int))) (QV.assign rfl) rfl rfl rfl ?_
        refine JL.nil ?_
        refine QJ.then_normal ?_
        refine JC.ret ?_
        obtain rfl := Option.some.inj hm
        exact QJ.body (vs := [.int .u64 (gd (gd d16 (0 : Int)) (1 : Int))]) (.inl rfl) rfl (ResVs.cons (ResV.tmp rfl) ResVs.nil) [] rfl rfl (.inr trivial) ⟨rfl, rfl⟩
      ·
        refine JC.block ?_
        obtain ⟨y28, hl29, hmo30⟩ := bind_inv hm
        refine JC.loop (F26.b1 y5 d10) (fun x z => match x, z with | (d21, d23), (z20, z22) => [(6, .int .i64 ((y5).length : Int)), (7, z9.v), (9, z20.v), (12, .int .i64 d23)]) (fun x z => match x, z with | (d21, d23), (z20, z22) => [Asr.of 41 (Enc.int .u64) (z9.v) d10, Asr.onn 95 41 (Enc.int .u64) (z20.v) z22 d21]) (d13, (IntKind.wrap .i64 (x3 - (1 : Int)))) (z12, z14) y28 hl29 [0, 1] (by exact ⟨rfl, rfl, rfl, rfl, trivial⟩) rfl rfl ?_
        rintro ⟨d21, d23⟩ ⟨z20, z22⟩ s31 hm
        unfold F26.b1 at hm
        dsimp only at hm
        show JC _ _ _ [(6, .int .i64 ((y5).length : Int)), (7, z9.v), (9, z20.v), (12, .int .i64 d23)] [Asr.of 41 (Enc.int .u64) (z9.v) d10, Asr.onn 95 41 (Enc.int .u64) (z20.v) z22 d21] _ _
        refine JC.seq ?_
        refine JC.seq ?_
        refine JC.region ?_
        refine JL.val (v := .int .i64 d23) (QV.move rfl) rfl rfl rfl ?_
        refine JL.val (v := .bool (decide ((0 : Int) ≤ d23))) (QV.geq rfl rfl) rfl rfl rfl ?_
        refine JL.nil ?_
        refine QJ.then_normal ?_
        rcases ite_inv hm with ⟨h32, hm⟩ | ⟨h32, hm⟩
        ·
          refine JC.condT' rfl (decide_eq_true h32) ?_
          refine JC.skip ?_
          refine QJ.then_normal ?_
          refine JC.seq ?_
          refine JC.block ?_
          refine JC.region ?_
          refine JL.val (v := z20.v) (QV.move rfl) rfl rfl rfl ?_
          refine JL.val (v := z9.v) (QV.move rfl) rfl rfl rfl ?_
          refine JL.val (v := .int .i64 ((y5).length : Int)) (QV.move rfl) rfl rfl rfl ?_
          obtain ⟨y33, hc34, hm⟩ := bind_inv hm
          refine JL.mv (d := some 90) (MV.call (Lo := []) (Lr := [Asr.of 41 (Enc.int .u64) (z9.v) d10, Asr.onn 95 41 (Enc.int .u64) (z20.v) z22 d21]) (F53.spec (z20) (z22) (z9) (d21) (d10) (((y5).length : Int)) _ hc34) rfl Try.func53 rfl rfl rfl [] [0, 1] rfl rfl rfl ⟨(Drv.onn 1 rfl), ⟨(Drv.of 0 rfl), trivial⟩⟩) rfl rfl rfl ?_
          rintro _ _ ⟨_, ⟨z35, z36, rfl, rfl⟩, rfl⟩
          refine JL.val (v := z35.v) (QV.assign rfl) rfl rfl rfl ?_
          refine JL.nil ?_
          refine QJ.block_normal ?_
          refine QJ.then_normal ?_
          refine JC.region ?_
          refine JL.val (v := .int .i64 d23) (QV.move rfl) rfl rfl rfl ?_
          refine JL.val (v := .int .i64 (IntKind.wrap .i64 (d23 - (1 : Int)))) (QV.sub rfl rfl) rfl rfl rfl ?_
          refine JL.val (v := .int .i64 (IntKind.wrap .i64 (d23 - (1 : Int)))) (QV.assign rfl) rfl rfl rfl ?_
          refine JL.nil ?_
          obtain rfl := Option.some.inj hm
          exact QJ.round_on (y33, (IntKind.wrap .i64 (d23 - (1 : Int)))) (z35, z36) [1, 0] (by exact ⟨rfl, rfl, rfl, rfl, trivial⟩) rfl rfl
        ·
          refine JC.condF' rfl (decide_eq_false h32) ?_
          refine JC.exit ?_
          refine QJ.then_exit ?_
          obtain rfl := Option.some.inj hm
          refine QJ.round_exit (fun hy => ?_)
          subst hy
          refine QJ.block_hit ?_
          exact QJ.cut_normal (d21, (z20, z22)) hmo30 [1] (by exact ⟨rfl, trivial⟩) rfl rfl
    ·
      refine JC.block ?_
      obtain ⟨y43, hl44, hmo45⟩ := bind_inv hm
      refine JC.loop (F26.b2 y5) (fun x z => match x, z with | (d37, d39), z38 => [(1, .int .i64 x3), (6, .int .i64 ((y5).length : Int)), (7, z9.v), (9, z12.v), (43, .int .i64 (((List.replicate (Int.toNat (IntKind.wrap .i64 (((y5).length : Int) + (1 : Int)))) ([] : (List Int)))).length : Int)), (44, .int .i64 d39)]) (fun x z => match x, z with | (d37, d39), z38 => [Asr.of 41 (Enc.int .u64) (z9.v) d10, Asr.onn 95 41 (Enc.int .u64) (z12.v) z38 d37]) ((List.replicate (Int.toNat (IntKind.wrap .i64 (((y5).length : Int) + (1 : Int)))) ([] : (List Int))), (0 : Int)) (List.replicate (Int.toNat (IntKind.wrap .i64 (((y5).length : Int) + (1 : Int)))) SlV.nil) y43 hl44 [1, 0] (by exact ⟨rfl, rfl, rfl, rfl, rfl, rfl, trivial⟩) rfl rfl ?_
      rintro ⟨d37, d39⟩ z38 s46 hm
      unfold F26.b2 at hm
      dsimp only at hm
      show JC _ _ _ [(1, .int .i64 x3), (6, .int .i64 ((y5).length : Int)), (7, z9.v), (9, z12.v), (43, .int .i64 (((List.replicate (Int.toNat (IntKind.wrap .i64 (((y5).length : Int) + (1 : Int)))) ([] : (List Int)))).length : Int)), (44, .int .i64 d39)] [Asr.of 41 (Enc.int .u64) (z9.v) d10, Asr.onn 95 41 (Enc.int .u64) (z12.v) z38 d37] _ _
      refine JC.seq ?_
      refine JC.region ?_
      refine JL.val (v := .bool (decide (d39 < (((List.replicate (Int.toNat (IntKind.wrap .i64 (((y5).length : Int) + (1 : Int)))) ([] : (List Int)))).length : Int)))) (QV.lss rfl rfl) rfl rfl rfl ?_
      refine JL.nil ?_
      refine QJ.then_normal ?_
      refine JC.seq ?_
      rcases ite_inv hm with ⟨h47, hm⟩ | ⟨h47, hm⟩
      ·
        refine JC.condT' rfl (decide_eq_true h47) ?_
        refine JC.skip ?_
        refine QJ.then_normal ?_
        refine JC.seq ?_
        refine JC.cutK (Y := (List (List Int)) × (List SlV)) (fun y => match y with | (d48, _) => F26.j4 d39 (d48) = some s46) (fun y => match y with | (d48, z49) => [(1, .int .i64 x3), (6, .int .i64 ((y5).length : Int)), (7, z9.v), (9, z12.v), (43, .int .i64 (((List.replicate (Int.toNat (IntKind.wrap .i64 (((y5).length : Int) + (1 : Int)))) ([] : (List Int)))).length : Int)), (44, .int .i64 d39)]) (fun y => match y with | (d48, z49) => [Asr.of 41 (Enc.int .u64) (z9.v) d10, Asr.onn 95 41 (Enc.int .u64) (z12.v) z49 d48]) ?_ ?_
        ·
          rintro ⟨d48, z49⟩ hm
          unfold F26.j4 at hm
          show QJ _ _ [(1, .int .i64 x3), (6, .int .i64 ((y5).length : Int)), (7, z9.v), (9, z12.v), (43, .int .i64 (((List.replicate (Int.toNat (IntKind.wrap .i64 (((y5).length : Int) + (1 : Int)))) ([] : (List Int)))).length : Int)), (44, .int .i64 d39)] [Asr.of 41 (Enc.int .u64) (z9.v) d10, Asr.onn 95 41 (Enc.int .u64) (z12.v) z49 d48] _ _
          refine QJ.then_normal ?_
          refine JC.region ?_
          refine JL.val (v := .int .i64 (IntKind.wrap .i64 (d39 + (1 : Int)))) (QV.add rfl rfl) rfl rfl rfl ?_
          refine JL.val (v := .int .i64 (IntKind.wrap .i64 (d39 + (1 : Int)))) (QV.move rfl) rfl rfl rfl ?_
          refine JL.nil ?_
          obtain rfl := Option.some.inj hm
          exact QJ.round_on (d48, (IntKind.wrap .i64 (d39 + (1 : Int)))) z49 [0, 1] (by exact ⟨rfl, rfl, rfl, rfl, rfl, rfl, trivial⟩) rfl rfl
        ·
          refine JC.block ?_
          refine JC.seq ?_
          refine JC.region ?_
          refine JL.val (v := .int .i64 d39) (QV.move rfl) rfl rfl rfl ?_
          refine JL.val (v := .int .i64 d39) (QV.assign rfl) rfl rfl rfl ?_
          refine JL.nil ?_
          refine QJ.then_normal ?_
          refine JC.seq ?_
          refine JC.region ?_
          refine JL.val (v := z12.v) (QV.move rfl) rfl rfl rfl ?_
          refine JL.val (v := .int .i64 d39) (QV.move rfl) rfl rfl rfl ?_
          refine JL.val (v := .int .i64 ((y5).length : Int)) (QV.move rfl) rfl rfl rfl ?_
          refine JL.val (v := .int .i64 (IntKind.wrap .i64 (((y5).length : Int) + (1 : Int)))) (QV.add rfl rfl) rfl rfl rfl ?_
          refine JL.mv (d := some 51) (MV.make (E := (Enc.int .u64)) (0 : Int) Try.underlying95 zi_41 (by decide) rfl rfl rfl h8) rfl rfl rfl ?_
          rintro _ _ ⟨z50, rfl, rfl⟩
          obtain ⟨h51, hm⟩ := guard_inv hm
          refine JL.val (v := .pointer (some (elA (z12.v) (Int.toNat d39 * ((NE.sl (Enc.int .u64)).E).sz)))) (QV.indexN (RdN.onn 2 rfl) Try.underlying97 tk_95 rfl rfl h51) rfl rfl rfl ?_
          refine JL.ent (fun _ hs => hs.letgo 2 (Int.toNat d39) rfl) ?_
          refine JL.mv (d := none) (MV.storeH 0 1 rfl rfl tk_95 rfl rfl h51) rfl rfl rfl ?_
          rintro _ _ ⟨rfl, rfl⟩
          refine JL.nil ?_
          refine QJ.then_normal ?_
          refine JC.seq ?_
          refine JC.region ?_
          refine JL.val (v := z12.v) (QV.move rfl) rfl rfl rfl ?_
          refine JL.val (v := .int .i64 d39) (QV.move rfl) rfl rfl rfl ?_
          obtain ⟨h52, hm⟩ := guard_inv hm
          refine JL.val (v := .pointer (some (elA (z12.v) (Int.toNat d39 * ((NE.sl (Enc.int .u64)).E).sz)))) (QV.indexN (RdN.onn 1 rfl) Try.underlying97 tk_95 rfl rfl h52) rfl rfl rfl ?_
          refine JL.val (v := (gd (List.set z38 (Int.toNat d39) z50) d39).v) (QV.el1N (RdN.onn 1 rfl) tk_95 rfl h52 rfl) rfl rfl rfl ?_
          refine JL.val (v := .int .i64 (((gd (List.set d37 (Int.toNat d39) (List.replicate (Int.toNat (IntKind.wrap .i64 (((y5).length : Int) + (1 : Int)))) (0 : Int))) d39)).length : Int)) (QV.len (Rdg.ofDrv (Drv.el (K := (NE.sl (Enc.int .u64))) (A := Asr.vw (Enc.int .u64) ((gd (List.set z38 (Int.toNat d39) z50) d39).v) (gd (List.set d37 (Int.toNat d39) (List.replicate (Int.toNat (IntKind.wrap .i64 (((y5).length : Int) + (1 : Int)))) (0 : Int))) d39)) (Drv.onn 1 rfl) h52 (fun _ _ q => q))) Try.underlying95 rfl) rfl rfl rfl ?_
          refine JL.val (v := .int .i64 (0 : Int)) (QV.move rfl) rfl rfl rfl ?_
          refine JL.nil ?_
          refine QJ.then_normal ?_
          refine JC.cutK (Y := (List (List Int)) × Unit) (fun y => match y with | (d53, _) => F26.j5 d39 (d53) = some s46) (fun y => match y with | (d53, _) => [(1, .int .i64 x3), (6, .int .i64 ((y5).length : Int)), (7, z9.v), (9, z12.v), (43, .int .i64 (((List.replicate (Int.toNat (IntKind.wrap .i64 (((y5).length : Int) + (1 : Int)))) ([] : (List Int)))).length : Int)), (44, .int .i64 d39)]) (fun y => match y with | (d53, _) => [Asr.of 41 (Enc.int .u64) (z9.v) d10, Asr.onn 95 41 (Enc.int .u64) (z12.v) (List.set z38 (Int.toNat d39) z50) d53]) ?_ ?_
          ·
            rintro ⟨d53, ⟨⟩⟩ hm
            unfold F26.j5 at hm
            show QJ _ _ [(1, .int .i64 x3), (6, .int .i64 ((y5).length : Int)), (7, z9.v), (9, z12.v), (43, .int .i64 (((List.replicate (Int.toNat (IntKind.wrap .i64 (((y5).length : Int) + (1 : Int)))) ([] : (List Int)))).length : Int)), (44, .int .i64 d39)] [Asr.of 41 (Enc.int .u64) (z9.v) d10, Asr.onn 95 41 (Enc.int .u64) (z12.v) (List.set z38 (Int.toNat d39) z50) d53] _ _
            refine QJ.block_normal ?_
            exact QJ.cut_normal (d53, (List.set z38 (Int.toNat d39) z50)) hm [0, 1] (by exact ⟨rfl, rfl, rfl, rfl, rfl, rfl, trivial⟩) rfl rfl
          ·
            refine JC.block ?_
            obtain ⟨y58, hl59, hmo60⟩ := bind_inv hm
            refine JC.loop (F26.b3 y5 d37 d39) (fun x z => match x, z with | (d54, d55), _ => [(1, .int .i64 x3), (6, .int .i64 ((y5).length : Int)), (7, z9.v), (9, z12.v), (10, .int .i64 d39), (43, .int .i64 (((List.replicate (Int.toNat (IntKind.wrap .i64 (((y5).length : Int) + (1 : Int)))) ([] : (List Int)))).length : Int)), (44, .int .i64 d39), (57, .int .i64 (((gd (List.set d37 (Int.toNat d39) (List.replicate (Int.toNat (IntKind.wrap .i64 (((y5).length : Int) + (1 : Int)))) (0 : Int))) d39)).length : Int)), (58, .int .i64 d55)]) (fun x z => match x, z with | (d54, d55), _ => [Asr.of 41 (Enc.int .u64) (z9.v) d10, Asr.onn 95 41 (Enc.int .u64) (z12.v) (List.set z38 (Int.toNat d39) z50) d54]) ((List.set d37 (Int.toNat d39) (List.replicate (Int.toNat (IntKind.wrap .i64 (((y5).length : Int) + (1 : Int)))) (0 : Int))), (0 : Int)) () y58 hl59 [0, 1] (by exact ⟨rfl, rfl, rfl, rfl, rfl, rfl, rfl, rfl, rfl, trivial⟩) rfl rfl ?_
            rintro ⟨d54, d55⟩ ⟨⟩ s61 hm
            unfold F26.b3 at hm
            dsimp only at hm
            show JC _ _ _ [(1, .int .i64 x3), (6, .int .i64 ((y5).length : Int)), (7, z9.v), (9, z12.v), (10, .int .i64 d39), (43, .int .i64 (((List.replicate (Int.toNat (IntKind.wrap .i64 (((y5).length : Int) + (1 : Int)))) ([] : (List Int)))).length : Int)), (44, .int .i64 d39), (57, .int .i64 (((gd (List.set d37 (Int.toNat d39) (List.replicate (Int.toNat (IntKind.wrap .i64 (((y5).length : Int) + (1 : Int)))) (0 : Int))) d39)).length : Int)), (58, .int .i64 d55)] [Asr.of 41 (Enc.int .u64) (z9.v) d10, Asr.onn 95 41 (Enc.int .u64) (z12.v) (List.set z38 (Int.toNat d39) z50) d54] _ _
            refine JC.seq ?_
            refine JC.region ?_
            refine JL.val (v := .bool (decide (d55 < (((gd (List.set d37 (Int.toNat d39) (List.replicate (Int.toNat (IntKind.wrap .i64 (((y5).length : Int) + (1 : Int)))) (0 : Int))) d39)).length : Int)))) (QV.lss rfl rfl) rfl rfl rfl ?_
            refine JL.nil ?_
            refine QJ.then_normal ?_
            refine JC.seq ?_
            rcases ite_inv hm with ⟨h62, hm⟩ | ⟨h62, hm⟩
            ·
              refine JC.condT' rfl (decide_eq_true h62) ?_
              refine JC.skip ?_
              refine QJ.then_normal ?_
              refine JC.seq ?_
              refine JC.block ?_
              refine JC.seq ?_
              refine JC.region ?_
              refine JL.val (v := .int .i64 d55) (QV.move rfl) rfl rfl rfl ?_
              refine JL.val (v := .int .i64 d55) (QV.assign rfl) rfl rfl rfl ?_
              refine JL.nil ?_
              refine QJ.then_normal ?_
              refine JC.seq ?_
              refine JC.regionT [Asr.of 41 (Enc.int .u64) (z9.v) d10, Asr.onn 95 41 (Enc.int .u64) (z12.v) (List.set z38 (Int.toNat d39) z50) d54] (fun t => Nat.beq t 7) [(0, true), (1, true), (2, true), (3, true), (4, true), (5, false), (6, false), (7, false)] (by kernel_rfl) (by kernel_rfl) (by kernel_rfl) rfl (fun hsel => ?_)
              refine JT.take (i := 0) (v := z12.v) hsel rfl (QV.move rfl) rfl rfl rfl rfl [0, 1] rfl rfl ?_
              refine JT.take (i := 1) (v := .int .i64 d39) hsel rfl (QV.move rfl) rfl rfl rfl rfl [0, 1] rfl rfl ?_
              obtain ⟨h63, hm⟩ := guard_inv hm
              refine JT.take (i := 2) (v := .pointer (some (elA (z12.v) (Int.toNat d39 * ((NE.sl (Enc.int .u64)).E).sz)))) hsel rfl (QV.indexN (RdN.onn 1 rfl) Try.underlying97 tk_95 rfl rfl h63) rfl rfl rfl rfl [0, 1] rfl rfl ?_
              refine JT.take (i := 3) (v := (gd (List.set z38 (Int.toNat d39) z50) d39).v) hsel rfl (QV.el1N (RdN.onn 1 rfl) tk_95 rfl h63 rfl) rfl rfl rfl rfl [0, 1] rfl rfl ?_
              refine JT.take (i := 4) (v := .int .i64 d55) hsel rfl (QV.move rfl) rfl rfl rfl rfl [0, 1] rfl rfl ?_
              obtain ⟨y64, hc65, hm⟩ := bind_inv hm
              refine JT.only (i := 5) (d := some 66) rfl (MV.call (Lo := []) (Lr := [Asr.of 41 (Enc.int .u64) (z9.v) d10, Asr.onn 95 41 (Enc.int .u64) (z12.v) (List.set z38 (Int.toNat d39) z50) d54]) (F52.spec _ hc65) rfl Try.func52 rfl rfl rfl [] [0, 1] rfl rfl rfl trivial) rfl rfl rfl ?_
              rintro _ _ ⟨_, ⟨rfl, rfl⟩, rfl⟩
              refine ⟨fun _ => ⟨[0, 1], rfl, rfl⟩, ?_⟩
              obtain ⟨h66, hm⟩ := guard_inv hm
              refine JT.only (i := 6) (d := some 67) rfl (MV.ofQV (v := .pointer (some (elA ((gd (List.set z38 (Int.toNat d39) z50) d39).v) (Int.toNat d55 * ((Enc.int .u64)).sz)))) (QV.indexA (Rdg.ofDrv (Drv.el (K := (NE.sl (Enc.int .u64))) (A := Asr.vw (Enc.int .u64) ((gd (List.set z38 (Int.toNat d39) z50) d39).v) (gd d54 d39)) (Drv.onn 1 rfl) h63 (fun _ _ q => q))) Try.underlying95 tk_41 rfl rfl h66)) rfl rfl rfl ?_
              rintro _ _ ⟨rfl, rfl⟩
              refine ⟨fun _ => ⟨[0, 1], rfl, rfl⟩, ?_⟩
              refine JT.only (i := 7) (d := none) rfl (MV.storeNn 1 (18446744073709551615 : Int) rfl h63 tk_41 rfl rfl h66 rfl) rfl rfl rfl ?_
              rintro _ _ ⟨rfl, rfl⟩
              refine ⟨fun h => absurd h (by decide), ?_⟩
              refine JT.nil ?_
              refine QJ.then_normal ?_
              refine JC.seq ?_
              refine JC.region ?_
              refine JL.val (v := .int .i64 ((y5).length : Int)) (QV.move rfl) rfl rfl rfl ?_
              refine JL.val (v := .int .i64 d39) (QV.move rfl) rfl rfl rfl ?_
              refine JL.val (v := .int .i64 (IntKind.wrap .i64 (((y5).length : Int) - d39))) (QV.sub rfl rfl) rfl rfl rfl ?_
              refine JL.val (v := .int .i64 d55) (QV.move rfl) rfl rfl rfl ?_
              refine JL.val (v := .bool (decide ((IntKind.wrap .i64 (((y5).length : Int) - d39)) = d55))) (QV.eql rfl rfl) rfl rfl rfl ?_
              refine JL.nil ?_
              refine QJ.then_normal ?_
              refine JC.cutK (Y := (List (List Int)) × Unit) (fun y => match y with | (d67, _) => F26.j6 d55 (d67) = some s61) (fun y => match y with | (d67, _) => [(1, .int .i64 x3), (6, .int .i64 ((y5).length : Int)), (7, z9.v), (9, z12.v), (10, .int .i64 d39), (43, .int .i64 (((List.replicate (Int.toNat (IntKind.wrap .i64 (((y5).length : Int) + (1 : Int)))) ([] : (List Int)))).length : Int)), (44, .int .i64 d39), (57, .int .i64 (((gd (List.set d37 (Int.toNat d39) (List.replicate (Int.toNat (IntKind.wrap .i64 (((y5).length : Int) + (1 : Int)))) (0 : Int))) d39)).length : Int)), (58, .int .i64 d55)]) (fun y => match y with | (d67, _) => [Asr.of 41 (Enc.int .u64) (z9.v) d10, Asr.onn 95 41 (Enc.int .u64) (z12.v) (List.set z38 (Int.toNat d39) z50) d67]) ?_ ?_
              ·
                rintro ⟨d67, ⟨⟩⟩ hm
                unfold F26.j6 at hm
                show QJ _ _ [(1, .int .i64 x3), (6, .int .i64 ((y5).length : Int)), (7, z9.v), (9, z12.v), (10, .int .i64 d39), (43, .int .i64 (((List.replicate (Int.toNat (IntKind.wrap .i64 (((y5).length : Int) + (1 : Int)))) ([] : (List Int)))).length : Int)), (44, .int .i64 d39), (57, .int .i64 (((gd (List.set d37 (Int.toNat d39) (List.replicate (Int.toNat (IntKind.wrap .i64 (((y5).length : Int) + (1 : Int)))) (0 : Int))) d39)).length : Int)), (58, .int .i64 d55)] [Asr.of 41 (Enc.int .u64) (z9.v) d10, Asr.onn 95 41 (Enc.int .u64) (z12.v) (List.set z38 (Int.toNat d39) z50) d67] _ _
                refine QJ.block_normal ?_
                refine QJ.then_normal ?_
                refine JC.region ?_
                refine JL.val (v := .int .i64 (IntKind.wrap .i64 (d55 + (1 : Int)))) (QV.add rfl rfl) rfl rfl rfl ?_
                refine JL.val (v := .int .i64 (IntKind.wrap .i64 (d55 + (1 : Int)))) (QV.move rfl) rfl rfl rfl ?_
                refine JL.nil ?_
                obtain rfl := Option.some.inj hm
                exact QJ.round_on (d67, (IntKind.wrap .i64 (d55 + (1 : Int)))) () [0, 1] (by exact ⟨rfl, rfl, rfl, rfl, rfl, rfl, rfl, rfl, rfl, trivial⟩) rfl rfl
              ·
                rcases ite_inv hm with ⟨h68, hm⟩ | ⟨h68, hm⟩
                ·
                  refine JC.condT' rfl (decide_eq_true h68) ?_
                  refine JC.region ?_
                  refine JL.val (v := z12.v) (QV.move rfl) rfl rfl rfl ?_
                  refine JL.val (v := .int .i64 d39) (QV.move rfl) rfl rfl rfl ?_
                  obtain ⟨h69, hm⟩ := guard_inv hm
                  refine JL.val (v := .pointer (some (elA (z12.v) (Int.toNat d39 * ((NE.sl (Enc.int .u64)).E).sz)))) (QV.indexN (RdN.onn 1 rfl) Try.underlying97 tk_95 rfl rfl h69) rfl rfl rfl ?_
                  refine JL.val (v := (gd (List.set z38 (Int.toNat d39) z50) d39).v) (QV.el1N (RdN.onn 1 rfl) tk_95 rfl h69 rfl) rfl rfl rfl ?_
                  refine JL.val (v := .int .i64 d55) (QV.move rfl) rfl rfl rfl ?_
                  obtain ⟨h70, hm⟩ := guard_inv hm
                  refine JL.val (v := .pointer (some (elA ((gd (List.set z38 (Int.toNat d39) z50) d39).v) (Int.toNat d55 * ((Enc.int .u64)).sz)))) (QV.indexA (Rdg.ofDrv (Drv.el (K := (NE.sl (Enc.int .u64))) (A := Asr.vw (Enc.int .u64) ((gd (List.set z38 (Int.toNat d39) z50) d39).v) (gd (List.set d54 (Int.toNat d39) (List.set (gd d54 d39) (Int.toNat d55) (18446744073709551615 : Int))) d39)) (Drv.onn 1 rfl) h69 (fun _ _ q => q))) Try.underlying95 tk_41 rfl rfl h70) rfl rfl rfl ?_
                  refine JL.mv (d := none) (MV.storeNn 1 (0 : Int) rfl h69 tk_41 rfl rfl h70 rfl) rfl rfl rfl ?_
                  rintro _ _ ⟨rfl, rfl⟩
                  refine JL.nil ?_
                  exact QJ.cut_normal ((List.set (List.set d54 (Int.toNat d39) (List.set (gd d54 d39) (Int.toNat d55) (18446744073709551615 : Int))) (Int.toNat d39) (List.set (gd (List.set d54 (Int.toNat d39) (List.set (gd d54 d39) (Int.toNat d55) (18446744073709551615 : Int))) d39) (Int.toNat d55) (0 : Int))), ()) hm [0, 1] (by exact ⟨rfl, rfl, rfl, rfl, rfl, rfl, rfl, rfl, rfl, trivial⟩) rfl rfl
                ·
                  refine JC.condF' rfl (decide_eq_false h68) ?_
                  refine JC.skip ?_
                  exact QJ.cut_normal ((List.set d54 (Int.toNat d39) (List.set (gd d54 d39) (Int.toNat d55) (18446744073709551615 : Int))), ()) hm [0, 1] (by exact ⟨rfl, rfl, rfl, rfl, rfl, rfl, rfl, rfl, rfl, trivial⟩) rfl rfl
            ·
              refine JC.condF' rfl (decide_eq_false h62) ?_
              refine JC.exit ?_
              refine QJ.then_exit ?_
              obtain rfl := Option.some.inj hm
              refine QJ.round_exit (fun hy => ?_)
              subst hy
              refine QJ.block_hit ?_
              exact QJ.cut_normal (d54, ()) hmo60 [0, 1] (by exact ⟨rfl, rfl, rfl, rfl, rfl, rfl, trivial⟩) rfl rfl
      ·
        refine JC.condF' rfl (decide_eq_false h47) ?_
        refine JC.exit ?_
        refine QJ.then_exit ?_
        obtain rfl := Option.some.inj hm
        refine QJ.round_exit (fun hy => ?_)
        subst hy
        refine QJ.block_hit ?_
        exact QJ.cut_normal (d37, z38) hmo45 [0, 1] (by exact ⟨rfl, rfl, rfl, rfl, trivial⟩) rfl rfl
  ·
    refine JC.block ?_
    obtain ⟨y75, hl76, hmo77⟩ := bind_inv hm
    refine JC.loop (F26.b4 y5) (fun x z => match x, z with | (d71, d72), _ => [(1, .int .i64 x3), (5, z7.v), (6, .int .i64 ((y5).length : Int)), (7, z9.v), (8, .int .i64 d72)]) (fun x z => match x, z with | (d71, d72), _ => [Asr.of 41 (Enc.int .u64) (z7.v) y5, Asr.of 41 (Enc.int .u64) (z9.v) d71]) ((List.replicate (Int.toNat (IntKind.wrap .i64 (((y5).length : Int) + (1 : Int)))) (0 : Int)), (IntKind.wrap .i64 (((y5).length : Int) - (1 : Int)))) () y75 hl76 [1, 0] (by exact ⟨rfl, rfl, rfl, rfl, rfl, trivial⟩) rfl rfl ?_
    rintro ⟨d71, d72⟩ ⟨⟩ s78 hm
    unfold F26.b4 at hm
    dsimp only at hm
    show JC _ _ _ [(1, .int .i64 x3), (5, z7.v), (6, .int .i64 ((y5).length : Int)), (7, z9.v), (8, .int .i64 d72)] [Asr.of 41 (Enc.int .u64) (z7.v) y5, Asr.of 41 (Enc.int .u64) (z9.v) d71] _ _
    refine JC.seq ?_
    refine JC.seq ?_
    refine JC.region ?_
    refine JL.val (v := .int .i64 d72) (QV.move rfl) rfl rfl rfl ?_
    refine JL.val (v := .bool (decide ((0 : Int) ≤ d72))) (QV.geq rfl rfl) rfl rfl rfl ?_
    refine JL.nil ?_
    refine QJ.then_normal ?_
    rcases ite_inv hm with ⟨h79, hm⟩ | ⟨h79, hm⟩
    ·
      refine JC.condT' rfl (decide_eq_true h79) ?_
      refine JC.skip ?_
      refine QJ.then_normal ?_
      refine JC.seq ?_
      refine JC.block ?_
      refine JC.regionT [Asr.of 41 (Enc.int .u64) (z7.v) y5, Asr.of 41 (Enc.int .u64) (z9.v) d71] (fun t => Nat.beq t 13) [(0, true), (1, true), (2, true), (3, true), (4, true), (5, true), (6, true), (7, true), (8, false), (9, false), (10, false), (11, false), (12, false), (13, false)] (by kernel_rfl) (by kernel_rfl) (by kernel_rfl) rfl (fun hsel => ?_)
      refine JT.take (i := 0) (v := z9.v) hsel rfl (QV.move rfl) rfl rfl rfl rfl [0, 1] rfl rfl ?_
      refine JT.take (i := 1) (v := .int .i64 d72) hsel rfl (QV.move rfl) rfl rfl rfl rfl [0, 1] rfl rfl ?_
      refine JT.take (i := 2) (v := z9.v) hsel rfl (QV.move rfl) rfl rfl rfl rfl [0, 1] rfl rfl ?_
      refine JT.take (i := 3) (v := .int .i64 d72) hsel rfl (QV.move rfl) rfl rfl rfl rfl [0, 1] rfl rfl ?_
      refine JT.take (i := 4) (v := .int .i64 (IntKind.wrap .i64 (d72 + (1 : Int)))) hsel rfl (QV.add rfl rfl) rfl rfl rfl rfl [0, 1] rfl rfl ?_
      obtain ⟨h80, hm⟩ := guard_inv hm
      refine JT.take (i := 5) (v := .pointer (some (elA (z9.v) (Int.toNat (IntKind.wrap .i64 (d72 + (1 : Int))) * ((Enc.int .u64)).sz)))) hsel rfl (QV.indexA (Rdg.of 1 rfl) Try.underlying95 tk_41 rfl rfl h80) rfl rfl rfl rfl [0, 1] rfl rfl ?_
      refine JT.take (i := 6) (v := .int .u64 (gd d71 (IntKind.wrap .i64 (d72 + (1 : Int))))) hsel rfl (QV.el1 (Rdg.of 1 rfl) tk_41 rfl h80 rfl) rfl rfl rfl rfl [0, 1] rfl rfl ?_
      refine JT.take (i := 7) (v := z7.v) hsel rfl (QV.move rfl) rfl rfl rfl rfl [0, 1] rfl rfl ?_
      refine JT.only (i := 8) (d := some 34) rfl (MV.ofQV (v := .int .i64 d72) (QV.move rfl)) rfl rfl rfl ?_
      rintro _ _ ⟨rfl, rfl⟩
      refine ⟨fun _ => ⟨[0, 1], rfl, rfl⟩, ?_⟩
      obtain ⟨h81, hm⟩ := guard_inv hm
      refine JT.only (i := 9) (d := some 35) rfl (MV.ofQV (v := .pointer (some (elA (z7.v) (Int.toNat d72 * ((Enc.int .u64)).sz)))) (QV.indexA (Rdg.of 0 rfl) Try.underlying95 tk_41 rfl rfl h81)) rfl rfl rfl ?_
      rintro _ _ ⟨rfl, rfl⟩
      refine ⟨fun _ => ⟨[0, 1], rfl, rfl⟩, ?_⟩
      refine JT.only (i := 10) (d := some 36) rfl (MV.ofQV (v := .int .u64 (gd y5 d72)) (QV.el1 (Rdg.of 0 rfl) tk_41 rfl h81 rfl)) rfl rfl rfl ?_
      rintro _ _ ⟨rfl, rfl⟩
      refine ⟨fun _ => ⟨[0, 1], rfl, rfl⟩, ?_⟩
      refine JT.only (i := 11) (d := some 37) rfl (MV.ofQV (v := .int .u64 (IntKind.wrap .u64 ((gd d71 (IntKind.wrap .i64 (d72 + (1 : Int)))) + (gd y5 d72)))) (QV.add rfl rfl)) rfl rfl rfl ?_
      rintro _ _ ⟨rfl, rfl⟩
      refine ⟨fun _ => ⟨[0, 1], rfl, rfl⟩, ?_⟩
      obtain ⟨h82, hm⟩ := guard_inv hm
      refine JT.only (i := 12) (d := some 38) rfl (MV.ofQV (v := .pointer (some (elA (z9.v) (Int.toNat d72 * ((Enc.int .u64)).sz)))) (QV.indexA (Rdg.of 1 rfl) Try.underlying95 tk_41 rfl rfl h82)) rfl rfl rfl ?_
      rintro _ _ ⟨rfl, rfl⟩
      refine ⟨fun _ => ⟨[0, 1], rfl, rfl⟩, ?_⟩
      refine JT.only (i := 13) (d := none) rfl (MV.storeEl 1 (IntKind.wrap .u64 ((gd d71 (IntKind.wrap .i64 (d72 + (1 : Int)))) + (gd y5 d72))) rfl tk_41 rfl rfl h82 rfl) rfl rfl rfl ?_
      rintro _ _ ⟨rfl, rfl⟩
      refine ⟨fun h => absurd h (by decide), ?_⟩
      refine JT.nil ?_
      refine QJ.block_normal ?_
      refine QJ.then_normal ?_
      refine JC.region ?_
      refine JL.val (v := .int .i64 d72) (QV.move rfl) rfl rfl rfl ?_
      refine JL.val (v := .int .i64 (IntKind.wrap .i64 (d72 - (1 : Int)))) (QV.sub rfl rfl) rfl rfl rfl ?_
      refine JL.val (v := .int .i64 (IntKind.wrap .i64 (d72 - (1 : Int)))) (QV.assign rfl) rfl rfl rfl ?_
      refine JL.nil ?_
      obtain rfl := Option.some.inj hm
      exact QJ.round_on ((List.set d71 (Int.toNat d72) (IntKind.wrap .u64 ((gd d71 (IntKind.wrap .i64 (d72 + (1 : Int)))) + (gd y5 d72)))), (IntKind.wrap .i64 (d72 - (1 : Int)))) () [0, 1] (by exact ⟨rfl, rfl, rfl, rfl, rfl, trivial⟩) rfl rfl
    ·
      refine JC.condF' rfl (decide_eq_false h79) ?_
      refine JC.exit ?_
      refine QJ.then_exit ?_
      obtain rfl := Option.some.inj hm
      refine QJ.round_exit (fun hy => ?_)
      subst hy
      refine QJ.block_hit ?_
      exact QJ.cut_normal (d71, ()) hmo77 [1] (by exact ⟨rfl, rfl, rfl, trivial⟩) rfl rfl

/-! ### 7: drogher/drogherlaw10.LimitLeast -/
noncomputable def F7.m (x2 : List Int) (x3 : Int) : Option Bool :=
  ((F22.m (x2)).bind fun y5 => (if (40 : Int) < ((x2).length : Int) then ((F19.m).bind fun y8 => some y8) else (if x3 < (1 : Int) then ((F19.m).bind fun y11 => some y11) else (if (15 : Int) < x3 then ((F19.m).bind fun y14 => some y14) else ((F21.m (y5) (x3)).bind fun y16 => (if y16 = true then (if y5 < (2 : Int) then ((F19.m).bind fun y20 => some y20) else ((F20.m (x2) (x3)).bind fun y22 => (if y22.2 = (0 : Int) then ((F25.m (x2) (y22.1)).bind fun y26 => ((F26.m (x2) (x3)).bind fun y28 => (if y26 = y28 then ((F19.m).bind fun y31 => some y31) else some false))) else some false))) else ((F19.m).bind fun y33 => some y33)))))))
set_option maxRecDepth 100000 in
set_option maxHeartbeats 4000000 in
theorem F7.spec (s1 : SlV) (x2 : List Int) (x3 : Int) (r : Bool) (hm : F7.m x2 x3 = some r) :
    Ctr Try.prog false 7 [s1.v, .int .i64 x3] [Asr.vw (Enc.int .u32) (s1.v) x2] (fun v L' => v = .bool r ∧ L' = []) := by
  refine Ctr.intro (n := 52) (env := [(0, s1.v), (1, .int .i64 x3)]) Try.func7 rfl rfl rfl rfl (fun c => ?_)
  unfold F7.m at hm
  refine JC.seq ?_
  refine JC.region ?_
  refine JL.val (v := .bool false) (QV.assign rfl) rfl rfl rfl ?_
  refine JL.nil ?_
  refine QJ.then_normal ?_
  refine JC.seq ?_
  refine JC.region ?_
  refine JL.val (v := s1.v) (QV.move rfl) rfl rfl rfl ?_
  obtain ⟨y5, hc6, hm⟩ := bind_inv hm
  refine JL.mv (d := some 9) (MV.call (Lo := []) (Lr := [Asr.vw (Enc.int .u32) (s1.v) x2]) (F22.spec (s1) (x2) _ hc6) rfl Try.func22 rfl rfl rfl [] [0] rfl rfl rfl ⟨(Drv.vw 0 rfl), trivial⟩) rfl rfl rfl ?_
  rintro _ _ ⟨_, ⟨rfl, rfl⟩, rfl⟩
  refine JL.val (v := .int .i64 y5) (QV.assign rfl) rfl rfl rfl ?_
  refine JL.nil ?_
  refine QJ.then_normal ?_
  refine JC.seq ?_
  refine JC.seq ?_
  refine JC.region ?_
  refine JL.val (v := s1.v) (QV.move rfl) rfl rfl rfl ?_
  refine JL.val (v := .int .i64 ((x2).length : Int)) (QV.len (Rdg.vw 0 rfl) Try.underlying33 rfl) rfl rfl rfl ?_
  refine JL.val (v := .bool (decide ((40 : Int) < ((x2).length : Int)))) (QV.gtr rfl rfl) rfl rfl rfl ?_
  rcases ite_inv hm with ⟨h7, hm⟩ | ⟨h7, hm⟩
  ·
    refine JL.val (v := .bool true) (QV.eq (QV.move rfl) (congrArg Value.bool (decide_eq_true h7))) rfl rfl rfl ?_
    refine JL.skip (d := some 14) rfl rfl rfl ?_
    refine JL.skip (d := some 15) rfl rfl rfl ?_
    refine JL.val (v := .bool true) (QV.pickT rfl rfl) rfl rfl rfl ?_
    refine JL.val (v := .bool true) (QV.move rfl) rfl rfl rfl ?_
    refine JL.skip (d := some 18) rfl rfl rfl ?_
    refine JL.skip (d := some 19) rfl rfl rfl ?_
    refine JL.val (v := .bool true) (QV.pickT rfl rfl) rfl rfl rfl ?_
    refine JL.val (v := .bool true) (QV.move rfl) rfl rfl rfl ?_
    refine JL.skip (d := some 22) rfl rfl rfl ?_
    refine JL.skip (d := some 23) rfl rfl rfl ?_
    refine JL.skip (d := some 24) rfl rfl rfl ?_
    refine JL.skip (d := some 25) rfl rfl rfl ?_
    refine JL.val (v := .bool true) (QV.pickT rfl rfl) rfl rfl rfl ?_
    refine JL.val (v := .bool true) (QV.move rfl) rfl rfl rfl ?_
    refine JL.skip (d := some 28) rfl rfl rfl ?_
    refine JL.skip (d := some 29) rfl rfl rfl ?_
    refine JL.val (v := .bool true) (QV.pickT rfl rfl) rfl rfl rfl ?_
    refine JL.nil ?_
    refine QJ.then_normal ?_
    refine JC.condT rfl ?_
    refine JC.seq ?_
    refine JC.region ?_
    obtain ⟨y8, hc9, hm⟩ := bind_inv hm
    refine JL.mv (d := some 31) (MV.call (Lo := []) (Lr := [Asr.vw (Enc.int .u32) (s1.v) x2]) (F19.spec _ hc9) rfl Try.func19 rfl rfl rfl [] [0] rfl rfl rfl trivial) rfl rfl rfl ?_
    rintro _ _ ⟨_, ⟨rfl, rfl⟩, rfl⟩
    refine JL.val (v := .bool y8) (QV.assign rfl) rfl rfl rfl ?_
    refine JL.nil ?_
    refine QJ.then_normal ?_
    refine JC.ret ?_
    refine QJ.then_ret ?_
    obtain rfl := Option.some.inj hm
    exact QJ.body (vs := [.bool y8]) (.inl rfl) rfl (ResVs.cons (ResV.tmp rfl) ResVs.nil) [] rfl rfl (.inr trivial) ⟨rfl, rfl⟩
  ·
    refine JL.val (v := .bool false) (QV.eq (QV.move rfl) (congrArg Value.bool (decide_eq_false h7))) rfl rfl rfl ?_
    refine JL.val (v := .int .i64 x3) (QV.move rfl) rfl rfl rfl ?_
    refine JL.val (v := .bool (decide (x3 < (1 : Int)))) (QV.lss rfl rfl) rfl rfl rfl ?_
    refine JL.val (v := .bool (decide (x3 < (1 : Int)))) (QV.pickF rfl rfl) rfl rfl rfl ?_
    rcases ite_inv hm with ⟨h10, hm⟩ | ⟨h10, hm⟩
    ·
      refine JL.val (v := .bool true) (QV.eq (QV.move rfl) (congrArg Value.bool (decide_eq_true h10))) rfl rfl rfl ?_
      refine JL.skip (d := some 18) rfl rfl rfl ?_
      refine JL.skip (d := some 19) rfl rfl rfl ?_
      refine JL.val (v := .bool true) (QV.pickT rfl rfl) rfl rfl rfl ?_
      refine JL.val (v := .bool true) (QV.move rfl) rfl rfl rfl ?_
      refine JL.skip (d := some 22) rfl rfl rfl ?_
      refine JL.skip (d := some 23) rfl rfl rfl ?_
      refine JL.skip (d := some 24) rfl rfl rfl ?_
      refine JL.skip (d := some 25) rfl rfl rfl ?_
      refine JL.val (v := .bool true) (QV.pickT rfl rfl) rfl rfl rfl ?_
      refine JL.val (v := .bool true) (QV.move rfl) rfl rfl rfl ?_
      refine JL.skip (d := some 28) rfl rfl rfl ?_
      refine JL.skip (d := some 29) rfl rfl rfl ?_
      refine JL.val (v := .bool true) (QV.pickT rfl rfl) rfl rfl rfl ?_
      refine JL.nil ?_
      refine QJ.then_normal ?_
      refine JC.condT rfl ?_
      refine JC.seq ?_
      refine JC.region ?_
      obtain ⟨y11, hc12, hm⟩ := bind_inv hm
      refine JL.mv (d := some 31) (MV.call (Lo := []) (Lr := [Asr.vw (Enc.int .u32) (s1.v) x2]) (F19.spec _ hc12) rfl Try.func19 rfl rfl rfl [] [0] rfl rfl rfl trivial) rfl rfl rfl ?_
      rintro _ _ ⟨_, ⟨rfl, rfl⟩, rfl⟩
      refine JL.val (v := .bool y11) (QV.assign rfl) rfl rfl rfl ?_
      refine JL.nil ?_
      refine QJ.then_normal ?_
      refine JC.ret ?_
      refine QJ.then_ret ?_
      obtain rfl := Option.some.inj hm
      exact QJ.body (vs := [.bool y11]) (.inl rfl) rfl (ResVs.cons (ResV.tmp rfl) ResVs.nil) [] rfl rfl (.inr trivial) ⟨rfl, rfl⟩
    ·
      refine JL.val (v := .bool false) (QV.eq (QV.move rfl) (congrArg Value.bool (decide_eq_false h10))) rfl rfl rfl ?_
      refine JL.val (v := .int .i64 x3) (QV.move rfl) rfl rfl rfl ?_
      refine JL.val (v := .bool (decide ((15 : Int) < x3))) (QV.gtr rfl rfl) rfl rfl rfl ?_
      refine JL.val (v := .bool (decide ((15 : Int) < x3))) (QV.pickF rfl rfl) rfl rfl rfl ?_
      rcases ite_inv hm with ⟨h13, hm⟩ | ⟨h13, hm⟩
      ·
        refine JL.val (v := .bool true) (QV.eq (QV.move rfl) (congrArg Value.bool (decide_eq_true h13))) rfl rfl rfl ?_
        refine JL.skip (d := some 22) rfl rfl rfl ?_
        refine JL.skip (d := some 23) rfl rfl rfl ?_
        refine JL.skip (d := some 24) rfl rfl rfl ?_
        refine JL.skip (d := some 25) rfl rfl rfl ?_
        refine JL.val (v := .bool true) (QV.pickT rfl rfl) rfl rfl rfl ?_
        refine JL.val (v := .bool true) (QV.move rfl) rfl rfl rfl ?_
        refine JL.skip (d := some 28) rfl rfl rfl ?_
        refine JL.skip (d := some 29) rfl rfl rfl ?_
        refine JL.val (v := .bool true) (QV.pickT rfl rfl) rfl rfl rfl ?_
        refine JL.nil ?_
        refine QJ.then_normal ?_
        refine JC.condT rfl ?_
        refine JC.seq ?_
        refine JC.region ?_
        obtain ⟨y14, hc15, hm⟩ := bind_inv hm
        refine JL.mv (d := some 31) (MV.call (Lo := []) (Lr := [Asr.vw (Enc.int .u32) (s1.v) x2]) (F19.spec _ hc15) rfl Try.func19 rfl rfl rfl [] [0] rfl rfl rfl trivial) rfl rfl rfl ?_
        rintro _ _ ⟨_, ⟨rfl, rfl⟩, rfl⟩
        refine JL.val (v := .bool y14) (QV.assign rfl) rfl rfl rfl ?_
        refine JL.nil ?_
        refine QJ.then_normal ?_
        refine JC.ret ?_
        refine QJ.then_ret ?_
        obtain rfl := Option.some.inj hm
        exact QJ.body (vs := [.bool y14]) (.inl rfl) rfl (ResVs.cons (ResV.tmp rfl) ResVs.nil) [] rfl rfl (.inr trivial) ⟨rfl, rfl⟩
      ·
        refine JL.val (v := .bool false) (QV.eq (QV.move rfl) (congrArg Value.bool (decide_eq_false h13))) rfl rfl rfl ?_
        refine JL.val (v := .int .i64 y5) (QV.move rfl) rfl rfl rfl ?_
        refine JL.val (v := .int .i64 x3) (QV.move rfl) rfl rfl rfl ?_
        obtain ⟨y16, hc17, hm⟩ := bind_inv hm
        refine JL.mv (d := some 24) (MV.call (Lo := []) (Lr := [Asr.vw (Enc.int .u32) (s1.v) x2]) (F21.spec (y5) (x3) _ hc17) rfl Try.func21 rfl rfl rfl [] [0] rfl rfl rfl trivial) rfl rfl rfl ?_
        rintro _ _ ⟨_, ⟨rfl, rfl⟩, rfl⟩
        refine JL.val (v := .bool (!y16)) (QV.not rfl) rfl rfl rfl ?_
        refine JL.val (v := .bool (!y16)) (QV.pickF rfl rfl) rfl rfl rfl ?_
        rcases ite_inv hm with ⟨h18, hm⟩ | ⟨h18, hm⟩
        ·
          refine JL.val (v := .bool false) (QV.eq (QV.move rfl) (congrArg Value.bool (congrArg Bool.not h18))) rfl rfl rfl ?_
          refine JL.val (v := .int .i64 y5) (QV.move rfl) rfl rfl rfl ?_
          refine JL.val (v := .bool (decide (y5 < (2 : Int)))) (QV.lss rfl rfl) rfl rfl rfl ?_
          refine JL.val (v := .bool (decide (y5 < (2 : Int)))) (QV.pickF rfl rfl) rfl rfl rfl ?_
          refine JL.nil ?_
          refine QJ.then_normal ?_
          rcases ite_inv hm with ⟨h19, hm⟩ | ⟨h19, hm⟩
          ·
            refine JC.condT' rfl (decide_eq_true h19) ?_
            refine JC.seq ?_
            refine JC.region ?_
            obtain ⟨y20, hc21, hm⟩ := bind_inv hm
            refine JL.mv (d := some 31) (MV.call (Lo := []) (Lr := [Asr.vw (Enc.int .u32) (s1.v) x2]) (F19.spec _ hc21) rfl Try.func19 rfl rfl rfl [] [0] rfl rfl rfl trivial) rfl rfl rfl ?_
            rintro _ _ ⟨_, ⟨rfl, rfl⟩, rfl⟩
            refine JL.val (v := .bool y20) (QV.assign rfl) rfl rfl rfl ?_
            refine JL.nil ?_
            refine QJ.then_normal ?_
            refine JC.ret ?_
            refine QJ.then_ret ?_
            obtain rfl := Option.some.inj hm
            exact QJ.body (vs := [.bool y20]) (.inl rfl) rfl (ResVs.cons (ResV.tmp rfl) ResVs.nil) [] rfl rfl (.inr trivial) ⟨rfl, rfl⟩
          ·
            refine JC.condF' rfl (decide_eq_false h19) ?_
            refine JC.skip ?_
            refine QJ.then_normal ?_
            refine JC.seq ?_
            refine JC.region ?_
            refine JL.val (v := s1.v) (QV.move rfl) rfl rfl rfl ?_
            refine JL.val (v := .int .i64 x3) (QV.move rfl) rfl rfl rfl ?_
            obtain ⟨y22, hc23, hm⟩ := bind_inv hm
            refine JL.mv (d := some 35) (MV.call (Lo := []) (Lr := [Asr.vw (Enc.int .u32) (s1.v) x2]) (F20.spec (s1) (x2) (x3) _ hc23) rfl Try.func20 rfl rfl rfl [] [0] rfl rfl rfl ⟨(Drv.vw 0 rfl), trivial⟩) rfl rfl rfl ?_
            rintro _ _ ⟨_, ⟨z24, rfl, rfl⟩, rfl⟩
            refine JL.val (v := .tuple #[z24.v, .int .i64 y22.2]) (QV.move rfl) rfl rfl rfl ?_
            refine JL.val (v := z24.v) (QV.extract (vs := [z24.v, .int .i64 y22.2]) rfl rfl) rfl rfl rfl ?_
            refine JL.val (v := .int .i64 y22.2) (QV.extract (vs := [z24.v, .int .i64 y22.2]) rfl rfl) rfl rfl rfl ?_
            refine JL.val (v := z24.v) (QV.assign rfl) rfl rfl rfl ?_
            refine JL.val (v := .int .i64 y22.2) (QV.assign rfl) rfl rfl rfl ?_
            refine JL.nil ?_
            refine QJ.then_normal ?_
            refine JC.seq ?_
            refine JC.region ?_
            refine JL.val (v := .int .i64 y22.2) (QV.move rfl) rfl rfl rfl ?_
            refine JL.val (v := .bool (decide (y22.2 = (0 : Int)))) (QV.eql rfl rfl) rfl rfl rfl ?_
            rcases ite_inv hm with ⟨h25, hm⟩ | ⟨h25, hm⟩
            ·
              refine JL.val (v := .bool true) (QV.eq (QV.move rfl) (congrArg Value.bool (decide_eq_true h25))) rfl rfl rfl ?_
              refine JL.val (v := s1.v) (QV.move rfl) rfl rfl rfl ?_
              refine JL.val (v := z24.v) (QV.move rfl) rfl rfl rfl ?_
              obtain ⟨y26, hc27, hm⟩ := bind_inv hm
              refine JL.mv (d := some 43) (MV.call (Lo := []) (Lr := [Asr.of 5 (Enc.int .u8) (z24.v) y22.1, Asr.vw (Enc.int .u32) (s1.v) x2]) (F25.spec (s1) (z24) (x2) (y22.1) _ hc27) rfl Try.func25 rfl rfl rfl [] [0, 1] rfl rfl rfl ⟨(Drv.vw 1 rfl), ⟨(Drv.of 0 rfl), trivial⟩⟩) rfl rfl rfl ?_
              rintro _ _ ⟨_, ⟨rfl, rfl⟩, rfl⟩
              refine JL.val (v := s1.v) (QV.move rfl) rfl rfl rfl ?_
              refine JL.val (v := .int .i64 x3) (QV.move rfl) rfl rfl rfl ?_
              obtain ⟨y28, hc29, hm⟩ := bind_inv hm
              refine JL.mv (d := some 46) (MV.call (Lo := []) (Lr := [Asr.of 5 (Enc.int .u8) (z24.v) y22.1, Asr.vw (Enc.int .u32) (s1.v) x2]) (F26.spec (s1) (x2) (x3) _ hc29) rfl Try.func26 rfl rfl rfl [] [0, 1] rfl rfl rfl ⟨(Drv.vw 1 rfl), trivial⟩) rfl rfl rfl ?_
              rintro _ _ ⟨_, ⟨rfl, rfl⟩, rfl⟩
              refine JL.val (v := .bool (decide (y26 = y28))) (QV.eql rfl rfl) rfl rfl rfl ?_
              refine JL.val (v := .bool (decide (y26 = y28))) (QV.pickT rfl rfl) rfl rfl rfl ?_
              rcases ite_inv hm with ⟨h30, hm⟩ | ⟨h30, hm⟩
              ·
                refine JL.val (v := .bool true) (QV.eq (QV.move rfl) (congrArg Value.bool (decide_eq_true h30))) rfl rfl rfl ?_
                obtain ⟨y31, hc32, hm⟩ := bind_inv hm
                refine JL.mv (d := some 50) (MV.call (Lo := []) (Lr := [Asr.of 5 (Enc.int .u8) (z24.v) y22.1, Asr.vw (Enc.int .u32) (s1.v) x2]) (F19.spec _ hc32) rfl Try.func19 rfl rfl rfl [] [0, 1] rfl rfl rfl trivial) rfl rfl rfl ?_
                rintro _ _ ⟨_, ⟨rfl, rfl⟩, rfl⟩
                refine JL.val (v := .bool y31) (QV.pickT rfl rfl) rfl rfl rfl ?_
                refine JL.val (v := .bool y31) (QV.assign rfl) rfl rfl rfl ?_
                refine JL.nil ?_
                refine QJ.then_normal ?_
                refine JC.ret ?_
                obtain rfl := Option.some.inj hm
                exact QJ.body (vs := [.bool y31]) (.inl rfl) rfl (ResVs.cons (ResV.tmp rfl) ResVs.nil) [] rfl rfl (.inr trivial) ⟨rfl, rfl⟩
              ·
                refine JL.val (v := .bool false) (QV.eq (QV.move rfl) (congrArg Value.bool (decide_eq_false h30))) rfl rfl rfl ?_
                refine JL.skip (d := some 50) rfl rfl rfl ?_
                refine JL.val (v := .bool false) (QV.pickF rfl rfl) rfl rfl rfl ?_
                refine JL.val (v := .bool false) (QV.assign rfl) rfl rfl rfl ?_
                refine JL.nil ?_
                refine QJ.then_normal ?_
                refine JC.ret ?_
                obtain rfl := Option.some.inj hm
                exact QJ.body (vs := [.bool false]) (.inl rfl) rfl (ResVs.cons (ResV.tmp rfl) ResVs.nil) [] rfl rfl (.inr trivial) ⟨rfl, rfl⟩
            ·
              refine JL.val (v := .bool false) (QV.eq (QV.move rfl) (congrArg Value.bool (decide_eq_false h25))) rfl rfl rfl ?_
              refine JL.skip (d := some 41) rfl rfl rfl ?_
              refine JL.skip (d := some 42) rfl rfl rfl ?_
              refine JL.skip (d := some 43) rfl rfl rfl ?_
              refine JL.skip (d := some 44) rfl rfl rfl ?_
              refine JL.skip (d := some 45) rfl rfl rfl ?_
              refine JL.skip (d := some 46) rfl rfl rfl ?_
              refine JL.skip (d := some 47) rfl rfl rfl ?_
              refine JL.val (v := .bool false) (QV.pickF rfl rfl) rfl rfl rfl ?_
              refine JL.val (v := .bool false) (QV.move rfl) rfl rfl rfl ?_
              refine JL.skip (d := some 50) rfl rfl rfl ?_
              refine JL.val (v := .bool false) (QV.pickF rfl rfl) rfl rfl rfl ?_
              refine JL.val (v := .bool false) (QV.assign rfl) rfl rfl rfl ?_
              refine JL.nil ?_
              refine QJ.then_normal ?_
              refine JC.ret ?_
              obtain rfl := Option.some.inj hm
              exact QJ.body (vs := [.bool false]) (.inl rfl) rfl (ResVs.cons (ResV.tmp rfl) ResVs.nil) [] rfl rfl (.inr trivial) ⟨rfl, rfl⟩
        ·
          refine JL.val (v := .bool true) (QV.eq (QV.move rfl) (congrArg Value.bool (congrArg Bool.not (bfalse h18)))) rfl rfl rfl ?_
          refine JL.skip (d := some 28) rfl rfl rfl ?_
          refine JL.skip (d := some 29) rfl rfl rfl ?_
          refine JL.val (v := .bool true) (QV.pickT rfl rfl) rfl rfl rfl ?_
          refine JL.nil ?_
          refine QJ.then_normal ?_
          refine JC.condT rfl ?_
          refine JC.seq ?_
          refine JC.region ?_
          obtain ⟨y33, hc34, hm⟩ := bind_inv hm
          refine JL.mv (d := some 31) (MV.call (Lo := []) (Lr := [Asr.vw (Enc.int .u32) (s1.v) x2]) (F19.spec _ hc34) rfl Try.func19 rfl rfl rfl [] [0] rfl rfl rfl trivial) rfl rfl rfl ?_
          rintro _ _ ⟨_, ⟨rfl, rfl⟩, rfl⟩
          refine JL.val (v := .bool y33) (QV.assign rfl) rfl rfl rfl ?_
          refine JL.nil ?_
          refine QJ.then_normal ?_
          refine JC.ret ?_
          refine QJ.then_ret ?_
          obtain rfl := Option.some.inj hm
          exact QJ.body (vs := [.bool y33]) (.inl rfl) rfl (ResVs.cons (ResV.tmp rfl) ResVs.nil) [] rfl rfl (.inr trivial) ⟨rfl, rfl⟩

end Go.Proofs.Ytgganckggdjpaaa
