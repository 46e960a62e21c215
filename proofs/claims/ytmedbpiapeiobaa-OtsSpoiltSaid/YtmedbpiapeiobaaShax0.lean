/- Written by gen.py: functions and their contracts. -/
import Derived.Test.YtmedbpiapeiobaaShaFacts
namespace Go.Proofs.Ytmedbpiapeiobaa
open Go Go.Eng Go.Proofs
set_option linter.unusedVariables false
set_option linter.unusedSimpArgs false
/-! ### 34: drogher/sha.New -/
noncomputable def F34.m  : Option ((Arr Int 8) × (Arr Int 64)) :=
  some (K0, (Arr.rep 64 (0 : Int)))
set_option maxRecDepth 100000 in
set_option maxHeartbeats 4000000 in
theorem F34.spec  (r : ((Arr Int 8) × (Arr Int 64))) (hm : F34.m  = some r) :
    Ctr Try.prog false 34 [] [] (fun v L' => ∃ (g1 : Nat), v = .pointer (some ⟨g1, 0, none⟩) ∧ L' = [Asr.blk g1 105 [Seg.of (Enc.arr 8 (Enc.int .u32)) r.1, Seg.of (Enc.arr 64 (Enc.int .u8)) r.2, Seg.c (.int .i64 (0 : Int)), Seg.c (.int .u64 (0 : Int))]]) := by
  refine Ctr.intro (n := 4) (env := []) Try.func34 rfl rfl rfl rfl (fun c => ?_)
  unfold F34.m at hm
  refine JC.seq ?_
  refine JC.region ?_
  refine JL.val (v := .pointer none) (QV.assign rfl) rfl rfl rfl ?_
  refine JL.nil ?_
  refine QJ.then_normal ?_
  refine JC.seq ?_
  refine JC.region ?_
  refine JL.val (v := .agg (((Enc.arr 8 (Enc.int .u32))).enc K0).toArray) (QV.build (vals := [(0, .int .u32 (1779033703 : Int)), (1, .int .u32 (3144134277 : Int)), (2, .int .u32 (1013904242 : Int)), (3, .int .u32 (2773480762 : Int)), (4, .int .u32 (1359893119 : Int)), (5, .int .u32 (2600822924 : Int)), (6, .int .u32 (528734635 : Int)), (7, .int .u32 (1541459225 : Int))]) (cells := ((Enc.arr 8 (Enc.int .u32)).enc K0).toArray) rfl (by kernel_rfl)) rfl rfl rfl ?_
  refine JL.val (v := .agg (flat [Seg.of (Enc.arr 8 (Enc.int .u32)) K0, Seg.of (Enc.arr 64 (Enc.int .u8)) (Arr.rep 64 (0 : Int)), Seg.c (.int .i64 (0 : Int)), Seg.c (.int .u64 (0 : Int))]).toArray) (QV.build (vals := [(0, .agg (((Enc.arr 8 (Enc.int .u32))).enc K0).toArray)]) rfl (by kernel_rfl)) rfl rfl rfl ?_
  refine JL.mv (d := some 3) (MV.box [Seg.of (Enc.arr 8 (Enc.int .u32)) K0, Seg.of (Enc.arr 64 (Enc.int .u8)) (Arr.rep 64 (0 : Int)), Seg.c (.int .i64 (0 : Int)), Seg.c (.int .u64 (0 : Int))] rfl (fun w hs => rfl)) rfl rfl rfl ?_
  rintro _ _ ⟨b4, rfl, rfl⟩
  refine JL.val (v := .pointer (some ⟨b4, 0, none⟩)) (QV.assign rfl) rfl rfl rfl ?_
  refine JL.nil ?_
  refine QJ.then_normal ?_
  refine JC.ret ?_
  obtain rfl := Option.some.inj hm
  exact QJ.body (vs := [.pointer (some ⟨b4, 0, none⟩)]) (.inl rfl) rfl (ResVs.cons (ResV.tmp rfl) ResVs.nil) [0] rfl rfl (.inr ⟨own_blk _ _ _, trivial⟩) ⟨b4, rfl, rfl⟩

/-! ### 94: math/bits.RotateLeft32 -/
noncomputable def F94.m (x1 : Int) (x2 : Int) : Option Int :=
  (if 0 ≤ (andI .u64 (IntKind.wrap .u64 x2) (31 : Int)) then (if 0 ≤ (IntKind.wrap .u64 ((32 : Int) - (andI .u64 (IntKind.wrap .u64 x2) (31 : Int)))) then some (orI .u32 (shlI .u32 x1 (andI .u64 (IntKind.wrap .u64 x2) (31 : Int))) (shrI .u32 x1 (IntKind.wrap .u64 ((32 : Int) - (andI .u64 (IntKind.wrap .u64 x2) (31 : Int)))))) else none) else none)
set_option maxRecDepth 100000 in
set_option maxHeartbeats 4000000 in
theorem F94.spec (x1 : Int) (x2 : Int) (r : Int) (hm : F94.m x1 x2 = some r) :
    Ctr Try.prog false 94 [.int .u32 x1, .int .i64 x2] [] (fun v L' => v = .int .u32 r ∧ L' = []) := by
  refine Ctr.intro (n := 17) (env := [(0, .int .u32 x1), (1, .int .i64 x2)]) Try.func94 rfl rfl rfl rfl (fun c => ?_)
  unfold F94.m at hm
  refine JC.seq ?_
  refine JC.region ?_
  refine JL.val (v := .int .u32 (0 : Int)) (QV.assign rfl) rfl rfl rfl ?_
  refine JL.nil ?_
  refine QJ.then_normal ?_
  refine JC.seq ?_
  refine JC.region ?_
  refine JL.val (v := .int .i64 x2) (QV.move rfl) rfl rfl rfl ?_
  refine JL.val (v := .int .u64 (IntKind.wrap .u64 x2)) (QV.conv rfl (by rw [Try.underlying3]; rfl) Try.underlying95) rfl rfl rfl ?_
  refine JL.val (v := .int .u64 (andI .u64 (IntKind.wrap .u64 x2) (31 : Int))) (QV.and rfl rfl) rfl rfl rfl ?_
  refine JL.val (v := .int .u64 (andI .u64 (IntKind.wrap .u64 x2) (31 : Int))) (QV.assign rfl) rfl rfl rfl ?_
  refine JL.nil ?_
  refine QJ.then_normal ?_
  refine JC.seq ?_
  refine JC.region ?_
  refine JL.val (v := .int .u32 x1) (QV.move rfl) rfl rfl rfl ?_
  refine JL.val (v := .int .u64 (andI .u64 (IntKind.wrap .u64 x2) (31 : Int))) (QV.move rfl) rfl rfl rfl ?_
  obtain ⟨h4, hm⟩ := guard_inv hm
  refine JL.val (v := .int .u32 (shlI .u32 x1 (andI .u64 (IntKind.wrap .u64 x2) (31 : Int)))) (QV.shl rfl rfl h4) rfl rfl rfl ?_
  refine JL.val (v := .int .u32 x1) (QV.move rfl) rfl rfl rfl ?_
  refine JL.val (v := .int .u64 (andI .u64 (IntKind.wrap .u64 x2) (31 : Int))) (QV.move rfl) rfl rfl rfl ?_
  refine JL.val (v := .int .u64 (IntKind.wrap .u64 ((32 : Int) - (andI .u64 (IntKind.wrap .u64 x2) (31 : Int))))) (QV.sub rfl rfl) rfl rfl rfl ?_
  obtain ⟨h5, hm⟩ := guard_inv hm
  refine JL.val (v := .int .u32 (shrI .u32 x1 (IntKind.wrap .u64 ((32 : Int) - (andI .u64 (IntKind.wrap .u64 x2) (31 : Int)))))) (QV.shr rfl rfl h5) rfl rfl rfl ?_
  refine JL.val (v := .int .u32 (orI .u32 (shlI .u32 x1 (andI .u64 (IntKind.wrap .u64 x2) (31 : Int))) (shrI .u32 x1 (IntKind.wrap .u64 ((32 : Int) - (andI .u64 (IntKind.wrap .u64 x2) (31 : Int))))))) (QV.or rfl rfl) rfl rfl rfl ?_
  refine JL.val (v := .int .u32 (orI .u32 (shlI .u32 x1 (andI .u64 (IntKind.wrap .u64 x2) (31 : Int))) (shrI .u32 x1 (IntKind.wrap .u64 ((32 : Int) - (andI .u64 (IntKind.wrap .u64 x2) (31 : Int))))))) (QV.assign rfl) rfl rfl rfl ?_
  refine JL.nil ?_
  refine QJ.then_normal ?_
  refine JC.ret ?_
  obtain rfl := Option.some.inj hm
  exact QJ.body (vs := [.int .u32 (orI .u32 (shlI .u32 x1 (andI .u64 (IntKind.wrap .u64 x2) (31 : Int))) (shrI .u32 x1 (IntKind.wrap .u64 ((32 : Int) - (andI .u64 (IntKind.wrap .u64 x2) (31 : Int))))))]) (.inl rfl) rfl (ResVs.cons (ResV.tmp rfl) ResVs.nil) [] rfl rfl (.inr trivial) ⟨rfl, rfl⟩

/-! ### 93: drogher/sha.words -/
noncomputable def F93.j2  (d7 : (Arr Int 64)) : Option (Arr Int 64) :=
  some d7
noncomputable def F93.b1  : ((Arr Int 64) × Int) → Option (((Arr Int 64) × Int) ⊕ (Arr Int 64))
  | (d8, d9) => (if d9 < (64 : Int) then (if 0 ≤ (IntKind.wrap .i64 (d9 - (15 : Int))) ∧ (IntKind.wrap .i64 (d9 - (15 : Int))) < 64 then (if 0 ≤ (IntKind.wrap .i64 (d9 - (2 : Int))) ∧ (IntKind.wrap .i64 (d9 - (2 : Int))) < 64 then ((F94.m ((gd (d8).l (IntKind.wrap .i64 (d9 - (15 : Int))))) ((-7 : Int))).bind fun y19 => ((F94.m ((gd (d8).l (IntKind.wrap .i64 (d9 - (15 : Int))))) ((-18 : Int))).bind fun y21 => ((F94.m ((gd (d8).l (IntKind.wrap .i64 (d9 - (2 : Int))))) ((-17 : Int))).bind fun y23 => ((F94.m ((gd (d8).l (IntKind.wrap .i64 (d9 - (2 : Int))))) ((-19 : Int))).bind fun y25 => (if 0 ≤ (IntKind.wrap .i64 (d9 - (16 : Int))) ∧ (IntKind.wrap .i64 (d9 - (16 : Int))) < 64 then (if 0 ≤ (IntKind.wrap .i64 (d9 - (7 : Int))) ∧ (IntKind.wrap .i64 (d9 - (7 : Int))) < 64 then (if 0 ≤ d9 ∧ d9 < 64 then some (.inl ((Arr.set d8 d9 (IntKind.wrap .u32 ((IntKind.wrap .u32 ((IntKind.wrap .u32 ((gd (d8).l (IntKind.wrap .i64 (d9 - (16 : Int)))) + (xorI .u32 (xorI .u32 y19 y21) (shrI .u32 (gd (d8).l (IntKind.wrap .i64 (d9 - (15 : Int)))) (3 : Int))))) + (gd (d8).l (IntKind.wrap .i64 (d9 - (7 : Int)))))) + (xorI .u32 (xorI .u32 y23 y25) (shrI .u32 (gd (d8).l (IntKind.wrap .i64 (d9 - (2 : Int)))) (10 : Int)))))), (IntKind.wrap .i64 (d9 + (1 : Int))))) else none) else none) else none))))) else none) else none) else some (.inr d8))
noncomputable def F93.j1  (d6 : (Arr Int 64)) : Option (Arr Int 64) :=
  ((loop (F93.b1) (d6, (16 : Int))).bind fun y => match y with | d7 => F93.j2 (d7))
noncomputable def F93.b2 (x2 : List Int) : ((Arr Int 64) × Int) → Option (((Arr Int 64) × Int) ⊕ (Arr Int 64))
  | (d30, d31) => (if d31 < (16 : Int) then (if 0 ≤ (IntKind.wrap .i64 ((4 : Int) * d31)) ∧ (IntKind.wrap .i64 ((4 : Int) * d31)) < ((x2).length : Int) then (if 0 ≤ (IntKind.wrap .i64 ((IntKind.wrap .i64 ((4 : Int) * d31)) + (1 : Int))) ∧ (IntKind.wrap .i64 ((IntKind.wrap .i64 ((4 : Int) * d31)) + (1 : Int))) < ((x2).length : Int) then (if 0 ≤ (IntKind.wrap .i64 ((IntKind.wrap .i64 ((4 : Int) * d31)) + (2 : Int))) ∧ (IntKind.wrap .i64 ((IntKind.wrap .i64 ((4 : Int) * d31)) + (2 : Int))) < ((x2).length : Int) then (if 0 ≤ (IntKind.wrap .i64 ((IntKind.wrap .i64 ((4 : Int) * d31)) + (3 : Int))) ∧ (IntKind.wrap .i64 ((IntKind.wrap .i64 ((4 : Int) * d31)) + (3 : Int))) < ((x2).length : Int) then (if 0 ≤ d31 ∧ d31 < 64 then some (.inl ((Arr.set d30 d31 (orI .u32 (orI .u32 (orI .u32 (shlI .u32 (IntKind.wrap .u32 (gd x2 (IntKind.wrap .i64 ((4 : Int) * d31)))) (24 : Int)) (shlI .u32 (IntKind.wrap .u32 (gd x2 (IntKind.wrap .i64 ((IntKind.wrap .i64 ((4 : Int) * d31)) + (1 : Int))))) (16 : Int))) (shlI .u32 (IntKind.wrap .u32 (gd x2 (IntKind.wrap .i64 ((IntKind.wrap .i64 ((4 : Int) * d31)) + (2 : Int))))) (8 : Int))) (IntKind.wrap .u32 (gd x2 (IntKind.wrap .i64 ((IntKind.wrap .i64 ((4 : Int) * d31)) + (3 : Int))))))), (IntKind.wrap .i64 (d31 + (1 : Int))))) else none) else none) else none) else none) else none) else some (.inr d30))
noncomputable def F93.m (x2 : List Int) : Option (Arr Int 64) :=
  ((loop (F93.b2 x2) ((Arr.rep 64 (0 : Int)), (0 : Int))).bind fun y => match y with | d6 => F93.j1 (d6))
set_option maxRecDepth 100000 in
set_option maxHeartbeats 4000000 in
theorem F93.spec (s1 : SlV) (x2 : List Int) (r : (Arr Int 64)) (hm : F93.m x2 = some r) :
    Ctr Try.prog false 93 [s1.v] [Asr.vw (Enc.int .u8) (s1.v) x2] (fun v L' => v = .agg (((Enc.arr 64 (Enc.int .u32))).enc r).toArray ∧ L' = []) := by
  refine Ctr.intro (n := 93) (env := [(0, s1.v)]) Try.func93 rfl rfl rfl rfl (fun c => ?_)
  unfold F93.m at hm
  refine JC.seq ?_
  refine JC.region ?_
  refine JL.mv (d := some 2) (MV.alloc [Seg.of (Enc.arr 64 (Enc.int .u32)) (Arr.rep 64 (0 : Int))] z_99 rfl) rfl rfl rfl ?_
  rintro _ _ ⟨b4, rfl, rfl⟩
  refine JL.nil ?_
  refine QJ.then_normal ?_
  refine JC.seq ?_
  refine JC.region ?_
  refine JL.mv (d := some 3) (MV.alloc [Seg.of (Enc.arr 64 (Enc.int .u32)) (Arr.rep 64 (0 : Int))] z_99 rfl) rfl rfl rfl ?_
  rintro _ _ ⟨b5, rfl, rfl⟩
  refine JL.nil ?_
  refine QJ.then_normal ?_
  refine JC.seq ?_
  refine JC.seq ?_
  refine JC.region ?_
  refine JL.val (v := .int .i64 (0 : Int)) (QV.move rfl) rfl rfl rfl ?_
  refine JL.nil ?_
  refine QJ.then_normal ?_
  refine JC.cutK (Y := (Arr Int 64) × Unit) (fun y => match y with | (d6, _) => F93.j1 (d6) = some r) (fun y => match y with | (d6, _) => [(2, .pointer (some ⟨b4, 0, none⟩)), (3, .pointer (some ⟨b5, 0, none⟩))]) (fun y => match y with | (d6, _) => [Asr.blk b4 99 [Seg.of (Enc.arr 64 (Enc.int .u32)) (Arr.rep 64 (0 : Int))], Asr.blk b5 99 [Seg.of (Enc.arr 64 (Enc.int .u32)) d6]]) ?_ ?_
  ·
    rintro ⟨d6, ⟨⟩⟩ hm
    unfold F93.j1 at hm
    show QJ _ _ [(2, .pointer (some ⟨b4, 0, none⟩)), (3, .pointer (some ⟨b5, 0, none⟩))] [Asr.blk b4 99 [Seg.of (Enc.arr 64 (Enc.int .u32)) (Arr.rep 64 (0 : Int))], Asr.blk b5 99 [Seg.of (Enc.arr 64 (Enc.int .u32)) d6]] _ _
    refine QJ.then_normal ?_
    refine JC.seq ?_
    refine JC.seq ?_
    refine JC.region ?_
    refine JL.val (v := .int .i64 (16 : Int)) (QV.assign rfl) rfl rfl rfl ?_
    refine JL.nil ?_
    refine QJ.then_normal ?_
    refine JC.cutK (Y := (Arr Int 64) × Unit) (fun y => match y with | (d7, _) => F93.j2 (d7) = some r) (fun y => match y with | (d7, _) => [(2, .pointer (some ⟨b4, 0, none⟩)), (3, .pointer (some ⟨b5, 0, none⟩))]) (fun y => match y with | (d7, _) => [Asr.blk b4 99 [Seg.of (Enc.arr 64 (Enc.int .u32)) (Arr.rep 64 (0 : Int))], Asr.blk b5 99 [Seg.of (Enc.arr 64 (Enc.int .u32)) d7]]) ?_ ?_
    ·
      rintro ⟨d7, ⟨⟩⟩ hm
      unfold F93.j2 at hm
      show QJ _ _ [(2, .pointer (some ⟨b4, 0, none⟩)), (3, .pointer (some ⟨b5, 0, none⟩))] [Asr.blk b4 99 [Seg.of (Enc.arr 64 (Enc.int .u32)) (Arr.rep 64 (0 : Int))], Asr.blk b5 99 [Seg.of (Enc.arr 64 (Enc.int .u32)) d7]] _ _
      refine QJ.then_normal ?_
      refine JC.seq ?_
      refine JC.region ?_
      refine JL.val (v := .agg (((Enc.arr 64 (Enc.int .u32))).enc d7).toArray) (QV.eq (QV.loadN (ss := [Seg.of (Enc.arr 64 (Enc.int .u32)) d7]) 1 0 1 rfl tk_99 rfl rfl rfl rfl) rfl) rfl rfl rfl ?_
      refine JL.mv (d := none) (MV.store (ss := [Seg.of (Enc.arr 64 (Enc.int .u32)) (Arr.rep 64 (0 : Int))]) 0 0 1 [Seg.of (Enc.arr 64 (Enc.int .u32)) d7] rfl tk_99 rfl rfl rfl rfl (fun w hs => ⟨rfl, one_of _ _, trivial⟩)) rfl rfl rfl ?_
      rintro _ _ ⟨rfl, rfl⟩
      refine JL.nil ?_
      refine QJ.then_normal ?_
      refine JC.ret ?_
      obtain rfl := Option.some.inj hm
      exact QJ.body (vs := [.agg (((Enc.arr 64 (Enc.int .u32))).enc d7).toArray]) (.inl rfl) rfl (ResVs.cons (ResV.cell (d := none) (ty := 0) (ps := "") (af := #[]) (g := none) rfl (QV.eq (QV.loadN (ss := [Seg.of (Enc.arr 64 (Enc.int .u32)) d7]) 0 0 1 rfl tk_99 rfl rfl rfl rfl) rfl)) ResVs.nil) [] rfl rfl (.inr trivial) ⟨rfl, rfl⟩
    ·
      refine JC.block ?_
      obtain ⟨y12, hl13, hmo14⟩ := bind_inv hm
      refine JC.loop (F93.b1) (fun x z => match x, z with | (d8, d9), _ => [(2, .pointer (some ⟨b4, 0, none⟩)), (3, .pointer (some ⟨b5, 0, none⟩)), (5, .int .i64 d9)]) (fun x z => match x, z with | (d8, d9), _ => [Asr.blk b4 99 [Seg.of (Enc.arr 64 (Enc.int .u32)) (Arr.rep 64 (0 : Int))], Asr.blk b5 99 [Seg.of (Enc.arr 64 (Enc.int .u32)) d8]]) (d6, (16 : Int)) () y12 hl13 [0, 1] (by exact ⟨rfl, rfl, rfl, trivial⟩) rfl rfl ?_
      rintro ⟨d8, d9⟩ ⟨⟩ s15 hm
      unfold F93.b1 at hm
      dsimp only at hm
      show JC _ _ _ [(2, .pointer (some ⟨b4, 0, none⟩)), (3, .pointer (some ⟨b5, 0, none⟩)), (5, .int .i64 d9)] [Asr.blk b4 99 [Seg.of (Enc.arr 64 (Enc.int .u32)) (Arr.rep 64 (0 : Int))], Asr.blk b5 99 [Seg.of (Enc.arr 64 (Enc.int .u32)) d8]] _ _
      refine JC.seq ?_
      refine JC.seq ?_
      refine JC.region ?_
      refine JL.val (v := .int .i64 d9) (QV.move rfl) rfl rfl rfl ?_
      refine JL.val (v := .bool (decide (d9 < (64 : Int)))) (QV.lss rfl rfl) rfl rfl rfl ?_
      refine JL.nil ?_
      refine QJ.then_normal ?_
      rcases ite_inv hm with ⟨h16, hm⟩ | ⟨h16, hm⟩
      ·
        refine JC.condT' rfl (decide_eq_true h16) ?_
        refine JC.skip ?_
        refine QJ.then_normal ?_
        refine JC.seq ?_
        refine JC.block ?_
        refine JC.seq ?_
        refine JC.regionT [Asr.blk b4 99 [Seg.of (Enc.arr 64 (Enc.int .u32)) (Arr.rep 64 (0 : Int))], Asr.blk b5 99 [Seg.of (Enc.arr 64 (Enc.int .u32)) d8]] (fun t => false) [(0, true), (1, true), (2, true), (3, true), (4, true), (5, true), (6, true), (7, true), (8, false), (9, false)] (by kernel_rfl) (by kernel_rfl) (by kernel_rfl) rfl (fun hsel => ?_)
        refine JT.take (i := 0) (v := .int .i64 d9) hsel rfl (QV.move rfl) rfl rfl rfl [0, 1] rfl rfl ?_
        refine JT.take (i := 1) (v := .int .i64 (IntKind.wrap .i64 (d9 - (15 : Int)))) hsel rfl (QV.sub rfl rfl) rfl rfl rfl [0, 1] rfl rfl ?_
        obtain ⟨h17, hm⟩ := guard_inv hm
        refine JT.take (i := 2) (v := .pointer (some ⟨b5, 0 + Int.toNat (IntKind.wrap .i64 (d9 - (15 : Int))) * 1, none⟩)) hsel rfl (QV.indexB Try.underlying99 tk_74 rfl rfl h17) rfl rfl rfl [0, 1] rfl rfl ?_
        refine JT.take (i := 3) (v := .int .u32 (gd (d8).l (IntKind.wrap .i64 (d9 - (15 : Int))))) hsel rfl (QV.ar1 (ss := [Seg.of (Enc.arr 64 (Enc.int .u32)) d8]) 1 0 rfl tk_74 rfl rfl rfl rfl h17 rfl) rfl rfl rfl [0, 1] rfl rfl ?_
        refine JT.take (i := 4) (v := .int .i64 d9) hsel rfl (QV.move rfl) rfl rfl rfl [0, 1] rfl rfl ?_
        refine JT.take (i := 5) (v := .int .i64 (IntKind.wrap .i64 (d9 - (2 : Int)))) hsel rfl (QV.sub rfl rfl) rfl rfl rfl [0, 1] rfl rfl ?_
        obtain ⟨h18, hm⟩ := guard_inv hm
        refine JT.take (i := 6) (v := .pointer (some ⟨b5, 0 + Int.toNat (IntKind.wrap .i64 (d9 - (2 : Int))) * 1, none⟩)) hsel rfl (QV.indexB Try.underlying99 tk_74 rfl rfl h18) rfl rfl rfl [0, 1] rfl rfl ?_
        refine JT.take (i := 7) (v := .int .u32 (gd (d8).l (IntKind.wrap .i64 (d9 - (2 : Int))))) hsel rfl (QV.ar1 (ss := [Seg.of (Enc.arr 64 (Enc.int .u32)) d8]) 1 0 rfl tk_74 rfl rfl rfl rfl h18 rfl) rfl rfl rfl [0, 1] rfl rfl ?_
        refine JT.only (i := 8) (d := some 6) rfl (MV.ofQV (v := .int .u32 (gd (d8).l (IntKind.wrap .i64 (d9 - (15 : Int))))) (QV.assign rfl)) rfl rfl rfl ?_
        rintro _ _ ⟨rfl, rfl⟩
        refine ⟨fun _ => ⟨[0, 1], rfl, rfl⟩, ?_⟩
        refine JT.only (i := 9) (d := some 7) rfl (MV.ofQV (v := .int .u32 (gd (d8).l (IntKind.wrap .i64 (d9 - (2 : Int))))) (QV.assign rfl)) rfl rfl rfl ?_
        rintro _ _ ⟨rfl, rfl⟩
        refine ⟨fun _ => ⟨[0, 1], rfl, rfl⟩, ?_⟩
        refine JT.nil ?_
        refine QJ.then_normal ?_
        refine JC.seq ?_
        refine JC.region ?_
        refine JL.val (v := .int .u32 (gd (d8).l (IntKind.wrap .i64 (d9 - (15 : Int))))) (QV.move rfl) rfl rfl rfl ?_
        obtain ⟨y19, hc20, hm⟩ := bind_inv hm
        refine JL.mv (d := some 62) (MV.call (Lo := []) (Lr := [Asr.blk b4 99 [Seg.of (Enc.arr 64 (Enc.int .u32)) (Arr.rep 64 (0 : Int))], Asr.blk b5 99 [Seg.of (Enc.arr 64 (Enc.int .u32)) d8]]) (F94.spec ((gd (d8).l (IntKind.wrap .i64 (d9 - (15 : Int))))) ((-7 : Int)) _ hc20) rfl Try.func94 rfl rfl rfl [] [0, 1] rfl rfl rfl trivial) rfl rfl rfl ?_
        rintro _ _ ⟨_, ⟨rfl, rfl⟩, rfl⟩
        refine JL.val (v := .int .u32 (gd (d8).l (IntKind.wrap .i64 (d9 - (15 : Int))))) (QV.move rfl) rfl rfl rfl ?_
        obtain ⟨y21, hc22, hm⟩ := bind_inv hm
        refine JL.mv (d := some 64) (MV.call (Lo := []) (Lr := [Asr.blk b4 99 [Seg.of (Enc.arr 64 (Enc.int .u32)) (Arr.rep 64 (0 : Int))], Asr.blk b5 99 [Seg.of (Enc.arr 64 (Enc.int .u32)) d8]]) (F94.spec ((gd (d8).l (IntKind.wrap .i64 (d9 - (15 : Int))))) ((-18 : Int)) _ hc22) rfl Try.func94 rfl rfl rfl [] [0, 1] rfl rfl rfl trivial) rfl rfl rfl ?_
        rintro _ _ ⟨_, ⟨rfl, rfl⟩, rfl⟩
        refine JL.val (v := .int .u32 (xorI .u32 y19 y21)) (QV.xor rfl rfl) rfl rfl rfl ?_
        refine JL.val (v := .int .u32 (gd (d8).l (IntKind.wrap .i64 (d9 - (15 : Int))))) (QV.move rfl) rfl rfl rfl ?_
        refine JL.val (v := .int .u32 (shrI .u32 (gd (d8).l (IntKind.wrap .i64 (d9 - (15 : Int)))) (3 : Int))) (QV.shr rfl rfl (by decide)) rfl rfl rfl ?_
        refine JL.val (v := .int .u32 (xorI .u32 (xorI .u32 y19 y21) (shrI .u32 (gd (d8).l (IntKind.wrap .i64 (d9 - (15 : Int)))) (3 : Int)))) (QV.xor rfl rfl) rfl rfl rfl ?_
        refine JL.val (v := .int .u32 (xorI .u32 (xorI .u32 y19 y21) (shrI .u32 (gd (d8).l (IntKind.wrap .i64 (d9 - (15 : Int)))) (3 : Int)))) (QV.assign rfl) rfl rfl rfl ?_
        refine JL.nil ?_
        refine QJ.then_normal ?_
        refine JC.seq ?_
        refine JC.region ?_
        refine JL.val (v := .int .u32 (gd (d8).l (IntKind.wrap .i64 (d9 - (2 : Int))))) (QV.move rfl) rfl rfl rfl ?_
        obtain ⟨y23, hc24, hm⟩ := bind_inv hm
        refine JL.mv (d := some 70) (MV.call (Lo := []) (Lr := [Asr.blk b4 99 [Seg.of (Enc.arr 64 (Enc.int .u32)) (Arr.rep 64 (0 : Int))], Asr.blk b5 99 [Seg.of (Enc.arr 64 (Enc.int .u32)) d8]]) (F94.spec ((gd (d8).l (IntKind.wrap .i64 (d9 - (2 : Int))))) ((-17 : Int)) _ hc24) rfl Try.func94 rfl rfl rfl [] [0, 1] rfl rfl rfl trivial) rfl rfl rfl ?_
        rintro _ _ ⟨_, ⟨rfl, rfl⟩, rfl⟩
        refine JL.val (v := .int .u32 (gd (d8).l (IntKind.wrap .i64 (d9 - (2 : Int))))) (QV.move rfl) rfl rfl rfl ?_
        obtain ⟨y25, hc26, hm⟩ := bind_inv hm
        refine JL.mv (d := some 72) (MV.call (Lo := []) (Lr := [Asr.blk b4 99 [Seg.of (Enc.arr 64 (Enc.int .u32)) (Arr.rep 64 (0 : Int))], Asr.blk b5 99 [Seg.of (Enc.arr 64 (Enc.int .u32)) d8]]) (F94.spec ((gd (d8).l (IntKind.wrap .i64 (d9 - (2 : Int))))) ((-19 : Int)) _ hc26) rfl Try.func94 rfl rfl rfl [] [0, 1] rfl rfl rfl trivial) rfl rfl rfl ?_
        rintro _ _ ⟨_, ⟨rfl, rfl⟩, rfl⟩
        refine JL.val (v := .int .u32 (xorI .u32 y23 y25)) (QV.xor rfl rfl) rfl rfl rfl ?_
        refine JL.val (v := .int .u32 (gd (d8).l (IntKind.wrap .i64 (d9 - (2 : Int))))) (QV.move rfl) rfl rfl rfl ?_
        refine JL.val (v := .int .u32 (shrI .u32 (gd (d8).l (IntKind.wrap .i64 (d9 - (2 : Int)))) (10 : Int))) (QV.shr rfl rfl (by decide)) rfl rfl rfl ?_
        refine JL.val (v := .int .u32 (xorI .u32 (xorI .u32 y23 y25) (shrI .u32 (gd (d8).l (IntKind.wrap .i64 (d9 - (2 : Int)))) (10 : Int)))) (QV.xor rfl rfl) rfl rfl rfl ?_
        refine JL.val (v := .int .u32 (xorI .u32 (xorI .u32 y23 y25) (shrI .u32 (gd (d8).l (IntKind.wrap .i64 (d9 - (2 : Int)))) (10 : Int)))) (QV.assign rfl) rfl rfl rfl ?_
        refine JL.nil ?_
        refine QJ.then_normal ?_
        refine JC.regionT [Asr.blk b4 99 [Seg.of (Enc.arr 64 (Enc.int .u32)) (Arr.rep 64 (0 : Int))], Asr.blk b5 99 [Seg.of (Enc.arr 64 (Enc.int .u32)) d8]] (fun t => Nat.beq t 15) [(0, true), (1, true), (2, true), (3, true), (4, true), (5, true), (6, true), (7, true), (8, true), (9, true), (10, true), (11, true), (12, false), (13, false), (14, false), (15, false)] (by kernel_rfl) (by kernel_rfl) (by kernel_rfl) rfl (fun hsel => ?_)
        refine JT.take (i := 0) (v := .int .i64 d9) hsel rfl (QV.move rfl) rfl rfl rfl [0, 1] rfl rfl ?_
        refine JT.take (i := 1) (v := .int .i64 d9) hsel rfl (QV.move rfl) rfl rfl rfl [0, 1] rfl rfl ?_
        refine JT.take (i := 2) (v := .int .i64 (IntKind.wrap .i64 (d9 - (16 : Int)))) hsel rfl (QV.sub rfl rfl) rfl rfl rfl [0, 1] rfl rfl ?_
        obtain ⟨h27, hm⟩ := guard_inv hm
        refine JT.take (i := 3) (v := .pointer (some ⟨b5, 0 + Int.toNat (IntKind.wrap .i64 (d9 - (16 : Int))) * 1, none⟩)) hsel rfl (QV.indexB Try.underlying99 tk_74 rfl rfl h27) rfl rfl rfl [0, 1] rfl rfl ?_
        refine JT.take (i := 4) (v := .int .u32 (gd (d8).l (IntKind.wrap .i64 (d9 - (16 : Int))))) hsel rfl (QV.ar1 (ss := [Seg.of (Enc.arr 64 (Enc.int .u32)) d8]) 1 0 rfl tk_74 rfl rfl rfl rfl h27 rfl) rfl rfl rfl [0, 1] rfl rfl ?_
        refine JT.take (i := 5) (v := .int .u32 (xorI .u32 (xorI .u32 y19 y21) (shrI .u32 (gd (d8).l (IntKind.wrap .i64 (d9 - (15 : Int)))) (3 : Int)))) hsel rfl (QV.move rfl) rfl rfl rfl [0, 1] rfl rfl ?_
        refine JT.take (i := 6) (v := .int .u32 (IntKind.wrap .u32 ((gd (d8).l (IntKind.wrap .i64 (d9 - (16 : Int)))) + (xorI .u32 (xorI .u32 y19 y21) (shrI .u32 (gd (d8).l (IntKind.wrap .i64 (d9 - (15 : Int)))) (3 : Int)))))) hsel rfl (QV.add rfl rfl) rfl rfl rfl [0, 1] rfl rfl ?_
        refine JT.take (i := 7) (v := .int .i64 d9) hsel rfl (QV.move rfl) rfl rfl rfl [0, 1] rfl rfl ?_
        refine JT.take (i := 8) (v := .int .i64 (IntKind.wrap .i64 (d9 - (7 : Int)))) hsel rfl (QV.sub rfl rfl) rfl rfl rfl [0, 1] rfl rfl ?_
        obtain ⟨h28, hm⟩ := guard_inv hm
        refine JT.take (i := 9) (v := .pointer (some ⟨b5, 0 + Int.toNat (IntKind.wrap .i64 (d9 - (7 : Int))) * 1, none⟩)) hsel rfl (QV.indexB Try.underlying99 tk_74 rfl rfl h28) rfl rfl rfl [0, 1] rfl rfl ?_
        refine JT.take (i := 10) (v := .int .u32 (gd (d8).l (IntKind.wrap .i64 (d9 - (7 : Int))))) hsel rfl (QV.ar1 (ss := [Seg.of (Enc.arr 64 (Enc.int .u32)) d8]) 1 0 rfl tk_74 rfl rfl rfl rfl h28 rfl) rfl rfl rfl [0, 1] rfl rfl ?_
        refine JT.take (i := 11) (v := .int .u32 (IntKind.wrap .u32 ((IntKind.wrap .u32 ((gd (d8).l (IntKind.wrap .i64 (d9 - (16 : Int)))) + (xorI .u32 (xorI .u32 y19 y21) (shrI .u32 (gd (d8).l (IntKind.wrap .i64 (d9 - (15 : Int)))) (3 : Int))))) + (gd (d8).l (IntKind.wrap .i64 (d9 - (7 : Int))))))) hsel rfl (QV.add rfl rfl) rfl rfl rfl [0, 1] rfl rfl ?_
        refine JT.only (i := 12) (d := some 89) rfl (MV.ofQV (v := .int .u32 (xorI .u32 (xorI .u32 y23 y25) (shrI .u32 (gd (d8).l (IntKind.wrap .i64 (d9 - (2 : Int)))) (10 : Int)))) (QV.move rfl)) rfl rfl rfl ?_
        rintro _ _ ⟨rfl, rfl⟩
        refine ⟨fun _ => ⟨[0, 1], rfl, rfl⟩, ?_⟩
        refine JT.only (i := 13) (d := some 90) rfl (MV.ofQV (v := .int .u32 (IntKind.wrap .u32 ((IntKind.wrap .u32 ((IntKind.wrap .u32 ((gd (d8).l (IntKind.wrap .i64 (d9 - (16 : Int)))) + (xorI .u32 (xorI .u32 y19 y21) (shrI .u32 (gd (d8).l (IntKind.wrap .i64 (d9 - (15 : Int)))) (3 : Int))))) + (gd (d8).l (IntKind.wrap .i64 (d9 - (7 : Int)))))) + (xorI .u32 (xorI .u32 y23 y25) (shrI .u32 (gd (d8).l (IntKind.wrap .i64 (d9 - (2 : Int)))) (10 : Int)))))) (QV.add rfl rfl)) rfl rfl rfl ?_
        rintro _ _ ⟨rfl, rfl⟩
        refine ⟨fun _ => ⟨[0, 1], rfl, rfl⟩, ?_⟩
        obtain ⟨h29, hm⟩ := guard_inv hm
        refine JT.only (i := 14) (d := some 91) rfl (MV.ofQV (v := .pointer (some ⟨b5, 0 + Int.toNat d9 * 1, none⟩)) (QV.indexB Try.underlying99 tk_74 rfl rfl h29)) rfl rfl rfl ?_
        rintro _ _ ⟨rfl, rfl⟩
        refine ⟨fun _ => ⟨[0, 1], rfl, rfl⟩, ?_⟩
        refine JT.only (i := 15) (d := none) rfl (MV.storeAr (ss := [Seg.of (Enc.arr 64 (Enc.int .u32)) d8]) 1 0 (IntKind.wrap .u32 ((IntKind.wrap .u32 ((IntKind.wrap .u32 ((gd (d8).l (IntKind.wrap .i64 (d9 - (16 : Int)))) + (xorI .u32 (xorI .u32 y19 y21) (shrI .u32 (gd (d8).l (IntKind.wrap .i64 (d9 - (15 : Int)))) (3 : Int))))) + (gd (d8).l (IntKind.wrap .i64 (d9 - (7 : Int)))))) + (xorI .u32 (xorI .u32 y23 y25) (shrI .u32 (gd (d8).l (IntKind.wrap .i64 (d9 - (2 : Int)))) (10 : Int))))) rfl tk_74 rfl rfl rfl rfl h29 rfl rfl) rfl rfl rfl ?_
        rintro _ _ ⟨rfl, rfl⟩
        refine ⟨fun h => absurd h (by decide), ?_⟩
        refine JT.nil ?_
        refine QJ.block_normal ?_
        refine QJ.then_normal ?_
        refine JC.region ?_
        refine JL.val (v := .int .i64 d9) (QV.move rfl) rfl rfl rfl ?_
        refine JL.val (v := .int .i64 (IntKind.wrap .i64 (d9 + (1 : Int)))) (QV.add rfl rfl) rfl rfl rfl ?_
        refine JL.val (v := .int .i64 (IntKind.wrap .i64 (d9 + (1 : Int)))) (QV.assign rfl) rfl rfl rfl ?_
        refine JL.nil ?_
        obtain rfl := Option.some.inj hm
        exact QJ.round_on ((Arr.set d8 d9 (IntKind.wrap .u32 ((IntKind.wrap .u32 ((IntKind.wrap .u32 ((gd (d8).l (IntKind.wrap .i64 (d9 - (16 : Int)))) + (xorI .u32 (xorI .u32 y19 y21) (shrI .u32 (gd (d8).l (IntKind.wrap .i64 (d9 - (15 : Int)))) (3 : Int))))) + (gd (d8).l (IntKind.wrap .i64 (d9 - (7 : Int)))))) + (xorI .u32 (xorI .u32 y23 y25) (shrI .u32 (gd (d8).l (IntKind.wrap .i64 (d9 - (2 : Int)))) (10 : Int)))))), (IntKind.wrap .i64 (d9 + (1 : Int)))) () [0, 1] (by exact ⟨rfl, rfl, rfl, trivial⟩) rfl rfl
      ·
        refine JC.condF' rfl (decide_eq_false h16) ?_
        refine JC.exit ?_
        refine QJ.then_exit ?_
        obtain rfl := Option.some.inj hm
        refine QJ.round_exit (fun hy => ?_)
        subst hy
        refine QJ.block_hit ?_
        exact QJ.cut_normal (d8, ()) hmo14 [0, 1] (by exact ⟨rfl, rfl, trivial⟩) rfl rfl
  ·
    refine JC.block ?_
    obtain ⟨y34, hl35, hmo36⟩ := bind_inv hm
    refine JC.loop (F93.b2 x2) (fun x z => match x, z with | (d30, d31), _ => [(0, s1.v), (2, .pointer (some ⟨b4, 0, none⟩)), (3, .pointer (some ⟨b5, 0, none⟩)), (10, .int .i64 d31)]) (fun x z => match x, z with | (d30, d31), _ => [Asr.vw (Enc.int .u8) (s1.v) x2, Asr.blk b4 99 [Seg.of (Enc.arr 64 (Enc.int .u32)) (Arr.rep 64 (0 : Int))], Asr.blk b5 99 [Seg.of (Enc.arr 64 (Enc.int .u32)) d30]]) ((Arr.rep 64 (0 : Int)), (0 : Int)) () y34 hl35 [2, 1, 0] (by exact ⟨rfl, rfl, rfl, rfl, trivial⟩) rfl rfl ?_
    rintro ⟨d30, d31⟩ ⟨⟩ s37 hm
    unfold F93.b2 at hm
    dsimp only at hm
    show JC _ _ _ [(0, s1.v), (2, .pointer (some ⟨b4, 0, none⟩)), (3, .pointer (some ⟨b5, 0, none⟩)), (10, .int .i64 d31)] [Asr.vw (Enc.int .u8) (s1.v) x2, Asr.blk b4 99 [Seg.of (Enc.arr 64 (Enc.int .u32)) (Arr.rep 64 (0 : Int))], Asr.blk b5 99 [Seg.of (Enc.arr 64 (Enc.int .u32)) d30]] _ _
    refine JC.seq ?_
    refine JC.region ?_
    refine JL.val (v := .bool (decide (d31 < (16 : Int)))) (QV.lss rfl rfl) rfl rfl rfl ?_
    refine JL.nil ?_
    refine QJ.then_normal ?_
    refine JC.seq ?_
    rcases ite_inv hm with ⟨h38, hm⟩ | ⟨h38, hm⟩
    ·
      refine JC.condT' rfl (decide_eq_true h38) ?_
      refine JC.skip ?_
      refine QJ.then_normal ?_
      refine JC.seq ?_
      refine JC.block ?_
      refine JC.seq ?_
      refine JC.region ?_
      refine JL.val (v := .int .i64 d31) (QV.move rfl) rfl rfl rfl ?_
      refine JL.val (v := .int .i64 d31) (QV.assign rfl) rfl rfl rfl ?_
      refine JL.nil ?_
      refine QJ.then_normal ?_
      refine JC.regionT [Asr.vw (Enc.int .u8) (s1.v) x2, Asr.blk b4 99 [Seg.of (Enc.arr 64 (Enc.int .u32)) (Arr.rep 64 (0 : Int))]] (fun t => false) [(0, true), (1, true), (2, true), (3, true), (4, true), (5, true), (6, true), (7, true), (8, true), (9, true), (10, true), (11, true), (12, true), (13, true), (14, true), (15, true), (16, true), (17, true), (18, true), (19, true), (20, true), (21, true), (22, true), (23, true), (24, true), (25, true), (26, true), (27, false), (28, false), (29, false), (30, false), (31, false), (32, false), (33, false), (34, false), (35, false)] (by kernel_rfl) (by kernel_rfl) (by kernel_rfl) rfl (fun hsel => ?_)
      refine JT.take (i := 0) (v := .int .i64 d31) hsel rfl (QV.move rfl) rfl rfl rfl [0, 1] rfl rfl ?_
      refine JT.take (i := 1) (v := s1.v) hsel rfl (QV.move rfl) rfl rfl rfl [0, 1] rfl rfl ?_
      refine JT.take (i := 2) (v := .int .i64 d31) hsel rfl (QV.move rfl) rfl rfl rfl [0, 1] rfl rfl ?_
      refine JT.take (i := 3) (v := .int .i64 (IntKind.wrap .i64 ((4 : Int) * d31))) hsel rfl (QV.mul rfl rfl) rfl rfl rfl [0, 1] rfl rfl ?_
      obtain ⟨h39, hm⟩ := guard_inv hm
      refine JT.take (i := 4) (v := .pointer (some (elA (s1.v) (Int.toNat (IntKind.wrap .i64 ((4 : Int) * d31)) * ((Enc.int .u8)).sz)))) hsel rfl (QV.indexA (Rdg.vw 0 rfl) Try.underlying22 tk_5 rfl rfl h39) rfl rfl rfl [0, 1] rfl rfl ?_
      refine JT.take (i := 5) (v := .int .u8 (gd x2 (IntKind.wrap .i64 ((4 : Int) * d31)))) hsel rfl (QV.el1 (Rdg.vw 0 rfl) tk_5 rfl h39 rfl) rfl rfl rfl [0, 1] rfl rfl ?_
      refine JT.take (i := 6) (v := .int .u32 (IntKind.wrap .u32 (gd x2 (IntKind.wrap .i64 ((4 : Int) * d31))))) hsel rfl (QV.conv rfl (by rw [Try.underlying5]; rfl) Try.underlying74) rfl rfl rfl [0, 1] rfl rfl ?_
      refine JT.take (i := 7) (v := .int .u32 (shlI .u32 (IntKind.wrap .u32 (gd x2 (IntKind.wrap .i64 ((4 : Int) * d31)))) (24 : Int))) hsel rfl (QV.shl rfl rfl (by decide)) rfl rfl rfl [0, 1] rfl rfl ?_
      refine JT.take (i := 8) (v := s1.v) hsel rfl (QV.move rfl) rfl rfl rfl [0, 1] rfl rfl ?_
      refine JT.take (i := 9) (v := .int .i64 d31) hsel rfl (QV.move rfl) rfl rfl rfl [0, 1] rfl rfl ?_
      refine JT.take (i := 10) (v := .int .i64 (IntKind.wrap .i64 ((4 : Int) * d31))) hsel rfl (QV.mul rfl rfl) rfl rfl rfl [0, 1] rfl rfl ?_
      refine JT.take (i := 11) (v := .int .i64 (IntKind.wrap .i64 ((IntKind.wrap .i64 ((4 : Int) * d31)) + (1 : Int)))) hsel rfl (QV.add rfl rfl) rfl rfl rfl [0, 1] rfl rfl ?_
      obtain ⟨h40, hm⟩ := guard_inv hm
      refine JT.take (i := 12) (v := .pointer (some (elA (s1.v) (Int.toNat (IntKind.wrap .i64 ((IntKind.wrap .i64 ((4 : Int) * d31)) + (1 : Int))) * ((Enc.int .u8)).sz)))) hsel rfl (QV.indexA (Rdg.vw 0 rfl) Try.underlying22 tk_5 rfl rfl h40) rfl rfl rfl [0, 1] rfl rfl ?_
      refine JT.take (i := 13) (v := .int .u8 (gd x2 (IntKind.wrap .i64 ((IntKind.wrap .i64 ((4 : Int) * d31)) + (1 : Int))))) hsel rfl (QV.el1 (Rdg.vw 0 rfl) tk_5 rfl h40 rfl) rfl rfl rfl [0, 1] rfl rfl ?_
      refine JT.take (i := 14) (v := .int .u32 (IntKind.wrap .u32 (gd x2 (IntKind.wrap .i64 ((IntKind.wrap .i64 ((4 : Int) * d31)) + (1 : Int)))))) hsel rfl (QV.conv rfl (by rw [Try.underlying5]; rfl) Try.underlying74) rfl rfl rfl [0, 1] rfl rfl ?_
      refine JT.take (i := 15) (v := .int .u32 (shlI .u32 (IntKind.wrap .u32 (gd x2 (IntKind.wrap .i64 ((IntKind.wrap .i64 ((4 : Int) * d31)) + (1 : Int))))) (16 : Int))) hsel rfl (QV.shl rfl rfl (by decide)) rfl rfl rfl [0, 1] rfl rfl ?_
      refine JT.take (i := 16) (v := .int .u32 (orI .u32 (shlI .u32 (IntKind.wrap .u32 (gd x2 (IntKind.wrap .i64 ((4 : Int) * d31)))) (24 : Int)) (shlI .u32 (IntKind.wrap .u32 (gd x2 (IntKind.wrap .i64 ((IntKind.wrap .i64 ((4 : Int) * d31)) + (1 : Int))))) (16 : Int)))) hsel rfl (QV.or rfl rfl) rfl rfl rfl [0, 1] rfl rfl ?_
      refine JT.take (i := 17) (v := s1.v) hsel rfl (QV.move rfl) rfl rfl rfl [0, 1] rfl rfl ?_
      refine JT.take (i := 18) (v := .int .i64 d31) hsel rfl (QV.move rfl) rfl rfl rfl [0, 1] rfl rfl ?_
      refine JT.take (i := 19) (v := .int .i64 (IntKind.wrap .i64 ((4 : Int) * d31))) hsel rfl (QV.mul rfl rfl) rfl rfl rfl [0, 1] rfl rfl ?_
      refine JT.take (i := 20) (v := .int .i64 (IntKind.wrap .i64 ((IntKind.wrap .i64 ((4 : Int) * d31)) + (2 : Int)))) hsel rfl (QV.add rfl rfl) rfl rfl rfl [0, 1] rfl rfl ?_
      obtain ⟨h41, hm⟩ := guard_inv hm
      refine JT.take (i := 21) (v := .pointer (some (elA (s1.v) (Int.toNat (IntKind.wrap .i64 ((IntKind.wrap .i64 ((4 : Int) * d31)) + (2 : Int))) * ((Enc.int .u8)).sz)))) hsel rfl (QV.indexA (Rdg.vw 0 rfl) Try.underlying22 tk_5 rfl rfl h41) rfl rfl rfl [0, 1] rfl rfl ?_
      refine JT.take (i := 22) (v := .int .u8 (gd x2 (IntKind.wrap .i64 ((IntKind.wrap .i64 ((4 : Int) * d31)) + (2 : Int))))) hsel rfl (QV.el1 (Rdg.vw 0 rfl) tk_5 rfl h41 rfl) rfl rfl rfl [0, 1] rfl rfl ?_
      refine JT.take (i := 23) (v := .int .u32 (IntKind.wrap .u32 (gd x2 (IntKind.wrap .i64 ((IntKind.wrap .i64 ((4 : Int) * d31)) + (2 : Int)))))) hsel rfl (QV.conv rfl (by rw [Try.underlying5]; rfl) Try.underlying74) rfl rfl rfl [0, 1] rfl rfl ?_
      refine JT.take (i := 24) (v := .int .u32 (shlI .u32 (IntKind.wrap .u32 (gd x2 (IntKind.wrap .i64 ((IntKind.wrap .i64 ((4 : Int) * d31)) + (2 : Int))))) (8 : Int))) hsel rfl (QV.shl rfl rfl (by decide)) rfl rfl rfl [0, 1] rfl rfl ?_
      refine JT.take (i := 25) (v := .int .u32 (orI .u32 (orI .u32 (shlI .u32 (IntKind.wrap .u32 (gd x2 (IntKind.wrap .i64 ((4 : Int) * d31)))) (24 : Int)) (shlI .u32 (IntKind.wrap .u32 (gd x2 (IntKind.wrap .i64 ((IntKind.wrap .i64 ((4 : Int) * d31)) + (1 : Int))))) (16 : Int))) (shlI .u32 (IntKind.wrap .u32 (gd x2 (IntKind.wrap .i64 ((IntKind.wrap .i64 ((4 : Int) * d31)) + (2 : Int))))) (8 : Int)))) hsel rfl (QV.or rfl rfl) rfl rfl rfl [0, 1] rfl rfl ?_
      refine JT.take (i := 26) (v := s1.v) hsel rfl (QV.move rfl) rfl rfl rfl [0, 1] rfl rfl ?_
      refine JT.only (i := 27) (d := some 40) rfl (MV.ofQV (v := .int .i64 d31) (QV.move rfl)) rfl rfl rfl ?_
      rintro _ _ ⟨rfl, rfl⟩
      refine ⟨fun _ => ⟨[0, 1], rfl, rfl⟩, ?_⟩
      refine JT.only (i := 28) (d := some 41) rfl (MV.ofQV (v := .int .i64 (IntKind.wrap .i64 ((4 : Int) * d31))) (QV.mul rfl rfl)) rfl rfl rfl ?_
      rintro _ _ ⟨rfl, rfl⟩
      refine ⟨fun _ => ⟨[0, 1], rfl, rfl⟩, ?_⟩
      refine JT.only (i := 29) (d := some 42) rfl (MV.ofQV (v := .int .i64 (IntKind.wrap .i64 ((IntKind.wrap .i64 ((4 : Int) * d31)) + (3 : Int)))) (QV.add rfl rfl)) rfl rfl rfl ?_
      rintro _ _ ⟨rfl, rfl⟩
      refine ⟨fun _ => ⟨[0, 1], rfl, rfl⟩, ?_⟩
      obtain ⟨h42, hm⟩ := guard_inv hm
      refine JT.only (i := 30) (d := some 43) rfl (MV.ofQV (v := .pointer (some (elA (s1.v) (Int.toNat (IntKind.wrap .i64 ((IntKind.wrap .i64 ((4 : Int) * d31)) + (3 : Int))) * ((Enc.int .u8)).sz)))) (QV.indexA (Rdg.vw 0 rfl) Try.underlying22 tk_5 rfl rfl h42)) rfl rfl rfl ?_
      rintro _ _ ⟨rfl, rfl⟩
      refine ⟨fun _ => ⟨[0, 1], rfl, rfl⟩, ?_⟩
      refine JT.only (i := 31) (d := some 44) rfl (MV.ofQV (v := .int .u8 (gd x2 (IntKind.wrap .i64 ((IntKind.wrap .i64 ((4 : Int) * d31)) + (3 : Int))))) (QV.el1 (Rdg.vw 0 rfl) tk_5 rfl h42 rfl)) rfl rfl rfl ?_
      rintro _ _ ⟨rfl, rfl⟩
      refine ⟨fun _ => ⟨[0, 1], rfl, rfl⟩, ?_⟩
      refine JT.only (i := 32) (d := some 45) rfl (MV.ofQV (v := .int .u32 (IntKind.wrap .u32 (gd x2 (IntKind.wrap .i64 ((IntKind.wrap .i64 ((4 : Int) * d31)) + (3 : Int)))))) (QV.conv rfl (by rw [Try.underlying5]; rfl) Try.underlying74)) rfl rfl rfl ?_
      rintro _ _ ⟨rfl, rfl⟩
      refine ⟨fun _ => ⟨[0, 1], rfl, rfl⟩, ?_⟩
      refine JT.only (i := 33) (d := some 46) rfl (MV.ofQV (v := .int .u32 (orI .u32 (orI .u32 (orI .u32 (shlI .u32 (IntKind.wrap .u32 (gd x2 (IntKind.wrap .i64 ((4 : Int) * d31)))) (24 : Int)) (shlI .u32 (IntKind.wrap .u32 (gd x2 (IntKind.wrap .i64 ((IntKind.wrap .i64 ((4 : Int) * d31)) + (1 : Int))))) (16 : Int))) (shlI .u32 (IntKind.wrap .u32 (gd x2 (IntKind.wrap .i64 ((IntKind.wrap .i64 ((4 : Int) * d31)) + (2 : Int))))) (8 : Int))) (IntKind.wrap .u32 (gd x2 (IntKind.wrap .i64 ((IntKind.wrap .i64 ((4 : Int) * d31)) + (3 : Int))))))) (QV.or rfl rfl)) rfl rfl rfl ?_
      rintro _ _ ⟨rfl, rfl⟩
      refine ⟨fun _ => ⟨[0, 1], rfl, rfl⟩, ?_⟩
      obtain ⟨h43, hm⟩ := guard_inv hm
      refine JT.only (i := 34) (d := some 47) rfl (MV.ofQV (v := .pointer (some ⟨b5, 0 + Int.toNat d31 * 1, none⟩)) (QV.indexB Try.underlying99 tk_74 rfl rfl h43)) rfl rfl rfl ?_
      rintro _ _ ⟨rfl, rfl⟩
      refine ⟨fun _ => ⟨[0, 1], rfl, rfl⟩, ?_⟩
      refine JT.only (i := 35) (d := none) rfl (MV.storeAr (ss := [Seg.of (Enc.arr 64 (Enc.int .u32)) d30]) 2 0 (orI .u32 (orI .u32 (orI .u32 (shlI .u32 (IntKind.wrap .u32 (gd x2 (IntKind.wrap .i64 ((4 : Int) * d31)))) (24 : Int)) (shlI .u32 (IntKind.wrap .u32 (gd x2 (IntKind.wrap .i64 ((IntKind.wrap .i64 ((4 : Int) * d31)) + (1 : Int))))) (16 : Int))) (shlI .u32 (IntKind.wrap .u32 (gd x2 (IntKind.wrap .i64 ((IntKind.wrap .i64 ((4 : Int) * d31)) + (2 : Int))))) (8 : Int))) (IntKind.wrap .u32 (gd x2 (IntKind.wrap .i64 ((IntKind.wrap .i64 ((4 : Int) * d31)) + (3 : Int)))))) rfl tk_74 rfl rfl rfl rfl h43 rfl rfl) rfl rfl rfl ?_
      rintro _ _ ⟨rfl, rfl⟩
      refine ⟨fun _ => ⟨[0, 1], rfl, rfl⟩, ?_⟩
      refine JT.grow [Asr.vw (Enc.int .u8) (s1.v) x2, Asr.blk b4 99 [Seg.of (Enc.arr 64 (Enc.int .u32)) (Arr.rep 64 (0 : Int))], Asr.blk b5 99 [Seg.of (Enc.arr 64 (Enc.int .u32)) (Arr.set d30 d31 (orI .u32 (orI .u32 (orI .u32 (shlI .u32 (IntKind.wrap .u32 (gd x2 (IntKind.wrap .i64 ((4 : Int) * d31)))) (24 : Int)) (shlI .u32 (IntKind.wrap .u32 (gd x2 (IntKind.wrap .i64 ((IntKind.wrap .i64 ((4 : Int) * d31)) + (1 : Int))))) (16 : Int))) (shlI .u32 (IntKind.wrap .u32 (gd x2 (IntKind.wrap .i64 ((IntKind.wrap .i64 ((4 : Int) * d31)) + (2 : Int))))) (8 : Int))) (IntKind.wrap .u32 (gd x2 (IntKind.wrap .i64 ((IntKind.wrap .i64 ((4 : Int) * d31)) + (3 : Int)))))))]] [0, 1] rfl rfl ?_
      refine JT.nil ?_
      refine QJ.block_normal ?_
      refine QJ.then_normal ?_
      refine JC.region ?_
      refine JL.val (v := .int .i64 (IntKind.wrap .i64 (d31 + (1 : Int)))) (QV.add rfl rfl) rfl rfl rfl ?_
      refine JL.val (v := .int .i64 (IntKind.wrap .i64 (d31 + (1 : Int)))) (QV.move rfl) rfl rfl rfl ?_
      refine JL.nil ?_
      obtain rfl := Option.some.inj hm
      exact QJ.round_on ((Arr.set d30 d31 (orI .u32 (orI .u32 (orI .u32 (shlI .u32 (IntKind.wrap .u32 (gd x2 (IntKind.wrap .i64 ((4 : Int) * d31)))) (24 : Int)) (shlI .u32 (IntKind.wrap .u32 (gd x2 (IntKind.wrap .i64 ((IntKind.wrap .i64 ((4 : Int) * d31)) + (1 : Int))))) (16 : Int))) (shlI .u32 (IntKind.wrap .u32 (gd x2 (IntKind.wrap .i64 ((IntKind.wrap .i64 ((4 : Int) * d31)) + (2 : Int))))) (8 : Int))) (IntKind.wrap .u32 (gd x2 (IntKind.wrap .i64 ((IntKind.wrap .i64 ((4 : Int) * d31)) + (3 : Int))))))), (IntKind.wrap .i64 (d31 + (1 : Int)))) () [0, 1, 2] (by exact ⟨rfl, rfl, rfl, rfl, trivial⟩) rfl rfl
    ·
      refine JC.condF' rfl (decide_eq_false h38) ?_
      refine JC.exit ?_
      refine QJ.then_exit ?_
      obtain rfl := Option.some.inj hm
      refine QJ.round_exit (fun hy => ?_)
      subst hy
      refine QJ.block_hit ?_
      exact QJ.cut_normal (d30, ()) hmo36 [1, 2] (by exact ⟨rfl, rfl, trivial⟩) rfl rfl

/-! ### 75: (*drogher/sha.Hash).takes -/
noncomputable def F75.j2  (d19 : (Arr Int 8)) : Option (Arr Int 8) :=
  some d19
noncomputable def F75.b1 (d11 : Int) (d12 : Int) (d13 : Int) (d14 : Int) (d15 : Int) (d16 : Int) (d17 : Int) (d18 : Int) : ((Arr Int 8) × Int) → Option (((Arr Int 8) × Int) ⊕ (Arr Int 8))
  | (d20, d21) => (if d21 < (8 : Int) then (if 0 ≤ d21 ∧ d21 < 8 then some (.inl ((Arr.set d20 d21 (IntKind.wrap .u32 ((gd (d20).l d21) + (gd ((⟨[d11, d12, d13, d14, d15, d16, d17, d18], rfl⟩ : (Arr Int 8))).l d21)))), (IntKind.wrap .i64 (d21 + (1 : Int))))) else none) else some (.inr d20))
noncomputable def F75.j1 (x2 : (Arr Int 8)) (d11 : Int) (d12 : Int) (d13 : Int) (d14 : Int) (d15 : Int) (d16 : Int) (d17 : Int) (d18 : Int) : Option (Arr Int 8) :=
  ((loop (F75.b1 d11 d12 d13 d14 d15 d16 d17 d18) (x2, (0 : Int))).bind fun y => match y with | d19 => F75.j2 (d19))
noncomputable def F75.b2 (y8 : (Arr Int 64)) : (Int × Int × Int × Int × Int × Int × Int × Int × Int) → Option ((Int × Int × Int × Int × Int × Int × Int × Int × Int) ⊕ (Int × Int × Int × Int × Int × Int × Int × Int))
  | (d30, d31, d32, d33, d34, d35, d36, d37, d38) => (if d38 < (64 : Int) then (if 0 ≤ d38 ∧ d38 < 64 then ((F94.m (d34) ((-6 : Int))).bind fun y54 => ((F94.m (d34) ((-11 : Int))).bind fun y56 => ((F94.m (d34) ((-25 : Int))).bind fun y58 => ((F94.m (d30) ((-2 : Int))).bind fun y60 => ((F94.m (d30) ((-13 : Int))).bind fun y62 => ((F94.m (d30) ((-22 : Int))).bind fun y64 => some (.inl ((IntKind.wrap .u32 ((IntKind.wrap .u32 ((IntKind.wrap .u32 ((IntKind.wrap .u32 ((IntKind.wrap .u32 (d37 + (xorI .u32 (xorI .u32 y54 y56) y58))) + (xorI .u32 (andI .u32 d34 d35) (andI .u32 (xorI .u32 (if IntKind.signed .u32 then -1 else IntKind.max .u32) d34) d36)))) + (gd (K1).l d38))) + (gd (y8).l d38))) + (IntKind.wrap .u32 ((xorI .u32 (xorI .u32 y60 y62) y64) + (xorI .u32 (xorI .u32 (andI .u32 d30 d31) (andI .u32 d30 d32)) (andI .u32 d31 d32)))))), d30, d31, d32, (IntKind.wrap .u32 (d33 + (IntKind.wrap .u32 ((IntKind.wrap .u32 ((IntKind.wrap .u32 ((IntKind.wrap .u32 (d37 + (xorI .u32 (xorI .u32 y54 y56) y58))) + (xorI .u32 (andI .u32 d34 d35) (andI .u32 (xorI .u32 (if IntKind.signed .u32 then -1 else IntKind.max .u32) d34) d36)))) + (gd (K1).l d38))) + (gd (y8).l d38))))), d34, d35, d36, (IntKind.wrap .i64 (d38 + (1 : Int))))))))))) else none) else some (.inr (d30, d31, d32, d33, d34, d35, d36, d37)))
noncomputable def F75.m (x2 : (Arr Int 8)) (x3 : (Arr Int 64)) (x4 : Int) (x5 : Int) : Option (Arr Int 8) :=
  ((F93.m ((subL (x3).l (0 : Int) ((64 : Nat) : Int)))).bind fun y8 => ((loop (F75.b2 y8) ((gd (x2).l (0 : Int)), (gd (x2).l (1 : Int)), (gd (x2).l (2 : Int)), (gd (x2).l (3 : Int)), (gd (x2).l (4 : Int)), (gd (x2).l (5 : Int)), (gd (x2).l (6 : Int)), (gd (x2).l (7 : Int)), (0 : Int))).bind fun y => match y with | (d11, d12, d13, d14, d15, d16, d17, d18) => F75.j1 x2 (d11) (d12) (d13) (d14) (d15) (d16) (d17) (d18)))
set_option maxRecDepth 100000 in
set_option maxHeartbeats 4000000 in
theorem F75.spec (b1 : Nat) (x2 : (Arr Int 8)) (x3 : (Arr Int 64)) (x4 : Int) (x5 : Int) (r : (Arr Int 8)) (hm : F75.m x2 x3 x4 x5 = some r) :
    Ctr Try.prog false 75 [.pointer (some ⟨b1, 0, none⟩), (SlV.sub ((Enc.int .u8)).sz (SlV.mk (some ⟨b1, 8, none⟩) 64 64) (0 : Int) ((64 : Nat) : Int)).v] [Asr.blk b1 105 [Seg.of (Enc.arr 8 (Enc.int .u32)) x2, Seg.of (Enc.arr 64 (Enc.int .u8)) x3, Seg.c (.int .i64 x4), Seg.c (.int .u64 x5)]] (fun v L' => v = .tuple #[] ∧ L' = [Asr.blk b1 105 [Seg.of (Enc.arr 8 (Enc.int .u32)) r, Seg.of (Enc.arr 64 (Enc.int .u8)) x3, Seg.c (.int .i64 x4), Seg.c (.int .u64 x5)]]) := by
  refine Ctr.intro (n := 150) (env := [(0, .pointer (some ⟨b1, 0, none⟩)), (1, (SlV.sub ((Enc.int .u8)).sz (SlV.mk (some ⟨b1, 8, none⟩) 64 64) (0 : Int) ((64 : Nat) : Int)).v)]) Try.func75 rfl rfl rfl rfl (fun c => ?_)
  unfold F75.m at hm
  refine JC.seq ?_
  refine JC.region ?_
  refine JL.val (v := .agg (((Enc.arr 64 (Enc.int .u32))).enc K1).toArray) (QV.build (vals := [(0, .int .u32 (1116352408 : Int)), (1, .int .u32 (1899447441 : Int)), (2, .int .u32 (3049323471 : Int)), (3, .int .u32 (3921009573 : Int)), (4, .int .u32 (961987163 : Int)), (5, .int .u32 (1508970993 : Int)), (6, .int .u32 (2453635748 : Int)), (7, .int .u32 (2870763221 : Int)), (8, .int .u32 (3624381080 : Int)), (9, .int .u32 (310598401 : Int)), (10, .int .u32 (607225278 : Int)), (11, .int .u32 (1426881987 : Int)), (12, .int .u32 (1925078388 : Int)), (13, .int .u32 (2162078206 : Int)), (14, .int .u32 (2614888103 : Int)), (15, .int .u32 (3248222580 : Int)), (16, .int .u32 (3835390401 : Int)), (17, .int .u32 (4022224774 : Int)), (18, .int .u32 (264347078 : Int)), (19, .int .u32 (604807628 : Int)), (20, .int .u32 (770255983 : Int)), (21, .int .u32 (1249150122 : Int)), (22, .int .u32 (1555081692 : Int)), (23, .int .u32 (1996064986 : Int)), (24, .int .u32 (2554220882 : Int)), (25, .int .u32 (2821834349 : Int)), (26, .int .u32 (2952996808 : Int)), (27, .int .u32 (3210313671 : Int)), (28, .int .u32 (3336571891 : Int)), (29, .int .u32 (3584528711 : Int)), (30, .int .u32 (113926993 : Int)), (31, .int .u32 (338241895 : Int)), (32, .int .u32 (666307205 : Int)), (33, .int .u32 (773529912 : Int)), (34, .int .u32 (1294757372 : Int)), (35, .int .u32 (1396182291 : Int)), (36, .int .u32 (1695183700 : Int)), (37, .int .u32 (1986661051 : Int)), (38, .int .u32 (2177026350 : Int)), (39, .int .u32 (2456956037 : Int)), (40, .int .u32 (2730485921 : Int)), (41, .int .u32 (2820302411 : Int)), (42, .int .u32 (3259730800 : Int)), (43, .int .u32 (3345764771 : Int)), (44, .int .u32 (3516065817 : Int)), (45, .int .u32 (3600352804 : Int)), (46, .int .u32 (4094571909 : Int)), (47, .int .u32 (275423344 : Int)), (48, .int .u32 (430227734 : Int)), (49, .int .u32 (506948616 : Int)), (50, .int .u32 (659060556 : Int)), (51, .int .u32 (883997877 : Int)), (52, .int .u32 (958139571 : Int)), (53, .int .u32 (1322822218 : Int)), (54, .int .u32 (1537002063 : Int)), (55, .int .u32 (1747873779 : Int)), (56, .int .u32 (1955562222 : Int)), (57, .int .u32 (2024104815 : Int)), (58, .int .u32 (2227730452 : Int)), (59, .int .u32 (2361852424 : Int)), (60, .int .u32 (2428436474 : Int)), (61, .int .u32 (2756734187 : Int)), (62, .int .u32 (3204031479 : Int)), (63, .int .u32 (3329325298 : Int))]) (cells := ((Enc.arr 64 (Enc.int .u32)).enc K1).toArray) rfl (by kernel_rfl)) rfl rfl rfl ?_
  refine JL.mv (d := some 4) (MV.alloc [Seg.of (Enc.arr 64 (Enc.int .u32)) (Arr.rep 64 (0 : Int))] z_99 rfl) rfl rfl rfl ?_
  rintro _ _ ⟨b7, rfl, rfl⟩
  refine JL.mv (d := none) (MV.store (ss := [Seg.of (Enc.arr 64 (Enc.int .u32)) (Arr.rep 64 (0 : Int))]) 0 0 1 [Seg.of (Enc.arr 64 (Enc.int .u32)) K1] rfl tk_99 rfl rfl rfl rfl (fun w hs => ⟨rfl, one_of _ _, trivial⟩)) rfl rfl rfl ?_
  rintro _ _ ⟨rfl, rfl⟩
  refine JL.nil ?_
  refine QJ.then_normal ?_
  refine JC.seq ?_
  refine JC.region ?_
  refine JL.val (v := (SlV.sub ((Enc.int .u8)).sz (SlV.mk (some ⟨b1, 8, none⟩) 64 64) (0 : Int) ((64 : Nat) : Int)).v) (QV.move rfl) rfl rfl rfl ?_
  obtain ⟨y8, hc9, hm⟩ := bind_inv hm
  refine JL.mv (d := some 21) (MV.call (Lo := []) (Lr := [Asr.blk b7 99 [Seg.of (Enc.arr 64 (Enc.int .u32)) K1], Asr.blk b1 105 [Seg.of (Enc.arr 8 (Enc.int .u32)) x2, Seg.of (Enc.arr 64 (Enc.int .u8)) x3, Seg.c (.int .i64 x4), Seg.c (.int .u64 x5)]]) (F93.spec ((SlV.sub ((Enc.int .u8)).sz (SlV.mk (some ⟨b1, 8, none⟩) 64 64) (0 : Int) ((64 : Nat) : Int))) ((subL (x3).l (0 : Int) ((64 : Nat) : Int))) _ hc9) rfl Try.func93 rfl rfl rfl [] [0, 1] rfl rfl rfl ⟨((Drv.arr (ss := [Seg.of (Enc.arr 8 (Enc.int .u32)) x2, Seg.of (Enc.arr 64 (Enc.int .u8)) x3, Seg.c (.int .i64 x4), Seg.c (.int .u64 x5)]) 1 1 rfl rfl rfl rfl).subV (by rw [Arr.h]; exact (show 0 ≤ (0 : Int) ∧ (0 : Int) ≤ ((64 : Nat) : Int) ∧ ((64 : Nat) : Int) ≤ ((64 : Nat) : Int) from by decide))), trivial⟩) rfl rfl rfl ?_
  rintro _ _ ⟨_, ⟨rfl, rfl⟩, rfl⟩
  refine JL.mv (d := some 5) (MV.alloc [Seg.of (Enc.arr 64 (Enc.int .u32)) (Arr.rep 64 (0 : Int))] z_99 rfl) rfl rfl rfl ?_
  rintro _ _ ⟨b10, rfl, rfl⟩
  refine JL.mv (d := none) (MV.store (ss := [Seg.of (Enc.arr 64 (Enc.int .u32)) (Arr.rep 64 (0 : Int))]) 0 0 1 [Seg.of (Enc.arr 64 (Enc.int .u32)) y8] rfl tk_99 rfl rfl rfl rfl (fun w hs => ⟨rfl, one_of _ _, trivial⟩)) rfl rfl rfl ?_
  rintro _ _ ⟨rfl, rfl⟩
  refine JL.nil ?_
  refine QJ.then_normal ?_
  refine JC.seq ?_
  refine JC.regionT [Asr.blk b10 99 [Seg.of (Enc.arr 64 (Enc.int .u32)) y8], Asr.blk b7 99 [Seg.of (Enc.arr 64 (Enc.int .u32)) K1], Asr.blk b1 105 [Seg.of (Enc.arr 8 (Enc.int .u32)) x2, Seg.of (Enc.arr 64 (Enc.int .u8)) x3, Seg.c (.int .i64 x4), Seg.c (.int .u64 x5)]] (fun t => false) [(0, true), (1, true), (2, true), (3, true), (4, true), (5, true), (6, true), (7, true), (8, true), (9, true), (10, true), (11, true), (12, true), (13, true), (14, true), (15, true), (16, true), (17, true), (18, true), (19, true), (20, true), (21, true), (22, true), (23, true), (24, true), (25, true), (26, true), (27, true), (28, true), (29, true), (30, true), (31, true), (32, true), (33, true), (34, true), (35, true), (36, true), (37, true), (38, true), (39, true), (40, false), (41, false), (42, false), (43, false), (44, false), (45, false), (46, false), (47, false)] (by kernel_rfl) (by kernel_rfl) (by kernel_rfl) rfl (fun hsel => ?_)
  refine JT.take (i := 0) (v := .pointer (some ⟨b1, 0, none⟩)) hsel rfl (QV.move rfl) rfl rfl rfl [0, 1, 2] rfl rfl ?_
  refine JT.take (i := 1) (v := .pointer (some ⟨b1, 0, none⟩)) hsel rfl (QV.nilCheck rfl) rfl rfl rfl [0, 1, 2] rfl rfl ?_
  refine JT.take (i := 2) (v := .pointer (some ⟨b1, 0, none⟩)) hsel rfl (QV.fieldB fo_105_0 rfl rfl) rfl rfl rfl [0, 1, 2] rfl rfl ?_
  refine JT.take (i := 3) (v := .pointer (some ⟨b1, 0 + Int.toNat (0 : Int) * 1, none⟩)) hsel rfl (QV.indexB Try.underlying98 tk_74 rfl rfl (by decide)) rfl rfl rfl [0, 1, 2] rfl rfl ?_
  refine JT.take (i := 4) (v := .int .u32 (gd (x2).l (0 : Int))) hsel rfl (QV.ar1 (ss := [Seg.of (Enc.arr 8 (Enc.int .u32)) x2, Seg.of (Enc.arr 64 (Enc.int .u8)) x3, Seg.c (.int .i64 x4), Seg.c (.int .u64 x5)]) 2 0 rfl tk_74 rfl rfl rfl rfl (by decide) rfl) rfl rfl rfl [0, 1, 2] rfl rfl ?_
  refine JT.take (i := 5) (v := .pointer (some ⟨b1, 0, none⟩)) hsel rfl (QV.move rfl) rfl rfl rfl [0, 1, 2] rfl rfl ?_
  refine JT.take (i := 6) (v := .pointer (some ⟨b1, 0, none⟩)) hsel rfl (QV.nilCheck rfl) rfl rfl rfl [0, 1, 2] rfl rfl ?_
  refine JT.take (i := 7) (v := .pointer (some ⟨b1, 0, none⟩)) hsel rfl (QV.fieldB fo_105_0 rfl rfl) rfl rfl rfl [0, 1, 2] rfl rfl ?_
  refine JT.take (i := 8) (v := .pointer (some ⟨b1, 0 + Int.toNat (1 : Int) * 1, none⟩)) hsel rfl (QV.indexB Try.underlying98 tk_74 rfl rfl (by decide)) rfl rfl rfl [0, 1, 2] rfl rfl ?_
  refine JT.take (i := 9) (v := .int .u32 (gd (x2).l (1 : Int))) hsel rfl (QV.ar1 (ss := [Seg.of (Enc.arr 8 (Enc.int .u32)) x2, Seg.of (Enc.arr 64 (Enc.int .u8)) x3, Seg.c (.int .i64 x4), Seg.c (.int .u64 x5)]) 2 0 rfl tk_74 rfl rfl rfl rfl (by decide) rfl) rfl rfl rfl [0, 1, 2] rfl rfl ?_
  refine JT.take (i := 10) (v := .pointer (some ⟨b1, 0, none⟩)) hsel rfl (QV.move rfl) rfl rfl rfl [0, 1, 2] rfl rfl ?_
  refine JT.take (i := 11) (v := .pointer (some ⟨b1, 0, none⟩)) hsel rfl (QV.nilCheck rfl) rfl rfl rfl [0, 1, 2] rfl rfl ?_
  refine JT.take (i := 12) (v := .pointer (some ⟨b1, 0, none⟩)) hsel rfl (QV.fieldB fo_105_0 rfl rfl) rfl rfl rfl [0, 1, 2] rfl rfl ?_
  refine JT.take (i := 13) (v := .pointer (some ⟨b1, 0 + Int.toNat (2 : Int) * 1, none⟩)) hsel rfl (QV.indexB Try.underlying98 tk_74 rfl rfl (by decide)) rfl rfl rfl [0, 1, 2] rfl rfl ?_
  refine JT.take (i := 14) (v := .int .u32 (gd (x2).l (2 : Int))) hsel rfl (QV.ar1 (ss := [Seg.of (Enc.arr 8 (Enc.int .u32)) x2, Seg.of (Enc.arr 64 (Enc.int .u8)) x3, Seg.c (.int .i64 x4), Seg.c (.int .u64 x5)]) 2 0 rfl tk_74 rfl rfl rfl rfl (by decide) rfl) rfl rfl rfl [0, 1, 2] rfl rfl ?_
  refine JT.take (i := 15) (v := .pointer (some ⟨b1, 0, none⟩)) hsel rfl (QV.move rfl) rfl rfl rfl [0, 1, 2] rfl rfl ?_
  refine JT.take (i := 16) (v := .pointer (some ⟨b1, 0, none⟩)) hsel rfl (QV.nilCheck rfl) rfl rfl rfl [0, 1, 2] rfl rfl ?_
  refine JT.take (i := 17) (v := .pointer (some ⟨b1, 0, none⟩)) hsel rfl (QV.fieldB fo_105_0 rfl rfl) rfl rfl rfl [0, 1, 2] rfl rfl ?_
  refine JT.take (i := 18) (v := .pointer (some ⟨b1, 0 + Int.toNat (3 : Int) * 1, none⟩)) hsel rfl (QV.indexB Try.underlying98 tk_74 rfl rfl (by decide)) rfl rfl rfl [0, 1, 2] rfl rfl ?_
  refine JT.take (i := 19) (v := .int .u32 (gd (x2).l (3 : Int))) hsel rfl (QV.ar1 (ss := [Seg.of (Enc.arr 8 (Enc.int .u32)) x2, Seg.of (Enc.arr 64 (Enc.int .u8)) x3, Seg.c (.int .i64 x4), Seg.c (.int .u64 x5)]) 2 0 rfl tk_74 rfl rfl rfl rfl (by decide) rfl) rfl rfl rfl [0, 1, 2] rfl rfl ?_
  refine JT.take (i := 20) (v := .pointer (some ⟨b1, 0, none⟩)) hsel rfl (QV.move rfl) rfl rfl rfl [0, 1, 2] rfl rfl ?_
  refine JT.take (i := 21) (v := .pointer (some ⟨b1, 0, none⟩)) hsel rfl (QV.nilCheck rfl) rfl rfl rfl [0, 1, 2] rfl rfl ?_
  refine JT.take (i := 22) (v := .pointer (some ⟨b1, 0, none⟩)) hsel rfl (QV.fieldB fo_105_0 rfl rfl) rfl rfl rfl [0, 1, 2] rfl rfl ?_
  refine JT.take (i := 23) (v := .pointer (some ⟨b1, 0 + Int.toNat (4 : Int) * 1, none⟩)) hsel rfl (QV.indexB Try.underlying98 tk_74 rfl rfl (by decide)) rfl rfl rfl [0, 1, 2] rfl rfl ?_
  refine JT.take (i := 24) (v := .int .u32 (gd (x2).l (4 : Int))) hsel rfl (QV.ar1 (ss := [Seg.of (Enc.arr 8 (Enc.int .u32)) x2, Seg.of (Enc.arr 64 (Enc.int .u8)) x3, Seg.c (.int .i64 x4), Seg.c (.int .u64 x5)]) 2 0 rfl tk_74 rfl rfl rfl rfl (by decide) rfl) rfl rfl rfl [0, 1, 2] rfl rfl ?_
  refine JT.take (i := 25) (v := .pointer (some ⟨b1, 0, none⟩)) hsel rfl (QV.move rfl) rfl rfl rfl [0, 1, 2] rfl rfl ?_
  refine JT.take (i := 26) (v := .pointer (some ⟨b1, 0, none⟩)) hsel rfl (QV.nilCheck rfl) rfl rfl rfl [0, 1, 2] rfl rfl ?_
  refine JT.take (i := 27) (v := .pointer (some ⟨b1, 0, none⟩)) hsel rfl (QV.fieldB fo_105_0 rfl rfl) rfl rfl rfl [0, 1, 2] rfl rfl ?_
  refine JT.take (i := 28) (v := .pointer (some ⟨b1, 0 + Int.toNat (5 : Int) * 1, none⟩)) hsel rfl (QV.indexB Try.underlying98 tk_74 rfl rfl (by decide)) rfl rfl rfl [0, 1, 2] rfl rfl ?_
  refine JT.take (i := 29) (v := .int .u32 (gd (x2).l (5 : Int))) hsel rfl (QV.ar1 (ss := [Seg.of (Enc.arr 8 (Enc.int .u32)) x2, Seg.of (Enc.arr 64 (Enc.int .u8)) x3, Seg.c (.int .i64 x4), Seg.c (.int .u64 x5)]) 2 0 rfl tk_74 rfl rfl rfl rfl (by decide) rfl) rfl rfl rfl [0, 1, 2] rfl rfl ?_
  refine JT.take (i := 30) (v := .pointer (some ⟨b1, 0, none⟩)) hsel rfl (QV.move rfl) rfl rfl rfl [0, 1, 2] rfl rfl ?_
  refine JT.take (i := 31) (v := .pointer (some ⟨b1, 0, none⟩)) hsel rfl (QV.nilCheck rfl) rfl rfl rfl [0, 1, 2] rfl rfl ?_
  refine JT.take (i := 32) (v := .pointer (some ⟨b1, 0, none⟩)) hsel rfl (QV.fieldB fo_105_0 rfl rfl) rfl rfl rfl [0, 1, 2] rfl rfl ?_
  refine JT.take (i := 33) (v := .pointer (some ⟨b1, 0 + Int.toNat (6 : Int) * 1, none⟩)) hsel rfl (QV.indexB Try.underlying98 tk_74 rfl rfl (by decide)) rfl rfl rfl [0, 1, 2] rfl rfl ?_
  refine JT.take (i := 34) (v := .int .u32 (gd (x2).l (6 : Int))) hsel rfl (QV.ar1 (ss := [Seg.of (Enc.arr 8 (Enc.int .u32)) x2, Seg.of (Enc.arr 64 (Enc.int .u8)) x3, Seg.c (.int .i64 x4), Seg.c (.int .u64 x5)]) 2 0 rfl tk_74 rfl rfl rfl rfl (by decide) rfl) rfl rfl rfl [0, 1, 2] rfl rfl ?_
  refine JT.take (i := 35) (v := .pointer (some ⟨b1, 0, none⟩)) hsel rfl (QV.move rfl) rfl rfl rfl [0, 1, 2] rfl rfl ?_
  refine JT.take (i := 36) (v := .pointer (some ⟨b1, 0, none⟩)) hsel rfl (QV.nilCheck rfl) rfl rfl rfl [0, 1, 2] rfl rfl ?_
  refine JT.take (i := 37) (v := .pointer (some ⟨b1, 0, none⟩)) hsel rfl (QV.fieldB fo_105_0 rfl rfl) rfl rfl rfl [0, 1, 2] rfl rfl ?_
  refine JT.take (i := 38) (v := .pointer (some ⟨b1, 0 + Int.toNat (7 : Int) * 1, none⟩)) hsel rfl (QV.indexB Try.underlying98 tk_74 rfl rfl (by decide)) rfl rfl rfl [0, 1, 2] rfl rfl ?_
  refine JT.take (i := 39) (v := .int .u32 (gd (x2).l (7 : Int))) hsel rfl (QV.ar1 (ss := [Seg.of (Enc.arr 8 (Enc.int .u32)) x2, Seg.of (Enc.arr 64 (Enc.int .u8)) x3, Seg.c (.int .i64 x4), Seg.c (.int .u64 x5)]) 2 0 rfl tk_74 rfl rfl rfl rfl (by decide) rfl) rfl rfl rfl [0, 1, 2] rfl rfl ?_
  refine JT.only (i := 40) (d := some 6) rfl (MV.ofQV (v := .int .u32 (gd (x2).l (0 : Int))) (QV.assign rfl)) rfl rfl rfl ?_
  rintro _ _ ⟨rfl, rfl⟩
  refine ⟨fun _ => ⟨[0, 1, 2], rfl, rfl⟩, ?_⟩
  refine JT.only (i := 41) (d := some 7) rfl (MV.ofQV (v := .int .u32 (gd (x2).l (1 : Int))) (QV.assign rfl)) rfl rfl rfl ?_
  rintro _ _ ⟨rfl, rfl⟩
  refine ⟨fun _ => ⟨[0, 1, 2], rfl, rfl⟩, ?_⟩
  refine JT.only (i := 42) (d := some 8) rfl (MV.ofQV (v := .int .u32 (gd (x2).l (2 : Int))) (QV.assign rfl)) rfl rfl rfl ?_
  rintro _ _ ⟨rfl, rfl⟩
  refine ⟨fun _ => ⟨[0, 1, 2], rfl, rfl⟩, ?_⟩
  refine JT.only (i := 43) (d := some 9) rfl (MV.ofQV (v := .int .u32 (gd (x2).l (3 : Int))) (QV.assign rfl)) rfl rfl rfl ?_
  rintro _ _ ⟨rfl, rfl⟩
  refine ⟨fun _ => ⟨[0, 1, 2], rfl, rfl⟩, ?_⟩
  refine JT.only (i := 44) (d := some 10) rfl (MV.ofQV (v := .int .u32 (gd (x2).l (4 : Int))) (QV.assign rfl)) rfl rfl rfl ?_
  rintro _ _ ⟨rfl, rfl⟩
  refine ⟨fun _ => ⟨[0, 1, 2], rfl, rfl⟩, ?_⟩
  refine JT.only (i := 45) (d := some 11) rfl (MV.ofQV (v := .int .u32 (gd (x2).l (5 : Int))) (QV.assign rfl)) rfl rfl rfl ?_
  rintro _ _ ⟨rfl, rfl⟩
  refine ⟨fun _ => ⟨[0, 1, 2], rfl, rfl⟩, ?_⟩
  refine JT.only (i := 46) (d := some 12) rfl (MV.ofQV (v := .int .u32 (gd (x2).l (6 : Int))) (QV.assign rfl)) rfl rfl rfl ?_
  rintro _ _ ⟨rfl, rfl⟩
  refine ⟨fun _ => ⟨[0, 1, 2], rfl, rfl⟩, ?_⟩
  refine JT.only (i := 47) (d := some 13) rfl (MV.ofQV (v := .int .u32 (gd (x2).l (7 : Int))) (QV.assign rfl)) rfl rfl rfl ?_
  rintro _ _ ⟨rfl, rfl⟩
  refine ⟨fun _ => ⟨[0, 1, 2], rfl, rfl⟩, ?_⟩
  refine JT.nil ?_
  refine QJ.then_normal ?_
  refine JC.seq ?_
  refine JC.seq ?_
  refine JC.region ?_
  refine JL.val (v := .int .i64 (0 : Int)) (QV.move rfl) rfl rfl rfl ?_
  refine JL.nil ?_
  refine QJ.then_normal ?_
  refine JC.cutK (Y := (Int × Int × Int × Int × Int × Int × Int × Int) × Unit) (fun y => match y with | ((d11, d12, d13, d14, d15, d16, d17, d18), _) => F75.j1 x2 (d11) (d12) (d13) (d14) (d15) (d16) (d17) (d18) = some r) (fun y => match y with | ((d11, d12, d13, d14, d15, d16, d17, d18), _) => [(0, .pointer (some ⟨b1, 0, none⟩)), (6, .int .u32 d11), (7, .int .u32 d12), (8, .int .u32 d13), (9, .int .u32 d14), (10, .int .u32 d15), (11, .int .u32 d16), (12, .int .u32 d17), (13, .int .u32 d18)]) (fun y => match y with | ((d11, d12, d13, d14, d15, d16, d17, d18), _) => [Asr.blk b1 105 [Seg.of (Enc.arr 8 (Enc.int .u32)) x2, Seg.of (Enc.arr 64 (Enc.int .u8)) x3, Seg.c (.int .i64 x4), Seg.c (.int .u64 x5)]]) ?_ ?_
  ·
    rintro ⟨⟨d11, d12, d13, d14, d15, d16, d17, d18⟩, ⟨⟩⟩ hm
    unfold F75.j1 at hm
    show QJ _ _ [(0, .pointer (some ⟨b1, 0, none⟩)), (6, .int .u32 d11), (7, .int .u32 d12), (8, .int .u32 d13), (9, .int .u32 d14), (10, .int .u32 d15), (11, .int .u32 d16), (12, .int .u32 d17), (13, .int .u32 d18)] [Asr.blk b1 105 [Seg.of (Enc.arr 8 (Enc.int .u32)) x2, Seg.of (Enc.arr 64 (Enc.int .u8)) x3, Seg.c (.int .i64 x4), Seg.c (.int .u64 x5)]] _ _
    refine QJ.then_normal ?_
    refine JC.seq ?_
    refine JC.region ?_
    refine JL.val (v := .int .u32 d11) (QV.move rfl) rfl rfl rfl ?_
    refine JL.val (v := .int .u32 d12) (QV.move rfl) rfl rfl rfl ?_
    refine JL.val (v := .int .u32 d13) (QV.move rfl) rfl rfl rfl ?_
    refine JL.val (v := .int .u32 d14) (QV.move rfl) rfl rfl rfl ?_
    refine JL.val (v := .int .u32 d15) (QV.move rfl) rfl rfl rfl ?_
    refine JL.val (v := .int .u32 d16) (QV.move rfl) rfl rfl rfl ?_
    refine JL.val (v := .int .u32 d17) (QV.move rfl) rfl rfl rfl ?_
    refine JL.val (v := .int .u32 d18) (QV.move rfl) rfl rfl rfl ?_
    refine JL.val (v := .agg (((Enc.arr 8 (Enc.int .u32))).enc (⟨[d11, d12, d13, d14, d15, d16, d17, d18], rfl⟩ : (Arr Int 8))).toArray) (QV.build (vals := [(0, .int .u32 d11), (1, .int .u32 d12), (2, .int .u32 d13), (3, .int .u32 d14), (4, .int .u32 d15), (5, .int .u32 d16), (6, .int .u32 d17), (7, .int .u32 d18)]) (cells := ((Enc.arr 8 (Enc.int .u32)).enc (⟨[d11, d12, d13, d14, d15, d16, d17, d18], rfl⟩ : (Arr Int 8))).toArray) rfl (by kernel_rfl)) rfl rfl rfl ?_
    refine JL.val (v := .int .i64 (0 : Int)) (QV.move rfl) rfl rfl rfl ?_
    refine JL.nil ?_
    refine QJ.then_normal ?_
    refine JC.cutK (Y := (Arr Int 8) × Unit) (fun y => match y with | (d19, _) => F75.j2 (d19) = some r) (fun y => match y with | (d19, _) => []) (fun y => match y with | (d19, _) => [Asr.blk b1 105 [Seg.of (Enc.arr 8 (Enc.int .u32)) d19, Seg.of (Enc.arr 64 (Enc.int .u8)) x3, Seg.c (.int .i64 x4), Seg.c (.int .u64 x5)]]) ?_ ?_
    ·
      rintro ⟨d19, ⟨⟩⟩ hm
      unfold F75.j2 at hm
      show QJ _ _ [] [Asr.blk b1 105 [Seg.of (Enc.arr 8 (Enc.int .u32)) d19, Seg.of (Enc.arr 64 (Enc.int .u8)) x3, Seg.c (.int .i64 x4), Seg.c (.int .u64 x5)]] _ _
      obtain rfl := Option.some.inj hm
      exact QJ.body (vs := []) (.inr rfl) rfl ResVs.nil [0] rfl rfl (.inr ⟨own_blk _ _ _, trivial⟩) ⟨rfl, rfl⟩
    ·
      refine JC.block ?_
      obtain ⟨y24, hl25, hmo26⟩ := bind_inv hm
      refine JC.loop (F75.b1 d11 d12 d13 d14 d15 d16 d17 d18) (fun x z => match x, z with | (d20, d21), _ => [(0, .pointer (some ⟨b1, 0, none⟩)), (133, .agg (((Enc.arr 8 (Enc.int .u32))).enc (⟨[d11, d12, d13, d14, d15, d16, d17, d18], rfl⟩ : (Arr Int 8))).toArray), (134, .int .i64 d21)]) (fun x z => match x, z with | (d20, d21), _ => [Asr.blk b1 105 [Seg.of (Enc.arr 8 (Enc.int .u32)) d20, Seg.of (Enc.arr 64 (Enc.int .u8)) x3, Seg.c (.int .i64 x4), Seg.c (.int .u64 x5)]]) (x2, (0 : Int)) () y24 hl25 [0] (by exact ⟨rfl, rfl, rfl, trivial⟩) rfl rfl ?_
      rintro ⟨d20, d21⟩ ⟨⟩ s27 hm
      unfold F75.b1 at hm
      dsimp only at hm
      show JC _ _ _ [(0, .pointer (some ⟨b1, 0, none⟩)), (133, .agg (((Enc.arr 8 (Enc.int .u32))).enc (⟨[d11, d12, d13, d14, d15, d16, d17, d18], rfl⟩ : (Arr Int 8))).toArray), (134, .int .i64 d21)] [Asr.blk b1 105 [Seg.of (Enc.arr 8 (Enc.int .u32)) d20, Seg.of (Enc.arr 64 (Enc.int .u8)) x3, Seg.c (.int .i64 x4), Seg.c (.int .u64 x5)]] _ _
      refine JC.seq ?_
      refine JC.region ?_
      refine JL.val (v := .bool (decide (d21 < (8 : Int)))) (QV.lss rfl rfl) rfl rfl rfl ?_
      refine JL.nil ?_
      refine QJ.then_normal ?_
      refine JC.seq ?_
      rcases ite_inv hm with ⟨h28, hm⟩ | ⟨h28, hm⟩
      ·
        refine JC.condT' rfl (decide_eq_true h28) ?_
        refine JC.skip ?_
        refine QJ.then_normal ?_
        refine JC.seq ?_
        refine JC.block ?_
        refine JC.seq ?_
        refine JC.region ?_
        refine JL.val (v := .int .i64 d21) (QV.move rfl) rfl rfl rfl ?_
        obtain ⟨h29, hm⟩ := guard_inv hm
        refine JL.val (v := .int .u32 (gd ((⟨[d11, d12, d13, d14, d15, d16, d17, d18], rfl⟩ : (Arr Int 8))).l d21)) (QV.indexV (E := (Enc.int .u32)) (xs := (⟨[d11, d12, d13, d14, d15, d16, d17, d18], rfl⟩ : (Arr Int 8))) Try.underlying98 tk_74 rfl rfl rfl h29 rfl) rfl rfl rfl ?_
        refine JL.val (v := .int .i64 d21) (QV.assign rfl) rfl rfl rfl ?_
        refine JL.val (v := .int .u32 (gd ((⟨[d11, d12, d13, d14, d15, d16, d17, d18], rfl⟩ : (Arr Int 8))).l d21)) (QV.assign rfl) rfl rfl rfl ?_
        refine JL.nil ?_
        refine QJ.then_normal ?_
        refine JC.regionT [Asr.blk b1 105 [Seg.of (Enc.arr 8 (Enc.int .u32)) d20, Seg.of (Enc.arr 64 (Enc.int .u8)) x3, Seg.c (.int .i64 x4), Seg.c (.int .u64 x5)]] (fun t => Nat.beq t 11) [(0, true), (1, true), (2, true), (3, true), (4, true), (5, true), (6, true), (7, true), (8, false), (9, false), (10, false), (11, false)] (by kernel_rfl) (by kernel_rfl) (by kernel_rfl) rfl (fun hsel => ?_)
        refine JT.take (i := 0) (v := .pointer (some ⟨b1, 0, none⟩)) hsel rfl (QV.move rfl) rfl rfl rfl [0] rfl rfl ?_
        refine JT.take (i := 1) (v := .int .i64 d21) hsel rfl (QV.move rfl) rfl rfl rfl [0] rfl rfl ?_
        refine JT.take (i := 2) (v := .pointer (some ⟨b1, 0, none⟩)) hsel rfl (QV.nilCheck rfl) rfl rfl rfl [0] rfl rfl ?_
        refine JT.take (i := 3) (v := .pointer (some ⟨b1, 0, none⟩)) hsel rfl (QV.fieldB fo_105_0 rfl rfl) rfl rfl rfl [0] rfl rfl ?_
        refine JT.take (i := 4) (v := .pointer (some ⟨b1, 0 + Int.toNat d21 * 1, none⟩)) hsel rfl (QV.indexB Try.underlying98 tk_74 rfl rfl h29) rfl rfl rfl [0] rfl rfl ?_
        refine JT.take (i := 5) (v := .int .u32 (gd (d20).l d21)) hsel rfl (QV.ar1 (ss := [Seg.of (Enc.arr 8 (Enc.int .u32)) d20, Seg.of (Enc.arr 64 (Enc.int .u8)) x3, Seg.c (.int .i64 x4), Seg.c (.int .u64 x5)]) 0 0 rfl tk_74 rfl rfl rfl rfl h29 rfl) rfl rfl rfl [0] rfl rfl ?_
        refine JT.take (i := 6) (v := .int .u32 (gd ((⟨[d11, d12, d13, d14, d15, d16, d17, d18], rfl⟩ : (Arr Int 8))).l d21)) hsel rfl (QV.move rfl) rfl rfl rfl [0] rfl rfl ?_
        refine JT.take (i := 7) (v := .int .u32 (IntKind.wrap .u32 ((gd (d20).l d21) + (gd ((⟨[d11, d12, d13, d14, d15, d16, d17, d18], rfl⟩ : (Arr Int 8))).l d21)))) hsel rfl (QV.add rfl rfl) rfl rfl rfl [0] rfl rfl ?_
        refine JT.only (i := 8) (d := some 146) rfl (MV.ofQV (v := .pointer (some ⟨b1, 0, none⟩)) (QV.nilCheck rfl)) rfl rfl rfl ?_
        rintro _ _ ⟨rfl, rfl⟩
        refine ⟨fun _ => ⟨[0], rfl, rfl⟩, ?_⟩
        refine JT.only (i := 9) (d := some 147) rfl (MV.ofQV (v := .pointer (some ⟨b1, 0, none⟩)) (QV.fieldB fo_105_0 rfl rfl)) rfl rfl rfl ?_
        rintro _ _ ⟨rfl, rfl⟩
        refine ⟨fun _ => ⟨[0], rfl, rfl⟩, ?_⟩
        refine JT.only (i := 10) (d := some 148) rfl (MV.ofQV (v := .pointer (some ⟨b1, 0 + Int.toNat d21 * 1, none⟩)) (QV.indexB Try.underlying98 tk_74 rfl rfl h29)) rfl rfl rfl ?_
        rintro _ _ ⟨rfl, rfl⟩
        refine ⟨fun _ => ⟨[0], rfl, rfl⟩, ?_⟩
        refine JT.only (i := 11) (d := none) rfl (MV.storeAr (ss := [Seg.of (Enc.arr 8 (Enc.int .u32)) d20, Seg.of (Enc.arr 64 (Enc.int .u8)) x3, Seg.c (.int .i64 x4), Seg.c (.int .u64 x5)]) 0 0 (IntKind.wrap .u32 ((gd (d20).l d21) + (gd ((⟨[d11, d12, d13, d14, d15, d16, d17, d18], rfl⟩ : (Arr Int 8))).l d21))) rfl tk_74 rfl rfl rfl rfl h29 rfl rfl) rfl rfl rfl ?_
        rintro _ _ ⟨rfl, rfl⟩
        refine ⟨fun h => absurd h (by decide), ?_⟩
        refine JT.nil ?_
        refine QJ.block_normal ?_
        refine QJ.then_normal ?_
        refine JC.region ?_
        refine JL.val (v := .int .i64 (IntKind.wrap .i64 (d21 + (1 : Int)))) (QV.add rfl rfl) rfl rfl rfl ?_
        refine JL.val (v := .int .i64 (IntKind.wrap .i64 (d21 + (1 : Int)))) (QV.move rfl) rfl rfl rfl ?_
        refine JL.nil ?_
        obtain rfl := Option.some.inj hm
        exact QJ.round_on ((Arr.set d20 d21 (IntKind.wrap .u32 ((gd (d20).l d21) + (gd ((⟨[d11, d12, d13, d14, d15, d16, d17, d18], rfl⟩ : (Arr Int 8))).l d21)))), (IntKind.wrap .i64 (d21 + (1 : Int)))) () [0] (by exact ⟨rfl, rfl, rfl, trivial⟩) rfl rfl
      ·
        refine JC.condF' rfl (decide_eq_false h28) ?_
        refine JC.exit ?_
        refine QJ.then_exit ?_
        obtain rfl := Option.some.inj hm
        refine QJ.round_exit (fun hy => ?_)
        subst hy
        refine QJ.block_hit ?_
        exact QJ.cut_normal (d20, ()) hmo26 [0] trivial rfl rfl
  ·
    refine JC.block ?_
    obtain ⟨y48, hl49, hmo50⟩ := bind_inv hm
    refine JC.loop (F75.b2 y8) (fun x z => match x, z with | (d30, d31, d32, d33, d34, d35, d36, d37, d38), _ => [(0, .pointer (some ⟨b1, 0, none⟩)), (4, .pointer (some ⟨b7, 0, none⟩)), (5, .pointer (some ⟨b10, 0, none⟩)), (6, .int .u32 d30), (7, .int .u32 d31), (8, .int .u32 d32), (9, .int .u32 d33), (10, .int .u32 d34), (11, .int .u32 d35), (12, .int .u32 d36), (13, .int .u32 d37), (62, .int .i64 d38)]) (fun x z => match x, z with | (d30, d31, d32, d33, d34, d35, d36, d37, d38), _ => [Asr.blk b1 105 [Seg.of (Enc.arr 8 (Enc.int .u32)) x2, Seg.of (Enc.arr 64 (Enc.int .u8)) x3, Seg.c (.int .i64 x4), Seg.c (.int .u64 x5)], Asr.blk b7 99 [Seg.of (Enc.arr 64 (Enc.int .u32)) K1], Asr.blk b10 99 [Seg.of (Enc.arr 64 (Enc.int .u32)) y8]]) ((gd (x2).l (0 : Int)), (gd (x2).l (1 : Int)), (gd (x2).l (2 : Int)), (gd (x2).l (3 : Int)), (gd (x2).l (4 : Int)), (gd (x2).l (5 : Int)), (gd (x2).l (6 : Int)), (gd (x2).l (7 : Int)), (0 : Int)) () y48 hl49 [2, 1, 0] (by exact ⟨rfl, rfl, rfl, rfl, rfl, rfl, rfl, rfl, rfl, rfl, rfl, rfl, trivial⟩) rfl rfl ?_
    rintro ⟨d30, d31, d32, d33, d34, d35, d36, d37, d38⟩ ⟨⟩ s51 hm
    unfold F75.b2 at hm
    dsimp only at hm
    show JC _ _ _ [(0, .pointer (some ⟨b1, 0, none⟩)), (4, .pointer (some ⟨b7, 0, none⟩)), (5, .pointer (some ⟨b10, 0, none⟩)), (6, .int .u32 d30), (7, .int .u32 d31), (8, .int .u32 d32), (9, .int .u32 d33), (10, .int .u32 d34), (11, .int .u32 d35), (12, .int .u32 d36), (13, .int .u32 d37), (62, .int .i64 d38)] [Asr.blk b1 105 [Seg.of (Enc.arr 8 (Enc.int .u32)) x2, Seg.of (Enc.arr 64 (Enc.int .u8)) x3, Seg.c (.int .i64 x4), Seg.c (.int .u64 x5)], Asr.blk b7 99 [Seg.of (Enc.arr 64 (Enc.int .u32)) K1], Asr.blk b10 99 [Seg.of (Enc.arr 64 (Enc.int .u32)) y8]] _ _
    refine JC.seq ?_
    refine JC.region ?_
    refine JL.val (v := .bool (decide (d38 < (64 : Int)))) (QV.lss rfl rfl) rfl rfl rfl ?_
    refine JL.nil ?_
    refine QJ.then_normal ?_
    refine JC.seq ?_
    rcases ite_inv hm with ⟨h52, hm⟩ | ⟨h52, hm⟩
    ·
      refine JC.condT' rfl (decide_eq_true h52) ?_
      refine JC.skip ?_
      refine QJ.then_normal ?_
      refine JC.seq ?_
      refine JC.block ?_
      refine JC.seq ?_
      refine JC.region ?_
      refine JL.val (v := .int .i64 d38) (QV.move rfl) rfl rfl rfl ?_
      refine JL.val (v := .int .i64 d38) (QV.assign rfl) rfl rfl rfl ?_
      refine JL.nil ?_
      refine QJ.then_normal ?_
      refine JC.seq ?_
      refine JC.regionT [Asr.blk b1 105 [Seg.of (Enc.arr 8 (Enc.int .u32)) x2, Seg.of (Enc.arr 64 (Enc.int .u8)) x3, Seg.c (.int .i64 x4), Seg.c (.int .u64 x5)], Asr.blk b7 99 [Seg.of (Enc.arr 64 (Enc.int .u32)) K1], Asr.blk b10 99 [Seg.of (Enc.arr 64 (Enc.int .u32)) y8]] (fun t => false) [(0, true), (1, true), (3, true), (6, true), (10, true), (11, true), (12, true), (13, true), (14, true), (15, true), (16, true), (17, true), (19, true), (20, true), (21, true), (23, true), (24, true), (25, true), (2, false), (4, false), (5, true), (7, false), (8, false), (9, false), (18, false), (22, false), (26, false), (27, false)] (by kernel_rfl) (by kernel_rfl) (by kernel_rfl) rfl (fun hsel => ?_)
      refine JT.take (i := 0) (v := .int .u32 d37) hsel rfl (QV.move rfl) rfl rfl rfl [0, 1, 2] rfl rfl ?_
      refine JT.take (i := 1) (v := .int .u32 d34) hsel rfl (QV.move rfl) rfl rfl rfl [0, 1, 2] rfl rfl ?_
      refine JT.take (i := 3) (v := .int .u32 d34) hsel rfl (QV.move rfl) rfl rfl rfl [0, 1, 2] rfl rfl ?_
      refine JT.take (i := 6) (v := .int .u32 d34) hsel rfl (QV.move rfl) rfl rfl rfl [0, 1, 2] rfl rfl ?_
      refine JT.take (i := 10) (v := .int .u32 d34) hsel rfl (QV.move rfl) rfl rfl rfl [0, 1, 2] rfl rfl ?_
      refine JT.take (i := 11) (v := .int .u32 d35) hsel rfl (QV.move rfl) rfl rfl rfl [0, 1, 2] rfl rfl ?_
      refine JT.take (i := 12) (v := .int .u32 (andI .u32 d34 d35)) hsel rfl (QV.and rfl rfl) rfl rfl rfl [0, 1, 2] rfl rfl ?_
      refine JT.take (i := 13) (v := .int .u32 d34) hsel rfl (QV.move rfl) rfl rfl rfl [0, 1, 2] rfl rfl ?_
      refine JT.take (i := 14) (v := .int .u32 (xorI .u32 (if IntKind.signed .u32 then -1 else IntKind.max .u32) d34)) hsel rfl (QV.com rfl) rfl rfl rfl [0, 1, 2] rfl rfl ?_
      refine JT.take (i := 15) (v := .int .u32 d36) hsel rfl (QV.move rfl) rfl rfl rfl [0, 1, 2] rfl rfl ?_
      refine JT.take (i := 16) (v := .int .u32 (andI .u32 (xorI .u32 (if IntKind.signed .u32 then -1 else IntKind.max .u32) d34) d36)) hsel rfl (QV.and rfl rfl) rfl rfl rfl [0, 1, 2] rfl rfl ?_
      refine JT.take (i := 17) (v := .int .u32 (xorI .u32 (andI .u32 d34 d35) (andI .u32 (xorI .u32 (if IntKind.signed .u32 then -1 else IntKind.max .u32) d34) d36))) hsel rfl (QV.xor rfl rfl) rfl rfl rfl [0, 1, 2] rfl rfl ?_
      refine JT.take (i := 19) (v := .int .i64 d38) hsel rfl (QV.move rfl) rfl rfl rfl [0, 1, 2] rfl rfl ?_
      obtain ⟨h53, hm⟩ := guard_inv hm
      refine JT.take (i := 20) (v := .pointer (some ⟨b7, 0 + Int.toNat d38 * 1, none⟩)) hsel rfl (QV.indexB Try.underlying99 tk_74 rfl rfl h53) rfl rfl rfl [0, 1, 2] rfl rfl ?_
      refine JT.take (i := 21) (v := .int .u32 (gd (K1).l d38)) hsel rfl (QV.ar1 (ss := [Seg.of (Enc.arr 64 (Enc.int .u32)) K1]) 1 0 rfl tk_74 rfl rfl rfl rfl h53 rfl) rfl rfl rfl [0, 1, 2] rfl rfl ?_
      refine JT.take (i := 23) (v := .int .i64 d38) hsel rfl (QV.move rfl) rfl rfl rfl [0, 1, 2] rfl rfl ?_
      refine JT.take (i := 24) (v := .pointer (some ⟨b10, 0 + Int.toNat d38 * 1, none⟩)) hsel rfl (QV.indexB Try.underlying99 tk_74 rfl rfl h53) rfl rfl rfl [0, 1, 2] rfl rfl ?_
      refine JT.take (i := 25) (v := .int .u32 (gd (y8).l d38)) hsel rfl (QV.ar1 (ss := [Seg.of (Enc.arr 64 (Enc.int .u32)) y8]) 2 0 rfl tk_74 rfl rfl rfl rfl h53 rfl) rfl rfl rfl [0, 1, 2] rfl rfl ?_
      obtain ⟨y54, hc55, hm⟩ := bind_inv hm
      refine JT.only (i := 2) (d := some 67) rfl (MV.call (Lo := []) (Lr := [Asr.blk b1 105 [Seg.of (Enc.arr 8 (Enc.int .u32)) x2, Seg.of (Enc.arr 64 (Enc.int .u8)) x3, Seg.c (.int .i64 x4), Seg.c (.int .u64 x5)], Asr.blk b7 99 [Seg.of (Enc.arr 64 (Enc.int .u32)) K1], Asr.blk b10 99 [Seg.of (Enc.arr 64 (Enc.int .u32)) y8]]) (F94.spec (d34) ((-6 : Int)) _ hc55) rfl Try.func94 rfl rfl rfl [] [0, 1, 2] rfl rfl rfl trivial) rfl rfl rfl ?_
      rintro _ _ ⟨_, ⟨rfl, rfl⟩, rfl⟩
      refine ⟨fun _ => ⟨[0, 1, 2], rfl, rfl⟩, ?_⟩
      obtain ⟨y56, hc57, hm⟩ := bind_inv hm
      refine JT.only (i := 4) (d := some 69) rfl (MV.call (Lo := []) (Lr := [Asr.blk b1 105 [Seg.of (Enc.arr 8 (Enc.int .u32)) x2, Seg.of (Enc.arr 64 (Enc.int .u8)) x3, Seg.c (.int .i64 x4), Seg.c (.int .u64 x5)], Asr.blk b7 99 [Seg.of (Enc.arr 64 (Enc.int .u32)) K1], Asr.blk b10 99 [Seg.of (Enc.arr 64 (Enc.int .u32)) y8]]) (F94.spec (d34) ((-11 : Int)) _ hc57) rfl Try.func94 rfl rfl rfl [] [0, 1, 2] rfl rfl rfl trivial) rfl rfl rfl ?_
      rintro _ _ ⟨_, ⟨rfl, rfl⟩, rfl⟩
      refine ⟨fun _ => ⟨[0, 1, 2], rfl, rfl⟩, ?_⟩
      refine JT.take (i := 5) (v := .int .u32 (xorI .u32 y54 y56)) hsel rfl (QV.xor rfl rfl) rfl rfl rfl [0, 1, 2] rfl rfl ?_
      obtain ⟨y58, hc59, hm⟩ := bind_inv hm
      refine JT.only (i := 7) (d := some 72) rfl (MV.call (Lo := []) (Lr := [Asr.blk b1 105 [Seg.of (Enc.arr 8 (Enc.int .u32)) x2, Seg.of (Enc.arr 64 (Enc.int .u8)) x3, Seg.c (.int .i64 x4), Seg.c (.int .u64 x5)], Asr.blk b7 99 [Seg.of (Enc.arr 64 (Enc.int .u32)) K1], Asr.blk b10 99 [Seg.of (Enc.arr 64 (Enc.int .u32)) y8]]) (F94.spec (d34) ((-25 : Int)) _ hc59) rfl Try.func94 rfl rfl rfl [] [0, 1, 2] rfl rfl rfl trivial) rfl rfl rfl ?_
      rintro _ _ ⟨_, ⟨rfl, rfl⟩, rfl⟩
      refine ⟨fun _ => ⟨[0, 1, 2], rfl, rfl⟩, ?_⟩
      refine JT.only (i := 8) (d := some 73) rfl (MV.ofQV (v := .int .u32 (xorI .u32 (xorI .u32 y54 y56) y58)) (QV.xor rfl rfl)) rfl rfl rfl ?_
      rintro _ _ ⟨rfl, rfl⟩
      refine ⟨fun _ => ⟨[0, 1, 2], rfl, rfl⟩, ?_⟩
      refine JT.only (i := 9) (d := some 74) rfl (MV.ofQV (v := .int .u32 (IntKind.wrap .u32 (d37 + (xorI .u32 (xorI .u32 y54 y56) y58)))) (QV.add rfl rfl)) rfl rfl rfl ?_
      rintro _ _ ⟨rfl, rfl⟩
      refine ⟨fun _ => ⟨[0, 1, 2], rfl, rfl⟩, ?_⟩
      refine JT.only (i := 18) (d := some 83) rfl (MV.ofQV (v := .int .u32 (IntKind.wrap .u32 ((IntKind.wrap .u32 (d37 + (xorI .u32 (xorI .u32 y54 y56) y58))) + (xorI .u32 (andI .u32 d34 d35) (andI .u32 (xorI .u32 (if IntKind.signed .u32 then -1 else IntKind.max .u32) d34) d36))))) (QV.add rfl rfl)) rfl rfl rfl ?_
      rintro _ _ ⟨rfl, rfl⟩
      refine ⟨fun _ => ⟨[0, 1, 2], rfl, rfl⟩, ?_⟩
      refine JT.only (i := 22) (d := some 87) rfl (MV.ofQV (v := .int .u32 (IntKind.wrap .u32 ((IntKind.wrap .u32 ((IntKind.wrap .u32 (d37 + (xorI .u32 (xorI .u32 y54 y56) y58))) + (xorI .u32 (andI .u32 d34 d35) (andI .u32 (xorI .u32 (if IntKind.signed .u32 then -1 else IntKind.max .u32) d34) d36)))) + (gd (K1).l d38)))) (QV.add rfl rfl)) rfl rfl rfl ?_
      rintro _ _ ⟨rfl, rfl⟩
      refine ⟨fun _ => ⟨[0, 1, 2], rfl, rfl⟩, ?_⟩
      refine JT.only (i := 26) (d := some 91) rfl (MV.ofQV (v := .int .u32 (IntKind.wrap .u32 ((IntKind.wrap .u32 ((IntKind.wrap .u32 ((IntKind.wrap .u32 (d37 + (xorI .u32 (xorI .u32 y54 y56) y58))) + (xorI .u32 (andI .u32 d34 d35) (andI .u32 (xorI .u32 (if IntKind.signed .u32 then -1 else IntKind.max .u32) d34) d36)))) + (gd (K1).l d38))) + (gd (y8).l d38)))) (QV.add rfl rfl)) rfl rfl rfl ?_
      rintro _ _ ⟨rfl, rfl⟩
      refine ⟨fun _ => ⟨[0, 1, 2], rfl, rfl⟩, ?_⟩
      refine JT.only (i := 27) (d := some 15) rfl (MV.ofQV (v := .int .u32 (IntKind.wrap .u32 ((IntKind.wrap .u32 ((IntKind.wrap .u32 ((IntKind.wrap .u32 (d37 + (xorI .u32 (xorI .u32 y54 y56) y58))) + (xorI .u32 (andI .u32 d34 d35) (andI .u32 (xorI .u32 (if IntKind.signed .u32 then -1 else IntKind.max .u32) d34) d36)))) + (gd (K1).l d38))) + (gd (y8).l d38)))) (QV.assign rfl)) rfl rfl rfl ?_
      rintro _ _ ⟨rfl, rfl⟩
      refine ⟨fun _ => ⟨[0, 1, 2], rfl, rfl⟩, ?_⟩
      refine JT.nil ?_
      refine QJ.then_normal ?_
      refine JC.seq ?_
      refine JC.region ?_
      refine JL.val (v := .int .u32 d30) (QV.move rfl) rfl rfl rfl ?_
      obtain ⟨y60, hc61, hm⟩ := bind_inv hm
      refine JL.mv (d := some 93) (MV.call (Lo := []) (Lr := [Asr.blk b1 105 [Seg.of (Enc.arr 8 (Enc.int .u32)) x2, Seg.of (Enc.arr 64 (Enc.int .u8)) x3, Seg.c (.int .i64 x4), Seg.c (.int .u64 x5)], Asr.blk b7 99 [Seg.of (Enc.arr 64 (Enc.int .u32)) K1], Asr.blk b10 99 [Seg.of (Enc.arr 64 (Enc.int .u32)) y8]]) (F94.spec (d30) ((-2 : Int)) _ hc61) rfl Try.func94 rfl rfl rfl [] [0, 1, 2] rfl rfl rfl trivial) rfl rfl rfl ?_
      rintro _ _ ⟨_, ⟨rfl, rfl⟩, rfl⟩
      refine JL.val (v := .int .u32 d30) (QV.move rfl) rfl rfl rfl ?_
      obtain ⟨y62, hc63, hm⟩ := bind_inv hm
      refine JL.mv (d := some 95) (MV.call (Lo := []) (Lr := [Asr.blk b1 105 [Seg.of (Enc.arr 8 (Enc.int .u32)) x2, Seg.of (Enc.arr 64 (Enc.int .u8)) x3, Seg.c (.int .i64 x4), Seg.c (.int .u64 x5)], Asr.blk b7 99 [Seg.of (Enc.arr 64 (Enc.int .u32)) K1], Asr.blk b10 99 [Seg.of (Enc.arr 64 (Enc.int .u32)) y8]]) (F94.spec (d30) ((-13 : Int)) _ hc63) rfl Try.func94 rfl rfl rfl [] [0, 1, 2] rfl rfl rfl trivial) rfl rfl rfl ?_
      rintro _ _ ⟨_, ⟨rfl, rfl⟩, rfl⟩
      refine JL.val (v := .int .u32 (xorI .u32 y60 y62)) (QV.xor rfl rfl) rfl rfl rfl ?_
      refine JL.val (v := .int .u32 d30) (QV.move rfl) rfl rfl rfl ?_
      obtain ⟨y64, hc65, hm⟩ := bind_inv hm
      refine JL.mv (d := some 98) (MV.call (Lo := []) (Lr := [Asr.blk b1 105 [Seg.of (Enc.arr 8 (Enc.int .u32)) x2, Seg.of (Enc.arr 64 (Enc.int .u8)) x3, Seg.c (.int .i64 x4), Seg.c (.int .u64 x5)], Asr.blk b7 99 [Seg.of (Enc.arr 64 (Enc.int .u32)) K1], Asr.blk b10 99 [Seg.of (Enc.arr 64 (Enc.int .u32)) y8]]) (F94.spec (d30) ((-22 : Int)) _ hc65) rfl Try.func94 rfl rfl rfl [] [0, 1, 2] rfl rfl rfl trivial) rfl rfl rfl ?_
      rintro _ _ ⟨_, ⟨rfl, rfl⟩, rfl⟩
      refine JL.val (v := .int .u32 (xorI .u32 (xorI .u32 y60 y62) y64)) (QV.xor rfl rfl) rfl rfl rfl ?_
      refine JL.val (v := .int .u32 d30) (QV.move rfl) rfl rfl rfl ?_
      refine JL.val (v := .int .u32 d31) (QV.move rfl) rfl rfl rfl ?_
      refine JL.val (v := .int .u32 (andI .u32 d30 d31)) (QV.and rfl rfl) rfl rfl rfl ?_
      refine JL.val (v := .int .u32 d30) (QV.move rfl) rfl rfl rfl ?_
      refine JL.val (v := .int .u32 d32) (QV.move rfl) rfl rfl rfl ?_
      refine JL.val (v := .int .u32 (andI .u32 d30 d32)) (QV.and rfl rfl) rfl rfl rfl ?_
      refine JL.val (v := .int .u32 (xorI .u32 (andI .u32 d30 d31) (andI .u32 d30 d32))) (QV.xor rfl rfl) rfl rfl rfl ?_
      refine JL.val (v := .int .u32 d31) (QV.move rfl) rfl rfl rfl ?_
      refine JL.val (v := .int .u32 d32) (QV.move rfl) rfl rfl rfl ?_
      refine JL.val (v := .int .u32 (andI .u32 d31 d32)) (QV.and rfl rfl) rfl rfl rfl ?_
      refine JL.val (v := .int .u32 (xorI .u32 (xorI .u32 (andI .u32 d30 d31) (andI .u32 d30 d32)) (andI .u32 d31 d32))) (QV.xor rfl rfl) rfl rfl rfl ?_
      refine JL.val (v := .int .u32 (IntKind.wrap .u32 ((xorI .u32 (xorI .u32 y60 y62) y64) + (xorI .u32 (xorI .u32 (andI .u32 d30 d31) (andI .u32 d30 d32)) (andI .u32 d31 d32))))) (QV.add rfl rfl) rfl rfl rfl ?_
      refine JL.val (v := .int .u32 (IntKind.wrap .u32 ((xorI .u32 (xorI .u32 y60 y62) y64) + (xorI .u32 (xorI .u32 (andI .u32 d30 d31) (andI .u32 d30 d32)) (andI .u32 d31 d32))))) (QV.assign rfl) rfl rfl rfl ?_
      refine JL.nil ?_
      refine QJ.then_normal ?_
      refine JC.region ?_
      refine JL.val (v := .int .u32 d36) (QV.move rfl) rfl rfl rfl ?_
      refine JL.val (v := .int .u32 d35) (QV.move rfl) rfl rfl rfl ?_
      refine JL.val (v := .int .u32 d34) (QV.move rfl) rfl rfl rfl ?_
      refine JL.val (v := .int .u32 d33) (QV.move rfl) rfl rfl rfl ?_
      refine JL.val (v := .int .u32 (IntKind.wrap .u32 ((IntKind.wrap .u32 ((IntKind.wrap .u32 ((IntKind.wrap .u32 (d37 + (xorI .u32 (xorI .u32 y54 y56) y58))) + (xorI .u32 (andI .u32 d34 d35) (andI .u32 (xorI .u32 (if IntKind.signed .u32 then -1 else IntKind.max .u32) d34) d36)))) + (gd (K1).l d38))) + (gd (y8).l d38)))) (QV.move rfl) rfl rfl rfl ?_
      refine JL.val (v := .int .u32 (IntKind.wrap .u32 (d33 + (IntKind.wrap .u32 ((IntKind.wrap .u32 ((IntKind.wrap .u32 ((IntKind.wrap .u32 (d37 + (xorI .u32 (xorI .u32 y54 y56) y58))) + (xorI .u32 (andI .u32 d34 d35) (andI .u32 (xorI .u32 (if IntKind.signed .u32 then -1 else IntKind.max .u32) d34) d36)))) + (gd (K1).l d38))) + (gd (y8).l d38)))))) (QV.add rfl rfl) rfl rfl rfl ?_
      refine JL.val (v := .int .u32 d32) (QV.move rfl) rfl rfl rfl ?_
      refine JL.val (v := .int .u32 d31) (QV.move rfl) rfl rfl rfl ?_
      refine JL.val (v := .int .u32 d30) (QV.move rfl) rfl rfl rfl ?_
      refine JL.val (v := .int .u32 (IntKind.wrap .u32 ((IntKind.wrap .u32 ((IntKind.wrap .u32 ((IntKind.wrap .u32 (d37 + (xorI .u32 (xorI .u32 y54 y56) y58))) + (xorI .u32 (andI .u32 d34 d35) (andI .u32 (xorI .u32 (if IntKind.signed .u32 then -1 else IntKind.max .u32) d34) d36)))) + (gd (K1).l d38))) + (gd (y8).l d38)))) (QV.move rfl) rfl rfl rfl ?_
      refine JL.val (v := .int .u32 (IntKind.wrap .u32 ((xorI .u32 (xorI .u32 y60 y62) y64) + (xorI .u32 (xorI .u32 (andI .u32 d30 d31) (andI .u32 d30 d32)) (andI .u32 d31 d32))))) (QV.move rfl) rfl rfl rfl ?_
      refine JL.val (v := .int .u32 (IntKind.wrap .u32 ((IntKind.wrap .u32 ((IntKind.wrap .u32 ((IntKind.wrap .u32 ((IntKind.wrap .u32 (d37 + (xorI .u32 (xorI .u32 y54 y56) y58))) + (xorI .u32 (andI .u32 d34 d35) (andI .u32 (xorI .u32 (if IntKind.signed .u32 then -1 else IntKind.max .u32) d34) d36)))) + (gd (K1).l d38))) + (gd (y8).l d38))) + (IntKind.wrap .u32 ((xorI .u32 (xorI .u32 y60 y62) y64) + (xorI .u32 (xorI .u32 (andI .u32 d30 d31) (andI .u32 d30 d32)) (andI .u32 d31 d32))))))) (QV.add rfl rfl) rfl rfl rfl ?_
      refine JL.val (v := .int .u32 d36) (QV.assign rfl) rfl rfl rfl ?_
      refine JL.val (v := .int .u32 d35) (QV.assign rfl) rfl rfl rfl ?_
      refine JL.val (v := .int .u32 d34) (QV.assign rfl) rfl rfl rfl ?_
      refine JL.val (v := .int .u32 (IntKind.wrap .u32 (d33 + (IntKind.wrap .u32 ((IntKind.wrap .u32 ((IntKind.wrap .u32 ((IntKind.wrap .u32 (d37 + (xorI .u32 (xorI .u32 y54 y56) y58))) + (xorI .u32 (andI .u32 d34 d35) (andI .u32 (xorI .u32 (if IntKind.signed .u32 then -1 else IntKind.max .u32) d34) d36)))) + (gd (K1).l d38))) + (gd (y8).l d38)))))) (QV.assign rfl) rfl rfl rfl ?_
      refine JL.val (v := .int .u32 d32) (QV.assign rfl) rfl rfl rfl ?_
      refine JL.val (v := .int .u32 d31) (QV.assign rfl) rfl rfl rfl ?_
      refine JL.val (v := .int .u32 d30) (QV.assign rfl) rfl rfl rfl ?_
      refine JL.val (v := .int .u32 (IntKind.wrap .u32 ((IntKind.wrap .u32 ((IntKind.wrap .u32 ((IntKind.wrap .u32 ((IntKind.wrap .u32 (d37 + (xorI .u32 (xorI .u32 y54 y56) y58))) + (xorI .u32 (andI .u32 d34 d35) (andI .u32 (xorI .u32 (if IntKind.signed .u32 then -1 else IntKind.max .u32) d34) d36)))) + (gd (K1).l d38))) + (gd (y8).l d38))) + (IntKind.wrap .u32 ((xorI .u32 (xorI .u32 y60 y62) y64) + (xorI .u32 (xorI .u32 (andI .u32 d30 d31) (andI .u32 d30 d32)) (andI .u32 d31 d32))))))) (QV.assign rfl) rfl rfl rfl ?_
      refine JL.nil ?_
      refine QJ.block_normal ?_
      refine QJ.then_normal ?_
      refine JC.region ?_
      refine JL.val (v := .int .i64 (IntKind.wrap .i64 (d38 + (1 : Int)))) (QV.add rfl rfl) rfl rfl rfl ?_
      refine JL.val (v := .int .i64 (IntKind.wrap .i64 (d38 + (1 : Int)))) (QV.move rfl) rfl rfl rfl ?_
      refine JL.nil ?_
      obtain rfl := Option.some.inj hm
      exact QJ.round_on ((IntKind.wrap .u32 ((IntKind.wrap .u32 ((IntKind.wrap .u32 ((IntKind.wrap .u32 ((IntKind.wrap .u32 (d37 + (xorI .u32 (xorI .u32 y54 y56) y58))) + (xorI .u32 (andI .u32 d34 d35) (andI .u32 (xorI .u32 (if IntKind.signed .u32 then -1 else IntKind.max .u32) d34) d36)))) + (gd (K1).l d38))) + (gd (y8).l d38))) + (IntKind.wrap .u32 ((xorI .u32 (xorI .u32 y60 y62) y64) + (xorI .u32 (xorI .u32 (andI .u32 d30 d31) (andI .u32 d30 d32)) (andI .u32 d31 d32)))))), d30, d31, d32, (IntKind.wrap .u32 (d33 + (IntKind.wrap .u32 ((IntKind.wrap .u32 ((IntKind.wrap .u32 ((IntKind.wrap .u32 (d37 + (xorI .u32 (xorI .u32 y54 y56) y58))) + (xorI .u32 (andI .u32 d34 d35) (andI .u32 (xorI .u32 (if IntKind.signed .u32 then -1 else IntKind.max .u32) d34) d36)))) + (gd (K1).l d38))) + (gd (y8).l d38))))), d34, d35, d36, (IntKind.wrap .i64 (d38 + (1 : Int)))) () [0, 1, 2] (by exact ⟨rfl, rfl, rfl, rfl, rfl, rfl, rfl, rfl, rfl, rfl, rfl, rfl, trivial⟩) rfl rfl
    ·
      refine JC.condF' rfl (decide_eq_false h52) ?_
      refine JC.exit ?_
      refine QJ.then_exit ?_
      obtain rfl := Option.some.inj hm
      refine QJ.round_exit (fun hy => ?_)
      subst hy
      refine QJ.block_hit ?_
      exact QJ.cut_normal ((d30, d31, d32, d33, d34, d35, d36, d37), ()) hmo50 [0] (by exact ⟨rfl, rfl, rfl, rfl, rfl, rfl, rfl, rfl, rfl, trivial⟩) rfl rfl

/-! ### 75: (*drogher/sha.Hash).takes -/
noncomputable def F75_1.j2  (d21 : (Arr Int 8)) : Option (Arr Int 8) :=
  some d21
noncomputable def F75_1.b1 (d13 : Int) (d14 : Int) (d15 : Int) (d16 : Int) (d17 : Int) (d18 : Int) (d19 : Int) (d20 : Int) : ((Arr Int 8) × Int) → Option (((Arr Int 8) × Int) ⊕ (Arr Int 8))
  | (d22, d23) => (if d23 < (8 : Int) then (if 0 ≤ d23 ∧ d23 < 8 then some (.inl ((Arr.set d22 d23 (IntKind.wrap .u32 ((gd (d22).l d23) + (gd ((⟨[d13, d14, d15, d16, d17, d18, d19, d20], rfl⟩ : (Arr Int 8))).l d23)))), (IntKind.wrap .i64 (d23 + (1 : Int))))) else none) else some (.inr d22))
noncomputable def F75_1.j1 (x2 : (Arr Int 8)) (d13 : Int) (d14 : Int) (d15 : Int) (d16 : Int) (d17 : Int) (d18 : Int) (d19 : Int) (d20 : Int) : Option (Arr Int 8) :=
  ((loop (F75_1.b1 d13 d14 d15 d16 d17 d18 d19 d20) (x2, (0 : Int))).bind fun y => match y with | d21 => F75_1.j2 (d21))
noncomputable def F75_1.b2 (y10 : (Arr Int 64)) : (Int × Int × Int × Int × Int × Int × Int × Int × Int) → Option ((Int × Int × Int × Int × Int × Int × Int × Int × Int) ⊕ (Int × Int × Int × Int × Int × Int × Int × Int))
  | (d32, d33, d34, d35, d36, d37, d38, d39, d40) => (if d40 < (64 : Int) then (if 0 ≤ d40 ∧ d40 < 64 then ((F94.m (d36) ((-6 : Int))).bind fun y56 => ((F94.m (d36) ((-11 : Int))).bind fun y58 => ((F94.m (d36) ((-25 : Int))).bind fun y60 => ((F94.m (d32) ((-2 : Int))).bind fun y62 => ((F94.m (d32) ((-13 : Int))).bind fun y64 => ((F94.m (d32) ((-22 : Int))).bind fun y66 => some (.inl ((IntKind.wrap .u32 ((IntKind.wrap .u32 ((IntKind.wrap .u32 ((IntKind.wrap .u32 ((IntKind.wrap .u32 (d39 + (xorI .u32 (xorI .u32 y56 y58) y60))) + (xorI .u32 (andI .u32 d36 d37) (andI .u32 (xorI .u32 (if IntKind.signed .u32 then -1 else IntKind.max .u32) d36) d38)))) + (gd (K1).l d40))) + (gd (y10).l d40))) + (IntKind.wrap .u32 ((xorI .u32 (xorI .u32 y62 y64) y66) + (xorI .u32 (xorI .u32 (andI .u32 d32 d33) (andI .u32 d32 d34)) (andI .u32 d33 d34)))))), d32, d33, d34, (IntKind.wrap .u32 (d35 + (IntKind.wrap .u32 ((IntKind.wrap .u32 ((IntKind.wrap .u32 ((IntKind.wrap .u32 (d39 + (xorI .u32 (xorI .u32 y56 y58) y60))) + (xorI .u32 (andI .u32 d36 d37) (andI .u32 (xorI .u32 (if IntKind.signed .u32 then -1 else IntKind.max .u32) d36) d38)))) + (gd (K1).l d40))) + (gd (y10).l d40))))), d36, d37, d38, (IntKind.wrap .i64 (d40 + (1 : Int))))))))))) else none) else some (.inr (d32, d33, d34, d35, d36, d37, d38, d39)))
noncomputable def F75_1.m (x2 : (Arr Int 8)) (x3 : (Arr Int 64)) (x4 : Int) (x5 : Int) (x7 : List Int) : Option (Arr Int 8) :=
  ((F93.m (x7)).bind fun y10 => ((loop (F75_1.b2 y10) ((gd (x2).l (0 : Int)), (gd (x2).l (1 : Int)), (gd (x2).l (2 : Int)), (gd (x2).l (3 : Int)), (gd (x2).l (4 : Int)), (gd (x2).l (5 : Int)), (gd (x2).l (6 : Int)), (gd (x2).l (7 : Int)), (0 : Int))).bind fun y => match y with | (d13, d14, d15, d16, d17, d18, d19, d20) => F75_1.j1 x2 (d13) (d14) (d15) (d16) (d17) (d18) (d19) (d20)))
set_option maxRecDepth 100000 in
set_option maxHeartbeats 4000000 in
theorem F75_1.spec (b1 : Nat) (s6 : SlV) (x2 : (Arr Int 8)) (x3 : (Arr Int 64)) (x4 : Int) (x5 : Int) (x7 : List Int) (r : (Arr Int 8)) (hm : F75_1.m x2 x3 x4 x5 x7 = some r) :
    Ctr Try.prog false 75 [.pointer (some ⟨b1, 0, none⟩), s6.v] [Asr.blk b1 105 [Seg.of (Enc.arr 8 (Enc.int .u32)) x2, Seg.of (Enc.arr 64 (Enc.int .u8)) x3, Seg.c (.int .i64 x4), Seg.c (.int .u64 x5)], Asr.vw (Enc.int .u8) (s6.v) x7] (fun v L' => v = .tuple #[] ∧ L' = [Asr.blk b1 105 [Seg.of (Enc.arr 8 (Enc.int .u32)) r, Seg.of (Enc.arr 64 (Enc.int .u8)) x3, Seg.c (.int .i64 x4), Seg.c (.int .u64 x5)]]) := by
  refine Ctr.intro (n := 150) (env := [(0, .pointer (some ⟨b1, 0, none⟩)), (1, s6.v)]) Try.func75 rfl rfl rfl rfl (fun c => ?_)
  unfold F75_1.m at hm
  refine JC.seq ?_
  refine JC.region ?_
  refine JL.val (v := .agg (((Enc.arr 64 (Enc.int .u32))).enc K1).toArray) (QV.build (vals := [(0, .int .u32 (1116352408 : Int)), (1, .int .u32 (1899447441 : Int)), (2, .int .u32 (3049323471 : Int)), (3, .int .u32 (3921009573 : Int)), (4, .int .u32 (961987163 : Int)), (5, .int .u32 (1508970993 : Int)), (6, .int .u32 (2453635748 : Int)), (7, .int .u32 (2870763221 : Int)), (8, .int .u32 (3624381080 : Int)), (9, .int .u32 (310598401 : Int)), (10, .int .u32 (607225278 : Int)), (11, .int .u32 (1426881987 : Int)), (12, .int .u32 (1925078388 : Int)), (13, .int .u32 (2162078206 : Int)), (14, .int .u32 (2614888103 : Int)), (15, .int .u32 (3248222580 : Int)), (16, .int .u32 (3835390401 : Int)), (17, .int .u32 (4022224774 : Int)), (18, .int .u32 (264347078 : Int)), (19, .int .u32 (604807628 : Int)), (20, .int .u32 (770255983 : Int)), (21, .int .u32 (1249150122 : Int)), (22, .int .u32 (1555081692 : Int)), (23, .int .u32 (1996064986 : Int)), (24, .int .u32 (2554220882 : Int)), (25, .int .u32 (2821834349 : Int)), (26, .int .u32 (2952996808 : Int)), (27, .int .u32 (3210313671 : Int)), (28, .int .u32 (3336571891 : Int)), (29, .int .u32 (3584528711 : Int)), (30, .int .u32 (113926993 : Int)), (31, .int .u32 (338241895 : Int)), (32, .int .u32 (666307205 : Int)), (33, .int .u32 (773529912 : Int)), (34, .int .u32 (1294757372 : Int)), (35, .int .u32 (1396182291 : Int)), (36, .int .u32 (1695183700 : Int)), (37, .int .u32 (1986661051 : Int)), (38, .int .u32 (2177026350 : Int)), (39, .int .u32 (2456956037 : Int)), (40, .int .u32 (2730485921 : Int)), (41, .int .u32 (2820302411 : Int)), (42, .int .u32 (3259730800 : Int)), (43, .int .u32 (3345764771 : Int)), (44, .int .u32 (3516065817 : Int)), (45, .int .u32 (3600352804 : Int)), (46, .int .u32 (4094571909 : Int)), (47, .int .u32 (275423344 : Int)), (48, .int .u32 (430227734 : Int)), (49, .int .u32 (506948616 : Int)), (50, .int .u32 (659060556 : Int)), (51, .int .u32 (883997877 : Int)), (52, .int .u32 (958139571 : Int)), (53, .int .u32 (1322822218 : Int)), (54, .int .u32 (1537002063 : Int)), (55, .int .u32 (1747873779 : Int)), (56, .int .u32 (1955562222 : Int)), (57, .int .u32 (2024104815 : Int)), (58, .int .u32 (2227730452 : Int)), (59, .int .u32 (2361852424 : Int)), (60, .int .u32 (2428436474 : Int)), (61, .int .u32 (2756734187 : Int)), (62, .int .u32 (3204031479 : Int)), (63, .int .u32 (3329325298 : Int))]) (cells := ((Enc.arr 64 (Enc.int .u32)).enc K1).toArray) rfl (by kernel_rfl)) rfl rfl rfl ?_
  refine JL.mv (d := some 4) (MV.alloc [Seg.of (Enc.arr 64 (Enc.int .u32)) (Arr.rep 64 (0 : Int))] z_99 rfl) rfl rfl rfl ?_
  rintro _ _ ⟨b9, rfl, rfl⟩
  refine JL.mv (d := none) (MV.store (ss := [Seg.of (Enc.arr 64 (Enc.int .u32)) (Arr.rep 64 (0 : Int))]) 0 0 1 [Seg.of (Enc.arr 64 (Enc.int .u32)) K1] rfl tk_99 rfl rfl rfl rfl (fun w hs => ⟨rfl, one_of _ _, trivial⟩)) rfl rfl rfl ?_
  rintro _ _ ⟨rfl, rfl⟩
  refine JL.nil ?_
  refine QJ.then_normal ?_
  refine JC.seq ?_
  refine JC.region ?_
  refine JL.val (v := s6.v) (QV.move rfl) rfl rfl rfl ?_
  obtain ⟨y10, hc11, hm⟩ := bind_inv hm
  refine JL.mv (d := some 21) (MV.call (Lo := []) (Lr := [Asr.blk b9 99 [Seg.of (Enc.arr 64 (Enc.int .u32)) K1], Asr.blk b1 105 [Seg.of (Enc.arr 8 (Enc.int .u32)) x2, Seg.of (Enc.arr 64 (Enc.int .u8)) x3, Seg.c (.int .i64 x4), Seg.c (.int .u64 x5)], Asr.vw (Enc.int .u8) (s6.v) x7]) (F93.spec (s6) (x7) _ hc11) rfl Try.func93 rfl rfl rfl [] [0, 1, 2] rfl rfl rfl ⟨(Drv.vw 2 rfl), trivial⟩) rfl rfl rfl ?_
  rintro _ _ ⟨_, ⟨rfl, rfl⟩, rfl⟩
  refine JL.mv (d := some 5) (MV.alloc [Seg.of (Enc.arr 64 (Enc.int .u32)) (Arr.rep 64 (0 : Int))] z_99 rfl) rfl rfl rfl ?_
  rintro _ _ ⟨b12, rfl, rfl⟩
  refine JL.mv (d := none) (MV.store (ss := [Seg.of (Enc.arr 64 (Enc.int .u32)) (Arr.rep 64 (0 : Int))]) 0 0 1 [Seg.of (Enc.arr 64 (Enc.int .u32)) y10] rfl tk_99 rfl rfl rfl rfl (fun w hs => ⟨rfl, one_of _ _, trivial⟩)) rfl rfl rfl ?_
  rintro _ _ ⟨rfl, rfl⟩
  refine JL.nil ?_
  refine QJ.then_normal ?_
  refine JC.seq ?_
  refine JC.regionT [Asr.blk b12 99 [Seg.of (Enc.arr 64 (Enc.int .u32)) y10], Asr.blk b9 99 [Seg.of (Enc.arr 64 (Enc.int .u32)) K1], Asr.blk b1 105 [Seg.of (Enc.arr 8 (Enc.int .u32)) x2, Seg.of (Enc.arr 64 (Enc.int .u8)) x3, Seg.c (.int .i64 x4), Seg.c (.int .u64 x5)], Asr.vw (Enc.int .u8) (s6.v) x7] (fun t => false) [(0, true), (1, true), (2, true), (3, true), (4, true), (5, true), (6, true), (7, true), (8, true), (9, true), (10, true), (11, true), (12, true), (13, true), (14, true), (15, true), (16, true), (17, true), (18, true), (19, true), (20, true), (21, true), (22, true), (23, true), (24, true), (25, true), (26, true), (27, true), (28, true), (29, true), (30, true), (31, true), (32, true), (33, true), (34, true), (35, true), (36, true), (37, true), (38, true), (39, true), (40, false), (41, false), (42, false), (43, false), (44, false), (45, false), (46, false), (47, false)] (by kernel_rfl) (by kernel_rfl) (by kernel_rfl) rfl (fun hsel => ?_)
  refine JT.take (i := 0) (v := .pointer (some ⟨b1, 0, none⟩)) hsel rfl (QV.move rfl) rfl rfl rfl [0, 1, 2, 3] rfl rfl ?_
  refine JT.take (i := 1) (v := .pointer (some ⟨b1, 0, none⟩)) hsel rfl (QV.nilCheck rfl) rfl rfl rfl [0, 1, 2, 3] rfl rfl ?_
  refine JT.take (i := 2) (v := .pointer (some ⟨b1, 0, none⟩)) hsel rfl (QV.fieldB fo_105_0 rfl rfl) rfl rfl rfl [0, 1, 2, 3] rfl rfl ?_
  refine JT.take (i := 3) (v := .pointer (some ⟨b1, 0 + Int.toNat (0 : Int) * 1, none⟩)) hsel rfl (QV.indexB Try.underlying98 tk_74 rfl rfl (by decide)) rfl rfl rfl [0, 1, 2, 3] rfl rfl ?_
  refine JT.take (i := 4) (v := .int .u32 (gd (x2).l (0 : Int))) hsel rfl (QV.ar1 (ss := [Seg.of (Enc.arr 8 (Enc.int .u32)) x2, Seg.of (Enc.arr 64 (Enc.int .u8)) x3, Seg.c (.int .i64 x4), Seg.c (.int .u64 x5)]) 2 0 rfl tk_74 rfl rfl rfl rfl (by decide) rfl) rfl rfl rfl [0, 1, 2, 3] rfl rfl ?_
  refine JT.take (i := 5) (v := .pointer (some ⟨b1, 0, none⟩)) hsel rfl (QV.move rfl) rfl rfl rfl [0, 1, 2, 3] rfl rfl ?_
  refine JT.take (i := 6) (v := .pointer (some ⟨b1, 0, none⟩)) hsel rfl (QV.nilCheck rfl) rfl rfl rfl [0, 1, 2, 3] rfl rfl ?_
  refine JT.take (i := 7) (v := .pointer (some ⟨b1, 0, none⟩)) hsel rfl (QV.fieldB fo_105_0 rfl rfl) rfl rfl rfl [0, 1, 2, 3] rfl rfl ?_
  refine JT.take (i := 8) (v := .pointer (some ⟨b1, 0 + Int.toNat (1 : Int) * 1, none⟩)) hsel rfl (QV.indexB Try.underlying98 tk_74 rfl rfl (by decide)) rfl rfl rfl [0, 1, 2, 3] rfl rfl ?_
  refine JT.take (i := 9) (v := .int .u32 (gd (x2).l (1 : Int))) hsel rfl (QV.ar1 (ss := [Seg.of (Enc.arr 8 (Enc.int .u32)) x2, Seg.of (Enc.arr 64 (Enc.int .u8)) x3, Seg.c (.int .i64 x4), Seg.c (.int .u64 x5)]) 2 0 rfl tk_74 rfl rfl rfl rfl (by decide) rfl) rfl rfl rfl [0, 1, 2, 3] rfl rfl ?_
  refine JT.take (i := 10) (v := .pointer (some ⟨b1, 0, none⟩)) hsel rfl (QV.move rfl) rfl rfl rfl [0, 1, 2, 3] rfl rfl ?_
  refine JT.take (i := 11) (v := .pointer (some ⟨b1, 0, none⟩)) hsel rfl (QV.nilCheck rfl) rfl rfl rfl [0, 1, 2, 3] rfl rfl ?_
  refine JT.take (i := 12) (v := .pointer (some ⟨b1, 0, none⟩)) hsel rfl (QV.fieldB fo_105_0 rfl rfl) rfl rfl rfl [0, 1, 2, 3] rfl rfl ?_
  refine JT.take (i := 13) (v := .pointer (some ⟨b1, 0 + Int.toNat (2 : Int) * 1, none⟩)) hsel rfl (QV.indexB Try.underlying98 tk_74 rfl rfl (by decide)) rfl rfl rfl [0, 1, 2, 3] rfl rfl ?_
  refine JT.take (i := 14) (v := .int .u32 (gd (x2).l (2 : Int))) hsel rfl (QV.ar1 (ss := [Seg.of (Enc.arr 8 (Enc.int .u32)) x2, Seg.of (Enc.arr 64 (Enc.int .u8)) x3, Seg.c (.int .i64 x4), Seg.c (.int .u64 x5)]) 2 0 rfl tk_74 rfl rfl rfl rfl (by decide) rfl) rfl rfl rfl [0, 1, 2, 3] rfl rfl ?_
  refine JT.take (i := 15) (v := .pointer (some ⟨b1, 0, none⟩)) hsel rfl (QV.move rfl) rfl rfl rfl [0, 1, 2, 3] rfl rfl ?_
  refine JT.take (i := 16) (v := .pointer (some ⟨b1, 0, none⟩)) hsel rfl (QV.nilCheck rfl) rfl rfl rfl [0, 1, 2, 3] rfl rfl ?_
  refine JT.take (i := 17) (v := .pointer (some ⟨b1, 0, none⟩)) hsel rfl (QV.fieldB fo_105_0 rfl rfl) rfl rfl rfl [0, 1, 2, 3] rfl rfl ?_
  refine JT.take (i := 18) (v := .pointer (some ⟨b1, 0 + Int.toNat (3 : Int) * 1, none⟩)) hsel rfl (QV.indexB Try.underlying98 tk_74 rfl rfl (by decide)) rfl rfl rfl [0, 1, 2, 3] rfl rfl ?_
  refine JT.take (i := 19) (v := .int .u32 (gd (x2).l (3 : Int))) hsel rfl (QV.ar1 (ss := [Seg.of (Enc.arr 8 (Enc.int .u32)) x2, Seg.of (Enc.arr 64 (Enc.int .u8)) x3, Seg.c (.int .i64 x4), Seg.c (.int .u64 x5)]) 2 0 rfl tk_74 rfl rfl rfl rfl (by decide) rfl) rfl rfl rfl [0, 1, 2, 3] rfl rfl ?_
  refine JT.take (i := 20) (v := .pointer (some ⟨b1, 0, none⟩)) hsel rfl (QV.move rfl) rfl rfl rfl [0, 1, 2, 3] rfl rfl ?_
  refine JT.take (i := 21) (v := .pointer (some ⟨b1, 0, none⟩)) hsel rfl (QV.nilCheck rfl) rfl rfl rfl [0, 1, 2, 3] rfl rfl ?_
  refine JT.take (i := 22) (v := .pointer (some ⟨b1, 0, none⟩)) hsel rfl (QV.fieldB fo_105_0 rfl rfl) rfl rfl rfl [0, 1, 2, 3] rfl rfl ?_
  refine JT.take (i := 23) (v := .pointer (some ⟨b1, 0 + Int.toNat (4 : Int) * 1, none⟩)) hsel rfl (QV.indexB Try.underlying98 tk_74 rfl rfl (by decide)) rfl rfl rfl [0, 1, 2, 3] rfl rfl ?_
  refine JT.take (i := 24) (v := .int .u32 (gd (x2).l (4 : Int))) hsel rfl (QV.ar1 (ss := [Seg.of (Enc.arr 8 (Enc.int .u32)) x2, Seg.of (Enc.arr 64 (Enc.int .u8)) x3, Seg.c (.int .i64 x4), Seg.c (.int .u64 x5)]) 2 0 rfl tk_74 rfl rfl rfl rfl (by decide) rfl) rfl rfl rfl [0, 1, 2, 3] rfl rfl ?_
  refine JT.take (i := 25) (v := .pointer (some ⟨b1, 0, none⟩)) hsel rfl (QV.move rfl) rfl rfl rfl [0, 1, 2, 3] rfl rfl ?_
  refine JT.take (i := 26) (v := .pointer (some ⟨b1, 0, none⟩)) hsel rfl (QV.nilCheck rfl) rfl rfl rfl [0, 1, 2, 3] rfl rfl ?_
  refine JT.take (i := 27) (v := .pointer (some ⟨b1, 0, none⟩)) hsel rfl (QV.fieldB fo_105_0 rfl rfl) rfl rfl rfl [0, 1, 2, 3] rfl rfl ?_
  refine JT.take (i := 28) (v := .pointer (some ⟨b1, 0 + Int.toNat (5 : Int) * 1, none⟩)) hsel rfl (QV.indexB Try.underlying98 tk_74 rfl rfl (by decide)) rfl rfl rfl [0, 1, 2, 3] rfl rfl ?_
  refine JT.take (i := 29) (v := .int .u32 (gd (x2).l (5 : Int))) hsel rfl (QV.ar1 (ss := [Seg.of (Enc.arr 8 (Enc.int .u32)) x2, Seg.of (Enc.arr 64 (Enc.int .u8)) x3, Seg.c (.int .i64 x4), Seg.c (.int .u64 x5)]) 2 0 rfl tk_74 rfl rfl rfl rfl (by decide) rfl) rfl rfl rfl [0, 1, 2, 3] rfl rfl ?_
  refine JT.take (i := 30) (v := .pointer (some ⟨b1, 0, none⟩)) hsel rfl (QV.move rfl) rfl rfl rfl [0, 1, 2, 3] rfl rfl ?_
  refine JT.take (i := 31) (v := .pointer (some ⟨b1, 0, none⟩)) hsel rfl (QV.nilCheck rfl) rfl rfl rfl [0, 1, 2, 3] rfl rfl ?_
  refine JT.take (i := 32) (v := .pointer (some ⟨b1, 0, none⟩)) hsel rfl (QV.fieldB fo_105_0 rfl rfl) rfl rfl rfl [0, 1, 2, 3] rfl rfl ?_
  refine JT.take (i := 33) (v := .pointer (some ⟨b1, 0 + Int.toNat (6 : Int) * 1, none⟩)) hsel rfl (QV.indexB Try.underlying98 tk_74 rfl rfl (by decide)) rfl rfl rfl [0, 1, 2, 3] rfl rfl ?_
  refine JT.take (i := 34) (v := .int .u32 (gd (x2).l (6 : Int))) hsel rfl (QV.ar1 (ss := [Seg.of (Enc.arr 8 (Enc.int .u32)) x2, Seg.of (Enc.arr 64 (Enc.int .u8)) x3, Seg.c (.int .i64 x4), Seg.c (.int .u64 x5)]) 2 0 rfl tk_74 rfl rfl rfl rfl (by decide) rfl) rfl rfl rfl [0, 1, 2, 3] rfl rfl ?_
  refine JT.take (i := 35) (v := .pointer (some ⟨b1, 0, none⟩)) hsel rfl (QV.move rfl) rfl rfl rfl [0, 1, 2, 3] rfl rfl ?_
  refine JT.take (i := 36) (v := .pointer (some ⟨b1, 0, none⟩)) hsel rfl (QV.nilCheck rfl) rfl rfl rfl [0, 1, 2, 3] rfl rfl ?_
  refine JT.take (i := 37) (v := .pointer (some ⟨b1, 0, none⟩)) hsel rfl (QV.fieldB fo_105_0 rfl rfl) rfl rfl rfl [0, 1, 2, 3] rfl rfl ?_
  refine JT.take (i := 38) (v := .pointer (some ⟨b1, 0 + Int.toNat (7 : Int) * 1, none⟩)) hsel rfl (QV.indexB Try.underlying98 tk_74 rfl rfl (by decide)) rfl rfl rfl [0, 1, 2, 3] rfl rfl ?_
  refine JT.take (i := 39) (v := .int .u32 (gd (x2).l (7 : Int))) hsel rfl (QV.ar1 (ss := [Seg.of (Enc.arr 8 (Enc.int .u32)) x2, Seg.of (Enc.arr 64 (Enc.int .u8)) x3, Seg.c (.int .i64 x4), Seg.c (.int .u64 x5)]) 2 0 rfl tk_74 rfl rfl rfl rfl (by decide) rfl) rfl rfl rfl [0, 1, 2, 3] rfl rfl ?_
  refine JT.only (i := 40) (d := some 6) rfl (MV.ofQV (v := .int .u32 (gd (x2).l (0 : Int))) (QV.assign rfl)) rfl rfl rfl ?_
  rintro _ _ ⟨rfl, rfl⟩
  refine ⟨fun _ => ⟨[0, 1, 2, 3], rfl, rfl⟩, ?_⟩
  refine JT.only (i := 41) (d := some 7) rfl (MV.ofQV (v := .int .u32 (gd (x2).l (1 : Int))) (QV.assign rfl)) rfl rfl rfl ?_
  rintro _ _ ⟨rfl, rfl⟩
  refine ⟨fun _ => ⟨[0, 1, 2, 3], rfl, rfl⟩, ?_⟩
  refine JT.only (i := 42) (d := some 8) rfl (MV.ofQV (v := .int .u32 (gd (x2).l (2 : Int))) (QV.assign rfl)) rfl rfl rfl ?_
  rintro _ _ ⟨rfl, rfl⟩
  refine ⟨fun _ => ⟨[0, 1, 2, 3], rfl, rfl⟩, ?_⟩
  refine JT.only (i := 43) (d := some 9) rfl (MV.ofQV (v := .int .u32 (gd (x2).l (3 : Int))) (QV.assign rfl)) rfl rfl rfl ?_
  rintro _ _ ⟨rfl, rfl⟩
  refine ⟨fun _ => ⟨[0, 1, 2, 3], rfl, rfl⟩, ?_⟩
  refine JT.only (i := 44) (d := some 10) rfl (MV.ofQV (v := .int .u32 (gd (x2).l (4 : Int))) (QV.assign rfl)) rfl rfl rfl ?_
  rintro _ _ ⟨rfl, rfl⟩
  refine ⟨fun _ => ⟨[0, 1, 2, 3], rfl, rfl⟩, ?_⟩
  refine JT.only (i := 45) (d := some 11) rfl (MV.ofQV (v := .int .u32 (gd (x2).l (5 : Int))) (QV.assign rfl)) rfl rfl rfl ?_
  rintro _ _ ⟨rfl, rfl⟩
  refine ⟨fun _ => ⟨[0, 1, 2, 3], rfl, rfl⟩, ?_⟩
  refine JT.only (i := 46) (d := some 12) rfl (MV.ofQV (v := .int .u32 (gd (x2).l (6 : Int))) (QV.assign rfl)) rfl rfl rfl ?_
  rintro _ _ ⟨rfl, rfl⟩
  refine ⟨fun _ => ⟨[0, 1, 2, 3], rfl, rfl⟩, ?_⟩
  refine JT.only (i := 47) (d := some 13) rfl (MV.ofQV (v := .int .u32 (gd (x2).l (7 : Int))) (QV.assign rfl)) rfl rfl rfl ?_
  rintro _ _ ⟨rfl, rfl⟩
  refine ⟨fun _ => ⟨[0, 1, 2, 3], rfl, rfl⟩, ?_⟩
  refine JT.nil ?_
  refine QJ.then_normal ?_
  refine JC.seq ?_
  refine JC.seq ?_
  refine JC.region ?_
  refine JL.val (v := .int .i64 (0 : Int)) (QV.move rfl) rfl rfl rfl ?_
  refine JL.nil ?_
  refine QJ.then_normal ?_
  refine JC.cutK (Y := (Int × Int × Int × Int × Int × Int × Int × Int) × Unit) (fun y => match y with | ((d13, d14, d15, d16, d17, d18, d19, d20), _) => F75_1.j1 x2 (d13) (d14) (d15) (d16) (d17) (d18) (d19) (d20) = some r) (fun y => match y with | ((d13, d14, d15, d16, d17, d18, d19, d20), _) => [(0, .pointer (some ⟨b1, 0, none⟩)), (6, .int .u32 d13), (7, .int .u32 d14), (8, .int .u32 d15), (9, .int .u32 d16), (10, .int .u32 d17), (11, .int .u32 d18), (12, .int .u32 d19), (13, .int .u32 d20)]) (fun y => match y with | ((d13, d14, d15, d16, d17, d18, d19, d20), _) => [Asr.blk b1 105 [Seg.of (Enc.arr 8 (Enc.int .u32)) x2, Seg.of (Enc.arr 64 (Enc.int .u8)) x3, Seg.c (.int .i64 x4), Seg.c (.int .u64 x5)]]) ?_ ?_
  ·
    rintro ⟨⟨d13, d14, d15, d16, d17, d18, d19, d20⟩, ⟨⟩⟩ hm
    unfold F75_1.j1 at hm
    show QJ _ _ [(0, .pointer (some ⟨b1, 0, none⟩)), (6, .int .u32 d13), (7, .int .u32 d14), (8, .int .u32 d15), (9, .int .u32 d16), (10, .int .u32 d17), (11, .int .u32 d18), (12, .int .u32 d19), (13, .int .u32 d20)] [Asr.blk b1 105 [Seg.of (Enc.arr 8 (Enc.int .u32)) x2, Seg.of (Enc.arr 64 (Enc.int .u8)) x3, Seg.c (.int .i64 x4), Seg.c (.int .u64 x5)]] _ _
    refine QJ.then_normal ?_
    refine JC.seq ?_
    refine JC.region ?_
    refine JL.val (v := .int .u32 d13) (QV.move rfl) rfl rfl rfl ?_
    refine JL.val (v := .int .u32 d14) (QV.move rfl) rfl rfl rfl ?_
    refine JL.val (v := .int .u32 d15) (QV.move rfl) rfl rfl rfl ?_
    refine JL.val (v := .int .u32 d16) (QV.move rfl) rfl rfl rfl ?_
    refine JL.val (v := .int .u32 d17) (QV.move rfl) rfl rfl rfl ?_
    refine JL.val (v := .int .u32 d18) (QV.move rfl) rfl rfl rfl ?_
    refine JL.val (v := .int .u32 d19) (QV.move rfl) rfl rfl rfl ?_
    refine JL.val (v := .int .u32 d20) (QV.move rfl) rfl rfl rfl ?_
    refine JL.val (v := .agg (((Enc.arr 8 (Enc.int .u32))).enc (⟨[d13, d14, d15, d16, d17, d18, d19, d20], rfl⟩ : (Arr Int 8))).toArray) (QV.build (vals := [(0, .int .u32 d13), (1, .int .u32 d14), (2, .int .u32 d15), (3, .int .u32 d16), (4, .int .u32 d17), (5, .int .u32 d18), (6, .int .u32 d19), (7, .int .u32 d20)]) (cells := ((Enc.arr 8 (Enc.int .u32)).enc (⟨[d13, d14, d15, d16, d17, d18, d19, d20], rfl⟩ : (Arr Int 8))).toArray) rfl (by kernel_rfl)) rfl rfl rfl ?_
    refine JL.val (v := .int .i64 (0 : Int)) (QV.move rfl) rfl rfl rfl ?_
    refine JL.nil ?_
    refine QJ.then_normal ?_
    refine JC.cutK (Y := (Arr Int 8) × Unit) (fun y => match y with | (d21, _) => F75_1.j2 (d21) = some r) (fun y => match y with | (d21, _) => []) (fun y => match y with | (d21, _) => [Asr.blk b1 105 [Seg.of (Enc.arr 8 (Enc.int .u32)) d21, Seg.of (Enc.arr 64 (Enc.int .u8)) x3, Seg.c (.int .i64 x4), Seg.c (.int .u64 x5)]]) ?_ ?_
    ·
      rintro ⟨d21, ⟨⟩⟩ hm
      unfold F75_1.j2 at hm
      show QJ _ _ [] [Asr.blk b1 105 [Seg.of (Enc.arr 8 (Enc.int .u32)) d21, Seg.of (Enc.arr 64 (Enc.int .u8)) x3, Seg.c (.int .i64 x4), Seg.c (.int .u64 x5)]] _ _
      obtain rfl := Option.some.inj hm
      exact QJ.body (vs := []) (.inr rfl) rfl ResVs.nil [0] rfl rfl (.inr ⟨own_blk _ _ _, trivial⟩) ⟨rfl, rfl⟩
    ·
      refine JC.block ?_
      obtain ⟨y26, hl27, hmo28⟩ := bind_inv hm
      refine JC.loop (F75_1.b1 d13 d14 d15 d16 d17 d18 d19 d20) (fun x z => match x, z with | (d22, d23), _ => [(0, .pointer (some ⟨b1, 0, none⟩)), (133, .agg (((Enc.arr 8 (Enc.int .u32))).enc (⟨[d13, d14, d15, d16, d17, d18, d19, d20], rfl⟩ : (Arr Int 8))).toArray), (134, .int .i64 d23)]) (fun x z => match x, z with | (d22, d23), _ => [Asr.blk b1 105 [Seg.of (Enc.arr 8 (Enc.int .u32)) d22, Seg.of (Enc.arr 64 (Enc.int .u8)) x3, Seg.c (.int .i64 x4), Seg.c (.int .u64 x5)]]) (x2, (0 : Int)) () y26 hl27 [0] (by exact ⟨rfl, rfl, rfl, trivial⟩) rfl rfl ?_
      rintro ⟨d22, d23⟩ ⟨⟩ s29 hm
      unfold F75_1.b1 at hm
      dsimp only at hm
      show JC _ _ _ [(0, .pointer (some ⟨b1, 0, none⟩)), (133, .agg (((Enc.arr 8 (Enc.int .u32))).enc (⟨[d13, d14, d15, d16, d17, d18, d19, d20], rfl⟩ : (Arr Int 8))).toArray), (134, .int .i64 d23)] [Asr.blk b1 105 [Seg.of (Enc.arr 8 (Enc.int .u32)) d22, Seg.of (Enc.arr 64 (Enc.int .u8)) x3, Seg.c (.int .i64 x4), Seg.c (.int .u64 x5)]] _ _
      refine JC.seq ?_
      refine JC.region ?_
      refine JL.val (v := .bool (decide (d23 < (8 : Int)))) (QV.lss rfl rfl) rfl rfl rfl ?_
      refine JL.nil ?_
      refine QJ.then_normal ?_
      refine JC.seq ?_
      rcases ite_inv hm with ⟨h30, hm⟩ | ⟨h30, hm⟩
      ·
        refine JC.condT' rfl (decide_eq_true h30) ?_
        refine JC.skip ?_
        refine QJ.then_normal ?_
        refine JC.seq ?_
        refine JC.block ?_
        refine JC.seq ?_
        refine JC.region ?_
        refine JL.val (v := .int .i64 d23) (QV.move rfl) rfl rfl rfl ?_
        obtain ⟨h31, hm⟩ := guard_inv hm
        refine JL.val (v := .int .u32 (gd ((⟨[d13, d14, d15, d16, d17, d18, d19, d20], rfl⟩ : (Arr Int 8))).l d23)) (QV.indexV (E := (Enc.int .u32)) (xs := (⟨[d13, d14, d15, d16, d17, d18, d19, d20], rfl⟩ : (Arr Int 8))) Try.underlying98 tk_74 rfl rfl rfl h31 rfl) rfl rfl rfl ?_
        refine JL.val (v := .int .i64 d23) (QV.assign rfl) rfl rfl rfl ?_
        refine JL.val (v := .int .u32 (gd ((⟨[d13, d14, d15, d16, d17, d18, d19, d20], rfl⟩ : (Arr Int 8))).l d23)) (QV.assign rfl) rfl rfl rfl ?_
        refine JL.nil ?_
        refine QJ.then_normal ?_
        refine JC.regionT [Asr.blk b1 105 [Seg.of (Enc.arr 8 (Enc.int .u32)) d22, Seg.of (Enc.arr 64 (Enc.int .u8)) x3, Seg.c (.int .i64 x4), Seg.c (.int .u64 x5)]] (fun t => Nat.beq t 11) [(0, true), (1, true), (2, true), (3, true), (4, true), (5, true), (6, true), (7, true), (8, false), (9, false), (10, false), (11, false)] (by kernel_rfl) (by kernel_rfl) (by kernel_rfl) rfl (fun hsel => ?_)
        refine JT.take (i := 0) (v := .pointer (some ⟨b1, 0, none⟩)) hsel rfl (QV.move rfl) rfl rfl rfl [0] rfl rfl ?_
        refine JT.take (i := 1) (v := .int .i64 d23) hsel rfl (QV.move rfl) rfl rfl rfl [0] rfl rfl ?_
        refine JT.take (i := 2) (v := .pointer (some ⟨b1, 0, none⟩)) hsel rfl (QV.nilCheck rfl) rfl rfl rfl [0] rfl rfl ?_
        refine JT.take (i := 3) (v := .pointer (some ⟨b1, 0, none⟩)) hsel rfl (QV.fieldB fo_105_0 rfl rfl) rfl rfl rfl [0] rfl rfl ?_
        refine JT.take (i := 4) (v := .pointer (some ⟨b1, 0 + Int.toNat d23 * 1, none⟩)) hsel rfl (QV.indexB Try.underlying98 tk_74 rfl rfl h31) rfl rfl rfl [0] rfl rfl ?_
        refine JT.take (i := 5) (v := .int .u32 (gd (d22).l d23)) hsel rfl (QV.ar1 (ss := [Seg.of (Enc.arr 8 (Enc.int .u32)) d22, Seg.of (Enc.arr 64 (Enc.int .u8)) x3, Seg.c (.int .i64 x4), Seg.c (.int .u64 x5)]) 0 0 rfl tk_74 rfl rfl rfl rfl h31 rfl) rfl rfl rfl [0] rfl rfl ?_
        refine JT.take (i := 6) (v := .int .u32 (gd ((⟨[d13, d14, d15, d16, d17, d18, d19, d20], rfl⟩ : (Arr Int 8))).l d23)) hsel rfl (QV.move rfl) rfl rfl rfl [0] rfl rfl ?_
        refine JT.take (i := 7) (v := .int .u32 (IntKind.wrap .u32 ((gd (d22).l d23) + (gd ((⟨[d13, d14, d15, d16, d17, d18, d19, d20], rfl⟩ : (Arr Int 8))).l d23)))) hsel rfl (QV.add rfl rfl) rfl rfl rfl [0] rfl rfl ?_
        refine JT.only (i := 8) (d := some 146) rfl (MV.ofQV (v := .pointer (some ⟨b1, 0, none⟩)) (QV.nilCheck rfl)) rfl rfl rfl ?_
        rintro _ _ ⟨rfl, rfl⟩
        refine ⟨fun _ => ⟨[0], rfl, rfl⟩, ?_⟩
        refine JT.only (i := 9) (d := some 147) rfl (MV.ofQV (v := .pointer (some ⟨b1, 0, none⟩)) (QV.fieldB fo_105_0 rfl rfl)) rfl rfl rfl ?_
        rintro _ _ ⟨rfl, rfl⟩
        refine ⟨fun _ => ⟨[0], rfl, rfl⟩, ?_⟩
        refine JT.only (i := 10) (d := some 148) rfl (MV.ofQV (v := .pointer (some ⟨b1, 0 + Int.toNat d23 * 1, none⟩)) (QV.indexB Try.underlying98 tk_74 rfl rfl h31)) rfl rfl rfl ?_
        rintro _ _ ⟨rfl, rfl⟩
        refine ⟨fun _ => ⟨[0], rfl, rfl⟩, ?_⟩
        refine JT.only (i := 11) (d := none) rfl (MV.storeAr (ss := [Seg.of (Enc.arr 8 (Enc.int .u32)) d22, Seg.of (Enc.arr 64 (Enc.int .u8)) x3, Seg.c (.int .i64 x4), Seg.c (.int .u64 x5)]) 0 0 (IntKind.wrap .u32 ((gd (d22).l d23) + (gd ((⟨[d13, d14, d15, d16, d17, d18, d19, d20], rfl⟩ : (Arr Int 8))).l d23))) rfl tk_74 rfl rfl rfl rfl h31 rfl rfl) rfl rfl rfl ?_
        rintro _ _ ⟨rfl, rfl⟩
        refine ⟨fun h => absurd h (by decide), ?_⟩
        refine JT.nil ?_
        refine QJ.block_normal ?_
        refine QJ.then_normal ?_
        refine JC.region ?_
        refine JL.val (v := .int .i64 (IntKind.wrap .i64 (d23 + (1 : Int)))) (QV.add rfl rfl) rfl rfl rfl ?_
        refine JL.val (v := .int .i64 (IntKind.wrap .i64 (d23 + (1 : Int)))) (QV.move rfl) rfl rfl rfl ?_
        refine JL.nil ?_
        obtain rfl := Option.some.inj hm
        exact QJ.round_on ((Arr.set d22 d23 (IntKind.wrap .u32 ((gd (d22).l d23) + (gd ((⟨[d13, d14, d15, d16, d17, d18, d19, d20], rfl⟩ : (Arr Int 8))).l d23)))), (IntKind.wrap .i64 (d23 + (1 : Int)))) () [0] (by exact ⟨rfl, rfl, rfl, trivial⟩) rfl rfl
      ·
        refine JC.condF' rfl (decide_eq_false h30) ?_
        refine JC.exit ?_
        refine QJ.then_exit ?_
        obtain rfl := Option.some.inj hm
        refine QJ.round_exit (fun hy => ?_)
        subst hy
        refine QJ.block_hit ?_
        exact QJ.cut_normal (d22, ()) hmo28 [0] trivial rfl rfl
  ·
    refine JC.block ?_
    obtain ⟨y50, hl51, hmo52⟩ := bind_inv hm
    refine JC.loop (F75_1.b2 y10) (fun x z => match x, z with | (d32, d33, d34, d35, d36, d37, d38, d39, d40), _ => [(0, .pointer (some ⟨b1, 0, none⟩)), (4, .pointer (some ⟨b9, 0, none⟩)), (5, .pointer (some ⟨b12, 0, none⟩)), (6, .int .u32 d32), (7, .int .u32 d33), (8, .int .u32 d34), (9, .int .u32 d35), (10, .int .u32 d36), (11, .int .u32 d37), (12, .int .u32 d38), (13, .int .u32 d39), (62, .int .i64 d40)]) (fun x z => match x, z with | (d32, d33, d34, d35, d36, d37, d38, d39, d40), _ => [Asr.blk b1 105 [Seg.of (Enc.arr 8 (Enc.int .u32)) x2, Seg.of (Enc.arr 64 (Enc.int .u8)) x3, Seg.c (.int .i64 x4), Seg.c (.int .u64 x5)], Asr.blk b9 99 [Seg.of (Enc.arr 64 (Enc.int .u32)) K1], Asr.blk b12 99 [Seg.of (Enc.arr 64 (Enc.int .u32)) y10]]) ((gd (x2).l (0 : Int)), (gd (x2).l (1 : Int)), (gd (x2).l (2 : Int)), (gd (x2).l (3 : Int)), (gd (x2).l (4 : Int)), (gd (x2).l (5 : Int)), (gd (x2).l (6 : Int)), (gd (x2).l (7 : Int)), (0 : Int)) () y50 hl51 [2, 1, 0] (by exact ⟨rfl, rfl, rfl, rfl, rfl, rfl, rfl, rfl, rfl, rfl, rfl, rfl, trivial⟩) rfl rfl ?_
    rintro ⟨d32, d33, d34, d35, d36, d37, d38, d39, d40⟩ ⟨⟩ s53 hm
    unfold F75_1.b2 at hm
    dsimp only at hm
    show JC _ _ _ [(0, .pointer (some ⟨b1, 0, none⟩)), (4, .pointer (some ⟨b9, 0, none⟩)), (5, .pointer (some ⟨b12, 0, none⟩)), (6, .int .u32 d32), (7, .int .u32 d33), (8, .int .u32 d34), (9, .int .u32 d35), (10, .int .u32 d36), (11, .int .u32 d37), (12, .int .u32 d38), (13, .int .u32 d39), (62, .int .i64 d40)] [Asr.blk b1 105 [Seg.of (Enc.arr 8 (Enc.int .u32)) x2, Seg.of (Enc.arr 64 (Enc.int .u8)) x3, Seg.c (.int .i64 x4), Seg.c (.int .u64 x5)], Asr.blk b9 99 [Seg.of (Enc.arr 64 (Enc.int .u32)) K1], Asr.blk b12 99 [Seg.of (Enc.arr 64 (Enc.int .u32)) y10]] _ _
    refine JC.seq ?_
    refine JC.region ?_
    refine JL.val (v := .bool (decide (d40 < (64 : Int)))) (QV.lss rfl rfl) rfl rfl rfl ?_
    refine JL.nil ?_
    refine QJ.then_normal ?_
    refine JC.seq ?_
    rcases ite_inv hm with ⟨h54, hm⟩ | ⟨h54, hm⟩
    ·
      refine JC.condT' rfl (decide_eq_true h54) ?_
      refine JC.skip ?_
      refine QJ.then_normal ?_
      refine JC.seq ?_
      refine JC.block ?_
      refine JC.seq ?_
      refine JC.region ?_
      refine JL.val (v := .int .i64 d40) (QV.move rfl) rfl rfl rfl ?_
      refine JL.val (v := .int .i64 d40) (QV.assign rfl) rfl rfl rfl ?_
      refine JL.nil ?_
      refine QJ.then_normal ?_
      refine JC.seq ?_
      refine JC.regionT [Asr.blk b1 105 [Seg.of (Enc.arr 8 (Enc.int .u32)) x2, Seg.of (Enc.arr 64 (Enc.int .u8)) x3, Seg.c (.int .i64 x4), Seg.c (.int .u64 x5)], Asr.blk b9 99 [Seg.of (Enc.arr 64 (Enc.int .u32)) K1], Asr.blk b12 99 [Seg.of (Enc.arr 64 (Enc.int .u32)) y10]] (fun t => false) [(0, true), (1, true), (3, true), (6, true), (10, true), (11, true), (12, true), (13, true), (14, true), (15, true), (16, true), (17, true), (19, true), (20, true), (21, true), (23, true), (24, true), (25, true), (2, false), (4, false), (5, true), (7, false), (8, false), (9, false), (18, false), (22, false), (26, false), (27, false)] (by kernel_rfl) (by kernel_rfl) (by kernel_rfl) rfl (fun hsel => ?_)
      refine JT.take (i := 0) (v := .int .u32 d39) hsel rfl (QV.move rfl) rfl rfl rfl [0, 1, 2] rfl rfl ?_
      refine JT.take (i := 1) (v := .int .u32 d36) hsel rfl (QV.move rfl) rfl rfl rfl [0, 1, 2] rfl rfl ?_
      refine JT.take (i := 3) (v := .int .u32 d36) hsel rfl (QV.move rfl) rfl rfl rfl [0, 1, 2] rfl rfl ?_
      refine JT.take (i := 6) (v := .int .u32 d36) hsel rfl (QV.move rfl) rfl rfl rfl [0, 1, 2] rfl rfl ?_
      refine JT.take (i := 10) (v := .int .u32 d36) hsel rfl (QV.move rfl) rfl rfl rfl [0, 1, 2] rfl rfl ?_
      refine JT.take (i := 11) (v := .int .u32 d37) hsel rfl (QV.move rfl) rfl rfl rfl [0, 1, 2] rfl rfl ?_
      refine JT.take (i := 12) (v := .int .u32 (andI .u32 d36 d37)) hsel rfl (QV.and rfl rfl) rfl rfl rfl [0, 1, 2] rfl rfl ?_
      refine JT.take (i := 13) (v := .int .u32 d36) hsel rfl (QV.move rfl) rfl rfl rfl [0, 1, 2] rfl rfl ?_
      refine JT.take (i := 14) (v := .int .u32 (xorI .u32 (if IntKind.signed .u32 then -1 else IntKind.max .u32) d36)) hsel rfl (QV.com rfl) rfl rfl rfl [0, 1, 2] rfl rfl ?_
      refine JT.take (i := 15) (v := .int .u32 d38) hsel rfl (QV.move rfl) rfl rfl rfl [0, 1, 2] rfl rfl ?_
      refine JT.take (i := 16) (v := .int .u32 (andI .u32 (xorI .u32 (if IntKind.signed .u32 then -1 else IntKind.max .u32) d36) d38)) hsel rfl (QV.and rfl rfl) rfl rfl rfl [0, 1, 2] rfl rfl ?_
      refine JT.take (i := 17) (v := .int .u32 (xorI .u32 (andI .u32 d36 d37) (andI .u32 (xorI .u32 (if IntKind.signed .u32 then -1 else IntKind.max .u32) d36) d38))) hsel rfl (QV.xor rfl rfl) rfl rfl rfl [0, 1, 2] rfl rfl ?_
      refine JT.take (i := 19) (v := .int .i64 d40) hsel rfl (QV.move rfl) rfl rfl rfl [0, 1, 2] rfl rfl ?_
      obtain ⟨h55, hm⟩ := guard_inv hm
      refine JT.take (i := 20) (v := .pointer (some ⟨b9, 0 + Int.toNat d40 * 1, none⟩)) hsel rfl (QV.indexB Try.underlying99 tk_74 rfl rfl h55) rfl rfl rfl [0, 1, 2] rfl rfl ?_
      refine JT.take (i := 21) (v := .int .u32 (gd (K1).l d40)) hsel rfl (QV.ar1 (ss := [Seg.of (Enc.arr 64 (Enc.int .u32)) K1]) 1 0 rfl tk_74 rfl rfl rfl rfl h55 rfl) rfl rfl rfl [0, 1, 2] rfl rfl ?_
      refine JT.take (i := 23) (v := .int .i64 d40) hsel rfl (QV.move rfl) rfl rfl rfl [0, 1, 2] rfl rfl ?_
      refine JT.take (i := 24) (v := .pointer (some ⟨b12, 0 + Int.toNat d40 * 1, none⟩)) hsel rfl (QV.indexB Try.underlying99 tk_74 rfl rfl h55) rfl rfl rfl [0, 1, 2] rfl rfl ?_
      refine JT.take (i := 25) (v := .int .u32 (gd (y10).l d40)) hsel rfl (QV.ar1 (ss := [Seg.of (Enc.arr 64 (Enc.int .u32)) y10]) 2 0 rfl tk_74 rfl rfl rfl rfl h55 rfl) rfl rfl rfl [0, 1, 2] rfl rfl ?_
      obtain ⟨y56, hc57, hm⟩ := bind_inv hm
      refine JT.only (i := 2) (d := some 67) rfl (MV.call (Lo := []) (Lr := [Asr.blk b1 105 [Seg.of (Enc.arr 8 (Enc.int .u32)) x2, Seg.of (Enc.arr 64 (Enc.int .u8)) x3, Seg.c (.int .i64 x4), Seg.c (.int .u64 x5)], Asr.blk b9 99 [Seg.of (Enc.arr 64 (Enc.int .u32)) K1], Asr.blk b12 99 [Seg.of (Enc.arr 64 (Enc.int .u32)) y10]]) (F94.spec (d36) ((-6 : Int)) _ hc57) rfl Try.func94 rfl rfl rfl [] [0, 1, 2] rfl rfl rfl trivial) rfl rfl rfl ?_
      rintro _ _ ⟨_, ⟨rfl, rfl⟩, rfl⟩
      refine ⟨fun _ => ⟨[0, 1, 2], rfl, rfl⟩, ?_⟩
      obtain ⟨y58, hc59, hm⟩ := bind_inv hm
      refine JT.only (i := 4) (d := some 69) rfl (MV.call (Lo := []) (Lr := [Asr.blk b1 105 [Seg.of (Enc.arr 8 (Enc.int .u32)) x2, Seg.of (Enc.arr 64 (Enc.int .u8)) x3, Seg.c (.int .i64 x4), Seg.c (.int .u64 x5)], Asr.blk b9 99 [Seg.of (Enc.arr 64 (Enc.int .u32)) K1], Asr.blk b12 99 [Seg.of (Enc.arr 64 (Enc.int .u32)) y10]]) (F94.spec (d36) ((-11 : Int)) _ hc59) rfl Try.func94 rfl rfl rfl [] [0, 1, 2] rfl rfl rfl trivial) rfl rfl rfl ?_
      rintro _ _ ⟨_, ⟨rfl, rfl⟩, rfl⟩
      refine ⟨fun _ => ⟨[0, 1, 2], rfl, rfl⟩, ?_⟩
      refine JT.take (i := 5) (v := .int .u32 (xorI .u32 y56 y58)) hsel rfl (QV.xor rfl rfl) rfl rfl rfl [0, 1, 2] rfl rfl ?_
      obtain ⟨y60, hc61, hm⟩ := bind_inv hm
      refine JT.only (i := 7) (d := some 72) rfl (MV.call (Lo := []) (Lr := [Asr.blk b1 105 [Seg.of (Enc.arr 8 (Enc.int .u32)) x2, Seg.of (Enc.arr 64 (Enc.int .u8)) x3, Seg.c (.int .i64 x4), Seg.c (.int .u64 x5)], Asr.blk b9 99 [Seg.of (Enc.arr 64 (Enc.int .u32)) K1], Asr.blk b12 99 [Seg.of (Enc.arr 64 (Enc.int .u32)) y10]]) (F94.spec (d36) ((-25 : Int)) _ hc61) rfl Try.func94 rfl rfl rfl [] [0, 1, 2] rfl rfl rfl trivial) rfl rfl rfl ?_
      rintro _ _ ⟨_, ⟨rfl, rfl⟩, rfl⟩
      refine ⟨fun _ => ⟨[0, 1, 2], rfl, rfl⟩, ?_⟩
      refine JT.only (i := 8) (d := some 73) rfl (MV.ofQV (v := .int .u32 (xorI .u32 (xorI .u32 y56 y58) y60)) (QV.xor rfl rfl)) rfl rfl rfl ?_
      rintro _ _ ⟨rfl, rfl⟩
      refine ⟨fun _ => ⟨[0, 1, 2], rfl, rfl⟩, ?_⟩
      refine JT.only (i := 9) (d := some 74) rfl (MV.ofQV (v := .int .u32 (IntKind.wrap .u32 (d39 + (xorI .u32 (xorI .u32 y56 y58) y60)))) (QV.add rfl rfl)) rfl rfl rfl ?_
      rintro _ _ ⟨rfl, rfl⟩
      refine ⟨fun _ => ⟨[0, 1, 2], rfl, rfl⟩, ?_⟩
      refine JT.only (i := 18) (d := some 83) rfl (MV.ofQV (v := .int .u32 (IntKind.wrap .u32 ((IntKind.wrap .u32 (d39 + (xorI .u32 (xorI .u32 y56 y58) y60))) + (xorI .u32 (andI .u32 d36 d37) (andI .u32 (xorI .u32 (if IntKind.signed .u32 then -1 else IntKind.max .u32) d36) d38))))) (QV.add rfl rfl)) rfl rfl rfl ?_
      rintro _ _ ⟨rfl, rfl⟩
      refine ⟨fun _ => ⟨[0, 1, 2], rfl, rfl⟩, ?_⟩
      refine JT.only (i := 22) (d := some 87) rfl (MV.ofQV (v := .int .u32 (IntKind.wrap .u32 ((IntKind.wrap .u32 ((IntKind.wrap .u32 (d39 + (xorI .u32 (xorI .u32 y56 y58) y60))) + (xorI .u32 (andI .u32 d36 d37) (andI .u32 (xorI .u32 (if IntKind.signed .u32 then -1 else IntKind.max .u32) d36) d38)))) + (gd (K1).l d40)))) (QV.add rfl rfl)) rfl rfl rfl ?_
      rintro _ _ ⟨rfl, rfl⟩
      refine ⟨fun _ => ⟨[0, 1, 2], rfl, rfl⟩, ?_⟩
      refine JT.only (i := 26) (d := some 91) rfl (MV.ofQV (v := .int .u32 (IntKind.wrap .u32 ((IntKind.wrap .u32 ((IntKind.wrap .u32 ((IntKind.wrap .u32 (d39 + (xorI .u32 (xorI .u32 y56 y58) y60))) + (xorI .u32 (andI .u32 d36 d37) (andI .u32 (xorI .u32 (if IntKind.signed .u32 then -1 else IntKind.max .u32) d36) d38)))) + (gd (K1).l d40))) + (gd (y10).l d40)))) (QV.add rfl rfl)) rfl rfl rfl ?_
      rintro _ _ ⟨rfl, rfl⟩
      refine ⟨fun _ => ⟨[0, 1, 2], rfl, rfl⟩, ?_⟩
      refine JT.only (i := 27) (d := some 15) rfl (MV.ofQV (v := .int .u32 (IntKind.wrap .u32 ((IntKind.wrap .u32 ((IntKind.wrap .u32 ((IntKind.wrap .u32 (d39 + (xorI .u32 (xorI .u32 y56 y58) y60))) + (xorI .u32 (andI .u32 d36 d37) (andI .u32 (xorI .u32 (if IntKind.signed .u32 then -1 else IntKind.max .u32) d36) d38)))) + (gd (K1).l d40))) + (gd (y10).l d40)))) (QV.assign rfl)) rfl rfl rfl ?_
      rintro _ _ ⟨rfl, rfl⟩
      refine ⟨fun _ => ⟨[0, 1, 2], rfl, rfl⟩, ?_⟩
      refine JT.nil ?_
      refine QJ.then_normal ?_
      refine JC.seq ?_
      refine JC.region ?_
      refine JL.val (v := .int .u32 d32) (QV.move rfl) rfl rfl rfl ?_
      obtain ⟨y62, hc63, hm⟩ := bind_inv hm
      refine JL.mv (d := some 93) (MV.call (Lo := []) (Lr := [Asr.blk b1 105 [Seg.of (Enc.arr 8 (Enc.int .u32)) x2, Seg.of (Enc.arr 64 (Enc.int .u8)) x3, Seg.c (.int .i64 x4), Seg.c (.int .u64 x5)], Asr.blk b9 99 [Seg.of (Enc.arr 64 (Enc.int .u32)) K1], Asr.blk b12 99 [Seg.of (Enc.arr 64 (Enc.int .u32)) y10]]) (F94.spec (d32) ((-2 : Int)) _ hc63) rfl Try.func94 rfl rfl rfl [] [0, 1, 2] rfl rfl rfl trivial) rfl rfl rfl ?_
      rintro _ _ ⟨_, ⟨rfl, rfl⟩, rfl⟩
      refine JL.val (v := .int .u32 d32) (QV.move rfl) rfl rfl rfl ?_
      obtain ⟨y64, hc65, hm⟩ := bind_inv hm
      refine JL.mv (d := some 95) (MV.call (Lo := []) (Lr := [Asr.blk b1 105 [Seg.of (Enc.arr 8 (Enc.int .u32)) x2, Seg.of (Enc.arr 64 (Enc.int .u8)) x3, Seg.c (.int .i64 x4), Seg.c (.int .u64 x5)], Asr.blk b9 99 [Seg.of (Enc.arr 64 (Enc.int .u32)) K1], Asr.blk b12 99 [Seg.of (Enc.arr 64 (Enc.int .u32)) y10]]) (F94.spec (d32) ((-13 : Int)) _ hc65) rfl Try.func94 rfl rfl rfl [] [0, 1, 2] rfl rfl rfl trivial) rfl rfl rfl ?_
      rintro _ _ ⟨_, ⟨rfl, rfl⟩, rfl⟩
      refine JL.val (v := .int .u32 (xorI .u32 y62 y64)) (QV.xor rfl rfl) rfl rfl rfl ?_
      refine JL.val (v := .int .u32 d32) (QV.move rfl) rfl rfl rfl ?_
      obtain ⟨y66, hc67, hm⟩ := bind_inv hm
      refine JL.mv (d := some 98) (MV.call (Lo := []) (Lr := [Asr.blk b1 105 [Seg.of (Enc.arr 8 (Enc.int .u32)) x2, Seg.of (Enc.arr 64 (Enc.int .u8)) x3, Seg.c (.int .i64 x4), Seg.c (.int .u64 x5)], Asr.blk b9 99 [Seg.of (Enc.arr 64 (Enc.int .u32)) K1], Asr.blk b12 99 [Seg.of (Enc.arr 64 (Enc.int .u32)) y10]]) (F94.spec (d32) ((-22 : Int)) _ hc67) rfl Try.func94 rfl rfl rfl [] [0, 1, 2] rfl rfl rfl trivial) rfl rfl rfl ?_
      rintro _ _ ⟨_, ⟨rfl, rfl⟩, rfl⟩
      refine JL.val (v := .int .u32 (xorI .u32 (xorI .u32 y62 y64) y66)) (QV.xor rfl rfl) rfl rfl rfl ?_
      refine JL.val (v := .int .u32 d32) (QV.move rfl) rfl rfl rfl ?_
      refine JL.val (v := .int .u32 d33) (QV.move rfl) rfl rfl rfl ?_
      refine JL.val (v := .int .u32 (andI .u32 d32 d33)) (QV.and rfl rfl) rfl rfl rfl ?_
      refine JL.val (v := .int .u32 d32) (QV.move rfl) rfl rfl rfl ?_
      refine JL.val (v := .int .u32 d34) (QV.move rfl) rfl rfl rfl ?_
      refine JL.val (v := .int .u32 (andI .u32 d32 d34)) (QV.and rfl rfl) rfl rfl rfl ?_
      refine JL.val (v := .int .u32 (xorI .u32 (andI .u32 d32 d33) (andI .u32 d32 d34))) (QV.xor rfl rfl) rfl rfl rfl ?_
      refine JL.val (v := .int .u32 d33) (QV.move rfl) rfl rfl rfl ?_
      refine JL.val (v := .int .u32 d34) (QV.move rfl) rfl rfl rfl ?_
      refine JL.val (v := .int .u32 (andI .u32 d33 d34)) (QV.and rfl rfl) rfl rfl rfl ?_
      refine JL.val (v := .int .u32 (xorI .u32 (xorI .u32 (andI .u32 d32 d33) (andI .u32 d32 d34)) (andI .u32 d33 d34))) (QV.xor rfl rfl) rfl rfl rfl ?_
      refine JL.val (v := .int .u32 (IntKind.wrap .u32 ((xorI .u32 (xorI .u32 y62 y64) y66) + (xorI .u32 (xorI .u32 (andI .u32 d32 d33) (andI .u32 d32 d34)) (andI .u32 d33 d34))))) (QV.add rfl rfl) rfl rfl rfl ?_
      refine JL.val (v := .int .u32 (IntKind.wrap .u32 ((xorI .u32 (xorI .u32 y62 y64) y66) + (xorI .u32 (xorI .u32 (andI .u32 d32 d33) (andI .u32 d32 d34)) (andI .u32 d33 d34))))) (QV.assign rfl) rfl rfl rfl ?_
      refine JL.nil ?_
      refine QJ.then_normal ?_
      refine JC.region ?_
      refine JL.val (v := .int .u32 d38) (QV.move rfl) rfl rfl rfl ?_
      refine JL.val (v := .int .u32 d37) (QV.move rfl) rfl rfl rfl ?_
      refine JL.val (v := .int .u32 d36) (QV.move rfl) rfl rfl rfl ?_
      refine JL.val (v := .int .u32 d35) (QV.move rfl) rfl rfl rfl ?_
      refine JL.val (v := .int .u32 (IntKind.wrap .u32 ((IntKind.wrap .u32 ((IntKind.wrap .u32 ((IntKind.wrap .u32 (d39 + (xorI .u32 (xorI .u32 y56 y58) y60))) + (xorI .u32 (andI .u32 d36 d37) (andI .u32 (xorI .u32 (if IntKind.signed .u32 then -1 else IntKind.max .u32) d36) d38)))) + (gd (K1).l d40))) + (gd (y10).l d40)))) (QV.move rfl) rfl rfl rfl ?_
      refine JL.val (v := .int .u32 (IntKind.wrap .u32 (d35 + (IntKind.wrap .u32 ((IntKind.wrap .u32 ((IntKind.wrap .u32 ((IntKind.wrap .u32 (d39 + (xorI .u32 (xorI .u32 y56 y58) y60))) + (xorI .u32 (andI .u32 d36 d37) (andI .u32 (xorI .u32 (if IntKind.signed .u32 then -1 else IntKind.max .u32) d36) d38)))) + (gd (K1).l d40))) + (gd (y10).l d40)))))) (QV.add rfl rfl) rfl rfl rfl ?_
      refine JL.val (v := .int .u32 d34) (QV.move rfl) rfl rfl rfl ?_
      refine JL.val (v := .int .u32 d33) (QV.move rfl) rfl rfl rfl ?_
      refine JL.val (v := .int .u32 d32) (QV.move rfl) rfl rfl rfl ?_
      refine JL.val (v := .int .u32 (IntKind.wrap .u32 ((IntKind.wrap .u32 ((IntKind.wrap .u32 ((IntKind.wrap .u32 (d39 + (xorI .u32 (xorI .u32 y56 y58) y60))) + (xorI .u32 (andI .u32 d36 d37) (andI .u32 (xorI .u32 (if IntKind.signed .u32 then -1 else IntKind.max .u32) d36) d38)))) + (gd (K1).l d40))) + (gd (y10).l d40)))) (QV.move rfl) rfl rfl rfl ?_
      refine JL.val (v := .int .u32 (IntKind.wrap .u32 ((xorI .u32 (xorI .u32 y62 y64) y66) + (xorI .u32 (xorI .u32 (andI .u32 d32 d33) (andI .u32 d32 d34)) (andI .u32 d33 d34))))) (QV.move rfl) rfl rfl rfl ?_
      refine JL.val (v := .int .u32 (IntKind.wrap .u32 ((IntKind.wrap .u32 ((IntKind.wrap .u32 ((IntKind.wrap .u32 ((IntKind.wrap .u32 (d39 + (xorI .u32 (xorI .u32 y56 y58) y60))) + (xorI .u32 (andI .u32 d36 d37) (andI .u32 (xorI .u32 (if IntKind.signed .u32 then -1 else IntKind.max .u32) d36) d38)))) + (gd (K1).l d40))) + (gd (y10).l d40))) + (IntKind.wrap .u32 ((xorI .u32 (xorI .u32 y62 y64) y66) + (xorI .u32 (xorI .u32 (andI .u32 d32 d33) (andI .u32 d32 d34)) (andI .u32 d33 d34))))))) (QV.add rfl rfl) rfl rfl rfl ?_
      refine JL.val (v := .int .u32 d38) (QV.assign rfl) rfl rfl rfl ?_
      refine JL.val (v := .int .u32 d37) (QV.assign rfl) rfl rfl rfl ?_
      refine JL.val (v := .int .u32 d36) (QV.assign rfl) rfl rfl rfl ?_
      refine JL.val (v := .int .u32 (IntKind.wrap .u32 (d35 + (IntKind.wrap .u32 ((IntKind.wrap .u32 ((IntKind.wrap .u32 ((IntKind.wrap .u32 (d39 + (xorI .u32 (xorI .u32 y56 y58) y60))) + (xorI .u32 (andI .u32 d36 d37) (andI .u32 (xorI .u32 (if IntKind.signed .u32 then -1 else IntKind.max .u32) d36) d38)))) + (gd (K1).l d40))) + (gd (y10).l d40)))))) (QV.assign rfl) rfl rfl rfl ?_
      refine JL.val (v := .int .u32 d34) (QV.assign rfl) rfl rfl rfl ?_
      refine JL.val (v := .int .u32 d33) (QV.assign rfl) rfl rfl rfl ?_
      refine JL.val (v := .int .u32 d32) (QV.assign rfl) rfl rfl rfl ?_
      refine JL.val (v := .int .u32 (IntKind.wrap .u32 ((IntKind.wrap .u32 ((IntKind.wrap .u32 ((IntKind.wrap .u32 ((IntKind.wrap .u32 (d39 + (xorI .u32 (xorI .u32 y56 y58) y60))) + (xorI .u32 (andI .u32 d36 d37) (andI .u32 (xorI .u32 (if IntKind.signed .u32 then -1 else IntKind.max .u32) d36) d38)))) + (gd (K1).l d40))) + (gd (y10).l d40))) + (IntKind.wrap .u32 ((xorI .u32 (xorI .u32 y62 y64) y66) + (xorI .u32 (xorI .u32 (andI .u32 d32 d33) (andI .u32 d32 d34)) (andI .u32 d33 d34))))))) (QV.assign rfl) rfl rfl rfl ?_
      refine JL.nil ?_
      refine QJ.block_normal ?_
      refine QJ.then_normal ?_
      refine JC.region ?_
      refine JL.val (v := .int .i64 (IntKind.wrap .i64 (d40 + (1 : Int)))) (QV.add rfl rfl) rfl rfl rfl ?_
      refine JL.val (v := .int .i64 (IntKind.wrap .i64 (d40 + (1 : Int)))) (QV.move rfl) rfl rfl rfl ?_
      refine JL.nil ?_
      obtain rfl := Option.some.inj hm
      exact QJ.round_on ((IntKind.wrap .u32 ((IntKind.wrap .u32 ((IntKind.wrap .u32 ((IntKind.wrap .u32 ((IntKind.wrap .u32 (d39 + (xorI .u32 (xorI .u32 y56 y58) y60))) + (xorI .u32 (andI .u32 d36 d37) (andI .u32 (xorI .u32 (if IntKind.signed .u32 then -1 else IntKind.max .u32) d36) d38)))) + (gd (K1).l d40))) + (gd (y10).l d40))) + (IntKind.wrap .u32 ((xorI .u32 (xorI .u32 y62 y64) y66) + (xorI .u32 (xorI .u32 (andI .u32 d32 d33) (andI .u32 d32 d34)) (andI .u32 d33 d34)))))), d32, d33, d34, (IntKind.wrap .u32 (d35 + (IntKind.wrap .u32 ((IntKind.wrap .u32 ((IntKind.wrap .u32 ((IntKind.wrap .u32 (d39 + (xorI .u32 (xorI .u32 y56 y58) y60))) + (xorI .u32 (andI .u32 d36 d37) (andI .u32 (xorI .u32 (if IntKind.signed .u32 then -1 else IntKind.max .u32) d36) d38)))) + (gd (K1).l d40))) + (gd (y10).l d40))))), d36, d37, d38, (IntKind.wrap .i64 (d40 + (1 : Int)))) () [0, 1, 2] (by exact ⟨rfl, rfl, rfl, rfl, rfl, rfl, rfl, rfl, rfl, rfl, rfl, rfl, trivial⟩) rfl rfl
    ·
      refine JC.condF' rfl (decide_eq_false h54) ?_
      refine JC.exit ?_
      refine QJ.then_exit ?_
      obtain rfl := Option.some.inj hm
      refine QJ.round_exit (fun hy => ?_)
      subst hy
      refine QJ.block_hit ?_
      exact QJ.cut_normal ((d32, d33, d34, d35, d36, d37, d38, d39), ()) hmo52 [0] (by exact ⟨rfl, rfl, rfl, rfl, rfl, rfl, rfl, rfl, rfl, trivial⟩) rfl rfl

end Go.Proofs.Ytmedbpiapeiobaa
