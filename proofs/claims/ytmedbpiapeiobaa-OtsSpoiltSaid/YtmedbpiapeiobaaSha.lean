/- Written by gen.py: functions and their contracts. -/
import Derived.Test.YtmedbpiapeiobaaShax1
namespace Go.Proofs.Ytmedbpiapeiobaa
open Go Go.Eng Go.Proofs
set_option linter.unusedVariables false
set_option linter.unusedSimpArgs false
/-! ### 74: drogher/drogherref01.one -/
noncomputable def F74.j3  (d13 : (Arr Int 8)) : Option (Arr Int 8) :=
  some d13
noncomputable def F74.b1 (x1 : (Arr Int 8)) : ((Arr Int 8) × Int) → Option (((Arr Int 8) × Int) ⊕ (Arr Int 8))
  | (d14, d15) => (if d15 < (8 : Int) then (if 0 ≤ d15 ∧ d15 < 8 then some (.inl ((Arr.set d14 d15 (IntKind.wrap .u32 ((gd (d14).l d15) + (gd (x1).l d15)))), (IntKind.wrap .i64 (d15 + (1 : Int))))) else none) else some (.inr d14))
noncomputable def F74.j2 (x1 : (Arr Int 8)) (d12 : (Arr Int 8)) : Option (Arr Int 8) :=
  ((loop (F74.b1 x1) (d12, (0 : Int))).bind fun y => match y with | d13 => F74.j3 (d13))
noncomputable def F74.b2 (x4 : (Arr Int 64)) (d10 : (Arr Int 64)) : ((Arr Int 8) × Int) → Option (((Arr Int 8) × Int) ⊕ (Arr Int 8))
  | (d24, d25) => (if d25 < (64 : Int) then (if 0 ≤ d25 ∧ d25 < 64 then ((F92.m ((gd (d24).l (4 : Int))) ((6 : Int))).bind fun y34 => ((F92.m ((gd (d24).l (4 : Int))) ((11 : Int))).bind fun y36 => ((F92.m ((gd (d24).l (4 : Int))) ((25 : Int))).bind fun y38 => ((F92.m ((gd (d24).l (0 : Int))) ((2 : Int))).bind fun y40 => ((F92.m ((gd (d24).l (0 : Int))) ((13 : Int))).bind fun y42 => ((F92.m ((gd (d24).l (0 : Int))) ((22 : Int))).bind fun y44 => some (.inl ((⟨[(IntKind.wrap .u32 ((IntKind.wrap .u32 ((IntKind.wrap .u32 ((IntKind.wrap .u32 ((IntKind.wrap .u32 ((gd (d24).l (7 : Int)) + (xorI .u32 (xorI .u32 y34 y36) y38))) + (orI .u32 (andI .u32 (gd (d24).l (4 : Int)) (gd (d24).l (5 : Int))) (andI .u32 (xorI .u32 (if IntKind.signed .u32 then -1 else IntKind.max .u32) (gd (d24).l (4 : Int))) (gd (d24).l (6 : Int)))))) + (gd (x4).l d25))) + (gd (d10).l d25))) + (IntKind.wrap .u32 ((xorI .u32 (xorI .u32 y40 y42) y44) + (orI .u32 (orI .u32 (andI .u32 (gd (d24).l (0 : Int)) (gd (d24).l (1 : Int))) (andI .u32 (gd (d24).l (0 : Int)) (gd (d24).l (2 : Int)))) (andI .u32 (gd (d24).l (1 : Int)) (gd (d24).l (2 : Int)))))))), (gd (d24).l (0 : Int)), (gd (d24).l (1 : Int)), (gd (d24).l (2 : Int)), (IntKind.wrap .u32 ((gd (d24).l (3 : Int)) + (IntKind.wrap .u32 ((IntKind.wrap .u32 ((IntKind.wrap .u32 ((IntKind.wrap .u32 ((gd (d24).l (7 : Int)) + (xorI .u32 (xorI .u32 y34 y36) y38))) + (orI .u32 (andI .u32 (gd (d24).l (4 : Int)) (gd (d24).l (5 : Int))) (andI .u32 (xorI .u32 (if IntKind.signed .u32 then -1 else IntKind.max .u32) (gd (d24).l (4 : Int))) (gd (d24).l (6 : Int)))))) + (gd (x4).l d25))) + (gd (d10).l d25))))), (gd (d24).l (4 : Int)), (gd (d24).l (5 : Int)), (gd (d24).l (6 : Int))], rfl⟩ : (Arr Int 8)), (IntKind.wrap .i64 (d25 + (1 : Int))))))))))) else none) else some (.inr d24))
noncomputable def F74.j1 (x1 : (Arr Int 8)) (x4 : (Arr Int 64)) (d10 : (Arr Int 64)) : Option (Arr Int 8) :=
  ((loop (F74.b2 x4 d10) (x1, (0 : Int))).bind fun y => match y with | d12 => F74.j2 x1 (d12))
noncomputable def F74.j4 (d47 : Int) (d55 : (Arr Int 64)) : Option (((Arr Int 64) × Int) ⊕ (Arr Int 64)) :=
  some (.inl (d55, (IntKind.wrap .i64 (d47 + (1 : Int)))))
noncomputable def F74.b3 (x3 : List Int) : ((Arr Int 64) × Int) → Option (((Arr Int 64) × Int) ⊕ (Arr Int 64))
  | (d46, d47) => (if d47 < (64 : Int) then (if d47 < (16 : Int) then (if 0 ≤ (IntKind.wrap .i64 ((4 : Int) * d47)) ∧ (IntKind.wrap .i64 ((4 : Int) * d47)) < ((x3).length : Int) then (if 0 ≤ (IntKind.wrap .i64 ((IntKind.wrap .i64 ((4 : Int) * d47)) + (1 : Int))) ∧ (IntKind.wrap .i64 ((IntKind.wrap .i64 ((4 : Int) * d47)) + (1 : Int))) < ((x3).length : Int) then (if 0 ≤ (IntKind.wrap .i64 ((IntKind.wrap .i64 ((4 : Int) * d47)) + (2 : Int))) ∧ (IntKind.wrap .i64 ((IntKind.wrap .i64 ((4 : Int) * d47)) + (2 : Int))) < ((x3).length : Int) then (if 0 ≤ (IntKind.wrap .i64 ((IntKind.wrap .i64 ((4 : Int) * d47)) + (3 : Int))) ∧ (IntKind.wrap .i64 ((IntKind.wrap .i64 ((4 : Int) * d47)) + (3 : Int))) < ((x3).length : Int) then (if 0 ≤ d47 ∧ d47 < 64 then F74.j4 d47 ((Arr.set d46 d47 (orI .u32 (orI .u32 (orI .u32 (shlI .u32 (IntKind.wrap .u32 (gd x3 (IntKind.wrap .i64 ((4 : Int) * d47)))) (24 : Int)) (shlI .u32 (IntKind.wrap .u32 (gd x3 (IntKind.wrap .i64 ((IntKind.wrap .i64 ((4 : Int) * d47)) + (1 : Int))))) (16 : Int))) (shlI .u32 (IntKind.wrap .u32 (gd x3 (IntKind.wrap .i64 ((IntKind.wrap .i64 ((4 : Int) * d47)) + (2 : Int))))) (8 : Int))) (IntKind.wrap .u32 (gd x3 (IntKind.wrap .i64 ((IntKind.wrap .i64 ((4 : Int) * d47)) + (3 : Int)))))))) else none) else none) else none) else none) else none) else (if 0 ≤ (IntKind.wrap .i64 (d47 - (15 : Int))) ∧ (IntKind.wrap .i64 (d47 - (15 : Int))) < 64 then (if 0 ≤ (IntKind.wrap .i64 (d47 - (2 : Int))) ∧ (IntKind.wrap .i64 (d47 - (2 : Int))) < 64 then (if 0 ≤ (IntKind.wrap .i64 (d47 - (16 : Int))) ∧ (IntKind.wrap .i64 (d47 - (16 : Int))) < 64 then (if 0 ≤ (IntKind.wrap .i64 (d47 - (7 : Int))) ∧ (IntKind.wrap .i64 (d47 - (7 : Int))) < 64 then ((F92.m ((gd (d46).l (IntKind.wrap .i64 (d47 - (15 : Int))))) ((7 : Int))).bind fun y66 => ((F92.m ((gd (d46).l (IntKind.wrap .i64 (d47 - (15 : Int))))) ((18 : Int))).bind fun y68 => ((F92.m ((gd (d46).l (IntKind.wrap .i64 (d47 - (2 : Int))))) ((17 : Int))).bind fun y70 => ((F92.m ((gd (d46).l (IntKind.wrap .i64 (d47 - (2 : Int))))) ((19 : Int))).bind fun y72 => (if 0 ≤ d47 ∧ d47 < 64 then F74.j4 d47 ((Arr.set d46 d47 (IntKind.wrap .u32 ((IntKind.wrap .u32 ((IntKind.wrap .u32 ((gd (d46).l (IntKind.wrap .i64 (d47 - (16 : Int)))) + (xorI .u32 (xorI .u32 y66 y68) (shrI .u32 (gd (d46).l (IntKind.wrap .i64 (d47 - (15 : Int)))) (3 : Int))))) + (gd (d46).l (IntKind.wrap .i64 (d47 - (7 : Int)))))) + (xorI .u32 (xorI .u32 y70 y72) (shrI .u32 (gd (d46).l (IntKind.wrap .i64 (d47 - (2 : Int)))) (10 : Int))))))) else none))))) else none) else none) else none) else none)) else some (.inr d46))
noncomputable def F74.m (x1 : (Arr Int 8)) (x3 : List Int) (x4 : (Arr Int 64)) : Option (Arr Int 8) :=
  ((loop (F74.b3 x3) (K2, (0 : Int))).bind fun y => match y with | d10 => F74.j1 x1 x4 (d10))
set_option maxRecDepth 100000 in
set_option maxHeartbeats 4000000 in
theorem F74.spec (s2 : SlV) (x1 : (Arr Int 8)) (x3 : List Int) (x4 : (Arr Int 64)) (r : (Arr Int 8)) (hm : F74.m x1 x3 x4 = some r) :
    Ctr Try.prog false 74 [.agg (((Enc.arr 8 (Enc.int .u32))).enc x1).toArray, s2.v, .agg (((Enc.arr 64 (Enc.int .u32))).enc x4).toArray] [Asr.vw (Enc.int .u8) (s2.v) x3] (fun v L' => v = .agg (((Enc.arr 8 (Enc.int .u32))).enc r).toArray ∧ L' = []) := by
  refine Ctr.intro (n := 194) (env := [(0, .agg (((Enc.arr 8 (Enc.int .u32))).enc x1).toArray), (1, s2.v), (2, .agg (((Enc.arr 64 (Enc.int .u32))).enc x4).toArray)]) Try.func74 rfl rfl rfl rfl (fun c => ?_)
  unfold F74.m at hm
  refine JC.seq ?_
  refine JC.region ?_
  refine JL.mv (d := some 3) (MV.box [Seg.of (Enc.arr 8 (Enc.int .u32)) x1] rfl (fun w hs => rfl)) rfl rfl rfl ?_
  rintro _ _ ⟨b6, rfl, rfl⟩
  refine JL.mv (d := some 5) (MV.box [Seg.of (Enc.arr 64 (Enc.int .u32)) x4] rfl (fun w hs => rfl)) rfl rfl rfl ?_
  rintro _ _ ⟨b7, rfl, rfl⟩
  refine JL.mv (d := some 6) (MV.alloc [Seg.of (Enc.arr 8 (Enc.int .u32)) (Arr.rep 8 (0 : Int))] z_98 rfl) rfl rfl rfl ?_
  rintro _ _ ⟨b8, rfl, rfl⟩
  refine JL.nil ?_
  refine QJ.then_normal ?_
  refine JC.seq ?_
  refine JC.region ?_
  refine JL.val (v := .agg (((Enc.arr 64 (Enc.int .u32))).enc K2).toArray) (QV.build (vals := []) (cells := ((Enc.arr 64 (Enc.int .u32)).enc K2).toArray) rfl (by kernel_rfl)) rfl rfl rfl ?_
  refine JL.mv (d := some 7) (MV.alloc [Seg.of (Enc.arr 64 (Enc.int .u32)) (Arr.rep 64 (0 : Int))] z_99 rfl) rfl rfl rfl ?_
  rintro _ _ ⟨b9, rfl, rfl⟩
  refine JL.mv (d := none) (MV.store (ss := [Seg.of (Enc.arr 64 (Enc.int .u32)) (Arr.rep 64 (0 : Int))]) 0 0 1 [Seg.of (Enc.arr 64 (Enc.int .u32)) K2] rfl tk_99 rfl rfl rfl rfl (fun w hs => ⟨rfl, one_of _ _, trivial⟩)) rfl rfl rfl ?_
  rintro _ _ ⟨rfl, rfl⟩
  refine JL.nil ?_
  refine QJ.then_normal ?_
  refine JC.seq ?_
  refine JC.seq ?_
  refine JC.region ?_
  refine JL.val (v := .int .i64 (0 : Int)) (QV.assign rfl) rfl rfl rfl ?_
  refine JL.nil ?_
  refine QJ.then_normal ?_
  refine JC.cutK (Y := (Arr Int 64) × Unit) (fun y => match y with | (d10, _) => F74.j1 x1 x4 (d10) = some r) (fun y => match y with | (d10, _) => [(3, .pointer (some ⟨b6, 0, none⟩)), (5, .pointer (some ⟨b7, 0, none⟩)), (6, .pointer (some ⟨b8, 0, none⟩)), (7, .pointer (some ⟨b9, 0, none⟩))]) (fun y => match y with | (d10, _) => [Asr.blk b6 98 [Seg.of (Enc.arr 8 (Enc.int .u32)) x1], Asr.blk b7 99 [Seg.of (Enc.arr 64 (Enc.int .u32)) x4], Asr.blk b8 98 [Seg.of (Enc.arr 8 (Enc.int .u32)) (Arr.rep 8 (0 : Int))], Asr.blk b9 99 [Seg.of (Enc.arr 64 (Enc.int .u32)) d10]]) ?_ ?_
  ·
    rintro ⟨d10, ⟨⟩⟩ hm
    unfold F74.j1 at hm
    show QJ _ _ [(3, .pointer (some ⟨b6, 0, none⟩)), (5, .pointer (some ⟨b7, 0, none⟩)), (6, .pointer (some ⟨b8, 0, none⟩)), (7, .pointer (some ⟨b9, 0, none⟩))] [Asr.blk b6 98 [Seg.of (Enc.arr 8 (Enc.int .u32)) x1], Asr.blk b7 99 [Seg.of (Enc.arr 64 (Enc.int .u32)) x4], Asr.blk b8 98 [Seg.of (Enc.arr 8 (Enc.int .u32)) (Arr.rep 8 (0 : Int))], Asr.blk b9 99 [Seg.of (Enc.arr 64 (Enc.int .u32)) d10]] _ _
    refine QJ.then_normal ?_
    refine JC.seq ?_
    refine JC.region ?_
    refine JL.val (v := .agg (((Enc.arr 8 (Enc.int .u32))).enc x1).toArray) (QV.eq (QV.loadN (ss := [Seg.of (Enc.arr 8 (Enc.int .u32)) x1]) 0 0 1 rfl tk_98 rfl rfl rfl rfl) rfl) rfl rfl rfl ?_
    refine JL.mv (d := some 11) (MV.alloc [Seg.of (Enc.arr 8 (Enc.int .u32)) (Arr.rep 8 (0 : Int))] z_98 rfl) rfl rfl rfl ?_
    rintro _ _ ⟨b11, rfl, rfl⟩
    refine JL.mv (d := none) (MV.store (ss := [Seg.of (Enc.arr 8 (Enc.int .u32)) (Arr.rep 8 (0 : Int))]) 0 0 1 [Seg.of (Enc.arr 8 (Enc.int .u32)) x1] rfl tk_98 rfl rfl rfl rfl (fun w hs => ⟨rfl, one_of _ _, trivial⟩)) rfl rfl rfl ?_
    rintro _ _ ⟨rfl, rfl⟩
    refine JL.nil ?_
    refine QJ.then_normal ?_
    refine JC.seq ?_
    refine JC.seq ?_
    refine JC.region ?_
    refine JL.val (v := .int .i64 (0 : Int)) (QV.assign rfl) rfl rfl rfl ?_
    refine JL.nil ?_
    refine QJ.then_normal ?_
    refine JC.cutK (Y := (Arr Int 8) × Unit) (fun y => match y with | (d12, _) => F74.j2 x1 (d12) = some r) (fun y => match y with | (d12, _) => [(3, .pointer (some ⟨b6, 0, none⟩)), (6, .pointer (some ⟨b8, 0, none⟩)), (11, .pointer (some ⟨b11, 0, none⟩))]) (fun y => match y with | (d12, _) => [Asr.blk b6 98 [Seg.of (Enc.arr 8 (Enc.int .u32)) x1], Asr.blk b8 98 [Seg.of (Enc.arr 8 (Enc.int .u32)) (Arr.rep 8 (0 : Int))], Asr.blk b11 98 [Seg.of (Enc.arr 8 (Enc.int .u32)) d12]]) ?_ ?_
    ·
      rintro ⟨d12, ⟨⟩⟩ hm
      unfold F74.j2 at hm
      show QJ _ _ [(3, .pointer (some ⟨b6, 0, none⟩)), (6, .pointer (some ⟨b8, 0, none⟩)), (11, .pointer (some ⟨b11, 0, none⟩))] [Asr.blk b6 98 [Seg.of (Enc.arr 8 (Enc.int .u32)) x1], Asr.blk b8 98 [Seg.of (Enc.arr 8 (Enc.int .u32)) (Arr.rep 8 (0 : Int))], Asr.blk b11 98 [Seg.of (Enc.arr 8 (Enc.int .u32)) d12]] _ _
      refine QJ.then_normal ?_
      refine JC.seq ?_
      refine JC.seq ?_
      refine JC.region ?_
      refine JL.val (v := .int .i64 (0 : Int)) (QV.assign rfl) rfl rfl rfl ?_
      refine JL.nil ?_
      refine QJ.then_normal ?_
      refine JC.cutK (Y := (Arr Int 8) × Unit) (fun y => match y with | (d13, _) => F74.j3 (d13) = some r) (fun y => match y with | (d13, _) => [(6, .pointer (some ⟨b8, 0, none⟩)), (11, .pointer (some ⟨b11, 0, none⟩))]) (fun y => match y with | (d13, _) => [Asr.blk b8 98 [Seg.of (Enc.arr 8 (Enc.int .u32)) (Arr.rep 8 (0 : Int))], Asr.blk b11 98 [Seg.of (Enc.arr 8 (Enc.int .u32)) d13]]) ?_ ?_
      ·
        rintro ⟨d13, ⟨⟩⟩ hm
        unfold F74.j3 at hm
        show QJ _ _ [(6, .pointer (some ⟨b8, 0, none⟩)), (11, .pointer (some ⟨b11, 0, none⟩))] [Asr.blk b8 98 [Seg.of (Enc.arr 8 (Enc.int .u32)) (Arr.rep 8 (0 : Int))], Asr.blk b11 98 [Seg.of (Enc.arr 8 (Enc.int .u32)) d13]] _ _
        refine QJ.then_normal ?_
        refine JC.seq ?_
        refine JC.region ?_
        refine JL.val (v := .agg (((Enc.arr 8 (Enc.int .u32))).enc d13).toArray) (QV.eq (QV.loadN (ss := [Seg.of (Enc.arr 8 (Enc.int .u32)) d13]) 1 0 1 rfl tk_98 rfl rfl rfl rfl) rfl) rfl rfl rfl ?_
        refine JL.mv (d := none) (MV.store (ss := [Seg.of (Enc.arr 8 (Enc.int .u32)) (Arr.rep 8 (0 : Int))]) 0 0 1 [Seg.of (Enc.arr 8 (Enc.int .u32)) d13] rfl tk_98 rfl rfl rfl rfl (fun w hs => ⟨rfl, one_of _ _, trivial⟩)) rfl rfl rfl ?_
        rintro _ _ ⟨rfl, rfl⟩
        refine JL.nil ?_
        refine QJ.then_normal ?_
        refine JC.ret ?_
        obtain rfl := Option.some.inj hm
        exact QJ.body (vs := [.agg (((Enc.arr 8 (Enc.int .u32))).enc d13).toArray]) (.inl rfl) rfl (ResVs.cons (ResV.cell (d := none) (ty := 0) (ps := "") (af := #[]) (g := none) rfl (QV.eq (QV.loadN (ss := [Seg.of (Enc.arr 8 (Enc.int .u32)) d13]) 0 0 1 rfl tk_98 rfl rfl rfl rfl) rfl)) ResVs.nil) [] rfl rfl (.inr trivial) ⟨rfl, rfl⟩
      ·
        refine JC.block ?_
        obtain ⟨y18, hl19, hmo20⟩ := bind_inv hm
        refine JC.loop (F74.b1 x1) (fun x z => match x, z with | (d14, d15), _ => [(3, .pointer (some ⟨b6, 0, none⟩)), (6, .pointer (some ⟨b8, 0, none⟩)), (11, .pointer (some ⟨b11, 0, none⟩)), (17, .int .i64 d15)]) (fun x z => match x, z with | (d14, d15), _ => [Asr.blk b6 98 [Seg.of (Enc.arr 8 (Enc.int .u32)) x1], Asr.blk b8 98 [Seg.of (Enc.arr 8 (Enc.int .u32)) (Arr.rep 8 (0 : Int))], Asr.blk b11 98 [Seg.of (Enc.arr 8 (Enc.int .u32)) d14]]) (d12, (0 : Int)) () y18 hl19 [0, 1, 2] (by exact ⟨rfl, rfl, rfl, rfl, trivial⟩) rfl rfl ?_
        rintro ⟨d14, d15⟩ ⟨⟩ s21 hm
        unfold F74.b1 at hm
        dsimp only at hm
        show JC _ _ _ [(3, .pointer (some ⟨b6, 0, none⟩)), (6, .pointer (some ⟨b8, 0, none⟩)), (11, .pointer (some ⟨b11, 0, none⟩)), (17, .int .i64 d15)] [Asr.blk b6 98 [Seg.of (Enc.arr 8 (Enc.int .u32)) x1], Asr.blk b8 98 [Seg.of (Enc.arr 8 (Enc.int .u32)) (Arr.rep 8 (0 : Int))], Asr.blk b11 98 [Seg.of (Enc.arr 8 (Enc.int .u32)) d14]] _ _
        refine JC.seq ?_
        refine JC.seq ?_
        refine JC.region ?_
        refine JL.val (v := .int .i64 d15) (QV.move rfl) rfl rfl rfl ?_
        refine JL.val (v := .bool (decide (d15 < (8 : Int)))) (QV.lss rfl rfl) rfl rfl rfl ?_
        refine JL.nil ?_
        refine QJ.then_normal ?_
        rcases ite_inv hm with ⟨h22, hm⟩ | ⟨h22, hm⟩
        ·
          refine JC.condT' rfl (decide_eq_true h22) ?_
          refine JC.skip ?_
          refine QJ.then_normal ?_
          refine JC.seq ?_
          refine JC.block ?_
          refine JC.regionT [Asr.blk b6 98 [Seg.of (Enc.arr 8 (Enc.int .u32)) x1], Asr.blk b8 98 [Seg.of (Enc.arr 8 (Enc.int .u32)) (Arr.rep 8 (0 : Int))], Asr.blk b11 98 [Seg.of (Enc.arr 8 (Enc.int .u32)) d14]] (fun t => Nat.beq t 9) [(0, true), (1, true), (2, true), (3, true), (4, false), (5, false), (6, false), (7, false), (8, false), (9, false)] (by kernel_rfl) (by kernel_rfl) (by kernel_rfl) rfl (fun hsel => ?_)
          refine JT.take (i := 0) (v := .int .i64 d15) hsel rfl (QV.move rfl) rfl rfl rfl [0, 1, 2] rfl rfl ?_
          refine JT.take (i := 1) (v := .int .i64 d15) hsel rfl (QV.move rfl) rfl rfl rfl [0, 1, 2] rfl rfl ?_
          obtain ⟨h23, hm⟩ := guard_inv hm
          refine JT.take (i := 2) (v := .pointer (some ⟨b11, 0 + Int.toNat d15 * 1, none⟩)) hsel rfl (QV.indexB Try.underlying98 tk_74 rfl rfl h23) rfl rfl rfl [0, 1, 2] rfl rfl ?_
          refine JT.take (i := 3) (v := .int .u32 (gd (d14).l d15)) hsel rfl (QV.ar1 (ss := [Seg.of (Enc.arr 8 (Enc.int .u32)) d14]) 2 0 rfl tk_74 rfl rfl rfl rfl h23 rfl) rfl rfl rfl [0, 1, 2] rfl rfl ?_
          refine JT.only (i := 4) (d := some 188) rfl (MV.ofQV (v := .int .i64 d15) (QV.move rfl)) rfl rfl rfl ?_
          rintro _ _ ⟨rfl, rfl⟩
          refine ⟨fun _ => ⟨[0, 1, 2], rfl, rfl⟩, ?_⟩
          refine JT.only (i := 5) (d := some 189) rfl (MV.ofQV (v := .pointer (some ⟨b6, 0 + Int.toNat d15 * 1, none⟩)) (QV.indexB Try.underlying98 tk_74 rfl rfl h23)) rfl rfl rfl ?_
          rintro _ _ ⟨rfl, rfl⟩
          refine ⟨fun _ => ⟨[0, 1, 2], rfl, rfl⟩, ?_⟩
          refine JT.only (i := 6) (d := some 190) rfl (MV.ofQV (v := .int .u32 (gd (x1).l d15)) (QV.ar1 (ss := [Seg.of (Enc.arr 8 (Enc.int .u32)) x1]) 0 0 rfl tk_74 rfl rfl rfl rfl h23 rfl)) rfl rfl rfl ?_
          rintro _ _ ⟨rfl, rfl⟩
          refine ⟨fun _ => ⟨[0, 1, 2], rfl, rfl⟩, ?_⟩
          refine JT.only (i := 7) (d := some 191) rfl (MV.ofQV (v := .int .u32 (IntKind.wrap .u32 ((gd (d14).l d15) + (gd (x1).l d15)))) (QV.add rfl rfl)) rfl rfl rfl ?_
          rintro _ _ ⟨rfl, rfl⟩
          refine ⟨fun _ => ⟨[0, 1, 2], rfl, rfl⟩, ?_⟩
          refine JT.only (i := 8) (d := some 192) rfl (MV.ofQV (v := .pointer (some ⟨b11, 0 + Int.toNat d15 * 1, none⟩)) (QV.indexB Try.underlying98 tk_74 rfl rfl h23)) rfl rfl rfl ?_
          rintro _ _ ⟨rfl, rfl⟩
          refine ⟨fun _ => ⟨[0, 1, 2], rfl, rfl⟩, ?_⟩
          refine JT.only (i := 9) (d := none) rfl (MV.storeAr (ss := [Seg.of (Enc.arr 8 (Enc.int .u32)) d14]) 2 0 (IntKind.wrap .u32 ((gd (d14).l d15) + (gd (x1).l d15))) rfl tk_74 rfl rfl rfl rfl h23 rfl rfl) rfl rfl rfl ?_
          rintro _ _ ⟨rfl, rfl⟩
          refine ⟨fun h => absurd h (by decide), ?_⟩
          refine JT.nil ?_
          refine QJ.block_normal ?_
          refine QJ.then_normal ?_
          refine JC.region ?_
          refine JL.val (v := .int .i64 d15) (QV.move rfl) rfl rfl rfl ?_
          refine JL.val (v := .int .i64 (IntKind.wrap .i64 (d15 + (1 : Int)))) (QV.add rfl rfl) rfl rfl rfl ?_
          refine JL.val (v := .int .i64 (IntKind.wrap .i64 (d15 + (1 : Int)))) (QV.assign rfl) rfl rfl rfl ?_
          refine JL.nil ?_
          obtain rfl := Option.some.inj hm
          exact QJ.round_on ((Arr.set d14 d15 (IntKind.wrap .u32 ((gd (d14).l d15) + (gd (x1).l d15)))), (IntKind.wrap .i64 (d15 + (1 : Int)))) () [0, 1, 2] (by exact ⟨rfl, rfl, rfl, rfl, trivial⟩) rfl rfl
        ·
          refine JC.condF' rfl (decide_eq_false h22) ?_
          refine JC.exit ?_
          refine QJ.then_exit ?_
          obtain rfl := Option.some.inj hm
          refine QJ.round_exit (fun hy => ?_)
          subst hy
          refine QJ.block_hit ?_
          exact QJ.cut_normal (d14, ()) hmo20 [1, 2] (by exact ⟨rfl, rfl, trivial⟩) rfl rfl
    ·
      refine JC.block ?_
      obtain ⟨y28, hl29, hmo30⟩ := bind_inv hm
      refine JC.loop (F74.b2 x4 d10) (fun x z => match x, z with | (d24, d25), _ => [(3, .pointer (some ⟨b6, 0, none⟩)), (5, .pointer (some ⟨b7, 0, none⟩)), (6, .pointer (some ⟨b8, 0, none⟩)), (7, .pointer (some ⟨b9, 0, none⟩)), (11, .pointer (some ⟨b11, 0, none⟩)), (12, .int .i64 d25)]) (fun x z => match x, z with | (d24, d25), _ => [Asr.blk b6 98 [Seg.of (Enc.arr 8 (Enc.int .u32)) x1], Asr.blk b7 99 [Seg.of (Enc.arr 64 (Enc.int .u32)) x4], Asr.blk b8 98 [Seg.of (Enc.arr 8 (Enc.int .u32)) (Arr.rep 8 (0 : Int))], Asr.blk b9 99 [Seg.of (Enc.arr 64 (Enc.int .u32)) d10], Asr.blk b11 98 [Seg.of (Enc.arr 8 (Enc.int .u32)) d24]]) (x1, (0 : Int)) () y28 hl29 [1, 2, 3, 4, 0] (by exact ⟨rfl, rfl, rfl, rfl, rfl, rfl, trivial⟩) rfl rfl ?_
      rintro ⟨d24, d25⟩ ⟨⟩ s31 hm
      unfold F74.b2 at hm
      dsimp only at hm
      show JC _ _ _ [(3, .pointer (some ⟨b6, 0, none⟩)), (5, .pointer (some ⟨b7, 0, none⟩)), (6, .pointer (some ⟨b8, 0, none⟩)), (7, .pointer (some ⟨b9, 0, none⟩)), (11, .pointer (some ⟨b11, 0, none⟩)), (12, .int .i64 d25)] [Asr.blk b6 98 [Seg.of (Enc.arr 8 (Enc.int .u32)) x1], Asr.blk b7 99 [Seg.of (Enc.arr 64 (Enc.int .u32)) x4], Asr.blk b8 98 [Seg.of (Enc.arr 8 (Enc.int .u32)) (Arr.rep 8 (0 : Int))], Asr.blk b9 99 [Seg.of (Enc.arr 64 (Enc.int .u32)) d10], Asr.blk b11 98 [Seg.of (Enc.arr 8 (Enc.int .u32)) d24]] _ _
      refine JC.seq ?_
      refine JC.seq ?_
      refine JC.region ?_
      refine JL.val (v := .int .i64 d25) (QV.move rfl) rfl rfl rfl ?_
      refine JL.val (v := .bool (decide (d25 < (64 : Int)))) (QV.lss rfl rfl) rfl rfl rfl ?_
      refine JL.nil ?_
      refine QJ.then_normal ?_
      rcases ite_inv hm with ⟨h32, hm⟩ | ⟨h32, hm⟩
      ·
        refine JC.condT' rfl (decide_eq_true h32) ?_
        refine JC.skip ?_
        refine QJ.then_normal ?_
        refine JC.seq ?_
        refine JC.block ?_
        refine JC.seq ?_
        refine JC.region ?_
        refine JL.val (v := .pointer (some ⟨b11, 0 + Int.toNat (0 : Int) * 1, none⟩)) (QV.indexB Try.underlying98 tk_74 rfl rfl (by decide)) rfl rfl rfl ?_
        refine JL.val (v := .int .u32 (gd (d24).l (0 : Int))) (QV.ar1 (ss := [Seg.of (Enc.arr 8 (Enc.int .u32)) d24]) 4 0 rfl tk_74 rfl rfl rfl rfl (by decide) rfl) rfl rfl rfl ?_
        refine JL.val (v := .int .u32 (gd (d24).l (0 : Int))) (QV.assign rfl) rfl rfl rfl ?_
        refine JL.nil ?_
        refine QJ.then_normal ?_
        refine JC.seq ?_
        refine JC.region ?_
        refine JL.val (v := .pointer (some ⟨b11, 0 + Int.toNat (4 : Int) * 1, none⟩)) (QV.indexB Try.underlying98 tk_74 rfl rfl (by decide)) rfl rfl rfl ?_
        refine JL.val (v := .int .u32 (gd (d24).l (4 : Int))) (QV.ar1 (ss := [Seg.of (Enc.arr 8 (Enc.int .u32)) d24]) 4 0 rfl tk_74 rfl rfl rfl rfl (by decide) rfl) rfl rfl rfl ?_
        refine JL.val (v := .int .u32 (gd (d24).l (4 : Int))) (QV.assign rfl) rfl rfl rfl ?_
        refine JL.nil ?_
        refine QJ.then_normal ?_
        refine JC.seq ?_
        refine JC.regionT [Asr.blk b6 98 [Seg.of (Enc.arr 8 (Enc.int .u32)) x1], Asr.blk b7 99 [Seg.of (Enc.arr 64 (Enc.int .u32)) x4], Asr.blk b8 98 [Seg.of (Enc.arr 8 (Enc.int .u32)) (Arr.rep 8 (0 : Int))], Asr.blk b9 99 [Seg.of (Enc.arr 64 (Enc.int .u32)) d10], Asr.blk b11 98 [Seg.of (Enc.arr 8 (Enc.int .u32)) d24]] (fun t => false) [(0, true), (1, true), (2, true), (4, true), (7, true), (11, true), (12, true), (13, true), (14, true), (15, true), (16, true), (17, true), (18, true), (19, true), (20, true), (22, true), (23, true), (24, true), (26, true), (27, true), (28, true), (3, false), (5, false), (6, true), (8, false), (9, false), (10, false), (21, false), (25, false), (29, false), (30, false)] (by kernel_rfl) (by kernel_rfl) (by kernel_rfl) rfl (fun hsel => ?_)
        refine JT.take (i := 0) (v := .pointer (some ⟨b11, 0 + Int.toNat (7 : Int) * 1, none⟩)) hsel rfl (QV.indexB Try.underlying98 tk_74 rfl rfl (by decide)) rfl rfl rfl [0, 1, 2, 3, 4] rfl rfl ?_
        refine JT.take (i := 1) (v := .int .u32 (gd (d24).l (7 : Int))) hsel rfl (QV.ar1 (ss := [Seg.of (Enc.arr 8 (Enc.int .u32)) d24]) 4 0 rfl tk_74 rfl rfl rfl rfl (by decide) rfl) rfl rfl rfl [0, 1, 2, 3, 4] rfl rfl ?_
        refine JT.take (i := 2) (v := .int .u32 (gd (d24).l (4 : Int))) hsel rfl (QV.move rfl) rfl rfl rfl [0, 1, 2, 3, 4] rfl rfl ?_
        refine JT.take (i := 4) (v := .int .u32 (gd (d24).l (4 : Int))) hsel rfl (QV.move rfl) rfl rfl rfl [0, 1, 2, 3, 4] rfl rfl ?_
        refine JT.take (i := 7) (v := .int .u32 (gd (d24).l (4 : Int))) hsel rfl (QV.move rfl) rfl rfl rfl [0, 1, 2, 3, 4] rfl rfl ?_
        refine JT.take (i := 11) (v := .int .u32 (gd (d24).l (4 : Int))) hsel rfl (QV.move rfl) rfl rfl rfl [0, 1, 2, 3, 4] rfl rfl ?_
        refine JT.take (i := 12) (v := .pointer (some ⟨b11, 0 + Int.toNat (5 : Int) * 1, none⟩)) hsel rfl (QV.indexB Try.underlying98 tk_74 rfl rfl (by decide)) rfl rfl rfl [0, 1, 2, 3, 4] rfl rfl ?_
        refine JT.take (i := 13) (v := .int .u32 (gd (d24).l (5 : Int))) hsel rfl (QV.ar1 (ss := [Seg.of (Enc.arr 8 (Enc.int .u32)) d24]) 4 0 rfl tk_74 rfl rfl rfl rfl (by decide) rfl) rfl rfl rfl [0, 1, 2, 3, 4] rfl rfl ?_
        refine JT.take (i := 14) (v := .int .u32 (andI .u32 (gd (d24).l (4 : Int)) (gd (d24).l (5 : Int)))) hsel rfl (QV.and rfl rfl) rfl rfl rfl [0, 1, 2, 3, 4] rfl rfl ?_
        refine JT.take (i := 15) (v := .int .u32 (gd (d24).l (4 : Int))) hsel rfl (QV.move rfl) rfl rfl rfl [0, 1, 2, 3, 4] rfl rfl ?_
        refine JT.take (i := 16) (v := .int .u32 (xorI .u32 (if IntKind.signed .u32 then -1 else IntKind.max .u32) (gd (d24).l (4 : Int)))) hsel rfl (QV.com rfl) rfl rfl rfl [0, 1, 2, 3, 4] rfl rfl ?_
        refine JT.take (i := 17) (v := .pointer (some ⟨b11, 0 + Int.toNat (6 : Int) * 1, none⟩)) hsel rfl (QV.indexB Try.underlying98 tk_74 rfl rfl (by decide)) rfl rfl rfl [0, 1, 2, 3, 4] rfl rfl ?_
        refine JT.take (i := 18) (v := .int .u32 (gd (d24).l (6 : Int))) hsel rfl (QV.ar1 (ss := [Seg.of (Enc.arr 8 (Enc.int .u32)) d24]) 4 0 rfl tk_74 rfl rfl rfl rfl (by decide) rfl) rfl rfl rfl [0, 1, 2, 3, 4] rfl rfl ?_
        refine JT.take (i := 19) (v := .int .u32 (andI .u32 (xorI .u32 (if IntKind.signed .u32 then -1 else IntKind.max .u32) (gd (d24).l (4 : Int))) (gd (d24).l (6 : Int)))) hsel rfl (QV.and rfl rfl) rfl rfl rfl [0, 1, 2, 3, 4] rfl rfl ?_
        refine JT.take (i := 20) (v := .int .u32 (orI .u32 (andI .u32 (gd (d24).l (4 : Int)) (gd (d24).l (5 : Int))) (andI .u32 (xorI .u32 (if IntKind.signed .u32 then -1 else IntKind.max .u32) (gd (d24).l (4 : Int))) (gd (d24).l (6 : Int))))) hsel rfl (QV.or rfl rfl) rfl rfl rfl [0, 1, 2, 3, 4] rfl rfl ?_
        refine JT.take (i := 22) (v := .int .i64 d25) hsel rfl (QV.move rfl) rfl rfl rfl [0, 1, 2, 3, 4] rfl rfl ?_
        obtain ⟨h33, hm⟩ := guard_inv hm
        refine JT.take (i := 23) (v := .pointer (some ⟨b7, 0 + Int.toNat d25 * 1, none⟩)) hsel rfl (QV.indexB Try.underlying99 tk_74 rfl rfl h33) rfl rfl rfl [0, 1, 2, 3, 4] rfl rfl ?_
        refine JT.take (i := 24) (v := .int .u32 (gd (x4).l d25)) hsel rfl (QV.ar1 (ss := [Seg.of (Enc.arr 64 (Enc.int .u32)) x4]) 1 0 rfl tk_74 rfl rfl rfl rfl h33 rfl) rfl rfl rfl [0, 1, 2, 3, 4] rfl rfl ?_
        refine JT.take (i := 26) (v := .int .i64 d25) hsel rfl (QV.move rfl) rfl rfl rfl [0, 1, 2, 3, 4] rfl rfl ?_
        refine JT.take (i := 27) (v := .pointer (some ⟨b9, 0 + Int.toNat d25 * 1, none⟩)) hsel rfl (QV.indexB Try.underlying99 tk_74 rfl rfl h33) rfl rfl rfl [0, 1, 2, 3, 4] rfl rfl ?_
        refine JT.take (i := 28) (v := .int .u32 (gd (d10).l d25)) hsel rfl (QV.ar1 (ss := [Seg.of (Enc.arr 64 (Enc.int .u32)) d10]) 3 0 rfl tk_74 rfl rfl rfl rfl h33 rfl) rfl rfl rfl [0, 1, 2, 3, 4] rfl rfl ?_
        obtain ⟨y34, hc35, hm⟩ := bind_inv hm
        refine JT.only (i := 3) (d := some 109) rfl (MV.call (Lo := []) (Lr := [Asr.blk b6 98 [Seg.of (Enc.arr 8 (Enc.int .u32)) x1], Asr.blk b7 99 [Seg.of (Enc.arr 64 (Enc.int .u32)) x4], Asr.blk b8 98 [Seg.of (Enc.arr 8 (Enc.int .u32)) (Arr.rep 8 (0 : Int))], Asr.blk b9 99 [Seg.of (Enc.arr 64 (Enc.int .u32)) d10], Asr.blk b11 98 [Seg.of (Enc.arr 8 (Enc.int .u32)) d24]]) (F92.spec ((gd (d24).l (4 : Int))) ((6 : Int)) _ hc35) rfl Try.func92 rfl rfl rfl [] [0, 1, 2, 3, 4] rfl rfl rfl trivial) rfl rfl rfl ?_
        rintro _ _ ⟨_, ⟨rfl, rfl⟩, rfl⟩
        refine ⟨fun _ => ⟨[0, 1, 2, 3, 4], rfl, rfl⟩, ?_⟩
        obtain ⟨y36, hc37, hm⟩ := bind_inv hm
        refine JT.only (i := 5) (d := some 111) rfl (MV.call (Lo := []) (Lr := [Asr.blk b6 98 [Seg.of (Enc.arr 8 (Enc.int .u32)) x1], Asr.blk b7 99 [Seg.of (Enc.arr 64 (Enc.int .u32)) x4], Asr.blk b8 98 [Seg.of (Enc.arr 8 (Enc.int .u32)) (Arr.rep 8 (0 : Int))], Asr.blk b9 99 [Seg.of (Enc.arr 64 (Enc.int .u32)) d10], Asr.blk b11 98 [Seg.of (Enc.arr 8 (Enc.int .u32)) d24]]) (F92.spec ((gd (d24).l (4 : Int))) ((11 : Int)) _ hc37) rfl Try.func92 rfl rfl rfl [] [0, 1, 2, 3, 4] rfl rfl rfl trivial) rfl rfl rfl ?_
        rintro _ _ ⟨_, ⟨rfl, rfl⟩, rfl⟩
        refine ⟨fun _ => ⟨[0, 1, 2, 3, 4], rfl, rfl⟩, ?_⟩
        refine JT.take (i := 6) (v := .int .u32 (xorI .u32 y34 y36)) hsel rfl (QV.xor rfl rfl) rfl rfl rfl [0, 1, 2, 3, 4] rfl rfl ?_
        obtain ⟨y38, hc39, hm⟩ := bind_inv hm
        refine JT.only (i := 8) (d := some 114) rfl (MV.call (Lo := []) (Lr := [Asr.blk b6 98 [Seg.of (Enc.arr 8 (Enc.int .u32)) x1], Asr.blk b7 99 [Seg.of (Enc.arr 64 (Enc.int .u32)) x4], Asr.blk b8 98 [Seg.of (Enc.arr 8 (Enc.int .u32)) (Arr.rep 8 (0 : Int))], Asr.blk b9 99 [Seg.of (Enc.arr 64 (Enc.int .u32)) d10], Asr.blk b11 98 [Seg.of (Enc.arr 8 (Enc.int .u32)) d24]]) (F92.spec ((gd (d24).l (4 : Int))) ((25 : Int)) _ hc39) rfl Try.func92 rfl rfl rfl [] [0, 1, 2, 3, 4] rfl rfl rfl trivial) rfl rfl rfl ?_
        rintro _ _ ⟨_, ⟨rfl, rfl⟩, rfl⟩
        refine ⟨fun _ => ⟨[0, 1, 2, 3, 4], rfl, rfl⟩, ?_⟩
        refine JT.only (i := 9) (d := some 115) rfl (MV.ofQV (v := .int .u32 (xorI .u32 (xorI .u32 y34 y36) y38)) (QV.xor rfl rfl)) rfl rfl rfl ?_
        rintro _ _ ⟨rfl, rfl⟩
        refine ⟨fun _ => ⟨[0, 1, 2, 3, 4], rfl, rfl⟩, ?_⟩
        refine JT.only (i := 10) (d := some 116) rfl (MV.ofQV (v := .int .u32 (IntKind.wrap .u32 ((gd (d24).l (7 : Int)) + (xorI .u32 (xorI .u32 y34 y36) y38)))) (QV.add rfl rfl)) rfl rfl rfl ?_
        rintro _ _ ⟨rfl, rfl⟩
        refine ⟨fun _ => ⟨[0, 1, 2, 3, 4], rfl, rfl⟩, ?_⟩
        refine JT.only (i := 21) (d := some 127) rfl (MV.ofQV (v := .int .u32 (IntKind.wrap .u32 ((IntKind.wrap .u32 ((gd (d24).l (7 : Int)) + (xorI .u32 (xorI .u32 y34 y36) y38))) + (orI .u32 (andI .u32 (gd (d24).l (4 : Int)) (gd (d24).l (5 : Int))) (andI .u32 (xorI .u32 (if IntKind.signed .u32 then -1 else IntKind.max .u32) (gd (d24).l (4 : Int))) (gd (d24).l (6 : Int))))))) (QV.add rfl rfl)) rfl rfl rfl ?_
        rintro _ _ ⟨rfl, rfl⟩
        refine ⟨fun _ => ⟨[0, 1, 2, 3, 4], rfl, rfl⟩, ?_⟩
        refine JT.only (i := 25) (d := some 131) rfl (MV.ofQV (v := .int .u32 (IntKind.wrap .u32 ((IntKind.wrap .u32 ((IntKind.wrap .u32 ((gd (d24).l (7 : Int)) + (xorI .u32 (xorI .u32 y34 y36) y38))) + (orI .u32 (andI .u32 (gd (d24).l (4 : Int)) (gd (d24).l (5 : Int))) (andI .u32 (xorI .u32 (if IntKind.signed .u32 then -1 else IntKind.max .u32) (gd (d24).l (4 : Int))) (gd (d24).l (6 : Int)))))) + (gd (x4).l d25)))) (QV.add rfl rfl)) rfl rfl rfl ?_
        rintro _ _ ⟨rfl, rfl⟩
        refine ⟨fun _ => ⟨[0, 1, 2, 3, 4], rfl, rfl⟩, ?_⟩
        refine JT.only (i := 29) (d := some 135) rfl (MV.ofQV (v := .int .u32 (IntKind.wrap .u32 ((IntKind.wrap .u32 ((IntKind.wrap .u32 ((IntKind.wrap .u32 ((gd (d24).l (7 : Int)) + (xorI .u32 (xorI .u32 y34 y36) y38))) + (orI .u32 (andI .u32 (gd (d24).l (4 : Int)) (gd (d24).l (5 : Int))) (andI .u32 (xorI .u32 (if IntKind.signed .u32 then -1 else IntKind.max .u32) (gd (d24).l (4 : Int))) (gd (d24).l (6 : Int)))))) + (gd (x4).l d25))) + (gd (d10).l d25)))) (QV.add rfl rfl)) rfl rfl rfl ?_
        rintro _ _ ⟨rfl, rfl⟩
        refine ⟨fun _ => ⟨[0, 1, 2, 3, 4], rfl, rfl⟩, ?_⟩
        refine JT.only (i := 30) (d := some 15) rfl (MV.ofQV (v := .int .u32 (IntKind.wrap .u32 ((IntKind.wrap .u32 ((IntKind.wrap .u32 ((IntKind.wrap .u32 ((gd (d24).l (7 : Int)) + (xorI .u32 (xorI .u32 y34 y36) y38))) + (orI .u32 (andI .u32 (gd (d24).l (4 : Int)) (gd (d24).l (5 : Int))) (andI .u32 (xorI .u32 (if IntKind.signed .u32 then -1 else IntKind.max .u32) (gd (d24).l (4 : Int))) (gd (d24).l (6 : Int)))))) + (gd (x4).l d25))) + (gd (d10).l d25)))) (QV.assign rfl)) rfl rfl rfl ?_
        rintro _ _ ⟨rfl, rfl⟩
        refine ⟨fun _ => ⟨[0, 1, 2, 3, 4], rfl, rfl⟩, ?_⟩
        refine JT.nil ?_
        refine QJ.then_normal ?_
        refine JC.seq ?_
        refine JC.regionT [Asr.blk b6 98 [Seg.of (Enc.arr 8 (Enc.int .u32)) x1], Asr.blk b7 99 [Seg.of (Enc.arr 64 (Enc.int .u32)) x4], Asr.blk b8 98 [Seg.of (Enc.arr 8 (Enc.int .u32)) (Arr.rep 8 (0 : Int))], Asr.blk b9 99 [Seg.of (Enc.arr 64 (Enc.int .u32)) d10], Asr.blk b11 98 [Seg.of (Enc.arr 8 (Enc.int .u32)) d24]] (fun t => false) [(0, true), (2, true), (5, true), (8, true), (9, true), (10, true), (11, true), (12, true), (13, true), (14, true), (15, true), (16, true), (17, true), (18, true), (19, true), (20, true), (21, true), (22, true), (1, false), (3, false), (4, true), (6, false), (7, false), (23, false), (24, false)] (by kernel_rfl) (by kernel_rfl) (by kernel_rfl) rfl (fun hsel => ?_)
        refine JT.take (i := 0) (v := .int .u32 (gd (d24).l (0 : Int))) hsel rfl (QV.move rfl) rfl rfl rfl [0, 1, 2, 3, 4] rfl rfl ?_
        refine JT.take (i := 2) (v := .int .u32 (gd (d24).l (0 : Int))) hsel rfl (QV.move rfl) rfl rfl rfl [0, 1, 2, 3, 4] rfl rfl ?_
        refine JT.take (i := 5) (v := .int .u32 (gd (d24).l (0 : Int))) hsel rfl (QV.move rfl) rfl rfl rfl [0, 1, 2, 3, 4] rfl rfl ?_
        refine JT.take (i := 8) (v := .int .u32 (gd (d24).l (0 : Int))) hsel rfl (QV.move rfl) rfl rfl rfl [0, 1, 2, 3, 4] rfl rfl ?_
        refine JT.take (i := 9) (v := .pointer (some ⟨b11, 0 + Int.toNat (1 : Int) * 1, none⟩)) hsel rfl (QV.indexB Try.underlying98 tk_74 rfl rfl (by decide)) rfl rfl rfl [0, 1, 2, 3, 4] rfl rfl ?_
        refine JT.take (i := 10) (v := .int .u32 (gd (d24).l (1 : Int))) hsel rfl (QV.ar1 (ss := [Seg.of (Enc.arr 8 (Enc.int .u32)) d24]) 4 0 rfl tk_74 rfl rfl rfl rfl (by decide) rfl) rfl rfl rfl [0, 1, 2, 3, 4] rfl rfl ?_
        refine JT.take (i := 11) (v := .int .u32 (andI .u32 (gd (d24).l (0 : Int)) (gd (d24).l (1 : Int)))) hsel rfl (QV.and rfl rfl) rfl rfl rfl [0, 1, 2, 3, 4] rfl rfl ?_
        refine JT.take (i := 12) (v := .int .u32 (gd (d24).l (0 : Int))) hsel rfl (QV.move rfl) rfl rfl rfl [0, 1, 2, 3, 4] rfl rfl ?_
        refine JT.take (i := 13) (v := .pointer (some ⟨b11, 0 + Int.toNat (2 : Int) * 1, none⟩)) hsel rfl (QV.indexB Try.underlying98 tk_74 rfl rfl (by decide)) rfl rfl rfl [0, 1, 2, 3, 4] rfl rfl ?_
        refine JT.take (i := 14) (v := .int .u32 (gd (d24).l (2 : Int))) hsel rfl (QV.ar1 (ss := [Seg.of (Enc.arr 8 (Enc.int .u32)) d24]) 4 0 rfl tk_74 rfl rfl rfl rfl (by decide) rfl) rfl rfl rfl [0, 1, 2, 3, 4] rfl rfl ?_
        refine JT.take (i := 15) (v := .int .u32 (andI .u32 (gd (d24).l (0 : Int)) (gd (d24).l (2 : Int)))) hsel rfl (QV.and rfl rfl) rfl rfl rfl [0, 1, 2, 3, 4] rfl rfl ?_
        refine JT.take (i := 16) (v := .int .u32 (orI .u32 (andI .u32 (gd (d24).l (0 : Int)) (gd (d24).l (1 : Int))) (andI .u32 (gd (d24).l (0 : Int)) (gd (d24).l (2 : Int))))) hsel rfl (QV.or rfl rfl) rfl rfl rfl [0, 1, 2, 3, 4] rfl rfl ?_
        refine JT.take (i := 17) (v := .pointer (some ⟨b11, 0 + Int.toNat (1 : Int) * 1, none⟩)) hsel rfl (QV.indexB Try.underlying98 tk_74 rfl rfl (by decide)) rfl rfl rfl [0, 1, 2, 3, 4] rfl rfl ?_
        refine JT.take (i := 18) (v := .int .u32 (gd (d24).l (1 : Int))) hsel rfl (QV.ar1 (ss := [Seg.of (Enc.arr 8 (Enc.int .u32)) d24]) 4 0 rfl tk_74 rfl rfl rfl rfl (by decide) rfl) rfl rfl rfl [0, 1, 2, 3, 4] rfl rfl ?_
        refine JT.take (i := 19) (v := .pointer (some ⟨b11, 0 + Int.toNat (2 : Int) * 1, none⟩)) hsel rfl (QV.indexB Try.underlying98 tk_74 rfl rfl (by decide)) rfl rfl rfl [0, 1, 2, 3, 4] rfl rfl ?_
        refine JT.take (i := 20) (v := .int .u32 (gd (d24).l (2 : Int))) hsel rfl (QV.ar1 (ss := [Seg.of (Enc.arr 8 (Enc.int .u32)) d24]) 4 0 rfl tk_74 rfl rfl rfl rfl (by decide) rfl) rfl rfl rfl [0, 1, 2, 3, 4] rfl rfl ?_
        refine JT.take (i := 21) (v := .int .u32 (andI .u32 (gd (d24).l (1 : Int)) (gd (d24).l (2 : Int)))) hsel rfl (QV.and rfl rfl) rfl rfl rfl [0, 1, 2, 3, 4] rfl rfl ?_
        refine JT.take (i := 22) (v := .int .u32 (orI .u32 (orI .u32 (andI .u32 (gd (d24).l (0 : Int)) (gd (d24).l (1 : Int))) (andI .u32 (gd (d24).l (0 : Int)) (gd (d24).l (2 : Int)))) (andI .u32 (gd (d24).l (1 : Int)) (gd (d24).l (2 : Int))))) hsel rfl (QV.or rfl rfl) rfl rfl rfl [0, 1, 2, 3, 4] rfl rfl ?_
        obtain ⟨y40, hc41, hm⟩ := bind_inv hm
        refine JT.only (i := 1) (d := some 137) rfl (MV.call (Lo := []) (Lr := [Asr.blk b6 98 [Seg.of (Enc.arr 8 (Enc.int .u32)) x1], Asr.blk b7 99 [Seg.of (Enc.arr 64 (Enc.int .u32)) x4], Asr.blk b8 98 [Seg.of (Enc.arr 8 (Enc.int .u32)) (Arr.rep 8 (0 : Int))], Asr.blk b9 99 [Seg.of (Enc.arr 64 (Enc.int .u32)) d10], Asr.blk b11 98 [Seg.of (Enc.arr 8 (Enc.int .u32)) d24]]) (F92.spec ((gd (d24).l (0 : Int))) ((2 : Int)) _ hc41) rfl Try.func92 rfl rfl rfl [] [0, 1, 2, 3, 4] rfl rfl rfl trivial) rfl rfl rfl ?_
        rintro _ _ ⟨_, ⟨rfl, rfl⟩, rfl⟩
        refine ⟨fun _ => ⟨[0, 1, 2, 3, 4], rfl, rfl⟩, ?_⟩
        obtain ⟨y42, hc43, hm⟩ := bind_inv hm
        refine JT.only (i := 3) (d := some 139) rfl (MV.call (Lo := []) (Lr := [Asr.blk b6 98 [Seg.of (Enc.arr 8 (Enc.int .u32)) x1], Asr.blk b7 99 [Seg.of (Enc.arr 64 (Enc.int .u32)) x4], Asr.blk b8 98 [Seg.of (Enc.arr 8 (Enc.int .u32)) (Arr.rep 8 (0 : Int))], Asr.blk b9 99 [Seg.of (Enc.arr 64 (Enc.int .u32)) d10], Asr.blk b11 98 [Seg.of (Enc.arr 8 (Enc.int .u32)) d24]]) (F92.spec ((gd (d24).l (0 : Int))) ((13 : Int)) _ hc43) rfl Try.func92 rfl rfl rfl [] [0, 1, 2, 3, 4] rfl rfl rfl trivial) rfl rfl rfl ?_
        rintro _ _ ⟨_, ⟨rfl, rfl⟩, rfl⟩
        refine ⟨fun _ => ⟨[0, 1, 2, 3, 4], rfl, rfl⟩, ?_⟩
        refine JT.take (i := 4) (v := .int .u32 (xorI .u32 y40 y42)) hsel rfl (QV.xor rfl rfl) rfl rfl rfl [0, 1, 2, 3, 4] rfl rfl ?_
        obtain ⟨y44, hc45, hm⟩ := bind_inv hm
        refine JT.only (i := 6) (d := some 142) rfl (MV.call (Lo := []) (Lr := [Asr.blk b6 98 [Seg.of (Enc.arr 8 (Enc.int .u32)) x1], Asr.blk b7 99 [Seg.of (Enc.arr 64 (Enc.int .u32)) x4], Asr.blk b8 98 [Seg.of (Enc.arr 8 (Enc.int .u32)) (Arr.rep 8 (0 : Int))], Asr.blk b9 99 [Seg.of (Enc.arr 64 (Enc.int .u32)) d10], Asr.blk b11 98 [Seg.of (Enc.arr 8 (Enc.int .u32)) d24]]) (F92.spec ((gd (d24).l (0 : Int))) ((22 : Int)) _ hc45) rfl Try.func92 rfl rfl rfl [] [0, 1, 2, 3, 4] rfl rfl rfl trivial) rfl rfl rfl ?_
        rintro _ _ ⟨_, ⟨rfl, rfl⟩, rfl⟩
        refine ⟨fun _ => ⟨[0, 1, 2, 3, 4], rfl, rfl⟩, ?_⟩
        refine JT.only (i := 7) (d := some 143) rfl (MV.ofQV (v := .int .u32 (xorI .u32 (xorI .u32 y40 y42) y44)) (QV.xor rfl rfl)) rfl rfl rfl ?_
        rintro _ _ ⟨rfl, rfl⟩
        refine ⟨fun _ => ⟨[0, 1, 2, 3, 4], rfl, rfl⟩, ?_⟩
        refine JT.only (i := 23) (d := some 159) rfl (MV.ofQV (v := .int .u32 (IntKind.wrap .u32 ((xorI .u32 (xorI .u32 y40 y42) y44) + (orI .u32 (orI .u32 (andI .u32 (gd (d24).l (0 : Int)) (gd (d24).l (1 : Int))) (andI .u32 (gd (d24).l (0 : Int)) (gd (d24).l (2 : Int)))) (andI .u32 (gd (d24).l (1 : Int)) (gd (d24).l (2 : Int))))))) (QV.add rfl rfl)) rfl rfl rfl ?_
        rintro _ _ ⟨rfl, rfl⟩
        refine ⟨fun _ => ⟨[0, 1, 2, 3, 4], rfl, rfl⟩, ?_⟩
        refine JT.only (i := 24) (d := some 16) rfl (MV.ofQV (v := .int .u32 (IntKind.wrap .u32 ((xorI .u32 (xorI .u32 y40 y42) y44) + (orI .u32 (orI .u32 (andI .u32 (gd (d24).l (0 : Int)) (gd (d24).l (1 : Int))) (andI .u32 (gd (d24).l (0 : Int)) (gd (d24).l (2 : Int)))) (andI .u32 (gd (d24).l (1 : Int)) (gd (d24).l (2 : Int))))))) (QV.assign rfl)) rfl rfl rfl ?_
        rintro _ _ ⟨rfl, rfl⟩
        refine ⟨fun _ => ⟨[0, 1, 2, 3, 4], rfl, rfl⟩, ?_⟩
        refine JT.nil ?_
        refine QJ.then_normal ?_
        refine JC.region ?_
        refine JL.val (v := .int .u32 (IntKind.wrap .u32 ((IntKind.wrap .u32 ((IntKind.wrap .u32 ((IntKind.wrap .u32 ((gd (d24).l (7 : Int)) + (xorI .u32 (xorI .u32 y34 y36) y38))) + (orI .u32 (andI .u32 (gd (d24).l (4 : Int)) (gd (d24).l (5 : Int))) (andI .u32 (xorI .u32 (if IntKind.signed .u32 then -1 else IntKind.max .u32) (gd (d24).l (4 : Int))) (gd (d24).l (6 : Int)))))) + (gd (x4).l d25))) + (gd (d10).l d25)))) (QV.move rfl) rfl rfl rfl ?_
        refine JL.val (v := .int .u32 (IntKind.wrap .u32 ((xorI .u32 (xorI .u32 y40 y42) y44) + (orI .u32 (orI .u32 (andI .u32 (gd (d24).l (0 : Int)) (gd (d24).l (1 : Int))) (andI .u32 (gd (d24).l (0 : Int)) (gd (d24).l (2 : Int)))) (andI .u32 (gd (d24).l (1 : Int)) (gd (d24).l (2 : Int))))))) (QV.move rfl) rfl rfl rfl ?_
        refine JL.val (v := .int .u32 (IntKind.wrap .u32 ((IntKind.wrap .u32 ((IntKind.wrap .u32 ((IntKind.wrap .u32 ((IntKind.wrap .u32 ((gd (d24).l (7 : Int)) + (xorI .u32 (xorI .u32 y34 y36) y38))) + (orI .u32 (andI .u32 (gd (d24).l (4 : Int)) (gd (d24).l (5 : Int))) (andI .u32 (xorI .u32 (if IntKind.signed .u32 then -1 else IntKind.max .u32) (gd (d24).l (4 : Int))) (gd (d24).l (6 : Int)))))) + (gd (x4).l d25))) + (gd (d10).l d25))) + (IntKind.wrap .u32 ((xorI .u32 (xorI .u32 y40 y42) y44) + (orI .u32 (orI .u32 (andI .u32 (gd (d24).l (0 : Int)) (gd (d24).l (1 : Int))) (andI .u32 (gd (d24).l (0 : Int)) (gd (d24).l (2 : Int)))) (andI .u32 (gd (d24).l (1 : Int)) (gd (d24).l (2 : Int))))))))) (QV.add rfl rfl) rfl rfl rfl ?_
        refine JL.val (v := .pointer (some ⟨b11, 0 + Int.toNat (0 : Int) * 1, none⟩)) (QV.indexB Try.underlying98 tk_74 rfl rfl (by decide)) rfl rfl rfl ?_
        refine JL.val (v := .int .u32 (gd (d24).l (0 : Int))) (QV.ar1 (ss := [Seg.of (Enc.arr 8 (Enc.int .u32)) d24]) 4 0 rfl tk_74 rfl rfl rfl rfl (by decide) rfl) rfl rfl rfl ?_
        refine JL.val (v := .pointer (some ⟨b11, 0 + Int.toNat (1 : Int) * 1, none⟩)) (QV.indexB Try.underlying98 tk_74 rfl rfl (by decide)) rfl rfl rfl ?_
        refine JL.val (v := .int .u32 (gd (d24).l (1 : Int))) (QV.ar1 (ss := [Seg.of (Enc.arr 8 (Enc.int .u32)) d24]) 4 0 rfl tk_74 rfl rfl rfl rfl (by decide) rfl) rfl rfl rfl ?_
        refine JL.val (v := .pointer (some ⟨b11, 0 + Int.toNat (2 : Int) * 1, none⟩)) (QV.indexB Try.underlying98 tk_74 rfl rfl (by decide)) rfl rfl rfl ?_
        refine JL.val (v := .int .u32 (gd (d24).l (2 : Int))) (QV.ar1 (ss := [Seg.of (Enc.arr 8 (Enc.int .u32)) d24]) 4 0 rfl tk_74 rfl rfl rfl rfl (by decide) rfl) rfl rfl rfl ?_
        refine JL.val (v := .pointer (some ⟨b11, 0 + Int.toNat (3 : Int) * 1, none⟩)) (QV.indexB Try.underlying98 tk_74 rfl rfl (by decide)) rfl rfl rfl ?_
        refine JL.val (v := .int .u32 (gd (d24).l (3 : Int))) (QV.ar1 (ss := [Seg.of (Enc.arr 8 (Enc.int .u32)) d24]) 4 0 rfl tk_74 rfl rfl rfl rfl (by decide) rfl) rfl rfl rfl ?_
        refine JL.val (v := .int .u32 (IntKind.wrap .u32 ((IntKind.wrap .u32 ((IntKind.wrap .u32 ((IntKind.wrap .u32 ((gd (d24).l (7 : Int)) + (xorI .u32 (xorI .u32 y34 y36) y38))) + (orI .u32 (andI .u32 (gd (d24).l (4 : Int)) (gd (d24).l (5 : Int))) (andI .u32 (xorI .u32 (if IntKind.signed .u32 then -1 else IntKind.max .u32) (gd (d24).l (4 : Int))) (gd (d24).l (6 : Int)))))) + (gd (x4).l d25))) + (gd (d10).l d25)))) (QV.move rfl) rfl rfl rfl ?_
        refine JL.val (v := .int .u32 (IntKind.wrap .u32 ((gd (d24).l (3 : Int)) + (IntKind.wrap .u32 ((IntKind.wrap .u32 ((IntKind.wrap .u32 ((IntKind.wrap .u32 ((gd (d24).l (7 : Int)) + (xorI .u32 (xorI .u32 y34 y36) y38))) + (orI .u32 (andI .u32 (gd (d24).l (4 : Int)) (gd (d24).l (5 : Int))) (andI .u32 (xorI .u32 (if IntKind.signed .u32 then -1 else IntKind.max .u32) (gd (d24).l (4 : Int))) (gd (d24).l (6 : Int)))))) + (gd (x4).l d25))) + (gd (d10).l d25)))))) (QV.add rfl rfl) rfl rfl rfl ?_
        refine JL.val (v := .pointer (some ⟨b11, 0 + Int.toNat (4 : Int) * 1, none⟩)) (QV.indexB Try.underlying98 tk_74 rfl rfl (by decide)) rfl rfl rfl ?_
        refine JL.val (v := .int .u32 (gd (d24).l (4 : Int))) (QV.ar1 (ss := [Seg.of (Enc.arr 8 (Enc.int .u32)) d24]) 4 0 rfl tk_74 rfl rfl rfl rfl (by decide) rfl) rfl rfl rfl ?_
        refine JL.val (v := .pointer (some ⟨b11, 0 + Int.toNat (5 : Int) * 1, none⟩)) (QV.indexB Try.underlying98 tk_74 rfl rfl (by decide)) rfl rfl rfl ?_
        refine JL.val (v := .int .u32 (gd (d24).l (5 : Int))) (QV.ar1 (ss := [Seg.of (Enc.arr 8 (Enc.int .u32)) d24]) 4 0 rfl tk_74 rfl rfl rfl rfl (by decide) rfl) rfl rfl rfl ?_
        refine JL.val (v := .pointer (some ⟨b11, 0 + Int.toNat (6 : Int) * 1, none⟩)) (QV.indexB Try.underlying98 tk_74 rfl rfl (by decide)) rfl rfl rfl ?_
        refine JL.val (v := .int .u32 (gd (d24).l (6 : Int))) (QV.ar1 (ss := [Seg.of (Enc.arr 8 (Enc.int .u32)) d24]) 4 0 rfl tk_74 rfl rfl rfl rfl (by decide) rfl) rfl rfl rfl ?_
        refine JL.val (v := .agg (((Enc.arr 8 (Enc.int .u32))).enc (⟨[(IntKind.wrap .u32 ((IntKind.wrap .u32 ((IntKind.wrap .u32 ((IntKind.wrap .u32 ((IntKind.wrap .u32 ((gd (d24).l (7 : Int)) + (xorI .u32 (xorI .u32 y34 y36) y38))) + (orI .u32 (andI .u32 (gd (d24).l (4 : Int)) (gd (d24).l (5 : Int))) (andI .u32 (xorI .u32 (if IntKind.signed .u32 then -1 else IntKind.max .u32) (gd (d24).l (4 : Int))) (gd (d24).l (6 : Int)))))) + (gd (x4).l d25))) + (gd (d10).l d25))) + (IntKind.wrap .u32 ((xorI .u32 (xorI .u32 y40 y42) y44) + (orI .u32 (orI .u32 (andI .u32 (gd (d24).l (0 : Int)) (gd (d24).l (1 : Int))) (andI .u32 (gd (d24).l (0 : Int)) (gd (d24).l (2 : Int)))) (andI .u32 (gd (d24).l (1 : Int)) (gd (d24).l (2 : Int)))))))), (gd (d24).l (0 : Int)), (gd (d24).l (1 : Int)), (gd (d24).l (2 : Int)), (IntKind.wrap .u32 ((gd (d24).l (3 : Int)) + (IntKind.wrap .u32 ((IntKind.wrap .u32 ((IntKind.wrap .u32 ((IntKind.wrap .u32 ((gd (d24).l (7 : Int)) + (xorI .u32 (xorI .u32 y34 y36) y38))) + (orI .u32 (andI .u32 (gd (d24).l (4 : Int)) (gd (d24).l (5 : Int))) (andI .u32 (xorI .u32 (if IntKind.signed .u32 then -1 else IntKind.max .u32) (gd (d24).l (4 : Int))) (gd (d24).l (6 : Int)))))) + (gd (x4).l d25))) + (gd (d10).l d25))))), (gd (d24).l (4 : Int)), (gd (d24).l (5 : Int)), (gd (d24).l (6 : Int))], rfl⟩ : (Arr Int 8))).toArray) (QV.build (vals := [(0, .int .u32 (IntKind.wrap .u32 ((IntKind.wrap .u32 ((IntKind.wrap .u32 ((IntKind.wrap .u32 ((IntKind.wrap .u32 ((gd (d24).l (7 : Int)) + (xorI .u32 (xorI .u32 y34 y36) y38))) + (orI .u32 (andI .u32 (gd (d24).l (4 : Int)) (gd (d24).l (5 : Int))) (andI .u32 (xorI .u32 (if IntKind.signed .u32 then -1 else IntKind.max .u32) (gd (d24).l (4 : Int))) (gd (d24).l (6 : Int)))))) + (gd (x4).l d25))) + (gd (d10).l d25))) + (IntKind.wrap .u32 ((xorI .u32 (xorI .u32 y40 y42) y44) + (orI .u32 (orI .u32 (andI .u32 (gd (d24).l (0 : Int)) (gd (d24).l (1 : Int))) (andI .u32 (gd (d24).l (0 : Int)) (gd (d24).l (2 : Int)))) (andI .u32 (gd (d24).l (1 : Int)) (gd (d24).l (2 : Int))))))))), (1, .int .u32 (gd (d24).l (0 : Int))), (2, .int .u32 (gd (d24).l (1 : Int))), (3, .int .u32 (gd (d24).l (2 : Int))), (4, .int .u32 (IntKind.wrap .u32 ((gd (d24).l (3 : Int)) + (IntKind.wrap .u32 ((IntKind.wrap .u32 ((IntKind.wrap .u32 ((IntKind.wrap .u32 ((gd (d24).l (7 : Int)) + (xorI .u32 (xorI .u32 y34 y36) y38))) + (orI .u32 (andI .u32 (gd (d24).l (4 : Int)) (gd (d24).l (5 : Int))) (andI .u32 (xorI .u32 (if IntKind.signed .u32 then -1 else IntKind.max .u32) (gd (d24).l (4 : Int))) (gd (d24).l (6 : Int)))))) + (gd (x4).l d25))) + (gd (d10).l d25)))))), (5, .int .u32 (gd (d24).l (4 : Int))), (6, .int .u32 (gd (d24).l (5 : Int))), (7, .int .u32 (gd (d24).l (6 : Int)))]) (cells := ((Enc.arr 8 (Enc.int .u32)).enc (⟨[(IntKind.wrap .u32 ((IntKind.wrap .u32 ((IntKind.wrap .u32 ((IntKind.wrap .u32 ((IntKind.wrap .u32 ((gd (d24).l (7 : Int)) + (xorI .u32 (xorI .u32 y34 y36) y38))) + (orI .u32 (andI .u32 (gd (d24).l (4 : Int)) (gd (d24).l (5 : Int))) (andI .u32 (xorI .u32 (if IntKind.signed .u32 then -1 else IntKind.max .u32) (gd (d24).l (4 : Int))) (gd (d24).l (6 : Int)))))) + (gd (x4).l d25))) + (gd (d10).l d25))) + (IntKind.wrap .u32 ((xorI .u32 (xorI .u32 y40 y42) y44) + (orI .u32 (orI .u32 (andI .u32 (gd (d24).l (0 : Int)) (gd (d24).l (1 : Int))) (andI .u32 (gd (d24).l (0 : Int)) (gd (d24).l (2 : Int)))) (andI .u32 (gd (d24).l (1 : Int)) (gd (d24).l (2 : Int)))))))), (gd (d24).l (0 : Int)), (gd (d24).l (1 : Int)), (gd (d24).l (2 : Int)), (IntKind.wrap .u32 ((gd (d24).l (3 : Int)) + (IntKind.wrap .u32 ((IntKind.wrap .u32 ((IntKind.wrap .u32 ((IntKind.wrap .u32 ((gd (d24).l (7 : Int)) + (xorI .u32 (xorI .u32 y34 y36) y38))) + (orI .u32 (andI .u32 (gd (d24).l (4 : Int)) (gd (d24).l (5 : Int))) (andI .u32 (xorI .u32 (if IntKind.signed .u32 then -1 else IntKind.max .u32) (gd (d24).l (4 : Int))) (gd (d24).l (6 : Int)))))) + (gd (x4).l d25))) + (gd (d10).l d25))))), (gd (d24).l (4 : Int)), (gd (d24).l (5 : Int)), (gd (d24).l (6 : Int))], rfl⟩ : (Arr Int 8))).toArray) rfl (by kernel_rfl)) rfl rfl rfl ?_
        refine JL.mv (d := none) (MV.store (ss := [Seg.of (Enc.arr 8 (Enc.int .u32)) d24]) 4 0 1 [Seg.of (Enc.arr 8 (Enc.int .u32)) (⟨[(IntKind.wrap .u32 ((IntKind.wrap .u32 ((IntKind.wrap .u32 ((IntKind.wrap .u32 ((IntKind.wrap .u32 ((gd (d24).l (7 : Int)) + (xorI .u32 (xorI .u32 y34 y36) y38))) + (orI .u32 (andI .u32 (gd (d24).l (4 : Int)) (gd (d24).l (5 : Int))) (andI .u32 (xorI .u32 (if IntKind.signed .u32 then -1 else IntKind.max .u32) (gd (d24).l (4 : Int))) (gd (d24).l (6 : Int)))))) + (gd (x4).l d25))) + (gd (d10).l d25))) + (IntKind.wrap .u32 ((xorI .u32 (xorI .u32 y40 y42) y44) + (orI .u32 (orI .u32 (andI .u32 (gd (d24).l (0 : Int)) (gd (d24).l (1 : Int))) (andI .u32 (gd (d24).l (0 : Int)) (gd (d24).l (2 : Int)))) (andI .u32 (gd (d24).l (1 : Int)) (gd (d24).l (2 : Int)))))))), (gd (d24).l (0 : Int)), (gd (d24).l (1 : Int)), (gd (d24).l (2 : Int)), (IntKind.wrap .u32 ((gd (d24).l (3 : Int)) + (IntKind.wrap .u32 ((IntKind.wrap .u32 ((IntKind.wrap .u32 ((IntKind.wrap .u32 ((gd (d24).l (7 : Int)) + (xorI .u32 (xorI .u32 y34 y36) y38))) + (orI .u32 (andI .u32 (gd (d24).l (4 : Int)) (gd (d24).l (5 : Int))) (andI .u32 (xorI .u32 (if IntKind.signed .u32 then -1 else IntKind.max .u32) (gd (d24).l (4 : Int))) (gd (d24).l (6 : Int)))))) + (gd (x4).l d25))) + (gd (d10).l d25))))), (gd (d24).l (4 : Int)), (gd (d24).l (5 : Int)), (gd (d24).l (6 : Int))], rfl⟩ : (Arr Int 8))] rfl tk_98 rfl rfl rfl rfl (fun w hs => ⟨rfl, one_of _ _, trivial⟩)) rfl rfl rfl ?_
        rintro _ _ ⟨rfl, rfl⟩
        refine JL.nil ?_
        refine QJ.block_normal ?_
        refine QJ.then_normal ?_
        refine JC.region ?_
        refine JL.val (v := .int .i64 d25) (QV.move rfl) rfl rfl rfl ?_
        refine JL.val (v := .int .i64 (IntKind.wrap .i64 (d25 + (1 : Int)))) (QV.add rfl rfl) rfl rfl rfl ?_
        refine JL.val (v := .int .i64 (IntKind.wrap .i64 (d25 + (1 : Int)))) (QV.assign rfl) rfl rfl rfl ?_
        refine JL.nil ?_
        obtain rfl := Option.some.inj hm
        exact QJ.round_on ((⟨[(IntKind.wrap .u32 ((IntKind.wrap .u32 ((IntKind.wrap .u32 ((IntKind.wrap .u32 ((IntKind.wrap .u32 ((gd (d24).l (7 : Int)) + (xorI .u32 (xorI .u32 y34 y36) y38))) + (orI .u32 (andI .u32 (gd (d24).l (4 : Int)) (gd (d24).l (5 : Int))) (andI .u32 (xorI .u32 (if IntKind.signed .u32 then -1 else IntKind.max .u32) (gd (d24).l (4 : Int))) (gd (d24).l (6 : Int)))))) + (gd (x4).l d25))) + (gd (d10).l d25))) + (IntKind.wrap .u32 ((xorI .u32 (xorI .u32 y40 y42) y44) + (orI .u32 (orI .u32 (andI .u32 (gd (d24).l (0 : Int)) (gd (d24).l (1 : Int))) (andI .u32 (gd (d24).l (0 : Int)) (gd (d24).l (2 : Int)))) (andI .u32 (gd (d24).l (1 : Int)) (gd (d24).l (2 : Int)))))))), (gd (d24).l (0 : Int)), (gd (d24).l (1 : Int)), (gd (d24).l (2 : Int)), (IntKind.wrap .u32 ((gd (d24).l (3 : Int)) + (IntKind.wrap .u32 ((IntKind.wrap .u32 ((IntKind.wrap .u32 ((IntKind.wrap .u32 ((gd (d24).l (7 : Int)) + (xorI .u32 (xorI .u32 y34 y36) y38))) + (orI .u32 (andI .u32 (gd (d24).l (4 : Int)) (gd (d24).l (5 : Int))) (andI .u32 (xorI .u32 (if IntKind.signed .u32 then -1 else IntKind.max .u32) (gd (d24).l (4 : Int))) (gd (d24).l (6 : Int)))))) + (gd (x4).l d25))) + (gd (d10).l d25))))), (gd (d24).l (4 : Int)), (gd (d24).l (5 : Int)), (gd (d24).l (6 : Int))], rfl⟩ : (Arr Int 8)), (IntKind.wrap .i64 (d25 + (1 : Int)))) () [0, 1, 2, 3, 4] (by exact ⟨rfl, rfl, rfl, rfl, rfl, rfl, trivial⟩) rfl rfl
      ·
        refine JC.condF' rfl (decide_eq_false h32) ?_
        refine JC.exit ?_
        refine QJ.then_exit ?_
        obtain rfl := Option.some.inj hm
        refine QJ.round_exit (fun hy => ?_)
        subst hy
        refine QJ.block_hit ?_
        exact QJ.cut_normal (d24, ()) hmo30 [0, 2, 4] (by exact ⟨rfl, rfl, rfl, trivial⟩) rfl rfl
  ·
    refine JC.block ?_
    obtain ⟨y50, hl51, hmo52⟩ := bind_inv hm
    refine JC.loop (F74.b3 x3) (fun x z => match x, z with | (d46, d47), _ => [(1, s2.v), (3, .pointer (some ⟨b6, 0, none⟩)), (5, .pointer (some ⟨b7, 0, none⟩)), (6, .pointer (some ⟨b8, 0, none⟩)), (7, .pointer (some ⟨b9, 0, none⟩)), (8, .int .i64 d47)]) (fun x z => match x, z with | (d46, d47), _ => [Asr.vw (Enc.int .u8) (s2.v) x3, Asr.blk b6 98 [Seg.of (Enc.arr 8 (Enc.int .u32)) x1], Asr.blk b7 99 [Seg.of (Enc.arr 64 (Enc.int .u32)) x4], Asr.blk b8 98 [Seg.of (Enc.arr 8 (Enc.int .u32)) (Arr.rep 8 (0 : Int))], Asr.blk b9 99 [Seg.of (Enc.arr 64 (Enc.int .u32)) d46]]) (K2, (0 : Int)) () y50 hl51 [4, 3, 2, 1, 0] (by exact ⟨rfl, rfl, rfl, rfl, rfl, rfl, trivial⟩) rfl rfl ?_
    rintro ⟨d46, d47⟩ ⟨⟩ s53 hm
    unfold F74.b3 at hm
    dsimp only at hm
    show JC _ _ _ [(1, s2.v), (3, .pointer (some ⟨b6, 0, none⟩)), (5, .pointer (some ⟨b7, 0, none⟩)), (6, .pointer (some ⟨b8, 0, none⟩)), (7, .pointer (some ⟨b9, 0, none⟩)), (8, .int .i64 d47)] [Asr.vw (Enc.int .u8) (s2.v) x3, Asr.blk b6 98 [Seg.of (Enc.arr 8 (Enc.int .u32)) x1], Asr.blk b7 99 [Seg.of (Enc.arr 64 (Enc.int .u32)) x4], Asr.blk b8 98 [Seg.of (Enc.arr 8 (Enc.int .u32)) (Arr.rep 8 (0 : Int))], Asr.blk b9 99 [Seg.of (Enc.arr 64 (Enc.int .u32)) d46]] _ _
    refine JC.seq ?_
    refine JC.seq ?_
    refine JC.region ?_
    refine JL.val (v := .int .i64 d47) (QV.move rfl) rfl rfl rfl ?_
    refine JL.val (v := .bool (decide (d47 < (64 : Int)))) (QV.lss rfl rfl) rfl rfl rfl ?_
    refine JL.nil ?_
    refine QJ.then_normal ?_
    rcases ite_inv hm with ⟨h54, hm⟩ | ⟨h54, hm⟩
    ·
      refine JC.condT' rfl (decide_eq_true h54) ?_
      refine JC.skip ?_
      refine QJ.then_normal ?_
      refine JC.seq ?_
      refine JC.cutK (Y := (Arr Int 64) × Unit) (fun y => match y with | (d55, _) => F74.j4 d47 (d55) = some s53) (fun y => match y with | (d55, _) => [(1, s2.v), (3, .pointer (some ⟨b6, 0, none⟩)), (5, .pointer (some ⟨b7, 0, none⟩)), (6, .pointer (some ⟨b8, 0, none⟩)), (7, .pointer (some ⟨b9, 0, none⟩)), (8, .int .i64 d47)]) (fun y => match y with | (d55, _) => [Asr.vw (Enc.int .u8) (s2.v) x3, Asr.blk b6 98 [Seg.of (Enc.arr 8 (Enc.int .u32)) x1], Asr.blk b7 99 [Seg.of (Enc.arr 64 (Enc.int .u32)) x4], Asr.blk b8 98 [Seg.of (Enc.arr 8 (Enc.int .u32)) (Arr.rep 8 (0 : Int))], Asr.blk b9 99 [Seg.of (Enc.arr 64 (Enc.int .u32)) d55]]) ?_ ?_
      ·
        rintro ⟨d55, ⟨⟩⟩ hm
        unfold F74.j4 at hm
        show QJ _ _ [(1, s2.v), (3, .pointer (some ⟨b6, 0, none⟩)), (5, .pointer (some ⟨b7, 0, none⟩)), (6, .pointer (some ⟨b8, 0, none⟩)), (7, .pointer (some ⟨b9, 0, none⟩)), (8, .int .i64 d47)] [Asr.vw (Enc.int .u8) (s2.v) x3, Asr.blk b6 98 [Seg.of (Enc.arr 8 (Enc.int .u32)) x1], Asr.blk b7 99 [Seg.of (Enc.arr 64 (Enc.int .u32)) x4], Asr.blk b8 98 [Seg.of (Enc.arr 8 (Enc.int .u32)) (Arr.rep 8 (0 : Int))], Asr.blk b9 99 [Seg.of (Enc.arr 64 (Enc.int .u32)) d55]] _ _
        refine QJ.then_normal ?_
        refine JC.region ?_
        refine JL.val (v := .int .i64 d47) (QV.move rfl) rfl rfl rfl ?_
        refine JL.val (v := .int .i64 (IntKind.wrap .i64 (d47 + (1 : Int)))) (QV.add rfl rfl) rfl rfl rfl ?_
        refine JL.val (v := .int .i64 (IntKind.wrap .i64 (d47 + (1 : Int)))) (QV.assign rfl) rfl rfl rfl ?_
        refine JL.nil ?_
        obtain rfl := Option.some.inj hm
        exact QJ.round_on (d55, (IntKind.wrap .i64 (d47 + (1 : Int)))) () [0, 1, 2, 3, 4] (by exact ⟨rfl, rfl, rfl, rfl, rfl, rfl, trivial⟩) rfl rfl
      ·
        refine JC.block ?_
        refine JC.seq ?_
        refine JC.seq ?_
        refine JC.region ?_
        refine JL.val (v := .int .i64 d47) (QV.move rfl) rfl rfl rfl ?_
        refine JL.val (v := .bool (decide (d47 < (16 : Int)))) (QV.lss rfl rfl) rfl rfl rfl ?_
        refine JL.nil ?_
        refine QJ.then_normal ?_
        rcases ite_inv hm with ⟨h56, hm⟩ | ⟨h56, hm⟩
        ·
          refine JC.condT' rfl (decide_eq_true h56) ?_
          refine JC.seq ?_
          refine JC.regionT [Asr.vw (Enc.int .u8) (s2.v) x3, Asr.blk b6 98 [Seg.of (Enc.arr 8 (Enc.int .u32)) x1], Asr.blk b7 99 [Seg.of (Enc.arr 64 (Enc.int .u32)) x4], Asr.blk b8 98 [Seg.of (Enc.arr 8 (Enc.int .u32)) (Arr.rep 8 (0 : Int))]] (fun t => false) [(0, true), (1, true), (2, true), (3, true), (4, true), (5, true), (6, true), (7, true), (8, true), (9, true), (10, true), (11, true), (12, true), (13, true), (14, true), (15, true), (16, true), (17, true), (18, true), (19, true), (20, true), (21, true), (22, true), (23, true), (24, true), (25, true), (26, true), (27, false), (28, false), (29, false), (30, false), (31, false), (32, false), (33, false), (34, false), (35, false)] (by kernel_rfl) (by kernel_rfl) (by kernel_rfl) rfl (fun hsel => ?_)
          refine JT.take (i := 0) (v := .int .i64 d47) hsel rfl (QV.move rfl) rfl rfl rfl [0, 1, 2, 3] rfl rfl ?_
          refine JT.take (i := 1) (v := s2.v) hsel rfl (QV.move rfl) rfl rfl rfl [0, 1, 2, 3] rfl rfl ?_
          refine JT.take (i := 2) (v := .int .i64 d47) hsel rfl (QV.move rfl) rfl rfl rfl [0, 1, 2, 3] rfl rfl ?_
          refine JT.take (i := 3) (v := .int .i64 (IntKind.wrap .i64 ((4 : Int) * d47))) hsel rfl (QV.mul rfl rfl) rfl rfl rfl [0, 1, 2, 3] rfl rfl ?_
          obtain ⟨h57, hm⟩ := guard_inv hm
          refine JT.take (i := 4) (v := .pointer (some (elA (s2.v) (Int.toNat (IntKind.wrap .i64 ((4 : Int) * d47)) * ((Enc.int .u8)).sz)))) hsel rfl (QV.indexA (Rdg.vw 0 rfl) Try.underlying22 tk_5 rfl rfl h57) rfl rfl rfl [0, 1, 2, 3] rfl rfl ?_
          refine JT.take (i := 5) (v := .int .u8 (gd x3 (IntKind.wrap .i64 ((4 : Int) * d47)))) hsel rfl (QV.el1 (Rdg.vw 0 rfl) tk_5 rfl h57 rfl) rfl rfl rfl [0, 1, 2, 3] rfl rfl ?_
          refine JT.take (i := 6) (v := .int .u32 (IntKind.wrap .u32 (gd x3 (IntKind.wrap .i64 ((4 : Int) * d47))))) hsel rfl (QV.conv rfl (by rw [Try.underlying5]; rfl) Try.underlying74) rfl rfl rfl [0, 1, 2, 3] rfl rfl ?_
          refine JT.take (i := 7) (v := .int .u32 (shlI .u32 (IntKind.wrap .u32 (gd x3 (IntKind.wrap .i64 ((4 : Int) * d47)))) (24 : Int))) hsel rfl (QV.shl rfl rfl (by decide)) rfl rfl rfl [0, 1, 2, 3] rfl rfl ?_
          refine JT.take (i := 8) (v := s2.v) hsel rfl (QV.move rfl) rfl rfl rfl [0, 1, 2, 3] rfl rfl ?_
          refine JT.take (i := 9) (v := .int .i64 d47) hsel rfl (QV.move rfl) rfl rfl rfl [0, 1, 2, 3] rfl rfl ?_
          refine JT.take (i := 10) (v := .int .i64 (IntKind.wrap .i64 ((4 : Int) * d47))) hsel rfl (QV.mul rfl rfl) rfl rfl rfl [0, 1, 2, 3] rfl rfl ?_
          refine JT.take (i := 11) (v := .int .i64 (IntKind.wrap .i64 ((IntKind.wrap .i64 ((4 : Int) * d47)) + (1 : Int)))) hsel rfl (QV.add rfl rfl) rfl rfl rfl [0, 1, 2, 3] rfl rfl ?_
          obtain ⟨h58, hm⟩ := guard_inv hm
          refine JT.take (i := 12) (v := .pointer (some (elA (s2.v) (Int.toNat (IntKind.wrap .i64 ((IntKind.wrap .i64 ((4 : Int) * d47)) + (1 : Int))) * ((Enc.int .u8)).sz)))) hsel rfl (QV.indexA (Rdg.vw 0 rfl) Try.underlying22 tk_5 rfl rfl h58) rfl rfl rfl [0, 1, 2, 3] rfl rfl ?_
          refine JT.take (i := 13) (v := .int .u8 (gd x3 (IntKind.wrap .i64 ((IntKind.wrap .i64 ((4 : Int) * d47)) + (1 : Int))))) hsel rfl (QV.el1 (Rdg.vw 0 rfl) tk_5 rfl h58 rfl) rfl rfl rfl [0, 1, 2, 3] rfl rfl ?_
          refine JT.take (i := 14) (v := .int .u32 (IntKind.wrap .u32 (gd x3 (IntKind.wrap .i64 ((IntKind.wrap .i64 ((4 : Int) * d47)) + (1 : Int)))))) hsel rfl (QV.conv rfl (by rw [Try.underlying5]; rfl) Try.underlying74) rfl rfl rfl [0, 1, 2, 3] rfl rfl ?_
          refine JT.take (i := 15) (v := .int .u32 (shlI .u32 (IntKind.wrap .u32 (gd x3 (IntKind.wrap .i64 ((IntKind.wrap .i64 ((4 : Int) * d47)) + (1 : Int))))) (16 : Int))) hsel rfl (QV.shl rfl rfl (by decide)) rfl rfl rfl [0, 1, 2, 3] rfl rfl ?_
          refine JT.take (i := 16) (v := .int .u32 (orI .u32 (shlI .u32 (IntKind.wrap .u32 (gd x3 (IntKind.wrap .i64 ((4 : Int) * d47)))) (24 : Int)) (shlI .u32 (IntKind.wrap .u32 (gd x3 (IntKind.wrap .i64 ((IntKind.wrap .i64 ((4 : Int) * d47)) + (1 : Int))))) (16 : Int)))) hsel rfl (QV.or rfl rfl) rfl rfl rfl [0, 1, 2, 3] rfl rfl ?_
          refine JT.take (i := 17) (v := s2.v) hsel rfl (QV.move rfl) rfl rfl rfl [0, 1, 2, 3] rfl rfl ?_
          refine JT.take (i := 18) (v := .int .i64 d47) hsel rfl (QV.move rfl) rfl rfl rfl [0, 1, 2, 3] rfl rfl ?_
          refine JT.take (i := 19) (v := .int .i64 (IntKind.wrap .i64 ((4 : Int) * d47))) hsel rfl (QV.mul rfl rfl) rfl rfl rfl [0, 1, 2, 3] rfl rfl ?_
          refine JT.take (i := 20) (v := .int .i64 (IntKind.wrap .i64 ((IntKind.wrap .i64 ((4 : Int) * d47)) + (2 : Int)))) hsel rfl (QV.add rfl rfl) rfl rfl rfl [0, 1, 2, 3] rfl rfl ?_
          obtain ⟨h59, hm⟩ := guard_inv hm
          refine JT.take (i := 21) (v := .pointer (some (elA (s2.v) (Int.toNat (IntKind.wrap .i64 ((IntKind.wrap .i64 ((4 : Int) * d47)) + (2 : Int))) * ((Enc.int .u8)).sz)))) hsel rfl (QV.indexA (Rdg.vw 0 rfl) Try.underlying22 tk_5 rfl rfl h59) rfl rfl rfl [0, 1, 2, 3] rfl rfl ?_
          refine JT.take (i := 22) (v := .int .u8 (gd x3 (IntKind.wrap .i64 ((IntKind.wrap .i64 ((4 : Int) * d47)) + (2 : Int))))) hsel rfl (QV.el1 (Rdg.vw 0 rfl) tk_5 rfl h59 rfl) rfl rfl rfl [0, 1, 2, 3] rfl rfl ?_
          refine JT.take (i := 23) (v := .int .u32 (IntKind.wrap .u32 (gd x3 (IntKind.wrap .i64 ((IntKind.wrap .i64 ((4 : Int) * d47)) + (2 : Int)))))) hsel rfl (QV.conv rfl (by rw [Try.underlying5]; rfl) Try.underlying74) rfl rfl rfl [0, 1, 2, 3] rfl rfl ?_
          refine JT.take (i := 24) (v := .int .u32 (shlI .u32 (IntKind.wrap .u32 (gd x3 (IntKind.wrap .i64 ((IntKind.wrap .i64 ((4 : Int) * d47)) + (2 : Int))))) (8 : Int))) hsel rfl (QV.shl rfl rfl (by decide)) rfl rfl rfl [0, 1, 2, 3] rfl rfl ?_
          refine JT.take (i := 25) (v := .int .u32 (orI .u32 (orI .u32 (shlI .u32 (IntKind.wrap .u32 (gd x3 (IntKind.wrap .i64 ((4 : Int) * d47)))) (24 : Int)) (shlI .u32 (IntKind.wrap .u32 (gd x3 (IntKind.wrap .i64 ((IntKind.wrap .i64 ((4 : Int) * d47)) + (1 : Int))))) (16 : Int))) (shlI .u32 (IntKind.wrap .u32 (gd x3 (IntKind.wrap .i64 ((IntKind.wrap .i64 ((4 : Int) * d47)) + (2 : Int))))) (8 : Int)))) hsel rfl (QV.or rfl rfl) rfl rfl rfl [0, 1, 2, 3] rfl rfl ?_
          refine JT.take (i := 26) (v := s2.v) hsel rfl (QV.move rfl) rfl rfl rfl [0, 1, 2, 3] rfl rfl ?_
          refine JT.only (i := 27) (d := some 52) rfl (MV.ofQV (v := .int .i64 d47) (QV.move rfl)) rfl rfl rfl ?_
          rintro _ _ ⟨rfl, rfl⟩
          refine ⟨fun _ => ⟨[0, 1, 2, 3], rfl, rfl⟩, ?_⟩
          refine JT.only (i := 28) (d := some 53) rfl (MV.ofQV (v := .int .i64 (IntKind.wrap .i64 ((4 : Int) * d47))) (QV.mul rfl rfl)) rfl rfl rfl ?_
          rintro _ _ ⟨rfl, rfl⟩
          refine ⟨fun _ => ⟨[0, 1, 2, 3], rfl, rfl⟩, ?_⟩
          refine JT.only (i := 29) (d := some 54) rfl (MV.ofQV (v := .int .i64 (IntKind.wrap .i64 ((IntKind.wrap .i64 ((4 : Int) * d47)) + (3 : Int)))) (QV.add rfl rfl)) rfl rfl rfl ?_
          rintro _ _ ⟨rfl, rfl⟩
          refine ⟨fun _ => ⟨[0, 1, 2, 3], rfl, rfl⟩, ?_⟩
          obtain ⟨h60, hm⟩ := guard_inv hm
          refine JT.only (i := 30) (d := some 55) rfl (MV.ofQV (v := .pointer (some (elA (s2.v) (Int.toNat (IntKind.wrap .i64 ((IntKind.wrap .i64 ((4 : Int) * d47)) + (3 : Int))) * ((Enc.int .u8)).sz)))) (QV.indexA (Rdg.vw 0 rfl) Try.underlying22 tk_5 rfl rfl h60)) rfl rfl rfl ?_
          rintro _ _ ⟨rfl, rfl⟩
          refine ⟨fun _ => ⟨[0, 1, 2, 3], rfl, rfl⟩, ?_⟩
          refine JT.only (i := 31) (d := some 56) rfl (MV.ofQV (v := .int .u8 (gd x3 (IntKind.wrap .i64 ((IntKind.wrap .i64 ((4 : Int) * d47)) + (3 : Int))))) (QV.el1 (Rdg.vw 0 rfl) tk_5 rfl h60 rfl)) rfl rfl rfl ?_
          rintro _ _ ⟨rfl, rfl⟩
          refine ⟨fun _ => ⟨[0, 1, 2, 3], rfl, rfl⟩, ?_⟩
          refine JT.only (i := 32) (d := some 57) rfl (MV.ofQV (v := .int .u32 (IntKind.wrap .u32 (gd x3 (IntKind.wrap .i64 ((IntKind.wrap .i64 ((4 : Int) * d47)) + (3 : Int)))))) (QV.conv rfl (by rw [Try.underlying5]; rfl) Try.underlying74)) rfl rfl rfl ?_
          rintro _ _ ⟨rfl, rfl⟩
          refine ⟨fun _ => ⟨[0, 1, 2, 3], rfl, rfl⟩, ?_⟩
          refine JT.only (i := 33) (d := some 58) rfl (MV.ofQV (v := .int .u32 (orI .u32 (orI .u32 (orI .u32 (shlI .u32 (IntKind.wrap .u32 (gd x3 (IntKind.wrap .i64 ((4 : Int) * d47)))) (24 : Int)) (shlI .u32 (IntKind.wrap .u32 (gd x3 (IntKind.wrap .i64 ((IntKind.wrap .i64 ((4 : Int) * d47)) + (1 : Int))))) (16 : Int))) (shlI .u32 (IntKind.wrap .u32 (gd x3 (IntKind.wrap .i64 ((IntKind.wrap .i64 ((4 : Int) * d47)) + (2 : Int))))) (8 : Int))) (IntKind.wrap .u32 (gd x3 (IntKind.wrap .i64 ((IntKind.wrap .i64 ((4 : Int) * d47)) + (3 : Int))))))) (QV.or rfl rfl)) rfl rfl rfl ?_
          rintro _ _ ⟨rfl, rfl⟩
          refine ⟨fun _ => ⟨[0, 1, 2, 3], rfl, rfl⟩, ?_⟩
          obtain ⟨h61, hm⟩ := guard_inv hm
          refine JT.only (i := 34) (d := some 59) rfl (MV.ofQV (v := .pointer (some ⟨b9, 0 + Int.toNat d47 * 1, none⟩)) (QV.indexB Try.underlying99 tk_74 rfl rfl h61)) rfl rfl rfl ?_
          rintro _ _ ⟨rfl, rfl⟩
          refine ⟨fun _ => ⟨[0, 1, 2, 3], rfl, rfl⟩, ?_⟩
          refine JT.only (i := 35) (d := none) rfl (MV.storeAr (ss := [Seg.of (Enc.arr 64 (Enc.int .u32)) d46]) 4 0 (orI .u32 (orI .u32 (orI .u32 (shlI .u32 (IntKind.wrap .u32 (gd x3 (IntKind.wrap .i64 ((4 : Int) * d47)))) (24 : Int)) (shlI .u32 (IntKind.wrap .u32 (gd x3 (IntKind.wrap .i64 ((IntKind.wrap .i64 ((4 : Int) * d47)) + (1 : Int))))) (16 : Int))) (shlI .u32 (IntKind.wrap .u32 (gd x3 (IntKind.wrap .i64 ((IntKind.wrap .i64 ((4 : Int) * d47)) + (2 : Int))))) (8 : Int))) (IntKind.wrap .u32 (gd x3 (IntKind.wrap .i64 ((IntKind.wrap .i64 ((4 : Int) * d47)) + (3 : Int)))))) rfl tk_74 rfl rfl rfl rfl h61 rfl rfl) rfl rfl rfl ?_
          rintro _ _ ⟨rfl, rfl⟩
          refine ⟨fun _ => ⟨[0, 1, 2, 3], rfl, rfl⟩, ?_⟩
          refine JT.grow [Asr.vw (Enc.int .u8) (s2.v) x3, Asr.blk b6 98 [Seg.of (Enc.arr 8 (Enc.int .u32)) x1], Asr.blk b7 99 [Seg.of (Enc.arr 64 (Enc.int .u32)) x4], Asr.blk b8 98 [Seg.of (Enc.arr 8 (Enc.int .u32)) (Arr.rep 8 (0 : Int))], Asr.blk b9 99 [Seg.of (Enc.arr 64 (Enc.int .u32)) (Arr.set d46 d47 (orI .u32 (orI .u32 (orI .u32 (shlI .u32 (IntKind.wrap .u32 (gd x3 (IntKind.wrap .i64 ((4 : Int) * d47)))) (24 : Int)) (shlI .u32 (IntKind.wrap .u32 (gd x3 (IntKind.wrap .i64 ((IntKind.wrap .i64 ((4 : Int) * d47)) + (1 : Int))))) (16 : Int))) (shlI .u32 (IntKind.wrap .u32 (gd x3 (IntKind.wrap .i64 ((IntKind.wrap .i64 ((4 : Int) * d47)) + (2 : Int))))) (8 : Int))) (IntKind.wrap .u32 (gd x3 (IntKind.wrap .i64 ((IntKind.wrap .i64 ((4 : Int) * d47)) + (3 : Int)))))))]] [0, 1, 2, 3] rfl rfl ?_
          refine JT.nil ?_
          refine QJ.then_normal ?_
          refine JC.exit ?_
          refine QJ.then_exit ?_
          refine QJ.block_hit ?_
          exact QJ.cut_normal ((Arr.set d46 d47 (orI .u32 (orI .u32 (orI .u32 (shlI .u32 (IntKind.wrap .u32 (gd x3 (IntKind.wrap .i64 ((4 : Int) * d47)))) (24 : Int)) (shlI .u32 (IntKind.wrap .u32 (gd x3 (IntKind.wrap .i64 ((IntKind.wrap .i64 ((4 : Int) * d47)) + (1 : Int))))) (16 : Int))) (shlI .u32 (IntKind.wrap .u32 (gd x3 (IntKind.wrap .i64 ((IntKind.wrap .i64 ((4 : Int) * d47)) + (2 : Int))))) (8 : Int))) (IntKind.wrap .u32 (gd x3 (IntKind.wrap .i64 ((IntKind.wrap .i64 ((4 : Int) * d47)) + (3 : Int))))))), ()) hm [0, 1, 2, 3, 4] (by exact ⟨rfl, rfl, rfl, rfl, rfl, rfl, trivial⟩) rfl rfl
        ·
          refine JC.condF' rfl (decide_eq_false h56) ?_
          refine JC.skip ?_
          refine QJ.then_normal ?_
          refine JC.seq ?_
          refine JC.region ?_
          refine JL.val (v := .int .i64 d47) (QV.move rfl) rfl rfl rfl ?_
          refine JL.val (v := .int .i64 (IntKind.wrap .i64 (d47 - (15 : Int)))) (QV.sub rfl rfl) rfl rfl rfl ?_
          obtain ⟨h62, hm⟩ := guard_inv hm
          refine JL.val (v := .pointer (some ⟨b9, 0 + Int.toNat (IntKind.wrap .i64 (d47 - (15 : Int))) * 1, none⟩)) (QV.indexB Try.underlying99 tk_74 rfl rfl h62) rfl rfl rfl ?_
          refine JL.val (v := .int .u32 (gd (d46).l (IntKind.wrap .i64 (d47 - (15 : Int))))) (QV.ar1 (ss := [Seg.of (Enc.arr 64 (Enc.int .u32)) d46]) 4 0 rfl tk_74 rfl rfl rfl rfl h62 rfl) rfl rfl rfl ?_
          refine JL.val (v := .int .u32 (gd (d46).l (IntKind.wrap .i64 (d47 - (15 : Int))))) (QV.assign rfl) rfl rfl rfl ?_
          refine JL.nil ?_
          refine QJ.then_normal ?_
          refine JC.seq ?_
          refine JC.region ?_
          refine JL.val (v := .int .i64 d47) (QV.move rfl) rfl rfl rfl ?_
          refine JL.val (v := .int .i64 (IntKind.wrap .i64 (d47 - (2 : Int)))) (QV.sub rfl rfl) rfl rfl rfl ?_
          obtain ⟨h63, hm⟩ := guard_inv hm
          refine JL.val (v := .pointer (some ⟨b9, 0 + Int.toNat (IntKind.wrap .i64 (d47 - (2 : Int))) * 1, none⟩)) (QV.indexB Try.underlying99 tk_74 rfl rfl h63) rfl rfl rfl ?_
          refine JL.val (v := .int .u32 (gd (d46).l (IntKind.wrap .i64 (d47 - (2 : Int))))) (QV.ar1 (ss := [Seg.of (Enc.arr 64 (Enc.int .u32)) d46]) 4 0 rfl tk_74 rfl rfl rfl rfl h63 rfl) rfl rfl rfl ?_
          refine JL.val (v := .int .u32 (gd (d46).l (IntKind.wrap .i64 (d47 - (2 : Int))))) (QV.assign rfl) rfl rfl rfl ?_
          refine JL.nil ?_
          refine QJ.then_normal ?_
          refine JC.regionT [Asr.vw (Enc.int .u8) (s2.v) x3, Asr.blk b6 98 [Seg.of (Enc.arr 8 (Enc.int .u32)) x1], Asr.blk b7 99 [Seg.of (Enc.arr 64 (Enc.int .u32)) x4], Asr.blk b8 98 [Seg.of (Enc.arr 8 (Enc.int .u32)) (Arr.rep 8 (0 : Int))], Asr.blk b9 99 [Seg.of (Enc.arr 64 (Enc.int .u32)) d46]] (fun t => Nat.beq t 29) [(0, true), (1, true), (2, true), (3, true), (4, true), (5, true), (7, true), (10, true), (11, true), (14, true), (15, true), (16, true), (17, true), (19, true), (21, true), (24, true), (25, true), (6, false), (8, false), (9, true), (12, true), (13, true), (18, true), (20, false), (22, false), (23, false), (26, false), (27, false), (28, false), (29, false)] (by kernel_rfl) (by kernel_rfl) (by kernel_rfl) rfl (fun hsel => ?_)
          refine JT.take (i := 0) (v := .int .i64 d47) hsel rfl (QV.move rfl) rfl rfl rfl [0, 1, 2, 3, 4] rfl rfl ?_
          refine JT.take (i := 1) (v := .int .i64 d47) hsel rfl (QV.move rfl) rfl rfl rfl [0, 1, 2, 3, 4] rfl rfl ?_
          refine JT.take (i := 2) (v := .int .i64 (IntKind.wrap .i64 (d47 - (16 : Int)))) hsel rfl (QV.sub rfl rfl) rfl rfl rfl [0, 1, 2, 3, 4] rfl rfl ?_
          obtain ⟨h64, hm⟩ := guard_inv hm
          refine JT.take (i := 3) (v := .pointer (some ⟨b9, 0 + Int.toNat (IntKind.wrap .i64 (d47 - (16 : Int))) * 1, none⟩)) hsel rfl (QV.indexB Try.underlying99 tk_74 rfl rfl h64) rfl rfl rfl [0, 1, 2, 3, 4] rfl rfl ?_
          refine JT.take (i := 4) (v := .int .u32 (gd (d46).l (IntKind.wrap .i64 (d47 - (16 : Int))))) hsel rfl (QV.ar1 (ss := [Seg.of (Enc.arr 64 (Enc.int .u32)) d46]) 4 0 rfl tk_74 rfl rfl rfl rfl h64 rfl) rfl rfl rfl [0, 1, 2, 3, 4] rfl rfl ?_
          refine JT.take (i := 5) (v := .int .u32 (gd (d46).l (IntKind.wrap .i64 (d47 - (15 : Int))))) hsel rfl (QV.move rfl) rfl rfl rfl [0, 1, 2, 3, 4] rfl rfl ?_
          refine JT.take (i := 7) (v := .int .u32 (gd (d46).l (IntKind.wrap .i64 (d47 - (15 : Int))))) hsel rfl (QV.move rfl) rfl rfl rfl [0, 1, 2, 3, 4] rfl rfl ?_
          refine JT.take (i := 10) (v := .int .u32 (gd (d46).l (IntKind.wrap .i64 (d47 - (15 : Int))))) hsel rfl (QV.move rfl) rfl rfl rfl [0, 1, 2, 3, 4] rfl rfl ?_
          refine JT.take (i := 11) (v := .int .u32 (shrI .u32 (gd (d46).l (IntKind.wrap .i64 (d47 - (15 : Int)))) (3 : Int))) hsel rfl (QV.shr rfl rfl (by decide)) rfl rfl rfl [0, 1, 2, 3, 4] rfl rfl ?_
          refine JT.take (i := 14) (v := .int .i64 d47) hsel rfl (QV.move rfl) rfl rfl rfl [0, 1, 2, 3, 4] rfl rfl ?_
          refine JT.take (i := 15) (v := .int .i64 (IntKind.wrap .i64 (d47 - (7 : Int)))) hsel rfl (QV.sub rfl rfl) rfl rfl rfl [0, 1, 2, 3, 4] rfl rfl ?_
          obtain ⟨h65, hm⟩ := guard_inv hm
          refine JT.take (i := 16) (v := .pointer (some ⟨b9, 0 + Int.toNat (IntKind.wrap .i64 (d47 - (7 : Int))) * 1, none⟩)) hsel rfl (QV.indexB Try.underlying99 tk_74 rfl rfl h65) rfl rfl rfl [0, 1, 2, 3, 4] rfl rfl ?_
          refine JT.take (i := 17) (v := .int .u32 (gd (d46).l (IntKind.wrap .i64 (d47 - (7 : Int))))) hsel rfl (QV.ar1 (ss := [Seg.of (Enc.arr 64 (Enc.int .u32)) d46]) 4 0 rfl tk_74 rfl rfl rfl rfl h65 rfl) rfl rfl rfl [0, 1, 2, 3, 4] rfl rfl ?_
          refine JT.take (i := 19) (v := .int .u32 (gd (d46).l (IntKind.wrap .i64 (d47 - (2 : Int))))) hsel rfl (QV.move rfl) rfl rfl rfl [0, 1, 2, 3, 4] rfl rfl ?_
          refine JT.take (i := 21) (v := .int .u32 (gd (d46).l (IntKind.wrap .i64 (d47 - (2 : Int))))) hsel rfl (QV.move rfl) rfl rfl rfl [0, 1, 2, 3, 4] rfl rfl ?_
          refine JT.take (i := 24) (v := .int .u32 (gd (d46).l (IntKind.wrap .i64 (d47 - (2 : Int))))) hsel rfl (QV.move rfl) rfl rfl rfl [0, 1, 2, 3, 4] rfl rfl ?_
          refine JT.take (i := 25) (v := .int .u32 (shrI .u32 (gd (d46).l (IntKind.wrap .i64 (d47 - (2 : Int)))) (10 : Int))) hsel rfl (QV.shr rfl rfl (by decide)) rfl rfl rfl [0, 1, 2, 3, 4] rfl rfl ?_
          obtain ⟨y66, hc67, hm⟩ := bind_inv hm
          refine JT.only (i := 6) (d := some 74) rfl (MV.call (Lo := []) (Lr := [Asr.vw (Enc.int .u8) (s2.v) x3, Asr.blk b6 98 [Seg.of (Enc.arr 8 (Enc.int .u32)) x1], Asr.blk b7 99 [Seg.of (Enc.arr 64 (Enc.int .u32)) x4], Asr.blk b8 98 [Seg.of (Enc.arr 8 (Enc.int .u32)) (Arr.rep 8 (0 : Int))], Asr.blk b9 99 [Seg.of (Enc.arr 64 (Enc.int .u32)) d46]]) (F92.spec ((gd (d46).l (IntKind.wrap .i64 (d47 - (15 : Int))))) ((7 : Int)) _ hc67) rfl Try.func92 rfl rfl rfl [] [0, 1, 2, 3, 4] rfl rfl rfl trivial) rfl rfl rfl ?_
          rintro _ _ ⟨_, ⟨rfl, rfl⟩, rfl⟩
          refine ⟨fun _ => ⟨[0, 1, 2, 3, 4], rfl, rfl⟩, ?_⟩
          obtain ⟨y68, hc69, hm⟩ := bind_inv hm
          refine JT.only (i := 8) (d := some 76) rfl (MV.call (Lo := []) (Lr := [Asr.vw (Enc.int .u8) (s2.v) x3, Asr.blk b6 98 [Seg.of (Enc.arr 8 (Enc.int .u32)) x1], Asr.blk b7 99 [Seg.of (Enc.arr 64 (Enc.int .u32)) x4], Asr.blk b8 98 [Seg.of (Enc.arr 8 (Enc.int .u32)) (Arr.rep 8 (0 : Int))], Asr.blk b9 99 [Seg.of (Enc.arr 64 (Enc.int .u32)) d46]]) (F92.spec ((gd (d46).l (IntKind.wrap .i64 (d47 - (15 : Int))))) ((18 : Int)) _ hc69) rfl Try.func92 rfl rfl rfl [] [0, 1, 2, 3, 4] rfl rfl rfl trivial) rfl rfl rfl ?_
          rintro _ _ ⟨_, ⟨rfl, rfl⟩, rfl⟩
          refine ⟨fun _ => ⟨[0, 1, 2, 3, 4], rfl, rfl⟩, ?_⟩
          refine JT.take (i := 9) (v := .int .u32 (xorI .u32 y66 y68)) hsel rfl (QV.xor rfl rfl) rfl rfl rfl [0, 1, 2, 3, 4] rfl rfl ?_
          refine JT.take (i := 12) (v := .int .u32 (xorI .u32 (xorI .u32 y66 y68) (shrI .u32 (gd (d46).l (IntKind.wrap .i64 (d47 - (15 : Int)))) (3 : Int)))) hsel rfl (QV.xor rfl rfl) rfl rfl rfl [0, 1, 2, 3, 4] rfl rfl ?_
          refine JT.take (i := 13) (v := .int .u32 (IntKind.wrap .u32 ((gd (d46).l (IntKind.wrap .i64 (d47 - (16 : Int)))) + (xorI .u32 (xorI .u32 y66 y68) (shrI .u32 (gd (d46).l (IntKind.wrap .i64 (d47 - (15 : Int)))) (3 : Int)))))) hsel rfl (QV.add rfl rfl) rfl rfl rfl [0, 1, 2, 3, 4] rfl rfl ?_
          refine JT.take (i := 18) (v := .int .u32 (IntKind.wrap .u32 ((IntKind.wrap .u32 ((gd (d46).l (IntKind.wrap .i64 (d47 - (16 : Int)))) + (xorI .u32 (xorI .u32 y66 y68) (shrI .u32 (gd (d46).l (IntKind.wrap .i64 (d47 - (15 : Int)))) (3 : Int))))) + (gd (d46).l (IntKind.wrap .i64 (d47 - (7 : Int))))))) hsel rfl (QV.add rfl rfl) rfl rfl rfl [0, 1, 2, 3, 4] rfl rfl ?_
          obtain ⟨y70, hc71, hm⟩ := bind_inv hm
          refine JT.only (i := 20) (d := some 88) rfl (MV.call (Lo := []) (Lr := [Asr.vw (Enc.int .u8) (s2.v) x3, Asr.blk b6 98 [Seg.of (Enc.arr 8 (Enc.int .u32)) x1], Asr.blk b7 99 [Seg.of (Enc.arr 64 (Enc.int .u32)) x4], Asr.blk b8 98 [Seg.of (Enc.arr 8 (Enc.int .u32)) (Arr.rep 8 (0 : Int))], Asr.blk b9 99 [Seg.of (Enc.arr 64 (Enc.int .u32)) d46]]) (F92.spec ((gd (d46).l (IntKind.wrap .i64 (d47 - (2 : Int))))) ((17 : Int)) _ hc71) rfl Try.func92 rfl rfl rfl [] [0, 1, 2, 3, 4] rfl rfl rfl trivial) rfl rfl rfl ?_
          rintro _ _ ⟨_, ⟨rfl, rfl⟩, rfl⟩
          refine ⟨fun _ => ⟨[0, 1, 2, 3, 4], rfl, rfl⟩, ?_⟩
          obtain ⟨y72, hc73, hm⟩ := bind_inv hm
          refine JT.only (i := 22) (d := some 90) rfl (MV.call (Lo := []) (Lr := [Asr.vw (Enc.int .u8) (s2.v) x3, Asr.blk b6 98 [Seg.of (Enc.arr 8 (Enc.int .u32)) x1], Asr.blk b7 99 [Seg.of (Enc.arr 64 (Enc.int .u32)) x4], Asr.blk b8 98 [Seg.of (Enc.arr 8 (Enc.int .u32)) (Arr.rep 8 (0 : Int))], Asr.blk b9 99 [Seg.of (Enc.arr 64 (Enc.int .u32)) d46]]) (F92.spec ((gd (d46).l (IntKind.wrap .i64 (d47 - (2 : Int))))) ((19 : Int)) _ hc73) rfl Try.func92 rfl rfl rfl [] [0, 1, 2, 3, 4] rfl rfl rfl trivial) rfl rfl rfl ?_
          rintro _ _ ⟨_, ⟨rfl, rfl⟩, rfl⟩
          refine ⟨fun _ => ⟨[0, 1, 2, 3, 4], rfl, rfl⟩, ?_⟩
          refine JT.only (i := 23) (d := some 91) rfl (MV.ofQV (v := .int .u32 (xorI .u32 y70 y72)) (QV.xor rfl rfl)) rfl rfl rfl ?_
          rintro _ _ ⟨rfl, rfl⟩
          refine ⟨fun _ => ⟨[0, 1, 2, 3, 4], rfl, rfl⟩, ?_⟩
          refine JT.only (i := 26) (d := some 94) rfl (MV.ofQV (v := .int .u32 (xorI .u32 (xorI .u32 y70 y72) (shrI .u32 (gd (d46).l (IntKind.wrap .i64 (d47 - (2 : Int)))) (10 : Int)))) (QV.xor rfl rfl)) rfl rfl rfl ?_
          rintro _ _ ⟨rfl, rfl⟩
          refine ⟨fun _ => ⟨[0, 1, 2, 3, 4], rfl, rfl⟩, ?_⟩
          refine JT.only (i := 27) (d := some 95) rfl (MV.ofQV (v := .int .u32 (IntKind.wrap .u32 ((IntKind.wrap .u32 ((IntKind.wrap .u32 ((gd (d46).l (IntKind.wrap .i64 (d47 - (16 : Int)))) + (xorI .u32 (xorI .u32 y66 y68) (shrI .u32 (gd (d46).l (IntKind.wrap .i64 (d47 - (15 : Int)))) (3 : Int))))) + (gd (d46).l (IntKind.wrap .i64 (d47 - (7 : Int)))))) + (xorI .u32 (xorI .u32 y70 y72) (shrI .u32 (gd (d46).l (IntKind.wrap .i64 (d47 - (2 : Int)))) (10 : Int)))))) (QV.add rfl rfl)) rfl rfl rfl ?_
          rintro _ _ ⟨rfl, rfl⟩
          refine ⟨fun _ => ⟨[0, 1, 2, 3, 4], rfl, rfl⟩, ?_⟩
          obtain ⟨h74, hm⟩ := guard_inv hm
          refine JT.only (i := 28) (d := some 96) rfl (MV.ofQV (v := .pointer (some ⟨b9, 0 + Int.toNat d47 * 1, none⟩)) (QV.indexB Try.underlying99 tk_74 rfl rfl h74)) rfl rfl rfl ?_
          rintro _ _ ⟨rfl, rfl⟩
          refine ⟨fun _ => ⟨[0, 1, 2, 3, 4], rfl, rfl⟩, ?_⟩
          refine JT.only (i := 29) (d := none) rfl (MV.storeAr (ss := [Seg.of (Enc.arr 64 (Enc.int .u32)) d46]) 4 0 (IntKind.wrap .u32 ((IntKind.wrap .u32 ((IntKind.wrap .u32 ((gd (d46).l (IntKind.wrap .i64 (d47 - (16 : Int)))) + (xorI .u32 (xorI .u32 y66 y68) (shrI .u32 (gd (d46).l (IntKind.wrap .i64 (d47 - (15 : Int)))) (3 : Int))))) + (gd (d46).l (IntKind.wrap .i64 (d47 - (7 : Int)))))) + (xorI .u32 (xorI .u32 y70 y72) (shrI .u32 (gd (d46).l (IntKind.wrap .i64 (d47 - (2 : Int)))) (10 : Int))))) rfl tk_74 rfl rfl rfl rfl h74 rfl rfl) rfl rfl rfl ?_
          rintro _ _ ⟨rfl, rfl⟩
          refine ⟨fun h => absurd h (by decide), ?_⟩
          refine JT.nil ?_
          refine QJ.block_normal ?_
          exact QJ.cut_normal ((Arr.set d46 d47 (IntKind.wrap .u32 ((IntKind.wrap .u32 ((IntKind.wrap .u32 ((gd (d46).l (IntKind.wrap .i64 (d47 - (16 : Int)))) + (xorI .u32 (xorI .u32 y66 y68) (shrI .u32 (gd (d46).l (IntKind.wrap .i64 (d47 - (15 : Int)))) (3 : Int))))) + (gd (d46).l (IntKind.wrap .i64 (d47 - (7 : Int)))))) + (xorI .u32 (xorI .u32 y70 y72) (shrI .u32 (gd (d46).l (IntKind.wrap .i64 (d47 - (2 : Int)))) (10 : Int)))))), ()) hm [0, 1, 2, 3, 4] (by exact ⟨rfl, rfl, rfl, rfl, rfl, rfl, trivial⟩) rfl rfl
    ·
      refine JC.condF' rfl (decide_eq_false h54) ?_
      refine JC.exit ?_
      refine QJ.then_exit ?_
      obtain rfl := Option.some.inj hm
      refine QJ.round_exit (fun hy => ?_)
      subst hy
      refine QJ.block_hit ?_
      exact QJ.cut_normal (d46, ()) hmo52 [1, 2, 3, 4] (by exact ⟨rfl, rfl, rfl, rfl, trivial⟩) rfl rfl

/-! ### 33: drogher/drogherref01.Sum -/
noncomputable def F33.j2  (d14 : (Arr Int 32)) : Option (Arr Int 32) :=
  some d14
noncomputable def F33.b1 (d12 : (Arr Int 8)) : ((Arr Int 32) × Int) → Option (((Arr Int 32) × Int) ⊕ (Arr Int 32))
  | (d15, d16) => (if d16 < (32 : Int) then (if 0 ≤ (IntKind.wrap .i64 (Int.tdiv d16 (4 : Int))) ∧ (IntKind.wrap .i64 (Int.tdiv d16 (4 : Int))) < 8 then (if 0 ≤ (IntKind.wrap .i64 ((24 : Int) - (IntKind.wrap .i64 ((8 : Int) * (Int.tmod d16 (4 : Int)))))) then (if 0 ≤ d16 ∧ d16 < 32 then some (.inl ((Arr.set d15 d16 (IntKind.wrap .u8 (shrI .u32 (gd (d12).l (IntKind.wrap .i64 (Int.tdiv d16 (4 : Int)))) (IntKind.wrap .i64 ((24 : Int) - (IntKind.wrap .i64 ((8 : Int) * (Int.tmod d16 (4 : Int))))))))), (IntKind.wrap .i64 (d16 + (1 : Int))))) else none) else none) else none) else some (.inr d15))
noncomputable def F33.j1  (d12 : (Arr Int 8)) : Option (Arr Int 32) :=
  ((loop (F33.b1 d12) (K3, (0 : Int))).bind fun y => match y with | d14 => F33.j2 (d14))
noncomputable def F33.b2 (y6 : (Arr Int 64)) (y9 : (List Int)) : ((Arr Int 8) × Int) → Option (((Arr Int 8) × Int) ⊕ (Arr Int 8))
  | (d27, d28) => (if d28 < ((y9).length : Int) then (if 0 ≤ d28 ∧ d28 ≤ (IntKind.wrap .i64 (d28 + (64 : Int))) ∧ (IntKind.wrap .i64 (d28 + (64 : Int))) ≤ ((y9).length : Int) then ((F74.m (d27) ((subL y9 d28 (IntKind.wrap .i64 (d28 + (64 : Int))))) (y6)).bind fun y37 => some (.inl (y37, (IntKind.wrap .i64 (d28 + (64 : Int)))))) else none) else some (.inr d27))
noncomputable def F33.m (x2 : List Int) : Option (Arr Int 32) :=
  ((F72.m).bind fun y6 => ((F73.m (x2)).bind fun y9 => ((loop (F33.b2 y6 y9) (K0, (0 : Int))).bind fun y => match y with | d12 => F33.j1 (d12))))
set_option maxRecDepth 100000 in
set_option maxHeartbeats 4000000 in
theorem F33.spec (s1 : SlV) (x2 : List Int) (r : (Arr Int 32)) (hm : F33.m x2 = some r) :
    Ctr Try.prog false 33 [s1.v] [Asr.vw (Enc.int .u8) (s1.v) x2] (fun v L' => v = .agg (((Enc.arr 32 (Enc.int .u8))).enc r).toArray ∧ L' = []) := by
  refine Ctr.intro (n := 45) (env := [(0, s1.v)]) Try.func33 rfl rfl rfl rfl (fun c => ?_)
  unfold F33.m at hm
  refine JC.seq ?_
  refine JC.region ?_
  refine JL.mv (d := some 2) (MV.alloc [Seg.of (Enc.arr 32 (Enc.int .u8)) (Arr.rep 32 (0 : Int))] z_39 rfl) rfl rfl rfl ?_
  rintro _ _ ⟨b4, rfl, rfl⟩
  refine JL.nil ?_
  refine QJ.then_normal ?_
  refine JC.seq ?_
  refine JC.region ?_
  refine JL.val (v := .agg (((Enc.arr 8 (Enc.int .u32))).enc K0).toArray) (QV.build (vals := [(0, .int .u32 (1779033703 : Int)), (1, .int .u32 (3144134277 : Int)), (2, .int .u32 (1013904242 : Int)), (3, .int .u32 (2773480762 : Int)), (4, .int .u32 (1359893119 : Int)), (5, .int .u32 (2600822924 : Int)), (6, .int .u32 (528734635 : Int)), (7, .int .u32 (1541459225 : Int))]) (cells := ((Enc.arr 8 (Enc.int .u32)).enc K0).toArray) rfl (by kernel_rfl)) rfl rfl rfl ?_
  refine JL.mv (d := some 3) (MV.alloc [Seg.of (Enc.arr 8 (Enc.int .u32)) (Arr.rep 8 (0 : Int))] z_98 rfl) rfl rfl rfl ?_
  rintro _ _ ⟨b5, rfl, rfl⟩
  refine JL.mv (d := none) (MV.store (ss := [Seg.of (Enc.arr 8 (Enc.int .u32)) (Arr.rep 8 (0 : Int))]) 0 0 1 [Seg.of (Enc.arr 8 (Enc.int .u32)) K0] rfl tk_98 rfl rfl rfl rfl (fun w hs => ⟨rfl, one_of _ _, trivial⟩)) rfl rfl rfl ?_
  rintro _ _ ⟨rfl, rfl⟩
  refine JL.nil ?_
  refine QJ.then_normal ?_
  refine JC.seq ?_
  refine JC.region ?_
  obtain ⟨y6, hc7, hm⟩ := bind_inv hm
  refine JL.mv (d := some 10) (MV.call (Lo := []) (Lr := [Asr.blk b5 98 [Seg.of (Enc.arr 8 (Enc.int .u32)) K0], Asr.blk b4 39 [Seg.of (Enc.arr 32 (Enc.int .u8)) (Arr.rep 32 (0 : Int))], Asr.vw (Enc.int .u8) (s1.v) x2]) (F72.spec _ hc7) rfl Try.func72 rfl rfl rfl [] [0, 1, 2] rfl rfl rfl trivial) rfl rfl rfl ?_
  rintro _ _ ⟨_, ⟨rfl, rfl⟩, rfl⟩
  refine JL.mv (d := some 4) (MV.alloc [Seg.of (Enc.arr 64 (Enc.int .u32)) (Arr.rep 64 (0 : Int))] z_99 rfl) rfl rfl rfl ?_
  rintro _ _ ⟨b8, rfl, rfl⟩
  refine JL.mv (d := none) (MV.store (ss := [Seg.of (Enc.arr 64 (Enc.int .u32)) (Arr.rep 64 (0 : Int))]) 0 0 1 [Seg.of (Enc.arr 64 (Enc.int .u32)) y6] rfl tk_99 rfl rfl rfl rfl (fun w hs => ⟨rfl, one_of _ _, trivial⟩)) rfl rfl rfl ?_
  rintro _ _ ⟨rfl, rfl⟩
  refine JL.nil ?_
  refine QJ.then_normal ?_
  refine JC.seq ?_
  refine JC.region ?_
  refine JL.val (v := s1.v) (QV.move rfl) rfl rfl rfl ?_
  obtain ⟨y9, hc10, hm⟩ := bind_inv hm
  refine JL.mv (d := some 12) (MV.call (Lo := []) (Lr := [Asr.blk b8 99 [Seg.of (Enc.arr 64 (Enc.int .u32)) y6], Asr.blk b5 98 [Seg.of (Enc.arr 8 (Enc.int .u32)) K0], Asr.blk b4 39 [Seg.of (Enc.arr 32 (Enc.int .u8)) (Arr.rep 32 (0 : Int))], Asr.vw (Enc.int .u8) (s1.v) x2]) (F73.spec (s1) (x2) _ hc10) rfl Try.func73 rfl rfl rfl [] [0, 1, 2, 3] rfl rfl rfl ⟨(Drv.vw 3 rfl), trivial⟩) rfl rfl rfl ?_
  rintro _ _ ⟨_, ⟨z11, rfl, rfl⟩, rfl⟩
  refine JL.val (v := z11.v) (QV.assign rfl) rfl rfl rfl ?_
  refine JL.nil ?_
  refine QJ.then_normal ?_
  refine JC.seq ?_
  refine JC.seq ?_
  refine JC.region ?_
  refine JL.val (v := .int .i64 (0 : Int)) (QV.assign rfl) rfl rfl rfl ?_
  refine JL.nil ?_
  refine QJ.then_normal ?_
  refine JC.cutK (Y := (Arr Int 8) × Unit) (fun y => match y with | (d12, _) => F33.j1 (d12) = some r) (fun y => match y with | (d12, _) => [(2, .pointer (some ⟨b4, 0, none⟩)), (3, .pointer (some ⟨b5, 0, none⟩))]) (fun y => match y with | (d12, _) => [Asr.blk b4 39 [Seg.of (Enc.arr 32 (Enc.int .u8)) (Arr.rep 32 (0 : Int))], Asr.blk b5 98 [Seg.of (Enc.arr 8 (Enc.int .u32)) d12]]) ?_ ?_
  ·
    rintro ⟨d12, ⟨⟩⟩ hm
    unfold F33.j1 at hm
    show QJ _ _ [(2, .pointer (some ⟨b4, 0, none⟩)), (3, .pointer (some ⟨b5, 0, none⟩))] [Asr.blk b4 39 [Seg.of (Enc.arr 32 (Enc.int .u8)) (Arr.rep 32 (0 : Int))], Asr.blk b5 98 [Seg.of (Enc.arr 8 (Enc.int .u32)) d12]] _ _
    refine QJ.then_normal ?_
    refine JC.seq ?_
    refine JC.region ?_
    refine JL.val (v := .agg (((Enc.arr 32 (Enc.int .u8))).enc K3).toArray) (QV.build (vals := []) (cells := ((Enc.arr 32 (Enc.int .u8)).enc K3).toArray) rfl (by kernel_rfl)) rfl rfl rfl ?_
    refine JL.mv (d := some 7) (MV.alloc [Seg.of (Enc.arr 32 (Enc.int .u8)) (Arr.rep 32 (0 : Int))] z_39 rfl) rfl rfl rfl ?_
    rintro _ _ ⟨b13, rfl, rfl⟩
    refine JL.mv (d := none) (MV.store (ss := [Seg.of (Enc.arr 32 (Enc.int .u8)) (Arr.rep 32 (0 : Int))]) 0 0 1 [Seg.of (Enc.arr 32 (Enc.int .u8)) K3] rfl tk_39 rfl rfl rfl rfl (fun w hs => ⟨rfl, one_of _ _, trivial⟩)) rfl rfl rfl ?_
    rintro _ _ ⟨rfl, rfl⟩
    refine JL.nil ?_
    refine QJ.then_normal ?_
    refine JC.seq ?_
    refine JC.seq ?_
    refine JC.region ?_
    refine JL.val (v := .int .i64 (0 : Int)) (QV.assign rfl) rfl rfl rfl ?_
    refine JL.nil ?_
    refine QJ.then_normal ?_
    refine JC.cutK (Y := (Arr Int 32) × Unit) (fun y => match y with | (d14, _) => F33.j2 (d14) = some r) (fun y => match y with | (d14, _) => [(2, .pointer (some ⟨b4, 0, none⟩)), (7, .pointer (some ⟨b13, 0, none⟩))]) (fun y => match y with | (d14, _) => [Asr.blk b4 39 [Seg.of (Enc.arr 32 (Enc.int .u8)) (Arr.rep 32 (0 : Int))], Asr.blk b13 39 [Seg.of (Enc.arr 32 (Enc.int .u8)) d14]]) ?_ ?_
    ·
      rintro ⟨d14, ⟨⟩⟩ hm
      unfold F33.j2 at hm
      show QJ _ _ [(2, .pointer (some ⟨b4, 0, none⟩)), (7, .pointer (some ⟨b13, 0, none⟩))] [Asr.blk b4 39 [Seg.of (Enc.arr 32 (Enc.int .u8)) (Arr.rep 32 (0 : Int))], Asr.blk b13 39 [Seg.of (Enc.arr 32 (Enc.int .u8)) d14]] _ _
      refine QJ.then_normal ?_
      refine JC.seq ?_
      refine JC.region ?_
      refine JL.val (v := .agg (((Enc.arr 32 (Enc.int .u8))).enc d14).toArray) (QV.eq (QV.loadN (ss := [Seg.of (Enc.arr 32 (Enc.int .u8)) d14]) 1 0 1 rfl tk_39 rfl rfl rfl rfl) rfl) rfl rfl rfl ?_
      refine JL.mv (d := none) (MV.store (ss := [Seg.of (Enc.arr 32 (Enc.int .u8)) (Arr.rep 32 (0 : Int))]) 0 0 1 [Seg.of (Enc.arr 32 (Enc.int .u8)) d14] rfl tk_39 rfl rfl rfl rfl (fun w hs => ⟨rfl, one_of _ _, trivial⟩)) rfl rfl rfl ?_
      rintro _ _ ⟨rfl, rfl⟩
      refine JL.nil ?_
      refine QJ.then_normal ?_
      refine JC.ret ?_
      obtain rfl := Option.some.inj hm
      exact QJ.body (vs := [.agg (((Enc.arr 32 (Enc.int .u8))).enc d14).toArray]) (.inl rfl) rfl (ResVs.cons (ResV.cell (d := none) (ty := 0) (ps := "") (af := #[]) (g := none) rfl (QV.eq (QV.loadN (ss := [Seg.of (Enc.arr 32 (Enc.int .u8)) d14]) 0 0 1 rfl tk_39 rfl rfl rfl rfl) rfl)) ResVs.nil) [] rfl rfl (.inr trivial) ⟨rfl, rfl⟩
    ·
      refine JC.block ?_
      obtain ⟨y19, hl20, hmo21⟩ := bind_inv hm
      refine JC.loop (F33.b1 d12) (fun x z => match x, z with | (d15, d16), _ => [(2, .pointer (some ⟨b4, 0, none⟩)), (3, .pointer (some ⟨b5, 0, none⟩)), (7, .pointer (some ⟨b13, 0, none⟩)), (8, .int .i64 d16)]) (fun x z => match x, z with | (d15, d16), _ => [Asr.blk b4 39 [Seg.of (Enc.arr 32 (Enc.int .u8)) (Arr.rep 32 (0 : Int))], Asr.blk b5 98 [Seg.of (Enc.arr 8 (Enc.int .u32)) d12], Asr.blk b13 39 [Seg.of (Enc.arr 32 (Enc.int .u8)) d15]]) (K3, (0 : Int)) () y19 hl20 [1, 2, 0] (by exact ⟨rfl, rfl, rfl, rfl, trivial⟩) rfl rfl ?_
      rintro ⟨d15, d16⟩ ⟨⟩ s22 hm
      unfold F33.b1 at hm
      dsimp only at hm
      show JC _ _ _ [(2, .pointer (some ⟨b4, 0, none⟩)), (3, .pointer (some ⟨b5, 0, none⟩)), (7, .pointer (some ⟨b13, 0, none⟩)), (8, .int .i64 d16)] [Asr.blk b4 39 [Seg.of (Enc.arr 32 (Enc.int .u8)) (Arr.rep 32 (0 : Int))], Asr.blk b5 98 [Seg.of (Enc.arr 8 (Enc.int .u32)) d12], Asr.blk b13 39 [Seg.of (Enc.arr 32 (Enc.int .u8)) d15]] _ _
      refine JC.seq ?_
      refine JC.seq ?_
      refine JC.region ?_
      refine JL.val (v := .int .i64 d16) (QV.move rfl) rfl rfl rfl ?_
      refine JL.val (v := .bool (decide (d16 < (32 : Int)))) (QV.lss rfl rfl) rfl rfl rfl ?_
      refine JL.nil ?_
      refine QJ.then_normal ?_
      rcases ite_inv hm with ⟨h23, hm⟩ | ⟨h23, hm⟩
      ·
        refine JC.condT' rfl (decide_eq_true h23) ?_
        refine JC.skip ?_
        refine QJ.then_normal ?_
        refine JC.seq ?_
        refine JC.block ?_
        refine JC.region ?_
        refine JL.val (v := .int .i64 d16) (QV.move rfl) rfl rfl rfl ?_
        refine JL.val (v := .int .i64 d16) (QV.move rfl) rfl rfl rfl ?_
        refine JL.val (v := .int .i64 (IntKind.wrap .i64 (Int.tdiv d16 (4 : Int)))) (QV.quo rfl rfl (by decide)) rfl rfl rfl ?_
        obtain ⟨h24, hm⟩ := guard_inv hm
        refine JL.val (v := .pointer (some ⟨b5, 0 + Int.toNat (IntKind.wrap .i64 (Int.tdiv d16 (4 : Int))) * 1, none⟩)) (QV.indexB Try.underlying98 tk_74 rfl rfl h24) rfl rfl rfl ?_
        refine JL.val (v := .int .u32 (gd (d12).l (IntKind.wrap .i64 (Int.tdiv d16 (4 : Int))))) (QV.ar1 (ss := [Seg.of (Enc.arr 8 (Enc.int .u32)) d12]) 1 0 rfl tk_74 rfl rfl rfl rfl h24 rfl) rfl rfl rfl ?_
        refine JL.val (v := .int .i64 d16) (QV.move rfl) rfl rfl rfl ?_
        refine JL.val (v := .int .i64 (Int.tmod d16 (4 : Int))) (QV.rem rfl rfl (by decide)) rfl rfl rfl ?_
        refine JL.val (v := .int .i64 (IntKind.wrap .i64 ((8 : Int) * (Int.tmod d16 (4 : Int))))) (QV.mul rfl rfl) rfl rfl rfl ?_
        refine JL.val (v := .int .i64 (IntKind.wrap .i64 ((24 : Int) - (IntKind.wrap .i64 ((8 : Int) * (Int.tmod d16 (4 : Int))))))) (QV.sub rfl rfl) rfl rfl rfl ?_
        obtain ⟨h25, hm⟩ := guard_inv hm
        refine JL.val (v := .int .u32 (shrI .u32 (gd (d12).l (IntKind.wrap .i64 (Int.tdiv d16 (4 : Int)))) (IntKind.wrap .i64 ((24 : Int) - (IntKind.wrap .i64 ((8 : Int) * (Int.tmod d16 (4 : Int)))))))) (QV.shr rfl rfl h25) rfl rfl rfl ?_
        refine JL.val (v := .int .u8 (IntKind.wrap .u8 (shrI .u32 (gd (d12).l (IntKind.wrap .i64 (Int.tdiv d16 (4 : Int)))) (IntKind.wrap .i64 ((24 : Int) - (IntKind.wrap .i64 ((8 : Int) * (Int.tmod d16 (4 : Int))))))))) (QV.conv rfl (by rw [Try.underlying74]; rfl) Try.underlying5) rfl rfl rfl ?_
        obtain ⟨h26, hm⟩ := guard_inv hm
        refine JL.val (v := .pointer (some ⟨b13, 0 + Int.toNat d16 * 1, none⟩)) (QV.indexB Try.underlying39 tk_5 rfl rfl h26) rfl rfl rfl ?_
        refine JL.mv (d := none) (MV.storeAr (ss := [Seg.of (Enc.arr 32 (Enc.int .u8)) d15]) 2 0 (IntKind.wrap .u8 (shrI .u32 (gd (d12).l (IntKind.wrap .i64 (Int.tdiv d16 (4 : Int)))) (IntKind.wrap .i64 ((24 : Int) - (IntKind.wrap .i64 ((8 : Int) * (Int.tmod d16 (4 : Int)))))))) rfl tk_5 rfl rfl rfl rfl h26 rfl rfl) rfl rfl rfl ?_
        rintro _ _ ⟨rfl, rfl⟩
        refine JL.nil ?_
        refine QJ.block_normal ?_
        refine QJ.then_normal ?_
        refine JC.region ?_
        refine JL.val (v := .int .i64 d16) (QV.move rfl) rfl rfl rfl ?_
        refine JL.val (v := .int .i64 (IntKind.wrap .i64 (d16 + (1 : Int)))) (QV.add rfl rfl) rfl rfl rfl ?_
        refine JL.val (v := .int .i64 (IntKind.wrap .i64 (d16 + (1 : Int)))) (QV.assign rfl) rfl rfl rfl ?_
        refine JL.nil ?_
        obtain rfl := Option.some.inj hm
        exact QJ.round_on ((Arr.set d15 d16 (IntKind.wrap .u8 (shrI .u32 (gd (d12).l (IntKind.wrap .i64 (Int.tdiv d16 (4 : Int)))) (IntKind.wrap .i64 ((24 : Int) - (IntKind.wrap .i64 ((8 : Int) * (Int.tmod d16 (4 : Int))))))))), (IntKind.wrap .i64 (d16 + (1 : Int)))) () [0, 1, 2] (by exact ⟨rfl, rfl, rfl, rfl, trivial⟩) rfl rfl
      ·
        refine JC.condF' rfl (decide_eq_false h23) ?_
        refine JC.exit ?_
        refine QJ.then_exit ?_
        obtain rfl := Option.some.inj hm
        refine QJ.round_exit (fun hy => ?_)
        subst hy
        refine QJ.block_hit ?_
        exact QJ.cut_normal (d15, ()) hmo21 [0, 2] (by exact ⟨rfl, rfl, trivial⟩) rfl rfl
  ·
    refine JC.block ?_
    obtain ⟨y31, hl32, hmo33⟩ := bind_inv hm
    refine JC.loop (F33.b2 y6 y9) (fun x z => match x, z with | (d27, d28), _ => [(2, .pointer (some ⟨b4, 0, none⟩)), (3, .pointer (some ⟨b5, 0, none⟩)), (4, .pointer (some ⟨b8, 0, none⟩)), (5, z11.v), (6, .int .i64 d28)]) (fun x z => match x, z with | (d27, d28), _ => [Asr.blk b4 39 [Seg.of (Enc.arr 32 (Enc.int .u8)) (Arr.rep 32 (0 : Int))], Asr.blk b5 98 [Seg.of (Enc.arr 8 (Enc.int .u32)) d27], Asr.blk b8 99 [Seg.of (Enc.arr 64 (Enc.int .u32)) y6], Asr.of 5 (Enc.int .u8) (z11.v) y9]) (K0, (0 : Int)) () y31 hl32 [3, 2, 1, 0] (by exact ⟨rfl, rfl, rfl, rfl, rfl, trivial⟩) rfl rfl ?_
    rintro ⟨d27, d28⟩ ⟨⟩ s34 hm
    unfold F33.b2 at hm
    dsimp only at hm
    show JC _ _ _ [(2, .pointer (some ⟨b4, 0, none⟩)), (3, .pointer (some ⟨b5, 0, none⟩)), (4, .pointer (some ⟨b8, 0, none⟩)), (5, z11.v), (6, .int .i64 d28)] [Asr.blk b4 39 [Seg.of (Enc.arr 32 (Enc.int .u8)) (Arr.rep 32 (0 : Int))], Asr.blk b5 98 [Seg.of (Enc.arr 8 (Enc.int .u32)) d27], Asr.blk b8 99 [Seg.of (Enc.arr 64 (Enc.int .u32)) y6], Asr.of 5 (Enc.int .u8) (z11.v) y9] _ _
    refine JC.seq ?_
    refine JC.seq ?_
    refine JC.region ?_
    refine JL.val (v := .int .i64 d28) (QV.move rfl) rfl rfl rfl ?_
    refine JL.val (v := z11.v) (QV.move rfl) rfl rfl rfl ?_
    refine JL.val (v := .int .i64 ((y9).length : Int)) (QV.len (Rdg.of 3 rfl) Try.underlying22 rfl) rfl rfl rfl ?_
    refine JL.val (v := .bool (decide (d28 < ((y9).length : Int)))) (QV.lss rfl rfl) rfl rfl rfl ?_
    refine JL.nil ?_
    refine QJ.then_normal ?_
    rcases ite_inv hm with ⟨h35, hm⟩ | ⟨h35, hm⟩
    ·
      refine JC.condT' rfl (decide_eq_true h35) ?_
      refine JC.skip ?_
      refine QJ.then_normal ?_
      refine JC.seq ?_
      refine JC.block ?_
      refine JC.regionT [Asr.blk b4 39 [Seg.of (Enc.arr 32 (Enc.int .u8)) (Arr.rep 32 (0 : Int))], Asr.blk b5 98 [Seg.of (Enc.arr 8 (Enc.int .u32)) d27], Asr.blk b8 99 [Seg.of (Enc.arr 64 (Enc.int .u32)) y6], Asr.of 5 (Enc.int .u8) (z11.v) y9] (fun t => Nat.beq t 8) [(0, true), (1, true), (2, true), (3, true), (4, true), (5, true), (6, false), (7, false), (8, false)] (by kernel_rfl) (by kernel_rfl) (by kernel_rfl) rfl (fun hsel => ?_)
      refine JT.take (i := 0) (v := .agg (((Enc.arr 8 (Enc.int .u32))).enc d27).toArray) hsel rfl (QV.eq (QV.loadN (ss := [Seg.of (Enc.arr 8 (Enc.int .u32)) d27]) 1 0 1 rfl tk_98 rfl rfl rfl rfl) rfl) rfl rfl rfl [0, 1, 2, 3] rfl rfl ?_
      refine JT.take (i := 1) (v := z11.v) hsel rfl (QV.move rfl) rfl rfl rfl [0, 1, 2, 3] rfl rfl ?_
      refine JT.take (i := 2) (v := .int .i64 d28) hsel rfl (QV.move rfl) rfl rfl rfl [0, 1, 2, 3] rfl rfl ?_
      refine JT.take (i := 3) (v := .int .i64 d28) hsel rfl (QV.move rfl) rfl rfl rfl [0, 1, 2, 3] rfl rfl ?_
      refine JT.take (i := 4) (v := .int .i64 (IntKind.wrap .i64 (d28 + (64 : Int)))) hsel rfl (QV.add rfl rfl) rfl rfl rfl [0, 1, 2, 3] rfl rfl ?_
      obtain ⟨h36, hm⟩ := guard_inv hm
      refine JT.take (i := 5) (v := (SlV.sub ((Enc.int .u8)).sz z11 d28 (IntKind.wrap .i64 (d28 + (64 : Int)))).v) hsel rfl (QV.sliceV (Rdg.of 3 rfl) Try.underlying22 tk_5 rfl rfl rfl h36) rfl rfl rfl [0, 1, 2, 3] rfl rfl ?_
      refine JT.only (i := 6) (d := some 25) rfl (MV.ofQV (v := .agg (((Enc.arr 64 (Enc.int .u32))).enc y6).toArray) (QV.eq (QV.loadN (ss := [Seg.of (Enc.arr 64 (Enc.int .u32)) y6]) 2 0 1 rfl tk_99 rfl rfl rfl rfl) rfl)) rfl rfl rfl ?_
      rintro _ _ ⟨rfl, rfl⟩
      refine ⟨fun _ => ⟨[0, 1, 2, 3], rfl, rfl⟩, ?_⟩
      obtain ⟨y37, hc38, hm⟩ := bind_inv hm
      refine JT.only (i := 7) (d := some 26) rfl (MV.call (Lo := []) (Lr := [Asr.blk b4 39 [Seg.of (Enc.arr 32 (Enc.int .u8)) (Arr.rep 32 (0 : Int))], Asr.blk b5 98 [Seg.of (Enc.arr 8 (Enc.int .u32)) d27], Asr.blk b8 99 [Seg.of (Enc.arr 64 (Enc.int .u32)) y6], Asr.of 5 (Enc.int .u8) (z11.v) y9]) (F74.spec ((SlV.sub ((Enc.int .u8)).sz z11 d28 (IntKind.wrap .i64 (d28 + (64 : Int))))) (d27) ((subL y9 d28 (IntKind.wrap .i64 (d28 + (64 : Int))))) (y6) _ hc38) rfl Try.func74 rfl rfl rfl [] [0, 1, 2, 3] rfl rfl rfl ⟨((Drv.of 3 rfl).subV h36), trivial⟩) rfl rfl rfl ?_
      rintro _ _ ⟨_, ⟨rfl, rfl⟩, rfl⟩
      refine ⟨fun _ => ⟨[0, 1, 2, 3], rfl, rfl⟩, ?_⟩
      refine JT.only (i := 8) (d := none) rfl (MV.store (ss := [Seg.of (Enc.arr 8 (Enc.int .u32)) d27]) 1 0 1 [Seg.of (Enc.arr 8 (Enc.int .u32)) y37] rfl tk_98 rfl rfl rfl rfl (fun w hs => ⟨rfl, one_of _ _, trivial⟩)) rfl rfl rfl ?_
      rintro _ _ ⟨rfl, rfl⟩
      refine ⟨fun h => absurd h (by decide), ?_⟩
      refine JT.nil ?_
      refine QJ.block_normal ?_
      refine QJ.then_normal ?_
      refine JC.region ?_
      refine JL.val (v := .int .i64 d28) (QV.move rfl) rfl rfl rfl ?_
      refine JL.val (v := .int .i64 (IntKind.wrap .i64 (d28 + (64 : Int)))) (QV.add rfl rfl) rfl rfl rfl ?_
      refine JL.val (v := .int .i64 (IntKind.wrap .i64 (d28 + (64 : Int)))) (QV.assign rfl) rfl rfl rfl ?_
      refine JL.nil ?_
      obtain rfl := Option.some.inj hm
      exact QJ.round_on (y37, (IntKind.wrap .i64 (d28 + (64 : Int)))) () [0, 1, 2, 3] (by exact ⟨rfl, rfl, rfl, rfl, rfl, trivial⟩) rfl rfl
    ·
      refine JC.condF' rfl (decide_eq_false h35) ?_
      refine JC.exit ?_
      refine QJ.then_exit ?_
      obtain rfl := Option.some.inj hm
      refine QJ.round_exit (fun hy => ?_)
      subst hy
      refine QJ.block_hit ?_
      exact QJ.cut_normal (d27, ()) hmo33 [0, 1] (by exact ⟨rfl, rfl, trivial⟩) rfl rfl

/-! ### 37: drogher/drogherref01.Join -/
noncomputable def F37.j1  (d8 : List Int) : Option (List Int) :=
  some d8
noncomputable def F37.b1 (x2 : List (List Int)) : (List Int × Int) → Option ((List Int × Int) ⊕ (List Int))
  | (d10, d11) => (if d11 < ((x2).length : Int) then (if 0 ≤ d11 ∧ d11 < ((x2).length : Int) then (if ((d10).length + ((gd x2 d11)).length) * 1 ≤ 140737488355328 ∧ (d10).length + ((gd x2 d11)).length ≤ 9223372036854775807 then some (.inl ((d10 ++ (gd x2 d11)), (IntKind.wrap .i64 (d11 + (1 : Int))))) else none) else none) else some (.inr d10))
noncomputable def F37.m (x2 : List (List Int)) : Option (List Int) :=
  ((loop (F37.b1 x2) (([] : List Int), (0 : Int))).bind fun y => match y with | d8 => F37.j1 (d8))
set_option maxRecDepth 100000 in
set_option maxHeartbeats 4000000 in
theorem F37.spec (s1 : SlV) (z3 : List SlV) (x2 : List (List Int)) (r : (List Int)) (hm : F37.m x2 = some r) :
    Ctr Try.prog false 37 [s1.v] [Asr.vn (NE.sl (Enc.int .u8)) (s1.v) z3 x2] (fun v L' => ∃ (g4 : SlV), v = g4.v ∧ L' = [Asr.of 5 (Enc.int .u8) (g4.v) r]) := by
  refine Ctr.intro (n := 19) (env := [(0, s1.v)]) Try.func37 rfl rfl rfl rfl (fun c => ?_)
  unfold F37.m at hm
  refine JC.seq ?_
  refine JC.region ?_
  refine JL.ent (fun _ hs => hs.nil 5 (Enc.int .u8)) ?_
  refine JL.val (v := SlV.nil.v) (QV.assign rfl) rfl rfl rfl ?_
  refine JL.nil ?_
  refine QJ.then_normal ?_
  refine JC.seq ?_
  refine JC.region ?_
  refine JL.mv (d := some 5) (MV.lit0 (Enc.int .u8) Try.underlying22 (by kernel_rfl)) rfl rfl rfl ?_
  rintro _ _ ⟨z6, rfl, rfl⟩
  refine JL.val (v := z6.v) (QV.assign rfl) rfl rfl rfl ?_
  refine JL.nil ?_
  refine QJ.then_normal ?_
  refine JC.seq ?_
  refine JC.seq ?_
  refine JC.region ?_
  refine JL.val (v := s1.v) (QV.move rfl) rfl rfl rfl ?_
  refine JL.val (v := .int .i64 ((x2).length : Int)) (QV.lenN (RdN.vn 2 rfl) Try.underlying50 rfl) rfl rfl rfl ?_
  refine JL.val (v := .int .i64 (0 : Int)) (QV.move rfl) rfl rfl rfl ?_
  refine JL.nil ?_
  refine QJ.then_normal ?_
  refine JC.cutK (Y := (List Int) × SlV) (fun y => match y with | (d8, _) => F37.j1 (d8) = some r) (fun y => match y with | (d8, z7) => [(3, z7.v)]) (fun y => match y with | (d8, z7) => [Asr.of 5 (Enc.int .u8) (z7.v) d8]) ?_ ?_
  ·
    rintro ⟨d8, z7⟩ hm
    unfold F37.j1 at hm
    show QJ _ _ [(3, z7.v)] [Asr.of 5 (Enc.int .u8) (z7.v) d8] _ _
    refine QJ.then_normal ?_
    refine JC.seq ?_
    refine JC.region ?_
    refine JL.val (v := z7.v) (QV.move rfl) rfl rfl rfl ?_
    refine JL.val (v := z7.v) (QV.assign rfl) rfl rfl rfl ?_
    refine JL.nil ?_
    refine QJ.then_normal ?_
    refine JC.ret ?_
    obtain rfl := Option.some.inj hm
    exact QJ.body (vs := [z7.v]) (.inl rfl) rfl (ResVs.cons (ResV.tmp rfl) ResVs.nil) [0] rfl rfl (.inr ⟨own_of _ _ _ _, trivial⟩) ⟨z7, rfl, rfl⟩
  ·
    refine JC.block ?_
    obtain ⟨y15, hl16, hmo17⟩ := bind_inv hm
    refine JC.loop (F37.b1 x2) (fun x z => match x, z with | (d10, d11), z9 => [(0, s1.v), (3, z9.v), (7, .int .i64 ((x2).length : Int)), (8, .int .i64 d11)]) (fun x z => match x, z with | (d10, d11), z9 => [Asr.vn (NE.sl (Enc.int .u8)) (s1.v) z3 x2, Asr.of 5 (Enc.int .u8) (z9.v) d10]) (([] : List Int), (0 : Int)) z6 y15 hl16 [2, 0] (by exact ⟨rfl, rfl, rfl, rfl, trivial⟩) rfl rfl ?_
    rintro ⟨d10, d11⟩ z9 s18 hm
    unfold F37.b1 at hm
    dsimp only at hm
    show JC _ _ _ [(0, s1.v), (3, z9.v), (7, .int .i64 ((x2).length : Int)), (8, .int .i64 d11)] [Asr.vn (NE.sl (Enc.int .u8)) (s1.v) z3 x2, Asr.of 5 (Enc.int .u8) (z9.v) d10] _ _
    refine JC.seq ?_
    refine JC.region ?_
    refine JL.val (v := .bool (decide (d11 < ((x2).length : Int)))) (QV.lss rfl rfl) rfl rfl rfl ?_
    refine JL.nil ?_
    refine QJ.then_normal ?_
    refine JC.seq ?_
    rcases ite_inv hm with ⟨h19, hm⟩ | ⟨h19, hm⟩
    ·
      refine JC.condT' rfl (decide_eq_true h19) ?_
      refine JC.skip ?_
      refine QJ.then_normal ?_
      refine JC.seq ?_
      refine JC.block ?_
      refine JC.seq ?_
      refine JC.region ?_
      refine JL.val (v := .int .i64 d11) (QV.move rfl) rfl rfl rfl ?_
      refine JL.val (v := .int .i64 d11) (QV.assign rfl) rfl rfl rfl ?_
      refine JL.nil ?_
      refine QJ.then_normal ?_
      refine JC.region ?_
      refine JL.val (v := z9.v) (QV.move rfl) rfl rfl rfl ?_
      refine JL.val (v := s1.v) (QV.move rfl) rfl rfl rfl ?_
      refine JL.val (v := .int .i64 d11) (QV.move rfl) rfl rfl rfl ?_
      obtain ⟨h20, hm⟩ := guard_inv hm
      refine JL.val (v := .pointer (some (elA (s1.v) (Int.toNat d11 * ((NE.sl (Enc.int .u8)).E).sz)))) (QV.indexN (RdN.vn 0 rfl) Try.underlying50 tk_22 rfl rfl h20) rfl rfl rfl ?_
      refine JL.val (v := (gd z3 d11).v) (QV.el1N (RdN.vn 0 rfl) tk_22 rfl h20 rfl) rfl rfl rfl ?_
      obtain ⟨h21, hm⟩ := guard_inv hm
      refine JL.mv (d := some 16) (MV.append 1 rfl (Rdg.ofDrv (Drv.el (K := (NE.sl (Enc.int .u8))) (A := Asr.vw (Enc.int .u8) ((gd z3 d11).v) (gd x2 d11)) (Drv.vn 0 rfl) h20 (fun _ _ q => q))) Try.underlying22 zi_5 rfl (by decide) rfl rfl h21) rfl rfl rfl ?_
      rintro _ _ ⟨z22, rfl, rfl⟩
      refine JL.val (v := z22.v) (QV.assign rfl) rfl rfl rfl ?_
      refine JL.nil ?_
      refine QJ.block_normal ?_
      refine QJ.then_normal ?_
      refine JC.region ?_
      refine JL.val (v := .int .i64 (IntKind.wrap .i64 (d11 + (1 : Int)))) (QV.add rfl rfl) rfl rfl rfl ?_
      refine JL.val (v := .int .i64 (IntKind.wrap .i64 (d11 + (1 : Int)))) (QV.move rfl) rfl rfl rfl ?_
      refine JL.nil ?_
      obtain rfl := Option.some.inj hm
      exact QJ.round_on ((d10 ++ (gd x2 d11)), (IntKind.wrap .i64 (d11 + (1 : Int)))) z22 [0, 1] (by exact ⟨rfl, rfl, rfl, rfl, trivial⟩) rfl rfl
    ·
      refine JC.condF' rfl (decide_eq_false h19) ?_
      refine JC.exit ?_
      refine QJ.then_exit ?_
      obtain rfl := Option.some.inj hm
      refine QJ.round_exit (fun hy => ?_)
      subst hy
      refine QJ.block_hit ?_
      exact QJ.cut_normal (d10, z9) hmo17 [1] (by exact ⟨rfl, trivial⟩) rfl rfl

end Go.Proofs.Ytmedbpiapeiobaa
