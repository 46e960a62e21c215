/- Written by gen.py: functions and their contracts. -/
import Derived.Test.YtmedbpiapeiobaaOts
namespace Go.Proofs.Ytmedbpiapeiobaa
open Go Go.Eng Go.Proofs
set_option linter.unusedVariables false
set_option linter.unusedSimpArgs false
/-! ### 63: drogher/drogherref03.Public -/
noncomputable def F63.j1 (x2 : (Arr Int 16)) (x3 : Int) (d15 : List Int) : Option ((Arr Int 32) × Int) :=
  ((F88.m (x2) (x3) (d15)).bind fun y16 => some (y16, (0 : Int)))
noncomputable def F63.j2 (d19 : List Int) (d20 : Int) (y35 : (Arr Int 32))  : Option ((List Int × Int) ⊕ (List Int)) :=
  (if ((d19).length + ((subL (y35).l (0 : Int) ((32 : Nat) : Int))).length) * 1 ≤ 140737488355328 ∧ (d19).length + ((subL (y35).l (0 : Int) ((32 : Nat) : Int))).length ≤ 9223372036854775807 then some (.inl ((d19 ++ (subL (y35).l (0 : Int) ((32 : Nat) : Int))), (IntKind.wrap .i64 (d20 + (1 : Int))))) else none)
noncomputable def F63.b1 (x1 : Int) (x2 : (Arr Int 16)) (x3 : Int) (x4 : (Arr Int 32)) : (List Int × Int) → Option ((List Int × Int) ⊕ (List Int))
  | (d19, d20) => ((F57.m (x1)).bind fun y28 => (if d20 < y28 then ((F86.m (x1)).bind fun y31 => ((F87.m (x2) (x3) (d20) (x4)).bind fun y33 => ((F85.m (x2) (x3) (d20) ((0 : Int)) (y31) (y33)).bind fun y35 => F63.j2 d19 d20 y35))) else some (.inr d19)))
noncomputable def F63.m (x1 : Int) (x2 : (Arr Int 16)) (x3 : Int) (x4 : (Arr Int 32)) : Option ((Arr Int 32) × Int) :=
  ((F59.m (x1)).bind fun y10 => (if y10 = (0 : Int) then some (K3, (21 : Int)) else ((loop (F63.b1 x1 x2 x3 x4) (([] : List Int), (0 : Int))).bind fun y => match y with | d15 => F63.j1 x2 x3 (d15))))
set_option maxRecDepth 100000 in
set_option maxHeartbeats 4000000 in
theorem F63.spec (x1 : Int) (x2 : (Arr Int 16)) (x3 : Int) (x4 : (Arr Int 32)) (r : ((Arr Int 32) × Int)) (hm : F63.m x1 x2 x3 x4 = some r) :
    Ctr Try.prog false 63 [.int .u32 x1, .agg (((Enc.arr 16 (Enc.int .u8))).enc x2).toArray, .int .u32 x3, .agg (((Enc.arr 32 (Enc.int .u8))).enc x4).toArray] [] (fun v L' => v = .tuple #[.agg (((Enc.arr 32 (Enc.int .u8))).enc r.1).toArray, .int .i64 r.2] ∧ L' = []) := by
  refine Ctr.intro (n := 42) (env := [(0, .int .u32 x1), (1, .agg (((Enc.arr 16 (Enc.int .u8))).enc x2).toArray), (2, .int .u32 x3), (3, .agg (((Enc.arr 32 (Enc.int .u8))).enc x4).toArray)]) Try.func63 rfl rfl rfl rfl (fun c => ?_)
  unfold F63.m at hm
  refine JC.seq ?_
  refine JC.region ?_
  refine JL.mv (d := some 5) (MV.box [Seg.of (Enc.arr 16 (Enc.int .u8)) x2] rfl (fun w hs => rfl)) rfl rfl rfl ?_
  rintro _ _ ⟨b7, rfl, rfl⟩
  refine JL.mv (d := some 7) (MV.box [Seg.of (Enc.arr 32 (Enc.int .u8)) x4] rfl (fun w hs => rfl)) rfl rfl rfl ?_
  rintro _ _ ⟨b8, rfl, rfl⟩
  refine JL.mv (d := some 8) (MV.alloc [Seg.of (Enc.arr 32 (Enc.int .u8)) (Arr.rep 32 (0 : Int))] z_39 rfl) rfl rfl rfl ?_
  rintro _ _ ⟨b9, rfl, rfl⟩
  refine JL.val (v := .int .i64 (0 : Int)) (QV.assign rfl) rfl rfl rfl ?_
  refine JL.nil ?_
  refine QJ.then_normal ?_
  refine JC.seq ?_
  refine JC.seq ?_
  refine JC.region ?_
  refine JL.val (v := .int .u32 x1) (QV.move rfl) rfl rfl rfl ?_
  obtain ⟨y10, hc11, hm⟩ := bind_inv hm
  refine JL.mv (d := some 14) (MV.call (Lo := []) (Lr := [Asr.blk b9 39 [Seg.of (Enc.arr 32 (Enc.int .u8)) (Arr.rep 32 (0 : Int))], Asr.blk b8 39 [Seg.of (Enc.arr 32 (Enc.int .u8)) x4], Asr.blk b7 75 [Seg.of (Enc.arr 16 (Enc.int .u8)) x2]]) (F59.spec (x1) _ hc11) rfl Try.func59 rfl rfl rfl [] [0, 1, 2] rfl rfl rfl trivial) rfl rfl rfl ?_
  rintro _ _ ⟨_, ⟨rfl, rfl⟩, rfl⟩
  refine JL.val (v := .bool (decide (y10 = (0 : Int)))) (QV.eql rfl rfl) rfl rfl rfl ?_
  refine JL.nil ?_
  refine QJ.then_normal ?_
  rcases ite_inv hm with ⟨h12, hm⟩ | ⟨h12, hm⟩
  ·
    refine JC.condT' rfl (decide_eq_true h12) ?_
    refine JC.seq ?_
    refine JC.region ?_
    refine JL.val (v := .agg (((Enc.arr 32 (Enc.int .u8))).enc K3).toArray) (QV.build (vals := []) (cells := ((Enc.arr 32 (Enc.int .u8)).enc K3).toArray) rfl (by kernel_rfl)) rfl rfl rfl ?_
    refine JL.mv (d := none) (MV.store (ss := [Seg.of (Enc.arr 32 (Enc.int .u8)) (Arr.rep 32 (0 : Int))]) 0 0 1 [Seg.of (Enc.arr 32 (Enc.int .u8)) K3] rfl tk_39 rfl rfl rfl rfl (fun w hs => ⟨rfl, one_of _ _, trivial⟩)) rfl rfl rfl ?_
    rintro _ _ ⟨rfl, rfl⟩
    refine JL.val (v := .int .i64 (21 : Int)) (QV.assign rfl) rfl rfl rfl ?_
    refine JL.nil ?_
    refine QJ.then_normal ?_
    refine JC.ret ?_
    refine QJ.then_ret ?_
    obtain rfl := Option.some.inj hm
    exact QJ.body (vs := [.agg (((Enc.arr 32 (Enc.int .u8))).enc K3).toArray, .int .i64 (21 : Int)]) (.inl rfl) rfl (ResVs.cons (ResV.cell (d := none) (ty := 0) (ps := "") (af := #[]) (g := none) rfl (QV.eq (QV.loadN (ss := [Seg.of (Enc.arr 32 (Enc.int .u8)) K3]) 0 0 1 rfl tk_39 rfl rfl rfl rfl) rfl)) (ResVs.cons (ResV.tmp rfl) ResVs.nil)) [] rfl rfl (.inr trivial) ⟨rfl, rfl⟩
  ·
    refine JC.condF' rfl (decide_eq_false h12) ?_
    refine JC.skip ?_
    refine QJ.then_normal ?_
    refine JC.seq ?_
    refine JC.region ?_
    refine JL.mv (d := some 17) (MV.lit0 (Enc.int .u8) Try.underlying22 (by kernel_rfl)) rfl rfl rfl ?_
    rintro _ _ ⟨z13, rfl, rfl⟩
    refine JL.val (v := z13.v) (QV.assign rfl) rfl rfl rfl ?_
    refine JL.nil ?_
    refine QJ.then_normal ?_
    refine JC.seq ?_
    refine JC.seq ?_
    refine JC.region ?_
    refine JL.val (v := .int .i64 (0 : Int)) (QV.assign rfl) rfl rfl rfl ?_
    refine JL.nil ?_
    refine QJ.then_normal ?_
    refine JC.cutK (Y := (List Int) × SlV) (fun y => match y with | (d15, _) => F63.j1 x2 x3 (d15) = some r) (fun y => match y with | (d15, z14) => [(2, .int .u32 x3), (5, .pointer (some ⟨b7, 0, none⟩)), (8, .pointer (some ⟨b9, 0, none⟩)), (10, z14.v)]) (fun y => match y with | (d15, z14) => [Asr.blk b7 75 [Seg.of (Enc.arr 16 (Enc.int .u8)) x2], Asr.blk b9 39 [Seg.of (Enc.arr 32 (Enc.int .u8)) (Arr.rep 32 (0 : Int))], Asr.of 5 (Enc.int .u8) (z14.v) d15]) ?_ ?_
    ·
      rintro ⟨d15, z14⟩ hm
      unfold F63.j1 at hm
      show QJ _ _ [(2, .int .u32 x3), (5, .pointer (some ⟨b7, 0, none⟩)), (8, .pointer (some ⟨b9, 0, none⟩)), (10, z14.v)] [Asr.blk b7 75 [Seg.of (Enc.arr 16 (Enc.int .u8)) x2], Asr.blk b9 39 [Seg.of (Enc.arr 32 (Enc.int .u8)) (Arr.rep 32 (0 : Int))], Asr.of 5 (Enc.int .u8) (z14.v) d15] _ _
      refine QJ.then_normal ?_
      refine JC.seq ?_
      refine JC.region ?_
      refine JL.val (v := .agg (((Enc.arr 16 (Enc.int .u8))).enc x2).toArray) (QV.eq (QV.loadN (ss := [Seg.of (Enc.arr 16 (Enc.int .u8)) x2]) 0 0 1 rfl tk_75 rfl rfl rfl rfl) rfl) rfl rfl rfl ?_
      refine JL.val (v := .int .u32 x3) (QV.move rfl) rfl rfl rfl ?_
      refine JL.val (v := z14.v) (QV.move rfl) rfl rfl rfl ?_
      obtain ⟨y16, hc17, hm⟩ := bind_inv hm
      refine JL.mv (d := some 41) (MV.call (Lo := []) (Lr := [Asr.blk b7 75 [Seg.of (Enc.arr 16 (Enc.int .u8)) x2], Asr.blk b9 39 [Seg.of (Enc.arr 32 (Enc.int .u8)) (Arr.rep 32 (0 : Int))], Asr.of 5 (Enc.int .u8) (z14.v) d15]) (F88.spec (z14) (x2) (x3) (d15) _ hc17) rfl Try.func88 rfl rfl rfl [] [0, 1, 2] rfl rfl rfl ⟨(Drv.of 2 rfl), trivial⟩) rfl rfl rfl ?_
      rintro _ _ ⟨_, ⟨rfl, rfl⟩, rfl⟩
      refine JL.mv (d := none) (MV.store (ss := [Seg.of (Enc.arr 32 (Enc.int .u8)) (Arr.rep 32 (0 : Int))]) 1 0 1 [Seg.of (Enc.arr 32 (Enc.int .u8)) y16] rfl tk_39 rfl rfl rfl rfl (fun w hs => ⟨rfl, one_of _ _, trivial⟩)) rfl rfl rfl ?_
      rintro _ _ ⟨rfl, rfl⟩
      refine JL.val (v := .int .i64 (0 : Int)) (QV.assign rfl) rfl rfl rfl ?_
      refine JL.nil ?_
      refine QJ.then_normal ?_
      refine JC.ret ?_
      obtain rfl := Option.some.inj hm
      exact QJ.body (vs := [.agg (((Enc.arr 32 (Enc.int .u8))).enc y16).toArray, .int .i64 (0 : Int)]) (.inl rfl) rfl (ResVs.cons (ResV.cell (d := none) (ty := 0) (ps := "") (af := #[]) (g := none) rfl (QV.eq (QV.loadN (ss := [Seg.of (Enc.arr 32 (Enc.int .u8)) y16]) 1 0 1 rfl tk_39 rfl rfl rfl rfl) rfl)) (ResVs.cons (ResV.tmp rfl) ResVs.nil)) [] rfl rfl (.inr trivial) ⟨rfl, rfl⟩
    ·
      refine JC.block ?_
      obtain ⟨y24, hl25, hmo26⟩ := bind_inv hm
      refine JC.loop (F63.b1 x1 x2 x3 x4) (fun x z => match x, z with | (d19, d20), z18 => [(0, .int .u32 x1), (2, .int .u32 x3), (5, .pointer (some ⟨b7, 0, none⟩)), (7, .pointer (some ⟨b8, 0, none⟩)), (8, .pointer (some ⟨b9, 0, none⟩)), (10, z18.v), (11, .int .i64 d20)]) (fun x z => match x, z with | (d19, d20), z18 => [Asr.blk b7 75 [Seg.of (Enc.arr 16 (Enc.int .u8)) x2], Asr.blk b8 39 [Seg.of (Enc.arr 32 (Enc.int .u8)) x4], Asr.blk b9 39 [Seg.of (Enc.arr 32 (Enc.int .u8)) (Arr.rep 32 (0 : Int))], Asr.of 5 (Enc.int .u8) (z18.v) d19]) (([] : List Int), (0 : Int)) z13 y24 hl25 [3, 2, 1, 0] (by exact ⟨rfl, rfl, rfl, rfl, rfl, rfl, rfl, trivial⟩) rfl rfl ?_
      rintro ⟨d19, d20⟩ z18 s27 hm
      unfold F63.b1 at hm
      dsimp only at hm
      show JC _ _ _ [(0, .int .u32 x1), (2, .int .u32 x3), (5, .pointer (some ⟨b7, 0, none⟩)), (7, .pointer (some ⟨b8, 0, none⟩)), (8, .pointer (some ⟨b9, 0, none⟩)), (10, z18.v), (11, .int .i64 d20)] [Asr.blk b7 75 [Seg.of (Enc.arr 16 (Enc.int .u8)) x2], Asr.blk b8 39 [Seg.of (Enc.arr 32 (Enc.int .u8)) x4], Asr.blk b9 39 [Seg.of (Enc.arr 32 (Enc.int .u8)) (Arr.rep 32 (0 : Int))], Asr.of 5 (Enc.int .u8) (z18.v) d19] _ _
      refine JC.seq ?_
      refine JC.seq ?_
      refine JC.region ?_
      refine JL.val (v := .int .i64 d20) (QV.move rfl) rfl rfl rfl ?_
      refine JL.val (v := .int .u32 x1) (QV.move rfl) rfl rfl rfl ?_
      obtain ⟨y28, hc29, hm⟩ := bind_inv hm
      refine JL.mv (d := some 20) (MV.call (Lo := []) (Lr := [Asr.blk b7 75 [Seg.of (Enc.arr 16 (Enc.int .u8)) x2], Asr.blk b8 39 [Seg.of (Enc.arr 32 (Enc.int .u8)) x4], Asr.blk b9 39 [Seg.of (Enc.arr 32 (Enc.int .u8)) (Arr.rep 32 (0 : Int))], Asr.of 5 (Enc.int .u8) (z18.v) d19]) (F57.spec (x1) _ hc29) rfl Try.func57 rfl rfl rfl [] [0, 1, 2, 3] rfl rfl rfl trivial) rfl rfl rfl ?_
      rintro _ _ ⟨_, ⟨rfl, rfl⟩, rfl⟩
      refine JL.val (v := .bool (decide (d20 < y28))) (QV.lss rfl rfl) rfl rfl rfl ?_
      refine JL.nil ?_
      refine QJ.then_normal ?_
      rcases ite_inv hm with ⟨h30, hm⟩ | ⟨h30, hm⟩
      ·
        refine JC.condT' rfl (decide_eq_true h30) ?_
        refine JC.skip ?_
        refine QJ.then_normal ?_
        refine JC.seq ?_
        refine JC.block ?_
        refine JC.seq ?_
        obtain ⟨y31, hc32, hm⟩ := bind_inv hm
        obtain ⟨y33, hc34, hm⟩ := bind_inv hm
        obtain ⟨y35, hc36, hm⟩ := bind_inv hm
        refine JC.cutK (Y := Unit × Nat) (fun y => match y with | (_, _) => F63.j2 d19 d20 y35 = some s27) (fun y => match y with | (_, z38) => [(0, .int .u32 x1), (2, .int .u32 x3), (5, .pointer (some ⟨b7, 0, none⟩)), (7, .pointer (some ⟨b8, 0, none⟩)), (8, .pointer (some ⟨b9, 0, none⟩)), (10, z18.v), (11, .int .i64 d20), (12, .pointer (some ⟨z38, 0, none⟩))]) (fun y => match y with | (_, z38) => [Asr.blk b7 75 [Seg.of (Enc.arr 16 (Enc.int .u8)) x2], Asr.blk b8 39 [Seg.of (Enc.arr 32 (Enc.int .u8)) x4], Asr.blk b9 39 [Seg.of (Enc.arr 32 (Enc.int .u8)) (Arr.rep 32 (0 : Int))], Asr.of 5 (Enc.int .u8) (z18.v) d19, Asr.blk z38 39 [Seg.of (Enc.arr 32 (Enc.int .u8)) y35]]) ?_ ?_
        ·
          rintro ⟨⟨⟩, z38⟩ hm
          unfold F63.j2 at hm
          show QJ _ _ [(0, .int .u32 x1), (2, .int .u32 x3), (5, .pointer (some ⟨b7, 0, none⟩)), (7, .pointer (some ⟨b8, 0, none⟩)), (8, .pointer (some ⟨b9, 0, none⟩)), (10, z18.v), (11, .int .i64 d20), (12, .pointer (some ⟨z38, 0, none⟩))] [Asr.blk b7 75 [Seg.of (Enc.arr 16 (Enc.int .u8)) x2], Asr.blk b8 39 [Seg.of (Enc.arr 32 (Enc.int .u8)) x4], Asr.blk b9 39 [Seg.of (Enc.arr 32 (Enc.int .u8)) (Arr.rep 32 (0 : Int))], Asr.of 5 (Enc.int .u8) (z18.v) d19, Asr.blk z38 39 [Seg.of (Enc.arr 32 (Enc.int .u8)) y35]] _ _
          refine QJ.then_normal ?_
          refine JC.region ?_
          refine JL.val (v := z18.v) (QV.move rfl) rfl rfl rfl ?_
          refine JL.val (v := (SlV.sub ((Enc.int .u8)).sz (SlV.mk (some ⟨z38, 0, none⟩) 32 32) (0 : Int) ((32 : Nat) : Int)).v) (QV.sliceB Try.underlying39 tk_5 rfl rfl rfl (by decide)) rfl rfl rfl ?_
          obtain ⟨h39, hm⟩ := guard_inv hm
          refine JL.mv (d := some 37) (MV.append 3 rfl (Rdg.ofDrv ((Drv.arr (ss := [Seg.of (Enc.arr 32 (Enc.int .u8)) y35]) 4 0 rfl rfl rfl rfl).subV (by rw [Arr.h]; exact (show 0 ≤ (0 : Int) ∧ (0 : Int) ≤ ((32 : Nat) : Int) ∧ ((32 : Nat) : Int) ≤ ((32 : Nat) : Int) from by decide)))) Try.underlying22 zi_5 rfl (by decide) rfl rfl h39) rfl rfl rfl ?_
          rintro _ _ ⟨z40, rfl, rfl⟩
          refine JL.val (v := z40.v) (QV.assign rfl) rfl rfl rfl ?_
          refine JL.nil ?_
          refine QJ.block_normal ?_
          refine QJ.then_normal ?_
          refine JC.region ?_
          refine JL.val (v := .int .i64 d20) (QV.move rfl) rfl rfl rfl ?_
          refine JL.val (v := .int .i64 (IntKind.wrap .i64 (d20 + (1 : Int)))) (QV.add rfl rfl) rfl rfl rfl ?_
          refine JL.val (v := .int .i64 (IntKind.wrap .i64 (d20 + (1 : Int)))) (QV.assign rfl) rfl rfl rfl ?_
          refine JL.nil ?_
          obtain rfl := Option.some.inj hm
          exact QJ.round_on ((d19 ++ (subL (y35).l (0 : Int) ((32 : Nat) : Int))), (IntKind.wrap .i64 (d20 + (1 : Int)))) z40 [0, 1, 2, 3] (by exact ⟨rfl, rfl, rfl, rfl, rfl, rfl, rfl, trivial⟩) rfl rfl
        ·
          refine JC.regionU [Asr.blk b7 75 [Seg.of (Enc.arr 16 (Enc.int .u8)) x2], Asr.blk b8 39 [Seg.of (Enc.arr 32 (Enc.int .u8)) x4], Asr.blk b9 39 [Seg.of (Enc.arr 32 (Enc.int .u8)) (Arr.rep 32 (0 : Int))], Asr.of 5 (Enc.int .u8) (z18.v) d19] (fun _ => false) 13 rfl (by kernel_rfl) (by kernel_rfl) (fun hsel => ?_)
          refine JU.take (i := 0) (v := .agg (((Enc.arr 16 (Enc.int .u8))).enc x2).toArray) hsel rfl (by kernel_rfl) (QV.eq (QV.loadN (ss := [Seg.of (Enc.arr 16 (Enc.int .u8)) x2]) 0 0 1 rfl tk_75 rfl rfl rfl rfl) rfl) rfl rfl rfl [0, 1, 2, 3] rfl rfl ?_
          refine JU.take (i := 1) (v := .int .u32 x3) hsel rfl (by kernel_rfl) (QV.move rfl) rfl rfl rfl [0, 1, 2, 3] rfl rfl ?_
          refine JU.take (i := 2) (v := .int .i64 d20) hsel rfl (by kernel_rfl) (QV.move rfl) rfl rfl rfl [0, 1, 2, 3] rfl rfl ?_
          refine JU.take (i := 3) (v := .int .u32 x1) hsel rfl (by kernel_rfl) (QV.move rfl) rfl rfl rfl [0, 1, 2, 3] rfl rfl ?_
          refine JU.take (i := 5) (v := .agg (((Enc.arr 16 (Enc.int .u8))).enc x2).toArray) hsel rfl (by kernel_rfl) (QV.eq (QV.loadN (ss := [Seg.of (Enc.arr 16 (Enc.int .u8)) x2]) 0 0 1 rfl tk_75 rfl rfl rfl rfl) rfl) rfl rfl rfl [0, 1, 2, 3] rfl rfl ?_
          refine JU.take (i := 6) (v := .int .u32 x3) hsel rfl (by kernel_rfl) (QV.move rfl) rfl rfl rfl [0, 1, 2, 3] rfl rfl ?_
          refine JU.take (i := 7) (v := .int .i64 d20) hsel rfl (by kernel_rfl) (QV.move rfl) rfl rfl rfl [0, 1, 2, 3] rfl rfl ?_
          refine JU.take (i := 8) (v := .agg (((Enc.arr 32 (Enc.int .u8))).enc x4).toArray) hsel rfl (by kernel_rfl) (QV.eq (QV.loadN (ss := [Seg.of (Enc.arr 32 (Enc.int .u8)) x4]) 1 0 1 rfl tk_39 rfl rfl rfl rfl) rfl) rfl rfl rfl [0, 1, 2, 3] rfl rfl ?_
          refine JU.any [4, 11] (by kernel_rfl) rfl ?_
          refine ⟨?_, ?_, trivial⟩
          ·
            refine JUo.mv (d := some 28) rfl (MV.call (Lo := []) (Lr := [Asr.blk b7 75 [Seg.of (Enc.arr 16 (Enc.int .u8)) x2], Asr.blk b8 39 [Seg.of (Enc.arr 32 (Enc.int .u8)) x4], Asr.blk b9 39 [Seg.of (Enc.arr 32 (Enc.int .u8)) (Arr.rep 32 (0 : Int))], Asr.of 5 (Enc.int .u8) (z18.v) d19]) (F86.spec (x1) _ hc32) rfl Try.func86 rfl rfl rfl [] [0, 1, 2, 3] rfl rfl rfl trivial) rfl rfl rfl ?_
            rintro _ _ ⟨_, ⟨rfl, rfl⟩, rfl⟩
            refine ⟨fun _ => ⟨[0, 1, 2, 3], rfl, rfl⟩, ?_⟩
            refine JU.any [9, 11] (by kernel_rfl) rfl ?_
            refine ⟨?_, ?_, trivial⟩
            ·
              refine JUo.mv (d := some 33) rfl (MV.call (Lo := []) (Lr := [Asr.blk b7 75 [Seg.of (Enc.arr 16 (Enc.int .u8)) x2], Asr.blk b8 39 [Seg.of (Enc.arr 32 (Enc.int .u8)) x4], Asr.blk b9 39 [Seg.of (Enc.arr 32 (Enc.int .u8)) (Arr.rep 32 (0 : Int))], Asr.of 5 (Enc.int .u8) (z18.v) d19]) (F87.spec (x2) (x3) (d20) (x4) _ hc34) rfl Try.func87 rfl rfl rfl [] [0, 1, 2, 3] rfl rfl rfl trivial) rfl rfl rfl ?_
              rintro _ _ ⟨_, ⟨rfl, rfl⟩, rfl⟩
              refine ⟨fun _ => ⟨[0, 1, 2, 3], rfl, rfl⟩, ?_⟩
              refine JU.any [10, 11] (by kernel_rfl) rfl ?_
              refine ⟨?_, ?_, trivial⟩
              ·
                refine JUo.mv (d := some 34) rfl (MV.call (Lo := []) (Lr := [Asr.blk b7 75 [Seg.of (Enc.arr 16 (Enc.int .u8)) x2], Asr.blk b8 39 [Seg.of (Enc.arr 32 (Enc.int .u8)) x4], Asr.blk b9 39 [Seg.of (Enc.arr 32 (Enc.int .u8)) (Arr.rep 32 (0 : Int))], Asr.of 5 (Enc.int .u8) (z18.v) d19]) (F85.spec (x2) (x3) (d20) ((0 : Int)) (y31) (y33) _ hc36) rfl Try.func85 rfl rfl rfl [] [0, 1, 2, 3] rfl rfl rfl trivial) rfl rfl rfl ?_
                rintro _ _ ⟨_, ⟨rfl, rfl⟩, rfl⟩
                refine ⟨fun _ => ⟨[0, 1, 2, 3], rfl, rfl⟩, ?_⟩
                refine JU.any [11] (by kernel_rfl) rfl ?_
                refine ⟨?_, trivial⟩
                refine JUo.mv (d := some 12) rfl (MV.alloc [Seg.of (Enc.arr 32 (Enc.int .u8)) (Arr.rep 32 (0 : Int))] z_39 rfl) rfl rfl rfl ?_
                rintro _ _ ⟨b41, rfl, rfl⟩
                refine ⟨fun _ => ⟨[1, 2, 3, 4], rfl, rfl⟩, ?_⟩
                refine JU.any [12] (by kernel_rfl) rfl ?_
                refine ⟨?_, trivial⟩
                refine JUo.mv (d := none) rfl (MV.store (ss := [Seg.of (Enc.arr 32 (Enc.int .u8)) (Arr.rep 32 (0 : Int))]) 0 0 1 [Seg.of (Enc.arr 32 (Enc.int .u8)) y35] rfl tk_39 rfl rfl rfl rfl (fun w hs => ⟨rfl, one_of _ _, trivial⟩)) rfl rfl rfl ?_
                rintro _ _ ⟨rfl, rfl⟩
                refine ⟨fun _ => ⟨[1, 2, 3, 4], rfl, rfl⟩, ?_⟩
                refine JU.nil (by kernel_rfl) ?_
                exact QJ.cut_normal ((), b41) hm [1, 2, 3, 4, 0] (by exact ⟨rfl, rfl, rfl, rfl, rfl, rfl, rfl, rfl, trivial⟩) rfl rfl
              ·
                refine JUo.mv (d := some 12) rfl (MV.alloc [Seg.of (Enc.arr 32 (Enc.int .u8)) (Arr.rep 32 (0 : Int))] z_39 rfl) rfl rfl rfl ?_
                rintro _ _ ⟨b42, rfl, rfl⟩
                refine ⟨fun _ => ⟨[1, 2, 3, 4], rfl, rfl⟩, ?_⟩
                refine JU.any [10] (by kernel_rfl) rfl ?_
                refine ⟨?_, trivial⟩
                refine JUo.mv (d := some 34) rfl (MV.call (Lo := []) (Lr := [Asr.blk b42 39 [Seg.of (Enc.arr 32 (Enc.int .u8)) (Arr.rep 32 (0 : Int))], Asr.blk b7 75 [Seg.of (Enc.arr 16 (Enc.int .u8)) x2], Asr.blk b8 39 [Seg.of (Enc.arr 32 (Enc.int .u8)) x4], Asr.blk b9 39 [Seg.of (Enc.arr 32 (Enc.int .u8)) (Arr.rep 32 (0 : Int))], Asr.of 5 (Enc.int .u8) (z18.v) d19]) (F85.spec (x2) (x3) (d20) ((0 : Int)) (y31) (y33) _ hc36) rfl Try.func85 rfl rfl rfl [] [0, 1, 2, 3, 4] rfl rfl rfl trivial) rfl rfl rfl ?_
                rintro _ _ ⟨_, ⟨rfl, rfl⟩, rfl⟩
                refine ⟨fun _ => ⟨[1, 2, 3, 4], rfl, rfl⟩, ?_⟩
                refine JU.any [12] (by kernel_rfl) rfl ?_
                refine ⟨?_, trivial⟩
                refine JUo.mv (d := none) rfl (MV.store (ss := [Seg.of (Enc.arr 32 (Enc.int .u8)) (Arr.rep 32 (0 : Int))]) 0 0 1 [Seg.of (Enc.arr 32 (Enc.int .u8)) y35] rfl tk_39 rfl rfl rfl rfl (fun w hs => ⟨rfl, one_of _ _, trivial⟩)) rfl rfl rfl ?_
                rintro _ _ ⟨rfl, rfl⟩
                refine ⟨fun _ => ⟨[1, 2, 3, 4], rfl, rfl⟩, ?_⟩
                refine JU.nil (by kernel_rfl) ?_
                exact QJ.cut_normal ((), b42) hm [1, 2, 3, 4, 0] (by exact ⟨rfl, rfl, rfl, rfl, rfl, rfl, rfl, rfl, trivial⟩) rfl rfl
            ·
              refine JUo.mv (d := some 12) rfl (MV.alloc [Seg.of (Enc.arr 32 (Enc.int .u8)) (Arr.rep 32 (0 : Int))] z_39 rfl) rfl rfl rfl ?_
              rintro _ _ ⟨b43, rfl, rfl⟩
              refine ⟨fun _ => ⟨[1, 2, 3, 4], rfl, rfl⟩, ?_⟩
              refine JU.any [9] (by kernel_rfl) rfl ?_
              refine ⟨?_, trivial⟩
              refine JUo.mv (d := some 33) rfl (MV.call (Lo := []) (Lr := [Asr.blk b43 39 [Seg.of (Enc.arr 32 (Enc.int .u8)) (Arr.rep 32 (0 : Int))], Asr.blk b7 75 [Seg.of (Enc.arr 16 (Enc.int .u8)) x2], Asr.blk b8 39 [Seg.of (Enc.arr 32 (Enc.int .u8)) x4], Asr.blk b9 39 [Seg.of (Enc.arr 32 (Enc.int .u8)) (Arr.rep 32 (0 : Int))], Asr.of 5 (Enc.int .u8) (z18.v) d19]) (F87.spec (x2) (x3) (d20) (x4) _ hc34) rfl Try.func87 rfl rfl rfl [] [0, 1, 2, 3, 4] rfl rfl rfl trivial) rfl rfl rfl ?_
              rintro _ _ ⟨_, ⟨rfl, rfl⟩, rfl⟩
              refine ⟨fun _ => ⟨[1, 2, 3, 4], rfl, rfl⟩, ?_⟩
              refine JU.any [10] (by kernel_rfl) rfl ?_
              refine ⟨?_, trivial⟩
              refine JUo.mv (d := some 34) rfl (MV.call (Lo := []) (Lr := [Asr.blk b43 39 [Seg.of (Enc.arr 32 (Enc.int .u8)) (Arr.rep 32 (0 : Int))], Asr.blk b7 75 [Seg.of (Enc.arr 16 (Enc.int .u8)) x2], Asr.blk b8 39 [Seg.of (Enc.arr 32 (Enc.int .u8)) x4], Asr.blk b9 39 [Seg.of (Enc.arr 32 (Enc.int .u8)) (Arr.rep 32 (0 : Int))], Asr.of 5 (Enc.int .u8) (z18.v) d19]) (F85.spec (x2) (x3) (d20) ((0 : Int)) (y31) (y33) _ hc36) rfl Try.func85 rfl rfl rfl [] [0, 1, 2, 3, 4] rfl rfl rfl trivial) rfl rfl rfl ?_
              rintro _ _ ⟨_, ⟨rfl, rfl⟩, rfl⟩
              refine ⟨fun _ => ⟨[1, 2, 3, 4], rfl, rfl⟩, ?_⟩
              refine JU.any [12] (by kernel_rfl) rfl ?_
              refine ⟨?_, trivial⟩
              refine JUo.mv (d := none) rfl (MV.store (ss := [Seg.of (Enc.arr 32 (Enc.int .u8)) (Arr.rep 32 (0 : Int))]) 0 0 1 [Seg.of (Enc.arr 32 (Enc.int .u8)) y35] rfl tk_39 rfl rfl rfl rfl (fun w hs => ⟨rfl, one_of _ _, trivial⟩)) rfl rfl rfl ?_
              rintro _ _ ⟨rfl, rfl⟩
              refine ⟨fun _ => ⟨[1, 2, 3, 4], rfl, rfl⟩, ?_⟩
              refine JU.nil (by kernel_rfl) ?_
              exact QJ.cut_normal ((), b43) hm [1, 2, 3, 4, 0] (by exact ⟨rfl, rfl, rfl, rfl, rfl, rfl, rfl, rfl, trivial⟩) rfl rfl
          ·
            refine JUo.mv (d := some 12) rfl (MV.alloc [Seg.of (Enc.arr 32 (Enc.int .u8)) (Arr.rep 32 (0 : Int))] z_39 rfl) rfl rfl rfl ?_
            rintro _ _ ⟨b44, rfl, rfl⟩
            refine ⟨fun _ => ⟨[1, 2, 3, 4], rfl, rfl⟩, ?_⟩
            refine JU.any [4] (by kernel_rfl) rfl ?_
            refine ⟨?_, trivial⟩
            refine JUo.mv (d := some 28) rfl (MV.call (Lo := []) (Lr := [Asr.blk b44 39 [Seg.of (Enc.arr 32 (Enc.int .u8)) (Arr.rep 32 (0 : Int))], Asr.blk b7 75 [Seg.of (Enc.arr 16 (Enc.int .u8)) x2], Asr.blk b8 39 [Seg.of (Enc.arr 32 (Enc.int .u8)) x4], Asr.blk b9 39 [Seg.of (Enc.arr 32 (Enc.int .u8)) (Arr.rep 32 (0 : Int))], Asr.of 5 (Enc.int .u8) (z18.v) d19]) (F86.spec (x1) _ hc32) rfl Try.func86 rfl rfl rfl [] [0, 1, 2, 3, 4] rfl rfl rfl trivial) rfl rfl rfl ?_
            rintro _ _ ⟨_, ⟨rfl, rfl⟩, rfl⟩
            refine ⟨fun _ => ⟨[1, 2, 3, 4], rfl, rfl⟩, ?_⟩
            refine JU.any [9] (by kernel_rfl) rfl ?_
            refine ⟨?_, trivial⟩
            refine JUo.mv (d := some 33) rfl (MV.call (Lo := []) (Lr := [Asr.blk b44 39 [Seg.of (Enc.arr 32 (Enc.int .u8)) (Arr.rep 32 (0 : Int))], Asr.blk b7 75 [Seg.of (Enc.arr 16 (Enc.int .u8)) x2], Asr.blk b8 39 [Seg.of (Enc.arr 32 (Enc.int .u8)) x4], Asr.blk b9 39 [Seg.of (Enc.arr 32 (Enc.int .u8)) (Arr.rep 32 (0 : Int))], Asr.of 5 (Enc.int .u8) (z18.v) d19]) (F87.spec (x2) (x3) (d20) (x4) _ hc34) rfl Try.func87 rfl rfl rfl [] [0, 1, 2, 3, 4] rfl rfl rfl trivial) rfl rfl rfl ?_
            rintro _ _ ⟨_, ⟨rfl, rfl⟩, rfl⟩
            refine ⟨fun _ => ⟨[1, 2, 3, 4], rfl, rfl⟩, ?_⟩
            refine JU.any [10] (by kernel_rfl) rfl ?_
            refine ⟨?_, trivial⟩
            refine JUo.mv (d := some 34) rfl (MV.call (Lo := []) (Lr := [Asr.blk b44 39 [Seg.of (Enc.arr 32 (Enc.int .u8)) (Arr.rep 32 (0 : Int))], Asr.blk b7 75 [Seg.of (Enc.arr 16 (Enc.int .u8)) x2], Asr.blk b8 39 [Seg.of (Enc.arr 32 (Enc.int .u8)) x4], Asr.blk b9 39 [Seg.of (Enc.arr 32 (Enc.int .u8)) (Arr.rep 32 (0 : Int))], Asr.of 5 (Enc.int .u8) (z18.v) d19]) (F85.spec (x2) (x3) (d20) ((0 : Int)) (y31) (y33) _ hc36) rfl Try.func85 rfl rfl rfl [] [0, 1, 2, 3, 4] rfl rfl rfl trivial) rfl rfl rfl ?_
            rintro _ _ ⟨_, ⟨rfl, rfl⟩, rfl⟩
            refine ⟨fun _ => ⟨[1, 2, 3, 4], rfl, rfl⟩, ?_⟩
            refine JU.any [12] (by kernel_rfl) rfl ?_
            refine ⟨?_, trivial⟩
            refine JUo.mv (d := none) rfl (MV.store (ss := [Seg.of (Enc.arr 32 (Enc.int .u8)) (Arr.rep 32 (0 : Int))]) 0 0 1 [Seg.of (Enc.arr 32 (Enc.int .u8)) y35] rfl tk_39 rfl rfl rfl rfl (fun w hs => ⟨rfl, one_of _ _, trivial⟩)) rfl rfl rfl ?_
            rintro _ _ ⟨rfl, rfl⟩
            refine ⟨fun _ => ⟨[1, 2, 3, 4], rfl, rfl⟩, ?_⟩
            refine JU.nil (by kernel_rfl) ?_
            exact QJ.cut_normal ((), b44) hm [1, 2, 3, 4, 0] (by exact ⟨rfl, rfl, rfl, rfl, rfl, rfl, rfl, rfl, trivial⟩) rfl rfl
      ·
        refine JC.condF' rfl (decide_eq_false h30) ?_
        refine JC.exit ?_
        refine QJ.then_exit ?_
        obtain rfl := Option.some.inj hm
        refine QJ.round_exit (fun hy => ?_)
        subst hy
        refine QJ.block_hit ?_
        exact QJ.cut_normal (d19, z18) hmo26 [0, 2, 3] (by exact ⟨rfl, rfl, rfl, rfl, trivial⟩) rfl rfl

/-! ### 17: drogher/drogherlaw03.OtsKeys -/
noncomputable def F17.j1 (x1 : Int) (x2 : (Arr Int 16)) (x3 : Int) (x4 : (Arr Int 32)) (d9 : Int) : Option Bool :=
  ((F58.m (x1)).bind fun y10 => ((F59.m (x1)).bind fun y12 => (if y10 = y12 then ((F60.m (x1)).bind fun y15 => ((F57.m (x1)).bind fun y17 => (if y15 = y17 then ((F61.m (x1)).bind fun y20 => (if y20 = d9 then ((F62.m (x1) (x2) (x3) (x4)).bind fun y23 => ((F63.m (x1) (x2) (x3) (x4)).bind fun y26 => (if y23.1 = y26.1 then (if y23.2 = y26.2 then ((F64.m).bind fun y31 => some y31) else some false) else some false))) else some false)) else some false))) else some false)))
noncomputable def F17.m (x1 : Int) (x2 : (Arr Int 16)) (x3 : Int) (x4 : (Arr Int 32)) : Option Bool :=
  (if (1 : Int) ≤ x1 then (if x1 ≤ (4 : Int) then ((F57.m (x1)).bind fun y34 => F17.j1 x1 x2 x3 x4 ((IntKind.wrap .i64 ((36 : Int) + (IntKind.wrap .i64 ((32 : Int) * y34)))))) else F17.j1 x1 x2 x3 x4 ((0 : Int))) else ((F58.m (x1)).bind fun y36 => ((F59.m (x1)).bind fun y38 => (if y36 = y38 then ((F60.m (x1)).bind fun y41 => ((F57.m (x1)).bind fun y43 => (if y41 = y43 then ((F61.m (x1)).bind fun y46 => (if y46 = (0 : Int) then ((F62.m (x1) (x2) (x3) (x4)).bind fun y49 => ((F63.m (x1) (x2) (x3) (x4)).bind fun y52 => (if y49.1 = y52.1 then (if y49.2 = y52.2 then ((F64.m).bind fun y57 => some y57) else some false) else some false))) else some false)) else some false))) else some false))))
set_option maxRecDepth 100000 in
set_option maxHeartbeats 4000000 in
theorem F17.spec (x1 : Int) (x2 : (Arr Int 16)) (x3 : Int) (x4 : (Arr Int 32)) (r : Bool) (hm : F17.m x1 x2 x3 x4 = some r) :
    Ctr Try.prog false 17 [.int .u32 x1, .agg (((Enc.arr 16 (Enc.int .u8))).enc x2).toArray, .int .u32 x3, .agg (((Enc.arr 32 (Enc.int .u8))).enc x4).toArray] [] (fun v L' => v = .bool r ∧ L' = []) := by
  refine Ctr.intro (n := 69) (env := [(0, .int .u32 x1), (1, .agg (((Enc.arr 16 (Enc.int .u8))).enc x2).toArray), (2, .int .u32 x3), (3, .agg (((Enc.arr 32 (Enc.int .u8))).enc x4).toArray)]) Try.func17 rfl rfl rfl rfl (fun c => ?_)
  unfold F17.m at hm
  refine JC.seq ?_
  refine JC.region ?_
  refine JL.mv (d := some 5) (MV.box [Seg.of (Enc.arr 16 (Enc.int .u8)) x2] rfl (fun w hs => rfl)) rfl rfl rfl ?_
  rintro _ _ ⟨b6, rfl, rfl⟩
  refine JL.mv (d := some 7) (MV.box [Seg.of (Enc.arr 32 (Enc.int .u8)) x4] rfl (fun w hs => rfl)) rfl rfl rfl ?_
  rintro _ _ ⟨b7, rfl, rfl⟩
  refine JL.val (v := .bool false) (QV.assign rfl) rfl rfl rfl ?_
  refine JL.nil ?_
  refine QJ.then_normal ?_
  refine JC.seq ?_
  refine JC.region ?_
  refine JL.val (v := .int .i64 (0 : Int)) (QV.assign rfl) rfl rfl rfl ?_
  refine JL.nil ?_
  refine QJ.then_normal ?_
  refine JC.seq ?_
  refine JC.seq ?_
  refine JC.region ?_
  refine JL.val (v := .int .u32 x1) (QV.move rfl) rfl rfl rfl ?_
  refine JL.val (v := .bool (decide ((1 : Int) ≤ x1))) (QV.geq rfl rfl) rfl rfl rfl ?_
  rcases ite_inv hm with ⟨h8, hm⟩ | ⟨h8, hm⟩
  ·
    refine JL.val (v := .bool true) (QV.eq (QV.move rfl) (congrArg Value.bool (decide_eq_true h8))) rfl rfl rfl ?_
    refine JL.val (v := .int .u32 x1) (QV.move rfl) rfl rfl rfl ?_
    refine JL.val (v := .bool (decide (x1 ≤ (4 : Int)))) (QV.leq rfl rfl) rfl rfl rfl ?_
    refine JL.val (v := .bool (decide (x1 ≤ (4 : Int)))) (QV.pickT rfl rfl) rfl rfl rfl ?_
    refine JL.nil ?_
    refine QJ.then_normal ?_
    refine JC.cutK (Y := Int × Unit) (fun y => match y with | (d9, _) => F17.j1 x1 x2 x3 x4 (d9) = some r) (fun y => match y with | (d9, _) => [(0, .int .u32 x1), (2, .int .u32 x3), (5, .pointer (some ⟨b6, 0, none⟩)), (7, .pointer (some ⟨b7, 0, none⟩)), (9, .int .i64 d9)]) (fun y => match y with | (d9, _) => [Asr.blk b6 75 [Seg.of (Enc.arr 16 (Enc.int .u8)) x2], Asr.blk b7 39 [Seg.of (Enc.arr 32 (Enc.int .u8)) x4]]) ?_ ?_
    ·
      rintro ⟨d9, ⟨⟩⟩ hm
      unfold F17.j1 at hm
      show QJ _ _ [(0, .int .u32 x1), (2, .int .u32 x3), (5, .pointer (some ⟨b6, 0, none⟩)), (7, .pointer (some ⟨b7, 0, none⟩)), (9, .int .i64 d9)] [Asr.blk b6 75 [Seg.of (Enc.arr 16 (Enc.int .u8)) x2], Asr.blk b7 39 [Seg.of (Enc.arr 32 (Enc.int .u8)) x4]] _ _
      refine QJ.then_normal ?_
      refine JC.seq ?_
      refine JC.seq ?_
      refine JC.region ?_
      refine JL.val (v := .int .u32 x1) (QV.move rfl) rfl rfl rfl ?_
      obtain ⟨y10, hc11, hm⟩ := bind_inv hm
      refine JL.mv (d := some 25) (MV.call (Lo := []) (Lr := [Asr.blk b6 75 [Seg.of (Enc.arr 16 (Enc.int .u8)) x2], Asr.blk b7 39 [Seg.of (Enc.arr 32 (Enc.int .u8)) x4]]) (F58.spec (x1) _ hc11) rfl Try.func58 rfl rfl rfl [] [0, 1] rfl rfl rfl trivial) rfl rfl rfl ?_
      rintro _ _ ⟨_, ⟨rfl, rfl⟩, rfl⟩
      refine JL.val (v := .int .u32 x1) (QV.move rfl) rfl rfl rfl ?_
      obtain ⟨y12, hc13, hm⟩ := bind_inv hm
      refine JL.mv (d := some 27) (MV.call (Lo := []) (Lr := [Asr.blk b6 75 [Seg.of (Enc.arr 16 (Enc.int .u8)) x2], Asr.blk b7 39 [Seg.of (Enc.arr 32 (Enc.int .u8)) x4]]) (F59.spec (x1) _ hc13) rfl Try.func59 rfl rfl rfl [] [0, 1] rfl rfl rfl trivial) rfl rfl rfl ?_
      rintro _ _ ⟨_, ⟨rfl, rfl⟩, rfl⟩
      refine JL.val (v := .bool (!(decide (y10 = y12)))) (QV.neq rfl rfl) rfl rfl rfl ?_
      rcases ite_inv hm with ⟨h14, hm⟩ | ⟨h14, hm⟩
      ·
        refine JL.val (v := .bool false) (QV.eq (QV.move rfl) (congrArg Value.bool (congrArg Bool.not (decide_eq_true h14)))) rfl rfl rfl ?_
        refine JL.val (v := .int .u32 x1) (QV.move rfl) rfl rfl rfl ?_
        obtain ⟨y15, hc16, hm⟩ := bind_inv hm
        refine JL.mv (d := some 31) (MV.call (Lo := []) (Lr := [Asr.blk b6 75 [Seg.of (Enc.arr 16 (Enc.int .u8)) x2], Asr.blk b7 39 [Seg.of (Enc.arr 32 (Enc.int .u8)) x4]]) (F60.spec (x1) _ hc16) rfl Try.func60 rfl rfl rfl [] [0, 1] rfl rfl rfl trivial) rfl rfl rfl ?_
        rintro _ _ ⟨_, ⟨rfl, rfl⟩, rfl⟩
        refine JL.val (v := .int .u32 x1) (QV.move rfl) rfl rfl rfl ?_
        obtain ⟨y17, hc18, hm⟩ := bind_inv hm
        refine JL.mv (d := some 33) (MV.call (Lo := []) (Lr := [Asr.blk b6 75 [Seg.of (Enc.arr 16 (Enc.int .u8)) x2], Asr.blk b7 39 [Seg.of (Enc.arr 32 (Enc.int .u8)) x4]]) (F57.spec (x1) _ hc18) rfl Try.func57 rfl rfl rfl [] [0, 1] rfl rfl rfl trivial) rfl rfl rfl ?_
        rintro _ _ ⟨_, ⟨rfl, rfl⟩, rfl⟩
        refine JL.val (v := .bool (!(decide (y15 = y17)))) (QV.neq rfl rfl) rfl rfl rfl ?_
        refine JL.val (v := .bool (!(decide (y15 = y17)))) (QV.pickF rfl rfl) rfl rfl rfl ?_
        rcases ite_inv hm with ⟨h19, hm⟩ | ⟨h19, hm⟩
        ·
          refine JL.val (v := .bool false) (QV.eq (QV.move rfl) (congrArg Value.bool (congrArg Bool.not (decide_eq_true h19)))) rfl rfl rfl ?_
          refine JL.val (v := .int .u32 x1) (QV.move rfl) rfl rfl rfl ?_
          obtain ⟨y20, hc21, hm⟩ := bind_inv hm
          refine JL.mv (d := some 38) (MV.call (Lo := []) (Lr := [Asr.blk b6 75 [Seg.of (Enc.arr 16 (Enc.int .u8)) x2], Asr.blk b7 39 [Seg.of (Enc.arr 32 (Enc.int .u8)) x4]]) (F61.spec (x1) _ hc21) rfl Try.func61 rfl rfl rfl [] [0, 1] rfl rfl rfl trivial) rfl rfl rfl ?_
          rintro _ _ ⟨_, ⟨rfl, rfl⟩, rfl⟩
          refine JL.val (v := .int .i64 d9) (QV.move rfl) rfl rfl rfl ?_
          refine JL.val (v := .bool (!(decide (y20 = d9)))) (QV.neq rfl rfl) rfl rfl rfl ?_
          refine JL.val (v := .bool (!(decide (y20 = d9)))) (QV.pickF rfl rfl) rfl rfl rfl ?_
          refine JL.nil ?_
          refine QJ.then_normal ?_
          rcases ite_inv hm with ⟨h22, hm⟩ | ⟨h22, hm⟩
          ·
            refine JC.condF' rfl (congrArg Bool.not (decide_eq_true h22)) ?_
            refine JC.skip ?_
            refine QJ.then_normal ?_
            refine JC.seq ?_
            refine JC.region ?_
            refine JL.val (v := .int .u32 x1) (QV.move rfl) rfl rfl rfl ?_
            refine JL.val (v := .agg (((Enc.arr 16 (Enc.int .u8))).enc x2).toArray) (QV.eq (QV.loadN (ss := [Seg.of (Enc.arr 16 (Enc.int .u8)) x2]) 0 0 1 rfl tk_75 rfl rfl rfl rfl) rfl) rfl rfl rfl ?_
            refine JL.val (v := .int .u32 x3) (QV.move rfl) rfl rfl rfl ?_
            refine JL.val (v := .agg (((Enc.arr 32 (Enc.int .u8))).enc x4).toArray) (QV.eq (QV.loadN (ss := [Seg.of (Enc.arr 32 (Enc.int .u8)) x4]) 1 0 1 rfl tk_39 rfl rfl rfl rfl) rfl) rfl rfl rfl ?_
            obtain ⟨y23, hc24, hm⟩ := bind_inv hm
            refine JL.mv (d := some 47) (MV.call (Lo := []) (Lr := [Asr.blk b6 75 [Seg.of (Enc.arr 16 (Enc.int .u8)) x2], Asr.blk b7 39 [Seg.of (Enc.arr 32 (Enc.int .u8)) x4]]) (F62.spec (x1) (x2) (x3) (x4) _ hc24) rfl Try.func62 rfl rfl rfl [] [0, 1] rfl rfl rfl trivial) rfl rfl rfl ?_
            rintro _ _ ⟨_, ⟨rfl, rfl⟩, rfl⟩
            refine JL.val (v := .tuple #[.agg (((Enc.arr 32 (Enc.int .u8))).enc y23.1).toArray, .int .i64 y23.2]) (QV.move rfl) rfl rfl rfl ?_
            refine JL.val (v := .agg (((Enc.arr 32 (Enc.int .u8))).enc y23.1).toArray) (QV.extract (vs := [.agg (((Enc.arr 32 (Enc.int .u8))).enc y23.1).toArray, .int .i64 y23.2]) rfl rfl) rfl rfl rfl ?_
            refine JL.val (v := .int .i64 y23.2) (QV.extract (vs := [.agg (((Enc.arr 32 (Enc.int .u8))).enc y23.1).toArray, .int .i64 y23.2]) rfl rfl) rfl rfl rfl ?_
            refine JL.mv (d := some 10) (MV.alloc [Seg.of (Enc.arr 32 (Enc.int .u8)) (Arr.rep 32 (0 : Int))] z_41 rfl) rfl rfl rfl ?_
            rintro _ _ ⟨b25, rfl, rfl⟩
            refine JL.mv (d := none) (MV.store (ss := [Seg.of (Enc.arr 32 (Enc.int .u8)) (Arr.rep 32 (0 : Int))]) 0 0 1 [Seg.of (Enc.arr 32 (Enc.int .u8)) y23.1] rfl tk_41 rfl rfl rfl rfl (fun w hs => ⟨rfl, one_of _ _, trivial⟩)) rfl rfl rfl ?_
            rintro _ _ ⟨rfl, rfl⟩
            refine JL.val (v := .int .i64 y23.2) (QV.assign rfl) rfl rfl rfl ?_
            refine JL.nil ?_
            refine QJ.then_normal ?_
            refine JC.seq ?_
            refine JC.region ?_
            refine JL.val (v := .int .u32 x1) (QV.move rfl) rfl rfl rfl ?_
            refine JL.val (v := .agg (((Enc.arr 16 (Enc.int .u8))).enc x2).toArray) (QV.eq (QV.loadN (ss := [Seg.of (Enc.arr 16 (Enc.int .u8)) x2]) 1 0 1 rfl tk_75 rfl rfl rfl rfl) rfl) rfl rfl rfl ?_
            refine JL.val (v := .int .u32 x3) (QV.move rfl) rfl rfl rfl ?_
            refine JL.val (v := .agg (((Enc.arr 32 (Enc.int .u8))).enc x4).toArray) (QV.eq (QV.loadN (ss := [Seg.of (Enc.arr 32 (Enc.int .u8)) x4]) 2 0 1 rfl tk_39 rfl rfl rfl rfl) rfl) rfl rfl rfl ?_
            obtain ⟨y26, hc27, hm⟩ := bind_inv hm
            refine JL.mv (d := some 55) (MV.call (Lo := []) (Lr := [Asr.blk b25 41 [Seg.of (Enc.arr 32 (Enc.int .u8)) y23.1], Asr.blk b6 75 [Seg.of (Enc.arr 16 (Enc.int .u8)) x2], Asr.blk b7 39 [Seg.of (Enc.arr 32 (Enc.int .u8)) x4]]) (F63.spec (x1) (x2) (x3) (x4) _ hc27) rfl Try.func63 rfl rfl rfl [] [0, 1, 2] rfl rfl rfl trivial) rfl rfl rfl ?_
            rintro _ _ ⟨_, ⟨rfl, rfl⟩, rfl⟩
            refine JL.val (v := .tuple #[.agg (((Enc.arr 32 (Enc.int .u8))).enc y26.1).toArray, .int .i64 y26.2]) (QV.move rfl) rfl rfl rfl ?_
            refine JL.val (v := .agg (((Enc.arr 32 (Enc.int .u8))).enc y26.1).toArray) (QV.extract (vs := [.agg (((Enc.arr 32 (Enc.int .u8))).enc y26.1).toArray, .int .i64 y26.2]) rfl rfl) rfl rfl rfl ?_
            refine JL.val (v := .int .i64 y26.2) (QV.extract (vs := [.agg (((Enc.arr 32 (Enc.int .u8))).enc y26.1).toArray, .int .i64 y26.2]) rfl rfl) rfl rfl rfl ?_
            refine JL.mv (d := some 12) (MV.alloc [Seg.of (Enc.arr 32 (Enc.int .u8)) (Arr.rep 32 (0 : Int))] z_39 rfl) rfl rfl rfl ?_
            rintro _ _ ⟨b28, rfl, rfl⟩
            refine JL.mv (d := none) (MV.store (ss := [Seg.of (Enc.arr 32 (Enc.int .u8)) (Arr.rep 32 (0 : Int))]) 0 0 1 [Seg.of (Enc.arr 32 (Enc.int .u8)) y26.1] rfl tk_39 rfl rfl rfl rfl (fun w hs => ⟨rfl, one_of _ _, trivial⟩)) rfl rfl rfl ?_
            rintro _ _ ⟨rfl, rfl⟩
            refine JL.val (v := .int .i64 y26.2) (QV.assign rfl) rfl rfl rfl ?_
            refine JL.nil ?_
            refine QJ.then_normal ?_
            refine JC.seq ?_
            refine JC.region ?_
            refine JL.val (v := .agg (((Enc.arr 32 (Enc.int .u8))).enc y23.1).toArray) (QV.eq (QV.loadN (ss := [Seg.of (Enc.arr 32 (Enc.int .u8)) y23.1]) 1 0 1 rfl tk_41 rfl rfl rfl rfl) rfl) rfl rfl rfl ?_
            refine JL.val (v := .agg (((Enc.arr 32 (Enc.int .u8))).enc y26.1).toArray) (QV.eq (QV.loadN (ss := [Seg.of (Enc.arr 32 (Enc.int .u8)) y26.1]) 0 0 1 rfl tk_39 rfl rfl rfl rfl) rfl) rfl rfl rfl ?_
            refine JL.val (v := .bool (decide (y23.1 = y26.1))) (QV.eqlE (E := (Enc.arr 32 (Enc.int .u8))) (a := y23.1) (b := y26.1) zeq_41 (by kernel_rfl) rfl rfl) rfl rfl rfl ?_
            rcases ite_inv hm with ⟨h29, hm⟩ | ⟨h29, hm⟩
            ·
              refine JL.val (v := .bool true) (QV.eq (QV.move rfl) (congrArg Value.bool (decide_eq_true h29))) rfl rfl rfl ?_
              refine JL.val (v := .int .i64 y23.2) (QV.move rfl) rfl rfl rfl ?_
              refine JL.val (v := .int .i64 y26.2) (QV.move rfl) rfl rfl rfl ?_
              refine JL.val (v := .bool (decide (y23.2 = y26.2))) (QV.eql rfl rfl) rfl rfl rfl ?_
              refine JL.val (v := .bool (decide (y23.2 = y26.2))) (QV.pickT rfl rfl) rfl rfl rfl ?_
              rcases ite_inv hm with ⟨h30, hm⟩ | ⟨h30, hm⟩
              ·
                refine JL.val (v := .bool true) (QV.eq (QV.move rfl) (congrArg Value.bool (decide_eq_true h30))) rfl rfl rfl ?_
                obtain ⟨y31, hc32, hm⟩ := bind_inv hm
                refine JL.mv (d := some 67) (MV.call (Lo := []) (Lr := [Asr.blk b28 39 [Seg.of (Enc.arr 32 (Enc.int .u8)) y26.1], Asr.blk b25 41 [Seg.of (Enc.arr 32 (Enc.int .u8)) y23.1], Asr.blk b6 75 [Seg.of (Enc.arr 16 (Enc.int .u8)) x2], Asr.blk b7 39 [Seg.of (Enc.arr 32 (Enc.int .u8)) x4]]) (F64.spec _ hc32) rfl Try.func64 rfl rfl rfl [] [0, 1, 2, 3] rfl rfl rfl trivial) rfl rfl rfl ?_
                rintro _ _ ⟨_, ⟨rfl, rfl⟩, rfl⟩
                refine JL.val (v := .bool y31) (QV.pickT rfl rfl) rfl rfl rfl ?_
                refine JL.val (v := .bool y31) (QV.assign rfl) rfl rfl rfl ?_
                refine JL.nil ?_
                refine QJ.then_normal ?_
                refine JC.ret ?_
                obtain rfl := Option.some.inj hm
                exact QJ.body (vs := [.bool y31]) (.inl rfl) rfl (ResVs.cons (ResV.tmp rfl) ResVs.nil) [] rfl rfl (.inr trivial) ⟨rfl, rfl⟩
              ·
                refine JL.val (v := .bool false) (QV.eq (QV.move rfl) (congrArg Value.bool (decide_eq_false h30))) rfl rfl rfl ?_
                refine JL.skip (d := some 67) rfl rfl rfl ?_
                refine JL.val (v := .bool false) (QV.pickF rfl rfl) rfl rfl rfl ?_
                refine JL.val (v := .bool false) (QV.assign rfl) rfl rfl rfl ?_
                refine JL.nil ?_
                refine QJ.then_normal ?_
                refine JC.ret ?_
                obtain rfl := Option.some.inj hm
                exact QJ.body (vs := [.bool false]) (.inl rfl) rfl (ResVs.cons (ResV.tmp rfl) ResVs.nil) [] rfl rfl (.inr trivial) ⟨rfl, rfl⟩
            ·
              refine JL.val (v := .bool false) (QV.eq (QV.move rfl) (congrArg Value.bool (decide_eq_false h29))) rfl rfl rfl ?_
              refine JL.skip (d := some 62) rfl rfl rfl ?_
              refine JL.skip (d := some 63) rfl rfl rfl ?_
              refine JL.skip (d := some 64) rfl rfl rfl ?_
              refine JL.val (v := .bool false) (QV.pickF rfl rfl) rfl rfl rfl ?_
              refine JL.val (v := .bool false) (QV.move rfl) rfl rfl rfl ?_
              refine JL.skip (d := some 67) rfl rfl rfl ?_
              refine JL.val (v := .bool false) (QV.pickF rfl rfl) rfl rfl rfl ?_
              refine JL.val (v := .bool false) (QV.assign rfl) rfl rfl rfl ?_
              refine JL.nil ?_
              refine QJ.then_normal ?_
              refine JC.ret ?_
              obtain rfl := Option.some.inj hm
              exact QJ.body (vs := [.bool false]) (.inl rfl) rfl (ResVs.cons (ResV.tmp rfl) ResVs.nil) [] rfl rfl (.inr trivial) ⟨rfl, rfl⟩
          ·
            refine JC.condT' rfl (congrArg Bool.not (decide_eq_false h22)) ?_
            refine JC.seq ?_
            refine JC.region ?_
            refine JL.val (v := .bool false) (QV.assign rfl) rfl rfl rfl ?_
            refine JL.nil ?_
            refine QJ.then_normal ?_
            refine JC.ret ?_
            refine QJ.then_ret ?_
            obtain rfl := Option.some.inj hm
            exact QJ.body (vs := [.bool false]) (.inl rfl) rfl (ResVs.cons (ResV.tmp rfl) ResVs.nil) [] rfl rfl (.inr trivial) ⟨rfl, rfl⟩
        ·
          refine JL.val (v := .bool true) (QV.eq (QV.move rfl) (congrArg Value.bool (congrArg Bool.not (decide_eq_false h19)))) rfl rfl rfl ?_
          refine JL.skip (d := some 37) rfl rfl rfl ?_
          refine JL.skip (d := some 38) rfl rfl rfl ?_
          refine JL.skip (d := some 39) rfl rfl rfl ?_
          refine JL.skip (d := some 40) rfl rfl rfl ?_
          refine JL.val (v := .bool true) (QV.pickT rfl rfl) rfl rfl rfl ?_
          refine JL.nil ?_
          refine QJ.then_normal ?_
          refine JC.condT rfl ?_
          refine JC.seq ?_
          refine JC.region ?_
          refine JL.val (v := .bool false) (QV.assign rfl) rfl rfl rfl ?_
          refine JL.nil ?_
          refine QJ.then_normal ?_
          refine JC.ret ?_
          refine QJ.then_ret ?_
          obtain rfl := Option.some.inj hm
          exact QJ.body (vs := [.bool false]) (.inl rfl) rfl (ResVs.cons (ResV.tmp rfl) ResVs.nil) [] rfl rfl (.inr trivial) ⟨rfl, rfl⟩
      ·
        refine JL.val (v := .bool true) (QV.eq (QV.move rfl) (congrArg Value.bool (congrArg Bool.not (decide_eq_false h14)))) rfl rfl rfl ?_
        refine JL.skip (d := some 30) rfl rfl rfl ?_
        refine JL.skip (d := some 31) rfl rfl rfl ?_
        refine JL.skip (d := some 32) rfl rfl rfl ?_
        refine JL.skip (d := some 33) rfl rfl rfl ?_
        refine JL.skip (d := some 34) rfl rfl rfl ?_
        refine JL.val (v := .bool true) (QV.pickT rfl rfl) rfl rfl rfl ?_
        refine JL.val (v := .bool true) (QV.move rfl) rfl rfl rfl ?_
        refine JL.skip (d := some 37) rfl rfl rfl ?_
        refine JL.skip (d := some 38) rfl rfl rfl ?_
        refine JL.skip (d := some 39) rfl rfl rfl ?_
        refine JL.skip (d := some 40) rfl rfl rfl ?_
        refine JL.val (v := .bool true) (QV.pickT rfl rfl) rfl rfl rfl ?_
        refine JL.nil ?_
        refine QJ.then_normal ?_
        refine JC.condT rfl ?_
        refine JC.seq ?_
        refine JC.region ?_
        refine JL.val (v := .bool false) (QV.assign rfl) rfl rfl rfl ?_
        refine JL.nil ?_
        refine QJ.then_normal ?_
        refine JC.ret ?_
        refine QJ.then_ret ?_
        obtain rfl := Option.some.inj hm
        exact QJ.body (vs := [.bool false]) (.inl rfl) rfl (ResVs.cons (ResV.tmp rfl) ResVs.nil) [] rfl rfl (.inr trivial) ⟨rfl, rfl⟩
    ·
      rcases ite_inv hm with ⟨h33, hm⟩ | ⟨h33, hm⟩
      ·
        refine JC.condT' rfl (decide_eq_true h33) ?_
        refine JC.region ?_
        refine JL.val (v := .int .u32 x1) (QV.move rfl) rfl rfl rfl ?_
        obtain ⟨y34, hc35, hm⟩ := bind_inv hm
        refine JL.mv (d := some 21) (MV.call (Lo := []) (Lr := [Asr.blk b7 39 [Seg.of (Enc.arr 32 (Enc.int .u8)) x4], Asr.blk b6 75 [Seg.of (Enc.arr 16 (Enc.int .u8)) x2]]) (F57.spec (x1) _ hc35) rfl Try.func57 rfl rfl rfl [] [0, 1] rfl rfl rfl trivial) rfl rfl rfl ?_
        rintro _ _ ⟨_, ⟨rfl, rfl⟩, rfl⟩
        refine JL.val (v := .int .i64 (IntKind.wrap .i64 ((32 : Int) * y34))) (QV.mul rfl rfl) rfl rfl rfl ?_
        refine JL.val (v := .int .i64 (IntKind.wrap .i64 ((36 : Int) + (IntKind.wrap .i64 ((32 : Int) * y34))))) (QV.add rfl rfl) rfl rfl rfl ?_
        refine JL.val (v := .int .i64 (IntKind.wrap .i64 ((36 : Int) + (IntKind.wrap .i64 ((32 : Int) * y34))))) (QV.assign rfl) rfl rfl rfl ?_
        refine JL.nil ?_
        exact QJ.cut_normal ((IntKind.wrap .i64 ((36 : Int) + (IntKind.wrap .i64 ((32 : Int) * y34)))), ()) hm [1, 0] (by exact ⟨rfl, rfl, rfl, rfl, rfl, trivial⟩) rfl rfl
      ·
        refine JC.condF' rfl (decide_eq_false h33) ?_
        refine JC.skip ?_
        exact QJ.cut_normal ((0 : Int), ()) hm [1, 0] (by exact ⟨rfl, rfl, rfl, rfl, rfl, trivial⟩) rfl rfl
  ·
    refine JL.val (v := .bool false) (QV.eq (QV.move rfl) (congrArg Value.bool (decide_eq_false h8))) rfl rfl rfl ?_
    refine JL.skip (d := some 17) rfl rfl rfl ?_
    refine JL.skip (d := some 18) rfl rfl rfl ?_
    refine JL.val (v := .bool false) (QV.pickF rfl rfl) rfl rfl rfl ?_
    refine JL.nil ?_
    refine QJ.then_normal ?_
    refine JC.condF rfl ?_
    refine JC.skip ?_
    refine QJ.then_normal ?_
    refine JC.seq ?_
    refine JC.seq ?_
    refine JC.region ?_
    refine JL.val (v := .int .u32 x1) (QV.move rfl) rfl rfl rfl ?_
    obtain ⟨y36, hc37, hm⟩ := bind_inv hm
    refine JL.mv (d := some 25) (MV.call (Lo := []) (Lr := [Asr.blk b7 39 [Seg.of (Enc.arr 32 (Enc.int .u8)) x4], Asr.blk b6 75 [Seg.of (Enc.arr 16 (Enc.int .u8)) x2]]) (F58.spec (x1) _ hc37) rfl Try.func58 rfl rfl rfl [] [0, 1] rfl rfl rfl trivial) rfl rfl rfl ?_
    rintro _ _ ⟨_, ⟨rfl, rfl⟩, rfl⟩
    refine JL.val (v := .int .u32 x1) (QV.move rfl) rfl rfl rfl ?_
    obtain ⟨y38, hc39, hm⟩ := bind_inv hm
    refine JL.mv (d := some 27) (MV.call (Lo := []) (Lr := [Asr.blk b7 39 [Seg.of (Enc.arr 32 (Enc.int .u8)) x4], Asr.blk b6 75 [Seg.of (Enc.arr 16 (Enc.int .u8)) x2]]) (F59.spec (x1) _ hc39) rfl Try.func59 rfl rfl rfl [] [0, 1] rfl rfl rfl trivial) rfl rfl rfl ?_
    rintro _ _ ⟨_, ⟨rfl, rfl⟩, rfl⟩
    refine JL.val (v := .bool (!(decide (y36 = y38)))) (QV.neq rfl rfl) rfl rfl rfl ?_
    rcases ite_inv hm with ⟨h40, hm⟩ | ⟨h40, hm⟩
    ·
      refine JL.val (v := .bool false) (QV.eq (QV.move rfl) (congrArg Value.bool (congrArg Bool.not (decide_eq_true h40)))) rfl rfl rfl ?_
      refine JL.val (v := .int .u32 x1) (QV.move rfl) rfl rfl rfl ?_
      obtain ⟨y41, hc42, hm⟩ := bind_inv hm
      refine JL.mv (d := some 31) (MV.call (Lo := []) (Lr := [Asr.blk b7 39 [Seg.of (Enc.arr 32 (Enc.int .u8)) x4], Asr.blk b6 75 [Seg.of (Enc.arr 16 (Enc.int .u8)) x2]]) (F60.spec (x1) _ hc42) rfl Try.func60 rfl rfl rfl [] [0, 1] rfl rfl rfl trivial) rfl rfl rfl ?_
      rintro _ _ ⟨_, ⟨rfl, rfl⟩, rfl⟩
      refine JL.val (v := .int .u32 x1) (QV.move rfl) rfl rfl rfl ?_
      obtain ⟨y43, hc44, hm⟩ := bind_inv hm
      refine JL.mv (d := some 33) (MV.call (Lo := []) (Lr := [Asr.blk b7 39 [Seg.of (Enc.arr 32 (Enc.int .u8)) x4], Asr.blk b6 75 [Seg.of (Enc.arr 16 (Enc.int .u8)) x2]]) (F57.spec (x1) _ hc44) rfl Try.func57 rfl rfl rfl [] [0, 1] rfl rfl rfl trivial) rfl rfl rfl ?_
      rintro _ _ ⟨_, ⟨rfl, rfl⟩, rfl⟩
      refine JL.val (v := .bool (!(decide (y41 = y43)))) (QV.neq rfl rfl) rfl rfl rfl ?_
      refine JL.val (v := .bool (!(decide (y41 = y43)))) (QV.pickF rfl rfl) rfl rfl rfl ?_
      rcases ite_inv hm with ⟨h45, hm⟩ | ⟨h45, hm⟩
      ·
        refine JL.val (v := .bool false) (QV.eq (QV.move rfl) (congrArg Value.bool (congrArg Bool.not (decide_eq_true h45)))) rfl rfl rfl ?_
        refine JL.val (v := .int .u32 x1) (QV.move rfl) rfl rfl rfl ?_
        obtain ⟨y46, hc47, hm⟩ := bind_inv hm
        refine JL.mv (d := some 38) (MV.call (Lo := []) (Lr := [Asr.blk b7 39 [Seg.of (Enc.arr 32 (Enc.int .u8)) x4], Asr.blk b6 75 [Seg.of (Enc.arr 16 (Enc.int .u8)) x2]]) (F61.spec (x1) _ hc47) rfl Try.func61 rfl rfl rfl [] [0, 1] rfl rfl rfl trivial) rfl rfl rfl ?_
        rintro _ _ ⟨_, ⟨rfl, rfl⟩, rfl⟩
        refine JL.val (v := .int .i64 (0 : Int)) (QV.move rfl) rfl rfl rfl ?_
        refine JL.val (v := .bool (!(decide (y46 = (0 : Int))))) (QV.neq rfl rfl) rfl rfl rfl ?_
        refine JL.val (v := .bool (!(decide (y46 = (0 : Int))))) (QV.pickF rfl rfl) rfl rfl rfl ?_
        refine JL.nil ?_
        refine QJ.then_normal ?_
        rcases ite_inv hm with ⟨h48, hm⟩ | ⟨h48, hm⟩
        ·
          refine JC.condF' rfl (congrArg Bool.not (decide_eq_true h48)) ?_
          refine JC.skip ?_
          refine QJ.then_normal ?_
          refine JC.seq ?_
          refine JC.region ?_
          refine JL.val (v := .int .u32 x1) (QV.move rfl) rfl rfl rfl ?_
          refine JL.val (v := .agg (((Enc.arr 16 (Enc.int .u8))).enc x2).toArray) (QV.eq (QV.loadN (ss := [Seg.of (Enc.arr 16 (Enc.int .u8)) x2]) 1 0 1 rfl tk_75 rfl rfl rfl rfl) rfl) rfl rfl rfl ?_
          refine JL.val (v := .int .u32 x3) (QV.move rfl) rfl rfl rfl ?_
          refine JL.val (v := .agg (((Enc.arr 32 (Enc.int .u8))).enc x4).toArray) (QV.eq (QV.loadN (ss := [Seg.of (Enc.arr 32 (Enc.int .u8)) x4]) 0 0 1 rfl tk_39 rfl rfl rfl rfl) rfl) rfl rfl rfl ?_
          obtain ⟨y49, hc50, hm⟩ := bind_inv hm
          refine JL.mv (d := some 47) (MV.call (Lo := []) (Lr := [Asr.blk b7 39 [Seg.of (Enc.arr 32 (Enc.int .u8)) x4], Asr.blk b6 75 [Seg.of (Enc.arr 16 (Enc.int .u8)) x2]]) (F62.spec (x1) (x2) (x3) (x4) _ hc50) rfl Try.func62 rfl rfl rfl [] [0, 1] rfl rfl rfl trivial) rfl rfl rfl ?_
          rintro _ _ ⟨_, ⟨rfl, rfl⟩, rfl⟩
          refine JL.val (v := .tuple #[.agg (((Enc.arr 32 (Enc.int .u8))).enc y49.1).toArray, .int .i64 y49.2]) (QV.move rfl) rfl rfl rfl ?_
          refine JL.val (v := .agg (((Enc.arr 32 (Enc.int .u8))).enc y49.1).toArray) (QV.extract (vs := [.agg (((Enc.arr 32 (Enc.int .u8))).enc y49.1).toArray, .int .i64 y49.2]) rfl rfl) rfl rfl rfl ?_
          refine JL.val (v := .int .i64 y49.2) (QV.extract (vs := [.agg (((Enc.arr 32 (Enc.int .u8))).enc y49.1).toArray, .int .i64 y49.2]) rfl rfl) rfl rfl rfl ?_
          refine JL.mv (d := some 10) (MV.alloc [Seg.of (Enc.arr 32 (Enc.int .u8)) (Arr.rep 32 (0 : Int))] z_41 rfl) rfl rfl rfl ?_
          rintro _ _ ⟨b51, rfl, rfl⟩
          refine JL.mv (d := none) (MV.store (ss := [Seg.of (Enc.arr 32 (Enc.int .u8)) (Arr.rep 32 (0 : Int))]) 0 0 1 [Seg.of (Enc.arr 32 (Enc.int .u8)) y49.1] rfl tk_41 rfl rfl rfl rfl (fun w hs => ⟨rfl, one_of _ _, trivial⟩)) rfl rfl rfl ?_
          rintro _ _ ⟨rfl, rfl⟩
          refine JL.val (v := .int .i64 y49.2) (QV.assign rfl) rfl rfl rfl ?_
          refine JL.nil ?_
          refine QJ.then_normal ?_
          refine JC.seq ?_
          refine JC.region ?_
          refine JL.val (v := .int .u32 x1) (QV.move rfl) rfl rfl rfl ?_
          refine JL.val (v := .agg (((Enc.arr 16 (Enc.int .u8))).enc x2).toArray) (QV.eq (QV.loadN (ss := [Seg.of (Enc.arr 16 (Enc.int .u8)) x2]) 2 0 1 rfl tk_75 rfl rfl rfl rfl) rfl) rfl rfl rfl ?_
          refine JL.val (v := .int .u32 x3) (QV.move rfl) rfl rfl rfl ?_
          refine JL.val (v := .agg (((Enc.arr 32 (Enc.int .u8))).enc x4).toArray) (QV.eq (QV.loadN (ss := [Seg.of (Enc.arr 32 (Enc.int .u8)) x4]) 1 0 1 rfl tk_39 rfl rfl rfl rfl) rfl) rfl rfl rfl ?_
          obtain ⟨y52, hc53, hm⟩ := bind_inv hm
          refine JL.mv (d := some 55) (MV.call (Lo := []) (Lr := [Asr.blk b51 41 [Seg.of (Enc.arr 32 (Enc.int .u8)) y49.1], Asr.blk b7 39 [Seg.of (Enc.arr 32 (Enc.int .u8)) x4], Asr.blk b6 75 [Seg.of (Enc.arr 16 (Enc.int .u8)) x2]]) (F63.spec (x1) (x2) (x3) (x4) _ hc53) rfl Try.func63 rfl rfl rfl [] [0, 1, 2] rfl rfl rfl trivial) rfl rfl rfl ?_
          rintro _ _ ⟨_, ⟨rfl, rfl⟩, rfl⟩
          refine JL.val (v := .tuple #[.agg (((Enc.arr 32 (Enc.int .u8))).enc y52.1).toArray, .int .i64 y52.2]) (QV.move rfl) rfl rfl rfl ?_
          refine JL.val (v := .agg (((Enc.arr 32 (Enc.int .u8))).enc y52.1).toArray) (QV.extract (vs := [.agg (((Enc.arr 32 (Enc.int .u8))).enc y52.1).toArray, .int .i64 y52.2]) rfl rfl) rfl rfl rfl ?_
          refine JL.val (v := .int .i64 y52.2) (QV.extract (vs := [.agg (((Enc.arr 32 (Enc.int .u8))).enc y52.1).toArray, .int .i64 y52.2]) rfl rfl) rfl rfl rfl ?_
          refine JL.mv (d := some 12) (MV.alloc [Seg.of (Enc.arr 32 (Enc.int .u8)) (Arr.rep 32 (0 : Int))] z_39 rfl) rfl rfl rfl ?_
          rintro _ _ ⟨b54, rfl, rfl⟩
          refine JL.mv (d := none) (MV.store (ss := [Seg.of (Enc.arr 32 (Enc.int .u8)) (Arr.rep 32 (0 : Int))]) 0 0 1 [Seg.of (Enc.arr 32 (Enc.int .u8)) y52.1] rfl tk_39 rfl rfl rfl rfl (fun w hs => ⟨rfl, one_of _ _, trivial⟩)) rfl rfl rfl ?_
          rintro _ _ ⟨rfl, rfl⟩
          refine JL.val (v := .int .i64 y52.2) (QV.assign rfl) rfl rfl rfl ?_
          refine JL.nil ?_
          refine QJ.then_normal ?_
          refine JC.seq ?_
          refine JC.region ?_
          refine JL.val (v := .agg (((Enc.arr 32 (Enc.int .u8))).enc y49.1).toArray) (QV.eq (QV.loadN (ss := [Seg.of (Enc.arr 32 (Enc.int .u8)) y49.1]) 1 0 1 rfl tk_41 rfl rfl rfl rfl) rfl) rfl rfl rfl ?_
          refine JL.val (v := .agg (((Enc.arr 32 (Enc.int .u8))).enc y52.1).toArray) (QV.eq (QV.loadN (ss := [Seg.of (Enc.arr 32 (Enc.int .u8)) y52.1]) 0 0 1 rfl tk_39 rfl rfl rfl rfl) rfl) rfl rfl rfl ?_
          refine JL.val (v := .bool (decide (y49.1 = y52.1))) (QV.eqlE (E := (Enc.arr 32 (Enc.int .u8))) (a := y49.1) (b := y52.1) zeq_41 (by kernel_rfl) rfl rfl) rfl rfl rfl ?_
          rcases ite_inv hm with ⟨h55, hm⟩ | ⟨h55, hm⟩
          ·
            refine JL.val (v := .bool true) (QV.eq (QV.move rfl) (congrArg Value.bool (decide_eq_true h55))) rfl rfl rfl ?_
            refine JL.val (v := .int .i64 y49.2) (QV.move rfl) rfl rfl rfl ?_
            refine JL.val (v := .int .i64 y52.2) (QV.move rfl) rfl rfl rfl ?_
            refine JL.val (v := .bool (decide (y49.2 = y52.2))) (QV.eql rfl rfl) rfl rfl rfl ?_
            refine JL.val (v := .bool (decide (y49.2 = y52.2))) (QV.pickT rfl rfl) rfl rfl rfl ?_
            rcases ite_inv hm with ⟨h56, hm⟩ | ⟨h56, hm⟩
            ·
              refine JL.val (v := .bool true) (QV.eq (QV.move rfl) (congrArg Value.bool (decide_eq_true h56))) rfl rfl rfl ?_
              obtain ⟨y57, hc58, hm⟩ := bind_inv hm
              refine JL.mv (d := some 67) (MV.call (Lo := []) (Lr := [Asr.blk b54 39 [Seg.of (Enc.arr 32 (Enc.int .u8)) y52.1], Asr.blk b51 41 [Seg.of (Enc.arr 32 (Enc.int .u8)) y49.1], Asr.blk b7 39 [Seg.of (Enc.arr 32 (Enc.int .u8)) x4], Asr.blk b6 75 [Seg.of (Enc.arr 16 (Enc.int .u8)) x2]]) (F64.spec _ hc58) rfl Try.func64 rfl rfl rfl [] [0, 1, 2, 3] rfl rfl rfl trivial) rfl rfl rfl ?_
              rintro _ _ ⟨_, ⟨rfl, rfl⟩, rfl⟩
              refine JL.val (v := .bool y57) (QV.pickT rfl rfl) rfl rfl rfl ?_
              refine JL.val (v := .bool y57) (QV.assign rfl) rfl rfl rfl ?_
              refine JL.nil ?_
              refine QJ.then_normal ?_
              refine JC.ret ?_
              obtain rfl := Option.some.inj hm
              exact QJ.body (vs := [.bool y57]) (.inl rfl) rfl (ResVs.cons (ResV.tmp rfl) ResVs.nil) [] rfl rfl (.inr trivial) ⟨rfl, rfl⟩
            ·
              refine JL.val (v := .bool false) (QV.eq (QV.move rfl) (congrArg Value.bool (decide_eq_false h56))) rfl rfl rfl ?_
              refine JL.skip (d := some 67) rfl rfl rfl ?_
              refine JL.val (v := .bool false) (QV.pickF rfl rfl) rfl rfl rfl ?_
              refine JL.val (v := .bool false) (QV.assign rfl) rfl rfl rfl ?_
              refine JL.nil ?_
              refine QJ.then_normal ?_
              refine JC.ret ?_
              obtain rfl := Option.some.inj hm
              exact QJ.body (vs := [.bool false]) (.inl rfl) rfl (ResVs.cons (ResV.tmp rfl) ResVs.nil) [] rfl rfl (.inr trivial) ⟨rfl, rfl⟩
          ·
            refine JL.val (v := .bool false) (QV.eq (QV.move rfl) (congrArg Value.bool (decide_eq_false h55))) rfl rfl rfl ?_
            refine JL.skip (d := some 62) rfl rfl rfl ?_
            refine JL.skip (d := some 63) rfl rfl rfl ?_
            refine JL.skip (d := some 64) rfl rfl rfl ?_
            refine JL.val (v := .bool false) (QV.pickF rfl rfl) rfl rfl rfl ?_
            refine JL.val (v := .bool false) (QV.move rfl) rfl rfl rfl ?_
            refine JL.skip (d := some 67) rfl rfl rfl ?_
            refine JL.val (v := .bool false) (QV.pickF rfl rfl) rfl rfl rfl ?_
            refine JL.val (v := .bool false) (QV.assign rfl) rfl rfl rfl ?_
            refine JL.nil ?_
            refine QJ.then_normal ?_
            refine JC.ret ?_
            obtain rfl := Option.some.inj hm
            exact QJ.body (vs := [.bool false]) (.inl rfl) rfl (ResVs.cons (ResV.tmp rfl) ResVs.nil) [] rfl rfl (.inr trivial) ⟨rfl, rfl⟩
        ·
          refine JC.condT' rfl (congrArg Bool.not (decide_eq_false h48)) ?_
          refine JC.seq ?_
          refine JC.region ?_
          refine JL.val (v := .bool false) (QV.assign rfl) rfl rfl rfl ?_
          refine JL.nil ?_
          refine QJ.then_normal ?_
          refine JC.ret ?_
          refine QJ.then_ret ?_
          obtain rfl := Option.some.inj hm
          exact QJ.body (vs := [.bool false]) (.inl rfl) rfl (ResVs.cons (ResV.tmp rfl) ResVs.nil) [] rfl rfl (.inr trivial) ⟨rfl, rfl⟩
      ·
        refine JL.val (v := .bool true) (QV.eq (QV.move rfl) (congrArg Value.bool (congrArg Bool.not (decide_eq_false h45)))) rfl rfl rfl ?_
        refine JL.skip (d := some 37) rfl rfl rfl ?_
        refine JL.skip (d := some 38) rfl rfl rfl ?_
        refine JL.skip (d := some 39) rfl rfl rfl ?_
        refine JL.skip (d := some 40) rfl rfl rfl ?_
        refine JL.val (v := .bool true) (QV.pickT rfl rfl) rfl rfl rfl ?_
        refine JL.nil ?_
        refine QJ.then_normal ?_
        refine JC.condT rfl ?_
        refine JC.seq ?_
        refine JC.region ?_
        refine JL.val (v := .bool false) (QV.assign rfl) rfl rfl rfl ?_
        refine JL.nil ?_
        refine QJ.then_normal ?_
        refine JC.ret ?_
        refine QJ.then_ret ?_
        obtain rfl := Option.some.inj hm
        exact QJ.body (vs := [.bool false]) (.inl rfl) rfl (ResVs.cons (ResV.tmp rfl) ResVs.nil) [] rfl rfl (.inr trivial) ⟨rfl, rfl⟩
    ·
      refine JL.val (v := .bool true) (QV.eq (QV.move rfl) (congrArg Value.bool (congrArg Bool.not (decide_eq_false h40)))) rfl rfl rfl ?_
      refine JL.skip (d := some 30) rfl rfl rfl ?_
      refine JL.skip (d := some 31) rfl rfl rfl ?_
      refine JL.skip (d := some 32) rfl rfl rfl ?_
      refine JL.skip (d := some 33) rfl rfl rfl ?_
      refine JL.skip (d := some 34) rfl rfl rfl ?_
      refine JL.val (v := .bool true) (QV.pickT rfl rfl) rfl rfl rfl ?_
      refine JL.val (v := .bool true) (QV.move rfl) rfl rfl rfl ?_
      refine JL.skip (d := some 37) rfl rfl rfl ?_
      refine JL.skip (d := some 38) rfl rfl rfl ?_
      refine JL.skip (d := some 39) rfl rfl rfl ?_
      refine JL.skip (d := some 40) rfl rfl rfl ?_
      refine JL.val (v := .bool true) (QV.pickT rfl rfl) rfl rfl rfl ?_
      refine JL.nil ?_
      refine QJ.then_normal ?_
      refine JC.condT rfl ?_
      refine JC.seq ?_
      refine JC.region ?_
      refine JL.val (v := .bool false) (QV.assign rfl) rfl rfl rfl ?_
      refine JL.nil ?_
      refine QJ.then_normal ?_
      refine JC.ret ?_
      refine QJ.then_ret ?_
      obtain rfl := Option.some.inj hm
      exact QJ.body (vs := [.bool false]) (.inl rfl) rfl (ResVs.cons (ResV.tmp rfl) ResVs.nil) [] rfl rfl (.inr trivial) ⟨rfl, rfl⟩

end Go.Proofs.Ytmedbpiapeiobaa
