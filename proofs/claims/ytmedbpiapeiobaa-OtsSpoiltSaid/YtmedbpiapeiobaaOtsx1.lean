/- Written by gen.py: functions and their contracts. -/
import Derived.Test.YtmedbpiapeiobaaOtsx0
namespace Go.Proofs.Ytmedbpiapeiobaa
open Go Go.Eng Go.Proofs
set_option linter.unusedVariables false
set_option linter.unusedSimpArgs false
/-! ### 83: (drogher/ots.key).secret -/
noncomputable def F83_1.m (x1 : Int) (x2 : (Arr Int 20)) (x3 : Int) (x4 : (Arr Int 32)) : Option (Arr Int 32) :=
  ((F84.m (x1) (x2) ((IntKind.wrap .u16 x3)) ([[(255 : Int)], (subL (x4).l (0 : Int) ((32 : Nat) : Int))])).bind fun y11 => some y11)
set_option maxRecDepth 100000 in
set_option maxHeartbeats 4000000 in
theorem F83_1.spec (x1 : Int) (x2 : (Arr Int 20)) (x3 : Int) (x4 : (Arr Int 32)) (r : (Arr Int 32)) (hm : F83_1.m x1 x2 x3 x4 = some r) :
    Ctr Try.prog false 83 [.agg (flat [Seg.c (.int .u32 x1), Seg.of (Enc.arr 20 (Enc.int .u8)) x2]).toArray, .int .i64 x3, .agg (((Enc.arr 32 (Enc.int .u8))).enc x4).toArray] [] (fun v L' => v = .agg (((Enc.arr 32 (Enc.int .u8))).enc r).toArray ∧ L' = []) := by
  refine Ctr.intro (n := 14) (env := [(0, .agg (flat [Seg.c (.int .u32 x1), Seg.of (Enc.arr 20 (Enc.int .u8)) x2]).toArray), (1, .int .i64 x3), (2, .agg (((Enc.arr 32 (Enc.int .u8))).enc x4).toArray)]) Try.func83 rfl rfl rfl rfl (fun c => ?_)
  unfold F83_1.m at hm
  refine JC.seq ?_
  refine JC.region ?_
  refine JL.mv (d := some 3) (MV.box [Seg.c (.int .u32 x1), Seg.of (Enc.arr 20 (Enc.int .u8)) x2] rfl (fun w hs => rfl)) rfl rfl rfl ?_
  rintro _ _ ⟨b6, rfl, rfl⟩
  refine JL.mv (d := some 5) (MV.box [Seg.of (Enc.arr 32 (Enc.int .u8)) x4] rfl (fun w hs => rfl)) rfl rfl rfl ?_
  rintro _ _ ⟨b7, rfl, rfl⟩
  refine JL.mv (d := some 6) (MV.alloc [Seg.of (Enc.arr 32 (Enc.int .u8)) (Arr.rep 32 (0 : Int))] z_41 rfl) rfl rfl rfl ?_
  rintro _ _ ⟨b8, rfl, rfl⟩
  refine JL.nil ?_
  refine QJ.then_normal ?_
  refine JC.seq ?_
  refine JC.regionT [Asr.blk b7 41 [Seg.of (Enc.arr 32 (Enc.int .u8)) x4], Asr.blk b6 114 [Seg.c (.int .u32 x1), Seg.of (Enc.arr 20 (Enc.int .u8)) x2]] (fun t => false) [(0, true), (1, true), (2, true), (4, true), (3, false), (5, false), (6, false), (7, false)] (by kernel_rfl) (by kernel_rfl) (by kernel_rfl) rfl (fun hsel => ?_)
  refine JT.take (i := 0) (v := .agg (flat [Seg.c (.int .u32 x1), Seg.of (Enc.arr 20 (Enc.int .u8)) x2]).toArray) hsel rfl (QV.eq (QV.loadN (ss := [Seg.c (.int .u32 x1), Seg.of (Enc.arr 20 (Enc.int .u8)) x2]) 1 0 2 rfl tk_114 rfl rfl rfl rfl) rfl) rfl rfl rfl [1, 2] rfl rfl ?_
  refine JT.take (i := 1) (v := .int .i64 x3) hsel rfl (QV.move rfl) rfl rfl rfl [1, 2] rfl rfl ?_
  refine JT.take (i := 2) (v := .int .u16 (IntKind.wrap .u16 x3)) hsel rfl (QV.conv rfl (by rw [Try.underlying3]; rfl) Try.underlying36) rfl rfl rfl [1, 2] rfl rfl ?_
  refine JT.take (i := 4) (v := (SlV.sub ((Enc.int .u8)).sz (SlV.mk (some ⟨b7, 0, none⟩) 32 32) (0 : Int) ((32 : Nat) : Int)).v) hsel rfl (QV.sliceB Try.underlying41 tk_5 rfl rfl rfl (by decide)) rfl rfl rfl [1, 2] rfl rfl ?_
  refine JT.only (i := 3) (d := some 10) rfl (MV.lit (E := (Enc.int .u8)) (vals := [(0, .int .u8 (255 : Int))]) [(255 : Int)] Try.underlying22 zi_5 rfl (by decide) rfl (by kernel_rfl)) rfl rfl rfl ?_
  rintro _ _ ⟨z9, rfl, rfl⟩
  refine ⟨fun _ => ⟨[2, 3], rfl, rfl⟩, ?_⟩
  refine JT.grow [Asr.of 5 (Enc.int .u8) (z9.v) [(255 : Int)], Asr.blk b7 41 [Seg.of (Enc.arr 32 (Enc.int .u8)) x4], Asr.blk b6 114 [Seg.c (.int .u32 x1), Seg.of (Enc.arr 20 (Enc.int .u8)) x2]] [1, 2] rfl rfl ?_
  refine JT.only (i := 5) (d := some 12) rfl (MV.lit (E := (NE.sl (Enc.int .u8)).E) (vals := [(0, z9.v), (1, (SlV.sub ((Enc.int .u8)).sz (SlV.mk (some ⟨b7, 0, none⟩) 32 32) (0 : Int) ((32 : Nat) : Int)).v)]) [(z9, [(255 : Int)]), ((SlV.sub ((Enc.int .u8)).sz (SlV.mk (some ⟨b7, 0, none⟩) 32 32) (0 : Int) ((32 : Nat) : Int)), (subL (x4).l (0 : Int) ((32 : Nat) : Int)))] Try.underlying50 zi_22 rfl (by decide) rfl (by kernel_rfl)) rfl rfl rfl ?_
  rintro _ _ ⟨z10, rfl, rfl⟩
  refine ⟨fun _ => ⟨[1, 3, 4], rfl, rfl⟩, ?_⟩
  refine JT.grow [Asr.of 22 (NE.sl (Enc.int .u8)).E (z10.v) [(z9, [(255 : Int)]), ((SlV.sub ((Enc.int .u8)).sz (SlV.mk (some ⟨b7, 0, none⟩) 32 32) (0 : Int) ((32 : Nat) : Int)), (subL (x4).l (0 : Int) ((32 : Nat) : Int)))], Asr.of 5 (Enc.int .u8) (z9.v) [(255 : Int)], Asr.blk b7 41 [Seg.of (Enc.arr 32 (Enc.int .u8)) x4], Asr.blk b6 114 [Seg.c (.int .u32 x1), Seg.of (Enc.arr 20 (Enc.int .u8)) x2]] [1, 2, 3] rfl rfl ?_
  obtain ⟨y11, hc12, hm⟩ := bind_inv hm
  refine JT.only (i := 6) (d := some 13) rfl (MV.call (Lo := []) (Lr := [Asr.of 22 (NE.sl (Enc.int .u8)).E (z10.v) [(z9, [(255 : Int)]), ((SlV.sub ((Enc.int .u8)).sz (SlV.mk (some ⟨b7, 0, none⟩) 32 32) (0 : Int) ((32 : Nat) : Int)), (subL (x4).l (0 : Int) ((32 : Nat) : Int)))], Asr.of 5 (Enc.int .u8) (z9.v) [(255 : Int)], Asr.blk b8 41 [Seg.of (Enc.arr 32 (Enc.int .u8)) (Arr.rep 32 (0 : Int))], Asr.blk b7 41 [Seg.of (Enc.arr 32 (Enc.int .u8)) x4], Asr.blk b6 114 [Seg.c (.int .u32 x1), Seg.of (Enc.arr 20 (Enc.int .u8)) x2]]) (F84.spec (z10) ([z9, (SlV.sub ((Enc.int .u8)).sz (SlV.mk (some ⟨b7, 0, none⟩) 32 32) (0 : Int) ((32 : Nat) : Int))]) (x1) (x2) ((IntKind.wrap .u16 x3)) ([[(255 : Int)], (subL (x4).l (0 : Int) ((32 : Nat) : Int))]) _ hc12) rfl Try.func84 rfl rfl rfl [] [0, 1, 2, 3, 4] rfl rfl rfl ⟨(Drv.lit (zs := [z9, (SlV.sub ((Enc.int .u8)).sz (SlV.mk (some ⟨b7, 0, none⟩) 32 32) (0 : Int) ((32 : Nat) : Int))]) (xs := [[(255 : Int)], (subL (x4).l (0 : Int) ((32 : Nat) : Int))]) 0 rfl rfl ⟨(Drv.of 1 rfl), ⟨((Drv.arr (ss := [Seg.of (Enc.arr 32 (Enc.int .u8)) x4]) 3 0 rfl rfl rfl rfl).subV (by rw [Arr.h]; exact (show 0 ≤ (0 : Int) ∧ (0 : Int) ≤ ((32 : Nat) : Int) ∧ ((32 : Nat) : Int) ≤ ((32 : Nat) : Int) from by decide))), trivial⟩⟩), trivial⟩) rfl rfl rfl ?_
  rintro _ _ ⟨_, ⟨rfl, rfl⟩, rfl⟩
  refine ⟨fun _ => ⟨[0, 1, 3, 4], rfl, rfl⟩, ?_⟩
  refine JT.only (i := 7) (d := none) rfl (MV.store (ss := [Seg.of (Enc.arr 32 (Enc.int .u8)) (Arr.rep 32 (0 : Int))]) 2 0 1 [Seg.of (Enc.arr 32 (Enc.int .u8)) y11] rfl tk_41 rfl rfl rfl rfl (fun w hs => ⟨rfl, one_of _ _, trivial⟩)) rfl rfl rfl ?_
  rintro _ _ ⟨rfl, rfl⟩
  refine ⟨fun _ => ⟨[0, 1, 3, 4], rfl, rfl⟩, ?_⟩
  refine JT.grow [Asr.of 22 (NE.sl (Enc.int .u8)).E (z10.v) [(z9, [(255 : Int)]), ((SlV.sub ((Enc.int .u8)).sz (SlV.mk (some ⟨b7, 0, none⟩) 32 32) (0 : Int) ((32 : Nat) : Int)), (subL (x4).l (0 : Int) ((32 : Nat) : Int)))], Asr.of 5 (Enc.int .u8) (z9.v) [(255 : Int)], Asr.blk b8 41 [Seg.of (Enc.arr 32 (Enc.int .u8)) y11], Asr.blk b7 41 [Seg.of (Enc.arr 32 (Enc.int .u8)) x4], Asr.blk b6 114 [Seg.c (.int .u32 x1), Seg.of (Enc.arr 20 (Enc.int .u8)) x2]] [0, 1, 3, 4] rfl rfl ?_
  refine JT.nil ?_
  refine QJ.then_normal ?_
  refine JC.ret ?_
  obtain rfl := Option.some.inj hm
  exact QJ.body (vs := [.agg (((Enc.arr 32 (Enc.int .u8))).enc y11).toArray]) (.inl rfl) rfl (ResVs.cons (ResV.cell (d := none) (ty := 0) (ps := "") (af := #[]) (g := none) rfl (QV.eq (QV.loadN (ss := [Seg.of (Enc.arr 32 (Enc.int .u8)) y11]) 2 0 1 rfl tk_41 rfl rfl rfl rfl) rfl)) ResVs.nil) [] rfl rfl (.inr trivial) ⟨rfl, rfl⟩

/-! ### 62: drogher/ots.Public -/
noncomputable def F62_1.j1 (x1 : Int) (y13 : (Arr Int 20)) (d19 : List Int) : Option ((Arr Int 32) × Int) :=
  ((F84.m (x1) (y13) ((32896 : Int)) ([d19])).bind fun y21 => some (y21, (0 : Int)))
noncomputable def F62_1.j2 (d24 : List Int) (d25 : Int) (y38 : (Arr Int 32))  : Option ((List Int × Int) ⊕ (List Int)) :=
  (if ((d24).length + ((subL (y38).l (0 : Int) ((32 : Nat) : Int))).length) * 1 ≤ 140737488355328 ∧ (d24).length + ((subL (y38).l (0 : Int) ((32 : Nat) : Int))).length ≤ 9223372036854775807 then some (.inl ((d24 ++ (subL (y38).l (0 : Int) ((32 : Nat) : Int))), (IntKind.wrap .i64 (d25 + (1 : Int))))) else none)
noncomputable def F62_1.b1 (x1 : Int) (x4 : (Arr Int 32)) (y13 : (Arr Int 20)) (y16 : Int) : (List Int × Int) → Option ((List Int × Int) ⊕ (List Int))
  | (d24, d25) => (if d25 < y16 then ((F82.m (x1) (y13)).bind fun y34 => ((F83_1.m (x1) (y13) (d25) (x4)).bind fun y36 => ((F81.m (x1) (y13) (d25) ((0 : Int)) (y34) (y36)).bind fun y38 => F62_1.j2 d24 d25 y38))) else some (.inr d24))
noncomputable def F62_1.m (x1 : Int) (x2 : (Arr Int 16)) (x3 : Int) (x4 : (Arr Int 32)) : Option ((Arr Int 32) × Int) :=
  ((F58.m (x1)).bind fun y10 => (if y10 = (0 : Int) then some (K3, (21 : Int)) else ((F80_1.m (x1) (x2) (x3)).bind fun y13 => ((F60.m (x1)).bind fun y16 => ((loop (F62_1.b1 x1 x4 y13 y16) (([] : List Int), (0 : Int))).bind fun y => match y with | d19 => F62_1.j1 x1 y13 (d19))))))
set_option maxRecDepth 100000 in
set_option maxHeartbeats 4000000 in
theorem F62_1.spec (x1 : Int) (x2 : (Arr Int 16)) (x3 : Int) (x4 : (Arr Int 32)) (r : ((Arr Int 32) × Int)) (hm : F62_1.m x1 x2 x3 x4 = some r) :
    Ctr Try.prog false 62 [.int .u32 x1, .agg (((Enc.arr 16 (Enc.int .u8))).enc x2).toArray, .int .u32 x3, .agg (((Enc.arr 32 (Enc.int .u8))).enc x4).toArray] [] (fun v L' => v = .tuple #[.agg (((Enc.arr 32 (Enc.int .u8))).enc r.1).toArray, .int .i64 r.2] ∧ L' = []) := by
  refine Ctr.intro (n := 44) (env := [(0, .int .u32 x1), (1, .agg (((Enc.arr 16 (Enc.int .u8))).enc x2).toArray), (2, .int .u32 x3), (3, .agg (((Enc.arr 32 (Enc.int .u8))).enc x4).toArray)]) Try.func62 rfl rfl rfl rfl (fun c => ?_)
  unfold F62_1.m at hm
  refine JC.seq ?_
  refine JC.region ?_
  refine JL.mv (d := some 5) (MV.box [Seg.of (Enc.arr 16 (Enc.int .u8)) x2] rfl (fun w hs => rfl)) rfl rfl rfl ?_
  rintro _ _ ⟨b7, rfl, rfl⟩
  refine JL.mv (d := some 7) (MV.box [Seg.of (Enc.arr 32 (Enc.int .u8)) x4] rfl (fun w hs => rfl)) rfl rfl rfl ?_
  rintro _ _ ⟨b8, rfl, rfl⟩
  refine JL.mv (d := some 8) (MV.alloc [Seg.of (Enc.arr 32 (Enc.int .u8)) (Arr.rep 32 (0 : Int))] z_41 rfl) rfl rfl rfl ?_
  rintro _ _ ⟨b9, rfl, rfl⟩
  refine JL.val (v := .int .i64 (0 : Int)) (QV.assign rfl) rfl rfl rfl ?_
  refine JL.nil ?_
  refine QJ.then_normal ?_
  refine JC.seq ?_
  refine JC.seq ?_
  refine JC.region ?_
  refine JL.val (v := .int .u32 x1) (QV.move rfl) rfl rfl rfl ?_
  obtain ⟨y10, hc11, hm⟩ := bind_inv hm
  refine JL.mv (d := some 15) (MV.call (Lo := []) (Lr := [Asr.blk b9 41 [Seg.of (Enc.arr 32 (Enc.int .u8)) (Arr.rep 32 (0 : Int))], Asr.blk b8 41 [Seg.of (Enc.arr 32 (Enc.int .u8)) x4], Asr.blk b7 78 [Seg.of (Enc.arr 16 (Enc.int .u8)) x2]]) (F58.spec (x1) _ hc11) rfl Try.func58 rfl rfl rfl [] [0, 1, 2] rfl rfl rfl trivial) rfl rfl rfl ?_
  rintro _ _ ⟨_, ⟨rfl, rfl⟩, rfl⟩
  refine JL.val (v := .bool (decide (y10 = (0 : Int)))) (QV.eql rfl rfl) rfl rfl rfl ?_
  refine JL.nil ?_
  refine QJ.then_normal ?_
  rcases ite_inv hm with ⟨h12, hm⟩ | ⟨h12, hm⟩
  ·
    refine JC.condT' rfl (decide_eq_true h12) ?_
    refine JC.seq ?_
    refine JC.region ?_
    refine JL.val (v := .agg (((Enc.arr 32 (Enc.int .u8))).enc K3).toArray) (QV.build (vals := []) (cells := ((Enc.arr 32 (Enc.int .u8)).enc K3).toArray) rfl (by kernel_rfl)) rfl rfl rfl ?_
    refine JL.mv (d := none) (MV.store (ss := [Seg.of (Enc.arr 32 (Enc.int .u8)) (Arr.rep 32 (0 : Int))]) 0 0 1 [Seg.of (Enc.arr 32 (Enc.int .u8)) K3] rfl tk_41 rfl rfl rfl rfl (fun w hs => ⟨rfl, one_of _ _, trivial⟩)) rfl rfl rfl ?_
    rintro _ _ ⟨rfl, rfl⟩
    refine JL.val (v := .int .i64 (21 : Int)) (QV.assign rfl) rfl rfl rfl ?_
    refine JL.nil ?_
    refine QJ.then_normal ?_
    refine JC.ret ?_
    refine QJ.then_ret ?_
    obtain rfl := Option.some.inj hm
    exact QJ.body (vs := [.agg (((Enc.arr 32 (Enc.int .u8))).enc K3).toArray, .int .i64 (21 : Int)]) (.inl rfl) rfl (ResVs.cons (ResV.cell (d := none) (ty := 0) (ps := "") (af := #[]) (g := none) rfl (QV.eq (QV.loadN (ss := [Seg.of (Enc.arr 32 (Enc.int .u8)) K3]) 0 0 1 rfl tk_41 rfl rfl rfl rfl) rfl)) (ResVs.cons (ResV.tmp rfl) ResVs.nil)) [] rfl rfl (.inr trivial) ⟨rfl, rfl⟩
  ·
    refine JC.condF' rfl (decide_eq_false h12) ?_
    refine JC.skip ?_
    refine QJ.then_normal ?_
    refine JC.seq ?_
    refine JC.region ?_
    refine JL.val (v := .int .u32 x1) (QV.move rfl) rfl rfl rfl ?_
    refine JL.val (v := .agg (((Enc.arr 16 (Enc.int .u8))).enc x2).toArray) (QV.eq (QV.loadN (ss := [Seg.of (Enc.arr 16 (Enc.int .u8)) x2]) 2 0 1 rfl tk_78 rfl rfl rfl rfl) rfl) rfl rfl rfl ?_
    refine JL.val (v := .int .u32 x3) (QV.move rfl) rfl rfl rfl ?_
    obtain ⟨y13, hc14, hm⟩ := bind_inv hm
    refine JL.mv (d := some 21) (MV.call (Lo := []) (Lr := [Asr.blk b9 41 [Seg.of (Enc.arr 32 (Enc.int .u8)) (Arr.rep 32 (0 : Int))], Asr.blk b8 41 [Seg.of (Enc.arr 32 (Enc.int .u8)) x4], Asr.blk b7 78 [Seg.of (Enc.arr 16 (Enc.int .u8)) x2]]) (F80_1.spec (x1) (x2) (x3) _ hc14) rfl Try.func80 rfl rfl rfl [] [0, 1, 2] rfl rfl rfl trivial) rfl rfl rfl ?_
    rintro _ _ ⟨_, ⟨rfl, rfl⟩, rfl⟩
    refine JL.mv (d := some 10) (MV.alloc [Seg.c (.int .u32 (0 : Int)), Seg.of (Enc.arr 20 (Enc.int .u8)) (Arr.rep 20 (0 : Int))] z_114 rfl) rfl rfl rfl ?_
    rintro _ _ ⟨b15, rfl, rfl⟩
    refine JL.mv (d := none) (MV.store (ss := [Seg.c (.int .u32 (0 : Int)), Seg.of (Enc.arr 20 (Enc.int .u8)) (Arr.rep 20 (0 : Int))]) 0 0 2 [Seg.c (.int .u32 x1), Seg.of (Enc.arr 20 (Enc.int .u8)) y13] rfl tk_114 rfl rfl rfl rfl (fun w hs => ⟨rfl, one_c rfl, one_of _ _, trivial⟩)) rfl rfl rfl ?_
    rintro _ _ ⟨rfl, rfl⟩
    refine JL.nil ?_
    refine QJ.then_normal ?_
    refine JC.seq ?_
    refine JC.region ?_
    refine JL.ent (fun _ hs => hs.nil 5 (Enc.int .u8)) ?_
    refine JL.val (v := SlV.nil.v) (QV.assign rfl) rfl rfl rfl ?_
    refine JL.nil ?_
    refine QJ.then_normal ?_
    refine JC.seq ?_
    refine JC.seq ?_
    refine JC.region ?_
    refine JL.val (v := .int .u32 x1) (QV.move rfl) rfl rfl rfl ?_
    obtain ⟨y16, hc17, hm⟩ := bind_inv hm
    refine JL.mv (d := some 23) (MV.call (Lo := []) (Lr := [Asr.of 5 (Enc.int .u8) (SlV.nil.v) ([] : List Int), Asr.blk b15 114 [Seg.c (.int .u32 x1), Seg.of (Enc.arr 20 (Enc.int .u8)) y13], Asr.blk b9 41 [Seg.of (Enc.arr 32 (Enc.int .u8)) (Arr.rep 32 (0 : Int))], Asr.blk b8 41 [Seg.of (Enc.arr 32 (Enc.int .u8)) x4], Asr.blk b7 78 [Seg.of (Enc.arr 16 (Enc.int .u8)) x2]]) (F60.spec (x1) _ hc17) rfl Try.func60 rfl rfl rfl [] [0, 1, 2, 3, 4] rfl rfl rfl trivial) rfl rfl rfl ?_
    rintro _ _ ⟨_, ⟨rfl, rfl⟩, rfl⟩
    refine JL.val (v := .int .i64 (0 : Int)) (QV.move rfl) rfl rfl rfl ?_
    refine JL.nil ?_
    refine QJ.then_normal ?_
    refine JC.cutK (Y := (List Int) × SlV) (fun y => match y with | (d19, _) => F62_1.j1 x1 y13 (d19) = some r) (fun y => match y with | (d19, z18) => [(8, .pointer (some ⟨b9, 0, none⟩)), (10, .pointer (some ⟨b15, 0, none⟩)), (11, z18.v)]) (fun y => match y with | (d19, z18) => [Asr.blk b9 41 [Seg.of (Enc.arr 32 (Enc.int .u8)) (Arr.rep 32 (0 : Int))], Asr.blk b15 114 [Seg.c (.int .u32 x1), Seg.of (Enc.arr 20 (Enc.int .u8)) y13], Asr.of 5 (Enc.int .u8) (z18.v) d19]) ?_ ?_
    ·
      rintro ⟨d19, z18⟩ hm
      unfold F62_1.j1 at hm
      show QJ _ _ [(8, .pointer (some ⟨b9, 0, none⟩)), (10, .pointer (some ⟨b15, 0, none⟩)), (11, z18.v)] [Asr.blk b9 41 [Seg.of (Enc.arr 32 (Enc.int .u8)) (Arr.rep 32 (0 : Int))], Asr.blk b15 114 [Seg.c (.int .u32 x1), Seg.of (Enc.arr 20 (Enc.int .u8)) y13], Asr.of 5 (Enc.int .u8) (z18.v) d19] _ _
      refine QJ.then_normal ?_
      refine JC.seq ?_
      refine JC.region ?_
      refine JL.val (v := .agg (flat [Seg.c (.int .u32 x1), Seg.of (Enc.arr 20 (Enc.int .u8)) y13]).toArray) (QV.eq (QV.loadN (ss := [Seg.c (.int .u32 x1), Seg.of (Enc.arr 20 (Enc.int .u8)) y13]) 1 0 2 rfl tk_114 rfl rfl rfl rfl) rfl) rfl rfl rfl ?_
      refine JL.val (v := z18.v) (QV.move rfl) rfl rfl rfl ?_
      refine JL.mv (d := some 42) (MV.lit (E := (NE.sl (Enc.int .u8)).E) (vals := [(0, z18.v)]) [(z18, d19)] Try.underlying50 zi_22 rfl (by decide) rfl (by kernel_rfl)) rfl rfl rfl ?_
      rintro _ _ ⟨z20, rfl, rfl⟩
      obtain ⟨y21, hc22, hm⟩ := bind_inv hm
      refine JL.mv (d := some 43) (MV.call (Lo := []) (Lr := [Asr.of 22 (NE.sl (Enc.int .u8)).E (z20.v) [(z18, d19)], Asr.blk b9 41 [Seg.of (Enc.arr 32 (Enc.int .u8)) (Arr.rep 32 (0 : Int))], Asr.blk b15 114 [Seg.c (.int .u32 x1), Seg.of (Enc.arr 20 (Enc.int .u8)) y13], Asr.of 5 (Enc.int .u8) (z18.v) d19]) (F84.spec (z20) ([z18]) (x1) (y13) ((32896 : Int)) ([d19]) _ hc22) rfl Try.func84 rfl rfl rfl [] [0, 1, 2, 3] rfl rfl rfl ⟨(Drv.lit (zs := [z18]) (xs := [d19]) 0 rfl rfl ⟨(Drv.of 3 rfl), trivial⟩), trivial⟩) rfl rfl rfl ?_
      rintro _ _ ⟨_, ⟨rfl, rfl⟩, rfl⟩
      refine JL.mv (d := none) (MV.store (ss := [Seg.of (Enc.arr 32 (Enc.int .u8)) (Arr.rep 32 (0 : Int))]) 1 0 1 [Seg.of (Enc.arr 32 (Enc.int .u8)) y21] rfl tk_41 rfl rfl rfl rfl (fun w hs => ⟨rfl, one_of _ _, trivial⟩)) rfl rfl rfl ?_
      rintro _ _ ⟨rfl, rfl⟩
      refine JL.val (v := .int .i64 (0 : Int)) (QV.assign rfl) rfl rfl rfl ?_
      refine JL.nil ?_
      refine QJ.then_normal ?_
      refine JC.ret ?_
      obtain rfl := Option.some.inj hm
      exact QJ.body (vs := [.agg (((Enc.arr 32 (Enc.int .u8))).enc y21).toArray, .int .i64 (0 : Int)]) (.inl rfl) rfl (ResVs.cons (ResV.cell (d := none) (ty := 0) (ps := "") (af := #[]) (g := none) rfl (QV.eq (QV.loadN (ss := [Seg.of (Enc.arr 32 (Enc.int .u8)) y21]) 1 0 1 rfl tk_41 rfl rfl rfl rfl) rfl)) (ResVs.cons (ResV.tmp rfl) ResVs.nil)) [] rfl rfl (.inr trivial) ⟨rfl, rfl⟩
    ·
      refine JC.block ?_
      obtain ⟨y29, hl30, hmo31⟩ := bind_inv hm
      refine JC.loop (F62_1.b1 x1 x4 y13 y16) (fun x z => match x, z with | (d24, d25), z23 => [(7, .pointer (some ⟨b8, 0, none⟩)), (8, .pointer (some ⟨b9, 0, none⟩)), (10, .pointer (some ⟨b15, 0, none⟩)), (11, z23.v), (23, .int .i64 y16), (24, .int .i64 d25)]) (fun x z => match x, z with | (d24, d25), z23 => [Asr.blk b8 41 [Seg.of (Enc.arr 32 (Enc.int .u8)) x4], Asr.blk b9 41 [Seg.of (Enc.arr 32 (Enc.int .u8)) (Arr.rep 32 (0 : Int))], Asr.blk b15 114 [Seg.c (.int .u32 x1), Seg.of (Enc.arr 20 (Enc.int .u8)) y13], Asr.of 5 (Enc.int .u8) (z23.v) d24]) (([] : List Int), (0 : Int)) SlV.nil y29 hl30 [3, 2, 1, 0] (by exact ⟨rfl, rfl, rfl, rfl, rfl, rfl, trivial⟩) rfl rfl ?_
      rintro ⟨d24, d25⟩ z23 s32 hm
      unfold F62_1.b1 at hm
      dsimp only at hm
      show JC _ _ _ [(7, .pointer (some ⟨b8, 0, none⟩)), (8, .pointer (some ⟨b9, 0, none⟩)), (10, .pointer (some ⟨b15, 0, none⟩)), (11, z23.v), (23, .int .i64 y16), (24, .int .i64 d25)] [Asr.blk b8 41 [Seg.of (Enc.arr 32 (Enc.int .u8)) x4], Asr.blk b9 41 [Seg.of (Enc.arr 32 (Enc.int .u8)) (Arr.rep 32 (0 : Int))], Asr.blk b15 114 [Seg.c (.int .u32 x1), Seg.of (Enc.arr 20 (Enc.int .u8)) y13], Asr.of 5 (Enc.int .u8) (z23.v) d24] _ _
      refine JC.seq ?_
      refine JC.region ?_
      refine JL.val (v := .bool (decide (d25 < y16))) (QV.lss rfl rfl) rfl rfl rfl ?_
      refine JL.nil ?_
      refine QJ.then_normal ?_
      refine JC.seq ?_
      rcases ite_inv hm with ⟨h33, hm⟩ | ⟨h33, hm⟩
      ·
        refine JC.condT' rfl (decide_eq_true h33) ?_
        refine JC.skip ?_
        refine QJ.then_normal ?_
        refine JC.seq ?_
        refine JC.block ?_
        refine JC.seq ?_
        refine JC.region ?_
        refine JL.val (v := .int .i64 d25) (QV.move rfl) rfl rfl rfl ?_
        refine JL.val (v := .int .i64 d25) (QV.assign rfl) rfl rfl rfl ?_
        refine JL.nil ?_
        refine QJ.then_normal ?_
        refine JC.seq ?_
        obtain ⟨y34, hc35, hm⟩ := bind_inv hm
        obtain ⟨y36, hc37, hm⟩ := bind_inv hm
        obtain ⟨y38, hc39, hm⟩ := bind_inv hm
        refine JC.cutK (Y := Unit × Nat) (fun y => match y with | (_, _) => F62_1.j2 d24 d25 y38 = some s32) (fun y => match y with | (_, z41) => [(7, .pointer (some ⟨b8, 0, none⟩)), (8, .pointer (some ⟨b9, 0, none⟩)), (10, .pointer (some ⟨b15, 0, none⟩)), (11, z23.v), (13, .pointer (some ⟨z41, 0, none⟩)), (23, .int .i64 y16), (24, .int .i64 d25)]) (fun y => match y with | (_, z41) => [Asr.blk b8 41 [Seg.of (Enc.arr 32 (Enc.int .u8)) x4], Asr.blk b9 41 [Seg.of (Enc.arr 32 (Enc.int .u8)) (Arr.rep 32 (0 : Int))], Asr.blk b15 114 [Seg.c (.int .u32 x1), Seg.of (Enc.arr 20 (Enc.int .u8)) y13], Asr.of 5 (Enc.int .u8) (z23.v) d24, Asr.blk z41 41 [Seg.of (Enc.arr 32 (Enc.int .u8)) y38]]) ?_ ?_
        ·
          rintro ⟨⟨⟩, z41⟩ hm
          unfold F62_1.j2 at hm
          show QJ _ _ [(7, .pointer (some ⟨b8, 0, none⟩)), (8, .pointer (some ⟨b9, 0, none⟩)), (10, .pointer (some ⟨b15, 0, none⟩)), (11, z23.v), (13, .pointer (some ⟨z41, 0, none⟩)), (23, .int .i64 y16), (24, .int .i64 d25)] [Asr.blk b8 41 [Seg.of (Enc.arr 32 (Enc.int .u8)) x4], Asr.blk b9 41 [Seg.of (Enc.arr 32 (Enc.int .u8)) (Arr.rep 32 (0 : Int))], Asr.blk b15 114 [Seg.c (.int .u32 x1), Seg.of (Enc.arr 20 (Enc.int .u8)) y13], Asr.of 5 (Enc.int .u8) (z23.v) d24, Asr.blk z41 41 [Seg.of (Enc.arr 32 (Enc.int .u8)) y38]] _ _
          refine QJ.then_normal ?_
          refine JC.region ?_
          refine JL.val (v := z23.v) (QV.move rfl) rfl rfl rfl ?_
          refine JL.val (v := (SlV.sub ((Enc.int .u8)).sz (SlV.mk (some ⟨z41, 0, none⟩) 32 32) (0 : Int) ((32 : Nat) : Int)).v) (QV.sliceB Try.underlying41 tk_5 rfl rfl rfl (by decide)) rfl rfl rfl ?_
          obtain ⟨h42, hm⟩ := guard_inv hm
          refine JL.mv (d := some 38) (MV.append 3 rfl (Rdg.ofDrv ((Drv.arr (ss := [Seg.of (Enc.arr 32 (Enc.int .u8)) y38]) 4 0 rfl rfl rfl rfl).subV (by rw [Arr.h]; exact (show 0 ≤ (0 : Int) ∧ (0 : Int) ≤ ((32 : Nat) : Int) ∧ ((32 : Nat) : Int) ≤ ((32 : Nat) : Int) from by decide)))) Try.underlying22 zi_5 rfl (by decide) rfl rfl h42) rfl rfl rfl ?_
          rintro _ _ ⟨z43, rfl, rfl⟩
          refine JL.val (v := z43.v) (QV.assign rfl) rfl rfl rfl ?_
          refine JL.nil ?_
          refine QJ.block_normal ?_
          refine QJ.then_normal ?_
          refine JC.region ?_
          refine JL.val (v := .int .i64 (IntKind.wrap .i64 (d25 + (1 : Int)))) (QV.add rfl rfl) rfl rfl rfl ?_
          refine JL.val (v := .int .i64 (IntKind.wrap .i64 (d25 + (1 : Int)))) (QV.move rfl) rfl rfl rfl ?_
          refine JL.nil ?_
          obtain rfl := Option.some.inj hm
          exact QJ.round_on ((d24 ++ (subL (y38).l (0 : Int) ((32 : Nat) : Int))), (IntKind.wrap .i64 (d25 + (1 : Int)))) z43 [0, 1, 2, 3] (by exact ⟨rfl, rfl, rfl, rfl, rfl, rfl, trivial⟩) rfl rfl
        ·
          refine JC.regionU [Asr.blk b8 41 [Seg.of (Enc.arr 32 (Enc.int .u8)) x4], Asr.blk b9 41 [Seg.of (Enc.arr 32 (Enc.int .u8)) (Arr.rep 32 (0 : Int))], Asr.blk b15 114 [Seg.c (.int .u32 x1), Seg.of (Enc.arr 20 (Enc.int .u8)) y13], Asr.of 5 (Enc.int .u8) (z23.v) d24] (fun _ => false) 11 rfl (by kernel_rfl) (by kernel_rfl) (fun hsel => ?_)
          refine JU.take (i := 0) (v := .agg (flat [Seg.c (.int .u32 x1), Seg.of (Enc.arr 20 (Enc.int .u8)) y13]).toArray) hsel rfl (by kernel_rfl) (QV.eq (QV.loadN (ss := [Seg.c (.int .u32 x1), Seg.of (Enc.arr 20 (Enc.int .u8)) y13]) 2 0 2 rfl tk_114 rfl rfl rfl rfl) rfl) rfl rfl rfl [0, 1, 2, 3] rfl rfl ?_
          refine JU.take (i := 1) (v := .int .i64 d25) hsel rfl (by kernel_rfl) (QV.move rfl) rfl rfl rfl [0, 1, 2, 3] rfl rfl ?_
          refine JU.take (i := 2) (v := .agg (flat [Seg.c (.int .u32 x1), Seg.of (Enc.arr 20 (Enc.int .u8)) y13]).toArray) hsel rfl (by kernel_rfl) (QV.eq (QV.loadN (ss := [Seg.c (.int .u32 x1), Seg.of (Enc.arr 20 (Enc.int .u8)) y13]) 2 0 2 rfl tk_114 rfl rfl rfl rfl) rfl) rfl rfl rfl [0, 1, 2, 3] rfl rfl ?_
          refine JU.take (i := 4) (v := .agg (flat [Seg.c (.int .u32 x1), Seg.of (Enc.arr 20 (Enc.int .u8)) y13]).toArray) hsel rfl (by kernel_rfl) (QV.eq (QV.loadN (ss := [Seg.c (.int .u32 x1), Seg.of (Enc.arr 20 (Enc.int .u8)) y13]) 2 0 2 rfl tk_114 rfl rfl rfl rfl) rfl) rfl rfl rfl [0, 1, 2, 3] rfl rfl ?_
          refine JU.take (i := 5) (v := .int .i64 d25) hsel rfl (by kernel_rfl) (QV.move rfl) rfl rfl rfl [0, 1, 2, 3] rfl rfl ?_
          refine JU.take (i := 6) (v := .agg (((Enc.arr 32 (Enc.int .u8))).enc x4).toArray) hsel rfl (by kernel_rfl) (QV.eq (QV.loadN (ss := [Seg.of (Enc.arr 32 (Enc.int .u8)) x4]) 0 0 1 rfl tk_41 rfl rfl rfl rfl) rfl) rfl rfl rfl [0, 1, 2, 3] rfl rfl ?_
          refine JU.any [3, 9] (by kernel_rfl) rfl ?_
          refine ⟨?_, ?_, trivial⟩
          ·
            refine JUo.mv (d := some 30) rfl (MV.call (Lo := []) (Lr := [Asr.blk b8 41 [Seg.of (Enc.arr 32 (Enc.int .u8)) x4], Asr.blk b9 41 [Seg.of (Enc.arr 32 (Enc.int .u8)) (Arr.rep 32 (0 : Int))], Asr.blk b15 114 [Seg.c (.int .u32 x1), Seg.of (Enc.arr 20 (Enc.int .u8)) y13], Asr.of 5 (Enc.int .u8) (z23.v) d24]) (F82.spec (x1) (y13) _ hc35) rfl Try.func82 rfl rfl rfl [] [0, 1, 2, 3] rfl rfl rfl trivial) rfl rfl rfl ?_
            rintro _ _ ⟨_, ⟨rfl, rfl⟩, rfl⟩
            refine ⟨fun _ => ⟨[0, 1, 2, 3], rfl, rfl⟩, ?_⟩
            refine JU.any [7, 9] (by kernel_rfl) rfl ?_
            refine ⟨?_, ?_, trivial⟩
            ·
              refine JUo.mv (d := some 34) rfl (MV.call (Lo := []) (Lr := [Asr.blk b8 41 [Seg.of (Enc.arr 32 (Enc.int .u8)) x4], Asr.blk b9 41 [Seg.of (Enc.arr 32 (Enc.int .u8)) (Arr.rep 32 (0 : Int))], Asr.blk b15 114 [Seg.c (.int .u32 x1), Seg.of (Enc.arr 20 (Enc.int .u8)) y13], Asr.of 5 (Enc.int .u8) (z23.v) d24]) (F83_1.spec (x1) (y13) (d25) (x4) _ hc37) rfl Try.func83 rfl rfl rfl [] [0, 1, 2, 3] rfl rfl rfl trivial) rfl rfl rfl ?_
              rintro _ _ ⟨_, ⟨rfl, rfl⟩, rfl⟩
              refine ⟨fun _ => ⟨[0, 1, 2, 3], rfl, rfl⟩, ?_⟩
              refine JU.any [8, 9] (by kernel_rfl) rfl ?_
              refine ⟨?_, ?_, trivial⟩
              ·
                refine JUo.mv (d := some 35) rfl (MV.call (Lo := []) (Lr := [Asr.blk b8 41 [Seg.of (Enc.arr 32 (Enc.int .u8)) x4], Asr.blk b9 41 [Seg.of (Enc.arr 32 (Enc.int .u8)) (Arr.rep 32 (0 : Int))], Asr.blk b15 114 [Seg.c (.int .u32 x1), Seg.of (Enc.arr 20 (Enc.int .u8)) y13], Asr.of 5 (Enc.int .u8) (z23.v) d24]) (F81.spec (x1) (y13) (d25) ((0 : Int)) (y34) (y36) _ hc39) rfl Try.func81 rfl rfl rfl [] [0, 1, 2, 3] rfl rfl rfl trivial) rfl rfl rfl ?_
                rintro _ _ ⟨_, ⟨rfl, rfl⟩, rfl⟩
                refine ⟨fun _ => ⟨[0, 1, 2, 3], rfl, rfl⟩, ?_⟩
                refine JU.any [9] (by kernel_rfl) rfl ?_
                refine ⟨?_, trivial⟩
                refine JUo.mv (d := some 13) rfl (MV.alloc [Seg.of (Enc.arr 32 (Enc.int .u8)) (Arr.rep 32 (0 : Int))] z_41 rfl) rfl rfl rfl ?_
                rintro _ _ ⟨b44, rfl, rfl⟩
                refine ⟨fun _ => ⟨[1, 2, 3, 4], rfl, rfl⟩, ?_⟩
                refine JU.any [10] (by kernel_rfl) rfl ?_
                refine ⟨?_, trivial⟩
                refine JUo.mv (d := none) rfl (MV.store (ss := [Seg.of (Enc.arr 32 (Enc.int .u8)) (Arr.rep 32 (0 : Int))]) 0 0 1 [Seg.of (Enc.arr 32 (Enc.int .u8)) y38] rfl tk_41 rfl rfl rfl rfl (fun w hs => ⟨rfl, one_of _ _, trivial⟩)) rfl rfl rfl ?_
                rintro _ _ ⟨rfl, rfl⟩
                refine ⟨fun _ => ⟨[1, 2, 3, 4], rfl, rfl⟩, ?_⟩
                refine JU.nil (by kernel_rfl) ?_
                exact QJ.cut_normal ((), b44) hm [1, 2, 3, 4, 0] (by exact ⟨rfl, rfl, rfl, rfl, rfl, rfl, rfl, trivial⟩) rfl rfl
              ·
                refine JUo.mv (d := some 13) rfl (MV.alloc [Seg.of (Enc.arr 32 (Enc.int .u8)) (Arr.rep 32 (0 : Int))] z_41 rfl) rfl rfl rfl ?_
                rintro _ _ ⟨b45, rfl, rfl⟩
                refine ⟨fun _ => ⟨[1, 2, 3, 4], rfl, rfl⟩, ?_⟩
                refine JU.any [8] (by kernel_rfl) rfl ?_
                refine ⟨?_, trivial⟩
                refine JUo.mv (d := some 35) rfl (MV.call (Lo := []) (Lr := [Asr.blk b45 41 [Seg.of (Enc.arr 32 (Enc.int .u8)) (Arr.rep 32 (0 : Int))], Asr.blk b8 41 [Seg.of (Enc.arr 32 (Enc.int .u8)) x4], Asr.blk b9 41 [Seg.of (Enc.arr 32 (Enc.int .u8)) (Arr.rep 32 (0 : Int))], Asr.blk b15 114 [Seg.c (.int .u32 x1), Seg.of (Enc.arr 20 (Enc.int .u8)) y13], Asr.of 5 (Enc.int .u8) (z23.v) d24]) (F81.spec (x1) (y13) (d25) ((0 : Int)) (y34) (y36) _ hc39) rfl Try.func81 rfl rfl rfl [] [0, 1, 2, 3, 4] rfl rfl rfl trivial) rfl rfl rfl ?_
                rintro _ _ ⟨_, ⟨rfl, rfl⟩, rfl⟩
                refine ⟨fun _ => ⟨[1, 2, 3, 4], rfl, rfl⟩, ?_⟩
                refine JU.any [10] (by kernel_rfl) rfl ?_
                refine ⟨?_, trivial⟩
                refine JUo.mv (d := none) rfl (MV.store (ss := [Seg.of (Enc.arr 32 (Enc.int .u8)) (Arr.rep 32 (0 : Int))]) 0 0 1 [Seg.of (Enc.arr 32 (Enc.int .u8)) y38] rfl tk_41 rfl rfl rfl rfl (fun w hs => ⟨rfl, one_of _ _, trivial⟩)) rfl rfl rfl ?_
                rintro _ _ ⟨rfl, rfl⟩
                refine ⟨fun _ => ⟨[1, 2, 3, 4], rfl, rfl⟩, ?_⟩
                refine JU.nil (by kernel_rfl) ?_
                exact QJ.cut_normal ((), b45) hm [1, 2, 3, 4, 0] (by exact ⟨rfl, rfl, rfl, rfl, rfl, rfl, rfl, trivial⟩) rfl rfl
            ·
              refine JUo.mv (d := some 13) rfl (MV.alloc [Seg.of (Enc.arr 32 (Enc.int .u8)) (Arr.rep 32 (0 : Int))] z_41 rfl) rfl rfl rfl ?_
              rintro _ _ ⟨b46, rfl, rfl⟩
              refine ⟨fun _ => ⟨[1, 2, 3, 4], rfl, rfl⟩, ?_⟩
              refine JU.any [7] (by kernel_rfl) rfl ?_
              refine ⟨?_, trivial⟩
              refine JUo.mv (d := some 34) rfl (MV.call (Lo := []) (Lr := [Asr.blk b46 41 [Seg.of (Enc.arr 32 (Enc.int .u8)) (Arr.rep 32 (0 : Int))], Asr.blk b8 41 [Seg.of (Enc.arr 32 (Enc.int .u8)) x4], Asr.blk b9 41 [Seg.of (Enc.arr 32 (Enc.int .u8)) (Arr.rep 32 (0 : Int))], Asr.blk b15 114 [Seg.c (.int .u32 x1), Seg.of (Enc.arr 20 (Enc.int .u8)) y13], Asr.of 5 (Enc.int .u8) (z23.v) d24]) (F83_1.spec (x1) (y13) (d25) (x4) _ hc37) rfl Try.func83 rfl rfl rfl [] [0, 1, 2, 3, 4] rfl rfl rfl trivial) rfl rfl rfl ?_
              rintro _ _ ⟨_, ⟨rfl, rfl⟩, rfl⟩
              refine ⟨fun _ => ⟨[1, 2, 3, 4], rfl, rfl⟩, ?_⟩
              refine JU.any [8] (by kernel_rfl) rfl ?_
              refine ⟨?_, trivial⟩
              refine JUo.mv (d := some 35) rfl (MV.call (Lo := []) (Lr := [Asr.blk b46 41 [Seg.of (Enc.arr 32 (Enc.int .u8)) (Arr.rep 32 (0 : Int))], Asr.blk b8 41 [Seg.of (Enc.arr 32 (Enc.int .u8)) x4], Asr.blk b9 41 [Seg.of (Enc.arr 32 (Enc.int .u8)) (Arr.rep 32 (0 : Int))], Asr.blk b15 114 [Seg.c (.int .u32 x1), Seg.of (Enc.arr 20 (Enc.int .u8)) y13], Asr.of 5 (Enc.int .u8) (z23.v) d24]) (F81.spec (x1) (y13) (d25) ((0 : Int)) (y34) (y36) _ hc39) rfl Try.func81 rfl rfl rfl [] [0, 1, 2, 3, 4] rfl rfl rfl trivial) rfl rfl rfl ?_
              rintro _ _ ⟨_, ⟨rfl, rfl⟩, rfl⟩
              refine ⟨fun _ => ⟨[1, 2, 3, 4], rfl, rfl⟩, ?_⟩
              refine JU.any [10] (by kernel_rfl) rfl ?_
              refine ⟨?_, trivial⟩
              refine JUo.mv (d := none) rfl (MV.store (ss := [Seg.of (Enc.arr 32 (Enc.int .u8)) (Arr.rep 32 (0 : Int))]) 0 0 1 [Seg.of (Enc.arr 32 (Enc.int .u8)) y38] rfl tk_41 rfl rfl rfl rfl (fun w hs => ⟨rfl, one_of _ _, trivial⟩)) rfl rfl rfl ?_
              rintro _ _ ⟨rfl, rfl⟩
              refine ⟨fun _ => ⟨[1, 2, 3, 4], rfl, rfl⟩, ?_⟩
              refine JU.nil (by kernel_rfl) ?_
              exact QJ.cut_normal ((), b46) hm [1, 2, 3, 4, 0] (by exact ⟨rfl, rfl, rfl, rfl, rfl, rfl, rfl, trivial⟩) rfl rfl
          ·
            refine JUo.mv (d := some 13) rfl (MV.alloc [Seg.of (Enc.arr 32 (Enc.int .u8)) (Arr.rep 32 (0 : Int))] z_41 rfl) rfl rfl rfl ?_
            rintro _ _ ⟨b47, rfl, rfl⟩
            refine ⟨fun _ => ⟨[1, 2, 3, 4], rfl, rfl⟩, ?_⟩
            refine JU.any [3] (by kernel_rfl) rfl ?_
            refine ⟨?_, trivial⟩
            refine JUo.mv (d := some 30) rfl (MV.call (Lo := []) (Lr := [Asr.blk b47 41 [Seg.of (Enc.arr 32 (Enc.int .u8)) (Arr.rep 32 (0 : Int))], Asr.blk b8 41 [Seg.of (Enc.arr 32 (Enc.int .u8)) x4], Asr.blk b9 41 [Seg.of (Enc.arr 32 (Enc.int .u8)) (Arr.rep 32 (0 : Int))], Asr.blk b15 114 [Seg.c (.int .u32 x1), Seg.of (Enc.arr 20 (Enc.int .u8)) y13], Asr.of 5 (Enc.int .u8) (z23.v) d24]) (F82.spec (x1) (y13) _ hc35) rfl Try.func82 rfl rfl rfl [] [0, 1, 2, 3, 4] rfl rfl rfl trivial) rfl rfl rfl ?_
            rintro _ _ ⟨_, ⟨rfl, rfl⟩, rfl⟩
            refine ⟨fun _ => ⟨[1, 2, 3, 4], rfl, rfl⟩, ?_⟩
            refine JU.any [7] (by kernel_rfl) rfl ?_
            refine ⟨?_, trivial⟩
            refine JUo.mv (d := some 34) rfl (MV.call (Lo := []) (Lr := [Asr.blk b47 41 [Seg.of (Enc.arr 32 (Enc.int .u8)) (Arr.rep 32 (0 : Int))], Asr.blk b8 41 [Seg.of (Enc.arr 32 (Enc.int .u8)) x4], Asr.blk b9 41 [Seg.of (Enc.arr 32 (Enc.int .u8)) (Arr.rep 32 (0 : Int))], Asr.blk b15 114 [Seg.c (.int .u32 x1), Seg.of (Enc.arr 20 (Enc.int .u8)) y13], Asr.of 5 (Enc.int .u8) (z23.v) d24]) (F83_1.spec (x1) (y13) (d25) (x4) _ hc37) rfl Try.func83 rfl rfl rfl [] [0, 1, 2, 3, 4] rfl rfl rfl trivial) rfl rfl rfl ?_
            rintro _ _ ⟨_, ⟨rfl, rfl⟩, rfl⟩
            refine ⟨fun _ => ⟨[1, 2, 3, 4], rfl, rfl⟩, ?_⟩
            refine JU.any [8] (by kernel_rfl) rfl ?_
            refine ⟨?_, trivial⟩
            refine JUo.mv (d := some 35) rfl (MV.call (Lo := []) (Lr := [Asr.blk b47 41 [Seg.of (Enc.arr 32 (Enc.int .u8)) (Arr.rep 32 (0 : Int))], Asr.blk b8 41 [Seg.of (Enc.arr 32 (Enc.int .u8)) x4], Asr.blk b9 41 [Seg.of (Enc.arr 32 (Enc.int .u8)) (Arr.rep 32 (0 : Int))], Asr.blk b15 114 [Seg.c (.int .u32 x1), Seg.of (Enc.arr 20 (Enc.int .u8)) y13], Asr.of 5 (Enc.int .u8) (z23.v) d24]) (F81.spec (x1) (y13) (d25) ((0 : Int)) (y34) (y36) _ hc39) rfl Try.func81 rfl rfl rfl [] [0, 1, 2, 3, 4] rfl rfl rfl trivial) rfl rfl rfl ?_
            rintro _ _ ⟨_, ⟨rfl, rfl⟩, rfl⟩
            refine ⟨fun _ => ⟨[1, 2, 3, 4], rfl, rfl⟩, ?_⟩
            refine JU.any [10] (by kernel_rfl) rfl ?_
            refine ⟨?_, trivial⟩
            refine JUo.mv (d := none) rfl (MV.store (ss := [Seg.of (Enc.arr 32 (Enc.int .u8)) (Arr.rep 32 (0 : Int))]) 0 0 1 [Seg.of (Enc.arr 32 (Enc.int .u8)) y38] rfl tk_41 rfl rfl rfl rfl (fun w hs => ⟨rfl, one_of _ _, trivial⟩)) rfl rfl rfl ?_
            rintro _ _ ⟨rfl, rfl⟩
            refine ⟨fun _ => ⟨[1, 2, 3, 4], rfl, rfl⟩, ?_⟩
            refine JU.nil (by kernel_rfl) ?_
            exact QJ.cut_normal ((), b47) hm [1, 2, 3, 4, 0] (by exact ⟨rfl, rfl, rfl, rfl, rfl, rfl, rfl, trivial⟩) rfl rfl
      ·
        refine JC.condF' rfl (decide_eq_false h33) ?_
        refine JC.exit ?_
        refine QJ.then_exit ?_
        obtain rfl := Option.some.inj hm
        refine QJ.round_exit (fun hy => ?_)
        subst hy
        refine QJ.block_hit ?_
        exact QJ.cut_normal (d24, z23) hmo31 [1, 2, 3] (by exact ⟨rfl, rfl, rfl, trivial⟩) rfl rfl

/-! ### 89: (drogher/ots.key).digits -/
noncomputable def F89.m (x1 : Int) (x2 : (Arr Int 20)) (x4 : List Int) (x6 : List Int) : Option (List Int) :=
  ((F84.m (x1) (x2) ((33153 : Int)) ([x4, x6])).bind fun y11 => ((F58.m (x1)).bind fun y14 => ((F29.m ((subL (y11).l (0 : Int) ((32 : Nat) : Int))) (y14)).bind fun y16 => ((F25.m ((subL (y11).l (0 : Int) ((32 : Nat) : Int))) ((2 : Int)) ((IntKind.wrap .u64 y16))).bind fun y18 => ((F22.m (y18) (y14)).bind fun y21 => ((F60.m (x1)).bind fun y24 => (if 0 ≤ (0 : Int) ∧ (0 : Int) ≤ y24 ∧ y24 ≤ ((y21).length : Int) then some (subL y21 (0 : Int) y24) else none)))))))
set_option maxRecDepth 100000 in
set_option maxHeartbeats 4000000 in
theorem F89.spec (s3 : SlV) (s5 : SlV) (x1 : Int) (x2 : (Arr Int 20)) (x4 : List Int) (x6 : List Int) (r : (List Int)) (hm : F89.m x1 x2 x4 x6 = some r) :
    Ctr Try.prog false 89 [.agg (flat [Seg.c (.int .u32 x1), Seg.of (Enc.arr 20 (Enc.int .u8)) x2]).toArray, s3.v, s5.v] [Asr.vw (Enc.int .u8) (s3.v) x4, Asr.vw (Enc.int .u8) (s5.v) x6] (fun v L' => ∃ (g7 : SlV), v = g7.v ∧ L' = [Asr.of 3 (Enc.int .i64) (g7.v) r]) := by
  refine Ctr.intro (n := 31) (env := [(0, .agg (flat [Seg.c (.int .u32 x1), Seg.of (Enc.arr 20 (Enc.int .u8)) x2]).toArray), (1, s3.v), (2, s5.v)]) Try.func89 rfl rfl rfl rfl (fun c => ?_)
  unfold F89.m at hm
  refine JC.seq ?_
  refine JC.region ?_
  refine JL.mv (d := some 3) (MV.box [Seg.c (.int .u32 x1), Seg.of (Enc.arr 20 (Enc.int .u8)) x2] rfl (fun w hs => rfl)) rfl rfl rfl ?_
  rintro _ _ ⟨b9, rfl, rfl⟩
  refine JL.ent (fun _ hs => hs.nil 3 (Enc.int .i64)) ?_
  refine JL.val (v := SlV.nil.v) (QV.assign rfl) rfl rfl rfl ?_
  refine JL.nil ?_
  refine QJ.then_normal ?_
  refine JC.seq ?_
  refine JC.region ?_
  refine JL.val (v := .agg (flat [Seg.c (.int .u32 x1), Seg.of (Enc.arr 20 (Enc.int .u8)) x2]).toArray) (QV.eq (QV.loadN (ss := [Seg.c (.int .u32 x1), Seg.of (Enc.arr 20 (Enc.int .u8)) x2]) 1 0 2 rfl tk_114 rfl rfl rfl rfl) rfl) rfl rfl rfl ?_
  refine JL.val (v := s3.v) (QV.move rfl) rfl rfl rfl ?_
  refine JL.val (v := s5.v) (QV.move rfl) rfl rfl rfl ?_
  refine JL.mv (d := some 13) (MV.lit (E := (NE.sl (Enc.int .u8)).E) (vals := [(0, s3.v), (1, s5.v)]) [(s3, x4), (s5, x6)] Try.underlying50 zi_22 rfl (by decide) rfl (by kernel_rfl)) rfl rfl rfl ?_
  rintro _ _ ⟨z10, rfl, rfl⟩
  obtain ⟨y11, hc12, hm⟩ := bind_inv hm
  refine JL.mv (d := some 14) (MV.call (Lo := []) (Lr := [Asr.of 22 (NE.sl (Enc.int .u8)).E (z10.v) [(s3, x4), (s5, x6)], Asr.of 3 (Enc.int .i64) (SlV.nil.v) ([] : List Int), Asr.blk b9 114 [Seg.c (.int .u32 x1), Seg.of (Enc.arr 20 (Enc.int .u8)) x2], Asr.vw (Enc.int .u8) (s3.v) x4, Asr.vw (Enc.int .u8) (s5.v) x6]) (F84.spec (z10) ([s3, s5]) (x1) (x2) ((33153 : Int)) ([x4, x6]) _ hc12) rfl Try.func84 rfl rfl rfl [] [0, 1, 2, 3, 4] rfl rfl rfl ⟨(Drv.lit (zs := [s3, s5]) (xs := [x4, x6]) 0 rfl rfl ⟨(Drv.vw 3 rfl), ⟨(Drv.vw 4 rfl), trivial⟩⟩), trivial⟩) rfl rfl rfl ?_
  rintro _ _ ⟨_, ⟨rfl, rfl⟩, rfl⟩
  refine JL.mv (d := some 7) (MV.alloc [Seg.of (Enc.arr 32 (Enc.int .u8)) (Arr.rep 32 (0 : Int))] z_41 rfl) rfl rfl rfl ?_
  rintro _ _ ⟨b13, rfl, rfl⟩
  refine JL.mv (d := none) (MV.store (ss := [Seg.of (Enc.arr 32 (Enc.int .u8)) (Arr.rep 32 (0 : Int))]) 0 0 1 [Seg.of (Enc.arr 32 (Enc.int .u8)) y11] rfl tk_41 rfl rfl rfl rfl (fun w hs => ⟨rfl, one_of _ _, trivial⟩)) rfl rfl rfl ?_
  rintro _ _ ⟨rfl, rfl⟩
  refine JL.nil ?_
  refine QJ.then_normal ?_
  refine JC.seq ?_
  refine JC.region ?_
  refine JL.val (v := .pointer (some ⟨b9, 0, none⟩)) (QV.fieldB fo_114_0 rfl rfl) rfl rfl rfl ?_
  refine JL.val (v := .int .u32 x1) (QV.load1 (ss := [Seg.c (.int .u32 x1), Seg.of (Enc.arr 20 (Enc.int .u8)) x2]) 3 0 rfl tk_74 rfl rfl rfl) rfl rfl rfl ?_
  obtain ⟨y14, hc15, hm⟩ := bind_inv hm
  refine JL.mv (d := some 17) (MV.call (Lo := []) (Lr := [Asr.blk b13 41 [Seg.of (Enc.arr 32 (Enc.int .u8)) y11], Asr.of 22 (NE.sl (Enc.int .u8)).E (z10.v) [(s3, x4), (s5, x6)], Asr.of 3 (Enc.int .i64) (SlV.nil.v) ([] : List Int), Asr.blk b9 114 [Seg.c (.int .u32 x1), Seg.of (Enc.arr 20 (Enc.int .u8)) x2], Asr.vw (Enc.int .u8) (s3.v) x4, Asr.vw (Enc.int .u8) (s5.v) x6]) (F58.spec (x1) _ hc15) rfl Try.func58 rfl rfl rfl [] [0, 1, 2, 3, 4, 5] rfl rfl rfl trivial) rfl rfl rfl ?_
  rintro _ _ ⟨_, ⟨rfl, rfl⟩, rfl⟩
  refine JL.val (v := .int .i64 y14) (QV.assign rfl) rfl rfl rfl ?_
  refine JL.nil ?_
  refine QJ.then_normal ?_
  refine JC.seq ?_
  refine JC.regionT [Asr.blk b13 41 [Seg.of (Enc.arr 32 (Enc.int .u8)) y11], Asr.of 22 (NE.sl (Enc.int .u8)).E (z10.v) [(s3, x4), (s5, x6)], Asr.of 3 (Enc.int .i64) (SlV.nil.v) ([] : List Int), Asr.blk b9 114 [Seg.c (.int .u32 x1), Seg.of (Enc.arr 20 (Enc.int .u8)) x2], Asr.vw (Enc.int .u8) (s3.v) x4, Asr.vw (Enc.int .u8) (s5.v) x6] (fun t => false) [(0, true), (1, true), (2, false), (3, false), (4, false), (5, false), (6, false)] (by kernel_rfl) (by kernel_rfl) (by kernel_rfl) rfl (fun hsel => ?_)
  refine JT.take (i := 0) (v := (SlV.sub ((Enc.int .u8)).sz (SlV.mk (some ⟨b13, 0, none⟩) 32 32) (0 : Int) ((32 : Nat) : Int)).v) hsel rfl (QV.sliceB Try.underlying41 tk_5 rfl rfl rfl (by decide)) rfl rfl rfl [0, 1, 2, 3, 4, 5] rfl rfl ?_
  refine JT.take (i := 1) (v := (SlV.sub ((Enc.int .u8)).sz (SlV.mk (some ⟨b13, 0, none⟩) 32 32) (0 : Int) ((32 : Nat) : Int)).v) hsel rfl (QV.sliceB Try.underlying41 tk_5 rfl rfl rfl (by decide)) rfl rfl rfl [0, 1, 2, 3, 4, 5] rfl rfl ?_
  refine JT.only (i := 2) (d := some 20) rfl (MV.ofQV (v := .int .i64 y14) (QV.move rfl)) rfl rfl rfl ?_
  rintro _ _ ⟨rfl, rfl⟩
  refine ⟨fun _ => ⟨[0, 1, 2, 3, 4, 5], rfl, rfl⟩, ?_⟩
  obtain ⟨y16, hc17, hm⟩ := bind_inv hm
  refine JT.only (i := 3) (d := some 21) rfl (MV.call (Lo := []) (Lr := [Asr.blk b13 41 [Seg.of (Enc.arr 32 (Enc.int .u8)) y11], Asr.of 22 (NE.sl (Enc.int .u8)).E (z10.v) [(s3, x4), (s5, x6)], Asr.of 3 (Enc.int .i64) (SlV.nil.v) ([] : List Int), Asr.blk b9 114 [Seg.c (.int .u32 x1), Seg.of (Enc.arr 20 (Enc.int .u8)) x2], Asr.vw (Enc.int .u8) (s3.v) x4, Asr.vw (Enc.int .u8) (s5.v) x6]) (F29.spec ((SlV.sub ((Enc.int .u8)).sz (SlV.mk (some ⟨b13, 0, none⟩) 32 32) (0 : Int) ((32 : Nat) : Int))) ((subL (y11).l (0 : Int) ((32 : Nat) : Int))) (y14) _ hc17) rfl Try.func29 rfl rfl rfl [] [0, 1, 2, 3, 4, 5] rfl rfl rfl ⟨((Drv.arr (ss := [Seg.of (Enc.arr 32 (Enc.int .u8)) y11]) 0 0 rfl rfl rfl rfl).subV (by rw [Arr.h]; exact (show 0 ≤ (0 : Int) ∧ (0 : Int) ≤ ((32 : Nat) : Int) ∧ ((32 : Nat) : Int) ≤ ((32 : Nat) : Int) from by decide))), trivial⟩) rfl rfl rfl ?_
  rintro _ _ ⟨_, ⟨rfl, rfl⟩, rfl⟩
  refine ⟨fun _ => ⟨[0, 1, 2, 3, 4, 5], rfl, rfl⟩, ?_⟩
  refine JT.only (i := 4) (d := some 22) rfl (MV.ofQV (v := .int .u64 (IntKind.wrap .u64 y16)) (QV.conv rfl (by rw [Try.underlying36]; rfl) Try.underlying28)) rfl rfl rfl ?_
  rintro _ _ ⟨rfl, rfl⟩
  refine ⟨fun _ => ⟨[0, 1, 2, 3, 4, 5], rfl, rfl⟩, ?_⟩
  obtain ⟨y18, hc19, hm⟩ := bind_inv hm
  refine JT.only (i := 5) (d := some 23) rfl (MV.call (Lo := []) (Lr := [Asr.blk b13 41 [Seg.of (Enc.arr 32 (Enc.int .u8)) y11], Asr.of 22 (NE.sl (Enc.int .u8)).E (z10.v) [(s3, x4), (s5, x6)], Asr.of 3 (Enc.int .i64) (SlV.nil.v) ([] : List Int), Asr.blk b9 114 [Seg.c (.int .u32 x1), Seg.of (Enc.arr 20 (Enc.int .u8)) x2], Asr.vw (Enc.int .u8) (s3.v) x4, Asr.vw (Enc.int .u8) (s5.v) x6]) (F25.spec ((SlV.sub ((Enc.int .u8)).sz (SlV.mk (some ⟨b13, 0, none⟩) 32 32) (0 : Int) ((32 : Nat) : Int))) ((subL (y11).l (0 : Int) ((32 : Nat) : Int))) ((2 : Int)) ((IntKind.wrap .u64 y16)) _ hc19) rfl Try.func25 rfl rfl rfl [] [0, 1, 2, 3, 4, 5] rfl rfl rfl ⟨((Drv.arr (ss := [Seg.of (Enc.arr 32 (Enc.int .u8)) y11]) 0 0 rfl rfl rfl rfl).subV (by rw [Arr.h]; exact (show 0 ≤ (0 : Int) ∧ (0 : Int) ≤ ((32 : Nat) : Int) ∧ ((32 : Nat) : Int) ≤ ((32 : Nat) : Int) from by decide))), trivial⟩) rfl rfl rfl ?_
  rintro _ _ ⟨_, ⟨z20, rfl, rfl⟩, rfl⟩
  refine ⟨fun _ => ⟨[1, 2, 3, 4, 5, 6], rfl, rfl⟩, ?_⟩
  refine JT.grow [Asr.of 5 (Enc.int .u8) (z20.v) y18, Asr.blk b13 41 [Seg.of (Enc.arr 32 (Enc.int .u8)) y11], Asr.of 22 (NE.sl (Enc.int .u8)).E (z10.v) [(s3, x4), (s5, x6)], Asr.of 3 (Enc.int .i64) (SlV.nil.v) ([] : List Int), Asr.blk b9 114 [Seg.c (.int .u32 x1), Seg.of (Enc.arr 20 (Enc.int .u8)) x2], Asr.vw (Enc.int .u8) (s3.v) x4, Asr.vw (Enc.int .u8) (s5.v) x6] [1, 2, 3, 4, 5, 6] rfl rfl ?_
  refine JT.only (i := 6) (d := some 9) rfl (MV.ofQV (v := z20.v) (QV.assign rfl)) rfl rfl rfl ?_
  rintro _ _ ⟨rfl, rfl⟩
  refine ⟨fun _ => ⟨[0, 1, 2, 3, 4, 5, 6], rfl, rfl⟩, ?_⟩
  refine JT.nil ?_
  refine QJ.then_normal ?_
  refine JC.seq ?_
  refine JC.regionT [Asr.of 5 (Enc.int .u8) (z20.v) y18, Asr.blk b13 41 [Seg.of (Enc.arr 32 (Enc.int .u8)) y11], Asr.of 22 (NE.sl (Enc.int .u8)).E (z10.v) [(s3, x4), (s5, x6)], Asr.of 3 (Enc.int .i64) (SlV.nil.v) ([] : List Int), Asr.blk b9 114 [Seg.c (.int .u32 x1), Seg.of (Enc.arr 20 (Enc.int .u8)) x2], Asr.vw (Enc.int .u8) (s3.v) x4, Asr.vw (Enc.int .u8) (s5.v) x6] (fun t => false) [(0, true), (1, true), (3, true), (4, true), (2, false), (5, false), (6, false), (7, false)] (by kernel_rfl) (by kernel_rfl) (by kernel_rfl) rfl (fun hsel => ?_)
  refine JT.take (i := 0) (v := z20.v) hsel rfl (QV.move rfl) rfl rfl rfl [0, 1, 2, 3, 4, 5, 6] rfl rfl ?_
  refine JT.take (i := 1) (v := .int .i64 y14) hsel rfl (QV.move rfl) rfl rfl rfl [0, 1, 2, 3, 4, 5, 6] rfl rfl ?_
  refine JT.take (i := 3) (v := .pointer (some ⟨b9, 0, none⟩)) hsel rfl (QV.fieldB fo_114_0 rfl rfl) rfl rfl rfl [0, 1, 2, 3, 4, 5, 6] rfl rfl ?_
  refine JT.take (i := 4) (v := .int .u32 x1) hsel rfl (QV.load1 (ss := [Seg.c (.int .u32 x1), Seg.of (Enc.arr 20 (Enc.int .u8)) x2]) 4 0 rfl tk_74 rfl rfl rfl) rfl rfl rfl [0, 1, 2, 3, 4, 5, 6] rfl rfl ?_
  obtain ⟨y21, hc22, hm⟩ := bind_inv hm
  refine JT.only (i := 2) (d := some 26) rfl (MV.call (Lo := []) (Lr := [Asr.of 5 (Enc.int .u8) (z20.v) y18, Asr.blk b13 41 [Seg.of (Enc.arr 32 (Enc.int .u8)) y11], Asr.of 22 (NE.sl (Enc.int .u8)).E (z10.v) [(s3, x4), (s5, x6)], Asr.of 3 (Enc.int .i64) (SlV.nil.v) ([] : List Int), Asr.blk b9 114 [Seg.c (.int .u32 x1), Seg.of (Enc.arr 20 (Enc.int .u8)) x2], Asr.vw (Enc.int .u8) (s3.v) x4, Asr.vw (Enc.int .u8) (s5.v) x6]) (F22.spec (z20) (y18) (y14) _ hc22) rfl Try.func22 rfl rfl rfl [] [0, 1, 2, 3, 4, 5, 6] rfl rfl rfl ⟨(Drv.of 0 rfl), trivial⟩) rfl rfl rfl ?_
  rintro _ _ ⟨_, ⟨z23, rfl, rfl⟩, rfl⟩
  refine ⟨fun _ => ⟨[1, 2, 3, 4, 5, 6, 7], rfl, rfl⟩, ?_⟩
  refine JT.grow [Asr.of 3 (Enc.int .i64) (z23.v) y21, Asr.of 5 (Enc.int .u8) (z20.v) y18, Asr.blk b13 41 [Seg.of (Enc.arr 32 (Enc.int .u8)) y11], Asr.of 22 (NE.sl (Enc.int .u8)).E (z10.v) [(s3, x4), (s5, x6)], Asr.of 3 (Enc.int .i64) (SlV.nil.v) ([] : List Int), Asr.blk b9 114 [Seg.c (.int .u32 x1), Seg.of (Enc.arr 20 (Enc.int .u8)) x2], Asr.vw (Enc.int .u8) (s3.v) x4, Asr.vw (Enc.int .u8) (s5.v) x6] [1, 2, 3, 4, 5, 6, 7] rfl rfl ?_
  obtain ⟨y24, hc25, hm⟩ := bind_inv hm
  refine JT.only (i := 5) (d := some 29) rfl (MV.call (Lo := []) (Lr := [Asr.of 3 (Enc.int .i64) (z23.v) y21, Asr.of 5 (Enc.int .u8) (z20.v) y18, Asr.blk b13 41 [Seg.of (Enc.arr 32 (Enc.int .u8)) y11], Asr.of 22 (NE.sl (Enc.int .u8)).E (z10.v) [(s3, x4), (s5, x6)], Asr.of 3 (Enc.int .i64) (SlV.nil.v) ([] : List Int), Asr.blk b9 114 [Seg.c (.int .u32 x1), Seg.of (Enc.arr 20 (Enc.int .u8)) x2], Asr.vw (Enc.int .u8) (s3.v) x4, Asr.vw (Enc.int .u8) (s5.v) x6]) (F60.spec (x1) _ hc25) rfl Try.func60 rfl rfl rfl [] [0, 1, 2, 3, 4, 5, 6, 7] rfl rfl rfl trivial) rfl rfl rfl ?_
  rintro _ _ ⟨_, ⟨rfl, rfl⟩, rfl⟩
  refine ⟨fun _ => ⟨[0, 1, 2, 3, 4, 5, 6, 7], rfl, rfl⟩, ?_⟩
  obtain ⟨h26, hm⟩ := guard_inv hm
  refine JT.only (i := 6) (d := some 30) rfl (MV.ofQV (v := (SlV.sub ((Enc.int .i64)).sz z23 (0 : Int) y24).v) (QV.sliceV (Rdg.of 0 rfl) Try.underlying24 tk_3 rfl rfl rfl h26)) rfl rfl rfl ?_
  rintro _ _ ⟨rfl, rfl⟩
  refine ⟨fun _ => ⟨[0, 1, 2, 3, 4, 5, 6, 7], rfl, rfl⟩, ?_⟩
  refine JT.only (i := 7) (d := some 6) rfl (MV.ofQV (v := (SlV.sub ((Enc.int .i64)).sz z23 (0 : Int) y24).v) (QV.assign rfl)) rfl rfl rfl ?_
  rintro _ _ ⟨rfl, rfl⟩
  refine ⟨fun _ => ⟨[0, 1, 2, 3, 4, 5, 6, 7], rfl, rfl⟩, ?_⟩
  refine JT.nil ?_
  refine QJ.then_normal ?_
  refine JC.ret ?_
  obtain rfl := Option.some.inj hm
  refine QJ.ent (fun _ hs => hs.trunc 0 rfl h26) ?_
  exact QJ.body (vs := [(SlV.sub ((Enc.int .i64)).sz z23 (0 : Int) y24).v]) (.inl rfl) rfl (ResVs.cons (ResV.tmp rfl) ResVs.nil) [0] rfl rfl (.inr ⟨own_of _ _ _ _, trivial⟩) ⟨((SlV.sub ((Enc.int .i64)).sz z23 (0 : Int) y24)), rfl, rfl⟩

/-! ### 65: drogher/ots.Sign -/
noncomputable def F65.j1  (d30 : List Int) : Option (List Int × Int) :=
  some (d30, (0 : Int))
noncomputable def F65.j2 (d32 : List Int) (d33 : Int) (y45 : (Arr Int 32))  : Option ((List Int × Int) ⊕ (List Int)) :=
  (if ((d32).length + ((subL (y45).l (0 : Int) ((32 : Nat) : Int))).length) * 1 ≤ 140737488355328 ∧ (d32).length + ((subL (y45).l (0 : Int) ((32 : Nat) : Int))).length ≤ 9223372036854775807 then some (.inl ((d32 ++ (subL (y45).l (0 : Int) ((32 : Nat) : Int))), (IntKind.wrap .i64 (d33 + (1 : Int))))) else none)
noncomputable def F65.b1 (x1 : Int) (x4 : (Arr Int 32)) (y15 : (Arr Int 20)) (y26 : (List Int)) : (List Int × Int) → Option ((List Int × Int) ⊕ (List Int))
  | (d32, d33) => (if d33 < ((y26).length : Int) then (if 0 ≤ d33 ∧ d33 < ((y26).length : Int) then ((F83_1.m (x1) (y15) (d33) (x4)).bind fun y43 => ((F81.m (x1) (y15) (d33) ((0 : Int)) ((gd y26 d33)) (y43)).bind fun y45 => F65.j2 d32 d33 y45)) else none) else some (.inr d32))
noncomputable def F65.m (x1 : Int) (x2 : (Arr Int 16)) (x3 : Int) (x4 : (Arr Int 32)) (x6 : List Int) : Option (List Int × Int) :=
  ((F58.m (x1)).bind fun y12 => (if y12 = (0 : Int) then some (([] : List Int), (21 : Int)) else ((F80_1.m (x1) (x2) (x3)).bind fun y15 => ((F83_1.m (x1) (y15) ((65533 : Int)) (x4)).bind fun y18 => ((F25.m (([] : List Int)) ((4 : Int)) ((IntKind.wrap .u64 x1))).bind fun y21 => (if ((y21).length + ((subL (y18).l (0 : Int) ((32 : Nat) : Int))).length) * 1 ≤ 140737488355328 ∧ (y21).length + ((subL (y18).l (0 : Int) ((32 : Nat) : Int))).length ≤ 9223372036854775807 then ((F89.m (x1) (y15) ((subL (y18).l (0 : Int) ((32 : Nat) : Int))) (x6)).bind fun y26 => ((loop (F65.b1 x1 x4 y15 y26) ((y21 ++ (subL (y18).l (0 : Int) ((32 : Nat) : Int))), (0 : Int))).bind fun y => match y with | d30 => F65.j1 (d30))) else none))))))
set_option maxRecDepth 100000 in
set_option maxHeartbeats 4000000 in
theorem F65.spec (s5 : SlV) (x1 : Int) (x2 : (Arr Int 16)) (x3 : Int) (x4 : (Arr Int 32)) (x6 : List Int) (r : (List Int × Int)) (hm : F65.m x1 x2 x3 x4 x6 = some r) :
    Ctr Try.prog false 65 [.int .u32 x1, .agg (((Enc.arr 16 (Enc.int .u8))).enc x2).toArray, .int .u32 x3, .agg (((Enc.arr 32 (Enc.int .u8))).enc x4).toArray, s5.v] [Asr.vw (Enc.int .u8) (s5.v) x6] (fun v L' => ∃ (g7 : SlV), v = .tuple #[g7.v, .int .i64 r.2] ∧ L' = [Asr.of 5 (Enc.int .u8) (g7.v) r.1]) := by
  refine Ctr.intro (n := 56) (env := [(0, .int .u32 x1), (1, .agg (((Enc.arr 16 (Enc.int .u8))).enc x2).toArray), (2, .int .u32 x3), (3, .agg (((Enc.arr 32 (Enc.int .u8))).enc x4).toArray), (4, s5.v)]) Try.func65 rfl rfl rfl rfl (fun c => ?_)
  unfold F65.m at hm
  refine JC.seq ?_
  refine JC.region ?_
  refine JL.mv (d := some 6) (MV.box [Seg.of (Enc.arr 16 (Enc.int .u8)) x2] rfl (fun w hs => rfl)) rfl rfl rfl ?_
  rintro _ _ ⟨b10, rfl, rfl⟩
  refine JL.mv (d := some 8) (MV.box [Seg.of (Enc.arr 32 (Enc.int .u8)) x4] rfl (fun w hs => rfl)) rfl rfl rfl ?_
  rintro _ _ ⟨b11, rfl, rfl⟩
  refine JL.ent (fun _ hs => hs.nil 5 (Enc.int .u8)) ?_
  refine JL.val (v := SlV.nil.v) (QV.assign rfl) rfl rfl rfl ?_
  refine JL.val (v := .int .i64 (0 : Int)) (QV.assign rfl) rfl rfl rfl ?_
  refine JL.nil ?_
  refine QJ.then_normal ?_
  refine JC.seq ?_
  refine JC.seq ?_
  refine JC.region ?_
  refine JL.val (v := .int .u32 x1) (QV.move rfl) rfl rfl rfl ?_
  obtain ⟨y12, hc13, hm⟩ := bind_inv hm
  refine JL.mv (d := some 19) (MV.call (Lo := []) (Lr := [Asr.of 5 (Enc.int .u8) (SlV.nil.v) ([] : List Int), Asr.blk b11 41 [Seg.of (Enc.arr 32 (Enc.int .u8)) x4], Asr.blk b10 78 [Seg.of (Enc.arr 16 (Enc.int .u8)) x2], Asr.vw (Enc.int .u8) (s5.v) x6]) (F58.spec (x1) _ hc13) rfl Try.func58 rfl rfl rfl [] [0, 1, 2, 3] rfl rfl rfl trivial) rfl rfl rfl ?_
  rintro _ _ ⟨_, ⟨rfl, rfl⟩, rfl⟩
  refine JL.val (v := .bool (decide (y12 = (0 : Int)))) (QV.eql rfl rfl) rfl rfl rfl ?_
  refine JL.nil ?_
  refine QJ.then_normal ?_
  rcases ite_inv hm with ⟨h14, hm⟩ | ⟨h14, hm⟩
  ·
    refine JC.condT' rfl (decide_eq_true h14) ?_
    refine JC.seq ?_
    refine JC.region ?_
    refine JL.ent (fun _ hs => hs.nil 5 (Enc.int .u8)) ?_
    refine JL.val (v := SlV.nil.v) (QV.assign rfl) rfl rfl rfl ?_
    refine JL.val (v := .int .i64 (21 : Int)) (QV.assign rfl) rfl rfl rfl ?_
    refine JL.nil ?_
    refine QJ.then_normal ?_
    refine JC.ret ?_
    refine QJ.then_ret ?_
    obtain rfl := Option.some.inj hm
    exact QJ.body (vs := [SlV.nil.v, .int .i64 (21 : Int)]) (.inl rfl) rfl (ResVs.cons (ResV.tmp rfl) (ResVs.cons (ResV.tmp rfl) ResVs.nil)) [0] rfl rfl (.inr ⟨own_of _ _ _ _, trivial⟩) ⟨(SlV.nil), rfl, rfl⟩
  ·
    refine JC.condF' rfl (decide_eq_false h14) ?_
    refine JC.skip ?_
    refine QJ.then_normal ?_
    refine JC.seq ?_
    refine JC.region ?_
    refine JL.val (v := .int .u32 x1) (QV.move rfl) rfl rfl rfl ?_
    refine JL.val (v := .agg (((Enc.arr 16 (Enc.int .u8))).enc x2).toArray) (QV.eq (QV.loadN (ss := [Seg.of (Enc.arr 16 (Enc.int .u8)) x2]) 2 0 1 rfl tk_78 rfl rfl rfl rfl) rfl) rfl rfl rfl ?_
    refine JL.val (v := .int .u32 x3) (QV.move rfl) rfl rfl rfl ?_
    obtain ⟨y15, hc16, hm⟩ := bind_inv hm
    refine JL.mv (d := some 24) (MV.call (Lo := []) (Lr := [Asr.of 5 (Enc.int .u8) (SlV.nil.v) ([] : List Int), Asr.blk b11 41 [Seg.of (Enc.arr 32 (Enc.int .u8)) x4], Asr.blk b10 78 [Seg.of (Enc.arr 16 (Enc.int .u8)) x2], Asr.vw (Enc.int .u8) (s5.v) x6]) (F80_1.spec (x1) (x2) (x3) _ hc16) rfl Try.func80 rfl rfl rfl [] [0, 1, 2, 3] rfl rfl rfl trivial) rfl rfl rfl ?_
    rintro _ _ ⟨_, ⟨rfl, rfl⟩, rfl⟩
    refine JL.mv (d := some 12) (MV.alloc [Seg.c (.int .u32 (0 : Int)), Seg.of (Enc.arr 20 (Enc.int .u8)) (Arr.rep 20 (0 : Int))] z_114 rfl) rfl rfl rfl ?_
    rintro _ _ ⟨b17, rfl, rfl⟩
    refine JL.mv (d := none) (MV.store (ss := [Seg.c (.int .u32 (0 : Int)), Seg.of (Enc.arr 20 (Enc.int .u8)) (Arr.rep 20 (0 : Int))]) 0 0 2 [Seg.c (.int .u32 x1), Seg.of (Enc.arr 20 (Enc.int .u8)) y15] rfl tk_114 rfl rfl rfl rfl (fun w hs => ⟨rfl, one_c rfl, one_of _ _, trivial⟩)) rfl rfl rfl ?_
    rintro _ _ ⟨rfl, rfl⟩
    refine JL.nil ?_
    refine QJ.then_normal ?_
    refine JC.seq ?_
    refine JC.region ?_
    refine JL.val (v := .agg (flat [Seg.c (.int .u32 x1), Seg.of (Enc.arr 20 (Enc.int .u8)) y15]).toArray) (QV.eq (QV.loadN (ss := [Seg.c (.int .u32 x1), Seg.of (Enc.arr 20 (Enc.int .u8)) y15]) 0 0 2 rfl tk_114 rfl rfl rfl rfl) rfl) rfl rfl rfl ?_
    refine JL.val (v := .agg (((Enc.arr 32 (Enc.int .u8))).enc x4).toArray) (QV.eq (QV.loadN (ss := [Seg.of (Enc.arr 32 (Enc.int .u8)) x4]) 2 0 1 rfl tk_41 rfl rfl rfl rfl) rfl) rfl rfl rfl ?_
    obtain ⟨y18, hc19, hm⟩ := bind_inv hm
    refine JL.mv (d := some 27) (MV.call (Lo := []) (Lr := [Asr.blk b17 114 [Seg.c (.int .u32 x1), Seg.of (Enc.arr 20 (Enc.int .u8)) y15], Asr.of 5 (Enc.int .u8) (SlV.nil.v) ([] : List Int), Asr.blk b11 41 [Seg.of (Enc.arr 32 (Enc.int .u8)) x4], Asr.blk b10 78 [Seg.of (Enc.arr 16 (Enc.int .u8)) x2], Asr.vw (Enc.int .u8) (s5.v) x6]) (F83_1.spec (x1) (y15) ((65533 : Int)) (x4) _ hc19) rfl Try.func83 rfl rfl rfl [] [0, 1, 2, 3, 4] rfl rfl rfl trivial) rfl rfl rfl ?_
    rintro _ _ ⟨_, ⟨rfl, rfl⟩, rfl⟩
    refine JL.mv (d := some 13) (MV.alloc [Seg.of (Enc.arr 32 (Enc.int .u8)) (Arr.rep 32 (0 : Int))] z_41 rfl) rfl rfl rfl ?_
    rintro _ _ ⟨b20, rfl, rfl⟩
    refine JL.mv (d := none) (MV.store (ss := [Seg.of (Enc.arr 32 (Enc.int .u8)) (Arr.rep 32 (0 : Int))]) 0 0 1 [Seg.of (Enc.arr 32 (Enc.int .u8)) y18] rfl tk_41 rfl rfl rfl rfl (fun w hs => ⟨rfl, one_of _ _, trivial⟩)) rfl rfl rfl ?_
    rintro _ _ ⟨rfl, rfl⟩
    refine JL.nil ?_
    refine QJ.then_normal ?_
    refine JC.seq ?_
    refine JC.regionT [Asr.blk b20 41 [Seg.of (Enc.arr 32 (Enc.int .u8)) y18], Asr.blk b17 114 [Seg.c (.int .u32 x1), Seg.of (Enc.arr 20 (Enc.int .u8)) y15], Asr.of 5 (Enc.int .u8) (SlV.nil.v) ([] : List Int), Asr.blk b11 41 [Seg.of (Enc.arr 32 (Enc.int .u8)) x4], Asr.blk b10 78 [Seg.of (Enc.arr 16 (Enc.int .u8)) x2], Asr.vw (Enc.int .u8) (s5.v) x6] (fun t => false) [(0, true), (1, true), (3, true), (2, false), (4, false), (5, false)] (by kernel_rfl) (by kernel_rfl) (by kernel_rfl) rfl (fun hsel => ?_)
    refine JT.take (i := 0) (v := .int .u32 x1) hsel rfl (QV.move rfl) rfl rfl rfl [0, 1, 2, 3, 4, 5] rfl rfl ?_
    refine JT.take (i := 1) (v := .int .u64 (IntKind.wrap .u64 x1)) hsel rfl (QV.conv rfl (by rw [Try.underlying74]; rfl) Try.underlying28) rfl rfl rfl [0, 1, 2, 3, 4, 5] rfl rfl ?_
    refine JT.take (i := 3) (v := (SlV.sub ((Enc.int .u8)).sz (SlV.mk (some ⟨b20, 0, none⟩) 32 32) (0 : Int) ((32 : Nat) : Int)).v) hsel rfl (QV.sliceB Try.underlying41 tk_5 rfl rfl rfl (by decide)) rfl rfl rfl [0, 1, 2, 3, 4, 5] rfl rfl ?_
    refine JT.ent (fun _ hs => hs.nil 5 (Enc.int .u8)) ?_
    obtain ⟨y21, hc22, hm⟩ := bind_inv hm
    refine JT.only (i := 2) (d := some 30) rfl (MV.call (Lo := []) (Lr := [Asr.of 5 (Enc.int .u8) (SlV.nil.v) ([] : List Int), Asr.blk b20 41 [Seg.of (Enc.arr 32 (Enc.int .u8)) y18], Asr.blk b17 114 [Seg.c (.int .u32 x1), Seg.of (Enc.arr 20 (Enc.int .u8)) y15], Asr.of 5 (Enc.int .u8) (SlV.nil.v) ([] : List Int), Asr.blk b11 41 [Seg.of (Enc.arr 32 (Enc.int .u8)) x4], Asr.blk b10 78 [Seg.of (Enc.arr 16 (Enc.int .u8)) x2], Asr.vw (Enc.int .u8) (s5.v) x6]) (F25.spec (SlV.nil) (([] : List Int)) ((4 : Int)) ((IntKind.wrap .u64 x1)) _ hc22) rfl Try.func25 rfl rfl rfl [] [0, 1, 2, 3, 4, 5, 6] rfl rfl rfl ⟨(Drv.of 0 rfl), trivial⟩) rfl rfl rfl ?_
    rintro _ _ ⟨_, ⟨z23, rfl, rfl⟩, rfl⟩
    refine ⟨fun _ => ⟨[2, 3, 4, 5, 6, 7], rfl, rfl⟩, ?_⟩
    refine JT.grow [Asr.of 5 (Enc.int .u8) (SlV.nil.v) ([] : List Int), Asr.blk b20 41 [Seg.of (Enc.arr 32 (Enc.int .u8)) y18], Asr.blk b17 114 [Seg.c (.int .u32 x1), Seg.of (Enc.arr 20 (Enc.int .u8)) y15], Asr.of 5 (Enc.int .u8) (SlV.nil.v) ([] : List Int), Asr.blk b11 41 [Seg.of (Enc.arr 32 (Enc.int .u8)) x4], Asr.blk b10 78 [Seg.of (Enc.arr 16 (Enc.int .u8)) x2], Asr.vw (Enc.int .u8) (s5.v) x6] [1, 2, 3, 4, 5, 6] rfl rfl ?_
    obtain ⟨h24, hm⟩ := guard_inv hm
    refine JT.only (i := 4) (d := some 32) rfl (MV.append 0 rfl (Rdg.ofDrv ((Drv.arr (ss := [Seg.of (Enc.arr 32 (Enc.int .u8)) y18]) 2 0 rfl rfl rfl rfl).subV (by rw [Arr.h]; exact (show 0 ≤ (0 : Int) ∧ (0 : Int) ≤ ((32 : Nat) : Int) ∧ ((32 : Nat) : Int) ≤ ((32 : Nat) : Int) from by decide)))) Try.underlying22 zi_5 rfl (by decide) rfl rfl h24) rfl rfl rfl ?_
    rintro _ _ ⟨z25, rfl, rfl⟩
    refine ⟨fun _ => ⟨[1, 2, 3, 4, 5, 6, 7], rfl, rfl⟩, ?_⟩
    refine JT.grow [Asr.of 5 (Enc.int .u8) (z25.v) (y21 ++ (subL (y18).l (0 : Int) ((32 : Nat) : Int))), Asr.of 5 (Enc.int .u8) (SlV.nil.v) ([] : List Int), Asr.blk b20 41 [Seg.of (Enc.arr 32 (Enc.int .u8)) y18], Asr.blk b17 114 [Seg.c (.int .u32 x1), Seg.of (Enc.arr 20 (Enc.int .u8)) y15], Asr.of 5 (Enc.int .u8) (SlV.nil.v) ([] : List Int), Asr.blk b11 41 [Seg.of (Enc.arr 32 (Enc.int .u8)) x4], Asr.blk b10 78 [Seg.of (Enc.arr 16 (Enc.int .u8)) x2], Asr.vw (Enc.int .u8) (s5.v) x6] [1, 2, 3, 4, 5, 6, 7] rfl rfl ?_
    refine JT.only (i := 5) (d := some 14) rfl (MV.ofQV (v := z25.v) (QV.assign rfl)) rfl rfl rfl ?_
    rintro _ _ ⟨rfl, rfl⟩
    refine ⟨fun _ => ⟨[0, 1, 2, 3, 4, 5, 6, 7], rfl, rfl⟩, ?_⟩
    refine JT.nil ?_
    refine QJ.then_normal ?_
    refine JC.seq ?_
    refine JC.seq ?_
    refine JC.regionT [Asr.of 5 (Enc.int .u8) (z25.v) (y21 ++ (subL (y18).l (0 : Int) ((32 : Nat) : Int))), Asr.of 5 (Enc.int .u8) (SlV.nil.v) ([] : List Int), Asr.blk b20 41 [Seg.of (Enc.arr 32 (Enc.int .u8)) y18], Asr.blk b17 114 [Seg.c (.int .u32 x1), Seg.of (Enc.arr 20 (Enc.int .u8)) y15], Asr.of 5 (Enc.int .u8) (SlV.nil.v) ([] : List Int), Asr.blk b11 41 [Seg.of (Enc.arr 32 (Enc.int .u8)) x4], Asr.blk b10 78 [Seg.of (Enc.arr 16 (Enc.int .u8)) x2], Asr.vw (Enc.int .u8) (s5.v) x6] (fun t => false) [(0, true), (1, true), (2, true), (5, true), (3, false), (4, false)] (by kernel_rfl) (by kernel_rfl) (by kernel_rfl) rfl (fun hsel => ?_)
    refine JT.take (i := 0) (v := .agg (flat [Seg.c (.int .u32 x1), Seg.of (Enc.arr 20 (Enc.int .u8)) y15]).toArray) hsel rfl (QV.eq (QV.loadN (ss := [Seg.c (.int .u32 x1), Seg.of (Enc.arr 20 (Enc.int .u8)) y15]) 3 0 2 rfl tk_114 rfl rfl rfl rfl) rfl) rfl rfl rfl [0, 1, 2, 3, 4, 5, 6, 7] rfl rfl ?_
    refine JT.take (i := 1) (v := (SlV.sub ((Enc.int .u8)).sz (SlV.mk (some ⟨b20, 0, none⟩) 32 32) (0 : Int) ((32 : Nat) : Int)).v) hsel rfl (QV.sliceB Try.underlying41 tk_5 rfl rfl rfl (by decide)) rfl rfl rfl [0, 1, 2, 3, 4, 5, 6, 7] rfl rfl ?_
    refine JT.take (i := 2) (v := s5.v) hsel rfl (QV.move rfl) rfl rfl rfl [0, 1, 2, 3, 4, 5, 6, 7] rfl rfl ?_
    refine JT.take (i := 5) (v := .int .i64 (0 : Int)) hsel rfl (QV.move rfl) rfl rfl rfl [0, 1, 2, 3, 4, 5, 6, 7] rfl rfl ?_
    obtain ⟨y26, hc27, hm⟩ := bind_inv hm
    refine JT.only (i := 3) (d := some 36) rfl (MV.call (Lo := []) (Lr := [Asr.of 5 (Enc.int .u8) (z25.v) (y21 ++ (subL (y18).l (0 : Int) ((32 : Nat) : Int))), Asr.of 5 (Enc.int .u8) (SlV.nil.v) ([] : List Int), Asr.blk b20 41 [Seg.of (Enc.arr 32 (Enc.int .u8)) y18], Asr.blk b17 114 [Seg.c (.int .u32 x1), Seg.of (Enc.arr 20 (Enc.int .u8)) y15], Asr.of 5 (Enc.int .u8) (SlV.nil.v) ([] : List Int), Asr.blk b11 41 [Seg.of (Enc.arr 32 (Enc.int .u8)) x4], Asr.blk b10 78 [Seg.of (Enc.arr 16 (Enc.int .u8)) x2], Asr.vw (Enc.int .u8) (s5.v) x6]) (F89.spec ((SlV.sub ((Enc.int .u8)).sz (SlV.mk (some ⟨b20, 0, none⟩) 32 32) (0 : Int) ((32 : Nat) : Int))) (s5) (x1) (y15) ((subL (y18).l (0 : Int) ((32 : Nat) : Int))) (x6) _ hc27) rfl Try.func89 rfl rfl rfl [] [0, 1, 2, 3, 4, 5, 6, 7] rfl rfl rfl ⟨((Drv.arr (ss := [Seg.of (Enc.arr 32 (Enc.int .u8)) y18]) 2 0 rfl rfl rfl rfl).subV (by rw [Arr.h]; exact (show 0 ≤ (0 : Int) ∧ (0 : Int) ≤ ((32 : Nat) : Int) ∧ ((32 : Nat) : Int) ≤ ((32 : Nat) : Int) from by decide))), ⟨(Drv.vw 7 rfl), trivial⟩⟩) rfl rfl rfl ?_
    rintro _ _ ⟨_, ⟨z28, rfl, rfl⟩, rfl⟩
    refine ⟨fun _ => ⟨[1, 2, 3, 4, 5, 6, 7, 8], rfl, rfl⟩, ?_⟩
    refine JT.grow [Asr.of 3 (Enc.int .i64) (z28.v) y26, Asr.of 5 (Enc.int .u8) (z25.v) (y21 ++ (subL (y18).l (0 : Int) ((32 : Nat) : Int))), Asr.of 5 (Enc.int .u8) (SlV.nil.v) ([] : List Int), Asr.blk b20 41 [Seg.of (Enc.arr 32 (Enc.int .u8)) y18], Asr.blk b17 114 [Seg.c (.int .u32 x1), Seg.of (Enc.arr 20 (Enc.int .u8)) y15], Asr.of 5 (Enc.int .u8) (SlV.nil.v) ([] : List Int), Asr.blk b11 41 [Seg.of (Enc.arr 32 (Enc.int .u8)) x4], Asr.blk b10 78 [Seg.of (Enc.arr 16 (Enc.int .u8)) x2], Asr.vw (Enc.int .u8) (s5.v) x6] [1, 2, 3, 4, 5, 6, 7, 8] rfl rfl ?_
    refine JT.only (i := 4) (d := some 37) rfl (MV.ofQV (v := .int .i64 ((y26).length : Int)) (QV.len (Rdg.of 0 rfl) Try.underlying24 rfl)) rfl rfl rfl ?_
    rintro _ _ ⟨rfl, rfl⟩
    refine ⟨fun _ => ⟨[0, 1, 2, 3, 4, 5, 6, 7, 8], rfl, rfl⟩, ?_⟩
    refine JT.nil ?_
    refine QJ.then_normal ?_
    refine JC.cutK (Y := (List Int) × SlV) (fun y => match y with | (d30, _) => F65.j1 (d30) = some r) (fun y => match y with | (d30, z29) => [(14, z29.v)]) (fun y => match y with | (d30, z29) => [Asr.of 5 (Enc.int .u8) (z29.v) d30]) ?_ ?_
    ·
      rintro ⟨d30, z29⟩ hm
      unfold F65.j1 at hm
      show QJ _ _ [(14, z29.v)] [Asr.of 5 (Enc.int .u8) (z29.v) d30] _ _
      refine QJ.then_normal ?_
      refine JC.seq ?_
      refine JC.region ?_
      refine JL.val (v := z29.v) (QV.move rfl) rfl rfl rfl ?_
      refine JL.val (v := z29.v) (QV.assign rfl) rfl rfl rfl ?_
      refine JL.val (v := .int .i64 (0 : Int)) (QV.assign rfl) rfl rfl rfl ?_
      refine JL.nil ?_
      refine QJ.then_normal ?_
      refine JC.ret ?_
      obtain rfl := Option.some.inj hm
      exact QJ.body (vs := [z29.v, .int .i64 (0 : Int)]) (.inl rfl) rfl (ResVs.cons (ResV.tmp rfl) (ResVs.cons (ResV.tmp rfl) ResVs.nil)) [0] rfl rfl (.inr ⟨own_of _ _ _ _, trivial⟩) ⟨z29, rfl, rfl⟩
    ·
      refine JC.block ?_
      obtain ⟨y37, hl38, hmo39⟩ := bind_inv hm
      refine JC.loop (F65.b1 x1 x4 y15 y26) (fun x z => match x, z with | (d32, d33), z31 => [(8, .pointer (some ⟨b11, 0, none⟩)), (12, .pointer (some ⟨b17, 0, none⟩)), (14, z31.v), (36, z28.v), (37, .int .i64 ((y26).length : Int)), (38, .int .i64 d33)]) (fun x z => match x, z with | (d32, d33), z31 => [Asr.blk b11 41 [Seg.of (Enc.arr 32 (Enc.int .u8)) x4], Asr.blk b17 114 [Seg.c (.int .u32 x1), Seg.of (Enc.arr 20 (Enc.int .u8)) y15], Asr.of 5 (Enc.int .u8) (z31.v) d32, Asr.of 3 (Enc.int .i64) (z28.v) y26]) ((y21 ++ (subL (y18).l (0 : Int) ((32 : Nat) : Int))), (0 : Int)) z25 y37 hl38 [6, 4, 1, 0] (by exact ⟨rfl, rfl, rfl, rfl, rfl, rfl, trivial⟩) rfl rfl ?_
      rintro ⟨d32, d33⟩ z31 s40 hm
      unfold F65.b1 at hm
      dsimp only at hm
      show JC _ _ _ [(8, .pointer (some ⟨b11, 0, none⟩)), (12, .pointer (some ⟨b17, 0, none⟩)), (14, z31.v), (36, z28.v), (37, .int .i64 ((y26).length : Int)), (38, .int .i64 d33)] [Asr.blk b11 41 [Seg.of (Enc.arr 32 (Enc.int .u8)) x4], Asr.blk b17 114 [Seg.c (.int .u32 x1), Seg.of (Enc.arr 20 (Enc.int .u8)) y15], Asr.of 5 (Enc.int .u8) (z31.v) d32, Asr.of 3 (Enc.int .i64) (z28.v) y26] _ _
      refine JC.seq ?_
      refine JC.region ?_
      refine JL.val (v := .bool (decide (d33 < ((y26).length : Int)))) (QV.lss rfl rfl) rfl rfl rfl ?_
      refine JL.nil ?_
      refine QJ.then_normal ?_
      refine JC.seq ?_
      rcases ite_inv hm with ⟨h41, hm⟩ | ⟨h41, hm⟩
      ·
        refine JC.condT' rfl (decide_eq_true h41) ?_
        refine JC.skip ?_
        refine QJ.then_normal ?_
        refine JC.seq ?_
        refine JC.block ?_
        refine JC.seq ?_
        refine JC.region ?_
        refine JL.val (v := .int .i64 d33) (QV.move rfl) rfl rfl rfl ?_
        obtain ⟨h42, hm⟩ := guard_inv hm
        refine JL.val (v := .pointer (some (elA (z28.v) (Int.toNat d33 * ((Enc.int .i64)).sz)))) (QV.indexA (Rdg.of 3 rfl) Try.underlying24 tk_3 rfl rfl h42) rfl rfl rfl ?_
        refine JL.val (v := .int .i64 (gd y26 d33)) (QV.el1 (Rdg.of 3 rfl) tk_3 rfl h42 rfl) rfl rfl rfl ?_
        refine JL.val (v := .int .i64 d33) (QV.assign rfl) rfl rfl rfl ?_
        refine JL.val (v := .int .i64 (gd y26 d33)) (QV.assign rfl) rfl rfl rfl ?_
        refine JL.nil ?_
        refine QJ.then_normal ?_
        refine JC.seq ?_
        obtain ⟨y43, hc44, hm⟩ := bind_inv hm
        obtain ⟨y45, hc46, hm⟩ := bind_inv hm
        refine JC.cutK (Y := Unit × Nat) (fun y => match y with | (_, _) => F65.j2 d32 d33 y45 = some s40) (fun y => match y with | (_, z48) => [(8, .pointer (some ⟨b11, 0, none⟩)), (12, .pointer (some ⟨b17, 0, none⟩)), (14, z31.v), (17, .pointer (some ⟨z48, 0, none⟩)), (36, z28.v), (37, .int .i64 ((y26).length : Int)), (38, .int .i64 d33)]) (fun y => match y with | (_, z48) => [Asr.blk b11 41 [Seg.of (Enc.arr 32 (Enc.int .u8)) x4], Asr.blk b17 114 [Seg.c (.int .u32 x1), Seg.of (Enc.arr 20 (Enc.int .u8)) y15], Asr.of 5 (Enc.int .u8) (z31.v) d32, Asr.blk z48 41 [Seg.of (Enc.arr 32 (Enc.int .u8)) y45], Asr.of 3 (Enc.int .i64) (z28.v) y26]) ?_ ?_
        ·
          rintro ⟨⟨⟩, z48⟩ hm
          unfold F65.j2 at hm
          show QJ _ _ [(8, .pointer (some ⟨b11, 0, none⟩)), (12, .pointer (some ⟨b17, 0, none⟩)), (14, z31.v), (17, .pointer (some ⟨z48, 0, none⟩)), (36, z28.v), (37, .int .i64 ((y26).length : Int)), (38, .int .i64 d33)] [Asr.blk b11 41 [Seg.of (Enc.arr 32 (Enc.int .u8)) x4], Asr.blk b17 114 [Seg.c (.int .u32 x1), Seg.of (Enc.arr 20 (Enc.int .u8)) y15], Asr.of 5 (Enc.int .u8) (z31.v) d32, Asr.blk z48 41 [Seg.of (Enc.arr 32 (Enc.int .u8)) y45], Asr.of 3 (Enc.int .i64) (z28.v) y26] _ _
          refine QJ.then_normal ?_
          refine JC.region ?_
          refine JL.val (v := z31.v) (QV.move rfl) rfl rfl rfl ?_
          refine JL.val (v := (SlV.sub ((Enc.int .u8)).sz (SlV.mk (some ⟨z48, 0, none⟩) 32 32) (0 : Int) ((32 : Nat) : Int)).v) (QV.sliceB Try.underlying41 tk_5 rfl rfl rfl (by decide)) rfl rfl rfl ?_
          obtain ⟨h49, hm⟩ := guard_inv hm
          refine JL.mv (d := some 53) (MV.append 2 rfl (Rdg.ofDrv ((Drv.arr (ss := [Seg.of (Enc.arr 32 (Enc.int .u8)) y45]) 3 0 rfl rfl rfl rfl).subV (by rw [Arr.h]; exact (show 0 ≤ (0 : Int) ∧ (0 : Int) ≤ ((32 : Nat) : Int) ∧ ((32 : Nat) : Int) ≤ ((32 : Nat) : Int) from by decide)))) Try.underlying22 zi_5 rfl (by decide) rfl rfl h49) rfl rfl rfl ?_
          rintro _ _ ⟨z50, rfl, rfl⟩
          refine JL.val (v := z50.v) (QV.assign rfl) rfl rfl rfl ?_
          refine JL.nil ?_
          refine QJ.block_normal ?_
          refine QJ.then_normal ?_
          refine JC.region ?_
          refine JL.val (v := .int .i64 (IntKind.wrap .i64 (d33 + (1 : Int)))) (QV.add rfl rfl) rfl rfl rfl ?_
          refine JL.val (v := .int .i64 (IntKind.wrap .i64 (d33 + (1 : Int)))) (QV.move rfl) rfl rfl rfl ?_
          refine JL.nil ?_
          obtain rfl := Option.some.inj hm
          exact QJ.round_on ((d32 ++ (subL (y45).l (0 : Int) ((32 : Nat) : Int))), (IntKind.wrap .i64 (d33 + (1 : Int)))) z50 [0, 1, 2, 4] (by exact ⟨rfl, rfl, rfl, rfl, rfl, rfl, trivial⟩) rfl rfl
        ·
          refine JC.regionU [Asr.blk b11 41 [Seg.of (Enc.arr 32 (Enc.int .u8)) x4], Asr.blk b17 114 [Seg.c (.int .u32 x1), Seg.of (Enc.arr 20 (Enc.int .u8)) y15], Asr.of 5 (Enc.int .u8) (z31.v) d32, Asr.of 3 (Enc.int .i64) (z28.v) y26] (fun _ => false) 10 rfl (by kernel_rfl) (by kernel_rfl) (fun hsel => ?_)
          refine JU.take (i := 0) (v := .agg (flat [Seg.c (.int .u32 x1), Seg.of (Enc.arr 20 (Enc.int .u8)) y15]).toArray) hsel rfl (by kernel_rfl) (QV.eq (QV.loadN (ss := [Seg.c (.int .u32 x1), Seg.of (Enc.arr 20 (Enc.int .u8)) y15]) 1 0 2 rfl tk_114 rfl rfl rfl rfl) rfl) rfl rfl rfl [0, 1, 2, 3] rfl rfl ?_
          refine JU.take (i := 1) (v := .int .i64 d33) hsel rfl (by kernel_rfl) (QV.move rfl) rfl rfl rfl [0, 1, 2, 3] rfl rfl ?_
          refine JU.take (i := 2) (v := .int .i64 (gd y26 d33)) hsel rfl (by kernel_rfl) (QV.move rfl) rfl rfl rfl [0, 1, 2, 3] rfl rfl ?_
          refine JU.take (i := 3) (v := .agg (flat [Seg.c (.int .u32 x1), Seg.of (Enc.arr 20 (Enc.int .u8)) y15]).toArray) hsel rfl (by kernel_rfl) (QV.eq (QV.loadN (ss := [Seg.c (.int .u32 x1), Seg.of (Enc.arr 20 (Enc.int .u8)) y15]) 1 0 2 rfl tk_114 rfl rfl rfl rfl) rfl) rfl rfl rfl [0, 1, 2, 3] rfl rfl ?_
          refine JU.take (i := 4) (v := .int .i64 d33) hsel rfl (by kernel_rfl) (QV.move rfl) rfl rfl rfl [0, 1, 2, 3] rfl rfl ?_
          refine JU.take (i := 5) (v := .agg (((Enc.arr 32 (Enc.int .u8))).enc x4).toArray) hsel rfl (by kernel_rfl) (QV.eq (QV.loadN (ss := [Seg.of (Enc.arr 32 (Enc.int .u8)) x4]) 0 0 1 rfl tk_41 rfl rfl rfl rfl) rfl) rfl rfl rfl [0, 1, 2, 3] rfl rfl ?_
          refine JU.any [6, 8] (by kernel_rfl) rfl ?_
          refine ⟨?_, ?_, trivial⟩
          ·
            refine JUo.mv (d := some 49) rfl (MV.call (Lo := []) (Lr := [Asr.blk b11 41 [Seg.of (Enc.arr 32 (Enc.int .u8)) x4], Asr.blk b17 114 [Seg.c (.int .u32 x1), Seg.of (Enc.arr 20 (Enc.int .u8)) y15], Asr.of 5 (Enc.int .u8) (z31.v) d32, Asr.of 3 (Enc.int .i64) (z28.v) y26]) (F83_1.spec (x1) (y15) (d33) (x4) _ hc44) rfl Try.func83 rfl rfl rfl [] [0, 1, 2, 3] rfl rfl rfl trivial) rfl rfl rfl ?_
            rintro _ _ ⟨_, ⟨rfl, rfl⟩, rfl⟩
            refine ⟨fun _ => ⟨[0, 1, 2, 3], rfl, rfl⟩, ?_⟩
            refine JU.any [7, 8] (by kernel_rfl) rfl ?_
            refine ⟨?_, ?_, trivial⟩
            ·
              refine JUo.mv (d := some 50) rfl (MV.call (Lo := []) (Lr := [Asr.blk b11 41 [Seg.of (Enc.arr 32 (Enc.int .u8)) x4], Asr.blk b17 114 [Seg.c (.int .u32 x1), Seg.of (Enc.arr 20 (Enc.int .u8)) y15], Asr.of 5 (Enc.int .u8) (z31.v) d32, Asr.of 3 (Enc.int .i64) (z28.v) y26]) (F81.spec (x1) (y15) (d33) ((0 : Int)) ((gd y26 d33)) (y43) _ hc46) rfl Try.func81 rfl rfl rfl [] [0, 1, 2, 3] rfl rfl rfl trivial) rfl rfl rfl ?_
              rintro _ _ ⟨_, ⟨rfl, rfl⟩, rfl⟩
              refine ⟨fun _ => ⟨[0, 1, 2, 3], rfl, rfl⟩, ?_⟩
              refine JU.any [8] (by kernel_rfl) rfl ?_
              refine ⟨?_, trivial⟩
              refine JUo.mv (d := some 17) rfl (MV.alloc [Seg.of (Enc.arr 32 (Enc.int .u8)) (Arr.rep 32 (0 : Int))] z_41 rfl) rfl rfl rfl ?_
              rintro _ _ ⟨b51, rfl, rfl⟩
              refine ⟨fun _ => ⟨[1, 2, 3, 4], rfl, rfl⟩, ?_⟩
              refine JU.any [9] (by kernel_rfl) rfl ?_
              refine ⟨?_, trivial⟩
              refine JUo.mv (d := none) rfl (MV.store (ss := [Seg.of (Enc.arr 32 (Enc.int .u8)) (Arr.rep 32 (0 : Int))]) 0 0 1 [Seg.of (Enc.arr 32 (Enc.int .u8)) y45] rfl tk_41 rfl rfl rfl rfl (fun w hs => ⟨rfl, one_of _ _, trivial⟩)) rfl rfl rfl ?_
              rintro _ _ ⟨rfl, rfl⟩
              refine ⟨fun _ => ⟨[1, 2, 3, 4], rfl, rfl⟩, ?_⟩
              refine JU.nil (by kernel_rfl) ?_
              exact QJ.cut_normal ((), b51) hm [1, 2, 3, 0, 4] (by exact ⟨rfl, rfl, rfl, rfl, rfl, rfl, rfl, trivial⟩) rfl rfl
            ·
              refine JUo.mv (d := some 17) rfl (MV.alloc [Seg.of (Enc.arr 32 (Enc.int .u8)) (Arr.rep 32 (0 : Int))] z_41 rfl) rfl rfl rfl ?_
              rintro _ _ ⟨b52, rfl, rfl⟩
              refine ⟨fun _ => ⟨[1, 2, 3, 4], rfl, rfl⟩, ?_⟩
              refine JU.any [7] (by kernel_rfl) rfl ?_
              refine ⟨?_, trivial⟩
              refine JUo.mv (d := some 50) rfl (MV.call (Lo := []) (Lr := [Asr.blk b52 41 [Seg.of (Enc.arr 32 (Enc.int .u8)) (Arr.rep 32 (0 : Int))], Asr.blk b11 41 [Seg.of (Enc.arr 32 (Enc.int .u8)) x4], Asr.blk b17 114 [Seg.c (.int .u32 x1), Seg.of (Enc.arr 20 (Enc.int .u8)) y15], Asr.of 5 (Enc.int .u8) (z31.v) d32, Asr.of 3 (Enc.int .i64) (z28.v) y26]) (F81.spec (x1) (y15) (d33) ((0 : Int)) ((gd y26 d33)) (y43) _ hc46) rfl Try.func81 rfl rfl rfl [] [0, 1, 2, 3, 4] rfl rfl rfl trivial) rfl rfl rfl ?_
              rintro _ _ ⟨_, ⟨rfl, rfl⟩, rfl⟩
              refine ⟨fun _ => ⟨[1, 2, 3, 4], rfl, rfl⟩, ?_⟩
              refine JU.any [9] (by kernel_rfl) rfl ?_
              refine ⟨?_, trivial⟩
              refine JUo.mv (d := none) rfl (MV.store (ss := [Seg.of (Enc.arr 32 (Enc.int .u8)) (Arr.rep 32 (0 : Int))]) 0 0 1 [Seg.of (Enc.arr 32 (Enc.int .u8)) y45] rfl tk_41 rfl rfl rfl rfl (fun w hs => ⟨rfl, one_of _ _, trivial⟩)) rfl rfl rfl ?_
              rintro _ _ ⟨rfl, rfl⟩
              refine ⟨fun _ => ⟨[1, 2, 3, 4], rfl, rfl⟩, ?_⟩
              refine JU.nil (by kernel_rfl) ?_
              exact QJ.cut_normal ((), b52) hm [1, 2, 3, 0, 4] (by exact ⟨rfl, rfl, rfl, rfl, rfl, rfl, rfl, trivial⟩) rfl rfl
          ·
            refine JUo.mv (d := some 17) rfl (MV.alloc [Seg.of (Enc.arr 32 (Enc.int .u8)) (Arr.rep 32 (0 : Int))] z_41 rfl) rfl rfl rfl ?_
            rintro _ _ ⟨b53, rfl, rfl⟩
            refine ⟨fun _ => ⟨[1, 2, 3, 4], rfl, rfl⟩, ?_⟩
            refine JU.any [6] (by kernel_rfl) rfl ?_
            refine ⟨?_, trivial⟩
            refine JUo.mv (d := some 49) rfl (MV.call (Lo := []) (Lr := [Asr.blk b53 41 [Seg.of (Enc.arr 32 (Enc.int .u8)) (Arr.rep 32 (0 : Int))], Asr.blk b11 41 [Seg.of (Enc.arr 32 (Enc.int .u8)) x4], Asr.blk b17 114 [Seg.c (.int .u32 x1), Seg.of (Enc.arr 20 (Enc.int .u8)) y15], Asr.of 5 (Enc.int .u8) (z31.v) d32, Asr.of 3 (Enc.int .i64) (z28.v) y26]) (F83_1.spec (x1) (y15) (d33) (x4) _ hc44) rfl Try.func83 rfl rfl rfl [] [0, 1, 2, 3, 4] rfl rfl rfl trivial) rfl rfl rfl ?_
            rintro _ _ ⟨_, ⟨rfl, rfl⟩, rfl⟩
            refine ⟨fun _ => ⟨[1, 2, 3, 4], rfl, rfl⟩, ?_⟩
            refine JU.any [7] (by kernel_rfl) rfl ?_
            refine ⟨?_, trivial⟩
            refine JUo.mv (d := some 50) rfl (MV.call (Lo := []) (Lr := [Asr.blk b53 41 [Seg.of (Enc.arr 32 (Enc.int .u8)) (Arr.rep 32 (0 : Int))], Asr.blk b11 41 [Seg.of (Enc.arr 32 (Enc.int .u8)) x4], Asr.blk b17 114 [Seg.c (.int .u32 x1), Seg.of (Enc.arr 20 (Enc.int .u8)) y15], Asr.of 5 (Enc.int .u8) (z31.v) d32, Asr.of 3 (Enc.int .i64) (z28.v) y26]) (F81.spec (x1) (y15) (d33) ((0 : Int)) ((gd y26 d33)) (y43) _ hc46) rfl Try.func81 rfl rfl rfl [] [0, 1, 2, 3, 4] rfl rfl rfl trivial) rfl rfl rfl ?_
            rintro _ _ ⟨_, ⟨rfl, rfl⟩, rfl⟩
            refine ⟨fun _ => ⟨[1, 2, 3, 4], rfl, rfl⟩, ?_⟩
            refine JU.any [9] (by kernel_rfl) rfl ?_
            refine ⟨?_, trivial⟩
            refine JUo.mv (d := none) rfl (MV.store (ss := [Seg.of (Enc.arr 32 (Enc.int .u8)) (Arr.rep 32 (0 : Int))]) 0 0 1 [Seg.of (Enc.arr 32 (Enc.int .u8)) y45] rfl tk_41 rfl rfl rfl rfl (fun w hs => ⟨rfl, one_of _ _, trivial⟩)) rfl rfl rfl ?_
            rintro _ _ ⟨rfl, rfl⟩
            refine ⟨fun _ => ⟨[1, 2, 3, 4], rfl, rfl⟩, ?_⟩
            refine JU.nil (by kernel_rfl) ?_
            exact QJ.cut_normal ((), b53) hm [1, 2, 3, 0, 4] (by exact ⟨rfl, rfl, rfl, rfl, rfl, rfl, rfl, trivial⟩) rfl rfl
      ·
        refine JC.condF' rfl (decide_eq_false h41) ?_
        refine JC.exit ?_
        refine QJ.then_exit ?_
        obtain rfl := Option.some.inj hm
        refine QJ.round_exit (fun hy => ?_)
        subst hy
        refine QJ.block_hit ?_
        exact QJ.cut_normal (d32, z31) hmo39 [2] (by exact ⟨rfl, trivial⟩) rfl rfl

/-! ### 67: drogher/ots.Candidate -/
noncomputable def F67.j1 (x1 : Int) (y23 : (Arr Int 20)) (d32 : List Int) : Option ((Arr Int 32) × Int) :=
  ((F84.m (x1) (y23) ((32896 : Int)) ([d32])).bind fun y34 => some (y34, (0 : Int)))
noncomputable def F67.j2 (d37 : List Int) (d38 : Int) (y52 : (Arr Int 32))  : Option ((List Int × Int) ⊕ (List Int)) :=
  (if ((d37).length + ((subL (y52).l (0 : Int) ((32 : Nat) : Int))).length) * 1 ≤ 140737488355328 ∧ (d37).length + ((subL (y52).l (0 : Int) ((32 : Nat) : Int))).length ≤ 9223372036854775807 then some (.inl ((d37 ++ (subL (y52).l (0 : Int) ((32 : Nat) : Int))), (IntKind.wrap .i64 (d38 + (1 : Int))))) else none)
noncomputable def F67.b1 (x1 : Int) (x5 : List Int) (y23 : (Arr Int 20)) (y28 : (List Int)) : (List Int × Int) → Option ((List Int × Int) ⊕ (List Int))
  | (d37, d38) => (if d38 < ((y28).length : Int) then (if 0 ≤ d38 ∧ d38 < ((y28).length : Int) then ((F82.m (x1) (y23)).bind fun y48 => (if 0 ≤ (IntKind.wrap .i64 ((32 : Int) * d38)) ∧ (IntKind.wrap .i64 ((32 : Int) * d38)) ≤ (IntKind.wrap .i64 ((IntKind.wrap .i64 ((32 : Int) * d38)) + (32 : Int))) ∧ (IntKind.wrap .i64 ((IntKind.wrap .i64 ((32 : Int) * d38)) + (32 : Int))) ≤ (((subL x5 (36 : Int) ((x5).length : Int))).length : Int) then (if ((32 : Nat) : Int) ≤ (((subL (subL x5 (36 : Int) ((x5).length : Int)) (IntKind.wrap .i64 ((32 : Int) * d38)) (IntKind.wrap .i64 ((IntKind.wrap .i64 ((32 : Int) * d38)) + (32 : Int))))).length : Int) ∧ 0 < 32 then ((F81.m (x1) (y23) (d38) ((gd y28 d38)) (y48) ((Arr.ofL 32 (subL (subL x5 (36 : Int) ((x5).length : Int)) (IntKind.wrap .i64 ((32 : Int) * d38)) (IntKind.wrap .i64 ((IntKind.wrap .i64 ((32 : Int) * d38)) + (32 : Int))))))).bind fun y52 => F67.j2 d37 d38 y52) else none) else none)) else none) else some (.inr d37))
noncomputable def F67.m (x1 : Int) (x2 : (Arr Int 16)) (x3 : Int) (x5 : List Int) (x7 : List Int) : Option ((Arr Int 32) × Int) :=
  ((F58.m (x1)).bind fun y12 => (if y12 = (0 : Int) then some (K3, (21 : Int)) else ((F61.m (x1)).bind fun y15 => (if ((x5).length : Int) = y15 then (if 0 ≤ (0 : Int) ∧ (0 : Int) ≤ (4 : Int) ∧ (4 : Int) ≤ ((x5).length : Int) then ((F25.m (([] : List Int)) ((4 : Int)) ((IntKind.wrap .u64 x1))).bind fun y19 => (if (strOfNums (subL x5 (0 : Int) (4 : Int))) = (strOfNums y19) then ((F80_1.m (x1) (x2) (x3)).bind fun y23 => (if 0 ≤ (4 : Int) ∧ (4 : Int) ≤ (36 : Int) ∧ (36 : Int) ≤ ((x5).length : Int) then (if 0 ≤ (36 : Int) ∧ (36 : Int) ≤ ((x5).length : Int) ∧ ((x5).length : Int) ≤ ((x5).length : Int) then ((F89.m (x1) (y23) ((subL x5 (4 : Int) (36 : Int))) (x7)).bind fun y28 => ((loop (F67.b1 x1 x5 y23 y28) (([] : List Int), (0 : Int))).bind fun y => match y with | d32 => F67.j1 x1 y23 (d32))) else none) else none)) else some (K3, (21 : Int)))) else none) else some (K3, (3 : Int))))))
set_option maxRecDepth 100000 in
set_option maxHeartbeats 4000000 in
theorem F67.spec (s4 : SlV) (s6 : SlV) (x1 : Int) (x2 : (Arr Int 16)) (x3 : Int) (x5 : List Int) (x7 : List Int) (r : ((Arr Int 32) × Int)) (hm : F67.m x1 x2 x3 x5 x7 = some r) :
    Ctr Try.prog false 67 [.int .u32 x1, .agg (((Enc.arr 16 (Enc.int .u8))).enc x2).toArray, .int .u32 x3, s4.v, s6.v] [Asr.vw (Enc.int .u8) (s4.v) x5, Asr.vw (Enc.int .u8) (s6.v) x7] (fun v L' => v = .tuple #[.agg (((Enc.arr 32 (Enc.int .u8))).enc r.1).toArray, .int .i64 r.2] ∧ L' = []) := by
  refine Ctr.intro (n := 82) (env := [(0, .int .u32 x1), (1, .agg (((Enc.arr 16 (Enc.int .u8))).enc x2).toArray), (2, .int .u32 x3), (3, s4.v), (4, s6.v)]) Try.func67 rfl rfl rfl rfl (fun c => ?_)
  unfold F67.m at hm
  refine JC.seq ?_
  refine JC.region ?_
  refine JL.mv (d := some 6) (MV.box [Seg.of (Enc.arr 16 (Enc.int .u8)) x2] rfl (fun w hs => rfl)) rfl rfl rfl ?_
  rintro _ _ ⟨b10, rfl, rfl⟩
  refine JL.mv (d := some 10) (MV.alloc [Seg.of (Enc.arr 32 (Enc.int .u8)) (Arr.rep 32 (0 : Int))] z_41 rfl) rfl rfl rfl ?_
  rintro _ _ ⟨b11, rfl, rfl⟩
  refine JL.val (v := .int .i64 (0 : Int)) (QV.assign rfl) rfl rfl rfl ?_
  refine JL.nil ?_
  refine QJ.then_normal ?_
  refine JC.seq ?_
  refine JC.block ?_
  refine JC.seq ?_
  refine JC.region ?_
  refine JL.val (v := .int .u32 x1) (QV.move rfl) rfl rfl rfl ?_
  obtain ⟨y12, hc13, hm⟩ := bind_inv hm
  refine JL.mv (d := some 21) (MV.call (Lo := []) (Lr := [Asr.blk b11 41 [Seg.of (Enc.arr 32 (Enc.int .u8)) (Arr.rep 32 (0 : Int))], Asr.blk b10 78 [Seg.of (Enc.arr 16 (Enc.int .u8)) x2], Asr.vw (Enc.int .u8) (s4.v) x5, Asr.vw (Enc.int .u8) (s6.v) x7]) (F58.spec (x1) _ hc13) rfl Try.func58 rfl rfl rfl [] [0, 1, 2, 3] rfl rfl rfl trivial) rfl rfl rfl ?_
  rintro _ _ ⟨_, ⟨rfl, rfl⟩, rfl⟩
  refine JL.val (v := .bool (decide (y12 = (0 : Int)))) (QV.eql rfl rfl) rfl rfl rfl ?_
  refine JL.val (v := .bool (decide (y12 = (0 : Int)))) (QV.assign rfl) rfl rfl rfl ?_
  refine JL.nil ?_
  refine QJ.then_normal ?_
  rcases ite_inv hm with ⟨h14, hm⟩ | ⟨h14, hm⟩
  ·
    refine JC.condT' rfl (decide_eq_true h14) ?_
    refine JC.seq ?_
    refine JC.region ?_
    refine JL.val (v := .agg (((Enc.arr 32 (Enc.int .u8))).enc K3).toArray) (QV.build (vals := []) (cells := ((Enc.arr 32 (Enc.int .u8)).enc K3).toArray) rfl (by kernel_rfl)) rfl rfl rfl ?_
    refine JL.mv (d := none) (MV.store (ss := [Seg.of (Enc.arr 32 (Enc.int .u8)) (Arr.rep 32 (0 : Int))]) 0 0 1 [Seg.of (Enc.arr 32 (Enc.int .u8)) K3] rfl tk_41 rfl rfl rfl rfl (fun w hs => ⟨rfl, one_of _ _, trivial⟩)) rfl rfl rfl ?_
    rintro _ _ ⟨rfl, rfl⟩
    refine JL.val (v := .int .i64 (21 : Int)) (QV.assign rfl) rfl rfl rfl ?_
    refine JL.nil ?_
    refine QJ.then_normal ?_
    refine JC.ret ?_
    refine QJ.block_ret ?_
    refine QJ.then_ret ?_
    obtain rfl := Option.some.inj hm
    exact QJ.body (vs := [.agg (((Enc.arr 32 (Enc.int .u8))).enc K3).toArray, .int .i64 (21 : Int)]) (.inl rfl) rfl (ResVs.cons (ResV.cell (d := none) (ty := 0) (ps := "") (af := #[]) (g := none) rfl (QV.eq (QV.loadN (ss := [Seg.of (Enc.arr 32 (Enc.int .u8)) K3]) 0 0 1 rfl tk_41 rfl rfl rfl rfl) rfl)) (ResVs.cons (ResV.tmp rfl) ResVs.nil)) [] rfl rfl (.inr trivial) ⟨rfl, rfl⟩
  ·
    refine JC.condF' rfl (decide_eq_false h14) ?_
    refine JC.seq ?_
    refine JC.region ?_
    refine JL.val (v := s4.v) (QV.move rfl) rfl rfl rfl ?_
    refine JL.val (v := .int .i64 ((x5).length : Int)) (QV.len (Rdg.vw 2 rfl) Try.underlying22 rfl) rfl rfl rfl ?_
    refine JL.val (v := .int .u32 x1) (QV.move rfl) rfl rfl rfl ?_
    obtain ⟨y15, hc16, hm⟩ := bind_inv hm
    refine JL.mv (d := some 28) (MV.call (Lo := []) (Lr := [Asr.blk b11 41 [Seg.of (Enc.arr 32 (Enc.int .u8)) (Arr.rep 32 (0 : Int))], Asr.blk b10 78 [Seg.of (Enc.arr 16 (Enc.int .u8)) x2], Asr.vw (Enc.int .u8) (s4.v) x5, Asr.vw (Enc.int .u8) (s6.v) x7]) (F61.spec (x1) _ hc16) rfl Try.func61 rfl rfl rfl [] [0, 1, 2, 3] rfl rfl rfl trivial) rfl rfl rfl ?_
    rintro _ _ ⟨_, ⟨rfl, rfl⟩, rfl⟩
    refine JL.val (v := .bool (!(decide (((x5).length : Int) = y15)))) (QV.neq rfl rfl) rfl rfl rfl ?_
    refine JL.val (v := .bool (!(decide (((x5).length : Int) = y15)))) (QV.assign rfl) rfl rfl rfl ?_
    refine JL.nil ?_
    refine QJ.then_normal ?_
    rcases ite_inv hm with ⟨h17, hm⟩ | ⟨h17, hm⟩
    ·
      refine JC.condF' rfl (congrArg Bool.not (decide_eq_true h17)) ?_
      refine JC.seq ?_
      refine JC.regionT [Asr.blk b11 41 [Seg.of (Enc.arr 32 (Enc.int .u8)) (Arr.rep 32 (0 : Int))], Asr.blk b10 78 [Seg.of (Enc.arr 16 (Enc.int .u8)) x2], Asr.vw (Enc.int .u8) (s4.v) x5, Asr.vw (Enc.int .u8) (s6.v) x7] (fun t => false) [(0, true), (1, true), (2, true), (3, false), (4, false), (5, false), (6, false), (7, false), (8, false)] (by kernel_rfl) (by kernel_rfl) (by kernel_rfl) rfl (fun hsel => ?_)
      refine JT.take (i := 0) (v := s4.v) hsel rfl (QV.move rfl) rfl rfl rfl [0, 1, 2, 3] rfl rfl ?_
      obtain ⟨h18, hm⟩ := guard_inv hm
      refine JT.take (i := 1) (v := (SlV.sub ((Enc.int .u8)).sz s4 (0 : Int) (4 : Int)).v) hsel rfl (QV.sliceV (Rdg.vw 2 rfl) Try.underlying22 tk_5 rfl rfl rfl h18) rfl rfl rfl [0, 1, 2, 3] rfl rfl ?_
      refine JT.take (i := 2) (v := .string (strOfNums (subL x5 (0 : Int) (4 : Int)))) hsel rfl (QV.str (Rdg.ofDrv ((Drv.vw 2 rfl).subV h18)) Try.underlying22 Try.underlying5 Try.underlying9 rfl) rfl rfl rfl [0, 1, 2, 3] rfl rfl ?_
      refine JT.only (i := 3) (d := some 35) rfl (MV.ofQV (v := .int .u32 x1) (QV.move rfl)) rfl rfl rfl ?_
      rintro _ _ ⟨rfl, rfl⟩
      refine ⟨fun _ => ⟨[0, 1, 2, 3], rfl, rfl⟩, ?_⟩
      refine JT.only (i := 4) (d := some 36) rfl (MV.ofQV (v := .int .u64 (IntKind.wrap .u64 x1)) (QV.conv rfl (by rw [Try.underlying74]; rfl) Try.underlying28)) rfl rfl rfl ?_
      rintro _ _ ⟨rfl, rfl⟩
      refine ⟨fun _ => ⟨[0, 1, 2, 3], rfl, rfl⟩, ?_⟩
      refine JT.ent (fun _ hs => hs.nil 5 (Enc.int .u8)) ?_
      obtain ⟨y19, hc20, hm⟩ := bind_inv hm
      refine JT.only (i := 5) (d := some 37) rfl (MV.call (Lo := []) (Lr := [Asr.of 5 (Enc.int .u8) (SlV.nil.v) ([] : List Int), Asr.blk b11 41 [Seg.of (Enc.arr 32 (Enc.int .u8)) (Arr.rep 32 (0 : Int))], Asr.blk b10 78 [Seg.of (Enc.arr 16 (Enc.int .u8)) x2], Asr.vw (Enc.int .u8) (s4.v) x5, Asr.vw (Enc.int .u8) (s6.v) x7]) (F25.spec (SlV.nil) (([] : List Int)) ((4 : Int)) ((IntKind.wrap .u64 x1)) _ hc20) rfl Try.func25 rfl rfl rfl [] [0, 1, 2, 3, 4] rfl rfl rfl ⟨(Drv.of 0 rfl), trivial⟩) rfl rfl rfl ?_
      rintro _ _ ⟨_, ⟨z21, rfl, rfl⟩, rfl⟩
      refine ⟨fun _ => ⟨[2, 3, 4, 5], rfl, rfl⟩, ?_⟩
      refine JT.grow [Asr.of 5 (Enc.int .u8) (z21.v) y19, Asr.of 5 (Enc.int .u8) (SlV.nil.v) ([] : List Int), Asr.blk b11 41 [Seg.of (Enc.arr 32 (Enc.int .u8)) (Arr.rep 32 (0 : Int))], Asr.blk b10 78 [Seg.of (Enc.arr 16 (Enc.int .u8)) x2], Asr.vw (Enc.int .u8) (s4.v) x5, Asr.vw (Enc.int .u8) (s6.v) x7] [2, 3, 4, 5] rfl rfl ?_
      refine JT.only (i := 6) (d := some 38) rfl (MV.ofQV (v := .string (strOfNums y19)) (QV.str (Rdg.of 0 rfl) Try.underlying22 Try.underlying5 Try.underlying9 rfl)) rfl rfl rfl ?_
      rintro _ _ ⟨rfl, rfl⟩
      refine ⟨fun _ => ⟨[0, 1, 2, 3, 4, 5], rfl, rfl⟩, ?_⟩
      refine JT.only (i := 7) (d := some 39) rfl (MV.ofQV (v := .bool (!(decide ((strOfNums (subL x5 (0 : Int) (4 : Int))) = (strOfNums y19))))) (QV.neqS rfl rfl)) rfl rfl rfl ?_
      rintro _ _ ⟨rfl, rfl⟩
      refine ⟨fun _ => ⟨[0, 1, 2, 3, 4, 5], rfl, rfl⟩, ?_⟩
      refine JT.only (i := 8) (d := some 31) rfl (MV.ofQV (v := .bool (!(decide ((strOfNums (subL x5 (0 : Int) (4 : Int))) = (strOfNums y19))))) (QV.assign rfl)) rfl rfl rfl ?_
      rintro _ _ ⟨rfl, rfl⟩
      refine ⟨fun _ => ⟨[0, 1, 2, 3, 4, 5], rfl, rfl⟩, ?_⟩
      refine JT.nil ?_
      refine QJ.then_normal ?_
      rcases ite_inv hm with ⟨h22, hm⟩ | ⟨h22, hm⟩
      ·
        refine JC.condF' rfl (congrArg Bool.not (decide_eq_true h22)) ?_
        refine JC.skip ?_
        refine QJ.block_normal ?_
        refine QJ.then_normal ?_
        refine JC.seq ?_
        refine JC.region ?_
        refine JL.val (v := .int .u32 x1) (QV.move rfl) rfl rfl rfl ?_
        refine JL.val (v := .agg (((Enc.arr 16 (Enc.int .u8))).enc x2).toArray) (QV.eq (QV.loadN (ss := [Seg.of (Enc.arr 16 (Enc.int .u8)) x2]) 3 0 1 rfl tk_78 rfl rfl rfl rfl) rfl) rfl rfl rfl ?_
        refine JL.val (v := .int .u32 x3) (QV.move rfl) rfl rfl rfl ?_
        obtain ⟨y23, hc24, hm⟩ := bind_inv hm
        refine JL.mv (d := some 44) (MV.call (Lo := []) (Lr := [Asr.of 5 (Enc.int .u8) (z21.v) y19, Asr.of 5 (Enc.int .u8) (SlV.nil.v) ([] : List Int), Asr.blk b11 41 [Seg.of (Enc.arr 32 (Enc.int .u8)) (Arr.rep 32 (0 : Int))], Asr.blk b10 78 [Seg.of (Enc.arr 16 (Enc.int .u8)) x2], Asr.vw (Enc.int .u8) (s4.v) x5, Asr.vw (Enc.int .u8) (s6.v) x7]) (F80_1.spec (x1) (x2) (x3) _ hc24) rfl Try.func80 rfl rfl rfl [] [0, 1, 2, 3, 4, 5] rfl rfl rfl trivial) rfl rfl rfl ?_
        rintro _ _ ⟨_, ⟨rfl, rfl⟩, rfl⟩
        refine JL.mv (d := some 12) (MV.alloc [Seg.c (.int .u32 (0 : Int)), Seg.of (Enc.arr 20 (Enc.int .u8)) (Arr.rep 20 (0 : Int))] z_114 rfl) rfl rfl rfl ?_
        rintro _ _ ⟨b25, rfl, rfl⟩
        refine JL.mv (d := none) (MV.store (ss := [Seg.c (.int .u32 (0 : Int)), Seg.of (Enc.arr 20 (Enc.int .u8)) (Arr.rep 20 (0 : Int))]) 0 0 2 [Seg.c (.int .u32 x1), Seg.of (Enc.arr 20 (Enc.int .u8)) y23] rfl tk_114 rfl rfl rfl rfl (fun w hs => ⟨rfl, one_c rfl, one_of _ _, trivial⟩)) rfl rfl rfl ?_
        rintro _ _ ⟨rfl, rfl⟩
        refine JL.nil ?_
        refine QJ.then_normal ?_
        refine JC.seq ?_
        refine JC.regionT [Asr.blk b25 114 [Seg.c (.int .u32 x1), Seg.of (Enc.arr 20 (Enc.int .u8)) y23], Asr.of 5 (Enc.int .u8) (z21.v) y19, Asr.of 5 (Enc.int .u8) (SlV.nil.v) ([] : List Int), Asr.blk b11 41 [Seg.of (Enc.arr 32 (Enc.int .u8)) (Arr.rep 32 (0 : Int))], Asr.blk b10 78 [Seg.of (Enc.arr 16 (Enc.int .u8)) x2], Asr.vw (Enc.int .u8) (s4.v) x5, Asr.vw (Enc.int .u8) (s6.v) x7] (fun t => false) [(0, true), (1, true), (2, true), (3, true), (4, false), (5, false)] (by kernel_rfl) (by kernel_rfl) (by kernel_rfl) rfl (fun hsel => ?_)
        refine JT.take (i := 0) (v := s4.v) hsel rfl (QV.move rfl) rfl rfl rfl [0, 1, 2, 3, 4, 5, 6] rfl rfl ?_
        obtain ⟨h26, hm⟩ := guard_inv hm
        refine JT.take (i := 1) (v := (SlV.sub ((Enc.int .u8)).sz s4 (4 : Int) (36 : Int)).v) hsel rfl (QV.sliceV (Rdg.vw 5 rfl) Try.underlying22 tk_5 rfl rfl rfl h26) rfl rfl rfl [0, 1, 2, 3, 4, 5, 6] rfl rfl ?_
        refine JT.take (i := 2) (v := s4.v) hsel rfl (QV.move rfl) rfl rfl rfl [0, 1, 2, 3, 4, 5, 6] rfl rfl ?_
        obtain ⟨h27, hm⟩ := guard_inv hm
        refine JT.take (i := 3) (v := (SlV.sub ((Enc.int .u8)).sz s4 (36 : Int) ((x5).length : Int)).v) hsel rfl (QV.sliceV (Rdg.vw 5 rfl) Try.underlying22 tk_5 rfl rfl rfl h27) rfl rfl rfl [0, 1, 2, 3, 4, 5, 6] rfl rfl ?_
        refine JT.only (i := 4) (d := some 13) rfl (MV.ofQV (v := (SlV.sub ((Enc.int .u8)).sz s4 (4 : Int) (36 : Int)).v) (QV.assign rfl)) rfl rfl rfl ?_
        rintro _ _ ⟨rfl, rfl⟩
        refine ⟨fun _ => ⟨[0, 1, 2, 3, 4, 5, 6], rfl, rfl⟩, ?_⟩
        refine JT.only (i := 5) (d := some 14) rfl (MV.ofQV (v := (SlV.sub ((Enc.int .u8)).sz s4 (36 : Int) ((x5).length : Int)).v) (QV.assign rfl)) rfl rfl rfl ?_
        rintro _ _ ⟨rfl, rfl⟩
        refine ⟨fun _ => ⟨[0, 1, 2, 3, 4, 5, 6], rfl, rfl⟩, ?_⟩
        refine JT.nil ?_
        refine QJ.ent (fun _ hs => hs.derive ((Drv.vw 5 rfl).subV h26)) ?_
        refine QJ.ent (fun _ hs => hs.derive ((Drv.vw 6 rfl).subV h27)) ?_
        refine QJ.then_normal ?_
        refine JC.seq ?_
        refine JC.region ?_
        refine JL.ent (fun _ hs => hs.nil 5 (Enc.int .u8)) ?_
        refine JL.val (v := SlV.nil.v) (QV.assign rfl) rfl rfl rfl ?_
        refine JL.nil ?_
        refine QJ.then_normal ?_
        refine JC.seq ?_
        refine JC.seq ?_
        refine JC.region ?_
        refine JL.val (v := .agg (flat [Seg.c (.int .u32 x1), Seg.of (Enc.arr 20 (Enc.int .u8)) y23]).toArray) (QV.eq (QV.loadN (ss := [Seg.c (.int .u32 x1), Seg.of (Enc.arr 20 (Enc.int .u8)) y23]) 3 0 2 rfl tk_114 rfl rfl rfl rfl) rfl) rfl rfl rfl ?_
        refine JL.val (v := (SlV.sub ((Enc.int .u8)).sz s4 (4 : Int) (36 : Int)).v) (QV.move rfl) rfl rfl rfl ?_
        refine JL.val (v := s6.v) (QV.move rfl) rfl rfl rfl ?_
        obtain ⟨y28, hc29, hm⟩ := bind_inv hm
        refine JL.mv (d := some 52) (MV.call (Lo := []) (Lr := [Asr.of 5 (Enc.int .u8) (SlV.nil.v) ([] : List Int), Asr.vw (Enc.int .u8) ((SlV.sub ((Enc.int .u8)).sz s4 (36 : Int) ((x5).length : Int)).v) (subL x5 (36 : Int) ((x5).length : Int)), Asr.vw (Enc.int .u8) ((SlV.sub ((Enc.int .u8)).sz s4 (4 : Int) (36 : Int)).v) (subL x5 (4 : Int) (36 : Int)), Asr.blk b25 114 [Seg.c (.int .u32 x1), Seg.of (Enc.arr 20 (Enc.int .u8)) y23], Asr.of 5 (Enc.int .u8) (z21.v) y19, Asr.of 5 (Enc.int .u8) (SlV.nil.v) ([] : List Int), Asr.blk b11 41 [Seg.of (Enc.arr 32 (Enc.int .u8)) (Arr.rep 32 (0 : Int))], Asr.blk b10 78 [Seg.of (Enc.arr 16 (Enc.int .u8)) x2], Asr.vw (Enc.int .u8) (s4.v) x5, Asr.vw (Enc.int .u8) (s6.v) x7]) (F89.spec ((SlV.sub ((Enc.int .u8)).sz s4 (4 : Int) (36 : Int))) (s6) (x1) (y23) ((subL x5 (4 : Int) (36 : Int))) (x7) _ hc29) rfl Try.func89 rfl rfl rfl [] [0, 1, 2, 3, 4, 5, 6, 7, 8, 9] rfl rfl rfl ⟨(Drv.vw 2 rfl), ⟨(Drv.vw 9 rfl), trivial⟩⟩) rfl rfl rfl ?_
        rintro _ _ ⟨_, ⟨z30, rfl, rfl⟩, rfl⟩
        refine JL.val (v := .int .i64 ((y28).length : Int)) (QV.len (Rdg.of 0 rfl) Try.underlying24 rfl) rfl rfl rfl ?_
        refine JL.val (v := .int .i64 (0 : Int)) (QV.move rfl) rfl rfl rfl ?_
        refine JL.nil ?_
        refine QJ.then_normal ?_
        refine JC.cutK (Y := (List Int) × SlV) (fun y => match y with | (d32, _) => F67.j1 x1 y23 (d32) = some r) (fun y => match y with | (d32, z31) => [(10, .pointer (some ⟨b11, 0, none⟩)), (12, .pointer (some ⟨b25, 0, none⟩)), (15, z31.v)]) (fun y => match y with | (d32, z31) => [Asr.blk b11 41 [Seg.of (Enc.arr 32 (Enc.int .u8)) (Arr.rep 32 (0 : Int))], Asr.blk b25 114 [Seg.c (.int .u32 x1), Seg.of (Enc.arr 20 (Enc.int .u8)) y23], Asr.of 5 (Enc.int .u8) (z31.v) d32]) ?_ ?_
        ·
          rintro ⟨d32, z31⟩ hm
          unfold F67.j1 at hm
          show QJ _ _ [(10, .pointer (some ⟨b11, 0, none⟩)), (12, .pointer (some ⟨b25, 0, none⟩)), (15, z31.v)] [Asr.blk b11 41 [Seg.of (Enc.arr 32 (Enc.int .u8)) (Arr.rep 32 (0 : Int))], Asr.blk b25 114 [Seg.c (.int .u32 x1), Seg.of (Enc.arr 20 (Enc.int .u8)) y23], Asr.of 5 (Enc.int .u8) (z31.v) d32] _ _
          refine QJ.then_normal ?_
          refine JC.seq ?_
          refine JC.region ?_
          refine JL.val (v := .agg (flat [Seg.c (.int .u32 x1), Seg.of (Enc.arr 20 (Enc.int .u8)) y23]).toArray) (QV.eq (QV.loadN (ss := [Seg.c (.int .u32 x1), Seg.of (Enc.arr 20 (Enc.int .u8)) y23]) 1 0 2 rfl tk_114 rfl rfl rfl rfl) rfl) rfl rfl rfl ?_
          refine JL.val (v := z31.v) (QV.move rfl) rfl rfl rfl ?_
          refine JL.mv (d := some 80) (MV.lit (E := (NE.sl (Enc.int .u8)).E) (vals := [(0, z31.v)]) [(z31, d32)] Try.underlying50 zi_22 rfl (by decide) rfl (by kernel_rfl)) rfl rfl rfl ?_
          rintro _ _ ⟨z33, rfl, rfl⟩
          obtain ⟨y34, hc35, hm⟩ := bind_inv hm
          refine JL.mv (d := some 81) (MV.call (Lo := []) (Lr := [Asr.of 22 (NE.sl (Enc.int .u8)).E (z33.v) [(z31, d32)], Asr.blk b11 41 [Seg.of (Enc.arr 32 (Enc.int .u8)) (Arr.rep 32 (0 : Int))], Asr.blk b25 114 [Seg.c (.int .u32 x1), Seg.of (Enc.arr 20 (Enc.int .u8)) y23], Asr.of 5 (Enc.int .u8) (z31.v) d32]) (F84.spec (z33) ([z31]) (x1) (y23) ((32896 : Int)) ([d32]) _ hc35) rfl Try.func84 rfl rfl rfl [] [0, 1, 2, 3] rfl rfl rfl ⟨(Drv.lit (zs := [z31]) (xs := [d32]) 0 rfl rfl ⟨(Drv.of 3 rfl), trivial⟩), trivial⟩) rfl rfl rfl ?_
          rintro _ _ ⟨_, ⟨rfl, rfl⟩, rfl⟩
          refine JL.mv (d := none) (MV.store (ss := [Seg.of (Enc.arr 32 (Enc.int .u8)) (Arr.rep 32 (0 : Int))]) 1 0 1 [Seg.of (Enc.arr 32 (Enc.int .u8)) y34] rfl tk_41 rfl rfl rfl rfl (fun w hs => ⟨rfl, one_of _ _, trivial⟩)) rfl rfl rfl ?_
          rintro _ _ ⟨rfl, rfl⟩
          refine JL.val (v := .int .i64 (0 : Int)) (QV.assign rfl) rfl rfl rfl ?_
          refine JL.nil ?_
          refine QJ.then_normal ?_
          refine JC.ret ?_
          obtain rfl := Option.some.inj hm
          exact QJ.body (vs := [.agg (((Enc.arr 32 (Enc.int .u8))).enc y34).toArray, .int .i64 (0 : Int)]) (.inl rfl) rfl (ResVs.cons (ResV.cell (d := none) (ty := 0) (ps := "") (af := #[]) (g := none) rfl (QV.eq (QV.loadN (ss := [Seg.of (Enc.arr 32 (Enc.int .u8)) y34]) 1 0 1 rfl tk_41 rfl rfl rfl rfl) rfl)) (ResVs.cons (ResV.tmp rfl) ResVs.nil)) [] rfl rfl (.inr trivial) ⟨rfl, rfl⟩
        ·
          refine JC.block ?_
          obtain ⟨y42, hl43, hmo44⟩ := bind_inv hm
          refine JC.loop (F67.b1 x1 x5 y23 y28) (fun x z => match x, z with | (d37, d38), z36 => [(10, .pointer (some ⟨b11, 0, none⟩)), (12, .pointer (some ⟨b25, 0, none⟩)), (14, (SlV.sub ((Enc.int .u8)).sz s4 (36 : Int) ((x5).length : Int)).v), (15, z36.v), (52, z30.v), (53, .int .i64 ((y28).length : Int)), (54, .int .i64 d38)]) (fun x z => match x, z with | (d37, d38), z36 => [Asr.blk b11 41 [Seg.of (Enc.arr 32 (Enc.int .u8)) (Arr.rep 32 (0 : Int))], Asr.blk b25 114 [Seg.c (.int .u32 x1), Seg.of (Enc.arr 20 (Enc.int .u8)) y23], Asr.vw (Enc.int .u8) ((SlV.sub ((Enc.int .u8)).sz s4 (36 : Int) ((x5).length : Int)).v) (subL x5 (36 : Int) ((x5).length : Int)), Asr.of 5 (Enc.int .u8) (z36.v) d37, Asr.of 3 (Enc.int .i64) (z30.v) y28]) (([] : List Int), (0 : Int)) SlV.nil y42 hl43 [7, 4, 2, 1, 0] (by exact ⟨rfl, rfl, rfl, rfl, rfl, rfl, rfl, trivial⟩) rfl rfl ?_
          rintro ⟨d37, d38⟩ z36 s45 hm
          unfold F67.b1 at hm
          dsimp only at hm
          show JC _ _ _ [(10, .pointer (some ⟨b11, 0, none⟩)), (12, .pointer (some ⟨b25, 0, none⟩)), (14, (SlV.sub ((Enc.int .u8)).sz s4 (36 : Int) ((x5).length : Int)).v), (15, z36.v), (52, z30.v), (53, .int .i64 ((y28).length : Int)), (54, .int .i64 d38)] [Asr.blk b11 41 [Seg.of (Enc.arr 32 (Enc.int .u8)) (Arr.rep 32 (0 : Int))], Asr.blk b25 114 [Seg.c (.int .u32 x1), Seg.of (Enc.arr 20 (Enc.int .u8)) y23], Asr.vw (Enc.int .u8) ((SlV.sub ((Enc.int .u8)).sz s4 (36 : Int) ((x5).length : Int)).v) (subL x5 (36 : Int) ((x5).length : Int)), Asr.of 5 (Enc.int .u8) (z36.v) d37, Asr.of 3 (Enc.int .i64) (z30.v) y28] _ _
          refine JC.seq ?_
          refine JC.region ?_
          refine JL.val (v := .bool (decide (d38 < ((y28).length : Int)))) (QV.lss rfl rfl) rfl rfl rfl ?_
          refine JL.nil ?_
          refine QJ.then_normal ?_
          refine JC.seq ?_
          rcases ite_inv hm with ⟨h46, hm⟩ | ⟨h46, hm⟩
          ·
            refine JC.condT' rfl (decide_eq_true h46) ?_
            refine JC.skip ?_
            refine QJ.then_normal ?_
            refine JC.seq ?_
            refine JC.block ?_
            refine JC.seq ?_
            refine JC.region ?_
            refine JL.val (v := .int .i64 d38) (QV.move rfl) rfl rfl rfl ?_
            obtain ⟨h47, hm⟩ := guard_inv hm
            refine JL.val (v := .pointer (some (elA (z30.v) (Int.toNat d38 * ((Enc.int .i64)).sz)))) (QV.indexA (Rdg.of 4 rfl) Try.underlying24 tk_3 rfl rfl h47) rfl rfl rfl ?_
            refine JL.val (v := .int .i64 (gd y28 d38)) (QV.el1 (Rdg.of 4 rfl) tk_3 rfl h47 rfl) rfl rfl rfl ?_
            refine JL.val (v := .int .i64 d38) (QV.assign rfl) rfl rfl rfl ?_
            refine JL.val (v := .int .i64 (gd y28 d38)) (QV.assign rfl) rfl rfl rfl ?_
            refine JL.nil ?_
            refine QJ.then_normal ?_
            refine JC.seq ?_
            obtain ⟨y48, hc49, hm⟩ := bind_inv hm
            obtain ⟨h50, hm⟩ := guard_inv hm
            obtain ⟨h51, hm⟩ := guard_inv hm
            obtain ⟨y52, hc53, hm⟩ := bind_inv hm
            refine JC.cutK (Y := Unit × Nat) (fun y => match y with | (_, _) => F67.j2 d37 d38 y52 = some s45) (fun y => match y with | (_, z55) => [(10, .pointer (some ⟨b11, 0, none⟩)), (12, .pointer (some ⟨b25, 0, none⟩)), (14, (SlV.sub ((Enc.int .u8)).sz s4 (36 : Int) ((x5).length : Int)).v), (15, z36.v), (18, .pointer (some ⟨z55, 0, none⟩)), (52, z30.v), (53, .int .i64 ((y28).length : Int)), (54, .int .i64 d38)]) (fun y => match y with | (_, z55) => [Asr.blk b11 41 [Seg.of (Enc.arr 32 (Enc.int .u8)) (Arr.rep 32 (0 : Int))], Asr.blk b25 114 [Seg.c (.int .u32 x1), Seg.of (Enc.arr 20 (Enc.int .u8)) y23], Asr.vw (Enc.int .u8) ((SlV.sub ((Enc.int .u8)).sz s4 (36 : Int) ((x5).length : Int)).v) (subL x5 (36 : Int) ((x5).length : Int)), Asr.of 5 (Enc.int .u8) (z36.v) d37, Asr.blk z55 41 [Seg.of (Enc.arr 32 (Enc.int .u8)) y52], Asr.of 3 (Enc.int .i64) (z30.v) y28]) ?_ ?_
            ·
              rintro ⟨⟨⟩, z55⟩ hm
              unfold F67.j2 at hm
              show QJ _ _ [(10, .pointer (some ⟨b11, 0, none⟩)), (12, .pointer (some ⟨b25, 0, none⟩)), (14, (SlV.sub ((Enc.int .u8)).sz s4 (36 : Int) ((x5).length : Int)).v), (15, z36.v), (18, .pointer (some ⟨z55, 0, none⟩)), (52, z30.v), (53, .int .i64 ((y28).length : Int)), (54, .int .i64 d38)] [Asr.blk b11 41 [Seg.of (Enc.arr 32 (Enc.int .u8)) (Arr.rep 32 (0 : Int))], Asr.blk b25 114 [Seg.c (.int .u32 x1), Seg.of (Enc.arr 20 (Enc.int .u8)) y23], Asr.vw (Enc.int .u8) ((SlV.sub ((Enc.int .u8)).sz s4 (36 : Int) ((x5).length : Int)).v) (subL x5 (36 : Int) ((x5).length : Int)), Asr.of 5 (Enc.int .u8) (z36.v) d37, Asr.blk z55 41 [Seg.of (Enc.arr 32 (Enc.int .u8)) y52], Asr.of 3 (Enc.int .i64) (z30.v) y28] _ _
              refine QJ.then_normal ?_
              refine JC.region ?_
              refine JL.val (v := z36.v) (QV.move rfl) rfl rfl rfl ?_
              refine JL.val (v := (SlV.sub ((Enc.int .u8)).sz (SlV.mk (some ⟨z55, 0, none⟩) 32 32) (0 : Int) ((32 : Nat) : Int)).v) (QV.sliceB Try.underlying41 tk_5 rfl rfl rfl (by decide)) rfl rfl rfl ?_
              obtain ⟨h56, hm⟩ := guard_inv hm
              refine JL.mv (d := some 76) (MV.append 3 rfl (Rdg.ofDrv ((Drv.arr (ss := [Seg.of (Enc.arr 32 (Enc.int .u8)) y52]) 4 0 rfl rfl rfl rfl).subV (by rw [Arr.h]; exact (show 0 ≤ (0 : Int) ∧ (0 : Int) ≤ ((32 : Nat) : Int) ∧ ((32 : Nat) : Int) ≤ ((32 : Nat) : Int) from by decide)))) Try.underlying22 zi_5 rfl (by decide) rfl rfl h56) rfl rfl rfl ?_
              rintro _ _ ⟨z57, rfl, rfl⟩
              refine JL.val (v := z57.v) (QV.assign rfl) rfl rfl rfl ?_
              refine JL.nil ?_
              refine QJ.block_normal ?_
              refine QJ.then_normal ?_
              refine JC.region ?_
              refine JL.val (v := .int .i64 (IntKind.wrap .i64 (d38 + (1 : Int)))) (QV.add rfl rfl) rfl rfl rfl ?_
              refine JL.val (v := .int .i64 (IntKind.wrap .i64 (d38 + (1 : Int)))) (QV.move rfl) rfl rfl rfl ?_
              refine JL.nil ?_
              obtain rfl := Option.some.inj hm
              exact QJ.round_on ((d37 ++ (subL (y52).l (0 : Int) ((32 : Nat) : Int))), (IntKind.wrap .i64 (d38 + (1 : Int)))) z57 [0, 1, 2, 3, 5] (by exact ⟨rfl, rfl, rfl, rfl, rfl, rfl, rfl, trivial⟩) rfl rfl
            ·
              refine JC.regionU [Asr.blk b11 41 [Seg.of (Enc.arr 32 (Enc.int .u8)) (Arr.rep 32 (0 : Int))], Asr.blk b25 114 [Seg.c (.int .u32 x1), Seg.of (Enc.arr 20 (Enc.int .u8)) y23], Asr.vw (Enc.int .u8) ((SlV.sub ((Enc.int .u8)).sz s4 (36 : Int) ((x5).length : Int)).v) (subL x5 (36 : Int) ((x5).length : Int)), Asr.of 5 (Enc.int .u8) (z36.v) d37, Asr.of 3 (Enc.int .i64) (z30.v) y28] (fun _ => false) 17 rfl (by kernel_rfl) (by kernel_rfl) (fun hsel => ?_)
              refine JU.take (i := 0) (v := .agg (flat [Seg.c (.int .u32 x1), Seg.of (Enc.arr 20 (Enc.int .u8)) y23]).toArray) hsel rfl (by kernel_rfl) (QV.eq (QV.loadN (ss := [Seg.c (.int .u32 x1), Seg.of (Enc.arr 20 (Enc.int .u8)) y23]) 1 0 2 rfl tk_114 rfl rfl rfl rfl) rfl) rfl rfl rfl [0, 1, 2, 3, 4] rfl rfl ?_
              refine JU.take (i := 1) (v := .int .i64 d38) hsel rfl (by kernel_rfl) (QV.move rfl) rfl rfl rfl [0, 1, 2, 3, 4] rfl rfl ?_
              refine JU.take (i := 2) (v := .int .i64 (gd y28 d38)) hsel rfl (by kernel_rfl) (QV.move rfl) rfl rfl rfl [0, 1, 2, 3, 4] rfl rfl ?_
              refine JU.take (i := 3) (v := .agg (flat [Seg.c (.int .u32 x1), Seg.of (Enc.arr 20 (Enc.int .u8)) y23]).toArray) hsel rfl (by kernel_rfl) (QV.eq (QV.loadN (ss := [Seg.c (.int .u32 x1), Seg.of (Enc.arr 20 (Enc.int .u8)) y23]) 1 0 2 rfl tk_114 rfl rfl rfl rfl) rfl) rfl rfl rfl [0, 1, 2, 3, 4] rfl rfl ?_
              refine JU.take (i := 5) (v := (SlV.sub ((Enc.int .u8)).sz s4 (36 : Int) ((x5).length : Int)).v) hsel rfl (by kernel_rfl) (QV.move rfl) rfl rfl rfl [0, 1, 2, 3, 4] rfl rfl ?_
              refine JU.take (i := 6) (v := .int .i64 d38) hsel rfl (by kernel_rfl) (QV.move rfl) rfl rfl rfl [0, 1, 2, 3, 4] rfl rfl ?_
              refine JU.take (i := 7) (v := .int .i64 (IntKind.wrap .i64 ((32 : Int) * d38))) hsel rfl (by kernel_rfl) (QV.mul rfl rfl) rfl rfl rfl [0, 1, 2, 3, 4] rfl rfl ?_
              refine JU.take (i := 8) (v := .int .i64 d38) hsel rfl (by kernel_rfl) (QV.move rfl) rfl rfl rfl [0, 1, 2, 3, 4] rfl rfl ?_
              refine JU.take (i := 9) (v := .int .i64 (IntKind.wrap .i64 ((32 : Int) * d38))) hsel rfl (by kernel_rfl) (QV.mul rfl rfl) rfl rfl rfl [0, 1, 2, 3, 4] rfl rfl ?_
              refine JU.take (i := 10) (v := .int .i64 (IntKind.wrap .i64 ((IntKind.wrap .i64 ((32 : Int) * d38)) + (32 : Int)))) hsel rfl (by kernel_rfl) (QV.add rfl rfl) rfl rfl rfl [0, 1, 2, 3, 4] rfl rfl ?_
              refine JU.take (i := 11) (v := (SlV.sub ((Enc.int .u8)).sz (SlV.sub ((Enc.int .u8)).sz s4 (36 : Int) ((x5).length : Int)) (IntKind.wrap .i64 ((32 : Int) * d38)) (IntKind.wrap .i64 ((IntKind.wrap .i64 ((32 : Int) * d38)) + (32 : Int)))).v) hsel rfl (by kernel_rfl) (QV.sliceV (Rdg.vw 2 rfl) Try.underlying22 tk_5 rfl rfl rfl h50) rfl rfl rfl [0, 1, 2, 3, 4] rfl rfl ?_
              refine JU.take (i := 12) (v := .pointer (some (elA ((SlV.sub ((Enc.int .u8)).sz (SlV.sub ((Enc.int .u8)).sz s4 (36 : Int) ((x5).length : Int)) (IntKind.wrap .i64 ((32 : Int) * d38)) (IntKind.wrap .i64 ((IntKind.wrap .i64 ((32 : Int) * d38)) + (32 : Int)))).v) 0))) hsel rfl (by kernel_rfl) (QV.toArr (m := 32) (Rdg.ofDrv ((Drv.vw 2 rfl).subV h50)) Try.underlying41 rfl h51) rfl rfl rfl [0, 1, 2, 3, 4] rfl rfl ?_
              refine JU.take (i := 13) (v := .agg (((Enc.arr 32 (Enc.int .u8))).enc (Arr.ofL 32 (subL (subL x5 (36 : Int) ((x5).length : Int)) (IntKind.wrap .i64 ((32 : Int) * d38)) (IntKind.wrap .i64 ((IntKind.wrap .i64 ((32 : Int) * d38)) + (32 : Int)))))).toArray) hsel rfl (by kernel_rfl) (QV.loadArr (m := 32) (E := (Enc.int .u8)) (Rdg.ofDrv ((Drv.vw 2 rfl).subV h50)) tk_41 rfl h51) rfl rfl rfl [0, 1, 2, 3, 4] rfl rfl ?_
              refine JU.any [4, 15] (by kernel_rfl) rfl ?_
              refine ⟨?_, ?_, trivial⟩
              ·
                refine JUo.mv (d := some 63) rfl (MV.call (Lo := []) (Lr := [Asr.blk b11 41 [Seg.of (Enc.arr 32 (Enc.int .u8)) (Arr.rep 32 (0 : Int))], Asr.blk b25 114 [Seg.c (.int .u32 x1), Seg.of (Enc.arr 20 (Enc.int .u8)) y23], Asr.vw (Enc.int .u8) ((SlV.sub ((Enc.int .u8)).sz s4 (36 : Int) ((x5).length : Int)).v) (subL x5 (36 : Int) ((x5).length : Int)), Asr.of 5 (Enc.int .u8) (z36.v) d37, Asr.of 3 (Enc.int .i64) (z30.v) y28]) (F82.spec (x1) (y23) _ hc49) rfl Try.func82 rfl rfl rfl [] [0, 1, 2, 3, 4] rfl rfl rfl trivial) rfl rfl rfl ?_
                rintro _ _ ⟨_, ⟨rfl, rfl⟩, rfl⟩
                refine ⟨fun _ => ⟨[0, 1, 2, 3, 4], rfl, rfl⟩, ?_⟩
                refine JU.any [14, 15] (by kernel_rfl) rfl ?_
                refine ⟨?_, ?_, trivial⟩
                ·
                  refine JUo.mv (d := some 73) rfl (MV.call (Lo := []) (Lr := [Asr.blk b11 41 [Seg.of (Enc.arr 32 (Enc.int .u8)) (Arr.rep 32 (0 : Int))], Asr.blk b25 114 [Seg.c (.int .u32 x1), Seg.of (Enc.arr 20 (Enc.int .u8)) y23], Asr.vw (Enc.int .u8) ((SlV.sub ((Enc.int .u8)).sz s4 (36 : Int) ((x5).length : Int)).v) (subL x5 (36 : Int) ((x5).length : Int)), Asr.of 5 (Enc.int .u8) (z36.v) d37, Asr.of 3 (Enc.int .i64) (z30.v) y28]) (F81.spec (x1) (y23) (d38) ((gd y28 d38)) (y48) ((Arr.ofL 32 (subL (subL x5 (36 : Int) ((x5).length : Int)) (IntKind.wrap .i64 ((32 : Int) * d38)) (IntKind.wrap .i64 ((IntKind.wrap .i64 ((32 : Int) * d38)) + (32 : Int)))))) _ hc53) rfl Try.func81 rfl rfl rfl [] [0, 1, 2, 3, 4] rfl rfl rfl trivial) rfl rfl rfl ?_
                  rintro _ _ ⟨_, ⟨rfl, rfl⟩, rfl⟩
                  refine ⟨fun _ => ⟨[0, 1, 2, 3, 4], rfl, rfl⟩, ?_⟩
                  refine JU.any [15] (by kernel_rfl) rfl ?_
                  refine ⟨?_, trivial⟩
                  refine JUo.mv (d := some 18) rfl (MV.alloc [Seg.of (Enc.arr 32 (Enc.int .u8)) (Arr.rep 32 (0 : Int))] z_41 rfl) rfl rfl rfl ?_
                  rintro _ _ ⟨b58, rfl, rfl⟩
                  refine ⟨fun _ => ⟨[1, 2, 3, 4, 5], rfl, rfl⟩, ?_⟩
                  refine JU.any [16] (by kernel_rfl) rfl ?_
                  refine ⟨?_, trivial⟩
                  refine JUo.mv (d := none) rfl (MV.store (ss := [Seg.of (Enc.arr 32 (Enc.int .u8)) (Arr.rep 32 (0 : Int))]) 0 0 1 [Seg.of (Enc.arr 32 (Enc.int .u8)) y52] rfl tk_41 rfl rfl rfl rfl (fun w hs => ⟨rfl, one_of _ _, trivial⟩)) rfl rfl rfl ?_
                  rintro _ _ ⟨rfl, rfl⟩
                  refine ⟨fun _ => ⟨[1, 2, 3, 4, 5], rfl, rfl⟩, ?_⟩
                  refine JU.nil (by kernel_rfl) ?_
                  exact QJ.cut_normal ((), b58) hm [1, 2, 3, 4, 0, 5] (by exact ⟨rfl, rfl, rfl, rfl, rfl, rfl, rfl, rfl, trivial⟩) rfl rfl
                ·
                  refine JUo.mv (d := some 18) rfl (MV.alloc [Seg.of (Enc.arr 32 (Enc.int .u8)) (Arr.rep 32 (0 : Int))] z_41 rfl) rfl rfl rfl ?_
                  rintro _ _ ⟨b59, rfl, rfl⟩
                  refine ⟨fun _ => ⟨[1, 2, 3, 4, 5], rfl, rfl⟩, ?_⟩
                  refine JU.any [14] (by kernel_rfl) rfl ?_
                  refine ⟨?_, trivial⟩
                  refine JUo.mv (d := some 73) rfl (MV.call (Lo := []) (Lr := [Asr.blk b59 41 [Seg.of (Enc.arr 32 (Enc.int .u8)) (Arr.rep 32 (0 : Int))], Asr.blk b11 41 [Seg.of (Enc.arr 32 (Enc.int .u8)) (Arr.rep 32 (0 : Int))], Asr.blk b25 114 [Seg.c (.int .u32 x1), Seg.of (Enc.arr 20 (Enc.int .u8)) y23], Asr.vw (Enc.int .u8) ((SlV.sub ((Enc.int .u8)).sz s4 (36 : Int) ((x5).length : Int)).v) (subL x5 (36 : Int) ((x5).length : Int)), Asr.of 5 (Enc.int .u8) (z36.v) d37, Asr.of 3 (Enc.int .i64) (z30.v) y28]) (F81.spec (x1) (y23) (d38) ((gd y28 d38)) (y48) ((Arr.ofL 32 (subL (subL x5 (36 : Int) ((x5).length : Int)) (IntKind.wrap .i64 ((32 : Int) * d38)) (IntKind.wrap .i64 ((IntKind.wrap .i64 ((32 : Int) * d38)) + (32 : Int)))))) _ hc53) rfl Try.func81 rfl rfl rfl [] [0, 1, 2, 3, 4, 5] rfl rfl rfl trivial) rfl rfl rfl ?_
                  rintro _ _ ⟨_, ⟨rfl, rfl⟩, rfl⟩
                  refine ⟨fun _ => ⟨[1, 2, 3, 4, 5], rfl, rfl⟩, ?_⟩
                  refine JU.any [16] (by kernel_rfl) rfl ?_
                  refine ⟨?_, trivial⟩
                  refine JUo.mv (d := none) rfl (MV.store (ss := [Seg.of (Enc.arr 32 (Enc.int .u8)) (Arr.rep 32 (0 : Int))]) 0 0 1 [Seg.of (Enc.arr 32 (Enc.int .u8)) y52] rfl tk_41 rfl rfl rfl rfl (fun w hs => ⟨rfl, one_of _ _, trivial⟩)) rfl rfl rfl ?_
                  rintro _ _ ⟨rfl, rfl⟩
                  refine ⟨fun _ => ⟨[1, 2, 3, 4, 5], rfl, rfl⟩, ?_⟩
                  refine JU.nil (by kernel_rfl) ?_
                  exact QJ.cut_normal ((), b59) hm [1, 2, 3, 4, 0, 5] (by exact ⟨rfl, rfl, rfl, rfl, rfl, rfl, rfl, rfl, trivial⟩) rfl rfl
              ·
                refine JUo.mv (d := some 18) rfl (MV.alloc [Seg.of (Enc.arr 32 (Enc.int .u8)) (Arr.rep 32 (0 : Int))] z_41 rfl) rfl rfl rfl ?_
                rintro _ _ ⟨b60, rfl, rfl⟩
                refine ⟨fun _ => ⟨[1, 2, 3, 4, 5], rfl, rfl⟩, ?_⟩
                refine JU.any [4] (by kernel_rfl) rfl ?_
                refine ⟨?_, trivial⟩
                refine JUo.mv (d := some 63) rfl (MV.call (Lo := []) (Lr := [Asr.blk b60 41 [Seg.of (Enc.arr 32 (Enc.int .u8)) (Arr.rep 32 (0 : Int))], Asr.blk b11 41 [Seg.of (Enc.arr 32 (Enc.int .u8)) (Arr.rep 32 (0 : Int))], Asr.blk b25 114 [Seg.c (.int .u32 x1), Seg.of (Enc.arr 20 (Enc.int .u8)) y23], Asr.vw (Enc.int .u8) ((SlV.sub ((Enc.int .u8)).sz s4 (36 : Int) ((x5).length : Int)).v) (subL x5 (36 : Int) ((x5).length : Int)), Asr.of 5 (Enc.int .u8) (z36.v) d37, Asr.of 3 (Enc.int .i64) (z30.v) y28]) (F82.spec (x1) (y23) _ hc49) rfl Try.func82 rfl rfl rfl [] [0, 1, 2, 3, 4, 5] rfl rfl rfl trivial) rfl rfl rfl ?_
                rintro _ _ ⟨_, ⟨rfl, rfl⟩, rfl⟩
                refine ⟨fun _ => ⟨[1, 2, 3, 4, 5], rfl, rfl⟩, ?_⟩
                refine JU.any [14] (by kernel_rfl) rfl ?_
                refine ⟨?_, trivial⟩
                refine JUo.mv (d := some 73) rfl (MV.call (Lo := []) (Lr := [Asr.blk b60 41 [Seg.of (Enc.arr 32 (Enc.int .u8)) (Arr.rep 32 (0 : Int))], Asr.blk b11 41 [Seg.of (Enc.arr 32 (Enc.int .u8)) (Arr.rep 32 (0 : Int))], Asr.blk b25 114 [Seg.c (.int .u32 x1), Seg.of (Enc.arr 20 (Enc.int .u8)) y23], Asr.vw (Enc.int .u8) ((SlV.sub ((Enc.int .u8)).sz s4 (36 : Int) ((x5).length : Int)).v) (subL x5 (36 : Int) ((x5).length : Int)), Asr.of 5 (Enc.int .u8) (z36.v) d37, Asr.of 3 (Enc.int .i64) (z30.v) y28]) (F81.spec (x1) (y23) (d38) ((gd y28 d38)) (y48) ((Arr.ofL 32 (subL (subL x5 (36 : Int) ((x5).length : Int)) (IntKind.wrap .i64 ((32 : Int) * d38)) (IntKind.wrap .i64 ((IntKind.wrap .i64 ((32 : Int) * d38)) + (32 : Int)))))) _ hc53) rfl Try.func81 rfl rfl rfl [] [0, 1, 2, 3, 4, 5] rfl rfl rfl trivial) rfl rfl rfl ?_
                rintro _ _ ⟨_, ⟨rfl, rfl⟩, rfl⟩
                refine ⟨fun _ => ⟨[1, 2, 3, 4, 5], rfl, rfl⟩, ?_⟩
                refine JU.any [16] (by kernel_rfl) rfl ?_
                refine ⟨?_, trivial⟩
                refine JUo.mv (d := none) rfl (MV.store (ss := [Seg.of (Enc.arr 32 (Enc.int .u8)) (Arr.rep 32 (0 : Int))]) 0 0 1 [Seg.of (Enc.arr 32 (Enc.int .u8)) y52] rfl tk_41 rfl rfl rfl rfl (fun w hs => ⟨rfl, one_of _ _, trivial⟩)) rfl rfl rfl ?_
                rintro _ _ ⟨rfl, rfl⟩
                refine ⟨fun _ => ⟨[1, 2, 3, 4, 5], rfl, rfl⟩, ?_⟩
                refine JU.nil (by kernel_rfl) ?_
                exact QJ.cut_normal ((), b60) hm [1, 2, 3, 4, 0, 5] (by exact ⟨rfl, rfl, rfl, rfl, rfl, rfl, rfl, rfl, trivial⟩) rfl rfl
          ·
            refine JC.condF' rfl (decide_eq_false h46) ?_
            refine JC.exit ?_
            refine QJ.then_exit ?_
            obtain rfl := Option.some.inj hm
            refine QJ.round_exit (fun hy => ?_)
            subst hy
            refine QJ.block_hit ?_
            exact QJ.cut_normal (d37, z36) hmo44 [0, 1, 3] (by exact ⟨rfl, rfl, rfl, trivial⟩) rfl rfl
      ·
        refine JC.condT' rfl (congrArg Bool.not (decide_eq_false h22)) ?_
        refine JC.seq ?_
        refine JC.region ?_
        refine JL.val (v := .agg (((Enc.arr 32 (Enc.int .u8))).enc K3).toArray) (QV.build (vals := []) (cells := ((Enc.arr 32 (Enc.int .u8)).enc K3).toArray) rfl (by kernel_rfl)) rfl rfl rfl ?_
        refine JL.mv (d := none) (MV.store (ss := [Seg.of (Enc.arr 32 (Enc.int .u8)) (Arr.rep 32 (0 : Int))]) 2 0 1 [Seg.of (Enc.arr 32 (Enc.int .u8)) K3] rfl tk_41 rfl rfl rfl rfl (fun w hs => ⟨rfl, one_of _ _, trivial⟩)) rfl rfl rfl ?_
        rintro _ _ ⟨rfl, rfl⟩
        refine JL.val (v := .int .i64 (21 : Int)) (QV.assign rfl) rfl rfl rfl ?_
        refine JL.nil ?_
        refine QJ.then_normal ?_
        refine JC.ret ?_
        refine QJ.block_ret ?_
        refine QJ.then_ret ?_
        obtain rfl := Option.some.inj hm
        exact QJ.body (vs := [.agg (((Enc.arr 32 (Enc.int .u8))).enc K3).toArray, .int .i64 (21 : Int)]) (.inl rfl) rfl (ResVs.cons (ResV.cell (d := none) (ty := 0) (ps := "") (af := #[]) (g := none) rfl (QV.eq (QV.loadN (ss := [Seg.of (Enc.arr 32 (Enc.int .u8)) K3]) 2 0 1 rfl tk_41 rfl rfl rfl rfl) rfl)) (ResVs.cons (ResV.tmp rfl) ResVs.nil)) [] rfl rfl (.inr trivial) ⟨rfl, rfl⟩
    ·
      refine JC.condT' rfl (congrArg Bool.not (decide_eq_false h17)) ?_
      refine JC.seq ?_
      refine JC.region ?_
      refine JL.val (v := .agg (((Enc.arr 32 (Enc.int .u8))).enc K3).toArray) (QV.build (vals := []) (cells := ((Enc.arr 32 (Enc.int .u8)).enc K3).toArray) rfl (by kernel_rfl)) rfl rfl rfl ?_
      refine JL.mv (d := none) (MV.store (ss := [Seg.of (Enc.arr 32 (Enc.int .u8)) (Arr.rep 32 (0 : Int))]) 0 0 1 [Seg.of (Enc.arr 32 (Enc.int .u8)) K3] rfl tk_41 rfl rfl rfl rfl (fun w hs => ⟨rfl, one_of _ _, trivial⟩)) rfl rfl rfl ?_
      rintro _ _ ⟨rfl, rfl⟩
      refine JL.val (v := .int .i64 (3 : Int)) (QV.assign rfl) rfl rfl rfl ?_
      refine JL.nil ?_
      refine QJ.then_normal ?_
      refine JC.ret ?_
      refine QJ.block_ret ?_
      refine QJ.then_ret ?_
      obtain rfl := Option.some.inj hm
      exact QJ.body (vs := [.agg (((Enc.arr 32 (Enc.int .u8))).enc K3).toArray, .int .i64 (3 : Int)]) (.inl rfl) rfl (ResVs.cons (ResV.cell (d := none) (ty := 0) (ps := "") (af := #[]) (g := none) rfl (QV.eq (QV.loadN (ss := [Seg.of (Enc.arr 32 (Enc.int .u8)) K3]) 0 0 1 rfl tk_41 rfl rfl rfl rfl) rfl)) (ResVs.cons (ResV.tmp rfl) ResVs.nil)) [] rfl rfl (.inr trivial) ⟨rfl, rfl⟩

/-! ### 64: drogher/drogherlaw03.awake -/
noncomputable def F64.m  : Option Bool :=
  ((F62_1.m ((1 : Int)) (K5) ((7 : Int)) (K6)).bind fun y2 => ((F65.m ((1 : Int)) (K5) ((7 : Int)) (K6) ([(97 : Int)])).bind fun y6 => ((F67.m ((1 : Int)) (K5) ((7 : Int)) (y6.1) ([(97 : Int)])).bind fun y10 => ((F61.m ((3 : Int))).bind fun y13 => (if y13 = (2180 : Int) then (if y2.2 = (0 : Int) then (if y6.2 = (0 : Int) then (if y10.2 = (0 : Int) then some (decide (y10.1 = y2.1)) else some false) else some false) else some false) else some false)))))
set_option maxRecDepth 100000 in
set_option maxHeartbeats 4000000 in
theorem F64.spec  (r : Bool) (hm : F64.m  = some r) :
    Ctr Try.prog false 64 [] [] (fun v L' => v = .bool r ∧ L' = []) := by
  refine Ctr.intro (n := 48) (env := []) Try.func64 rfl rfl rfl rfl (fun c => ?_)
  unfold F64.m at hm
  refine JC.seq ?_
  refine JC.region ?_
  refine JL.val (v := .bool false) (QV.assign rfl) rfl rfl rfl ?_
  refine JL.nil ?_
  refine QJ.then_normal ?_
  refine JC.seq ?_
  refine JC.region ?_
  refine JL.val (v := .agg (((Enc.arr 16 (Enc.int .u8))).enc K5).toArray) (QV.build (vals := []) (cells := ((Enc.arr 16 (Enc.int .u8)).enc K5).toArray) rfl (by kernel_rfl)) rfl rfl rfl ?_
  refine JL.val (v := .agg (((Enc.arr 32 (Enc.int .u8))).enc K6).toArray) (QV.build (vals := [(0, .int .u8 (1 : Int))]) (cells := ((Enc.arr 32 (Enc.int .u8)).enc K6).toArray) rfl (by kernel_rfl)) rfl rfl rfl ?_
  obtain ⟨y2, hc3, hm⟩ := bind_inv hm
  refine JL.mv (d := some 10) (MV.call (Lo := []) (Lr := []) (F62_1.spec ((1 : Int)) (K5) ((7 : Int)) (K6) _ hc3) rfl Try.func62 rfl rfl rfl [] [] rfl rfl rfl trivial) rfl rfl rfl ?_
  rintro _ _ ⟨_, ⟨rfl, rfl⟩, rfl⟩
  refine JL.val (v := .tuple #[.agg (((Enc.arr 32 (Enc.int .u8))).enc y2.1).toArray, .int .i64 y2.2]) (QV.move rfl) rfl rfl rfl ?_
  refine JL.val (v := .agg (((Enc.arr 32 (Enc.int .u8))).enc y2.1).toArray) (QV.extract (vs := [.agg (((Enc.arr 32 (Enc.int .u8))).enc y2.1).toArray, .int .i64 y2.2]) rfl rfl) rfl rfl rfl ?_
  refine JL.val (v := .int .i64 y2.2) (QV.extract (vs := [.agg (((Enc.arr 32 (Enc.int .u8))).enc y2.1).toArray, .int .i64 y2.2]) rfl rfl) rfl rfl rfl ?_
  refine JL.mv (d := some 1) (MV.alloc [Seg.of (Enc.arr 32 (Enc.int .u8)) (Arr.rep 32 (0 : Int))] z_41 rfl) rfl rfl rfl ?_
  rintro _ _ ⟨b4, rfl, rfl⟩
  refine JL.mv (d := none) (MV.store (ss := [Seg.of (Enc.arr 32 (Enc.int .u8)) (Arr.rep 32 (0 : Int))]) 0 0 1 [Seg.of (Enc.arr 32 (Enc.int .u8)) y2.1] rfl tk_41 rfl rfl rfl rfl (fun w hs => ⟨rfl, one_of _ _, trivial⟩)) rfl rfl rfl ?_
  rintro _ _ ⟨rfl, rfl⟩
  refine JL.val (v := .int .i64 y2.2) (QV.assign rfl) rfl rfl rfl ?_
  refine JL.nil ?_
  refine QJ.then_normal ?_
  refine JC.seq ?_
  refine JC.region ?_
  refine JL.val (v := .agg (((Enc.arr 16 (Enc.int .u8))).enc K5).toArray) (QV.build (vals := []) (cells := ((Enc.arr 16 (Enc.int .u8)).enc K5).toArray) rfl (by kernel_rfl)) rfl rfl rfl ?_
  refine JL.val (v := .agg (((Enc.arr 32 (Enc.int .u8))).enc K6).toArray) (QV.build (vals := [(0, .int .u8 (1 : Int))]) (cells := ((Enc.arr 32 (Enc.int .u8)).enc K6).toArray) rfl (by kernel_rfl)) rfl rfl rfl ?_
  refine JL.mv (d := some 16) (MV.lit (E := (Enc.int .u8)) (vals := [(0, .int .u8 (97 : Int))]) [(97 : Int)] Try.underlying22 zi_5 rfl (by decide) rfl (by kernel_rfl)) rfl rfl rfl ?_
  rintro _ _ ⟨z5, rfl, rfl⟩
  refine JL.mv (d := some 17) (MV.mark 0 rfl Try.underlying22 Try.underlying5 (by decide) rfl) rfl rfl rfl ?_
  rintro _ _ ⟨rfl, rfl⟩
  obtain ⟨y6, hc7, hm⟩ := bind_inv hm
  refine JL.mv (d := some 18) (MV.call (Lo := []) (Lr := [Asr.vw (Enc.int .u8) (z5.v) [(97 : Int)], Asr.blk b4 41 [Seg.of (Enc.arr 32 (Enc.int .u8)) y2.1]]) (F65.spec (z5) ((1 : Int)) (K5) ((7 : Int)) (K6) ([(97 : Int)]) _ hc7) rfl Try.func65 rfl rfl rfl [] [0, 1] rfl rfl rfl ⟨(Drv.vw 0 rfl), trivial⟩) rfl rfl rfl ?_
  rintro _ _ ⟨_, ⟨z8, rfl, rfl⟩, rfl⟩
  refine JL.val (v := .tuple #[z8.v, .int .i64 y6.2]) (QV.move rfl) rfl rfl rfl ?_
  refine JL.val (v := z8.v) (QV.extract (vs := [z8.v, .int .i64 y6.2]) rfl rfl) rfl rfl rfl ?_
  refine JL.val (v := .int .i64 y6.2) (QV.extract (vs := [z8.v, .int .i64 y6.2]) rfl rfl) rfl rfl rfl ?_
  refine JL.val (v := z8.v) (QV.assign rfl) rfl rfl rfl ?_
  refine JL.val (v := .int .i64 y6.2) (QV.assign rfl) rfl rfl rfl ?_
  refine JL.nil ?_
  refine QJ.then_normal ?_
  refine JC.seq ?_
  refine JC.region ?_
  refine JL.val (v := .agg (((Enc.arr 16 (Enc.int .u8))).enc K5).toArray) (QV.build (vals := []) (cells := ((Enc.arr 16 (Enc.int .u8)).enc K5).toArray) rfl (by kernel_rfl)) rfl rfl rfl ?_
  refine JL.val (v := z8.v) (QV.move rfl) rfl rfl rfl ?_
  refine JL.mv (d := some 24) (MV.lit (E := (Enc.int .u8)) (vals := [(0, .int .u8 (97 : Int))]) [(97 : Int)] Try.underlying22 zi_5 rfl (by decide) rfl (by kernel_rfl)) rfl rfl rfl ?_
  rintro _ _ ⟨z9, rfl, rfl⟩
  refine JL.mv (d := some 25) (MV.mark 0 rfl Try.underlying22 Try.underlying5 (by decide) rfl) rfl rfl rfl ?_
  rintro _ _ ⟨rfl, rfl⟩
  obtain ⟨y10, hc11, hm⟩ := bind_inv hm
  refine JL.mv (d := some 26) (MV.call (Lo := []) (Lr := [Asr.vw (Enc.int .u8) (z9.v) [(97 : Int)], Asr.of 5 (Enc.int .u8) (z8.v) y6.1, Asr.vw (Enc.int .u8) (z5.v) [(97 : Int)], Asr.blk b4 41 [Seg.of (Enc.arr 32 (Enc.int .u8)) y2.1]]) (F67.spec (z8) (z9) ((1 : Int)) (K5) ((7 : Int)) (y6.1) ([(97 : Int)]) _ hc11) rfl Try.func67 rfl rfl rfl [] [0, 1, 2, 3] rfl rfl rfl ⟨(Drv.of 1 rfl), ⟨(Drv.vw 0 rfl), trivial⟩⟩) rfl rfl rfl ?_
  rintro _ _ ⟨_, ⟨rfl, rfl⟩, rfl⟩
  refine JL.val (v := .tuple #[.agg (((Enc.arr 32 (Enc.int .u8))).enc y10.1).toArray, .int .i64 y10.2]) (QV.move rfl) rfl rfl rfl ?_
  refine JL.val (v := .agg (((Enc.arr 32 (Enc.int .u8))).enc y10.1).toArray) (QV.extract (vs := [.agg (((Enc.arr 32 (Enc.int .u8))).enc y10.1).toArray, .int .i64 y10.2]) rfl rfl) rfl rfl rfl ?_
  refine JL.val (v := .int .i64 y10.2) (QV.extract (vs := [.agg (((Enc.arr 32 (Enc.int .u8))).enc y10.1).toArray, .int .i64 y10.2]) rfl rfl) rfl rfl rfl ?_
  refine JL.mv (d := some 5) (MV.alloc [Seg.of (Enc.arr 32 (Enc.int .u8)) (Arr.rep 32 (0 : Int))] z_41 rfl) rfl rfl rfl ?_
  rintro _ _ ⟨b12, rfl, rfl⟩
  refine JL.mv (d := none) (MV.store (ss := [Seg.of (Enc.arr 32 (Enc.int .u8)) (Arr.rep 32 (0 : Int))]) 0 0 1 [Seg.of (Enc.arr 32 (Enc.int .u8)) y10.1] rfl tk_41 rfl rfl rfl rfl (fun w hs => ⟨rfl, one_of _ _, trivial⟩)) rfl rfl rfl ?_
  rintro _ _ ⟨rfl, rfl⟩
  refine JL.val (v := .int .i64 y10.2) (QV.assign rfl) rfl rfl rfl ?_
  refine JL.nil ?_
  refine QJ.then_normal ?_
  refine JC.seq ?_
  refine JC.region ?_
  obtain ⟨y13, hc14, hm⟩ := bind_inv hm
  refine JL.mv (d := some 29) (MV.call (Lo := []) (Lr := [Asr.blk b12 41 [Seg.of (Enc.arr 32 (Enc.int .u8)) y10.1], Asr.vw (Enc.int .u8) (z9.v) [(97 : Int)], Asr.of 5 (Enc.int .u8) (z8.v) y6.1, Asr.vw (Enc.int .u8) (z5.v) [(97 : Int)], Asr.blk b4 41 [Seg.of (Enc.arr 32 (Enc.int .u8)) y2.1]]) (F61.spec ((3 : Int)) _ hc14) rfl Try.func61 rfl rfl rfl [] [0, 1, 2, 3, 4] rfl rfl rfl trivial) rfl rfl rfl ?_
  rintro _ _ ⟨_, ⟨rfl, rfl⟩, rfl⟩
  refine JL.val (v := .bool (decide (y13 = (2180 : Int)))) (QV.eql rfl rfl) rfl rfl rfl ?_
  rcases ite_inv hm with ⟨h15, hm⟩ | ⟨h15, hm⟩
  ·
    refine JL.val (v := .bool true) (QV.eq (QV.move rfl) (congrArg Value.bool (decide_eq_true h15))) rfl rfl rfl ?_
    refine JL.val (v := .int .i64 y2.2) (QV.move rfl) rfl rfl rfl ?_
    refine JL.val (v := .bool (decide (y2.2 = (0 : Int)))) (QV.eql rfl rfl) rfl rfl rfl ?_
    refine JL.val (v := .bool (decide (y2.2 = (0 : Int)))) (QV.pickT rfl rfl) rfl rfl rfl ?_
    rcases ite_inv hm with ⟨h16, hm⟩ | ⟨h16, hm⟩
    ·
      refine JL.val (v := .bool true) (QV.eq (QV.move rfl) (congrArg Value.bool (decide_eq_true h16))) rfl rfl rfl ?_
      refine JL.val (v := .int .i64 y6.2) (QV.move rfl) rfl rfl rfl ?_
      refine JL.val (v := .bool (decide (y6.2 = (0 : Int)))) (QV.eql rfl rfl) rfl rfl rfl ?_
      refine JL.val (v := .bool (decide (y6.2 = (0 : Int)))) (QV.pickT rfl rfl) rfl rfl rfl ?_
      rcases ite_inv hm with ⟨h17, hm⟩ | ⟨h17, hm⟩
      ·
        refine JL.val (v := .bool true) (QV.eq (QV.move rfl) (congrArg Value.bool (decide_eq_true h17))) rfl rfl rfl ?_
        refine JL.val (v := .int .i64 y10.2) (QV.move rfl) rfl rfl rfl ?_
        refine JL.val (v := .bool (decide (y10.2 = (0 : Int)))) (QV.eql rfl rfl) rfl rfl rfl ?_
        refine JL.val (v := .bool (decide (y10.2 = (0 : Int)))) (QV.pickT rfl rfl) rfl rfl rfl ?_
        rcases ite_inv hm with ⟨h18, hm⟩ | ⟨h18, hm⟩
        ·
          refine JL.val (v := .bool true) (QV.eq (QV.move rfl) (congrArg Value.bool (decide_eq_true h18))) rfl rfl rfl ?_
          refine JL.val (v := .agg (((Enc.arr 32 (Enc.int .u8))).enc y10.1).toArray) (QV.eq (QV.loadN (ss := [Seg.of (Enc.arr 32 (Enc.int .u8)) y10.1]) 0 0 1 rfl tk_41 rfl rfl rfl rfl) rfl) rfl rfl rfl ?_
          refine JL.val (v := .agg (((Enc.arr 32 (Enc.int .u8))).enc y2.1).toArray) (QV.eq (QV.loadN (ss := [Seg.of (Enc.arr 32 (Enc.int .u8)) y2.1]) 4 0 1 rfl tk_41 rfl rfl rfl rfl) rfl) rfl rfl rfl ?_
          refine JL.val (v := .bool (decide (y10.1 = y2.1))) (QV.eqlE (E := (Enc.arr 32 (Enc.int .u8))) (a := y10.1) (b := y2.1) zeq_41 (by kernel_rfl) rfl rfl) rfl rfl rfl ?_
          refine JL.val (v := .bool (decide (y10.1 = y2.1))) (QV.pickT rfl rfl) rfl rfl rfl ?_
          refine JL.val (v := .bool (decide (y10.1 = y2.1))) (QV.assign rfl) rfl rfl rfl ?_
          refine JL.nil ?_
          refine QJ.then_normal ?_
          refine JC.ret ?_
          obtain rfl := Option.some.inj hm
          exact QJ.body (vs := [.bool (decide (y10.1 = y2.1))]) (.inl rfl) rfl (ResVs.cons (ResV.tmp rfl) ResVs.nil) [] rfl rfl (.inr trivial) ⟨rfl, rfl⟩
        ·
          refine JL.val (v := .bool false) (QV.eq (QV.move rfl) (congrArg Value.bool (decide_eq_false h18))) rfl rfl rfl ?_
          refine JL.skip (d := some 44) rfl rfl rfl ?_
          refine JL.skip (d := some 45) rfl rfl rfl ?_
          refine JL.skip (d := some 46) rfl rfl rfl ?_
          refine JL.val (v := .bool false) (QV.pickF rfl rfl) rfl rfl rfl ?_
          refine JL.val (v := .bool false) (QV.assign rfl) rfl rfl rfl ?_
          refine JL.nil ?_
          refine QJ.then_normal ?_
          refine JC.ret ?_
          obtain rfl := Option.some.inj hm
          exact QJ.body (vs := [.bool false]) (.inl rfl) rfl (ResVs.cons (ResV.tmp rfl) ResVs.nil) [] rfl rfl (.inr trivial) ⟨rfl, rfl⟩
      ·
        refine JL.val (v := .bool false) (QV.eq (QV.move rfl) (congrArg Value.bool (decide_eq_false h17))) rfl rfl rfl ?_
        refine JL.skip (d := some 40) rfl rfl rfl ?_
        refine JL.skip (d := some 41) rfl rfl rfl ?_
        refine JL.val (v := .bool false) (QV.pickF rfl rfl) rfl rfl rfl ?_
        refine JL.val (v := .bool false) (QV.move rfl) rfl rfl rfl ?_
        refine JL.skip (d := some 44) rfl rfl rfl ?_
        refine JL.skip (d := some 45) rfl rfl rfl ?_
        refine JL.skip (d := some 46) rfl rfl rfl ?_
        refine JL.val (v := .bool false) (QV.pickF rfl rfl) rfl rfl rfl ?_
        refine JL.val (v := .bool false) (QV.assign rfl) rfl rfl rfl ?_
        refine JL.nil ?_
        refine QJ.then_normal ?_
        refine JC.ret ?_
        obtain rfl := Option.some.inj hm
        exact QJ.body (vs := [.bool false]) (.inl rfl) rfl (ResVs.cons (ResV.tmp rfl) ResVs.nil) [] rfl rfl (.inr trivial) ⟨rfl, rfl⟩
    ·
      refine JL.val (v := .bool false) (QV.eq (QV.move rfl) (congrArg Value.bool (decide_eq_false h16))) rfl rfl rfl ?_
      refine JL.skip (d := some 36) rfl rfl rfl ?_
      refine JL.skip (d := some 37) rfl rfl rfl ?_
      refine JL.val (v := .bool false) (QV.pickF rfl rfl) rfl rfl rfl ?_
      refine JL.val (v := .bool false) (QV.move rfl) rfl rfl rfl ?_
      refine JL.skip (d := some 40) rfl rfl rfl ?_
      refine JL.skip (d := some 41) rfl rfl rfl ?_
      refine JL.val (v := .bool false) (QV.pickF rfl rfl) rfl rfl rfl ?_
      refine JL.val (v := .bool false) (QV.move rfl) rfl rfl rfl ?_
      refine JL.skip (d := some 44) rfl rfl rfl ?_
      refine JL.skip (d := some 45) rfl rfl rfl ?_
      refine JL.skip (d := some 46) rfl rfl rfl ?_
      refine JL.val (v := .bool false) (QV.pickF rfl rfl) rfl rfl rfl ?_
      refine JL.val (v := .bool false) (QV.assign rfl) rfl rfl rfl ?_
      refine JL.nil ?_
      refine QJ.then_normal ?_
      refine JC.ret ?_
      obtain rfl := Option.some.inj hm
      exact QJ.body (vs := [.bool false]) (.inl rfl) rfl (ResVs.cons (ResV.tmp rfl) ResVs.nil) [] rfl rfl (.inr trivial) ⟨rfl, rfl⟩
  ·
    refine JL.val (v := .bool false) (QV.eq (QV.move rfl) (congrArg Value.bool (decide_eq_false h15))) rfl rfl rfl ?_
    refine JL.skip (d := some 32) rfl rfl rfl ?_
    refine JL.skip (d := some 33) rfl rfl rfl ?_
    refine JL.val (v := .bool false) (QV.pickF rfl rfl) rfl rfl rfl ?_
    refine JL.val (v := .bool false) (QV.move rfl) rfl rfl rfl ?_
    refine JL.skip (d := some 36) rfl rfl rfl ?_
    refine JL.skip (d := some 37) rfl rfl rfl ?_
    refine JL.val (v := .bool false) (QV.pickF rfl rfl) rfl rfl rfl ?_
    refine JL.val (v := .bool false) (QV.move rfl) rfl rfl rfl ?_
    refine JL.skip (d := some 40) rfl rfl rfl ?_
    refine JL.skip (d := some 41) rfl rfl rfl ?_
    refine JL.val (v := .bool false) (QV.pickF rfl rfl) rfl rfl rfl ?_
    refine JL.val (v := .bool false) (QV.move rfl) rfl rfl rfl ?_
    refine JL.skip (d := some 44) rfl rfl rfl ?_
    refine JL.skip (d := some 45) rfl rfl rfl ?_
    refine JL.skip (d := some 46) rfl rfl rfl ?_
    refine JL.val (v := .bool false) (QV.pickF rfl rfl) rfl rfl rfl ?_
    refine JL.val (v := .bool false) (QV.assign rfl) rfl rfl rfl ?_
    refine JL.nil ?_
    refine QJ.then_normal ?_
    refine JC.ret ?_
    obtain rfl := Option.some.inj hm
    exact QJ.body (vs := [.bool false]) (.inl rfl) rfl (ResVs.cons (ResV.tmp rfl) ResVs.nil) [] rfl rfl (.inr trivial) ⟨rfl, rfl⟩

end Go.Proofs.Ytmedbpiapeiobaa
