/- Written by gen.py: functions and their contracts. -/
import Derived.Test.YtmedbpiapeiobaaOtsx1
namespace Go.Proofs.Ytmedbpiapeiobaa
open Go Go.Eng Go.Proofs
set_option linter.unusedVariables false
set_option linter.unusedSimpArgs false
/-! ### 65: drogher/ots.Sign -/
noncomputable def F65_1.j1  (d30 : List Int) : Option (List Int × Int) :=
  some (d30, (0 : Int))
noncomputable def F65_1.j2 (d32 : List Int) (d33 : Int) (y45 : (Arr Int 32))  : Option ((List Int × Int) ⊕ (List Int)) :=
  (if ((d32).length + ((subL (y45).l (0 : Int) ((32 : Nat) : Int))).length) * 1 ≤ 140737488355328 ∧ (d32).length + ((subL (y45).l (0 : Int) ((32 : Nat) : Int))).length ≤ 9223372036854775807 then some (.inl ((d32 ++ (subL (y45).l (0 : Int) ((32 : Nat) : Int))), (IntKind.wrap .i64 (d33 + (1 : Int))))) else none)
noncomputable def F65_1.b1 (x1 : Int) (x4 : (Arr Int 32)) (y15 : (Arr Int 20)) (y26 : (List Int)) : (List Int × Int) → Option ((List Int × Int) ⊕ (List Int))
  | (d32, d33) => (if d33 < ((y26).length : Int) then (if 0 ≤ d33 ∧ d33 < ((y26).length : Int) then ((F83.m (x1) (y15) (d33) (x4)).bind fun y43 => ((F81.m (x1) (y15) (d33) ((0 : Int)) ((gd y26 d33)) (y43)).bind fun y45 => F65_1.j2 d32 d33 y45)) else none) else some (.inr d32))
noncomputable def F65_1.m (x1 : Int) (x2 : (Arr Int 16)) (x3 : Int) (x4 : (Arr Int 32)) (x6 : List Int) : Option (List Int × Int) :=
  ((F58.m (x1)).bind fun y12 => (if y12 = (0 : Int) then some (([] : List Int), (21 : Int)) else ((F80.m (x1) (x2) (x3)).bind fun y15 => ((F83.m (x1) (y15) ((65533 : Int)) (x4)).bind fun y18 => ((F25.m (([] : List Int)) ((4 : Int)) ((IntKind.wrap .u64 x1))).bind fun y21 => (if ((y21).length + ((subL (y18).l (0 : Int) ((32 : Nat) : Int))).length) * 1 ≤ 140737488355328 ∧ (y21).length + ((subL (y18).l (0 : Int) ((32 : Nat) : Int))).length ≤ 9223372036854775807 then ((F89.m (x1) (y15) ((subL (y18).l (0 : Int) ((32 : Nat) : Int))) (x6)).bind fun y26 => ((loop (F65_1.b1 x1 x4 y15 y26) ((y21 ++ (subL (y18).l (0 : Int) ((32 : Nat) : Int))), (0 : Int))).bind fun y => match y with | d30 => F65_1.j1 (d30))) else none))))))
set_option maxRecDepth 100000 in
set_option maxHeartbeats 4000000 in
theorem F65_1.spec (s5 : SlV) (x1 : Int) (x2 : (Arr Int 16)) (x3 : Int) (x4 : (Arr Int 32)) (x6 : List Int) (r : (List Int × Int)) (hm : F65_1.m x1 x2 x3 x4 x6 = some r) :
    Ctr Try.prog false 65 [.int .u32 x1, .agg (((Enc.arr 16 (Enc.int .u8))).enc x2).toArray, .int .u32 x3, .agg (((Enc.arr 32 (Enc.int .u8))).enc x4).toArray, s5.v] [Asr.vw (Enc.int .u8) (s5.v) x6] (fun v L' => ∃ (g7 : SlV), v = .tuple #[g7.v, .int .i64 r.2] ∧ L' = [Asr.of 5 (Enc.int .u8) (g7.v) r.1]) := by
  refine Ctr.intro (n := 56) (env := [(0, .int .u32 x1), (1, .agg (((Enc.arr 16 (Enc.int .u8))).enc x2).toArray), (2, .int .u32 x3), (3, .agg (((Enc.arr 32 (Enc.int .u8))).enc x4).toArray), (4, s5.v)]) Try.func65 rfl rfl rfl rfl (fun c => ?_)
  unfold F65_1.m at hm
  refine JC.seq ?_
  refine JC.region ?_
  refine JL.mv (d := some 6) (MV.box [Seg.of (Enc.arr 16 (Enc.int .u8)) x2] rfl (fun w hs => rfl)) rfl rfl rfl ?_
  rintro _ _ ⟨b10, rfl, rfl⟩
  refine JL.mv (d := some 8) (MV.box [Seg.of (Enc.arr 32 (Enc.int .u8)) x4] rfl (fun w hs => rfl)) rfl rfl rfl ?_
  rintro _ _ ⟨b11, rfl, rfl⟩
  refine JL.ent (fun _ hs => hs.nil 5 (Enc.int .u8)) ?_
  refine JL.val (v := SlV.nil.v) (QV.assign rfl) rfl rfl rfl ?_
  refine JL.val (v := .int .i64 (0 : Int)) (QV.assign rfl) rfl rfl rfl ?_
  refine JL.nil ?_
  refine QJ.then_normal ?_
  refine JC.seq ?_
  refine JC.seq ?_
  refine JC.region ?_
  refine JL.val (v := .int .u32 x1) (QV.move rfl) rfl rfl rfl ?_
  obtain ⟨y12, hc13, hm⟩ := bind_inv hm
  refine JL.mv (d := some 19) (MV.call (Lo := []) (Lr := [Asr.of 5 (Enc.int .u8) (SlV.nil.v) ([] : List Int), Asr.blk b11 41 [Seg.of (Enc.arr 32 (Enc.int .u8)) x4], Asr.blk b10 78 [Seg.of (Enc.arr 16 (Enc.int .u8)) x2], Asr.vw (Enc.int .u8) (s5.v) x6]) (F58.spec (x1) _ hc13) rfl Try.func58 rfl rfl rfl [] [0, 1, 2, 3] rfl rfl rfl trivial) rfl rfl rfl ?_
  rintro _ _ ⟨_, ⟨rfl, rfl⟩, rfl⟩
  refine JL.val (v := .bool (decide (y12 = (0 : Int)))) (QV.eql rfl rfl) rfl rfl rfl ?_
  refine JL.nil ?_
  refine QJ.then_normal ?_
  rcases ite_inv hm with ⟨h14, hm⟩ | ⟨h14, hm⟩
  ·
    refine JC.condT' rfl (decide_eq_true h14) ?_
    refine JC.seq ?_
    refine JC.region ?_
    refine JL.ent (fun _ hs => hs.nil 5 (Enc.int .u8)) ?_
    refine JL.val (v := SlV.nil.v) (QV.assign rfl) rfl rfl rfl ?_
    refine JL.val (v := .int .i64 (21 : Int)) (QV.assign rfl) rfl rfl rfl ?_
    refine JL.nil ?_
    refine QJ.then_normal ?_
    refine JC.ret ?_
    refine QJ.then_ret ?_
    obtain rfl := Option.some.inj hm
    exact QJ.body (vs := [SlV.nil.v, .int .i64 (21 : Int)]) (.inl rfl) rfl (ResVs.cons (ResV.tmp rfl) (ResVs.cons (ResV.tmp rfl) ResVs.nil)) [0] rfl rfl (.inr ⟨own_of _ _ _ _, trivial⟩) ⟨(SlV.nil), rfl, rfl⟩
  ·
    refine JC.condF' rfl (decide_eq_false h14) ?_
    refine JC.skip ?_
    refine QJ.then_normal ?_
    refine JC.seq ?_
    refine JC.region ?_
    refine JL.val (v := .int .u32 x1) (QV.move rfl) rfl rfl rfl ?_
    refine JL.val (v := .agg (((Enc.arr 16 (Enc.int .u8))).enc x2).toArray) (QV.eq (QV.loadN (ss := [Seg.of (Enc.arr 16 (Enc.int .u8)) x2]) 2 0 1 rfl tk_78 rfl rfl rfl rfl) rfl) rfl rfl rfl ?_
    refine JL.val (v := .int .u32 x3) (QV.move rfl) rfl rfl rfl ?_
    obtain ⟨y15, hc16, hm⟩ := bind_inv hm
    refine JL.mv (d := some 24) (MV.call (Lo := []) (Lr := [Asr.of 5 (Enc.int .u8) (SlV.nil.v) ([] : List Int), Asr.blk b11 41 [Seg.of (Enc.arr 32 (Enc.int .u8)) x4], Asr.blk b10 78 [Seg.of (Enc.arr 16 (Enc.int .u8)) x2], Asr.vw (Enc.int .u8) (s5.v) x6]) (F80.spec (x1) (x2) (x3) _ hc16) rfl Try.func80 rfl rfl rfl [] [0, 1, 2, 3] rfl rfl rfl trivial) rfl rfl rfl ?_
    rintro _ _ ⟨_, ⟨rfl, rfl⟩, rfl⟩
    refine JL.mv (d := some 12) (MV.alloc [Seg.c (.int .u32 (0 : Int)), Seg.of (Enc.arr 20 (Enc.int .u8)) (Arr.rep 20 (0 : Int))] z_114 rfl) rfl rfl rfl ?_
    rintro _ _ ⟨b17, rfl, rfl⟩
    refine JL.mv (d := none) (MV.store (ss := [Seg.c (.int .u32 (0 : Int)), Seg.of (Enc.arr 20 (Enc.int .u8)) (Arr.rep 20 (0 : Int))]) 0 0 2 [Seg.c (.int .u32 x1), Seg.of (Enc.arr 20 (Enc.int .u8)) y15] rfl tk_114 rfl rfl rfl rfl (fun w hs => ⟨rfl, one_c rfl, one_of _ _, trivial⟩)) rfl rfl rfl ?_
    rintro _ _ ⟨rfl, rfl⟩
    refine JL.nil ?_
    refine QJ.then_normal ?_
    refine JC.seq ?_
    refine JC.region ?_
    refine JL.val (v := .agg (flat [Seg.c (.int .u32 x1), Seg.of (Enc.arr 20 (Enc.int .u8)) y15]).toArray) (QV.eq (QV.loadN (ss := [Seg.c (.int .u32 x1), Seg.of (Enc.arr 20 (Enc.int .u8)) y15]) 0 0 2 rfl tk_114 rfl rfl rfl rfl) rfl) rfl rfl rfl ?_
    refine JL.val (v := .agg (((Enc.arr 32 (Enc.int .u8))).enc x4).toArray) (QV.eq (QV.loadN (ss := [Seg.of (Enc.arr 32 (Enc.int .u8)) x4]) 2 0 1 rfl tk_41 rfl rfl rfl rfl) rfl) rfl rfl rfl ?_
    obtain ⟨y18, hc19, hm⟩ := bind_inv hm
    refine JL.mv (d := some 27) (MV.call (Lo := []) (Lr := [Asr.blk b17 114 [Seg.c (.int .u32 x1), Seg.of (Enc.arr 20 (Enc.int .u8)) y15], Asr.of 5 (Enc.int .u8) (SlV.nil.v) ([] : List Int), Asr.blk b11 41 [Seg.of (Enc.arr 32 (Enc.int .u8)) x4], Asr.blk b10 78 [Seg.of (Enc.arr 16 (Enc.int .u8)) x2], Asr.vw (Enc.int .u8) (s5.v) x6]) (F83.spec (x1) (y15) ((65533 : Int)) (x4) _ hc19) rfl Try.func83 rfl rfl rfl [] [0, 1, 2, 3, 4] rfl rfl rfl trivial) rfl rfl rfl ?_
    rintro _ _ ⟨_, ⟨rfl, rfl⟩, rfl⟩
    refine JL.mv (d := some 13) (MV.alloc [Seg.of (Enc.arr 32 (Enc.int .u8)) (Arr.rep 32 (0 : Int))] z_41 rfl) rfl rfl rfl ?_
    rintro _ _ ⟨b20, rfl, rfl⟩
    refine JL.mv (d := none) (MV.store (ss := [Seg.of (Enc.arr 32 (Enc.int .u8)) (Arr.rep 32 (0 : Int))]) 0 0 1 [Seg.of (Enc.arr 32 (Enc.int .u8)) y18] rfl tk_41 rfl rfl rfl rfl (fun w hs => ⟨rfl, one_of _ _, trivial⟩)) rfl rfl rfl ?_
    rintro _ _ ⟨rfl, rfl⟩
    refine JL.nil ?_
    refine QJ.then_normal ?_
    refine JC.seq ?_
    refine JC.regionT [Asr.blk b20 41 [Seg.of (Enc.arr 32 (Enc.int .u8)) y18], Asr.blk b17 114 [Seg.c (.int .u32 x1), Seg.of (Enc.arr 20 (Enc.int .u8)) y15], Asr.of 5 (Enc.int .u8) (SlV.nil.v) ([] : List Int), Asr.blk b11 41 [Seg.of (Enc.arr 32 (Enc.int .u8)) x4], Asr.blk b10 78 [Seg.of (Enc.arr 16 (Enc.int .u8)) x2], Asr.vw (Enc.int .u8) (s5.v) x6] (fun t => false) [(0, true), (1, true), (3, true), (2, false), (4, false), (5, false)] (by kernel_rfl) (by kernel_rfl) (by kernel_rfl) rfl (fun hsel => ?_)
    refine JT.take (i := 0) (v := .int .u32 x1) hsel rfl (QV.move rfl) rfl rfl rfl [0, 1, 2, 3, 4, 5] rfl rfl ?_
    refine JT.take (i := 1) (v := .int .u64 (IntKind.wrap .u64 x1)) hsel rfl (QV.conv rfl (by rw [Try.underlying74]; rfl) Try.underlying28) rfl rfl rfl [0, 1, 2, 3, 4, 5] rfl rfl ?_
    refine JT.take (i := 3) (v := (SlV.sub ((Enc.int .u8)).sz (SlV.mk (some ⟨b20, 0, none⟩) 32 32) (0 : Int) ((32 : Nat) : Int)).v) hsel rfl (QV.sliceB Try.underlying41 tk_5 rfl rfl rfl (by decide)) rfl rfl rfl [0, 1, 2, 3, 4, 5] rfl rfl ?_
    refine JT.ent (fun _ hs => hs.nil 5 (Enc.int .u8)) ?_
    obtain ⟨y21, hc22, hm⟩ := bind_inv hm
    refine JT.only (i := 2) (d := some 30) rfl (MV.call (Lo := []) (Lr := [Asr.of 5 (Enc.int .u8) (SlV.nil.v) ([] : List Int), Asr.blk b20 41 [Seg.of (Enc.arr 32 (Enc.int .u8)) y18], Asr.blk b17 114 [Seg.c (.int .u32 x1), Seg.of (Enc.arr 20 (Enc.int .u8)) y15], Asr.of 5 (Enc.int .u8) (SlV.nil.v) ([] : List Int), Asr.blk b11 41 [Seg.of (Enc.arr 32 (Enc.int .u8)) x4], Asr.blk b10 78 [Seg.of (Enc.arr 16 (Enc.int .u8)) x2], Asr.vw (Enc.int .u8) (s5.v) x6]) (F25.spec (SlV.nil) (([] : List Int)) ((4 : Int)) ((IntKind.wrap .u64 x1)) _ hc22) rfl Try.func25 rfl rfl rfl [] [0, 1, 2, 3, 4, 5, 6] rfl rfl rfl ⟨(Drv.of 0 rfl), trivial⟩) rfl rfl rfl ?_
    rintro _ _ ⟨_, ⟨z23, rfl, rfl⟩, rfl⟩
    refine ⟨fun _ => ⟨[2, 3, 4, 5, 6, 7], rfl, rfl⟩, ?_⟩
    refine JT.grow [Asr.of 5 (Enc.int .u8) (SlV.nil.v) ([] : List Int), Asr.blk b20 41 [Seg.of (Enc.arr 32 (Enc.int .u8)) y18], Asr.blk b17 114 [Seg.c (.int .u32 x1), Seg.of (Enc.arr 20 (Enc.int .u8)) y15], Asr.of 5 (Enc.int .u8) (SlV.nil.v) ([] : List Int), Asr.blk b11 41 [Seg.of (Enc.arr 32 (Enc.int .u8)) x4], Asr.blk b10 78 [Seg.of (Enc.arr 16 (Enc.int .u8)) x2], Asr.vw (Enc.int .u8) (s5.v) x6] [1, 2, 3, 4, 5, 6] rfl rfl ?_
    obtain ⟨h24, hm⟩ := guard_inv hm
    refine JT.only (i := 4) (d := some 32) rfl (MV.append 0 rfl (Rdg.ofDrv ((Drv.arr (ss := [Seg.of (Enc.arr 32 (Enc.int .u8)) y18]) 2 0 rfl rfl rfl rfl).subV (by rw [Arr.h]; exact (show 0 ≤ (0 : Int) ∧ (0 : Int) ≤ ((32 : Nat) : Int) ∧ ((32 : Nat) : Int) ≤ ((32 : Nat) : Int) from by decide)))) Try.underlying22 zi_5 rfl (by decide) rfl rfl h24) rfl rfl rfl ?_
    rintro _ _ ⟨z25, rfl, rfl⟩
    refine ⟨fun _ => ⟨[1, 2, 3, 4, 5, 6, 7], rfl, rfl⟩, ?_⟩
    refine JT.grow [Asr.of 5 (Enc.int .u8) (z25.v) (y21 ++ (subL (y18).l (0 : Int) ((32 : Nat) : Int))), Asr.of 5 (Enc.int .u8) (SlV.nil.v) ([] : List Int), Asr.blk b20 41 [Seg.of (Enc.arr 32 (Enc.int .u8)) y18], Asr.blk b17 114 [Seg.c (.int .u32 x1), Seg.of (Enc.arr 20 (Enc.int .u8)) y15], Asr.of 5 (Enc.int .u8) (SlV.nil.v) ([] : List Int), Asr.blk b11 41 [Seg.of (Enc.arr 32 (Enc.int .u8)) x4], Asr.blk b10 78 [Seg.of (Enc.arr 16 (Enc.int .u8)) x2], Asr.vw (Enc.int .u8) (s5.v) x6] [1, 2, 3, 4, 5, 6, 7] rfl rfl ?_
    refine JT.only (i := 5) (d := some 14) rfl (MV.ofQV (v := z25.v) (QV.assign rfl)) rfl rfl rfl ?_
    rintro _ _ ⟨rfl, rfl⟩
    refine ⟨fun _ => ⟨[0, 1, 2, 3, 4, 5, 6, 7], rfl, rfl⟩, ?_⟩
    refine JT.nil ?_
    refine QJ.then_normal ?_
    refine JC.seq ?_
    refine JC.seq ?_
    refine JC.regionT [Asr.of 5 (Enc.int .u8) (z25.v) (y21 ++ (subL (y18).l (0 : Int) ((32 : Nat) : Int))), Asr.of 5 (Enc.int .u8) (SlV.nil.v) ([] : List Int), Asr.blk b20 41 [Seg.of (Enc.arr 32 (Enc.int .u8)) y18], Asr.blk b17 114 [Seg.c (.int .u32 x1), Seg.of (Enc.arr 20 (Enc.int .u8)) y15], Asr.of 5 (Enc.int .u8) (SlV.nil.v) ([] : List Int), Asr.blk b11 41 [Seg.of (Enc.arr 32 (Enc.int .u8)) x4], Asr.blk b10 78 [Seg.of (Enc.arr 16 (Enc.int .u8)) x2], Asr.vw (Enc.int .u8) (s5.v) x6] (fun t => false) [(0, true), (1, true), (2, true), (5, true), (3, false), (4, false)] (by kernel_rfl) (by kernel_rfl) (by kernel_rfl) rfl (fun hsel => ?_)
    refine JT.take (i := 0) (v := .agg (flat [Seg.c (.int .u32 x1), Seg.of (Enc.arr 20 (Enc.int .u8)) y15]).toArray) hsel rfl (QV.eq (QV.loadN (ss := [Seg.c (.int .u32 x1), Seg.of (Enc.arr 20 (Enc.int .u8)) y15]) 3 0 2 rfl tk_114 rfl rfl rfl rfl) rfl) rfl rfl rfl [0, 1, 2, 3, 4, 5, 6, 7] rfl rfl ?_
    refine JT.take (i := 1) (v := (SlV.sub ((Enc.int .u8)).sz (SlV.mk (some ⟨b20, 0, none⟩) 32 32) (0 : Int) ((32 : Nat) : Int)).v) hsel rfl (QV.sliceB Try.underlying41 tk_5 rfl rfl rfl (by decide)) rfl rfl rfl [0, 1, 2, 3, 4, 5, 6, 7] rfl rfl ?_
    refine JT.take (i := 2) (v := s5.v) hsel rfl (QV.move rfl) rfl rfl rfl [0, 1, 2, 3, 4, 5, 6, 7] rfl rfl ?_
    refine JT.take (i := 5) (v := .int .i64 (0 : Int)) hsel rfl (QV.move rfl) rfl rfl rfl [0, 1, 2, 3, 4, 5, 6, 7] rfl rfl ?_
    obtain ⟨y26, hc27, hm⟩ := bind_inv hm
    refine JT.only (i := 3) (d := some 36) rfl (MV.call (Lo := []) (Lr := [Asr.of 5 (Enc.int .u8) (z25.v) (y21 ++ (subL (y18).l (0 : Int) ((32 : Nat) : Int))), Asr.of 5 (Enc.int .u8) (SlV.nil.v) ([] : List Int), Asr.blk b20 41 [Seg.of (Enc.arr 32 (Enc.int .u8)) y18], Asr.blk b17 114 [Seg.c (.int .u32 x1), Seg.of (Enc.arr 20 (Enc.int .u8)) y15], Asr.of 5 (Enc.int .u8) (SlV.nil.v) ([] : List Int), Asr.blk b11 41 [Seg.of (Enc.arr 32 (Enc.int .u8)) x4], Asr.blk b10 78 [Seg.of (Enc.arr 16 (Enc.int .u8)) x2], Asr.vw (Enc.int .u8) (s5.v) x6]) (F89.spec ((SlV.sub ((Enc.int .u8)).sz (SlV.mk (some ⟨b20, 0, none⟩) 32 32) (0 : Int) ((32 : Nat) : Int))) (s5) (x1) (y15) ((subL (y18).l (0 : Int) ((32 : Nat) : Int))) (x6) _ hc27) rfl Try.func89 rfl rfl rfl [] [0, 1, 2, 3, 4, 5, 6, 7] rfl rfl rfl ⟨((Drv.arr (ss := [Seg.of (Enc.arr 32 (Enc.int .u8)) y18]) 2 0 rfl rfl rfl rfl).subV (by rw [Arr.h]; exact (show 0 ≤ (0 : Int) ∧ (0 : Int) ≤ ((32 : Nat) : Int) ∧ ((32 : Nat) : Int) ≤ ((32 : Nat) : Int) from by decide))), ⟨(Drv.vw 7 rfl), trivial⟩⟩) rfl rfl rfl ?_
    rintro _ _ ⟨_, ⟨z28, rfl, rfl⟩, rfl⟩
    refine ⟨fun _ => ⟨[1, 2, 3, 4, 5, 6, 7, 8], rfl, rfl⟩, ?_⟩
    refine JT.grow [Asr.of 3 (Enc.int .i64) (z28.v) y26, Asr.of 5 (Enc.int .u8) (z25.v) (y21 ++ (subL (y18).l (0 : Int) ((32 : Nat) : Int))), Asr.of 5 (Enc.int .u8) (SlV.nil.v) ([] : List Int), Asr.blk b20 41 [Seg.of (Enc.arr 32 (Enc.int .u8)) y18], Asr.blk b17 114 [Seg.c (.int .u32 x1), Seg.of (Enc.arr 20 (Enc.int .u8)) y15], Asr.of 5 (Enc.int .u8) (SlV.nil.v) ([] : List Int), Asr.blk b11 41 [Seg.of (Enc.arr 32 (Enc.int .u8)) x4], Asr.blk b10 78 [Seg.of (Enc.arr 16 (Enc.int .u8)) x2], Asr.vw (Enc.int .u8) (s5.v) x6] [1, 2, 3, 4, 5, 6, 7, 8] rfl rfl ?_
    refine JT.only (i := 4) (d := some 37) rfl (MV.ofQV (v := .int .i64 ((y26).length : Int)) (QV.len (Rdg.of 0 rfl) Try.underlying24 rfl)) rfl rfl rfl ?_
    rintro _ _ ⟨rfl, rfl⟩
    refine ⟨fun _ => ⟨[0, 1, 2, 3, 4, 5, 6, 7, 8], rfl, rfl⟩, ?_⟩
    refine JT.nil ?_
    refine QJ.then_normal ?_
    refine JC.cutK (Y := (List Int) × SlV) (fun y => match y with | (d30, _) => F65_1.j1 (d30) = some r) (fun y => match y with | (d30, z29) => [(14, z29.v)]) (fun y => match y with | (d30, z29) => [Asr.of 5 (Enc.int .u8) (z29.v) d30]) ?_ ?_
    ·
      rintro ⟨d30, z29⟩ hm
      unfold F65_1.j1 at hm
      show QJ _ _ [(14, z29.v)] [Asr.of 5 (Enc.int .u8) (z29.v) d30] _ _
      refine QJ.then_normal ?_
      refine JC.seq ?_
      refine JC.region ?_
      refine JL.val (v := z29.v) (QV.move rfl) rfl rfl rfl ?_
      refine JL.val (v := z29.v) (QV.assign rfl) rfl rfl rfl ?_
      refine JL.val (v := .int .i64 (0 : Int)) (QV.assign rfl) rfl rfl rfl ?_
      refine JL.nil ?_
      refine QJ.then_normal ?_
      refine JC.ret ?_
      obtain rfl := Option.some.inj hm
      exact QJ.body (vs := [z29.v, .int .i64 (0 : Int)]) (.inl rfl) rfl (ResVs.cons (ResV.tmp rfl) (ResVs.cons (ResV.tmp rfl) ResVs.nil)) [0] rfl rfl (.inr ⟨own_of _ _ _ _, trivial⟩) ⟨z29, rfl, rfl⟩
    ·
      refine JC.block ?_
      obtain ⟨y37, hl38, hmo39⟩ := bind_inv hm
      refine JC.loop (F65_1.b1 x1 x4 y15 y26) (fun x z => match x, z with | (d32, d33), z31 => [(8, .pointer (some ⟨b11, 0, none⟩)), (12, .pointer (some ⟨b17, 0, none⟩)), (14, z31.v), (36, z28.v), (37, .int .i64 ((y26).length : Int)), (38, .int .i64 d33)]) (fun x z => match x, z with | (d32, d33), z31 => [Asr.blk b11 41 [Seg.of (Enc.arr 32 (Enc.int .u8)) x4], Asr.blk b17 114 [Seg.c (.int .u32 x1), Seg.of (Enc.arr 20 (Enc.int .u8)) y15], Asr.of 5 (Enc.int .u8) (z31.v) d32, Asr.of 3 (Enc.int .i64) (z28.v) y26]) ((y21 ++ (subL (y18).l (0 : Int) ((32 : Nat) : Int))), (0 : Int)) z25 y37 hl38 [6, 4, 1, 0] (by exact ⟨rfl, rfl, rfl, rfl, rfl, rfl, trivial⟩) rfl rfl ?_
      rintro ⟨d32, d33⟩ z31 s40 hm
      unfold F65_1.b1 at hm
      dsimp only at hm
      show JC _ _ _ [(8, .pointer (some ⟨b11, 0, none⟩)), (12, .pointer (some ⟨b17, 0, none⟩)), (14, z31.v), (36, z28.v), (37, .int .i64 ((y26).length : Int)), (38, .int .i64 d33)] [Asr.blk b11 41 [Seg.of (Enc.arr 32 (Enc.int .u8)) x4], Asr.blk b17 114 [Seg.c (.int .u32 x1), Seg.of (Enc.arr 20 (Enc.int .u8)) y15], Asr.of 5 (Enc.int .u8) (z31.v) d32, Asr.of 3 (Enc.int .i64) (z28.v) y26] _ _
      refine JC.seq ?_
      refine JC.region ?_
      refine JL.val (v := .bool (decide (d33 < ((y26).length : Int)))) (QV.lss rfl rfl) rfl rfl rfl ?_
      refine JL.nil ?_
      refine QJ.then_normal ?_
      refine JC.seq ?_
      rcases ite_inv hm with ⟨h41, hm⟩ | ⟨h41, hm⟩
      ·
        refine JC.condT' rfl (decide_eq_true h41) ?_
        refine JC.skip ?_
        refine QJ.then_normal ?_
        refine JC.seq ?_
        refine JC.block ?_
        refine JC.seq ?_
        refine JC.region ?_
        refine JL.val (v := .int .i64 d33) (QV.move rfl) rfl rfl rfl ?_
        obtain ⟨h42, hm⟩ := guard_inv hm
        refine JL.val (v := .pointer (some (elA (z28.v) (Int.toNat d33 * ((Enc.int .i64)).sz)))) (QV.indexA (Rdg.of 3 rfl) Try.underlying24 tk_3 rfl rfl h42) rfl rfl rfl ?_
        refine JL.val (v := .int .i64 (gd y26 d33)) (QV.el1 (Rdg.of 3 rfl) tk_3 rfl h42 rfl) rfl rfl rfl ?_
        refine JL.val (v := .int .i64 d33) (QV.assign rfl) rfl rfl rfl ?_
        refine JL.val (v := .int .i64 (gd y26 d33)) (QV.assign rfl) rfl rfl rfl ?_
        refine JL.nil ?_
        refine QJ.then_normal ?_
        refine JC.seq ?_
        obtain ⟨y43, hc44, hm⟩ := bind_inv hm
        obtain ⟨y45, hc46, hm⟩ := bind_inv hm
        refine JC.cutK (Y := Unit × Nat) (fun y => match y with | (_, _) => F65_1.j2 d32 d33 y45 = some s40) (fun y => match y with | (_, z48) => [(8, .pointer (some ⟨b11, 0, none⟩)), (12, .pointer (some ⟨b17, 0, none⟩)), (14, z31.v), (17, .pointer (some ⟨z48, 0, none⟩)), (36, z28.v), (37, .int .i64 ((y26).length : Int)), (38, .int .i64 d33)]) (fun y => match y with | (_, z48) => [Asr.blk b11 41 [Seg.of (Enc.arr 32 (Enc.int .u8)) x4], Asr.blk b17 114 [Seg.c (.int .u32 x1), Seg.of (Enc.arr 20 (Enc.int .u8)) y15], Asr.of 5 (Enc.int .u8) (z31.v) d32, Asr.blk z48 41 [Seg.of (Enc.arr 32 (Enc.int .u8)) y45], Asr.of 3 (Enc.int .i64) (z28.v) y26]) ?_ ?_
        ·
          rintro ⟨⟨⟩, z48⟩ hm
          unfold F65_1.j2 at hm
          show QJ _ _ [(8, .pointer (some ⟨b11, 0, none⟩)), (12, .pointer (some ⟨b17, 0, none⟩)), (14, z31.v), (17, .pointer (some ⟨z48, 0, none⟩)), (36, z28.v), (37, .int .i64 ((y26).length : Int)), (38, .int .i64 d33)] [Asr.blk b11 41 [Seg.of (Enc.arr 32 (Enc.int .u8)) x4], Asr.blk b17 114 [Seg.c (.int .u32 x1), Seg.of (Enc.arr 20 (Enc.int .u8)) y15], Asr.of 5 (Enc.int .u8) (z31.v) d32, Asr.blk z48 41 [Seg.of (Enc.arr 32 (Enc.int .u8)) y45], Asr.of 3 (Enc.int .i64) (z28.v) y26] _ _
          refine QJ.then_normal ?_
          refine JC.region ?_
          refine JL.val (v := z31.v) (QV.move rfl) rfl rfl rfl ?_
          refine JL.val (v := (SlV.sub ((Enc.int .u8)).sz (SlV.mk (some ⟨z48, 0, none⟩) 32 32) (0 : Int) ((32 : Nat) : Int)).v) (QV.sliceB Try.underlying41 tk_5 rfl rfl rfl (by decide)) rfl rfl rfl ?_
          obtain ⟨h49, hm⟩ := guard_inv hm
          refine JL.mv (d := some 53) (MV.append 2 rfl (Rdg.ofDrv ((Drv.arr (ss := [Seg.of (Enc.arr 32 (Enc.int .u8)) y45]) 3 0 rfl rfl rfl rfl).subV (by rw [Arr.h]; exact (show 0 ≤ (0 : Int) ∧ (0 : Int) ≤ ((32 : Nat) : Int) ∧ ((32 : Nat) : Int) ≤ ((32 : Nat) : Int) from by decide)))) Try.underlying22 zi_5 rfl (by decide) rfl rfl h49) rfl rfl rfl ?_
          rintro _ _ ⟨z50, rfl, rfl⟩
          refine JL.val (v := z50.v) (QV.assign rfl) rfl rfl rfl ?_
          refine JL.nil ?_
          refine QJ.block_normal ?_
          refine QJ.then_normal ?_
          refine JC.region ?_
          refine JL.val (v := .int .i64 (IntKind.wrap .i64 (d33 + (1 : Int)))) (QV.add rfl rfl) rfl rfl rfl ?_
          refine JL.val (v := .int .i64 (IntKind.wrap .i64 (d33 + (1 : Int)))) (QV.move rfl) rfl rfl rfl ?_
          refine JL.nil ?_
          obtain rfl := Option.some.inj hm
          exact QJ.round_on ((d32 ++ (subL (y45).l (0 : Int) ((32 : Nat) : Int))), (IntKind.wrap .i64 (d33 + (1 : Int)))) z50 [0, 1, 2, 4] (by exact ⟨rfl, rfl, rfl, rfl, rfl, rfl, trivial⟩) rfl rfl
        ·
          refine JC.regionU [Asr.blk b11 41 [Seg.of (Enc.arr 32 (Enc.int .u8)) x4], Asr.blk b17 114 [Seg.c (.int .u32 x1), Seg.of (Enc.arr 20 (Enc.int .u8)) y15], Asr.of 5 (Enc.int .u8) (z31.v) d32, Asr.of 3 (Enc.int .i64) (z28.v) y26] (fun _ => false) 10 rfl (by kernel_rfl) (by kernel_rfl) (fun hsel => ?_)
          refine JU.take (i := 0) (v := .agg (flat [Seg.c (.int .u32 x1), Seg.of (Enc.arr 20 (Enc.int .u8)) y15]).toArray) hsel rfl (by kernel_rfl) (QV.eq (QV.loadN (ss := [Seg.c (.int .u32 x1), Seg.of (Enc.arr 20 (Enc.int .u8)) y15]) 1 0 2 rfl tk_114 rfl rfl rfl rfl) rfl) rfl rfl rfl [0, 1, 2, 3] rfl rfl ?_
          refine JU.take (i := 1) (v := .int .i64 d33) hsel rfl (by kernel_rfl) (QV.move rfl) rfl rfl rfl [0, 1, 2, 3] rfl rfl ?_
          refine JU.take (i := 2) (v := .int .i64 (gd y26 d33)) hsel rfl (by kernel_rfl) (QV.move rfl) rfl rfl rfl [0, 1, 2, 3] rfl rfl ?_
          refine JU.take (i := 3) (v := .agg (flat [Seg.c (.int .u32 x1), Seg.of (Enc.arr 20 (Enc.int .u8)) y15]).toArray) hsel rfl (by kernel_rfl) (QV.eq (QV.loadN (ss := [Seg.c (.int .u32 x1), Seg.of (Enc.arr 20 (Enc.int .u8)) y15]) 1 0 2 rfl tk_114 rfl rfl rfl rfl) rfl) rfl rfl rfl [0, 1, 2, 3] rfl rfl ?_
          refine JU.take (i := 4) (v := .int .i64 d33) hsel rfl (by kernel_rfl) (QV.move rfl) rfl rfl rfl [0, 1, 2, 3] rfl rfl ?_
          refine JU.take (i := 5) (v := .agg (((Enc.arr 32 (Enc.int .u8))).enc x4).toArray) hsel rfl (by kernel_rfl) (QV.eq (QV.loadN (ss := [Seg.of (Enc.arr 32 (Enc.int .u8)) x4]) 0 0 1 rfl tk_41 rfl rfl rfl rfl) rfl) rfl rfl rfl [0, 1, 2, 3] rfl rfl ?_
          refine JU.any [6, 8] (by kernel_rfl) rfl ?_
          refine ⟨?_, ?_, trivial⟩
          ·
            refine JUo.mv (d := some 49) rfl (MV.call (Lo := []) (Lr := [Asr.blk b11 41 [Seg.of (Enc.arr 32 (Enc.int .u8)) x4], Asr.blk b17 114 [Seg.c (.int .u32 x1), Seg.of (Enc.arr 20 (Enc.int .u8)) y15], Asr.of 5 (Enc.int .u8) (z31.v) d32, Asr.of 3 (Enc.int .i64) (z28.v) y26]) (F83.spec (x1) (y15) (d33) (x4) _ hc44) rfl Try.func83 rfl rfl rfl [] [0, 1, 2, 3] rfl rfl rfl trivial) rfl rfl rfl ?_
            rintro _ _ ⟨_, ⟨rfl, rfl⟩, rfl⟩
            refine ⟨fun _ => ⟨[0, 1, 2, 3], rfl, rfl⟩, ?_⟩
            refine JU.any [7, 8] (by kernel_rfl) rfl ?_
            refine ⟨?_, ?_, trivial⟩
            ·
              refine JUo.mv (d := some 50) rfl (MV.call (Lo := []) (Lr := [Asr.blk b11 41 [Seg.of (Enc.arr 32 (Enc.int .u8)) x4], Asr.blk b17 114 [Seg.c (.int .u32 x1), Seg.of (Enc.arr 20 (Enc.int .u8)) y15], Asr.of 5 (Enc.int .u8) (z31.v) d32, Asr.of 3 (Enc.int .i64) (z28.v) y26]) (F81.spec (x1) (y15) (d33) ((0 : Int)) ((gd y26 d33)) (y43) _ hc46) rfl Try.func81 rfl rfl rfl [] [0, 1, 2, 3] rfl rfl rfl trivial) rfl rfl rfl ?_
              rintro _ _ ⟨_, ⟨rfl, rfl⟩, rfl⟩
              refine ⟨fun _ => ⟨[0, 1, 2, 3], rfl, rfl⟩, ?_⟩
              refine JU.any [8] (by kernel_rfl) rfl ?_
              refine ⟨?_, trivial⟩
              refine JUo.mv (d := some 17) rfl (MV.alloc [Seg.of (Enc.arr 32 (Enc.int .u8)) (Arr.rep 32 (0 : Int))] z_41 rfl) rfl rfl rfl ?_
              rintro _ _ ⟨b51, rfl, rfl⟩
              refine ⟨fun _ => ⟨[1, 2, 3, 4], rfl, rfl⟩, ?_⟩
              refine JU.any [9] (by kernel_rfl) rfl ?_
              refine ⟨?_, trivial⟩
              refine JUo.mv (d := none) rfl (MV.store (ss := [Seg.of (Enc.arr 32 (Enc.int .u8)) (Arr.rep 32 (0 : Int))]) 0 0 1 [Seg.of (Enc.arr 32 (Enc.int .u8)) y45] rfl tk_41 rfl rfl rfl rfl (fun w hs => ⟨rfl, one_of _ _, trivial⟩)) rfl rfl rfl ?_
              rintro _ _ ⟨rfl, rfl⟩
              refine ⟨fun _ => ⟨[1, 2, 3, 4], rfl, rfl⟩, ?_⟩
              refine JU.nil (by kernel_rfl) ?_
              exact QJ.cut_normal ((), b51) hm [1, 2, 3, 0, 4] (by exact ⟨rfl, rfl, rfl, rfl, rfl, rfl, rfl, trivial⟩) rfl rfl
            ·
              refine JUo.mv (d := some 17) rfl (MV.alloc [Seg.of (Enc.arr 32 (Enc.int .u8)) (Arr.rep 32 (0 : Int))] z_41 rfl) rfl rfl rfl ?_
              rintro _ _ ⟨b52, rfl, rfl⟩
              refine ⟨fun _ => ⟨[1, 2, 3, 4], rfl, rfl⟩, ?_⟩
              refine JU.any [7] (by kernel_rfl) rfl ?_
              refine ⟨?_, trivial⟩
              refine JUo.mv (d := some 50) rfl (MV.call (Lo := []) (Lr := [Asr.blk b52 41 [Seg.of (Enc.arr 32 (Enc.int .u8)) (Arr.rep 32 (0 : Int))], Asr.blk b11 41 [Seg.of (Enc.arr 32 (Enc.int .u8)) x4], Asr.blk b17 114 [Seg.c (.int .u32 x1), Seg.of (Enc.arr 20 (Enc.int .u8)) y15], Asr.of 5 (Enc.int .u8) (z31.v) d32, Asr.of 3 (Enc.int .i64) (z28.v) y26]) (F81.spec (x1) (y15) (d33) ((0 : Int)) ((gd y26 d33)) (y43) _ hc46) rfl Try.func81 rfl rfl rfl [] [0, 1, 2, 3, 4] rfl rfl rfl trivial) rfl rfl rfl ?_
              rintro _ _ ⟨_, ⟨rfl, rfl⟩, rfl⟩
              refine ⟨fun _ => ⟨[1, 2, 3, 4], rfl, rfl⟩, ?_⟩
              refine JU.any [9] (by kernel_rfl) rfl ?_
              refine ⟨?_, trivial⟩
              refine JUo.mv (d := none) rfl (MV.store (ss := [Seg.of (Enc.arr 32 (Enc.int .u8)) (Arr.rep 32 (0 : Int))]) 0 0 1 [Seg.of (Enc.arr 32 (Enc.int .u8)) y45] rfl tk_41 rfl rfl rfl rfl (fun w hs => ⟨rfl, one_of _ _, trivial⟩)) rfl rfl rfl ?_
              rintro _ _ ⟨rfl, rfl⟩
              refine ⟨fun _ => ⟨[1, 2, 3, 4], rfl, rfl⟩, ?_⟩
              refine JU.nil (by kernel_rfl) ?_
              exact QJ.cut_normal ((), b52) hm [1, 2, 3, 0, 4] (by exact ⟨rfl, rfl, rfl, rfl, rfl, rfl, rfl, trivial⟩) rfl rfl
          ·
            refine JUo.mv (d := some 17) rfl (MV.alloc [Seg.of (Enc.arr 32 (Enc.int .u8)) (Arr.rep 32 (0 : Int))] z_41 rfl) rfl rfl rfl ?_
            rintro _ _ ⟨b53, rfl, rfl⟩
            refine ⟨fun _ => ⟨[1, 2, 3, 4], rfl, rfl⟩, ?_⟩
            refine JU.any [6] (by kernel_rfl) rfl ?_
            refine ⟨?_, trivial⟩
            refine JUo.mv (d := some 49) rfl (MV.call (Lo := []) (Lr := [Asr.blk b53 41 [Seg.of (Enc.arr 32 (Enc.int .u8)) (Arr.rep 32 (0 : Int))], Asr.blk b11 41 [Seg.of (Enc.arr 32 (Enc.int .u8)) x4], Asr.blk b17 114 [Seg.c (.int .u32 x1), Seg.of (Enc.arr 20 (Enc.int .u8)) y15], Asr.of 5 (Enc.int .u8) (z31.v) d32, Asr.of 3 (Enc.int .i64) (z28.v) y26]) (F83.spec (x1) (y15) (d33) (x4) _ hc44) rfl Try.func83 rfl rfl rfl [] [0, 1, 2, 3, 4] rfl rfl rfl trivial) rfl rfl rfl ?_
            rintro _ _ ⟨_, ⟨rfl, rfl⟩, rfl⟩
            refine ⟨fun _ => ⟨[1, 2, 3, 4], rfl, rfl⟩, ?_⟩
            refine JU.any [7] (by kernel_rfl) rfl ?_
            refine ⟨?_, trivial⟩
            refine JUo.mv (d := some 50) rfl (MV.call (Lo := []) (Lr := [Asr.blk b53 41 [Seg.of (Enc.arr 32 (Enc.int .u8)) (Arr.rep 32 (0 : Int))], Asr.blk b11 41 [Seg.of (Enc.arr 32 (Enc.int .u8)) x4], Asr.blk b17 114 [Seg.c (.int .u32 x1), Seg.of (Enc.arr 20 (Enc.int .u8)) y15], Asr.of 5 (Enc.int .u8) (z31.v) d32, Asr.of 3 (Enc.int .i64) (z28.v) y26]) (F81.spec (x1) (y15) (d33) ((0 : Int)) ((gd y26 d33)) (y43) _ hc46) rfl Try.func81 rfl rfl rfl [] [0, 1, 2, 3, 4] rfl rfl rfl trivial) rfl rfl rfl ?_
            rintro _ _ ⟨_, ⟨rfl, rfl⟩, rfl⟩
            refine ⟨fun _ => ⟨[1, 2, 3, 4], rfl, rfl⟩, ?_⟩
            refine JU.any [9] (by kernel_rfl) rfl ?_
            refine ⟨?_, trivial⟩
            refine JUo.mv (d := none) rfl (MV.store (ss := [Seg.of (Enc.arr 32 (Enc.int .u8)) (Arr.rep 32 (0 : Int))]) 0 0 1 [Seg.of (Enc.arr 32 (Enc.int .u8)) y45] rfl tk_41 rfl rfl rfl rfl (fun w hs => ⟨rfl, one_of _ _, trivial⟩)) rfl rfl rfl ?_
            rintro _ _ ⟨rfl, rfl⟩
            refine ⟨fun _ => ⟨[1, 2, 3, 4], rfl, rfl⟩, ?_⟩
            refine JU.nil (by kernel_rfl) ?_
            exact QJ.cut_normal ((), b53) hm [1, 2, 3, 0, 4] (by exact ⟨rfl, rfl, rfl, rfl, rfl, rfl, rfl, trivial⟩) rfl rfl
      ·
        refine JC.condF' rfl (decide_eq_false h41) ?_
        refine JC.exit ?_
        refine QJ.then_exit ?_
        obtain rfl := Option.some.inj hm
        refine QJ.round_exit (fun hy => ?_)
        subst hy
        refine QJ.block_hit ?_
        exact QJ.cut_normal (d32, z31) hmo39 [2] (by exact ⟨rfl, trivial⟩) rfl rfl

/-! ### 90: drogher/drogherref03.Digits -/
noncomputable def F90.m (x1 : Int) (x2 : (Arr Int 16)) (x3 : Int) (x5 : List Int) (x7 : List Int) : Option (List Int) :=
  (if (([(129 : Int), (129 : Int)]).length + (x5).length) * 1 ≤ 140737488355328 ∧ ([(129 : Int), (129 : Int)]).length + (x5).length ≤ 9223372036854775807 then (if ((([(129 : Int), (129 : Int)] ++ x5)).length + (x7).length) * 1 ≤ 140737488355328 ∧ (([(129 : Int), (129 : Int)] ++ x5)).length + (x7).length ≤ 9223372036854775807 then ((F96.m (x2) (x3) ((([(129 : Int), (129 : Int)] ++ x5) ++ x7))).bind fun y16 => ((F59.m (x1)).bind fun y19 => ((F30.m ((subL (y16).l (0 : Int) ((32 : Nat) : Int))) (y19)).bind fun y21 => ((F26.m ((subL (y16).l (0 : Int) ((32 : Nat) : Int))) ((2 : Int)) ((IntKind.wrap .u64 y21))).bind fun y23 => ((F59.m (x1)).bind fun y26 => ((F23.m (y23) (y26)).bind fun y28 => ((F57.m (x1)).bind fun y31 => (if 0 ≤ (0 : Int) ∧ (0 : Int) ≤ y31 ∧ y31 ≤ ((y28).length : Int) then some (subL y28 (0 : Int) y31) else none)))))))) else none) else none)
set_option maxRecDepth 100000 in
set_option maxHeartbeats 4000000 in
theorem F90.spec (s4 : SlV) (s6 : SlV) (x1 : Int) (x2 : (Arr Int 16)) (x3 : Int) (x5 : List Int) (x7 : List Int) (r : (List Int)) (hm : F90.m x1 x2 x3 x5 x7 = some r) :
    Ctr Try.prog false 90 [.int .u32 x1, .agg (((Enc.arr 16 (Enc.int .u8))).enc x2).toArray, .int .u32 x3, s4.v, s6.v] [Asr.vw (Enc.int .u8) (s4.v) x5, Asr.vw (Enc.int .u8) (s6.v) x7] (fun v L' => ∃ (g8 : SlV), v = g8.v ∧ L' = [Asr.of 3 (Enc.int .i64) (g8.v) r]) := by
  refine Ctr.intro (n := 41) (env := [(0, .int .u32 x1), (1, .agg (((Enc.arr 16 (Enc.int .u8))).enc x2).toArray), (2, .int .u32 x3), (3, s4.v), (4, s6.v)]) Try.func90 rfl rfl rfl rfl (fun c => ?_)
  unfold F90.m at hm
  refine JC.seq ?_
  refine JC.region ?_
  refine JL.mv (d := some 6) (MV.box [Seg.of (Enc.arr 16 (Enc.int .u8)) x2] rfl (fun w hs => rfl)) rfl rfl rfl ?_
  rintro _ _ ⟨b10, rfl, rfl⟩
  refine JL.ent (fun _ hs => hs.nil 3 (Enc.int .i64)) ?_
  refine JL.val (v := SlV.nil.v) (QV.assign rfl) rfl rfl rfl ?_
  refine JL.nil ?_
  refine QJ.then_normal ?_
  refine JC.seq ?_
  refine JC.region ?_
  refine JL.mv (d := some 15) (MV.lit (E := (Enc.int .u8)) (vals := [(0, .int .u8 (129 : Int)), (1, .int .u8 (129 : Int))]) [(129 : Int), (129 : Int)] Try.underlying22 zi_5 rfl (by decide) rfl (by kernel_rfl)) rfl rfl rfl ?_
  rintro _ _ ⟨z11, rfl, rfl⟩
  refine JL.val (v := z11.v) (QV.assign rfl) rfl rfl rfl ?_
  refine JL.nil ?_
  refine QJ.then_normal ?_
  refine JC.seq ?_
  refine JC.region ?_
  refine JL.val (v := z11.v) (QV.move rfl) rfl rfl rfl ?_
  refine JL.val (v := s4.v) (QV.move rfl) rfl rfl rfl ?_
  obtain ⟨h12, hm⟩ := guard_inv hm
  refine JL.mv (d := some 18) (MV.append 0 rfl (Rdg.vw 3 rfl) Try.underlying22 zi_5 rfl (by decide) rfl rfl h12) rfl rfl rfl ?_
  rintro _ _ ⟨z13, rfl, rfl⟩
  refine JL.val (v := z13.v) (QV.assign rfl) rfl rfl rfl ?_
  refine JL.nil ?_
  refine QJ.then_normal ?_
  refine JC.seq ?_
  refine JC.region ?_
  refine JL.val (v := z13.v) (QV.move rfl) rfl rfl rfl ?_
  refine JL.val (v := s6.v) (QV.move rfl) rfl rfl rfl ?_
  obtain ⟨h14, hm⟩ := guard_inv hm
  refine JL.mv (d := some 21) (MV.append 0 rfl (Rdg.vw 4 rfl) Try.underlying22 zi_5 rfl (by decide) rfl rfl h14) rfl rfl rfl ?_
  rintro _ _ ⟨z15, rfl, rfl⟩
  refine JL.val (v := z15.v) (QV.assign rfl) rfl rfl rfl ?_
  refine JL.nil ?_
  refine QJ.then_normal ?_
  refine JC.seq ?_
  refine JC.region ?_
  refine JL.val (v := .agg (((Enc.arr 16 (Enc.int .u8))).enc x2).toArray) (QV.eq (QV.loadN (ss := [Seg.of (Enc.arr 16 (Enc.int .u8)) x2]) 2 0 1 rfl tk_75 rfl rfl rfl rfl) rfl) rfl rfl rfl ?_
  refine JL.val (v := .int .u32 x3) (QV.move rfl) rfl rfl rfl ?_
  refine JL.val (v := z15.v) (QV.move rfl) rfl rfl rfl ?_
  obtain ⟨y16, hc17, hm⟩ := bind_inv hm
  refine JL.mv (d := some 25) (MV.call (Lo := []) (Lr := [Asr.of 5 (Enc.int .u8) (z15.v) (([(129 : Int), (129 : Int)] ++ x5) ++ x7), Asr.of 3 (Enc.int .i64) (SlV.nil.v) ([] : List Int), Asr.blk b10 75 [Seg.of (Enc.arr 16 (Enc.int .u8)) x2], Asr.vw (Enc.int .u8) (s4.v) x5, Asr.vw (Enc.int .u8) (s6.v) x7]) (F96.spec (z15) (x2) (x3) ((([(129 : Int), (129 : Int)] ++ x5) ++ x7)) _ hc17) rfl Try.func96 rfl rfl rfl [] [0, 1, 2, 3, 4] rfl rfl rfl ⟨(Drv.of 0 rfl), trivial⟩) rfl rfl rfl ?_
  rintro _ _ ⟨_, ⟨rfl, rfl⟩, rfl⟩
  refine JL.mv (d := some 12) (MV.alloc [Seg.of (Enc.arr 32 (Enc.int .u8)) (Arr.rep 32 (0 : Int))] z_39 rfl) rfl rfl rfl ?_
  rintro _ _ ⟨b18, rfl, rfl⟩
  refine JL.mv (d := none) (MV.store (ss := [Seg.of (Enc.arr 32 (Enc.int .u8)) (Arr.rep 32 (0 : Int))]) 0 0 1 [Seg.of (Enc.arr 32 (Enc.int .u8)) y16] rfl tk_39 rfl rfl rfl rfl (fun w hs => ⟨rfl, one_of _ _, trivial⟩)) rfl rfl rfl ?_
  rintro _ _ ⟨rfl, rfl⟩
  refine JL.nil ?_
  refine QJ.then_normal ?_
  refine JC.seq ?_
  refine JC.regionT [Asr.blk b18 39 [Seg.of (Enc.arr 32 (Enc.int .u8)) y16], Asr.of 5 (Enc.int .u8) (z15.v) (([(129 : Int), (129 : Int)] ++ x5) ++ x7), Asr.of 3 (Enc.int .i64) (SlV.nil.v) ([] : List Int), Asr.blk b10 75 [Seg.of (Enc.arr 16 (Enc.int .u8)) x2], Asr.vw (Enc.int .u8) (s4.v) x5, Asr.vw (Enc.int .u8) (s6.v) x7] (fun t => false) [(0, true), (1, true), (2, false), (3, false), (4, false), (5, false), (6, false), (7, false)] (by kernel_rfl) (by kernel_rfl) (by kernel_rfl) rfl (fun hsel => ?_)
  refine JT.take (i := 0) (v := (SlV.sub ((Enc.int .u8)).sz (SlV.mk (some ⟨b18, 0, none⟩) 32 32) (0 : Int) ((32 : Nat) : Int)).v) hsel rfl (QV.sliceB Try.underlying39 tk_5 rfl rfl rfl (by decide)) rfl rfl rfl [0, 1, 2, 3, 4, 5] rfl rfl ?_
  refine JT.take (i := 1) (v := (SlV.sub ((Enc.int .u8)).sz (SlV.mk (some ⟨b18, 0, none⟩) 32 32) (0 : Int) ((32 : Nat) : Int)).v) hsel rfl (QV.sliceB Try.underlying39 tk_5 rfl rfl rfl (by decide)) rfl rfl rfl [0, 1, 2, 3, 4, 5] rfl rfl ?_
  refine JT.only (i := 2) (d := some 28) rfl (MV.ofQV (v := .int .u32 x1) (QV.move rfl)) rfl rfl rfl ?_
  rintro _ _ ⟨rfl, rfl⟩
  refine ⟨fun _ => ⟨[0, 1, 2, 3, 4, 5], rfl, rfl⟩, ?_⟩
  obtain ⟨y19, hc20, hm⟩ := bind_inv hm
  refine JT.only (i := 3) (d := some 29) rfl (MV.call (Lo := []) (Lr := [Asr.blk b18 39 [Seg.of (Enc.arr 32 (Enc.int .u8)) y16], Asr.of 5 (Enc.int .u8) (z15.v) (([(129 : Int), (129 : Int)] ++ x5) ++ x7), Asr.of 3 (Enc.int .i64) (SlV.nil.v) ([] : List Int), Asr.blk b10 75 [Seg.of (Enc.arr 16 (Enc.int .u8)) x2], Asr.vw (Enc.int .u8) (s4.v) x5, Asr.vw (Enc.int .u8) (s6.v) x7]) (F59.spec (x1) _ hc20) rfl Try.func59 rfl rfl rfl [] [0, 1, 2, 3, 4, 5] rfl rfl rfl trivial) rfl rfl rfl ?_
  rintro _ _ ⟨_, ⟨rfl, rfl⟩, rfl⟩
  refine ⟨fun _ => ⟨[0, 1, 2, 3, 4, 5], rfl, rfl⟩, ?_⟩
  obtain ⟨y21, hc22, hm⟩ := bind_inv hm
  refine JT.only (i := 4) (d := some 30) rfl (MV.call (Lo := []) (Lr := [Asr.blk b18 39 [Seg.of (Enc.arr 32 (Enc.int .u8)) y16], Asr.of 5 (Enc.int .u8) (z15.v) (([(129 : Int), (129 : Int)] ++ x5) ++ x7), Asr.of 3 (Enc.int .i64) (SlV.nil.v) ([] : List Int), Asr.blk b10 75 [Seg.of (Enc.arr 16 (Enc.int .u8)) x2], Asr.vw (Enc.int .u8) (s4.v) x5, Asr.vw (Enc.int .u8) (s6.v) x7]) (F30.spec ((SlV.sub ((Enc.int .u8)).sz (SlV.mk (some ⟨b18, 0, none⟩) 32 32) (0 : Int) ((32 : Nat) : Int))) ((subL (y16).l (0 : Int) ((32 : Nat) : Int))) (y19) _ hc22) rfl Try.func30 rfl rfl rfl [] [0, 1, 2, 3, 4, 5] rfl rfl rfl ⟨((Drv.arr (ss := [Seg.of (Enc.arr 32 (Enc.int .u8)) y16]) 0 0 rfl rfl rfl rfl).subV (by rw [Arr.h]; exact (show 0 ≤ (0 : Int) ∧ (0 : Int) ≤ ((32 : Nat) : Int) ∧ ((32 : Nat) : Int) ≤ ((32 : Nat) : Int) from by decide))), trivial⟩) rfl rfl rfl ?_
  rintro _ _ ⟨_, ⟨rfl, rfl⟩, rfl⟩
  refine ⟨fun _ => ⟨[0, 1, 2, 3, 4, 5], rfl, rfl⟩, ?_⟩
  refine JT.only (i := 5) (d := some 31) rfl (MV.ofQV (v := .int .u64 (IntKind.wrap .u64 y21)) (QV.conv rfl (by rw [Try.underlying36]; rfl) Try.underlying28)) rfl rfl rfl ?_
  rintro _ _ ⟨rfl, rfl⟩
  refine ⟨fun _ => ⟨[0, 1, 2, 3, 4, 5], rfl, rfl⟩, ?_⟩
  obtain ⟨y23, hc24, hm⟩ := bind_inv hm
  refine JT.only (i := 6) (d := some 32) rfl (MV.call (Lo := []) (Lr := [Asr.blk b18 39 [Seg.of (Enc.arr 32 (Enc.int .u8)) y16], Asr.of 5 (Enc.int .u8) (z15.v) (([(129 : Int), (129 : Int)] ++ x5) ++ x7), Asr.of 3 (Enc.int .i64) (SlV.nil.v) ([] : List Int), Asr.blk b10 75 [Seg.of (Enc.arr 16 (Enc.int .u8)) x2], Asr.vw (Enc.int .u8) (s4.v) x5, Asr.vw (Enc.int .u8) (s6.v) x7]) (F26.spec ((SlV.sub ((Enc.int .u8)).sz (SlV.mk (some ⟨b18, 0, none⟩) 32 32) (0 : Int) ((32 : Nat) : Int))) ((subL (y16).l (0 : Int) ((32 : Nat) : Int))) ((2 : Int)) ((IntKind.wrap .u64 y21)) _ hc24) rfl Try.func26 rfl rfl rfl [] [0, 1, 2, 3, 4, 5] rfl rfl rfl ⟨((Drv.arr (ss := [Seg.of (Enc.arr 32 (Enc.int .u8)) y16]) 0 0 rfl rfl rfl rfl).subV (by rw [Arr.h]; exact (show 0 ≤ (0 : Int) ∧ (0 : Int) ≤ ((32 : Nat) : Int) ∧ ((32 : Nat) : Int) ≤ ((32 : Nat) : Int) from by decide))), trivial⟩) rfl rfl rfl ?_
  rintro _ _ ⟨_, ⟨z25, rfl, rfl⟩, rfl⟩
  refine ⟨fun _ => ⟨[1, 2, 3, 4, 5, 6], rfl, rfl⟩, ?_⟩
  refine JT.grow [Asr.of 5 (Enc.int .u8) (z25.v) y23, Asr.blk b18 39 [Seg.of (Enc.arr 32 (Enc.int .u8)) y16], Asr.of 5 (Enc.int .u8) (z15.v) (([(129 : Int), (129 : Int)] ++ x5) ++ x7), Asr.of 3 (Enc.int .i64) (SlV.nil.v) ([] : List Int), Asr.blk b10 75 [Seg.of (Enc.arr 16 (Enc.int .u8)) x2], Asr.vw (Enc.int .u8) (s4.v) x5, Asr.vw (Enc.int .u8) (s6.v) x7] [1, 2, 3, 4, 5, 6] rfl rfl ?_
  refine JT.only (i := 7) (d := some 13) rfl (MV.ofQV (v := z25.v) (QV.assign rfl)) rfl rfl rfl ?_
  rintro _ _ ⟨rfl, rfl⟩
  refine ⟨fun _ => ⟨[0, 1, 2, 3, 4, 5, 6], rfl, rfl⟩, ?_⟩
  refine JT.nil ?_
  refine QJ.then_normal ?_
  refine JC.seq ?_
  refine JC.region ?_
  refine JL.val (v := z25.v) (QV.move rfl) rfl rfl rfl ?_
  refine JL.val (v := .int .u32 x1) (QV.move rfl) rfl rfl rfl ?_
  obtain ⟨y26, hc27, hm⟩ := bind_inv hm
  refine JL.mv (d := some 35) (MV.call (Lo := []) (Lr := [Asr.of 5 (Enc.int .u8) (z25.v) y23, Asr.blk b18 39 [Seg.of (Enc.arr 32 (Enc.int .u8)) y16], Asr.of 5 (Enc.int .u8) (z15.v) (([(129 : Int), (129 : Int)] ++ x5) ++ x7), Asr.of 3 (Enc.int .i64) (SlV.nil.v) ([] : List Int), Asr.blk b10 75 [Seg.of (Enc.arr 16 (Enc.int .u8)) x2], Asr.vw (Enc.int .u8) (s4.v) x5, Asr.vw (Enc.int .u8) (s6.v) x7]) (F59.spec (x1) _ hc27) rfl Try.func59 rfl rfl rfl [] [0, 1, 2, 3, 4, 5, 6] rfl rfl rfl trivial) rfl rfl rfl ?_
  rintro _ _ ⟨_, ⟨rfl, rfl⟩, rfl⟩
  obtain ⟨y28, hc29, hm⟩ := bind_inv hm
  refine JL.mv (d := some 36) (MV.call (Lo := []) (Lr := [Asr.of 5 (Enc.int .u8) (z25.v) y23, Asr.blk b18 39 [Seg.of (Enc.arr 32 (Enc.int .u8)) y16], Asr.of 5 (Enc.int .u8) (z15.v) (([(129 : Int), (129 : Int)] ++ x5) ++ x7), Asr.of 3 (Enc.int .i64) (SlV.nil.v) ([] : List Int), Asr.blk b10 75 [Seg.of (Enc.arr 16 (Enc.int .u8)) x2], Asr.vw (Enc.int .u8) (s4.v) x5, Asr.vw (Enc.int .u8) (s6.v) x7]) (F23.spec (z25) (y23) (y26) _ hc29) rfl Try.func23 rfl rfl rfl [] [0, 1, 2, 3, 4, 5, 6] rfl rfl rfl ⟨(Drv.of 0 rfl), trivial⟩) rfl rfl rfl ?_
  rintro _ _ ⟨_, ⟨z30, rfl, rfl⟩, rfl⟩
  refine JL.val (v := z30.v) (QV.assign rfl) rfl rfl rfl ?_
  refine JL.nil ?_
  refine QJ.then_normal ?_
  refine JC.seq ?_
  refine JC.region ?_
  refine JL.val (v := z30.v) (QV.move rfl) rfl rfl rfl ?_
  refine JL.val (v := .int .u32 x1) (QV.move rfl) rfl rfl rfl ?_
  obtain ⟨y31, hc32, hm⟩ := bind_inv hm
  refine JL.mv (d := some 39) (MV.call (Lo := []) (Lr := [Asr.of 3 (Enc.int .i64) (z30.v) y28, Asr.of 5 (Enc.int .u8) (z25.v) y23, Asr.blk b18 39 [Seg.of (Enc.arr 32 (Enc.int .u8)) y16], Asr.of 5 (Enc.int .u8) (z15.v) (([(129 : Int), (129 : Int)] ++ x5) ++ x7), Asr.of 3 (Enc.int .i64) (SlV.nil.v) ([] : List Int), Asr.blk b10 75 [Seg.of (Enc.arr 16 (Enc.int .u8)) x2], Asr.vw (Enc.int .u8) (s4.v) x5, Asr.vw (Enc.int .u8) (s6.v) x7]) (F57.spec (x1) _ hc32) rfl Try.func57 rfl rfl rfl [] [0, 1, 2, 3, 4, 5, 6, 7] rfl rfl rfl trivial) rfl rfl rfl ?_
  rintro _ _ ⟨_, ⟨rfl, rfl⟩, rfl⟩
  obtain ⟨h33, hm⟩ := guard_inv hm
  refine JL.val (v := (SlV.sub ((Enc.int .i64)).sz z30 (0 : Int) y31).v) (QV.sliceV (Rdg.of 0 rfl) Try.underlying24 tk_3 rfl rfl rfl h33) rfl rfl rfl ?_
  refine JL.val (v := (SlV.sub ((Enc.int .i64)).sz z30 (0 : Int) y31).v) (QV.assign rfl) rfl rfl rfl ?_
  refine JL.nil ?_
  refine QJ.then_normal ?_
  refine JC.ret ?_
  obtain rfl := Option.some.inj hm
  refine QJ.ent (fun _ hs => hs.trunc 0 rfl h33) ?_
  exact QJ.body (vs := [(SlV.sub ((Enc.int .i64)).sz z30 (0 : Int) y31).v]) (.inl rfl) rfl (ResVs.cons (ResV.tmp rfl) ResVs.nil) [0] rfl rfl (.inr ⟨own_of _ _ _ _, trivial⟩) ⟨((SlV.sub ((Enc.int .i64)).sz z30 (0 : Int) y31)), rfl, rfl⟩

/-! ### 67: drogher/ots.Candidate -/
noncomputable def F67_1.j1 (x1 : Int) (y23 : (Arr Int 20)) (d32 : List Int) : Option ((Arr Int 32) × Int) :=
  ((F84.m (x1) (y23) ((32896 : Int)) ([d32])).bind fun y34 => some (y34, (0 : Int)))
noncomputable def F67_1.j2 (d37 : List Int) (d38 : Int) (y52 : (Arr Int 32))  : Option ((List Int × Int) ⊕ (List Int)) :=
  (if ((d37).length + ((subL (y52).l (0 : Int) ((32 : Nat) : Int))).length) * 1 ≤ 140737488355328 ∧ (d37).length + ((subL (y52).l (0 : Int) ((32 : Nat) : Int))).length ≤ 9223372036854775807 then some (.inl ((d37 ++ (subL (y52).l (0 : Int) ((32 : Nat) : Int))), (IntKind.wrap .i64 (d38 + (1 : Int))))) else none)
noncomputable def F67_1.b1 (x1 : Int) (x5 : List Int) (y23 : (Arr Int 20)) (y28 : (List Int)) : (List Int × Int) → Option ((List Int × Int) ⊕ (List Int))
  | (d37, d38) => (if d38 < ((y28).length : Int) then (if 0 ≤ d38 ∧ d38 < ((y28).length : Int) then ((F82.m (x1) (y23)).bind fun y48 => (if 0 ≤ (IntKind.wrap .i64 ((32 : Int) * d38)) ∧ (IntKind.wrap .i64 ((32 : Int) * d38)) ≤ (IntKind.wrap .i64 ((IntKind.wrap .i64 ((32 : Int) * d38)) + (32 : Int))) ∧ (IntKind.wrap .i64 ((IntKind.wrap .i64 ((32 : Int) * d38)) + (32 : Int))) ≤ (((subL x5 (36 : Int) ((x5).length : Int))).length : Int) then (if ((32 : Nat) : Int) ≤ (((subL (subL x5 (36 : Int) ((x5).length : Int)) (IntKind.wrap .i64 ((32 : Int) * d38)) (IntKind.wrap .i64 ((IntKind.wrap .i64 ((32 : Int) * d38)) + (32 : Int))))).length : Int) ∧ 0 < 32 then ((F81.m (x1) (y23) (d38) ((gd y28 d38)) (y48) ((Arr.ofL 32 (subL (subL x5 (36 : Int) ((x5).length : Int)) (IntKind.wrap .i64 ((32 : Int) * d38)) (IntKind.wrap .i64 ((IntKind.wrap .i64 ((32 : Int) * d38)) + (32 : Int))))))).bind fun y52 => F67_1.j2 d37 d38 y52) else none) else none)) else none) else some (.inr d37))
noncomputable def F67_1.m (x1 : Int) (x2 : (Arr Int 16)) (x3 : Int) (x5 : List Int) (x7 : List Int) : Option ((Arr Int 32) × Int) :=
  ((F58.m (x1)).bind fun y12 => (if y12 = (0 : Int) then some (K3, (21 : Int)) else ((F61.m (x1)).bind fun y15 => (if ((x5).length : Int) = y15 then (if 0 ≤ (0 : Int) ∧ (0 : Int) ≤ (4 : Int) ∧ (4 : Int) ≤ ((x5).length : Int) then ((F25.m (([] : List Int)) ((4 : Int)) ((IntKind.wrap .u64 x1))).bind fun y19 => (if (strOfNums (subL x5 (0 : Int) (4 : Int))) = (strOfNums y19) then ((F80.m (x1) (x2) (x3)).bind fun y23 => (if 0 ≤ (4 : Int) ∧ (4 : Int) ≤ (36 : Int) ∧ (36 : Int) ≤ ((x5).length : Int) then (if 0 ≤ (36 : Int) ∧ (36 : Int) ≤ ((x5).length : Int) ∧ ((x5).length : Int) ≤ ((x5).length : Int) then ((F89.m (x1) (y23) ((subL x5 (4 : Int) (36 : Int))) (x7)).bind fun y28 => ((loop (F67_1.b1 x1 x5 y23 y28) (([] : List Int), (0 : Int))).bind fun y => match y with | d32 => F67_1.j1 x1 y23 (d32))) else none) else none)) else some (K3, (21 : Int)))) else none) else some (K3, (3 : Int))))))
set_option maxRecDepth 100000 in
set_option maxHeartbeats 4000000 in
theorem F67_1.spec (s4 : SlV) (s6 : SlV) (x1 : Int) (x2 : (Arr Int 16)) (x3 : Int) (x5 : List Int) (x7 : List Int) (r : ((Arr Int 32) × Int)) (hm : F67_1.m x1 x2 x3 x5 x7 = some r) :
    Ctr Try.prog false 67 [.int .u32 x1, .agg (((Enc.arr 16 (Enc.int .u8))).enc x2).toArray, .int .u32 x3, s4.v, s6.v] [Asr.vw (Enc.int .u8) (s4.v) x5, Asr.vw (Enc.int .u8) (s6.v) x7] (fun v L' => v = .tuple #[.agg (((Enc.arr 32 (Enc.int .u8))).enc r.1).toArray, .int .i64 r.2] ∧ L' = []) := by
  refine Ctr.intro (n := 82) (env := [(0, .int .u32 x1), (1, .agg (((Enc.arr 16 (Enc.int .u8))).enc x2).toArray), (2, .int .u32 x3), (3, s4.v), (4, s6.v)]) Try.func67 rfl rfl rfl rfl (fun c => ?_)
  unfold F67_1.m at hm
  refine JC.seq ?_
  refine JC.region ?_
  refine JL.mv (d := some 6) (MV.box [Seg.of (Enc.arr 16 (Enc.int .u8)) x2] rfl (fun w hs => rfl)) rfl rfl rfl ?_
  rintro _ _ ⟨b10, rfl, rfl⟩
  refine JL.mv (d := some 10) (MV.alloc [Seg.of (Enc.arr 32 (Enc.int .u8)) (Arr.rep 32 (0 : Int))] z_41 rfl) rfl rfl rfl ?_
  rintro _ _ ⟨b11, rfl, rfl⟩
  refine JL.val (v := .int .i64 (0 : Int)) (QV.assign rfl) rfl rfl rfl ?_
  refine JL.nil ?_
  refine QJ.then_normal ?_
  refine JC.seq ?_
  refine JC.block ?_
  refine JC.seq ?_
  refine JC.region ?_
  refine JL.val (v := .int .u32 x1) (QV.move rfl) rfl rfl rfl ?_
  obtain ⟨y12, hc13, hm⟩ := bind_inv hm
  refine JL.mv (d := some 21) (MV.call (Lo := []) (Lr := [Asr.blk b11 41 [Seg.of (Enc.arr 32 (Enc.int .u8)) (Arr.rep 32 (0 : Int))], Asr.blk b10 78 [Seg.of (Enc.arr 16 (Enc.int .u8)) x2], Asr.vw (Enc.int .u8) (s4.v) x5, Asr.vw (Enc.int .u8) (s6.v) x7]) (F58.spec (x1) _ hc13) rfl Try.func58 rfl rfl rfl [] [0, 1, 2, 3] rfl rfl rfl trivial) rfl rfl rfl ?_
  rintro _ _ ⟨_, ⟨rfl, rfl⟩, rfl⟩
  refine JL.val (v := .bool (decide (y12 = (0 : Int)))) (QV.eql rfl rfl) rfl rfl rfl ?_
  refine JL.val (v := .bool (decide (y12 = (0 : Int)))) (QV.assign rfl) rfl rfl rfl ?_
  refine JL.nil ?_
  refine QJ.then_normal ?_
  rcases ite_inv hm with ⟨h14, hm⟩ | ⟨h14, hm⟩
  ·
    refine JC.condT' rfl (decide_eq_true h14) ?_
    refine JC.seq ?_
    refine JC.region ?_
    refine JL.val (v := .agg (((Enc.arr 32 (Enc.int .u8))).enc K3).toArray) (QV.build (vals := []) (cells := ((Enc.arr 32 (Enc.int .u8)).enc K3).toArray) rfl (by kernel_rfl)) rfl rfl rfl ?_
    refine JL.mv (d := none) (MV.store (ss := [Seg.of (Enc.arr 32 (Enc.int .u8)) (Arr.rep 32 (0 : Int))]) 0 0 1 [Seg.of (Enc.arr 32 (Enc.int .u8)) K3] rfl tk_41 rfl rfl rfl rfl (fun w hs => ⟨rfl, one_of _ _, trivial⟩)) rfl rfl rfl ?_
    rintro _ _ ⟨rfl, rfl⟩
    refine JL.val (v := .int .i64 (21 : Int)) (QV.assign rfl) rfl rfl rfl ?_
    refine JL.nil ?_
    refine QJ.then_normal ?_
    refine JC.ret ?_
    refine QJ.block_ret ?_
    refine QJ.then_ret ?_
    obtain rfl := Option.some.inj hm
    exact QJ.body (vs := [.agg (((Enc.arr 32 (Enc.int .u8))).enc K3).toArray, .int .i64 (21 : Int)]) (.inl rfl) rfl (ResVs.cons (ResV.cell (d := none) (ty := 0) (ps := "") (af := #[]) (g := none) rfl (QV.eq (QV.loadN (ss := [Seg.of (Enc.arr 32 (Enc.int .u8)) K3]) 0 0 1 rfl tk_41 rfl rfl rfl rfl) rfl)) (ResVs.cons (ResV.tmp rfl) ResVs.nil)) [] rfl rfl (.inr trivial) ⟨rfl, rfl⟩
  ·
    refine JC.condF' rfl (decide_eq_false h14) ?_
    refine JC.seq ?_
    refine JC.region ?_
    refine JL.val (v := s4.v) (QV.move rfl) rfl rfl rfl ?_
    refine JL.val (v := .int .i64 ((x5).length : Int)) (QV.len (Rdg.vw 2 rfl) Try.underlying22 rfl) rfl rfl rfl ?_
    refine JL.val (v := .int .u32 x1) (QV.move rfl) rfl rfl rfl ?_
    obtain ⟨y15, hc16, hm⟩ := bind_inv hm
    refine JL.mv (d := some 28) (MV.call (Lo := []) (Lr := [Asr.blk b11 41 [Seg.of (Enc.arr 32 (Enc.int .u8)) (Arr.rep 32 (0 : Int))], Asr.blk b10 78 [Seg.of (Enc.arr 16 (Enc.int .u8)) x2], Asr.vw (Enc.int .u8) (s4.v) x5, Asr.vw (Enc.int .u8) (s6.v) x7]) (F61.spec (x1) _ hc16) rfl Try.func61 rfl rfl rfl [] [0, 1, 2, 3] rfl rfl rfl trivial) rfl rfl rfl ?_
    rintro _ _ ⟨_, ⟨rfl, rfl⟩, rfl⟩
    refine JL.val (v := .bool (!(decide (((x5).length : Int) = y15)))) (QV.neq rfl rfl) rfl rfl rfl ?_
    refine JL.val (v := .bool (!(decide (((x5).length : Int) = y15)))) (QV.assign rfl) rfl rfl rfl ?_
    refine JL.nil ?_
    refine QJ.then_normal ?_
    rcases ite_inv hm with ⟨h17, hm⟩ | ⟨h17, hm⟩
    ·
      refine JC.condF' rfl (congrArg Bool.not (decide_eq_true h17)) ?_
      refine JC.seq ?_
      refine JC.regionT [Asr.blk b11 41 [Seg.of (Enc.arr 32 (Enc.int .u8)) (Arr.rep 32 (0 : Int))], Asr.blk b10 78 [Seg.of (Enc.arr 16 (Enc.int .u8)) x2], Asr.vw (Enc.int .u8) (s4.v) x5, Asr.vw (Enc.int .u8) (s6.v) x7] (fun t => false) [(0, true), (1, true), (2, true), (3, false), (4, false), (5, false), (6, false), (7, false), (8, false)] (by kernel_rfl) (by kernel_rfl) (by kernel_rfl) rfl (fun hsel => ?_)
      refine JT.take (i := 0) (v := s4.v) hsel rfl (QV.move rfl) rfl rfl rfl [0, 1, 2, 3] rfl rfl ?_
      obtain ⟨h18, hm⟩ := guard_inv hm
      refine JT.take (i := 1) (v := (SlV.sub ((Enc.int .u8)).sz s4 (0 : Int) (4 : Int)).v) hsel rfl (QV.sliceV (Rdg.vw 2 rfl) Try.underlying22 tk_5 rfl rfl rfl h18) rfl rfl rfl [0, 1, 2, 3] rfl rfl ?_
      refine JT.take (i := 2) (v := .string (strOfNums (subL x5 (0 : Int) (4 : Int)))) hsel rfl (QV.str (Rdg.ofDrv ((Drv.vw 2 rfl).subV h18)) Try.underlying22 Try.underlying5 Try.underlying9 rfl) rfl rfl rfl [0, 1, 2, 3] rfl rfl ?_
      refine JT.only (i := 3) (d := some 35) rfl (MV.ofQV (v := .int .u32 x1) (QV.move rfl)) rfl rfl rfl ?_
      rintro _ _ ⟨rfl, rfl⟩
      refine ⟨fun _ => ⟨[0, 1, 2, 3], rfl, rfl⟩, ?_⟩
      refine JT.only (i := 4) (d := some 36) rfl (MV.ofQV (v := .int .u64 (IntKind.wrap .u64 x1)) (QV.conv rfl (by rw [Try.underlying74]; rfl) Try.underlying28)) rfl rfl rfl ?_
      rintro _ _ ⟨rfl, rfl⟩
      refine ⟨fun _ => ⟨[0, 1, 2, 3], rfl, rfl⟩, ?_⟩
      refine JT.ent (fun _ hs => hs.nil 5 (Enc.int .u8)) ?_
      obtain ⟨y19, hc20, hm⟩ := bind_inv hm
      refine JT.only (i := 5) (d := some 37) rfl (MV.call (Lo := []) (Lr := [Asr.of 5 (Enc.int .u8) (SlV.nil.v) ([] : List Int), Asr.blk b11 41 [Seg.of (Enc.arr 32 (Enc.int .u8)) (Arr.rep 32 (0 : Int))], Asr.blk b10 78 [Seg.of (Enc.arr 16 (Enc.int .u8)) x2], Asr.vw (Enc.int .u8) (s4.v) x5, Asr.vw (Enc.int .u8) (s6.v) x7]) (F25.spec (SlV.nil) (([] : List Int)) ((4 : Int)) ((IntKind.wrap .u64 x1)) _ hc20) rfl Try.func25 rfl rfl rfl [] [0, 1, 2, 3, 4] rfl rfl rfl ⟨(Drv.of 0 rfl), trivial⟩) rfl rfl rfl ?_
      rintro _ _ ⟨_, ⟨z21, rfl, rfl⟩, rfl⟩
      refine ⟨fun _ => ⟨[2, 3, 4, 5], rfl, rfl⟩, ?_⟩
      refine JT.grow [Asr.of 5 (Enc.int .u8) (z21.v) y19, Asr.of 5 (Enc.int .u8) (SlV.nil.v) ([] : List Int), Asr.blk b11 41 [Seg.of (Enc.arr 32 (Enc.int .u8)) (Arr.rep 32 (0 : Int))], Asr.blk b10 78 [Seg.of (Enc.arr 16 (Enc.int .u8)) x2], Asr.vw (Enc.int .u8) (s4.v) x5, Asr.vw (Enc.int .u8) (s6.v) x7] [2, 3, 4, 5] rfl rfl ?_
      refine JT.only (i := 6) (d := some 38) rfl (MV.ofQV (v := .string (strOfNums y19)) (QV.str (Rdg.of 0 rfl) Try.underlying22 Try.underlying5 Try.underlying9 rfl)) rfl rfl rfl ?_
      rintro _ _ ⟨rfl, rfl⟩
      refine ⟨fun _ => ⟨[0, 1, 2, 3, 4, 5], rfl, rfl⟩, ?_⟩
      refine JT.only (i := 7) (d := some 39) rfl (MV.ofQV (v := .bool (!(decide ((strOfNums (subL x5 (0 : Int) (4 : Int))) = (strOfNums y19))))) (QV.neqS rfl rfl)) rfl rfl rfl ?_
      rintro _ _ ⟨rfl, rfl⟩
      refine ⟨fun _ => ⟨[0, 1, 2, 3, 4, 5], rfl, rfl⟩, ?_⟩
      refine JT.only (i := 8) (d := some 31) rfl (MV.ofQV (v := .bool (!(decide ((strOfNums (subL x5 (0 : Int) (4 : Int))) = (strOfNums y19))))) (QV.assign rfl)) rfl rfl rfl ?_
      rintro _ _ ⟨rfl, rfl⟩
      refine ⟨fun _ => ⟨[0, 1, 2, 3, 4, 5], rfl, rfl⟩, ?_⟩
      refine JT.nil ?_
      refine QJ.then_normal ?_
      rcases ite_inv hm with ⟨h22, hm⟩ | ⟨h22, hm⟩
      ·
        refine JC.condF' rfl (congrArg Bool.not (decide_eq_true h22)) ?_
        refine JC.skip ?_
        refine QJ.block_normal ?_
        refine QJ.then_normal ?_
        refine JC.seq ?_
        refine JC.region ?_
        refine JL.val (v := .int .u32 x1) (QV.move rfl) rfl rfl rfl ?_
        refine JL.val (v := .agg (((Enc.arr 16 (Enc.int .u8))).enc x2).toArray) (QV.eq (QV.loadN (ss := [Seg.of (Enc.arr 16 (Enc.int .u8)) x2]) 3 0 1 rfl tk_78 rfl rfl rfl rfl) rfl) rfl rfl rfl ?_
        refine JL.val (v := .int .u32 x3) (QV.move rfl) rfl rfl rfl ?_
        obtain ⟨y23, hc24, hm⟩ := bind_inv hm
        refine JL.mv (d := some 44) (MV.call (Lo := []) (Lr := [Asr.of 5 (Enc.int .u8) (z21.v) y19, Asr.of 5 (Enc.int .u8) (SlV.nil.v) ([] : List Int), Asr.blk b11 41 [Seg.of (Enc.arr 32 (Enc.int .u8)) (Arr.rep 32 (0 : Int))], Asr.blk b10 78 [Seg.of (Enc.arr 16 (Enc.int .u8)) x2], Asr.vw (Enc.int .u8) (s4.v) x5, Asr.vw (Enc.int .u8) (s6.v) x7]) (F80.spec (x1) (x2) (x3) _ hc24) rfl Try.func80 rfl rfl rfl [] [0, 1, 2, 3, 4, 5] rfl rfl rfl trivial) rfl rfl rfl ?_
        rintro _ _ ⟨_, ⟨rfl, rfl⟩, rfl⟩
        refine JL.mv (d := some 12) (MV.alloc [Seg.c (.int .u32 (0 : Int)), Seg.of (Enc.arr 20 (Enc.int .u8)) (Arr.rep 20 (0 : Int))] z_114 rfl) rfl rfl rfl ?_
        rintro _ _ ⟨b25, rfl, rfl⟩
        refine JL.mv (d := none) (MV.store (ss := [Seg.c (.int .u32 (0 : Int)), Seg.of (Enc.arr 20 (Enc.int .u8)) (Arr.rep 20 (0 : Int))]) 0 0 2 [Seg.c (.int .u32 x1), Seg.of (Enc.arr 20 (Enc.int .u8)) y23] rfl tk_114 rfl rfl rfl rfl (fun w hs => ⟨rfl, one_c rfl, one_of _ _, trivial⟩)) rfl rfl rfl ?_
        rintro _ _ ⟨rfl, rfl⟩
        refine JL.nil ?_
        refine QJ.then_normal ?_
        refine JC.seq ?_
        refine JC.regionT [Asr.blk b25 114 [Seg.c (.int .u32 x1), Seg.of (Enc.arr 20 (Enc.int .u8)) y23], Asr.of 5 (Enc.int .u8) (z21.v) y19, Asr.of 5 (Enc.int .u8) (SlV.nil.v) ([] : List Int), Asr.blk b11 41 [Seg.of (Enc.arr 32 (Enc.int .u8)) (Arr.rep 32 (0 : Int))], Asr.blk b10 78 [Seg.of (Enc.arr 16 (Enc.int .u8)) x2], Asr.vw (Enc.int .u8) (s4.v) x5, Asr.vw (Enc.int .u8) (s6.v) x7] (fun t => false) [(0, true), (1, true), (2, true), (3, true), (4, false), (5, false)] (by kernel_rfl) (by kernel_rfl) (by kernel_rfl) rfl (fun hsel => ?_)
        refine JT.take (i := 0) (v := s4.v) hsel rfl (QV.move rfl) rfl rfl rfl [0, 1, 2, 3, 4, 5, 6] rfl rfl ?_
        obtain ⟨h26, hm⟩ := guard_inv hm
        refine JT.take (i := 1) (v := (SlV.sub ((Enc.int .u8)).sz s4 (4 : Int) (36 : Int)).v) hsel rfl (QV.sliceV (Rdg.vw 5 rfl) Try.underlying22 tk_5 rfl rfl rfl h26) rfl rfl rfl [0, 1, 2, 3, 4, 5, 6] rfl rfl ?_
        refine JT.take (i := 2) (v := s4.v) hsel rfl (QV.move rfl) rfl rfl rfl [0, 1, 2, 3, 4, 5, 6] rfl rfl ?_
        obtain ⟨h27, hm⟩ := guard_inv hm
        refine JT.take (i := 3) (v := (SlV.sub ((Enc.int .u8)).sz s4 (36 : Int) ((x5).length : Int)).v) hsel rfl (QV.sliceV (Rdg.vw 5 rfl) Try.underlying22 tk_5 rfl rfl rfl h27) rfl rfl rfl [0, 1, 2, 3, 4, 5, 6] rfl rfl ?_
        refine JT.only (i := 4) (d := some 13) rfl (MV.ofQV (v := (SlV.sub ((Enc.int .u8)).sz s4 (4 : Int) (36 : Int)).v) (QV.assign rfl)) rfl rfl rfl ?_
        rintro _ _ ⟨rfl, rfl⟩
        refine ⟨fun _ => ⟨[0, 1, 2, 3, 4, 5, 6], rfl, rfl⟩, ?_⟩
        refine JT.only (i := 5) (d := some 14) rfl (MV.ofQV (v := (SlV.sub ((Enc.int .u8)).sz s4 (36 : Int) ((x5).length : Int)).v) (QV.assign rfl)) rfl rfl rfl ?_
        rintro _ _ ⟨rfl, rfl⟩
        refine ⟨fun _ => ⟨[0, 1, 2, 3, 4, 5, 6], rfl, rfl⟩, ?_⟩
        refine JT.nil ?_
        refine QJ.ent (fun _ hs => hs.derive ((Drv.vw 5 rfl).subV h26)) ?_
        refine QJ.ent (fun _ hs => hs.derive ((Drv.vw 6 rfl).subV h27)) ?_
        refine QJ.then_normal ?_
        refine JC.seq ?_
        refine JC.region ?_
        refine JL.ent (fun _ hs => hs.nil 5 (Enc.int .u8)) ?_
        refine JL.val (v := SlV.nil.v) (QV.assign rfl) rfl rfl rfl ?_
        refine JL.nil ?_
        refine QJ.then_normal ?_
        refine JC.seq ?_
        refine JC.seq ?_
        refine JC.region ?_
        refine JL.val (v := .agg (flat [Seg.c (.int .u32 x1), Seg.of (Enc.arr 20 (Enc.int .u8)) y23]).toArray) (QV.eq (QV.loadN (ss := [Seg.c (.int .u32 x1), Seg.of (Enc.arr 20 (Enc.int .u8)) y23]) 3 0 2 rfl tk_114 rfl rfl rfl rfl) rfl) rfl rfl rfl ?_
        refine JL.val (v := (SlV.sub ((Enc.int .u8)).sz s4 (4 : Int) (36 : Int)).v) (QV.move rfl) rfl rfl rfl ?_
        refine JL.val (v := s6.v) (QV.move rfl) rfl rfl rfl ?_
        obtain ⟨y28, hc29, hm⟩ := bind_inv hm
        refine JL.mv (d := some 52) (MV.call (Lo := []) (Lr := [Asr.of 5 (Enc.int .u8) (SlV.nil.v) ([] : List Int), Asr.vw (Enc.int .u8) ((SlV.sub ((Enc.int .u8)).sz s4 (36 : Int) ((x5).length : Int)).v) (subL x5 (36 : Int) ((x5).length : Int)), Asr.vw (Enc.int .u8) ((SlV.sub ((Enc.int .u8)).sz s4 (4 : Int) (36 : Int)).v) (subL x5 (4 : Int) (36 : Int)), Asr.blk b25 114 [Seg.c (.int .u32 x1), Seg.of (Enc.arr 20 (Enc.int .u8)) y23], Asr.of 5 (Enc.int .u8) (z21.v) y19, Asr.of 5 (Enc.int .u8) (SlV.nil.v) ([] : List Int), Asr.blk b11 41 [Seg.of (Enc.arr 32 (Enc.int .u8)) (Arr.rep 32 (0 : Int))], Asr.blk b10 78 [Seg.of (Enc.arr 16 (Enc.int .u8)) x2], Asr.vw (Enc.int .u8) (s4.v) x5, Asr.vw (Enc.int .u8) (s6.v) x7]) (F89.spec ((SlV.sub ((Enc.int .u8)).sz s4 (4 : Int) (36 : Int))) (s6) (x1) (y23) ((subL x5 (4 : Int) (36 : Int))) (x7) _ hc29) rfl Try.func89 rfl rfl rfl [] [0, 1, 2, 3, 4, 5, 6, 7, 8, 9] rfl rfl rfl ⟨(Drv.vw 2 rfl), ⟨(Drv.vw 9 rfl), trivial⟩⟩) rfl rfl rfl ?_
        rintro _ _ ⟨_, ⟨z30, rfl, rfl⟩, rfl⟩
        refine JL.val (v := .int .i64 ((y28).length : Int)) (QV.len (Rdg.of 0 rfl) Try.underlying24 rfl) rfl rfl rfl ?_
        refine JL.val (v := .int .i64 (0 : Int)) (QV.move rfl) rfl rfl rfl ?_
        refine JL.nil ?_
        refine QJ.then_normal ?_
        refine JC.cutK (Y := (List Int) × SlV) (fun y => match y with | (d32, _) => F67_1.j1 x1 y23 (d32) = some r) (fun y => match y with | (d32, z31) => [(10, .pointer (some ⟨b11, 0, none⟩)), (12, .pointer (some ⟨b25, 0, none⟩)), (15, z31.v)]) (fun y => match y with | (d32, z31) => [Asr.blk b11 41 [Seg.of (Enc.arr 32 (Enc.int .u8)) (Arr.rep 32 (0 : Int))], Asr.blk b25 114 [Seg.c (.int .u32 x1), Seg.of (Enc.arr 20 (Enc.int .u8)) y23], Asr.of 5 (Enc.int .u8) (z31.v) d32]) ?_ ?_
        ·
          rintro ⟨d32, z31⟩ hm
          unfold F67_1.j1 at hm
          show QJ _ _ [(10, .pointer (some ⟨b11, 0, none⟩)), (12, .pointer (some ⟨b25, 0, none⟩)), (15, z31.v)] [Asr.blk b11 41 [Seg.of (Enc.arr 32 (Enc.int .u8)) (Arr.rep 32 (0 : Int))], Asr.blk b25 114 [Seg.c (.int .u32 x1), Seg.of (Enc.arr 20 (Enc.int .u8)) y23], Asr.of 5 (Enc.int .u8) (z31.v) d32] _ _
          refine QJ.then_normal ?_
          refine JC.seq ?_
          refine JC.region ?_
          refine JL.val (v := .agg (flat [Seg.c (.int .u32 x1), Seg.of (Enc.arr 20 (Enc.int .u8)) y23]).toArray) (QV.eq (QV.loadN (ss := [Seg.c (.int .u32 x1), Seg.of (Enc.arr 20 (Enc.int .u8)) y23]) 1 0 2 rfl tk_114 rfl rfl rfl rfl) rfl) rfl rfl rfl ?_
          refine JL.val (v := z31.v) (QV.move rfl) rfl rfl rfl ?_
          refine JL.mv (d := some 80) (MV.lit (E := (NE.sl (Enc.int .u8)).E) (vals := [(0, z31.v)]) [(z31, d32)] Try.underlying50 zi_22 rfl (by decide) rfl (by kernel_rfl)) rfl rfl rfl ?_
          rintro _ _ ⟨z33, rfl, rfl⟩
          obtain ⟨y34, hc35, hm⟩ := bind_inv hm
          refine JL.mv (d := some 81) (MV.call (Lo := []) (Lr := [Asr.of 22 (NE.sl (Enc.int .u8)).E (z33.v) [(z31, d32)], Asr.blk b11 41 [Seg.of (Enc.arr 32 (Enc.int .u8)) (Arr.rep 32 (0 : Int))], Asr.blk b25 114 [Seg.c (.int .u32 x1), Seg.of (Enc.arr 20 (Enc.int .u8)) y23], Asr.of 5 (Enc.int .u8) (z31.v) d32]) (F84.spec (z33) ([z31]) (x1) (y23) ((32896 : Int)) ([d32]) _ hc35) rfl Try.func84 rfl rfl rfl [] [0, 1, 2, 3] rfl rfl rfl ⟨(Drv.lit (zs := [z31]) (xs := [d32]) 0 rfl rfl ⟨(Drv.of 3 rfl), trivial⟩), trivial⟩) rfl rfl rfl ?_
          rintro _ _ ⟨_, ⟨rfl, rfl⟩, rfl⟩
          refine JL.mv (d := none) (MV.store (ss := [Seg.of (Enc.arr 32 (Enc.int .u8)) (Arr.rep 32 (0 : Int))]) 1 0 1 [Seg.of (Enc.arr 32 (Enc.int .u8)) y34] rfl tk_41 rfl rfl rfl rfl (fun w hs => ⟨rfl, one_of _ _, trivial⟩)) rfl rfl rfl ?_
          rintro _ _ ⟨rfl, rfl⟩
          refine JL.val (v := .int .i64 (0 : Int)) (QV.assign rfl) rfl rfl rfl ?_
          refine JL.nil ?_
          refine QJ.then_normal ?_
          refine JC.ret ?_
          obtain rfl := Option.some.inj hm
          exact QJ.body (vs := [.agg (((Enc.arr 32 (Enc.int .u8))).enc y34).toArray, .int .i64 (0 : Int)]) (.inl rfl) rfl (ResVs.cons (ResV.cell (d := none) (ty := 0) (ps := "") (af := #[]) (g := none) rfl (QV.eq (QV.loadN (ss := [Seg.of (Enc.arr 32 (Enc.int .u8)) y34]) 1 0 1 rfl tk_41 rfl rfl rfl rfl) rfl)) (ResVs.cons (ResV.tmp rfl) ResVs.nil)) [] rfl rfl (.inr trivial) ⟨rfl, rfl⟩
        ·
          refine JC.block ?_
          obtain ⟨y42, hl43, hmo44⟩ := bind_inv hm
          refine JC.loop (F67_1.b1 x1 x5 y23 y28) (fun x z => match x, z with | (d37, d38), z36 => [(10, .pointer (some ⟨b11, 0, none⟩)), (12, .pointer (some ⟨b25, 0, none⟩)), (14, (SlV.sub ((Enc.int .u8)).sz s4 (36 : Int) ((x5).length : Int)).v), (15, z36.v), (52, z30.v), (53, .int .i64 ((y28).length : Int)), (54, .int .i64 d38)]) (fun x z => match x, z with | (d37, d38), z36 => [Asr.blk b11 41 [Seg.of (Enc.arr 32 (Enc.int .u8)) (Arr.rep 32 (0 : Int))], Asr.blk b25 114 [Seg.c (.int .u32 x1), Seg.of (Enc.arr 20 (Enc.int .u8)) y23], Asr.vw (Enc.int .u8) ((SlV.sub ((Enc.int .u8)).sz s4 (36 : Int) ((x5).length : Int)).v) (subL x5 (36 : Int) ((x5).length : Int)), Asr.of 5 (Enc.int .u8) (z36.v) d37, Asr.of 3 (Enc.int .i64) (z30.v) y28]) (([] : List Int), (0 : Int)) SlV.nil y42 hl43 [7, 4, 2, 1, 0] (by exact ⟨rfl, rfl, rfl, rfl, rfl, rfl, rfl, trivial⟩) rfl rfl ?_
          rintro ⟨d37, d38⟩ z36 s45 hm
          unfold F67_1.b1 at hm
          dsimp only at hm
          show JC _ _ _ [(10, .pointer (some ⟨b11, 0, none⟩)), (12, .pointer (some ⟨b25, 0, none⟩)), (14, (SlV.sub ((Enc.int .u8)).sz s4 (36 : Int) ((x5).length : Int)).v), (15, z36.v), (52, z30.v), (53, .int .i64 ((y28).length : Int)), (54, .int .i64 d38)] [Asr.blk b11 41 [Seg.of (Enc.arr 32 (Enc.int .u8)) (Arr.rep 32 (0 : Int))], Asr.blk b25 114 [Seg.c (.int .u32 x1), Seg.of (Enc.arr 20 (Enc.int .u8)) y23], Asr.vw (Enc.int .u8) ((SlV.sub ((Enc.int .u8)).sz s4 (36 : Int) ((x5).length : Int)).v) (subL x5 (36 : Int) ((x5).length : Int)), Asr.of 5 (Enc.int .u8) (z36.v) d37, Asr.of 3 (Enc.int .i64) (z30.v) y28] _ _
          refine JC.seq ?_
          refine JC.region ?_
          refine JL.val (v := .bool (decide (d38 < ((y28).length : Int)))) (QV.lss rfl rfl) rfl rfl rfl ?_
          refine JL.nil ?_
          refine QJ.then_normal ?_
          refine JC.seq ?_
          rcases ite_inv hm with ⟨h46, hm⟩ | ⟨h46, hm⟩
          ·
            refine JC.condT' rfl (decide_eq_true h46) ?_
            refine JC.skip ?_
            refine QJ.then_normal ?_
            refine JC.seq ?_
            refine JC.block ?_
            refine JC.seq ?_
            refine JC.region ?_
            refine JL.val (v := .int .i64 d38) (QV.move rfl) rfl rfl rfl ?_
            obtain ⟨h47, hm⟩ := guard_inv hm
            refine JL.val (v := .pointer (some (elA (z30.v) (Int.toNat d38 * ((Enc.int .i64)).sz)))) (QV.indexA (Rdg.of 4 rfl) Try.underlying24 tk_3 rfl rfl h47) rfl rfl rfl ?_
            refine JL.val (v := .int .i64 (gd y28 d38)) (QV.el1 (Rdg.of 4 rfl) tk_3 rfl h47 rfl) rfl rfl rfl ?_
            refine JL.val (v := .int .i64 d38) (QV.assign rfl) rfl rfl rfl ?_
            refine JL.val (v := .int .i64 (gd y28 d38)) (QV.assign rfl) rfl rfl rfl ?_
            refine JL.nil ?_
            refine QJ.then_normal ?_
            refine JC.seq ?_
            obtain ⟨y48, hc49, hm⟩ := bind_inv hm
            obtain ⟨h50, hm⟩ := guard_inv hm
            obtain ⟨h51, hm⟩ := guard_inv hm
            obtain ⟨y52, hc53, hm⟩ := bind_inv hm
            refine JC.cutK (Y := Unit × Nat) (fun y => match y with | (_, _) => F67_1.j2 d37 d38 y52 = some s45) (fun y => match y with | (_, z55) => [(10, .pointer (some ⟨b11, 0, none⟩)), (12, .pointer (some ⟨b25, 0, none⟩)), (14, (SlV.sub ((Enc.int .u8)).sz s4 (36 : Int) ((x5).length : Int)).v), (15, z36.v), (18, .pointer (some ⟨z55, 0, none⟩)), (52, z30.v), (53, .int .i64 ((y28).length : Int)), (54, .int .i64 d38)]) (fun y => match y with | (_, z55) => [Asr.blk b11 41 [Seg.of (Enc.arr 32 (Enc.int .u8)) (Arr.rep 32 (0 : Int))], Asr.blk b25 114 [Seg.c (.int .u32 x1), Seg.of (Enc.arr 20 (Enc.int .u8)) y23], Asr.vw (Enc.int .u8) ((SlV.sub ((Enc.int .u8)).sz s4 (36 : Int) ((x5).length : Int)).v) (subL x5 (36 : Int) ((x5).length : Int)), Asr.of 5 (Enc.int .u8) (z36.v) d37, Asr.blk z55 41 [Seg.of (Enc.arr 32 (Enc.int .u8)) y52], Asr.of 3 (Enc.int .i64) (z30.v) y28]) ?_ ?_
            ·
              rintro ⟨⟨⟩, z55⟩ hm
              unfold F67_1.j2 at hm
              show QJ _ _ [(10, .pointer (some ⟨b11, 0, none⟩)), (12, .pointer (some ⟨b25, 0, none⟩)), (14, (SlV.sub ((Enc.int .u8)).sz s4 (36 : Int) ((x5).length : Int)).v), (15, z36.v), (18, .pointer (some ⟨z55, 0, none⟩)), (52, z30.v), (53, .int .i64 ((y28).length : Int)), (54, .int .i64 d38)] [Asr.blk b11 41 [Seg.of (Enc.arr 32 (Enc.int .u8)) (Arr.rep 32 (0 : Int))], Asr.blk b25 114 [Seg.c (.int .u32 x1), Seg.of (Enc.arr 20 (Enc.int .u8)) y23], Asr.vw (Enc.int .u8) ((SlV.sub ((Enc.int .u8)).sz s4 (36 : Int) ((x5).length : Int)).v) (subL x5 (36 : Int) ((x5).length : Int)), Asr.of 5 (Enc.int .u8) (z36.v) d37, Asr.blk z55 41 [Seg.of (Enc.arr 32 (Enc.int .u8)) y52], Asr.of 3 (Enc.int .i64) (z30.v) y28] _ _
              refine QJ.then_normal ?_
              refine JC.region ?_
              refine JL.val (v := z36.v) (QV.move rfl) rfl rfl rfl ?_
              refine JL.val (v := (SlV.sub ((Enc.int .u8)).sz (SlV.mk (some ⟨z55, 0, none⟩) 32 32) (0 : Int) ((32 : Nat) : Int)).v) (QV.sliceB Try.underlying41 tk_5 rfl rfl rfl (by decide)) rfl rfl rfl ?_
              obtain ⟨h56, hm⟩ := guard_inv hm
              refine JL.mv (d := some 76) (MV.append 3 rfl (Rdg.ofDrv ((Drv.arr (ss := [Seg.of (Enc.arr 32 (Enc.int .u8)) y52]) 4 0 rfl rfl rfl rfl).subV (by rw [Arr.h]; exact (show 0 ≤ (0 : Int) ∧ (0 : Int) ≤ ((32 : Nat) : Int) ∧ ((32 : Nat) : Int) ≤ ((32 : Nat) : Int) from by decide)))) Try.underlying22 zi_5 rfl (by decide) rfl rfl h56) rfl rfl rfl ?_
              rintro _ _ ⟨z57, rfl, rfl⟩
              refine JL.val (v := z57.v) (QV.assign rfl) rfl rfl rfl ?_
              refine JL.nil ?_
              refine QJ.block_normal ?_
              refine QJ.then_normal ?_
              refine JC.region ?_
              refine JL.val (v := .int .i64 (IntKind.wrap .i64 (d38 + (1 : Int)))) (QV.add rfl rfl) rfl rfl rfl ?_
              refine JL.val (v := .int .i64 (IntKind.wrap .i64 (d38 + (1 : Int)))) (QV.move rfl) rfl rfl rfl ?_
              refine JL.nil ?_
              obtain rfl := Option.some.inj hm
              exact QJ.round_on ((d37 ++ (subL (y52).l (0 : Int) ((32 : Nat) : Int))), (IntKind.wrap .i64 (d38 + (1 : Int)))) z57 [0, 1, 2, 3, 5] (by exact ⟨rfl, rfl, rfl, rfl, rfl, rfl, rfl, trivial⟩) rfl rfl
            ·
              refine JC.regionU [Asr.blk b11 41 [Seg.of (Enc.arr 32 (Enc.int .u8)) (Arr.rep 32 (0 : Int))], Asr.blk b25 114 [Seg.c (.int .u32 x1), Seg.of (Enc.arr 20 (Enc.int .u8)) y23], Asr.vw (Enc.int .u8) ((SlV.sub ((Enc.int .u8)).sz s4 (36 : Int) ((x5).length : Int)).v) (subL x5 (36 : Int) ((x5).length : Int)), Asr.of 5 (Enc.int .u8) (z36.v) d37, Asr.of 3 (Enc.int .i64) (z30.v) y28] (fun _ => false) 17 rfl (by kernel_rfl) (by kernel_rfl) (fun hsel => ?_)
              refine JU.take (i := 0) (v := .agg (flat [Seg.c (.int .u32 x1), Seg.of (Enc.arr 20 (Enc.int .u8)) y23]).toArray) hsel rfl (by kernel_rfl) (QV.eq (QV.loadN (ss := [Seg.c (.int .u32 x1), Seg.of (Enc.arr 20 (Enc.int .u8)) y23]) 1 0 2 rfl tk_114 rfl rfl rfl rfl) rfl) rfl rfl rfl [0, 1, 2, 3, 4] rfl rfl ?_
              refine JU.take (i := 1) (v := .int .i64 d38) hsel rfl (by kernel_rfl) (QV.move rfl) rfl rfl rfl [0, 1, 2, 3, 4] rfl rfl ?_
              refine JU.take (i := 2) (v := .int .i64 (gd y28 d38)) hsel rfl (by kernel_rfl) (QV.move rfl) rfl rfl rfl [0, 1, 2, 3, 4] rfl rfl ?_
              refine JU.take (i := 3) (v := .agg (flat [Seg.c (.int .u32 x1), Seg.of (Enc.arr 20 (Enc.int .u8)) y23]).toArray) hsel rfl (by kernel_rfl) (QV.eq (QV.loadN (ss := [Seg.c (.int .u32 x1), Seg.of (Enc.arr 20 (Enc.int .u8)) y23]) 1 0 2 rfl tk_114 rfl rfl rfl rfl) rfl) rfl rfl rfl [0, 1, 2, 3, 4] rfl rfl ?_
              refine JU.take (i := 5) (v := (SlV.sub ((Enc.int .u8)).sz s4 (36 : Int) ((x5).length : Int)).v) hsel rfl (by kernel_rfl) (QV.move rfl) rfl rfl rfl [0, 1, 2, 3, 4] rfl rfl ?_
              refine JU.take (i := 6) (v := .int .i64 d38) hsel rfl (by kernel_rfl) (QV.move rfl) rfl rfl rfl [0, 1, 2, 3, 4] rfl rfl ?_
              refine JU.take (i := 7) (v := .int .i64 (IntKind.wrap .i64 ((32 : Int) * d38))) hsel rfl (by kernel_rfl) (QV.mul rfl rfl) rfl rfl rfl [0, 1, 2, 3, 4] rfl rfl ?_
              refine JU.take (i := 8) (v := .int .i64 d38) hsel rfl (by kernel_rfl) (QV.move rfl) rfl rfl rfl [0, 1, 2, 3, 4] rfl rfl ?_
              refine JU.take (i := 9) (v := .int .i64 (IntKind.wrap .i64 ((32 : Int) * d38))) hsel rfl (by kernel_rfl) (QV.mul rfl rfl) rfl rfl rfl [0, 1, 2, 3, 4] rfl rfl ?_
              refine JU.take (i := 10) (v := .int .i64 (IntKind.wrap .i64 ((IntKind.wrap .i64 ((32 : Int) * d38)) + (32 : Int)))) hsel rfl (by kernel_rfl) (QV.add rfl rfl) rfl rfl rfl [0, 1, 2, 3, 4] rfl rfl ?_
              refine JU.take (i := 11) (v := (SlV.sub ((Enc.int .u8)).sz (SlV.sub ((Enc.int .u8)).sz s4 (36 : Int) ((x5).length : Int)) (IntKind.wrap .i64 ((32 : Int) * d38)) (IntKind.wrap .i64 ((IntKind.wrap .i64 ((32 : Int) * d38)) + (32 : Int)))).v) hsel rfl (by kernel_rfl) (QV.sliceV (Rdg.vw 2 rfl) Try.underlying22 tk_5 rfl rfl rfl h50) rfl rfl rfl [0, 1, 2, 3, 4] rfl rfl ?_
              refine JU.take (i := 12) (v := .pointer (some (elA ((SlV.sub ((Enc.int .u8)).sz (SlV.sub ((Enc.int .u8)).sz s4 (36 : Int) ((x5).length : Int)) (IntKind.wrap .i64 ((32 : Int) * d38)) (IntKind.wrap .i64 ((IntKind.wrap .i64 ((32 : Int) * d38)) + (32 : Int)))).v) 0))) hsel rfl (by kernel_rfl) (QV.toArr (m := 32) (Rdg.ofDrv ((Drv.vw 2 rfl).subV h50)) Try.underlying41 rfl h51) rfl rfl rfl [0, 1, 2, 3, 4] rfl rfl ?_
              refine JU.take (i := 13) (v := .agg (((Enc.arr 32 (Enc.int .u8))).enc (Arr.ofL 32 (subL (subL x5 (36 : Int) ((x5).length : Int)) (IntKind.wrap .i64 ((32 : Int) * d38)) (IntKind.wrap .i64 ((IntKind.wrap .i64 ((32 : Int) * d38)) + (32 : Int)))))).toArray) hsel rfl (by kernel_rfl) (QV.loadArr (m := 32) (E := (Enc.int .u8)) (Rdg.ofDrv ((Drv.vw 2 rfl).subV h50)) tk_41 rfl h51) rfl rfl rfl [0, 1, 2, 3, 4] rfl rfl ?_
              refine JU.any [4, 15] (by kernel_rfl) rfl ?_
              refine ⟨?_, ?_, trivial⟩
              ·
                refine JUo.mv (d := some 63) rfl (MV.call (Lo := []) (Lr := [Asr.blk b11 41 [Seg.of (Enc.arr 32 (Enc.int .u8)) (Arr.rep 32 (0 : Int))], Asr.blk b25 114 [Seg.c (.int .u32 x1), Seg.of (Enc.arr 20 (Enc.int .u8)) y23], Asr.vw (Enc.int .u8) ((SlV.sub ((Enc.int .u8)).sz s4 (36 : Int) ((x5).length : Int)).v) (subL x5 (36 : Int) ((x5).length : Int)), Asr.of 5 (Enc.int .u8) (z36.v) d37, Asr.of 3 (Enc.int .i64) (z30.v) y28]) (F82.spec (x1) (y23) _ hc49) rfl Try.func82 rfl rfl rfl [] [0, 1, 2, 3, 4] rfl rfl rfl trivial) rfl rfl rfl ?_
                rintro _ _ ⟨_, ⟨rfl, rfl⟩, rfl⟩
                refine ⟨fun _ => ⟨[0, 1, 2, 3, 4], rfl, rfl⟩, ?_⟩
                refine JU.any [14, 15] (by kernel_rfl) rfl ?_
                refine ⟨?_, ?_, trivial⟩
                ·
                  refine JUo.mv (d := some 73) rfl (MV.call (Lo := []) (Lr := [Asr.blk b11 41 [Seg.of (Enc.arr 32 (Enc.int .u8)) (Arr.rep 32 (0 : Int))], Asr.blk b25 114 [Seg.c (.int .u32 x1), Seg.of (Enc.arr 20 (Enc.int .u8)) y23], Asr.vw (Enc.int .u8) ((SlV.sub ((Enc.int .u8)).sz s4 (36 : Int) ((x5).length : Int)).v) (subL x5 (36 : Int) ((x5).length : Int)), Asr.of 5 (Enc.int .u8) (z36.v) d37, Asr.of 3 (Enc.int .i64) (z30.v) y28]) (F81.spec (x1) (y23) (d38) ((gd y28 d38)) (y48) ((Arr.ofL 32 (subL (subL x5 (36 : Int) ((x5).length : Int)) (IntKind.wrap .i64 ((32 : Int) * d38)) (IntKind.wrap .i64 ((IntKind.wrap .i64 ((32 : Int) * d38)) + (32 : Int)))))) _ hc53) rfl Try.func81 rfl rfl rfl [] [0, 1, 2, 3, 4] rfl rfl rfl trivial) rfl rfl rfl ?_
                  rintro _ _ ⟨_, ⟨rfl, rfl⟩, rfl⟩
                  refine ⟨fun _ => ⟨[0, 1, 2, 3, 4], rfl, rfl⟩, ?_⟩
                  refine JU.any [15] (by kernel_rfl) rfl ?_
                  refine ⟨?_, trivial⟩
                  refine JUo.mv (d := some 18) rfl (MV.alloc [Seg.of (Enc.arr 32 (Enc.int .u8)) (Arr.rep 32 (0 : Int))] z_41 rfl) rfl rfl rfl ?_
                  rintro _ _ ⟨b58, rfl, rfl⟩
                  refine ⟨fun _ => ⟨[1, 2, 3, 4, 5], rfl, rfl⟩, ?_⟩
                  refine JU.any [16] (by kernel_rfl) rfl ?_
                  refine ⟨?_, trivial⟩
                  refine JUo.mv (d := none) rfl (MV.store (ss := [Seg.of (Enc.arr 32 (Enc.int .u8)) (Arr.rep 32 (0 : Int))]) 0 0 1 [Seg.of (Enc.arr 32 (Enc.int .u8)) y52] rfl tk_41 rfl rfl rfl rfl (fun w hs => ⟨rfl, one_of _ _, trivial⟩)) rfl rfl rfl ?_
                  rintro _ _ ⟨rfl, rfl⟩
                  refine ⟨fun _ => ⟨[1, 2, 3, 4, 5], rfl, rfl⟩, ?_⟩
                  refine JU.nil (by kernel_rfl) ?_
                  exact QJ.cut_normal ((), b58) hm [1, 2, 3, 4, 0, 5] (by exact ⟨rfl, rfl, rfl, rfl, rfl, rfl, rfl, rfl, trivial⟩) rfl rfl
                ·
                  refine JUo.mv (d := some 18) rfl (MV.alloc [Seg.of (Enc.arr 32 (Enc.int .u8)) (Arr.rep 32 (0 : Int))] z_41 rfl) rfl rfl rfl ?_
                  rintro _ _ ⟨b59, rfl, rfl⟩
                  refine ⟨fun _ => ⟨[1, 2, 3, 4, 5], rfl, rfl⟩, ?_⟩
                  refine JU.any [14] (by kernel_rfl) rfl ?_
                  refine ⟨?_, trivial⟩
                  refine JUo.mv (d := some 73) rfl (MV.call (Lo := []) (Lr := [Asr.blk b59 41 [Seg.of (Enc.arr 32 (Enc.int .u8)) (Arr.rep 32 (0 : Int))], Asr.blk b11 41 [Seg.of (Enc.arr 32 (Enc.int .u8)) (Arr.rep 32 (0 : Int))], Asr.blk b25 114 [Seg.c (.int .u32 x1), Seg.of (Enc.arr 20 (Enc.int .u8)) y23], Asr.vw (Enc.int .u8) ((SlV.sub ((Enc.int .u8)).sz s4 (36 : Int) ((x5).length : Int)).v) (subL x5 (36 : Int) ((x5).length : Int)), Asr.of 5 (Enc.int .u8) (z36.v) d37, Asr.of 3 (Enc.int .i64) (z30.v) y28]) (F81.spec (x1) (y23) (d38) ((gd y28 d38)) (y48) ((Arr.ofL 32 (subL (subL x5 (36 : Int) ((x5).length : Int)) (IntKind.wrap .i64 ((32 : Int) * d38)) (IntKind.wrap .i64 ((IntKind.wrap .i64 ((32 : Int) * d38)) + (32 : Int)))))) _ hc53) rfl Try.func81 rfl rfl rfl [] [0, 1, 2, 3, 4, 5] rfl rfl rfl trivial) rfl rfl rfl ?_
                  rintro _ _ ⟨_, ⟨rfl, rfl⟩, rfl⟩
                  refine ⟨fun _ => ⟨[1, 2, 3, 4, 5], rfl, rfl⟩, ?_⟩
                  refine JU.any [16] (by kernel_rfl) rfl ?_
                  refine ⟨?_, trivial⟩
                  refine JUo.mv (d := none) rfl (MV.store (ss := [Seg.of (Enc.arr 32 (Enc.int .u8)) (Arr.rep 32 (0 : Int))]) 0 0 1 [Seg.of (Enc.arr 32 (Enc.int .u8)) y52] rfl tk_41 rfl rfl rfl rfl (fun w hs => ⟨rfl, one_of _ _, trivial⟩)) rfl rfl rfl ?_
                  rintro _ _ ⟨rfl, rfl⟩
                  refine ⟨fun _ => ⟨[1, 2, 3, 4, 5], rfl, rfl⟩, ?_⟩
                  refine JU.nil (by kernel_rfl) ?_
                  exact QJ.cut_normal ((), b59) hm [1, 2, 3, 4, 0, 5] (by exact ⟨rfl, rfl, rfl, rfl, rfl, rfl, rfl, rfl, trivial⟩) rfl rfl
              ·
                refine JUo.mv (d := some 18) rfl (MV.alloc [Seg.of (Enc.arr 32 (Enc.int .u8)) (Arr.rep 32 (0 : Int))] z_41 rfl) rfl rfl rfl ?_
                rintro _ _ ⟨b60, rfl, rfl⟩
                refine ⟨fun _ => ⟨[1, 2, 3, 4, 5], rfl, rfl⟩, ?_⟩
                refine JU.any [4] (by kernel_rfl) rfl ?_
                refine ⟨?_, trivial⟩
                refine JUo.mv (d := some 63) rfl (MV.call (Lo := []) (Lr := [Asr.blk b60 41 [Seg.of (Enc.arr 32 (Enc.int .u8)) (Arr.rep 32 (0 : Int))], Asr.blk b11 41 [Seg.of (Enc.arr 32 (Enc.int .u8)) (Arr.rep 32 (0 : Int))], Asr.blk b25 114 [Seg.c (.int .u32 x1), Seg.of (Enc.arr 20 (Enc.int .u8)) y23], Asr.vw (Enc.int .u8) ((SlV.sub ((Enc.int .u8)).sz s4 (36 : Int) ((x5).length : Int)).v) (subL x5 (36 : Int) ((x5).length : Int)), Asr.of 5 (Enc.int .u8) (z36.v) d37, Asr.of 3 (Enc.int .i64) (z30.v) y28]) (F82.spec (x1) (y23) _ hc49) rfl Try.func82 rfl rfl rfl [] [0, 1, 2, 3, 4, 5] rfl rfl rfl trivial) rfl rfl rfl ?_
                rintro _ _ ⟨_, ⟨rfl, rfl⟩, rfl⟩
                refine ⟨fun _ => ⟨[1, 2, 3, 4, 5], rfl, rfl⟩, ?_⟩
                refine JU.any [14] (by kernel_rfl) rfl ?_
                refine ⟨?_, trivial⟩
                refine JUo.mv (d := some 73) rfl (MV.call (Lo := []) (Lr := [Asr.blk b60 41 [Seg.of (Enc.arr 32 (Enc.int .u8)) (Arr.rep 32 (0 : Int))], Asr.blk b11 41 [Seg.of (Enc.arr 32 (Enc.int .u8)) (Arr.rep 32 (0 : Int))], Asr.blk b25 114 [Seg.c (.int .u32 x1), Seg.of (Enc.arr 20 (Enc.int .u8)) y23], Asr.vw (Enc.int .u8) ((SlV.sub ((Enc.int .u8)).sz s4 (36 : Int) ((x5).length : Int)).v) (subL x5 (36 : Int) ((x5).length : Int)), Asr.of 5 (Enc.int .u8) (z36.v) d37, Asr.of 3 (Enc.int .i64) (z30.v) y28]) (F81.spec (x1) (y23) (d38) ((gd y28 d38)) (y48) ((Arr.ofL 32 (subL (subL x5 (36 : Int) ((x5).length : Int)) (IntKind.wrap .i64 ((32 : Int) * d38)) (IntKind.wrap .i64 ((IntKind.wrap .i64 ((32 : Int) * d38)) + (32 : Int)))))) _ hc53) rfl Try.func81 rfl rfl rfl [] [0, 1, 2, 3, 4, 5] rfl rfl rfl trivial) rfl rfl rfl ?_
                rintro _ _ ⟨_, ⟨rfl, rfl⟩, rfl⟩
                refine ⟨fun _ => ⟨[1, 2, 3, 4, 5], rfl, rfl⟩, ?_⟩
                refine JU.any [16] (by kernel_rfl) rfl ?_
                refine ⟨?_, trivial⟩
                refine JUo.mv (d := none) rfl (MV.store (ss := [Seg.of (Enc.arr 32 (Enc.int .u8)) (Arr.rep 32 (0 : Int))]) 0 0 1 [Seg.of (Enc.arr 32 (Enc.int .u8)) y52] rfl tk_41 rfl rfl rfl rfl (fun w hs => ⟨rfl, one_of _ _, trivial⟩)) rfl rfl rfl ?_
                rintro _ _ ⟨rfl, rfl⟩
                refine ⟨fun _ => ⟨[1, 2, 3, 4, 5], rfl, rfl⟩, ?_⟩
                refine JU.nil (by kernel_rfl) ?_
                exact QJ.cut_normal ((), b60) hm [1, 2, 3, 4, 0, 5] (by exact ⟨rfl, rfl, rfl, rfl, rfl, rfl, rfl, rfl, trivial⟩) rfl rfl
          ·
            refine JC.condF' rfl (decide_eq_false h46) ?_
            refine JC.exit ?_
            refine QJ.then_exit ?_
            obtain rfl := Option.some.inj hm
            refine QJ.round_exit (fun hy => ?_)
            subst hy
            refine QJ.block_hit ?_
            exact QJ.cut_normal (d37, z36) hmo44 [0, 1, 3] (by exact ⟨rfl, rfl, rfl, trivial⟩) rfl rfl
      ·
        refine JC.condT' rfl (congrArg Bool.not (decide_eq_false h22)) ?_
        refine JC.seq ?_
        refine JC.region ?_
        refine JL.val (v := .agg (((Enc.arr 32 (Enc.int .u8))).enc K3).toArray) (QV.build (vals := []) (cells := ((Enc.arr 32 (Enc.int .u8)).enc K3).toArray) rfl (by kernel_rfl)) rfl rfl rfl ?_
        refine JL.mv (d := none) (MV.store (ss := [Seg.of (Enc.arr 32 (Enc.int .u8)) (Arr.rep 32 (0 : Int))]) 2 0 1 [Seg.of (Enc.arr 32 (Enc.int .u8)) K3] rfl tk_41 rfl rfl rfl rfl (fun w hs => ⟨rfl, one_of _ _, trivial⟩)) rfl rfl rfl ?_
        rintro _ _ ⟨rfl, rfl⟩
        refine JL.val (v := .int .i64 (21 : Int)) (QV.assign rfl) rfl rfl rfl ?_
        refine JL.nil ?_
        refine QJ.then_normal ?_
        refine JC.ret ?_
        refine QJ.block_ret ?_
        refine QJ.then_ret ?_
        obtain rfl := Option.some.inj hm
        exact QJ.body (vs := [.agg (((Enc.arr 32 (Enc.int .u8))).enc K3).toArray, .int .i64 (21 : Int)]) (.inl rfl) rfl (ResVs.cons (ResV.cell (d := none) (ty := 0) (ps := "") (af := #[]) (g := none) rfl (QV.eq (QV.loadN (ss := [Seg.of (Enc.arr 32 (Enc.int .u8)) K3]) 2 0 1 rfl tk_41 rfl rfl rfl rfl) rfl)) (ResVs.cons (ResV.tmp rfl) ResVs.nil)) [] rfl rfl (.inr trivial) ⟨rfl, rfl⟩
    ·
      refine JC.condT' rfl (congrArg Bool.not (decide_eq_false h17)) ?_
      refine JC.seq ?_
      refine JC.region ?_
      refine JL.val (v := .agg (((Enc.arr 32 (Enc.int .u8))).enc K3).toArray) (QV.build (vals := []) (cells := ((Enc.arr 32 (Enc.int .u8)).enc K3).toArray) rfl (by kernel_rfl)) rfl rfl rfl ?_
      refine JL.mv (d := none) (MV.store (ss := [Seg.of (Enc.arr 32 (Enc.int .u8)) (Arr.rep 32 (0 : Int))]) 0 0 1 [Seg.of (Enc.arr 32 (Enc.int .u8)) K3] rfl tk_41 rfl rfl rfl rfl (fun w hs => ⟨rfl, one_of _ _, trivial⟩)) rfl rfl rfl ?_
      rintro _ _ ⟨rfl, rfl⟩
      refine JL.val (v := .int .i64 (3 : Int)) (QV.assign rfl) rfl rfl rfl ?_
      refine JL.nil ?_
      refine QJ.then_normal ?_
      refine JC.ret ?_
      refine QJ.block_ret ?_
      refine QJ.then_ret ?_
      obtain rfl := Option.some.inj hm
      exact QJ.body (vs := [.agg (((Enc.arr 32 (Enc.int .u8))).enc K3).toArray, .int .i64 (3 : Int)]) (.inl rfl) rfl (ResVs.cons (ResV.cell (d := none) (ty := 0) (ps := "") (af := #[]) (g := none) rfl (QV.eq (QV.loadN (ss := [Seg.of (Enc.arr 32 (Enc.int .u8)) K3]) 0 0 1 rfl tk_41 rfl rfl rfl rfl) rfl)) (ResVs.cons (ResV.tmp rfl) ResVs.nil)) [] rfl rfl (.inr trivial) ⟨rfl, rfl⟩

/-! ### 28: drogher/drogherref02.Get -/
noncomputable def F28.j1  (d12 : Int) : Option (Int × Int) :=
  some (d12, (0 : Int))
noncomputable def F28.b1 (x2 : List Int) (x3 : Int) (x4 : Int) : (Int × Int) → Option ((Int × Int) ⊕ Int)
  | (d13, d14) => (if d14 < x4 then (if 0 ≤ (IntKind.wrap .i64 (x3 + d14)) ∧ (IntKind.wrap .i64 (x3 + d14)) < ((x2).length : Int) then some (.inl ((IntKind.wrap .u64 ((IntKind.wrap .u64 (d13 * (256 : Int))) + (IntKind.wrap .u64 (gd x2 (IntKind.wrap .i64 (x3 + d14)))))), (IntKind.wrap .i64 (d14 + (1 : Int))))) else none) else some (.inr d13))
noncomputable def F28.m (x2 : List Int) (x3 : Int) (x4 : Int) : Option (Int × Int) :=
  (if x4 < (1 : Int) then some ((0 : Int), (1 : Int)) else (if (8 : Int) < x4 then some ((0 : Int), (1 : Int)) else (if x3 < (0 : Int) then some ((0 : Int), (5 : Int)) else (if ((x2).length : Int) < x3 then some ((0 : Int), (5 : Int)) else (if (IntKind.wrap .i64 (((x2).length : Int) - x3)) < x4 then some ((0 : Int), (5 : Int)) else ((loop (F28.b1 x2 x3 x4) ((0 : Int), (0 : Int))).bind fun y => match y with | d12 => F28.j1 (d12)))))))
set_option maxRecDepth 100000 in
set_option maxHeartbeats 4000000 in
theorem F28.spec (s1 : SlV) (x2 : List Int) (x3 : Int) (x4 : Int) (r : (Int × Int)) (hm : F28.m x2 x3 x4 = some r) :
    Ctr Try.prog false 28 [s1.v, .int .i64 x3, .int .i64 x4] [Asr.vw (Enc.int .u8) (s1.v) x2] (fun v L' => v = .tuple #[.int .u64 r.1, .int .i64 r.2] ∧ L' = []) := by
  refine Ctr.intro (n := 48) (env := [(0, s1.v), (1, .int .i64 x3), (2, .int .i64 x4)]) Try.func28 rfl rfl rfl rfl (fun c => ?_)
  unfold F28.m at hm
  refine JC.seq ?_
  refine JC.region ?_
  refine JL.val (v := .int .u64 (0 : Int)) (QV.assign rfl) rfl rfl rfl ?_
  refine JL.val (v := .int .i64 (0 : Int)) (QV.assign rfl) rfl rfl rfl ?_
  refine JL.nil ?_
  refine QJ.then_normal ?_
  refine JC.seq ?_
  refine JC.seq ?_
  refine JC.region ?_
  refine JL.val (v := .int .i64 x4) (QV.move rfl) rfl rfl rfl ?_
  refine JL.val (v := .bool (decide (x4 < (1 : Int)))) (QV.lss rfl rfl) rfl rfl rfl ?_
  rcases ite_inv hm with ⟨h7, hm⟩ | ⟨h7, hm⟩
  ·
    refine JL.val (v := .bool true) (QV.eq (QV.move rfl) (congrArg Value.bool (decide_eq_true h7))) rfl rfl rfl ?_
    refine JL.skip (d := some 13) rfl rfl rfl ?_
    refine JL.skip (d := some 14) rfl rfl rfl ?_
    refine JL.val (v := .bool true) (QV.pickT rfl rfl) rfl rfl rfl ?_
    refine JL.nil ?_
    refine QJ.then_normal ?_
    refine JC.condT rfl ?_
    refine JC.seq ?_
    refine JC.region ?_
    refine JL.val (v := .int .u64 (0 : Int)) (QV.assign rfl) rfl rfl rfl ?_
    refine JL.val (v := .int .i64 (1 : Int)) (QV.assign rfl) rfl rfl rfl ?_
    refine JL.nil ?_
    refine QJ.then_normal ?_
    refine JC.ret ?_
    refine QJ.then_ret ?_
    obtain rfl := Option.some.inj hm
    exact QJ.body (vs := [.int .u64 (0 : Int), .int .i64 (1 : Int)]) (.inl rfl) rfl (ResVs.cons (ResV.tmp rfl) (ResVs.cons (ResV.tmp rfl) ResVs.nil)) [] rfl rfl (.inr trivial) ⟨rfl, rfl⟩
  ·
    refine JL.val (v := .bool false) (QV.eq (QV.move rfl) (congrArg Value.bool (decide_eq_false h7))) rfl rfl rfl ?_
    refine JL.val (v := .int .i64 x4) (QV.move rfl) rfl rfl rfl ?_
    refine JL.val (v := .bool (decide ((8 : Int) < x4))) (QV.gtr rfl rfl) rfl rfl rfl ?_
    refine JL.val (v := .bool (decide ((8 : Int) < x4))) (QV.pickF rfl rfl) rfl rfl rfl ?_
    refine JL.nil ?_
    refine QJ.then_normal ?_
    rcases ite_inv hm with ⟨h8, hm⟩ | ⟨h8, hm⟩
    ·
      refine JC.condT' rfl (decide_eq_true h8) ?_
      refine JC.seq ?_
      refine JC.region ?_
      refine JL.val (v := .int .u64 (0 : Int)) (QV.assign rfl) rfl rfl rfl ?_
      refine JL.val (v := .int .i64 (1 : Int)) (QV.assign rfl) rfl rfl rfl ?_
      refine JL.nil ?_
      refine QJ.then_normal ?_
      refine JC.ret ?_
      refine QJ.then_ret ?_
      obtain rfl := Option.some.inj hm
      exact QJ.body (vs := [.int .u64 (0 : Int), .int .i64 (1 : Int)]) (.inl rfl) rfl (ResVs.cons (ResV.tmp rfl) (ResVs.cons (ResV.tmp rfl) ResVs.nil)) [] rfl rfl (.inr trivial) ⟨rfl, rfl⟩
    ·
      refine JC.condF' rfl (decide_eq_false h8) ?_
      refine JC.skip ?_
      refine QJ.then_normal ?_
      refine JC.seq ?_
      refine JC.seq ?_
      refine JC.region ?_
      refine JL.val (v := .int .i64 x3) (QV.move rfl) rfl rfl rfl ?_
      refine JL.val (v := .bool (decide (x3 < (0 : Int)))) (QV.lss rfl rfl) rfl rfl rfl ?_
      rcases ite_inv hm with ⟨h9, hm⟩ | ⟨h9, hm⟩
      ·
        refine JL.val (v := .bool true) (QV.eq (QV.move rfl) (congrArg Value.bool (decide_eq_true h9))) rfl rfl rfl ?_
        refine JL.skip (d := some 19) rfl rfl rfl ?_
        refine JL.skip (d := some 20) rfl rfl rfl ?_
        refine JL.skip (d := some 21) rfl rfl rfl ?_
        refine JL.skip (d := some 22) rfl rfl rfl ?_
        refine JL.val (v := .bool true) (QV.pickT rfl rfl) rfl rfl rfl ?_
        refine JL.val (v := .bool true) (QV.move rfl) rfl rfl rfl ?_
        refine JL.skip (d := some 25) rfl rfl rfl ?_
        refine JL.skip (d := some 26) rfl rfl rfl ?_
        refine JL.skip (d := some 27) rfl rfl rfl ?_
        refine JL.skip (d := some 28) rfl rfl rfl ?_
        refine JL.skip (d := some 29) rfl rfl rfl ?_
        refine JL.skip (d := some 30) rfl rfl rfl ?_
        refine JL.val (v := .bool true) (QV.pickT rfl rfl) rfl rfl rfl ?_
        refine JL.nil ?_
        refine QJ.then_normal ?_
        refine JC.condT rfl ?_
        refine JC.seq ?_
        refine JC.region ?_
        refine JL.val (v := .int .u64 (0 : Int)) (QV.assign rfl) rfl rfl rfl ?_
        refine JL.val (v := .int .i64 (5 : Int)) (QV.assign rfl) rfl rfl rfl ?_
        refine JL.nil ?_
        refine QJ.then_normal ?_
        refine JC.ret ?_
        refine QJ.then_ret ?_
        obtain rfl := Option.some.inj hm
        exact QJ.body (vs := [.int .u64 (0 : Int), .int .i64 (5 : Int)]) (.inl rfl) rfl (ResVs.cons (ResV.tmp rfl) (ResVs.cons (ResV.tmp rfl) ResVs.nil)) [] rfl rfl (.inr trivial) ⟨rfl, rfl⟩
      ·
        refine JL.val (v := .bool false) (QV.eq (QV.move rfl) (congrArg Value.bool (decide_eq_false h9))) rfl rfl rfl ?_
        refine JL.val (v := .int .i64 x3) (QV.move rfl) rfl rfl rfl ?_
        refine JL.val (v := s1.v) (QV.move rfl) rfl rfl rfl ?_
        refine JL.val (v := .int .i64 ((x2).length : Int)) (QV.len (Rdg.vw 0 rfl) Try.underlying22 rfl) rfl rfl rfl ?_
        refine JL.val (v := .bool (decide (((x2).length : Int) < x3))) (QV.gtr rfl rfl) rfl rfl rfl ?_
        refine JL.val (v := .bool (decide (((x2).length : Int) < x3))) (QV.pickF rfl rfl) rfl rfl rfl ?_
        rcases ite_inv hm with ⟨h10, hm⟩ | ⟨h10, hm⟩
        ·
          refine JL.val (v := .bool true) (QV.eq (QV.move rfl) (congrArg Value.bool (decide_eq_true h10))) rfl rfl rfl ?_
          refine JL.skip (d := some 25) rfl rfl rfl ?_
          refine JL.skip (d := some 26) rfl rfl rfl ?_
          refine JL.skip (d := some 27) rfl rfl rfl ?_
          refine JL.skip (d := some 28) rfl rfl rfl ?_
          refine JL.skip (d := some 29) rfl rfl rfl ?_
          refine JL.skip (d := some 30) rfl rfl rfl ?_
          refine JL.val (v := .bool true) (QV.pickT rfl rfl) rfl rfl rfl ?_
          refine JL.nil ?_
          refine QJ.then_normal ?_
          refine JC.condT rfl ?_
          refine JC.seq ?_
          refine JC.region ?_
          refine JL.val (v := .int .u64 (0 : Int)) (QV.assign rfl) rfl rfl rfl ?_
          refine JL.val (v := .int .i64 (5 : Int)) (QV.assign rfl) rfl rfl rfl ?_
          refine JL.nil ?_
          refine QJ.then_normal ?_
          refine JC.ret ?_
          refine QJ.then_ret ?_
          obtain rfl := Option.some.inj hm
          exact QJ.body (vs := [.int .u64 (0 : Int), .int .i64 (5 : Int)]) (.inl rfl) rfl (ResVs.cons (ResV.tmp rfl) (ResVs.cons (ResV.tmp rfl) ResVs.nil)) [] rfl rfl (.inr trivial) ⟨rfl, rfl⟩
        ·
          refine JL.val (v := .bool false) (QV.eq (QV.move rfl) (congrArg Value.bool (decide_eq_false h10))) rfl rfl rfl ?_
          refine JL.val (v := .int .i64 x4) (QV.move rfl) rfl rfl rfl ?_
          refine JL.val (v := s1.v) (QV.move rfl) rfl rfl rfl ?_
          refine JL.val (v := .int .i64 ((x2).length : Int)) (QV.len (Rdg.vw 0 rfl) Try.underlying22 rfl) rfl rfl rfl ?_
          refine JL.val (v := .int .i64 x3) (QV.move rfl) rfl rfl rfl ?_
          refine JL.val (v := .int .i64 (IntKind.wrap .i64 (((x2).length : Int) - x3))) (QV.sub rfl rfl) rfl rfl rfl ?_
          refine JL.val (v := .bool (decide ((IntKind.wrap .i64 (((x2).length : Int) - x3)) < x4))) (QV.gtr rfl rfl) rfl rfl rfl ?_
          refine JL.val (v := .bool (decide ((IntKind.wrap .i64 (((x2).length : Int) - x3)) < x4))) (QV.pickF rfl rfl) rfl rfl rfl ?_
          refine JL.nil ?_
          refine QJ.then_normal ?_
          rcases ite_inv hm with ⟨h11, hm⟩ | ⟨h11, hm⟩
          ·
            refine JC.condT' rfl (decide_eq_true h11) ?_
            refine JC.seq ?_
            refine JC.region ?_
            refine JL.val (v := .int .u64 (0 : Int)) (QV.assign rfl) rfl rfl rfl ?_
            refine JL.val (v := .int .i64 (5 : Int)) (QV.assign rfl) rfl rfl rfl ?_
            refine JL.nil ?_
            refine QJ.then_normal ?_
            refine JC.ret ?_
            refine QJ.then_ret ?_
            obtain rfl := Option.some.inj hm
            exact QJ.body (vs := [.int .u64 (0 : Int), .int .i64 (5 : Int)]) (.inl rfl) rfl (ResVs.cons (ResV.tmp rfl) (ResVs.cons (ResV.tmp rfl) ResVs.nil)) [] rfl rfl (.inr trivial) ⟨rfl, rfl⟩
          ·
            refine JC.condF' rfl (decide_eq_false h11) ?_
            refine JC.skip ?_
            refine QJ.then_normal ?_
            refine JC.seq ?_
            refine JC.region ?_
            refine JL.val (v := .int .u64 (0 : Int)) (QV.assign rfl) rfl rfl rfl ?_
            refine JL.nil ?_
            refine QJ.then_normal ?_
            refine JC.seq ?_
            refine JC.seq ?_
            refine JC.region ?_
            refine JL.val (v := .int .i64 (0 : Int)) (QV.assign rfl) rfl rfl rfl ?_
            refine JL.nil ?_
            refine QJ.then_normal ?_
            refine JC.cutK (Y := Int × Unit) (fun y => match y with | (d12, _) => F28.j1 (d12) = some r) (fun y => match y with | (d12, _) => [(8, .int .u64 d12)]) (fun y => match y with | (d12, _) => []) ?_ ?_
            ·
              rintro ⟨d12, ⟨⟩⟩ hm
              unfold F28.j1 at hm
              show QJ _ _ [(8, .int .u64 d12)] [] _ _
              refine QJ.then_normal ?_
              refine JC.seq ?_
              refine JC.region ?_
              refine JL.val (v := .int .u64 d12) (QV.move rfl) rfl rfl rfl ?_
              refine JL.val (v := .int .u64 d12) (QV.assign rfl) rfl rfl rfl ?_
              refine JL.val (v := .int .i64 (0 : Int)) (QV.assign rfl) rfl rfl rfl ?_
              refine JL.nil ?_
              refine QJ.then_normal ?_
              refine JC.ret ?_
              obtain rfl := Option.some.inj hm
              exact QJ.body (vs := [.int .u64 d12, .int .i64 (0 : Int)]) (.inl rfl) rfl (ResVs.cons (ResV.tmp rfl) (ResVs.cons (ResV.tmp rfl) ResVs.nil)) [] rfl rfl (.inr trivial) ⟨rfl, rfl⟩
            ·
              refine JC.block ?_
              obtain ⟨y17, hl18, hmo19⟩ := bind_inv hm
              refine JC.loop (F28.b1 x2 x3 x4) (fun x z => match x, z with | (d13, d14), _ => [(0, s1.v), (1, .int .i64 x3), (2, .int .i64 x4), (8, .int .u64 d13), (9, .int .i64 d14)]) (fun x z => match x, z with | (d13, d14), _ => [Asr.vw (Enc.int .u8) (s1.v) x2]) ((0 : Int), (0 : Int)) () y17 hl18 [0] (by exact ⟨rfl, rfl, rfl, rfl, rfl, trivial⟩) rfl rfl ?_
              rintro ⟨d13, d14⟩ ⟨⟩ s20 hm
              unfold F28.b1 at hm
              dsimp only at hm
              show JC _ _ _ [(0, s1.v), (1, .int .i64 x3), (2, .int .i64 x4), (8, .int .u64 d13), (9, .int .i64 d14)] [Asr.vw (Enc.int .u8) (s1.v) x2] _ _
              refine JC.seq ?_
              refine JC.seq ?_
              refine JC.region ?_
              refine JL.val (v := .int .i64 d14) (QV.move rfl) rfl rfl rfl ?_
              refine JL.val (v := .int .i64 x4) (QV.move rfl) rfl rfl rfl ?_
              refine JL.val (v := .bool (decide (d14 < x4))) (QV.lss rfl rfl) rfl rfl rfl ?_
              refine JL.nil ?_
              refine QJ.then_normal ?_
              rcases ite_inv hm with ⟨h21, hm⟩ | ⟨h21, hm⟩
              ·
                refine JC.condT' rfl (decide_eq_true h21) ?_
                refine JC.skip ?_
                refine QJ.then_normal ?_
                refine JC.seq ?_
                refine JC.block ?_
                refine JC.region ?_
                refine JL.val (v := .int .u64 d13) (QV.move rfl) rfl rfl rfl ?_
                refine JL.val (v := .int .u64 (IntKind.wrap .u64 (d13 * (256 : Int)))) (QV.mul rfl rfl) rfl rfl rfl ?_
                refine JL.val (v := s1.v) (QV.move rfl) rfl rfl rfl ?_
                refine JL.val (v := .int .i64 x3) (QV.move rfl) rfl rfl rfl ?_
                refine JL.val (v := .int .i64 d14) (QV.move rfl) rfl rfl rfl ?_
                refine JL.val (v := .int .i64 (IntKind.wrap .i64 (x3 + d14))) (QV.add rfl rfl) rfl rfl rfl ?_
                obtain ⟨h22, hm⟩ := guard_inv hm
                refine JL.val (v := .pointer (some (elA (s1.v) (Int.toNat (IntKind.wrap .i64 (x3 + d14)) * ((Enc.int .u8)).sz)))) (QV.indexA (Rdg.vw 0 rfl) Try.underlying22 tk_5 rfl rfl h22) rfl rfl rfl ?_
                refine JL.val (v := .int .u8 (gd x2 (IntKind.wrap .i64 (x3 + d14)))) (QV.el1 (Rdg.vw 0 rfl) tk_5 rfl h22 rfl) rfl rfl rfl ?_
                refine JL.val (v := .int .u64 (IntKind.wrap .u64 (gd x2 (IntKind.wrap .i64 (x3 + d14))))) (QV.conv rfl (by rw [Try.underlying5]; rfl) Try.underlying28) rfl rfl rfl ?_
                refine JL.val (v := .int .u64 (IntKind.wrap .u64 ((IntKind.wrap .u64 (d13 * (256 : Int))) + (IntKind.wrap .u64 (gd x2 (IntKind.wrap .i64 (x3 + d14))))))) (QV.add rfl rfl) rfl rfl rfl ?_
                refine JL.val (v := .int .u64 (IntKind.wrap .u64 ((IntKind.wrap .u64 (d13 * (256 : Int))) + (IntKind.wrap .u64 (gd x2 (IntKind.wrap .i64 (x3 + d14))))))) (QV.assign rfl) rfl rfl rfl ?_
                refine JL.nil ?_
                refine QJ.block_normal ?_
                refine QJ.then_normal ?_
                refine JC.region ?_
                refine JL.val (v := .int .i64 d14) (QV.move rfl) rfl rfl rfl ?_
                refine JL.val (v := .int .i64 (IntKind.wrap .i64 (d14 + (1 : Int)))) (QV.add rfl rfl) rfl rfl rfl ?_
                refine JL.val (v := .int .i64 (IntKind.wrap .i64 (d14 + (1 : Int)))) (QV.assign rfl) rfl rfl rfl ?_
                refine JL.nil ?_
                obtain rfl := Option.some.inj hm
                exact QJ.round_on ((IntKind.wrap .u64 ((IntKind.wrap .u64 (d13 * (256 : Int))) + (IntKind.wrap .u64 (gd x2 (IntKind.wrap .i64 (x3 + d14)))))), (IntKind.wrap .i64 (d14 + (1 : Int)))) () [0] (by exact ⟨rfl, rfl, rfl, rfl, rfl, trivial⟩) rfl rfl
              ·
                refine JC.condF' rfl (decide_eq_false h21) ?_
                refine JC.exit ?_
                refine QJ.then_exit ?_
                obtain rfl := Option.some.inj hm
                refine QJ.round_exit (fun hy => ?_)
                subst hy
                refine QJ.block_hit ?_
                exact QJ.cut_normal (d13, ()) hmo19 [] (by exact ⟨rfl, trivial⟩) rfl rfl

/-! ### 68: drogher/drogherref03.Candidate -/
noncomputable def F68.j1 (x2 : (Arr Int 16)) (x3 : Int) (d28 : List Int) : Option ((Arr Int 32) × Int) :=
  ((F88.m (x2) (x3) (d28)).bind fun y29 => some (y29, (0 : Int)))
noncomputable def F68.j2 (d33 : Int) (d43 : List Int) : Option ((List Int × Int) ⊕ (List Int)) :=
  some (.inl (d43, (IntKind.wrap .i64 (d33 + (1 : Int)))))
noncomputable def F68.j4 (d32 : List Int) (d33 : Int) (y49 : (Arr Int 32))  : Option ((List Int × Int) ⊕ (List Int)) :=
  (if ((d32).length + ((subL (y49).l (0 : Int) ((32 : Nat) : Int))).length) * 1 ≤ 140737488355328 ∧ (d32).length + ((subL (y49).l (0 : Int) ((32 : Nat) : Int))).length ≤ 9223372036854775807 then F68.j2 d33 ((d32 ++ (subL (y49).l (0 : Int) ((32 : Nat) : Int)))) else none)
noncomputable def F68.j3 (x1 : Int) (x2 : (Arr Int 16)) (x3 : Int) (y23 : (List Int)) (d32 : List Int) (d33 : Int) (d45 : (Arr Int 32)) : Option ((List Int × Int) ⊕ (List Int)) :=
  (if 0 ≤ d33 ∧ d33 < ((y23).length : Int) then ((F86.m (x1)).bind fun y47 => ((F85.m (x2) (x3) (d33) ((gd y23 d33)) (y47) (d45)).bind fun y49 => F68.j4 d32 d33 y49)) else none)
noncomputable def F68.b2 (x5 : List Int) (d33 : Int) : ((Arr Int 32) × Int) → Option (((Arr Int 32) × Int) ⊕ (Arr Int 32))
  | (d58, d59) => (if d59 < (32 : Int) then (if 0 ≤ (IntKind.wrap .i64 ((IntKind.wrap .i64 ((36 : Int) + (IntKind.wrap .i64 ((32 : Int) * d33)))) + d59)) ∧ (IntKind.wrap .i64 ((IntKind.wrap .i64 ((36 : Int) + (IntKind.wrap .i64 ((32 : Int) * d33)))) + d59)) < ((x5).length : Int) then (if 0 ≤ d59 ∧ d59 < 32 then some (.inl ((Arr.set d58 d59 (gd x5 (IntKind.wrap .i64 ((IntKind.wrap .i64 ((36 : Int) + (IntKind.wrap .i64 ((32 : Int) * d33)))) + d59)))), (IntKind.wrap .i64 (d59 + (1 : Int))))) else none) else none) else some (.inr d58))
noncomputable def F68.b1 (x1 : Int) (x2 : (Arr Int 16)) (x3 : Int) (x5 : List Int) (y23 : (List Int)) : (List Int × Int) → Option ((List Int × Int) ⊕ (List Int))
  | (d32, d33) => (if d33 < ((y23).length : Int) then ((loop (F68.b2 x5 d33) (K3, (0 : Int))).bind fun y => match y with | d45 => F68.j3 x1 x2 x3 y23 d32 d33 (d45)) else some (.inr d32))
noncomputable def F68.m (x1 : Int) (x2 : (Arr Int 16)) (x3 : Int) (x5 : List Int) (x7 : List Int) : Option ((Arr Int 32) × Int) :=
  ((F59.m (x1)).bind fun y13 => (if y13 = (0 : Int) then some (K3, (21 : Int)) else ((F57.m (x1)).bind fun y16 => (if ((x5).length : Int) = (IntKind.wrap .i64 ((36 : Int) + (IntKind.wrap .i64 ((32 : Int) * y16)))) then ((F28.m (x5) ((0 : Int)) ((4 : Int))).bind fun y19 => (if y19.1 = (IntKind.wrap .u64 x1) then (if 0 ≤ (4 : Int) ∧ (4 : Int) ≤ (36 : Int) ∧ (36 : Int) ≤ ((x5).length : Int) then ((F90.m (x1) (x2) (x3) ((subL x5 (4 : Int) (36 : Int))) (x7)).bind fun y23 => ((loop (F68.b1 x1 x2 x3 x5 y23) (([] : List Int), (0 : Int))).bind fun y => match y with | d28 => F68.j1 x2 x3 (d28))) else none) else some (K3, (21 : Int)))) else some (K3, (3 : Int))))))
set_option maxRecDepth 100000 in
set_option maxHeartbeats 4000000 in
theorem F68.spec (s4 : SlV) (s6 : SlV) (x1 : Int) (x2 : (Arr Int 16)) (x3 : Int) (x5 : List Int) (x7 : List Int) (r : ((Arr Int 32) × Int)) (hm : F68.m x1 x2 x3 x5 x7 = some r) :
    Ctr Try.prog false 68 [.int .u32 x1, .agg (((Enc.arr 16 (Enc.int .u8))).enc x2).toArray, .int .u32 x3, s4.v, s6.v] [Asr.vw (Enc.int .u8) (s4.v) x5, Asr.vw (Enc.int .u8) (s6.v) x7] (fun v L' => v = .tuple #[.agg (((Enc.arr 32 (Enc.int .u8))).enc r.1).toArray, .int .i64 r.2] ∧ L' = []) := by
  refine Ctr.intro (n := 91) (env := [(0, .int .u32 x1), (1, .agg (((Enc.arr 16 (Enc.int .u8))).enc x2).toArray), (2, .int .u32 x3), (3, s4.v), (4, s6.v)]) Try.func68 rfl rfl rfl rfl (fun c => ?_)
  unfold F68.m at hm
  refine JC.seq ?_
  refine JC.region ?_
  refine JL.mv (d := some 6) (MV.box [Seg.of (Enc.arr 16 (Enc.int .u8)) x2] rfl (fun w hs => rfl)) rfl rfl rfl ?_
  rintro _ _ ⟨b10, rfl, rfl⟩
  refine JL.mv (d := some 10) (MV.alloc [Seg.of (Enc.arr 32 (Enc.int .u8)) (Arr.rep 32 (0 : Int))] z_39 rfl) rfl rfl rfl ?_
  rintro _ _ ⟨b11, rfl, rfl⟩
  refine JL.val (v := .int .i64 (0 : Int)) (QV.assign rfl) rfl rfl rfl ?_
  refine JL.nil ?_
  refine QJ.then_normal ?_
  refine JC.seq ?_
  refine JC.region ?_
  refine JL.val (v := .agg (((Enc.arr 32 (Enc.int .u8))).enc K3).toArray) (QV.build (vals := []) (cells := ((Enc.arr 32 (Enc.int .u8)).enc K3).toArray) rfl (by kernel_rfl)) rfl rfl rfl ?_
  refine JL.mv (d := some 12) (MV.alloc [Seg.of (Enc.arr 32 (Enc.int .u8)) (Arr.rep 32 (0 : Int))] z_39 rfl) rfl rfl rfl ?_
  rintro _ _ ⟨b12, rfl, rfl⟩
  refine JL.mv (d := none) (MV.store (ss := [Seg.of (Enc.arr 32 (Enc.int .u8)) (Arr.rep 32 (0 : Int))]) 0 0 1 [Seg.of (Enc.arr 32 (Enc.int .u8)) K3] rfl tk_39 rfl rfl rfl rfl (fun w hs => ⟨rfl, one_of _ _, trivial⟩)) rfl rfl rfl ?_
  rintro _ _ ⟨rfl, rfl⟩
  refine JL.nil ?_
  refine QJ.then_normal ?_
  refine JC.seq ?_
  refine JC.seq ?_
  refine JC.region ?_
  refine JL.val (v := .int .u32 x1) (QV.move rfl) rfl rfl rfl ?_
  obtain ⟨y13, hc14, hm⟩ := bind_inv hm
  refine JL.mv (d := some 23) (MV.call (Lo := []) (Lr := [Asr.blk b12 39 [Seg.of (Enc.arr 32 (Enc.int .u8)) K3], Asr.blk b11 39 [Seg.of (Enc.arr 32 (Enc.int .u8)) (Arr.rep 32 (0 : Int))], Asr.blk b10 75 [Seg.of (Enc.arr 16 (Enc.int .u8)) x2], Asr.vw (Enc.int .u8) (s4.v) x5, Asr.vw (Enc.int .u8) (s6.v) x7]) (F59.spec (x1) _ hc14) rfl Try.func59 rfl rfl rfl [] [0, 1, 2, 3, 4] rfl rfl rfl trivial) rfl rfl rfl ?_
  rintro _ _ ⟨_, ⟨rfl, rfl⟩, rfl⟩
  refine JL.val (v := .bool (decide (y13 = (0 : Int)))) (QV.eql rfl rfl) rfl rfl rfl ?_
  refine JL.nil ?_
  refine QJ.then_normal ?_
  rcases ite_inv hm with ⟨h15, hm⟩ | ⟨h15, hm⟩
  ·
    refine JC.condT' rfl (decide_eq_true h15) ?_
    refine JC.seq ?_
    refine JC.region ?_
    refine JL.val (v := .agg (((Enc.arr 32 (Enc.int .u8))).enc K3).toArray) (QV.eq (QV.loadN (ss := [Seg.of (Enc.arr 32 (Enc.int .u8)) K3]) 0 0 1 rfl tk_39 rfl rfl rfl rfl) rfl) rfl rfl rfl ?_
    refine JL.mv (d := none) (MV.store (ss := [Seg.of (Enc.arr 32 (Enc.int .u8)) (Arr.rep 32 (0 : Int))]) 1 0 1 [Seg.of (Enc.arr 32 (Enc.int .u8)) K3] rfl tk_39 rfl rfl rfl rfl (fun w hs => ⟨rfl, one_of _ _, trivial⟩)) rfl rfl rfl ?_
    rintro _ _ ⟨rfl, rfl⟩
    refine JL.val (v := .int .i64 (21 : Int)) (QV.assign rfl) rfl rfl rfl ?_
    refine JL.nil ?_
    refine QJ.then_normal ?_
    refine JC.ret ?_
    refine QJ.then_ret ?_
    obtain rfl := Option.some.inj hm
    exact QJ.body (vs := [.agg (((Enc.arr 32 (Enc.int .u8))).enc K3).toArray, .int .i64 (21 : Int)]) (.inl rfl) rfl (ResVs.cons (ResV.cell (d := none) (ty := 0) (ps := "") (af := #[]) (g := none) rfl (QV.eq (QV.loadN (ss := [Seg.of (Enc.arr 32 (Enc.int .u8)) K3]) 1 0 1 rfl tk_39 rfl rfl rfl rfl) rfl)) (ResVs.cons (ResV.tmp rfl) ResVs.nil)) [] rfl rfl (.inr trivial) ⟨rfl, rfl⟩
  ·
    refine JC.condF' rfl (decide_eq_false h15) ?_
    refine JC.skip ?_
    refine QJ.then_normal ?_
    refine JC.seq ?_
    refine JC.seq ?_
    refine JC.region ?_
    refine JL.val (v := s4.v) (QV.move rfl) rfl rfl rfl ?_
    refine JL.val (v := .int .i64 ((x5).length : Int)) (QV.len (Rdg.vw 3 rfl) Try.underlying22 rfl) rfl rfl rfl ?_
    refine JL.val (v := .int .u32 x1) (QV.move rfl) rfl rfl rfl ?_
    obtain ⟨y16, hc17, hm⟩ := bind_inv hm
    refine JL.mv (d := some 29) (MV.call (Lo := []) (Lr := [Asr.blk b12 39 [Seg.of (Enc.arr 32 (Enc.int .u8)) K3], Asr.blk b11 39 [Seg.of (Enc.arr 32 (Enc.int .u8)) (Arr.rep 32 (0 : Int))], Asr.blk b10 75 [Seg.of (Enc.arr 16 (Enc.int .u8)) x2], Asr.vw (Enc.int .u8) (s4.v) x5, Asr.vw (Enc.int .u8) (s6.v) x7]) (F57.spec (x1) _ hc17) rfl Try.func57 rfl rfl rfl [] [0, 1, 2, 3, 4] rfl rfl rfl trivial) rfl rfl rfl ?_
    rintro _ _ ⟨_, ⟨rfl, rfl⟩, rfl⟩
    refine JL.val (v := .int .i64 (IntKind.wrap .i64 ((32 : Int) * y16))) (QV.mul rfl rfl) rfl rfl rfl ?_
    refine JL.val (v := .int .i64 (IntKind.wrap .i64 ((36 : Int) + (IntKind.wrap .i64 ((32 : Int) * y16))))) (QV.add rfl rfl) rfl rfl rfl ?_
    refine JL.val (v := .bool (!(decide (((x5).length : Int) = (IntKind.wrap .i64 ((36 : Int) + (IntKind.wrap .i64 ((32 : Int) * y16)))))))) (QV.neq rfl rfl) rfl rfl rfl ?_
    refine JL.nil ?_
    refine QJ.then_normal ?_
    rcases ite_inv hm with ⟨h18, hm⟩ | ⟨h18, hm⟩
    ·
      refine JC.condF' rfl (congrArg Bool.not (decide_eq_true h18)) ?_
      refine JC.skip ?_
      refine QJ.then_normal ?_
      refine JC.seq ?_
      refine JC.region ?_
      refine JL.val (v := s4.v) (QV.move rfl) rfl rfl rfl ?_
      obtain ⟨y19, hc20, hm⟩ := bind_inv hm
      refine JL.mv (d := some 36) (MV.call (Lo := []) (Lr := [Asr.blk b12 39 [Seg.of (Enc.arr 32 (Enc.int .u8)) K3], Asr.blk b11 39 [Seg.of (Enc.arr 32 (Enc.int .u8)) (Arr.rep 32 (0 : Int))], Asr.blk b10 75 [Seg.of (Enc.arr 16 (Enc.int .u8)) x2], Asr.vw (Enc.int .u8) (s4.v) x5, Asr.vw (Enc.int .u8) (s6.v) x7]) (F28.spec (s4) (x5) ((0 : Int)) ((4 : Int)) _ hc20) rfl Try.func28 rfl rfl rfl [] [0, 1, 2, 3, 4] rfl rfl rfl ⟨(Drv.vw 3 rfl), trivial⟩) rfl rfl rfl ?_
      rintro _ _ ⟨_, ⟨rfl, rfl⟩, rfl⟩
      refine JL.val (v := .tuple #[.int .u64 y19.1, .int .i64 y19.2]) (QV.move rfl) rfl rfl rfl ?_
      refine JL.val (v := .int .u64 y19.1) (QV.extract (vs := [.int .u64 y19.1, .int .i64 y19.2]) rfl rfl) rfl rfl rfl ?_
      refine JL.val (v := .int .i64 y19.2) (QV.extract (vs := [.int .u64 y19.1, .int .i64 y19.2]) rfl rfl) rfl rfl rfl ?_
      refine JL.val (v := .int .u64 y19.1) (QV.assign rfl) rfl rfl rfl ?_
      refine JL.val (v := .int .i64 y19.2) (QV.assign rfl) rfl rfl rfl ?_
      refine JL.nil ?_
      refine QJ.then_normal ?_
      refine JC.seq ?_
      refine JC.seq ?_
      refine JC.region ?_
      refine JL.val (v := .int .u64 y19.1) (QV.move rfl) rfl rfl rfl ?_
      refine JL.val (v := .int .u32 x1) (QV.move rfl) rfl rfl rfl ?_
      refine JL.val (v := .int .u64 (IntKind.wrap .u64 x1)) (QV.conv rfl (by rw [Try.underlying74]; rfl) Try.underlying28) rfl rfl rfl ?_
      refine JL.val (v := .bool (!(decide (y19.1 = (IntKind.wrap .u64 x1))))) (QV.neq rfl rfl) rfl rfl rfl ?_
      refine JL.nil ?_
      refine QJ.then_normal ?_
      rcases ite_inv hm with ⟨h21, hm⟩ | ⟨h21, hm⟩
      ·
        refine JC.condF' rfl (congrArg Bool.not (decide_eq_true h21)) ?_
        refine JC.skip ?_
        refine QJ.then_normal ?_
        refine JC.seq ?_
        refine JC.regionT [Asr.blk b12 39 [Seg.of (Enc.arr 32 (Enc.int .u8)) K3], Asr.blk b11 39 [Seg.of (Enc.arr 32 (Enc.int .u8)) (Arr.rep 32 (0 : Int))], Asr.blk b10 75 [Seg.of (Enc.arr 16 (Enc.int .u8)) x2], Asr.vw (Enc.int .u8) (s4.v) x5, Asr.vw (Enc.int .u8) (s6.v) x7] (fun t => false) [(0, true), (1, true), (2, true), (3, true), (4, true), (5, false), (6, false), (7, false)] (by kernel_rfl) (by kernel_rfl) (by kernel_rfl) rfl (fun hsel => ?_)
        refine JT.take (i := 0) (v := .int .u32 x1) hsel rfl (QV.move rfl) rfl rfl rfl [0, 1, 2, 3, 4] rfl rfl ?_
        refine JT.take (i := 1) (v := .agg (((Enc.arr 16 (Enc.int .u8))).enc x2).toArray) hsel rfl (QV.eq (QV.loadN (ss := [Seg.of (Enc.arr 16 (Enc.int .u8)) x2]) 2 0 1 rfl tk_75 rfl rfl rfl rfl) rfl) rfl rfl rfl [0, 1, 2, 3, 4] rfl rfl ?_
        refine JT.take (i := 2) (v := .int .u32 x3) hsel rfl (QV.move rfl) rfl rfl rfl [0, 1, 2, 3, 4] rfl rfl ?_
        refine JT.take (i := 3) (v := s4.v) hsel rfl (QV.move rfl) rfl rfl rfl [0, 1, 2, 3, 4] rfl rfl ?_
        obtain ⟨h22, hm⟩ := guard_inv hm
        refine JT.take (i := 4) (v := (SlV.sub ((Enc.int .u8)).sz s4 (4 : Int) (36 : Int)).v) hsel rfl (QV.sliceV (Rdg.vw 3 rfl) Try.underlying22 tk_5 rfl rfl rfl h22) rfl rfl rfl [0, 1, 2, 3, 4] rfl rfl ?_
        refine JT.only (i := 5) (d := some 49) rfl (MV.ofQV (v := s6.v) (QV.move rfl)) rfl rfl rfl ?_
        rintro _ _ ⟨rfl, rfl⟩
        refine ⟨fun _ => ⟨[0, 1, 2, 3, 4], rfl, rfl⟩, ?_⟩
        obtain ⟨y23, hc24, hm⟩ := bind_inv hm
        refine JT.only (i := 6) (d := some 50) rfl (MV.call (Lo := []) (Lr := [Asr.blk b12 39 [Seg.of (Enc.arr 32 (Enc.int .u8)) K3], Asr.blk b11 39 [Seg.of (Enc.arr 32 (Enc.int .u8)) (Arr.rep 32 (0 : Int))], Asr.blk b10 75 [Seg.of (Enc.arr 16 (Enc.int .u8)) x2], Asr.vw (Enc.int .u8) (s4.v) x5, Asr.vw (Enc.int .u8) (s6.v) x7]) (F90.spec ((SlV.sub ((Enc.int .u8)).sz s4 (4 : Int) (36 : Int))) (s6) (x1) (x2) (x3) ((subL x5 (4 : Int) (36 : Int))) (x7) _ hc24) rfl Try.func90 rfl rfl rfl [] [0, 1, 2, 3, 4] rfl rfl rfl ⟨((Drv.vw 3 rfl).subV h22), ⟨(Drv.vw 4 rfl), trivial⟩⟩) rfl rfl rfl ?_
        rintro _ _ ⟨_, ⟨z25, rfl, rfl⟩, rfl⟩
        refine ⟨fun _ => ⟨[1, 2, 3, 4, 5], rfl, rfl⟩, ?_⟩
        refine JT.grow [Asr.of 3 (Enc.int .i64) (z25.v) y23, Asr.blk b12 39 [Seg.of (Enc.arr 32 (Enc.int .u8)) K3], Asr.blk b11 39 [Seg.of (Enc.arr 32 (Enc.int .u8)) (Arr.rep 32 (0 : Int))], Asr.blk b10 75 [Seg.of (Enc.arr 16 (Enc.int .u8)) x2], Asr.vw (Enc.int .u8) (s4.v) x5, Asr.vw (Enc.int .u8) (s6.v) x7] [1, 2, 3, 4, 5] rfl rfl ?_
        refine JT.only (i := 7) (d := some 15) rfl (MV.ofQV (v := z25.v) (QV.assign rfl)) rfl rfl rfl ?_
        rintro _ _ ⟨rfl, rfl⟩
        refine ⟨fun _ => ⟨[0, 1, 2, 3, 4, 5], rfl, rfl⟩, ?_⟩
        refine JT.nil ?_
        refine QJ.then_normal ?_
        refine JC.seq ?_
        refine JC.region ?_
        refine JL.mv (d := some 51) (MV.lit0 (Enc.int .u8) Try.underlying22 (by kernel_rfl)) rfl rfl rfl ?_
        rintro _ _ ⟨z26, rfl, rfl⟩
        refine JL.val (v := z26.v) (QV.assign rfl) rfl rfl rfl ?_
        refine JL.nil ?_
        refine QJ.then_normal ?_
        refine JC.seq ?_
        refine JC.seq ?_
        refine JC.region ?_
        refine JL.val (v := z25.v) (QV.move rfl) rfl rfl rfl ?_
        refine JL.val (v := .int .i64 ((y23).length : Int)) (QV.len (Rdg.of 1 rfl) Try.underlying24 rfl) rfl rfl rfl ?_
        refine JL.val (v := .int .i64 (0 : Int)) (QV.move rfl) rfl rfl rfl ?_
        refine JL.nil ?_
        refine QJ.then_normal ?_
        refine JC.cutK (Y := (List Int) × SlV) (fun y => match y with | (d28, _) => F68.j1 x2 x3 (d28) = some r) (fun y => match y with | (d28, z27) => [(2, .int .u32 x3), (6, .pointer (some ⟨b10, 0, none⟩)), (10, .pointer (some ⟨b11, 0, none⟩)), (16, z27.v)]) (fun y => match y with | (d28, z27) => [Asr.blk b10 75 [Seg.of (Enc.arr 16 (Enc.int .u8)) x2], Asr.blk b11 39 [Seg.of (Enc.arr 32 (Enc.int .u8)) (Arr.rep 32 (0 : Int))], Asr.of 5 (Enc.int .u8) (z27.v) d28]) ?_ ?_
        ·
          rintro ⟨d28, z27⟩ hm
          unfold F68.j1 at hm
          show QJ _ _ [(2, .int .u32 x3), (6, .pointer (some ⟨b10, 0, none⟩)), (10, .pointer (some ⟨b11, 0, none⟩)), (16, z27.v)] [Asr.blk b10 75 [Seg.of (Enc.arr 16 (Enc.int .u8)) x2], Asr.blk b11 39 [Seg.of (Enc.arr 32 (Enc.int .u8)) (Arr.rep 32 (0 : Int))], Asr.of 5 (Enc.int .u8) (z27.v) d28] _ _
          refine QJ.then_normal ?_
          refine JC.seq ?_
          refine JC.region ?_
          refine JL.val (v := .agg (((Enc.arr 16 (Enc.int .u8))).enc x2).toArray) (QV.eq (QV.loadN (ss := [Seg.of (Enc.arr 16 (Enc.int .u8)) x2]) 0 0 1 rfl tk_75 rfl rfl rfl rfl) rfl) rfl rfl rfl ?_
          refine JL.val (v := .int .u32 x3) (QV.move rfl) rfl rfl rfl ?_
          refine JL.val (v := z27.v) (QV.move rfl) rfl rfl rfl ?_
          obtain ⟨y29, hc30, hm⟩ := bind_inv hm
          refine JL.mv (d := some 90) (MV.call (Lo := []) (Lr := [Asr.blk b10 75 [Seg.of (Enc.arr 16 (Enc.int .u8)) x2], Asr.blk b11 39 [Seg.of (Enc.arr 32 (Enc.int .u8)) (Arr.rep 32 (0 : Int))], Asr.of 5 (Enc.int .u8) (z27.v) d28]) (F88.spec (z27) (x2) (x3) (d28) _ hc30) rfl Try.func88 rfl rfl rfl [] [0, 1, 2] rfl rfl rfl ⟨(Drv.of 2 rfl), trivial⟩) rfl rfl rfl ?_
          rintro _ _ ⟨_, ⟨rfl, rfl⟩, rfl⟩
          refine JL.mv (d := none) (MV.store (ss := [Seg.of (Enc.arr 32 (Enc.int .u8)) (Arr.rep 32 (0 : Int))]) 1 0 1 [Seg.of (Enc.arr 32 (Enc.int .u8)) y29] rfl tk_39 rfl rfl rfl rfl (fun w hs => ⟨rfl, one_of _ _, trivial⟩)) rfl rfl rfl ?_
          rintro _ _ ⟨rfl, rfl⟩
          refine JL.val (v := .int .i64 (0 : Int)) (QV.assign rfl) rfl rfl rfl ?_
          refine JL.nil ?_
          refine QJ.then_normal ?_
          refine JC.ret ?_
          obtain rfl := Option.some.inj hm
          exact QJ.body (vs := [.agg (((Enc.arr 32 (Enc.int .u8))).enc y29).toArray, .int .i64 (0 : Int)]) (.inl rfl) rfl (ResVs.cons (ResV.cell (d := none) (ty := 0) (ps := "") (af := #[]) (g := none) rfl (QV.eq (QV.loadN (ss := [Seg.of (Enc.arr 32 (Enc.int .u8)) y29]) 1 0 1 rfl tk_39 rfl rfl rfl rfl) rfl)) (ResVs.cons (ResV.tmp rfl) ResVs.nil)) [] rfl rfl (.inr trivial) ⟨rfl, rfl⟩
        ·
          refine JC.block ?_
          obtain ⟨y37, hl38, hmo39⟩ := bind_inv hm
          refine JC.loop (F68.b1 x1 x2 x3 x5 y23) (fun x z => match x, z with | (d32, d33), z31 => [(0, .int .u32 x1), (2, .int .u32 x3), (3, s4.v), (6, .pointer (some ⟨b10, 0, none⟩)), (10, .pointer (some ⟨b11, 0, none⟩)), (15, z25.v), (16, z31.v), (53, .int .i64 ((y23).length : Int)), (54, .int .i64 d33)]) (fun x z => match x, z with | (d32, d33), z31 => [Asr.vw (Enc.int .u8) (s4.v) x5, Asr.blk b10 75 [Seg.of (Enc.arr 16 (Enc.int .u8)) x2], Asr.blk b11 39 [Seg.of (Enc.arr 32 (Enc.int .u8)) (Arr.rep 32 (0 : Int))], Asr.of 3 (Enc.int .i64) (z25.v) y23, Asr.of 5 (Enc.int .u8) (z31.v) d32]) (([] : List Int), (0 : Int)) z26 y37 hl38 [5, 4, 3, 1, 0] (by exact ⟨rfl, rfl, rfl, rfl, rfl, rfl, rfl, rfl, rfl, trivial⟩) rfl rfl ?_
          rintro ⟨d32, d33⟩ z31 s40 hm
          unfold F68.b1 at hm
          dsimp only at hm
          show JC _ _ _ [(0, .int .u32 x1), (2, .int .u32 x3), (3, s4.v), (6, .pointer (some ⟨b10, 0, none⟩)), (10, .pointer (some ⟨b11, 0, none⟩)), (15, z25.v), (16, z31.v), (53, .int .i64 ((y23).length : Int)), (54, .int .i64 d33)] [Asr.vw (Enc.int .u8) (s4.v) x5, Asr.blk b10 75 [Seg.of (Enc.arr 16 (Enc.int .u8)) x2], Asr.blk b11 39 [Seg.of (Enc.arr 32 (Enc.int .u8)) (Arr.rep 32 (0 : Int))], Asr.of 3 (Enc.int .i64) (z25.v) y23, Asr.of 5 (Enc.int .u8) (z31.v) d32] _ _
          refine JC.seq ?_
          refine JC.region ?_
          refine JL.val (v := .bool (decide (d33 < ((y23).length : Int)))) (QV.lss rfl rfl) rfl rfl rfl ?_
          refine JL.nil ?_
          refine QJ.then_normal ?_
          refine JC.seq ?_
          rcases ite_inv hm with ⟨h41, hm⟩ | ⟨h41, hm⟩
          ·
            refine JC.condT' rfl (decide_eq_true h41) ?_
            refine JC.skip ?_
            refine QJ.then_normal ?_
            refine JC.seq ?_
            refine JC.cutK (Y := (List Int) × SlV) (fun y => match y with | (d43, _) => F68.j2 d33 (d43) = some s40) (fun y => match y with | (d43, z42) => [(0, .int .u32 x1), (2, .int .u32 x3), (3, s4.v), (6, .pointer (some ⟨b10, 0, none⟩)), (10, .pointer (some ⟨b11, 0, none⟩)), (15, z25.v), (16, z42.v), (53, .int .i64 ((y23).length : Int)), (54, .int .i64 d33)]) (fun y => match y with | (d43, z42) => [Asr.vw (Enc.int .u8) (s4.v) x5, Asr.blk b10 75 [Seg.of (Enc.arr 16 (Enc.int .u8)) x2], Asr.blk b11 39 [Seg.of (Enc.arr 32 (Enc.int .u8)) (Arr.rep 32 (0 : Int))], Asr.of 3 (Enc.int .i64) (z25.v) y23, Asr.of 5 (Enc.int .u8) (z42.v) d43]) ?_ ?_
            ·
              rintro ⟨d43, z42⟩ hm
              unfold F68.j2 at hm
              show QJ _ _ [(0, .int .u32 x1), (2, .int .u32 x3), (3, s4.v), (6, .pointer (some ⟨b10, 0, none⟩)), (10, .pointer (some ⟨b11, 0, none⟩)), (15, z25.v), (16, z42.v), (53, .int .i64 ((y23).length : Int)), (54, .int .i64 d33)] [Asr.vw (Enc.int .u8) (s4.v) x5, Asr.blk b10 75 [Seg.of (Enc.arr 16 (Enc.int .u8)) x2], Asr.blk b11 39 [Seg.of (Enc.arr 32 (Enc.int .u8)) (Arr.rep 32 (0 : Int))], Asr.of 3 (Enc.int .i64) (z25.v) y23, Asr.of 5 (Enc.int .u8) (z42.v) d43] _ _
              refine QJ.then_normal ?_
              refine JC.region ?_
              refine JL.val (v := .int .i64 (IntKind.wrap .i64 (d33 + (1 : Int)))) (QV.add rfl rfl) rfl rfl rfl ?_
              refine JL.val (v := .int .i64 (IntKind.wrap .i64 (d33 + (1 : Int)))) (QV.move rfl) rfl rfl rfl ?_
              refine JL.nil ?_
              obtain rfl := Option.some.inj hm
              exact QJ.round_on (d43, (IntKind.wrap .i64 (d33 + (1 : Int)))) z42 [0, 1, 2, 3, 4] (by exact ⟨rfl, rfl, rfl, rfl, rfl, rfl, rfl, rfl, rfl, trivial⟩) rfl rfl
            ·
              refine JC.block ?_
              refine JC.seq ?_
              refine JC.region ?_
              refine JL.val (v := .int .i64 d33) (QV.move rfl) rfl rfl rfl ?_
              refine JL.val (v := .int .i64 d33) (QV.assign rfl) rfl rfl rfl ?_
              refine JL.nil ?_
              refine QJ.then_normal ?_
              refine JC.seq ?_
              refine JC.region ?_
              refine JL.val (v := .agg (((Enc.arr 32 (Enc.int .u8))).enc K3).toArray) (QV.build (vals := []) (cells := ((Enc.arr 32 (Enc.int .u8)).enc K3).toArray) rfl (by kernel_rfl)) rfl rfl rfl ?_
              refine JL.mv (d := some 18) (MV.alloc [Seg.of (Enc.arr 32 (Enc.int .u8)) (Arr.rep 32 (0 : Int))] z_39 rfl) rfl rfl rfl ?_
              rintro _ _ ⟨b44, rfl, rfl⟩
              refine JL.mv (d := none) (MV.store (ss := [Seg.of (Enc.arr 32 (Enc.int .u8)) (Arr.rep 32 (0 : Int))]) 0 0 1 [Seg.of (Enc.arr 32 (Enc.int .u8)) K3] rfl tk_39 rfl rfl rfl rfl (fun w hs => ⟨rfl, one_of _ _, trivial⟩)) rfl rfl rfl ?_
              rintro _ _ ⟨rfl, rfl⟩
              refine JL.nil ?_
              refine QJ.then_normal ?_
              refine JC.seq ?_
              refine JC.seq ?_
              refine JC.region ?_
              refine JL.val (v := .int .i64 (0 : Int)) (QV.assign rfl) rfl rfl rfl ?_
              refine JL.nil ?_
              refine QJ.then_normal ?_
              refine JC.cutK (Y := (Arr Int 32) × Unit) (fun y => match y with | (d45, _) => F68.j3 x1 x2 x3 y23 d32 d33 (d45) = some s40) (fun y => match y with | (d45, _) => [(0, .int .u32 x1), (2, .int .u32 x3), (3, s4.v), (6, .pointer (some ⟨b10, 0, none⟩)), (10, .pointer (some ⟨b11, 0, none⟩)), (15, z25.v), (16, z31.v), (17, .int .i64 d33), (18, .pointer (some ⟨b44, 0, none⟩)), (53, .int .i64 ((y23).length : Int)), (54, .int .i64 d33)]) (fun y => match y with | (d45, _) => [Asr.vw (Enc.int .u8) (s4.v) x5, Asr.blk b10 75 [Seg.of (Enc.arr 16 (Enc.int .u8)) x2], Asr.blk b11 39 [Seg.of (Enc.arr 32 (Enc.int .u8)) (Arr.rep 32 (0 : Int))], Asr.of 3 (Enc.int .i64) (z25.v) y23, Asr.of 5 (Enc.int .u8) (z31.v) d32, Asr.blk b44 39 [Seg.of (Enc.arr 32 (Enc.int .u8)) d45]]) ?_ ?_
              ·
                rintro ⟨d45, ⟨⟩⟩ hm
                unfold F68.j3 at hm
                show QJ _ _ [(0, .int .u32 x1), (2, .int .u32 x3), (3, s4.v), (6, .pointer (some ⟨b10, 0, none⟩)), (10, .pointer (some ⟨b11, 0, none⟩)), (15, z25.v), (16, z31.v), (17, .int .i64 d33), (18, .pointer (some ⟨b44, 0, none⟩)), (53, .int .i64 ((y23).length : Int)), (54, .int .i64 d33)] [Asr.vw (Enc.int .u8) (s4.v) x5, Asr.blk b10 75 [Seg.of (Enc.arr 16 (Enc.int .u8)) x2], Asr.blk b11 39 [Seg.of (Enc.arr 32 (Enc.int .u8)) (Arr.rep 32 (0 : Int))], Asr.of 3 (Enc.int .i64) (z25.v) y23, Asr.of 5 (Enc.int .u8) (z31.v) d32, Asr.blk b44 39 [Seg.of (Enc.arr 32 (Enc.int .u8)) d45]] _ _
                refine QJ.then_normal ?_
                refine JC.seq ?_
                obtain ⟨h46, hm⟩ := guard_inv hm
                obtain ⟨y47, hc48, hm⟩ := bind_inv hm
                obtain ⟨y49, hc50, hm⟩ := bind_inv hm
                refine JC.cutK (Y := Unit × Nat) (fun y => match y with | (_, _) => F68.j4 d32 d33 y49 = some s40) (fun y => match y with | (_, z52) => [(0, .int .u32 x1), (2, .int .u32 x3), (3, s4.v), (6, .pointer (some ⟨b10, 0, none⟩)), (10, .pointer (some ⟨b11, 0, none⟩)), (15, z25.v), (16, z31.v), (20, .pointer (some ⟨z52, 0, none⟩)), (53, .int .i64 ((y23).length : Int)), (54, .int .i64 d33)]) (fun y => match y with | (_, z52) => [Asr.vw (Enc.int .u8) (s4.v) x5, Asr.blk b10 75 [Seg.of (Enc.arr 16 (Enc.int .u8)) x2], Asr.blk b11 39 [Seg.of (Enc.arr 32 (Enc.int .u8)) (Arr.rep 32 (0 : Int))], Asr.of 3 (Enc.int .i64) (z25.v) y23, Asr.of 5 (Enc.int .u8) (z31.v) d32, Asr.blk z52 39 [Seg.of (Enc.arr 32 (Enc.int .u8)) y49]]) ?_ ?_
                ·
                  rintro ⟨⟨⟩, z52⟩ hm
                  unfold F68.j4 at hm
                  show QJ _ _ [(0, .int .u32 x1), (2, .int .u32 x3), (3, s4.v), (6, .pointer (some ⟨b10, 0, none⟩)), (10, .pointer (some ⟨b11, 0, none⟩)), (15, z25.v), (16, z31.v), (20, .pointer (some ⟨z52, 0, none⟩)), (53, .int .i64 ((y23).length : Int)), (54, .int .i64 d33)] [Asr.vw (Enc.int .u8) (s4.v) x5, Asr.blk b10 75 [Seg.of (Enc.arr 16 (Enc.int .u8)) x2], Asr.blk b11 39 [Seg.of (Enc.arr 32 (Enc.int .u8)) (Arr.rep 32 (0 : Int))], Asr.of 3 (Enc.int .i64) (z25.v) y23, Asr.of 5 (Enc.int .u8) (z31.v) d32, Asr.blk z52 39 [Seg.of (Enc.arr 32 (Enc.int .u8)) y49]] _ _
                  refine QJ.then_normal ?_
                  refine JC.region ?_
                  refine JL.val (v := z31.v) (QV.move rfl) rfl rfl rfl ?_
                  refine JL.val (v := (SlV.sub ((Enc.int .u8)).sz (SlV.mk (some ⟨z52, 0, none⟩) 32 32) (0 : Int) ((32 : Nat) : Int)).v) (QV.sliceB Try.underlying39 tk_5 rfl rfl rfl (by decide)) rfl rfl rfl ?_
                  obtain ⟨h53, hm⟩ := guard_inv hm
                  refine JL.mv (d := some 85) (MV.append 4 rfl (Rdg.ofDrv ((Drv.arr (ss := [Seg.of (Enc.arr 32 (Enc.int .u8)) y49]) 5 0 rfl rfl rfl rfl).subV (by rw [Arr.h]; exact (show 0 ≤ (0 : Int) ∧ (0 : Int) ≤ ((32 : Nat) : Int) ∧ ((32 : Nat) : Int) ≤ ((32 : Nat) : Int) from by decide)))) Try.underlying22 zi_5 rfl (by decide) rfl rfl h53) rfl rfl rfl ?_
                  rintro _ _ ⟨z54, rfl, rfl⟩
                  refine JL.val (v := z54.v) (QV.assign rfl) rfl rfl rfl ?_
                  refine JL.nil ?_
                  refine QJ.block_normal ?_
                  exact QJ.cut_normal ((d32 ++ (subL (y49).l (0 : Int) ((32 : Nat) : Int))), z54) hm [0, 1, 2, 3, 4] (by exact ⟨rfl, rfl, rfl, rfl, rfl, rfl, rfl, rfl, rfl, trivial⟩) rfl rfl
                ·
                  refine JC.regionU [Asr.vw (Enc.int .u8) (s4.v) x5, Asr.blk b10 75 [Seg.of (Enc.arr 16 (Enc.int .u8)) x2], Asr.blk b11 39 [Seg.of (Enc.arr 32 (Enc.int .u8)) (Arr.rep 32 (0 : Int))], Asr.of 3 (Enc.int .i64) (z25.v) y23, Asr.of 5 (Enc.int .u8) (z31.v) d32, Asr.blk b44 39 [Seg.of (Enc.arr 32 (Enc.int .u8)) d45]] (fun _ => false) 13 rfl (by kernel_rfl) (by kernel_rfl) (fun hsel => ?_)
                  refine JU.take (i := 0) (v := .agg (((Enc.arr 16 (Enc.int .u8))).enc x2).toArray) hsel rfl (by kernel_rfl) (QV.eq (QV.loadN (ss := [Seg.of (Enc.arr 16 (Enc.int .u8)) x2]) 1 0 1 rfl tk_75 rfl rfl rfl rfl) rfl) rfl rfl rfl [0, 1, 2, 3, 4, 5] rfl rfl ?_
                  refine JU.take (i := 1) (v := .int .u32 x3) hsel rfl (by kernel_rfl) (QV.move rfl) rfl rfl rfl [0, 1, 2, 3, 4, 5] rfl rfl ?_
                  refine JU.take (i := 2) (v := .int .i64 d33) hsel rfl (by kernel_rfl) (QV.move rfl) rfl rfl rfl [0, 1, 2, 3, 4, 5] rfl rfl ?_
                  refine JU.take (i := 3) (v := z25.v) hsel rfl (by kernel_rfl) (QV.move rfl) rfl rfl rfl [0, 1, 2, 3, 4, 5] rfl rfl ?_
                  refine JU.take (i := 4) (v := .int .i64 d33) hsel rfl (by kernel_rfl) (QV.move rfl) rfl rfl rfl [0, 1, 2, 3, 4, 5] rfl rfl ?_
                  refine JU.take (i := 5) (v := .pointer (some (elA (z25.v) (Int.toNat d33 * ((Enc.int .i64)).sz)))) hsel rfl (by kernel_rfl) (QV.indexA (Rdg.of 3 rfl) Try.underlying24 tk_3 rfl rfl h46) rfl rfl rfl [0, 1, 2, 3, 4, 5] rfl rfl ?_
                  refine JU.take (i := 6) (v := .int .i64 (gd y23 d33)) hsel rfl (by kernel_rfl) (QV.el1 (Rdg.of 3 rfl) tk_3 rfl h46 rfl) rfl rfl rfl [0, 1, 2, 3, 4, 5] rfl rfl ?_
                  refine JU.take (i := 7) (v := .int .u32 x1) hsel rfl (by kernel_rfl) (QV.move rfl) rfl rfl rfl [0, 1, 2, 3, 4, 5] rfl rfl ?_
                  refine JU.take (i := 9) (v := .agg (((Enc.arr 32 (Enc.int .u8))).enc d45).toArray) hsel rfl (by kernel_rfl) (QV.eq (QV.loadN (ss := [Seg.of (Enc.arr 32 (Enc.int .u8)) d45]) 5 0 1 rfl tk_39 rfl rfl rfl rfl) rfl) rfl rfl rfl [0, 1, 2, 3, 4, 5] rfl rfl ?_
                  refine JU.any [8, 11] (by kernel_rfl) rfl ?_
                  refine ⟨?_, ?_, trivial⟩
                  ·
                    refine JUo.mv (d := some 80) rfl (MV.call (Lo := []) (Lr := [Asr.vw (Enc.int .u8) (s4.v) x5, Asr.blk b10 75 [Seg.of (Enc.arr 16 (Enc.int .u8)) x2], Asr.blk b11 39 [Seg.of (Enc.arr 32 (Enc.int .u8)) (Arr.rep 32 (0 : Int))], Asr.of 3 (Enc.int .i64) (z25.v) y23, Asr.of 5 (Enc.int .u8) (z31.v) d32, Asr.blk b44 39 [Seg.of (Enc.arr 32 (Enc.int .u8)) d45]]) (F86.spec (x1) _ hc48) rfl Try.func86 rfl rfl rfl [] [0, 1, 2, 3, 4, 5] rfl rfl rfl trivial) rfl rfl rfl ?_
                    rintro _ _ ⟨_, ⟨rfl, rfl⟩, rfl⟩
                    refine ⟨fun _ => ⟨[0, 1, 2, 3, 4, 5], rfl, rfl⟩, ?_⟩
                    refine JU.any [10, 11] (by kernel_rfl) rfl ?_
                    refine ⟨?_, ?_, trivial⟩
                    ·
                      refine JUo.mv (d := some 82) rfl (MV.call (Lo := []) (Lr := [Asr.vw (Enc.int .u8) (s4.v) x5, Asr.blk b10 75 [Seg.of (Enc.arr 16 (Enc.int .u8)) x2], Asr.blk b11 39 [Seg.of (Enc.arr 32 (Enc.int .u8)) (Arr.rep 32 (0 : Int))], Asr.of 3 (Enc.int .i64) (z25.v) y23, Asr.of 5 (Enc.int .u8) (z31.v) d32, Asr.blk b44 39 [Seg.of (Enc.arr 32 (Enc.int .u8)) d45]]) (F85.spec (x2) (x3) (d33) ((gd y23 d33)) (y47) (d45) _ hc50) rfl Try.func85 rfl rfl rfl [] [0, 1, 2, 3, 4, 5] rfl rfl rfl trivial) rfl rfl rfl ?_
                      rintro _ _ ⟨_, ⟨rfl, rfl⟩, rfl⟩
                      refine ⟨fun _ => ⟨[0, 1, 2, 3, 4, 5], rfl, rfl⟩, ?_⟩
                      refine JU.any [11] (by kernel_rfl) rfl ?_
                      refine ⟨?_, trivial⟩
                      refine JUo.mv (d := some 20) rfl (MV.alloc [Seg.of (Enc.arr 32 (Enc.int .u8)) (Arr.rep 32 (0 : Int))] z_39 rfl) rfl rfl rfl ?_
                      rintro _ _ ⟨b55, rfl, rfl⟩
                      refine ⟨fun _ => ⟨[1, 2, 3, 4, 5, 6], rfl, rfl⟩, ?_⟩
                      refine JU.any [12] (by kernel_rfl) rfl ?_
                      refine ⟨?_, trivial⟩
                      refine JUo.mv (d := none) rfl (MV.store (ss := [Seg.of (Enc.arr 32 (Enc.int .u8)) (Arr.rep 32 (0 : Int))]) 0 0 1 [Seg.of (Enc.arr 32 (Enc.int .u8)) y49] rfl tk_39 rfl rfl rfl rfl (fun w hs => ⟨rfl, one_of _ _, trivial⟩)) rfl rfl rfl ?_
                      rintro _ _ ⟨rfl, rfl⟩
                      refine ⟨fun _ => ⟨[1, 2, 3, 4, 5, 6], rfl, rfl⟩, ?_⟩
                      refine JU.nil (by kernel_rfl) ?_
                      exact QJ.cut_normal ((), b55) hm [1, 2, 3, 4, 5, 0] (by exact ⟨rfl, rfl, rfl, rfl, rfl, rfl, rfl, rfl, rfl, rfl, trivial⟩) rfl rfl
                    ·
                      refine JUo.mv (d := some 20) rfl (MV.alloc [Seg.of (Enc.arr 32 (Enc.int .u8)) (Arr.rep 32 (0 : Int))] z_39 rfl) rfl rfl rfl ?_
                      rintro _ _ ⟨b56, rfl, rfl⟩
                      refine ⟨fun _ => ⟨[1, 2, 3, 4, 5, 6], rfl, rfl⟩, ?_⟩
                      refine JU.any [10] (by kernel_rfl) rfl ?_
                      refine ⟨?_, trivial⟩
                      refine JUo.mv (d := some 82) rfl (MV.call (Lo := []) (Lr := [Asr.blk b56 39 [Seg.of (Enc.arr 32 (Enc.int .u8)) (Arr.rep 32 (0 : Int))], Asr.vw (Enc.int .u8) (s4.v) x5, Asr.blk b10 75 [Seg.of (Enc.arr 16 (Enc.int .u8)) x2], Asr.blk b11 39 [Seg.of (Enc.arr 32 (Enc.int .u8)) (Arr.rep 32 (0 : Int))], Asr.of 3 (Enc.int .i64) (z25.v) y23, Asr.of 5 (Enc.int .u8) (z31.v) d32, Asr.blk b44 39 [Seg.of (Enc.arr 32 (Enc.int .u8)) d45]]) (F85.spec (x2) (x3) (d33) ((gd y23 d33)) (y47) (d45) _ hc50) rfl Try.func85 rfl rfl rfl [] [0, 1, 2, 3, 4, 5, 6] rfl rfl rfl trivial) rfl rfl rfl ?_
                      rintro _ _ ⟨_, ⟨rfl, rfl⟩, rfl⟩
                      refine ⟨fun _ => ⟨[1, 2, 3, 4, 5, 6], rfl, rfl⟩, ?_⟩
                      refine JU.any [12] (by kernel_rfl) rfl ?_
                      refine ⟨?_, trivial⟩
                      refine JUo.mv (d := none) rfl (MV.store (ss := [Seg.of (Enc.arr 32 (Enc.int .u8)) (Arr.rep 32 (0 : Int))]) 0 0 1 [Seg.of (Enc.arr 32 (Enc.int .u8)) y49] rfl tk_39 rfl rfl rfl rfl (fun w hs => ⟨rfl, one_of _ _, trivial⟩)) rfl rfl rfl ?_
                      rintro _ _ ⟨rfl, rfl⟩
                      refine ⟨fun _ => ⟨[1, 2, 3, 4, 5, 6], rfl, rfl⟩, ?_⟩
                      refine JU.nil (by kernel_rfl) ?_
                      exact QJ.cut_normal ((), b56) hm [1, 2, 3, 4, 5, 0] (by exact ⟨rfl, rfl, rfl, rfl, rfl, rfl, rfl, rfl, rfl, rfl, trivial⟩) rfl rfl
                  ·
                    refine JUo.mv (d := some 20) rfl (MV.alloc [Seg.of (Enc.arr 32 (Enc.int .u8)) (Arr.rep 32 (0 : Int))] z_39 rfl) rfl rfl rfl ?_
                    rintro _ _ ⟨b57, rfl, rfl⟩
                    refine ⟨fun _ => ⟨[1, 2, 3, 4, 5, 6], rfl, rfl⟩, ?_⟩
                    refine JU.any [8] (by kernel_rfl) rfl ?_
                    refine ⟨?_, trivial⟩
                    refine JUo.mv (d := some 80) rfl (MV.call (Lo := []) (Lr := [Asr.blk b57 39 [Seg.of (Enc.arr 32 (Enc.int .u8)) (Arr.rep 32 (0 : Int))], Asr.vw (Enc.int .u8) (s4.v) x5, Asr.blk b10 75 [Seg.of (Enc.arr 16 (Enc.int .u8)) x2], Asr.blk b11 39 [Seg.of (Enc.arr 32 (Enc.int .u8)) (Arr.rep 32 (0 : Int))], Asr.of 3 (Enc.int .i64) (z25.v) y23, Asr.of 5 (Enc.int .u8) (z31.v) d32, Asr.blk b44 39 [Seg.of (Enc.arr 32 (Enc.int .u8)) d45]]) (F86.spec (x1) _ hc48) rfl Try.func86 rfl rfl rfl [] [0, 1, 2, 3, 4, 5, 6] rfl rfl rfl trivial) rfl rfl rfl ?_
                    rintro _ _ ⟨_, ⟨rfl, rfl⟩, rfl⟩
                    refine ⟨fun _ => ⟨[1, 2, 3, 4, 5, 6], rfl, rfl⟩, ?_⟩
                    refine JU.any [10] (by kernel_rfl) rfl ?_
                    refine ⟨?_, trivial⟩
                    refine JUo.mv (d := some 82) rfl (MV.call (Lo := []) (Lr := [Asr.blk b57 39 [Seg.of (Enc.arr 32 (Enc.int .u8)) (Arr.rep 32 (0 : Int))], Asr.vw (Enc.int .u8) (s4.v) x5, Asr.blk b10 75 [Seg.of (Enc.arr 16 (Enc.int .u8)) x2], Asr.blk b11 39 [Seg.of (Enc.arr 32 (Enc.int .u8)) (Arr.rep 32 (0 : Int))], Asr.of 3 (Enc.int .i64) (z25.v) y23, Asr.of 5 (Enc.int .u8) (z31.v) d32, Asr.blk b44 39 [Seg.of (Enc.arr 32 (Enc.int .u8)) d45]]) (F85.spec (x2) (x3) (d33) ((gd y23 d33)) (y47) (d45) _ hc50) rfl Try.func85 rfl rfl rfl [] [0, 1, 2, 3, 4, 5, 6] rfl rfl rfl trivial) rfl rfl rfl ?_
                    rintro _ _ ⟨_, ⟨rfl, rfl⟩, rfl⟩
                    refine ⟨fun _ => ⟨[1, 2, 3, 4, 5, 6], rfl, rfl⟩, ?_⟩
                    refine JU.any [12] (by kernel_rfl) rfl ?_
                    refine ⟨?_, trivial⟩
                    refine JUo.mv (d := none) rfl (MV.store (ss := [Seg.of (Enc.arr 32 (Enc.int .u8)) (Arr.rep 32 (0 : Int))]) 0 0 1 [Seg.of (Enc.arr 32 (Enc.int .u8)) y49] rfl tk_39 rfl rfl rfl rfl (fun w hs => ⟨rfl, one_of _ _, trivial⟩)) rfl rfl rfl ?_
                    rintro _ _ ⟨rfl, rfl⟩
                    refine ⟨fun _ => ⟨[1, 2, 3, 4, 5, 6], rfl, rfl⟩, ?_⟩
                    refine JU.nil (by kernel_rfl) ?_
                    exact QJ.cut_normal ((), b57) hm [1, 2, 3, 4, 5, 0] (by exact ⟨rfl, rfl, rfl, rfl, rfl, rfl, rfl, rfl, rfl, rfl, trivial⟩) rfl rfl
              ·
                refine JC.block ?_
                obtain ⟨y62, hl63, hmo64⟩ := bind_inv hm
                refine JC.loop (F68.b2 x5 d33) (fun x z => match x, z with | (d58, d59), _ => [(0, .int .u32 x1), (2, .int .u32 x3), (3, s4.v), (6, .pointer (some ⟨b10, 0, none⟩)), (10, .pointer (some ⟨b11, 0, none⟩)), (15, z25.v), (16, z31.v), (17, .int .i64 d33), (18, .pointer (some ⟨b44, 0, none⟩)), (19, .int .i64 d59), (53, .int .i64 ((y23).length : Int)), (54, .int .i64 d33)]) (fun x z => match x, z with | (d58, d59), _ => [Asr.vw (Enc.int .u8) (s4.v) x5, Asr.blk b10 75 [Seg.of (Enc.arr 16 (Enc.int .u8)) x2], Asr.blk b11 39 [Seg.of (Enc.arr 32 (Enc.int .u8)) (Arr.rep 32 (0 : Int))], Asr.of 3 (Enc.int .i64) (z25.v) y23, Asr.of 5 (Enc.int .u8) (z31.v) d32, Asr.blk b44 39 [Seg.of (Enc.arr 32 (Enc.int .u8)) d58]]) (K3, (0 : Int)) () y62 hl63 [1, 2, 3, 4, 5, 0] (by exact ⟨rfl, rfl, rfl, rfl, rfl, rfl, rfl, rfl, rfl, rfl, rfl, rfl, trivial⟩) rfl rfl ?_
                rintro ⟨d58, d59⟩ ⟨⟩ s65 hm
                unfold F68.b2 at hm
                dsimp only at hm
                show JC _ _ _ [(0, .int .u32 x1), (2, .int .u32 x3), (3, s4.v), (6, .pointer (some ⟨b10, 0, none⟩)), (10, .pointer (some ⟨b11, 0, none⟩)), (15, z25.v), (16, z31.v), (17, .int .i64 d33), (18, .pointer (some ⟨b44, 0, none⟩)), (19, .int .i64 d59), (53, .int .i64 ((y23).length : Int)), (54, .int .i64 d33)] [Asr.vw (Enc.int .u8) (s4.v) x5, Asr.blk b10 75 [Seg.of (Enc.arr 16 (Enc.int .u8)) x2], Asr.blk b11 39 [Seg.of (Enc.arr 32 (Enc.int .u8)) (Arr.rep 32 (0 : Int))], Asr.of 3 (Enc.int .i64) (z25.v) y23, Asr.of 5 (Enc.int .u8) (z31.v) d32, Asr.blk b44 39 [Seg.of (Enc.arr 32 (Enc.int .u8)) d58]] _ _
                refine JC.seq ?_
                refine JC.seq ?_
                refine JC.region ?_
                refine JL.val (v := .int .i64 d59) (QV.move rfl) rfl rfl rfl ?_
                refine JL.val (v := .bool (decide (d59 < (32 : Int)))) (QV.lss rfl rfl) rfl rfl rfl ?_
                refine JL.nil ?_
                refine QJ.then_normal ?_
                rcases ite_inv hm with ⟨h66, hm⟩ | ⟨h66, hm⟩
                ·
                  refine JC.condT' rfl (decide_eq_true h66) ?_
                  refine JC.skip ?_
                  refine QJ.then_normal ?_
                  refine JC.seq ?_
                  refine JC.block ?_
                  refine JC.region ?_
                  refine JL.val (v := .int .i64 d59) (QV.move rfl) rfl rfl rfl ?_
                  refine JL.val (v := s4.v) (QV.move rfl) rfl rfl rfl ?_
                  refine JL.val (v := .int .i64 d33) (QV.move rfl) rfl rfl rfl ?_
                  refine JL.val (v := .int .i64 (IntKind.wrap .i64 ((32 : Int) * d33))) (QV.mul rfl rfl) rfl rfl rfl ?_
                  refine JL.val (v := .int .i64 (IntKind.wrap .i64 ((36 : Int) + (IntKind.wrap .i64 ((32 : Int) * d33))))) (QV.add rfl rfl) rfl rfl rfl ?_
                  refine JL.val (v := .int .i64 d59) (QV.move rfl) rfl rfl rfl ?_
                  refine JL.val (v := .int .i64 (IntKind.wrap .i64 ((IntKind.wrap .i64 ((36 : Int) + (IntKind.wrap .i64 ((32 : Int) * d33)))) + d59))) (QV.add rfl rfl) rfl rfl rfl ?_
                  obtain ⟨h67, hm⟩ := guard_inv hm
                  refine JL.val (v := .pointer (some (elA (s4.v) (Int.toNat (IntKind.wrap .i64 ((IntKind.wrap .i64 ((36 : Int) + (IntKind.wrap .i64 ((32 : Int) * d33)))) + d59)) * ((Enc.int .u8)).sz)))) (QV.indexA (Rdg.vw 0 rfl) Try.underlying22 tk_5 rfl rfl h67) rfl rfl rfl ?_
                  refine JL.val (v := .int .u8 (gd x5 (IntKind.wrap .i64 ((IntKind.wrap .i64 ((36 : Int) + (IntKind.wrap .i64 ((32 : Int) * d33)))) + d59)))) (QV.el1 (Rdg.vw 0 rfl) tk_5 rfl h67 rfl) rfl rfl rfl ?_
                  obtain ⟨h68, hm⟩ := guard_inv hm
                  refine JL.val (v := .pointer (some ⟨b44, 0 + Int.toNat d59 * 1, none⟩)) (QV.indexB Try.underlying39 tk_5 rfl rfl h68) rfl rfl rfl ?_
                  refine JL.mv (d := none) (MV.storeAr (ss := [Seg.of (Enc.arr 32 (Enc.int .u8)) d58]) 5 0 (gd x5 (IntKind.wrap .i64 ((IntKind.wrap .i64 ((36 : Int) + (IntKind.wrap .i64 ((32 : Int) * d33)))) + d59))) rfl tk_5 rfl rfl rfl rfl h68 rfl rfl) rfl rfl rfl ?_
                  rintro _ _ ⟨rfl, rfl⟩
                  refine JL.nil ?_
                  refine QJ.block_normal ?_
                  refine QJ.then_normal ?_
                  refine JC.region ?_
                  refine JL.val (v := .int .i64 d59) (QV.move rfl) rfl rfl rfl ?_
                  refine JL.val (v := .int .i64 (IntKind.wrap .i64 (d59 + (1 : Int)))) (QV.add rfl rfl) rfl rfl rfl ?_
                  refine JL.val (v := .int .i64 (IntKind.wrap .i64 (d59 + (1 : Int)))) (QV.assign rfl) rfl rfl rfl ?_
                  refine JL.nil ?_
                  obtain rfl := Option.some.inj hm
                  exact QJ.round_on ((Arr.set d58 d59 (gd x5 (IntKind.wrap .i64 ((IntKind.wrap .i64 ((36 : Int) + (IntKind.wrap .i64 ((32 : Int) * d33)))) + d59)))), (IntKind.wrap .i64 (d59 + (1 : Int)))) () [0, 1, 2, 3, 4, 5] (by exact ⟨rfl, rfl, rfl, rfl, rfl, rfl, rfl, rfl, rfl, rfl, rfl, rfl, trivial⟩) rfl rfl
                ·
                  refine JC.condF' rfl (decide_eq_false h66) ?_
                  refine JC.exit ?_
                  refine QJ.then_exit ?_
                  obtain rfl := Option.some.inj hm
                  refine QJ.round_exit (fun hy => ?_)
                  subst hy
                  refine QJ.block_hit ?_
                  exact QJ.cut_normal (d58, ()) hmo64 [0, 1, 2, 3, 4, 5] (by exact ⟨rfl, rfl, rfl, rfl, rfl, rfl, rfl, rfl, rfl, rfl, rfl, trivial⟩) rfl rfl
          ·
            refine JC.condF' rfl (decide_eq_false h41) ?_
            refine JC.exit ?_
            refine QJ.then_exit ?_
            obtain rfl := Option.some.inj hm
            refine QJ.round_exit (fun hy => ?_)
            subst hy
            refine QJ.block_hit ?_
            exact QJ.cut_normal (d32, z31) hmo39 [1, 2, 4] (by exact ⟨rfl, rfl, rfl, rfl, trivial⟩) rfl rfl
      ·
        refine JC.condT' rfl (congrArg Bool.not (decide_eq_false h21)) ?_
        refine JC.seq ?_
        refine JC.region ?_
        refine JL.val (v := .agg (((Enc.arr 32 (Enc.int .u8))).enc K3).toArray) (QV.eq (QV.loadN (ss := [Seg.of (Enc.arr 32 (Enc.int .u8)) K3]) 0 0 1 rfl tk_39 rfl rfl rfl rfl) rfl) rfl rfl rfl ?_
        refine JL.mv (d := none) (MV.store (ss := [Seg.of (Enc.arr 32 (Enc.int .u8)) (Arr.rep 32 (0 : Int))]) 1 0 1 [Seg.of (Enc.arr 32 (Enc.int .u8)) K3] rfl tk_39 rfl rfl rfl rfl (fun w hs => ⟨rfl, one_of _ _, trivial⟩)) rfl rfl rfl ?_
        rintro _ _ ⟨rfl, rfl⟩
        refine JL.val (v := .int .i64 (21 : Int)) (QV.assign rfl) rfl rfl rfl ?_
        refine JL.nil ?_
        refine QJ.then_normal ?_
        refine JC.ret ?_
        refine QJ.then_ret ?_
        obtain rfl := Option.some.inj hm
        exact QJ.body (vs := [.agg (((Enc.arr 32 (Enc.int .u8))).enc K3).toArray, .int .i64 (21 : Int)]) (.inl rfl) rfl (ResVs.cons (ResV.cell (d := none) (ty := 0) (ps := "") (af := #[]) (g := none) rfl (QV.eq (QV.loadN (ss := [Seg.of (Enc.arr 32 (Enc.int .u8)) K3]) 1 0 1 rfl tk_39 rfl rfl rfl rfl) rfl)) (ResVs.cons (ResV.tmp rfl) ResVs.nil)) [] rfl rfl (.inr trivial) ⟨rfl, rfl⟩
    ·
      refine JC.condT' rfl (congrArg Bool.not (decide_eq_false h18)) ?_
      refine JC.seq ?_
      refine JC.region ?_
      refine JL.val (v := .agg (((Enc.arr 32 (Enc.int .u8))).enc K3).toArray) (QV.eq (QV.loadN (ss := [Seg.of (Enc.arr 32 (Enc.int .u8)) K3]) 0 0 1 rfl tk_39 rfl rfl rfl rfl) rfl) rfl rfl rfl ?_
      refine JL.mv (d := none) (MV.store (ss := [Seg.of (Enc.arr 32 (Enc.int .u8)) (Arr.rep 32 (0 : Int))]) 1 0 1 [Seg.of (Enc.arr 32 (Enc.int .u8)) K3] rfl tk_39 rfl rfl rfl rfl (fun w hs => ⟨rfl, one_of _ _, trivial⟩)) rfl rfl rfl ?_
      rintro _ _ ⟨rfl, rfl⟩
      refine JL.val (v := .int .i64 (3 : Int)) (QV.assign rfl) rfl rfl rfl ?_
      refine JL.nil ?_
      refine QJ.then_normal ?_
      refine JC.ret ?_
      refine QJ.then_ret ?_
      obtain rfl := Option.some.inj hm
      exact QJ.body (vs := [.agg (((Enc.arr 32 (Enc.int .u8))).enc K3).toArray, .int .i64 (3 : Int)]) (.inl rfl) rfl (ResVs.cons (ResV.cell (d := none) (ty := 0) (ps := "") (af := #[]) (g := none) rfl (QV.eq (QV.loadN (ss := [Seg.of (Enc.arr 32 (Enc.int .u8)) K3]) 1 0 1 rfl tk_39 rfl rfl rfl rfl) rfl)) (ResVs.cons (ResV.tmp rfl) ResVs.nil)) [] rfl rfl (.inr trivial) ⟨rfl, rfl⟩

end Go.Proofs.Ytmedbpiapeiobaa
