/- Written by gen.py: functions and their contracts. -/
import Derived.Test.YtmedbpiapeiobaaOts
namespace Go.Proofs.Ytmedbpiapeiobaa
open Go Go.Eng Go.Proofs
set_option linter.unusedVariables false
set_option linter.unusedSimpArgs false
/-! ### 66: drogher/drogherref03.Sign -/
noncomputable def F66.j1  (d29 : List Int) : Option (List Int × Int) :=
  some (d29, (0 : Int))
noncomputable def F66.j2 (d31 : List Int) (d32 : Int) (y44 : (Arr Int 32))  : Option ((List Int × Int) ⊕ (List Int)) :=
  (if ((d31).length + ((subL (y44).l (0 : Int) ((32 : Nat) : Int))).length) * 1 ≤ 140737488355328 ∧ (d31).length + ((subL (y44).l (0 : Int) ((32 : Nat) : Int))).length ≤ 9223372036854775807 then some (.inl ((d31 ++ (subL (y44).l (0 : Int) ((32 : Nat) : Int))), (IntKind.wrap .i64 (d32 + (1 : Int))))) else none)
noncomputable def F66.b1 (x2 : (Arr Int 16)) (x3 : Int) (x4 : (Arr Int 32)) (y25 : (List Int)) : (List Int × Int) → Option ((List Int × Int) ⊕ (List Int))
  | (d31, d32) => (if d32 < ((y25).length : Int) then (if 0 ≤ d32 ∧ d32 < ((y25).length : Int) then ((F87.m (x2) (x3) (d32) (x4)).bind fun y42 => ((F85.m (x2) (x3) (d32) ((0 : Int)) ((gd y25 d32)) (y42)).bind fun y44 => F66.j2 d31 d32 y44)) else none) else some (.inr d31))
noncomputable def F66.m (x1 : Int) (x2 : (Arr Int 16)) (x3 : Int) (x4 : (Arr Int 32)) (x6 : List Int) : Option (List Int × Int) :=
  ((F59.m (x1)).bind fun y12 => (if y12 = (0 : Int) then some (([] : List Int), (21 : Int)) else ((F87.m (x2) (x3) ((65533 : Int)) (x4)).bind fun y16 => ((F26.m (([] : List Int)) ((4 : Int)) ((IntKind.wrap .u64 x1))).bind fun y20 => (if ((y20).length + ((subL (y16).l (0 : Int) ((32 : Nat) : Int))).length) * 1 ≤ 140737488355328 ∧ (y20).length + ((subL (y16).l (0 : Int) ((32 : Nat) : Int))).length ≤ 9223372036854775807 then ((F90.m (x1) (x2) (x3) ((subL (y16).l (0 : Int) ((32 : Nat) : Int))) (x6)).bind fun y25 => ((loop (F66.b1 x2 x3 x4 y25) ((y20 ++ (subL (y16).l (0 : Int) ((32 : Nat) : Int))), (0 : Int))).bind fun y => match y with | d29 => F66.j1 (d29))) else none)))))
set_option maxRecDepth 100000 in
set_option maxHeartbeats 4000000 in
theorem F66.spec (s5 : SlV) (x1 : Int) (x2 : (Arr Int 16)) (x3 : Int) (x4 : (Arr Int 32)) (x6 : List Int) (r : (List Int × Int)) (hm : F66.m x1 x2 x3 x4 x6 = some r) :
    Ctr Try.prog false 66 [.int .u32 x1, .agg (((Enc.arr 16 (Enc.int .u8))).enc x2).toArray, .int .u32 x3, .agg (((Enc.arr 32 (Enc.int .u8))).enc x4).toArray, s5.v] [Asr.vw (Enc.int .u8) (s5.v) x6] (fun v L' => ∃ (g7 : SlV), v = .tuple #[g7.v, .int .i64 r.2] ∧ L' = [Asr.of 5 (Enc.int .u8) (g7.v) r.1]) := by
  refine Ctr.intro (n := 61) (env := [(0, .int .u32 x1), (1, .agg (((Enc.arr 16 (Enc.int .u8))).enc x2).toArray), (2, .int .u32 x3), (3, .agg (((Enc.arr 32 (Enc.int .u8))).enc x4).toArray), (4, s5.v)]) Try.func66 rfl rfl rfl rfl (fun c => ?_)
  unfold F66.m at hm
  refine JC.seq ?_
  refine JC.region ?_
  refine JL.mv (d := some 6) (MV.box [Seg.of (Enc.arr 16 (Enc.int .u8)) x2] rfl (fun w hs => rfl)) rfl rfl rfl ?_
  rintro _ _ ⟨b10, rfl, rfl⟩
  refine JL.mv (d := some 8) (MV.box [Seg.of (Enc.arr 32 (Enc.int .u8)) x4] rfl (fun w hs => rfl)) rfl rfl rfl ?_
  rintro _ _ ⟨b11, rfl, rfl⟩
  refine JL.ent (fun _ hs => hs.nil 5 (Enc.int .u8)) ?_
  refine JL.val (v := SlV.nil.v) (QV.assign rfl) rfl rfl rfl ?_
  refine JL.val (v := .int .i64 (0 : Int)) (QV.assign rfl) rfl rfl rfl ?_
  refine JL.nil ?_
  refine QJ.then_normal ?_
  refine JC.seq ?_
  refine JC.seq ?_
  refine JC.region ?_
  refine JL.val (v := .int .u32 x1) (QV.move rfl) rfl rfl rfl ?_
  obtain ⟨y12, hc13, hm⟩ := bind_inv hm
  refine JL.mv (d := some 18) (MV.call (Lo := []) (Lr := [Asr.of 5 (Enc.int .u8) (SlV.nil.v) ([] : List Int), Asr.blk b11 39 [Seg.of (Enc.arr 32 (Enc.int .u8)) x4], Asr.blk b10 75 [Seg.of (Enc.arr 16 (Enc.int .u8)) x2], Asr.vw (Enc.int .u8) (s5.v) x6]) (F59.spec (x1) _ hc13) rfl Try.func59 rfl rfl rfl [] [0, 1, 2, 3] rfl rfl rfl trivial) rfl rfl rfl ?_
  rintro _ _ ⟨_, ⟨rfl, rfl⟩, rfl⟩
  refine JL.val (v := .bool (decide (y12 = (0 : Int)))) (QV.eql rfl rfl) rfl rfl rfl ?_
  refine JL.nil ?_
  refine QJ.then_normal ?_
  rcases ite_inv hm with ⟨h14, hm⟩ | ⟨h14, hm⟩
  ·
    refine JC.condT' rfl (decide_eq_true h14) ?_
    refine JC.seq ?_
    refine JC.region ?_
    refine JL.mv (d := some 20) (MV.lit0 (Enc.int .u8) Try.underlying22 (by kernel_rfl)) rfl rfl rfl ?_
    rintro _ _ ⟨z15, rfl, rfl⟩
    refine JL.val (v := z15.v) (QV.assign rfl) rfl rfl rfl ?_
    refine JL.val (v := .int .i64 (21 : Int)) (QV.assign rfl) rfl rfl rfl ?_
    refine JL.nil ?_
    refine QJ.then_normal ?_
    refine JC.ret ?_
    refine QJ.then_ret ?_
    obtain rfl := Option.some.inj hm
    exact QJ.body (vs := [z15.v, .int .i64 (21 : Int)]) (.inl rfl) rfl (ResVs.cons (ResV.tmp rfl) (ResVs.cons (ResV.tmp rfl) ResVs.nil)) [0] rfl rfl (.inr ⟨own_of _ _ _ _, trivial⟩) ⟨z15, rfl, rfl⟩
  ·
    refine JC.condF' rfl (decide_eq_false h14) ?_
    refine JC.skip ?_
    refine QJ.then_normal ?_
    refine JC.seq ?_
    refine JC.region ?_
    refine JL.val (v := .agg (((Enc.arr 16 (Enc.int .u8))).enc x2).toArray) (QV.eq (QV.loadN (ss := [Seg.of (Enc.arr 16 (Enc.int .u8)) x2]) 2 0 1 rfl tk_75 rfl rfl rfl rfl) rfl) rfl rfl rfl ?_
    refine JL.val (v := .int .u32 x3) (QV.move rfl) rfl rfl rfl ?_
    refine JL.val (v := .agg (((Enc.arr 32 (Enc.int .u8))).enc x4).toArray) (QV.eq (QV.loadN (ss := [Seg.of (Enc.arr 32 (Enc.int .u8)) x4]) 1 0 1 rfl tk_39 rfl rfl rfl rfl) rfl) rfl rfl rfl ?_
    obtain ⟨y16, hc17, hm⟩ := bind_inv hm
    refine JL.mv (d := some 24) (MV.call (Lo := []) (Lr := [Asr.of 5 (Enc.int .u8) (SlV.nil.v) ([] : List Int), Asr.blk b11 39 [Seg.of (Enc.arr 32 (Enc.int .u8)) x4], Asr.blk b10 75 [Seg.of (Enc.arr 16 (Enc.int .u8)) x2], Asr.vw (Enc.int .u8) (s5.v) x6]) (F87.spec (x2) (x3) ((65533 : Int)) (x4) _ hc17) rfl Try.func87 rfl rfl rfl [] [0, 1, 2, 3] rfl rfl rfl trivial) rfl rfl rfl ?_
    rintro _ _ ⟨_, ⟨rfl, rfl⟩, rfl⟩
    refine JL.mv (d := some 12) (MV.alloc [Seg.of (Enc.arr 32 (Enc.int .u8)) (Arr.rep 32 (0 : Int))] z_39 rfl) rfl rfl rfl ?_
    rintro _ _ ⟨b18, rfl, rfl⟩
    refine JL.mv (d := none) (MV.store (ss := [Seg.of (Enc.arr 32 (Enc.int .u8)) (Arr.rep 32 (0 : Int))]) 0 0 1 [Seg.of (Enc.arr 32 (Enc.int .u8)) y16] rfl tk_39 rfl rfl rfl rfl (fun w hs => ⟨rfl, one_of _ _, trivial⟩)) rfl rfl rfl ?_
    rintro _ _ ⟨rfl, rfl⟩
    refine JL.nil ?_
    refine QJ.then_normal ?_
    refine JC.seq ?_
    refine JC.region ?_
    refine JL.mv (d := some 25) (MV.lit0 (Enc.int .u8) Try.underlying22 (by kernel_rfl)) rfl rfl rfl ?_
    rintro _ _ ⟨z19, rfl, rfl⟩
    refine JL.val (v := .int .u32 x1) (QV.move rfl) rfl rfl rfl ?_
    refine JL.val (v := .int .u64 (IntKind.wrap .u64 x1)) (QV.conv rfl (by rw [Try.underlying74]; rfl) Try.underlying28) rfl rfl rfl ?_
    obtain ⟨y20, hc21, hm⟩ := bind_inv hm
    refine JL.mv (d := some 28) (MV.call (Lo := []) (Lr := [Asr.of 5 (Enc.int .u8) (z19.v) ([] : List Int), Asr.blk b18 39 [Seg.of (Enc.arr 32 (Enc.int .u8)) y16], Asr.of 5 (Enc.int .u8) (SlV.nil.v) ([] : List Int), Asr.blk b11 39 [Seg.of (Enc.arr 32 (Enc.int .u8)) x4], Asr.blk b10 75 [Seg.of (Enc.arr 16 (Enc.int .u8)) x2], Asr.vw (Enc.int .u8) (s5.v) x6]) (F26.spec (z19) (([] : List Int)) ((4 : Int)) ((IntKind.wrap .u64 x1)) _ hc21) rfl Try.func26 rfl rfl rfl [] [0, 1, 2, 3, 4, 5] rfl rfl rfl ⟨(Drv.of 0 rfl), trivial⟩) rfl rfl rfl ?_
    rintro _ _ ⟨_, ⟨z22, rfl, rfl⟩, rfl⟩
    refine JL.val (v := z22.v) (QV.assign rfl) rfl rfl rfl ?_
    refine JL.nil ?_
    refine QJ.then_normal ?_
    refine JC.seq ?_
    refine JC.region ?_
    refine JL.val (v := z22.v) (QV.move rfl) rfl rfl rfl ?_
    refine JL.val (v := (SlV.sub ((Enc.int .u8)).sz (SlV.mk (some ⟨b18, 0, none⟩) 32 32) (0 : Int) ((32 : Nat) : Int)).v) (QV.sliceB Try.underlying39 tk_5 rfl rfl rfl (by decide)) rfl rfl rfl ?_
    obtain ⟨h23, hm⟩ := guard_inv hm
    refine JL.mv (d := some 31) (MV.append 0 rfl (Rdg.ofDrv ((Drv.arr (ss := [Seg.of (Enc.arr 32 (Enc.int .u8)) y16]) 2 0 rfl rfl rfl rfl).subV (by rw [Arr.h]; exact (show 0 ≤ (0 : Int) ∧ (0 : Int) ≤ ((32 : Nat) : Int) ∧ ((32 : Nat) : Int) ≤ ((32 : Nat) : Int) from by decide)))) Try.underlying22 zi_5 rfl (by decide) rfl rfl h23) rfl rfl rfl ?_
    rintro _ _ ⟨z24, rfl, rfl⟩
    refine JL.val (v := z24.v) (QV.assign rfl) rfl rfl rfl ?_
    refine JL.nil ?_
    refine QJ.then_normal ?_
    refine JC.seq ?_
    refine JC.regionT [Asr.of 5 (Enc.int .u8) (z24.v) (y20 ++ (subL (y16).l (0 : Int) ((32 : Nat) : Int))), Asr.of 5 (Enc.int .u8) (z19.v) ([] : List Int), Asr.blk b18 39 [Seg.of (Enc.arr 32 (Enc.int .u8)) y16], Asr.of 5 (Enc.int .u8) (SlV.nil.v) ([] : List Int), Asr.blk b11 39 [Seg.of (Enc.arr 32 (Enc.int .u8)) x4], Asr.blk b10 75 [Seg.of (Enc.arr 16 (Enc.int .u8)) x2], Asr.vw (Enc.int .u8) (s5.v) x6] (fun t => false) [(0, true), (1, true), (2, true), (3, true), (4, false), (5, false), (6, false)] (by kernel_rfl) (by kernel_rfl) (by kernel_rfl) rfl (fun hsel => ?_)
    refine JT.take (i := 0) (v := .int .u32 x1) hsel rfl (QV.move rfl) rfl rfl rfl [0, 1, 2, 3, 4, 5, 6] rfl rfl ?_
    refine JT.take (i := 1) (v := .agg (((Enc.arr 16 (Enc.int .u8))).enc x2).toArray) hsel rfl (QV.eq (QV.loadN (ss := [Seg.of (Enc.arr 16 (Enc.int .u8)) x2]) 5 0 1 rfl tk_75 rfl rfl rfl rfl) rfl) rfl rfl rfl [0, 1, 2, 3, 4, 5, 6] rfl rfl ?_
    refine JT.take (i := 2) (v := .int .u32 x3) hsel rfl (QV.move rfl) rfl rfl rfl [0, 1, 2, 3, 4, 5, 6] rfl rfl ?_
    refine JT.take (i := 3) (v := (SlV.sub ((Enc.int .u8)).sz (SlV.mk (some ⟨b18, 0, none⟩) 32 32) (0 : Int) ((32 : Nat) : Int)).v) hsel rfl (QV.sliceB Try.underlying39 tk_5 rfl rfl rfl (by decide)) rfl rfl rfl [0, 1, 2, 3, 4, 5, 6] rfl rfl ?_
    refine JT.only (i := 4) (d := some 36) rfl (MV.ofQV (v := s5.v) (QV.move rfl)) rfl rfl rfl ?_
    rintro _ _ ⟨rfl, rfl⟩
    refine ⟨fun _ => ⟨[0, 1, 2, 3, 4, 5, 6], rfl, rfl⟩, ?_⟩
    obtain ⟨y25, hc26, hm⟩ := bind_inv hm
    refine JT.only (i := 5) (d := some 37) rfl (MV.call (Lo := []) (Lr := [Asr.of 5 (Enc.int .u8) (z24.v) (y20 ++ (subL (y16).l (0 : Int) ((32 : Nat) : Int))), Asr.of 5 (Enc.int .u8) (z19.v) ([] : List Int), Asr.blk b18 39 [Seg.of (Enc.arr 32 (Enc.int .u8)) y16], Asr.of 5 (Enc.int .u8) (SlV.nil.v) ([] : List Int), Asr.blk b11 39 [Seg.of (Enc.arr 32 (Enc.int .u8)) x4], Asr.blk b10 75 [Seg.of (Enc.arr 16 (Enc.int .u8)) x2], Asr.vw (Enc.int .u8) (s5.v) x6]) (F90.spec ((SlV.sub ((Enc.int .u8)).sz (SlV.mk (some ⟨b18, 0, none⟩) 32 32) (0 : Int) ((32 : Nat) : Int))) (s5) (x1) (x2) (x3) ((subL (y16).l (0 : Int) ((32 : Nat) : Int))) (x6) _ hc26) rfl Try.func90 rfl rfl rfl [] [0, 1, 2, 3, 4, 5, 6] rfl rfl rfl ⟨((Drv.arr (ss := [Seg.of (Enc.arr 32 (Enc.int .u8)) y16]) 2 0 rfl rfl rfl rfl).subV (by rw [Arr.h]; exact (show 0 ≤ (0 : Int) ∧ (0 : Int) ≤ ((32 : Nat) : Int) ∧ ((32 : Nat) : Int) ≤ ((32 : Nat) : Int) from by decide))), ⟨(Drv.vw 6 rfl), trivial⟩⟩) rfl rfl rfl ?_
    rintro _ _ ⟨_, ⟨z27, rfl, rfl⟩, rfl⟩
    refine ⟨fun _ => ⟨[1, 2, 3, 4, 5, 6, 7], rfl, rfl⟩, ?_⟩
    refine JT.grow [Asr.of 3 (Enc.int .i64) (z27.v) y25, Asr.of 5 (Enc.int .u8) (z24.v) (y20 ++ (subL (y16).l (0 : Int) ((32 : Nat) : Int))), Asr.of 5 (Enc.int .u8) (z19.v) ([] : List Int), Asr.blk b18 39 [Seg.of (Enc.arr 32 (Enc.int .u8)) y16], Asr.of 5 (Enc.int .u8) (SlV.nil.v) ([] : List Int), Asr.blk b11 39 [Seg.of (Enc.arr 32 (Enc.int .u8)) x4], Asr.blk b10 75 [Seg.of (Enc.arr 16 (Enc.int .u8)) x2], Asr.vw (Enc.int .u8) (s5.v) x6] [1, 2, 3, 4, 5, 6, 7] rfl rfl ?_
    refine JT.only (i := 6) (d := some 14) rfl (MV.ofQV (v := z27.v) (QV.assign rfl)) rfl rfl rfl ?_
    rintro _ _ ⟨rfl, rfl⟩
    refine ⟨fun _ => ⟨[0, 1, 2, 3, 4, 5, 6, 7], rfl, rfl⟩, ?_⟩
    refine JT.nil ?_
    refine QJ.then_normal ?_
    refine JC.seq ?_
    refine JC.seq ?_
    refine JC.region ?_
    refine JL.val (v := z27.v) (QV.move rfl) rfl rfl rfl ?_
    refine JL.val (v := .int .i64 ((y25).length : Int)) (QV.len (Rdg.of 0 rfl) Try.underlying24 rfl) rfl rfl rfl ?_
    refine JL.val (v := .int .i64 (0 : Int)) (QV.move rfl) rfl rfl rfl ?_
    refine JL.nil ?_
    refine QJ.then_normal ?_
    refine JC.cutK (Y := (List Int) × SlV) (fun y => match y with | (d29, _) => F66.j1 (d29) = some r) (fun y => match y with | (d29, z28) => [(13, z28.v)]) (fun y => match y with | (d29, z28) => [Asr.of 5 (Enc.int .u8) (z28.v) d29]) ?_ ?_
    ·
      rintro ⟨d29, z28⟩ hm
      unfold F66.j1 at hm
      show QJ _ _ [(13, z28.v)] [Asr.of 5 (Enc.int .u8) (z28.v) d29] _ _
      refine QJ.then_normal ?_
      refine JC.seq ?_
      refine JC.region ?_
      refine JL.val (v := z28.v) (QV.move rfl) rfl rfl rfl ?_
      refine JL.val (v := z28.v) (QV.assign rfl) rfl rfl rfl ?_
      refine JL.val (v := .int .i64 (0 : Int)) (QV.assign rfl) rfl rfl rfl ?_
      refine JL.nil ?_
      refine QJ.then_normal ?_
      refine JC.ret ?_
      obtain rfl := Option.some.inj hm
      exact QJ.body (vs := [z28.v, .int .i64 (0 : Int)]) (.inl rfl) rfl (ResVs.cons (ResV.tmp rfl) (ResVs.cons (ResV.tmp rfl) ResVs.nil)) [0] rfl rfl (.inr ⟨own_of _ _ _ _, trivial⟩) ⟨z28, rfl, rfl⟩
    ·
      refine JC.block ?_
      obtain ⟨y36, hl37, hmo38⟩ := bind_inv hm
      refine JC.loop (F66.b1 x2 x3 x4 y25) (fun x z => match x, z with | (d31, d32), z30 => [(2, .int .u32 x3), (6, .pointer (some ⟨b10, 0, none⟩)), (8, .pointer (some ⟨b11, 0, none⟩)), (13, z30.v), (14, z27.v), (39, .int .i64 ((y25).length : Int)), (40, .int .i64 d32)]) (fun x z => match x, z with | (d31, d32), z30 => [Asr.blk b10 75 [Seg.of (Enc.arr 16 (Enc.int .u8)) x2], Asr.blk b11 39 [Seg.of (Enc.arr 32 (Enc.int .u8)) x4], Asr.of 5 (Enc.int .u8) (z30.v) d31, Asr.of 3 (Enc.int .i64) (z27.v) y25]) ((y20 ++ (subL (y16).l (0 : Int) ((32 : Nat) : Int))), (0 : Int)) z24 y36 hl37 [6, 5, 1, 0] (by exact ⟨rfl, rfl, rfl, rfl, rfl, rfl, rfl, trivial⟩) rfl rfl ?_
      rintro ⟨d31, d32⟩ z30 s39 hm
      unfold F66.b1 at hm
      dsimp only at hm
      show JC _ _ _ [(2, .int .u32 x3), (6, .pointer (some ⟨b10, 0, none⟩)), (8, .pointer (some ⟨b11, 0, none⟩)), (13, z30.v), (14, z27.v), (39, .int .i64 ((y25).length : Int)), (40, .int .i64 d32)] [Asr.blk b10 75 [Seg.of (Enc.arr 16 (Enc.int .u8)) x2], Asr.blk b11 39 [Seg.of (Enc.arr 32 (Enc.int .u8)) x4], Asr.of 5 (Enc.int .u8) (z30.v) d31, Asr.of 3 (Enc.int .i64) (z27.v) y25] _ _
      refine JC.seq ?_
      refine JC.region ?_
      refine JL.val (v := .bool (decide (d32 < ((y25).length : Int)))) (QV.lss rfl rfl) rfl rfl rfl ?_
      refine JL.nil ?_
      refine QJ.then_normal ?_
      refine JC.seq ?_
      rcases ite_inv hm with ⟨h40, hm⟩ | ⟨h40, hm⟩
      ·
        refine JC.condT' rfl (decide_eq_true h40) ?_
        refine JC.skip ?_
        refine QJ.then_normal ?_
        refine JC.seq ?_
        refine JC.block ?_
        refine JC.seq ?_
        refine JC.region ?_
        refine JL.val (v := .int .i64 d32) (QV.move rfl) rfl rfl rfl ?_
        refine JL.val (v := .int .i64 d32) (QV.assign rfl) rfl rfl rfl ?_
        refine JL.nil ?_
        refine QJ.then_normal ?_
        refine JC.seq ?_
        obtain ⟨h41, hm⟩ := guard_inv hm
        obtain ⟨y42, hc43, hm⟩ := bind_inv hm
        obtain ⟨y44, hc45, hm⟩ := bind_inv hm
        refine JC.cutK (Y := Unit × Nat) (fun y => match y with | (_, _) => F66.j2 d31 d32 y44 = some s39) (fun y => match y with | (_, z47) => [(2, .int .u32 x3), (6, .pointer (some ⟨b10, 0, none⟩)), (8, .pointer (some ⟨b11, 0, none⟩)), (13, z30.v), (14, z27.v), (16, .pointer (some ⟨z47, 0, none⟩)), (39, .int .i64 ((y25).length : Int)), (40, .int .i64 d32)]) (fun y => match y with | (_, z47) => [Asr.blk b10 75 [Seg.of (Enc.arr 16 (Enc.int .u8)) x2], Asr.blk b11 39 [Seg.of (Enc.arr 32 (Enc.int .u8)) x4], Asr.of 5 (Enc.int .u8) (z30.v) d31, Asr.of 3 (Enc.int .i64) (z27.v) y25, Asr.blk z47 39 [Seg.of (Enc.arr 32 (Enc.int .u8)) y44]]) ?_ ?_
        ·
          rintro ⟨⟨⟩, z47⟩ hm
          unfold F66.j2 at hm
          show QJ _ _ [(2, .int .u32 x3), (6, .pointer (some ⟨b10, 0, none⟩)), (8, .pointer (some ⟨b11, 0, none⟩)), (13, z30.v), (14, z27.v), (16, .pointer (some ⟨z47, 0, none⟩)), (39, .int .i64 ((y25).length : Int)), (40, .int .i64 d32)] [Asr.blk b10 75 [Seg.of (Enc.arr 16 (Enc.int .u8)) x2], Asr.blk b11 39 [Seg.of (Enc.arr 32 (Enc.int .u8)) x4], Asr.of 5 (Enc.int .u8) (z30.v) d31, Asr.of 3 (Enc.int .i64) (z27.v) y25, Asr.blk z47 39 [Seg.of (Enc.arr 32 (Enc.int .u8)) y44]] _ _
          refine QJ.then_normal ?_
          refine JC.region ?_
          refine JL.val (v := z30.v) (QV.move rfl) rfl rfl rfl ?_
          refine JL.val (v := (SlV.sub ((Enc.int .u8)).sz (SlV.mk (some ⟨z47, 0, none⟩) 32 32) (0 : Int) ((32 : Nat) : Int)).v) (QV.sliceB Try.underlying39 tk_5 rfl rfl rfl (by decide)) rfl rfl rfl ?_
          obtain ⟨h48, hm⟩ := guard_inv hm
          refine JL.mv (d := some 58) (MV.append 2 rfl (Rdg.ofDrv ((Drv.arr (ss := [Seg.of (Enc.arr 32 (Enc.int .u8)) y44]) 4 0 rfl rfl rfl rfl).subV (by rw [Arr.h]; exact (show 0 ≤ (0 : Int) ∧ (0 : Int) ≤ ((32 : Nat) : Int) ∧ ((32 : Nat) : Int) ≤ ((32 : Nat) : Int) from by decide)))) Try.underlying22 zi_5 rfl (by decide) rfl rfl h48) rfl rfl rfl ?_
          rintro _ _ ⟨z49, rfl, rfl⟩
          refine JL.val (v := z49.v) (QV.assign rfl) rfl rfl rfl ?_
          refine JL.nil ?_
          refine QJ.block_normal ?_
          refine QJ.then_normal ?_
          refine JC.region ?_
          refine JL.val (v := .int .i64 (IntKind.wrap .i64 (d32 + (1 : Int)))) (QV.add rfl rfl) rfl rfl rfl ?_
          refine JL.val (v := .int .i64 (IntKind.wrap .i64 (d32 + (1 : Int)))) (QV.move rfl) rfl rfl rfl ?_
          refine JL.nil ?_
          obtain rfl := Option.some.inj hm
          exact QJ.round_on ((d31 ++ (subL (y44).l (0 : Int) ((32 : Nat) : Int))), (IntKind.wrap .i64 (d32 + (1 : Int)))) z49 [0, 1, 2, 3] (by exact ⟨rfl, rfl, rfl, rfl, rfl, rfl, rfl, trivial⟩) rfl rfl
        ·
          refine JC.regionU [Asr.blk b10 75 [Seg.of (Enc.arr 16 (Enc.int .u8)) x2], Asr.blk b11 39 [Seg.of (Enc.arr 32 (Enc.int .u8)) x4], Asr.of 5 (Enc.int .u8) (z30.v) d31, Asr.of 3 (Enc.int .i64) (z27.v) y25] (fun _ => false) 15 rfl (by kernel_rfl) (by kernel_rfl) (fun hsel => ?_)
          refine JU.take (i := 0) (v := .agg (((Enc.arr 16 (Enc.int .u8))).enc x2).toArray) hsel rfl (by kernel_rfl) (QV.eq (QV.loadN (ss := [Seg.of (Enc.arr 16 (Enc.int .u8)) x2]) 0 0 1 rfl tk_75 rfl rfl rfl rfl) rfl) rfl rfl rfl [0, 1, 2, 3] rfl rfl ?_
          refine JU.take (i := 1) (v := .int .u32 x3) hsel rfl (by kernel_rfl) (QV.move rfl) rfl rfl rfl [0, 1, 2, 3] rfl rfl ?_
          refine JU.take (i := 2) (v := .int .i64 d32) hsel rfl (by kernel_rfl) (QV.move rfl) rfl rfl rfl [0, 1, 2, 3] rfl rfl ?_
          refine JU.take (i := 3) (v := z27.v) hsel rfl (by kernel_rfl) (QV.move rfl) rfl rfl rfl [0, 1, 2, 3] rfl rfl ?_
          refine JU.take (i := 4) (v := .int .i64 d32) hsel rfl (by kernel_rfl) (QV.move rfl) rfl rfl rfl [0, 1, 2, 3] rfl rfl ?_
          refine JU.take (i := 5) (v := .pointer (some (elA (z27.v) (Int.toNat d32 * ((Enc.int .i64)).sz)))) hsel rfl (by kernel_rfl) (QV.indexA (Rdg.of 3 rfl) Try.underlying24 tk_3 rfl rfl h41) rfl rfl rfl [0, 1, 2, 3] rfl rfl ?_
          refine JU.take (i := 6) (v := .int .i64 (gd y25 d32)) hsel rfl (by kernel_rfl) (QV.el1 (Rdg.of 3 rfl) tk_3 rfl h41 rfl) rfl rfl rfl [0, 1, 2, 3] rfl rfl ?_
          refine JU.take (i := 7) (v := .agg (((Enc.arr 16 (Enc.int .u8))).enc x2).toArray) hsel rfl (by kernel_rfl) (QV.eq (QV.loadN (ss := [Seg.of (Enc.arr 16 (Enc.int .u8)) x2]) 0 0 1 rfl tk_75 rfl rfl rfl rfl) rfl) rfl rfl rfl [0, 1, 2, 3] rfl rfl ?_
          refine JU.take (i := 8) (v := .int .u32 x3) hsel rfl (by kernel_rfl) (QV.move rfl) rfl rfl rfl [0, 1, 2, 3] rfl rfl ?_
          refine JU.take (i := 9) (v := .int .i64 d32) hsel rfl (by kernel_rfl) (QV.move rfl) rfl rfl rfl [0, 1, 2, 3] rfl rfl ?_
          refine JU.take (i := 10) (v := .agg (((Enc.arr 32 (Enc.int .u8))).enc x4).toArray) hsel rfl (by kernel_rfl) (QV.eq (QV.loadN (ss := [Seg.of (Enc.arr 32 (Enc.int .u8)) x4]) 1 0 1 rfl tk_39 rfl rfl rfl rfl) rfl) rfl rfl rfl [0, 1, 2, 3] rfl rfl ?_
          refine JU.any [11, 13] (by kernel_rfl) rfl ?_
          refine ⟨?_, ?_, trivial⟩
          ·
            refine JUo.mv (d := some 54) rfl (MV.call (Lo := []) (Lr := [Asr.blk b10 75 [Seg.of (Enc.arr 16 (Enc.int .u8)) x2], Asr.blk b11 39 [Seg.of (Enc.arr 32 (Enc.int .u8)) x4], Asr.of 5 (Enc.int .u8) (z30.v) d31, Asr.of 3 (Enc.int .i64) (z27.v) y25]) (F87.spec (x2) (x3) (d32) (x4) _ hc43) rfl Try.func87 rfl rfl rfl [] [0, 1, 2, 3] rfl rfl rfl trivial) rfl rfl rfl ?_
            rintro _ _ ⟨_, ⟨rfl, rfl⟩, rfl⟩
            refine ⟨fun _ => ⟨[0, 1, 2, 3], rfl, rfl⟩, ?_⟩
            refine JU.any [12, 13] (by kernel_rfl) rfl ?_
            refine ⟨?_, ?_, trivial⟩
            ·
              refine JUo.mv (d := some 55) rfl (MV.call (Lo := []) (Lr := [Asr.blk b10 75 [Seg.of (Enc.arr 16 (Enc.int .u8)) x2], Asr.blk b11 39 [Seg.of (Enc.arr 32 (Enc.int .u8)) x4], Asr.of 5 (Enc.int .u8) (z30.v) d31, Asr.of 3 (Enc.int .i64) (z27.v) y25]) (F85.spec (x2) (x3) (d32) ((0 : Int)) ((gd y25 d32)) (y42) _ hc45) rfl Try.func85 rfl rfl rfl [] [0, 1, 2, 3] rfl rfl rfl trivial) rfl rfl rfl ?_
              rintro _ _ ⟨_, ⟨rfl, rfl⟩, rfl⟩
              refine ⟨fun _ => ⟨[0, 1, 2, 3], rfl, rfl⟩, ?_⟩
              refine JU.any [13] (by kernel_rfl) rfl ?_
              refine ⟨?_, trivial⟩
              refine JUo.mv (d := some 16) rfl (MV.alloc [Seg.of (Enc.arr 32 (Enc.int .u8)) (Arr.rep 32 (0 : Int))] z_39 rfl) rfl rfl rfl ?_
              rintro _ _ ⟨b50, rfl, rfl⟩
              refine ⟨fun _ => ⟨[1, 2, 3, 4], rfl, rfl⟩, ?_⟩
              refine JU.any [14] (by kernel_rfl) rfl ?_
              refine ⟨?_, trivial⟩
              refine JUo.mv (d := none) rfl (MV.store (ss := [Seg.of (Enc.arr 32 (Enc.int .u8)) (Arr.rep 32 (0 : Int))]) 0 0 1 [Seg.of (Enc.arr 32 (Enc.int .u8)) y44] rfl tk_39 rfl rfl rfl rfl (fun w hs => ⟨rfl, one_of _ _, trivial⟩)) rfl rfl rfl ?_
              rintro _ _ ⟨rfl, rfl⟩
              refine ⟨fun _ => ⟨[1, 2, 3, 4], rfl, rfl⟩, ?_⟩
              refine JU.nil (by kernel_rfl) ?_
              exact QJ.cut_normal ((), b50) hm [1, 2, 3, 4, 0] (by exact ⟨rfl, rfl, rfl, rfl, rfl, rfl, rfl, rfl, trivial⟩) rfl rfl
            ·
              refine JUo.mv (d := some 16) rfl (MV.alloc [Seg.of (Enc.arr 32 (Enc.int .u8)) (Arr.rep 32 (0 : Int))] z_39 rfl) rfl rfl rfl ?_
              rintro _ _ ⟨b51, rfl, rfl⟩
              refine ⟨fun _ => ⟨[1, 2, 3, 4], rfl, rfl⟩, ?_⟩
              refine JU.any [12] (by kernel_rfl) rfl ?_
              refine ⟨?_, trivial⟩
              refine JUo.mv (d := some 55) rfl (MV.call (Lo := []) (Lr := [Asr.blk b51 39 [Seg.of (Enc.arr 32 (Enc.int .u8)) (Arr.rep 32 (0 : Int))], Asr.blk b10 75 [Seg.of (Enc.arr 16 (Enc.int .u8)) x2], Asr.blk b11 39 [Seg.of (Enc.arr 32 (Enc.int .u8)) x4], Asr.of 5 (Enc.int .u8) (z30.v) d31, Asr.of 3 (Enc.int .i64) (z27.v) y25]) (F85.spec (x2) (x3) (d32) ((0 : Int)) ((gd y25 d32)) (y42) _ hc45) rfl Try.func85 rfl rfl rfl [] [0, 1, 2, 3, 4] rfl rfl rfl trivial) rfl rfl rfl ?_
              rintro _ _ ⟨_, ⟨rfl, rfl⟩, rfl⟩
              refine ⟨fun _ => ⟨[1, 2, 3, 4], rfl, rfl⟩, ?_⟩
              refine JU.any [14] (by kernel_rfl) rfl ?_
              refine ⟨?_, trivial⟩
              refine JUo.mv (d := none) rfl (MV.store (ss := [Seg.of (Enc.arr 32 (Enc.int .u8)) (Arr.rep 32 (0 : Int))]) 0 0 1 [Seg.of (Enc.arr 32 (Enc.int .u8)) y44] rfl tk_39 rfl rfl rfl rfl (fun w hs => ⟨rfl, one_of _ _, trivial⟩)) rfl rfl rfl ?_
              rintro _ _ ⟨rfl, rfl⟩
              refine ⟨fun _ => ⟨[1, 2, 3, 4], rfl, rfl⟩, ?_⟩
              refine JU.nil (by kernel_rfl) ?_
              exact QJ.cut_normal ((), b51) hm [1, 2, 3, 4, 0] (by exact ⟨rfl, rfl, rfl, rfl, rfl, rfl, rfl, rfl, trivial⟩) rfl rfl
          ·
            refine JUo.mv (d := some 16) rfl (MV.alloc [Seg.of (Enc.arr 32 (Enc.int .u8)) (Arr.rep 32 (0 : Int))] z_39 rfl) rfl rfl rfl ?_
            rintro _ _ ⟨b52, rfl, rfl⟩
            refine ⟨fun _ => ⟨[1, 2, 3, 4], rfl, rfl⟩, ?_⟩
            refine JU.any [11] (by kernel_rfl) rfl ?_
            refine ⟨?_, trivial⟩
            refine JUo.mv (d := some 54) rfl (MV.call (Lo := []) (Lr := [Asr.blk b52 39 [Seg.of (Enc.arr 32 (Enc.int .u8)) (Arr.rep 32 (0 : Int))], Asr.blk b10 75 [Seg.of (Enc.arr 16 (Enc.int .u8)) x2], Asr.blk b11 39 [Seg.of (Enc.arr 32 (Enc.int .u8)) x4], Asr.of 5 (Enc.int .u8) (z30.v) d31, Asr.of 3 (Enc.int .i64) (z27.v) y25]) (F87.spec (x2) (x3) (d32) (x4) _ hc43) rfl Try.func87 rfl rfl rfl [] [0, 1, 2, 3, 4] rfl rfl rfl trivial) rfl rfl rfl ?_
            rintro _ _ ⟨_, ⟨rfl, rfl⟩, rfl⟩
            refine ⟨fun _ => ⟨[1, 2, 3, 4], rfl, rfl⟩, ?_⟩
            refine JU.any [12] (by kernel_rfl) rfl ?_
            refine ⟨?_, trivial⟩
            refine JUo.mv (d := some 55) rfl (MV.call (Lo := []) (Lr := [Asr.blk b52 39 [Seg.of (Enc.arr 32 (Enc.int .u8)) (Arr.rep 32 (0 : Int))], Asr.blk b10 75 [Seg.of (Enc.arr 16 (Enc.int .u8)) x2], Asr.blk b11 39 [Seg.of (Enc.arr 32 (Enc.int .u8)) x4], Asr.of 5 (Enc.int .u8) (z30.v) d31, Asr.of 3 (Enc.int .i64) (z27.v) y25]) (F85.spec (x2) (x3) (d32) ((0 : Int)) ((gd y25 d32)) (y42) _ hc45) rfl Try.func85 rfl rfl rfl [] [0, 1, 2, 3, 4] rfl rfl rfl trivial) rfl rfl rfl ?_
            rintro _ _ ⟨_, ⟨rfl, rfl⟩, rfl⟩
            refine ⟨fun _ => ⟨[1, 2, 3, 4], rfl, rfl⟩, ?_⟩
            refine JU.any [14] (by kernel_rfl) rfl ?_
            refine ⟨?_, trivial⟩
            refine JUo.mv (d := none) rfl (MV.store (ss := [Seg.of (Enc.arr 32 (Enc.int .u8)) (Arr.rep 32 (0 : Int))]) 0 0 1 [Seg.of (Enc.arr 32 (Enc.int .u8)) y44] rfl tk_39 rfl rfl rfl rfl (fun w hs => ⟨rfl, one_of _ _, trivial⟩)) rfl rfl rfl ?_
            rintro _ _ ⟨rfl, rfl⟩
            refine ⟨fun _ => ⟨[1, 2, 3, 4], rfl, rfl⟩, ?_⟩
            refine JU.nil (by kernel_rfl) ?_
            exact QJ.cut_normal ((), b52) hm [1, 2, 3, 4, 0] (by exact ⟨rfl, rfl, rfl, rfl, rfl, rfl, rfl, rfl, trivial⟩) rfl rfl
      ·
        refine JC.condF' rfl (decide_eq_false h40) ?_
        refine JC.exit ?_
        refine QJ.then_exit ?_
        obtain rfl := Option.some.inj hm
        refine QJ.round_exit (fun hy => ?_)
        subst hy
        refine QJ.block_hit ?_
        exact QJ.cut_normal (d31, z30) hmo38 [2] (by exact ⟨rfl, trivial⟩) rfl rfl

/-! ### 18: drogher/drogherlaw03.OtsSigns -/
noncomputable def F18.m (x1 : Int) (x2 : (Arr Int 16)) (x3 : Int) (x4 : (Arr Int 32)) (x6 : List Int) : Option Bool :=
  (if (1000 : Int) < ((x6).length : Int) then ((F64.m).bind fun y11 => some y11) else ((F65_1.m (x1) (x2) (x3) (x4) (x6)).bind fun y13 => ((F66.m (x1) (x2) (x3) (x4) (x6)).bind fun y16 => (if (strOfNums y13.1) = (strOfNums y16.1) then (if y13.2 = y16.2 then (if y13.2 = (0 : Int) then ((F67_1.m (x1) (x2) (x3) (y13.1) (x6)).bind fun y22 => ((F62.m (x1) (x2) (x3) (x4)).bind fun y25 => (if y22.2 = (0 : Int) then (if y25.2 = (0 : Int) then (if y22.1 = y25.1 then ((F64.m).bind fun y31 => some y31) else some false) else some false) else some false))) else ((F64.m).bind fun y33 => some y33)) else some false) else some false))))
set_option maxRecDepth 100000 in
set_option maxHeartbeats 4000000 in
theorem F18.spec (s5 : SlV) (x1 : Int) (x2 : (Arr Int 16)) (x3 : Int) (x4 : (Arr Int 32)) (x6 : List Int) (r : Bool) (hm : F18.m x1 x2 x3 x4 x6 = some r) :
    Ctr Try.prog false 18 [.int .u32 x1, .agg (((Enc.arr 16 (Enc.int .u8))).enc x2).toArray, .int .u32 x3, .agg (((Enc.arr 32 (Enc.int .u8))).enc x4).toArray, s5.v] [Asr.vw (Enc.int .u8) (s5.v) x6] (fun v L' => v = .bool r ∧ L' = []) := by
  refine Ctr.intro (n := 85) (env := [(0, .int .u32 x1), (1, .agg (((Enc.arr 16 (Enc.int .u8))).enc x2).toArray), (2, .int .u32 x3), (3, .agg (((Enc.arr 32 (Enc.int .u8))).enc x4).toArray), (4, s5.v)]) Try.func18 rfl rfl rfl rfl (fun c => ?_)
  unfold F18.m at hm
  refine JC.seq ?_
  refine JC.region ?_
  refine JL.mv (d := some 6) (MV.box [Seg.of (Enc.arr 16 (Enc.int .u8)) x2] rfl (fun w hs => rfl)) rfl rfl rfl ?_
  rintro _ _ ⟨b8, rfl, rfl⟩
  refine JL.mv (d := some 8) (MV.box [Seg.of (Enc.arr 32 (Enc.int .u8)) x4] rfl (fun w hs => rfl)) rfl rfl rfl ?_
  rintro _ _ ⟨b9, rfl, rfl⟩
  refine JL.val (v := .bool false) (QV.assign rfl) rfl rfl rfl ?_
  refine JL.nil ?_
  refine QJ.then_normal ?_
  refine JC.seq ?_
  refine JC.seq ?_
  refine JC.region ?_
  refine JL.val (v := s5.v) (QV.move rfl) rfl rfl rfl ?_
  refine JL.val (v := .int .i64 ((x6).length : Int)) (QV.len (Rdg.vw 2 rfl) Try.underlying22 rfl) rfl rfl rfl ?_
  refine JL.val (v := .bool (decide ((1000 : Int) < ((x6).length : Int)))) (QV.gtr rfl rfl) rfl rfl rfl ?_
  refine JL.nil ?_
  refine QJ.then_normal ?_
  rcases ite_inv hm with ⟨h10, hm⟩ | ⟨h10, hm⟩
  ·
    refine JC.condT' rfl (decide_eq_true h10) ?_
    refine JC.seq ?_
    refine JC.region ?_
    obtain ⟨y11, hc12, hm⟩ := bind_inv hm
    refine JL.mv (d := some 22) (MV.call (Lo := []) (Lr := [Asr.blk b9 39 [Seg.of (Enc.arr 32 (Enc.int .u8)) x4], Asr.blk b8 75 [Seg.of (Enc.arr 16 (Enc.int .u8)) x2], Asr.vw (Enc.int .u8) (s5.v) x6]) (F64.spec _ hc12) rfl Try.func64 rfl rfl rfl [] [0, 1, 2] rfl rfl rfl trivial) rfl rfl rfl ?_
    rintro _ _ ⟨_, ⟨rfl, rfl⟩, rfl⟩
    refine JL.val (v := .bool y11) (QV.assign rfl) rfl rfl rfl ?_
    refine JL.nil ?_
    refine QJ.then_normal ?_
    refine JC.ret ?_
    refine QJ.then_ret ?_
    obtain rfl := Option.some.inj hm
    exact QJ.body (vs := [.bool y11]) (.inl rfl) rfl (ResVs.cons (ResV.tmp rfl) ResVs.nil) [] rfl rfl (.inr trivial) ⟨rfl, rfl⟩
  ·
    refine JC.condF' rfl (decide_eq_false h10) ?_
    refine JC.skip ?_
    refine QJ.then_normal ?_
    refine JC.seq ?_
    refine JC.region ?_
    refine JL.val (v := .int .u32 x1) (QV.move rfl) rfl rfl rfl ?_
    refine JL.val (v := .agg (((Enc.arr 16 (Enc.int .u8))).enc x2).toArray) (QV.eq (QV.loadN (ss := [Seg.of (Enc.arr 16 (Enc.int .u8)) x2]) 1 0 1 rfl tk_75 rfl rfl rfl rfl) rfl) rfl rfl rfl ?_
    refine JL.val (v := .int .u32 x3) (QV.move rfl) rfl rfl rfl ?_
    refine JL.val (v := .agg (((Enc.arr 32 (Enc.int .u8))).enc x4).toArray) (QV.eq (QV.loadN (ss := [Seg.of (Enc.arr 32 (Enc.int .u8)) x4]) 0 0 1 rfl tk_39 rfl rfl rfl rfl) rfl) rfl rfl rfl ?_
    refine JL.val (v := s5.v) (QV.move rfl) rfl rfl rfl ?_
    obtain ⟨y13, hc14, hm⟩ := bind_inv hm
    refine JL.mv (d := some 29) (MV.call (Lo := []) (Lr := [Asr.blk b9 39 [Seg.of (Enc.arr 32 (Enc.int .u8)) x4], Asr.blk b8 75 [Seg.of (Enc.arr 16 (Enc.int .u8)) x2], Asr.vw (Enc.int .u8) (s5.v) x6]) (F65_1.spec (s5) (x1) (x2) (x3) (x4) (x6) _ hc14) rfl Try.func65 rfl rfl rfl [] [0, 1, 2] rfl rfl rfl ⟨(Drv.vw 2 rfl), trivial⟩) rfl rfl rfl ?_
    rintro _ _ ⟨_, ⟨z15, rfl, rfl⟩, rfl⟩
    refine JL.val (v := .tuple #[z15.v, .int .i64 y13.2]) (QV.move rfl) rfl rfl rfl ?_
    refine JL.val (v := z15.v) (QV.extract (vs := [z15.v, .int .i64 y13.2]) rfl rfl) rfl rfl rfl ?_
    refine JL.val (v := .int .i64 y13.2) (QV.extract (vs := [z15.v, .int .i64 y13.2]) rfl rfl) rfl rfl rfl ?_
    refine JL.val (v := z15.v) (QV.assign rfl) rfl rfl rfl ?_
    refine JL.val (v := .int .i64 y13.2) (QV.assign rfl) rfl rfl rfl ?_
    refine JL.nil ?_
    refine QJ.then_normal ?_
    refine JC.seq ?_
    refine JC.region ?_
    refine JL.val (v := .int .u32 x1) (QV.move rfl) rfl rfl rfl ?_
    refine JL.val (v := .agg (((Enc.arr 16 (Enc.int .u8))).enc x2).toArray) (QV.eq (QV.loadN (ss := [Seg.of (Enc.arr 16 (Enc.int .u8)) x2]) 2 0 1 rfl tk_75 rfl rfl rfl rfl) rfl) rfl rfl rfl ?_
    refine JL.val (v := .int .u32 x3) (QV.move rfl) rfl rfl rfl ?_
    refine JL.val (v := .agg (((Enc.arr 32 (Enc.int .u8))).enc x4).toArray) (QV.eq (QV.loadN (ss := [Seg.of (Enc.arr 32 (Enc.int .u8)) x4]) 1 0 1 rfl tk_39 rfl rfl rfl rfl) rfl) rfl rfl rfl ?_
    refine JL.val (v := s5.v) (QV.move rfl) rfl rfl rfl ?_
    obtain ⟨y16, hc17, hm⟩ := bind_inv hm
    refine JL.mv (d := some 38) (MV.call (Lo := []) (Lr := [Asr.of 5 (Enc.int .u8) (z15.v) y13.1, Asr.blk b9 39 [Seg.of (Enc.arr 32 (Enc.int .u8)) x4], Asr.blk b8 75 [Seg.of (Enc.arr 16 (Enc.int .u8)) x2], Asr.vw (Enc.int .u8) (s5.v) x6]) (F66.spec (s5) (x1) (x2) (x3) (x4) (x6) _ hc17) rfl Try.func66 rfl rfl rfl [] [0, 1, 2, 3] rfl rfl rfl ⟨(Drv.vw 3 rfl), trivial⟩) rfl rfl rfl ?_
    rintro _ _ ⟨_, ⟨z18, rfl, rfl⟩, rfl⟩
    refine JL.val (v := .tuple #[z18.v, .int .i64 y16.2]) (QV.move rfl) rfl rfl rfl ?_
    refine JL.val (v := z18.v) (QV.extract (vs := [z18.v, .int .i64 y16.2]) rfl rfl) rfl rfl rfl ?_
    refine JL.val (v := .int .i64 y16.2) (QV.extract (vs := [z18.v, .int .i64 y16.2]) rfl rfl) rfl rfl rfl ?_
    refine JL.val (v := z18.v) (QV.assign rfl) rfl rfl rfl ?_
    refine JL.val (v := .int .i64 y16.2) (QV.assign rfl) rfl rfl rfl ?_
    refine JL.nil ?_
    refine QJ.then_normal ?_
    refine JC.seq ?_
    refine JC.seq ?_
    refine JC.region ?_
    refine JL.val (v := z15.v) (QV.move rfl) rfl rfl rfl ?_
    refine JL.val (v := .string (strOfNums y13.1)) (QV.str (Rdg.of 1 rfl) Try.underlying22 Try.underlying5 Try.underlying9 rfl) rfl rfl rfl ?_
    refine JL.val (v := z18.v) (QV.move rfl) rfl rfl rfl ?_
    refine JL.val (v := .string (strOfNums y16.1)) (QV.str (Rdg.of 0 rfl) Try.underlying22 Try.underlying5 Try.underlying9 rfl) rfl rfl rfl ?_
    refine JL.val (v := .bool (!(decide ((strOfNums y13.1) = (strOfNums y16.1))))) (QV.neqS rfl rfl) rfl rfl rfl ?_
    rcases ite_inv hm with ⟨h19, hm⟩ | ⟨h19, hm⟩
    ·
      refine JL.val (v := .bool false) (QV.eq (QV.move rfl) (congrArg Value.bool (congrArg Bool.not (decide_eq_true h19)))) rfl rfl rfl ?_
      refine JL.val (v := .int .i64 y13.2) (QV.move rfl) rfl rfl rfl ?_
      refine JL.val (v := .int .i64 y16.2) (QV.move rfl) rfl rfl rfl ?_
      refine JL.val (v := .bool (!(decide (y13.2 = y16.2)))) (QV.neq rfl rfl) rfl rfl rfl ?_
      refine JL.val (v := .bool (!(decide (y13.2 = y16.2)))) (QV.pickF rfl rfl) rfl rfl rfl ?_
      refine JL.nil ?_
      refine QJ.then_normal ?_
      rcases ite_inv hm with ⟨h20, hm⟩ | ⟨h20, hm⟩
      ·
        refine JC.condF' rfl (congrArg Bool.not (decide_eq_true h20)) ?_
        refine JC.skip ?_
        refine QJ.then_normal ?_
        refine JC.seq ?_
        refine JC.seq ?_
        refine JC.region ?_
        refine JL.val (v := .int .i64 y13.2) (QV.move rfl) rfl rfl rfl ?_
        refine JL.val (v := .bool (!(decide (y13.2 = (0 : Int))))) (QV.neq rfl rfl) rfl rfl rfl ?_
        refine JL.nil ?_
        refine QJ.then_normal ?_
        rcases ite_inv hm with ⟨h21, hm⟩ | ⟨h21, hm⟩
        ·
          refine JC.condF' rfl (congrArg Bool.not (decide_eq_true h21)) ?_
          refine JC.skip ?_
          refine QJ.then_normal ?_
          refine JC.seq ?_
          refine JC.region ?_
          refine JL.val (v := .int .u32 x1) (QV.move rfl) rfl rfl rfl ?_
          refine JL.val (v := .agg (((Enc.arr 16 (Enc.int .u8))).enc x2).toArray) (QV.eq (QV.loadN (ss := [Seg.of (Enc.arr 16 (Enc.int .u8)) x2]) 3 0 1 rfl tk_75 rfl rfl rfl rfl) rfl) rfl rfl rfl ?_
          refine JL.val (v := .int .u32 x3) (QV.move rfl) rfl rfl rfl ?_
          refine JL.val (v := z15.v) (QV.move rfl) rfl rfl rfl ?_
          refine JL.val (v := s5.v) (QV.move rfl) rfl rfl rfl ?_
          obtain ⟨y22, hc23, hm⟩ := bind_inv hm
          refine JL.mv (d := some 60) (MV.call (Lo := []) (Lr := [Asr.of 5 (Enc.int .u8) (z18.v) y16.1, Asr.of 5 (Enc.int .u8) (z15.v) y13.1, Asr.blk b9 39 [Seg.of (Enc.arr 32 (Enc.int .u8)) x4], Asr.blk b8 75 [Seg.of (Enc.arr 16 (Enc.int .u8)) x2], Asr.vw (Enc.int .u8) (s5.v) x6]) (F67_1.spec (z15) (s5) (x1) (x2) (x3) (y13.1) (x6) _ hc23) rfl Try.func67 rfl rfl rfl [] [0, 1, 2, 3, 4] rfl rfl rfl ⟨(Drv.of 1 rfl), ⟨(Drv.vw 4 rfl), trivial⟩⟩) rfl rfl rfl ?_
          rintro _ _ ⟨_, ⟨rfl, rfl⟩, rfl⟩
          refine JL.val (v := .tuple #[.agg (((Enc.arr 32 (Enc.int .u8))).enc y22.1).toArray, .int .i64 y22.2]) (QV.move rfl) rfl rfl rfl ?_
          refine JL.val (v := .agg (((Enc.arr 32 (Enc.int .u8))).enc y22.1).toArray) (QV.extract (vs := [.agg (((Enc.arr 32 (Enc.int .u8))).enc y22.1).toArray, .int .i64 y22.2]) rfl rfl) rfl rfl rfl ?_
          refine JL.val (v := .int .i64 y22.2) (QV.extract (vs := [.agg (((Enc.arr 32 (Enc.int .u8))).enc y22.1).toArray, .int .i64 y22.2]) rfl rfl) rfl rfl rfl ?_
          refine JL.mv (d := some 15) (MV.alloc [Seg.of (Enc.arr 32 (Enc.int .u8)) (Arr.rep 32 (0 : Int))] z_41 rfl) rfl rfl rfl ?_
          rintro _ _ ⟨b24, rfl, rfl⟩
          refine JL.mv (d := none) (MV.store (ss := [Seg.of (Enc.arr 32 (Enc.int .u8)) (Arr.rep 32 (0 : Int))]) 0 0 1 [Seg.of (Enc.arr 32 (Enc.int .u8)) y22.1] rfl tk_41 rfl rfl rfl rfl (fun w hs => ⟨rfl, one_of _ _, trivial⟩)) rfl rfl rfl ?_
          rintro _ _ ⟨rfl, rfl⟩
          refine JL.val (v := .int .i64 y22.2) (QV.assign rfl) rfl rfl rfl ?_
          refine JL.nil ?_
          refine QJ.then_normal ?_
          refine JC.seq ?_
          refine JC.region ?_
          refine JL.val (v := .int .u32 x1) (QV.move rfl) rfl rfl rfl ?_
          refine JL.val (v := .agg (((Enc.arr 16 (Enc.int .u8))).enc x2).toArray) (QV.eq (QV.loadN (ss := [Seg.of (Enc.arr 16 (Enc.int .u8)) x2]) 4 0 1 rfl tk_75 rfl rfl rfl rfl) rfl) rfl rfl rfl ?_
          refine JL.val (v := .int .u32 x3) (QV.move rfl) rfl rfl rfl ?_
          refine JL.val (v := .agg (((Enc.arr 32 (Enc.int .u8))).enc x4).toArray) (QV.eq (QV.loadN (ss := [Seg.of (Enc.arr 32 (Enc.int .u8)) x4]) 3 0 1 rfl tk_39 rfl rfl rfl rfl) rfl) rfl rfl rfl ?_
          obtain ⟨y25, hc26, hm⟩ := bind_inv hm
          refine JL.mv (d := some 68) (MV.call (Lo := []) (Lr := [Asr.blk b24 41 [Seg.of (Enc.arr 32 (Enc.int .u8)) y22.1], Asr.of 5 (Enc.int .u8) (z18.v) y16.1, Asr.of 5 (Enc.int .u8) (z15.v) y13.1, Asr.blk b9 39 [Seg.of (Enc.arr 32 (Enc.int .u8)) x4], Asr.blk b8 75 [Seg.of (Enc.arr 16 (Enc.int .u8)) x2], Asr.vw (Enc.int .u8) (s5.v) x6]) (F62.spec (x1) (x2) (x3) (x4) _ hc26) rfl Try.func62 rfl rfl rfl [] [0, 1, 2, 3, 4, 5] rfl rfl rfl trivial) rfl rfl rfl ?_
          rintro _ _ ⟨_, ⟨rfl, rfl⟩, rfl⟩
          refine JL.val (v := .tuple #[.agg (((Enc.arr 32 (Enc.int .u8))).enc y25.1).toArray, .int .i64 y25.2]) (QV.move rfl) rfl rfl rfl ?_
          refine JL.val (v := .agg (((Enc.arr 32 (Enc.int .u8))).enc y25.1).toArray) (QV.extract (vs := [.agg (((Enc.arr 32 (Enc.int .u8))).enc y25.1).toArray, .int .i64 y25.2]) rfl rfl) rfl rfl rfl ?_
          refine JL.val (v := .int .i64 y25.2) (QV.extract (vs := [.agg (((Enc.arr 32 (Enc.int .u8))).enc y25.1).toArray, .int .i64 y25.2]) rfl rfl) rfl rfl rfl ?_
          refine JL.mv (d := some 17) (MV.alloc [Seg.of (Enc.arr 32 (Enc.int .u8)) (Arr.rep 32 (0 : Int))] z_41 rfl) rfl rfl rfl ?_
          rintro _ _ ⟨b27, rfl, rfl⟩
          refine JL.mv (d := none) (MV.store (ss := [Seg.of (Enc.arr 32 (Enc.int .u8)) (Arr.rep 32 (0 : Int))]) 0 0 1 [Seg.of (Enc.arr 32 (Enc.int .u8)) y25.1] rfl tk_41 rfl rfl rfl rfl (fun w hs => ⟨rfl, one_of _ _, trivial⟩)) rfl rfl rfl ?_
          rintro _ _ ⟨rfl, rfl⟩
          refine JL.val (v := .int .i64 y25.2) (QV.assign rfl) rfl rfl rfl ?_
          refine JL.nil ?_
          refine QJ.then_normal ?_
          refine JC.seq ?_
          refine JC.region ?_
          refine JL.val (v := .int .i64 y22.2) (QV.move rfl) rfl rfl rfl ?_
          refine JL.val (v := .bool (decide (y22.2 = (0 : Int)))) (QV.eql rfl rfl) rfl rfl rfl ?_
          rcases ite_inv hm with ⟨h28, hm⟩ | ⟨h28, hm⟩
          ·
            refine JL.val (v := .bool true) (QV.eq (QV.move rfl) (congrArg Value.bool (decide_eq_true h28))) rfl rfl rfl ?_
            refine JL.val (v := .int .i64 y25.2) (QV.move rfl) rfl rfl rfl ?_
            refine JL.val (v := .bool (decide (y25.2 = (0 : Int)))) (QV.eql rfl rfl) rfl rfl rfl ?_
            refine JL.val (v := .bool (decide (y25.2 = (0 : Int)))) (QV.pickT rfl rfl) rfl rfl rfl ?_
            rcases ite_inv hm with ⟨h29, hm⟩ | ⟨h29, hm⟩
            ·
              refine JL.val (v := .bool true) (QV.eq (QV.move rfl) (congrArg Value.bool (decide_eq_true h29))) rfl rfl rfl ?_
              refine JL.val (v := .agg (((Enc.arr 32 (Enc.int .u8))).enc y22.1).toArray) (QV.eq (QV.loadN (ss := [Seg.of (Enc.arr 32 (Enc.int .u8)) y22.1]) 1 0 1 rfl tk_41 rfl rfl rfl rfl) rfl) rfl rfl rfl ?_
              refine JL.val (v := .agg (((Enc.arr 32 (Enc.int .u8))).enc y25.1).toArray) (QV.eq (QV.loadN (ss := [Seg.of (Enc.arr 32 (Enc.int .u8)) y25.1]) 0 0 1 rfl tk_41 rfl rfl rfl rfl) rfl) rfl rfl rfl ?_
              refine JL.val (v := .bool (decide (y22.1 = y25.1))) (QV.eqlE (E := (Enc.arr 32 (Enc.int .u8))) (a := y22.1) (b := y25.1) zeq_41 (by kernel_rfl) rfl rfl) rfl rfl rfl ?_
              refine JL.val (v := .bool (decide (y22.1 = y25.1))) (QV.pickT rfl rfl) rfl rfl rfl ?_
              rcases ite_inv hm with ⟨h30, hm⟩ | ⟨h30, hm⟩
              ·
                refine JL.val (v := .bool true) (QV.eq (QV.move rfl) (congrArg Value.bool (decide_eq_true h30))) rfl rfl rfl ?_
                obtain ⟨y31, hc32, hm⟩ := bind_inv hm
                refine JL.mv (d := some 83) (MV.call (Lo := []) (Lr := [Asr.blk b27 41 [Seg.of (Enc.arr 32 (Enc.int .u8)) y25.1], Asr.blk b24 41 [Seg.of (Enc.arr 32 (Enc.int .u8)) y22.1], Asr.of 5 (Enc.int .u8) (z18.v) y16.1, Asr.of 5 (Enc.int .u8) (z15.v) y13.1, Asr.blk b9 39 [Seg.of (Enc.arr 32 (Enc.int .u8)) x4], Asr.blk b8 75 [Seg.of (Enc.arr 16 (Enc.int .u8)) x2], Asr.vw (Enc.int .u8) (s5.v) x6]) (F64.spec _ hc32) rfl Try.func64 rfl rfl rfl [] [0, 1, 2, 3, 4, 5, 6] rfl rfl rfl trivial) rfl rfl rfl ?_
                rintro _ _ ⟨_, ⟨rfl, rfl⟩, rfl⟩
                refine JL.val (v := .bool y31) (QV.pickT rfl rfl) rfl rfl rfl ?_
                refine JL.val (v := .bool y31) (QV.assign rfl) rfl rfl rfl ?_
                refine JL.nil ?_
                refine QJ.then_normal ?_
                refine JC.ret ?_
                obtain rfl := Option.some.inj hm
                exact QJ.body (vs := [.bool y31]) (.inl rfl) rfl (ResVs.cons (ResV.tmp rfl) ResVs.nil) [] rfl rfl (.inr trivial) ⟨rfl, rfl⟩
              ·
                refine JL.val (v := .bool false) (QV.eq (QV.move rfl) (congrArg Value.bool (decide_eq_false h30))) rfl rfl rfl ?_
                refine JL.skip (d := some 83) rfl rfl rfl ?_
                refine JL.val (v := .bool false) (QV.pickF rfl rfl) rfl rfl rfl ?_
                refine JL.val (v := .bool false) (QV.assign rfl) rfl rfl rfl ?_
                refine JL.nil ?_
                refine QJ.then_normal ?_
                refine JC.ret ?_
                obtain rfl := Option.some.inj hm
                exact QJ.body (vs := [.bool false]) (.inl rfl) rfl (ResVs.cons (ResV.tmp rfl) ResVs.nil) [] rfl rfl (.inr trivial) ⟨rfl, rfl⟩
            ·
              refine JL.val (v := .bool false) (QV.eq (QV.move rfl) (congrArg Value.bool (decide_eq_false h29))) rfl rfl rfl ?_
              refine JL.skip (d := some 78) rfl rfl rfl ?_
              refine JL.skip (d := some 79) rfl rfl rfl ?_
              refine JL.skip (d := some 80) rfl rfl rfl ?_
              refine JL.val (v := .bool false) (QV.pickF rfl rfl) rfl rfl rfl ?_
              refine JL.val (v := .bool false) (QV.move rfl) rfl rfl rfl ?_
              refine JL.skip (d := some 83) rfl rfl rfl ?_
              refine JL.val (v := .bool false) (QV.pickF rfl rfl) rfl rfl rfl ?_
              refine JL.val (v := .bool false) (QV.assign rfl) rfl rfl rfl ?_
              refine JL.nil ?_
              refine QJ.then_normal ?_
              refine JC.ret ?_
              obtain rfl := Option.some.inj hm
              exact QJ.body (vs := [.bool false]) (.inl rfl) rfl (ResVs.cons (ResV.tmp rfl) ResVs.nil) [] rfl rfl (.inr trivial) ⟨rfl, rfl⟩
          ·
            refine JL.val (v := .bool false) (QV.eq (QV.move rfl) (congrArg Value.bool (decide_eq_false h28))) rfl rfl rfl ?_
            refine JL.skip (d := some 74) rfl rfl rfl ?_
            refine JL.skip (d := some 75) rfl rfl rfl ?_
            refine JL.val (v := .bool false) (QV.pickF rfl rfl) rfl rfl rfl ?_
            refine JL.val (v := .bool false) (QV.move rfl) rfl rfl rfl ?_
            refine JL.skip (d := some 78) rfl rfl rfl ?_
            refine JL.skip (d := some 79) rfl rfl rfl ?_
            refine JL.skip (d := some 80) rfl rfl rfl ?_
            refine JL.val (v := .bool false) (QV.pickF rfl rfl) rfl rfl rfl ?_
            refine JL.val (v := .bool false) (QV.move rfl) rfl rfl rfl ?_
            refine JL.skip (d := some 83) rfl rfl rfl ?_
            refine JL.val (v := .bool false) (QV.pickF rfl rfl) rfl rfl rfl ?_
            refine JL.val (v := .bool false) (QV.assign rfl) rfl rfl rfl ?_
            refine JL.nil ?_
            refine QJ.then_normal ?_
            refine JC.ret ?_
            obtain rfl := Option.some.inj hm
            exact QJ.body (vs := [.bool false]) (.inl rfl) rfl (ResVs.cons (ResV.tmp rfl) ResVs.nil) [] rfl rfl (.inr trivial) ⟨rfl, rfl⟩
        ·
          refine JC.condT' rfl (congrArg Bool.not (decide_eq_false h21)) ?_
          refine JC.seq ?_
          refine JC.region ?_
          obtain ⟨y33, hc34, hm⟩ := bind_inv hm
          refine JL.mv (d := some 53) (MV.call (Lo := []) (Lr := [Asr.of 5 (Enc.int .u8) (z18.v) y16.1, Asr.of 5 (Enc.int .u8) (z15.v) y13.1, Asr.blk b9 39 [Seg.of (Enc.arr 32 (Enc.int .u8)) x4], Asr.blk b8 75 [Seg.of (Enc.arr 16 (Enc.int .u8)) x2], Asr.vw (Enc.int .u8) (s5.v) x6]) (F64.spec _ hc34) rfl Try.func64 rfl rfl rfl [] [0, 1, 2, 3, 4] rfl rfl rfl trivial) rfl rfl rfl ?_
          rintro _ _ ⟨_, ⟨rfl, rfl⟩, rfl⟩
          refine JL.val (v := .bool y33) (QV.assign rfl) rfl rfl rfl ?_
          refine JL.nil ?_
          refine QJ.then_normal ?_
          refine JC.ret ?_
          refine QJ.then_ret ?_
          obtain rfl := Option.some.inj hm
          exact QJ.body (vs := [.bool y33]) (.inl rfl) rfl (ResVs.cons (ResV.tmp rfl) ResVs.nil) [] rfl rfl (.inr trivial) ⟨rfl, rfl⟩
      ·
        refine JC.condT' rfl (congrArg Bool.not (decide_eq_false h20)) ?_
        refine JC.seq ?_
        refine JC.region ?_
        refine JL.val (v := .bool false) (QV.assign rfl) rfl rfl rfl ?_
        refine JL.nil ?_
        refine QJ.then_normal ?_
        refine JC.ret ?_
        refine QJ.then_ret ?_
        obtain rfl := Option.some.inj hm
        exact QJ.body (vs := [.bool false]) (.inl rfl) rfl (ResVs.cons (ResV.tmp rfl) ResVs.nil) [] rfl rfl (.inr trivial) ⟨rfl, rfl⟩
    ·
      refine JL.val (v := .bool true) (QV.eq (QV.move rfl) (congrArg Value.bool (congrArg Bool.not (decide_eq_false h19)))) rfl rfl rfl ?_
      refine JL.skip (d := some 47) rfl rfl rfl ?_
      refine JL.skip (d := some 48) rfl rfl rfl ?_
      refine JL.skip (d := some 49) rfl rfl rfl ?_
      refine JL.val (v := .bool true) (QV.pickT rfl rfl) rfl rfl rfl ?_
      refine JL.nil ?_
      refine QJ.then_normal ?_
      refine JC.condT rfl ?_
      refine JC.seq ?_
      refine JC.region ?_
      refine JL.val (v := .bool false) (QV.assign rfl) rfl rfl rfl ?_
      refine JL.nil ?_
      refine QJ.then_normal ?_
      refine JC.ret ?_
      refine QJ.then_ret ?_
      obtain rfl := Option.some.inj hm
      exact QJ.body (vs := [.bool false]) (.inl rfl) rfl (ResVs.cons (ResV.tmp rfl) ResVs.nil) [] rfl rfl (.inr trivial) ⟨rfl, rfl⟩

end Go.Proofs.Ytmedbpiapeiobaa
