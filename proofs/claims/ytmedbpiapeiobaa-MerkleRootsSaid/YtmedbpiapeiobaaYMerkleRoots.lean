/- Written by gen.py: functions and their contracts. -/
import Derived.Test.YtmedbpiapeiobaaMer
namespace Go.Proofs.Ytmedbpiapeiobaa
open Go Go.Eng Go.Proofs
set_option linter.unusedVariables false
set_option linter.unusedSimpArgs false
/-! ### 43: drogher/drogherref21.Leaf -/
noncomputable def F43.m (x2 : List Int) : Option (Arr Int 32) :=
  ((F37.m ([[(0 : Int)], x2])).bind fun y7 => ((F33.m (y7)).bind fun y10 => some y10))
set_option maxRecDepth 100000 in
set_option maxHeartbeats 4000000 in
theorem F43.spec (s1 : SlV) (x2 : List Int) (r : (Arr Int 32)) (hm : F43.m x2 = some r) :
    Ctr Try.prog false 43 [s1.v] [Asr.vw (Enc.int .u8) (s1.v) x2] (fun v L' => v = .agg (((Enc.arr 32 (Enc.int .u8))).enc r).toArray ∧ L' = []) := by
  refine Ctr.intro (n := 8) (env := [(0, s1.v)]) Try.func43 rfl rfl rfl rfl (fun c => ?_)
  unfold F43.m at hm
  refine JC.seq ?_
  refine JC.region ?_
  refine JL.mv (d := some 2) (MV.alloc [Seg.of (Enc.arr 32 (Enc.int .u8)) (Arr.rep 32 (0 : Int))] z_39 rfl) rfl rfl rfl ?_
  rintro _ _ ⟨b4, rfl, rfl⟩
  refine JL.nil ?_
  refine QJ.then_normal ?_
  refine JC.seq ?_
  refine JC.region ?_
  refine JL.mv (d := some 3) (MV.lit (E := (Enc.int .u8)) (vals := [(0, .int .u8 (0 : Int))]) [(0 : Int)] Try.underlying22 zi_5 rfl (by decide) rfl (by kernel_rfl)) rfl rfl rfl ?_
  rintro _ _ ⟨z5, rfl, rfl⟩
  refine JL.val (v := s1.v) (QV.move rfl) rfl rfl rfl ?_
  refine JL.mv (d := some 5) (MV.lit (E := (NE.sl (Enc.int .u8)).E) (vals := [(0, z5.v), (1, s1.v)]) [(z5, [(0 : Int)]), (s1, x2)] Try.underlying50 zi_22 rfl (by decide) rfl (by kernel_rfl)) rfl rfl rfl ?_
  rintro _ _ ⟨z6, rfl, rfl⟩
  obtain ⟨y7, hc8, hm⟩ := bind_inv hm
  refine JL.mv (d := some 6) (MV.call (Lo := []) (Lr := [Asr.of 22 (NE.sl (Enc.int .u8)).E (z6.v) [(z5, [(0 : Int)]), (s1, x2)], Asr.of 5 (Enc.int .u8) (z5.v) [(0 : Int)], Asr.blk b4 39 [Seg.of (Enc.arr 32 (Enc.int .u8)) (Arr.rep 32 (0 : Int))], Asr.vw (Enc.int .u8) (s1.v) x2]) (F37.spec (z6) ([z5, s1]) ([[(0 : Int)], x2]) _ hc8) rfl Try.func37 rfl rfl rfl [] [0, 1, 2, 3] rfl rfl rfl ⟨(Drv.lit (zs := [z5, s1]) (xs := [[(0 : Int)], x2]) 0 rfl rfl ⟨(Drv.of 1 rfl), ⟨(Drv.vw 3 rfl), trivial⟩⟩), trivial⟩) rfl rfl rfl ?_
  rintro _ _ ⟨_, ⟨z9, rfl, rfl⟩, rfl⟩
  obtain ⟨y10, hc11, hm⟩ := bind_inv hm
  refine JL.mv (d := some 7) (MV.call (Lo := []) (Lr := [Asr.of 5 (Enc.int .u8) (z9.v) y7, Asr.of 22 (NE.sl (Enc.int .u8)).E (z6.v) [(z5, [(0 : Int)]), (s1, x2)], Asr.of 5 (Enc.int .u8) (z5.v) [(0 : Int)], Asr.blk b4 39 [Seg.of (Enc.arr 32 (Enc.int .u8)) (Arr.rep 32 (0 : Int))], Asr.vw (Enc.int .u8) (s1.v) x2]) (F33.spec (z9) (y7) _ hc11) rfl Try.func33 rfl rfl rfl [] [0, 1, 2, 3, 4] rfl rfl rfl ⟨(Drv.of 0 rfl), trivial⟩) rfl rfl rfl ?_
  rintro _ _ ⟨_, ⟨rfl, rfl⟩, rfl⟩
  refine JL.mv (d := none) (MV.store (ss := [Seg.of (Enc.arr 32 (Enc.int .u8)) (Arr.rep 32 (0 : Int))]) 3 0 1 [Seg.of (Enc.arr 32 (Enc.int .u8)) y10] rfl tk_39 rfl rfl rfl rfl (fun w hs => ⟨rfl, one_of _ _, trivial⟩)) rfl rfl rfl ?_
  rintro _ _ ⟨rfl, rfl⟩
  refine JL.nil ?_
  refine QJ.then_normal ?_
  refine JC.ret ?_
  obtain rfl := Option.some.inj hm
  exact QJ.body (vs := [.agg (((Enc.arr 32 (Enc.int .u8))).enc y10).toArray]) (.inl rfl) rfl (ResVs.cons (ResV.cell (d := none) (ty := 0) (ps := "") (af := #[]) (g := none) rfl (QV.eq (QV.loadN (ss := [Seg.of (Enc.arr 32 (Enc.int .u8)) y10]) 3 0 1 rfl tk_39 rfl rfl rfl rfl) rfl)) ResVs.nil) [] rfl rfl (.inr trivial) ⟨rfl, rfl⟩

/-! ### 47: drogher/merkle.Pair -/
noncomputable def F47_1.m (x1 : (Arr Int 32)) (x2 : (Arr Int 32)) : Option (Arr Int 32) :=
  ((F32.m ((subL ((Arr.cp (Arr.cp (Arr.set (Arr.rep 65 (0 : Int)) (0 : Int) (1 : Int)) (1 : Int) ((65 : Nat) : Int) (subL (x1).l (0 : Int) ((32 : Nat) : Int))) (33 : Int) ((65 : Nat) : Int) (subL (x2).l (0 : Int) ((32 : Nat) : Int)))).l (0 : Int) ((65 : Nat) : Int)))).bind fun y8 => some y8)
set_option maxRecDepth 100000 in
set_option maxHeartbeats 4000000 in
theorem F47_1.spec (x1 : (Arr Int 32)) (x2 : (Arr Int 32)) (r : (Arr Int 32)) (hm : F47_1.m x1 x2 = some r) :
    Ctr Try.prog false 47 [.agg (((Enc.arr 32 (Enc.int .u8))).enc x1).toArray, .agg (((Enc.arr 32 (Enc.int .u8))).enc x2).toArray] [] (fun v L' => v = .agg (((Enc.arr 32 (Enc.int .u8))).enc r).toArray ∧ L' = []) := by
  refine Ctr.intro (n := 15) (env := [(0, .agg (((Enc.arr 32 (Enc.int .u8))).enc x1).toArray), (1, .agg (((Enc.arr 32 (Enc.int .u8))).enc x2).toArray)]) Try.func47 rfl rfl rfl rfl (fun c => ?_)
  unfold F47_1.m at hm
  refine JC.seq ?_
  refine JC.region ?_
  refine JL.mv (d := some 2) (MV.box [Seg.of (Enc.arr 32 (Enc.int .u8)) x1] rfl (fun w hs => rfl)) rfl rfl rfl ?_
  rintro _ _ ⟨b4, rfl, rfl⟩
  refine JL.mv (d := some 3) (MV.box [Seg.of (Enc.arr 32 (Enc.int .u8)) x2] rfl (fun w hs => rfl)) rfl rfl rfl ?_
  rintro _ _ ⟨b5, rfl, rfl⟩
  refine JL.mv (d := some 4) (MV.alloc [Seg.of (Enc.arr 32 (Enc.int .u8)) (Arr.rep 32 (0 : Int))] z_41 rfl) rfl rfl rfl ?_
  rintro _ _ ⟨b6, rfl, rfl⟩
  refine JL.nil ?_
  refine QJ.then_normal ?_
  refine JC.seq ?_
  refine JC.region ?_
  refine JL.mv (d := some 5) (MV.alloc [Seg.of (Enc.arr 65 (Enc.int .u8)) (Arr.rep 65 (0 : Int))] z_108 rfl) rfl rfl rfl ?_
  rintro _ _ ⟨b7, rfl, rfl⟩
  refine JL.nil ?_
  refine QJ.then_normal ?_
  refine JC.seq ?_
  refine JC.region ?_
  refine JL.val (v := .pointer (some ⟨b7, 0 + Int.toNat (0 : Int) * 1, none⟩)) (QV.indexB Try.underlying108 tk_5 rfl rfl (by decide)) rfl rfl rfl ?_
  refine JL.mv (d := none) (MV.storeAr (ss := [Seg.of (Enc.arr 65 (Enc.int .u8)) (Arr.rep 65 (0 : Int))]) 0 0 (1 : Int) rfl tk_5 rfl rfl rfl rfl (by decide) rfl rfl) rfl rfl rfl ?_
  rintro _ _ ⟨rfl, rfl⟩
  refine JL.nil ?_
  refine QJ.then_normal ?_
  refine JC.seq ?_
  refine JC.regionT [Asr.blk b6 41 [Seg.of (Enc.arr 32 (Enc.int .u8)) (Arr.rep 32 (0 : Int))], Asr.blk b5 41 [Seg.of (Enc.arr 32 (Enc.int .u8)) x2], Asr.blk b4 41 [Seg.of (Enc.arr 32 (Enc.int .u8)) x1]] (fun t => false) [(0, true), (1, false), (2, false)] (by kernel_rfl) (by kernel_rfl) (by kernel_rfl) rfl (fun hsel => ?_)
  refine JT.take (i := 0) (v := (SlV.sub ((Enc.int .u8)).sz (SlV.mk (some ⟨b7, 0, none⟩) 65 65) (1 : Int) ((65 : Nat) : Int)).v) hsel rfl (QV.sliceB Try.underlying108 tk_5 rfl rfl rfl (by decide)) rfl rfl rfl [1, 2, 3] rfl rfl ?_
  refine JT.only (i := 1) (d := some 8) rfl (MV.ofQV (v := (SlV.sub ((Enc.int .u8)).sz (SlV.mk (some ⟨b4, 0, none⟩) 32 32) (0 : Int) ((32 : Nat) : Int)).v) (QV.sliceB Try.underlying41 tk_5 rfl rfl rfl (by decide))) rfl rfl rfl ?_
  rintro _ _ ⟨rfl, rfl⟩
  refine ⟨fun _ => ⟨[1, 2, 3], rfl, rfl⟩, ?_⟩
  refine JT.only (i := 2) (d := some 9) rfl (MV.copyB (ss := [Seg.of (Enc.arr 65 (Enc.int .u8)) (Arr.set (Arr.rep 65 (0 : Int)) (0 : Int) (1 : Int))]) (xs := (Arr.set (Arr.rep 65 (0 : Int)) (0 : Int) (1 : Int))) (l := (1 : Int)) (h := ((65 : Nat) : Int)) 0 0 rfl (Rdg.ofDrv ((Drv.arr (ss := [Seg.of (Enc.arr 32 (Enc.int .u8)) x1]) 3 0 rfl rfl rfl rfl).subV (by rw [Arr.h]; exact (show 0 ≤ (0 : Int) ∧ (0 : Int) ≤ ((32 : Nat) : Int) ∧ ((32 : Nat) : Int) ≤ ((32 : Nat) : Int) from by decide)))) Try.underlying22 tk_5 rfl rfl rfl rfl (show 0 ≤ (1 : Int) ∧ (1 : Int) ≤ ((65 : Nat) : Int) ∧ ((65 : Nat) : Int) ≤ ((65 : Nat) : Int) from by decide)) rfl rfl rfl ?_
  rintro _ _ ⟨rfl, rfl⟩
  refine ⟨fun _ => ⟨[1, 2, 3], rfl, rfl⟩, ?_⟩
  refine JT.grow [Asr.blk b7 108 [Seg.of (Enc.arr 65 (Enc.int .u8)) (Arr.cp (Arr.set (Arr.rep 65 (0 : Int)) (0 : Int) (1 : Int)) (1 : Int) ((65 : Nat) : Int) (subL (x1).l (0 : Int) ((32 : Nat) : Int)))], Asr.blk b6 41 [Seg.of (Enc.arr 32 (Enc.int .u8)) (Arr.rep 32 (0 : Int))], Asr.blk b5 41 [Seg.of (Enc.arr 32 (Enc.int .u8)) x2], Asr.blk b4 41 [Seg.of (Enc.arr 32 (Enc.int .u8)) x1]] [1, 2, 3] rfl rfl ?_
  refine JT.nil ?_
  refine QJ.then_normal ?_
  refine JC.seq ?_
  refine JC.regionT [Asr.blk b6 41 [Seg.of (Enc.arr 32 (Enc.int .u8)) (Arr.rep 32 (0 : Int))], Asr.blk b5 41 [Seg.of (Enc.arr 32 (Enc.int .u8)) x2], Asr.blk b4 41 [Seg.of (Enc.arr 32 (Enc.int .u8)) x1]] (fun t => false) [(0, true), (1, false), (2, false)] (by kernel_rfl) (by kernel_rfl) (by kernel_rfl) rfl (fun hsel => ?_)
  refine JT.take (i := 0) (v := (SlV.sub ((Enc.int .u8)).sz (SlV.mk (some ⟨b7, 0, none⟩) 65 65) (33 : Int) ((65 : Nat) : Int)).v) hsel rfl (QV.sliceB Try.underlying108 tk_5 rfl rfl rfl (by decide)) rfl rfl rfl [1, 2, 3] rfl rfl ?_
  refine JT.only (i := 1) (d := some 11) rfl (MV.ofQV (v := (SlV.sub ((Enc.int .u8)).sz (SlV.mk (some ⟨b5, 0, none⟩) 32 32) (0 : Int) ((32 : Nat) : Int)).v) (QV.sliceB Try.underlying41 tk_5 rfl rfl rfl (by decide))) rfl rfl rfl ?_
  rintro _ _ ⟨rfl, rfl⟩
  refine ⟨fun _ => ⟨[1, 2, 3], rfl, rfl⟩, ?_⟩
  refine JT.only (i := 2) (d := some 12) rfl (MV.copyB (ss := [Seg.of (Enc.arr 65 (Enc.int .u8)) (Arr.cp (Arr.set (Arr.rep 65 (0 : Int)) (0 : Int) (1 : Int)) (1 : Int) ((65 : Nat) : Int) (subL (x1).l (0 : Int) ((32 : Nat) : Int)))]) (xs := (Arr.cp (Arr.set (Arr.rep 65 (0 : Int)) (0 : Int) (1 : Int)) (1 : Int) ((65 : Nat) : Int) (subL (x1).l (0 : Int) ((32 : Nat) : Int)))) (l := (33 : Int)) (h := ((65 : Nat) : Int)) 0 0 rfl (Rdg.ofDrv ((Drv.arr (ss := [Seg.of (Enc.arr 32 (Enc.int .u8)) x2]) 2 0 rfl rfl rfl rfl).subV (by rw [Arr.h]; exact (show 0 ≤ (0 : Int) ∧ (0 : Int) ≤ ((32 : Nat) : Int) ∧ ((32 : Nat) : Int) ≤ ((32 : Nat) : Int) from by decide)))) Try.underlying22 tk_5 rfl rfl rfl rfl (show 0 ≤ (33 : Int) ∧ (33 : Int) ≤ ((65 : Nat) : Int) ∧ ((65 : Nat) : Int) ≤ ((65 : Nat) : Int) from by decide)) rfl rfl rfl ?_
  rintro _ _ ⟨rfl, rfl⟩
  refine ⟨fun _ => ⟨[1, 2, 3], rfl, rfl⟩, ?_⟩
  refine JT.grow [Asr.blk b7 108 [Seg.of (Enc.arr 65 (Enc.int .u8)) (Arr.cp (Arr.cp (Arr.set (Arr.rep 65 (0 : Int)) (0 : Int) (1 : Int)) (1 : Int) ((65 : Nat) : Int) (subL (x1).l (0 : Int) ((32 : Nat) : Int))) (33 : Int) ((65 : Nat) : Int) (subL (x2).l (0 : Int) ((32 : Nat) : Int)))], Asr.blk b6 41 [Seg.of (Enc.arr 32 (Enc.int .u8)) (Arr.rep 32 (0 : Int))], Asr.blk b5 41 [Seg.of (Enc.arr 32 (Enc.int .u8)) x2], Asr.blk b4 41 [Seg.of (Enc.arr 32 (Enc.int .u8)) x1]] [1, 2, 3] rfl rfl ?_
  refine JT.nil ?_
  refine QJ.then_normal ?_
  refine JC.seq ?_
  refine JC.region ?_
  refine JL.val (v := (SlV.sub ((Enc.int .u8)).sz (SlV.mk (some ⟨b7, 0, none⟩) 65 65) (0 : Int) ((65 : Nat) : Int)).v) (QV.sliceB Try.underlying108 tk_5 rfl rfl rfl (by decide)) rfl rfl rfl ?_
  obtain ⟨y8, hc9, hm⟩ := bind_inv hm
  refine JL.mv (d := some 14) (MV.call (Lo := []) (Lr := [Asr.blk b7 108 [Seg.of (Enc.arr 65 (Enc.int .u8)) (Arr.cp (Arr.cp (Arr.set (Arr.rep 65 (0 : Int)) (0 : Int) (1 : Int)) (1 : Int) ((65 : Nat) : Int) (subL (x1).l (0 : Int) ((32 : Nat) : Int))) (33 : Int) ((65 : Nat) : Int) (subL (x2).l (0 : Int) ((32 : Nat) : Int)))], Asr.blk b6 41 [Seg.of (Enc.arr 32 (Enc.int .u8)) (Arr.rep 32 (0 : Int))], Asr.blk b5 41 [Seg.of (Enc.arr 32 (Enc.int .u8)) x2], Asr.blk b4 41 [Seg.of (Enc.arr 32 (Enc.int .u8)) x1]]) (F32.spec ((SlV.sub ((Enc.int .u8)).sz (SlV.mk (some ⟨b7, 0, none⟩) 65 65) (0 : Int) ((65 : Nat) : Int))) ((subL ((Arr.cp (Arr.cp (Arr.set (Arr.rep 65 (0 : Int)) (0 : Int) (1 : Int)) (1 : Int) ((65 : Nat) : Int) (subL (x1).l (0 : Int) ((32 : Nat) : Int))) (33 : Int) ((65 : Nat) : Int) (subL (x2).l (0 : Int) ((32 : Nat) : Int)))).l (0 : Int) ((65 : Nat) : Int))) _ hc9) rfl Try.func32 rfl rfl rfl [] [0, 1, 2, 3] rfl rfl rfl ⟨((Drv.arr (ss := [Seg.of (Enc.arr 65 (Enc.int .u8)) (Arr.cp (Arr.cp (Arr.set (Arr.rep 65 (0 : Int)) (0 : Int) (1 : Int)) (1 : Int) ((65 : Nat) : Int) (subL (x1).l (0 : Int) ((32 : Nat) : Int))) (33 : Int) ((65 : Nat) : Int) (subL (x2).l (0 : Int) ((32 : Nat) : Int)))]) 0 0 rfl rfl rfl rfl).subV (by rw [Arr.h]; exact (show 0 ≤ (0 : Int) ∧ (0 : Int) ≤ ((65 : Nat) : Int) ∧ ((65 : Nat) : Int) ≤ ((65 : Nat) : Int) from by decide))), trivial⟩) rfl rfl rfl ?_
  rintro _ _ ⟨_, ⟨rfl, rfl⟩, rfl⟩
  refine JL.mv (d := none) (MV.store (ss := [Seg.of (Enc.arr 32 (Enc.int .u8)) (Arr.rep 32 (0 : Int))]) 1 0 1 [Seg.of (Enc.arr 32 (Enc.int .u8)) y8] rfl tk_41 rfl rfl rfl rfl (fun w hs => ⟨rfl, one_of _ _, trivial⟩)) rfl rfl rfl ?_
  rintro _ _ ⟨rfl, rfl⟩
  refine JL.nil ?_
  refine QJ.then_normal ?_
  refine JC.ret ?_
  obtain rfl := Option.some.inj hm
  exact QJ.body (vs := [.agg (((Enc.arr 32 (Enc.int .u8))).enc y8).toArray]) (.inl rfl) rfl (ResVs.cons (ResV.cell (d := none) (ty := 0) (ps := "") (af := #[]) (g := none) rfl (QV.eq (QV.loadN (ss := [Seg.of (Enc.arr 32 (Enc.int .u8)) y8]) 1 0 1 rfl tk_41 rfl rfl rfl rfl) rfl)) ResVs.nil) [] rfl rfl (.inr trivial) ⟨rfl, rfl⟩

/-! ### 13: drogher/drogherlaw21.MerkleRoots -/
noncomputable def F13.m (x2 : List Int) (x4 : List (Arr Int 32)) : Option Bool :=
  (if (500 : Int) < ((x2).length : Int) then ((F41.m).bind fun y7 => some y7) else (if (100 : Int) < ((x4).length : Int) then ((F41.m).bind fun y10 => some y10) else ((F42.m (x2)).bind fun y12 => ((F43.m (x2)).bind fun y14 => (if y12 = y14 then ((F45.m (x4)).bind fun y17 => ((F44.m (y17)).bind fun y20 => ((F46.m (x4)).bind fun y22 => (if y20 = y22 then (if ((x4).length : Int) < (2 : Int) then ((F41.m).bind fun y26 => some y26) else (if 0 ≤ (0 : Int) ∧ (0 : Int) < ((x4).length : Int) then (if 0 ≤ (1 : Int) ∧ (1 : Int) < ((x4).length : Int) then ((F47_1.m ((gd x4 (0 : Int))) ((gd x4 (1 : Int)))).bind fun y30 => ((F48.m ((gd x4 (0 : Int))) ((gd x4 (1 : Int)))).bind fun y32 => (if y30 = y32 then ((F41.m).bind fun y35 => some y35) else some false))) else none) else none)) else some false)))) else some false)))))
set_option maxRecDepth 100000 in
set_option maxHeartbeats 4000000 in
theorem F13.spec (s1 : SlV) (s3 : SlV) (x2 : List Int) (x4 : List (Arr Int 32)) (r : Bool) (hm : F13.m x2 x4 = some r) :
    Ctr Try.prog false 13 [s1.v, s3.v] [Asr.vw (Enc.int .u8) (s1.v) x2, Asr.vw (Enc.arr 32 (Enc.int .u8)) (s3.v) x4] (fun v L' => v = .bool r ∧ L' = []) := by
  refine Ctr.intro (n := 50) (env := [(0, s1.v), (1, s3.v)]) Try.func13 rfl rfl rfl rfl (fun c => ?_)
  unfold F13.m at hm
  refine JC.seq ?_
  refine JC.region ?_
  refine JL.val (v := .bool false) (QV.assign rfl) rfl rfl rfl ?_
  refine JL.nil ?_
  refine QJ.then_normal ?_
  refine JC.seq ?_
  refine JC.seq ?_
  refine JC.region ?_
  refine JL.val (v := s1.v) (QV.move rfl) rfl rfl rfl ?_
  refine JL.val (v := .int .i64 ((x2).length : Int)) (QV.len (Rdg.vw 0 rfl) Try.underlying22 rfl) rfl rfl rfl ?_
  refine JL.val (v := .bool (decide ((500 : Int) < ((x2).length : Int)))) (QV.gtr rfl rfl) rfl rfl rfl ?_
  rcases ite_inv hm with ⟨h6, hm⟩ | ⟨h6, hm⟩
  ·
    refine JL.val (v := .bool true) (QV.eq (QV.move rfl) (congrArg Value.bool (decide_eq_true h6))) rfl rfl rfl ?_
    refine JL.skip (d := some 9) rfl rfl rfl ?_
    refine JL.skip (d := some 10) rfl rfl rfl ?_
    refine JL.skip (d := some 11) rfl rfl rfl ?_
    refine JL.val (v := .bool true) (QV.pickT rfl rfl) rfl rfl rfl ?_
    refine JL.nil ?_
    refine QJ.then_normal ?_
    refine JC.condT rfl ?_
    refine JC.seq ?_
    refine JC.region ?_
    obtain ⟨y7, hc8, hm⟩ := bind_inv hm
    refine JL.mv (d := some 13) (MV.call (Lo := []) (Lr := [Asr.vw (Enc.int .u8) (s1.v) x2, Asr.vw (Enc.arr 32 (Enc.int .u8)) (s3.v) x4]) (F41.spec _ hc8) rfl Try.func41 rfl rfl rfl [] [0, 1] rfl rfl rfl trivial) rfl rfl rfl ?_
    rintro _ _ ⟨_, ⟨rfl, rfl⟩, rfl⟩
    refine JL.val (v := .bool y7) (QV.assign rfl) rfl rfl rfl ?_
    refine JL.nil ?_
    refine QJ.then_normal ?_
    refine JC.ret ?_
    refine QJ.then_ret ?_
    obtain rfl := Option.some.inj hm
    exact QJ.body (vs := [.bool y7]) (.inl rfl) rfl (ResVs.cons (ResV.tmp rfl) ResVs.nil) [] rfl rfl (.inr trivial) ⟨rfl, rfl⟩
  ·
    refine JL.val (v := .bool false) (QV.eq (QV.move rfl) (congrArg Value.bool (decide_eq_false h6))) rfl rfl rfl ?_
    refine JL.val (v := s3.v) (QV.move rfl) rfl rfl rfl ?_
    refine JL.val (v := .int .i64 ((x4).length : Int)) (QV.len (Rdg.vw 1 rfl) Try.underlying55 rfl) rfl rfl rfl ?_
    refine JL.val (v := .bool (decide ((100 : Int) < ((x4).length : Int)))) (QV.gtr rfl rfl) rfl rfl rfl ?_
    refine JL.val (v := .bool (decide ((100 : Int) < ((x4).length : Int)))) (QV.pickF rfl rfl) rfl rfl rfl ?_
    refine JL.nil ?_
    refine QJ.then_normal ?_
    rcases ite_inv hm with ⟨h9, hm⟩ | ⟨h9, hm⟩
    ·
      refine JC.condT' rfl (decide_eq_true h9) ?_
      refine JC.seq ?_
      refine JC.region ?_
      obtain ⟨y10, hc11, hm⟩ := bind_inv hm
      refine JL.mv (d := some 13) (MV.call (Lo := []) (Lr := [Asr.vw (Enc.int .u8) (s1.v) x2, Asr.vw (Enc.arr 32 (Enc.int .u8)) (s3.v) x4]) (F41.spec _ hc11) rfl Try.func41 rfl rfl rfl [] [0, 1] rfl rfl rfl trivial) rfl rfl rfl ?_
      rintro _ _ ⟨_, ⟨rfl, rfl⟩, rfl⟩
      refine JL.val (v := .bool y10) (QV.assign rfl) rfl rfl rfl ?_
      refine JL.nil ?_
      refine QJ.then_normal ?_
      refine JC.ret ?_
      refine QJ.then_ret ?_
      obtain rfl := Option.some.inj hm
      exact QJ.body (vs := [.bool y10]) (.inl rfl) rfl (ResVs.cons (ResV.tmp rfl) ResVs.nil) [] rfl rfl (.inr trivial) ⟨rfl, rfl⟩
    ·
      refine JC.condF' rfl (decide_eq_false h9) ?_
      refine JC.skip ?_
      refine QJ.then_normal ?_
      refine JC.seq ?_
      refine JC.seq ?_
      refine JC.region ?_
      refine JL.val (v := s1.v) (QV.move rfl) rfl rfl rfl ?_
      obtain ⟨y12, hc13, hm⟩ := bind_inv hm
      refine JL.mv (d := some 15) (MV.call (Lo := []) (Lr := [Asr.vw (Enc.int .u8) (s1.v) x2, Asr.vw (Enc.arr 32 (Enc.int .u8)) (s3.v) x4]) (F42.spec (s1) (x2) _ hc13) rfl Try.func42 rfl rfl rfl [] [0, 1] rfl rfl rfl ⟨(Drv.vw 0 rfl), trivial⟩) rfl rfl rfl ?_
      rintro _ _ ⟨_, ⟨rfl, rfl⟩, rfl⟩
      refine JL.val (v := s1.v) (QV.move rfl) rfl rfl rfl ?_
      obtain ⟨y14, hc15, hm⟩ := bind_inv hm
      refine JL.mv (d := some 17) (MV.call (Lo := []) (Lr := [Asr.vw (Enc.int .u8) (s1.v) x2, Asr.vw (Enc.arr 32 (Enc.int .u8)) (s3.v) x4]) (F43.spec (s1) (x2) _ hc15) rfl Try.func43 rfl rfl rfl [] [0, 1] rfl rfl rfl ⟨(Drv.vw 0 rfl), trivial⟩) rfl rfl rfl ?_
      rintro _ _ ⟨_, ⟨rfl, rfl⟩, rfl⟩
      refine JL.val (v := .bool (!(decide (y12 = y14)))) (QV.neqE (E := (Enc.arr 32 (Enc.int .u8))) (a := y12) (b := y14) zeq_41 (by kernel_rfl) rfl rfl) rfl rfl rfl ?_
      rcases ite_inv hm with ⟨h16, hm⟩ | ⟨h16, hm⟩
      ·
        refine JL.val (v := .bool false) (QV.eq (QV.move rfl) (congrArg Value.bool (congrArg Bool.not (decide_eq_true h16)))) rfl rfl rfl ?_
        refine JL.val (v := s3.v) (QV.move rfl) rfl rfl rfl ?_
        obtain ⟨y17, hc18, hm⟩ := bind_inv hm
        refine JL.mv (d := some 21) (MV.call (Lo := []) (Lr := [Asr.vw (Enc.int .u8) (s1.v) x2, Asr.vw (Enc.arr 32 (Enc.int .u8)) (s3.v) x4]) (F45.spec (s3) (x4) _ hc18) rfl Try.func45 rfl rfl rfl [] [0, 1] rfl rfl rfl ⟨(Drv.vw 1 rfl), trivial⟩) rfl rfl rfl ?_
        rintro _ _ ⟨_, ⟨z19, rfl, rfl⟩, rfl⟩
        obtain ⟨y20, hc21, hm⟩ := bind_inv hm
        refine JL.mv (d := some 22) (MV.call (Lo := []) (Lr := [Asr.of 41 (Enc.arr 32 (Enc.int .u8)) (z19.v) y17, Asr.vw (Enc.int .u8) (s1.v) x2, Asr.vw (Enc.arr 32 (Enc.int .u8)) (s3.v) x4]) (F44.spec (z19) (y17) _ hc21) rfl Try.func44 rfl rfl rfl [] [0, 1, 2] rfl rfl rfl ⟨(Drv.of 0 rfl), trivial⟩) rfl rfl rfl ?_
        rintro _ _ ⟨_, ⟨rfl, rfl⟩, rfl⟩
        refine JL.val (v := s3.v) (QV.move rfl) rfl rfl rfl ?_
        obtain ⟨y22, hc23, hm⟩ := bind_inv hm
        refine JL.mv (d := some 24) (MV.call (Lo := []) (Lr := [Asr.of 41 (Enc.arr 32 (Enc.int .u8)) (z19.v) y17, Asr.vw (Enc.int .u8) (s1.v) x2, Asr.vw (Enc.arr 32 (Enc.int .u8)) (s3.v) x4]) (F46.spec (s3) (x4) _ hc23) rfl Try.func46 rfl rfl rfl [] [0, 1, 2] rfl rfl rfl ⟨(Drv.vw 2 rfl), trivial⟩) rfl rfl rfl ?_
        rintro _ _ ⟨_, ⟨rfl, rfl⟩, rfl⟩
        refine JL.val (v := .bool (!(decide (y20 = y22)))) (QV.neqE (E := (Enc.arr 32 (Enc.int .u8))) (a := y20) (b := y22) zeq_41 (by kernel_rfl) rfl rfl) rfl rfl rfl ?_
        refine JL.val (v := .bool (!(decide (y20 = y22)))) (QV.pickF rfl rfl) rfl rfl rfl ?_
        refine JL.nil ?_
        refine QJ.then_normal ?_
        rcases ite_inv hm with ⟨h24, hm⟩ | ⟨h24, hm⟩
        ·
          refine JC.condF' rfl (congrArg Bool.not (decide_eq_true h24)) ?_
          refine JC.skip ?_
          refine QJ.then_normal ?_
          refine JC.seq ?_
          refine JC.regionT [Asr.of 41 (Enc.arr 32 (Enc.int .u8)) (z19.v) y17, Asr.vw (Enc.int .u8) (s1.v) x2, Asr.vw (Enc.arr 32 (Enc.int .u8)) (s3.v) x4] (fun t => false) [(0, false), (1, false), (2, false), (3, false), (4, true), (5, true), (6, true), (7, true), (8, true), (9, true), (11, true), (12, true), (13, true), (14, true), (15, true), (16, true), (10, false), (17, false), (18, false), (19, false), (20, false), (21, false), (22, false), (23, false)] (by kernel_rfl) (by kernel_rfl) (by kernel_rfl) rfl (fun hsel => ?_)
          refine JT.only (i := 0) (d := some 27) rfl (MV.ofQV (v := s3.v) (QV.move rfl)) rfl rfl rfl ?_
          rintro _ _ ⟨rfl, rfl⟩
          refine ⟨fun _ => ⟨[0, 1, 2], rfl, rfl⟩, ?_⟩
          refine JT.only (i := 1) (d := some 28) rfl (MV.ofQV (v := .int .i64 ((x4).length : Int)) (QV.len (Rdg.vw 2 rfl) Try.underlying55 rfl)) rfl rfl rfl ?_
          rintro _ _ ⟨rfl, rfl⟩
          refine ⟨fun _ => ⟨[0, 1, 2], rfl, rfl⟩, ?_⟩
          refine JT.only (i := 2) (d := some 29) rfl (MV.ofQV (v := .bool (decide (((x4).length : Int) < (2 : Int)))) (QV.lss rfl rfl)) rfl rfl rfl ?_
          rintro _ _ ⟨rfl, rfl⟩
          refine ⟨fun _ => ⟨[0, 1, 2], rfl, rfl⟩, ?_⟩
          rcases ite_inv hm with ⟨h25, hm⟩ | ⟨h25, hm⟩
          ·
            refine JT.only (i := 3) (d := some 30) rfl (MV.ofQV (v := .bool true) (QV.eq (QV.move rfl) (congrArg Value.bool (decide_eq_true h25)))) rfl rfl rfl ?_
            rintro _ _ ⟨rfl, rfl⟩
            refine ⟨fun _ => ⟨[0, 1, 2], rfl, rfl⟩, ?_⟩
            refine JT.skip (i := 4) (d := some 31) hsel rfl rfl rfl rfl [0, 1, 2] rfl rfl ?_
            refine JT.skip (i := 5) (d := some 32) hsel rfl rfl rfl rfl [0, 1, 2] rfl rfl ?_
            refine JT.skip (i := 6) (d := some 33) hsel rfl rfl rfl rfl [0, 1, 2] rfl rfl ?_
            refine JT.skip (i := 7) (d := some 34) hsel rfl rfl rfl rfl [0, 1, 2] rfl rfl ?_
            refine JT.skip (i := 8) (d := some 35) hsel rfl rfl rfl rfl [0, 1, 2] rfl rfl ?_
            refine JT.skip (i := 9) (d := some 36) hsel rfl rfl rfl rfl [0, 1, 2] rfl rfl ?_
            refine JT.skip (i := 11) (d := some 38) hsel rfl rfl rfl rfl [0, 1, 2] rfl rfl ?_
            refine JT.skip (i := 12) (d := some 39) hsel rfl rfl rfl rfl [0, 1, 2] rfl rfl ?_
            refine JT.skip (i := 13) (d := some 40) hsel rfl rfl rfl rfl [0, 1, 2] rfl rfl ?_
            refine JT.skip (i := 14) (d := some 41) hsel rfl rfl rfl rfl [0, 1, 2] rfl rfl ?_
            refine JT.skip (i := 15) (d := some 42) hsel rfl rfl rfl rfl [0, 1, 2] rfl rfl ?_
            refine JT.skip (i := 16) (d := some 43) hsel rfl rfl rfl rfl [0, 1, 2] rfl rfl ?_
            refine JT.skipO (i := 10) (d := some 37) rfl rfl rfl rfl [0, 1, 2] rfl rfl ?_
            refine JT.skipO (i := 17) (d := some 44) rfl rfl rfl rfl [0, 1, 2] rfl rfl ?_
            refine JT.skipO (i := 18) (d := some 45) rfl rfl rfl rfl [0, 1, 2] rfl rfl ?_
            refine JT.only (i := 19) (d := some 46) rfl (MV.ofQV (v := .bool true) (QV.pickT rfl rfl)) rfl rfl rfl ?_
            rintro _ _ ⟨rfl, rfl⟩
            refine ⟨fun _ => ⟨[0, 1, 2], rfl, rfl⟩, ?_⟩
            refine JT.only (i := 20) (d := some 47) rfl (MV.ofQV (v := .bool true) (QV.move rfl)) rfl rfl rfl ?_
            rintro _ _ ⟨rfl, rfl⟩
            refine ⟨fun _ => ⟨[0, 1, 2], rfl, rfl⟩, ?_⟩
            obtain ⟨y26, hc27, hm⟩ := bind_inv hm
            refine JT.only (i := 21) (d := some 48) rfl (MV.call (Lo := []) (Lr := [Asr.of 41 (Enc.arr 32 (Enc.int .u8)) (z19.v) y17, Asr.vw (Enc.int .u8) (s1.v) x2, Asr.vw (Enc.arr 32 (Enc.int .u8)) (s3.v) x4]) (F41.spec _ hc27) rfl Try.func41 rfl rfl rfl [] [0, 1, 2] rfl rfl rfl trivial) rfl rfl rfl ?_
            rintro _ _ ⟨_, ⟨rfl, rfl⟩, rfl⟩
            refine ⟨fun _ => ⟨[0, 1, 2], rfl, rfl⟩, ?_⟩
            refine JT.only (i := 22) (d := some 49) rfl (MV.ofQV (v := .bool y26) (QV.pickT rfl rfl)) rfl rfl rfl ?_
            rintro _ _ ⟨rfl, rfl⟩
            refine ⟨fun _ => ⟨[0, 1, 2], rfl, rfl⟩, ?_⟩
            refine JT.only (i := 23) (d := some 4) rfl (MV.ofQV (v := .bool y26) (QV.assign rfl)) rfl rfl rfl ?_
            rintro _ _ ⟨rfl, rfl⟩
            refine ⟨fun _ => ⟨[0, 1, 2], rfl, rfl⟩, ?_⟩
            refine JT.nil ?_
            refine QJ.then_normal ?_
            refine JC.ret ?_
            obtain rfl := Option.some.inj hm
            exact QJ.body (vs := [.bool y26]) (.inl rfl) rfl (ResVs.cons (ResV.tmp rfl) ResVs.nil) [] rfl rfl (.inr trivial) ⟨rfl, rfl⟩
          ·
            refine JT.only (i := 3) (d := some 30) rfl (MV.ofQV (v := .bool false) (QV.eq (QV.move rfl) (congrArg Value.bool (decide_eq_false h25)))) rfl rfl rfl ?_
            rintro _ _ ⟨rfl, rfl⟩
            refine ⟨fun _ => ⟨[0, 1, 2], rfl, rfl⟩, ?_⟩
            refine JT.take (i := 4) (v := s3.v) hsel rfl (QV.move rfl) rfl rfl rfl [0, 1, 2] rfl rfl ?_
            obtain ⟨h28, hm⟩ := guard_inv hm
            refine JT.take (i := 5) (v := .pointer (some (elA (s3.v) (Int.toNat (0 : Int) * ((Enc.arr 32 (Enc.int .u8))).sz)))) hsel rfl (QV.indexA (Rdg.vw 2 rfl) Try.underlying55 tk_39 rfl rfl h28) rfl rfl rfl [0, 1, 2] rfl rfl ?_
            refine JT.take (i := 6) (v := .agg (((Enc.arr 32 (Enc.int .u8))).enc (gd x4 (0 : Int))).toArray) hsel rfl (QV.eq (QV.elN (Rdg.vw 2 rfl) tk_39 rfl h28) rfl) rfl rfl rfl [0, 1, 2] rfl rfl ?_
            refine JT.take (i := 7) (v := s3.v) hsel rfl (QV.move rfl) rfl rfl rfl [0, 1, 2] rfl rfl ?_
            obtain ⟨h29, hm⟩ := guard_inv hm
            refine JT.take (i := 8) (v := .pointer (some (elA (s3.v) (Int.toNat (1 : Int) * ((Enc.arr 32 (Enc.int .u8))).sz)))) hsel rfl (QV.indexA (Rdg.vw 2 rfl) Try.underlying55 tk_39 rfl rfl h29) rfl rfl rfl [0, 1, 2] rfl rfl ?_
            refine JT.take (i := 9) (v := .agg (((Enc.arr 32 (Enc.int .u8))).enc (gd x4 (1 : Int))).toArray) hsel rfl (QV.eq (QV.elN (Rdg.vw 2 rfl) tk_39 rfl h29) rfl) rfl rfl rfl [0, 1, 2] rfl rfl ?_
            refine JT.take (i := 11) (v := s3.v) hsel rfl (QV.move rfl) rfl rfl rfl [0, 1, 2] rfl rfl ?_
            refine JT.take (i := 12) (v := .pointer (some (elA (s3.v) (Int.toNat (0 : Int) * ((Enc.arr 32 (Enc.int .u8))).sz)))) hsel rfl (QV.indexA (Rdg.vw 2 rfl) Try.underlying55 tk_39 rfl rfl h28) rfl rfl rfl [0, 1, 2] rfl rfl ?_
            refine JT.take (i := 13) (v := .agg (((Enc.arr 32 (Enc.int .u8))).enc (gd x4 (0 : Int))).toArray) hsel rfl (QV.eq (QV.elN (Rdg.vw 2 rfl) tk_39 rfl h28) rfl) rfl rfl rfl [0, 1, 2] rfl rfl ?_
            refine JT.take (i := 14) (v := s3.v) hsel rfl (QV.move rfl) rfl rfl rfl [0, 1, 2] rfl rfl ?_
            refine JT.take (i := 15) (v := .pointer (some (elA (s3.v) (Int.toNat (1 : Int) * ((Enc.arr 32 (Enc.int .u8))).sz)))) hsel rfl (QV.indexA (Rdg.vw 2 rfl) Try.underlying55 tk_39 rfl rfl h29) rfl rfl rfl [0, 1, 2] rfl rfl ?_
            refine JT.take (i := 16) (v := .agg (((Enc.arr 32 (Enc.int .u8))).enc (gd x4 (1 : Int))).toArray) hsel rfl (QV.eq (QV.elN (Rdg.vw 2 rfl) tk_39 rfl h29) rfl) rfl rfl rfl [0, 1, 2] rfl rfl ?_
            obtain ⟨y30, hc31, hm⟩ := bind_inv hm
            refine JT.only (i := 10) (d := some 37) rfl (MV.call (Lo := []) (Lr := [Asr.of 41 (Enc.arr 32 (Enc.int .u8)) (z19.v) y17, Asr.vw (Enc.int .u8) (s1.v) x2, Asr.vw (Enc.arr 32 (Enc.int .u8)) (s3.v) x4]) (F47_1.spec ((gd x4 (0 : Int))) ((gd x4 (1 : Int))) _ hc31) rfl Try.func47 rfl rfl rfl [] [0, 1, 2] rfl rfl rfl trivial) rfl rfl rfl ?_
            rintro _ _ ⟨_, ⟨rfl, rfl⟩, rfl⟩
            refine ⟨fun _ => ⟨[0, 1, 2], rfl, rfl⟩, ?_⟩
            obtain ⟨y32, hc33, hm⟩ := bind_inv hm
            refine JT.only (i := 17) (d := some 44) rfl (MV.call (Lo := []) (Lr := [Asr.of 41 (Enc.arr 32 (Enc.int .u8)) (z19.v) y17, Asr.vw (Enc.int .u8) (s1.v) x2, Asr.vw (Enc.arr 32 (Enc.int .u8)) (s3.v) x4]) (F48.spec ((gd x4 (0 : Int))) ((gd x4 (1 : Int))) _ hc33) rfl Try.func48 rfl rfl rfl [] [0, 1, 2] rfl rfl rfl trivial) rfl rfl rfl ?_
            rintro _ _ ⟨_, ⟨rfl, rfl⟩, rfl⟩
            refine ⟨fun _ => ⟨[0, 1, 2], rfl, rfl⟩, ?_⟩
            refine JT.only (i := 18) (d := some 45) rfl (MV.ofQV (v := .bool (decide (y30 = y32))) (QV.eqlE (E := (Enc.arr 32 (Enc.int .u8))) (a := y30) (b := y32) zeq_41 (by kernel_rfl) rfl rfl)) rfl rfl rfl ?_
            rintro _ _ ⟨rfl, rfl⟩
            refine ⟨fun _ => ⟨[0, 1, 2], rfl, rfl⟩, ?_⟩
            refine JT.only (i := 19) (d := some 46) rfl (MV.ofQV (v := .bool (decide (y30 = y32))) (QV.pickF rfl rfl)) rfl rfl rfl ?_
            rintro _ _ ⟨rfl, rfl⟩
            refine ⟨fun _ => ⟨[0, 1, 2], rfl, rfl⟩, ?_⟩
            rcases ite_inv hm with ⟨h34, hm⟩ | ⟨h34, hm⟩
            ·
              refine JT.only (i := 20) (d := some 47) rfl (MV.ofQV (v := .bool true) (QV.eq (QV.move rfl) (congrArg Value.bool (decide_eq_true h34)))) rfl rfl rfl ?_
              rintro _ _ ⟨rfl, rfl⟩
              refine ⟨fun _ => ⟨[0, 1, 2], rfl, rfl⟩, ?_⟩
              obtain ⟨y35, hc36, hm⟩ := bind_inv hm
              refine JT.only (i := 21) (d := some 48) rfl (MV.call (Lo := []) (Lr := [Asr.of 41 (Enc.arr 32 (Enc.int .u8)) (z19.v) y17, Asr.vw (Enc.int .u8) (s1.v) x2, Asr.vw (Enc.arr 32 (Enc.int .u8)) (s3.v) x4]) (F41.spec _ hc36) rfl Try.func41 rfl rfl rfl [] [0, 1, 2] rfl rfl rfl trivial) rfl rfl rfl ?_
              rintro _ _ ⟨_, ⟨rfl, rfl⟩, rfl⟩
              refine ⟨fun _ => ⟨[0, 1, 2], rfl, rfl⟩, ?_⟩
              refine JT.only (i := 22) (d := some 49) rfl (MV.ofQV (v := .bool y35) (QV.pickT rfl rfl)) rfl rfl rfl ?_
              rintro _ _ ⟨rfl, rfl⟩
              refine ⟨fun _ => ⟨[0, 1, 2], rfl, rfl⟩, ?_⟩
              refine JT.only (i := 23) (d := some 4) rfl (MV.ofQV (v := .bool y35) (QV.assign rfl)) rfl rfl rfl ?_
              rintro _ _ ⟨rfl, rfl⟩
              refine ⟨fun _ => ⟨[0, 1, 2], rfl, rfl⟩, ?_⟩
              refine JT.nil ?_
              refine QJ.then_normal ?_
              refine JC.ret ?_
              obtain rfl := Option.some.inj hm
              exact QJ.body (vs := [.bool y35]) (.inl rfl) rfl (ResVs.cons (ResV.tmp rfl) ResVs.nil) [] rfl rfl (.inr trivial) ⟨rfl, rfl⟩
            ·
              refine JT.only (i := 20) (d := some 47) rfl (MV.ofQV (v := .bool false) (QV.eq (QV.move rfl) (congrArg Value.bool (decide_eq_false h34)))) rfl rfl rfl ?_
              rintro _ _ ⟨rfl, rfl⟩
              refine ⟨fun _ => ⟨[0, 1, 2], rfl, rfl⟩, ?_⟩
              refine JT.skipO (i := 21) (d := some 48) rfl rfl rfl rfl [0, 1, 2] rfl rfl ?_
              refine JT.only (i := 22) (d := some 49) rfl (MV.ofQV (v := .bool false) (QV.pickF rfl rfl)) rfl rfl rfl ?_
              rintro _ _ ⟨rfl, rfl⟩
              refine ⟨fun _ => ⟨[0, 1, 2], rfl, rfl⟩, ?_⟩
              refine JT.only (i := 23) (d := some 4) rfl (MV.ofQV (v := .bool false) (QV.assign rfl)) rfl rfl rfl ?_
              rintro _ _ ⟨rfl, rfl⟩
              refine ⟨fun _ => ⟨[0, 1, 2], rfl, rfl⟩, ?_⟩
              refine JT.nil ?_
              refine QJ.then_normal ?_
              refine JC.ret ?_
              obtain rfl := Option.some.inj hm
              exact QJ.body (vs := [.bool false]) (.inl rfl) rfl (ResVs.cons (ResV.tmp rfl) ResVs.nil) [] rfl rfl (.inr trivial) ⟨rfl, rfl⟩
        ·
          refine JC.condT' rfl (congrArg Bool.not (decide_eq_false h24)) ?_
          refine JC.seq ?_
          refine JC.region ?_
          refine JL.val (v := .bool false) (QV.assign rfl) rfl rfl rfl ?_
          refine JL.nil ?_
          refine QJ.then_normal ?_
          refine JC.ret ?_
          refine QJ.then_ret ?_
          obtain rfl := Option.some.inj hm
          exact QJ.body (vs := [.bool false]) (.inl rfl) rfl (ResVs.cons (ResV.tmp rfl) ResVs.nil) [] rfl rfl (.inr trivial) ⟨rfl, rfl⟩
      ·
        refine JL.val (v := .bool true) (QV.eq (QV.move rfl) (congrArg Value.bool (congrArg Bool.not (decide_eq_false h16)))) rfl rfl rfl ?_
        refine JL.skip (d := some 20) rfl rfl rfl ?_
        refine JL.skip (d := some 21) rfl rfl rfl ?_
        refine JL.skip (d := some 22) rfl rfl rfl ?_
        refine JL.skip (d := some 23) rfl rfl rfl ?_
        refine JL.skip (d := some 24) rfl rfl rfl ?_
        refine JL.skip (d := some 25) rfl rfl rfl ?_
        refine JL.val (v := .bool true) (QV.pickT rfl rfl) rfl rfl rfl ?_
        refine JL.nil ?_
        refine QJ.then_normal ?_
        refine JC.condT rfl ?_
        refine JC.seq ?_
        refine JC.region ?_
        refine JL.val (v := .bool false) (QV.assign rfl) rfl rfl rfl ?_
        refine JL.nil ?_
        refine QJ.then_normal ?_
        refine JC.ret ?_
        refine QJ.then_ret ?_
        obtain rfl := Option.some.inj hm
        exact QJ.body (vs := [.bool false]) (.inl rfl) rfl (ResVs.cons (ResV.tmp rfl) ResVs.nil) [] rfl rfl (.inr trivial) ⟨rfl, rfl⟩

end Go.Proofs.Ytmedbpiapeiobaa
