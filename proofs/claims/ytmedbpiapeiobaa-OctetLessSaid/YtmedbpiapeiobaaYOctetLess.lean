/- Written by gen.py: functions and their contracts. -/
import Derived.Test.YtmedbpiapeiobaaOct
namespace Go.Proofs.Ytmedbpiapeiobaa
open Go Go.Eng Go.Proofs
set_option linter.unusedVariables false
set_option linter.unusedSimpArgs false
/-! ### 7: drogher/drogherlaw02.OctetLess -/
noncomputable def F7.m (x1 : (Arr Int 32)) (x2 : Int) (x3 : Int) (x4 : Int) : Option Bool :=
  ((F23.m ((subL (x1).l (0 : Int) ((32 : Nat) : Int))) (x3)).bind fun y7 => (if x2 < (0 : Int) then ((F21.m).bind fun y11 => some y11) else (if ((y7).length : Int) ≤ x2 then ((F21.m).bind fun y14 => some y14) else (if 0 ≤ (IntKind.wrap .i64 (Int.tdiv (IntKind.wrap .i64 (x2 * x3)) (8 : Int))) ∧ (IntKind.wrap .i64 (Int.tdiv (IntKind.wrap .i64 (x2 * x3)) (8 : Int))) < 32 then ((F29.m ((subL (x1).l (0 : Int) ((32 : Nat) : Int))) (x3)).bind fun y18 => ((F29.m ((subL ((Arr.set x1 (IntKind.wrap .i64 (Int.tdiv (IntKind.wrap .i64 (x2 * x3)) (8 : Int))) (orI .u8 (gd (x1).l (IntKind.wrap .i64 (Int.tdiv (IntKind.wrap .i64 (x2 * x3)) (8 : Int)))) x4))).l (0 : Int) ((32 : Nat) : Int))) (x3)).bind fun y20 => (if x1 = (Arr.set x1 (IntKind.wrap .i64 (Int.tdiv (IntKind.wrap .i64 (x2 * x3)) (8 : Int))) (orI .u8 (gd (x1).l (IntKind.wrap .i64 (Int.tdiv (IntKind.wrap .i64 (x2 * x3)) (8 : Int)))) x4)) then (if y18 = y20 then ((F21.m).bind fun y24 => some y24) else some false) else (if y20 < y18 then ((F21.m).bind fun y27 => some y27) else some false)))) else none))))
set_option maxRecDepth 100000 in
set_option maxHeartbeats 4000000 in
theorem F7.spec (x1 : (Arr Int 32)) (x2 : Int) (x3 : Int) (x4 : Int) (r : Bool) (hm : F7.m x1 x2 x3 x4 = some r) :
    Ctr Try.prog false 7 [.agg (((Enc.arr 32 (Enc.int .u8))).enc x1).toArray, .int .i64 x2, .int .i64 x3, .int .u8 x4] [] (fun v L' => v = .bool r ∧ L' = []) := by
  refine Ctr.intro (n := 60) (env := [(0, .agg (((Enc.arr 32 (Enc.int .u8))).enc x1).toArray), (1, .int .i64 x2), (2, .int .i64 x3), (3, .int .u8 x4)]) Try.func7 rfl rfl rfl rfl (fun c => ?_)
  unfold F7.m at hm
  refine JC.seq ?_
  refine JC.region ?_
  refine JL.mv (d := some 4) (MV.box [Seg.of (Enc.arr 32 (Enc.int .u8)) x1] rfl (fun w hs => rfl)) rfl rfl rfl ?_
  rintro _ _ ⟨b6, rfl, rfl⟩
  refine JL.val (v := .bool false) (QV.assign rfl) rfl rfl rfl ?_
  refine JL.nil ?_
  refine QJ.then_normal ?_
  refine JC.seq ?_
  refine JC.region ?_
  refine JL.val (v := (SlV.sub ((Enc.int .u8)).sz (SlV.mk (some ⟨b6, 0, none⟩) 32 32) (0 : Int) ((32 : Nat) : Int)).v) (QV.sliceB Try.underlying39 tk_5 rfl rfl rfl (by decide)) rfl rfl rfl ?_
  refine JL.val (v := .int .i64 x3) (QV.move rfl) rfl rfl rfl ?_
  obtain ⟨y7, hc8, hm⟩ := bind_inv hm
  refine JL.mv (d := some 15) (MV.call (Lo := []) (Lr := [Asr.blk b6 39 [Seg.of (Enc.arr 32 (Enc.int .u8)) x1]]) (F23.spec ((SlV.sub ((Enc.int .u8)).sz (SlV.mk (some ⟨b6, 0, none⟩) 32 32) (0 : Int) ((32 : Nat) : Int))) ((subL (x1).l (0 : Int) ((32 : Nat) : Int))) (x3) _ hc8) rfl Try.func23 rfl rfl rfl [] [0] rfl rfl rfl ⟨((Drv.arr (ss := [Seg.of (Enc.arr 32 (Enc.int .u8)) x1]) 0 0 rfl rfl rfl rfl).subV (by rw [Arr.h]; exact (show 0 ≤ (0 : Int) ∧ (0 : Int) ≤ ((32 : Nat) : Int) ∧ ((32 : Nat) : Int) ≤ ((32 : Nat) : Int) from by decide))), trivial⟩) rfl rfl rfl ?_
  rintro _ _ ⟨_, ⟨z9, rfl, rfl⟩, rfl⟩
  refine JL.val (v := z9.v) (QV.assign rfl) rfl rfl rfl ?_
  refine JL.nil ?_
  refine QJ.then_normal ?_
  refine JC.seq ?_
  refine JC.seq ?_
  refine JC.region ?_
  refine JL.val (v := .int .i64 x2) (QV.move rfl) rfl rfl rfl ?_
  refine JL.val (v := .bool (decide (x2 < (0 : Int)))) (QV.lss rfl rfl) rfl rfl rfl ?_
  rcases ite_inv hm with ⟨h10, hm⟩ | ⟨h10, hm⟩
  ·
    refine JL.val (v := .bool true) (QV.eq (QV.move rfl) (congrArg Value.bool (decide_eq_true h10))) rfl rfl rfl ?_
    refine JL.skip (d := some 19) rfl rfl rfl ?_
    refine JL.skip (d := some 20) rfl rfl rfl ?_
    refine JL.skip (d := some 21) rfl rfl rfl ?_
    refine JL.skip (d := some 22) rfl rfl rfl ?_
    refine JL.val (v := .bool true) (QV.pickT rfl rfl) rfl rfl rfl ?_
    refine JL.nil ?_
    refine QJ.then_normal ?_
    refine JC.condT rfl ?_
    refine JC.seq ?_
    refine JC.region ?_
    obtain ⟨y11, hc12, hm⟩ := bind_inv hm
    refine JL.mv (d := some 24) (MV.call (Lo := []) (Lr := [Asr.of 3 (Enc.int .i64) (z9.v) y7, Asr.blk b6 39 [Seg.of (Enc.arr 32 (Enc.int .u8)) x1]]) (F21.spec _ hc12) rfl Try.func21 rfl rfl rfl [] [0, 1] rfl rfl rfl trivial) rfl rfl rfl ?_
    rintro _ _ ⟨_, ⟨rfl, rfl⟩, rfl⟩
    refine JL.val (v := .bool y11) (QV.assign rfl) rfl rfl rfl ?_
    refine JL.nil ?_
    refine QJ.then_normal ?_
    refine JC.ret ?_
    refine QJ.then_ret ?_
    obtain rfl := Option.some.inj hm
    exact QJ.body (vs := [.bool y11]) (.inl rfl) rfl (ResVs.cons (ResV.tmp rfl) ResVs.nil) [] rfl rfl (.inr trivial) ⟨rfl, rfl⟩
  ·
    refine JL.val (v := .bool false) (QV.eq (QV.move rfl) (congrArg Value.bool (decide_eq_false h10))) rfl rfl rfl ?_
    refine JL.val (v := .int .i64 x2) (QV.move rfl) rfl rfl rfl ?_
    refine JL.val (v := z9.v) (QV.move rfl) rfl rfl rfl ?_
    refine JL.val (v := .int .i64 ((y7).length : Int)) (QV.len (Rdg.of 0 rfl) Try.underlying24 rfl) rfl rfl rfl ?_
    refine JL.val (v := .bool (decide (((y7).length : Int) ≤ x2))) (QV.geq rfl rfl) rfl rfl rfl ?_
    refine JL.val (v := .bool (decide (((y7).length : Int) ≤ x2))) (QV.pickF rfl rfl) rfl rfl rfl ?_
    refine JL.nil ?_
    refine QJ.then_normal ?_
    rcases ite_inv hm with ⟨h13, hm⟩ | ⟨h13, hm⟩
    ·
      refine JC.condT' rfl (decide_eq_true h13) ?_
      refine JC.seq ?_
      refine JC.region ?_
      obtain ⟨y14, hc15, hm⟩ := bind_inv hm
      refine JL.mv (d := some 24) (MV.call (Lo := []) (Lr := [Asr.of 3 (Enc.int .i64) (z9.v) y7, Asr.blk b6 39 [Seg.of (Enc.arr 32 (Enc.int .u8)) x1]]) (F21.spec _ hc15) rfl Try.func21 rfl rfl rfl [] [0, 1] rfl rfl rfl trivial) rfl rfl rfl ?_
      rintro _ _ ⟨_, ⟨rfl, rfl⟩, rfl⟩
      refine JL.val (v := .bool y14) (QV.assign rfl) rfl rfl rfl ?_
      refine JL.nil ?_
      refine QJ.then_normal ?_
      refine JC.ret ?_
      refine QJ.then_ret ?_
      obtain rfl := Option.some.inj hm
      exact QJ.body (vs := [.bool y14]) (.inl rfl) rfl (ResVs.cons (ResV.tmp rfl) ResVs.nil) [] rfl rfl (.inr trivial) ⟨rfl, rfl⟩
    ·
      refine JC.condF' rfl (decide_eq_false h13) ?_
      refine JC.skip ?_
      refine QJ.then_normal ?_
      refine JC.seq ?_
      refine JC.region ?_
      refine JL.val (v := .agg (((Enc.arr 32 (Enc.int .u8))).enc x1).toArray) (QV.eq (QV.loadN (ss := [Seg.of (Enc.arr 32 (Enc.int .u8)) x1]) 1 0 1 rfl tk_39 rfl rfl rfl rfl) rfl) rfl rfl rfl ?_
      refine JL.mv (d := some 10) (MV.alloc [Seg.of (Enc.arr 32 (Enc.int .u8)) (Arr.rep 32 (0 : Int))] z_39 rfl) rfl rfl rfl ?_
      rintro _ _ ⟨b16, rfl, rfl⟩
      refine JL.mv (d := none) (MV.store (ss := [Seg.of (Enc.arr 32 (Enc.int .u8)) (Arr.rep 32 (0 : Int))]) 0 0 1 [Seg.of (Enc.arr 32 (Enc.int .u8)) x1] rfl tk_39 rfl rfl rfl rfl (fun w hs => ⟨rfl, one_of _ _, trivial⟩)) rfl rfl rfl ?_
      rintro _ _ ⟨rfl, rfl⟩
      refine JL.nil ?_
      refine QJ.then_normal ?_
      refine JC.seq ?_
      refine JC.region ?_
      refine JL.val (v := .int .i64 x2) (QV.move rfl) rfl rfl rfl ?_
      refine JL.val (v := .int .i64 x3) (QV.move rfl) rfl rfl rfl ?_
      refine JL.val (v := .int .i64 (IntKind.wrap .i64 (x2 * x3))) (QV.mul rfl rfl) rfl rfl rfl ?_
      refine JL.val (v := .int .i64 (IntKind.wrap .i64 (Int.tdiv (IntKind.wrap .i64 (x2 * x3)) (8 : Int)))) (QV.quo rfl rfl (by decide)) rfl rfl rfl ?_
      refine JL.val (v := .int .i64 x2) (QV.move rfl) rfl rfl rfl ?_
      refine JL.val (v := .int .i64 x3) (QV.move rfl) rfl rfl rfl ?_
      refine JL.val (v := .int .i64 (IntKind.wrap .i64 (x2 * x3))) (QV.mul rfl rfl) rfl rfl rfl ?_
      refine JL.val (v := .int .i64 (IntKind.wrap .i64 (Int.tdiv (IntKind.wrap .i64 (x2 * x3)) (8 : Int)))) (QV.quo rfl rfl (by decide)) rfl rfl rfl ?_
      obtain ⟨h17, hm⟩ := guard_inv hm
      refine JL.val (v := .pointer (some ⟨b16, 0 + Int.toNat (IntKind.wrap .i64 (Int.tdiv (IntKind.wrap .i64 (x2 * x3)) (8 : Int))) * 1, none⟩)) (QV.indexB Try.underlying39 tk_5 rfl rfl h17) rfl rfl rfl ?_
      refine JL.val (v := .int .u8 (gd (x1).l (IntKind.wrap .i64 (Int.tdiv (IntKind.wrap .i64 (x2 * x3)) (8 : Int))))) (QV.ar1 (ss := [Seg.of (Enc.arr 32 (Enc.int .u8)) x1]) 0 0 rfl tk_5 rfl rfl rfl rfl h17 rfl) rfl rfl rfl ?_
      refine JL.val (v := .int .u8 x4) (QV.move rfl) rfl rfl rfl ?_
      refine JL.val (v := .int .u8 (orI .u8 (gd (x1).l (IntKind.wrap .i64 (Int.tdiv (IntKind.wrap .i64 (x2 * x3)) (8 : Int)))) x4)) (QV.or rfl rfl) rfl rfl rfl ?_
      refine JL.val (v := .pointer (some ⟨b16, 0 + Int.toNat (IntKind.wrap .i64 (Int.tdiv (IntKind.wrap .i64 (x2 * x3)) (8 : Int))) * 1, none⟩)) (QV.indexB Try.underlying39 tk_5 rfl rfl h17) rfl rfl rfl ?_
      refine JL.mv (d := none) (MV.storeAr (ss := [Seg.of (Enc.arr 32 (Enc.int .u8)) x1]) 0 0 (orI .u8 (gd (x1).l (IntKind.wrap .i64 (Int.tdiv (IntKind.wrap .i64 (x2 * x3)) (8 : Int)))) x4) rfl tk_5 rfl rfl rfl rfl h17 rfl rfl) rfl rfl rfl ?_
      rintro _ _ ⟨rfl, rfl⟩
      refine JL.nil ?_
      refine QJ.then_normal ?_
      refine JC.seq ?_
      refine JC.regionT [Asr.blk b16 39 [Seg.of (Enc.arr 32 (Enc.int .u8)) (Arr.set x1 (IntKind.wrap .i64 (Int.tdiv (IntKind.wrap .i64 (x2 * x3)) (8 : Int))) (orI .u8 (gd (x1).l (IntKind.wrap .i64 (Int.tdiv (IntKind.wrap .i64 (x2 * x3)) (8 : Int)))) x4))], Asr.of 3 (Enc.int .i64) (z9.v) y7, Asr.blk b6 39 [Seg.of (Enc.arr 32 (Enc.int .u8)) x1]] (fun t => false) [(0, true), (1, true), (3, true), (4, true), (2, false), (5, false), (6, false), (7, false)] (by kernel_rfl) (by kernel_rfl) (by kernel_rfl) rfl (fun hsel => ?_)
      refine JT.take (i := 0) (v := (SlV.sub ((Enc.int .u8)).sz (SlV.mk (some ⟨b6, 0, none⟩) 32 32) (0 : Int) ((32 : Nat) : Int)).v) hsel rfl (QV.sliceB Try.underlying39 tk_5 rfl rfl rfl (by decide)) rfl rfl rfl [0, 1, 2] rfl rfl ?_
      refine JT.take (i := 1) (v := .int .i64 x3) hsel rfl (QV.move rfl) rfl rfl rfl [0, 1, 2] rfl rfl ?_
      refine JT.take (i := 3) (v := (SlV.sub ((Enc.int .u8)).sz (SlV.mk (some ⟨b16, 0, none⟩) 32 32) (0 : Int) ((32 : Nat) : Int)).v) hsel rfl (QV.sliceB Try.underlying39 tk_5 rfl rfl rfl (by decide)) rfl rfl rfl [0, 1, 2] rfl rfl ?_
      refine JT.take (i := 4) (v := .int .i64 x3) hsel rfl (QV.move rfl) rfl rfl rfl [0, 1, 2] rfl rfl ?_
      obtain ⟨y18, hc19, hm⟩ := bind_inv hm
      refine JT.only (i := 2) (d := some 41) rfl (MV.call (Lo := []) (Lr := [Asr.blk b16 39 [Seg.of (Enc.arr 32 (Enc.int .u8)) (Arr.set x1 (IntKind.wrap .i64 (Int.tdiv (IntKind.wrap .i64 (x2 * x3)) (8 : Int))) (orI .u8 (gd (x1).l (IntKind.wrap .i64 (Int.tdiv (IntKind.wrap .i64 (x2 * x3)) (8 : Int)))) x4))], Asr.of 3 (Enc.int .i64) (z9.v) y7, Asr.blk b6 39 [Seg.of (Enc.arr 32 (Enc.int .u8)) x1]]) (F29.spec ((SlV.sub ((Enc.int .u8)).sz (SlV.mk (some ⟨b6, 0, none⟩) 32 32) (0 : Int) ((32 : Nat) : Int))) ((subL (x1).l (0 : Int) ((32 : Nat) : Int))) (x3) _ hc19) rfl Try.func29 rfl rfl rfl [] [0, 1, 2] rfl rfl rfl ⟨((Drv.arr (ss := [Seg.of (Enc.arr 32 (Enc.int .u8)) x1]) 2 0 rfl rfl rfl rfl).subV (by rw [Arr.h]; exact (show 0 ≤ (0 : Int) ∧ (0 : Int) ≤ ((32 : Nat) : Int) ∧ ((32 : Nat) : Int) ≤ ((32 : Nat) : Int) from by decide))), trivial⟩) rfl rfl rfl ?_
      rintro _ _ ⟨_, ⟨rfl, rfl⟩, rfl⟩
      refine ⟨fun _ => ⟨[0, 1, 2], rfl, rfl⟩, ?_⟩
      obtain ⟨y20, hc21, hm⟩ := bind_inv hm
      refine JT.only (i := 5) (d := some 44) rfl (MV.call (Lo := []) (Lr := [Asr.blk b16 39 [Seg.of (Enc.arr 32 (Enc.int .u8)) (Arr.set x1 (IntKind.wrap .i64 (Int.tdiv (IntKind.wrap .i64 (x2 * x3)) (8 : Int))) (orI .u8 (gd (x1).l (IntKind.wrap .i64 (Int.tdiv (IntKind.wrap .i64 (x2 * x3)) (8 : Int)))) x4))], Asr.of 3 (Enc.int .i64) (z9.v) y7, Asr.blk b6 39 [Seg.of (Enc.arr 32 (Enc.int .u8)) x1]]) (F29.spec ((SlV.sub ((Enc.int .u8)).sz (SlV.mk (some ⟨b16, 0, none⟩) 32 32) (0 : Int) ((32 : Nat) : Int))) ((subL ((Arr.set x1 (IntKind.wrap .i64 (Int.tdiv (IntKind.wrap .i64 (x2 * x3)) (8 : Int))) (orI .u8 (gd (x1).l (IntKind.wrap .i64 (Int.tdiv (IntKind.wrap .i64 (x2 * x3)) (8 : Int)))) x4))).l (0 : Int) ((32 : Nat) : Int))) (x3) _ hc21) rfl Try.func29 rfl rfl rfl [] [0, 1, 2] rfl rfl rfl ⟨((Drv.arr (ss := [Seg.of (Enc.arr 32 (Enc.int .u8)) (Arr.set x1 (IntKind.wrap .i64 (Int.tdiv (IntKind.wrap .i64 (x2 * x3)) (8 : Int))) (orI .u8 (gd (x1).l (IntKind.wrap .i64 (Int.tdiv (IntKind.wrap .i64 (x2 * x3)) (8 : Int)))) x4))]) 0 0 rfl rfl rfl rfl).subV (by rw [Arr.h]; exact (show 0 ≤ (0 : Int) ∧ (0 : Int) ≤ ((32 : Nat) : Int) ∧ ((32 : Nat) : Int) ≤ ((32 : Nat) : Int) from by decide))), trivial⟩) rfl rfl rfl ?_
      rintro _ _ ⟨_, ⟨rfl, rfl⟩, rfl⟩
      refine ⟨fun _ => ⟨[0, 1, 2], rfl, rfl⟩, ?_⟩
      refine JT.only (i := 6) (d := some 11) rfl (MV.ofQV (v := .int .u16 y18) (QV.assign rfl)) rfl rfl rfl ?_
      rintro _ _ ⟨rfl, rfl⟩
      refine ⟨fun _ => ⟨[0, 1, 2], rfl, rfl⟩, ?_⟩
      refine JT.only (i := 7) (d := some 12) rfl (MV.ofQV (v := .int .u16 y20) (QV.assign rfl)) rfl rfl rfl ?_
      rintro _ _ ⟨rfl, rfl⟩
      refine ⟨fun _ => ⟨[0, 1, 2], rfl, rfl⟩, ?_⟩
      refine JT.nil ?_
      refine QJ.then_normal ?_
      refine JC.seq ?_
      refine JC.seq ?_
      refine JC.region ?_
      refine JL.val (v := .agg (((Enc.arr 32 (Enc.int .u8))).enc x1).toArray) (QV.eq (QV.loadN (ss := [Seg.of (Enc.arr 32 (Enc.int .u8)) x1]) 2 0 1 rfl tk_39 rfl rfl rfl rfl) rfl) rfl rfl rfl ?_
      refine JL.val (v := .agg (((Enc.arr 32 (Enc.int .u8))).enc (Arr.set x1 (IntKind.wrap .i64 (Int.tdiv (IntKind.wrap .i64 (x2 * x3)) (8 : Int))) (orI .u8 (gd (x1).l (IntKind.wrap .i64 (Int.tdiv (IntKind.wrap .i64 (x2 * x3)) (8 : Int)))) x4))).toArray) (QV.eq (QV.loadN (ss := [Seg.of (Enc.arr 32 (Enc.int .u8)) (Arr.set x1 (IntKind.wrap .i64 (Int.tdiv (IntKind.wrap .i64 (x2 * x3)) (8 : Int))) (orI .u8 (gd (x1).l (IntKind.wrap .i64 (Int.tdiv (IntKind.wrap .i64 (x2 * x3)) (8 : Int)))) x4))]) 0 0 1 rfl tk_39 rfl rfl rfl rfl) rfl) rfl rfl rfl ?_
      refine JL.val (v := .bool (decide (x1 = (Arr.set x1 (IntKind.wrap .i64 (Int.tdiv (IntKind.wrap .i64 (x2 * x3)) (8 : Int))) (orI .u8 (gd (x1).l (IntKind.wrap .i64 (Int.tdiv (IntKind.wrap .i64 (x2 * x3)) (8 : Int)))) x4))))) (QV.eqlE (E := (Enc.arr 32 (Enc.int .u8))) (a := x1) (b := (Arr.set x1 (IntKind.wrap .i64 (Int.tdiv (IntKind.wrap .i64 (x2 * x3)) (8 : Int))) (orI .u8 (gd (x1).l (IntKind.wrap .i64 (Int.tdiv (IntKind.wrap .i64 (x2 * x3)) (8 : Int)))) x4))) zeq_39 (by kernel_rfl) rfl rfl) rfl rfl rfl ?_
      refine JL.nil ?_
      refine QJ.then_normal ?_
      rcases ite_inv hm with ⟨h22, hm⟩ | ⟨h22, hm⟩
      ·
        refine JC.condT' rfl (decide_eq_true h22) ?_
        refine JC.seq ?_
        refine JC.region ?_
        refine JL.val (v := .int .u16 y18) (QV.move rfl) rfl rfl rfl ?_
        refine JL.val (v := .int .u16 y20) (QV.move rfl) rfl rfl rfl ?_
        refine JL.val (v := .bool (decide (y18 = y20))) (QV.eql rfl rfl) rfl rfl rfl ?_
        rcases ite_inv hm with ⟨h23, hm⟩ | ⟨h23, hm⟩
        ·
          refine JL.val (v := .bool true) (QV.eq (QV.move rfl) (congrArg Value.bool (decide_eq_true h23))) rfl rfl rfl ?_
          obtain ⟨y24, hc25, hm⟩ := bind_inv hm
          refine JL.mv (d := some 52) (MV.call (Lo := []) (Lr := [Asr.blk b16 39 [Seg.of (Enc.arr 32 (Enc.int .u8)) (Arr.set x1 (IntKind.wrap .i64 (Int.tdiv (IntKind.wrap .i64 (x2 * x3)) (8 : Int))) (orI .u8 (gd (x1).l (IntKind.wrap .i64 (Int.tdiv (IntKind.wrap .i64 (x2 * x3)) (8 : Int)))) x4))], Asr.of 3 (Enc.int .i64) (z9.v) y7, Asr.blk b6 39 [Seg.of (Enc.arr 32 (Enc.int .u8)) x1]]) (F21.spec _ hc25) rfl Try.func21 rfl rfl rfl [] [0, 1, 2] rfl rfl rfl trivial) rfl rfl rfl ?_
          rintro _ _ ⟨_, ⟨rfl, rfl⟩, rfl⟩
          refine JL.val (v := .bool y24) (QV.pickT rfl rfl) rfl rfl rfl ?_
          refine JL.val (v := .bool y24) (QV.assign rfl) rfl rfl rfl ?_
          refine JL.nil ?_
          refine QJ.then_normal ?_
          refine JC.ret ?_
          refine QJ.then_ret ?_
          obtain rfl := Option.some.inj hm
          exact QJ.body (vs := [.bool y24]) (.inl rfl) rfl (ResVs.cons (ResV.tmp rfl) ResVs.nil) [] rfl rfl (.inr trivial) ⟨rfl, rfl⟩
        ·
          refine JL.val (v := .bool false) (QV.eq (QV.move rfl) (congrArg Value.bool (decide_eq_false h23))) rfl rfl rfl ?_
          refine JL.skip (d := some 52) rfl rfl rfl ?_
          refine JL.val (v := .bool false) (QV.pickF rfl rfl) rfl rfl rfl ?_
          refine JL.val (v := .bool false) (QV.assign rfl) rfl rfl rfl ?_
          refine JL.nil ?_
          refine QJ.then_normal ?_
          refine JC.ret ?_
          refine QJ.then_ret ?_
          obtain rfl := Option.some.inj hm
          exact QJ.body (vs := [.bool false]) (.inl rfl) rfl (ResVs.cons (ResV.tmp rfl) ResVs.nil) [] rfl rfl (.inr trivial) ⟨rfl, rfl⟩
      ·
        refine JC.condF' rfl (decide_eq_false h22) ?_
        refine JC.skip ?_
        refine QJ.then_normal ?_
        refine JC.seq ?_
        refine JC.region ?_
        refine JL.val (v := .int .u16 y20) (QV.move rfl) rfl rfl rfl ?_
        refine JL.val (v := .int .u16 y18) (QV.move rfl) rfl rfl rfl ?_
        refine JL.val (v := .bool (decide (y20 < y18))) (QV.lss rfl rfl) rfl rfl rfl ?_
        rcases ite_inv hm with ⟨h26, hm⟩ | ⟨h26, hm⟩
        ·
          refine JL.val (v := .bool true) (QV.eq (QV.move rfl) (congrArg Value.bool (decide_eq_true h26))) rfl rfl rfl ?_
          obtain ⟨y27, hc28, hm⟩ := bind_inv hm
          refine JL.mv (d := some 58) (MV.call (Lo := []) (Lr := [Asr.blk b16 39 [Seg.of (Enc.arr 32 (Enc.int .u8)) (Arr.set x1 (IntKind.wrap .i64 (Int.tdiv (IntKind.wrap .i64 (x2 * x3)) (8 : Int))) (orI .u8 (gd (x1).l (IntKind.wrap .i64 (Int.tdiv (IntKind.wrap .i64 (x2 * x3)) (8 : Int)))) x4))], Asr.of 3 (Enc.int .i64) (z9.v) y7, Asr.blk b6 39 [Seg.of (Enc.arr 32 (Enc.int .u8)) x1]]) (F21.spec _ hc28) rfl Try.func21 rfl rfl rfl [] [0, 1, 2] rfl rfl rfl trivial) rfl rfl rfl ?_
          rintro _ _ ⟨_, ⟨rfl, rfl⟩, rfl⟩
          refine JL.val (v := .bool y27) (QV.pickT rfl rfl) rfl rfl rfl ?_
          refine JL.val (v := .bool y27) (QV.assign rfl) rfl rfl rfl ?_
          refine JL.nil ?_
          refine QJ.then_normal ?_
          refine JC.ret ?_
          obtain rfl := Option.some.inj hm
          exact QJ.body (vs := [.bool y27]) (.inl rfl) rfl (ResVs.cons (ResV.tmp rfl) ResVs.nil) [] rfl rfl (.inr trivial) ⟨rfl, rfl⟩
        ·
          refine JL.val (v := .bool false) (QV.eq (QV.move rfl) (congrArg Value.bool (decide_eq_false h26))) rfl rfl rfl ?_
          refine JL.skip (d := some 58) rfl rfl rfl ?_
          refine JL.val (v := .bool false) (QV.pickF rfl rfl) rfl rfl rfl ?_
          refine JL.val (v := .bool false) (QV.assign rfl) rfl rfl rfl ?_
          refine JL.nil ?_
          refine QJ.then_normal ?_
          refine JC.ret ?_
          obtain rfl := Option.some.inj hm
          exact QJ.body (vs := [.bool false]) (.inl rfl) rfl (ResVs.cons (ResV.tmp rfl) ResVs.nil) [] rfl rfl (.inr trivial) ⟨rfl, rfl⟩

end Go.Proofs.Ytmedbpiapeiobaa
