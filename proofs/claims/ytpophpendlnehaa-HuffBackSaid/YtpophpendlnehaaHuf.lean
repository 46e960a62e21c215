/- Written by gen.py: functions and their contracts. -/
import Derived.Test.YtpophpendlnehaaBit
namespace Go.Proofs.Ytpophpendlnehaa
open Go Go.Eng Go.Proofs
set_option linter.unusedVariables false
set_option linter.unusedSimpArgs false
/-! ### 65: drogher/huff.counts -/
noncomputable def F65.j1  (d8 : (Arr Int 16)) : Option ((Arr Int 16) × Bool) :=
  some ((Arr.set d8 (0 : Int) (0 : Int)), true)
noncomputable def F65.b1 (x2 : List Int) : ((Arr Int 16) × Int) → Option (((Arr Int 16) × Int) ⊕ ((((Arr Int 16) × Bool)) ⊕ (Arr Int 16)))
  | (d9, d10) => (if d10 < ((x2).length : Int) then (if 0 ≤ d10 ∧ d10 < ((x2).length : Int) then (if (15 : Int) < (gd x2 d10) then some (.inr (.inl ((d9, false)))) else (if 0 ≤ (gd x2 d10) ∧ (gd x2 d10) < 16 then some (.inl ((Arr.set d9 (gd x2 d10) (IntKind.wrap .i64 ((gd (d9).l (gd x2 d10)) + (1 : Int)))), (IntKind.wrap .i64 (d10 + (1 : Int))))) else none)) else none) else some (.inr (.inr (d9))))
noncomputable def F65.m (x2 : List Int) : Option ((Arr Int 16) × Bool) :=
  (if (300 : Int) < ((x2).length : Int) then some ((Arr.rep 16 (0 : Int)), false) else ((loop (F65.b1 x2) ((Arr.rep 16 (0 : Int)), (0 : Int))).bind fun y => match y with | .inl r => some r | .inr d8 => F65.j1 (d8)))
set_option maxRecDepth 100000 in
set_option maxHeartbeats 4000000 in
theorem F65.spec (s1 : SlV) (x2 : List Int) (r : ((Arr Int 16) × Bool)) (hm : F65.m x2 = some r) :
    Ctr Try.prog false 65 [s1.v] [Asr.vw (Enc.int .u8) (s1.v) x2] (fun v L' => v = .tuple #[.agg (((Enc.arr 16 (Enc.int .i64))).enc r.1).toArray, .bool r.2] ∧ L' = []) := by
  refine Ctr.intro (n := 28) (env := [(0, s1.v)]) Try.func65 rfl rfl rfl rfl (fun c => ?_)
  unfold F65.m at hm
  refine JC.seq ?_
  refine JC.region ?_
  refine JL.mv (d := some 2) (MV.alloc [Seg.of (Enc.arr 16 (Enc.int .i64)) (Arr.rep 16 (0 : Int))] z_102 rfl) rfl rfl rfl ?_
  rintro _ _ ⟨b5, rfl, rfl⟩
  refine JL.val (v := .bool false) (QV.assign rfl) rfl rfl rfl ?_
  refine JL.nil ?_
  refine QJ.then_normal ?_
  refine JC.seq ?_
  refine JC.region ?_
  refine JL.mv (d := some 4) (MV.alloc [Seg.of (Enc.arr 16 (Enc.int .i64)) (Arr.rep 16 (0 : Int))] z_102 rfl) rfl rfl rfl ?_
  rintro _ _ ⟨b6, rfl, rfl⟩
  refine JL.nil ?_
  refine QJ.then_normal ?_
  refine JC.seq ?_
  refine JC.seq ?_
  refine JC.region ?_
  refine JL.val (v := s1.v) (QV.move rfl) rfl rfl rfl ?_
  refine JL.val (v := .int .i64 ((x2).length : Int)) (QV.len (Rdg.vw 2 rfl) Try.underlying26 rfl) rfl rfl rfl ?_
  refine JL.val (v := .bool (decide ((300 : Int) < ((x2).length : Int)))) (QV.gtr rfl rfl) rfl rfl rfl ?_
  refine JL.nil ?_
  refine QJ.then_normal ?_
  rcases ite_inv hm with ⟨h7, hm⟩ | ⟨h7, hm⟩
  ·
    refine JC.condT' rfl (decide_eq_true h7) ?_
    refine JC.seq ?_
    refine JC.region ?_
    refine JL.val (v := .agg (((Enc.arr 16 (Enc.int .i64))).enc (Arr.rep 16 (0 : Int))).toArray) (QV.eq (QV.loadN (ss := [Seg.of (Enc.arr 16 (Enc.int .i64)) (Arr.rep 16 (0 : Int))]) 0 0 1 rfl tk_102 rfl rfl rfl rfl) rfl) rfl rfl rfl ?_
    refine JL.mv (d := none) (MV.store (ss := [Seg.of (Enc.arr 16 (Enc.int .i64)) (Arr.rep 16 (0 : Int))]) 1 0 1 [Seg.of (Enc.arr 16 (Enc.int .i64)) (Arr.rep 16 (0 : Int))] rfl tk_102 rfl rfl rfl rfl (fun w hs => ⟨rfl, one_of _ _, trivial⟩)) rfl rfl rfl ?_
    rintro _ _ ⟨rfl, rfl⟩
    refine JL.val (v := .bool false) (QV.assign rfl) rfl rfl rfl ?_
    refine JL.nil ?_
    refine QJ.then_normal ?_
    refine JC.ret ?_
    refine QJ.then_ret ?_
    obtain rfl := Option.some.inj hm
    exact QJ.body (vs := [.agg (((Enc.arr 16 (Enc.int .i64))).enc (Arr.rep 16 (0 : Int))).toArray, .bool false]) (.inl rfl) rfl (ResVs.cons (ResV.cell (d := none) (ty := 0) (ps := "") (af := #[]) (g := none) rfl (QV.eq (QV.loadN (ss := [Seg.of (Enc.arr 16 (Enc.int .i64)) (Arr.rep 16 (0 : Int))]) 1 0 1 rfl tk_102 rfl rfl rfl rfl) rfl)) (ResVs.cons (ResV.tmp rfl) ResVs.nil)) [] rfl rfl (.inr trivial) ⟨rfl, rfl⟩
  ·
    refine JC.condF' rfl (decide_eq_false h7) ?_
    refine JC.skip ?_
    refine QJ.then_normal ?_
    refine JC.seq ?_
    refine JC.seq ?_
    refine JC.region ?_
    refine JL.val (v := s1.v) (QV.move rfl) rfl rfl rfl ?_
    refine JL.val (v := .int .i64 ((x2).length : Int)) (QV.len (Rdg.vw 2 rfl) Try.underlying26 rfl) rfl rfl rfl ?_
    refine JL.val (v := .int .i64 (0 : Int)) (QV.move rfl) rfl rfl rfl ?_
    refine JL.nil ?_
    refine QJ.then_normal ?_
    refine JC.cutK (Y := (Arr Int 16) × Unit) (fun y => match y with | (d8, _) => F65.j1 (d8) = some r) (fun y => match y with | (d8, _) => [(2, .pointer (some ⟨b5, 0, none⟩)), (4, .pointer (some ⟨b6, 0, none⟩))]) (fun y => match y with | (d8, _) => [Asr.blk b5 102 [Seg.of (Enc.arr 16 (Enc.int .i64)) (Arr.rep 16 (0 : Int))], Asr.blk b6 102 [Seg.of (Enc.arr 16 (Enc.int .i64)) d8]]) ?_ ?_
    ·
      rintro ⟨d8, ⟨⟩⟩ hm
      unfold F65.j1 at hm
      show QJ _ _ [(2, .pointer (some ⟨b5, 0, none⟩)), (4, .pointer (some ⟨b6, 0, none⟩))] [Asr.blk b5 102 [Seg.of (Enc.arr 16 (Enc.int .i64)) (Arr.rep 16 (0 : Int))], Asr.blk b6 102 [Seg.of (Enc.arr 16 (Enc.int .i64)) d8]] _ _
      refine QJ.then_normal ?_
      refine JC.seq ?_
      refine JC.region ?_
      refine JL.val (v := .pointer (some ⟨b6, 0 + Int.toNat (0 : Int) * 1, none⟩)) (QV.indexB Try.underlying102 tk_3 rfl rfl (by decide)) rfl rfl rfl ?_
      refine JL.mv (d := none) (MV.storeAr (ss := [Seg.of (Enc.arr 16 (Enc.int .i64)) d8]) 1 0 (0 : Int) rfl tk_3 rfl rfl rfl rfl (by decide) rfl rfl) rfl rfl rfl ?_
      rintro _ _ ⟨rfl, rfl⟩
      refine JL.nil ?_
      refine QJ.then_normal ?_
      refine JC.seq ?_
      refine JC.region ?_
      refine JL.val (v := .agg (((Enc.arr 16 (Enc.int .i64))).enc (Arr.set d8 (0 : Int) (0 : Int))).toArray) (QV.eq (QV.loadN (ss := [Seg.of (Enc.arr 16 (Enc.int .i64)) (Arr.set d8 (0 : Int) (0 : Int))]) 1 0 1 rfl tk_102 rfl rfl rfl rfl) rfl) rfl rfl rfl ?_
      refine JL.mv (d := none) (MV.store (ss := [Seg.of (Enc.arr 16 (Enc.int .i64)) (Arr.rep 16 (0 : Int))]) 0 0 1 [Seg.of (Enc.arr 16 (Enc.int .i64)) (Arr.set d8 (0 : Int) (0 : Int))] rfl tk_102 rfl rfl rfl rfl (fun w hs => ⟨rfl, one_of _ _, trivial⟩)) rfl rfl rfl ?_
      rintro _ _ ⟨rfl, rfl⟩
      refine JL.val (v := .bool true) (QV.assign rfl) rfl rfl rfl ?_
      refine JL.nil ?_
      refine QJ.then_normal ?_
      refine JC.ret ?_
      obtain rfl := Option.some.inj hm
      exact QJ.body (vs := [.agg (((Enc.arr 16 (Enc.int .i64))).enc (Arr.set d8 (0 : Int) (0 : Int))).toArray, .bool true]) (.inl rfl) rfl (ResVs.cons (ResV.cell (d := none) (ty := 0) (ps := "") (af := #[]) (g := none) rfl (QV.eq (QV.loadN (ss := [Seg.of (Enc.arr 16 (Enc.int .i64)) (Arr.set d8 (0 : Int) (0 : Int))]) 0 0 1 rfl tk_102 rfl rfl rfl rfl) rfl)) (ResVs.cons (ResV.tmp rfl) ResVs.nil)) [] rfl rfl (.inr trivial) ⟨rfl, rfl⟩
    ·
      refine JC.block ?_
      obtain ⟨y13, hl14, hmo15⟩ := bind_inv hm
      refine JC.loop (F65.b1 x2) (fun x z => match x, z with | (d9, d10), _ => [(2, .pointer (some ⟨b5, 0, none⟩)), (4, .pointer (some ⟨b6, 0, none⟩)), (11, s1.v), (12, .int .i64 ((x2).length : Int)), (13, .int .i64 d10)]) (fun x z => match x, z with | (d9, d10), _ => [Asr.blk b5 102 [Seg.of (Enc.arr 16 (Enc.int .i64)) (Arr.rep 16 (0 : Int))], Asr.blk b6 102 [Seg.of (Enc.arr 16 (Enc.int .i64)) d9], Asr.vw (Enc.int .u8) (s1.v) x2]) ((Arr.rep 16 (0 : Int)), (0 : Int)) () y13 hl14 [1, 0, 2] (by exact ⟨rfl, rfl, rfl, rfl, rfl, trivial⟩) rfl rfl ?_
      rintro ⟨d9, d10⟩ ⟨⟩ s16 hm
      unfold F65.b1 at hm
      dsimp only at hm
      show JC _ _ _ [(2, .pointer (some ⟨b5, 0, none⟩)), (4, .pointer (some ⟨b6, 0, none⟩)), (11, s1.v), (12, .int .i64 ((x2).length : Int)), (13, .int .i64 d10)] [Asr.blk b5 102 [Seg.of (Enc.arr 16 (Enc.int .i64)) (Arr.rep 16 (0 : Int))], Asr.blk b6 102 [Seg.of (Enc.arr 16 (Enc.int .i64)) d9], Asr.vw (Enc.int .u8) (s1.v) x2] _ _
      refine JC.seq ?_
      refine JC.region ?_
      refine JL.val (v := .bool (decide (d10 < ((x2).length : Int)))) (QV.lss rfl rfl) rfl rfl rfl ?_
      refine JL.nil ?_
      refine QJ.then_normal ?_
      refine JC.seq ?_
      rcases ite_inv hm with ⟨h17, hm⟩ | ⟨h17, hm⟩
      ·
        refine JC.condT' rfl (decide_eq_true h17) ?_
        refine JC.skip ?_
        refine QJ.then_normal ?_
        refine JC.seq ?_
        refine JC.block ?_
        refine JC.seq ?_
        refine JC.region ?_
        obtain ⟨h18, hm⟩ := guard_inv hm
        refine JL.val (v := .pointer (some (elA (s1.v) (Int.toNat d10 * ((Enc.int .u8)).sz)))) (QV.indexA (Rdg.vw 2 rfl) Try.underlying26 tk_5 rfl rfl h18) rfl rfl rfl ?_
        refine JL.val (v := .int .u8 (gd x2 d10)) (QV.el1 (Rdg.vw 2 rfl) tk_5 rfl h18 rfl) rfl rfl rfl ?_
        refine JL.val (v := .int .u8 (gd x2 d10)) (QV.assign rfl) rfl rfl rfl ?_
        refine JL.nil ?_
        refine QJ.then_normal ?_
        refine JC.seq ?_
        refine JC.seq ?_
        refine JC.region ?_
        refine JL.val (v := .int .u8 (gd x2 d10)) (QV.move rfl) rfl rfl rfl ?_
        refine JL.val (v := .bool (decide ((15 : Int) < (gd x2 d10)))) (QV.gtr rfl rfl) rfl rfl rfl ?_
        refine JL.nil ?_
        refine QJ.then_normal ?_
        rcases ite_inv hm with ⟨h19, hm⟩ | ⟨h19, hm⟩
        ·
          refine JC.condT' rfl (decide_eq_true h19) ?_
          refine JC.seq ?_
          refine JC.region ?_
          refine JL.val (v := .agg (((Enc.arr 16 (Enc.int .i64))).enc d9).toArray) (QV.eq (QV.loadN (ss := [Seg.of (Enc.arr 16 (Enc.int .i64)) d9]) 1 0 1 rfl tk_102 rfl rfl rfl rfl) rfl) rfl rfl rfl ?_
          refine JL.mv (d := none) (MV.store (ss := [Seg.of (Enc.arr 16 (Enc.int .i64)) (Arr.rep 16 (0 : Int))]) 0 0 1 [Seg.of (Enc.arr 16 (Enc.int .i64)) d9] rfl tk_102 rfl rfl rfl rfl (fun w hs => ⟨rfl, one_of _ _, trivial⟩)) rfl rfl rfl ?_
          rintro _ _ ⟨rfl, rfl⟩
          refine JL.val (v := .bool false) (QV.assign rfl) rfl rfl rfl ?_
          refine JL.nil ?_
          refine QJ.then_normal ?_
          refine JC.ret ?_
          refine QJ.then_ret ?_
          refine QJ.block_ret ?_
          refine QJ.then_ret ?_
          obtain rfl := Option.some.inj hm
          refine QJ.round_ret (fun hy => ?_)
          subst hy
          refine QJ.block_ret ?_
          refine QJ.cut_ret ?_
          refine QJ.then_ret ?_
          obtain rfl := Option.some.inj hmo15
          exact QJ.body (vs := [.agg (((Enc.arr 16 (Enc.int .i64))).enc d9).toArray, .bool false]) (.inl rfl) rfl (ResVs.cons (ResV.cell (d := none) (ty := 0) (ps := "") (af := #[]) (g := none) rfl (QV.eq (QV.loadN (ss := [Seg.of (Enc.arr 16 (Enc.int .i64)) d9]) 0 0 1 rfl tk_102 rfl rfl rfl rfl) rfl)) (ResVs.cons (ResV.tmp rfl) ResVs.nil)) [] rfl rfl (.inr trivial) ⟨rfl, rfl⟩
        ·
          refine JC.condF' rfl (decide_eq_false h19) ?_
          refine JC.skip ?_
          refine QJ.then_normal ?_
          refine JC.region ?_
          refine JL.val (v := .int .u8 (gd x2 d10)) (QV.move rfl) rfl rfl rfl ?_
          obtain ⟨h20, hm⟩ := guard_inv hm
          refine JL.val (v := .pointer (some ⟨b6, 0 + Int.toNat (gd x2 d10) * 1, none⟩)) (QV.indexB Try.underlying102 tk_3 rfl rfl h20) rfl rfl rfl ?_
          refine JL.val (v := .int .i64 (gd (d9).l (gd x2 d10))) (QV.ar1 (ss := [Seg.of (Enc.arr 16 (Enc.int .i64)) d9]) 1 0 rfl tk_3 rfl rfl rfl rfl h20 rfl) rfl rfl rfl ?_
          refine JL.val (v := .int .i64 (IntKind.wrap .i64 ((gd (d9).l (gd x2 d10)) + (1 : Int)))) (QV.add rfl rfl) rfl rfl rfl ?_
          refine JL.val (v := .pointer (some ⟨b6, 0 + Int.toNat (gd x2 d10) * 1, none⟩)) (QV.indexB Try.underlying102 tk_3 rfl rfl h20) rfl rfl rfl ?_
          refine JL.mv (d := none) (MV.storeAr (ss := [Seg.of (Enc.arr 16 (Enc.int .i64)) d9]) 1 0 (IntKind.wrap .i64 ((gd (d9).l (gd x2 d10)) + (1 : Int))) rfl tk_3 rfl rfl rfl rfl h20 rfl rfl) rfl rfl rfl ?_
          rintro _ _ ⟨rfl, rfl⟩
          refine JL.nil ?_
          refine QJ.block_normal ?_
          refine QJ.then_normal ?_
          refine JC.region ?_
          refine JL.val (v := .int .i64 (IntKind.wrap .i64 (d10 + (1 : Int)))) (QV.add rfl rfl) rfl rfl rfl ?_
          refine JL.val (v := .int .i64 (IntKind.wrap .i64 (d10 + (1 : Int)))) (QV.move rfl) rfl rfl rfl ?_
          refine JL.nil ?_
          obtain rfl := Option.some.inj hm
          exact QJ.round_on ((Arr.set d9 (gd x2 d10) (IntKind.wrap .i64 ((gd (d9).l (gd x2 d10)) + (1 : Int)))), (IntKind.wrap .i64 (d10 + (1 : Int)))) () [0, 1, 2] (by exact ⟨rfl, rfl, rfl, rfl, rfl, trivial⟩) rfl rfl
      ·
        refine JC.condF' rfl (decide_eq_false h17) ?_
        refine JC.exit ?_
        refine QJ.then_exit ?_
        obtain rfl := Option.some.inj hm
        refine QJ.round_exit (fun hy => ?_)
        subst hy
        refine QJ.block_hit ?_
        exact QJ.cut_normal (d9, ()) hmo15 [0, 1] (by exact ⟨rfl, rfl, trivial⟩) rfl rfl

/-! ### 51: drogher/huff.May -/
noncomputable def F51.j1 (y4 : ((Arr Int 16) × Bool)) (d8 : Int) (d9 : Int) : Option Bool :=
  (if d9 = (32768 : Int) then some true else (if d8 = (0 : Int) then some true else (if d8 = (1 : Int) then some (decide ((gd (y4.1).l (1 : Int)) = (1 : Int))) else some false)))
noncomputable def F51.b1 (y4 : ((Arr Int 16) × Bool)) : (Int × Int × Int) → Option ((Int × Int × Int) ⊕ (Int × Int))
  | (d13, d14, d15) => (if d15 < (16 : Int) then (if 0 ≤ d15 ∧ d15 < 16 then (if 0 ≤ (IntKind.wrap .i64 ((15 : Int) - d15)) then some (.inl ((IntKind.wrap .i64 (d13 + (gd (y4.1).l d15))), (IntKind.wrap .i64 (d14 + (shlI .i64 (gd (y4.1).l d15) (IntKind.wrap .i64 ((15 : Int) - d15))))), (IntKind.wrap .i64 (d15 + (1 : Int))))) else none) else none) else some (.inr (d13, d14)))
noncomputable def F51.m (x2 : List Int) : Option Bool :=
  ((F65.m (x2)).bind fun y4 => (if y4.2 = true then ((loop (F51.b1 y4) ((0 : Int), (0 : Int), (0 : Int))).bind fun y => match y with | (d8, d9) => F51.j1 y4 (d8) (d9)) else some false))
set_option maxRecDepth 100000 in
set_option maxHeartbeats 4000000 in
theorem F51.spec (s1 : SlV) (x2 : List Int) (r : Bool) (hm : F51.m x2 = some r) :
    Ctr Try.prog false 51 [s1.v] [Asr.vw (Enc.int .u8) (s1.v) x2] (fun v L' => v = .bool r ∧ L' = []) := by
  refine Ctr.intro (n := 46) (env := [(0, s1.v)]) Try.func51 rfl rfl rfl rfl (fun c => ?_)
  unfold F51.m at hm
  refine JC.seq ?_
  refine JC.region ?_
  refine JL.val (v := .bool false) (QV.assign rfl) rfl rfl rfl ?_
  refine JL.nil ?_
  refine QJ.then_normal ?_
  refine JC.seq ?_
  refine JC.region ?_
  refine JL.val (v := s1.v) (QV.move rfl) rfl rfl rfl ?_
  obtain ⟨y4, hc5, hm⟩ := bind_inv hm
  refine JL.mv (d := some 11) (MV.call (Lo := []) (Lr := [Asr.vw (Enc.int .u8) (s1.v) x2]) (F65.spec (s1) (x2) _ hc5) rfl Try.func65 rfl rfl rfl [] [0] rfl rfl rfl ⟨(Drv.vw 0 rfl), trivial⟩) rfl rfl rfl ?_
  rintro _ _ ⟨_, ⟨rfl, rfl⟩, rfl⟩
  refine JL.val (v := .tuple #[.agg (((Enc.arr 16 (Enc.int .i64))).enc y4.1).toArray, .bool y4.2]) (QV.move rfl) rfl rfl rfl ?_
  refine JL.val (v := .agg (((Enc.arr 16 (Enc.int .i64))).enc y4.1).toArray) (QV.extract (vs := [.agg (((Enc.arr 16 (Enc.int .i64))).enc y4.1).toArray, .bool y4.2]) rfl rfl) rfl rfl rfl ?_
  refine JL.val (v := .bool y4.2) (QV.extract (vs := [.agg (((Enc.arr 16 (Enc.int .i64))).enc y4.1).toArray, .bool y4.2]) rfl rfl) rfl rfl rfl ?_
  refine JL.mv (d := some 3) (MV.alloc [Seg.of (Enc.arr 16 (Enc.int .i64)) (Arr.rep 16 (0 : Int))] z_102 rfl) rfl rfl rfl ?_
  rintro _ _ ⟨b6, rfl, rfl⟩
  refine JL.mv (d := none) (MV.store (ss := [Seg.of (Enc.arr 16 (Enc.int .i64)) (Arr.rep 16 (0 : Int))]) 0 0 1 [Seg.of (Enc.arr 16 (Enc.int .i64)) y4.1] rfl tk_102 rfl rfl rfl rfl (fun w hs => ⟨rfl, one_of _ _, trivial⟩)) rfl rfl rfl ?_
  rintro _ _ ⟨rfl, rfl⟩
  refine JL.val (v := .bool y4.2) (QV.assign rfl) rfl rfl rfl ?_
  refine JL.nil ?_
  refine QJ.then_normal ?_
  refine JC.seq ?_
  refine JC.seq ?_
  refine JC.region ?_
  refine JL.val (v := .bool y4.2) (QV.move rfl) rfl rfl rfl ?_
  refine JL.val (v := .bool (!y4.2)) (QV.not rfl) rfl rfl rfl ?_
  refine JL.nil ?_
  refine QJ.then_normal ?_
  rcases ite_inv hm with ⟨h7, hm⟩ | ⟨h7, hm⟩
  ·
    refine JC.condF' rfl (congrArg Bool.not h7) ?_
    refine JC.skip ?_
    refine QJ.then_normal ?_
    refine JC.seq ?_
    refine JC.region ?_
    refine JL.val (v := .int .i64 (0 : Int)) (QV.assign rfl) rfl rfl rfl ?_
    refine JL.val (v := .int .i64 (0 : Int)) (QV.assign rfl) rfl rfl rfl ?_
    refine JL.nil ?_
    refine QJ.then_normal ?_
    refine JC.seq ?_
    refine JC.seq ?_
    refine JC.region ?_
    refine JL.val (v := .agg (((Enc.arr 16 (Enc.int .i64))).enc y4.1).toArray) (QV.eq (QV.loadN (ss := [Seg.of (Enc.arr 16 (Enc.int .i64)) y4.1]) 0 0 1 rfl tk_102 rfl rfl rfl rfl) rfl) rfl rfl rfl ?_
    refine JL.val (v := .int .i64 (0 : Int)) (QV.move rfl) rfl rfl rfl ?_
    refine JL.nil ?_
    refine QJ.then_normal ?_
    refine JC.cutK (Y := (Int × Int) × Unit) (fun y => match y with | ((d8, d9), _) => F51.j1 y4 (d8) (d9) = some r) (fun y => match y with | ((d8, d9), _) => [(3, .pointer (some ⟨b6, 0, none⟩)), (5, .int .i64 d8), (6, .int .i64 d9)]) (fun y => match y with | ((d8, d9), _) => [Asr.blk b6 102 [Seg.of (Enc.arr 16 (Enc.int .i64)) y4.1]]) ?_ ?_
    ·
      rintro ⟨⟨d8, d9⟩, ⟨⟩⟩ hm
      unfold F51.j1 at hm
      show QJ _ _ [(3, .pointer (some ⟨b6, 0, none⟩)), (5, .int .i64 d8), (6, .int .i64 d9)] [Asr.blk b6 102 [Seg.of (Enc.arr 16 (Enc.int .i64)) y4.1]] _ _
      refine QJ.then_normal ?_
      refine JC.seq ?_
      refine JC.region ?_
      refine JL.val (v := .int .i64 d9) (QV.move rfl) rfl rfl rfl ?_
      refine JL.val (v := .bool (decide (d9 = (32768 : Int)))) (QV.eql rfl rfl) rfl rfl rfl ?_
      rcases ite_inv hm with ⟨h10, hm⟩ | ⟨h10, hm⟩
      ·
        refine JL.val (v := .bool true) (QV.eq (QV.move rfl) (congrArg Value.bool (decide_eq_true h10))) rfl rfl rfl ?_
        refine JL.skip (d := some 34) rfl rfl rfl ?_
        refine JL.skip (d := some 35) rfl rfl rfl ?_
        refine JL.val (v := .bool true) (QV.pickT rfl rfl) rfl rfl rfl ?_
        refine JL.val (v := .bool true) (QV.move rfl) rfl rfl rfl ?_
        refine JL.skip (d := some 38) rfl rfl rfl ?_
        refine JL.skip (d := some 39) rfl rfl rfl ?_
        refine JL.skip (d := some 40) rfl rfl rfl ?_
        refine JL.skip (d := some 41) rfl rfl rfl ?_
        refine JL.skip (d := some 42) rfl rfl rfl ?_
        refine JL.skip (d := some 43) rfl rfl rfl ?_
        refine JL.skip (d := some 44) rfl rfl rfl ?_
        refine JL.val (v := .bool true) (QV.pickT rfl rfl) rfl rfl rfl ?_
        refine JL.val (v := .bool true) (QV.assign rfl) rfl rfl rfl ?_
        refine JL.nil ?_
        refine QJ.then_normal ?_
        refine JC.ret ?_
        obtain rfl := Option.some.inj hm
        exact QJ.body (vs := [.bool true]) (.inl rfl) rfl (ResVs.cons (ResV.tmp rfl) ResVs.nil) [] rfl rfl (.inr trivial) ⟨rfl, rfl⟩
      ·
        refine JL.val (v := .bool false) (QV.eq (QV.move rfl) (congrArg Value.bool (decide_eq_false h10))) rfl rfl rfl ?_
        refine JL.val (v := .int .i64 d8) (QV.move rfl) rfl rfl rfl ?_
        refine JL.val (v := .bool (decide (d8 = (0 : Int)))) (QV.eql rfl rfl) rfl rfl rfl ?_
        refine JL.val (v := .bool (decide (d8 = (0 : Int)))) (QV.pickF rfl rfl) rfl rfl rfl ?_
        rcases ite_inv hm with ⟨h11, hm⟩ | ⟨h11, hm⟩
        ·
          refine JL.val (v := .bool true) (QV.eq (QV.move rfl) (congrArg Value.bool (decide_eq_true h11))) rfl rfl rfl ?_
          refine JL.skip (d := some 38) rfl rfl rfl ?_
          refine JL.skip (d := some 39) rfl rfl rfl ?_
          refine JL.skip (d := some 40) rfl rfl rfl ?_
          refine JL.skip (d := some 41) rfl rfl rfl ?_
          refine JL.skip (d := some 42) rfl rfl rfl ?_
          refine JL.skip (d := some 43) rfl rfl rfl ?_
          refine JL.skip (d := some 44) rfl rfl rfl ?_
          refine JL.val (v := .bool true) (QV.pickT rfl rfl) rfl rfl rfl ?_
          refine JL.val (v := .bool true) (QV.assign rfl) rfl rfl rfl ?_
          refine JL.nil ?_
          refine QJ.then_normal ?_
          refine JC.ret ?_
          obtain rfl := Option.some.inj hm
          exact QJ.body (vs := [.bool true]) (.inl rfl) rfl (ResVs.cons (ResV.tmp rfl) ResVs.nil) [] rfl rfl (.inr trivial) ⟨rfl, rfl⟩
        ·
          refine JL.val (v := .bool false) (QV.eq (QV.move rfl) (congrArg Value.bool (decide_eq_false h11))) rfl rfl rfl ?_
          refine JL.val (v := .int .i64 d8) (QV.move rfl) rfl rfl rfl ?_
          refine JL.val (v := .bool (decide (d8 = (1 : Int)))) (QV.eql rfl rfl) rfl rfl rfl ?_
          rcases ite_inv hm with ⟨h12, hm⟩ | ⟨h12, hm⟩
          ·
            refine JL.val (v := .bool true) (QV.eq (QV.move rfl) (congrArg Value.bool (decide_eq_true h12))) rfl rfl rfl ?_
            refine JL.val (v := .pointer (some ⟨b6, 0 + Int.toNat (1 : Int) * 1, none⟩)) (QV.indexB Try.underlying102 tk_3 rfl rfl (by decide)) rfl rfl rfl ?_
            refine JL.val (v := .int .i64 (gd (y4.1).l (1 : Int))) (QV.ar1 (ss := [Seg.of (Enc.arr 16 (Enc.int .i64)) y4.1]) 0 0 rfl tk_3 rfl rfl rfl rfl (by decide) rfl) rfl rfl rfl ?_
            refine JL.val (v := .bool (decide ((gd (y4.1).l (1 : Int)) = (1 : Int)))) (QV.eql rfl rfl) rfl rfl rfl ?_
            refine JL.val (v := .bool (decide ((gd (y4.1).l (1 : Int)) = (1 : Int)))) (QV.pickT rfl rfl) rfl rfl rfl ?_
            refine JL.val (v := .bool (decide ((gd (y4.1).l (1 : Int)) = (1 : Int)))) (QV.pickF rfl rfl) rfl rfl rfl ?_
            refine JL.val (v := .bool (decide ((gd (y4.1).l (1 : Int)) = (1 : Int)))) (QV.assign rfl) rfl rfl rfl ?_
            refine JL.nil ?_
            refine QJ.then_normal ?_
            refine JC.ret ?_
            obtain rfl := Option.some.inj hm
            exact QJ.body (vs := [.bool (decide ((gd (y4.1).l (1 : Int)) = (1 : Int)))]) (.inl rfl) rfl (ResVs.cons (ResV.tmp rfl) ResVs.nil) [] rfl rfl (.inr trivial) ⟨rfl, rfl⟩
          ·
            refine JL.val (v := .bool false) (QV.eq (QV.move rfl) (congrArg Value.bool (decide_eq_false h12))) rfl rfl rfl ?_
            refine JL.skip (d := some 41) rfl rfl rfl ?_
            refine JL.skip (d := some 42) rfl rfl rfl ?_
            refine JL.skip (d := some 43) rfl rfl rfl ?_
            refine JL.val (v := .bool false) (QV.pickF rfl rfl) rfl rfl rfl ?_
            refine JL.val (v := .bool false) (QV.pickF rfl rfl) rfl rfl rfl ?_
            refine JL.val (v := .bool false) (QV.assign rfl) rfl rfl rfl ?_
            refine JL.nil ?_
            refine QJ.then_normal ?_
            refine JC.ret ?_
            obtain rfl := Option.some.inj hm
            exact QJ.body (vs := [.bool false]) (.inl rfl) rfl (ResVs.cons (ResV.tmp rfl) ResVs.nil) [] rfl rfl (.inr trivial) ⟨rfl, rfl⟩
    ·
      refine JC.block ?_
      obtain ⟨y19, hl20, hmo21⟩ := bind_inv hm
      refine JC.loop (F51.b1 y4) (fun x z => match x, z with | (d13, d14, d15), _ => [(3, .pointer (some ⟨b6, 0, none⟩)), (5, .int .i64 d13), (6, .int .i64 d14), (16, .agg (((Enc.arr 16 (Enc.int .i64))).enc y4.1).toArray), (17, .int .i64 d15)]) (fun x z => match x, z with | (d13, d14, d15), _ => [Asr.blk b6 102 [Seg.of (Enc.arr 16 (Enc.int .i64)) y4.1]]) ((0 : Int), (0 : Int), (0 : Int)) () y19 hl20 [0] (by exact ⟨rfl, rfl, rfl, rfl, rfl, trivial⟩) rfl rfl ?_
      rintro ⟨d13, d14, d15⟩ ⟨⟩ s22 hm
      unfold F51.b1 at hm
      dsimp only at hm
      show JC _ _ _ [(3, .pointer (some ⟨b6, 0, none⟩)), (5, .int .i64 d13), (6, .int .i64 d14), (16, .agg (((Enc.arr 16 (Enc.int .i64))).enc y4.1).toArray), (17, .int .i64 d15)] [Asr.blk b6 102 [Seg.of (Enc.arr 16 (Enc.int .i64)) y4.1]] _ _
      refine JC.seq ?_
      refine JC.region ?_
      refine JL.val (v := .bool (decide (d15 < (16 : Int)))) (QV.lss rfl rfl) rfl rfl rfl ?_
      refine JL.nil ?_
      refine QJ.then_normal ?_
      refine JC.seq ?_
      rcases ite_inv hm with ⟨h23, hm⟩ | ⟨h23, hm⟩
      ·
        refine JC.condT' rfl (decide_eq_true h23) ?_
        refine JC.skip ?_
        refine QJ.then_normal ?_
        refine JC.seq ?_
        refine JC.block ?_
        refine JC.seq ?_
        refine JC.region ?_
        refine JL.val (v := .int .i64 d15) (QV.move rfl) rfl rfl rfl ?_
        obtain ⟨h24, hm⟩ := guard_inv hm
        refine JL.val (v := .int .i64 (gd (y4.1).l d15)) (QV.indexV (E := (Enc.int .i64)) (xs := y4.1) Try.underlying102 tk_3 rfl rfl rfl h24 rfl) rfl rfl rfl ?_
        refine JL.val (v := .int .i64 d15) (QV.assign rfl) rfl rfl rfl ?_
        refine JL.val (v := .int .i64 (gd (y4.1).l d15)) (QV.assign rfl) rfl rfl rfl ?_
        refine JL.nil ?_
        refine QJ.then_normal ?_
        refine JC.seq ?_
        refine JC.region ?_
        refine JL.val (v := .int .i64 d13) (QV.move rfl) rfl rfl rfl ?_
        refine JL.val (v := .int .i64 (gd (y4.1).l d15)) (QV.move rfl) rfl rfl rfl ?_
        refine JL.val (v := .int .i64 (IntKind.wrap .i64 (d13 + (gd (y4.1).l d15)))) (QV.add rfl rfl) rfl rfl rfl ?_
        refine JL.val (v := .int .i64 (IntKind.wrap .i64 (d13 + (gd (y4.1).l d15)))) (QV.assign rfl) rfl rfl rfl ?_
        refine JL.nil ?_
        refine QJ.then_normal ?_
        refine JC.region ?_
        refine JL.val (v := .int .i64 d14) (QV.move rfl) rfl rfl rfl ?_
        refine JL.val (v := .int .i64 (gd (y4.1).l d15)) (QV.move rfl) rfl rfl rfl ?_
        refine JL.val (v := .int .i64 d15) (QV.move rfl) rfl rfl rfl ?_
        refine JL.val (v := .int .i64 (IntKind.wrap .i64 ((15 : Int) - d15))) (QV.sub rfl rfl) rfl rfl rfl ?_
        obtain ⟨h25, hm⟩ := guard_inv hm
        refine JL.val (v := .int .i64 (shlI .i64 (gd (y4.1).l d15) (IntKind.wrap .i64 ((15 : Int) - d15)))) (QV.shl rfl rfl h25) rfl rfl rfl ?_
        refine JL.val (v := .int .i64 (IntKind.wrap .i64 (d14 + (shlI .i64 (gd (y4.1).l d15) (IntKind.wrap .i64 ((15 : Int) - d15)))))) (QV.add rfl rfl) rfl rfl rfl ?_
        refine JL.val (v := .int .i64 (IntKind.wrap .i64 (d14 + (shlI .i64 (gd (y4.1).l d15) (IntKind.wrap .i64 ((15 : Int) - d15)))))) (QV.assign rfl) rfl rfl rfl ?_
        refine JL.nil ?_
        refine QJ.block_normal ?_
        refine QJ.then_normal ?_
        refine JC.region ?_
        refine JL.val (v := .int .i64 (IntKind.wrap .i64 (d15 + (1 : Int)))) (QV.add rfl rfl) rfl rfl rfl ?_
        refine JL.val (v := .int .i64 (IntKind.wrap .i64 (d15 + (1 : Int)))) (QV.move rfl) rfl rfl rfl ?_
        refine JL.nil ?_
        obtain rfl := Option.some.inj hm
        exact QJ.round_on ((IntKind.wrap .i64 (d13 + (gd (y4.1).l d15))), (IntKind.wrap .i64 (d14 + (shlI .i64 (gd (y4.1).l d15) (IntKind.wrap .i64 ((15 : Int) - d15))))), (IntKind.wrap .i64 (d15 + (1 : Int)))) () [0] (by exact ⟨rfl, rfl, rfl, rfl, rfl, trivial⟩) rfl rfl
      ·
        refine JC.condF' rfl (decide_eq_false h23) ?_
        refine JC.exit ?_
        refine QJ.then_exit ?_
        obtain rfl := Option.some.inj hm
        refine QJ.round_exit (fun hy => ?_)
        subst hy
        refine QJ.block_hit ?_
        exact QJ.cut_normal ((d13, d14), ()) hmo21 [0] (by exact ⟨rfl, rfl, rfl, trivial⟩) rfl rfl
  ·
    refine JC.condT' rfl (congrArg Bool.not (bfalse h7)) ?_
    refine JC.seq ?_
    refine JC.region ?_
    refine JL.val (v := .bool false) (QV.assign rfl) rfl rfl rfl ?_
    refine JL.nil ?_
    refine QJ.then_normal ?_
    refine JC.ret ?_
    refine QJ.then_ret ?_
    obtain rfl := Option.some.inj hm
    exact QJ.body (vs := [.bool false]) (.inl rfl) rfl (ResVs.cons (ResV.tmp rfl) ResVs.nil) [] rfl rfl (.inr trivial) ⟨rfl, rfl⟩

/-! ### 66: drogher/huff.firsts -/
noncomputable def F66.j1  (d6 : (Arr Int 16)) : Option (Arr Int 16) :=
  some d6
noncomputable def F66.b1 (x1 : (Arr Int 16)) : ((Arr Int 16) × Int) → Option (((Arr Int 16) × Int) ⊕ (Arr Int 16))
  | (d7, d8) => (if d8 < (16 : Int) then (if 0 ≤ (IntKind.wrap .i64 (d8 - (1 : Int))) ∧ (IntKind.wrap .i64 (d8 - (1 : Int))) < 16 then (if 0 ≤ d8 ∧ d8 < 16 then some (.inl ((Arr.set d7 d8 (IntKind.wrap .i64 ((2 : Int) * (IntKind.wrap .i64 ((gd (d7).l (IntKind.wrap .i64 (d8 - (1 : Int)))) + (gd (x1).l (IntKind.wrap .i64 (d8 - (1 : Int))))))))), (IntKind.wrap .i64 (d8 + (1 : Int))))) else none) else none) else some (.inr d7))
noncomputable def F66.m (x1 : (Arr Int 16)) : Option (Arr Int 16) :=
  ((loop (F66.b1 x1) ((Arr.rep 16 (0 : Int)), (2 : Int))).bind fun y => match y with | d6 => F66.j1 (d6))
set_option maxRecDepth 100000 in
set_option maxHeartbeats 4000000 in
theorem F66.spec (x1 : (Arr Int 16)) (r : (Arr Int 16)) (hm : F66.m x1 = some r) :
    Ctr Try.prog false 66 [.agg (((Enc.arr 16 (Enc.int .i64))).enc x1).toArray] [] (fun v L' => v = .agg (((Enc.arr 16 (Enc.int .i64))).enc r).toArray ∧ L' = []) := by
  refine Ctr.intro (n := 22) (env := [(0, .agg (((Enc.arr 16 (Enc.int .i64))).enc x1).toArray)]) Try.func66 rfl rfl rfl rfl (fun c => ?_)
  unfold F66.m at hm
  refine JC.seq ?_
  refine JC.region ?_
  refine JL.mv (d := some 1) (MV.box [Seg.of (Enc.arr 16 (Enc.int .i64)) x1] rfl (fun w hs => rfl)) rfl rfl rfl ?_
  rintro _ _ ⟨b3, rfl, rfl⟩
  refine JL.mv (d := some 2) (MV.alloc [Seg.of (Enc.arr 16 (Enc.int .i64)) (Arr.rep 16 (0 : Int))] z_102 rfl) rfl rfl rfl ?_
  rintro _ _ ⟨b4, rfl, rfl⟩
  refine JL.nil ?_
  refine QJ.then_normal ?_
  refine JC.seq ?_
  refine JC.region ?_
  refine JL.mv (d := some 3) (MV.alloc [Seg.of (Enc.arr 16 (Enc.int .i64)) (Arr.rep 16 (0 : Int))] z_102 rfl) rfl rfl rfl ?_
  rintro _ _ ⟨b5, rfl, rfl⟩
  refine JL.nil ?_
  refine QJ.then_normal ?_
  refine JC.seq ?_
  refine JC.seq ?_
  refine JC.region ?_
  refine JL.val (v := .int .i64 (2 : Int)) (QV.assign rfl) rfl rfl rfl ?_
  refine JL.nil ?_
  refine QJ.then_normal ?_
  refine JC.cutK (Y := (Arr Int 16) × Unit) (fun y => match y with | (d6, _) => F66.j1 (d6) = some r) (fun y => match y with | (d6, _) => [(2, .pointer (some ⟨b4, 0, none⟩)), (3, .pointer (some ⟨b5, 0, none⟩))]) (fun y => match y with | (d6, _) => [Asr.blk b4 102 [Seg.of (Enc.arr 16 (Enc.int .i64)) (Arr.rep 16 (0 : Int))], Asr.blk b5 102 [Seg.of (Enc.arr 16 (Enc.int .i64)) d6]]) ?_ ?_
  ·
    rintro ⟨d6, ⟨⟩⟩ hm
    unfold F66.j1 at hm
    show QJ _ _ [(2, .pointer (some ⟨b4, 0, none⟩)), (3, .pointer (some ⟨b5, 0, none⟩))] [Asr.blk b4 102 [Seg.of (Enc.arr 16 (Enc.int .i64)) (Arr.rep 16 (0 : Int))], Asr.blk b5 102 [Seg.of (Enc.arr 16 (Enc.int .i64)) d6]] _ _
    refine QJ.then_normal ?_
    refine JC.seq ?_
    refine JC.region ?_
    refine JL.val (v := .agg (((Enc.arr 16 (Enc.int .i64))).enc d6).toArray) (QV.eq (QV.loadN (ss := [Seg.of (Enc.arr 16 (Enc.int .i64)) d6]) 1 0 1 rfl tk_102 rfl rfl rfl rfl) rfl) rfl rfl rfl ?_
    refine JL.mv (d := none) (MV.store (ss := [Seg.of (Enc.arr 16 (Enc.int .i64)) (Arr.rep 16 (0 : Int))]) 0 0 1 [Seg.of (Enc.arr 16 (Enc.int .i64)) d6] rfl tk_102 rfl rfl rfl rfl (fun w hs => ⟨rfl, one_of _ _, trivial⟩)) rfl rfl rfl ?_
    rintro _ _ ⟨rfl, rfl⟩
    refine JL.nil ?_
    refine QJ.then_normal ?_
    refine JC.ret ?_
    obtain rfl := Option.some.inj hm
    exact QJ.body (vs := [.agg (((Enc.arr 16 (Enc.int .i64))).enc d6).toArray]) (.inl rfl) rfl (ResVs.cons (ResV.cell (d := none) (ty := 0) (ps := "") (af := #[]) (g := none) rfl (QV.eq (QV.loadN (ss := [Seg.of (Enc.arr 16 (Enc.int .i64)) d6]) 0 0 1 rfl tk_102 rfl rfl rfl rfl) rfl)) ResVs.nil) [] rfl rfl (.inr trivial) ⟨rfl, rfl⟩
  ·
    refine JC.block ?_
    obtain ⟨y11, hl12, hmo13⟩ := bind_inv hm
    refine JC.loop (F66.b1 x1) (fun x z => match x, z with | (d7, d8), _ => [(1, .pointer (some ⟨b3, 0, none⟩)), (2, .pointer (some ⟨b4, 0, none⟩)), (3, .pointer (some ⟨b5, 0, none⟩)), (4, .int .i64 d8)]) (fun x z => match x, z with | (d7, d8), _ => [Asr.blk b3 102 [Seg.of (Enc.arr 16 (Enc.int .i64)) x1], Asr.blk b4 102 [Seg.of (Enc.arr 16 (Enc.int .i64)) (Arr.rep 16 (0 : Int))], Asr.blk b5 102 [Seg.of (Enc.arr 16 (Enc.int .i64)) d7]]) ((Arr.rep 16 (0 : Int)), (2 : Int)) () y11 hl12 [2, 1, 0] (by exact ⟨rfl, rfl, rfl, rfl, trivial⟩) rfl rfl ?_
    rintro ⟨d7, d8⟩ ⟨⟩ s14 hm
    unfold F66.b1 at hm
    dsimp only at hm
    show JC _ _ _ [(1, .pointer (some ⟨b3, 0, none⟩)), (2, .pointer (some ⟨b4, 0, none⟩)), (3, .pointer (some ⟨b5, 0, none⟩)), (4, .int .i64 d8)] [Asr.blk b3 102 [Seg.of (Enc.arr 16 (Enc.int .i64)) x1], Asr.blk b4 102 [Seg.of (Enc.arr 16 (Enc.int .i64)) (Arr.rep 16 (0 : Int))], Asr.blk b5 102 [Seg.of (Enc.arr 16 (Enc.int .i64)) d7]] _ _
    refine JC.seq ?_
    refine JC.seq ?_
    refine JC.region ?_
    refine JL.val (v := .int .i64 d8) (QV.move rfl) rfl rfl rfl ?_
    refine JL.val (v := .bool (decide (d8 < (16 : Int)))) (QV.lss rfl rfl) rfl rfl rfl ?_
    refine JL.nil ?_
    refine QJ.then_normal ?_
    rcases ite_inv hm with ⟨h15, hm⟩ | ⟨h15, hm⟩
    ·
      refine JC.condT' rfl (decide_eq_true h15) ?_
      refine JC.skip ?_
      refine QJ.then_normal ?_
      refine JC.seq ?_
      refine JC.block ?_
      refine JC.regionT [Asr.blk b3 102 [Seg.of (Enc.arr 16 (Enc.int .i64)) x1], Asr.blk b4 102 [Seg.of (Enc.arr 16 (Enc.int .i64)) (Arr.rep 16 (0 : Int))], Asr.blk b5 102 [Seg.of (Enc.arr 16 (Enc.int .i64)) d7]] (fun t => Nat.beq t 12) [(0, true), (1, true), (2, true), (3, true), (4, true), (5, false), (6, false), (7, false), (8, false), (9, false), (10, false), (11, false), (12, false)] (by kernel_rfl) (by kernel_rfl) (by kernel_rfl) rfl (fun hsel => ?_)
      refine JT.take (i := 0) (v := .int .i64 d8) hsel rfl (QV.move rfl) rfl rfl rfl [0, 1, 2] rfl rfl ?_
      refine JT.take (i := 1) (v := .int .i64 d8) hsel rfl (QV.move rfl) rfl rfl rfl [0, 1, 2] rfl rfl ?_
      refine JT.take (i := 2) (v := .int .i64 (IntKind.wrap .i64 (d8 - (1 : Int)))) hsel rfl (QV.sub rfl rfl) rfl rfl rfl [0, 1, 2] rfl rfl ?_
      obtain ⟨h16, hm⟩ := guard_inv hm
      refine JT.take (i := 3) (v := .pointer (some ⟨b5, 0 + Int.toNat (IntKind.wrap .i64 (d8 - (1 : Int))) * 1, none⟩)) hsel rfl (QV.indexB Try.underlying102 tk_3 rfl rfl h16) rfl rfl rfl [0, 1, 2] rfl rfl ?_
      refine JT.take (i := 4) (v := .int .i64 (gd (d7).l (IntKind.wrap .i64 (d8 - (1 : Int))))) hsel rfl (QV.ar1 (ss := [Seg.of (Enc.arr 16 (Enc.int .i64)) d7]) 2 0 rfl tk_3 rfl rfl rfl rfl h16 rfl) rfl rfl rfl [0, 1, 2] rfl rfl ?_
      refine JT.only (i := 5) (d := some 14) rfl (MV.ofQV (v := .int .i64 d8) (QV.move rfl)) rfl rfl rfl ?_
      rintro _ _ ⟨rfl, rfl⟩
      refine ⟨fun _ => ⟨[0, 1, 2], rfl, rfl⟩, ?_⟩
      refine JT.only (i := 6) (d := some 15) rfl (MV.ofQV (v := .int .i64 (IntKind.wrap .i64 (d8 - (1 : Int)))) (QV.sub rfl rfl)) rfl rfl rfl ?_
      rintro _ _ ⟨rfl, rfl⟩
      refine ⟨fun _ => ⟨[0, 1, 2], rfl, rfl⟩, ?_⟩
      refine JT.only (i := 7) (d := some 16) rfl (MV.ofQV (v := .pointer (some ⟨b3, 0 + Int.toNat (IntKind.wrap .i64 (d8 - (1 : Int))) * 1, none⟩)) (QV.indexB Try.underlying102 tk_3 rfl rfl h16)) rfl rfl rfl ?_
      rintro _ _ ⟨rfl, rfl⟩
      refine ⟨fun _ => ⟨[0, 1, 2], rfl, rfl⟩, ?_⟩
      refine JT.only (i := 8) (d := some 17) rfl (MV.ofQV (v := .int .i64 (gd (x1).l (IntKind.wrap .i64 (d8 - (1 : Int))))) (QV.ar1 (ss := [Seg.of (Enc.arr 16 (Enc.int .i64)) x1]) 0 0 rfl tk_3 rfl rfl rfl rfl h16 rfl)) rfl rfl rfl ?_
      rintro _ _ ⟨rfl, rfl⟩
      refine ⟨fun _ => ⟨[0, 1, 2], rfl, rfl⟩, ?_⟩
      refine JT.only (i := 9) (d := some 18) rfl (MV.ofQV (v := .int .i64 (IntKind.wrap .i64 ((gd (d7).l (IntKind.wrap .i64 (d8 - (1 : Int)))) + (gd (x1).l (IntKind.wrap .i64 (d8 - (1 : Int))))))) (QV.add rfl rfl)) rfl rfl rfl ?_
      rintro _ _ ⟨rfl, rfl⟩
      refine ⟨fun _ => ⟨[0, 1, 2], rfl, rfl⟩, ?_⟩
      refine JT.only (i := 10) (d := some 19) rfl (MV.ofQV (v := .int .i64 (IntKind.wrap .i64 ((2 : Int) * (IntKind.wrap .i64 ((gd (d7).l (IntKind.wrap .i64 (d8 - (1 : Int)))) + (gd (x1).l (IntKind.wrap .i64 (d8 - (1 : Int))))))))) (QV.mul rfl rfl)) rfl rfl rfl ?_
      rintro _ _ ⟨rfl, rfl⟩
      refine ⟨fun _ => ⟨[0, 1, 2], rfl, rfl⟩, ?_⟩
      obtain ⟨h17, hm⟩ := guard_inv hm
      refine JT.only (i := 11) (d := some 20) rfl (MV.ofQV (v := .pointer (some ⟨b5, 0 + Int.toNat d8 * 1, none⟩)) (QV.indexB Try.underlying102 tk_3 rfl rfl h17)) rfl rfl rfl ?_
      rintro _ _ ⟨rfl, rfl⟩
      refine ⟨fun _ => ⟨[0, 1, 2], rfl, rfl⟩, ?_⟩
      refine JT.only (i := 12) (d := none) rfl (MV.storeAr (ss := [Seg.of (Enc.arr 16 (Enc.int .i64)) d7]) 2 0 (IntKind.wrap .i64 ((2 : Int) * (IntKind.wrap .i64 ((gd (d7).l (IntKind.wrap .i64 (d8 - (1 : Int)))) + (gd (x1).l (IntKind.wrap .i64 (d8 - (1 : Int)))))))) rfl tk_3 rfl rfl rfl rfl h17 rfl rfl) rfl rfl rfl ?_
      rintro _ _ ⟨rfl, rfl⟩
      refine ⟨fun h => absurd h (by decide), ?_⟩
      refine JT.nil ?_
      refine QJ.block_normal ?_
      refine QJ.then_normal ?_
      refine JC.region ?_
      refine JL.val (v := .int .i64 d8) (QV.move rfl) rfl rfl rfl ?_
      refine JL.val (v := .int .i64 (IntKind.wrap .i64 (d8 + (1 : Int)))) (QV.add rfl rfl) rfl rfl rfl ?_
      refine JL.val (v := .int .i64 (IntKind.wrap .i64 (d8 + (1 : Int)))) (QV.assign rfl) rfl rfl rfl ?_
      refine JL.nil ?_
      obtain rfl := Option.some.inj hm
      exact QJ.round_on ((Arr.set d7 d8 (IntKind.wrap .i64 ((2 : Int) * (IntKind.wrap .i64 ((gd (d7).l (IntKind.wrap .i64 (d8 - (1 : Int)))) + (gd (x1).l (IntKind.wrap .i64 (d8 - (1 : Int))))))))), (IntKind.wrap .i64 (d8 + (1 : Int)))) () [0, 1, 2] (by exact ⟨rfl, rfl, rfl, rfl, trivial⟩) rfl rfl
    ·
      refine JC.condF' rfl (decide_eq_false h15) ?_
      refine JC.exit ?_
      refine QJ.then_exit ?_
      obtain rfl := Option.some.inj hm
      refine QJ.round_exit (fun hy => ?_)
      subst hy
      refine QJ.block_hit ?_
      exact QJ.cut_normal (d7, ()) hmo13 [1, 2] (by exact ⟨rfl, rfl, trivial⟩) rfl rfl

/-! ### 48: drogher/huff.Codes -/
noncomputable def F48.j1  (d17 : List Int) : Option (List Int × Int) :=
  some (d17, (0 : Int))
noncomputable def F48.j2 (d20 : Int) (d30 : (Arr Int 16)) (d31 : List Int) : Option (((Arr Int 16) × List Int × Int) ⊕ (List Int)) :=
  some (.inl (d30, d31, (IntKind.wrap .i64 (d20 + (1 : Int)))))
noncomputable def F48.b1 (x2 : List Int) : ((Arr Int 16) × List Int × Int) → Option (((Arr Int 16) × List Int × Int) ⊕ (List Int))
  | (d18, d19, d20) => (if d20 < ((x2).length : Int) then (if 0 ≤ d20 ∧ d20 < ((x2).length : Int) then (if (0 : Int) < (gd x2 d20) then (if 0 ≤ (gd x2 d20) ∧ (gd x2 d20) < 16 then (if 0 ≤ d20 ∧ d20 < ((d19).length : Int) then F48.j2 d20 ((Arr.set d18 (gd x2 d20) (IntKind.wrap .i64 ((gd (d18).l (gd x2 d20)) + (1 : Int))))) ((List.set d19 (Int.toNat d20) (IntKind.wrap .u16 (gd (d18).l (gd x2 d20))))) else none) else none) else F48.j2 d20 (d18) (d19)) else none) else some (.inr d19))
noncomputable def F48.m (x2 : List Int) : Option (List Int × Int) :=
  ((F51.m (x2)).bind fun y6 => (if y6 = true then ((F65.m (x2)).bind fun y9 => ((F66.m (y9.1)).bind fun y12 => (if 0 ≤ ((x2).length : Int) ∧ ((x2).length : Int) * 2 ≤ 281474976710656 ∧ ((x2).length : Int) ≤ 9223372036854775807 then ((loop (F48.b1 x2) (y12, (List.replicate (Int.toNat ((x2).length : Int)) (0 : Int)), (0 : Int))).bind fun y => match y with | d17 => F48.j1 (d17)) else none))) else some (([] : List Int), (3 : Int))))
set_option maxRecDepth 100000 in
set_option maxHeartbeats 4000000 in
theorem F48.spec (s1 : SlV) (x2 : List Int) (r : (List Int × Int)) (hm : F48.m x2 = some r) :
    Ctr Try.prog false 48 [s1.v] [Asr.vw (Enc.int .u8) (s1.v) x2] (fun v L' => ∃ (g3 : SlV), v = .tuple #[g3.v, .int .i64 r.2] ∧ L' = [Asr.of 32 (Enc.int .u16) (g3.v) r.1]) := by
  refine Ctr.intro (n := 46) (env := [(0, s1.v)]) Try.func48 rfl rfl rfl rfl (fun c => ?_)
  unfold F48.m at hm
  refine JC.seq ?_
  refine JC.region ?_
  refine JL.ent (fun _ hs => hs.nil 32 (Enc.int .u16)) ?_
  refine JL.val (v := SlV.nil.v) (QV.assign rfl) rfl rfl rfl ?_
  refine JL.val (v := .int .i64 (0 : Int)) (QV.assign rfl) rfl rfl rfl ?_
  refine JL.nil ?_
  refine QJ.then_normal ?_
  refine JC.seq ?_
  refine JC.seq ?_
  refine JC.region ?_
  refine JL.val (v := s1.v) (QV.move rfl) rfl rfl rfl ?_
  obtain ⟨y6, hc7, hm⟩ := bind_inv hm
  refine JL.mv (d := some 11) (MV.call (Lo := []) (Lr := [Asr.of 32 (Enc.int .u16) (SlV.nil.v) ([] : List Int), Asr.vw (Enc.int .u8) (s1.v) x2]) (F51.spec (s1) (x2) _ hc7) rfl Try.func51 rfl rfl rfl [] [0, 1] rfl rfl rfl ⟨(Drv.vw 1 rfl), trivial⟩) rfl rfl rfl ?_
  rintro _ _ ⟨_, ⟨rfl, rfl⟩, rfl⟩
  refine JL.val (v := .bool (!y6)) (QV.not rfl) rfl rfl rfl ?_
  refine JL.nil ?_
  refine QJ.then_normal ?_
  rcases ite_inv hm with ⟨h8, hm⟩ | ⟨h8, hm⟩
  ·
    refine JC.condF' rfl (congrArg Bool.not h8) ?_
    refine JC.skip ?_
    refine QJ.then_normal ?_
    refine JC.seq ?_
    refine JC.region ?_
    refine JL.val (v := s1.v) (QV.move rfl) rfl rfl rfl ?_
    obtain ⟨y9, hc10, hm⟩ := bind_inv hm
    refine JL.mv (d := some 15) (MV.call (Lo := []) (Lr := [Asr.of 32 (Enc.int .u16) (SlV.nil.v) ([] : List Int), Asr.vw (Enc.int .u8) (s1.v) x2]) (F65.spec (s1) (x2) _ hc10) rfl Try.func65 rfl rfl rfl [] [0, 1] rfl rfl rfl ⟨(Drv.vw 1 rfl), trivial⟩) rfl rfl rfl ?_
    rintro _ _ ⟨_, ⟨rfl, rfl⟩, rfl⟩
    refine JL.val (v := .tuple #[.agg (((Enc.arr 16 (Enc.int .i64))).enc y9.1).toArray, .bool y9.2]) (QV.move rfl) rfl rfl rfl ?_
    refine JL.val (v := .agg (((Enc.arr 16 (Enc.int .i64))).enc y9.1).toArray) (QV.extract (vs := [.agg (((Enc.arr 16 (Enc.int .i64))).enc y9.1).toArray, .bool y9.2]) rfl rfl) rfl rfl rfl ?_
    refine JL.val (v := .bool y9.2) (QV.extract (vs := [.agg (((Enc.arr 16 (Enc.int .i64))).enc y9.1).toArray, .bool y9.2]) rfl rfl) rfl rfl rfl ?_
    refine JL.mv (d := some 4) (MV.alloc [Seg.of (Enc.arr 16 (Enc.int .i64)) (Arr.rep 16 (0 : Int))] z_102 rfl) rfl rfl rfl ?_
    rintro _ _ ⟨b11, rfl, rfl⟩
    refine JL.mv (d := none) (MV.store (ss := [Seg.of (Enc.arr 16 (Enc.int .i64)) (Arr.rep 16 (0 : Int))]) 0 0 1 [Seg.of (Enc.arr 16 (Enc.int .i64)) y9.1] rfl tk_102 rfl rfl rfl rfl (fun w hs => ⟨rfl, one_of _ _, trivial⟩)) rfl rfl rfl ?_
    rintro _ _ ⟨rfl, rfl⟩
    refine JL.val (v := .bool y9.2) (QV.assign rfl) rfl rfl rfl ?_
    refine JL.nil ?_
    refine QJ.then_normal ?_
    refine JC.seq ?_
    refine JC.region ?_
    refine JL.val (v := .agg (((Enc.arr 16 (Enc.int .i64))).enc y9.1).toArray) (QV.eq (QV.loadN (ss := [Seg.of (Enc.arr 16 (Enc.int .i64)) y9.1]) 0 0 1 rfl tk_102 rfl rfl rfl rfl) rfl) rfl rfl rfl ?_
    obtain ⟨y12, hc13, hm⟩ := bind_inv hm
    refine JL.mv (d := some 19) (MV.call (Lo := []) (Lr := [Asr.blk b11 102 [Seg.of (Enc.arr 16 (Enc.int .i64)) y9.1], Asr.of 32 (Enc.int .u16) (SlV.nil.v) ([] : List Int), Asr.vw (Enc.int .u8) (s1.v) x2]) (F66.spec (y9.1) _ hc13) rfl Try.func66 rfl rfl rfl [] [0, 1, 2] rfl rfl rfl trivial) rfl rfl rfl ?_
    rintro _ _ ⟨_, ⟨rfl, rfl⟩, rfl⟩
    refine JL.mv (d := some 6) (MV.alloc [Seg.of (Enc.arr 16 (Enc.int .i64)) (Arr.rep 16 (0 : Int))] z_102 rfl) rfl rfl rfl ?_
    rintro _ _ ⟨b14, rfl, rfl⟩
    refine JL.mv (d := none) (MV.store (ss := [Seg.of (Enc.arr 16 (Enc.int .i64)) (Arr.rep 16 (0 : Int))]) 0 0 1 [Seg.of (Enc.arr 16 (Enc.int .i64)) y12] rfl tk_102 rfl rfl rfl rfl (fun w hs => ⟨rfl, one_of _ _, trivial⟩)) rfl rfl rfl ?_
    rintro _ _ ⟨rfl, rfl⟩
    refine JL.nil ?_
    refine QJ.then_normal ?_
    refine JC.seq ?_
    refine JC.region ?_
    refine JL.val (v := s1.v) (QV.move rfl) rfl rfl rfl ?_
    refine JL.val (v := .int .i64 ((x2).length : Int)) (QV.len (Rdg.vw 3 rfl) Try.underlying26 rfl) rfl rfl rfl ?_
    obtain ⟨h15, hm⟩ := guard_inv hm
    refine JL.mv (d := some 22) (MV.make (E := (Enc.int .u16)) (0 : Int) Try.underlying63 zi_32 (by decide) rfl rfl rfl h15) rfl rfl rfl ?_
    rintro _ _ ⟨z16, rfl, rfl⟩
    refine JL.val (v := z16.v) (QV.assign rfl) rfl rfl rfl ?_
    refine JL.nil ?_
    refine QJ.then_normal ?_
    refine JC.seq ?_
    refine JC.seq ?_
    refine JC.region ?_
    refine JL.val (v := s1.v) (QV.move rfl) rfl rfl rfl ?_
    refine JL.val (v := .int .i64 ((x2).length : Int)) (QV.len (Rdg.vw 4 rfl) Try.underlying26 rfl) rfl rfl rfl ?_
    refine JL.val (v := .int .i64 (0 : Int)) (QV.move rfl) rfl rfl rfl ?_
    refine JL.nil ?_
    refine QJ.then_normal ?_
    refine JC.cutK (Y := (List Int) × Unit) (fun y => match y with | (d17, _) => F48.j1 (d17) = some r) (fun y => match y with | (d17, _) => [(7, z16.v)]) (fun y => match y with | (d17, _) => [Asr.of 32 (Enc.int .u16) (z16.v) d17]) ?_ ?_
    ·
      rintro ⟨d17, ⟨⟩⟩ hm
      unfold F48.j1 at hm
      show QJ _ _ [(7, z16.v)] [Asr.of 32 (Enc.int .u16) (z16.v) d17] _ _
      refine QJ.then_normal ?_
      refine JC.seq ?_
      refine JC.region ?_
      refine JL.val (v := z16.v) (QV.move rfl) rfl rfl rfl ?_
      refine JL.val (v := z16.v) (QV.assign rfl) rfl rfl rfl ?_
      refine JL.val (v := .int .i64 (0 : Int)) (QV.assign rfl) rfl rfl rfl ?_
      refine JL.nil ?_
      refine QJ.then_normal ?_
      refine JC.ret ?_
      obtain rfl := Option.some.inj hm
      exact QJ.body (vs := [z16.v, .int .i64 (0 : Int)]) (.inl rfl) rfl (ResVs.cons (ResV.tmp rfl) (ResVs.cons (ResV.tmp rfl) ResVs.nil)) [0] rfl rfl (.inr ⟨own_of _ _ _ _, trivial⟩) ⟨z16, rfl, rfl⟩
    ·
      refine JC.block ?_
      obtain ⟨y24, hl25, hmo26⟩ := bind_inv hm
      refine JC.loop (F48.b1 x2) (fun x z => match x, z with | (d18, d19, d20), _ => [(6, .pointer (some ⟨b14, 0, none⟩)), (7, z16.v), (23, s1.v), (24, .int .i64 ((x2).length : Int)), (25, .int .i64 d20)]) (fun x z => match x, z with | (d18, d19, d20), _ => [Asr.blk b14 102 [Seg.of (Enc.arr 16 (Enc.int .i64)) d18], Asr.of 32 (Enc.int .u16) (z16.v) d19, Asr.vw (Enc.int .u8) (s1.v) x2]) (y12, (List.replicate (Int.toNat ((x2).length : Int)) (0 : Int)), (0 : Int)) () y24 hl25 [1, 0, 4] (by exact ⟨rfl, rfl, rfl, rfl, rfl, trivial⟩) rfl rfl ?_
      rintro ⟨d18, d19, d20⟩ ⟨⟩ s27 hm
      unfold F48.b1 at hm
      dsimp only at hm
      show JC _ _ _ [(6, .pointer (some ⟨b14, 0, none⟩)), (7, z16.v), (23, s1.v), (24, .int .i64 ((x2).length : Int)), (25, .int .i64 d20)] [Asr.blk b14 102 [Seg.of (Enc.arr 16 (Enc.int .i64)) d18], Asr.of 32 (Enc.int .u16) (z16.v) d19, Asr.vw (Enc.int .u8) (s1.v) x2] _ _
      refine JC.seq ?_
      refine JC.region ?_
      refine JL.val (v := .bool (decide (d20 < ((x2).length : Int)))) (QV.lss rfl rfl) rfl rfl rfl ?_
      refine JL.nil ?_
      refine QJ.then_normal ?_
      refine JC.seq ?_
      rcases ite_inv hm with ⟨h28, hm⟩ | ⟨h28, hm⟩
      ·
        refine JC.condT' rfl (decide_eq_true h28) ?_
        refine JC.skip ?_
        refine QJ.then_normal ?_
        refine JC.seq ?_
        refine JC.block ?_
        refine JC.seq ?_
        refine JC.region ?_
        refine JL.val (v := .int .i64 d20) (QV.move rfl) rfl rfl rfl ?_
        obtain ⟨h29, hm⟩ := guard_inv hm
        refine JL.val (v := .pointer (some (elA (s1.v) (Int.toNat d20 * ((Enc.int .u8)).sz)))) (QV.indexA (Rdg.vw 2 rfl) Try.underlying26 tk_5 rfl rfl h29) rfl rfl rfl ?_
        refine JL.val (v := .int .u8 (gd x2 d20)) (QV.el1 (Rdg.vw 2 rfl) tk_5 rfl h29 rfl) rfl rfl rfl ?_
        refine JL.val (v := .int .i64 d20) (QV.assign rfl) rfl rfl rfl ?_
        refine JL.val (v := .int .u8 (gd x2 d20)) (QV.assign rfl) rfl rfl rfl ?_
        refine JL.nil ?_
        refine QJ.then_normal ?_
        refine JC.seq ?_
        refine JC.region ?_
        refine JL.val (v := .int .u8 (gd x2 d20)) (QV.move rfl) rfl rfl rfl ?_
        refine JL.val (v := .bool (decide ((0 : Int) < (gd x2 d20)))) (QV.gtr rfl rfl) rfl rfl rfl ?_
        refine JL.nil ?_
        refine QJ.then_normal ?_
        refine JC.cutK (Y := ((Arr Int 16) × List Int) × Unit) (fun y => match y with | ((d30, d31), _) => F48.j2 d20 (d30) (d31) = some s27) (fun y => match y with | ((d30, d31), _) => [(6, .pointer (some ⟨b14, 0, none⟩)), (7, z16.v), (23, s1.v), (24, .int .i64 ((x2).length : Int)), (25, .int .i64 d20)]) (fun y => match y with | ((d30, d31), _) => [Asr.blk b14 102 [Seg.of (Enc.arr 16 (Enc.int .i64)) d30], Asr.of 32 (Enc.int .u16) (z16.v) d31, Asr.vw (Enc.int .u8) (s1.v) x2]) ?_ ?_
        ·
          rintro ⟨⟨d30, d31⟩, ⟨⟩⟩ hm
          unfold F48.j2 at hm
          show QJ _ _ [(6, .pointer (some ⟨b14, 0, none⟩)), (7, z16.v), (23, s1.v), (24, .int .i64 ((x2).length : Int)), (25, .int .i64 d20)] [Asr.blk b14 102 [Seg.of (Enc.arr 16 (Enc.int .i64)) d30], Asr.of 32 (Enc.int .u16) (z16.v) d31, Asr.vw (Enc.int .u8) (s1.v) x2] _ _
          refine QJ.block_normal ?_
          refine QJ.then_normal ?_
          refine JC.region ?_
          refine JL.val (v := .int .i64 (IntKind.wrap .i64 (d20 + (1 : Int)))) (QV.add rfl rfl) rfl rfl rfl ?_
          refine JL.val (v := .int .i64 (IntKind.wrap .i64 (d20 + (1 : Int)))) (QV.move rfl) rfl rfl rfl ?_
          refine JL.nil ?_
          obtain rfl := Option.some.inj hm
          exact QJ.round_on (d30, d31, (IntKind.wrap .i64 (d20 + (1 : Int)))) () [0, 1, 2] (by exact ⟨rfl, rfl, rfl, rfl, rfl, trivial⟩) rfl rfl
        ·
          rcases ite_inv hm with ⟨h32, hm⟩ | ⟨h32, hm⟩
          ·
            refine JC.condT' rfl (decide_eq_true h32) ?_
            refine JC.seq ?_
            refine JC.region ?_
            refine JL.val (v := z16.v) (QV.move rfl) rfl rfl rfl ?_
            refine JL.val (v := .int .i64 d20) (QV.move rfl) rfl rfl rfl ?_
            refine JL.val (v := .int .u8 (gd x2 d20)) (QV.move rfl) rfl rfl rfl ?_
            obtain ⟨h33, hm⟩ := guard_inv hm
            refine JL.val (v := .pointer (some ⟨b14, 0 + Int.toNat (gd x2 d20) * 1, none⟩)) (QV.indexB Try.underlying102 tk_3 rfl rfl h33) rfl rfl rfl ?_
            refine JL.val (v := .int .i64 (gd (d18).l (gd x2 d20))) (QV.ar1 (ss := [Seg.of (Enc.arr 16 (Enc.int .i64)) d18]) 0 0 rfl tk_3 rfl rfl rfl rfl h33 rfl) rfl rfl rfl ?_
            refine JL.val (v := .int .u16 (IntKind.wrap .u16 (gd (d18).l (gd x2 d20)))) (QV.conv rfl (by rw [Try.underlying3]; rfl) Try.underlying32) rfl rfl rfl ?_
            obtain ⟨h34, hm⟩ := guard_inv hm
            refine JL.val (v := .pointer (some (elA (z16.v) (Int.toNat d20 * ((Enc.int .u16)).sz)))) (QV.indexA (Rdg.of 1 rfl) Try.underlying63 tk_32 rfl rfl h34) rfl rfl rfl ?_
            refine JL.mv (d := none) (MV.storeEl 1 (IntKind.wrap .u16 (gd (d18).l (gd x2 d20))) rfl tk_32 rfl rfl h34 rfl) rfl rfl rfl ?_
            rintro _ _ ⟨rfl, rfl⟩
            refine JL.nil ?_
            refine QJ.then_normal ?_
            refine JC.region ?_
            refine JL.val (v := .int .u8 (gd x2 d20)) (QV.move rfl) rfl rfl rfl ?_
            refine JL.val (v := .pointer (some ⟨b14, 0 + Int.toNat (gd x2 d20) * 1, none⟩)) (QV.indexB Try.underlying102 tk_3 rfl rfl h33) rfl rfl rfl ?_
            refine JL.val (v := .int .i64 (gd (d18).l (gd x2 d20))) (QV.ar1 (ss := [Seg.of (Enc.arr 16 (Enc.int .i64)) d18]) 0 0 rfl tk_3 rfl rfl rfl rfl h33 rfl) rfl rfl rfl ?_
            refine JL.val (v := .int .i64 (IntKind.wrap .i64 ((gd (d18).l (gd x2 d20)) + (1 : Int)))) (QV.add rfl rfl) rfl rfl rfl ?_
            refine JL.val (v := .pointer (some ⟨b14, 0 + Int.toNat (gd x2 d20) * 1, none⟩)) (QV.indexB Try.underlying102 tk_3 rfl rfl h33) rfl rfl rfl ?_
            refine JL.mv (d := none) (MV.storeAr (ss := [Seg.of (Enc.arr 16 (Enc.int .i64)) d18]) 0 0 (IntKind.wrap .i64 ((gd (d18).l (gd x2 d20)) + (1 : Int))) rfl tk_3 rfl rfl rfl rfl h33 rfl rfl) rfl rfl rfl ?_
            rintro _ _ ⟨rfl, rfl⟩
            refine JL.nil ?_
            exact QJ.cut_normal (((Arr.set d18 (gd x2 d20) (IntKind.wrap .i64 ((gd (d18).l (gd x2 d20)) + (1 : Int)))), (List.set d19 (Int.toNat d20) (IntKind.wrap .u16 (gd (d18).l (gd x2 d20))))), ()) hm [0, 1, 2] (by exact ⟨rfl, rfl, rfl, rfl, rfl, trivial⟩) rfl rfl
          ·
            refine JC.condF' rfl (decide_eq_false h32) ?_
            refine JC.skip ?_
            exact QJ.cut_normal ((d18, d19), ()) hm [0, 1, 2] (by exact ⟨rfl, rfl, rfl, rfl, rfl, trivial⟩) rfl rfl
      ·
        refine JC.condF' rfl (decide_eq_false h28) ?_
        refine JC.exit ?_
        refine QJ.then_exit ?_
        obtain rfl := Option.some.inj hm
        refine QJ.round_exit (fun hy => ?_)
        subst hy
        refine QJ.block_hit ?_
        exact QJ.cut_normal (d19, ()) hmo26 [1] (by exact ⟨rfl, trivial⟩) rfl rfl
  ·
    refine JC.condT' rfl (congrArg Bool.not (bfalse h8)) ?_
    refine JC.seq ?_
    refine JC.region ?_
    refine JL.ent (fun _ hs => hs.nil 32 (Enc.int .u16)) ?_
    refine JL.val (v := SlV.nil.v) (QV.assign rfl) rfl rfl rfl ?_
    refine JL.val (v := .int .i64 (3 : Int)) (QV.assign rfl) rfl rfl rfl ?_
    refine JL.nil ?_
    refine QJ.then_normal ?_
    refine JC.ret ?_
    refine QJ.then_ret ?_
    obtain rfl := Option.some.inj hm
    exact QJ.body (vs := [SlV.nil.v, .int .i64 (3 : Int)]) (.inl rfl) rfl (ResVs.cons (ResV.tmp rfl) (ResVs.cons (ResV.tmp rfl) ResVs.nil)) [0] rfl rfl (.inr ⟨own_of _ _ _ _, trivial⟩) ⟨(SlV.nil), rfl, rfl⟩

/-! ### 47: drogher/drogherlaw09.awake -/
noncomputable def F47.m  : Option Bool :=
  ((F48.m ([(2 : Int), (1 : Int), (2 : Int)])).bind fun y3 => (if y3.2 = (0 : Int) then (if ((y3.1).length : Int) = (3 : Int) then (if 0 ≤ (0 : Int) ∧ (0 : Int) < ((y3.1).length : Int) then (if (gd y3.1 (0 : Int)) = (2 : Int) then (if 0 ≤ (1 : Int) ∧ (1 : Int) < ((y3.1).length : Int) then (if (gd y3.1 (1 : Int)) = (0 : Int) then (if 0 ≤ (2 : Int) ∧ (2 : Int) < ((y3.1).length : Int) then some (decide ((gd y3.1 (2 : Int)) = (3 : Int))) else none) else some false) else none) else some false) else none) else some false) else some false))
set_option maxRecDepth 100000 in
set_option maxHeartbeats 4000000 in
theorem F47.spec  (r : Bool) (hm : F47.m  = some r) :
    Ctr Try.prog false 47 [] [] (fun v L' => v = .bool r ∧ L' = []) := by
  refine Ctr.intro (n := 33) (env := []) Try.func47 rfl rfl rfl rfl (fun c => ?_)
  unfold F47.m at hm
  refine JC.seq ?_
  refine JC.region ?_
  refine JL.val (v := .bool false) (QV.assign rfl) rfl rfl rfl ?_
  refine JL.nil ?_
  refine QJ.then_normal ?_
  refine JC.seq ?_
  refine JC.region ?_
  refine JL.mv (d := some 4) (MV.lit (E := (Enc.int .u8)) (vals := [(0, .int .u8 (2 : Int)), (1, .int .u8 (1 : Int)), (2, .int .u8 (2 : Int))]) [(2 : Int), (1 : Int), (2 : Int)] Try.underlying26 zi_5 rfl (by decide) rfl (by kernel_rfl)) rfl rfl rfl ?_
  rintro _ _ ⟨z2, rfl, rfl⟩
  obtain ⟨y3, hc4, hm⟩ := bind_inv hm
  refine JL.mv (d := some 5) (MV.call (Lo := []) (Lr := [Asr.of 5 (Enc.int .u8) (z2.v) [(2 : Int), (1 : Int), (2 : Int)]]) (F48.spec (z2) ([(2 : Int), (1 : Int), (2 : Int)]) _ hc4) rfl Try.func48 rfl rfl rfl [] [0] rfl rfl rfl ⟨(Drv.of 0 rfl), trivial⟩) rfl rfl rfl ?_
  rintro _ _ ⟨_, ⟨z5, rfl, rfl⟩, rfl⟩
  refine JL.val (v := .tuple #[z5.v, .int .i64 y3.2]) (QV.move rfl) rfl rfl rfl ?_
  refine JL.val (v := z5.v) (QV.extract (vs := [z5.v, .int .i64 y3.2]) rfl rfl) rfl rfl rfl ?_
  refine JL.val (v := .int .i64 y3.2) (QV.extract (vs := [z5.v, .int .i64 y3.2]) rfl rfl) rfl rfl rfl ?_
  refine JL.val (v := z5.v) (QV.assign rfl) rfl rfl rfl ?_
  refine JL.val (v := .int .i64 y3.2) (QV.assign rfl) rfl rfl rfl ?_
  refine JL.nil ?_
  refine QJ.then_normal ?_
  refine JC.seq ?_
  refine JC.region ?_
  refine JL.val (v := .int .i64 y3.2) (QV.move rfl) rfl rfl rfl ?_
  refine JL.val (v := .bool (decide (y3.2 = (0 : Int)))) (QV.eql rfl rfl) rfl rfl rfl ?_
  rcases ite_inv hm with ⟨h6, hm⟩ | ⟨h6, hm⟩
  ·
    refine JL.val (v := .bool true) (QV.eq (QV.move rfl) (congrArg Value.bool (decide_eq_true h6))) rfl rfl rfl ?_
    refine JL.val (v := z5.v) (QV.move rfl) rfl rfl rfl ?_
    refine JL.val (v := .int .i64 ((y3.1).length : Int)) (QV.len (Rdg.of 0 rfl) Try.underlying63 rfl) rfl rfl rfl ?_
    refine JL.val (v := .bool (decide (((y3.1).length : Int) = (3 : Int)))) (QV.eql rfl rfl) rfl rfl rfl ?_
    refine JL.val (v := .bool (decide (((y3.1).length : Int) = (3 : Int)))) (QV.pickT rfl rfl) rfl rfl rfl ?_
    rcases ite_inv hm with ⟨h7, hm⟩ | ⟨h7, hm⟩
    ·
      refine JL.val (v := .bool true) (QV.eq (QV.move rfl) (congrArg Value.bool (decide_eq_true h7))) rfl rfl rfl ?_
      refine JL.val (v := z5.v) (QV.move rfl) rfl rfl rfl ?_
      obtain ⟨h8, hm⟩ := guard_inv hm
      refine JL.val (v := .pointer (some (elA (z5.v) (Int.toNat (0 : Int) * ((Enc.int .u16)).sz)))) (QV.indexA (Rdg.of 0 rfl) Try.underlying63 tk_32 rfl rfl h8) rfl rfl rfl ?_
      refine JL.val (v := .int .u16 (gd y3.1 (0 : Int))) (QV.el1 (Rdg.of 0 rfl) tk_32 rfl h8 rfl) rfl rfl rfl ?_
      refine JL.val (v := .bool (decide ((gd y3.1 (0 : Int)) = (2 : Int)))) (QV.eql rfl rfl) rfl rfl rfl ?_
      refine JL.val (v := .bool (decide ((gd y3.1 (0 : Int)) = (2 : Int)))) (QV.pickT rfl rfl) rfl rfl rfl ?_
      rcases ite_inv hm with ⟨h9, hm⟩ | ⟨h9, hm⟩
      ·
        refine JL.val (v := .bool true) (QV.eq (QV.move rfl) (congrArg Value.bool (decide_eq_true h9))) rfl rfl rfl ?_
        refine JL.val (v := z5.v) (QV.move rfl) rfl rfl rfl ?_
        obtain ⟨h10, hm⟩ := guard_inv hm
        refine JL.val (v := .pointer (some (elA (z5.v) (Int.toNat (1 : Int) * ((Enc.int .u16)).sz)))) (QV.indexA (Rdg.of 0 rfl) Try.underlying63 tk_32 rfl rfl h10) rfl rfl rfl ?_
        refine JL.val (v := .int .u16 (gd y3.1 (1 : Int))) (QV.el1 (Rdg.of 0 rfl) tk_32 rfl h10 rfl) rfl rfl rfl ?_
        refine JL.val (v := .bool (decide ((gd y3.1 (1 : Int)) = (0 : Int)))) (QV.eql rfl rfl) rfl rfl rfl ?_
        refine JL.val (v := .bool (decide ((gd y3.1 (1 : Int)) = (0 : Int)))) (QV.pickT rfl rfl) rfl rfl rfl ?_
        rcases ite_inv hm with ⟨h11, hm⟩ | ⟨h11, hm⟩
        ·
          refine JL.val (v := .bool true) (QV.eq (QV.move rfl) (congrArg Value.bool (decide_eq_true h11))) rfl rfl rfl ?_
          refine JL.val (v := z5.v) (QV.move rfl) rfl rfl rfl ?_
          obtain ⟨h12, hm⟩ := guard_inv hm
          refine JL.val (v := .pointer (some (elA (z5.v) (Int.toNat (2 : Int) * ((Enc.int .u16)).sz)))) (QV.indexA (Rdg.of 0 rfl) Try.underlying63 tk_32 rfl rfl h12) rfl rfl rfl ?_
          refine JL.val (v := .int .u16 (gd y3.1 (2 : Int))) (QV.el1 (Rdg.of 0 rfl) tk_32 rfl h12 rfl) rfl rfl rfl ?_
          refine JL.val (v := .bool (decide ((gd y3.1 (2 : Int)) = (3 : Int)))) (QV.eql rfl rfl) rfl rfl rfl ?_
          refine JL.val (v := .bool (decide ((gd y3.1 (2 : Int)) = (3 : Int)))) (QV.pickT rfl rfl) rfl rfl rfl ?_
          refine JL.val (v := .bool (decide ((gd y3.1 (2 : Int)) = (3 : Int)))) (QV.assign rfl) rfl rfl rfl ?_
          refine JL.nil ?_
          refine QJ.then_normal ?_
          refine JC.ret ?_
          obtain rfl := Option.some.inj hm
          exact QJ.body (vs := [.bool (decide ((gd y3.1 (2 : Int)) = (3 : Int)))]) (.inl rfl) rfl (ResVs.cons (ResV.tmp rfl) ResVs.nil) [] rfl rfl (.inr trivial) ⟨rfl, rfl⟩
        ·
          refine JL.val (v := .bool false) (QV.eq (QV.move rfl) (congrArg Value.bool (decide_eq_false h11))) rfl rfl rfl ?_
          refine JL.skip (d := some 28) rfl rfl rfl ?_
          refine JL.skip (d := some 29) rfl rfl rfl ?_
          refine JL.skip (d := some 30) rfl rfl rfl ?_
          refine JL.skip (d := some 31) rfl rfl rfl ?_
          refine JL.val (v := .bool false) (QV.pickF rfl rfl) rfl rfl rfl ?_
          refine JL.val (v := .bool false) (QV.assign rfl) rfl rfl rfl ?_
          refine JL.nil ?_
          refine QJ.then_normal ?_
          refine JC.ret ?_
          obtain rfl := Option.some.inj hm
          exact QJ.body (vs := [.bool false]) (.inl rfl) rfl (ResVs.cons (ResV.tmp rfl) ResVs.nil) [] rfl rfl (.inr trivial) ⟨rfl, rfl⟩
      ·
        refine JL.val (v := .bool false) (QV.eq (QV.move rfl) (congrArg Value.bool (decide_eq_false h9))) rfl rfl rfl ?_
        refine JL.skip (d := some 22) rfl rfl rfl ?_
        refine JL.skip (d := some 23) rfl rfl rfl ?_
        refine JL.skip (d := some 24) rfl rfl rfl ?_
        refine JL.skip (d := some 25) rfl rfl rfl ?_
        refine JL.val (v := .bool false) (QV.pickF rfl rfl) rfl rfl rfl ?_
        refine JL.val (v := .bool false) (QV.move rfl) rfl rfl rfl ?_
        refine JL.skip (d := some 28) rfl rfl rfl ?_
        refine JL.skip (d := some 29) rfl rfl rfl ?_
        refine JL.skip (d := some 30) rfl rfl rfl ?_
        refine JL.skip (d := some 31) rfl rfl rfl ?_
        refine JL.val (v := .bool false) (QV.pickF rfl rfl) rfl rfl rfl ?_
        refine JL.val (v := .bool false) (QV.assign rfl) rfl rfl rfl ?_
        refine JL.nil ?_
        refine QJ.then_normal ?_
        refine JC.ret ?_
        obtain rfl := Option.some.inj hm
        exact QJ.body (vs := [.bool false]) (.inl rfl) rfl (ResVs.cons (ResV.tmp rfl) ResVs.nil) [] rfl rfl (.inr trivial) ⟨rfl, rfl⟩
    ·
      refine JL.val (v := .bool false) (QV.eq (QV.move rfl) (congrArg Value.bool (decide_eq_false h7))) rfl rfl rfl ?_
      refine JL.skip (d := some 16) rfl rfl rfl ?_
      refine JL.skip (d := some 17) rfl rfl rfl ?_
      refine JL.skip (d := some 18) rfl rfl rfl ?_
      refine JL.skip (d := some 19) rfl rfl rfl ?_
      refine JL.val (v := .bool false) (QV.pickF rfl rfl) rfl rfl rfl ?_
      refine JL.val (v := .bool false) (QV.move rfl) rfl rfl rfl ?_
      refine JL.skip (d := some 22) rfl rfl rfl ?_
      refine JL.skip (d := some 23) rfl rfl rfl ?_
      refine JL.skip (d := some 24) rfl rfl rfl ?_
      refine JL.skip (d := some 25) rfl rfl rfl ?_
      refine JL.val (v := .bool false) (QV.pickF rfl rfl) rfl rfl rfl ?_
      refine JL.val (v := .bool false) (QV.move rfl) rfl rfl rfl ?_
      refine JL.skip (d := some 28) rfl rfl rfl ?_
      refine JL.skip (d := some 29) rfl rfl rfl ?_
      refine JL.skip (d := some 30) rfl rfl rfl ?_
      refine JL.skip (d := some 31) rfl rfl rfl ?_
      refine JL.val (v := .bool false) (QV.pickF rfl rfl) rfl rfl rfl ?_
      refine JL.val (v := .bool false) (QV.assign rfl) rfl rfl rfl ?_
      refine JL.nil ?_
      refine QJ.then_normal ?_
      refine JC.ret ?_
      obtain rfl := Option.some.inj hm
      exact QJ.body (vs := [.bool false]) (.inl rfl) rfl (ResVs.cons (ResV.tmp rfl) ResVs.nil) [] rfl rfl (.inr trivial) ⟨rfl, rfl⟩
  ·
    refine JL.val (v := .bool false) (QV.eq (QV.move rfl) (congrArg Value.bool (decide_eq_false h6))) rfl rfl rfl ?_
    refine JL.skip (d := some 11) rfl rfl rfl ?_
    refine JL.skip (d := some 12) rfl rfl rfl ?_
    refine JL.skip (d := some 13) rfl rfl rfl ?_
    refine JL.val (v := .bool false) (QV.pickF rfl rfl) rfl rfl rfl ?_
    refine JL.val (v := .bool false) (QV.move rfl) rfl rfl rfl ?_
    refine JL.skip (d := some 16) rfl rfl rfl ?_
    refine JL.skip (d := some 17) rfl rfl rfl ?_
    refine JL.skip (d := some 18) rfl rfl rfl ?_
    refine JL.skip (d := some 19) rfl rfl rfl ?_
    refine JL.val (v := .bool false) (QV.pickF rfl rfl) rfl rfl rfl ?_
    refine JL.val (v := .bool false) (QV.move rfl) rfl rfl rfl ?_
    refine JL.skip (d := some 22) rfl rfl rfl ?_
    refine JL.skip (d := some 23) rfl rfl rfl ?_
    refine JL.skip (d := some 24) rfl rfl rfl ?_
    refine JL.skip (d := some 25) rfl rfl rfl ?_
    refine JL.val (v := .bool false) (QV.pickF rfl rfl) rfl rfl rfl ?_
    refine JL.val (v := .bool false) (QV.move rfl) rfl rfl rfl ?_
    refine JL.skip (d := some 28) rfl rfl rfl ?_
    refine JL.skip (d := some 29) rfl rfl rfl ?_
    refine JL.skip (d := some 30) rfl rfl rfl ?_
    refine JL.skip (d := some 31) rfl rfl rfl ?_
    refine JL.val (v := .bool false) (QV.pickF rfl rfl) rfl rfl rfl ?_
    refine JL.val (v := .bool false) (QV.assign rfl) rfl rfl rfl ?_
    refine JL.nil ?_
    refine QJ.then_normal ?_
    refine JC.ret ?_
    obtain rfl := Option.some.inj hm
    exact QJ.body (vs := [.bool false]) (.inl rfl) rfl (ResVs.cons (ResV.tmp rfl) ResVs.nil) [] rfl rfl (.inr trivial) ⟨rfl, rfl⟩

/-! ### 50: drogher/drogherref09.May -/
noncomputable def F50.j1  (d5 : Int) (d6 : Int) : Option Bool :=
  (if d5 = (32768 : Int) then some true else (if d6 = (0 : Int) then some true else (if d6 = (1 : Int) then some (decide (d5 = (16384 : Int))) else some false)))
noncomputable def F50.j2 (d12 : Int) (d21 : Int) (d22 : Int) : Option ((Int × Int × Int) ⊕ ((Bool) ⊕ (Int × Int))) :=
  some (.inl (d21, d22, (IntKind.wrap .i64 (d12 + (1 : Int)))))
noncomputable def F50.j3 (d12 : Int) (d25 : Int) (d26 : Int) : Option ((Int × Int × Int) ⊕ ((Bool) ⊕ (Int × Int))) :=
  F50.j2 d12 (d25) (d26)
noncomputable def F50.j4 (d10 : Int) (d11 : Int) (d12 : Int) (d28 : Int) : Option ((Int × Int × Int) ⊕ ((Bool) ⊕ (Int × Int))) :=
  F50.j3 d12 ((IntKind.wrap .i64 (d10 + d28))) ((IntKind.wrap .i64 (d11 + (1 : Int))))
noncomputable def F50.b2 (x2 : List Int) (d12 : Int) : (Int × Int) → Option ((Int × Int) ⊕ Int)
  | (d29, d30) => (if d30 < (gd x2 d12) then some (.inl ((IntKind.wrap .i64 (Int.tdiv d29 (2 : Int))), (IntKind.wrap .u8 (d30 + (1 : Int))))) else some (.inr d29))
noncomputable def F50.b1 (x2 : List Int) : (Int × Int × Int) → Option ((Int × Int × Int) ⊕ ((Bool) ⊕ (Int × Int)))
  | (d10, d11, d12) => (if d12 < ((x2).length : Int) then (if 0 ≤ d12 ∧ d12 < ((x2).length : Int) then (if (15 : Int) < (gd x2 d12) then some (.inr (.inl (false))) else (if (0 : Int) < (gd x2 d12) then ((loop (F50.b2 x2 d12) ((32768 : Int), (0 : Int))).bind fun y => match y with | d28 => F50.j4 d10 d11 d12 (d28)) else F50.j3 d12 (d10) (d11))) else none) else some (.inr (.inr ((d10, d11)))))
noncomputable def F50.m (x2 : List Int) : Option Bool :=
  (if (300 : Int) < ((x2).length : Int) then some false else ((loop (F50.b1 x2) ((0 : Int), (0 : Int), (0 : Int))).bind fun y => match y with | .inl r => some r | .inr (d5, d6) => F50.j1 (d5) (d6)))
set_option maxRecDepth 100000 in
set_option maxHeartbeats 4000000 in
theorem F50.spec (s1 : SlV) (x2 : List Int) (r : Bool) (hm : F50.m x2 = some r) :
    Ctr Try.prog false 50 [s1.v] [Asr.vw (Enc.int .u8) (s1.v) x2] (fun v L' => v = .bool r ∧ L' = []) := by
  refine Ctr.intro (n := 56) (env := [(0, s1.v)]) Try.func50 rfl rfl rfl rfl (fun c => ?_)
  unfold F50.m at hm
  refine JC.seq ?_
  refine JC.region ?_
  refine JL.val (v := .bool false) (QV.assign rfl) rfl rfl rfl ?_
  refine JL.nil ?_
  refine QJ.then_normal ?_
  refine JC.seq ?_
  refine JC.seq ?_
  refine JC.region ?_
  refine JL.val (v := s1.v) (QV.move rfl) rfl rfl rfl ?_
  refine JL.val (v := .int .i64 ((x2).length : Int)) (QV.len (Rdg.vw 0 rfl) Try.underlying26 rfl) rfl rfl rfl ?_
  refine JL.val (v := .bool (decide ((300 : Int) < ((x2).length : Int)))) (QV.gtr rfl rfl) rfl rfl rfl ?_
  refine JL.nil ?_
  refine QJ.then_normal ?_
  rcases ite_inv hm with ⟨h4, hm⟩ | ⟨h4, hm⟩
  ·
    refine JC.condT' rfl (decide_eq_true h4) ?_
    refine JC.seq ?_
    refine JC.region ?_
    refine JL.val (v := .bool false) (QV.assign rfl) rfl rfl rfl ?_
    refine JL.nil ?_
    refine QJ.then_normal ?_
    refine JC.ret ?_
    refine QJ.then_ret ?_
    obtain rfl := Option.some.inj hm
    exact QJ.body (vs := [.bool false]) (.inl rfl) rfl (ResVs.cons (ResV.tmp rfl) ResVs.nil) [] rfl rfl (.inr trivial) ⟨rfl, rfl⟩
  ·
    refine JC.condF' rfl (decide_eq_false h4) ?_
    refine JC.skip ?_
    refine QJ.then_normal ?_
    refine JC.seq ?_
    refine JC.region ?_
    refine JL.val (v := .int .i64 (0 : Int)) (QV.assign rfl) rfl rfl rfl ?_
    refine JL.nil ?_
    refine QJ.then_normal ?_
    refine JC.seq ?_
    refine JC.region ?_
    refine JL.val (v := .int .i64 (0 : Int)) (QV.assign rfl) rfl rfl rfl ?_
    refine JL.nil ?_
    refine QJ.then_normal ?_
    refine JC.seq ?_
    refine JC.seq ?_
    refine JC.region ?_
    refine JL.val (v := s1.v) (QV.move rfl) rfl rfl rfl ?_
    refine JL.val (v := .int .i64 ((x2).length : Int)) (QV.len (Rdg.vw 0 rfl) Try.underlying26 rfl) rfl rfl rfl ?_
    refine JL.val (v := .int .i64 (0 : Int)) (QV.move rfl) rfl rfl rfl ?_
    refine JL.nil ?_
    refine QJ.then_normal ?_
    refine JC.cutK (Y := (Int × Int) × Unit) (fun y => match y with | ((d5, d6), _) => F50.j1 (d5) (d6) = some r) (fun y => match y with | ((d5, d6), _) => [(3, .int .i64 d5), (4, .int .i64 d6)]) (fun y => match y with | ((d5, d6), _) => []) ?_ ?_
    ·
      rintro ⟨⟨d5, d6⟩, ⟨⟩⟩ hm
      unfold F50.j1 at hm
      show QJ _ _ [(3, .int .i64 d5), (4, .int .i64 d6)] [] _ _
      refine QJ.then_normal ?_
      refine JC.seq ?_
      refine JC.region ?_
      refine JL.val (v := .int .i64 d5) (QV.move rfl) rfl rfl rfl ?_
      refine JL.val (v := .bool (decide (d5 = (32768 : Int)))) (QV.eql rfl rfl) rfl rfl rfl ?_
      rcases ite_inv hm with ⟨h7, hm⟩ | ⟨h7, hm⟩
      ·
        refine JL.val (v := .bool true) (QV.eq (QV.move rfl) (congrArg Value.bool (decide_eq_true h7))) rfl rfl rfl ?_
        refine JL.skip (d := some 45) rfl rfl rfl ?_
        refine JL.skip (d := some 46) rfl rfl rfl ?_
        refine JL.val (v := .bool true) (QV.pickT rfl rfl) rfl rfl rfl ?_
        refine JL.val (v := .bool true) (QV.move rfl) rfl rfl rfl ?_
        refine JL.skip (d := some 49) rfl rfl rfl ?_
        refine JL.skip (d := some 50) rfl rfl rfl ?_
        refine JL.skip (d := some 51) rfl rfl rfl ?_
        refine JL.skip (d := some 52) rfl rfl rfl ?_
        refine JL.skip (d := some 53) rfl rfl rfl ?_
        refine JL.skip (d := some 54) rfl rfl rfl ?_
        refine JL.val (v := .bool true) (QV.pickT rfl rfl) rfl rfl rfl ?_
        refine JL.val (v := .bool true) (QV.assign rfl) rfl rfl rfl ?_
        refine JL.nil ?_
        refine QJ.then_normal ?_
        refine JC.ret ?_
        obtain rfl := Option.some.inj hm
        exact QJ.body (vs := [.bool true]) (.inl rfl) rfl (ResVs.cons (ResV.tmp rfl) ResVs.nil) [] rfl rfl (.inr trivial) ⟨rfl, rfl⟩
      ·
        refine JL.val (v := .bool false) (QV.eq (QV.move rfl) (congrArg Value.bool (decide_eq_false h7))) rfl rfl rfl ?_
        refine JL.val (v := .int .i64 d6) (QV.move rfl) rfl rfl rfl ?_
        refine JL.val (v := .bool (decide (d6 = (0 : Int)))) (QV.eql rfl rfl) rfl rfl rfl ?_
        refine JL.val (v := .bool (decide (d6 = (0 : Int)))) (QV.pickF rfl rfl) rfl rfl rfl ?_
        rcases ite_inv hm with ⟨h8, hm⟩ | ⟨h8, hm⟩
        ·
          refine JL.val (v := .bool true) (QV.eq (QV.move rfl) (congrArg Value.bool (decide_eq_true h8))) rfl rfl rfl ?_
          refine JL.skip (d := some 49) rfl rfl rfl ?_
          refine JL.skip (d := some 50) rfl rfl rfl ?_
          refine JL.skip (d := some 51) rfl rfl rfl ?_
          refine JL.skip (d := some 52) rfl rfl rfl ?_
          refine JL.skip (d := some 53) rfl rfl rfl ?_
          refine JL.skip (d := some 54) rfl rfl rfl ?_
          refine JL.val (v := .bool true) (QV.pickT rfl rfl) rfl rfl rfl ?_
          refine JL.val (v := .bool true) (QV.assign rfl) rfl rfl rfl ?_
          refine JL.nil ?_
          refine QJ.then_normal ?_
          refine JC.ret ?_
          obtain rfl := Option.some.inj hm
          exact QJ.body (vs := [.bool true]) (.inl rfl) rfl (ResVs.cons (ResV.tmp rfl) ResVs.nil) [] rfl rfl (.inr trivial) ⟨rfl, rfl⟩
        ·
          refine JL.val (v := .bool false) (QV.eq (QV.move rfl) (congrArg Value.bool (decide_eq_false h8))) rfl rfl rfl ?_
          refine JL.val (v := .int .i64 d6) (QV.move rfl) rfl rfl rfl ?_
          refine JL.val (v := .bool (decide (d6 = (1 : Int)))) (QV.eql rfl rfl) rfl rfl rfl ?_
          rcases ite_inv hm with ⟨h9, hm⟩ | ⟨h9, hm⟩
          ·
            refine JL.val (v := .bool true) (QV.eq (QV.move rfl) (congrArg Value.bool (decide_eq_true h9))) rfl rfl rfl ?_
            refine JL.val (v := .int .i64 d5) (QV.move rfl) rfl rfl rfl ?_
            refine JL.val (v := .bool (decide (d5 = (16384 : Int)))) (QV.eql rfl rfl) rfl rfl rfl ?_
            refine JL.val (v := .bool (decide (d5 = (16384 : Int)))) (QV.pickT rfl rfl) rfl rfl rfl ?_
            refine JL.val (v := .bool (decide (d5 = (16384 : Int)))) (QV.pickF rfl rfl) rfl rfl rfl ?_
            refine JL.val (v := .bool (decide (d5 = (16384 : Int)))) (QV.assign rfl) rfl rfl rfl ?_
            refine JL.nil ?_
            refine QJ.then_normal ?_
            refine JC.ret ?_
            obtain rfl := Option.some.inj hm
            exact QJ.body (vs := [.bool (decide (d5 = (16384 : Int)))]) (.inl rfl) rfl (ResVs.cons (ResV.tmp rfl) ResVs.nil) [] rfl rfl (.inr trivial) ⟨rfl, rfl⟩
          ·
            refine JL.val (v := .bool false) (QV.eq (QV.move rfl) (congrArg Value.bool (decide_eq_false h9))) rfl rfl rfl ?_
            refine JL.skip (d := some 52) rfl rfl rfl ?_
            refine JL.skip (d := some 53) rfl rfl rfl ?_
            refine JL.val (v := .bool false) (QV.pickF rfl rfl) rfl rfl rfl ?_
            refine JL.val (v := .bool false) (QV.pickF rfl rfl) rfl rfl rfl ?_
            refine JL.val (v := .bool false) (QV.assign rfl) rfl rfl rfl ?_
            refine JL.nil ?_
            refine QJ.then_normal ?_
            refine JC.ret ?_
            obtain rfl := Option.some.inj hm
            exact QJ.body (vs := [.bool false]) (.inl rfl) rfl (ResVs.cons (ResV.tmp rfl) ResVs.nil) [] rfl rfl (.inr trivial) ⟨rfl, rfl⟩
    ·
      refine JC.block ?_
      obtain ⟨y16, hl17, hmo18⟩ := bind_inv hm
      refine JC.loop (F50.b1 x2) (fun x z => match x, z with | (d10, d11, d12), _ => [(0, s1.v), (3, .int .i64 d10), (4, .int .i64 d11), (12, .int .i64 ((x2).length : Int)), (13, .int .i64 d12)]) (fun x z => match x, z with | (d10, d11, d12), _ => [Asr.vw (Enc.int .u8) (s1.v) x2]) ((0 : Int), (0 : Int), (0 : Int)) () y16 hl17 [0] (by exact ⟨rfl, rfl, rfl, rfl, rfl, trivial⟩) rfl rfl ?_
      rintro ⟨d10, d11, d12⟩ ⟨⟩ s19 hm
      unfold F50.b1 at hm
      dsimp only at hm
      show JC _ _ _ [(0, s1.v), (3, .int .i64 d10), (4, .int .i64 d11), (12, .int .i64 ((x2).length : Int)), (13, .int .i64 d12)] [Asr.vw (Enc.int .u8) (s1.v) x2] _ _
      refine JC.seq ?_
      refine JC.region ?_
      refine JL.val (v := .bool (decide (d12 < ((x2).length : Int)))) (QV.lss rfl rfl) rfl rfl rfl ?_
      refine JL.nil ?_
      refine QJ.then_normal ?_
      refine JC.seq ?_
      rcases ite_inv hm with ⟨h20, hm⟩ | ⟨h20, hm⟩
      ·
        refine JC.condT' rfl (decide_eq_true h20) ?_
        refine JC.skip ?_
        refine QJ.then_normal ?_
        refine JC.seq ?_
        refine JC.cutK (Y := (Int × Int) × Unit) (fun y => match y with | ((d21, d22), _) => F50.j2 d12 (d21) (d22) = some s19) (fun y => match y with | ((d21, d22), _) => [(0, s1.v), (3, .int .i64 d21), (4, .int .i64 d22), (12, .int .i64 ((x2).length : Int)), (13, .int .i64 d12)]) (fun y => match y with | ((d21, d22), _) => [Asr.vw (Enc.int .u8) (s1.v) x2]) ?_ ?_
        ·
          rintro ⟨⟨d21, d22⟩, ⟨⟩⟩ hm
          unfold F50.j2 at hm
          show QJ _ _ [(0, s1.v), (3, .int .i64 d21), (4, .int .i64 d22), (12, .int .i64 ((x2).length : Int)), (13, .int .i64 d12)] [Asr.vw (Enc.int .u8) (s1.v) x2] _ _
          refine QJ.then_normal ?_
          refine JC.region ?_
          refine JL.val (v := .int .i64 (IntKind.wrap .i64 (d12 + (1 : Int)))) (QV.add rfl rfl) rfl rfl rfl ?_
          refine JL.val (v := .int .i64 (IntKind.wrap .i64 (d12 + (1 : Int)))) (QV.move rfl) rfl rfl rfl ?_
          refine JL.nil ?_
          obtain rfl := Option.some.inj hm
          exact QJ.round_on (d21, d22, (IntKind.wrap .i64 (d12 + (1 : Int)))) () [0] (by exact ⟨rfl, rfl, rfl, rfl, rfl, trivial⟩) rfl rfl
        ·
          refine JC.block ?_
          refine JC.seq ?_
          refine JC.region ?_
          refine JL.val (v := .int .i64 d12) (QV.move rfl) rfl rfl rfl ?_
          refine JL.val (v := .int .i64 d12) (QV.assign rfl) rfl rfl rfl ?_
          refine JL.nil ?_
          refine QJ.then_normal ?_
          refine JC.seq ?_
          refine JC.seq ?_
          refine JC.region ?_
          refine JL.val (v := s1.v) (QV.move rfl) rfl rfl rfl ?_
          refine JL.val (v := .int .i64 d12) (QV.move rfl) rfl rfl rfl ?_
          obtain ⟨h23, hm⟩ := guard_inv hm
          refine JL.val (v := .pointer (some (elA (s1.v) (Int.toNat d12 * ((Enc.int .u8)).sz)))) (QV.indexA (Rdg.vw 0 rfl) Try.underlying26 tk_5 rfl rfl h23) rfl rfl rfl ?_
          refine JL.val (v := .int .u8 (gd x2 d12)) (QV.el1 (Rdg.vw 0 rfl) tk_5 rfl h23 rfl) rfl rfl rfl ?_
          refine JL.val (v := .bool (decide ((15 : Int) < (gd x2 d12)))) (QV.gtr rfl rfl) rfl rfl rfl ?_
          refine JL.nil ?_
          refine QJ.then_normal ?_
          rcases ite_inv hm with ⟨h24, hm⟩ | ⟨h24, hm⟩
          ·
            refine JC.condT' rfl (decide_eq_true h24) ?_
            refine JC.seq ?_
            refine JC.region ?_
            refine JL.val (v := .bool false) (QV.assign rfl) rfl rfl rfl ?_
            refine JL.nil ?_
            refine QJ.then_normal ?_
            refine JC.ret ?_
            refine QJ.then_ret ?_
            refine QJ.block_ret ?_
            refine QJ.cut_ret ?_
            refine QJ.then_ret ?_
            obtain rfl := Option.some.inj hm
            refine QJ.round_ret (fun hy => ?_)
            subst hy
            refine QJ.block_ret ?_
            refine QJ.cut_ret ?_
            refine QJ.then_ret ?_
            obtain rfl := Option.some.inj hmo18
            exact QJ.body (vs := [.bool false]) (.inl rfl) rfl (ResVs.cons (ResV.tmp rfl) ResVs.nil) [] rfl rfl (.inr trivial) ⟨rfl, rfl⟩
          ·
            refine JC.condF' rfl (decide_eq_false h24) ?_
            refine JC.skip ?_
            refine QJ.then_normal ?_
            refine JC.seq ?_
            refine JC.region ?_
            refine JL.val (v := s1.v) (QV.move rfl) rfl rfl rfl ?_
            refine JL.val (v := .int .i64 d12) (QV.move rfl) rfl rfl rfl ?_
            refine JL.val (v := .pointer (some (elA (s1.v) (Int.toNat d12 * ((Enc.int .u8)).sz)))) (QV.indexA (Rdg.vw 0 rfl) Try.underlying26 tk_5 rfl rfl h23) rfl rfl rfl ?_
            refine JL.val (v := .int .u8 (gd x2 d12)) (QV.el1 (Rdg.vw 0 rfl) tk_5 rfl h23 rfl) rfl rfl rfl ?_
            refine JL.val (v := .bool (decide ((0 : Int) < (gd x2 d12)))) (QV.gtr rfl rfl) rfl rfl rfl ?_
            refine JL.nil ?_
            refine QJ.then_normal ?_
            refine JC.cutK (Y := (Int × Int) × Unit) (fun y => match y with | ((d25, d26), _) => F50.j3 d12 (d25) (d26) = some s19) (fun y => match y with | ((d25, d26), _) => [(0, s1.v), (3, .int .i64 d25), (4, .int .i64 d26), (12, .int .i64 ((x2).length : Int)), (13, .int .i64 d12)]) (fun y => match y with | ((d25, d26), _) => [Asr.vw (Enc.int .u8) (s1.v) x2]) ?_ ?_
            ·
              rintro ⟨⟨d25, d26⟩, ⟨⟩⟩ hm
              unfold F50.j3 at hm
              show QJ _ _ [(0, s1.v), (3, .int .i64 d25), (4, .int .i64 d26), (12, .int .i64 ((x2).length : Int)), (13, .int .i64 d12)] [Asr.vw (Enc.int .u8) (s1.v) x2] _ _
              refine QJ.block_normal ?_
              exact QJ.cut_normal ((d25, d26), ()) hm [0] (by exact ⟨rfl, rfl, rfl, rfl, rfl, trivial⟩) rfl rfl
            ·
              rcases ite_inv hm with ⟨h27, hm⟩ | ⟨h27, hm⟩
              ·
                refine JC.condT' rfl (decide_eq_true h27) ?_
                refine JC.seq ?_
                refine JC.region ?_
                refine JL.val (v := .int .i64 d11) (QV.move rfl) rfl rfl rfl ?_
                refine JL.val (v := .int .i64 (IntKind.wrap .i64 (d11 + (1 : Int)))) (QV.add rfl rfl) rfl rfl rfl ?_
                refine JL.val (v := .int .i64 (IntKind.wrap .i64 (d11 + (1 : Int)))) (QV.assign rfl) rfl rfl rfl ?_
                refine JL.nil ?_
                refine QJ.then_normal ?_
                refine JC.seq ?_
                refine JC.region ?_
                refine JL.val (v := .int .i64 (32768 : Int)) (QV.assign rfl) rfl rfl rfl ?_
                refine JL.nil ?_
                refine QJ.then_normal ?_
                refine JC.seq ?_
                refine JC.seq ?_
                refine JC.region ?_
                refine JL.val (v := .int .u8 (0 : Int)) (QV.assign rfl) rfl rfl rfl ?_
                refine JL.nil ?_
                refine QJ.then_normal ?_
                refine JC.cutK (Y := Int × Unit) (fun y => match y with | (d28, _) => F50.j4 d10 d11 d12 (d28) = some s19) (fun y => match y with | (d28, _) => [(0, s1.v), (3, .int .i64 d10), (4, .int .i64 (IntKind.wrap .i64 (d11 + (1 : Int)))), (6, .int .i64 d28), (12, .int .i64 ((x2).length : Int)), (13, .int .i64 d12)]) (fun y => match y with | (d28, _) => [Asr.vw (Enc.int .u8) (s1.v) x2]) ?_ ?_
                ·
                  rintro ⟨d28, ⟨⟩⟩ hm
                  unfold F50.j4 at hm
                  show QJ _ _ [(0, s1.v), (3, .int .i64 d10), (4, .int .i64 (IntKind.wrap .i64 (d11 + (1 : Int)))), (6, .int .i64 d28), (12, .int .i64 ((x2).length : Int)), (13, .int .i64 d12)] [Asr.vw (Enc.int .u8) (s1.v) x2] _ _
                  refine QJ.then_normal ?_
                  refine JC.region ?_
                  refine JL.val (v := .int .i64 d10) (QV.move rfl) rfl rfl rfl ?_
                  refine JL.val (v := .int .i64 d28) (QV.move rfl) rfl rfl rfl ?_
                  refine JL.val (v := .int .i64 (IntKind.wrap .i64 (d10 + d28))) (QV.add rfl rfl) rfl rfl rfl ?_
                  refine JL.val (v := .int .i64 (IntKind.wrap .i64 (d10 + d28))) (QV.assign rfl) rfl rfl rfl ?_
                  refine JL.nil ?_
                  exact QJ.cut_normal (((IntKind.wrap .i64 (d10 + d28)), (IntKind.wrap .i64 (d11 + (1 : Int)))), ()) hm [0] (by exact ⟨rfl, rfl, rfl, rfl, rfl, trivial⟩) rfl rfl
                ·
                  refine JC.block ?_
                  obtain ⟨y33, hl34, hmo35⟩ := bind_inv hm
                  refine JC.loop (F50.b2 x2 d12) (fun x z => match x, z with | (d29, d30), _ => [(0, s1.v), (3, .int .i64 d10), (4, .int .i64 (IntKind.wrap .i64 (d11 + (1 : Int)))), (5, .int .i64 d12), (6, .int .i64 d29), (7, .int .u8 d30), (12, .int .i64 ((x2).length : Int)), (13, .int .i64 d12)]) (fun x z => match x, z with | (d29, d30), _ => [Asr.vw (Enc.int .u8) (s1.v) x2]) ((32768 : Int), (0 : Int)) () y33 hl34 [0] (by exact ⟨rfl, rfl, rfl, rfl, rfl, rfl, rfl, rfl, trivial⟩) rfl rfl ?_
                  rintro ⟨d29, d30⟩ ⟨⟩ s36 hm
                  unfold F50.b2 at hm
                  dsimp only at hm
                  show JC _ _ _ [(0, s1.v), (3, .int .i64 d10), (4, .int .i64 (IntKind.wrap .i64 (d11 + (1 : Int)))), (5, .int .i64 d12), (6, .int .i64 d29), (7, .int .u8 d30), (12, .int .i64 ((x2).length : Int)), (13, .int .i64 d12)] [Asr.vw (Enc.int .u8) (s1.v) x2] _ _
                  refine JC.seq ?_
                  refine JC.seq ?_
                  refine JC.region ?_
                  refine JL.val (v := .int .u8 d30) (QV.move rfl) rfl rfl rfl ?_
                  refine JL.val (v := s1.v) (QV.move rfl) rfl rfl rfl ?_
                  refine JL.val (v := .int .i64 d12) (QV.move rfl) rfl rfl rfl ?_
                  refine JL.val (v := .pointer (some (elA (s1.v) (Int.toNat d12 * ((Enc.int .u8)).sz)))) (QV.indexA (Rdg.vw 0 rfl) Try.underlying26 tk_5 rfl rfl h23) rfl rfl rfl ?_
                  refine JL.val (v := .int .u8 (gd x2 d12)) (QV.el1 (Rdg.vw 0 rfl) tk_5 rfl h23 rfl) rfl rfl rfl ?_
                  refine JL.val (v := .bool (decide (d30 < (gd x2 d12)))) (QV.lss rfl rfl) rfl rfl rfl ?_
                  refine JL.nil ?_
                  refine QJ.then_normal ?_
                  rcases ite_inv hm with ⟨h37, hm⟩ | ⟨h37, hm⟩
                  ·
                    refine JC.condT' rfl (decide_eq_true h37) ?_
                    refine JC.skip ?_
                    refine QJ.then_normal ?_
                    refine JC.seq ?_
                    refine JC.block ?_
                    refine JC.region ?_
                    refine JL.val (v := .int .i64 d29) (QV.move rfl) rfl rfl rfl ?_
                    refine JL.val (v := .int .i64 (IntKind.wrap .i64 (Int.tdiv d29 (2 : Int)))) (QV.quo rfl rfl (by decide)) rfl rfl rfl ?_
                    refine JL.val (v := .int .i64 (IntKind.wrap .i64 (Int.tdiv d29 (2 : Int)))) (QV.assign rfl) rfl rfl rfl ?_
                    refine JL.nil ?_
                    refine QJ.block_normal ?_
                    refine QJ.then_normal ?_
                    refine JC.region ?_
                    refine JL.val (v := .int .u8 d30) (QV.move rfl) rfl rfl rfl ?_
                    refine JL.val (v := .int .u8 (IntKind.wrap .u8 (d30 + (1 : Int)))) (QV.add rfl rfl) rfl rfl rfl ?_
                    refine JL.val (v := .int .u8 (IntKind.wrap .u8 (d30 + (1 : Int)))) (QV.assign rfl) rfl rfl rfl ?_
                    refine JL.nil ?_
                    obtain rfl := Option.some.inj hm
                    exact QJ.round_on ((IntKind.wrap .i64 (Int.tdiv d29 (2 : Int))), (IntKind.wrap .u8 (d30 + (1 : Int)))) () [0] (by exact ⟨rfl, rfl, rfl, rfl, rfl, rfl, rfl, rfl, trivial⟩) rfl rfl
                  ·
                    refine JC.condF' rfl (decide_eq_false h37) ?_
                    refine JC.exit ?_
                    refine QJ.then_exit ?_
                    obtain rfl := Option.some.inj hm
                    refine QJ.round_exit (fun hy => ?_)
                    subst hy
                    refine QJ.block_hit ?_
                    exact QJ.cut_normal (d29, ()) hmo35 [0] (by exact ⟨rfl, rfl, rfl, rfl, rfl, rfl, trivial⟩) rfl rfl
              ·
                refine JC.condF' rfl (decide_eq_false h27) ?_
                refine JC.skip ?_
                exact QJ.cut_normal ((d10, d11), ()) hm [0] (by exact ⟨rfl, rfl, rfl, rfl, rfl, trivial⟩) rfl rfl
      ·
        refine JC.condF' rfl (decide_eq_false h20) ?_
        refine JC.exit ?_
        refine QJ.then_exit ?_
        obtain rfl := Option.some.inj hm
        refine QJ.round_exit (fun hy => ?_)
        subst hy
        refine QJ.block_hit ?_
        exact QJ.cut_normal ((d10, d11), ()) hmo18 [] (by exact ⟨rfl, rfl, trivial⟩) rfl rfl

/-! ### 49: drogher/huff.New -/
noncomputable def F49.j1 (y13 : ((Arr Int 16) × Bool)) (y15 : (Arr Int 16)) (d17 : (Arr Int 16)) (d19 : List Int) : Option (((Arr Int 16) × (Arr Int 16) × (Arr Int 16) × List Int) ⊕ Unit) :=
  some (.inl (y15, y13.1, d17, d19))
noncomputable def F49.j2 (d20 : (Arr Int 16)) (d22 : List Int) (d23 : Int) (d34 : List Int) : Option (((Arr Int 16) × List Int × Int) ⊕ ((Arr Int 16) × List Int)) :=
  some (.inl ((Arr.set d20 d23 ((d22).length : Int)), d34, (IntKind.wrap .i64 (d23 + (1 : Int)))))
noncomputable def F49.j3 (d20 : (Arr Int 16)) (d22 : List Int) (d23 : Int) (d37 : List Int) : Option (((Arr Int 16) × List Int × Int) ⊕ ((Arr Int 16) × List Int)) :=
  F49.j2 d20 d22 d23 (d37)
noncomputable def F49.j4 (d40 : Int) (d51 : List Int) : Option ((List Int × Int) ⊕ (List Int)) :=
  some (.inl (d51, (IntKind.wrap .i64 (d40 + (1 : Int)))))
noncomputable def F49.b2 (x2 : List Int) (d23 : Int) : (List Int × Int) → Option ((List Int × Int) ⊕ (List Int))
  | (d39, d40) => (if d40 < ((x2).length : Int) then (if 0 ≤ d40 ∧ d40 < ((x2).length : Int) then (if (IntKind.wrap .i64 (gd x2 d40)) = d23 then (if ((d39).length + ([d40]).length) * 8 ≤ 140737488355328 ∧ (d39).length + ([d40]).length ≤ 9223372036854775807 then F49.j4 d40 ((d39 ++ [d40])) else none) else F49.j4 d40 (d39)) else none) else some (.inr d39))
noncomputable def F49.b1 (x2 : List Int) : ((Arr Int 16) × List Int × Int) → Option (((Arr Int 16) × List Int × Int) ⊕ ((Arr Int 16) × List Int))
  | (d20, d22, d23) => (if d23 ≤ (15 : Int) then (if 0 ≤ d23 ∧ d23 < 16 then ((loop (F49.b2 x2 d23) (d22, (0 : Int))).bind fun y => match y with | d37 => F49.j3 d20 d22 d23 (d37)) else none) else some (.inr (d20, d22)))
noncomputable def F49.m (x2 : List Int) : Option (((Arr Int 16) × (Arr Int 16) × (Arr Int 16) × List Int) ⊕ Unit) :=
  ((F51.m (x2)).bind fun y9 => (if y9 = true then ((F65.m (x2)).bind fun y13 => ((F66.m (y13.1)).bind fun y15 => ((loop (F49.b1 x2) ((Arr.rep 16 (0 : Int)), ([] : List Int), (1 : Int))).bind fun y => match y with | (d17, d19) => F49.j1 y13 y15 (d17) (d19)))) else some (.inr ())))
set_option maxRecDepth 100000 in
set_option maxHeartbeats 4000000 in
theorem F49.spec (s1 : SlV) (x2 : List Int) (r : (((Arr Int 16) × (Arr Int 16) × (Arr Int 16) × List Int) ⊕ Unit)) (hm : F49.m x2 = some r) :
    Ctr Try.prog false 49 [s1.v] [Asr.vw (Enc.int .u8) (s1.v) x2] (fun v L' => match r with | (.inl r) => ∃ (g3 : Nat), ∃ (g7 : SlV), v = .tuple #[.pointer (some ⟨g3, 0, none⟩), .int .i64 (0 : Int)] ∧ L' = [Asr.of 3 (Enc.int .i64) (g7.v) r.2.2.2, Asr.blk g3 107 [Seg.of (Enc.arr 16 (Enc.int .i64)) r.1, Seg.of (Enc.arr 16 (Enc.int .i64)) r.2.1, Seg.of (Enc.arr 16 (Enc.int .i64)) r.2.2.1, Seg.c (g7.v)]] | (.inr r) => v = .tuple #[.pointer none, .int .i64 (3 : Int)] ∧ L' = []) := by
  refine Ctr.intro (n := 66) (env := [(0, s1.v)]) Try.func49 rfl rfl rfl rfl (fun c => ?_)
  unfold F49.m at hm
  refine JC.seq ?_
  refine JC.region ?_
  refine JL.val (v := .pointer none) (QV.assign rfl) rfl rfl rfl ?_
  refine JL.val (v := .int .i64 (0 : Int)) (QV.assign rfl) rfl rfl rfl ?_
  refine JL.nil ?_
  refine QJ.then_normal ?_
  refine JC.seq ?_
  refine JC.seq ?_
  refine JC.region ?_
  refine JL.val (v := s1.v) (QV.move rfl) rfl rfl rfl ?_
  obtain ⟨y9, hc10, hm⟩ := bind_inv hm
  refine JL.mv (d := some 9) (MV.call (Lo := []) (Lr := [Asr.vw (Enc.int .u8) (s1.v) x2]) (F51.spec (s1) (x2) _ hc10) rfl Try.func51 rfl rfl rfl [] [0] rfl rfl rfl ⟨(Drv.vw 0 rfl), trivial⟩) rfl rfl rfl ?_
  rintro _ _ ⟨_, ⟨rfl, rfl⟩, rfl⟩
  refine JL.val (v := .bool (!y9)) (QV.not rfl) rfl rfl rfl ?_
  refine JL.nil ?_
  refine QJ.then_normal ?_
  rcases ite_inv hm with ⟨h11, hm⟩ | ⟨h11, hm⟩
  ·
    refine JC.condF' rfl (congrArg Bool.not h11) ?_
    refine JC.skip ?_
    refine QJ.then_normal ?_
    refine JC.seq ?_
    refine JC.region ?_
    refine JL.ent (fun _ hs => hs.nil 3 (Enc.int .i64)) ?_
    refine JL.val (v := .agg (flat [Seg.of (Enc.arr 16 (Enc.int .i64)) (Arr.rep 16 (0 : Int)), Seg.of (Enc.arr 16 (Enc.int .i64)) (Arr.rep 16 (0 : Int)), Seg.of (Enc.arr 16 (Enc.int .i64)) (Arr.rep 16 (0 : Int)), Seg.c (SlV.nil.v)]).toArray) (QV.build (vals := []) rfl (by kernel_rfl)) rfl rfl rfl ?_
    refine JL.mv (d := some 12) (MV.box [Seg.of (Enc.arr 16 (Enc.int .i64)) (Arr.rep 16 (0 : Int)), Seg.of (Enc.arr 16 (Enc.int .i64)) (Arr.rep 16 (0 : Int)), Seg.of (Enc.arr 16 (Enc.int .i64)) (Arr.rep 16 (0 : Int)), Seg.c (SlV.nil.v)] rfl (fun w hs => rfl)) rfl rfl rfl ?_
    rintro _ _ ⟨b12, rfl, rfl⟩
    refine JL.val (v := .pointer (some ⟨b12, 0, none⟩)) (QV.assign rfl) rfl rfl rfl ?_
    refine JL.nil ?_
    refine QJ.then_normal ?_
    refine JC.seq ?_
    refine JC.region ?_
    refine JL.val (v := .pointer (some ⟨b12, 0, none⟩)) (QV.move rfl) rfl rfl rfl ?_
    refine JL.val (v := s1.v) (QV.move rfl) rfl rfl rfl ?_
    obtain ⟨y13, hc14, hm⟩ := bind_inv hm
    refine JL.mv (d := some 16) (MV.call (Lo := []) (Lr := [Asr.blk b12 107 [Seg.of (Enc.arr 16 (Enc.int .i64)) (Arr.rep 16 (0 : Int)), Seg.of (Enc.arr 16 (Enc.int .i64)) (Arr.rep 16 (0 : Int)), Seg.of (Enc.arr 16 (Enc.int .i64)) (Arr.rep 16 (0 : Int)), Seg.c (SlV.nil.v)], Asr.of 3 (Enc.int .i64) (SlV.nil.v) ([] : List Int), Asr.vw (Enc.int .u8) (s1.v) x2]) (F65.spec (s1) (x2) _ hc14) rfl Try.func65 rfl rfl rfl [] [0, 1, 2] rfl rfl rfl ⟨(Drv.vw 2 rfl), trivial⟩) rfl rfl rfl ?_
    rintro _ _ ⟨_, ⟨rfl, rfl⟩, rfl⟩
    refine JL.val (v := .tuple #[.agg (((Enc.arr 16 (Enc.int .i64))).enc y13.1).toArray, .bool y13.2]) (QV.move rfl) rfl rfl rfl ?_
    refine JL.val (v := .agg (((Enc.arr 16 (Enc.int .i64))).enc y13.1).toArray) (QV.extract (vs := [.agg (((Enc.arr 16 (Enc.int .i64))).enc y13.1).toArray, .bool y13.2]) rfl rfl) rfl rfl rfl ?_
    refine JL.val (v := .bool y13.2) (QV.extract (vs := [.agg (((Enc.arr 16 (Enc.int .i64))).enc y13.1).toArray, .bool y13.2]) rfl rfl) rfl rfl rfl ?_
    refine JL.val (v := .pointer (some ⟨b12, 0, none⟩)) (QV.nilCheck rfl) rfl rfl rfl ?_
    refine JL.val (v := .pointer (some ⟨b12, 16, none⟩)) (QV.fieldB fo_107_1 rfl rfl) rfl rfl rfl ?_
    refine JL.mv (d := none) (MV.store (ss := [Seg.of (Enc.arr 16 (Enc.int .i64)) (Arr.rep 16 (0 : Int)), Seg.of (Enc.arr 16 (Enc.int .i64)) (Arr.rep 16 (0 : Int)), Seg.of (Enc.arr 16 (Enc.int .i64)) (Arr.rep 16 (0 : Int)), Seg.c (SlV.nil.v)]) 0 1 1 [Seg.of (Enc.arr 16 (Enc.int .i64)) y13.1] rfl tk_102 rfl rfl rfl rfl (fun w hs => ⟨rfl, one_of _ _, trivial⟩)) rfl rfl rfl ?_
    rintro _ _ ⟨rfl, rfl⟩
    refine JL.nil ?_
    refine QJ.then_normal ?_
    refine JC.seq ?_
    refine JC.region ?_
    refine JL.val (v := .pointer (some ⟨b12, 0, none⟩)) (QV.move rfl) rfl rfl rfl ?_
    refine JL.val (v := .pointer (some ⟨b12, 0, none⟩)) (QV.move rfl) rfl rfl rfl ?_
    refine JL.val (v := .pointer (some ⟨b12, 0, none⟩)) (QV.nilCheck rfl) rfl rfl rfl ?_
    refine JL.val (v := .pointer (some ⟨b12, 16, none⟩)) (QV.fieldB fo_107_1 rfl rfl) rfl rfl rfl ?_
    refine JL.val (v := .agg (((Enc.arr 16 (Enc.int .i64))).enc y13.1).toArray) (QV.eq (QV.loadN (ss := [Seg.of (Enc.arr 16 (Enc.int .i64)) (Arr.rep 16 (0 : Int)), Seg.of (Enc.arr 16 (Enc.int .i64)) y13.1, Seg.of (Enc.arr 16 (Enc.int .i64)) (Arr.rep 16 (0 : Int)), Seg.c (SlV.nil.v)]) 0 1 1 rfl tk_102 rfl rfl rfl rfl) rfl) rfl rfl rfl ?_
    obtain ⟨y15, hc16, hm⟩ := bind_inv hm
    refine JL.mv (d := some 26) (MV.call (Lo := []) (Lr := [Asr.blk b12 107 [Seg.of (Enc.arr 16 (Enc.int .i64)) (Arr.rep 16 (0 : Int)), Seg.of (Enc.arr 16 (Enc.int .i64)) y13.1, Seg.of (Enc.arr 16 (Enc.int .i64)) (Arr.rep 16 (0 : Int)), Seg.c (SlV.nil.v)], Asr.of 3 (Enc.int .i64) (SlV.nil.v) ([] : List Int), Asr.vw (Enc.int .u8) (s1.v) x2]) (F66.spec (y13.1) _ hc16) rfl Try.func66 rfl rfl rfl [] [0, 1, 2] rfl rfl rfl trivial) rfl rfl rfl ?_
    rintro _ _ ⟨_, ⟨rfl, rfl⟩, rfl⟩
    refine JL.val (v := .pointer (some ⟨b12, 0, none⟩)) (QV.nilCheck rfl) rfl rfl rfl ?_
    refine JL.val (v := .pointer (some ⟨b12, 0, none⟩)) (QV.fieldB fo_107_0 rfl rfl) rfl rfl rfl ?_
    refine JL.mv (d := none) (MV.store (ss := [Seg.of (Enc.arr 16 (Enc.int .i64)) (Arr.rep 16 (0 : Int)), Seg.of (Enc.arr 16 (Enc.int .i64)) y13.1, Seg.of (Enc.arr 16 (Enc.int .i64)) (Arr.rep 16 (0 : Int)), Seg.c (SlV.nil.v)]) 0 0 1 [Seg.of (Enc.arr 16 (Enc.int .i64)) y15] rfl tk_102 rfl rfl rfl rfl (fun w hs => ⟨rfl, one_of _ _, trivial⟩)) rfl rfl rfl ?_
    rintro _ _ ⟨rfl, rfl⟩
    refine JL.nil ?_
    refine QJ.then_normal ?_
    refine JC.seq ?_
    refine JC.seq ?_
    refine JC.region ?_
    refine JL.val (v := .int .i64 (1 : Int)) (QV.assign rfl) rfl rfl rfl ?_
    refine JL.nil ?_
    refine QJ.then_normal ?_
    refine JC.cutK (Y := ((Arr Int 16) × List Int) × SlV) (fun y => match y with | ((d17, d19), _) => F49.j1 y13 y15 (d17) (d19) = some r) (fun y => match y with | ((d17, d19), z18) => [(4, .pointer (some ⟨b12, 0, none⟩))]) (fun y => match y with | ((d17, d19), z18) => [Asr.of 3 (Enc.int .i64) (z18.v) d19, Asr.blk b12 107 [Seg.of (Enc.arr 16 (Enc.int .i64)) y15, Seg.of (Enc.arr 16 (Enc.int .i64)) y13.1, Seg.of (Enc.arr 16 (Enc.int .i64)) d17, Seg.c (z18.v)]]) ?_ ?_
    ·
      rintro ⟨⟨d17, d19⟩, z18⟩ hm
      unfold F49.j1 at hm
      show QJ _ _ [(4, .pointer (some ⟨b12, 0, none⟩))] [Asr.of 3 (Enc.int .i64) (z18.v) d19, Asr.blk b12 107 [Seg.of (Enc.arr 16 (Enc.int .i64)) y15, Seg.of (Enc.arr 16 (Enc.int .i64)) y13.1, Seg.of (Enc.arr 16 (Enc.int .i64)) d17, Seg.c (z18.v)]] _ _
      refine QJ.then_normal ?_
      refine JC.seq ?_
      refine JC.region ?_
      refine JL.val (v := .pointer (some ⟨b12, 0, none⟩)) (QV.move rfl) rfl rfl rfl ?_
      refine JL.val (v := .pointer (some ⟨b12, 0, none⟩)) (QV.assign rfl) rfl rfl rfl ?_
      refine JL.val (v := .int .i64 (0 : Int)) (QV.assign rfl) rfl rfl rfl ?_
      refine JL.nil ?_
      refine QJ.then_normal ?_
      refine JC.ret ?_
      obtain rfl := Option.some.inj hm
      exact QJ.body (vs := [.pointer (some ⟨b12, 0, none⟩), .int .i64 (0 : Int)]) (.inl rfl) rfl (ResVs.cons (ResV.tmp rfl) (ResVs.cons (ResV.tmp rfl) ResVs.nil)) [0, 1] rfl rfl (.inr ⟨own_of _ _ _ _, own_blk _ _ _, trivial⟩) ⟨b12, z18, rfl, rfl⟩
    ·
      refine JC.block ?_
      obtain ⟨y28, hl29, hmo30⟩ := bind_inv hm
      refine JC.loop (F49.b1 x2) (fun x z => match x, z with | (d20, d22, d23), z21 => [(0, s1.v), (4, .pointer (some ⟨b12, 0, none⟩)), (5, .int .i64 d23)]) (fun x z => match x, z with | (d20, d22, d23), z21 => [Asr.vw (Enc.int .u8) (s1.v) x2, Asr.of 3 (Enc.int .i64) (z21.v) d22, Asr.blk b12 107 [Seg.of (Enc.arr 16 (Enc.int .i64)) y15, Seg.of (Enc.arr 16 (Enc.int .i64)) y13.1, Seg.of (Enc.arr 16 (Enc.int .i64)) d20, Seg.c (z21.v)]]) ((Arr.rep 16 (0 : Int)), ([] : List Int), (1 : Int)) SlV.nil y28 hl29 [2, 1, 0] (by exact ⟨rfl, rfl, rfl, trivial⟩) rfl rfl ?_
      rintro ⟨d20, d22, d23⟩ z21 s31 hm
      unfold F49.b1 at hm
      dsimp only at hm
      show JC _ _ _ [(0, s1.v), (4, .pointer (some ⟨b12, 0, none⟩)), (5, .int .i64 d23)] [Asr.vw (Enc.int .u8) (s1.v) x2, Asr.of 3 (Enc.int .i64) (z21.v) d22, Asr.blk b12 107 [Seg.of (Enc.arr 16 (Enc.int .i64)) y15, Seg.of (Enc.arr 16 (Enc.int .i64)) y13.1, Seg.of (Enc.arr 16 (Enc.int .i64)) d20, Seg.c (z21.v)]] _ _
      refine JC.seq ?_
      refine JC.seq ?_
      refine JC.region ?_
      refine JL.val (v := .int .i64 d23) (QV.move rfl) rfl rfl rfl ?_
      refine JL.val (v := .bool (decide (d23 ≤ (15 : Int)))) (QV.leq rfl rfl) rfl rfl rfl ?_
      refine JL.nil ?_
      refine QJ.then_normal ?_
      rcases ite_inv hm with ⟨h32, hm⟩ | ⟨h32, hm⟩
      ·
        refine JC.condT' rfl (decide_eq_true h32) ?_
        refine JC.skip ?_
        refine QJ.then_normal ?_
        refine JC.seq ?_
        refine JC.cutK (Y := (List Int) × SlV) (fun y => match y with | (d34, _) => F49.j2 d20 d22 d23 (d34) = some s31) (fun y => match y with | (d34, z33) => [(0, s1.v), (4, .pointer (some ⟨b12, 0, none⟩)), (5, .int .i64 d23)]) (fun y => match y with | (d34, z33) => [Asr.vw (Enc.int .u8) (s1.v) x2, Asr.of 3 (Enc.int .i64) (z33.v) d34, Asr.blk b12 107 [Seg.of (Enc.arr 16 (Enc.int .i64)) y15, Seg.of (Enc.arr 16 (Enc.int .i64)) y13.1, Seg.of (Enc.arr 16 (Enc.int .i64)) (Arr.set d20 d23 ((d22).length : Int)), Seg.c (z33.v)]]) ?_ ?_
        ·
          rintro ⟨d34, z33⟩ hm
          unfold F49.j2 at hm
          show QJ _ _ [(0, s1.v), (4, .pointer (some ⟨b12, 0, none⟩)), (5, .int .i64 d23)] [Asr.vw (Enc.int .u8) (s1.v) x2, Asr.of 3 (Enc.int .i64) (z33.v) d34, Asr.blk b12 107 [Seg.of (Enc.arr 16 (Enc.int .i64)) y15, Seg.of (Enc.arr 16 (Enc.int .i64)) y13.1, Seg.of (Enc.arr 16 (Enc.int .i64)) (Arr.set d20 d23 ((d22).length : Int)), Seg.c (z33.v)]] _ _
          refine QJ.then_normal ?_
          refine JC.region ?_
          refine JL.val (v := .int .i64 d23) (QV.move rfl) rfl rfl rfl ?_
          refine JL.val (v := .int .i64 (IntKind.wrap .i64 (d23 + (1 : Int)))) (QV.add rfl rfl) rfl rfl rfl ?_
          refine JL.val (v := .int .i64 (IntKind.wrap .i64 (d23 + (1 : Int)))) (QV.assign rfl) rfl rfl rfl ?_
          refine JL.nil ?_
          obtain rfl := Option.some.inj hm
          exact QJ.round_on ((Arr.set d20 d23 ((d22).length : Int)), d34, (IntKind.wrap .i64 (d23 + (1 : Int)))) z33 [0, 1, 2] (by exact ⟨rfl, rfl, rfl, trivial⟩) rfl rfl
        ·
          refine JC.block ?_
          refine JC.seq ?_
          refine JC.regionT [Asr.vw (Enc.int .u8) (s1.v) x2, Asr.of 3 (Enc.int .i64) (z21.v) d22, Asr.blk b12 107 [Seg.of (Enc.arr 16 (Enc.int .i64)) y15, Seg.of (Enc.arr 16 (Enc.int .i64)) y13.1, Seg.of (Enc.arr 16 (Enc.int .i64)) d20, Seg.c (z21.v)]] (fun t => Nat.beq t 10) [(0, true), (1, true), (2, true), (3, true), (4, true), (5, true), (6, true), (7, false), (8, false), (9, false), (10, false)] (by kernel_rfl) (by kernel_rfl) (by kernel_rfl) rfl (fun hsel => ?_)
          refine JT.take (i := 0) (v := .pointer (some ⟨b12, 0, none⟩)) hsel rfl (QV.move rfl) rfl rfl rfl [0, 1, 2] rfl rfl ?_
          refine JT.take (i := 1) (v := .int .i64 d23) hsel rfl (QV.move rfl) rfl rfl rfl [0, 1, 2] rfl rfl ?_
          refine JT.take (i := 2) (v := .pointer (some ⟨b12, 0, none⟩)) hsel rfl (QV.move rfl) rfl rfl rfl [0, 1, 2] rfl rfl ?_
          refine JT.take (i := 3) (v := .pointer (some ⟨b12, 0, none⟩)) hsel rfl (QV.nilCheck rfl) rfl rfl rfl [0, 1, 2] rfl rfl ?_
          refine JT.take (i := 4) (v := .pointer (some ⟨b12, 48, none⟩)) hsel rfl (QV.fieldB fo_107_3 rfl rfl) rfl rfl rfl [0, 1, 2] rfl rfl ?_
          refine JT.take (i := 5) (v := z21.v) hsel rfl (QV.load1 (ss := [Seg.of (Enc.arr 16 (Enc.int .i64)) y15, Seg.of (Enc.arr 16 (Enc.int .i64)) y13.1, Seg.of (Enc.arr 16 (Enc.int .i64)) d20, Seg.c (z21.v)]) 2 3 rfl tk_76 rfl rfl rfl) rfl rfl rfl [0, 1, 2] rfl rfl ?_
          refine JT.take (i := 6) (v := .int .i64 ((d22).length : Int)) hsel rfl (QV.len (Rdg.of 1 rfl) Try.underlying76 rfl) rfl rfl rfl [0, 1, 2] rfl rfl ?_
          refine JT.only (i := 7) (d := some 40) rfl (MV.ofQV (v := .pointer (some ⟨b12, 0, none⟩)) (QV.nilCheck rfl)) rfl rfl rfl ?_
          rintro _ _ ⟨rfl, rfl⟩
          refine ⟨fun _ => ⟨[0, 1, 2], rfl, rfl⟩, ?_⟩
          refine JT.only (i := 8) (d := some 41) rfl (MV.ofQV (v := .pointer (some ⟨b12, 32, none⟩)) (QV.fieldB fo_107_2 rfl rfl)) rfl rfl rfl ?_
          rintro _ _ ⟨rfl, rfl⟩
          refine ⟨fun _ => ⟨[0, 1, 2], rfl, rfl⟩, ?_⟩
          obtain ⟨h35, hm⟩ := guard_inv hm
          refine JT.only (i := 9) (d := some 42) rfl (MV.ofQV (v := .pointer (some ⟨b12, 32 + Int.toNat d23 * 1, none⟩)) (QV.indexB Try.underlying102 tk_3 rfl rfl h35)) rfl rfl rfl ?_
          rintro _ _ ⟨rfl, rfl⟩
          refine ⟨fun _ => ⟨[0, 1, 2], rfl, rfl⟩, ?_⟩
          refine JT.only (i := 10) (d := none) rfl (MV.storeAr (ss := [Seg.of (Enc.arr 16 (Enc.int .i64)) y15, Seg.of (Enc.arr 16 (Enc.int .i64)) y13.1, Seg.of (Enc.arr 16 (Enc.int .i64)) d20, Seg.c (z21.v)]) 2 2 ((d22).length : Int) rfl tk_3 rfl rfl rfl rfl h35 rfl rfl) rfl rfl rfl ?_
          rintro _ _ ⟨rfl, rfl⟩
          refine ⟨fun h => absurd h (by decide), ?_⟩
          refine JT.nil ?_
          refine QJ.then_normal ?_
          refine JC.seq ?_
          refine JC.region ?_
          refine JL.val (v := s1.v) (QV.move rfl) rfl rfl rfl ?_
          refine JL.val (v := .int .i64 ((x2).length : Int)) (QV.len (Rdg.vw 0 rfl) Try.underlying26 rfl) rfl rfl rfl ?_
          refine JL.val (v := .int .i64 (0 : Int)) (QV.move rfl) rfl rfl rfl ?_
          refine JL.nil ?_
          refine QJ.then_normal ?_
          refine JC.cutK (Y := (List Int) × SlV) (fun y => match y with | (d37, _) => F49.j3 d20 d22 d23 (d37) = some s31) (fun y => match y with | (d37, z36) => [(0, s1.v), (4, .pointer (some ⟨b12, 0, none⟩)), (5, .int .i64 d23)]) (fun y => match y with | (d37, z36) => [Asr.vw (Enc.int .u8) (s1.v) x2, Asr.of 3 (Enc.int .i64) (z36.v) d37, Asr.blk b12 107 [Seg.of (Enc.arr 16 (Enc.int .i64)) y15, Seg.of (Enc.arr 16 (Enc.int .i64)) y13.1, Seg.of (Enc.arr 16 (Enc.int .i64)) (Arr.set d20 d23 ((d22).length : Int)), Seg.c (z36.v)]]) ?_ ?_
          ·
            rintro ⟨d37, z36⟩ hm
            unfold F49.j3 at hm
            show QJ _ _ [(0, s1.v), (4, .pointer (some ⟨b12, 0, none⟩)), (5, .int .i64 d23)] [Asr.vw (Enc.int .u8) (s1.v) x2, Asr.of 3 (Enc.int .i64) (z36.v) d37, Asr.blk b12 107 [Seg.of (Enc.arr 16 (Enc.int .i64)) y15, Seg.of (Enc.arr 16 (Enc.int .i64)) y13.1, Seg.of (Enc.arr 16 (Enc.int .i64)) (Arr.set d20 d23 ((d22).length : Int)), Seg.c (z36.v)]] _ _
            refine QJ.block_normal ?_
            exact QJ.cut_normal (d37, z36) hm [0, 1, 2] (by exact ⟨rfl, rfl, rfl, trivial⟩) rfl rfl
          ·
            refine JC.block ?_
            obtain ⟨y44, hl45, hmo46⟩ := bind_inv hm
            refine JC.loop (F49.b2 x2 d23) (fun x z => match x, z with | (d39, d40), z38 => [(0, s1.v), (4, .pointer (some ⟨b12, 0, none⟩)), (5, .int .i64 d23), (43, s1.v), (44, .int .i64 ((x2).length : Int)), (45, .int .i64 d40)]) (fun x z => match x, z with | (d39, d40), z38 => [Asr.vw (Enc.int .u8) (s1.v) x2, Asr.of 3 (Enc.int .i64) (z38.v) d39, Asr.blk b12 107 [Seg.of (Enc.arr 16 (Enc.int .i64)) y15, Seg.of (Enc.arr 16 (Enc.int .i64)) y13.1, Seg.of (Enc.arr 16 (Enc.int .i64)) (Arr.set d20 d23 ((d22).length : Int)), Seg.c (z38.v)]]) (d22, (0 : Int)) z21 y44 hl45 [0, 1, 2] (by exact ⟨rfl, rfl, rfl, rfl, rfl, rfl, trivial⟩) rfl rfl ?_
            rintro ⟨d39, d40⟩ z38 s47 hm
            unfold F49.b2 at hm
            dsimp only at hm
            show JC _ _ _ [(0, s1.v), (4, .pointer (some ⟨b12, 0, none⟩)), (5, .int .i64 d23), (43, s1.v), (44, .int .i64 ((x2).length : Int)), (45, .int .i64 d40)] [Asr.vw (Enc.int .u8) (s1.v) x2, Asr.of 3 (Enc.int .i64) (z38.v) d39, Asr.blk b12 107 [Seg.of (Enc.arr 16 (Enc.int .i64)) y15, Seg.of (Enc.arr 16 (Enc.int .i64)) y13.1, Seg.of (Enc.arr 16 (Enc.int .i64)) (Arr.set d20 d23 ((d22).length : Int)), Seg.c (z38.v)]] _ _
            refine JC.seq ?_
            refine JC.region ?_
            refine JL.val (v := .bool (decide (d40 < ((x2).length : Int)))) (QV.lss rfl rfl) rfl rfl rfl ?_
            refine JL.nil ?_
            refine QJ.then_normal ?_
            refine JC.seq ?_
            rcases ite_inv hm with ⟨h48, hm⟩ | ⟨h48, hm⟩
            ·
              refine JC.condT' rfl (decide_eq_true h48) ?_
              refine JC.skip ?_
              refine QJ.then_normal ?_
              refine JC.seq ?_
              refine JC.block ?_
              refine JC.seq ?_
              refine JC.region ?_
              refine JL.val (v := .int .i64 d40) (QV.move rfl) rfl rfl rfl ?_
              obtain ⟨h49, hm⟩ := guard_inv hm
              refine JL.val (v := .pointer (some (elA (s1.v) (Int.toNat d40 * ((Enc.int .u8)).sz)))) (QV.indexA (Rdg.vw 0 rfl) Try.underlying26 tk_5 rfl rfl h49) rfl rfl rfl ?_
              refine JL.val (v := .int .u8 (gd x2 d40)) (QV.el1 (Rdg.vw 0 rfl) tk_5 rfl h49 rfl) rfl rfl rfl ?_
              refine JL.val (v := .int .i64 d40) (QV.assign rfl) rfl rfl rfl ?_
              refine JL.val (v := .int .u8 (gd x2 d40)) (QV.assign rfl) rfl rfl rfl ?_
              refine JL.nil ?_
              refine QJ.then_normal ?_
              refine JC.seq ?_
              refine JC.region ?_
              refine JL.val (v := .int .u8 (gd x2 d40)) (QV.move rfl) rfl rfl rfl ?_
              refine JL.val (v := .int .i64 (IntKind.wrap .i64 (gd x2 d40))) (QV.conv rfl (by rw [Try.underlying5]; rfl) Try.underlying3) rfl rfl rfl ?_
              refine JL.val (v := .int .i64 d23) (QV.move rfl) rfl rfl rfl ?_
              refine JL.val (v := .bool (decide ((IntKind.wrap .i64 (gd x2 d40)) = d23))) (QV.eql rfl rfl) rfl rfl rfl ?_
              refine JL.nil ?_
              refine QJ.then_normal ?_
              refine JC.cutK (Y := (List Int) × SlV) (fun y => match y with | (d51, _) => F49.j4 d40 (d51) = some s47) (fun y => match y with | (d51, z50) => [(0, s1.v), (4, .pointer (some ⟨b12, 0, none⟩)), (5, .int .i64 d23), (43, s1.v), (44, .int .i64 ((x2).length : Int)), (45, .int .i64 d40)]) (fun y => match y with | (d51, z50) => [Asr.vw (Enc.int .u8) (s1.v) x2, Asr.of 3 (Enc.int .i64) (z50.v) d51, Asr.blk b12 107 [Seg.of (Enc.arr 16 (Enc.int .i64)) y15, Seg.of (Enc.arr 16 (Enc.int .i64)) y13.1, Seg.of (Enc.arr 16 (Enc.int .i64)) (Arr.set d20 d23 ((d22).length : Int)), Seg.c (z50.v)]]) ?_ ?_
              ·
                rintro ⟨d51, z50⟩ hm
                unfold F49.j4 at hm
                show QJ _ _ [(0, s1.v), (4, .pointer (some ⟨b12, 0, none⟩)), (5, .int .i64 d23), (43, s1.v), (44, .int .i64 ((x2).length : Int)), (45, .int .i64 d40)] [Asr.vw (Enc.int .u8) (s1.v) x2, Asr.of 3 (Enc.int .i64) (z50.v) d51, Asr.blk b12 107 [Seg.of (Enc.arr 16 (Enc.int .i64)) y15, Seg.of (Enc.arr 16 (Enc.int .i64)) y13.1, Seg.of (Enc.arr 16 (Enc.int .i64)) (Arr.set d20 d23 ((d22).length : Int)), Seg.c (z50.v)]] _ _
                refine QJ.block_normal ?_
                refine QJ.then_normal ?_
                refine JC.region ?_
                refine JL.val (v := .int .i64 (IntKind.wrap .i64 (d40 + (1 : Int)))) (QV.add rfl rfl) rfl rfl rfl ?_
                refine JL.val (v := .int .i64 (IntKind.wrap .i64 (d40 + (1 : Int)))) (QV.move rfl) rfl rfl rfl ?_
                refine JL.nil ?_
                obtain rfl := Option.some.inj hm
                exact QJ.round_on (d51, (IntKind.wrap .i64 (d40 + (1 : Int)))) z50 [0, 1, 2] (by exact ⟨rfl, rfl, rfl, rfl, rfl, rfl, trivial⟩) rfl rfl
              ·
                rcases ite_inv hm with ⟨h52, hm⟩ | ⟨h52, hm⟩
                ·
                  refine JC.condT' rfl (decide_eq_true h52) ?_
                  refine JC.region ?_
                  refine JL.val (v := .pointer (some ⟨b12, 0, none⟩)) (QV.move rfl) rfl rfl rfl ?_
                  refine JL.val (v := .pointer (some ⟨b12, 0, none⟩)) (QV.move rfl) rfl rfl rfl ?_
                  refine JL.val (v := .pointer (some ⟨b12, 0, none⟩)) (QV.nilCheck rfl) rfl rfl rfl ?_
                  refine JL.val (v := .pointer (some ⟨b12, 48, none⟩)) (QV.fieldB fo_107_3 rfl rfl) rfl rfl rfl ?_
                  refine JL.val (v := z38.v) (QV.load1 (ss := [Seg.of (Enc.arr 16 (Enc.int .i64)) y15, Seg.of (Enc.arr 16 (Enc.int .i64)) y13.1, Seg.of (Enc.arr 16 (Enc.int .i64)) (Arr.set d20 d23 ((d22).length : Int)), Seg.c (z38.v)]) 2 3 rfl tk_76 rfl rfl rfl) rfl rfl rfl ?_
                  refine JL.val (v := .int .i64 d40) (QV.move rfl) rfl rfl rfl ?_
                  refine JL.mv (d := some 60) (MV.lit (E := (Enc.int .i64)) (vals := [(0, .int .i64 d40)]) [d40] Try.underlying76 zi_3 rfl (by decide) rfl (by kernel_rfl)) rfl rfl rfl ?_
                  rintro _ _ ⟨z53, rfl, rfl⟩
                  obtain ⟨h54, hm⟩ := guard_inv hm
                  refine JL.mv (d := some 61) (MV.append 2 rfl (Rdg.of 0 rfl) Try.underlying76 zi_3 rfl (by decide) rfl rfl h54) rfl rfl rfl ?_
                  rintro _ _ ⟨z55, rfl, rfl⟩
                  refine JL.val (v := .pointer (some ⟨b12, 0, none⟩)) (QV.nilCheck rfl) rfl rfl rfl ?_
                  refine JL.val (v := .pointer (some ⟨b12, 48, none⟩)) (QV.fieldB fo_107_3 rfl rfl) rfl rfl rfl ?_
                  refine JL.mv (d := none) (MV.store (ss := [Seg.of (Enc.arr 16 (Enc.int .i64)) y15, Seg.of (Enc.arr 16 (Enc.int .i64)) y13.1, Seg.of (Enc.arr 16 (Enc.int .i64)) (Arr.set d20 d23 ((d22).length : Int)), Seg.c (z38.v)]) 3 3 1 [Seg.c (z55.v)] rfl tk_76 rfl rfl rfl rfl (fun w hs => ⟨cells_sl (Rdg.of 2 rfl) hs, one_sl (Rdg.of 2 rfl) hs, trivial⟩)) rfl rfl rfl ?_
                  rintro _ _ ⟨rfl, rfl⟩
                  refine JL.nil ?_
                  exact QJ.cut_normal ((d39 ++ [d40]), z55) hm [1, 2, 3] (by exact ⟨rfl, rfl, rfl, rfl, rfl, rfl, trivial⟩) rfl rfl
                ·
                  refine JC.condF' rfl (decide_eq_false h52) ?_
                  refine JC.skip ?_
                  exact QJ.cut_normal (d39, z38) hm [0, 1, 2] (by exact ⟨rfl, rfl, rfl, rfl, rfl, rfl, trivial⟩) rfl rfl
            ·
              refine JC.condF' rfl (decide_eq_false h48) ?_
              refine JC.exit ?_
              refine QJ.then_exit ?_
              obtain rfl := Option.some.inj hm
              refine QJ.round_exit (fun hy => ?_)
              subst hy
              refine QJ.block_hit ?_
              exact QJ.cut_normal (d39, z38) hmo46 [0, 1, 2] (by exact ⟨rfl, rfl, rfl, trivial⟩) rfl rfl
      ·
        refine JC.condF' rfl (decide_eq_false h32) ?_
        refine JC.exit ?_
        refine QJ.then_exit ?_
        obtain rfl := Option.some.inj hm
        refine QJ.round_exit (fun hy => ?_)
        subst hy
        refine QJ.block_hit ?_
        exact QJ.cut_normal ((d20, d22), z21) hmo30 [1, 2] (by exact ⟨rfl, trivial⟩) rfl rfl
  ·
    refine JC.condT' rfl (congrArg Bool.not (bfalse h11)) ?_
    refine JC.seq ?_
    refine JC.region ?_
    refine JL.val (v := .pointer none) (QV.assign rfl) rfl rfl rfl ?_
    refine JL.val (v := .int .i64 (3 : Int)) (QV.assign rfl) rfl rfl rfl ?_
    refine JL.nil ?_
    refine QJ.then_normal ?_
    refine JC.ret ?_
    refine QJ.then_ret ?_
    obtain rfl := Option.some.inj hm
    exact QJ.body (vs := [.pointer none, .int .i64 (3 : Int)]) (.inl rfl) rfl (ResVs.cons (ResV.tmp rfl) (ResVs.cons (ResV.tmp rfl) ResVs.nil)) [] rfl rfl (.inr trivial) ⟨rfl, rfl⟩

/-! ### 68: (*drogher/huff.Table).longest -/
noncomputable def F68.j1   : Option Int :=
  some (0 : Int)
noncomputable def F68.b1 (x3 : (Arr Int 16)) : Int → Option (Int ⊕ ((Int) ⊕ Unit))
  | d8 => (if (0 : Int) < d8 then (if 0 ≤ d8 ∧ d8 < 16 then (if (0 : Int) < (gd (x3).l d8) then some (.inr (.inl (d8))) else some (.inl (IntKind.wrap .i64 (d8 - (1 : Int))))) else none) else some (.inr (.inr (()))))
noncomputable def F68.m (x2 : (Arr Int 16)) (x3 : (Arr Int 16)) (x4 : (Arr Int 16)) (x6 : List Int) : Option Int :=
  ((loop (F68.b1 x3) (15 : Int)).bind fun y => match y with | .inl r => some r | .inr _ => F68.j1)
set_option maxRecDepth 100000 in
set_option maxHeartbeats 4000000 in
theorem F68.spec (b1 : Nat) (s5 : SlV) (x2 : (Arr Int 16)) (x3 : (Arr Int 16)) (x4 : (Arr Int 16)) (x6 : List Int) (r : Int) (hm : F68.m x2 x3 x4 x6 = some r) :
    Ctr Try.prog false 68 [.pointer (some ⟨b1, 0, none⟩)] [Asr.blk b1 107 [Seg.of (Enc.arr 16 (Enc.int .i64)) x2, Seg.of (Enc.arr 16 (Enc.int .i64)) x3, Seg.of (Enc.arr 16 (Enc.int .i64)) x4, Seg.c (s5.v)], Asr.of 3 (Enc.int .i64) (s5.v) x6] (fun v L' => v = .int .i64 r ∧ L' = [Asr.of 3 (Enc.int .i64) (s5.v) x6, Asr.blk b1 107 [Seg.of (Enc.arr 16 (Enc.int .i64)) x2, Seg.of (Enc.arr 16 (Enc.int .i64)) x3, Seg.of (Enc.arr 16 (Enc.int .i64)) x4, Seg.c (s5.v)]]) := by
  refine Ctr.intro (n := 16) (env := [(0, .pointer (some ⟨b1, 0, none⟩))]) Try.func68 rfl rfl rfl rfl (fun c => ?_)
  unfold F68.m at hm
  refine JC.seq ?_
  refine JC.region ?_
  refine JL.val (v := .int .i64 (0 : Int)) (QV.assign rfl) rfl rfl rfl ?_
  refine JL.nil ?_
  refine QJ.then_normal ?_
  refine JC.seq ?_
  refine JC.seq ?_
  refine JC.region ?_
  refine JL.val (v := .int .i64 (15 : Int)) (QV.assign rfl) rfl rfl rfl ?_
  refine JL.nil ?_
  refine QJ.then_normal ?_
  refine JC.cutK (Y := Unit × Unit) (fun y => match y with | (_, _) => F68.j1 = some r) (fun y => match y with | (_, _) => []) (fun y => match y with | (_, _) => [Asr.of 3 (Enc.int .i64) (s5.v) x6, Asr.blk b1 107 [Seg.of (Enc.arr 16 (Enc.int .i64)) x2, Seg.of (Enc.arr 16 (Enc.int .i64)) x3, Seg.of (Enc.arr 16 (Enc.int .i64)) x4, Seg.c (s5.v)]]) ?_ ?_
  ·
    rintro ⟨⟨⟩, ⟨⟩⟩ hm
    unfold F68.j1 at hm
    show QJ _ _ [] [Asr.of 3 (Enc.int .i64) (s5.v) x6, Asr.blk b1 107 [Seg.of (Enc.arr 16 (Enc.int .i64)) x2, Seg.of (Enc.arr 16 (Enc.int .i64)) x3, Seg.of (Enc.arr 16 (Enc.int .i64)) x4, Seg.c (s5.v)]] _ _
    refine QJ.then_normal ?_
    refine JC.seq ?_
    refine JC.region ?_
    refine JL.val (v := .int .i64 (0 : Int)) (QV.assign rfl) rfl rfl rfl ?_
    refine JL.nil ?_
    refine QJ.then_normal ?_
    refine JC.ret ?_
    obtain rfl := Option.some.inj hm
    exact QJ.body (vs := [.int .i64 (0 : Int)]) (.inl rfl) rfl (ResVs.cons (ResV.tmp rfl) ResVs.nil) [0, 1] rfl rfl (.inr ⟨own_of _ _ _ _, own_blk _ _ _, trivial⟩) ⟨rfl, rfl⟩
  ·
    refine JC.block ?_
    obtain ⟨y10, hl11, hmo12⟩ := bind_inv hm
    refine JC.loop (F68.b1 x3) (fun x z => match x, z with | d8, _ => [(0, .pointer (some ⟨b1, 0, none⟩)), (3, .int .i64 d8)]) (fun x z => match x, z with | d8, _ => [Asr.of 3 (Enc.int .i64) (s5.v) x6, Asr.blk b1 107 [Seg.of (Enc.arr 16 (Enc.int .i64)) x2, Seg.of (Enc.arr 16 (Enc.int .i64)) x3, Seg.of (Enc.arr 16 (Enc.int .i64)) x4, Seg.c (s5.v)]]) (15 : Int) () y10 hl11 [1, 0] (by exact ⟨rfl, rfl, trivial⟩) rfl rfl ?_
    rintro d8 ⟨⟩ s13 hm
    unfold F68.b1 at hm
    dsimp only at hm
    show JC _ _ _ [(0, .pointer (some ⟨b1, 0, none⟩)), (3, .int .i64 d8)] [Asr.of 3 (Enc.int .i64) (s5.v) x6, Asr.blk b1 107 [Seg.of (Enc.arr 16 (Enc.int .i64)) x2, Seg.of (Enc.arr 16 (Enc.int .i64)) x3, Seg.of (Enc.arr 16 (Enc.int .i64)) x4, Seg.c (s5.v)]] _ _
    refine JC.seq ?_
    refine JC.seq ?_
    refine JC.region ?_
    refine JL.val (v := .int .i64 d8) (QV.move rfl) rfl rfl rfl ?_
    refine JL.val (v := .bool (decide ((0 : Int) < d8))) (QV.gtr rfl rfl) rfl rfl rfl ?_
    refine JL.nil ?_
    refine QJ.then_normal ?_
    rcases ite_inv hm with ⟨h14, hm⟩ | ⟨h14, hm⟩
    ·
      refine JC.condT' rfl (decide_eq_true h14) ?_
      refine JC.skip ?_
      refine QJ.then_normal ?_
      refine JC.seq ?_
      refine JC.block ?_
      refine JC.seq ?_
      refine JC.region ?_
      refine JL.val (v := .pointer (some ⟨b1, 0, none⟩)) (QV.move rfl) rfl rfl rfl ?_
      refine JL.val (v := .int .i64 d8) (QV.move rfl) rfl rfl rfl ?_
      refine JL.val (v := .pointer (some ⟨b1, 0, none⟩)) (QV.nilCheck rfl) rfl rfl rfl ?_
      refine JL.val (v := .pointer (some ⟨b1, 16, none⟩)) (QV.fieldB fo_107_1 rfl rfl) rfl rfl rfl ?_
      obtain ⟨h15, hm⟩ := guard_inv hm
      refine JL.val (v := .pointer (some ⟨b1, 16 + Int.toNat d8 * 1, none⟩)) (QV.indexB Try.underlying102 tk_3 rfl rfl h15) rfl rfl rfl ?_
      refine JL.val (v := .int .i64 (gd (x3).l d8)) (QV.ar1 (ss := [Seg.of (Enc.arr 16 (Enc.int .i64)) x2, Seg.of (Enc.arr 16 (Enc.int .i64)) x3, Seg.of (Enc.arr 16 (Enc.int .i64)) x4, Seg.c (s5.v)]) 1 1 rfl tk_3 rfl rfl rfl rfl h15 rfl) rfl rfl rfl ?_
      refine JL.val (v := .bool (decide ((0 : Int) < (gd (x3).l d8)))) (QV.gtr rfl rfl) rfl rfl rfl ?_
      refine JL.nil ?_
      refine QJ.then_normal ?_
      rcases ite_inv hm with ⟨h16, hm⟩ | ⟨h16, hm⟩
      ·
        refine JC.condT' rfl (decide_eq_true h16) ?_
        refine JC.seq ?_
        refine JC.region ?_
        refine JL.val (v := .int .i64 d8) (QV.move rfl) rfl rfl rfl ?_
        refine JL.val (v := .int .i64 d8) (QV.assign rfl) rfl rfl rfl ?_
        refine JL.nil ?_
        refine QJ.then_normal ?_
        refine JC.ret ?_
        refine QJ.block_ret ?_
        refine QJ.then_ret ?_
        obtain rfl := Option.some.inj hm
        refine QJ.round_ret (fun hy => ?_)
        subst hy
        refine QJ.block_ret ?_
        refine QJ.cut_ret ?_
        refine QJ.then_ret ?_
        obtain rfl := Option.some.inj hmo12
        exact QJ.body (vs := [.int .i64 d8]) (.inl rfl) rfl (ResVs.cons (ResV.tmp rfl) ResVs.nil) [0, 1] rfl rfl (.inr ⟨own_of _ _ _ _, own_blk _ _ _, trivial⟩) ⟨rfl, rfl⟩
      ·
        refine JC.condF' rfl (decide_eq_false h16) ?_
        refine JC.skip ?_
        refine QJ.block_normal ?_
        refine QJ.then_normal ?_
        refine JC.region ?_
        refine JL.val (v := .int .i64 d8) (QV.move rfl) rfl rfl rfl ?_
        refine JL.val (v := .int .i64 (IntKind.wrap .i64 (d8 - (1 : Int)))) (QV.sub rfl rfl) rfl rfl rfl ?_
        refine JL.val (v := .int .i64 (IntKind.wrap .i64 (d8 - (1 : Int)))) (QV.assign rfl) rfl rfl rfl ?_
        refine JL.nil ?_
        obtain rfl := Option.some.inj hm
        exact QJ.round_on (IntKind.wrap .i64 (d8 - (1 : Int))) () [0, 1] (by exact ⟨rfl, rfl, trivial⟩) rfl rfl
    ·
      refine JC.condF' rfl (decide_eq_false h14) ?_
      refine JC.exit ?_
      refine QJ.then_exit ?_
      obtain rfl := Option.some.inj hm
      refine QJ.round_exit (fun hy => ?_)
      subst hy
      refine QJ.block_hit ?_
      exact QJ.cut_normal ((), ()) hmo12 [0, 1] trivial rfl rfl

/-! ### 53: (*drogher/huff.Table).Next -/
noncomputable def F53.j1 (x9 : List Int) (x10 : Int) (d16 : Int) : Option (Int × Int × Int) :=
  ((F45.m (x9) (d16) (x10)).bind fun y17 => some ((0 : Int), (3 : Int), y17.2))
noncomputable def F53.j2 (d21 : Int) (d32 : Int) (d33 : Int) : Option ((Int × Int × Int) ⊕ (((Int × Int × Int)) ⊕ Int)) :=
  some (.inl (d32, d33, (IntKind.wrap .i64 (d21 + (1 : Int)))))
noncomputable def F53.b1 (x2 : (Arr Int 16)) (x3 : (Arr Int 16)) (x4 : (Arr Int 16)) (x6 : List Int) (x9 : List Int) (x10 : Int) : (Int × Int × Int) → Option ((Int × Int × Int) ⊕ (((Int × Int × Int)) ⊕ Int))
  | (d19, d20, d21) => ((F68.m (x2) (x3) (x4) (x6)).bind fun y29 => (if d21 ≤ y29 then ((F39.m (x9) (d19) ((1 : Int))).bind fun y34 => (if y34.2.1 = (0 : Int) then (if 0 ≤ d21 ∧ d21 < 16 then (if (0 : Int) ≤ (IntKind.wrap .i64 ((IntKind.wrap .i64 ((IntKind.wrap .i64 ((2 : Int) * d20)) + (IntKind.wrap .i64 y34.1))) - (gd (x2).l d21))) then (if (IntKind.wrap .i64 ((IntKind.wrap .i64 ((IntKind.wrap .i64 ((2 : Int) * d20)) + (IntKind.wrap .i64 y34.1))) - (gd (x2).l d21))) < (gd (x3).l d21) then (if 0 ≤ (IntKind.wrap .i64 ((gd (x4).l d21) + (IntKind.wrap .i64 ((IntKind.wrap .i64 ((IntKind.wrap .i64 ((2 : Int) * d20)) + (IntKind.wrap .i64 y34.1))) - (gd (x2).l d21))))) ∧ (IntKind.wrap .i64 ((gd (x4).l d21) + (IntKind.wrap .i64 ((IntKind.wrap .i64 ((IntKind.wrap .i64 ((2 : Int) * d20)) + (IntKind.wrap .i64 y34.1))) - (gd (x2).l d21))))) < ((x6).length : Int) then some (.inr (.inl (((gd x6 (IntKind.wrap .i64 ((gd (x4).l d21) + (IntKind.wrap .i64 ((IntKind.wrap .i64 ((IntKind.wrap .i64 ((2 : Int) * d20)) + (IntKind.wrap .i64 y34.1))) - (gd (x2).l d21)))))), (0 : Int), y34.2.2)))) else none) else F53.j2 d21 (y34.2.2) ((IntKind.wrap .i64 ((IntKind.wrap .i64 ((2 : Int) * d20)) + (IntKind.wrap .i64 y34.1))))) else F53.j2 d21 (y34.2.2) ((IntKind.wrap .i64 ((IntKind.wrap .i64 ((2 : Int) * d20)) + (IntKind.wrap .i64 y34.1))))) else none) else ((F45.m (x9) (y34.2.2) (x10)).bind fun y41 => some (.inr (.inl (((0 : Int), y34.2.1, y41.2))))))) else some (.inr (.inr (d19)))))
noncomputable def F53.m (x2 : (Arr Int 16)) (x3 : (Arr Int 16)) (x4 : (Arr Int 16)) (x6 : List Int) (x9 : List Int) (x10 : Int) : Option (Int × Int × Int) :=
  ((F46.m (x9) (x10)).bind fun y14 => ((loop (F53.b1 x2 x3 x4 x6 x9 x10) (x10, (0 : Int), (1 : Int))).bind fun y => match y with | .inl r => some r | .inr d16 => F53.j1 x9 x10 (d16)))
set_option maxRecDepth 100000 in
set_option maxHeartbeats 4000000 in
theorem F53.spec (b1 : Nat) (s5 : SlV) (b7 : Nat) (s8 : SlV) (x2 : (Arr Int 16)) (x3 : (Arr Int 16)) (x4 : (Arr Int 16)) (x6 : List Int) (x9 : List Int) (x10 : Int) (r : (Int × Int × Int)) (hm : F53.m x2 x3 x4 x6 x9 x10 = some r) :
    Ctr Try.prog false 53 [.pointer (some ⟨b1, 0, none⟩), .pointer (some ⟨b7, 0, none⟩)] [Asr.blk b1 107 [Seg.of (Enc.arr 16 (Enc.int .i64)) x2, Seg.of (Enc.arr 16 (Enc.int .i64)) x3, Seg.of (Enc.arr 16 (Enc.int .i64)) x4, Seg.c (s5.v)], Asr.of 3 (Enc.int .i64) (s5.v) x6, Asr.blk b7 101 [Seg.c (s8.v), Seg.c (.int .i64 x10)], Asr.of 5 (Enc.int .u8) (s8.v) x9] (fun v L' => v = .tuple #[.int .i64 r.1, .int .i64 r.2.1] ∧ L' = [Asr.of 3 (Enc.int .i64) (s5.v) x6, Asr.blk b1 107 [Seg.of (Enc.arr 16 (Enc.int .i64)) x2, Seg.of (Enc.arr 16 (Enc.int .i64)) x3, Seg.of (Enc.arr 16 (Enc.int .i64)) x4, Seg.c (s5.v)], Asr.of 5 (Enc.int .u8) (s8.v) x9, Asr.blk b7 101 [Seg.c (s8.v), Seg.c (.int .i64 r.2.2)]]) := by
  refine Ctr.intro (n := 79) (env := [(0, .pointer (some ⟨b1, 0, none⟩)), (1, .pointer (some ⟨b7, 0, none⟩))]) Try.func53 rfl rfl rfl rfl (fun c => ?_)
  unfold F53.m at hm
  refine JC.seq ?_
  refine JC.region ?_
  refine JL.val (v := .int .i64 (0 : Int)) (QV.assign rfl) rfl rfl rfl ?_
  refine JL.val (v := .int .i64 (0 : Int)) (QV.assign rfl) rfl rfl rfl ?_
  refine JL.nil ?_
  refine QJ.then_normal ?_
  refine JC.seq ?_
  refine JC.seq ?_
  refine JC.region ?_
  refine JL.val (v := .pointer (some ⟨b1, 0, none⟩)) (QV.move rfl) rfl rfl rfl ?_
  refine JL.val (v := .bool false) ((QV.eq (QV.eqlP Try.underlying66 rfl rfl (.inr rfl)) (by simp))) rfl rfl rfl ?_
  refine JL.val (v := .bool false) (QV.move rfl) rfl rfl rfl ?_
  refine JL.val (v := .pointer (some ⟨b7, 0, none⟩)) (QV.move rfl) rfl rfl rfl ?_
  refine JL.val (v := .bool false) ((QV.eq (QV.eqlP Try.underlying51 rfl rfl (.inr rfl)) (by simp))) rfl rfl rfl ?_
  refine JL.val (v := .bool false) (QV.pickF rfl rfl) rfl rfl rfl ?_
  refine JL.nil ?_
  refine QJ.then_normal ?_
  refine JC.condF rfl ?_
  refine JC.skip ?_
  refine QJ.then_normal ?_
  refine JC.seq ?_
  refine JC.region ?_
  refine JL.val (v := .pointer (some ⟨b7, 0, none⟩)) (QV.move rfl) rfl rfl rfl ?_
  obtain ⟨y14, hc15, hm⟩ := bind_inv hm
  refine JL.mv (d := some 19) (MV.call (Lo := [Asr.blk b7 101 [Seg.c (s8.v), Seg.c (.int .i64 x10)], Asr.of 5 (Enc.int .u8) (s8.v) x9]) (Lr := [Asr.blk b1 107 [Seg.of (Enc.arr 16 (Enc.int .i64)) x2, Seg.of (Enc.arr 16 (Enc.int .i64)) x3, Seg.of (Enc.arr 16 (Enc.int .i64)) x4, Seg.c (s5.v)], Asr.of 3 (Enc.int .i64) (s5.v) x6]) (F46.spec (b7) (s8) (x9) (x10) _ hc15) rfl Try.func46 rfl rfl rfl [2, 3] [0, 1] rfl rfl rfl trivial) rfl rfl rfl ?_
  rintro _ _ ⟨_, ⟨rfl, rfl⟩, rfl⟩
  refine JL.val (v := .int .i64 x10) (QV.assign rfl) rfl rfl rfl ?_
  refine JL.val (v := .int .i64 (0 : Int)) (QV.assign rfl) rfl rfl rfl ?_
  refine JL.nil ?_
  refine QJ.then_normal ?_
  refine JC.seq ?_
  refine JC.seq ?_
  refine JC.region ?_
  refine JL.val (v := .int .i64 (1 : Int)) (QV.assign rfl) rfl rfl rfl ?_
  refine JL.nil ?_
  refine QJ.then_normal ?_
  refine JC.cutK (Y := Int × Unit) (fun y => match y with | (d16, _) => F53.j1 x9 x10 (d16) = some r) (fun y => match y with | (d16, _) => [(1, .pointer (some ⟨b7, 0, none⟩)), (6, .int .i64 x10)]) (fun y => match y with | (d16, _) => [Asr.of 5 (Enc.int .u8) (s8.v) x9, Asr.blk b7 101 [Seg.c (s8.v), Seg.c (.int .i64 d16)], Asr.of 3 (Enc.int .i64) (s5.v) x6, Asr.blk b1 107 [Seg.of (Enc.arr 16 (Enc.int .i64)) x2, Seg.of (Enc.arr 16 (Enc.int .i64)) x3, Seg.of (Enc.arr 16 (Enc.int .i64)) x4, Seg.c (s5.v)]]) ?_ ?_
  ·
    rintro ⟨d16, ⟨⟩⟩ hm
    unfold F53.j1 at hm
    show QJ _ _ [(1, .pointer (some ⟨b7, 0, none⟩)), (6, .int .i64 x10)] [Asr.of 5 (Enc.int .u8) (s8.v) x9, Asr.blk b7 101 [Seg.c (s8.v), Seg.c (.int .i64 d16)], Asr.of 3 (Enc.int .i64) (s5.v) x6, Asr.blk b1 107 [Seg.of (Enc.arr 16 (Enc.int .i64)) x2, Seg.of (Enc.arr 16 (Enc.int .i64)) x3, Seg.of (Enc.arr 16 (Enc.int .i64)) x4, Seg.c (s5.v)]] _ _
    refine QJ.then_normal ?_
    refine JC.seq ?_
    refine JC.region ?_
    refine JL.val (v := .pointer (some ⟨b7, 0, none⟩)) (QV.move rfl) rfl rfl rfl ?_
    refine JL.val (v := .int .i64 x10) (QV.move rfl) rfl rfl rfl ?_
    obtain ⟨y17, hc18, hm⟩ := bind_inv hm
    refine JL.mv (d := some 78) (MV.call (Lo := [Asr.blk b7 101 [Seg.c (s8.v), Seg.c (.int .i64 d16)], Asr.of 5 (Enc.int .u8) (s8.v) x9]) (Lr := [Asr.of 3 (Enc.int .i64) (s5.v) x6, Asr.blk b1 107 [Seg.of (Enc.arr 16 (Enc.int .i64)) x2, Seg.of (Enc.arr 16 (Enc.int .i64)) x3, Seg.of (Enc.arr 16 (Enc.int .i64)) x4, Seg.c (s5.v)]]) (F45.spec (b7) (s8) (x9) (d16) (x10) _ hc18) rfl Try.func45 rfl rfl rfl [1, 0] [2, 3] rfl rfl rfl trivial) rfl rfl rfl ?_
    rintro _ _ ⟨_, ⟨rfl, rfl⟩, rfl⟩
    refine JL.nil ?_
    refine QJ.then_normal ?_
    refine JC.seq ?_
    refine JC.region ?_
    refine JL.val (v := .int .i64 (0 : Int)) (QV.assign rfl) rfl rfl rfl ?_
    refine JL.val (v := .int .i64 (3 : Int)) (QV.assign rfl) rfl rfl rfl ?_
    refine JL.nil ?_
    refine QJ.then_normal ?_
    refine JC.ret ?_
    obtain rfl := Option.some.inj hm
    exact QJ.body (vs := [.int .i64 (0 : Int), .int .i64 (3 : Int)]) (.inl rfl) rfl (ResVs.cons (ResV.tmp rfl) (ResVs.cons (ResV.tmp rfl) ResVs.nil)) [2, 3, 0, 1] rfl rfl (.inr ⟨own_of _ _ _ _, own_blk _ _ _, own_of _ _ _ _, own_blk _ _ _, trivial⟩) ⟨rfl, rfl⟩
  ·
    refine JC.block ?_
    obtain ⟨y25, hl26, hmo27⟩ := bind_inv hm
    refine JC.loop (F53.b1 x2 x3 x4 x6 x9 x10) (fun x z => match x, z with | (d19, d20, d21), _ => [(0, .pointer (some ⟨b1, 0, none⟩)), (1, .pointer (some ⟨b7, 0, none⟩)), (6, .int .i64 x10), (7, .int .i64 d20), (8, .int .i64 d21)]) (fun x z => match x, z with | (d19, d20, d21), _ => [Asr.of 3 (Enc.int .i64) (s5.v) x6, Asr.blk b1 107 [Seg.of (Enc.arr 16 (Enc.int .i64)) x2, Seg.of (Enc.arr 16 (Enc.int .i64)) x3, Seg.of (Enc.arr 16 (Enc.int .i64)) x4, Seg.c (s5.v)], Asr.of 5 (Enc.int .u8) (s8.v) x9, Asr.blk b7 101 [Seg.c (s8.v), Seg.c (.int .i64 d19)]]) (x10, (0 : Int), (1 : Int)) () y25 hl26 [3, 2, 0, 1] (by exact ⟨rfl, rfl, rfl, rfl, rfl, trivial⟩) rfl rfl ?_
    rintro ⟨d19, d20, d21⟩ ⟨⟩ s28 hm
    unfold F53.b1 at hm
    dsimp only at hm
    show JC _ _ _ [(0, .pointer (some ⟨b1, 0, none⟩)), (1, .pointer (some ⟨b7, 0, none⟩)), (6, .int .i64 x10), (7, .int .i64 d20), (8, .int .i64 d21)] [Asr.of 3 (Enc.int .i64) (s5.v) x6, Asr.blk b1 107 [Seg.of (Enc.arr 16 (Enc.int .i64)) x2, Seg.of (Enc.arr 16 (Enc.int .i64)) x3, Seg.of (Enc.arr 16 (Enc.int .i64)) x4, Seg.c (s5.v)], Asr.of 5 (Enc.int .u8) (s8.v) x9, Asr.blk b7 101 [Seg.c (s8.v), Seg.c (.int .i64 d19)]] _ _
    refine JC.seq ?_
    refine JC.seq ?_
    refine JC.region ?_
    refine JL.val (v := .int .i64 d21) (QV.move rfl) rfl rfl rfl ?_
    refine JL.val (v := .pointer (some ⟨b1, 0, none⟩)) (QV.move rfl) rfl rfl rfl ?_
    obtain ⟨y29, hc30, hm⟩ := bind_inv hm
    refine JL.mv (d := some 22) (MV.call (Lo := [Asr.blk b1 107 [Seg.of (Enc.arr 16 (Enc.int .i64)) x2, Seg.of (Enc.arr 16 (Enc.int .i64)) x3, Seg.of (Enc.arr 16 (Enc.int .i64)) x4, Seg.c (s5.v)], Asr.of 3 (Enc.int .i64) (s5.v) x6]) (Lr := [Asr.of 5 (Enc.int .u8) (s8.v) x9, Asr.blk b7 101 [Seg.c (s8.v), Seg.c (.int .i64 d19)]]) (F68.spec (b1) (s5) (x2) (x3) (x4) (x6) _ hc30) rfl Try.func68 rfl rfl rfl [1, 0] [2, 3] rfl rfl rfl trivial) rfl rfl rfl ?_
    rintro _ _ ⟨_, ⟨rfl, rfl⟩, rfl⟩
    refine JL.val (v := .bool (decide (d21 ≤ y29))) (QV.leq rfl rfl) rfl rfl rfl ?_
    refine JL.nil ?_
    refine QJ.then_normal ?_
    rcases ite_inv hm with ⟨h31, hm⟩ | ⟨h31, hm⟩
    ·
      refine JC.condT' rfl (decide_eq_true h31) ?_
      refine JC.skip ?_
      refine QJ.then_normal ?_
      refine JC.seq ?_
      refine JC.cutK (Y := (Int × Int) × Unit) (fun y => match y with | ((d32, d33), _) => F53.j2 d21 (d32) (d33) = some s28) (fun y => match y with | ((d32, d33), _) => [(0, .pointer (some ⟨b1, 0, none⟩)), (1, .pointer (some ⟨b7, 0, none⟩)), (6, .int .i64 x10), (7, .int .i64 d33), (8, .int .i64 d21)]) (fun y => match y with | ((d32, d33), _) => [Asr.of 3 (Enc.int .i64) (s5.v) x6, Asr.blk b1 107 [Seg.of (Enc.arr 16 (Enc.int .i64)) x2, Seg.of (Enc.arr 16 (Enc.int .i64)) x3, Seg.of (Enc.arr 16 (Enc.int .i64)) x4, Seg.c (s5.v)], Asr.of 5 (Enc.int .u8) (s8.v) x9, Asr.blk b7 101 [Seg.c (s8.v), Seg.c (.int .i64 d32)]]) ?_ ?_
      ·
        rintro ⟨⟨d32, d33⟩, ⟨⟩⟩ hm
        unfold F53.j2 at hm
        show QJ _ _ [(0, .pointer (some ⟨b1, 0, none⟩)), (1, .pointer (some ⟨b7, 0, none⟩)), (6, .int .i64 x10), (7, .int .i64 d33), (8, .int .i64 d21)] [Asr.of 3 (Enc.int .i64) (s5.v) x6, Asr.blk b1 107 [Seg.of (Enc.arr 16 (Enc.int .i64)) x2, Seg.of (Enc.arr 16 (Enc.int .i64)) x3, Seg.of (Enc.arr 16 (Enc.int .i64)) x4, Seg.c (s5.v)], Asr.of 5 (Enc.int .u8) (s8.v) x9, Asr.blk b7 101 [Seg.c (s8.v), Seg.c (.int .i64 d32)]] _ _
        refine QJ.then_normal ?_
        refine JC.region ?_
        refine JL.val (v := .int .i64 d21) (QV.move rfl) rfl rfl rfl ?_
        refine JL.val (v := .int .i64 (IntKind.wrap .i64 (d21 + (1 : Int)))) (QV.add rfl rfl) rfl rfl rfl ?_
        refine JL.val (v := .int .i64 (IntKind.wrap .i64 (d21 + (1 : Int)))) (QV.assign rfl) rfl rfl rfl ?_
        refine JL.nil ?_
        obtain rfl := Option.some.inj hm
        exact QJ.round_on (d32, d33, (IntKind.wrap .i64 (d21 + (1 : Int)))) () [0, 1, 2, 3] (by exact ⟨rfl, rfl, rfl, rfl, rfl, trivial⟩) rfl rfl
      ·
        refine JC.block ?_
        refine JC.seq ?_
        refine JC.region ?_
        refine JL.val (v := .pointer (some ⟨b7, 0, none⟩)) (QV.move rfl) rfl rfl rfl ?_
        obtain ⟨y34, hc35, hm⟩ := bind_inv hm
        refine JL.mv (d := some 28) (MV.call (Lo := [Asr.blk b7 101 [Seg.c (s8.v), Seg.c (.int .i64 d19)], Asr.of 5 (Enc.int .u8) (s8.v) x9]) (Lr := [Asr.of 3 (Enc.int .i64) (s5.v) x6, Asr.blk b1 107 [Seg.of (Enc.arr 16 (Enc.int .i64)) x2, Seg.of (Enc.arr 16 (Enc.int .i64)) x3, Seg.of (Enc.arr 16 (Enc.int .i64)) x4, Seg.c (s5.v)]]) (F39.spec (b7) (s8) (x9) (d19) ((1 : Int)) _ hc35) rfl Try.func39 rfl rfl rfl [3, 2] [0, 1] rfl rfl rfl trivial) rfl rfl rfl ?_
        rintro _ _ ⟨_, ⟨rfl, rfl⟩, rfl⟩
        refine JL.val (v := .tuple #[.int .u32 y34.1, .int .i64 y34.2.1]) (QV.move rfl) rfl rfl rfl ?_
        refine JL.val (v := .int .u32 y34.1) (QV.extract (vs := [.int .u32 y34.1, .int .i64 y34.2.1]) rfl rfl) rfl rfl rfl ?_
        refine JL.val (v := .int .i64 y34.2.1) (QV.extract (vs := [.int .u32 y34.1, .int .i64 y34.2.1]) rfl rfl) rfl rfl rfl ?_
        refine JL.val (v := .int .u32 y34.1) (QV.assign rfl) rfl rfl rfl ?_
        refine JL.val (v := .int .i64 y34.2.1) (QV.assign rfl) rfl rfl rfl ?_
        refine JL.nil ?_
        refine QJ.then_normal ?_
        refine JC.seq ?_
        refine JC.seq ?_
        refine JC.region ?_
        refine JL.val (v := .int .i64 y34.2.1) (QV.move rfl) rfl rfl rfl ?_
        refine JL.val (v := .bool (!(decide (y34.2.1 = (0 : Int))))) (QV.neq rfl rfl) rfl rfl rfl ?_
        refine JL.nil ?_
        refine QJ.then_normal ?_
        rcases ite_inv hm with ⟨h36, hm⟩ | ⟨h36, hm⟩
        ·
          refine JC.condF' rfl (congrArg Bool.not (decide_eq_true h36)) ?_
          refine JC.skip ?_
          refine QJ.then_normal ?_
          refine JC.seq ?_
          refine JC.region ?_
          refine JL.val (v := .int .i64 d20) (QV.move rfl) rfl rfl rfl ?_
          refine JL.val (v := .int .i64 (IntKind.wrap .i64 ((2 : Int) * d20))) (QV.mul rfl rfl) rfl rfl rfl ?_
          refine JL.val (v := .int .u32 y34.1) (QV.move rfl) rfl rfl rfl ?_
          refine JL.val (v := .int .i64 (IntKind.wrap .i64 y34.1)) (QV.conv rfl (by rw [Try.underlying42]; rfl) Try.underlying3) rfl rfl rfl ?_
          refine JL.val (v := .int .i64 (IntKind.wrap .i64 ((IntKind.wrap .i64 ((2 : Int) * d20)) + (IntKind.wrap .i64 y34.1)))) (QV.add rfl rfl) rfl rfl rfl ?_
          refine JL.val (v := .int .i64 (IntKind.wrap .i64 ((IntKind.wrap .i64 ((2 : Int) * d20)) + (IntKind.wrap .i64 y34.1)))) (QV.assign rfl) rfl rfl rfl ?_
          refine JL.nil ?_
          refine QJ.then_normal ?_
          refine JC.seq ?_
          refine JC.region ?_
          refine JL.val (v := .int .i64 (IntKind.wrap .i64 ((IntKind.wrap .i64 ((2 : Int) * d20)) + (IntKind.wrap .i64 y34.1)))) (QV.move rfl) rfl rfl rfl ?_
          refine JL.val (v := .pointer (some ⟨b1, 0, none⟩)) (QV.move rfl) rfl rfl rfl ?_
          refine JL.val (v := .int .i64 d21) (QV.move rfl) rfl rfl rfl ?_
          refine JL.val (v := .pointer (some ⟨b1, 0, none⟩)) (QV.nilCheck rfl) rfl rfl rfl ?_
          refine JL.val (v := .pointer (some ⟨b1, 0, none⟩)) (QV.fieldB fo_107_0 rfl rfl) rfl rfl rfl ?_
          obtain ⟨h37, hm⟩ := guard_inv hm
          refine JL.val (v := .pointer (some ⟨b1, 0 + Int.toNat d21 * 1, none⟩)) (QV.indexB Try.underlying102 tk_3 rfl rfl h37) rfl rfl rfl ?_
          refine JL.val (v := .int .i64 (gd (x2).l d21)) (QV.ar1 (ss := [Seg.of (Enc.arr 16 (Enc.int .i64)) x2, Seg.of (Enc.arr 16 (Enc.int .i64)) x3, Seg.of (Enc.arr 16 (Enc.int .i64)) x4, Seg.c (s5.v)]) 3 0 rfl tk_3 rfl rfl rfl rfl h37 rfl) rfl rfl rfl ?_
          refine JL.val (v := .int .i64 (IntKind.wrap .i64 ((IntKind.wrap .i64 ((IntKind.wrap .i64 ((2 : Int) * d20)) + (IntKind.wrap .i64 y34.1))) - (gd (x2).l d21)))) (QV.sub rfl rfl) rfl rfl rfl ?_
          refine JL.val (v := .int .i64 (IntKind.wrap .i64 ((IntKind.wrap .i64 ((IntKind.wrap .i64 ((2 : Int) * d20)) + (IntKind.wrap .i64 y34.1))) - (gd (x2).l d21)))) (QV.assign rfl) rfl rfl rfl ?_
          refine JL.nil ?_
          refine QJ.then_normal ?_
          refine JC.seq ?_
          refine JC.region ?_
          refine JL.val (v := .int .i64 (IntKind.wrap .i64 ((IntKind.wrap .i64 ((IntKind.wrap .i64 ((2 : Int) * d20)) + (IntKind.wrap .i64 y34.1))) - (gd (x2).l d21)))) (QV.move rfl) rfl rfl rfl ?_
          refine JL.val (v := .bool (decide ((0 : Int) ≤ (IntKind.wrap .i64 ((IntKind.wrap .i64 ((IntKind.wrap .i64 ((2 : Int) * d20)) + (IntKind.wrap .i64 y34.1))) - (gd (x2).l d21)))))) (QV.geq rfl rfl) rfl rfl rfl ?_
          rcases ite_inv hm with ⟨h38, hm⟩ | ⟨h38, hm⟩
          ·
            refine JL.val (v := .bool true) (QV.eq (QV.move rfl) (congrArg Value.bool (decide_eq_true h38))) rfl rfl rfl ?_
            refine JL.val (v := .int .i64 (IntKind.wrap .i64 ((IntKind.wrap .i64 ((IntKind.wrap .i64 ((2 : Int) * d20)) + (IntKind.wrap .i64 y34.1))) - (gd (x2).l d21)))) (QV.move rfl) rfl rfl rfl ?_
            refine JL.val (v := .pointer (some ⟨b1, 0, none⟩)) (QV.move rfl) rfl rfl rfl ?_
            refine JL.val (v := .int .i64 d21) (QV.move rfl) rfl rfl rfl ?_
            refine JL.val (v := .pointer (some ⟨b1, 0, none⟩)) (QV.nilCheck rfl) rfl rfl rfl ?_
            refine JL.val (v := .pointer (some ⟨b1, 16, none⟩)) (QV.fieldB fo_107_1 rfl rfl) rfl rfl rfl ?_
            refine JL.val (v := .pointer (some ⟨b1, 16 + Int.toNat d21 * 1, none⟩)) (QV.indexB Try.underlying102 tk_3 rfl rfl h37) rfl rfl rfl ?_
            refine JL.val (v := .int .i64 (gd (x3).l d21)) (QV.ar1 (ss := [Seg.of (Enc.arr 16 (Enc.int .i64)) x2, Seg.of (Enc.arr 16 (Enc.int .i64)) x3, Seg.of (Enc.arr 16 (Enc.int .i64)) x4, Seg.c (s5.v)]) 3 1 rfl tk_3 rfl rfl rfl rfl h37 rfl) rfl rfl rfl ?_
            refine JL.val (v := .bool (decide ((IntKind.wrap .i64 ((IntKind.wrap .i64 ((IntKind.wrap .i64 ((2 : Int) * d20)) + (IntKind.wrap .i64 y34.1))) - (gd (x2).l d21))) < (gd (x3).l d21)))) (QV.lss rfl rfl) rfl rfl rfl ?_
            refine JL.val (v := .bool (decide ((IntKind.wrap .i64 ((IntKind.wrap .i64 ((IntKind.wrap .i64 ((2 : Int) * d20)) + (IntKind.wrap .i64 y34.1))) - (gd (x2).l d21))) < (gd (x3).l d21)))) (QV.pickT rfl rfl) rfl rfl rfl ?_
            refine JL.nil ?_
            refine QJ.then_normal ?_
            rcases ite_inv hm with ⟨h39, hm⟩ | ⟨h39, hm⟩
            ·
              refine JC.condT' rfl (decide_eq_true h39) ?_
              refine JC.seq ?_
              refine JC.regionT [Asr.of 5 (Enc.int .u8) (s8.v) x9, Asr.blk b7 101 [Seg.c (s8.v), Seg.c (.int .i64 y34.2.2)], Asr.of 3 (Enc.int .i64) (s5.v) x6, Asr.blk b1 107 [Seg.of (Enc.arr 16 (Enc.int .i64)) x2, Seg.of (Enc.arr 16 (Enc.int .i64)) x3, Seg.of (Enc.arr 16 (Enc.int .i64)) x4, Seg.c (s5.v)]] (fun t => false) [(0, true), (1, true), (2, true), (3, true), (4, true), (5, true), (6, true), (7, true), (8, true), (9, true), (10, false), (11, false), (12, false), (13, false), (14, false), (15, false)] (by kernel_rfl) (by kernel_rfl) (by kernel_rfl) rfl (fun hsel => ?_)
              refine JT.take (i := 0) (v := .pointer (some ⟨b1, 0, none⟩)) hsel rfl (QV.move rfl) rfl rfl rfl [0, 1, 2, 3] rfl rfl ?_
              refine JT.take (i := 1) (v := .pointer (some ⟨b1, 0, none⟩)) hsel rfl (QV.nilCheck rfl) rfl rfl rfl [0, 1, 2, 3] rfl rfl ?_
              refine JT.take (i := 2) (v := .pointer (some ⟨b1, 48, none⟩)) hsel rfl (QV.fieldB fo_107_3 rfl rfl) rfl rfl rfl [0, 1, 2, 3] rfl rfl ?_
              refine JT.take (i := 3) (v := s5.v) hsel rfl (QV.load1 (ss := [Seg.of (Enc.arr 16 (Enc.int .i64)) x2, Seg.of (Enc.arr 16 (Enc.int .i64)) x3, Seg.of (Enc.arr 16 (Enc.int .i64)) x4, Seg.c (s5.v)]) 3 3 rfl tk_76 rfl rfl rfl) rfl rfl rfl [0, 1, 2, 3] rfl rfl ?_
              refine JT.take (i := 4) (v := .pointer (some ⟨b1, 0, none⟩)) hsel rfl (QV.move rfl) rfl rfl rfl [0, 1, 2, 3] rfl rfl ?_
              refine JT.take (i := 5) (v := .int .i64 d21) hsel rfl (QV.move rfl) rfl rfl rfl [0, 1, 2, 3] rfl rfl ?_
              refine JT.take (i := 6) (v := .pointer (some ⟨b1, 0, none⟩)) hsel rfl (QV.nilCheck rfl) rfl rfl rfl [0, 1, 2, 3] rfl rfl ?_
              refine JT.take (i := 7) (v := .pointer (some ⟨b1, 32, none⟩)) hsel rfl (QV.fieldB fo_107_2 rfl rfl) rfl rfl rfl [0, 1, 2, 3] rfl rfl ?_
              refine JT.take (i := 8) (v := .pointer (some ⟨b1, 32 + Int.toNat d21 * 1, none⟩)) hsel rfl (QV.indexB Try.underlying102 tk_3 rfl rfl h37) rfl rfl rfl [0, 1, 2, 3] rfl rfl ?_
              refine JT.take (i := 9) (v := .int .i64 (gd (x4).l d21)) hsel rfl (QV.ar1 (ss := [Seg.of (Enc.arr 16 (Enc.int .i64)) x2, Seg.of (Enc.arr 16 (Enc.int .i64)) x3, Seg.of (Enc.arr 16 (Enc.int .i64)) x4, Seg.c (s5.v)]) 3 2 rfl tk_3 rfl rfl rfl rfl h37 rfl) rfl rfl rfl [0, 1, 2, 3] rfl rfl ?_
              refine JT.only (i := 10) (d := some 72) rfl (MV.ofQV (v := .int .i64 (IntKind.wrap .i64 ((IntKind.wrap .i64 ((IntKind.wrap .i64 ((2 : Int) * d20)) + (IntKind.wrap .i64 y34.1))) - (gd (x2).l d21)))) (QV.move rfl)) rfl rfl rfl ?_
              rintro _ _ ⟨rfl, rfl⟩
              refine ⟨fun _ => ⟨[0, 1, 2, 3], rfl, rfl⟩, ?_⟩
              refine JT.only (i := 11) (d := some 73) rfl (MV.ofQV (v := .int .i64 (IntKind.wrap .i64 ((gd (x4).l d21) + (IntKind.wrap .i64 ((IntKind.wrap .i64 ((IntKind.wrap .i64 ((2 : Int) * d20)) + (IntKind.wrap .i64 y34.1))) - (gd (x2).l d21)))))) (QV.add rfl rfl)) rfl rfl rfl ?_
              rintro _ _ ⟨rfl, rfl⟩
              refine ⟨fun _ => ⟨[0, 1, 2, 3], rfl, rfl⟩, ?_⟩
              obtain ⟨h40, hm⟩ := guard_inv hm
              refine JT.only (i := 12) (d := some 74) rfl (MV.ofQV (v := .pointer (some (elA (s5.v) (Int.toNat (IntKind.wrap .i64 ((gd (x4).l d21) + (IntKind.wrap .i64 ((IntKind.wrap .i64 ((IntKind.wrap .i64 ((2 : Int) * d20)) + (IntKind.wrap .i64 y34.1))) - (gd (x2).l d21))))) * ((Enc.int .i64)).sz)))) (QV.indexA (Rdg.of 2 rfl) Try.underlying76 tk_3 rfl rfl h40)) rfl rfl rfl ?_
              rintro _ _ ⟨rfl, rfl⟩
              refine ⟨fun _ => ⟨[0, 1, 2, 3], rfl, rfl⟩, ?_⟩
              refine JT.only (i := 13) (d := some 75) rfl (MV.ofQV (v := .int .i64 (gd x6 (IntKind.wrap .i64 ((gd (x4).l d21) + (IntKind.wrap .i64 ((IntKind.wrap .i64 ((IntKind.wrap .i64 ((2 : Int) * d20)) + (IntKind.wrap .i64 y34.1))) - (gd (x2).l d21))))))) (QV.el1 (Rdg.of 2 rfl) tk_3 rfl h40 rfl)) rfl rfl rfl ?_
              rintro _ _ ⟨rfl, rfl⟩
              refine ⟨fun _ => ⟨[0, 1, 2, 3], rfl, rfl⟩, ?_⟩
              refine JT.only (i := 14) (d := some 4) rfl (MV.ofQV (v := .int .i64 (gd x6 (IntKind.wrap .i64 ((gd (x4).l d21) + (IntKind.wrap .i64 ((IntKind.wrap .i64 ((IntKind.wrap .i64 ((2 : Int) * d20)) + (IntKind.wrap .i64 y34.1))) - (gd (x2).l d21))))))) (QV.assign rfl)) rfl rfl rfl ?_
              rintro _ _ ⟨rfl, rfl⟩
              refine ⟨fun _ => ⟨[0, 1, 2, 3], rfl, rfl⟩, ?_⟩
              refine JT.only (i := 15) (d := some 5) rfl (MV.ofQV (v := .int .i64 (0 : Int)) (QV.assign rfl)) rfl rfl rfl ?_
              rintro _ _ ⟨rfl, rfl⟩
              refine ⟨fun _ => ⟨[0, 1, 2, 3], rfl, rfl⟩, ?_⟩
              refine JT.nil ?_
              refine QJ.then_normal ?_
              refine JC.ret ?_
              refine QJ.block_ret ?_
              refine QJ.cut_ret ?_
              refine QJ.then_ret ?_
              obtain rfl := Option.some.inj hm
              refine QJ.round_ret (fun hy => ?_)
              subst hy
              refine QJ.block_ret ?_
              refine QJ.cut_ret ?_
              refine QJ.then_ret ?_
              obtain rfl := Option.some.inj hmo27
              exact QJ.body (vs := [.int .i64 (gd x6 (IntKind.wrap .i64 ((gd (x4).l d21) + (IntKind.wrap .i64 ((IntKind.wrap .i64 ((IntKind.wrap .i64 ((2 : Int) * d20)) + (IntKind.wrap .i64 y34.1))) - (gd (x2).l d21)))))), .int .i64 (0 : Int)]) (.inl rfl) rfl (ResVs.cons (ResV.tmp rfl) (ResVs.cons (ResV.tmp rfl) ResVs.nil)) [2, 3, 0, 1] rfl rfl (.inr ⟨own_of _ _ _ _, own_blk _ _ _, own_of _ _ _ _, own_blk _ _ _, trivial⟩) ⟨rfl, rfl⟩
            ·
              refine JC.condF' rfl (decide_eq_false h39) ?_
              refine JC.skip ?_
              refine QJ.block_normal ?_
              exact QJ.cut_normal ((y34.2.2, (IntKind.wrap .i64 ((IntKind.wrap .i64 ((2 : Int) * d20)) + (IntKind.wrap .i64 y34.1)))), ()) hm [2, 3, 0, 1] (by exact ⟨rfl, rfl, rfl, rfl, rfl, trivial⟩) rfl rfl
          ·
            refine JL.val (v := .bool false) (QV.eq (QV.move rfl) (congrArg Value.bool (decide_eq_false h38))) rfl rfl rfl ?_
            refine JL.skip (d := some 53) rfl rfl rfl ?_
            refine JL.skip (d := some 54) rfl rfl rfl ?_
            refine JL.skip (d := some 55) rfl rfl rfl ?_
            refine JL.skip (d := some 56) rfl rfl rfl ?_
            refine JL.skip (d := some 57) rfl rfl rfl ?_
            refine JL.skip (d := some 58) rfl rfl rfl ?_
            refine JL.skip (d := some 59) rfl rfl rfl ?_
            refine JL.skip (d := some 60) rfl rfl rfl ?_
            refine JL.val (v := .bool false) (QV.pickF rfl rfl) rfl rfl rfl ?_
            refine JL.nil ?_
            refine QJ.then_normal ?_
            refine JC.condF rfl ?_
            refine JC.skip ?_
            refine QJ.block_normal ?_
            exact QJ.cut_normal ((y34.2.2, (IntKind.wrap .i64 ((IntKind.wrap .i64 ((2 : Int) * d20)) + (IntKind.wrap .i64 y34.1)))), ()) hm [2, 3, 0, 1] (by exact ⟨rfl, rfl, rfl, rfl, rfl, trivial⟩) rfl rfl
        ·
          refine JC.condT' rfl (congrArg Bool.not (decide_eq_false h36)) ?_
          refine JC.seq ?_
          refine JC.region ?_
          refine JL.val (v := .pointer (some ⟨b7, 0, none⟩)) (QV.move rfl) rfl rfl rfl ?_
          refine JL.val (v := .int .i64 x10) (QV.move rfl) rfl rfl rfl ?_
          obtain ⟨y41, hc42, hm⟩ := bind_inv hm
          refine JL.mv (d := some 35) (MV.call (Lo := [Asr.blk b7 101 [Seg.c (s8.v), Seg.c (.int .i64 y34.2.2)], Asr.of 5 (Enc.int .u8) (s8.v) x9]) (Lr := [Asr.of 3 (Enc.int .i64) (s5.v) x6, Asr.blk b1 107 [Seg.of (Enc.arr 16 (Enc.int .i64)) x2, Seg.of (Enc.arr 16 (Enc.int .i64)) x3, Seg.of (Enc.arr 16 (Enc.int .i64)) x4, Seg.c (s5.v)]]) (F45.spec (b7) (s8) (x9) (y34.2.2) (x10) _ hc42) rfl Try.func45 rfl rfl rfl [1, 0] [2, 3] rfl rfl rfl trivial) rfl rfl rfl ?_
          rintro _ _ ⟨_, ⟨rfl, rfl⟩, rfl⟩
          refine JL.nil ?_
          refine QJ.then_normal ?_
          refine JC.seq ?_
          refine JC.region ?_
          refine JL.val (v := .int .i64 y34.2.1) (QV.move rfl) rfl rfl rfl ?_
          refine JL.val (v := .int .i64 (0 : Int)) (QV.assign rfl) rfl rfl rfl ?_
          refine JL.val (v := .int .i64 y34.2.1) (QV.assign rfl) rfl rfl rfl ?_
          refine JL.nil ?_
          refine QJ.then_normal ?_
          refine JC.ret ?_
          refine QJ.then_ret ?_
          refine QJ.block_ret ?_
          refine QJ.cut_ret ?_
          refine QJ.then_ret ?_
          obtain rfl := Option.some.inj hm
          refine QJ.round_ret (fun hy => ?_)
          subst hy
          refine QJ.block_ret ?_
          refine QJ.cut_ret ?_
          refine QJ.then_ret ?_
          obtain rfl := Option.some.inj hmo27
          exact QJ.body (vs := [.int .i64 (0 : Int), .int .i64 y34.2.1]) (.inl rfl) rfl (ResVs.cons (ResV.tmp rfl) (ResVs.cons (ResV.tmp rfl) ResVs.nil)) [2, 3, 0, 1] rfl rfl (.inr ⟨own_of _ _ _ _, own_blk _ _ _, own_of _ _ _ _, own_blk _ _ _, trivial⟩) ⟨rfl, rfl⟩
    ·
      refine JC.condF' rfl (decide_eq_false h31) ?_
      refine JC.exit ?_
      refine QJ.then_exit ?_
      obtain rfl := Option.some.inj hm
      refine QJ.round_exit (fun hy => ?_)
      subst hy
      refine QJ.block_hit ?_
      exact QJ.cut_normal (d19, ()) hmo27 [2, 3, 0, 1] (by exact ⟨rfl, rfl, trivial⟩) rfl rfl

end Go.Proofs.Ytpophpendlnehaa
