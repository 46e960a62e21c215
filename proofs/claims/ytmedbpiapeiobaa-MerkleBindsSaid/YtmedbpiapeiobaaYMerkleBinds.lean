/- Written by gen.py: functions and their contracts. -/
import Derived.Test.YtmedbpiapeiobaaMer
namespace Go.Proofs.Ytmedbpiapeiobaa
open Go Go.Eng Go.Proofs
set_option linter.unusedVariables false
set_option linter.unusedSimpArgs false
/-! ### 53: drogher/drogherref21.Clash -/
noncomputable def F53.j1 (x2 : List (Arr Int 32)) (x3 : (Arr Int 32)) (x4 : Int) (x6 : List (Arr Int 32)) (recM : (List (Arr Int 32)) → (Arr Int 32) → (Int) → (List (Arr Int 32)) → Option Bool) (y11 : Int) (y14 : (Arr Int 32)) (y18 : (Arr Int 32)) (d24 : (Arr Int 32)) (d25 : (Arr Int 32)) : Option Bool :=
  ((F78.m (y14) (y18)).bind fun y26 => ((F78.m (d24) (d25)).bind fun y29 => (if (strOfNums y26) = (strOfNums y29) then (if x4 < y11 then (if 0 ≤ (0 : Int) ∧ (0 : Int) ≤ (IntKind.wrap .i64 (((x6).length : Int) - (1 : Int))) ∧ (IntKind.wrap .i64 (((x6).length : Int) - (1 : Int))) ≤ ((x6).length : Int) then ((recM ((subL x2 (0 : Int) y11)) (x3) (x4) ((subL x6 (0 : Int) (IntKind.wrap .i64 (((x6).length : Int) - (1 : Int)))))).bind fun y35 => some y35) else none) else (if 0 ≤ (0 : Int) ∧ (0 : Int) ≤ (IntKind.wrap .i64 (((x6).length : Int) - (1 : Int))) ∧ (IntKind.wrap .i64 (((x6).length : Int) - (1 : Int))) ≤ ((x6).length : Int) then ((recM ((subL x2 y11 ((x2).length : Int))) (x3) ((IntKind.wrap .i64 (x4 - y11))) ((subL x6 (0 : Int) (IntKind.wrap .i64 (((x6).length : Int) - (1 : Int)))))).bind fun y38 => some y38) else none)) else ((F48.m (y14) (y18)).bind fun y40 => ((F48.m (d24) (d25)).bind fun y42 => some (decide (y40 = y42)))))))
noncomputable def F53.g (recM : (List (Arr Int 32)) → (Arr Int 32) → (Int) → (List (Arr Int 32)) → Option Bool) (x2 : List (Arr Int 32)) (x3 : (Arr Int 32)) (x4 : Int) (x6 : List (Arr Int 32)) : Option Bool :=
  (if ((x2).length : Int) = (1 : Int) then some false else ((F77.m (((x2).length : Int))).bind fun y11 => (if 0 ≤ (0 : Int) ∧ (0 : Int) ≤ y11 ∧ y11 ≤ ((x2).length : Int) then ((F46.m ((subL x2 (0 : Int) y11))).bind fun y14 => (if 0 ≤ y11 ∧ y11 ≤ ((x2).length : Int) ∧ ((x2).length : Int) ≤ ((x2).length : Int) then ((F46.m ((subL x2 y11 ((x2).length : Int)))).bind fun y18 => (if 0 ≤ (IntKind.wrap .i64 (((x6).length : Int) - (1 : Int))) ∧ (IntKind.wrap .i64 (((x6).length : Int) - (1 : Int))) < ((x6).length : Int) then (if x4 < y11 then (if 0 ≤ (0 : Int) ∧ (0 : Int) ≤ (IntKind.wrap .i64 (((x6).length : Int) - (1 : Int))) ∧ (IntKind.wrap .i64 (((x6).length : Int) - (1 : Int))) ≤ ((x6).length : Int) then ((F52.m (x3) (x4) (y11) ((subL x6 (0 : Int) (IntKind.wrap .i64 (((x6).length : Int) - (1 : Int)))))).bind fun y46 => F53.j1 x2 x3 x4 x6 recM y11 y14 y18 (y46) ((gd x6 (IntKind.wrap .i64 (((x6).length : Int) - (1 : Int)))))) else none) else (if 0 ≤ (0 : Int) ∧ (0 : Int) ≤ (IntKind.wrap .i64 (((x6).length : Int) - (1 : Int))) ∧ (IntKind.wrap .i64 (((x6).length : Int) - (1 : Int))) ≤ ((x6).length : Int) then ((F52.m (x3) ((IntKind.wrap .i64 (x4 - y11))) ((IntKind.wrap .i64 (((x2).length : Int) - y11))) ((subL x6 (0 : Int) (IntKind.wrap .i64 (((x6).length : Int) - (1 : Int)))))).bind fun y49 => F53.j1 x2 x3 x4 x6 recM y11 y14 y18 ((gd x6 (IntKind.wrap .i64 (((x6).length : Int) - (1 : Int))))) (y49)) else none)) else none)) else none)) else none)))
noncomputable def F53.mF : Nat → (List (Arr Int 32)) → (Arr Int 32) → (Int) → (List (Arr Int 32)) → Option Bool
  | 0 => fun _ _ _ _ => none
  | n + 1 => fun x2 x3 x4 x6 => F53.g (F53.mF n) x2 x3 x4 x6
noncomputable def F53.m (x2 : List (Arr Int 32)) (x3 : (Arr Int 32)) (x4 : Int) (x6 : List (Arr Int 32)) : Option Bool := evt (fun n => F53.mF n x2 x3 x4 x6)
set_option maxRecDepth 100000 in
set_option maxHeartbeats 4000000 in
theorem F53.specG (recM : (List (Arr Int 32)) → (Arr Int 32) → (Int) → (List (Arr Int 32)) → Option Bool) (ih : ∀ (s1 : SlV) (s5 : SlV) (x2 : List (Arr Int 32)) (x3 : (Arr Int 32)) (x4 : Int) (x6 : List (Arr Int 32)) (r : Bool) (_hm : recM x2 x3 x4 x6 = some r), Ctr Try.prog false 53 [s1.v, .agg (((Enc.arr 32 (Enc.int .u8))).enc x3).toArray, .int .i64 x4, s5.v] [Asr.vw (Enc.arr 32 (Enc.int .u8)) (s1.v) x2, Asr.vw (Enc.arr 32 (Enc.int .u8)) (s5.v) x6] (fun v L' => v = .bool r ∧ L' = [])) (s1 : SlV) (s5 : SlV) (x2 : List (Arr Int 32)) (x3 : (Arr Int 32)) (x4 : Int) (x6 : List (Arr Int 32)) (r : Bool) (hm : F53.g recM x2 x3 x4 x6 = some r) :
    Ctr Try.prog false 53 [s1.v, .agg (((Enc.arr 32 (Enc.int .u8))).enc x3).toArray, .int .i64 x4, s5.v] [Asr.vw (Enc.arr 32 (Enc.int .u8)) (s1.v) x2, Asr.vw (Enc.arr 32 (Enc.int .u8)) (s5.v) x6] (fun v L' => v = .bool r ∧ L' = []) := by
  refine Ctr.intro (n := 101) (env := [(0, s1.v), (1, .agg (((Enc.arr 32 (Enc.int .u8))).enc x3).toArray), (2, .int .i64 x4), (3, s5.v)]) Try.func53 rfl rfl rfl rfl (fun c => ?_)
  unfold F53.g at hm
  refine JC.seq ?_
  refine JC.region ?_
  refine JL.mv (d := some 5) (MV.box [Seg.of (Enc.arr 32 (Enc.int .u8)) x3] rfl (fun w hs => rfl)) rfl rfl rfl ?_
  rintro _ _ ⟨b9, rfl, rfl⟩
  refine JL.val (v := .bool false) (QV.assign rfl) rfl rfl rfl ?_
  refine JL.nil ?_
  refine QJ.then_normal ?_
  refine JC.seq ?_
  refine JC.seq ?_
  refine JC.region ?_
  refine JL.val (v := s1.v) (QV.move rfl) rfl rfl rfl ?_
  refine JL.val (v := .int .i64 ((x2).length : Int)) (QV.len (Rdg.vw 1 rfl) Try.underlying55 rfl) rfl rfl rfl ?_
  refine JL.val (v := .bool (decide (((x2).length : Int) = (1 : Int)))) (QV.eql rfl rfl) rfl rfl rfl ?_
  refine JL.nil ?_
  refine QJ.then_normal ?_
  rcases ite_inv hm with ⟨h10, hm⟩ | ⟨h10, hm⟩
  ·
    refine JC.condT' rfl (decide_eq_true h10) ?_
    refine JC.seq ?_
    refine JC.region ?_
    refine JL.val (v := .bool false) (QV.assign rfl) rfl rfl rfl ?_
    refine JL.nil ?_
    refine QJ.then_normal ?_
    refine JC.ret ?_
    refine QJ.then_ret ?_
    obtain rfl := Option.some.inj hm
    exact QJ.body (vs := [.bool false]) (.inl rfl) rfl (ResVs.cons (ResV.tmp rfl) ResVs.nil) [] rfl rfl (.inr trivial) ⟨rfl, rfl⟩
  ·
    refine JC.condF' rfl (decide_eq_false h10) ?_
    refine JC.skip ?_
    refine QJ.then_normal ?_
    refine JC.seq ?_
    refine JC.region ?_
    refine JL.val (v := s5.v) (QV.move rfl) rfl rfl rfl ?_
    refine JL.val (v := .int .i64 ((x6).length : Int)) (QV.len (Rdg.vw 2 rfl) Try.underlying55 rfl) rfl rfl rfl ?_
    refine JL.val (v := .int .i64 (IntKind.wrap .i64 (((x6).length : Int) - (1 : Int)))) (QV.sub rfl rfl) rfl rfl rfl ?_
    refine JL.val (v := .int .i64 (IntKind.wrap .i64 (((x6).length : Int) - (1 : Int)))) (QV.assign rfl) rfl rfl rfl ?_
    refine JL.nil ?_
    refine QJ.then_normal ?_
    refine JC.seq ?_
    refine JC.region ?_
    refine JL.val (v := s1.v) (QV.move rfl) rfl rfl rfl ?_
    refine JL.val (v := .int .i64 ((x2).length : Int)) (QV.len (Rdg.vw 1 rfl) Try.underlying55 rfl) rfl rfl rfl ?_
    obtain ⟨y11, hc12, hm⟩ := bind_inv hm
    refine JL.mv (d := some 23) (MV.call (Lo := []) (Lr := [Asr.blk b9 39 [Seg.of (Enc.arr 32 (Enc.int .u8)) x3], Asr.vw (Enc.arr 32 (Enc.int .u8)) (s1.v) x2, Asr.vw (Enc.arr 32 (Enc.int .u8)) (s5.v) x6]) (F77.spec (((x2).length : Int)) _ hc12) rfl Try.func77 rfl rfl rfl [] [0, 1, 2] rfl rfl rfl trivial) rfl rfl rfl ?_
    rintro _ _ ⟨_, ⟨rfl, rfl⟩, rfl⟩
    refine JL.val (v := .int .i64 y11) (QV.assign rfl) rfl rfl rfl ?_
    refine JL.nil ?_
    refine QJ.then_normal ?_
    refine JC.seq ?_
    refine JC.region ?_
    refine JL.val (v := s1.v) (QV.move rfl) rfl rfl rfl ?_
    refine JL.val (v := .int .i64 y11) (QV.move rfl) rfl rfl rfl ?_
    obtain ⟨h13, hm⟩ := guard_inv hm
    refine JL.val (v := (SlV.sub ((Enc.arr 32 (Enc.int .u8))).sz s1 (0 : Int) y11).v) (QV.sliceV (Rdg.vw 1 rfl) Try.underlying55 tk_39 rfl rfl rfl h13) rfl rfl rfl ?_
    obtain ⟨y14, hc15, hm⟩ := bind_inv hm
    refine JL.mv (d := some 27) (MV.call (Lo := []) (Lr := [Asr.blk b9 39 [Seg.of (Enc.arr 32 (Enc.int .u8)) x3], Asr.vw (Enc.arr 32 (Enc.int .u8)) (s1.v) x2, Asr.vw (Enc.arr 32 (Enc.int .u8)) (s5.v) x6]) (F46.spec ((SlV.sub ((Enc.arr 32 (Enc.int .u8))).sz s1 (0 : Int) y11)) ((subL x2 (0 : Int) y11)) _ hc15) rfl Try.func46 rfl rfl rfl [] [0, 1, 2] rfl rfl rfl ⟨((Drv.vw 1 rfl).subV h13), trivial⟩) rfl rfl rfl ?_
    rintro _ _ ⟨_, ⟨rfl, rfl⟩, rfl⟩
    refine JL.mv (d := some 11) (MV.alloc [Seg.of (Enc.arr 32 (Enc.int .u8)) (Arr.rep 32 (0 : Int))] z_39 rfl) rfl rfl rfl ?_
    rintro _ _ ⟨b16, rfl, rfl⟩
    refine JL.mv (d := none) (MV.store (ss := [Seg.of (Enc.arr 32 (Enc.int .u8)) (Arr.rep 32 (0 : Int))]) 0 0 1 [Seg.of (Enc.arr 32 (Enc.int .u8)) y14] rfl tk_39 rfl rfl rfl rfl (fun w hs => ⟨rfl, one_of _ _, trivial⟩)) rfl rfl rfl ?_
    rintro _ _ ⟨rfl, rfl⟩
    refine JL.nil ?_
    refine QJ.then_normal ?_
    refine JC.seq ?_
    refine JC.region ?_
    refine JL.val (v := s1.v) (QV.move rfl) rfl rfl rfl ?_
    refine JL.val (v := .int .i64 y11) (QV.move rfl) rfl rfl rfl ?_
    obtain ⟨h17, hm⟩ := guard_inv hm
    refine JL.val (v := (SlV.sub ((Enc.arr 32 (Enc.int .u8))).sz s1 y11 ((x2).length : Int)).v) (QV.sliceV (Rdg.vw 2 rfl) Try.underlying55 tk_39 rfl rfl rfl h17) rfl rfl rfl ?_
    obtain ⟨y18, hc19, hm⟩ := bind_inv hm
    refine JL.mv (d := some 31) (MV.call (Lo := []) (Lr := [Asr.blk b16 39 [Seg.of (Enc.arr 32 (Enc.int .u8)) y14], Asr.blk b9 39 [Seg.of (Enc.arr 32 (Enc.int .u8)) x3], Asr.vw (Enc.arr 32 (Enc.int .u8)) (s1.v) x2, Asr.vw (Enc.arr 32 (Enc.int .u8)) (s5.v) x6]) (F46.spec ((SlV.sub ((Enc.arr 32 (Enc.int .u8))).sz s1 y11 ((x2).length : Int))) ((subL x2 y11 ((x2).length : Int))) _ hc19) rfl Try.func46 rfl rfl rfl [] [0, 1, 2, 3] rfl rfl rfl ⟨((Drv.vw 2 rfl).subV h17), trivial⟩) rfl rfl rfl ?_
    rintro _ _ ⟨_, ⟨rfl, rfl⟩, rfl⟩
    refine JL.mv (d := some 12) (MV.alloc [Seg.of (Enc.arr 32 (Enc.int .u8)) (Arr.rep 32 (0 : Int))] z_39 rfl) rfl rfl rfl ?_
    rintro _ _ ⟨b20, rfl, rfl⟩
    refine JL.mv (d := none) (MV.store (ss := [Seg.of (Enc.arr 32 (Enc.int .u8)) (Arr.rep 32 (0 : Int))]) 0 0 1 [Seg.of (Enc.arr 32 (Enc.int .u8)) y18] rfl tk_39 rfl rfl rfl rfl (fun w hs => ⟨rfl, one_of _ _, trivial⟩)) rfl rfl rfl ?_
    rintro _ _ ⟨rfl, rfl⟩
    refine JL.nil ?_
    refine QJ.then_normal ?_
    refine JC.seq ?_
    refine JC.region ?_
    refine JL.val (v := s5.v) (QV.move rfl) rfl rfl rfl ?_
    refine JL.val (v := .int .i64 (IntKind.wrap .i64 (((x6).length : Int) - (1 : Int)))) (QV.move rfl) rfl rfl rfl ?_
    obtain ⟨h21, hm⟩ := guard_inv hm
    refine JL.val (v := .pointer (some (elA (s5.v) (Int.toNat (IntKind.wrap .i64 (((x6).length : Int) - (1 : Int))) * ((Enc.arr 32 (Enc.int .u8))).sz)))) (QV.indexA (Rdg.vw 4 rfl) Try.underlying55 tk_39 rfl rfl h21) rfl rfl rfl ?_
    refine JL.val (v := .agg (((Enc.arr 32 (Enc.int .u8))).enc (gd x6 (IntKind.wrap .i64 (((x6).length : Int) - (1 : Int))))).toArray) (QV.eq (QV.elN (Rdg.vw 4 rfl) tk_39 rfl h21) rfl) rfl rfl rfl ?_
    refine JL.mv (d := some 13) (MV.alloc [Seg.of (Enc.arr 32 (Enc.int .u8)) (Arr.rep 32 (0 : Int))] z_39 rfl) rfl rfl rfl ?_
    rintro _ _ ⟨b22, rfl, rfl⟩
    refine JL.mv (d := none) (MV.store (ss := [Seg.of (Enc.arr 32 (Enc.int .u8)) (Arr.rep 32 (0 : Int))]) 0 0 1 [Seg.of (Enc.arr 32 (Enc.int .u8)) (gd x6 (IntKind.wrap .i64 (((x6).length : Int) - (1 : Int))))] rfl tk_39 rfl rfl rfl rfl (fun w hs => ⟨rfl, one_of _ _, trivial⟩)) rfl rfl rfl ?_
    rintro _ _ ⟨rfl, rfl⟩
    refine JL.nil ?_
    refine QJ.then_normal ?_
    refine JC.seq ?_
    refine JC.region ?_
    refine JL.val (v := s5.v) (QV.move rfl) rfl rfl rfl ?_
    refine JL.val (v := .int .i64 (IntKind.wrap .i64 (((x6).length : Int) - (1 : Int)))) (QV.move rfl) rfl rfl rfl ?_
    refine JL.val (v := .pointer (some (elA (s5.v) (Int.toNat (IntKind.wrap .i64 (((x6).length : Int) - (1 : Int))) * ((Enc.arr 32 (Enc.int .u8))).sz)))) (QV.indexA (Rdg.vw 5 rfl) Try.underlying55 tk_39 rfl rfl h21) rfl rfl rfl ?_
    refine JL.val (v := .agg (((Enc.arr 32 (Enc.int .u8))).enc (gd x6 (IntKind.wrap .i64 (((x6).length : Int) - (1 : Int))))).toArray) (QV.eq (QV.elN (Rdg.vw 5 rfl) tk_39 rfl h21) rfl) rfl rfl rfl ?_
    refine JL.mv (d := some 14) (MV.alloc [Seg.of (Enc.arr 32 (Enc.int .u8)) (Arr.rep 32 (0 : Int))] z_39 rfl) rfl rfl rfl ?_
    rintro _ _ ⟨b23, rfl, rfl⟩
    refine JL.mv (d := none) (MV.store (ss := [Seg.of (Enc.arr 32 (Enc.int .u8)) (Arr.rep 32 (0 : Int))]) 0 0 1 [Seg.of (Enc.arr 32 (Enc.int .u8)) (gd x6 (IntKind.wrap .i64 (((x6).length : Int) - (1 : Int))))] rfl tk_39 rfl rfl rfl rfl (fun w hs => ⟨rfl, one_of _ _, trivial⟩)) rfl rfl rfl ?_
    rintro _ _ ⟨rfl, rfl⟩
    refine JL.nil ?_
    refine QJ.then_normal ?_
    refine JC.seq ?_
    refine JC.seq ?_
    refine JC.region ?_
    refine JL.val (v := .int .i64 x4) (QV.move rfl) rfl rfl rfl ?_
    refine JL.val (v := .int .i64 y11) (QV.move rfl) rfl rfl rfl ?_
    refine JL.val (v := .bool (decide (x4 < y11))) (QV.lss rfl rfl) rfl rfl rfl ?_
    refine JL.nil ?_
    refine QJ.then_normal ?_
    refine JC.cutK (Y := ((Arr Int 32) × (Arr Int 32)) × Unit) (fun y => match y with | ((d24, d25), _) => F53.j1 x2 x3 x4 x6 recM y11 y14 y18 (d24) (d25) = some r) (fun y => match y with | ((d24, d25), _) => [(0, s1.v), (2, .int .i64 x4), (3, s5.v), (5, .pointer (some ⟨b9, 0, none⟩)), (9, .int .i64 (IntKind.wrap .i64 (((x6).length : Int) - (1 : Int)))), (10, .int .i64 y11), (11, .pointer (some ⟨b16, 0, none⟩)), (12, .pointer (some ⟨b20, 0, none⟩)), (13, .pointer (some ⟨b22, 0, none⟩)), (14, .pointer (some ⟨b23, 0, none⟩))]) (fun y => match y with | ((d24, d25), _) => [Asr.vw (Enc.arr 32 (Enc.int .u8)) (s1.v) x2, Asr.vw (Enc.arr 32 (Enc.int .u8)) (s5.v) x6, Asr.blk b9 39 [Seg.of (Enc.arr 32 (Enc.int .u8)) x3], Asr.blk b16 39 [Seg.of (Enc.arr 32 (Enc.int .u8)) y14], Asr.blk b20 39 [Seg.of (Enc.arr 32 (Enc.int .u8)) y18], Asr.blk b22 39 [Seg.of (Enc.arr 32 (Enc.int .u8)) d24], Asr.blk b23 39 [Seg.of (Enc.arr 32 (Enc.int .u8)) d25]]) ?_ ?_
    ·
      rintro ⟨⟨d24, d25⟩, ⟨⟩⟩ hm
      unfold F53.j1 at hm
      show QJ _ _ [(0, s1.v), (2, .int .i64 x4), (3, s5.v), (5, .pointer (some ⟨b9, 0, none⟩)), (9, .int .i64 (IntKind.wrap .i64 (((x6).length : Int) - (1 : Int)))), (10, .int .i64 y11), (11, .pointer (some ⟨b16, 0, none⟩)), (12, .pointer (some ⟨b20, 0, none⟩)), (13, .pointer (some ⟨b22, 0, none⟩)), (14, .pointer (some ⟨b23, 0, none⟩))] [Asr.vw (Enc.arr 32 (Enc.int .u8)) (s1.v) x2, Asr.vw (Enc.arr 32 (Enc.int .u8)) (s5.v) x6, Asr.blk b9 39 [Seg.of (Enc.arr 32 (Enc.int .u8)) x3], Asr.blk b16 39 [Seg.of (Enc.arr 32 (Enc.int .u8)) y14], Asr.blk b20 39 [Seg.of (Enc.arr 32 (Enc.int .u8)) y18], Asr.blk b22 39 [Seg.of (Enc.arr 32 (Enc.int .u8)) d24], Asr.blk b23 39 [Seg.of (Enc.arr 32 (Enc.int .u8)) d25]] _ _
      refine QJ.then_normal ?_
      refine JC.seq ?_
      refine JC.seq ?_
      refine JC.regionT [Asr.vw (Enc.arr 32 (Enc.int .u8)) (s1.v) x2, Asr.vw (Enc.arr 32 (Enc.int .u8)) (s5.v) x6, Asr.blk b9 39 [Seg.of (Enc.arr 32 (Enc.int .u8)) x3], Asr.blk b16 39 [Seg.of (Enc.arr 32 (Enc.int .u8)) y14], Asr.blk b20 39 [Seg.of (Enc.arr 32 (Enc.int .u8)) y18], Asr.blk b22 39 [Seg.of (Enc.arr 32 (Enc.int .u8)) d24], Asr.blk b23 39 [Seg.of (Enc.arr 32 (Enc.int .u8)) d25]] (fun t => false) [(0, true), (1, true), (4, true), (5, true), (2, false), (3, true), (6, false), (7, false), (8, false)] (by kernel_rfl) (by kernel_rfl) (by kernel_rfl) rfl (fun hsel => ?_)
      refine JT.take (i := 0) (v := .agg (((Enc.arr 32 (Enc.int .u8))).enc y14).toArray) hsel rfl (QV.eq (QV.loadN (ss := [Seg.of (Enc.arr 32 (Enc.int .u8)) y14]) 3 0 1 rfl tk_39 rfl rfl rfl rfl) rfl) rfl rfl rfl [0, 1, 2, 3, 4, 5, 6] rfl rfl ?_
      refine JT.take (i := 1) (v := .agg (((Enc.arr 32 (Enc.int .u8))).enc y18).toArray) hsel rfl (QV.eq (QV.loadN (ss := [Seg.of (Enc.arr 32 (Enc.int .u8)) y18]) 4 0 1 rfl tk_39 rfl rfl rfl rfl) rfl) rfl rfl rfl [0, 1, 2, 3, 4, 5, 6] rfl rfl ?_
      refine JT.take (i := 4) (v := .agg (((Enc.arr 32 (Enc.int .u8))).enc d24).toArray) hsel rfl (QV.eq (QV.loadN (ss := [Seg.of (Enc.arr 32 (Enc.int .u8)) d24]) 5 0 1 rfl tk_39 rfl rfl rfl rfl) rfl) rfl rfl rfl [0, 1, 2, 3, 4, 5, 6] rfl rfl ?_
      refine JT.take (i := 5) (v := .agg (((Enc.arr 32 (Enc.int .u8))).enc d25).toArray) hsel rfl (QV.eq (QV.loadN (ss := [Seg.of (Enc.arr 32 (Enc.int .u8)) d25]) 6 0 1 rfl tk_39 rfl rfl rfl rfl) rfl) rfl rfl rfl [0, 1, 2, 3, 4, 5, 6] rfl rfl ?_
      obtain ⟨y26, hc27, hm⟩ := bind_inv hm
      refine JT.only (i := 2) (d := some 64) rfl (MV.call (Lo := []) (Lr := [Asr.vw (Enc.arr 32 (Enc.int .u8)) (s1.v) x2, Asr.vw (Enc.arr 32 (Enc.int .u8)) (s5.v) x6, Asr.blk b9 39 [Seg.of (Enc.arr 32 (Enc.int .u8)) x3], Asr.blk b16 39 [Seg.of (Enc.arr 32 (Enc.int .u8)) y14], Asr.blk b20 39 [Seg.of (Enc.arr 32 (Enc.int .u8)) y18], Asr.blk b22 39 [Seg.of (Enc.arr 32 (Enc.int .u8)) d24], Asr.blk b23 39 [Seg.of (Enc.arr 32 (Enc.int .u8)) d25]]) (F78.spec (y14) (y18) _ hc27) rfl Try.func78 rfl rfl rfl [] [0, 1, 2, 3, 4, 5, 6] rfl rfl rfl trivial) rfl rfl rfl ?_
      rintro _ _ ⟨_, ⟨z28, rfl, rfl⟩, rfl⟩
      refine ⟨fun _ => ⟨[1, 2, 3, 4, 5, 6, 7], rfl, rfl⟩, ?_⟩
      refine JT.grow [Asr.of 5 (Enc.int .u8) (z28.v) y26, Asr.vw (Enc.arr 32 (Enc.int .u8)) (s1.v) x2, Asr.vw (Enc.arr 32 (Enc.int .u8)) (s5.v) x6, Asr.blk b9 39 [Seg.of (Enc.arr 32 (Enc.int .u8)) x3], Asr.blk b16 39 [Seg.of (Enc.arr 32 (Enc.int .u8)) y14], Asr.blk b20 39 [Seg.of (Enc.arr 32 (Enc.int .u8)) y18], Asr.blk b22 39 [Seg.of (Enc.arr 32 (Enc.int .u8)) d24], Asr.blk b23 39 [Seg.of (Enc.arr 32 (Enc.int .u8)) d25]] [1, 2, 3, 4, 5, 6, 7] rfl rfl ?_
      refine JT.take (i := 3) (v := .string (strOfNums y26)) hsel rfl (QV.str (Rdg.of 0 rfl) Try.underlying22 Try.underlying5 Try.underlying9 rfl) rfl rfl rfl [0, 1, 2, 3, 4, 5, 6, 7] rfl rfl ?_
      obtain ⟨y29, hc30, hm⟩ := bind_inv hm
      refine JT.only (i := 6) (d := some 68) rfl (MV.call (Lo := []) (Lr := [Asr.of 5 (Enc.int .u8) (z28.v) y26, Asr.vw (Enc.arr 32 (Enc.int .u8)) (s1.v) x2, Asr.vw (Enc.arr 32 (Enc.int .u8)) (s5.v) x6, Asr.blk b9 39 [Seg.of (Enc.arr 32 (Enc.int .u8)) x3], Asr.blk b16 39 [Seg.of (Enc.arr 32 (Enc.int .u8)) y14], Asr.blk b20 39 [Seg.of (Enc.arr 32 (Enc.int .u8)) y18], Asr.blk b22 39 [Seg.of (Enc.arr 32 (Enc.int .u8)) d24], Asr.blk b23 39 [Seg.of (Enc.arr 32 (Enc.int .u8)) d25]]) (F78.spec (d24) (d25) _ hc30) rfl Try.func78 rfl rfl rfl [] [0, 1, 2, 3, 4, 5, 6, 7] rfl rfl rfl trivial) rfl rfl rfl ?_
      rintro _ _ ⟨_, ⟨z31, rfl, rfl⟩, rfl⟩
      refine ⟨fun _ => ⟨[1, 2, 3, 4, 5, 6, 7, 8], rfl, rfl⟩, ?_⟩
      refine JT.grow [Asr.of 5 (Enc.int .u8) (z31.v) y29, Asr.of 5 (Enc.int .u8) (z28.v) y26, Asr.vw (Enc.arr 32 (Enc.int .u8)) (s1.v) x2, Asr.vw (Enc.arr 32 (Enc.int .u8)) (s5.v) x6, Asr.blk b9 39 [Seg.of (Enc.arr 32 (Enc.int .u8)) x3], Asr.blk b16 39 [Seg.of (Enc.arr 32 (Enc.int .u8)) y14], Asr.blk b20 39 [Seg.of (Enc.arr 32 (Enc.int .u8)) y18], Asr.blk b22 39 [Seg.of (Enc.arr 32 (Enc.int .u8)) d24], Asr.blk b23 39 [Seg.of (Enc.arr 32 (Enc.int .u8)) d25]] [1, 2, 3, 4, 5, 6, 7, 8] rfl rfl ?_
      refine JT.only (i := 7) (d := some 69) rfl (MV.ofQV (v := .string (strOfNums y29)) (QV.str (Rdg.of 0 rfl) Try.underlying22 Try.underlying5 Try.underlying9 rfl)) rfl rfl rfl ?_
      rintro _ _ ⟨rfl, rfl⟩
      refine ⟨fun _ => ⟨[0, 1, 2, 3, 4, 5, 6, 7, 8], rfl, rfl⟩, ?_⟩
      refine JT.only (i := 8) (d := some 70) rfl (MV.ofQV (v := .bool (!(decide ((strOfNums y26) = (strOfNums y29))))) (QV.neqS rfl rfl)) rfl rfl rfl ?_
      rintro _ _ ⟨rfl, rfl⟩
      refine ⟨fun _ => ⟨[0, 1, 2, 3, 4, 5, 6, 7, 8], rfl, rfl⟩, ?_⟩
      refine JT.nil ?_
      refine QJ.then_normal ?_
      rcases ite_inv hm with ⟨h32, hm⟩ | ⟨h32, hm⟩
      ·
        refine JC.condF' rfl (congrArg Bool.not (decide_eq_true h32)) ?_
        refine JC.skip ?_
        refine QJ.then_normal ?_
        refine JC.seq ?_
        refine JC.seq ?_
        refine JC.region ?_
        refine JL.val (v := .int .i64 x4) (QV.move rfl) rfl rfl rfl ?_
        refine JL.val (v := .int .i64 y11) (QV.move rfl) rfl rfl rfl ?_
        refine JL.val (v := .bool (decide (x4 < y11))) (QV.lss rfl rfl) rfl rfl rfl ?_
        refine JL.nil ?_
        refine QJ.then_normal ?_
        rcases ite_inv hm with ⟨h33, hm⟩ | ⟨h33, hm⟩
        ·
          refine JC.condT' rfl (decide_eq_true h33) ?_
          refine JC.seq ?_
          refine JC.regionT [Asr.of 5 (Enc.int .u8) (z31.v) y29, Asr.of 5 (Enc.int .u8) (z28.v) y26, Asr.vw (Enc.arr 32 (Enc.int .u8)) (s1.v) x2, Asr.vw (Enc.arr 32 (Enc.int .u8)) (s5.v) x6, Asr.blk b9 39 [Seg.of (Enc.arr 32 (Enc.int .u8)) x3], Asr.blk b16 39 [Seg.of (Enc.arr 32 (Enc.int .u8)) y14], Asr.blk b20 39 [Seg.of (Enc.arr 32 (Enc.int .u8)) y18], Asr.blk b22 39 [Seg.of (Enc.arr 32 (Enc.int .u8)) d24], Asr.blk b23 39 [Seg.of (Enc.arr 32 (Enc.int .u8)) d25]] (fun t => false) [(0, true), (1, true), (2, true), (3, true), (4, true), (5, true), (6, false), (7, false), (8, false), (9, false)] (by kernel_rfl) (by kernel_rfl) (by kernel_rfl) rfl (fun hsel => ?_)
          refine JT.take (i := 0) (v := s1.v) hsel rfl (QV.move rfl) rfl rfl rfl [0, 1, 2, 3, 4, 5, 6, 7, 8] rfl rfl ?_
          refine JT.take (i := 1) (v := .int .i64 y11) hsel rfl (QV.move rfl) rfl rfl rfl [0, 1, 2, 3, 4, 5, 6, 7, 8] rfl rfl ?_
          refine JT.take (i := 2) (v := (SlV.sub ((Enc.arr 32 (Enc.int .u8))).sz s1 (0 : Int) y11).v) hsel rfl (QV.sliceV (Rdg.vw 2 rfl) Try.underlying55 tk_39 rfl rfl rfl h13) rfl rfl rfl [0, 1, 2, 3, 4, 5, 6, 7, 8] rfl rfl ?_
          refine JT.take (i := 3) (v := .agg (((Enc.arr 32 (Enc.int .u8))).enc x3).toArray) hsel rfl (QV.eq (QV.loadN (ss := [Seg.of (Enc.arr 32 (Enc.int .u8)) x3]) 4 0 1 rfl tk_39 rfl rfl rfl rfl) rfl) rfl rfl rfl [0, 1, 2, 3, 4, 5, 6, 7, 8] rfl rfl ?_
          refine JT.take (i := 4) (v := .int .i64 x4) hsel rfl (QV.move rfl) rfl rfl rfl [0, 1, 2, 3, 4, 5, 6, 7, 8] rfl rfl ?_
          refine JT.take (i := 5) (v := s5.v) hsel rfl (QV.move rfl) rfl rfl rfl [0, 1, 2, 3, 4, 5, 6, 7, 8] rfl rfl ?_
          refine JT.only (i := 6) (d := some 87) rfl (MV.ofQV (v := .int .i64 (IntKind.wrap .i64 (((x6).length : Int) - (1 : Int)))) (QV.move rfl)) rfl rfl rfl ?_
          rintro _ _ ⟨rfl, rfl⟩
          refine ⟨fun _ => ⟨[0, 1, 2, 3, 4, 5, 6, 7, 8], rfl, rfl⟩, ?_⟩
          obtain ⟨h34, hm⟩ := guard_inv hm
          refine JT.only (i := 7) (d := some 88) rfl (MV.ofQV (v := (SlV.sub ((Enc.arr 32 (Enc.int .u8))).sz s5 (0 : Int) (IntKind.wrap .i64 (((x6).length : Int) - (1 : Int)))).v) (QV.sliceV (Rdg.vw 3 rfl) Try.underlying55 tk_39 rfl rfl rfl h34)) rfl rfl rfl ?_
          rintro _ _ ⟨rfl, rfl⟩
          refine ⟨fun _ => ⟨[0, 1, 2, 3, 4, 5, 6, 7, 8], rfl, rfl⟩, ?_⟩
          obtain ⟨y35, hc36, hm⟩ := bind_inv hm
          refine JT.only (i := 8) (d := some 89) rfl (MV.call (Lo := []) (Lr := [Asr.of 5 (Enc.int .u8) (z31.v) y29, Asr.of 5 (Enc.int .u8) (z28.v) y26, Asr.vw (Enc.arr 32 (Enc.int .u8)) (s1.v) x2, Asr.vw (Enc.arr 32 (Enc.int .u8)) (s5.v) x6, Asr.blk b9 39 [Seg.of (Enc.arr 32 (Enc.int .u8)) x3], Asr.blk b16 39 [Seg.of (Enc.arr 32 (Enc.int .u8)) y14], Asr.blk b20 39 [Seg.of (Enc.arr 32 (Enc.int .u8)) y18], Asr.blk b22 39 [Seg.of (Enc.arr 32 (Enc.int .u8)) d24], Asr.blk b23 39 [Seg.of (Enc.arr 32 (Enc.int .u8)) d25]]) (ih ((SlV.sub ((Enc.arr 32 (Enc.int .u8))).sz s1 (0 : Int) y11)) ((SlV.sub ((Enc.arr 32 (Enc.int .u8))).sz s5 (0 : Int) (IntKind.wrap .i64 (((x6).length : Int) - (1 : Int))))) ((subL x2 (0 : Int) y11)) (x3) (x4) ((subL x6 (0 : Int) (IntKind.wrap .i64 (((x6).length : Int) - (1 : Int))))) _ hc36) rfl Try.func53 rfl rfl rfl [] [0, 1, 2, 3, 4, 5, 6, 7, 8] rfl rfl rfl ⟨((Drv.vw 2 rfl).subV h13), ⟨((Drv.vw 3 rfl).subV h34), trivial⟩⟩) rfl rfl rfl ?_
          rintro _ _ ⟨_, ⟨rfl, rfl⟩, rfl⟩
          refine ⟨fun _ => ⟨[0, 1, 2, 3, 4, 5, 6, 7, 8], rfl, rfl⟩, ?_⟩
          refine JT.only (i := 9) (d := some 8) rfl (MV.ofQV (v := .bool y35) (QV.assign rfl)) rfl rfl rfl ?_
          rintro _ _ ⟨rfl, rfl⟩
          refine ⟨fun _ => ⟨[0, 1, 2, 3, 4, 5, 6, 7, 8], rfl, rfl⟩, ?_⟩
          refine JT.nil ?_
          refine QJ.then_normal ?_
          refine JC.ret ?_
          refine QJ.then_ret ?_
          obtain rfl := Option.some.inj hm
          exact QJ.body (vs := [.bool y35]) (.inl rfl) rfl (ResVs.cons (ResV.tmp rfl) ResVs.nil) [] rfl rfl (.inr trivial) ⟨rfl, rfl⟩
        ·
          refine JC.condF' rfl (decide_eq_false h33) ?_
          refine JC.skip ?_
          refine QJ.then_normal ?_
          refine JC.seq ?_
          refine JC.regionT [Asr.of 5 (Enc.int .u8) (z31.v) y29, Asr.of 5 (Enc.int .u8) (z28.v) y26, Asr.vw (Enc.arr 32 (Enc.int .u8)) (s1.v) x2, Asr.vw (Enc.arr 32 (Enc.int .u8)) (s5.v) x6, Asr.blk b9 39 [Seg.of (Enc.arr 32 (Enc.int .u8)) x3], Asr.blk b16 39 [Seg.of (Enc.arr 32 (Enc.int .u8)) y14], Asr.blk b20 39 [Seg.of (Enc.arr 32 (Enc.int .u8)) y18], Asr.blk b22 39 [Seg.of (Enc.arr 32 (Enc.int .u8)) d24], Asr.blk b23 39 [Seg.of (Enc.arr 32 (Enc.int .u8)) d25]] (fun t => false) [(0, true), (1, true), (2, true), (3, true), (4, true), (5, true), (6, true), (7, true), (8, false), (9, false), (10, false), (11, false)] (by kernel_rfl) (by kernel_rfl) (by kernel_rfl) rfl (fun hsel => ?_)
          refine JT.take (i := 0) (v := s1.v) hsel rfl (QV.move rfl) rfl rfl rfl [0, 1, 2, 3, 4, 5, 6, 7, 8] rfl rfl ?_
          refine JT.take (i := 1) (v := .int .i64 y11) hsel rfl (QV.move rfl) rfl rfl rfl [0, 1, 2, 3, 4, 5, 6, 7, 8] rfl rfl ?_
          refine JT.take (i := 2) (v := (SlV.sub ((Enc.arr 32 (Enc.int .u8))).sz s1 y11 ((x2).length : Int)).v) hsel rfl (QV.sliceV (Rdg.vw 2 rfl) Try.underlying55 tk_39 rfl rfl rfl h17) rfl rfl rfl [0, 1, 2, 3, 4, 5, 6, 7, 8] rfl rfl ?_
          refine JT.take (i := 3) (v := .agg (((Enc.arr 32 (Enc.int .u8))).enc x3).toArray) hsel rfl (QV.eq (QV.loadN (ss := [Seg.of (Enc.arr 32 (Enc.int .u8)) x3]) 4 0 1 rfl tk_39 rfl rfl rfl rfl) rfl) rfl rfl rfl [0, 1, 2, 3, 4, 5, 6, 7, 8] rfl rfl ?_
          refine JT.take (i := 4) (v := .int .i64 x4) hsel rfl (QV.move rfl) rfl rfl rfl [0, 1, 2, 3, 4, 5, 6, 7, 8] rfl rfl ?_
          refine JT.take (i := 5) (v := .int .i64 y11) hsel rfl (QV.move rfl) rfl rfl rfl [0, 1, 2, 3, 4, 5, 6, 7, 8] rfl rfl ?_
          refine JT.take (i := 6) (v := .int .i64 (IntKind.wrap .i64 (x4 - y11))) hsel rfl (QV.sub rfl rfl) rfl rfl rfl [0, 1, 2, 3, 4, 5, 6, 7, 8] rfl rfl ?_
          refine JT.take (i := 7) (v := s5.v) hsel rfl (QV.move rfl) rfl rfl rfl [0, 1, 2, 3, 4, 5, 6, 7, 8] rfl rfl ?_
          refine JT.only (i := 8) (d := some 98) rfl (MV.ofQV (v := .int .i64 (IntKind.wrap .i64 (((x6).length : Int) - (1 : Int)))) (QV.move rfl)) rfl rfl rfl ?_
          rintro _ _ ⟨rfl, rfl⟩
          refine ⟨fun _ => ⟨[0, 1, 2, 3, 4, 5, 6, 7, 8], rfl, rfl⟩, ?_⟩
          obtain ⟨h37, hm⟩ := guard_inv hm
          refine JT.only (i := 9) (d := some 99) rfl (MV.ofQV (v := (SlV.sub ((Enc.arr 32 (Enc.int .u8))).sz s5 (0 : Int) (IntKind.wrap .i64 (((x6).length : Int) - (1 : Int)))).v) (QV.sliceV (Rdg.vw 3 rfl) Try.underlying55 tk_39 rfl rfl rfl h37)) rfl rfl rfl ?_
          rintro _ _ ⟨rfl, rfl⟩
          refine ⟨fun _ => ⟨[0, 1, 2, 3, 4, 5, 6, 7, 8], rfl, rfl⟩, ?_⟩
          obtain ⟨y38, hc39, hm⟩ := bind_inv hm
          refine JT.only (i := 10) (d := some 100) rfl (MV.call (Lo := []) (Lr := [Asr.of 5 (Enc.int .u8) (z31.v) y29, Asr.of 5 (Enc.int .u8) (z28.v) y26, Asr.vw (Enc.arr 32 (Enc.int .u8)) (s1.v) x2, Asr.vw (Enc.arr 32 (Enc.int .u8)) (s5.v) x6, Asr.blk b9 39 [Seg.of (Enc.arr 32 (Enc.int .u8)) x3], Asr.blk b16 39 [Seg.of (Enc.arr 32 (Enc.int .u8)) y14], Asr.blk b20 39 [Seg.of (Enc.arr 32 (Enc.int .u8)) y18], Asr.blk b22 39 [Seg.of (Enc.arr 32 (Enc.int .u8)) d24], Asr.blk b23 39 [Seg.of (Enc.arr 32 (Enc.int .u8)) d25]]) (ih ((SlV.sub ((Enc.arr 32 (Enc.int .u8))).sz s1 y11 ((x2).length : Int))) ((SlV.sub ((Enc.arr 32 (Enc.int .u8))).sz s5 (0 : Int) (IntKind.wrap .i64 (((x6).length : Int) - (1 : Int))))) ((subL x2 y11 ((x2).length : Int))) (x3) ((IntKind.wrap .i64 (x4 - y11))) ((subL x6 (0 : Int) (IntKind.wrap .i64 (((x6).length : Int) - (1 : Int))))) _ hc39) rfl Try.func53 rfl rfl rfl [] [0, 1, 2, 3, 4, 5, 6, 7, 8] rfl rfl rfl ⟨((Drv.vw 2 rfl).subV h17), ⟨((Drv.vw 3 rfl).subV h37), trivial⟩⟩) rfl rfl rfl ?_
          rintro _ _ ⟨_, ⟨rfl, rfl⟩, rfl⟩
          refine ⟨fun _ => ⟨[0, 1, 2, 3, 4, 5, 6, 7, 8], rfl, rfl⟩, ?_⟩
          refine JT.only (i := 11) (d := some 8) rfl (MV.ofQV (v := .bool y38) (QV.assign rfl)) rfl rfl rfl ?_
          rintro _ _ ⟨rfl, rfl⟩
          refine ⟨fun _ => ⟨[0, 1, 2, 3, 4, 5, 6, 7, 8], rfl, rfl⟩, ?_⟩
          refine JT.nil ?_
          refine QJ.then_normal ?_
          refine JC.ret ?_
          obtain rfl := Option.some.inj hm
          exact QJ.body (vs := [.bool y38]) (.inl rfl) rfl (ResVs.cons (ResV.tmp rfl) ResVs.nil) [] rfl rfl (.inr trivial) ⟨rfl, rfl⟩
      ·
        refine JC.condT' rfl (congrArg Bool.not (decide_eq_false h32)) ?_
        refine JC.seq ?_
        refine JC.regionT [Asr.of 5 (Enc.int .u8) (z31.v) y29, Asr.of 5 (Enc.int .u8) (z28.v) y26, Asr.vw (Enc.arr 32 (Enc.int .u8)) (s1.v) x2, Asr.vw (Enc.arr 32 (Enc.int .u8)) (s5.v) x6, Asr.blk b9 39 [Seg.of (Enc.arr 32 (Enc.int .u8)) x3], Asr.blk b16 39 [Seg.of (Enc.arr 32 (Enc.int .u8)) y14], Asr.blk b20 39 [Seg.of (Enc.arr 32 (Enc.int .u8)) y18], Asr.blk b22 39 [Seg.of (Enc.arr 32 (Enc.int .u8)) d24], Asr.blk b23 39 [Seg.of (Enc.arr 32 (Enc.int .u8)) d25]] (fun t => false) [(0, true), (1, true), (3, true), (4, true), (2, false), (5, false), (6, false), (7, false)] (by kernel_rfl) (by kernel_rfl) (by kernel_rfl) rfl (fun hsel => ?_)
        refine JT.take (i := 0) (v := .agg (((Enc.arr 32 (Enc.int .u8))).enc y14).toArray) hsel rfl (QV.eq (QV.loadN (ss := [Seg.of (Enc.arr 32 (Enc.int .u8)) y14]) 5 0 1 rfl tk_39 rfl rfl rfl rfl) rfl) rfl rfl rfl [0, 1, 2, 3, 4, 5, 6, 7, 8] rfl rfl ?_
        refine JT.take (i := 1) (v := .agg (((Enc.arr 32 (Enc.int .u8))).enc y18).toArray) hsel rfl (QV.eq (QV.loadN (ss := [Seg.of (Enc.arr 32 (Enc.int .u8)) y18]) 6 0 1 rfl tk_39 rfl rfl rfl rfl) rfl) rfl rfl rfl [0, 1, 2, 3, 4, 5, 6, 7, 8] rfl rfl ?_
        refine JT.take (i := 3) (v := .agg (((Enc.arr 32 (Enc.int .u8))).enc d24).toArray) hsel rfl (QV.eq (QV.loadN (ss := [Seg.of (Enc.arr 32 (Enc.int .u8)) d24]) 7 0 1 rfl tk_39 rfl rfl rfl rfl) rfl) rfl rfl rfl [0, 1, 2, 3, 4, 5, 6, 7, 8] rfl rfl ?_
        refine JT.take (i := 4) (v := .agg (((Enc.arr 32 (Enc.int .u8))).enc d25).toArray) hsel rfl (QV.eq (QV.loadN (ss := [Seg.of (Enc.arr 32 (Enc.int .u8)) d25]) 8 0 1 rfl tk_39 rfl rfl rfl rfl) rfl) rfl rfl rfl [0, 1, 2, 3, 4, 5, 6, 7, 8] rfl rfl ?_
        obtain ⟨y40, hc41, hm⟩ := bind_inv hm
        refine JT.only (i := 2) (d := some 73) rfl (MV.call (Lo := []) (Lr := [Asr.of 5 (Enc.int .u8) (z31.v) y29, Asr.of 5 (Enc.int .u8) (z28.v) y26, Asr.vw (Enc.arr 32 (Enc.int .u8)) (s1.v) x2, Asr.vw (Enc.arr 32 (Enc.int .u8)) (s5.v) x6, Asr.blk b9 39 [Seg.of (Enc.arr 32 (Enc.int .u8)) x3], Asr.blk b16 39 [Seg.of (Enc.arr 32 (Enc.int .u8)) y14], Asr.blk b20 39 [Seg.of (Enc.arr 32 (Enc.int .u8)) y18], Asr.blk b22 39 [Seg.of (Enc.arr 32 (Enc.int .u8)) d24], Asr.blk b23 39 [Seg.of (Enc.arr 32 (Enc.int .u8)) d25]]) (F48.spec (y14) (y18) _ hc41) rfl Try.func48 rfl rfl rfl [] [0, 1, 2, 3, 4, 5, 6, 7, 8] rfl rfl rfl trivial) rfl rfl rfl ?_
        rintro _ _ ⟨_, ⟨rfl, rfl⟩, rfl⟩
        refine ⟨fun _ => ⟨[0, 1, 2, 3, 4, 5, 6, 7, 8], rfl, rfl⟩, ?_⟩
        obtain ⟨y42, hc43, hm⟩ := bind_inv hm
        refine JT.only (i := 5) (d := some 76) rfl (MV.call (Lo := []) (Lr := [Asr.of 5 (Enc.int .u8) (z31.v) y29, Asr.of 5 (Enc.int .u8) (z28.v) y26, Asr.vw (Enc.arr 32 (Enc.int .u8)) (s1.v) x2, Asr.vw (Enc.arr 32 (Enc.int .u8)) (s5.v) x6, Asr.blk b9 39 [Seg.of (Enc.arr 32 (Enc.int .u8)) x3], Asr.blk b16 39 [Seg.of (Enc.arr 32 (Enc.int .u8)) y14], Asr.blk b20 39 [Seg.of (Enc.arr 32 (Enc.int .u8)) y18], Asr.blk b22 39 [Seg.of (Enc.arr 32 (Enc.int .u8)) d24], Asr.blk b23 39 [Seg.of (Enc.arr 32 (Enc.int .u8)) d25]]) (F48.spec (d24) (d25) _ hc43) rfl Try.func48 rfl rfl rfl [] [0, 1, 2, 3, 4, 5, 6, 7, 8] rfl rfl rfl trivial) rfl rfl rfl ?_
        rintro _ _ ⟨_, ⟨rfl, rfl⟩, rfl⟩
        refine ⟨fun _ => ⟨[0, 1, 2, 3, 4, 5, 6, 7, 8], rfl, rfl⟩, ?_⟩
        refine JT.only (i := 6) (d := some 77) rfl (MV.ofQV (v := .bool (decide (y40 = y42))) (QV.eqlE (E := (Enc.arr 32 (Enc.int .u8))) (a := y40) (b := y42) zeq_39 (by kernel_rfl) rfl rfl)) rfl rfl rfl ?_
        rintro _ _ ⟨rfl, rfl⟩
        refine ⟨fun _ => ⟨[0, 1, 2, 3, 4, 5, 6, 7, 8], rfl, rfl⟩, ?_⟩
        refine JT.only (i := 7) (d := some 8) rfl (MV.ofQV (v := .bool (decide (y40 = y42))) (QV.assign rfl)) rfl rfl rfl ?_
        rintro _ _ ⟨rfl, rfl⟩
        refine ⟨fun _ => ⟨[0, 1, 2, 3, 4, 5, 6, 7, 8], rfl, rfl⟩, ?_⟩
        refine JT.nil ?_
        refine QJ.then_normal ?_
        refine JC.ret ?_
        refine QJ.then_ret ?_
        obtain rfl := Option.some.inj hm
        exact QJ.body (vs := [.bool (decide (y40 = y42))]) (.inl rfl) rfl (ResVs.cons (ResV.tmp rfl) ResVs.nil) [] rfl rfl (.inr trivial) ⟨rfl, rfl⟩
    ·
      rcases ite_inv hm with ⟨h44, hm⟩ | ⟨h44, hm⟩
      ·
        refine JC.condT' rfl (decide_eq_true h44) ?_
        refine JC.regionT [Asr.blk b23 39 [Seg.of (Enc.arr 32 (Enc.int .u8)) (gd x6 (IntKind.wrap .i64 (((x6).length : Int) - (1 : Int))))], Asr.blk b20 39 [Seg.of (Enc.arr 32 (Enc.int .u8)) y18], Asr.blk b16 39 [Seg.of (Enc.arr 32 (Enc.int .u8)) y14], Asr.blk b9 39 [Seg.of (Enc.arr 32 (Enc.int .u8)) x3], Asr.vw (Enc.arr 32 (Enc.int .u8)) (s1.v) x2, Asr.vw (Enc.arr 32 (Enc.int .u8)) (s5.v) x6] (fun t => false) [(0, true), (1, true), (2, true), (3, true), (4, false), (5, false), (6, false), (7, false)] (by kernel_rfl) (by kernel_rfl) (by kernel_rfl) rfl (fun hsel => ?_)
        refine JT.take (i := 0) (v := .agg (((Enc.arr 32 (Enc.int .u8))).enc x3).toArray) hsel rfl (QV.eq (QV.loadN (ss := [Seg.of (Enc.arr 32 (Enc.int .u8)) x3]) 3 0 1 rfl tk_39 rfl rfl rfl rfl) rfl) rfl rfl rfl [0, 2, 3, 4, 5, 6] rfl rfl ?_
        refine JT.take (i := 1) (v := .int .i64 x4) hsel rfl (QV.move rfl) rfl rfl rfl [0, 2, 3, 4, 5, 6] rfl rfl ?_
        refine JT.take (i := 2) (v := .int .i64 y11) hsel rfl (QV.move rfl) rfl rfl rfl [0, 2, 3, 4, 5, 6] rfl rfl ?_
        refine JT.take (i := 3) (v := s5.v) hsel rfl (QV.move rfl) rfl rfl rfl [0, 2, 3, 4, 5, 6] rfl rfl ?_
        refine JT.only (i := 4) (d := some 47) rfl (MV.ofQV (v := .int .i64 (IntKind.wrap .i64 (((x6).length : Int) - (1 : Int)))) (QV.move rfl)) rfl rfl rfl ?_
        rintro _ _ ⟨rfl, rfl⟩
        refine ⟨fun _ => ⟨[0, 2, 3, 4, 5, 6], rfl, rfl⟩, ?_⟩
        obtain ⟨h45, hm⟩ := guard_inv hm
        refine JT.only (i := 5) (d := some 48) rfl (MV.ofQV (v := (SlV.sub ((Enc.arr 32 (Enc.int .u8))).sz s5 (0 : Int) (IntKind.wrap .i64 (((x6).length : Int) - (1 : Int)))).v) (QV.sliceV (Rdg.vw 6 rfl) Try.underlying55 tk_39 rfl rfl rfl h45)) rfl rfl rfl ?_
        rintro _ _ ⟨rfl, rfl⟩
        refine ⟨fun _ => ⟨[0, 2, 3, 4, 5, 6], rfl, rfl⟩, ?_⟩
        obtain ⟨y46, hc47, hm⟩ := bind_inv hm
        refine JT.only (i := 6) (d := some 49) rfl (MV.call (Lo := []) (Lr := [Asr.blk b23 39 [Seg.of (Enc.arr 32 (Enc.int .u8)) (gd x6 (IntKind.wrap .i64 (((x6).length : Int) - (1 : Int))))], Asr.blk b22 39 [Seg.of (Enc.arr 32 (Enc.int .u8)) (gd x6 (IntKind.wrap .i64 (((x6).length : Int) - (1 : Int))))], Asr.blk b20 39 [Seg.of (Enc.arr 32 (Enc.int .u8)) y18], Asr.blk b16 39 [Seg.of (Enc.arr 32 (Enc.int .u8)) y14], Asr.blk b9 39 [Seg.of (Enc.arr 32 (Enc.int .u8)) x3], Asr.vw (Enc.arr 32 (Enc.int .u8)) (s1.v) x2, Asr.vw (Enc.arr 32 (Enc.int .u8)) (s5.v) x6]) (F52.spec ((SlV.sub ((Enc.arr 32 (Enc.int .u8))).sz s5 (0 : Int) (IntKind.wrap .i64 (((x6).length : Int) - (1 : Int))))) (x3) (x4) (y11) ((subL x6 (0 : Int) (IntKind.wrap .i64 (((x6).length : Int) - (1 : Int))))) _ hc47) rfl Try.func52 rfl rfl rfl [] [0, 1, 2, 3, 4, 5, 6] rfl rfl rfl ⟨((Drv.vw 6 rfl).subV h45), trivial⟩) rfl rfl rfl ?_
        rintro _ _ ⟨_, ⟨rfl, rfl⟩, rfl⟩
        refine ⟨fun _ => ⟨[0, 2, 3, 4, 5, 6], rfl, rfl⟩, ?_⟩
        refine JT.only (i := 7) (d := none) rfl (MV.store (ss := [Seg.of (Enc.arr 32 (Enc.int .u8)) (gd x6 (IntKind.wrap .i64 (((x6).length : Int) - (1 : Int))))]) 1 0 1 [Seg.of (Enc.arr 32 (Enc.int .u8)) y46] rfl tk_39 rfl rfl rfl rfl (fun w hs => ⟨rfl, one_of _ _, trivial⟩)) rfl rfl rfl ?_
        rintro _ _ ⟨rfl, rfl⟩
        refine ⟨fun _ => ⟨[0, 2, 3, 4, 5, 6], rfl, rfl⟩, ?_⟩
        refine JT.grow [Asr.blk b23 39 [Seg.of (Enc.arr 32 (Enc.int .u8)) (gd x6 (IntKind.wrap .i64 (((x6).length : Int) - (1 : Int))))], Asr.blk b22 39 [Seg.of (Enc.arr 32 (Enc.int .u8)) y46], Asr.blk b20 39 [Seg.of (Enc.arr 32 (Enc.int .u8)) y18], Asr.blk b16 39 [Seg.of (Enc.arr 32 (Enc.int .u8)) y14], Asr.blk b9 39 [Seg.of (Enc.arr 32 (Enc.int .u8)) x3], Asr.vw (Enc.arr 32 (Enc.int .u8)) (s1.v) x2, Asr.vw (Enc.arr 32 (Enc.int .u8)) (s5.v) x6] [0, 2, 3, 4, 5, 6] rfl rfl ?_
        refine JT.nil ?_
        exact QJ.cut_normal ((y46, (gd x6 (IntKind.wrap .i64 (((x6).length : Int) - (1 : Int))))), ()) hm [5, 6, 4, 3, 2, 1, 0] (by exact ⟨rfl, rfl, rfl, rfl, rfl, rfl, rfl, rfl, rfl, rfl, trivial⟩) rfl rfl
      ·
        refine JC.condF' rfl (decide_eq_false h44) ?_
        refine JC.regionT [Asr.blk b22 39 [Seg.of (Enc.arr 32 (Enc.int .u8)) (gd x6 (IntKind.wrap .i64 (((x6).length : Int) - (1 : Int))))], Asr.blk b20 39 [Seg.of (Enc.arr 32 (Enc.int .u8)) y18], Asr.blk b16 39 [Seg.of (Enc.arr 32 (Enc.int .u8)) y14], Asr.blk b9 39 [Seg.of (Enc.arr 32 (Enc.int .u8)) x3], Asr.vw (Enc.arr 32 (Enc.int .u8)) (s1.v) x2, Asr.vw (Enc.arr 32 (Enc.int .u8)) (s5.v) x6] (fun t => false) [(0, true), (1, true), (2, true), (3, true), (4, true), (5, true), (6, true), (7, true), (8, true), (9, false), (10, false), (11, false), (12, false)] (by kernel_rfl) (by kernel_rfl) (by kernel_rfl) rfl (fun hsel => ?_)
        refine JT.take (i := 0) (v := .agg (((Enc.arr 32 (Enc.int .u8))).enc x3).toArray) hsel rfl (QV.eq (QV.loadN (ss := [Seg.of (Enc.arr 32 (Enc.int .u8)) x3]) 3 0 1 rfl tk_39 rfl rfl rfl rfl) rfl) rfl rfl rfl [1, 2, 3, 4, 5, 6] rfl rfl ?_
        refine JT.take (i := 1) (v := .int .i64 x4) hsel rfl (QV.move rfl) rfl rfl rfl [1, 2, 3, 4, 5, 6] rfl rfl ?_
        refine JT.take (i := 2) (v := .int .i64 y11) hsel rfl (QV.move rfl) rfl rfl rfl [1, 2, 3, 4, 5, 6] rfl rfl ?_
        refine JT.take (i := 3) (v := .int .i64 (IntKind.wrap .i64 (x4 - y11))) hsel rfl (QV.sub rfl rfl) rfl rfl rfl [1, 2, 3, 4, 5, 6] rfl rfl ?_
        refine JT.take (i := 4) (v := s1.v) hsel rfl (QV.move rfl) rfl rfl rfl [1, 2, 3, 4, 5, 6] rfl rfl ?_
        refine JT.take (i := 5) (v := .int .i64 ((x2).length : Int)) hsel rfl (QV.len (Rdg.vw 4 rfl) Try.underlying55 rfl) rfl rfl rfl [1, 2, 3, 4, 5, 6] rfl rfl ?_
        refine JT.take (i := 6) (v := .int .i64 y11) hsel rfl (QV.move rfl) rfl rfl rfl [1, 2, 3, 4, 5, 6] rfl rfl ?_
        refine JT.take (i := 7) (v := .int .i64 (IntKind.wrap .i64 (((x2).length : Int) - y11))) hsel rfl (QV.sub rfl rfl) rfl rfl rfl [1, 2, 3, 4, 5, 6] rfl rfl ?_
        refine JT.take (i := 8) (v := s5.v) hsel rfl (QV.move rfl) rfl rfl rfl [1, 2, 3, 4, 5, 6] rfl rfl ?_
        refine JT.only (i := 9) (d := some 59) rfl (MV.ofQV (v := .int .i64 (IntKind.wrap .i64 (((x6).length : Int) - (1 : Int)))) (QV.move rfl)) rfl rfl rfl ?_
        rintro _ _ ⟨rfl, rfl⟩
        refine ⟨fun _ => ⟨[1, 2, 3, 4, 5, 6], rfl, rfl⟩, ?_⟩
        obtain ⟨h48, hm⟩ := guard_inv hm
        refine JT.only (i := 10) (d := some 60) rfl (MV.ofQV (v := (SlV.sub ((Enc.arr 32 (Enc.int .u8))).sz s5 (0 : Int) (IntKind.wrap .i64 (((x6).length : Int) - (1 : Int)))).v) (QV.sliceV (Rdg.vw 6 rfl) Try.underlying55 tk_39 rfl rfl rfl h48)) rfl rfl rfl ?_
        rintro _ _ ⟨rfl, rfl⟩
        refine ⟨fun _ => ⟨[1, 2, 3, 4, 5, 6], rfl, rfl⟩, ?_⟩
        obtain ⟨y49, hc50, hm⟩ := bind_inv hm
        refine JT.only (i := 11) (d := some 61) rfl (MV.call (Lo := []) (Lr := [Asr.blk b23 39 [Seg.of (Enc.arr 32 (Enc.int .u8)) (gd x6 (IntKind.wrap .i64 (((x6).length : Int) - (1 : Int))))], Asr.blk b22 39 [Seg.of (Enc.arr 32 (Enc.int .u8)) (gd x6 (IntKind.wrap .i64 (((x6).length : Int) - (1 : Int))))], Asr.blk b20 39 [Seg.of (Enc.arr 32 (Enc.int .u8)) y18], Asr.blk b16 39 [Seg.of (Enc.arr 32 (Enc.int .u8)) y14], Asr.blk b9 39 [Seg.of (Enc.arr 32 (Enc.int .u8)) x3], Asr.vw (Enc.arr 32 (Enc.int .u8)) (s1.v) x2, Asr.vw (Enc.arr 32 (Enc.int .u8)) (s5.v) x6]) (F52.spec ((SlV.sub ((Enc.arr 32 (Enc.int .u8))).sz s5 (0 : Int) (IntKind.wrap .i64 (((x6).length : Int) - (1 : Int))))) (x3) ((IntKind.wrap .i64 (x4 - y11))) ((IntKind.wrap .i64 (((x2).length : Int) - y11))) ((subL x6 (0 : Int) (IntKind.wrap .i64 (((x6).length : Int) - (1 : Int))))) _ hc50) rfl Try.func52 rfl rfl rfl [] [0, 1, 2, 3, 4, 5, 6] rfl rfl rfl ⟨((Drv.vw 6 rfl).subV h48), trivial⟩) rfl rfl rfl ?_
        rintro _ _ ⟨_, ⟨rfl, rfl⟩, rfl⟩
        refine ⟨fun _ => ⟨[1, 2, 3, 4, 5, 6], rfl, rfl⟩, ?_⟩
        refine JT.only (i := 12) (d := none) rfl (MV.store (ss := [Seg.of (Enc.arr 32 (Enc.int .u8)) (gd x6 (IntKind.wrap .i64 (((x6).length : Int) - (1 : Int))))]) 0 0 1 [Seg.of (Enc.arr 32 (Enc.int .u8)) y49] rfl tk_39 rfl rfl rfl rfl (fun w hs => ⟨rfl, one_of _ _, trivial⟩)) rfl rfl rfl ?_
        rintro _ _ ⟨rfl, rfl⟩
        refine ⟨fun _ => ⟨[1, 2, 3, 4, 5, 6], rfl, rfl⟩, ?_⟩
        refine JT.grow [Asr.blk b23 39 [Seg.of (Enc.arr 32 (Enc.int .u8)) y49], Asr.blk b22 39 [Seg.of (Enc.arr 32 (Enc.int .u8)) (gd x6 (IntKind.wrap .i64 (((x6).length : Int) - (1 : Int))))], Asr.blk b20 39 [Seg.of (Enc.arr 32 (Enc.int .u8)) y18], Asr.blk b16 39 [Seg.of (Enc.arr 32 (Enc.int .u8)) y14], Asr.blk b9 39 [Seg.of (Enc.arr 32 (Enc.int .u8)) x3], Asr.vw (Enc.arr 32 (Enc.int .u8)) (s1.v) x2, Asr.vw (Enc.arr 32 (Enc.int .u8)) (s5.v) x6] [1, 2, 3, 4, 5, 6] rfl rfl ?_
        refine JT.nil ?_
        exact QJ.cut_normal (((gd x6 (IntKind.wrap .i64 (((x6).length : Int) - (1 : Int)))), y49), ()) hm [5, 6, 4, 3, 2, 1, 0] (by exact ⟨rfl, rfl, rfl, rfl, rfl, rfl, rfl, rfl, rfl, rfl, trivial⟩) rfl rfl
theorem F53.specF : ∀ (n : Nat) (s1 : SlV) (s5 : SlV) (x2 : List (Arr Int 32)) (x3 : (Arr Int 32)) (x4 : Int) (x6 : List (Arr Int 32)) (r : Bool) (_hm : F53.mF n x2 x3 x4 x6 = some r), Ctr Try.prog false 53 [s1.v, .agg (((Enc.arr 32 (Enc.int .u8))).enc x3).toArray, .int .i64 x4, s5.v] [Asr.vw (Enc.arr 32 (Enc.int .u8)) (s1.v) x2, Asr.vw (Enc.arr 32 (Enc.int .u8)) (s5.v) x6] (fun v L' => v = .bool r ∧ L' = [])
  | 0, s1, s5, x2, x3, x4, x6, r, hm => by cases hm
  | n + 1, s1, s5, x2, x3, x4, x6, r, hm => F53.specG (F53.mF n) (F53.specF n) s1 s5 x2 x3 x4 x6 r hm
theorem F53.spec (s1 : SlV) (s5 : SlV) (x2 : List (Arr Int 32)) (x3 : (Arr Int 32)) (x4 : Int) (x6 : List (Arr Int 32)) (r : Bool) (hm : F53.m x2 x3 x4 x6 = some r) :
    Ctr Try.prog false 53 [s1.v, .agg (((Enc.arr 32 (Enc.int .u8))).enc x3).toArray, .int .i64 x4, s5.v] [Asr.vw (Enc.arr 32 (Enc.int .u8)) (s1.v) x2, Asr.vw (Enc.arr 32 (Enc.int .u8)) (s5.v) x6] (fun v L' => v = .bool r ∧ L' = []) := by
  obtain ⟨n, hn⟩ := evt_some hm
  exact F53.specF n s1 s5 x2 x3 x4 x6 r hn

/-! ### 15: drogher/drogherlaw21.MerkleBinds -/
noncomputable def F15.j1 (x2 : List (Arr Int 32)) (x3 : (Arr Int 32)) (x4 : Int) (x6 : List (Arr Int 32)) (y21 : ((Arr Int 32) × Int))  : Option Bool :=
  (if y21.2 = (0 : Int) then ((F45.m (x2)).bind fun y26 => ((F44.m (y26)).bind fun y29 => (if y21.1 = y29 then (if 0 ≤ x4 ∧ x4 < ((x2).length : Int) then (if x3 = (gd x2 x4) then ((F41.m).bind fun y34 => some y34) else ((F53.m (x2) (x3) (x4) (x6)).bind fun y36 => (if y36 = true then ((F41.m).bind fun y39 => some y39) else some false))) else none) else ((F41.m).bind fun y41 => some y41)))) else ((F41.m).bind fun y43 => some y43))
noncomputable def F15.m (x2 : List (Arr Int 32)) (x3 : (Arr Int 32)) (x4 : Int) (x6 : List (Arr Int 32)) : Option Bool :=
  (if (100 : Int) < ((x2).length : Int) then ((F41.m).bind fun y10 => some y10) else (if x4 < (0 : Int) then ((F41.m).bind fun y13 => some y13) else (if ((x2).length : Int) ≤ x4 then ((F41.m).bind fun y16 => some y16) else ((F45.m (x6)).bind fun y18 => ((F49.m (x3) (x4) (((x2).length : Int)) (y18)).bind fun y21 => F15.j1 x2 x3 x4 x6 y21)))))
set_option maxRecDepth 100000 in
set_option maxHeartbeats 4000000 in
theorem F15.spec (s1 : SlV) (s5 : SlV) (x2 : List (Arr Int 32)) (x3 : (Arr Int 32)) (x4 : Int) (x6 : List (Arr Int 32)) (r : Bool) (hm : F15.m x2 x3 x4 x6 = some r) :
    Ctr Try.prog false 15 [s1.v, .agg (((Enc.arr 32 (Enc.int .u8))).enc x3).toArray, .int .i64 x4, s5.v] [Asr.vw (Enc.arr 32 (Enc.int .u8)) (s1.v) x2, Asr.vw (Enc.arr 32 (Enc.int .u8)) (s5.v) x6] (fun v L' => v = .bool r ∧ L' = []) := by
  refine Ctr.intro (n := 61) (env := [(0, s1.v), (1, .agg (((Enc.arr 32 (Enc.int .u8))).enc x3).toArray), (2, .int .i64 x4), (3, s5.v)]) Try.func15 rfl rfl rfl rfl (fun c => ?_)
  unfold F15.m at hm
  refine JC.seq ?_
  refine JC.region ?_
  refine JL.mv (d := some 5) (MV.box [Seg.of (Enc.arr 32 (Enc.int .u8)) x3] rfl (fun w hs => rfl)) rfl rfl rfl ?_
  rintro _ _ ⟨b8, rfl, rfl⟩
  refine JL.val (v := .bool false) (QV.assign rfl) rfl rfl rfl ?_
  refine JL.nil ?_
  refine QJ.then_normal ?_
  refine JC.seq ?_
  refine JC.seq ?_
  refine JC.region ?_
  refine JL.val (v := s1.v) (QV.move rfl) rfl rfl rfl ?_
  refine JL.val (v := .int .i64 ((x2).length : Int)) (QV.len (Rdg.vw 1 rfl) Try.underlying55 rfl) rfl rfl rfl ?_
  refine JL.val (v := .bool (decide ((100 : Int) < ((x2).length : Int)))) (QV.gtr rfl rfl) rfl rfl rfl ?_
  rcases ite_inv hm with ⟨h9, hm⟩ | ⟨h9, hm⟩
  ·
    refine JL.val (v := .bool true) (QV.eq (QV.move rfl) (congrArg Value.bool (decide_eq_true h9))) rfl rfl rfl ?_
    refine JL.skip (d := some 15) rfl rfl rfl ?_
    refine JL.skip (d := some 16) rfl rfl rfl ?_
    refine JL.val (v := .bool true) (QV.pickT rfl rfl) rfl rfl rfl ?_
    refine JL.val (v := .bool true) (QV.move rfl) rfl rfl rfl ?_
    refine JL.skip (d := some 19) rfl rfl rfl ?_
    refine JL.skip (d := some 20) rfl rfl rfl ?_
    refine JL.skip (d := some 21) rfl rfl rfl ?_
    refine JL.skip (d := some 22) rfl rfl rfl ?_
    refine JL.val (v := .bool true) (QV.pickT rfl rfl) rfl rfl rfl ?_
    refine JL.nil ?_
    refine QJ.then_normal ?_
    refine JC.condT rfl ?_
    refine JC.seq ?_
    refine JC.region ?_
    obtain ⟨y10, hc11, hm⟩ := bind_inv hm
    refine JL.mv (d := some 24) (MV.call (Lo := []) (Lr := [Asr.blk b8 39 [Seg.of (Enc.arr 32 (Enc.int .u8)) x3], Asr.vw (Enc.arr 32 (Enc.int .u8)) (s1.v) x2, Asr.vw (Enc.arr 32 (Enc.int .u8)) (s5.v) x6]) (F41.spec _ hc11) rfl Try.func41 rfl rfl rfl [] [0, 1, 2] rfl rfl rfl trivial) rfl rfl rfl ?_
    rintro _ _ ⟨_, ⟨rfl, rfl⟩, rfl⟩
    refine JL.val (v := .bool y10) (QV.assign rfl) rfl rfl rfl ?_
    refine JL.nil ?_
    refine QJ.then_normal ?_
    refine JC.ret ?_
    refine QJ.then_ret ?_
    obtain rfl := Option.some.inj hm
    exact QJ.body (vs := [.bool y10]) (.inl rfl) rfl (ResVs.cons (ResV.tmp rfl) ResVs.nil) [] rfl rfl (.inr trivial) ⟨rfl, rfl⟩
  ·
    refine JL.val (v := .bool false) (QV.eq (QV.move rfl) (congrArg Value.bool (decide_eq_false h9))) rfl rfl rfl ?_
    refine JL.val (v := .int .i64 x4) (QV.move rfl) rfl rfl rfl ?_
    refine JL.val (v := .bool (decide (x4 < (0 : Int)))) (QV.lss rfl rfl) rfl rfl rfl ?_
    refine JL.val (v := .bool (decide (x4 < (0 : Int)))) (QV.pickF rfl rfl) rfl rfl rfl ?_
    rcases ite_inv hm with ⟨h12, hm⟩ | ⟨h12, hm⟩
    ·
      refine JL.val (v := .bool true) (QV.eq (QV.move rfl) (congrArg Value.bool (decide_eq_true h12))) rfl rfl rfl ?_
      refine JL.skip (d := some 19) rfl rfl rfl ?_
      refine JL.skip (d := some 20) rfl rfl rfl ?_
      refine JL.skip (d := some 21) rfl rfl rfl ?_
      refine JL.skip (d := some 22) rfl rfl rfl ?_
      refine JL.val (v := .bool true) (QV.pickT rfl rfl) rfl rfl rfl ?_
      refine JL.nil ?_
      refine QJ.then_normal ?_
      refine JC.condT rfl ?_
      refine JC.seq ?_
      refine JC.region ?_
      obtain ⟨y13, hc14, hm⟩ := bind_inv hm
      refine JL.mv (d := some 24) (MV.call (Lo := []) (Lr := [Asr.blk b8 39 [Seg.of (Enc.arr 32 (Enc.int .u8)) x3], Asr.vw (Enc.arr 32 (Enc.int .u8)) (s1.v) x2, Asr.vw (Enc.arr 32 (Enc.int .u8)) (s5.v) x6]) (F41.spec _ hc14) rfl Try.func41 rfl rfl rfl [] [0, 1, 2] rfl rfl rfl trivial) rfl rfl rfl ?_
      rintro _ _ ⟨_, ⟨rfl, rfl⟩, rfl⟩
      refine JL.val (v := .bool y13) (QV.assign rfl) rfl rfl rfl ?_
      refine JL.nil ?_
      refine QJ.then_normal ?_
      refine JC.ret ?_
      refine QJ.then_ret ?_
      obtain rfl := Option.some.inj hm
      exact QJ.body (vs := [.bool y13]) (.inl rfl) rfl (ResVs.cons (ResV.tmp rfl) ResVs.nil) [] rfl rfl (.inr trivial) ⟨rfl, rfl⟩
    ·
      refine JL.val (v := .bool false) (QV.eq (QV.move rfl) (congrArg Value.bool (decide_eq_false h12))) rfl rfl rfl ?_
      refine JL.val (v := .int .i64 x4) (QV.move rfl) rfl rfl rfl ?_
      refine JL.val (v := s1.v) (QV.move rfl) rfl rfl rfl ?_
      refine JL.val (v := .int .i64 ((x2).length : Int)) (QV.len (Rdg.vw 1 rfl) Try.underlying55 rfl) rfl rfl rfl ?_
      refine JL.val (v := .bool (decide (((x2).length : Int) ≤ x4))) (QV.geq rfl rfl) rfl rfl rfl ?_
      refine JL.val (v := .bool (decide (((x2).length : Int) ≤ x4))) (QV.pickF rfl rfl) rfl rfl rfl ?_
      refine JL.nil ?_
      refine QJ.then_normal ?_
      rcases ite_inv hm with ⟨h15, hm⟩ | ⟨h15, hm⟩
      ·
        refine JC.condT' rfl (decide_eq_true h15) ?_
        refine JC.seq ?_
        refine JC.region ?_
        obtain ⟨y16, hc17, hm⟩ := bind_inv hm
        refine JL.mv (d := some 24) (MV.call (Lo := []) (Lr := [Asr.blk b8 39 [Seg.of (Enc.arr 32 (Enc.int .u8)) x3], Asr.vw (Enc.arr 32 (Enc.int .u8)) (s1.v) x2, Asr.vw (Enc.arr 32 (Enc.int .u8)) (s5.v) x6]) (F41.spec _ hc17) rfl Try.func41 rfl rfl rfl [] [0, 1, 2] rfl rfl rfl trivial) rfl rfl rfl ?_
        rintro _ _ ⟨_, ⟨rfl, rfl⟩, rfl⟩
        refine JL.val (v := .bool y16) (QV.assign rfl) rfl rfl rfl ?_
        refine JL.nil ?_
        refine QJ.then_normal ?_
        refine JC.ret ?_
        refine QJ.then_ret ?_
        obtain rfl := Option.some.inj hm
        exact QJ.body (vs := [.bool y16]) (.inl rfl) rfl (ResVs.cons (ResV.tmp rfl) ResVs.nil) [] rfl rfl (.inr trivial) ⟨rfl, rfl⟩
      ·
        refine JC.condF' rfl (decide_eq_false h15) ?_
        refine JC.skip ?_
        refine QJ.then_normal ?_
        refine JC.seq ?_
        obtain ⟨y18, hc19, hm⟩ := bind_inv hm
        obtain ⟨y21, hc22, hm⟩ := bind_inv hm
        refine JC.cutK (Y := Unit × Nat) (fun y => match y with | (_, _) => F15.j1 x2 x3 x4 x6 y21 = some r) (fun y => match y with | (_, z24) => [(0, s1.v), (2, .int .i64 x4), (3, s5.v), (5, .pointer (some ⟨b8, 0, none⟩)), (9, .pointer (some ⟨z24, 0, none⟩)), (10, .int .i64 y21.2)]) (fun y => match y with | (_, z24) => [Asr.vw (Enc.arr 32 (Enc.int .u8)) (s1.v) x2, Asr.vw (Enc.arr 32 (Enc.int .u8)) (s5.v) x6, Asr.blk b8 39 [Seg.of (Enc.arr 32 (Enc.int .u8)) x3], Asr.blk z24 41 [Seg.of (Enc.arr 32 (Enc.int .u8)) y21.1]]) ?_ ?_
        ·
          rintro ⟨⟨⟩, z24⟩ hm
          unfold F15.j1 at hm
          show QJ _ _ [(0, s1.v), (2, .int .i64 x4), (3, s5.v), (5, .pointer (some ⟨b8, 0, none⟩)), (9, .pointer (some ⟨z24, 0, none⟩)), (10, .int .i64 y21.2)] [Asr.vw (Enc.arr 32 (Enc.int .u8)) (s1.v) x2, Asr.vw (Enc.arr 32 (Enc.int .u8)) (s5.v) x6, Asr.blk b8 39 [Seg.of (Enc.arr 32 (Enc.int .u8)) x3], Asr.blk z24 41 [Seg.of (Enc.arr 32 (Enc.int .u8)) y21.1]] _ _
          refine QJ.then_normal ?_
          refine JC.seq ?_
          refine JC.seq ?_
          refine JC.regionT [Asr.vw (Enc.arr 32 (Enc.int .u8)) (s1.v) x2, Asr.vw (Enc.arr 32 (Enc.int .u8)) (s5.v) x6, Asr.blk b8 39 [Seg.of (Enc.arr 32 (Enc.int .u8)) x3], Asr.blk z24 41 [Seg.of (Enc.arr 32 (Enc.int .u8)) y21.1]] (fun t => false) [(0, false), (1, false), (2, false), (3, true), (4, false), (5, false), (6, false), (7, false), (8, false), (9, false), (10, true), (11, true), (12, false), (13, false), (14, false), (15, false), (16, false)] (by kernel_rfl) (by kernel_rfl) (by kernel_rfl) rfl (fun hsel => ?_)
          refine JT.only (i := 0) (d := some 35) rfl (MV.ofQV (v := .int .i64 y21.2) (QV.move rfl)) rfl rfl rfl ?_
          rintro _ _ ⟨rfl, rfl⟩
          refine ⟨fun _ => ⟨[0, 1, 2, 3], rfl, rfl⟩, ?_⟩
          refine JT.only (i := 1) (d := some 36) rfl (MV.ofQV (v := .bool (!(decide (y21.2 = (0 : Int))))) (QV.neq rfl rfl)) rfl rfl rfl ?_
          rintro _ _ ⟨rfl, rfl⟩
          refine ⟨fun _ => ⟨[0, 1, 2, 3], rfl, rfl⟩, ?_⟩
          rcases ite_inv hm with ⟨h25, hm⟩ | ⟨h25, hm⟩
          ·
            refine JT.only (i := 2) (d := some 37) rfl (MV.ofQV (v := .bool false) (QV.eq (QV.move rfl) (congrArg Value.bool (congrArg Bool.not (decide_eq_true h25))))) rfl rfl rfl ?_
            rintro _ _ ⟨rfl, rfl⟩
            refine ⟨fun _ => ⟨[0, 1, 2, 3], rfl, rfl⟩, ?_⟩
            refine JT.take (i := 3) (v := .agg (((Enc.arr 32 (Enc.int .u8))).enc y21.1).toArray) hsel rfl (QV.eq (QV.loadN (ss := [Seg.of (Enc.arr 32 (Enc.int .u8)) y21.1]) 3 0 1 rfl tk_41 rfl rfl rfl rfl) rfl) rfl rfl rfl [0, 1, 2, 3] rfl rfl ?_
            refine JT.only (i := 4) (d := some 39) rfl (MV.ofQV (v := s1.v) (QV.move rfl)) rfl rfl rfl ?_
            rintro _ _ ⟨rfl, rfl⟩
            refine ⟨fun _ => ⟨[0, 1, 2, 3], rfl, rfl⟩, ?_⟩
            obtain ⟨y26, hc27, hm⟩ := bind_inv hm
            refine JT.only (i := 5) (d := some 40) rfl (MV.call (Lo := []) (Lr := [Asr.vw (Enc.arr 32 (Enc.int .u8)) (s1.v) x2, Asr.vw (Enc.arr 32 (Enc.int .u8)) (s5.v) x6, Asr.blk b8 39 [Seg.of (Enc.arr 32 (Enc.int .u8)) x3], Asr.blk z24 41 [Seg.of (Enc.arr 32 (Enc.int .u8)) y21.1]]) (F45.spec (s1) (x2) _ hc27) rfl Try.func45 rfl rfl rfl [] [0, 1, 2, 3] rfl rfl rfl ⟨(Drv.vw 0 rfl), trivial⟩) rfl rfl rfl ?_
            rintro _ _ ⟨_, ⟨z28, rfl, rfl⟩, rfl⟩
            refine ⟨fun _ => ⟨[1, 2, 3, 4], rfl, rfl⟩, ?_⟩
            refine JT.grow [Asr.of 41 (Enc.arr 32 (Enc.int .u8)) (z28.v) y26, Asr.vw (Enc.arr 32 (Enc.int .u8)) (s1.v) x2, Asr.vw (Enc.arr 32 (Enc.int .u8)) (s5.v) x6, Asr.blk b8 39 [Seg.of (Enc.arr 32 (Enc.int .u8)) x3], Asr.blk z24 41 [Seg.of (Enc.arr 32 (Enc.int .u8)) y21.1]] [1, 2, 3, 4] rfl rfl ?_
            obtain ⟨y29, hc30, hm⟩ := bind_inv hm
            refine JT.only (i := 6) (d := some 41) rfl (MV.call (Lo := []) (Lr := [Asr.of 41 (Enc.arr 32 (Enc.int .u8)) (z28.v) y26, Asr.vw (Enc.arr 32 (Enc.int .u8)) (s1.v) x2, Asr.vw (Enc.arr 32 (Enc.int .u8)) (s5.v) x6, Asr.blk b8 39 [Seg.of (Enc.arr 32 (Enc.int .u8)) x3], Asr.blk z24 41 [Seg.of (Enc.arr 32 (Enc.int .u8)) y21.1]]) (F44.spec (z28) (y26) _ hc30) rfl Try.func44 rfl rfl rfl [] [0, 1, 2, 3, 4] rfl rfl rfl ⟨(Drv.of 0 rfl), trivial⟩) rfl rfl rfl ?_
            rintro _ _ ⟨_, ⟨rfl, rfl⟩, rfl⟩
            refine ⟨fun _ => ⟨[0, 1, 2, 3, 4], rfl, rfl⟩, ?_⟩
            refine JT.only (i := 7) (d := some 42) rfl (MV.ofQV (v := .bool (!(decide (y21.1 = y29)))) (QV.neqE (E := (Enc.arr 32 (Enc.int .u8))) (a := y21.1) (b := y29) zeq_41 (by kernel_rfl) rfl rfl)) rfl rfl rfl ?_
            rintro _ _ ⟨rfl, rfl⟩
            refine ⟨fun _ => ⟨[0, 1, 2, 3, 4], rfl, rfl⟩, ?_⟩
            refine JT.only (i := 8) (d := some 43) rfl (MV.ofQV (v := .bool (!(decide (y21.1 = y29)))) (QV.pickF rfl rfl)) rfl rfl rfl ?_
            rintro _ _ ⟨rfl, rfl⟩
            refine ⟨fun _ => ⟨[0, 1, 2, 3, 4], rfl, rfl⟩, ?_⟩
            rcases ite_inv hm with ⟨h31, hm⟩ | ⟨h31, hm⟩
            ·
              refine JT.only (i := 9) (d := some 44) rfl (MV.ofQV (v := .bool false) (QV.eq (QV.move rfl) (congrArg Value.bool (congrArg Bool.not (decide_eq_true h31))))) rfl rfl rfl ?_
              rintro _ _ ⟨rfl, rfl⟩
              refine ⟨fun _ => ⟨[0, 1, 2, 3, 4], rfl, rfl⟩, ?_⟩
              refine JT.take (i := 10) (v := .agg (((Enc.arr 32 (Enc.int .u8))).enc x3).toArray) hsel rfl (QV.eq (QV.loadN (ss := [Seg.of (Enc.arr 32 (Enc.int .u8)) x3]) 3 0 1 rfl tk_39 rfl rfl rfl rfl) rfl) rfl rfl rfl [0, 1, 2, 3, 4] rfl rfl ?_
              refine JT.take (i := 11) (v := s1.v) hsel rfl (QV.move rfl) rfl rfl rfl [0, 1, 2, 3, 4] rfl rfl ?_
              refine JT.only (i := 12) (d := some 47) rfl (MV.ofQV (v := .int .i64 x4) (QV.move rfl)) rfl rfl rfl ?_
              rintro _ _ ⟨rfl, rfl⟩
              refine ⟨fun _ => ⟨[0, 1, 2, 3, 4], rfl, rfl⟩, ?_⟩
              obtain ⟨h32, hm⟩ := guard_inv hm
              refine JT.only (i := 13) (d := some 48) rfl (MV.ofQV (v := .pointer (some (elA (s1.v) (Int.toNat x4 * ((Enc.arr 32 (Enc.int .u8))).sz)))) (QV.indexA (Rdg.vw 1 rfl) Try.underlying55 tk_39 rfl rfl h32)) rfl rfl rfl ?_
              rintro _ _ ⟨rfl, rfl⟩
              refine ⟨fun _ => ⟨[0, 1, 2, 3, 4], rfl, rfl⟩, ?_⟩
              refine JT.only (i := 14) (d := some 49) rfl (MV.ofQV (v := .agg (((Enc.arr 32 (Enc.int .u8))).enc (gd x2 x4)).toArray) (QV.eq (QV.elN (Rdg.vw 1 rfl) tk_39 rfl h32) rfl)) rfl rfl rfl ?_
              rintro _ _ ⟨rfl, rfl⟩
              refine ⟨fun _ => ⟨[0, 1, 2, 3, 4], rfl, rfl⟩, ?_⟩
              refine JT.only (i := 15) (d := some 50) rfl (MV.ofQV (v := .bool (decide (x3 = (gd x2 x4)))) (QV.eqlE (E := (Enc.arr 32 (Enc.int .u8))) (a := x3) (b := (gd x2 x4)) zeq_39 (by kernel_rfl) rfl rfl)) rfl rfl rfl ?_
              rintro _ _ ⟨rfl, rfl⟩
              refine ⟨fun _ => ⟨[0, 1, 2, 3, 4], rfl, rfl⟩, ?_⟩
              refine JT.only (i := 16) (d := some 51) rfl (MV.ofQV (v := .bool (decide (x3 = (gd x2 x4)))) (QV.pickF rfl rfl)) rfl rfl rfl ?_
              rintro _ _ ⟨rfl, rfl⟩
              refine ⟨fun _ => ⟨[0, 1, 2, 3, 4], rfl, rfl⟩, ?_⟩
              refine JT.nil ?_
              refine QJ.then_normal ?_
              rcases ite_inv hm with ⟨h33, hm⟩ | ⟨h33, hm⟩
              ·
                refine JC.condT' rfl (decide_eq_true h33) ?_
                refine JC.seq ?_
                refine JC.region ?_
                obtain ⟨y34, hc35, hm⟩ := bind_inv hm
                refine JL.mv (d := some 52) (MV.call (Lo := []) (Lr := [Asr.of 41 (Enc.arr 32 (Enc.int .u8)) (z28.v) y26, Asr.vw (Enc.arr 32 (Enc.int .u8)) (s1.v) x2, Asr.vw (Enc.arr 32 (Enc.int .u8)) (s5.v) x6, Asr.blk b8 39 [Seg.of (Enc.arr 32 (Enc.int .u8)) x3], Asr.blk z24 41 [Seg.of (Enc.arr 32 (Enc.int .u8)) y21.1]]) (F41.spec _ hc35) rfl Try.func41 rfl rfl rfl [] [0, 1, 2, 3, 4] rfl rfl rfl trivial) rfl rfl rfl ?_
                rintro _ _ ⟨_, ⟨rfl, rfl⟩, rfl⟩
                refine JL.val (v := .bool y34) (QV.assign rfl) rfl rfl rfl ?_
                refine JL.nil ?_
                refine QJ.then_normal ?_
                refine JC.ret ?_
                refine QJ.then_ret ?_
                obtain rfl := Option.some.inj hm
                exact QJ.body (vs := [.bool y34]) (.inl rfl) rfl (ResVs.cons (ResV.tmp rfl) ResVs.nil) [] rfl rfl (.inr trivial) ⟨rfl, rfl⟩
              ·
                refine JC.condF' rfl (decide_eq_false h33) ?_
                refine JC.skip ?_
                refine QJ.then_normal ?_
                refine JC.seq ?_
                refine JC.region ?_
                refine JL.val (v := s1.v) (QV.move rfl) rfl rfl rfl ?_
                refine JL.val (v := .agg (((Enc.arr 32 (Enc.int .u8))).enc x3).toArray) (QV.eq (QV.loadN (ss := [Seg.of (Enc.arr 32 (Enc.int .u8)) x3]) 3 0 1 rfl tk_39 rfl rfl rfl rfl) rfl) rfl rfl rfl ?_
                refine JL.val (v := .int .i64 x4) (QV.move rfl) rfl rfl rfl ?_
                refine JL.val (v := s5.v) (QV.move rfl) rfl rfl rfl ?_
                obtain ⟨y36, hc37, hm⟩ := bind_inv hm
                refine JL.mv (d := some 57) (MV.call (Lo := []) (Lr := [Asr.of 41 (Enc.arr 32 (Enc.int .u8)) (z28.v) y26, Asr.vw (Enc.arr 32 (Enc.int .u8)) (s1.v) x2, Asr.vw (Enc.arr 32 (Enc.int .u8)) (s5.v) x6, Asr.blk b8 39 [Seg.of (Enc.arr 32 (Enc.int .u8)) x3], Asr.blk z24 41 [Seg.of (Enc.arr 32 (Enc.int .u8)) y21.1]]) (F53.spec (s1) (s5) (x2) (x3) (x4) (x6) _ hc37) rfl Try.func53 rfl rfl rfl [] [0, 1, 2, 3, 4] rfl rfl rfl ⟨(Drv.vw 1 rfl), ⟨(Drv.vw 2 rfl), trivial⟩⟩) rfl rfl rfl ?_
                rintro _ _ ⟨_, ⟨rfl, rfl⟩, rfl⟩
                rcases ite_inv hm with ⟨h38, hm⟩ | ⟨h38, hm⟩
                ·
                  refine JL.val (v := .bool true) (QV.eq (QV.move rfl) (congrArg Value.bool h38)) rfl rfl rfl ?_
                  obtain ⟨y39, hc40, hm⟩ := bind_inv hm
                  refine JL.mv (d := some 59) (MV.call (Lo := []) (Lr := [Asr.of 41 (Enc.arr 32 (Enc.int .u8)) (z28.v) y26, Asr.vw (Enc.arr 32 (Enc.int .u8)) (s1.v) x2, Asr.vw (Enc.arr 32 (Enc.int .u8)) (s5.v) x6, Asr.blk b8 39 [Seg.of (Enc.arr 32 (Enc.int .u8)) x3], Asr.blk z24 41 [Seg.of (Enc.arr 32 (Enc.int .u8)) y21.1]]) (F41.spec _ hc40) rfl Try.func41 rfl rfl rfl [] [0, 1, 2, 3, 4] rfl rfl rfl trivial) rfl rfl rfl ?_
                  rintro _ _ ⟨_, ⟨rfl, rfl⟩, rfl⟩
                  refine JL.val (v := .bool y39) (QV.pickT rfl rfl) rfl rfl rfl ?_
                  refine JL.val (v := .bool y39) (QV.assign rfl) rfl rfl rfl ?_
                  refine JL.nil ?_
                  refine QJ.then_normal ?_
                  refine JC.ret ?_
                  obtain rfl := Option.some.inj hm
                  exact QJ.body (vs := [.bool y39]) (.inl rfl) rfl (ResVs.cons (ResV.tmp rfl) ResVs.nil) [] rfl rfl (.inr trivial) ⟨rfl, rfl⟩
                ·
                  refine JL.val (v := .bool false) (QV.eq (QV.move rfl) (congrArg Value.bool (bfalse h38))) rfl rfl rfl ?_
                  refine JL.skip (d := some 59) rfl rfl rfl ?_
                  refine JL.val (v := .bool false) (QV.pickF rfl rfl) rfl rfl rfl ?_
                  refine JL.val (v := .bool false) (QV.assign rfl) rfl rfl rfl ?_
                  refine JL.nil ?_
                  refine QJ.then_normal ?_
                  refine JC.ret ?_
                  obtain rfl := Option.some.inj hm
                  exact QJ.body (vs := [.bool false]) (.inl rfl) rfl (ResVs.cons (ResV.tmp rfl) ResVs.nil) [] rfl rfl (.inr trivial) ⟨rfl, rfl⟩
            ·
              refine JT.only (i := 9) (d := some 44) rfl (MV.ofQV (v := .bool true) (QV.eq (QV.move rfl) (congrArg Value.bool (congrArg Bool.not (decide_eq_false h31))))) rfl rfl rfl ?_
              rintro _ _ ⟨rfl, rfl⟩
              refine ⟨fun _ => ⟨[0, 1, 2, 3, 4], rfl, rfl⟩, ?_⟩
              refine JT.skip (i := 10) (d := some 45) hsel rfl rfl rfl rfl [0, 1, 2, 3, 4] rfl rfl ?_
              refine JT.skip (i := 11) (d := some 46) hsel rfl rfl rfl rfl [0, 1, 2, 3, 4] rfl rfl ?_
              refine JT.skipO (i := 12) (d := some 47) rfl rfl rfl rfl [0, 1, 2, 3, 4] rfl rfl ?_
              refine JT.skipO (i := 13) (d := some 48) rfl rfl rfl rfl [0, 1, 2, 3, 4] rfl rfl ?_
              refine JT.skipO (i := 14) (d := some 49) rfl rfl rfl rfl [0, 1, 2, 3, 4] rfl rfl ?_
              refine JT.skipO (i := 15) (d := some 50) rfl rfl rfl rfl [0, 1, 2, 3, 4] rfl rfl ?_
              refine JT.only (i := 16) (d := some 51) rfl (MV.ofQV (v := .bool true) (QV.pickT rfl rfl)) rfl rfl rfl ?_
              rintro _ _ ⟨rfl, rfl⟩
              refine ⟨fun _ => ⟨[0, 1, 2, 3, 4], rfl, rfl⟩, ?_⟩
              refine JT.nil ?_
              refine QJ.then_normal ?_
              refine JC.condT rfl ?_
              refine JC.seq ?_
              refine JC.region ?_
              obtain ⟨y41, hc42, hm⟩ := bind_inv hm
              refine JL.mv (d := some 52) (MV.call (Lo := []) (Lr := [Asr.of 41 (Enc.arr 32 (Enc.int .u8)) (z28.v) y26, Asr.vw (Enc.arr 32 (Enc.int .u8)) (s1.v) x2, Asr.vw (Enc.arr 32 (Enc.int .u8)) (s5.v) x6, Asr.blk b8 39 [Seg.of (Enc.arr 32 (Enc.int .u8)) x3], Asr.blk z24 41 [Seg.of (Enc.arr 32 (Enc.int .u8)) y21.1]]) (F41.spec _ hc42) rfl Try.func41 rfl rfl rfl [] [0, 1, 2, 3, 4] rfl rfl rfl trivial) rfl rfl rfl ?_
              rintro _ _ ⟨_, ⟨rfl, rfl⟩, rfl⟩
              refine JL.val (v := .bool y41) (QV.assign rfl) rfl rfl rfl ?_
              refine JL.nil ?_
              refine QJ.then_normal ?_
              refine JC.ret ?_
              refine QJ.then_ret ?_
              obtain rfl := Option.some.inj hm
              exact QJ.body (vs := [.bool y41]) (.inl rfl) rfl (ResVs.cons (ResV.tmp rfl) ResVs.nil) [] rfl rfl (.inr trivial) ⟨rfl, rfl⟩
          ·
            refine JT.only (i := 2) (d := some 37) rfl (MV.ofQV (v := .bool true) (QV.eq (QV.move rfl) (congrArg Value.bool (congrArg Bool.not (decide_eq_false h25))))) rfl rfl rfl ?_
            rintro _ _ ⟨rfl, rfl⟩
            refine ⟨fun _ => ⟨[0, 1, 2, 3], rfl, rfl⟩, ?_⟩
            refine JT.skip (i := 3) (d := some 38) hsel rfl rfl rfl rfl [0, 1, 2, 3] rfl rfl ?_
            refine JT.skipO (i := 4) (d := some 39) rfl rfl rfl rfl [0, 1, 2, 3] rfl rfl ?_
            refine JT.skipO (i := 5) (d := some 40) rfl rfl rfl rfl [0, 1, 2, 3] rfl rfl ?_
            refine JT.skipO (i := 6) (d := some 41) rfl rfl rfl rfl [0, 1, 2, 3] rfl rfl ?_
            refine JT.skipO (i := 7) (d := some 42) rfl rfl rfl rfl [0, 1, 2, 3] rfl rfl ?_
            refine JT.only (i := 8) (d := some 43) rfl (MV.ofQV (v := .bool true) (QV.pickT rfl rfl)) rfl rfl rfl ?_
            rintro _ _ ⟨rfl, rfl⟩
            refine ⟨fun _ => ⟨[0, 1, 2, 3], rfl, rfl⟩, ?_⟩
            refine JT.only (i := 9) (d := some 44) rfl (MV.ofQV (v := .bool true) (QV.move rfl)) rfl rfl rfl ?_
            rintro _ _ ⟨rfl, rfl⟩
            refine ⟨fun _ => ⟨[0, 1, 2, 3], rfl, rfl⟩, ?_⟩
            refine JT.skip (i := 10) (d := some 45) hsel rfl rfl rfl rfl [0, 1, 2, 3] rfl rfl ?_
            refine JT.skip (i := 11) (d := some 46) hsel rfl rfl rfl rfl [0, 1, 2, 3] rfl rfl ?_
            refine JT.skipO (i := 12) (d := some 47) rfl rfl rfl rfl [0, 1, 2, 3] rfl rfl ?_
            refine JT.skipO (i := 13) (d := some 48) rfl rfl rfl rfl [0, 1, 2, 3] rfl rfl ?_
            refine JT.skipO (i := 14) (d := some 49) rfl rfl rfl rfl [0, 1, 2, 3] rfl rfl ?_
            refine JT.skipO (i := 15) (d := some 50) rfl rfl rfl rfl [0, 1, 2, 3] rfl rfl ?_
            refine JT.only (i := 16) (d := some 51) rfl (MV.ofQV (v := .bool true) (QV.pickT rfl rfl)) rfl rfl rfl ?_
            rintro _ _ ⟨rfl, rfl⟩
            refine ⟨fun _ => ⟨[0, 1, 2, 3], rfl, rfl⟩, ?_⟩
            refine JT.nil ?_
            refine QJ.then_normal ?_
            refine JC.condT rfl ?_
            refine JC.seq ?_
            refine JC.region ?_
            obtain ⟨y43, hc44, hm⟩ := bind_inv hm
            refine JL.mv (d := some 52) (MV.call (Lo := []) (Lr := [Asr.vw (Enc.arr 32 (Enc.int .u8)) (s1.v) x2, Asr.vw (Enc.arr 32 (Enc.int .u8)) (s5.v) x6, Asr.blk b8 39 [Seg.of (Enc.arr 32 (Enc.int .u8)) x3], Asr.blk z24 41 [Seg.of (Enc.arr 32 (Enc.int .u8)) y21.1]]) (F41.spec _ hc44) rfl Try.func41 rfl rfl rfl [] [0, 1, 2, 3] rfl rfl rfl trivial) rfl rfl rfl ?_
            rintro _ _ ⟨_, ⟨rfl, rfl⟩, rfl⟩
            refine JL.val (v := .bool y43) (QV.assign rfl) rfl rfl rfl ?_
            refine JL.nil ?_
            refine QJ.then_normal ?_
            refine JC.ret ?_
            refine QJ.then_ret ?_
            obtain rfl := Option.some.inj hm
            exact QJ.body (vs := [.bool y43]) (.inl rfl) rfl (ResVs.cons (ResV.tmp rfl) ResVs.nil) [] rfl rfl (.inr trivial) ⟨rfl, rfl⟩
        ·
          refine JC.regionU [Asr.blk b8 39 [Seg.of (Enc.arr 32 (Enc.int .u8)) x3], Asr.vw (Enc.arr 32 (Enc.int .u8)) (s1.v) x2, Asr.vw (Enc.arr 32 (Enc.int .u8)) (s5.v) x6] (fun _ => false) 13 rfl (by kernel_rfl) (by kernel_rfl) (fun hsel => ?_)
          refine JU.take (i := 0) (v := .agg (((Enc.arr 32 (Enc.int .u8))).enc x3).toArray) hsel rfl (by kernel_rfl) (QV.eq (QV.loadN (ss := [Seg.of (Enc.arr 32 (Enc.int .u8)) x3]) 0 0 1 rfl tk_39 rfl rfl rfl rfl) rfl) rfl rfl rfl [0, 1, 2] rfl rfl ?_
          refine JU.take (i := 1) (v := .int .i64 x4) hsel rfl (by kernel_rfl) (QV.move rfl) rfl rfl rfl [0, 1, 2] rfl rfl ?_
          refine JU.take (i := 2) (v := s1.v) hsel rfl (by kernel_rfl) (QV.move rfl) rfl rfl rfl [0, 1, 2] rfl rfl ?_
          refine JU.take (i := 3) (v := .int .i64 ((x2).length : Int)) hsel rfl (by kernel_rfl) (QV.len (Rdg.vw 1 rfl) Try.underlying55 rfl) rfl rfl rfl [0, 1, 2] rfl rfl ?_
          refine JU.take (i := 4) (v := s5.v) hsel rfl (by kernel_rfl) (QV.move rfl) rfl rfl rfl [0, 1, 2] rfl rfl ?_
          refine JU.any [5, 10] (by kernel_rfl) rfl ?_
          refine ⟨?_, ?_, trivial⟩
          ·
            refine JUo.mv (d := some 31) rfl (MV.call (Lo := []) (Lr := [Asr.blk b8 39 [Seg.of (Enc.arr 32 (Enc.int .u8)) x3], Asr.vw (Enc.arr 32 (Enc.int .u8)) (s1.v) x2, Asr.vw (Enc.arr 32 (Enc.int .u8)) (s5.v) x6]) (F45.spec (s5) (x6) _ hc19) rfl Try.func45 rfl rfl rfl [] [0, 1, 2] rfl rfl rfl ⟨(Drv.vw 2 rfl), trivial⟩) rfl rfl rfl ?_
            rintro _ _ ⟨_, ⟨z45, rfl, rfl⟩, rfl⟩
            refine ⟨fun _ => ⟨[1, 2, 3], rfl, rfl⟩, ?_⟩
            refine JU.any [6, 10] (by kernel_rfl) rfl ?_
            refine ⟨?_, ?_, trivial⟩
            ·
              refine JUo.mv (d := some 32) rfl (MV.call (Lo := []) (Lr := [Asr.of 41 (Enc.arr 32 (Enc.int .u8)) (z45.v) y18, Asr.blk b8 39 [Seg.of (Enc.arr 32 (Enc.int .u8)) x3], Asr.vw (Enc.arr 32 (Enc.int .u8)) (s1.v) x2, Asr.vw (Enc.arr 32 (Enc.int .u8)) (s5.v) x6]) (F49.spec (z45) (x3) (x4) (((x2).length : Int)) (y18) _ hc22) rfl Try.func49 rfl rfl rfl [] [0, 1, 2, 3] rfl rfl rfl ⟨(Drv.of 0 rfl), trivial⟩) rfl rfl rfl ?_
              rintro _ _ ⟨_, ⟨rfl, rfl⟩, rfl⟩
              refine ⟨fun _ => ⟨[1, 2, 3], rfl, rfl⟩, ?_⟩
              refine JU.take (i := 7) (v := .tuple #[.agg (((Enc.arr 32 (Enc.int .u8))).enc y21.1).toArray, .int .i64 y21.2]) hsel rfl (by kernel_rfl) (QV.move rfl) rfl rfl rfl [1, 2, 3] rfl rfl ?_
              refine JU.take (i := 8) (v := .agg (((Enc.arr 32 (Enc.int .u8))).enc y21.1).toArray) hsel rfl (by kernel_rfl) (QV.extract (vs := [.agg (((Enc.arr 32 (Enc.int .u8))).enc y21.1).toArray, .int .i64 y21.2]) rfl rfl) rfl rfl rfl [1, 2, 3] rfl rfl ?_
              refine JU.take (i := 9) (v := .int .i64 y21.2) hsel rfl (by kernel_rfl) (QV.extract (vs := [.agg (((Enc.arr 32 (Enc.int .u8))).enc y21.1).toArray, .int .i64 y21.2]) rfl rfl) rfl rfl rfl [1, 2, 3] rfl rfl ?_
              refine JU.any [10] (by kernel_rfl) rfl ?_
              refine ⟨?_, trivial⟩
              refine JUo.mv (d := some 9) rfl (MV.alloc [Seg.of (Enc.arr 32 (Enc.int .u8)) (Arr.rep 32 (0 : Int))] z_41 rfl) rfl rfl rfl ?_
              rintro _ _ ⟨b46, rfl, rfl⟩
              refine ⟨fun _ => ⟨[2, 3, 4], rfl, rfl⟩, ?_⟩
              refine JU.any [11] (by kernel_rfl) rfl ?_
              refine ⟨?_, trivial⟩
              refine JUo.mv (d := none) rfl (MV.store (ss := [Seg.of (Enc.arr 32 (Enc.int .u8)) (Arr.rep 32 (0 : Int))]) 0 0 1 [Seg.of (Enc.arr 32 (Enc.int .u8)) y21.1] rfl tk_41 rfl rfl rfl rfl (fun w hs => ⟨rfl, one_of _ _, trivial⟩)) rfl rfl rfl ?_
              rintro _ _ ⟨rfl, rfl⟩
              refine ⟨fun _ => ⟨[2, 3, 4], rfl, rfl⟩, ?_⟩
              refine JU.take (i := 12) (v := .int .i64 y21.2) hsel rfl (by kernel_rfl) (QV.assign rfl) rfl rfl rfl [2, 3, 4] rfl rfl ?_
              refine JU.nil (by kernel_rfl) ?_
              exact QJ.cut_normal ((), b46) hm [3, 4, 2, 0] (by exact ⟨rfl, rfl, rfl, rfl, rfl, rfl, trivial⟩) rfl rfl
            ·
              refine JUo.mv (d := some 9) rfl (MV.alloc [Seg.of (Enc.arr 32 (Enc.int .u8)) (Arr.rep 32 (0 : Int))] z_41 rfl) rfl rfl rfl ?_
              rintro _ _ ⟨b47, rfl, rfl⟩
              refine ⟨fun _ => ⟨[2, 3, 4], rfl, rfl⟩, ?_⟩
              refine JU.any [6] (by kernel_rfl) rfl ?_
              refine ⟨?_, trivial⟩
              refine JUo.mv (d := some 32) rfl (MV.call (Lo := []) (Lr := [Asr.blk b47 41 [Seg.of (Enc.arr 32 (Enc.int .u8)) (Arr.rep 32 (0 : Int))], Asr.of 41 (Enc.arr 32 (Enc.int .u8)) (z45.v) y18, Asr.blk b8 39 [Seg.of (Enc.arr 32 (Enc.int .u8)) x3], Asr.vw (Enc.arr 32 (Enc.int .u8)) (s1.v) x2, Asr.vw (Enc.arr 32 (Enc.int .u8)) (s5.v) x6]) (F49.spec (z45) (x3) (x4) (((x2).length : Int)) (y18) _ hc22) rfl Try.func49 rfl rfl rfl [] [0, 1, 2, 3, 4] rfl rfl rfl ⟨(Drv.of 1 rfl), trivial⟩) rfl rfl rfl ?_
              rintro _ _ ⟨_, ⟨rfl, rfl⟩, rfl⟩
              refine ⟨fun _ => ⟨[2, 3, 4], rfl, rfl⟩, ?_⟩
              refine JU.take (i := 7) (v := .tuple #[.agg (((Enc.arr 32 (Enc.int .u8))).enc y21.1).toArray, .int .i64 y21.2]) hsel rfl (by kernel_rfl) (QV.move rfl) rfl rfl rfl [2, 3, 4] rfl rfl ?_
              refine JU.take (i := 8) (v := .agg (((Enc.arr 32 (Enc.int .u8))).enc y21.1).toArray) hsel rfl (by kernel_rfl) (QV.extract (vs := [.agg (((Enc.arr 32 (Enc.int .u8))).enc y21.1).toArray, .int .i64 y21.2]) rfl rfl) rfl rfl rfl [2, 3, 4] rfl rfl ?_
              refine JU.take (i := 9) (v := .int .i64 y21.2) hsel rfl (by kernel_rfl) (QV.extract (vs := [.agg (((Enc.arr 32 (Enc.int .u8))).enc y21.1).toArray, .int .i64 y21.2]) rfl rfl) rfl rfl rfl [2, 3, 4] rfl rfl ?_
              refine JU.any [11] (by kernel_rfl) rfl ?_
              refine ⟨?_, trivial⟩
              refine JUo.mv (d := none) rfl (MV.store (ss := [Seg.of (Enc.arr 32 (Enc.int .u8)) (Arr.rep 32 (0 : Int))]) 0 0 1 [Seg.of (Enc.arr 32 (Enc.int .u8)) y21.1] rfl tk_41 rfl rfl rfl rfl (fun w hs => ⟨rfl, one_of _ _, trivial⟩)) rfl rfl rfl ?_
              rintro _ _ ⟨rfl, rfl⟩
              refine ⟨fun _ => ⟨[2, 3, 4], rfl, rfl⟩, ?_⟩
              refine JU.take (i := 12) (v := .int .i64 y21.2) hsel rfl (by kernel_rfl) (QV.assign rfl) rfl rfl rfl [2, 3, 4] rfl rfl ?_
              refine JU.nil (by kernel_rfl) ?_
              exact QJ.cut_normal ((), b47) hm [3, 4, 2, 0] (by exact ⟨rfl, rfl, rfl, rfl, rfl, rfl, trivial⟩) rfl rfl
          ·
            refine JUo.mv (d := some 9) rfl (MV.alloc [Seg.of (Enc.arr 32 (Enc.int .u8)) (Arr.rep 32 (0 : Int))] z_41 rfl) rfl rfl rfl ?_
            rintro _ _ ⟨b48, rfl, rfl⟩
            refine ⟨fun _ => ⟨[1, 2, 3], rfl, rfl⟩, ?_⟩
            refine JU.any [5] (by kernel_rfl) rfl ?_
            refine ⟨?_, trivial⟩
            refine JUo.mv (d := some 31) rfl (MV.call (Lo := []) (Lr := [Asr.blk b48 41 [Seg.of (Enc.arr 32 (Enc.int .u8)) (Arr.rep 32 (0 : Int))], Asr.blk b8 39 [Seg.of (Enc.arr 32 (Enc.int .u8)) x3], Asr.vw (Enc.arr 32 (Enc.int .u8)) (s1.v) x2, Asr.vw (Enc.arr 32 (Enc.int .u8)) (s5.v) x6]) (F45.spec (s5) (x6) _ hc19) rfl Try.func45 rfl rfl rfl [] [0, 1, 2, 3] rfl rfl rfl ⟨(Drv.vw 3 rfl), trivial⟩) rfl rfl rfl ?_
            rintro _ _ ⟨_, ⟨z49, rfl, rfl⟩, rfl⟩
            refine ⟨fun _ => ⟨[2, 3, 4], rfl, rfl⟩, ?_⟩
            refine JU.any [6] (by kernel_rfl) rfl ?_
            refine ⟨?_, trivial⟩
            refine JUo.mv (d := some 32) rfl (MV.call (Lo := []) (Lr := [Asr.of 41 (Enc.arr 32 (Enc.int .u8)) (z49.v) y18, Asr.blk b48 41 [Seg.of (Enc.arr 32 (Enc.int .u8)) (Arr.rep 32 (0 : Int))], Asr.blk b8 39 [Seg.of (Enc.arr 32 (Enc.int .u8)) x3], Asr.vw (Enc.arr 32 (Enc.int .u8)) (s1.v) x2, Asr.vw (Enc.arr 32 (Enc.int .u8)) (s5.v) x6]) (F49.spec (z49) (x3) (x4) (((x2).length : Int)) (y18) _ hc22) rfl Try.func49 rfl rfl rfl [] [0, 1, 2, 3, 4] rfl rfl rfl ⟨(Drv.of 0 rfl), trivial⟩) rfl rfl rfl ?_
            rintro _ _ ⟨_, ⟨rfl, rfl⟩, rfl⟩
            refine ⟨fun _ => ⟨[2, 3, 4], rfl, rfl⟩, ?_⟩
            refine JU.take (i := 7) (v := .tuple #[.agg (((Enc.arr 32 (Enc.int .u8))).enc y21.1).toArray, .int .i64 y21.2]) hsel rfl (by kernel_rfl) (QV.move rfl) rfl rfl rfl [2, 3, 4] rfl rfl ?_
            refine JU.take (i := 8) (v := .agg (((Enc.arr 32 (Enc.int .u8))).enc y21.1).toArray) hsel rfl (by kernel_rfl) (QV.extract (vs := [.agg (((Enc.arr 32 (Enc.int .u8))).enc y21.1).toArray, .int .i64 y21.2]) rfl rfl) rfl rfl rfl [2, 3, 4] rfl rfl ?_
            refine JU.take (i := 9) (v := .int .i64 y21.2) hsel rfl (by kernel_rfl) (QV.extract (vs := [.agg (((Enc.arr 32 (Enc.int .u8))).enc y21.1).toArray, .int .i64 y21.2]) rfl rfl) rfl rfl rfl [2, 3, 4] rfl rfl ?_
            refine JU.any [11] (by kernel_rfl) rfl ?_
            refine ⟨?_, trivial⟩
            refine JUo.mv (d := none) rfl (MV.store (ss := [Seg.of (Enc.arr 32 (Enc.int .u8)) (Arr.rep 32 (0 : Int))]) 1 0 1 [Seg.of (Enc.arr 32 (Enc.int .u8)) y21.1] rfl tk_41 rfl rfl rfl rfl (fun w hs => ⟨rfl, one_of _ _, trivial⟩)) rfl rfl rfl ?_
            rintro _ _ ⟨rfl, rfl⟩
            refine ⟨fun _ => ⟨[2, 3, 4], rfl, rfl⟩, ?_⟩
            refine JU.take (i := 12) (v := .int .i64 y21.2) hsel rfl (by kernel_rfl) (QV.assign rfl) rfl rfl rfl [2, 3, 4] rfl rfl ?_
            refine JU.nil (by kernel_rfl) ?_
            exact QJ.cut_normal ((), b48) hm [3, 4, 2, 1] (by exact ⟨rfl, rfl, rfl, rfl, rfl, rfl, trivial⟩) rfl rfl

end Go.Proofs.Ytmedbpiapeiobaa
