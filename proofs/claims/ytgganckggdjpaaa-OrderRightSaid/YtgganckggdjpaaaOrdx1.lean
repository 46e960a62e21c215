/- Written by gen.py: functions and their contracts. -/
import Derived.Test.YtgganckggdjpaaaOrdx0
namespace Go.Proofs.Ytgganckggdjpaaa
open Go Go.Eng Go.Proofs
set_option linter.unusedVariables false
set_option linter.unusedSimpArgs false
/-! ### 43: (*drogher/order.maker).hush -/
noncomputable def F43.j1 (x10 : List Bool) (x13 : Int) (d21 : List Int) (d23 : List Int) : Option (List Int × List Int × List Bool) :=
  some (d21, d23, (List.set x10 (Int.toNat x13) true))
noncomputable def F43.j2 (x3 : List (List Int)) (x13 : Int) (d24 : List Int) (d27 : Int) (d38 : List Int) : Option ((List Int × List Int × Int) ⊕ (List Int × List Int)) :=
  some (.inl ((List.set d24 (Int.toNat (gd (gd x3 x13) d27)) (IntKind.wrap .i64 ((gd d24 (gd (gd x3 x13) d27)) - (1 : Int)))), d38, (IntKind.wrap .i64 (d27 + (1 : Int)))))
noncomputable def F43.j3 (x3 : List (List Int)) (x13 : Int) (d24 : List Int) (d27 : Int) (d45 : List Int) : Option ((List Int × List Int × Int) ⊕ (List Int × List Int)) :=
  F43.j2 x3 x13 d24 d27 (d45)
noncomputable def F43.b1 (x3 : List (List Int)) (x10 : List Bool) (x12 : List Bool) (x13 : Int) : (List Int × List Int × Int) → Option ((List Int × List Int × Int) ⊕ (List Int × List Int))
  | (d24, d26, d27) => (if d27 < (((gd x3 x13)).length : Int) then (if 0 ≤ d27 ∧ d27 < (((gd x3 x13)).length : Int) then (if 0 ≤ (gd (gd x3 x13) d27) ∧ (gd (gd x3 x13) d27) < ((d24).length : Int) then (if 0 ≤ (gd (gd x3 x13) d27) ∧ (gd (gd x3 x13) d27) < (((List.set d24 (Int.toNat (gd (gd x3 x13) d27)) (IntKind.wrap .i64 ((gd d24 (gd (gd x3 x13) d27)) - (1 : Int))))).length : Int) then (if (gd (List.set d24 (Int.toNat (gd (gd x3 x13) d27)) (IntKind.wrap .i64 ((gd d24 (gd (gd x3 x13) d27)) - (1 : Int)))) (gd (gd x3 x13) d27)) = (0 : Int) then (if 0 ≤ (gd (gd x3 x13) d27) ∧ (gd (gd x3 x13) d27) < ((x12).length : Int) then (if (gd x12 (gd (gd x3 x13) d27)) = true then F43.j3 x3 x13 d24 d27 (d26) else ((F40.m (x3) ((List.set d24 (Int.toNat (gd (gd x3 x13) d27)) (IntKind.wrap .i64 ((gd d24 (gd (gd x3 x13) d27)) - (1 : Int))))) (d26) ((List.set x10 (Int.toNat x13) true)) (x12) ((gd (gd x3 x13) d27))).bind fun y47 => F43.j3 x3 x13 d24 d27 (y47))) else none) else F43.j2 x3 x13 d24 d27 (d26)) else none) else none) else none) else some (.inr (d24, d26)))
noncomputable def F43.m (x3 : List (List Int)) (x6 : List Int) (x8 : List Int) (x10 : List Bool) (x12 : List Bool) (x13 : Int) : Option (List Int × List Int × List Bool) :=
  (if 0 ≤ x13 ∧ x13 < ((x10).length : Int) then (if (gd x10 x13) = true then some (x6, x8, x10) else (if 0 ≤ x13 ∧ x13 < ((x3).length : Int) then ((loop (F43.b1 x3 x10 x12 x13) (x6, x8, (0 : Int))).bind fun y => match y with | (d21, d23) => F43.j1 x10 x13 (d21) (d23)) else none)) else none)
set_option maxRecDepth 100000 in
set_option maxHeartbeats 4000000 in
theorem F43.spec (b1 : Nat) (s2 : SlV) (z4 : List SlV) (s5 : SlV) (s7 : SlV) (s9 : SlV) (s11 : SlV) (x3 : List (List Int)) (x6 : List Int) (x8 : List Int) (x10 : List Bool) (x12 : List Bool) (x13 : Int) (r : (List Int × List Int × List Bool)) (hm : F43.m x3 x6 x8 x10 x12 x13 = some r) :
    Ctr Try.prog true 43 [.pointer (some ⟨b1, 0, none⟩), .int .i64 x13] [Asr.blk b1 82 [Seg.c (s2.v), Seg.c (s5.v), Seg.c (s7.v), Seg.c (s9.v), Seg.c (s11.v)], Asr.of 3 (Enc.int .i64) (s5.v) x6, Asr.of 3 (Enc.int .i64) (s7.v) x8, Asr.of 4 Enc.bool (s9.v) x10, Asr.of 4 Enc.bool (s11.v) x12, Asr.vn (NE.sl (Enc.int .i64)) (s2.v) z4 x3] (fun v L' => ∃ (g15 : SlV), v = .tuple #[] ∧ L' = [Asr.of 3 (Enc.int .i64) (s5.v) r.1, Asr.of 3 (Enc.int .i64) (g15.v) r.2.1, Asr.of 4 Enc.bool (s9.v) r.2.2, Asr.of 4 Enc.bool (s11.v) x12, Asr.vn (NE.sl (Enc.int .i64)) (s2.v) z4 x3, Asr.blk b1 82 [Seg.c (s2.v), Seg.c (s5.v), Seg.c (g15.v), Seg.c (s9.v), Seg.c (s11.v)]]) := by
  refine Ctr.intro (n := 66) (env := [(0, .pointer (some ⟨b1, 0, none⟩)), (1, .int .i64 x13)]) Try.func43 rfl rfl rfl rfl (fun c => ?_)
  unfold F43.m at hm
  refine JC.seq ?_
  refine JC.seq ?_
  refine JC.region ?_
  refine JL.val (v := .pointer (some ⟨b1, 0, none⟩)) (QV.move rfl) rfl rfl rfl ?_
  refine JL.val (v := .pointer (some ⟨b1, 0, none⟩)) (QV.nilCheck rfl) rfl rfl rfl ?_
  refine JL.val (v := .pointer (some ⟨b1, 3, none⟩)) (QV.fieldB fo_82_3 rfl rfl) rfl rfl rfl ?_
  refine JL.val (v := s9.v) (QV.load1 (ss := [Seg.c (s2.v), Seg.c (s5.v), Seg.c (s7.v), Seg.c (s9.v), Seg.c (s11.v)]) 0 3 rfl tk_78 rfl rfl rfl) rfl rfl rfl ?_
  refine JL.val (v := .int .i64 x13) (QV.move rfl) rfl rfl rfl ?_
  obtain ⟨h18, hm⟩ := guard_inv hm
  refine JL.val (v := .pointer (some (elA (s9.v) (Int.toNat x13 * (Enc.bool).sz)))) (QV.indexA (Rdg.of 3 rfl) Try.underlying78 tk_4 rfl rfl h18) rfl rfl rfl ?_
  refine JL.val (v := .bool (gd x10 x13)) (QV.el1 (Rdg.of 3 rfl) tk_4 rfl h18 rfl) rfl rfl rfl ?_
  refine JL.nil ?_
  refine QJ.then_normal ?_
  rcases ite_inv hm with ⟨h19, hm⟩ | ⟨h19, hm⟩
  ·
    refine JC.condT' rfl h19 ?_
    refine JC.ret ?_
    refine QJ.then_ret ?_
    obtain rfl := Option.some.inj hm
    exact QJ.body (vs := []) (.inl rfl) rfl ResVs.nil [1, 2, 3, 4, 5, 0] rfl rfl (.inl rfl) ⟨s7, rfl, rfl⟩
  ·
    refine JC.condF' rfl (bfalse h19) ?_
    refine JC.skip ?_
    refine QJ.then_normal ?_
    refine JC.seq ?_
    refine JC.region ?_
    refine JL.val (v := .pointer (some ⟨b1, 0, none⟩)) (QV.move rfl) rfl rfl rfl ?_
    refine JL.val (v := .pointer (some ⟨b1, 0, none⟩)) (QV.nilCheck rfl) rfl rfl rfl ?_
    refine JL.val (v := .pointer (some ⟨b1, 3, none⟩)) (QV.fieldB fo_82_3 rfl rfl) rfl rfl rfl ?_
    refine JL.val (v := s9.v) (QV.load1 (ss := [Seg.c (s2.v), Seg.c (s5.v), Seg.c (s7.v), Seg.c (s9.v), Seg.c (s11.v)]) 0 3 rfl tk_78 rfl rfl rfl) rfl rfl rfl ?_
    refine JL.val (v := .int .i64 x13) (QV.move rfl) rfl rfl rfl ?_
    refine JL.val (v := .pointer (some (elA (s9.v) (Int.toNat x13 * (Enc.bool).sz)))) (QV.indexA (Rdg.of 3 rfl) Try.underlying78 tk_4 rfl rfl h18) rfl rfl rfl ?_
    refine JL.mv (d := none) (MV.storeEl 3 true rfl tk_4 rfl rfl h18 rfl) rfl rfl rfl ?_
    rintro _ _ ⟨rfl, rfl⟩
    refine JL.nil ?_
    refine QJ.then_normal ?_
    refine JC.seq ?_
    refine JC.region ?_
    refine JL.val (v := .pointer (some ⟨b1, 0, none⟩)) (QV.move rfl) rfl rfl rfl ?_
    refine JL.val (v := .pointer (some ⟨b1, 0, none⟩)) (QV.nilCheck rfl) rfl rfl rfl ?_
    refine JL.val (v := .pointer (some ⟨b1, 0, none⟩)) (QV.fieldB fo_82_0 rfl rfl) rfl rfl rfl ?_
    refine JL.val (v := s2.v) (QV.load1 (ss := [Seg.c (s2.v), Seg.c (s5.v), Seg.c (s7.v), Seg.c (s9.v), Seg.c (s11.v)]) 0 0 rfl tk_22 rfl rfl rfl) rfl rfl rfl ?_
    refine JL.val (v := .int .i64 x13) (QV.move rfl) rfl rfl rfl ?_
    obtain ⟨h20, hm⟩ := guard_inv hm
    refine JL.val (v := .pointer (some (elA (s2.v) (Int.toNat x13 * ((NE.sl (Enc.int .i64)).E).sz)))) (QV.indexN (RdN.vn 5 rfl) Try.underlying22 tk_25 rfl rfl h20) rfl rfl rfl ?_
    refine JL.val (v := (gd z4 x13).v) (QV.el1N (RdN.vn 5 rfl) tk_25 rfl h20 rfl) rfl rfl rfl ?_
    refine JL.val (v := .int .i64 (((gd x3 x13)).length : Int)) (QV.len (Rdg.ofDrv (Drv.el (K := (NE.sl (Enc.int .i64))) (A := Asr.vw (Enc.int .i64) ((gd z4 x13).v) (gd x3 x13)) (Drv.vn 5 rfl) h20 (fun _ _ q => q))) Try.underlying25 rfl) rfl rfl rfl ?_
    refine JL.val (v := .int .i64 (0 : Int)) (QV.move rfl) rfl rfl rfl ?_
    refine JL.nil ?_
    refine QJ.ent (fun _ hs => hs.derive (Drv.el (K := (NE.sl (Enc.int .i64))) (A := Asr.vw (Enc.int .i64) ((gd z4 x13).v) (gd x3 x13)) (Drv.vn 5 rfl) h20 (fun _ _ q => q))) ?_
    refine QJ.then_normal ?_
    refine JC.cutK (Y := (List Int × List Int) × SlV) (fun y => match y with | ((d21, d23), _) => F43.j1 x10 x13 (d21) (d23) = some r) (fun y => match y with | ((d21, d23), z22) => []) (fun y => match y with | ((d21, d23), z22) => [Asr.of 3 (Enc.int .i64) (s5.v) d21, Asr.of 3 (Enc.int .i64) (z22.v) d23, Asr.of 4 Enc.bool (s9.v) (List.set x10 (Int.toNat x13) true), Asr.of 4 Enc.bool (s11.v) x12, Asr.vn (NE.sl (Enc.int .i64)) (s2.v) z4 x3, Asr.blk b1 82 [Seg.c (s2.v), Seg.c (s5.v), Seg.c (z22.v), Seg.c (s9.v), Seg.c (s11.v)]]) ?_ ?_
    ·
      rintro ⟨⟨d21, d23⟩, z22⟩ hm
      unfold F43.j1 at hm
      show QJ _ _ [] [Asr.of 3 (Enc.int .i64) (s5.v) d21, Asr.of 3 (Enc.int .i64) (z22.v) d23, Asr.of 4 Enc.bool (s9.v) (List.set x10 (Int.toNat x13) true), Asr.of 4 Enc.bool (s11.v) x12, Asr.vn (NE.sl (Enc.int .i64)) (s2.v) z4 x3, Asr.blk b1 82 [Seg.c (s2.v), Seg.c (s5.v), Seg.c (z22.v), Seg.c (s9.v), Seg.c (s11.v)]] _ _
      obtain rfl := Option.some.inj hm
      exact QJ.body (vs := []) (.inr rfl) rfl ResVs.nil [0, 1, 2, 3, 4, 5] rfl rfl (.inl rfl) ⟨z22, rfl, rfl⟩
    ·
      refine JC.block ?_
      obtain ⟨y32, hl33, hmo34⟩ := bind_inv hm
      refine JC.loop (F43.b1 x3 x10 x12 x13) (fun x z => match x, z with | (d24, d26, d27), z25 => [(0, .pointer (some ⟨b1, 0, none⟩)), (25, (gd z4 x13).v), (26, .int .i64 (((gd x3 x13)).length : Int)), (27, .int .i64 d27)]) (fun x z => match x, z with | (d24, d26, d27), z25 => [Asr.vn (NE.sl (Enc.int .i64)) (s2.v) z4 x3, Asr.of 3 (Enc.int .i64) (s5.v) d24, Asr.of 3 (Enc.int .i64) (z25.v) d26, Asr.of 4 Enc.bool (s9.v) (List.set x10 (Int.toNat x13) true), Asr.of 4 Enc.bool (s11.v) x12, Asr.blk b1 82 [Seg.c (s2.v), Seg.c (s5.v), Seg.c (z25.v), Seg.c (s9.v), Seg.c (s11.v)], Asr.vw (Enc.int .i64) ((gd z4 x13).v) (gd x3 x13)]) (x6, x8, (0 : Int)) s7 y32 hl33 [6, 2, 3, 4, 5, 1, 0] (by exact ⟨rfl, rfl, rfl, rfl, trivial⟩) rfl rfl ?_
      rintro ⟨d24, d26, d27⟩ z25 s35 hm
      unfold F43.b1 at hm
      dsimp only at hm
      show JC _ _ _ [(0, .pointer (some ⟨b1, 0, none⟩)), (25, (gd z4 x13).v), (26, .int .i64 (((gd x3 x13)).length : Int)), (27, .int .i64 d27)] [Asr.vn (NE.sl (Enc.int .i64)) (s2.v) z4 x3, Asr.of 3 (Enc.int .i64) (s5.v) d24, Asr.of 3 (Enc.int .i64) (z25.v) d26, Asr.of 4 Enc.bool (s9.v) (List.set x10 (Int.toNat x13) true), Asr.of 4 Enc.bool (s11.v) x12, Asr.blk b1 82 [Seg.c (s2.v), Seg.c (s5.v), Seg.c (z25.v), Seg.c (s9.v), Seg.c (s11.v)], Asr.vw (Enc.int .i64) ((gd z4 x13).v) (gd x3 x13)] _ _
      refine JC.seq ?_
      refine JC.region ?_
      refine JL.val (v := .bool (decide (d27 < (((gd x3 x13)).length : Int)))) (QV.lss rfl rfl) rfl rfl rfl ?_
      refine JL.nil ?_
      refine QJ.then_normal ?_
      refine JC.seq ?_
      rcases ite_inv hm with ⟨h36, hm⟩ | ⟨h36, hm⟩
      ·
        refine JC.condT' rfl (decide_eq_true h36) ?_
        refine JC.skip ?_
        refine QJ.then_normal ?_
        refine JC.seq ?_
        refine JC.cutK (Y := (List Int) × SlV) (fun y => match y with | (d38, _) => F43.j2 x3 x13 d24 d27 (d38) = some s35) (fun y => match y with | (d38, z37) => [(0, .pointer (some ⟨b1, 0, none⟩)), (25, (gd z4 x13).v), (26, .int .i64 (((gd x3 x13)).length : Int)), (27, .int .i64 d27)]) (fun y => match y with | (d38, z37) => [Asr.vn (NE.sl (Enc.int .i64)) (s2.v) z4 x3, Asr.of 3 (Enc.int .i64) (s5.v) (List.set d24 (Int.toNat (gd (gd x3 x13) d27)) (IntKind.wrap .i64 ((gd d24 (gd (gd x3 x13) d27)) - (1 : Int)))), Asr.of 3 (Enc.int .i64) (z37.v) d38, Asr.of 4 Enc.bool (s9.v) (List.set x10 (Int.toNat x13) true), Asr.of 4 Enc.bool (s11.v) x12, Asr.blk b1 82 [Seg.c (s2.v), Seg.c (s5.v), Seg.c (z37.v), Seg.c (s9.v), Seg.c (s11.v)], Asr.vw (Enc.int .i64) ((gd z4 x13).v) (gd x3 x13)]) ?_ ?_
        ·
          rintro ⟨d38, z37⟩ hm
          unfold F43.j2 at hm
          show QJ _ _ [(0, .pointer (some ⟨b1, 0, none⟩)), (25, (gd z4 x13).v), (26, .int .i64 (((gd x3 x13)).length : Int)), (27, .int .i64 d27)] [Asr.vn (NE.sl (Enc.int .i64)) (s2.v) z4 x3, Asr.of 3 (Enc.int .i64) (s5.v) (List.set d24 (Int.toNat (gd (gd x3 x13) d27)) (IntKind.wrap .i64 ((gd d24 (gd (gd x3 x13) d27)) - (1 : Int)))), Asr.of 3 (Enc.int .i64) (z37.v) d38, Asr.of 4 Enc.bool (s9.v) (List.set x10 (Int.toNat x13) true), Asr.of 4 Enc.bool (s11.v) x12, Asr.blk b1 82 [Seg.c (s2.v), Seg.c (s5.v), Seg.c (z37.v), Seg.c (s9.v), Seg.c (s11.v)], Asr.vw (Enc.int .i64) ((gd z4 x13).v) (gd x3 x13)] _ _
          refine QJ.then_normal ?_
          refine JC.region ?_
          refine JL.val (v := .int .i64 (IntKind.wrap .i64 (d27 + (1 : Int)))) (QV.add rfl rfl) rfl rfl rfl ?_
          refine JL.val (v := .int .i64 (IntKind.wrap .i64 (d27 + (1 : Int)))) (QV.move rfl) rfl rfl rfl ?_
          refine JL.nil ?_
          obtain rfl := Option.some.inj hm
          exact QJ.round_on ((List.set d24 (Int.toNat (gd (gd x3 x13) d27)) (IntKind.wrap .i64 ((gd d24 (gd (gd x3 x13) d27)) - (1 : Int)))), d38, (IntKind.wrap .i64 (d27 + (1 : Int)))) z37 [0, 1, 2, 3, 4, 5, 6] (by exact ⟨rfl, rfl, rfl, rfl, trivial⟩) rfl rfl
        ·
          refine JC.block ?_
          refine JC.seq ?_
          refine JC.region ?_
          obtain ⟨h39, hm⟩ := guard_inv hm
          refine JL.val (v := .pointer (some (elA ((gd z4 x13).v) (Int.toNat d27 * ((Enc.int .i64)).sz)))) (QV.indexA (Rdg.vw 6 rfl) Try.underlying25 tk_3 rfl rfl h39) rfl rfl rfl ?_
          refine JL.val (v := .int .i64 (gd (gd x3 x13) d27)) (QV.el1 (Rdg.vw 6 rfl) tk_3 rfl h39 rfl) rfl rfl rfl ?_
          refine JL.val (v := .int .i64 (gd (gd x3 x13) d27)) (QV.assign rfl) rfl rfl rfl ?_
          refine JL.nil ?_
          refine QJ.then_normal ?_
          refine JC.seq ?_
          refine JC.region ?_
          refine JL.val (v := .pointer (some ⟨b1, 0, none⟩)) (QV.move rfl) rfl rfl rfl ?_
          refine JL.val (v := .pointer (some ⟨b1, 0, none⟩)) (QV.nilCheck rfl) rfl rfl rfl ?_
          refine JL.val (v := .pointer (some ⟨b1, 1, none⟩)) (QV.fieldB fo_82_1 rfl rfl) rfl rfl rfl ?_
          refine JL.val (v := s5.v) (QV.load1 (ss := [Seg.c (s2.v), Seg.c (s5.v), Seg.c (z25.v), Seg.c (s9.v), Seg.c (s11.v)]) 5 1 rfl tk_25 rfl rfl rfl) rfl rfl rfl ?_
          refine JL.val (v := .int .i64 (gd (gd x3 x13) d27)) (QV.move rfl) rfl rfl rfl ?_
          obtain ⟨h40, hm⟩ := guard_inv hm
          refine JL.val (v := .pointer (some (elA (s5.v) (Int.toNat (gd (gd x3 x13) d27) * ((Enc.int .i64)).sz)))) (QV.indexA (Rdg.of 1 rfl) Try.underlying25 tk_3 rfl rfl h40) rfl rfl rfl ?_
          refine JL.val (v := .int .i64 (gd d24 (gd (gd x3 x13) d27))) (QV.el1 (Rdg.of 1 rfl) tk_3 rfl h40 rfl) rfl rfl rfl ?_
          refine JL.val (v := .int .i64 (IntKind.wrap .i64 ((gd d24 (gd (gd x3 x13) d27)) - (1 : Int)))) (QV.sub rfl rfl) rfl rfl rfl ?_
          refine JL.val (v := .pointer (some (elA (s5.v) (Int.toNat (gd (gd x3 x13) d27) * ((Enc.int .i64)).sz)))) (QV.indexA (Rdg.of 1 rfl) Try.underlying25 tk_3 rfl rfl h40) rfl rfl rfl ?_
          refine JL.mv (d := none) (MV.storeEl 1 (IntKind.wrap .i64 ((gd d24 (gd (gd x3 x13) d27)) - (1 : Int))) rfl tk_3 rfl rfl h40 rfl) rfl rfl rfl ?_
          rintro _ _ ⟨rfl, rfl⟩
          refine JL.nil ?_
          refine QJ.then_normal ?_
          refine JC.seq ?_
          refine JC.region ?_
          refine JL.val (v := .pointer (some ⟨b1, 0, none⟩)) (QV.move rfl) rfl rfl rfl ?_
          refine JL.val (v := .pointer (some ⟨b1, 0, none⟩)) (QV.nilCheck rfl) rfl rfl rfl ?_
          refine JL.val (v := .pointer (some ⟨b1, 1, none⟩)) (QV.fieldB fo_82_1 rfl rfl) rfl rfl rfl ?_
          refine JL.val (v := s5.v) (QV.load1 (ss := [Seg.c (s2.v), Seg.c (s5.v), Seg.c (z25.v), Seg.c (s9.v), Seg.c (s11.v)]) 5 1 rfl tk_25 rfl rfl rfl) rfl rfl rfl ?_
          refine JL.val (v := .int .i64 (gd (gd x3 x13) d27)) (QV.move rfl) rfl rfl rfl ?_
          obtain ⟨h41, hm⟩ := guard_inv hm
          refine JL.val (v := .pointer (some (elA (s5.v) (Int.toNat (gd (gd x3 x13) d27) * ((Enc.int .i64)).sz)))) (QV.indexA (Rdg.of 1 rfl) Try.underlying25 tk_3 rfl rfl h41) rfl rfl rfl ?_
          refine JL.val (v := .int .i64 (gd (List.set d24 (Int.toNat (gd (gd x3 x13) d27)) (IntKind.wrap .i64 ((gd d24 (gd (gd x3 x13) d27)) - (1 : Int)))) (gd (gd x3 x13) d27))) (QV.el1 (Rdg.of 1 rfl) tk_3 rfl h41 rfl) rfl rfl rfl ?_
          refine JL.val (v := .bool (decide ((gd (List.set d24 (Int.toNat (gd (gd x3 x13) d27)) (IntKind.wrap .i64 ((gd d24 (gd (gd x3 x13) d27)) - (1 : Int)))) (gd (gd x3 x13) d27)) = (0 : Int)))) (QV.eql rfl rfl) rfl rfl rfl ?_
          rcases ite_inv hm with ⟨h42, hm⟩ | ⟨h42, hm⟩
          ·
            refine JL.val (v := .bool true) (QV.eq (QV.move rfl) (congrArg Value.bool (decide_eq_true h42))) rfl rfl rfl ?_
            refine JL.val (v := .pointer (some ⟨b1, 0, none⟩)) (QV.move rfl) rfl rfl rfl ?_
            refine JL.val (v := .pointer (some ⟨b1, 0, none⟩)) (QV.nilCheck rfl) rfl rfl rfl ?_
            refine JL.val (v := .pointer (some ⟨b1, 4, none⟩)) (QV.fieldB fo_82_4 rfl rfl) rfl rfl rfl ?_
            refine JL.val (v := s11.v) (QV.load1 (ss := [Seg.c (s2.v), Seg.c (s5.v), Seg.c (z25.v), Seg.c (s9.v), Seg.c (s11.v)]) 5 4 rfl tk_78 rfl rfl rfl) rfl rfl rfl ?_
            refine JL.val (v := .int .i64 (gd (gd x3 x13) d27)) (QV.move rfl) rfl rfl rfl ?_
            obtain ⟨h43, hm⟩ := guard_inv hm
            refine JL.val (v := .pointer (some (elA (s11.v) (Int.toNat (gd (gd x3 x13) d27) * (Enc.bool).sz)))) (QV.indexA (Rdg.of 4 rfl) Try.underlying78 tk_4 rfl rfl h43) rfl rfl rfl ?_
            refine JL.val (v := .bool (gd x12 (gd (gd x3 x13) d27))) (QV.el1 (Rdg.of 4 rfl) tk_4 rfl h43 rfl) rfl rfl rfl ?_
            refine JL.val (v := .bool (!(gd x12 (gd (gd x3 x13) d27)))) (QV.not rfl) rfl rfl rfl ?_
            refine JL.val (v := .bool (!(gd x12 (gd (gd x3 x13) d27)))) (QV.pickT rfl rfl) rfl rfl rfl ?_
            refine JL.nil ?_
            refine QJ.then_normal ?_
            refine JC.cutK (Y := (List Int) × SlV) (fun y => match y with | (d45, _) => F43.j3 x3 x13 d24 d27 (d45) = some s35) (fun y => match y with | (d45, z44) => [(0, .pointer (some ⟨b1, 0, none⟩)), (25, (gd z4 x13).v), (26, .int .i64 (((gd x3 x13)).length : Int)), (27, .int .i64 d27)]) (fun y => match y with | (d45, z44) => [Asr.vn (NE.sl (Enc.int .i64)) (s2.v) z4 x3, Asr.of 3 (Enc.int .i64) (s5.v) (List.set d24 (Int.toNat (gd (gd x3 x13) d27)) (IntKind.wrap .i64 ((gd d24 (gd (gd x3 x13) d27)) - (1 : Int)))), Asr.of 3 (Enc.int .i64) (z44.v) d45, Asr.of 4 Enc.bool (s9.v) (List.set x10 (Int.toNat x13) true), Asr.of 4 Enc.bool (s11.v) x12, Asr.blk b1 82 [Seg.c (s2.v), Seg.c (s5.v), Seg.c (z44.v), Seg.c (s9.v), Seg.c (s11.v)], Asr.vw (Enc.int .i64) ((gd z4 x13).v) (gd x3 x13)]) ?_ ?_
            ·
              rintro ⟨d45, z44⟩ hm
              unfold F43.j3 at hm
              show QJ _ _ [(0, .pointer (some ⟨b1, 0, none⟩)), (25, (gd z4 x13).v), (26, .int .i64 (((gd x3 x13)).length : Int)), (27, .int .i64 d27)] [Asr.vn (NE.sl (Enc.int .i64)) (s2.v) z4 x3, Asr.of 3 (Enc.int .i64) (s5.v) (List.set d24 (Int.toNat (gd (gd x3 x13) d27)) (IntKind.wrap .i64 ((gd d24 (gd (gd x3 x13) d27)) - (1 : Int)))), Asr.of 3 (Enc.int .i64) (z44.v) d45, Asr.of 4 Enc.bool (s9.v) (List.set x10 (Int.toNat x13) true), Asr.of 4 Enc.bool (s11.v) x12, Asr.blk b1 82 [Seg.c (s2.v), Seg.c (s5.v), Seg.c (z44.v), Seg.c (s9.v), Seg.c (s11.v)], Asr.vw (Enc.int .i64) ((gd z4 x13).v) (gd x3 x13)] _ _
              refine QJ.block_normal ?_
              exact QJ.cut_normal (d45, z44) hm [0, 1, 2, 3, 4, 5, 6] (by exact ⟨rfl, rfl, rfl, rfl, trivial⟩) rfl rfl
            ·
              rcases ite_inv hm with ⟨h46, hm⟩ | ⟨h46, hm⟩
              ·
                refine JC.condF' rfl (congrArg Bool.not h46) ?_
                refine JC.skip ?_
                exact QJ.cut_normal (d26, z25) hm [0, 1, 2, 3, 4, 5, 6] (by exact ⟨rfl, rfl, rfl, rfl, trivial⟩) rfl rfl
              ·
                refine JC.condT' rfl (congrArg Bool.not (bfalse h46)) ?_
                refine JC.region ?_
                refine JL.val (v := .pointer (some ⟨b1, 0, none⟩)) (QV.move rfl) rfl rfl rfl ?_
                refine JL.val (v := .pointer (some ⟨b1, 0, none⟩)) (QV.nilCheck rfl) rfl rfl rfl ?_
                refine JL.val (v := .pointer (some ⟨b1, 2, none⟩)) (QV.fieldB fo_82_2 rfl rfl) rfl rfl rfl ?_
                refine JL.val (v := .iface 84 (.pointer (some ⟨b1, 2, none⟩))) (QV.mkIface Try.underlying84 rfl rfl) rfl rfl rfl ?_
                refine JL.val (v := .int .i64 (gd (gd x3 x13) d27)) (QV.move rfl) rfl rfl rfl ?_
                refine JL.val (v := .iface 3 (.int .i64 (gd (gd x3 x13) d27))) (QV.mkIface Try.underlying3 rfl rfl) rfl rfl rfl ?_
                obtain ⟨y47, hc48, hm⟩ := bind_inv hm
                refine JL.mv (d := some 64) (MV.call (Lo := [Asr.blk b1 82 [Seg.c (s2.v), Seg.c (s5.v), Seg.c (z25.v), Seg.c (s9.v), Seg.c (s11.v)], Asr.of 3 (Enc.int .i64) (s5.v) (List.set d24 (Int.toNat (gd (gd x3 x13) d27)) (IntKind.wrap .i64 ((gd d24 (gd (gd x3 x13) d27)) - (1 : Int)))), Asr.of 3 (Enc.int .i64) (z25.v) d26, Asr.of 4 Enc.bool (s9.v) (List.set x10 (Int.toNat x13) true), Asr.of 4 Enc.bool (s11.v) x12]) (Lr := [Asr.vn (NE.sl (Enc.int .i64)) (s2.v) z4 x3, Asr.vw (Enc.int .i64) ((gd z4 x13).v) (gd x3 x13)]) (F40.spec (b1) (s2) (z4) (s5) (z25) (s9) (s11) (x3) ((List.set d24 (Int.toNat (gd (gd x3 x13) d27)) (IntKind.wrap .i64 ((gd d24 (gd (gd x3 x13) d27)) - (1 : Int))))) (d26) ((List.set x10 (Int.toNat x13) true)) (x12) ((gd (gd x3 x13) d27)) _ hc48) rfl Try.func40 rfl rfl rfl [5, 1, 2, 3, 4] [0, 6] rfl rfl rfl ⟨(Drv.vn 0 rfl), trivial⟩) rfl rfl rfl ?_
                rintro _ _ ⟨_, ⟨z49, rfl, rfl⟩, rfl⟩
                refine JL.nil ?_
                exact QJ.cut_normal (y47, z49) hm [4, 0, 1, 2, 3, 5, 7] (by exact ⟨rfl, rfl, rfl, rfl, trivial⟩) rfl rfl
          ·
            refine JL.val (v := .bool false) (QV.eq (QV.move rfl) (congrArg Value.bool (decide_eq_false h42))) rfl rfl rfl ?_
            refine JL.skip (d := some 49) rfl rfl rfl ?_
            refine JL.skip (d := some 50) rfl rfl rfl ?_
            refine JL.skip (d := some 51) rfl rfl rfl ?_
            refine JL.skip (d := some 52) rfl rfl rfl ?_
            refine JL.skip (d := some 53) rfl rfl rfl ?_
            refine JL.skip (d := some 54) rfl rfl rfl ?_
            refine JL.skip (d := some 55) rfl rfl rfl ?_
            refine JL.skip (d := some 56) rfl rfl rfl ?_
            refine JL.val (v := .bool false) (QV.pickF rfl rfl) rfl rfl rfl ?_
            refine JL.nil ?_
            refine QJ.then_normal ?_
            refine JC.condF rfl ?_
            refine JC.skip ?_
            refine QJ.block_normal ?_
            exact QJ.cut_normal (d26, z25) hm [0, 1, 2, 3, 4, 5, 6] (by exact ⟨rfl, rfl, rfl, rfl, trivial⟩) rfl rfl
      ·
        refine JC.condF' rfl (decide_eq_false h36) ?_
        refine JC.exit ?_
        refine QJ.then_exit ?_
        obtain rfl := Option.some.inj hm
        refine QJ.round_exit (fun hy => ?_)
        subst hy
        refine QJ.block_hit ?_
        exact QJ.cut_normal ((d24, d26), z25) hmo34 [1, 2, 3, 4, 0, 5] trivial rfl rfl

/-! ### 13: drogher/order.Of -/
noncomputable def F13.j3  (d28 : List Int) (d30 : List Int) : Option (List Int × List Int × Int) :=
  some (d28, d30, (0 : Int))
noncomputable def F13.j4  (d56 : List Int) (d58 : List Int) (d59 : List Bool) (d60 : List Bool) (d62 : List Int) (d64 : List Int) (d65 : Int) : Option ((List Int × List Int × List Bool × List Bool × List Int × List Int × Int) ⊕ (List Int × List Int)) :=
  some (.inl (d56, d58, d59, d60, d62, d64, d65))
noncomputable def F13.j5 (x2 : List (List Int)) (d31 : List Int) (d33 : List Int) (d34 : List Bool) (d35 : List Bool) (d37 : List Int) (d39 : List Int) (d79 : Int) : Option ((List Int × List Int × List Bool × List Bool × List Int × List Int × Int) ⊕ (List Int × List Int)) :=
  (if ((d39).length + ([d79]).length) * 8 ≤ 140737488355328 ∧ (d39).length + ([d79]).length ≤ 9223372036854775807 then ((F43.m (x2) (d31) (d33) (d34) (d35) (d79)).bind fun y83 => F13.j4 (y83.1) (y83.2.1) (y83.2.2) (d35) (d37) ((d39 ++ [d79])) (d79)) else none)
noncomputable def F13.b2 (d34 : List Bool) (d35 : List Bool) : Int → Option (Int ⊕ Int)
  | d86 => (if 0 ≤ d86 ∧ d86 < ((d35).length : Int) then (if (gd d35 d86) = true then some (.inl (IntKind.wrap .i64 (d86 + (1 : Int)))) else (if 0 ≤ d86 ∧ d86 < ((d34).length : Int) then (if (gd d34 d86) = true then some (.inl (IntKind.wrap .i64 (d86 + (1 : Int)))) else some (.inr d86)) else none)) else none)
noncomputable def F13.b1 (x2 : List (List Int)) : (List Int × List Int × List Bool × List Bool × List Int × List Int × Int) → Option ((List Int × List Int × List Bool × List Bool × List Int × List Int × Int) ⊕ (List Int × List Int))
  | (d31, d33, d34, d35, d37, d39, d40) => (if ((d37).length : Int) < ((x2).length : Int) then ((F41.m (x2) (d31) (d33) (d34) (d35)).bind fun y66 => (if (0 : Int) < y66 then ((F42.m (x2) (d31) (d33) (d34) (d35)).bind fun y69 => (if 0 ≤ y69.1 ∧ y69.1 < ((d35).length : Int) then (if ((d37).length + ([y69.1]).length) * 8 ≤ 140737488355328 ∧ (d37).length + ([y69.1]).length ≤ 9223372036854775807 then ((F43.m (x2) (d31) (y69.2) (d34) ((List.set d35 (Int.toNat y69.1) true)) (y69.1)).bind fun y76 => F13.j4 (y76.1) (y76.2.1) (y76.2.2) ((List.set d35 (Int.toNat y69.1) true)) ((d37 ++ [y69.1])) (d39) (d40)) else none) else none)) else ((loop (F13.b2 d34 d35) d40).bind fun y => match y with | d79 => F13.j5 x2 d31 d33 d34 d35 d37 d39 (d79)))) else some (.inr (d37, d39)))
noncomputable def F13.j2 (x2 : List (List Int)) (d24 : List Int) (d26 : List Int) : Option (List Int × List Int × Int) :=
  ((loop (F13.b1 x2) (d24, d26, (List.replicate (Int.toNat ((x2).length : Int)) false), (List.replicate (Int.toNat ((x2).length : Int)) false), ([] : List Int), ([] : List Int), (0 : Int))).bind fun y => match y with | (d28, d30) => F13.j3 (d28) (d30))
noncomputable def F13.j6 (y9 : (List (List Int) × Int)) (d96 : List Int) (d99 : Int) (d112 : List Int) : Option ((List Int × List Int × Int) ⊕ (List Int × List Int)) :=
  some (.inl ((List.set d96 (Int.toNat d99) (((gd y9.1 d99)).length : Int)), d112, (IntKind.wrap .i64 (d99 + (1 : Int)))))
noncomputable def F13.b3 (x2 : List (List Int)) (y9 : (List (List Int) × Int)) : (List Int × List Int × Int) → Option ((List Int × List Int × Int) ⊕ (List Int × List Int))
  | (d96, d98, d99) => (if d99 < ((y9.1).length : Int) then (if 0 ≤ d99 ∧ d99 < ((y9.1).length : Int) then (if 0 ≤ d99 ∧ d99 < ((d96).length : Int) then (if (((gd y9.1 d99)).length : Int) = (0 : Int) then ((F40.m (x2) ((List.set d96 (Int.toNat d99) (((gd y9.1 d99)).length : Int))) (d98) ((List.replicate (Int.toNat ((x2).length : Int)) false)) ((List.replicate (Int.toNat ((x2).length : Int)) false)) (d99)).bind fun y114 => F13.j6 y9 d96 d99 (y114)) else F13.j6 y9 d96 d99 (d98)) else none) else none) else some (.inr (d96, d98)))
noncomputable def F13.j1 (x2 : List (List Int)) (y9 : (List (List Int) × Int))  : Option (List Int × List Int × Int) :=
  ((loop (F13.b3 x2 y9) ((List.replicate (Int.toNat ((x2).length : Int)) (0 : Int)), ([] : List Int), (0 : Int))).bind fun y => match y with | (d24, d26) => F13.j2 x2 (d24) (d26))
noncomputable def F13.m (x2 : List (List Int)) : Option (List Int × List Int × Int) :=
  ((F39.m (x2)).bind fun y9 => (if y9.2 = (0 : Int) then (if 0 ≤ ((x2).length : Int) ∧ ((x2).length : Int) * 8 ≤ 281474976710656 ∧ ((x2).length : Int) ≤ 9223372036854775807 then (if 0 ≤ ((x2).length : Int) ∧ ((x2).length : Int) * 1 ≤ 281474976710656 ∧ ((x2).length : Int) ≤ 9223372036854775807 then F13.j1 x2 y9 else none) else none) else some (([] : List Int), ([] : List Int), y9.2)))
set_option maxRecDepth 100000 in
set_option maxHeartbeats 4000000 in
theorem F13.spec (s1 : SlV) (z3 : List SlV) (x2 : List (List Int)) (r : (List Int × List Int × Int)) (hm : F13.m x2 = some r) :
    Ctr Try.prog false 13 [s1.v] [Asr.vn (NE.sl (Enc.int .i64)) (s1.v) z3 x2] (fun v L' => ∃ (g4 : SlV), ∃ (g6 : SlV), v = .tuple #[g4.v, g6.v, .int .i64 r.2.2] ∧ L' = [Asr.of 3 (Enc.int .i64) (g4.v) r.1, Asr.of 3 (Enc.int .i64) (g6.v) r.2.1]) := by
  refine Ctr.intro (n := 115) (env := [(0, s1.v)]) Try.func13 rfl rfl rfl rfl (fun c => ?_)
  unfold F13.m at hm
  refine JC.seq ?_
  refine JC.region ?_
  refine JL.ent (fun _ hs => hs.nil 3 (Enc.int .i64)) ?_
  refine JL.val (v := SlV.nil.v) (QV.assign rfl) rfl rfl rfl ?_
  refine JL.ent (fun _ hs => hs.nil 3 (Enc.int .i64)) ?_
  refine JL.val (v := SlV.nil.v) (QV.assign rfl) rfl rfl rfl ?_
  refine JL.val (v := .int .i64 (0 : Int)) (QV.assign rfl) rfl rfl rfl ?_
  refine JL.nil ?_
  refine QJ.then_normal ?_
  refine JC.seq ?_
  refine JC.region ?_
  refine JL.val (v := s1.v) (QV.move rfl) rfl rfl rfl ?_
  obtain ⟨y9, hc10, hm⟩ := bind_inv hm
  refine JL.mv (d := some 17) (MV.call (Lo := []) (Lr := [Asr.of 3 (Enc.int .i64) (SlV.nil.v) ([] : List Int), Asr.of 3 (Enc.int .i64) (SlV.nil.v) ([] : List Int), Asr.vn (NE.sl (Enc.int .i64)) (s1.v) z3 x2]) (F39.spec (s1) (z3) (x2) _ hc10) rfl Try.func39 rfl rfl rfl [] [0, 1, 2] rfl rfl rfl ⟨(Drv.vn 2 rfl), trivial⟩) rfl rfl rfl ?_
  rintro _ _ ⟨_, ⟨z11, z12, rfl, rfl⟩, rfl⟩
  refine JL.val (v := .tuple #[z11.v, .int .i64 y9.2]) (QV.move rfl) rfl rfl rfl ?_
  refine JL.val (v := z11.v) (QV.extract (vs := [z11.v, .int .i64 y9.2]) rfl rfl) rfl rfl rfl ?_
  refine JL.val (v := .int .i64 y9.2) (QV.extract (vs := [z11.v, .int .i64 y9.2]) rfl rfl) rfl rfl rfl ?_
  refine JL.val (v := z11.v) (QV.assign rfl) rfl rfl rfl ?_
  refine JL.val (v := .int .i64 y9.2) (QV.assign rfl) rfl rfl rfl ?_
  refine JL.nil ?_
  refine QJ.then_normal ?_
  refine JC.seq ?_
  refine JC.seq ?_
  refine JC.region ?_
  refine JL.val (v := .int .i64 y9.2) (QV.move rfl) rfl rfl rfl ?_
  refine JL.val (v := .bool (!(decide (y9.2 = (0 : Int))))) (QV.neq rfl rfl) rfl rfl rfl ?_
  refine JL.nil ?_
  refine QJ.then_normal ?_
  rcases ite_inv hm with ⟨h13, hm⟩ | ⟨h13, hm⟩
  ·
    refine JC.condF' rfl (congrArg Bool.not (decide_eq_true h13)) ?_
    refine JC.skip ?_
    refine QJ.then_normal ?_
    refine JC.seq ?_
    refine JC.region ?_
    refine JL.val (v := s1.v) (QV.move rfl) rfl rfl rfl ?_
    refine JL.val (v := .int .i64 ((x2).length : Int)) (QV.lenN (RdN.vn 3 rfl) Try.underlying22 rfl) rfl rfl rfl ?_
    refine JL.val (v := .int .i64 ((x2).length : Int)) (QV.assign rfl) rfl rfl rfl ?_
    refine JL.nil ?_
    refine QJ.then_normal ?_
    refine JC.seq ?_
    obtain ⟨h14, hm⟩ := guard_inv hm
    obtain ⟨h16, hm⟩ := guard_inv hm
    refine JC.cutK (Y := Unit × (Nat × SlV × SlV × SlV)) (fun y => match y with | (_, _) => F13.j1 x2 y9 = some r) (fun y => match y with | (_, (z20, z21, z22, z23)) => [(5, z11.v), (7, .int .i64 ((x2).length : Int)), (8, .pointer (some ⟨z20, 0, none⟩))]) (fun y => match y with | (_, (z20, z21, z22, z23)) => [Asr.vn (NE.sl (Enc.int .i64)) (z11.v) z12 y9.1, Asr.vn (NE.sl (Enc.int .i64)) (s1.v) z3 x2, Asr.of 3 (Enc.int .i64) (z21.v) (List.replicate (Int.toNat ((x2).length : Int)) (0 : Int)), Asr.of 3 (Enc.int .i64) (SlV.nil.v) ([] : List Int), Asr.of 4 Enc.bool (z22.v) (List.replicate (Int.toNat ((x2).length : Int)) false), Asr.of 4 Enc.bool (z23.v) (List.replicate (Int.toNat ((x2).length : Int)) false), Asr.blk z20 82 [Seg.c (s1.v), Seg.c (z21.v), Seg.c (SlV.nil.v), Seg.c (z22.v), Seg.c (z23.v)]]) ?_ ?_
    ·
      rintro ⟨⟨⟩, ⟨z20, z21, z22, z23⟩⟩ hm
      unfold F13.j1 at hm
      show QJ _ _ [(5, z11.v), (7, .int .i64 ((x2).length : Int)), (8, .pointer (some ⟨z20, 0, none⟩))] [Asr.vn (NE.sl (Enc.int .i64)) (z11.v) z12 y9.1, Asr.vn (NE.sl (Enc.int .i64)) (s1.v) z3 x2, Asr.of 3 (Enc.int .i64) (z21.v) (List.replicate (Int.toNat ((x2).length : Int)) (0 : Int)), Asr.of 3 (Enc.int .i64) (SlV.nil.v) ([] : List Int), Asr.of 4 Enc.bool (z22.v) (List.replicate (Int.toNat ((x2).length : Int)) false), Asr.of 4 Enc.bool (z23.v) (List.replicate (Int.toNat ((x2).length : Int)) false), Asr.blk z20 82 [Seg.c (s1.v), Seg.c (z21.v), Seg.c (SlV.nil.v), Seg.c (z22.v), Seg.c (z23.v)]] _ _
      refine QJ.then_normal ?_
      refine JC.seq ?_
      refine JC.seq ?_
      refine JC.region ?_
      refine JL.val (v := z11.v) (QV.move rfl) rfl rfl rfl ?_
      refine JL.val (v := .int .i64 ((y9.1).length : Int)) (QV.lenN (RdN.vn 0 rfl) Try.underlying22 rfl) rfl rfl rfl ?_
      refine JL.val (v := .int .i64 (0 : Int)) (QV.move rfl) rfl rfl rfl ?_
      refine JL.nil ?_
      refine QJ.then_normal ?_
      refine JC.cutK (Y := (List Int × List Int) × SlV) (fun y => match y with | ((d24, d26), _) => F13.j2 x2 (d24) (d26) = some r) (fun y => match y with | ((d24, d26), z25) => [(7, .int .i64 ((x2).length : Int)), (8, .pointer (some ⟨z20, 0, none⟩))]) (fun y => match y with | ((d24, d26), z25) => [Asr.vn (NE.sl (Enc.int .i64)) (s1.v) z3 x2, Asr.of 3 (Enc.int .i64) (z21.v) d24, Asr.of 3 (Enc.int .i64) (z25.v) d26, Asr.of 4 Enc.bool (z22.v) (List.replicate (Int.toNat ((x2).length : Int)) false), Asr.of 4 Enc.bool (z23.v) (List.replicate (Int.toNat ((x2).length : Int)) false), Asr.blk z20 82 [Seg.c (s1.v), Seg.c (z21.v), Seg.c (z25.v), Seg.c (z22.v), Seg.c (z23.v)]]) ?_ ?_
      ·
        rintro ⟨⟨d24, d26⟩, z25⟩ hm
        unfold F13.j2 at hm
        show QJ _ _ [(7, .int .i64 ((x2).length : Int)), (8, .pointer (some ⟨z20, 0, none⟩))] [Asr.vn (NE.sl (Enc.int .i64)) (s1.v) z3 x2, Asr.of 3 (Enc.int .i64) (z21.v) d24, Asr.of 3 (Enc.int .i64) (z25.v) d26, Asr.of 4 Enc.bool (z22.v) (List.replicate (Int.toNat ((x2).length : Int)) false), Asr.of 4 Enc.bool (z23.v) (List.replicate (Int.toNat ((x2).length : Int)) false), Asr.blk z20 82 [Seg.c (s1.v), Seg.c (z21.v), Seg.c (z25.v), Seg.c (z22.v), Seg.c (z23.v)]] _ _
        refine QJ.then_normal ?_
        refine JC.seq ?_
        refine JC.region ?_
        refine JL.ent (fun _ hs => hs.nil 3 (Enc.int .i64)) ?_
        refine JL.val (v := SlV.nil.v) (QV.assign rfl) rfl rfl rfl ?_
        refine JL.ent (fun _ hs => hs.nil 3 (Enc.int .i64)) ?_
        refine JL.val (v := SlV.nil.v) (QV.assign rfl) rfl rfl rfl ?_
        refine JL.nil ?_
        refine QJ.then_normal ?_
        refine JC.seq ?_
        refine JC.region ?_
        refine JL.val (v := .int .i64 (0 : Int)) (QV.assign rfl) rfl rfl rfl ?_
        refine JL.nil ?_
        refine QJ.then_normal ?_
        refine JC.seq ?_
        refine JC.cutK (Y := (List Int × List Int) × (SlV × SlV)) (fun y => match y with | ((d28, d30), _) => F13.j3 (d28) (d30) = some r) (fun y => match y with | ((d28, d30), (z27, z29)) => [(11, z27.v), (12, z29.v)]) (fun y => match y with | ((d28, d30), (z27, z29)) => [Asr.of 3 (Enc.int .i64) (z27.v) d28, Asr.of 3 (Enc.int .i64) (z29.v) d30]) ?_ ?_
        ·
          rintro ⟨⟨d28, d30⟩, ⟨z27, z29⟩⟩ hm
          unfold F13.j3 at hm
          show QJ _ _ [(11, z27.v), (12, z29.v)] [Asr.of 3 (Enc.int .i64) (z27.v) d28, Asr.of 3 (Enc.int .i64) (z29.v) d30] _ _
          refine QJ.then_normal ?_
          refine JC.seq ?_
          refine JC.region ?_
          refine JL.val (v := z27.v) (QV.move rfl) rfl rfl rfl ?_
          refine JL.val (v := z29.v) (QV.move rfl) rfl rfl rfl ?_
          refine JL.val (v := z27.v) (QV.assign rfl) rfl rfl rfl ?_
          refine JL.val (v := z29.v) (QV.assign rfl) rfl rfl rfl ?_
          refine JL.val (v := .int .i64 (0 : Int)) (QV.assign rfl) rfl rfl rfl ?_
          refine JL.nil ?_
          refine QJ.then_normal ?_
          refine JC.ret ?_
          obtain rfl := Option.some.inj hm
          exact QJ.body (vs := [z27.v, z29.v, .int .i64 (0 : Int)]) (.inl rfl) rfl (ResVs.cons (ResV.tmp rfl) (ResVs.cons (ResV.tmp rfl) (ResVs.cons (ResV.tmp rfl) ResVs.nil))) [0, 1] rfl rfl (.inr ⟨own_of _ _ _ _, own_of _ _ _ _, trivial⟩) ⟨z27, z29, rfl, rfl⟩
        ·
          refine JC.block ?_
          obtain ⟨y51, hl52, hmo53⟩ := bind_inv hm
          refine JC.loop (F13.b1 x2) (fun x z => match x, z with | (d31, d33, d34, d35, d37, d39, d40), (z32, z36, z38) => [(7, .int .i64 ((x2).length : Int)), (8, .pointer (some ⟨z20, 0, none⟩)), (11, z36.v), (12, z38.v), (13, .int .i64 d40)]) (fun x z => match x, z with | (d31, d33, d34, d35, d37, d39, d40), (z32, z36, z38) => [Asr.vn (NE.sl (Enc.int .i64)) (s1.v) z3 x2, Asr.of 3 (Enc.int .i64) (z21.v) d31, Asr.of 3 (Enc.int .i64) (z32.v) d33, Asr.of 4 Enc.bool (z22.v) d34, Asr.of 4 Enc.bool (z23.v) d35, Asr.blk z20 82 [Seg.c (s1.v), Seg.c (z21.v), Seg.c (z32.v), Seg.c (z22.v), Seg.c (z23.v)], Asr.of 3 (Enc.int .i64) (z36.v) d37, Asr.of 3 (Enc.int .i64) (z38.v) d39]) (d24, d26, (List.replicate (Int.toNat ((x2).length : Int)) false), (List.replicate (Int.toNat ((x2).length : Int)) false), ([] : List Int), ([] : List Int), (0 : Int)) (z25, SlV.nil, SlV.nil) y51 hl52 [2, 3, 4, 5, 6, 7, 1, 0] (by exact ⟨rfl, rfl, rfl, rfl, rfl, trivial⟩) rfl rfl ?_
          rintro ⟨d31, d33, d34, d35, d37, d39, d40⟩ ⟨z32, z36, z38⟩ s54 hm
          unfold F13.b1 at hm
          dsimp only at hm
          show JC _ _ _ [(7, .int .i64 ((x2).length : Int)), (8, .pointer (some ⟨z20, 0, none⟩)), (11, z36.v), (12, z38.v), (13, .int .i64 d40)] [Asr.vn (NE.sl (Enc.int .i64)) (s1.v) z3 x2, Asr.of 3 (Enc.int .i64) (z21.v) d31, Asr.of 3 (Enc.int .i64) (z32.v) d33, Asr.of 4 Enc.bool (z22.v) d34, Asr.of 4 Enc.bool (z23.v) d35, Asr.blk z20 82 [Seg.c (s1.v), Seg.c (z21.v), Seg.c (z32.v), Seg.c (z22.v), Seg.c (z23.v)], Asr.of 3 (Enc.int .i64) (z36.v) d37, Asr.of 3 (Enc.int .i64) (z38.v) d39] _ _
          refine JC.seq ?_
          refine JC.seq ?_
          refine JC.region ?_
          refine JL.val (v := z36.v) (QV.move rfl) rfl rfl rfl ?_
          refine JL.val (v := .int .i64 ((d37).length : Int)) (QV.len (Rdg.of 6 rfl) Try.underlying25 rfl) rfl rfl rfl ?_
          refine JL.val (v := .int .i64 ((x2).length : Int)) (QV.move rfl) rfl rfl rfl ?_
          refine JL.val (v := .bool (decide (((d37).length : Int) < ((x2).length : Int)))) (QV.lss rfl rfl) rfl rfl rfl ?_
          refine JL.nil ?_
          refine QJ.then_normal ?_
          rcases ite_inv hm with ⟨h55, hm⟩ | ⟨h55, hm⟩
          ·
            refine JC.condT' rfl (decide_eq_true h55) ?_
            refine JC.skip ?_
            refine QJ.then_normal ?_
            refine JC.cutK (Y := (List Int × List Int × List Bool × List Bool × List Int × List Int × Int) × (SlV × SlV × SlV)) (fun y => match y with | ((d56, d58, d59, d60, d62, d64, d65), _) => F13.j4 (d56) (d58) (d59) (d60) (d62) (d64) (d65) = some s54) (fun y => match y with | ((d56, d58, d59, d60, d62, d64, d65), (z57, z61, z63)) => [(7, .int .i64 ((x2).length : Int)), (8, .pointer (some ⟨z20, 0, none⟩)), (11, z61.v), (12, z63.v), (13, .int .i64 d65)]) (fun y => match y with | ((d56, d58, d59, d60, d62, d64, d65), (z57, z61, z63)) => [Asr.vn (NE.sl (Enc.int .i64)) (s1.v) z3 x2, Asr.of 3 (Enc.int .i64) (z21.v) d56, Asr.of 3 (Enc.int .i64) (z57.v) d58, Asr.of 4 Enc.bool (z22.v) d59, Asr.of 4 Enc.bool (z23.v) d60, Asr.blk z20 82 [Seg.c (s1.v), Seg.c (z21.v), Seg.c (z57.v), Seg.c (z22.v), Seg.c (z23.v)], Asr.of 3 (Enc.int .i64) (z61.v) d62, Asr.of 3 (Enc.int .i64) (z63.v) d64]) ?_ ?_
            ·
              rintro ⟨⟨d56, d58, d59, d60, d62, d64, d65⟩, ⟨z57, z61, z63⟩⟩ hm
              unfold F13.j4 at hm
              show QJ _ _ [(7, .int .i64 ((x2).length : Int)), (8, .pointer (some ⟨z20, 0, none⟩)), (11, z61.v), (12, z63.v), (13, .int .i64 d65)] [Asr.vn (NE.sl (Enc.int .i64)) (s1.v) z3 x2, Asr.of 3 (Enc.int .i64) (z21.v) d56, Asr.of 3 (Enc.int .i64) (z57.v) d58, Asr.of 4 Enc.bool (z22.v) d59, Asr.of 4 Enc.bool (z23.v) d60, Asr.blk z20 82 [Seg.c (s1.v), Seg.c (z21.v), Seg.c (z57.v), Seg.c (z22.v), Seg.c (z23.v)], Asr.of 3 (Enc.int .i64) (z61.v) d62, Asr.of 3 (Enc.int .i64) (z63.v) d64] _ _
              obtain rfl := Option.some.inj hm
              exact QJ.round_on (d56, d58, d59, d60, d62, d64, d65) (z57, z61, z63) [0, 1, 2, 3, 4, 5, 6, 7] (by exact ⟨rfl, rfl, rfl, rfl, rfl, trivial⟩) rfl rfl
            ·
              refine JC.block ?_
              refine JC.seq ?_
              refine JC.seq ?_
              refine JC.region ?_
              refine JL.val (v := .pointer (some ⟨z20, 0, none⟩)) (QV.move rfl) rfl rfl rfl ?_
              refine JL.val (v := .pointer (some ⟨z20, 0, none⟩)) (QV.nilCheck rfl) rfl rfl rfl ?_
              refine JL.val (v := .pointer (some ⟨z20, 2, none⟩)) (QV.fieldB fo_82_2 rfl rfl) rfl rfl rfl ?_
              obtain ⟨y66, hc67, hm⟩ := bind_inv hm
              refine JL.mv (d := some 67) (MV.call (Lo := [Asr.blk z20 82 [Seg.c (s1.v), Seg.c (z21.v), Seg.c (z32.v), Seg.c (z22.v), Seg.c (z23.v)], Asr.of 3 (Enc.int .i64) (z21.v) d31, Asr.of 3 (Enc.int .i64) (z32.v) d33, Asr.of 4 Enc.bool (z22.v) d34, Asr.of 4 Enc.bool (z23.v) d35]) (Lr := [Asr.vn (NE.sl (Enc.int .i64)) (s1.v) z3 x2, Asr.of 3 (Enc.int .i64) (z36.v) d37, Asr.of 3 (Enc.int .i64) (z38.v) d39]) (F41.spec (z20) (s1) (z3) (z21) (z32) (z22) (z23) (x2) (d31) (d33) (d34) (d35) _ hc67) rfl Try.func41 rfl rfl rfl [5, 1, 2, 3, 4] [0, 6, 7] rfl rfl rfl ⟨(Drv.vn 0 rfl), trivial⟩) rfl rfl rfl ?_
              rintro _ _ ⟨_, ⟨rfl, rfl⟩, rfl⟩
              refine JL.val (v := .bool (decide ((0 : Int) < y66))) (QV.gtr rfl rfl) rfl rfl rfl ?_
              refine JL.nil ?_
              refine QJ.then_normal ?_
              rcases ite_inv hm with ⟨h68, hm⟩ | ⟨h68, hm⟩
              ·
                refine JC.condT' rfl (decide_eq_true h68) ?_
                refine JC.seq ?_
                refine JC.region ?_
                refine JL.val (v := .pointer (some ⟨z20, 0, none⟩)) (QV.move rfl) rfl rfl rfl ?_
                refine JL.val (v := .pointer (some ⟨z20, 0, none⟩)) (QV.nilCheck rfl) rfl rfl rfl ?_
                refine JL.val (v := .pointer (some ⟨z20, 2, none⟩)) (QV.fieldB fo_82_2 rfl rfl) rfl rfl rfl ?_
                refine JL.val (v := .iface 84 (.pointer (some ⟨z20, 2, none⟩))) (QV.mkIface Try.underlying84 rfl rfl) rfl rfl rfl ?_
                obtain ⟨y69, hc70, hm⟩ := bind_inv hm
                refine JL.mv (d := some 73) (MV.call (Lo := [Asr.blk z20 82 [Seg.c (s1.v), Seg.c (z21.v), Seg.c (z32.v), Seg.c (z22.v), Seg.c (z23.v)], Asr.of 3 (Enc.int .i64) (z21.v) d31, Asr.of 3 (Enc.int .i64) (z32.v) d33, Asr.of 4 Enc.bool (z22.v) d34, Asr.of 4 Enc.bool (z23.v) d35]) (Lr := [Asr.vn (NE.sl (Enc.int .i64)) (s1.v) z3 x2, Asr.vn (NE.sl (Enc.int .i64)) (s1.v) z3 x2, Asr.of 3 (Enc.int .i64) (z36.v) d37, Asr.of 3 (Enc.int .i64) (z38.v) d39]) (F42.spec (z20) (s1) (z3) (z21) (z32) (z22) (z23) (x2) (d31) (d33) (d34) (d35) _ hc70) rfl Try.func42 rfl rfl rfl [5, 0, 1, 2, 3] [4, 6, 7, 8] rfl rfl rfl ⟨(Drv.vn 0 rfl), trivial⟩) rfl rfl rfl ?_
                rintro _ _ ⟨_, ⟨z71, rfl, rfl⟩, rfl⟩
                refine JL.val (v := .int .i64 y69.1) (QV.asrt Try.underlying3 rfl rfl) rfl rfl rfl ?_
                refine JL.val (v := .int .i64 y69.1) (QV.assign rfl) rfl rfl rfl ?_
                refine JL.nil ?_
                refine QJ.then_normal ?_
                refine JC.seq ?_
                refine JC.region ?_
                refine JL.val (v := .pointer (some ⟨z20, 0, none⟩)) (QV.move rfl) rfl rfl rfl ?_
                refine JL.val (v := .pointer (some ⟨z20, 0, none⟩)) (QV.nilCheck rfl) rfl rfl rfl ?_
                refine JL.val (v := .pointer (some ⟨z20, 4, none⟩)) (QV.fieldB fo_82_4 rfl rfl) rfl rfl rfl ?_
                refine JL.val (v := z23.v) (QV.load1 (ss := [Seg.c (s1.v), Seg.c (z21.v), Seg.c (z71.v), Seg.c (z22.v), Seg.c (z23.v)]) 5 4 rfl tk_78 rfl rfl rfl) rfl rfl rfl ?_
                refine JL.val (v := .int .i64 y69.1) (QV.move rfl) rfl rfl rfl ?_
                obtain ⟨h72, hm⟩ := guard_inv hm
                refine JL.val (v := .pointer (some (elA (z23.v) (Int.toNat y69.1 * (Enc.bool).sz)))) (QV.indexA (Rdg.of 3 rfl) Try.underlying78 tk_4 rfl rfl h72) rfl rfl rfl ?_
                refine JL.mv (d := none) (MV.storeEl 3 true rfl tk_4 rfl rfl h72 rfl) rfl rfl rfl ?_
                rintro _ _ ⟨rfl, rfl⟩
                refine JL.nil ?_
                refine QJ.then_normal ?_
                refine JC.seq ?_
                refine JC.region ?_
                refine JL.val (v := z36.v) (QV.move rfl) rfl rfl rfl ?_
                refine JL.val (v := .int .i64 y69.1) (QV.move rfl) rfl rfl rfl ?_
                refine JL.mv (d := some 83) (MV.lit (E := (Enc.int .i64)) (vals := [(0, .int .i64 y69.1)]) [y69.1] Try.underlying25 zi_3 rfl (by decide) rfl (by kernel_rfl)) rfl rfl rfl ?_
                rintro _ _ ⟨z73, rfl, rfl⟩
                obtain ⟨h74, hm⟩ := guard_inv hm
                refine JL.mv (d := some 84) (MV.append 9 rfl (Rdg.of 0 rfl) Try.underlying25 zi_3 rfl (by decide) rfl rfl h74) rfl rfl rfl ?_
                rintro _ _ ⟨z75, rfl, rfl⟩
                refine JL.val (v := z75.v) (QV.assign rfl) rfl rfl rfl ?_
                refine JL.nil ?_
                refine QJ.then_normal ?_
                refine JC.seq ?_
                refine JC.region ?_
                refine JL.val (v := .pointer (some ⟨z20, 0, none⟩)) (QV.move rfl) rfl rfl rfl ?_
                refine JL.val (v := .int .i64 y69.1) (QV.move rfl) rfl rfl rfl ?_
                obtain ⟨y76, hc77, hm⟩ := bind_inv hm
                refine JL.mv (d := some 87) (MV.call (Lo := [Asr.blk z20 82 [Seg.c (s1.v), Seg.c (z21.v), Seg.c (z71.v), Seg.c (z22.v), Seg.c (z23.v)], Asr.of 3 (Enc.int .i64) (z21.v) d31, Asr.of 3 (Enc.int .i64) (z71.v) y69.2, Asr.of 4 Enc.bool (z22.v) d34, Asr.of 4 Enc.bool (z23.v) (List.set d35 (Int.toNat y69.1) true)]) (Lr := [Asr.of 3 (Enc.int .i64) (z73.v) [y69.1], Asr.vn (NE.sl (Enc.int .i64)) (s1.v) z3 x2, Asr.vn (NE.sl (Enc.int .i64)) (s1.v) z3 x2, Asr.vn (NE.sl (Enc.int .i64)) (s1.v) z3 x2, Asr.of 3 (Enc.int .i64) (z75.v) (d37 ++ [y69.1]), Asr.of 3 (Enc.int .i64) (z38.v) d39]) (F43.spec (z20) (s1) (z3) (z21) (z71) (z22) (z23) (x2) (d31) (y69.2) (d34) ((List.set d35 (Int.toNat y69.1) true)) (y69.1) _ hc77) rfl Try.func43 rfl rfl rfl [6, 1, 2, 3, 4] [0, 5, 7, 8, 9, 10] rfl rfl rfl ⟨(Drv.vn 1 rfl), trivial⟩) rfl rfl rfl ?_
                rintro _ _ ⟨_, ⟨z78, rfl, rfl⟩, rfl⟩
                refine JL.nil ?_
                refine QJ.then_normal ?_
                refine JC.exit ?_
                refine QJ.then_exit ?_
                refine QJ.block_hit ?_
                exact QJ.cut_normal ((y76.1, y76.2.1, y76.2.2, (List.set d35 (Int.toNat y69.1) true), (d37 ++ [y69.1]), d39, d40), (z78, z75, z38)) hm [4, 0, 1, 2, 3, 5, 10, 11] (by exact ⟨rfl, rfl, rfl, rfl, rfl, trivial⟩) rfl rfl
              ·
                refine JC.condF' rfl (decide_eq_false h68) ?_
                refine JC.skip ?_
                refine QJ.then_normal ?_
                refine JC.seq ?_
                refine JC.cutK (Y := Int × Unit) (fun y => match y with | (d79, _) => F13.j5 x2 d31 d33 d34 d35 d37 d39 (d79) = some s54) (fun y => match y with | (d79, _) => [(7, .int .i64 ((x2).length : Int)), (8, .pointer (some ⟨z20, 0, none⟩)), (11, z36.v), (12, z38.v), (13, .int .i64 d79)]) (fun y => match y with | (d79, _) => [Asr.vn (NE.sl (Enc.int .i64)) (s1.v) z3 x2, Asr.of 3 (Enc.int .i64) (z21.v) d31, Asr.of 3 (Enc.int .i64) (z32.v) d33, Asr.of 4 Enc.bool (z22.v) d34, Asr.of 4 Enc.bool (z23.v) d35, Asr.blk z20 82 [Seg.c (s1.v), Seg.c (z21.v), Seg.c (z32.v), Seg.c (z22.v), Seg.c (z23.v)], Asr.of 3 (Enc.int .i64) (z36.v) d37, Asr.of 3 (Enc.int .i64) (z38.v) d39]) ?_ ?_
                ·
                  rintro ⟨d79, ⟨⟩⟩ hm
                  unfold F13.j5 at hm
                  show QJ _ _ [(7, .int .i64 ((x2).length : Int)), (8, .pointer (some ⟨z20, 0, none⟩)), (11, z36.v), (12, z38.v), (13, .int .i64 d79)] [Asr.vn (NE.sl (Enc.int .i64)) (s1.v) z3 x2, Asr.of 3 (Enc.int .i64) (z21.v) d31, Asr.of 3 (Enc.int .i64) (z32.v) d33, Asr.of 4 Enc.bool (z22.v) d34, Asr.of 4 Enc.bool (z23.v) d35, Asr.blk z20 82 [Seg.c (s1.v), Seg.c (z21.v), Seg.c (z32.v), Seg.c (z22.v), Seg.c (z23.v)], Asr.of 3 (Enc.int .i64) (z36.v) d37, Asr.of 3 (Enc.int .i64) (z38.v) d39] _ _
                  refine QJ.then_normal ?_
                  refine JC.seq ?_
                  refine JC.region ?_
                  refine JL.val (v := z38.v) (QV.move rfl) rfl rfl rfl ?_
                  refine JL.val (v := .int .i64 d79) (QV.move rfl) rfl rfl rfl ?_
                  refine JL.mv (d := some 108) (MV.lit (E := (Enc.int .i64)) (vals := [(0, .int .i64 d79)]) [d79] Try.underlying25 zi_3 rfl (by decide) rfl (by kernel_rfl)) rfl rfl rfl ?_
                  rintro _ _ ⟨z80, rfl, rfl⟩
                  obtain ⟨h81, hm⟩ := guard_inv hm
                  refine JL.mv (d := some 109) (MV.append 8 rfl (Rdg.of 0 rfl) Try.underlying25 zi_3 rfl (by decide) rfl rfl h81) rfl rfl rfl ?_
                  rintro _ _ ⟨z82, rfl, rfl⟩
                  refine JL.val (v := z82.v) (QV.assign rfl) rfl rfl rfl ?_
                  refine JL.nil ?_
                  refine QJ.then_normal ?_
                  refine JC.region ?_
                  refine JL.val (v := .pointer (some ⟨z20, 0, none⟩)) (QV.move rfl) rfl rfl rfl ?_
                  refine JL.val (v := .int .i64 d79) (QV.move rfl) rfl rfl rfl ?_
                  obtain ⟨y83, hc84, hm⟩ := bind_inv hm
                  refine JL.mv (d := some 112) (MV.call (Lo := [Asr.blk z20 82 [Seg.c (s1.v), Seg.c (z21.v), Seg.c (z32.v), Seg.c (z22.v), Seg.c (z23.v)], Asr.of 3 (Enc.int .i64) (z21.v) d31, Asr.of 3 (Enc.int .i64) (z32.v) d33, Asr.of 4 Enc.bool (z22.v) d34, Asr.of 4 Enc.bool (z23.v) d35]) (Lr := [Asr.of 3 (Enc.int .i64) (z80.v) [d79], Asr.vn (NE.sl (Enc.int .i64)) (s1.v) z3 x2, Asr.of 3 (Enc.int .i64) (z36.v) d37, Asr.of 3 (Enc.int .i64) (z82.v) (d39 ++ [d79])]) (F43.spec (z20) (s1) (z3) (z21) (z32) (z22) (z23) (x2) (d31) (d33) (d34) (d35) (d79) _ hc84) rfl Try.func43 rfl rfl rfl [6, 2, 3, 4, 5] [0, 1, 7, 8] rfl rfl rfl ⟨(Drv.vn 1 rfl), trivial⟩) rfl rfl rfl ?_
                  rintro _ _ ⟨_, ⟨z85, rfl, rfl⟩, rfl⟩
                  refine JL.nil ?_
                  refine QJ.block_normal ?_
                  exact QJ.cut_normal ((y83.1, y83.2.1, y83.2.2, d35, d37, (d39 ++ [d79]), d79), (z85, z36, z82)) hm [4, 0, 1, 2, 3, 5, 8, 9] (by exact ⟨rfl, rfl, rfl, rfl, rfl, trivial⟩) rfl rfl
                ·
                  refine JC.block ?_
                  obtain ⟨y88, hl89, hmo90⟩ := bind_inv hm
                  refine JC.loop (F13.b2 d34 d35) (fun x z => match x, z with | d86, _ => [(7, .int .i64 ((x2).length : Int)), (8, .pointer (some ⟨z20, 0, none⟩)), (11, z36.v), (12, z38.v), (13, .int .i64 d86)]) (fun x z => match x, z with | d86, _ => [Asr.vn (NE.sl (Enc.int .i64)) (s1.v) z3 x2, Asr.of 3 (Enc.int .i64) (z21.v) d31, Asr.of 3 (Enc.int .i64) (z32.v) d33, Asr.of 4 Enc.bool (z22.v) d34, Asr.of 4 Enc.bool (z23.v) d35, Asr.blk z20 82 [Seg.c (s1.v), Seg.c (z21.v), Seg.c (z32.v), Seg.c (z22.v), Seg.c (z23.v)], Asr.of 3 (Enc.int .i64) (z36.v) d37, Asr.of 3 (Enc.int .i64) (z38.v) d39]) d40 () y88 hl89 [4, 0, 1, 2, 3, 5, 7, 8] (by exact ⟨rfl, rfl, rfl, rfl, rfl, trivial⟩) rfl rfl ?_
                  rintro d86 ⟨⟩ s91 hm
                  unfold F13.b2 at hm
                  dsimp only at hm
                  show JC _ _ _ [(7, .int .i64 ((x2).length : Int)), (8, .pointer (some ⟨z20, 0, none⟩)), (11, z36.v), (12, z38.v), (13, .int .i64 d86)] [Asr.vn (NE.sl (Enc.int .i64)) (s1.v) z3 x2, Asr.of 3 (Enc.int .i64) (z21.v) d31, Asr.of 3 (Enc.int .i64) (z32.v) d33, Asr.of 4 Enc.bool (z22.v) d34, Asr.of 4 Enc.bool (z23.v) d35, Asr.blk z20 82 [Seg.c (s1.v), Seg.c (z21.v), Seg.c (z32.v), Seg.c (z22.v), Seg.c (z23.v)], Asr.of 3 (Enc.int .i64) (z36.v) d37, Asr.of 3 (Enc.int .i64) (z38.v) d39] _ _
                  refine JC.seq ?_
                  refine JC.seq ?_
                  refine JC.region ?_
                  refine JL.val (v := .pointer (some ⟨z20, 0, none⟩)) (QV.move rfl) rfl rfl rfl ?_
                  refine JL.val (v := .pointer (some ⟨z20, 0, none⟩)) (QV.nilCheck rfl) rfl rfl rfl ?_
                  refine JL.val (v := .pointer (some ⟨z20, 4, none⟩)) (QV.fieldB fo_82_4 rfl rfl) rfl rfl rfl ?_
                  refine JL.val (v := z23.v) (QV.load1 (ss := [Seg.c (s1.v), Seg.c (z21.v), Seg.c (z32.v), Seg.c (z22.v), Seg.c (z23.v)]) 5 4 rfl tk_78 rfl rfl rfl) rfl rfl rfl ?_
                  refine JL.val (v := .int .i64 d86) (QV.move rfl) rfl rfl rfl ?_
                  obtain ⟨h92, hm⟩ := guard_inv hm
                  refine JL.val (v := .pointer (some (elA (z23.v) (Int.toNat d86 * (Enc.bool).sz)))) (QV.indexA (Rdg.of 4 rfl) Try.underlying78 tk_4 rfl rfl h92) rfl rfl rfl ?_
                  refine JL.val (v := .bool (gd d35 d86)) (QV.el1 (Rdg.of 4 rfl) tk_4 rfl h92 rfl) rfl rfl rfl ?_
                  rcases ite_inv hm with ⟨h93, hm⟩ | ⟨h93, hm⟩
                  ·
                    refine JL.val (v := .bool true) (QV.eq (QV.move rfl) (congrArg Value.bool h93)) rfl rfl rfl ?_
                    refine JL.skip (d := some 96) rfl rfl rfl ?_
                    refine JL.skip (d := some 97) rfl rfl rfl ?_
                    refine JL.skip (d := some 98) rfl rfl rfl ?_
                    refine JL.skip (d := some 99) rfl rfl rfl ?_
                    refine JL.skip (d := some 100) rfl rfl rfl ?_
                    refine JL.skip (d := some 101) rfl rfl rfl ?_
                    refine JL.skip (d := some 102) rfl rfl rfl ?_
                    refine JL.val (v := .bool true) (QV.pickT rfl rfl) rfl rfl rfl ?_
                    refine JL.nil ?_
                    refine QJ.then_normal ?_
                    refine JC.condT rfl ?_
                    refine JC.skip ?_
                    refine QJ.then_normal ?_
                    refine JC.block ?_
                    refine JC.region ?_
                    refine JL.val (v := .int .i64 d86) (QV.move rfl) rfl rfl rfl ?_
                    refine JL.val (v := .int .i64 (IntKind.wrap .i64 (d86 + (1 : Int)))) (QV.add rfl rfl) rfl rfl rfl ?_
                    refine JL.val (v := .int .i64 (IntKind.wrap .i64 (d86 + (1 : Int)))) (QV.assign rfl) rfl rfl rfl ?_
                    refine JL.nil ?_
                    refine QJ.block_normal ?_
                    obtain rfl := Option.some.inj hm
                    exact QJ.round_on (IntKind.wrap .i64 (d86 + (1 : Int))) () [0, 1, 2, 3, 4, 5, 6, 7] (by exact ⟨rfl, rfl, rfl, rfl, rfl, trivial⟩) rfl rfl
                  ·
                    refine JL.val (v := .bool false) (QV.eq (QV.move rfl) (congrArg Value.bool (bfalse h93))) rfl rfl rfl ?_
                    refine JL.val (v := .pointer (some ⟨z20, 0, none⟩)) (QV.move rfl) rfl rfl rfl ?_
                    refine JL.val (v := .pointer (some ⟨z20, 0, none⟩)) (QV.nilCheck rfl) rfl rfl rfl ?_
                    refine JL.val (v := .pointer (some ⟨z20, 3, none⟩)) (QV.fieldB fo_82_3 rfl rfl) rfl rfl rfl ?_
                    refine JL.val (v := z22.v) (QV.load1 (ss := [Seg.c (s1.v), Seg.c (z21.v), Seg.c (z32.v), Seg.c (z22.v), Seg.c (z23.v)]) 5 3 rfl tk_78 rfl rfl rfl) rfl rfl rfl ?_
                    refine JL.val (v := .int .i64 d86) (QV.move rfl) rfl rfl rfl ?_
                    obtain ⟨h94, hm⟩ := guard_inv hm
                    refine JL.val (v := .pointer (some (elA (z22.v) (Int.toNat d86 * (Enc.bool).sz)))) (QV.indexA (Rdg.of 3 rfl) Try.underlying78 tk_4 rfl rfl h94) rfl rfl rfl ?_
                    refine JL.val (v := .bool (gd d34 d86)) (QV.el1 (Rdg.of 3 rfl) tk_4 rfl h94 rfl) rfl rfl rfl ?_
                    refine JL.val (v := .bool (gd d34 d86)) (QV.pickF rfl rfl) rfl rfl rfl ?_
                    refine JL.nil ?_
                    refine QJ.then_normal ?_
                    rcases ite_inv hm with ⟨h95, hm⟩ | ⟨h95, hm⟩
                    ·
                      refine JC.condT' rfl h95 ?_
                      refine JC.skip ?_
                      refine QJ.then_normal ?_
                      refine JC.block ?_
                      refine JC.region ?_
                      refine JL.val (v := .int .i64 d86) (QV.move rfl) rfl rfl rfl ?_
                      refine JL.val (v := .int .i64 (IntKind.wrap .i64 (d86 + (1 : Int)))) (QV.add rfl rfl) rfl rfl rfl ?_
                      refine JL.val (v := .int .i64 (IntKind.wrap .i64 (d86 + (1 : Int)))) (QV.assign rfl) rfl rfl rfl ?_
                      refine JL.nil ?_
                      refine QJ.block_normal ?_
                      obtain rfl := Option.some.inj hm
                      exact QJ.round_on (IntKind.wrap .i64 (d86 + (1 : Int))) () [0, 1, 2, 3, 4, 5, 6, 7] (by exact ⟨rfl, rfl, rfl, rfl, rfl, trivial⟩) rfl rfl
                    ·
                      refine JC.condF' rfl (bfalse h95) ?_
                      refine JC.exit ?_
                      refine QJ.then_exit ?_
                      obtain rfl := Option.some.inj hm
                      refine QJ.round_exit (fun hy => ?_)
                      subst hy
                      refine QJ.block_hit ?_
                      exact QJ.cut_normal (d86, ()) hmo90 [0, 1, 2, 3, 4, 5, 6, 7] (by exact ⟨rfl, rfl, rfl, rfl, rfl, trivial⟩) rfl rfl
          ·
            refine JC.condF' rfl (decide_eq_false h55) ?_
            refine JC.exit ?_
            refine QJ.then_exit ?_
            obtain rfl := Option.some.inj hm
            refine QJ.round_exit (fun hy => ?_)
            subst hy
            refine QJ.block_hit ?_
            exact QJ.cut_normal ((d37, d39), (z36, z38)) hmo53 [6, 7] (by exact ⟨rfl, rfl, trivial⟩) rfl rfl
      ·
        refine JC.block ?_
        obtain ⟨y104, hl105, hmo106⟩ := bind_inv hm
        refine JC.loop (F13.b3 x2 y9) (fun x z => match x, z with | (d96, d98, d99), z97 => [(7, .int .i64 ((x2).length : Int)), (8, .pointer (some ⟨z20, 0, none⟩)), (34, z11.v), (35, .int .i64 ((y9.1).length : Int)), (36, .int .i64 d99)]) (fun x z => match x, z with | (d96, d98, d99), z97 => [Asr.vn (NE.sl (Enc.int .i64)) (s1.v) z3 x2, Asr.of 3 (Enc.int .i64) (z21.v) d96, Asr.of 3 (Enc.int .i64) (z97.v) d98, Asr.of 4 Enc.bool (z22.v) (List.replicate (Int.toNat ((x2).length : Int)) false), Asr.of 4 Enc.bool (z23.v) (List.replicate (Int.toNat ((x2).length : Int)) false), Asr.blk z20 82 [Seg.c (s1.v), Seg.c (z21.v), Seg.c (z97.v), Seg.c (z22.v), Seg.c (z23.v)], Asr.vn (NE.sl (Enc.int .i64)) (z11.v) z12 y9.1]) ((List.replicate (Int.toNat ((x2).length : Int)) (0 : Int)), ([] : List Int), (0 : Int)) SlV.nil y104 hl105 [1, 2, 3, 4, 5, 6, 0] (by exact ⟨rfl, rfl, rfl, rfl, rfl, trivial⟩) rfl rfl ?_
        rintro ⟨d96, d98, d99⟩ z97 s107 hm
        unfold F13.b3 at hm
        dsimp only at hm
        show JC _ _ _ [(7, .int .i64 ((x2).length : Int)), (8, .pointer (some ⟨z20, 0, none⟩)), (34, z11.v), (35, .int .i64 ((y9.1).length : Int)), (36, .int .i64 d99)] [Asr.vn (NE.sl (Enc.int .i64)) (s1.v) z3 x2, Asr.of 3 (Enc.int .i64) (z21.v) d96, Asr.of 3 (Enc.int .i64) (z97.v) d98, Asr.of 4 Enc.bool (z22.v) (List.replicate (Int.toNat ((x2).length : Int)) false), Asr.of 4 Enc.bool (z23.v) (List.replicate (Int.toNat ((x2).length : Int)) false), Asr.blk z20 82 [Seg.c (s1.v), Seg.c (z21.v), Seg.c (z97.v), Seg.c (z22.v), Seg.c (z23.v)], Asr.vn (NE.sl (Enc.int .i64)) (z11.v) z12 y9.1] _ _
        refine JC.seq ?_
        refine JC.region ?_
        refine JL.val (v := .bool (decide (d99 < ((y9.1).length : Int)))) (QV.lss rfl rfl) rfl rfl rfl ?_
        refine JL.nil ?_
        refine QJ.then_normal ?_
        refine JC.seq ?_
        rcases ite_inv hm with ⟨h108, hm⟩ | ⟨h108, hm⟩
        ·
          refine JC.condT' rfl (decide_eq_true h108) ?_
          refine JC.skip ?_
          refine QJ.then_normal ?_
          refine JC.seq ?_
          refine JC.block ?_
          refine JC.seq ?_
          refine JC.region ?_
          refine JL.val (v := .int .i64 d99) (QV.move rfl) rfl rfl rfl ?_
          obtain ⟨h109, hm⟩ := guard_inv hm
          refine JL.val (v := .pointer (some (elA (z11.v) (Int.toNat d99 * ((NE.sl (Enc.int .i64)).E).sz)))) (QV.indexN (RdN.vn 6 rfl) Try.underlying22 tk_25 rfl rfl h109) rfl rfl rfl ?_
          refine JL.val (v := (gd z12 d99).v) (QV.el1N (RdN.vn 6 rfl) tk_25 rfl h109 rfl) rfl rfl rfl ?_
          refine JL.val (v := .int .i64 d99) (QV.assign rfl) rfl rfl rfl ?_
          refine JL.val (v := (gd z12 d99).v) (QV.assign rfl) rfl rfl rfl ?_
          refine JL.nil ?_
          refine QJ.ent (fun _ hs => hs.derive (Drv.el (K := (NE.sl (Enc.int .i64))) (A := Asr.vw (Enc.int .i64) ((gd z12 d99).v) (gd y9.1 d99)) (Drv.vn 6 rfl) h109 (fun _ _ q => q))) ?_
          refine QJ.then_normal ?_
          refine JC.seq ?_
          refine JC.region ?_
          refine JL.val (v := .pointer (some ⟨z20, 0, none⟩)) (QV.move rfl) rfl rfl rfl ?_
          refine JL.val (v := .pointer (some ⟨z20, 0, none⟩)) (QV.nilCheck rfl) rfl rfl rfl ?_
          refine JL.val (v := .pointer (some ⟨z20, 1, none⟩)) (QV.fieldB fo_82_1 rfl rfl) rfl rfl rfl ?_
          refine JL.val (v := z21.v) (QV.load1 (ss := [Seg.c (s1.v), Seg.c (z21.v), Seg.c (z97.v), Seg.c (z22.v), Seg.c (z23.v)]) 6 1 rfl tk_25 rfl rfl rfl) rfl rfl rfl ?_
          refine JL.val (v := .int .i64 d99) (QV.move rfl) rfl rfl rfl ?_
          refine JL.val (v := (gd z12 d99).v) (QV.move rfl) rfl rfl rfl ?_
          refine JL.val (v := .int .i64 (((gd y9.1 d99)).length : Int)) (QV.len (Rdg.vw 0 rfl) Try.underlying25 rfl) rfl rfl rfl ?_
          obtain ⟨h110, hm⟩ := guard_inv hm
          refine JL.val (v := .pointer (some (elA (z21.v) (Int.toNat d99 * ((Enc.int .i64)).sz)))) (QV.indexA (Rdg.of 2 rfl) Try.underlying25 tk_3 rfl rfl h110) rfl rfl rfl ?_
          refine JL.mv (d := none) (MV.storeEl 2 (((gd y9.1 d99)).length : Int) rfl tk_3 rfl rfl h110 rfl) rfl rfl rfl ?_
          rintro _ _ ⟨rfl, rfl⟩
          refine JL.nil ?_
          refine QJ.then_normal ?_
          refine JC.seq ?_
          refine JC.region ?_
          refine JL.val (v := (gd z12 d99).v) (QV.move rfl) rfl rfl rfl ?_
          refine JL.val (v := .int .i64 (((gd y9.1 d99)).length : Int)) (QV.len (Rdg.vw 0 rfl) Try.underlying25 rfl) rfl rfl rfl ?_
          refine JL.val (v := .bool (decide ((((gd y9.1 d99)).length : Int) = (0 : Int)))) (QV.eql rfl rfl) rfl rfl rfl ?_
          refine JL.nil ?_
          refine QJ.then_normal ?_
          refine JC.cutK (Y := (List Int) × SlV) (fun y => match y with | (d112, _) => F13.j6 y9 d96 d99 (d112) = some s107) (fun y => match y with | (d112, z111) => [(7, .int .i64 ((x2).length : Int)), (8, .pointer (some ⟨z20, 0, none⟩)), (34, z11.v), (35, .int .i64 ((y9.1).length : Int)), (36, .int .i64 d99)]) (fun y => match y with | (d112, z111) => [Asr.vn (NE.sl (Enc.int .i64)) (s1.v) z3 x2, Asr.of 3 (Enc.int .i64) (z21.v) (List.set d96 (Int.toNat d99) (((gd y9.1 d99)).length : Int)), Asr.of 3 (Enc.int .i64) (z111.v) d112, Asr.of 4 Enc.bool (z22.v) (List.replicate (Int.toNat ((x2).length : Int)) false), Asr.of 4 Enc.bool (z23.v) (List.replicate (Int.toNat ((x2).length : Int)) false), Asr.blk z20 82 [Seg.c (s1.v), Seg.c (z21.v), Seg.c (z111.v), Seg.c (z22.v), Seg.c (z23.v)], Asr.vn (NE.sl (Enc.int .i64)) (z11.v) z12 y9.1]) ?_ ?_
          ·
            rintro ⟨d112, z111⟩ hm
            unfold F13.j6 at hm
            show QJ _ _ [(7, .int .i64 ((x2).length : Int)), (8, .pointer (some ⟨z20, 0, none⟩)), (34, z11.v), (35, .int .i64 ((y9.1).length : Int)), (36, .int .i64 d99)] [Asr.vn (NE.sl (Enc.int .i64)) (s1.v) z3 x2, Asr.of 3 (Enc.int .i64) (z21.v) (List.set d96 (Int.toNat d99) (((gd y9.1 d99)).length : Int)), Asr.of 3 (Enc.int .i64) (z111.v) d112, Asr.of 4 Enc.bool (z22.v) (List.replicate (Int.toNat ((x2).length : Int)) false), Asr.of 4 Enc.bool (z23.v) (List.replicate (Int.toNat ((x2).length : Int)) false), Asr.blk z20 82 [Seg.c (s1.v), Seg.c (z21.v), Seg.c (z111.v), Seg.c (z22.v), Seg.c (z23.v)], Asr.vn (NE.sl (Enc.int .i64)) (z11.v) z12 y9.1] _ _
            refine QJ.block_normal ?_
            refine QJ.then_normal ?_
            refine JC.region ?_
            refine JL.val (v := .int .i64 (IntKind.wrap .i64 (d99 + (1 : Int)))) (QV.add rfl rfl) rfl rfl rfl ?_
            refine JL.val (v := .int .i64 (IntKind.wrap .i64 (d99 + (1 : Int)))) (QV.move rfl) rfl rfl rfl ?_
            refine JL.nil ?_
            obtain rfl := Option.some.inj hm
            exact QJ.round_on ((List.set d96 (Int.toNat d99) (((gd y9.1 d99)).length : Int)), d112, (IntKind.wrap .i64 (d99 + (1 : Int)))) z111 [0, 1, 2, 3, 4, 5, 6] (by exact ⟨rfl, rfl, rfl, rfl, rfl, trivial⟩) rfl rfl
          ·
            rcases ite_inv hm with ⟨h113, hm⟩ | ⟨h113, hm⟩
            ·
              refine JC.condT' rfl (decide_eq_true h113) ?_
              refine JC.region ?_
              refine JL.val (v := .pointer (some ⟨z20, 0, none⟩)) (QV.move rfl) rfl rfl rfl ?_
              refine JL.val (v := .pointer (some ⟨z20, 0, none⟩)) (QV.nilCheck rfl) rfl rfl rfl ?_
              refine JL.val (v := .pointer (some ⟨z20, 2, none⟩)) (QV.fieldB fo_82_2 rfl rfl) rfl rfl rfl ?_
              refine JL.val (v := .iface 84 (.pointer (some ⟨z20, 2, none⟩))) (QV.mkIface Try.underlying84 rfl rfl) rfl rfl rfl ?_
              refine JL.val (v := .int .i64 d99) (QV.move rfl) rfl rfl rfl ?_
              refine JL.val (v := .iface 3 (.int .i64 d99)) (QV.mkIface Try.underlying3 rfl rfl) rfl rfl rfl ?_
              obtain ⟨y114, hc115, hm⟩ := bind_inv hm
              refine JL.mv (d := some 58) (MV.call (Lo := [Asr.blk z20 82 [Seg.c (s1.v), Seg.c (z21.v), Seg.c (z97.v), Seg.c (z22.v), Seg.c (z23.v)], Asr.of 3 (Enc.int .i64) (z21.v) (List.set d96 (Int.toNat d99) (((gd y9.1 d99)).length : Int)), Asr.of 3 (Enc.int .i64) (z97.v) d98, Asr.of 4 Enc.bool (z22.v) (List.replicate (Int.toNat ((x2).length : Int)) false), Asr.of 4 Enc.bool (z23.v) (List.replicate (Int.toNat ((x2).length : Int)) false)]) (Lr := [Asr.vw (Enc.int .i64) ((gd z12 d99).v) (gd y9.1 d99), Asr.vn (NE.sl (Enc.int .i64)) (s1.v) z3 x2, Asr.vn (NE.sl (Enc.int .i64)) (z11.v) z12 y9.1]) (F40.spec (z20) (s1) (z3) (z21) (z97) (z22) (z23) (x2) ((List.set d96 (Int.toNat d99) (((gd y9.1 d99)).length : Int))) (d98) ((List.replicate (Int.toNat ((x2).length : Int)) false)) ((List.replicate (Int.toNat ((x2).length : Int)) false)) (d99) _ hc115) rfl Try.func40 rfl rfl rfl [6, 2, 3, 4, 5] [0, 1, 7] rfl rfl rfl ⟨(Drv.vn 1 rfl), trivial⟩) rfl rfl rfl ?_
              rintro _ _ ⟨_, ⟨z116, rfl, rfl⟩, rfl⟩
              refine JL.nil ?_
              exact QJ.cut_normal (y114, z116) hm [4, 0, 1, 2, 3, 5, 8] (by exact ⟨rfl, rfl, rfl, rfl, rfl, trivial⟩) rfl rfl
            ·
              refine JC.condF' rfl (decide_eq_false h113) ?_
              refine JC.skip ?_
              exact QJ.cut_normal (d98, z97) hm [1, 2, 3, 4, 5, 6, 7] (by exact ⟨rfl, rfl, rfl, rfl, rfl, trivial⟩) rfl rfl
        ·
          refine JC.condF' rfl (decide_eq_false h108) ?_
          refine JC.exit ?_
          refine QJ.then_exit ?_
          obtain rfl := Option.some.inj hm
          refine QJ.round_exit (fun hy => ?_)
          subst hy
          refine QJ.block_hit ?_
          exact QJ.cut_normal ((d96, d98), z97) hmo106 [0, 1, 2, 3, 4, 5] (by exact ⟨rfl, rfl, trivial⟩) rfl rfl
    ·
      refine JC.regionU [Asr.vn (NE.sl (Enc.int .i64)) (z11.v) z12 y9.1, Asr.of 3 (Enc.int .i64) (SlV.nil.v) ([] : List Int), Asr.of 3 (Enc.int .i64) (SlV.nil.v) ([] : List Int), Asr.vn (NE.sl (Enc.int .i64)) (s1.v) z3 x2] (fun _ => false) 10 rfl (by kernel_rfl) (by kernel_rfl) (fun hsel => ?_)
      refine JU.take (i := 0) (v := s1.v) hsel rfl (by kernel_rfl) (QV.move rfl) rfl rfl rfl rfl [0, 1, 2, 3] rfl rfl ?_
      refine JU.take (i := 1) (v := .int .i64 ((x2).length : Int)) hsel rfl (by kernel_rfl) (QV.move rfl) rfl rfl rfl rfl [0, 1, 2, 3] rfl rfl ?_
      refine JU.take (i := 3) (v := .int .i64 ((x2).length : Int)) hsel rfl (by kernel_rfl) (QV.move rfl) rfl rfl rfl rfl [0, 1, 2, 3] rfl rfl ?_
      refine JU.take (i := 5) (v := .int .i64 ((x2).length : Int)) hsel rfl (by kernel_rfl) (QV.move rfl) rfl rfl rfl rfl [0, 1, 2, 3] rfl rfl ?_
      refine JU.any [2, 4, 6] (by kernel_rfl) rfl ?_
      refine ⟨?_, ?_, ?_, trivial⟩
      ·
        refine JUo.mv (d := some 27) rfl (MV.make (E := (Enc.int .i64)) (0 : Int) Try.underlying25 zi_3 (by decide) rfl rfl rfl h14) rfl rfl rfl ?_
        rintro _ _ ⟨z117, rfl, rfl⟩
        refine ⟨fun _ => ⟨[1, 2, 3, 4], rfl, rfl⟩, ?_⟩
        refine JU.any [4, 6] (by kernel_rfl) rfl ?_
        refine ⟨?_, ?_, trivial⟩
        ·
          refine JUo.mv (d := some 29) rfl (MV.make (E := Enc.bool) false Try.underlying78 zi_4 (by decide) rfl rfl rfl h16) rfl rfl rfl ?_
          rintro _ _ ⟨z118, rfl, rfl⟩
          refine ⟨fun _ => ⟨[2, 3, 4, 5], rfl, rfl⟩, ?_⟩
          refine JU.any [6] (by kernel_rfl) rfl ?_
          refine ⟨?_, trivial⟩
          refine JUo.mv (d := some 31) rfl (MV.make (E := Enc.bool) false Try.underlying78 zi_4 (by decide) rfl rfl rfl h16) rfl rfl rfl ?_
          rintro _ _ ⟨z119, rfl, rfl⟩
          refine ⟨fun _ => ⟨[3, 4, 5, 6], rfl, rfl⟩, ?_⟩
          refine JU.ent (fun _ hs => hs.nilV 25 (NE.sl (Enc.int .i64))) ?_
          refine JU.ent (fun _ hs => hs.nil 3 (Enc.int .i64)) ?_
          refine JU.ent (fun _ hs => hs.nil 3 (Enc.int .i64)) ?_
          refine JU.ent (fun _ hs => hs.nil 4 Enc.bool) ?_
          refine JU.ent (fun _ hs => hs.nil 4 Enc.bool) ?_
          refine JU.take (i := 7) (v := .agg #[s1.v, z117.v, SlV.nil.v, z118.v, z119.v]) hsel rfl (by kernel_rfl) (QV.build (vals := [(0, s1.v), (1, z117.v), (3, z118.v), (4, z119.v)]) rfl (by kernel_rfl)) rfl rfl rfl rfl [8, 9, 10, 11] rfl rfl ?_
          refine JU.any [8] (by kernel_rfl) rfl ?_
          refine ⟨?_, trivial⟩
          refine JUo.mv (d := some 33) rfl (MV.box [Seg.c (s1.v), Seg.c (z117.v), Seg.c (SlV.nil.v), Seg.c (z118.v), Seg.c (z119.v)] rfl (fun w hs => rfl)) rfl rfl rfl ?_
          rintro _ _ ⟨b120, rfl, rfl⟩
          refine ⟨fun _ => ⟨[9, 10, 11, 12], rfl, rfl⟩, ?_⟩
          refine JU.take (i := 9) (v := .pointer (some ⟨b120, 0, none⟩)) hsel rfl (by kernel_rfl) (QV.assign rfl) rfl rfl rfl rfl [9, 10, 11, 12] rfl rfl ?_
          refine JU.nil (by kernel_rfl) ?_
          exact QJ.cut_normal ((), (b120, z117, z118, z119)) hm [9, 12, 8, 3, 7, 6, 0] (by exact ⟨rfl, rfl, rfl, trivial⟩) rfl rfl
        ·
          refine JUo.mv (d := some 31) rfl (MV.make (E := Enc.bool) false Try.underlying78 zi_4 (by decide) rfl rfl rfl h16) rfl rfl rfl ?_
          rintro _ _ ⟨z121, rfl, rfl⟩
          refine ⟨fun _ => ⟨[2, 3, 4, 5], rfl, rfl⟩, ?_⟩
          refine JU.any [4] (by kernel_rfl) rfl ?_
          refine ⟨?_, trivial⟩
          refine JUo.mv (d := some 29) rfl (MV.make (E := Enc.bool) false Try.underlying78 zi_4 (by decide) rfl rfl rfl h16) rfl rfl rfl ?_
          rintro _ _ ⟨z122, rfl, rfl⟩
          refine ⟨fun _ => ⟨[3, 4, 5, 6], rfl, rfl⟩, ?_⟩
          refine JU.ent (fun _ hs => hs.nilV 25 (NE.sl (Enc.int .i64))) ?_
          refine JU.ent (fun _ hs => hs.nil 3 (Enc.int .i64)) ?_
          refine JU.ent (fun _ hs => hs.nil 3 (Enc.int .i64)) ?_
          refine JU.ent (fun _ hs => hs.nil 4 Enc.bool) ?_
          refine JU.ent (fun _ hs => hs.nil 4 Enc.bool) ?_
          refine JU.take (i := 7) (v := .agg #[s1.v, z117.v, SlV.nil.v, z122.v, z121.v]) hsel rfl (by kernel_rfl) (QV.build (vals := [(0, s1.v), (1, z117.v), (3, z122.v), (4, z121.v)]) rfl (by kernel_rfl)) rfl rfl rfl rfl [8, 9, 10, 11] rfl rfl ?_
          refine JU.any [8] (by kernel_rfl) rfl ?_
          refine ⟨?_, trivial⟩
          refine JUo.mv (d := some 33) rfl (MV.box [Seg.c (s1.v), Seg.c (z117.v), Seg.c (SlV.nil.v), Seg.c (z122.v), Seg.c (z121.v)] rfl (fun w hs => rfl)) rfl rfl rfl ?_
          rintro _ _ ⟨b123, rfl, rfl⟩
          refine ⟨fun _ => ⟨[9, 10, 11, 12], rfl, rfl⟩, ?_⟩
          refine JU.take (i := 9) (v := .pointer (some ⟨b123, 0, none⟩)) hsel rfl (by kernel_rfl) (QV.assign rfl) rfl rfl rfl rfl [9, 10, 11, 12] rfl rfl ?_
          refine JU.nil (by kernel_rfl) ?_
          exact QJ.cut_normal ((), (b123, z117, z122, z121)) hm [9, 12, 8, 3, 6, 7, 0] (by exact ⟨rfl, rfl, rfl, trivial⟩) rfl rfl
      ·
        refine JUo.mv (d := some 29) rfl (MV.make (E := Enc.bool) false Try.underlying78 zi_4 (by decide) rfl rfl rfl h16) rfl rfl rfl ?_
        rintro _ _ ⟨z124, rfl, rfl⟩
        refine ⟨fun _ => ⟨[1, 2, 3, 4], rfl, rfl⟩, ?_⟩
        refine JU.any [2, 6] (by kernel_rfl) rfl ?_
        refine ⟨?_, ?_, trivial⟩
        ·
          refine JUo.mv (d := some 27) rfl (MV.make (E := (Enc.int .i64)) (0 : Int) Try.underlying25 zi_3 (by decide) rfl rfl rfl h14) rfl rfl rfl ?_
          rintro _ _ ⟨z125, rfl, rfl⟩
          refine ⟨fun _ => ⟨[2, 3, 4, 5], rfl, rfl⟩, ?_⟩
          refine JU.any [6] (by kernel_rfl) rfl ?_
          refine ⟨?_, trivial⟩
          refine JUo.mv (d := some 31) rfl (MV.make (E := Enc.bool) false Try.underlying78 zi_4 (by decide) rfl rfl rfl h16) rfl rfl rfl ?_
          rintro _ _ ⟨z126, rfl, rfl⟩
          refine ⟨fun _ => ⟨[3, 4, 5, 6], rfl, rfl⟩, ?_⟩
          refine JU.ent (fun _ hs => hs.nilV 25 (NE.sl (Enc.int .i64))) ?_
          refine JU.ent (fun _ hs => hs.nil 3 (Enc.int .i64)) ?_
          refine JU.ent (fun _ hs => hs.nil 3 (Enc.int .i64)) ?_
          refine JU.ent (fun _ hs => hs.nil 4 Enc.bool) ?_
          refine JU.ent (fun _ hs => hs.nil 4 Enc.bool) ?_
          refine JU.take (i := 7) (v := .agg #[s1.v, z125.v, SlV.nil.v, z124.v, z126.v]) hsel rfl (by kernel_rfl) (QV.build (vals := [(0, s1.v), (1, z125.v), (3, z124.v), (4, z126.v)]) rfl (by kernel_rfl)) rfl rfl rfl rfl [8, 9, 10, 11] rfl rfl ?_
          refine JU.any [8] (by kernel_rfl) rfl ?_
          refine ⟨?_, trivial⟩
          refine JUo.mv (d := some 33) rfl (MV.box [Seg.c (s1.v), Seg.c (z125.v), Seg.c (SlV.nil.v), Seg.c (z124.v), Seg.c (z126.v)] rfl (fun w hs => rfl)) rfl rfl rfl ?_
          rintro _ _ ⟨b127, rfl, rfl⟩
          refine ⟨fun _ => ⟨[9, 10, 11, 12], rfl, rfl⟩, ?_⟩
          refine JU.take (i := 9) (v := .pointer (some ⟨b127, 0, none⟩)) hsel rfl (by kernel_rfl) (QV.assign rfl) rfl rfl rfl rfl [9, 10, 11, 12] rfl rfl ?_
          refine JU.nil (by kernel_rfl) ?_
          exact QJ.cut_normal ((), (b127, z125, z124, z126)) hm [9, 12, 7, 3, 8, 6, 0] (by exact ⟨rfl, rfl, rfl, trivial⟩) rfl rfl
        ·
          refine JUo.mv (d := some 31) rfl (MV.make (E := Enc.bool) false Try.underlying78 zi_4 (by decide) rfl rfl rfl h16) rfl rfl rfl ?_
          rintro _ _ ⟨z128, rfl, rfl⟩
          refine ⟨fun _ => ⟨[2, 3, 4, 5], rfl, rfl⟩, ?_⟩
          refine JU.any [2] (by kernel_rfl) rfl ?_
          refine ⟨?_, trivial⟩
          refine JUo.mv (d := some 27) rfl (MV.make (E := (Enc.int .i64)) (0 : Int) Try.underlying25 zi_3 (by decide) rfl rfl rfl h14) rfl rfl rfl ?_
          rintro _ _ ⟨z129, rfl, rfl⟩
          refine ⟨fun _ => ⟨[3, 4, 5, 6], rfl, rfl⟩, ?_⟩
          refine JU.ent (fun _ hs => hs.nilV 25 (NE.sl (Enc.int .i64))) ?_
          refine JU.ent (fun _ hs => hs.nil 3 (Enc.int .i64)) ?_
          refine JU.ent (fun _ hs => hs.nil 3 (Enc.int .i64)) ?_
          refine JU.ent (fun _ hs => hs.nil 4 Enc.bool) ?_
          refine JU.ent (fun _ hs => hs.nil 4 Enc.bool) ?_
          refine JU.take (i := 7) (v := .agg #[s1.v, z129.v, SlV.nil.v, z124.v, z128.v]) hsel rfl (by kernel_rfl) (QV.build (vals := [(0, s1.v), (1, z129.v), (3, z124.v), (4, z128.v)]) rfl (by kernel_rfl)) rfl rfl rfl rfl [8, 9, 10, 11] rfl rfl ?_
          refine JU.any [8] (by kernel_rfl) rfl ?_
          refine ⟨?_, trivial⟩
          refine JUo.mv (d := some 33) rfl (MV.box [Seg.c (s1.v), Seg.c (z129.v), Seg.c (SlV.nil.v), Seg.c (z124.v), Seg.c (z128.v)] rfl (fun w hs => rfl)) rfl rfl rfl ?_
          rintro _ _ ⟨b130, rfl, rfl⟩
          refine ⟨fun _ => ⟨[9, 10, 11, 12], rfl, rfl⟩, ?_⟩
          refine JU.take (i := 9) (v := .pointer (some ⟨b130, 0, none⟩)) hsel rfl (by kernel_rfl) (QV.assign rfl) rfl rfl rfl rfl [9, 10, 11, 12] rfl rfl ?_
          refine JU.nil (by kernel_rfl) ?_
          exact QJ.cut_normal ((), (b130, z129, z124, z128)) hm [9, 12, 6, 3, 8, 7, 0] (by exact ⟨rfl, rfl, rfl, trivial⟩) rfl rfl
      ·
        refine JUo.mv (d := some 31) rfl (MV.make (E := Enc.bool) false Try.underlying78 zi_4 (by decide) rfl rfl rfl h16) rfl rfl rfl ?_
        rintro _ _ ⟨z131, rfl, rfl⟩
        refine ⟨fun _ => ⟨[1, 2, 3, 4], rfl, rfl⟩, ?_⟩
        refine JU.any [2, 4] (by kernel_rfl) rfl ?_
        refine ⟨?_, ?_, trivial⟩
        ·
          refine JUo.mv (d := some 27) rfl (MV.make (E := (Enc.int .i64)) (0 : Int) Try.underlying25 zi_3 (by decide) rfl rfl rfl h14) rfl rfl rfl ?_
          rintro _ _ ⟨z132, rfl, rfl⟩
          refine ⟨fun _ => ⟨[2, 3, 4, 5], rfl, rfl⟩, ?_⟩
          refine JU.any [4] (by kernel_rfl) rfl ?_
          refine ⟨?_, trivial⟩
          refine JUo.mv (d := some 29) rfl (MV.make (E := Enc.bool) false Try.underlying78 zi_4 (by decide) rfl rfl rfl h16) rfl rfl rfl ?_
          rintro _ _ ⟨z133, rfl, rfl⟩
          refine ⟨fun _ => ⟨[3, 4, 5, 6], rfl, rfl⟩, ?_⟩
          refine JU.ent (fun _ hs => hs.nilV 25 (NE.sl (Enc.int .i64))) ?_
          refine JU.ent (fun _ hs => hs.nil 3 (Enc.int .i64)) ?_
          refine JU.ent (fun _ hs => hs.nil 3 (Enc.int .i64)) ?_
          refine JU.ent (fun _ hs => hs.nil 4 Enc.bool) ?_
          refine JU.ent (fun _ hs => hs.nil 4 Enc.bool) ?_
          refine JU.take (i := 7) (v := .agg #[s1.v, z132.v, SlV.nil.v, z133.v, z131.v]) hsel rfl (by kernel_rfl) (QV.build (vals := [(0, s1.v), (1, z132.v), (3, z133.v), (4, z131.v)]) rfl (by kernel_rfl)) rfl rfl rfl rfl [8, 9, 10, 11] rfl rfl ?_
          refine JU.any [8] (by kernel_rfl) rfl ?_
          refine ⟨?_, trivial⟩
          refine JUo.mv (d := some 33) rfl (MV.box [Seg.c (s1.v), Seg.c (z132.v), Seg.c (SlV.nil.v), Seg.c (z133.v), Seg.c (z131.v)] rfl (fun w hs => rfl)) rfl rfl rfl ?_
          rintro _ _ ⟨b134, rfl, rfl⟩
          refine ⟨fun _ => ⟨[9, 10, 11, 12], rfl, rfl⟩, ?_⟩
          refine JU.take (i := 9) (v := .pointer (some ⟨b134, 0, none⟩)) hsel rfl (by kernel_rfl) (QV.assign rfl) rfl rfl rfl rfl [9, 10, 11, 12] rfl rfl ?_
          refine JU.nil (by kernel_rfl) ?_
          exact QJ.cut_normal ((), (b134, z132, z133, z131)) hm [9, 12, 7, 3, 6, 8, 0] (by exact ⟨rfl, rfl, rfl, trivial⟩) rfl rfl
        ·
          refine JUo.mv (d := some 29) rfl (MV.make (E := Enc.bool) false Try.underlying78 zi_4 (by decide) rfl rfl rfl h16) rfl rfl rfl ?_
          rintro _ _ ⟨z135, rfl, rfl⟩
          refine ⟨fun _ => ⟨[2, 3, 4, 5], rfl, rfl⟩, ?_⟩
          refine JU.any [2] (by kernel_rfl) rfl ?_
          refine ⟨?_, trivial⟩
          refine JUo.mv (d := some 27) rfl (MV.make (E := (Enc.int .i64)) (0 : Int) Try.underlying25 zi_3 (by decide) rfl rfl rfl h14) rfl rfl rfl ?_
          rintro _ _ ⟨z136, rfl, rfl⟩
          refine ⟨fun _ => ⟨[3, 4, 5, 6], rfl, rfl⟩, ?_⟩
          refine JU.ent (fun _ hs => hs.nilV 25 (NE.sl (Enc.int .i64))) ?_
          refine JU.ent (fun _ hs => hs.nil 3 (Enc.int .i64)) ?_
          refine JU.ent (fun _ hs => hs.nil 3 (Enc.int .i64)) ?_
          refine JU.ent (fun _ hs => hs.nil 4 Enc.bool) ?_
          refine JU.ent (fun _ hs => hs.nil 4 Enc.bool) ?_
          refine JU.take (i := 7) (v := .agg #[s1.v, z136.v, SlV.nil.v, z135.v, z131.v]) hsel rfl (by kernel_rfl) (QV.build (vals := [(0, s1.v), (1, z136.v), (3, z135.v), (4, z131.v)]) rfl (by kernel_rfl)) rfl rfl rfl rfl [8, 9, 10, 11] rfl rfl ?_
          refine JU.any [8] (by kernel_rfl) rfl ?_
          refine ⟨?_, trivial⟩
          refine JUo.mv (d := some 33) rfl (MV.box [Seg.c (s1.v), Seg.c (z136.v), Seg.c (SlV.nil.v), Seg.c (z135.v), Seg.c (z131.v)] rfl (fun w hs => rfl)) rfl rfl rfl ?_
          rintro _ _ ⟨b137, rfl, rfl⟩
          refine ⟨fun _ => ⟨[9, 10, 11, 12], rfl, rfl⟩, ?_⟩
          refine JU.take (i := 9) (v := .pointer (some ⟨b137, 0, none⟩)) hsel rfl (by kernel_rfl) (QV.assign rfl) rfl rfl rfl rfl [9, 10, 11, 12] rfl rfl ?_
          refine JU.nil (by kernel_rfl) ?_
          exact QJ.cut_normal ((), (b137, z136, z135, z131)) hm [9, 12, 6, 3, 7, 8, 0] (by exact ⟨rfl, rfl, rfl, trivial⟩) rfl rfl
  ·
    refine JC.condT' rfl (congrArg Bool.not (decide_eq_false h13)) ?_
    refine JC.seq ?_
    refine JC.region ?_
    refine JL.val (v := .int .i64 y9.2) (QV.move rfl) rfl rfl rfl ?_
    refine JL.ent (fun _ hs => hs.nil 3 (Enc.int .i64)) ?_
    refine JL.val (v := SlV.nil.v) (QV.assign rfl) rfl rfl rfl ?_
    refine JL.ent (fun _ hs => hs.nil 3 (Enc.int .i64)) ?_
    refine JL.val (v := SlV.nil.v) (QV.assign rfl) rfl rfl rfl ?_
    refine JL.val (v := .int .i64 y9.2) (QV.assign rfl) rfl rfl rfl ?_
    refine JL.nil ?_
    refine QJ.then_normal ?_
    refine JC.ret ?_
    refine QJ.then_ret ?_
    obtain rfl := Option.some.inj hm
    exact QJ.body (vs := [SlV.nil.v, SlV.nil.v, .int .i64 y9.2]) (.inl rfl) rfl (ResVs.cons (ResV.tmp rfl) (ResVs.cons (ResV.tmp rfl) (ResVs.cons (ResV.tmp rfl) ResVs.nil))) [1, 0] rfl rfl (.inr ⟨own_of _ _ _ _, own_of _ _ _ _, trivial⟩) ⟨(SlV.nil), (SlV.nil), rfl, rfl⟩

/-! ### 17: drogher/drogherref18.Same -/
noncomputable def F17.j1   : Option Bool :=
  some true
noncomputable def F17.b1 (x2 : List Int) (x4 : List Int) : Int → Option (Int ⊕ ((Bool) ⊕ Unit))
  | d7 => (if d7 < ((x2).length : Int) then (if 0 ≤ d7 ∧ d7 < ((x2).length : Int) then (if 0 ≤ d7 ∧ d7 < ((x4).length : Int) then (if (gd x2 d7) = (gd x4 d7) then some (.inl (IntKind.wrap .i64 (d7 + (1 : Int)))) else some (.inr (.inl (false)))) else none) else none) else some (.inr (.inr (()))))
noncomputable def F17.m (x2 : List Int) (x4 : List Int) : Option Bool :=
  (if ((x2).length : Int) = ((x4).length : Int) then ((loop (F17.b1 x2 x4) (0 : Int)).bind fun y => match y with | .inl r => some r | .inr _ => F17.j1) else some false)
set_option maxRecDepth 100000 in
set_option maxHeartbeats 4000000 in
theorem F17.spec (s1 : SlV) (s3 : SlV) (x2 : List Int) (x4 : List Int) (r : Bool) (hm : F17.m x2 x4 = some r) :
    Ctr Try.prog false 17 [s1.v, s3.v] [Asr.vw (Enc.int .i64) (s1.v) x2, Asr.vw (Enc.int .i64) (s3.v) x4] (fun v L' => v = .bool r ∧ L' = []) := by
  refine Ctr.intro (n := 26) (env := [(0, s1.v), (1, s3.v)]) Try.func17 rfl rfl rfl rfl (fun c => ?_)
  unfold F17.m at hm
  refine JC.seq ?_
  refine JC.region ?_
  refine JL.val (v := .bool false) (QV.assign rfl) rfl rfl rfl ?_
  refine JL.nil ?_
  refine QJ.then_normal ?_
  refine JC.seq ?_
  refine JC.seq ?_
  refine JC.region ?_
  refine JL.val (v := s1.v) (QV.move rfl) rfl rfl rfl ?_
  refine JL.val (v := .int .i64 ((x2).length : Int)) (QV.len (Rdg.vw 0 rfl) Try.underlying25 rfl) rfl rfl rfl ?_
  refine JL.val (v := s3.v) (QV.move rfl) rfl rfl rfl ?_
  refine JL.val (v := .int .i64 ((x4).length : Int)) (QV.len (Rdg.vw 1 rfl) Try.underlying25 rfl) rfl rfl rfl ?_
  refine JL.val (v := .bool (!(decide (((x2).length : Int) = ((x4).length : Int))))) (QV.neq rfl rfl) rfl rfl rfl ?_
  refine JL.nil ?_
  refine QJ.then_normal ?_
  rcases ite_inv hm with ⟨h6, hm⟩ | ⟨h6, hm⟩
  ·
    refine JC.condF' rfl (congrArg Bool.not (decide_eq_true h6)) ?_
    refine JC.skip ?_
    refine QJ.then_normal ?_
    refine JC.seq ?_
    refine JC.seq ?_
    refine JC.region ?_
    refine JL.val (v := s1.v) (QV.move rfl) rfl rfl rfl ?_
    refine JL.val (v := .int .i64 ((x2).length : Int)) (QV.len (Rdg.vw 0 rfl) Try.underlying25 rfl) rfl rfl rfl ?_
    refine JL.val (v := .int .i64 (0 : Int)) (QV.move rfl) rfl rfl rfl ?_
    refine JL.nil ?_
    refine QJ.then_normal ?_
    refine JC.cutK (Y := Unit × Unit) (fun y => match y with | (_, _) => F17.j1 = some r) (fun y => match y with | (_, _) => []) (fun y => match y with | (_, _) => []) ?_ ?_
    ·
      rintro ⟨⟨⟩, ⟨⟩⟩ hm
      unfold F17.j1 at hm
      show QJ _ _ [] [] _ _
      refine QJ.then_normal ?_
      refine JC.seq ?_
      refine JC.region ?_
      refine JL.val (v := .bool true) (QV.assign rfl) rfl rfl rfl ?_
      refine JL.nil ?_
      refine QJ.then_normal ?_
      refine JC.ret ?_
      obtain rfl := Option.some.inj hm
      exact QJ.body (vs := [.bool true]) (.inl rfl) rfl (ResVs.cons (ResV.tmp rfl) ResVs.nil) [] rfl rfl (.inr trivial) ⟨rfl, rfl⟩
    ·
      refine JC.block ?_
      obtain ⟨y9, hl10, hmo11⟩ := bind_inv hm
      refine JC.loop (F17.b1 x2 x4) (fun x z => match x, z with | d7, _ => [(0, s1.v), (1, s3.v), (12, .int .i64 ((x2).length : Int)), (13, .int .i64 d7)]) (fun x z => match x, z with | d7, _ => [Asr.vw (Enc.int .i64) (s1.v) x2, Asr.vw (Enc.int .i64) (s3.v) x4]) (0 : Int) () y9 hl10 [0, 1] (by exact ⟨rfl, rfl, rfl, rfl, trivial⟩) rfl rfl ?_
      rintro d7 ⟨⟩ s12 hm
      unfold F17.b1 at hm
      dsimp only at hm
      show JC _ _ _ [(0, s1.v), (1, s3.v), (12, .int .i64 ((x2).length : Int)), (13, .int .i64 d7)] [Asr.vw (Enc.int .i64) (s1.v) x2, Asr.vw (Enc.int .i64) (s3.v) x4] _ _
      refine JC.seq ?_
      refine JC.region ?_
      refine JL.val (v := .bool (decide (d7 < ((x2).length : Int)))) (QV.lss rfl rfl) rfl rfl rfl ?_
      refine JL.nil ?_
      refine QJ.then_normal ?_
      refine JC.seq ?_
      rcases ite_inv hm with ⟨h13, hm⟩ | ⟨h13, hm⟩
      ·
        refine JC.condT' rfl (decide_eq_true h13) ?_
        refine JC.skip ?_
        refine QJ.then_normal ?_
        refine JC.seq ?_
        refine JC.block ?_
        refine JC.seq ?_
        refine JC.region ?_
        refine JL.val (v := .int .i64 d7) (QV.move rfl) rfl rfl rfl ?_
        refine JL.val (v := .int .i64 d7) (QV.assign rfl) rfl rfl rfl ?_
        refine JL.nil ?_
        refine QJ.then_normal ?_
        refine JC.seq ?_
        refine JC.regionT [Asr.vw (Enc.int .i64) (s1.v) x2, Asr.vw (Enc.int .i64) (s3.v) x4] (fun t => false) [(0, true), (1, true), (2, true), (3, true), (4, true), (5, false), (6, false), (7, false), (8, false)] (by kernel_rfl) (by kernel_rfl) (by kernel_rfl) rfl (fun hsel => ?_)
        refine JT.take (i := 0) (v := s1.v) hsel rfl (QV.move rfl) rfl rfl rfl rfl [0, 1] rfl rfl ?_
        refine JT.take (i := 1) (v := .int .i64 d7) hsel rfl (QV.move rfl) rfl rfl rfl rfl [0, 1] rfl rfl ?_
        obtain ⟨h14, hm⟩ := guard_inv hm
        refine JT.take (i := 2) (v := .pointer (some (elA (s1.v) (Int.toNat d7 * ((Enc.int .i64)).sz)))) hsel rfl (QV.indexA (Rdg.vw 0 rfl) Try.underlying25 tk_3 rfl rfl h14) rfl rfl rfl rfl [0, 1] rfl rfl ?_
        refine JT.take (i := 3) (v := .int .i64 (gd x2 d7)) hsel rfl (QV.el1 (Rdg.vw 0 rfl) tk_3 rfl h14 rfl) rfl rfl rfl rfl [0, 1] rfl rfl ?_
        refine JT.take (i := 4) (v := s3.v) hsel rfl (QV.move rfl) rfl rfl rfl rfl [0, 1] rfl rfl ?_
        refine JT.only (i := 5) (d := some 21) rfl (MV.ofQV (v := .int .i64 d7) (QV.move rfl)) rfl rfl rfl ?_
        rintro _ _ ⟨rfl, rfl⟩
        refine ⟨fun _ => ⟨[0, 1], rfl, rfl⟩, ?_⟩
        obtain ⟨h15, hm⟩ := guard_inv hm
        refine JT.only (i := 6) (d := some 22) rfl (MV.ofQV (v := .pointer (some (elA (s3.v) (Int.toNat d7 * ((Enc.int .i64)).sz)))) (QV.indexA (Rdg.vw 1 rfl) Try.underlying25 tk_3 rfl rfl h15)) rfl rfl rfl ?_
        rintro _ _ ⟨rfl, rfl⟩
        refine ⟨fun _ => ⟨[0, 1], rfl, rfl⟩, ?_⟩
        refine JT.only (i := 7) (d := some 23) rfl (MV.ofQV (v := .int .i64 (gd x4 d7)) (QV.el1 (Rdg.vw 1 rfl) tk_3 rfl h15 rfl)) rfl rfl rfl ?_
        rintro _ _ ⟨rfl, rfl⟩
        refine ⟨fun _ => ⟨[0, 1], rfl, rfl⟩, ?_⟩
        refine JT.only (i := 8) (d := some 24) rfl (MV.ofQV (v := .bool (!(decide ((gd x2 d7) = (gd x4 d7))))) (QV.neq rfl rfl)) rfl rfl rfl ?_
        rintro _ _ ⟨rfl, rfl⟩
        refine ⟨fun _ => ⟨[0, 1], rfl, rfl⟩, ?_⟩
        refine JT.nil ?_
        refine QJ.then_normal ?_
        rcases ite_inv hm with ⟨h16, hm⟩ | ⟨h16, hm⟩
        ·
          refine JC.condF' rfl (congrArg Bool.not (decide_eq_true h16)) ?_
          refine JC.skip ?_
          refine QJ.block_normal ?_
          refine QJ.then_normal ?_
          refine JC.region ?_
          refine JL.val (v := .int .i64 (IntKind.wrap .i64 (d7 + (1 : Int)))) (QV.add rfl rfl) rfl rfl rfl ?_
          refine JL.val (v := .int .i64 (IntKind.wrap .i64 (d7 + (1 : Int)))) (QV.move rfl) rfl rfl rfl ?_
          refine JL.nil ?_
          obtain rfl := Option.some.inj hm
          exact QJ.round_on (IntKind.wrap .i64 (d7 + (1 : Int))) () [0, 1] (by exact ⟨rfl, rfl, rfl, rfl, trivial⟩) rfl rfl
        ·
          refine JC.condT' rfl (congrArg Bool.not (decide_eq_false h16)) ?_
          refine JC.seq ?_
          refine JC.region ?_
          refine JL.val (v := .bool false) (QV.assign rfl) rfl rfl rfl ?_
          refine JL.nil ?_
          refine QJ.then_normal ?_
          refine JC.ret ?_
          refine QJ.block_ret ?_
          refine QJ.then_ret ?_
          obtain rfl := Option.some.inj hm
          refine QJ.round_ret (fun hy => ?_)
          subst hy
          refine QJ.block_ret ?_
          refine QJ.cut_ret ?_
          refine QJ.then_ret ?_
          obtain rfl := Option.some.inj hmo11
          exact QJ.body (vs := [.bool false]) (.inl rfl) rfl (ResVs.cons (ResV.tmp rfl) ResVs.nil) [] rfl rfl (.inr trivial) ⟨rfl, rfl⟩
      ·
        refine JC.condF' rfl (decide_eq_false h13) ?_
        refine JC.exit ?_
        refine QJ.then_exit ?_
        obtain rfl := Option.some.inj hm
        refine QJ.round_exit (fun hy => ?_)
        subst hy
        refine QJ.block_hit ?_
        exact QJ.cut_normal ((), ()) hmo11 [] trivial rfl rfl
  ·
    refine JC.condT' rfl (congrArg Bool.not (decide_eq_false h6)) ?_
    refine JC.seq ?_
    refine JC.region ?_
    refine JL.val (v := .bool false) (QV.assign rfl) rfl rfl rfl ?_
    refine JL.nil ?_
    refine QJ.then_normal ?_
    refine JC.ret ?_
    refine QJ.then_ret ?_
    obtain rfl := Option.some.inj hm
    exact QJ.body (vs := [.bool false]) (.inl rfl) rfl (ResVs.cons (ResV.tmp rfl) ResVs.nil) [] rfl rfl (.inr trivial) ⟨rfl, rfl⟩

/-! ### 12: drogher/drogherlaw19.awake -/
noncomputable def F12.m  : Option Bool :=
  ((F13.m ([[(1 : Int)], [(0 : Int)]])).bind fun y5 => (if y5.2.2 = (0 : Int) then ((F17.m (y5.1) ([(1 : Int), (0 : Int)])).bind fun y11 => (if y11 = true then ((F17.m (y5.2.1) ([(0 : Int)])).bind fun y15 => some y15) else some false)) else some false))
set_option maxRecDepth 100000 in
set_option maxHeartbeats 4000000 in
theorem F12.spec  (r : Bool) (hm : F12.m  = some r) :
    Ctr Try.prog false 12 [] [] (fun v L' => v = .bool r ∧ L' = []) := by
  refine Ctr.intro (n := 24) (env := []) Try.func12 rfl rfl rfl rfl (fun c => ?_)
  unfold F12.m at hm
  refine JC.seq ?_
  refine JC.region ?_
  refine JL.val (v := .bool false) (QV.assign rfl) rfl rfl rfl ?_
  refine JL.nil ?_
  refine QJ.then_normal ?_
  refine JC.seq ?_
  refine JC.region ?_
  refine JL.mv (d := some 5) (MV.lit (E := (Enc.int .i64)) (vals := [(0, .int .i64 (1 : Int))]) [(1 : Int)] Try.underlying25 zi_3 rfl (by decide) rfl (by kernel_rfl)) rfl rfl rfl ?_
  rintro _ _ ⟨z2, rfl, rfl⟩
  refine JL.mv (d := some 6) (MV.lit (E := (Enc.int .i64)) (vals := [(0, .int .i64 (0 : Int))]) [(0 : Int)] Try.underlying25 zi_3 rfl (by decide) rfl (by kernel_rfl)) rfl rfl rfl ?_
  rintro _ _ ⟨z3, rfl, rfl⟩
  refine JL.mv (d := some 7) (MV.lit (E := (NE.sl (Enc.int .i64)).E) (vals := [(0, z2.v), (1, z3.v)]) [(z2, [(1 : Int)]), (z3, [(0 : Int)])] Try.underlying22 zi_25 rfl (by decide) rfl (by kernel_rfl)) rfl rfl rfl ?_
  rintro _ _ ⟨z4, rfl, rfl⟩
  obtain ⟨y5, hc6, hm⟩ := bind_inv hm
  refine JL.mv (d := some 8) (MV.call (Lo := []) (Lr := [Asr.of 25 (NE.sl (Enc.int .i64)).E (z4.v) [(z2, [(1 : Int)]), (z3, [(0 : Int)])], Asr.of 3 (Enc.int .i64) (z3.v) [(0 : Int)], Asr.of 3 (Enc.int .i64) (z2.v) [(1 : Int)]]) (F13.spec (z4) ([z2, z3]) ([[(1 : Int)], [(0 : Int)]]) _ hc6) rfl Try.func13 rfl rfl rfl [] [0, 1, 2] rfl rfl rfl ⟨(Drv.lit (zs := [z2, z3]) (xs := [[(1 : Int)], [(0 : Int)]]) 0 rfl rfl ⟨(Drv.of 2 rfl), ⟨(Drv.of 1 rfl), trivial⟩⟩), trivial⟩) rfl rfl rfl ?_
  rintro _ _ ⟨_, ⟨z7, z8, rfl, rfl⟩, rfl⟩
  refine JL.val (v := .tuple #[z7.v, z8.v, .int .i64 y5.2.2]) (QV.move rfl) rfl rfl rfl ?_
  refine JL.val (v := z7.v) (QV.extract (vs := [z7.v, z8.v, .int .i64 y5.2.2]) rfl rfl) rfl rfl rfl ?_
  refine JL.val (v := z8.v) (QV.extract (vs := [z7.v, z8.v, .int .i64 y5.2.2]) rfl rfl) rfl rfl rfl ?_
  refine JL.val (v := .int .i64 y5.2.2) (QV.extract (vs := [z7.v, z8.v, .int .i64 y5.2.2]) rfl rfl) rfl rfl rfl ?_
  refine JL.val (v := z7.v) (QV.assign rfl) rfl rfl rfl ?_
  refine JL.val (v := z8.v) (QV.assign rfl) rfl rfl rfl ?_
  refine JL.val (v := .int .i64 y5.2.2) (QV.assign rfl) rfl rfl rfl ?_
  refine JL.nil ?_
  refine QJ.then_normal ?_
  refine JC.seq ?_
  refine JC.region ?_
  refine JL.val (v := .int .i64 y5.2.2) (QV.move rfl) rfl rfl rfl ?_
  refine JL.val (v := .bool (decide (y5.2.2 = (0 : Int)))) (QV.eql rfl rfl) rfl rfl rfl ?_
  rcases ite_inv hm with ⟨h9, hm⟩ | ⟨h9, hm⟩
  ·
    refine JL.val (v := .bool true) (QV.eq (QV.move rfl) (congrArg Value.bool (decide_eq_true h9))) rfl rfl rfl ?_
    refine JL.val (v := z7.v) (QV.move rfl) rfl rfl rfl ?_
    refine JL.mv (d := some 16) (MV.lit (E := (Enc.int .i64)) (vals := [(0, .int .i64 (1 : Int)), (1, .int .i64 (0 : Int))]) [(1 : Int), (0 : Int)] Try.underlying25 zi_3 rfl (by decide) rfl (by kernel_rfl)) rfl rfl rfl ?_
    rintro _ _ ⟨z10, rfl, rfl⟩
    obtain ⟨y11, hc12, hm⟩ := bind_inv hm
    refine JL.mv (d := some 17) (MV.call (Lo := []) (Lr := [Asr.of 3 (Enc.int .i64) (z10.v) [(1 : Int), (0 : Int)], Asr.of 3 (Enc.int .i64) (z7.v) y5.1, Asr.of 3 (Enc.int .i64) (z8.v) y5.2.1, Asr.of 25 (NE.sl (Enc.int .i64)).E (z4.v) [(z2, [(1 : Int)]), (z3, [(0 : Int)])], Asr.of 3 (Enc.int .i64) (z3.v) [(0 : Int)], Asr.of 3 (Enc.int .i64) (z2.v) [(1 : Int)]]) (F17.spec (z7) (z10) (y5.1) ([(1 : Int), (0 : Int)]) _ hc12) rfl Try.func17 rfl rfl rfl [] [0, 1, 2, 3, 4, 5] rfl rfl rfl ⟨(Drv.of 1 rfl), ⟨(Drv.of 0 rfl), trivial⟩⟩) rfl rfl rfl ?_
    rintro _ _ ⟨_, ⟨rfl, rfl⟩, rfl⟩
    refine JL.val (v := .bool y11) (QV.pickT rfl rfl) rfl rfl rfl ?_
    rcases ite_inv hm with ⟨h13, hm⟩ | ⟨h13, hm⟩
    ·
      refine JL.val (v := .bool true) (QV.eq (QV.move rfl) (congrArg Value.bool h13)) rfl rfl rfl ?_
      refine JL.val (v := z8.v) (QV.move rfl) rfl rfl rfl ?_
      refine JL.mv (d := some 21) (MV.lit (E := (Enc.int .i64)) (vals := [(0, .int .i64 (0 : Int))]) [(0 : Int)] Try.underlying25 zi_3 rfl (by decide) rfl (by kernel_rfl)) rfl rfl rfl ?_
      rintro _ _ ⟨z14, rfl, rfl⟩
      obtain ⟨y15, hc16, hm⟩ := bind_inv hm
      refine JL.mv (d := some 22) (MV.call (Lo := []) (Lr := [Asr.of 3 (Enc.int .i64) (z14.v) [(0 : Int)], Asr.of 3 (Enc.int .i64) (z10.v) [(1 : Int), (0 : Int)], Asr.of 3 (Enc.int .i64) (z7.v) y5.1, Asr.of 3 (Enc.int .i64) (z8.v) y5.2.1, Asr.of 25 (NE.sl (Enc.int .i64)).E (z4.v) [(z2, [(1 : Int)]), (z3, [(0 : Int)])], Asr.of 3 (Enc.int .i64) (z3.v) [(0 : Int)], Asr.of 3 (Enc.int .i64) (z2.v) [(1 : Int)]]) (F17.spec (z8) (z14) (y5.2.1) ([(0 : Int)]) _ hc16) rfl Try.func17 rfl rfl rfl [] [0, 1, 2, 3, 4, 5, 6] rfl rfl rfl ⟨(Drv.of 3 rfl), ⟨(Drv.of 0 rfl), trivial⟩⟩) rfl rfl rfl ?_
      rintro _ _ ⟨_, ⟨rfl, rfl⟩, rfl⟩
      refine JL.val (v := .bool y15) (QV.pickT rfl rfl) rfl rfl rfl ?_
      refine JL.val (v := .bool y15) (QV.assign rfl) rfl rfl rfl ?_
      refine JL.nil ?_
      refine QJ.then_normal ?_
      refine JC.ret ?_
      obtain rfl := Option.some.inj hm
      exact QJ.body (vs := [.bool y15]) (.inl rfl) rfl (ResVs.cons (ResV.tmp rfl) ResVs.nil) [] rfl rfl (.inr trivial) ⟨rfl, rfl⟩
    ·
      refine JL.val (v := .bool false) (QV.eq (QV.move rfl) (congrArg Value.bool (bfalse h13))) rfl rfl rfl ?_
      refine JL.skip (d := some 20) rfl rfl rfl ?_
      refine JL.skip (d := some 21) rfl rfl rfl ?_
      refine JL.skip (d := some 22) rfl rfl rfl ?_
      refine JL.val (v := .bool false) (QV.pickF rfl rfl) rfl rfl rfl ?_
      refine JL.val (v := .bool false) (QV.assign rfl) rfl rfl rfl ?_
      refine JL.nil ?_
      refine QJ.then_normal ?_
      refine JC.ret ?_
      obtain rfl := Option.some.inj hm
      exact QJ.body (vs := [.bool false]) (.inl rfl) rfl (ResVs.cons (ResV.tmp rfl) ResVs.nil) [] rfl rfl (.inr trivial) ⟨rfl, rfl⟩
  ·
    refine JL.val (v := .bool false) (QV.eq (QV.move rfl) (congrArg Value.bool (decide_eq_false h9))) rfl rfl rfl ?_
    refine JL.skip (d := some 15) rfl rfl rfl ?_
    refine JL.skip (d := some 16) rfl rfl rfl ?_
    refine JL.skip (d := some 17) rfl rfl rfl ?_
    refine JL.val (v := .bool false) (QV.pickF rfl rfl) rfl rfl rfl ?_
    refine JL.val (v := .bool false) (QV.move rfl) rfl rfl rfl ?_
    refine JL.skip (d := some 20) rfl rfl rfl ?_
    refine JL.skip (d := some 21) rfl rfl rfl ?_
    refine JL.skip (d := some 22) rfl rfl rfl ?_
    refine JL.val (v := .bool false) (QV.pickF rfl rfl) rfl rfl rfl ?_
    refine JL.val (v := .bool false) (QV.assign rfl) rfl rfl rfl ?_
    refine JL.nil ?_
    refine QJ.then_normal ?_
    refine JC.ret ?_
    obtain rfl := Option.some.inj hm
    exact QJ.body (vs := [.bool false]) (.inl rfl) rfl (ResVs.cons (ResV.tmp rfl) ResVs.nil) [] rfl rfl (.inr trivial) ⟨rfl, rfl⟩

/-! ### 15: drogher/drogherref18.Right -/
noncomputable def F15.j1   : Option Bool :=
  some true
noncomputable def F15.j2 (d6 : Int)  : Option (Int ⊕ ((Bool) ⊕ Unit)) :=
  some (.inl (IntKind.wrap .i64 (d6 + (1 : Int))))
noncomputable def F15.j3 (d6 : Int)  : Option (Int ⊕ ((Bool) ⊕ Unit)) :=
  F15.j2 d6
noncomputable def F15.j4 (d14 : Int)  : Option (Int ⊕ ((Bool) ⊕ Unit)) :=
  some (.inl (IntKind.wrap .i64 (d14 + (1 : Int))))
noncomputable def F15.b2 (x2 : List (List Int)) (d6 : Int) : Int → Option (Int ⊕ ((Bool) ⊕ Unit))
  | d14 => (if d14 < (((gd x2 d6)).length : Int) then (if 0 ≤ d14 ∧ d14 < (((gd x2 d6)).length : Int) then (if (gd (gd x2 d6) d14) < (0 : Int) then some (.inr (.inl (false))) else (if ((x2).length : Int) ≤ (gd (gd x2 d6) d14) then some (.inr (.inl (false))) else (if (gd (gd x2 d6) d14) = d6 then some (.inr (.inl (false))) else (if (0 : Int) < d14 then (if 0 ≤ (IntKind.wrap .i64 (d14 - (1 : Int))) ∧ (IntKind.wrap .i64 (d14 - (1 : Int))) < (((gd x2 d6)).length : Int) then (if (gd (gd x2 d6) d14) ≤ (gd (gd x2 d6) (IntKind.wrap .i64 (d14 - (1 : Int)))) then some (.inr (.inl (false))) else F15.j4 d14) else none) else F15.j4 d14)))) else none) else some (.inr (.inr (()))))
noncomputable def F15.b1 (x2 : List (List Int)) : Int → Option (Int ⊕ ((Bool) ⊕ Unit))
  | d6 => (if d6 < ((x2).length : Int) then (if 0 ≤ d6 ∧ d6 < ((x2).length : Int) then ((loop (F15.b2 x2 d6) (0 : Int)).bind fun y => match y with | .inl r => some (.inr (.inl (r))) | .inr _ => F15.j3 d6) else none) else some (.inr (.inr (()))))
noncomputable def F15.m (x2 : List (List Int)) : Option Bool :=
  (if (4096 : Int) < ((x2).length : Int) then some false else ((loop (F15.b1 x2) (0 : Int)).bind fun y => match y with | .inl r => some r | .inr _ => F15.j1))
set_option maxRecDepth 100000 in
set_option maxHeartbeats 4000000 in
theorem F15.spec (s1 : SlV) (z3 : List SlV) (x2 : List (List Int)) (r : Bool) (hm : F15.m x2 = some r) :
    Ctr Try.prog false 15 [s1.v] [Asr.vn (NE.sl (Enc.int .i64)) (s1.v) z3 x2] (fun v L' => v = .bool r ∧ L' = []) := by
  refine Ctr.intro (n := 63) (env := [(0, s1.v)]) Try.func15 rfl rfl rfl rfl (fun c => ?_)
  unfold F15.m at hm
  refine JC.seq ?_
  refine JC.region ?_
  refine JL.val (v := .bool false) (QV.assign rfl) rfl rfl rfl ?_
  refine JL.nil ?_
  refine QJ.then_normal ?_
  refine JC.seq ?_
  refine JC.seq ?_
  refine JC.region ?_
  refine JL.val (v := s1.v) (QV.move rfl) rfl rfl rfl ?_
  refine JL.val (v := .int .i64 ((x2).length : Int)) (QV.lenN (RdN.vn 0 rfl) Try.underlying22 rfl) rfl rfl rfl ?_
  refine JL.val (v := .bool (decide ((4096 : Int) < ((x2).length : Int)))) (QV.gtr rfl rfl) rfl rfl rfl ?_
  refine JL.nil ?_
  refine QJ.then_normal ?_
  rcases ite_inv hm with ⟨h5, hm⟩ | ⟨h5, hm⟩
  ·
    refine JC.condT' rfl (decide_eq_true h5) ?_
    refine JC.seq ?_
    refine JC.region ?_
    refine JL.val (v := .bool false) (QV.assign rfl) rfl rfl rfl ?_
    refine JL.nil ?_
    refine QJ.then_normal ?_
    refine JC.ret ?_
    refine QJ.then_ret ?_
    obtain rfl := Option.some.inj hm
    exact QJ.body (vs := [.bool false]) (.inl rfl) rfl (ResVs.cons (ResV.tmp rfl) ResVs.nil) [] rfl rfl (.inr trivial) ⟨rfl, rfl⟩
  ·
    refine JC.condF' rfl (decide_eq_false h5) ?_
    refine JC.skip ?_
    refine QJ.then_normal ?_
    refine JC.seq ?_
    refine JC.seq ?_
    refine JC.region ?_
    refine JL.val (v := s1.v) (QV.move rfl) rfl rfl rfl ?_
    refine JL.val (v := .int .i64 ((x2).length : Int)) (QV.lenN (RdN.vn 0 rfl) Try.underlying22 rfl) rfl rfl rfl ?_
    refine JL.val (v := .int .i64 (0 : Int)) (QV.move rfl) rfl rfl rfl ?_
    refine JL.nil ?_
    refine QJ.then_normal ?_
    refine JC.cutK (Y := Unit × Unit) (fun y => match y with | (_, _) => F15.j1 = some r) (fun y => match y with | (_, _) => []) (fun y => match y with | (_, _) => []) ?_ ?_
    ·
      rintro ⟨⟨⟩, ⟨⟩⟩ hm
      unfold F15.j1 at hm
      show QJ _ _ [] [] _ _
      refine QJ.then_normal ?_
      refine JC.seq ?_
      refine JC.region ?_
      refine JL.val (v := .bool true) (QV.assign rfl) rfl rfl rfl ?_
      refine JL.nil ?_
      refine QJ.then_normal ?_
      refine JC.ret ?_
      obtain rfl := Option.some.inj hm
      exact QJ.body (vs := [.bool true]) (.inl rfl) rfl (ResVs.cons (ResV.tmp rfl) ResVs.nil) [] rfl rfl (.inr trivial) ⟨rfl, rfl⟩
    ·
      refine JC.block ?_
      obtain ⟨y8, hl9, hmo10⟩ := bind_inv hm
      refine JC.loop (F15.b1 x2) (fun x z => match x, z with | d6, _ => [(0, s1.v), (10, .int .i64 ((x2).length : Int)), (11, .int .i64 d6)]) (fun x z => match x, z with | d6, _ => [Asr.vn (NE.sl (Enc.int .i64)) (s1.v) z3 x2]) (0 : Int) () y8 hl9 [0] (by exact ⟨rfl, rfl, rfl, trivial⟩) rfl rfl ?_
      rintro d6 ⟨⟩ s11 hm
      unfold F15.b1 at hm
      dsimp only at hm
      show JC _ _ _ [(0, s1.v), (10, .int .i64 ((x2).length : Int)), (11, .int .i64 d6)] [Asr.vn (NE.sl (Enc.int .i64)) (s1.v) z3 x2] _ _
      refine JC.seq ?_
      refine JC.region ?_
      refine JL.val (v := .bool (decide (d6 < ((x2).length : Int)))) (QV.lss rfl rfl) rfl rfl rfl ?_
      refine JL.nil ?_
      refine QJ.then_normal ?_
      refine JC.seq ?_
      rcases ite_inv hm with ⟨h12, hm⟩ | ⟨h12, hm⟩
      ·
        refine JC.condT' rfl (decide_eq_true h12) ?_
        refine JC.skip ?_
        refine QJ.then_normal ?_
        refine JC.seq ?_
        refine JC.cutK (Y := Unit × Unit) (fun y => match y with | (_, _) => F15.j2 d6 = some s11) (fun y => match y with | (_, _) => [(0, s1.v), (10, .int .i64 ((x2).length : Int)), (11, .int .i64 d6)]) (fun y => match y with | (_, _) => [Asr.vn (NE.sl (Enc.int .i64)) (s1.v) z3 x2]) ?_ ?_
        ·
          rintro ⟨⟨⟩, ⟨⟩⟩ hm
          unfold F15.j2 at hm
          show QJ _ _ [(0, s1.v), (10, .int .i64 ((x2).length : Int)), (11, .int .i64 d6)] [Asr.vn (NE.sl (Enc.int .i64)) (s1.v) z3 x2] _ _
          refine QJ.then_normal ?_
          refine JC.region ?_
          refine JL.val (v := .int .i64 (IntKind.wrap .i64 (d6 + (1 : Int)))) (QV.add rfl rfl) rfl rfl rfl ?_
          refine JL.val (v := .int .i64 (IntKind.wrap .i64 (d6 + (1 : Int)))) (QV.move rfl) rfl rfl rfl ?_
          refine JL.nil ?_
          obtain rfl := Option.some.inj hm
          exact QJ.round_on (IntKind.wrap .i64 (d6 + (1 : Int))) () [0] (by exact ⟨rfl, rfl, rfl, trivial⟩) rfl rfl
        ·
          refine JC.block ?_
          refine JC.seq ?_
          refine JC.region ?_
          refine JL.val (v := .int .i64 d6) (QV.move rfl) rfl rfl rfl ?_
          refine JL.val (v := .int .i64 d6) (QV.assign rfl) rfl rfl rfl ?_
          refine JL.nil ?_
          refine QJ.then_normal ?_
          refine JC.seq ?_
          refine JC.region ?_
          refine JL.val (v := s1.v) (QV.move rfl) rfl rfl rfl ?_
          refine JL.val (v := .int .i64 d6) (QV.move rfl) rfl rfl rfl ?_
          obtain ⟨h13, hm⟩ := guard_inv hm
          refine JL.val (v := .pointer (some (elA (s1.v) (Int.toNat d6 * ((NE.sl (Enc.int .i64)).E).sz)))) (QV.indexN (RdN.vn 0 rfl) Try.underlying22 tk_25 rfl rfl h13) rfl rfl rfl ?_
          refine JL.val (v := (gd z3 d6).v) (QV.el1N (RdN.vn 0 rfl) tk_25 rfl h13 rfl) rfl rfl rfl ?_
          refine JL.val (v := (gd z3 d6).v) (QV.assign rfl) rfl rfl rfl ?_
          refine JL.nil ?_
          refine QJ.ent (fun _ hs => hs.derive (Drv.el (K := (NE.sl (Enc.int .i64))) (A := Asr.vw (Enc.int .i64) ((gd z3 d6).v) (gd x2 d6)) (Drv.vn 0 rfl) h13 (fun _ _ q => q))) ?_
          refine QJ.then_normal ?_
          refine JC.seq ?_
          refine JC.region ?_
          refine JL.val (v := (gd z3 d6).v) (QV.move rfl) rfl rfl rfl ?_
          refine JL.val (v := .int .i64 (((gd x2 d6)).length : Int)) (QV.len (Rdg.vw 0 rfl) Try.underlying25 rfl) rfl rfl rfl ?_
          refine JL.val (v := .int .i64 (0 : Int)) (QV.move rfl) rfl rfl rfl ?_
          refine JL.nil ?_
          refine QJ.then_normal ?_
          refine JC.cutK (Y := Unit × Unit) (fun y => match y with | (_, _) => F15.j3 d6 = some s11) (fun y => match y with | (_, _) => [(0, s1.v), (10, .int .i64 ((x2).length : Int)), (11, .int .i64 d6)]) (fun y => match y with | (_, _) => [Asr.vn (NE.sl (Enc.int .i64)) (s1.v) z3 x2]) ?_ ?_
          ·
            rintro ⟨⟨⟩, ⟨⟩⟩ hm
            unfold F15.j3 at hm
            show QJ _ _ [(0, s1.v), (10, .int .i64 ((x2).length : Int)), (11, .int .i64 d6)] [Asr.vn (NE.sl (Enc.int .i64)) (s1.v) z3 x2] _ _
            refine QJ.block_normal ?_
            exact QJ.cut_normal ((), ()) hm [0] (by exact ⟨rfl, rfl, rfl, trivial⟩) rfl rfl
          ·
            refine JC.block ?_
            obtain ⟨y16, hl17, hmo18⟩ := bind_inv hm
            refine JC.loop (F15.b2 x2 d6) (fun x z => match x, z with | d14, _ => [(0, s1.v), (3, .int .i64 d6), (4, (gd z3 d6).v), (10, .int .i64 ((x2).length : Int)), (11, .int .i64 d6), (19, .int .i64 (((gd x2 d6)).length : Int)), (20, .int .i64 d14)]) (fun x z => match x, z with | d14, _ => [Asr.vn (NE.sl (Enc.int .i64)) (s1.v) z3 x2, Asr.vw (Enc.int .i64) ((gd z3 d6).v) (gd x2 d6)]) (0 : Int) () y16 hl17 [1, 0] (by exact ⟨rfl, rfl, rfl, rfl, rfl, rfl, rfl, trivial⟩) rfl rfl ?_
            rintro d14 ⟨⟩ s19 hm
            unfold F15.b2 at hm
            dsimp only at hm
            show JC _ _ _ [(0, s1.v), (3, .int .i64 d6), (4, (gd z3 d6).v), (10, .int .i64 ((x2).length : Int)), (11, .int .i64 d6), (19, .int .i64 (((gd x2 d6)).length : Int)), (20, .int .i64 d14)] [Asr.vn (NE.sl (Enc.int .i64)) (s1.v) z3 x2, Asr.vw (Enc.int .i64) ((gd z3 d6).v) (gd x2 d6)] _ _
            refine JC.seq ?_
            refine JC.region ?_
            refine JL.val (v := .bool (decide (d14 < (((gd x2 d6)).length : Int)))) (QV.lss rfl rfl) rfl rfl rfl ?_
            refine JL.nil ?_
            refine QJ.then_normal ?_
            refine JC.seq ?_
            rcases ite_inv hm with ⟨h20, hm⟩ | ⟨h20, hm⟩
            ·
              refine JC.condT' rfl (decide_eq_true h20) ?_
              refine JC.skip ?_
              refine QJ.then_normal ?_
              refine JC.seq ?_
              refine JC.cutK (Y := Unit × Unit) (fun y => match y with | (_, _) => F15.j4 d14 = some s19) (fun y => match y with | (_, _) => [(0, s1.v), (3, .int .i64 d6), (4, (gd z3 d6).v), (10, .int .i64 ((x2).length : Int)), (11, .int .i64 d6), (19, .int .i64 (((gd x2 d6)).length : Int)), (20, .int .i64 d14)]) (fun y => match y with | (_, _) => [Asr.vn (NE.sl (Enc.int .i64)) (s1.v) z3 x2, Asr.vw (Enc.int .i64) ((gd z3 d6).v) (gd x2 d6)]) ?_ ?_
              ·
                rintro ⟨⟨⟩, ⟨⟩⟩ hm
                unfold F15.j4 at hm
                show QJ _ _ [(0, s1.v), (3, .int .i64 d6), (4, (gd z3 d6).v), (10, .int .i64 ((x2).length : Int)), (11, .int .i64 d6), (19, .int .i64 (((gd x2 d6)).length : Int)), (20, .int .i64 d14)] [Asr.vn (NE.sl (Enc.int .i64)) (s1.v) z3 x2, Asr.vw (Enc.int .i64) ((gd z3 d6).v) (gd x2 d6)] _ _
                refine QJ.then_normal ?_
                refine JC.region ?_
                refine JL.val (v := .int .i64 (IntKind.wrap .i64 (d14 + (1 : Int)))) (QV.add rfl rfl) rfl rfl rfl ?_
                refine JL.val (v := .int .i64 (IntKind.wrap .i64 (d14 + (1 : Int)))) (QV.move rfl) rfl rfl rfl ?_
                refine JL.nil ?_
                obtain rfl := Option.some.inj hm
                exact QJ.round_on (IntKind.wrap .i64 (d14 + (1 : Int))) () [0, 1] (by exact ⟨rfl, rfl, rfl, rfl, rfl, rfl, rfl, trivial⟩) rfl rfl
              ·
                refine JC.block ?_
                refine JC.seq ?_
                refine JC.region ?_
                refine JL.val (v := .int .i64 d14) (QV.move rfl) rfl rfl rfl ?_
                refine JL.val (v := .int .i64 d14) (QV.assign rfl) rfl rfl rfl ?_
                refine JL.nil ?_
                refine QJ.then_normal ?_
                refine JC.seq ?_
                refine JC.regionT [Asr.vn (NE.sl (Enc.int .i64)) (s1.v) z3 x2, Asr.vw (Enc.int .i64) ((gd z3 d6).v) (gd x2 d6)] (fun t => false) [(0, true), (1, false), (2, false), (3, false), (4, false), (5, false), (6, true), (7, true), (8, true), (9, true), (10, false), (11, false), (12, false), (13, false), (14, false), (15, true), (16, true), (17, true), (18, true), (19, false), (20, false), (21, false), (22, false), (23, false), (24, false), (25, false), (26, true), (27, true), (28, true), (29, true), (30, true), (31, true), (32, false), (33, false), (34, false), (35, false), (36, false), (37, false)] (by kernel_rfl) (by kernel_rfl) (by kernel_rfl) rfl (fun hsel => ?_)
                refine JT.take (i := 0) (v := (gd z3 d6).v) hsel rfl (QV.move rfl) rfl rfl rfl rfl [0, 1] rfl rfl ?_
                refine JT.only (i := 1) (d := some 24) rfl (MV.ofQV (v := .int .i64 d14) (QV.move rfl)) rfl rfl rfl ?_
                rintro _ _ ⟨rfl, rfl⟩
                refine ⟨fun _ => ⟨[0, 1], rfl, rfl⟩, ?_⟩
                obtain ⟨h21, hm⟩ := guard_inv hm
                refine JT.only (i := 2) (d := some 25) rfl (MV.ofQV (v := .pointer (some (elA ((gd z3 d6).v) (Int.toNat d14 * ((Enc.int .i64)).sz)))) (QV.indexA (Rdg.vw 1 rfl) Try.underlying25 tk_3 rfl rfl h21)) rfl rfl rfl ?_
                rintro _ _ ⟨rfl, rfl⟩
                refine ⟨fun _ => ⟨[0, 1], rfl, rfl⟩, ?_⟩
                refine JT.only (i := 3) (d := some 26) rfl (MV.ofQV (v := .int .i64 (gd (gd x2 d6) d14)) (QV.el1 (Rdg.vw 1 rfl) tk_3 rfl h21 rfl)) rfl rfl rfl ?_
                rintro _ _ ⟨rfl, rfl⟩
                refine ⟨fun _ => ⟨[0, 1], rfl, rfl⟩, ?_⟩
                refine JT.only (i := 4) (d := some 27) rfl (MV.ofQV (v := .bool (decide ((gd (gd x2 d6) d14) < (0 : Int)))) (QV.lss rfl rfl)) rfl rfl rfl ?_
                rintro _ _ ⟨rfl, rfl⟩
                refine ⟨fun _ => ⟨[0, 1], rfl, rfl⟩, ?_⟩
                rcases ite_inv hm with ⟨h22, hm⟩ | ⟨h22, hm⟩
                ·
                  refine JT.only (i := 5) (d := some 28) rfl (MV.ofQV (v := .bool true) (QV.eq (QV.move rfl) (congrArg Value.bool (decide_eq_true h22)))) rfl rfl rfl ?_
                  rintro _ _ ⟨rfl, rfl⟩
                  refine ⟨fun _ => ⟨[0, 1], rfl, rfl⟩, ?_⟩
                  refine JT.skip (i := 6) (d := some 29) hsel rfl rfl rfl rfl rfl [0, 1] rfl rfl ?_
                  refine JT.skip (i := 7) (d := some 30) hsel rfl rfl rfl rfl rfl [0, 1] rfl rfl ?_
                  refine JT.skip (i := 8) (d := some 31) hsel rfl rfl rfl rfl rfl [0, 1] rfl rfl ?_
                  refine JT.skip (i := 9) (d := some 32) hsel rfl rfl rfl rfl rfl [0, 1] rfl rfl ?_
                  refine JT.skipO (i := 10) (d := some 33) rfl rfl rfl rfl [0, 1] rfl rfl ?_
                  refine JT.skipO (i := 11) (d := some 34) rfl rfl rfl rfl [0, 1] rfl rfl ?_
                  refine JT.skipO (i := 12) (d := some 35) rfl rfl rfl rfl [0, 1] rfl rfl ?_
                  refine JT.only (i := 13) (d := some 36) rfl (MV.ofQV (v := .bool true) (QV.pickT rfl rfl)) rfl rfl rfl ?_
                  rintro _ _ ⟨rfl, rfl⟩
                  refine ⟨fun _ => ⟨[0, 1], rfl, rfl⟩, ?_⟩
                  refine JT.only (i := 14) (d := some 37) rfl (MV.ofQV (v := .bool true) (QV.move rfl)) rfl rfl rfl ?_
                  rintro _ _ ⟨rfl, rfl⟩
                  refine ⟨fun _ => ⟨[0, 1], rfl, rfl⟩, ?_⟩
                  refine JT.skip (i := 15) (d := some 38) hsel rfl rfl rfl rfl rfl [0, 1] rfl rfl ?_
                  refine JT.skip (i := 16) (d := some 39) hsel rfl rfl rfl rfl rfl [0, 1] rfl rfl ?_
                  refine JT.skip (i := 17) (d := some 40) hsel rfl rfl rfl rfl rfl [0, 1] rfl rfl ?_
                  refine JT.skip (i := 18) (d := some 41) hsel rfl rfl rfl rfl rfl [0, 1] rfl rfl ?_
                  refine JT.skipO (i := 19) (d := some 42) rfl rfl rfl rfl [0, 1] rfl rfl ?_
                  refine JT.skipO (i := 20) (d := some 43) rfl rfl rfl rfl [0, 1] rfl rfl ?_
                  refine JT.only (i := 21) (d := some 44) rfl (MV.ofQV (v := .bool true) (QV.pickT rfl rfl)) rfl rfl rfl ?_
                  rintro _ _ ⟨rfl, rfl⟩
                  refine ⟨fun _ => ⟨[0, 1], rfl, rfl⟩, ?_⟩
                  refine JT.only (i := 22) (d := some 45) rfl (MV.ofQV (v := .bool true) (QV.move rfl)) rfl rfl rfl ?_
                  rintro _ _ ⟨rfl, rfl⟩
                  refine ⟨fun _ => ⟨[0, 1], rfl, rfl⟩, ?_⟩
                  refine JT.skipO (i := 23) (d := some 46) rfl rfl rfl rfl [0, 1] rfl rfl ?_
                  refine JT.skipO (i := 24) (d := some 47) rfl rfl rfl rfl [0, 1] rfl rfl ?_
                  refine JT.skipO (i := 25) (d := some 48) rfl rfl rfl rfl [0, 1] rfl rfl ?_
                  refine JT.skip (i := 26) (d := some 49) hsel rfl rfl rfl rfl rfl [0, 1] rfl rfl ?_
                  refine JT.skip (i := 27) (d := some 50) hsel rfl rfl rfl rfl rfl [0, 1] rfl rfl ?_
                  refine JT.skip (i := 28) (d := some 51) hsel rfl rfl rfl rfl rfl [0, 1] rfl rfl ?_
                  refine JT.skip (i := 29) (d := some 52) hsel rfl rfl rfl rfl rfl [0, 1] rfl rfl ?_
                  refine JT.skip (i := 30) (d := some 53) hsel rfl rfl rfl rfl rfl [0, 1] rfl rfl ?_
                  refine JT.skip (i := 31) (d := some 54) hsel rfl rfl rfl rfl rfl [0, 1] rfl rfl ?_
                  refine JT.skipO (i := 32) (d := some 55) rfl rfl rfl rfl [0, 1] rfl rfl ?_
                  refine JT.skipO (i := 33) (d := some 56) rfl rfl rfl rfl [0, 1] rfl rfl ?_
                  refine JT.skipO (i := 34) (d := some 57) rfl rfl rfl rfl [0, 1] rfl rfl ?_
                  refine JT.skipO (i := 35) (d := some 58) rfl rfl rfl rfl [0, 1] rfl rfl ?_
                  refine JT.skipO (i := 36) (d := some 59) rfl rfl rfl rfl [0, 1] rfl rfl ?_
                  refine JT.only (i := 37) (d := some 60) rfl (MV.ofQV (v := .bool true) (QV.pickT rfl rfl)) rfl rfl rfl ?_
                  rintro _ _ ⟨rfl, rfl⟩
                  refine ⟨fun _ => ⟨[0, 1], rfl, rfl⟩, ?_⟩
                  refine JT.nil ?_
                  refine QJ.then_normal ?_
                  refine JC.condT rfl ?_
                  refine JC.seq ?_
                  refine JC.region ?_
                  refine JL.val (v := .bool false) (QV.assign rfl) rfl rfl rfl ?_
                  refine JL.nil ?_
                  refine QJ.then_normal ?_
                  refine JC.ret ?_
                  refine QJ.block_ret ?_
                  refine QJ.cut_ret ?_
                  refine QJ.then_ret ?_
                  obtain rfl := Option.some.inj hm
                  refine QJ.round_ret (fun hy => ?_)
                  subst hy
                  refine QJ.block_ret ?_
                  refine QJ.cut_ret ?_
                  refine QJ.block_ret ?_
                  refine QJ.cut_ret ?_
                  refine QJ.then_ret ?_
                  obtain rfl := Option.some.inj hmo18
                  refine QJ.round_ret (fun hy => ?_)
                  subst hy
                  refine QJ.block_ret ?_
                  refine QJ.cut_ret ?_
                  refine QJ.then_ret ?_
                  obtain rfl := Option.some.inj hmo10
                  exact QJ.body (vs := [.bool false]) (.inl rfl) rfl (ResVs.cons (ResV.tmp rfl) ResVs.nil) [] rfl rfl (.inr trivial) ⟨rfl, rfl⟩
                ·
                  refine JT.only (i := 5) (d := some 28) rfl (MV.ofQV (v := .bool false) (QV.eq (QV.move rfl) (congrArg Value.bool (decide_eq_false h22)))) rfl rfl rfl ?_
                  rintro _ _ ⟨rfl, rfl⟩
                  refine ⟨fun _ => ⟨[0, 1], rfl, rfl⟩, ?_⟩
                  refine JT.take (i := 6) (v := (gd z3 d6).v) hsel rfl (QV.move rfl) rfl rfl rfl rfl [0, 1] rfl rfl ?_
                  refine JT.take (i := 7) (v := .int .i64 d14) hsel rfl (QV.move rfl) rfl rfl rfl rfl [0, 1] rfl rfl ?_
                  refine JT.take (i := 8) (v := .pointer (some (elA ((gd z3 d6).v) (Int.toNat d14 * ((Enc.int .i64)).sz)))) hsel rfl (QV.indexA (Rdg.vw 1 rfl) Try.underlying25 tk_3 rfl rfl h21) rfl rfl rfl rfl [0, 1] rfl rfl ?_
                  refine JT.take (i := 9) (v := .int .i64 (gd (gd x2 d6) d14)) hsel rfl (QV.el1 (Rdg.vw 1 rfl) tk_3 rfl h21 rfl) rfl rfl rfl rfl [0, 1] rfl rfl ?_
                  refine JT.only (i := 10) (d := some 33) rfl (MV.ofQV (v := s1.v) (QV.move rfl)) rfl rfl rfl ?_
                  rintro _ _ ⟨rfl, rfl⟩
                  refine ⟨fun _ => ⟨[0, 1], rfl, rfl⟩, ?_⟩
                  refine JT.only (i := 11) (d := some 34) rfl (MV.ofQV (v := .int .i64 ((x2).length : Int)) (QV.lenN (RdN.vn 0 rfl) Try.underlying22 rfl)) rfl rfl rfl ?_
                  rintro _ _ ⟨rfl, rfl⟩
                  refine ⟨fun _ => ⟨[0, 1], rfl, rfl⟩, ?_⟩
                  refine JT.only (i := 12) (d := some 35) rfl (MV.ofQV (v := .bool (decide (((x2).length : Int) ≤ (gd (gd x2 d6) d14)))) (QV.geq rfl rfl)) rfl rfl rfl ?_
                  rintro _ _ ⟨rfl, rfl⟩
                  refine ⟨fun _ => ⟨[0, 1], rfl, rfl⟩, ?_⟩
                  refine JT.only (i := 13) (d := some 36) rfl (MV.ofQV (v := .bool (decide (((x2).length : Int) ≤ (gd (gd x2 d6) d14)))) (QV.pickF rfl rfl)) rfl rfl rfl ?_
                  rintro _ _ ⟨rfl, rfl⟩
                  refine ⟨fun _ => ⟨[0, 1], rfl, rfl⟩, ?_⟩
                  rcases ite_inv hm with ⟨h23, hm⟩ | ⟨h23, hm⟩
                  ·
                    refine JT.only (i := 14) (d := some 37) rfl (MV.ofQV (v := .bool true) (QV.eq (QV.move rfl) (congrArg Value.bool (decide_eq_true h23)))) rfl rfl rfl ?_
                    rintro _ _ ⟨rfl, rfl⟩
                    refine ⟨fun _ => ⟨[0, 1], rfl, rfl⟩, ?_⟩
                    refine JT.skip (i := 15) (d := some 38) hsel rfl rfl rfl rfl rfl [0, 1] rfl rfl ?_
                    refine JT.skip (i := 16) (d := some 39) hsel rfl rfl rfl rfl rfl [0, 1] rfl rfl ?_
                    refine JT.skip (i := 17) (d := some 40) hsel rfl rfl rfl rfl rfl [0, 1] rfl rfl ?_
                    refine JT.skip (i := 18) (d := some 41) hsel rfl rfl rfl rfl rfl [0, 1] rfl rfl ?_
                    refine JT.skipO (i := 19) (d := some 42) rfl rfl rfl rfl [0, 1] rfl rfl ?_
                    refine JT.skipO (i := 20) (d := some 43) rfl rfl rfl rfl [0, 1] rfl rfl ?_
                    refine JT.only (i := 21) (d := some 44) rfl (MV.ofQV (v := .bool true) (QV.pickT rfl rfl)) rfl rfl rfl ?_
                    rintro _ _ ⟨rfl, rfl⟩
                    refine ⟨fun _ => ⟨[0, 1], rfl, rfl⟩, ?_⟩
                    refine JT.only (i := 22) (d := some 45) rfl (MV.ofQV (v := .bool true) (QV.move rfl)) rfl rfl rfl ?_
                    rintro _ _ ⟨rfl, rfl⟩
                    refine ⟨fun _ => ⟨[0, 1], rfl, rfl⟩, ?_⟩
                    refine JT.skipO (i := 23) (d := some 46) rfl rfl rfl rfl [0, 1] rfl rfl ?_
                    refine JT.skipO (i := 24) (d := some 47) rfl rfl rfl rfl [0, 1] rfl rfl ?_
                    refine JT.skipO (i := 25) (d := some 48) rfl rfl rfl rfl [0, 1] rfl rfl ?_
                    refine JT.skip (i := 26) (d := some 49) hsel rfl rfl rfl rfl rfl [0, 1] rfl rfl ?_
                    refine JT.skip (i := 27) (d := some 50) hsel rfl rfl rfl rfl rfl [0, 1] rfl rfl ?_
                    refine JT.skip (i := 28) (d := some 51) hsel rfl rfl rfl rfl rfl [0, 1] rfl rfl ?_
                    refine JT.skip (i := 29) (d := some 52) hsel rfl rfl rfl rfl rfl [0, 1] rfl rfl ?_
                    refine JT.skip (i := 30) (d := some 53) hsel rfl rfl rfl rfl rfl [0, 1] rfl rfl ?_
                    refine JT.skip (i := 31) (d := some 54) hsel rfl rfl rfl rfl rfl [0, 1] rfl rfl ?_
                    refine JT.skipO (i := 32) (d := some 55) rfl rfl rfl rfl [0, 1] rfl rfl ?_
                    refine JT.skipO (i := 33) (d := some 56) rfl rfl rfl rfl [0, 1] rfl rfl ?_
                    refine JT.skipO (i := 34) (d := some 57) rfl rfl rfl rfl [0, 1] rfl rfl ?_
                    refine JT.skipO (i := 35) (d := some 58) rfl rfl rfl rfl [0, 1] rfl rfl ?_
                    refine JT.skipO (i := 36) (d := some 59) rfl rfl rfl rfl [0, 1] rfl rfl ?_
                    refine JT.only (i := 37) (d := some 60) rfl (MV.ofQV (v := .bool true) (QV.pickT rfl rfl)) rfl rfl rfl ?_
                    rintro _ _ ⟨rfl, rfl⟩
                    refine ⟨fun _ => ⟨[0, 1], rfl, rfl⟩, ?_⟩
                    refine JT.nil ?_
                    refine QJ.then_normal ?_
                    refine JC.condT rfl ?_
                    refine JC.seq ?_
                    refine JC.region ?_
                    refine JL.val (v := .bool false) (QV.assign rfl) rfl rfl rfl ?_
                    refine JL.nil ?_
                    refine QJ.then_normal ?_
                    refine JC.ret ?_
                    refine QJ.block_ret ?_
                    refine QJ.cut_ret ?_
                    refine QJ.then_ret ?_
                    obtain rfl := Option.some.inj hm
                    refine QJ.round_ret (fun hy => ?_)
                    subst hy
                    refine QJ.block_ret ?_
                    refine QJ.cut_ret ?_
                    refine QJ.block_ret ?_
                    refine QJ.cut_ret ?_
                    refine QJ.then_ret ?_
                    obtain rfl := Option.some.inj hmo18
                    refine QJ.round_ret (fun hy => ?_)
                    subst hy
                    refine QJ.block_ret ?_
                    refine QJ.cut_ret ?_
                    refine QJ.then_ret ?_
                    obtain rfl := Option.some.inj hmo10
                    exact QJ.body (vs := [.bool false]) (.inl rfl) rfl (ResVs.cons (ResV.tmp rfl) ResVs.nil) [] rfl rfl (.inr trivial) ⟨rfl, rfl⟩
                  ·
                    refine JT.only (i := 14) (d := some 37) rfl (MV.ofQV (v := .bool false) (QV.eq (QV.move rfl) (congrArg Value.bool (decide_eq_false h23)))) rfl rfl rfl ?_
                    rintro _ _ ⟨rfl, rfl⟩
                    refine ⟨fun _ => ⟨[0, 1], rfl, rfl⟩, ?_⟩
                    refine JT.take (i := 15) (v := (gd z3 d6).v) hsel rfl (QV.move rfl) rfl rfl rfl rfl [0, 1] rfl rfl ?_
                    refine JT.take (i := 16) (v := .int .i64 d14) hsel rfl (QV.move rfl) rfl rfl rfl rfl [0, 1] rfl rfl ?_
                    refine JT.take (i := 17) (v := .pointer (some (elA ((gd z3 d6).v) (Int.toNat d14 * ((Enc.int .i64)).sz)))) hsel rfl (QV.indexA (Rdg.vw 1 rfl) Try.underlying25 tk_3 rfl rfl h21) rfl rfl rfl rfl [0, 1] rfl rfl ?_
                    refine JT.take (i := 18) (v := .int .i64 (gd (gd x2 d6) d14)) hsel rfl (QV.el1 (Rdg.vw 1 rfl) tk_3 rfl h21 rfl) rfl rfl rfl rfl [0, 1] rfl rfl ?_
                    refine JT.only (i := 19) (d := some 42) rfl (MV.ofQV (v := .int .i64 d6) (QV.move rfl)) rfl rfl rfl ?_
                    rintro _ _ ⟨rfl, rfl⟩
                    refine ⟨fun _ => ⟨[0, 1], rfl, rfl⟩, ?_⟩
                    refine JT.only (i := 20) (d := some 43) rfl (MV.ofQV (v := .bool (decide ((gd (gd x2 d6) d14) = d6))) (QV.eql rfl rfl)) rfl rfl rfl ?_
                    rintro _ _ ⟨rfl, rfl⟩
                    refine ⟨fun _ => ⟨[0, 1], rfl, rfl⟩, ?_⟩
                    refine JT.only (i := 21) (d := some 44) rfl (MV.ofQV (v := .bool (decide ((gd (gd x2 d6) d14) = d6))) (QV.pickF rfl rfl)) rfl rfl rfl ?_
                    rintro _ _ ⟨rfl, rfl⟩
                    refine ⟨fun _ => ⟨[0, 1], rfl, rfl⟩, ?_⟩
                    rcases ite_inv hm with ⟨h24, hm⟩ | ⟨h24, hm⟩
                    ·
                      refine JT.only (i := 22) (d := some 45) rfl (MV.ofQV (v := .bool true) (QV.eq (QV.move rfl) (congrArg Value.bool (decide_eq_true h24)))) rfl rfl rfl ?_
                      rintro _ _ ⟨rfl, rfl⟩
                      refine ⟨fun _ => ⟨[0, 1], rfl, rfl⟩, ?_⟩
                      refine JT.skipO (i := 23) (d := some 46) rfl rfl rfl rfl [0, 1] rfl rfl ?_
                      refine JT.skipO (i := 24) (d := some 47) rfl rfl rfl rfl [0, 1] rfl rfl ?_
                      refine JT.skipO (i := 25) (d := some 48) rfl rfl rfl rfl [0, 1] rfl rfl ?_
                      refine JT.skip (i := 26) (d := some 49) hsel rfl rfl rfl rfl rfl [0, 1] rfl rfl ?_
                      refine JT.skip (i := 27) (d := some 50) hsel rfl rfl rfl rfl rfl [0, 1] rfl rfl ?_
                      refine JT.skip (i := 28) (d := some 51) hsel rfl rfl rfl rfl rfl [0, 1] rfl rfl ?_
                      refine JT.skip (i := 29) (d := some 52) hsel rfl rfl rfl rfl rfl [0, 1] rfl rfl ?_
                      refine JT.skip (i := 30) (d := some 53) hsel rfl rfl rfl rfl rfl [0, 1] rfl rfl ?_
                      refine JT.skip (i := 31) (d := some 54) hsel rfl rfl rfl rfl rfl [0, 1] rfl rfl ?_
                      refine JT.skipO (i := 32) (d := some 55) rfl rfl rfl rfl [0, 1] rfl rfl ?_
                      refine JT.skipO (i := 33) (d := some 56) rfl rfl rfl rfl [0, 1] rfl rfl ?_
                      refine JT.skipO (i := 34) (d := some 57) rfl rfl rfl rfl [0, 1] rfl rfl ?_
                      refine JT.skipO (i := 35) (d := some 58) rfl rfl rfl rfl [0, 1] rfl rfl ?_
                      refine JT.skipO (i := 36) (d := some 59) rfl rfl rfl rfl [0, 1] rfl rfl ?_
                      refine JT.only (i := 37) (d := some 60) rfl (MV.ofQV (v := .bool true) (QV.pickT rfl rfl)) rfl rfl rfl ?_
                      rintro _ _ ⟨rfl, rfl⟩
                      refine ⟨fun _ => ⟨[0, 1], rfl, rfl⟩, ?_⟩
                      refine JT.nil ?_
                      refine QJ.then_normal ?_
                      refine JC.condT rfl ?_
                      refine JC.seq ?_
                      refine JC.region ?_
                      refine JL.val (v := .bool false) (QV.assign rfl) rfl rfl rfl ?_
                      refine JL.nil ?_
                      refine QJ.then_normal ?_
                      refine JC.ret ?_
                      refine QJ.block_ret ?_
                      refine QJ.cut_ret ?_
                      refine QJ.then_ret ?_
                      obtain rfl := Option.some.inj hm
                      refine QJ.round_ret (fun hy => ?_)
                      subst hy
                      refine QJ.block_ret ?_
                      refine QJ.cut_ret ?_
                      refine QJ.block_ret ?_
                      refine QJ.cut_ret ?_
                      refine QJ.then_ret ?_
                      obtain rfl := Option.some.inj hmo18
                      refine QJ.round_ret (fun hy => ?_)
                      subst hy
                      refine QJ.block_ret ?_
                      refine QJ.cut_ret ?_
                      refine QJ.then_ret ?_
                      obtain rfl := Option.some.inj hmo10
                      exact QJ.body (vs := [.bool false]) (.inl rfl) rfl (ResVs.cons (ResV.tmp rfl) ResVs.nil) [] rfl rfl (.inr trivial) ⟨rfl, rfl⟩
                    ·
                      refine JT.only (i := 22) (d := some 45) rfl (MV.ofQV (v := .bool false) (QV.eq (QV.move rfl) (congrArg Value.bool (decide_eq_false h24)))) rfl rfl rfl ?_
                      rintro _ _ ⟨rfl, rfl⟩
                      refine ⟨fun _ => ⟨[0, 1], rfl, rfl⟩, ?_⟩
                      refine JT.only (i := 23) (d := some 46) rfl (MV.ofQV (v := .int .i64 d14) (QV.move rfl)) rfl rfl rfl ?_
                      rintro _ _ ⟨rfl, rfl⟩
                      refine ⟨fun _ => ⟨[0, 1], rfl, rfl⟩, ?_⟩
                      refine JT.only (i := 24) (d := some 47) rfl (MV.ofQV (v := .bool (decide ((0 : Int) < d14))) (QV.gtr rfl rfl)) rfl rfl rfl ?_
                      rintro _ _ ⟨rfl, rfl⟩
                      refine ⟨fun _ => ⟨[0, 1], rfl, rfl⟩, ?_⟩
                      rcases ite_inv hm with ⟨h25, hm⟩ | ⟨h25, hm⟩
                      ·
                        refine JT.only (i := 25) (d := some 48) rfl (MV.ofQV (v := .bool true) (QV.eq (QV.move rfl) (congrArg Value.bool (decide_eq_true h25)))) rfl rfl rfl ?_
                        rintro _ _ ⟨rfl, rfl⟩
                        refine ⟨fun _ => ⟨[0, 1], rfl, rfl⟩, ?_⟩
                        refine JT.take (i := 26) (v := (gd z3 d6).v) hsel rfl (QV.move rfl) rfl rfl rfl rfl [0, 1] rfl rfl ?_
                        refine JT.take (i := 27) (v := .int .i64 d14) hsel rfl (QV.move rfl) rfl rfl rfl rfl [0, 1] rfl rfl ?_
                        refine JT.take (i := 28) (v := .int .i64 (IntKind.wrap .i64 (d14 - (1 : Int)))) hsel rfl (QV.sub rfl rfl) rfl rfl rfl rfl [0, 1] rfl rfl ?_
                        obtain ⟨h26, hm⟩ := guard_inv hm
                        refine JT.take (i := 29) (v := .pointer (some (elA ((gd z3 d6).v) (Int.toNat (IntKind.wrap .i64 (d14 - (1 : Int))) * ((Enc.int .i64)).sz)))) hsel rfl (QV.indexA (Rdg.vw 1 rfl) Try.underlying25 tk_3 rfl rfl h26) rfl rfl rfl rfl [0, 1] rfl rfl ?_
                        refine JT.take (i := 30) (v := .int .i64 (gd (gd x2 d6) (IntKind.wrap .i64 (d14 - (1 : Int))))) hsel rfl (QV.el1 (Rdg.vw 1 rfl) tk_3 rfl h26 rfl) rfl rfl rfl rfl [0, 1] rfl rfl ?_
                        refine JT.take (i := 31) (v := (gd z3 d6).v) hsel rfl (QV.move rfl) rfl rfl rfl rfl [0, 1] rfl rfl ?_
                        refine JT.only (i := 32) (d := some 55) rfl (MV.ofQV (v := .int .i64 d14) (QV.move rfl)) rfl rfl rfl ?_
                        rintro _ _ ⟨rfl, rfl⟩
                        refine ⟨fun _ => ⟨[0, 1], rfl, rfl⟩, ?_⟩
                        refine JT.only (i := 33) (d := some 56) rfl (MV.ofQV (v := .pointer (some (elA ((gd z3 d6).v) (Int.toNat d14 * ((Enc.int .i64)).sz)))) (QV.indexA (Rdg.vw 1 rfl) Try.underlying25 tk_3 rfl rfl h21)) rfl rfl rfl ?_
                        rintro _ _ ⟨rfl, rfl⟩
                        refine ⟨fun _ => ⟨[0, 1], rfl, rfl⟩, ?_⟩
                        refine JT.only (i := 34) (d := some 57) rfl (MV.ofQV (v := .int .i64 (gd (gd x2 d6) d14)) (QV.el1 (Rdg.vw 1 rfl) tk_3 rfl h21 rfl)) rfl rfl rfl ?_
                        rintro _ _ ⟨rfl, rfl⟩
                        refine ⟨fun _ => ⟨[0, 1], rfl, rfl⟩, ?_⟩
                        refine JT.only (i := 35) (d := some 58) rfl (MV.ofQV (v := .bool (decide ((gd (gd x2 d6) d14) ≤ (gd (gd x2 d6) (IntKind.wrap .i64 (d14 - (1 : Int))))))) (QV.geq rfl rfl)) rfl rfl rfl ?_
                        rintro _ _ ⟨rfl, rfl⟩
                        refine ⟨fun _ => ⟨[0, 1], rfl, rfl⟩, ?_⟩
                        refine JT.only (i := 36) (d := some 59) rfl (MV.ofQV (v := .bool (decide ((gd (gd x2 d6) d14) ≤ (gd (gd x2 d6) (IntKind.wrap .i64 (d14 - (1 : Int))))))) (QV.pickT rfl rfl)) rfl rfl rfl ?_
                        rintro _ _ ⟨rfl, rfl⟩
                        refine ⟨fun _ => ⟨[0, 1], rfl, rfl⟩, ?_⟩
                        refine JT.only (i := 37) (d := some 60) rfl (MV.ofQV (v := .bool (decide ((gd (gd x2 d6) d14) ≤ (gd (gd x2 d6) (IntKind.wrap .i64 (d14 - (1 : Int))))))) (QV.pickF rfl rfl)) rfl rfl rfl ?_
                        rintro _ _ ⟨rfl, rfl⟩
                        refine ⟨fun _ => ⟨[0, 1], rfl, rfl⟩, ?_⟩
                        refine JT.nil ?_
                        refine QJ.then_normal ?_
                        rcases ite_inv hm with ⟨h27, hm⟩ | ⟨h27, hm⟩
                        ·
                          refine JC.condT' rfl (decide_eq_true h27) ?_
                          refine JC.seq ?_
                          refine JC.region ?_
                          refine JL.val (v := .bool false) (QV.assign rfl) rfl rfl rfl ?_
                          refine JL.nil ?_
                          refine QJ.then_normal ?_
                          refine JC.ret ?_
                          refine QJ.block_ret ?_
                          refine QJ.cut_ret ?_
                          refine QJ.then_ret ?_
                          obtain rfl := Option.some.inj hm
                          refine QJ.round_ret (fun hy => ?_)
                          subst hy
                          refine QJ.block_ret ?_
                          refine QJ.cut_ret ?_
                          refine QJ.block_ret ?_
                          refine QJ.cut_ret ?_
                          refine QJ.then_ret ?_
                          obtain rfl := Option.some.inj hmo18
                          refine QJ.round_ret (fun hy => ?_)
                          subst hy
                          refine QJ.block_ret ?_
                          refine QJ.cut_ret ?_
                          refine QJ.then_ret ?_
                          obtain rfl := Option.some.inj hmo10
                          exact QJ.body (vs := [.bool false]) (.inl rfl) rfl (ResVs.cons (ResV.tmp rfl) ResVs.nil) [] rfl rfl (.inr trivial) ⟨rfl, rfl⟩
                        ·
                          refine JC.condF' rfl (decide_eq_false h27) ?_
                          refine JC.skip ?_
                          refine QJ.block_normal ?_
                          exact QJ.cut_normal ((), ()) hm [0, 1] (by exact ⟨rfl, rfl, rfl, rfl, rfl, rfl, rfl, trivial⟩) rfl rfl
                      ·
                        refine JT.only (i := 25) (d := some 48) rfl (MV.ofQV (v := .bool false) (QV.eq (QV.move rfl) (congrArg Value.bool (decide_eq_false h25)))) rfl rfl rfl ?_
                        rintro _ _ ⟨rfl, rfl⟩
                        refine ⟨fun _ => ⟨[0, 1], rfl, rfl⟩, ?_⟩
                        refine JT.skip (i := 26) (d := some 49) hsel rfl rfl rfl rfl rfl [0, 1] rfl rfl ?_
                        refine JT.skip (i := 27) (d := some 50) hsel rfl rfl rfl rfl rfl [0, 1] rfl rfl ?_
                        refine JT.skip (i := 28) (d := some 51) hsel rfl rfl rfl rfl rfl [0, 1] rfl rfl ?_
                        refine JT.skip (i := 29) (d := some 52) hsel rfl rfl rfl rfl rfl [0, 1] rfl rfl ?_
                        refine JT.skip (i := 30) (d := some 53) hsel rfl rfl rfl rfl rfl [0, 1] rfl rfl ?_
                        refine JT.skip (i := 31) (d := some 54) hsel rfl rfl rfl rfl rfl [0, 1] rfl rfl ?_
                        refine JT.skipO (i := 32) (d := some 55) rfl rfl rfl rfl [0, 1] rfl rfl ?_
                        refine JT.skipO (i := 33) (d := some 56) rfl rfl rfl rfl [0, 1] rfl rfl ?_
                        refine JT.skipO (i := 34) (d := some 57) rfl rfl rfl rfl [0, 1] rfl rfl ?_
                        refine JT.skipO (i := 35) (d := some 58) rfl rfl rfl rfl [0, 1] rfl rfl ?_
                        refine JT.only (i := 36) (d := some 59) rfl (MV.ofQV (v := .bool false) (QV.pickF rfl rfl)) rfl rfl rfl ?_
                        rintro _ _ ⟨rfl, rfl⟩
                        refine ⟨fun _ => ⟨[0, 1], rfl, rfl⟩, ?_⟩
                        refine JT.only (i := 37) (d := some 60) rfl (MV.ofQV (v := .bool false) (QV.pickF rfl rfl)) rfl rfl rfl ?_
                        rintro _ _ ⟨rfl, rfl⟩
                        refine ⟨fun _ => ⟨[0, 1], rfl, rfl⟩, ?_⟩
                        refine JT.nil ?_
                        refine QJ.then_normal ?_
                        refine JC.condF rfl ?_
                        refine JC.skip ?_
                        refine QJ.block_normal ?_
                        exact QJ.cut_normal ((), ()) hm [0, 1] (by exact ⟨rfl, rfl, rfl, rfl, rfl, rfl, rfl, trivial⟩) rfl rfl
            ·
              refine JC.condF' rfl (decide_eq_false h20) ?_
              refine JC.exit ?_
              refine QJ.then_exit ?_
              obtain rfl := Option.some.inj hm
              refine QJ.round_exit (fun hy => ?_)
              subst hy
              refine QJ.block_hit ?_
              exact QJ.cut_normal ((), ()) hmo18 [0] (by exact ⟨rfl, rfl, rfl, trivial⟩) rfl rfl
      ·
        refine JC.condF' rfl (decide_eq_false h12) ?_
        refine JC.exit ?_
        refine QJ.then_exit ?_
        obtain rfl := Option.some.inj hm
        refine QJ.round_exit (fun hy => ?_)
        subst hy
        refine QJ.block_hit ?_
        exact QJ.cut_normal ((), ()) hmo10 [] trivial rfl rfl

/-! ### 44: drogher/drogherref19.has -/
noncomputable def F44.j1   : Option Bool :=
  some false
noncomputable def F44.b1 (x2 : List Int) (x3 : Int) : Int → Option (Int ⊕ ((Bool) ⊕ Unit))
  | d5 => (if d5 < ((x2).length : Int) then (if 0 ≤ d5 ∧ d5 < ((x2).length : Int) then (if (gd x2 d5) = x3 then some (.inr (.inl (true))) else some (.inl (IntKind.wrap .i64 (d5 + (1 : Int))))) else none) else some (.inr (.inr (()))))
noncomputable def F44.m (x2 : List Int) (x3 : Int) : Option Bool :=
  ((loop (F44.b1 x2 x3) (0 : Int)).bind fun y => match y with | .inl r => some r | .inr _ => F44.j1)
set_option maxRecDepth 100000 in
set_option maxHeartbeats 4000000 in
theorem F44.spec (s1 : SlV) (x2 : List Int) (x3 : Int) (r : Bool) (hm : F44.m x2 x3 = some r) :
    Ctr Try.prog false 44 [s1.v, .int .i64 x3] [Asr.vw (Enc.int .i64) (s1.v) x2] (fun v L' => v = .bool r ∧ L' = []) := by
  refine Ctr.intro (n := 18) (env := [(0, s1.v), (1, .int .i64 x3)]) Try.func44 rfl rfl rfl rfl (fun c => ?_)
  unfold F44.m at hm
  refine JC.seq ?_
  refine JC.region ?_
  refine JL.val (v := .bool false) (QV.assign rfl) rfl rfl rfl ?_
  refine JL.nil ?_
  refine QJ.then_normal ?_
  refine JC.seq ?_
  refine JC.seq ?_
  refine JC.region ?_
  refine JL.val (v := s1.v) (QV.move rfl) rfl rfl rfl ?_
  refine JL.val (v := .int .i64 ((x2).length : Int)) (QV.len (Rdg.vw 0 rfl) Try.underlying25 rfl) rfl rfl rfl ?_
  refine JL.val (v := .int .i64 (0 : Int)) (QV.move rfl) rfl rfl rfl ?_
  refine JL.nil ?_
  refine QJ.then_normal ?_
  refine JC.cutK (Y := Unit × Unit) (fun y => match y with | (_, _) => F44.j1 = some r) (fun y => match y with | (_, _) => []) (fun y => match y with | (_, _) => []) ?_ ?_
  ·
    rintro ⟨⟨⟩, ⟨⟩⟩ hm
    unfold F44.j1 at hm
    show QJ _ _ [] [] _ _
    refine QJ.then_normal ?_
    refine JC.seq ?_
    refine JC.region ?_
    refine JL.val (v := .bool false) (QV.assign rfl) rfl rfl rfl ?_
    refine JL.nil ?_
    refine QJ.then_normal ?_
    refine JC.ret ?_
    obtain rfl := Option.some.inj hm
    exact QJ.body (vs := [.bool false]) (.inl rfl) rfl (ResVs.cons (ResV.tmp rfl) ResVs.nil) [] rfl rfl (.inr trivial) ⟨rfl, rfl⟩
  ·
    refine JC.block ?_
    obtain ⟨y7, hl8, hmo9⟩ := bind_inv hm
    refine JC.loop (F44.b1 x2 x3) (fun x z => match x, z with | d5, _ => [(0, s1.v), (1, .int .i64 x3), (7, .int .i64 ((x2).length : Int)), (8, .int .i64 d5)]) (fun x z => match x, z with | d5, _ => [Asr.vw (Enc.int .i64) (s1.v) x2]) (0 : Int) () y7 hl8 [0] (by exact ⟨rfl, rfl, rfl, rfl, trivial⟩) rfl rfl ?_
    rintro d5 ⟨⟩ s10 hm
    unfold F44.b1 at hm
    dsimp only at hm
    show JC _ _ _ [(0, s1.v), (1, .int .i64 x3), (7, .int .i64 ((x2).length : Int)), (8, .int .i64 d5)] [Asr.vw (Enc.int .i64) (s1.v) x2] _ _
    refine JC.seq ?_
    refine JC.region ?_
    refine JL.val (v := .bool (decide (d5 < ((x2).length : Int)))) (QV.lss rfl rfl) rfl rfl rfl ?_
    refine JL.nil ?_
    refine QJ.then_normal ?_
    refine JC.seq ?_
    rcases ite_inv hm with ⟨h11, hm⟩ | ⟨h11, hm⟩
    ·
      refine JC.condT' rfl (decide_eq_true h11) ?_
      refine JC.skip ?_
      refine QJ.then_normal ?_
      refine JC.seq ?_
      refine JC.block ?_
      refine JC.seq ?_
      refine JC.region ?_
      refine JL.val (v := .int .i64 d5) (QV.move rfl) rfl rfl rfl ?_
      refine JL.val (v := .int .i64 d5) (QV.assign rfl) rfl rfl rfl ?_
      refine JL.nil ?_
      refine QJ.then_normal ?_
      refine JC.seq ?_
      refine JC.region ?_
      refine JL.val (v := s1.v) (QV.move rfl) rfl rfl rfl ?_
      refine JL.val (v := .int .i64 d5) (QV.move rfl) rfl rfl rfl ?_
      obtain ⟨h12, hm⟩ := guard_inv hm
      refine JL.val (v := .pointer (some (elA (s1.v) (Int.toNat d5 * ((Enc.int .i64)).sz)))) (QV.indexA (Rdg.vw 0 rfl) Try.underlying25 tk_3 rfl rfl h12) rfl rfl rfl ?_
      refine JL.val (v := .int .i64 (gd x2 d5)) (QV.el1 (Rdg.vw 0 rfl) tk_3 rfl h12 rfl) rfl rfl rfl ?_
      refine JL.val (v := .int .i64 x3) (QV.move rfl) rfl rfl rfl ?_
      refine JL.val (v := .bool (decide ((gd x2 d5) = x3))) (QV.eql rfl rfl) rfl rfl rfl ?_
      refine JL.nil ?_
      refine QJ.then_normal ?_
      rcases ite_inv hm with ⟨h13, hm⟩ | ⟨h13, hm⟩
      ·
        refine JC.condT' rfl (decide_eq_true h13) ?_
        refine JC.seq ?_
        refine JC.region ?_
        refine JL.val (v := .bool true) (QV.assign rfl) rfl rfl rfl ?_
        refine JL.nil ?_
        refine QJ.then_normal ?_
        refine JC.ret ?_
        refine QJ.block_ret ?_
        refine QJ.then_ret ?_
        obtain rfl := Option.some.inj hm
        refine QJ.round_ret (fun hy => ?_)
        subst hy
        refine QJ.block_ret ?_
        refine QJ.cut_ret ?_
        refine QJ.then_ret ?_
        obtain rfl := Option.some.inj hmo9
        exact QJ.body (vs := [.bool true]) (.inl rfl) rfl (ResVs.cons (ResV.tmp rfl) ResVs.nil) [] rfl rfl (.inr trivial) ⟨rfl, rfl⟩
      ·
        refine JC.condF' rfl (decide_eq_false h13) ?_
        refine JC.skip ?_
        refine QJ.block_normal ?_
        refine QJ.then_normal ?_
        refine JC.region ?_
        refine JL.val (v := .int .i64 (IntKind.wrap .i64 (d5 + (1 : Int)))) (QV.add rfl rfl) rfl rfl rfl ?_
        refine JL.val (v := .int .i64 (IntKind.wrap .i64 (d5 + (1 : Int)))) (QV.move rfl) rfl rfl rfl ?_
        refine JL.nil ?_
        obtain rfl := Option.some.inj hm
        exact QJ.round_on (IntKind.wrap .i64 (d5 + (1 : Int))) () [0] (by exact ⟨rfl, rfl, rfl, rfl, trivial⟩) rfl rfl
    ·
      refine JC.condF' rfl (decide_eq_false h11) ?_
      refine JC.exit ?_
      refine QJ.then_exit ?_
      obtain rfl := Option.some.inj hm
      refine QJ.round_exit (fun hy => ?_)
      subst hy
      refine QJ.block_hit ?_
      exact QJ.cut_normal ((), ()) hmo9 [] trivial rfl rfl

end Go.Proofs.Ytgganckggdjpaaa
