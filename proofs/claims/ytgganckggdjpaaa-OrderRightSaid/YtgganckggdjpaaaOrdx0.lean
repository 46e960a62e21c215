/- Written by gen.py: functions and their contracts. -/
import Derived.Test.YtgganckggdjpaaaOrdFacts
namespace Go.Proofs.Ytgganckggdjpaaa
open Go Go.Eng Go.Proofs
set_option linter.unusedVariables false
set_option linter.unusedSimpArgs false
/-! ### 11: drogher/drogherref18.Great -/
noncomputable def F11.j1   : Option Bool :=
  some false
noncomputable def F11.b1 (x2 : List (List Int)) : Int → Option (Int ⊕ ((Bool) ⊕ Unit))
  | d6 => (if d6 < ((x2).length : Int) then (if 0 ≤ d6 ∧ d6 < ((x2).length : Int) then (if (60 : Int) < (((gd x2 d6)).length : Int) then some (.inr (.inl (true))) else some (.inl (IntKind.wrap .i64 (d6 + (1 : Int))))) else none) else some (.inr (.inr (()))))
noncomputable def F11.m (x2 : List (List Int)) : Option Bool :=
  (if (40 : Int) < ((x2).length : Int) then some true else ((loop (F11.b1 x2) (0 : Int)).bind fun y => match y with | .inl r => some r | .inr _ => F11.j1))
set_option maxRecDepth 100000 in
set_option maxHeartbeats 4000000 in
theorem F11.spec (s1 : SlV) (z3 : List SlV) (x2 : List (List Int)) (r : Bool) (hm : F11.m x2 = some r) :
    Ctr Try.prog false 11 [s1.v] [Asr.vn (NE.sl (Enc.int .i64)) (s1.v) z3 x2] (fun v L' => v = .bool r ∧ L' = []) := by
  refine Ctr.intro (n := 19) (env := [(0, s1.v)]) Try.func11 rfl rfl rfl rfl (fun c => ?_)
  unfold F11.m at hm
  refine JC.seq ?_
  refine JC.region ?_
  refine JL.val (v := .bool false) (QV.assign rfl) rfl rfl rfl ?_
  refine JL.nil ?_
  refine QJ.then_normal ?_
  refine JC.seq ?_
  refine JC.seq ?_
  refine JC.region ?_
  refine JL.val (v := s1.v) (QV.move rfl) rfl rfl rfl ?_
  refine JL.val (v := .int .i64 ((x2).length : Int)) (QV.lenN (RdN.vn 0 rfl) Try.underlying22 rfl) rfl rfl rfl ?_
  refine JL.val (v := .bool (decide ((40 : Int) < ((x2).length : Int)))) (QV.gtr rfl rfl) rfl rfl rfl ?_
  refine JL.nil ?_
  refine QJ.then_normal ?_
  rcases ite_inv hm with ⟨h5, hm⟩ | ⟨h5, hm⟩
  ·
    refine JC.condT' rfl (decide_eq_true h5) ?_
    refine JC.seq ?_
    refine JC.region ?_
    refine JL.val (v := .bool true) (QV.assign rfl) rfl rfl rfl ?_
    refine JL.nil ?_
    refine QJ.then_normal ?_
    refine JC.ret ?_
    refine QJ.then_ret ?_
    obtain rfl := Option.some.inj hm
    exact QJ.body (vs := [.bool true]) (.inl rfl) rfl (ResVs.cons (ResV.tmp rfl) ResVs.nil) [] rfl rfl (.inr trivial) ⟨rfl, rfl⟩
  ·
    refine JC.condF' rfl (decide_eq_false h5) ?_
    refine JC.skip ?_
    refine QJ.then_normal ?_
    refine JC.seq ?_
    refine JC.seq ?_
    refine JC.region ?_
    refine JL.val (v := s1.v) (QV.move rfl) rfl rfl rfl ?_
    refine JL.val (v := .int .i64 ((x2).length : Int)) (QV.lenN (RdN.vn 0 rfl) Try.underlying22 rfl) rfl rfl rfl ?_
    refine JL.val (v := .int .i64 (0 : Int)) (QV.move rfl) rfl rfl rfl ?_
    refine JL.nil ?_
    refine QJ.then_normal ?_
    refine JC.cutK (Y := Unit × Unit) (fun y => match y with | (_, _) => F11.j1 = some r) (fun y => match y with | (_, _) => []) (fun y => match y with | (_, _) => []) ?_ ?_
    ·
      rintro ⟨⟨⟩, ⟨⟩⟩ hm
      unfold F11.j1 at hm
      show QJ _ _ [] [] _ _
      refine QJ.then_normal ?_
      refine JC.seq ?_
      refine JC.region ?_
      refine JL.val (v := .bool false) (QV.assign rfl) rfl rfl rfl ?_
      refine JL.nil ?_
      refine QJ.then_normal ?_
      refine JC.ret ?_
      obtain rfl := Option.some.inj hm
      exact QJ.body (vs := [.bool false]) (.inl rfl) rfl (ResVs.cons (ResV.tmp rfl) ResVs.nil) [] rfl rfl (.inr trivial) ⟨rfl, rfl⟩
    ·
      refine JC.block ?_
      obtain ⟨y8, hl9, hmo10⟩ := bind_inv hm
      refine JC.loop (F11.b1 x2) (fun x z => match x, z with | d6, _ => [(0, s1.v), (8, .int .i64 ((x2).length : Int)), (9, .int .i64 d6)]) (fun x z => match x, z with | d6, _ => [Asr.vn (NE.sl (Enc.int .i64)) (s1.v) z3 x2]) (0 : Int) () y8 hl9 [0] (by exact ⟨rfl, rfl, rfl, trivial⟩) rfl rfl ?_
      rintro d6 ⟨⟩ s11 hm
      unfold F11.b1 at hm
      dsimp only at hm
      show JC _ _ _ [(0, s1.v), (8, .int .i64 ((x2).length : Int)), (9, .int .i64 d6)] [Asr.vn (NE.sl (Enc.int .i64)) (s1.v) z3 x2] _ _
      refine JC.seq ?_
      refine JC.region ?_
      refine JL.val (v := .bool (decide (d6 < ((x2).length : Int)))) (QV.lss rfl rfl) rfl rfl rfl ?_
      refine JL.nil ?_
      refine QJ.then_normal ?_
      refine JC.seq ?_
      rcases ite_inv hm with ⟨h12, hm⟩ | ⟨h12, hm⟩
      ·
        refine JC.condT' rfl (decide_eq_true h12) ?_
        refine JC.skip ?_
        refine QJ.then_normal ?_
        refine JC.seq ?_
        refine JC.block ?_
        refine JC.seq ?_
        refine JC.region ?_
        refine JL.val (v := .int .i64 d6) (QV.move rfl) rfl rfl rfl ?_
        refine JL.val (v := .int .i64 d6) (QV.assign rfl) rfl rfl rfl ?_
        refine JL.nil ?_
        refine QJ.then_normal ?_
        refine JC.seq ?_
        refine JC.region ?_
        refine JL.val (v := s1.v) (QV.move rfl) rfl rfl rfl ?_
        refine JL.val (v := .int .i64 d6) (QV.move rfl) rfl rfl rfl ?_
        obtain ⟨h13, hm⟩ := guard_inv hm
        refine JL.val (v := .pointer (some (elA (s1.v) (Int.toNat d6 * ((NE.sl (Enc.int .i64)).E).sz)))) (QV.indexN (RdN.vn 0 rfl) Try.underlying22 tk_25 rfl rfl h13) rfl rfl rfl ?_
        refine JL.val (v := (gd z3 d6).v) (QV.el1N (RdN.vn 0 rfl) tk_25 rfl h13 rfl) rfl rfl rfl ?_
        refine JL.val (v := .int .i64 (((gd x2 d6)).length : Int)) (QV.len (Rdg.ofDrv (Drv.el (K := (NE.sl (Enc.int .i64))) (A := Asr.vw (Enc.int .i64) ((gd z3 d6).v) (gd x2 d6)) (Drv.vn 0 rfl) h13 (fun _ _ q => q))) Try.underlying25 rfl) rfl rfl rfl ?_
        refine JL.val (v := .bool (decide ((60 : Int) < (((gd x2 d6)).length : Int)))) (QV.gtr rfl rfl) rfl rfl rfl ?_
        refine JL.nil ?_
        refine QJ.then_normal ?_
        rcases ite_inv hm with ⟨h14, hm⟩ | ⟨h14, hm⟩
        ·
          refine JC.condT' rfl (decide_eq_true h14) ?_
          refine JC.seq ?_
          refine JC.region ?_
          refine JL.val (v := .bool true) (QV.assign rfl) rfl rfl rfl ?_
          refine JL.nil ?_
          refine QJ.then_normal ?_
          refine JC.ret ?_
          refine QJ.block_ret ?_
          refine QJ.then_ret ?_
          obtain rfl := Option.some.inj hm
          refine QJ.round_ret (fun hy => ?_)
          subst hy
          refine QJ.block_ret ?_
          refine QJ.cut_ret ?_
          refine QJ.then_ret ?_
          obtain rfl := Option.some.inj hmo10
          exact QJ.body (vs := [.bool true]) (.inl rfl) rfl (ResVs.cons (ResV.tmp rfl) ResVs.nil) [] rfl rfl (.inr trivial) ⟨rfl, rfl⟩
        ·
          refine JC.condF' rfl (decide_eq_false h14) ?_
          refine JC.skip ?_
          refine QJ.block_normal ?_
          refine QJ.then_normal ?_
          refine JC.region ?_
          refine JL.val (v := .int .i64 (IntKind.wrap .i64 (d6 + (1 : Int)))) (QV.add rfl rfl) rfl rfl rfl ?_
          refine JL.val (v := .int .i64 (IntKind.wrap .i64 (d6 + (1 : Int)))) (QV.move rfl) rfl rfl rfl ?_
          refine JL.nil ?_
          obtain rfl := Option.some.inj hm
          exact QJ.round_on (IntKind.wrap .i64 (d6 + (1 : Int))) () [0] (by exact ⟨rfl, rfl, rfl, trivial⟩) rfl rfl
      ·
        refine JC.condF' rfl (decide_eq_false h12) ?_
        refine JC.exit ?_
        refine QJ.then_exit ?_
        obtain rfl := Option.some.inj hm
        refine QJ.round_exit (fun hy => ?_)
        subst hy
        refine QJ.block_hit ?_
        exact QJ.cut_normal ((), ()) hmo10 [] trivial rfl rfl

/-! ### 64: drogher/graph.right -/
noncomputable def F64.j1 (x2 : List (List Int))  : Option Bool :=
  some (decide (((x2).length : Int) ≤ (4096 : Int)))
noncomputable def F64.j2 (d5 : Int)  : Option (Int ⊕ ((Bool) ⊕ Unit)) :=
  some (.inl (IntKind.wrap .i64 (d5 + (1 : Int))))
noncomputable def F64.j3 (d5 : Int)  : Option (Int ⊕ ((Bool) ⊕ Unit)) :=
  F64.j2 d5
noncomputable def F64.j4 (d13 : Int)  : Option (Int ⊕ ((Bool) ⊕ Unit)) :=
  some (.inl (IntKind.wrap .i64 (d13 + (1 : Int))))
noncomputable def F64.b2 (x2 : List (List Int)) (d5 : Int) : Int → Option (Int ⊕ ((Bool) ⊕ Unit))
  | d13 => (if d13 < (((gd x2 d5)).length : Int) then (if 0 ≤ d13 ∧ d13 < (((gd x2 d5)).length : Int) then (if (gd (gd x2 d5) d13) < (0 : Int) then some (.inr (.inl (false))) else (if ((x2).length : Int) ≤ (gd (gd x2 d5) d13) then some (.inr (.inl (false))) else (if (gd (gd x2 d5) d13) = d5 then some (.inr (.inl (false))) else (if (0 : Int) < d13 then (if 0 ≤ (IntKind.wrap .i64 (d13 - (1 : Int))) ∧ (IntKind.wrap .i64 (d13 - (1 : Int))) < (((gd x2 d5)).length : Int) then (if (gd (gd x2 d5) d13) ≤ (gd (gd x2 d5) (IntKind.wrap .i64 (d13 - (1 : Int)))) then some (.inr (.inl (false))) else F64.j4 d13) else none) else F64.j4 d13)))) else none) else some (.inr (.inr (()))))
noncomputable def F64.b1 (x2 : List (List Int)) : Int → Option (Int ⊕ ((Bool) ⊕ Unit))
  | d5 => (if d5 < ((x2).length : Int) then (if 0 ≤ d5 ∧ d5 < ((x2).length : Int) then ((loop (F64.b2 x2 d5) (0 : Int)).bind fun y => match y with | .inl r => some (.inr (.inl (r))) | .inr _ => F64.j3 d5) else none) else some (.inr (.inr (()))))
noncomputable def F64.m (x2 : List (List Int)) : Option Bool :=
  ((loop (F64.b1 x2) (0 : Int)).bind fun y => match y with | .inl r => some r | .inr _ => F64.j1 x2)
set_option maxRecDepth 100000 in
set_option maxHeartbeats 4000000 in
theorem F64.spec (s1 : SlV) (z3 : List SlV) (x2 : List (List Int)) (r : Bool) (hm : F64.m x2 = some r) :
    Ctr Try.prog false 64 [s1.v] [Asr.vn (NE.sl (Enc.int .i64)) (s1.v) z3 x2] (fun v L' => v = .bool r ∧ L' = []) := by
  refine Ctr.intro (n := 52) (env := [(0, s1.v)]) Try.func64 rfl rfl rfl rfl (fun c => ?_)
  unfold F64.m at hm
  refine JC.seq ?_
  refine JC.region ?_
  refine JL.val (v := .bool false) (QV.assign rfl) rfl rfl rfl ?_
  refine JL.nil ?_
  refine QJ.then_normal ?_
  refine JC.seq ?_
  refine JC.seq ?_
  refine JC.region ?_
  refine JL.val (v := s1.v) (QV.move rfl) rfl rfl rfl ?_
  refine JL.val (v := .int .i64 ((x2).length : Int)) (QV.lenN (RdN.vn 0 rfl) Try.underlying22 rfl) rfl rfl rfl ?_
  refine JL.val (v := .int .i64 (0 : Int)) (QV.move rfl) rfl rfl rfl ?_
  refine JL.nil ?_
  refine QJ.then_normal ?_
  refine JC.cutK (Y := Unit × Unit) (fun y => match y with | (_, _) => F64.j1 x2 = some r) (fun y => match y with | (_, _) => [(0, s1.v)]) (fun y => match y with | (_, _) => [Asr.vn (NE.sl (Enc.int .i64)) (s1.v) z3 x2]) ?_ ?_
  ·
    rintro ⟨⟨⟩, ⟨⟩⟩ hm
    unfold F64.j1 at hm
    show QJ _ _ [(0, s1.v)] [Asr.vn (NE.sl (Enc.int .i64)) (s1.v) z3 x2] _ _
    refine QJ.then_normal ?_
    refine JC.seq ?_
    refine JC.region ?_
    refine JL.val (v := s1.v) (QV.move rfl) rfl rfl rfl ?_
    refine JL.val (v := .int .i64 ((x2).length : Int)) (QV.lenN (RdN.vn 0 rfl) Try.underlying22 rfl) rfl rfl rfl ?_
    refine JL.val (v := .bool (decide (((x2).length : Int) ≤ (4096 : Int)))) (QV.leq rfl rfl) rfl rfl rfl ?_
    refine JL.val (v := .bool (decide (((x2).length : Int) ≤ (4096 : Int)))) (QV.assign rfl) rfl rfl rfl ?_
    refine JL.nil ?_
    refine QJ.then_normal ?_
    refine JC.ret ?_
    obtain rfl := Option.some.inj hm
    exact QJ.body (vs := [.bool (decide (((x2).length : Int) ≤ (4096 : Int)))]) (.inl rfl) rfl (ResVs.cons (ResV.tmp rfl) ResVs.nil) [] rfl rfl (.inr trivial) ⟨rfl, rfl⟩
  ·
    refine JC.block ?_
    obtain ⟨y7, hl8, hmo9⟩ := bind_inv hm
    refine JC.loop (F64.b1 x2) (fun x z => match x, z with | d5, _ => [(0, s1.v), (7, s1.v), (8, .int .i64 ((x2).length : Int)), (9, .int .i64 d5)]) (fun x z => match x, z with | d5, _ => [Asr.vn (NE.sl (Enc.int .i64)) (s1.v) z3 x2]) (0 : Int) () y7 hl8 [0] (by exact ⟨rfl, rfl, rfl, rfl, trivial⟩) rfl rfl ?_
    rintro d5 ⟨⟩ s10 hm
    unfold F64.b1 at hm
    dsimp only at hm
    show JC _ _ _ [(0, s1.v), (7, s1.v), (8, .int .i64 ((x2).length : Int)), (9, .int .i64 d5)] [Asr.vn (NE.sl (Enc.int .i64)) (s1.v) z3 x2] _ _
    refine JC.seq ?_
    refine JC.region ?_
    refine JL.val (v := .bool (decide (d5 < ((x2).length : Int)))) (QV.lss rfl rfl) rfl rfl rfl ?_
    refine JL.nil ?_
    refine QJ.then_normal ?_
    refine JC.seq ?_
    rcases ite_inv hm with ⟨h11, hm⟩ | ⟨h11, hm⟩
    ·
      refine JC.condT' rfl (decide_eq_true h11) ?_
      refine JC.skip ?_
      refine QJ.then_normal ?_
      refine JC.seq ?_
      refine JC.cutK (Y := Unit × Unit) (fun y => match y with | (_, _) => F64.j2 d5 = some s10) (fun y => match y with | (_, _) => [(0, s1.v), (7, s1.v), (8, .int .i64 ((x2).length : Int)), (9, .int .i64 d5)]) (fun y => match y with | (_, _) => [Asr.vn (NE.sl (Enc.int .i64)) (s1.v) z3 x2]) ?_ ?_
      ·
        rintro ⟨⟨⟩, ⟨⟩⟩ hm
        unfold F64.j2 at hm
        show QJ _ _ [(0, s1.v), (7, s1.v), (8, .int .i64 ((x2).length : Int)), (9, .int .i64 d5)] [Asr.vn (NE.sl (Enc.int .i64)) (s1.v) z3 x2] _ _
        refine QJ.then_normal ?_
        refine JC.region ?_
        refine JL.val (v := .int .i64 (IntKind.wrap .i64 (d5 + (1 : Int)))) (QV.add rfl rfl) rfl rfl rfl ?_
        refine JL.val (v := .int .i64 (IntKind.wrap .i64 (d5 + (1 : Int)))) (QV.move rfl) rfl rfl rfl ?_
        refine JL.nil ?_
        obtain rfl := Option.some.inj hm
        exact QJ.round_on (IntKind.wrap .i64 (d5 + (1 : Int))) () [0] (by exact ⟨rfl, rfl, rfl, rfl, trivial⟩) rfl rfl
      ·
        refine JC.block ?_
        refine JC.seq ?_
        refine JC.region ?_
        refine JL.val (v := .int .i64 d5) (QV.move rfl) rfl rfl rfl ?_
        obtain ⟨h12, hm⟩ := guard_inv hm
        refine JL.val (v := .pointer (some (elA (s1.v) (Int.toNat d5 * ((NE.sl (Enc.int .i64)).E).sz)))) (QV.indexN (RdN.vn 0 rfl) Try.underlying22 tk_25 rfl rfl h12) rfl rfl rfl ?_
        refine JL.val (v := (gd z3 d5).v) (QV.el1N (RdN.vn 0 rfl) tk_25 rfl h12 rfl) rfl rfl rfl ?_
        refine JL.val (v := .int .i64 d5) (QV.assign rfl) rfl rfl rfl ?_
        refine JL.val (v := (gd z3 d5).v) (QV.assign rfl) rfl rfl rfl ?_
        refine JL.nil ?_
        refine QJ.ent (fun _ hs => hs.derive (Drv.el (K := (NE.sl (Enc.int .i64))) (A := Asr.vw (Enc.int .i64) ((gd z3 d5).v) (gd x2 d5)) (Drv.vn 0 rfl) h12 (fun _ _ q => q))) ?_
        refine QJ.then_normal ?_
        refine JC.seq ?_
        refine JC.region ?_
        refine JL.val (v := (gd z3 d5).v) (QV.move rfl) rfl rfl rfl ?_
        refine JL.val (v := .int .i64 (((gd x2 d5)).length : Int)) (QV.len (Rdg.vw 0 rfl) Try.underlying25 rfl) rfl rfl rfl ?_
        refine JL.val (v := .int .i64 (0 : Int)) (QV.move rfl) rfl rfl rfl ?_
        refine JL.nil ?_
        refine QJ.then_normal ?_
        refine JC.cutK (Y := Unit × Unit) (fun y => match y with | (_, _) => F64.j3 d5 = some s10) (fun y => match y with | (_, _) => [(0, s1.v), (7, s1.v), (8, .int .i64 ((x2).length : Int)), (9, .int .i64 d5)]) (fun y => match y with | (_, _) => [Asr.vn (NE.sl (Enc.int .i64)) (s1.v) z3 x2]) ?_ ?_
        ·
          rintro ⟨⟨⟩, ⟨⟩⟩ hm
          unfold F64.j3 at hm
          show QJ _ _ [(0, s1.v), (7, s1.v), (8, .int .i64 ((x2).length : Int)), (9, .int .i64 d5)] [Asr.vn (NE.sl (Enc.int .i64)) (s1.v) z3 x2] _ _
          refine QJ.block_normal ?_
          exact QJ.cut_normal ((), ()) hm [0] (by exact ⟨rfl, rfl, rfl, rfl, trivial⟩) rfl rfl
        ·
          refine JC.block ?_
          obtain ⟨y15, hl16, hmo17⟩ := bind_inv hm
          refine JC.loop (F64.b2 x2 d5) (fun x z => match x, z with | d13, _ => [(0, s1.v), (3, .int .i64 d5), (4, (gd z3 d5).v), (7, s1.v), (8, .int .i64 ((x2).length : Int)), (9, .int .i64 d5), (14, (gd z3 d5).v), (15, .int .i64 (((gd x2 d5)).length : Int)), (16, .int .i64 d13)]) (fun x z => match x, z with | d13, _ => [Asr.vn (NE.sl (Enc.int .i64)) (s1.v) z3 x2, Asr.vw (Enc.int .i64) ((gd z3 d5).v) (gd x2 d5)]) (0 : Int) () y15 hl16 [1, 0] (by exact ⟨rfl, rfl, rfl, rfl, rfl, rfl, rfl, rfl, rfl, trivial⟩) rfl rfl ?_
          rintro d13 ⟨⟩ s18 hm
          unfold F64.b2 at hm
          dsimp only at hm
          show JC _ _ _ [(0, s1.v), (3, .int .i64 d5), (4, (gd z3 d5).v), (7, s1.v), (8, .int .i64 ((x2).length : Int)), (9, .int .i64 d5), (14, (gd z3 d5).v), (15, .int .i64 (((gd x2 d5)).length : Int)), (16, .int .i64 d13)] [Asr.vn (NE.sl (Enc.int .i64)) (s1.v) z3 x2, Asr.vw (Enc.int .i64) ((gd z3 d5).v) (gd x2 d5)] _ _
          refine JC.seq ?_
          refine JC.region ?_
          refine JL.val (v := .bool (decide (d13 < (((gd x2 d5)).length : Int)))) (QV.lss rfl rfl) rfl rfl rfl ?_
          refine JL.nil ?_
          refine QJ.then_normal ?_
          refine JC.seq ?_
          rcases ite_inv hm with ⟨h19, hm⟩ | ⟨h19, hm⟩
          ·
            refine JC.condT' rfl (decide_eq_true h19) ?_
            refine JC.skip ?_
            refine QJ.then_normal ?_
            refine JC.seq ?_
            refine JC.cutK (Y := Unit × Unit) (fun y => match y with | (_, _) => F64.j4 d13 = some s18) (fun y => match y with | (_, _) => [(0, s1.v), (3, .int .i64 d5), (4, (gd z3 d5).v), (7, s1.v), (8, .int .i64 ((x2).length : Int)), (9, .int .i64 d5), (14, (gd z3 d5).v), (15, .int .i64 (((gd x2 d5)).length : Int)), (16, .int .i64 d13)]) (fun y => match y with | (_, _) => [Asr.vn (NE.sl (Enc.int .i64)) (s1.v) z3 x2, Asr.vw (Enc.int .i64) ((gd z3 d5).v) (gd x2 d5)]) ?_ ?_
            ·
              rintro ⟨⟨⟩, ⟨⟩⟩ hm
              unfold F64.j4 at hm
              show QJ _ _ [(0, s1.v), (3, .int .i64 d5), (4, (gd z3 d5).v), (7, s1.v), (8, .int .i64 ((x2).length : Int)), (9, .int .i64 d5), (14, (gd z3 d5).v), (15, .int .i64 (((gd x2 d5)).length : Int)), (16, .int .i64 d13)] [Asr.vn (NE.sl (Enc.int .i64)) (s1.v) z3 x2, Asr.vw (Enc.int .i64) ((gd z3 d5).v) (gd x2 d5)] _ _
              refine QJ.then_normal ?_
              refine JC.region ?_
              refine JL.val (v := .int .i64 (IntKind.wrap .i64 (d13 + (1 : Int)))) (QV.add rfl rfl) rfl rfl rfl ?_
              refine JL.val (v := .int .i64 (IntKind.wrap .i64 (d13 + (1 : Int)))) (QV.move rfl) rfl rfl rfl ?_
              refine JL.nil ?_
              obtain rfl := Option.some.inj hm
              exact QJ.round_on (IntKind.wrap .i64 (d13 + (1 : Int))) () [0, 1] (by exact ⟨rfl, rfl, rfl, rfl, rfl, rfl, rfl, rfl, rfl, trivial⟩) rfl rfl
            ·
              refine JC.block ?_
              refine JC.seq ?_
              refine JC.region ?_
              refine JL.val (v := .int .i64 d13) (QV.move rfl) rfl rfl rfl ?_
              obtain ⟨h20, hm⟩ := guard_inv hm
              refine JL.val (v := .pointer (some (elA ((gd z3 d5).v) (Int.toNat d13 * ((Enc.int .i64)).sz)))) (QV.indexA (Rdg.vw 1 rfl) Try.underlying25 tk_3 rfl rfl h20) rfl rfl rfl ?_
              refine JL.val (v := .int .i64 (gd (gd x2 d5) d13)) (QV.el1 (Rdg.vw 1 rfl) tk_3 rfl h20 rfl) rfl rfl rfl ?_
              refine JL.val (v := .int .i64 d13) (QV.assign rfl) rfl rfl rfl ?_
              refine JL.val (v := .int .i64 (gd (gd x2 d5) d13)) (QV.assign rfl) rfl rfl rfl ?_
              refine JL.nil ?_
              refine QJ.then_normal ?_
              refine JC.seq ?_
              refine JC.region ?_
              refine JL.val (v := .int .i64 (gd (gd x2 d5) d13)) (QV.move rfl) rfl rfl rfl ?_
              refine JL.val (v := .bool (decide ((gd (gd x2 d5) d13) < (0 : Int)))) (QV.lss rfl rfl) rfl rfl rfl ?_
              rcases ite_inv hm with ⟨h21, hm⟩ | ⟨h21, hm⟩
              ·
                refine JL.val (v := .bool true) (QV.eq (QV.move rfl) (congrArg Value.bool (decide_eq_true h21))) rfl rfl rfl ?_
                refine JL.skip (d := some 24) rfl rfl rfl ?_
                refine JL.skip (d := some 25) rfl rfl rfl ?_
                refine JL.skip (d := some 26) rfl rfl rfl ?_
                refine JL.skip (d := some 27) rfl rfl rfl ?_
                refine JL.val (v := .bool true) (QV.pickT rfl rfl) rfl rfl rfl ?_
                refine JL.val (v := .bool true) (QV.move rfl) rfl rfl rfl ?_
                refine JL.skip (d := some 30) rfl rfl rfl ?_
                refine JL.skip (d := some 31) rfl rfl rfl ?_
                refine JL.skip (d := some 32) rfl rfl rfl ?_
                refine JL.val (v := .bool true) (QV.pickT rfl rfl) rfl rfl rfl ?_
                refine JL.val (v := .bool true) (QV.move rfl) rfl rfl rfl ?_
                refine JL.skip (d := some 35) rfl rfl rfl ?_
                refine JL.skip (d := some 36) rfl rfl rfl ?_
                refine JL.skip (d := some 37) rfl rfl rfl ?_
                refine JL.skip (d := some 38) rfl rfl rfl ?_
                refine JL.skip (d := some 39) rfl rfl rfl ?_
                refine JL.skip (d := some 40) rfl rfl rfl ?_
                refine JL.skip (d := some 41) rfl rfl rfl ?_
                refine JL.skip (d := some 42) rfl rfl rfl ?_
                refine JL.skip (d := some 43) rfl rfl rfl ?_
                refine JL.skip (d := some 44) rfl rfl rfl ?_
                refine JL.skip (d := some 45) rfl rfl rfl ?_
                refine JL.val (v := .bool true) (QV.pickT rfl rfl) rfl rfl rfl ?_
                refine JL.nil ?_
                refine QJ.then_normal ?_
                refine JC.condT rfl ?_
                refine JC.seq ?_
                refine JC.region ?_
                refine JL.val (v := .bool false) (QV.assign rfl) rfl rfl rfl ?_
                refine JL.nil ?_
                refine QJ.then_normal ?_
                refine JC.ret ?_
                refine QJ.block_ret ?_
                refine QJ.cut_ret ?_
                refine QJ.then_ret ?_
                obtain rfl := Option.some.inj hm
                refine QJ.round_ret (fun hy => ?_)
                subst hy
                refine QJ.block_ret ?_
                refine QJ.cut_ret ?_
                refine QJ.block_ret ?_
                refine QJ.cut_ret ?_
                refine QJ.then_ret ?_
                obtain rfl := Option.some.inj hmo17
                refine QJ.round_ret (fun hy => ?_)
                subst hy
                refine QJ.block_ret ?_
                refine QJ.cut_ret ?_
                refine QJ.then_ret ?_
                obtain rfl := Option.some.inj hmo9
                exact QJ.body (vs := [.bool false]) (.inl rfl) rfl (ResVs.cons (ResV.tmp rfl) ResVs.nil) [] rfl rfl (.inr trivial) ⟨rfl, rfl⟩
              ·
                refine JL.val (v := .bool false) (QV.eq (QV.move rfl) (congrArg Value.bool (decide_eq_false h21))) rfl rfl rfl ?_
                refine JL.val (v := .int .i64 (gd (gd x2 d5) d13)) (QV.move rfl) rfl rfl rfl ?_
                refine JL.val (v := s1.v) (QV.move rfl) rfl rfl rfl ?_
                refine JL.val (v := .int .i64 ((x2).length : Int)) (QV.lenN (RdN.vn 0 rfl) Try.underlying22 rfl) rfl rfl rfl ?_
                refine JL.val (v := .bool (decide (((x2).length : Int) ≤ (gd (gd x2 d5) d13)))) (QV.geq rfl rfl) rfl rfl rfl ?_
                refine JL.val (v := .bool (decide (((x2).length : Int) ≤ (gd (gd x2 d5) d13)))) (QV.pickF rfl rfl) rfl rfl rfl ?_
                rcases ite_inv hm with ⟨h22, hm⟩ | ⟨h22, hm⟩
                ·
                  refine JL.val (v := .bool true) (QV.eq (QV.move rfl) (congrArg Value.bool (decide_eq_true h22))) rfl rfl rfl ?_
                  refine JL.skip (d := some 30) rfl rfl rfl ?_
                  refine JL.skip (d := some 31) rfl rfl rfl ?_
                  refine JL.skip (d := some 32) rfl rfl rfl ?_
                  refine JL.val (v := .bool true) (QV.pickT rfl rfl) rfl rfl rfl ?_
                  refine JL.val (v := .bool true) (QV.move rfl) rfl rfl rfl ?_
                  refine JL.skip (d := some 35) rfl rfl rfl ?_
                  refine JL.skip (d := some 36) rfl rfl rfl ?_
                  refine JL.skip (d := some 37) rfl rfl rfl ?_
                  refine JL.skip (d := some 38) rfl rfl rfl ?_
                  refine JL.skip (d := some 39) rfl rfl rfl ?_
                  refine JL.skip (d := some 40) rfl rfl rfl ?_
                  refine JL.skip (d := some 41) rfl rfl rfl ?_
                  refine JL.skip (d := some 42) rfl rfl rfl ?_
                  refine JL.skip (d := some 43) rfl rfl rfl ?_
                  refine JL.skip (d := some 44) rfl rfl rfl ?_
                  refine JL.skip (d := some 45) rfl rfl rfl ?_
                  refine JL.val (v := .bool true) (QV.pickT rfl rfl) rfl rfl rfl ?_
                  refine JL.nil ?_
                  refine QJ.then_normal ?_
                  refine JC.condT rfl ?_
                  refine JC.seq ?_
                  refine JC.region ?_
                  refine JL.val (v := .bool false) (QV.assign rfl) rfl rfl rfl ?_
                  refine JL.nil ?_
                  refine QJ.then_normal ?_
                  refine JC.ret ?_
                  refine QJ.block_ret ?_
                  refine QJ.cut_ret ?_
                  refine QJ.then_ret ?_
                  obtain rfl := Option.some.inj hm
                  refine QJ.round_ret (fun hy => ?_)
                  subst hy
                  refine QJ.block_ret ?_
                  refine QJ.cut_ret ?_
                  refine QJ.block_ret ?_
                  refine QJ.cut_ret ?_
                  refine QJ.then_ret ?_
                  obtain rfl := Option.some.inj hmo17
                  refine QJ.round_ret (fun hy => ?_)
                  subst hy
                  refine QJ.block_ret ?_
                  refine QJ.cut_ret ?_
                  refine QJ.then_ret ?_
                  obtain rfl := Option.some.inj hmo9
                  exact QJ.body (vs := [.bool false]) (.inl rfl) rfl (ResVs.cons (ResV.tmp rfl) ResVs.nil) [] rfl rfl (.inr trivial) ⟨rfl, rfl⟩
                ·
                  refine JL.val (v := .bool false) (QV.eq (QV.move rfl) (congrArg Value.bool (decide_eq_false h22))) rfl rfl rfl ?_
                  refine JL.val (v := .int .i64 (gd (gd x2 d5) d13)) (QV.move rfl) rfl rfl rfl ?_
                  refine JL.val (v := .int .i64 d5) (QV.move rfl) rfl rfl rfl ?_
                  refine JL.val (v := .bool (decide ((gd (gd x2 d5) d13) = d5))) (QV.eql rfl rfl) rfl rfl rfl ?_
                  refine JL.val (v := .bool (decide ((gd (gd x2 d5) d13) = d5))) (QV.pickF rfl rfl) rfl rfl rfl ?_
                  rcases ite_inv hm with ⟨h23, hm⟩ | ⟨h23, hm⟩
                  ·
                    refine JL.val (v := .bool true) (QV.eq (QV.move rfl) (congrArg Value.bool (decide_eq_true h23))) rfl rfl rfl ?_
                    refine JL.skip (d := some 35) rfl rfl rfl ?_
                    refine JL.skip (d := some 36) rfl rfl rfl ?_
                    refine JL.skip (d := some 37) rfl rfl rfl ?_
                    refine JL.skip (d := some 38) rfl rfl rfl ?_
                    refine JL.skip (d := some 39) rfl rfl rfl ?_
                    refine JL.skip (d := some 40) rfl rfl rfl ?_
                    refine JL.skip (d := some 41) rfl rfl rfl ?_
                    refine JL.skip (d := some 42) rfl rfl rfl ?_
                    refine JL.skip (d := some 43) rfl rfl rfl ?_
                    refine JL.skip (d := some 44) rfl rfl rfl ?_
                    refine JL.skip (d := some 45) rfl rfl rfl ?_
                    refine JL.val (v := .bool true) (QV.pickT rfl rfl) rfl rfl rfl ?_
                    refine JL.nil ?_
                    refine QJ.then_normal ?_
                    refine JC.condT rfl ?_
                    refine JC.seq ?_
                    refine JC.region ?_
                    refine JL.val (v := .bool false) (QV.assign rfl) rfl rfl rfl ?_
                    refine JL.nil ?_
                    refine QJ.then_normal ?_
                    refine JC.ret ?_
                    refine QJ.block_ret ?_
                    refine QJ.cut_ret ?_
                    refine QJ.then_ret ?_
                    obtain rfl := Option.some.inj hm
                    refine QJ.round_ret (fun hy => ?_)
                    subst hy
                    refine QJ.block_ret ?_
                    refine QJ.cut_ret ?_
                    refine QJ.block_ret ?_
                    refine QJ.cut_ret ?_
                    refine QJ.then_ret ?_
                    obtain rfl := Option.some.inj hmo17
                    refine QJ.round_ret (fun hy => ?_)
                    subst hy
                    refine QJ.block_ret ?_
                    refine QJ.cut_ret ?_
                    refine QJ.then_ret ?_
                    obtain rfl := Option.some.inj hmo9
                    exact QJ.body (vs := [.bool false]) (.inl rfl) rfl (ResVs.cons (ResV.tmp rfl) ResVs.nil) [] rfl rfl (.inr trivial) ⟨rfl, rfl⟩
                  ·
                    refine JL.val (v := .bool false) (QV.eq (QV.move rfl) (congrArg Value.bool (decide_eq_false h23))) rfl rfl rfl ?_
                    refine JL.val (v := .int .i64 d13) (QV.move rfl) rfl rfl rfl ?_
                    refine JL.val (v := .bool (decide ((0 : Int) < d13))) (QV.gtr rfl rfl) rfl rfl rfl ?_
                    rcases ite_inv hm with ⟨h24, hm⟩ | ⟨h24, hm⟩
                    ·
                      refine JL.val (v := .bool true) (QV.eq (QV.move rfl) (congrArg Value.bool (decide_eq_true h24))) rfl rfl rfl ?_
                      refine JL.val (v := .int .i64 (gd (gd x2 d5) d13)) (QV.move rfl) rfl rfl rfl ?_
                      refine JL.val (v := (gd z3 d5).v) (QV.move rfl) rfl rfl rfl ?_
                      refine JL.val (v := .int .i64 d13) (QV.move rfl) rfl rfl rfl ?_
                      refine JL.val (v := .int .i64 (IntKind.wrap .i64 (d13 - (1 : Int)))) (QV.sub rfl rfl) rfl rfl rfl ?_
                      obtain ⟨h25, hm⟩ := guard_inv hm
                      refine JL.val (v := .pointer (some (elA ((gd z3 d5).v) (Int.toNat (IntKind.wrap .i64 (d13 - (1 : Int))) * ((Enc.int .i64)).sz)))) (QV.indexA (Rdg.vw 1 rfl) Try.underlying25 tk_3 rfl rfl h25) rfl rfl rfl ?_
                      refine JL.val (v := .int .i64 (gd (gd x2 d5) (IntKind.wrap .i64 (d13 - (1 : Int))))) (QV.el1 (Rdg.vw 1 rfl) tk_3 rfl h25 rfl) rfl rfl rfl ?_
                      refine JL.val (v := .bool (decide ((gd (gd x2 d5) d13) ≤ (gd (gd x2 d5) (IntKind.wrap .i64 (d13 - (1 : Int))))))) (QV.leq rfl rfl) rfl rfl rfl ?_
                      refine JL.val (v := .bool (decide ((gd (gd x2 d5) d13) ≤ (gd (gd x2 d5) (IntKind.wrap .i64 (d13 - (1 : Int))))))) (QV.pickT rfl rfl) rfl rfl rfl ?_
                      refine JL.val (v := .bool (decide ((gd (gd x2 d5) d13) ≤ (gd (gd x2 d5) (IntKind.wrap .i64 (d13 - (1 : Int))))))) (QV.pickF rfl rfl) rfl rfl rfl ?_
                      refine JL.nil ?_
                      refine QJ.then_normal ?_
                      rcases ite_inv hm with ⟨h26, hm⟩ | ⟨h26, hm⟩
                      ·
                        refine JC.condT' rfl (decide_eq_true h26) ?_
                        refine JC.seq ?_
                        refine JC.region ?_
                        refine JL.val (v := .bool false) (QV.assign rfl) rfl rfl rfl ?_
                        refine JL.nil ?_
                        refine QJ.then_normal ?_
                        refine JC.ret ?_
                        refine QJ.block_ret ?_
                        refine QJ.cut_ret ?_
                        refine QJ.then_ret ?_
                        obtain rfl := Option.some.inj hm
                        refine QJ.round_ret (fun hy => ?_)
                        subst hy
                        refine QJ.block_ret ?_
                        refine QJ.cut_ret ?_
                        refine QJ.block_ret ?_
                        refine QJ.cut_ret ?_
                        refine QJ.then_ret ?_
                        obtain rfl := Option.some.inj hmo17
                        refine QJ.round_ret (fun hy => ?_)
                        subst hy
                        refine QJ.block_ret ?_
                        refine QJ.cut_ret ?_
                        refine QJ.then_ret ?_
                        obtain rfl := Option.some.inj hmo9
                        exact QJ.body (vs := [.bool false]) (.inl rfl) rfl (ResVs.cons (ResV.tmp rfl) ResVs.nil) [] rfl rfl (.inr trivial) ⟨rfl, rfl⟩
                      ·
                        refine JC.condF' rfl (decide_eq_false h26) ?_
                        refine JC.skip ?_
                        refine QJ.block_normal ?_
                        exact QJ.cut_normal ((), ()) hm [0, 1] (by exact ⟨rfl, rfl, rfl, rfl, rfl, rfl, rfl, rfl, rfl, trivial⟩) rfl rfl
                    ·
                      refine JL.val (v := .bool false) (QV.eq (QV.move rfl) (congrArg Value.bool (decide_eq_false h24))) rfl rfl rfl ?_
                      refine JL.skip (d := some 38) rfl rfl rfl ?_
                      refine JL.skip (d := some 39) rfl rfl rfl ?_
                      refine JL.skip (d := some 40) rfl rfl rfl ?_
                      refine JL.skip (d := some 41) rfl rfl rfl ?_
                      refine JL.skip (d := some 42) rfl rfl rfl ?_
                      refine JL.skip (d := some 43) rfl rfl rfl ?_
                      refine JL.skip (d := some 44) rfl rfl rfl ?_
                      refine JL.val (v := .bool false) (QV.pickF rfl rfl) rfl rfl rfl ?_
                      refine JL.val (v := .bool false) (QV.pickF rfl rfl) rfl rfl rfl ?_
                      refine JL.nil ?_
                      refine QJ.then_normal ?_
                      refine JC.condF rfl ?_
                      refine JC.skip ?_
                      refine QJ.block_normal ?_
                      exact QJ.cut_normal ((), ()) hm [0, 1] (by exact ⟨rfl, rfl, rfl, rfl, rfl, rfl, rfl, rfl, rfl, trivial⟩) rfl rfl
          ·
            refine JC.condF' rfl (decide_eq_false h19) ?_
            refine JC.exit ?_
            refine QJ.then_exit ?_
            obtain rfl := Option.some.inj hm
            refine QJ.round_exit (fun hy => ?_)
            subst hy
            refine QJ.block_hit ?_
            exact QJ.cut_normal ((), ()) hmo17 [0] (by exact ⟨rfl, rfl, rfl, rfl, trivial⟩) rfl rfl
    ·
      refine JC.condF' rfl (decide_eq_false h11) ?_
      refine JC.exit ?_
      refine QJ.then_exit ?_
      obtain rfl := Option.some.inj hm
      refine QJ.round_exit (fun hy => ?_)
      subst hy
      refine QJ.block_hit ?_
      exact QJ.cut_normal ((), ()) hmo9 [0] (by exact ⟨rfl, trivial⟩) rfl rfl

/-! ### 39: drogher/graph.Turned -/
noncomputable def F39.j1  (d13 : List (List Int)) : Option (List (List Int) × Int) :=
  some (d13, (0 : Int))
noncomputable def F39.j2 (d17 : Int) (d26 : List (List Int)) : Option ((List (List Int) × Int) ⊕ (List (List Int))) :=
  some (.inl (d26, (IntKind.wrap .i64 (d17 + (1 : Int)))))
noncomputable def F39.j3 (d17 : Int) (d29 : List (List Int)) : Option ((List (List Int) × Int) ⊕ (List (List Int))) :=
  F39.j2 d17 (d29)
noncomputable def F39.b2 (x2 : List (List Int)) (d17 : Int) : (List (List Int) × Int) → Option ((List (List Int) × Int) ⊕ (List (List Int)))
  | (d31, d33) => (if d33 < (((gd x2 d17)).length : Int) then (if 0 ≤ d33 ∧ d33 < (((gd x2 d17)).length : Int) then (if 0 ≤ (gd (gd x2 d17) d33) ∧ (gd (gd x2 d17) d33) < ((d31).length : Int) then (if (((gd d31 (gd (gd x2 d17) d33))).length + ([d17]).length) * 8 ≤ 140737488355328 ∧ ((gd d31 (gd (gd x2 d17) d33))).length + ([d17]).length ≤ 9223372036854775807 then some (.inl ((List.set d31 (Int.toNat (gd (gd x2 d17) d33)) ((gd d31 (gd (gd x2 d17) d33)) ++ [d17])), (IntKind.wrap .i64 (d33 + (1 : Int))))) else none) else none) else none) else some (.inr d31))
noncomputable def F39.b1 (x2 : List (List Int)) : (List (List Int) × Int) → Option ((List (List Int) × Int) ⊕ (List (List Int)))
  | (d15, d17) => (if d17 < ((x2).length : Int) then (if 0 ≤ d17 ∧ d17 < ((x2).length : Int) then ((loop (F39.b2 x2 d17) (d15, (0 : Int))).bind fun y => match y with | d29 => F39.j3 d17 (d29)) else none) else some (.inr d15))
noncomputable def F39.m (x2 : List (List Int)) : Option (List (List Int) × Int) :=
  ((F64.m (x2)).bind fun y8 => (if y8 = true then (if 0 ≤ ((x2).length : Int) ∧ ((x2).length : Int) * 24 ≤ 281474976710656 ∧ ((x2).length : Int) ≤ 9223372036854775807 then ((loop (F39.b1 x2) ((List.replicate (Int.toNat ((x2).length : Int)) ([] : (List Int))), (0 : Int))).bind fun y => match y with | d13 => F39.j1 (d13)) else none) else some (([] : List (List Int)), (3 : Int))))
set_option maxRecDepth 100000 in
set_option maxHeartbeats 4000000 in
theorem F39.spec (s1 : SlV) (z3 : List SlV) (x2 : List (List Int)) (r : (List (List Int) × Int)) (hm : F39.m x2 = some r) :
    Ctr Try.prog true 39 [s1.v] [Asr.vn (NE.sl (Enc.int .i64)) (s1.v) z3 x2] (fun v L' => ∃ (g4 : SlV), ∃ (g6 : List SlV), v = .tuple #[g4.v, .int .i64 r.2] ∧ L' = [Asr.vn (NE.sl (Enc.int .i64)) (g4.v) g6 r.1]) := by
  refine Ctr.intro (n := 41) (env := [(0, s1.v)]) Try.func39 rfl rfl rfl rfl (fun c => ?_)
  unfold F39.m at hm
  refine JC.seq ?_
  refine JC.region ?_
  refine JL.ent (fun _ hs => hs.nilV 25 (NE.sl (Enc.int .i64))) ?_
  refine JL.val (v := SlV.nil.v) (QV.assign rfl) rfl rfl rfl ?_
  refine JL.val (v := .int .i64 (0 : Int)) (QV.assign rfl) rfl rfl rfl ?_
  refine JL.nil ?_
  refine QJ.then_normal ?_
  refine JC.seq ?_
  refine JC.seq ?_
  refine JC.region ?_
  refine JL.val (v := s1.v) (QV.move rfl) rfl rfl rfl ?_
  obtain ⟨y8, hc9, hm⟩ := bind_inv hm
  refine JL.mv (d := some 10) (MV.call (Lo := []) (Lr := [Asr.onv 25 (NE.sl (Enc.int .i64)) (SlV.nil.v) ([] : List SlV) ([] : List (List Int)), Asr.vn (NE.sl (Enc.int .i64)) (s1.v) z3 x2]) (F64.spec (s1) (z3) (x2) _ hc9) rfl Try.func64 rfl rfl rfl [] [0, 1] rfl rfl rfl ⟨(Drv.vn 1 rfl), trivial⟩) rfl rfl rfl ?_
  rintro _ _ ⟨_, ⟨rfl, rfl⟩, rfl⟩
  refine JL.val (v := .bool (!y8)) (QV.not rfl) rfl rfl rfl ?_
  refine JL.nil ?_
  refine QJ.then_normal ?_
  rcases ite_inv hm with ⟨h10, hm⟩ | ⟨h10, hm⟩
  ·
    refine JC.condF' rfl (congrArg Bool.not h10) ?_
    refine JC.skip ?_
    refine QJ.then_normal ?_
    refine JC.seq ?_
    refine JC.region ?_
    refine JL.val (v := s1.v) (QV.move rfl) rfl rfl rfl ?_
    refine JL.val (v := .int .i64 ((x2).length : Int)) (QV.lenN (RdN.vn 1 rfl) Try.underlying22 rfl) rfl rfl rfl ?_
    obtain ⟨h11, hm⟩ := guard_inv hm
    refine JL.mv (d := some 14) (MV.makeNn 3 (Enc.int .i64) Try.underlying22 zi_25 rfl rfl rfl h11) rfl rfl rfl ?_
    rintro _ _ ⟨z12, rfl, rfl⟩
    refine JL.val (v := z12.v) (QV.assign rfl) rfl rfl rfl ?_
    refine JL.nil ?_
    refine QJ.then_normal ?_
    refine JC.seq ?_
    refine JC.seq ?_
    refine JC.region ?_
    refine JL.val (v := s1.v) (QV.move rfl) rfl rfl rfl ?_
    refine JL.val (v := .int .i64 ((x2).length : Int)) (QV.lenN (RdN.vn 2 rfl) Try.underlying22 rfl) rfl rfl rfl ?_
    refine JL.val (v := .int .i64 (0 : Int)) (QV.move rfl) rfl rfl rfl ?_
    refine JL.nil ?_
    refine QJ.then_normal ?_
    refine JC.cutK (Y := (List (List Int)) × (List SlV)) (fun y => match y with | (d13, _) => F39.j1 (d13) = some r) (fun y => match y with | (d13, z14) => [(4, z12.v)]) (fun y => match y with | (d13, z14) => [Asr.onn 25 3 (Enc.int .i64) (z12.v) z14 d13]) ?_ ?_
    ·
      rintro ⟨d13, z14⟩ hm
      unfold F39.j1 at hm
      show QJ _ _ [(4, z12.v)] [Asr.onn 25 3 (Enc.int .i64) (z12.v) z14 d13] _ _
      refine QJ.then_normal ?_
      refine JC.seq ?_
      refine JC.region ?_
      refine JL.val (v := z12.v) (QV.move rfl) rfl rfl rfl ?_
      refine JL.val (v := z12.v) (QV.assign rfl) rfl rfl rfl ?_
      refine JL.val (v := .int .i64 (0 : Int)) (QV.assign rfl) rfl rfl rfl ?_
      refine JL.nil ?_
      refine QJ.then_normal ?_
      refine JC.ret ?_
      obtain rfl := Option.some.inj hm
      refine QJ.ent (fun _ hs => hs.shareNn 0 rfl) ?_
      exact QJ.body (vs := [z12.v, .int .i64 (0 : Int)]) (.inl rfl) rfl (ResVs.cons (ResV.tmp rfl) (ResVs.cons (ResV.tmp rfl) ResVs.nil)) [0] rfl rfl (.inl rfl) ⟨z12, z14, rfl, rfl⟩
    ·
      refine JC.block ?_
      obtain ⟨y21, hl22, hmo23⟩ := bind_inv hm
      refine JC.loop (F39.b1 x2) (fun x z => match x, z with | (d15, d17), z16 => [(4, z12.v), (15, s1.v), (16, .int .i64 ((x2).length : Int)), (17, .int .i64 d17)]) (fun x z => match x, z with | (d15, d17), z16 => [Asr.onn 25 3 (Enc.int .i64) (z12.v) z16 d15, Asr.vn (NE.sl (Enc.int .i64)) (s1.v) z3 x2]) ((List.replicate (Int.toNat ((x2).length : Int)) ([] : (List Int))), (0 : Int)) (List.replicate (Int.toNat ((x2).length : Int)) SlV.nil) y21 hl22 [0, 2] (by exact ⟨rfl, rfl, rfl, rfl, trivial⟩) rfl rfl ?_
      rintro ⟨d15, d17⟩ z16 s24 hm
      unfold F39.b1 at hm
      dsimp only at hm
      show JC _ _ _ [(4, z12.v), (15, s1.v), (16, .int .i64 ((x2).length : Int)), (17, .int .i64 d17)] [Asr.onn 25 3 (Enc.int .i64) (z12.v) z16 d15, Asr.vn (NE.sl (Enc.int .i64)) (s1.v) z3 x2] _ _
      refine JC.seq ?_
      refine JC.region ?_
      refine JL.val (v := .bool (decide (d17 < ((x2).length : Int)))) (QV.lss rfl rfl) rfl rfl rfl ?_
      refine JL.nil ?_
      refine QJ.then_normal ?_
      refine JC.seq ?_
      rcases ite_inv hm with ⟨h25, hm⟩ | ⟨h25, hm⟩
      ·
        refine JC.condT' rfl (decide_eq_true h25) ?_
        refine JC.skip ?_
        refine QJ.then_normal ?_
        refine JC.seq ?_
        refine JC.cutK (Y := (List (List Int)) × (List SlV)) (fun y => match y with | (d26, _) => F39.j2 d17 (d26) = some s24) (fun y => match y with | (d26, z27) => [(4, z12.v), (15, s1.v), (16, .int .i64 ((x2).length : Int)), (17, .int .i64 d17)]) (fun y => match y with | (d26, z27) => [Asr.onn 25 3 (Enc.int .i64) (z12.v) z27 d26, Asr.vn (NE.sl (Enc.int .i64)) (s1.v) z3 x2]) ?_ ?_
        ·
          rintro ⟨d26, z27⟩ hm
          unfold F39.j2 at hm
          show QJ _ _ [(4, z12.v), (15, s1.v), (16, .int .i64 ((x2).length : Int)), (17, .int .i64 d17)] [Asr.onn 25 3 (Enc.int .i64) (z12.v) z27 d26, Asr.vn (NE.sl (Enc.int .i64)) (s1.v) z3 x2] _ _
          refine QJ.then_normal ?_
          refine JC.region ?_
          refine JL.val (v := .int .i64 (IntKind.wrap .i64 (d17 + (1 : Int)))) (QV.add rfl rfl) rfl rfl rfl ?_
          refine JL.val (v := .int .i64 (IntKind.wrap .i64 (d17 + (1 : Int)))) (QV.move rfl) rfl rfl rfl ?_
          refine JL.nil ?_
          obtain rfl := Option.some.inj hm
          exact QJ.round_on (d26, (IntKind.wrap .i64 (d17 + (1 : Int)))) z27 [0, 1] (by exact ⟨rfl, rfl, rfl, rfl, trivial⟩) rfl rfl
        ·
          refine JC.block ?_
          refine JC.seq ?_
          refine JC.region ?_
          refine JL.val (v := .int .i64 d17) (QV.move rfl) rfl rfl rfl ?_
          obtain ⟨h28, hm⟩ := guard_inv hm
          refine JL.val (v := .pointer (some (elA (s1.v) (Int.toNat d17 * ((NE.sl (Enc.int .i64)).E).sz)))) (QV.indexN (RdN.vn 1 rfl) Try.underlying22 tk_25 rfl rfl h28) rfl rfl rfl ?_
          refine JL.val (v := (gd z3 d17).v) (QV.el1N (RdN.vn 1 rfl) tk_25 rfl h28 rfl) rfl rfl rfl ?_
          refine JL.val (v := .int .i64 d17) (QV.assign rfl) rfl rfl rfl ?_
          refine JL.val (v := (gd z3 d17).v) (QV.assign rfl) rfl rfl rfl ?_
          refine JL.nil ?_
          refine QJ.ent (fun _ hs => hs.derive (Drv.el (K := (NE.sl (Enc.int .i64))) (A := Asr.vw (Enc.int .i64) ((gd z3 d17).v) (gd x2 d17)) (Drv.vn 1 rfl) h28 (fun _ _ q => q))) ?_
          refine QJ.then_normal ?_
          refine JC.seq ?_
          refine JC.region ?_
          refine JL.val (v := (gd z3 d17).v) (QV.move rfl) rfl rfl rfl ?_
          refine JL.val (v := .int .i64 (((gd x2 d17)).length : Int)) (QV.len (Rdg.vw 0 rfl) Try.underlying25 rfl) rfl rfl rfl ?_
          refine JL.val (v := .int .i64 (0 : Int)) (QV.move rfl) rfl rfl rfl ?_
          refine JL.nil ?_
          refine QJ.then_normal ?_
          refine JC.cutK (Y := (List (List Int)) × (List SlV)) (fun y => match y with | (d29, _) => F39.j3 d17 (d29) = some s24) (fun y => match y with | (d29, z30) => [(4, z12.v), (15, s1.v), (16, .int .i64 ((x2).length : Int)), (17, .int .i64 d17)]) (fun y => match y with | (d29, z30) => [Asr.onn 25 3 (Enc.int .i64) (z12.v) z30 d29, Asr.vn (NE.sl (Enc.int .i64)) (s1.v) z3 x2]) ?_ ?_
          ·
            rintro ⟨d29, z30⟩ hm
            unfold F39.j3 at hm
            show QJ _ _ [(4, z12.v), (15, s1.v), (16, .int .i64 ((x2).length : Int)), (17, .int .i64 d17)] [Asr.onn 25 3 (Enc.int .i64) (z12.v) z30 d29, Asr.vn (NE.sl (Enc.int .i64)) (s1.v) z3 x2] _ _
            refine QJ.block_normal ?_
            exact QJ.cut_normal (d29, z30) hm [0, 1] (by exact ⟨rfl, rfl, rfl, rfl, trivial⟩) rfl rfl
          ·
            refine JC.block ?_
            obtain ⟨y37, hl38, hmo39⟩ := bind_inv hm
            refine JC.loop (F39.b2 x2 d17) (fun x z => match x, z with | (d31, d33), z32 => [(4, z12.v), (5, .int .i64 d17), (15, s1.v), (16, .int .i64 ((x2).length : Int)), (17, .int .i64 d17), (22, (gd z3 d17).v), (23, .int .i64 (((gd x2 d17)).length : Int)), (24, .int .i64 d33)]) (fun x z => match x, z with | (d31, d33), z32 => [Asr.onn 25 3 (Enc.int .i64) (z12.v) z32 d31, Asr.vn (NE.sl (Enc.int .i64)) (s1.v) z3 x2, Asr.vw (Enc.int .i64) ((gd z3 d17).v) (gd x2 d17)]) (d15, (0 : Int)) z16 y37 hl38 [1, 2, 0] (by exact ⟨rfl, rfl, rfl, rfl, rfl, rfl, rfl, rfl, trivial⟩) rfl rfl ?_
            rintro ⟨d31, d33⟩ z32 s40 hm
            unfold F39.b2 at hm
            dsimp only at hm
            show JC _ _ _ [(4, z12.v), (5, .int .i64 d17), (15, s1.v), (16, .int .i64 ((x2).length : Int)), (17, .int .i64 d17), (22, (gd z3 d17).v), (23, .int .i64 (((gd x2 d17)).length : Int)), (24, .int .i64 d33)] [Asr.onn 25 3 (Enc.int .i64) (z12.v) z32 d31, Asr.vn (NE.sl (Enc.int .i64)) (s1.v) z3 x2, Asr.vw (Enc.int .i64) ((gd z3 d17).v) (gd x2 d17)] _ _
            refine JC.seq ?_
            refine JC.region ?_
            refine JL.val (v := .bool (decide (d33 < (((gd x2 d17)).length : Int)))) (QV.lss rfl rfl) rfl rfl rfl ?_
            refine JL.nil ?_
            refine QJ.then_normal ?_
            refine JC.seq ?_
            rcases ite_inv hm with ⟨h41, hm⟩ | ⟨h41, hm⟩
            ·
              refine JC.condT' rfl (decide_eq_true h41) ?_
              refine JC.skip ?_
              refine QJ.then_normal ?_
              refine JC.seq ?_
              refine JC.block ?_
              refine JC.seq ?_
              refine JC.region ?_
              obtain ⟨h42, hm⟩ := guard_inv hm
              refine JL.val (v := .pointer (some (elA ((gd z3 d17).v) (Int.toNat d33 * ((Enc.int .i64)).sz)))) (QV.indexA (Rdg.vw 2 rfl) Try.underlying25 tk_3 rfl rfl h42) rfl rfl rfl ?_
              refine JL.val (v := .int .i64 (gd (gd x2 d17) d33)) (QV.el1 (Rdg.vw 2 rfl) tk_3 rfl h42 rfl) rfl rfl rfl ?_
              refine JL.val (v := .int .i64 (gd (gd x2 d17) d33)) (QV.assign rfl) rfl rfl rfl ?_
              refine JL.nil ?_
              refine QJ.then_normal ?_
              refine JC.region ?_
              refine JL.val (v := z12.v) (QV.move rfl) rfl rfl rfl ?_
              refine JL.val (v := .int .i64 (gd (gd x2 d17) d33)) (QV.move rfl) rfl rfl rfl ?_
              refine JL.val (v := z12.v) (QV.move rfl) rfl rfl rfl ?_
              refine JL.val (v := .int .i64 (gd (gd x2 d17) d33)) (QV.move rfl) rfl rfl rfl ?_
              obtain ⟨h43, hm⟩ := guard_inv hm
              refine JL.val (v := .pointer (some (elA (z12.v) (Int.toNat (gd (gd x2 d17) d33) * ((NE.sl (Enc.int .i64)).E).sz)))) (QV.indexN (RdN.onn 0 rfl) Try.underlying22 tk_25 rfl rfl h43) rfl rfl rfl ?_
              refine JL.val (v := (gd z32 (gd (gd x2 d17) d33)).v) (QV.el1N (RdN.onn 0 rfl) tk_25 rfl h43 rfl) rfl rfl rfl ?_
              refine JL.val (v := .int .i64 d17) (QV.move rfl) rfl rfl rfl ?_
              refine JL.mv (d := some 35) (MV.lit (E := (Enc.int .i64)) (vals := [(0, .int .i64 d17)]) [d17] Try.underlying25 zi_3 rfl (by decide) rfl (by kernel_rfl)) rfl rfl rfl ?_
              rintro _ _ ⟨z44, rfl, rfl⟩
              obtain ⟨h45, hm⟩ := guard_inv hm
              refine JL.mv (d := some 36) (MV.appendNn 1 rfl h43 (Rdg.of 0 rfl) Try.underlying25 zi_3 rfl (by decide) rfl rfl h45) rfl rfl rfl ?_
              rintro _ _ ⟨z46, rfl, rfl⟩
              refine JL.val (v := .pointer (some (elA (z12.v) (Int.toNat (gd (gd x2 d17) d33) * ((NE.sl (Enc.int .i64)).E).sz)))) (QV.indexH 2 rfl Try.underlying22 tk_25 rfl rfl h43) rfl rfl rfl ?_
              refine JL.mv (d := none) (MV.storeH 0 1 rfl rfl tk_25 rfl rfl h43) rfl rfl rfl ?_
              rintro _ _ ⟨rfl, rfl⟩
              refine JL.nil ?_
              refine QJ.block_normal ?_
              refine QJ.then_normal ?_
              refine JC.region ?_
              refine JL.val (v := .int .i64 (IntKind.wrap .i64 (d33 + (1 : Int)))) (QV.add rfl rfl) rfl rfl rfl ?_
              refine JL.val (v := .int .i64 (IntKind.wrap .i64 (d33 + (1 : Int)))) (QV.move rfl) rfl rfl rfl ?_
              refine JL.nil ?_
              obtain rfl := Option.some.inj hm
              exact QJ.round_on ((List.set d31 (Int.toNat (gd (gd x2 d17) d33)) ((gd d31 (gd (gd x2 d17) d33)) ++ [d17])), (IntKind.wrap .i64 (d33 + (1 : Int)))) (List.set z32 (Int.toNat (gd (gd x2 d17) d33)) z46) [1, 2, 3] (by exact ⟨rfl, rfl, rfl, rfl, rfl, rfl, rfl, rfl, trivial⟩) rfl rfl
            ·
              refine JC.condF' rfl (decide_eq_false h41) ?_
              refine JC.exit ?_
              refine QJ.then_exit ?_
              obtain rfl := Option.some.inj hm
              refine QJ.round_exit (fun hy => ?_)
              subst hy
              refine QJ.block_hit ?_
              exact QJ.cut_normal (d31, z32) hmo39 [0, 1] (by exact ⟨rfl, rfl, rfl, rfl, trivial⟩) rfl rfl
      ·
        refine JC.condF' rfl (decide_eq_false h25) ?_
        refine JC.exit ?_
        refine QJ.then_exit ?_
        obtain rfl := Option.some.inj hm
        refine QJ.round_exit (fun hy => ?_)
        subst hy
        refine QJ.block_hit ?_
        exact QJ.cut_normal (d15, z16) hmo23 [0] (by exact ⟨rfl, trivial⟩) rfl rfl
  ·
    refine JC.condT' rfl (congrArg Bool.not (bfalse h10)) ?_
    refine JC.seq ?_
    refine JC.region ?_
    refine JL.ent (fun _ hs => hs.nilV 25 (NE.sl (Enc.int .i64))) ?_
    refine JL.val (v := SlV.nil.v) (QV.assign rfl) rfl rfl rfl ?_
    refine JL.val (v := .int .i64 (3 : Int)) (QV.assign rfl) rfl rfl rfl ?_
    refine JL.nil ?_
    refine QJ.then_normal ?_
    refine JC.ret ?_
    refine QJ.then_ret ?_
    obtain rfl := Option.some.inj hm
    refine QJ.ent (fun _ hs => hs.shareV 0 rfl) ?_
    exact QJ.body (vs := [SlV.nil.v, .int .i64 (3 : Int)]) (.inl rfl) rfl (ResVs.cons (ResV.tmp rfl) (ResVs.cons (ResV.tmp rfl) ResVs.nil)) [0] rfl rfl (.inl rfl) ⟨(SlV.nil), (([] : List SlV)), rfl, rfl⟩

/-! ### 115: (*drogher/order.lowest).Push -/
noncomputable def F115.m (x3 : List (List Int)) (x6 : List Int) (x8 : List Int) (x10 : List Bool) (x12 : List Bool) (x13 : Int) : Option (List Int) :=
  (if ((x8).length + ([x13]).length) * 8 ≤ 140737488355328 ∧ (x8).length + ([x13]).length ≤ 9223372036854775807 then some (x8 ++ [x13]) else none)
set_option maxRecDepth 100000 in
set_option maxHeartbeats 4000000 in
theorem F115.spec (b1 : Nat) (s2 : SlV) (z4 : List SlV) (s5 : SlV) (s7 : SlV) (s9 : SlV) (s11 : SlV) (x3 : List (List Int)) (x6 : List Int) (x8 : List Int) (x10 : List Bool) (x12 : List Bool) (x13 : Int) (r : (List Int)) (hm : F115.m x3 x6 x8 x10 x12 x13 = some r) :
    Ctr Try.prog true 115 [.pointer (some ⟨b1, 2, none⟩), .iface 3 (.int .i64 x13)] [Asr.blk b1 82 [Seg.c (s2.v), Seg.c (s5.v), Seg.c (s7.v), Seg.c (s9.v), Seg.c (s11.v)], Asr.of 3 (Enc.int .i64) (s5.v) x6, Asr.of 3 (Enc.int .i64) (s7.v) x8, Asr.of 4 Enc.bool (s9.v) x10, Asr.of 4 Enc.bool (s11.v) x12, Asr.vn (NE.sl (Enc.int .i64)) (s2.v) z4 x3] (fun v L' => ∃ (g14 : SlV), v = .tuple #[] ∧ L' = [Asr.of 3 (Enc.int .i64) (s5.v) x6, Asr.of 3 (Enc.int .i64) (g14.v) r, Asr.of 4 Enc.bool (s9.v) x10, Asr.of 4 Enc.bool (s11.v) x12, Asr.vn (NE.sl (Enc.int .i64)) (s2.v) z4 x3, Asr.blk b1 82 [Seg.c (s2.v), Seg.c (s5.v), Seg.c (g14.v), Seg.c (s9.v), Seg.c (s11.v)]]) := by
  refine Ctr.intro (n := 15) (env := [(0, .pointer (some ⟨b1, 2, none⟩)), (1, .iface 3 (.int .i64 x13))]) Try.func115 rfl rfl rfl rfl (fun c => ?_)
  unfold F115.m at hm
  refine JC.regionT [Asr.blk b1 82 [Seg.c (s2.v), Seg.c (s5.v), Seg.c (s7.v), Seg.c (s9.v), Seg.c (s11.v)], Asr.of 3 (Enc.int .i64) (s5.v) x6, Asr.of 4 Enc.bool (s9.v) x10, Asr.of 4 Enc.bool (s11.v) x12, Asr.vn (NE.sl (Enc.int .i64)) (s2.v) z4 x3] (fun t => Nat.beq t 11) [(0, true), (1, true), (2, true), (3, true), (4, true), (5, false), (6, false), (7, false), (8, false), (9, false), (10, false), (11, false)] (by kernel_rfl) (by kernel_rfl) (by kernel_rfl) rfl (fun hsel => ?_)
  refine JT.take (i := 0) (v := .pointer (some ⟨b1, 2, none⟩)) hsel rfl (QV.move rfl) rfl rfl rfl rfl [0, 1, 3, 4, 5] rfl rfl ?_
  refine JT.take (i := 1) (v := .pointer (some ⟨b1, 2, none⟩)) hsel rfl (QV.move rfl) rfl rfl rfl rfl [0, 1, 3, 4, 5] rfl rfl ?_
  refine JT.take (i := 2) (v := .pointer (some ⟨b1, 2, none⟩)) hsel rfl (QV.nilCheck rfl) rfl rfl rfl rfl [0, 1, 3, 4, 5] rfl rfl ?_
  refine JT.take (i := 3) (v := .pointer (some ⟨b1, 2, none⟩)) hsel rfl (QV.fieldB fo_80_0 rfl rfl) rfl rfl rfl rfl [0, 1, 3, 4, 5] rfl rfl ?_
  refine JT.take (i := 4) (v := s7.v) hsel rfl (QV.load1 (ss := [Seg.c (s2.v), Seg.c (s5.v), Seg.c (s7.v), Seg.c (s9.v), Seg.c (s11.v)]) 0 2 rfl tk_25 rfl rfl rfl) rfl rfl rfl rfl [0, 1, 3, 4, 5] rfl rfl ?_
  refine JT.only (i := 5) (d := some 9) rfl (MV.ofQV (v := .iface 3 (.int .i64 x13)) (QV.move rfl)) rfl rfl rfl ?_
  rintro _ _ ⟨rfl, rfl⟩
  refine ⟨fun _ => ⟨[0, 1, 3, 4, 5], rfl, rfl⟩, ?_⟩
  refine JT.only (i := 6) (d := some 10) rfl (MV.ofQV (v := .int .i64 x13) (QV.asrt Try.underlying3 rfl rfl)) rfl rfl rfl ?_
  rintro _ _ ⟨rfl, rfl⟩
  refine ⟨fun _ => ⟨[0, 1, 3, 4, 5], rfl, rfl⟩, ?_⟩
  refine JT.only (i := 7) (d := some 11) rfl (MV.lit (E := (Enc.int .i64)) (vals := [(0, .int .i64 x13)]) [x13] Try.underlying25 zi_3 rfl (by decide) rfl (by kernel_rfl)) rfl rfl rfl ?_
  rintro _ _ ⟨z16, rfl, rfl⟩
  refine ⟨fun _ => ⟨[1, 2, 4, 5, 6], rfl, rfl⟩, ?_⟩
  refine JT.grow [Asr.of 3 (Enc.int .i64) (z16.v) [x13], Asr.blk b1 82 [Seg.c (s2.v), Seg.c (s5.v), Seg.c (s7.v), Seg.c (s9.v), Seg.c (s11.v)], Asr.of 3 (Enc.int .i64) (s5.v) x6, Asr.of 4 Enc.bool (s9.v) x10, Asr.of 4 Enc.bool (s11.v) x12, Asr.vn (NE.sl (Enc.int .i64)) (s2.v) z4 x3] [1, 2, 3, 4, 5] rfl rfl ?_
  obtain ⟨h17, hm⟩ := guard_inv hm
  refine JT.only (i := 8) (d := some 12) rfl (MV.append 3 rfl (Rdg.of 0 rfl) Try.underlying25 zi_3 rfl (by decide) rfl rfl h17) rfl rfl rfl ?_
  rintro _ _ ⟨z18, rfl, rfl⟩
  refine ⟨fun _ => ⟨[0, 1, 2, 4, 5, 6], rfl, rfl⟩, ?_⟩
  refine JT.grow [Asr.of 3 (Enc.int .i64) (z16.v) [x13], Asr.blk b1 82 [Seg.c (s2.v), Seg.c (s5.v), Seg.c (s7.v), Seg.c (s9.v), Seg.c (s11.v)], Asr.of 3 (Enc.int .i64) (s5.v) x6, Asr.of 3 (Enc.int .i64) (z18.v) (x8 ++ [x13]), Asr.of 4 Enc.bool (s9.v) x10, Asr.of 4 Enc.bool (s11.v) x12, Asr.vn (NE.sl (Enc.int .i64)) (s2.v) z4 x3] [0, 1, 2, 4, 5, 6] rfl rfl ?_
  refine JT.only (i := 9) (d := some 13) rfl (MV.ofQV (v := .pointer (some ⟨b1, 2, none⟩)) (QV.nilCheck rfl)) rfl rfl rfl ?_
  rintro _ _ ⟨rfl, rfl⟩
  refine ⟨fun _ => ⟨[0, 1, 2, 3, 4, 5, 6], rfl, rfl⟩, ?_⟩
  refine JT.only (i := 10) (d := some 14) rfl (MV.ofQV (v := .pointer (some ⟨b1, 2, none⟩)) (QV.fieldB fo_80_0 rfl rfl)) rfl rfl rfl ?_
  rintro _ _ ⟨rfl, rfl⟩
  refine ⟨fun _ => ⟨[0, 1, 2, 3, 4, 5, 6], rfl, rfl⟩, ?_⟩
  refine JT.only (i := 11) (d := none) rfl (MV.store (ss := [Seg.c (s2.v), Seg.c (s5.v), Seg.c (s7.v), Seg.c (s9.v), Seg.c (s11.v)]) 1 2 1 [Seg.c (z18.v)] rfl tk_25 rfl rfl rfl rfl (fun w hs => ⟨cells_sl (Rdg.of 3 rfl) hs, one_sl (Rdg.of 3 rfl) hs, trivial⟩)) rfl rfl rfl ?_
  rintro _ _ ⟨rfl, rfl⟩
  refine ⟨fun h => absurd h (by decide), ?_⟩
  refine JT.nil ?_
  obtain rfl := Option.some.inj hm
  exact QJ.body (vs := []) (.inr rfl) rfl ResVs.nil [2, 3, 4, 5, 6, 1] rfl rfl (.inl rfl) ⟨z18, rfl, rfl⟩

/-! ### 41: (*drogher/order.lowest).Len -/
noncomputable def F41.m (x3 : List (List Int)) (x6 : List Int) (x8 : List Int) (x10 : List Bool) (x12 : List Bool) : Option Int :=
  some ((x8).length : Int)
set_option maxRecDepth 100000 in
set_option maxHeartbeats 4000000 in
theorem F41.spec (b1 : Nat) (s2 : SlV) (z4 : List SlV) (s5 : SlV) (s7 : SlV) (s9 : SlV) (s11 : SlV) (x3 : List (List Int)) (x6 : List Int) (x8 : List Int) (x10 : List Bool) (x12 : List Bool) (r : Int) (hm : F41.m x3 x6 x8 x10 x12 = some r) :
    Ctr Try.prog true 41 [.pointer (some ⟨b1, 2, none⟩)] [Asr.blk b1 82 [Seg.c (s2.v), Seg.c (s5.v), Seg.c (s7.v), Seg.c (s9.v), Seg.c (s11.v)], Asr.of 3 (Enc.int .i64) (s5.v) x6, Asr.of 3 (Enc.int .i64) (s7.v) x8, Asr.of 4 Enc.bool (s9.v) x10, Asr.of 4 Enc.bool (s11.v) x12, Asr.vn (NE.sl (Enc.int .i64)) (s2.v) z4 x3] (fun v L' => v = .int .i64 r ∧ L' = [Asr.of 3 (Enc.int .i64) (s5.v) x6, Asr.of 3 (Enc.int .i64) (s7.v) x8, Asr.of 4 Enc.bool (s9.v) x10, Asr.of 4 Enc.bool (s11.v) x12, Asr.vn (NE.sl (Enc.int .i64)) (s2.v) z4 x3, Asr.blk b1 82 [Seg.c (s2.v), Seg.c (s5.v), Seg.c (s7.v), Seg.c (s9.v), Seg.c (s11.v)]]) := by
  refine Ctr.intro (n := 8) (env := [(0, .pointer (some ⟨b1, 2, none⟩))]) Try.func41 rfl rfl rfl rfl (fun c => ?_)
  unfold F41.m at hm
  refine JC.seq ?_
  refine JC.region ?_
  refine JL.val (v := .int .i64 (0 : Int)) (QV.assign rfl) rfl rfl rfl ?_
  refine JL.nil ?_
  refine QJ.then_normal ?_
  refine JC.seq ?_
  refine JC.region ?_
  refine JL.val (v := .pointer (some ⟨b1, 2, none⟩)) (QV.move rfl) rfl rfl rfl ?_
  refine JL.val (v := .pointer (some ⟨b1, 2, none⟩)) (QV.nilCheck rfl) rfl rfl rfl ?_
  refine JL.val (v := .pointer (some ⟨b1, 2, none⟩)) (QV.fieldB fo_80_0 rfl rfl) rfl rfl rfl ?_
  refine JL.val (v := s7.v) (QV.load1 (ss := [Seg.c (s2.v), Seg.c (s5.v), Seg.c (s7.v), Seg.c (s9.v), Seg.c (s11.v)]) 0 2 rfl tk_25 rfl rfl rfl) rfl rfl rfl ?_
  refine JL.val (v := .int .i64 ((x8).length : Int)) (QV.len (Rdg.of 2 rfl) Try.underlying25 rfl) rfl rfl rfl ?_
  refine JL.val (v := .int .i64 ((x8).length : Int)) (QV.assign rfl) rfl rfl rfl ?_
  refine JL.nil ?_
  refine QJ.then_normal ?_
  refine JC.ret ?_
  obtain rfl := Option.some.inj hm
  exact QJ.body (vs := [.int .i64 ((x8).length : Int)]) (.inl rfl) rfl (ResVs.cons (ResV.tmp rfl) ResVs.nil) [1, 2, 3, 4, 5, 0] rfl rfl (.inl rfl) ⟨rfl, rfl⟩

/-! ### 113: (*drogher/order.lowest).Less -/
noncomputable def F113.m (x3 : List (List Int)) (x6 : List Int) (x8 : List Int) (x10 : List Bool) (x12 : List Bool) (x13 : Int) (x14 : Int) : Option Bool :=
  (if 0 ≤ x13 ∧ x13 < ((x8).length : Int) then (if 0 ≤ x14 ∧ x14 < ((x8).length : Int) then some (decide ((gd x8 x13) < (gd x8 x14))) else none) else none)
set_option maxRecDepth 100000 in
set_option maxHeartbeats 4000000 in
theorem F113.spec (b1 : Nat) (s2 : SlV) (z4 : List SlV) (s5 : SlV) (s7 : SlV) (s9 : SlV) (s11 : SlV) (x3 : List (List Int)) (x6 : List Int) (x8 : List Int) (x10 : List Bool) (x12 : List Bool) (x13 : Int) (x14 : Int) (r : Bool) (hm : F113.m x3 x6 x8 x10 x12 x13 x14 = some r) :
    Ctr Try.prog true 113 [.pointer (some ⟨b1, 2, none⟩), .int .i64 x13, .int .i64 x14] [Asr.blk b1 82 [Seg.c (s2.v), Seg.c (s5.v), Seg.c (s7.v), Seg.c (s9.v), Seg.c (s11.v)], Asr.of 3 (Enc.int .i64) (s5.v) x6, Asr.of 3 (Enc.int .i64) (s7.v) x8, Asr.of 4 Enc.bool (s9.v) x10, Asr.of 4 Enc.bool (s11.v) x12, Asr.vn (NE.sl (Enc.int .i64)) (s2.v) z4 x3] (fun v L' => v = .bool r ∧ L' = [Asr.of 3 (Enc.int .i64) (s5.v) x6, Asr.of 3 (Enc.int .i64) (s7.v) x8, Asr.of 4 Enc.bool (s9.v) x10, Asr.of 4 Enc.bool (s11.v) x12, Asr.vn (NE.sl (Enc.int .i64)) (s2.v) z4 x3, Asr.blk b1 82 [Seg.c (s2.v), Seg.c (s5.v), Seg.c (s7.v), Seg.c (s9.v), Seg.c (s11.v)]]) := by
  refine Ctr.intro (n := 22) (env := [(0, .pointer (some ⟨b1, 2, none⟩)), (1, .int .i64 x13), (2, .int .i64 x14)]) Try.func113 rfl rfl rfl rfl (fun c => ?_)
  unfold F113.m at hm
  refine JC.seq ?_
  refine JC.region ?_
  refine JL.val (v := .bool false) (QV.assign rfl) rfl rfl rfl ?_
  refine JL.nil ?_
  refine QJ.then_normal ?_
  refine JC.seq ?_
  refine JC.regionT [Asr.blk b1 82 [Seg.c (s2.v), Seg.c (s5.v), Seg.c (s7.v), Seg.c (s9.v), Seg.c (s11.v)], Asr.of 3 (Enc.int .i64) (s5.v) x6, Asr.of 3 (Enc.int .i64) (s7.v) x8, Asr.of 4 Enc.bool (s9.v) x10, Asr.of 4 Enc.bool (s11.v) x12, Asr.vn (NE.sl (Enc.int .i64)) (s2.v) z4 x3] (fun t => false) [(0, true), (1, true), (2, true), (3, true), (4, true), (5, true), (6, true), (7, true), (8, true), (9, true), (10, true), (11, false), (12, false), (13, false), (14, false), (15, false)] (by kernel_rfl) (by kernel_rfl) (by kernel_rfl) rfl (fun hsel => ?_)
  refine JT.take (i := 0) (v := .pointer (some ⟨b1, 2, none⟩)) hsel rfl (QV.move rfl) rfl rfl rfl rfl [0, 1, 2, 3, 4, 5] rfl rfl ?_
  refine JT.take (i := 1) (v := .pointer (some ⟨b1, 2, none⟩)) hsel rfl (QV.nilCheck rfl) rfl rfl rfl rfl [0, 1, 2, 3, 4, 5] rfl rfl ?_
  refine JT.take (i := 2) (v := .pointer (some ⟨b1, 2, none⟩)) hsel rfl (QV.fieldB fo_80_0 rfl rfl) rfl rfl rfl rfl [0, 1, 2, 3, 4, 5] rfl rfl ?_
  refine JT.take (i := 3) (v := s7.v) hsel rfl (QV.load1 (ss := [Seg.c (s2.v), Seg.c (s5.v), Seg.c (s7.v), Seg.c (s9.v), Seg.c (s11.v)]) 0 2 rfl tk_25 rfl rfl rfl) rfl rfl rfl rfl [0, 1, 2, 3, 4, 5] rfl rfl ?_
  refine JT.take (i := 4) (v := .int .i64 x13) hsel rfl (QV.move rfl) rfl rfl rfl rfl [0, 1, 2, 3, 4, 5] rfl rfl ?_
  obtain ⟨h16, hm⟩ := guard_inv hm
  refine JT.take (i := 5) (v := .pointer (some (elA (s7.v) (Int.toNat x13 * ((Enc.int .i64)).sz)))) hsel rfl (QV.indexA (Rdg.of 2 rfl) Try.underlying25 tk_3 rfl rfl h16) rfl rfl rfl rfl [0, 1, 2, 3, 4, 5] rfl rfl ?_
  refine JT.take (i := 6) (v := .int .i64 (gd x8 x13)) hsel rfl (QV.el1 (Rdg.of 2 rfl) tk_3 rfl h16 rfl) rfl rfl rfl rfl [0, 1, 2, 3, 4, 5] rfl rfl ?_
  refine JT.take (i := 7) (v := .pointer (some ⟨b1, 2, none⟩)) hsel rfl (QV.move rfl) rfl rfl rfl rfl [0, 1, 2, 3, 4, 5] rfl rfl ?_
  refine JT.take (i := 8) (v := .pointer (some ⟨b1, 2, none⟩)) hsel rfl (QV.nilCheck rfl) rfl rfl rfl rfl [0, 1, 2, 3, 4, 5] rfl rfl ?_
  refine JT.take (i := 9) (v := .pointer (some ⟨b1, 2, none⟩)) hsel rfl (QV.fieldB fo_80_0 rfl rfl) rfl rfl rfl rfl [0, 1, 2, 3, 4, 5] rfl rfl ?_
  refine JT.take (i := 10) (v := s7.v) hsel rfl (QV.load1 (ss := [Seg.c (s2.v), Seg.c (s5.v), Seg.c (s7.v), Seg.c (s9.v), Seg.c (s11.v)]) 0 2 rfl tk_25 rfl rfl rfl) rfl rfl rfl rfl [0, 1, 2, 3, 4, 5] rfl rfl ?_
  refine JT.only (i := 11) (d := some 18) rfl (MV.ofQV (v := .int .i64 x14) (QV.move rfl)) rfl rfl rfl ?_
  rintro _ _ ⟨rfl, rfl⟩
  refine ⟨fun _ => ⟨[0, 1, 2, 3, 4, 5], rfl, rfl⟩, ?_⟩
  obtain ⟨h17, hm⟩ := guard_inv hm
  refine JT.only (i := 12) (d := some 19) rfl (MV.ofQV (v := .pointer (some (elA (s7.v) (Int.toNat x14 * ((Enc.int .i64)).sz)))) (QV.indexA (Rdg.of 2 rfl) Try.underlying25 tk_3 rfl rfl h17)) rfl rfl rfl ?_
  rintro _ _ ⟨rfl, rfl⟩
  refine ⟨fun _ => ⟨[0, 1, 2, 3, 4, 5], rfl, rfl⟩, ?_⟩
  refine JT.only (i := 13) (d := some 20) rfl (MV.ofQV (v := .int .i64 (gd x8 x14)) (QV.el1 (Rdg.of 2 rfl) tk_3 rfl h17 rfl)) rfl rfl rfl ?_
  rintro _ _ ⟨rfl, rfl⟩
  refine ⟨fun _ => ⟨[0, 1, 2, 3, 4, 5], rfl, rfl⟩, ?_⟩
  refine JT.only (i := 14) (d := some 21) rfl (MV.ofQV (v := .bool (decide ((gd x8 x13) < (gd x8 x14)))) (QV.lss rfl rfl)) rfl rfl rfl ?_
  rintro _ _ ⟨rfl, rfl⟩
  refine ⟨fun _ => ⟨[0, 1, 2, 3, 4, 5], rfl, rfl⟩, ?_⟩
  refine JT.only (i := 15) (d := some 6) rfl (MV.ofQV (v := .bool (decide ((gd x8 x13) < (gd x8 x14)))) (QV.assign rfl)) rfl rfl rfl ?_
  rintro _ _ ⟨rfl, rfl⟩
  refine ⟨fun _ => ⟨[0, 1, 2, 3, 4, 5], rfl, rfl⟩, ?_⟩
  refine JT.nil ?_
  refine QJ.then_normal ?_
  refine JC.ret ?_
  obtain rfl := Option.some.inj hm
  exact QJ.body (vs := [.bool (decide ((gd x8 x13) < (gd x8 x14)))]) (.inl rfl) rfl (ResVs.cons (ResV.tmp rfl) ResVs.nil) [1, 2, 3, 4, 5, 0] rfl rfl (.inl rfl) ⟨rfl, rfl⟩

/-! ### 116: (*drogher/order.lowest).Swap -/
noncomputable def F116.j1 (x8 : List Int) (x13 : Int) (x14 : Int)  : Option (List Int) :=
  some (List.set (List.set x8 (Int.toNat x13) (gd x8 x14)) (Int.toNat x14) (gd x8 x13))
noncomputable def F116.m (x3 : List (List Int)) (x6 : List Int) (x8 : List Int) (x10 : List Bool) (x12 : List Bool) (x13 : Int) (x14 : Int) : Option (List Int) :=
  (if 0 ≤ x14 ∧ x14 < ((x8).length : Int) then (if 0 ≤ x13 ∧ x13 < ((x8).length : Int) then (if 0 ≤ x14 ∧ x14 < (((List.set x8 (Int.toNat x13) (gd x8 x14))).length : Int) then F116.j1 x8 x13 x14 else none) else none) else none)
set_option maxRecDepth 100000 in
set_option maxHeartbeats 4000000 in
theorem F116.spec (b1 : Nat) (s2 : SlV) (z4 : List SlV) (s5 : SlV) (s7 : SlV) (s9 : SlV) (s11 : SlV) (x3 : List (List Int)) (x6 : List Int) (x8 : List Int) (x10 : List Bool) (x12 : List Bool) (x13 : Int) (x14 : Int) (r : (List Int)) (hm : F116.m x3 x6 x8 x10 x12 x13 x14 = some r) :
    Ctr Try.prog true 116 [.pointer (some ⟨b1, 2, none⟩), .int .i64 x13, .int .i64 x14] [Asr.blk b1 82 [Seg.c (s2.v), Seg.c (s5.v), Seg.c (s7.v), Seg.c (s9.v), Seg.c (s11.v)], Asr.of 3 (Enc.int .i64) (s5.v) x6, Asr.of 3 (Enc.int .i64) (s7.v) x8, Asr.of 4 Enc.bool (s9.v) x10, Asr.of 4 Enc.bool (s11.v) x12, Asr.vn (NE.sl (Enc.int .i64)) (s2.v) z4 x3] (fun v L' => v = .tuple #[] ∧ L' = [Asr.of 3 (Enc.int .i64) (s5.v) x6, Asr.of 3 (Enc.int .i64) (s7.v) r, Asr.of 4 Enc.bool (s9.v) x10, Asr.of 4 Enc.bool (s11.v) x12, Asr.vn (NE.sl (Enc.int .i64)) (s2.v) z4 x3, Asr.blk b1 82 [Seg.c (s2.v), Seg.c (s5.v), Seg.c (s7.v), Seg.c (s9.v), Seg.c (s11.v)]]) := by
  refine Ctr.intro (n := 32) (env := [(0, .pointer (some ⟨b1, 2, none⟩)), (1, .int .i64 x13), (2, .int .i64 x14)]) Try.func116 rfl rfl rfl rfl (fun c => ?_)
  unfold F116.m at hm
  obtain ⟨h16, hm⟩ := guard_inv hm
  obtain ⟨h17, hm⟩ := guard_inv hm
  obtain ⟨h18, hm⟩ := guard_inv hm
  refine JC.cutK (Y := Unit × Unit) (fun y => match y with | (_, _) => F116.j1 x8 x13 x14 = some r) (fun y => match y with | (_, _) => []) (fun y => match y with | (_, _) => [Asr.of 3 (Enc.int .i64) (s5.v) x6, Asr.of 3 (Enc.int .i64) (s7.v) (List.set (List.set x8 (Int.toNat x13) (gd x8 x14)) (Int.toNat x14) (gd x8 x13)), Asr.of 4 Enc.bool (s9.v) x10, Asr.of 4 Enc.bool (s11.v) x12, Asr.vn (NE.sl (Enc.int .i64)) (s2.v) z4 x3, Asr.blk b1 82 [Seg.c (s2.v), Seg.c (s5.v), Seg.c (s7.v), Seg.c (s9.v), Seg.c (s11.v)]]) ?_ ?_
  ·
    rintro ⟨⟨⟩, ⟨⟩⟩ hm
    unfold F116.j1 at hm
    show QJ _ _ [] [Asr.of 3 (Enc.int .i64) (s5.v) x6, Asr.of 3 (Enc.int .i64) (s7.v) (List.set (List.set x8 (Int.toNat x13) (gd x8 x14)) (Int.toNat x14) (gd x8 x13)), Asr.of 4 Enc.bool (s9.v) x10, Asr.of 4 Enc.bool (s11.v) x12, Asr.vn (NE.sl (Enc.int .i64)) (s2.v) z4 x3, Asr.blk b1 82 [Seg.c (s2.v), Seg.c (s5.v), Seg.c (s7.v), Seg.c (s9.v), Seg.c (s11.v)]] _ _
    obtain rfl := Option.some.inj hm
    exact QJ.body (vs := []) (.inr rfl) rfl ResVs.nil [0, 1, 2, 3, 4, 5] rfl rfl (.inl rfl) ⟨rfl, rfl⟩
  ·
    refine JC.regionU [Asr.blk b1 82 [Seg.c (s2.v), Seg.c (s5.v), Seg.c (s7.v), Seg.c (s9.v), Seg.c (s11.v)], Asr.of 3 (Enc.int .i64) (s5.v) x6, Asr.of 4 Enc.bool (s9.v) x10, Asr.of 4 Enc.bool (s11.v) x12, Asr.vn (NE.sl (Enc.int .i64)) (s2.v) z4 x3] (fun _ => false) 28 rfl (by kernel_rfl) (by kernel_rfl) (fun hsel => ?_)
    refine JU.take (i := 0) (v := .pointer (some ⟨b1, 2, none⟩)) hsel rfl (by kernel_rfl) (QV.move rfl) rfl rfl rfl rfl [0, 1, 3, 4, 5] rfl rfl ?_
    refine JU.take (i := 1) (v := .pointer (some ⟨b1, 2, none⟩)) hsel rfl (by kernel_rfl) (QV.nilCheck rfl) rfl rfl rfl rfl [0, 1, 3, 4, 5] rfl rfl ?_
    refine JU.take (i := 2) (v := .pointer (some ⟨b1, 2, none⟩)) hsel rfl (by kernel_rfl) (QV.fieldB fo_80_0 rfl rfl) rfl rfl rfl rfl [0, 1, 3, 4, 5] rfl rfl ?_
    refine JU.take (i := 3) (v := s7.v) hsel rfl (by kernel_rfl) (QV.load1 (ss := [Seg.c (s2.v), Seg.c (s5.v), Seg.c (s7.v), Seg.c (s9.v), Seg.c (s11.v)]) 0 2 rfl tk_25 rfl rfl rfl) rfl rfl rfl rfl [0, 1, 3, 4, 5] rfl rfl ?_
    refine JU.take (i := 4) (v := .int .i64 x13) hsel rfl (by kernel_rfl) (QV.move rfl) rfl rfl rfl rfl [0, 1, 3, 4, 5] rfl rfl ?_
    refine JU.take (i := 5) (v := .pointer (some ⟨b1, 2, none⟩)) hsel rfl (by kernel_rfl) (QV.move rfl) rfl rfl rfl rfl [0, 1, 3, 4, 5] rfl rfl ?_
    refine JU.take (i := 6) (v := .pointer (some ⟨b1, 2, none⟩)) hsel rfl (by kernel_rfl) (QV.nilCheck rfl) rfl rfl rfl rfl [0, 1, 3, 4, 5] rfl rfl ?_
    refine JU.take (i := 7) (v := .pointer (some ⟨b1, 2, none⟩)) hsel rfl (by kernel_rfl) (QV.fieldB fo_80_0 rfl rfl) rfl rfl rfl rfl [0, 1, 3, 4, 5] rfl rfl ?_
    refine JU.take (i := 8) (v := s7.v) hsel rfl (by kernel_rfl) (QV.load1 (ss := [Seg.c (s2.v), Seg.c (s5.v), Seg.c (s7.v), Seg.c (s9.v), Seg.c (s11.v)]) 0 2 rfl tk_25 rfl rfl rfl) rfl rfl rfl rfl [0, 1, 3, 4, 5] rfl rfl ?_
    refine JU.take (i := 9) (v := .int .i64 x14) hsel rfl (by kernel_rfl) (QV.move rfl) rfl rfl rfl rfl [0, 1, 3, 4, 5] rfl rfl ?_
    refine JU.take (i := 10) (v := .pointer (some ⟨b1, 2, none⟩)) hsel rfl (by kernel_rfl) (QV.move rfl) rfl rfl rfl rfl [0, 1, 3, 4, 5] rfl rfl ?_
    refine JU.take (i := 11) (v := .pointer (some ⟨b1, 2, none⟩)) hsel rfl (by kernel_rfl) (QV.nilCheck rfl) rfl rfl rfl rfl [0, 1, 3, 4, 5] rfl rfl ?_
    refine JU.take (i := 12) (v := .pointer (some ⟨b1, 2, none⟩)) hsel rfl (by kernel_rfl) (QV.fieldB fo_80_0 rfl rfl) rfl rfl rfl rfl [0, 1, 3, 4, 5] rfl rfl ?_
    refine JU.take (i := 13) (v := s7.v) hsel rfl (by kernel_rfl) (QV.load1 (ss := [Seg.c (s2.v), Seg.c (s5.v), Seg.c (s7.v), Seg.c (s9.v), Seg.c (s11.v)]) 0 2 rfl tk_25 rfl rfl rfl) rfl rfl rfl rfl [0, 1, 3, 4, 5] rfl rfl ?_
    refine JU.take (i := 14) (v := .int .i64 x14) hsel rfl (by kernel_rfl) (QV.move rfl) rfl rfl rfl rfl [0, 1, 3, 4, 5] rfl rfl ?_
    refine JU.take (i := 17) (v := .pointer (some ⟨b1, 2, none⟩)) hsel rfl (by kernel_rfl) (QV.move rfl) rfl rfl rfl rfl [0, 1, 3, 4, 5] rfl rfl ?_
    refine JU.take (i := 18) (v := .pointer (some ⟨b1, 2, none⟩)) hsel rfl (by kernel_rfl) (QV.nilCheck rfl) rfl rfl rfl rfl [0, 1, 3, 4, 5] rfl rfl ?_
    refine JU.take (i := 19) (v := .pointer (some ⟨b1, 2, none⟩)) hsel rfl (by kernel_rfl) (QV.fieldB fo_80_0 rfl rfl) rfl rfl rfl rfl [0, 1, 3, 4, 5] rfl rfl ?_
    refine JU.take (i := 20) (v := s7.v) hsel rfl (by kernel_rfl) (QV.load1 (ss := [Seg.c (s2.v), Seg.c (s5.v), Seg.c (s7.v), Seg.c (s9.v), Seg.c (s11.v)]) 0 2 rfl tk_25 rfl rfl rfl) rfl rfl rfl rfl [0, 1, 3, 4, 5] rfl rfl ?_
    refine JU.take (i := 21) (v := .int .i64 x13) hsel rfl (by kernel_rfl) (QV.move rfl) rfl rfl rfl rfl [0, 1, 3, 4, 5] rfl rfl ?_
    refine JU.any [15, 22] (by kernel_rfl) rfl ?_
    refine ⟨?_, ?_, trivial⟩
    ·
      refine JUo.mv (d := some 21) rfl (MV.ofQV (v := .pointer (some (elA (s7.v) (Int.toNat x14 * ((Enc.int .i64)).sz)))) (QV.indexA (Rdg.of 2 rfl) Try.underlying25 tk_3 rfl rfl h16)) rfl rfl rfl ?_
      rintro _ _ ⟨rfl, rfl⟩
      refine ⟨fun _ => ⟨[0, 1, 3, 4, 5], rfl, rfl⟩, ?_⟩
      refine JU.any [16, 22] (by kernel_rfl) rfl ?_
      refine ⟨?_, ?_, trivial⟩
      ·
        refine JUo.mv (d := some 22) rfl (MV.ofQV (v := .int .i64 (gd x8 x14)) (QV.el1 (Rdg.of 2 rfl) tk_3 rfl h16 rfl)) rfl rfl rfl ?_
        rintro _ _ ⟨rfl, rfl⟩
        refine ⟨fun _ => ⟨[0, 1, 3, 4, 5], rfl, rfl⟩, ?_⟩
        refine JU.any [22] (by kernel_rfl) rfl ?_
        refine ⟨?_, trivial⟩
        refine JUo.mv (d := some 28) rfl (MV.ofQV (v := .pointer (some (elA (s7.v) (Int.toNat x13 * ((Enc.int .i64)).sz)))) (QV.indexA (Rdg.of 2 rfl) Try.underlying25 tk_3 rfl rfl h17)) rfl rfl rfl ?_
        rintro _ _ ⟨rfl, rfl⟩
        refine ⟨fun _ => ⟨[0, 1, 3, 4, 5], rfl, rfl⟩, ?_⟩
        refine JU.any [23] (by kernel_rfl) rfl ?_
        refine ⟨?_, trivial⟩
        refine JUo.mv (d := some 29) rfl (MV.ofQV (v := .int .i64 (gd x8 x13)) (QV.el1 (Rdg.of 2 rfl) tk_3 rfl h17 rfl)) rfl rfl rfl ?_
        rintro _ _ ⟨rfl, rfl⟩
        refine ⟨fun _ => ⟨[0, 1, 3, 4, 5], rfl, rfl⟩, ?_⟩
        refine JU.any [24] (by kernel_rfl) rfl ?_
        refine ⟨?_, trivial⟩
        refine JUo.mv (d := some 30) rfl (MV.ofQV (v := .pointer (some (elA (s7.v) (Int.toNat x13 * ((Enc.int .i64)).sz)))) (QV.indexA (Rdg.of 2 rfl) Try.underlying25 tk_3 rfl rfl h17)) rfl rfl rfl ?_
        rintro _ _ ⟨rfl, rfl⟩
        refine ⟨fun _ => ⟨[0, 1, 3, 4, 5], rfl, rfl⟩, ?_⟩
        refine JU.any [25] (by kernel_rfl) rfl ?_
        refine ⟨?_, trivial⟩
        refine JUo.mv (d := none) rfl (MV.storeEl 2 (gd x8 x14) rfl tk_3 rfl rfl h17 rfl) rfl rfl rfl ?_
        rintro _ _ ⟨rfl, rfl⟩
        refine ⟨fun _ => ⟨[0, 1, 3, 4, 5], rfl, rfl⟩, ?_⟩
        refine JU.any [26] (by kernel_rfl) rfl ?_
        refine ⟨?_, trivial⟩
        refine JUo.mv (d := some 31) rfl (MV.ofQV (v := .pointer (some (elA (s7.v) (Int.toNat x14 * ((Enc.int .i64)).sz)))) (QV.indexA (Rdg.of 2 rfl) Try.underlying25 tk_3 rfl rfl h18)) rfl rfl rfl ?_
        rintro _ _ ⟨rfl, rfl⟩
        refine ⟨fun _ => ⟨[0, 1, 3, 4, 5], rfl, rfl⟩, ?_⟩
        refine JU.any [27] (by kernel_rfl) rfl ?_
        refine ⟨?_, trivial⟩
        refine JUo.mv (d := none) rfl (MV.storeEl 2 (gd x8 x13) rfl tk_3 rfl rfl h18 rfl) rfl rfl rfl ?_
        rintro _ _ ⟨rfl, rfl⟩
        refine ⟨fun _ => ⟨[0, 1, 3, 4, 5], rfl, rfl⟩, ?_⟩
        refine JU.nil (by kernel_rfl) ?_
        exact QJ.cut_normal ((), ()) hm [1, 2, 3, 4, 5, 0] trivial rfl rfl
      ·
        refine JUo.mv (d := some 28) rfl (MV.ofQV (v := .pointer (some (elA (s7.v) (Int.toNat x13 * ((Enc.int .i64)).sz)))) (QV.indexA (Rdg.of 2 rfl) Try.underlying25 tk_3 rfl rfl h17)) rfl rfl rfl ?_
        rintro _ _ ⟨rfl, rfl⟩
        refine ⟨fun _ => ⟨[0, 1, 3, 4, 5], rfl, rfl⟩, ?_⟩
        refine JU.any [16, 23] (by kernel_rfl) rfl ?_
        refine ⟨?_, ?_, trivial⟩
        ·
          refine JUo.mv (d := some 22) rfl (MV.ofQV (v := .int .i64 (gd x8 x14)) (QV.el1 (Rdg.of 2 rfl) tk_3 rfl h16 rfl)) rfl rfl rfl ?_
          rintro _ _ ⟨rfl, rfl⟩
          refine ⟨fun _ => ⟨[0, 1, 3, 4, 5], rfl, rfl⟩, ?_⟩
          refine JU.any [23] (by kernel_rfl) rfl ?_
          refine ⟨?_, trivial⟩
          refine JUo.mv (d := some 29) rfl (MV.ofQV (v := .int .i64 (gd x8 x13)) (QV.el1 (Rdg.of 2 rfl) tk_3 rfl h17 rfl)) rfl rfl rfl ?_
          rintro _ _ ⟨rfl, rfl⟩
          refine ⟨fun _ => ⟨[0, 1, 3, 4, 5], rfl, rfl⟩, ?_⟩
          refine JU.any [24] (by kernel_rfl) rfl ?_
          refine ⟨?_, trivial⟩
          refine JUo.mv (d := some 30) rfl (MV.ofQV (v := .pointer (some (elA (s7.v) (Int.toNat x13 * ((Enc.int .i64)).sz)))) (QV.indexA (Rdg.of 2 rfl) Try.underlying25 tk_3 rfl rfl h17)) rfl rfl rfl ?_
          rintro _ _ ⟨rfl, rfl⟩
          refine ⟨fun _ => ⟨[0, 1, 3, 4, 5], rfl, rfl⟩, ?_⟩
          refine JU.any [25] (by kernel_rfl) rfl ?_
          refine ⟨?_, trivial⟩
          refine JUo.mv (d := none) rfl (MV.storeEl 2 (gd x8 x14) rfl tk_3 rfl rfl h17 rfl) rfl rfl rfl ?_
          rintro _ _ ⟨rfl, rfl⟩
          refine ⟨fun _ => ⟨[0, 1, 3, 4, 5], rfl, rfl⟩, ?_⟩
          refine JU.any [26] (by kernel_rfl) rfl ?_
          refine ⟨?_, trivial⟩
          refine JUo.mv (d := some 31) rfl (MV.ofQV (v := .pointer (some (elA (s7.v) (Int.toNat x14 * ((Enc.int .i64)).sz)))) (QV.indexA (Rdg.of 2 rfl) Try.underlying25 tk_3 rfl rfl h18)) rfl rfl rfl ?_
          rintro _ _ ⟨rfl, rfl⟩
          refine ⟨fun _ => ⟨[0, 1, 3, 4, 5], rfl, rfl⟩, ?_⟩
          refine JU.any [27] (by kernel_rfl) rfl ?_
          refine ⟨?_, trivial⟩
          refine JUo.mv (d := none) rfl (MV.storeEl 2 (gd x8 x13) rfl tk_3 rfl rfl h18 rfl) rfl rfl rfl ?_
          rintro _ _ ⟨rfl, rfl⟩
          refine ⟨fun _ => ⟨[0, 1, 3, 4, 5], rfl, rfl⟩, ?_⟩
          refine JU.nil (by kernel_rfl) ?_
          exact QJ.cut_normal ((), ()) hm [1, 2, 3, 4, 5, 0] trivial rfl rfl
        ·
          refine JUo.mv (d := some 29) rfl (MV.ofQV (v := .int .i64 (gd x8 x13)) (QV.el1 (Rdg.of 2 rfl) tk_3 rfl h17 rfl)) rfl rfl rfl ?_
          rintro _ _ ⟨rfl, rfl⟩
          refine ⟨fun _ => ⟨[0, 1, 3, 4, 5], rfl, rfl⟩, ?_⟩
          refine JU.any [16] (by kernel_rfl) rfl ?_
          refine ⟨?_, trivial⟩
          refine JUo.mv (d := some 22) rfl (MV.ofQV (v := .int .i64 (gd x8 x14)) (QV.el1 (Rdg.of 2 rfl) tk_3 rfl h16 rfl)) rfl rfl rfl ?_
          rintro _ _ ⟨rfl, rfl⟩
          refine ⟨fun _ => ⟨[0, 1, 3, 4, 5], rfl, rfl⟩, ?_⟩
          refine JU.any [24] (by kernel_rfl) rfl ?_
          refine ⟨?_, trivial⟩
          refine JUo.mv (d := some 30) rfl (MV.ofQV (v := .pointer (some (elA (s7.v) (Int.toNat x13 * ((Enc.int .i64)).sz)))) (QV.indexA (Rdg.of 2 rfl) Try.underlying25 tk_3 rfl rfl h17)) rfl rfl rfl ?_
          rintro _ _ ⟨rfl, rfl⟩
          refine ⟨fun _ => ⟨[0, 1, 3, 4, 5], rfl, rfl⟩, ?_⟩
          refine JU.any [25] (by kernel_rfl) rfl ?_
          refine ⟨?_, trivial⟩
          refine JUo.mv (d := none) rfl (MV.storeEl 2 (gd x8 x14) rfl tk_3 rfl rfl h17 rfl) rfl rfl rfl ?_
          rintro _ _ ⟨rfl, rfl⟩
          refine ⟨fun _ => ⟨[0, 1, 3, 4, 5], rfl, rfl⟩, ?_⟩
          refine JU.any [26] (by kernel_rfl) rfl ?_
          refine ⟨?_, trivial⟩
          refine JUo.mv (d := some 31) rfl (MV.ofQV (v := .pointer (some (elA (s7.v) (Int.toNat x14 * ((Enc.int .i64)).sz)))) (QV.indexA (Rdg.of 2 rfl) Try.underlying25 tk_3 rfl rfl h18)) rfl rfl rfl ?_
          rintro _ _ ⟨rfl, rfl⟩
          refine ⟨fun _ => ⟨[0, 1, 3, 4, 5], rfl, rfl⟩, ?_⟩
          refine JU.any [27] (by kernel_rfl) rfl ?_
          refine ⟨?_, trivial⟩
          refine JUo.mv (d := none) rfl (MV.storeEl 2 (gd x8 x13) rfl tk_3 rfl rfl h18 rfl) rfl rfl rfl ?_
          rintro _ _ ⟨rfl, rfl⟩
          refine ⟨fun _ => ⟨[0, 1, 3, 4, 5], rfl, rfl⟩, ?_⟩
          refine JU.nil (by kernel_rfl) ?_
          exact QJ.cut_normal ((), ()) hm [1, 2, 3, 4, 5, 0] trivial rfl rfl
    ·
      refine JUo.mv (d := some 28) rfl (MV.ofQV (v := .pointer (some (elA (s7.v) (Int.toNat x13 * ((Enc.int .i64)).sz)))) (QV.indexA (Rdg.of 2 rfl) Try.underlying25 tk_3 rfl rfl h17)) rfl rfl rfl ?_
      rintro _ _ ⟨rfl, rfl⟩
      refine ⟨fun _ => ⟨[0, 1, 3, 4, 5], rfl, rfl⟩, ?_⟩
      refine JU.any [15, 23] (by kernel_rfl) rfl ?_
      refine ⟨?_, ?_, trivial⟩
      ·
        refine JUo.mv (d := some 21) rfl (MV.ofQV (v := .pointer (some (elA (s7.v) (Int.toNat x14 * ((Enc.int .i64)).sz)))) (QV.indexA (Rdg.of 2 rfl) Try.underlying25 tk_3 rfl rfl h16)) rfl rfl rfl ?_
        rintro _ _ ⟨rfl, rfl⟩
        refine ⟨fun _ => ⟨[0, 1, 3, 4, 5], rfl, rfl⟩, ?_⟩
        refine JU.any [16, 23] (by kernel_rfl) rfl ?_
        refine ⟨?_, ?_, trivial⟩
        ·
          refine JUo.mv (d := some 22) rfl (MV.ofQV (v := .int .i64 (gd x8 x14)) (QV.el1 (Rdg.of 2 rfl) tk_3 rfl h16 rfl)) rfl rfl rfl ?_
          rintro _ _ ⟨rfl, rfl⟩
          refine ⟨fun _ => ⟨[0, 1, 3, 4, 5], rfl, rfl⟩, ?_⟩
          refine JU.any [23] (by kernel_rfl) rfl ?_
          refine ⟨?_, trivial⟩
          refine JUo.mv (d := some 29) rfl (MV.ofQV (v := .int .i64 (gd x8 x13)) (QV.el1 (Rdg.of 2 rfl) tk_3 rfl h17 rfl)) rfl rfl rfl ?_
          rintro _ _ ⟨rfl, rfl⟩
          refine ⟨fun _ => ⟨[0, 1, 3, 4, 5], rfl, rfl⟩, ?_⟩
          refine JU.any [24] (by kernel_rfl) rfl ?_
          refine ⟨?_, trivial⟩
          refine JUo.mv (d := some 30) rfl (MV.ofQV (v := .pointer (some (elA (s7.v) (Int.toNat x13 * ((Enc.int .i64)).sz)))) (QV.indexA (Rdg.of 2 rfl) Try.underlying25 tk_3 rfl rfl h17)) rfl rfl rfl ?_
          rintro _ _ ⟨rfl, rfl⟩
          refine ⟨fun _ => ⟨[0, 1, 3, 4, 5], rfl, rfl⟩, ?_⟩
          refine JU.any [25] (by kernel_rfl) rfl ?_
          refine ⟨?_, trivial⟩
          refine JUo.mv (d := none) rfl (MV.storeEl 2 (gd x8 x14) rfl tk_3 rfl rfl h17 rfl) rfl rfl rfl ?_
          rintro _ _ ⟨rfl, rfl⟩
          refine ⟨fun _ => ⟨[0, 1, 3, 4, 5], rfl, rfl⟩, ?_⟩
          refine JU.any [26] (by kernel_rfl) rfl ?_
          refine ⟨?_, trivial⟩
          refine JUo.mv (d := some 31) rfl (MV.ofQV (v := .pointer (some (elA (s7.v) (Int.toNat x14 * ((Enc.int .i64)).sz)))) (QV.indexA (Rdg.of 2 rfl) Try.underlying25 tk_3 rfl rfl h18)) rfl rfl rfl ?_
          rintro _ _ ⟨rfl, rfl⟩
          refine ⟨fun _ => ⟨[0, 1, 3, 4, 5], rfl, rfl⟩, ?_⟩
          refine JU.any [27] (by kernel_rfl) rfl ?_
          refine ⟨?_, trivial⟩
          refine JUo.mv (d := none) rfl (MV.storeEl 2 (gd x8 x13) rfl tk_3 rfl rfl h18 rfl) rfl rfl rfl ?_
          rintro _ _ ⟨rfl, rfl⟩
          refine ⟨fun _ => ⟨[0, 1, 3, 4, 5], rfl, rfl⟩, ?_⟩
          refine JU.nil (by kernel_rfl) ?_
          exact QJ.cut_normal ((), ()) hm [1, 2, 3, 4, 5, 0] trivial rfl rfl
        ·
          refine JUo.mv (d := some 29) rfl (MV.ofQV (v := .int .i64 (gd x8 x13)) (QV.el1 (Rdg.of 2 rfl) tk_3 rfl h17 rfl)) rfl rfl rfl ?_
          rintro _ _ ⟨rfl, rfl⟩
          refine ⟨fun _ => ⟨[0, 1, 3, 4, 5], rfl, rfl⟩, ?_⟩
          refine JU.any [16] (by kernel_rfl) rfl ?_
          refine ⟨?_, trivial⟩
          refine JUo.mv (d := some 22) rfl (MV.ofQV (v := .int .i64 (gd x8 x14)) (QV.el1 (Rdg.of 2 rfl) tk_3 rfl h16 rfl)) rfl rfl rfl ?_
          rintro _ _ ⟨rfl, rfl⟩
          refine ⟨fun _ => ⟨[0, 1, 3, 4, 5], rfl, rfl⟩, ?_⟩
          refine JU.any [24] (by kernel_rfl) rfl ?_
          refine ⟨?_, trivial⟩
          refine JUo.mv (d := some 30) rfl (MV.ofQV (v := .pointer (some (elA (s7.v) (Int.toNat x13 * ((Enc.int .i64)).sz)))) (QV.indexA (Rdg.of 2 rfl) Try.underlying25 tk_3 rfl rfl h17)) rfl rfl rfl ?_
          rintro _ _ ⟨rfl, rfl⟩
          refine ⟨fun _ => ⟨[0, 1, 3, 4, 5], rfl, rfl⟩, ?_⟩
          refine JU.any [25] (by kernel_rfl) rfl ?_
          refine ⟨?_, trivial⟩
          refine JUo.mv (d := none) rfl (MV.storeEl 2 (gd x8 x14) rfl tk_3 rfl rfl h17 rfl) rfl rfl rfl ?_
          rintro _ _ ⟨rfl, rfl⟩
          refine ⟨fun _ => ⟨[0, 1, 3, 4, 5], rfl, rfl⟩, ?_⟩
          refine JU.any [26] (by kernel_rfl) rfl ?_
          refine ⟨?_, trivial⟩
          refine JUo.mv (d := some 31) rfl (MV.ofQV (v := .pointer (some (elA (s7.v) (Int.toNat x14 * ((Enc.int .i64)).sz)))) (QV.indexA (Rdg.of 2 rfl) Try.underlying25 tk_3 rfl rfl h18)) rfl rfl rfl ?_
          rintro _ _ ⟨rfl, rfl⟩
          refine ⟨fun _ => ⟨[0, 1, 3, 4, 5], rfl, rfl⟩, ?_⟩
          refine JU.any [27] (by kernel_rfl) rfl ?_
          refine ⟨?_, trivial⟩
          refine JUo.mv (d := none) rfl (MV.storeEl 2 (gd x8 x13) rfl tk_3 rfl rfl h18 rfl) rfl rfl rfl ?_
          rintro _ _ ⟨rfl, rfl⟩
          refine ⟨fun _ => ⟨[0, 1, 3, 4, 5], rfl, rfl⟩, ?_⟩
          refine JU.nil (by kernel_rfl) ?_
          exact QJ.cut_normal ((), ()) hm [1, 2, 3, 4, 5, 0] trivial rfl rfl
      ·
        refine JUo.mv (d := some 29) rfl (MV.ofQV (v := .int .i64 (gd x8 x13)) (QV.el1 (Rdg.of 2 rfl) tk_3 rfl h17 rfl)) rfl rfl rfl ?_
        rintro _ _ ⟨rfl, rfl⟩
        refine ⟨fun _ => ⟨[0, 1, 3, 4, 5], rfl, rfl⟩, ?_⟩
        refine JU.any [15] (by kernel_rfl) rfl ?_
        refine ⟨?_, trivial⟩
        refine JUo.mv (d := some 21) rfl (MV.ofQV (v := .pointer (some (elA (s7.v) (Int.toNat x14 * ((Enc.int .i64)).sz)))) (QV.indexA (Rdg.of 2 rfl) Try.underlying25 tk_3 rfl rfl h16)) rfl rfl rfl ?_
        rintro _ _ ⟨rfl, rfl⟩
        refine ⟨fun _ => ⟨[0, 1, 3, 4, 5], rfl, rfl⟩, ?_⟩
        refine JU.any [16] (by kernel_rfl) rfl ?_
        refine ⟨?_, trivial⟩
        refine JUo.mv (d := some 22) rfl (MV.ofQV (v := .int .i64 (gd x8 x14)) (QV.el1 (Rdg.of 2 rfl) tk_3 rfl h16 rfl)) rfl rfl rfl ?_
        rintro _ _ ⟨rfl, rfl⟩
        refine ⟨fun _ => ⟨[0, 1, 3, 4, 5], rfl, rfl⟩, ?_⟩
        refine JU.any [24] (by kernel_rfl) rfl ?_
        refine ⟨?_, trivial⟩
        refine JUo.mv (d := some 30) rfl (MV.ofQV (v := .pointer (some (elA (s7.v) (Int.toNat x13 * ((Enc.int .i64)).sz)))) (QV.indexA (Rdg.of 2 rfl) Try.underlying25 tk_3 rfl rfl h17)) rfl rfl rfl ?_
        rintro _ _ ⟨rfl, rfl⟩
        refine ⟨fun _ => ⟨[0, 1, 3, 4, 5], rfl, rfl⟩, ?_⟩
        refine JU.any [25] (by kernel_rfl) rfl ?_
        refine ⟨?_, trivial⟩
        refine JUo.mv (d := none) rfl (MV.storeEl 2 (gd x8 x14) rfl tk_3 rfl rfl h17 rfl) rfl rfl rfl ?_
        rintro _ _ ⟨rfl, rfl⟩
        refine ⟨fun _ => ⟨[0, 1, 3, 4, 5], rfl, rfl⟩, ?_⟩
        refine JU.any [26] (by kernel_rfl) rfl ?_
        refine ⟨?_, trivial⟩
        refine JUo.mv (d := some 31) rfl (MV.ofQV (v := .pointer (some (elA (s7.v) (Int.toNat x14 * ((Enc.int .i64)).sz)))) (QV.indexA (Rdg.of 2 rfl) Try.underlying25 tk_3 rfl rfl h18)) rfl rfl rfl ?_
        rintro _ _ ⟨rfl, rfl⟩
        refine ⟨fun _ => ⟨[0, 1, 3, 4, 5], rfl, rfl⟩, ?_⟩
        refine JU.any [27] (by kernel_rfl) rfl ?_
        refine ⟨?_, trivial⟩
        refine JUo.mv (d := none) rfl (MV.storeEl 2 (gd x8 x13) rfl tk_3 rfl rfl h18 rfl) rfl rfl rfl ?_
        rintro _ _ ⟨rfl, rfl⟩
        refine ⟨fun _ => ⟨[0, 1, 3, 4, 5], rfl, rfl⟩, ?_⟩
        refine JU.nil (by kernel_rfl) ?_
        exact QJ.cut_normal ((), ()) hm [1, 2, 3, 4, 5, 0] trivial rfl rfl

/-! ### 65: container/heap.up -/
noncomputable def F65.j1  (d15 : List Int) : Option (List Int) :=
  some d15
noncomputable def F65.b1 (x3 : List (List Int)) (x6 : List Int) (x10 : List Bool) (x12 : List Bool) : (List Int × Int) → Option ((List Int × Int) ⊕ (List Int))
  | (d16, d17) => (if (IntKind.wrap .i64 (Int.tdiv (IntKind.wrap .i64 (d17 - (1 : Int))) (2 : Int))) = d17 then some (.inr d16) else ((F113.m (x3) (x6) (d16) (x10) (x12) (d17) ((IntKind.wrap .i64 (Int.tdiv (IntKind.wrap .i64 (d17 - (1 : Int))) (2 : Int))))).bind fun y25 => (if y25 = true then ((F116.m (x3) (x6) (d16) (x10) (x12) ((IntKind.wrap .i64 (Int.tdiv (IntKind.wrap .i64 (d17 - (1 : Int))) (2 : Int)))) (d17)).bind fun y28 => some (.inl (y28, (IntKind.wrap .i64 (Int.tdiv (IntKind.wrap .i64 (d17 - (1 : Int))) (2 : Int)))))) else some (.inr d16))))
noncomputable def F65.m (x3 : List (List Int)) (x6 : List Int) (x8 : List Int) (x10 : List Bool) (x12 : List Bool) (x13 : Int) : Option (List Int) :=
  ((loop (F65.b1 x3 x6 x10 x12) (x8, x13)).bind fun y => match y with | d15 => F65.j1 (d15))
set_option maxRecDepth 100000 in
set_option maxHeartbeats 4000000 in
theorem F65.spec (b1 : Nat) (s2 : SlV) (z4 : List SlV) (s5 : SlV) (s7 : SlV) (s9 : SlV) (s11 : SlV) (x3 : List (List Int)) (x6 : List Int) (x8 : List Int) (x10 : List Bool) (x12 : List Bool) (x13 : Int) (r : (List Int)) (hm : F65.m x3 x6 x8 x10 x12 x13 = some r) :
    Ctr Try.prog true 65 [.iface 84 (.pointer (some ⟨b1, 2, none⟩)), .int .i64 x13] [Asr.blk b1 82 [Seg.c (s2.v), Seg.c (s5.v), Seg.c (s7.v), Seg.c (s9.v), Seg.c (s11.v)], Asr.of 3 (Enc.int .i64) (s5.v) x6, Asr.of 3 (Enc.int .i64) (s7.v) x8, Asr.of 4 Enc.bool (s9.v) x10, Asr.of 4 Enc.bool (s11.v) x12, Asr.vn (NE.sl (Enc.int .i64)) (s2.v) z4 x3] (fun v L' => v = .tuple #[] ∧ L' = [Asr.of 3 (Enc.int .i64) (s5.v) x6, Asr.of 3 (Enc.int .i64) (s7.v) r, Asr.of 4 Enc.bool (s9.v) x10, Asr.of 4 Enc.bool (s11.v) x12, Asr.vn (NE.sl (Enc.int .i64)) (s2.v) z4 x3, Asr.blk b1 82 [Seg.c (s2.v), Seg.c (s5.v), Seg.c (s7.v), Seg.c (s9.v), Seg.c (s11.v)]]) := by
  refine Ctr.intro (n := 23) (env := [(0, .iface 84 (.pointer (some ⟨b1, 2, none⟩))), (1, .int .i64 x13)]) Try.func65 rfl rfl rfl rfl (fun c => ?_)
  unfold F65.m at hm
  refine JC.cutK (Y := (List Int) × Unit) (fun y => match y with | (d15, _) => F65.j1 (d15) = some r) (fun y => match y with | (d15, _) => []) (fun y => match y with | (d15, _) => [Asr.of 3 (Enc.int .i64) (s5.v) x6, Asr.of 3 (Enc.int .i64) (s7.v) d15, Asr.of 4 Enc.bool (s9.v) x10, Asr.of 4 Enc.bool (s11.v) x12, Asr.vn (NE.sl (Enc.int .i64)) (s2.v) z4 x3, Asr.blk b1 82 [Seg.c (s2.v), Seg.c (s5.v), Seg.c (s7.v), Seg.c (s9.v), Seg.c (s11.v)]]) ?_ ?_
  ·
    rintro ⟨d15, ⟨⟩⟩ hm
    unfold F65.j1 at hm
    show QJ _ _ [] [Asr.of 3 (Enc.int .i64) (s5.v) x6, Asr.of 3 (Enc.int .i64) (s7.v) d15, Asr.of 4 Enc.bool (s9.v) x10, Asr.of 4 Enc.bool (s11.v) x12, Asr.vn (NE.sl (Enc.int .i64)) (s2.v) z4 x3, Asr.blk b1 82 [Seg.c (s2.v), Seg.c (s5.v), Seg.c (s7.v), Seg.c (s9.v), Seg.c (s11.v)]] _ _
    obtain rfl := Option.some.inj hm
    exact QJ.body (vs := []) (.inr rfl) rfl ResVs.nil [0, 1, 2, 3, 4, 5] rfl rfl (.inl rfl) ⟨rfl, rfl⟩
  ·
    refine JC.block ?_
    obtain ⟨y20, hl21, hmo22⟩ := bind_inv hm
    refine JC.loop (F65.b1 x3 x6 x10 x12) (fun x z => match x, z with | (d16, d17), _ => [(0, .iface 84 (.pointer (some ⟨b1, 2, none⟩))), (1, .int .i64 d17)]) (fun x z => match x, z with | (d16, d17), _ => [Asr.vn (NE.sl (Enc.int .i64)) (s2.v) z4 x3, Asr.of 3 (Enc.int .i64) (s5.v) x6, Asr.of 3 (Enc.int .i64) (s7.v) d16, Asr.of 4 Enc.bool (s9.v) x10, Asr.of 4 Enc.bool (s11.v) x12, Asr.blk b1 82 [Seg.c (s2.v), Seg.c (s5.v), Seg.c (s7.v), Seg.c (s9.v), Seg.c (s11.v)]]) (x8, x13) () y20 hl21 [5, 1, 2, 3, 4, 0] (by exact ⟨rfl, rfl, trivial⟩) rfl rfl ?_
    rintro ⟨d16, d17⟩ ⟨⟩ s23 hm
    unfold F65.b1 at hm
    dsimp only at hm
    show JC _ _ _ [(0, .iface 84 (.pointer (some ⟨b1, 2, none⟩))), (1, .int .i64 d17)] [Asr.vn (NE.sl (Enc.int .i64)) (s2.v) z4 x3, Asr.of 3 (Enc.int .i64) (s5.v) x6, Asr.of 3 (Enc.int .i64) (s7.v) d16, Asr.of 4 Enc.bool (s9.v) x10, Asr.of 4 Enc.bool (s11.v) x12, Asr.blk b1 82 [Seg.c (s2.v), Seg.c (s5.v), Seg.c (s7.v), Seg.c (s9.v), Seg.c (s11.v)]] _ _
    refine JC.block ?_
    refine JC.seq ?_
    refine JC.region ?_
    refine JL.val (v := .int .i64 d17) (QV.move rfl) rfl rfl rfl ?_
    refine JL.val (v := .int .i64 (IntKind.wrap .i64 (d17 - (1 : Int)))) (QV.sub rfl rfl) rfl rfl rfl ?_
    refine JL.val (v := .int .i64 (IntKind.wrap .i64 (Int.tdiv (IntKind.wrap .i64 (d17 - (1 : Int))) (2 : Int)))) (QV.quo rfl rfl (by decide)) rfl rfl rfl ?_
    refine JL.val (v := .int .i64 (IntKind.wrap .i64 (Int.tdiv (IntKind.wrap .i64 (d17 - (1 : Int))) (2 : Int)))) (QV.assign rfl) rfl rfl rfl ?_
    refine JL.nil ?_
    refine QJ.then_normal ?_
    refine JC.seq ?_
    refine JC.seq ?_
    refine JC.region ?_
    refine JL.val (v := .int .i64 (IntKind.wrap .i64 (Int.tdiv (IntKind.wrap .i64 (d17 - (1 : Int))) (2 : Int)))) (QV.move rfl) rfl rfl rfl ?_
    refine JL.val (v := .int .i64 d17) (QV.move rfl) rfl rfl rfl ?_
    refine JL.val (v := .bool (decide ((IntKind.wrap .i64 (Int.tdiv (IntKind.wrap .i64 (d17 - (1 : Int))) (2 : Int))) = d17))) (QV.eql rfl rfl) rfl rfl rfl ?_
    rcases ite_inv hm with ⟨h24, hm⟩ | ⟨h24, hm⟩
    ·
      refine JL.val (v := .bool true) (QV.eq (QV.move rfl) (congrArg Value.bool (decide_eq_true h24))) rfl rfl rfl ?_
      refine JL.skip (d := some 12) rfl rfl rfl ?_
      refine JL.skip (d := some 13) rfl rfl rfl ?_
      refine JL.skip (d := some 14) rfl rfl rfl ?_
      refine JL.skip (d := some 15) rfl rfl rfl ?_
      refine JL.skip (d := some 16) rfl rfl rfl ?_
      refine JL.val (v := .bool true) (QV.pickT rfl rfl) rfl rfl rfl ?_
      refine JL.nil ?_
      refine QJ.then_normal ?_
      refine JC.condT rfl ?_
      refine JC.exit ?_
      refine QJ.then_exit ?_
      refine QJ.block_miss rfl ?_
      obtain rfl := Option.some.inj hm
      refine QJ.round_exit (fun hy => ?_)
      subst hy
      refine QJ.block_hit ?_
      exact QJ.cut_normal (d16, ()) hmo22 [1, 2, 3, 4, 0, 5] trivial rfl rfl
    ·
      refine JL.val (v := .bool false) (QV.eq (QV.move rfl) (congrArg Value.bool (decide_eq_false h24))) rfl rfl rfl ?_
      refine JL.val (v := .iface 84 (.pointer (some ⟨b1, 2, none⟩))) (QV.move rfl) rfl rfl rfl ?_
      refine JL.val (v := .int .i64 d17) (QV.move rfl) rfl rfl rfl ?_
      refine JL.val (v := .int .i64 (IntKind.wrap .i64 (Int.tdiv (IntKind.wrap .i64 (d17 - (1 : Int))) (2 : Int)))) (QV.move rfl) rfl rfl rfl ?_
      obtain ⟨y25, hc26, hm⟩ := bind_inv hm
      refine JL.mv (d := some 15) (MV.callI (Lo := [Asr.blk b1 82 [Seg.c (s2.v), Seg.c (s5.v), Seg.c (s7.v), Seg.c (s9.v), Seg.c (s11.v)], Asr.of 3 (Enc.int .i64) (s5.v) x6, Asr.of 3 (Enc.int .i64) (s7.v) d16, Asr.of 4 Enc.bool (s9.v) x10, Asr.of 4 Enc.bool (s11.v) x12]) (Lr := [Asr.vn (NE.sl (Enc.int .i64)) (s2.v) z4 x3]) (F113.spec (b1) (s2) (z4) (s5) (s7) (s9) (s11) (x3) (x6) (d16) (x10) (x12) (d17) ((IntKind.wrap .i64 (Int.tdiv (IntKind.wrap .i64 (d17 - (1 : Int))) (2 : Int)))) _ hc26) rfl rfl rfl me_84_Less Try.func113 rfl rfl rfl [5, 1, 2, 3, 4] [0] rfl rfl rfl ⟨(Drv.vn 0 rfl), trivial⟩) rfl rfl rfl ?_
      rintro _ _ ⟨_, ⟨rfl, rfl⟩, rfl⟩
      refine JL.val (v := .bool (!y25)) (QV.not rfl) rfl rfl rfl ?_
      refine JL.val (v := .bool (!y25)) (QV.pickF rfl rfl) rfl rfl rfl ?_
      refine JL.nil ?_
      refine QJ.then_normal ?_
      rcases ite_inv hm with ⟨h27, hm⟩ | ⟨h27, hm⟩
      ·
        refine JC.condF' rfl (congrArg Bool.not h27) ?_
        refine JC.skip ?_
        refine QJ.then_normal ?_
        refine JC.seq ?_
        refine JC.region ?_
        refine JL.val (v := .iface 84 (.pointer (some ⟨b1, 2, none⟩))) (QV.move rfl) rfl rfl rfl ?_
        refine JL.val (v := .int .i64 (IntKind.wrap .i64 (Int.tdiv (IntKind.wrap .i64 (d17 - (1 : Int))) (2 : Int)))) (QV.move rfl) rfl rfl rfl ?_
        refine JL.val (v := .int .i64 d17) (QV.move rfl) rfl rfl rfl ?_
        obtain ⟨y28, hc29, hm⟩ := bind_inv hm
        refine JL.mv (d := some 21) (MV.callI (Lo := [Asr.blk b1 82 [Seg.c (s2.v), Seg.c (s5.v), Seg.c (s7.v), Seg.c (s9.v), Seg.c (s11.v)], Asr.of 3 (Enc.int .i64) (s5.v) x6, Asr.of 3 (Enc.int .i64) (s7.v) d16, Asr.of 4 Enc.bool (s9.v) x10, Asr.of 4 Enc.bool (s11.v) x12]) (Lr := [Asr.vn (NE.sl (Enc.int .i64)) (s2.v) z4 x3, Asr.vn (NE.sl (Enc.int .i64)) (s2.v) z4 x3]) (F116.spec (b1) (s2) (z4) (s5) (s7) (s9) (s11) (x3) (x6) (d16) (x10) (x12) ((IntKind.wrap .i64 (Int.tdiv (IntKind.wrap .i64 (d17 - (1 : Int))) (2 : Int)))) (d17) _ hc29) rfl rfl rfl me_84_Swap Try.func116 rfl rfl rfl [5, 0, 1, 2, 3] [4, 6] rfl rfl rfl ⟨(Drv.vn 0 rfl), trivial⟩) rfl rfl rfl ?_
        rintro _ _ ⟨_, ⟨rfl, rfl⟩, rfl⟩
        refine JL.nil ?_
        refine QJ.then_normal ?_
        refine JC.region ?_
        refine JL.val (v := .int .i64 (IntKind.wrap .i64 (Int.tdiv (IntKind.wrap .i64 (d17 - (1 : Int))) (2 : Int)))) (QV.move rfl) rfl rfl rfl ?_
        refine JL.val (v := .int .i64 (IntKind.wrap .i64 (Int.tdiv (IntKind.wrap .i64 (d17 - (1 : Int))) (2 : Int)))) (QV.assign rfl) rfl rfl rfl ?_
        refine JL.nil ?_
        refine QJ.block_normal ?_
        obtain rfl := Option.some.inj hm
        exact QJ.round_on (y28, (IntKind.wrap .i64 (Int.tdiv (IntKind.wrap .i64 (d17 - (1 : Int))) (2 : Int)))) () [4, 0, 1, 2, 3, 5] (by exact ⟨rfl, rfl, trivial⟩) rfl rfl
      ·
        refine JC.condT' rfl (congrArg Bool.not (bfalse h27)) ?_
        refine JC.exit ?_
        refine QJ.then_exit ?_
        refine QJ.block_miss rfl ?_
        obtain rfl := Option.some.inj hm
        refine QJ.round_exit (fun hy => ?_)
        subst hy
        refine QJ.block_hit ?_
        exact QJ.cut_normal (d16, ()) hmo22 [0, 1, 2, 3, 4, 5] trivial rfl rfl

/-! ### 40: container/heap.Push -/
noncomputable def F40.m (x3 : List (List Int)) (x6 : List Int) (x8 : List Int) (x10 : List Bool) (x12 : List Bool) (x13 : Int) : Option (List Int) :=
  ((F115.m (x3) (x6) (x8) (x10) (x12) (x13)).bind fun y16 => ((F41.m (x3) (x6) (y16) (x10) (x12)).bind fun y19 => ((F65.m (x3) (x6) (y16) (x10) (x12) ((IntKind.wrap .i64 (y19 - (1 : Int))))).bind fun y21 => some y21)))
set_option maxRecDepth 100000 in
set_option maxHeartbeats 4000000 in
theorem F40.spec (b1 : Nat) (s2 : SlV) (z4 : List SlV) (s5 : SlV) (s7 : SlV) (s9 : SlV) (s11 : SlV) (x3 : List (List Int)) (x6 : List Int) (x8 : List Int) (x10 : List Bool) (x12 : List Bool) (x13 : Int) (r : (List Int)) (hm : F40.m x3 x6 x8 x10 x12 x13 = some r) :
    Ctr Try.prog true 40 [.iface 84 (.pointer (some ⟨b1, 2, none⟩)), .iface 3 (.int .i64 x13)] [Asr.blk b1 82 [Seg.c (s2.v), Seg.c (s5.v), Seg.c (s7.v), Seg.c (s9.v), Seg.c (s11.v)], Asr.of 3 (Enc.int .i64) (s5.v) x6, Asr.of 3 (Enc.int .i64) (s7.v) x8, Asr.of 4 Enc.bool (s9.v) x10, Asr.of 4 Enc.bool (s11.v) x12, Asr.vn (NE.sl (Enc.int .i64)) (s2.v) z4 x3] (fun v L' => ∃ (g14 : SlV), v = .tuple #[] ∧ L' = [Asr.of 3 (Enc.int .i64) (s5.v) x6, Asr.of 3 (Enc.int .i64) (g14.v) r, Asr.of 4 Enc.bool (s9.v) x10, Asr.of 4 Enc.bool (s11.v) x12, Asr.vn (NE.sl (Enc.int .i64)) (s2.v) z4 x3, Asr.blk b1 82 [Seg.c (s2.v), Seg.c (s5.v), Seg.c (g14.v), Seg.c (s9.v), Seg.c (s11.v)]]) := by
  refine Ctr.intro (n := 12) (env := [(0, .iface 84 (.pointer (some ⟨b1, 2, none⟩))), (1, .iface 3 (.int .i64 x13))]) Try.func40 rfl rfl rfl rfl (fun c => ?_)
  unfold F40.m at hm
  refine JC.seq ?_
  refine JC.region ?_
  refine JL.val (v := .iface 84 (.pointer (some ⟨b1, 2, none⟩))) (QV.move rfl) rfl rfl rfl ?_
  refine JL.val (v := .iface 3 (.int .i64 x13)) (QV.move rfl) rfl rfl rfl ?_
  obtain ⟨y16, hc17, hm⟩ := bind_inv hm
  refine JL.mv (d := some 6) (MV.callI (Lo := [Asr.blk b1 82 [Seg.c (s2.v), Seg.c (s5.v), Seg.c (s7.v), Seg.c (s9.v), Seg.c (s11.v)], Asr.of 3 (Enc.int .i64) (s5.v) x6, Asr.of 3 (Enc.int .i64) (s7.v) x8, Asr.of 4 Enc.bool (s9.v) x10, Asr.of 4 Enc.bool (s11.v) x12]) (Lr := [Asr.vn (NE.sl (Enc.int .i64)) (s2.v) z4 x3]) (F115.spec (b1) (s2) (z4) (s5) (s7) (s9) (s11) (x3) (x6) (x8) (x10) (x12) (x13) _ hc17) rfl rfl rfl me_84_Push Try.func115 rfl rfl rfl [0, 1, 2, 3, 4] [5] rfl rfl rfl ⟨(Drv.vn 0 rfl), trivial⟩) rfl rfl rfl ?_
  rintro _ _ ⟨_, ⟨z18, rfl, rfl⟩, rfl⟩
  refine JL.nil ?_
  refine QJ.then_normal ?_
  refine JC.region ?_
  refine JL.val (v := .iface 84 (.pointer (some ⟨b1, 2, none⟩))) (QV.move rfl) rfl rfl rfl ?_
  refine JL.val (v := .iface 84 (.pointer (some ⟨b1, 2, none⟩))) (QV.move rfl) rfl rfl rfl ?_
  obtain ⟨y19, hc20, hm⟩ := bind_inv hm
  refine JL.mv (d := some 9) (MV.callI (Lo := [Asr.blk b1 82 [Seg.c (s2.v), Seg.c (s5.v), Seg.c (z18.v), Seg.c (s9.v), Seg.c (s11.v)], Asr.of 3 (Enc.int .i64) (s5.v) x6, Asr.of 3 (Enc.int .i64) (z18.v) y16, Asr.of 4 Enc.bool (s9.v) x10, Asr.of 4 Enc.bool (s11.v) x12]) (Lr := [Asr.vn (NE.sl (Enc.int .i64)) (s2.v) z4 x3, Asr.vn (NE.sl (Enc.int .i64)) (s2.v) z4 x3]) (F41.spec (b1) (s2) (z4) (s5) (z18) (s9) (s11) (x3) (x6) (y16) (x10) (x12) _ hc20) rfl rfl rfl me_84_Len Try.func41 rfl rfl rfl [5, 0, 1, 2, 3] [4, 6] rfl rfl rfl ⟨(Drv.vn 0 rfl), trivial⟩) rfl rfl rfl ?_
  rintro _ _ ⟨_, ⟨rfl, rfl⟩, rfl⟩
  refine JL.val (v := .int .i64 (IntKind.wrap .i64 (y19 - (1 : Int)))) (QV.sub rfl rfl) rfl rfl rfl ?_
  obtain ⟨y21, hc22, hm⟩ := bind_inv hm
  refine JL.mv (d := some 11) (MV.call (Lo := [Asr.blk b1 82 [Seg.c (s2.v), Seg.c (s5.v), Seg.c (z18.v), Seg.c (s9.v), Seg.c (s11.v)], Asr.of 3 (Enc.int .i64) (s5.v) x6, Asr.of 3 (Enc.int .i64) (z18.v) y16, Asr.of 4 Enc.bool (s9.v) x10, Asr.of 4 Enc.bool (s11.v) x12]) (Lr := [Asr.vn (NE.sl (Enc.int .i64)) (s2.v) z4 x3, Asr.vn (NE.sl (Enc.int .i64)) (s2.v) z4 x3, Asr.vn (NE.sl (Enc.int .i64)) (s2.v) z4 x3]) (F65.spec (b1) (s2) (z4) (s5) (z18) (s9) (s11) (x3) (x6) (y16) (x10) (x12) ((IntKind.wrap .i64 (y19 - (1 : Int)))) _ hc22) rfl Try.func65 rfl rfl rfl [5, 0, 1, 2, 3] [4, 6, 7] rfl rfl rfl ⟨(Drv.vn 0 rfl), trivial⟩) rfl rfl rfl ?_
  rintro _ _ ⟨_, ⟨rfl, rfl⟩, rfl⟩
  refine JL.nil ?_
  obtain rfl := Option.some.inj hm
  exact QJ.body (vs := []) (.inr rfl) rfl ResVs.nil [0, 1, 2, 3, 4, 5] rfl rfl (.inl rfl) ⟨z18, rfl, rfl⟩

/-! ### 66: container/heap.down -/
noncomputable def F66.j1 (x13 : Int) (d17 : Int) (d18 : List Int) : Option (Bool × List Int) :=
  some ((decide (x13 < d17)), d18)
noncomputable def F66.j2  (d27 : List Int) (d28 : Int) : Option ((List Int × Int) ⊕ (Int × List Int)) :=
  some (.inl (d27, d28))
noncomputable def F66.j3 (x3 : List (List Int)) (x6 : List Int) (x10 : List Bool) (x12 : List Bool) (d19 : List Int) (d20 : Int) (d34 : Int) : Option ((List Int × Int) ⊕ (Int × List Int)) :=
  ((F113.m (x3) (x6) (d19) (x10) (x12) (d34) (d20)).bind fun y35 => (if y35 = true then ((F116.m (x3) (x6) (d19) (x10) (x12) (d20) (d34)).bind fun y38 => F66.j2 (y38) (d34)) else some (.inr (d20, d19))))
noncomputable def F66.b1 (x3 : List (List Int)) (x6 : List Int) (x10 : List Bool) (x12 : List Bool) (x14 : Int) : (List Int × Int) → Option ((List Int × Int) ⊕ (Int × List Int))
  | (d19, d20) => (if x14 ≤ (IntKind.wrap .i64 ((IntKind.wrap .i64 ((2 : Int) * d20)) + (1 : Int))) then some (.inr (d20, d19)) else (if (IntKind.wrap .i64 ((IntKind.wrap .i64 ((2 : Int) * d20)) + (1 : Int))) < (0 : Int) then some (.inr (d20, d19)) else (if (IntKind.wrap .i64 ((IntKind.wrap .i64 ((IntKind.wrap .i64 ((2 : Int) * d20)) + (1 : Int))) + (1 : Int))) < x14 then ((F113.m (x3) (x6) (d19) (x10) (x12) ((IntKind.wrap .i64 ((IntKind.wrap .i64 ((IntKind.wrap .i64 ((2 : Int) * d20)) + (1 : Int))) + (1 : Int)))) ((IntKind.wrap .i64 ((IntKind.wrap .i64 ((2 : Int) * d20)) + (1 : Int))))).bind fun y32 => (if y32 = true then F66.j3 x3 x6 x10 x12 d19 d20 ((IntKind.wrap .i64 ((IntKind.wrap .i64 ((IntKind.wrap .i64 ((2 : Int) * d20)) + (1 : Int))) + (1 : Int)))) else F66.j3 x3 x6 x10 x12 d19 d20 ((IntKind.wrap .i64 ((IntKind.wrap .i64 ((2 : Int) * d20)) + (1 : Int)))))) else ((F113.m (x3) (x6) (d19) (x10) (x12) ((IntKind.wrap .i64 ((IntKind.wrap .i64 ((2 : Int) * d20)) + (1 : Int)))) (d20)).bind fun y41 => (if y41 = true then ((F116.m (x3) (x6) (d19) (x10) (x12) (d20) ((IntKind.wrap .i64 ((IntKind.wrap .i64 ((2 : Int) * d20)) + (1 : Int))))).bind fun y44 => F66.j2 (y44) ((IntKind.wrap .i64 ((IntKind.wrap .i64 ((2 : Int) * d20)) + (1 : Int))))) else some (.inr (d20, d19)))))))
noncomputable def F66.m (x3 : List (List Int)) (x6 : List Int) (x8 : List Int) (x10 : List Bool) (x12 : List Bool) (x13 : Int) (x14 : Int) : Option (Bool × List Int) :=
  ((loop (F66.b1 x3 x6 x10 x12 x14) (x8, x13)).bind fun y => match y with | (d17, d18) => F66.j1 x13 (d17) (d18))
set_option maxRecDepth 100000 in
set_option maxHeartbeats 4000000 in
theorem F66.spec (b1 : Nat) (s2 : SlV) (z4 : List SlV) (s5 : SlV) (s7 : SlV) (s9 : SlV) (s11 : SlV) (x3 : List (List Int)) (x6 : List Int) (x8 : List Int) (x10 : List Bool) (x12 : List Bool) (x13 : Int) (x14 : Int) (r : (Bool × List Int)) (hm : F66.m x3 x6 x8 x10 x12 x13 x14 = some r) :
    Ctr Try.prog true 66 [.iface 84 (.pointer (some ⟨b1, 2, none⟩)), .int .i64 x13, .int .i64 x14] [Asr.blk b1 82 [Seg.c (s2.v), Seg.c (s5.v), Seg.c (s7.v), Seg.c (s9.v), Seg.c (s11.v)], Asr.of 3 (Enc.int .i64) (s5.v) x6, Asr.of 3 (Enc.int .i64) (s7.v) x8, Asr.of 4 Enc.bool (s9.v) x10, Asr.of 4 Enc.bool (s11.v) x12, Asr.vn (NE.sl (Enc.int .i64)) (s2.v) z4 x3] (fun v L' => v = .bool r.1 ∧ L' = [Asr.of 3 (Enc.int .i64) (s5.v) x6, Asr.of 3 (Enc.int .i64) (s7.v) r.2, Asr.of 4 Enc.bool (s9.v) x10, Asr.of 4 Enc.bool (s11.v) x12, Asr.vn (NE.sl (Enc.int .i64)) (s2.v) z4 x3, Asr.blk b1 82 [Seg.c (s2.v), Seg.c (s5.v), Seg.c (s7.v), Seg.c (s9.v), Seg.c (s11.v)]]) := by
  refine Ctr.intro (n := 48) (env := [(0, .iface 84 (.pointer (some ⟨b1, 2, none⟩))), (1, .int .i64 x13), (2, .int .i64 x14)]) Try.func66 rfl rfl rfl rfl (fun c => ?_)
  unfold F66.m at hm
  refine JC.seq ?_
  refine JC.region ?_
  refine JL.val (v := .bool false) (QV.assign rfl) rfl rfl rfl ?_
  refine JL.nil ?_
  refine QJ.then_normal ?_
  refine JC.seq ?_
  refine JC.region ?_
  refine JL.val (v := .int .i64 x13) (QV.move rfl) rfl rfl rfl ?_
  refine JL.val (v := .int .i64 x13) (QV.assign rfl) rfl rfl rfl ?_
  refine JL.nil ?_
  refine QJ.then_normal ?_
  refine JC.seq ?_
  refine JC.cutK (Y := (Int × List Int) × Unit) (fun y => match y with | ((d17, d18), _) => F66.j1 x13 (d17) (d18) = some r) (fun y => match y with | ((d17, d18), _) => [(1, .int .i64 x13), (7, .int .i64 d17)]) (fun y => match y with | ((d17, d18), _) => [Asr.of 3 (Enc.int .i64) (s5.v) x6, Asr.of 3 (Enc.int .i64) (s7.v) d18, Asr.of 4 Enc.bool (s9.v) x10, Asr.of 4 Enc.bool (s11.v) x12, Asr.vn (NE.sl (Enc.int .i64)) (s2.v) z4 x3, Asr.blk b1 82 [Seg.c (s2.v), Seg.c (s5.v), Seg.c (s7.v), Seg.c (s9.v), Seg.c (s11.v)]]) ?_ ?_
  ·
    rintro ⟨⟨d17, d18⟩, ⟨⟩⟩ hm
    unfold F66.j1 at hm
    show QJ _ _ [(1, .int .i64 x13), (7, .int .i64 d17)] [Asr.of 3 (Enc.int .i64) (s5.v) x6, Asr.of 3 (Enc.int .i64) (s7.v) d18, Asr.of 4 Enc.bool (s9.v) x10, Asr.of 4 Enc.bool (s11.v) x12, Asr.vn (NE.sl (Enc.int .i64)) (s2.v) z4 x3, Asr.blk b1 82 [Seg.c (s2.v), Seg.c (s5.v), Seg.c (s7.v), Seg.c (s9.v), Seg.c (s11.v)]] _ _
    refine QJ.then_normal ?_
    refine JC.seq ?_
    refine JC.region ?_
    refine JL.val (v := .int .i64 d17) (QV.move rfl) rfl rfl rfl ?_
    refine JL.val (v := .int .i64 x13) (QV.move rfl) rfl rfl rfl ?_
    refine JL.val (v := .bool (decide (x13 < d17))) (QV.gtr rfl rfl) rfl rfl rfl ?_
    refine JL.val (v := .bool (decide (x13 < d17))) (QV.assign rfl) rfl rfl rfl ?_
    refine JL.nil ?_
    refine QJ.then_normal ?_
    refine JC.ret ?_
    obtain rfl := Option.some.inj hm
    exact QJ.body (vs := [.bool (decide (x13 < d17))]) (.inl rfl) rfl (ResVs.cons (ResV.tmp rfl) ResVs.nil) [0, 1, 2, 3, 4, 5] rfl rfl (.inl rfl) ⟨rfl, rfl⟩
  ·
    refine JC.block ?_
    obtain ⟨y23, hl24, hmo25⟩ := bind_inv hm
    refine JC.loop (F66.b1 x3 x6 x10 x12 x14) (fun x z => match x, z with | (d19, d20), _ => [(0, .iface 84 (.pointer (some ⟨b1, 2, none⟩))), (1, .int .i64 x13), (2, .int .i64 x14), (7, .int .i64 d20)]) (fun x z => match x, z with | (d19, d20), _ => [Asr.vn (NE.sl (Enc.int .i64)) (s2.v) z4 x3, Asr.of 3 (Enc.int .i64) (s5.v) x6, Asr.of 3 (Enc.int .i64) (s7.v) d19, Asr.of 4 Enc.bool (s9.v) x10, Asr.of 4 Enc.bool (s11.v) x12, Asr.blk b1 82 [Seg.c (s2.v), Seg.c (s5.v), Seg.c (s7.v), Seg.c (s9.v), Seg.c (s11.v)]]) (x8, x13) () y23 hl24 [5, 1, 2, 3, 4, 0] (by exact ⟨rfl, rfl, rfl, rfl, trivial⟩) rfl rfl ?_
    rintro ⟨d19, d20⟩ ⟨⟩ s26 hm
    unfold F66.b1 at hm
    dsimp only at hm
    show JC _ _ _ [(0, .iface 84 (.pointer (some ⟨b1, 2, none⟩))), (1, .int .i64 x13), (2, .int .i64 x14), (7, .int .i64 d20)] [Asr.vn (NE.sl (Enc.int .i64)) (s2.v) z4 x3, Asr.of 3 (Enc.int .i64) (s5.v) x6, Asr.of 3 (Enc.int .i64) (s7.v) d19, Asr.of 4 Enc.bool (s9.v) x10, Asr.of 4 Enc.bool (s11.v) x12, Asr.blk b1 82 [Seg.c (s2.v), Seg.c (s5.v), Seg.c (s7.v), Seg.c (s9.v), Seg.c (s11.v)]] _ _
    refine JC.cutK (Y := (List Int × Int) × Unit) (fun y => match y with | ((d27, d28), _) => F66.j2 (d27) (d28) = some s26) (fun y => match y with | ((d27, d28), _) => [(0, .iface 84 (.pointer (some ⟨b1, 2, none⟩))), (1, .int .i64 x13), (2, .int .i64 x14), (7, .int .i64 d28)]) (fun y => match y with | ((d27, d28), _) => [Asr.vn (NE.sl (Enc.int .i64)) (s2.v) z4 x3, Asr.of 3 (Enc.int .i64) (s5.v) x6, Asr.of 3 (Enc.int .i64) (s7.v) d27, Asr.of 4 Enc.bool (s9.v) x10, Asr.of 4 Enc.bool (s11.v) x12, Asr.blk b1 82 [Seg.c (s2.v), Seg.c (s5.v), Seg.c (s7.v), Seg.c (s9.v), Seg.c (s11.v)]]) ?_ ?_
    ·
      rintro ⟨⟨d27, d28⟩, ⟨⟩⟩ hm
      unfold F66.j2 at hm
      show QJ _ _ [(0, .iface 84 (.pointer (some ⟨b1, 2, none⟩))), (1, .int .i64 x13), (2, .int .i64 x14), (7, .int .i64 d28)] [Asr.vn (NE.sl (Enc.int .i64)) (s2.v) z4 x3, Asr.of 3 (Enc.int .i64) (s5.v) x6, Asr.of 3 (Enc.int .i64) (s7.v) d27, Asr.of 4 Enc.bool (s9.v) x10, Asr.of 4 Enc.bool (s11.v) x12, Asr.blk b1 82 [Seg.c (s2.v), Seg.c (s5.v), Seg.c (s7.v), Seg.c (s9.v), Seg.c (s11.v)]] _ _
      obtain rfl := Option.some.inj hm
      exact QJ.round_on (d27, d28) () [0, 1, 2, 3, 4, 5] (by exact ⟨rfl, rfl, rfl, rfl, trivial⟩) rfl rfl
    ·
      refine JC.block ?_
      refine JC.seq ?_
      refine JC.region ?_
      refine JL.val (v := .int .i64 d20) (QV.move rfl) rfl rfl rfl ?_
      refine JL.val (v := .int .i64 (IntKind.wrap .i64 ((2 : Int) * d20))) (QV.mul rfl rfl) rfl rfl rfl ?_
      refine JL.val (v := .int .i64 (IntKind.wrap .i64 ((IntKind.wrap .i64 ((2 : Int) * d20)) + (1 : Int)))) (QV.add rfl rfl) rfl rfl rfl ?_
      refine JL.val (v := .int .i64 (IntKind.wrap .i64 ((IntKind.wrap .i64 ((2 : Int) * d20)) + (1 : Int)))) (QV.assign rfl) rfl rfl rfl ?_
      refine JL.nil ?_
      refine QJ.then_normal ?_
      refine JC.seq ?_
      refine JC.seq ?_
      refine JC.region ?_
      refine JL.val (v := .int .i64 (IntKind.wrap .i64 ((IntKind.wrap .i64 ((2 : Int) * d20)) + (1 : Int)))) (QV.move rfl) rfl rfl rfl ?_
      refine JL.val (v := .int .i64 x14) (QV.move rfl) rfl rfl rfl ?_
      refine JL.val (v := .bool (decide (x14 ≤ (IntKind.wrap .i64 ((IntKind.wrap .i64 ((2 : Int) * d20)) + (1 : Int)))))) (QV.geq rfl rfl) rfl rfl rfl ?_
      rcases ite_inv hm with ⟨h29, hm⟩ | ⟨h29, hm⟩
      ·
        refine JL.val (v := .bool true) (QV.eq (QV.move rfl) (congrArg Value.bool (decide_eq_true h29))) rfl rfl rfl ?_
        refine JL.skip (d := some 19) rfl rfl rfl ?_
        refine JL.skip (d := some 20) rfl rfl rfl ?_
        refine JL.val (v := .bool true) (QV.pickT rfl rfl) rfl rfl rfl ?_
        refine JL.nil ?_
        refine QJ.then_normal ?_
        refine JC.condT rfl ?_
        refine JC.exit ?_
        refine QJ.then_exit ?_
        refine QJ.block_miss rfl ?_
        refine QJ.cut_exit ?_
        obtain rfl := Option.some.inj hm
        refine QJ.round_exit (fun hy => ?_)
        subst hy
        refine QJ.block_hit ?_
        exact QJ.cut_normal ((d20, d19), ()) hmo25 [1, 2, 3, 4, 0, 5] (by exact ⟨rfl, rfl, trivial⟩) rfl rfl
      ·
        refine JL.val (v := .bool false) (QV.eq (QV.move rfl) (congrArg Value.bool (decide_eq_false h29))) rfl rfl rfl ?_
        refine JL.val (v := .int .i64 (IntKind.wrap .i64 ((IntKind.wrap .i64 ((2 : Int) * d20)) + (1 : Int)))) (QV.move rfl) rfl rfl rfl ?_
        refine JL.val (v := .bool (decide ((IntKind.wrap .i64 ((IntKind.wrap .i64 ((2 : Int) * d20)) + (1 : Int))) < (0 : Int)))) (QV.lss rfl rfl) rfl rfl rfl ?_
        refine JL.val (v := .bool (decide ((IntKind.wrap .i64 ((IntKind.wrap .i64 ((2 : Int) * d20)) + (1 : Int))) < (0 : Int)))) (QV.pickF rfl rfl) rfl rfl rfl ?_
        refine JL.nil ?_
        refine QJ.then_normal ?_
        rcases ite_inv hm with ⟨h30, hm⟩ | ⟨h30, hm⟩
        ·
          refine JC.condT' rfl (decide_eq_true h30) ?_
          refine JC.exit ?_
          refine QJ.then_exit ?_
          refine QJ.block_miss rfl ?_
          refine QJ.cut_exit ?_
          obtain rfl := Option.some.inj hm
          refine QJ.round_exit (fun hy => ?_)
          subst hy
          refine QJ.block_hit ?_
          exact QJ.cut_normal ((d20, d19), ()) hmo25 [1, 2, 3, 4, 0, 5] (by exact ⟨rfl, rfl, trivial⟩) rfl rfl
        ·
          refine JC.condF' rfl (decide_eq_false h30) ?_
          refine JC.skip ?_
          refine QJ.then_normal ?_
          refine JC.seq ?_
          refine JC.region ?_
          refine JL.val (v := .int .i64 (IntKind.wrap .i64 ((IntKind.wrap .i64 ((2 : Int) * d20)) + (1 : Int)))) (QV.move rfl) rfl rfl rfl ?_
          refine JL.val (v := .int .i64 (IntKind.wrap .i64 ((IntKind.wrap .i64 ((2 : Int) * d20)) + (1 : Int)))) (QV.assign rfl) rfl rfl rfl ?_
          refine JL.nil ?_
          refine QJ.then_normal ?_
          refine JC.seq ?_
          refine JC.seq ?_
          refine JC.region ?_
          refine JL.val (v := .int .i64 (IntKind.wrap .i64 ((IntKind.wrap .i64 ((2 : Int) * d20)) + (1 : Int)))) (QV.move rfl) rfl rfl rfl ?_
          refine JL.val (v := .int .i64 (IntKind.wrap .i64 ((IntKind.wrap .i64 ((IntKind.wrap .i64 ((2 : Int) * d20)) + (1 : Int))) + (1 : Int)))) (QV.add rfl rfl) rfl rfl rfl ?_
          refine JL.val (v := .int .i64 (IntKind.wrap .i64 ((IntKind.wrap .i64 ((IntKind.wrap .i64 ((2 : Int) * d20)) + (1 : Int))) + (1 : Int)))) (QV.assign rfl) rfl rfl rfl ?_
          refine JL.nil ?_
          refine QJ.then_normal ?_
          refine JC.seq ?_
          refine JC.region ?_
          refine JL.val (v := .int .i64 (IntKind.wrap .i64 ((IntKind.wrap .i64 ((IntKind.wrap .i64 ((2 : Int) * d20)) + (1 : Int))) + (1 : Int)))) (QV.move rfl) rfl rfl rfl ?_
          refine JL.val (v := .int .i64 x14) (QV.move rfl) rfl rfl rfl ?_
          refine JL.val (v := .bool (decide ((IntKind.wrap .i64 ((IntKind.wrap .i64 ((IntKind.wrap .i64 ((2 : Int) * d20)) + (1 : Int))) + (1 : Int))) < x14))) (QV.lss rfl rfl) rfl rfl rfl ?_
          rcases ite_inv hm with ⟨h31, hm⟩ | ⟨h31, hm⟩
          ·
            refine JL.val (v := .bool true) (QV.eq (QV.move rfl) (congrArg Value.bool (decide_eq_true h31))) rfl rfl rfl ?_
            refine JL.val (v := .iface 84 (.pointer (some ⟨b1, 2, none⟩))) (QV.move rfl) rfl rfl rfl ?_
            refine JL.val (v := .int .i64 (IntKind.wrap .i64 ((IntKind.wrap .i64 ((IntKind.wrap .i64 ((2 : Int) * d20)) + (1 : Int))) + (1 : Int)))) (QV.move rfl) rfl rfl rfl ?_
            refine JL.val (v := .int .i64 (IntKind.wrap .i64 ((IntKind.wrap .i64 ((2 : Int) * d20)) + (1 : Int)))) (QV.move rfl) rfl rfl rfl ?_
            obtain ⟨y32, hc33, hm⟩ := bind_inv hm
            refine JL.mv (d := some 32) (MV.callI (Lo := [Asr.blk b1 82 [Seg.c (s2.v), Seg.c (s5.v), Seg.c (s7.v), Seg.c (s9.v), Seg.c (s11.v)], Asr.of 3 (Enc.int .i64) (s5.v) x6, Asr.of 3 (Enc.int .i64) (s7.v) d19, Asr.of 4 Enc.bool (s9.v) x10, Asr.of 4 Enc.bool (s11.v) x12]) (Lr := [Asr.vn (NE.sl (Enc.int .i64)) (s2.v) z4 x3]) (F113.spec (b1) (s2) (z4) (s5) (s7) (s9) (s11) (x3) (x6) (d19) (x10) (x12) ((IntKind.wrap .i64 ((IntKind.wrap .i64 ((IntKind.wrap .i64 ((2 : Int) * d20)) + (1 : Int))) + (1 : Int)))) ((IntKind.wrap .i64 ((IntKind.wrap .i64 ((2 : Int) * d20)) + (1 : Int)))) _ hc33) rfl rfl rfl me_84_Less Try.func113 rfl rfl rfl [5, 1, 2, 3, 4] [0] rfl rfl rfl ⟨(Drv.vn 0 rfl), trivial⟩) rfl rfl rfl ?_
            rintro _ _ ⟨_, ⟨rfl, rfl⟩, rfl⟩
            refine JL.val (v := .bool y32) (QV.pickT rfl rfl) rfl rfl rfl ?_
            refine JL.nil ?_
            refine QJ.then_normal ?_
            refine JC.cutK (Y := Int × Unit) (fun y => match y with | (d34, _) => F66.j3 x3 x6 x10 x12 d19 d20 (d34) = some s26) (fun y => match y with | (d34, _) => [(0, .iface 84 (.pointer (some ⟨b1, 2, none⟩))), (1, .int .i64 x13), (2, .int .i64 x14), (7, .int .i64 d20), (9, .int .i64 d34)]) (fun y => match y with | (d34, _) => [Asr.vn (NE.sl (Enc.int .i64)) (s2.v) z4 x3, Asr.of 3 (Enc.int .i64) (s5.v) x6, Asr.of 3 (Enc.int .i64) (s7.v) d19, Asr.of 4 Enc.bool (s9.v) x10, Asr.of 4 Enc.bool (s11.v) x12, Asr.blk b1 82 [Seg.c (s2.v), Seg.c (s5.v), Seg.c (s7.v), Seg.c (s9.v), Seg.c (s11.v)]]) ?_ ?_
            ·
              rintro ⟨d34, ⟨⟩⟩ hm
              unfold F66.j3 at hm
              show QJ _ _ [(0, .iface 84 (.pointer (some ⟨b1, 2, none⟩))), (1, .int .i64 x13), (2, .int .i64 x14), (7, .int .i64 d20), (9, .int .i64 d34)] [Asr.vn (NE.sl (Enc.int .i64)) (s2.v) z4 x3, Asr.of 3 (Enc.int .i64) (s5.v) x6, Asr.of 3 (Enc.int .i64) (s7.v) d19, Asr.of 4 Enc.bool (s9.v) x10, Asr.of 4 Enc.bool (s11.v) x12, Asr.blk b1 82 [Seg.c (s2.v), Seg.c (s5.v), Seg.c (s7.v), Seg.c (s9.v), Seg.c (s11.v)]] _ _
              refine QJ.then_normal ?_
              refine JC.seq ?_
              refine JC.seq ?_
              refine JC.region ?_
              refine JL.val (v := .iface 84 (.pointer (some ⟨b1, 2, none⟩))) (QV.move rfl) rfl rfl rfl ?_
              refine JL.val (v := .int .i64 d34) (QV.move rfl) rfl rfl rfl ?_
              refine JL.val (v := .int .i64 d20) (QV.move rfl) rfl rfl rfl ?_
              obtain ⟨y35, hc36, hm⟩ := bind_inv hm
              refine JL.mv (d := some 38) (MV.callI (Lo := [Asr.blk b1 82 [Seg.c (s2.v), Seg.c (s5.v), Seg.c (s7.v), Seg.c (s9.v), Seg.c (s11.v)], Asr.of 3 (Enc.int .i64) (s5.v) x6, Asr.of 3 (Enc.int .i64) (s7.v) d19, Asr.of 4 Enc.bool (s9.v) x10, Asr.of 4 Enc.bool (s11.v) x12]) (Lr := [Asr.vn (NE.sl (Enc.int .i64)) (s2.v) z4 x3]) (F113.spec (b1) (s2) (z4) (s5) (s7) (s9) (s11) (x3) (x6) (d19) (x10) (x12) (d34) (d20) _ hc36) rfl rfl rfl me_84_Less Try.func113 rfl rfl rfl [5, 1, 2, 3, 4] [0] rfl rfl rfl ⟨(Drv.vn 0 rfl), trivial⟩) rfl rfl rfl ?_
              rintro _ _ ⟨_, ⟨rfl, rfl⟩, rfl⟩
              refine JL.val (v := .bool (!y35)) (QV.not rfl) rfl rfl rfl ?_
              refine JL.nil ?_
              refine QJ.then_normal ?_
              rcases ite_inv hm with ⟨h37, hm⟩ | ⟨h37, hm⟩
              ·
                refine JC.condF' rfl (congrArg Bool.not h37) ?_
                refine JC.skip ?_
                refine QJ.then_normal ?_
                refine JC.seq ?_
                refine JC.region ?_
                refine JL.val (v := .iface 84 (.pointer (some ⟨b1, 2, none⟩))) (QV.move rfl) rfl rfl rfl ?_
                refine JL.val (v := .int .i64 d20) (QV.move rfl) rfl rfl rfl ?_
                refine JL.val (v := .int .i64 d34) (QV.move rfl) rfl rfl rfl ?_
                obtain ⟨y38, hc39, hm⟩ := bind_inv hm
                refine JL.mv (d := some 43) (MV.callI (Lo := [Asr.blk b1 82 [Seg.c (s2.v), Seg.c (s5.v), Seg.c (s7.v), Seg.c (s9.v), Seg.c (s11.v)], Asr.of 3 (Enc.int .i64) (s5.v) x6, Asr.of 3 (Enc.int .i64) (s7.v) d19, Asr.of 4 Enc.bool (s9.v) x10, Asr.of 4 Enc.bool (s11.v) x12]) (Lr := [Asr.vn (NE.sl (Enc.int .i64)) (s2.v) z4 x3, Asr.vn (NE.sl (Enc.int .i64)) (s2.v) z4 x3]) (F116.spec (b1) (s2) (z4) (s5) (s7) (s9) (s11) (x3) (x6) (d19) (x10) (x12) (d20) (d34) _ hc39) rfl rfl rfl me_84_Swap Try.func116 rfl rfl rfl [5, 0, 1, 2, 3] [4, 6] rfl rfl rfl ⟨(Drv.vn 0 rfl), trivial⟩) rfl rfl rfl ?_
                rintro _ _ ⟨_, ⟨rfl, rfl⟩, rfl⟩
                refine JL.nil ?_
                refine QJ.then_normal ?_
                refine JC.region ?_
                refine JL.val (v := .int .i64 d34) (QV.move rfl) rfl rfl rfl ?_
                refine JL.val (v := .int .i64 d34) (QV.assign rfl) rfl rfl rfl ?_
                refine JL.nil ?_
                refine QJ.block_normal ?_
                exact QJ.cut_normal ((y38, d34), ()) hm [4, 0, 1, 2, 3, 5] (by exact ⟨rfl, rfl, rfl, rfl, trivial⟩) rfl rfl
              ·
                refine JC.condT' rfl (congrArg Bool.not (bfalse h37)) ?_
                refine JC.exit ?_
                refine QJ.then_exit ?_
                refine QJ.block_miss rfl ?_
                refine QJ.cut_exit ?_
                obtain rfl := Option.some.inj hm
                refine QJ.round_exit (fun hy => ?_)
                subst hy
                refine QJ.block_hit ?_
                exact QJ.cut_normal ((d20, d19), ()) hmo25 [0, 1, 2, 3, 4, 5] (by exact ⟨rfl, rfl, trivial⟩) rfl rfl
            ·
              rcases ite_inv hm with ⟨h40, hm⟩ | ⟨h40, hm⟩
              ·
                refine JC.condT' rfl h40 ?_
                refine JC.region ?_
                refine JL.val (v := .int .i64 (IntKind.wrap .i64 ((IntKind.wrap .i64 ((IntKind.wrap .i64 ((2 : Int) * d20)) + (1 : Int))) + (1 : Int)))) (QV.move rfl) rfl rfl rfl ?_
                refine JL.val (v := .int .i64 (IntKind.wrap .i64 ((IntKind.wrap .i64 ((IntKind.wrap .i64 ((2 : Int) * d20)) + (1 : Int))) + (1 : Int)))) (QV.assign rfl) rfl rfl rfl ?_
                refine JL.nil ?_
                exact QJ.cut_normal ((IntKind.wrap .i64 ((IntKind.wrap .i64 ((IntKind.wrap .i64 ((2 : Int) * d20)) + (1 : Int))) + (1 : Int))), ()) hm [4, 0, 1, 2, 3, 5] (by exact ⟨rfl, rfl, rfl, rfl, rfl, trivial⟩) rfl rfl
              ·
                refine JC.condF' rfl (bfalse h40) ?_
                refine JC.skip ?_
                exact QJ.cut_normal ((IntKind.wrap .i64 ((IntKind.wrap .i64 ((2 : Int) * d20)) + (1 : Int))), ()) hm [4, 0, 1, 2, 3, 5] (by exact ⟨rfl, rfl, rfl, rfl, rfl, trivial⟩) rfl rfl
          ·
            refine JL.val (v := .bool false) (QV.eq (QV.move rfl) (congrArg Value.bool (decide_eq_false h31))) rfl rfl rfl ?_
            refine JL.skip (d := some 29) rfl rfl rfl ?_
            refine JL.skip (d := some 30) rfl rfl rfl ?_
            refine JL.skip (d := some 31) rfl rfl rfl ?_
            refine JL.skip (d := some 32) rfl rfl rfl ?_
            refine JL.val (v := .bool false) (QV.pickF rfl rfl) rfl rfl rfl ?_
            refine JL.nil ?_
            refine QJ.then_normal ?_
            refine JC.condF rfl ?_
            refine JC.skip ?_
            refine QJ.then_normal ?_
            refine JC.seq ?_
            refine JC.seq ?_
            refine JC.region ?_
            refine JL.val (v := .iface 84 (.pointer (some ⟨b1, 2, none⟩))) (QV.move rfl) rfl rfl rfl ?_
            refine JL.val (v := .int .i64 (IntKind.wrap .i64 ((IntKind.wrap .i64 ((2 : Int) * d20)) + (1 : Int)))) (QV.move rfl) rfl rfl rfl ?_
            refine JL.val (v := .int .i64 d20) (QV.move rfl) rfl rfl rfl ?_
            obtain ⟨y41, hc42, hm⟩ := bind_inv hm
            refine JL.mv (d := some 38) (MV.callI (Lo := [Asr.blk b1 82 [Seg.c (s2.v), Seg.c (s5.v), Seg.c (s7.v), Seg.c (s9.v), Seg.c (s11.v)], Asr.of 3 (Enc.int .i64) (s5.v) x6, Asr.of 3 (Enc.int .i64) (s7.v) d19, Asr.of 4 Enc.bool (s9.v) x10, Asr.of 4 Enc.bool (s11.v) x12]) (Lr := [Asr.vn (NE.sl (Enc.int .i64)) (s2.v) z4 x3]) (F113.spec (b1) (s2) (z4) (s5) (s7) (s9) (s11) (x3) (x6) (d19) (x10) (x12) ((IntKind.wrap .i64 ((IntKind.wrap .i64 ((2 : Int) * d20)) + (1 : Int)))) (d20) _ hc42) rfl rfl rfl me_84_Less Try.func113 rfl rfl rfl [5, 1, 2, 3, 4] [0] rfl rfl rfl ⟨(Drv.vn 0 rfl), trivial⟩) rfl rfl rfl ?_
            rintro _ _ ⟨_, ⟨rfl, rfl⟩, rfl⟩
            refine JL.val (v := .bool (!y41)) (QV.not rfl) rfl rfl rfl ?_
            refine JL.nil ?_
            refine QJ.then_normal ?_
            rcases ite_inv hm with ⟨h43, hm⟩ | ⟨h43, hm⟩
            ·
              refine JC.condF' rfl (congrArg Bool.not h43) ?_
              refine JC.skip ?_
              refine QJ.then_normal ?_
              refine JC.seq ?_
              refine JC.region ?_
              refine JL.val (v := .iface 84 (.pointer (some ⟨b1, 2, none⟩))) (QV.move rfl) rfl rfl rfl ?_
              refine JL.val (v := .int .i64 d20) (QV.move rfl) rfl rfl rfl ?_
              refine JL.val (v := .int .i64 (IntKind.wrap .i64 ((IntKind.wrap .i64 ((2 : Int) * d20)) + (1 : Int)))) (QV.move rfl) rfl rfl rfl ?_
              obtain ⟨y44, hc45, hm⟩ := bind_inv hm
              refine JL.mv (d := some 43) (MV.callI (Lo := [Asr.blk b1 82 [Seg.c (s2.v), Seg.c (s5.v), Seg.c (s7.v), Seg.c (s9.v), Seg.c (s11.v)], Asr.of 3 (Enc.int .i64) (s5.v) x6, Asr.of 3 (Enc.int .i64) (s7.v) d19, Asr.of 4 Enc.bool (s9.v) x10, Asr.of 4 Enc.bool (s11.v) x12]) (Lr := [Asr.vn (NE.sl (Enc.int .i64)) (s2.v) z4 x3, Asr.vn (NE.sl (Enc.int .i64)) (s2.v) z4 x3]) (F116.spec (b1) (s2) (z4) (s5) (s7) (s9) (s11) (x3) (x6) (d19) (x10) (x12) (d20) ((IntKind.wrap .i64 ((IntKind.wrap .i64 ((2 : Int) * d20)) + (1 : Int)))) _ hc45) rfl rfl rfl me_84_Swap Try.func116 rfl rfl rfl [5, 0, 1, 2, 3] [4, 6] rfl rfl rfl ⟨(Drv.vn 0 rfl), trivial⟩) rfl rfl rfl ?_
              rintro _ _ ⟨_, ⟨rfl, rfl⟩, rfl⟩
              refine JL.nil ?_
              refine QJ.then_normal ?_
              refine JC.region ?_
              refine JL.val (v := .int .i64 (IntKind.wrap .i64 ((IntKind.wrap .i64 ((2 : Int) * d20)) + (1 : Int)))) (QV.move rfl) rfl rfl rfl ?_
              refine JL.val (v := .int .i64 (IntKind.wrap .i64 ((IntKind.wrap .i64 ((2 : Int) * d20)) + (1 : Int)))) (QV.assign rfl) rfl rfl rfl ?_
              refine JL.nil ?_
              refine QJ.block_normal ?_
              exact QJ.cut_normal ((y44, (IntKind.wrap .i64 ((IntKind.wrap .i64 ((2 : Int) * d20)) + (1 : Int)))), ()) hm [4, 0, 1, 2, 3, 5] (by exact ⟨rfl, rfl, rfl, rfl, trivial⟩) rfl rfl
            ·
              refine JC.condT' rfl (congrArg Bool.not (bfalse h43)) ?_
              refine JC.exit ?_
              refine QJ.then_exit ?_
              refine QJ.block_miss rfl ?_
              refine QJ.cut_exit ?_
              obtain rfl := Option.some.inj hm
              refine QJ.round_exit (fun hy => ?_)
              subst hy
              refine QJ.block_hit ?_
              exact QJ.cut_normal ((d20, d19), ()) hmo25 [0, 1, 2, 3, 4, 5] (by exact ⟨rfl, rfl, trivial⟩) rfl rfl

/-! ### 114: (*drogher/order.lowest).Pop -/
noncomputable def F114.m (x3 : List (List Int)) (x6 : List Int) (x8 : List Int) (x10 : List Bool) (x12 : List Bool) : Option (Int × List Int) :=
  (if 0 ≤ (IntKind.wrap .i64 (((x8).length : Int) - (1 : Int))) ∧ (IntKind.wrap .i64 (((x8).length : Int) - (1 : Int))) < ((x8).length : Int) then (if 0 ≤ (0 : Int) ∧ (0 : Int) ≤ (IntKind.wrap .i64 (((x8).length : Int) - (1 : Int))) ∧ (IntKind.wrap .i64 (((x8).length : Int) - (1 : Int))) ≤ ((x8).length : Int) then some ((gd x8 (IntKind.wrap .i64 (((x8).length : Int) - (1 : Int)))), (subL x8 (0 : Int) (IntKind.wrap .i64 (((x8).length : Int) - (1 : Int))))) else none) else none)
set_option maxRecDepth 100000 in
set_option maxHeartbeats 4000000 in
theorem F114.spec (b1 : Nat) (s2 : SlV) (z4 : List SlV) (s5 : SlV) (s7 : SlV) (s9 : SlV) (s11 : SlV) (x3 : List (List Int)) (x6 : List Int) (x8 : List Int) (x10 : List Bool) (x12 : List Bool) (r : (Int × List Int)) (hm : F114.m x3 x6 x8 x10 x12 = some r) :
    Ctr Try.prog true 114 [.pointer (some ⟨b1, 2, none⟩)] [Asr.blk b1 82 [Seg.c (s2.v), Seg.c (s5.v), Seg.c (s7.v), Seg.c (s9.v), Seg.c (s11.v)], Asr.of 3 (Enc.int .i64) (s5.v) x6, Asr.of 3 (Enc.int .i64) (s7.v) x8, Asr.of 4 Enc.bool (s9.v) x10, Asr.of 4 Enc.bool (s11.v) x12, Asr.vn (NE.sl (Enc.int .i64)) (s2.v) z4 x3] (fun v L' => ∃ (g14 : SlV), v = .iface 3 (.int .i64 r.1) ∧ L' = [Asr.of 3 (Enc.int .i64) (s5.v) x6, Asr.of 3 (Enc.int .i64) (g14.v) r.2, Asr.of 4 Enc.bool (s9.v) x10, Asr.of 4 Enc.bool (s11.v) x12, Asr.vn (NE.sl (Enc.int .i64)) (s2.v) z4 x3, Asr.blk b1 82 [Seg.c (s2.v), Seg.c (s5.v), Seg.c (g14.v), Seg.c (s9.v), Seg.c (s11.v)]]) := by
  refine Ctr.intro (n := 29) (env := [(0, .pointer (some ⟨b1, 2, none⟩))]) Try.func114 rfl rfl rfl rfl (fun c => ?_)
  unfold F114.m at hm
  refine JC.seq ?_
  refine JC.region ?_
  refine JL.val (v := .nilIface) (QV.assign rfl) rfl rfl rfl ?_
  refine JL.nil ?_
  refine QJ.then_normal ?_
  refine JC.seq ?_
  refine JC.region ?_
  refine JL.val (v := .pointer (some ⟨b1, 2, none⟩)) (QV.move rfl) rfl rfl rfl ?_
  refine JL.val (v := .pointer (some ⟨b1, 2, none⟩)) (QV.nilCheck rfl) rfl rfl rfl ?_
  refine JL.val (v := .pointer (some ⟨b1, 2, none⟩)) (QV.fieldB fo_80_0 rfl rfl) rfl rfl rfl ?_
  refine JL.val (v := s7.v) (QV.load1 (ss := [Seg.c (s2.v), Seg.c (s5.v), Seg.c (s7.v), Seg.c (s9.v), Seg.c (s11.v)]) 0 2 rfl tk_25 rfl rfl rfl) rfl rfl rfl ?_
  refine JL.val (v := .int .i64 ((x8).length : Int)) (QV.len (Rdg.of 2 rfl) Try.underlying25 rfl) rfl rfl rfl ?_
  refine JL.val (v := .int .i64 (IntKind.wrap .i64 (((x8).length : Int) - (1 : Int)))) (QV.sub rfl rfl) rfl rfl rfl ?_
  refine JL.val (v := .int .i64 (IntKind.wrap .i64 (((x8).length : Int) - (1 : Int)))) (QV.assign rfl) rfl rfl rfl ?_
  refine JL.nil ?_
  refine QJ.then_normal ?_
  refine JC.seq ?_
  refine JC.region ?_
  refine JL.val (v := .pointer (some ⟨b1, 2, none⟩)) (QV.move rfl) rfl rfl rfl ?_
  refine JL.val (v := .pointer (some ⟨b1, 2, none⟩)) (QV.nilCheck rfl) rfl rfl rfl ?_
  refine JL.val (v := .pointer (some ⟨b1, 2, none⟩)) (QV.fieldB fo_80_0 rfl rfl) rfl rfl rfl ?_
  refine JL.val (v := s7.v) (QV.load1 (ss := [Seg.c (s2.v), Seg.c (s5.v), Seg.c (s7.v), Seg.c (s9.v), Seg.c (s11.v)]) 0 2 rfl tk_25 rfl rfl rfl) rfl rfl rfl ?_
  refine JL.val (v := .int .i64 (IntKind.wrap .i64 (((x8).length : Int) - (1 : Int)))) (QV.move rfl) rfl rfl rfl ?_
  obtain ⟨h16, hm⟩ := guard_inv hm
  refine JL.val (v := .pointer (some (elA (s7.v) (Int.toNat (IntKind.wrap .i64 (((x8).length : Int) - (1 : Int))) * ((Enc.int .i64)).sz)))) (QV.indexA (Rdg.of 2 rfl) Try.underlying25 tk_3 rfl rfl h16) rfl rfl rfl ?_
  refine JL.val (v := .int .i64 (gd x8 (IntKind.wrap .i64 (((x8).length : Int) - (1 : Int))))) (QV.el1 (Rdg.of 2 rfl) tk_3 rfl h16 rfl) rfl rfl rfl ?_
  refine JL.val (v := .int .i64 (gd x8 (IntKind.wrap .i64 (((x8).length : Int) - (1 : Int))))) (QV.assign rfl) rfl rfl rfl ?_
  refine JL.nil ?_
  refine QJ.then_normal ?_
  refine JC.seq ?_
  refine JC.region ?_
  refine JL.val (v := .pointer (some ⟨b1, 2, none⟩)) (QV.move rfl) rfl rfl rfl ?_
  refine JL.val (v := .pointer (some ⟨b1, 2, none⟩)) (QV.move rfl) rfl rfl rfl ?_
  refine JL.val (v := .pointer (some ⟨b1, 2, none⟩)) (QV.nilCheck rfl) rfl rfl rfl ?_
  refine JL.val (v := .pointer (some ⟨b1, 2, none⟩)) (QV.fieldB fo_80_0 rfl rfl) rfl rfl rfl ?_
  refine JL.val (v := s7.v) (QV.load1 (ss := [Seg.c (s2.v), Seg.c (s5.v), Seg.c (s7.v), Seg.c (s9.v), Seg.c (s11.v)]) 0 2 rfl tk_25 rfl rfl rfl) rfl rfl rfl ?_
  refine JL.val (v := .int .i64 (IntKind.wrap .i64 (((x8).length : Int) - (1 : Int)))) (QV.move rfl) rfl rfl rfl ?_
  obtain ⟨h17, hm⟩ := guard_inv hm
  refine JL.val (v := (SlV.sub ((Enc.int .i64)).sz s7 (0 : Int) (IntKind.wrap .i64 (((x8).length : Int) - (1 : Int)))).v) (QV.sliceV (Rdg.of 2 rfl) Try.underlying25 tk_3 rfl rfl rfl h17) rfl rfl rfl ?_
  refine JL.val (v := .pointer (some ⟨b1, 2, none⟩)) (QV.nilCheck rfl) rfl rfl rfl ?_
  refine JL.val (v := .pointer (some ⟨b1, 2, none⟩)) (QV.fieldB fo_80_0 rfl rfl) rfl rfl rfl ?_
  refine JL.ent (fun _ hs => hs.trunc 2 rfl h17) ?_
  refine JL.mv (d := none) (MV.store (ss := [Seg.c (s2.v), Seg.c (s5.v), Seg.c (s7.v), Seg.c (s9.v), Seg.c (s11.v)]) 0 2 1 [Seg.c ((SlV.sub ((Enc.int .i64)).sz s7 (0 : Int) (IntKind.wrap .i64 (((x8).length : Int) - (1 : Int)))).v)] rfl tk_25 rfl rfl rfl rfl (fun w hs => ⟨cells_sl (Rdg.of 2 rfl) hs, one_sl (Rdg.of 2 rfl) hs, trivial⟩)) rfl rfl rfl ?_
  rintro _ _ ⟨rfl, rfl⟩
  refine JL.nil ?_
  refine QJ.then_normal ?_
  refine JC.seq ?_
  refine JC.region ?_
  refine JL.val (v := .int .i64 (gd x8 (IntKind.wrap .i64 (((x8).length : Int) - (1 : Int))))) (QV.move rfl) rfl rfl rfl ?_
  refine JL.val (v := .iface 3 (.int .i64 (gd x8 (IntKind.wrap .i64 (((x8).length : Int) - (1 : Int)))))) (QV.mkIface Try.underlying3 rfl rfl) rfl rfl rfl ?_
  refine JL.val (v := .iface 3 (.int .i64 (gd x8 (IntKind.wrap .i64 (((x8).length : Int) - (1 : Int)))))) (QV.assign rfl) rfl rfl rfl ?_
  refine JL.nil ?_
  refine QJ.then_normal ?_
  refine JC.ret ?_
  obtain rfl := Option.some.inj hm
  exact QJ.body (vs := [.iface 3 (.int .i64 (gd x8 (IntKind.wrap .i64 (((x8).length : Int) - (1 : Int)))))]) (.inl rfl) rfl (ResVs.cons (ResV.tmp rfl) ResVs.nil) [1, 2, 3, 4, 5, 0] rfl rfl (.inl rfl) ⟨((SlV.sub ((Enc.int .i64)).sz s7 (0 : Int) (IntKind.wrap .i64 (((x8).length : Int) - (1 : Int))))), rfl, rfl⟩

/-! ### 42: container/heap.Pop -/
noncomputable def F42.m (x3 : List (List Int)) (x6 : List Int) (x8 : List Int) (x10 : List Bool) (x12 : List Bool) : Option (Int × List Int) :=
  ((F41.m (x3) (x6) (x8) (x10) (x12)).bind fun y16 => ((F116.m (x3) (x6) (x8) (x10) (x12) ((0 : Int)) ((IntKind.wrap .i64 (y16 - (1 : Int))))).bind fun y18 => ((F66.m (x3) (x6) (y18) (x10) (x12) ((0 : Int)) ((IntKind.wrap .i64 (y16 - (1 : Int))))).bind fun y20 => ((F114.m (x3) (x6) (y20.2) (x10) (x12)).bind fun y22 => some (y22.1, y22.2)))))
set_option maxRecDepth 100000 in
set_option maxHeartbeats 4000000 in
theorem F42.spec (b1 : Nat) (s2 : SlV) (z4 : List SlV) (s5 : SlV) (s7 : SlV) (s9 : SlV) (s11 : SlV) (x3 : List (List Int)) (x6 : List Int) (x8 : List Int) (x10 : List Bool) (x12 : List Bool) (r : (Int × List Int)) (hm : F42.m x3 x6 x8 x10 x12 = some r) :
    Ctr Try.prog true 42 [.iface 84 (.pointer (some ⟨b1, 2, none⟩))] [Asr.blk b1 82 [Seg.c (s2.v), Seg.c (s5.v), Seg.c (s7.v), Seg.c (s9.v), Seg.c (s11.v)], Asr.of 3 (Enc.int .i64) (s5.v) x6, Asr.of 3 (Enc.int .i64) (s7.v) x8, Asr.of 4 Enc.bool (s9.v) x10, Asr.of 4 Enc.bool (s11.v) x12, Asr.vn (NE.sl (Enc.int .i64)) (s2.v) z4 x3] (fun v L' => ∃ (g14 : SlV), v = .iface 3 (.int .i64 r.1) ∧ L' = [Asr.of 3 (Enc.int .i64) (s5.v) x6, Asr.of 3 (Enc.int .i64) (g14.v) r.2, Asr.of 4 Enc.bool (s9.v) x10, Asr.of 4 Enc.bool (s11.v) x12, Asr.vn (NE.sl (Enc.int .i64)) (s2.v) z4 x3, Asr.blk b1 82 [Seg.c (s2.v), Seg.c (s5.v), Seg.c (g14.v), Seg.c (s9.v), Seg.c (s11.v)]]) := by
  refine Ctr.intro (n := 15) (env := [(0, .iface 84 (.pointer (some ⟨b1, 2, none⟩)))]) Try.func42 rfl rfl rfl rfl (fun c => ?_)
  unfold F42.m at hm
  refine JC.seq ?_
  refine JC.region ?_
  refine JL.val (v := .nilIface) (QV.assign rfl) rfl rfl rfl ?_
  refine JL.nil ?_
  refine QJ.then_normal ?_
  refine JC.seq ?_
  refine JC.region ?_
  refine JL.val (v := .iface 84 (.pointer (some ⟨b1, 2, none⟩))) (QV.move rfl) rfl rfl rfl ?_
  obtain ⟨y16, hc17, hm⟩ := bind_inv hm
  refine JL.mv (d := some 5) (MV.callI (Lo := [Asr.blk b1 82 [Seg.c (s2.v), Seg.c (s5.v), Seg.c (s7.v), Seg.c (s9.v), Seg.c (s11.v)], Asr.of 3 (Enc.int .i64) (s5.v) x6, Asr.of 3 (Enc.int .i64) (s7.v) x8, Asr.of 4 Enc.bool (s9.v) x10, Asr.of 4 Enc.bool (s11.v) x12]) (Lr := [Asr.vn (NE.sl (Enc.int .i64)) (s2.v) z4 x3]) (F41.spec (b1) (s2) (z4) (s5) (s7) (s9) (s11) (x3) (x6) (x8) (x10) (x12) _ hc17) rfl rfl rfl me_84_Len Try.func41 rfl rfl rfl [0, 1, 2, 3, 4] [5] rfl rfl rfl ⟨(Drv.vn 0 rfl), trivial⟩) rfl rfl rfl ?_
  rintro _ _ ⟨_, ⟨rfl, rfl⟩, rfl⟩
  refine JL.val (v := .int .i64 (IntKind.wrap .i64 (y16 - (1 : Int)))) (QV.sub rfl rfl) rfl rfl rfl ?_
  refine JL.val (v := .int .i64 (IntKind.wrap .i64 (y16 - (1 : Int)))) (QV.assign rfl) rfl rfl rfl ?_
  refine JL.nil ?_
  refine QJ.then_normal ?_
  refine JC.seq ?_
  refine JC.region ?_
  refine JL.val (v := .iface 84 (.pointer (some ⟨b1, 2, none⟩))) (QV.move rfl) rfl rfl rfl ?_
  refine JL.val (v := .int .i64 (IntKind.wrap .i64 (y16 - (1 : Int)))) (QV.move rfl) rfl rfl rfl ?_
  obtain ⟨y18, hc19, hm⟩ := bind_inv hm
  refine JL.mv (d := some 9) (MV.callI (Lo := [Asr.blk b1 82 [Seg.c (s2.v), Seg.c (s5.v), Seg.c (s7.v), Seg.c (s9.v), Seg.c (s11.v)], Asr.of 3 (Enc.int .i64) (s5.v) x6, Asr.of 3 (Enc.int .i64) (s7.v) x8, Asr.of 4 Enc.bool (s9.v) x10, Asr.of 4 Enc.bool (s11.v) x12]) (Lr := [Asr.vn (NE.sl (Enc.int .i64)) (s2.v) z4 x3, Asr.vn (NE.sl (Enc.int .i64)) (s2.v) z4 x3]) (F116.spec (b1) (s2) (z4) (s5) (s7) (s9) (s11) (x3) (x6) (x8) (x10) (x12) ((0 : Int)) ((IntKind.wrap .i64 (y16 - (1 : Int)))) _ hc19) rfl rfl rfl me_84_Swap Try.func116 rfl rfl rfl [5, 0, 1, 2, 3] [4, 6] rfl rfl rfl ⟨(Drv.vn 0 rfl), trivial⟩) rfl rfl rfl ?_
  rintro _ _ ⟨_, ⟨rfl, rfl⟩, rfl⟩
  refine JL.nil ?_
  refine QJ.then_normal ?_
  refine JC.seq ?_
  refine JC.region ?_
  refine JL.val (v := .iface 84 (.pointer (some ⟨b1, 2, none⟩))) (QV.move rfl) rfl rfl rfl ?_
  refine JL.val (v := .int .i64 (IntKind.wrap .i64 (y16 - (1 : Int)))) (QV.move rfl) rfl rfl rfl ?_
  obtain ⟨y20, hc21, hm⟩ := bind_inv hm
  refine JL.mv (d := some 12) (MV.call (Lo := [Asr.blk b1 82 [Seg.c (s2.v), Seg.c (s5.v), Seg.c (s7.v), Seg.c (s9.v), Seg.c (s11.v)], Asr.of 3 (Enc.int .i64) (s5.v) x6, Asr.of 3 (Enc.int .i64) (s7.v) y18, Asr.of 4 Enc.bool (s9.v) x10, Asr.of 4 Enc.bool (s11.v) x12]) (Lr := [Asr.vn (NE.sl (Enc.int .i64)) (s2.v) z4 x3, Asr.vn (NE.sl (Enc.int .i64)) (s2.v) z4 x3, Asr.vn (NE.sl (Enc.int .i64)) (s2.v) z4 x3]) (F66.spec (b1) (s2) (z4) (s5) (s7) (s9) (s11) (x3) (x6) (y18) (x10) (x12) ((0 : Int)) ((IntKind.wrap .i64 (y16 - (1 : Int)))) _ hc21) rfl Try.func66 rfl rfl rfl [5, 0, 1, 2, 3] [4, 6, 7] rfl rfl rfl ⟨(Drv.vn 0 rfl), trivial⟩) rfl rfl rfl ?_
  rintro _ _ ⟨_, ⟨rfl, rfl⟩, rfl⟩
  refine JL.nil ?_
  refine QJ.then_normal ?_
  refine JC.seq ?_
  refine JC.region ?_
  refine JL.val (v := .iface 84 (.pointer (some ⟨b1, 2, none⟩))) (QV.move rfl) rfl rfl rfl ?_
  obtain ⟨y22, hc23, hm⟩ := bind_inv hm
  refine JL.mv (d := some 14) (MV.callI (Lo := [Asr.blk b1 82 [Seg.c (s2.v), Seg.c (s5.v), Seg.c (s7.v), Seg.c (s9.v), Seg.c (s11.v)], Asr.of 3 (Enc.int .i64) (s5.v) x6, Asr.of 3 (Enc.int .i64) (s7.v) y20.2, Asr.of 4 Enc.bool (s9.v) x10, Asr.of 4 Enc.bool (s11.v) x12]) (Lr := [Asr.vn (NE.sl (Enc.int .i64)) (s2.v) z4 x3, Asr.vn (NE.sl (Enc.int .i64)) (s2.v) z4 x3, Asr.vn (NE.sl (Enc.int .i64)) (s2.v) z4 x3, Asr.vn (NE.sl (Enc.int .i64)) (s2.v) z4 x3]) (F114.spec (b1) (s2) (z4) (s5) (s7) (s9) (s11) (x3) (x6) (y20.2) (x10) (x12) _ hc23) rfl rfl rfl me_84_Pop Try.func114 rfl rfl rfl [5, 0, 1, 2, 3] [4, 6, 7, 8] rfl rfl rfl ⟨(Drv.vn 0 rfl), trivial⟩) rfl rfl rfl ?_
  rintro _ _ ⟨_, ⟨z24, rfl, rfl⟩, rfl⟩
  refine JL.val (v := .iface 3 (.int .i64 y22.1)) (QV.assign rfl) rfl rfl rfl ?_
  refine JL.nil ?_
  refine QJ.then_normal ?_
  refine JC.ret ?_
  obtain rfl := Option.some.inj hm
  exact QJ.body (vs := [.iface 3 (.int .i64 y22.1)]) (.inl rfl) rfl (ResVs.cons (ResV.tmp rfl) ResVs.nil) [0, 1, 2, 3, 4, 5] rfl rfl (.inl rfl) ⟨z24, rfl, rfl⟩

end Go.Proofs.Ytgganckggdjpaaa
