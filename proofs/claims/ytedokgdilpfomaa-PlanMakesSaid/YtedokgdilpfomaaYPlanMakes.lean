/- Written by gen.py: functions and their contracts. -/
import Derived.Test.YtedokgdilpfomaaPln
namespace Go.Proofs.Ytedokgdilpfomaa
open Go Go.Eng Go.Proofs
set_option linter.unusedVariables false
set_option linter.unusedSimpArgs false
/-! ### 14: drogher/drogherref16.Great -/
noncomputable def F14.j1   : Option Bool :=
  some false
noncomputable def F14.b1 (x2 : List (Int × Int × Int × (List Int))) : Int → Option (Int ⊕ ((Bool) ⊕ Unit))
  | d6 => (if d6 < ((x2).length : Int) then (if 0 ≤ d6 ∧ d6 < ((x2).length : Int) then (if (5000 : Int) < (((gd x2 d6).2.2.2).length : Int) then some (.inr (.inl (true))) else some (.inl (IntKind.wrap .i64 (d6 + (1 : Int))))) else none) else some (.inr (.inr (()))))
noncomputable def F14.m (x2 : List (Int × Int × Int × (List Int))) : Option Bool :=
  (if (60 : Int) < ((x2).length : Int) then some true else ((loop (F14.b1 x2) (0 : Int)).bind fun y => match y with | .inl r => some r | .inr _ => F14.j1))
set_option maxRecDepth 100000 in
set_option maxHeartbeats 4000000 in
theorem F14.spec (s1 : SlV) (z3 : List (Unit × Unit × Unit × SlV)) (x2 : List (Int × Int × Int × (List Int))) (r : Bool) (hm : F14.m x2 = some r) :
    Ctr Try.prog false 14 [s1.v] [Asr.vn (NE.pair (NE.flat (Enc.int .u8)) (NE.pair (NE.flat (Enc.int .i64)) (NE.pair (NE.flat (Enc.int .i64)) (NE.sl (Enc.int .u8))))) (s1.v) z3 x2] (fun v L' => v = .bool r ∧ L' = []) := by
  refine Ctr.intro (n := 20) (env := [(0, s1.v)]) Try.func14 rfl rfl rfl rfl (fun c => ?_)
  unfold F14.m at hm
  refine JC.seq ?_
  refine JC.region ?_
  refine JL.val (v := .bool false) (QV.assign rfl) rfl rfl rfl ?_
  refine JL.nil ?_
  refine QJ.then_normal ?_
  refine JC.seq ?_
  refine JC.seq ?_
  refine JC.region ?_
  refine JL.val (v := s1.v) (QV.move rfl) rfl rfl rfl ?_
  refine JL.val (v := .int .i64 ((x2).length : Int)) (QV.lenN (RdN.vn 0 rfl) Try.underlying22 rfl) rfl rfl rfl ?_
  refine JL.val (v := .bool (decide ((60 : Int) < ((x2).length : Int)))) (QV.gtr rfl rfl) rfl rfl rfl ?_
  refine JL.nil ?_
  refine QJ.then_normal ?_
  rcases ite_inv hm with ⟨h5, hm⟩ | ⟨h5, hm⟩
  ·
    refine JC.condT' rfl (decide_eq_true h5) ?_
    refine JC.seq ?_
    refine JC.region ?_
    refine JL.val (v := .bool true) (QV.assign rfl) rfl rfl rfl ?_
    refine JL.nil ?_
    refine QJ.then_normal ?_
    refine JC.ret ?_
    refine QJ.then_ret ?_
    obtain rfl := Option.some.inj hm
    exact QJ.body (vs := [.bool true]) (.inl rfl) rfl (ResVs.cons (ResV.tmp rfl) ResVs.nil) [] rfl rfl (.inr trivial) ⟨rfl, rfl⟩
  ·
    refine JC.condF' rfl (decide_eq_false h5) ?_
    refine JC.skip ?_
    refine QJ.then_normal ?_
    refine JC.seq ?_
    refine JC.seq ?_
    refine JC.region ?_
    refine JL.val (v := s1.v) (QV.move rfl) rfl rfl rfl ?_
    refine JL.val (v := .int .i64 ((x2).length : Int)) (QV.lenN (RdN.vn 0 rfl) Try.underlying22 rfl) rfl rfl rfl ?_
    refine JL.val (v := .int .i64 (0 : Int)) (QV.move rfl) rfl rfl rfl ?_
    refine JL.nil ?_
    refine QJ.then_normal ?_
    refine JC.cutK (Y := Unit × Unit) (fun y => match y with | (_, _) => F14.j1 = some r) (fun y => match y with | (_, _) => []) (fun y => match y with | (_, _) => []) ?_ ?_
    ·
      rintro ⟨⟨⟩, ⟨⟩⟩ hm
      unfold F14.j1 at hm
      show QJ _ _ [] [] _ _
      refine QJ.then_normal ?_
      refine JC.seq ?_
      refine JC.region ?_
      refine JL.val (v := .bool false) (QV.assign rfl) rfl rfl rfl ?_
      refine JL.nil ?_
      refine QJ.then_normal ?_
      refine JC.ret ?_
      obtain rfl := Option.some.inj hm
      exact QJ.body (vs := [.bool false]) (.inl rfl) rfl (ResVs.cons (ResV.tmp rfl) ResVs.nil) [] rfl rfl (.inr trivial) ⟨rfl, rfl⟩
    ·
      refine JC.block ?_
      obtain ⟨y8, hl9, hmo10⟩ := bind_inv hm
      refine JC.loop (F14.b1 x2) (fun x z => match x, z with | d6, _ => [(0, s1.v), (8, .int .i64 ((x2).length : Int)), (9, .int .i64 d6)]) (fun x z => match x, z with | d6, _ => [Asr.vn (NE.pair (NE.flat (Enc.int .u8)) (NE.pair (NE.flat (Enc.int .i64)) (NE.pair (NE.flat (Enc.int .i64)) (NE.sl (Enc.int .u8))))) (s1.v) z3 x2]) (0 : Int) () y8 hl9 [0] (by exact ⟨rfl, rfl, rfl, trivial⟩) rfl rfl ?_
      rintro d6 ⟨⟩ s11 hm
      unfold F14.b1 at hm
      dsimp only at hm
      show JC _ _ _ [(0, s1.v), (8, .int .i64 ((x2).length : Int)), (9, .int .i64 d6)] [Asr.vn (NE.pair (NE.flat (Enc.int .u8)) (NE.pair (NE.flat (Enc.int .i64)) (NE.pair (NE.flat (Enc.int .i64)) (NE.sl (Enc.int .u8))))) (s1.v) z3 x2] _ _
      refine JC.seq ?_
      refine JC.region ?_
      refine JL.val (v := .bool (decide (d6 < ((x2).length : Int)))) (QV.lss rfl rfl) rfl rfl rfl ?_
      refine JL.nil ?_
      refine QJ.then_normal ?_
      refine JC.seq ?_
      rcases ite_inv hm with ⟨h12, hm⟩ | ⟨h12, hm⟩
      ·
        refine JC.condT' rfl (decide_eq_true h12) ?_
        refine JC.skip ?_
        refine QJ.then_normal ?_
        refine JC.seq ?_
        refine JC.block ?_
        refine JC.seq ?_
        refine JC.region ?_
        refine JL.val (v := .int .i64 d6) (QV.move rfl) rfl rfl rfl ?_
        refine JL.val (v := .int .i64 d6) (QV.assign rfl) rfl rfl rfl ?_
        refine JL.nil ?_
        refine QJ.then_normal ?_
        refine JC.seq ?_
        refine JC.region ?_
        refine JL.val (v := s1.v) (QV.move rfl) rfl rfl rfl ?_
        refine JL.val (v := .int .i64 d6) (QV.move rfl) rfl rfl rfl ?_
        obtain ⟨h13, hm⟩ := guard_inv hm
        refine JL.val (v := .pointer (some (elA (s1.v) (Int.toNat d6 * ((NE.pair (NE.flat (Enc.int .u8)) (NE.pair (NE.flat (Enc.int .i64)) (NE.pair (NE.flat (Enc.int .i64)) (NE.sl (Enc.int .u8))))).E).sz)))) (QV.indexN (RdN.vn 0 rfl) Try.underlying22 tk_35 rfl rfl h13) rfl rfl rfl ?_
        refine JL.val (v := .pointer (some ((elA (s1.v) (Int.toNat d6 * ((NE.pair (NE.flat (Enc.int .u8)) (NE.pair (NE.flat (Enc.int .i64)) (NE.pair (NE.flat (Enc.int .i64)) (NE.sl (Enc.int .u8))))).E).sz)).add 3))) (QV.fieldA fo_35_3 rfl) rfl rfl rfl ?_
        refine JL.val (v := (gd z3 d6).2.2.2.v) (QV.elFN (RdN.vn 0 rfl) tk_23 rfl h13 rfl) rfl rfl rfl ?_
        refine JL.val (v := .int .i64 (((gd x2 d6).2.2.2).length : Int)) (QV.len (Rdg.ofDrv (Drv.el (K := (NE.pair (NE.flat (Enc.int .u8)) (NE.pair (NE.flat (Enc.int .i64)) (NE.pair (NE.flat (Enc.int .i64)) (NE.sl (Enc.int .u8)))))) (A := Asr.vw (Enc.int .u8) ((gd z3 d6).2.2.2.v) (gd x2 d6).2.2.2) (Drv.vn 0 rfl) h13 (fun _ _ q => q.2.2.2))) Try.underlying23 rfl) rfl rfl rfl ?_
        refine JL.val (v := .bool (decide ((5000 : Int) < (((gd x2 d6).2.2.2).length : Int)))) (QV.gtr rfl rfl) rfl rfl rfl ?_
        refine JL.nil ?_
        refine QJ.then_normal ?_
        rcases ite_inv hm with ⟨h14, hm⟩ | ⟨h14, hm⟩
        ·
          refine JC.condT' rfl (decide_eq_true h14) ?_
          refine JC.seq ?_
          refine JC.region ?_
          refine JL.val (v := .bool true) (QV.assign rfl) rfl rfl rfl ?_
          refine JL.nil ?_
          refine QJ.then_normal ?_
          refine JC.ret ?_
          refine QJ.block_ret ?_
          refine QJ.then_ret ?_
          obtain rfl := Option.some.inj hm
          refine QJ.round_ret (fun hy => ?_)
          subst hy
          refine QJ.block_ret ?_
          refine QJ.cut_ret ?_
          refine QJ.then_ret ?_
          obtain rfl := Option.some.inj hmo10
          exact QJ.body (vs := [.bool true]) (.inl rfl) rfl (ResVs.cons (ResV.tmp rfl) ResVs.nil) [] rfl rfl (.inr trivial) ⟨rfl, rfl⟩
        ·
          refine JC.condF' rfl (decide_eq_false h14) ?_
          refine JC.skip ?_
          refine QJ.block_normal ?_
          refine QJ.then_normal ?_
          refine JC.region ?_
          refine JL.val (v := .int .i64 (IntKind.wrap .i64 (d6 + (1 : Int)))) (QV.add rfl rfl) rfl rfl rfl ?_
          refine JL.val (v := .int .i64 (IntKind.wrap .i64 (d6 + (1 : Int)))) (QV.move rfl) rfl rfl rfl ?_
          refine JL.nil ?_
          obtain rfl := Option.some.inj hm
          exact QJ.round_on (IntKind.wrap .i64 (d6 + (1 : Int))) () [0] (by exact ⟨rfl, rfl, rfl, trivial⟩) rfl rfl
      ·
        refine JC.condF' rfl (decide_eq_false h12) ?_
        refine JC.exit ?_
        refine QJ.then_exit ?_
        obtain rfl := Option.some.inj hm
        refine QJ.round_exit (fun hy => ?_)
        subst hy
        refine QJ.block_hit ?_
        exact QJ.cut_normal ((), ()) hmo10 [] trivial rfl rfl

/-! ### 43: drogher/plan.ask -/
noncomputable def F43.j1 (y8 : (List Int × Int)) (d12 : Int) : Option (List Int × Int) :=
  some (y8.1, d12)
noncomputable def F43.m (x2 : List Int) (x3 : Int) (x4 : Int) : Option (List Int × Int) :=
  ((F18.m (x2) (x3) (x4)).bind fun y8 => (if y8.2 = (0 : Int) then (if ((y8.1).length : Int) = x4 then F43.j1 y8 (y8.2) else F43.j1 y8 ((5 : Int))) else some (y8.1, y8.2)))
set_option maxRecDepth 100000 in
set_option maxHeartbeats 4000000 in
theorem F43.spec (s1 : SlV) (x2 : List Int) (x3 : Int) (x4 : Int) (r : (List Int × Int)) (hm : F43.m x2 x3 x4 = some r) :
    Ctr Try.prog false 43 [.iface 29 (s1.v), .int .i64 x3, .int .i64 x4] [Asr.vw (Enc.int .u8) (s1.v) x2] (fun v L' => ∃ (g5 : SlV), v = .tuple #[g5.v, .int .i64 r.2] ∧ L' = [Asr.of 5 (Enc.int .u8) (g5.v) r.1]) := by
  refine Ctr.intro (n := 29) (env := [(0, .iface 29 (s1.v)), (1, .int .i64 x3), (2, .int .i64 x4)]) Try.func43 rfl rfl rfl rfl (fun c => ?_)
  unfold F43.m at hm
  refine JC.seq ?_
  refine JC.region ?_
  refine JL.ent (fun _ hs => hs.nil 5 (Enc.int .u8)) ?_
  refine JL.val (v := SlV.nil.v) (QV.assign rfl) rfl rfl rfl ?_
  refine JL.val (v := .int .i64 (0 : Int)) (QV.assign rfl) rfl rfl rfl ?_
  refine JL.nil ?_
  refine QJ.then_normal ?_
  refine JC.seq ?_
  refine JC.seq ?_
  refine JC.region ?_
  refine JL.val (v := .iface 29 (s1.v)) (QV.move rfl) rfl rfl rfl ?_
  refine JL.val (v := .bool false) ((QV.eq (QV.eqlI Try.underlying66 rfl rfl (.inr rfl) rfl false rfl) rfl)) rfl rfl rfl ?_
  refine JL.nil ?_
  refine QJ.then_normal ?_
  refine JC.condF rfl ?_
  refine JC.skip ?_
  refine QJ.then_normal ?_
  refine JC.seq ?_
  refine JC.region ?_
  refine JL.val (v := .iface 29 (s1.v)) (QV.move rfl) rfl rfl rfl ?_
  refine JL.val (v := .int .i64 x3) (QV.move rfl) rfl rfl rfl ?_
  refine JL.val (v := .int .i64 x4) (QV.move rfl) rfl rfl rfl ?_
  obtain ⟨y8, hc9, hm⟩ := bind_inv hm
  refine JL.mv (d := some 16) (MV.callI (Lo := []) (Lr := [Asr.of 5 (Enc.int .u8) (SlV.nil.v) ([] : List Int), Asr.vw (Enc.int .u8) (s1.v) x2]) (F18.spec (s1) (x2) (x3) (x4) _ hc9) rfl rfl rfl me_29_Range Try.func18 rfl rfl rfl [] [0, 1] rfl rfl rfl ⟨(Drv.vw 1 rfl), trivial⟩) rfl rfl rfl ?_
  rintro _ _ ⟨_, ⟨z10, rfl, rfl⟩, rfl⟩
  refine JL.val (v := .tuple #[z10.v, .int .i64 y8.2]) (QV.move rfl) rfl rfl rfl ?_
  refine JL.val (v := z10.v) (QV.extract (vs := [z10.v, .int .i64 y8.2]) rfl rfl) rfl rfl rfl ?_
  refine JL.val (v := .int .i64 y8.2) (QV.extract (vs := [z10.v, .int .i64 y8.2]) rfl rfl) rfl rfl rfl ?_
  refine JL.val (v := z10.v) (QV.assign rfl) rfl rfl rfl ?_
  refine JL.val (v := .int .i64 y8.2) (QV.assign rfl) rfl rfl rfl ?_
  refine JL.nil ?_
  refine QJ.then_normal ?_
  refine JC.seq ?_
  refine JC.seq ?_
  refine JC.region ?_
  refine JL.val (v := .int .i64 y8.2) (QV.move rfl) rfl rfl rfl ?_
  refine JL.val (v := .bool (decide (y8.2 = (0 : Int)))) (QV.eql rfl rfl) rfl rfl rfl ?_
  rcases ite_inv hm with ⟨h11, hm⟩ | ⟨h11, hm⟩
  ·
    refine JL.val (v := .bool true) (QV.eq (QV.move rfl) (congrArg Value.bool (decide_eq_true h11))) rfl rfl rfl ?_
    refine JL.val (v := z10.v) (QV.move rfl) rfl rfl rfl ?_
    refine JL.val (v := .int .i64 ((y8.1).length : Int)) (QV.len (Rdg.of 0 rfl) Try.underlying23 rfl) rfl rfl rfl ?_
    refine JL.val (v := .int .i64 x4) (QV.move rfl) rfl rfl rfl ?_
    refine JL.val (v := .bool (!(decide (((y8.1).length : Int) = x4)))) (QV.neq rfl rfl) rfl rfl rfl ?_
    refine JL.val (v := .bool (!(decide (((y8.1).length : Int) = x4)))) (QV.pickT rfl rfl) rfl rfl rfl ?_
    refine JL.nil ?_
    refine QJ.then_normal ?_
    refine JC.cutK (Y := Int × Unit) (fun y => match y with | (d12, _) => F43.j1 y8 (d12) = some r) (fun y => match y with | (d12, _) => [(8, z10.v), (9, .int .i64 d12)]) (fun y => match y with | (d12, _) => [Asr.of 5 (Enc.int .u8) (z10.v) y8.1]) ?_ ?_
    ·
      rintro ⟨d12, ⟨⟩⟩ hm
      unfold F43.j1 at hm
      show QJ _ _ [(8, z10.v), (9, .int .i64 d12)] [Asr.of 5 (Enc.int .u8) (z10.v) y8.1] _ _
      refine QJ.then_normal ?_
      refine JC.seq ?_
      refine JC.region ?_
      refine JL.val (v := z10.v) (QV.move rfl) rfl rfl rfl ?_
      refine JL.val (v := .int .i64 d12) (QV.move rfl) rfl rfl rfl ?_
      refine JL.val (v := z10.v) (QV.assign rfl) rfl rfl rfl ?_
      refine JL.val (v := .int .i64 d12) (QV.assign rfl) rfl rfl rfl ?_
      refine JL.nil ?_
      refine QJ.then_normal ?_
      refine JC.ret ?_
      obtain rfl := Option.some.inj hm
      exact QJ.body (vs := [z10.v, .int .i64 d12]) (.inl rfl) rfl (ResVs.cons (ResV.tmp rfl) (ResVs.cons (ResV.tmp rfl) ResVs.nil)) [0] rfl rfl (.inr ⟨own_of _ _ _ _, trivial⟩) ⟨z10, rfl, rfl⟩
    ·
      rcases ite_inv hm with ⟨h13, hm⟩ | ⟨h13, hm⟩
      ·
        refine JC.condF' rfl (congrArg Bool.not (decide_eq_true h13)) ?_
        refine JC.skip ?_
        exact QJ.cut_normal (y8.2, ()) hm [0] (by exact ⟨rfl, rfl, trivial⟩) rfl rfl
      ·
        refine JC.condT' rfl (congrArg Bool.not (decide_eq_false h13)) ?_
        refine JC.region ?_
        refine JL.val (v := .int .i64 (5 : Int)) (QV.assign rfl) rfl rfl rfl ?_
        refine JL.nil ?_
        exact QJ.cut_normal ((5 : Int), ()) hm [0] (by exact ⟨rfl, rfl, trivial⟩) rfl rfl
  ·
    refine JL.val (v := .bool false) (QV.eq (QV.move rfl) (congrArg Value.bool (decide_eq_false h11))) rfl rfl rfl ?_
    refine JL.skip (d := some 22) rfl rfl rfl ?_
    refine JL.skip (d := some 23) rfl rfl rfl ?_
    refine JL.skip (d := some 24) rfl rfl rfl ?_
    refine JL.skip (d := some 25) rfl rfl rfl ?_
    refine JL.val (v := .bool false) (QV.pickF rfl rfl) rfl rfl rfl ?_
    refine JL.nil ?_
    refine QJ.then_normal ?_
    refine JC.condF rfl ?_
    refine JC.skip ?_
    refine QJ.then_normal ?_
    refine JC.seq ?_
    refine JC.region ?_
    refine JL.val (v := z10.v) (QV.move rfl) rfl rfl rfl ?_
    refine JL.val (v := .int .i64 y8.2) (QV.move rfl) rfl rfl rfl ?_
    refine JL.val (v := z10.v) (QV.assign rfl) rfl rfl rfl ?_
    refine JL.val (v := .int .i64 y8.2) (QV.assign rfl) rfl rfl rfl ?_
    refine JL.nil ?_
    refine QJ.then_normal ?_
    refine JC.ret ?_
    obtain rfl := Option.some.inj hm
    exact QJ.body (vs := [z10.v, .int .i64 y8.2]) (.inl rfl) rfl (ResVs.cons (ResV.tmp rfl) (ResVs.cons (ResV.tmp rfl) ResVs.nil)) [0] rfl rfl (.inr ⟨own_of _ _ _ _, trivial⟩) ⟨z10, rfl, rfl⟩

/-! ### 16: drogher/plan.Eval -/
noncomputable def F16.j1  (d15 : List Int) : Option (List Int × Int) :=
  some (d15, (0 : Int))
noncomputable def F16.j2 (d18 : Int) (d28 : List Int) : Option ((List Int × Int) ⊕ (((List Int × Int)) ⊕ (List Int))) :=
  some (.inl (d28, (IntKind.wrap .i64 (d18 + (1 : Int)))))
noncomputable def F16.j3 (d17 : List Int) (d18 : Int) (d38 : List Int) : Option ((List Int × Int) ⊕ (((List Int × Int)) ⊕ (List Int))) :=
  (if ((d17).length + (d38).length) * 1 ≤ 140737488355328 ∧ (d17).length + (d38).length ≤ 9223372036854775807 then F16.j2 d18 ((d17 ++ d38)) else none)
noncomputable def F16.b2 (x2 : List (Int × Int × Int × (List Int))) (d18 : Int) : (List Int × Int) → Option ((List Int × Int) ⊕ (List Int))
  | (d41, d42) => (if d42 < (((gd x2 d18).2.2.2).length : Int) then (if 0 ≤ d42 ∧ d42 < ((d41).length : Int) then (if 0 ≤ d42 ∧ d42 < (((gd x2 d18).2.2.2).length : Int) then some (.inl ((List.set d41 (Int.toNat d42) (IntKind.wrap .u8 ((gd d41 d42) + (gd (gd x2 d18).2.2.2 d42)))), (IntKind.wrap .i64 (d42 + (1 : Int))))) else none) else none) else some (.inr d41))
noncomputable def F16.b1 (x2 : List (Int × Int × Int × (List Int))) (x5 : List Int) : (List Int × Int) → Option ((List Int × Int) ⊕ (((List Int × Int)) ⊕ (List Int)))
  | (d17, d18) => (if d18 < ((x2).length : Int) then (if 0 ≤ d18 ∧ d18 < ((x2).length : Int) then (if (gd x2 d18).1 = (1 : Int) then (if ((d17).length + ((gd x2 d18).2.2.2).length) * 1 ≤ 140737488355328 ∧ (d17).length + ((gd x2 d18).2.2.2).length ≤ 9223372036854775807 then F16.j2 d18 ((d17 ++ (gd x2 d18).2.2.2)) else none) else ((F43.m (x5) ((gd x2 d18).2.1) ((gd x2 d18).2.2.1)).bind fun y34 => (if y34.2 = (0 : Int) then ((loop (F16.b2 x2 d18) (y34.1, (0 : Int))).bind fun y => match y with | d38 => F16.j3 d17 d18 (d38)) else some (.inr (.inl ((([] : List Int), y34.2))))))) else none) else some (.inr (.inr (d17))))
noncomputable def F16.m (x2 : List (Int × Int × Int × (List Int))) (x5 : List Int) (x6 : Int) : Option (List Int × Int) :=
  ((F42.m (x2)).bind fun y10 => (if y10 < (0 : Int) then some (([] : List Int), (3 : Int)) else (if y10 = x6 then ((loop (F16.b1 x2 x5) (([] : List Int), (0 : Int))).bind fun y => match y with | .inl r => some r | .inr d15 => F16.j1 (d15)) else some (([] : List Int), (13 : Int)))))
set_option maxRecDepth 100000 in
set_option maxHeartbeats 4000000 in
theorem F16.spec (s1 : SlV) (z3 : List (Unit × Unit × Unit × SlV)) (s4 : SlV) (x2 : List (Int × Int × Int × (List Int))) (x5 : List Int) (x6 : Int) (r : (List Int × Int)) (hm : F16.m x2 x5 x6 = some r) :
    Ctr Try.prog false 16 [s1.v, .iface 29 (s4.v), .int .i64 x6] [Asr.vn (NE.pair (NE.flat (Enc.int .u8)) (NE.pair (NE.flat (Enc.int .i64)) (NE.pair (NE.flat (Enc.int .i64)) (NE.sl (Enc.int .u8))))) (s1.v) z3 x2, Asr.vw (Enc.int .u8) (s4.v) x5] (fun v L' => ∃ (g7 : SlV), v = .tuple #[g7.v, .int .i64 r.2] ∧ L' = [Asr.of 5 (Enc.int .u8) (g7.v) r.1]) := by
  refine Ctr.intro (n := 72) (env := [(0, s1.v), (1, .iface 29 (s4.v)), (2, .int .i64 x6)]) Try.func16 rfl rfl rfl rfl (fun c => ?_)
  unfold F16.m at hm
  refine JC.seq ?_
  refine JC.region ?_
  refine JL.ent (fun _ hs => hs.nil 5 (Enc.int .u8)) ?_
  refine JL.val (v := SlV.nil.v) (QV.assign rfl) rfl rfl rfl ?_
  refine JL.val (v := .int .i64 (0 : Int)) (QV.assign rfl) rfl rfl rfl ?_
  refine JL.nil ?_
  refine QJ.then_normal ?_
  refine JC.seq ?_
  refine JC.seq ?_
  refine JC.region ?_
  refine JL.val (v := s1.v) (QV.move rfl) rfl rfl rfl ?_
  obtain ⟨y10, hc11, hm⟩ := bind_inv hm
  refine JL.mv (d := some 16) (MV.call (Lo := []) (Lr := [Asr.of 5 (Enc.int .u8) (SlV.nil.v) ([] : List Int), Asr.vn (NE.pair (NE.flat (Enc.int .u8)) (NE.pair (NE.flat (Enc.int .i64)) (NE.pair (NE.flat (Enc.int .i64)) (NE.sl (Enc.int .u8))))) (s1.v) z3 x2, Asr.vw (Enc.int .u8) (s4.v) x5]) (F42.spec (s1) (z3) (x2) _ hc11) rfl Try.func42 rfl rfl rfl [] [0, 1, 2] rfl rfl rfl ⟨(Drv.vn 1 rfl), trivial⟩) rfl rfl rfl ?_
  rintro _ _ ⟨_, ⟨rfl, rfl⟩, rfl⟩
  refine JL.val (v := .int .i64 y10) (QV.assign rfl) rfl rfl rfl ?_
  refine JL.nil ?_
  refine QJ.then_normal ?_
  refine JC.block ?_
  refine JC.seq ?_
  refine JC.region ?_
  refine JL.val (v := .int .i64 y10) (QV.move rfl) rfl rfl rfl ?_
  refine JL.val (v := .bool (decide (y10 < (0 : Int)))) (QV.lss rfl rfl) rfl rfl rfl ?_
  refine JL.val (v := .bool (decide (y10 < (0 : Int)))) (QV.assign rfl) rfl rfl rfl ?_
  refine JL.nil ?_
  refine QJ.then_normal ?_
  rcases ite_inv hm with ⟨h12, hm⟩ | ⟨h12, hm⟩
  ·
    refine JC.condT' rfl (decide_eq_true h12) ?_
    refine JC.seq ?_
    refine JC.region ?_
    refine JL.ent (fun _ hs => hs.nil 5 (Enc.int .u8)) ?_
    refine JL.val (v := SlV.nil.v) (QV.assign rfl) rfl rfl rfl ?_
    refine JL.val (v := .int .i64 (3 : Int)) (QV.assign rfl) rfl rfl rfl ?_
    refine JL.nil ?_
    refine QJ.then_normal ?_
    refine JC.ret ?_
    refine QJ.block_ret ?_
    refine QJ.then_ret ?_
    obtain rfl := Option.some.inj hm
    exact QJ.body (vs := [SlV.nil.v, .int .i64 (3 : Int)]) (.inl rfl) rfl (ResVs.cons (ResV.tmp rfl) (ResVs.cons (ResV.tmp rfl) ResVs.nil)) [0] rfl rfl (.inr ⟨own_of _ _ _ _, trivial⟩) ⟨(SlV.nil), rfl, rfl⟩
  ·
    refine JC.condF' rfl (decide_eq_false h12) ?_
    refine JC.seq ?_
    refine JC.region ?_
    refine JL.val (v := .int .i64 y10) (QV.move rfl) rfl rfl rfl ?_
    refine JL.val (v := .int .i64 x6) (QV.move rfl) rfl rfl rfl ?_
    refine JL.val (v := .bool (!(decide (y10 = x6)))) (QV.neq rfl rfl) rfl rfl rfl ?_
    refine JL.val (v := .bool (!(decide (y10 = x6)))) (QV.assign rfl) rfl rfl rfl ?_
    refine JL.nil ?_
    refine QJ.then_normal ?_
    rcases ite_inv hm with ⟨h13, hm⟩ | ⟨h13, hm⟩
    ·
      refine JC.condF' rfl (congrArg Bool.not (decide_eq_true h13)) ?_
      refine JC.skip ?_
      refine QJ.block_normal ?_
      refine QJ.then_normal ?_
      refine JC.seq ?_
      refine JC.region ?_
      refine JL.ent (fun _ hs => hs.nil 5 (Enc.int .u8)) ?_
      refine JL.val (v := SlV.nil.v) (QV.assign rfl) rfl rfl rfl ?_
      refine JL.nil ?_
      refine QJ.then_normal ?_
      refine JC.seq ?_
      refine JC.seq ?_
      refine JC.region ?_
      refine JL.val (v := s1.v) (QV.move rfl) rfl rfl rfl ?_
      refine JL.val (v := .int .i64 ((x2).length : Int)) (QV.lenN (RdN.vn 2 rfl) Try.underlying22 rfl) rfl rfl rfl ?_
      refine JL.val (v := .int .i64 (0 : Int)) (QV.move rfl) rfl rfl rfl ?_
      refine JL.nil ?_
      refine QJ.then_normal ?_
      refine JC.cutK (Y := (List Int) × SlV) (fun y => match y with | (d15, _) => F16.j1 (d15) = some r) (fun y => match y with | (d15, z14) => [(9, z14.v)]) (fun y => match y with | (d15, z14) => [Asr.of 5 (Enc.int .u8) (z14.v) d15]) ?_ ?_
      ·
        rintro ⟨d15, z14⟩ hm
        unfold F16.j1 at hm
        show QJ _ _ [(9, z14.v)] [Asr.of 5 (Enc.int .u8) (z14.v) d15] _ _
        refine QJ.then_normal ?_
        refine JC.seq ?_
        refine JC.region ?_
        refine JL.val (v := z14.v) (QV.move rfl) rfl rfl rfl ?_
        refine JL.val (v := z14.v) (QV.assign rfl) rfl rfl rfl ?_
        refine JL.val (v := .int .i64 (0 : Int)) (QV.assign rfl) rfl rfl rfl ?_
        refine JL.nil ?_
        refine QJ.then_normal ?_
        refine JC.ret ?_
        obtain rfl := Option.some.inj hm
        exact QJ.body (vs := [z14.v, .int .i64 (0 : Int)]) (.inl rfl) rfl (ResVs.cons (ResV.tmp rfl) (ResVs.cons (ResV.tmp rfl) ResVs.nil)) [0] rfl rfl (.inr ⟨own_of _ _ _ _, trivial⟩) ⟨z14, rfl, rfl⟩
      ·
        refine JC.block ?_
        obtain ⟨y22, hl23, hmo24⟩ := bind_inv hm
        refine JC.loop (F16.b1 x2 x5) (fun x z => match x, z with | (d17, d18), z16 => [(1, .iface 29 (s4.v)), (9, z16.v), (24, s1.v), (25, .int .i64 ((x2).length : Int)), (26, .int .i64 d18)]) (fun x z => match x, z with | (d17, d18), z16 => [Asr.vw (Enc.int .u8) (s4.v) x5, Asr.of 5 (Enc.int .u8) (z16.v) d17, Asr.vn (NE.pair (NE.flat (Enc.int .u8)) (NE.pair (NE.flat (Enc.int .i64)) (NE.pair (NE.flat (Enc.int .i64)) (NE.sl (Enc.int .u8))))) (s1.v) z3 x2]) (([] : List Int), (0 : Int)) SlV.nil y22 hl23 [3, 0, 2] (by exact ⟨rfl, rfl, rfl, rfl, rfl, trivial⟩) rfl rfl ?_
        rintro ⟨d17, d18⟩ z16 s25 hm
        unfold F16.b1 at hm
        dsimp only at hm
        show JC _ _ _ [(1, .iface 29 (s4.v)), (9, z16.v), (24, s1.v), (25, .int .i64 ((x2).length : Int)), (26, .int .i64 d18)] [Asr.vw (Enc.int .u8) (s4.v) x5, Asr.of 5 (Enc.int .u8) (z16.v) d17, Asr.vn (NE.pair (NE.flat (Enc.int .u8)) (NE.pair (NE.flat (Enc.int .i64)) (NE.pair (NE.flat (Enc.int .i64)) (NE.sl (Enc.int .u8))))) (s1.v) z3 x2] _ _
        refine JC.seq ?_
        refine JC.region ?_
        refine JL.val (v := .bool (decide (d18 < ((x2).length : Int)))) (QV.lss rfl rfl) rfl rfl rfl ?_
        refine JL.nil ?_
        refine QJ.then_normal ?_
        refine JC.seq ?_
        rcases ite_inv hm with ⟨h26, hm⟩ | ⟨h26, hm⟩
        ·
          refine JC.condT' rfl (decide_eq_true h26) ?_
          refine JC.skip ?_
          refine QJ.then_normal ?_
          refine JC.seq ?_
          refine JC.cutK (Y := (List Int) × SlV) (fun y => match y with | (d28, _) => F16.j2 d18 (d28) = some s25) (fun y => match y with | (d28, z27) => [(1, .iface 29 (s4.v)), (9, z27.v), (24, s1.v), (25, .int .i64 ((x2).length : Int)), (26, .int .i64 d18)]) (fun y => match y with | (d28, z27) => [Asr.vw (Enc.int .u8) (s4.v) x5, Asr.of 5 (Enc.int .u8) (z27.v) d28, Asr.vn (NE.pair (NE.flat (Enc.int .u8)) (NE.pair (NE.flat (Enc.int .i64)) (NE.pair (NE.flat (Enc.int .i64)) (NE.sl (Enc.int .u8))))) (s1.v) z3 x2]) ?_ ?_
          ·
            rintro ⟨d28, z27⟩ hm
            unfold F16.j2 at hm
            show QJ _ _ [(1, .iface 29 (s4.v)), (9, z27.v), (24, s1.v), (25, .int .i64 ((x2).length : Int)), (26, .int .i64 d18)] [Asr.vw (Enc.int .u8) (s4.v) x5, Asr.of 5 (Enc.int .u8) (z27.v) d28, Asr.vn (NE.pair (NE.flat (Enc.int .u8)) (NE.pair (NE.flat (Enc.int .i64)) (NE.pair (NE.flat (Enc.int .i64)) (NE.sl (Enc.int .u8))))) (s1.v) z3 x2] _ _
            refine QJ.then_normal ?_
            refine JC.region ?_
            refine JL.val (v := .int .i64 (IntKind.wrap .i64 (d18 + (1 : Int)))) (QV.add rfl rfl) rfl rfl rfl ?_
            refine JL.val (v := .int .i64 (IntKind.wrap .i64 (d18 + (1 : Int)))) (QV.move rfl) rfl rfl rfl ?_
            refine JL.nil ?_
            obtain rfl := Option.some.inj hm
            exact QJ.round_on (d28, (IntKind.wrap .i64 (d18 + (1 : Int)))) z27 [0, 1, 2] (by exact ⟨rfl, rfl, rfl, rfl, rfl, trivial⟩) rfl rfl
          ·
            refine JC.block ?_
            refine JC.seq ?_
            refine JC.region ?_
            obtain ⟨h29, hm⟩ := guard_inv hm
            refine JL.val (v := .pointer (some (elA (s1.v) (Int.toNat d18 * ((NE.pair (NE.flat (Enc.int .u8)) (NE.pair (NE.flat (Enc.int .i64)) (NE.pair (NE.flat (Enc.int .i64)) (NE.sl (Enc.int .u8))))).E).sz)))) (QV.indexN (RdN.vn 2 rfl) Try.underlying22 tk_35 rfl rfl h29) rfl rfl rfl ?_
            refine JL.val (v := .agg #[.int .u8 (gd x2 d18).1, .int .i64 (gd x2 d18).2.1, .int .i64 (gd x2 d18).2.2.1, (gd z3 d18).2.2.2.v]) (QV.eq (QV.elNN (RdN.vn 2 rfl) tk_35 rfl h29) rfl) rfl rfl rfl ?_
            refine JL.ent (fun _ hs => hs.nil 5 (Enc.int .u8)) ?_
            refine JL.mv (d := some 11) (MV.alloc [Seg.c (.int .u8 (0 : Int)), Seg.c (.int .i64 (0 : Int)), Seg.c (.int .i64 (0 : Int)), Seg.c (SlV.nil.v)] z_35 rfl) rfl rfl rfl ?_
            rintro _ _ ⟨b30, rfl, rfl⟩
            refine JL.ent (fun _ hs => hs.derive (Drv.el (K := (NE.pair (NE.flat (Enc.int .u8)) (NE.pair (NE.flat (Enc.int .i64)) (NE.pair (NE.flat (Enc.int .i64)) (NE.sl (Enc.int .u8)))))) (A := Asr.vw (Enc.int .u8) ((gd z3 d18).2.2.2.v) (gd x2 d18).2.2.2) (Drv.vn 4 rfl) h29 (fun _ _ q => q.2.2.2))) ?_
            refine JL.mv (d := none) (MV.store (ss := [Seg.c (.int .u8 (0 : Int)), Seg.c (.int .i64 (0 : Int)), Seg.c (.int .i64 (0 : Int)), Seg.c (SlV.nil.v)]) 1 0 4 [Seg.c (.int .u8 (gd x2 d18).1), Seg.c (.int .i64 (gd x2 d18).2.1), Seg.c (.int .i64 (gd x2 d18).2.2.1), Seg.c ((gd z3 d18).2.2.2.v)] rfl tk_35 rfl rfl rfl rfl (fun w hs => ⟨rfl, one_c rfl, one_c rfl, one_c rfl, one_sl (Rdg.vw 0 rfl) hs, trivial⟩)) rfl rfl rfl ?_
            rintro _ _ ⟨rfl, rfl⟩
            refine JL.nil ?_
            refine QJ.then_normal ?_
            refine JC.seq ?_
            refine JC.seq ?_
            refine JC.region ?_
            refine JL.val (v := .pointer (some ⟨b30, 0, none⟩)) (QV.fieldB fo_35_0 rfl rfl) rfl rfl rfl ?_
            refine JL.val (v := .int .u8 (gd x2 d18).1) (QV.load1 (ss := [Seg.c (.int .u8 (gd x2 d18).1), Seg.c (.int .i64 (gd x2 d18).2.1), Seg.c (.int .i64 (gd x2 d18).2.2.1), Seg.c ((gd z3 d18).2.2.2.v)]) 1 0 rfl tk_5 rfl rfl rfl) rfl rfl rfl ?_
            refine JL.val (v := .bool (decide ((gd x2 d18).1 = (1 : Int)))) (QV.eql rfl rfl) rfl rfl rfl ?_
            refine JL.nil ?_
            refine QJ.then_normal ?_
            rcases ite_inv hm with ⟨h31, hm⟩ | ⟨h31, hm⟩
            ·
              refine JC.condT' rfl (decide_eq_true h31) ?_
              refine JC.seq ?_
              refine JC.region ?_
              refine JL.val (v := z16.v) (QV.move rfl) rfl rfl rfl ?_
              refine JL.val (v := .pointer (some ⟨b30, 3, none⟩)) (QV.fieldB fo_35_3 rfl rfl) rfl rfl rfl ?_
              refine JL.val (v := (gd z3 d18).2.2.2.v) (QV.load1 (ss := [Seg.c (.int .u8 (gd x2 d18).1), Seg.c (.int .i64 (gd x2 d18).2.1), Seg.c (.int .i64 (gd x2 d18).2.2.1), Seg.c ((gd z3 d18).2.2.2.v)]) 1 3 rfl tk_23 rfl rfl rfl) rfl rfl rfl ?_
              obtain ⟨h32, hm⟩ := guard_inv hm
              refine JL.mv (d := some 36) (MV.append 4 rfl (Rdg.vw 0 rfl) Try.underlying23 zi_5 rfl (by decide) rfl rfl h32) rfl rfl rfl ?_
              rintro _ _ ⟨z33, rfl, rfl⟩
              refine JL.val (v := z33.v) (QV.assign rfl) rfl rfl rfl ?_
              refine JL.nil ?_
              refine QJ.then_normal ?_
              refine JC.exit ?_
              refine QJ.then_exit ?_
              refine QJ.block_hit ?_
              exact QJ.cut_normal ((d17 ++ (gd x2 d18).2.2.2), z33) hm [3, 4, 5] (by exact ⟨rfl, rfl, rfl, rfl, rfl, trivial⟩) rfl rfl
            ·
              refine JC.condF' rfl (decide_eq_false h31) ?_
              refine JC.skip ?_
              refine QJ.then_normal ?_
              refine JC.seq ?_
              refine JC.region ?_
              refine JL.val (v := .iface 29 (s4.v)) (QV.move rfl) rfl rfl rfl ?_
              refine JL.val (v := .pointer (some ⟨b30, 1, none⟩)) (QV.fieldB fo_35_1 rfl rfl) rfl rfl rfl ?_
              refine JL.val (v := .int .i64 (gd x2 d18).2.1) (QV.load1 (ss := [Seg.c (.int .u8 (gd x2 d18).1), Seg.c (.int .i64 (gd x2 d18).2.1), Seg.c (.int .i64 (gd x2 d18).2.2.1), Seg.c ((gd z3 d18).2.2.2.v)]) 1 1 rfl tk_3 rfl rfl rfl) rfl rfl rfl ?_
              refine JL.val (v := .pointer (some ⟨b30, 2, none⟩)) (QV.fieldB fo_35_2 rfl rfl) rfl rfl rfl ?_
              refine JL.val (v := .int .i64 (gd x2 d18).2.2.1) (QV.load1 (ss := [Seg.c (.int .u8 (gd x2 d18).1), Seg.c (.int .i64 (gd x2 d18).2.1), Seg.c (.int .i64 (gd x2 d18).2.2.1), Seg.c ((gd z3 d18).2.2.2.v)]) 1 2 rfl tk_3 rfl rfl rfl) rfl rfl rfl ?_
              obtain ⟨y34, hc35, hm⟩ := bind_inv hm
              refine JL.mv (d := some 43) (MV.call (Lo := []) (Lr := [Asr.vw (Enc.int .u8) ((gd z3 d18).2.2.2.v) (gd x2 d18).2.2.2, Asr.blk b30 35 [Seg.c (.int .u8 (gd x2 d18).1), Seg.c (.int .i64 (gd x2 d18).2.1), Seg.c (.int .i64 (gd x2 d18).2.2.1), Seg.c ((gd z3 d18).2.2.2.v)], Asr.of 5 (Enc.int .u8) (SlV.nil.v) ([] : List Int), Asr.vw (Enc.int .u8) (s4.v) x5, Asr.of 5 (Enc.int .u8) (z16.v) d17, Asr.vn (NE.pair (NE.flat (Enc.int .u8)) (NE.pair (NE.flat (Enc.int .i64)) (NE.pair (NE.flat (Enc.int .i64)) (NE.sl (Enc.int .u8))))) (s1.v) z3 x2]) (F43.spec (s4) (x5) ((gd x2 d18).2.1) ((gd x2 d18).2.2.1) _ hc35) rfl Try.func43 rfl rfl rfl [] [0, 1, 2, 3, 4, 5] rfl rfl rfl ⟨(Drv.vw 3 rfl), trivial⟩) rfl rfl rfl ?_
              rintro _ _ ⟨_, ⟨z36, rfl, rfl⟩, rfl⟩
              refine JL.val (v := .tuple #[z36.v, .int .i64 y34.2]) (QV.move rfl) rfl rfl rfl ?_
              refine JL.val (v := z36.v) (QV.extract (vs := [z36.v, .int .i64 y34.2]) rfl rfl) rfl rfl rfl ?_
              refine JL.val (v := .int .i64 y34.2) (QV.extract (vs := [z36.v, .int .i64 y34.2]) rfl rfl) rfl rfl rfl ?_
              refine JL.val (v := z36.v) (QV.assign rfl) rfl rfl rfl ?_
              refine JL.val (v := .int .i64 y34.2) (QV.assign rfl) rfl rfl rfl ?_
              refine JL.nil ?_
              refine QJ.then_normal ?_
              refine JC.seq ?_
              refine JC.seq ?_
              refine JC.region ?_
              refine JL.val (v := .int .i64 y34.2) (QV.move rfl) rfl rfl rfl ?_
              refine JL.val (v := .bool (!(decide (y34.2 = (0 : Int))))) (QV.neq rfl rfl) rfl rfl rfl ?_
              refine JL.nil ?_
              refine QJ.then_normal ?_
              rcases ite_inv hm with ⟨h37, hm⟩ | ⟨h37, hm⟩
              ·
                refine JC.condF' rfl (congrArg Bool.not (decide_eq_true h37)) ?_
                refine JC.skip ?_
                refine QJ.then_normal ?_
                refine JC.seq ?_
                refine JC.seq ?_
                refine JC.region ?_
                refine JL.val (v := .pointer (some ⟨b30, 3, none⟩)) (QV.fieldB fo_35_3 rfl rfl) rfl rfl rfl ?_
                refine JL.val (v := (gd z3 d18).2.2.2.v) (QV.load1 (ss := [Seg.c (.int .u8 (gd x2 d18).1), Seg.c (.int .i64 (gd x2 d18).2.1), Seg.c (.int .i64 (gd x2 d18).2.2.1), Seg.c ((gd z3 d18).2.2.2.v)]) 2 3 rfl tk_23 rfl rfl rfl) rfl rfl rfl ?_
                refine JL.val (v := .int .i64 (((gd x2 d18).2.2.2).length : Int)) (QV.len (Rdg.vw 1 rfl) Try.underlying23 rfl) rfl rfl rfl ?_
                refine JL.val (v := .int .i64 (0 : Int)) (QV.move rfl) rfl rfl rfl ?_
                refine JL.nil ?_
                refine QJ.then_normal ?_
                refine JC.cutK (Y := (List Int) × Unit) (fun y => match y with | (d38, _) => F16.j3 d17 d18 (d38) = some s25) (fun y => match y with | (d38, _) => [(1, .iface 29 (s4.v)), (9, z16.v), (12, z36.v), (24, s1.v), (25, .int .i64 ((x2).length : Int)), (26, .int .i64 d18)]) (fun y => match y with | (d38, _) => [Asr.vw (Enc.int .u8) (s4.v) x5, Asr.of 5 (Enc.int .u8) (z16.v) d17, Asr.of 5 (Enc.int .u8) (z36.v) d38, Asr.vn (NE.pair (NE.flat (Enc.int .u8)) (NE.pair (NE.flat (Enc.int .i64)) (NE.pair (NE.flat (Enc.int .i64)) (NE.sl (Enc.int .u8))))) (s1.v) z3 x2]) ?_ ?_
                ·
                  rintro ⟨d38, ⟨⟩⟩ hm
                  unfold F16.j3 at hm
                  show QJ _ _ [(1, .iface 29 (s4.v)), (9, z16.v), (12, z36.v), (24, s1.v), (25, .int .i64 ((x2).length : Int)), (26, .int .i64 d18)] [Asr.vw (Enc.int .u8) (s4.v) x5, Asr.of 5 (Enc.int .u8) (z16.v) d17, Asr.of 5 (Enc.int .u8) (z36.v) d38, Asr.vn (NE.pair (NE.flat (Enc.int .u8)) (NE.pair (NE.flat (Enc.int .i64)) (NE.pair (NE.flat (Enc.int .i64)) (NE.sl (Enc.int .u8))))) (s1.v) z3 x2] _ _
                  refine QJ.then_normal ?_
                  refine JC.region ?_
                  refine JL.val (v := z16.v) (QV.move rfl) rfl rfl rfl ?_
                  refine JL.val (v := z36.v) (QV.move rfl) rfl rfl rfl ?_
                  obtain ⟨h39, hm⟩ := guard_inv hm
                  refine JL.mv (d := some 69) (MV.append 1 rfl (Rdg.of 2 rfl) Try.underlying23 zi_5 rfl (by decide) rfl rfl h39) rfl rfl rfl ?_
                  rintro _ _ ⟨z40, rfl, rfl⟩
                  refine JL.val (v := z40.v) (QV.assign rfl) rfl rfl rfl ?_
                  refine JL.nil ?_
                  refine QJ.block_normal ?_
                  exact QJ.cut_normal ((d17 ++ d38), z40) hm [0, 1, 3] (by exact ⟨rfl, rfl, rfl, rfl, rfl, trivial⟩) rfl rfl
                ·
                  refine JC.block ?_
                  obtain ⟨y45, hl46, hmo47⟩ := bind_inv hm
                  refine JC.loop (F16.b2 x2 d18) (fun x z => match x, z with | (d41, d42), _ => [(1, .iface 29 (s4.v)), (9, z16.v), (11, .pointer (some ⟨b30, 0, none⟩)), (12, z36.v), (24, s1.v), (25, .int .i64 ((x2).length : Int)), (26, .int .i64 d18), (51, .int .i64 (((gd x2 d18).2.2.2).length : Int)), (52, .int .i64 d42)]) (fun x z => match x, z with | (d41, d42), _ => [Asr.vw (Enc.int .u8) (s4.v) x5, Asr.of 5 (Enc.int .u8) (z16.v) d17, Asr.vw (Enc.int .u8) ((gd z3 d18).2.2.2.v) (gd x2 d18).2.2.2, Asr.blk b30 35 [Seg.c (.int .u8 (gd x2 d18).1), Seg.c (.int .i64 (gd x2 d18).2.1), Seg.c (.int .i64 (gd x2 d18).2.2.1), Seg.c ((gd z3 d18).2.2.2.v)], Asr.of 5 (Enc.int .u8) (z36.v) d41, Asr.vn (NE.pair (NE.flat (Enc.int .u8)) (NE.pair (NE.flat (Enc.int .i64)) (NE.pair (NE.flat (Enc.int .i64)) (NE.sl (Enc.int .u8))))) (s1.v) z3 x2]) (y34.1, (0 : Int)) () y45 hl46 [4, 5, 1, 2, 0, 6] (by exact ⟨rfl, rfl, rfl, rfl, rfl, rfl, rfl, rfl, rfl, trivial⟩) rfl rfl ?_
                  rintro ⟨d41, d42⟩ ⟨⟩ s48 hm
                  unfold F16.b2 at hm
                  dsimp only at hm
                  show JC _ _ _ [(1, .iface 29 (s4.v)), (9, z16.v), (11, .pointer (some ⟨b30, 0, none⟩)), (12, z36.v), (24, s1.v), (25, .int .i64 ((x2).length : Int)), (26, .int .i64 d18), (51, .int .i64 (((gd x2 d18).2.2.2).length : Int)), (52, .int .i64 d42)] [Asr.vw (Enc.int .u8) (s4.v) x5, Asr.of 5 (Enc.int .u8) (z16.v) d17, Asr.vw (Enc.int .u8) ((gd z3 d18).2.2.2.v) (gd x2 d18).2.2.2, Asr.blk b30 35 [Seg.c (.int .u8 (gd x2 d18).1), Seg.c (.int .i64 (gd x2 d18).2.1), Seg.c (.int .i64 (gd x2 d18).2.2.1), Seg.c ((gd z3 d18).2.2.2.v)], Asr.of 5 (Enc.int .u8) (z36.v) d41, Asr.vn (NE.pair (NE.flat (Enc.int .u8)) (NE.pair (NE.flat (Enc.int .i64)) (NE.pair (NE.flat (Enc.int .i64)) (NE.sl (Enc.int .u8))))) (s1.v) z3 x2] _ _
                  refine JC.seq ?_
                  refine JC.region ?_
                  refine JL.val (v := .bool (decide (d42 < (((gd x2 d18).2.2.2).length : Int)))) (QV.lss rfl rfl) rfl rfl rfl ?_
                  refine JL.nil ?_
                  refine QJ.then_normal ?_
                  refine JC.seq ?_
                  rcases ite_inv hm with ⟨h49, hm⟩ | ⟨h49, hm⟩
                  ·
                    refine JC.condT' rfl (decide_eq_true h49) ?_
                    refine JC.skip ?_
                    refine QJ.then_normal ?_
                    refine JC.seq ?_
                    refine JC.block ?_
                    refine JC.seq ?_
                    refine JC.region ?_
                    refine JL.val (v := .int .i64 d42) (QV.move rfl) rfl rfl rfl ?_
                    refine JL.val (v := .int .i64 d42) (QV.assign rfl) rfl rfl rfl ?_
                    refine JL.nil ?_
                    refine QJ.then_normal ?_
                    refine JC.regionT [Asr.vw (Enc.int .u8) (s4.v) x5, Asr.of 5 (Enc.int .u8) (z16.v) d17, Asr.vw (Enc.int .u8) ((gd z3 d18).2.2.2.v) (gd x2 d18).2.2.2, Asr.blk b30 35 [Seg.c (.int .u8 (gd x2 d18).1), Seg.c (.int .i64 (gd x2 d18).2.1), Seg.c (.int .i64 (gd x2 d18).2.2.1), Seg.c ((gd z3 d18).2.2.2.v)], Asr.of 5 (Enc.int .u8) (z36.v) d41, Asr.vn (NE.pair (NE.flat (Enc.int .u8)) (NE.pair (NE.flat (Enc.int .i64)) (NE.pair (NE.flat (Enc.int .i64)) (NE.sl (Enc.int .u8))))) (s1.v) z3 x2] (fun t => Nat.beq t 11) [(0, true), (1, true), (2, true), (3, true), (4, true), (5, true), (6, false), (7, false), (8, false), (9, false), (10, false), (11, false)] (by kernel_rfl) (by kernel_rfl) (by kernel_rfl) rfl (fun hsel => ?_)
                    refine JT.take (i := 0) (v := z36.v) hsel rfl (QV.move rfl) rfl rfl rfl [0, 1, 2, 3, 4, 5] rfl rfl ?_
                    refine JT.take (i := 1) (v := .int .i64 d42) hsel rfl (QV.move rfl) rfl rfl rfl [0, 1, 2, 3, 4, 5] rfl rfl ?_
                    obtain ⟨h50, hm⟩ := guard_inv hm
                    refine JT.take (i := 2) (v := .pointer (some (elA (z36.v) (Int.toNat d42 * ((Enc.int .u8)).sz)))) hsel rfl (QV.indexA (Rdg.of 4 rfl) Try.underlying23 tk_5 rfl rfl h50) rfl rfl rfl [0, 1, 2, 3, 4, 5] rfl rfl ?_
                    refine JT.take (i := 3) (v := .int .u8 (gd d41 d42)) hsel rfl (QV.el1 (Rdg.of 4 rfl) tk_5 rfl h50 rfl) rfl rfl rfl [0, 1, 2, 3, 4, 5] rfl rfl ?_
                    refine JT.take (i := 4) (v := .pointer (some ⟨b30, 3, none⟩)) hsel rfl (QV.fieldB fo_35_3 rfl rfl) rfl rfl rfl [0, 1, 2, 3, 4, 5] rfl rfl ?_
                    refine JT.take (i := 5) (v := (gd z3 d18).2.2.2.v) hsel rfl (QV.load1 (ss := [Seg.c (.int .u8 (gd x2 d18).1), Seg.c (.int .i64 (gd x2 d18).2.1), Seg.c (.int .i64 (gd x2 d18).2.2.1), Seg.c ((gd z3 d18).2.2.2.v)]) 3 3 rfl tk_23 rfl rfl rfl) rfl rfl rfl [0, 1, 2, 3, 4, 5] rfl rfl ?_
                    refine JT.only (i := 6) (d := some 61) rfl (MV.ofQV (v := .int .i64 d42) (QV.move rfl)) rfl rfl rfl ?_
                    rintro _ _ ⟨rfl, rfl⟩
                    refine ⟨fun _ => ⟨[0, 1, 2, 3, 4, 5], rfl, rfl⟩, ?_⟩
                    obtain ⟨h51, hm⟩ := guard_inv hm
                    refine JT.only (i := 7) (d := some 62) rfl (MV.ofQV (v := .pointer (some (elA ((gd z3 d18).2.2.2.v) (Int.toNat d42 * ((Enc.int .u8)).sz)))) (QV.indexA (Rdg.vw 2 rfl) Try.underlying23 tk_5 rfl rfl h51)) rfl rfl rfl ?_
                    rintro _ _ ⟨rfl, rfl⟩
                    refine ⟨fun _ => ⟨[0, 1, 2, 3, 4, 5], rfl, rfl⟩, ?_⟩
                    refine JT.only (i := 8) (d := some 63) rfl (MV.ofQV (v := .int .u8 (gd (gd x2 d18).2.2.2 d42)) (QV.el1 (Rdg.vw 2 rfl) tk_5 rfl h51 rfl)) rfl rfl rfl ?_
                    rintro _ _ ⟨rfl, rfl⟩
                    refine ⟨fun _ => ⟨[0, 1, 2, 3, 4, 5], rfl, rfl⟩, ?_⟩
                    refine JT.only (i := 9) (d := some 64) rfl (MV.ofQV (v := .int .u8 (IntKind.wrap .u8 ((gd d41 d42) + (gd (gd x2 d18).2.2.2 d42)))) (QV.add rfl rfl)) rfl rfl rfl ?_
                    rintro _ _ ⟨rfl, rfl⟩
                    refine ⟨fun _ => ⟨[0, 1, 2, 3, 4, 5], rfl, rfl⟩, ?_⟩
                    refine JT.only (i := 10) (d := some 65) rfl (MV.ofQV (v := .pointer (some (elA (z36.v) (Int.toNat d42 * ((Enc.int .u8)).sz)))) (QV.indexA (Rdg.of 4 rfl) Try.underlying23 tk_5 rfl rfl h50)) rfl rfl rfl ?_
                    rintro _ _ ⟨rfl, rfl⟩
                    refine ⟨fun _ => ⟨[0, 1, 2, 3, 4, 5], rfl, rfl⟩, ?_⟩
                    refine JT.only (i := 11) (d := none) rfl (MV.storeEl 4 (IntKind.wrap .u8 ((gd d41 d42) + (gd (gd x2 d18).2.2.2 d42))) rfl tk_5 rfl rfl h50 rfl) rfl rfl rfl ?_
                    rintro _ _ ⟨rfl, rfl⟩
                    refine ⟨fun h => absurd h (by decide), ?_⟩
                    refine JT.nil ?_
                    refine QJ.block_normal ?_
                    refine QJ.then_normal ?_
                    refine JC.region ?_
                    refine JL.val (v := .int .i64 (IntKind.wrap .i64 (d42 + (1 : Int)))) (QV.add rfl rfl) rfl rfl rfl ?_
                    refine JL.val (v := .int .i64 (IntKind.wrap .i64 (d42 + (1 : Int)))) (QV.move rfl) rfl rfl rfl ?_
                    refine JL.nil ?_
                    obtain rfl := Option.some.inj hm
                    exact QJ.round_on ((List.set d41 (Int.toNat d42) (IntKind.wrap .u8 ((gd d41 d42) + (gd (gd x2 d18).2.2.2 d42)))), (IntKind.wrap .i64 (d42 + (1 : Int)))) () [0, 1, 2, 3, 4, 5] (by exact ⟨rfl, rfl, rfl, rfl, rfl, rfl, rfl, rfl, rfl, trivial⟩) rfl rfl
                  ·
                    refine JC.condF' rfl (decide_eq_false h49) ?_
                    refine JC.exit ?_
                    refine QJ.then_exit ?_
                    obtain rfl := Option.some.inj hm
                    refine QJ.round_exit (fun hy => ?_)
                    subst hy
                    refine QJ.block_hit ?_
                    exact QJ.cut_normal (d41, ()) hmo47 [0, 1, 4, 5] (by exact ⟨rfl, rfl, rfl, rfl, rfl, rfl, trivial⟩) rfl rfl
              ·
                refine JC.condT' rfl (congrArg Bool.not (decide_eq_false h37)) ?_
                refine JC.seq ?_
                refine JC.region ?_
                refine JL.val (v := .int .i64 y34.2) (QV.move rfl) rfl rfl rfl ?_
                refine JL.ent (fun _ hs => hs.nil 5 (Enc.int .u8)) ?_
                refine JL.val (v := SlV.nil.v) (QV.assign rfl) rfl rfl rfl ?_
                refine JL.val (v := .int .i64 y34.2) (QV.assign rfl) rfl rfl rfl ?_
                refine JL.nil ?_
                refine QJ.then_normal ?_
                refine JC.ret ?_
                refine QJ.then_ret ?_
                refine QJ.block_ret ?_
                refine QJ.cut_ret ?_
                refine QJ.then_ret ?_
                obtain rfl := Option.some.inj hm
                refine QJ.round_ret (fun hy => ?_)
                subst hy
                refine QJ.block_ret ?_
                refine QJ.cut_ret ?_
                refine QJ.then_ret ?_
                obtain rfl := Option.some.inj hmo24
                exact QJ.body (vs := [SlV.nil.v, .int .i64 y34.2]) (.inl rfl) rfl (ResVs.cons (ResV.tmp rfl) (ResVs.cons (ResV.tmp rfl) ResVs.nil)) [0] rfl rfl (.inr ⟨own_of _ _ _ _, trivial⟩) ⟨(SlV.nil), rfl, rfl⟩
        ·
          refine JC.condF' rfl (decide_eq_false h26) ?_
          refine JC.exit ?_
          refine QJ.then_exit ?_
          obtain rfl := Option.some.inj hm
          refine QJ.round_exit (fun hy => ?_)
          subst hy
          refine QJ.block_hit ?_
          exact QJ.cut_normal (d17, z16) hmo24 [1] (by exact ⟨rfl, trivial⟩) rfl rfl
    ·
      refine JC.condT' rfl (congrArg Bool.not (decide_eq_false h13)) ?_
      refine JC.seq ?_
      refine JC.region ?_
      refine JL.ent (fun _ hs => hs.nil 5 (Enc.int .u8)) ?_
      refine JL.val (v := SlV.nil.v) (QV.assign rfl) rfl rfl rfl ?_
      refine JL.val (v := .int .i64 (13 : Int)) (QV.assign rfl) rfl rfl rfl ?_
      refine JL.nil ?_
      refine QJ.then_normal ?_
      refine JC.ret ?_
      refine QJ.block_ret ?_
      refine QJ.then_ret ?_
      obtain rfl := Option.some.inj hm
      exact QJ.body (vs := [SlV.nil.v, .int .i64 (13 : Int)]) (.inl rfl) rfl (ResVs.cons (ResV.tmp rfl) (ResVs.cons (ResV.tmp rfl) ResVs.nil)) [0] rfl rfl (.inr ⟨own_of _ _ _ _, trivial⟩) ⟨(SlV.nil), rfl, rfl⟩

/-! ### 3: drogher/drogherlaw16.PlanMakes -/
noncomputable def F3.m (x2 : List (Int × Int × Int × (List Int))) (x5 : List Int) (x6 : Int) : Option Bool :=
  ((F14.m (x2)).bind fun y8 => (if y8 = true then ((F15.m).bind fun y11 => some y11) else (if (2000 : Int) < ((x5).length : Int) then ((F15.m).bind fun y14 => some y14) else (if ((([] : List Int)).length + (x5).length) * 1 ≤ 140737488355328 ∧ (([] : List Int)).length + (x5).length ≤ 9223372036854775807 then ((F16.m (x2) ((([] : List Int) ++ x5)) (x6)).bind fun y19 => ((F17.m (x2) (x5) (x6)).bind fun y22 => (if (strOfNums y19.1) = (strOfNums y22.1) then (if y19.2 = y22.2 then (if (strOfNums (([] : List Int) ++ x5)) = (strOfNums x5) then ((F15.m).bind fun y28 => some y28) else some false) else some false) else some false))) else none))))
set_option maxRecDepth 100000 in
set_option maxHeartbeats 4000000 in
theorem F3.spec (s1 : SlV) (z3 : List (Unit × Unit × Unit × SlV)) (s4 : SlV) (x2 : List (Int × Int × Int × (List Int))) (x5 : List Int) (x6 : Int) (r : Bool) (hm : F3.m x2 x5 x6 = some r) :
    Ctr Try.prog false 3 [s1.v, s4.v, .int .i64 x6] [Asr.vn (NE.pair (NE.flat (Enc.int .u8)) (NE.pair (NE.flat (Enc.int .i64)) (NE.pair (NE.flat (Enc.int .i64)) (NE.sl (Enc.int .u8))))) (s1.v) z3 x2, Asr.vw (Enc.int .u8) (s4.v) x5] (fun v L' => v = .bool r ∧ L' = []) := by
  refine Ctr.intro (n := 59) (env := [(0, s1.v), (1, s4.v), (2, .int .i64 x6)]) Try.func3 rfl rfl rfl rfl (fun c => ?_)
  unfold F3.m at hm
  refine JC.seq ?_
  refine JC.region ?_
  refine JL.val (v := .bool false) (QV.assign rfl) rfl rfl rfl ?_
  refine JL.nil ?_
  refine QJ.then_normal ?_
  refine JC.seq ?_
  refine JC.seq ?_
  refine JC.region ?_
  refine JL.val (v := s1.v) (QV.move rfl) rfl rfl rfl ?_
  obtain ⟨y8, hc9, hm⟩ := bind_inv hm
  refine JL.mv (d := some 13) (MV.call (Lo := []) (Lr := [Asr.vn (NE.pair (NE.flat (Enc.int .u8)) (NE.pair (NE.flat (Enc.int .i64)) (NE.pair (NE.flat (Enc.int .i64)) (NE.sl (Enc.int .u8))))) (s1.v) z3 x2, Asr.vw (Enc.int .u8) (s4.v) x5]) (F14.spec (s1) (z3) (x2) _ hc9) rfl Try.func14 rfl rfl rfl [] [0, 1] rfl rfl rfl ⟨(Drv.vn 0 rfl), trivial⟩) rfl rfl rfl ?_
  rintro _ _ ⟨_, ⟨rfl, rfl⟩, rfl⟩
  rcases ite_inv hm with ⟨h10, hm⟩ | ⟨h10, hm⟩
  ·
    refine JL.val (v := .bool true) (QV.eq (QV.move rfl) (congrArg Value.bool h10)) rfl rfl rfl ?_
    refine JL.skip (d := some 15) rfl rfl rfl ?_
    refine JL.skip (d := some 16) rfl rfl rfl ?_
    refine JL.skip (d := some 17) rfl rfl rfl ?_
    refine JL.val (v := .bool true) (QV.pickT rfl rfl) rfl rfl rfl ?_
    refine JL.nil ?_
    refine QJ.then_normal ?_
    refine JC.condT rfl ?_
    refine JC.seq ?_
    refine JC.region ?_
    obtain ⟨y11, hc12, hm⟩ := bind_inv hm
    refine JL.mv (d := some 19) (MV.call (Lo := []) (Lr := [Asr.vn (NE.pair (NE.flat (Enc.int .u8)) (NE.pair (NE.flat (Enc.int .i64)) (NE.pair (NE.flat (Enc.int .i64)) (NE.sl (Enc.int .u8))))) (s1.v) z3 x2, Asr.vw (Enc.int .u8) (s4.v) x5]) (F15.spec _ hc12) rfl Try.func15 rfl rfl rfl [] [0, 1] rfl rfl rfl trivial) rfl rfl rfl ?_
    rintro _ _ ⟨_, ⟨rfl, rfl⟩, rfl⟩
    refine JL.val (v := .bool y11) (QV.assign rfl) rfl rfl rfl ?_
    refine JL.nil ?_
    refine QJ.then_normal ?_
    refine JC.ret ?_
    refine QJ.then_ret ?_
    obtain rfl := Option.some.inj hm
    exact QJ.body (vs := [.bool y11]) (.inl rfl) rfl (ResVs.cons (ResV.tmp rfl) ResVs.nil) [] rfl rfl (.inr trivial) ⟨rfl, rfl⟩
  ·
    refine JL.val (v := .bool false) (QV.eq (QV.move rfl) (congrArg Value.bool (bfalse h10))) rfl rfl rfl ?_
    refine JL.val (v := s4.v) (QV.move rfl) rfl rfl rfl ?_
    refine JL.val (v := .int .i64 ((x5).length : Int)) (QV.len (Rdg.vw 1 rfl) Try.underlying23 rfl) rfl rfl rfl ?_
    refine JL.val (v := .bool (decide ((2000 : Int) < ((x5).length : Int)))) (QV.gtr rfl rfl) rfl rfl rfl ?_
    refine JL.val (v := .bool (decide ((2000 : Int) < ((x5).length : Int)))) (QV.pickF rfl rfl) rfl rfl rfl ?_
    refine JL.nil ?_
    refine QJ.then_normal ?_
    rcases ite_inv hm with ⟨h13, hm⟩ | ⟨h13, hm⟩
    ·
      refine JC.condT' rfl (decide_eq_true h13) ?_
      refine JC.seq ?_
      refine JC.region ?_
      obtain ⟨y14, hc15, hm⟩ := bind_inv hm
      refine JL.mv (d := some 19) (MV.call (Lo := []) (Lr := [Asr.vn (NE.pair (NE.flat (Enc.int .u8)) (NE.pair (NE.flat (Enc.int .i64)) (NE.pair (NE.flat (Enc.int .i64)) (NE.sl (Enc.int .u8))))) (s1.v) z3 x2, Asr.vw (Enc.int .u8) (s4.v) x5]) (F15.spec _ hc15) rfl Try.func15 rfl rfl rfl [] [0, 1] rfl rfl rfl trivial) rfl rfl rfl ?_
      rintro _ _ ⟨_, ⟨rfl, rfl⟩, rfl⟩
      refine JL.val (v := .bool y14) (QV.assign rfl) rfl rfl rfl ?_
      refine JL.nil ?_
      refine QJ.then_normal ?_
      refine JC.ret ?_
      refine QJ.then_ret ?_
      obtain rfl := Option.some.inj hm
      exact QJ.body (vs := [.bool y14]) (.inl rfl) rfl (ResVs.cons (ResV.tmp rfl) ResVs.nil) [] rfl rfl (.inr trivial) ⟨rfl, rfl⟩
    ·
      refine JC.condF' rfl (decide_eq_false h13) ?_
      refine JC.skip ?_
      refine QJ.then_normal ?_
      refine JC.seq ?_
      refine JC.region ?_
      refine JL.mv (d := some 20) (MV.lit0 (Enc.int .u8) Try.underlying23 (by kernel_rfl)) rfl rfl rfl ?_
      rintro _ _ ⟨z16, rfl, rfl⟩
      refine JL.val (v := z16.v) (QV.assign rfl) rfl rfl rfl ?_
      refine JL.nil ?_
      refine QJ.then_normal ?_
      refine JC.seq ?_
      refine JC.region ?_
      refine JL.val (v := z16.v) (QV.move rfl) rfl rfl rfl ?_
      refine JL.val (v := s4.v) (QV.move rfl) rfl rfl rfl ?_
      obtain ⟨h17, hm⟩ := guard_inv hm
      refine JL.mv (d := some 23) (MV.append 0 rfl (Rdg.vw 2 rfl) Try.underlying23 zi_5 rfl (by decide) rfl rfl h17) rfl rfl rfl ?_
      rintro _ _ ⟨z18, rfl, rfl⟩
      refine JL.val (v := z18.v) (QV.assign rfl) rfl rfl rfl ?_
      refine JL.nil ?_
      refine QJ.then_normal ?_
      refine JC.seq ?_
      refine JC.region ?_
      refine JL.val (v := s1.v) (QV.move rfl) rfl rfl rfl ?_
      refine JL.val (v := z18.v) (QV.move rfl) rfl rfl rfl ?_
      refine JL.val (v := .iface 29 (z18.v)) (QV.mkIface Try.underlying29 rfl rfl) rfl rfl rfl ?_
      refine JL.val (v := .int .i64 x6) (QV.move rfl) rfl rfl rfl ?_
      obtain ⟨y19, hc20, hm⟩ := bind_inv hm
      refine JL.mv (d := some 29) (MV.call (Lo := []) (Lr := [Asr.of 5 (Enc.int .u8) (z18.v) (([] : List Int) ++ x5), Asr.vn (NE.pair (NE.flat (Enc.int .u8)) (NE.pair (NE.flat (Enc.int .i64)) (NE.pair (NE.flat (Enc.int .i64)) (NE.sl (Enc.int .u8))))) (s1.v) z3 x2, Asr.vw (Enc.int .u8) (s4.v) x5]) (F16.spec (s1) (z3) (z18) (x2) ((([] : List Int) ++ x5)) (x6) _ hc20) rfl Try.func16 rfl rfl rfl [] [0, 1, 2] rfl rfl rfl ⟨(Drv.vn 1 rfl), ⟨(Drv.of 0 rfl), trivial⟩⟩) rfl rfl rfl ?_
      rintro _ _ ⟨_, ⟨z21, rfl, rfl⟩, rfl⟩
      refine JL.val (v := .tuple #[z21.v, .int .i64 y19.2]) (QV.move rfl) rfl rfl rfl ?_
      refine JL.val (v := z21.v) (QV.extract (vs := [z21.v, .int .i64 y19.2]) rfl rfl) rfl rfl rfl ?_
      refine JL.val (v := .int .i64 y19.2) (QV.extract (vs := [z21.v, .int .i64 y19.2]) rfl rfl) rfl rfl rfl ?_
      refine JL.val (v := z21.v) (QV.assign rfl) rfl rfl rfl ?_
      refine JL.val (v := .int .i64 y19.2) (QV.assign rfl) rfl rfl rfl ?_
      refine JL.nil ?_
      refine QJ.then_normal ?_
      refine JC.seq ?_
      refine JC.region ?_
      refine JL.val (v := s1.v) (QV.move rfl) rfl rfl rfl ?_
      refine JL.val (v := s4.v) (QV.move rfl) rfl rfl rfl ?_
      refine JL.val (v := .int .i64 x6) (QV.move rfl) rfl rfl rfl ?_
      obtain ⟨y22, hc23, hm⟩ := bind_inv hm
      refine JL.mv (d := some 36) (MV.call (Lo := []) (Lr := [Asr.of 5 (Enc.int .u8) (z21.v) y19.1, Asr.of 5 (Enc.int .u8) (z18.v) (([] : List Int) ++ x5), Asr.vn (NE.pair (NE.flat (Enc.int .u8)) (NE.pair (NE.flat (Enc.int .i64)) (NE.pair (NE.flat (Enc.int .i64)) (NE.sl (Enc.int .u8))))) (s1.v) z3 x2, Asr.vw (Enc.int .u8) (s4.v) x5]) (F17.spec (s1) (z3) (s4) (x2) (x5) (x6) _ hc23) rfl Try.func17 rfl rfl rfl [] [0, 1, 2, 3] rfl rfl rfl ⟨(Drv.vn 2 rfl), ⟨(Drv.vw 3 rfl), trivial⟩⟩) rfl rfl rfl ?_
      rintro _ _ ⟨_, ⟨z24, rfl, rfl⟩, rfl⟩
      refine JL.val (v := .tuple #[z24.v, .int .i64 y22.2]) (QV.move rfl) rfl rfl rfl ?_
      refine JL.val (v := z24.v) (QV.extract (vs := [z24.v, .int .i64 y22.2]) rfl rfl) rfl rfl rfl ?_
      refine JL.val (v := .int .i64 y22.2) (QV.extract (vs := [z24.v, .int .i64 y22.2]) rfl rfl) rfl rfl rfl ?_
      refine JL.val (v := z24.v) (QV.assign rfl) rfl rfl rfl ?_
      refine JL.val (v := .int .i64 y22.2) (QV.assign rfl) rfl rfl rfl ?_
      refine JL.nil ?_
      refine QJ.then_normal ?_
      refine JC.seq ?_
      refine JC.region ?_
      refine JL.val (v := z21.v) (QV.move rfl) rfl rfl rfl ?_
      refine JL.val (v := .string (strOfNums y19.1)) (QV.str (Rdg.of 1 rfl) Try.underlying23 Try.underlying5 Try.underlying9 rfl) rfl rfl rfl ?_
      refine JL.val (v := z24.v) (QV.move rfl) rfl rfl rfl ?_
      refine JL.val (v := .string (strOfNums y22.1)) (QV.str (Rdg.of 0 rfl) Try.underlying23 Try.underlying5 Try.underlying9 rfl) rfl rfl rfl ?_
      refine JL.val (v := .bool (decide ((strOfNums y19.1) = (strOfNums y22.1)))) (QV.eqlS rfl rfl) rfl rfl rfl ?_
      rcases ite_inv hm with ⟨h25, hm⟩ | ⟨h25, hm⟩
      ·
        refine JL.val (v := .bool true) (QV.eq (QV.move rfl) (congrArg Value.bool (decide_eq_true h25))) rfl rfl rfl ?_
        refine JL.val (v := .int .i64 y19.2) (QV.move rfl) rfl rfl rfl ?_
        refine JL.val (v := .int .i64 y22.2) (QV.move rfl) rfl rfl rfl ?_
        refine JL.val (v := .bool (decide (y19.2 = y22.2))) (QV.eql rfl rfl) rfl rfl rfl ?_
        refine JL.val (v := .bool (decide (y19.2 = y22.2))) (QV.pickT rfl rfl) rfl rfl rfl ?_
        rcases ite_inv hm with ⟨h26, hm⟩ | ⟨h26, hm⟩
        ·
          refine JL.val (v := .bool true) (QV.eq (QV.move rfl) (congrArg Value.bool (decide_eq_true h26))) rfl rfl rfl ?_
          refine JL.val (v := z18.v) (QV.move rfl) rfl rfl rfl ?_
          refine JL.val (v := .string (strOfNums (([] : List Int) ++ x5))) (QV.str (Rdg.of 2 rfl) Try.underlying23 Try.underlying5 Try.underlying9 rfl) rfl rfl rfl ?_
          refine JL.val (v := s4.v) (QV.move rfl) rfl rfl rfl ?_
          refine JL.val (v := .string (strOfNums x5)) (QV.str (Rdg.vw 4 rfl) Try.underlying23 Try.underlying5 Try.underlying9 rfl) rfl rfl rfl ?_
          refine JL.val (v := .bool (decide ((strOfNums (([] : List Int) ++ x5)) = (strOfNums x5)))) (QV.eqlS rfl rfl) rfl rfl rfl ?_
          refine JL.val (v := .bool (decide ((strOfNums (([] : List Int) ++ x5)) = (strOfNums x5)))) (QV.pickT rfl rfl) rfl rfl rfl ?_
          rcases ite_inv hm with ⟨h27, hm⟩ | ⟨h27, hm⟩
          ·
            refine JL.val (v := .bool true) (QV.eq (QV.move rfl) (congrArg Value.bool (decide_eq_true h27))) rfl rfl rfl ?_
            obtain ⟨y28, hc29, hm⟩ := bind_inv hm
            refine JL.mv (d := some 57) (MV.call (Lo := []) (Lr := [Asr.of 5 (Enc.int .u8) (z24.v) y22.1, Asr.of 5 (Enc.int .u8) (z21.v) y19.1, Asr.of 5 (Enc.int .u8) (z18.v) (([] : List Int) ++ x5), Asr.vn (NE.pair (NE.flat (Enc.int .u8)) (NE.pair (NE.flat (Enc.int .i64)) (NE.pair (NE.flat (Enc.int .i64)) (NE.sl (Enc.int .u8))))) (s1.v) z3 x2, Asr.vw (Enc.int .u8) (s4.v) x5]) (F15.spec _ hc29) rfl Try.func15 rfl rfl rfl [] [0, 1, 2, 3, 4] rfl rfl rfl trivial) rfl rfl rfl ?_
            rintro _ _ ⟨_, ⟨rfl, rfl⟩, rfl⟩
            refine JL.val (v := .bool y28) (QV.pickT rfl rfl) rfl rfl rfl ?_
            refine JL.val (v := .bool y28) (QV.assign rfl) rfl rfl rfl ?_
            refine JL.nil ?_
            refine QJ.then_normal ?_
            refine JC.ret ?_
            obtain rfl := Option.some.inj hm
            exact QJ.body (vs := [.bool y28]) (.inl rfl) rfl (ResVs.cons (ResV.tmp rfl) ResVs.nil) [] rfl rfl (.inr trivial) ⟨rfl, rfl⟩
          ·
            refine JL.val (v := .bool false) (QV.eq (QV.move rfl) (congrArg Value.bool (decide_eq_false h27))) rfl rfl rfl ?_
            refine JL.skip (d := some 57) rfl rfl rfl ?_
            refine JL.val (v := .bool false) (QV.pickF rfl rfl) rfl rfl rfl ?_
            refine JL.val (v := .bool false) (QV.assign rfl) rfl rfl rfl ?_
            refine JL.nil ?_
            refine QJ.then_normal ?_
            refine JC.ret ?_
            obtain rfl := Option.some.inj hm
            exact QJ.body (vs := [.bool false]) (.inl rfl) rfl (ResVs.cons (ResV.tmp rfl) ResVs.nil) [] rfl rfl (.inr trivial) ⟨rfl, rfl⟩
        ·
          refine JL.val (v := .bool false) (QV.eq (QV.move rfl) (congrArg Value.bool (decide_eq_false h26))) rfl rfl rfl ?_
          refine JL.skip (d := some 50) rfl rfl rfl ?_
          refine JL.skip (d := some 51) rfl rfl rfl ?_
          refine JL.skip (d := some 52) rfl rfl rfl ?_
          refine JL.skip (d := some 53) rfl rfl rfl ?_
          refine JL.skip (d := some 54) rfl rfl rfl ?_
          refine JL.val (v := .bool false) (QV.pickF rfl rfl) rfl rfl rfl ?_
          refine JL.val (v := .bool false) (QV.move rfl) rfl rfl rfl ?_
          refine JL.skip (d := some 57) rfl rfl rfl ?_
          refine JL.val (v := .bool false) (QV.pickF rfl rfl) rfl rfl rfl ?_
          refine JL.val (v := .bool false) (QV.assign rfl) rfl rfl rfl ?_
          refine JL.nil ?_
          refine QJ.then_normal ?_
          refine JC.ret ?_
          obtain rfl := Option.some.inj hm
          exact QJ.body (vs := [.bool false]) (.inl rfl) rfl (ResVs.cons (ResV.tmp rfl) ResVs.nil) [] rfl rfl (.inr trivial) ⟨rfl, rfl⟩
      ·
        refine JL.val (v := .bool false) (QV.eq (QV.move rfl) (congrArg Value.bool (decide_eq_false h25))) rfl rfl rfl ?_
        refine JL.skip (d := some 45) rfl rfl rfl ?_
        refine JL.skip (d := some 46) rfl rfl rfl ?_
        refine JL.skip (d := some 47) rfl rfl rfl ?_
        refine JL.val (v := .bool false) (QV.pickF rfl rfl) rfl rfl rfl ?_
        refine JL.val (v := .bool false) (QV.move rfl) rfl rfl rfl ?_
        refine JL.skip (d := some 50) rfl rfl rfl ?_
        refine JL.skip (d := some 51) rfl rfl rfl ?_
        refine JL.skip (d := some 52) rfl rfl rfl ?_
        refine JL.skip (d := some 53) rfl rfl rfl ?_
        refine JL.skip (d := some 54) rfl rfl rfl ?_
        refine JL.val (v := .bool false) (QV.pickF rfl rfl) rfl rfl rfl ?_
        refine JL.val (v := .bool false) (QV.move rfl) rfl rfl rfl ?_
        refine JL.skip (d := some 57) rfl rfl rfl ?_
        refine JL.val (v := .bool false) (QV.pickF rfl rfl) rfl rfl rfl ?_
        refine JL.val (v := .bool false) (QV.assign rfl) rfl rfl rfl ?_
        refine JL.nil ?_
        refine QJ.then_normal ?_
        refine JC.ret ?_
        obtain rfl := Option.some.inj hm
        exact QJ.body (vs := [.bool false]) (.inl rfl) rfl (ResVs.cons (ResV.tmp rfl) ResVs.nil) [] rfl rfl (.inr trivial) ⟨rfl, rfl⟩

end Go.Proofs.Ytedokgdilpfomaa
