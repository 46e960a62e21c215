/- Written by gen.py: functions and their contracts. -/
import Derived.Test.YtedokgdilpfomaaPlr
namespace Go.Proofs.Ytedokgdilpfomaa
open Go Go.Eng Go.Proofs
set_option linter.unusedVariables false
set_option linter.unusedSimpArgs false
/-! ### 14: drogher/drogherref16.Great -/
noncomputable def F14.j1   : Option Bool :=
  some false
noncomputable def F14.b1 (x2 : List (Int × Int × Int × (List Int))) : Int → Option (Int ⊕ ((Bool) ⊕ Unit))
  | d6 => (if d6 < ((x2).length : Int) then (if 0 ≤ d6 ∧ d6 < ((x2).length : Int) then (if (5000 : Int) < (((gd x2 d6).2.2.2).length : Int) then some (.inr (.inl (true))) else some (.inl (IntKind.wrap .i64 (d6 + (1 : Int))))) else none) else some (.inr (.inr (()))))
noncomputable def F14.m (x2 : List (Int × Int × Int × (List Int))) : Option Bool :=
  (if (60 : Int) < ((x2).length : Int) then some true else ((loop (F14.b1 x2) (0 : Int)).bind fun y => match y with | .inl r => some r | .inr _ => F14.j1))
set_option maxRecDepth 100000 in
set_option maxHeartbeats 4000000 in
theorem F14.spec (s1 : SlV) (z3 : List (Unit × Unit × Unit × SlV)) (x2 : List (Int × Int × Int × (List Int))) (r : Bool) (hm : F14.m x2 = some r) :
    Ctr Try.prog false 14 [s1.v] [Asr.vn (NE.pair (NE.flat (Enc.int .u8)) (NE.pair (NE.flat (Enc.int .i64)) (NE.pair (NE.flat (Enc.int .i64)) (NE.sl (Enc.int .u8))))) (s1.v) z3 x2] (fun v L' => v = .bool r ∧ L' = []) := by
  refine Ctr.intro (n := 20) (env := [(0, s1.v)]) Try.func14 rfl rfl rfl rfl (fun c => ?_)
  unfold F14.m at hm
  refine JC.seq ?_
  refine JC.region ?_
  refine JL.val (v := .bool false) (QV.assign rfl) rfl rfl rfl ?_
  refine JL.nil ?_
  refine QJ.then_normal ?_
  refine JC.seq ?_
  refine JC.seq ?_
  refine JC.region ?_
  refine JL.val (v := s1.v) (QV.move rfl) rfl rfl rfl ?_
  refine JL.val (v := .int .i64 ((x2).length : Int)) (QV.lenN (RdN.vn 0 rfl) Try.underlying22 rfl) rfl rfl rfl ?_
  refine JL.val (v := .bool (decide ((60 : Int) < ((x2).length : Int)))) (QV.gtr rfl rfl) rfl rfl rfl ?_
  refine JL.nil ?_
  refine QJ.then_normal ?_
  rcases ite_inv hm with ⟨h5, hm⟩ | ⟨h5, hm⟩
  ·
    refine JC.condT' rfl (decide_eq_true h5) ?_
    refine JC.seq ?_
    refine JC.region ?_
    refine JL.val (v := .bool true) (QV.assign rfl) rfl rfl rfl ?_
    refine JL.nil ?_
    refine QJ.then_normal ?_
    refine JC.ret ?_
    refine QJ.then_ret ?_
    obtain rfl := Option.some.inj hm
    exact QJ.body (vs := [.bool true]) (.inl rfl) rfl (ResVs.cons (ResV.tmp rfl) ResVs.nil) [] rfl rfl (.inr trivial) ⟨rfl, rfl⟩
  ·
    refine JC.condF' rfl (decide_eq_false h5) ?_
    refine JC.skip ?_
    refine QJ.then_normal ?_
    refine JC.seq ?_
    refine JC.seq ?_
    refine JC.region ?_
    refine JL.val (v := s1.v) (QV.move rfl) rfl rfl rfl ?_
    refine JL.val (v := .int .i64 ((x2).length : Int)) (QV.lenN (RdN.vn 0 rfl) Try.underlying22 rfl) rfl rfl rfl ?_
    refine JL.val (v := .int .i64 (0 : Int)) (QV.move rfl) rfl rfl rfl ?_
    refine JL.nil ?_
    refine QJ.then_normal ?_
    refine JC.cutK (Y := Unit × Unit) (fun y => match y with | (_, _) => F14.j1 = some r) (fun y => match y with | (_, _) => []) (fun y => match y with | (_, _) => []) ?_ ?_
    ·
      rintro ⟨⟨⟩, ⟨⟩⟩ hm
      unfold F14.j1 at hm
      show QJ _ _ [] [] _ _
      refine QJ.then_normal ?_
      refine JC.seq ?_
      refine JC.region ?_
      refine JL.val (v := .bool false) (QV.assign rfl) rfl rfl rfl ?_
      refine JL.nil ?_
      refine QJ.then_normal ?_
      refine JC.ret ?_
      obtain rfl := Option.some.inj hm
      exact QJ.body (vs := [.bool false]) (.inl rfl) rfl (ResVs.cons (ResV.tmp rfl) ResVs.nil) [] rfl rfl (.inr trivial) ⟨rfl, rfl⟩
    ·
      refine JC.block ?_
      obtain ⟨y8, hl9, hmo10⟩ := bind_inv hm
      refine JC.loop (F14.b1 x2) (fun x z => match x, z with | d6, _ => [(0, s1.v), (8, .int .i64 ((x2).length : Int)), (9, .int .i64 d6)]) (fun x z => match x, z with | d6, _ => [Asr.vn (NE.pair (NE.flat (Enc.int .u8)) (NE.pair (NE.flat (Enc.int .i64)) (NE.pair (NE.flat (Enc.int .i64)) (NE.sl (Enc.int .u8))))) (s1.v) z3 x2]) (0 : Int) () y8 hl9 [0] (by exact ⟨rfl, rfl, rfl, trivial⟩) rfl rfl ?_
      rintro d6 ⟨⟩ s11 hm
      unfold F14.b1 at hm
      dsimp only at hm
      show JC _ _ _ [(0, s1.v), (8, .int .i64 ((x2).length : Int)), (9, .int .i64 d6)] [Asr.vn (NE.pair (NE.flat (Enc.int .u8)) (NE.pair (NE.flat (Enc.int .i64)) (NE.pair (NE.flat (Enc.int .i64)) (NE.sl (Enc.int .u8))))) (s1.v) z3 x2] _ _
      refine JC.seq ?_
      refine JC.region ?_
      refine JL.val (v := .bool (decide (d6 < ((x2).length : Int)))) (QV.lss rfl rfl) rfl rfl rfl ?_
      refine JL.nil ?_
      refine QJ.then_normal ?_
      refine JC.seq ?_
      rcases ite_inv hm with ⟨h12, hm⟩ | ⟨h12, hm⟩
      ·
        refine JC.condT' rfl (decide_eq_true h12) ?_
        refine JC.skip ?_
        refine QJ.then_normal ?_
        refine JC.seq ?_
        refine JC.block ?_
        refine JC.seq ?_
        refine JC.region ?_
        refine JL.val (v := .int .i64 d6) (QV.move rfl) rfl rfl rfl ?_
        refine JL.val (v := .int .i64 d6) (QV.assign rfl) rfl rfl rfl ?_
        refine JL.nil ?_
        refine QJ.then_normal ?_
        refine JC.seq ?_
        refine JC.region ?_
        refine JL.val (v := s1.v) (QV.move rfl) rfl rfl rfl ?_
        refine JL.val (v := .int .i64 d6) (QV.move rfl) rfl rfl rfl ?_
        obtain ⟨h13, hm⟩ := guard_inv hm
        refine JL.val (v := .pointer (some (elA (s1.v) (Int.toNat d6 * ((NE.pair (NE.flat (Enc.int .u8)) (NE.pair (NE.flat (Enc.int .i64)) (NE.pair (NE.flat (Enc.int .i64)) (NE.sl (Enc.int .u8))))).E).sz)))) (QV.indexN (RdN.vn 0 rfl) Try.underlying22 tk_35 rfl rfl h13) rfl rfl rfl ?_
        refine JL.val (v := .pointer (some ((elA (s1.v) (Int.toNat d6 * ((NE.pair (NE.flat (Enc.int .u8)) (NE.pair (NE.flat (Enc.int .i64)) (NE.pair (NE.flat (Enc.int .i64)) (NE.sl (Enc.int .u8))))).E).sz)).add 3))) (QV.fieldA fo_35_3 rfl) rfl rfl rfl ?_
        refine JL.val (v := (gd z3 d6).2.2.2.v) (QV.elFN (RdN.vn 0 rfl) tk_23 rfl h13 rfl) rfl rfl rfl ?_
        refine JL.val (v := .int .i64 (((gd x2 d6).2.2.2).length : Int)) (QV.len (Rdg.ofDrv (Drv.el (K := (NE.pair (NE.flat (Enc.int .u8)) (NE.pair (NE.flat (Enc.int .i64)) (NE.pair (NE.flat (Enc.int .i64)) (NE.sl (Enc.int .u8)))))) (A := Asr.vw (Enc.int .u8) ((gd z3 d6).2.2.2.v) (gd x2 d6).2.2.2) (Drv.vn 0 rfl) h13 (fun _ _ q => q.2.2.2))) Try.underlying23 rfl) rfl rfl rfl ?_
        refine JL.val (v := .bool (decide ((5000 : Int) < (((gd x2 d6).2.2.2).length : Int)))) (QV.gtr rfl rfl) rfl rfl rfl ?_
        refine JL.nil ?_
        refine QJ.then_normal ?_
        rcases ite_inv hm with ⟨h14, hm⟩ | ⟨h14, hm⟩
        ·
          refine JC.condT' rfl (decide_eq_true h14) ?_
          refine JC.seq ?_
          refine JC.region ?_
          refine JL.val (v := .bool true) (QV.assign rfl) rfl rfl rfl ?_
          refine JL.nil ?_
          refine QJ.then_normal ?_
          refine JC.ret ?_
          refine QJ.block_ret ?_
          refine QJ.then_ret ?_
          obtain rfl := Option.some.inj hm
          refine QJ.round_ret (fun hy => ?_)
          subst hy
          refine QJ.block_ret ?_
          refine QJ.cut_ret ?_
          refine QJ.then_ret ?_
          obtain rfl := Option.some.inj hmo10
          exact QJ.body (vs := [.bool true]) (.inl rfl) rfl (ResVs.cons (ResV.tmp rfl) ResVs.nil) [] rfl rfl (.inr trivial) ⟨rfl, rfl⟩
        ·
          refine JC.condF' rfl (decide_eq_false h14) ?_
          refine JC.skip ?_
          refine QJ.block_normal ?_
          refine QJ.then_normal ?_
          refine JC.region ?_
          refine JL.val (v := .int .i64 (IntKind.wrap .i64 (d6 + (1 : Int)))) (QV.add rfl rfl) rfl rfl rfl ?_
          refine JL.val (v := .int .i64 (IntKind.wrap .i64 (d6 + (1 : Int)))) (QV.move rfl) rfl rfl rfl ?_
          refine JL.nil ?_
          obtain rfl := Option.some.inj hm
          exact QJ.round_on (IntKind.wrap .i64 (d6 + (1 : Int))) () [0] (by exact ⟨rfl, rfl, rfl, trivial⟩) rfl rfl
      ·
        refine JC.condF' rfl (decide_eq_false h12) ?_
        refine JC.exit ?_
        refine QJ.then_exit ?_
        obtain rfl := Option.some.inj hm
        refine QJ.round_exit (fun hy => ?_)
        subst hy
        refine QJ.block_hit ?_
        exact QJ.cut_normal ((), ()) hmo10 [] trivial rfl rfl

/-! ### 24: drogher/drogherref16.Right -/
noncomputable def F24.m (x1 : Int) (x2 : Int) (x3 : Int) (x5 : List Int) : Option Bool :=
  (if x3 < (1 : Int) then some false else (if (4096 : Int) < x3 then some false else (if x1 = (1 : Int) then (if x2 = (0 : Int) then some (decide (((x5).length : Int) = x3)) else some false) else (if x2 < (0 : Int) then some false else (if (2147483647 : Int) < x2 then some false else (if x1 = (2 : Int) then (if ((x5).length : Int) = (0 : Int) then some true else (if x1 = (3 : Int) then some (decide (((x5).length : Int) = x3)) else some false)) else (if x1 = (3 : Int) then some (decide (((x5).length : Int) = x3)) else some false)))))))
set_option maxRecDepth 100000 in
set_option maxHeartbeats 4000000 in
theorem F24.spec (s4 : SlV) (x1 : Int) (x2 : Int) (x3 : Int) (x5 : List Int) (r : Bool) (hm : F24.m x1 x2 x3 x5 = some r) :
    Ctr Try.prog false 24 [.agg #[.int .u8 x1, .int .i64 x2, .int .i64 x3, s4.v]] [Asr.vw (Enc.int .u8) (s4.v) x5] (fun v L' => v = .bool r ∧ L' = []) := by
  refine Ctr.intro (n := 55) (env := [(0, .agg #[.int .u8 x1, .int .i64 x2, .int .i64 x3, s4.v])]) Try.func24 rfl rfl rfl rfl (fun c => ?_)
  unfold F24.m at hm
  refine JC.seq ?_
  refine JC.region ?_
  refine JL.mv (d := some 1) (MV.box [Seg.c (.int .u8 x1), Seg.c (.int .i64 x2), Seg.c (.int .i64 x3), Seg.c (s4.v)] rfl (fun w hs => rfl)) rfl rfl rfl ?_
  rintro _ _ ⟨b7, rfl, rfl⟩
  refine JL.val (v := .bool false) (QV.assign rfl) rfl rfl rfl ?_
  refine JL.nil ?_
  refine QJ.then_normal ?_
  refine JC.seq ?_
  refine JC.seq ?_
  refine JC.region ?_
  refine JL.val (v := .pointer (some ⟨b7, 2, none⟩)) (QV.fieldB fo_35_2 rfl rfl) rfl rfl rfl ?_
  refine JL.val (v := .int .i64 x3) (QV.load1 (ss := [Seg.c (.int .u8 x1), Seg.c (.int .i64 x2), Seg.c (.int .i64 x3), Seg.c (s4.v)]) 0 2 rfl tk_3 rfl rfl rfl) rfl rfl rfl ?_
  refine JL.val (v := .bool (decide (x3 < (1 : Int)))) (QV.lss rfl rfl) rfl rfl rfl ?_
  rcases ite_inv hm with ⟨h8, hm⟩ | ⟨h8, hm⟩
  ·
    refine JL.val (v := .bool true) (QV.eq (QV.move rfl) (congrArg Value.bool (decide_eq_true h8))) rfl rfl rfl ?_
    refine JL.skip (d := some 7) rfl rfl rfl ?_
    refine JL.skip (d := some 8) rfl rfl rfl ?_
    refine JL.skip (d := some 9) rfl rfl rfl ?_
    refine JL.val (v := .bool true) (QV.pickT rfl rfl) rfl rfl rfl ?_
    refine JL.nil ?_
    refine QJ.then_normal ?_
    refine JC.condT rfl ?_
    refine JC.seq ?_
    refine JC.region ?_
    refine JL.val (v := .bool false) (QV.assign rfl) rfl rfl rfl ?_
    refine JL.nil ?_
    refine QJ.then_normal ?_
    refine JC.ret ?_
    refine QJ.then_ret ?_
    obtain rfl := Option.some.inj hm
    exact QJ.body (vs := [.bool false]) (.inl rfl) rfl (ResVs.cons (ResV.tmp rfl) ResVs.nil) [] rfl rfl (.inr trivial) ⟨rfl, rfl⟩
  ·
    refine JL.val (v := .bool false) (QV.eq (QV.move rfl) (congrArg Value.bool (decide_eq_false h8))) rfl rfl rfl ?_
    refine JL.val (v := .pointer (some ⟨b7, 2, none⟩)) (QV.fieldB fo_35_2 rfl rfl) rfl rfl rfl ?_
    refine JL.val (v := .int .i64 x3) (QV.load1 (ss := [Seg.c (.int .u8 x1), Seg.c (.int .i64 x2), Seg.c (.int .i64 x3), Seg.c (s4.v)]) 0 2 rfl tk_3 rfl rfl rfl) rfl rfl rfl ?_
    refine JL.val (v := .bool (decide ((4096 : Int) < x3))) (QV.gtr rfl rfl) rfl rfl rfl ?_
    refine JL.val (v := .bool (decide ((4096 : Int) < x3))) (QV.pickF rfl rfl) rfl rfl rfl ?_
    refine JL.nil ?_
    refine QJ.then_normal ?_
    rcases ite_inv hm with ⟨h9, hm⟩ | ⟨h9, hm⟩
    ·
      refine JC.condT' rfl (decide_eq_true h9) ?_
      refine JC.seq ?_
      refine JC.region ?_
      refine JL.val (v := .bool false) (QV.assign rfl) rfl rfl rfl ?_
      refine JL.nil ?_
      refine QJ.then_normal ?_
      refine JC.ret ?_
      refine QJ.then_ret ?_
      obtain rfl := Option.some.inj hm
      exact QJ.body (vs := [.bool false]) (.inl rfl) rfl (ResVs.cons (ResV.tmp rfl) ResVs.nil) [] rfl rfl (.inr trivial) ⟨rfl, rfl⟩
    ·
      refine JC.condF' rfl (decide_eq_false h9) ?_
      refine JC.skip ?_
      refine QJ.then_normal ?_
      refine JC.seq ?_
      refine JC.seq ?_
      refine JC.region ?_
      refine JL.val (v := .pointer (some ⟨b7, 0, none⟩)) (QV.fieldB fo_35_0 rfl rfl) rfl rfl rfl ?_
      refine JL.val (v := .int .u8 x1) (QV.load1 (ss := [Seg.c (.int .u8 x1), Seg.c (.int .i64 x2), Seg.c (.int .i64 x3), Seg.c (s4.v)]) 0 0 rfl tk_5 rfl rfl rfl) rfl rfl rfl ?_
      refine JL.val (v := .bool (decide (x1 = (1 : Int)))) (QV.eql rfl rfl) rfl rfl rfl ?_
      refine JL.nil ?_
      refine QJ.then_normal ?_
      rcases ite_inv hm with ⟨h10, hm⟩ | ⟨h10, hm⟩
      ·
        refine JC.condT' rfl (decide_eq_true h10) ?_
        refine JC.seq ?_
        refine JC.region ?_
        refine JL.val (v := .pointer (some ⟨b7, 1, none⟩)) (QV.fieldB fo_35_1 rfl rfl) rfl rfl rfl ?_
        refine JL.val (v := .int .i64 x2) (QV.load1 (ss := [Seg.c (.int .u8 x1), Seg.c (.int .i64 x2), Seg.c (.int .i64 x3), Seg.c (s4.v)]) 0 1 rfl tk_3 rfl rfl rfl) rfl rfl rfl ?_
        refine JL.val (v := .bool (decide (x2 = (0 : Int)))) (QV.eql rfl rfl) rfl rfl rfl ?_
        rcases ite_inv hm with ⟨h11, hm⟩ | ⟨h11, hm⟩
        ·
          refine JL.val (v := .bool true) (QV.eq (QV.move rfl) (congrArg Value.bool (decide_eq_true h11))) rfl rfl rfl ?_
          refine JL.val (v := .pointer (some ⟨b7, 3, none⟩)) (QV.fieldB fo_35_3 rfl rfl) rfl rfl rfl ?_
          refine JL.val (v := s4.v) (QV.load1 (ss := [Seg.c (.int .u8 x1), Seg.c (.int .i64 x2), Seg.c (.int .i64 x3), Seg.c (s4.v)]) 0 3 rfl tk_23 rfl rfl rfl) rfl rfl rfl ?_
          refine JL.val (v := .int .i64 ((x5).length : Int)) (QV.len (Rdg.vw 1 rfl) Try.underlying23 rfl) rfl rfl rfl ?_
          refine JL.val (v := .pointer (some ⟨b7, 2, none⟩)) (QV.fieldB fo_35_2 rfl rfl) rfl rfl rfl ?_
          refine JL.val (v := .int .i64 x3) (QV.load1 (ss := [Seg.c (.int .u8 x1), Seg.c (.int .i64 x2), Seg.c (.int .i64 x3), Seg.c (s4.v)]) 0 2 rfl tk_3 rfl rfl rfl) rfl rfl rfl ?_
          refine JL.val (v := .bool (decide (((x5).length : Int) = x3))) (QV.eql rfl rfl) rfl rfl rfl ?_
          refine JL.val (v := .bool (decide (((x5).length : Int) = x3))) (QV.pickT rfl rfl) rfl rfl rfl ?_
          refine JL.val (v := .bool (decide (((x5).length : Int) = x3))) (QV.assign rfl) rfl rfl rfl ?_
          refine JL.nil ?_
          refine QJ.then_normal ?_
          refine JC.ret ?_
          refine QJ.then_ret ?_
          obtain rfl := Option.some.inj hm
          exact QJ.body (vs := [.bool (decide (((x5).length : Int) = x3))]) (.inl rfl) rfl (ResVs.cons (ResV.tmp rfl) ResVs.nil) [] rfl rfl (.inr trivial) ⟨rfl, rfl⟩
        ·
          refine JL.val (v := .bool false) (QV.eq (QV.move rfl) (congrArg Value.bool (decide_eq_false h11))) rfl rfl rfl ?_
          refine JL.skip (d := some 18) rfl rfl rfl ?_
          refine JL.skip (d := some 19) rfl rfl rfl ?_
          refine JL.skip (d := some 20) rfl rfl rfl ?_
          refine JL.skip (d := some 21) rfl rfl rfl ?_
          refine JL.skip (d := some 22) rfl rfl rfl ?_
          refine JL.skip (d := some 23) rfl rfl rfl ?_
          refine JL.val (v := .bool false) (QV.pickF rfl rfl) rfl rfl rfl ?_
          refine JL.val (v := .bool false) (QV.assign rfl) rfl rfl rfl ?_
          refine JL.nil ?_
          refine QJ.then_normal ?_
          refine JC.ret ?_
          refine QJ.then_ret ?_
          obtain rfl := Option.some.inj hm
          exact QJ.body (vs := [.bool false]) (.inl rfl) rfl (ResVs.cons (ResV.tmp rfl) ResVs.nil) [] rfl rfl (.inr trivial) ⟨rfl, rfl⟩
      ·
        refine JC.condF' rfl (decide_eq_false h10) ?_
        refine JC.skip ?_
        refine QJ.then_normal ?_
        refine JC.seq ?_
        refine JC.seq ?_
        refine JC.region ?_
        refine JL.val (v := .pointer (some ⟨b7, 1, none⟩)) (QV.fieldB fo_35_1 rfl rfl) rfl rfl rfl ?_
        refine JL.val (v := .int .i64 x2) (QV.load1 (ss := [Seg.c (.int .u8 x1), Seg.c (.int .i64 x2), Seg.c (.int .i64 x3), Seg.c (s4.v)]) 0 1 rfl tk_3 rfl rfl rfl) rfl rfl rfl ?_
        refine JL.val (v := .bool (decide (x2 < (0 : Int)))) (QV.lss rfl rfl) rfl rfl rfl ?_
        rcases ite_inv hm with ⟨h12, hm⟩ | ⟨h12, hm⟩
        ·
          refine JL.val (v := .bool true) (QV.eq (QV.move rfl) (congrArg Value.bool (decide_eq_true h12))) rfl rfl rfl ?_
          refine JL.skip (d := some 29) rfl rfl rfl ?_
          refine JL.skip (d := some 30) rfl rfl rfl ?_
          refine JL.skip (d := some 31) rfl rfl rfl ?_
          refine JL.val (v := .bool true) (QV.pickT rfl rfl) rfl rfl rfl ?_
          refine JL.nil ?_
          refine QJ.then_normal ?_
          refine JC.condT rfl ?_
          refine JC.seq ?_
          refine JC.region ?_
          refine JL.val (v := .bool false) (QV.assign rfl) rfl rfl rfl ?_
          refine JL.nil ?_
          refine QJ.then_normal ?_
          refine JC.ret ?_
          refine QJ.then_ret ?_
          obtain rfl := Option.some.inj hm
          exact QJ.body (vs := [.bool false]) (.inl rfl) rfl (ResVs.cons (ResV.tmp rfl) ResVs.nil) [] rfl rfl (.inr trivial) ⟨rfl, rfl⟩
        ·
          refine JL.val (v := .bool false) (QV.eq (QV.move rfl) (congrArg Value.bool (decide_eq_false h12))) rfl rfl rfl ?_
          refine JL.val (v := .pointer (some ⟨b7, 1, none⟩)) (QV.fieldB fo_35_1 rfl rfl) rfl rfl rfl ?_
          refine JL.val (v := .int .i64 x2) (QV.load1 (ss := [Seg.c (.int .u8 x1), Seg.c (.int .i64 x2), Seg.c (.int .i64 x3), Seg.c (s4.v)]) 0 1 rfl tk_3 rfl rfl rfl) rfl rfl rfl ?_
          refine JL.val (v := .bool (decide ((2147483647 : Int) < x2))) (QV.gtr rfl rfl) rfl rfl rfl ?_
          refine JL.val (v := .bool (decide ((2147483647 : Int) < x2))) (QV.pickF rfl rfl) rfl rfl rfl ?_
          refine JL.nil ?_
          refine QJ.then_normal ?_
          rcases ite_inv hm with ⟨h13, hm⟩ | ⟨h13, hm⟩
          ·
            refine JC.condT' rfl (decide_eq_true h13) ?_
            refine JC.seq ?_
            refine JC.region ?_
            refine JL.val (v := .bool false) (QV.assign rfl) rfl rfl rfl ?_
            refine JL.nil ?_
            refine QJ.then_normal ?_
            refine JC.ret ?_
            refine QJ.then_ret ?_
            obtain rfl := Option.some.inj hm
            exact QJ.body (vs := [.bool false]) (.inl rfl) rfl (ResVs.cons (ResV.tmp rfl) ResVs.nil) [] rfl rfl (.inr trivial) ⟨rfl, rfl⟩
          ·
            refine JC.condF' rfl (decide_eq_false h13) ?_
            refine JC.skip ?_
            refine QJ.then_normal ?_
            refine JC.seq ?_
            refine JC.region ?_
            refine JL.val (v := .pointer (some ⟨b7, 0, none⟩)) (QV.fieldB fo_35_0 rfl rfl) rfl rfl rfl ?_
            refine JL.val (v := .int .u8 x1) (QV.load1 (ss := [Seg.c (.int .u8 x1), Seg.c (.int .i64 x2), Seg.c (.int .i64 x3), Seg.c (s4.v)]) 0 0 rfl tk_5 rfl rfl rfl) rfl rfl rfl ?_
            refine JL.val (v := .bool (decide (x1 = (2 : Int)))) (QV.eql rfl rfl) rfl rfl rfl ?_
            rcases ite_inv hm with ⟨h14, hm⟩ | ⟨h14, hm⟩
            ·
              refine JL.val (v := .bool true) (QV.eq (QV.move rfl) (congrArg Value.bool (decide_eq_true h14))) rfl rfl rfl ?_
              refine JL.val (v := .pointer (some ⟨b7, 3, none⟩)) (QV.fieldB fo_35_3 rfl rfl) rfl rfl rfl ?_
              refine JL.val (v := s4.v) (QV.load1 (ss := [Seg.c (.int .u8 x1), Seg.c (.int .i64 x2), Seg.c (.int .i64 x3), Seg.c (s4.v)]) 0 3 rfl tk_23 rfl rfl rfl) rfl rfl rfl ?_
              refine JL.val (v := .int .i64 ((x5).length : Int)) (QV.len (Rdg.vw 1 rfl) Try.underlying23 rfl) rfl rfl rfl ?_
              refine JL.val (v := .bool (decide (((x5).length : Int) = (0 : Int)))) (QV.eql rfl rfl) rfl rfl rfl ?_
              refine JL.val (v := .bool (decide (((x5).length : Int) = (0 : Int)))) (QV.pickT rfl rfl) rfl rfl rfl ?_
              rcases ite_inv hm with ⟨h15, hm⟩ | ⟨h15, hm⟩
              ·
                refine JL.val (v := .bool true) (QV.eq (QV.move rfl) (congrArg Value.bool (decide_eq_true h15))) rfl rfl rfl ?_
                refine JL.skip (d := some 43) rfl rfl rfl ?_
                refine JL.skip (d := some 44) rfl rfl rfl ?_
                refine JL.skip (d := some 45) rfl rfl rfl ?_
                refine JL.skip (d := some 46) rfl rfl rfl ?_
                refine JL.skip (d := some 47) rfl rfl rfl ?_
                refine JL.skip (d := some 48) rfl rfl rfl ?_
                refine JL.skip (d := some 49) rfl rfl rfl ?_
                refine JL.skip (d := some 50) rfl rfl rfl ?_
                refine JL.skip (d := some 51) rfl rfl rfl ?_
                refine JL.skip (d := some 52) rfl rfl rfl ?_
                refine JL.skip (d := some 53) rfl rfl rfl ?_
                refine JL.val (v := .bool true) (QV.pickT rfl rfl) rfl rfl rfl ?_
                refine JL.val (v := .bool true) (QV.assign rfl) rfl rfl rfl ?_
                refine JL.nil ?_
                refine QJ.then_normal ?_
                refine JC.ret ?_
                obtain rfl := Option.some.inj hm
                exact QJ.body (vs := [.bool true]) (.inl rfl) rfl (ResVs.cons (ResV.tmp rfl) ResVs.nil) [] rfl rfl (.inr trivial) ⟨rfl, rfl⟩
              ·
                refine JL.val (v := .bool false) (QV.eq (QV.move rfl) (congrArg Value.bool (decide_eq_false h15))) rfl rfl rfl ?_
                refine JL.val (v := .pointer (some ⟨b7, 0, none⟩)) (QV.fieldB fo_35_0 rfl rfl) rfl rfl rfl ?_
                refine JL.val (v := .int .u8 x1) (QV.load1 (ss := [Seg.c (.int .u8 x1), Seg.c (.int .i64 x2), Seg.c (.int .i64 x3), Seg.c (s4.v)]) 0 0 rfl tk_5 rfl rfl rfl) rfl rfl rfl ?_
                refine JL.val (v := .bool (decide (x1 = (3 : Int)))) (QV.eql rfl rfl) rfl rfl rfl ?_
                rcases ite_inv hm with ⟨h16, hm⟩ | ⟨h16, hm⟩
                ·
                  refine JL.val (v := .bool true) (QV.eq (QV.move rfl) (congrArg Value.bool (decide_eq_true h16))) rfl rfl rfl ?_
                  refine JL.val (v := .pointer (some ⟨b7, 3, none⟩)) (QV.fieldB fo_35_3 rfl rfl) rfl rfl rfl ?_
                  refine JL.val (v := s4.v) (QV.load1 (ss := [Seg.c (.int .u8 x1), Seg.c (.int .i64 x2), Seg.c (.int .i64 x3), Seg.c (s4.v)]) 0 3 rfl tk_23 rfl rfl rfl) rfl rfl rfl ?_
                  refine JL.val (v := .int .i64 ((x5).length : Int)) (QV.len (Rdg.vw 1 rfl) Try.underlying23 rfl) rfl rfl rfl ?_
                  refine JL.val (v := .pointer (some ⟨b7, 2, none⟩)) (QV.fieldB fo_35_2 rfl rfl) rfl rfl rfl ?_
                  refine JL.val (v := .int .i64 x3) (QV.load1 (ss := [Seg.c (.int .u8 x1), Seg.c (.int .i64 x2), Seg.c (.int .i64 x3), Seg.c (s4.v)]) 0 2 rfl tk_3 rfl rfl rfl) rfl rfl rfl ?_
                  refine JL.val (v := .bool (decide (((x5).length : Int) = x3))) (QV.eql rfl rfl) rfl rfl rfl ?_
                  refine JL.val (v := .bool (decide (((x5).length : Int) = x3))) (QV.pickT rfl rfl) rfl rfl rfl ?_
                  refine JL.val (v := .bool (decide (((x5).length : Int) = x3))) (QV.pickF rfl rfl) rfl rfl rfl ?_
                  refine JL.val (v := .bool (decide (((x5).length : Int) = x3))) (QV.assign rfl) rfl rfl rfl ?_
                  refine JL.nil ?_
                  refine QJ.then_normal ?_
                  refine JC.ret ?_
                  obtain rfl := Option.some.inj hm
                  exact QJ.body (vs := [.bool (decide (((x5).length : Int) = x3))]) (.inl rfl) rfl (ResVs.cons (ResV.tmp rfl) ResVs.nil) [] rfl rfl (.inr trivial) ⟨rfl, rfl⟩
                ·
                  refine JL.val (v := .bool false) (QV.eq (QV.move rfl) (congrArg Value.bool (decide_eq_false h16))) rfl rfl rfl ?_
                  refine JL.skip (d := some 47) rfl rfl rfl ?_
                  refine JL.skip (d := some 48) rfl rfl rfl ?_
                  refine JL.skip (d := some 49) rfl rfl rfl ?_
                  refine JL.skip (d := some 50) rfl rfl rfl ?_
                  refine JL.skip (d := some 51) rfl rfl rfl ?_
                  refine JL.skip (d := some 52) rfl rfl rfl ?_
                  refine JL.val (v := .bool false) (QV.pickF rfl rfl) rfl rfl rfl ?_
                  refine JL.val (v := .bool false) (QV.pickF rfl rfl) rfl rfl rfl ?_
                  refine JL.val (v := .bool false) (QV.assign rfl) rfl rfl rfl ?_
                  refine JL.nil ?_
                  refine QJ.then_normal ?_
                  refine JC.ret ?_
                  obtain rfl := Option.some.inj hm
                  exact QJ.body (vs := [.bool false]) (.inl rfl) rfl (ResVs.cons (ResV.tmp rfl) ResVs.nil) [] rfl rfl (.inr trivial) ⟨rfl, rfl⟩
            ·
              refine JL.val (v := .bool false) (QV.eq (QV.move rfl) (congrArg Value.bool (decide_eq_false h14))) rfl rfl rfl ?_
              refine JL.skip (d := some 37) rfl rfl rfl ?_
              refine JL.skip (d := some 38) rfl rfl rfl ?_
              refine JL.skip (d := some 39) rfl rfl rfl ?_
              refine JL.skip (d := some 40) rfl rfl rfl ?_
              refine JL.val (v := .bool false) (QV.pickF rfl rfl) rfl rfl rfl ?_
              refine JL.val (v := .bool false) (QV.move rfl) rfl rfl rfl ?_
              refine JL.val (v := .pointer (some ⟨b7, 0, none⟩)) (QV.fieldB fo_35_0 rfl rfl) rfl rfl rfl ?_
              refine JL.val (v := .int .u8 x1) (QV.load1 (ss := [Seg.c (.int .u8 x1), Seg.c (.int .i64 x2), Seg.c (.int .i64 x3), Seg.c (s4.v)]) 0 0 rfl tk_5 rfl rfl rfl) rfl rfl rfl ?_
              refine JL.val (v := .bool (decide (x1 = (3 : Int)))) (QV.eql rfl rfl) rfl rfl rfl ?_
              rcases ite_inv hm with ⟨h17, hm⟩ | ⟨h17, hm⟩
              ·
                refine JL.val (v := .bool true) (QV.eq (QV.move rfl) (congrArg Value.bool (decide_eq_true h17))) rfl rfl rfl ?_
                refine JL.val (v := .pointer (some ⟨b7, 3, none⟩)) (QV.fieldB fo_35_3 rfl rfl) rfl rfl rfl ?_
                refine JL.val (v := s4.v) (QV.load1 (ss := [Seg.c (.int .u8 x1), Seg.c (.int .i64 x2), Seg.c (.int .i64 x3), Seg.c (s4.v)]) 0 3 rfl tk_23 rfl rfl rfl) rfl rfl rfl ?_
                refine JL.val (v := .int .i64 ((x5).length : Int)) (QV.len (Rdg.vw 1 rfl) Try.underlying23 rfl) rfl rfl rfl ?_
                refine JL.val (v := .pointer (some ⟨b7, 2, none⟩)) (QV.fieldB fo_35_2 rfl rfl) rfl rfl rfl ?_
                refine JL.val (v := .int .i64 x3) (QV.load1 (ss := [Seg.c (.int .u8 x1), Seg.c (.int .i64 x2), Seg.c (.int .i64 x3), Seg.c (s4.v)]) 0 2 rfl tk_3 rfl rfl rfl) rfl rfl rfl ?_
                refine JL.val (v := .bool (decide (((x5).length : Int) = x3))) (QV.eql rfl rfl) rfl rfl rfl ?_
                refine JL.val (v := .bool (decide (((x5).length : Int) = x3))) (QV.pickT rfl rfl) rfl rfl rfl ?_
                refine JL.val (v := .bool (decide (((x5).length : Int) = x3))) (QV.pickF rfl rfl) rfl rfl rfl ?_
                refine JL.val (v := .bool (decide (((x5).length : Int) = x3))) (QV.assign rfl) rfl rfl rfl ?_
                refine JL.nil ?_
                refine QJ.then_normal ?_
                refine JC.ret ?_
                obtain rfl := Option.some.inj hm
                exact QJ.body (vs := [.bool (decide (((x5).length : Int) = x3))]) (.inl rfl) rfl (ResVs.cons (ResV.tmp rfl) ResVs.nil) [] rfl rfl (.inr trivial) ⟨rfl, rfl⟩
              ·
                refine JL.val (v := .bool false) (QV.eq (QV.move rfl) (congrArg Value.bool (decide_eq_false h17))) rfl rfl rfl ?_
                refine JL.skip (d := some 47) rfl rfl rfl ?_
                refine JL.skip (d := some 48) rfl rfl rfl ?_
                refine JL.skip (d := some 49) rfl rfl rfl ?_
                refine JL.skip (d := some 50) rfl rfl rfl ?_
                refine JL.skip (d := some 51) rfl rfl rfl ?_
                refine JL.skip (d := some 52) rfl rfl rfl ?_
                refine JL.val (v := .bool false) (QV.pickF rfl rfl) rfl rfl rfl ?_
                refine JL.val (v := .bool false) (QV.pickF rfl rfl) rfl rfl rfl ?_
                refine JL.val (v := .bool false) (QV.assign rfl) rfl rfl rfl ?_
                refine JL.nil ?_
                refine QJ.then_normal ?_
                refine JC.ret ?_
                obtain rfl := Option.some.inj hm
                exact QJ.body (vs := [.bool false]) (.inl rfl) rfl (ResVs.cons (ResV.tmp rfl) ResVs.nil) [] rfl rfl (.inr trivial) ⟨rfl, rfl⟩

/-! ### 49: drogher/drogherref16.Number -/
noncomputable def F49.j1  (d5 : Int) (d7 : List Int) : Option (List Int) :=
  (if ((d7).length + ([(IntKind.wrap .u8 d5)]).length) * 1 ≤ 140737488355328 ∧ (d7).length + ([(IntKind.wrap .u8 d5)]).length ≤ 9223372036854775807 then some (d7 ++ [(IntKind.wrap .u8 d5)]) else none)
noncomputable def F49.b1  : (Int × List Int) → Option ((Int × List Int) ⊕ (Int × List Int))
  | (d11, d13) => (if (127 : Int) < d11 then (if ((d13).length + ([(IntKind.wrap .u8 (IntKind.wrap .i64 ((128 : Int) + (Int.tmod d11 (128 : Int)))))]).length) * 1 ≤ 140737488355328 ∧ (d13).length + ([(IntKind.wrap .u8 (IntKind.wrap .i64 ((128 : Int) + (Int.tmod d11 (128 : Int)))))]).length ≤ 9223372036854775807 then some (.inl ((IntKind.wrap .i64 (Int.tdiv d11 (128 : Int))), (d13 ++ [(IntKind.wrap .u8 (IntKind.wrap .i64 ((128 : Int) + (Int.tmod d11 (128 : Int)))))]))) else none) else some (.inr (d11, d13)))
noncomputable def F49.m (x1 : Int) : Option (List Int) :=
  ((loop (F49.b1) (x1, ([] : List Int))).bind fun y => match y with | (d5, d7) => F49.j1 (d5) (d7))
set_option maxRecDepth 100000 in
set_option maxHeartbeats 4000000 in
theorem F49.spec (x1 : Int) (r : (List Int)) (hm : F49.m x1 = some r) :
    Ctr Try.prog false 49 [.int .i64 x1] [] (fun v L' => ∃ (g2 : SlV), v = g2.v ∧ L' = [Asr.of 5 (Enc.int .u8) (g2.v) r]) := by
  refine Ctr.intro (n := 21) (env := [(0, .int .i64 x1)]) Try.func49 rfl rfl rfl rfl (fun c => ?_)
  unfold F49.m at hm
  refine JC.seq ?_
  refine JC.region ?_
  refine JL.ent (fun _ hs => hs.nil 5 (Enc.int .u8)) ?_
  refine JL.val (v := SlV.nil.v) (QV.assign rfl) rfl rfl rfl ?_
  refine JL.nil ?_
  refine QJ.then_normal ?_
  refine JC.seq ?_
  refine JC.region ?_
  refine JL.mv (d := some 4) (MV.lit0 (Enc.int .u8) Try.underlying23 (by kernel_rfl)) rfl rfl rfl ?_
  rintro _ _ ⟨z4, rfl, rfl⟩
  refine JL.val (v := z4.v) (QV.assign rfl) rfl rfl rfl ?_
  refine JL.nil ?_
  refine QJ.then_normal ?_
  refine JC.seq ?_
  refine JC.cutK (Y := (Int × List Int) × SlV) (fun y => match y with | ((d5, d7), _) => F49.j1 (d5) (d7) = some r) (fun y => match y with | ((d5, d7), z6) => [(0, .int .i64 d5), (3, z6.v)]) (fun y => match y with | ((d5, d7), z6) => [Asr.of 5 (Enc.int .u8) (z6.v) d7]) ?_ ?_
  ·
    rintro ⟨⟨d5, d7⟩, z6⟩ hm
    unfold F49.j1 at hm
    show QJ _ _ [(0, .int .i64 d5), (3, z6.v)] [Asr.of 5 (Enc.int .u8) (z6.v) d7] _ _
    refine QJ.then_normal ?_
    refine JC.seq ?_
    refine JC.region ?_
    refine JL.val (v := z6.v) (QV.move rfl) rfl rfl rfl ?_
    refine JL.val (v := .int .i64 d5) (QV.move rfl) rfl rfl rfl ?_
    refine JL.val (v := .int .u8 (IntKind.wrap .u8 d5)) (QV.conv rfl (by rw [Try.underlying3]; rfl) Try.underlying5) rfl rfl rfl ?_
    refine JL.mv (d := some 19) (MV.lit (E := (Enc.int .u8)) (vals := [(0, .int .u8 (IntKind.wrap .u8 d5))]) [(IntKind.wrap .u8 d5)] Try.underlying23 zi_5 rfl (by decide) rfl (by kernel_rfl)) rfl rfl rfl ?_
    rintro _ _ ⟨z8, rfl, rfl⟩
    obtain ⟨h9, hm⟩ := guard_inv hm
    refine JL.mv (d := some 20) (MV.append 1 rfl (Rdg.of 0 rfl) Try.underlying23 zi_5 rfl (by decide) rfl rfl h9) rfl rfl rfl ?_
    rintro _ _ ⟨z10, rfl, rfl⟩
    refine JL.val (v := z10.v) (QV.assign rfl) rfl rfl rfl ?_
    refine JL.nil ?_
    refine QJ.then_normal ?_
    refine JC.ret ?_
    obtain rfl := Option.some.inj hm
    exact QJ.body (vs := [z10.v]) (.inl rfl) rfl (ResVs.cons (ResV.tmp rfl) ResVs.nil) [1] rfl rfl (.inr ⟨own_of _ _ _ _, trivial⟩) ⟨z10, rfl, rfl⟩
  ·
    refine JC.block ?_
    obtain ⟨y17, hl18, hmo19⟩ := bind_inv hm
    refine JC.loop (F49.b1) (fun x z => match x, z with | (d11, d13), z12 => [(0, .int .i64 d11), (3, z12.v)]) (fun x z => match x, z with | (d11, d13), z12 => [Asr.of 5 (Enc.int .u8) (z12.v) d13]) (x1, ([] : List Int)) z4 y17 hl18 [0] (by exact ⟨rfl, rfl, trivial⟩) rfl rfl ?_
    rintro ⟨d11, d13⟩ z12 s20 hm
    unfold F49.b1 at hm
    dsimp only at hm
    show JC _ _ _ [(0, .int .i64 d11), (3, z12.v)] [Asr.of 5 (Enc.int .u8) (z12.v) d13] _ _
    refine JC.seq ?_
    refine JC.seq ?_
    refine JC.region ?_
    refine JL.val (v := .int .i64 d11) (QV.move rfl) rfl rfl rfl ?_
    refine JL.val (v := .bool (decide ((127 : Int) < d11))) (QV.gtr rfl rfl) rfl rfl rfl ?_
    refine JL.nil ?_
    refine QJ.then_normal ?_
    rcases ite_inv hm with ⟨h21, hm⟩ | ⟨h21, hm⟩
    ·
      refine JC.condT' rfl (decide_eq_true h21) ?_
      refine JC.skip ?_
      refine QJ.then_normal ?_
      refine JC.block ?_
      refine JC.seq ?_
      refine JC.region ?_
      refine JL.val (v := z12.v) (QV.move rfl) rfl rfl rfl ?_
      refine JL.val (v := .int .i64 d11) (QV.move rfl) rfl rfl rfl ?_
      refine JL.val (v := .int .i64 (Int.tmod d11 (128 : Int))) (QV.rem rfl rfl (by decide)) rfl rfl rfl ?_
      refine JL.val (v := .int .i64 (IntKind.wrap .i64 ((128 : Int) + (Int.tmod d11 (128 : Int))))) (QV.add rfl rfl) rfl rfl rfl ?_
      refine JL.val (v := .int .u8 (IntKind.wrap .u8 (IntKind.wrap .i64 ((128 : Int) + (Int.tmod d11 (128 : Int)))))) (QV.conv rfl (by rw [Try.underlying3]; rfl) Try.underlying5) rfl rfl rfl ?_
      refine JL.mv (d := some 12) (MV.lit (E := (Enc.int .u8)) (vals := [(0, .int .u8 (IntKind.wrap .u8 (IntKind.wrap .i64 ((128 : Int) + (Int.tmod d11 (128 : Int))))))]) [(IntKind.wrap .u8 (IntKind.wrap .i64 ((128 : Int) + (Int.tmod d11 (128 : Int)))))] Try.underlying23 zi_5 rfl (by decide) rfl (by kernel_rfl)) rfl rfl rfl ?_
      rintro _ _ ⟨z22, rfl, rfl⟩
      obtain ⟨h23, hm⟩ := guard_inv hm
      refine JL.mv (d := some 13) (MV.append 1 rfl (Rdg.of 0 rfl) Try.underlying23 zi_5 rfl (by decide) rfl rfl h23) rfl rfl rfl ?_
      rintro _ _ ⟨z24, rfl, rfl⟩
      refine JL.val (v := z24.v) (QV.assign rfl) rfl rfl rfl ?_
      refine JL.nil ?_
      refine QJ.then_normal ?_
      refine JC.region ?_
      refine JL.val (v := .int .i64 d11) (QV.move rfl) rfl rfl rfl ?_
      refine JL.val (v := .int .i64 (IntKind.wrap .i64 (Int.tdiv d11 (128 : Int)))) (QV.quo rfl rfl (by decide)) rfl rfl rfl ?_
      refine JL.val (v := .int .i64 (IntKind.wrap .i64 (Int.tdiv d11 (128 : Int)))) (QV.assign rfl) rfl rfl rfl ?_
      refine JL.nil ?_
      refine QJ.block_normal ?_
      obtain rfl := Option.some.inj hm
      exact QJ.round_on ((IntKind.wrap .i64 (Int.tdiv d11 (128 : Int))), (d13 ++ [(IntKind.wrap .u8 (IntKind.wrap .i64 ((128 : Int) + (Int.tmod d11 (128 : Int)))))])) z24 [1] (by exact ⟨rfl, rfl, trivial⟩) rfl rfl
    ·
      refine JC.condF' rfl (decide_eq_false h21) ?_
      refine JC.exit ?_
      refine QJ.then_exit ?_
      obtain rfl := Option.some.inj hm
      refine QJ.round_exit (fun hy => ?_)
      subst hy
      refine QJ.block_hit ?_
      exact QJ.cut_normal ((d11, d13), z12) hmo19 [0] (by exact ⟨rfl, rfl, trivial⟩) rfl rfl

/-! ### 25: drogher/drogherref16.Put -/
noncomputable def F25.j1  (d9 : List Int) : Option (List Int × Int) :=
  some (d9, (0 : Int))
noncomputable def F25.j2 (x2 : List (Int × Int × Int × (List Int))) (d12 : Int) (d35 : List Int) : Option ((List Int × Int) ⊕ (((List Int × Int)) ⊕ (List Int))) :=
  (if ((d35).length + ((gd x2 d12).2.2.2).length) * 1 ≤ 140737488355328 ∧ (d35).length + ((gd x2 d12).2.2.2).length ≤ 9223372036854775807 then some (.inl ((d35 ++ (gd x2 d12).2.2.2), (IntKind.wrap .i64 (d12 + (1 : Int))))) else none)
noncomputable def F25.b1 (x2 : List (Int × Int × Int × (List Int))) : (List Int × Int) → Option ((List Int × Int) ⊕ (((List Int × Int)) ⊕ (List Int)))
  | (d11, d12) => (if d12 < ((x2).length : Int) then (if 0 ≤ d12 ∧ d12 < ((x2).length : Int) then ((F24.m ((gd x2 d12).1) ((gd x2 d12).2.1) ((gd x2 d12).2.2.1) ((gd x2 d12).2.2.2)).bind fun y23 => (if y23 = true then (if ((d11).length + ([(gd x2 d12).1]).length) * 1 ≤ 140737488355328 ∧ (d11).length + ([(gd x2 d12).1]).length ≤ 9223372036854775807 then ((F49.m ((gd x2 d12).2.2.1)).bind fun y29 => (if (((d11 ++ [(gd x2 d12).1])).length + (y29).length) * 1 ≤ 140737488355328 ∧ ((d11 ++ [(gd x2 d12).1])).length + (y29).length ≤ 9223372036854775807 then (if (1 : Int) < (gd x2 d12).1 then ((F49.m ((gd x2 d12).2.1)).bind fun y39 => (if ((((d11 ++ [(gd x2 d12).1]) ++ y29)).length + (y39).length) * 1 ≤ 140737488355328 ∧ (((d11 ++ [(gd x2 d12).1]) ++ y29)).length + (y39).length ≤ 9223372036854775807 then F25.j2 x2 d12 ((((d11 ++ [(gd x2 d12).1]) ++ y29) ++ y39)) else none)) else F25.j2 x2 d12 (((d11 ++ [(gd x2 d12).1]) ++ y29))) else none)) else none) else some (.inr (.inl ((([] : List Int), (3 : Int))))))) else none) else some (.inr (.inr (d11))))
noncomputable def F25.m (x2 : List (Int × Int × Int × (List Int))) : Option (List Int × Int) :=
  ((loop (F25.b1 x2) (([] : List Int), (0 : Int))).bind fun y => match y with | .inl r => some r | .inr d9 => F25.j1 (d9))
set_option maxRecDepth 100000 in
set_option maxHeartbeats 4000000 in
theorem F25.spec (s1 : SlV) (z3 : List (Unit × Unit × Unit × SlV)) (x2 : List (Int × Int × Int × (List Int))) (r : (List Int × Int)) (hm : F25.m x2 = some r) :
    Ctr Try.prog false 25 [s1.v] [Asr.vn (NE.pair (NE.flat (Enc.int .u8)) (NE.pair (NE.flat (Enc.int .i64)) (NE.pair (NE.flat (Enc.int .i64)) (NE.sl (Enc.int .u8))))) (s1.v) z3 x2] (fun v L' => ∃ (g4 : SlV), v = .tuple #[g4.v, .int .i64 r.2] ∧ L' = [Asr.of 5 (Enc.int .u8) (g4.v) r.1]) := by
  refine Ctr.intro (n := 49) (env := [(0, s1.v)]) Try.func25 rfl rfl rfl rfl (fun c => ?_)
  unfold F25.m at hm
  refine JC.seq ?_
  refine JC.region ?_
  refine JL.ent (fun _ hs => hs.nil 5 (Enc.int .u8)) ?_
  refine JL.val (v := SlV.nil.v) (QV.assign rfl) rfl rfl rfl ?_
  refine JL.val (v := .int .i64 (0 : Int)) (QV.assign rfl) rfl rfl rfl ?_
  refine JL.nil ?_
  refine QJ.then_normal ?_
  refine JC.seq ?_
  refine JC.region ?_
  refine JL.mv (d := some 9) (MV.lit0 (Enc.int .u8) Try.underlying23 (by kernel_rfl)) rfl rfl rfl ?_
  rintro _ _ ⟨z7, rfl, rfl⟩
  refine JL.val (v := z7.v) (QV.assign rfl) rfl rfl rfl ?_
  refine JL.nil ?_
  refine QJ.then_normal ?_
  refine JC.seq ?_
  refine JC.seq ?_
  refine JC.region ?_
  refine JL.val (v := s1.v) (QV.move rfl) rfl rfl rfl ?_
  refine JL.val (v := .int .i64 ((x2).length : Int)) (QV.lenN (RdN.vn 2 rfl) Try.underlying22 rfl) rfl rfl rfl ?_
  refine JL.val (v := .int .i64 (0 : Int)) (QV.move rfl) rfl rfl rfl ?_
  refine JL.nil ?_
  refine QJ.then_normal ?_
  refine JC.cutK (Y := (List Int) × SlV) (fun y => match y with | (d9, _) => F25.j1 (d9) = some r) (fun y => match y with | (d9, z8) => [(4, z8.v)]) (fun y => match y with | (d9, z8) => [Asr.of 5 (Enc.int .u8) (z8.v) d9]) ?_ ?_
  ·
    rintro ⟨d9, z8⟩ hm
    unfold F25.j1 at hm
    show QJ _ _ [(4, z8.v)] [Asr.of 5 (Enc.int .u8) (z8.v) d9] _ _
    refine QJ.then_normal ?_
    refine JC.seq ?_
    refine JC.region ?_
    refine JL.val (v := z8.v) (QV.move rfl) rfl rfl rfl ?_
    refine JL.val (v := z8.v) (QV.assign rfl) rfl rfl rfl ?_
    refine JL.val (v := .int .i64 (0 : Int)) (QV.assign rfl) rfl rfl rfl ?_
    refine JL.nil ?_
    refine QJ.then_normal ?_
    refine JC.ret ?_
    obtain rfl := Option.some.inj hm
    exact QJ.body (vs := [z8.v, .int .i64 (0 : Int)]) (.inl rfl) rfl (ResVs.cons (ResV.tmp rfl) (ResVs.cons (ResV.tmp rfl) ResVs.nil)) [0] rfl rfl (.inr ⟨own_of _ _ _ _, trivial⟩) ⟨z8, rfl, rfl⟩
  ·
    refine JC.block ?_
    obtain ⟨y16, hl17, hmo18⟩ := bind_inv hm
    refine JC.loop (F25.b1 x2) (fun x z => match x, z with | (d11, d12), z10 => [(0, s1.v), (4, z10.v), (11, .int .i64 ((x2).length : Int)), (12, .int .i64 d12)]) (fun x z => match x, z with | (d11, d12), z10 => [Asr.vn (NE.pair (NE.flat (Enc.int .u8)) (NE.pair (NE.flat (Enc.int .i64)) (NE.pair (NE.flat (Enc.int .i64)) (NE.sl (Enc.int .u8))))) (s1.v) z3 x2, Asr.of 5 (Enc.int .u8) (z10.v) d11]) (([] : List Int), (0 : Int)) z7 y16 hl17 [2, 0] (by exact ⟨rfl, rfl, rfl, rfl, trivial⟩) rfl rfl ?_
    rintro ⟨d11, d12⟩ z10 s19 hm
    unfold F25.b1 at hm
    dsimp only at hm
    show JC _ _ _ [(0, s1.v), (4, z10.v), (11, .int .i64 ((x2).length : Int)), (12, .int .i64 d12)] [Asr.vn (NE.pair (NE.flat (Enc.int .u8)) (NE.pair (NE.flat (Enc.int .i64)) (NE.pair (NE.flat (Enc.int .i64)) (NE.sl (Enc.int .u8))))) (s1.v) z3 x2, Asr.of 5 (Enc.int .u8) (z10.v) d11] _ _
    refine JC.seq ?_
    refine JC.region ?_
    refine JL.val (v := .bool (decide (d12 < ((x2).length : Int)))) (QV.lss rfl rfl) rfl rfl rfl ?_
    refine JL.nil ?_
    refine QJ.then_normal ?_
    refine JC.seq ?_
    rcases ite_inv hm with ⟨h20, hm⟩ | ⟨h20, hm⟩
    ·
      refine JC.condT' rfl (decide_eq_true h20) ?_
      refine JC.skip ?_
      refine QJ.then_normal ?_
      refine JC.seq ?_
      refine JC.block ?_
      refine JC.seq ?_
      refine JC.region ?_
      refine JL.val (v := .int .i64 d12) (QV.move rfl) rfl rfl rfl ?_
      refine JL.val (v := .int .i64 d12) (QV.assign rfl) rfl rfl rfl ?_
      refine JL.nil ?_
      refine QJ.then_normal ?_
      refine JC.seq ?_
      refine JC.region ?_
      refine JL.val (v := s1.v) (QV.move rfl) rfl rfl rfl ?_
      refine JL.val (v := .int .i64 d12) (QV.move rfl) rfl rfl rfl ?_
      obtain ⟨h21, hm⟩ := guard_inv hm
      refine JL.val (v := .pointer (some (elA (s1.v) (Int.toNat d12 * ((NE.pair (NE.flat (Enc.int .u8)) (NE.pair (NE.flat (Enc.int .i64)) (NE.pair (NE.flat (Enc.int .i64)) (NE.sl (Enc.int .u8))))).E).sz)))) (QV.indexN (RdN.vn 0 rfl) Try.underlying22 tk_35 rfl rfl h21) rfl rfl rfl ?_
      refine JL.val (v := .agg #[.int .u8 (gd x2 d12).1, .int .i64 (gd x2 d12).2.1, .int .i64 (gd x2 d12).2.2.1, (gd z3 d12).2.2.2.v]) (QV.eq (QV.elNN (RdN.vn 0 rfl) tk_35 rfl h21) rfl) rfl rfl rfl ?_
      refine JL.ent (fun _ hs => hs.nil 5 (Enc.int .u8)) ?_
      refine JL.mv (d := some 6) (MV.alloc [Seg.c (.int .u8 (0 : Int)), Seg.c (.int .i64 (0 : Int)), Seg.c (.int .i64 (0 : Int)), Seg.c (SlV.nil.v)] z_35 rfl) rfl rfl rfl ?_
      rintro _ _ ⟨b22, rfl, rfl⟩
      refine JL.ent (fun _ hs => hs.derive (Drv.el (K := (NE.pair (NE.flat (Enc.int .u8)) (NE.pair (NE.flat (Enc.int .i64)) (NE.pair (NE.flat (Enc.int .i64)) (NE.sl (Enc.int .u8)))))) (A := Asr.vw (Enc.int .u8) ((gd z3 d12).2.2.2.v) (gd x2 d12).2.2.2) (Drv.vn 2 rfl) h21 (fun _ _ q => q.2.2.2))) ?_
      refine JL.mv (d := none) (MV.store (ss := [Seg.c (.int .u8 (0 : Int)), Seg.c (.int .i64 (0 : Int)), Seg.c (.int .i64 (0 : Int)), Seg.c (SlV.nil.v)]) 1 0 4 [Seg.c (.int .u8 (gd x2 d12).1), Seg.c (.int .i64 (gd x2 d12).2.1), Seg.c (.int .i64 (gd x2 d12).2.2.1), Seg.c ((gd z3 d12).2.2.2.v)] rfl tk_35 rfl rfl rfl rfl (fun w hs => ⟨rfl, one_c rfl, one_c rfl, one_c rfl, one_sl (Rdg.vw 0 rfl) hs, trivial⟩)) rfl rfl rfl ?_
      rintro _ _ ⟨rfl, rfl⟩
      refine JL.nil ?_
      refine QJ.then_normal ?_
      refine JC.seq ?_
      refine JC.seq ?_
      refine JC.region ?_
      refine JL.val (v := .agg #[.int .u8 (gd x2 d12).1, .int .i64 (gd x2 d12).2.1, .int .i64 (gd x2 d12).2.2.1, (gd z3 d12).2.2.2.v]) (QV.eq (QV.loadN (ss := [Seg.c (.int .u8 (gd x2 d12).1), Seg.c (.int .i64 (gd x2 d12).2.1), Seg.c (.int .i64 (gd x2 d12).2.2.1), Seg.c ((gd z3 d12).2.2.2.v)]) 1 0 4 rfl tk_35 rfl rfl rfl rfl) rfl) rfl rfl rfl ?_
      obtain ⟨y23, hc24, hm⟩ := bind_inv hm
      refine JL.mv (d := some 20) (MV.call (Lo := []) (Lr := [Asr.vw (Enc.int .u8) ((gd z3 d12).2.2.2.v) (gd x2 d12).2.2.2, Asr.blk b22 35 [Seg.c (.int .u8 (gd x2 d12).1), Seg.c (.int .i64 (gd x2 d12).2.1), Seg.c (.int .i64 (gd x2 d12).2.2.1), Seg.c ((gd z3 d12).2.2.2.v)], Asr.of 5 (Enc.int .u8) (SlV.nil.v) ([] : List Int), Asr.vn (NE.pair (NE.flat (Enc.int .u8)) (NE.pair (NE.flat (Enc.int .i64)) (NE.pair (NE.flat (Enc.int .i64)) (NE.sl (Enc.int .u8))))) (s1.v) z3 x2, Asr.of 5 (Enc.int .u8) (z10.v) d11]) (F24.spec ((gd z3 d12).2.2.2) ((gd x2 d12).1) ((gd x2 d12).2.1) ((gd x2 d12).2.2.1) ((gd x2 d12).2.2.2) _ hc24) rfl Try.func24 rfl rfl rfl [] [0, 1, 2, 3, 4] rfl rfl rfl ⟨(Drv.vw 0 rfl), trivial⟩) rfl rfl rfl ?_
      rintro _ _ ⟨_, ⟨rfl, rfl⟩, rfl⟩
      refine JL.val (v := .bool (!y23)) (QV.not rfl) rfl rfl rfl ?_
      refine JL.nil ?_
      refine QJ.then_normal ?_
      rcases ite_inv hm with ⟨h25, hm⟩ | ⟨h25, hm⟩
      ·
        refine JC.condF' rfl (congrArg Bool.not h25) ?_
        refine JC.skip ?_
        refine QJ.then_normal ?_
        refine JC.seq ?_
        refine JC.region ?_
        refine JL.val (v := z10.v) (QV.move rfl) rfl rfl rfl ?_
        refine JL.val (v := .pointer (some ⟨b22, 0, none⟩)) (QV.fieldB fo_35_0 rfl rfl) rfl rfl rfl ?_
        refine JL.val (v := .int .u8 (gd x2 d12).1) (QV.load1 (ss := [Seg.c (.int .u8 (gd x2 d12).1), Seg.c (.int .i64 (gd x2 d12).2.1), Seg.c (.int .i64 (gd x2 d12).2.2.1), Seg.c ((gd z3 d12).2.2.2.v)]) 1 0 rfl tk_5 rfl rfl rfl) rfl rfl rfl ?_
        refine JL.mv (d := some 26) (MV.lit (E := (Enc.int .u8)) (vals := [(0, .int .u8 (gd x2 d12).1)]) [(gd x2 d12).1] Try.underlying23 zi_5 rfl (by decide) rfl (by kernel_rfl)) rfl rfl rfl ?_
        rintro _ _ ⟨z26, rfl, rfl⟩
        obtain ⟨h27, hm⟩ := guard_inv hm
        refine JL.mv (d := some 27) (MV.append 5 rfl (Rdg.of 0 rfl) Try.underlying23 zi_5 rfl (by decide) rfl rfl h27) rfl rfl rfl ?_
        rintro _ _ ⟨z28, rfl, rfl⟩
        refine JL.val (v := z28.v) (QV.assign rfl) rfl rfl rfl ?_
        refine JL.nil ?_
        refine QJ.then_normal ?_
        refine JC.seq ?_
        refine JC.region ?_
        refine JL.val (v := .pointer (some ⟨b22, 2, none⟩)) (QV.fieldB fo_35_2 rfl rfl) rfl rfl rfl ?_
        refine JL.val (v := .int .i64 (gd x2 d12).2.2.1) (QV.load1 (ss := [Seg.c (.int .u8 (gd x2 d12).1), Seg.c (.int .i64 (gd x2 d12).2.1), Seg.c (.int .i64 (gd x2 d12).2.2.1), Seg.c ((gd z3 d12).2.2.2.v)]) 2 2 rfl tk_3 rfl rfl rfl) rfl rfl rfl ?_
        obtain ⟨y29, hc30, hm⟩ := bind_inv hm
        refine JL.mv (d := some 30) (MV.call (Lo := []) (Lr := [Asr.of 5 (Enc.int .u8) (z26.v) [(gd x2 d12).1], Asr.vw (Enc.int .u8) ((gd z3 d12).2.2.2.v) (gd x2 d12).2.2.2, Asr.blk b22 35 [Seg.c (.int .u8 (gd x2 d12).1), Seg.c (.int .i64 (gd x2 d12).2.1), Seg.c (.int .i64 (gd x2 d12).2.2.1), Seg.c ((gd z3 d12).2.2.2.v)], Asr.of 5 (Enc.int .u8) (SlV.nil.v) ([] : List Int), Asr.vn (NE.pair (NE.flat (Enc.int .u8)) (NE.pair (NE.flat (Enc.int .i64)) (NE.pair (NE.flat (Enc.int .i64)) (NE.sl (Enc.int .u8))))) (s1.v) z3 x2, Asr.of 5 (Enc.int .u8) (z28.v) (d11 ++ [(gd x2 d12).1])]) (F49.spec ((gd x2 d12).2.2.1) _ hc30) rfl Try.func49 rfl rfl rfl [] [0, 1, 2, 3, 4, 5] rfl rfl rfl trivial) rfl rfl rfl ?_
        rintro _ _ ⟨_, ⟨z31, rfl, rfl⟩, rfl⟩
        refine JL.val (v := z31.v) (QV.assign rfl) rfl rfl rfl ?_
        refine JL.nil ?_
        refine QJ.then_normal ?_
        refine JC.seq ?_
        refine JC.region ?_
        refine JL.val (v := z28.v) (QV.move rfl) rfl rfl rfl ?_
        refine JL.val (v := z31.v) (QV.move rfl) rfl rfl rfl ?_
        obtain ⟨h32, hm⟩ := guard_inv hm
        refine JL.mv (d := some 33) (MV.append 6 rfl (Rdg.of 0 rfl) Try.underlying23 zi_5 rfl (by decide) rfl rfl h32) rfl rfl rfl ?_
        rintro _ _ ⟨z33, rfl, rfl⟩
        refine JL.val (v := z33.v) (QV.assign rfl) rfl rfl rfl ?_
        refine JL.nil ?_
        refine QJ.then_normal ?_
        refine JC.seq ?_
        refine JC.seq ?_
        refine JC.region ?_
        refine JL.val (v := .pointer (some ⟨b22, 0, none⟩)) (QV.fieldB fo_35_0 rfl rfl) rfl rfl rfl ?_
        refine JL.val (v := .int .u8 (gd x2 d12).1) (QV.load1 (ss := [Seg.c (.int .u8 (gd x2 d12).1), Seg.c (.int .i64 (gd x2 d12).2.1), Seg.c (.int .i64 (gd x2 d12).2.2.1), Seg.c ((gd z3 d12).2.2.2.v)]) 3 0 rfl tk_5 rfl rfl rfl) rfl rfl rfl ?_
        refine JL.val (v := .bool (decide ((1 : Int) < (gd x2 d12).1))) (QV.gtr rfl rfl) rfl rfl rfl ?_
        refine JL.nil ?_
        refine QJ.then_normal ?_
        refine JC.cutK (Y := (List Int) × SlV) (fun y => match y with | (d35, _) => F25.j2 x2 d12 (d35) = some s19) (fun y => match y with | (d35, z34) => [(0, s1.v), (4, z34.v), (6, .pointer (some ⟨b22, 0, none⟩)), (11, .int .i64 ((x2).length : Int)), (12, .int .i64 d12)]) (fun y => match y with | (d35, z34) => [Asr.vn (NE.pair (NE.flat (Enc.int .u8)) (NE.pair (NE.flat (Enc.int .i64)) (NE.pair (NE.flat (Enc.int .i64)) (NE.sl (Enc.int .u8))))) (s1.v) z3 x2, Asr.of 5 (Enc.int .u8) (z34.v) d35, Asr.vw (Enc.int .u8) ((gd z3 d12).2.2.2.v) (gd x2 d12).2.2.2, Asr.blk b22 35 [Seg.c (.int .u8 (gd x2 d12).1), Seg.c (.int .i64 (gd x2 d12).2.1), Seg.c (.int .i64 (gd x2 d12).2.2.1), Seg.c ((gd z3 d12).2.2.2.v)]]) ?_ ?_
        ·
          rintro ⟨d35, z34⟩ hm
          unfold F25.j2 at hm
          show QJ _ _ [(0, s1.v), (4, z34.v), (6, .pointer (some ⟨b22, 0, none⟩)), (11, .int .i64 ((x2).length : Int)), (12, .int .i64 d12)] [Asr.vn (NE.pair (NE.flat (Enc.int .u8)) (NE.pair (NE.flat (Enc.int .i64)) (NE.pair (NE.flat (Enc.int .i64)) (NE.sl (Enc.int .u8))))) (s1.v) z3 x2, Asr.of 5 (Enc.int .u8) (z34.v) d35, Asr.vw (Enc.int .u8) ((gd z3 d12).2.2.2.v) (gd x2 d12).2.2.2, Asr.blk b22 35 [Seg.c (.int .u8 (gd x2 d12).1), Seg.c (.int .i64 (gd x2 d12).2.1), Seg.c (.int .i64 (gd x2 d12).2.2.1), Seg.c ((gd z3 d12).2.2.2.v)]] _ _
          refine QJ.then_normal ?_
          refine JC.region ?_
          refine JL.val (v := z34.v) (QV.move rfl) rfl rfl rfl ?_
          refine JL.val (v := .pointer (some ⟨b22, 3, none⟩)) (QV.fieldB fo_35_3 rfl rfl) rfl rfl rfl ?_
          refine JL.val (v := (gd z3 d12).2.2.2.v) (QV.load1 (ss := [Seg.c (.int .u8 (gd x2 d12).1), Seg.c (.int .i64 (gd x2 d12).2.1), Seg.c (.int .i64 (gd x2 d12).2.2.1), Seg.c ((gd z3 d12).2.2.2.v)]) 3 3 rfl tk_23 rfl rfl rfl) rfl rfl rfl ?_
          obtain ⟨h36, hm⟩ := guard_inv hm
          refine JL.mv (d := some 46) (MV.append 1 rfl (Rdg.vw 2 rfl) Try.underlying23 zi_5 rfl (by decide) rfl rfl h36) rfl rfl rfl ?_
          rintro _ _ ⟨z37, rfl, rfl⟩
          refine JL.val (v := z37.v) (QV.assign rfl) rfl rfl rfl ?_
          refine JL.nil ?_
          refine QJ.block_normal ?_
          refine QJ.then_normal ?_
          refine JC.region ?_
          refine JL.val (v := .int .i64 (IntKind.wrap .i64 (d12 + (1 : Int)))) (QV.add rfl rfl) rfl rfl rfl ?_
          refine JL.val (v := .int .i64 (IntKind.wrap .i64 (d12 + (1 : Int)))) (QV.move rfl) rfl rfl rfl ?_
          refine JL.nil ?_
          obtain rfl := Option.some.inj hm
          exact QJ.round_on ((d35 ++ (gd x2 d12).2.2.2), (IntKind.wrap .i64 (d12 + (1 : Int)))) z37 [0, 1] (by exact ⟨rfl, rfl, rfl, rfl, trivial⟩) rfl rfl
        ·
          rcases ite_inv hm with ⟨h38, hm⟩ | ⟨h38, hm⟩
          ·
            refine JC.condT' rfl (decide_eq_true h38) ?_
            refine JC.seq ?_
            refine JC.region ?_
            refine JL.val (v := .pointer (some ⟨b22, 1, none⟩)) (QV.fieldB fo_35_1 rfl rfl) rfl rfl rfl ?_
            refine JL.val (v := .int .i64 (gd x2 d12).2.1) (QV.load1 (ss := [Seg.c (.int .u8 (gd x2 d12).1), Seg.c (.int .i64 (gd x2 d12).2.1), Seg.c (.int .i64 (gd x2 d12).2.2.1), Seg.c ((gd z3 d12).2.2.2.v)]) 3 1 rfl tk_3 rfl rfl rfl) rfl rfl rfl ?_
            obtain ⟨y39, hc40, hm⟩ := bind_inv hm
            refine JL.mv (d := some 39) (MV.call (Lo := []) (Lr := [Asr.of 5 (Enc.int .u8) (z31.v) y29, Asr.of 5 (Enc.int .u8) (z26.v) [(gd x2 d12).1], Asr.vw (Enc.int .u8) ((gd z3 d12).2.2.2.v) (gd x2 d12).2.2.2, Asr.blk b22 35 [Seg.c (.int .u8 (gd x2 d12).1), Seg.c (.int .i64 (gd x2 d12).2.1), Seg.c (.int .i64 (gd x2 d12).2.2.1), Seg.c ((gd z3 d12).2.2.2.v)], Asr.of 5 (Enc.int .u8) (SlV.nil.v) ([] : List Int), Asr.vn (NE.pair (NE.flat (Enc.int .u8)) (NE.pair (NE.flat (Enc.int .i64)) (NE.pair (NE.flat (Enc.int .i64)) (NE.sl (Enc.int .u8))))) (s1.v) z3 x2, Asr.of 5 (Enc.int .u8) (z33.v) ((d11 ++ [(gd x2 d12).1]) ++ y29)]) (F49.spec ((gd x2 d12).2.1) _ hc40) rfl Try.func49 rfl rfl rfl [] [0, 1, 2, 3, 4, 5, 6] rfl rfl rfl trivial) rfl rfl rfl ?_
            rintro _ _ ⟨_, ⟨z41, rfl, rfl⟩, rfl⟩
            refine JL.val (v := z41.v) (QV.assign rfl) rfl rfl rfl ?_
            refine JL.nil ?_
            refine QJ.then_normal ?_
            refine JC.region ?_
            refine JL.val (v := z33.v) (QV.move rfl) rfl rfl rfl ?_
            refine JL.val (v := z41.v) (QV.move rfl) rfl rfl rfl ?_
            obtain ⟨h42, hm⟩ := guard_inv hm
            refine JL.mv (d := some 42) (MV.append 7 rfl (Rdg.of 0 rfl) Try.underlying23 zi_5 rfl (by decide) rfl rfl h42) rfl rfl rfl ?_
            rintro _ _ ⟨z43, rfl, rfl⟩
            refine JL.val (v := z43.v) (QV.assign rfl) rfl rfl rfl ?_
            refine JL.nil ?_
            exact QJ.cut_normal ((((d11 ++ [(gd x2 d12).1]) ++ y29) ++ y39), z43) hm [6, 7, 3, 4] (by exact ⟨rfl, rfl, rfl, rfl, rfl, trivial⟩) rfl rfl
          ·
            refine JC.condF' rfl (decide_eq_false h38) ?_
            refine JC.skip ?_
            exact QJ.cut_normal (((d11 ++ [(gd x2 d12).1]) ++ y29), z33) hm [5, 6, 2, 3] (by exact ⟨rfl, rfl, rfl, rfl, rfl, trivial⟩) rfl rfl
      ·
        refine JC.condT' rfl (congrArg Bool.not (bfalse h25)) ?_
        refine JC.seq ?_
        refine JC.region ?_
        refine JL.mv (d := some 22) (MV.lit0 (Enc.int .u8) Try.underlying23 (by kernel_rfl)) rfl rfl rfl ?_
        rintro _ _ ⟨z44, rfl, rfl⟩
        refine JL.val (v := z44.v) (QV.assign rfl) rfl rfl rfl ?_
        refine JL.val (v := .int .i64 (3 : Int)) (QV.assign rfl) rfl rfl rfl ?_
        refine JL.nil ?_
        refine QJ.then_normal ?_
        refine JC.ret ?_
        refine QJ.then_ret ?_
        refine QJ.block_ret ?_
        refine QJ.then_ret ?_
        obtain rfl := Option.some.inj hm
        refine QJ.round_ret (fun hy => ?_)
        subst hy
        refine QJ.block_ret ?_
        refine QJ.cut_ret ?_
        refine QJ.then_ret ?_
        obtain rfl := Option.some.inj hmo18
        exact QJ.body (vs := [z44.v, .int .i64 (3 : Int)]) (.inl rfl) rfl (ResVs.cons (ResV.tmp rfl) (ResVs.cons (ResV.tmp rfl) ResVs.nil)) [0] rfl rfl (.inr ⟨own_of _ _ _ _, trivial⟩) ⟨z44, rfl, rfl⟩
    ·
      refine JC.condF' rfl (decide_eq_false h20) ?_
      refine JC.exit ?_
      refine QJ.then_exit ?_
      obtain rfl := Option.some.inj hm
      refine QJ.round_exit (fun hy => ?_)
      subst hy
      refine QJ.block_hit ?_
      exact QJ.cut_normal (d11, z10) hmo18 [1] (by exact ⟨rfl, trivial⟩) rfl rfl

/-! ### 26: drogher/plan.Size -/
noncomputable def F26.m (x2 : List (Int × Int × Int × (List Int))) : Option Int :=
  ((F22.m (x2)).bind fun y5 => (if y5.2 = (0 : Int) then some ((y5.1).length : Int) else some (0 : Int)))
set_option maxRecDepth 100000 in
set_option maxHeartbeats 4000000 in
theorem F26.spec (s1 : SlV) (z3 : List (Unit × Unit × Unit × SlV)) (x2 : List (Int × Int × Int × (List Int))) (r : Int) (hm : F26.m x2 = some r) :
    Ctr Try.prog false 26 [s1.v] [Asr.vn (NE.pair (NE.flat (Enc.int .u8)) (NE.pair (NE.flat (Enc.int .i64)) (NE.pair (NE.flat (Enc.int .i64)) (NE.sl (Enc.int .u8))))) (s1.v) z3 x2] (fun v L' => v = .int .i64 r ∧ L' = []) := by
  refine Ctr.intro (n := 14) (env := [(0, s1.v)]) Try.func26 rfl rfl rfl rfl (fun c => ?_)
  unfold F26.m at hm
  refine JC.seq ?_
  refine JC.region ?_
  refine JL.val (v := .int .i64 (0 : Int)) (QV.assign rfl) rfl rfl rfl ?_
  refine JL.nil ?_
  refine QJ.then_normal ?_
  refine JC.seq ?_
  refine JC.region ?_
  refine JL.val (v := s1.v) (QV.move rfl) rfl rfl rfl ?_
  obtain ⟨y5, hc6, hm⟩ := bind_inv hm
  refine JL.mv (d := some 7) (MV.call (Lo := []) (Lr := [Asr.vn (NE.pair (NE.flat (Enc.int .u8)) (NE.pair (NE.flat (Enc.int .i64)) (NE.pair (NE.flat (Enc.int .i64)) (NE.sl (Enc.int .u8))))) (s1.v) z3 x2]) (F22.spec (s1) (z3) (x2) _ hc6) rfl Try.func22 rfl rfl rfl [] [0] rfl rfl rfl ⟨(Drv.vn 0 rfl), trivial⟩) rfl rfl rfl ?_
  rintro _ _ ⟨_, ⟨z7, rfl, rfl⟩, rfl⟩
  refine JL.val (v := .tuple #[z7.v, .int .i64 y5.2]) (QV.move rfl) rfl rfl rfl ?_
  refine JL.val (v := z7.v) (QV.extract (vs := [z7.v, .int .i64 y5.2]) rfl rfl) rfl rfl rfl ?_
  refine JL.val (v := .int .i64 y5.2) (QV.extract (vs := [z7.v, .int .i64 y5.2]) rfl rfl) rfl rfl rfl ?_
  refine JL.val (v := z7.v) (QV.assign rfl) rfl rfl rfl ?_
  refine JL.val (v := .int .i64 y5.2) (QV.assign rfl) rfl rfl rfl ?_
  refine JL.nil ?_
  refine QJ.then_normal ?_
  refine JC.seq ?_
  refine JC.seq ?_
  refine JC.region ?_
  refine JL.val (v := .int .i64 y5.2) (QV.move rfl) rfl rfl rfl ?_
  refine JL.val (v := .bool (!(decide (y5.2 = (0 : Int))))) (QV.neq rfl rfl) rfl rfl rfl ?_
  refine JL.nil ?_
  refine QJ.then_normal ?_
  rcases ite_inv hm with ⟨h8, hm⟩ | ⟨h8, hm⟩
  ·
    refine JC.condF' rfl (congrArg Bool.not (decide_eq_true h8)) ?_
    refine JC.skip ?_
    refine QJ.then_normal ?_
    refine JC.seq ?_
    refine JC.region ?_
    refine JL.val (v := z7.v) (QV.move rfl) rfl rfl rfl ?_
    refine JL.val (v := .int .i64 ((y5.1).length : Int)) (QV.len (Rdg.of 0 rfl) Try.underlying23 rfl) rfl rfl rfl ?_
    refine JL.val (v := .int .i64 ((y5.1).length : Int)) (QV.assign rfl) rfl rfl rfl ?_
    refine JL.nil ?_
    refine QJ.then_normal ?_
    refine JC.ret ?_
    obtain rfl := Option.some.inj hm
    exact QJ.body (vs := [.int .i64 ((y5.1).length : Int)]) (.inl rfl) rfl (ResVs.cons (ResV.tmp rfl) ResVs.nil) [] rfl rfl (.inr trivial) ⟨rfl, rfl⟩
  ·
    refine JC.condT' rfl (congrArg Bool.not (decide_eq_false h8)) ?_
    refine JC.seq ?_
    refine JC.region ?_
    refine JL.val (v := .int .i64 (0 : Int)) (QV.assign rfl) rfl rfl rfl ?_
    refine JL.nil ?_
    refine QJ.then_normal ?_
    refine JC.ret ?_
    refine QJ.then_ret ?_
    obtain rfl := Option.some.inj hm
    exact QJ.body (vs := [.int .i64 (0 : Int)]) (.inl rfl) rfl (ResVs.cons (ResV.tmp rfl) ResVs.nil) [] rfl rfl (.inr trivial) ⟨rfl, rfl⟩

/-! ### 6: drogher/drogherlaw16.PlanWrites -/
noncomputable def F6.j1 (x2 : List (Int × Int × Int × (List Int)))  : Option Bool :=
  ((F22.m (x2)).bind fun y10 => ((F25.m (x2)).bind fun y13 => (if (strOfNums y10.1) = (strOfNums y13.1) then (if y10.2 = y13.2 then ((F26.m (x2)).bind fun y18 => (if y18 = ((y13.1).length : Int) then (if y10.2 = (0 : Int) then ((F19.m (y10.1) (((y10.1).length : Int))).bind fun y22 => ((F19.m (y10.1) ((IntKind.wrap .i64 (((y10.1).length : Int) - (1 : Int))))).bind fun y26 => (if y22.2 = (0 : Int) then ((F21.m (y22.1) (x2)).bind fun y31 => (if y31 = true then (if y26.2 = (12 : Int) then ((F15.m).bind fun y35 => some y35) else some false) else some false)) else some false))) else ((F15.m).bind fun y37 => some y37)) else some false)) else some false) else some false)))
noncomputable def F6.b1 (x2 : List (Int × Int × Int × (List Int))) : Int → Option (Int ⊕ ((Bool) ⊕ Unit))
  | d39 => (if d39 < ((x2).length : Int) then (if 0 ≤ d39 ∧ d39 < ((x2).length : Int) then ((F23.m ((gd x2 d39).1) ((gd x2 d39).2.1) ((gd x2 d39).2.2.1) ((gd x2 d39).2.2.2)).bind fun y47 => ((F24.m ((gd x2 d39).1) ((gd x2 d39).2.1) ((gd x2 d39).2.2.1) ((gd x2 d39).2.2.2)).bind fun y49 => (if (y47 == y49) = true then some (.inl (IntKind.wrap .i64 (d39 + (1 : Int)))) else some (.inr (.inl (false)))))) else none) else some (.inr (.inr (()))))
noncomputable def F6.m (x2 : List (Int × Int × Int × (List Int))) : Option Bool :=
  ((F14.m (x2)).bind fun y5 => (if y5 = true then ((F15.m).bind fun y8 => some y8) else ((loop (F6.b1 x2) (0 : Int)).bind fun y => match y with | .inl r => some r | .inr _ => F6.j1 x2)))
set_option maxRecDepth 100000 in
set_option maxHeartbeats 4000000 in
theorem F6.spec (s1 : SlV) (z3 : List (Unit × Unit × Unit × SlV)) (x2 : List (Int × Int × Int × (List Int))) (r : Bool) (hm : F6.m x2 = some r) :
    Ctr Try.prog false 6 [s1.v] [Asr.vn (NE.pair (NE.flat (Enc.int .u8)) (NE.pair (NE.flat (Enc.int .i64)) (NE.pair (NE.flat (Enc.int .i64)) (NE.sl (Enc.int .u8))))) (s1.v) z3 x2] (fun v L' => v = .bool r ∧ L' = []) := by
  refine Ctr.intro (n := 91) (env := [(0, s1.v)]) Try.func6 rfl rfl rfl rfl (fun c => ?_)
  unfold F6.m at hm
  refine JC.seq ?_
  refine JC.region ?_
  refine JL.val (v := .bool false) (QV.assign rfl) rfl rfl rfl ?_
  refine JL.nil ?_
  refine QJ.then_normal ?_
  refine JC.seq ?_
  refine JC.seq ?_
  refine JC.region ?_
  refine JL.val (v := s1.v) (QV.move rfl) rfl rfl rfl ?_
  obtain ⟨y5, hc6, hm⟩ := bind_inv hm
  refine JL.mv (d := some 13) (MV.call (Lo := []) (Lr := [Asr.vn (NE.pair (NE.flat (Enc.int .u8)) (NE.pair (NE.flat (Enc.int .i64)) (NE.pair (NE.flat (Enc.int .i64)) (NE.sl (Enc.int .u8))))) (s1.v) z3 x2]) (F14.spec (s1) (z3) (x2) _ hc6) rfl Try.func14 rfl rfl rfl [] [0] rfl rfl rfl ⟨(Drv.vn 0 rfl), trivial⟩) rfl rfl rfl ?_
  rintro _ _ ⟨_, ⟨rfl, rfl⟩, rfl⟩
  refine JL.nil ?_
  refine QJ.then_normal ?_
  rcases ite_inv hm with ⟨h7, hm⟩ | ⟨h7, hm⟩
  ·
    refine JC.condT' rfl h7 ?_
    refine JC.seq ?_
    refine JC.region ?_
    obtain ⟨y8, hc9, hm⟩ := bind_inv hm
    refine JL.mv (d := some 14) (MV.call (Lo := []) (Lr := [Asr.vn (NE.pair (NE.flat (Enc.int .u8)) (NE.pair (NE.flat (Enc.int .i64)) (NE.pair (NE.flat (Enc.int .i64)) (NE.sl (Enc.int .u8))))) (s1.v) z3 x2]) (F15.spec _ hc9) rfl Try.func15 rfl rfl rfl [] [0] rfl rfl rfl trivial) rfl rfl rfl ?_
    rintro _ _ ⟨_, ⟨rfl, rfl⟩, rfl⟩
    refine JL.val (v := .bool y8) (QV.assign rfl) rfl rfl rfl ?_
    refine JL.nil ?_
    refine QJ.then_normal ?_
    refine JC.ret ?_
    refine QJ.then_ret ?_
    obtain rfl := Option.some.inj hm
    exact QJ.body (vs := [.bool y8]) (.inl rfl) rfl (ResVs.cons (ResV.tmp rfl) ResVs.nil) [] rfl rfl (.inr trivial) ⟨rfl, rfl⟩
  ·
    refine JC.condF' rfl (bfalse h7) ?_
    refine JC.skip ?_
    refine QJ.then_normal ?_
    refine JC.seq ?_
    refine JC.seq ?_
    refine JC.region ?_
    refine JL.val (v := .int .i64 (0 : Int)) (QV.assign rfl) rfl rfl rfl ?_
    refine JL.nil ?_
    refine QJ.then_normal ?_
    refine JC.cutK (Y := Unit × Unit) (fun y => match y with | (_, _) => F6.j1 x2 = some r) (fun y => match y with | (_, _) => [(0, s1.v)]) (fun y => match y with | (_, _) => [Asr.vn (NE.pair (NE.flat (Enc.int .u8)) (NE.pair (NE.flat (Enc.int .i64)) (NE.pair (NE.flat (Enc.int .i64)) (NE.sl (Enc.int .u8))))) (s1.v) z3 x2]) ?_ ?_
    ·
      rintro ⟨⟨⟩, ⟨⟩⟩ hm
      unfold F6.j1 at hm
      show QJ _ _ [(0, s1.v)] [Asr.vn (NE.pair (NE.flat (Enc.int .u8)) (NE.pair (NE.flat (Enc.int .i64)) (NE.pair (NE.flat (Enc.int .i64)) (NE.sl (Enc.int .u8))))) (s1.v) z3 x2] _ _
      refine QJ.then_normal ?_
      refine JC.seq ?_
      refine JC.region ?_
      refine JL.val (v := s1.v) (QV.move rfl) rfl rfl rfl ?_
      obtain ⟨y10, hc11, hm⟩ := bind_inv hm
      refine JL.mv (d := some 34) (MV.call (Lo := []) (Lr := [Asr.vn (NE.pair (NE.flat (Enc.int .u8)) (NE.pair (NE.flat (Enc.int .i64)) (NE.pair (NE.flat (Enc.int .i64)) (NE.sl (Enc.int .u8))))) (s1.v) z3 x2]) (F22.spec (s1) (z3) (x2) _ hc11) rfl Try.func22 rfl rfl rfl [] [0] rfl rfl rfl ⟨(Drv.vn 0 rfl), trivial⟩) rfl rfl rfl ?_
      rintro _ _ ⟨_, ⟨z12, rfl, rfl⟩, rfl⟩
      refine JL.val (v := .tuple #[z12.v, .int .i64 y10.2]) (QV.move rfl) rfl rfl rfl ?_
      refine JL.val (v := z12.v) (QV.extract (vs := [z12.v, .int .i64 y10.2]) rfl rfl) rfl rfl rfl ?_
      refine JL.val (v := .int .i64 y10.2) (QV.extract (vs := [z12.v, .int .i64 y10.2]) rfl rfl) rfl rfl rfl ?_
      refine JL.val (v := z12.v) (QV.assign rfl) rfl rfl rfl ?_
      refine JL.val (v := .int .i64 y10.2) (QV.assign rfl) rfl rfl rfl ?_
      refine JL.nil ?_
      refine QJ.then_normal ?_
      refine JC.seq ?_
      refine JC.region ?_
      refine JL.val (v := s1.v) (QV.move rfl) rfl rfl rfl ?_
      obtain ⟨y13, hc14, hm⟩ := bind_inv hm
      refine JL.mv (d := some 39) (MV.call (Lo := []) (Lr := [Asr.of 5 (Enc.int .u8) (z12.v) y10.1, Asr.vn (NE.pair (NE.flat (Enc.int .u8)) (NE.pair (NE.flat (Enc.int .i64)) (NE.pair (NE.flat (Enc.int .i64)) (NE.sl (Enc.int .u8))))) (s1.v) z3 x2]) (F25.spec (s1) (z3) (x2) _ hc14) rfl Try.func25 rfl rfl rfl [] [0, 1] rfl rfl rfl ⟨(Drv.vn 1 rfl), trivial⟩) rfl rfl rfl ?_
      rintro _ _ ⟨_, ⟨z15, rfl, rfl⟩, rfl⟩
      refine JL.val (v := .tuple #[z15.v, .int .i64 y13.2]) (QV.move rfl) rfl rfl rfl ?_
      refine JL.val (v := z15.v) (QV.extract (vs := [z15.v, .int .i64 y13.2]) rfl rfl) rfl rfl rfl ?_
      refine JL.val (v := .int .i64 y13.2) (QV.extract (vs := [z15.v, .int .i64 y13.2]) rfl rfl) rfl rfl rfl ?_
      refine JL.val (v := z15.v) (QV.assign rfl) rfl rfl rfl ?_
      refine JL.val (v := .int .i64 y13.2) (QV.assign rfl) rfl rfl rfl ?_
      refine JL.nil ?_
      refine QJ.then_normal ?_
      refine JC.seq ?_
      refine JC.seq ?_
      refine JC.region ?_
      refine JL.val (v := z12.v) (QV.move rfl) rfl rfl rfl ?_
      refine JL.val (v := .string (strOfNums y10.1)) (QV.str (Rdg.of 1 rfl) Try.underlying23 Try.underlying5 Try.underlying9 rfl) rfl rfl rfl ?_
      refine JL.val (v := z15.v) (QV.move rfl) rfl rfl rfl ?_
      refine JL.val (v := .string (strOfNums y13.1)) (QV.str (Rdg.of 0 rfl) Try.underlying23 Try.underlying5 Try.underlying9 rfl) rfl rfl rfl ?_
      refine JL.val (v := .bool (!(decide ((strOfNums y10.1) = (strOfNums y13.1))))) (QV.neqS rfl rfl) rfl rfl rfl ?_
      rcases ite_inv hm with ⟨h16, hm⟩ | ⟨h16, hm⟩
      ·
        refine JL.val (v := .bool false) (QV.eq (QV.move rfl) (congrArg Value.bool (congrArg Bool.not (decide_eq_true h16)))) rfl rfl rfl ?_
        refine JL.val (v := .int .i64 y10.2) (QV.move rfl) rfl rfl rfl ?_
        refine JL.val (v := .int .i64 y13.2) (QV.move rfl) rfl rfl rfl ?_
        refine JL.val (v := .bool (!(decide (y10.2 = y13.2)))) (QV.neq rfl rfl) rfl rfl rfl ?_
        refine JL.val (v := .bool (!(decide (y10.2 = y13.2)))) (QV.pickF rfl rfl) rfl rfl rfl ?_
        rcases ite_inv hm with ⟨h17, hm⟩ | ⟨h17, hm⟩
        ·
          refine JL.val (v := .bool false) (QV.eq (QV.move rfl) (congrArg Value.bool (congrArg Bool.not (decide_eq_true h17)))) rfl rfl rfl ?_
          refine JL.val (v := s1.v) (QV.move rfl) rfl rfl rfl ?_
          obtain ⟨y18, hc19, hm⟩ := bind_inv hm
          refine JL.mv (d := some 54) (MV.call (Lo := []) (Lr := [Asr.of 5 (Enc.int .u8) (z15.v) y13.1, Asr.of 5 (Enc.int .u8) (z12.v) y10.1, Asr.vn (NE.pair (NE.flat (Enc.int .u8)) (NE.pair (NE.flat (Enc.int .i64)) (NE.pair (NE.flat (Enc.int .i64)) (NE.sl (Enc.int .u8))))) (s1.v) z3 x2]) (F26.spec (s1) (z3) (x2) _ hc19) rfl Try.func26 rfl rfl rfl [] [0, 1, 2] rfl rfl rfl ⟨(Drv.vn 2 rfl), trivial⟩) rfl rfl rfl ?_
          rintro _ _ ⟨_, ⟨rfl, rfl⟩, rfl⟩
          refine JL.val (v := z15.v) (QV.move rfl) rfl rfl rfl ?_
          refine JL.val (v := .int .i64 ((y13.1).length : Int)) (QV.len (Rdg.of 0 rfl) Try.underlying23 rfl) rfl rfl rfl ?_
          refine JL.val (v := .bool (!(decide (y18 = ((y13.1).length : Int))))) (QV.neq rfl rfl) rfl rfl rfl ?_
          refine JL.val (v := .bool (!(decide (y18 = ((y13.1).length : Int))))) (QV.pickF rfl rfl) rfl rfl rfl ?_
          refine JL.nil ?_
          refine QJ.then_normal ?_
          rcases ite_inv hm with ⟨h20, hm⟩ | ⟨h20, hm⟩
          ·
            refine JC.condF' rfl (congrArg Bool.not (decide_eq_true h20)) ?_
            refine JC.skip ?_
            refine QJ.then_normal ?_
            refine JC.seq ?_
            refine JC.seq ?_
            refine JC.region ?_
            refine JL.val (v := .int .i64 y10.2) (QV.move rfl) rfl rfl rfl ?_
            refine JL.val (v := .bool (!(decide (y10.2 = (0 : Int))))) (QV.neq rfl rfl) rfl rfl rfl ?_
            refine JL.nil ?_
            refine QJ.then_normal ?_
            rcases ite_inv hm with ⟨h21, hm⟩ | ⟨h21, hm⟩
            ·
              refine JC.condF' rfl (congrArg Bool.not (decide_eq_true h21)) ?_
              refine JC.skip ?_
              refine QJ.then_normal ?_
              refine JC.seq ?_
              refine JC.region ?_
              refine JL.val (v := z12.v) (QV.move rfl) rfl rfl rfl ?_
              refine JL.val (v := z12.v) (QV.move rfl) rfl rfl rfl ?_
              refine JL.val (v := .int .i64 ((y10.1).length : Int)) (QV.len (Rdg.of 1 rfl) Try.underlying23 rfl) rfl rfl rfl ?_
              refine JL.ent (fun _ hs => hs.share 1 rfl) ?_
              obtain ⟨y22, hc23, hm⟩ := bind_inv hm
              refine JL.mv (d := some 66) (MV.call (Lo := []) (Lr := [Asr.of 5 (Enc.int .u8) (z15.v) y13.1, Asr.vw (Enc.int .u8) (z12.v) y10.1, Asr.vn (NE.pair (NE.flat (Enc.int .u8)) (NE.pair (NE.flat (Enc.int .i64)) (NE.pair (NE.flat (Enc.int .i64)) (NE.sl (Enc.int .u8))))) (s1.v) z3 x2]) (F19.spec (z12) (y10.1) (((y10.1).length : Int)) _ hc23) rfl Try.func19 rfl rfl rfl [] [0, 1, 2] rfl rfl rfl ⟨(Drv.vw 1 rfl), trivial⟩) rfl rfl rfl ?_
              rintro _ _ ⟨_, ⟨z24, z25, rfl, rfl⟩, rfl⟩
              refine JL.val (v := .tuple #[z24.v, .int .i64 y22.2]) (QV.move rfl) rfl rfl rfl ?_
              refine JL.val (v := z24.v) (QV.extract (vs := [z24.v, .int .i64 y22.2]) rfl rfl) rfl rfl rfl ?_
              refine JL.val (v := .int .i64 y22.2) (QV.extract (vs := [z24.v, .int .i64 y22.2]) rfl rfl) rfl rfl rfl ?_
              refine JL.val (v := z24.v) (QV.assign rfl) rfl rfl rfl ?_
              refine JL.val (v := .int .i64 y22.2) (QV.assign rfl) rfl rfl rfl ?_
              refine JL.nil ?_
              refine QJ.then_normal ?_
              refine JC.seq ?_
              refine JC.region ?_
              refine JL.val (v := z12.v) (QV.move rfl) rfl rfl rfl ?_
              refine JL.val (v := z12.v) (QV.move rfl) rfl rfl rfl ?_
              refine JL.val (v := .int .i64 ((y10.1).length : Int)) (QV.len (Rdg.vw 2 rfl) Try.underlying23 rfl) rfl rfl rfl ?_
              refine JL.val (v := .int .i64 (IntKind.wrap .i64 (((y10.1).length : Int) - (1 : Int)))) (QV.sub rfl rfl) rfl rfl rfl ?_
              obtain ⟨y26, hc27, hm⟩ := bind_inv hm
              refine JL.mv (d := some 74) (MV.call (Lo := []) (Lr := [Asr.onv 35 (NE.pair (NE.flat (Enc.int .u8)) (NE.pair (NE.flat (Enc.int .i64)) (NE.pair (NE.flat (Enc.int .i64)) (NE.sl (Enc.int .u8))))) (z24.v) z25 y22.1, Asr.of 5 (Enc.int .u8) (z15.v) y13.1, Asr.vw (Enc.int .u8) (z12.v) y10.1, Asr.vn (NE.pair (NE.flat (Enc.int .u8)) (NE.pair (NE.flat (Enc.int .i64)) (NE.pair (NE.flat (Enc.int .i64)) (NE.sl (Enc.int .u8))))) (s1.v) z3 x2]) (F19.spec (z12) (y10.1) ((IntKind.wrap .i64 (((y10.1).length : Int) - (1 : Int)))) _ hc27) rfl Try.func19 rfl rfl rfl [] [0, 1, 2, 3] rfl rfl rfl ⟨(Drv.vw 2 rfl), trivial⟩) rfl rfl rfl ?_
              rintro _ _ ⟨_, ⟨z28, z29, rfl, rfl⟩, rfl⟩
              refine JL.val (v := .tuple #[z28.v, .int .i64 y26.2]) (QV.move rfl) rfl rfl rfl ?_
              refine JL.val (v := z28.v) (QV.extract (vs := [z28.v, .int .i64 y26.2]) rfl rfl) rfl rfl rfl ?_
              refine JL.val (v := .int .i64 y26.2) (QV.extract (vs := [z28.v, .int .i64 y26.2]) rfl rfl) rfl rfl rfl ?_
              refine JL.val (v := z28.v) (QV.assign rfl) rfl rfl rfl ?_
              refine JL.val (v := .int .i64 y26.2) (QV.assign rfl) rfl rfl rfl ?_
              refine JL.nil ?_
              refine QJ.then_normal ?_
              refine JC.seq ?_
              refine JC.region ?_
              refine JL.val (v := .int .i64 y22.2) (QV.move rfl) rfl rfl rfl ?_
              refine JL.val (v := .bool (decide (y22.2 = (0 : Int)))) (QV.eql rfl rfl) rfl rfl rfl ?_
              rcases ite_inv hm with ⟨h30, hm⟩ | ⟨h30, hm⟩
              ·
                refine JL.val (v := .bool true) (QV.eq (QV.move rfl) (congrArg Value.bool (decide_eq_true h30))) rfl rfl rfl ?_
                refine JL.val (v := z24.v) (QV.move rfl) rfl rfl rfl ?_
                refine JL.val (v := s1.v) (QV.move rfl) rfl rfl rfl ?_
                obtain ⟨y31, hc32, hm⟩ := bind_inv hm
                refine JL.mv (d := some 82) (MV.call (Lo := []) (Lr := [Asr.onv 35 (NE.pair (NE.flat (Enc.int .u8)) (NE.pair (NE.flat (Enc.int .i64)) (NE.pair (NE.flat (Enc.int .i64)) (NE.sl (Enc.int .u8))))) (z28.v) z29 y26.1, Asr.onv 35 (NE.pair (NE.flat (Enc.int .u8)) (NE.pair (NE.flat (Enc.int .i64)) (NE.pair (NE.flat (Enc.int .i64)) (NE.sl (Enc.int .u8))))) (z24.v) z25 y22.1, Asr.of 5 (Enc.int .u8) (z15.v) y13.1, Asr.vw (Enc.int .u8) (z12.v) y10.1, Asr.vn (NE.pair (NE.flat (Enc.int .u8)) (NE.pair (NE.flat (Enc.int .i64)) (NE.pair (NE.flat (Enc.int .i64)) (NE.sl (Enc.int .u8))))) (s1.v) z3 x2]) (F21.spec (z24) (z25) (s1) (z3) (y22.1) (x2) _ hc32) rfl Try.func21 rfl rfl rfl [] [0, 1, 2, 3, 4] rfl rfl rfl ⟨(Drv.onv 1 rfl), ⟨(Drv.vn 4 rfl), trivial⟩⟩) rfl rfl rfl ?_
                rintro _ _ ⟨_, ⟨rfl, rfl⟩, rfl⟩
                refine JL.val (v := .bool y31) (QV.pickT rfl rfl) rfl rfl rfl ?_
                rcases ite_inv hm with ⟨h33, hm⟩ | ⟨h33, hm⟩
                ·
                  refine JL.val (v := .bool true) (QV.eq (QV.move rfl) (congrArg Value.bool h33)) rfl rfl rfl ?_
                  refine JL.val (v := .int .i64 y26.2) (QV.move rfl) rfl rfl rfl ?_
                  refine JL.val (v := .bool (decide (y26.2 = (12 : Int)))) (QV.eql rfl rfl) rfl rfl rfl ?_
                  refine JL.val (v := .bool (decide (y26.2 = (12 : Int)))) (QV.pickT rfl rfl) rfl rfl rfl ?_
                  rcases ite_inv hm with ⟨h34, hm⟩ | ⟨h34, hm⟩
                  ·
                    refine JL.val (v := .bool true) (QV.eq (QV.move rfl) (congrArg Value.bool (decide_eq_true h34))) rfl rfl rfl ?_
                    obtain ⟨y35, hc36, hm⟩ := bind_inv hm
                    refine JL.mv (d := some 89) (MV.call (Lo := []) (Lr := [Asr.onv 35 (NE.pair (NE.flat (Enc.int .u8)) (NE.pair (NE.flat (Enc.int .i64)) (NE.pair (NE.flat (Enc.int .i64)) (NE.sl (Enc.int .u8))))) (z28.v) z29 y26.1, Asr.onv 35 (NE.pair (NE.flat (Enc.int .u8)) (NE.pair (NE.flat (Enc.int .i64)) (NE.pair (NE.flat (Enc.int .i64)) (NE.sl (Enc.int .u8))))) (z24.v) z25 y22.1, Asr.of 5 (Enc.int .u8) (z15.v) y13.1, Asr.vw (Enc.int .u8) (z12.v) y10.1, Asr.vn (NE.pair (NE.flat (Enc.int .u8)) (NE.pair (NE.flat (Enc.int .i64)) (NE.pair (NE.flat (Enc.int .i64)) (NE.sl (Enc.int .u8))))) (s1.v) z3 x2]) (F15.spec _ hc36) rfl Try.func15 rfl rfl rfl [] [0, 1, 2, 3, 4] rfl rfl rfl trivial) rfl rfl rfl ?_
                    rintro _ _ ⟨_, ⟨rfl, rfl⟩, rfl⟩
                    refine JL.val (v := .bool y35) (QV.pickT rfl rfl) rfl rfl rfl ?_
                    refine JL.val (v := .bool y35) (QV.assign rfl) rfl rfl rfl ?_
                    refine JL.nil ?_
                    refine QJ.then_normal ?_
                    refine JC.ret ?_
                    obtain rfl := Option.some.inj hm
                    exact QJ.body (vs := [.bool y35]) (.inl rfl) rfl (ResVs.cons (ResV.tmp rfl) ResVs.nil) [] rfl rfl (.inr trivial) ⟨rfl, rfl⟩
                  ·
                    refine JL.val (v := .bool false) (QV.eq (QV.move rfl) (congrArg Value.bool (decide_eq_false h34))) rfl rfl rfl ?_
                    refine JL.skip (d := some 89) rfl rfl rfl ?_
                    refine JL.val (v := .bool false) (QV.pickF rfl rfl) rfl rfl rfl ?_
                    refine JL.val (v := .bool false) (QV.assign rfl) rfl rfl rfl ?_
                    refine JL.nil ?_
                    refine QJ.then_normal ?_
                    refine JC.ret ?_
                    obtain rfl := Option.some.inj hm
                    exact QJ.body (vs := [.bool false]) (.inl rfl) rfl (ResVs.cons (ResV.tmp rfl) ResVs.nil) [] rfl rfl (.inr trivial) ⟨rfl, rfl⟩
                ·
                  refine JL.val (v := .bool false) (QV.eq (QV.move rfl) (congrArg Value.bool (bfalse h33))) rfl rfl rfl ?_
                  refine JL.skip (d := some 85) rfl rfl rfl ?_
                  refine JL.skip (d := some 86) rfl rfl rfl ?_
                  refine JL.val (v := .bool false) (QV.pickF rfl rfl) rfl rfl rfl ?_
                  refine JL.val (v := .bool false) (QV.move rfl) rfl rfl rfl ?_
                  refine JL.skip (d := some 89) rfl rfl rfl ?_
                  refine JL.val (v := .bool false) (QV.pickF rfl rfl) rfl rfl rfl ?_
                  refine JL.val (v := .bool false) (QV.assign rfl) rfl rfl rfl ?_
                  refine JL.nil ?_
                  refine QJ.then_normal ?_
                  refine JC.ret ?_
                  obtain rfl := Option.some.inj hm
                  exact QJ.body (vs := [.bool false]) (.inl rfl) rfl (ResVs.cons (ResV.tmp rfl) ResVs.nil) [] rfl rfl (.inr trivial) ⟨rfl, rfl⟩
              ·
                refine JL.val (v := .bool false) (QV.eq (QV.move rfl) (congrArg Value.bool (decide_eq_false h30))) rfl rfl rfl ?_
                refine JL.skip (d := some 80) rfl rfl rfl ?_
                refine JL.skip (d := some 81) rfl rfl rfl ?_
                refine JL.skip (d := some 82) rfl rfl rfl ?_
                refine JL.val (v := .bool false) (QV.pickF rfl rfl) rfl rfl rfl ?_
                refine JL.val (v := .bool false) (QV.move rfl) rfl rfl rfl ?_
                refine JL.skip (d := some 85) rfl rfl rfl ?_
                refine JL.skip (d := some 86) rfl rfl rfl ?_
                refine JL.val (v := .bool false) (QV.pickF rfl rfl) rfl rfl rfl ?_
                refine JL.val (v := .bool false) (QV.move rfl) rfl rfl rfl ?_
                refine JL.skip (d := some 89) rfl rfl rfl ?_
                refine JL.val (v := .bool false) (QV.pickF rfl rfl) rfl rfl rfl ?_
                refine JL.val (v := .bool false) (QV.assign rfl) rfl rfl rfl ?_
                refine JL.nil ?_
                refine QJ.then_normal ?_
                refine JC.ret ?_
                obtain rfl := Option.some.inj hm
                exact QJ.body (vs := [.bool false]) (.inl rfl) rfl (ResVs.cons (ResV.tmp rfl) ResVs.nil) [] rfl rfl (.inr trivial) ⟨rfl, rfl⟩
            ·
              refine JC.condT' rfl (congrArg Bool.not (decide_eq_false h21)) ?_
              refine JC.seq ?_
              refine JC.region ?_
              obtain ⟨y37, hc38, hm⟩ := bind_inv hm
              refine JL.mv (d := some 61) (MV.call (Lo := []) (Lr := [Asr.of 5 (Enc.int .u8) (z15.v) y13.1, Asr.of 5 (Enc.int .u8) (z12.v) y10.1, Asr.vn (NE.pair (NE.flat (Enc.int .u8)) (NE.pair (NE.flat (Enc.int .i64)) (NE.pair (NE.flat (Enc.int .i64)) (NE.sl (Enc.int .u8))))) (s1.v) z3 x2]) (F15.spec _ hc38) rfl Try.func15 rfl rfl rfl [] [0, 1, 2] rfl rfl rfl trivial) rfl rfl rfl ?_
              rintro _ _ ⟨_, ⟨rfl, rfl⟩, rfl⟩
              refine JL.val (v := .bool y37) (QV.assign rfl) rfl rfl rfl ?_
              refine JL.nil ?_
              refine QJ.then_normal ?_
              refine JC.ret ?_
              refine QJ.then_ret ?_
              obtain rfl := Option.some.inj hm
              exact QJ.body (vs := [.bool y37]) (.inl rfl) rfl (ResVs.cons (ResV.tmp rfl) ResVs.nil) [] rfl rfl (.inr trivial) ⟨rfl, rfl⟩
          ·
            refine JC.condT' rfl (congrArg Bool.not (decide_eq_false h20)) ?_
            refine JC.seq ?_
            refine JC.region ?_
            refine JL.val (v := .bool false) (QV.assign rfl) rfl rfl rfl ?_
            refine JL.nil ?_
            refine QJ.then_normal ?_
            refine JC.ret ?_
            refine QJ.then_ret ?_
            obtain rfl := Option.some.inj hm
            exact QJ.body (vs := [.bool false]) (.inl rfl) rfl (ResVs.cons (ResV.tmp rfl) ResVs.nil) [] rfl rfl (.inr trivial) ⟨rfl, rfl⟩
        ·
          refine JL.val (v := .bool true) (QV.eq (QV.move rfl) (congrArg Value.bool (congrArg Bool.not (decide_eq_false h17)))) rfl rfl rfl ?_
          refine JL.skip (d := some 53) rfl rfl rfl ?_
          refine JL.skip (d := some 54) rfl rfl rfl ?_
          refine JL.skip (d := some 55) rfl rfl rfl ?_
          refine JL.skip (d := some 56) rfl rfl rfl ?_
          refine JL.skip (d := some 57) rfl rfl rfl ?_
          refine JL.val (v := .bool true) (QV.pickT rfl rfl) rfl rfl rfl ?_
          refine JL.nil ?_
          refine QJ.then_normal ?_
          refine JC.condT rfl ?_
          refine JC.seq ?_
          refine JC.region ?_
          refine JL.val (v := .bool false) (QV.assign rfl) rfl rfl rfl ?_
          refine JL.nil ?_
          refine QJ.then_normal ?_
          refine JC.ret ?_
          refine QJ.then_ret ?_
          obtain rfl := Option.some.inj hm
          exact QJ.body (vs := [.bool false]) (.inl rfl) rfl (ResVs.cons (ResV.tmp rfl) ResVs.nil) [] rfl rfl (.inr trivial) ⟨rfl, rfl⟩
      ·
        refine JL.val (v := .bool true) (QV.eq (QV.move rfl) (congrArg Value.bool (congrArg Bool.not (decide_eq_false h16)))) rfl rfl rfl ?_
        refine JL.skip (d := some 48) rfl rfl rfl ?_
        refine JL.skip (d := some 49) rfl rfl rfl ?_
        refine JL.skip (d := some 50) rfl rfl rfl ?_
        refine JL.val (v := .bool true) (QV.pickT rfl rfl) rfl rfl rfl ?_
        refine JL.val (v := .bool true) (QV.move rfl) rfl rfl rfl ?_
        refine JL.skip (d := some 53) rfl rfl rfl ?_
        refine JL.skip (d := some 54) rfl rfl rfl ?_
        refine JL.skip (d := some 55) rfl rfl rfl ?_
        refine JL.skip (d := some 56) rfl rfl rfl ?_
        refine JL.skip (d := some 57) rfl rfl rfl ?_
        refine JL.val (v := .bool true) (QV.pickT rfl rfl) rfl rfl rfl ?_
        refine JL.nil ?_
        refine QJ.then_normal ?_
        refine JC.condT rfl ?_
        refine JC.seq ?_
        refine JC.region ?_
        refine JL.val (v := .bool false) (QV.assign rfl) rfl rfl rfl ?_
        refine JL.nil ?_
        refine QJ.then_normal ?_
        refine JC.ret ?_
        refine QJ.then_ret ?_
        obtain rfl := Option.some.inj hm
        exact QJ.body (vs := [.bool false]) (.inl rfl) rfl (ResVs.cons (ResV.tmp rfl) ResVs.nil) [] rfl rfl (.inr trivial) ⟨rfl, rfl⟩
    ·
      refine JC.block ?_
      obtain ⟨y41, hl42, hmo43⟩ := bind_inv hm
      refine JC.loop (F6.b1 x2) (fun x z => match x, z with | d39, _ => [(0, s1.v), (3, .int .i64 d39)]) (fun x z => match x, z with | d39, _ => [Asr.vn (NE.pair (NE.flat (Enc.int .u8)) (NE.pair (NE.flat (Enc.int .i64)) (NE.pair (NE.flat (Enc.int .i64)) (NE.sl (Enc.int .u8))))) (s1.v) z3 x2]) (0 : Int) () y41 hl42 [0] (by exact ⟨rfl, rfl, trivial⟩) rfl rfl ?_
      rintro d39 ⟨⟩ s44 hm
      unfold F6.b1 at hm
      dsimp only at hm
      show JC _ _ _ [(0, s1.v), (3, .int .i64 d39)] [Asr.vn (NE.pair (NE.flat (Enc.int .u8)) (NE.pair (NE.flat (Enc.int .i64)) (NE.pair (NE.flat (Enc.int .i64)) (NE.sl (Enc.int .u8))))) (s1.v) z3 x2] _ _
      refine JC.seq ?_
      refine JC.seq ?_
      refine JC.region ?_
      refine JL.val (v := .int .i64 d39) (QV.move rfl) rfl rfl rfl ?_
      refine JL.val (v := s1.v) (QV.move rfl) rfl rfl rfl ?_
      refine JL.val (v := .int .i64 ((x2).length : Int)) (QV.lenN (RdN.vn 0 rfl) Try.underlying22 rfl) rfl rfl rfl ?_
      refine JL.val (v := .bool (decide (d39 < ((x2).length : Int)))) (QV.lss rfl rfl) rfl rfl rfl ?_
      refine JL.nil ?_
      refine QJ.then_normal ?_
      rcases ite_inv hm with ⟨h45, hm⟩ | ⟨h45, hm⟩
      ·
        refine JC.condT' rfl (decide_eq_true h45) ?_
        refine JC.skip ?_
        refine QJ.then_normal ?_
        refine JC.seq ?_
        refine JC.block ?_
        refine JC.seq ?_
        refine JC.regionT [Asr.vn (NE.pair (NE.flat (Enc.int .u8)) (NE.pair (NE.flat (Enc.int .i64)) (NE.pair (NE.flat (Enc.int .i64)) (NE.sl (Enc.int .u8))))) (s1.v) z3 x2] (fun t => false) [(0, true), (1, true), (2, true), (3, true), (5, true), (6, true), (7, true), (8, true), (4, false), (9, false), (10, false)] (by kernel_rfl) (by kernel_rfl) (by kernel_rfl) rfl (fun hsel => ?_)
        refine JT.take (i := 0) (v := s1.v) hsel rfl (QV.move rfl) rfl rfl rfl rfl [0] rfl rfl ?_
        refine JT.take (i := 1) (v := .int .i64 d39) hsel rfl (QV.move rfl) rfl rfl rfl rfl [0] rfl rfl ?_
        obtain ⟨h46, hm⟩ := guard_inv hm
        refine JT.take (i := 2) (v := .pointer (some (elA (s1.v) (Int.toNat d39 * ((NE.pair (NE.flat (Enc.int .u8)) (NE.pair (NE.flat (Enc.int .i64)) (NE.pair (NE.flat (Enc.int .i64)) (NE.sl (Enc.int .u8))))).E).sz)))) hsel rfl (QV.indexN (RdN.vn 0 rfl) Try.underlying22 tk_35 rfl rfl h46) rfl rfl rfl rfl [0] rfl rfl ?_
        refine JT.take (i := 3) (v := .agg #[.int .u8 (gd x2 d39).1, .int .i64 (gd x2 d39).2.1, .int .i64 (gd x2 d39).2.2.1, (gd z3 d39).2.2.2.v]) hsel rfl (QV.eq (QV.elNN (RdN.vn 0 rfl) tk_35 rfl h46) rfl) rfl rfl rfl rfl [0] rfl rfl ?_
        refine JT.take (i := 5) (v := s1.v) hsel rfl (QV.move rfl) rfl rfl rfl rfl [0] rfl rfl ?_
        refine JT.take (i := 6) (v := .int .i64 d39) hsel rfl (QV.move rfl) rfl rfl rfl rfl [0] rfl rfl ?_
        refine JT.take (i := 7) (v := .pointer (some (elA (s1.v) (Int.toNat d39 * ((NE.pair (NE.flat (Enc.int .u8)) (NE.pair (NE.flat (Enc.int .i64)) (NE.pair (NE.flat (Enc.int .i64)) (NE.sl (Enc.int .u8))))).E).sz)))) hsel rfl (QV.indexN (RdN.vn 0 rfl) Try.underlying22 tk_35 rfl rfl h46) rfl rfl rfl rfl [0] rfl rfl ?_
        refine JT.take (i := 8) (v := .agg #[.int .u8 (gd x2 d39).1, .int .i64 (gd x2 d39).2.1, .int .i64 (gd x2 d39).2.2.1, (gd z3 d39).2.2.2.v]) hsel rfl (QV.eq (QV.elNN (RdN.vn 0 rfl) tk_35 rfl h46) rfl) rfl rfl rfl rfl [0] rfl rfl ?_
        obtain ⟨y47, hc48, hm⟩ := bind_inv hm
        refine JT.only (i := 4) (d := some 25) rfl (MV.call (Lo := []) (Lr := [Asr.vn (NE.pair (NE.flat (Enc.int .u8)) (NE.pair (NE.flat (Enc.int .i64)) (NE.pair (NE.flat (Enc.int .i64)) (NE.sl (Enc.int .u8))))) (s1.v) z3 x2]) (F23.spec ((gd z3 d39).2.2.2) ((gd x2 d39).1) ((gd x2 d39).2.1) ((gd x2 d39).2.2.1) ((gd x2 d39).2.2.2) _ hc48) rfl Try.func23 rfl rfl rfl [] [0] rfl rfl rfl ⟨(Drv.el (K := (NE.pair (NE.flat (Enc.int .u8)) (NE.pair (NE.flat (Enc.int .i64)) (NE.pair (NE.flat (Enc.int .i64)) (NE.sl (Enc.int .u8)))))) (A := Asr.vw (Enc.int .u8) ((gd z3 d39).2.2.2.v) (gd x2 d39).2.2.2) (Drv.vn 0 rfl) h46 (fun _ _ q => q.2.2.2)), trivial⟩) rfl rfl rfl ?_
        rintro _ _ ⟨_, ⟨rfl, rfl⟩, rfl⟩
        refine ⟨fun _ => ⟨[0], rfl, rfl⟩, ?_⟩
        obtain ⟨y49, hc50, hm⟩ := bind_inv hm
        refine JT.only (i := 9) (d := some 30) rfl (MV.call (Lo := []) (Lr := [Asr.vn (NE.pair (NE.flat (Enc.int .u8)) (NE.pair (NE.flat (Enc.int .i64)) (NE.pair (NE.flat (Enc.int .i64)) (NE.sl (Enc.int .u8))))) (s1.v) z3 x2]) (F24.spec ((gd z3 d39).2.2.2) ((gd x2 d39).1) ((gd x2 d39).2.1) ((gd x2 d39).2.2.1) ((gd x2 d39).2.2.2) _ hc50) rfl Try.func24 rfl rfl rfl [] [0] rfl rfl rfl ⟨(Drv.el (K := (NE.pair (NE.flat (Enc.int .u8)) (NE.pair (NE.flat (Enc.int .i64)) (NE.pair (NE.flat (Enc.int .i64)) (NE.sl (Enc.int .u8)))))) (A := Asr.vw (Enc.int .u8) ((gd z3 d39).2.2.2.v) (gd x2 d39).2.2.2) (Drv.vn 0 rfl) h46 (fun _ _ q => q.2.2.2)), trivial⟩) rfl rfl rfl ?_
        rintro _ _ ⟨_, ⟨rfl, rfl⟩, rfl⟩
        refine ⟨fun _ => ⟨[0], rfl, rfl⟩, ?_⟩
        refine JT.only (i := 10) (d := some 31) rfl (MV.ofQV (v := .bool (!(y47 == y49))) (QV.neqB Try.underlying4 rfl rfl)) rfl rfl rfl ?_
        rintro _ _ ⟨rfl, rfl⟩
        refine ⟨fun _ => ⟨[0], rfl, rfl⟩, ?_⟩
        refine JT.nil ?_
        refine QJ.then_normal ?_
        rcases ite_inv hm with ⟨h51, hm⟩ | ⟨h51, hm⟩
        ·
          refine JC.condF' rfl (congrArg Bool.not h51) ?_
          refine JC.skip ?_
          refine QJ.block_normal ?_
          refine QJ.then_normal ?_
          refine JC.region ?_
          refine JL.val (v := .int .i64 d39) (QV.move rfl) rfl rfl rfl ?_
          refine JL.val (v := .int .i64 (IntKind.wrap .i64 (d39 + (1 : Int)))) (QV.add rfl rfl) rfl rfl rfl ?_
          refine JL.val (v := .int .i64 (IntKind.wrap .i64 (d39 + (1 : Int)))) (QV.assign rfl) rfl rfl rfl ?_
          refine JL.nil ?_
          obtain rfl := Option.some.inj hm
          exact QJ.round_on (IntKind.wrap .i64 (d39 + (1 : Int))) () [0] (by exact ⟨rfl, rfl, trivial⟩) rfl rfl
        ·
          refine JC.condT' rfl (congrArg Bool.not (bfalse h51)) ?_
          refine JC.seq ?_
          refine JC.region ?_
          refine JL.val (v := .bool false) (QV.assign rfl) rfl rfl rfl ?_
          refine JL.nil ?_
          refine QJ.then_normal ?_
          refine JC.ret ?_
          refine QJ.block_ret ?_
          refine QJ.then_ret ?_
          obtain rfl := Option.some.inj hm
          refine QJ.round_ret (fun hy => ?_)
          subst hy
          refine QJ.block_ret ?_
          refine QJ.cut_ret ?_
          refine QJ.then_ret ?_
          obtain rfl := Option.some.inj hmo43
          exact QJ.body (vs := [.bool false]) (.inl rfl) rfl (ResVs.cons (ResV.tmp rfl) ResVs.nil) [] rfl rfl (.inr trivial) ⟨rfl, rfl⟩
      ·
        refine JC.condF' rfl (decide_eq_false h45) ?_
        refine JC.exit ?_
        refine QJ.then_exit ?_
        obtain rfl := Option.some.inj hm
        refine QJ.round_exit (fun hy => ?_)
        subst hy
        refine QJ.block_hit ?_
        exact QJ.cut_normal ((), ()) hmo43 [0] (by exact ⟨rfl, trivial⟩) rfl rfl

end Go.Proofs.Ytedokgdilpfomaa
