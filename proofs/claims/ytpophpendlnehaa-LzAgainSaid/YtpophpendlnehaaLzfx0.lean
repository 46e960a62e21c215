/- Written by gen.py: functions and their contracts. -/
import Derived.Test.YtpophpendlnehaaBitFacts
namespace Go.Proofs.Ytpophpendlnehaa
open Go Go.Eng Go.Proofs
set_option linter.unusedVariables false
set_option linter.unusedSimpArgs false
/-! ### 15: drogher/lz.May -/
noncomputable def F15.m (x1 : Int) (x2 : Int) (x3 : Int) : Option Bool :=
  (if x2 = (0 : Int) then some (decide (x3 = (0 : Int))) else (if x1 = (0 : Int) then (if (3 : Int) ≤ x2 then (if x2 ≤ (258 : Int) then (if (1 : Int) ≤ x3 then some (decide (x3 ≤ (32768 : Int))) else some false) else some false) else some false) else some false))
set_option maxRecDepth 100000 in
set_option maxHeartbeats 4000000 in
theorem F15.spec (x1 : Int) (x2 : Int) (x3 : Int) (r : Bool) (hm : F15.m x1 x2 x3 = some r) :
    Ctr Try.prog false 15 [.agg #[.int .u8 x1, .int .i64 x2, .int .i64 x3]] [] (fun v L' => v = .bool r ∧ L' = []) := by
  refine Ctr.intro (n := 32) (env := [(0, .agg #[.int .u8 x1, .int .i64 x2, .int .i64 x3])]) Try.func15 rfl rfl rfl rfl (fun c => ?_)
  unfold F15.m at hm
  refine JC.seq ?_
  refine JC.region ?_
  refine JL.mv (d := some 1) (MV.box [Seg.c (.int .u8 x1), Seg.c (.int .i64 x2), Seg.c (.int .i64 x3)] rfl (fun w hs => rfl)) rfl rfl rfl ?_
  rintro _ _ ⟨b5, rfl, rfl⟩
  refine JL.val (v := .bool false) (QV.assign rfl) rfl rfl rfl ?_
  refine JL.nil ?_
  refine QJ.then_normal ?_
  refine JC.seq ?_
  refine JC.seq ?_
  refine JC.region ?_
  refine JL.val (v := .pointer (some ⟨b5, 1, none⟩)) (QV.fieldB fo_23_1 rfl rfl) rfl rfl rfl ?_
  refine JL.val (v := .int .i64 x2) (QV.load1 (ss := [Seg.c (.int .u8 x1), Seg.c (.int .i64 x2), Seg.c (.int .i64 x3)]) 0 1 rfl tk_3 rfl rfl rfl) rfl rfl rfl ?_
  refine JL.val (v := .bool (decide (x2 = (0 : Int)))) (QV.eql rfl rfl) rfl rfl rfl ?_
  refine JL.nil ?_
  refine QJ.then_normal ?_
  rcases ite_inv hm with ⟨h6, hm⟩ | ⟨h6, hm⟩
  ·
    refine JC.condT' rfl (decide_eq_true h6) ?_
    refine JC.seq ?_
    refine JC.region ?_
    refine JL.val (v := .pointer (some ⟨b5, 2, none⟩)) (QV.fieldB fo_23_2 rfl rfl) rfl rfl rfl ?_
    refine JL.val (v := .int .i64 x3) (QV.load1 (ss := [Seg.c (.int .u8 x1), Seg.c (.int .i64 x2), Seg.c (.int .i64 x3)]) 0 2 rfl tk_3 rfl rfl rfl) rfl rfl rfl ?_
    refine JL.val (v := .bool (decide (x3 = (0 : Int)))) (QV.eql rfl rfl) rfl rfl rfl ?_
    refine JL.val (v := .bool (decide (x3 = (0 : Int)))) (QV.assign rfl) rfl rfl rfl ?_
    refine JL.nil ?_
    refine QJ.then_normal ?_
    refine JC.ret ?_
    refine QJ.then_ret ?_
    obtain rfl := Option.some.inj hm
    exact QJ.body (vs := [.bool (decide (x3 = (0 : Int)))]) (.inl rfl) rfl (ResVs.cons (ResV.tmp rfl) ResVs.nil) [] rfl rfl (.inr trivial) ⟨rfl, rfl⟩
  ·
    refine JC.condF' rfl (decide_eq_false h6) ?_
    refine JC.skip ?_
    refine QJ.then_normal ?_
    refine JC.seq ?_
    refine JC.region ?_
    refine JL.val (v := .pointer (some ⟨b5, 0, none⟩)) (QV.fieldB fo_23_0 rfl rfl) rfl rfl rfl ?_
    refine JL.val (v := .int .u8 x1) (QV.load1 (ss := [Seg.c (.int .u8 x1), Seg.c (.int .i64 x2), Seg.c (.int .i64 x3)]) 0 0 rfl tk_5 rfl rfl rfl) rfl rfl rfl ?_
    refine JL.val (v := .bool (decide (x1 = (0 : Int)))) (QV.eql rfl rfl) rfl rfl rfl ?_
    rcases ite_inv hm with ⟨h7, hm⟩ | ⟨h7, hm⟩
    ·
      refine JL.val (v := .bool true) (QV.eq (QV.move rfl) (congrArg Value.bool (decide_eq_true h7))) rfl rfl rfl ?_
      refine JL.val (v := .pointer (some ⟨b5, 1, none⟩)) (QV.fieldB fo_23_1 rfl rfl) rfl rfl rfl ?_
      refine JL.val (v := .int .i64 x2) (QV.load1 (ss := [Seg.c (.int .u8 x1), Seg.c (.int .i64 x2), Seg.c (.int .i64 x3)]) 0 1 rfl tk_3 rfl rfl rfl) rfl rfl rfl ?_
      refine JL.val (v := .bool (decide ((3 : Int) ≤ x2))) (QV.geq rfl rfl) rfl rfl rfl ?_
      refine JL.val (v := .bool (decide ((3 : Int) ≤ x2))) (QV.pickT rfl rfl) rfl rfl rfl ?_
      rcases ite_inv hm with ⟨h8, hm⟩ | ⟨h8, hm⟩
      ·
        refine JL.val (v := .bool true) (QV.eq (QV.move rfl) (congrArg Value.bool (decide_eq_true h8))) rfl rfl rfl ?_
        refine JL.val (v := .pointer (some ⟨b5, 1, none⟩)) (QV.fieldB fo_23_1 rfl rfl) rfl rfl rfl ?_
        refine JL.val (v := .int .i64 x2) (QV.load1 (ss := [Seg.c (.int .u8 x1), Seg.c (.int .i64 x2), Seg.c (.int .i64 x3)]) 0 1 rfl tk_3 rfl rfl rfl) rfl rfl rfl ?_
        refine JL.val (v := .bool (decide (x2 ≤ (258 : Int)))) (QV.leq rfl rfl) rfl rfl rfl ?_
        refine JL.val (v := .bool (decide (x2 ≤ (258 : Int)))) (QV.pickT rfl rfl) rfl rfl rfl ?_
        rcases ite_inv hm with ⟨h9, hm⟩ | ⟨h9, hm⟩
        ·
          refine JL.val (v := .bool true) (QV.eq (QV.move rfl) (congrArg Value.bool (decide_eq_true h9))) rfl rfl rfl ?_
          refine JL.val (v := .pointer (some ⟨b5, 2, none⟩)) (QV.fieldB fo_23_2 rfl rfl) rfl rfl rfl ?_
          refine JL.val (v := .int .i64 x3) (QV.load1 (ss := [Seg.c (.int .u8 x1), Seg.c (.int .i64 x2), Seg.c (.int .i64 x3)]) 0 2 rfl tk_3 rfl rfl rfl) rfl rfl rfl ?_
          refine JL.val (v := .bool (decide ((1 : Int) ≤ x3))) (QV.geq rfl rfl) rfl rfl rfl ?_
          refine JL.val (v := .bool (decide ((1 : Int) ≤ x3))) (QV.pickT rfl rfl) rfl rfl rfl ?_
          rcases ite_inv hm with ⟨h10, hm⟩ | ⟨h10, hm⟩
          ·
            refine JL.val (v := .bool true) (QV.eq (QV.move rfl) (congrArg Value.bool (decide_eq_true h10))) rfl rfl rfl ?_
            refine JL.val (v := .pointer (some ⟨b5, 2, none⟩)) (QV.fieldB fo_23_2 rfl rfl) rfl rfl rfl ?_
            refine JL.val (v := .int .i64 x3) (QV.load1 (ss := [Seg.c (.int .u8 x1), Seg.c (.int .i64 x2), Seg.c (.int .i64 x3)]) 0 2 rfl tk_3 rfl rfl rfl) rfl rfl rfl ?_
            refine JL.val (v := .bool (decide (x3 ≤ (32768 : Int)))) (QV.leq rfl rfl) rfl rfl rfl ?_
            refine JL.val (v := .bool (decide (x3 ≤ (32768 : Int)))) (QV.pickT rfl rfl) rfl rfl rfl ?_
            refine JL.val (v := .bool (decide (x3 ≤ (32768 : Int)))) (QV.assign rfl) rfl rfl rfl ?_
            refine JL.nil ?_
            refine QJ.then_normal ?_
            refine JC.ret ?_
            obtain rfl := Option.some.inj hm
            exact QJ.body (vs := [.bool (decide (x3 ≤ (32768 : Int)))]) (.inl rfl) rfl (ResVs.cons (ResV.tmp rfl) ResVs.nil) [] rfl rfl (.inr trivial) ⟨rfl, rfl⟩
          ·
            refine JL.val (v := .bool false) (QV.eq (QV.move rfl) (congrArg Value.bool (decide_eq_false h10))) rfl rfl rfl ?_
            refine JL.skip (d := some 28) rfl rfl rfl ?_
            refine JL.skip (d := some 29) rfl rfl rfl ?_
            refine JL.skip (d := some 30) rfl rfl rfl ?_
            refine JL.val (v := .bool false) (QV.pickF rfl rfl) rfl rfl rfl ?_
            refine JL.val (v := .bool false) (QV.assign rfl) rfl rfl rfl ?_
            refine JL.nil ?_
            refine QJ.then_normal ?_
            refine JC.ret ?_
            obtain rfl := Option.some.inj hm
            exact QJ.body (vs := [.bool false]) (.inl rfl) rfl (ResVs.cons (ResV.tmp rfl) ResVs.nil) [] rfl rfl (.inr trivial) ⟨rfl, rfl⟩
        ·
          refine JL.val (v := .bool false) (QV.eq (QV.move rfl) (congrArg Value.bool (decide_eq_false h9))) rfl rfl rfl ?_
          refine JL.skip (d := some 23) rfl rfl rfl ?_
          refine JL.skip (d := some 24) rfl rfl rfl ?_
          refine JL.skip (d := some 25) rfl rfl rfl ?_
          refine JL.val (v := .bool false) (QV.pickF rfl rfl) rfl rfl rfl ?_
          refine JL.val (v := .bool false) (QV.move rfl) rfl rfl rfl ?_
          refine JL.skip (d := some 28) rfl rfl rfl ?_
          refine JL.skip (d := some 29) rfl rfl rfl ?_
          refine JL.skip (d := some 30) rfl rfl rfl ?_
          refine JL.val (v := .bool false) (QV.pickF rfl rfl) rfl rfl rfl ?_
          refine JL.val (v := .bool false) (QV.assign rfl) rfl rfl rfl ?_
          refine JL.nil ?_
          refine QJ.then_normal ?_
          refine JC.ret ?_
          obtain rfl := Option.some.inj hm
          exact QJ.body (vs := [.bool false]) (.inl rfl) rfl (ResVs.cons (ResV.tmp rfl) ResVs.nil) [] rfl rfl (.inr trivial) ⟨rfl, rfl⟩
      ·
        refine JL.val (v := .bool false) (QV.eq (QV.move rfl) (congrArg Value.bool (decide_eq_false h8))) rfl rfl rfl ?_
        refine JL.skip (d := some 18) rfl rfl rfl ?_
        refine JL.skip (d := some 19) rfl rfl rfl ?_
        refine JL.skip (d := some 20) rfl rfl rfl ?_
        refine JL.val (v := .bool false) (QV.pickF rfl rfl) rfl rfl rfl ?_
        refine JL.val (v := .bool false) (QV.move rfl) rfl rfl rfl ?_
        refine JL.skip (d := some 23) rfl rfl rfl ?_
        refine JL.skip (d := some 24) rfl rfl rfl ?_
        refine JL.skip (d := some 25) rfl rfl rfl ?_
        refine JL.val (v := .bool false) (QV.pickF rfl rfl) rfl rfl rfl ?_
        refine JL.val (v := .bool false) (QV.move rfl) rfl rfl rfl ?_
        refine JL.skip (d := some 28) rfl rfl rfl ?_
        refine JL.skip (d := some 29) rfl rfl rfl ?_
        refine JL.skip (d := some 30) rfl rfl rfl ?_
        refine JL.val (v := .bool false) (QV.pickF rfl rfl) rfl rfl rfl ?_
        refine JL.val (v := .bool false) (QV.assign rfl) rfl rfl rfl ?_
        refine JL.nil ?_
        refine QJ.then_normal ?_
        refine JC.ret ?_
        obtain rfl := Option.some.inj hm
        exact QJ.body (vs := [.bool false]) (.inl rfl) rfl (ResVs.cons (ResV.tmp rfl) ResVs.nil) [] rfl rfl (.inr trivial) ⟨rfl, rfl⟩
    ·
      refine JL.val (v := .bool false) (QV.eq (QV.move rfl) (congrArg Value.bool (decide_eq_false h7))) rfl rfl rfl ?_
      refine JL.skip (d := some 13) rfl rfl rfl ?_
      refine JL.skip (d := some 14) rfl rfl rfl ?_
      refine JL.skip (d := some 15) rfl rfl rfl ?_
      refine JL.val (v := .bool false) (QV.pickF rfl rfl) rfl rfl rfl ?_
      refine JL.val (v := .bool false) (QV.move rfl) rfl rfl rfl ?_
      refine JL.skip (d := some 18) rfl rfl rfl ?_
      refine JL.skip (d := some 19) rfl rfl rfl ?_
      refine JL.skip (d := some 20) rfl rfl rfl ?_
      refine JL.val (v := .bool false) (QV.pickF rfl rfl) rfl rfl rfl ?_
      refine JL.val (v := .bool false) (QV.move rfl) rfl rfl rfl ?_
      refine JL.skip (d := some 23) rfl rfl rfl ?_
      refine JL.skip (d := some 24) rfl rfl rfl ?_
      refine JL.skip (d := some 25) rfl rfl rfl ?_
      refine JL.val (v := .bool false) (QV.pickF rfl rfl) rfl rfl rfl ?_
      refine JL.val (v := .bool false) (QV.move rfl) rfl rfl rfl ?_
      refine JL.skip (d := some 28) rfl rfl rfl ?_
      refine JL.skip (d := some 29) rfl rfl rfl ?_
      refine JL.skip (d := some 30) rfl rfl rfl ?_
      refine JL.val (v := .bool false) (QV.pickF rfl rfl) rfl rfl rfl ?_
      refine JL.val (v := .bool false) (QV.assign rfl) rfl rfl rfl ?_
      refine JL.nil ?_
      refine QJ.then_normal ?_
      refine JC.ret ?_
      obtain rfl := Option.some.inj hm
      exact QJ.body (vs := [.bool false]) (.inl rfl) rfl (ResVs.cons (ResV.tmp rfl) ResVs.nil) [] rfl rfl (.inr trivial) ⟨rfl, rfl⟩

/-! ### 55: drogher/lz.Expand -/
noncomputable def F55.j1  (d8 : List Int) : Option (List Int × Int) :=
  some (d8, (0 : Int))
noncomputable def F55.j2 (d11 : Int) (d21 : List Int) : Option ((List Int × Int) ⊕ (((List Int × Int)) ⊕ (List Int))) :=
  some (.inl (d21, (IntKind.wrap .i64 (d11 + (1 : Int)))))
noncomputable def F55.j3 (d11 : Int) (d35 : List Int) : Option ((List Int × Int) ⊕ (((List Int × Int)) ⊕ (List Int))) :=
  F55.j2 d11 (d35)
noncomputable def F55.b2 (x2 : List (Int × Int × Int)) (d11 : Int) : (List Int × Int) → Option ((List Int × Int) ⊕ (List Int))
  | (d37, d38) => (if d38 < (maxI (gd x2 d11).2.1 (1 : Int)) then (if 0 ≤ (IntKind.wrap .i64 (((d37).length : Int) - (gd x2 d11).2.2)) ∧ (IntKind.wrap .i64 (((d37).length : Int) - (gd x2 d11).2.2)) < ((d37).length : Int) then (if ((d37).length + ([(gd d37 (IntKind.wrap .i64 (((d37).length : Int) - (gd x2 d11).2.2)))]).length) * 1 ≤ 140737488355328 ∧ (d37).length + ([(gd d37 (IntKind.wrap .i64 (((d37).length : Int) - (gd x2 d11).2.2)))]).length ≤ 9223372036854775807 then some (.inl ((d37 ++ [(gd d37 (IntKind.wrap .i64 (((d37).length : Int) - (gd x2 d11).2.2)))]), (IntKind.wrap .i64 (d38 + (1 : Int))))) else none) else none) else some (.inr d37))
noncomputable def F55.b1 (x2 : List (Int × Int × Int)) (x3 : Int) : (List Int × Int) → Option ((List Int × Int) ⊕ (((List Int × Int)) ⊕ (List Int)))
  | (d10, d11) => (if d11 < ((x2).length : Int) then (if 0 ≤ d11 ∧ d11 < ((x2).length : Int) then ((F15.m ((gd x2 d11).1) ((gd x2 d11).2.1) ((gd x2 d11).2.2)).bind fun y24 => (if y24 = true then (if ((d10).length : Int) < (gd x2 d11).2.2 then some (.inr (.inl ((([] : List Int), (5 : Int))))) else (if x3 < (maxI (gd x2 d11).2.1 (1 : Int)) then some (.inr (.inl ((([] : List Int), (12 : Int))))) else (if (IntKind.wrap .i64 (x3 - (maxI (gd x2 d11).2.1 (1 : Int)))) < ((d10).length : Int) then some (.inr (.inl ((([] : List Int), (12 : Int))))) else (if (gd x2 d11).2.1 = (0 : Int) then (if ((d10).length + ([(gd x2 d11).1]).length) * 1 ≤ 140737488355328 ∧ (d10).length + ([(gd x2 d11).1]).length ≤ 9223372036854775807 then F55.j2 d11 ((d10 ++ [(gd x2 d11).1])) else none) else ((loop (F55.b2 x2 d11) (d10, (0 : Int))).bind fun y => match y with | d35 => F55.j3 d11 (d35)))))) else some (.inr (.inl ((([] : List Int), (3 : Int))))))) else none) else some (.inr (.inr (d10))))
noncomputable def F55.m (x2 : List (Int × Int × Int)) (x3 : Int) : Option (List Int × Int) :=
  ((loop (F55.b1 x2 x3) (([] : List Int), (0 : Int))).bind fun y => match y with | .inl r => some r | .inr d8 => F55.j1 (d8))
set_option maxRecDepth 100000 in
set_option maxHeartbeats 4000000 in
theorem F55.spec (s1 : SlV) (x2 : List (Int × Int × Int)) (x3 : Int) (r : (List Int × Int)) (hm : F55.m x2 x3 = some r) :
    Ctr Try.prog false 55 [s1.v, .int .i64 x3] [Asr.vw (Enc.pair (Enc.int .u8) (Enc.pair (Enc.int .i64) (Enc.int .i64))) (s1.v) x2] (fun v L' => ∃ (g4 : SlV), v = .tuple #[g4.v, .int .i64 r.2] ∧ L' = [Asr.of 5 (Enc.int .u8) (g4.v) r.1]) := by
  refine Ctr.intro (n := 67) (env := [(0, s1.v), (1, .int .i64 x3)]) Try.func55 rfl rfl rfl rfl (fun c => ?_)
  unfold F55.m at hm
  refine JC.seq ?_
  refine JC.region ?_
  refine JL.ent (fun _ hs => hs.nil 5 (Enc.int .u8)) ?_
  refine JL.val (v := SlV.nil.v) (QV.assign rfl) rfl rfl rfl ?_
  refine JL.val (v := .int .i64 (0 : Int)) (QV.assign rfl) rfl rfl rfl ?_
  refine JL.nil ?_
  refine QJ.then_normal ?_
  refine JC.seq ?_
  refine JC.region ?_
  refine JL.ent (fun _ hs => hs.nil 5 (Enc.int .u8)) ?_
  refine JL.val (v := SlV.nil.v) (QV.assign rfl) rfl rfl rfl ?_
  refine JL.nil ?_
  refine QJ.then_normal ?_
  refine JC.seq ?_
  refine JC.seq ?_
  refine JC.region ?_
  refine JL.val (v := s1.v) (QV.move rfl) rfl rfl rfl ?_
  refine JL.val (v := .int .i64 ((x2).length : Int)) (QV.len (Rdg.vw 2 rfl) Try.underlying27 rfl) rfl rfl rfl ?_
  refine JL.val (v := .int .i64 (0 : Int)) (QV.move rfl) rfl rfl rfl ?_
  refine JL.nil ?_
  refine QJ.then_normal ?_
  refine JC.cutK (Y := (List Int) × SlV) (fun y => match y with | (d8, _) => F55.j1 (d8) = some r) (fun y => match y with | (d8, z7) => [(6, z7.v)]) (fun y => match y with | (d8, z7) => [Asr.of 5 (Enc.int .u8) (z7.v) d8]) ?_ ?_
  ·
    rintro ⟨d8, z7⟩ hm
    unfold F55.j1 at hm
    show QJ _ _ [(6, z7.v)] [Asr.of 5 (Enc.int .u8) (z7.v) d8] _ _
    refine QJ.then_normal ?_
    refine JC.seq ?_
    refine JC.region ?_
    refine JL.val (v := z7.v) (QV.move rfl) rfl rfl rfl ?_
    refine JL.val (v := z7.v) (QV.assign rfl) rfl rfl rfl ?_
    refine JL.val (v := .int .i64 (0 : Int)) (QV.assign rfl) rfl rfl rfl ?_
    refine JL.nil ?_
    refine QJ.then_normal ?_
    refine JC.ret ?_
    obtain rfl := Option.some.inj hm
    exact QJ.body (vs := [z7.v, .int .i64 (0 : Int)]) (.inl rfl) rfl (ResVs.cons (ResV.tmp rfl) (ResVs.cons (ResV.tmp rfl) ResVs.nil)) [0] rfl rfl (.inr ⟨own_of _ _ _ _, trivial⟩) ⟨z7, rfl, rfl⟩
  ·
    refine JC.block ?_
    obtain ⟨y15, hl16, hmo17⟩ := bind_inv hm
    refine JC.loop (F55.b1 x2 x3) (fun x z => match x, z with | (d10, d11), z9 => [(1, .int .i64 x3), (6, z9.v), (10, s1.v), (11, .int .i64 ((x2).length : Int)), (12, .int .i64 d11)]) (fun x z => match x, z with | (d10, d11), z9 => [Asr.of 5 (Enc.int .u8) (z9.v) d10, Asr.vw (Enc.pair (Enc.int .u8) (Enc.pair (Enc.int .i64) (Enc.int .i64))) (s1.v) x2]) (([] : List Int), (0 : Int)) SlV.nil y15 hl16 [0, 2] (by exact ⟨rfl, rfl, rfl, rfl, rfl, trivial⟩) rfl rfl ?_
    rintro ⟨d10, d11⟩ z9 s18 hm
    unfold F55.b1 at hm
    dsimp only at hm
    show JC _ _ _ [(1, .int .i64 x3), (6, z9.v), (10, s1.v), (11, .int .i64 ((x2).length : Int)), (12, .int .i64 d11)] [Asr.of 5 (Enc.int .u8) (z9.v) d10, Asr.vw (Enc.pair (Enc.int .u8) (Enc.pair (Enc.int .i64) (Enc.int .i64))) (s1.v) x2] _ _
    refine JC.seq ?_
    refine JC.region ?_
    refine JL.val (v := .bool (decide (d11 < ((x2).length : Int)))) (QV.lss rfl rfl) rfl rfl rfl ?_
    refine JL.nil ?_
    refine QJ.then_normal ?_
    refine JC.seq ?_
    rcases ite_inv hm with ⟨h19, hm⟩ | ⟨h19, hm⟩
    ·
      refine JC.condT' rfl (decide_eq_true h19) ?_
      refine JC.skip ?_
      refine QJ.then_normal ?_
      refine JC.seq ?_
      refine JC.cutK (Y := (List Int) × SlV) (fun y => match y with | (d21, _) => F55.j2 d11 (d21) = some s18) (fun y => match y with | (d21, z20) => [(1, .int .i64 x3), (6, z20.v), (10, s1.v), (11, .int .i64 ((x2).length : Int)), (12, .int .i64 d11)]) (fun y => match y with | (d21, z20) => [Asr.of 5 (Enc.int .u8) (z20.v) d21, Asr.vw (Enc.pair (Enc.int .u8) (Enc.pair (Enc.int .i64) (Enc.int .i64))) (s1.v) x2]) ?_ ?_
      ·
        rintro ⟨d21, z20⟩ hm
        unfold F55.j2 at hm
        show QJ _ _ [(1, .int .i64 x3), (6, z20.v), (10, s1.v), (11, .int .i64 ((x2).length : Int)), (12, .int .i64 d11)] [Asr.of 5 (Enc.int .u8) (z20.v) d21, Asr.vw (Enc.pair (Enc.int .u8) (Enc.pair (Enc.int .i64) (Enc.int .i64))) (s1.v) x2] _ _
        refine QJ.then_normal ?_
        refine JC.region ?_
        refine JL.val (v := .int .i64 (IntKind.wrap .i64 (d11 + (1 : Int)))) (QV.add rfl rfl) rfl rfl rfl ?_
        refine JL.val (v := .int .i64 (IntKind.wrap .i64 (d11 + (1 : Int)))) (QV.move rfl) rfl rfl rfl ?_
        refine JL.nil ?_
        obtain rfl := Option.some.inj hm
        exact QJ.round_on (d21, (IntKind.wrap .i64 (d11 + (1 : Int)))) z20 [0, 1] (by exact ⟨rfl, rfl, rfl, rfl, rfl, trivial⟩) rfl rfl
      ·
        refine JC.block ?_
        refine JC.seq ?_
        refine JC.region ?_
        obtain ⟨h22, hm⟩ := guard_inv hm
        refine JL.val (v := .pointer (some (elA (s1.v) (Int.toNat d11 * ((Enc.pair (Enc.int .u8) (Enc.pair (Enc.int .i64) (Enc.int .i64)))).sz)))) (QV.indexA (Rdg.vw 1 rfl) Try.underlying27 tk_23 rfl rfl h22) rfl rfl rfl ?_
        refine JL.val (v := .agg #[.int .u8 (gd x2 d11).1, .int .i64 (gd x2 d11).2.1, .int .i64 (gd x2 d11).2.2]) (QV.eq (QV.elN (Rdg.vw 1 rfl) tk_23 rfl h22) rfl) rfl rfl rfl ?_
        refine JL.mv (d := some 8) (MV.alloc [Seg.c (.int .u8 (0 : Int)), Seg.c (.int .i64 (0 : Int)), Seg.c (.int .i64 (0 : Int))] z_23 rfl) rfl rfl rfl ?_
        rintro _ _ ⟨b23, rfl, rfl⟩
        refine JL.mv (d := none) (MV.store (ss := [Seg.c (.int .u8 (0 : Int)), Seg.c (.int .i64 (0 : Int)), Seg.c (.int .i64 (0 : Int))]) 0 0 3 [Seg.c (.int .u8 (gd x2 d11).1), Seg.c (.int .i64 (gd x2 d11).2.1), Seg.c (.int .i64 (gd x2 d11).2.2)] rfl tk_23 rfl rfl rfl rfl (fun w hs => ⟨rfl, one_c rfl, one_c rfl, one_c rfl, trivial⟩)) rfl rfl rfl ?_
        rintro _ _ ⟨rfl, rfl⟩
        refine JL.nil ?_
        refine QJ.then_normal ?_
        refine JC.seq ?_
        refine JC.region ?_
        refine JL.val (v := .pointer (some ⟨b23, 1, none⟩)) (QV.fieldB fo_23_1 rfl rfl) rfl rfl rfl ?_
        refine JL.val (v := .int .i64 (gd x2 d11).2.1) (QV.load1 (ss := [Seg.c (.int .u8 (gd x2 d11).1), Seg.c (.int .i64 (gd x2 d11).2.1), Seg.c (.int .i64 (gd x2 d11).2.2)]) 0 1 rfl tk_3 rfl rfl rfl) rfl rfl rfl ?_
        refine JL.val (v := .int .i64 (maxI (gd x2 d11).2.1 (1 : Int))) (QV.max2 rfl rfl) rfl rfl rfl ?_
        refine JL.val (v := .int .i64 (maxI (gd x2 d11).2.1 (1 : Int))) (QV.assign rfl) rfl rfl rfl ?_
        refine JL.nil ?_
        refine QJ.then_normal ?_
        refine JC.seq ?_
        refine JC.block ?_
        refine JC.seq ?_
        refine JC.region ?_
        refine JL.val (v := .agg #[.int .u8 (gd x2 d11).1, .int .i64 (gd x2 d11).2.1, .int .i64 (gd x2 d11).2.2]) (QV.eq (QV.loadN (ss := [Seg.c (.int .u8 (gd x2 d11).1), Seg.c (.int .i64 (gd x2 d11).2.1), Seg.c (.int .i64 (gd x2 d11).2.2)]) 0 0 3 rfl tk_23 rfl rfl rfl rfl) rfl) rfl rfl rfl ?_
        obtain ⟨y24, hc25, hm⟩ := bind_inv hm
        refine JL.mv (d := some 21) (MV.call (Lo := []) (Lr := [Asr.blk b23 23 [Seg.c (.int .u8 (gd x2 d11).1), Seg.c (.int .i64 (gd x2 d11).2.1), Seg.c (.int .i64 (gd x2 d11).2.2)], Asr.of 5 (Enc.int .u8) (z9.v) d10, Asr.vw (Enc.pair (Enc.int .u8) (Enc.pair (Enc.int .i64) (Enc.int .i64))) (s1.v) x2]) (F15.spec ((gd x2 d11).1) ((gd x2 d11).2.1) ((gd x2 d11).2.2) _ hc25) rfl Try.func15 rfl rfl rfl [] [0, 1, 2] rfl rfl rfl trivial) rfl rfl rfl ?_
        rintro _ _ ⟨_, ⟨rfl, rfl⟩, rfl⟩
        refine JL.val (v := .bool (!y24)) (QV.not rfl) rfl rfl rfl ?_
        refine JL.val (v := .bool (!y24)) (QV.assign rfl) rfl rfl rfl ?_
        refine JL.nil ?_
        refine QJ.then_normal ?_
        rcases ite_inv hm with ⟨h26, hm⟩ | ⟨h26, hm⟩
        ·
          refine JC.condF' rfl (congrArg Bool.not h26) ?_
          refine JC.seq ?_
          refine JC.region ?_
          refine JL.val (v := .pointer (some ⟨b23, 2, none⟩)) (QV.fieldB fo_23_2 rfl rfl) rfl rfl rfl ?_
          refine JL.val (v := .int .i64 (gd x2 d11).2.2) (QV.load1 (ss := [Seg.c (.int .u8 (gd x2 d11).1), Seg.c (.int .i64 (gd x2 d11).2.1), Seg.c (.int .i64 (gd x2 d11).2.2)]) 0 2 rfl tk_3 rfl rfl rfl) rfl rfl rfl ?_
          refine JL.val (v := z9.v) (QV.move rfl) rfl rfl rfl ?_
          refine JL.val (v := .int .i64 ((d10).length : Int)) (QV.len (Rdg.of 1 rfl) Try.underlying26 rfl) rfl rfl rfl ?_
          refine JL.val (v := .bool (decide (((d10).length : Int) < (gd x2 d11).2.2))) (QV.gtr rfl rfl) rfl rfl rfl ?_
          refine JL.val (v := .bool (decide (((d10).length : Int) < (gd x2 d11).2.2))) (QV.assign rfl) rfl rfl rfl ?_
          refine JL.nil ?_
          refine QJ.then_normal ?_
          rcases ite_inv hm with ⟨h27, hm⟩ | ⟨h27, hm⟩
          ·
            refine JC.condT' rfl (decide_eq_true h27) ?_
            refine JC.seq ?_
            refine JC.region ?_
            refine JL.ent (fun _ hs => hs.nil 5 (Enc.int .u8)) ?_
            refine JL.val (v := SlV.nil.v) (QV.assign rfl) rfl rfl rfl ?_
            refine JL.val (v := .int .i64 (5 : Int)) (QV.assign rfl) rfl rfl rfl ?_
            refine JL.nil ?_
            refine QJ.then_normal ?_
            refine JC.ret ?_
            refine QJ.block_ret ?_
            refine QJ.then_ret ?_
            refine QJ.block_ret ?_
            refine QJ.cut_ret ?_
            refine QJ.then_ret ?_
            obtain rfl := Option.some.inj hm
            refine QJ.round_ret (fun hy => ?_)
            subst hy
            refine QJ.block_ret ?_
            refine QJ.cut_ret ?_
            refine QJ.then_ret ?_
            obtain rfl := Option.some.inj hmo17
            exact QJ.body (vs := [SlV.nil.v, .int .i64 (5 : Int)]) (.inl rfl) rfl (ResVs.cons (ResV.tmp rfl) (ResVs.cons (ResV.tmp rfl) ResVs.nil)) [0] rfl rfl (.inr ⟨own_of _ _ _ _, trivial⟩) ⟨(SlV.nil), rfl, rfl⟩
          ·
            refine JC.condF' rfl (decide_eq_false h27) ?_
            refine JC.seq ?_
            refine JC.region ?_
            refine JL.val (v := .int .i64 x3) (QV.move rfl) rfl rfl rfl ?_
            refine JL.val (v := .int .i64 (maxI (gd x2 d11).2.1 (1 : Int))) (QV.move rfl) rfl rfl rfl ?_
            refine JL.val (v := .bool (decide (x3 < (maxI (gd x2 d11).2.1 (1 : Int))))) (QV.lss rfl rfl) rfl rfl rfl ?_
            rcases ite_inv hm with ⟨h28, hm⟩ | ⟨h28, hm⟩
            ·
              refine JL.val (v := .bool true) (QV.eq (QV.move rfl) (congrArg Value.bool (decide_eq_true h28))) rfl rfl rfl ?_
              refine JL.skip (d := some 34) rfl rfl rfl ?_
              refine JL.skip (d := some 35) rfl rfl rfl ?_
              refine JL.skip (d := some 36) rfl rfl rfl ?_
              refine JL.skip (d := some 37) rfl rfl rfl ?_
              refine JL.skip (d := some 38) rfl rfl rfl ?_
              refine JL.skip (d := some 39) rfl rfl rfl ?_
              refine JL.val (v := .bool true) (QV.pickT rfl rfl) rfl rfl rfl ?_
              refine JL.val (v := .bool true) (QV.assign rfl) rfl rfl rfl ?_
              refine JL.nil ?_
              refine QJ.then_normal ?_
              refine JC.condT rfl ?_
              refine JC.seq ?_
              refine JC.region ?_
              refine JL.ent (fun _ hs => hs.nil 5 (Enc.int .u8)) ?_
              refine JL.val (v := SlV.nil.v) (QV.assign rfl) rfl rfl rfl ?_
              refine JL.val (v := .int .i64 (12 : Int)) (QV.assign rfl) rfl rfl rfl ?_
              refine JL.nil ?_
              refine QJ.then_normal ?_
              refine JC.ret ?_
              refine QJ.block_ret ?_
              refine QJ.then_ret ?_
              refine QJ.block_ret ?_
              refine QJ.cut_ret ?_
              refine QJ.then_ret ?_
              obtain rfl := Option.some.inj hm
              refine QJ.round_ret (fun hy => ?_)
              subst hy
              refine QJ.block_ret ?_
              refine QJ.cut_ret ?_
              refine QJ.then_ret ?_
              obtain rfl := Option.some.inj hmo17
              exact QJ.body (vs := [SlV.nil.v, .int .i64 (12 : Int)]) (.inl rfl) rfl (ResVs.cons (ResV.tmp rfl) (ResVs.cons (ResV.tmp rfl) ResVs.nil)) [0] rfl rfl (.inr ⟨own_of _ _ _ _, trivial⟩) ⟨(SlV.nil), rfl, rfl⟩
            ·
              refine JL.val (v := .bool false) (QV.eq (QV.move rfl) (congrArg Value.bool (decide_eq_false h28))) rfl rfl rfl ?_
              refine JL.val (v := z9.v) (QV.move rfl) rfl rfl rfl ?_
              refine JL.val (v := .int .i64 ((d10).length : Int)) (QV.len (Rdg.of 1 rfl) Try.underlying26 rfl) rfl rfl rfl ?_
              refine JL.val (v := .int .i64 x3) (QV.move rfl) rfl rfl rfl ?_
              refine JL.val (v := .int .i64 (maxI (gd x2 d11).2.1 (1 : Int))) (QV.move rfl) rfl rfl rfl ?_
              refine JL.val (v := .int .i64 (IntKind.wrap .i64 (x3 - (maxI (gd x2 d11).2.1 (1 : Int))))) (QV.sub rfl rfl) rfl rfl rfl ?_
              refine JL.val (v := .bool (decide ((IntKind.wrap .i64 (x3 - (maxI (gd x2 d11).2.1 (1 : Int)))) < ((d10).length : Int)))) (QV.gtr rfl rfl) rfl rfl rfl ?_
              refine JL.val (v := .bool (decide ((IntKind.wrap .i64 (x3 - (maxI (gd x2 d11).2.1 (1 : Int)))) < ((d10).length : Int)))) (QV.pickF rfl rfl) rfl rfl rfl ?_
              refine JL.val (v := .bool (decide ((IntKind.wrap .i64 (x3 - (maxI (gd x2 d11).2.1 (1 : Int)))) < ((d10).length : Int)))) (QV.assign rfl) rfl rfl rfl ?_
              refine JL.nil ?_
              refine QJ.then_normal ?_
              rcases ite_inv hm with ⟨h29, hm⟩ | ⟨h29, hm⟩
              ·
                refine JC.condT' rfl (decide_eq_true h29) ?_
                refine JC.seq ?_
                refine JC.region ?_
                refine JL.ent (fun _ hs => hs.nil 5 (Enc.int .u8)) ?_
                refine JL.val (v := SlV.nil.v) (QV.assign rfl) rfl rfl rfl ?_
                refine JL.val (v := .int .i64 (12 : Int)) (QV.assign rfl) rfl rfl rfl ?_
                refine JL.nil ?_
                refine QJ.then_normal ?_
                refine JC.ret ?_
                refine QJ.block_ret ?_
                refine QJ.then_ret ?_
                refine QJ.block_ret ?_
                refine QJ.cut_ret ?_
                refine QJ.then_ret ?_
                obtain rfl := Option.some.inj hm
                refine QJ.round_ret (fun hy => ?_)
                subst hy
                refine QJ.block_ret ?_
                refine QJ.cut_ret ?_
                refine QJ.then_ret ?_
                obtain rfl := Option.some.inj hmo17
                exact QJ.body (vs := [SlV.nil.v, .int .i64 (12 : Int)]) (.inl rfl) rfl (ResVs.cons (ResV.tmp rfl) (ResVs.cons (ResV.tmp rfl) ResVs.nil)) [0] rfl rfl (.inr ⟨own_of _ _ _ _, trivial⟩) ⟨(SlV.nil), rfl, rfl⟩
              ·
                refine JC.condF' rfl (decide_eq_false h29) ?_
                refine JC.seq ?_
                refine JC.region ?_
                refine JL.val (v := .pointer (some ⟨b23, 1, none⟩)) (QV.fieldB fo_23_1 rfl rfl) rfl rfl rfl ?_
                refine JL.val (v := .int .i64 (gd x2 d11).2.1) (QV.load1 (ss := [Seg.c (.int .u8 (gd x2 d11).1), Seg.c (.int .i64 (gd x2 d11).2.1), Seg.c (.int .i64 (gd x2 d11).2.2)]) 0 1 rfl tk_3 rfl rfl rfl) rfl rfl rfl ?_
                refine JL.val (v := .bool (decide ((gd x2 d11).2.1 = (0 : Int)))) (QV.eql rfl rfl) rfl rfl rfl ?_
                refine JL.val (v := .bool (decide ((gd x2 d11).2.1 = (0 : Int)))) (QV.assign rfl) rfl rfl rfl ?_
                refine JL.nil ?_
                refine QJ.then_normal ?_
                rcases ite_inv hm with ⟨h30, hm⟩ | ⟨h30, hm⟩
                ·
                  refine JC.condT' rfl (decide_eq_true h30) ?_
                  refine JC.seq ?_
                  refine JC.region ?_
                  refine JL.val (v := z9.v) (QV.move rfl) rfl rfl rfl ?_
                  refine JL.val (v := .pointer (some ⟨b23, 0, none⟩)) (QV.fieldB fo_23_0 rfl rfl) rfl rfl rfl ?_
                  refine JL.val (v := .int .u8 (gd x2 d11).1) (QV.load1 (ss := [Seg.c (.int .u8 (gd x2 d11).1), Seg.c (.int .i64 (gd x2 d11).2.1), Seg.c (.int .i64 (gd x2 d11).2.2)]) 0 0 rfl tk_5 rfl rfl rfl) rfl rfl rfl ?_
                  refine JL.mv (d := some 48) (MV.lit (E := (Enc.int .u8)) (vals := [(0, .int .u8 (gd x2 d11).1)]) [(gd x2 d11).1] Try.underlying26 zi_5 rfl (by decide) rfl (by kernel_rfl)) rfl rfl rfl ?_
                  rintro _ _ ⟨z31, rfl, rfl⟩
                  obtain ⟨h32, hm⟩ := guard_inv hm
                  refine JL.mv (d := some 49) (MV.append 2 rfl (Rdg.of 0 rfl) Try.underlying26 zi_5 rfl (by decide) rfl rfl h32) rfl rfl rfl ?_
                  rintro _ _ ⟨z33, rfl, rfl⟩
                  refine JL.val (v := z33.v) (QV.assign rfl) rfl rfl rfl ?_
                  refine JL.nil ?_
                  refine QJ.then_normal ?_
                  refine JC.exit ?_
                  refine QJ.block_miss rfl ?_
                  refine QJ.then_exit ?_
                  refine QJ.block_hit ?_
                  exact QJ.cut_normal ((d10 ++ [(gd x2 d11).1]), z33) hm [2, 3] (by exact ⟨rfl, rfl, rfl, rfl, rfl, trivial⟩) rfl rfl
                ·
                  refine JC.condF' rfl (decide_eq_false h30) ?_
                  refine JC.skip ?_
                  refine QJ.block_normal ?_
                  refine QJ.then_normal ?_
                  refine JC.seq ?_
                  refine JC.region ?_
                  refine JL.val (v := .int .i64 (maxI (gd x2 d11).2.1 (1 : Int))) (QV.move rfl) rfl rfl rfl ?_
                  refine JL.val (v := .int .i64 (0 : Int)) (QV.move rfl) rfl rfl rfl ?_
                  refine JL.nil ?_
                  refine QJ.then_normal ?_
                  refine JC.cutK (Y := (List Int) × SlV) (fun y => match y with | (d35, _) => F55.j3 d11 (d35) = some s18) (fun y => match y with | (d35, z34) => [(1, .int .i64 x3), (6, z34.v), (10, s1.v), (11, .int .i64 ((x2).length : Int)), (12, .int .i64 d11)]) (fun y => match y with | (d35, z34) => [Asr.of 5 (Enc.int .u8) (z34.v) d35, Asr.vw (Enc.pair (Enc.int .u8) (Enc.pair (Enc.int .i64) (Enc.int .i64))) (s1.v) x2]) ?_ ?_
                  ·
                    rintro ⟨d35, z34⟩ hm
                    unfold F55.j3 at hm
                    show QJ _ _ [(1, .int .i64 x3), (6, z34.v), (10, s1.v), (11, .int .i64 ((x2).length : Int)), (12, .int .i64 d11)] [Asr.of 5 (Enc.int .u8) (z34.v) d35, Asr.vw (Enc.pair (Enc.int .u8) (Enc.pair (Enc.int .i64) (Enc.int .i64))) (s1.v) x2] _ _
                    refine QJ.block_normal ?_
                    exact QJ.cut_normal (d35, z34) hm [0, 1] (by exact ⟨rfl, rfl, rfl, rfl, rfl, trivial⟩) rfl rfl
                  ·
                    refine JC.block ?_
                    obtain ⟨y42, hl43, hmo44⟩ := bind_inv hm
                    refine JC.loop (F55.b2 x2 d11) (fun x z => match x, z with | (d37, d38), z36 => [(1, .int .i64 x3), (6, z36.v), (8, .pointer (some ⟨b23, 0, none⟩)), (10, s1.v), (11, .int .i64 ((x2).length : Int)), (12, .int .i64 d11), (50, .int .i64 (maxI (gd x2 d11).2.1 (1 : Int))), (51, .int .i64 d38)]) (fun x z => match x, z with | (d37, d38), z36 => [Asr.of 5 (Enc.int .u8) (z36.v) d37, Asr.blk b23 23 [Seg.c (.int .u8 (gd x2 d11).1), Seg.c (.int .i64 (gd x2 d11).2.1), Seg.c (.int .i64 (gd x2 d11).2.2)], Asr.vw (Enc.pair (Enc.int .u8) (Enc.pair (Enc.int .i64) (Enc.int .i64))) (s1.v) x2]) (d10, (0 : Int)) z9 y42 hl43 [1, 0, 2] (by exact ⟨rfl, rfl, rfl, rfl, rfl, rfl, rfl, rfl, trivial⟩) rfl rfl ?_
                    rintro ⟨d37, d38⟩ z36 s45 hm
                    unfold F55.b2 at hm
                    dsimp only at hm
                    show JC _ _ _ [(1, .int .i64 x3), (6, z36.v), (8, .pointer (some ⟨b23, 0, none⟩)), (10, s1.v), (11, .int .i64 ((x2).length : Int)), (12, .int .i64 d11), (50, .int .i64 (maxI (gd x2 d11).2.1 (1 : Int))), (51, .int .i64 d38)] [Asr.of 5 (Enc.int .u8) (z36.v) d37, Asr.blk b23 23 [Seg.c (.int .u8 (gd x2 d11).1), Seg.c (.int .i64 (gd x2 d11).2.1), Seg.c (.int .i64 (gd x2 d11).2.2)], Asr.vw (Enc.pair (Enc.int .u8) (Enc.pair (Enc.int .i64) (Enc.int .i64))) (s1.v) x2] _ _
                    refine JC.seq ?_
                    refine JC.region ?_
                    refine JL.val (v := .bool (decide (d38 < (maxI (gd x2 d11).2.1 (1 : Int))))) (QV.lss rfl rfl) rfl rfl rfl ?_
                    refine JL.nil ?_
                    refine QJ.then_normal ?_
                    refine JC.seq ?_
                    rcases ite_inv hm with ⟨h46, hm⟩ | ⟨h46, hm⟩
                    ·
                      refine JC.condT' rfl (decide_eq_true h46) ?_
                      refine JC.skip ?_
                      refine QJ.then_normal ?_
                      refine JC.seq ?_
                      refine JC.block ?_
                      refine JC.region ?_
                      refine JL.val (v := z36.v) (QV.move rfl) rfl rfl rfl ?_
                      refine JL.val (v := z36.v) (QV.move rfl) rfl rfl rfl ?_
                      refine JL.val (v := z36.v) (QV.move rfl) rfl rfl rfl ?_
                      refine JL.val (v := .int .i64 ((d37).length : Int)) (QV.len (Rdg.of 0 rfl) Try.underlying26 rfl) rfl rfl rfl ?_
                      refine JL.val (v := .pointer (some ⟨b23, 2, none⟩)) (QV.fieldB fo_23_2 rfl rfl) rfl rfl rfl ?_
                      refine JL.val (v := .int .i64 (gd x2 d11).2.2) (QV.load1 (ss := [Seg.c (.int .u8 (gd x2 d11).1), Seg.c (.int .i64 (gd x2 d11).2.1), Seg.c (.int .i64 (gd x2 d11).2.2)]) 1 2 rfl tk_3 rfl rfl rfl) rfl rfl rfl ?_
                      refine JL.val (v := .int .i64 (IntKind.wrap .i64 (((d37).length : Int) - (gd x2 d11).2.2))) (QV.sub rfl rfl) rfl rfl rfl ?_
                      obtain ⟨h47, hm⟩ := guard_inv hm
                      refine JL.val (v := .pointer (some (elA (z36.v) (Int.toNat (IntKind.wrap .i64 (((d37).length : Int) - (gd x2 d11).2.2)) * ((Enc.int .u8)).sz)))) (QV.indexA (Rdg.of 0 rfl) Try.underlying26 tk_5 rfl rfl h47) rfl rfl rfl ?_
                      refine JL.val (v := .int .u8 (gd d37 (IntKind.wrap .i64 (((d37).length : Int) - (gd x2 d11).2.2)))) (QV.el1 (Rdg.of 0 rfl) tk_5 rfl h47 rfl) rfl rfl rfl ?_
                      refine JL.mv (d := some 62) (MV.lit (E := (Enc.int .u8)) (vals := [(0, .int .u8 (gd d37 (IntKind.wrap .i64 (((d37).length : Int) - (gd x2 d11).2.2))))]) [(gd d37 (IntKind.wrap .i64 (((d37).length : Int) - (gd x2 d11).2.2)))] Try.underlying26 zi_5 rfl (by decide) rfl (by kernel_rfl)) rfl rfl rfl ?_
                      rintro _ _ ⟨z48, rfl, rfl⟩
                      obtain ⟨h49, hm⟩ := guard_inv hm
                      refine JL.mv (d := some 63) (MV.append 1 rfl (Rdg.of 0 rfl) Try.underlying26 zi_5 rfl (by decide) rfl rfl h49) rfl rfl rfl ?_
                      rintro _ _ ⟨z50, rfl, rfl⟩
                      refine JL.val (v := z50.v) (QV.assign rfl) rfl rfl rfl ?_
                      refine JL.nil ?_
                      refine QJ.block_normal ?_
                      refine QJ.then_normal ?_
                      refine JC.region ?_
                      refine JL.val (v := .int .i64 (IntKind.wrap .i64 (d38 + (1 : Int)))) (QV.add rfl rfl) rfl rfl rfl ?_
                      refine JL.val (v := .int .i64 (IntKind.wrap .i64 (d38 + (1 : Int)))) (QV.move rfl) rfl rfl rfl ?_
                      refine JL.nil ?_
                      obtain rfl := Option.some.inj hm
                      exact QJ.round_on ((d37 ++ [(gd d37 (IntKind.wrap .i64 (((d37).length : Int) - (gd x2 d11).2.2)))]), (IntKind.wrap .i64 (d38 + (1 : Int)))) z50 [1, 2, 3] (by exact ⟨rfl, rfl, rfl, rfl, rfl, rfl, rfl, rfl, trivial⟩) rfl rfl
                    ·
                      refine JC.condF' rfl (decide_eq_false h46) ?_
                      refine JC.exit ?_
                      refine QJ.then_exit ?_
                      obtain rfl := Option.some.inj hm
                      refine QJ.round_exit (fun hy => ?_)
                      subst hy
                      refine QJ.block_hit ?_
                      exact QJ.cut_normal (d37, z36) hmo44 [0, 2] (by exact ⟨rfl, rfl, rfl, rfl, rfl, trivial⟩) rfl rfl
        ·
          refine JC.condT' rfl (congrArg Bool.not (bfalse h26)) ?_
          refine JC.seq ?_
          refine JC.region ?_
          refine JL.ent (fun _ hs => hs.nil 5 (Enc.int .u8)) ?_
          refine JL.val (v := SlV.nil.v) (QV.assign rfl) rfl rfl rfl ?_
          refine JL.val (v := .int .i64 (3 : Int)) (QV.assign rfl) rfl rfl rfl ?_
          refine JL.nil ?_
          refine QJ.then_normal ?_
          refine JC.ret ?_
          refine QJ.block_ret ?_
          refine QJ.then_ret ?_
          refine QJ.block_ret ?_
          refine QJ.cut_ret ?_
          refine QJ.then_ret ?_
          obtain rfl := Option.some.inj hm
          refine QJ.round_ret (fun hy => ?_)
          subst hy
          refine QJ.block_ret ?_
          refine QJ.cut_ret ?_
          refine QJ.then_ret ?_
          obtain rfl := Option.some.inj hmo17
          exact QJ.body (vs := [SlV.nil.v, .int .i64 (3 : Int)]) (.inl rfl) rfl (ResVs.cons (ResV.tmp rfl) (ResVs.cons (ResV.tmp rfl) ResVs.nil)) [0] rfl rfl (.inr ⟨own_of _ _ _ _, trivial⟩) ⟨(SlV.nil), rfl, rfl⟩
    ·
      refine JC.condF' rfl (decide_eq_false h19) ?_
      refine JC.exit ?_
      refine QJ.then_exit ?_
      obtain rfl := Option.some.inj hm
      refine QJ.round_exit (fun hy => ?_)
      subst hy
      refine QJ.block_hit ?_
      exact QJ.cut_normal (d10, z9) hmo17 [0] (by exact ⟨rfl, trivial⟩) rfl rfl

/-! ### 17: drogher/drogherlaw11.awake -/
noncomputable def F17.m  : Option Bool :=
  ((F55.m ([((97 : Int), (0 : Int), (0 : Int)), ((0 : Int), (3 : Int), (1 : Int))]) ((9 : Int))).bind fun y3 => (if (strOfNums y3.1) = (⟨#[97, 97, 97, 97]⟩ : ByteArray) then some (decide (y3.2 = (0 : Int))) else some false))
set_option maxRecDepth 100000 in
set_option maxHeartbeats 4000000 in
theorem F17.spec  (r : Bool) (hm : F17.m  = some r) :
    Ctr Try.prog false 17 [] [] (fun v L' => v = .bool r ∧ L' = []) := by
  refine Ctr.intro (n := 17) (env := []) Try.func17 rfl rfl rfl rfl (fun c => ?_)
  unfold F17.m at hm
  refine JC.seq ?_
  refine JC.region ?_
  refine JL.val (v := .bool false) (QV.assign rfl) rfl rfl rfl ?_
  refine JL.nil ?_
  refine QJ.then_normal ?_
  refine JC.seq ?_
  refine JC.region ?_
  refine JL.val (v := .agg #[.int .u8 (97 : Int), .int .i64 (0 : Int), .int .i64 (0 : Int)]) (QV.build (vals := [(0, .int .u8 (97 : Int))]) rfl (by kernel_rfl)) rfl rfl rfl ?_
  refine JL.val (v := .agg #[.int .u8 (0 : Int), .int .i64 (3 : Int), .int .i64 (1 : Int)]) (QV.build (vals := [(1, .int .i64 (3 : Int)), (2, .int .i64 (1 : Int))]) rfl (by kernel_rfl)) rfl rfl rfl ?_
  refine JL.mv (d := some 6) (MV.lit (E := (Enc.pair (Enc.int .u8) (Enc.pair (Enc.int .i64) (Enc.int .i64)))) (vals := [(0, .agg #[.int .u8 (97 : Int), .int .i64 (0 : Int), .int .i64 (0 : Int)]), (1, .agg #[.int .u8 (0 : Int), .int .i64 (3 : Int), .int .i64 (1 : Int)])]) [((97 : Int), (0 : Int), (0 : Int)), ((0 : Int), (3 : Int), (1 : Int))] Try.underlying27 zi_23 rfl (by decide) rfl (by kernel_rfl)) rfl rfl rfl ?_
  rintro _ _ ⟨z2, rfl, rfl⟩
  obtain ⟨y3, hc4, hm⟩ := bind_inv hm
  refine JL.mv (d := some 7) (MV.call (Lo := []) (Lr := [Asr.of 23 (Enc.pair (Enc.int .u8) (Enc.pair (Enc.int .i64) (Enc.int .i64))) (z2.v) [((97 : Int), (0 : Int), (0 : Int)), ((0 : Int), (3 : Int), (1 : Int))]]) (F55.spec (z2) ([((97 : Int), (0 : Int), (0 : Int)), ((0 : Int), (3 : Int), (1 : Int))]) ((9 : Int)) _ hc4) rfl Try.func55 rfl rfl rfl [] [0] rfl rfl rfl ⟨(Drv.of 0 rfl), trivial⟩) rfl rfl rfl ?_
  rintro _ _ ⟨_, ⟨z5, rfl, rfl⟩, rfl⟩
  refine JL.val (v := .tuple #[z5.v, .int .i64 y3.2]) (QV.move rfl) rfl rfl rfl ?_
  refine JL.val (v := z5.v) (QV.extract (vs := [z5.v, .int .i64 y3.2]) rfl rfl) rfl rfl rfl ?_
  refine JL.val (v := .int .i64 y3.2) (QV.extract (vs := [z5.v, .int .i64 y3.2]) rfl rfl) rfl rfl rfl ?_
  refine JL.val (v := z5.v) (QV.assign rfl) rfl rfl rfl ?_
  refine JL.val (v := .int .i64 y3.2) (QV.assign rfl) rfl rfl rfl ?_
  refine JL.nil ?_
  refine QJ.then_normal ?_
  refine JC.seq ?_
  refine JC.region ?_
  refine JL.val (v := z5.v) (QV.move rfl) rfl rfl rfl ?_
  refine JL.val (v := .string (strOfNums y3.1)) (QV.str (Rdg.of 0 rfl) Try.underlying26 Try.underlying5 Try.underlying9 rfl) rfl rfl rfl ?_
  refine JL.val (v := .bool (decide ((strOfNums y3.1) = (⟨#[97, 97, 97, 97]⟩ : ByteArray)))) (QV.eqlS rfl rfl) rfl rfl rfl ?_
  rcases ite_inv hm with ⟨h6, hm⟩ | ⟨h6, hm⟩
  ·
    refine JL.val (v := .bool true) (QV.eq (QV.move rfl) (congrArg Value.bool (decide_eq_true h6))) rfl rfl rfl ?_
    refine JL.val (v := .int .i64 y3.2) (QV.move rfl) rfl rfl rfl ?_
    refine JL.val (v := .bool (decide (y3.2 = (0 : Int)))) (QV.eql rfl rfl) rfl rfl rfl ?_
    refine JL.val (v := .bool (decide (y3.2 = (0 : Int)))) (QV.pickT rfl rfl) rfl rfl rfl ?_
    refine JL.val (v := .bool (decide (y3.2 = (0 : Int)))) (QV.assign rfl) rfl rfl rfl ?_
    refine JL.nil ?_
    refine QJ.then_normal ?_
    refine JC.ret ?_
    obtain rfl := Option.some.inj hm
    exact QJ.body (vs := [.bool (decide (y3.2 = (0 : Int)))]) (.inl rfl) rfl (ResVs.cons (ResV.tmp rfl) ResVs.nil) [] rfl rfl (.inr trivial) ⟨rfl, rfl⟩
  ·
    refine JL.val (v := .bool false) (QV.eq (QV.move rfl) (congrArg Value.bool (decide_eq_false h6))) rfl rfl rfl ?_
    refine JL.skip (d := some 14) rfl rfl rfl ?_
    refine JL.skip (d := some 15) rfl rfl rfl ?_
    refine JL.val (v := .bool false) (QV.pickF rfl rfl) rfl rfl rfl ?_
    refine JL.val (v := .bool false) (QV.assign rfl) rfl rfl rfl ?_
    refine JL.nil ?_
    refine QJ.then_normal ?_
    refine JC.ret ?_
    obtain rfl := Option.some.inj hm
    exact QJ.body (vs := [.bool false]) (.inl rfl) rfl (ResVs.cons (ResV.tmp rfl) ResVs.nil) [] rfl rfl (.inr trivial) ⟨rfl, rfl⟩

/-! ### 69: (*drogher/lz.chains).hash -/
noncomputable def F69.m (x3 : List Int) (x5 : List Int) (x7 : List Int) (x8 : Int) : Option Int :=
  (if 0 ≤ x8 ∧ x8 < ((x3).length : Int) then (if 0 ≤ (IntKind.wrap .i64 (x8 + (1 : Int))) ∧ (IntKind.wrap .i64 (x8 + (1 : Int))) < ((x3).length : Int) then (if 0 ≤ (IntKind.wrap .i64 (x8 + (2 : Int))) ∧ (IntKind.wrap .i64 (x8 + (2 : Int))) < ((x3).length : Int) then some (IntKind.wrap .i64 (shrI .u32 (IntKind.wrap .u32 ((orI .u32 (orI .u32 (IntKind.wrap .u32 (gd x3 x8)) (shlI .u32 (IntKind.wrap .u32 (gd x3 (IntKind.wrap .i64 (x8 + (1 : Int))))) (8 : Int))) (shlI .u32 (IntKind.wrap .u32 (gd x3 (IntKind.wrap .i64 (x8 + (2 : Int))))) (16 : Int))) * (2654435761 : Int))) (20 : Int))) else none) else none) else none)
set_option maxRecDepth 100000 in
set_option maxHeartbeats 4000000 in
theorem F69.spec (b1 : Nat) (s2 : SlV) (s4 : SlV) (s6 : SlV) (x3 : List Int) (x5 : List Int) (x7 : List Int) (x8 : Int) (r : Int) (hm : F69.m x3 x5 x7 x8 = some r) :
    Ctr Try.prog true 69 [.pointer (some ⟨b1, 0, none⟩), .int .i64 x8] [Asr.blk b1 81 [Seg.c (s2.v), Seg.c (s4.v), Seg.c (s6.v)], Asr.of 3 (Enc.int .i64) (s4.v) x5, Asr.of 3 (Enc.int .i64) (s6.v) x7, Asr.vw (Enc.int .u8) (s2.v) x3] (fun v L' => v = .int .i64 r ∧ L' = [Asr.of 3 (Enc.int .i64) (s4.v) x5, Asr.of 3 (Enc.int .i64) (s6.v) x7, Asr.vw (Enc.int .u8) (s2.v) x3, Asr.blk b1 81 [Seg.c (s2.v), Seg.c (s4.v), Seg.c (s6.v)]]) := by
  refine Ctr.intro (n := 40) (env := [(0, .pointer (some ⟨b1, 0, none⟩)), (1, .int .i64 x8)]) Try.func69 rfl rfl rfl rfl (fun c => ?_)
  unfold F69.m at hm
  refine JC.seq ?_
  refine JC.region ?_
  refine JL.val (v := .int .i64 (0 : Int)) (QV.assign rfl) rfl rfl rfl ?_
  refine JL.nil ?_
  refine QJ.then_normal ?_
  refine JC.seq ?_
  refine JC.regionT [Asr.blk b1 81 [Seg.c (s2.v), Seg.c (s4.v), Seg.c (s6.v)], Asr.of 3 (Enc.int .i64) (s4.v) x5, Asr.of 3 (Enc.int .i64) (s6.v) x7, Asr.vw (Enc.int .u8) (s2.v) x3] (fun t => false) [(0, true), (1, true), (2, true), (3, true), (4, true), (5, true), (6, true), (7, true), (8, true), (9, true), (10, true), (11, true), (12, true), (13, true), (14, true), (15, true), (16, true), (17, true), (18, true), (19, true), (20, true), (21, true), (22, true), (23, false), (24, false), (25, false), (26, false), (27, false), (28, false), (29, false), (30, false)] (by kernel_rfl) (by kernel_rfl) (by kernel_rfl) rfl (fun hsel => ?_)
  refine JT.take (i := 0) (v := .pointer (some ⟨b1, 0, none⟩)) hsel rfl (QV.move rfl) rfl rfl rfl [0, 1, 2, 3] rfl rfl ?_
  refine JT.take (i := 1) (v := .pointer (some ⟨b1, 0, none⟩)) hsel rfl (QV.nilCheck rfl) rfl rfl rfl [0, 1, 2, 3] rfl rfl ?_
  refine JT.take (i := 2) (v := .pointer (some ⟨b1, 0, none⟩)) hsel rfl (QV.fieldB fo_81_0 rfl rfl) rfl rfl rfl [0, 1, 2, 3] rfl rfl ?_
  refine JT.take (i := 3) (v := s2.v) hsel rfl (QV.load1 (ss := [Seg.c (s2.v), Seg.c (s4.v), Seg.c (s6.v)]) 0 0 rfl tk_26 rfl rfl rfl) rfl rfl rfl [0, 1, 2, 3] rfl rfl ?_
  refine JT.take (i := 4) (v := .int .i64 x8) hsel rfl (QV.move rfl) rfl rfl rfl [0, 1, 2, 3] rfl rfl ?_
  obtain ⟨h10, hm⟩ := guard_inv hm
  refine JT.take (i := 5) (v := .pointer (some (elA (s2.v) (Int.toNat x8 * ((Enc.int .u8)).sz)))) hsel rfl (QV.indexA (Rdg.vw 3 rfl) Try.underlying26 tk_5 rfl rfl h10) rfl rfl rfl [0, 1, 2, 3] rfl rfl ?_
  refine JT.take (i := 6) (v := .int .u8 (gd x3 x8)) hsel rfl (QV.el1 (Rdg.vw 3 rfl) tk_5 rfl h10 rfl) rfl rfl rfl [0, 1, 2, 3] rfl rfl ?_
  refine JT.take (i := 7) (v := .int .u32 (IntKind.wrap .u32 (gd x3 x8))) hsel rfl (QV.conv rfl (by rw [Try.underlying5]; rfl) Try.underlying42) rfl rfl rfl [0, 1, 2, 3] rfl rfl ?_
  refine JT.take (i := 8) (v := .pointer (some ⟨b1, 0, none⟩)) hsel rfl (QV.move rfl) rfl rfl rfl [0, 1, 2, 3] rfl rfl ?_
  refine JT.take (i := 9) (v := .pointer (some ⟨b1, 0, none⟩)) hsel rfl (QV.nilCheck rfl) rfl rfl rfl [0, 1, 2, 3] rfl rfl ?_
  refine JT.take (i := 10) (v := .pointer (some ⟨b1, 0, none⟩)) hsel rfl (QV.fieldB fo_81_0 rfl rfl) rfl rfl rfl [0, 1, 2, 3] rfl rfl ?_
  refine JT.take (i := 11) (v := s2.v) hsel rfl (QV.load1 (ss := [Seg.c (s2.v), Seg.c (s4.v), Seg.c (s6.v)]) 0 0 rfl tk_26 rfl rfl rfl) rfl rfl rfl [0, 1, 2, 3] rfl rfl ?_
  refine JT.take (i := 12) (v := .int .i64 x8) hsel rfl (QV.move rfl) rfl rfl rfl [0, 1, 2, 3] rfl rfl ?_
  refine JT.take (i := 13) (v := .int .i64 (IntKind.wrap .i64 (x8 + (1 : Int)))) hsel rfl (QV.add rfl rfl) rfl rfl rfl [0, 1, 2, 3] rfl rfl ?_
  obtain ⟨h11, hm⟩ := guard_inv hm
  refine JT.take (i := 14) (v := .pointer (some (elA (s2.v) (Int.toNat (IntKind.wrap .i64 (x8 + (1 : Int))) * ((Enc.int .u8)).sz)))) hsel rfl (QV.indexA (Rdg.vw 3 rfl) Try.underlying26 tk_5 rfl rfl h11) rfl rfl rfl [0, 1, 2, 3] rfl rfl ?_
  refine JT.take (i := 15) (v := .int .u8 (gd x3 (IntKind.wrap .i64 (x8 + (1 : Int))))) hsel rfl (QV.el1 (Rdg.vw 3 rfl) tk_5 rfl h11 rfl) rfl rfl rfl [0, 1, 2, 3] rfl rfl ?_
  refine JT.take (i := 16) (v := .int .u32 (IntKind.wrap .u32 (gd x3 (IntKind.wrap .i64 (x8 + (1 : Int)))))) hsel rfl (QV.conv rfl (by rw [Try.underlying5]; rfl) Try.underlying42) rfl rfl rfl [0, 1, 2, 3] rfl rfl ?_
  refine JT.take (i := 17) (v := .int .u32 (shlI .u32 (IntKind.wrap .u32 (gd x3 (IntKind.wrap .i64 (x8 + (1 : Int))))) (8 : Int))) hsel rfl (QV.shl rfl rfl (by decide)) rfl rfl rfl [0, 1, 2, 3] rfl rfl ?_
  refine JT.take (i := 18) (v := .int .u32 (orI .u32 (IntKind.wrap .u32 (gd x3 x8)) (shlI .u32 (IntKind.wrap .u32 (gd x3 (IntKind.wrap .i64 (x8 + (1 : Int))))) (8 : Int)))) hsel rfl (QV.or rfl rfl) rfl rfl rfl [0, 1, 2, 3] rfl rfl ?_
  refine JT.take (i := 19) (v := .pointer (some ⟨b1, 0, none⟩)) hsel rfl (QV.move rfl) rfl rfl rfl [0, 1, 2, 3] rfl rfl ?_
  refine JT.take (i := 20) (v := .pointer (some ⟨b1, 0, none⟩)) hsel rfl (QV.nilCheck rfl) rfl rfl rfl [0, 1, 2, 3] rfl rfl ?_
  refine JT.take (i := 21) (v := .pointer (some ⟨b1, 0, none⟩)) hsel rfl (QV.fieldB fo_81_0 rfl rfl) rfl rfl rfl [0, 1, 2, 3] rfl rfl ?_
  refine JT.take (i := 22) (v := s2.v) hsel rfl (QV.load1 (ss := [Seg.c (s2.v), Seg.c (s4.v), Seg.c (s6.v)]) 0 0 rfl tk_26 rfl rfl rfl) rfl rfl rfl [0, 1, 2, 3] rfl rfl ?_
  refine JT.only (i := 23) (d := some 29) rfl (MV.ofQV (v := .int .i64 x8) (QV.move rfl)) rfl rfl rfl ?_
  rintro _ _ ⟨rfl, rfl⟩
  refine ⟨fun _ => ⟨[0, 1, 2, 3], rfl, rfl⟩, ?_⟩
  refine JT.only (i := 24) (d := some 30) rfl (MV.ofQV (v := .int .i64 (IntKind.wrap .i64 (x8 + (2 : Int)))) (QV.add rfl rfl)) rfl rfl rfl ?_
  rintro _ _ ⟨rfl, rfl⟩
  refine ⟨fun _ => ⟨[0, 1, 2, 3], rfl, rfl⟩, ?_⟩
  obtain ⟨h12, hm⟩ := guard_inv hm
  refine JT.only (i := 25) (d := some 31) rfl (MV.ofQV (v := .pointer (some (elA (s2.v) (Int.toNat (IntKind.wrap .i64 (x8 + (2 : Int))) * ((Enc.int .u8)).sz)))) (QV.indexA (Rdg.vw 3 rfl) Try.underlying26 tk_5 rfl rfl h12)) rfl rfl rfl ?_
  rintro _ _ ⟨rfl, rfl⟩
  refine ⟨fun _ => ⟨[0, 1, 2, 3], rfl, rfl⟩, ?_⟩
  refine JT.only (i := 26) (d := some 32) rfl (MV.ofQV (v := .int .u8 (gd x3 (IntKind.wrap .i64 (x8 + (2 : Int))))) (QV.el1 (Rdg.vw 3 rfl) tk_5 rfl h12 rfl)) rfl rfl rfl ?_
  rintro _ _ ⟨rfl, rfl⟩
  refine ⟨fun _ => ⟨[0, 1, 2, 3], rfl, rfl⟩, ?_⟩
  refine JT.only (i := 27) (d := some 33) rfl (MV.ofQV (v := .int .u32 (IntKind.wrap .u32 (gd x3 (IntKind.wrap .i64 (x8 + (2 : Int)))))) (QV.conv rfl (by rw [Try.underlying5]; rfl) Try.underlying42)) rfl rfl rfl ?_
  rintro _ _ ⟨rfl, rfl⟩
  refine ⟨fun _ => ⟨[0, 1, 2, 3], rfl, rfl⟩, ?_⟩
  refine JT.only (i := 28) (d := some 34) rfl (MV.ofQV (v := .int .u32 (shlI .u32 (IntKind.wrap .u32 (gd x3 (IntKind.wrap .i64 (x8 + (2 : Int))))) (16 : Int))) (QV.shl rfl rfl (by decide))) rfl rfl rfl ?_
  rintro _ _ ⟨rfl, rfl⟩
  refine ⟨fun _ => ⟨[0, 1, 2, 3], rfl, rfl⟩, ?_⟩
  refine JT.only (i := 29) (d := some 35) rfl (MV.ofQV (v := .int .u32 (orI .u32 (orI .u32 (IntKind.wrap .u32 (gd x3 x8)) (shlI .u32 (IntKind.wrap .u32 (gd x3 (IntKind.wrap .i64 (x8 + (1 : Int))))) (8 : Int))) (shlI .u32 (IntKind.wrap .u32 (gd x3 (IntKind.wrap .i64 (x8 + (2 : Int))))) (16 : Int)))) (QV.or rfl rfl)) rfl rfl rfl ?_
  rintro _ _ ⟨rfl, rfl⟩
  refine ⟨fun _ => ⟨[0, 1, 2, 3], rfl, rfl⟩, ?_⟩
  refine JT.only (i := 30) (d := some 5) rfl (MV.ofQV (v := .int .u32 (orI .u32 (orI .u32 (IntKind.wrap .u32 (gd x3 x8)) (shlI .u32 (IntKind.wrap .u32 (gd x3 (IntKind.wrap .i64 (x8 + (1 : Int))))) (8 : Int))) (shlI .u32 (IntKind.wrap .u32 (gd x3 (IntKind.wrap .i64 (x8 + (2 : Int))))) (16 : Int)))) (QV.assign rfl)) rfl rfl rfl ?_
  rintro _ _ ⟨rfl, rfl⟩
  refine ⟨fun _ => ⟨[0, 1, 2, 3], rfl, rfl⟩, ?_⟩
  refine JT.nil ?_
  refine QJ.then_normal ?_
  refine JC.seq ?_
  refine JC.region ?_
  refine JL.val (v := .int .u32 (orI .u32 (orI .u32 (IntKind.wrap .u32 (gd x3 x8)) (shlI .u32 (IntKind.wrap .u32 (gd x3 (IntKind.wrap .i64 (x8 + (1 : Int))))) (8 : Int))) (shlI .u32 (IntKind.wrap .u32 (gd x3 (IntKind.wrap .i64 (x8 + (2 : Int))))) (16 : Int)))) (QV.move rfl) rfl rfl rfl ?_
  refine JL.val (v := .int .u32 (IntKind.wrap .u32 ((orI .u32 (orI .u32 (IntKind.wrap .u32 (gd x3 x8)) (shlI .u32 (IntKind.wrap .u32 (gd x3 (IntKind.wrap .i64 (x8 + (1 : Int))))) (8 : Int))) (shlI .u32 (IntKind.wrap .u32 (gd x3 (IntKind.wrap .i64 (x8 + (2 : Int))))) (16 : Int))) * (2654435761 : Int)))) (QV.mul rfl rfl) rfl rfl rfl ?_
  refine JL.val (v := .int .u32 (shrI .u32 (IntKind.wrap .u32 ((orI .u32 (orI .u32 (IntKind.wrap .u32 (gd x3 x8)) (shlI .u32 (IntKind.wrap .u32 (gd x3 (IntKind.wrap .i64 (x8 + (1 : Int))))) (8 : Int))) (shlI .u32 (IntKind.wrap .u32 (gd x3 (IntKind.wrap .i64 (x8 + (2 : Int))))) (16 : Int))) * (2654435761 : Int))) (20 : Int))) (QV.shr rfl rfl (by decide)) rfl rfl rfl ?_
  refine JL.val (v := .int .i64 (IntKind.wrap .i64 (shrI .u32 (IntKind.wrap .u32 ((orI .u32 (orI .u32 (IntKind.wrap .u32 (gd x3 x8)) (shlI .u32 (IntKind.wrap .u32 (gd x3 (IntKind.wrap .i64 (x8 + (1 : Int))))) (8 : Int))) (shlI .u32 (IntKind.wrap .u32 (gd x3 (IntKind.wrap .i64 (x8 + (2 : Int))))) (16 : Int))) * (2654435761 : Int))) (20 : Int)))) (QV.conv rfl (by rw [Try.underlying42]; rfl) Try.underlying3) rfl rfl rfl ?_
  refine JL.val (v := .int .i64 (IntKind.wrap .i64 (shrI .u32 (IntKind.wrap .u32 ((orI .u32 (orI .u32 (IntKind.wrap .u32 (gd x3 x8)) (shlI .u32 (IntKind.wrap .u32 (gd x3 (IntKind.wrap .i64 (x8 + (1 : Int))))) (8 : Int))) (shlI .u32 (IntKind.wrap .u32 (gd x3 (IntKind.wrap .i64 (x8 + (2 : Int))))) (16 : Int))) * (2654435761 : Int))) (20 : Int)))) (QV.assign rfl) rfl rfl rfl ?_
  refine JL.nil ?_
  refine QJ.then_normal ?_
  refine JC.ret ?_
  obtain rfl := Option.some.inj hm
  exact QJ.body (vs := [.int .i64 (IntKind.wrap .i64 (shrI .u32 (IntKind.wrap .u32 ((orI .u32 (orI .u32 (IntKind.wrap .u32 (gd x3 x8)) (shlI .u32 (IntKind.wrap .u32 (gd x3 (IntKind.wrap .i64 (x8 + (1 : Int))))) (8 : Int))) (shlI .u32 (IntKind.wrap .u32 (gd x3 (IntKind.wrap .i64 (x8 + (2 : Int))))) (16 : Int))) * (2654435761 : Int))) (20 : Int)))]) (.inl rfl) rfl (ResVs.cons (ResV.tmp rfl) ResVs.nil) [1, 2, 3, 0] rfl rfl (.inl rfl) ⟨rfl, rfl⟩

/-! ### 70: (*drogher/lz.chains).same -/
noncomputable def F70.j1  (d11 : Int) : Option Int :=
  some d11
noncomputable def F70.b1 (x3 : List Int) (x8 : Int) (x9 : Int) : Int → Option (Int ⊕ Int)
  | d12 => (if d12 < (minI (IntKind.wrap .i64 (((x3).length : Int) - x9)) (258 : Int)) then (if 0 ≤ (IntKind.wrap .i64 (x8 + d12)) ∧ (IntKind.wrap .i64 (x8 + d12)) < ((x3).length : Int) then (if 0 ≤ (IntKind.wrap .i64 (x9 + d12)) ∧ (IntKind.wrap .i64 (x9 + d12)) < ((x3).length : Int) then (if (gd x3 (IntKind.wrap .i64 (x8 + d12))) = (gd x3 (IntKind.wrap .i64 (x9 + d12))) then some (.inl (IntKind.wrap .i64 (d12 + (1 : Int)))) else some (.inr d12)) else none) else none) else some (.inr d12))
noncomputable def F70.m (x3 : List Int) (x5 : List Int) (x7 : List Int) (x8 : Int) (x9 : Int) : Option Int :=
  ((loop (F70.b1 x3 x8 x9) (0 : Int)).bind fun y => match y with | d11 => F70.j1 (d11))
set_option maxRecDepth 100000 in
set_option maxHeartbeats 4000000 in
theorem F70.spec (b1 : Nat) (s2 : SlV) (s4 : SlV) (s6 : SlV) (x3 : List Int) (x5 : List Int) (x7 : List Int) (x8 : Int) (x9 : Int) (r : Int) (hm : F70.m x3 x5 x7 x8 x9 = some r) :
    Ctr Try.prog true 70 [.pointer (some ⟨b1, 0, none⟩), .int .i64 x8, .int .i64 x9] [Asr.blk b1 81 [Seg.c (s2.v), Seg.c (s4.v), Seg.c (s6.v)], Asr.of 3 (Enc.int .i64) (s4.v) x5, Asr.of 3 (Enc.int .i64) (s6.v) x7, Asr.vw (Enc.int .u8) (s2.v) x3] (fun v L' => v = .int .i64 r ∧ L' = [Asr.of 3 (Enc.int .i64) (s4.v) x5, Asr.of 3 (Enc.int .i64) (s6.v) x7, Asr.vw (Enc.int .u8) (s2.v) x3, Asr.blk b1 81 [Seg.c (s2.v), Seg.c (s4.v), Seg.c (s6.v)]]) := by
  refine Ctr.intro (n := 44) (env := [(0, .pointer (some ⟨b1, 0, none⟩)), (1, .int .i64 x8), (2, .int .i64 x9)]) Try.func70 rfl rfl rfl rfl (fun c => ?_)
  unfold F70.m at hm
  refine JC.seq ?_
  refine JC.region ?_
  refine JL.val (v := .int .i64 (0 : Int)) (QV.assign rfl) rfl rfl rfl ?_
  refine JL.nil ?_
  refine QJ.then_normal ?_
  refine JC.seq ?_
  refine JC.region ?_
  refine JL.val (v := .pointer (some ⟨b1, 0, none⟩)) (QV.move rfl) rfl rfl rfl ?_
  refine JL.val (v := .pointer (some ⟨b1, 0, none⟩)) (QV.nilCheck rfl) rfl rfl rfl ?_
  refine JL.val (v := .pointer (some ⟨b1, 0, none⟩)) (QV.fieldB fo_81_0 rfl rfl) rfl rfl rfl ?_
  refine JL.val (v := s2.v) (QV.load1 (ss := [Seg.c (s2.v), Seg.c (s4.v), Seg.c (s6.v)]) 0 0 rfl tk_26 rfl rfl rfl) rfl rfl rfl ?_
  refine JL.val (v := .int .i64 ((x3).length : Int)) (QV.len (Rdg.vw 3 rfl) Try.underlying26 rfl) rfl rfl rfl ?_
  refine JL.val (v := .int .i64 x9) (QV.move rfl) rfl rfl rfl ?_
  refine JL.val (v := .int .i64 (IntKind.wrap .i64 (((x3).length : Int) - x9))) (QV.sub rfl rfl) rfl rfl rfl ?_
  refine JL.val (v := .int .i64 (minI (IntKind.wrap .i64 (((x3).length : Int) - x9)) (258 : Int))) (QV.min2 rfl rfl) rfl rfl rfl ?_
  refine JL.val (v := .int .i64 (minI (IntKind.wrap .i64 (((x3).length : Int) - x9)) (258 : Int))) (QV.assign rfl) rfl rfl rfl ?_
  refine JL.nil ?_
  refine QJ.then_normal ?_
  refine JC.seq ?_
  refine JC.region ?_
  refine JL.val (v := .int .i64 (0 : Int)) (QV.assign rfl) rfl rfl rfl ?_
  refine JL.nil ?_
  refine QJ.then_normal ?_
  refine JC.seq ?_
  refine JC.cutK (Y := Int × Unit) (fun y => match y with | (d11, _) => F70.j1 (d11) = some r) (fun y => match y with | (d11, _) => [(8, .int .i64 d11)]) (fun y => match y with | (d11, _) => [Asr.of 3 (Enc.int .i64) (s4.v) x5, Asr.of 3 (Enc.int .i64) (s6.v) x7, Asr.vw (Enc.int .u8) (s2.v) x3, Asr.blk b1 81 [Seg.c (s2.v), Seg.c (s4.v), Seg.c (s6.v)]]) ?_ ?_
  ·
    rintro ⟨d11, ⟨⟩⟩ hm
    unfold F70.j1 at hm
    show QJ _ _ [(8, .int .i64 d11)] [Asr.of 3 (Enc.int .i64) (s4.v) x5, Asr.of 3 (Enc.int .i64) (s6.v) x7, Asr.vw (Enc.int .u8) (s2.v) x3, Asr.blk b1 81 [Seg.c (s2.v), Seg.c (s4.v), Seg.c (s6.v)]] _ _
    refine QJ.then_normal ?_
    refine JC.seq ?_
    refine JC.region ?_
    refine JL.val (v := .int .i64 d11) (QV.move rfl) rfl rfl rfl ?_
    refine JL.val (v := .int .i64 d11) (QV.assign rfl) rfl rfl rfl ?_
    refine JL.nil ?_
    refine QJ.then_normal ?_
    refine JC.ret ?_
    obtain rfl := Option.some.inj hm
    exact QJ.body (vs := [.int .i64 d11]) (.inl rfl) rfl (ResVs.cons (ResV.tmp rfl) ResVs.nil) [0, 1, 2, 3] rfl rfl (.inl rfl) ⟨rfl, rfl⟩
  ·
    refine JC.block ?_
    obtain ⟨y14, hl15, hmo16⟩ := bind_inv hm
    refine JC.loop (F70.b1 x3 x8 x9) (fun x z => match x, z with | d12, _ => [(0, .pointer (some ⟨b1, 0, none⟩)), (1, .int .i64 x8), (2, .int .i64 x9), (7, .int .i64 (minI (IntKind.wrap .i64 (((x3).length : Int) - x9)) (258 : Int))), (8, .int .i64 d12)]) (fun x z => match x, z with | d12, _ => [Asr.vw (Enc.int .u8) (s2.v) x3, Asr.of 3 (Enc.int .i64) (s4.v) x5, Asr.of 3 (Enc.int .i64) (s6.v) x7, Asr.blk b1 81 [Seg.c (s2.v), Seg.c (s4.v), Seg.c (s6.v)]]) (0 : Int) () y14 hl15 [3, 1, 2, 0] (by exact ⟨rfl, rfl, rfl, rfl, rfl, trivial⟩) rfl rfl ?_
    rintro d12 ⟨⟩ s17 hm
    unfold F70.b1 at hm
    dsimp only at hm
    show JC _ _ _ [(0, .pointer (some ⟨b1, 0, none⟩)), (1, .int .i64 x8), (2, .int .i64 x9), (7, .int .i64 (minI (IntKind.wrap .i64 (((x3).length : Int) - x9)) (258 : Int))), (8, .int .i64 d12)] [Asr.vw (Enc.int .u8) (s2.v) x3, Asr.of 3 (Enc.int .i64) (s4.v) x5, Asr.of 3 (Enc.int .i64) (s6.v) x7, Asr.blk b1 81 [Seg.c (s2.v), Seg.c (s4.v), Seg.c (s6.v)]] _ _
    refine JC.seq ?_
    refine JC.seq ?_
    refine JC.regionT [Asr.vw (Enc.int .u8) (s2.v) x3, Asr.of 3 (Enc.int .i64) (s4.v) x5, Asr.of 3 (Enc.int .i64) (s6.v) x7, Asr.blk b1 81 [Seg.c (s2.v), Seg.c (s4.v), Seg.c (s6.v)]] (fun t => false) [(0, true), (1, false), (2, false), (3, false), (4, true), (5, true), (6, true), (7, true), (8, true), (9, true), (10, true), (11, true), (12, true), (13, true), (14, true), (15, true), (16, true), (17, true), (18, false), (19, false), (20, false), (21, false), (22, false), (23, false)] (by kernel_rfl) (by kernel_rfl) (by kernel_rfl) rfl (fun hsel => ?_)
    refine JT.take (i := 0) (v := .int .i64 d12) hsel rfl (QV.move rfl) rfl rfl rfl [0, 1, 2, 3] rfl rfl ?_
    refine JT.only (i := 1) (d := some 18) rfl (MV.ofQV (v := .int .i64 (minI (IntKind.wrap .i64 (((x3).length : Int) - x9)) (258 : Int))) (QV.move rfl)) rfl rfl rfl ?_
    rintro _ _ ⟨rfl, rfl⟩
    refine ⟨fun _ => ⟨[0, 1, 2, 3], rfl, rfl⟩, ?_⟩
    refine JT.only (i := 2) (d := some 19) rfl (MV.ofQV (v := .bool (decide (d12 < (minI (IntKind.wrap .i64 (((x3).length : Int) - x9)) (258 : Int))))) (QV.lss rfl rfl)) rfl rfl rfl ?_
    rintro _ _ ⟨rfl, rfl⟩
    refine ⟨fun _ => ⟨[0, 1, 2, 3], rfl, rfl⟩, ?_⟩
    rcases ite_inv hm with ⟨h18, hm⟩ | ⟨h18, hm⟩
    ·
      refine JT.only (i := 3) (d := some 20) rfl (MV.ofQV (v := .bool true) (QV.eq (QV.move rfl) (congrArg Value.bool (decide_eq_true h18)))) rfl rfl rfl ?_
      rintro _ _ ⟨rfl, rfl⟩
      refine ⟨fun _ => ⟨[0, 1, 2, 3], rfl, rfl⟩, ?_⟩
      refine JT.take (i := 4) (v := .pointer (some ⟨b1, 0, none⟩)) hsel rfl (QV.move rfl) rfl rfl rfl [0, 1, 2, 3] rfl rfl ?_
      refine JT.take (i := 5) (v := .pointer (some ⟨b1, 0, none⟩)) hsel rfl (QV.nilCheck rfl) rfl rfl rfl [0, 1, 2, 3] rfl rfl ?_
      refine JT.take (i := 6) (v := .pointer (some ⟨b1, 0, none⟩)) hsel rfl (QV.fieldB fo_81_0 rfl rfl) rfl rfl rfl [0, 1, 2, 3] rfl rfl ?_
      refine JT.take (i := 7) (v := s2.v) hsel rfl (QV.load1 (ss := [Seg.c (s2.v), Seg.c (s4.v), Seg.c (s6.v)]) 3 0 rfl tk_26 rfl rfl rfl) rfl rfl rfl [0, 1, 2, 3] rfl rfl ?_
      refine JT.take (i := 8) (v := .int .i64 x8) hsel rfl (QV.move rfl) rfl rfl rfl [0, 1, 2, 3] rfl rfl ?_
      refine JT.take (i := 9) (v := .int .i64 d12) hsel rfl (QV.move rfl) rfl rfl rfl [0, 1, 2, 3] rfl rfl ?_
      refine JT.take (i := 10) (v := .int .i64 (IntKind.wrap .i64 (x8 + d12))) hsel rfl (QV.add rfl rfl) rfl rfl rfl [0, 1, 2, 3] rfl rfl ?_
      obtain ⟨h19, hm⟩ := guard_inv hm
      refine JT.take (i := 11) (v := .pointer (some (elA (s2.v) (Int.toNat (IntKind.wrap .i64 (x8 + d12)) * ((Enc.int .u8)).sz)))) hsel rfl (QV.indexA (Rdg.vw 0 rfl) Try.underlying26 tk_5 rfl rfl h19) rfl rfl rfl [0, 1, 2, 3] rfl rfl ?_
      refine JT.take (i := 12) (v := .int .u8 (gd x3 (IntKind.wrap .i64 (x8 + d12)))) hsel rfl (QV.el1 (Rdg.vw 0 rfl) tk_5 rfl h19 rfl) rfl rfl rfl [0, 1, 2, 3] rfl rfl ?_
      refine JT.take (i := 13) (v := .pointer (some ⟨b1, 0, none⟩)) hsel rfl (QV.move rfl) rfl rfl rfl [0, 1, 2, 3] rfl rfl ?_
      refine JT.take (i := 14) (v := .pointer (some ⟨b1, 0, none⟩)) hsel rfl (QV.nilCheck rfl) rfl rfl rfl [0, 1, 2, 3] rfl rfl ?_
      refine JT.take (i := 15) (v := .pointer (some ⟨b1, 0, none⟩)) hsel rfl (QV.fieldB fo_81_0 rfl rfl) rfl rfl rfl [0, 1, 2, 3] rfl rfl ?_
      refine JT.take (i := 16) (v := s2.v) hsel rfl (QV.load1 (ss := [Seg.c (s2.v), Seg.c (s4.v), Seg.c (s6.v)]) 3 0 rfl tk_26 rfl rfl rfl) rfl rfl rfl [0, 1, 2, 3] rfl rfl ?_
      refine JT.take (i := 17) (v := .int .i64 x9) hsel rfl (QV.move rfl) rfl rfl rfl [0, 1, 2, 3] rfl rfl ?_
      refine JT.only (i := 18) (d := some 35) rfl (MV.ofQV (v := .int .i64 d12) (QV.move rfl)) rfl rfl rfl ?_
      rintro _ _ ⟨rfl, rfl⟩
      refine ⟨fun _ => ⟨[0, 1, 2, 3], rfl, rfl⟩, ?_⟩
      refine JT.only (i := 19) (d := some 36) rfl (MV.ofQV (v := .int .i64 (IntKind.wrap .i64 (x9 + d12))) (QV.add rfl rfl)) rfl rfl rfl ?_
      rintro _ _ ⟨rfl, rfl⟩
      refine ⟨fun _ => ⟨[0, 1, 2, 3], rfl, rfl⟩, ?_⟩
      obtain ⟨h20, hm⟩ := guard_inv hm
      refine JT.only (i := 20) (d := some 37) rfl (MV.ofQV (v := .pointer (some (elA (s2.v) (Int.toNat (IntKind.wrap .i64 (x9 + d12)) * ((Enc.int .u8)).sz)))) (QV.indexA (Rdg.vw 0 rfl) Try.underlying26 tk_5 rfl rfl h20)) rfl rfl rfl ?_
      rintro _ _ ⟨rfl, rfl⟩
      refine ⟨fun _ => ⟨[0, 1, 2, 3], rfl, rfl⟩, ?_⟩
      refine JT.only (i := 21) (d := some 38) rfl (MV.ofQV (v := .int .u8 (gd x3 (IntKind.wrap .i64 (x9 + d12)))) (QV.el1 (Rdg.vw 0 rfl) tk_5 rfl h20 rfl)) rfl rfl rfl ?_
      rintro _ _ ⟨rfl, rfl⟩
      refine ⟨fun _ => ⟨[0, 1, 2, 3], rfl, rfl⟩, ?_⟩
      refine JT.only (i := 22) (d := some 39) rfl (MV.ofQV (v := .bool (decide ((gd x3 (IntKind.wrap .i64 (x8 + d12))) = (gd x3 (IntKind.wrap .i64 (x9 + d12)))))) (QV.eql rfl rfl)) rfl rfl rfl ?_
      rintro _ _ ⟨rfl, rfl⟩
      refine ⟨fun _ => ⟨[0, 1, 2, 3], rfl, rfl⟩, ?_⟩
      refine JT.only (i := 23) (d := some 40) rfl (MV.ofQV (v := .bool (decide ((gd x3 (IntKind.wrap .i64 (x8 + d12))) = (gd x3 (IntKind.wrap .i64 (x9 + d12)))))) (QV.pickT rfl rfl)) rfl rfl rfl ?_
      rintro _ _ ⟨rfl, rfl⟩
      refine ⟨fun _ => ⟨[0, 1, 2, 3], rfl, rfl⟩, ?_⟩
      refine JT.nil ?_
      refine QJ.then_normal ?_
      rcases ite_inv hm with ⟨h21, hm⟩ | ⟨h21, hm⟩
      ·
        refine JC.condT' rfl (decide_eq_true h21) ?_
        refine JC.skip ?_
        refine QJ.then_normal ?_
        refine JC.block ?_
        refine JC.region ?_
        refine JL.val (v := .int .i64 d12) (QV.move rfl) rfl rfl rfl ?_
        refine JL.val (v := .int .i64 (IntKind.wrap .i64 (d12 + (1 : Int)))) (QV.add rfl rfl) rfl rfl rfl ?_
        refine JL.val (v := .int .i64 (IntKind.wrap .i64 (d12 + (1 : Int)))) (QV.assign rfl) rfl rfl rfl ?_
        refine JL.nil ?_
        refine QJ.block_normal ?_
        obtain rfl := Option.some.inj hm
        exact QJ.round_on (IntKind.wrap .i64 (d12 + (1 : Int))) () [0, 1, 2, 3] (by exact ⟨rfl, rfl, rfl, rfl, rfl, trivial⟩) rfl rfl
      ·
        refine JC.condF' rfl (decide_eq_false h21) ?_
        refine JC.exit ?_
        refine QJ.then_exit ?_
        obtain rfl := Option.some.inj hm
        refine QJ.round_exit (fun hy => ?_)
        subst hy
        refine QJ.block_hit ?_
        exact QJ.cut_normal (d12, ()) hmo16 [1, 2, 0, 3] (by exact ⟨rfl, trivial⟩) rfl rfl
    ·
      refine JT.only (i := 3) (d := some 20) rfl (MV.ofQV (v := .bool false) (QV.eq (QV.move rfl) (congrArg Value.bool (decide_eq_false h18)))) rfl rfl rfl ?_
      rintro _ _ ⟨rfl, rfl⟩
      refine ⟨fun _ => ⟨[0, 1, 2, 3], rfl, rfl⟩, ?_⟩
      refine JT.skip (i := 4) (d := some 21) hsel rfl rfl rfl rfl [0, 1, 2, 3] rfl rfl ?_
      refine JT.skip (i := 5) (d := some 22) hsel rfl rfl rfl rfl [0, 1, 2, 3] rfl rfl ?_
      refine JT.skip (i := 6) (d := some 23) hsel rfl rfl rfl rfl [0, 1, 2, 3] rfl rfl ?_
      refine JT.skip (i := 7) (d := some 24) hsel rfl rfl rfl rfl [0, 1, 2, 3] rfl rfl ?_
      refine JT.skip (i := 8) (d := some 25) hsel rfl rfl rfl rfl [0, 1, 2, 3] rfl rfl ?_
      refine JT.skip (i := 9) (d := some 26) hsel rfl rfl rfl rfl [0, 1, 2, 3] rfl rfl ?_
      refine JT.skip (i := 10) (d := some 27) hsel rfl rfl rfl rfl [0, 1, 2, 3] rfl rfl ?_
      refine JT.skip (i := 11) (d := some 28) hsel rfl rfl rfl rfl [0, 1, 2, 3] rfl rfl ?_
      refine JT.skip (i := 12) (d := some 29) hsel rfl rfl rfl rfl [0, 1, 2, 3] rfl rfl ?_
      refine JT.skip (i := 13) (d := some 30) hsel rfl rfl rfl rfl [0, 1, 2, 3] rfl rfl ?_
      refine JT.skip (i := 14) (d := some 31) hsel rfl rfl rfl rfl [0, 1, 2, 3] rfl rfl ?_
      refine JT.skip (i := 15) (d := some 32) hsel rfl rfl rfl rfl [0, 1, 2, 3] rfl rfl ?_
      refine JT.skip (i := 16) (d := some 33) hsel rfl rfl rfl rfl [0, 1, 2, 3] rfl rfl ?_
      refine JT.skip (i := 17) (d := some 34) hsel rfl rfl rfl rfl [0, 1, 2, 3] rfl rfl ?_
      refine JT.skipO (i := 18) (d := some 35) rfl rfl rfl rfl [0, 1, 2, 3] rfl rfl ?_
      refine JT.skipO (i := 19) (d := some 36) rfl rfl rfl rfl [0, 1, 2, 3] rfl rfl ?_
      refine JT.skipO (i := 20) (d := some 37) rfl rfl rfl rfl [0, 1, 2, 3] rfl rfl ?_
      refine JT.skipO (i := 21) (d := some 38) rfl rfl rfl rfl [0, 1, 2, 3] rfl rfl ?_
      refine JT.skipO (i := 22) (d := some 39) rfl rfl rfl rfl [0, 1, 2, 3] rfl rfl ?_
      refine JT.only (i := 23) (d := some 40) rfl (MV.ofQV (v := .bool false) (QV.pickF rfl rfl)) rfl rfl rfl ?_
      rintro _ _ ⟨rfl, rfl⟩
      refine ⟨fun _ => ⟨[0, 1, 2, 3], rfl, rfl⟩, ?_⟩
      refine JT.nil ?_
      refine QJ.then_normal ?_
      refine JC.condF rfl ?_
      refine JC.exit ?_
      refine QJ.then_exit ?_
      obtain rfl := Option.some.inj hm
      refine QJ.round_exit (fun hy => ?_)
      subst hy
      refine QJ.block_hit ?_
      exact QJ.cut_normal (d12, ()) hmo16 [1, 2, 0, 3] (by exact ⟨rfl, trivial⟩) rfl rfl

/-! ### 56: (*drogher/lz.chains).longest -/
noncomputable def F56.j1  (d18 : Int) (d19 : Int) : Option (Int × Int) :=
  some (d18, d19)
noncomputable def F56.j2 (x7 : List Int) (d20 : Int) (d23 : Int) (d35 : Int) (d36 : Int) : Option ((Int × Int × Int × Int) ⊕ (Int × Int)) :=
  some (.inl ((IntKind.wrap .i64 (d20 - (1 : Int))), d35, d36, (IntKind.wrap .i64 ((gd x7 d23) - (1 : Int)))))
noncomputable def F56.j3 (x7 : List Int) (d20 : Int) (d23 : Int) (d40 : Int) (d41 : Int) : Option ((Int × Int × Int × Int) ⊕ (Int × Int)) :=
  (if 0 ≤ d23 ∧ d23 < ((x7).length : Int) then F56.j2 x7 d20 d23 (d40) (d41) else none)
noncomputable def F56.b1 (x3 : List Int) (x5 : List Int) (x7 : List Int) (x8 : Int) : (Int × Int × Int × Int) → Option ((Int × Int × Int × Int) ⊕ (Int × Int))
  | (d20, d21, d22, d23) => (if (0 : Int) ≤ d23 then (if (IntKind.wrap .i64 (x8 - d23)) ≤ (32768 : Int) then (if (0 : Int) < d20 then ((F70.m (x3) (x5) (x7) (d23) (x8)).bind fun y37 => (if (3 : Int) ≤ y37 then (if d21 < y37 then F56.j3 x7 d20 d23 (y37) ((IntKind.wrap .i64 (x8 - d23))) else F56.j3 x7 d20 d23 (d21) (d22)) else (if 0 ≤ d23 ∧ d23 < ((x7).length : Int) then F56.j2 x7 d20 d23 (d21) (d22) else none))) else some (.inr (d21, d22))) else some (.inr (d21, d22))) else some (.inr (d21, d22)))
noncomputable def F56.m (x3 : List Int) (x5 : List Int) (x7 : List Int) (x8 : Int) (x9 : Int) : Option (Int × Int) :=
  (if ((x3).length : Int) < (IntKind.wrap .i64 (x8 + (3 : Int))) then some ((0 : Int), (0 : Int)) else ((F69.m (x3) (x5) (x7) (x8)).bind fun y15 => (if 0 ≤ y15 ∧ y15 < ((x5).length : Int) then ((loop (F56.b1 x3 x5 x7 x8) (x9, (0 : Int), (0 : Int), (IntKind.wrap .i64 ((gd x5 y15) - (1 : Int))))).bind fun y => match y with | (d18, d19) => F56.j1 (d18) (d19)) else none)))
set_option maxRecDepth 100000 in
set_option maxHeartbeats 4000000 in
theorem F56.spec (b1 : Nat) (s2 : SlV) (s4 : SlV) (s6 : SlV) (x3 : List Int) (x5 : List Int) (x7 : List Int) (x8 : Int) (x9 : Int) (r : (Int × Int)) (hm : F56.m x3 x5 x7 x8 x9 = some r) :
    Ctr Try.prog true 56 [.pointer (some ⟨b1, 0, none⟩), .int .i64 x8, .int .i64 x9] [Asr.blk b1 81 [Seg.c (s2.v), Seg.c (s4.v), Seg.c (s6.v)], Asr.of 3 (Enc.int .i64) (s4.v) x5, Asr.of 3 (Enc.int .i64) (s6.v) x7, Asr.vw (Enc.int .u8) (s2.v) x3] (fun v L' => v = .agg #[.int .u8 (0 : Int), .int .i64 r.1, .int .i64 r.2] ∧ L' = [Asr.of 3 (Enc.int .i64) (s4.v) x5, Asr.of 3 (Enc.int .i64) (s6.v) x7, Asr.vw (Enc.int .u8) (s2.v) x3, Asr.blk b1 81 [Seg.c (s2.v), Seg.c (s4.v), Seg.c (s6.v)]]) := by
  refine Ctr.intro (n := 69) (env := [(0, .pointer (some ⟨b1, 0, none⟩)), (1, .int .i64 x8), (2, .int .i64 x9)]) Try.func56 rfl rfl rfl rfl (fun c => ?_)
  unfold F56.m at hm
  refine JC.seq ?_
  refine JC.region ?_
  refine JL.mv (d := some 6) (MV.alloc [Seg.c (.int .u8 (0 : Int)), Seg.c (.int .i64 (0 : Int)), Seg.c (.int .i64 (0 : Int))] z_23 rfl) rfl rfl rfl ?_
  rintro _ _ ⟨b12, rfl, rfl⟩
  refine JL.nil ?_
  refine QJ.then_normal ?_
  refine JC.seq ?_
  refine JC.region ?_
  refine JL.mv (d := some 7) (MV.alloc [Seg.c (.int .u8 (0 : Int)), Seg.c (.int .i64 (0 : Int)), Seg.c (.int .i64 (0 : Int))] z_23 rfl) rfl rfl rfl ?_
  rintro _ _ ⟨b13, rfl, rfl⟩
  refine JL.nil ?_
  refine QJ.then_normal ?_
  refine JC.seq ?_
  refine JC.seq ?_
  refine JC.region ?_
  refine JL.val (v := .int .i64 x8) (QV.move rfl) rfl rfl rfl ?_
  refine JL.val (v := .int .i64 (IntKind.wrap .i64 (x8 + (3 : Int)))) (QV.add rfl rfl) rfl rfl rfl ?_
  refine JL.val (v := .pointer (some ⟨b1, 0, none⟩)) (QV.move rfl) rfl rfl rfl ?_
  refine JL.val (v := .pointer (some ⟨b1, 0, none⟩)) (QV.nilCheck rfl) rfl rfl rfl ?_
  refine JL.val (v := .pointer (some ⟨b1, 0, none⟩)) (QV.fieldB fo_81_0 rfl rfl) rfl rfl rfl ?_
  refine JL.val (v := s2.v) (QV.load1 (ss := [Seg.c (s2.v), Seg.c (s4.v), Seg.c (s6.v)]) 2 0 rfl tk_26 rfl rfl rfl) rfl rfl rfl ?_
  refine JL.val (v := .int .i64 ((x3).length : Int)) (QV.len (Rdg.vw 5 rfl) Try.underlying26 rfl) rfl rfl rfl ?_
  refine JL.val (v := .bool (decide (((x3).length : Int) < (IntKind.wrap .i64 (x8 + (3 : Int)))))) (QV.gtr rfl rfl) rfl rfl rfl ?_
  refine JL.nil ?_
  refine QJ.then_normal ?_
  rcases ite_inv hm with ⟨h14, hm⟩ | ⟨h14, hm⟩
  ·
    refine JC.condT' rfl (decide_eq_true h14) ?_
    refine JC.seq ?_
    refine JC.region ?_
    refine JL.val (v := .agg #[.int .u8 (0 : Int), .int .i64 (0 : Int), .int .i64 (0 : Int)]) (QV.eq (QV.loadN (ss := [Seg.c (.int .u8 (0 : Int)), Seg.c (.int .i64 (0 : Int)), Seg.c (.int .i64 (0 : Int))]) 0 0 3 rfl tk_23 rfl rfl rfl rfl) rfl) rfl rfl rfl ?_
    refine JL.mv (d := none) (MV.store (ss := [Seg.c (.int .u8 (0 : Int)), Seg.c (.int .i64 (0 : Int)), Seg.c (.int .i64 (0 : Int))]) 1 0 3 [Seg.c (.int .u8 (0 : Int)), Seg.c (.int .i64 (0 : Int)), Seg.c (.int .i64 (0 : Int))] rfl tk_23 rfl rfl rfl rfl (fun w hs => ⟨rfl, one_c rfl, one_c rfl, one_c rfl, trivial⟩)) rfl rfl rfl ?_
    rintro _ _ ⟨rfl, rfl⟩
    refine JL.nil ?_
    refine QJ.then_normal ?_
    refine JC.ret ?_
    refine QJ.then_ret ?_
    obtain rfl := Option.some.inj hm
    exact QJ.body (vs := [.agg #[.int .u8 (0 : Int), .int .i64 (0 : Int), .int .i64 (0 : Int)]]) (.inl rfl) rfl (ResVs.cons (ResV.cell (d := none) (ty := 0) (ps := "") (af := #[]) (g := none) rfl (QV.eq (QV.loadN (ss := [Seg.c (.int .u8 (0 : Int)), Seg.c (.int .i64 (0 : Int)), Seg.c (.int .i64 (0 : Int))]) 1 0 3 rfl tk_23 rfl rfl rfl rfl) rfl)) ResVs.nil) [3, 4, 5, 2] rfl rfl (.inl rfl) ⟨rfl, rfl⟩
  ·
    refine JC.condF' rfl (decide_eq_false h14) ?_
    refine JC.skip ?_
    refine QJ.then_normal ?_
    refine JC.seq ?_
    refine JC.seq ?_
    refine JC.regionT [Asr.blk b13 23 [Seg.c (.int .u8 (0 : Int)), Seg.c (.int .i64 (0 : Int)), Seg.c (.int .i64 (0 : Int))], Asr.blk b12 23 [Seg.c (.int .u8 (0 : Int)), Seg.c (.int .i64 (0 : Int)), Seg.c (.int .i64 (0 : Int))], Asr.blk b1 81 [Seg.c (s2.v), Seg.c (s4.v), Seg.c (s6.v)], Asr.of 3 (Enc.int .i64) (s4.v) x5, Asr.of 3 (Enc.int .i64) (s6.v) x7, Asr.vw (Enc.int .u8) (s2.v) x3] (fun t => false) [(0, true), (1, true), (2, true), (3, true), (4, true), (5, false), (6, false), (7, false), (8, false), (9, false), (10, false)] (by kernel_rfl) (by kernel_rfl) (by kernel_rfl) rfl (fun hsel => ?_)
    refine JT.take (i := 0) (v := .pointer (some ⟨b1, 0, none⟩)) hsel rfl (QV.move rfl) rfl rfl rfl [0, 1, 2, 3, 4, 5] rfl rfl ?_
    refine JT.take (i := 1) (v := .pointer (some ⟨b1, 0, none⟩)) hsel rfl (QV.nilCheck rfl) rfl rfl rfl [0, 1, 2, 3, 4, 5] rfl rfl ?_
    refine JT.take (i := 2) (v := .pointer (some ⟨b1, 1, none⟩)) hsel rfl (QV.fieldB fo_81_1 rfl rfl) rfl rfl rfl [0, 1, 2, 3, 4, 5] rfl rfl ?_
    refine JT.take (i := 3) (v := s4.v) hsel rfl (QV.load1 (ss := [Seg.c (s2.v), Seg.c (s4.v), Seg.c (s6.v)]) 2 1 rfl tk_76 rfl rfl rfl) rfl rfl rfl [0, 1, 2, 3, 4, 5] rfl rfl ?_
    refine JT.take (i := 4) (v := .pointer (some ⟨b1, 0, none⟩)) hsel rfl (QV.move rfl) rfl rfl rfl [0, 1, 2, 3, 4, 5] rfl rfl ?_
    refine JT.only (i := 5) (d := some 24) rfl (MV.ofQV (v := .int .i64 x8) (QV.move rfl)) rfl rfl rfl ?_
    rintro _ _ ⟨rfl, rfl⟩
    refine ⟨fun _ => ⟨[0, 1, 2, 3, 4, 5], rfl, rfl⟩, ?_⟩
    obtain ⟨y15, hc16, hm⟩ := bind_inv hm
    refine JT.only (i := 6) (d := some 25) rfl (MV.call (Lo := [Asr.blk b1 81 [Seg.c (s2.v), Seg.c (s4.v), Seg.c (s6.v)], Asr.of 3 (Enc.int .i64) (s4.v) x5, Asr.of 3 (Enc.int .i64) (s6.v) x7]) (Lr := [Asr.blk b13 23 [Seg.c (.int .u8 (0 : Int)), Seg.c (.int .i64 (0 : Int)), Seg.c (.int .i64 (0 : Int))], Asr.blk b12 23 [Seg.c (.int .u8 (0 : Int)), Seg.c (.int .i64 (0 : Int)), Seg.c (.int .i64 (0 : Int))], Asr.vw (Enc.int .u8) (s2.v) x3]) (F69.spec (b1) (s2) (s4) (s6) (x3) (x5) (x7) (x8) _ hc16) rfl Try.func69 rfl rfl rfl [2, 3, 4] [0, 1, 5] rfl rfl rfl ⟨(Drv.vw 2 rfl), trivial⟩) rfl rfl rfl ?_
    rintro _ _ ⟨_, ⟨rfl, rfl⟩, rfl⟩
    refine ⟨fun _ => ⟨[4, 5, 3, 0, 1, 6], rfl, rfl⟩, ?_⟩
    refine JT.grow [Asr.of 3 (Enc.int .i64) (s4.v) x5, Asr.of 3 (Enc.int .i64) (s6.v) x7, Asr.vw (Enc.int .u8) (s2.v) x3, Asr.blk b1 81 [Seg.c (s2.v), Seg.c (s4.v), Seg.c (s6.v)], Asr.blk b13 23 [Seg.c (.int .u8 (0 : Int)), Seg.c (.int .i64 (0 : Int)), Seg.c (.int .i64 (0 : Int))], Asr.blk b12 23 [Seg.c (.int .u8 (0 : Int)), Seg.c (.int .i64 (0 : Int)), Seg.c (.int .i64 (0 : Int))], Asr.vw (Enc.int .u8) (s2.v) x3] [4, 5, 3, 0, 1, 6] rfl rfl ?_
    obtain ⟨h17, hm⟩ := guard_inv hm
    refine JT.only (i := 7) (d := some 26) rfl (MV.ofQV (v := .pointer (some (elA (s4.v) (Int.toNat y15 * ((Enc.int .i64)).sz)))) (QV.indexA (Rdg.of 0 rfl) Try.underlying76 tk_3 rfl rfl h17)) rfl rfl rfl ?_
    rintro _ _ ⟨rfl, rfl⟩
    refine ⟨fun _ => ⟨[0, 1, 2, 3, 4, 5, 6], rfl, rfl⟩, ?_⟩
    refine JT.only (i := 8) (d := some 27) rfl (MV.ofQV (v := .int .i64 (gd x5 y15)) (QV.el1 (Rdg.of 0 rfl) tk_3 rfl h17 rfl)) rfl rfl rfl ?_
    rintro _ _ ⟨rfl, rfl⟩
    refine ⟨fun _ => ⟨[0, 1, 2, 3, 4, 5, 6], rfl, rfl⟩, ?_⟩
    refine JT.only (i := 9) (d := some 28) rfl (MV.ofQV (v := .int .i64 (IntKind.wrap .i64 ((gd x5 y15) - (1 : Int)))) (QV.sub rfl rfl)) rfl rfl rfl ?_
    rintro _ _ ⟨rfl, rfl⟩
    refine ⟨fun _ => ⟨[0, 1, 2, 3, 4, 5, 6], rfl, rfl⟩, ?_⟩
    refine JT.only (i := 10) (d := some 8) rfl (MV.ofQV (v := .int .i64 (IntKind.wrap .i64 ((gd x5 y15) - (1 : Int)))) (QV.assign rfl)) rfl rfl rfl ?_
    rintro _ _ ⟨rfl, rfl⟩
    refine ⟨fun _ => ⟨[0, 1, 2, 3, 4, 5, 6], rfl, rfl⟩, ?_⟩
    refine JT.nil ?_
    refine QJ.then_normal ?_
    refine JC.cutK (Y := (Int × Int) × Unit) (fun y => match y with | ((d18, d19), _) => F56.j1 (d18) (d19) = some r) (fun y => match y with | ((d18, d19), _) => [(6, .pointer (some ⟨b12, 0, none⟩)), (7, .pointer (some ⟨b13, 0, none⟩))]) (fun y => match y with | ((d18, d19), _) => [Asr.blk b12 23 [Seg.c (.int .u8 (0 : Int)), Seg.c (.int .i64 (0 : Int)), Seg.c (.int .i64 (0 : Int))], Asr.blk b13 23 [Seg.c (.int .u8 (0 : Int)), Seg.c (.int .i64 d18), Seg.c (.int .i64 d19)], Asr.of 3 (Enc.int .i64) (s4.v) x5, Asr.of 3 (Enc.int .i64) (s6.v) x7, Asr.vw (Enc.int .u8) (s2.v) x3, Asr.blk b1 81 [Seg.c (s2.v), Seg.c (s4.v), Seg.c (s6.v)]]) ?_ ?_
    ·
      rintro ⟨⟨d18, d19⟩, ⟨⟩⟩ hm
      unfold F56.j1 at hm
      show QJ _ _ [(6, .pointer (some ⟨b12, 0, none⟩)), (7, .pointer (some ⟨b13, 0, none⟩))] [Asr.blk b12 23 [Seg.c (.int .u8 (0 : Int)), Seg.c (.int .i64 (0 : Int)), Seg.c (.int .i64 (0 : Int))], Asr.blk b13 23 [Seg.c (.int .u8 (0 : Int)), Seg.c (.int .i64 d18), Seg.c (.int .i64 d19)], Asr.of 3 (Enc.int .i64) (s4.v) x5, Asr.of 3 (Enc.int .i64) (s6.v) x7, Asr.vw (Enc.int .u8) (s2.v) x3, Asr.blk b1 81 [Seg.c (s2.v), Seg.c (s4.v), Seg.c (s6.v)]] _ _
      refine QJ.then_normal ?_
      refine JC.seq ?_
      refine JC.region ?_
      refine JL.val (v := .agg #[.int .u8 (0 : Int), .int .i64 d18, .int .i64 d19]) (QV.eq (QV.loadN (ss := [Seg.c (.int .u8 (0 : Int)), Seg.c (.int .i64 d18), Seg.c (.int .i64 d19)]) 1 0 3 rfl tk_23 rfl rfl rfl rfl) rfl) rfl rfl rfl ?_
      refine JL.mv (d := none) (MV.store (ss := [Seg.c (.int .u8 (0 : Int)), Seg.c (.int .i64 (0 : Int)), Seg.c (.int .i64 (0 : Int))]) 0 0 3 [Seg.c (.int .u8 (0 : Int)), Seg.c (.int .i64 d18), Seg.c (.int .i64 d19)] rfl tk_23 rfl rfl rfl rfl (fun w hs => ⟨rfl, one_c rfl, one_c rfl, one_c rfl, trivial⟩)) rfl rfl rfl ?_
      rintro _ _ ⟨rfl, rfl⟩
      refine JL.nil ?_
      refine QJ.then_normal ?_
      refine JC.ret ?_
      obtain rfl := Option.some.inj hm
      exact QJ.body (vs := [.agg #[.int .u8 (0 : Int), .int .i64 d18, .int .i64 d19]]) (.inl rfl) rfl (ResVs.cons (ResV.cell (d := none) (ty := 0) (ps := "") (af := #[]) (g := none) rfl (QV.eq (QV.loadN (ss := [Seg.c (.int .u8 (0 : Int)), Seg.c (.int .i64 d18), Seg.c (.int .i64 d19)]) 0 0 3 rfl tk_23 rfl rfl rfl rfl) rfl)) ResVs.nil) [2, 3, 4, 5] rfl rfl (.inl rfl) ⟨rfl, rfl⟩
    ·
      refine JC.block ?_
      obtain ⟨y28, hl29, hmo30⟩ := bind_inv hm
      refine JC.loop (F56.b1 x3 x5 x7 x8) (fun x z => match x, z with | (d20, d21, d22, d23), _ => [(0, .pointer (some ⟨b1, 0, none⟩)), (1, .int .i64 x8), (2, .int .i64 d20), (6, .pointer (some ⟨b12, 0, none⟩)), (7, .pointer (some ⟨b13, 0, none⟩)), (8, .int .i64 d23)]) (fun x z => match x, z with | (d20, d21, d22, d23), _ => [Asr.vw (Enc.int .u8) (s2.v) x3, Asr.of 3 (Enc.int .i64) (s4.v) x5, Asr.of 3 (Enc.int .i64) (s6.v) x7, Asr.blk b1 81 [Seg.c (s2.v), Seg.c (s4.v), Seg.c (s6.v)], Asr.blk b12 23 [Seg.c (.int .u8 (0 : Int)), Seg.c (.int .i64 (0 : Int)), Seg.c (.int .i64 (0 : Int))], Asr.blk b13 23 [Seg.c (.int .u8 (0 : Int)), Seg.c (.int .i64 d21), Seg.c (.int .i64 d22)]]) (x9, (0 : Int), (0 : Int), (IntKind.wrap .i64 ((gd x5 y15) - (1 : Int)))) () y28 hl29 [2, 0, 1, 3, 5, 4] (by exact ⟨rfl, rfl, rfl, rfl, rfl, rfl, trivial⟩) rfl rfl ?_
      rintro ⟨d20, d21, d22, d23⟩ ⟨⟩ s31 hm
      unfold F56.b1 at hm
      dsimp only at hm
      show JC _ _ _ [(0, .pointer (some ⟨b1, 0, none⟩)), (1, .int .i64 x8), (2, .int .i64 d20), (6, .pointer (some ⟨b12, 0, none⟩)), (7, .pointer (some ⟨b13, 0, none⟩)), (8, .int .i64 d23)] [Asr.vw (Enc.int .u8) (s2.v) x3, Asr.of 3 (Enc.int .i64) (s4.v) x5, Asr.of 3 (Enc.int .i64) (s6.v) x7, Asr.blk b1 81 [Seg.c (s2.v), Seg.c (s4.v), Seg.c (s6.v)], Asr.blk b12 23 [Seg.c (.int .u8 (0 : Int)), Seg.c (.int .i64 (0 : Int)), Seg.c (.int .i64 (0 : Int))], Asr.blk b13 23 [Seg.c (.int .u8 (0 : Int)), Seg.c (.int .i64 d21), Seg.c (.int .i64 d22)]] _ _
      refine JC.seq ?_
      refine JC.seq ?_
      refine JC.region ?_
      refine JL.val (v := .int .i64 d23) (QV.move rfl) rfl rfl rfl ?_
      refine JL.val (v := .bool (decide ((0 : Int) ≤ d23))) (QV.geq rfl rfl) rfl rfl rfl ?_
      rcases ite_inv hm with ⟨h32, hm⟩ | ⟨h32, hm⟩
      ·
        refine JL.val (v := .bool true) (QV.eq (QV.move rfl) (congrArg Value.bool (decide_eq_true h32))) rfl rfl rfl ?_
        refine JL.val (v := .int .i64 x8) (QV.move rfl) rfl rfl rfl ?_
        refine JL.val (v := .int .i64 d23) (QV.move rfl) rfl rfl rfl ?_
        refine JL.val (v := .int .i64 (IntKind.wrap .i64 (x8 - d23))) (QV.sub rfl rfl) rfl rfl rfl ?_
        refine JL.val (v := .bool (decide ((IntKind.wrap .i64 (x8 - d23)) ≤ (32768 : Int)))) (QV.leq rfl rfl) rfl rfl rfl ?_
        refine JL.val (v := .bool (decide ((IntKind.wrap .i64 (x8 - d23)) ≤ (32768 : Int)))) (QV.pickT rfl rfl) rfl rfl rfl ?_
        rcases ite_inv hm with ⟨h33, hm⟩ | ⟨h33, hm⟩
        ·
          refine JL.val (v := .bool true) (QV.eq (QV.move rfl) (congrArg Value.bool (decide_eq_true h33))) rfl rfl rfl ?_
          refine JL.val (v := .int .i64 d20) (QV.move rfl) rfl rfl rfl ?_
          refine JL.val (v := .bool (decide ((0 : Int) < d20))) (QV.gtr rfl rfl) rfl rfl rfl ?_
          refine JL.val (v := .bool (decide ((0 : Int) < d20))) (QV.pickT rfl rfl) rfl rfl rfl ?_
          refine JL.nil ?_
          refine QJ.then_normal ?_
          rcases ite_inv hm with ⟨h34, hm⟩ | ⟨h34, hm⟩
          ·
            refine JC.condT' rfl (decide_eq_true h34) ?_
            refine JC.skip ?_
            refine QJ.then_normal ?_
            refine JC.seq ?_
            refine JC.cutK (Y := (Int × Int) × Unit) (fun y => match y with | ((d35, d36), _) => F56.j2 x7 d20 d23 (d35) (d36) = some s31) (fun y => match y with | ((d35, d36), _) => [(0, .pointer (some ⟨b1, 0, none⟩)), (1, .int .i64 x8), (2, .int .i64 d20), (6, .pointer (some ⟨b12, 0, none⟩)), (7, .pointer (some ⟨b13, 0, none⟩)), (8, .int .i64 (IntKind.wrap .i64 ((gd x7 d23) - (1 : Int))))]) (fun y => match y with | ((d35, d36), _) => [Asr.vw (Enc.int .u8) (s2.v) x3, Asr.of 3 (Enc.int .i64) (s4.v) x5, Asr.of 3 (Enc.int .i64) (s6.v) x7, Asr.blk b1 81 [Seg.c (s2.v), Seg.c (s4.v), Seg.c (s6.v)], Asr.blk b12 23 [Seg.c (.int .u8 (0 : Int)), Seg.c (.int .i64 (0 : Int)), Seg.c (.int .i64 (0 : Int))], Asr.blk b13 23 [Seg.c (.int .u8 (0 : Int)), Seg.c (.int .i64 d35), Seg.c (.int .i64 d36)]]) ?_ ?_
            ·
              rintro ⟨⟨d35, d36⟩, ⟨⟩⟩ hm
              unfold F56.j2 at hm
              show QJ _ _ [(0, .pointer (some ⟨b1, 0, none⟩)), (1, .int .i64 x8), (2, .int .i64 d20), (6, .pointer (some ⟨b12, 0, none⟩)), (7, .pointer (some ⟨b13, 0, none⟩)), (8, .int .i64 (IntKind.wrap .i64 ((gd x7 d23) - (1 : Int))))] [Asr.vw (Enc.int .u8) (s2.v) x3, Asr.of 3 (Enc.int .i64) (s4.v) x5, Asr.of 3 (Enc.int .i64) (s6.v) x7, Asr.blk b1 81 [Seg.c (s2.v), Seg.c (s4.v), Seg.c (s6.v)], Asr.blk b12 23 [Seg.c (.int .u8 (0 : Int)), Seg.c (.int .i64 (0 : Int)), Seg.c (.int .i64 (0 : Int))], Asr.blk b13 23 [Seg.c (.int .u8 (0 : Int)), Seg.c (.int .i64 d35), Seg.c (.int .i64 d36)]] _ _
              refine QJ.then_normal ?_
              refine JC.region ?_
              refine JL.val (v := .int .i64 d20) (QV.move rfl) rfl rfl rfl ?_
              refine JL.val (v := .int .i64 (IntKind.wrap .i64 (d20 - (1 : Int)))) (QV.sub rfl rfl) rfl rfl rfl ?_
              refine JL.val (v := .int .i64 (IntKind.wrap .i64 (d20 - (1 : Int)))) (QV.assign rfl) rfl rfl rfl ?_
              refine JL.nil ?_
              obtain rfl := Option.some.inj hm
              exact QJ.round_on ((IntKind.wrap .i64 (d20 - (1 : Int))), d35, d36, (IntKind.wrap .i64 ((gd x7 d23) - (1 : Int)))) () [0, 1, 2, 3, 4, 5] (by exact ⟨rfl, rfl, rfl, rfl, rfl, rfl, trivial⟩) rfl rfl
            ·
              refine JC.block ?_
              refine JC.seq ?_
              refine JC.seq ?_
              refine JC.region ?_
              refine JL.val (v := .pointer (some ⟨b1, 0, none⟩)) (QV.move rfl) rfl rfl rfl ?_
              refine JL.val (v := .int .i64 d23) (QV.move rfl) rfl rfl rfl ?_
              refine JL.val (v := .int .i64 x8) (QV.move rfl) rfl rfl rfl ?_
              obtain ⟨y37, hc38, hm⟩ := bind_inv hm
              refine JL.mv (d := some 46) (MV.call (Lo := [Asr.blk b1 81 [Seg.c (s2.v), Seg.c (s4.v), Seg.c (s6.v)], Asr.of 3 (Enc.int .i64) (s4.v) x5, Asr.of 3 (Enc.int .i64) (s6.v) x7]) (Lr := [Asr.vw (Enc.int .u8) (s2.v) x3, Asr.blk b12 23 [Seg.c (.int .u8 (0 : Int)), Seg.c (.int .i64 (0 : Int)), Seg.c (.int .i64 (0 : Int))], Asr.blk b13 23 [Seg.c (.int .u8 (0 : Int)), Seg.c (.int .i64 d21), Seg.c (.int .i64 d22)]]) (F70.spec (b1) (s2) (s4) (s6) (x3) (x5) (x7) (d23) (x8) _ hc38) rfl Try.func70 rfl rfl rfl [3, 1, 2] [0, 4, 5] rfl rfl rfl ⟨(Drv.vw 0 rfl), trivial⟩) rfl rfl rfl ?_
              rintro _ _ ⟨_, ⟨rfl, rfl⟩, rfl⟩
              refine JL.val (v := .int .i64 y37) (QV.assign rfl) rfl rfl rfl ?_
              refine JL.nil ?_
              refine QJ.then_normal ?_
              refine JC.seq ?_
              refine JC.region ?_
              refine JL.val (v := .int .i64 y37) (QV.move rfl) rfl rfl rfl ?_
              refine JL.val (v := .bool (decide ((3 : Int) ≤ y37))) (QV.geq rfl rfl) rfl rfl rfl ?_
              rcases ite_inv hm with ⟨h39, hm⟩ | ⟨h39, hm⟩
              ·
                refine JL.val (v := .bool true) (QV.eq (QV.move rfl) (congrArg Value.bool (decide_eq_true h39))) rfl rfl rfl ?_
                refine JL.val (v := .int .i64 y37) (QV.move rfl) rfl rfl rfl ?_
                refine JL.val (v := .pointer (some ⟨b13, 1, none⟩)) (QV.fieldB fo_23_1 rfl rfl) rfl rfl rfl ?_
                refine JL.val (v := .int .i64 d21) (QV.load1 (ss := [Seg.c (.int .u8 (0 : Int)), Seg.c (.int .i64 d21), Seg.c (.int .i64 d22)]) 6 1 rfl tk_3 rfl rfl rfl) rfl rfl rfl ?_
                refine JL.val (v := .bool (decide (d21 < y37))) (QV.gtr rfl rfl) rfl rfl rfl ?_
                refine JL.val (v := .bool (decide (d21 < y37))) (QV.pickT rfl rfl) rfl rfl rfl ?_
                refine JL.nil ?_
                refine QJ.then_normal ?_
                refine JC.cutK (Y := (Int × Int) × Unit) (fun y => match y with | ((d40, d41), _) => F56.j3 x7 d20 d23 (d40) (d41) = some s31) (fun y => match y with | ((d40, d41), _) => [(0, .pointer (some ⟨b1, 0, none⟩)), (1, .int .i64 x8), (2, .int .i64 d20), (6, .pointer (some ⟨b12, 0, none⟩)), (7, .pointer (some ⟨b13, 0, none⟩)), (8, .int .i64 d23)]) (fun y => match y with | ((d40, d41), _) => [Asr.vw (Enc.int .u8) (s2.v) x3, Asr.of 3 (Enc.int .i64) (s4.v) x5, Asr.of 3 (Enc.int .i64) (s6.v) x7, Asr.blk b1 81 [Seg.c (s2.v), Seg.c (s4.v), Seg.c (s6.v)], Asr.blk b12 23 [Seg.c (.int .u8 (0 : Int)), Seg.c (.int .i64 (0 : Int)), Seg.c (.int .i64 (0 : Int))], Asr.blk b13 23 [Seg.c (.int .u8 (0 : Int)), Seg.c (.int .i64 d40), Seg.c (.int .i64 d41)]]) ?_ ?_
                ·
                  rintro ⟨⟨d40, d41⟩, ⟨⟩⟩ hm
                  unfold F56.j3 at hm
                  show QJ _ _ [(0, .pointer (some ⟨b1, 0, none⟩)), (1, .int .i64 x8), (2, .int .i64 d20), (6, .pointer (some ⟨b12, 0, none⟩)), (7, .pointer (some ⟨b13, 0, none⟩)), (8, .int .i64 d23)] [Asr.vw (Enc.int .u8) (s2.v) x3, Asr.of 3 (Enc.int .i64) (s4.v) x5, Asr.of 3 (Enc.int .i64) (s6.v) x7, Asr.blk b1 81 [Seg.c (s2.v), Seg.c (s4.v), Seg.c (s6.v)], Asr.blk b12 23 [Seg.c (.int .u8 (0 : Int)), Seg.c (.int .i64 (0 : Int)), Seg.c (.int .i64 (0 : Int))], Asr.blk b13 23 [Seg.c (.int .u8 (0 : Int)), Seg.c (.int .i64 d40), Seg.c (.int .i64 d41)]] _ _
                  refine QJ.then_normal ?_
                  refine JC.region ?_
                  refine JL.val (v := .pointer (some ⟨b1, 0, none⟩)) (QV.move rfl) rfl rfl rfl ?_
                  refine JL.val (v := .pointer (some ⟨b1, 0, none⟩)) (QV.nilCheck rfl) rfl rfl rfl ?_
                  refine JL.val (v := .pointer (some ⟨b1, 2, none⟩)) (QV.fieldB fo_81_2 rfl rfl) rfl rfl rfl ?_
                  refine JL.val (v := s6.v) (QV.load1 (ss := [Seg.c (s2.v), Seg.c (s4.v), Seg.c (s6.v)]) 3 2 rfl tk_76 rfl rfl rfl) rfl rfl rfl ?_
                  refine JL.val (v := .int .i64 d23) (QV.move rfl) rfl rfl rfl ?_
                  obtain ⟨h42, hm⟩ := guard_inv hm
                  refine JL.val (v := .pointer (some (elA (s6.v) (Int.toNat d23 * ((Enc.int .i64)).sz)))) (QV.indexA (Rdg.of 2 rfl) Try.underlying76 tk_3 rfl rfl h42) rfl rfl rfl ?_
                  refine JL.val (v := .int .i64 (gd x7 d23)) (QV.el1 (Rdg.of 2 rfl) tk_3 rfl h42 rfl) rfl rfl rfl ?_
                  refine JL.val (v := .int .i64 (IntKind.wrap .i64 ((gd x7 d23) - (1 : Int)))) (QV.sub rfl rfl) rfl rfl rfl ?_
                  refine JL.val (v := .int .i64 (IntKind.wrap .i64 ((gd x7 d23) - (1 : Int)))) (QV.assign rfl) rfl rfl rfl ?_
                  refine JL.nil ?_
                  refine QJ.block_normal ?_
                  exact QJ.cut_normal ((d40, d41), ()) hm [0, 1, 2, 3, 4, 5] (by exact ⟨rfl, rfl, rfl, rfl, rfl, rfl, trivial⟩) rfl rfl
                ·
                  rcases ite_inv hm with ⟨h43, hm⟩ | ⟨h43, hm⟩
                  ·
                    refine JC.condT' rfl (decide_eq_true h43) ?_
                    refine JC.region ?_
                    refine JL.val (v := .int .i64 y37) (QV.move rfl) rfl rfl rfl ?_
                    refine JL.val (v := .int .i64 x8) (QV.move rfl) rfl rfl rfl ?_
                    refine JL.val (v := .int .i64 d23) (QV.move rfl) rfl rfl rfl ?_
                    refine JL.val (v := .int .i64 (IntKind.wrap .i64 (x8 - d23))) (QV.sub rfl rfl) rfl rfl rfl ?_
                    refine JL.val (v := .agg #[.int .u8 (0 : Int), .int .i64 y37, .int .i64 (IntKind.wrap .i64 (x8 - d23))]) (QV.build (vals := [(1, .int .i64 y37), (2, .int .i64 (IntKind.wrap .i64 (x8 - d23)))]) rfl (by kernel_rfl)) rfl rfl rfl ?_
                    refine JL.mv (d := none) (MV.store (ss := [Seg.c (.int .u8 (0 : Int)), Seg.c (.int .i64 d21), Seg.c (.int .i64 d22)]) 6 0 3 [Seg.c (.int .u8 (0 : Int)), Seg.c (.int .i64 y37), Seg.c (.int .i64 (IntKind.wrap .i64 (x8 - d23)))] rfl tk_23 rfl rfl rfl rfl (fun w hs => ⟨rfl, one_c rfl, one_c rfl, one_c rfl, trivial⟩)) rfl rfl rfl ?_
                    rintro _ _ ⟨rfl, rfl⟩
                    refine JL.nil ?_
                    exact QJ.cut_normal ((y37, (IntKind.wrap .i64 (x8 - d23))), ()) hm [2, 0, 1, 3, 5, 6] (by exact ⟨rfl, rfl, rfl, rfl, rfl, rfl, trivial⟩) rfl rfl
                  ·
                    refine JC.condF' rfl (decide_eq_false h43) ?_
                    refine JC.skip ?_
                    exact QJ.cut_normal ((d21, d22), ()) hm [2, 0, 1, 3, 5, 6] (by exact ⟨rfl, rfl, rfl, rfl, rfl, rfl, trivial⟩) rfl rfl
              ·
                refine JL.val (v := .bool false) (QV.eq (QV.move rfl) (congrArg Value.bool (decide_eq_false h39))) rfl rfl rfl ?_
                refine JL.skip (d := some 50) rfl rfl rfl ?_
                refine JL.skip (d := some 51) rfl rfl rfl ?_
                refine JL.skip (d := some 52) rfl rfl rfl ?_
                refine JL.skip (d := some 53) rfl rfl rfl ?_
                refine JL.val (v := .bool false) (QV.pickF rfl rfl) rfl rfl rfl ?_
                refine JL.nil ?_
                refine QJ.then_normal ?_
                refine JC.condF rfl ?_
                refine JC.skip ?_
                refine QJ.then_normal ?_
                refine JC.region ?_
                refine JL.val (v := .pointer (some ⟨b1, 0, none⟩)) (QV.move rfl) rfl rfl rfl ?_
                refine JL.val (v := .pointer (some ⟨b1, 0, none⟩)) (QV.nilCheck rfl) rfl rfl rfl ?_
                refine JL.val (v := .pointer (some ⟨b1, 2, none⟩)) (QV.fieldB fo_81_2 rfl rfl) rfl rfl rfl ?_
                refine JL.val (v := s6.v) (QV.load1 (ss := [Seg.c (s2.v), Seg.c (s4.v), Seg.c (s6.v)]) 3 2 rfl tk_76 rfl rfl rfl) rfl rfl rfl ?_
                refine JL.val (v := .int .i64 d23) (QV.move rfl) rfl rfl rfl ?_
                obtain ⟨h44, hm⟩ := guard_inv hm
                refine JL.val (v := .pointer (some (elA (s6.v) (Int.toNat d23 * ((Enc.int .i64)).sz)))) (QV.indexA (Rdg.of 1 rfl) Try.underlying76 tk_3 rfl rfl h44) rfl rfl rfl ?_
                refine JL.val (v := .int .i64 (gd x7 d23)) (QV.el1 (Rdg.of 1 rfl) tk_3 rfl h44 rfl) rfl rfl rfl ?_
                refine JL.val (v := .int .i64 (IntKind.wrap .i64 ((gd x7 d23) - (1 : Int)))) (QV.sub rfl rfl) rfl rfl rfl ?_
                refine JL.val (v := .int .i64 (IntKind.wrap .i64 ((gd x7 d23) - (1 : Int)))) (QV.assign rfl) rfl rfl rfl ?_
                refine JL.nil ?_
                refine QJ.block_normal ?_
                exact QJ.cut_normal ((d21, d22), ()) hm [2, 0, 1, 3, 5, 6] (by exact ⟨rfl, rfl, rfl, rfl, rfl, rfl, trivial⟩) rfl rfl
          ·
            refine JC.condF' rfl (decide_eq_false h34) ?_
            refine JC.exit ?_
            refine QJ.then_exit ?_
            obtain rfl := Option.some.inj hm
            refine QJ.round_exit (fun hy => ?_)
            subst hy
            refine QJ.block_hit ?_
            exact QJ.cut_normal ((d21, d22), ()) hmo30 [4, 5, 1, 2, 0, 3] (by exact ⟨rfl, rfl, trivial⟩) rfl rfl
        ·
          refine JL.val (v := .bool false) (QV.eq (QV.move rfl) (congrArg Value.bool (decide_eq_false h33))) rfl rfl rfl ?_
          refine JL.skip (d := some 38) rfl rfl rfl ?_
          refine JL.skip (d := some 39) rfl rfl rfl ?_
          refine JL.val (v := .bool false) (QV.pickF rfl rfl) rfl rfl rfl ?_
          refine JL.nil ?_
          refine QJ.then_normal ?_
          refine JC.condF rfl ?_
          refine JC.exit ?_
          refine QJ.then_exit ?_
          obtain rfl := Option.some.inj hm
          refine QJ.round_exit (fun hy => ?_)
          subst hy
          refine QJ.block_hit ?_
          exact QJ.cut_normal ((d21, d22), ()) hmo30 [4, 5, 1, 2, 0, 3] (by exact ⟨rfl, rfl, trivial⟩) rfl rfl
      ·
        refine JL.val (v := .bool false) (QV.eq (QV.move rfl) (congrArg Value.bool (decide_eq_false h32))) rfl rfl rfl ?_
        refine JL.skip (d := some 32) rfl rfl rfl ?_
        refine JL.skip (d := some 33) rfl rfl rfl ?_
        refine JL.skip (d := some 34) rfl rfl rfl ?_
        refine JL.skip (d := some 35) rfl rfl rfl ?_
        refine JL.val (v := .bool false) (QV.pickF rfl rfl) rfl rfl rfl ?_
        refine JL.val (v := .bool false) (QV.move rfl) rfl rfl rfl ?_
        refine JL.skip (d := some 38) rfl rfl rfl ?_
        refine JL.skip (d := some 39) rfl rfl rfl ?_
        refine JL.val (v := .bool false) (QV.pickF rfl rfl) rfl rfl rfl ?_
        refine JL.nil ?_
        refine QJ.then_normal ?_
        refine JC.condF rfl ?_
        refine JC.exit ?_
        refine QJ.then_exit ?_
        obtain rfl := Option.some.inj hm
        refine QJ.round_exit (fun hy => ?_)
        subst hy
        refine QJ.block_hit ?_
        exact QJ.cut_normal ((d21, d22), ()) hmo30 [4, 5, 1, 2, 0, 3] (by exact ⟨rfl, rfl, trivial⟩) rfl rfl

/-! ### 57: (*drogher/lz.chains).note -/
noncomputable def F57.m (x3 : List Int) (x5 : List Int) (x7 : List Int) (x8 : Int) : Option (List Int × List Int) :=
  (if ((x3).length : Int) < (IntKind.wrap .i64 (x8 + (3 : Int))) then some (x5, x7) else ((F69.m (x3) (x5) (x7) (x8)).bind fun y12 => (if 0 ≤ y12 ∧ y12 < ((x5).length : Int) then (if 0 ≤ x8 ∧ x8 < ((x7).length : Int) then some ((List.set x5 (Int.toNat y12) (IntKind.wrap .i64 (x8 + (1 : Int)))), (List.set x7 (Int.toNat x8) (gd x5 y12))) else none) else none)))
set_option maxRecDepth 100000 in
set_option maxHeartbeats 4000000 in
theorem F57.spec (b1 : Nat) (s2 : SlV) (s4 : SlV) (s6 : SlV) (x3 : List Int) (x5 : List Int) (x7 : List Int) (x8 : Int) (r : (List Int × List Int)) (hm : F57.m x3 x5 x7 x8 = some r) :
    Ctr Try.prog true 57 [.pointer (some ⟨b1, 0, none⟩), .int .i64 x8] [Asr.blk b1 81 [Seg.c (s2.v), Seg.c (s4.v), Seg.c (s6.v)], Asr.of 3 (Enc.int .i64) (s4.v) x5, Asr.of 3 (Enc.int .i64) (s6.v) x7, Asr.vw (Enc.int .u8) (s2.v) x3] (fun v L' => v = .tuple #[] ∧ L' = [Asr.of 3 (Enc.int .i64) (s4.v) r.1, Asr.of 3 (Enc.int .i64) (s6.v) r.2, Asr.vw (Enc.int .u8) (s2.v) x3, Asr.blk b1 81 [Seg.c (s2.v), Seg.c (s4.v), Seg.c (s6.v)]]) := by
  refine Ctr.intro (n := 37) (env := [(0, .pointer (some ⟨b1, 0, none⟩)), (1, .int .i64 x8)]) Try.func57 rfl rfl rfl rfl (fun c => ?_)
  unfold F57.m at hm
  refine JC.seq ?_
  refine JC.seq ?_
  refine JC.region ?_
  refine JL.val (v := .int .i64 x8) (QV.move rfl) rfl rfl rfl ?_
  refine JL.val (v := .int .i64 (IntKind.wrap .i64 (x8 + (3 : Int)))) (QV.add rfl rfl) rfl rfl rfl ?_
  refine JL.val (v := .pointer (some ⟨b1, 0, none⟩)) (QV.move rfl) rfl rfl rfl ?_
  refine JL.val (v := .pointer (some ⟨b1, 0, none⟩)) (QV.nilCheck rfl) rfl rfl rfl ?_
  refine JL.val (v := .pointer (some ⟨b1, 0, none⟩)) (QV.fieldB fo_81_0 rfl rfl) rfl rfl rfl ?_
  refine JL.val (v := s2.v) (QV.load1 (ss := [Seg.c (s2.v), Seg.c (s4.v), Seg.c (s6.v)]) 0 0 rfl tk_26 rfl rfl rfl) rfl rfl rfl ?_
  refine JL.val (v := .int .i64 ((x3).length : Int)) (QV.len (Rdg.vw 3 rfl) Try.underlying26 rfl) rfl rfl rfl ?_
  refine JL.val (v := .bool (decide (((x3).length : Int) < (IntKind.wrap .i64 (x8 + (3 : Int)))))) (QV.gtr rfl rfl) rfl rfl rfl ?_
  refine JL.nil ?_
  refine QJ.then_normal ?_
  rcases ite_inv hm with ⟨h11, hm⟩ | ⟨h11, hm⟩
  ·
    refine JC.condT' rfl (decide_eq_true h11) ?_
    refine JC.ret ?_
    refine QJ.then_ret ?_
    obtain rfl := Option.some.inj hm
    exact QJ.body (vs := []) (.inl rfl) rfl ResVs.nil [1, 2, 3, 0] rfl rfl (.inl rfl) ⟨rfl, rfl⟩
  ·
    refine JC.condF' rfl (decide_eq_false h11) ?_
    refine JC.skip ?_
    refine QJ.then_normal ?_
    refine JC.seq ?_
    refine JC.region ?_
    refine JL.val (v := .pointer (some ⟨b1, 0, none⟩)) (QV.move rfl) rfl rfl rfl ?_
    refine JL.val (v := .int .i64 x8) (QV.move rfl) rfl rfl rfl ?_
    obtain ⟨y12, hc13, hm⟩ := bind_inv hm
    refine JL.mv (d := some 15) (MV.call (Lo := [Asr.blk b1 81 [Seg.c (s2.v), Seg.c (s4.v), Seg.c (s6.v)], Asr.of 3 (Enc.int .i64) (s4.v) x5, Asr.of 3 (Enc.int .i64) (s6.v) x7]) (Lr := [Asr.vw (Enc.int .u8) (s2.v) x3]) (F69.spec (b1) (s2) (s4) (s6) (x3) (x5) (x7) (x8) _ hc13) rfl Try.func69 rfl rfl rfl [0, 1, 2] [3] rfl rfl rfl ⟨(Drv.vw 0 rfl), trivial⟩) rfl rfl rfl ?_
    rintro _ _ ⟨_, ⟨rfl, rfl⟩, rfl⟩
    refine JL.val (v := .int .i64 y12) (QV.assign rfl) rfl rfl rfl ?_
    refine JL.nil ?_
    refine QJ.then_normal ?_
    refine JC.seq ?_
    refine JC.regionT [Asr.of 3 (Enc.int .i64) (s4.v) x5, Asr.vw (Enc.int .u8) (s2.v) x3, Asr.blk b1 81 [Seg.c (s2.v), Seg.c (s4.v), Seg.c (s6.v)], Asr.vw (Enc.int .u8) (s2.v) x3] (fun t => false) [(0, true), (1, true), (2, true), (3, true), (4, true), (5, true), (6, true), (7, true), (8, true), (9, false), (10, false), (11, false), (12, false), (13, false)] (by kernel_rfl) (by kernel_rfl) (by kernel_rfl) rfl (fun hsel => ?_)
    refine JT.take (i := 0) (v := .pointer (some ⟨b1, 0, none⟩)) hsel rfl (QV.move rfl) rfl rfl rfl [0, 2, 3, 4] rfl rfl ?_
    refine JT.take (i := 1) (v := .pointer (some ⟨b1, 0, none⟩)) hsel rfl (QV.nilCheck rfl) rfl rfl rfl [0, 2, 3, 4] rfl rfl ?_
    refine JT.take (i := 2) (v := .pointer (some ⟨b1, 2, none⟩)) hsel rfl (QV.fieldB fo_81_2 rfl rfl) rfl rfl rfl [0, 2, 3, 4] rfl rfl ?_
    refine JT.take (i := 3) (v := s6.v) hsel rfl (QV.load1 (ss := [Seg.c (s2.v), Seg.c (s4.v), Seg.c (s6.v)]) 2 2 rfl tk_76 rfl rfl rfl) rfl rfl rfl [0, 2, 3, 4] rfl rfl ?_
    refine JT.take (i := 4) (v := .int .i64 x8) hsel rfl (QV.move rfl) rfl rfl rfl [0, 2, 3, 4] rfl rfl ?_
    refine JT.take (i := 5) (v := .pointer (some ⟨b1, 0, none⟩)) hsel rfl (QV.move rfl) rfl rfl rfl [0, 2, 3, 4] rfl rfl ?_
    refine JT.take (i := 6) (v := .pointer (some ⟨b1, 0, none⟩)) hsel rfl (QV.nilCheck rfl) rfl rfl rfl [0, 2, 3, 4] rfl rfl ?_
    refine JT.take (i := 7) (v := .pointer (some ⟨b1, 1, none⟩)) hsel rfl (QV.fieldB fo_81_1 rfl rfl) rfl rfl rfl [0, 2, 3, 4] rfl rfl ?_
    refine JT.take (i := 8) (v := s4.v) hsel rfl (QV.load1 (ss := [Seg.c (s2.v), Seg.c (s4.v), Seg.c (s6.v)]) 2 1 rfl tk_76 rfl rfl rfl) rfl rfl rfl [0, 2, 3, 4] rfl rfl ?_
    refine JT.only (i := 9) (d := some 25) rfl (MV.ofQV (v := .int .i64 y12) (QV.move rfl)) rfl rfl rfl ?_
    rintro _ _ ⟨rfl, rfl⟩
    refine ⟨fun _ => ⟨[0, 2, 3, 4], rfl, rfl⟩, ?_⟩
    obtain ⟨h14, hm⟩ := guard_inv hm
    refine JT.only (i := 10) (d := some 26) rfl (MV.ofQV (v := .pointer (some (elA (s4.v) (Int.toNat y12 * ((Enc.int .i64)).sz)))) (QV.indexA (Rdg.of 0 rfl) Try.underlying76 tk_3 rfl rfl h14)) rfl rfl rfl ?_
    rintro _ _ ⟨rfl, rfl⟩
    refine ⟨fun _ => ⟨[0, 2, 3, 4], rfl, rfl⟩, ?_⟩
    refine JT.only (i := 11) (d := some 27) rfl (MV.ofQV (v := .int .i64 (gd x5 y12)) (QV.el1 (Rdg.of 0 rfl) tk_3 rfl h14 rfl)) rfl rfl rfl ?_
    rintro _ _ ⟨rfl, rfl⟩
    refine ⟨fun _ => ⟨[0, 2, 3, 4], rfl, rfl⟩, ?_⟩
    obtain ⟨h15, hm⟩ := guard_inv hm
    refine JT.only (i := 12) (d := some 28) rfl (MV.ofQV (v := .pointer (some (elA (s6.v) (Int.toNat x8 * ((Enc.int .i64)).sz)))) (QV.indexA (Rdg.of 1 rfl) Try.underlying76 tk_3 rfl rfl h15)) rfl rfl rfl ?_
    rintro _ _ ⟨rfl, rfl⟩
    refine ⟨fun _ => ⟨[0, 2, 3, 4], rfl, rfl⟩, ?_⟩
    refine JT.only (i := 13) (d := none) rfl (MV.storeEl 1 (gd x5 y12) rfl tk_3 rfl rfl h15 rfl) rfl rfl rfl ?_
    rintro _ _ ⟨rfl, rfl⟩
    refine ⟨fun _ => ⟨[0, 2, 3, 4], rfl, rfl⟩, ?_⟩
    refine JT.grow [Asr.of 3 (Enc.int .i64) (s4.v) x5, Asr.of 3 (Enc.int .i64) (s6.v) (List.set x7 (Int.toNat x8) (gd x5 y12)), Asr.vw (Enc.int .u8) (s2.v) x3, Asr.blk b1 81 [Seg.c (s2.v), Seg.c (s4.v), Seg.c (s6.v)], Asr.vw (Enc.int .u8) (s2.v) x3] [0, 2, 3, 4] rfl rfl ?_
    refine JT.nil ?_
    refine QJ.then_normal ?_
    refine JC.region ?_
    refine JL.val (v := .pointer (some ⟨b1, 0, none⟩)) (QV.move rfl) rfl rfl rfl ?_
    refine JL.val (v := .pointer (some ⟨b1, 0, none⟩)) (QV.nilCheck rfl) rfl rfl rfl ?_
    refine JL.val (v := .pointer (some ⟨b1, 1, none⟩)) (QV.fieldB fo_81_1 rfl rfl) rfl rfl rfl ?_
    refine JL.val (v := s4.v) (QV.load1 (ss := [Seg.c (s2.v), Seg.c (s4.v), Seg.c (s6.v)]) 3 1 rfl tk_76 rfl rfl rfl) rfl rfl rfl ?_
    refine JL.val (v := .int .i64 y12) (QV.move rfl) rfl rfl rfl ?_
    refine JL.val (v := .int .i64 x8) (QV.move rfl) rfl rfl rfl ?_
    refine JL.val (v := .int .i64 (IntKind.wrap .i64 (x8 + (1 : Int)))) (QV.add rfl rfl) rfl rfl rfl ?_
    refine JL.val (v := .pointer (some (elA (s4.v) (Int.toNat y12 * ((Enc.int .i64)).sz)))) (QV.indexA (Rdg.of 0 rfl) Try.underlying76 tk_3 rfl rfl h14) rfl rfl rfl ?_
    refine JL.mv (d := none) (MV.storeEl 0 (IntKind.wrap .i64 (x8 + (1 : Int))) rfl tk_3 rfl rfl h14 rfl) rfl rfl rfl ?_
    rintro _ _ ⟨rfl, rfl⟩
    refine JL.nil ?_
    obtain rfl := Option.some.inj hm
    exact QJ.body (vs := []) (.inr rfl) rfl ResVs.nil [0, 1, 2, 3] rfl rfl (.inl rfl) ⟨rfl, rfl⟩

end Go.Proofs.Ytpophpendlnehaa
