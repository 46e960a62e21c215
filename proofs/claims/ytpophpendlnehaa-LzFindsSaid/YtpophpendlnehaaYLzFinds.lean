/- Written by gen.py: functions and their contracts. -/
import Derived.Test.YtpophpendlnehaaLzf
namespace Go.Proofs.Ytpophpendlnehaa
open Go Go.Eng Go.Proofs
set_option linter.unusedVariables false
set_option linter.unusedSimpArgs false
/-! ### 16: drogher/drogherref11.May -/
noncomputable def F16.m (x1 : Int) (x2 : Int) (x3 : Int) : Option Bool :=
  (if x2 = (0 : Int) then some (decide (x3 = (0 : Int))) else (if x1 = (0 : Int) then (if (2 : Int) < x2 then (if x2 < (259 : Int) then (if (0 : Int) < x3 then some (decide (x3 < (32769 : Int))) else some false) else some false) else some false) else some false))
set_option maxRecDepth 100000 in
set_option maxHeartbeats 4000000 in
theorem F16.spec (x1 : Int) (x2 : Int) (x3 : Int) (r : Bool) (hm : F16.m x1 x2 x3 = some r) :
    Ctr Try.prog false 16 [.agg #[.int .u8 x1, .int .i64 x2, .int .i64 x3]] [] (fun v L' => v = .bool r ∧ L' = []) := by
  refine Ctr.intro (n := 32) (env := [(0, .agg #[.int .u8 x1, .int .i64 x2, .int .i64 x3])]) Try.func16 rfl rfl rfl rfl (fun c => ?_)
  unfold F16.m at hm
  refine JC.seq ?_
  refine JC.region ?_
  refine JL.mv (d := some 1) (MV.box [Seg.c (.int .u8 x1), Seg.c (.int .i64 x2), Seg.c (.int .i64 x3)] rfl (fun w hs => rfl)) rfl rfl rfl ?_
  rintro _ _ ⟨b5, rfl, rfl⟩
  refine JL.val (v := .bool false) (QV.assign rfl) rfl rfl rfl ?_
  refine JL.nil ?_
  refine QJ.then_normal ?_
  refine JC.seq ?_
  refine JC.seq ?_
  refine JC.region ?_
  refine JL.val (v := .pointer (some ⟨b5, 1, none⟩)) (QV.fieldB fo_23_1 rfl rfl) rfl rfl rfl ?_
  refine JL.val (v := .int .i64 x2) (QV.load1 (ss := [Seg.c (.int .u8 x1), Seg.c (.int .i64 x2), Seg.c (.int .i64 x3)]) 0 1 rfl tk_3 rfl rfl rfl) rfl rfl rfl ?_
  refine JL.val (v := .bool (decide (x2 = (0 : Int)))) (QV.eql rfl rfl) rfl rfl rfl ?_
  refine JL.nil ?_
  refine QJ.then_normal ?_
  rcases ite_inv hm with ⟨h6, hm⟩ | ⟨h6, hm⟩
  ·
    refine JC.condT' rfl (decide_eq_true h6) ?_
    refine JC.seq ?_
    refine JC.region ?_
    refine JL.val (v := .pointer (some ⟨b5, 2, none⟩)) (QV.fieldB fo_23_2 rfl rfl) rfl rfl rfl ?_
    refine JL.val (v := .int .i64 x3) (QV.load1 (ss := [Seg.c (.int .u8 x1), Seg.c (.int .i64 x2), Seg.c (.int .i64 x3)]) 0 2 rfl tk_3 rfl rfl rfl) rfl rfl rfl ?_
    refine JL.val (v := .bool (decide (x3 = (0 : Int)))) (QV.eql rfl rfl) rfl rfl rfl ?_
    refine JL.val (v := .bool (decide (x3 = (0 : Int)))) (QV.assign rfl) rfl rfl rfl ?_
    refine JL.nil ?_
    refine QJ.then_normal ?_
    refine JC.ret ?_
    refine QJ.then_ret ?_
    obtain rfl := Option.some.inj hm
    exact QJ.body (vs := [.bool (decide (x3 = (0 : Int)))]) (.inl rfl) rfl (ResVs.cons (ResV.tmp rfl) ResVs.nil) [] rfl rfl (.inr trivial) ⟨rfl, rfl⟩
  ·
    refine JC.condF' rfl (decide_eq_false h6) ?_
    refine JC.skip ?_
    refine QJ.then_normal ?_
    refine JC.seq ?_
    refine JC.region ?_
    refine JL.val (v := .pointer (some ⟨b5, 0, none⟩)) (QV.fieldB fo_23_0 rfl rfl) rfl rfl rfl ?_
    refine JL.val (v := .int .u8 x1) (QV.load1 (ss := [Seg.c (.int .u8 x1), Seg.c (.int .i64 x2), Seg.c (.int .i64 x3)]) 0 0 rfl tk_5 rfl rfl rfl) rfl rfl rfl ?_
    refine JL.val (v := .bool (decide (x1 = (0 : Int)))) (QV.eql rfl rfl) rfl rfl rfl ?_
    rcases ite_inv hm with ⟨h7, hm⟩ | ⟨h7, hm⟩
    ·
      refine JL.val (v := .bool true) (QV.eq (QV.move rfl) (congrArg Value.bool (decide_eq_true h7))) rfl rfl rfl ?_
      refine JL.val (v := .pointer (some ⟨b5, 1, none⟩)) (QV.fieldB fo_23_1 rfl rfl) rfl rfl rfl ?_
      refine JL.val (v := .int .i64 x2) (QV.load1 (ss := [Seg.c (.int .u8 x1), Seg.c (.int .i64 x2), Seg.c (.int .i64 x3)]) 0 1 rfl tk_3 rfl rfl rfl) rfl rfl rfl ?_
      refine JL.val (v := .bool (decide ((2 : Int) < x2))) (QV.gtr rfl rfl) rfl rfl rfl ?_
      refine JL.val (v := .bool (decide ((2 : Int) < x2))) (QV.pickT rfl rfl) rfl rfl rfl ?_
      rcases ite_inv hm with ⟨h8, hm⟩ | ⟨h8, hm⟩
      ·
        refine JL.val (v := .bool true) (QV.eq (QV.move rfl) (congrArg Value.bool (decide_eq_true h8))) rfl rfl rfl ?_
        refine JL.val (v := .pointer (some ⟨b5, 1, none⟩)) (QV.fieldB fo_23_1 rfl rfl) rfl rfl rfl ?_
        refine JL.val (v := .int .i64 x2) (QV.load1 (ss := [Seg.c (.int .u8 x1), Seg.c (.int .i64 x2), Seg.c (.int .i64 x3)]) 0 1 rfl tk_3 rfl rfl rfl) rfl rfl rfl ?_
        refine JL.val (v := .bool (decide (x2 < (259 : Int)))) (QV.lss rfl rfl) rfl rfl rfl ?_
        refine JL.val (v := .bool (decide (x2 < (259 : Int)))) (QV.pickT rfl rfl) rfl rfl rfl ?_
        rcases ite_inv hm with ⟨h9, hm⟩ | ⟨h9, hm⟩
        ·
          refine JL.val (v := .bool true) (QV.eq (QV.move rfl) (congrArg Value.bool (decide_eq_true h9))) rfl rfl rfl ?_
          refine JL.val (v := .pointer (some ⟨b5, 2, none⟩)) (QV.fieldB fo_23_2 rfl rfl) rfl rfl rfl ?_
          refine JL.val (v := .int .i64 x3) (QV.load1 (ss := [Seg.c (.int .u8 x1), Seg.c (.int .i64 x2), Seg.c (.int .i64 x3)]) 0 2 rfl tk_3 rfl rfl rfl) rfl rfl rfl ?_
          refine JL.val (v := .bool (decide ((0 : Int) < x3))) (QV.gtr rfl rfl) rfl rfl rfl ?_
          refine JL.val (v := .bool (decide ((0 : Int) < x3))) (QV.pickT rfl rfl) rfl rfl rfl ?_
          rcases ite_inv hm with ⟨h10, hm⟩ | ⟨h10, hm⟩
          ·
            refine JL.val (v := .bool true) (QV.eq (QV.move rfl) (congrArg Value.bool (decide_eq_true h10))) rfl rfl rfl ?_
            refine JL.val (v := .pointer (some ⟨b5, 2, none⟩)) (QV.fieldB fo_23_2 rfl rfl) rfl rfl rfl ?_
            refine JL.val (v := .int .i64 x3) (QV.load1 (ss := [Seg.c (.int .u8 x1), Seg.c (.int .i64 x2), Seg.c (.int .i64 x3)]) 0 2 rfl tk_3 rfl rfl rfl) rfl rfl rfl ?_
            refine JL.val (v := .bool (decide (x3 < (32769 : Int)))) (QV.lss rfl rfl) rfl rfl rfl ?_
            refine JL.val (v := .bool (decide (x3 < (32769 : Int)))) (QV.pickT rfl rfl) rfl rfl rfl ?_
            refine JL.val (v := .bool (decide (x3 < (32769 : Int)))) (QV.assign rfl) rfl rfl rfl ?_
            refine JL.nil ?_
            refine QJ.then_normal ?_
            refine JC.ret ?_
            obtain rfl := Option.some.inj hm
            exact QJ.body (vs := [.bool (decide (x3 < (32769 : Int)))]) (.inl rfl) rfl (ResVs.cons (ResV.tmp rfl) ResVs.nil) [] rfl rfl (.inr trivial) ⟨rfl, rfl⟩
          ·
            refine JL.val (v := .bool false) (QV.eq (QV.move rfl) (congrArg Value.bool (decide_eq_false h10))) rfl rfl rfl ?_
            refine JL.skip (d := some 28) rfl rfl rfl ?_
            refine JL.skip (d := some 29) rfl rfl rfl ?_
            refine JL.skip (d := some 30) rfl rfl rfl ?_
            refine JL.val (v := .bool false) (QV.pickF rfl rfl) rfl rfl rfl ?_
            refine JL.val (v := .bool false) (QV.assign rfl) rfl rfl rfl ?_
            refine JL.nil ?_
            refine QJ.then_normal ?_
            refine JC.ret ?_
            obtain rfl := Option.some.inj hm
            exact QJ.body (vs := [.bool false]) (.inl rfl) rfl (ResVs.cons (ResV.tmp rfl) ResVs.nil) [] rfl rfl (.inr trivial) ⟨rfl, rfl⟩
        ·
          refine JL.val (v := .bool false) (QV.eq (QV.move rfl) (congrArg Value.bool (decide_eq_false h9))) rfl rfl rfl ?_
          refine JL.skip (d := some 23) rfl rfl rfl ?_
          refine JL.skip (d := some 24) rfl rfl rfl ?_
          refine JL.skip (d := some 25) rfl rfl rfl ?_
          refine JL.val (v := .bool false) (QV.pickF rfl rfl) rfl rfl rfl ?_
          refine JL.val (v := .bool false) (QV.move rfl) rfl rfl rfl ?_
          refine JL.skip (d := some 28) rfl rfl rfl ?_
          refine JL.skip (d := some 29) rfl rfl rfl ?_
          refine JL.skip (d := some 30) rfl rfl rfl ?_
          refine JL.val (v := .bool false) (QV.pickF rfl rfl) rfl rfl rfl ?_
          refine JL.val (v := .bool false) (QV.assign rfl) rfl rfl rfl ?_
          refine JL.nil ?_
          refine QJ.then_normal ?_
          refine JC.ret ?_
          obtain rfl := Option.some.inj hm
          exact QJ.body (vs := [.bool false]) (.inl rfl) rfl (ResVs.cons (ResV.tmp rfl) ResVs.nil) [] rfl rfl (.inr trivial) ⟨rfl, rfl⟩
      ·
        refine JL.val (v := .bool false) (QV.eq (QV.move rfl) (congrArg Value.bool (decide_eq_false h8))) rfl rfl rfl ?_
        refine JL.skip (d := some 18) rfl rfl rfl ?_
        refine JL.skip (d := some 19) rfl rfl rfl ?_
        refine JL.skip (d := some 20) rfl rfl rfl ?_
        refine JL.val (v := .bool false) (QV.pickF rfl rfl) rfl rfl rfl ?_
        refine JL.val (v := .bool false) (QV.move rfl) rfl rfl rfl ?_
        refine JL.skip (d := some 23) rfl rfl rfl ?_
        refine JL.skip (d := some 24) rfl rfl rfl ?_
        refine JL.skip (d := some 25) rfl rfl rfl ?_
        refine JL.val (v := .bool false) (QV.pickF rfl rfl) rfl rfl rfl ?_
        refine JL.val (v := .bool false) (QV.move rfl) rfl rfl rfl ?_
        refine JL.skip (d := some 28) rfl rfl rfl ?_
        refine JL.skip (d := some 29) rfl rfl rfl ?_
        refine JL.skip (d := some 30) rfl rfl rfl ?_
        refine JL.val (v := .bool false) (QV.pickF rfl rfl) rfl rfl rfl ?_
        refine JL.val (v := .bool false) (QV.assign rfl) rfl rfl rfl ?_
        refine JL.nil ?_
        refine QJ.then_normal ?_
        refine JC.ret ?_
        obtain rfl := Option.some.inj hm
        exact QJ.body (vs := [.bool false]) (.inl rfl) rfl (ResVs.cons (ResV.tmp rfl) ResVs.nil) [] rfl rfl (.inr trivial) ⟨rfl, rfl⟩
    ·
      refine JL.val (v := .bool false) (QV.eq (QV.move rfl) (congrArg Value.bool (decide_eq_false h7))) rfl rfl rfl ?_
      refine JL.skip (d := some 13) rfl rfl rfl ?_
      refine JL.skip (d := some 14) rfl rfl rfl ?_
      refine JL.skip (d := some 15) rfl rfl rfl ?_
      refine JL.val (v := .bool false) (QV.pickF rfl rfl) rfl rfl rfl ?_
      refine JL.val (v := .bool false) (QV.move rfl) rfl rfl rfl ?_
      refine JL.skip (d := some 18) rfl rfl rfl ?_
      refine JL.skip (d := some 19) rfl rfl rfl ?_
      refine JL.skip (d := some 20) rfl rfl rfl ?_
      refine JL.val (v := .bool false) (QV.pickF rfl rfl) rfl rfl rfl ?_
      refine JL.val (v := .bool false) (QV.move rfl) rfl rfl rfl ?_
      refine JL.skip (d := some 23) rfl rfl rfl ?_
      refine JL.skip (d := some 24) rfl rfl rfl ?_
      refine JL.skip (d := some 25) rfl rfl rfl ?_
      refine JL.val (v := .bool false) (QV.pickF rfl rfl) rfl rfl rfl ?_
      refine JL.val (v := .bool false) (QV.move rfl) rfl rfl rfl ?_
      refine JL.skip (d := some 28) rfl rfl rfl ?_
      refine JL.skip (d := some 29) rfl rfl rfl ?_
      refine JL.skip (d := some 30) rfl rfl rfl ?_
      refine JL.val (v := .bool false) (QV.pickF rfl rfl) rfl rfl rfl ?_
      refine JL.val (v := .bool false) (QV.assign rfl) rfl rfl rfl ?_
      refine JL.nil ?_
      refine QJ.then_normal ?_
      refine JC.ret ?_
      obtain rfl := Option.some.inj hm
      exact QJ.body (vs := [.bool false]) (.inl rfl) rfl (ResVs.cons (ResV.tmp rfl) ResVs.nil) [] rfl rfl (.inr trivial) ⟨rfl, rfl⟩

/-! ### 19: drogher/drogherref11.Expand -/
noncomputable def F19.j1  (d9 : List Int) : Option (List Int × Int) :=
  some (d9, (0 : Int))
noncomputable def F19.j2 (d12 : Int) (d22 : List Int) : Option ((List Int × Int) ⊕ (((List Int × Int)) ⊕ (List Int))) :=
  some (.inl (d22, (IntKind.wrap .i64 (d12 + (1 : Int)))))
noncomputable def F19.j4 (d12 : Int) (d32 : List Int) : Option ((List Int × Int) ⊕ (((List Int × Int)) ⊕ (List Int))) :=
  F19.j2 d12 (d32)
noncomputable def F19.j5 (d35 : Int) (d47 : List Int) : Option ((List Int × Int) ⊕ (((List Int × Int)) ⊕ (List Int))) :=
  some (.inl (d47, (IntKind.wrap .i64 (d35 + (1 : Int)))))
noncomputable def F19.b2 (x2 : List (Int × Int × Int)) (x3 : Int) (d12 : Int) (d30 : Int) : (List Int × Int) → Option ((List Int × Int) ⊕ (((List Int × Int)) ⊕ (List Int)))
  | (d34, d35) => (if d35 < d30 then (if x3 ≤ ((d34).length : Int) then some (.inr (.inl ((([] : List Int), (12 : Int))))) else (if (gd x2 d12).2.1 = (0 : Int) then (if ((d34).length + ([(gd x2 d12).1]).length) * 1 ≤ 140737488355328 ∧ (d34).length + ([(gd x2 d12).1]).length ≤ 9223372036854775807 then F19.j5 d35 ((d34 ++ [(gd x2 d12).1])) else none) else (if 0 ≤ (IntKind.wrap .i64 (((d34).length : Int) - (gd x2 d12).2.2)) ∧ (IntKind.wrap .i64 (((d34).length : Int) - (gd x2 d12).2.2)) < ((d34).length : Int) then (if ((d34).length + ([(gd d34 (IntKind.wrap .i64 (((d34).length : Int) - (gd x2 d12).2.2)))]).length) * 1 ≤ 140737488355328 ∧ (d34).length + ([(gd d34 (IntKind.wrap .i64 (((d34).length : Int) - (gd x2 d12).2.2)))]).length ≤ 9223372036854775807 then F19.j5 d35 ((d34 ++ [(gd d34 (IntKind.wrap .i64 (((d34).length : Int) - (gd x2 d12).2.2)))])) else none) else none))) else some (.inr (.inr (d34))))
noncomputable def F19.j3 (x2 : List (Int × Int × Int)) (x3 : Int) (d11 : List Int) (d12 : Int) (d30 : Int) : Option ((List Int × Int) ⊕ (((List Int × Int)) ⊕ (List Int))) :=
  ((loop (F19.b2 x2 x3 d12 d30) (d11, (0 : Int))).bind fun y => match y with | .inl r => some (.inr (.inl (r))) | .inr d32 => F19.j4 d12 (d32))
noncomputable def F19.b1 (x2 : List (Int × Int × Int)) (x3 : Int) : (List Int × Int) → Option ((List Int × Int) ⊕ (((List Int × Int)) ⊕ (List Int)))
  | (d11, d12) => (if d12 < ((x2).length : Int) then (if 0 ≤ d12 ∧ d12 < ((x2).length : Int) then ((F16.m ((gd x2 d12).1) ((gd x2 d12).2.1) ((gd x2 d12).2.2)).bind fun y25 => (if y25 = true then (if ((d11).length : Int) < (gd x2 d12).2.2 then some (.inr (.inl ((([] : List Int), (5 : Int))))) else (if (gd x2 d12).2.1 = (0 : Int) then F19.j3 x2 x3 d11 d12 ((1 : Int)) else F19.j3 x2 x3 d11 d12 ((gd x2 d12).2.1))) else some (.inr (.inl ((([] : List Int), (3 : Int))))))) else none) else some (.inr (.inr (d11))))
noncomputable def F19.m (x2 : List (Int × Int × Int)) (x3 : Int) : Option (List Int × Int) :=
  ((loop (F19.b1 x2 x3) (([] : List Int), (0 : Int))).bind fun y => match y with | .inl r => some r | .inr d9 => F19.j1 (d9))
set_option maxRecDepth 100000 in
set_option maxHeartbeats 4000000 in
theorem F19.spec (s1 : SlV) (x2 : List (Int × Int × Int)) (x3 : Int) (r : (List Int × Int)) (hm : F19.m x2 x3 = some r) :
    Ctr Try.prog false 19 [s1.v, .int .i64 x3] [Asr.vw (Enc.pair (Enc.int .u8) (Enc.pair (Enc.int .i64) (Enc.int .i64))) (s1.v) x2] (fun v L' => ∃ (g4 : SlV), v = .tuple #[g4.v, .int .i64 r.2] ∧ L' = [Asr.of 5 (Enc.int .u8) (g4.v) r.1]) := by
  refine Ctr.intro (n := 68) (env := [(0, s1.v), (1, .int .i64 x3)]) Try.func19 rfl rfl rfl rfl (fun c => ?_)
  unfold F19.m at hm
  refine JC.seq ?_
  refine JC.region ?_
  refine JL.ent (fun _ hs => hs.nil 5 (Enc.int .u8)) ?_
  refine JL.val (v := SlV.nil.v) (QV.assign rfl) rfl rfl rfl ?_
  refine JL.val (v := .int .i64 (0 : Int)) (QV.assign rfl) rfl rfl rfl ?_
  refine JL.nil ?_
  refine QJ.then_normal ?_
  refine JC.seq ?_
  refine JC.region ?_
  refine JL.mv (d := some 12) (MV.lit0 (Enc.int .u8) Try.underlying26 (by kernel_rfl)) rfl rfl rfl ?_
  rintro _ _ ⟨z7, rfl, rfl⟩
  refine JL.val (v := z7.v) (QV.assign rfl) rfl rfl rfl ?_
  refine JL.nil ?_
  refine QJ.then_normal ?_
  refine JC.seq ?_
  refine JC.seq ?_
  refine JC.region ?_
  refine JL.val (v := s1.v) (QV.move rfl) rfl rfl rfl ?_
  refine JL.val (v := .int .i64 ((x2).length : Int)) (QV.len (Rdg.vw 2 rfl) Try.underlying27 rfl) rfl rfl rfl ?_
  refine JL.val (v := .int .i64 (0 : Int)) (QV.move rfl) rfl rfl rfl ?_
  refine JL.nil ?_
  refine QJ.then_normal ?_
  refine JC.cutK (Y := (List Int) × SlV) (fun y => match y with | (d9, _) => F19.j1 (d9) = some r) (fun y => match y with | (d9, z8) => [(6, z8.v)]) (fun y => match y with | (d9, z8) => [Asr.of 5 (Enc.int .u8) (z8.v) d9]) ?_ ?_
  ·
    rintro ⟨d9, z8⟩ hm
    unfold F19.j1 at hm
    show QJ _ _ [(6, z8.v)] [Asr.of 5 (Enc.int .u8) (z8.v) d9] _ _
    refine QJ.then_normal ?_
    refine JC.seq ?_
    refine JC.region ?_
    refine JL.val (v := z8.v) (QV.move rfl) rfl rfl rfl ?_
    refine JL.val (v := z8.v) (QV.assign rfl) rfl rfl rfl ?_
    refine JL.val (v := .int .i64 (0 : Int)) (QV.assign rfl) rfl rfl rfl ?_
    refine JL.nil ?_
    refine QJ.then_normal ?_
    refine JC.ret ?_
    obtain rfl := Option.some.inj hm
    exact QJ.body (vs := [z8.v, .int .i64 (0 : Int)]) (.inl rfl) rfl (ResVs.cons (ResV.tmp rfl) (ResVs.cons (ResV.tmp rfl) ResVs.nil)) [0] rfl rfl (.inr ⟨own_of _ _ _ _, trivial⟩) ⟨z8, rfl, rfl⟩
  ·
    refine JC.block ?_
    obtain ⟨y16, hl17, hmo18⟩ := bind_inv hm
    refine JC.loop (F19.b1 x2 x3) (fun x z => match x, z with | (d11, d12), z10 => [(0, s1.v), (1, .int .i64 x3), (6, z10.v), (14, .int .i64 ((x2).length : Int)), (15, .int .i64 d12)]) (fun x z => match x, z with | (d11, d12), z10 => [Asr.vw (Enc.pair (Enc.int .u8) (Enc.pair (Enc.int .i64) (Enc.int .i64))) (s1.v) x2, Asr.of 5 (Enc.int .u8) (z10.v) d11]) (([] : List Int), (0 : Int)) z7 y16 hl17 [2, 0] (by exact ⟨rfl, rfl, rfl, rfl, rfl, trivial⟩) rfl rfl ?_
    rintro ⟨d11, d12⟩ z10 s19 hm
    unfold F19.b1 at hm
    dsimp only at hm
    show JC _ _ _ [(0, s1.v), (1, .int .i64 x3), (6, z10.v), (14, .int .i64 ((x2).length : Int)), (15, .int .i64 d12)] [Asr.vw (Enc.pair (Enc.int .u8) (Enc.pair (Enc.int .i64) (Enc.int .i64))) (s1.v) x2, Asr.of 5 (Enc.int .u8) (z10.v) d11] _ _
    refine JC.seq ?_
    refine JC.region ?_
    refine JL.val (v := .bool (decide (d12 < ((x2).length : Int)))) (QV.lss rfl rfl) rfl rfl rfl ?_
    refine JL.nil ?_
    refine QJ.then_normal ?_
    refine JC.seq ?_
    rcases ite_inv hm with ⟨h20, hm⟩ | ⟨h20, hm⟩
    ·
      refine JC.condT' rfl (decide_eq_true h20) ?_
      refine JC.skip ?_
      refine QJ.then_normal ?_
      refine JC.seq ?_
      refine JC.cutK (Y := (List Int) × SlV) (fun y => match y with | (d22, _) => F19.j2 d12 (d22) = some s19) (fun y => match y with | (d22, z21) => [(0, s1.v), (1, .int .i64 x3), (6, z21.v), (14, .int .i64 ((x2).length : Int)), (15, .int .i64 d12)]) (fun y => match y with | (d22, z21) => [Asr.vw (Enc.pair (Enc.int .u8) (Enc.pair (Enc.int .i64) (Enc.int .i64))) (s1.v) x2, Asr.of 5 (Enc.int .u8) (z21.v) d22]) ?_ ?_
      ·
        rintro ⟨d22, z21⟩ hm
        unfold F19.j2 at hm
        show QJ _ _ [(0, s1.v), (1, .int .i64 x3), (6, z21.v), (14, .int .i64 ((x2).length : Int)), (15, .int .i64 d12)] [Asr.vw (Enc.pair (Enc.int .u8) (Enc.pair (Enc.int .i64) (Enc.int .i64))) (s1.v) x2, Asr.of 5 (Enc.int .u8) (z21.v) d22] _ _
        refine QJ.then_normal ?_
        refine JC.region ?_
        refine JL.val (v := .int .i64 (IntKind.wrap .i64 (d12 + (1 : Int)))) (QV.add rfl rfl) rfl rfl rfl ?_
        refine JL.val (v := .int .i64 (IntKind.wrap .i64 (d12 + (1 : Int)))) (QV.move rfl) rfl rfl rfl ?_
        refine JL.nil ?_
        obtain rfl := Option.some.inj hm
        exact QJ.round_on (d22, (IntKind.wrap .i64 (d12 + (1 : Int)))) z21 [0, 1] (by exact ⟨rfl, rfl, rfl, rfl, rfl, trivial⟩) rfl rfl
      ·
        refine JC.block ?_
        refine JC.seq ?_
        refine JC.region ?_
        refine JL.val (v := .int .i64 d12) (QV.move rfl) rfl rfl rfl ?_
        refine JL.val (v := .int .i64 d12) (QV.assign rfl) rfl rfl rfl ?_
        refine JL.nil ?_
        refine QJ.then_normal ?_
        refine JC.seq ?_
        refine JC.region ?_
        refine JL.val (v := s1.v) (QV.move rfl) rfl rfl rfl ?_
        refine JL.val (v := .int .i64 d12) (QV.move rfl) rfl rfl rfl ?_
        obtain ⟨h23, hm⟩ := guard_inv hm
        refine JL.val (v := .pointer (some (elA (s1.v) (Int.toNat d12 * ((Enc.pair (Enc.int .u8) (Enc.pair (Enc.int .i64) (Enc.int .i64)))).sz)))) (QV.indexA (Rdg.vw 0 rfl) Try.underlying27 tk_23 rfl rfl h23) rfl rfl rfl ?_
        refine JL.val (v := .agg #[.int .u8 (gd x2 d12).1, .int .i64 (gd x2 d12).2.1, .int .i64 (gd x2 d12).2.2]) (QV.eq (QV.elN (Rdg.vw 0 rfl) tk_23 rfl h23) rfl) rfl rfl rfl ?_
        refine JL.mv (d := some 8) (MV.alloc [Seg.c (.int .u8 (0 : Int)), Seg.c (.int .i64 (0 : Int)), Seg.c (.int .i64 (0 : Int))] z_23 rfl) rfl rfl rfl ?_
        rintro _ _ ⟨b24, rfl, rfl⟩
        refine JL.mv (d := none) (MV.store (ss := [Seg.c (.int .u8 (0 : Int)), Seg.c (.int .i64 (0 : Int)), Seg.c (.int .i64 (0 : Int))]) 0 0 3 [Seg.c (.int .u8 (gd x2 d12).1), Seg.c (.int .i64 (gd x2 d12).2.1), Seg.c (.int .i64 (gd x2 d12).2.2)] rfl tk_23 rfl rfl rfl rfl (fun w hs => ⟨rfl, one_c rfl, one_c rfl, one_c rfl, trivial⟩)) rfl rfl rfl ?_
        rintro _ _ ⟨rfl, rfl⟩
        refine JL.nil ?_
        refine QJ.then_normal ?_
        refine JC.seq ?_
        refine JC.seq ?_
        refine JC.region ?_
        refine JL.val (v := .agg #[.int .u8 (gd x2 d12).1, .int .i64 (gd x2 d12).2.1, .int .i64 (gd x2 d12).2.2]) (QV.eq (QV.loadN (ss := [Seg.c (.int .u8 (gd x2 d12).1), Seg.c (.int .i64 (gd x2 d12).2.1), Seg.c (.int .i64 (gd x2 d12).2.2)]) 0 0 3 rfl tk_23 rfl rfl rfl rfl) rfl) rfl rfl rfl ?_
        obtain ⟨y25, hc26, hm⟩ := bind_inv hm
        refine JL.mv (d := some 23) (MV.call (Lo := []) (Lr := [Asr.blk b24 23 [Seg.c (.int .u8 (gd x2 d12).1), Seg.c (.int .i64 (gd x2 d12).2.1), Seg.c (.int .i64 (gd x2 d12).2.2)], Asr.vw (Enc.pair (Enc.int .u8) (Enc.pair (Enc.int .i64) (Enc.int .i64))) (s1.v) x2, Asr.of 5 (Enc.int .u8) (z10.v) d11]) (F16.spec ((gd x2 d12).1) ((gd x2 d12).2.1) ((gd x2 d12).2.2) _ hc26) rfl Try.func16 rfl rfl rfl [] [0, 1, 2] rfl rfl rfl trivial) rfl rfl rfl ?_
        rintro _ _ ⟨_, ⟨rfl, rfl⟩, rfl⟩
        refine JL.val (v := .bool (!y25)) (QV.not rfl) rfl rfl rfl ?_
        refine JL.nil ?_
        refine QJ.then_normal ?_
        rcases ite_inv hm with ⟨h27, hm⟩ | ⟨h27, hm⟩
        ·
          refine JC.condF' rfl (congrArg Bool.not h27) ?_
          refine JC.skip ?_
          refine QJ.then_normal ?_
          refine JC.seq ?_
          refine JC.seq ?_
          refine JC.region ?_
          refine JL.val (v := .pointer (some ⟨b24, 2, none⟩)) (QV.fieldB fo_23_2 rfl rfl) rfl rfl rfl ?_
          refine JL.val (v := .int .i64 (gd x2 d12).2.2) (QV.load1 (ss := [Seg.c (.int .u8 (gd x2 d12).1), Seg.c (.int .i64 (gd x2 d12).2.1), Seg.c (.int .i64 (gd x2 d12).2.2)]) 0 2 rfl tk_3 rfl rfl rfl) rfl rfl rfl ?_
          refine JL.val (v := z10.v) (QV.move rfl) rfl rfl rfl ?_
          refine JL.val (v := .int .i64 ((d11).length : Int)) (QV.len (Rdg.of 2 rfl) Try.underlying26 rfl) rfl rfl rfl ?_
          refine JL.val (v := .bool (decide (((d11).length : Int) < (gd x2 d12).2.2))) (QV.gtr rfl rfl) rfl rfl rfl ?_
          refine JL.nil ?_
          refine QJ.then_normal ?_
          rcases ite_inv hm with ⟨h28, hm⟩ | ⟨h28, hm⟩
          ·
            refine JC.condT' rfl (decide_eq_true h28) ?_
            refine JC.seq ?_
            refine JC.region ?_
            refine JL.mv (d := some 31) (MV.lit0 (Enc.int .u8) Try.underlying26 (by kernel_rfl)) rfl rfl rfl ?_
            rintro _ _ ⟨z29, rfl, rfl⟩
            refine JL.val (v := z29.v) (QV.assign rfl) rfl rfl rfl ?_
            refine JL.val (v := .int .i64 (5 : Int)) (QV.assign rfl) rfl rfl rfl ?_
            refine JL.nil ?_
            refine QJ.then_normal ?_
            refine JC.ret ?_
            refine QJ.then_ret ?_
            refine QJ.block_ret ?_
            refine QJ.cut_ret ?_
            refine QJ.then_ret ?_
            obtain rfl := Option.some.inj hm
            refine QJ.round_ret (fun hy => ?_)
            subst hy
            refine QJ.block_ret ?_
            refine QJ.cut_ret ?_
            refine QJ.then_ret ?_
            obtain rfl := Option.some.inj hmo18
            exact QJ.body (vs := [z29.v, .int .i64 (5 : Int)]) (.inl rfl) rfl (ResVs.cons (ResV.tmp rfl) (ResVs.cons (ResV.tmp rfl) ResVs.nil)) [0] rfl rfl (.inr ⟨own_of _ _ _ _, trivial⟩) ⟨z29, rfl, rfl⟩
          ·
            refine JC.condF' rfl (decide_eq_false h28) ?_
            refine JC.skip ?_
            refine QJ.then_normal ?_
            refine JC.seq ?_
            refine JC.region ?_
            refine JL.val (v := .pointer (some ⟨b24, 1, none⟩)) (QV.fieldB fo_23_1 rfl rfl) rfl rfl rfl ?_
            refine JL.val (v := .int .i64 (gd x2 d12).2.1) (QV.load1 (ss := [Seg.c (.int .u8 (gd x2 d12).1), Seg.c (.int .i64 (gd x2 d12).2.1), Seg.c (.int .i64 (gd x2 d12).2.2)]) 0 1 rfl tk_3 rfl rfl rfl) rfl rfl rfl ?_
            refine JL.val (v := .int .i64 (gd x2 d12).2.1) (QV.assign rfl) rfl rfl rfl ?_
            refine JL.nil ?_
            refine QJ.then_normal ?_
            refine JC.seq ?_
            refine JC.seq ?_
            refine JC.region ?_
            refine JL.val (v := .int .i64 (gd x2 d12).2.1) (QV.move rfl) rfl rfl rfl ?_
            refine JL.val (v := .bool (decide ((gd x2 d12).2.1 = (0 : Int)))) (QV.eql rfl rfl) rfl rfl rfl ?_
            refine JL.nil ?_
            refine QJ.then_normal ?_
            refine JC.cutK (Y := Int × Unit) (fun y => match y with | (d30, _) => F19.j3 x2 x3 d11 d12 (d30) = some s19) (fun y => match y with | (d30, _) => [(0, s1.v), (1, .int .i64 x3), (6, z10.v), (8, .pointer (some ⟨b24, 0, none⟩)), (9, .int .i64 d30), (14, .int .i64 ((x2).length : Int)), (15, .int .i64 d12)]) (fun y => match y with | (d30, _) => [Asr.vw (Enc.pair (Enc.int .u8) (Enc.pair (Enc.int .i64) (Enc.int .i64))) (s1.v) x2, Asr.of 5 (Enc.int .u8) (z10.v) d11, Asr.blk b24 23 [Seg.c (.int .u8 (gd x2 d12).1), Seg.c (.int .i64 (gd x2 d12).2.1), Seg.c (.int .i64 (gd x2 d12).2.2)]]) ?_ ?_
            ·
              rintro ⟨d30, ⟨⟩⟩ hm
              unfold F19.j3 at hm
              show QJ _ _ [(0, s1.v), (1, .int .i64 x3), (6, z10.v), (8, .pointer (some ⟨b24, 0, none⟩)), (9, .int .i64 d30), (14, .int .i64 ((x2).length : Int)), (15, .int .i64 d12)] [Asr.vw (Enc.pair (Enc.int .u8) (Enc.pair (Enc.int .i64) (Enc.int .i64))) (s1.v) x2, Asr.of 5 (Enc.int .u8) (z10.v) d11, Asr.blk b24 23 [Seg.c (.int .u8 (gd x2 d12).1), Seg.c (.int .i64 (gd x2 d12).2.1), Seg.c (.int .i64 (gd x2 d12).2.2)]] _ _
              refine QJ.then_normal ?_
              refine JC.seq ?_
              refine JC.region ?_
              refine JL.val (v := .int .i64 (0 : Int)) (QV.assign rfl) rfl rfl rfl ?_
              refine JL.nil ?_
              refine QJ.then_normal ?_
              refine JC.cutK (Y := (List Int) × SlV) (fun y => match y with | (d32, _) => F19.j4 d12 (d32) = some s19) (fun y => match y with | (d32, z31) => [(0, s1.v), (1, .int .i64 x3), (6, z31.v), (14, .int .i64 ((x2).length : Int)), (15, .int .i64 d12)]) (fun y => match y with | (d32, z31) => [Asr.vw (Enc.pair (Enc.int .u8) (Enc.pair (Enc.int .i64) (Enc.int .i64))) (s1.v) x2, Asr.of 5 (Enc.int .u8) (z31.v) d32]) ?_ ?_
              ·
                rintro ⟨d32, z31⟩ hm
                unfold F19.j4 at hm
                show QJ _ _ [(0, s1.v), (1, .int .i64 x3), (6, z31.v), (14, .int .i64 ((x2).length : Int)), (15, .int .i64 d12)] [Asr.vw (Enc.pair (Enc.int .u8) (Enc.pair (Enc.int .i64) (Enc.int .i64))) (s1.v) x2, Asr.of 5 (Enc.int .u8) (z31.v) d32] _ _
                refine QJ.block_normal ?_
                exact QJ.cut_normal (d32, z31) hm [0, 1] (by exact ⟨rfl, rfl, rfl, rfl, rfl, trivial⟩) rfl rfl
              ·
                refine JC.block ?_
                obtain ⟨y39, hl40, hmo41⟩ := bind_inv hm
                refine JC.loop (F19.b2 x2 x3 d12 d30) (fun x z => match x, z with | (d34, d35), z33 => [(0, s1.v), (1, .int .i64 x3), (6, z33.v), (8, .pointer (some ⟨b24, 0, none⟩)), (9, .int .i64 d30), (10, .int .i64 d35), (14, .int .i64 ((x2).length : Int)), (15, .int .i64 d12)]) (fun x z => match x, z with | (d34, d35), z33 => [Asr.vw (Enc.pair (Enc.int .u8) (Enc.pair (Enc.int .i64) (Enc.int .i64))) (s1.v) x2, Asr.of 5 (Enc.int .u8) (z33.v) d34, Asr.blk b24 23 [Seg.c (.int .u8 (gd x2 d12).1), Seg.c (.int .i64 (gd x2 d12).2.1), Seg.c (.int .i64 (gd x2 d12).2.2)]]) (d11, (0 : Int)) z10 y39 hl40 [0, 1, 2] (by exact ⟨rfl, rfl, rfl, rfl, rfl, rfl, rfl, rfl, trivial⟩) rfl rfl ?_
                rintro ⟨d34, d35⟩ z33 s42 hm
                unfold F19.b2 at hm
                dsimp only at hm
                show JC _ _ _ [(0, s1.v), (1, .int .i64 x3), (6, z33.v), (8, .pointer (some ⟨b24, 0, none⟩)), (9, .int .i64 d30), (10, .int .i64 d35), (14, .int .i64 ((x2).length : Int)), (15, .int .i64 d12)] [Asr.vw (Enc.pair (Enc.int .u8) (Enc.pair (Enc.int .i64) (Enc.int .i64))) (s1.v) x2, Asr.of 5 (Enc.int .u8) (z33.v) d34, Asr.blk b24 23 [Seg.c (.int .u8 (gd x2 d12).1), Seg.c (.int .i64 (gd x2 d12).2.1), Seg.c (.int .i64 (gd x2 d12).2.2)]] _ _
                refine JC.seq ?_
                refine JC.seq ?_
                refine JC.region ?_
                refine JL.val (v := .int .i64 d35) (QV.move rfl) rfl rfl rfl ?_
                refine JL.val (v := .int .i64 d30) (QV.move rfl) rfl rfl rfl ?_
                refine JL.val (v := .bool (decide (d35 < d30))) (QV.lss rfl rfl) rfl rfl rfl ?_
                refine JL.nil ?_
                refine QJ.then_normal ?_
                rcases ite_inv hm with ⟨h43, hm⟩ | ⟨h43, hm⟩
                ·
                  refine JC.condT' rfl (decide_eq_true h43) ?_
                  refine JC.skip ?_
                  refine QJ.then_normal ?_
                  refine JC.seq ?_
                  refine JC.block ?_
                  refine JC.seq ?_
                  refine JC.seq ?_
                  refine JC.region ?_
                  refine JL.val (v := z33.v) (QV.move rfl) rfl rfl rfl ?_
                  refine JL.val (v := .int .i64 ((d34).length : Int)) (QV.len (Rdg.of 1 rfl) Try.underlying26 rfl) rfl rfl rfl ?_
                  refine JL.val (v := .int .i64 x3) (QV.move rfl) rfl rfl rfl ?_
                  refine JL.val (v := .bool (decide (x3 ≤ ((d34).length : Int)))) (QV.geq rfl rfl) rfl rfl rfl ?_
                  refine JL.nil ?_
                  refine QJ.then_normal ?_
                  rcases ite_inv hm with ⟨h44, hm⟩ | ⟨h44, hm⟩
                  ·
                    refine JC.condT' rfl (decide_eq_true h44) ?_
                    refine JC.seq ?_
                    refine JC.region ?_
                    refine JL.mv (d := some 45) (MV.lit0 (Enc.int .u8) Try.underlying26 (by kernel_rfl)) rfl rfl rfl ?_
                    rintro _ _ ⟨z45, rfl, rfl⟩
                    refine JL.val (v := z45.v) (QV.assign rfl) rfl rfl rfl ?_
                    refine JL.val (v := .int .i64 (12 : Int)) (QV.assign rfl) rfl rfl rfl ?_
                    refine JL.nil ?_
                    refine QJ.then_normal ?_
                    refine JC.ret ?_
                    refine QJ.then_ret ?_
                    refine QJ.block_ret ?_
                    refine QJ.then_ret ?_
                    obtain rfl := Option.some.inj hm
                    refine QJ.round_ret (fun hy => ?_)
                    subst hy
                    refine QJ.block_ret ?_
                    refine QJ.cut_ret ?_
                    refine QJ.block_ret ?_
                    refine QJ.cut_ret ?_
                    refine QJ.then_ret ?_
                    obtain rfl := Option.some.inj hmo41
                    refine QJ.round_ret (fun hy => ?_)
                    subst hy
                    refine QJ.block_ret ?_
                    refine QJ.cut_ret ?_
                    refine QJ.then_ret ?_
                    obtain rfl := Option.some.inj hmo18
                    exact QJ.body (vs := [z45.v, .int .i64 (12 : Int)]) (.inl rfl) rfl (ResVs.cons (ResV.tmp rfl) (ResVs.cons (ResV.tmp rfl) ResVs.nil)) [0] rfl rfl (.inr ⟨own_of _ _ _ _, trivial⟩) ⟨z45, rfl, rfl⟩
                  ·
                    refine JC.condF' rfl (decide_eq_false h44) ?_
                    refine JC.skip ?_
                    refine QJ.then_normal ?_
                    refine JC.seq ?_
                    refine JC.region ?_
                    refine JL.val (v := .pointer (some ⟨b24, 1, none⟩)) (QV.fieldB fo_23_1 rfl rfl) rfl rfl rfl ?_
                    refine JL.val (v := .int .i64 (gd x2 d12).2.1) (QV.load1 (ss := [Seg.c (.int .u8 (gd x2 d12).1), Seg.c (.int .i64 (gd x2 d12).2.1), Seg.c (.int .i64 (gd x2 d12).2.2)]) 2 1 rfl tk_3 rfl rfl rfl) rfl rfl rfl ?_
                    refine JL.val (v := .bool (decide ((gd x2 d12).2.1 = (0 : Int)))) (QV.eql rfl rfl) rfl rfl rfl ?_
                    refine JL.nil ?_
                    refine QJ.then_normal ?_
                    refine JC.cutK (Y := (List Int) × SlV) (fun y => match y with | (d47, _) => F19.j5 d35 (d47) = some s42) (fun y => match y with | (d47, z46) => [(0, s1.v), (1, .int .i64 x3), (6, z46.v), (8, .pointer (some ⟨b24, 0, none⟩)), (9, .int .i64 d30), (10, .int .i64 d35), (14, .int .i64 ((x2).length : Int)), (15, .int .i64 d12)]) (fun y => match y with | (d47, z46) => [Asr.vw (Enc.pair (Enc.int .u8) (Enc.pair (Enc.int .i64) (Enc.int .i64))) (s1.v) x2, Asr.of 5 (Enc.int .u8) (z46.v) d47, Asr.blk b24 23 [Seg.c (.int .u8 (gd x2 d12).1), Seg.c (.int .i64 (gd x2 d12).2.1), Seg.c (.int .i64 (gd x2 d12).2.2)]]) ?_ ?_
                    ·
                      rintro ⟨d47, z46⟩ hm
                      unfold F19.j5 at hm
                      show QJ _ _ [(0, s1.v), (1, .int .i64 x3), (6, z46.v), (8, .pointer (some ⟨b24, 0, none⟩)), (9, .int .i64 d30), (10, .int .i64 d35), (14, .int .i64 ((x2).length : Int)), (15, .int .i64 d12)] [Asr.vw (Enc.pair (Enc.int .u8) (Enc.pair (Enc.int .i64) (Enc.int .i64))) (s1.v) x2, Asr.of 5 (Enc.int .u8) (z46.v) d47, Asr.blk b24 23 [Seg.c (.int .u8 (gd x2 d12).1), Seg.c (.int .i64 (gd x2 d12).2.1), Seg.c (.int .i64 (gd x2 d12).2.2)]] _ _
                      refine QJ.block_normal ?_
                      refine QJ.then_normal ?_
                      refine JC.region ?_
                      refine JL.val (v := .int .i64 d35) (QV.move rfl) rfl rfl rfl ?_
                      refine JL.val (v := .int .i64 (IntKind.wrap .i64 (d35 + (1 : Int)))) (QV.add rfl rfl) rfl rfl rfl ?_
                      refine JL.val (v := .int .i64 (IntKind.wrap .i64 (d35 + (1 : Int)))) (QV.assign rfl) rfl rfl rfl ?_
                      refine JL.nil ?_
                      obtain rfl := Option.some.inj hm
                      exact QJ.round_on (d47, (IntKind.wrap .i64 (d35 + (1 : Int)))) z46 [0, 1, 2] (by exact ⟨rfl, rfl, rfl, rfl, rfl, rfl, rfl, rfl, trivial⟩) rfl rfl
                    ·
                      rcases ite_inv hm with ⟨h48, hm⟩ | ⟨h48, hm⟩
                      ·
                        refine JC.condT' rfl (decide_eq_true h48) ?_
                        refine JC.region ?_
                        refine JL.val (v := z33.v) (QV.move rfl) rfl rfl rfl ?_
                        refine JL.val (v := .pointer (some ⟨b24, 0, none⟩)) (QV.fieldB fo_23_0 rfl rfl) rfl rfl rfl ?_
                        refine JL.val (v := .int .u8 (gd x2 d12).1) (QV.load1 (ss := [Seg.c (.int .u8 (gd x2 d12).1), Seg.c (.int .i64 (gd x2 d12).2.1), Seg.c (.int .i64 (gd x2 d12).2.2)]) 2 0 rfl tk_5 rfl rfl rfl) rfl rfl rfl ?_
                        refine JL.mv (d := some 52) (MV.lit (E := (Enc.int .u8)) (vals := [(0, .int .u8 (gd x2 d12).1)]) [(gd x2 d12).1] Try.underlying26 zi_5 rfl (by decide) rfl (by kernel_rfl)) rfl rfl rfl ?_
                        rintro _ _ ⟨z49, rfl, rfl⟩
                        obtain ⟨h50, hm⟩ := guard_inv hm
                        refine JL.mv (d := some 53) (MV.append 2 rfl (Rdg.of 0 rfl) Try.underlying26 zi_5 rfl (by decide) rfl rfl h50) rfl rfl rfl ?_
                        rintro _ _ ⟨z51, rfl, rfl⟩
                        refine JL.val (v := z51.v) (QV.assign rfl) rfl rfl rfl ?_
                        refine JL.nil ?_
                        exact QJ.cut_normal ((d34 ++ [(gd x2 d12).1]), z51) hm [1, 2, 3] (by exact ⟨rfl, rfl, rfl, rfl, rfl, rfl, rfl, rfl, trivial⟩) rfl rfl
                      ·
                        refine JC.condF' rfl (decide_eq_false h48) ?_
                        refine JC.seq ?_
                        refine JC.region ?_
                        refine JL.val (v := z33.v) (QV.move rfl) rfl rfl rfl ?_
                        refine JL.val (v := z33.v) (QV.move rfl) rfl rfl rfl ?_
                        refine JL.val (v := .int .i64 ((d34).length : Int)) (QV.len (Rdg.of 1 rfl) Try.underlying26 rfl) rfl rfl rfl ?_
                        refine JL.val (v := .pointer (some ⟨b24, 2, none⟩)) (QV.fieldB fo_23_2 rfl rfl) rfl rfl rfl ?_
                        refine JL.val (v := .int .i64 (gd x2 d12).2.2) (QV.load1 (ss := [Seg.c (.int .u8 (gd x2 d12).1), Seg.c (.int .i64 (gd x2 d12).2.1), Seg.c (.int .i64 (gd x2 d12).2.2)]) 2 2 rfl tk_3 rfl rfl rfl) rfl rfl rfl ?_
                        refine JL.val (v := .int .i64 (IntKind.wrap .i64 (((d34).length : Int) - (gd x2 d12).2.2))) (QV.sub rfl rfl) rfl rfl rfl ?_
                        obtain ⟨h52, hm⟩ := guard_inv hm
                        refine JL.val (v := .pointer (some (elA (z33.v) (Int.toNat (IntKind.wrap .i64 (((d34).length : Int) - (gd x2 d12).2.2)) * ((Enc.int .u8)).sz)))) (QV.indexA (Rdg.of 1 rfl) Try.underlying26 tk_5 rfl rfl h52) rfl rfl rfl ?_
                        refine JL.val (v := .int .u8 (gd d34 (IntKind.wrap .i64 (((d34).length : Int) - (gd x2 d12).2.2)))) (QV.el1 (Rdg.of 1 rfl) tk_5 rfl h52 rfl) rfl rfl rfl ?_
                        refine JL.val (v := .int .u8 (gd d34 (IntKind.wrap .i64 (((d34).length : Int) - (gd x2 d12).2.2)))) (QV.assign rfl) rfl rfl rfl ?_
                        refine JL.nil ?_
                        refine QJ.then_normal ?_
                        refine JC.region ?_
                        refine JL.val (v := z33.v) (QV.move rfl) rfl rfl rfl ?_
                        refine JL.val (v := .int .u8 (gd d34 (IntKind.wrap .i64 (((d34).length : Int) - (gd x2 d12).2.2)))) (QV.move rfl) rfl rfl rfl ?_
                        refine JL.mv (d := some 64) (MV.lit (E := (Enc.int .u8)) (vals := [(0, .int .u8 (gd d34 (IntKind.wrap .i64 (((d34).length : Int) - (gd x2 d12).2.2))))]) [(gd d34 (IntKind.wrap .i64 (((d34).length : Int) - (gd x2 d12).2.2)))] Try.underlying26 zi_5 rfl (by decide) rfl (by kernel_rfl)) rfl rfl rfl ?_
                        rintro _ _ ⟨z53, rfl, rfl⟩
                        obtain ⟨h54, hm⟩ := guard_inv hm
                        refine JL.mv (d := some 65) (MV.append 2 rfl (Rdg.of 0 rfl) Try.underlying26 zi_5 rfl (by decide) rfl rfl h54) rfl rfl rfl ?_
                        rintro _ _ ⟨z55, rfl, rfl⟩
                        refine JL.val (v := z55.v) (QV.assign rfl) rfl rfl rfl ?_
                        refine JL.nil ?_
                        exact QJ.cut_normal ((d34 ++ [(gd d34 (IntKind.wrap .i64 (((d34).length : Int) - (gd x2 d12).2.2)))]), z55) hm [1, 2, 3] (by exact ⟨rfl, rfl, rfl, rfl, rfl, rfl, rfl, rfl, trivial⟩) rfl rfl
                ·
                  refine JC.condF' rfl (decide_eq_false h43) ?_
                  refine JC.exit ?_
                  refine QJ.then_exit ?_
                  obtain rfl := Option.some.inj hm
                  refine QJ.round_exit (fun hy => ?_)
                  subst hy
                  refine QJ.block_hit ?_
                  exact QJ.cut_normal (d34, z33) hmo41 [0, 1] (by exact ⟨rfl, rfl, rfl, rfl, rfl, trivial⟩) rfl rfl
            ·
              rcases ite_inv hm with ⟨h56, hm⟩ | ⟨h56, hm⟩
              ·
                refine JC.condT' rfl (decide_eq_true h56) ?_
                refine JC.region ?_
                refine JL.val (v := .int .i64 (1 : Int)) (QV.assign rfl) rfl rfl rfl ?_
                refine JL.nil ?_
                exact QJ.cut_normal ((1 : Int), ()) hm [1, 2, 0] (by exact ⟨rfl, rfl, rfl, rfl, rfl, rfl, rfl, trivial⟩) rfl rfl
              ·
                refine JC.condF' rfl (decide_eq_false h56) ?_
                refine JC.skip ?_
                exact QJ.cut_normal ((gd x2 d12).2.1, ()) hm [1, 2, 0] (by exact ⟨rfl, rfl, rfl, rfl, rfl, rfl, rfl, trivial⟩) rfl rfl
        ·
          refine JC.condT' rfl (congrArg Bool.not (bfalse h27)) ?_
          refine JC.seq ?_
          refine JC.region ?_
          refine JL.mv (d := some 25) (MV.lit0 (Enc.int .u8) Try.underlying26 (by kernel_rfl)) rfl rfl rfl ?_
          rintro _ _ ⟨z57, rfl, rfl⟩
          refine JL.val (v := z57.v) (QV.assign rfl) rfl rfl rfl ?_
          refine JL.val (v := .int .i64 (3 : Int)) (QV.assign rfl) rfl rfl rfl ?_
          refine JL.nil ?_
          refine QJ.then_normal ?_
          refine JC.ret ?_
          refine QJ.then_ret ?_
          refine QJ.block_ret ?_
          refine QJ.cut_ret ?_
          refine QJ.then_ret ?_
          obtain rfl := Option.some.inj hm
          refine QJ.round_ret (fun hy => ?_)
          subst hy
          refine QJ.block_ret ?_
          refine QJ.cut_ret ?_
          refine QJ.then_ret ?_
          obtain rfl := Option.some.inj hmo18
          exact QJ.body (vs := [z57.v, .int .i64 (3 : Int)]) (.inl rfl) rfl (ResVs.cons (ResV.tmp rfl) (ResVs.cons (ResV.tmp rfl) ResVs.nil)) [0] rfl rfl (.inr ⟨own_of _ _ _ _, trivial⟩) ⟨z57, rfl, rfl⟩
    ·
      refine JC.condF' rfl (decide_eq_false h20) ?_
      refine JC.exit ?_
      refine QJ.then_exit ?_
      obtain rfl := Option.some.inj hm
      refine QJ.round_exit (fun hy => ?_)
      subst hy
      refine QJ.block_hit ?_
      exact QJ.cut_normal (d11, z10) hmo18 [1] (by exact ⟨rfl, trivial⟩) rfl rfl

/-! ### 4: drogher/drogherlaw11.LzFinds -/
noncomputable def F4.j1 (x2 : List Int) (y11 : (List (Int × Int × Int)))  : Option Bool :=
  ((F19.m (y11) (((x2).length : Int))).bind fun y17 => (if (strOfNums y17.1) = (strOfNums x2) then (if y17.2 = (0 : Int) then ((F17.m).bind fun y22 => some y22) else some false) else some false))
noncomputable def F4.j2 (d24 : Int)  : Option (Int ⊕ ((Bool) ⊕ Unit)) :=
  some (.inl (IntKind.wrap .i64 (d24 + (1 : Int))))
noncomputable def F4.b1 (x3 : Int) (y11 : (List (Int × Int × Int))) : Int → Option (Int ⊕ ((Bool) ⊕ Unit))
  | d24 => (if d24 < ((y11).length : Int) then (if 0 ≤ d24 ∧ d24 < ((y11).length : Int) then ((F16.m ((gd y11 d24).1) ((gd y11 d24).2.1) ((gd y11 d24).2.2)).bind fun y32 => (if y32 = true then (if x3 < (1 : Int) then (if (gd y11 d24).2.1 = (0 : Int) then F4.j2 d24 else some (.inr (.inl (false)))) else F4.j2 d24) else some (.inr (.inl (false))))) else none) else some (.inr (.inr (()))))
noncomputable def F4.j3 (x2 : List Int) (y11 : (List (Int × Int × Int)))  : Option Bool :=
  ((F19.m (y11) (((x2).length : Int))).bind fun y37 => (if (strOfNums y37.1) = (strOfNums x2) then (if y37.2 = (0 : Int) then ((F17.m).bind fun y42 => some y42) else some false) else some false))
noncomputable def F4.j4 (d44 : Int)  : Option (Int ⊕ ((Bool) ⊕ Unit)) :=
  some (.inl (IntKind.wrap .i64 (d44 + (1 : Int))))
noncomputable def F4.b2 (x3 : Int) (y11 : (List (Int × Int × Int))) : Int → Option (Int ⊕ ((Bool) ⊕ Unit))
  | d44 => (if d44 < ((y11).length : Int) then (if 0 ≤ d44 ∧ d44 < ((y11).length : Int) then ((F16.m ((gd y11 d44).1) ((gd y11 d44).2.1) ((gd y11 d44).2.2)).bind fun y52 => (if y52 = true then (if x3 < (1 : Int) then (if (gd y11 d44).2.1 = (0 : Int) then F4.j4 d44 else some (.inr (.inl (false)))) else F4.j4 d44) else some (.inr (.inl (false))))) else none) else some (.inr (.inr (()))))
noncomputable def F4.m (x2 : List Int) (x3 : Int) : Option Bool :=
  (if (3000 : Int) < ((x2).length : Int) then ((F17.m).bind fun y6 => some y6) else (if (1000 : Int) < x3 then ((F17.m).bind fun y9 => some y9) else ((F18.m (x2) (x3)).bind fun y11 => (if ((x2).length : Int) < ((y11).length : Int) then some false else (if x3 < (1 : Int) then (if ((y11).length : Int) = ((x2).length : Int) then ((loop (F4.b1 x3 y11) (0 : Int)).bind fun y => match y with | .inl r => some r | .inr _ => F4.j1 x2 y11) else some false) else ((loop (F4.b2 x3 y11) (0 : Int)).bind fun y => match y with | .inl r => some r | .inr _ => F4.j3 x2 y11))))))
set_option maxRecDepth 100000 in
set_option maxHeartbeats 4000000 in
theorem F4.spec (s1 : SlV) (x2 : List Int) (x3 : Int) (r : Bool) (hm : F4.m x2 x3 = some r) :
    Ctr Try.prog false 4 [s1.v, .int .i64 x3] [Asr.vw (Enc.int .u8) (s1.v) x2] (fun v L' => v = .bool r ∧ L' = []) := by
  refine Ctr.intro (n := 79) (env := [(0, s1.v), (1, .int .i64 x3)]) Try.func4 rfl rfl rfl rfl (fun c => ?_)
  unfold F4.m at hm
  refine JC.seq ?_
  refine JC.region ?_
  refine JL.val (v := .bool false) (QV.assign rfl) rfl rfl rfl ?_
  refine JL.nil ?_
  refine QJ.then_normal ?_
  refine JC.seq ?_
  refine JC.seq ?_
  refine JC.region ?_
  refine JL.val (v := s1.v) (QV.move rfl) rfl rfl rfl ?_
  refine JL.val (v := .int .i64 ((x2).length : Int)) (QV.len (Rdg.vw 0 rfl) Try.underlying26 rfl) rfl rfl rfl ?_
  refine JL.val (v := .bool (decide ((3000 : Int) < ((x2).length : Int)))) (QV.gtr rfl rfl) rfl rfl rfl ?_
  rcases ite_inv hm with ⟨h5, hm⟩ | ⟨h5, hm⟩
  ·
    refine JL.val (v := .bool true) (QV.eq (QV.move rfl) (congrArg Value.bool (decide_eq_true h5))) rfl rfl rfl ?_
    refine JL.skip (d := some 13) rfl rfl rfl ?_
    refine JL.skip (d := some 14) rfl rfl rfl ?_
    refine JL.val (v := .bool true) (QV.pickT rfl rfl) rfl rfl rfl ?_
    refine JL.nil ?_
    refine QJ.then_normal ?_
    refine JC.condT rfl ?_
    refine JC.seq ?_
    refine JC.region ?_
    obtain ⟨y6, hc7, hm⟩ := bind_inv hm
    refine JL.mv (d := some 16) (MV.call (Lo := []) (Lr := [Asr.vw (Enc.int .u8) (s1.v) x2]) (F17.spec _ hc7) rfl Try.func17 rfl rfl rfl [] [0] rfl rfl rfl trivial) rfl rfl rfl ?_
    rintro _ _ ⟨_, ⟨rfl, rfl⟩, rfl⟩
    refine JL.val (v := .bool y6) (QV.assign rfl) rfl rfl rfl ?_
    refine JL.nil ?_
    refine QJ.then_normal ?_
    refine JC.ret ?_
    refine QJ.then_ret ?_
    obtain rfl := Option.some.inj hm
    exact QJ.body (vs := [.bool y6]) (.inl rfl) rfl (ResVs.cons (ResV.tmp rfl) ResVs.nil) [] rfl rfl (.inr trivial) ⟨rfl, rfl⟩
  ·
    refine JL.val (v := .bool false) (QV.eq (QV.move rfl) (congrArg Value.bool (decide_eq_false h5))) rfl rfl rfl ?_
    refine JL.val (v := .int .i64 x3) (QV.move rfl) rfl rfl rfl ?_
    refine JL.val (v := .bool (decide ((1000 : Int) < x3))) (QV.gtr rfl rfl) rfl rfl rfl ?_
    refine JL.val (v := .bool (decide ((1000 : Int) < x3))) (QV.pickF rfl rfl) rfl rfl rfl ?_
    refine JL.nil ?_
    refine QJ.then_normal ?_
    rcases ite_inv hm with ⟨h8, hm⟩ | ⟨h8, hm⟩
    ·
      refine JC.condT' rfl (decide_eq_true h8) ?_
      refine JC.seq ?_
      refine JC.region ?_
      obtain ⟨y9, hc10, hm⟩ := bind_inv hm
      refine JL.mv (d := some 16) (MV.call (Lo := []) (Lr := [Asr.vw (Enc.int .u8) (s1.v) x2]) (F17.spec _ hc10) rfl Try.func17 rfl rfl rfl [] [0] rfl rfl rfl trivial) rfl rfl rfl ?_
      rintro _ _ ⟨_, ⟨rfl, rfl⟩, rfl⟩
      refine JL.val (v := .bool y9) (QV.assign rfl) rfl rfl rfl ?_
      refine JL.nil ?_
      refine QJ.then_normal ?_
      refine JC.ret ?_
      refine QJ.then_ret ?_
      obtain rfl := Option.some.inj hm
      exact QJ.body (vs := [.bool y9]) (.inl rfl) rfl (ResVs.cons (ResV.tmp rfl) ResVs.nil) [] rfl rfl (.inr trivial) ⟨rfl, rfl⟩
    ·
      refine JC.condF' rfl (decide_eq_false h8) ?_
      refine JC.skip ?_
      refine QJ.then_normal ?_
      refine JC.seq ?_
      refine JC.region ?_
      refine JL.val (v := s1.v) (QV.move rfl) rfl rfl rfl ?_
      refine JL.val (v := .int .i64 x3) (QV.move rfl) rfl rfl rfl ?_
      obtain ⟨y11, hc12, hm⟩ := bind_inv hm
      refine JL.mv (d := some 19) (MV.call (Lo := []) (Lr := [Asr.vw (Enc.int .u8) (s1.v) x2]) (F18.spec (s1) (x2) (x3) _ hc12) rfl Try.func18 rfl rfl rfl [] [0] rfl rfl rfl ⟨(Drv.vw 0 rfl), trivial⟩) rfl rfl rfl ?_
      rintro _ _ ⟨_, ⟨z13, rfl, rfl⟩, rfl⟩
      refine JL.val (v := z13.v) (QV.assign rfl) rfl rfl rfl ?_
      refine JL.nil ?_
      refine QJ.then_normal ?_
      refine JC.seq ?_
      refine JC.seq ?_
      refine JC.region ?_
      refine JL.val (v := z13.v) (QV.move rfl) rfl rfl rfl ?_
      refine JL.val (v := .int .i64 ((y11).length : Int)) (QV.len (Rdg.of 0 rfl) Try.underlying27 rfl) rfl rfl rfl ?_
      refine JL.val (v := s1.v) (QV.move rfl) rfl rfl rfl ?_
      refine JL.val (v := .int .i64 ((x2).length : Int)) (QV.len (Rdg.vw 1 rfl) Try.underlying26 rfl) rfl rfl rfl ?_
      refine JL.val (v := .bool (decide (((x2).length : Int) < ((y11).length : Int)))) (QV.gtr rfl rfl) rfl rfl rfl ?_
      rcases ite_inv hm with ⟨h14, hm⟩ | ⟨h14, hm⟩
      ·
        refine JL.val (v := .bool true) (QV.eq (QV.move rfl) (congrArg Value.bool (decide_eq_true h14))) rfl rfl rfl ?_
        refine JL.skip (d := some 26) rfl rfl rfl ?_
        refine JL.skip (d := some 27) rfl rfl rfl ?_
        refine JL.skip (d := some 28) rfl rfl rfl ?_
        refine JL.skip (d := some 29) rfl rfl rfl ?_
        refine JL.skip (d := some 30) rfl rfl rfl ?_
        refine JL.skip (d := some 31) rfl rfl rfl ?_
        refine JL.skip (d := some 32) rfl rfl rfl ?_
        refine JL.skip (d := some 33) rfl rfl rfl ?_
        refine JL.skip (d := some 34) rfl rfl rfl ?_
        refine JL.val (v := .bool true) (QV.pickT rfl rfl) rfl rfl rfl ?_
        refine JL.nil ?_
        refine QJ.then_normal ?_
        refine JC.condT rfl ?_
        refine JC.seq ?_
        refine JC.region ?_
        refine JL.val (v := .bool false) (QV.assign rfl) rfl rfl rfl ?_
        refine JL.nil ?_
        refine QJ.then_normal ?_
        refine JC.ret ?_
        refine QJ.then_ret ?_
        obtain rfl := Option.some.inj hm
        exact QJ.body (vs := [.bool false]) (.inl rfl) rfl (ResVs.cons (ResV.tmp rfl) ResVs.nil) [] rfl rfl (.inr trivial) ⟨rfl, rfl⟩
      ·
        refine JL.val (v := .bool false) (QV.eq (QV.move rfl) (congrArg Value.bool (decide_eq_false h14))) rfl rfl rfl ?_
        refine JL.val (v := .int .i64 x3) (QV.move rfl) rfl rfl rfl ?_
        refine JL.val (v := .bool (decide (x3 < (1 : Int)))) (QV.lss rfl rfl) rfl rfl rfl ?_
        rcases ite_inv hm with ⟨h15, hm⟩ | ⟨h15, hm⟩
        ·
          refine JL.val (v := .bool true) (QV.eq (QV.move rfl) (congrArg Value.bool (decide_eq_true h15))) rfl rfl rfl ?_
          refine JL.val (v := z13.v) (QV.move rfl) rfl rfl rfl ?_
          refine JL.val (v := .int .i64 ((y11).length : Int)) (QV.len (Rdg.of 0 rfl) Try.underlying27 rfl) rfl rfl rfl ?_
          refine JL.val (v := s1.v) (QV.move rfl) rfl rfl rfl ?_
          refine JL.val (v := .int .i64 ((x2).length : Int)) (QV.len (Rdg.vw 1 rfl) Try.underlying26 rfl) rfl rfl rfl ?_
          refine JL.val (v := .bool (!(decide (((y11).length : Int) = ((x2).length : Int))))) (QV.neq rfl rfl) rfl rfl rfl ?_
          refine JL.val (v := .bool (!(decide (((y11).length : Int) = ((x2).length : Int))))) (QV.pickT rfl rfl) rfl rfl rfl ?_
          refine JL.val (v := .bool (!(decide (((y11).length : Int) = ((x2).length : Int))))) (QV.pickF rfl rfl) rfl rfl rfl ?_
          refine JL.nil ?_
          refine QJ.then_normal ?_
          rcases ite_inv hm with ⟨h16, hm⟩ | ⟨h16, hm⟩
          ·
            refine JC.condF' rfl (congrArg Bool.not (decide_eq_true h16)) ?_
            refine JC.skip ?_
            refine QJ.then_normal ?_
            refine JC.seq ?_
            refine JC.seq ?_
            refine JC.region ?_
            refine JL.val (v := .int .i64 (0 : Int)) (QV.assign rfl) rfl rfl rfl ?_
            refine JL.nil ?_
            refine QJ.then_normal ?_
            refine JC.cutK (Y := Unit × Unit) (fun y => match y with | (_, _) => F4.j1 x2 y11 = some r) (fun y => match y with | (_, _) => [(0, s1.v), (5, z13.v)]) (fun y => match y with | (_, _) => [Asr.vw (Enc.int .u8) (s1.v) x2, Asr.of 23 (Enc.pair (Enc.int .u8) (Enc.pair (Enc.int .i64) (Enc.int .i64))) (z13.v) y11]) ?_ ?_
            ·
              rintro ⟨⟨⟩, ⟨⟩⟩ hm
              unfold F4.j1 at hm
              show QJ _ _ [(0, s1.v), (5, z13.v)] [Asr.vw (Enc.int .u8) (s1.v) x2, Asr.of 23 (Enc.pair (Enc.int .u8) (Enc.pair (Enc.int .i64) (Enc.int .i64))) (z13.v) y11] _ _
              refine QJ.then_normal ?_
              refine JC.seq ?_
              refine JC.region ?_
              refine JL.val (v := z13.v) (QV.move rfl) rfl rfl rfl ?_
              refine JL.val (v := s1.v) (QV.move rfl) rfl rfl rfl ?_
              refine JL.val (v := .int .i64 ((x2).length : Int)) (QV.len (Rdg.vw 0 rfl) Try.underlying26 rfl) rfl rfl rfl ?_
              obtain ⟨y17, hc18, hm⟩ := bind_inv hm
              refine JL.mv (d := some 64) (MV.call (Lo := []) (Lr := [Asr.vw (Enc.int .u8) (s1.v) x2, Asr.of 23 (Enc.pair (Enc.int .u8) (Enc.pair (Enc.int .i64) (Enc.int .i64))) (z13.v) y11]) (F19.spec (z13) (y11) (((x2).length : Int)) _ hc18) rfl Try.func19 rfl rfl rfl [] [0, 1] rfl rfl rfl ⟨(Drv.of 1 rfl), trivial⟩) rfl rfl rfl ?_
              rintro _ _ ⟨_, ⟨z19, rfl, rfl⟩, rfl⟩
              refine JL.val (v := .tuple #[z19.v, .int .i64 y17.2]) (QV.move rfl) rfl rfl rfl ?_
              refine JL.val (v := z19.v) (QV.extract (vs := [z19.v, .int .i64 y17.2]) rfl rfl) rfl rfl rfl ?_
              refine JL.val (v := .int .i64 y17.2) (QV.extract (vs := [z19.v, .int .i64 y17.2]) rfl rfl) rfl rfl rfl ?_
              refine JL.val (v := z19.v) (QV.assign rfl) rfl rfl rfl ?_
              refine JL.val (v := .int .i64 y17.2) (QV.assign rfl) rfl rfl rfl ?_
              refine JL.nil ?_
              refine QJ.then_normal ?_
              refine JC.seq ?_
              refine JC.region ?_
              refine JL.val (v := z19.v) (QV.move rfl) rfl rfl rfl ?_
              refine JL.val (v := .string (strOfNums y17.1)) (QV.str (Rdg.of 0 rfl) Try.underlying26 Try.underlying5 Try.underlying9 rfl) rfl rfl rfl ?_
              refine JL.val (v := s1.v) (QV.move rfl) rfl rfl rfl ?_
              refine JL.val (v := .string (strOfNums x2)) (QV.str (Rdg.vw 1 rfl) Try.underlying26 Try.underlying5 Try.underlying9 rfl) rfl rfl rfl ?_
              refine JL.val (v := .bool (decide ((strOfNums y17.1) = (strOfNums x2)))) (QV.eqlS rfl rfl) rfl rfl rfl ?_
              rcases ite_inv hm with ⟨h20, hm⟩ | ⟨h20, hm⟩
              ·
                refine JL.val (v := .bool true) (QV.eq (QV.move rfl) (congrArg Value.bool (decide_eq_true h20))) rfl rfl rfl ?_
                refine JL.val (v := .int .i64 y17.2) (QV.move rfl) rfl rfl rfl ?_
                refine JL.val (v := .bool (decide (y17.2 = (0 : Int)))) (QV.eql rfl rfl) rfl rfl rfl ?_
                refine JL.val (v := .bool (decide (y17.2 = (0 : Int)))) (QV.pickT rfl rfl) rfl rfl rfl ?_
                rcases ite_inv hm with ⟨h21, hm⟩ | ⟨h21, hm⟩
                ·
                  refine JL.val (v := .bool true) (QV.eq (QV.move rfl) (congrArg Value.bool (decide_eq_true h21))) rfl rfl rfl ?_
                  obtain ⟨y22, hc23, hm⟩ := bind_inv hm
                  refine JL.mv (d := some 77) (MV.call (Lo := []) (Lr := [Asr.of 5 (Enc.int .u8) (z19.v) y17.1, Asr.vw (Enc.int .u8) (s1.v) x2, Asr.of 23 (Enc.pair (Enc.int .u8) (Enc.pair (Enc.int .i64) (Enc.int .i64))) (z13.v) y11]) (F17.spec _ hc23) rfl Try.func17 rfl rfl rfl [] [0, 1, 2] rfl rfl rfl trivial) rfl rfl rfl ?_
                  rintro _ _ ⟨_, ⟨rfl, rfl⟩, rfl⟩
                  refine JL.val (v := .bool y22) (QV.pickT rfl rfl) rfl rfl rfl ?_
                  refine JL.val (v := .bool y22) (QV.assign rfl) rfl rfl rfl ?_
                  refine JL.nil ?_
                  refine QJ.then_normal ?_
                  refine JC.ret ?_
                  obtain rfl := Option.some.inj hm
                  exact QJ.body (vs := [.bool y22]) (.inl rfl) rfl (ResVs.cons (ResV.tmp rfl) ResVs.nil) [] rfl rfl (.inr trivial) ⟨rfl, rfl⟩
                ·
                  refine JL.val (v := .bool false) (QV.eq (QV.move rfl) (congrArg Value.bool (decide_eq_false h21))) rfl rfl rfl ?_
                  refine JL.skip (d := some 77) rfl rfl rfl ?_
                  refine JL.val (v := .bool false) (QV.pickF rfl rfl) rfl rfl rfl ?_
                  refine JL.val (v := .bool false) (QV.assign rfl) rfl rfl rfl ?_
                  refine JL.nil ?_
                  refine QJ.then_normal ?_
                  refine JC.ret ?_
                  obtain rfl := Option.some.inj hm
                  exact QJ.body (vs := [.bool false]) (.inl rfl) rfl (ResVs.cons (ResV.tmp rfl) ResVs.nil) [] rfl rfl (.inr trivial) ⟨rfl, rfl⟩
              ·
                refine JL.val (v := .bool false) (QV.eq (QV.move rfl) (congrArg Value.bool (decide_eq_false h20))) rfl rfl rfl ?_
                refine JL.skip (d := some 73) rfl rfl rfl ?_
                refine JL.skip (d := some 74) rfl rfl rfl ?_
                refine JL.val (v := .bool false) (QV.pickF rfl rfl) rfl rfl rfl ?_
                refine JL.val (v := .bool false) (QV.move rfl) rfl rfl rfl ?_
                refine JL.skip (d := some 77) rfl rfl rfl ?_
                refine JL.val (v := .bool false) (QV.pickF rfl rfl) rfl rfl rfl ?_
                refine JL.val (v := .bool false) (QV.assign rfl) rfl rfl rfl ?_
                refine JL.nil ?_
                refine QJ.then_normal ?_
                refine JC.ret ?_
                obtain rfl := Option.some.inj hm
                exact QJ.body (vs := [.bool false]) (.inl rfl) rfl (ResVs.cons (ResV.tmp rfl) ResVs.nil) [] rfl rfl (.inr trivial) ⟨rfl, rfl⟩
            ·
              refine JC.block ?_
              obtain ⟨y26, hl27, hmo28⟩ := bind_inv hm
              refine JC.loop (F4.b1 x3 y11) (fun x z => match x, z with | d24, _ => [(0, s1.v), (1, .int .i64 x3), (5, z13.v), (6, .int .i64 d24)]) (fun x z => match x, z with | d24, _ => [Asr.vw (Enc.int .u8) (s1.v) x2, Asr.of 23 (Enc.pair (Enc.int .u8) (Enc.pair (Enc.int .i64) (Enc.int .i64))) (z13.v) y11]) (0 : Int) () y26 hl27 [1, 0] (by exact ⟨rfl, rfl, rfl, rfl, trivial⟩) rfl rfl ?_
              rintro d24 ⟨⟩ s29 hm
              unfold F4.b1 at hm
              dsimp only at hm
              show JC _ _ _ [(0, s1.v), (1, .int .i64 x3), (5, z13.v), (6, .int .i64 d24)] [Asr.vw (Enc.int .u8) (s1.v) x2, Asr.of 23 (Enc.pair (Enc.int .u8) (Enc.pair (Enc.int .i64) (Enc.int .i64))) (z13.v) y11] _ _
              refine JC.seq ?_
              refine JC.seq ?_
              refine JC.region ?_
              refine JL.val (v := .int .i64 d24) (QV.move rfl) rfl rfl rfl ?_
              refine JL.val (v := z13.v) (QV.move rfl) rfl rfl rfl ?_
              refine JL.val (v := .int .i64 ((y11).length : Int)) (QV.len (Rdg.of 1 rfl) Try.underlying27 rfl) rfl rfl rfl ?_
              refine JL.val (v := .bool (decide (d24 < ((y11).length : Int)))) (QV.lss rfl rfl) rfl rfl rfl ?_
              refine JL.nil ?_
              refine QJ.then_normal ?_
              rcases ite_inv hm with ⟨h30, hm⟩ | ⟨h30, hm⟩
              ·
                refine JC.condT' rfl (decide_eq_true h30) ?_
                refine JC.skip ?_
                refine QJ.then_normal ?_
                refine JC.seq ?_
                refine JC.cutK (Y := Unit × Unit) (fun y => match y with | (_, _) => F4.j2 d24 = some s29) (fun y => match y with | (_, _) => [(0, s1.v), (1, .int .i64 x3), (5, z13.v), (6, .int .i64 d24)]) (fun y => match y with | (_, _) => [Asr.vw (Enc.int .u8) (s1.v) x2, Asr.of 23 (Enc.pair (Enc.int .u8) (Enc.pair (Enc.int .i64) (Enc.int .i64))) (z13.v) y11]) ?_ ?_
                ·
                  rintro ⟨⟨⟩, ⟨⟩⟩ hm
                  unfold F4.j2 at hm
                  show QJ _ _ [(0, s1.v), (1, .int .i64 x3), (5, z13.v), (6, .int .i64 d24)] [Asr.vw (Enc.int .u8) (s1.v) x2, Asr.of 23 (Enc.pair (Enc.int .u8) (Enc.pair (Enc.int .i64) (Enc.int .i64))) (z13.v) y11] _ _
                  refine QJ.then_normal ?_
                  refine JC.region ?_
                  refine JL.val (v := .int .i64 d24) (QV.move rfl) rfl rfl rfl ?_
                  refine JL.val (v := .int .i64 (IntKind.wrap .i64 (d24 + (1 : Int)))) (QV.add rfl rfl) rfl rfl rfl ?_
                  refine JL.val (v := .int .i64 (IntKind.wrap .i64 (d24 + (1 : Int)))) (QV.assign rfl) rfl rfl rfl ?_
                  refine JL.nil ?_
                  obtain rfl := Option.some.inj hm
                  exact QJ.round_on (IntKind.wrap .i64 (d24 + (1 : Int))) () [0, 1] (by exact ⟨rfl, rfl, rfl, rfl, trivial⟩) rfl rfl
                ·
                  refine JC.block ?_
                  refine JC.seq ?_
                  refine JC.region ?_
                  refine JL.val (v := z13.v) (QV.move rfl) rfl rfl rfl ?_
                  refine JL.val (v := .int .i64 d24) (QV.move rfl) rfl rfl rfl ?_
                  obtain ⟨h31, hm⟩ := guard_inv hm
                  refine JL.val (v := .pointer (some (elA (z13.v) (Int.toNat d24 * ((Enc.pair (Enc.int .u8) (Enc.pair (Enc.int .i64) (Enc.int .i64)))).sz)))) (QV.indexA (Rdg.of 1 rfl) Try.underlying27 tk_23 rfl rfl h31) rfl rfl rfl ?_
                  refine JL.val (v := .agg #[.int .u8 (gd y11 d24).1, .int .i64 (gd y11 d24).2.1, .int .i64 (gd y11 d24).2.2]) (QV.eq (QV.elN (Rdg.of 1 rfl) tk_23 rfl h31) rfl) rfl rfl rfl ?_
                  obtain ⟨y32, hc33, hm⟩ := bind_inv hm
                  refine JL.mv (d := some 46) (MV.call (Lo := []) (Lr := [Asr.vw (Enc.int .u8) (s1.v) x2, Asr.of 23 (Enc.pair (Enc.int .u8) (Enc.pair (Enc.int .i64) (Enc.int .i64))) (z13.v) y11]) (F16.spec ((gd y11 d24).1) ((gd y11 d24).2.1) ((gd y11 d24).2.2) _ hc33) rfl Try.func16 rfl rfl rfl [] [0, 1] rfl rfl rfl trivial) rfl rfl rfl ?_
                  rintro _ _ ⟨_, ⟨rfl, rfl⟩, rfl⟩
                  refine JL.val (v := .bool (!y32)) (QV.not rfl) rfl rfl rfl ?_
                  rcases ite_inv hm with ⟨h34, hm⟩ | ⟨h34, hm⟩
                  ·
                    refine JL.val (v := .bool false) (QV.eq (QV.move rfl) (congrArg Value.bool (congrArg Bool.not h34))) rfl rfl rfl ?_
                    refine JL.val (v := .int .i64 x3) (QV.move rfl) rfl rfl rfl ?_
                    refine JL.val (v := .bool (decide (x3 < (1 : Int)))) (QV.lss rfl rfl) rfl rfl rfl ?_
                    rcases ite_inv hm with ⟨h35, hm⟩ | ⟨h35, hm⟩
                    ·
                      refine JL.val (v := .bool true) (QV.eq (QV.move rfl) (congrArg Value.bool (decide_eq_true h35))) rfl rfl rfl ?_
                      refine JL.val (v := z13.v) (QV.move rfl) rfl rfl rfl ?_
                      refine JL.val (v := .int .i64 d24) (QV.move rfl) rfl rfl rfl ?_
                      refine JL.val (v := .pointer (some (elA (z13.v) (Int.toNat d24 * ((Enc.pair (Enc.int .u8) (Enc.pair (Enc.int .i64) (Enc.int .i64)))).sz)))) (QV.indexA (Rdg.of 1 rfl) Try.underlying27 tk_23 rfl rfl h31) rfl rfl rfl ?_
                      refine JL.val (v := .pointer (some ((elA (z13.v) (Int.toNat d24 * ((Enc.pair (Enc.int .u8) (Enc.pair (Enc.int .i64) (Enc.int .i64)))).sz)).add 1))) (QV.fieldA fo_23_1 rfl) rfl rfl rfl ?_
                      refine JL.val (v := .int .i64 (gd y11 d24).2.1) (QV.elF (Rdg.of 1 rfl) tk_3 rfl h31 rfl) rfl rfl rfl ?_
                      refine JL.val (v := .bool (!(decide ((gd y11 d24).2.1 = (0 : Int))))) (QV.neq rfl rfl) rfl rfl rfl ?_
                      refine JL.val (v := .bool (!(decide ((gd y11 d24).2.1 = (0 : Int))))) (QV.pickT rfl rfl) rfl rfl rfl ?_
                      refine JL.val (v := .bool (!(decide ((gd y11 d24).2.1 = (0 : Int))))) (QV.pickF rfl rfl) rfl rfl rfl ?_
                      refine JL.nil ?_
                      refine QJ.then_normal ?_
                      rcases ite_inv hm with ⟨h36, hm⟩ | ⟨h36, hm⟩
                      ·
                        refine JC.condF' rfl (congrArg Bool.not (decide_eq_true h36)) ?_
                        refine JC.skip ?_
                        refine QJ.block_normal ?_
                        exact QJ.cut_normal ((), ()) hm [0, 1] (by exact ⟨rfl, rfl, rfl, rfl, trivial⟩) rfl rfl
                      ·
                        refine JC.condT' rfl (congrArg Bool.not (decide_eq_false h36)) ?_
                        refine JC.seq ?_
                        refine JC.region ?_
                        refine JL.val (v := .bool false) (QV.assign rfl) rfl rfl rfl ?_
                        refine JL.nil ?_
                        refine QJ.then_normal ?_
                        refine JC.ret ?_
                        refine QJ.block_ret ?_
                        refine QJ.cut_ret ?_
                        refine QJ.then_ret ?_
                        obtain rfl := Option.some.inj hm
                        refine QJ.round_ret (fun hy => ?_)
                        subst hy
                        refine QJ.block_ret ?_
                        refine QJ.cut_ret ?_
                        refine QJ.then_ret ?_
                        obtain rfl := Option.some.inj hmo28
                        exact QJ.body (vs := [.bool false]) (.inl rfl) rfl (ResVs.cons (ResV.tmp rfl) ResVs.nil) [] rfl rfl (.inr trivial) ⟨rfl, rfl⟩
                    ·
                      refine JL.val (v := .bool false) (QV.eq (QV.move rfl) (congrArg Value.bool (decide_eq_false h35))) rfl rfl rfl ?_
                      refine JL.skip (d := some 52) rfl rfl rfl ?_
                      refine JL.skip (d := some 53) rfl rfl rfl ?_
                      refine JL.skip (d := some 54) rfl rfl rfl ?_
                      refine JL.skip (d := some 55) rfl rfl rfl ?_
                      refine JL.skip (d := some 56) rfl rfl rfl ?_
                      refine JL.skip (d := some 57) rfl rfl rfl ?_
                      refine JL.val (v := .bool false) (QV.pickF rfl rfl) rfl rfl rfl ?_
                      refine JL.val (v := .bool false) (QV.pickF rfl rfl) rfl rfl rfl ?_
                      refine JL.nil ?_
                      refine QJ.then_normal ?_
                      refine JC.condF rfl ?_
                      refine JC.skip ?_
                      refine QJ.block_normal ?_
                      exact QJ.cut_normal ((), ()) hm [0, 1] (by exact ⟨rfl, rfl, rfl, rfl, trivial⟩) rfl rfl
                  ·
                    refine JL.val (v := .bool true) (QV.eq (QV.move rfl) (congrArg Value.bool (congrArg Bool.not (bfalse h34)))) rfl rfl rfl ?_
                    refine JL.skip (d := some 49) rfl rfl rfl ?_
                    refine JL.skip (d := some 50) rfl rfl rfl ?_
                    refine JL.skip (d := some 51) rfl rfl rfl ?_
                    refine JL.skip (d := some 52) rfl rfl rfl ?_
                    refine JL.skip (d := some 53) rfl rfl rfl ?_
                    refine JL.skip (d := some 54) rfl rfl rfl ?_
                    refine JL.skip (d := some 55) rfl rfl rfl ?_
                    refine JL.skip (d := some 56) rfl rfl rfl ?_
                    refine JL.skip (d := some 57) rfl rfl rfl ?_
                    refine JL.skip (d := some 58) rfl rfl rfl ?_
                    refine JL.val (v := .bool true) (QV.pickT rfl rfl) rfl rfl rfl ?_
                    refine JL.nil ?_
                    refine QJ.then_normal ?_
                    refine JC.condT rfl ?_
                    refine JC.seq ?_
                    refine JC.region ?_
                    refine JL.val (v := .bool false) (QV.assign rfl) rfl rfl rfl ?_
                    refine JL.nil ?_
                    refine QJ.then_normal ?_
                    refine JC.ret ?_
                    refine QJ.block_ret ?_
                    refine QJ.cut_ret ?_
                    refine QJ.then_ret ?_
                    obtain rfl := Option.some.inj hm
                    refine QJ.round_ret (fun hy => ?_)
                    subst hy
                    refine QJ.block_ret ?_
                    refine QJ.cut_ret ?_
                    refine QJ.then_ret ?_
                    obtain rfl := Option.some.inj hmo28
                    exact QJ.body (vs := [.bool false]) (.inl rfl) rfl (ResVs.cons (ResV.tmp rfl) ResVs.nil) [] rfl rfl (.inr trivial) ⟨rfl, rfl⟩
              ·
                refine JC.condF' rfl (decide_eq_false h30) ?_
                refine JC.exit ?_
                refine QJ.then_exit ?_
                obtain rfl := Option.some.inj hm
                refine QJ.round_exit (fun hy => ?_)
                subst hy
                refine QJ.block_hit ?_
                exact QJ.cut_normal ((), ()) hmo28 [0, 1] (by exact ⟨rfl, rfl, trivial⟩) rfl rfl
          ·
            refine JC.condT' rfl (congrArg Bool.not (decide_eq_false h16)) ?_
            refine JC.seq ?_
            refine JC.region ?_
            refine JL.val (v := .bool false) (QV.assign rfl) rfl rfl rfl ?_
            refine JL.nil ?_
            refine QJ.then_normal ?_
            refine JC.ret ?_
            refine QJ.then_ret ?_
            obtain rfl := Option.some.inj hm
            exact QJ.body (vs := [.bool false]) (.inl rfl) rfl (ResVs.cons (ResV.tmp rfl) ResVs.nil) [] rfl rfl (.inr trivial) ⟨rfl, rfl⟩
        ·
          refine JL.val (v := .bool false) (QV.eq (QV.move rfl) (congrArg Value.bool (decide_eq_false h15))) rfl rfl rfl ?_
          refine JL.skip (d := some 29) rfl rfl rfl ?_
          refine JL.skip (d := some 30) rfl rfl rfl ?_
          refine JL.skip (d := some 31) rfl rfl rfl ?_
          refine JL.skip (d := some 32) rfl rfl rfl ?_
          refine JL.skip (d := some 33) rfl rfl rfl ?_
          refine JL.val (v := .bool false) (QV.pickF rfl rfl) rfl rfl rfl ?_
          refine JL.val (v := .bool false) (QV.pickF rfl rfl) rfl rfl rfl ?_
          refine JL.nil ?_
          refine QJ.then_normal ?_
          refine JC.condF rfl ?_
          refine JC.skip ?_
          refine QJ.then_normal ?_
          refine JC.seq ?_
          refine JC.seq ?_
          refine JC.region ?_
          refine JL.val (v := .int .i64 (0 : Int)) (QV.assign rfl) rfl rfl rfl ?_
          refine JL.nil ?_
          refine QJ.then_normal ?_
          refine JC.cutK (Y := Unit × Unit) (fun y => match y with | (_, _) => F4.j3 x2 y11 = some r) (fun y => match y with | (_, _) => [(0, s1.v), (5, z13.v)]) (fun y => match y with | (_, _) => [Asr.vw (Enc.int .u8) (s1.v) x2, Asr.of 23 (Enc.pair (Enc.int .u8) (Enc.pair (Enc.int .i64) (Enc.int .i64))) (z13.v) y11]) ?_ ?_
          ·
            rintro ⟨⟨⟩, ⟨⟩⟩ hm
            unfold F4.j3 at hm
            show QJ _ _ [(0, s1.v), (5, z13.v)] [Asr.vw (Enc.int .u8) (s1.v) x2, Asr.of 23 (Enc.pair (Enc.int .u8) (Enc.pair (Enc.int .i64) (Enc.int .i64))) (z13.v) y11] _ _
            refine QJ.then_normal ?_
            refine JC.seq ?_
            refine JC.region ?_
            refine JL.val (v := z13.v) (QV.move rfl) rfl rfl rfl ?_
            refine JL.val (v := s1.v) (QV.move rfl) rfl rfl rfl ?_
            refine JL.val (v := .int .i64 ((x2).length : Int)) (QV.len (Rdg.vw 0 rfl) Try.underlying26 rfl) rfl rfl rfl ?_
            obtain ⟨y37, hc38, hm⟩ := bind_inv hm
            refine JL.mv (d := some 64) (MV.call (Lo := []) (Lr := [Asr.vw (Enc.int .u8) (s1.v) x2, Asr.of 23 (Enc.pair (Enc.int .u8) (Enc.pair (Enc.int .i64) (Enc.int .i64))) (z13.v) y11]) (F19.spec (z13) (y11) (((x2).length : Int)) _ hc38) rfl Try.func19 rfl rfl rfl [] [0, 1] rfl rfl rfl ⟨(Drv.of 1 rfl), trivial⟩) rfl rfl rfl ?_
            rintro _ _ ⟨_, ⟨z39, rfl, rfl⟩, rfl⟩
            refine JL.val (v := .tuple #[z39.v, .int .i64 y37.2]) (QV.move rfl) rfl rfl rfl ?_
            refine JL.val (v := z39.v) (QV.extract (vs := [z39.v, .int .i64 y37.2]) rfl rfl) rfl rfl rfl ?_
            refine JL.val (v := .int .i64 y37.2) (QV.extract (vs := [z39.v, .int .i64 y37.2]) rfl rfl) rfl rfl rfl ?_
            refine JL.val (v := z39.v) (QV.assign rfl) rfl rfl rfl ?_
            refine JL.val (v := .int .i64 y37.2) (QV.assign rfl) rfl rfl rfl ?_
            refine JL.nil ?_
            refine QJ.then_normal ?_
            refine JC.seq ?_
            refine JC.region ?_
            refine JL.val (v := z39.v) (QV.move rfl) rfl rfl rfl ?_
            refine JL.val (v := .string (strOfNums y37.1)) (QV.str (Rdg.of 0 rfl) Try.underlying26 Try.underlying5 Try.underlying9 rfl) rfl rfl rfl ?_
            refine JL.val (v := s1.v) (QV.move rfl) rfl rfl rfl ?_
            refine JL.val (v := .string (strOfNums x2)) (QV.str (Rdg.vw 1 rfl) Try.underlying26 Try.underlying5 Try.underlying9 rfl) rfl rfl rfl ?_
            refine JL.val (v := .bool (decide ((strOfNums y37.1) = (strOfNums x2)))) (QV.eqlS rfl rfl) rfl rfl rfl ?_
            rcases ite_inv hm with ⟨h40, hm⟩ | ⟨h40, hm⟩
            ·
              refine JL.val (v := .bool true) (QV.eq (QV.move rfl) (congrArg Value.bool (decide_eq_true h40))) rfl rfl rfl ?_
              refine JL.val (v := .int .i64 y37.2) (QV.move rfl) rfl rfl rfl ?_
              refine JL.val (v := .bool (decide (y37.2 = (0 : Int)))) (QV.eql rfl rfl) rfl rfl rfl ?_
              refine JL.val (v := .bool (decide (y37.2 = (0 : Int)))) (QV.pickT rfl rfl) rfl rfl rfl ?_
              rcases ite_inv hm with ⟨h41, hm⟩ | ⟨h41, hm⟩
              ·
                refine JL.val (v := .bool true) (QV.eq (QV.move rfl) (congrArg Value.bool (decide_eq_true h41))) rfl rfl rfl ?_
                obtain ⟨y42, hc43, hm⟩ := bind_inv hm
                refine JL.mv (d := some 77) (MV.call (Lo := []) (Lr := [Asr.of 5 (Enc.int .u8) (z39.v) y37.1, Asr.vw (Enc.int .u8) (s1.v) x2, Asr.of 23 (Enc.pair (Enc.int .u8) (Enc.pair (Enc.int .i64) (Enc.int .i64))) (z13.v) y11]) (F17.spec _ hc43) rfl Try.func17 rfl rfl rfl [] [0, 1, 2] rfl rfl rfl trivial) rfl rfl rfl ?_
                rintro _ _ ⟨_, ⟨rfl, rfl⟩, rfl⟩
                refine JL.val (v := .bool y42) (QV.pickT rfl rfl) rfl rfl rfl ?_
                refine JL.val (v := .bool y42) (QV.assign rfl) rfl rfl rfl ?_
                refine JL.nil ?_
                refine QJ.then_normal ?_
                refine JC.ret ?_
                obtain rfl := Option.some.inj hm
                exact QJ.body (vs := [.bool y42]) (.inl rfl) rfl (ResVs.cons (ResV.tmp rfl) ResVs.nil) [] rfl rfl (.inr trivial) ⟨rfl, rfl⟩
              ·
                refine JL.val (v := .bool false) (QV.eq (QV.move rfl) (congrArg Value.bool (decide_eq_false h41))) rfl rfl rfl ?_
                refine JL.skip (d := some 77) rfl rfl rfl ?_
                refine JL.val (v := .bool false) (QV.pickF rfl rfl) rfl rfl rfl ?_
                refine JL.val (v := .bool false) (QV.assign rfl) rfl rfl rfl ?_
                refine JL.nil ?_
                refine QJ.then_normal ?_
                refine JC.ret ?_
                obtain rfl := Option.some.inj hm
                exact QJ.body (vs := [.bool false]) (.inl rfl) rfl (ResVs.cons (ResV.tmp rfl) ResVs.nil) [] rfl rfl (.inr trivial) ⟨rfl, rfl⟩
            ·
              refine JL.val (v := .bool false) (QV.eq (QV.move rfl) (congrArg Value.bool (decide_eq_false h40))) rfl rfl rfl ?_
              refine JL.skip (d := some 73) rfl rfl rfl ?_
              refine JL.skip (d := some 74) rfl rfl rfl ?_
              refine JL.val (v := .bool false) (QV.pickF rfl rfl) rfl rfl rfl ?_
              refine JL.val (v := .bool false) (QV.move rfl) rfl rfl rfl ?_
              refine JL.skip (d := some 77) rfl rfl rfl ?_
              refine JL.val (v := .bool false) (QV.pickF rfl rfl) rfl rfl rfl ?_
              refine JL.val (v := .bool false) (QV.assign rfl) rfl rfl rfl ?_
              refine JL.nil ?_
              refine QJ.then_normal ?_
              refine JC.ret ?_
              obtain rfl := Option.some.inj hm
              exact QJ.body (vs := [.bool false]) (.inl rfl) rfl (ResVs.cons (ResV.tmp rfl) ResVs.nil) [] rfl rfl (.inr trivial) ⟨rfl, rfl⟩
          ·
            refine JC.block ?_
            obtain ⟨y46, hl47, hmo48⟩ := bind_inv hm
            refine JC.loop (F4.b2 x3 y11) (fun x z => match x, z with | d44, _ => [(0, s1.v), (1, .int .i64 x3), (5, z13.v), (6, .int .i64 d44)]) (fun x z => match x, z with | d44, _ => [Asr.vw (Enc.int .u8) (s1.v) x2, Asr.of 23 (Enc.pair (Enc.int .u8) (Enc.pair (Enc.int .i64) (Enc.int .i64))) (z13.v) y11]) (0 : Int) () y46 hl47 [1, 0] (by exact ⟨rfl, rfl, rfl, rfl, trivial⟩) rfl rfl ?_
            rintro d44 ⟨⟩ s49 hm
            unfold F4.b2 at hm
            dsimp only at hm
            show JC _ _ _ [(0, s1.v), (1, .int .i64 x3), (5, z13.v), (6, .int .i64 d44)] [Asr.vw (Enc.int .u8) (s1.v) x2, Asr.of 23 (Enc.pair (Enc.int .u8) (Enc.pair (Enc.int .i64) (Enc.int .i64))) (z13.v) y11] _ _
            refine JC.seq ?_
            refine JC.seq ?_
            refine JC.region ?_
            refine JL.val (v := .int .i64 d44) (QV.move rfl) rfl rfl rfl ?_
            refine JL.val (v := z13.v) (QV.move rfl) rfl rfl rfl ?_
            refine JL.val (v := .int .i64 ((y11).length : Int)) (QV.len (Rdg.of 1 rfl) Try.underlying27 rfl) rfl rfl rfl ?_
            refine JL.val (v := .bool (decide (d44 < ((y11).length : Int)))) (QV.lss rfl rfl) rfl rfl rfl ?_
            refine JL.nil ?_
            refine QJ.then_normal ?_
            rcases ite_inv hm with ⟨h50, hm⟩ | ⟨h50, hm⟩
            ·
              refine JC.condT' rfl (decide_eq_true h50) ?_
              refine JC.skip ?_
              refine QJ.then_normal ?_
              refine JC.seq ?_
              refine JC.cutK (Y := Unit × Unit) (fun y => match y with | (_, _) => F4.j4 d44 = some s49) (fun y => match y with | (_, _) => [(0, s1.v), (1, .int .i64 x3), (5, z13.v), (6, .int .i64 d44)]) (fun y => match y with | (_, _) => [Asr.vw (Enc.int .u8) (s1.v) x2, Asr.of 23 (Enc.pair (Enc.int .u8) (Enc.pair (Enc.int .i64) (Enc.int .i64))) (z13.v) y11]) ?_ ?_
              ·
                rintro ⟨⟨⟩, ⟨⟩⟩ hm
                unfold F4.j4 at hm
                show QJ _ _ [(0, s1.v), (1, .int .i64 x3), (5, z13.v), (6, .int .i64 d44)] [Asr.vw (Enc.int .u8) (s1.v) x2, Asr.of 23 (Enc.pair (Enc.int .u8) (Enc.pair (Enc.int .i64) (Enc.int .i64))) (z13.v) y11] _ _
                refine QJ.then_normal ?_
                refine JC.region ?_
                refine JL.val (v := .int .i64 d44) (QV.move rfl) rfl rfl rfl ?_
                refine JL.val (v := .int .i64 (IntKind.wrap .i64 (d44 + (1 : Int)))) (QV.add rfl rfl) rfl rfl rfl ?_
                refine JL.val (v := .int .i64 (IntKind.wrap .i64 (d44 + (1 : Int)))) (QV.assign rfl) rfl rfl rfl ?_
                refine JL.nil ?_
                obtain rfl := Option.some.inj hm
                exact QJ.round_on (IntKind.wrap .i64 (d44 + (1 : Int))) () [0, 1] (by exact ⟨rfl, rfl, rfl, rfl, trivial⟩) rfl rfl
              ·
                refine JC.block ?_
                refine JC.seq ?_
                refine JC.region ?_
                refine JL.val (v := z13.v) (QV.move rfl) rfl rfl rfl ?_
                refine JL.val (v := .int .i64 d44) (QV.move rfl) rfl rfl rfl ?_
                obtain ⟨h51, hm⟩ := guard_inv hm
                refine JL.val (v := .pointer (some (elA (z13.v) (Int.toNat d44 * ((Enc.pair (Enc.int .u8) (Enc.pair (Enc.int .i64) (Enc.int .i64)))).sz)))) (QV.indexA (Rdg.of 1 rfl) Try.underlying27 tk_23 rfl rfl h51) rfl rfl rfl ?_
                refine JL.val (v := .agg #[.int .u8 (gd y11 d44).1, .int .i64 (gd y11 d44).2.1, .int .i64 (gd y11 d44).2.2]) (QV.eq (QV.elN (Rdg.of 1 rfl) tk_23 rfl h51) rfl) rfl rfl rfl ?_
                obtain ⟨y52, hc53, hm⟩ := bind_inv hm
                refine JL.mv (d := some 46) (MV.call (Lo := []) (Lr := [Asr.vw (Enc.int .u8) (s1.v) x2, Asr.of 23 (Enc.pair (Enc.int .u8) (Enc.pair (Enc.int .i64) (Enc.int .i64))) (z13.v) y11]) (F16.spec ((gd y11 d44).1) ((gd y11 d44).2.1) ((gd y11 d44).2.2) _ hc53) rfl Try.func16 rfl rfl rfl [] [0, 1] rfl rfl rfl trivial) rfl rfl rfl ?_
                rintro _ _ ⟨_, ⟨rfl, rfl⟩, rfl⟩
                refine JL.val (v := .bool (!y52)) (QV.not rfl) rfl rfl rfl ?_
                rcases ite_inv hm with ⟨h54, hm⟩ | ⟨h54, hm⟩
                ·
                  refine JL.val (v := .bool false) (QV.eq (QV.move rfl) (congrArg Value.bool (congrArg Bool.not h54))) rfl rfl rfl ?_
                  refine JL.val (v := .int .i64 x3) (QV.move rfl) rfl rfl rfl ?_
                  refine JL.val (v := .bool (decide (x3 < (1 : Int)))) (QV.lss rfl rfl) rfl rfl rfl ?_
                  rcases ite_inv hm with ⟨h55, hm⟩ | ⟨h55, hm⟩
                  ·
                    refine JL.val (v := .bool true) (QV.eq (QV.move rfl) (congrArg Value.bool (decide_eq_true h55))) rfl rfl rfl ?_
                    refine JL.val (v := z13.v) (QV.move rfl) rfl rfl rfl ?_
                    refine JL.val (v := .int .i64 d44) (QV.move rfl) rfl rfl rfl ?_
                    refine JL.val (v := .pointer (some (elA (z13.v) (Int.toNat d44 * ((Enc.pair (Enc.int .u8) (Enc.pair (Enc.int .i64) (Enc.int .i64)))).sz)))) (QV.indexA (Rdg.of 1 rfl) Try.underlying27 tk_23 rfl rfl h51) rfl rfl rfl ?_
                    refine JL.val (v := .pointer (some ((elA (z13.v) (Int.toNat d44 * ((Enc.pair (Enc.int .u8) (Enc.pair (Enc.int .i64) (Enc.int .i64)))).sz)).add 1))) (QV.fieldA fo_23_1 rfl) rfl rfl rfl ?_
                    refine JL.val (v := .int .i64 (gd y11 d44).2.1) (QV.elF (Rdg.of 1 rfl) tk_3 rfl h51 rfl) rfl rfl rfl ?_
                    refine JL.val (v := .bool (!(decide ((gd y11 d44).2.1 = (0 : Int))))) (QV.neq rfl rfl) rfl rfl rfl ?_
                    refine JL.val (v := .bool (!(decide ((gd y11 d44).2.1 = (0 : Int))))) (QV.pickT rfl rfl) rfl rfl rfl ?_
                    refine JL.val (v := .bool (!(decide ((gd y11 d44).2.1 = (0 : Int))))) (QV.pickF rfl rfl) rfl rfl rfl ?_
                    refine JL.nil ?_
                    refine QJ.then_normal ?_
                    rcases ite_inv hm with ⟨h56, hm⟩ | ⟨h56, hm⟩
                    ·
                      refine JC.condF' rfl (congrArg Bool.not (decide_eq_true h56)) ?_
                      refine JC.skip ?_
                      refine QJ.block_normal ?_
                      exact QJ.cut_normal ((), ()) hm [0, 1] (by exact ⟨rfl, rfl, rfl, rfl, trivial⟩) rfl rfl
                    ·
                      refine JC.condT' rfl (congrArg Bool.not (decide_eq_false h56)) ?_
                      refine JC.seq ?_
                      refine JC.region ?_
                      refine JL.val (v := .bool false) (QV.assign rfl) rfl rfl rfl ?_
                      refine JL.nil ?_
                      refine QJ.then_normal ?_
                      refine JC.ret ?_
                      refine QJ.block_ret ?_
                      refine QJ.cut_ret ?_
                      refine QJ.then_ret ?_
                      obtain rfl := Option.some.inj hm
                      refine QJ.round_ret (fun hy => ?_)
                      subst hy
                      refine QJ.block_ret ?_
                      refine QJ.cut_ret ?_
                      refine QJ.then_ret ?_
                      obtain rfl := Option.some.inj hmo48
                      exact QJ.body (vs := [.bool false]) (.inl rfl) rfl (ResVs.cons (ResV.tmp rfl) ResVs.nil) [] rfl rfl (.inr trivial) ⟨rfl, rfl⟩
                  ·
                    refine JL.val (v := .bool false) (QV.eq (QV.move rfl) (congrArg Value.bool (decide_eq_false h55))) rfl rfl rfl ?_
                    refine JL.skip (d := some 52) rfl rfl rfl ?_
                    refine JL.skip (d := some 53) rfl rfl rfl ?_
                    refine JL.skip (d := some 54) rfl rfl rfl ?_
                    refine JL.skip (d := some 55) rfl rfl rfl ?_
                    refine JL.skip (d := some 56) rfl rfl rfl ?_
                    refine JL.skip (d := some 57) rfl rfl rfl ?_
                    refine JL.val (v := .bool false) (QV.pickF rfl rfl) rfl rfl rfl ?_
                    refine JL.val (v := .bool false) (QV.pickF rfl rfl) rfl rfl rfl ?_
                    refine JL.nil ?_
                    refine QJ.then_normal ?_
                    refine JC.condF rfl ?_
                    refine JC.skip ?_
                    refine QJ.block_normal ?_
                    exact QJ.cut_normal ((), ()) hm [0, 1] (by exact ⟨rfl, rfl, rfl, rfl, trivial⟩) rfl rfl
                ·
                  refine JL.val (v := .bool true) (QV.eq (QV.move rfl) (congrArg Value.bool (congrArg Bool.not (bfalse h54)))) rfl rfl rfl ?_
                  refine JL.skip (d := some 49) rfl rfl rfl ?_
                  refine JL.skip (d := some 50) rfl rfl rfl ?_
                  refine JL.skip (d := some 51) rfl rfl rfl ?_
                  refine JL.skip (d := some 52) rfl rfl rfl ?_
                  refine JL.skip (d := some 53) rfl rfl rfl ?_
                  refine JL.skip (d := some 54) rfl rfl rfl ?_
                  refine JL.skip (d := some 55) rfl rfl rfl ?_
                  refine JL.skip (d := some 56) rfl rfl rfl ?_
                  refine JL.skip (d := some 57) rfl rfl rfl ?_
                  refine JL.skip (d := some 58) rfl rfl rfl ?_
                  refine JL.val (v := .bool true) (QV.pickT rfl rfl) rfl rfl rfl ?_
                  refine JL.nil ?_
                  refine QJ.then_normal ?_
                  refine JC.condT rfl ?_
                  refine JC.seq ?_
                  refine JC.region ?_
                  refine JL.val (v := .bool false) (QV.assign rfl) rfl rfl rfl ?_
                  refine JL.nil ?_
                  refine QJ.then_normal ?_
                  refine JC.ret ?_
                  refine QJ.block_ret ?_
                  refine QJ.cut_ret ?_
                  refine QJ.then_ret ?_
                  obtain rfl := Option.some.inj hm
                  refine QJ.round_ret (fun hy => ?_)
                  subst hy
                  refine QJ.block_ret ?_
                  refine QJ.cut_ret ?_
                  refine QJ.then_ret ?_
                  obtain rfl := Option.some.inj hmo48
                  exact QJ.body (vs := [.bool false]) (.inl rfl) rfl (ResVs.cons (ResV.tmp rfl) ResVs.nil) [] rfl rfl (.inr trivial) ⟨rfl, rfl⟩
            ·
              refine JC.condF' rfl (decide_eq_false h50) ?_
              refine JC.exit ?_
              refine QJ.then_exit ?_
              obtain rfl := Option.some.inj hm
              refine QJ.round_exit (fun hy => ?_)
              subst hy
              refine QJ.block_hit ?_
              exact QJ.cut_normal ((), ()) hmo48 [0, 1] (by exact ⟨rfl, rfl, trivial⟩) rfl rfl

end Go.Proofs.Ytpophpendlnehaa
