/- Written by gen.py: functions and their contracts. -/
import Derived.Test.YtedokgdilpfomaaPlr
namespace Go.Proofs.Ytedokgdilpfomaa
open Go Go.Eng Go.Proofs
set_option linter.unusedVariables false
set_option linter.unusedSimpArgs false
/-! ### 64: drogher/drogherref16.number -/
noncomputable def F64.j1   : Option (Int × Int × Int) :=
  some ((0 : Int), (0 : Int), (13 : Int))
noncomputable def F64.b1 (x2 : List Int) (x3 : Int) : (Int × Int × Int) → Option ((Int × Int × Int) ⊕ (((Int × Int × Int)) ⊕ Unit))
  | (d7, d8, d9) => (if d9 < (5 : Int) then (if ((x2).length : Int) ≤ (IntKind.wrap .i64 (x3 + d9)) then some (.inr (.inl (((0 : Int), (0 : Int), (2 : Int))))) else (if 0 ≤ (IntKind.wrap .i64 (x3 + d9)) ∧ (IntKind.wrap .i64 (x3 + d9)) < ((x2).length : Int) then (if (IntKind.wrap .i64 (gd x2 (IntKind.wrap .i64 (x3 + d9)))) < (128 : Int) then (if (IntKind.wrap .i64 (gd x2 (IntKind.wrap .i64 (x3 + d9)))) = (0 : Int) then (if (0 : Int) < d9 then some (.inr (.inl (((0 : Int), (0 : Int), (13 : Int))))) else some (.inr (.inl (((IntKind.wrap .i64 (d7 + (IntKind.wrap .i64 (d8 * (Int.tmod (IntKind.wrap .i64 (gd x2 (IntKind.wrap .i64 (x3 + d9)))) (128 : Int)))))), (IntKind.wrap .i64 ((IntKind.wrap .i64 (x3 + d9)) + (1 : Int))), (0 : Int)))))) else some (.inr (.inl (((IntKind.wrap .i64 (d7 + (IntKind.wrap .i64 (d8 * (Int.tmod (IntKind.wrap .i64 (gd x2 (IntKind.wrap .i64 (x3 + d9)))) (128 : Int)))))), (IntKind.wrap .i64 ((IntKind.wrap .i64 (x3 + d9)) + (1 : Int))), (0 : Int)))))) else some (.inl ((IntKind.wrap .i64 (d7 + (IntKind.wrap .i64 (d8 * (Int.tmod (IntKind.wrap .i64 (gd x2 (IntKind.wrap .i64 (x3 + d9)))) (128 : Int)))))), (IntKind.wrap .i64 (d8 * (128 : Int))), (IntKind.wrap .i64 (d9 + (1 : Int)))))) else none)) else some (.inr (.inr (()))))
noncomputable def F64.m (x2 : List Int) (x3 : Int) : Option (Int × Int × Int) :=
  ((loop (F64.b1 x2 x3) ((0 : Int), (1 : Int), (0 : Int))).bind fun y => match y with | .inl r => some r | .inr _ => F64.j1)
set_option maxRecDepth 100000 in
set_option maxHeartbeats 4000000 in
theorem F64.spec (s1 : SlV) (x2 : List Int) (x3 : Int) (r : (Int × Int × Int)) (hm : F64.m x2 x3 = some r) :
    Ctr Try.prog false 64 [s1.v, .int .i64 x3] [Asr.vw (Enc.int .u8) (s1.v) x2] (fun v L' => v = .tuple #[.int .i64 r.1, .int .i64 r.2.1, .int .i64 r.2.2] ∧ L' = []) := by
  refine Ctr.intro (n := 49) (env := [(0, s1.v), (1, .int .i64 x3)]) Try.func64 rfl rfl rfl rfl (fun c => ?_)
  unfold F64.m at hm
  refine JC.seq ?_
  refine JC.region ?_
  refine JL.val (v := .int .i64 (0 : Int)) (QV.assign rfl) rfl rfl rfl ?_
  refine JL.val (v := .int .i64 (0 : Int)) (QV.assign rfl) rfl rfl rfl ?_
  refine JL.val (v := .int .i64 (0 : Int)) (QV.assign rfl) rfl rfl rfl ?_
  refine JL.nil ?_
  refine QJ.then_normal ?_
  refine JC.seq ?_
  refine JC.region ?_
  refine JL.val (v := .int .i64 (0 : Int)) (QV.assign rfl) rfl rfl rfl ?_
  refine JL.nil ?_
  refine QJ.then_normal ?_
  refine JC.seq ?_
  refine JC.region ?_
  refine JL.val (v := .int .i64 (1 : Int)) (QV.assign rfl) rfl rfl rfl ?_
  refine JL.nil ?_
  refine QJ.then_normal ?_
  refine JC.seq ?_
  refine JC.seq ?_
  refine JC.region ?_
  refine JL.val (v := .int .i64 (0 : Int)) (QV.assign rfl) rfl rfl rfl ?_
  refine JL.nil ?_
  refine QJ.then_normal ?_
  refine JC.cutK (Y := Unit × Unit) (fun y => match y with | (_, _) => F64.j1 = some r) (fun y => match y with | (_, _) => []) (fun y => match y with | (_, _) => []) ?_ ?_
  ·
    rintro ⟨⟨⟩, ⟨⟩⟩ hm
    unfold F64.j1 at hm
    show QJ _ _ [] [] _ _
    refine QJ.then_normal ?_
    refine JC.seq ?_
    refine JC.region ?_
    refine JL.val (v := .int .i64 (0 : Int)) (QV.assign rfl) rfl rfl rfl ?_
    refine JL.val (v := .int .i64 (0 : Int)) (QV.assign rfl) rfl rfl rfl ?_
    refine JL.val (v := .int .i64 (13 : Int)) (QV.assign rfl) rfl rfl rfl ?_
    refine JL.nil ?_
    refine QJ.then_normal ?_
    refine JC.ret ?_
    obtain rfl := Option.some.inj hm
    exact QJ.body (vs := [.int .i64 (0 : Int), .int .i64 (0 : Int), .int .i64 (13 : Int)]) (.inl rfl) rfl (ResVs.cons (ResV.tmp rfl) (ResVs.cons (ResV.tmp rfl) (ResVs.cons (ResV.tmp rfl) ResVs.nil))) [] rfl rfl (.inr trivial) ⟨rfl, rfl⟩
  ·
    refine JC.block ?_
    obtain ⟨y13, hl14, hmo15⟩ := bind_inv hm
    refine JC.loop (F64.b1 x2 x3) (fun x z => match x, z with | (d7, d8, d9), _ => [(0, s1.v), (1, .int .i64 x3), (7, .int .i64 d7), (8, .int .i64 d8), (9, .int .i64 d9)]) (fun x z => match x, z with | (d7, d8, d9), _ => [Asr.vw (Enc.int .u8) (s1.v) x2]) ((0 : Int), (1 : Int), (0 : Int)) () y13 hl14 [0] (by exact ⟨rfl, rfl, rfl, rfl, rfl, trivial⟩) rfl rfl ?_
    rintro ⟨d7, d8, d9⟩ ⟨⟩ s16 hm
    unfold F64.b1 at hm
    dsimp only at hm
    show JC _ _ _ [(0, s1.v), (1, .int .i64 x3), (7, .int .i64 d7), (8, .int .i64 d8), (9, .int .i64 d9)] [Asr.vw (Enc.int .u8) (s1.v) x2] _ _
    refine JC.seq ?_
    refine JC.seq ?_
    refine JC.region ?_
    refine JL.val (v := .int .i64 d9) (QV.move rfl) rfl rfl rfl ?_
    refine JL.val (v := .bool (decide (d9 < (5 : Int)))) (QV.lss rfl rfl) rfl rfl rfl ?_
    refine JL.nil ?_
    refine QJ.then_normal ?_
    rcases ite_inv hm with ⟨h17, hm⟩ | ⟨h17, hm⟩
    ·
      refine JC.condT' rfl (decide_eq_true h17) ?_
      refine JC.skip ?_
      refine QJ.then_normal ?_
      refine JC.seq ?_
      refine JC.block ?_
      refine JC.seq ?_
      refine JC.seq ?_
      refine JC.region ?_
      refine JL.val (v := .int .i64 x3) (QV.move rfl) rfl rfl rfl ?_
      refine JL.val (v := .int .i64 d9) (QV.move rfl) rfl rfl rfl ?_
      refine JL.val (v := .int .i64 (IntKind.wrap .i64 (x3 + d9))) (QV.add rfl rfl) rfl rfl rfl ?_
      refine JL.val (v := s1.v) (QV.move rfl) rfl rfl rfl ?_
      refine JL.val (v := .int .i64 ((x2).length : Int)) (QV.len (Rdg.vw 0 rfl) Try.underlying23 rfl) rfl rfl rfl ?_
      refine JL.val (v := .bool (decide (((x2).length : Int) ≤ (IntKind.wrap .i64 (x3 + d9))))) (QV.geq rfl rfl) rfl rfl rfl ?_
      refine JL.nil ?_
      refine QJ.then_normal ?_
      rcases ite_inv hm with ⟨h18, hm⟩ | ⟨h18, hm⟩
      ·
        refine JC.condT' rfl (decide_eq_true h18) ?_
        refine JC.seq ?_
        refine JC.region ?_
        refine JL.val (v := .int .i64 (0 : Int)) (QV.assign rfl) rfl rfl rfl ?_
        refine JL.val (v := .int .i64 (0 : Int)) (QV.assign rfl) rfl rfl rfl ?_
        refine JL.val (v := .int .i64 (2 : Int)) (QV.assign rfl) rfl rfl rfl ?_
        refine JL.nil ?_
        refine QJ.then_normal ?_
        refine JC.ret ?_
        refine QJ.then_ret ?_
        refine QJ.block_ret ?_
        refine QJ.then_ret ?_
        obtain rfl := Option.some.inj hm
        refine QJ.round_ret (fun hy => ?_)
        subst hy
        refine QJ.block_ret ?_
        refine QJ.cut_ret ?_
        refine QJ.then_ret ?_
        obtain rfl := Option.some.inj hmo15
        exact QJ.body (vs := [.int .i64 (0 : Int), .int .i64 (0 : Int), .int .i64 (2 : Int)]) (.inl rfl) rfl (ResVs.cons (ResV.tmp rfl) (ResVs.cons (ResV.tmp rfl) (ResVs.cons (ResV.tmp rfl) ResVs.nil))) [] rfl rfl (.inr trivial) ⟨rfl, rfl⟩
      ·
        refine JC.condF' rfl (decide_eq_false h18) ?_
        refine JC.skip ?_
        refine QJ.then_normal ?_
        refine JC.seq ?_
        refine JC.region ?_
        refine JL.val (v := s1.v) (QV.move rfl) rfl rfl rfl ?_
        refine JL.val (v := .int .i64 x3) (QV.move rfl) rfl rfl rfl ?_
        refine JL.val (v := .int .i64 d9) (QV.move rfl) rfl rfl rfl ?_
        refine JL.val (v := .int .i64 (IntKind.wrap .i64 (x3 + d9))) (QV.add rfl rfl) rfl rfl rfl ?_
        obtain ⟨h19, hm⟩ := guard_inv hm
        refine JL.val (v := .pointer (some (elA (s1.v) (Int.toNat (IntKind.wrap .i64 (x3 + d9)) * ((Enc.int .u8)).sz)))) (QV.indexA (Rdg.vw 0 rfl) Try.underlying23 tk_5 rfl rfl h19) rfl rfl rfl ?_
        refine JL.val (v := .int .u8 (gd x2 (IntKind.wrap .i64 (x3 + d9)))) (QV.el1 (Rdg.vw 0 rfl) tk_5 rfl h19 rfl) rfl rfl rfl ?_
        refine JL.val (v := .int .i64 (IntKind.wrap .i64 (gd x2 (IntKind.wrap .i64 (x3 + d9))))) (QV.conv rfl (by rw [Try.underlying5]; rfl) Try.underlying3) rfl rfl rfl ?_
        refine JL.val (v := .int .i64 (IntKind.wrap .i64 (gd x2 (IntKind.wrap .i64 (x3 + d9))))) (QV.assign rfl) rfl rfl rfl ?_
        refine JL.nil ?_
        refine QJ.then_normal ?_
        refine JC.seq ?_
        refine JC.region ?_
        refine JL.val (v := .int .i64 d7) (QV.move rfl) rfl rfl rfl ?_
        refine JL.val (v := .int .i64 d8) (QV.move rfl) rfl rfl rfl ?_
        refine JL.val (v := .int .i64 (IntKind.wrap .i64 (gd x2 (IntKind.wrap .i64 (x3 + d9))))) (QV.move rfl) rfl rfl rfl ?_
        refine JL.val (v := .int .i64 (Int.tmod (IntKind.wrap .i64 (gd x2 (IntKind.wrap .i64 (x3 + d9)))) (128 : Int))) (QV.rem rfl rfl (by decide)) rfl rfl rfl ?_
        refine JL.val (v := .int .i64 (IntKind.wrap .i64 (d8 * (Int.tmod (IntKind.wrap .i64 (gd x2 (IntKind.wrap .i64 (x3 + d9)))) (128 : Int))))) (QV.mul rfl rfl) rfl rfl rfl ?_
        refine JL.val (v := .int .i64 (IntKind.wrap .i64 (d7 + (IntKind.wrap .i64 (d8 * (Int.tmod (IntKind.wrap .i64 (gd x2 (IntKind.wrap .i64 (x3 + d9)))) (128 : Int))))))) (QV.add rfl rfl) rfl rfl rfl ?_
        refine JL.val (v := .int .i64 (IntKind.wrap .i64 (d7 + (IntKind.wrap .i64 (d8 * (Int.tmod (IntKind.wrap .i64 (gd x2 (IntKind.wrap .i64 (x3 + d9)))) (128 : Int))))))) (QV.assign rfl) rfl rfl rfl ?_
        refine JL.nil ?_
        refine QJ.then_normal ?_
        refine JC.seq ?_
        refine JC.region ?_
        refine JL.val (v := .int .i64 d8) (QV.move rfl) rfl rfl rfl ?_
        refine JL.val (v := .int .i64 (IntKind.wrap .i64 (d8 * (128 : Int)))) (QV.mul rfl rfl) rfl rfl rfl ?_
        refine JL.val (v := .int .i64 (IntKind.wrap .i64 (d8 * (128 : Int)))) (QV.assign rfl) rfl rfl rfl ?_
        refine JL.nil ?_
        refine QJ.then_normal ?_
        refine JC.seq ?_
        refine JC.region ?_
        refine JL.val (v := .int .i64 (IntKind.wrap .i64 (gd x2 (IntKind.wrap .i64 (x3 + d9))))) (QV.move rfl) rfl rfl rfl ?_
        refine JL.val (v := .bool (decide ((IntKind.wrap .i64 (gd x2 (IntKind.wrap .i64 (x3 + d9)))) < (128 : Int)))) (QV.lss rfl rfl) rfl rfl rfl ?_
        refine JL.nil ?_
        refine QJ.then_normal ?_
        rcases ite_inv hm with ⟨h20, hm⟩ | ⟨h20, hm⟩
        ·
          refine JC.condT' rfl (decide_eq_true h20) ?_
          refine JC.seq ?_
          refine JC.seq ?_
          refine JC.region ?_
          refine JL.val (v := .int .i64 (IntKind.wrap .i64 (gd x2 (IntKind.wrap .i64 (x3 + d9))))) (QV.move rfl) rfl rfl rfl ?_
          refine JL.val (v := .bool (decide ((IntKind.wrap .i64 (gd x2 (IntKind.wrap .i64 (x3 + d9)))) = (0 : Int)))) (QV.eql rfl rfl) rfl rfl rfl ?_
          rcases ite_inv hm with ⟨h21, hm⟩ | ⟨h21, hm⟩
          ·
            refine JL.val (v := .bool true) (QV.eq (QV.move rfl) (congrArg Value.bool (decide_eq_true h21))) rfl rfl rfl ?_
            refine JL.val (v := .int .i64 d9) (QV.move rfl) rfl rfl rfl ?_
            refine JL.val (v := .bool (decide ((0 : Int) < d9))) (QV.gtr rfl rfl) rfl rfl rfl ?_
            refine JL.val (v := .bool (decide ((0 : Int) < d9))) (QV.pickT rfl rfl) rfl rfl rfl ?_
            refine JL.nil ?_
            refine QJ.then_normal ?_
            rcases ite_inv hm with ⟨h22, hm⟩ | ⟨h22, hm⟩
            ·
              refine JC.condT' rfl (decide_eq_true h22) ?_
              refine JC.seq ?_
              refine JC.region ?_
              refine JL.val (v := .int .i64 (0 : Int)) (QV.assign rfl) rfl rfl rfl ?_
              refine JL.val (v := .int .i64 (0 : Int)) (QV.assign rfl) rfl rfl rfl ?_
              refine JL.val (v := .int .i64 (13 : Int)) (QV.assign rfl) rfl rfl rfl ?_
              refine JL.nil ?_
              refine QJ.then_normal ?_
              refine JC.ret ?_
              refine QJ.then_ret ?_
              refine QJ.block_ret ?_
              refine QJ.then_ret ?_
              obtain rfl := Option.some.inj hm
              refine QJ.round_ret (fun hy => ?_)
              subst hy
              refine QJ.block_ret ?_
              refine QJ.cut_ret ?_
              refine QJ.then_ret ?_
              obtain rfl := Option.some.inj hmo15
              exact QJ.body (vs := [.int .i64 (0 : Int), .int .i64 (0 : Int), .int .i64 (13 : Int)]) (.inl rfl) rfl (ResVs.cons (ResV.tmp rfl) (ResVs.cons (ResV.tmp rfl) (ResVs.cons (ResV.tmp rfl) ResVs.nil))) [] rfl rfl (.inr trivial) ⟨rfl, rfl⟩
            ·
              refine JC.condF' rfl (decide_eq_false h22) ?_
              refine JC.skip ?_
              refine QJ.then_normal ?_
              refine JC.seq ?_
              refine JC.region ?_
              refine JL.val (v := .int .i64 (IntKind.wrap .i64 (d7 + (IntKind.wrap .i64 (d8 * (Int.tmod (IntKind.wrap .i64 (gd x2 (IntKind.wrap .i64 (x3 + d9)))) (128 : Int))))))) (QV.move rfl) rfl rfl rfl ?_
              refine JL.val (v := .int .i64 x3) (QV.move rfl) rfl rfl rfl ?_
              refine JL.val (v := .int .i64 d9) (QV.move rfl) rfl rfl rfl ?_
              refine JL.val (v := .int .i64 (IntKind.wrap .i64 (x3 + d9))) (QV.add rfl rfl) rfl rfl rfl ?_
              refine JL.val (v := .int .i64 (IntKind.wrap .i64 ((IntKind.wrap .i64 (x3 + d9)) + (1 : Int)))) (QV.add rfl rfl) rfl rfl rfl ?_
              refine JL.val (v := .int .i64 (IntKind.wrap .i64 (d7 + (IntKind.wrap .i64 (d8 * (Int.tmod (IntKind.wrap .i64 (gd x2 (IntKind.wrap .i64 (x3 + d9)))) (128 : Int))))))) (QV.assign rfl) rfl rfl rfl ?_
              refine JL.val (v := .int .i64 (IntKind.wrap .i64 ((IntKind.wrap .i64 (x3 + d9)) + (1 : Int)))) (QV.assign rfl) rfl rfl rfl ?_
              refine JL.val (v := .int .i64 (0 : Int)) (QV.assign rfl) rfl rfl rfl ?_
              refine JL.nil ?_
              refine QJ.then_normal ?_
              refine JC.ret ?_
              refine QJ.block_ret ?_
              refine QJ.then_ret ?_
              obtain rfl := Option.some.inj hm
              refine QJ.round_ret (fun hy => ?_)
              subst hy
              refine QJ.block_ret ?_
              refine QJ.cut_ret ?_
              refine QJ.then_ret ?_
              obtain rfl := Option.some.inj hmo15
              exact QJ.body (vs := [.int .i64 (IntKind.wrap .i64 (d7 + (IntKind.wrap .i64 (d8 * (Int.tmod (IntKind.wrap .i64 (gd x2 (IntKind.wrap .i64 (x3 + d9)))) (128 : Int)))))), .int .i64 (IntKind.wrap .i64 ((IntKind.wrap .i64 (x3 + d9)) + (1 : Int))), .int .i64 (0 : Int)]) (.inl rfl) rfl (ResVs.cons (ResV.tmp rfl) (ResVs.cons (ResV.tmp rfl) (ResVs.cons (ResV.tmp rfl) ResVs.nil))) [] rfl rfl (.inr trivial) ⟨rfl, rfl⟩
          ·
            refine JL.val (v := .bool false) (QV.eq (QV.move rfl) (congrArg Value.bool (decide_eq_false h21))) rfl rfl rfl ?_
            refine JL.skip (d := some 41) rfl rfl rfl ?_
            refine JL.skip (d := some 42) rfl rfl rfl ?_
            refine JL.val (v := .bool false) (QV.pickF rfl rfl) rfl rfl rfl ?_
            refine JL.nil ?_
            refine QJ.then_normal ?_
            refine JC.condF rfl ?_
            refine JC.skip ?_
            refine QJ.then_normal ?_
            refine JC.seq ?_
            refine JC.region ?_
            refine JL.val (v := .int .i64 (IntKind.wrap .i64 (d7 + (IntKind.wrap .i64 (d8 * (Int.tmod (IntKind.wrap .i64 (gd x2 (IntKind.wrap .i64 (x3 + d9)))) (128 : Int))))))) (QV.move rfl) rfl rfl rfl ?_
            refine JL.val (v := .int .i64 x3) (QV.move rfl) rfl rfl rfl ?_
            refine JL.val (v := .int .i64 d9) (QV.move rfl) rfl rfl rfl ?_
            refine JL.val (v := .int .i64 (IntKind.wrap .i64 (x3 + d9))) (QV.add rfl rfl) rfl rfl rfl ?_
            refine JL.val (v := .int .i64 (IntKind.wrap .i64 ((IntKind.wrap .i64 (x3 + d9)) + (1 : Int)))) (QV.add rfl rfl) rfl rfl rfl ?_
            refine JL.val (v := .int .i64 (IntKind.wrap .i64 (d7 + (IntKind.wrap .i64 (d8 * (Int.tmod (IntKind.wrap .i64 (gd x2 (IntKind.wrap .i64 (x3 + d9)))) (128 : Int))))))) (QV.assign rfl) rfl rfl rfl ?_
            refine JL.val (v := .int .i64 (IntKind.wrap .i64 ((IntKind.wrap .i64 (x3 + d9)) + (1 : Int)))) (QV.assign rfl) rfl rfl rfl ?_
            refine JL.val (v := .int .i64 (0 : Int)) (QV.assign rfl) rfl rfl rfl ?_
            refine JL.nil ?_
            refine QJ.then_normal ?_
            refine JC.ret ?_
            refine QJ.block_ret ?_
            refine QJ.then_ret ?_
            obtain rfl := Option.some.inj hm
            refine QJ.round_ret (fun hy => ?_)
            subst hy
            refine QJ.block_ret ?_
            refine QJ.cut_ret ?_
            refine QJ.then_ret ?_
            obtain rfl := Option.some.inj hmo15
            exact QJ.body (vs := [.int .i64 (IntKind.wrap .i64 (d7 + (IntKind.wrap .i64 (d8 * (Int.tmod (IntKind.wrap .i64 (gd x2 (IntKind.wrap .i64 (x3 + d9)))) (128 : Int)))))), .int .i64 (IntKind.wrap .i64 ((IntKind.wrap .i64 (x3 + d9)) + (1 : Int))), .int .i64 (0 : Int)]) (.inl rfl) rfl (ResVs.cons (ResV.tmp rfl) (ResVs.cons (ResV.tmp rfl) (ResVs.cons (ResV.tmp rfl) ResVs.nil))) [] rfl rfl (.inr trivial) ⟨rfl, rfl⟩
        ·
          refine JC.condF' rfl (decide_eq_false h20) ?_
          refine JC.skip ?_
          refine QJ.block_normal ?_
          refine QJ.then_normal ?_
          refine JC.region ?_
          refine JL.val (v := .int .i64 d9) (QV.move rfl) rfl rfl rfl ?_
          refine JL.val (v := .int .i64 (IntKind.wrap .i64 (d9 + (1 : Int)))) (QV.add rfl rfl) rfl rfl rfl ?_
          refine JL.val (v := .int .i64 (IntKind.wrap .i64 (d9 + (1 : Int)))) (QV.assign rfl) rfl rfl rfl ?_
          refine JL.nil ?_
          obtain rfl := Option.some.inj hm
          exact QJ.round_on ((IntKind.wrap .i64 (d7 + (IntKind.wrap .i64 (d8 * (Int.tmod (IntKind.wrap .i64 (gd x2 (IntKind.wrap .i64 (x3 + d9)))) (128 : Int)))))), (IntKind.wrap .i64 (d8 * (128 : Int))), (IntKind.wrap .i64 (d9 + (1 : Int)))) () [0] (by exact ⟨rfl, rfl, rfl, rfl, rfl, trivial⟩) rfl rfl
    ·
      refine JC.condF' rfl (decide_eq_false h17) ?_
      refine JC.exit ?_
      refine QJ.then_exit ?_
      obtain rfl := Option.some.inj hm
      refine QJ.round_exit (fun hy => ?_)
      subst hy
      refine QJ.block_hit ?_
      exact QJ.cut_normal ((), ()) hmo15 [] trivial rfl rfl

/-! ### 47: drogher/drogherref16.step -/
noncomputable def F47.j1 (x2 : List Int) (x3 : Int) (y16 : (Int × Int × Int)) (d19 : Int) (d20 : Int) : Option (Int × Int × Int × List Int × Int × Int) :=
  (if y16.1 < (1 : Int) then some ((gd x2 x3), d19, y16.1, ([] : List Int), (0 : Int), (13 : Int)) else (if (4096 : Int) < y16.1 then some ((gd x2 x3), d19, y16.1, ([] : List Int), (0 : Int), (13 : Int)) else (if (2147483647 : Int) < d19 then some ((gd x2 x3), d19, y16.1, ([] : List Int), (0 : Int), (13 : Int)) else (if (gd x2 x3) = (2 : Int) then some ((gd x2 x3), d19, y16.1, ([] : List Int), d20, (0 : Int)) else (if (IntKind.wrap .i64 (((x2).length : Int) - d20)) < y16.1 then some ((gd x2 x3), d19, y16.1, ([] : List Int), (0 : Int), (2 : Int)) else (if 0 ≤ d20 ∧ d20 ≤ (IntKind.wrap .i64 (d20 + y16.1)) ∧ (IntKind.wrap .i64 (d20 + y16.1)) ≤ ((x2).length : Int) then some ((gd x2 x3), d19, y16.1, (subL x2 d20 (IntKind.wrap .i64 (d20 + y16.1))), (IntKind.wrap .i64 (d20 + y16.1)), (0 : Int)) else none))))))
noncomputable def F47.m (x2 : List Int) (x3 : Int) : Option (Int × Int × Int × List Int × Int × Int) :=
  (if 0 ≤ x3 ∧ x3 < ((x2).length : Int) then (if (gd x2 x3) < (1 : Int) then some ((gd x2 x3), (0 : Int), (0 : Int), ([] : List Int), (0 : Int), (13 : Int)) else (if (3 : Int) < (gd x2 x3) then some ((gd x2 x3), (0 : Int), (0 : Int), ([] : List Int), (0 : Int), (13 : Int)) else ((F64.m (x2) ((IntKind.wrap .i64 (x3 + (1 : Int))))).bind fun y16 => (if y16.2.2 = (0 : Int) then (if (1 : Int) < (gd x2 x3) then ((F64.m (x2) (y16.2.1)).bind fun y28 => (if y28.2.2 = (0 : Int) then F47.j1 x2 x3 y16 (y28.1) (y28.2.1) else some ((gd x2 x3), (0 : Int), y16.1, ([] : List Int), (0 : Int), y28.2.2))) else F47.j1 x2 x3 y16 ((0 : Int)) (y16.2.1)) else some ((gd x2 x3), (0 : Int), (0 : Int), ([] : List Int), (0 : Int), y16.2.2))))) else none)
set_option maxRecDepth 100000 in
set_option maxHeartbeats 4000000 in
theorem F47.spec (s1 : SlV) (x2 : List Int) (x3 : Int) (r : (Int × Int × Int × List Int × Int × Int)) (hm : F47.m x2 x3 = some r) :
    Ctr Try.prog true 47 [s1.v, .int .i64 x3] [Asr.vw (Enc.int .u8) (s1.v) x2] (fun v L' => ∃ (g7 : SlV), v = .tuple #[.agg #[.int .u8 r.1, .int .i64 r.2.1, .int .i64 r.2.2.1, g7.v], .int .i64 r.2.2.2.2.1, .int .i64 r.2.2.2.2.2] ∧ L' = [Asr.vw (Enc.int .u8) (g7.v) r.2.2.2.1]) := by
  refine Ctr.intro (n := 103) (env := [(0, s1.v), (1, .int .i64 x3)]) Try.func47 rfl rfl rfl rfl (fun c => ?_)
  unfold F47.m at hm
  refine JC.seq ?_
  refine JC.region ?_
  refine JL.ent (fun _ hs => hs.nil 5 (Enc.int .u8)) ?_
  refine JL.mv (d := some 4) (MV.alloc [Seg.c (.int .u8 (0 : Int)), Seg.c (.int .i64 (0 : Int)), Seg.c (.int .i64 (0 : Int)), Seg.c (SlV.nil.v)] z_35 rfl) rfl rfl rfl ?_
  rintro _ _ ⟨b11, rfl, rfl⟩
  refine JL.val (v := .int .i64 (0 : Int)) (QV.assign rfl) rfl rfl rfl ?_
  refine JL.val (v := .int .i64 (0 : Int)) (QV.assign rfl) rfl rfl rfl ?_
  refine JL.nil ?_
  refine QJ.then_normal ?_
  refine JC.seq ?_
  refine JC.region ?_
  refine JL.val (v := s1.v) (QV.move rfl) rfl rfl rfl ?_
  refine JL.val (v := .int .i64 x3) (QV.move rfl) rfl rfl rfl ?_
  obtain ⟨h12, hm⟩ := guard_inv hm
  refine JL.val (v := .pointer (some (elA (s1.v) (Int.toNat x3 * ((Enc.int .u8)).sz)))) (QV.indexA (Rdg.vw 2 rfl) Try.underlying23 tk_5 rfl rfl h12) rfl rfl rfl ?_
  refine JL.val (v := .int .u8 (gd x2 x3)) (QV.el1 (Rdg.vw 2 rfl) tk_5 rfl h12 rfl) rfl rfl rfl ?_
  refine JL.ent (fun _ hs => hs.nil 5 (Enc.int .u8)) ?_
  refine JL.val (v := .agg #[.int .u8 (gd x2 x3), .int .i64 (0 : Int), .int .i64 (0 : Int), SlV.nil.v]) (QV.build (vals := [(0, .int .u8 (gd x2 x3))]) rfl (by kernel_rfl)) rfl rfl rfl ?_
  refine JL.ent (fun _ hs => hs.nil 5 (Enc.int .u8)) ?_
  refine JL.mv (d := some 7) (MV.alloc [Seg.c (.int .u8 (0 : Int)), Seg.c (.int .i64 (0 : Int)), Seg.c (.int .i64 (0 : Int)), Seg.c (SlV.nil.v)] z_35 rfl) rfl rfl rfl ?_
  rintro _ _ ⟨b13, rfl, rfl⟩
  refine JL.mv (d := none) (MV.store (ss := [Seg.c (.int .u8 (0 : Int)), Seg.c (.int .i64 (0 : Int)), Seg.c (.int .i64 (0 : Int)), Seg.c (SlV.nil.v)]) 0 0 4 [Seg.c (.int .u8 (gd x2 x3)), Seg.c (.int .i64 (0 : Int)), Seg.c (.int .i64 (0 : Int)), Seg.c (SlV.nil.v)] rfl tk_35 rfl rfl rfl rfl (fun w hs => ⟨rfl, one_c rfl, one_c rfl, one_c rfl, one_sl (Rdg.of 2 rfl) hs, trivial⟩)) rfl rfl rfl ?_
  rintro _ _ ⟨rfl, rfl⟩
  refine JL.nil ?_
  refine QJ.then_normal ?_
  refine JC.seq ?_
  refine JC.seq ?_
  refine JC.region ?_
  refine JL.val (v := s1.v) (QV.move rfl) rfl rfl rfl ?_
  refine JL.val (v := .int .i64 x3) (QV.move rfl) rfl rfl rfl ?_
  refine JL.val (v := .pointer (some (elA (s1.v) (Int.toNat x3 * ((Enc.int .u8)).sz)))) (QV.indexA (Rdg.vw 5 rfl) Try.underlying23 tk_5 rfl rfl h12) rfl rfl rfl ?_
  refine JL.val (v := .int .u8 (gd x2 x3)) (QV.el1 (Rdg.vw 5 rfl) tk_5 rfl h12 rfl) rfl rfl rfl ?_
  refine JL.val (v := .bool (decide ((gd x2 x3) < (1 : Int)))) (QV.lss rfl rfl) rfl rfl rfl ?_
  rcases ite_inv hm with ⟨h14, hm⟩ | ⟨h14, hm⟩
  ·
    refine JL.val (v := .bool true) (QV.eq (QV.move rfl) (congrArg Value.bool (decide_eq_true h14))) rfl rfl rfl ?_
    refine JL.skip (d := some 25) rfl rfl rfl ?_
    refine JL.skip (d := some 26) rfl rfl rfl ?_
    refine JL.skip (d := some 27) rfl rfl rfl ?_
    refine JL.skip (d := some 28) rfl rfl rfl ?_
    refine JL.skip (d := some 29) rfl rfl rfl ?_
    refine JL.val (v := .bool true) (QV.pickT rfl rfl) rfl rfl rfl ?_
    refine JL.nil ?_
    refine QJ.then_normal ?_
    refine JC.condT rfl ?_
    refine JC.seq ?_
    refine JC.region ?_
    refine JL.val (v := .agg #[.int .u8 (gd x2 x3), .int .i64 (0 : Int), .int .i64 (0 : Int), SlV.nil.v]) (QV.eq (QV.loadN (ss := [Seg.c (.int .u8 (gd x2 x3)), Seg.c (.int .i64 (0 : Int)), Seg.c (.int .i64 (0 : Int)), Seg.c (SlV.nil.v)]) 0 0 4 rfl tk_35 rfl rfl rfl rfl) rfl) rfl rfl rfl ?_
    refine JL.mv (d := none) (MV.store (ss := [Seg.c (.int .u8 (0 : Int)), Seg.c (.int .i64 (0 : Int)), Seg.c (.int .i64 (0 : Int)), Seg.c (SlV.nil.v)]) 3 0 4 [Seg.c (.int .u8 (gd x2 x3)), Seg.c (.int .i64 (0 : Int)), Seg.c (.int .i64 (0 : Int)), Seg.c (SlV.nil.v)] rfl tk_35 rfl rfl rfl rfl (fun w hs => ⟨rfl, one_c rfl, one_c rfl, one_c rfl, one_sl (Rdg.of 2 rfl) hs, trivial⟩)) rfl rfl rfl ?_
    rintro _ _ ⟨rfl, rfl⟩
    refine JL.val (v := .int .i64 (0 : Int)) (QV.assign rfl) rfl rfl rfl ?_
    refine JL.val (v := .int .i64 (13 : Int)) (QV.assign rfl) rfl rfl rfl ?_
    refine JL.nil ?_
    refine QJ.then_normal ?_
    refine JC.ret ?_
    refine QJ.then_ret ?_
    obtain rfl := Option.some.inj hm
    refine QJ.ent (fun _ hs => hs.share 2 rfl) ?_
    exact QJ.body (vs := [.agg #[.int .u8 (gd x2 x3), .int .i64 (0 : Int), .int .i64 (0 : Int), SlV.nil.v], .int .i64 (0 : Int), .int .i64 (13 : Int)]) (.inl rfl) rfl (ResVs.cons (ResV.cell (d := none) (ty := 0) (ps := "") (af := #[]) (g := none) rfl (QV.eq (QV.loadN (ss := [Seg.c (.int .u8 (gd x2 x3)), Seg.c (.int .i64 (0 : Int)), Seg.c (.int .i64 (0 : Int)), Seg.c (SlV.nil.v)]) 3 0 4 rfl tk_35 rfl rfl rfl rfl) rfl)) (ResVs.cons (ResV.tmp rfl) (ResVs.cons (ResV.tmp rfl) ResVs.nil))) [2] rfl rfl (.inl rfl) ⟨(SlV.nil), rfl, rfl⟩
  ·
    refine JL.val (v := .bool false) (QV.eq (QV.move rfl) (congrArg Value.bool (decide_eq_false h14))) rfl rfl rfl ?_
    refine JL.val (v := s1.v) (QV.move rfl) rfl rfl rfl ?_
    refine JL.val (v := .int .i64 x3) (QV.move rfl) rfl rfl rfl ?_
    refine JL.val (v := .pointer (some (elA (s1.v) (Int.toNat x3 * ((Enc.int .u8)).sz)))) (QV.indexA (Rdg.vw 5 rfl) Try.underlying23 tk_5 rfl rfl h12) rfl rfl rfl ?_
    refine JL.val (v := .int .u8 (gd x2 x3)) (QV.el1 (Rdg.vw 5 rfl) tk_5 rfl h12 rfl) rfl rfl rfl ?_
    refine JL.val (v := .bool (decide ((3 : Int) < (gd x2 x3)))) (QV.gtr rfl rfl) rfl rfl rfl ?_
    refine JL.val (v := .bool (decide ((3 : Int) < (gd x2 x3)))) (QV.pickF rfl rfl) rfl rfl rfl ?_
    refine JL.nil ?_
    refine QJ.then_normal ?_
    rcases ite_inv hm with ⟨h15, hm⟩ | ⟨h15, hm⟩
    ·
      refine JC.condT' rfl (decide_eq_true h15) ?_
      refine JC.seq ?_
      refine JC.region ?_
      refine JL.val (v := .agg #[.int .u8 (gd x2 x3), .int .i64 (0 : Int), .int .i64 (0 : Int), SlV.nil.v]) (QV.eq (QV.loadN (ss := [Seg.c (.int .u8 (gd x2 x3)), Seg.c (.int .i64 (0 : Int)), Seg.c (.int .i64 (0 : Int)), Seg.c (SlV.nil.v)]) 0 0 4 rfl tk_35 rfl rfl rfl rfl) rfl) rfl rfl rfl ?_
      refine JL.mv (d := none) (MV.store (ss := [Seg.c (.int .u8 (0 : Int)), Seg.c (.int .i64 (0 : Int)), Seg.c (.int .i64 (0 : Int)), Seg.c (SlV.nil.v)]) 3 0 4 [Seg.c (.int .u8 (gd x2 x3)), Seg.c (.int .i64 (0 : Int)), Seg.c (.int .i64 (0 : Int)), Seg.c (SlV.nil.v)] rfl tk_35 rfl rfl rfl rfl (fun w hs => ⟨rfl, one_c rfl, one_c rfl, one_c rfl, one_sl (Rdg.of 2 rfl) hs, trivial⟩)) rfl rfl rfl ?_
      rintro _ _ ⟨rfl, rfl⟩
      refine JL.val (v := .int .i64 (0 : Int)) (QV.assign rfl) rfl rfl rfl ?_
      refine JL.val (v := .int .i64 (13 : Int)) (QV.assign rfl) rfl rfl rfl ?_
      refine JL.nil ?_
      refine QJ.then_normal ?_
      refine JC.ret ?_
      refine QJ.then_ret ?_
      obtain rfl := Option.some.inj hm
      refine QJ.ent (fun _ hs => hs.share 2 rfl) ?_
      exact QJ.body (vs := [.agg #[.int .u8 (gd x2 x3), .int .i64 (0 : Int), .int .i64 (0 : Int), SlV.nil.v], .int .i64 (0 : Int), .int .i64 (13 : Int)]) (.inl rfl) rfl (ResVs.cons (ResV.cell (d := none) (ty := 0) (ps := "") (af := #[]) (g := none) rfl (QV.eq (QV.loadN (ss := [Seg.c (.int .u8 (gd x2 x3)), Seg.c (.int .i64 (0 : Int)), Seg.c (.int .i64 (0 : Int)), Seg.c (SlV.nil.v)]) 3 0 4 rfl tk_35 rfl rfl rfl rfl) rfl)) (ResVs.cons (ResV.tmp rfl) (ResVs.cons (ResV.tmp rfl) ResVs.nil))) [2] rfl rfl (.inl rfl) ⟨(SlV.nil), rfl, rfl⟩
    ·
      refine JC.condF' rfl (decide_eq_false h15) ?_
      refine JC.skip ?_
      refine QJ.then_normal ?_
      refine JC.seq ?_
      refine JC.region ?_
      refine JL.val (v := s1.v) (QV.move rfl) rfl rfl rfl ?_
      refine JL.val (v := .int .i64 x3) (QV.move rfl) rfl rfl rfl ?_
      refine JL.val (v := .int .i64 (IntKind.wrap .i64 (x3 + (1 : Int)))) (QV.add rfl rfl) rfl rfl rfl ?_
      obtain ⟨y16, hc17, hm⟩ := bind_inv hm
      refine JL.mv (d := some 36) (MV.call (Lo := []) (Lr := [Asr.blk b13 35 [Seg.c (.int .u8 (gd x2 x3)), Seg.c (.int .i64 (0 : Int)), Seg.c (.int .i64 (0 : Int)), Seg.c (SlV.nil.v)], Asr.of 5 (Enc.int .u8) (SlV.nil.v) ([] : List Int), Asr.of 5 (Enc.int .u8) (SlV.nil.v) ([] : List Int), Asr.blk b11 35 [Seg.c (.int .u8 (0 : Int)), Seg.c (.int .i64 (0 : Int)), Seg.c (.int .i64 (0 : Int)), Seg.c (SlV.nil.v)], Asr.of 5 (Enc.int .u8) (SlV.nil.v) ([] : List Int), Asr.vw (Enc.int .u8) (s1.v) x2]) (F64.spec (s1) (x2) ((IntKind.wrap .i64 (x3 + (1 : Int)))) _ hc17) rfl Try.func64 rfl rfl rfl [] [0, 1, 2, 3, 4, 5] rfl rfl rfl ⟨(Drv.vw 5 rfl), trivial⟩) rfl rfl rfl ?_
      rintro _ _ ⟨_, ⟨rfl, rfl⟩, rfl⟩
      refine JL.val (v := .tuple #[.int .i64 y16.1, .int .i64 y16.2.1, .int .i64 y16.2.2]) (QV.move rfl) rfl rfl rfl ?_
      refine JL.val (v := .int .i64 y16.1) (QV.extract (vs := [.int .i64 y16.1, .int .i64 y16.2.1, .int .i64 y16.2.2]) rfl rfl) rfl rfl rfl ?_
      refine JL.val (v := .int .i64 y16.2.1) (QV.extract (vs := [.int .i64 y16.1, .int .i64 y16.2.1, .int .i64 y16.2.2]) rfl rfl) rfl rfl rfl ?_
      refine JL.val (v := .int .i64 y16.2.2) (QV.extract (vs := [.int .i64 y16.1, .int .i64 y16.2.1, .int .i64 y16.2.2]) rfl rfl) rfl rfl rfl ?_
      refine JL.val (v := .int .i64 y16.1) (QV.assign rfl) rfl rfl rfl ?_
      refine JL.val (v := .int .i64 y16.2.1) (QV.assign rfl) rfl rfl rfl ?_
      refine JL.val (v := .int .i64 y16.2.2) (QV.assign rfl) rfl rfl rfl ?_
      refine JL.nil ?_
      refine QJ.then_normal ?_
      refine JC.seq ?_
      refine JC.seq ?_
      refine JC.region ?_
      refine JL.val (v := .int .i64 y16.2.2) (QV.move rfl) rfl rfl rfl ?_
      refine JL.val (v := .bool (!(decide (y16.2.2 = (0 : Int))))) (QV.neq rfl rfl) rfl rfl rfl ?_
      refine JL.nil ?_
      refine QJ.then_normal ?_
      rcases ite_inv hm with ⟨h18, hm⟩ | ⟨h18, hm⟩
      ·
        refine JC.condF' rfl (congrArg Bool.not (decide_eq_true h18)) ?_
        refine JC.skip ?_
        refine QJ.then_normal ?_
        refine JC.seq ?_
        refine JC.region ?_
        refine JL.val (v := .int .i64 y16.1) (QV.move rfl) rfl rfl rfl ?_
        refine JL.val (v := .pointer (some ⟨b13, 2, none⟩)) (QV.fieldB fo_35_2 rfl rfl) rfl rfl rfl ?_
        refine JL.mv (d := none) (MV.store (ss := [Seg.c (.int .u8 (gd x2 x3)), Seg.c (.int .i64 (0 : Int)), Seg.c (.int .i64 (0 : Int)), Seg.c (SlV.nil.v)]) 0 2 1 [Seg.c (.int .i64 y16.1)] rfl tk_3 rfl rfl rfl rfl (fun w hs => ⟨rfl, one_c rfl, trivial⟩)) rfl rfl rfl ?_
        rintro _ _ ⟨rfl, rfl⟩
        refine JL.nil ?_
        refine QJ.then_normal ?_
        refine JC.seq ?_
        refine JC.seq ?_
        refine JC.region ?_
        refine JL.val (v := .pointer (some ⟨b13, 0, none⟩)) (QV.fieldB fo_35_0 rfl rfl) rfl rfl rfl ?_
        refine JL.val (v := .int .u8 (gd x2 x3)) (QV.load1 (ss := [Seg.c (.int .u8 (gd x2 x3)), Seg.c (.int .i64 (0 : Int)), Seg.c (.int .i64 y16.1), Seg.c (SlV.nil.v)]) 0 0 rfl tk_5 rfl rfl rfl) rfl rfl rfl ?_
        refine JL.val (v := .bool (decide ((1 : Int) < (gd x2 x3)))) (QV.gtr rfl rfl) rfl rfl rfl ?_
        refine JL.nil ?_
        refine QJ.then_normal ?_
        refine JC.cutK (Y := (Int × Int) × Unit) (fun y => match y with | ((d19, d20), _) => F47.j1 x2 x3 y16 (d19) (d20) = some r) (fun y => match y with | ((d19, d20), _) => [(0, s1.v), (4, .pointer (some ⟨b11, 0, none⟩)), (7, .pointer (some ⟨b13, 0, none⟩)), (9, .int .i64 d20)]) (fun y => match y with | ((d19, d20), _) => [Asr.vw (Enc.int .u8) (s1.v) x2, Asr.of 5 (Enc.int .u8) (SlV.nil.v) ([] : List Int), Asr.blk b11 35 [Seg.c (.int .u8 (0 : Int)), Seg.c (.int .i64 (0 : Int)), Seg.c (.int .i64 (0 : Int)), Seg.c (SlV.nil.v)], Asr.of 5 (Enc.int .u8) (SlV.nil.v) ([] : List Int), Asr.blk b13 35 [Seg.c (.int .u8 (gd x2 x3)), Seg.c (.int .i64 d19), Seg.c (.int .i64 y16.1), Seg.c (SlV.nil.v)]]) ?_ ?_
        ·
          rintro ⟨⟨d19, d20⟩, ⟨⟩⟩ hm
          unfold F47.j1 at hm
          show QJ _ _ [(0, s1.v), (4, .pointer (some ⟨b11, 0, none⟩)), (7, .pointer (some ⟨b13, 0, none⟩)), (9, .int .i64 d20)] [Asr.vw (Enc.int .u8) (s1.v) x2, Asr.of 5 (Enc.int .u8) (SlV.nil.v) ([] : List Int), Asr.blk b11 35 [Seg.c (.int .u8 (0 : Int)), Seg.c (.int .i64 (0 : Int)), Seg.c (.int .i64 (0 : Int)), Seg.c (SlV.nil.v)], Asr.of 5 (Enc.int .u8) (SlV.nil.v) ([] : List Int), Asr.blk b13 35 [Seg.c (.int .u8 (gd x2 x3)), Seg.c (.int .i64 d19), Seg.c (.int .i64 y16.1), Seg.c (SlV.nil.v)]] _ _
          refine QJ.then_normal ?_
          refine JC.seq ?_
          refine JC.seq ?_
          refine JC.region ?_
          refine JL.val (v := .pointer (some ⟨b13, 2, none⟩)) (QV.fieldB fo_35_2 rfl rfl) rfl rfl rfl ?_
          refine JL.val (v := .int .i64 y16.1) (QV.load1 (ss := [Seg.c (.int .u8 (gd x2 x3)), Seg.c (.int .i64 d19), Seg.c (.int .i64 y16.1), Seg.c (SlV.nil.v)]) 4 2 rfl tk_3 rfl rfl rfl) rfl rfl rfl ?_
          refine JL.val (v := .bool (decide (y16.1 < (1 : Int)))) (QV.lss rfl rfl) rfl rfl rfl ?_
          rcases ite_inv hm with ⟨h21, hm⟩ | ⟨h21, hm⟩
          ·
            refine JL.val (v := .bool true) (QV.eq (QV.move rfl) (congrArg Value.bool (decide_eq_true h21))) rfl rfl rfl ?_
            refine JL.skip (d := some 67) rfl rfl rfl ?_
            refine JL.skip (d := some 68) rfl rfl rfl ?_
            refine JL.skip (d := some 69) rfl rfl rfl ?_
            refine JL.val (v := .bool true) (QV.pickT rfl rfl) rfl rfl rfl ?_
            refine JL.val (v := .bool true) (QV.move rfl) rfl rfl rfl ?_
            refine JL.skip (d := some 72) rfl rfl rfl ?_
            refine JL.skip (d := some 73) rfl rfl rfl ?_
            refine JL.skip (d := some 74) rfl rfl rfl ?_
            refine JL.val (v := .bool true) (QV.pickT rfl rfl) rfl rfl rfl ?_
            refine JL.nil ?_
            refine QJ.then_normal ?_
            refine JC.condT rfl ?_
            refine JC.seq ?_
            refine JC.region ?_
            refine JL.val (v := .agg #[.int .u8 (gd x2 x3), .int .i64 d19, .int .i64 y16.1, SlV.nil.v]) (QV.eq (QV.loadN (ss := [Seg.c (.int .u8 (gd x2 x3)), Seg.c (.int .i64 d19), Seg.c (.int .i64 y16.1), Seg.c (SlV.nil.v)]) 4 0 4 rfl tk_35 rfl rfl rfl rfl) rfl) rfl rfl rfl ?_
            refine JL.mv (d := none) (MV.store (ss := [Seg.c (.int .u8 (0 : Int)), Seg.c (.int .i64 (0 : Int)), Seg.c (.int .i64 (0 : Int)), Seg.c (SlV.nil.v)]) 2 0 4 [Seg.c (.int .u8 (gd x2 x3)), Seg.c (.int .i64 d19), Seg.c (.int .i64 y16.1), Seg.c (SlV.nil.v)] rfl tk_35 rfl rfl rfl rfl (fun w hs => ⟨rfl, one_c rfl, one_c rfl, one_c rfl, one_sl (Rdg.of 3 rfl) hs, trivial⟩)) rfl rfl rfl ?_
            rintro _ _ ⟨rfl, rfl⟩
            refine JL.val (v := .int .i64 (0 : Int)) (QV.assign rfl) rfl rfl rfl ?_
            refine JL.val (v := .int .i64 (13 : Int)) (QV.assign rfl) rfl rfl rfl ?_
            refine JL.nil ?_
            refine QJ.then_normal ?_
            refine JC.ret ?_
            refine QJ.then_ret ?_
            obtain rfl := Option.some.inj hm
            refine QJ.ent (fun _ hs => hs.share 3 rfl) ?_
            exact QJ.body (vs := [.agg #[.int .u8 (gd x2 x3), .int .i64 d19, .int .i64 y16.1, SlV.nil.v], .int .i64 (0 : Int), .int .i64 (13 : Int)]) (.inl rfl) rfl (ResVs.cons (ResV.cell (d := none) (ty := 0) (ps := "") (af := #[]) (g := none) rfl (QV.eq (QV.loadN (ss := [Seg.c (.int .u8 (gd x2 x3)), Seg.c (.int .i64 d19), Seg.c (.int .i64 y16.1), Seg.c (SlV.nil.v)]) 2 0 4 rfl tk_35 rfl rfl rfl rfl) rfl)) (ResVs.cons (ResV.tmp rfl) (ResVs.cons (ResV.tmp rfl) ResVs.nil))) [3] rfl rfl (.inl rfl) ⟨(SlV.nil), rfl, rfl⟩
          ·
            refine JL.val (v := .bool false) (QV.eq (QV.move rfl) (congrArg Value.bool (decide_eq_false h21))) rfl rfl rfl ?_
            refine JL.val (v := .pointer (some ⟨b13, 2, none⟩)) (QV.fieldB fo_35_2 rfl rfl) rfl rfl rfl ?_
            refine JL.val (v := .int .i64 y16.1) (QV.load1 (ss := [Seg.c (.int .u8 (gd x2 x3)), Seg.c (.int .i64 d19), Seg.c (.int .i64 y16.1), Seg.c (SlV.nil.v)]) 4 2 rfl tk_3 rfl rfl rfl) rfl rfl rfl ?_
            refine JL.val (v := .bool (decide ((4096 : Int) < y16.1))) (QV.gtr rfl rfl) rfl rfl rfl ?_
            refine JL.val (v := .bool (decide ((4096 : Int) < y16.1))) (QV.pickF rfl rfl) rfl rfl rfl ?_
            rcases ite_inv hm with ⟨h22, hm⟩ | ⟨h22, hm⟩
            ·
              refine JL.val (v := .bool true) (QV.eq (QV.move rfl) (congrArg Value.bool (decide_eq_true h22))) rfl rfl rfl ?_
              refine JL.skip (d := some 72) rfl rfl rfl ?_
              refine JL.skip (d := some 73) rfl rfl rfl ?_
              refine JL.skip (d := some 74) rfl rfl rfl ?_
              refine JL.val (v := .bool true) (QV.pickT rfl rfl) rfl rfl rfl ?_
              refine JL.nil ?_
              refine QJ.then_normal ?_
              refine JC.condT rfl ?_
              refine JC.seq ?_
              refine JC.region ?_
              refine JL.val (v := .agg #[.int .u8 (gd x2 x3), .int .i64 d19, .int .i64 y16.1, SlV.nil.v]) (QV.eq (QV.loadN (ss := [Seg.c (.int .u8 (gd x2 x3)), Seg.c (.int .i64 d19), Seg.c (.int .i64 y16.1), Seg.c (SlV.nil.v)]) 4 0 4 rfl tk_35 rfl rfl rfl rfl) rfl) rfl rfl rfl ?_
              refine JL.mv (d := none) (MV.store (ss := [Seg.c (.int .u8 (0 : Int)), Seg.c (.int .i64 (0 : Int)), Seg.c (.int .i64 (0 : Int)), Seg.c (SlV.nil.v)]) 2 0 4 [Seg.c (.int .u8 (gd x2 x3)), Seg.c (.int .i64 d19), Seg.c (.int .i64 y16.1), Seg.c (SlV.nil.v)] rfl tk_35 rfl rfl rfl rfl (fun w hs => ⟨rfl, one_c rfl, one_c rfl, one_c rfl, one_sl (Rdg.of 3 rfl) hs, trivial⟩)) rfl rfl rfl ?_
              rintro _ _ ⟨rfl, rfl⟩
              refine JL.val (v := .int .i64 (0 : Int)) (QV.assign rfl) rfl rfl rfl ?_
              refine JL.val (v := .int .i64 (13 : Int)) (QV.assign rfl) rfl rfl rfl ?_
              refine JL.nil ?_
              refine QJ.then_normal ?_
              refine JC.ret ?_
              refine QJ.then_ret ?_
              obtain rfl := Option.some.inj hm
              refine QJ.ent (fun _ hs => hs.share 3 rfl) ?_
              exact QJ.body (vs := [.agg #[.int .u8 (gd x2 x3), .int .i64 d19, .int .i64 y16.1, SlV.nil.v], .int .i64 (0 : Int), .int .i64 (13 : Int)]) (.inl rfl) rfl (ResVs.cons (ResV.cell (d := none) (ty := 0) (ps := "") (af := #[]) (g := none) rfl (QV.eq (QV.loadN (ss := [Seg.c (.int .u8 (gd x2 x3)), Seg.c (.int .i64 d19), Seg.c (.int .i64 y16.1), Seg.c (SlV.nil.v)]) 2 0 4 rfl tk_35 rfl rfl rfl rfl) rfl)) (ResVs.cons (ResV.tmp rfl) (ResVs.cons (ResV.tmp rfl) ResVs.nil))) [3] rfl rfl (.inl rfl) ⟨(SlV.nil), rfl, rfl⟩
            ·
              refine JL.val (v := .bool false) (QV.eq (QV.move rfl) (congrArg Value.bool (decide_eq_false h22))) rfl rfl rfl ?_
              refine JL.val (v := .pointer (some ⟨b13, 1, none⟩)) (QV.fieldB fo_35_1 rfl rfl) rfl rfl rfl ?_
              refine JL.val (v := .int .i64 d19) (QV.load1 (ss := [Seg.c (.int .u8 (gd x2 x3)), Seg.c (.int .i64 d19), Seg.c (.int .i64 y16.1), Seg.c (SlV.nil.v)]) 4 1 rfl tk_3 rfl rfl rfl) rfl rfl rfl ?_
              refine JL.val (v := .bool (decide ((2147483647 : Int) < d19))) (QV.gtr rfl rfl) rfl rfl rfl ?_
              refine JL.val (v := .bool (decide ((2147483647 : Int) < d19))) (QV.pickF rfl rfl) rfl rfl rfl ?_
              refine JL.nil ?_
              refine QJ.then_normal ?_
              rcases ite_inv hm with ⟨h23, hm⟩ | ⟨h23, hm⟩
              ·
                refine JC.condT' rfl (decide_eq_true h23) ?_
                refine JC.seq ?_
                refine JC.region ?_
                refine JL.val (v := .agg #[.int .u8 (gd x2 x3), .int .i64 d19, .int .i64 y16.1, SlV.nil.v]) (QV.eq (QV.loadN (ss := [Seg.c (.int .u8 (gd x2 x3)), Seg.c (.int .i64 d19), Seg.c (.int .i64 y16.1), Seg.c (SlV.nil.v)]) 4 0 4 rfl tk_35 rfl rfl rfl rfl) rfl) rfl rfl rfl ?_
                refine JL.mv (d := none) (MV.store (ss := [Seg.c (.int .u8 (0 : Int)), Seg.c (.int .i64 (0 : Int)), Seg.c (.int .i64 (0 : Int)), Seg.c (SlV.nil.v)]) 2 0 4 [Seg.c (.int .u8 (gd x2 x3)), Seg.c (.int .i64 d19), Seg.c (.int .i64 y16.1), Seg.c (SlV.nil.v)] rfl tk_35 rfl rfl rfl rfl (fun w hs => ⟨rfl, one_c rfl, one_c rfl, one_c rfl, one_sl (Rdg.of 3 rfl) hs, trivial⟩)) rfl rfl rfl ?_
                rintro _ _ ⟨rfl, rfl⟩
                refine JL.val (v := .int .i64 (0 : Int)) (QV.assign rfl) rfl rfl rfl ?_
                refine JL.val (v := .int .i64 (13 : Int)) (QV.assign rfl) rfl rfl rfl ?_
                refine JL.nil ?_
                refine QJ.then_normal ?_
                refine JC.ret ?_
                refine QJ.then_ret ?_
                obtain rfl := Option.some.inj hm
                refine QJ.ent (fun _ hs => hs.share 3 rfl) ?_
                exact QJ.body (vs := [.agg #[.int .u8 (gd x2 x3), .int .i64 d19, .int .i64 y16.1, SlV.nil.v], .int .i64 (0 : Int), .int .i64 (13 : Int)]) (.inl rfl) rfl (ResVs.cons (ResV.cell (d := none) (ty := 0) (ps := "") (af := #[]) (g := none) rfl (QV.eq (QV.loadN (ss := [Seg.c (.int .u8 (gd x2 x3)), Seg.c (.int .i64 d19), Seg.c (.int .i64 y16.1), Seg.c (SlV.nil.v)]) 2 0 4 rfl tk_35 rfl rfl rfl rfl) rfl)) (ResVs.cons (ResV.tmp rfl) (ResVs.cons (ResV.tmp rfl) ResVs.nil))) [3] rfl rfl (.inl rfl) ⟨(SlV.nil), rfl, rfl⟩
              ·
                refine JC.condF' rfl (decide_eq_false h23) ?_
                refine JC.skip ?_
                refine QJ.then_normal ?_
                refine JC.seq ?_
                refine JC.seq ?_
                refine JC.region ?_
                refine JL.val (v := .pointer (some ⟨b13, 0, none⟩)) (QV.fieldB fo_35_0 rfl rfl) rfl rfl rfl ?_
                refine JL.val (v := .int .u8 (gd x2 x3)) (QV.load1 (ss := [Seg.c (.int .u8 (gd x2 x3)), Seg.c (.int .i64 d19), Seg.c (.int .i64 y16.1), Seg.c (SlV.nil.v)]) 4 0 rfl tk_5 rfl rfl rfl) rfl rfl rfl ?_
                refine JL.val (v := .bool (decide ((gd x2 x3) = (2 : Int)))) (QV.eql rfl rfl) rfl rfl rfl ?_
                refine JL.nil ?_
                refine QJ.then_normal ?_
                rcases ite_inv hm with ⟨h24, hm⟩ | ⟨h24, hm⟩
                ·
                  refine JC.condT' rfl (decide_eq_true h24) ?_
                  refine JC.seq ?_
                  refine JC.region ?_
                  refine JL.val (v := .agg #[.int .u8 (gd x2 x3), .int .i64 d19, .int .i64 y16.1, SlV.nil.v]) (QV.eq (QV.loadN (ss := [Seg.c (.int .u8 (gd x2 x3)), Seg.c (.int .i64 d19), Seg.c (.int .i64 y16.1), Seg.c (SlV.nil.v)]) 4 0 4 rfl tk_35 rfl rfl rfl rfl) rfl) rfl rfl rfl ?_
                  refine JL.val (v := .int .i64 d20) (QV.move rfl) rfl rfl rfl ?_
                  refine JL.mv (d := none) (MV.store (ss := [Seg.c (.int .u8 (0 : Int)), Seg.c (.int .i64 (0 : Int)), Seg.c (.int .i64 (0 : Int)), Seg.c (SlV.nil.v)]) 2 0 4 [Seg.c (.int .u8 (gd x2 x3)), Seg.c (.int .i64 d19), Seg.c (.int .i64 y16.1), Seg.c (SlV.nil.v)] rfl tk_35 rfl rfl rfl rfl (fun w hs => ⟨rfl, one_c rfl, one_c rfl, one_c rfl, one_sl (Rdg.of 3 rfl) hs, trivial⟩)) rfl rfl rfl ?_
                  rintro _ _ ⟨rfl, rfl⟩
                  refine JL.val (v := .int .i64 d20) (QV.assign rfl) rfl rfl rfl ?_
                  refine JL.val (v := .int .i64 (0 : Int)) (QV.assign rfl) rfl rfl rfl ?_
                  refine JL.nil ?_
                  refine QJ.then_normal ?_
                  refine JC.ret ?_
                  refine QJ.then_ret ?_
                  obtain rfl := Option.some.inj hm
                  refine QJ.ent (fun _ hs => hs.share 3 rfl) ?_
                  exact QJ.body (vs := [.agg #[.int .u8 (gd x2 x3), .int .i64 d19, .int .i64 y16.1, SlV.nil.v], .int .i64 d20, .int .i64 (0 : Int)]) (.inl rfl) rfl (ResVs.cons (ResV.cell (d := none) (ty := 0) (ps := "") (af := #[]) (g := none) rfl (QV.eq (QV.loadN (ss := [Seg.c (.int .u8 (gd x2 x3)), Seg.c (.int .i64 d19), Seg.c (.int .i64 y16.1), Seg.c (SlV.nil.v)]) 2 0 4 rfl tk_35 rfl rfl rfl rfl) rfl)) (ResVs.cons (ResV.tmp rfl) (ResVs.cons (ResV.tmp rfl) ResVs.nil))) [3] rfl rfl (.inl rfl) ⟨(SlV.nil), rfl, rfl⟩
                ·
                  refine JC.condF' rfl (decide_eq_false h24) ?_
                  refine JC.skip ?_
                  refine QJ.then_normal ?_
                  refine JC.seq ?_
                  refine JC.seq ?_
                  refine JC.region ?_
                  refine JL.val (v := .pointer (some ⟨b13, 2, none⟩)) (QV.fieldB fo_35_2 rfl rfl) rfl rfl rfl ?_
                  refine JL.val (v := .int .i64 y16.1) (QV.load1 (ss := [Seg.c (.int .u8 (gd x2 x3)), Seg.c (.int .i64 d19), Seg.c (.int .i64 y16.1), Seg.c (SlV.nil.v)]) 4 2 rfl tk_3 rfl rfl rfl) rfl rfl rfl ?_
                  refine JL.val (v := s1.v) (QV.move rfl) rfl rfl rfl ?_
                  refine JL.val (v := .int .i64 ((x2).length : Int)) (QV.len (Rdg.vw 0 rfl) Try.underlying23 rfl) rfl rfl rfl ?_
                  refine JL.val (v := .int .i64 d20) (QV.move rfl) rfl rfl rfl ?_
                  refine JL.val (v := .int .i64 (IntKind.wrap .i64 (((x2).length : Int) - d20))) (QV.sub rfl rfl) rfl rfl rfl ?_
                  refine JL.val (v := .bool (decide ((IntKind.wrap .i64 (((x2).length : Int) - d20)) < y16.1))) (QV.gtr rfl rfl) rfl rfl rfl ?_
                  refine JL.nil ?_
                  refine QJ.then_normal ?_
                  rcases ite_inv hm with ⟨h25, hm⟩ | ⟨h25, hm⟩
                  ·
                    refine JC.condT' rfl (decide_eq_true h25) ?_
                    refine JC.seq ?_
                    refine JC.region ?_
                    refine JL.val (v := .agg #[.int .u8 (gd x2 x3), .int .i64 d19, .int .i64 y16.1, SlV.nil.v]) (QV.eq (QV.loadN (ss := [Seg.c (.int .u8 (gd x2 x3)), Seg.c (.int .i64 d19), Seg.c (.int .i64 y16.1), Seg.c (SlV.nil.v)]) 4 0 4 rfl tk_35 rfl rfl rfl rfl) rfl) rfl rfl rfl ?_
                    refine JL.mv (d := none) (MV.store (ss := [Seg.c (.int .u8 (0 : Int)), Seg.c (.int .i64 (0 : Int)), Seg.c (.int .i64 (0 : Int)), Seg.c (SlV.nil.v)]) 2 0 4 [Seg.c (.int .u8 (gd x2 x3)), Seg.c (.int .i64 d19), Seg.c (.int .i64 y16.1), Seg.c (SlV.nil.v)] rfl tk_35 rfl rfl rfl rfl (fun w hs => ⟨rfl, one_c rfl, one_c rfl, one_c rfl, one_sl (Rdg.of 3 rfl) hs, trivial⟩)) rfl rfl rfl ?_
                    rintro _ _ ⟨rfl, rfl⟩
                    refine JL.val (v := .int .i64 (0 : Int)) (QV.assign rfl) rfl rfl rfl ?_
                    refine JL.val (v := .int .i64 (2 : Int)) (QV.assign rfl) rfl rfl rfl ?_
                    refine JL.nil ?_
                    refine QJ.then_normal ?_
                    refine JC.ret ?_
                    refine QJ.then_ret ?_
                    obtain rfl := Option.some.inj hm
                    refine QJ.ent (fun _ hs => hs.share 3 rfl) ?_
                    exact QJ.body (vs := [.agg #[.int .u8 (gd x2 x3), .int .i64 d19, .int .i64 y16.1, SlV.nil.v], .int .i64 (0 : Int), .int .i64 (2 : Int)]) (.inl rfl) rfl (ResVs.cons (ResV.cell (d := none) (ty := 0) (ps := "") (af := #[]) (g := none) rfl (QV.eq (QV.loadN (ss := [Seg.c (.int .u8 (gd x2 x3)), Seg.c (.int .i64 d19), Seg.c (.int .i64 y16.1), Seg.c (SlV.nil.v)]) 2 0 4 rfl tk_35 rfl rfl rfl rfl) rfl)) (ResVs.cons (ResV.tmp rfl) (ResVs.cons (ResV.tmp rfl) ResVs.nil))) [3] rfl rfl (.inl rfl) ⟨(SlV.nil), rfl, rfl⟩
                  ·
                    refine JC.condF' rfl (decide_eq_false h25) ?_
                    refine JC.skip ?_
                    refine QJ.then_normal ?_
                    refine JC.seq ?_
                    refine JC.region ?_
                    refine JL.val (v := s1.v) (QV.move rfl) rfl rfl rfl ?_
                    refine JL.val (v := .int .i64 d20) (QV.move rfl) rfl rfl rfl ?_
                    refine JL.val (v := .int .i64 d20) (QV.move rfl) rfl rfl rfl ?_
                    refine JL.val (v := .pointer (some ⟨b13, 2, none⟩)) (QV.fieldB fo_35_2 rfl rfl) rfl rfl rfl ?_
                    refine JL.val (v := .int .i64 y16.1) (QV.load1 (ss := [Seg.c (.int .u8 (gd x2 x3)), Seg.c (.int .i64 d19), Seg.c (.int .i64 y16.1), Seg.c (SlV.nil.v)]) 4 2 rfl tk_3 rfl rfl rfl) rfl rfl rfl ?_
                    refine JL.val (v := .int .i64 (IntKind.wrap .i64 (d20 + y16.1))) (QV.add rfl rfl) rfl rfl rfl ?_
                    obtain ⟨h26, hm⟩ := guard_inv hm
                    refine JL.val (v := (SlV.sub ((Enc.int .u8)).sz s1 d20 (IntKind.wrap .i64 (d20 + y16.1))).v) (QV.sliceV (Rdg.vw 0 rfl) Try.underlying23 tk_5 rfl rfl rfl h26) rfl rfl rfl ?_
                    refine JL.val (v := .pointer (some ⟨b13, 3, none⟩)) (QV.fieldB fo_35_3 rfl rfl) rfl rfl rfl ?_
                    refine JL.ent (fun _ hs => hs.derive ((Drv.vw 0 rfl).subV h26)) ?_
                    refine JL.mv (d := none) (MV.store (ss := [Seg.c (.int .u8 (gd x2 x3)), Seg.c (.int .i64 d19), Seg.c (.int .i64 y16.1), Seg.c (SlV.nil.v)]) 5 3 1 [Seg.c ((SlV.sub ((Enc.int .u8)).sz s1 d20 (IntKind.wrap .i64 (d20 + y16.1))).v)] rfl tk_23 rfl rfl rfl rfl (fun w hs => ⟨cells_sl (Rdg.vw 0 rfl) hs, one_sl (Rdg.vw 0 rfl) hs, trivial⟩)) rfl rfl rfl ?_
                    rintro _ _ ⟨rfl, rfl⟩
                    refine JL.nil ?_
                    refine QJ.then_normal ?_
                    refine JC.seq ?_
                    refine JC.regionT [Asr.vw (Enc.int .u8) ((SlV.sub ((Enc.int .u8)).sz s1 d20 (IntKind.wrap .i64 (d20 + y16.1))).v) (subL x2 d20 (IntKind.wrap .i64 (d20 + y16.1))), Asr.vw (Enc.int .u8) (s1.v) x2, Asr.of 5 (Enc.int .u8) (SlV.nil.v) ([] : List Int), Asr.of 5 (Enc.int .u8) (SlV.nil.v) ([] : List Int), Asr.blk b13 35 [Seg.c (.int .u8 (gd x2 x3)), Seg.c (.int .i64 d19), Seg.c (.int .i64 y16.1), Seg.c ((SlV.sub ((Enc.int .u8)).sz s1 d20 (IntKind.wrap .i64 (d20 + y16.1))).v)]] (fun t => false) [(0, true), (1, true), (2, true), (3, true), (4, true), (5, false), (6, false), (7, false)] (by kernel_rfl) (by kernel_rfl) (by kernel_rfl) rfl (fun hsel => ?_)
                    refine JT.take (i := 0) (v := .agg #[.int .u8 (gd x2 x3), .int .i64 d19, .int .i64 y16.1, (SlV.sub ((Enc.int .u8)).sz s1 d20 (IntKind.wrap .i64 (d20 + y16.1))).v]) hsel rfl (QV.eq (QV.loadN (ss := [Seg.c (.int .u8 (gd x2 x3)), Seg.c (.int .i64 d19), Seg.c (.int .i64 y16.1), Seg.c ((SlV.sub ((Enc.int .u8)).sz s1 d20 (IntKind.wrap .i64 (d20 + y16.1))).v)]) 4 0 4 rfl tk_35 rfl rfl rfl rfl) rfl) rfl rfl rfl rfl [0, 1, 2, 4, 5] rfl rfl ?_
                    refine JT.take (i := 1) (v := .int .i64 d20) hsel rfl (QV.move rfl) rfl rfl rfl rfl [0, 1, 2, 4, 5] rfl rfl ?_
                    refine JT.take (i := 2) (v := .pointer (some ⟨b13, 2, none⟩)) hsel rfl (QV.fieldB fo_35_2 rfl rfl) rfl rfl rfl rfl [0, 1, 2, 4, 5] rfl rfl ?_
                    refine JT.take (i := 3) (v := .int .i64 y16.1) hsel rfl (QV.load1 (ss := [Seg.c (.int .u8 (gd x2 x3)), Seg.c (.int .i64 d19), Seg.c (.int .i64 y16.1), Seg.c ((SlV.sub ((Enc.int .u8)).sz s1 d20 (IntKind.wrap .i64 (d20 + y16.1))).v)]) 4 2 rfl tk_3 rfl rfl rfl) rfl rfl rfl rfl [0, 1, 2, 4, 5] rfl rfl ?_
                    refine JT.take (i := 4) (v := .int .i64 (IntKind.wrap .i64 (d20 + y16.1))) hsel rfl (QV.add rfl rfl) rfl rfl rfl rfl [0, 1, 2, 4, 5] rfl rfl ?_
                    refine JT.only (i := 5) (d := none) rfl (MV.store (ss := [Seg.c (.int .u8 (0 : Int)), Seg.c (.int .i64 (0 : Int)), Seg.c (.int .i64 (0 : Int)), Seg.c (SlV.nil.v)]) 3 0 4 [Seg.c (.int .u8 (gd x2 x3)), Seg.c (.int .i64 d19), Seg.c (.int .i64 y16.1), Seg.c ((SlV.sub ((Enc.int .u8)).sz s1 d20 (IntKind.wrap .i64 (d20 + y16.1))).v)] rfl tk_35 rfl rfl rfl rfl (fun w hs => ⟨rfl, one_c rfl, one_c rfl, one_c rfl, one_sl (Rdg.vw 0 rfl) hs, trivial⟩)) rfl rfl rfl ?_
                    rintro _ _ ⟨rfl, rfl⟩
                    refine ⟨fun _ => ⟨[0, 1, 2, 4, 5], rfl, rfl⟩, ?_⟩
                    refine JT.grow [Asr.vw (Enc.int .u8) ((SlV.sub ((Enc.int .u8)).sz s1 d20 (IntKind.wrap .i64 (d20 + y16.1))).v) (subL x2 d20 (IntKind.wrap .i64 (d20 + y16.1))), Asr.vw (Enc.int .u8) (s1.v) x2, Asr.of 5 (Enc.int .u8) (SlV.nil.v) ([] : List Int), Asr.blk b11 35 [Seg.c (.int .u8 (gd x2 x3)), Seg.c (.int .i64 d19), Seg.c (.int .i64 y16.1), Seg.c ((SlV.sub ((Enc.int .u8)).sz s1 d20 (IntKind.wrap .i64 (d20 + y16.1))).v)], Asr.of 5 (Enc.int .u8) (SlV.nil.v) ([] : List Int), Asr.blk b13 35 [Seg.c (.int .u8 (gd x2 x3)), Seg.c (.int .i64 d19), Seg.c (.int .i64 y16.1), Seg.c ((SlV.sub ((Enc.int .u8)).sz s1 d20 (IntKind.wrap .i64 (d20 + y16.1))).v)]] [0, 1, 2, 4, 5] rfl rfl ?_
                    refine JT.only (i := 6) (d := some 5) rfl (MV.ofQV (v := .int .i64 (IntKind.wrap .i64 (d20 + y16.1))) (QV.assign rfl)) rfl rfl rfl ?_
                    rintro _ _ ⟨rfl, rfl⟩
                    refine ⟨fun _ => ⟨[0, 1, 2, 3, 4, 5], rfl, rfl⟩, ?_⟩
                    refine JT.only (i := 7) (d := some 6) rfl (MV.ofQV (v := .int .i64 (0 : Int)) (QV.assign rfl)) rfl rfl rfl ?_
                    rintro _ _ ⟨rfl, rfl⟩
                    refine ⟨fun _ => ⟨[0, 1, 2, 3, 4, 5], rfl, rfl⟩, ?_⟩
                    refine JT.nil ?_
                    refine QJ.then_normal ?_
                    refine JC.ret ?_
                    obtain rfl := Option.some.inj hm
                    exact QJ.body (vs := [.agg #[.int .u8 (gd x2 x3), .int .i64 d19, .int .i64 y16.1, (SlV.sub ((Enc.int .u8)).sz s1 d20 (IntKind.wrap .i64 (d20 + y16.1))).v], .int .i64 (IntKind.wrap .i64 (d20 + y16.1)), .int .i64 (0 : Int)]) (.inl rfl) rfl (ResVs.cons (ResV.cell (d := none) (ty := 0) (ps := "") (af := #[]) (g := none) rfl (QV.eq (QV.loadN (ss := [Seg.c (.int .u8 (gd x2 x3)), Seg.c (.int .i64 d19), Seg.c (.int .i64 y16.1), Seg.c ((SlV.sub ((Enc.int .u8)).sz s1 d20 (IntKind.wrap .i64 (d20 + y16.1))).v)]) 3 0 4 rfl tk_35 rfl rfl rfl rfl) rfl)) (ResVs.cons (ResV.tmp rfl) (ResVs.cons (ResV.tmp rfl) ResVs.nil))) [0] rfl rfl (.inl rfl) ⟨((SlV.sub ((Enc.int .u8)).sz s1 d20 (IntKind.wrap .i64 (d20 + y16.1)))), rfl, rfl⟩
        ·
          rcases ite_inv hm with ⟨h27, hm⟩ | ⟨h27, hm⟩
          ·
            refine JC.condT' rfl (decide_eq_true h27) ?_
            refine JC.seq ?_
            refine JC.region ?_
            refine JL.val (v := s1.v) (QV.move rfl) rfl rfl rfl ?_
            refine JL.val (v := .int .i64 y16.2.1) (QV.move rfl) rfl rfl rfl ?_
            obtain ⟨y28, hc29, hm⟩ := bind_inv hm
            refine JL.mv (d := some 52) (MV.call (Lo := []) (Lr := [Asr.blk b13 35 [Seg.c (.int .u8 (gd x2 x3)), Seg.c (.int .i64 (0 : Int)), Seg.c (.int .i64 y16.1), Seg.c (SlV.nil.v)], Asr.of 5 (Enc.int .u8) (SlV.nil.v) ([] : List Int), Asr.of 5 (Enc.int .u8) (SlV.nil.v) ([] : List Int), Asr.blk b11 35 [Seg.c (.int .u8 (0 : Int)), Seg.c (.int .i64 (0 : Int)), Seg.c (.int .i64 (0 : Int)), Seg.c (SlV.nil.v)], Asr.of 5 (Enc.int .u8) (SlV.nil.v) ([] : List Int), Asr.vw (Enc.int .u8) (s1.v) x2]) (F64.spec (s1) (x2) (y16.2.1) _ hc29) rfl Try.func64 rfl rfl rfl [] [0, 1, 2, 3, 4, 5] rfl rfl rfl ⟨(Drv.vw 5 rfl), trivial⟩) rfl rfl rfl ?_
            rintro _ _ ⟨_, ⟨rfl, rfl⟩, rfl⟩
            refine JL.val (v := .tuple #[.int .i64 y28.1, .int .i64 y28.2.1, .int .i64 y28.2.2]) (QV.move rfl) rfl rfl rfl ?_
            refine JL.val (v := .int .i64 y28.1) (QV.extract (vs := [.int .i64 y28.1, .int .i64 y28.2.1, .int .i64 y28.2.2]) rfl rfl) rfl rfl rfl ?_
            refine JL.val (v := .int .i64 y28.2.1) (QV.extract (vs := [.int .i64 y28.1, .int .i64 y28.2.1, .int .i64 y28.2.2]) rfl rfl) rfl rfl rfl ?_
            refine JL.val (v := .int .i64 y28.2.2) (QV.extract (vs := [.int .i64 y28.1, .int .i64 y28.2.1, .int .i64 y28.2.2]) rfl rfl) rfl rfl rfl ?_
            refine JL.val (v := .int .i64 y28.1) (QV.assign rfl) rfl rfl rfl ?_
            refine JL.val (v := .int .i64 y28.2.1) (QV.assign rfl) rfl rfl rfl ?_
            refine JL.val (v := .int .i64 y28.2.2) (QV.assign rfl) rfl rfl rfl ?_
            refine JL.nil ?_
            refine QJ.then_normal ?_
            refine JC.seq ?_
            refine JC.seq ?_
            refine JC.region ?_
            refine JL.val (v := .int .i64 y28.2.2) (QV.move rfl) rfl rfl rfl ?_
            refine JL.val (v := .bool (!(decide (y28.2.2 = (0 : Int))))) (QV.neq rfl rfl) rfl rfl rfl ?_
            refine JL.nil ?_
            refine QJ.then_normal ?_
            rcases ite_inv hm with ⟨h30, hm⟩ | ⟨h30, hm⟩
            ·
              refine JC.condF' rfl (congrArg Bool.not (decide_eq_true h30)) ?_
              refine JC.skip ?_
              refine QJ.then_normal ?_
              refine JC.seq ?_
              refine JC.region ?_
              refine JL.val (v := .int .i64 y28.1) (QV.move rfl) rfl rfl rfl ?_
              refine JL.val (v := .pointer (some ⟨b13, 1, none⟩)) (QV.fieldB fo_35_1 rfl rfl) rfl rfl rfl ?_
              refine JL.mv (d := none) (MV.store (ss := [Seg.c (.int .u8 (gd x2 x3)), Seg.c (.int .i64 (0 : Int)), Seg.c (.int .i64 y16.1), Seg.c (SlV.nil.v)]) 0 1 1 [Seg.c (.int .i64 y28.1)] rfl tk_3 rfl rfl rfl rfl (fun w hs => ⟨rfl, one_c rfl, trivial⟩)) rfl rfl rfl ?_
              rintro _ _ ⟨rfl, rfl⟩
              refine JL.nil ?_
              refine QJ.then_normal ?_
              refine JC.region ?_
              refine JL.val (v := .int .i64 y28.2.1) (QV.move rfl) rfl rfl rfl ?_
              refine JL.val (v := .int .i64 y28.2.1) (QV.assign rfl) rfl rfl rfl ?_
              refine JL.nil ?_
              exact QJ.cut_normal ((y28.1, y28.2.1), ()) hm [5, 4, 3, 2, 0] (by exact ⟨rfl, rfl, rfl, rfl, trivial⟩) rfl rfl
            ·
              refine JC.condT' rfl (congrArg Bool.not (decide_eq_false h30)) ?_
              refine JC.seq ?_
              refine JC.region ?_
              refine JL.val (v := .agg #[.int .u8 (gd x2 x3), .int .i64 (0 : Int), .int .i64 y16.1, SlV.nil.v]) (QV.eq (QV.loadN (ss := [Seg.c (.int .u8 (gd x2 x3)), Seg.c (.int .i64 (0 : Int)), Seg.c (.int .i64 y16.1), Seg.c (SlV.nil.v)]) 0 0 4 rfl tk_35 rfl rfl rfl rfl) rfl) rfl rfl rfl ?_
              refine JL.val (v := .int .i64 y28.2.2) (QV.move rfl) rfl rfl rfl ?_
              refine JL.mv (d := none) (MV.store (ss := [Seg.c (.int .u8 (0 : Int)), Seg.c (.int .i64 (0 : Int)), Seg.c (.int .i64 (0 : Int)), Seg.c (SlV.nil.v)]) 3 0 4 [Seg.c (.int .u8 (gd x2 x3)), Seg.c (.int .i64 (0 : Int)), Seg.c (.int .i64 y16.1), Seg.c (SlV.nil.v)] rfl tk_35 rfl rfl rfl rfl (fun w hs => ⟨rfl, one_c rfl, one_c rfl, one_c rfl, one_sl (Rdg.of 2 rfl) hs, trivial⟩)) rfl rfl rfl ?_
              rintro _ _ ⟨rfl, rfl⟩
              refine JL.val (v := .int .i64 (0 : Int)) (QV.assign rfl) rfl rfl rfl ?_
              refine JL.val (v := .int .i64 y28.2.2) (QV.assign rfl) rfl rfl rfl ?_
              refine JL.nil ?_
              refine QJ.then_normal ?_
              refine JC.ret ?_
              refine QJ.then_ret ?_
              refine QJ.cut_ret ?_
              refine QJ.then_ret ?_
              obtain rfl := Option.some.inj hm
              refine QJ.ent (fun _ hs => hs.share 2 rfl) ?_
              exact QJ.body (vs := [.agg #[.int .u8 (gd x2 x3), .int .i64 (0 : Int), .int .i64 y16.1, SlV.nil.v], .int .i64 (0 : Int), .int .i64 y28.2.2]) (.inl rfl) rfl (ResVs.cons (ResV.cell (d := none) (ty := 0) (ps := "") (af := #[]) (g := none) rfl (QV.eq (QV.loadN (ss := [Seg.c (.int .u8 (gd x2 x3)), Seg.c (.int .i64 (0 : Int)), Seg.c (.int .i64 y16.1), Seg.c (SlV.nil.v)]) 3 0 4 rfl tk_35 rfl rfl rfl rfl) rfl)) (ResVs.cons (ResV.tmp rfl) (ResVs.cons (ResV.tmp rfl) ResVs.nil))) [2] rfl rfl (.inl rfl) ⟨(SlV.nil), rfl, rfl⟩
          ·
            refine JC.condF' rfl (decide_eq_false h27) ?_
            refine JC.skip ?_
            exact QJ.cut_normal (((0 : Int), y16.2.1), ()) hm [5, 4, 3, 2, 0] (by exact ⟨rfl, rfl, rfl, rfl, trivial⟩) rfl rfl
      ·
        refine JC.condT' rfl (congrArg Bool.not (decide_eq_false h18)) ?_
        refine JC.seq ?_
        refine JC.region ?_
        refine JL.val (v := .agg #[.int .u8 (gd x2 x3), .int .i64 (0 : Int), .int .i64 (0 : Int), SlV.nil.v]) (QV.eq (QV.loadN (ss := [Seg.c (.int .u8 (gd x2 x3)), Seg.c (.int .i64 (0 : Int)), Seg.c (.int .i64 (0 : Int)), Seg.c (SlV.nil.v)]) 0 0 4 rfl tk_35 rfl rfl rfl rfl) rfl) rfl rfl rfl ?_
        refine JL.val (v := .int .i64 y16.2.2) (QV.move rfl) rfl rfl rfl ?_
        refine JL.mv (d := none) (MV.store (ss := [Seg.c (.int .u8 (0 : Int)), Seg.c (.int .i64 (0 : Int)), Seg.c (.int .i64 (0 : Int)), Seg.c (SlV.nil.v)]) 3 0 4 [Seg.c (.int .u8 (gd x2 x3)), Seg.c (.int .i64 (0 : Int)), Seg.c (.int .i64 (0 : Int)), Seg.c (SlV.nil.v)] rfl tk_35 rfl rfl rfl rfl (fun w hs => ⟨rfl, one_c rfl, one_c rfl, one_c rfl, one_sl (Rdg.of 2 rfl) hs, trivial⟩)) rfl rfl rfl ?_
        rintro _ _ ⟨rfl, rfl⟩
        refine JL.val (v := .int .i64 (0 : Int)) (QV.assign rfl) rfl rfl rfl ?_
        refine JL.val (v := .int .i64 y16.2.2) (QV.assign rfl) rfl rfl rfl ?_
        refine JL.nil ?_
        refine QJ.then_normal ?_
        refine JC.ret ?_
        refine QJ.then_ret ?_
        obtain rfl := Option.some.inj hm
        refine QJ.ent (fun _ hs => hs.share 2 rfl) ?_
        exact QJ.body (vs := [.agg #[.int .u8 (gd x2 x3), .int .i64 (0 : Int), .int .i64 (0 : Int), SlV.nil.v], .int .i64 (0 : Int), .int .i64 y16.2.2]) (.inl rfl) rfl (ResVs.cons (ResV.cell (d := none) (ty := 0) (ps := "") (af := #[]) (g := none) rfl (QV.eq (QV.loadN (ss := [Seg.c (.int .u8 (gd x2 x3)), Seg.c (.int .i64 (0 : Int)), Seg.c (.int .i64 (0 : Int)), Seg.c (SlV.nil.v)]) 3 0 4 rfl tk_35 rfl rfl rfl rfl) rfl)) (ResVs.cons (ResV.tmp rfl) (ResVs.cons (ResV.tmp rfl) ResVs.nil))) [2] rfl rfl (.inl rfl) ⟨(SlV.nil), rfl, rfl⟩

/-! ### 20: drogher/drogherref16.Get -/
noncomputable def F20.j1  (d11 : List (Int × Int × Int × (List Int))) : Option (List (Int × Int × Int × (List Int)) × Int) :=
  some (d11, (0 : Int))
noncomputable def F20.b1 (x2 : List Int) : (List (Int × Int × Int × (List Int)) × Int) → Option ((List (Int × Int × Int × (List Int)) × Int) ⊕ (((List (Int × Int × Int × (List Int)) × Int)) ⊕ (List (Int × Int × Int × (List Int)))))
  | (d14, d16) => (if d16 < ((x2).length : Int) then ((F47.m (x2) (d16)).bind fun y26 => (if y26.2.2.2.2.2 = (0 : Int) then (if ((d14).length + ([(y26.1, y26.2.1, y26.2.2.1, y26.2.2.2.1)]).length) * 48 ≤ 140737488355328 ∧ (d14).length + ([(y26.1, y26.2.1, y26.2.2.1, y26.2.2.2.1)]).length ≤ 9223372036854775807 then some (.inl ((d14 ++ [(y26.1, y26.2.1, y26.2.2.1, y26.2.2.2.1)]), y26.2.2.2.2.1)) else none) else some (.inr (.inl ((([] : List (Int × Int × Int × (List Int))), y26.2.2.2.2.2)))))) else some (.inr (.inr (d14))))
noncomputable def F20.m (x2 : List Int) (x3 : Int) : Option (List (Int × Int × Int × (List Int)) × Int) :=
  (if x3 < ((x2).length : Int) then some (([] : List (Int × Int × Int × (List Int))), (12 : Int)) else ((loop (F20.b1 x2) (([] : List (Int × Int × Int × (List Int))), (0 : Int))).bind fun y => match y with | .inl r => some r | .inr d11 => F20.j1 (d11)))
set_option maxRecDepth 100000 in
set_option maxHeartbeats 4000000 in
theorem F20.spec (s1 : SlV) (x2 : List Int) (x3 : Int) (r : (List (Int × Int × Int × (List Int)) × Int)) (hm : F20.m x2 x3 = some r) :
    Ctr Try.prog true 20 [s1.v, .int .i64 x3] [Asr.vw (Enc.int .u8) (s1.v) x2] (fun v L' => ∃ (g4 : SlV), ∃ (g6 : List (Unit × Unit × Unit × SlV)), v = .tuple #[g4.v, .int .i64 r.2] ∧ L' = [Asr.onv 35 (NE.pair (NE.flat (Enc.int .u8)) (NE.pair (NE.flat (Enc.int .i64)) (NE.pair (NE.flat (Enc.int .i64)) (NE.sl (Enc.int .u8))))) (g4.v) g6 r.1]) := by
  refine Ctr.intro (n := 38) (env := [(0, s1.v), (1, .int .i64 x3)]) Try.func20 rfl rfl rfl rfl (fun c => ?_)
  unfold F20.m at hm
  refine JC.seq ?_
  refine JC.region ?_
  refine JL.ent (fun _ hs => hs.nilV 35 (NE.pair (NE.flat (Enc.int .u8)) (NE.pair (NE.flat (Enc.int .i64)) (NE.pair (NE.flat (Enc.int .i64)) (NE.sl (Enc.int .u8)))))) ?_
  refine JL.val (v := SlV.nil.v) (QV.assign rfl) rfl rfl rfl ?_
  refine JL.val (v := .int .i64 (0 : Int)) (QV.assign rfl) rfl rfl rfl ?_
  refine JL.nil ?_
  refine QJ.then_normal ?_
  refine JC.seq ?_
  refine JC.region ?_
  refine JL.mv (d := some 11) (MV.lit0V (NE.pair (NE.flat (Enc.int .u8)) (NE.pair (NE.flat (Enc.int .i64)) (NE.pair (NE.flat (Enc.int .i64)) (NE.sl (Enc.int .u8))))) Try.underlying22 (by kernel_rfl)) rfl rfl rfl ?_
  rintro _ _ ⟨z8, rfl, rfl⟩
  refine JL.val (v := z8.v) (QV.assign rfl) rfl rfl rfl ?_
  refine JL.nil ?_
  refine QJ.then_normal ?_
  refine JC.seq ?_
  refine JC.seq ?_
  refine JC.region ?_
  refine JL.val (v := s1.v) (QV.move rfl) rfl rfl rfl ?_
  refine JL.val (v := .int .i64 ((x2).length : Int)) (QV.len (Rdg.vw 2 rfl) Try.underlying23 rfl) rfl rfl rfl ?_
  refine JL.val (v := .int .i64 x3) (QV.move rfl) rfl rfl rfl ?_
  refine JL.val (v := .bool (decide (x3 < ((x2).length : Int)))) (QV.gtr rfl rfl) rfl rfl rfl ?_
  refine JL.nil ?_
  refine QJ.then_normal ?_
  rcases ite_inv hm with ⟨h9, hm⟩ | ⟨h9, hm⟩
  ·
    refine JC.condT' rfl (decide_eq_true h9) ?_
    refine JC.seq ?_
    refine JC.region ?_
    refine JL.val (v := z8.v) (QV.move rfl) rfl rfl rfl ?_
    refine JL.val (v := z8.v) (QV.assign rfl) rfl rfl rfl ?_
    refine JL.val (v := .int .i64 (12 : Int)) (QV.assign rfl) rfl rfl rfl ?_
    refine JL.nil ?_
    refine QJ.then_normal ?_
    refine JC.ret ?_
    refine QJ.then_ret ?_
    obtain rfl := Option.some.inj hm
    exact QJ.body (vs := [z8.v, .int .i64 (12 : Int)]) (.inl rfl) rfl (ResVs.cons (ResV.tmp rfl) (ResVs.cons (ResV.tmp rfl) ResVs.nil)) [0] rfl rfl (.inl rfl) ⟨z8, (([] : List (Unit × Unit × Unit × SlV))), rfl, rfl⟩
  ·
    refine JC.condF' rfl (decide_eq_false h9) ?_
    refine JC.skip ?_
    refine QJ.then_normal ?_
    refine JC.seq ?_
    refine JC.region ?_
    refine JL.val (v := .int .i64 (0 : Int)) (QV.assign rfl) rfl rfl rfl ?_
    refine JL.nil ?_
    refine QJ.then_normal ?_
    refine JC.seq ?_
    refine JC.cutK (Y := (List (Int × Int × Int × (List Int))) × (SlV × List (Unit × Unit × Unit × SlV))) (fun y => match y with | (d11, _) => F20.j1 (d11) = some r) (fun y => match y with | (d11, (z10, z12)) => [(6, z10.v)]) (fun y => match y with | (d11, (z10, z12)) => [Asr.onv 35 (NE.pair (NE.flat (Enc.int .u8)) (NE.pair (NE.flat (Enc.int .i64)) (NE.pair (NE.flat (Enc.int .i64)) (NE.sl (Enc.int .u8))))) (z10.v) z12 d11]) ?_ ?_
    ·
      rintro ⟨d11, ⟨z10, z12⟩⟩ hm
      unfold F20.j1 at hm
      show QJ _ _ [(6, z10.v)] [Asr.onv 35 (NE.pair (NE.flat (Enc.int .u8)) (NE.pair (NE.flat (Enc.int .i64)) (NE.pair (NE.flat (Enc.int .i64)) (NE.sl (Enc.int .u8))))) (z10.v) z12 d11] _ _
      refine QJ.then_normal ?_
      refine JC.seq ?_
      refine JC.region ?_
      refine JL.val (v := z10.v) (QV.move rfl) rfl rfl rfl ?_
      refine JL.val (v := z10.v) (QV.assign rfl) rfl rfl rfl ?_
      refine JL.val (v := .int .i64 (0 : Int)) (QV.assign rfl) rfl rfl rfl ?_
      refine JL.nil ?_
      refine QJ.then_normal ?_
      refine JC.ret ?_
      obtain rfl := Option.some.inj hm
      exact QJ.body (vs := [z10.v, .int .i64 (0 : Int)]) (.inl rfl) rfl (ResVs.cons (ResV.tmp rfl) (ResVs.cons (ResV.tmp rfl) ResVs.nil)) [0] rfl rfl (.inl rfl) ⟨z10, z12, rfl, rfl⟩
    ·
      refine JC.block ?_
      obtain ⟨y21, hl22, hmo23⟩ := bind_inv hm
      refine JC.loop (F20.b1 x2) (fun x z => match x, z with | (d14, d16), (z13, z15) => [(0, s1.v), (6, z13.v), (7, .int .i64 d16)]) (fun x z => match x, z with | (d14, d16), (z13, z15) => [Asr.vw (Enc.int .u8) (s1.v) x2, Asr.onv 35 (NE.pair (NE.flat (Enc.int .u8)) (NE.pair (NE.flat (Enc.int .i64)) (NE.pair (NE.flat (Enc.int .i64)) (NE.sl (Enc.int .u8))))) (z13.v) z15 d14]) (([] : List (Int × Int × Int × (List Int))), (0 : Int)) (z8, ([] : List (Unit × Unit × Unit × SlV))) y21 hl22 [2, 0] (by exact ⟨rfl, rfl, rfl, trivial⟩) rfl rfl ?_
      rintro ⟨d14, d16⟩ ⟨z13, z15⟩ s24 hm
      unfold F20.b1 at hm
      dsimp only at hm
      show JC _ _ _ [(0, s1.v), (6, z13.v), (7, .int .i64 d16)] [Asr.vw (Enc.int .u8) (s1.v) x2, Asr.onv 35 (NE.pair (NE.flat (Enc.int .u8)) (NE.pair (NE.flat (Enc.int .i64)) (NE.pair (NE.flat (Enc.int .i64)) (NE.sl (Enc.int .u8))))) (z13.v) z15 d14] _ _
      refine JC.seq ?_
      refine JC.seq ?_
      refine JC.region ?_
      refine JL.val (v := .int .i64 d16) (QV.move rfl) rfl rfl rfl ?_
      refine JL.val (v := s1.v) (QV.move rfl) rfl rfl rfl ?_
      refine JL.val (v := .int .i64 ((x2).length : Int)) (QV.len (Rdg.vw 0 rfl) Try.underlying23 rfl) rfl rfl rfl ?_
      refine JL.val (v := .bool (decide (d16 < ((x2).length : Int)))) (QV.lss rfl rfl) rfl rfl rfl ?_
      refine JL.nil ?_
      refine QJ.then_normal ?_
      rcases ite_inv hm with ⟨h25, hm⟩ | ⟨h25, hm⟩
      ·
        refine JC.condT' rfl (decide_eq_true h25) ?_
        refine JC.skip ?_
        refine QJ.then_normal ?_
        refine JC.block ?_
        refine JC.seq ?_
        refine JC.region ?_
        refine JL.val (v := s1.v) (QV.move rfl) rfl rfl rfl ?_
        refine JL.val (v := .int .i64 d16) (QV.move rfl) rfl rfl rfl ?_
        obtain ⟨y26, hc27, hm⟩ := bind_inv hm
        refine JL.mv (d := some 24) (MV.call (Lo := []) (Lr := [Asr.vw (Enc.int .u8) (s1.v) x2, Asr.onv 35 (NE.pair (NE.flat (Enc.int .u8)) (NE.pair (NE.flat (Enc.int .i64)) (NE.pair (NE.flat (Enc.int .i64)) (NE.sl (Enc.int .u8))))) (z13.v) z15 d14]) (F47.spec (s1) (x2) (d16) _ hc27) rfl Try.func47 rfl rfl rfl [] [0, 1] rfl rfl rfl ⟨(Drv.vw 0 rfl), trivial⟩) rfl rfl rfl ?_
        rintro _ _ ⟨_, ⟨z28, rfl, rfl⟩, rfl⟩
        refine JL.val (v := .tuple #[.agg #[.int .u8 y26.1, .int .i64 y26.2.1, .int .i64 y26.2.2.1, z28.v], .int .i64 y26.2.2.2.2.1, .int .i64 y26.2.2.2.2.2]) (QV.move rfl) rfl rfl rfl ?_
        refine JL.val (v := .agg #[.int .u8 y26.1, .int .i64 y26.2.1, .int .i64 y26.2.2.1, z28.v]) (QV.extract (vs := [.agg #[.int .u8 y26.1, .int .i64 y26.2.1, .int .i64 y26.2.2.1, z28.v], .int .i64 y26.2.2.2.2.1, .int .i64 y26.2.2.2.2.2]) rfl rfl) rfl rfl rfl ?_
        refine JL.val (v := .int .i64 y26.2.2.2.2.1) (QV.extract (vs := [.agg #[.int .u8 y26.1, .int .i64 y26.2.1, .int .i64 y26.2.2.1, z28.v], .int .i64 y26.2.2.2.2.1, .int .i64 y26.2.2.2.2.2]) rfl rfl) rfl rfl rfl ?_
        refine JL.val (v := .int .i64 y26.2.2.2.2.2) (QV.extract (vs := [.agg #[.int .u8 y26.1, .int .i64 y26.2.1, .int .i64 y26.2.2.1, z28.v], .int .i64 y26.2.2.2.2.1, .int .i64 y26.2.2.2.2.2]) rfl rfl) rfl rfl rfl ?_
        refine JL.ent (fun _ hs => hs.nil 5 (Enc.int .u8)) ?_
        refine JL.mv (d := some 8) (MV.alloc [Seg.c (.int .u8 (0 : Int)), Seg.c (.int .i64 (0 : Int)), Seg.c (.int .i64 (0 : Int)), Seg.c (SlV.nil.v)] z_35 rfl) rfl rfl rfl ?_
        rintro _ _ ⟨b29, rfl, rfl⟩
        refine JL.mv (d := none) (MV.store (ss := [Seg.c (.int .u8 (0 : Int)), Seg.c (.int .i64 (0 : Int)), Seg.c (.int .i64 (0 : Int)), Seg.c (SlV.nil.v)]) 0 0 4 [Seg.c (.int .u8 y26.1), Seg.c (.int .i64 y26.2.1), Seg.c (.int .i64 y26.2.2.1), Seg.c (z28.v)] rfl tk_35 rfl rfl rfl rfl (fun w hs => ⟨rfl, one_c rfl, one_c rfl, one_c rfl, one_sl (Rdg.vw 2 rfl) hs, trivial⟩)) rfl rfl rfl ?_
        rintro _ _ ⟨rfl, rfl⟩
        refine JL.val (v := .int .i64 y26.2.2.2.2.1) (QV.assign rfl) rfl rfl rfl ?_
        refine JL.val (v := .int .i64 y26.2.2.2.2.2) (QV.assign rfl) rfl rfl rfl ?_
        refine JL.nil ?_
        refine QJ.then_normal ?_
        refine JC.seq ?_
        refine JC.seq ?_
        refine JC.region ?_
        refine JL.val (v := .int .i64 y26.2.2.2.2.2) (QV.move rfl) rfl rfl rfl ?_
        refine JL.val (v := .bool (!(decide (y26.2.2.2.2.2 = (0 : Int))))) (QV.neq rfl rfl) rfl rfl rfl ?_
        refine JL.nil ?_
        refine QJ.then_normal ?_
        rcases ite_inv hm with ⟨h30, hm⟩ | ⟨h30, hm⟩
        ·
          refine JC.condF' rfl (congrArg Bool.not (decide_eq_true h30)) ?_
          refine JC.skip ?_
          refine QJ.then_normal ?_
          refine JC.seq ?_
          refine JC.region ?_
          refine JL.val (v := z13.v) (QV.move rfl) rfl rfl rfl ?_
          refine JL.val (v := .agg #[.int .u8 y26.1, .int .i64 y26.2.1, .int .i64 y26.2.2.1, z28.v]) (QV.eq (QV.loadN (ss := [Seg.c (.int .u8 y26.1), Seg.c (.int .i64 y26.2.1), Seg.c (.int .i64 y26.2.2.1), Seg.c (z28.v)]) 0 0 4 rfl tk_35 rfl rfl rfl rfl) rfl) rfl rfl rfl ?_
          refine JL.mv (d := some 34) (MV.litV (K := (NE.pair (NE.flat (Enc.int .u8)) (NE.pair (NE.flat (Enc.int .i64)) (NE.pair (NE.flat (Enc.int .i64)) (NE.sl (Enc.int .u8)))))) (vals := [(0, .agg #[.int .u8 y26.1, .int .i64 y26.2.1, .int .i64 y26.2.2.1, z28.v])]) [((), (), (), z28)] [(y26.1, y26.2.1, y26.2.2.1, y26.2.2.2.1)] Try.underlying22 zi_35 ⟨fun w F G hst => ⟨trivial, trivial, trivial, (ok_vw (Drv.vw 2 rfl) w F G hst)⟩, trivial⟩ rfl (by decide) rfl (by kernel_rfl)) rfl rfl rfl ?_
          rintro _ _ ⟨z31, rfl, rfl⟩
          obtain ⟨h32, hm⟩ := guard_inv hm
          refine JL.mv (d := some 35) (MV.appendV 5 rfl (OkG.onv 0 rfl) (RdN.onv 0 rfl) Try.underlying22 zi_35 rfl (by decide) rfl rfl h32) rfl rfl rfl ?_
          rintro _ _ ⟨z33, rfl, rfl⟩
          refine JL.val (v := z33.v) (QV.assign rfl) rfl rfl rfl ?_
          refine JL.nil ?_
          refine QJ.then_normal ?_
          refine JC.region ?_
          refine JL.val (v := .int .i64 y26.2.2.2.2.1) (QV.move rfl) rfl rfl rfl ?_
          refine JL.val (v := .int .i64 y26.2.2.2.2.1) (QV.assign rfl) rfl rfl rfl ?_
          refine JL.nil ?_
          refine QJ.block_normal ?_
          obtain rfl := Option.some.inj hm
          exact QJ.round_on ((d14 ++ [(y26.1, y26.2.1, y26.2.2.1, y26.2.2.2.1)]), y26.2.2.2.2.1) (z33, (z15 ++ [((), (), (), z28)])) [4, 5] (by exact ⟨rfl, rfl, rfl, trivial⟩) rfl rfl
        ·
          refine JC.condT' rfl (congrArg Bool.not (decide_eq_false h30)) ?_
          refine JC.seq ?_
          refine JC.region ?_
          refine JL.mv (d := some 30) (MV.lit0V (NE.pair (NE.flat (Enc.int .u8)) (NE.pair (NE.flat (Enc.int .i64)) (NE.pair (NE.flat (Enc.int .i64)) (NE.sl (Enc.int .u8))))) Try.underlying22 (by kernel_rfl)) rfl rfl rfl ?_
          rintro _ _ ⟨z34, rfl, rfl⟩
          refine JL.val (v := .int .i64 y26.2.2.2.2.2) (QV.move rfl) rfl rfl rfl ?_
          refine JL.val (v := z34.v) (QV.assign rfl) rfl rfl rfl ?_
          refine JL.val (v := .int .i64 y26.2.2.2.2.2) (QV.assign rfl) rfl rfl rfl ?_
          refine JL.nil ?_
          refine QJ.then_normal ?_
          refine JC.ret ?_
          refine QJ.then_ret ?_
          refine QJ.block_ret ?_
          obtain rfl := Option.some.inj hm
          refine QJ.round_ret (fun hy => ?_)
          subst hy
          refine QJ.block_ret ?_
          refine QJ.cut_ret ?_
          refine QJ.then_ret ?_
          obtain rfl := Option.some.inj hmo23
          exact QJ.body (vs := [z34.v, .int .i64 y26.2.2.2.2.2]) (.inl rfl) rfl (ResVs.cons (ResV.tmp rfl) (ResVs.cons (ResV.tmp rfl) ResVs.nil)) [0] rfl rfl (.inl rfl) ⟨z34, (([] : List (Unit × Unit × Unit × SlV))), rfl, rfl⟩
      ·
        refine JC.condF' rfl (decide_eq_false h25) ?_
        refine JC.exit ?_
        refine QJ.then_exit ?_
        obtain rfl := Option.some.inj hm
        refine QJ.round_exit (fun hy => ?_)
        subst hy
        refine QJ.block_hit ?_
        exact QJ.cut_normal (d14, (z13, z15)) hmo23 [1] (by exact ⟨rfl, trivial⟩) rfl rfl

/-! ### 5: drogher/drogherlaw16.PlanReads -/
noncomputable def F5.m (x2 : List Int) (x3 : Int) : Option Bool :=
  (if (5000 : Int) < ((x2).length : Int) then ((F15.m).bind fun y6 => some y6) else ((F19.m (x2) (x3)).bind fun y8 => ((F20.m (x2) (x3)).bind fun y12 => ((F21.m (y8.1) (y12.1)).bind fun y16 => (if y16 = true then (if y8.2 = y12.2 then (if y8.2 = (0 : Int) then ((F22.m (y8.1)).bind fun y21 => (if y21.2 = (0 : Int) then (if (strOfNums y21.1) = (strOfNums x2) then ((F15.m).bind fun y26 => some y26) else some false) else some false)) else ((F15.m).bind fun y28 => some y28)) else some false) else some false)))))
set_option maxRecDepth 100000 in
set_option maxHeartbeats 4000000 in
theorem F5.spec (s1 : SlV) (x2 : List Int) (x3 : Int) (r : Bool) (hm : F5.m x2 x3 = some r) :
    Ctr Try.prog false 5 [s1.v, .int .i64 x3] [Asr.vw (Enc.int .u8) (s1.v) x2] (fun v L' => v = .bool r ∧ L' = []) := by
  refine Ctr.intro (n := 56) (env := [(0, s1.v), (1, .int .i64 x3)]) Try.func5 rfl rfl rfl rfl (fun c => ?_)
  unfold F5.m at hm
  refine JC.seq ?_
  refine JC.region ?_
  refine JL.val (v := .bool false) (QV.assign rfl) rfl rfl rfl ?_
  refine JL.nil ?_
  refine QJ.then_normal ?_
  refine JC.seq ?_
  refine JC.seq ?_
  refine JC.region ?_
  refine JL.val (v := s1.v) (QV.move rfl) rfl rfl rfl ?_
  refine JL.val (v := .int .i64 ((x2).length : Int)) (QV.len (Rdg.vw 0 rfl) Try.underlying23 rfl) rfl rfl rfl ?_
  refine JL.val (v := .bool (decide ((5000 : Int) < ((x2).length : Int)))) (QV.gtr rfl rfl) rfl rfl rfl ?_
  refine JL.nil ?_
  refine QJ.then_normal ?_
  rcases ite_inv hm with ⟨h5, hm⟩ | ⟨h5, hm⟩
  ·
    refine JC.condT' rfl (decide_eq_true h5) ?_
    refine JC.seq ?_
    refine JC.region ?_
    obtain ⟨y6, hc7, hm⟩ := bind_inv hm
    refine JL.mv (d := some 14) (MV.call (Lo := []) (Lr := [Asr.vw (Enc.int .u8) (s1.v) x2]) (F15.spec _ hc7) rfl Try.func15 rfl rfl rfl [] [0] rfl rfl rfl trivial) rfl rfl rfl ?_
    rintro _ _ ⟨_, ⟨rfl, rfl⟩, rfl⟩
    refine JL.val (v := .bool y6) (QV.assign rfl) rfl rfl rfl ?_
    refine JL.nil ?_
    refine QJ.then_normal ?_
    refine JC.ret ?_
    refine QJ.then_ret ?_
    obtain rfl := Option.some.inj hm
    exact QJ.body (vs := [.bool y6]) (.inl rfl) rfl (ResVs.cons (ResV.tmp rfl) ResVs.nil) [] rfl rfl (.inr trivial) ⟨rfl, rfl⟩
  ·
    refine JC.condF' rfl (decide_eq_false h5) ?_
    refine JC.skip ?_
    refine QJ.then_normal ?_
    refine JC.seq ?_
    refine JC.region ?_
    refine JL.val (v := s1.v) (QV.move rfl) rfl rfl rfl ?_
    refine JL.val (v := .int .i64 x3) (QV.move rfl) rfl rfl rfl ?_
    obtain ⟨y8, hc9, hm⟩ := bind_inv hm
    refine JL.mv (d := some 18) (MV.call (Lo := []) (Lr := [Asr.vw (Enc.int .u8) (s1.v) x2]) (F19.spec (s1) (x2) (x3) _ hc9) rfl Try.func19 rfl rfl rfl [] [0] rfl rfl rfl ⟨(Drv.vw 0 rfl), trivial⟩) rfl rfl rfl ?_
    rintro _ _ ⟨_, ⟨z10, z11, rfl, rfl⟩, rfl⟩
    refine JL.val (v := .tuple #[z10.v, .int .i64 y8.2]) (QV.move rfl) rfl rfl rfl ?_
    refine JL.val (v := z10.v) (QV.extract (vs := [z10.v, .int .i64 y8.2]) rfl rfl) rfl rfl rfl ?_
    refine JL.val (v := .int .i64 y8.2) (QV.extract (vs := [z10.v, .int .i64 y8.2]) rfl rfl) rfl rfl rfl ?_
    refine JL.val (v := z10.v) (QV.assign rfl) rfl rfl rfl ?_
    refine JL.val (v := .int .i64 y8.2) (QV.assign rfl) rfl rfl rfl ?_
    refine JL.nil ?_
    refine QJ.then_normal ?_
    refine JC.seq ?_
    refine JC.region ?_
    refine JL.val (v := s1.v) (QV.move rfl) rfl rfl rfl ?_
    refine JL.val (v := .int .i64 x3) (QV.move rfl) rfl rfl rfl ?_
    obtain ⟨y12, hc13, hm⟩ := bind_inv hm
    refine JL.mv (d := some 24) (MV.call (Lo := []) (Lr := [Asr.onv 35 (NE.pair (NE.flat (Enc.int .u8)) (NE.pair (NE.flat (Enc.int .i64)) (NE.pair (NE.flat (Enc.int .i64)) (NE.sl (Enc.int .u8))))) (z10.v) z11 y8.1, Asr.vw (Enc.int .u8) (s1.v) x2]) (F20.spec (s1) (x2) (x3) _ hc13) rfl Try.func20 rfl rfl rfl [] [0, 1] rfl rfl rfl ⟨(Drv.vw 1 rfl), trivial⟩) rfl rfl rfl ?_
    rintro _ _ ⟨_, ⟨z14, z15, rfl, rfl⟩, rfl⟩
    refine JL.val (v := .tuple #[z14.v, .int .i64 y12.2]) (QV.move rfl) rfl rfl rfl ?_
    refine JL.val (v := z14.v) (QV.extract (vs := [z14.v, .int .i64 y12.2]) rfl rfl) rfl rfl rfl ?_
    refine JL.val (v := .int .i64 y12.2) (QV.extract (vs := [z14.v, .int .i64 y12.2]) rfl rfl) rfl rfl rfl ?_
    refine JL.val (v := z14.v) (QV.assign rfl) rfl rfl rfl ?_
    refine JL.val (v := .int .i64 y12.2) (QV.assign rfl) rfl rfl rfl ?_
    refine JL.nil ?_
    refine QJ.then_normal ?_
    refine JC.seq ?_
    refine JC.seq ?_
    refine JC.region ?_
    refine JL.val (v := z10.v) (QV.move rfl) rfl rfl rfl ?_
    refine JL.val (v := z14.v) (QV.move rfl) rfl rfl rfl ?_
    obtain ⟨y16, hc17, hm⟩ := bind_inv hm
    refine JL.mv (d := some 29) (MV.call (Lo := []) (Lr := [Asr.onv 35 (NE.pair (NE.flat (Enc.int .u8)) (NE.pair (NE.flat (Enc.int .i64)) (NE.pair (NE.flat (Enc.int .i64)) (NE.sl (Enc.int .u8))))) (z14.v) z15 y12.1, Asr.onv 35 (NE.pair (NE.flat (Enc.int .u8)) (NE.pair (NE.flat (Enc.int .i64)) (NE.pair (NE.flat (Enc.int .i64)) (NE.sl (Enc.int .u8))))) (z10.v) z11 y8.1, Asr.vw (Enc.int .u8) (s1.v) x2]) (F21.spec (z10) (z11) (z14) (z15) (y8.1) (y12.1) _ hc17) rfl Try.func21 rfl rfl rfl [] [0, 1, 2] rfl rfl rfl ⟨(Drv.onv 1 rfl), ⟨(Drv.onv 0 rfl), trivial⟩⟩) rfl rfl rfl ?_
    rintro _ _ ⟨_, ⟨rfl, rfl⟩, rfl⟩
    refine JL.val (v := .bool (!y16)) (QV.not rfl) rfl rfl rfl ?_
    rcases ite_inv hm with ⟨h18, hm⟩ | ⟨h18, hm⟩
    ·
      refine JL.val (v := .bool false) (QV.eq (QV.move rfl) (congrArg Value.bool (congrArg Bool.not h18))) rfl rfl rfl ?_
      refine JL.val (v := .int .i64 y8.2) (QV.move rfl) rfl rfl rfl ?_
      refine JL.val (v := .int .i64 y12.2) (QV.move rfl) rfl rfl rfl ?_
      refine JL.val (v := .bool (!(decide (y8.2 = y12.2)))) (QV.neq rfl rfl) rfl rfl rfl ?_
      refine JL.val (v := .bool (!(decide (y8.2 = y12.2)))) (QV.pickF rfl rfl) rfl rfl rfl ?_
      refine JL.nil ?_
      refine QJ.then_normal ?_
      rcases ite_inv hm with ⟨h19, hm⟩ | ⟨h19, hm⟩
      ·
        refine JC.condF' rfl (congrArg Bool.not (decide_eq_true h19)) ?_
        refine JC.skip ?_
        refine QJ.then_normal ?_
        refine JC.seq ?_
        refine JC.seq ?_
        refine JC.region ?_
        refine JL.val (v := .int .i64 y8.2) (QV.move rfl) rfl rfl rfl ?_
        refine JL.val (v := .bool (!(decide (y8.2 = (0 : Int))))) (QV.neq rfl rfl) rfl rfl rfl ?_
        refine JL.nil ?_
        refine QJ.then_normal ?_
        rcases ite_inv hm with ⟨h20, hm⟩ | ⟨h20, hm⟩
        ·
          refine JC.condF' rfl (congrArg Bool.not (decide_eq_true h20)) ?_
          refine JC.skip ?_
          refine QJ.then_normal ?_
          refine JC.seq ?_
          refine JC.region ?_
          refine JL.val (v := z10.v) (QV.move rfl) rfl rfl rfl ?_
          obtain ⟨y21, hc22, hm⟩ := bind_inv hm
          refine JL.mv (d := some 41) (MV.call (Lo := []) (Lr := [Asr.onv 35 (NE.pair (NE.flat (Enc.int .u8)) (NE.pair (NE.flat (Enc.int .i64)) (NE.pair (NE.flat (Enc.int .i64)) (NE.sl (Enc.int .u8))))) (z14.v) z15 y12.1, Asr.onv 35 (NE.pair (NE.flat (Enc.int .u8)) (NE.pair (NE.flat (Enc.int .i64)) (NE.pair (NE.flat (Enc.int .i64)) (NE.sl (Enc.int .u8))))) (z10.v) z11 y8.1, Asr.vw (Enc.int .u8) (s1.v) x2]) (F22.spec (z10) (z11) (y8.1) _ hc22) rfl Try.func22 rfl rfl rfl [] [0, 1, 2] rfl rfl rfl ⟨(Drv.onv 1 rfl), trivial⟩) rfl rfl rfl ?_
          rintro _ _ ⟨_, ⟨z23, rfl, rfl⟩, rfl⟩
          refine JL.val (v := .tuple #[z23.v, .int .i64 y21.2]) (QV.move rfl) rfl rfl rfl ?_
          refine JL.val (v := z23.v) (QV.extract (vs := [z23.v, .int .i64 y21.2]) rfl rfl) rfl rfl rfl ?_
          refine JL.val (v := .int .i64 y21.2) (QV.extract (vs := [z23.v, .int .i64 y21.2]) rfl rfl) rfl rfl rfl ?_
          refine JL.val (v := z23.v) (QV.assign rfl) rfl rfl rfl ?_
          refine JL.val (v := .int .i64 y21.2) (QV.assign rfl) rfl rfl rfl ?_
          refine JL.nil ?_
          refine QJ.then_normal ?_
          refine JC.seq ?_
          refine JC.region ?_
          refine JL.val (v := .int .i64 y21.2) (QV.move rfl) rfl rfl rfl ?_
          refine JL.val (v := .bool (decide (y21.2 = (0 : Int)))) (QV.eql rfl rfl) rfl rfl rfl ?_
          rcases ite_inv hm with ⟨h24, hm⟩ | ⟨h24, hm⟩
          ·
            refine JL.val (v := .bool true) (QV.eq (QV.move rfl) (congrArg Value.bool (decide_eq_true h24))) rfl rfl rfl ?_
            refine JL.val (v := z23.v) (QV.move rfl) rfl rfl rfl ?_
            refine JL.val (v := .string (strOfNums y21.1)) (QV.str (Rdg.of 0 rfl) Try.underlying23 Try.underlying5 Try.underlying9 rfl) rfl rfl rfl ?_
            refine JL.val (v := s1.v) (QV.move rfl) rfl rfl rfl ?_
            refine JL.val (v := .string (strOfNums x2)) (QV.str (Rdg.vw 3 rfl) Try.underlying23 Try.underlying5 Try.underlying9 rfl) rfl rfl rfl ?_
            refine JL.val (v := .bool (decide ((strOfNums y21.1) = (strOfNums x2)))) (QV.eqlS rfl rfl) rfl rfl rfl ?_
            refine JL.val (v := .bool (decide ((strOfNums y21.1) = (strOfNums x2)))) (QV.pickT rfl rfl) rfl rfl rfl ?_
            rcases ite_inv hm with ⟨h25, hm⟩ | ⟨h25, hm⟩
            ·
              refine JL.val (v := .bool true) (QV.eq (QV.move rfl) (congrArg Value.bool (decide_eq_true h25))) rfl rfl rfl ?_
              obtain ⟨y26, hc27, hm⟩ := bind_inv hm
              refine JL.mv (d := some 54) (MV.call (Lo := []) (Lr := [Asr.of 5 (Enc.int .u8) (z23.v) y21.1, Asr.onv 35 (NE.pair (NE.flat (Enc.int .u8)) (NE.pair (NE.flat (Enc.int .i64)) (NE.pair (NE.flat (Enc.int .i64)) (NE.sl (Enc.int .u8))))) (z14.v) z15 y12.1, Asr.onv 35 (NE.pair (NE.flat (Enc.int .u8)) (NE.pair (NE.flat (Enc.int .i64)) (NE.pair (NE.flat (Enc.int .i64)) (NE.sl (Enc.int .u8))))) (z10.v) z11 y8.1, Asr.vw (Enc.int .u8) (s1.v) x2]) (F15.spec _ hc27) rfl Try.func15 rfl rfl rfl [] [0, 1, 2, 3] rfl rfl rfl trivial) rfl rfl rfl ?_
              rintro _ _ ⟨_, ⟨rfl, rfl⟩, rfl⟩
              refine JL.val (v := .bool y26) (QV.pickT rfl rfl) rfl rfl rfl ?_
              refine JL.val (v := .bool y26) (QV.assign rfl) rfl rfl rfl ?_
              refine JL.nil ?_
              refine QJ.then_normal ?_
              refine JC.ret ?_
              obtain rfl := Option.some.inj hm
              exact QJ.body (vs := [.bool y26]) (.inl rfl) rfl (ResVs.cons (ResV.tmp rfl) ResVs.nil) [] rfl rfl (.inr trivial) ⟨rfl, rfl⟩
            ·
              refine JL.val (v := .bool false) (QV.eq (QV.move rfl) (congrArg Value.bool (decide_eq_false h25))) rfl rfl rfl ?_
              refine JL.skip (d := some 54) rfl rfl rfl ?_
              refine JL.val (v := .bool false) (QV.pickF rfl rfl) rfl rfl rfl ?_
              refine JL.val (v := .bool false) (QV.assign rfl) rfl rfl rfl ?_
              refine JL.nil ?_
              refine QJ.then_normal ?_
              refine JC.ret ?_
              obtain rfl := Option.some.inj hm
              exact QJ.body (vs := [.bool false]) (.inl rfl) rfl (ResVs.cons (ResV.tmp rfl) ResVs.nil) [] rfl rfl (.inr trivial) ⟨rfl, rfl⟩
          ·
            refine JL.val (v := .bool false) (QV.eq (QV.move rfl) (congrArg Value.bool (decide_eq_false h24))) rfl rfl rfl ?_
            refine JL.skip (d := some 47) rfl rfl rfl ?_
            refine JL.skip (d := some 48) rfl rfl rfl ?_
            refine JL.skip (d := some 49) rfl rfl rfl ?_
            refine JL.skip (d := some 50) rfl rfl rfl ?_
            refine JL.skip (d := some 51) rfl rfl rfl ?_
            refine JL.val (v := .bool false) (QV.pickF rfl rfl) rfl rfl rfl ?_
            refine JL.val (v := .bool false) (QV.move rfl) rfl rfl rfl ?_
            refine JL.skip (d := some 54) rfl rfl rfl ?_
            refine JL.val (v := .bool false) (QV.pickF rfl rfl) rfl rfl rfl ?_
            refine JL.val (v := .bool false) (QV.assign rfl) rfl rfl rfl ?_
            refine JL.nil ?_
            refine QJ.then_normal ?_
            refine JC.ret ?_
            obtain rfl := Option.some.inj hm
            exact QJ.body (vs := [.bool false]) (.inl rfl) rfl (ResVs.cons (ResV.tmp rfl) ResVs.nil) [] rfl rfl (.inr trivial) ⟨rfl, rfl⟩
        ·
          refine JC.condT' rfl (congrArg Bool.not (decide_eq_false h20)) ?_
          refine JC.seq ?_
          refine JC.region ?_
          obtain ⟨y28, hc29, hm⟩ := bind_inv hm
          refine JL.mv (d := some 38) (MV.call (Lo := []) (Lr := [Asr.onv 35 (NE.pair (NE.flat (Enc.int .u8)) (NE.pair (NE.flat (Enc.int .i64)) (NE.pair (NE.flat (Enc.int .i64)) (NE.sl (Enc.int .u8))))) (z14.v) z15 y12.1, Asr.onv 35 (NE.pair (NE.flat (Enc.int .u8)) (NE.pair (NE.flat (Enc.int .i64)) (NE.pair (NE.flat (Enc.int .i64)) (NE.sl (Enc.int .u8))))) (z10.v) z11 y8.1, Asr.vw (Enc.int .u8) (s1.v) x2]) (F15.spec _ hc29) rfl Try.func15 rfl rfl rfl [] [0, 1, 2] rfl rfl rfl trivial) rfl rfl rfl ?_
          rintro _ _ ⟨_, ⟨rfl, rfl⟩, rfl⟩
          refine JL.val (v := .bool y28) (QV.assign rfl) rfl rfl rfl ?_
          refine JL.nil ?_
          refine QJ.then_normal ?_
          refine JC.ret ?_
          refine QJ.then_ret ?_
          obtain rfl := Option.some.inj hm
          exact QJ.body (vs := [.bool y28]) (.inl rfl) rfl (ResVs.cons (ResV.tmp rfl) ResVs.nil) [] rfl rfl (.inr trivial) ⟨rfl, rfl⟩
      ·
        refine JC.condT' rfl (congrArg Bool.not (decide_eq_false h19)) ?_
        refine JC.seq ?_
        refine JC.region ?_
        refine JL.val (v := .bool false) (QV.assign rfl) rfl rfl rfl ?_
        refine JL.nil ?_
        refine QJ.then_normal ?_
        refine JC.ret ?_
        refine QJ.then_ret ?_
        obtain rfl := Option.some.inj hm
        exact QJ.body (vs := [.bool false]) (.inl rfl) rfl (ResVs.cons (ResV.tmp rfl) ResVs.nil) [] rfl rfl (.inr trivial) ⟨rfl, rfl⟩
    ·
      refine JL.val (v := .bool true) (QV.eq (QV.move rfl) (congrArg Value.bool (congrArg Bool.not (bfalse h18)))) rfl rfl rfl ?_
      refine JL.skip (d := some 32) rfl rfl rfl ?_
      refine JL.skip (d := some 33) rfl rfl rfl ?_
      refine JL.skip (d := some 34) rfl rfl rfl ?_
      refine JL.val (v := .bool true) (QV.pickT rfl rfl) rfl rfl rfl ?_
      refine JL.nil ?_
      refine QJ.then_normal ?_
      refine JC.condT rfl ?_
      refine JC.seq ?_
      refine JC.region ?_
      refine JL.val (v := .bool false) (QV.assign rfl) rfl rfl rfl ?_
      refine JL.nil ?_
      refine QJ.then_normal ?_
      refine JC.ret ?_
      refine QJ.then_ret ?_
      obtain rfl := Option.some.inj hm
      exact QJ.body (vs := [.bool false]) (.inl rfl) rfl (ResVs.cons (ResV.tmp rfl) ResVs.nil) [] rfl rfl (.inr trivial) ⟨rfl, rfl⟩

end Go.Proofs.Ytedokgdilpfomaa
