/- Written by gen.py: functions and their contracts. -/
import Derived.Test.YtedokgdilpfomaaMatx0
namespace Go.Proofs.Ytedokgdilpfomaa
open Go Go.Eng Go.Proofs
set_option linter.unusedVariables false
set_option linter.unusedSimpArgs false
/-! ### 53: drogher/match.reach -/
noncomputable def F53_1.j1  (d15 : Int) : Option Int :=
  some d15
noncomputable def F53_1.j2 (d19 : Int) (d29 : Int) (d30 : Int) (d31 : Int) : Option ((Int × Int × Int × Int) ⊕ Int) :=
  some (.inl (d29, d30, d31, (IntKind.wrap .i64 (d19 + (1 : Int)))))
noncomputable def F53_1.j4 (d19 : Int) (d34 : Int) (d38 : Int) (d39 : Int) : Option ((Int × Int × Int × Int) ⊕ Int) :=
  (if d34 < (IntKind.wrap .i64 (d38 - (24 : Int))) then some (.inr d39) else F53_1.j2 d19 (d38) (d34) (d39))
noncomputable def F53_1.j3 (x4 : List Int) (x6 : Int) (x8 : Int) (x11 : List Int) (x13 : Int) (d16 : Int) (d18 : Int) (d19 : Int) (d34 : Int) : Option ((Int × Int × Int × Int) ⊕ Int) :=
  (if d16 ≤ d34 then ((F55.m (d19) (x4) (x6) (x8) (x11) (x13)).bind fun y36 => (if y36 = true then F53_1.j4 d19 d34 (d34) ((IntKind.wrap .i64 (d19 + (1 : Int)))) else F53_1.j4 d19 d34 (d16) (d18))) else (if d34 < (IntKind.wrap .i64 (d16 - (24 : Int))) then some (.inr d18) else F53_1.j2 d19 (d16) (d34) (d18)))
noncomputable def F53_1.b1 (x1 : Int) (x4 : List Int) (x6 : Int) (x8 : Int) (x11 : List Int) (x13 : Int) : (Int × Int × Int × Int) → Option ((Int × Int × Int × Int) ⊕ Int)
  | (d16, d17, d18, d19) => (if d19 < x1 then ((F55.m (d19) (x4) (x6) (x8) (x11) (x13)).bind fun y32 => (if y32 = true then F53_1.j3 x4 x6 x8 x11 x13 d16 d18 d19 ((IntKind.wrap .i64 (d17 + (1 : Int)))) else F53_1.j3 x4 x6 x8 x11 x13 d16 d18 d19 ((IntKind.wrap .i64 (d17 - (1 : Int)))))) else some (.inr d18))
noncomputable def F53_1.m (x1 : Int) (x4 : List Int) (x6 : Int) (x8 : Int) (x11 : List Int) (x13 : Int) : Option Int :=
  ((loop (F53_1.b1 x1 x4 x6 x8 x11 x13) ((0 : Int), (0 : Int), (0 : Int), (0 : Int))).bind fun y => match y with | d15 => F53_1.j1 (d15))
set_option maxRecDepth 100000 in
set_option maxHeartbeats 4000000 in
theorem F53_1.spec (b2 : Nat) (s3 : SlV) (b5 : Nat) (b7 : Nat) (b9 : Nat) (s10 : SlV) (b12 : Nat) (x1 : Int) (x4 : List Int) (x6 : Int) (x8 : Int) (x11 : List Int) (x13 : Int) (r : Int) (hm : F53_1.m x1 x4 x6 x8 x11 x13 = some r) :
    Ctr Try.prog true 53 [.int .i64 x1, .func (.func 55) #[] #[.pointer (some ⟨b2, 0, none⟩), .pointer (some ⟨b5, 0, none⟩), .pointer (some ⟨b7, 0, none⟩), .pointer (some ⟨b9, 0, none⟩), .pointer (some ⟨b12, 0, none⟩)]] [Asr.blk b2 23 [Seg.c (s3.v)], Asr.blk b5 3 [Seg.c (.int .i64 x6)], Asr.blk b7 3 [Seg.c (.int .i64 x8)], Asr.blk b9 23 [Seg.c (s10.v)], Asr.blk b12 3 [Seg.c (.int .i64 x13)], Asr.vw (Enc.int .u8) (s3.v) x4, Asr.vw (Enc.int .u8) (s10.v) x11] (fun v L' => v = .int .i64 r ∧ L' = [Asr.vw (Enc.int .u8) (s3.v) x4, Asr.blk b2 23 [Seg.c (s3.v)], Asr.blk b5 3 [Seg.c (.int .i64 x6)], Asr.blk b7 3 [Seg.c (.int .i64 x8)], Asr.vw (Enc.int .u8) (s10.v) x11, Asr.blk b9 23 [Seg.c (s10.v)], Asr.blk b12 3 [Seg.c (.int .i64 x13)]]) := by
  refine Ctr.intro (n := 37) (env := [(0, .int .i64 x1), (1, .func (.func 55) #[] #[.pointer (some ⟨b2, 0, none⟩), .pointer (some ⟨b5, 0, none⟩), .pointer (some ⟨b7, 0, none⟩), .pointer (some ⟨b9, 0, none⟩), .pointer (some ⟨b12, 0, none⟩)])]) Try.func53 rfl rfl rfl rfl (fun c => ?_)
  unfold F53_1.m at hm
  refine JC.seq ?_
  refine JC.region ?_
  refine JL.val (v := .int .i64 (0 : Int)) (QV.assign rfl) rfl rfl rfl ?_
  refine JL.nil ?_
  refine QJ.then_normal ?_
  refine JC.seq ?_
  refine JC.region ?_
  refine JL.val (v := .int .i64 (0 : Int)) (QV.assign rfl) rfl rfl rfl ?_
  refine JL.val (v := .int .i64 (0 : Int)) (QV.assign rfl) rfl rfl rfl ?_
  refine JL.val (v := .int .i64 (0 : Int)) (QV.assign rfl) rfl rfl rfl ?_
  refine JL.nil ?_
  refine QJ.then_normal ?_
  refine JC.seq ?_
  refine JC.seq ?_
  refine JC.region ?_
  refine JL.val (v := .int .i64 x1) (QV.move rfl) rfl rfl rfl ?_
  refine JL.val (v := .int .i64 (0 : Int)) (QV.move rfl) rfl rfl rfl ?_
  refine JL.nil ?_
  refine QJ.then_normal ?_
  refine JC.cutK (Y := Int × Unit) (fun y => match y with | (d15, _) => F53_1.j1 (d15) = some r) (fun y => match y with | (d15, _) => [(7, .int .i64 d15)]) (fun y => match y with | (d15, _) => [Asr.vw (Enc.int .u8) (s3.v) x4, Asr.blk b2 23 [Seg.c (s3.v)], Asr.blk b5 3 [Seg.c (.int .i64 x6)], Asr.blk b7 3 [Seg.c (.int .i64 x8)], Asr.vw (Enc.int .u8) (s10.v) x11, Asr.blk b9 23 [Seg.c (s10.v)], Asr.blk b12 3 [Seg.c (.int .i64 x13)]]) ?_ ?_
  ·
    rintro ⟨d15, ⟨⟩⟩ hm
    unfold F53_1.j1 at hm
    show QJ _ _ [(7, .int .i64 d15)] [Asr.vw (Enc.int .u8) (s3.v) x4, Asr.blk b2 23 [Seg.c (s3.v)], Asr.blk b5 3 [Seg.c (.int .i64 x6)], Asr.blk b7 3 [Seg.c (.int .i64 x8)], Asr.vw (Enc.int .u8) (s10.v) x11, Asr.blk b9 23 [Seg.c (s10.v)], Asr.blk b12 3 [Seg.c (.int .i64 x13)]] _ _
    refine QJ.then_normal ?_
    refine JC.seq ?_
    refine JC.region ?_
    refine JL.val (v := .int .i64 d15) (QV.move rfl) rfl rfl rfl ?_
    refine JL.val (v := .int .i64 d15) (QV.assign rfl) rfl rfl rfl ?_
    refine JL.nil ?_
    refine QJ.then_normal ?_
    refine JC.ret ?_
    obtain rfl := Option.some.inj hm
    exact QJ.body (vs := [.int .i64 d15]) (.inl rfl) rfl (ResVs.cons (ResV.tmp rfl) ResVs.nil) [0, 1, 2, 3, 4, 5, 6] rfl rfl (.inl rfl) ⟨rfl, rfl⟩
  ·
    refine JC.block ?_
    obtain ⟨y24, hl25, hmo26⟩ := bind_inv hm
    refine JC.loop (F53_1.b1 x1 x4 x6 x8 x11 x13) (fun x z => match x, z with | (d16, d17, d18, d19), _ => [(1, .func (.func 55) #[] #[.pointer (some ⟨b2, 0, none⟩), .pointer (some ⟨b5, 0, none⟩), .pointer (some ⟨b7, 0, none⟩), .pointer (some ⟨b9, 0, none⟩), .pointer (some ⟨b12, 0, none⟩)]), (5, .int .i64 d16), (6, .int .i64 d17), (7, .int .i64 d18), (9, .int .i64 x1), (10, .int .i64 d19)]) (fun x z => match x, z with | (d16, d17, d18, d19), _ => [Asr.vw (Enc.int .u8) (s3.v) x4, Asr.blk b2 23 [Seg.c (s3.v)], Asr.blk b5 3 [Seg.c (.int .i64 x6)], Asr.blk b7 3 [Seg.c (.int .i64 x8)], Asr.vw (Enc.int .u8) (s10.v) x11, Asr.blk b9 23 [Seg.c (s10.v)], Asr.blk b12 3 [Seg.c (.int .i64 x13)]]) ((0 : Int), (0 : Int), (0 : Int), (0 : Int)) () y24 hl25 [5, 0, 1, 2, 6, 3, 4] (by exact ⟨rfl, rfl, rfl, rfl, rfl, rfl, trivial⟩) rfl rfl ?_
    rintro ⟨d16, d17, d18, d19⟩ ⟨⟩ s27 hm
    unfold F53_1.b1 at hm
    dsimp only at hm
    show JC _ _ _ [(1, .func (.func 55) #[] #[.pointer (some ⟨b2, 0, none⟩), .pointer (some ⟨b5, 0, none⟩), .pointer (some ⟨b7, 0, none⟩), .pointer (some ⟨b9, 0, none⟩), .pointer (some ⟨b12, 0, none⟩)]), (5, .int .i64 d16), (6, .int .i64 d17), (7, .int .i64 d18), (9, .int .i64 x1), (10, .int .i64 d19)] [Asr.vw (Enc.int .u8) (s3.v) x4, Asr.blk b2 23 [Seg.c (s3.v)], Asr.blk b5 3 [Seg.c (.int .i64 x6)], Asr.blk b7 3 [Seg.c (.int .i64 x8)], Asr.vw (Enc.int .u8) (s10.v) x11, Asr.blk b9 23 [Seg.c (s10.v)], Asr.blk b12 3 [Seg.c (.int .i64 x13)]] _ _
    refine JC.seq ?_
    refine JC.region ?_
    refine JL.val (v := .bool (decide (d19 < x1))) (QV.lss rfl rfl) rfl rfl rfl ?_
    refine JL.nil ?_
    refine QJ.then_normal ?_
    refine JC.seq ?_
    rcases ite_inv hm with ⟨h28, hm⟩ | ⟨h28, hm⟩
    ·
      refine JC.condT' rfl (decide_eq_true h28) ?_
      refine JC.skip ?_
      refine QJ.then_normal ?_
      refine JC.seq ?_
      refine JC.cutK (Y := (Int × Int × Int) × Unit) (fun y => match y with | ((d29, d30, d31), _) => F53_1.j2 d19 (d29) (d30) (d31) = some s27) (fun y => match y with | ((d29, d30, d31), _) => [(1, .func (.func 55) #[] #[.pointer (some ⟨b2, 0, none⟩), .pointer (some ⟨b5, 0, none⟩), .pointer (some ⟨b7, 0, none⟩), .pointer (some ⟨b9, 0, none⟩), .pointer (some ⟨b12, 0, none⟩)]), (5, .int .i64 d29), (6, .int .i64 d30), (7, .int .i64 d31), (9, .int .i64 x1), (10, .int .i64 d19)]) (fun y => match y with | ((d29, d30, d31), _) => [Asr.vw (Enc.int .u8) (s3.v) x4, Asr.blk b2 23 [Seg.c (s3.v)], Asr.blk b5 3 [Seg.c (.int .i64 x6)], Asr.blk b7 3 [Seg.c (.int .i64 x8)], Asr.vw (Enc.int .u8) (s10.v) x11, Asr.blk b9 23 [Seg.c (s10.v)], Asr.blk b12 3 [Seg.c (.int .i64 x13)]]) ?_ ?_
      ·
        rintro ⟨⟨d29, d30, d31⟩, ⟨⟩⟩ hm
        unfold F53_1.j2 at hm
        show QJ _ _ [(1, .func (.func 55) #[] #[.pointer (some ⟨b2, 0, none⟩), .pointer (some ⟨b5, 0, none⟩), .pointer (some ⟨b7, 0, none⟩), .pointer (some ⟨b9, 0, none⟩), .pointer (some ⟨b12, 0, none⟩)]), (5, .int .i64 d29), (6, .int .i64 d30), (7, .int .i64 d31), (9, .int .i64 x1), (10, .int .i64 d19)] [Asr.vw (Enc.int .u8) (s3.v) x4, Asr.blk b2 23 [Seg.c (s3.v)], Asr.blk b5 3 [Seg.c (.int .i64 x6)], Asr.blk b7 3 [Seg.c (.int .i64 x8)], Asr.vw (Enc.int .u8) (s10.v) x11, Asr.blk b9 23 [Seg.c (s10.v)], Asr.blk b12 3 [Seg.c (.int .i64 x13)]] _ _
        refine QJ.then_normal ?_
        refine JC.region ?_
        refine JL.val (v := .int .i64 (IntKind.wrap .i64 (d19 + (1 : Int)))) (QV.add rfl rfl) rfl rfl rfl ?_
        refine JL.val (v := .int .i64 (IntKind.wrap .i64 (d19 + (1 : Int)))) (QV.move rfl) rfl rfl rfl ?_
        refine JL.nil ?_
        obtain rfl := Option.some.inj hm
        exact QJ.round_on (d29, d30, d31, (IntKind.wrap .i64 (d19 + (1 : Int)))) () [0, 1, 2, 3, 4, 5, 6] (by exact ⟨rfl, rfl, rfl, rfl, rfl, rfl, trivial⟩) rfl rfl
      ·
        refine JC.block ?_
        refine JC.seq ?_
        refine JC.region ?_
        refine JL.val (v := .int .i64 d19) (QV.move rfl) rfl rfl rfl ?_
        refine JL.val (v := .int .i64 d19) (QV.assign rfl) rfl rfl rfl ?_
        refine JL.nil ?_
        refine QJ.then_normal ?_
        refine JC.seq ?_
        refine JC.seq ?_
        refine JC.region ?_
        refine JL.val (v := .func (.func 55) #[] #[.pointer (some ⟨b2, 0, none⟩), .pointer (some ⟨b5, 0, none⟩), .pointer (some ⟨b7, 0, none⟩), .pointer (some ⟨b9, 0, none⟩), .pointer (some ⟨b12, 0, none⟩)]) (QV.move rfl) rfl rfl rfl ?_
        refine JL.val (v := .int .i64 d19) (QV.move rfl) rfl rfl rfl ?_
        obtain ⟨y32, hc33, hm⟩ := bind_inv hm
        refine JL.mv (d := some 15) (MV.callV (vals := [.int .i64 d19]) (cs := [.pointer (some ⟨b2, 0, none⟩), .pointer (some ⟨b5, 0, none⟩), .pointer (some ⟨b7, 0, none⟩), .pointer (some ⟨b9, 0, none⟩), .pointer (some ⟨b12, 0, none⟩)]) (Lo := [Asr.blk b2 23 [Seg.c (s3.v)], Asr.blk b5 3 [Seg.c (.int .i64 x6)], Asr.blk b7 3 [Seg.c (.int .i64 x8)], Asr.blk b9 23 [Seg.c (s10.v)], Asr.blk b12 3 [Seg.c (.int .i64 x13)]]) (Lr := [Asr.vw (Enc.int .u8) (s3.v) x4, Asr.vw (Enc.int .u8) (s10.v) x11]) (F55.spec (b2) (s3) (b5) (b7) (b9) (s10) (b12) (d19) (x4) (x6) (x8) (x11) (x13) _ hc33) rfl rfl rfl Try.func55 rfl rfl rfl [1, 2, 3, 5, 6] [0, 4] rfl rfl rfl ⟨(Drv.vw 0 rfl), ⟨(Drv.vw 1 rfl), trivial⟩⟩) rfl rfl rfl ?_
        rintro _ _ ⟨_, ⟨rfl, rfl⟩, rfl⟩
        refine JL.nil ?_
        refine QJ.then_normal ?_
        refine JC.cutK (Y := Int × Unit) (fun y => match y with | (d34, _) => F53_1.j3 x4 x6 x8 x11 x13 d16 d18 d19 (d34) = some s27) (fun y => match y with | (d34, _) => [(1, .func (.func 55) #[] #[.pointer (some ⟨b2, 0, none⟩), .pointer (some ⟨b5, 0, none⟩), .pointer (some ⟨b7, 0, none⟩), .pointer (some ⟨b9, 0, none⟩), .pointer (some ⟨b12, 0, none⟩)]), (5, .int .i64 d16), (6, .int .i64 d34), (7, .int .i64 d18), (8, .int .i64 d19), (9, .int .i64 x1), (10, .int .i64 d19)]) (fun y => match y with | (d34, _) => [Asr.vw (Enc.int .u8) (s3.v) x4, Asr.blk b2 23 [Seg.c (s3.v)], Asr.blk b5 3 [Seg.c (.int .i64 x6)], Asr.blk b7 3 [Seg.c (.int .i64 x8)], Asr.vw (Enc.int .u8) (s10.v) x11, Asr.blk b9 23 [Seg.c (s10.v)], Asr.blk b12 3 [Seg.c (.int .i64 x13)]]) ?_ ?_
        ·
          rintro ⟨d34, ⟨⟩⟩ hm
          unfold F53_1.j3 at hm
          show QJ _ _ [(1, .func (.func 55) #[] #[.pointer (some ⟨b2, 0, none⟩), .pointer (some ⟨b5, 0, none⟩), .pointer (some ⟨b7, 0, none⟩), .pointer (some ⟨b9, 0, none⟩), .pointer (some ⟨b12, 0, none⟩)]), (5, .int .i64 d16), (6, .int .i64 d34), (7, .int .i64 d18), (8, .int .i64 d19), (9, .int .i64 x1), (10, .int .i64 d19)] [Asr.vw (Enc.int .u8) (s3.v) x4, Asr.blk b2 23 [Seg.c (s3.v)], Asr.blk b5 3 [Seg.c (.int .i64 x6)], Asr.blk b7 3 [Seg.c (.int .i64 x8)], Asr.vw (Enc.int .u8) (s10.v) x11, Asr.blk b9 23 [Seg.c (s10.v)], Asr.blk b12 3 [Seg.c (.int .i64 x13)]] _ _
          refine QJ.then_normal ?_
          refine JC.seq ?_
          refine JC.seq ?_
          refine JC.region ?_
          refine JL.val (v := .int .i64 d34) (QV.move rfl) rfl rfl rfl ?_
          refine JL.val (v := .int .i64 d16) (QV.move rfl) rfl rfl rfl ?_
          refine JL.val (v := .bool (decide (d16 ≤ d34))) (QV.geq rfl rfl) rfl rfl rfl ?_
          rcases ite_inv hm with ⟨h35, hm⟩ | ⟨h35, hm⟩
          ·
            refine JL.val (v := .bool true) (QV.eq (QV.move rfl) (congrArg Value.bool (decide_eq_true h35))) rfl rfl rfl ?_
            refine JL.val (v := .func (.func 55) #[] #[.pointer (some ⟨b2, 0, none⟩), .pointer (some ⟨b5, 0, none⟩), .pointer (some ⟨b7, 0, none⟩), .pointer (some ⟨b9, 0, none⟩), .pointer (some ⟨b12, 0, none⟩)]) (QV.move rfl) rfl rfl rfl ?_
            refine JL.val (v := .int .i64 d19) (QV.move rfl) rfl rfl rfl ?_
            obtain ⟨y36, hc37, hm⟩ := bind_inv hm
            refine JL.mv (d := some 26) (MV.callV (vals := [.int .i64 d19]) (cs := [.pointer (some ⟨b2, 0, none⟩), .pointer (some ⟨b5, 0, none⟩), .pointer (some ⟨b7, 0, none⟩), .pointer (some ⟨b9, 0, none⟩), .pointer (some ⟨b12, 0, none⟩)]) (Lo := [Asr.blk b2 23 [Seg.c (s3.v)], Asr.blk b5 3 [Seg.c (.int .i64 x6)], Asr.blk b7 3 [Seg.c (.int .i64 x8)], Asr.blk b9 23 [Seg.c (s10.v)], Asr.blk b12 3 [Seg.c (.int .i64 x13)]]) (Lr := [Asr.vw (Enc.int .u8) (s3.v) x4, Asr.vw (Enc.int .u8) (s10.v) x11]) (F55.spec (b2) (s3) (b5) (b7) (b9) (s10) (b12) (d19) (x4) (x6) (x8) (x11) (x13) _ hc37) rfl rfl rfl Try.func55 rfl rfl rfl [1, 2, 3, 5, 6] [0, 4] rfl rfl rfl ⟨(Drv.vw 0 rfl), ⟨(Drv.vw 1 rfl), trivial⟩⟩) rfl rfl rfl ?_
            rintro _ _ ⟨_, ⟨rfl, rfl⟩, rfl⟩
            refine JL.val (v := .bool y36) (QV.pickT rfl rfl) rfl rfl rfl ?_
            refine JL.nil ?_
            refine QJ.then_normal ?_
            refine JC.cutK (Y := (Int × Int) × Unit) (fun y => match y with | ((d38, d39), _) => F53_1.j4 d19 d34 (d38) (d39) = some s27) (fun y => match y with | ((d38, d39), _) => [(1, .func (.func 55) #[] #[.pointer (some ⟨b2, 0, none⟩), .pointer (some ⟨b5, 0, none⟩), .pointer (some ⟨b7, 0, none⟩), .pointer (some ⟨b9, 0, none⟩), .pointer (some ⟨b12, 0, none⟩)]), (5, .int .i64 d38), (6, .int .i64 d34), (7, .int .i64 d39), (9, .int .i64 x1), (10, .int .i64 d19)]) (fun y => match y with | ((d38, d39), _) => [Asr.vw (Enc.int .u8) (s3.v) x4, Asr.blk b2 23 [Seg.c (s3.v)], Asr.blk b5 3 [Seg.c (.int .i64 x6)], Asr.blk b7 3 [Seg.c (.int .i64 x8)], Asr.vw (Enc.int .u8) (s10.v) x11, Asr.blk b9 23 [Seg.c (s10.v)], Asr.blk b12 3 [Seg.c (.int .i64 x13)]]) ?_ ?_
            ·
              rintro ⟨⟨d38, d39⟩, ⟨⟩⟩ hm
              unfold F53_1.j4 at hm
              show QJ _ _ [(1, .func (.func 55) #[] #[.pointer (some ⟨b2, 0, none⟩), .pointer (some ⟨b5, 0, none⟩), .pointer (some ⟨b7, 0, none⟩), .pointer (some ⟨b9, 0, none⟩), .pointer (some ⟨b12, 0, none⟩)]), (5, .int .i64 d38), (6, .int .i64 d34), (7, .int .i64 d39), (9, .int .i64 x1), (10, .int .i64 d19)] [Asr.vw (Enc.int .u8) (s3.v) x4, Asr.blk b2 23 [Seg.c (s3.v)], Asr.blk b5 3 [Seg.c (.int .i64 x6)], Asr.blk b7 3 [Seg.c (.int .i64 x8)], Asr.vw (Enc.int .u8) (s10.v) x11, Asr.blk b9 23 [Seg.c (s10.v)], Asr.blk b12 3 [Seg.c (.int .i64 x13)]] _ _
              refine QJ.then_normal ?_
              refine JC.seq ?_
              refine JC.region ?_
              refine JL.val (v := .int .i64 d34) (QV.move rfl) rfl rfl rfl ?_
              refine JL.val (v := .int .i64 d38) (QV.move rfl) rfl rfl rfl ?_
              refine JL.val (v := .int .i64 (IntKind.wrap .i64 (d38 - (24 : Int)))) (QV.sub rfl rfl) rfl rfl rfl ?_
              refine JL.val (v := .bool (decide (d34 < (IntKind.wrap .i64 (d38 - (24 : Int)))))) (QV.lss rfl rfl) rfl rfl rfl ?_
              refine JL.nil ?_
              refine QJ.then_normal ?_
              rcases ite_inv hm with ⟨h40, hm⟩ | ⟨h40, hm⟩
              ·
                refine JC.condT' rfl (decide_eq_true h40) ?_
                refine JC.exit ?_
                refine QJ.block_miss rfl ?_
                refine QJ.cut_exit ?_
                refine QJ.then_exit ?_
                obtain rfl := Option.some.inj hm
                refine QJ.round_exit (fun hy => ?_)
                subst hy
                refine QJ.block_hit ?_
                exact QJ.cut_normal (d39, ()) hmo26 [0, 1, 2, 3, 4, 5, 6] (by exact ⟨rfl, trivial⟩) rfl rfl
              ·
                refine JC.condF' rfl (decide_eq_false h40) ?_
                refine JC.skip ?_
                refine QJ.block_normal ?_
                exact QJ.cut_normal ((d38, d34, d39), ()) hm [0, 1, 2, 3, 4, 5, 6] (by exact ⟨rfl, rfl, rfl, rfl, rfl, rfl, trivial⟩) rfl rfl
            ·
              rcases ite_inv hm with ⟨h41, hm⟩ | ⟨h41, hm⟩
              ·
                refine JC.condT' rfl h41 ?_
                refine JC.region ?_
                refine JL.val (v := .int .i64 d34) (QV.move rfl) rfl rfl rfl ?_
                refine JL.val (v := .int .i64 d19) (QV.move rfl) rfl rfl rfl ?_
                refine JL.val (v := .int .i64 (IntKind.wrap .i64 (d19 + (1 : Int)))) (QV.add rfl rfl) rfl rfl rfl ?_
                refine JL.val (v := .int .i64 d34) (QV.assign rfl) rfl rfl rfl ?_
                refine JL.val (v := .int .i64 (IntKind.wrap .i64 (d19 + (1 : Int)))) (QV.assign rfl) rfl rfl rfl ?_
                refine JL.nil ?_
                exact QJ.cut_normal ((d34, (IntKind.wrap .i64 (d19 + (1 : Int)))), ()) hm [0, 1, 2, 3, 4, 5, 6] (by exact ⟨rfl, rfl, rfl, rfl, rfl, rfl, trivial⟩) rfl rfl
              ·
                refine JC.condF' rfl (bfalse h41) ?_
                refine JC.skip ?_
                exact QJ.cut_normal ((d16, d18), ()) hm [0, 1, 2, 3, 4, 5, 6] (by exact ⟨rfl, rfl, rfl, rfl, rfl, rfl, trivial⟩) rfl rfl
          ·
            refine JL.val (v := .bool false) (QV.eq (QV.move rfl) (congrArg Value.bool (decide_eq_false h35))) rfl rfl rfl ?_
            refine JL.skip (d := some 24) rfl rfl rfl ?_
            refine JL.skip (d := some 25) rfl rfl rfl ?_
            refine JL.skip (d := some 26) rfl rfl rfl ?_
            refine JL.val (v := .bool false) (QV.pickF rfl rfl) rfl rfl rfl ?_
            refine JL.nil ?_
            refine QJ.then_normal ?_
            refine JC.condF rfl ?_
            refine JC.skip ?_
            refine QJ.then_normal ?_
            refine JC.seq ?_
            refine JC.region ?_
            refine JL.val (v := .int .i64 d34) (QV.move rfl) rfl rfl rfl ?_
            refine JL.val (v := .int .i64 d16) (QV.move rfl) rfl rfl rfl ?_
            refine JL.val (v := .int .i64 (IntKind.wrap .i64 (d16 - (24 : Int)))) (QV.sub rfl rfl) rfl rfl rfl ?_
            refine JL.val (v := .bool (decide (d34 < (IntKind.wrap .i64 (d16 - (24 : Int)))))) (QV.lss rfl rfl) rfl rfl rfl ?_
            refine JL.nil ?_
            refine QJ.then_normal ?_
            rcases ite_inv hm with ⟨h42, hm⟩ | ⟨h42, hm⟩
            ·
              refine JC.condT' rfl (decide_eq_true h42) ?_
              refine JC.exit ?_
              refine QJ.block_miss rfl ?_
              refine QJ.cut_exit ?_
              refine QJ.then_exit ?_
              obtain rfl := Option.some.inj hm
              refine QJ.round_exit (fun hy => ?_)
              subst hy
              refine QJ.block_hit ?_
              exact QJ.cut_normal (d18, ()) hmo26 [0, 1, 2, 3, 4, 5, 6] (by exact ⟨rfl, trivial⟩) rfl rfl
            ·
              refine JC.condF' rfl (decide_eq_false h42) ?_
              refine JC.skip ?_
              refine QJ.block_normal ?_
              exact QJ.cut_normal ((d16, d34, d18), ()) hm [0, 1, 2, 3, 4, 5, 6] (by exact ⟨rfl, rfl, rfl, rfl, rfl, rfl, trivial⟩) rfl rfl
        ·
          rcases ite_inv hm with ⟨h43, hm⟩ | ⟨h43, hm⟩
          ·
            refine JC.condT' rfl h43 ?_
            refine JC.region ?_
            refine JL.val (v := .int .i64 d17) (QV.move rfl) rfl rfl rfl ?_
            refine JL.val (v := .int .i64 (IntKind.wrap .i64 (d17 + (1 : Int)))) (QV.add rfl rfl) rfl rfl rfl ?_
            refine JL.val (v := .int .i64 (IntKind.wrap .i64 (d17 + (1 : Int)))) (QV.assign rfl) rfl rfl rfl ?_
            refine JL.nil ?_
            exact QJ.cut_normal ((IntKind.wrap .i64 (d17 + (1 : Int))), ()) hm [0, 1, 2, 3, 4, 5, 6] (by exact ⟨rfl, rfl, rfl, rfl, rfl, rfl, rfl, trivial⟩) rfl rfl
          ·
            refine JC.condF' rfl (bfalse h43) ?_
            refine JC.region ?_
            refine JL.val (v := .int .i64 d17) (QV.move rfl) rfl rfl rfl ?_
            refine JL.val (v := .int .i64 (IntKind.wrap .i64 (d17 - (1 : Int)))) (QV.sub rfl rfl) rfl rfl rfl ?_
            refine JL.val (v := .int .i64 (IntKind.wrap .i64 (d17 - (1 : Int)))) (QV.assign rfl) rfl rfl rfl ?_
            refine JL.nil ?_
            exact QJ.cut_normal ((IntKind.wrap .i64 (d17 - (1 : Int))), ()) hm [0, 1, 2, 3, 4, 5, 6] (by exact ⟨rfl, rfl, rfl, rfl, rfl, rfl, rfl, trivial⟩) rfl rfl
    ·
      refine JC.condF' rfl (decide_eq_false h28) ?_
      refine JC.exit ?_
      refine QJ.then_exit ?_
      obtain rfl := Option.some.inj hm
      refine QJ.round_exit (fun hy => ?_)
      subst hy
      refine QJ.block_hit ?_
      exact QJ.cut_normal (d18, ()) hmo26 [0, 1, 2, 3, 4, 5, 6] (by exact ⟨rfl, trivial⟩) rfl rfl

/-! ### 68: bytes.Compare -/
noncomputable def F68.m (x2 : List Int) (x4 : List Int) : Option Int :=
  some (Extern.BytealgCompare.cmp (baOf x2) (baOf x4))
set_option maxRecDepth 100000 in
set_option maxHeartbeats 4000000 in
theorem F68.spec (s1 : SlV) (s3 : SlV) (x2 : List Int) (x4 : List Int) (r : Int) (hm : F68.m x2 x4 = some r) :
    Ctr Try.prog false 68 [s1.v, s3.v] [Asr.vw (Enc.int .u8) (s1.v) x2, Asr.vw (Enc.int .u8) (s3.v) x4] (fun v L' => v = .int .i64 r ∧ L' = []) := by
  refine Ctr.intro (n := 8) (env := [(0, s1.v), (1, s3.v)]) Try.func68 rfl rfl rfl rfl (fun c => ?_)
  unfold F68.m at hm
  refine JC.seq ?_
  refine JC.region ?_
  refine JL.val (v := .int .i64 (0 : Int)) (QV.assign rfl) rfl rfl rfl ?_
  refine JL.nil ?_
  refine QJ.then_normal ?_
  refine JC.seq ?_
  refine JC.region ?_
  refine JL.val (v := s1.v) (QV.move rfl) rfl rfl rfl ?_
  refine JL.val (v := s3.v) (QV.move rfl) rfl rfl rfl ?_
  refine JL.val (v := .int .i64 (Extern.BytealgCompare.cmp (baOf x2) (baOf x4))) (QV.ext (vals := [s1.v, s3.v]) rfl Try.func73 rfl rfl xn_73 xf_73 rfl (ext_cmp (Rdg.vw 0 rfl) (Rdg.vw 1 rfl))) rfl rfl rfl ?_
  refine JL.val (v := .int .i64 (Extern.BytealgCompare.cmp (baOf x2) (baOf x4))) (QV.assign rfl) rfl rfl rfl ?_
  refine JL.nil ?_
  refine QJ.then_normal ?_
  refine JC.ret ?_
  obtain rfl := Option.some.inj hm
  exact QJ.body (vs := [.int .i64 (Extern.BytealgCompare.cmp (baOf x2) (baOf x4))]) (.inl rfl) rfl (ResVs.cons (ResV.tmp rfl) ResVs.nil) [] rfl rfl (.inr trivial) ⟨rfl, rfl⟩

/-! ### 67: (*drogher/suffix.Index).Longest$1 -/
noncomputable def F67.m (x1 : Int) (x5 : List Int) (x7 : List Int) (x10 : List Int) : Option Bool :=
  (if 0 ≤ x1 ∧ x1 < ((x7).length : Int) then (if 0 ≤ (gd x7 x1) ∧ (gd x7 x1) ≤ ((x5).length : Int) ∧ ((x5).length : Int) ≤ ((x5).length : Int) then ((F68.m ((subL x5 (gd x7 x1) ((x5).length : Int))) (x10)).bind fun y14 => some (decide ((0 : Int) ≤ y14))) else none) else none)
set_option maxRecDepth 100000 in
set_option maxHeartbeats 4000000 in
theorem F67.spec (b2 : Nat) (b3 : Nat) (s4 : SlV) (s6 : SlV) (b8 : Nat) (s9 : SlV) (x1 : Int) (x5 : List Int) (x7 : List Int) (x10 : List Int) (r : Bool) (hm : F67.m x1 x5 x7 x10 = some r) :
    Ctr Try.prog true 67 [.int .i64 x1, .pointer (some ⟨b2, 0, none⟩), .pointer (some ⟨b8, 0, none⟩)] [Asr.blk b2 79 [Seg.c (.pointer (some ⟨b3, 0, none⟩))], Asr.blk b3 97 [Seg.c (s4.v), Seg.c (s6.v)], Asr.of 5 (Enc.int .u8) (s4.v) x5, Asr.of 3 (Enc.int .i64) (s6.v) x7, Asr.blk b8 23 [Seg.c (s9.v)], Asr.vw (Enc.int .u8) (s9.v) x10] (fun v L' => v = .bool r ∧ L' = [Asr.of 5 (Enc.int .u8) (s4.v) x5, Asr.of 3 (Enc.int .i64) (s6.v) x7, Asr.blk b3 97 [Seg.c (s4.v), Seg.c (s6.v)], Asr.blk b2 79 [Seg.c (.pointer (some ⟨b3, 0, none⟩))], Asr.vw (Enc.int .u8) (s9.v) x10, Asr.blk b8 23 [Seg.c (s9.v)]]) := by
  refine Ctr.intro (n := 20) (env := [(0, .int .i64 x1), (1, .pointer (some ⟨b2, 0, none⟩)), (2, .pointer (some ⟨b8, 0, none⟩))]) Try.func67 rfl rfl rfl rfl (fun c => ?_)
  unfold F67.m at hm
  refine JC.seq ?_
  refine JC.region ?_
  refine JL.val (v := .bool false) (QV.assign rfl) rfl rfl rfl ?_
  refine JL.nil ?_
  refine QJ.then_normal ?_
  refine JC.seq ?_
  refine JC.regionT [Asr.blk b2 79 [Seg.c (.pointer (some ⟨b3, 0, none⟩))], Asr.blk b3 97 [Seg.c (s4.v), Seg.c (s6.v)], Asr.of 5 (Enc.int .u8) (s4.v) x5, Asr.of 3 (Enc.int .i64) (s6.v) x7, Asr.blk b8 23 [Seg.c (s9.v)], Asr.vw (Enc.int .u8) (s9.v) x10] (fun t => false) [(0, true), (1, true), (2, true), (3, true), (4, true), (5, true), (6, true), (7, true), (8, true), (9, true), (10, true), (11, true), (12, false), (13, false), (14, false), (15, false)] (by kernel_rfl) (by kernel_rfl) (by kernel_rfl) rfl (fun hsel => ?_)
  refine JT.take (i := 0) (v := .pointer (some ⟨b3, 0, none⟩)) hsel rfl (QV.load1 (ss := [Seg.c (.pointer (some ⟨b3, 0, none⟩))]) 0 0 rfl tk_79 rfl rfl rfl) rfl rfl rfl [0, 1, 2, 3, 4, 5] rfl rfl ?_
  refine JT.take (i := 1) (v := .pointer (some ⟨b3, 0, none⟩)) hsel rfl (QV.nilCheck rfl) rfl rfl rfl [0, 1, 2, 3, 4, 5] rfl rfl ?_
  refine JT.take (i := 2) (v := .pointer (some ⟨b3, 0, none⟩)) hsel rfl (QV.fieldB fo_97_0 rfl rfl) rfl rfl rfl [0, 1, 2, 3, 4, 5] rfl rfl ?_
  refine JT.take (i := 3) (v := s4.v) hsel rfl (QV.load1 (ss := [Seg.c (s4.v), Seg.c (s6.v)]) 1 0 rfl tk_23 rfl rfl rfl) rfl rfl rfl [0, 1, 2, 3, 4, 5] rfl rfl ?_
  refine JT.take (i := 4) (v := .pointer (some ⟨b3, 0, none⟩)) hsel rfl (QV.load1 (ss := [Seg.c (.pointer (some ⟨b3, 0, none⟩))]) 0 0 rfl tk_79 rfl rfl rfl) rfl rfl rfl [0, 1, 2, 3, 4, 5] rfl rfl ?_
  refine JT.take (i := 5) (v := .pointer (some ⟨b3, 0, none⟩)) hsel rfl (QV.nilCheck rfl) rfl rfl rfl [0, 1, 2, 3, 4, 5] rfl rfl ?_
  refine JT.take (i := 6) (v := .pointer (some ⟨b3, 1, none⟩)) hsel rfl (QV.fieldB fo_97_1 rfl rfl) rfl rfl rfl [0, 1, 2, 3, 4, 5] rfl rfl ?_
  refine JT.take (i := 7) (v := s6.v) hsel rfl (QV.load1 (ss := [Seg.c (s4.v), Seg.c (s6.v)]) 1 1 rfl tk_94 rfl rfl rfl) rfl rfl rfl [0, 1, 2, 3, 4, 5] rfl rfl ?_
  refine JT.take (i := 8) (v := .int .i64 x1) hsel rfl (QV.move rfl) rfl rfl rfl [0, 1, 2, 3, 4, 5] rfl rfl ?_
  obtain ⟨h12, hm⟩ := guard_inv hm
  refine JT.take (i := 9) (v := .pointer (some (elA (s6.v) (Int.toNat x1 * ((Enc.int .i64)).sz)))) hsel rfl (QV.indexA (Rdg.of 3 rfl) Try.underlying94 tk_3 rfl rfl h12) rfl rfl rfl [0, 1, 2, 3, 4, 5] rfl rfl ?_
  refine JT.take (i := 10) (v := .int .i64 (gd x7 x1)) hsel rfl (QV.el1 (Rdg.of 3 rfl) tk_3 rfl h12 rfl) rfl rfl rfl [0, 1, 2, 3, 4, 5] rfl rfl ?_
  obtain ⟨h13, hm⟩ := guard_inv hm
  refine JT.take (i := 11) (v := (SlV.sub ((Enc.int .u8)).sz s4 (gd x7 x1) ((x5).length : Int)).v) hsel rfl (QV.sliceV (Rdg.of 2 rfl) Try.underlying23 tk_5 rfl rfl rfl h13) rfl rfl rfl [0, 1, 2, 3, 4, 5] rfl rfl ?_
  refine JT.only (i := 12) (d := some 17) rfl (MV.ofQV (v := s9.v) (QV.load1 (ss := [Seg.c (s9.v)]) 4 0 rfl tk_23 rfl rfl rfl)) rfl rfl rfl ?_
  rintro _ _ ⟨rfl, rfl⟩
  refine ⟨fun _ => ⟨[0, 1, 2, 3, 4, 5], rfl, rfl⟩, ?_⟩
  obtain ⟨y14, hc15, hm⟩ := bind_inv hm
  refine JT.only (i := 13) (d := some 18) rfl (MV.call (Lo := []) (Lr := [Asr.blk b2 79 [Seg.c (.pointer (some ⟨b3, 0, none⟩))], Asr.blk b3 97 [Seg.c (s4.v), Seg.c (s6.v)], Asr.of 5 (Enc.int .u8) (s4.v) x5, Asr.of 3 (Enc.int .i64) (s6.v) x7, Asr.blk b8 23 [Seg.c (s9.v)], Asr.vw (Enc.int .u8) (s9.v) x10]) (F68.spec ((SlV.sub ((Enc.int .u8)).sz s4 (gd x7 x1) ((x5).length : Int))) (s9) ((subL x5 (gd x7 x1) ((x5).length : Int))) (x10) _ hc15) rfl Try.func68 rfl rfl rfl [] [0, 1, 2, 3, 4, 5] rfl rfl rfl ⟨((Drv.of 2 rfl).subV h13), ⟨(Drv.vw 5 rfl), trivial⟩⟩) rfl rfl rfl ?_
  rintro _ _ ⟨_, ⟨rfl, rfl⟩, rfl⟩
  refine ⟨fun _ => ⟨[0, 1, 2, 3, 4, 5], rfl, rfl⟩, ?_⟩
  refine JT.only (i := 14) (d := some 19) rfl (MV.ofQV (v := .bool (decide ((0 : Int) ≤ y14))) (QV.geq rfl rfl)) rfl rfl rfl ?_
  rintro _ _ ⟨rfl, rfl⟩
  refine ⟨fun _ => ⟨[0, 1, 2, 3, 4, 5], rfl, rfl⟩, ?_⟩
  refine JT.only (i := 15) (d := some 4) rfl (MV.ofQV (v := .bool (decide ((0 : Int) ≤ y14))) (QV.assign rfl)) rfl rfl rfl ?_
  rintro _ _ ⟨rfl, rfl⟩
  refine ⟨fun _ => ⟨[0, 1, 2, 3, 4, 5], rfl, rfl⟩, ?_⟩
  refine JT.nil ?_
  refine QJ.then_normal ?_
  refine JC.ret ?_
  obtain rfl := Option.some.inj hm
  exact QJ.body (vs := [.bool (decide ((0 : Int) ≤ y14))]) (.inl rfl) rfl (ResVs.cons (ResV.tmp rfl) ResVs.nil) [2, 3, 1, 0, 5, 4] rfl rfl (.inl rfl) ⟨rfl, rfl⟩

/-! ### 66: sort.Search -/
noncomputable def F66.j1  (d12 : Int) : Option Int :=
  some d12
noncomputable def F66.j2  (d24 : Int) (d25 : Int) : Option ((Int × Int) ⊕ Int) :=
  some (.inl (d24, d25))
noncomputable def F66.b1 (x5 : List Int) (x7 : List Int) (x10 : List Int) : (Int × Int) → Option ((Int × Int) ⊕ Int)
  | (d13, d14) => (if d13 < d14 then ((F67.m ((IntKind.wrap .i64 (shrI .u64 (IntKind.wrap .u64 (IntKind.wrap .i64 (d13 + d14))) (1 : Int)))) (x5) (x7) (x10)).bind fun y22 => (if y22 = true then F66.j2 (d13) ((IntKind.wrap .i64 (shrI .u64 (IntKind.wrap .u64 (IntKind.wrap .i64 (d13 + d14))) (1 : Int)))) else F66.j2 ((IntKind.wrap .i64 ((IntKind.wrap .i64 (shrI .u64 (IntKind.wrap .u64 (IntKind.wrap .i64 (d13 + d14))) (1 : Int))) + (1 : Int)))) (d14))) else some (.inr d13))
noncomputable def F66.m (x1 : Int) (x5 : List Int) (x7 : List Int) (x10 : List Int) : Option Int :=
  ((loop (F66.b1 x5 x7 x10) ((0 : Int), x1)).bind fun y => match y with | d12 => F66.j1 (d12))
set_option maxRecDepth 100000 in
set_option maxHeartbeats 4000000 in
theorem F66.spec (b2 : Nat) (b3 : Nat) (s4 : SlV) (s6 : SlV) (b8 : Nat) (s9 : SlV) (x1 : Int) (x5 : List Int) (x7 : List Int) (x10 : List Int) (r : Int) (hm : F66.m x1 x5 x7 x10 = some r) :
    Ctr Try.prog true 66 [.int .i64 x1, .func (.func 67) #[] #[.pointer (some ⟨b2, 0, none⟩), .pointer (some ⟨b8, 0, none⟩)]] [Asr.blk b2 79 [Seg.c (.pointer (some ⟨b3, 0, none⟩))], Asr.blk b3 97 [Seg.c (s4.v), Seg.c (s6.v)], Asr.of 5 (Enc.int .u8) (s4.v) x5, Asr.of 3 (Enc.int .i64) (s6.v) x7, Asr.blk b8 23 [Seg.c (s9.v)], Asr.vw (Enc.int .u8) (s9.v) x10] (fun v L' => v = .int .i64 r ∧ L' = [Asr.of 5 (Enc.int .u8) (s4.v) x5, Asr.of 3 (Enc.int .i64) (s6.v) x7, Asr.blk b3 97 [Seg.c (s4.v), Seg.c (s6.v)], Asr.blk b2 79 [Seg.c (.pointer (some ⟨b3, 0, none⟩))], Asr.vw (Enc.int .u8) (s9.v) x10, Asr.blk b8 23 [Seg.c (s9.v)]]) := by
  refine Ctr.intro (n := 26) (env := [(0, .int .i64 x1), (1, .func (.func 67) #[] #[.pointer (some ⟨b2, 0, none⟩), .pointer (some ⟨b8, 0, none⟩)])]) Try.func66 rfl rfl rfl rfl (fun c => ?_)
  unfold F66.m at hm
  refine JC.seq ?_
  refine JC.region ?_
  refine JL.val (v := .int .i64 (0 : Int)) (QV.assign rfl) rfl rfl rfl ?_
  refine JL.nil ?_
  refine QJ.then_normal ?_
  refine JC.seq ?_
  refine JC.region ?_
  refine JL.val (v := .int .i64 x1) (QV.move rfl) rfl rfl rfl ?_
  refine JL.val (v := .int .i64 (0 : Int)) (QV.assign rfl) rfl rfl rfl ?_
  refine JL.val (v := .int .i64 x1) (QV.assign rfl) rfl rfl rfl ?_
  refine JL.nil ?_
  refine QJ.then_normal ?_
  refine JC.seq ?_
  refine JC.cutK (Y := Int × Unit) (fun y => match y with | (d12, _) => F66.j1 (d12) = some r) (fun y => match y with | (d12, _) => [(5, .int .i64 d12)]) (fun y => match y with | (d12, _) => [Asr.of 5 (Enc.int .u8) (s4.v) x5, Asr.of 3 (Enc.int .i64) (s6.v) x7, Asr.blk b3 97 [Seg.c (s4.v), Seg.c (s6.v)], Asr.blk b2 79 [Seg.c (.pointer (some ⟨b3, 0, none⟩))], Asr.vw (Enc.int .u8) (s9.v) x10, Asr.blk b8 23 [Seg.c (s9.v)]]) ?_ ?_
  ·
    rintro ⟨d12, ⟨⟩⟩ hm
    unfold F66.j1 at hm
    show QJ _ _ [(5, .int .i64 d12)] [Asr.of 5 (Enc.int .u8) (s4.v) x5, Asr.of 3 (Enc.int .i64) (s6.v) x7, Asr.blk b3 97 [Seg.c (s4.v), Seg.c (s6.v)], Asr.blk b2 79 [Seg.c (.pointer (some ⟨b3, 0, none⟩))], Asr.vw (Enc.int .u8) (s9.v) x10, Asr.blk b8 23 [Seg.c (s9.v)]] _ _
    refine QJ.then_normal ?_
    refine JC.seq ?_
    refine JC.region ?_
    refine JL.val (v := .int .i64 d12) (QV.move rfl) rfl rfl rfl ?_
    refine JL.val (v := .int .i64 d12) (QV.assign rfl) rfl rfl rfl ?_
    refine JL.nil ?_
    refine QJ.then_normal ?_
    refine JC.ret ?_
    obtain rfl := Option.some.inj hm
    exact QJ.body (vs := [.int .i64 d12]) (.inl rfl) rfl (ResVs.cons (ResV.tmp rfl) ResVs.nil) [0, 1, 2, 3, 4, 5] rfl rfl (.inl rfl) ⟨rfl, rfl⟩
  ·
    refine JC.block ?_
    obtain ⟨y17, hl18, hmo19⟩ := bind_inv hm
    refine JC.loop (F66.b1 x5 x7 x10) (fun x z => match x, z with | (d13, d14), _ => [(1, .func (.func 67) #[] #[.pointer (some ⟨b2, 0, none⟩), .pointer (some ⟨b8, 0, none⟩)]), (5, .int .i64 d13), (6, .int .i64 d14)]) (fun x z => match x, z with | (d13, d14), _ => [Asr.of 5 (Enc.int .u8) (s4.v) x5, Asr.of 3 (Enc.int .i64) (s6.v) x7, Asr.blk b3 97 [Seg.c (s4.v), Seg.c (s6.v)], Asr.blk b2 79 [Seg.c (.pointer (some ⟨b3, 0, none⟩))], Asr.vw (Enc.int .u8) (s9.v) x10, Asr.blk b8 23 [Seg.c (s9.v)]]) ((0 : Int), x1) () y17 hl18 [2, 3, 1, 0, 5, 4] (by exact ⟨rfl, rfl, rfl, trivial⟩) rfl rfl ?_
    rintro ⟨d13, d14⟩ ⟨⟩ s20 hm
    unfold F66.b1 at hm
    dsimp only at hm
    show JC _ _ _ [(1, .func (.func 67) #[] #[.pointer (some ⟨b2, 0, none⟩), .pointer (some ⟨b8, 0, none⟩)]), (5, .int .i64 d13), (6, .int .i64 d14)] [Asr.of 5 (Enc.int .u8) (s4.v) x5, Asr.of 3 (Enc.int .i64) (s6.v) x7, Asr.blk b3 97 [Seg.c (s4.v), Seg.c (s6.v)], Asr.blk b2 79 [Seg.c (.pointer (some ⟨b3, 0, none⟩))], Asr.vw (Enc.int .u8) (s9.v) x10, Asr.blk b8 23 [Seg.c (s9.v)]] _ _
    refine JC.seq ?_
    refine JC.seq ?_
    refine JC.region ?_
    refine JL.val (v := .int .i64 d13) (QV.move rfl) rfl rfl rfl ?_
    refine JL.val (v := .int .i64 d14) (QV.move rfl) rfl rfl rfl ?_
    refine JL.val (v := .bool (decide (d13 < d14))) (QV.lss rfl rfl) rfl rfl rfl ?_
    refine JL.nil ?_
    refine QJ.then_normal ?_
    rcases ite_inv hm with ⟨h21, hm⟩ | ⟨h21, hm⟩
    ·
      refine JC.condT' rfl (decide_eq_true h21) ?_
      refine JC.skip ?_
      refine QJ.then_normal ?_
      refine JC.block ?_
      refine JC.seq ?_
      refine JC.region ?_
      refine JL.val (v := .int .i64 d13) (QV.move rfl) rfl rfl rfl ?_
      refine JL.val (v := .int .i64 d14) (QV.move rfl) rfl rfl rfl ?_
      refine JL.val (v := .int .i64 (IntKind.wrap .i64 (d13 + d14))) (QV.add rfl rfl) rfl rfl rfl ?_
      refine JL.val (v := .int .u64 (IntKind.wrap .u64 (IntKind.wrap .i64 (d13 + d14)))) (QV.conv rfl (by rw [Try.underlying3]; rfl) Try.underlying103) rfl rfl rfl ?_
      refine JL.val (v := .int .u64 (shrI .u64 (IntKind.wrap .u64 (IntKind.wrap .i64 (d13 + d14))) (1 : Int))) (QV.shr rfl rfl (by decide)) rfl rfl rfl ?_
      refine JL.val (v := .int .i64 (IntKind.wrap .i64 (shrI .u64 (IntKind.wrap .u64 (IntKind.wrap .i64 (d13 + d14))) (1 : Int)))) (QV.conv rfl (by rw [Try.underlying103]; rfl) Try.underlying3) rfl rfl rfl ?_
      refine JL.val (v := .int .i64 (IntKind.wrap .i64 (shrI .u64 (IntKind.wrap .u64 (IntKind.wrap .i64 (d13 + d14))) (1 : Int)))) (QV.assign rfl) rfl rfl rfl ?_
      refine JL.nil ?_
      refine QJ.then_normal ?_
      refine JC.seq ?_
      refine JC.region ?_
      refine JL.val (v := .func (.func 67) #[] #[.pointer (some ⟨b2, 0, none⟩), .pointer (some ⟨b8, 0, none⟩)]) (QV.move rfl) rfl rfl rfl ?_
      refine JL.val (v := .int .i64 (IntKind.wrap .i64 (shrI .u64 (IntKind.wrap .u64 (IntKind.wrap .i64 (d13 + d14))) (1 : Int)))) (QV.move rfl) rfl rfl rfl ?_
      obtain ⟨y22, hc23, hm⟩ := bind_inv hm
      refine JL.mv (d := some 20) (MV.callV (vals := [.int .i64 (IntKind.wrap .i64 (shrI .u64 (IntKind.wrap .u64 (IntKind.wrap .i64 (d13 + d14))) (1 : Int)))]) (cs := [.pointer (some ⟨b2, 0, none⟩), .pointer (some ⟨b8, 0, none⟩)]) (Lo := [Asr.blk b2 79 [Seg.c (.pointer (some ⟨b3, 0, none⟩))], Asr.blk b3 97 [Seg.c (s4.v), Seg.c (s6.v)], Asr.of 5 (Enc.int .u8) (s4.v) x5, Asr.of 3 (Enc.int .i64) (s6.v) x7, Asr.blk b8 23 [Seg.c (s9.v)]]) (Lr := [Asr.vw (Enc.int .u8) (s9.v) x10]) (F67.spec (b2) (b3) (s4) (s6) (b8) (s9) ((IntKind.wrap .i64 (shrI .u64 (IntKind.wrap .u64 (IntKind.wrap .i64 (d13 + d14))) (1 : Int)))) (x5) (x7) (x10) _ hc23) rfl rfl rfl Try.func67 rfl rfl rfl [3, 2, 0, 1, 5] [4] rfl rfl rfl ⟨(Drv.vw 0 rfl), trivial⟩) rfl rfl rfl ?_
      rintro _ _ ⟨_, ⟨rfl, rfl⟩, rfl⟩
      refine JL.val (v := .bool (!y22)) (QV.not rfl) rfl rfl rfl ?_
      refine JL.nil ?_
      refine QJ.then_normal ?_
      refine JC.cutK (Y := (Int × Int) × Unit) (fun y => match y with | ((d24, d25), _) => F66.j2 (d24) (d25) = some s20) (fun y => match y with | ((d24, d25), _) => [(1, .func (.func 67) #[] #[.pointer (some ⟨b2, 0, none⟩), .pointer (some ⟨b8, 0, none⟩)]), (5, .int .i64 d24), (6, .int .i64 d25)]) (fun y => match y with | ((d24, d25), _) => [Asr.of 5 (Enc.int .u8) (s4.v) x5, Asr.of 3 (Enc.int .i64) (s6.v) x7, Asr.blk b3 97 [Seg.c (s4.v), Seg.c (s6.v)], Asr.blk b2 79 [Seg.c (.pointer (some ⟨b3, 0, none⟩))], Asr.vw (Enc.int .u8) (s9.v) x10, Asr.blk b8 23 [Seg.c (s9.v)]]) ?_ ?_
      ·
        rintro ⟨⟨d24, d25⟩, ⟨⟩⟩ hm
        unfold F66.j2 at hm
        show QJ _ _ [(1, .func (.func 67) #[] #[.pointer (some ⟨b2, 0, none⟩), .pointer (some ⟨b8, 0, none⟩)]), (5, .int .i64 d24), (6, .int .i64 d25)] [Asr.of 5 (Enc.int .u8) (s4.v) x5, Asr.of 3 (Enc.int .i64) (s6.v) x7, Asr.blk b3 97 [Seg.c (s4.v), Seg.c (s6.v)], Asr.blk b2 79 [Seg.c (.pointer (some ⟨b3, 0, none⟩))], Asr.vw (Enc.int .u8) (s9.v) x10, Asr.blk b8 23 [Seg.c (s9.v)]] _ _
        refine QJ.block_normal ?_
        obtain rfl := Option.some.inj hm
        exact QJ.round_on (d24, d25) () [0, 1, 2, 3, 4, 5] (by exact ⟨rfl, rfl, rfl, trivial⟩) rfl rfl
      ·
        rcases ite_inv hm with ⟨h26, hm⟩ | ⟨h26, hm⟩
        ·
          refine JC.condF' rfl (congrArg Bool.not h26) ?_
          refine JC.region ?_
          refine JL.val (v := .int .i64 (IntKind.wrap .i64 (shrI .u64 (IntKind.wrap .u64 (IntKind.wrap .i64 (d13 + d14))) (1 : Int)))) (QV.move rfl) rfl rfl rfl ?_
          refine JL.val (v := .int .i64 (IntKind.wrap .i64 (shrI .u64 (IntKind.wrap .u64 (IntKind.wrap .i64 (d13 + d14))) (1 : Int)))) (QV.assign rfl) rfl rfl rfl ?_
          refine JL.nil ?_
          exact QJ.cut_normal ((d13, (IntKind.wrap .i64 (shrI .u64 (IntKind.wrap .u64 (IntKind.wrap .i64 (d13 + d14))) (1 : Int)))), ()) hm [0, 1, 2, 3, 4, 5] (by exact ⟨rfl, rfl, rfl, trivial⟩) rfl rfl
        ·
          refine JC.condT' rfl (congrArg Bool.not (bfalse h26)) ?_
          refine JC.region ?_
          refine JL.val (v := .int .i64 (IntKind.wrap .i64 (shrI .u64 (IntKind.wrap .u64 (IntKind.wrap .i64 (d13 + d14))) (1 : Int)))) (QV.move rfl) rfl rfl rfl ?_
          refine JL.val (v := .int .i64 (IntKind.wrap .i64 ((IntKind.wrap .i64 (shrI .u64 (IntKind.wrap .u64 (IntKind.wrap .i64 (d13 + d14))) (1 : Int))) + (1 : Int)))) (QV.add rfl rfl) rfl rfl rfl ?_
          refine JL.val (v := .int .i64 (IntKind.wrap .i64 ((IntKind.wrap .i64 (shrI .u64 (IntKind.wrap .u64 (IntKind.wrap .i64 (d13 + d14))) (1 : Int))) + (1 : Int)))) (QV.assign rfl) rfl rfl rfl ?_
          refine JL.nil ?_
          exact QJ.cut_normal (((IntKind.wrap .i64 ((IntKind.wrap .i64 (shrI .u64 (IntKind.wrap .u64 (IntKind.wrap .i64 (d13 + d14))) (1 : Int))) + (1 : Int))), d14), ()) hm [0, 1, 2, 3, 4, 5] (by exact ⟨rfl, rfl, rfl, trivial⟩) rfl rfl
    ·
      refine JC.condF' rfl (decide_eq_false h21) ?_
      refine JC.exit ?_
      refine QJ.then_exit ?_
      obtain rfl := Option.some.inj hm
      refine QJ.round_exit (fun hy => ?_)
      subst hy
      refine QJ.block_hit ?_
      exact QJ.cut_normal (d13, ()) hmo19 [0, 1, 2, 3, 4, 5] (by exact ⟨rfl, trivial⟩) rfl rfl

/-! ### 69: drogher/suffix.same -/
noncomputable def F69.j1  (d6 : Int) : Option Int :=
  some d6
noncomputable def F69.b1 (x2 : List Int) (x4 : List Int) : Int → Option (Int ⊕ Int)
  | d7 => (if d7 < ((x2).length : Int) then (if d7 < ((x4).length : Int) then (if 0 ≤ d7 ∧ d7 < ((x2).length : Int) then (if 0 ≤ d7 ∧ d7 < ((x4).length : Int) then (if (gd x2 d7) = (gd x4 d7) then some (.inl (IntKind.wrap .i64 (d7 + (1 : Int)))) else some (.inr d7)) else none) else none) else some (.inr d7)) else some (.inr d7))
noncomputable def F69.m (x2 : List Int) (x4 : List Int) : Option Int :=
  ((loop (F69.b1 x2 x4) (0 : Int)).bind fun y => match y with | d6 => F69.j1 (d6))
set_option maxRecDepth 100000 in
set_option maxHeartbeats 4000000 in
theorem F69.spec (s1 : SlV) (s3 : SlV) (x2 : List Int) (x4 : List Int) (r : Int) (hm : F69.m x2 x4 = some r) :
    Ctr Try.prog false 69 [s1.v, s3.v] [Asr.vw (Enc.int .u8) (s1.v) x2, Asr.vw (Enc.int .u8) (s3.v) x4] (fun v L' => v = .int .i64 r ∧ L' = []) := by
  refine Ctr.intro (n := 30) (env := [(0, s1.v), (1, s3.v)]) Try.func69 rfl rfl rfl rfl (fun c => ?_)
  unfold F69.m at hm
  refine JC.seq ?_
  refine JC.region ?_
  refine JL.val (v := .int .i64 (0 : Int)) (QV.assign rfl) rfl rfl rfl ?_
  refine JL.nil ?_
  refine QJ.then_normal ?_
  refine JC.seq ?_
  refine JC.region ?_
  refine JL.val (v := .int .i64 (0 : Int)) (QV.assign rfl) rfl rfl rfl ?_
  refine JL.nil ?_
  refine QJ.then_normal ?_
  refine JC.seq ?_
  refine JC.cutK (Y := Int × Unit) (fun y => match y with | (d6, _) => F69.j1 (d6) = some r) (fun y => match y with | (d6, _) => [(5, .int .i64 d6)]) (fun y => match y with | (d6, _) => []) ?_ ?_
  ·
    rintro ⟨d6, ⟨⟩⟩ hm
    unfold F69.j1 at hm
    show QJ _ _ [(5, .int .i64 d6)] [] _ _
    refine QJ.then_normal ?_
    refine JC.seq ?_
    refine JC.region ?_
    refine JL.val (v := .int .i64 d6) (QV.move rfl) rfl rfl rfl ?_
    refine JL.val (v := .int .i64 d6) (QV.assign rfl) rfl rfl rfl ?_
    refine JL.nil ?_
    refine QJ.then_normal ?_
    refine JC.ret ?_
    obtain rfl := Option.some.inj hm
    exact QJ.body (vs := [.int .i64 d6]) (.inl rfl) rfl (ResVs.cons (ResV.tmp rfl) ResVs.nil) [] rfl rfl (.inr trivial) ⟨rfl, rfl⟩
  ·
    refine JC.block ?_
    obtain ⟨y9, hl10, hmo11⟩ := bind_inv hm
    refine JC.loop (F69.b1 x2 x4) (fun x z => match x, z with | d7, _ => [(0, s1.v), (1, s3.v), (5, .int .i64 d7)]) (fun x z => match x, z with | d7, _ => [Asr.vw (Enc.int .u8) (s1.v) x2, Asr.vw (Enc.int .u8) (s3.v) x4]) (0 : Int) () y9 hl10 [0, 1] (by exact ⟨rfl, rfl, rfl, trivial⟩) rfl rfl ?_
    rintro d7 ⟨⟩ s12 hm
    unfold F69.b1 at hm
    dsimp only at hm
    show JC _ _ _ [(0, s1.v), (1, s3.v), (5, .int .i64 d7)] [Asr.vw (Enc.int .u8) (s1.v) x2, Asr.vw (Enc.int .u8) (s3.v) x4] _ _
    refine JC.seq ?_
    refine JC.seq ?_
    refine JC.regionT [Asr.vw (Enc.int .u8) (s1.v) x2, Asr.vw (Enc.int .u8) (s3.v) x4] (fun t => false) [(0, true), (1, false), (2, false), (3, false), (4, false), (5, true), (6, false), (7, false), (8, false), (9, false), (10, false), (11, true), (12, true), (13, true), (14, true), (15, true), (16, false), (17, false), (18, false), (19, false), (20, false)] (by kernel_rfl) (by kernel_rfl) (by kernel_rfl) rfl (fun hsel => ?_)
    refine JT.take (i := 0) (v := .int .i64 d7) hsel rfl (QV.move rfl) rfl rfl rfl [0, 1] rfl rfl ?_
    refine JT.only (i := 1) (d := some 7) rfl (MV.ofQV (v := s1.v) (QV.move rfl)) rfl rfl rfl ?_
    rintro _ _ ⟨rfl, rfl⟩
    refine ⟨fun _ => ⟨[0, 1], rfl, rfl⟩, ?_⟩
    refine JT.only (i := 2) (d := some 8) rfl (MV.ofQV (v := .int .i64 ((x2).length : Int)) (QV.len (Rdg.vw 0 rfl) Try.underlying23 rfl)) rfl rfl rfl ?_
    rintro _ _ ⟨rfl, rfl⟩
    refine ⟨fun _ => ⟨[0, 1], rfl, rfl⟩, ?_⟩
    refine JT.only (i := 3) (d := some 9) rfl (MV.ofQV (v := .bool (decide (d7 < ((x2).length : Int)))) (QV.lss rfl rfl)) rfl rfl rfl ?_
    rintro _ _ ⟨rfl, rfl⟩
    refine ⟨fun _ => ⟨[0, 1], rfl, rfl⟩, ?_⟩
    rcases ite_inv hm with ⟨h13, hm⟩ | ⟨h13, hm⟩
    ·
      refine JT.only (i := 4) (d := some 10) rfl (MV.ofQV (v := .bool true) (QV.eq (QV.move rfl) (congrArg Value.bool (decide_eq_true h13)))) rfl rfl rfl ?_
      rintro _ _ ⟨rfl, rfl⟩
      refine ⟨fun _ => ⟨[0, 1], rfl, rfl⟩, ?_⟩
      refine JT.take (i := 5) (v := .int .i64 d7) hsel rfl (QV.move rfl) rfl rfl rfl [0, 1] rfl rfl ?_
      refine JT.only (i := 6) (d := some 12) rfl (MV.ofQV (v := s3.v) (QV.move rfl)) rfl rfl rfl ?_
      rintro _ _ ⟨rfl, rfl⟩
      refine ⟨fun _ => ⟨[0, 1], rfl, rfl⟩, ?_⟩
      refine JT.only (i := 7) (d := some 13) rfl (MV.ofQV (v := .int .i64 ((x4).length : Int)) (QV.len (Rdg.vw 1 rfl) Try.underlying23 rfl)) rfl rfl rfl ?_
      rintro _ _ ⟨rfl, rfl⟩
      refine ⟨fun _ => ⟨[0, 1], rfl, rfl⟩, ?_⟩
      refine JT.only (i := 8) (d := some 14) rfl (MV.ofQV (v := .bool (decide (d7 < ((x4).length : Int)))) (QV.lss rfl rfl)) rfl rfl rfl ?_
      rintro _ _ ⟨rfl, rfl⟩
      refine ⟨fun _ => ⟨[0, 1], rfl, rfl⟩, ?_⟩
      refine JT.only (i := 9) (d := some 15) rfl (MV.ofQV (v := .bool (decide (d7 < ((x4).length : Int)))) (QV.pickT rfl rfl)) rfl rfl rfl ?_
      rintro _ _ ⟨rfl, rfl⟩
      refine ⟨fun _ => ⟨[0, 1], rfl, rfl⟩, ?_⟩
      rcases ite_inv hm with ⟨h14, hm⟩ | ⟨h14, hm⟩
      ·
        refine JT.only (i := 10) (d := some 16) rfl (MV.ofQV (v := .bool true) (QV.eq (QV.move rfl) (congrArg Value.bool (decide_eq_true h14)))) rfl rfl rfl ?_
        rintro _ _ ⟨rfl, rfl⟩
        refine ⟨fun _ => ⟨[0, 1], rfl, rfl⟩, ?_⟩
        refine JT.take (i := 11) (v := s1.v) hsel rfl (QV.move rfl) rfl rfl rfl [0, 1] rfl rfl ?_
        refine JT.take (i := 12) (v := .int .i64 d7) hsel rfl (QV.move rfl) rfl rfl rfl [0, 1] rfl rfl ?_
        obtain ⟨h15, hm⟩ := guard_inv hm
        refine JT.take (i := 13) (v := .pointer (some (elA (s1.v) (Int.toNat d7 * ((Enc.int .u8)).sz)))) hsel rfl (QV.indexA (Rdg.vw 0 rfl) Try.underlying23 tk_5 rfl rfl h15) rfl rfl rfl [0, 1] rfl rfl ?_
        refine JT.take (i := 14) (v := .int .u8 (gd x2 d7)) hsel rfl (QV.el1 (Rdg.vw 0 rfl) tk_5 rfl h15 rfl) rfl rfl rfl [0, 1] rfl rfl ?_
        refine JT.take (i := 15) (v := s3.v) hsel rfl (QV.move rfl) rfl rfl rfl [0, 1] rfl rfl ?_
        refine JT.only (i := 16) (d := some 22) rfl (MV.ofQV (v := .int .i64 d7) (QV.move rfl)) rfl rfl rfl ?_
        rintro _ _ ⟨rfl, rfl⟩
        refine ⟨fun _ => ⟨[0, 1], rfl, rfl⟩, ?_⟩
        obtain ⟨h16, hm⟩ := guard_inv hm
        refine JT.only (i := 17) (d := some 23) rfl (MV.ofQV (v := .pointer (some (elA (s3.v) (Int.toNat d7 * ((Enc.int .u8)).sz)))) (QV.indexA (Rdg.vw 1 rfl) Try.underlying23 tk_5 rfl rfl h16)) rfl rfl rfl ?_
        rintro _ _ ⟨rfl, rfl⟩
        refine ⟨fun _ => ⟨[0, 1], rfl, rfl⟩, ?_⟩
        refine JT.only (i := 18) (d := some 24) rfl (MV.ofQV (v := .int .u8 (gd x4 d7)) (QV.el1 (Rdg.vw 1 rfl) tk_5 rfl h16 rfl)) rfl rfl rfl ?_
        rintro _ _ ⟨rfl, rfl⟩
        refine ⟨fun _ => ⟨[0, 1], rfl, rfl⟩, ?_⟩
        refine JT.only (i := 19) (d := some 25) rfl (MV.ofQV (v := .bool (decide ((gd x2 d7) = (gd x4 d7)))) (QV.eql rfl rfl)) rfl rfl rfl ?_
        rintro _ _ ⟨rfl, rfl⟩
        refine ⟨fun _ => ⟨[0, 1], rfl, rfl⟩, ?_⟩
        refine JT.only (i := 20) (d := some 26) rfl (MV.ofQV (v := .bool (decide ((gd x2 d7) = (gd x4 d7)))) (QV.pickT rfl rfl)) rfl rfl rfl ?_
        rintro _ _ ⟨rfl, rfl⟩
        refine ⟨fun _ => ⟨[0, 1], rfl, rfl⟩, ?_⟩
        refine JT.nil ?_
        refine QJ.then_normal ?_
        rcases ite_inv hm with ⟨h17, hm⟩ | ⟨h17, hm⟩
        ·
          refine JC.condT' rfl (decide_eq_true h17) ?_
          refine JC.skip ?_
          refine QJ.then_normal ?_
          refine JC.block ?_
          refine JC.region ?_
          refine JL.val (v := .int .i64 d7) (QV.move rfl) rfl rfl rfl ?_
          refine JL.val (v := .int .i64 (IntKind.wrap .i64 (d7 + (1 : Int)))) (QV.add rfl rfl) rfl rfl rfl ?_
          refine JL.val (v := .int .i64 (IntKind.wrap .i64 (d7 + (1 : Int)))) (QV.assign rfl) rfl rfl rfl ?_
          refine JL.nil ?_
          refine QJ.block_normal ?_
          obtain rfl := Option.some.inj hm
          exact QJ.round_on (IntKind.wrap .i64 (d7 + (1 : Int))) () [0, 1] (by exact ⟨rfl, rfl, rfl, trivial⟩) rfl rfl
        ·
          refine JC.condF' rfl (decide_eq_false h17) ?_
          refine JC.exit ?_
          refine QJ.then_exit ?_
          obtain rfl := Option.some.inj hm
          refine QJ.round_exit (fun hy => ?_)
          subst hy
          refine QJ.block_hit ?_
          exact QJ.cut_normal (d7, ()) hmo11 [] (by exact ⟨rfl, trivial⟩) rfl rfl
      ·
        refine JT.only (i := 10) (d := some 16) rfl (MV.ofQV (v := .bool false) (QV.eq (QV.move rfl) (congrArg Value.bool (decide_eq_false h14)))) rfl rfl rfl ?_
        rintro _ _ ⟨rfl, rfl⟩
        refine ⟨fun _ => ⟨[0, 1], rfl, rfl⟩, ?_⟩
        refine JT.skip (i := 11) (d := some 17) hsel rfl rfl rfl rfl [0, 1] rfl rfl ?_
        refine JT.skip (i := 12) (d := some 18) hsel rfl rfl rfl rfl [0, 1] rfl rfl ?_
        refine JT.skip (i := 13) (d := some 19) hsel rfl rfl rfl rfl [0, 1] rfl rfl ?_
        refine JT.skip (i := 14) (d := some 20) hsel rfl rfl rfl rfl [0, 1] rfl rfl ?_
        refine JT.skip (i := 15) (d := some 21) hsel rfl rfl rfl rfl [0, 1] rfl rfl ?_
        refine JT.skipO (i := 16) (d := some 22) rfl rfl rfl rfl [0, 1] rfl rfl ?_
        refine JT.skipO (i := 17) (d := some 23) rfl rfl rfl rfl [0, 1] rfl rfl ?_
        refine JT.skipO (i := 18) (d := some 24) rfl rfl rfl rfl [0, 1] rfl rfl ?_
        refine JT.skipO (i := 19) (d := some 25) rfl rfl rfl rfl [0, 1] rfl rfl ?_
        refine JT.only (i := 20) (d := some 26) rfl (MV.ofQV (v := .bool false) (QV.pickF rfl rfl)) rfl rfl rfl ?_
        rintro _ _ ⟨rfl, rfl⟩
        refine ⟨fun _ => ⟨[0, 1], rfl, rfl⟩, ?_⟩
        refine JT.nil ?_
        refine QJ.then_normal ?_
        refine JC.condF rfl ?_
        refine JC.exit ?_
        refine QJ.then_exit ?_
        obtain rfl := Option.some.inj hm
        refine QJ.round_exit (fun hy => ?_)
        subst hy
        refine QJ.block_hit ?_
        exact QJ.cut_normal (d7, ()) hmo11 [] (by exact ⟨rfl, trivial⟩) rfl rfl
    ·
      refine JT.only (i := 4) (d := some 10) rfl (MV.ofQV (v := .bool false) (QV.eq (QV.move rfl) (congrArg Value.bool (decide_eq_false h13)))) rfl rfl rfl ?_
      rintro _ _ ⟨rfl, rfl⟩
      refine ⟨fun _ => ⟨[0, 1], rfl, rfl⟩, ?_⟩
      refine JT.skip (i := 5) (d := some 11) hsel rfl rfl rfl rfl [0, 1] rfl rfl ?_
      refine JT.skipO (i := 6) (d := some 12) rfl rfl rfl rfl [0, 1] rfl rfl ?_
      refine JT.skipO (i := 7) (d := some 13) rfl rfl rfl rfl [0, 1] rfl rfl ?_
      refine JT.skipO (i := 8) (d := some 14) rfl rfl rfl rfl [0, 1] rfl rfl ?_
      refine JT.only (i := 9) (d := some 15) rfl (MV.ofQV (v := .bool false) (QV.pickF rfl rfl)) rfl rfl rfl ?_
      rintro _ _ ⟨rfl, rfl⟩
      refine ⟨fun _ => ⟨[0, 1], rfl, rfl⟩, ?_⟩
      refine JT.only (i := 10) (d := some 16) rfl (MV.ofQV (v := .bool false) (QV.move rfl)) rfl rfl rfl ?_
      rintro _ _ ⟨rfl, rfl⟩
      refine ⟨fun _ => ⟨[0, 1], rfl, rfl⟩, ?_⟩
      refine JT.skip (i := 11) (d := some 17) hsel rfl rfl rfl rfl [0, 1] rfl rfl ?_
      refine JT.skip (i := 12) (d := some 18) hsel rfl rfl rfl rfl [0, 1] rfl rfl ?_
      refine JT.skip (i := 13) (d := some 19) hsel rfl rfl rfl rfl [0, 1] rfl rfl ?_
      refine JT.skip (i := 14) (d := some 20) hsel rfl rfl rfl rfl [0, 1] rfl rfl ?_
      refine JT.skip (i := 15) (d := some 21) hsel rfl rfl rfl rfl [0, 1] rfl rfl ?_
      refine JT.skipO (i := 16) (d := some 22) rfl rfl rfl rfl [0, 1] rfl rfl ?_
      refine JT.skipO (i := 17) (d := some 23) rfl rfl rfl rfl [0, 1] rfl rfl ?_
      refine JT.skipO (i := 18) (d := some 24) rfl rfl rfl rfl [0, 1] rfl rfl ?_
      refine JT.skipO (i := 19) (d := some 25) rfl rfl rfl rfl [0, 1] rfl rfl ?_
      refine JT.only (i := 20) (d := some 26) rfl (MV.ofQV (v := .bool false) (QV.pickF rfl rfl)) rfl rfl rfl ?_
      rintro _ _ ⟨rfl, rfl⟩
      refine ⟨fun _ => ⟨[0, 1], rfl, rfl⟩, ?_⟩
      refine JT.nil ?_
      refine QJ.then_normal ?_
      refine JC.condF rfl ?_
      refine JC.exit ?_
      refine QJ.then_exit ?_
      obtain rfl := Option.some.inj hm
      refine QJ.round_exit (fun hy => ?_)
      subst hy
      refine QJ.block_hit ?_
      exact QJ.cut_normal (d7, ()) hmo11 [] (by exact ⟨rfl, trivial⟩) rfl rfl

/-! ### 52: (*drogher/suffix.Index).Longest -/
noncomputable def F52_1.j1  (d16 : Int) (d17 : Int) : Option (Int × Int) :=
  some (d16, d17)
noncomputable def F52_1.j2 (d20 : Int) (d29 : Int) (d30 : Int) : Option ((Int × Int × Int) ⊕ (Int × Int)) :=
  some (.inl (d29, d30, (IntKind.wrap .i64 (d20 + (1 : Int)))))
noncomputable def F52_1.j3 (d20 : Int) (d38 : Int) (d39 : Int) : Option ((Int × Int × Int) ⊕ (Int × Int)) :=
  F52_1.j2 d20 (d38) (d39)
noncomputable def F52_1.b1 (x3 : List Int) (x5 : List Int) (x7 : List Int) (y13 : Int) : (Int × Int × Int) → Option ((Int × Int × Int) ⊕ (Int × Int))
  | (d18, d19, d20) => (if d20 < (([(IntKind.wrap .i64 (y13 - (1 : Int))), y13]).length : Int) then (if 0 ≤ d20 ∧ d20 < (([(IntKind.wrap .i64 (y13 - (1 : Int))), y13]).length : Int) then (if (gd [(IntKind.wrap .i64 (y13 - (1 : Int))), y13] d20) < (0 : Int) then F52_1.j2 d20 (d18) (d19) else (if ((x5).length : Int) ≤ (gd [(IntKind.wrap .i64 (y13 - (1 : Int))), y13] d20) then F52_1.j2 d20 (d18) (d19) else (if 0 ≤ (gd [(IntKind.wrap .i64 (y13 - (1 : Int))), y13] d20) ∧ (gd [(IntKind.wrap .i64 (y13 - (1 : Int))), y13] d20) < ((x5).length : Int) then (if 0 ≤ (gd x5 (gd [(IntKind.wrap .i64 (y13 - (1 : Int))), y13] d20)) ∧ (gd x5 (gd [(IntKind.wrap .i64 (y13 - (1 : Int))), y13] d20)) ≤ ((x3).length : Int) ∧ ((x3).length : Int) ≤ ((x3).length : Int) then ((F69.m ((subL x3 (gd x5 (gd [(IntKind.wrap .i64 (y13 - (1 : Int))), y13] d20)) ((x3).length : Int))) (x7)).bind fun y36 => (if d19 < y36 then F52_1.j3 d20 ((gd x5 (gd [(IntKind.wrap .i64 (y13 - (1 : Int))), y13] d20))) (y36) else F52_1.j3 d20 (d18) (d19))) else none) else none))) else none) else some (.inr (d18, d19)))
noncomputable def F52_1.m (x3 : List Int) (x5 : List Int) (x7 : List Int) : Option (Int × Int) :=
  (if ((x3).length : Int) = (0 : Int) then some ((0 : Int), (0 : Int)) else ((F66.m (((x5).length : Int)) (x3) (x5) (x7)).bind fun y13 => ((loop (F52_1.b1 x3 x5 x7 y13) ((0 : Int), (0 : Int), (0 : Int))).bind fun y => match y with | (d16, d17) => F52_1.j1 (d16) (d17))))
set_option maxRecDepth 100000 in
set_option maxHeartbeats 4000000 in
theorem F52_1.spec (b1 : Nat) (s2 : SlV) (s4 : SlV) (s6 : SlV) (x3 : List Int) (x5 : List Int) (x7 : List Int) (r : (Int × Int)) (hm : F52_1.m x3 x5 x7 = some r) :
    Ctr Try.prog false 52 [.pointer (some ⟨b1, 0, none⟩), s6.v] [Asr.blk b1 97 [Seg.c (s2.v), Seg.c (s4.v)], Asr.of 5 (Enc.int .u8) (s2.v) x3, Asr.of 3 (Enc.int .i64) (s4.v) x5, Asr.vw (Enc.int .u8) (s6.v) x7] (fun v L' => v = .tuple #[.int .i64 r.1, .int .i64 r.2] ∧ L' = [Asr.of 5 (Enc.int .u8) (s2.v) x3, Asr.of 3 (Enc.int .i64) (s4.v) x5, Asr.blk b1 97 [Seg.c (s2.v), Seg.c (s4.v)]]) := by
  refine Ctr.intro (n := 77) (env := [(0, .pointer (some ⟨b1, 0, none⟩)), (1, s6.v)]) Try.func52 rfl rfl rfl rfl (fun c => ?_)
  unfold F52_1.m at hm
  refine JC.seq ?_
  refine JC.region ?_
  refine JL.mv (d := some 2) (MV.box [Seg.c (.pointer (some ⟨b1, 0, none⟩))] rfl (fun w hs => rfl)) rfl rfl rfl ?_
  rintro _ _ ⟨b10, rfl, rfl⟩
  refine JL.mv (d := some 3) (MV.box [Seg.c (s6.v)] rfl (fun w hs => cells_sl (Rdg.vw 4 rfl) hs)) rfl rfl rfl ?_
  rintro _ _ ⟨b11, rfl, rfl⟩
  refine JL.val (v := .int .i64 (0 : Int)) (QV.assign rfl) rfl rfl rfl ?_
  refine JL.val (v := .int .i64 (0 : Int)) (QV.assign rfl) rfl rfl rfl ?_
  refine JL.nil ?_
  refine QJ.then_normal ?_
  refine JC.seq ?_
  refine JC.seq ?_
  refine JC.region ?_
  refine JL.val (v := .pointer (some ⟨b1, 0, none⟩)) (QV.load1 (ss := [Seg.c (.pointer (some ⟨b1, 0, none⟩))]) 1 0 rfl tk_79 rfl rfl rfl) rfl rfl rfl ?_
  refine JL.val (v := .bool false) ((QV.eq (QV.eqlP Try.underlying79 rfl rfl (.inr rfl)) (by simp))) rfl rfl rfl ?_
  refine JL.val (v := .bool false) (QV.move rfl) rfl rfl rfl ?_
  refine JL.val (v := .pointer (some ⟨b1, 0, none⟩)) (QV.load1 (ss := [Seg.c (.pointer (some ⟨b1, 0, none⟩))]) 1 0 rfl tk_79 rfl rfl rfl) rfl rfl rfl ?_
  refine JL.val (v := .pointer (some ⟨b1, 0, none⟩)) (QV.nilCheck rfl) rfl rfl rfl ?_
  refine JL.val (v := .pointer (some ⟨b1, 0, none⟩)) (QV.fieldB fo_97_0 rfl rfl) rfl rfl rfl ?_
  refine JL.val (v := s2.v) (QV.load1 (ss := [Seg.c (s2.v), Seg.c (s4.v)]) 2 0 rfl tk_23 rfl rfl rfl) rfl rfl rfl ?_
  refine JL.val (v := .int .i64 ((x3).length : Int)) (QV.len (Rdg.of 3 rfl) Try.underlying23 rfl) rfl rfl rfl ?_
  refine JL.val (v := .bool (decide (((x3).length : Int) = (0 : Int)))) (QV.eql rfl rfl) rfl rfl rfl ?_
  refine JL.val (v := .bool (decide (((x3).length : Int) = (0 : Int)))) (QV.pickF rfl rfl) rfl rfl rfl ?_
  refine JL.nil ?_
  refine QJ.then_normal ?_
  rcases ite_inv hm with ⟨h12, hm⟩ | ⟨h12, hm⟩
  ·
    refine JC.condT' rfl (decide_eq_true h12) ?_
    refine JC.seq ?_
    refine JC.region ?_
    refine JL.val (v := .int .i64 (0 : Int)) (QV.assign rfl) rfl rfl rfl ?_
    refine JL.val (v := .int .i64 (0 : Int)) (QV.assign rfl) rfl rfl rfl ?_
    refine JL.nil ?_
    refine QJ.then_normal ?_
    refine JC.ret ?_
    refine QJ.then_ret ?_
    obtain rfl := Option.some.inj hm
    exact QJ.body (vs := [.int .i64 (0 : Int), .int .i64 (0 : Int)]) (.inl rfl) rfl (ResVs.cons (ResV.tmp rfl) (ResVs.cons (ResV.tmp rfl) ResVs.nil)) [3, 4, 2] rfl rfl (.inr ⟨own_of _ _ _ _, own_of _ _ _ _, own_blk _ _ _, trivial⟩) ⟨rfl, rfl⟩
  ·
    refine JC.condF' rfl (decide_eq_false h12) ?_
    refine JC.skip ?_
    refine QJ.then_normal ?_
    refine JC.seq ?_
    refine JC.region ?_
    refine JL.val (v := .pointer (some ⟨b1, 0, none⟩)) (QV.load1 (ss := [Seg.c (.pointer (some ⟨b1, 0, none⟩))]) 1 0 rfl tk_79 rfl rfl rfl) rfl rfl rfl ?_
    refine JL.val (v := .pointer (some ⟨b1, 0, none⟩)) (QV.nilCheck rfl) rfl rfl rfl ?_
    refine JL.val (v := .pointer (some ⟨b1, 1, none⟩)) (QV.fieldB fo_97_1 rfl rfl) rfl rfl rfl ?_
    refine JL.val (v := s4.v) (QV.load1 (ss := [Seg.c (s2.v), Seg.c (s4.v)]) 2 1 rfl tk_94 rfl rfl rfl) rfl rfl rfl ?_
    refine JL.val (v := .int .i64 ((x5).length : Int)) (QV.len (Rdg.of 4 rfl) Try.underlying94 rfl) rfl rfl rfl ?_
    refine JL.val (v := .func (.func 67) #[] #[.pointer (some ⟨b10, 0, none⟩), .pointer (some ⟨b11, 0, none⟩)]) (QV.makeFunc (vals := [.pointer (some ⟨b10, 0, none⟩), .pointer (some ⟨b11, 0, none⟩)]) rfl) rfl rfl rfl ?_
    obtain ⟨y13, hc14, hm⟩ := bind_inv hm
    refine JL.mv (d := some 28) (MV.call (Lo := [Asr.blk b10 79 [Seg.c (.pointer (some ⟨b1, 0, none⟩))], Asr.blk b1 97 [Seg.c (s2.v), Seg.c (s4.v)], Asr.of 5 (Enc.int .u8) (s2.v) x3, Asr.of 3 (Enc.int .i64) (s4.v) x5, Asr.blk b11 23 [Seg.c (s6.v)]]) (Lr := [Asr.vw (Enc.int .u8) (s6.v) x7]) (F66.spec (b10) (b1) (s2) (s4) (b11) (s6) (((x5).length : Int)) (x3) (x5) (x7) _ hc14) rfl Try.func66 rfl rfl rfl [1, 2, 3, 4, 0] [5] rfl rfl rfl ⟨(Drv.vw 0 rfl), trivial⟩) rfl rfl rfl ?_
    rintro _ _ ⟨_, ⟨rfl, rfl⟩, rfl⟩
    refine JL.val (v := .int .i64 y13) (QV.assign rfl) rfl rfl rfl ?_
    refine JL.nil ?_
    refine QJ.then_normal ?_
    refine JC.seq ?_
    refine JC.region ?_
    refine JL.val (v := .int .i64 (0 : Int)) (QV.assign rfl) rfl rfl rfl ?_
    refine JL.val (v := .int .i64 (0 : Int)) (QV.assign rfl) rfl rfl rfl ?_
    refine JL.nil ?_
    refine QJ.then_normal ?_
    refine JC.seq ?_
    refine JC.seq ?_
    refine JC.region ?_
    refine JL.val (v := .int .i64 y13) (QV.move rfl) rfl rfl rfl ?_
    refine JL.val (v := .int .i64 (IntKind.wrap .i64 (y13 - (1 : Int)))) (QV.sub rfl rfl) rfl rfl rfl ?_
    refine JL.val (v := .int .i64 y13) (QV.move rfl) rfl rfl rfl ?_
    refine JL.mv (d := some 32) (MV.lit (E := (Enc.int .i64)) (vals := [(0, .int .i64 (IntKind.wrap .i64 (y13 - (1 : Int)))), (1, .int .i64 y13)]) [(IntKind.wrap .i64 (y13 - (1 : Int))), y13] Try.underlying94 zi_3 rfl (by decide) rfl (by kernel_rfl)) rfl rfl rfl ?_
    rintro _ _ ⟨z15, rfl, rfl⟩
    refine JL.val (v := .int .i64 (([(IntKind.wrap .i64 (y13 - (1 : Int))), y13]).length : Int)) (QV.len (Rdg.of 0 rfl) Try.underlying94 rfl) rfl rfl rfl ?_
    refine JL.val (v := .int .i64 (0 : Int)) (QV.move rfl) rfl rfl rfl ?_
    refine JL.nil ?_
    refine QJ.then_normal ?_
    refine JC.cutK (Y := (Int × Int) × Unit) (fun y => match y with | ((d16, d17), _) => F52_1.j1 (d16) (d17) = some r) (fun y => match y with | ((d16, d17), _) => [(7, .int .i64 d16), (8, .int .i64 d17)]) (fun y => match y with | ((d16, d17), _) => [Asr.of 5 (Enc.int .u8) (s2.v) x3, Asr.of 3 (Enc.int .i64) (s4.v) x5, Asr.blk b1 97 [Seg.c (s2.v), Seg.c (s4.v)]]) ?_ ?_
    ·
      rintro ⟨⟨d16, d17⟩, ⟨⟩⟩ hm
      unfold F52_1.j1 at hm
      show QJ _ _ [(7, .int .i64 d16), (8, .int .i64 d17)] [Asr.of 5 (Enc.int .u8) (s2.v) x3, Asr.of 3 (Enc.int .i64) (s4.v) x5, Asr.blk b1 97 [Seg.c (s2.v), Seg.c (s4.v)]] _ _
      refine QJ.then_normal ?_
      refine JC.seq ?_
      refine JC.region ?_
      refine JL.val (v := .int .i64 d16) (QV.move rfl) rfl rfl rfl ?_
      refine JL.val (v := .int .i64 d17) (QV.move rfl) rfl rfl rfl ?_
      refine JL.val (v := .int .i64 d16) (QV.assign rfl) rfl rfl rfl ?_
      refine JL.val (v := .int .i64 d17) (QV.assign rfl) rfl rfl rfl ?_
      refine JL.nil ?_
      refine QJ.then_normal ?_
      refine JC.ret ?_
      obtain rfl := Option.some.inj hm
      exact QJ.body (vs := [.int .i64 d16, .int .i64 d17]) (.inl rfl) rfl (ResVs.cons (ResV.tmp rfl) (ResVs.cons (ResV.tmp rfl) ResVs.nil)) [0, 1, 2] rfl rfl (.inr ⟨own_of _ _ _ _, own_of _ _ _ _, own_blk _ _ _, trivial⟩) ⟨rfl, rfl⟩
    ·
      refine JC.block ?_
      obtain ⟨y24, hl25, hmo26⟩ := bind_inv hm
      refine JC.loop (F52_1.b1 x3 x5 x7 y13) (fun x z => match x, z with | (d18, d19, d20), _ => [(2, .pointer (some ⟨b10, 0, none⟩)), (3, .pointer (some ⟨b11, 0, none⟩)), (7, .int .i64 d18), (8, .int .i64 d19), (32, z15.v), (33, .int .i64 (([(IntKind.wrap .i64 (y13 - (1 : Int))), y13]).length : Int)), (34, .int .i64 d20)]) (fun x z => match x, z with | (d18, d19, d20), _ => [Asr.of 5 (Enc.int .u8) (s2.v) x3, Asr.of 3 (Enc.int .i64) (s4.v) x5, Asr.blk b1 97 [Seg.c (s2.v), Seg.c (s4.v)], Asr.blk b10 79 [Seg.c (.pointer (some ⟨b1, 0, none⟩))], Asr.vw (Enc.int .u8) (s6.v) x7, Asr.blk b11 23 [Seg.c (s6.v)], Asr.of 3 (Enc.int .i64) (z15.v) [(IntKind.wrap .i64 (y13 - (1 : Int))), y13]]) ((0 : Int), (0 : Int), (0 : Int)) () y24 hl25 [1, 2, 3, 4, 5, 6, 0] (by exact ⟨rfl, rfl, rfl, rfl, rfl, rfl, rfl, trivial⟩) rfl rfl ?_
      rintro ⟨d18, d19, d20⟩ ⟨⟩ s27 hm
      unfold F52_1.b1 at hm
      dsimp only at hm
      show JC _ _ _ [(2, .pointer (some ⟨b10, 0, none⟩)), (3, .pointer (some ⟨b11, 0, none⟩)), (7, .int .i64 d18), (8, .int .i64 d19), (32, z15.v), (33, .int .i64 (([(IntKind.wrap .i64 (y13 - (1 : Int))), y13]).length : Int)), (34, .int .i64 d20)] [Asr.of 5 (Enc.int .u8) (s2.v) x3, Asr.of 3 (Enc.int .i64) (s4.v) x5, Asr.blk b1 97 [Seg.c (s2.v), Seg.c (s4.v)], Asr.blk b10 79 [Seg.c (.pointer (some ⟨b1, 0, none⟩))], Asr.vw (Enc.int .u8) (s6.v) x7, Asr.blk b11 23 [Seg.c (s6.v)], Asr.of 3 (Enc.int .i64) (z15.v) [(IntKind.wrap .i64 (y13 - (1 : Int))), y13]] _ _
      refine JC.seq ?_
      refine JC.region ?_
      refine JL.val (v := .bool (decide (d20 < (([(IntKind.wrap .i64 (y13 - (1 : Int))), y13]).length : Int)))) (QV.lss rfl rfl) rfl rfl rfl ?_
      refine JL.nil ?_
      refine QJ.then_normal ?_
      refine JC.seq ?_
      rcases ite_inv hm with ⟨h28, hm⟩ | ⟨h28, hm⟩
      ·
        refine JC.condT' rfl (decide_eq_true h28) ?_
        refine JC.skip ?_
        refine QJ.then_normal ?_
        refine JC.seq ?_
        refine JC.cutK (Y := (Int × Int) × Unit) (fun y => match y with | ((d29, d30), _) => F52_1.j2 d20 (d29) (d30) = some s27) (fun y => match y with | ((d29, d30), _) => [(2, .pointer (some ⟨b10, 0, none⟩)), (3, .pointer (some ⟨b11, 0, none⟩)), (7, .int .i64 d29), (8, .int .i64 d30), (32, z15.v), (33, .int .i64 (([(IntKind.wrap .i64 (y13 - (1 : Int))), y13]).length : Int)), (34, .int .i64 d20)]) (fun y => match y with | ((d29, d30), _) => [Asr.of 5 (Enc.int .u8) (s2.v) x3, Asr.of 3 (Enc.int .i64) (s4.v) x5, Asr.blk b1 97 [Seg.c (s2.v), Seg.c (s4.v)], Asr.blk b10 79 [Seg.c (.pointer (some ⟨b1, 0, none⟩))], Asr.vw (Enc.int .u8) (s6.v) x7, Asr.blk b11 23 [Seg.c (s6.v)], Asr.of 3 (Enc.int .i64) (z15.v) [(IntKind.wrap .i64 (y13 - (1 : Int))), y13]]) ?_ ?_
        ·
          rintro ⟨⟨d29, d30⟩, ⟨⟩⟩ hm
          unfold F52_1.j2 at hm
          show QJ _ _ [(2, .pointer (some ⟨b10, 0, none⟩)), (3, .pointer (some ⟨b11, 0, none⟩)), (7, .int .i64 d29), (8, .int .i64 d30), (32, z15.v), (33, .int .i64 (([(IntKind.wrap .i64 (y13 - (1 : Int))), y13]).length : Int)), (34, .int .i64 d20)] [Asr.of 5 (Enc.int .u8) (s2.v) x3, Asr.of 3 (Enc.int .i64) (s4.v) x5, Asr.blk b1 97 [Seg.c (s2.v), Seg.c (s4.v)], Asr.blk b10 79 [Seg.c (.pointer (some ⟨b1, 0, none⟩))], Asr.vw (Enc.int .u8) (s6.v) x7, Asr.blk b11 23 [Seg.c (s6.v)], Asr.of 3 (Enc.int .i64) (z15.v) [(IntKind.wrap .i64 (y13 - (1 : Int))), y13]] _ _
          refine QJ.then_normal ?_
          refine JC.region ?_
          refine JL.val (v := .int .i64 (IntKind.wrap .i64 (d20 + (1 : Int)))) (QV.add rfl rfl) rfl rfl rfl ?_
          refine JL.val (v := .int .i64 (IntKind.wrap .i64 (d20 + (1 : Int)))) (QV.move rfl) rfl rfl rfl ?_
          refine JL.nil ?_
          obtain rfl := Option.some.inj hm
          exact QJ.round_on (d29, d30, (IntKind.wrap .i64 (d20 + (1 : Int)))) () [0, 1, 2, 3, 4, 5, 6] (by exact ⟨rfl, rfl, rfl, rfl, rfl, rfl, rfl, trivial⟩) rfl rfl
        ·
          refine JC.block ?_
          refine JC.seq ?_
          refine JC.region ?_
          obtain ⟨h31, hm⟩ := guard_inv hm
          refine JL.val (v := .pointer (some (elA (z15.v) (Int.toNat d20 * ((Enc.int .i64)).sz)))) (QV.indexA (Rdg.of 6 rfl) Try.underlying94 tk_3 rfl rfl h31) rfl rfl rfl ?_
          refine JL.val (v := .int .i64 (gd [(IntKind.wrap .i64 (y13 - (1 : Int))), y13] d20)) (QV.el1 (Rdg.of 6 rfl) tk_3 rfl h31 rfl) rfl rfl rfl ?_
          refine JL.val (v := .int .i64 (gd [(IntKind.wrap .i64 (y13 - (1 : Int))), y13] d20)) (QV.assign rfl) rfl rfl rfl ?_
          refine JL.nil ?_
          refine QJ.then_normal ?_
          refine JC.seq ?_
          refine JC.seq ?_
          refine JC.region ?_
          refine JL.val (v := .int .i64 (gd [(IntKind.wrap .i64 (y13 - (1 : Int))), y13] d20)) (QV.move rfl) rfl rfl rfl ?_
          refine JL.val (v := .bool (decide ((gd [(IntKind.wrap .i64 (y13 - (1 : Int))), y13] d20) < (0 : Int)))) (QV.lss rfl rfl) rfl rfl rfl ?_
          rcases ite_inv hm with ⟨h32, hm⟩ | ⟨h32, hm⟩
          ·
            refine JL.val (v := .bool true) (QV.eq (QV.move rfl) (congrArg Value.bool (decide_eq_true h32))) rfl rfl rfl ?_
            refine JL.skip (d := some 41) rfl rfl rfl ?_
            refine JL.skip (d := some 42) rfl rfl rfl ?_
            refine JL.skip (d := some 43) rfl rfl rfl ?_
            refine JL.skip (d := some 44) rfl rfl rfl ?_
            refine JL.skip (d := some 45) rfl rfl rfl ?_
            refine JL.skip (d := some 46) rfl rfl rfl ?_
            refine JL.skip (d := some 47) rfl rfl rfl ?_
            refine JL.val (v := .bool true) (QV.pickT rfl rfl) rfl rfl rfl ?_
            refine JL.nil ?_
            refine QJ.then_normal ?_
            refine JC.condT rfl ?_
            refine JC.exit ?_
            refine QJ.then_exit ?_
            refine QJ.block_hit ?_
            exact QJ.cut_normal ((d18, d19), ()) hm [0, 1, 2, 3, 4, 5, 6] (by exact ⟨rfl, rfl, rfl, rfl, rfl, rfl, rfl, trivial⟩) rfl rfl
          ·
            refine JL.val (v := .bool false) (QV.eq (QV.move rfl) (congrArg Value.bool (decide_eq_false h32))) rfl rfl rfl ?_
            refine JL.val (v := .int .i64 (gd [(IntKind.wrap .i64 (y13 - (1 : Int))), y13] d20)) (QV.move rfl) rfl rfl rfl ?_
            refine JL.val (v := .pointer (some ⟨b1, 0, none⟩)) (QV.load1 (ss := [Seg.c (.pointer (some ⟨b1, 0, none⟩))]) 3 0 rfl tk_79 rfl rfl rfl) rfl rfl rfl ?_
            refine JL.val (v := .pointer (some ⟨b1, 0, none⟩)) (QV.nilCheck rfl) rfl rfl rfl ?_
            refine JL.val (v := .pointer (some ⟨b1, 1, none⟩)) (QV.fieldB fo_97_1 rfl rfl) rfl rfl rfl ?_
            refine JL.val (v := s4.v) (QV.load1 (ss := [Seg.c (s2.v), Seg.c (s4.v)]) 2 1 rfl tk_94 rfl rfl rfl) rfl rfl rfl ?_
            refine JL.val (v := .int .i64 ((x5).length : Int)) (QV.len (Rdg.of 1 rfl) Try.underlying94 rfl) rfl rfl rfl ?_
            refine JL.val (v := .bool (decide (((x5).length : Int) ≤ (gd [(IntKind.wrap .i64 (y13 - (1 : Int))), y13] d20)))) (QV.geq rfl rfl) rfl rfl rfl ?_
            refine JL.val (v := .bool (decide (((x5).length : Int) ≤ (gd [(IntKind.wrap .i64 (y13 - (1 : Int))), y13] d20)))) (QV.pickF rfl rfl) rfl rfl rfl ?_
            refine JL.nil ?_
            refine QJ.then_normal ?_
            rcases ite_inv hm with ⟨h33, hm⟩ | ⟨h33, hm⟩
            ·
              refine JC.condT' rfl (decide_eq_true h33) ?_
              refine JC.exit ?_
              refine QJ.then_exit ?_
              refine QJ.block_hit ?_
              exact QJ.cut_normal ((d18, d19), ()) hm [0, 1, 2, 3, 4, 5, 6] (by exact ⟨rfl, rfl, rfl, rfl, rfl, rfl, rfl, trivial⟩) rfl rfl
            ·
              refine JC.condF' rfl (decide_eq_false h33) ?_
              refine JC.skip ?_
              refine QJ.then_normal ?_
              refine JC.seq ?_
              refine JC.regionT [Asr.of 5 (Enc.int .u8) (s2.v) x3, Asr.of 3 (Enc.int .i64) (s4.v) x5, Asr.blk b1 97 [Seg.c (s2.v), Seg.c (s4.v)], Asr.blk b10 79 [Seg.c (.pointer (some ⟨b1, 0, none⟩))], Asr.vw (Enc.int .u8) (s6.v) x7, Asr.blk b11 23 [Seg.c (s6.v)], Asr.of 3 (Enc.int .i64) (z15.v) [(IntKind.wrap .i64 (y13 - (1 : Int))), y13]] (fun t => false) [(0, true), (1, true), (2, true), (3, true), (4, true), (5, true), (6, true), (7, true), (8, true), (9, true), (10, true), (11, true), (12, false), (13, false), (14, false)] (by kernel_rfl) (by kernel_rfl) (by kernel_rfl) rfl (fun hsel => ?_)
              refine JT.take (i := 0) (v := .pointer (some ⟨b1, 0, none⟩)) hsel rfl (QV.load1 (ss := [Seg.c (.pointer (some ⟨b1, 0, none⟩))]) 3 0 rfl tk_79 rfl rfl rfl) rfl rfl rfl [0, 1, 2, 3, 4, 5, 6] rfl rfl ?_
              refine JT.take (i := 1) (v := .pointer (some ⟨b1, 0, none⟩)) hsel rfl (QV.nilCheck rfl) rfl rfl rfl [0, 1, 2, 3, 4, 5, 6] rfl rfl ?_
              refine JT.take (i := 2) (v := .pointer (some ⟨b1, 0, none⟩)) hsel rfl (QV.fieldB fo_97_0 rfl rfl) rfl rfl rfl [0, 1, 2, 3, 4, 5, 6] rfl rfl ?_
              refine JT.take (i := 3) (v := s2.v) hsel rfl (QV.load1 (ss := [Seg.c (s2.v), Seg.c (s4.v)]) 2 0 rfl tk_23 rfl rfl rfl) rfl rfl rfl [0, 1, 2, 3, 4, 5, 6] rfl rfl ?_
              refine JT.take (i := 4) (v := .pointer (some ⟨b1, 0, none⟩)) hsel rfl (QV.load1 (ss := [Seg.c (.pointer (some ⟨b1, 0, none⟩))]) 3 0 rfl tk_79 rfl rfl rfl) rfl rfl rfl [0, 1, 2, 3, 4, 5, 6] rfl rfl ?_
              refine JT.take (i := 5) (v := .pointer (some ⟨b1, 0, none⟩)) hsel rfl (QV.nilCheck rfl) rfl rfl rfl [0, 1, 2, 3, 4, 5, 6] rfl rfl ?_
              refine JT.take (i := 6) (v := .pointer (some ⟨b1, 1, none⟩)) hsel rfl (QV.fieldB fo_97_1 rfl rfl) rfl rfl rfl [0, 1, 2, 3, 4, 5, 6] rfl rfl ?_
              refine JT.take (i := 7) (v := s4.v) hsel rfl (QV.load1 (ss := [Seg.c (s2.v), Seg.c (s4.v)]) 2 1 rfl tk_94 rfl rfl rfl) rfl rfl rfl [0, 1, 2, 3, 4, 5, 6] rfl rfl ?_
              refine JT.take (i := 8) (v := .int .i64 (gd [(IntKind.wrap .i64 (y13 - (1 : Int))), y13] d20)) hsel rfl (QV.move rfl) rfl rfl rfl [0, 1, 2, 3, 4, 5, 6] rfl rfl ?_
              obtain ⟨h34, hm⟩ := guard_inv hm
              refine JT.take (i := 9) (v := .pointer (some (elA (s4.v) (Int.toNat (gd [(IntKind.wrap .i64 (y13 - (1 : Int))), y13] d20) * ((Enc.int .i64)).sz)))) hsel rfl (QV.indexA (Rdg.of 1 rfl) Try.underlying94 tk_3 rfl rfl h34) rfl rfl rfl [0, 1, 2, 3, 4, 5, 6] rfl rfl ?_
              refine JT.take (i := 10) (v := .int .i64 (gd x5 (gd [(IntKind.wrap .i64 (y13 - (1 : Int))), y13] d20))) hsel rfl (QV.el1 (Rdg.of 1 rfl) tk_3 rfl h34 rfl) rfl rfl rfl [0, 1, 2, 3, 4, 5, 6] rfl rfl ?_
              obtain ⟨h35, hm⟩ := guard_inv hm
              refine JT.take (i := 11) (v := (SlV.sub ((Enc.int .u8)).sz s2 (gd x5 (gd [(IntKind.wrap .i64 (y13 - (1 : Int))), y13] d20)) ((x3).length : Int)).v) hsel rfl (QV.sliceV (Rdg.of 0 rfl) Try.underlying23 tk_5 rfl rfl rfl h35) rfl rfl rfl [0, 1, 2, 3, 4, 5, 6] rfl rfl ?_
              refine JT.only (i := 12) (d := some 61) rfl (MV.ofQV (v := s6.v) (QV.load1 (ss := [Seg.c (s6.v)]) 5 0 rfl tk_23 rfl rfl rfl)) rfl rfl rfl ?_
              rintro _ _ ⟨rfl, rfl⟩
              refine ⟨fun _ => ⟨[0, 1, 2, 3, 4, 5, 6], rfl, rfl⟩, ?_⟩
              obtain ⟨y36, hc37, hm⟩ := bind_inv hm
              refine JT.only (i := 13) (d := some 62) rfl (MV.call (Lo := []) (Lr := [Asr.of 5 (Enc.int .u8) (s2.v) x3, Asr.of 3 (Enc.int .i64) (s4.v) x5, Asr.blk b1 97 [Seg.c (s2.v), Seg.c (s4.v)], Asr.blk b10 79 [Seg.c (.pointer (some ⟨b1, 0, none⟩))], Asr.vw (Enc.int .u8) (s6.v) x7, Asr.blk b11 23 [Seg.c (s6.v)], Asr.of 3 (Enc.int .i64) (z15.v) [(IntKind.wrap .i64 (y13 - (1 : Int))), y13]]) (F69.spec ((SlV.sub ((Enc.int .u8)).sz s2 (gd x5 (gd [(IntKind.wrap .i64 (y13 - (1 : Int))), y13] d20)) ((x3).length : Int))) (s6) ((subL x3 (gd x5 (gd [(IntKind.wrap .i64 (y13 - (1 : Int))), y13] d20)) ((x3).length : Int))) (x7) _ hc37) rfl Try.func69 rfl rfl rfl [] [0, 1, 2, 3, 4, 5, 6] rfl rfl rfl ⟨((Drv.of 0 rfl).subV h35), ⟨(Drv.vw 4 rfl), trivial⟩⟩) rfl rfl rfl ?_
              rintro _ _ ⟨_, ⟨rfl, rfl⟩, rfl⟩
              refine ⟨fun _ => ⟨[0, 1, 2, 3, 4, 5, 6], rfl, rfl⟩, ?_⟩
              refine JT.only (i := 14) (d := some 11) rfl (MV.ofQV (v := .int .i64 y36) (QV.assign rfl)) rfl rfl rfl ?_
              rintro _ _ ⟨rfl, rfl⟩
              refine ⟨fun _ => ⟨[0, 1, 2, 3, 4, 5, 6], rfl, rfl⟩, ?_⟩
              refine JT.nil ?_
              refine QJ.then_normal ?_
              refine JC.seq ?_
              refine JC.region ?_
              refine JL.val (v := .int .i64 y36) (QV.move rfl) rfl rfl rfl ?_
              refine JL.val (v := .int .i64 d19) (QV.move rfl) rfl rfl rfl ?_
              refine JL.val (v := .bool (decide (d19 < y36))) (QV.gtr rfl rfl) rfl rfl rfl ?_
              refine JL.nil ?_
              refine QJ.then_normal ?_
              refine JC.cutK (Y := (Int × Int) × Unit) (fun y => match y with | ((d38, d39), _) => F52_1.j3 d20 (d38) (d39) = some s27) (fun y => match y with | ((d38, d39), _) => [(2, .pointer (some ⟨b10, 0, none⟩)), (3, .pointer (some ⟨b11, 0, none⟩)), (7, .int .i64 d38), (8, .int .i64 d39), (32, z15.v), (33, .int .i64 (([(IntKind.wrap .i64 (y13 - (1 : Int))), y13]).length : Int)), (34, .int .i64 d20)]) (fun y => match y with | ((d38, d39), _) => [Asr.of 5 (Enc.int .u8) (s2.v) x3, Asr.of 3 (Enc.int .i64) (s4.v) x5, Asr.blk b1 97 [Seg.c (s2.v), Seg.c (s4.v)], Asr.blk b10 79 [Seg.c (.pointer (some ⟨b1, 0, none⟩))], Asr.vw (Enc.int .u8) (s6.v) x7, Asr.blk b11 23 [Seg.c (s6.v)], Asr.of 3 (Enc.int .i64) (z15.v) [(IntKind.wrap .i64 (y13 - (1 : Int))), y13]]) ?_ ?_
              ·
                rintro ⟨⟨d38, d39⟩, ⟨⟩⟩ hm
                unfold F52_1.j3 at hm
                show QJ _ _ [(2, .pointer (some ⟨b10, 0, none⟩)), (3, .pointer (some ⟨b11, 0, none⟩)), (7, .int .i64 d38), (8, .int .i64 d39), (32, z15.v), (33, .int .i64 (([(IntKind.wrap .i64 (y13 - (1 : Int))), y13]).length : Int)), (34, .int .i64 d20)] [Asr.of 5 (Enc.int .u8) (s2.v) x3, Asr.of 3 (Enc.int .i64) (s4.v) x5, Asr.blk b1 97 [Seg.c (s2.v), Seg.c (s4.v)], Asr.blk b10 79 [Seg.c (.pointer (some ⟨b1, 0, none⟩))], Asr.vw (Enc.int .u8) (s6.v) x7, Asr.blk b11 23 [Seg.c (s6.v)], Asr.of 3 (Enc.int .i64) (z15.v) [(IntKind.wrap .i64 (y13 - (1 : Int))), y13]] _ _
                refine QJ.block_normal ?_
                exact QJ.cut_normal ((d38, d39), ()) hm [0, 1, 2, 3, 4, 5, 6] (by exact ⟨rfl, rfl, rfl, rfl, rfl, rfl, rfl, trivial⟩) rfl rfl
              ·
                rcases ite_inv hm with ⟨h40, hm⟩ | ⟨h40, hm⟩
                ·
                  refine JC.condT' rfl (decide_eq_true h40) ?_
                  refine JC.region ?_
                  refine JL.val (v := .pointer (some ⟨b1, 0, none⟩)) (QV.load1 (ss := [Seg.c (.pointer (some ⟨b1, 0, none⟩))]) 3 0 rfl tk_79 rfl rfl rfl) rfl rfl rfl ?_
                  refine JL.val (v := .pointer (some ⟨b1, 0, none⟩)) (QV.nilCheck rfl) rfl rfl rfl ?_
                  refine JL.val (v := .pointer (some ⟨b1, 1, none⟩)) (QV.fieldB fo_97_1 rfl rfl) rfl rfl rfl ?_
                  refine JL.val (v := s4.v) (QV.load1 (ss := [Seg.c (s2.v), Seg.c (s4.v)]) 2 1 rfl tk_94 rfl rfl rfl) rfl rfl rfl ?_
                  refine JL.val (v := .int .i64 (gd [(IntKind.wrap .i64 (y13 - (1 : Int))), y13] d20)) (QV.move rfl) rfl rfl rfl ?_
                  refine JL.val (v := .pointer (some (elA (s4.v) (Int.toNat (gd [(IntKind.wrap .i64 (y13 - (1 : Int))), y13] d20) * ((Enc.int .i64)).sz)))) (QV.indexA (Rdg.of 1 rfl) Try.underlying94 tk_3 rfl rfl h34) rfl rfl rfl ?_
                  refine JL.val (v := .int .i64 (gd x5 (gd [(IntKind.wrap .i64 (y13 - (1 : Int))), y13] d20))) (QV.el1 (Rdg.of 1 rfl) tk_3 rfl h34 rfl) rfl rfl rfl ?_
                  refine JL.val (v := .int .i64 y36) (QV.move rfl) rfl rfl rfl ?_
                  refine JL.val (v := .int .i64 (gd x5 (gd [(IntKind.wrap .i64 (y13 - (1 : Int))), y13] d20))) (QV.assign rfl) rfl rfl rfl ?_
                  refine JL.val (v := .int .i64 y36) (QV.assign rfl) rfl rfl rfl ?_
                  refine JL.nil ?_
                  exact QJ.cut_normal (((gd x5 (gd [(IntKind.wrap .i64 (y13 - (1 : Int))), y13] d20)), y36), ()) hm [0, 1, 2, 3, 4, 5, 6] (by exact ⟨rfl, rfl, rfl, rfl, rfl, rfl, rfl, trivial⟩) rfl rfl
                ·
                  refine JC.condF' rfl (decide_eq_false h40) ?_
                  refine JC.skip ?_
                  exact QJ.cut_normal ((d18, d19), ()) hm [0, 1, 2, 3, 4, 5, 6] (by exact ⟨rfl, rfl, rfl, rfl, rfl, rfl, rfl, trivial⟩) rfl rfl
      ·
        refine JC.condF' rfl (decide_eq_false h28) ?_
        refine JC.exit ?_
        refine QJ.then_exit ?_
        obtain rfl := Option.some.inj hm
        refine QJ.round_exit (fun hy => ?_)
        subst hy
        refine QJ.block_hit ?_
        exact QJ.cut_normal ((d18, d19), ()) hmo26 [0, 1, 2] (by exact ⟨rfl, rfl, trivial⟩) rfl rfl

end Go.Proofs.Ytedokgdilpfomaa
