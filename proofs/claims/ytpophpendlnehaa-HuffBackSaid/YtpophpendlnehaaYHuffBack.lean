/- Written by gen.py: functions and their contracts. -/
import Derived.Test.YtpophpendlnehaaHuf
namespace Go.Proofs.Ytpophpendlnehaa
open Go Go.Eng Go.Proofs
set_option linter.unusedVariables false
set_option linter.unusedSimpArgs false
/-! ### 14: drogher/drogherlaw09.HuffBack -/
noncomputable def F14.j2 (d32 : List Int) (d33 : Int) (d34 : Int) (y40 : (List Int)) (d44 : Int) : Option Bool :=
  ((F46.m (y40) (d44)).bind fun y45 => ((F36.m (d32) (d33) (d34)).bind fun y47 => (if d44 = y47 then ((F47.m).bind fun y50 => some y50) else some false)))
noncomputable def F14.b1 (y20 : ((Arr Int 16) × (Arr Int 16) × (Arr Int 16) × List Int)) (d36 : List Int) (y40 : (List Int)) : (Int × Int) → Option ((Int × Int) ⊕ ((Bool) ⊕ Int))
  | (d52, d53) => (if d53 < ((d36).length : Int) then ((F53.m (y20.1) (y20.2.1) (y20.2.2.1) (y20.2.2.2) (y40) (d52)).bind fun y61 => (if 0 ≤ d53 ∧ d53 < ((d36).length : Int) then (if y61.1 = (gd d36 d53) then (if y61.2.1 = (0 : Int) then some (.inl (y61.2.2, (IntKind.wrap .i64 (d53 + (1 : Int))))) else some (.inr (.inl (false)))) else some (.inr (.inl (false)))) else none)) else some (.inr (.inr (d52))))
noncomputable def F14.j1 (y20 : ((Arr Int 16) × (Arr Int 16) × (Arr Int 16) × List Int)) (d32 : List Int) (d33 : Int) (d34 : Int) (d36 : List Int) : Option Bool :=
  ((F37.m (d32) (d33) (d34)).bind fun y37 => ((F38.m (y37)).bind fun y40 => ((loop (F14.b1 y20 d36 y40) ((0 : Int), (0 : Int))).bind fun y => match y with | .inl r => some r | .inr d44 => F14.j2 d32 d33 d34 y40 (d44))))
noncomputable def F14.j3 (d72 : Int) (d86 : List Int) (d87 : Int) (d88 : Int) (d90 : List Int) : Option ((List Int × Int × Int × List Int × Int) ⊕ (List Int × Int × Int × List Int)) :=
  some (.inl (d86, d87, d88, d90, (IntKind.wrap .i64 (d72 + (1 : Int)))))
noncomputable def F14.b2 (x2 : List Int) (x4 : List Int) (y15 : (List Int × Int)) : (List Int × Int × Int × List Int × Int) → Option ((List Int × Int × Int × List Int × Int) ⊕ (List Int × Int × Int × List Int))
  | (d67, d68, d69, d71, d72) => (if d72 < ((x4).length : Int) then (if 0 ≤ d72 ∧ d72 < ((x4).length : Int) then (if ((x2).length : Int) ≤ (IntKind.wrap .i64 (gd x4 d72)) then F14.j3 d72 (d67) (d68) (d69) (d71) else (if 0 ≤ (IntKind.wrap .i64 (gd x4 d72)) ∧ (IntKind.wrap .i64 (gd x4 d72)) < ((x2).length : Int) then (if (gd x2 (IntKind.wrap .i64 (gd x4 d72))) = (0 : Int) then F14.j3 d72 (d67) (d68) (d69) (d71) else (if 0 ≤ (IntKind.wrap .i64 (gd x4 d72)) ∧ (IntKind.wrap .i64 (gd x4 d72)) < ((y15.1).length : Int) then ((F30.m (d67) (d68) (d69) ((IntKind.wrap .u32 (gd y15.1 (IntKind.wrap .i64 (gd x4 d72))))) ((IntKind.wrap .i64 (gd x2 (IntKind.wrap .i64 (gd x4 d72)))))).bind fun y96 => (if ((d71).length + ([(IntKind.wrap .i64 (gd x4 d72))]).length) * 8 ≤ 140737488355328 ∧ (d71).length + ([(IntKind.wrap .i64 (gd x4 d72))]).length ≤ 9223372036854775807 then F14.j3 d72 (y96.1) (y96.2.1) (y96.2.2) ((d71 ++ [(IntKind.wrap .i64 (gd x4 d72))])) else none)) else none)) else none)) else none) else some (.inr (d67, d68, d69, d71)))
noncomputable def F14.m (x2 : List Int) (x4 : List Int) : Option Bool :=
  (if (300 : Int) < ((x2).length : Int) then ((F47.m).bind fun y7 => some y7) else (if (100 : Int) < ((x4).length : Int) then ((F47.m).bind fun y10 => some y10) else ((F50.m (x2)).bind fun y12 => (if y12 = true then ((F48.m (x2)).bind fun y15 => ((F49.m (x2)).bind fun y18 => match y18 with | (.inl y20) => (if y15.2 = (0 : Int) then (if (0 : Int) = (0 : Int) then (if ((y15.1).length : Int) = ((x2).length : Int) then ((F27.m).bind fun y27 => ((loop (F14.b2 x2 x4 y15) (([] : List Int), (0 : Int), (0 : Int), ([] : List Int), (0 : Int))).bind fun y => match y with | (d32, d33, d34, d36) => F14.j1 y20 (d32) (d33) (d34) (d36))) else some false) else some false) else some false) | (.inr y21) => (if y15.2 = (0 : Int) then some false else some false))) else ((F47.m).bind fun y103 => some y103)))))
set_option maxRecDepth 100000 in
set_option maxHeartbeats 4000000 in
theorem F14.spec (s1 : SlV) (s3 : SlV) (x2 : List Int) (x4 : List Int) (r : Bool) (hm : F14.m x2 x4 = some r) :
    Ctr Try.prog false 14 [s1.v, s3.v] [Asr.vw (Enc.int .u8) (s1.v) x2, Asr.vw (Enc.int .u16) (s3.v) x4] (fun v L' => v = .bool r ∧ L' = []) := by
  refine Ctr.intro (n := 131) (env := [(0, s1.v), (1, s3.v)]) Try.func14 rfl rfl rfl rfl (fun c => ?_)
  unfold F14.m at hm
  refine JC.seq ?_
  refine JC.region ?_
  refine JL.val (v := .bool false) (QV.assign rfl) rfl rfl rfl ?_
  refine JL.nil ?_
  refine QJ.then_normal ?_
  refine JC.seq ?_
  refine JC.seq ?_
  refine JC.region ?_
  refine JL.val (v := s1.v) (QV.move rfl) rfl rfl rfl ?_
  refine JL.val (v := .int .i64 ((x2).length : Int)) (QV.len (Rdg.vw 0 rfl) Try.underlying26 rfl) rfl rfl rfl ?_
  refine JL.val (v := .bool (decide ((300 : Int) < ((x2).length : Int)))) (QV.gtr rfl rfl) rfl rfl rfl ?_
  rcases ite_inv hm with ⟨h6, hm⟩ | ⟨h6, hm⟩
  ·
    refine JL.val (v := .bool true) (QV.eq (QV.move rfl) (congrArg Value.bool (decide_eq_true h6))) rfl rfl rfl ?_
    refine JL.skip (d := some 21) rfl rfl rfl ?_
    refine JL.skip (d := some 22) rfl rfl rfl ?_
    refine JL.skip (d := some 23) rfl rfl rfl ?_
    refine JL.val (v := .bool true) (QV.pickT rfl rfl) rfl rfl rfl ?_
    refine JL.val (v := .bool true) (QV.move rfl) rfl rfl rfl ?_
    refine JL.skip (d := some 26) rfl rfl rfl ?_
    refine JL.skip (d := some 27) rfl rfl rfl ?_
    refine JL.skip (d := some 28) rfl rfl rfl ?_
    refine JL.val (v := .bool true) (QV.pickT rfl rfl) rfl rfl rfl ?_
    refine JL.nil ?_
    refine QJ.then_normal ?_
    refine JC.condT rfl ?_
    refine JC.seq ?_
    refine JC.region ?_
    obtain ⟨y7, hc8, hm⟩ := bind_inv hm
    refine JL.mv (d := some 30) (MV.call (Lo := []) (Lr := [Asr.vw (Enc.int .u8) (s1.v) x2, Asr.vw (Enc.int .u16) (s3.v) x4]) (F47.spec _ hc8) rfl Try.func47 rfl rfl rfl [] [0, 1] rfl rfl rfl trivial) rfl rfl rfl ?_
    rintro _ _ ⟨_, ⟨rfl, rfl⟩, rfl⟩
    refine JL.val (v := .bool y7) (QV.assign rfl) rfl rfl rfl ?_
    refine JL.nil ?_
    refine QJ.then_normal ?_
    refine JC.ret ?_
    refine QJ.then_ret ?_
    obtain rfl := Option.some.inj hm
    exact QJ.body (vs := [.bool y7]) (.inl rfl) rfl (ResVs.cons (ResV.tmp rfl) ResVs.nil) [] rfl rfl (.inr trivial) ⟨rfl, rfl⟩
  ·
    refine JL.val (v := .bool false) (QV.eq (QV.move rfl) (congrArg Value.bool (decide_eq_false h6))) rfl rfl rfl ?_
    refine JL.val (v := s3.v) (QV.move rfl) rfl rfl rfl ?_
    refine JL.val (v := .int .i64 ((x4).length : Int)) (QV.len (Rdg.vw 1 rfl) Try.underlying63 rfl) rfl rfl rfl ?_
    refine JL.val (v := .bool (decide ((100 : Int) < ((x4).length : Int)))) (QV.gtr rfl rfl) rfl rfl rfl ?_
    refine JL.val (v := .bool (decide ((100 : Int) < ((x4).length : Int)))) (QV.pickF rfl rfl) rfl rfl rfl ?_
    rcases ite_inv hm with ⟨h9, hm⟩ | ⟨h9, hm⟩
    ·
      refine JL.val (v := .bool true) (QV.eq (QV.move rfl) (congrArg Value.bool (decide_eq_true h9))) rfl rfl rfl ?_
      refine JL.skip (d := some 26) rfl rfl rfl ?_
      refine JL.skip (d := some 27) rfl rfl rfl ?_
      refine JL.skip (d := some 28) rfl rfl rfl ?_
      refine JL.val (v := .bool true) (QV.pickT rfl rfl) rfl rfl rfl ?_
      refine JL.nil ?_
      refine QJ.then_normal ?_
      refine JC.condT rfl ?_
      refine JC.seq ?_
      refine JC.region ?_
      obtain ⟨y10, hc11, hm⟩ := bind_inv hm
      refine JL.mv (d := some 30) (MV.call (Lo := []) (Lr := [Asr.vw (Enc.int .u8) (s1.v) x2, Asr.vw (Enc.int .u16) (s3.v) x4]) (F47.spec _ hc11) rfl Try.func47 rfl rfl rfl [] [0, 1] rfl rfl rfl trivial) rfl rfl rfl ?_
      rintro _ _ ⟨_, ⟨rfl, rfl⟩, rfl⟩
      refine JL.val (v := .bool y10) (QV.assign rfl) rfl rfl rfl ?_
      refine JL.nil ?_
      refine QJ.then_normal ?_
      refine JC.ret ?_
      refine QJ.then_ret ?_
      obtain rfl := Option.some.inj hm
      exact QJ.body (vs := [.bool y10]) (.inl rfl) rfl (ResVs.cons (ResV.tmp rfl) ResVs.nil) [] rfl rfl (.inr trivial) ⟨rfl, rfl⟩
    ·
      refine JL.val (v := .bool false) (QV.eq (QV.move rfl) (congrArg Value.bool (decide_eq_false h9))) rfl rfl rfl ?_
      refine JL.val (v := s1.v) (QV.move rfl) rfl rfl rfl ?_
      obtain ⟨y12, hc13, hm⟩ := bind_inv hm
      refine JL.mv (d := some 27) (MV.call (Lo := []) (Lr := [Asr.vw (Enc.int .u8) (s1.v) x2, Asr.vw (Enc.int .u16) (s3.v) x4]) (F50.spec (s1) (x2) _ hc13) rfl Try.func50 rfl rfl rfl [] [0, 1] rfl rfl rfl ⟨(Drv.vw 0 rfl), trivial⟩) rfl rfl rfl ?_
      rintro _ _ ⟨_, ⟨rfl, rfl⟩, rfl⟩
      refine JL.val (v := .bool (!y12)) (QV.not rfl) rfl rfl rfl ?_
      refine JL.val (v := .bool (!y12)) (QV.pickF rfl rfl) rfl rfl rfl ?_
      refine JL.nil ?_
      refine QJ.then_normal ?_
      rcases ite_inv hm with ⟨h14, hm⟩ | ⟨h14, hm⟩
      ·
        refine JC.condF' rfl (congrArg Bool.not h14) ?_
        refine JC.skip ?_
        refine QJ.then_normal ?_
        refine JC.seq ?_
        refine JC.region ?_
        refine JL.val (v := s1.v) (QV.move rfl) rfl rfl rfl ?_
        obtain ⟨y15, hc16, hm⟩ := bind_inv hm
        refine JL.mv (d := some 33) (MV.call (Lo := []) (Lr := [Asr.vw (Enc.int .u8) (s1.v) x2, Asr.vw (Enc.int .u16) (s3.v) x4]) (F48.spec (s1) (x2) _ hc16) rfl Try.func48 rfl rfl rfl [] [0, 1] rfl rfl rfl ⟨(Drv.vw 0 rfl), trivial⟩) rfl rfl rfl ?_
        rintro _ _ ⟨_, ⟨z17, rfl, rfl⟩, rfl⟩
        refine JL.val (v := .tuple #[z17.v, .int .i64 y15.2]) (QV.move rfl) rfl rfl rfl ?_
        refine JL.val (v := z17.v) (QV.extract (vs := [z17.v, .int .i64 y15.2]) rfl rfl) rfl rfl rfl ?_
        refine JL.val (v := .int .i64 y15.2) (QV.extract (vs := [z17.v, .int .i64 y15.2]) rfl rfl) rfl rfl rfl ?_
        refine JL.val (v := z17.v) (QV.assign rfl) rfl rfl rfl ?_
        refine JL.val (v := .int .i64 y15.2) (QV.assign rfl) rfl rfl rfl ?_
        refine JL.nil ?_
        refine QJ.then_normal ?_
        refine JC.seq ?_
        refine JC.region ?_
        refine JL.val (v := s1.v) (QV.move rfl) rfl rfl rfl ?_
        obtain ⟨y18, hc19, hm⟩ := bind_inv hm
        rcases y18 with y20 | y21
        ·
          refine JL.mv (d := some 38) (MV.call (Lo := []) (Lr := [Asr.of 32 (Enc.int .u16) (z17.v) y15.1, Asr.vw (Enc.int .u8) (s1.v) x2, Asr.vw (Enc.int .u16) (s3.v) x4]) (F49.spec (s1) (x2) _ hc19) rfl Try.func49 rfl rfl rfl [] [0, 1, 2] rfl rfl rfl ⟨(Drv.vw 1 rfl), trivial⟩) rfl rfl rfl ?_
          rintro _ _ ⟨_, ⟨b22, z23, rfl, rfl⟩, rfl⟩
          refine JL.val (v := .tuple #[.pointer (some ⟨b22, 0, none⟩), .int .i64 (0 : Int)]) (QV.move rfl) rfl rfl rfl ?_
          refine JL.val (v := .pointer (some ⟨b22, 0, none⟩)) (QV.extract (vs := [.pointer (some ⟨b22, 0, none⟩), .int .i64 (0 : Int)]) rfl rfl) rfl rfl rfl ?_
          refine JL.val (v := .int .i64 (0 : Int)) (QV.extract (vs := [.pointer (some ⟨b22, 0, none⟩), .int .i64 (0 : Int)]) rfl rfl) rfl rfl rfl ?_
          refine JL.val (v := .pointer (some ⟨b22, 0, none⟩)) (QV.assign rfl) rfl rfl rfl ?_
          refine JL.val (v := .int .i64 (0 : Int)) (QV.assign rfl) rfl rfl rfl ?_
          refine JL.nil ?_
          refine QJ.then_normal ?_
          refine JC.seq ?_
          refine JC.seq ?_
          refine JC.region ?_
          refine JL.val (v := .int .i64 y15.2) (QV.move rfl) rfl rfl rfl ?_
          refine JL.val (v := .bool (!(decide (y15.2 = (0 : Int))))) (QV.neq rfl rfl) rfl rfl rfl ?_
          rcases ite_inv hm with ⟨h24, hm⟩ | ⟨h24, hm⟩
          ·
            refine JL.val (v := .bool false) (QV.eq (QV.move rfl) (congrArg Value.bool (congrArg Bool.not (decide_eq_true h24)))) rfl rfl rfl ?_
            refine JL.val (v := .pointer (some ⟨b22, 0, none⟩)) (QV.move rfl) rfl rfl rfl ?_
            refine JL.val (v := .bool false) ((QV.eq (QV.eqlP Try.underlying66 rfl rfl (.inr rfl)) (by simp))) rfl rfl rfl ?_
            refine JL.val (v := .bool false) (QV.pickF rfl rfl) rfl rfl rfl ?_
            refine JL.val (v := .bool false) (QV.move rfl) rfl rfl rfl ?_
            refine JL.val (v := .int .i64 (0 : Int)) (QV.move rfl) rfl rfl rfl ?_
            refine JL.val (v := .bool (!(decide ((0 : Int) = (0 : Int))))) (QV.neq rfl rfl) rfl rfl rfl ?_
            refine JL.val (v := .bool (!(decide ((0 : Int) = (0 : Int))))) (QV.pickF rfl rfl) rfl rfl rfl ?_
            rcases ite_inv hm with ⟨h25, hm⟩ | ⟨h25, hm⟩
            ·
              refine JL.val (v := .bool false) (QV.eq (QV.move rfl) (congrArg Value.bool (congrArg Bool.not (decide_eq_true h25)))) rfl rfl rfl ?_
              refine JL.val (v := z17.v) (QV.move rfl) rfl rfl rfl ?_
              refine JL.val (v := .int .i64 ((y15.1).length : Int)) (QV.len (Rdg.of 2 rfl) Try.underlying63 rfl) rfl rfl rfl ?_
              refine JL.val (v := s1.v) (QV.move rfl) rfl rfl rfl ?_
              refine JL.val (v := .int .i64 ((x2).length : Int)) (QV.len (Rdg.vw 3 rfl) Try.underlying26 rfl) rfl rfl rfl ?_
              refine JL.val (v := .bool (!(decide (((y15.1).length : Int) = ((x2).length : Int))))) (QV.neq rfl rfl) rfl rfl rfl ?_
              refine JL.val (v := .bool (!(decide (((y15.1).length : Int) = ((x2).length : Int))))) (QV.pickF rfl rfl) rfl rfl rfl ?_
              refine JL.nil ?_
              refine QJ.then_normal ?_
              rcases ite_inv hm with ⟨h26, hm⟩ | ⟨h26, hm⟩
              ·
                refine JC.condF' rfl (congrArg Bool.not (decide_eq_true h26)) ?_
                refine JC.skip ?_
                refine QJ.then_normal ?_
                refine JC.seq ?_
                refine JC.region ?_
                obtain ⟨y27, hc28, hm⟩ := bind_inv hm
                refine JL.mv (d := some 58) (MV.call (Lo := []) (Lr := [Asr.of 3 (Enc.int .i64) (z23.v) y20.2.2.2, Asr.blk b22 107 [Seg.of (Enc.arr 16 (Enc.int .i64)) y20.1, Seg.of (Enc.arr 16 (Enc.int .i64)) y20.2.1, Seg.of (Enc.arr 16 (Enc.int .i64)) y20.2.2.1, Seg.c (z23.v)], Asr.of 32 (Enc.int .u16) (z17.v) y15.1, Asr.vw (Enc.int .u8) (s1.v) x2, Asr.vw (Enc.int .u16) (s3.v) x4]) (F27.spec _ hc28) rfl Try.func27 rfl rfl rfl [] [0, 1, 2, 3, 4] rfl rfl rfl trivial) rfl rfl rfl ?_
                rintro _ _ ⟨_, ⟨b29, rfl, rfl⟩, rfl⟩
                refine JL.val (v := .pointer (some ⟨b29, 0, none⟩)) (QV.assign rfl) rfl rfl rfl ?_
                refine JL.nil ?_
                refine QJ.then_normal ?_
                refine JC.seq ?_
                refine JC.region ?_
                refine JL.mv (d := some 59) (MV.lit0 (Enc.int .i64) Try.underlying76 (by kernel_rfl)) rfl rfl rfl ?_
                rintro _ _ ⟨z30, rfl, rfl⟩
                refine JL.val (v := z30.v) (QV.assign rfl) rfl rfl rfl ?_
                refine JL.nil ?_
                refine QJ.then_normal ?_
                refine JC.seq ?_
                refine JC.seq ?_
                refine JC.region ?_
                refine JL.val (v := .int .i64 (0 : Int)) (QV.assign rfl) rfl rfl rfl ?_
                refine JL.nil ?_
                refine QJ.then_normal ?_
                refine JC.cutK (Y := (List Int × Int × Int × List Int) × (SlV × SlV)) (fun y => match y with | ((d32, d33, d34, d36), _) => F14.j1 y20 (d32) (d33) (d34) (d36) = some r) (fun y => match y with | ((d32, d33, d34, d36), (z31, z35)) => [(7, .pointer (some ⟨b22, 0, none⟩)), (9, .pointer (some ⟨b29, 0, none⟩)), (10, z35.v)]) (fun y => match y with | ((d32, d33, d34, d36), (z31, z35)) => [Asr.of 3 (Enc.int .i64) (z23.v) y20.2.2.2, Asr.blk b22 107 [Seg.of (Enc.arr 16 (Enc.int .i64)) y20.1, Seg.of (Enc.arr 16 (Enc.int .i64)) y20.2.1, Seg.of (Enc.arr 16 (Enc.int .i64)) y20.2.2.1, Seg.c (z23.v)], Asr.of 5 (Enc.int .u8) (z31.v) d32, Asr.blk b29 98 [Seg.c (z31.v), Seg.c (.int .u64 d33), Seg.c (.int .i64 d34)], Asr.of 3 (Enc.int .i64) (z35.v) d36]) ?_ ?_
                ·
                  rintro ⟨⟨d32, d33, d34, d36⟩, ⟨z31, z35⟩⟩ hm
                  unfold F14.j1 at hm
                  show QJ _ _ [(7, .pointer (some ⟨b22, 0, none⟩)), (9, .pointer (some ⟨b29, 0, none⟩)), (10, z35.v)] [Asr.of 3 (Enc.int .i64) (z23.v) y20.2.2.2, Asr.blk b22 107 [Seg.of (Enc.arr 16 (Enc.int .i64)) y20.1, Seg.of (Enc.arr 16 (Enc.int .i64)) y20.2.1, Seg.of (Enc.arr 16 (Enc.int .i64)) y20.2.2.1, Seg.c (z23.v)], Asr.of 5 (Enc.int .u8) (z31.v) d32, Asr.blk b29 98 [Seg.c (z31.v), Seg.c (.int .u64 d33), Seg.c (.int .i64 d34)], Asr.of 3 (Enc.int .i64) (z35.v) d36] _ _
                  refine QJ.then_normal ?_
                  refine JC.seq ?_
                  refine JC.region ?_
                  refine JL.val (v := .pointer (some ⟨b29, 0, none⟩)) (QV.move rfl) rfl rfl rfl ?_
                  obtain ⟨y37, hc38, hm⟩ := bind_inv hm
                  refine JL.mv (d := some 99) (MV.call (Lo := [Asr.blk b29 98 [Seg.c (z31.v), Seg.c (.int .u64 d33), Seg.c (.int .i64 d34)], Asr.of 5 (Enc.int .u8) (z31.v) d32]) (Lr := [Asr.of 3 (Enc.int .i64) (z23.v) y20.2.2.2, Asr.blk b22 107 [Seg.of (Enc.arr 16 (Enc.int .i64)) y20.1, Seg.of (Enc.arr 16 (Enc.int .i64)) y20.2.1, Seg.of (Enc.arr 16 (Enc.int .i64)) y20.2.2.1, Seg.c (z23.v)], Asr.of 3 (Enc.int .i64) (z35.v) d36]) (F37.spec (b29) (z31) (d32) (d33) (d34) _ hc38) rfl Try.func37 rfl rfl rfl [3, 2] [0, 1, 4] rfl rfl rfl trivial) rfl rfl rfl ?_
                  rintro _ _ ⟨_, ⟨z39, rfl, rfl⟩, rfl⟩
                  obtain ⟨y40, hc41, hm⟩ := bind_inv hm
                  refine JL.mv (d := some 100) (MV.call (Lo := []) (Lr := [Asr.of 5 (Enc.int .u8) (z39.v) y37, Asr.of 5 (Enc.int .u8) (z31.v) d32, Asr.blk b29 98 [Seg.c (z31.v), Seg.c (.int .u64 d33), Seg.c (.int .i64 d34)], Asr.of 3 (Enc.int .i64) (z23.v) y20.2.2.2, Asr.blk b22 107 [Seg.of (Enc.arr 16 (Enc.int .i64)) y20.1, Seg.of (Enc.arr 16 (Enc.int .i64)) y20.2.1, Seg.of (Enc.arr 16 (Enc.int .i64)) y20.2.2.1, Seg.c (z23.v)], Asr.of 3 (Enc.int .i64) (z35.v) d36]) (F38.spec (z39) (y37) _ hc41) rfl Try.func38 rfl rfl rfl [] [0, 1, 2, 3, 4, 5] rfl rfl rfl ⟨(Drv.of 0 rfl), trivial⟩) rfl rfl rfl ?_
                  rintro _ _ ⟨_, ⟨b42, z43, rfl, rfl⟩, rfl⟩
                  refine JL.val (v := .pointer (some ⟨b42, 0, none⟩)) (QV.assign rfl) rfl rfl rfl ?_
                  refine JL.nil ?_
                  refine QJ.then_normal ?_
                  refine JC.seq ?_
                  refine JC.seq ?_
                  refine JC.region ?_
                  refine JL.val (v := .int .i64 (0 : Int)) (QV.assign rfl) rfl rfl rfl ?_
                  refine JL.nil ?_
                  refine QJ.then_normal ?_
                  refine JC.cutK (Y := Int × Unit) (fun y => match y with | (d44, _) => F14.j2 d32 d33 d34 y40 (d44) = some r) (fun y => match y with | (d44, _) => [(9, .pointer (some ⟨b29, 0, none⟩)), (13, .pointer (some ⟨b42, 0, none⟩))]) (fun y => match y with | (d44, _) => [Asr.of 5 (Enc.int .u8) (z31.v) d32, Asr.blk b29 98 [Seg.c (z31.v), Seg.c (.int .u64 d33), Seg.c (.int .i64 d34)], Asr.of 5 (Enc.int .u8) (z43.v) y40, Asr.blk b42 101 [Seg.c (z43.v), Seg.c (.int .i64 d44)]]) ?_ ?_
                  ·
                    rintro ⟨d44, ⟨⟩⟩ hm
                    unfold F14.j2 at hm
                    show QJ _ _ [(9, .pointer (some ⟨b29, 0, none⟩)), (13, .pointer (some ⟨b42, 0, none⟩))] [Asr.of 5 (Enc.int .u8) (z31.v) d32, Asr.blk b29 98 [Seg.c (z31.v), Seg.c (.int .u64 d33), Seg.c (.int .i64 d34)], Asr.of 5 (Enc.int .u8) (z43.v) y40, Asr.blk b42 101 [Seg.c (z43.v), Seg.c (.int .i64 d44)]] _ _
                    refine QJ.then_normal ?_
                    refine JC.seq ?_
                    refine JC.region ?_
                    refine JL.val (v := .pointer (some ⟨b42, 0, none⟩)) (QV.move rfl) rfl rfl rfl ?_
                    obtain ⟨y45, hc46, hm⟩ := bind_inv hm
                    refine JL.mv (d := some 124) (MV.call (Lo := [Asr.blk b42 101 [Seg.c (z43.v), Seg.c (.int .i64 d44)], Asr.of 5 (Enc.int .u8) (z43.v) y40]) (Lr := [Asr.of 5 (Enc.int .u8) (z31.v) d32, Asr.blk b29 98 [Seg.c (z31.v), Seg.c (.int .u64 d33), Seg.c (.int .i64 d34)]]) (F46.spec (b42) (z43) (y40) (d44) _ hc46) rfl Try.func46 rfl rfl rfl [3, 2] [0, 1] rfl rfl rfl trivial) rfl rfl rfl ?_
                    rintro _ _ ⟨_, ⟨rfl, rfl⟩, rfl⟩
                    refine JL.val (v := .pointer (some ⟨b29, 0, none⟩)) (QV.move rfl) rfl rfl rfl ?_
                    obtain ⟨y47, hc48, hm⟩ := bind_inv hm
                    refine JL.mv (d := some 126) (MV.call (Lo := [Asr.blk b29 98 [Seg.c (z31.v), Seg.c (.int .u64 d33), Seg.c (.int .i64 d34)], Asr.of 5 (Enc.int .u8) (z31.v) d32]) (Lr := [Asr.of 5 (Enc.int .u8) (z43.v) y40, Asr.blk b42 101 [Seg.c (z43.v), Seg.c (.int .i64 d44)]]) (F36.spec (b29) (z31) (d32) (d33) (d34) _ hc48) rfl Try.func36 rfl rfl rfl [3, 2] [0, 1] rfl rfl rfl trivial) rfl rfl rfl ?_
                    rintro _ _ ⟨_, ⟨rfl, rfl⟩, rfl⟩
                    refine JL.val (v := .bool (decide (d44 = y47))) (QV.eql rfl rfl) rfl rfl rfl ?_
                    rcases ite_inv hm with ⟨h49, hm⟩ | ⟨h49, hm⟩
                    ·
                      refine JL.val (v := .bool true) (QV.eq (QV.move rfl) (congrArg Value.bool (decide_eq_true h49))) rfl rfl rfl ?_
                      obtain ⟨y50, hc51, hm⟩ := bind_inv hm
                      refine JL.mv (d := some 129) (MV.call (Lo := []) (Lr := [Asr.of 5 (Enc.int .u8) (z31.v) d32, Asr.blk b29 98 [Seg.c (z31.v), Seg.c (.int .u64 d33), Seg.c (.int .i64 d34)], Asr.of 5 (Enc.int .u8) (z43.v) y40, Asr.blk b42 101 [Seg.c (z43.v), Seg.c (.int .i64 d44)]]) (F47.spec _ hc51) rfl Try.func47 rfl rfl rfl [] [0, 1, 2, 3] rfl rfl rfl trivial) rfl rfl rfl ?_
                      rintro _ _ ⟨_, ⟨rfl, rfl⟩, rfl⟩
                      refine JL.val (v := .bool y50) (QV.pickT rfl rfl) rfl rfl rfl ?_
                      refine JL.val (v := .bool y50) (QV.assign rfl) rfl rfl rfl ?_
                      refine JL.nil ?_
                      refine QJ.then_normal ?_
                      refine JC.ret ?_
                      obtain rfl := Option.some.inj hm
                      exact QJ.body (vs := [.bool y50]) (.inl rfl) rfl (ResVs.cons (ResV.tmp rfl) ResVs.nil) [] rfl rfl (.inr trivial) ⟨rfl, rfl⟩
                    ·
                      refine JL.val (v := .bool false) (QV.eq (QV.move rfl) (congrArg Value.bool (decide_eq_false h49))) rfl rfl rfl ?_
                      refine JL.skip (d := some 129) rfl rfl rfl ?_
                      refine JL.val (v := .bool false) (QV.pickF rfl rfl) rfl rfl rfl ?_
                      refine JL.val (v := .bool false) (QV.assign rfl) rfl rfl rfl ?_
                      refine JL.nil ?_
                      refine QJ.then_normal ?_
                      refine JC.ret ?_
                      obtain rfl := Option.some.inj hm
                      exact QJ.body (vs := [.bool false]) (.inl rfl) rfl (ResVs.cons (ResV.tmp rfl) ResVs.nil) [] rfl rfl (.inr trivial) ⟨rfl, rfl⟩
                  ·
                    refine JC.block ?_
                    obtain ⟨y56, hl57, hmo58⟩ := bind_inv hm
                    refine JC.loop (F14.b1 y20 d36 y40) (fun x z => match x, z with | (d52, d53), _ => [(7, .pointer (some ⟨b22, 0, none⟩)), (9, .pointer (some ⟨b29, 0, none⟩)), (10, z35.v), (13, .pointer (some ⟨b42, 0, none⟩)), (14, .int .i64 d53)]) (fun x z => match x, z with | (d52, d53), _ => [Asr.of 3 (Enc.int .i64) (z23.v) y20.2.2.2, Asr.blk b22 107 [Seg.of (Enc.arr 16 (Enc.int .i64)) y20.1, Seg.of (Enc.arr 16 (Enc.int .i64)) y20.2.1, Seg.of (Enc.arr 16 (Enc.int .i64)) y20.2.2.1, Seg.c (z23.v)], Asr.of 5 (Enc.int .u8) (z31.v) d32, Asr.blk b29 98 [Seg.c (z31.v), Seg.c (.int .u64 d33), Seg.c (.int .i64 d34)], Asr.of 3 (Enc.int .i64) (z35.v) d36, Asr.of 5 (Enc.int .u8) (z43.v) y40, Asr.blk b42 101 [Seg.c (z43.v), Seg.c (.int .i64 d52)]]) ((0 : Int), (0 : Int)) () y56 hl57 [5, 6, 3, 4, 7, 0, 1] (by exact ⟨rfl, rfl, rfl, rfl, rfl, trivial⟩) rfl rfl ?_
                    rintro ⟨d52, d53⟩ ⟨⟩ s59 hm
                    unfold F14.b1 at hm
                    dsimp only at hm
                    show JC _ _ _ [(7, .pointer (some ⟨b22, 0, none⟩)), (9, .pointer (some ⟨b29, 0, none⟩)), (10, z35.v), (13, .pointer (some ⟨b42, 0, none⟩)), (14, .int .i64 d53)] [Asr.of 3 (Enc.int .i64) (z23.v) y20.2.2.2, Asr.blk b22 107 [Seg.of (Enc.arr 16 (Enc.int .i64)) y20.1, Seg.of (Enc.arr 16 (Enc.int .i64)) y20.2.1, Seg.of (Enc.arr 16 (Enc.int .i64)) y20.2.2.1, Seg.c (z23.v)], Asr.of 5 (Enc.int .u8) (z31.v) d32, Asr.blk b29 98 [Seg.c (z31.v), Seg.c (.int .u64 d33), Seg.c (.int .i64 d34)], Asr.of 3 (Enc.int .i64) (z35.v) d36, Asr.of 5 (Enc.int .u8) (z43.v) y40, Asr.blk b42 101 [Seg.c (z43.v), Seg.c (.int .i64 d52)]] _ _
                    refine JC.seq ?_
                    refine JC.seq ?_
                    refine JC.region ?_
                    refine JL.val (v := .int .i64 d53) (QV.move rfl) rfl rfl rfl ?_
                    refine JL.val (v := z35.v) (QV.move rfl) rfl rfl rfl ?_
                    refine JL.val (v := .int .i64 ((d36).length : Int)) (QV.len (Rdg.of 4 rfl) Try.underlying76 rfl) rfl rfl rfl ?_
                    refine JL.val (v := .bool (decide (d53 < ((d36).length : Int)))) (QV.lss rfl rfl) rfl rfl rfl ?_
                    refine JL.nil ?_
                    refine QJ.then_normal ?_
                    rcases ite_inv hm with ⟨h60, hm⟩ | ⟨h60, hm⟩
                    ·
                      refine JC.condT' rfl (decide_eq_true h60) ?_
                      refine JC.skip ?_
                      refine QJ.then_normal ?_
                      refine JC.seq ?_
                      refine JC.block ?_
                      refine JC.seq ?_
                      refine JC.region ?_
                      refine JL.val (v := .pointer (some ⟨b22, 0, none⟩)) (QV.move rfl) rfl rfl rfl ?_
                      refine JL.val (v := .pointer (some ⟨b42, 0, none⟩)) (QV.move rfl) rfl rfl rfl ?_
                      obtain ⟨y61, hc62, hm⟩ := bind_inv hm
                      refine JL.mv (d := some 110) (MV.call (Lo := [Asr.blk b22 107 [Seg.of (Enc.arr 16 (Enc.int .i64)) y20.1, Seg.of (Enc.arr 16 (Enc.int .i64)) y20.2.1, Seg.of (Enc.arr 16 (Enc.int .i64)) y20.2.2.1, Seg.c (z23.v)], Asr.of 3 (Enc.int .i64) (z23.v) y20.2.2.2, Asr.blk b42 101 [Seg.c (z43.v), Seg.c (.int .i64 d52)], Asr.of 5 (Enc.int .u8) (z43.v) y40]) (Lr := [Asr.of 5 (Enc.int .u8) (z31.v) d32, Asr.blk b29 98 [Seg.c (z31.v), Seg.c (.int .u64 d33), Seg.c (.int .i64 d34)], Asr.of 3 (Enc.int .i64) (z35.v) d36]) (F53.spec (b22) (z23) (b42) (z43) (y20.1) (y20.2.1) (y20.2.2.1) (y20.2.2.2) (y40) (d52) _ hc62) rfl Try.func53 rfl rfl rfl [1, 0, 6, 5] [2, 3, 4] rfl rfl rfl trivial) rfl rfl rfl ?_
                      rintro _ _ ⟨_, ⟨rfl, rfl⟩, rfl⟩
                      refine JL.val (v := .tuple #[.int .i64 y61.1, .int .i64 y61.2.1]) (QV.move rfl) rfl rfl rfl ?_
                      refine JL.val (v := .int .i64 y61.1) (QV.extract (vs := [.int .i64 y61.1, .int .i64 y61.2.1]) rfl rfl) rfl rfl rfl ?_
                      refine JL.val (v := .int .i64 y61.2.1) (QV.extract (vs := [.int .i64 y61.1, .int .i64 y61.2.1]) rfl rfl) rfl rfl rfl ?_
                      refine JL.val (v := .int .i64 y61.1) (QV.assign rfl) rfl rfl rfl ?_
                      refine JL.val (v := .int .i64 y61.2.1) (QV.assign rfl) rfl rfl rfl ?_
                      refine JL.nil ?_
                      refine QJ.then_normal ?_
                      refine JC.seq ?_
                      refine JC.region ?_
                      refine JL.val (v := .int .i64 y61.1) (QV.move rfl) rfl rfl rfl ?_
                      refine JL.val (v := z35.v) (QV.move rfl) rfl rfl rfl ?_
                      refine JL.val (v := .int .i64 d53) (QV.move rfl) rfl rfl rfl ?_
                      obtain ⟨h63, hm⟩ := guard_inv hm
                      refine JL.val (v := .pointer (some (elA (z35.v) (Int.toNat d53 * ((Enc.int .i64)).sz)))) (QV.indexA (Rdg.of 6 rfl) Try.underlying76 tk_3 rfl rfl h63) rfl rfl rfl ?_
                      refine JL.val (v := .int .i64 (gd d36 d53)) (QV.el1 (Rdg.of 6 rfl) tk_3 rfl h63 rfl) rfl rfl rfl ?_
                      refine JL.val (v := .bool (!(decide (y61.1 = (gd d36 d53))))) (QV.neq rfl rfl) rfl rfl rfl ?_
                      rcases ite_inv hm with ⟨h64, hm⟩ | ⟨h64, hm⟩
                      ·
                        refine JL.val (v := .bool false) (QV.eq (QV.move rfl) (congrArg Value.bool (congrArg Bool.not (decide_eq_true h64)))) rfl rfl rfl ?_
                        refine JL.val (v := .int .i64 y61.2.1) (QV.move rfl) rfl rfl rfl ?_
                        refine JL.val (v := .bool (!(decide (y61.2.1 = (0 : Int))))) (QV.neq rfl rfl) rfl rfl rfl ?_
                        refine JL.val (v := .bool (!(decide (y61.2.1 = (0 : Int))))) (QV.pickF rfl rfl) rfl rfl rfl ?_
                        refine JL.nil ?_
                        refine QJ.then_normal ?_
                        rcases ite_inv hm with ⟨h65, hm⟩ | ⟨h65, hm⟩
                        ·
                          refine JC.condF' rfl (congrArg Bool.not (decide_eq_true h65)) ?_
                          refine JC.skip ?_
                          refine QJ.block_normal ?_
                          refine QJ.then_normal ?_
                          refine JC.region ?_
                          refine JL.val (v := .int .i64 d53) (QV.move rfl) rfl rfl rfl ?_
                          refine JL.val (v := .int .i64 (IntKind.wrap .i64 (d53 + (1 : Int)))) (QV.add rfl rfl) rfl rfl rfl ?_
                          refine JL.val (v := .int .i64 (IntKind.wrap .i64 (d53 + (1 : Int)))) (QV.assign rfl) rfl rfl rfl ?_
                          refine JL.nil ?_
                          obtain rfl := Option.some.inj hm
                          exact QJ.round_on (y61.2.2, (IntKind.wrap .i64 (d53 + (1 : Int)))) () [0, 1, 4, 5, 6, 2, 3] (by exact ⟨rfl, rfl, rfl, rfl, rfl, trivial⟩) rfl rfl
                        ·
                          refine JC.condT' rfl (congrArg Bool.not (decide_eq_false h65)) ?_
                          refine JC.seq ?_
                          refine JC.region ?_
                          refine JL.val (v := .bool false) (QV.assign rfl) rfl rfl rfl ?_
                          refine JL.nil ?_
                          refine QJ.then_normal ?_
                          refine JC.ret ?_
                          refine QJ.block_ret ?_
                          refine QJ.then_ret ?_
                          obtain rfl := Option.some.inj hm
                          refine QJ.round_ret (fun hy => ?_)
                          subst hy
                          refine QJ.block_ret ?_
                          refine QJ.cut_ret ?_
                          refine QJ.then_ret ?_
                          obtain rfl := Option.some.inj hmo58
                          exact QJ.body (vs := [.bool false]) (.inl rfl) rfl (ResVs.cons (ResV.tmp rfl) ResVs.nil) [] rfl rfl (.inr trivial) ⟨rfl, rfl⟩
                      ·
                        refine JL.val (v := .bool true) (QV.eq (QV.move rfl) (congrArg Value.bool (congrArg Bool.not (decide_eq_false h64)))) rfl rfl rfl ?_
                        refine JL.skip (d := some 120) rfl rfl rfl ?_
                        refine JL.skip (d := some 121) rfl rfl rfl ?_
                        refine JL.val (v := .bool true) (QV.pickT rfl rfl) rfl rfl rfl ?_
                        refine JL.nil ?_
                        refine QJ.then_normal ?_
                        refine JC.condT rfl ?_
                        refine JC.seq ?_
                        refine JC.region ?_
                        refine JL.val (v := .bool false) (QV.assign rfl) rfl rfl rfl ?_
                        refine JL.nil ?_
                        refine QJ.then_normal ?_
                        refine JC.ret ?_
                        refine QJ.block_ret ?_
                        refine QJ.then_ret ?_
                        obtain rfl := Option.some.inj hm
                        refine QJ.round_ret (fun hy => ?_)
                        subst hy
                        refine QJ.block_ret ?_
                        refine QJ.cut_ret ?_
                        refine QJ.then_ret ?_
                        obtain rfl := Option.some.inj hmo58
                        exact QJ.body (vs := [.bool false]) (.inl rfl) rfl (ResVs.cons (ResV.tmp rfl) ResVs.nil) [] rfl rfl (.inr trivial) ⟨rfl, rfl⟩
                    ·
                      refine JC.condF' rfl (decide_eq_false h60) ?_
                      refine JC.exit ?_
                      refine QJ.then_exit ?_
                      obtain rfl := Option.some.inj hm
                      refine QJ.round_exit (fun hy => ?_)
                      subst hy
                      refine QJ.block_hit ?_
                      exact QJ.cut_normal (d52, ()) hmo58 [2, 3, 5, 6] (by exact ⟨rfl, rfl, trivial⟩) rfl rfl
                ·
                  refine JC.block ?_
                  obtain ⟨y80, hl81, hmo82⟩ := bind_inv hm
                  refine JC.loop (F14.b2 x2 x4 y15) (fun x z => match x, z with | (d67, d68, d69, d71, d72), (z66, z70) => [(0, s1.v), (1, s3.v), (5, z17.v), (7, .pointer (some ⟨b22, 0, none⟩)), (9, .pointer (some ⟨b29, 0, none⟩)), (10, z70.v), (11, .int .i64 d72)]) (fun x z => match x, z with | (d67, d68, d69, d71, d72), (z66, z70) => [Asr.vw (Enc.int .u8) (s1.v) x2, Asr.vw (Enc.int .u16) (s3.v) x4, Asr.of 32 (Enc.int .u16) (z17.v) y15.1, Asr.of 3 (Enc.int .i64) (z23.v) y20.2.2.2, Asr.blk b22 107 [Seg.of (Enc.arr 16 (Enc.int .i64)) y20.1, Seg.of (Enc.arr 16 (Enc.int .i64)) y20.2.1, Seg.of (Enc.arr 16 (Enc.int .i64)) y20.2.2.1, Seg.c (z23.v)], Asr.of 5 (Enc.int .u8) (z66.v) d67, Asr.blk b29 98 [Seg.c (z66.v), Seg.c (.int .u64 d68), Seg.c (.int .i64 d69)], Asr.of 3 (Enc.int .i64) (z70.v) d71]) (([] : List Int), (0 : Int), (0 : Int), ([] : List Int), (0 : Int)) (SlV.nil, z30) y80 hl81 [6, 7, 5, 3, 4, 1, 2, 0] (by exact ⟨rfl, rfl, rfl, rfl, rfl, rfl, rfl, trivial⟩) rfl rfl ?_
                  rintro ⟨d67, d68, d69, d71, d72⟩ ⟨z66, z70⟩ s83 hm
                  unfold F14.b2 at hm
                  dsimp only at hm
                  show JC _ _ _ [(0, s1.v), (1, s3.v), (5, z17.v), (7, .pointer (some ⟨b22, 0, none⟩)), (9, .pointer (some ⟨b29, 0, none⟩)), (10, z70.v), (11, .int .i64 d72)] [Asr.vw (Enc.int .u8) (s1.v) x2, Asr.vw (Enc.int .u16) (s3.v) x4, Asr.of 32 (Enc.int .u16) (z17.v) y15.1, Asr.of 3 (Enc.int .i64) (z23.v) y20.2.2.2, Asr.blk b22 107 [Seg.of (Enc.arr 16 (Enc.int .i64)) y20.1, Seg.of (Enc.arr 16 (Enc.int .i64)) y20.2.1, Seg.of (Enc.arr 16 (Enc.int .i64)) y20.2.2.1, Seg.c (z23.v)], Asr.of 5 (Enc.int .u8) (z66.v) d67, Asr.blk b29 98 [Seg.c (z66.v), Seg.c (.int .u64 d68), Seg.c (.int .i64 d69)], Asr.of 3 (Enc.int .i64) (z70.v) d71] _ _
                  refine JC.seq ?_
                  refine JC.seq ?_
                  refine JC.region ?_
                  refine JL.val (v := .int .i64 d72) (QV.move rfl) rfl rfl rfl ?_
                  refine JL.val (v := s3.v) (QV.move rfl) rfl rfl rfl ?_
                  refine JL.val (v := .int .i64 ((x4).length : Int)) (QV.len (Rdg.vw 1 rfl) Try.underlying63 rfl) rfl rfl rfl ?_
                  refine JL.val (v := .bool (decide (d72 < ((x4).length : Int)))) (QV.lss rfl rfl) rfl rfl rfl ?_
                  refine JL.nil ?_
                  refine QJ.then_normal ?_
                  rcases ite_inv hm with ⟨h84, hm⟩ | ⟨h84, hm⟩
                  ·
                    refine JC.condT' rfl (decide_eq_true h84) ?_
                    refine JC.skip ?_
                    refine QJ.then_normal ?_
                    refine JC.seq ?_
                    refine JC.cutK (Y := (List Int × Int × Int × List Int) × (SlV × SlV)) (fun y => match y with | ((d86, d87, d88, d90), _) => F14.j3 d72 (d86) (d87) (d88) (d90) = some s83) (fun y => match y with | ((d86, d87, d88, d90), (z85, z89)) => [(0, s1.v), (1, s3.v), (5, z17.v), (7, .pointer (some ⟨b22, 0, none⟩)), (9, .pointer (some ⟨b29, 0, none⟩)), (10, z89.v), (11, .int .i64 d72)]) (fun y => match y with | ((d86, d87, d88, d90), (z85, z89)) => [Asr.vw (Enc.int .u8) (s1.v) x2, Asr.vw (Enc.int .u16) (s3.v) x4, Asr.of 32 (Enc.int .u16) (z17.v) y15.1, Asr.of 3 (Enc.int .i64) (z23.v) y20.2.2.2, Asr.blk b22 107 [Seg.of (Enc.arr 16 (Enc.int .i64)) y20.1, Seg.of (Enc.arr 16 (Enc.int .i64)) y20.2.1, Seg.of (Enc.arr 16 (Enc.int .i64)) y20.2.2.1, Seg.c (z23.v)], Asr.of 5 (Enc.int .u8) (z85.v) d86, Asr.blk b29 98 [Seg.c (z85.v), Seg.c (.int .u64 d87), Seg.c (.int .i64 d88)], Asr.of 3 (Enc.int .i64) (z89.v) d90]) ?_ ?_
                    ·
                      rintro ⟨⟨d86, d87, d88, d90⟩, ⟨z85, z89⟩⟩ hm
                      unfold F14.j3 at hm
                      show QJ _ _ [(0, s1.v), (1, s3.v), (5, z17.v), (7, .pointer (some ⟨b22, 0, none⟩)), (9, .pointer (some ⟨b29, 0, none⟩)), (10, z89.v), (11, .int .i64 d72)] [Asr.vw (Enc.int .u8) (s1.v) x2, Asr.vw (Enc.int .u16) (s3.v) x4, Asr.of 32 (Enc.int .u16) (z17.v) y15.1, Asr.of 3 (Enc.int .i64) (z23.v) y20.2.2.2, Asr.blk b22 107 [Seg.of (Enc.arr 16 (Enc.int .i64)) y20.1, Seg.of (Enc.arr 16 (Enc.int .i64)) y20.2.1, Seg.of (Enc.arr 16 (Enc.int .i64)) y20.2.2.1, Seg.c (z23.v)], Asr.of 5 (Enc.int .u8) (z85.v) d86, Asr.blk b29 98 [Seg.c (z85.v), Seg.c (.int .u64 d87), Seg.c (.int .i64 d88)], Asr.of 3 (Enc.int .i64) (z89.v) d90] _ _
                      refine QJ.then_normal ?_
                      refine JC.region ?_
                      refine JL.val (v := .int .i64 d72) (QV.move rfl) rfl rfl rfl ?_
                      refine JL.val (v := .int .i64 (IntKind.wrap .i64 (d72 + (1 : Int)))) (QV.add rfl rfl) rfl rfl rfl ?_
                      refine JL.val (v := .int .i64 (IntKind.wrap .i64 (d72 + (1 : Int)))) (QV.assign rfl) rfl rfl rfl ?_
                      refine JL.nil ?_
                      obtain rfl := Option.some.inj hm
                      exact QJ.round_on (d86, d87, d88, d90, (IntKind.wrap .i64 (d72 + (1 : Int)))) (z85, z89) [0, 1, 2, 3, 4, 5, 6, 7] (by exact ⟨rfl, rfl, rfl, rfl, rfl, rfl, rfl, trivial⟩) rfl rfl
                    ·
                      refine JC.block ?_
                      refine JC.seq ?_
                      refine JC.region ?_
                      refine JL.val (v := s3.v) (QV.move rfl) rfl rfl rfl ?_
                      refine JL.val (v := .int .i64 d72) (QV.move rfl) rfl rfl rfl ?_
                      obtain ⟨h91, hm⟩ := guard_inv hm
                      refine JL.val (v := .pointer (some (elA (s3.v) (Int.toNat d72 * ((Enc.int .u16)).sz)))) (QV.indexA (Rdg.vw 1 rfl) Try.underlying63 tk_32 rfl rfl h91) rfl rfl rfl ?_
                      refine JL.val (v := .int .u16 (gd x4 d72)) (QV.el1 (Rdg.vw 1 rfl) tk_32 rfl h91 rfl) rfl rfl rfl ?_
                      refine JL.val (v := .int .i64 (IntKind.wrap .i64 (gd x4 d72))) (QV.conv rfl (by rw [Try.underlying32]; rfl) Try.underlying3) rfl rfl rfl ?_
                      refine JL.val (v := .int .i64 (IntKind.wrap .i64 (gd x4 d72))) (QV.assign rfl) rfl rfl rfl ?_
                      refine JL.nil ?_
                      refine QJ.then_normal ?_
                      refine JC.seq ?_
                      refine JC.seq ?_
                      refine JC.region ?_
                      refine JL.val (v := .int .i64 (IntKind.wrap .i64 (gd x4 d72))) (QV.move rfl) rfl rfl rfl ?_
                      refine JL.val (v := s1.v) (QV.move rfl) rfl rfl rfl ?_
                      refine JL.val (v := .int .i64 ((x2).length : Int)) (QV.len (Rdg.vw 0 rfl) Try.underlying26 rfl) rfl rfl rfl ?_
                      refine JL.val (v := .bool (decide (((x2).length : Int) ≤ (IntKind.wrap .i64 (gd x4 d72))))) (QV.geq rfl rfl) rfl rfl rfl ?_
                      rcases ite_inv hm with ⟨h92, hm⟩ | ⟨h92, hm⟩
                      ·
                        refine JL.val (v := .bool true) (QV.eq (QV.move rfl) (congrArg Value.bool (decide_eq_true h92))) rfl rfl rfl ?_
                        refine JL.skip (d := some 76) rfl rfl rfl ?_
                        refine JL.skip (d := some 77) rfl rfl rfl ?_
                        refine JL.skip (d := some 78) rfl rfl rfl ?_
                        refine JL.skip (d := some 79) rfl rfl rfl ?_
                        refine JL.skip (d := some 80) rfl rfl rfl ?_
                        refine JL.val (v := .bool true) (QV.pickT rfl rfl) rfl rfl rfl ?_
                        refine JL.nil ?_
                        refine QJ.then_normal ?_
                        refine JC.condT rfl ?_
                        refine JC.exit ?_
                        refine QJ.then_exit ?_
                        refine QJ.block_hit ?_
                        exact QJ.cut_normal ((d67, d68, d69, d71), (z66, z70)) hm [0, 1, 2, 3, 4, 5, 6, 7] (by exact ⟨rfl, rfl, rfl, rfl, rfl, rfl, rfl, trivial⟩) rfl rfl
                      ·
                        refine JL.val (v := .bool false) (QV.eq (QV.move rfl) (congrArg Value.bool (decide_eq_false h92))) rfl rfl rfl ?_
                        refine JL.val (v := s1.v) (QV.move rfl) rfl rfl rfl ?_
                        refine JL.val (v := .int .i64 (IntKind.wrap .i64 (gd x4 d72))) (QV.move rfl) rfl rfl rfl ?_
                        obtain ⟨h93, hm⟩ := guard_inv hm
                        refine JL.val (v := .pointer (some (elA (s1.v) (Int.toNat (IntKind.wrap .i64 (gd x4 d72)) * ((Enc.int .u8)).sz)))) (QV.indexA (Rdg.vw 0 rfl) Try.underlying26 tk_5 rfl rfl h93) rfl rfl rfl ?_
                        refine JL.val (v := .int .u8 (gd x2 (IntKind.wrap .i64 (gd x4 d72)))) (QV.el1 (Rdg.vw 0 rfl) tk_5 rfl h93 rfl) rfl rfl rfl ?_
                        refine JL.val (v := .bool (decide ((gd x2 (IntKind.wrap .i64 (gd x4 d72))) = (0 : Int)))) (QV.eql rfl rfl) rfl rfl rfl ?_
                        refine JL.val (v := .bool (decide ((gd x2 (IntKind.wrap .i64 (gd x4 d72))) = (0 : Int)))) (QV.pickF rfl rfl) rfl rfl rfl ?_
                        refine JL.nil ?_
                        refine QJ.then_normal ?_
                        rcases ite_inv hm with ⟨h94, hm⟩ | ⟨h94, hm⟩
                        ·
                          refine JC.condT' rfl (decide_eq_true h94) ?_
                          refine JC.exit ?_
                          refine QJ.then_exit ?_
                          refine QJ.block_hit ?_
                          exact QJ.cut_normal ((d67, d68, d69, d71), (z66, z70)) hm [0, 1, 2, 3, 4, 5, 6, 7] (by exact ⟨rfl, rfl, rfl, rfl, rfl, rfl, rfl, trivial⟩) rfl rfl
                        ·
                          refine JC.condF' rfl (decide_eq_false h94) ?_
                          refine JC.skip ?_
                          refine QJ.then_normal ?_
                          refine JC.seq ?_
                          refine JC.regionT [Asr.vw (Enc.int .u8) (s1.v) x2, Asr.vw (Enc.int .u16) (s3.v) x4, Asr.of 32 (Enc.int .u16) (z17.v) y15.1, Asr.of 3 (Enc.int .i64) (z23.v) y20.2.2.2, Asr.blk b22 107 [Seg.of (Enc.arr 16 (Enc.int .i64)) y20.1, Seg.of (Enc.arr 16 (Enc.int .i64)) y20.2.1, Seg.of (Enc.arr 16 (Enc.int .i64)) y20.2.2.1, Seg.c (z23.v)], Asr.of 3 (Enc.int .i64) (z70.v) d71] (fun t => false) [(0, true), (1, true), (2, true), (3, true), (4, true), (5, true), (6, true), (7, false), (8, false), (9, false), (10, false), (11, false)] (by kernel_rfl) (by kernel_rfl) (by kernel_rfl) rfl (fun hsel => ?_)
                          refine JT.take (i := 0) (v := .pointer (some ⟨b29, 0, none⟩)) hsel rfl (QV.move rfl) rfl rfl rfl [0, 1, 2, 3, 4, 7] rfl rfl ?_
                          refine JT.take (i := 1) (v := z17.v) hsel rfl (QV.move rfl) rfl rfl rfl [0, 1, 2, 3, 4, 7] rfl rfl ?_
                          refine JT.take (i := 2) (v := .int .i64 (IntKind.wrap .i64 (gd x4 d72))) hsel rfl (QV.move rfl) rfl rfl rfl [0, 1, 2, 3, 4, 7] rfl rfl ?_
                          obtain ⟨h95, hm⟩ := guard_inv hm
                          refine JT.take (i := 3) (v := .pointer (some (elA (z17.v) (Int.toNat (IntKind.wrap .i64 (gd x4 d72)) * ((Enc.int .u16)).sz)))) hsel rfl (QV.indexA (Rdg.of 2 rfl) Try.underlying63 tk_32 rfl rfl h95) rfl rfl rfl [0, 1, 2, 3, 4, 7] rfl rfl ?_
                          refine JT.take (i := 4) (v := .int .u16 (gd y15.1 (IntKind.wrap .i64 (gd x4 d72)))) hsel rfl (QV.el1 (Rdg.of 2 rfl) tk_32 rfl h95 rfl) rfl rfl rfl [0, 1, 2, 3, 4, 7] rfl rfl ?_
                          refine JT.take (i := 5) (v := .int .u32 (IntKind.wrap .u32 (gd y15.1 (IntKind.wrap .i64 (gd x4 d72))))) hsel rfl (QV.conv rfl (by rw [Try.underlying32]; rfl) Try.underlying42) rfl rfl rfl [0, 1, 2, 3, 4, 7] rfl rfl ?_
                          refine JT.take (i := 6) (v := s1.v) hsel rfl (QV.move rfl) rfl rfl rfl [0, 1, 2, 3, 4, 7] rfl rfl ?_
                          refine JT.only (i := 7) (d := some 89) rfl (MV.ofQV (v := .int .i64 (IntKind.wrap .i64 (gd x4 d72))) (QV.move rfl)) rfl rfl rfl ?_
                          rintro _ _ ⟨rfl, rfl⟩
                          refine ⟨fun _ => ⟨[0, 1, 2, 3, 4, 7], rfl, rfl⟩, ?_⟩
                          refine JT.only (i := 8) (d := some 90) rfl (MV.ofQV (v := .pointer (some (elA (s1.v) (Int.toNat (IntKind.wrap .i64 (gd x4 d72)) * ((Enc.int .u8)).sz)))) (QV.indexA (Rdg.vw 0 rfl) Try.underlying26 tk_5 rfl rfl h93)) rfl rfl rfl ?_
                          rintro _ _ ⟨rfl, rfl⟩
                          refine ⟨fun _ => ⟨[0, 1, 2, 3, 4, 7], rfl, rfl⟩, ?_⟩
                          refine JT.only (i := 9) (d := some 91) rfl (MV.ofQV (v := .int .u8 (gd x2 (IntKind.wrap .i64 (gd x4 d72)))) (QV.el1 (Rdg.vw 0 rfl) tk_5 rfl h93 rfl)) rfl rfl rfl ?_
                          rintro _ _ ⟨rfl, rfl⟩
                          refine ⟨fun _ => ⟨[0, 1, 2, 3, 4, 7], rfl, rfl⟩, ?_⟩
                          refine JT.only (i := 10) (d := some 92) rfl (MV.ofQV (v := .int .i64 (IntKind.wrap .i64 (gd x2 (IntKind.wrap .i64 (gd x4 d72))))) (QV.conv rfl (by rw [Try.underlying5]; rfl) Try.underlying3)) rfl rfl rfl ?_
                          rintro _ _ ⟨rfl, rfl⟩
                          refine ⟨fun _ => ⟨[0, 1, 2, 3, 4, 7], rfl, rfl⟩, ?_⟩
                          obtain ⟨y96, hc97, hm⟩ := bind_inv hm
                          refine JT.only (i := 11) (d := some 93) rfl (MV.call (Lo := [Asr.blk b29 98 [Seg.c (z66.v), Seg.c (.int .u64 d68), Seg.c (.int .i64 d69)], Asr.of 5 (Enc.int .u8) (z66.v) d67]) (Lr := [Asr.vw (Enc.int .u8) (s1.v) x2, Asr.vw (Enc.int .u16) (s3.v) x4, Asr.of 32 (Enc.int .u16) (z17.v) y15.1, Asr.of 3 (Enc.int .i64) (z23.v) y20.2.2.2, Asr.blk b22 107 [Seg.of (Enc.arr 16 (Enc.int .i64)) y20.1, Seg.of (Enc.arr 16 (Enc.int .i64)) y20.2.1, Seg.of (Enc.arr 16 (Enc.int .i64)) y20.2.2.1, Seg.c (z23.v)], Asr.of 3 (Enc.int .i64) (z70.v) d71]) (F30.spec (b29) (z66) (d67) (d68) (d69) ((IntKind.wrap .u32 (gd y15.1 (IntKind.wrap .i64 (gd x4 d72))))) ((IntKind.wrap .i64 (gd x2 (IntKind.wrap .i64 (gd x4 d72))))) _ hc97) rfl Try.func30 rfl rfl rfl [6, 5] [0, 1, 2, 3, 4, 7] rfl rfl rfl trivial) rfl rfl rfl ?_
                          rintro _ _ ⟨_, ⟨z98, rfl, rfl⟩, rfl⟩
                          refine ⟨fun _ => ⟨[2, 3, 4, 5, 6, 7], rfl, rfl⟩, ?_⟩
                          refine JT.grow [Asr.of 5 (Enc.int .u8) (z98.v) y96.1, Asr.blk b29 98 [Seg.c (z98.v), Seg.c (.int .u64 y96.2.1), Seg.c (.int .i64 y96.2.2)], Asr.vw (Enc.int .u8) (s1.v) x2, Asr.vw (Enc.int .u16) (s3.v) x4, Asr.of 32 (Enc.int .u16) (z17.v) y15.1, Asr.of 3 (Enc.int .i64) (z23.v) y20.2.2.2, Asr.blk b22 107 [Seg.of (Enc.arr 16 (Enc.int .i64)) y20.1, Seg.of (Enc.arr 16 (Enc.int .i64)) y20.2.1, Seg.of (Enc.arr 16 (Enc.int .i64)) y20.2.2.1, Seg.c (z23.v)], Asr.of 3 (Enc.int .i64) (z70.v) d71] [2, 3, 4, 5, 6, 7] rfl rfl ?_
                          refine JT.nil ?_
                          refine QJ.then_normal ?_
                          refine JC.region ?_
                          refine JL.val (v := z70.v) (QV.move rfl) rfl rfl rfl ?_
                          refine JL.val (v := .int .i64 (IntKind.wrap .i64 (gd x4 d72))) (QV.move rfl) rfl rfl rfl ?_
                          refine JL.mv (d := some 96) (MV.lit (E := (Enc.int .i64)) (vals := [(0, .int .i64 (IntKind.wrap .i64 (gd x4 d72)))]) [(IntKind.wrap .i64 (gd x4 d72))] Try.underlying76 zi_3 rfl (by decide) rfl (by kernel_rfl)) rfl rfl rfl ?_
                          rintro _ _ ⟨z99, rfl, rfl⟩
                          obtain ⟨h100, hm⟩ := guard_inv hm
                          refine JL.mv (d := some 97) (MV.append 8 rfl (Rdg.of 0 rfl) Try.underlying76 zi_3 rfl (by decide) rfl rfl h100) rfl rfl rfl ?_
                          rintro _ _ ⟨z101, rfl, rfl⟩
                          refine JL.val (v := z101.v) (QV.assign rfl) rfl rfl rfl ?_
                          refine JL.nil ?_
                          refine QJ.block_normal ?_
                          exact QJ.cut_normal ((y96.1, y96.2.1, y96.2.2, (d71 ++ [(IntKind.wrap .i64 (gd x4 d72))])), (z98, z101)) hm [3, 4, 5, 6, 7, 1, 2, 8] (by exact ⟨rfl, rfl, rfl, rfl, rfl, rfl, rfl, trivial⟩) rfl rfl
                  ·
                    refine JC.condF' rfl (decide_eq_false h84) ?_
                    refine JC.exit ?_
                    refine QJ.then_exit ?_
                    obtain rfl := Option.some.inj hm
                    refine QJ.round_exit (fun hy => ?_)
                    subst hy
                    refine QJ.block_hit ?_
                    exact QJ.cut_normal ((d67, d68, d69, d71), (z66, z70)) hmo82 [3, 4, 5, 6, 7] (by exact ⟨rfl, rfl, rfl, trivial⟩) rfl rfl
              ·
                refine JC.condT' rfl (congrArg Bool.not (decide_eq_false h26)) ?_
                refine JC.seq ?_
                refine JC.region ?_
                refine JL.val (v := .bool false) (QV.assign rfl) rfl rfl rfl ?_
                refine JL.nil ?_
                refine QJ.then_normal ?_
                refine JC.ret ?_
                refine QJ.then_ret ?_
                obtain rfl := Option.some.inj hm
                exact QJ.body (vs := [.bool false]) (.inl rfl) rfl (ResVs.cons (ResV.tmp rfl) ResVs.nil) [] rfl rfl (.inr trivial) ⟨rfl, rfl⟩
            ·
              refine JL.val (v := .bool true) (QV.eq (QV.move rfl) (congrArg Value.bool (congrArg Bool.not (decide_eq_false h25)))) rfl rfl rfl ?_
              refine JL.skip (d := some 52) rfl rfl rfl ?_
              refine JL.skip (d := some 53) rfl rfl rfl ?_
              refine JL.skip (d := some 54) rfl rfl rfl ?_
              refine JL.skip (d := some 55) rfl rfl rfl ?_
              refine JL.skip (d := some 56) rfl rfl rfl ?_
              refine JL.val (v := .bool true) (QV.pickT rfl rfl) rfl rfl rfl ?_
              refine JL.nil ?_
              refine QJ.then_normal ?_
              refine JC.condT rfl ?_
              refine JC.seq ?_
              refine JC.region ?_
              refine JL.val (v := .bool false) (QV.assign rfl) rfl rfl rfl ?_
              refine JL.nil ?_
              refine QJ.then_normal ?_
              refine JC.ret ?_
              refine QJ.then_ret ?_
              obtain rfl := Option.some.inj hm
              exact QJ.body (vs := [.bool false]) (.inl rfl) rfl (ResVs.cons (ResV.tmp rfl) ResVs.nil) [] rfl rfl (.inr trivial) ⟨rfl, rfl⟩
          ·
            refine JL.val (v := .bool true) (QV.eq (QV.move rfl) (congrArg Value.bool (congrArg Bool.not (decide_eq_false h24)))) rfl rfl rfl ?_
            refine JL.skip (d := some 44) rfl rfl rfl ?_
            refine JL.skip (d := some 45) rfl rfl rfl ?_
            refine JL.val (v := .bool true) (QV.pickT rfl rfl) rfl rfl rfl ?_
            refine JL.val (v := .bool true) (QV.move rfl) rfl rfl rfl ?_
            refine JL.skip (d := some 48) rfl rfl rfl ?_
            refine JL.skip (d := some 49) rfl rfl rfl ?_
            refine JL.val (v := .bool true) (QV.pickT rfl rfl) rfl rfl rfl ?_
            refine JL.val (v := .bool true) (QV.move rfl) rfl rfl rfl ?_
            refine JL.skip (d := some 52) rfl rfl rfl ?_
            refine JL.skip (d := some 53) rfl rfl rfl ?_
            refine JL.skip (d := some 54) rfl rfl rfl ?_
            refine JL.skip (d := some 55) rfl rfl rfl ?_
            refine JL.skip (d := some 56) rfl rfl rfl ?_
            refine JL.val (v := .bool true) (QV.pickT rfl rfl) rfl rfl rfl ?_
            refine JL.nil ?_
            refine QJ.then_normal ?_
            refine JC.condT rfl ?_
            refine JC.seq ?_
            refine JC.region ?_
            refine JL.val (v := .bool false) (QV.assign rfl) rfl rfl rfl ?_
            refine JL.nil ?_
            refine QJ.then_normal ?_
            refine JC.ret ?_
            refine QJ.then_ret ?_
            obtain rfl := Option.some.inj hm
            exact QJ.body (vs := [.bool false]) (.inl rfl) rfl (ResVs.cons (ResV.tmp rfl) ResVs.nil) [] rfl rfl (.inr trivial) ⟨rfl, rfl⟩
        ·
          refine JL.mv (d := some 38) (MV.call (Lo := []) (Lr := [Asr.of 32 (Enc.int .u16) (z17.v) y15.1, Asr.vw (Enc.int .u8) (s1.v) x2, Asr.vw (Enc.int .u16) (s3.v) x4]) (F49.spec (s1) (x2) _ hc19) rfl Try.func49 rfl rfl rfl [] [0, 1, 2] rfl rfl rfl ⟨(Drv.vw 1 rfl), trivial⟩) rfl rfl rfl ?_
          rintro _ _ ⟨_, ⟨rfl, rfl⟩, rfl⟩
          refine JL.val (v := .tuple #[.pointer none, .int .i64 (3 : Int)]) (QV.move rfl) rfl rfl rfl ?_
          refine JL.val (v := .pointer none) (QV.extract (vs := [.pointer none, .int .i64 (3 : Int)]) rfl rfl) rfl rfl rfl ?_
          refine JL.val (v := .int .i64 (3 : Int)) (QV.extract (vs := [.pointer none, .int .i64 (3 : Int)]) rfl rfl) rfl rfl rfl ?_
          refine JL.val (v := .pointer none) (QV.assign rfl) rfl rfl rfl ?_
          refine JL.val (v := .int .i64 (3 : Int)) (QV.assign rfl) rfl rfl rfl ?_
          refine JL.nil ?_
          refine QJ.then_normal ?_
          refine JC.seq ?_
          refine JC.seq ?_
          refine JC.region ?_
          refine JL.val (v := .int .i64 y15.2) (QV.move rfl) rfl rfl rfl ?_
          refine JL.val (v := .bool (!(decide (y15.2 = (0 : Int))))) (QV.neq rfl rfl) rfl rfl rfl ?_
          rcases ite_inv hm with ⟨h102, hm⟩ | ⟨h102, hm⟩
          ·
            refine JL.val (v := .bool false) (QV.eq (QV.move rfl) (congrArg Value.bool (congrArg Bool.not (decide_eq_true h102)))) rfl rfl rfl ?_
            refine JL.val (v := .pointer none) (QV.move rfl) rfl rfl rfl ?_
            refine JL.val (v := .bool true) ((QV.eq (QV.eqlP Try.underlying66 rfl rfl (.inl rfl)) (by simp))) rfl rfl rfl ?_
            refine JL.val (v := .bool true) (QV.pickF rfl rfl) rfl rfl rfl ?_
            refine JL.val (v := .bool true) (QV.move rfl) rfl rfl rfl ?_
            refine JL.skip (d := some 48) rfl rfl rfl ?_
            refine JL.skip (d := some 49) rfl rfl rfl ?_
            refine JL.val (v := .bool true) (QV.pickT rfl rfl) rfl rfl rfl ?_
            refine JL.val (v := .bool true) (QV.move rfl) rfl rfl rfl ?_
            refine JL.skip (d := some 52) rfl rfl rfl ?_
            refine JL.skip (d := some 53) rfl rfl rfl ?_
            refine JL.skip (d := some 54) rfl rfl rfl ?_
            refine JL.skip (d := some 55) rfl rfl rfl ?_
            refine JL.skip (d := some 56) rfl rfl rfl ?_
            refine JL.val (v := .bool true) (QV.pickT rfl rfl) rfl rfl rfl ?_
            refine JL.nil ?_
            refine QJ.then_normal ?_
            refine JC.condT rfl ?_
            refine JC.seq ?_
            refine JC.region ?_
            refine JL.val (v := .bool false) (QV.assign rfl) rfl rfl rfl ?_
            refine JL.nil ?_
            refine QJ.then_normal ?_
            refine JC.ret ?_
            refine QJ.then_ret ?_
            obtain rfl := Option.some.inj hm
            exact QJ.body (vs := [.bool false]) (.inl rfl) rfl (ResVs.cons (ResV.tmp rfl) ResVs.nil) [] rfl rfl (.inr trivial) ⟨rfl, rfl⟩
          ·
            refine JL.val (v := .bool true) (QV.eq (QV.move rfl) (congrArg Value.bool (congrArg Bool.not (decide_eq_false h102)))) rfl rfl rfl ?_
            refine JL.skip (d := some 44) rfl rfl rfl ?_
            refine JL.skip (d := some 45) rfl rfl rfl ?_
            refine JL.val (v := .bool true) (QV.pickT rfl rfl) rfl rfl rfl ?_
            refine JL.val (v := .bool true) (QV.move rfl) rfl rfl rfl ?_
            refine JL.skip (d := some 48) rfl rfl rfl ?_
            refine JL.skip (d := some 49) rfl rfl rfl ?_
            refine JL.val (v := .bool true) (QV.pickT rfl rfl) rfl rfl rfl ?_
            refine JL.val (v := .bool true) (QV.move rfl) rfl rfl rfl ?_
            refine JL.skip (d := some 52) rfl rfl rfl ?_
            refine JL.skip (d := some 53) rfl rfl rfl ?_
            refine JL.skip (d := some 54) rfl rfl rfl ?_
            refine JL.skip (d := some 55) rfl rfl rfl ?_
            refine JL.skip (d := some 56) rfl rfl rfl ?_
            refine JL.val (v := .bool true) (QV.pickT rfl rfl) rfl rfl rfl ?_
            refine JL.nil ?_
            refine QJ.then_normal ?_
            refine JC.condT rfl ?_
            refine JC.seq ?_
            refine JC.region ?_
            refine JL.val (v := .bool false) (QV.assign rfl) rfl rfl rfl ?_
            refine JL.nil ?_
            refine QJ.then_normal ?_
            refine JC.ret ?_
            refine QJ.then_ret ?_
            obtain rfl := Option.some.inj hm
            exact QJ.body (vs := [.bool false]) (.inl rfl) rfl (ResVs.cons (ResV.tmp rfl) ResVs.nil) [] rfl rfl (.inr trivial) ⟨rfl, rfl⟩
      ·
        refine JC.condT' rfl (congrArg Bool.not (bfalse h14)) ?_
        refine JC.seq ?_
        refine JC.region ?_
        obtain ⟨y103, hc104, hm⟩ := bind_inv hm
        refine JL.mv (d := some 30) (MV.call (Lo := []) (Lr := [Asr.vw (Enc.int .u8) (s1.v) x2, Asr.vw (Enc.int .u16) (s3.v) x4]) (F47.spec _ hc104) rfl Try.func47 rfl rfl rfl [] [0, 1] rfl rfl rfl trivial) rfl rfl rfl ?_
        rintro _ _ ⟨_, ⟨rfl, rfl⟩, rfl⟩
        refine JL.val (v := .bool y103) (QV.assign rfl) rfl rfl rfl ?_
        refine JL.nil ?_
        refine QJ.then_normal ?_
        refine JC.ret ?_
        refine QJ.then_ret ?_
        obtain rfl := Option.some.inj hm
        exact QJ.body (vs := [.bool y103]) (.inl rfl) rfl (ResVs.cons (ResV.tmp rfl) ResVs.nil) [] rfl rfl (.inr trivial) ⟨rfl, rfl⟩

end Go.Proofs.Ytpophpendlnehaa
