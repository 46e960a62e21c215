/- Written by gen.py: functions and their contracts. -/
import Derived.Test.YtedokgdilpfomaaMatx1
namespace Go.Proofs.Ytedokgdilpfomaa
open Go Go.Eng Go.Proofs
set_option linter.unusedVariables false
set_option linter.unusedSimpArgs false
/-! ### 28: drogher/match.Find -/
noncomputable def F28.j1  (d21 : List (Int × Int × Int)) : Option (List (Int × Int × Int)) :=
  some d21
noncomputable def F28.j2  (d38 : List (Int × Int × Int)) (d39 : Int) (d40 : Int) : Option ((List (Int × Int × Int) × Int × Int) ⊕ (List (Int × Int × Int))) :=
  some (.inl (d38, d39, d40))
noncomputable def F28.b1 (x2 : List Int) (x4 : List Int) : (List (Int × Int × Int) × Int × Int) → Option ((List (Int × Int × Int) × Int × Int) ⊕ (List (Int × Int × Int)))
  | (d23, d24, d26) => (if d26 < ((x4).length : Int) then (if 0 ≤ d26 ∧ d26 ≤ (minI ((x4).length : Int) (IntKind.wrap .i64 (d26 + (16384 : Int)))) ∧ (minI ((x4).length : Int) (IntKind.wrap .i64 (d26 + (16384 : Int)))) ≤ ((x4).length : Int) then ((F52.m ((subL x4 d26 (minI ((x4).length : Int) (IntKind.wrap .i64 (d26 + (16384 : Int))))))).bind fun y43 => (if (0 : Int) < (12 : Int) then F28.j2 (d23) (d24) ((IntKind.wrap .i64 (d26 + (1 : Int)))) else ((F53.m ((minI (IntKind.wrap .i64 (d26 - d24)) (0 : Int))) (x4) (d26) (x2) ((0 : Int))).bind fun y48 => ((F53_1.m ((minI (IntKind.wrap .i64 ((IntKind.wrap .i64 (((x4).length : Int) - d26)) - (0 : Int))) (IntKind.wrap .i64 ((IntKind.wrap .i64 (((x2).length : Int) - (0 : Int))) - (0 : Int))))) (x4) (d26) ((0 : Int)) (x2) ((0 : Int))).bind fun y50 => (if ((d23).length + ([((IntKind.wrap .i64 (d26 - y48)), (IntKind.wrap .i64 ((0 : Int) - y48)), (IntKind.wrap .i64 ((IntKind.wrap .i64 (y48 + (0 : Int))) + y50)))]).length) * 24 ≤ 140737488355328 ∧ (d23).length + ([((IntKind.wrap .i64 (d26 - y48)), (IntKind.wrap .i64 ((0 : Int) - y48)), (IntKind.wrap .i64 ((IntKind.wrap .i64 (y48 + (0 : Int))) + y50)))]).length ≤ 9223372036854775807 then F28.j2 ((d23 ++ [((IntKind.wrap .i64 (d26 - y48)), (IntKind.wrap .i64 ((0 : Int) - y48)), (IntKind.wrap .i64 ((IntKind.wrap .i64 (y48 + (0 : Int))) + y50)))])) ((IntKind.wrap .i64 ((IntKind.wrap .i64 (d26 - y48)) + (IntKind.wrap .i64 ((IntKind.wrap .i64 (y48 + (0 : Int))) + y50))))) ((IntKind.wrap .i64 ((IntKind.wrap .i64 (d26 - y48)) + (IntKind.wrap .i64 ((IntKind.wrap .i64 (y48 + (0 : Int))) + y50))))) else none))))) else none) else some (.inr d23))
noncomputable def F28.j3  (d62 : List (Int × Int × Int)) : Option (List (Int × Int × Int)) :=
  some d62
noncomputable def F28.j4  (d79 : List (Int × Int × Int)) (d80 : Int) (d81 : Int) : Option ((List (Int × Int × Int) × Int × Int) ⊕ (List (Int × Int × Int))) :=
  some (.inl (d79, d80, d81))
noncomputable def F28.b2 (x2 : List Int) (x4 : List Int) (y17 : (List Int × List Int)) : (List (Int × Int × Int) × Int × Int) → Option ((List (Int × Int × Int) × Int × Int) ⊕ (List (Int × Int × Int)))
  | (d64, d65, d67) => (if d67 < ((x4).length : Int) then (if 0 ≤ d67 ∧ d67 ≤ (minI ((x4).length : Int) (IntKind.wrap .i64 (d67 + (16384 : Int)))) ∧ (minI ((x4).length : Int) (IntKind.wrap .i64 (d67 + (16384 : Int)))) ≤ ((x4).length : Int) then ((F52_1.m (y17.1) (y17.2) ((subL x4 d67 (minI ((x4).length : Int) (IntKind.wrap .i64 (d67 + (16384 : Int))))))).bind fun y84 => (if y84.2 < (12 : Int) then F28.j4 (d64) (d65) ((IntKind.wrap .i64 (d67 + (1 : Int)))) else ((F53.m ((minI (IntKind.wrap .i64 (d67 - d65)) y84.1)) (x4) (d67) (x2) (y84.1)).bind fun y89 => ((F53_1.m ((minI (IntKind.wrap .i64 ((IntKind.wrap .i64 (((x4).length : Int) - d67)) - y84.2)) (IntKind.wrap .i64 ((IntKind.wrap .i64 (((x2).length : Int) - y84.1)) - y84.2)))) (x4) (d67) (y84.2) (x2) (y84.1)).bind fun y91 => (if ((d64).length + ([((IntKind.wrap .i64 (d67 - y89)), (IntKind.wrap .i64 (y84.1 - y89)), (IntKind.wrap .i64 ((IntKind.wrap .i64 (y89 + y84.2)) + y91)))]).length) * 24 ≤ 140737488355328 ∧ (d64).length + ([((IntKind.wrap .i64 (d67 - y89)), (IntKind.wrap .i64 (y84.1 - y89)), (IntKind.wrap .i64 ((IntKind.wrap .i64 (y89 + y84.2)) + y91)))]).length ≤ 9223372036854775807 then F28.j4 ((d64 ++ [((IntKind.wrap .i64 (d67 - y89)), (IntKind.wrap .i64 (y84.1 - y89)), (IntKind.wrap .i64 ((IntKind.wrap .i64 (y89 + y84.2)) + y91)))])) ((IntKind.wrap .i64 ((IntKind.wrap .i64 (d67 - y89)) + (IntKind.wrap .i64 ((IntKind.wrap .i64 (y89 + y84.2)) + y91))))) ((IntKind.wrap .i64 ((IntKind.wrap .i64 (d67 - y89)) + (IntKind.wrap .i64 ((IntKind.wrap .i64 (y89 + y84.2)) + y91))))) else none))))) else none) else some (.inr d64))
noncomputable def F28.j5  (d104 : List (Int × Int × Int)) : Option (List (Int × Int × Int)) :=
  some d104
noncomputable def F28.j6  (d121 : List (Int × Int × Int)) (d122 : Int) (d123 : Int) : Option ((List (Int × Int × Int) × Int × Int) ⊕ (List (Int × Int × Int))) :=
  some (.inl (d121, d122, d123))
noncomputable def F28.b3 (x2 : List Int) (x4 : List Int) : (List (Int × Int × Int) × Int × Int) → Option ((List (Int × Int × Int) × Int × Int) ⊕ (List (Int × Int × Int)))
  | (d106, d107, d109) => (if d109 < ((x4).length : Int) then (if 0 ≤ d109 ∧ d109 ≤ (minI ((x4).length : Int) (IntKind.wrap .i64 (d109 + (16384 : Int)))) ∧ (minI ((x4).length : Int) (IntKind.wrap .i64 (d109 + (16384 : Int)))) ≤ ((x4).length : Int) then ((F52.m ((subL x4 d109 (minI ((x4).length : Int) (IntKind.wrap .i64 (d109 + (16384 : Int))))))).bind fun y126 => (if (0 : Int) < (12 : Int) then F28.j6 (d106) (d107) ((IntKind.wrap .i64 (d109 + (1 : Int)))) else ((F53.m ((minI (IntKind.wrap .i64 (d109 - d107)) (0 : Int))) (x4) (d109) (x2) ((0 : Int))).bind fun y131 => ((F53_1.m ((minI (IntKind.wrap .i64 ((IntKind.wrap .i64 (((x4).length : Int) - d109)) - (0 : Int))) (IntKind.wrap .i64 ((IntKind.wrap .i64 (((x2).length : Int) - (0 : Int))) - (0 : Int))))) (x4) (d109) ((0 : Int)) (x2) ((0 : Int))).bind fun y133 => (if ((d106).length + ([((IntKind.wrap .i64 (d109 - y131)), (IntKind.wrap .i64 ((0 : Int) - y131)), (IntKind.wrap .i64 ((IntKind.wrap .i64 (y131 + (0 : Int))) + y133)))]).length) * 24 ≤ 140737488355328 ∧ (d106).length + ([((IntKind.wrap .i64 (d109 - y131)), (IntKind.wrap .i64 ((0 : Int) - y131)), (IntKind.wrap .i64 ((IntKind.wrap .i64 (y131 + (0 : Int))) + y133)))]).length ≤ 9223372036854775807 then F28.j6 ((d106 ++ [((IntKind.wrap .i64 (d109 - y131)), (IntKind.wrap .i64 ((0 : Int) - y131)), (IntKind.wrap .i64 ((IntKind.wrap .i64 (y131 + (0 : Int))) + y133)))])) ((IntKind.wrap .i64 ((IntKind.wrap .i64 (d109 - y131)) + (IntKind.wrap .i64 ((IntKind.wrap .i64 (y131 + (0 : Int))) + y133))))) ((IntKind.wrap .i64 ((IntKind.wrap .i64 (d109 - y131)) + (IntKind.wrap .i64 ((IntKind.wrap .i64 (y131 + (0 : Int))) + y133))))) else none))))) else none) else some (.inr d106))
noncomputable def F28.j7  (d145 : List (Int × Int × Int)) : Option (List (Int × Int × Int)) :=
  some d145
noncomputable def F28.j8  (d162 : List (Int × Int × Int)) (d163 : Int) (d164 : Int) : Option ((List (Int × Int × Int) × Int × Int) ⊕ (List (Int × Int × Int))) :=
  some (.inl (d162, d163, d164))
noncomputable def F28.b4 (x2 : List Int) (x4 : List Int) (y100 : (List Int × List Int)) : (List (Int × Int × Int) × Int × Int) → Option ((List (Int × Int × Int) × Int × Int) ⊕ (List (Int × Int × Int)))
  | (d147, d148, d150) => (if d150 < ((x4).length : Int) then (if 0 ≤ d150 ∧ d150 ≤ (minI ((x4).length : Int) (IntKind.wrap .i64 (d150 + (16384 : Int)))) ∧ (minI ((x4).length : Int) (IntKind.wrap .i64 (d150 + (16384 : Int)))) ≤ ((x4).length : Int) then ((F52_1.m (y100.1) (y100.2) ((subL x4 d150 (minI ((x4).length : Int) (IntKind.wrap .i64 (d150 + (16384 : Int))))))).bind fun y167 => (if y167.2 < (12 : Int) then F28.j8 (d147) (d148) ((IntKind.wrap .i64 (d150 + (1 : Int)))) else ((F53.m ((minI (IntKind.wrap .i64 (d150 - d148)) y167.1)) (x4) (d150) (x2) (y167.1)).bind fun y172 => ((F53_1.m ((minI (IntKind.wrap .i64 ((IntKind.wrap .i64 (((x4).length : Int) - d150)) - y167.2)) (IntKind.wrap .i64 ((IntKind.wrap .i64 (((x2).length : Int) - y167.1)) - y167.2)))) (x4) (d150) (y167.2) (x2) (y167.1)).bind fun y174 => (if ((d147).length + ([((IntKind.wrap .i64 (d150 - y172)), (IntKind.wrap .i64 (y167.1 - y172)), (IntKind.wrap .i64 ((IntKind.wrap .i64 (y172 + y167.2)) + y174)))]).length) * 24 ≤ 140737488355328 ∧ (d147).length + ([((IntKind.wrap .i64 (d150 - y172)), (IntKind.wrap .i64 (y167.1 - y172)), (IntKind.wrap .i64 ((IntKind.wrap .i64 (y172 + y167.2)) + y174)))]).length ≤ 9223372036854775807 then F28.j8 ((d147 ++ [((IntKind.wrap .i64 (d150 - y172)), (IntKind.wrap .i64 (y167.1 - y172)), (IntKind.wrap .i64 ((IntKind.wrap .i64 (y172 + y167.2)) + y174)))])) ((IntKind.wrap .i64 ((IntKind.wrap .i64 (d150 - y172)) + (IntKind.wrap .i64 ((IntKind.wrap .i64 (y172 + y167.2)) + y174))))) ((IntKind.wrap .i64 ((IntKind.wrap .i64 (d150 - y172)) + (IntKind.wrap .i64 ((IntKind.wrap .i64 (y172 + y167.2)) + y174))))) else none))))) else none) else some (.inr d147))
noncomputable def F28.m (x2 : List Int) (x4 : List Int) : Option (List (Int × Int × Int)) :=
  (if (0 : Int) < ((x4).length : Int) then ((F50.m (x2) (x4)).bind fun y10 => (if y10 = true then some [((0 : Int), (0 : Int), ((x4).length : Int))] else ((F51.m (x2)).bind fun y14 => match y14 with | (.inl y16) => (if (4 : Int) = (0 : Int) then ((loop (F28.b1 x2 x4) (([] : List (Int × Int × Int)), (0 : Int), (0 : Int))).bind fun y => match y with | d21 => F28.j1 (d21)) else some ([] : List (Int × Int × Int))) | (.inr y17) => (if (0 : Int) = (0 : Int) then ((loop (F28.b2 x2 x4 y17) (([] : List (Int × Int × Int)), (0 : Int), (0 : Int))).bind fun y => match y with | d62 => F28.j3 (d62)) else some ([] : List (Int × Int × Int)))))) else ((F51.m (x2)).bind fun y97 => match y97 with | (.inl y99) => (if (4 : Int) = (0 : Int) then ((loop (F28.b3 x2 x4) (([] : List (Int × Int × Int)), (0 : Int), (0 : Int))).bind fun y => match y with | d104 => F28.j5 (d104)) else some ([] : List (Int × Int × Int))) | (.inr y100) => (if (0 : Int) = (0 : Int) then ((loop (F28.b4 x2 x4 y100) (([] : List (Int × Int × Int)), (0 : Int), (0 : Int))).bind fun y => match y with | d145 => F28.j7 (d145)) else some ([] : List (Int × Int × Int)))))
set_option maxRecDepth 100000 in
set_option maxHeartbeats 4000000 in
theorem F28.spec (s1 : SlV) (s3 : SlV) (x2 : List Int) (x4 : List Int) (r : (List (Int × Int × Int))) (hm : F28.m x2 x4 = some r) :
    Ctr Try.prog false 28 [s1.v, s3.v] [Asr.vw (Enc.int .u8) (s1.v) x2, Asr.vw (Enc.int .u8) (s3.v) x4] (fun v L' => ∃ (g5 : SlV), v = g5.v ∧ L' = [Asr.of 52 (Enc.pair (Enc.int .i64) (Enc.pair (Enc.int .i64) (Enc.int .i64))) (g5.v) r]) := by
  refine Ctr.intro (n := 101) (env := [(0, s1.v), (1, s3.v)]) Try.func28 rfl rfl rfl rfl (fun c => ?_)
  unfold F28.m at hm
  refine JC.seq ?_
  refine JC.region ?_
  refine JL.mv (d := some 2) (MV.box [Seg.c (s1.v)] rfl (fun w hs => cells_sl (Rdg.vw 0 rfl) hs)) rfl rfl rfl ?_
  rintro _ _ ⟨b7, rfl, rfl⟩
  refine JL.mv (d := some 3) (MV.box [Seg.c (s3.v)] rfl (fun w hs => cells_sl (Rdg.vw 2 rfl) hs)) rfl rfl rfl ?_
  rintro _ _ ⟨b8, rfl, rfl⟩
  refine JL.ent (fun _ hs => hs.nil 52 (Enc.pair (Enc.int .i64) (Enc.pair (Enc.int .i64) (Enc.int .i64)))) ?_
  refine JL.val (v := SlV.nil.v) (QV.assign rfl) rfl rfl rfl ?_
  refine JL.nil ?_
  refine QJ.then_normal ?_
  refine JC.seq ?_
  refine JC.seq ?_
  refine JC.region ?_
  refine JL.val (v := s3.v) (QV.load1 (ss := [Seg.c (s3.v)]) 1 0 rfl tk_23 rfl rfl rfl) rfl rfl rfl ?_
  refine JL.val (v := .int .i64 ((x4).length : Int)) (QV.len (Rdg.vw 4 rfl) Try.underlying23 rfl) rfl rfl rfl ?_
  refine JL.val (v := .bool (decide ((0 : Int) < ((x4).length : Int)))) (QV.gtr rfl rfl) rfl rfl rfl ?_
  rcases ite_inv hm with ⟨h9, hm⟩ | ⟨h9, hm⟩
  ·
    refine JL.val (v := .bool true) (QV.eq (QV.move rfl) (congrArg Value.bool (decide_eq_true h9))) rfl rfl rfl ?_
    refine JL.val (v := s1.v) (QV.load1 (ss := [Seg.c (s1.v)]) 2 0 rfl tk_23 rfl rfl rfl) rfl rfl rfl ?_
    refine JL.val (v := s3.v) (QV.load1 (ss := [Seg.c (s3.v)]) 1 0 rfl tk_23 rfl rfl rfl) rfl rfl rfl ?_
    obtain ⟨y10, hc11, hm⟩ := bind_inv hm
    refine JL.mv (d := some 21) (MV.call (Lo := []) (Lr := [Asr.of 52 (Enc.pair (Enc.int .i64) (Enc.pair (Enc.int .i64) (Enc.int .i64))) (SlV.nil.v) ([] : List (Int × Int × Int)), Asr.blk b8 23 [Seg.c (s3.v)], Asr.blk b7 23 [Seg.c (s1.v)], Asr.vw (Enc.int .u8) (s1.v) x2, Asr.vw (Enc.int .u8) (s3.v) x4]) (F50.spec (s1) (s3) (x2) (x4) _ hc11) rfl Try.func50 rfl rfl rfl [] [0, 1, 2, 3, 4] rfl rfl rfl ⟨(Drv.vw 3 rfl), ⟨(Drv.vw 4 rfl), trivial⟩⟩) rfl rfl rfl ?_
    rintro _ _ ⟨_, ⟨rfl, rfl⟩, rfl⟩
    refine JL.val (v := .bool y10) (QV.pickT rfl rfl) rfl rfl rfl ?_
    refine JL.nil ?_
    refine QJ.then_normal ?_
    rcases ite_inv hm with ⟨h12, hm⟩ | ⟨h12, hm⟩
    ·
      refine JC.condT' rfl h12 ?_
      refine JC.seq ?_
      refine JC.region ?_
      refine JL.val (v := s3.v) (QV.load1 (ss := [Seg.c (s3.v)]) 1 0 rfl tk_23 rfl rfl rfl) rfl rfl rfl ?_
      refine JL.val (v := .int .i64 ((x4).length : Int)) (QV.len (Rdg.vw 4 rfl) Try.underlying23 rfl) rfl rfl rfl ?_
      refine JL.val (v := .agg #[.int .i64 (0 : Int), .int .i64 (0 : Int), .int .i64 ((x4).length : Int)]) (QV.build (vals := [(2, .int .i64 ((x4).length : Int))]) rfl (by kernel_rfl)) rfl rfl rfl ?_
      refine JL.mv (d := some 26) (MV.lit (E := (Enc.pair (Enc.int .i64) (Enc.pair (Enc.int .i64) (Enc.int .i64)))) (vals := [(0, .agg #[.int .i64 (0 : Int), .int .i64 (0 : Int), .int .i64 ((x4).length : Int)])]) [((0 : Int), (0 : Int), ((x4).length : Int))] Try.underlying47 zi_52 rfl (by decide) rfl (by kernel_rfl)) rfl rfl rfl ?_
      rintro _ _ ⟨z13, rfl, rfl⟩
      refine JL.val (v := z13.v) (QV.assign rfl) rfl rfl rfl ?_
      refine JL.nil ?_
      refine QJ.then_normal ?_
      refine JC.ret ?_
      refine QJ.then_ret ?_
      obtain rfl := Option.some.inj hm
      exact QJ.body (vs := [z13.v]) (.inl rfl) rfl (ResVs.cons (ResV.tmp rfl) ResVs.nil) [0] rfl rfl (.inr ⟨own_of _ _ _ _, trivial⟩) ⟨z13, rfl, rfl⟩
    ·
      refine JC.condF' rfl (bfalse h12) ?_
      refine JC.skip ?_
      refine QJ.then_normal ?_
      refine JC.seq ?_
      refine JC.region ?_
      refine JL.val (v := s1.v) (QV.load1 (ss := [Seg.c (s1.v)]) 2 0 rfl tk_23 rfl rfl rfl) rfl rfl rfl ?_
      obtain ⟨y14, hc15, hm⟩ := bind_inv hm
      rcases y14 with y16 | y17
      ·
        refine JL.mv (d := some 29) (MV.call (Lo := []) (Lr := [Asr.of 52 (Enc.pair (Enc.int .i64) (Enc.pair (Enc.int .i64) (Enc.int .i64))) (SlV.nil.v) ([] : List (Int × Int × Int)), Asr.blk b8 23 [Seg.c (s3.v)], Asr.blk b7 23 [Seg.c (s1.v)], Asr.vw (Enc.int .u8) (s1.v) x2, Asr.vw (Enc.int .u8) (s3.v) x4]) (F51.spec (s1) (x2) _ hc15) rfl Try.func51 rfl rfl rfl [] [0, 1, 2, 3, 4] rfl rfl rfl ⟨(Drv.vw 3 rfl), trivial⟩) rfl rfl rfl ?_
        rintro _ _ ⟨_, ⟨rfl, rfl⟩, rfl⟩
        refine JL.val (v := .tuple #[.pointer none, .int .i64 (4 : Int)]) (QV.move rfl) rfl rfl rfl ?_
        refine JL.val (v := .pointer none) (QV.extract (vs := [.pointer none, .int .i64 (4 : Int)]) rfl rfl) rfl rfl rfl ?_
        refine JL.val (v := .int .i64 (4 : Int)) (QV.extract (vs := [.pointer none, .int .i64 (4 : Int)]) rfl rfl) rfl rfl rfl ?_
        refine JL.val (v := .pointer none) (QV.assign rfl) rfl rfl rfl ?_
        refine JL.val (v := .int .i64 (4 : Int)) (QV.assign rfl) rfl rfl rfl ?_
        refine JL.nil ?_
        refine QJ.then_normal ?_
        refine JC.seq ?_
        refine JC.seq ?_
        refine JC.region ?_
        refine JL.val (v := .int .i64 (4 : Int)) (QV.move rfl) rfl rfl rfl ?_
        refine JL.val (v := .bool (!(decide ((4 : Int) = (0 : Int))))) (QV.neq rfl rfl) rfl rfl rfl ?_
        refine JL.nil ?_
        refine QJ.then_normal ?_
        rcases ite_inv hm with ⟨h18, hm⟩ | ⟨h18, hm⟩
        ·
          refine JC.condF' rfl (congrArg Bool.not (decide_eq_true h18)) ?_
          refine JC.skip ?_
          refine QJ.then_normal ?_
          refine JC.seq ?_
          refine JC.region ?_
          refine JL.ent (fun _ hs => hs.nil 52 (Enc.pair (Enc.int .i64) (Enc.pair (Enc.int .i64) (Enc.int .i64)))) ?_
          refine JL.val (v := SlV.nil.v) (QV.assign rfl) rfl rfl rfl ?_
          refine JL.nil ?_
          refine QJ.then_normal ?_
          refine JC.seq ?_
          refine JC.region ?_
          refine JL.val (v := .int .i64 (0 : Int)) (QV.assign rfl) rfl rfl rfl ?_
          refine JL.nil ?_
          refine QJ.then_normal ?_
          refine JC.seq ?_
          refine JC.seq ?_
          refine JC.region ?_
          refine JL.mv (d := some 9) (MV.alloc [Seg.c (.int .i64 (0 : Int))] z_3 rfl) rfl rfl rfl ?_
          rintro _ _ ⟨b19, rfl, rfl⟩
          refine JL.mv (d := none) (MV.store (ss := [Seg.c (.int .i64 (0 : Int))]) 0 0 1 [Seg.c (.int .i64 (0 : Int))] rfl tk_3 rfl rfl rfl rfl (fun w hs => ⟨rfl, one_c rfl, trivial⟩)) rfl rfl rfl ?_
          rintro _ _ ⟨rfl, rfl⟩
          refine JL.nil ?_
          refine QJ.then_normal ?_
          refine JC.cutK (Y := (List (Int × Int × Int)) × SlV) (fun y => match y with | (d21, _) => F28.j1 (d21) = some r) (fun y => match y with | (d21, z20) => [(7, z20.v)]) (fun y => match y with | (d21, z20) => [Asr.of 52 (Enc.pair (Enc.int .i64) (Enc.pair (Enc.int .i64) (Enc.int .i64))) (z20.v) d21]) ?_ ?_
          ·
            rintro ⟨d21, z20⟩ hm
            unfold F28.j1 at hm
            show QJ _ _ [(7, z20.v)] [Asr.of 52 (Enc.pair (Enc.int .i64) (Enc.pair (Enc.int .i64) (Enc.int .i64))) (z20.v) d21] _ _
            refine QJ.then_normal ?_
            refine JC.seq ?_
            refine JC.region ?_
            refine JL.val (v := z20.v) (QV.move rfl) rfl rfl rfl ?_
            refine JL.val (v := z20.v) (QV.assign rfl) rfl rfl rfl ?_
            refine JL.nil ?_
            refine QJ.then_normal ?_
            refine JC.ret ?_
            obtain rfl := Option.some.inj hm
            exact QJ.body (vs := [z20.v]) (.inl rfl) rfl (ResVs.cons (ResV.tmp rfl) ResVs.nil) [0] rfl rfl (.inr ⟨own_of _ _ _ _, trivial⟩) ⟨z20, rfl, rfl⟩
          ·
            refine JC.block ?_
            obtain ⟨y32, hl33, hmo34⟩ := bind_inv hm
            refine JC.loop (F28.b1 x2 x4) (fun x z => match x, z with | (d23, d24, d26), (z22, z25) => [(2, .pointer (some ⟨b7, 0, none⟩)), (3, .pointer (some ⟨b8, 0, none⟩)), (5, .pointer none), (7, z22.v), (8, .int .i64 d24), (9, .pointer (some ⟨z25, 0, none⟩))]) (fun x z => match x, z with | (d23, d24, d26), (z22, z25) => [Asr.vw (Enc.int .u8) (s1.v) x2, Asr.blk b7 23 [Seg.c (s1.v)], Asr.vw (Enc.int .u8) (s3.v) x4, Asr.blk b8 23 [Seg.c (s3.v)], Asr.of 52 (Enc.pair (Enc.int .i64) (Enc.pair (Enc.int .i64) (Enc.int .i64))) (z22.v) d23, Asr.blk z25 3 [Seg.c (.int .i64 d26)]]) (([] : List (Int × Int × Int)), (0 : Int), (0 : Int)) (SlV.nil, b19) y32 hl33 [5, 4, 6, 3, 1, 0] (by exact ⟨rfl, rfl, rfl, rfl, rfl, rfl, trivial⟩) rfl rfl ?_
            rintro ⟨d23, d24, d26⟩ ⟨z22, z25⟩ s35 hm
            unfold F28.b1 at hm
            dsimp only at hm
            show JC _ _ _ [(2, .pointer (some ⟨b7, 0, none⟩)), (3, .pointer (some ⟨b8, 0, none⟩)), (5, .pointer none), (7, z22.v), (8, .int .i64 d24), (9, .pointer (some ⟨z25, 0, none⟩))] [Asr.vw (Enc.int .u8) (s1.v) x2, Asr.blk b7 23 [Seg.c (s1.v)], Asr.vw (Enc.int .u8) (s3.v) x4, Asr.blk b8 23 [Seg.c (s3.v)], Asr.of 52 (Enc.pair (Enc.int .i64) (Enc.pair (Enc.int .i64) (Enc.int .i64))) (z22.v) d23, Asr.blk z25 3 [Seg.c (.int .i64 d26)]] _ _
            refine JC.seq ?_
            refine JC.seq ?_
            refine JC.region ?_
            refine JL.val (v := .int .i64 d26) (QV.load1 (ss := [Seg.c (.int .i64 d26)]) 5 0 rfl tk_3 rfl rfl rfl) rfl rfl rfl ?_
            refine JL.val (v := s3.v) (QV.load1 (ss := [Seg.c (s3.v)]) 3 0 rfl tk_23 rfl rfl rfl) rfl rfl rfl ?_
            refine JL.val (v := .int .i64 ((x4).length : Int)) (QV.len (Rdg.vw 2 rfl) Try.underlying23 rfl) rfl rfl rfl ?_
            refine JL.val (v := .bool (decide (d26 < ((x4).length : Int)))) (QV.lss rfl rfl) rfl rfl rfl ?_
            refine JL.nil ?_
            refine QJ.then_normal ?_
            rcases ite_inv hm with ⟨h36, hm⟩ | ⟨h36, hm⟩
            ·
              refine JC.condT' rfl (decide_eq_true h36) ?_
              refine JC.skip ?_
              refine QJ.then_normal ?_
              refine JC.seq ?_
              refine JC.cutK (Y := (List (Int × Int × Int) × Int × Int) × SlV) (fun y => match y with | ((d38, d39, d40), _) => F28.j2 (d38) (d39) (d40) = some s35) (fun y => match y with | ((d38, d39, d40), z37) => [(2, .pointer (some ⟨b7, 0, none⟩)), (3, .pointer (some ⟨b8, 0, none⟩)), (5, .pointer none), (7, z37.v), (8, .int .i64 d39), (9, .pointer (some ⟨z25, 0, none⟩))]) (fun y => match y with | ((d38, d39, d40), z37) => [Asr.vw (Enc.int .u8) (s1.v) x2, Asr.blk b7 23 [Seg.c (s1.v)], Asr.vw (Enc.int .u8) (s3.v) x4, Asr.blk b8 23 [Seg.c (s3.v)], Asr.of 52 (Enc.pair (Enc.int .i64) (Enc.pair (Enc.int .i64) (Enc.int .i64))) (z37.v) d38, Asr.blk z25 3 [Seg.c (.int .i64 d40)]]) ?_ ?_
              ·
                rintro ⟨⟨d38, d39, d40⟩, z37⟩ hm
                unfold F28.j2 at hm
                show QJ _ _ [(2, .pointer (some ⟨b7, 0, none⟩)), (3, .pointer (some ⟨b8, 0, none⟩)), (5, .pointer none), (7, z37.v), (8, .int .i64 d39), (9, .pointer (some ⟨z25, 0, none⟩))] [Asr.vw (Enc.int .u8) (s1.v) x2, Asr.blk b7 23 [Seg.c (s1.v)], Asr.vw (Enc.int .u8) (s3.v) x4, Asr.blk b8 23 [Seg.c (s3.v)], Asr.of 52 (Enc.pair (Enc.int .i64) (Enc.pair (Enc.int .i64) (Enc.int .i64))) (z37.v) d38, Asr.blk z25 3 [Seg.c (.int .i64 d40)]] _ _
                refine QJ.then_normal ?_
                refine JC.seq ?_
                refine JC.region ?_
                refine JL.val (v := .int .i64 d40) (QV.load1 (ss := [Seg.c (.int .i64 d40)]) 5 0 rfl tk_3 rfl rfl rfl) rfl rfl rfl ?_
                refine JL.nil ?_
                refine QJ.then_normal ?_
                refine JC.region ?_
                refine JL.mv (d := some 9) (MV.alloc [Seg.c (.int .i64 (0 : Int))] z_3 rfl) rfl rfl rfl ?_
                rintro _ _ ⟨b41, rfl, rfl⟩
                refine JL.mv (d := none) (MV.store (ss := [Seg.c (.int .i64 (0 : Int))]) 0 0 1 [Seg.c (.int .i64 d40)] rfl tk_3 rfl rfl rfl rfl (fun w hs => ⟨rfl, one_c rfl, trivial⟩)) rfl rfl rfl ?_
                rintro _ _ ⟨rfl, rfl⟩
                refine JL.nil ?_
                obtain rfl := Option.some.inj hm
                exact QJ.round_on (d38, d39, d40) (z37, b41) [1, 2, 3, 4, 5, 0] (by exact ⟨rfl, rfl, rfl, rfl, rfl, rfl, trivial⟩) rfl rfl
              ·
                refine JC.block ?_
                refine JC.seq ?_
                refine JC.region ?_
                refine JL.val (v := .pointer none) (QV.move rfl) rfl rfl rfl ?_
                refine JL.val (v := s3.v) (QV.load1 (ss := [Seg.c (s3.v)]) 3 0 rfl tk_23 rfl rfl rfl) rfl rfl rfl ?_
                refine JL.val (v := .int .i64 d26) (QV.load1 (ss := [Seg.c (.int .i64 d26)]) 5 0 rfl tk_3 rfl rfl rfl) rfl rfl rfl ?_
                refine JL.val (v := s3.v) (QV.load1 (ss := [Seg.c (s3.v)]) 3 0 rfl tk_23 rfl rfl rfl) rfl rfl rfl ?_
                refine JL.val (v := .int .i64 ((x4).length : Int)) (QV.len (Rdg.vw 2 rfl) Try.underlying23 rfl) rfl rfl rfl ?_
                refine JL.val (v := .int .i64 d26) (QV.load1 (ss := [Seg.c (.int .i64 d26)]) 5 0 rfl tk_3 rfl rfl rfl) rfl rfl rfl ?_
                refine JL.val (v := .int .i64 (IntKind.wrap .i64 (d26 + (16384 : Int)))) (QV.add rfl rfl) rfl rfl rfl ?_
                refine JL.val (v := .int .i64 (minI ((x4).length : Int) (IntKind.wrap .i64 (d26 + (16384 : Int))))) (QV.min2 rfl rfl) rfl rfl rfl ?_
                obtain ⟨h42, hm⟩ := guard_inv hm
                refine JL.val (v := (SlV.sub ((Enc.int .u8)).sz s3 d26 (minI ((x4).length : Int) (IntKind.wrap .i64 (d26 + (16384 : Int))))).v) (QV.sliceV (Rdg.vw 2 rfl) Try.underlying23 tk_5 rfl rfl rfl h42) rfl rfl rfl ?_
                obtain ⟨y43, hc44, hm⟩ := bind_inv hm
                refine JL.mv (d := some 48) (MV.call (Lo := []) (Lr := [Asr.vw (Enc.int .u8) (s1.v) x2, Asr.blk b7 23 [Seg.c (s1.v)], Asr.vw (Enc.int .u8) (s3.v) x4, Asr.blk b8 23 [Seg.c (s3.v)], Asr.of 52 (Enc.pair (Enc.int .i64) (Enc.pair (Enc.int .i64) (Enc.int .i64))) (z22.v) d23, Asr.blk z25 3 [Seg.c (.int .i64 d26)]]) (F52.spec ((SlV.sub ((Enc.int .u8)).sz s3 d26 (minI ((x4).length : Int) (IntKind.wrap .i64 (d26 + (16384 : Int)))))) ((subL x4 d26 (minI ((x4).length : Int) (IntKind.wrap .i64 (d26 + (16384 : Int)))))) _ hc44) rfl Try.func52 rfl rfl rfl [] [0, 1, 2, 3, 4, 5] rfl rfl rfl ⟨((Drv.vw 2 rfl).subV h42), trivial⟩) rfl rfl rfl ?_
                rintro _ _ ⟨_, ⟨rfl, rfl⟩, rfl⟩
                refine JL.val (v := .tuple #[.int .i64 (0 : Int), .int .i64 (0 : Int)]) (QV.move rfl) rfl rfl rfl ?_
                refine JL.val (v := .int .i64 (0 : Int)) (QV.extract (vs := [.int .i64 (0 : Int), .int .i64 (0 : Int)]) rfl rfl) rfl rfl rfl ?_
                refine JL.val (v := .int .i64 (0 : Int)) (QV.extract (vs := [.int .i64 (0 : Int), .int .i64 (0 : Int)]) rfl rfl) rfl rfl rfl ?_
                refine JL.mv (d := some 10) (MV.alloc [Seg.c (.int .i64 (0 : Int))] z_3 rfl) rfl rfl rfl ?_
                rintro _ _ ⟨b45, rfl, rfl⟩
                refine JL.mv (d := some 11) (MV.alloc [Seg.c (.int .i64 (0 : Int))] z_3 rfl) rfl rfl rfl ?_
                rintro _ _ ⟨b46, rfl, rfl⟩
                refine JL.mv (d := none) (MV.store (ss := [Seg.c (.int .i64 (0 : Int))]) 1 0 1 [Seg.c (.int .i64 (0 : Int))] rfl tk_3 rfl rfl rfl rfl (fun w hs => ⟨rfl, one_c rfl, trivial⟩)) rfl rfl rfl ?_
                rintro _ _ ⟨rfl, rfl⟩
                refine JL.mv (d := none) (MV.store (ss := [Seg.c (.int .i64 (0 : Int))]) 0 0 1 [Seg.c (.int .i64 (0 : Int))] rfl tk_3 rfl rfl rfl rfl (fun w hs => ⟨rfl, one_c rfl, trivial⟩)) rfl rfl rfl ?_
                rintro _ _ ⟨rfl, rfl⟩
                refine JL.nil ?_
                refine QJ.then_normal ?_
                refine JC.seq ?_
                refine JC.seq ?_
                refine JC.region ?_
                refine JL.val (v := .int .i64 (0 : Int)) (QV.load1 (ss := [Seg.c (.int .i64 (0 : Int))]) 0 0 rfl tk_3 rfl rfl rfl) rfl rfl rfl ?_
                refine JL.val (v := .bool (decide ((0 : Int) < (12 : Int)))) (QV.lss rfl rfl) rfl rfl rfl ?_
                refine JL.nil ?_
                refine QJ.then_normal ?_
                rcases ite_inv hm with ⟨h47, hm⟩ | ⟨h47, hm⟩
                ·
                  refine JC.condT' rfl (decide_eq_true h47) ?_
                  refine JC.seq ?_
                  refine JC.region ?_
                  refine JL.val (v := .int .i64 d26) (QV.load1 (ss := [Seg.c (.int .i64 d26)]) 7 0 rfl tk_3 rfl rfl rfl) rfl rfl rfl ?_
                  refine JL.val (v := .int .i64 (IntKind.wrap .i64 (d26 + (1 : Int)))) (QV.add rfl rfl) rfl rfl rfl ?_
                  refine JL.mv (d := none) (MV.store (ss := [Seg.c (.int .i64 d26)]) 7 0 1 [Seg.c (.int .i64 (IntKind.wrap .i64 (d26 + (1 : Int))))] rfl tk_3 rfl rfl rfl rfl (fun w hs => ⟨rfl, one_c rfl, trivial⟩)) rfl rfl rfl ?_
                  rintro _ _ ⟨rfl, rfl⟩
                  refine JL.nil ?_
                  refine QJ.then_normal ?_
                  refine JC.exit ?_
                  refine QJ.then_exit ?_
                  refine QJ.block_hit ?_
                  exact QJ.cut_normal ((d23, d24, (IntKind.wrap .i64 (d26 + (1 : Int)))), z22) hm [2, 3, 4, 5, 6, 7] (by exact ⟨rfl, rfl, rfl, rfl, rfl, rfl, trivial⟩) rfl rfl
                ·
                  refine JC.condF' rfl (decide_eq_false h47) ?_
                  refine JC.skip ?_
                  refine QJ.then_normal ?_
                  refine JC.seq ?_
                  refine JC.region ?_
                  refine JL.val (v := .int .i64 d26) (QV.load1 (ss := [Seg.c (.int .i64 d26)]) 7 0 rfl tk_3 rfl rfl rfl) rfl rfl rfl ?_
                  refine JL.val (v := .int .i64 d24) (QV.move rfl) rfl rfl rfl ?_
                  refine JL.val (v := .int .i64 (IntKind.wrap .i64 (d26 - d24))) (QV.sub rfl rfl) rfl rfl rfl ?_
                  refine JL.val (v := .int .i64 (0 : Int)) (QV.load1 (ss := [Seg.c (.int .i64 (0 : Int))]) 1 0 rfl tk_3 rfl rfl rfl) rfl rfl rfl ?_
                  refine JL.val (v := .int .i64 (minI (IntKind.wrap .i64 (d26 - d24)) (0 : Int))) (QV.min2 rfl rfl) rfl rfl rfl ?_
                  refine JL.val (v := .func (.func 54) #[] #[.pointer (some ⟨b8, 0, none⟩), .pointer (some ⟨z25, 0, none⟩), .pointer (some ⟨b7, 0, none⟩), .pointer (some ⟨b45, 0, none⟩)]) (QV.makeFunc (vals := [.pointer (some ⟨b8, 0, none⟩), .pointer (some ⟨z25, 0, none⟩), .pointer (some ⟨b7, 0, none⟩), .pointer (some ⟨b45, 0, none⟩)]) rfl) rfl rfl rfl ?_
                  obtain ⟨y48, hc49, hm⟩ := bind_inv hm
                  refine JL.mv (d := some 61) (MV.call (Lo := [Asr.blk b8 23 [Seg.c (s3.v)], Asr.blk z25 3 [Seg.c (.int .i64 d26)], Asr.blk b7 23 [Seg.c (s1.v)], Asr.blk b45 3 [Seg.c (.int .i64 (0 : Int))]]) (Lr := [Asr.blk b46 3 [Seg.c (.int .i64 (0 : Int))], Asr.vw (Enc.int .u8) (s1.v) x2, Asr.vw (Enc.int .u8) (s3.v) x4, Asr.of 52 (Enc.pair (Enc.int .i64) (Enc.pair (Enc.int .i64) (Enc.int .i64))) (z22.v) d23]) (F53.spec (b8) (s3) (z25) (b7) (s1) (b45) ((minI (IntKind.wrap .i64 (d26 - d24)) (0 : Int))) (x4) (d26) (x2) ((0 : Int)) _ hc49) rfl Try.func53 rfl rfl rfl [5, 7, 3, 1] [0, 2, 4, 6] rfl rfl rfl ⟨(Drv.vw 2 rfl), ⟨(Drv.vw 1 rfl), trivial⟩⟩) rfl rfl rfl ?_
                  rintro _ _ ⟨_, ⟨rfl, rfl⟩, rfl⟩
                  refine JL.val (v := .int .i64 y48) (QV.assign rfl) rfl rfl rfl ?_
                  refine JL.nil ?_
                  refine QJ.then_normal ?_
                  refine JC.seq ?_
                  refine JC.region ?_
                  refine JL.val (v := s3.v) (QV.load1 (ss := [Seg.c (s3.v)]) 1 0 rfl tk_23 rfl rfl rfl) rfl rfl rfl ?_
                  refine JL.val (v := .int .i64 ((x4).length : Int)) (QV.len (Rdg.vw 0 rfl) Try.underlying23 rfl) rfl rfl rfl ?_
                  refine JL.val (v := .int .i64 d26) (QV.load1 (ss := [Seg.c (.int .i64 d26)]) 2 0 rfl tk_3 rfl rfl rfl) rfl rfl rfl ?_
                  refine JL.val (v := .int .i64 (IntKind.wrap .i64 (((x4).length : Int) - d26))) (QV.sub rfl rfl) rfl rfl rfl ?_
                  refine JL.val (v := .int .i64 (0 : Int)) (QV.load1 (ss := [Seg.c (.int .i64 (0 : Int))]) 6 0 rfl tk_3 rfl rfl rfl) rfl rfl rfl ?_
                  refine JL.val (v := .int .i64 (IntKind.wrap .i64 ((IntKind.wrap .i64 (((x4).length : Int) - d26)) - (0 : Int)))) (QV.sub rfl rfl) rfl rfl rfl ?_
                  refine JL.val (v := s1.v) (QV.load1 (ss := [Seg.c (s1.v)]) 4 0 rfl tk_23 rfl rfl rfl) rfl rfl rfl ?_
                  refine JL.val (v := .int .i64 ((x2).length : Int)) (QV.len (Rdg.vw 3 rfl) Try.underlying23 rfl) rfl rfl rfl ?_
                  refine JL.val (v := .int .i64 (0 : Int)) (QV.load1 (ss := [Seg.c (.int .i64 (0 : Int))]) 5 0 rfl tk_3 rfl rfl rfl) rfl rfl rfl ?_
                  refine JL.val (v := .int .i64 (IntKind.wrap .i64 (((x2).length : Int) - (0 : Int)))) (QV.sub rfl rfl) rfl rfl rfl ?_
                  refine JL.val (v := .int .i64 (0 : Int)) (QV.load1 (ss := [Seg.c (.int .i64 (0 : Int))]) 6 0 rfl tk_3 rfl rfl rfl) rfl rfl rfl ?_
                  refine JL.val (v := .int .i64 (IntKind.wrap .i64 ((IntKind.wrap .i64 (((x2).length : Int) - (0 : Int))) - (0 : Int)))) (QV.sub rfl rfl) rfl rfl rfl ?_
                  refine JL.val (v := .int .i64 (minI (IntKind.wrap .i64 ((IntKind.wrap .i64 (((x4).length : Int) - d26)) - (0 : Int))) (IntKind.wrap .i64 ((IntKind.wrap .i64 (((x2).length : Int) - (0 : Int))) - (0 : Int))))) (QV.min2 rfl rfl) rfl rfl rfl ?_
                  refine JL.val (v := .func (.func 55) #[] #[.pointer (some ⟨b8, 0, none⟩), .pointer (some ⟨z25, 0, none⟩), .pointer (some ⟨b46, 0, none⟩), .pointer (some ⟨b7, 0, none⟩), .pointer (some ⟨b45, 0, none⟩)]) (QV.makeFunc (vals := [.pointer (some ⟨b8, 0, none⟩), .pointer (some ⟨z25, 0, none⟩), .pointer (some ⟨b46, 0, none⟩), .pointer (some ⟨b7, 0, none⟩), .pointer (some ⟨b45, 0, none⟩)]) rfl) rfl rfl rfl ?_
                  obtain ⟨y50, hc51, hm⟩ := bind_inv hm
                  refine JL.mv (d := some 76) (MV.call (Lo := [Asr.blk b8 23 [Seg.c (s3.v)], Asr.blk z25 3 [Seg.c (.int .i64 d26)], Asr.blk b46 3 [Seg.c (.int .i64 (0 : Int))], Asr.blk b7 23 [Seg.c (s1.v)], Asr.blk b45 3 [Seg.c (.int .i64 (0 : Int))]]) (Lr := [Asr.vw (Enc.int .u8) (s3.v) x4, Asr.vw (Enc.int .u8) (s1.v) x2, Asr.vw (Enc.int .u8) (s1.v) x2, Asr.vw (Enc.int .u8) (s3.v) x4, Asr.of 52 (Enc.pair (Enc.int .i64) (Enc.pair (Enc.int .i64) (Enc.int .i64))) (z22.v) d23]) (F53_1.spec (b8) (s3) (z25) (b46) (b7) (s1) (b45) ((minI (IntKind.wrap .i64 ((IntKind.wrap .i64 (((x4).length : Int) - d26)) - (0 : Int))) (IntKind.wrap .i64 ((IntKind.wrap .i64 (((x2).length : Int) - (0 : Int))) - (0 : Int))))) (x4) (d26) ((0 : Int)) (x2) ((0 : Int)) _ hc51) rfl Try.func53 rfl rfl rfl [1, 2, 6, 4, 5] [0, 3, 7, 8, 9] rfl rfl rfl ⟨(Drv.vw 0 rfl), ⟨(Drv.vw 1 rfl), trivial⟩⟩) rfl rfl rfl ?_
                  rintro _ _ ⟨_, ⟨rfl, rfl⟩, rfl⟩
                  refine JL.val (v := .int .i64 y50) (QV.assign rfl) rfl rfl rfl ?_
                  refine JL.nil ?_
                  refine QJ.then_normal ?_
                  refine JC.seq ?_
                  refine JC.region ?_
                  refine JL.val (v := .int .i64 d26) (QV.load1 (ss := [Seg.c (.int .i64 d26)]) 2 0 rfl tk_3 rfl rfl rfl) rfl rfl rfl ?_
                  refine JL.val (v := .int .i64 y48) (QV.move rfl) rfl rfl rfl ?_
                  refine JL.val (v := .int .i64 (IntKind.wrap .i64 (d26 - y48))) (QV.sub rfl rfl) rfl rfl rfl ?_
                  refine JL.val (v := .int .i64 (0 : Int)) (QV.load1 (ss := [Seg.c (.int .i64 (0 : Int))]) 6 0 rfl tk_3 rfl rfl rfl) rfl rfl rfl ?_
                  refine JL.val (v := .int .i64 y48) (QV.move rfl) rfl rfl rfl ?_
                  refine JL.val (v := .int .i64 (IntKind.wrap .i64 ((0 : Int) - y48))) (QV.sub rfl rfl) rfl rfl rfl ?_
                  refine JL.val (v := .int .i64 y48) (QV.move rfl) rfl rfl rfl ?_
                  refine JL.val (v := .int .i64 (0 : Int)) (QV.load1 (ss := [Seg.c (.int .i64 (0 : Int))]) 3 0 rfl tk_3 rfl rfl rfl) rfl rfl rfl ?_
                  refine JL.val (v := .int .i64 (IntKind.wrap .i64 (y48 + (0 : Int)))) (QV.add rfl rfl) rfl rfl rfl ?_
                  refine JL.val (v := .int .i64 y50) (QV.move rfl) rfl rfl rfl ?_
                  refine JL.val (v := .int .i64 (IntKind.wrap .i64 ((IntKind.wrap .i64 (y48 + (0 : Int))) + y50))) (QV.add rfl rfl) rfl rfl rfl ?_
                  refine JL.val (v := .agg #[.int .i64 (IntKind.wrap .i64 (d26 - y48)), .int .i64 (IntKind.wrap .i64 ((0 : Int) - y48)), .int .i64 (IntKind.wrap .i64 ((IntKind.wrap .i64 (y48 + (0 : Int))) + y50))]) (QV.build (vals := [(0, .int .i64 (IntKind.wrap .i64 (d26 - y48))), (1, .int .i64 (IntKind.wrap .i64 ((0 : Int) - y48))), (2, .int .i64 (IntKind.wrap .i64 ((IntKind.wrap .i64 (y48 + (0 : Int))) + y50)))]) rfl (by kernel_rfl)) rfl rfl rfl ?_
                  refine JL.mv (d := some 14) (MV.alloc [Seg.c (.int .i64 (0 : Int)), Seg.c (.int .i64 (0 : Int)), Seg.c (.int .i64 (0 : Int))] z_52 rfl) rfl rfl rfl ?_
                  rintro _ _ ⟨b52, rfl, rfl⟩
                  refine JL.mv (d := none) (MV.store (ss := [Seg.c (.int .i64 (0 : Int)), Seg.c (.int .i64 (0 : Int)), Seg.c (.int .i64 (0 : Int))]) 0 0 3 [Seg.c (.int .i64 (IntKind.wrap .i64 (d26 - y48))), Seg.c (.int .i64 (IntKind.wrap .i64 ((0 : Int) - y48))), Seg.c (.int .i64 (IntKind.wrap .i64 ((IntKind.wrap .i64 (y48 + (0 : Int))) + y50)))] rfl tk_52 rfl rfl rfl rfl (fun w hs => ⟨rfl, one_c rfl, one_c rfl, one_c rfl, trivial⟩)) rfl rfl rfl ?_
                  rintro _ _ ⟨rfl, rfl⟩
                  refine JL.nil ?_
                  refine QJ.then_normal ?_
                  refine JC.seq ?_
                  refine JC.region ?_
                  refine JL.val (v := z22.v) (QV.move rfl) rfl rfl rfl ?_
                  refine JL.val (v := .agg #[.int .i64 (IntKind.wrap .i64 (d26 - y48)), .int .i64 (IntKind.wrap .i64 ((0 : Int) - y48)), .int .i64 (IntKind.wrap .i64 ((IntKind.wrap .i64 (y48 + (0 : Int))) + y50))]) (QV.eq (QV.loadN (ss := [Seg.c (.int .i64 (IntKind.wrap .i64 (d26 - y48))), Seg.c (.int .i64 (IntKind.wrap .i64 ((0 : Int) - y48))), Seg.c (.int .i64 (IntKind.wrap .i64 ((IntKind.wrap .i64 (y48 + (0 : Int))) + y50)))]) 0 0 3 rfl tk_52 rfl rfl rfl rfl) rfl) rfl rfl rfl ?_
                  refine JL.mv (d := some 91) (MV.lit (E := (Enc.pair (Enc.int .i64) (Enc.pair (Enc.int .i64) (Enc.int .i64)))) (vals := [(0, .agg #[.int .i64 (IntKind.wrap .i64 (d26 - y48)), .int .i64 (IntKind.wrap .i64 ((0 : Int) - y48)), .int .i64 (IntKind.wrap .i64 ((IntKind.wrap .i64 (y48 + (0 : Int))) + y50))])]) [((IntKind.wrap .i64 (d26 - y48)), (IntKind.wrap .i64 ((0 : Int) - y48)), (IntKind.wrap .i64 ((IntKind.wrap .i64 (y48 + (0 : Int))) + y50)))] Try.underlying47 zi_52 rfl (by decide) rfl (by kernel_rfl)) rfl rfl rfl ?_
                  rintro _ _ ⟨z53, rfl, rfl⟩
                  obtain ⟨h54, hm⟩ := guard_inv hm
                  refine JL.mv (d := some 92) (MV.append 13 rfl (Rdg.of 0 rfl) Try.underlying47 zi_52 rfl (by decide) rfl rfl h54) rfl rfl rfl ?_
                  rintro _ _ ⟨z55, rfl, rfl⟩
                  refine JL.val (v := z55.v) (QV.assign rfl) rfl rfl rfl ?_
                  refine JL.nil ?_
                  refine QJ.then_normal ?_
                  refine JC.seq ?_
                  refine JC.region ?_
                  refine JL.val (v := .pointer (some ⟨b52, 0, none⟩)) (QV.fieldB fo_52_0 rfl rfl) rfl rfl rfl ?_
                  refine JL.val (v := .int .i64 (IntKind.wrap .i64 (d26 - y48))) (QV.load1 (ss := [Seg.c (.int .i64 (IntKind.wrap .i64 (d26 - y48))), Seg.c (.int .i64 (IntKind.wrap .i64 ((0 : Int) - y48))), Seg.c (.int .i64 (IntKind.wrap .i64 ((IntKind.wrap .i64 (y48 + (0 : Int))) + y50)))]) 1 0 rfl tk_3 rfl rfl rfl) rfl rfl rfl ?_
                  refine JL.val (v := .pointer (some ⟨b52, 2, none⟩)) (QV.fieldB fo_52_2 rfl rfl) rfl rfl rfl ?_
                  refine JL.val (v := .int .i64 (IntKind.wrap .i64 ((IntKind.wrap .i64 (y48 + (0 : Int))) + y50))) (QV.load1 (ss := [Seg.c (.int .i64 (IntKind.wrap .i64 (d26 - y48))), Seg.c (.int .i64 (IntKind.wrap .i64 ((0 : Int) - y48))), Seg.c (.int .i64 (IntKind.wrap .i64 ((IntKind.wrap .i64 (y48 + (0 : Int))) + y50)))]) 1 2 rfl tk_3 rfl rfl rfl) rfl rfl rfl ?_
                  refine JL.val (v := .int .i64 (IntKind.wrap .i64 ((IntKind.wrap .i64 (d26 - y48)) + (IntKind.wrap .i64 ((IntKind.wrap .i64 (y48 + (0 : Int))) + y50))))) (QV.add rfl rfl) rfl rfl rfl ?_
                  refine JL.val (v := .int .i64 (IntKind.wrap .i64 ((IntKind.wrap .i64 (d26 - y48)) + (IntKind.wrap .i64 ((IntKind.wrap .i64 (y48 + (0 : Int))) + y50))))) (QV.assign rfl) rfl rfl rfl ?_
                  refine JL.nil ?_
                  refine QJ.then_normal ?_
                  refine JC.region ?_
                  refine JL.val (v := .int .i64 (IntKind.wrap .i64 ((IntKind.wrap .i64 (d26 - y48)) + (IntKind.wrap .i64 ((IntKind.wrap .i64 (y48 + (0 : Int))) + y50))))) (QV.move rfl) rfl rfl rfl ?_
                  refine JL.mv (d := none) (MV.store (ss := [Seg.c (.int .i64 d26)]) 4 0 1 [Seg.c (.int .i64 (IntKind.wrap .i64 ((IntKind.wrap .i64 (d26 - y48)) + (IntKind.wrap .i64 ((IntKind.wrap .i64 (y48 + (0 : Int))) + y50)))))] rfl tk_3 rfl rfl rfl rfl (fun w hs => ⟨rfl, one_c rfl, trivial⟩)) rfl rfl rfl ?_
                  rintro _ _ ⟨rfl, rfl⟩
                  refine JL.nil ?_
                  refine QJ.block_normal ?_
                  exact QJ.cut_normal (((d23 ++ [((IntKind.wrap .i64 (d26 - y48)), (IntKind.wrap .i64 ((0 : Int) - y48)), (IntKind.wrap .i64 ((IntKind.wrap .i64 (y48 + (0 : Int))) + y50)))]), (IntKind.wrap .i64 ((IntKind.wrap .i64 (d26 - y48)) + (IntKind.wrap .i64 ((IntKind.wrap .i64 (y48 + (0 : Int))) + y50)))), (IntKind.wrap .i64 ((IntKind.wrap .i64 (d26 - y48)) + (IntKind.wrap .i64 ((IntKind.wrap .i64 (y48 + (0 : Int))) + y50))))), z55) hm [6, 7, 2, 3, 13, 4] (by exact ⟨rfl, rfl, rfl, rfl, rfl, rfl, trivial⟩) rfl rfl
            ·
              refine JC.condF' rfl (decide_eq_false h36) ?_
              refine JC.exit ?_
              refine QJ.then_exit ?_
              obtain rfl := Option.some.inj hm
              refine QJ.round_exit (fun hy => ?_)
              subst hy
              refine QJ.block_hit ?_
              exact QJ.cut_normal (d23, z22) hmo34 [4] (by exact ⟨rfl, trivial⟩) rfl rfl
        ·
          refine JC.condT' rfl (congrArg Bool.not (decide_eq_false h18)) ?_
          refine JC.seq ?_
          refine JC.region ?_
          refine JL.ent (fun _ hs => hs.nil 52 (Enc.pair (Enc.int .i64) (Enc.pair (Enc.int .i64) (Enc.int .i64)))) ?_
          refine JL.val (v := SlV.nil.v) (QV.assign rfl) rfl rfl rfl ?_
          refine JL.nil ?_
          refine QJ.then_normal ?_
          refine JC.ret ?_
          refine QJ.then_ret ?_
          obtain rfl := Option.some.inj hm
          exact QJ.body (vs := [SlV.nil.v]) (.inl rfl) rfl (ResVs.cons (ResV.tmp rfl) ResVs.nil) [0] rfl rfl (.inr ⟨own_of _ _ _ _, trivial⟩) ⟨(SlV.nil), rfl, rfl⟩
      ·
        refine JL.mv (d := some 29) (MV.call (Lo := []) (Lr := [Asr.of 52 (Enc.pair (Enc.int .i64) (Enc.pair (Enc.int .i64) (Enc.int .i64))) (SlV.nil.v) ([] : List (Int × Int × Int)), Asr.blk b8 23 [Seg.c (s3.v)], Asr.blk b7 23 [Seg.c (s1.v)], Asr.vw (Enc.int .u8) (s1.v) x2, Asr.vw (Enc.int .u8) (s3.v) x4]) (F51.spec (s1) (x2) _ hc15) rfl Try.func51 rfl rfl rfl [] [0, 1, 2, 3, 4] rfl rfl rfl ⟨(Drv.vw 3 rfl), trivial⟩) rfl rfl rfl ?_
        rintro _ _ ⟨_, ⟨b56, z57, z58, rfl, rfl⟩, rfl⟩
        refine JL.val (v := .tuple #[.pointer (some ⟨b56, 0, none⟩), .int .i64 (0 : Int)]) (QV.move rfl) rfl rfl rfl ?_
        refine JL.val (v := .pointer (some ⟨b56, 0, none⟩)) (QV.extract (vs := [.pointer (some ⟨b56, 0, none⟩), .int .i64 (0 : Int)]) rfl rfl) rfl rfl rfl ?_
        refine JL.val (v := .int .i64 (0 : Int)) (QV.extract (vs := [.pointer (some ⟨b56, 0, none⟩), .int .i64 (0 : Int)]) rfl rfl) rfl rfl rfl ?_
        refine JL.val (v := .pointer (some ⟨b56, 0, none⟩)) (QV.assign rfl) rfl rfl rfl ?_
        refine JL.val (v := .int .i64 (0 : Int)) (QV.assign rfl) rfl rfl rfl ?_
        refine JL.nil ?_
        refine QJ.then_normal ?_
        refine JC.seq ?_
        refine JC.seq ?_
        refine JC.region ?_
        refine JL.val (v := .int .i64 (0 : Int)) (QV.move rfl) rfl rfl rfl ?_
        refine JL.val (v := .bool (!(decide ((0 : Int) = (0 : Int))))) (QV.neq rfl rfl) rfl rfl rfl ?_
        refine JL.nil ?_
        refine QJ.then_normal ?_
        rcases ite_inv hm with ⟨h59, hm⟩ | ⟨h59, hm⟩
        ·
          refine JC.condF' rfl (congrArg Bool.not (decide_eq_true h59)) ?_
          refine JC.skip ?_
          refine QJ.then_normal ?_
          refine JC.seq ?_
          refine JC.region ?_
          refine JL.ent (fun _ hs => hs.nil 52 (Enc.pair (Enc.int .i64) (Enc.pair (Enc.int .i64) (Enc.int .i64)))) ?_
          refine JL.val (v := SlV.nil.v) (QV.assign rfl) rfl rfl rfl ?_
          refine JL.nil ?_
          refine QJ.then_normal ?_
          refine JC.seq ?_
          refine JC.region ?_
          refine JL.val (v := .int .i64 (0 : Int)) (QV.assign rfl) rfl rfl rfl ?_
          refine JL.nil ?_
          refine QJ.then_normal ?_
          refine JC.seq ?_
          refine JC.seq ?_
          refine JC.region ?_
          refine JL.mv (d := some 9) (MV.alloc [Seg.c (.int .i64 (0 : Int))] z_3 rfl) rfl rfl rfl ?_
          rintro _ _ ⟨b60, rfl, rfl⟩
          refine JL.mv (d := none) (MV.store (ss := [Seg.c (.int .i64 (0 : Int))]) 0 0 1 [Seg.c (.int .i64 (0 : Int))] rfl tk_3 rfl rfl rfl rfl (fun w hs => ⟨rfl, one_c rfl, trivial⟩)) rfl rfl rfl ?_
          rintro _ _ ⟨rfl, rfl⟩
          refine JL.nil ?_
          refine QJ.then_normal ?_
          refine JC.cutK (Y := (List (Int × Int × Int)) × SlV) (fun y => match y with | (d62, _) => F28.j3 (d62) = some r) (fun y => match y with | (d62, z61) => [(7, z61.v)]) (fun y => match y with | (d62, z61) => [Asr.of 52 (Enc.pair (Enc.int .i64) (Enc.pair (Enc.int .i64) (Enc.int .i64))) (z61.v) d62]) ?_ ?_
          ·
            rintro ⟨d62, z61⟩ hm
            unfold F28.j3 at hm
            show QJ _ _ [(7, z61.v)] [Asr.of 52 (Enc.pair (Enc.int .i64) (Enc.pair (Enc.int .i64) (Enc.int .i64))) (z61.v) d62] _ _
            refine QJ.then_normal ?_
            refine JC.seq ?_
            refine JC.region ?_
            refine JL.val (v := z61.v) (QV.move rfl) rfl rfl rfl ?_
            refine JL.val (v := z61.v) (QV.assign rfl) rfl rfl rfl ?_
            refine JL.nil ?_
            refine QJ.then_normal ?_
            refine JC.ret ?_
            obtain rfl := Option.some.inj hm
            exact QJ.body (vs := [z61.v]) (.inl rfl) rfl (ResVs.cons (ResV.tmp rfl) ResVs.nil) [0] rfl rfl (.inr ⟨own_of _ _ _ _, trivial⟩) ⟨z61, rfl, rfl⟩
          ·
            refine JC.block ?_
            obtain ⟨y73, hl74, hmo75⟩ := bind_inv hm
            refine JC.loop (F28.b2 x2 x4 y17) (fun x z => match x, z with | (d64, d65, d67), (z63, z66) => [(2, .pointer (some ⟨b7, 0, none⟩)), (3, .pointer (some ⟨b8, 0, none⟩)), (5, .pointer (some ⟨b56, 0, none⟩)), (7, z63.v), (8, .int .i64 d65), (9, .pointer (some ⟨z66, 0, none⟩))]) (fun x z => match x, z with | (d64, d65, d67), (z63, z66) => [Asr.vw (Enc.int .u8) (s1.v) x2, Asr.blk b7 23 [Seg.c (s1.v)], Asr.vw (Enc.int .u8) (s3.v) x4, Asr.blk b8 23 [Seg.c (s3.v)], Asr.of 5 (Enc.int .u8) (z57.v) y17.1, Asr.of 3 (Enc.int .i64) (z58.v) y17.2, Asr.blk b56 97 [Seg.c (z57.v), Seg.c (z58.v)], Asr.of 52 (Enc.pair (Enc.int .i64) (Enc.pair (Enc.int .i64) (Enc.int .i64))) (z63.v) d64, Asr.blk z66 3 [Seg.c (.int .i64 d67)]]) (([] : List (Int × Int × Int)), (0 : Int), (0 : Int)) (SlV.nil, b60) y73 hl74 [8, 7, 9, 6, 2, 3, 4, 1, 0] (by exact ⟨rfl, rfl, rfl, rfl, rfl, rfl, trivial⟩) rfl rfl ?_
            rintro ⟨d64, d65, d67⟩ ⟨z63, z66⟩ s76 hm
            unfold F28.b2 at hm
            dsimp only at hm
            show JC _ _ _ [(2, .pointer (some ⟨b7, 0, none⟩)), (3, .pointer (some ⟨b8, 0, none⟩)), (5, .pointer (some ⟨b56, 0, none⟩)), (7, z63.v), (8, .int .i64 d65), (9, .pointer (some ⟨z66, 0, none⟩))] [Asr.vw (Enc.int .u8) (s1.v) x2, Asr.blk b7 23 [Seg.c (s1.v)], Asr.vw (Enc.int .u8) (s3.v) x4, Asr.blk b8 23 [Seg.c (s3.v)], Asr.of 5 (Enc.int .u8) (z57.v) y17.1, Asr.of 3 (Enc.int .i64) (z58.v) y17.2, Asr.blk b56 97 [Seg.c (z57.v), Seg.c (z58.v)], Asr.of 52 (Enc.pair (Enc.int .i64) (Enc.pair (Enc.int .i64) (Enc.int .i64))) (z63.v) d64, Asr.blk z66 3 [Seg.c (.int .i64 d67)]] _ _
            refine JC.seq ?_
            refine JC.seq ?_
            refine JC.region ?_
            refine JL.val (v := .int .i64 d67) (QV.load1 (ss := [Seg.c (.int .i64 d67)]) 8 0 rfl tk_3 rfl rfl rfl) rfl rfl rfl ?_
            refine JL.val (v := s3.v) (QV.load1 (ss := [Seg.c (s3.v)]) 3 0 rfl tk_23 rfl rfl rfl) rfl rfl rfl ?_
            refine JL.val (v := .int .i64 ((x4).length : Int)) (QV.len (Rdg.vw 2 rfl) Try.underlying23 rfl) rfl rfl rfl ?_
            refine JL.val (v := .bool (decide (d67 < ((x4).length : Int)))) (QV.lss rfl rfl) rfl rfl rfl ?_
            refine JL.nil ?_
            refine QJ.then_normal ?_
            rcases ite_inv hm with ⟨h77, hm⟩ | ⟨h77, hm⟩
            ·
              refine JC.condT' rfl (decide_eq_true h77) ?_
              refine JC.skip ?_
              refine QJ.then_normal ?_
              refine JC.seq ?_
              refine JC.cutK (Y := (List (Int × Int × Int) × Int × Int) × SlV) (fun y => match y with | ((d79, d80, d81), _) => F28.j4 (d79) (d80) (d81) = some s76) (fun y => match y with | ((d79, d80, d81), z78) => [(2, .pointer (some ⟨b7, 0, none⟩)), (3, .pointer (some ⟨b8, 0, none⟩)), (5, .pointer (some ⟨b56, 0, none⟩)), (7, z78.v), (8, .int .i64 d80), (9, .pointer (some ⟨z66, 0, none⟩))]) (fun y => match y with | ((d79, d80, d81), z78) => [Asr.vw (Enc.int .u8) (s1.v) x2, Asr.blk b7 23 [Seg.c (s1.v)], Asr.vw (Enc.int .u8) (s3.v) x4, Asr.blk b8 23 [Seg.c (s3.v)], Asr.of 5 (Enc.int .u8) (z57.v) y17.1, Asr.of 3 (Enc.int .i64) (z58.v) y17.2, Asr.blk b56 97 [Seg.c (z57.v), Seg.c (z58.v)], Asr.of 52 (Enc.pair (Enc.int .i64) (Enc.pair (Enc.int .i64) (Enc.int .i64))) (z78.v) d79, Asr.blk z66 3 [Seg.c (.int .i64 d81)]]) ?_ ?_
              ·
                rintro ⟨⟨d79, d80, d81⟩, z78⟩ hm
                unfold F28.j4 at hm
                show QJ _ _ [(2, .pointer (some ⟨b7, 0, none⟩)), (3, .pointer (some ⟨b8, 0, none⟩)), (5, .pointer (some ⟨b56, 0, none⟩)), (7, z78.v), (8, .int .i64 d80), (9, .pointer (some ⟨z66, 0, none⟩))] [Asr.vw (Enc.int .u8) (s1.v) x2, Asr.blk b7 23 [Seg.c (s1.v)], Asr.vw (Enc.int .u8) (s3.v) x4, Asr.blk b8 23 [Seg.c (s3.v)], Asr.of 5 (Enc.int .u8) (z57.v) y17.1, Asr.of 3 (Enc.int .i64) (z58.v) y17.2, Asr.blk b56 97 [Seg.c (z57.v), Seg.c (z58.v)], Asr.of 52 (Enc.pair (Enc.int .i64) (Enc.pair (Enc.int .i64) (Enc.int .i64))) (z78.v) d79, Asr.blk z66 3 [Seg.c (.int .i64 d81)]] _ _
                refine QJ.then_normal ?_
                refine JC.seq ?_
                refine JC.region ?_
                refine JL.val (v := .int .i64 d81) (QV.load1 (ss := [Seg.c (.int .i64 d81)]) 8 0 rfl tk_3 rfl rfl rfl) rfl rfl rfl ?_
                refine JL.nil ?_
                refine QJ.then_normal ?_
                refine JC.region ?_
                refine JL.mv (d := some 9) (MV.alloc [Seg.c (.int .i64 (0 : Int))] z_3 rfl) rfl rfl rfl ?_
                rintro _ _ ⟨b82, rfl, rfl⟩
                refine JL.mv (d := none) (MV.store (ss := [Seg.c (.int .i64 (0 : Int))]) 0 0 1 [Seg.c (.int .i64 d81)] rfl tk_3 rfl rfl rfl rfl (fun w hs => ⟨rfl, one_c rfl, trivial⟩)) rfl rfl rfl ?_
                rintro _ _ ⟨rfl, rfl⟩
                refine JL.nil ?_
                obtain rfl := Option.some.inj hm
                exact QJ.round_on (d79, d80, d81) (z78, b82) [1, 2, 3, 4, 5, 6, 7, 8, 0] (by exact ⟨rfl, rfl, rfl, rfl, rfl, rfl, trivial⟩) rfl rfl
              ·
                refine JC.block ?_
                refine JC.seq ?_
                refine JC.region ?_
                refine JL.val (v := .pointer (some ⟨b56, 0, none⟩)) (QV.move rfl) rfl rfl rfl ?_
                refine JL.val (v := s3.v) (QV.load1 (ss := [Seg.c (s3.v)]) 3 0 rfl tk_23 rfl rfl rfl) rfl rfl rfl ?_
                refine JL.val (v := .int .i64 d67) (QV.load1 (ss := [Seg.c (.int .i64 d67)]) 8 0 rfl tk_3 rfl rfl rfl) rfl rfl rfl ?_
                refine JL.val (v := s3.v) (QV.load1 (ss := [Seg.c (s3.v)]) 3 0 rfl tk_23 rfl rfl rfl) rfl rfl rfl ?_
                refine JL.val (v := .int .i64 ((x4).length : Int)) (QV.len (Rdg.vw 2 rfl) Try.underlying23 rfl) rfl rfl rfl ?_
                refine JL.val (v := .int .i64 d67) (QV.load1 (ss := [Seg.c (.int .i64 d67)]) 8 0 rfl tk_3 rfl rfl rfl) rfl rfl rfl ?_
                refine JL.val (v := .int .i64 (IntKind.wrap .i64 (d67 + (16384 : Int)))) (QV.add rfl rfl) rfl rfl rfl ?_
                refine JL.val (v := .int .i64 (minI ((x4).length : Int) (IntKind.wrap .i64 (d67 + (16384 : Int))))) (QV.min2 rfl rfl) rfl rfl rfl ?_
                obtain ⟨h83, hm⟩ := guard_inv hm
                refine JL.val (v := (SlV.sub ((Enc.int .u8)).sz s3 d67 (minI ((x4).length : Int) (IntKind.wrap .i64 (d67 + (16384 : Int))))).v) (QV.sliceV (Rdg.vw 2 rfl) Try.underlying23 tk_5 rfl rfl rfl h83) rfl rfl rfl ?_
                obtain ⟨y84, hc85, hm⟩ := bind_inv hm
                refine JL.mv (d := some 48) (MV.call (Lo := [Asr.blk b56 97 [Seg.c (z57.v), Seg.c (z58.v)], Asr.of 5 (Enc.int .u8) (z57.v) y17.1, Asr.of 3 (Enc.int .i64) (z58.v) y17.2]) (Lr := [Asr.vw (Enc.int .u8) (s1.v) x2, Asr.blk b7 23 [Seg.c (s1.v)], Asr.vw (Enc.int .u8) (s3.v) x4, Asr.blk b8 23 [Seg.c (s3.v)], Asr.of 52 (Enc.pair (Enc.int .i64) (Enc.pair (Enc.int .i64) (Enc.int .i64))) (z63.v) d64, Asr.blk z66 3 [Seg.c (.int .i64 d67)]]) (F52_1.spec (b56) (z57) (z58) ((SlV.sub ((Enc.int .u8)).sz s3 d67 (minI ((x4).length : Int) (IntKind.wrap .i64 (d67 + (16384 : Int)))))) (y17.1) (y17.2) ((subL x4 d67 (minI ((x4).length : Int) (IntKind.wrap .i64 (d67 + (16384 : Int)))))) _ hc85) rfl Try.func52 rfl rfl rfl [6, 4, 5] [0, 1, 2, 3, 7, 8] rfl rfl rfl ⟨((Drv.vw 2 rfl).subV h83), trivial⟩) rfl rfl rfl ?_
                rintro _ _ ⟨_, ⟨rfl, rfl⟩, rfl⟩
                refine JL.val (v := .tuple #[.int .i64 y84.1, .int .i64 y84.2]) (QV.move rfl) rfl rfl rfl ?_
                refine JL.val (v := .int .i64 y84.1) (QV.extract (vs := [.int .i64 y84.1, .int .i64 y84.2]) rfl rfl) rfl rfl rfl ?_
                refine JL.val (v := .int .i64 y84.2) (QV.extract (vs := [.int .i64 y84.1, .int .i64 y84.2]) rfl rfl) rfl rfl rfl ?_
                refine JL.mv (d := some 10) (MV.alloc [Seg.c (.int .i64 (0 : Int))] z_3 rfl) rfl rfl rfl ?_
                rintro _ _ ⟨b86, rfl, rfl⟩
                refine JL.mv (d := some 11) (MV.alloc [Seg.c (.int .i64 (0 : Int))] z_3 rfl) rfl rfl rfl ?_
                rintro _ _ ⟨b87, rfl, rfl⟩
                refine JL.mv (d := none) (MV.store (ss := [Seg.c (.int .i64 (0 : Int))]) 1 0 1 [Seg.c (.int .i64 y84.1)] rfl tk_3 rfl rfl rfl rfl (fun w hs => ⟨rfl, one_c rfl, trivial⟩)) rfl rfl rfl ?_
                rintro _ _ ⟨rfl, rfl⟩
                refine JL.mv (d := none) (MV.store (ss := [Seg.c (.int .i64 (0 : Int))]) 0 0 1 [Seg.c (.int .i64 y84.2)] rfl tk_3 rfl rfl rfl rfl (fun w hs => ⟨rfl, one_c rfl, trivial⟩)) rfl rfl rfl ?_
                rintro _ _ ⟨rfl, rfl⟩
                refine JL.nil ?_
                refine QJ.then_normal ?_
                refine JC.seq ?_
                refine JC.seq ?_
                refine JC.region ?_
                refine JL.val (v := .int .i64 y84.2) (QV.load1 (ss := [Seg.c (.int .i64 y84.2)]) 0 0 rfl tk_3 rfl rfl rfl) rfl rfl rfl ?_
                refine JL.val (v := .bool (decide (y84.2 < (12 : Int)))) (QV.lss rfl rfl) rfl rfl rfl ?_
                refine JL.nil ?_
                refine QJ.then_normal ?_
                rcases ite_inv hm with ⟨h88, hm⟩ | ⟨h88, hm⟩
                ·
                  refine JC.condT' rfl (decide_eq_true h88) ?_
                  refine JC.seq ?_
                  refine JC.region ?_
                  refine JL.val (v := .int .i64 d67) (QV.load1 (ss := [Seg.c (.int .i64 d67)]) 10 0 rfl tk_3 rfl rfl rfl) rfl rfl rfl ?_
                  refine JL.val (v := .int .i64 (IntKind.wrap .i64 (d67 + (1 : Int)))) (QV.add rfl rfl) rfl rfl rfl ?_
                  refine JL.mv (d := none) (MV.store (ss := [Seg.c (.int .i64 d67)]) 10 0 1 [Seg.c (.int .i64 (IntKind.wrap .i64 (d67 + (1 : Int))))] rfl tk_3 rfl rfl rfl rfl (fun w hs => ⟨rfl, one_c rfl, trivial⟩)) rfl rfl rfl ?_
                  rintro _ _ ⟨rfl, rfl⟩
                  refine JL.nil ?_
                  refine QJ.then_normal ?_
                  refine JC.exit ?_
                  refine QJ.then_exit ?_
                  refine QJ.block_hit ?_
                  exact QJ.cut_normal ((d64, d65, (IntKind.wrap .i64 (d67 + (1 : Int)))), z63) hm [5, 6, 7, 8, 2, 3, 4, 9, 10] (by exact ⟨rfl, rfl, rfl, rfl, rfl, rfl, trivial⟩) rfl rfl
                ·
                  refine JC.condF' rfl (decide_eq_false h88) ?_
                  refine JC.skip ?_
                  refine QJ.then_normal ?_
                  refine JC.seq ?_
                  refine JC.region ?_
                  refine JL.val (v := .int .i64 d67) (QV.load1 (ss := [Seg.c (.int .i64 d67)]) 10 0 rfl tk_3 rfl rfl rfl) rfl rfl rfl ?_
                  refine JL.val (v := .int .i64 d65) (QV.move rfl) rfl rfl rfl ?_
                  refine JL.val (v := .int .i64 (IntKind.wrap .i64 (d67 - d65))) (QV.sub rfl rfl) rfl rfl rfl ?_
                  refine JL.val (v := .int .i64 y84.1) (QV.load1 (ss := [Seg.c (.int .i64 y84.1)]) 1 0 rfl tk_3 rfl rfl rfl) rfl rfl rfl ?_
                  refine JL.val (v := .int .i64 (minI (IntKind.wrap .i64 (d67 - d65)) y84.1)) (QV.min2 rfl rfl) rfl rfl rfl ?_
                  refine JL.val (v := .func (.func 54) #[] #[.pointer (some ⟨b8, 0, none⟩), .pointer (some ⟨z66, 0, none⟩), .pointer (some ⟨b7, 0, none⟩), .pointer (some ⟨b86, 0, none⟩)]) (QV.makeFunc (vals := [.pointer (some ⟨b8, 0, none⟩), .pointer (some ⟨z66, 0, none⟩), .pointer (some ⟨b7, 0, none⟩), .pointer (some ⟨b86, 0, none⟩)]) rfl) rfl rfl rfl ?_
                  obtain ⟨y89, hc90, hm⟩ := bind_inv hm
                  refine JL.mv (d := some 61) (MV.call (Lo := [Asr.blk b8 23 [Seg.c (s3.v)], Asr.blk z66 3 [Seg.c (.int .i64 d67)], Asr.blk b7 23 [Seg.c (s1.v)], Asr.blk b86 3 [Seg.c (.int .i64 y84.1)]]) (Lr := [Asr.blk b87 3 [Seg.c (.int .i64 y84.2)], Asr.of 5 (Enc.int .u8) (z57.v) y17.1, Asr.of 3 (Enc.int .i64) (z58.v) y17.2, Asr.blk b56 97 [Seg.c (z57.v), Seg.c (z58.v)], Asr.vw (Enc.int .u8) (s1.v) x2, Asr.vw (Enc.int .u8) (s3.v) x4, Asr.of 52 (Enc.pair (Enc.int .i64) (Enc.pair (Enc.int .i64) (Enc.int .i64))) (z63.v) d64]) (F53.spec (b8) (s3) (z66) (b7) (s1) (b86) ((minI (IntKind.wrap .i64 (d67 - d65)) y84.1)) (x4) (d67) (x2) (y84.1) _ hc90) rfl Try.func53 rfl rfl rfl [8, 10, 6, 1] [0, 2, 3, 4, 5, 7, 9] rfl rfl rfl ⟨(Drv.vw 5 rfl), ⟨(Drv.vw 4 rfl), trivial⟩⟩) rfl rfl rfl ?_
                  rintro _ _ ⟨_, ⟨rfl, rfl⟩, rfl⟩
                  refine JL.val (v := .int .i64 y89) (QV.assign rfl) rfl rfl rfl ?_
                  refine JL.nil ?_
                  refine QJ.then_normal ?_
                  refine JC.seq ?_
                  refine JC.region ?_
                  refine JL.val (v := s3.v) (QV.load1 (ss := [Seg.c (s3.v)]) 1 0 rfl tk_23 rfl rfl rfl) rfl rfl rfl ?_
                  refine JL.val (v := .int .i64 ((x4).length : Int)) (QV.len (Rdg.vw 0 rfl) Try.underlying23 rfl) rfl rfl rfl ?_
                  refine JL.val (v := .int .i64 d67) (QV.load1 (ss := [Seg.c (.int .i64 d67)]) 2 0 rfl tk_3 rfl rfl rfl) rfl rfl rfl ?_
                  refine JL.val (v := .int .i64 (IntKind.wrap .i64 (((x4).length : Int) - d67))) (QV.sub rfl rfl) rfl rfl rfl ?_
                  refine JL.val (v := .int .i64 y84.2) (QV.load1 (ss := [Seg.c (.int .i64 y84.2)]) 6 0 rfl tk_3 rfl rfl rfl) rfl rfl rfl ?_
                  refine JL.val (v := .int .i64 (IntKind.wrap .i64 ((IntKind.wrap .i64 (((x4).length : Int) - d67)) - y84.2))) (QV.sub rfl rfl) rfl rfl rfl ?_
                  refine JL.val (v := s1.v) (QV.load1 (ss := [Seg.c (s1.v)]) 4 0 rfl tk_23 rfl rfl rfl) rfl rfl rfl ?_
                  refine JL.val (v := .int .i64 ((x2).length : Int)) (QV.len (Rdg.vw 3 rfl) Try.underlying23 rfl) rfl rfl rfl ?_
                  refine JL.val (v := .int .i64 y84.1) (QV.load1 (ss := [Seg.c (.int .i64 y84.1)]) 5 0 rfl tk_3 rfl rfl rfl) rfl rfl rfl ?_
                  refine JL.val (v := .int .i64 (IntKind.wrap .i64 (((x2).length : Int) - y84.1))) (QV.sub rfl rfl) rfl rfl rfl ?_
                  refine JL.val (v := .int .i64 y84.2) (QV.load1 (ss := [Seg.c (.int .i64 y84.2)]) 6 0 rfl tk_3 rfl rfl rfl) rfl rfl rfl ?_
                  refine JL.val (v := .int .i64 (IntKind.wrap .i64 ((IntKind.wrap .i64 (((x2).length : Int) - y84.1)) - y84.2))) (QV.sub rfl rfl) rfl rfl rfl ?_
                  refine JL.val (v := .int .i64 (minI (IntKind.wrap .i64 ((IntKind.wrap .i64 (((x4).length : Int) - d67)) - y84.2)) (IntKind.wrap .i64 ((IntKind.wrap .i64 (((x2).length : Int) - y84.1)) - y84.2)))) (QV.min2 rfl rfl) rfl rfl rfl ?_
                  refine JL.val (v := .func (.func 55) #[] #[.pointer (some ⟨b8, 0, none⟩), .pointer (some ⟨z66, 0, none⟩), .pointer (some ⟨b87, 0, none⟩), .pointer (some ⟨b7, 0, none⟩), .pointer (some ⟨b86, 0, none⟩)]) (QV.makeFunc (vals := [.pointer (some ⟨b8, 0, none⟩), .pointer (some ⟨z66, 0, none⟩), .pointer (some ⟨b87, 0, none⟩), .pointer (some ⟨b7, 0, none⟩), .pointer (some ⟨b86, 0, none⟩)]) rfl) rfl rfl rfl ?_
                  obtain ⟨y91, hc92, hm⟩ := bind_inv hm
                  refine JL.mv (d := some 76) (MV.call (Lo := [Asr.blk b8 23 [Seg.c (s3.v)], Asr.blk z66 3 [Seg.c (.int .i64 d67)], Asr.blk b87 3 [Seg.c (.int .i64 y84.2)], Asr.blk b7 23 [Seg.c (s1.v)], Asr.blk b86 3 [Seg.c (.int .i64 y84.1)]]) (Lr := [Asr.vw (Enc.int .u8) (s3.v) x4, Asr.vw (Enc.int .u8) (s1.v) x2, Asr.of 5 (Enc.int .u8) (z57.v) y17.1, Asr.of 3 (Enc.int .i64) (z58.v) y17.2, Asr.blk b56 97 [Seg.c (z57.v), Seg.c (z58.v)], Asr.vw (Enc.int .u8) (s1.v) x2, Asr.vw (Enc.int .u8) (s3.v) x4, Asr.of 52 (Enc.pair (Enc.int .i64) (Enc.pair (Enc.int .i64) (Enc.int .i64))) (z63.v) d64]) (F53_1.spec (b8) (s3) (z66) (b87) (b7) (s1) (b86) ((minI (IntKind.wrap .i64 ((IntKind.wrap .i64 (((x4).length : Int) - d67)) - y84.2)) (IntKind.wrap .i64 ((IntKind.wrap .i64 (((x2).length : Int) - y84.1)) - y84.2)))) (x4) (d67) (y84.2) (x2) (y84.1) _ hc92) rfl Try.func53 rfl rfl rfl [1, 2, 6, 4, 5] [0, 3, 7, 8, 9, 10, 11, 12] rfl rfl rfl ⟨(Drv.vw 0 rfl), ⟨(Drv.vw 1 rfl), trivial⟩⟩) rfl rfl rfl ?_
                  rintro _ _ ⟨_, ⟨rfl, rfl⟩, rfl⟩
                  refine JL.val (v := .int .i64 y91) (QV.assign rfl) rfl rfl rfl ?_
                  refine JL.nil ?_
                  refine QJ.then_normal ?_
                  refine JC.seq ?_
                  refine JC.region ?_
                  refine JL.val (v := .int .i64 d67) (QV.load1 (ss := [Seg.c (.int .i64 d67)]) 2 0 rfl tk_3 rfl rfl rfl) rfl rfl rfl ?_
                  refine JL.val (v := .int .i64 y89) (QV.move rfl) rfl rfl rfl ?_
                  refine JL.val (v := .int .i64 (IntKind.wrap .i64 (d67 - y89))) (QV.sub rfl rfl) rfl rfl rfl ?_
                  refine JL.val (v := .int .i64 y84.1) (QV.load1 (ss := [Seg.c (.int .i64 y84.1)]) 6 0 rfl tk_3 rfl rfl rfl) rfl rfl rfl ?_
                  refine JL.val (v := .int .i64 y89) (QV.move rfl) rfl rfl rfl ?_
                  refine JL.val (v := .int .i64 (IntKind.wrap .i64 (y84.1 - y89))) (QV.sub rfl rfl) rfl rfl rfl ?_
                  refine JL.val (v := .int .i64 y89) (QV.move rfl) rfl rfl rfl ?_
                  refine JL.val (v := .int .i64 y84.2) (QV.load1 (ss := [Seg.c (.int .i64 y84.2)]) 3 0 rfl tk_3 rfl rfl rfl) rfl rfl rfl ?_
                  refine JL.val (v := .int .i64 (IntKind.wrap .i64 (y89 + y84.2))) (QV.add rfl rfl) rfl rfl rfl ?_
                  refine JL.val (v := .int .i64 y91) (QV.move rfl) rfl rfl rfl ?_
                  refine JL.val (v := .int .i64 (IntKind.wrap .i64 ((IntKind.wrap .i64 (y89 + y84.2)) + y91))) (QV.add rfl rfl) rfl rfl rfl ?_
                  refine JL.val (v := .agg #[.int .i64 (IntKind.wrap .i64 (d67 - y89)), .int .i64 (IntKind.wrap .i64 (y84.1 - y89)), .int .i64 (IntKind.wrap .i64 ((IntKind.wrap .i64 (y89 + y84.2)) + y91))]) (QV.build (vals := [(0, .int .i64 (IntKind.wrap .i64 (d67 - y89))), (1, .int .i64 (IntKind.wrap .i64 (y84.1 - y89))), (2, .int .i64 (IntKind.wrap .i64 ((IntKind.wrap .i64 (y89 + y84.2)) + y91)))]) rfl (by kernel_rfl)) rfl rfl rfl ?_
                  refine JL.mv (d := some 14) (MV.alloc [Seg.c (.int .i64 (0 : Int)), Seg.c (.int .i64 (0 : Int)), Seg.c (.int .i64 (0 : Int))] z_52 rfl) rfl rfl rfl ?_
                  rintro _ _ ⟨b93, rfl, rfl⟩
                  refine JL.mv (d := none) (MV.store (ss := [Seg.c (.int .i64 (0 : Int)), Seg.c (.int .i64 (0 : Int)), Seg.c (.int .i64 (0 : Int))]) 0 0 3 [Seg.c (.int .i64 (IntKind.wrap .i64 (d67 - y89))), Seg.c (.int .i64 (IntKind.wrap .i64 (y84.1 - y89))), Seg.c (.int .i64 (IntKind.wrap .i64 ((IntKind.wrap .i64 (y89 + y84.2)) + y91)))] rfl tk_52 rfl rfl rfl rfl (fun w hs => ⟨rfl, one_c rfl, one_c rfl, one_c rfl, trivial⟩)) rfl rfl rfl ?_
                  rintro _ _ ⟨rfl, rfl⟩
                  refine JL.nil ?_
                  refine QJ.then_normal ?_
                  refine JC.seq ?_
                  refine JC.region ?_
                  refine JL.val (v := z63.v) (QV.move rfl) rfl rfl rfl ?_
                  refine JL.val (v := .agg #[.int .i64 (IntKind.wrap .i64 (d67 - y89)), .int .i64 (IntKind.wrap .i64 (y84.1 - y89)), .int .i64 (IntKind.wrap .i64 ((IntKind.wrap .i64 (y89 + y84.2)) + y91))]) (QV.eq (QV.loadN (ss := [Seg.c (.int .i64 (IntKind.wrap .i64 (d67 - y89))), Seg.c (.int .i64 (IntKind.wrap .i64 (y84.1 - y89))), Seg.c (.int .i64 (IntKind.wrap .i64 ((IntKind.wrap .i64 (y89 + y84.2)) + y91)))]) 0 0 3 rfl tk_52 rfl rfl rfl rfl) rfl) rfl rfl rfl ?_
                  refine JL.mv (d := some 91) (MV.lit (E := (Enc.pair (Enc.int .i64) (Enc.pair (Enc.int .i64) (Enc.int .i64)))) (vals := [(0, .agg #[.int .i64 (IntKind.wrap .i64 (d67 - y89)), .int .i64 (IntKind.wrap .i64 (y84.1 - y89)), .int .i64 (IntKind.wrap .i64 ((IntKind.wrap .i64 (y89 + y84.2)) + y91))])]) [((IntKind.wrap .i64 (d67 - y89)), (IntKind.wrap .i64 (y84.1 - y89)), (IntKind.wrap .i64 ((IntKind.wrap .i64 (y89 + y84.2)) + y91)))] Try.underlying47 zi_52 rfl (by decide) rfl (by kernel_rfl)) rfl rfl rfl ?_
                  rintro _ _ ⟨z94, rfl, rfl⟩
                  obtain ⟨h95, hm⟩ := guard_inv hm
                  refine JL.mv (d := some 92) (MV.append 16 rfl (Rdg.of 0 rfl) Try.underlying47 zi_52 rfl (by decide) rfl rfl h95) rfl rfl rfl ?_
                  rintro _ _ ⟨z96, rfl, rfl⟩
                  refine JL.val (v := z96.v) (QV.assign rfl) rfl rfl rfl ?_
                  refine JL.nil ?_
                  refine QJ.then_normal ?_
                  refine JC.seq ?_
                  refine JC.region ?_
                  refine JL.val (v := .pointer (some ⟨b93, 0, none⟩)) (QV.fieldB fo_52_0 rfl rfl) rfl rfl rfl ?_
                  refine JL.val (v := .int .i64 (IntKind.wrap .i64 (d67 - y89))) (QV.load1 (ss := [Seg.c (.int .i64 (IntKind.wrap .i64 (d67 - y89))), Seg.c (.int .i64 (IntKind.wrap .i64 (y84.1 - y89))), Seg.c (.int .i64 (IntKind.wrap .i64 ((IntKind.wrap .i64 (y89 + y84.2)) + y91)))]) 1 0 rfl tk_3 rfl rfl rfl) rfl rfl rfl ?_
                  refine JL.val (v := .pointer (some ⟨b93, 2, none⟩)) (QV.fieldB fo_52_2 rfl rfl) rfl rfl rfl ?_
                  refine JL.val (v := .int .i64 (IntKind.wrap .i64 ((IntKind.wrap .i64 (y89 + y84.2)) + y91))) (QV.load1 (ss := [Seg.c (.int .i64 (IntKind.wrap .i64 (d67 - y89))), Seg.c (.int .i64 (IntKind.wrap .i64 (y84.1 - y89))), Seg.c (.int .i64 (IntKind.wrap .i64 ((IntKind.wrap .i64 (y89 + y84.2)) + y91)))]) 1 2 rfl tk_3 rfl rfl rfl) rfl rfl rfl ?_
                  refine JL.val (v := .int .i64 (IntKind.wrap .i64 ((IntKind.wrap .i64 (d67 - y89)) + (IntKind.wrap .i64 ((IntKind.wrap .i64 (y89 + y84.2)) + y91))))) (QV.add rfl rfl) rfl rfl rfl ?_
                  refine JL.val (v := .int .i64 (IntKind.wrap .i64 ((IntKind.wrap .i64 (d67 - y89)) + (IntKind.wrap .i64 ((IntKind.wrap .i64 (y89 + y84.2)) + y91))))) (QV.assign rfl) rfl rfl rfl ?_
                  refine JL.nil ?_
                  refine QJ.then_normal ?_
                  refine JC.region ?_
                  refine JL.val (v := .int .i64 (IntKind.wrap .i64 ((IntKind.wrap .i64 (d67 - y89)) + (IntKind.wrap .i64 ((IntKind.wrap .i64 (y89 + y84.2)) + y91))))) (QV.move rfl) rfl rfl rfl ?_
                  refine JL.mv (d := none) (MV.store (ss := [Seg.c (.int .i64 d67)]) 4 0 1 [Seg.c (.int .i64 (IntKind.wrap .i64 ((IntKind.wrap .i64 (d67 - y89)) + (IntKind.wrap .i64 ((IntKind.wrap .i64 (y89 + y84.2)) + y91)))))] rfl tk_3 rfl rfl rfl rfl (fun w hs => ⟨rfl, one_c rfl, trivial⟩)) rfl rfl rfl ?_
                  rintro _ _ ⟨rfl, rfl⟩
                  refine JL.nil ?_
                  refine QJ.block_normal ?_
                  exact QJ.cut_normal (((d64 ++ [((IntKind.wrap .i64 (d67 - y89)), (IntKind.wrap .i64 (y84.1 - y89)), (IntKind.wrap .i64 ((IntKind.wrap .i64 (y89 + y84.2)) + y91)))]), (IntKind.wrap .i64 ((IntKind.wrap .i64 (d67 - y89)) + (IntKind.wrap .i64 ((IntKind.wrap .i64 (y89 + y84.2)) + y91)))), (IntKind.wrap .i64 ((IntKind.wrap .i64 (d67 - y89)) + (IntKind.wrap .i64 ((IntKind.wrap .i64 (y89 + y84.2)) + y91))))), z96) hm [6, 7, 2, 3, 11, 12, 13, 16, 4] (by exact ⟨rfl, rfl, rfl, rfl, rfl, rfl, trivial⟩) rfl rfl
            ·
              refine JC.condF' rfl (decide_eq_false h77) ?_
              refine JC.exit ?_
              refine QJ.then_exit ?_
              obtain rfl := Option.some.inj hm
              refine QJ.round_exit (fun hy => ?_)
              subst hy
              refine QJ.block_hit ?_
              exact QJ.cut_normal (d64, z63) hmo75 [7] (by exact ⟨rfl, trivial⟩) rfl rfl
        ·
          refine JC.condT' rfl (congrArg Bool.not (decide_eq_false h59)) ?_
          refine JC.seq ?_
          refine JC.region ?_
          refine JL.ent (fun _ hs => hs.nil 52 (Enc.pair (Enc.int .i64) (Enc.pair (Enc.int .i64) (Enc.int .i64)))) ?_
          refine JL.val (v := SlV.nil.v) (QV.assign rfl) rfl rfl rfl ?_
          refine JL.nil ?_
          refine QJ.then_normal ?_
          refine JC.ret ?_
          refine QJ.then_ret ?_
          obtain rfl := Option.some.inj hm
          exact QJ.body (vs := [SlV.nil.v]) (.inl rfl) rfl (ResVs.cons (ResV.tmp rfl) ResVs.nil) [0] rfl rfl (.inr ⟨own_of _ _ _ _, trivial⟩) ⟨(SlV.nil), rfl, rfl⟩
  ·
    refine JL.val (v := .bool false) (QV.eq (QV.move rfl) (congrArg Value.bool (decide_eq_false h9))) rfl rfl rfl ?_
    refine JL.skip (d := some 19) rfl rfl rfl ?_
    refine JL.skip (d := some 20) rfl rfl rfl ?_
    refine JL.skip (d := some 21) rfl rfl rfl ?_
    refine JL.val (v := .bool false) (QV.pickF rfl rfl) rfl rfl rfl ?_
    refine JL.nil ?_
    refine QJ.then_normal ?_
    refine JC.condF rfl ?_
    refine JC.skip ?_
    refine QJ.then_normal ?_
    refine JC.seq ?_
    refine JC.region ?_
    refine JL.val (v := s1.v) (QV.load1 (ss := [Seg.c (s1.v)]) 2 0 rfl tk_23 rfl rfl rfl) rfl rfl rfl ?_
    obtain ⟨y97, hc98, hm⟩ := bind_inv hm
    rcases y97 with y99 | y100
    ·
      refine JL.mv (d := some 29) (MV.call (Lo := []) (Lr := [Asr.of 52 (Enc.pair (Enc.int .i64) (Enc.pair (Enc.int .i64) (Enc.int .i64))) (SlV.nil.v) ([] : List (Int × Int × Int)), Asr.blk b8 23 [Seg.c (s3.v)], Asr.blk b7 23 [Seg.c (s1.v)], Asr.vw (Enc.int .u8) (s1.v) x2, Asr.vw (Enc.int .u8) (s3.v) x4]) (F51.spec (s1) (x2) _ hc98) rfl Try.func51 rfl rfl rfl [] [0, 1, 2, 3, 4] rfl rfl rfl ⟨(Drv.vw 3 rfl), trivial⟩) rfl rfl rfl ?_
      rintro _ _ ⟨_, ⟨rfl, rfl⟩, rfl⟩
      refine JL.val (v := .tuple #[.pointer none, .int .i64 (4 : Int)]) (QV.move rfl) rfl rfl rfl ?_
      refine JL.val (v := .pointer none) (QV.extract (vs := [.pointer none, .int .i64 (4 : Int)]) rfl rfl) rfl rfl rfl ?_
      refine JL.val (v := .int .i64 (4 : Int)) (QV.extract (vs := [.pointer none, .int .i64 (4 : Int)]) rfl rfl) rfl rfl rfl ?_
      refine JL.val (v := .pointer none) (QV.assign rfl) rfl rfl rfl ?_
      refine JL.val (v := .int .i64 (4 : Int)) (QV.assign rfl) rfl rfl rfl ?_
      refine JL.nil ?_
      refine QJ.then_normal ?_
      refine JC.seq ?_
      refine JC.seq ?_
      refine JC.region ?_
      refine JL.val (v := .int .i64 (4 : Int)) (QV.move rfl) rfl rfl rfl ?_
      refine JL.val (v := .bool (!(decide ((4 : Int) = (0 : Int))))) (QV.neq rfl rfl) rfl rfl rfl ?_
      refine JL.nil ?_
      refine QJ.then_normal ?_
      rcases ite_inv hm with ⟨h101, hm⟩ | ⟨h101, hm⟩
      ·
        refine JC.condF' rfl (congrArg Bool.not (decide_eq_true h101)) ?_
        refine JC.skip ?_
        refine QJ.then_normal ?_
        refine JC.seq ?_
        refine JC.region ?_
        refine JL.ent (fun _ hs => hs.nil 52 (Enc.pair (Enc.int .i64) (Enc.pair (Enc.int .i64) (Enc.int .i64)))) ?_
        refine JL.val (v := SlV.nil.v) (QV.assign rfl) rfl rfl rfl ?_
        refine JL.nil ?_
        refine QJ.then_normal ?_
        refine JC.seq ?_
        refine JC.region ?_
        refine JL.val (v := .int .i64 (0 : Int)) (QV.assign rfl) rfl rfl rfl ?_
        refine JL.nil ?_
        refine QJ.then_normal ?_
        refine JC.seq ?_
        refine JC.seq ?_
        refine JC.region ?_
        refine JL.mv (d := some 9) (MV.alloc [Seg.c (.int .i64 (0 : Int))] z_3 rfl) rfl rfl rfl ?_
        rintro _ _ ⟨b102, rfl, rfl⟩
        refine JL.mv (d := none) (MV.store (ss := [Seg.c (.int .i64 (0 : Int))]) 0 0 1 [Seg.c (.int .i64 (0 : Int))] rfl tk_3 rfl rfl rfl rfl (fun w hs => ⟨rfl, one_c rfl, trivial⟩)) rfl rfl rfl ?_
        rintro _ _ ⟨rfl, rfl⟩
        refine JL.nil ?_
        refine QJ.then_normal ?_
        refine JC.cutK (Y := (List (Int × Int × Int)) × SlV) (fun y => match y with | (d104, _) => F28.j5 (d104) = some r) (fun y => match y with | (d104, z103) => [(7, z103.v)]) (fun y => match y with | (d104, z103) => [Asr.of 52 (Enc.pair (Enc.int .i64) (Enc.pair (Enc.int .i64) (Enc.int .i64))) (z103.v) d104]) ?_ ?_
        ·
          rintro ⟨d104, z103⟩ hm
          unfold F28.j5 at hm
          show QJ _ _ [(7, z103.v)] [Asr.of 52 (Enc.pair (Enc.int .i64) (Enc.pair (Enc.int .i64) (Enc.int .i64))) (z103.v) d104] _ _
          refine QJ.then_normal ?_
          refine JC.seq ?_
          refine JC.region ?_
          refine JL.val (v := z103.v) (QV.move rfl) rfl rfl rfl ?_
          refine JL.val (v := z103.v) (QV.assign rfl) rfl rfl rfl ?_
          refine JL.nil ?_
          refine QJ.then_normal ?_
          refine JC.ret ?_
          obtain rfl := Option.some.inj hm
          exact QJ.body (vs := [z103.v]) (.inl rfl) rfl (ResVs.cons (ResV.tmp rfl) ResVs.nil) [0] rfl rfl (.inr ⟨own_of _ _ _ _, trivial⟩) ⟨z103, rfl, rfl⟩
        ·
          refine JC.block ?_
          obtain ⟨y115, hl116, hmo117⟩ := bind_inv hm
          refine JC.loop (F28.b3 x2 x4) (fun x z => match x, z with | (d106, d107, d109), (z105, z108) => [(2, .pointer (some ⟨b7, 0, none⟩)), (3, .pointer (some ⟨b8, 0, none⟩)), (5, .pointer none), (7, z105.v), (8, .int .i64 d107), (9, .pointer (some ⟨z108, 0, none⟩))]) (fun x z => match x, z with | (d106, d107, d109), (z105, z108) => [Asr.vw (Enc.int .u8) (s1.v) x2, Asr.blk b7 23 [Seg.c (s1.v)], Asr.vw (Enc.int .u8) (s3.v) x4, Asr.blk b8 23 [Seg.c (s3.v)], Asr.of 52 (Enc.pair (Enc.int .i64) (Enc.pair (Enc.int .i64) (Enc.int .i64))) (z105.v) d106, Asr.blk z108 3 [Seg.c (.int .i64 d109)]]) (([] : List (Int × Int × Int)), (0 : Int), (0 : Int)) (SlV.nil, b102) y115 hl116 [5, 4, 6, 3, 1, 0] (by exact ⟨rfl, rfl, rfl, rfl, rfl, rfl, trivial⟩) rfl rfl ?_
          rintro ⟨d106, d107, d109⟩ ⟨z105, z108⟩ s118 hm
          unfold F28.b3 at hm
          dsimp only at hm
          show JC _ _ _ [(2, .pointer (some ⟨b7, 0, none⟩)), (3, .pointer (some ⟨b8, 0, none⟩)), (5, .pointer none), (7, z105.v), (8, .int .i64 d107), (9, .pointer (some ⟨z108, 0, none⟩))] [Asr.vw (Enc.int .u8) (s1.v) x2, Asr.blk b7 23 [Seg.c (s1.v)], Asr.vw (Enc.int .u8) (s3.v) x4, Asr.blk b8 23 [Seg.c (s3.v)], Asr.of 52 (Enc.pair (Enc.int .i64) (Enc.pair (Enc.int .i64) (Enc.int .i64))) (z105.v) d106, Asr.blk z108 3 [Seg.c (.int .i64 d109)]] _ _
          refine JC.seq ?_
          refine JC.seq ?_
          refine JC.region ?_
          refine JL.val (v := .int .i64 d109) (QV.load1 (ss := [Seg.c (.int .i64 d109)]) 5 0 rfl tk_3 rfl rfl rfl) rfl rfl rfl ?_
          refine JL.val (v := s3.v) (QV.load1 (ss := [Seg.c (s3.v)]) 3 0 rfl tk_23 rfl rfl rfl) rfl rfl rfl ?_
          refine JL.val (v := .int .i64 ((x4).length : Int)) (QV.len (Rdg.vw 2 rfl) Try.underlying23 rfl) rfl rfl rfl ?_
          refine JL.val (v := .bool (decide (d109 < ((x4).length : Int)))) (QV.lss rfl rfl) rfl rfl rfl ?_
          refine JL.nil ?_
          refine QJ.then_normal ?_
          rcases ite_inv hm with ⟨h119, hm⟩ | ⟨h119, hm⟩
          ·
            refine JC.condT' rfl (decide_eq_true h119) ?_
            refine JC.skip ?_
            refine QJ.then_normal ?_
            refine JC.seq ?_
            refine JC.cutK (Y := (List (Int × Int × Int) × Int × Int) × SlV) (fun y => match y with | ((d121, d122, d123), _) => F28.j6 (d121) (d122) (d123) = some s118) (fun y => match y with | ((d121, d122, d123), z120) => [(2, .pointer (some ⟨b7, 0, none⟩)), (3, .pointer (some ⟨b8, 0, none⟩)), (5, .pointer none), (7, z120.v), (8, .int .i64 d122), (9, .pointer (some ⟨z108, 0, none⟩))]) (fun y => match y with | ((d121, d122, d123), z120) => [Asr.vw (Enc.int .u8) (s1.v) x2, Asr.blk b7 23 [Seg.c (s1.v)], Asr.vw (Enc.int .u8) (s3.v) x4, Asr.blk b8 23 [Seg.c (s3.v)], Asr.of 52 (Enc.pair (Enc.int .i64) (Enc.pair (Enc.int .i64) (Enc.int .i64))) (z120.v) d121, Asr.blk z108 3 [Seg.c (.int .i64 d123)]]) ?_ ?_
            ·
              rintro ⟨⟨d121, d122, d123⟩, z120⟩ hm
              unfold F28.j6 at hm
              show QJ _ _ [(2, .pointer (some ⟨b7, 0, none⟩)), (3, .pointer (some ⟨b8, 0, none⟩)), (5, .pointer none), (7, z120.v), (8, .int .i64 d122), (9, .pointer (some ⟨z108, 0, none⟩))] [Asr.vw (Enc.int .u8) (s1.v) x2, Asr.blk b7 23 [Seg.c (s1.v)], Asr.vw (Enc.int .u8) (s3.v) x4, Asr.blk b8 23 [Seg.c (s3.v)], Asr.of 52 (Enc.pair (Enc.int .i64) (Enc.pair (Enc.int .i64) (Enc.int .i64))) (z120.v) d121, Asr.blk z108 3 [Seg.c (.int .i64 d123)]] _ _
              refine QJ.then_normal ?_
              refine JC.seq ?_
              refine JC.region ?_
              refine JL.val (v := .int .i64 d123) (QV.load1 (ss := [Seg.c (.int .i64 d123)]) 5 0 rfl tk_3 rfl rfl rfl) rfl rfl rfl ?_
              refine JL.nil ?_
              refine QJ.then_normal ?_
              refine JC.region ?_
              refine JL.mv (d := some 9) (MV.alloc [Seg.c (.int .i64 (0 : Int))] z_3 rfl) rfl rfl rfl ?_
              rintro _ _ ⟨b124, rfl, rfl⟩
              refine JL.mv (d := none) (MV.store (ss := [Seg.c (.int .i64 (0 : Int))]) 0 0 1 [Seg.c (.int .i64 d123)] rfl tk_3 rfl rfl rfl rfl (fun w hs => ⟨rfl, one_c rfl, trivial⟩)) rfl rfl rfl ?_
              rintro _ _ ⟨rfl, rfl⟩
              refine JL.nil ?_
              obtain rfl := Option.some.inj hm
              exact QJ.round_on (d121, d122, d123) (z120, b124) [1, 2, 3, 4, 5, 0] (by exact ⟨rfl, rfl, rfl, rfl, rfl, rfl, trivial⟩) rfl rfl
            ·
              refine JC.block ?_
              refine JC.seq ?_
              refine JC.region ?_
              refine JL.val (v := .pointer none) (QV.move rfl) rfl rfl rfl ?_
              refine JL.val (v := s3.v) (QV.load1 (ss := [Seg.c (s3.v)]) 3 0 rfl tk_23 rfl rfl rfl) rfl rfl rfl ?_
              refine JL.val (v := .int .i64 d109) (QV.load1 (ss := [Seg.c (.int .i64 d109)]) 5 0 rfl tk_3 rfl rfl rfl) rfl rfl rfl ?_
              refine JL.val (v := s3.v) (QV.load1 (ss := [Seg.c (s3.v)]) 3 0 rfl tk_23 rfl rfl rfl) rfl rfl rfl ?_
              refine JL.val (v := .int .i64 ((x4).length : Int)) (QV.len (Rdg.vw 2 rfl) Try.underlying23 rfl) rfl rfl rfl ?_
              refine JL.val (v := .int .i64 d109) (QV.load1 (ss := [Seg.c (.int .i64 d109)]) 5 0 rfl tk_3 rfl rfl rfl) rfl rfl rfl ?_
              refine JL.val (v := .int .i64 (IntKind.wrap .i64 (d109 + (16384 : Int)))) (QV.add rfl rfl) rfl rfl rfl ?_
              refine JL.val (v := .int .i64 (minI ((x4).length : Int) (IntKind.wrap .i64 (d109 + (16384 : Int))))) (QV.min2 rfl rfl) rfl rfl rfl ?_
              obtain ⟨h125, hm⟩ := guard_inv hm
              refine JL.val (v := (SlV.sub ((Enc.int .u8)).sz s3 d109 (minI ((x4).length : Int) (IntKind.wrap .i64 (d109 + (16384 : Int))))).v) (QV.sliceV (Rdg.vw 2 rfl) Try.underlying23 tk_5 rfl rfl rfl h125) rfl rfl rfl ?_
              obtain ⟨y126, hc127, hm⟩ := bind_inv hm
              refine JL.mv (d := some 48) (MV.call (Lo := []) (Lr := [Asr.vw (Enc.int .u8) (s1.v) x2, Asr.blk b7 23 [Seg.c (s1.v)], Asr.vw (Enc.int .u8) (s3.v) x4, Asr.blk b8 23 [Seg.c (s3.v)], Asr.of 52 (Enc.pair (Enc.int .i64) (Enc.pair (Enc.int .i64) (Enc.int .i64))) (z105.v) d106, Asr.blk z108 3 [Seg.c (.int .i64 d109)]]) (F52.spec ((SlV.sub ((Enc.int .u8)).sz s3 d109 (minI ((x4).length : Int) (IntKind.wrap .i64 (d109 + (16384 : Int)))))) ((subL x4 d109 (minI ((x4).length : Int) (IntKind.wrap .i64 (d109 + (16384 : Int)))))) _ hc127) rfl Try.func52 rfl rfl rfl [] [0, 1, 2, 3, 4, 5] rfl rfl rfl ⟨((Drv.vw 2 rfl).subV h125), trivial⟩) rfl rfl rfl ?_
              rintro _ _ ⟨_, ⟨rfl, rfl⟩, rfl⟩
              refine JL.val (v := .tuple #[.int .i64 (0 : Int), .int .i64 (0 : Int)]) (QV.move rfl) rfl rfl rfl ?_
              refine JL.val (v := .int .i64 (0 : Int)) (QV.extract (vs := [.int .i64 (0 : Int), .int .i64 (0 : Int)]) rfl rfl) rfl rfl rfl ?_
              refine JL.val (v := .int .i64 (0 : Int)) (QV.extract (vs := [.int .i64 (0 : Int), .int .i64 (0 : Int)]) rfl rfl) rfl rfl rfl ?_
              refine JL.mv (d := some 10) (MV.alloc [Seg.c (.int .i64 (0 : Int))] z_3 rfl) rfl rfl rfl ?_
              rintro _ _ ⟨b128, rfl, rfl⟩
              refine JL.mv (d := some 11) (MV.alloc [Seg.c (.int .i64 (0 : Int))] z_3 rfl) rfl rfl rfl ?_
              rintro _ _ ⟨b129, rfl, rfl⟩
              refine JL.mv (d := none) (MV.store (ss := [Seg.c (.int .i64 (0 : Int))]) 1 0 1 [Seg.c (.int .i64 (0 : Int))] rfl tk_3 rfl rfl rfl rfl (fun w hs => ⟨rfl, one_c rfl, trivial⟩)) rfl rfl rfl ?_
              rintro _ _ ⟨rfl, rfl⟩
              refine JL.mv (d := none) (MV.store (ss := [Seg.c (.int .i64 (0 : Int))]) 0 0 1 [Seg.c (.int .i64 (0 : Int))] rfl tk_3 rfl rfl rfl rfl (fun w hs => ⟨rfl, one_c rfl, trivial⟩)) rfl rfl rfl ?_
              rintro _ _ ⟨rfl, rfl⟩
              refine JL.nil ?_
              refine QJ.then_normal ?_
              refine JC.seq ?_
              refine JC.seq ?_
              refine JC.region ?_
              refine JL.val (v := .int .i64 (0 : Int)) (QV.load1 (ss := [Seg.c (.int .i64 (0 : Int))]) 0 0 rfl tk_3 rfl rfl rfl) rfl rfl rfl ?_
              refine JL.val (v := .bool (decide ((0 : Int) < (12 : Int)))) (QV.lss rfl rfl) rfl rfl rfl ?_
              refine JL.nil ?_
              refine QJ.then_normal ?_
              rcases ite_inv hm with ⟨h130, hm⟩ | ⟨h130, hm⟩
              ·
                refine JC.condT' rfl (decide_eq_true h130) ?_
                refine JC.seq ?_
                refine JC.region ?_
                refine JL.val (v := .int .i64 d109) (QV.load1 (ss := [Seg.c (.int .i64 d109)]) 7 0 rfl tk_3 rfl rfl rfl) rfl rfl rfl ?_
                refine JL.val (v := .int .i64 (IntKind.wrap .i64 (d109 + (1 : Int)))) (QV.add rfl rfl) rfl rfl rfl ?_
                refine JL.mv (d := none) (MV.store (ss := [Seg.c (.int .i64 d109)]) 7 0 1 [Seg.c (.int .i64 (IntKind.wrap .i64 (d109 + (1 : Int))))] rfl tk_3 rfl rfl rfl rfl (fun w hs => ⟨rfl, one_c rfl, trivial⟩)) rfl rfl rfl ?_
                rintro _ _ ⟨rfl, rfl⟩
                refine JL.nil ?_
                refine QJ.then_normal ?_
                refine JC.exit ?_
                refine QJ.then_exit ?_
                refine QJ.block_hit ?_
                exact QJ.cut_normal ((d106, d107, (IntKind.wrap .i64 (d109 + (1 : Int)))), z105) hm [2, 3, 4, 5, 6, 7] (by exact ⟨rfl, rfl, rfl, rfl, rfl, rfl, trivial⟩) rfl rfl
              ·
                refine JC.condF' rfl (decide_eq_false h130) ?_
                refine JC.skip ?_
                refine QJ.then_normal ?_
                refine JC.seq ?_
                refine JC.region ?_
                refine JL.val (v := .int .i64 d109) (QV.load1 (ss := [Seg.c (.int .i64 d109)]) 7 0 rfl tk_3 rfl rfl rfl) rfl rfl rfl ?_
                refine JL.val (v := .int .i64 d107) (QV.move rfl) rfl rfl rfl ?_
                refine JL.val (v := .int .i64 (IntKind.wrap .i64 (d109 - d107))) (QV.sub rfl rfl) rfl rfl rfl ?_
                refine JL.val (v := .int .i64 (0 : Int)) (QV.load1 (ss := [Seg.c (.int .i64 (0 : Int))]) 1 0 rfl tk_3 rfl rfl rfl) rfl rfl rfl ?_
                refine JL.val (v := .int .i64 (minI (IntKind.wrap .i64 (d109 - d107)) (0 : Int))) (QV.min2 rfl rfl) rfl rfl rfl ?_
                refine JL.val (v := .func (.func 54) #[] #[.pointer (some ⟨b8, 0, none⟩), .pointer (some ⟨z108, 0, none⟩), .pointer (some ⟨b7, 0, none⟩), .pointer (some ⟨b128, 0, none⟩)]) (QV.makeFunc (vals := [.pointer (some ⟨b8, 0, none⟩), .pointer (some ⟨z108, 0, none⟩), .pointer (some ⟨b7, 0, none⟩), .pointer (some ⟨b128, 0, none⟩)]) rfl) rfl rfl rfl ?_
                obtain ⟨y131, hc132, hm⟩ := bind_inv hm
                refine JL.mv (d := some 61) (MV.call (Lo := [Asr.blk b8 23 [Seg.c (s3.v)], Asr.blk z108 3 [Seg.c (.int .i64 d109)], Asr.blk b7 23 [Seg.c (s1.v)], Asr.blk b128 3 [Seg.c (.int .i64 (0 : Int))]]) (Lr := [Asr.blk b129 3 [Seg.c (.int .i64 (0 : Int))], Asr.vw (Enc.int .u8) (s1.v) x2, Asr.vw (Enc.int .u8) (s3.v) x4, Asr.of 52 (Enc.pair (Enc.int .i64) (Enc.pair (Enc.int .i64) (Enc.int .i64))) (z105.v) d106]) (F53.spec (b8) (s3) (z108) (b7) (s1) (b128) ((minI (IntKind.wrap .i64 (d109 - d107)) (0 : Int))) (x4) (d109) (x2) ((0 : Int)) _ hc132) rfl Try.func53 rfl rfl rfl [5, 7, 3, 1] [0, 2, 4, 6] rfl rfl rfl ⟨(Drv.vw 2 rfl), ⟨(Drv.vw 1 rfl), trivial⟩⟩) rfl rfl rfl ?_
                rintro _ _ ⟨_, ⟨rfl, rfl⟩, rfl⟩
                refine JL.val (v := .int .i64 y131) (QV.assign rfl) rfl rfl rfl ?_
                refine JL.nil ?_
                refine QJ.then_normal ?_
                refine JC.seq ?_
                refine JC.region ?_
                refine JL.val (v := s3.v) (QV.load1 (ss := [Seg.c (s3.v)]) 1 0 rfl tk_23 rfl rfl rfl) rfl rfl rfl ?_
                refine JL.val (v := .int .i64 ((x4).length : Int)) (QV.len (Rdg.vw 0 rfl) Try.underlying23 rfl) rfl rfl rfl ?_
                refine JL.val (v := .int .i64 d109) (QV.load1 (ss := [Seg.c (.int .i64 d109)]) 2 0 rfl tk_3 rfl rfl rfl) rfl rfl rfl ?_
                refine JL.val (v := .int .i64 (IntKind.wrap .i64 (((x4).length : Int) - d109))) (QV.sub rfl rfl) rfl rfl rfl ?_
                refine JL.val (v := .int .i64 (0 : Int)) (QV.load1 (ss := [Seg.c (.int .i64 (0 : Int))]) 6 0 rfl tk_3 rfl rfl rfl) rfl rfl rfl ?_
                refine JL.val (v := .int .i64 (IntKind.wrap .i64 ((IntKind.wrap .i64 (((x4).length : Int) - d109)) - (0 : Int)))) (QV.sub rfl rfl) rfl rfl rfl ?_
                refine JL.val (v := s1.v) (QV.load1 (ss := [Seg.c (s1.v)]) 4 0 rfl tk_23 rfl rfl rfl) rfl rfl rfl ?_
                refine JL.val (v := .int .i64 ((x2).length : Int)) (QV.len (Rdg.vw 3 rfl) Try.underlying23 rfl) rfl rfl rfl ?_
                refine JL.val (v := .int .i64 (0 : Int)) (QV.load1 (ss := [Seg.c (.int .i64 (0 : Int))]) 5 0 rfl tk_3 rfl rfl rfl) rfl rfl rfl ?_
                refine JL.val (v := .int .i64 (IntKind.wrap .i64 (((x2).length : Int) - (0 : Int)))) (QV.sub rfl rfl) rfl rfl rfl ?_
                refine JL.val (v := .int .i64 (0 : Int)) (QV.load1 (ss := [Seg.c (.int .i64 (0 : Int))]) 6 0 rfl tk_3 rfl rfl rfl) rfl rfl rfl ?_
                refine JL.val (v := .int .i64 (IntKind.wrap .i64 ((IntKind.wrap .i64 (((x2).length : Int) - (0 : Int))) - (0 : Int)))) (QV.sub rfl rfl) rfl rfl rfl ?_
                refine JL.val (v := .int .i64 (minI (IntKind.wrap .i64 ((IntKind.wrap .i64 (((x4).length : Int) - d109)) - (0 : Int))) (IntKind.wrap .i64 ((IntKind.wrap .i64 (((x2).length : Int) - (0 : Int))) - (0 : Int))))) (QV.min2 rfl rfl) rfl rfl rfl ?_
                refine JL.val (v := .func (.func 55) #[] #[.pointer (some ⟨b8, 0, none⟩), .pointer (some ⟨z108, 0, none⟩), .pointer (some ⟨b129, 0, none⟩), .pointer (some ⟨b7, 0, none⟩), .pointer (some ⟨b128, 0, none⟩)]) (QV.makeFunc (vals := [.pointer (some ⟨b8, 0, none⟩), .pointer (some ⟨z108, 0, none⟩), .pointer (some ⟨b129, 0, none⟩), .pointer (some ⟨b7, 0, none⟩), .pointer (some ⟨b128, 0, none⟩)]) rfl) rfl rfl rfl ?_
                obtain ⟨y133, hc134, hm⟩ := bind_inv hm
                refine JL.mv (d := some 76) (MV.call (Lo := [Asr.blk b8 23 [Seg.c (s3.v)], Asr.blk z108 3 [Seg.c (.int .i64 d109)], Asr.blk b129 3 [Seg.c (.int .i64 (0 : Int))], Asr.blk b7 23 [Seg.c (s1.v)], Asr.blk b128 3 [Seg.c (.int .i64 (0 : Int))]]) (Lr := [Asr.vw (Enc.int .u8) (s3.v) x4, Asr.vw (Enc.int .u8) (s1.v) x2, Asr.vw (Enc.int .u8) (s1.v) x2, Asr.vw (Enc.int .u8) (s3.v) x4, Asr.of 52 (Enc.pair (Enc.int .i64) (Enc.pair (Enc.int .i64) (Enc.int .i64))) (z105.v) d106]) (F53_1.spec (b8) (s3) (z108) (b129) (b7) (s1) (b128) ((minI (IntKind.wrap .i64 ((IntKind.wrap .i64 (((x4).length : Int) - d109)) - (0 : Int))) (IntKind.wrap .i64 ((IntKind.wrap .i64 (((x2).length : Int) - (0 : Int))) - (0 : Int))))) (x4) (d109) ((0 : Int)) (x2) ((0 : Int)) _ hc134) rfl Try.func53 rfl rfl rfl [1, 2, 6, 4, 5] [0, 3, 7, 8, 9] rfl rfl rfl ⟨(Drv.vw 0 rfl), ⟨(Drv.vw 1 rfl), trivial⟩⟩) rfl rfl rfl ?_
                rintro _ _ ⟨_, ⟨rfl, rfl⟩, rfl⟩
                refine JL.val (v := .int .i64 y133) (QV.assign rfl) rfl rfl rfl ?_
                refine JL.nil ?_
                refine QJ.then_normal ?_
                refine JC.seq ?_
                refine JC.region ?_
                refine JL.val (v := .int .i64 d109) (QV.load1 (ss := [Seg.c (.int .i64 d109)]) 2 0 rfl tk_3 rfl rfl rfl) rfl rfl rfl ?_
                refine JL.val (v := .int .i64 y131) (QV.move rfl) rfl rfl rfl ?_
                refine JL.val (v := .int .i64 (IntKind.wrap .i64 (d109 - y131))) (QV.sub rfl rfl) rfl rfl rfl ?_
                refine JL.val (v := .int .i64 (0 : Int)) (QV.load1 (ss := [Seg.c (.int .i64 (0 : Int))]) 6 0 rfl tk_3 rfl rfl rfl) rfl rfl rfl ?_
                refine JL.val (v := .int .i64 y131) (QV.move rfl) rfl rfl rfl ?_
                refine JL.val (v := .int .i64 (IntKind.wrap .i64 ((0 : Int) - y131))) (QV.sub rfl rfl) rfl rfl rfl ?_
                refine JL.val (v := .int .i64 y131) (QV.move rfl) rfl rfl rfl ?_
                refine JL.val (v := .int .i64 (0 : Int)) (QV.load1 (ss := [Seg.c (.int .i64 (0 : Int))]) 3 0 rfl tk_3 rfl rfl rfl) rfl rfl rfl ?_
                refine JL.val (v := .int .i64 (IntKind.wrap .i64 (y131 + (0 : Int)))) (QV.add rfl rfl) rfl rfl rfl ?_
                refine JL.val (v := .int .i64 y133) (QV.move rfl) rfl rfl rfl ?_
                refine JL.val (v := .int .i64 (IntKind.wrap .i64 ((IntKind.wrap .i64 (y131 + (0 : Int))) + y133))) (QV.add rfl rfl) rfl rfl rfl ?_
                refine JL.val (v := .agg #[.int .i64 (IntKind.wrap .i64 (d109 - y131)), .int .i64 (IntKind.wrap .i64 ((0 : Int) - y131)), .int .i64 (IntKind.wrap .i64 ((IntKind.wrap .i64 (y131 + (0 : Int))) + y133))]) (QV.build (vals := [(0, .int .i64 (IntKind.wrap .i64 (d109 - y131))), (1, .int .i64 (IntKind.wrap .i64 ((0 : Int) - y131))), (2, .int .i64 (IntKind.wrap .i64 ((IntKind.wrap .i64 (y131 + (0 : Int))) + y133)))]) rfl (by kernel_rfl)) rfl rfl rfl ?_
                refine JL.mv (d := some 14) (MV.alloc [Seg.c (.int .i64 (0 : Int)), Seg.c (.int .i64 (0 : Int)), Seg.c (.int .i64 (0 : Int))] z_52 rfl) rfl rfl rfl ?_
                rintro _ _ ⟨b135, rfl, rfl⟩
                refine JL.mv (d := none) (MV.store (ss := [Seg.c (.int .i64 (0 : Int)), Seg.c (.int .i64 (0 : Int)), Seg.c (.int .i64 (0 : Int))]) 0 0 3 [Seg.c (.int .i64 (IntKind.wrap .i64 (d109 - y131))), Seg.c (.int .i64 (IntKind.wrap .i64 ((0 : Int) - y131))), Seg.c (.int .i64 (IntKind.wrap .i64 ((IntKind.wrap .i64 (y131 + (0 : Int))) + y133)))] rfl tk_52 rfl rfl rfl rfl (fun w hs => ⟨rfl, one_c rfl, one_c rfl, one_c rfl, trivial⟩)) rfl rfl rfl ?_
                rintro _ _ ⟨rfl, rfl⟩
                refine JL.nil ?_
                refine QJ.then_normal ?_
                refine JC.seq ?_
                refine JC.region ?_
                refine JL.val (v := z105.v) (QV.move rfl) rfl rfl rfl ?_
                refine JL.val (v := .agg #[.int .i64 (IntKind.wrap .i64 (d109 - y131)), .int .i64 (IntKind.wrap .i64 ((0 : Int) - y131)), .int .i64 (IntKind.wrap .i64 ((IntKind.wrap .i64 (y131 + (0 : Int))) + y133))]) (QV.eq (QV.loadN (ss := [Seg.c (.int .i64 (IntKind.wrap .i64 (d109 - y131))), Seg.c (.int .i64 (IntKind.wrap .i64 ((0 : Int) - y131))), Seg.c (.int .i64 (IntKind.wrap .i64 ((IntKind.wrap .i64 (y131 + (0 : Int))) + y133)))]) 0 0 3 rfl tk_52 rfl rfl rfl rfl) rfl) rfl rfl rfl ?_
                refine JL.mv (d := some 91) (MV.lit (E := (Enc.pair (Enc.int .i64) (Enc.pair (Enc.int .i64) (Enc.int .i64)))) (vals := [(0, .agg #[.int .i64 (IntKind.wrap .i64 (d109 - y131)), .int .i64 (IntKind.wrap .i64 ((0 : Int) - y131)), .int .i64 (IntKind.wrap .i64 ((IntKind.wrap .i64 (y131 + (0 : Int))) + y133))])]) [((IntKind.wrap .i64 (d109 - y131)), (IntKind.wrap .i64 ((0 : Int) - y131)), (IntKind.wrap .i64 ((IntKind.wrap .i64 (y131 + (0 : Int))) + y133)))] Try.underlying47 zi_52 rfl (by decide) rfl (by kernel_rfl)) rfl rfl rfl ?_
                rintro _ _ ⟨z136, rfl, rfl⟩
                obtain ⟨h137, hm⟩ := guard_inv hm
                refine JL.mv (d := some 92) (MV.append 13 rfl (Rdg.of 0 rfl) Try.underlying47 zi_52 rfl (by decide) rfl rfl h137) rfl rfl rfl ?_
                rintro _ _ ⟨z138, rfl, rfl⟩
                refine JL.val (v := z138.v) (QV.assign rfl) rfl rfl rfl ?_
                refine JL.nil ?_
                refine QJ.then_normal ?_
                refine JC.seq ?_
                refine JC.region ?_
                refine JL.val (v := .pointer (some ⟨b135, 0, none⟩)) (QV.fieldB fo_52_0 rfl rfl) rfl rfl rfl ?_
                refine JL.val (v := .int .i64 (IntKind.wrap .i64 (d109 - y131))) (QV.load1 (ss := [Seg.c (.int .i64 (IntKind.wrap .i64 (d109 - y131))), Seg.c (.int .i64 (IntKind.wrap .i64 ((0 : Int) - y131))), Seg.c (.int .i64 (IntKind.wrap .i64 ((IntKind.wrap .i64 (y131 + (0 : Int))) + y133)))]) 1 0 rfl tk_3 rfl rfl rfl) rfl rfl rfl ?_
                refine JL.val (v := .pointer (some ⟨b135, 2, none⟩)) (QV.fieldB fo_52_2 rfl rfl) rfl rfl rfl ?_
                refine JL.val (v := .int .i64 (IntKind.wrap .i64 ((IntKind.wrap .i64 (y131 + (0 : Int))) + y133))) (QV.load1 (ss := [Seg.c (.int .i64 (IntKind.wrap .i64 (d109 - y131))), Seg.c (.int .i64 (IntKind.wrap .i64 ((0 : Int) - y131))), Seg.c (.int .i64 (IntKind.wrap .i64 ((IntKind.wrap .i64 (y131 + (0 : Int))) + y133)))]) 1 2 rfl tk_3 rfl rfl rfl) rfl rfl rfl ?_
                refine JL.val (v := .int .i64 (IntKind.wrap .i64 ((IntKind.wrap .i64 (d109 - y131)) + (IntKind.wrap .i64 ((IntKind.wrap .i64 (y131 + (0 : Int))) + y133))))) (QV.add rfl rfl) rfl rfl rfl ?_
                refine JL.val (v := .int .i64 (IntKind.wrap .i64 ((IntKind.wrap .i64 (d109 - y131)) + (IntKind.wrap .i64 ((IntKind.wrap .i64 (y131 + (0 : Int))) + y133))))) (QV.assign rfl) rfl rfl rfl ?_
                refine JL.nil ?_
                refine QJ.then_normal ?_
                refine JC.region ?_
                refine JL.val (v := .int .i64 (IntKind.wrap .i64 ((IntKind.wrap .i64 (d109 - y131)) + (IntKind.wrap .i64 ((IntKind.wrap .i64 (y131 + (0 : Int))) + y133))))) (QV.move rfl) rfl rfl rfl ?_
                refine JL.mv (d := none) (MV.store (ss := [Seg.c (.int .i64 d109)]) 4 0 1 [Seg.c (.int .i64 (IntKind.wrap .i64 ((IntKind.wrap .i64 (d109 - y131)) + (IntKind.wrap .i64 ((IntKind.wrap .i64 (y131 + (0 : Int))) + y133)))))] rfl tk_3 rfl rfl rfl rfl (fun w hs => ⟨rfl, one_c rfl, trivial⟩)) rfl rfl rfl ?_
                rintro _ _ ⟨rfl, rfl⟩
                refine JL.nil ?_
                refine QJ.block_normal ?_
                exact QJ.cut_normal (((d106 ++ [((IntKind.wrap .i64 (d109 - y131)), (IntKind.wrap .i64 ((0 : Int) - y131)), (IntKind.wrap .i64 ((IntKind.wrap .i64 (y131 + (0 : Int))) + y133)))]), (IntKind.wrap .i64 ((IntKind.wrap .i64 (d109 - y131)) + (IntKind.wrap .i64 ((IntKind.wrap .i64 (y131 + (0 : Int))) + y133)))), (IntKind.wrap .i64 ((IntKind.wrap .i64 (d109 - y131)) + (IntKind.wrap .i64 ((IntKind.wrap .i64 (y131 + (0 : Int))) + y133))))), z138) hm [6, 7, 2, 3, 13, 4] (by exact ⟨rfl, rfl, rfl, rfl, rfl, rfl, trivial⟩) rfl rfl
          ·
            refine JC.condF' rfl (decide_eq_false h119) ?_
            refine JC.exit ?_
            refine QJ.then_exit ?_
            obtain rfl := Option.some.inj hm
            refine QJ.round_exit (fun hy => ?_)
            subst hy
            refine QJ.block_hit ?_
            exact QJ.cut_normal (d106, z105) hmo117 [4] (by exact ⟨rfl, trivial⟩) rfl rfl
      ·
        refine JC.condT' rfl (congrArg Bool.not (decide_eq_false h101)) ?_
        refine JC.seq ?_
        refine JC.region ?_
        refine JL.ent (fun _ hs => hs.nil 52 (Enc.pair (Enc.int .i64) (Enc.pair (Enc.int .i64) (Enc.int .i64)))) ?_
        refine JL.val (v := SlV.nil.v) (QV.assign rfl) rfl rfl rfl ?_
        refine JL.nil ?_
        refine QJ.then_normal ?_
        refine JC.ret ?_
        refine QJ.then_ret ?_
        obtain rfl := Option.some.inj hm
        exact QJ.body (vs := [SlV.nil.v]) (.inl rfl) rfl (ResVs.cons (ResV.tmp rfl) ResVs.nil) [0] rfl rfl (.inr ⟨own_of _ _ _ _, trivial⟩) ⟨(SlV.nil), rfl, rfl⟩
    ·
      refine JL.mv (d := some 29) (MV.call (Lo := []) (Lr := [Asr.of 52 (Enc.pair (Enc.int .i64) (Enc.pair (Enc.int .i64) (Enc.int .i64))) (SlV.nil.v) ([] : List (Int × Int × Int)), Asr.blk b8 23 [Seg.c (s3.v)], Asr.blk b7 23 [Seg.c (s1.v)], Asr.vw (Enc.int .u8) (s1.v) x2, Asr.vw (Enc.int .u8) (s3.v) x4]) (F51.spec (s1) (x2) _ hc98) rfl Try.func51 rfl rfl rfl [] [0, 1, 2, 3, 4] rfl rfl rfl ⟨(Drv.vw 3 rfl), trivial⟩) rfl rfl rfl ?_
      rintro _ _ ⟨_, ⟨b139, z140, z141, rfl, rfl⟩, rfl⟩
      refine JL.val (v := .tuple #[.pointer (some ⟨b139, 0, none⟩), .int .i64 (0 : Int)]) (QV.move rfl) rfl rfl rfl ?_
      refine JL.val (v := .pointer (some ⟨b139, 0, none⟩)) (QV.extract (vs := [.pointer (some ⟨b139, 0, none⟩), .int .i64 (0 : Int)]) rfl rfl) rfl rfl rfl ?_
      refine JL.val (v := .int .i64 (0 : Int)) (QV.extract (vs := [.pointer (some ⟨b139, 0, none⟩), .int .i64 (0 : Int)]) rfl rfl) rfl rfl rfl ?_
      refine JL.val (v := .pointer (some ⟨b139, 0, none⟩)) (QV.assign rfl) rfl rfl rfl ?_
      refine JL.val (v := .int .i64 (0 : Int)) (QV.assign rfl) rfl rfl rfl ?_
      refine JL.nil ?_
      refine QJ.then_normal ?_
      refine JC.seq ?_
      refine JC.seq ?_
      refine JC.region ?_
      refine JL.val (v := .int .i64 (0 : Int)) (QV.move rfl) rfl rfl rfl ?_
      refine JL.val (v := .bool (!(decide ((0 : Int) = (0 : Int))))) (QV.neq rfl rfl) rfl rfl rfl ?_
      refine JL.nil ?_
      refine QJ.then_normal ?_
      rcases ite_inv hm with ⟨h142, hm⟩ | ⟨h142, hm⟩
      ·
        refine JC.condF' rfl (congrArg Bool.not (decide_eq_true h142)) ?_
        refine JC.skip ?_
        refine QJ.then_normal ?_
        refine JC.seq ?_
        refine JC.region ?_
        refine JL.ent (fun _ hs => hs.nil 52 (Enc.pair (Enc.int .i64) (Enc.pair (Enc.int .i64) (Enc.int .i64)))) ?_
        refine JL.val (v := SlV.nil.v) (QV.assign rfl) rfl rfl rfl ?_
        refine JL.nil ?_
        refine QJ.then_normal ?_
        refine JC.seq ?_
        refine JC.region ?_
        refine JL.val (v := .int .i64 (0 : Int)) (QV.assign rfl) rfl rfl rfl ?_
        refine JL.nil ?_
        refine QJ.then_normal ?_
        refine JC.seq ?_
        refine JC.seq ?_
        refine JC.region ?_
        refine JL.mv (d := some 9) (MV.alloc [Seg.c (.int .i64 (0 : Int))] z_3 rfl) rfl rfl rfl ?_
        rintro _ _ ⟨b143, rfl, rfl⟩
        refine JL.mv (d := none) (MV.store (ss := [Seg.c (.int .i64 (0 : Int))]) 0 0 1 [Seg.c (.int .i64 (0 : Int))] rfl tk_3 rfl rfl rfl rfl (fun w hs => ⟨rfl, one_c rfl, trivial⟩)) rfl rfl rfl ?_
        rintro _ _ ⟨rfl, rfl⟩
        refine JL.nil ?_
        refine QJ.then_normal ?_
        refine JC.cutK (Y := (List (Int × Int × Int)) × SlV) (fun y => match y with | (d145, _) => F28.j7 (d145) = some r) (fun y => match y with | (d145, z144) => [(7, z144.v)]) (fun y => match y with | (d145, z144) => [Asr.of 52 (Enc.pair (Enc.int .i64) (Enc.pair (Enc.int .i64) (Enc.int .i64))) (z144.v) d145]) ?_ ?_
        ·
          rintro ⟨d145, z144⟩ hm
          unfold F28.j7 at hm
          show QJ _ _ [(7, z144.v)] [Asr.of 52 (Enc.pair (Enc.int .i64) (Enc.pair (Enc.int .i64) (Enc.int .i64))) (z144.v) d145] _ _
          refine QJ.then_normal ?_
          refine JC.seq ?_
          refine JC.region ?_
          refine JL.val (v := z144.v) (QV.move rfl) rfl rfl rfl ?_
          refine JL.val (v := z144.v) (QV.assign rfl) rfl rfl rfl ?_
          refine JL.nil ?_
          refine QJ.then_normal ?_
          refine JC.ret ?_
          obtain rfl := Option.some.inj hm
          exact QJ.body (vs := [z144.v]) (.inl rfl) rfl (ResVs.cons (ResV.tmp rfl) ResVs.nil) [0] rfl rfl (.inr ⟨own_of _ _ _ _, trivial⟩) ⟨z144, rfl, rfl⟩
        ·
          refine JC.block ?_
          obtain ⟨y156, hl157, hmo158⟩ := bind_inv hm
          refine JC.loop (F28.b4 x2 x4 y100) (fun x z => match x, z with | (d147, d148, d150), (z146, z149) => [(2, .pointer (some ⟨b7, 0, none⟩)), (3, .pointer (some ⟨b8, 0, none⟩)), (5, .pointer (some ⟨b139, 0, none⟩)), (7, z146.v), (8, .int .i64 d148), (9, .pointer (some ⟨z149, 0, none⟩))]) (fun x z => match x, z with | (d147, d148, d150), (z146, z149) => [Asr.vw (Enc.int .u8) (s1.v) x2, Asr.blk b7 23 [Seg.c (s1.v)], Asr.vw (Enc.int .u8) (s3.v) x4, Asr.blk b8 23 [Seg.c (s3.v)], Asr.of 5 (Enc.int .u8) (z140.v) y100.1, Asr.of 3 (Enc.int .i64) (z141.v) y100.2, Asr.blk b139 97 [Seg.c (z140.v), Seg.c (z141.v)], Asr.of 52 (Enc.pair (Enc.int .i64) (Enc.pair (Enc.int .i64) (Enc.int .i64))) (z146.v) d147, Asr.blk z149 3 [Seg.c (.int .i64 d150)]]) (([] : List (Int × Int × Int)), (0 : Int), (0 : Int)) (SlV.nil, b143) y156 hl157 [8, 7, 9, 6, 2, 3, 4, 1, 0] (by exact ⟨rfl, rfl, rfl, rfl, rfl, rfl, trivial⟩) rfl rfl ?_
          rintro ⟨d147, d148, d150⟩ ⟨z146, z149⟩ s159 hm
          unfold F28.b4 at hm
          dsimp only at hm
          show JC _ _ _ [(2, .pointer (some ⟨b7, 0, none⟩)), (3, .pointer (some ⟨b8, 0, none⟩)), (5, .pointer (some ⟨b139, 0, none⟩)), (7, z146.v), (8, .int .i64 d148), (9, .pointer (some ⟨z149, 0, none⟩))] [Asr.vw (Enc.int .u8) (s1.v) x2, Asr.blk b7 23 [Seg.c (s1.v)], Asr.vw (Enc.int .u8) (s3.v) x4, Asr.blk b8 23 [Seg.c (s3.v)], Asr.of 5 (Enc.int .u8) (z140.v) y100.1, Asr.of 3 (Enc.int .i64) (z141.v) y100.2, Asr.blk b139 97 [Seg.c (z140.v), Seg.c (z141.v)], Asr.of 52 (Enc.pair (Enc.int .i64) (Enc.pair (Enc.int .i64) (Enc.int .i64))) (z146.v) d147, Asr.blk z149 3 [Seg.c (.int .i64 d150)]] _ _
          refine JC.seq ?_
          refine JC.seq ?_
          refine JC.region ?_
          refine JL.val (v := .int .i64 d150) (QV.load1 (ss := [Seg.c (.int .i64 d150)]) 8 0 rfl tk_3 rfl rfl rfl) rfl rfl rfl ?_
          refine JL.val (v := s3.v) (QV.load1 (ss := [Seg.c (s3.v)]) 3 0 rfl tk_23 rfl rfl rfl) rfl rfl rfl ?_
          refine JL.val (v := .int .i64 ((x4).length : Int)) (QV.len (Rdg.vw 2 rfl) Try.underlying23 rfl) rfl rfl rfl ?_
          refine JL.val (v := .bool (decide (d150 < ((x4).length : Int)))) (QV.lss rfl rfl) rfl rfl rfl ?_
          refine JL.nil ?_
          refine QJ.then_normal ?_
          rcases ite_inv hm with ⟨h160, hm⟩ | ⟨h160, hm⟩
          ·
            refine JC.condT' rfl (decide_eq_true h160) ?_
            refine JC.skip ?_
            refine QJ.then_normal ?_
            refine JC.seq ?_
            refine JC.cutK (Y := (List (Int × Int × Int) × Int × Int) × SlV) (fun y => match y with | ((d162, d163, d164), _) => F28.j8 (d162) (d163) (d164) = some s159) (fun y => match y with | ((d162, d163, d164), z161) => [(2, .pointer (some ⟨b7, 0, none⟩)), (3, .pointer (some ⟨b8, 0, none⟩)), (5, .pointer (some ⟨b139, 0, none⟩)), (7, z161.v), (8, .int .i64 d163), (9, .pointer (some ⟨z149, 0, none⟩))]) (fun y => match y with | ((d162, d163, d164), z161) => [Asr.vw (Enc.int .u8) (s1.v) x2, Asr.blk b7 23 [Seg.c (s1.v)], Asr.vw (Enc.int .u8) (s3.v) x4, Asr.blk b8 23 [Seg.c (s3.v)], Asr.of 5 (Enc.int .u8) (z140.v) y100.1, Asr.of 3 (Enc.int .i64) (z141.v) y100.2, Asr.blk b139 97 [Seg.c (z140.v), Seg.c (z141.v)], Asr.of 52 (Enc.pair (Enc.int .i64) (Enc.pair (Enc.int .i64) (Enc.int .i64))) (z161.v) d162, Asr.blk z149 3 [Seg.c (.int .i64 d164)]]) ?_ ?_
            ·
              rintro ⟨⟨d162, d163, d164⟩, z161⟩ hm
              unfold F28.j8 at hm
              show QJ _ _ [(2, .pointer (some ⟨b7, 0, none⟩)), (3, .pointer (some ⟨b8, 0, none⟩)), (5, .pointer (some ⟨b139, 0, none⟩)), (7, z161.v), (8, .int .i64 d163), (9, .pointer (some ⟨z149, 0, none⟩))] [Asr.vw (Enc.int .u8) (s1.v) x2, Asr.blk b7 23 [Seg.c (s1.v)], Asr.vw (Enc.int .u8) (s3.v) x4, Asr.blk b8 23 [Seg.c (s3.v)], Asr.of 5 (Enc.int .u8) (z140.v) y100.1, Asr.of 3 (Enc.int .i64) (z141.v) y100.2, Asr.blk b139 97 [Seg.c (z140.v), Seg.c (z141.v)], Asr.of 52 (Enc.pair (Enc.int .i64) (Enc.pair (Enc.int .i64) (Enc.int .i64))) (z161.v) d162, Asr.blk z149 3 [Seg.c (.int .i64 d164)]] _ _
              refine QJ.then_normal ?_
              refine JC.seq ?_
              refine JC.region ?_
              refine JL.val (v := .int .i64 d164) (QV.load1 (ss := [Seg.c (.int .i64 d164)]) 8 0 rfl tk_3 rfl rfl rfl) rfl rfl rfl ?_
              refine JL.nil ?_
              refine QJ.then_normal ?_
              refine JC.region ?_
              refine JL.mv (d := some 9) (MV.alloc [Seg.c (.int .i64 (0 : Int))] z_3 rfl) rfl rfl rfl ?_
              rintro _ _ ⟨b165, rfl, rfl⟩
              refine JL.mv (d := none) (MV.store (ss := [Seg.c (.int .i64 (0 : Int))]) 0 0 1 [Seg.c (.int .i64 d164)] rfl tk_3 rfl rfl rfl rfl (fun w hs => ⟨rfl, one_c rfl, trivial⟩)) rfl rfl rfl ?_
              rintro _ _ ⟨rfl, rfl⟩
              refine JL.nil ?_
              obtain rfl := Option.some.inj hm
              exact QJ.round_on (d162, d163, d164) (z161, b165) [1, 2, 3, 4, 5, 6, 7, 8, 0] (by exact ⟨rfl, rfl, rfl, rfl, rfl, rfl, trivial⟩) rfl rfl
            ·
              refine JC.block ?_
              refine JC.seq ?_
              refine JC.region ?_
              refine JL.val (v := .pointer (some ⟨b139, 0, none⟩)) (QV.move rfl) rfl rfl rfl ?_
              refine JL.val (v := s3.v) (QV.load1 (ss := [Seg.c (s3.v)]) 3 0 rfl tk_23 rfl rfl rfl) rfl rfl rfl ?_
              refine JL.val (v := .int .i64 d150) (QV.load1 (ss := [Seg.c (.int .i64 d150)]) 8 0 rfl tk_3 rfl rfl rfl) rfl rfl rfl ?_
              refine JL.val (v := s3.v) (QV.load1 (ss := [Seg.c (s3.v)]) 3 0 rfl tk_23 rfl rfl rfl) rfl rfl rfl ?_
              refine JL.val (v := .int .i64 ((x4).length : Int)) (QV.len (Rdg.vw 2 rfl) Try.underlying23 rfl) rfl rfl rfl ?_
              refine JL.val (v := .int .i64 d150) (QV.load1 (ss := [Seg.c (.int .i64 d150)]) 8 0 rfl tk_3 rfl rfl rfl) rfl rfl rfl ?_
              refine JL.val (v := .int .i64 (IntKind.wrap .i64 (d150 + (16384 : Int)))) (QV.add rfl rfl) rfl rfl rfl ?_
              refine JL.val (v := .int .i64 (minI ((x4).length : Int) (IntKind.wrap .i64 (d150 + (16384 : Int))))) (QV.min2 rfl rfl) rfl rfl rfl ?_
              obtain ⟨h166, hm⟩ := guard_inv hm
              refine JL.val (v := (SlV.sub ((Enc.int .u8)).sz s3 d150 (minI ((x4).length : Int) (IntKind.wrap .i64 (d150 + (16384 : Int))))).v) (QV.sliceV (Rdg.vw 2 rfl) Try.underlying23 tk_5 rfl rfl rfl h166) rfl rfl rfl ?_
              obtain ⟨y167, hc168, hm⟩ := bind_inv hm
              refine JL.mv (d := some 48) (MV.call (Lo := [Asr.blk b139 97 [Seg.c (z140.v), Seg.c (z141.v)], Asr.of 5 (Enc.int .u8) (z140.v) y100.1, Asr.of 3 (Enc.int .i64) (z141.v) y100.2]) (Lr := [Asr.vw (Enc.int .u8) (s1.v) x2, Asr.blk b7 23 [Seg.c (s1.v)], Asr.vw (Enc.int .u8) (s3.v) x4, Asr.blk b8 23 [Seg.c (s3.v)], Asr.of 52 (Enc.pair (Enc.int .i64) (Enc.pair (Enc.int .i64) (Enc.int .i64))) (z146.v) d147, Asr.blk z149 3 [Seg.c (.int .i64 d150)]]) (F52_1.spec (b139) (z140) (z141) ((SlV.sub ((Enc.int .u8)).sz s3 d150 (minI ((x4).length : Int) (IntKind.wrap .i64 (d150 + (16384 : Int)))))) (y100.1) (y100.2) ((subL x4 d150 (minI ((x4).length : Int) (IntKind.wrap .i64 (d150 + (16384 : Int)))))) _ hc168) rfl Try.func52 rfl rfl rfl [6, 4, 5] [0, 1, 2, 3, 7, 8] rfl rfl rfl ⟨((Drv.vw 2 rfl).subV h166), trivial⟩) rfl rfl rfl ?_
              rintro _ _ ⟨_, ⟨rfl, rfl⟩, rfl⟩
              refine JL.val (v := .tuple #[.int .i64 y167.1, .int .i64 y167.2]) (QV.move rfl) rfl rfl rfl ?_
              refine JL.val (v := .int .i64 y167.1) (QV.extract (vs := [.int .i64 y167.1, .int .i64 y167.2]) rfl rfl) rfl rfl rfl ?_
              refine JL.val (v := .int .i64 y167.2) (QV.extract (vs := [.int .i64 y167.1, .int .i64 y167.2]) rfl rfl) rfl rfl rfl ?_
              refine JL.mv (d := some 10) (MV.alloc [Seg.c (.int .i64 (0 : Int))] z_3 rfl) rfl rfl rfl ?_
              rintro _ _ ⟨b169, rfl, rfl⟩
              refine JL.mv (d := some 11) (MV.alloc [Seg.c (.int .i64 (0 : Int))] z_3 rfl) rfl rfl rfl ?_
              rintro _ _ ⟨b170, rfl, rfl⟩
              refine JL.mv (d := none) (MV.store (ss := [Seg.c (.int .i64 (0 : Int))]) 1 0 1 [Seg.c (.int .i64 y167.1)] rfl tk_3 rfl rfl rfl rfl (fun w hs => ⟨rfl, one_c rfl, trivial⟩)) rfl rfl rfl ?_
              rintro _ _ ⟨rfl, rfl⟩
              refine JL.mv (d := none) (MV.store (ss := [Seg.c (.int .i64 (0 : Int))]) 0 0 1 [Seg.c (.int .i64 y167.2)] rfl tk_3 rfl rfl rfl rfl (fun w hs => ⟨rfl, one_c rfl, trivial⟩)) rfl rfl rfl ?_
              rintro _ _ ⟨rfl, rfl⟩
              refine JL.nil ?_
              refine QJ.then_normal ?_
              refine JC.seq ?_
              refine JC.seq ?_
              refine JC.region ?_
              refine JL.val (v := .int .i64 y167.2) (QV.load1 (ss := [Seg.c (.int .i64 y167.2)]) 0 0 rfl tk_3 rfl rfl rfl) rfl rfl rfl ?_
              refine JL.val (v := .bool (decide (y167.2 < (12 : Int)))) (QV.lss rfl rfl) rfl rfl rfl ?_
              refine JL.nil ?_
              refine QJ.then_normal ?_
              rcases ite_inv hm with ⟨h171, hm⟩ | ⟨h171, hm⟩
              ·
                refine JC.condT' rfl (decide_eq_true h171) ?_
                refine JC.seq ?_
                refine JC.region ?_
                refine JL.val (v := .int .i64 d150) (QV.load1 (ss := [Seg.c (.int .i64 d150)]) 10 0 rfl tk_3 rfl rfl rfl) rfl rfl rfl ?_
                refine JL.val (v := .int .i64 (IntKind.wrap .i64 (d150 + (1 : Int)))) (QV.add rfl rfl) rfl rfl rfl ?_
                refine JL.mv (d := none) (MV.store (ss := [Seg.c (.int .i64 d150)]) 10 0 1 [Seg.c (.int .i64 (IntKind.wrap .i64 (d150 + (1 : Int))))] rfl tk_3 rfl rfl rfl rfl (fun w hs => ⟨rfl, one_c rfl, trivial⟩)) rfl rfl rfl ?_
                rintro _ _ ⟨rfl, rfl⟩
                refine JL.nil ?_
                refine QJ.then_normal ?_
                refine JC.exit ?_
                refine QJ.then_exit ?_
                refine QJ.block_hit ?_
                exact QJ.cut_normal ((d147, d148, (IntKind.wrap .i64 (d150 + (1 : Int)))), z146) hm [5, 6, 7, 8, 2, 3, 4, 9, 10] (by exact ⟨rfl, rfl, rfl, rfl, rfl, rfl, trivial⟩) rfl rfl
              ·
                refine JC.condF' rfl (decide_eq_false h171) ?_
                refine JC.skip ?_
                refine QJ.then_normal ?_
                refine JC.seq ?_
                refine JC.region ?_
                refine JL.val (v := .int .i64 d150) (QV.load1 (ss := [Seg.c (.int .i64 d150)]) 10 0 rfl tk_3 rfl rfl rfl) rfl rfl rfl ?_
                refine JL.val (v := .int .i64 d148) (QV.move rfl) rfl rfl rfl ?_
                refine JL.val (v := .int .i64 (IntKind.wrap .i64 (d150 - d148))) (QV.sub rfl rfl) rfl rfl rfl ?_
                refine JL.val (v := .int .i64 y167.1) (QV.load1 (ss := [Seg.c (.int .i64 y167.1)]) 1 0 rfl tk_3 rfl rfl rfl) rfl rfl rfl ?_
                refine JL.val (v := .int .i64 (minI (IntKind.wrap .i64 (d150 - d148)) y167.1)) (QV.min2 rfl rfl) rfl rfl rfl ?_
                refine JL.val (v := .func (.func 54) #[] #[.pointer (some ⟨b8, 0, none⟩), .pointer (some ⟨z149, 0, none⟩), .pointer (some ⟨b7, 0, none⟩), .pointer (some ⟨b169, 0, none⟩)]) (QV.makeFunc (vals := [.pointer (some ⟨b8, 0, none⟩), .pointer (some ⟨z149, 0, none⟩), .pointer (some ⟨b7, 0, none⟩), .pointer (some ⟨b169, 0, none⟩)]) rfl) rfl rfl rfl ?_
                obtain ⟨y172, hc173, hm⟩ := bind_inv hm
                refine JL.mv (d := some 61) (MV.call (Lo := [Asr.blk b8 23 [Seg.c (s3.v)], Asr.blk z149 3 [Seg.c (.int .i64 d150)], Asr.blk b7 23 [Seg.c (s1.v)], Asr.blk b169 3 [Seg.c (.int .i64 y167.1)]]) (Lr := [Asr.blk b170 3 [Seg.c (.int .i64 y167.2)], Asr.of 5 (Enc.int .u8) (z140.v) y100.1, Asr.of 3 (Enc.int .i64) (z141.v) y100.2, Asr.blk b139 97 [Seg.c (z140.v), Seg.c (z141.v)], Asr.vw (Enc.int .u8) (s1.v) x2, Asr.vw (Enc.int .u8) (s3.v) x4, Asr.of 52 (Enc.pair (Enc.int .i64) (Enc.pair (Enc.int .i64) (Enc.int .i64))) (z146.v) d147]) (F53.spec (b8) (s3) (z149) (b7) (s1) (b169) ((minI (IntKind.wrap .i64 (d150 - d148)) y167.1)) (x4) (d150) (x2) (y167.1) _ hc173) rfl Try.func53 rfl rfl rfl [8, 10, 6, 1] [0, 2, 3, 4, 5, 7, 9] rfl rfl rfl ⟨(Drv.vw 5 rfl), ⟨(Drv.vw 4 rfl), trivial⟩⟩) rfl rfl rfl ?_
                rintro _ _ ⟨_, ⟨rfl, rfl⟩, rfl⟩
                refine JL.val (v := .int .i64 y172) (QV.assign rfl) rfl rfl rfl ?_
                refine JL.nil ?_
                refine QJ.then_normal ?_
                refine JC.seq ?_
                refine JC.region ?_
                refine JL.val (v := s3.v) (QV.load1 (ss := [Seg.c (s3.v)]) 1 0 rfl tk_23 rfl rfl rfl) rfl rfl rfl ?_
                refine JL.val (v := .int .i64 ((x4).length : Int)) (QV.len (Rdg.vw 0 rfl) Try.underlying23 rfl) rfl rfl rfl ?_
                refine JL.val (v := .int .i64 d150) (QV.load1 (ss := [Seg.c (.int .i64 d150)]) 2 0 rfl tk_3 rfl rfl rfl) rfl rfl rfl ?_
                refine JL.val (v := .int .i64 (IntKind.wrap .i64 (((x4).length : Int) - d150))) (QV.sub rfl rfl) rfl rfl rfl ?_
                refine JL.val (v := .int .i64 y167.2) (QV.load1 (ss := [Seg.c (.int .i64 y167.2)]) 6 0 rfl tk_3 rfl rfl rfl) rfl rfl rfl ?_
                refine JL.val (v := .int .i64 (IntKind.wrap .i64 ((IntKind.wrap .i64 (((x4).length : Int) - d150)) - y167.2))) (QV.sub rfl rfl) rfl rfl rfl ?_
                refine JL.val (v := s1.v) (QV.load1 (ss := [Seg.c (s1.v)]) 4 0 rfl tk_23 rfl rfl rfl) rfl rfl rfl ?_
                refine JL.val (v := .int .i64 ((x2).length : Int)) (QV.len (Rdg.vw 3 rfl) Try.underlying23 rfl) rfl rfl rfl ?_
                refine JL.val (v := .int .i64 y167.1) (QV.load1 (ss := [Seg.c (.int .i64 y167.1)]) 5 0 rfl tk_3 rfl rfl rfl) rfl rfl rfl ?_
                refine JL.val (v := .int .i64 (IntKind.wrap .i64 (((x2).length : Int) - y167.1))) (QV.sub rfl rfl) rfl rfl rfl ?_
                refine JL.val (v := .int .i64 y167.2) (QV.load1 (ss := [Seg.c (.int .i64 y167.2)]) 6 0 rfl tk_3 rfl rfl rfl) rfl rfl rfl ?_
                refine JL.val (v := .int .i64 (IntKind.wrap .i64 ((IntKind.wrap .i64 (((x2).length : Int) - y167.1)) - y167.2))) (QV.sub rfl rfl) rfl rfl rfl ?_
                refine JL.val (v := .int .i64 (minI (IntKind.wrap .i64 ((IntKind.wrap .i64 (((x4).length : Int) - d150)) - y167.2)) (IntKind.wrap .i64 ((IntKind.wrap .i64 (((x2).length : Int) - y167.1)) - y167.2)))) (QV.min2 rfl rfl) rfl rfl rfl ?_
                refine JL.val (v := .func (.func 55) #[] #[.pointer (some ⟨b8, 0, none⟩), .pointer (some ⟨z149, 0, none⟩), .pointer (some ⟨b170, 0, none⟩), .pointer (some ⟨b7, 0, none⟩), .pointer (some ⟨b169, 0, none⟩)]) (QV.makeFunc (vals := [.pointer (some ⟨b8, 0, none⟩), .pointer (some ⟨z149, 0, none⟩), .pointer (some ⟨b170, 0, none⟩), .pointer (some ⟨b7, 0, none⟩), .pointer (some ⟨b169, 0, none⟩)]) rfl) rfl rfl rfl ?_
                obtain ⟨y174, hc175, hm⟩ := bind_inv hm
                refine JL.mv (d := some 76) (MV.call (Lo := [Asr.blk b8 23 [Seg.c (s3.v)], Asr.blk z149 3 [Seg.c (.int .i64 d150)], Asr.blk b170 3 [Seg.c (.int .i64 y167.2)], Asr.blk b7 23 [Seg.c (s1.v)], Asr.blk b169 3 [Seg.c (.int .i64 y167.1)]]) (Lr := [Asr.vw (Enc.int .u8) (s3.v) x4, Asr.vw (Enc.int .u8) (s1.v) x2, Asr.of 5 (Enc.int .u8) (z140.v) y100.1, Asr.of 3 (Enc.int .i64) (z141.v) y100.2, Asr.blk b139 97 [Seg.c (z140.v), Seg.c (z141.v)], Asr.vw (Enc.int .u8) (s1.v) x2, Asr.vw (Enc.int .u8) (s3.v) x4, Asr.of 52 (Enc.pair (Enc.int .i64) (Enc.pair (Enc.int .i64) (Enc.int .i64))) (z146.v) d147]) (F53_1.spec (b8) (s3) (z149) (b170) (b7) (s1) (b169) ((minI (IntKind.wrap .i64 ((IntKind.wrap .i64 (((x4).length : Int) - d150)) - y167.2)) (IntKind.wrap .i64 ((IntKind.wrap .i64 (((x2).length : Int) - y167.1)) - y167.2)))) (x4) (d150) (y167.2) (x2) (y167.1) _ hc175) rfl Try.func53 rfl rfl rfl [1, 2, 6, 4, 5] [0, 3, 7, 8, 9, 10, 11, 12] rfl rfl rfl ⟨(Drv.vw 0 rfl), ⟨(Drv.vw 1 rfl), trivial⟩⟩) rfl rfl rfl ?_
                rintro _ _ ⟨_, ⟨rfl, rfl⟩, rfl⟩
                refine JL.val (v := .int .i64 y174) (QV.assign rfl) rfl rfl rfl ?_
                refine JL.nil ?_
                refine QJ.then_normal ?_
                refine JC.seq ?_
                refine JC.region ?_
                refine JL.val (v := .int .i64 d150) (QV.load1 (ss := [Seg.c (.int .i64 d150)]) 2 0 rfl tk_3 rfl rfl rfl) rfl rfl rfl ?_
                refine JL.val (v := .int .i64 y172) (QV.move rfl) rfl rfl rfl ?_
                refine JL.val (v := .int .i64 (IntKind.wrap .i64 (d150 - y172))) (QV.sub rfl rfl) rfl rfl rfl ?_
                refine JL.val (v := .int .i64 y167.1) (QV.load1 (ss := [Seg.c (.int .i64 y167.1)]) 6 0 rfl tk_3 rfl rfl rfl) rfl rfl rfl ?_
                refine JL.val (v := .int .i64 y172) (QV.move rfl) rfl rfl rfl ?_
                refine JL.val (v := .int .i64 (IntKind.wrap .i64 (y167.1 - y172))) (QV.sub rfl rfl) rfl rfl rfl ?_
                refine JL.val (v := .int .i64 y172) (QV.move rfl) rfl rfl rfl ?_
                refine JL.val (v := .int .i64 y167.2) (QV.load1 (ss := [Seg.c (.int .i64 y167.2)]) 3 0 rfl tk_3 rfl rfl rfl) rfl rfl rfl ?_
                refine JL.val (v := .int .i64 (IntKind.wrap .i64 (y172 + y167.2))) (QV.add rfl rfl) rfl rfl rfl ?_
                refine JL.val (v := .int .i64 y174) (QV.move rfl) rfl rfl rfl ?_
                refine JL.val (v := .int .i64 (IntKind.wrap .i64 ((IntKind.wrap .i64 (y172 + y167.2)) + y174))) (QV.add rfl rfl) rfl rfl rfl ?_
                refine JL.val (v := .agg #[.int .i64 (IntKind.wrap .i64 (d150 - y172)), .int .i64 (IntKind.wrap .i64 (y167.1 - y172)), .int .i64 (IntKind.wrap .i64 ((IntKind.wrap .i64 (y172 + y167.2)) + y174))]) (QV.build (vals := [(0, .int .i64 (IntKind.wrap .i64 (d150 - y172))), (1, .int .i64 (IntKind.wrap .i64 (y167.1 - y172))), (2, .int .i64 (IntKind.wrap .i64 ((IntKind.wrap .i64 (y172 + y167.2)) + y174)))]) rfl (by kernel_rfl)) rfl rfl rfl ?_
                refine JL.mv (d := some 14) (MV.alloc [Seg.c (.int .i64 (0 : Int)), Seg.c (.int .i64 (0 : Int)), Seg.c (.int .i64 (0 : Int))] z_52 rfl) rfl rfl rfl ?_
                rintro _ _ ⟨b176, rfl, rfl⟩
                refine JL.mv (d := none) (MV.store (ss := [Seg.c (.int .i64 (0 : Int)), Seg.c (.int .i64 (0 : Int)), Seg.c (.int .i64 (0 : Int))]) 0 0 3 [Seg.c (.int .i64 (IntKind.wrap .i64 (d150 - y172))), Seg.c (.int .i64 (IntKind.wrap .i64 (y167.1 - y172))), Seg.c (.int .i64 (IntKind.wrap .i64 ((IntKind.wrap .i64 (y172 + y167.2)) + y174)))] rfl tk_52 rfl rfl rfl rfl (fun w hs => ⟨rfl, one_c rfl, one_c rfl, one_c rfl, trivial⟩)) rfl rfl rfl ?_
                rintro _ _ ⟨rfl, rfl⟩
                refine JL.nil ?_
                refine QJ.then_normal ?_
                refine JC.seq ?_
                refine JC.region ?_
                refine JL.val (v := z146.v) (QV.move rfl) rfl rfl rfl ?_
                refine JL.val (v := .agg #[.int .i64 (IntKind.wrap .i64 (d150 - y172)), .int .i64 (IntKind.wrap .i64 (y167.1 - y172)), .int .i64 (IntKind.wrap .i64 ((IntKind.wrap .i64 (y172 + y167.2)) + y174))]) (QV.eq (QV.loadN (ss := [Seg.c (.int .i64 (IntKind.wrap .i64 (d150 - y172))), Seg.c (.int .i64 (IntKind.wrap .i64 (y167.1 - y172))), Seg.c (.int .i64 (IntKind.wrap .i64 ((IntKind.wrap .i64 (y172 + y167.2)) + y174)))]) 0 0 3 rfl tk_52 rfl rfl rfl rfl) rfl) rfl rfl rfl ?_
                refine JL.mv (d := some 91) (MV.lit (E := (Enc.pair (Enc.int .i64) (Enc.pair (Enc.int .i64) (Enc.int .i64)))) (vals := [(0, .agg #[.int .i64 (IntKind.wrap .i64 (d150 - y172)), .int .i64 (IntKind.wrap .i64 (y167.1 - y172)), .int .i64 (IntKind.wrap .i64 ((IntKind.wrap .i64 (y172 + y167.2)) + y174))])]) [((IntKind.wrap .i64 (d150 - y172)), (IntKind.wrap .i64 (y167.1 - y172)), (IntKind.wrap .i64 ((IntKind.wrap .i64 (y172 + y167.2)) + y174)))] Try.underlying47 zi_52 rfl (by decide) rfl (by kernel_rfl)) rfl rfl rfl ?_
                rintro _ _ ⟨z177, rfl, rfl⟩
                obtain ⟨h178, hm⟩ := guard_inv hm
                refine JL.mv (d := some 92) (MV.append 16 rfl (Rdg.of 0 rfl) Try.underlying47 zi_52 rfl (by decide) rfl rfl h178) rfl rfl rfl ?_
                rintro _ _ ⟨z179, rfl, rfl⟩
                refine JL.val (v := z179.v) (QV.assign rfl) rfl rfl rfl ?_
                refine JL.nil ?_
                refine QJ.then_normal ?_
                refine JC.seq ?_
                refine JC.region ?_
                refine JL.val (v := .pointer (some ⟨b176, 0, none⟩)) (QV.fieldB fo_52_0 rfl rfl) rfl rfl rfl ?_
                refine JL.val (v := .int .i64 (IntKind.wrap .i64 (d150 - y172))) (QV.load1 (ss := [Seg.c (.int .i64 (IntKind.wrap .i64 (d150 - y172))), Seg.c (.int .i64 (IntKind.wrap .i64 (y167.1 - y172))), Seg.c (.int .i64 (IntKind.wrap .i64 ((IntKind.wrap .i64 (y172 + y167.2)) + y174)))]) 1 0 rfl tk_3 rfl rfl rfl) rfl rfl rfl ?_
                refine JL.val (v := .pointer (some ⟨b176, 2, none⟩)) (QV.fieldB fo_52_2 rfl rfl) rfl rfl rfl ?_
                refine JL.val (v := .int .i64 (IntKind.wrap .i64 ((IntKind.wrap .i64 (y172 + y167.2)) + y174))) (QV.load1 (ss := [Seg.c (.int .i64 (IntKind.wrap .i64 (d150 - y172))), Seg.c (.int .i64 (IntKind.wrap .i64 (y167.1 - y172))), Seg.c (.int .i64 (IntKind.wrap .i64 ((IntKind.wrap .i64 (y172 + y167.2)) + y174)))]) 1 2 rfl tk_3 rfl rfl rfl) rfl rfl rfl ?_
                refine JL.val (v := .int .i64 (IntKind.wrap .i64 ((IntKind.wrap .i64 (d150 - y172)) + (IntKind.wrap .i64 ((IntKind.wrap .i64 (y172 + y167.2)) + y174))))) (QV.add rfl rfl) rfl rfl rfl ?_
                refine JL.val (v := .int .i64 (IntKind.wrap .i64 ((IntKind.wrap .i64 (d150 - y172)) + (IntKind.wrap .i64 ((IntKind.wrap .i64 (y172 + y167.2)) + y174))))) (QV.assign rfl) rfl rfl rfl ?_
                refine JL.nil ?_
                refine QJ.then_normal ?_
                refine JC.region ?_
                refine JL.val (v := .int .i64 (IntKind.wrap .i64 ((IntKind.wrap .i64 (d150 - y172)) + (IntKind.wrap .i64 ((IntKind.wrap .i64 (y172 + y167.2)) + y174))))) (QV.move rfl) rfl rfl rfl ?_
                refine JL.mv (d := none) (MV.store (ss := [Seg.c (.int .i64 d150)]) 4 0 1 [Seg.c (.int .i64 (IntKind.wrap .i64 ((IntKind.wrap .i64 (d150 - y172)) + (IntKind.wrap .i64 ((IntKind.wrap .i64 (y172 + y167.2)) + y174)))))] rfl tk_3 rfl rfl rfl rfl (fun w hs => ⟨rfl, one_c rfl, trivial⟩)) rfl rfl rfl ?_
                rintro _ _ ⟨rfl, rfl⟩
                refine JL.nil ?_
                refine QJ.block_normal ?_
                exact QJ.cut_normal (((d147 ++ [((IntKind.wrap .i64 (d150 - y172)), (IntKind.wrap .i64 (y167.1 - y172)), (IntKind.wrap .i64 ((IntKind.wrap .i64 (y172 + y167.2)) + y174)))]), (IntKind.wrap .i64 ((IntKind.wrap .i64 (d150 - y172)) + (IntKind.wrap .i64 ((IntKind.wrap .i64 (y172 + y167.2)) + y174)))), (IntKind.wrap .i64 ((IntKind.wrap .i64 (d150 - y172)) + (IntKind.wrap .i64 ((IntKind.wrap .i64 (y172 + y167.2)) + y174))))), z179) hm [6, 7, 2, 3, 11, 12, 13, 16, 4] (by exact ⟨rfl, rfl, rfl, rfl, rfl, rfl, trivial⟩) rfl rfl
          ·
            refine JC.condF' rfl (decide_eq_false h160) ?_
            refine JC.exit ?_
            refine QJ.then_exit ?_
            obtain rfl := Option.some.inj hm
            refine QJ.round_exit (fun hy => ?_)
            subst hy
            refine QJ.block_hit ?_
            exact QJ.cut_normal (d147, z146) hmo158 [7] (by exact ⟨rfl, trivial⟩) rfl rfl
      ·
        refine JC.condT' rfl (congrArg Bool.not (decide_eq_false h142)) ?_
        refine JC.seq ?_
        refine JC.region ?_
        refine JL.ent (fun _ hs => hs.nil 52 (Enc.pair (Enc.int .i64) (Enc.pair (Enc.int .i64) (Enc.int .i64)))) ?_
        refine JL.val (v := SlV.nil.v) (QV.assign rfl) rfl rfl rfl ?_
        refine JL.nil ?_
        refine QJ.then_normal ?_
        refine JC.ret ?_
        refine QJ.then_ret ?_
        obtain rfl := Option.some.inj hm
        exact QJ.body (vs := [SlV.nil.v]) (.inl rfl) rfl (ResVs.cons (ResV.tmp rfl) ResVs.nil) [0] rfl rfl (.inr ⟨own_of _ _ _ _, trivial⟩) ⟨(SlV.nil), rfl, rfl⟩

/-! ### 27: drogher/drogherlaw15.awake -/
noncomputable def F27.m  : Option Bool :=
  ((F28.m ([(97 : Int), (98 : Int), (99 : Int), (100 : Int), (101 : Int), (102 : Int), (103 : Int), (104 : Int)]) ([(97 : Int), (98 : Int), (99 : Int), (100 : Int), (101 : Int), (102 : Int), (103 : Int), (104 : Int)])).bind fun y4 => (if ((y4).length : Int) = (1 : Int) then (if 0 ≤ (0 : Int) ∧ (0 : Int) < ((y4).length : Int) then some (decide (((gd y4 (0 : Int)).1, (gd y4 (0 : Int)).2.1, (gd y4 (0 : Int)).2.2) = ((0 : Int), (0 : Int), (8 : Int)))) else none) else some false))
set_option maxRecDepth 100000 in
set_option maxHeartbeats 4000000 in
theorem F27.spec  (r : Bool) (hm : F27.m  = some r) :
    Ctr Try.prog false 27 [] [] (fun v L' => v = .bool r ∧ L' = []) := by
  refine Ctr.intro (n := 17) (env := []) Try.func27 rfl rfl rfl rfl (fun c => ?_)
  unfold F27.m at hm
  refine JC.seq ?_
  refine JC.region ?_
  refine JL.val (v := .bool false) (QV.assign rfl) rfl rfl rfl ?_
  refine JL.nil ?_
  refine QJ.then_normal ?_
  refine JC.seq ?_
  refine JC.region ?_
  refine JL.mv (d := some 2) (MV.lit (E := (Enc.int .u8)) (vals := [(0, .int .u8 (97 : Int)), (1, .int .u8 (98 : Int)), (2, .int .u8 (99 : Int)), (3, .int .u8 (100 : Int)), (4, .int .u8 (101 : Int)), (5, .int .u8 (102 : Int)), (6, .int .u8 (103 : Int)), (7, .int .u8 (104 : Int))]) [(97 : Int), (98 : Int), (99 : Int), (100 : Int), (101 : Int), (102 : Int), (103 : Int), (104 : Int)] Try.underlying23 zi_5 rfl (by decide) rfl (by kernel_rfl)) rfl rfl rfl ?_
  rintro _ _ ⟨z2, rfl, rfl⟩
  refine JL.mv (d := some 3) (MV.mark 0 rfl Try.underlying23 Try.underlying5 (by decide) rfl) rfl rfl rfl ?_
  rintro _ _ ⟨rfl, rfl⟩
  refine JL.mv (d := some 4) (MV.lit (E := (Enc.int .u8)) (vals := [(0, .int .u8 (97 : Int)), (1, .int .u8 (98 : Int)), (2, .int .u8 (99 : Int)), (3, .int .u8 (100 : Int)), (4, .int .u8 (101 : Int)), (5, .int .u8 (102 : Int)), (6, .int .u8 (103 : Int)), (7, .int .u8 (104 : Int))]) [(97 : Int), (98 : Int), (99 : Int), (100 : Int), (101 : Int), (102 : Int), (103 : Int), (104 : Int)] Try.underlying23 zi_5 rfl (by decide) rfl (by kernel_rfl)) rfl rfl rfl ?_
  rintro _ _ ⟨z3, rfl, rfl⟩
  refine JL.mv (d := some 5) (MV.mark 0 rfl Try.underlying23 Try.underlying5 (by decide) rfl) rfl rfl rfl ?_
  rintro _ _ ⟨rfl, rfl⟩
  obtain ⟨y4, hc5, hm⟩ := bind_inv hm
  refine JL.mv (d := some 6) (MV.call (Lo := []) (Lr := [Asr.vw (Enc.int .u8) (z3.v) [(97 : Int), (98 : Int), (99 : Int), (100 : Int), (101 : Int), (102 : Int), (103 : Int), (104 : Int)], Asr.vw (Enc.int .u8) (z2.v) [(97 : Int), (98 : Int), (99 : Int), (100 : Int), (101 : Int), (102 : Int), (103 : Int), (104 : Int)]]) (F28.spec (z2) (z3) ([(97 : Int), (98 : Int), (99 : Int), (100 : Int), (101 : Int), (102 : Int), (103 : Int), (104 : Int)]) ([(97 : Int), (98 : Int), (99 : Int), (100 : Int), (101 : Int), (102 : Int), (103 : Int), (104 : Int)]) _ hc5) rfl Try.func28 rfl rfl rfl [] [0, 1] rfl rfl rfl ⟨(Drv.vw 1 rfl), ⟨(Drv.vw 0 rfl), trivial⟩⟩) rfl rfl rfl ?_
  rintro _ _ ⟨_, ⟨z6, rfl, rfl⟩, rfl⟩
  refine JL.val (v := z6.v) (QV.assign rfl) rfl rfl rfl ?_
  refine JL.nil ?_
  refine QJ.then_normal ?_
  refine JC.seq ?_
  refine JC.region ?_
  refine JL.val (v := z6.v) (QV.move rfl) rfl rfl rfl ?_
  refine JL.val (v := .int .i64 ((y4).length : Int)) (QV.len (Rdg.of 0 rfl) Try.underlying47 rfl) rfl rfl rfl ?_
  refine JL.val (v := .bool (decide (((y4).length : Int) = (1 : Int)))) (QV.eql rfl rfl) rfl rfl rfl ?_
  rcases ite_inv hm with ⟨h7, hm⟩ | ⟨h7, hm⟩
  ·
    refine JL.val (v := .bool true) (QV.eq (QV.move rfl) (congrArg Value.bool (decide_eq_true h7))) rfl rfl rfl ?_
    refine JL.val (v := z6.v) (QV.move rfl) rfl rfl rfl ?_
    obtain ⟨h8, hm⟩ := guard_inv hm
    refine JL.val (v := .pointer (some (elA (z6.v) (Int.toNat (0 : Int) * ((Enc.pair (Enc.int .i64) (Enc.pair (Enc.int .i64) (Enc.int .i64)))).sz)))) (QV.indexA (Rdg.of 0 rfl) Try.underlying47 tk_52 rfl rfl h8) rfl rfl rfl ?_
    refine JL.val (v := .agg #[.int .i64 (gd y4 (0 : Int)).1, .int .i64 (gd y4 (0 : Int)).2.1, .int .i64 (gd y4 (0 : Int)).2.2]) (QV.eq (QV.elN (Rdg.of 0 rfl) tk_52 rfl h8) rfl) rfl rfl rfl ?_
    refine JL.val (v := .agg #[.int .i64 (0 : Int), .int .i64 (0 : Int), .int .i64 (8 : Int)]) (QV.build (vals := [(2, .int .i64 (8 : Int))]) rfl (by kernel_rfl)) rfl rfl rfl ?_
    refine JL.val (v := .bool (decide (((gd y4 (0 : Int)).1, (gd y4 (0 : Int)).2.1, (gd y4 (0 : Int)).2.2) = ((0 : Int), (0 : Int), (8 : Int))))) (QV.eqlE (E := (Enc.pair (Enc.int .i64) (Enc.pair (Enc.int .i64) (Enc.int .i64)))) (a := ((gd y4 (0 : Int)).1, (gd y4 (0 : Int)).2.1, (gd y4 (0 : Int)).2.2)) (b := ((0 : Int), (0 : Int), (8 : Int))) zeq_52 (by kernel_rfl) rfl rfl) rfl rfl rfl ?_
    refine JL.val (v := .bool (decide (((gd y4 (0 : Int)).1, (gd y4 (0 : Int)).2.1, (gd y4 (0 : Int)).2.2) = ((0 : Int), (0 : Int), (8 : Int))))) (QV.pickT rfl rfl) rfl rfl rfl ?_
    refine JL.val (v := .bool (decide (((gd y4 (0 : Int)).1, (gd y4 (0 : Int)).2.1, (gd y4 (0 : Int)).2.2) = ((0 : Int), (0 : Int), (8 : Int))))) (QV.assign rfl) rfl rfl rfl ?_
    refine JL.nil ?_
    refine QJ.then_normal ?_
    refine JC.ret ?_
    obtain rfl := Option.some.inj hm
    exact QJ.body (vs := [.bool (decide (((gd y4 (0 : Int)).1, (gd y4 (0 : Int)).2.1, (gd y4 (0 : Int)).2.2) = ((0 : Int), (0 : Int), (8 : Int))))]) (.inl rfl) rfl (ResVs.cons (ResV.tmp rfl) ResVs.nil) [] rfl rfl (.inr trivial) ⟨rfl, rfl⟩
  ·
    refine JL.val (v := .bool false) (QV.eq (QV.move rfl) (congrArg Value.bool (decide_eq_false h7))) rfl rfl rfl ?_
    refine JL.skip (d := some 11) rfl rfl rfl ?_
    refine JL.skip (d := some 12) rfl rfl rfl ?_
    refine JL.skip (d := some 13) rfl rfl rfl ?_
    refine JL.skip (d := some 14) rfl rfl rfl ?_
    refine JL.skip (d := some 15) rfl rfl rfl ?_
    refine JL.val (v := .bool false) (QV.pickF rfl rfl) rfl rfl rfl ?_
    refine JL.val (v := .bool false) (QV.assign rfl) rfl rfl rfl ?_
    refine JL.nil ?_
    refine QJ.then_normal ?_
    refine JC.ret ?_
    obtain rfl := Option.some.inj hm
    exact QJ.body (vs := [.bool false]) (.inl rfl) rfl (ResVs.cons (ResV.tmp rfl) ResVs.nil) [] rfl rfl (.inr trivial) ⟨rfl, rfl⟩

/-! ### 56: drogher/drogherref15.One -/
noncomputable def F56.m (x1 : Int) (x2 : Int) (x3 : Int) (x4 : Int) (x5 : Int) : Option Bool :=
  (if x3 < (1 : Int) then some false else (if x1 < (0 : Int) then some false else (if x2 < (0 : Int) then some false else (if x5 < x1 then some false else (if x4 < x2 then some false else (if x3 ≤ (IntKind.wrap .i64 (x5 - x1)) then some (decide (x3 ≤ (IntKind.wrap .i64 (x4 - x2)))) else some false))))))
set_option maxRecDepth 100000 in
set_option maxHeartbeats 4000000 in
theorem F56.spec (x1 : Int) (x2 : Int) (x3 : Int) (x4 : Int) (x5 : Int) (r : Bool) (hm : F56.m x1 x2 x3 x4 x5 = some r) :
    Ctr Try.prog false 56 [.agg #[.int .i64 x1, .int .i64 x2, .int .i64 x3], .int .i64 x4, .int .i64 x5] [] (fun v L' => v = .bool r ∧ L' = []) := by
  refine Ctr.intro (n := 48) (env := [(0, .agg #[.int .i64 x1, .int .i64 x2, .int .i64 x3]), (1, .int .i64 x4), (2, .int .i64 x5)]) Try.func56 rfl rfl rfl rfl (fun c => ?_)
  unfold F56.m at hm
  refine JC.seq ?_
  refine JC.region ?_
  refine JL.mv (d := some 3) (MV.box [Seg.c (.int .i64 x1), Seg.c (.int .i64 x2), Seg.c (.int .i64 x3)] rfl (fun w hs => rfl)) rfl rfl rfl ?_
  rintro _ _ ⟨b7, rfl, rfl⟩
  refine JL.val (v := .bool false) (QV.assign rfl) rfl rfl rfl ?_
  refine JL.nil ?_
  refine QJ.then_normal ?_
  refine JC.seq ?_
  refine JC.seq ?_
  refine JC.region ?_
  refine JL.val (v := .pointer (some ⟨b7, 2, none⟩)) (QV.fieldB fo_52_2 rfl rfl) rfl rfl rfl ?_
  refine JL.val (v := .int .i64 x3) (QV.load1 (ss := [Seg.c (.int .i64 x1), Seg.c (.int .i64 x2), Seg.c (.int .i64 x3)]) 0 2 rfl tk_3 rfl rfl rfl) rfl rfl rfl ?_
  refine JL.val (v := .bool (decide (x3 < (1 : Int)))) (QV.lss rfl rfl) rfl rfl rfl ?_
  rcases ite_inv hm with ⟨h8, hm⟩ | ⟨h8, hm⟩
  ·
    refine JL.val (v := .bool true) (QV.eq (QV.move rfl) (congrArg Value.bool (decide_eq_true h8))) rfl rfl rfl ?_
    refine JL.skip (d := some 11) rfl rfl rfl ?_
    refine JL.skip (d := some 12) rfl rfl rfl ?_
    refine JL.skip (d := some 13) rfl rfl rfl ?_
    refine JL.val (v := .bool true) (QV.pickT rfl rfl) rfl rfl rfl ?_
    refine JL.val (v := .bool true) (QV.move rfl) rfl rfl rfl ?_
    refine JL.skip (d := some 16) rfl rfl rfl ?_
    refine JL.skip (d := some 17) rfl rfl rfl ?_
    refine JL.skip (d := some 18) rfl rfl rfl ?_
    refine JL.val (v := .bool true) (QV.pickT rfl rfl) rfl rfl rfl ?_
    refine JL.val (v := .bool true) (QV.move rfl) rfl rfl rfl ?_
    refine JL.skip (d := some 21) rfl rfl rfl ?_
    refine JL.skip (d := some 22) rfl rfl rfl ?_
    refine JL.skip (d := some 23) rfl rfl rfl ?_
    refine JL.skip (d := some 24) rfl rfl rfl ?_
    refine JL.val (v := .bool true) (QV.pickT rfl rfl) rfl rfl rfl ?_
    refine JL.val (v := .bool true) (QV.move rfl) rfl rfl rfl ?_
    refine JL.skip (d := some 27) rfl rfl rfl ?_
    refine JL.skip (d := some 28) rfl rfl rfl ?_
    refine JL.skip (d := some 29) rfl rfl rfl ?_
    refine JL.skip (d := some 30) rfl rfl rfl ?_
    refine JL.val (v := .bool true) (QV.pickT rfl rfl) rfl rfl rfl ?_
    refine JL.nil ?_
    refine QJ.then_normal ?_
    refine JC.condT rfl ?_
    refine JC.seq ?_
    refine JC.region ?_
    refine JL.val (v := .bool false) (QV.assign rfl) rfl rfl rfl ?_
    refine JL.nil ?_
    refine QJ.then_normal ?_
    refine JC.ret ?_
    refine QJ.then_ret ?_
    obtain rfl := Option.some.inj hm
    exact QJ.body (vs := [.bool false]) (.inl rfl) rfl (ResVs.cons (ResV.tmp rfl) ResVs.nil) [] rfl rfl (.inr trivial) ⟨rfl, rfl⟩
  ·
    refine JL.val (v := .bool false) (QV.eq (QV.move rfl) (congrArg Value.bool (decide_eq_false h8))) rfl rfl rfl ?_
    refine JL.val (v := .pointer (some ⟨b7, 0, none⟩)) (QV.fieldB fo_52_0 rfl rfl) rfl rfl rfl ?_
    refine JL.val (v := .int .i64 x1) (QV.load1 (ss := [Seg.c (.int .i64 x1), Seg.c (.int .i64 x2), Seg.c (.int .i64 x3)]) 0 0 rfl tk_3 rfl rfl rfl) rfl rfl rfl ?_
    refine JL.val (v := .bool (decide (x1 < (0 : Int)))) (QV.lss rfl rfl) rfl rfl rfl ?_
    refine JL.val (v := .bool (decide (x1 < (0 : Int)))) (QV.pickF rfl rfl) rfl rfl rfl ?_
    rcases ite_inv hm with ⟨h9, hm⟩ | ⟨h9, hm⟩
    ·
      refine JL.val (v := .bool true) (QV.eq (QV.move rfl) (congrArg Value.bool (decide_eq_true h9))) rfl rfl rfl ?_
      refine JL.skip (d := some 16) rfl rfl rfl ?_
      refine JL.skip (d := some 17) rfl rfl rfl ?_
      refine JL.skip (d := some 18) rfl rfl rfl ?_
      refine JL.val (v := .bool true) (QV.pickT rfl rfl) rfl rfl rfl ?_
      refine JL.val (v := .bool true) (QV.move rfl) rfl rfl rfl ?_
      refine JL.skip (d := some 21) rfl rfl rfl ?_
      refine JL.skip (d := some 22) rfl rfl rfl ?_
      refine JL.skip (d := some 23) rfl rfl rfl ?_
      refine JL.skip (d := some 24) rfl rfl rfl ?_
      refine JL.val (v := .bool true) (QV.pickT rfl rfl) rfl rfl rfl ?_
      refine JL.val (v := .bool true) (QV.move rfl) rfl rfl rfl ?_
      refine JL.skip (d := some 27) rfl rfl rfl ?_
      refine JL.skip (d := some 28) rfl rfl rfl ?_
      refine JL.skip (d := some 29) rfl rfl rfl ?_
      refine JL.skip (d := some 30) rfl rfl rfl ?_
      refine JL.val (v := .bool true) (QV.pickT rfl rfl) rfl rfl rfl ?_
      refine JL.nil ?_
      refine QJ.then_normal ?_
      refine JC.condT rfl ?_
      refine JC.seq ?_
      refine JC.region ?_
      refine JL.val (v := .bool false) (QV.assign rfl) rfl rfl rfl ?_
      refine JL.nil ?_
      refine QJ.then_normal ?_
      refine JC.ret ?_
      refine QJ.then_ret ?_
      obtain rfl := Option.some.inj hm
      exact QJ.body (vs := [.bool false]) (.inl rfl) rfl (ResVs.cons (ResV.tmp rfl) ResVs.nil) [] rfl rfl (.inr trivial) ⟨rfl, rfl⟩
    ·
      refine JL.val (v := .bool false) (QV.eq (QV.move rfl) (congrArg Value.bool (decide_eq_false h9))) rfl rfl rfl ?_
      refine JL.val (v := .pointer (some ⟨b7, 1, none⟩)) (QV.fieldB fo_52_1 rfl rfl) rfl rfl rfl ?_
      refine JL.val (v := .int .i64 x2) (QV.load1 (ss := [Seg.c (.int .i64 x1), Seg.c (.int .i64 x2), Seg.c (.int .i64 x3)]) 0 1 rfl tk_3 rfl rfl rfl) rfl rfl rfl ?_
      refine JL.val (v := .bool (decide (x2 < (0 : Int)))) (QV.lss rfl rfl) rfl rfl rfl ?_
      refine JL.val (v := .bool (decide (x2 < (0 : Int)))) (QV.pickF rfl rfl) rfl rfl rfl ?_
      rcases ite_inv hm with ⟨h10, hm⟩ | ⟨h10, hm⟩
      ·
        refine JL.val (v := .bool true) (QV.eq (QV.move rfl) (congrArg Value.bool (decide_eq_true h10))) rfl rfl rfl ?_
        refine JL.skip (d := some 21) rfl rfl rfl ?_
        refine JL.skip (d := some 22) rfl rfl rfl ?_
        refine JL.skip (d := some 23) rfl rfl rfl ?_
        refine JL.skip (d := some 24) rfl rfl rfl ?_
        refine JL.val (v := .bool true) (QV.pickT rfl rfl) rfl rfl rfl ?_
        refine JL.val (v := .bool true) (QV.move rfl) rfl rfl rfl ?_
        refine JL.skip (d := some 27) rfl rfl rfl ?_
        refine JL.skip (d := some 28) rfl rfl rfl ?_
        refine JL.skip (d := some 29) rfl rfl rfl ?_
        refine JL.skip (d := some 30) rfl rfl rfl ?_
        refine JL.val (v := .bool true) (QV.pickT rfl rfl) rfl rfl rfl ?_
        refine JL.nil ?_
        refine QJ.then_normal ?_
        refine JC.condT rfl ?_
        refine JC.seq ?_
        refine JC.region ?_
        refine JL.val (v := .bool false) (QV.assign rfl) rfl rfl rfl ?_
        refine JL.nil ?_
        refine QJ.then_normal ?_
        refine JC.ret ?_
        refine QJ.then_ret ?_
        obtain rfl := Option.some.inj hm
        exact QJ.body (vs := [.bool false]) (.inl rfl) rfl (ResVs.cons (ResV.tmp rfl) ResVs.nil) [] rfl rfl (.inr trivial) ⟨rfl, rfl⟩
      ·
        refine JL.val (v := .bool false) (QV.eq (QV.move rfl) (congrArg Value.bool (decide_eq_false h10))) rfl rfl rfl ?_
        refine JL.val (v := .pointer (some ⟨b7, 0, none⟩)) (QV.fieldB fo_52_0 rfl rfl) rfl rfl rfl ?_
        refine JL.val (v := .int .i64 x1) (QV.load1 (ss := [Seg.c (.int .i64 x1), Seg.c (.int .i64 x2), Seg.c (.int .i64 x3)]) 0 0 rfl tk_3 rfl rfl rfl) rfl rfl rfl ?_
        refine JL.val (v := .int .i64 x5) (QV.move rfl) rfl rfl rfl ?_
        refine JL.val (v := .bool (decide (x5 < x1))) (QV.gtr rfl rfl) rfl rfl rfl ?_
        refine JL.val (v := .bool (decide (x5 < x1))) (QV.pickF rfl rfl) rfl rfl rfl ?_
        rcases ite_inv hm with ⟨h11, hm⟩ | ⟨h11, hm⟩
        ·
          refine JL.val (v := .bool true) (QV.eq (QV.move rfl) (congrArg Value.bool (decide_eq_true h11))) rfl rfl rfl ?_
          refine JL.skip (d := some 27) rfl rfl rfl ?_
          refine JL.skip (d := some 28) rfl rfl rfl ?_
          refine JL.skip (d := some 29) rfl rfl rfl ?_
          refine JL.skip (d := some 30) rfl rfl rfl ?_
          refine JL.val (v := .bool true) (QV.pickT rfl rfl) rfl rfl rfl ?_
          refine JL.nil ?_
          refine QJ.then_normal ?_
          refine JC.condT rfl ?_
          refine JC.seq ?_
          refine JC.region ?_
          refine JL.val (v := .bool false) (QV.assign rfl) rfl rfl rfl ?_
          refine JL.nil ?_
          refine QJ.then_normal ?_
          refine JC.ret ?_
          refine QJ.then_ret ?_
          obtain rfl := Option.some.inj hm
          exact QJ.body (vs := [.bool false]) (.inl rfl) rfl (ResVs.cons (ResV.tmp rfl) ResVs.nil) [] rfl rfl (.inr trivial) ⟨rfl, rfl⟩
        ·
          refine JL.val (v := .bool false) (QV.eq (QV.move rfl) (congrArg Value.bool (decide_eq_false h11))) rfl rfl rfl ?_
          refine JL.val (v := .pointer (some ⟨b7, 1, none⟩)) (QV.fieldB fo_52_1 rfl rfl) rfl rfl rfl ?_
          refine JL.val (v := .int .i64 x2) (QV.load1 (ss := [Seg.c (.int .i64 x1), Seg.c (.int .i64 x2), Seg.c (.int .i64 x3)]) 0 1 rfl tk_3 rfl rfl rfl) rfl rfl rfl ?_
          refine JL.val (v := .int .i64 x4) (QV.move rfl) rfl rfl rfl ?_
          refine JL.val (v := .bool (decide (x4 < x2))) (QV.gtr rfl rfl) rfl rfl rfl ?_
          refine JL.val (v := .bool (decide (x4 < x2))) (QV.pickF rfl rfl) rfl rfl rfl ?_
          refine JL.nil ?_
          refine QJ.then_normal ?_
          rcases ite_inv hm with ⟨h12, hm⟩ | ⟨h12, hm⟩
          ·
            refine JC.condT' rfl (decide_eq_true h12) ?_
            refine JC.seq ?_
            refine JC.region ?_
            refine JL.val (v := .bool false) (QV.assign rfl) rfl rfl rfl ?_
            refine JL.nil ?_
            refine QJ.then_normal ?_
            refine JC.ret ?_
            refine QJ.then_ret ?_
            obtain rfl := Option.some.inj hm
            exact QJ.body (vs := [.bool false]) (.inl rfl) rfl (ResVs.cons (ResV.tmp rfl) ResVs.nil) [] rfl rfl (.inr trivial) ⟨rfl, rfl⟩
          ·
            refine JC.condF' rfl (decide_eq_false h12) ?_
            refine JC.skip ?_
            refine QJ.then_normal ?_
            refine JC.seq ?_
            refine JC.region ?_
            refine JL.val (v := .pointer (some ⟨b7, 2, none⟩)) (QV.fieldB fo_52_2 rfl rfl) rfl rfl rfl ?_
            refine JL.val (v := .int .i64 x3) (QV.load1 (ss := [Seg.c (.int .i64 x1), Seg.c (.int .i64 x2), Seg.c (.int .i64 x3)]) 0 2 rfl tk_3 rfl rfl rfl) rfl rfl rfl ?_
            refine JL.val (v := .int .i64 x5) (QV.move rfl) rfl rfl rfl ?_
            refine JL.val (v := .pointer (some ⟨b7, 0, none⟩)) (QV.fieldB fo_52_0 rfl rfl) rfl rfl rfl ?_
            refine JL.val (v := .int .i64 x1) (QV.load1 (ss := [Seg.c (.int .i64 x1), Seg.c (.int .i64 x2), Seg.c (.int .i64 x3)]) 0 0 rfl tk_3 rfl rfl rfl) rfl rfl rfl ?_
            refine JL.val (v := .int .i64 (IntKind.wrap .i64 (x5 - x1))) (QV.sub rfl rfl) rfl rfl rfl ?_
            refine JL.val (v := .bool (decide (x3 ≤ (IntKind.wrap .i64 (x5 - x1))))) (QV.leq rfl rfl) rfl rfl rfl ?_
            rcases ite_inv hm with ⟨h13, hm⟩ | ⟨h13, hm⟩
            ·
              refine JL.val (v := .bool true) (QV.eq (QV.move rfl) (congrArg Value.bool (decide_eq_true h13))) rfl rfl rfl ?_
              refine JL.val (v := .pointer (some ⟨b7, 2, none⟩)) (QV.fieldB fo_52_2 rfl rfl) rfl rfl rfl ?_
              refine JL.val (v := .int .i64 x3) (QV.load1 (ss := [Seg.c (.int .i64 x1), Seg.c (.int .i64 x2), Seg.c (.int .i64 x3)]) 0 2 rfl tk_3 rfl rfl rfl) rfl rfl rfl ?_
              refine JL.val (v := .int .i64 x4) (QV.move rfl) rfl rfl rfl ?_
              refine JL.val (v := .pointer (some ⟨b7, 1, none⟩)) (QV.fieldB fo_52_1 rfl rfl) rfl rfl rfl ?_
              refine JL.val (v := .int .i64 x2) (QV.load1 (ss := [Seg.c (.int .i64 x1), Seg.c (.int .i64 x2), Seg.c (.int .i64 x3)]) 0 1 rfl tk_3 rfl rfl rfl) rfl rfl rfl ?_
              refine JL.val (v := .int .i64 (IntKind.wrap .i64 (x4 - x2))) (QV.sub rfl rfl) rfl rfl rfl ?_
              refine JL.val (v := .bool (decide (x3 ≤ (IntKind.wrap .i64 (x4 - x2))))) (QV.leq rfl rfl) rfl rfl rfl ?_
              refine JL.val (v := .bool (decide (x3 ≤ (IntKind.wrap .i64 (x4 - x2))))) (QV.pickT rfl rfl) rfl rfl rfl ?_
              refine JL.val (v := .bool (decide (x3 ≤ (IntKind.wrap .i64 (x4 - x2))))) (QV.assign rfl) rfl rfl rfl ?_
              refine JL.nil ?_
              refine QJ.then_normal ?_
              refine JC.ret ?_
              obtain rfl := Option.some.inj hm
              exact QJ.body (vs := [.bool (decide (x3 ≤ (IntKind.wrap .i64 (x4 - x2))))]) (.inl rfl) rfl (ResVs.cons (ResV.tmp rfl) ResVs.nil) [] rfl rfl (.inr trivial) ⟨rfl, rfl⟩
            ·
              refine JL.val (v := .bool false) (QV.eq (QV.move rfl) (congrArg Value.bool (decide_eq_false h13))) rfl rfl rfl ?_
              refine JL.skip (d := some 40) rfl rfl rfl ?_
              refine JL.skip (d := some 41) rfl rfl rfl ?_
              refine JL.skip (d := some 42) rfl rfl rfl ?_
              refine JL.skip (d := some 43) rfl rfl rfl ?_
              refine JL.skip (d := some 44) rfl rfl rfl ?_
              refine JL.skip (d := some 45) rfl rfl rfl ?_
              refine JL.skip (d := some 46) rfl rfl rfl ?_
              refine JL.val (v := .bool false) (QV.pickF rfl rfl) rfl rfl rfl ?_
              refine JL.val (v := .bool false) (QV.assign rfl) rfl rfl rfl ?_
              refine JL.nil ?_
              refine QJ.then_normal ?_
              refine JC.ret ?_
              obtain rfl := Option.some.inj hm
              exact QJ.body (vs := [.bool false]) (.inl rfl) rfl (ResVs.cons (ResV.tmp rfl) ResVs.nil) [] rfl rfl (.inr trivial) ⟨rfl, rfl⟩

end Go.Proofs.Ytedokgdilpfomaa
