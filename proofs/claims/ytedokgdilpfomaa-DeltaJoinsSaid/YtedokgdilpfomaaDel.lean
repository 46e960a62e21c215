/- Written by gen.py: functions and their contracts. -/
import Derived.Test.YtedokgdilpfomaaPln
import Derived.Test.YtedokgdilpfomaaMat
namespace Go.Proofs.Ytedokgdilpfomaa
open Go Go.Eng Go.Proofs
set_option linter.unusedVariables false
set_option linter.unusedSimpArgs false
/-! ### 58: drogher/delta.may -/
noncomputable def F58.m (x1 : Int) : Option Bool :=
  (if (128 : Int) ≤ x1 then some (decide (x1 ≤ (4096 : Int))) else some false)
set_option maxRecDepth 100000 in
set_option maxHeartbeats 4000000 in
theorem F58.spec (x1 : Int) (r : Bool) (hm : F58.m x1 = some r) :
    Ctr Try.prog false 58 [.int .i64 x1] [] (fun v L' => v = .bool r ∧ L' = []) := by
  refine Ctr.intro (n := 9) (env := [(0, .int .i64 x1)]) Try.func58 rfl rfl rfl rfl (fun c => ?_)
  unfold F58.m at hm
  refine JC.seq ?_
  refine JC.region ?_
  refine JL.val (v := .bool false) (QV.assign rfl) rfl rfl rfl ?_
  refine JL.nil ?_
  refine QJ.then_normal ?_
  refine JC.seq ?_
  refine JC.region ?_
  refine JL.val (v := .int .i64 x1) (QV.move rfl) rfl rfl rfl ?_
  refine JL.val (v := .bool (decide ((128 : Int) ≤ x1))) (QV.geq rfl rfl) rfl rfl rfl ?_
  rcases ite_inv hm with ⟨h3, hm⟩ | ⟨h3, hm⟩
  ·
    refine JL.val (v := .bool true) (QV.eq (QV.move rfl) (congrArg Value.bool (decide_eq_true h3))) rfl rfl rfl ?_
    refine JL.val (v := .int .i64 x1) (QV.move rfl) rfl rfl rfl ?_
    refine JL.val (v := .bool (decide (x1 ≤ (4096 : Int)))) (QV.leq rfl rfl) rfl rfl rfl ?_
    refine JL.val (v := .bool (decide (x1 ≤ (4096 : Int)))) (QV.pickT rfl rfl) rfl rfl rfl ?_
    refine JL.val (v := .bool (decide (x1 ≤ (4096 : Int)))) (QV.assign rfl) rfl rfl rfl ?_
    refine JL.nil ?_
    refine QJ.then_normal ?_
    refine JC.ret ?_
    obtain rfl := Option.some.inj hm
    exact QJ.body (vs := [.bool (decide (x1 ≤ (4096 : Int)))]) (.inl rfl) rfl (ResVs.cons (ResV.tmp rfl) ResVs.nil) [] rfl rfl (.inr trivial) ⟨rfl, rfl⟩
  ·
    refine JL.val (v := .bool false) (QV.eq (QV.move rfl) (congrArg Value.bool (decide_eq_false h3))) rfl rfl rfl ?_
    refine JL.skip (d := some 6) rfl rfl rfl ?_
    refine JL.skip (d := some 7) rfl rfl rfl ?_
    refine JL.val (v := .bool false) (QV.pickF rfl rfl) rfl rfl rfl ?_
    refine JL.val (v := .bool false) (QV.assign rfl) rfl rfl rfl ?_
    refine JL.nil ?_
    refine QJ.then_normal ?_
    refine JC.ret ?_
    obtain rfl := Option.some.inj hm
    exact QJ.body (vs := [.bool false]) (.inl rfl) rfl (ResVs.cons (ResV.tmp rfl) ResVs.nil) [] rfl rfl (.inr trivial) ⟨rfl, rfl⟩

/-! ### 39: drogher/delta.Blocks -/
noncomputable def F39.m (x1 : Int) (x2 : Int) : Option Int :=
  (if x1 < (1 : Int) then some (0 : Int) else (if x2 < (1 : Int) then some (0 : Int) else (if x2 ≠ 0 then some (IntKind.wrap .i64 ((IntKind.wrap .i64 (Int.tdiv (IntKind.wrap .i64 (x1 - (1 : Int))) x2)) + (1 : Int))) else none)))
set_option maxRecDepth 100000 in
set_option maxHeartbeats 4000000 in
theorem F39.spec (x1 : Int) (x2 : Int) (r : Int) (hm : F39.m x1 x2 = some r) :
    Ctr Try.prog false 39 [.int .i64 x1, .int .i64 x2] [] (fun v L' => v = .int .i64 r ∧ L' = []) := by
  refine Ctr.intro (n := 16) (env := [(0, .int .i64 x1), (1, .int .i64 x2)]) Try.func39 rfl rfl rfl rfl (fun c => ?_)
  unfold F39.m at hm
  refine JC.seq ?_
  refine JC.region ?_
  refine JL.val (v := .int .i64 (0 : Int)) (QV.assign rfl) rfl rfl rfl ?_
  refine JL.nil ?_
  refine QJ.then_normal ?_
  refine JC.seq ?_
  refine JC.seq ?_
  refine JC.region ?_
  refine JL.val (v := .int .i64 x1) (QV.move rfl) rfl rfl rfl ?_
  refine JL.val (v := .bool (decide (x1 < (1 : Int)))) (QV.lss rfl rfl) rfl rfl rfl ?_
  rcases ite_inv hm with ⟨h4, hm⟩ | ⟨h4, hm⟩
  ·
    refine JL.val (v := .bool true) (QV.eq (QV.move rfl) (congrArg Value.bool (decide_eq_true h4))) rfl rfl rfl ?_
    refine JL.skip (d := some 8) rfl rfl rfl ?_
    refine JL.skip (d := some 9) rfl rfl rfl ?_
    refine JL.val (v := .bool true) (QV.pickT rfl rfl) rfl rfl rfl ?_
    refine JL.nil ?_
    refine QJ.then_normal ?_
    refine JC.condT rfl ?_
    refine JC.seq ?_
    refine JC.region ?_
    refine JL.val (v := .int .i64 (0 : Int)) (QV.assign rfl) rfl rfl rfl ?_
    refine JL.nil ?_
    refine QJ.then_normal ?_
    refine JC.ret ?_
    refine QJ.then_ret ?_
    obtain rfl := Option.some.inj hm
    exact QJ.body (vs := [.int .i64 (0 : Int)]) (.inl rfl) rfl (ResVs.cons (ResV.tmp rfl) ResVs.nil) [] rfl rfl (.inr trivial) ⟨rfl, rfl⟩
  ·
    refine JL.val (v := .bool false) (QV.eq (QV.move rfl) (congrArg Value.bool (decide_eq_false h4))) rfl rfl rfl ?_
    refine JL.val (v := .int .i64 x2) (QV.move rfl) rfl rfl rfl ?_
    refine JL.val (v := .bool (decide (x2 < (1 : Int)))) (QV.lss rfl rfl) rfl rfl rfl ?_
    refine JL.val (v := .bool (decide (x2 < (1 : Int)))) (QV.pickF rfl rfl) rfl rfl rfl ?_
    refine JL.nil ?_
    refine QJ.then_normal ?_
    rcases ite_inv hm with ⟨h5, hm⟩ | ⟨h5, hm⟩
    ·
      refine JC.condT' rfl (decide_eq_true h5) ?_
      refine JC.seq ?_
      refine JC.region ?_
      refine JL.val (v := .int .i64 (0 : Int)) (QV.assign rfl) rfl rfl rfl ?_
      refine JL.nil ?_
      refine QJ.then_normal ?_
      refine JC.ret ?_
      refine QJ.then_ret ?_
      obtain rfl := Option.some.inj hm
      exact QJ.body (vs := [.int .i64 (0 : Int)]) (.inl rfl) rfl (ResVs.cons (ResV.tmp rfl) ResVs.nil) [] rfl rfl (.inr trivial) ⟨rfl, rfl⟩
    ·
      refine JC.condF' rfl (decide_eq_false h5) ?_
      refine JC.skip ?_
      refine QJ.then_normal ?_
      refine JC.seq ?_
      refine JC.region ?_
      refine JL.val (v := .int .i64 x1) (QV.move rfl) rfl rfl rfl ?_
      refine JL.val (v := .int .i64 (IntKind.wrap .i64 (x1 - (1 : Int)))) (QV.sub rfl rfl) rfl rfl rfl ?_
      refine JL.val (v := .int .i64 x2) (QV.move rfl) rfl rfl rfl ?_
      obtain ⟨h6, hm⟩ := guard_inv hm
      refine JL.val (v := .int .i64 (IntKind.wrap .i64 (Int.tdiv (IntKind.wrap .i64 (x1 - (1 : Int))) x2))) (QV.quo rfl rfl h6) rfl rfl rfl ?_
      refine JL.val (v := .int .i64 (IntKind.wrap .i64 ((IntKind.wrap .i64 (Int.tdiv (IntKind.wrap .i64 (x1 - (1 : Int))) x2)) + (1 : Int)))) (QV.add rfl rfl) rfl rfl rfl ?_
      refine JL.val (v := .int .i64 (IntKind.wrap .i64 ((IntKind.wrap .i64 (Int.tdiv (IntKind.wrap .i64 (x1 - (1 : Int))) x2)) + (1 : Int)))) (QV.assign rfl) rfl rfl rfl ?_
      refine JL.nil ?_
      refine QJ.then_normal ?_
      refine JC.ret ?_
      obtain rfl := Option.some.inj hm
      exact QJ.body (vs := [.int .i64 (IntKind.wrap .i64 ((IntKind.wrap .i64 (Int.tdiv (IntKind.wrap .i64 (x1 - (1 : Int))) x2)) + (1 : Int)))]) (.inl rfl) rfl (ResVs.cons (ResV.tmp rfl) ResVs.nil) [] rfl rfl (.inr trivial) ⟨rfl, rfl⟩

/-! ### 40: drogher/delta.Literal -/
noncomputable def F40.m (x2 : List Int) : Option (List (Int × Int × Int × (List Int))) :=
  (if ((x2).length : Int) < (1 : Int) then some ([] : List (Int × Int × Int × (List Int))) else (if (4096 : Int) < ((x2).length : Int) then some ([] : List (Int × Int × Int × (List Int))) else ((F60.m (x2)).bind fun y8 => some [((1 : Int), (0 : Int), ((x2).length : Int), y8)])))
set_option maxRecDepth 100000 in
set_option maxHeartbeats 4000000 in
theorem F40.spec (s1 : SlV) (x2 : List Int) (r : (List (Int × Int × Int × (List Int)))) (hm : F40.m x2 = some r) :
    Ctr Try.prog true 40 [s1.v] [Asr.vw (Enc.int .u8) (s1.v) x2] (fun v L' => ∃ (g3 : SlV), ∃ (g5 : List (Unit × Unit × Unit × SlV)), v = g3.v ∧ L' = [Asr.onv 35 (NE.pair (NE.flat (Enc.int .u8)) (NE.pair (NE.flat (Enc.int .i64)) (NE.pair (NE.flat (Enc.int .i64)) (NE.sl (Enc.int .u8))))) (g3.v) g5 r]) := by
  refine Ctr.intro (n := 17) (env := [(0, s1.v)]) Try.func40 rfl rfl rfl rfl (fun c => ?_)
  unfold F40.m at hm
  refine JC.seq ?_
  refine JC.region ?_
  refine JL.ent (fun _ hs => hs.nilV 35 (NE.pair (NE.flat (Enc.int .u8)) (NE.pair (NE.flat (Enc.int .i64)) (NE.pair (NE.flat (Enc.int .i64)) (NE.sl (Enc.int .u8)))))) ?_
  refine JL.val (v := SlV.nil.v) (QV.assign rfl) rfl rfl rfl ?_
  refine JL.nil ?_
  refine QJ.then_normal ?_
  refine JC.seq ?_
  refine JC.seq ?_
  refine JC.region ?_
  refine JL.val (v := s1.v) (QV.move rfl) rfl rfl rfl ?_
  refine JL.val (v := .int .i64 ((x2).length : Int)) (QV.len (Rdg.vw 1 rfl) Try.underlying23 rfl) rfl rfl rfl ?_
  refine JL.val (v := .bool (decide (((x2).length : Int) < (1 : Int)))) (QV.lss rfl rfl) rfl rfl rfl ?_
  rcases ite_inv hm with ⟨h6, hm⟩ | ⟨h6, hm⟩
  ·
    refine JL.val (v := .bool true) (QV.eq (QV.move rfl) (congrArg Value.bool (decide_eq_true h6))) rfl rfl rfl ?_
    refine JL.skip (d := some 7) rfl rfl rfl ?_
    refine JL.skip (d := some 8) rfl rfl rfl ?_
    refine JL.skip (d := some 9) rfl rfl rfl ?_
    refine JL.val (v := .bool true) (QV.pickT rfl rfl) rfl rfl rfl ?_
    refine JL.nil ?_
    refine QJ.then_normal ?_
    refine JC.condT rfl ?_
    refine JC.seq ?_
    refine JC.region ?_
    refine JL.ent (fun _ hs => hs.nilV 35 (NE.pair (NE.flat (Enc.int .u8)) (NE.pair (NE.flat (Enc.int .i64)) (NE.pair (NE.flat (Enc.int .i64)) (NE.sl (Enc.int .u8)))))) ?_
    refine JL.val (v := SlV.nil.v) (QV.assign rfl) rfl rfl rfl ?_
    refine JL.nil ?_
    refine QJ.then_normal ?_
    refine JC.ret ?_
    refine QJ.then_ret ?_
    obtain rfl := Option.some.inj hm
    exact QJ.body (vs := [SlV.nil.v]) (.inl rfl) rfl (ResVs.cons (ResV.tmp rfl) ResVs.nil) [0] rfl rfl (.inl rfl) ⟨(SlV.nil), (([] : List (Unit × Unit × Unit × SlV))), rfl, rfl⟩
  ·
    refine JL.val (v := .bool false) (QV.eq (QV.move rfl) (congrArg Value.bool (decide_eq_false h6))) rfl rfl rfl ?_
    refine JL.val (v := s1.v) (QV.move rfl) rfl rfl rfl ?_
    refine JL.val (v := .int .i64 ((x2).length : Int)) (QV.len (Rdg.vw 1 rfl) Try.underlying23 rfl) rfl rfl rfl ?_
    refine JL.val (v := .bool (decide ((4096 : Int) < ((x2).length : Int)))) (QV.gtr rfl rfl) rfl rfl rfl ?_
    refine JL.val (v := .bool (decide ((4096 : Int) < ((x2).length : Int)))) (QV.pickF rfl rfl) rfl rfl rfl ?_
    refine JL.nil ?_
    refine QJ.then_normal ?_
    rcases ite_inv hm with ⟨h7, hm⟩ | ⟨h7, hm⟩
    ·
      refine JC.condT' rfl (decide_eq_true h7) ?_
      refine JC.seq ?_
      refine JC.region ?_
      refine JL.ent (fun _ hs => hs.nilV 35 (NE.pair (NE.flat (Enc.int .u8)) (NE.pair (NE.flat (Enc.int .i64)) (NE.pair (NE.flat (Enc.int .i64)) (NE.sl (Enc.int .u8)))))) ?_
      refine JL.val (v := SlV.nil.v) (QV.assign rfl) rfl rfl rfl ?_
      refine JL.nil ?_
      refine QJ.then_normal ?_
      refine JC.ret ?_
      refine QJ.then_ret ?_
      obtain rfl := Option.some.inj hm
      exact QJ.body (vs := [SlV.nil.v]) (.inl rfl) rfl (ResVs.cons (ResV.tmp rfl) ResVs.nil) [0] rfl rfl (.inl rfl) ⟨(SlV.nil), (([] : List (Unit × Unit × Unit × SlV))), rfl, rfl⟩
    ·
      refine JC.condF' rfl (decide_eq_false h7) ?_
      refine JC.skip ?_
      refine QJ.then_normal ?_
      refine JC.seq ?_
      refine JC.region ?_
      refine JL.val (v := s1.v) (QV.move rfl) rfl rfl rfl ?_
      refine JL.val (v := .int .i64 ((x2).length : Int)) (QV.len (Rdg.vw 1 rfl) Try.underlying23 rfl) rfl rfl rfl ?_
      refine JL.val (v := s1.v) (QV.move rfl) rfl rfl rfl ?_
      obtain ⟨y8, hc9, hm⟩ := bind_inv hm
      refine JL.mv (d := some 14) (MV.call (Lo := []) (Lr := [Asr.onv 35 (NE.pair (NE.flat (Enc.int .u8)) (NE.pair (NE.flat (Enc.int .i64)) (NE.pair (NE.flat (Enc.int .i64)) (NE.sl (Enc.int .u8))))) (SlV.nil.v) ([] : List (Unit × Unit × Unit × SlV)) ([] : List (Int × Int × Int × (List Int))), Asr.vw (Enc.int .u8) (s1.v) x2]) (F60.spec (s1) (x2) _ hc9) rfl Try.func60 rfl rfl rfl [] [0, 1] rfl rfl rfl ⟨(Drv.vw 1 rfl), trivial⟩) rfl rfl rfl ?_
      rintro _ _ ⟨_, ⟨z10, rfl, rfl⟩, rfl⟩
      refine JL.ent (fun _ hs => hs.nil 5 (Enc.int .u8)) ?_
      refine JL.val (v := .agg #[.int .u8 (1 : Int), .int .i64 (0 : Int), .int .i64 ((x2).length : Int), z10.v]) (QV.build (vals := [(0, .int .u8 (1 : Int)), (2, .int .i64 ((x2).length : Int)), (3, z10.v)]) rfl (by kernel_rfl)) rfl rfl rfl ?_
      refine JL.ent (fun _ hs => hs.share 1 rfl) ?_
      refine JL.mv (d := some 16) (MV.litV (K := (NE.pair (NE.flat (Enc.int .u8)) (NE.pair (NE.flat (Enc.int .i64)) (NE.pair (NE.flat (Enc.int .i64)) (NE.sl (Enc.int .u8)))))) (vals := [(0, .agg #[.int .u8 (1 : Int), .int .i64 (0 : Int), .int .i64 ((x2).length : Int), z10.v])]) [((), (), (), z10)] [((1 : Int), (0 : Int), ((x2).length : Int), y8)] Try.underlying22 zi_35 ⟨fun w F G hst => ⟨trivial, trivial, trivial, (ok_vw (Drv.vw 1 rfl) w F G hst)⟩, trivial⟩ rfl (by decide) rfl (by kernel_rfl)) rfl rfl rfl ?_
      rintro _ _ ⟨z11, rfl, rfl⟩
      refine JL.val (v := z11.v) (QV.assign rfl) rfl rfl rfl ?_
      refine JL.nil ?_
      refine QJ.then_normal ?_
      refine JC.ret ?_
      obtain rfl := Option.some.inj hm
      exact QJ.body (vs := [z11.v]) (.inl rfl) rfl (ResVs.cons (ResV.tmp rfl) ResVs.nil) [0] rfl rfl (.inl rfl) ⟨z11, ([((), (), (), z10)]), rfl, rfl⟩

/-! ### 70: drogher/delta.step -/
noncomputable def F70.j2 (x4 : List Int) (d14 : Int) (d17 : List Int) : Option (Int × Int × List Int) :=
  some (d14, ((x4).length : Int), d17)
noncomputable def F70.j1 (x4 : List Int) (d14 : Int) (d15 : List Int) : Option (Int × Int × List Int) :=
  (if d14 = (3 : Int) then F70.j2 x4 d14 (d15) else F70.j2 x4 d14 (([] : List Int)))
noncomputable def F70.j3 (x2 : List Int) (x4 : List Int) (x5 : Int) (d20 : List Int) (d21 : Int) (d34 : Int) : Option ((Int × List Int × Int) ⊕ (Int × List Int)) :=
  some (.inl (d34, (List.set d20 (Int.toNat d21) (IntKind.wrap .u8 ((gd x4 d21) - (gd x2 (IntKind.wrap .i64 (x5 + d21)))))), (IntKind.wrap .i64 (d21 + (1 : Int)))))
noncomputable def F70.b1 (x2 : List Int) (x4 : List Int) (x5 : Int) : (Int × List Int × Int) → Option ((Int × List Int × Int) ⊕ (Int × List Int))
  | (d19, d20, d21) => (if d21 < (((List.replicate (Int.toNat ((x4).length : Int)) (0 : Int))).length : Int) then (if 0 ≤ d21 ∧ d21 < ((x4).length : Int) then (if 0 ≤ (IntKind.wrap .i64 (x5 + d21)) ∧ (IntKind.wrap .i64 (x5 + d21)) < ((x2).length : Int) then (if 0 ≤ d21 ∧ d21 < ((d20).length : Int) then (if 0 ≤ d21 ∧ d21 < (((List.set d20 (Int.toNat d21) (IntKind.wrap .u8 ((gd x4 d21) - (gd x2 (IntKind.wrap .i64 (x5 + d21))))))).length : Int) then (if (gd (List.set d20 (Int.toNat d21) (IntKind.wrap .u8 ((gd x4 d21) - (gd x2 (IntKind.wrap .i64 (x5 + d21)))))) d21) = (0 : Int) then F70.j3 x2 x4 x5 d20 d21 (d19) else F70.j3 x2 x4 x5 d20 d21 ((3 : Int))) else none) else none) else none) else none) else some (.inr (d19, d20)))
noncomputable def F70.m (x2 : List Int) (x4 : List Int) (x5 : Int) : Option (Int × Int × List Int) :=
  (if 0 ≤ ((x4).length : Int) ∧ ((x4).length : Int) * 1 ≤ 281474976710656 ∧ ((x4).length : Int) ≤ 9223372036854775807 then ((loop (F70.b1 x2 x4 x5) ((2 : Int), (List.replicate (Int.toNat ((x4).length : Int)) (0 : Int)), (0 : Int))).bind fun y => match y with | (d14, d15) => F70.j1 x4 (d14) (d15)) else none)
set_option maxRecDepth 100000 in
set_option maxHeartbeats 4000000 in
theorem F70.spec (s1 : SlV) (s3 : SlV) (x2 : List Int) (x4 : List Int) (x5 : Int) (r : (Int × Int × List Int)) (hm : F70.m x2 x4 x5 = some r) :
    Ctr Try.prog false 70 [s1.v, s3.v, .int .i64 x5] [Asr.vw (Enc.int .u8) (s1.v) x2, Asr.vw (Enc.int .u8) (s3.v) x4] (fun v L' => ∃ (g8 : SlV), v = .agg #[.int .u8 r.1, .int .i64 x5, .int .i64 r.2.1, g8.v] ∧ L' = [Asr.of 5 (Enc.int .u8) (g8.v) r.2.2]) := by
  refine Ctr.intro (n := 49) (env := [(0, s1.v), (1, s3.v), (2, .int .i64 x5)]) Try.func70 rfl rfl rfl rfl (fun c => ?_)
  unfold F70.m at hm
  refine JC.seq ?_
  refine JC.region ?_
  refine JL.ent (fun _ hs => hs.nil 5 (Enc.int .u8)) ?_
  refine JL.mv (d := some 6) (MV.alloc [Seg.c (.int .u8 (0 : Int)), Seg.c (.int .i64 (0 : Int)), Seg.c (.int .i64 (0 : Int)), Seg.c (SlV.nil.v)] z_35 rfl) rfl rfl rfl ?_
  rintro _ _ ⟨b10, rfl, rfl⟩
  refine JL.nil ?_
  refine QJ.then_normal ?_
  refine JC.seq ?_
  refine JC.region ?_
  refine JL.val (v := .int .i64 x5) (QV.move rfl) rfl rfl rfl ?_
  refine JL.val (v := s3.v) (QV.move rfl) rfl rfl rfl ?_
  refine JL.val (v := .int .i64 ((x4).length : Int)) (QV.len (Rdg.vw 3 rfl) Try.underlying23 rfl) rfl rfl rfl ?_
  refine JL.ent (fun _ hs => hs.nil 5 (Enc.int .u8)) ?_
  refine JL.val (v := .agg #[.int .u8 (2 : Int), .int .i64 x5, .int .i64 ((x4).length : Int), SlV.nil.v]) (QV.build (vals := [(0, .int .u8 (2 : Int)), (1, .int .i64 x5), (2, .int .i64 ((x4).length : Int))]) rfl (by kernel_rfl)) rfl rfl rfl ?_
  refine JL.ent (fun _ hs => hs.nil 5 (Enc.int .u8)) ?_
  refine JL.mv (d := some 7) (MV.alloc [Seg.c (.int .u8 (0 : Int)), Seg.c (.int .i64 (0 : Int)), Seg.c (.int .i64 (0 : Int)), Seg.c (SlV.nil.v)] z_35 rfl) rfl rfl rfl ?_
  rintro _ _ ⟨b11, rfl, rfl⟩
  refine JL.mv (d := none) (MV.store (ss := [Seg.c (.int .u8 (0 : Int)), Seg.c (.int .i64 (0 : Int)), Seg.c (.int .i64 (0 : Int)), Seg.c (SlV.nil.v)]) 0 0 4 [Seg.c (.int .u8 (2 : Int)), Seg.c (.int .i64 x5), Seg.c (.int .i64 ((x4).length : Int)), Seg.c (SlV.nil.v)] rfl tk_35 rfl rfl rfl rfl (fun w hs => ⟨rfl, one_c rfl, one_c rfl, one_c rfl, one_sl (Rdg.of 2 rfl) hs, trivial⟩)) rfl rfl rfl ?_
  rintro _ _ ⟨rfl, rfl⟩
  refine JL.nil ?_
  refine QJ.then_normal ?_
  refine JC.seq ?_
  refine JC.region ?_
  refine JL.val (v := s3.v) (QV.move rfl) rfl rfl rfl ?_
  refine JL.val (v := .int .i64 ((x4).length : Int)) (QV.len (Rdg.vw 6 rfl) Try.underlying23 rfl) rfl rfl rfl ?_
  obtain ⟨h12, hm⟩ := guard_inv hm
  refine JL.mv (d := some 16) (MV.make (E := (Enc.int .u8)) (0 : Int) Try.underlying23 zi_5 (by decide) rfl rfl rfl h12) rfl rfl rfl ?_
  rintro _ _ ⟨z13, rfl, rfl⟩
  refine JL.val (v := z13.v) (QV.assign rfl) rfl rfl rfl ?_
  refine JL.nil ?_
  refine QJ.then_normal ?_
  refine JC.seq ?_
  refine JC.seq ?_
  refine JC.region ?_
  refine JL.val (v := z13.v) (QV.move rfl) rfl rfl rfl ?_
  refine JL.val (v := .int .i64 (((List.replicate (Int.toNat ((x4).length : Int)) (0 : Int))).length : Int)) (QV.len (Rdg.of 0 rfl) Try.underlying23 rfl) rfl rfl rfl ?_
  refine JL.val (v := .int .i64 (0 : Int)) (QV.move rfl) rfl rfl rfl ?_
  refine JL.nil ?_
  refine QJ.then_normal ?_
  refine JC.cutK (Y := (Int × List Int) × Unit) (fun y => match y with | ((d14, d15), _) => F70.j1 x4 (d14) (d15) = some r) (fun y => match y with | ((d14, d15), _) => [(6, .pointer (some ⟨b10, 0, none⟩)), (7, .pointer (some ⟨b11, 0, none⟩)), (8, z13.v)]) (fun y => match y with | ((d14, d15), _) => [Asr.of 5 (Enc.int .u8) (SlV.nil.v) ([] : List Int), Asr.blk b10 35 [Seg.c (.int .u8 (0 : Int)), Seg.c (.int .i64 (0 : Int)), Seg.c (.int .i64 (0 : Int)), Seg.c (SlV.nil.v)], Asr.of 5 (Enc.int .u8) (SlV.nil.v) ([] : List Int), Asr.blk b11 35 [Seg.c (.int .u8 d14), Seg.c (.int .i64 x5), Seg.c (.int .i64 ((x4).length : Int)), Seg.c (SlV.nil.v)], Asr.of 5 (Enc.int .u8) (z13.v) d15]) ?_ ?_
  ·
    rintro ⟨⟨d14, d15⟩, ⟨⟩⟩ hm
    unfold F70.j1 at hm
    show QJ _ _ [(6, .pointer (some ⟨b10, 0, none⟩)), (7, .pointer (some ⟨b11, 0, none⟩)), (8, z13.v)] [Asr.of 5 (Enc.int .u8) (SlV.nil.v) ([] : List Int), Asr.blk b10 35 [Seg.c (.int .u8 (0 : Int)), Seg.c (.int .i64 (0 : Int)), Seg.c (.int .i64 (0 : Int)), Seg.c (SlV.nil.v)], Asr.of 5 (Enc.int .u8) (SlV.nil.v) ([] : List Int), Asr.blk b11 35 [Seg.c (.int .u8 d14), Seg.c (.int .i64 x5), Seg.c (.int .i64 ((x4).length : Int)), Seg.c (SlV.nil.v)], Asr.of 5 (Enc.int .u8) (z13.v) d15] _ _
    refine QJ.then_normal ?_
    refine JC.seq ?_
    refine JC.seq ?_
    refine JC.region ?_
    refine JL.val (v := .pointer (some ⟨b11, 0, none⟩)) (QV.fieldB fo_35_0 rfl rfl) rfl rfl rfl ?_
    refine JL.val (v := .int .u8 d14) (QV.load1 (ss := [Seg.c (.int .u8 d14), Seg.c (.int .i64 x5), Seg.c (.int .i64 ((x4).length : Int)), Seg.c (SlV.nil.v)]) 3 0 rfl tk_5 rfl rfl rfl) rfl rfl rfl ?_
    refine JL.val (v := .bool (decide (d14 = (3 : Int)))) (QV.eql rfl rfl) rfl rfl rfl ?_
    refine JL.nil ?_
    refine QJ.then_normal ?_
    refine JC.cutK (Y := (List Int) × SlV) (fun y => match y with | (d17, _) => F70.j2 x4 d14 (d17) = some r) (fun y => match y with | (d17, z16) => [(6, .pointer (some ⟨b10, 0, none⟩)), (7, .pointer (some ⟨b11, 0, none⟩))]) (fun y => match y with | (d17, z16) => [Asr.of 5 (Enc.int .u8) (SlV.nil.v) ([] : List Int), Asr.blk b10 35 [Seg.c (.int .u8 (0 : Int)), Seg.c (.int .i64 (0 : Int)), Seg.c (.int .i64 (0 : Int)), Seg.c (SlV.nil.v)], Asr.of 5 (Enc.int .u8) (z16.v) d17, Asr.blk b11 35 [Seg.c (.int .u8 d14), Seg.c (.int .i64 x5), Seg.c (.int .i64 ((x4).length : Int)), Seg.c (z16.v)]]) ?_ ?_
    ·
      rintro ⟨d17, z16⟩ hm
      unfold F70.j2 at hm
      show QJ _ _ [(6, .pointer (some ⟨b10, 0, none⟩)), (7, .pointer (some ⟨b11, 0, none⟩))] [Asr.of 5 (Enc.int .u8) (SlV.nil.v) ([] : List Int), Asr.blk b10 35 [Seg.c (.int .u8 (0 : Int)), Seg.c (.int .i64 (0 : Int)), Seg.c (.int .i64 (0 : Int)), Seg.c (SlV.nil.v)], Asr.of 5 (Enc.int .u8) (z16.v) d17, Asr.blk b11 35 [Seg.c (.int .u8 d14), Seg.c (.int .i64 x5), Seg.c (.int .i64 ((x4).length : Int)), Seg.c (z16.v)]] _ _
      refine QJ.then_normal ?_
      refine JC.seq ?_
      refine JC.region ?_
      refine JL.val (v := .agg #[.int .u8 d14, .int .i64 x5, .int .i64 ((x4).length : Int), z16.v]) (QV.eq (QV.loadN (ss := [Seg.c (.int .u8 d14), Seg.c (.int .i64 x5), Seg.c (.int .i64 ((x4).length : Int)), Seg.c (z16.v)]) 3 0 4 rfl tk_35 rfl rfl rfl rfl) rfl) rfl rfl rfl ?_
      refine JL.mv (d := none) (MV.store (ss := [Seg.c (.int .u8 (0 : Int)), Seg.c (.int .i64 (0 : Int)), Seg.c (.int .i64 (0 : Int)), Seg.c (SlV.nil.v)]) 1 0 4 [Seg.c (.int .u8 d14), Seg.c (.int .i64 x5), Seg.c (.int .i64 ((x4).length : Int)), Seg.c (z16.v)] rfl tk_35 rfl rfl rfl rfl (fun w hs => ⟨rfl, one_c rfl, one_c rfl, one_c rfl, one_sl (Rdg.of 2 rfl) hs, trivial⟩)) rfl rfl rfl ?_
      rintro _ _ ⟨rfl, rfl⟩
      refine JL.nil ?_
      refine QJ.then_normal ?_
      refine JC.ret ?_
      obtain rfl := Option.some.inj hm
      exact QJ.body (vs := [.agg #[.int .u8 d14, .int .i64 x5, .int .i64 ((x4).length : Int), z16.v]]) (.inl rfl) rfl (ResVs.cons (ResV.cell (d := none) (ty := 0) (ps := "") (af := #[]) (g := none) rfl (QV.eq (QV.loadN (ss := [Seg.c (.int .u8 d14), Seg.c (.int .i64 x5), Seg.c (.int .i64 ((x4).length : Int)), Seg.c (z16.v)]) 1 0 4 rfl tk_35 rfl rfl rfl rfl) rfl)) ResVs.nil) [2] rfl rfl (.inr ⟨own_of _ _ _ _, trivial⟩) ⟨z16, rfl, rfl⟩
    ·
      rcases ite_inv hm with ⟨h18, hm⟩ | ⟨h18, hm⟩
      ·
        refine JC.condT' rfl (decide_eq_true h18) ?_
        refine JC.region ?_
        refine JL.val (v := z13.v) (QV.move rfl) rfl rfl rfl ?_
        refine JL.val (v := .pointer (some ⟨b11, 3, none⟩)) (QV.fieldB fo_35_3 rfl rfl) rfl rfl rfl ?_
        refine JL.mv (d := none) (MV.store (ss := [Seg.c (.int .u8 d14), Seg.c (.int .i64 x5), Seg.c (.int .i64 ((x4).length : Int)), Seg.c (SlV.nil.v)]) 3 3 1 [Seg.c (z13.v)] rfl tk_23 rfl rfl rfl rfl (fun w hs => ⟨cells_sl (Rdg.of 4 rfl) hs, one_sl (Rdg.of 4 rfl) hs, trivial⟩)) rfl rfl rfl ?_
        rintro _ _ ⟨rfl, rfl⟩
        refine JL.nil ?_
        exact QJ.cut_normal (d15, z13) hm [0, 1, 4, 3] (by exact ⟨rfl, rfl, trivial⟩) rfl rfl
      ·
        refine JC.condF' rfl (decide_eq_false h18) ?_
        refine JC.skip ?_
        exact QJ.cut_normal (([] : List Int), SlV.nil) hm [0, 1, 2, 3] (by exact ⟨rfl, rfl, trivial⟩) rfl rfl
  ·
    refine JC.block ?_
    obtain ⟨y25, hl26, hmo27⟩ := bind_inv hm
    refine JC.loop (F70.b1 x2 x4 x5) (fun x z => match x, z with | (d19, d20, d21), _ => [(0, s1.v), (1, s3.v), (2, .int .i64 x5), (6, .pointer (some ⟨b10, 0, none⟩)), (7, .pointer (some ⟨b11, 0, none⟩)), (8, z13.v), (18, .int .i64 (((List.replicate (Int.toNat ((x4).length : Int)) (0 : Int))).length : Int)), (19, .int .i64 d21)]) (fun x z => match x, z with | (d19, d20, d21), _ => [Asr.vw (Enc.int .u8) (s1.v) x2, Asr.vw (Enc.int .u8) (s3.v) x4, Asr.of 5 (Enc.int .u8) (SlV.nil.v) ([] : List Int), Asr.blk b10 35 [Seg.c (.int .u8 (0 : Int)), Seg.c (.int .i64 (0 : Int)), Seg.c (.int .i64 (0 : Int)), Seg.c (SlV.nil.v)], Asr.of 5 (Enc.int .u8) (SlV.nil.v) ([] : List Int), Asr.blk b11 35 [Seg.c (.int .u8 d19), Seg.c (.int .i64 x5), Seg.c (.int .i64 ((x4).length : Int)), Seg.c (SlV.nil.v)], Asr.of 5 (Enc.int .u8) (z13.v) d20]) ((2 : Int), (List.replicate (Int.toNat ((x4).length : Int)) (0 : Int)), (0 : Int)) () y25 hl26 [6, 7, 5, 4, 3, 1, 0] (by exact ⟨rfl, rfl, rfl, rfl, rfl, rfl, rfl, rfl, trivial⟩) rfl rfl ?_
    rintro ⟨d19, d20, d21⟩ ⟨⟩ s28 hm
    unfold F70.b1 at hm
    dsimp only at hm
    show JC _ _ _ [(0, s1.v), (1, s3.v), (2, .int .i64 x5), (6, .pointer (some ⟨b10, 0, none⟩)), (7, .pointer (some ⟨b11, 0, none⟩)), (8, z13.v), (18, .int .i64 (((List.replicate (Int.toNat ((x4).length : Int)) (0 : Int))).length : Int)), (19, .int .i64 d21)] [Asr.vw (Enc.int .u8) (s1.v) x2, Asr.vw (Enc.int .u8) (s3.v) x4, Asr.of 5 (Enc.int .u8) (SlV.nil.v) ([] : List Int), Asr.blk b10 35 [Seg.c (.int .u8 (0 : Int)), Seg.c (.int .i64 (0 : Int)), Seg.c (.int .i64 (0 : Int)), Seg.c (SlV.nil.v)], Asr.of 5 (Enc.int .u8) (SlV.nil.v) ([] : List Int), Asr.blk b11 35 [Seg.c (.int .u8 d19), Seg.c (.int .i64 x5), Seg.c (.int .i64 ((x4).length : Int)), Seg.c (SlV.nil.v)], Asr.of 5 (Enc.int .u8) (z13.v) d20] _ _
    refine JC.seq ?_
    refine JC.region ?_
    refine JL.val (v := .bool (decide (d21 < (((List.replicate (Int.toNat ((x4).length : Int)) (0 : Int))).length : Int)))) (QV.lss rfl rfl) rfl rfl rfl ?_
    refine JL.nil ?_
    refine QJ.then_normal ?_
    refine JC.seq ?_
    rcases ite_inv hm with ⟨h29, hm⟩ | ⟨h29, hm⟩
    ·
      refine JC.condT' rfl (decide_eq_true h29) ?_
      refine JC.skip ?_
      refine QJ.then_normal ?_
      refine JC.seq ?_
      refine JC.block ?_
      refine JC.seq ?_
      refine JC.region ?_
      refine JL.val (v := .int .i64 d21) (QV.move rfl) rfl rfl rfl ?_
      refine JL.val (v := .int .i64 d21) (QV.assign rfl) rfl rfl rfl ?_
      refine JL.nil ?_
      refine QJ.then_normal ?_
      refine JC.seq ?_
      refine JC.regionT [Asr.vw (Enc.int .u8) (s1.v) x2, Asr.vw (Enc.int .u8) (s3.v) x4, Asr.of 5 (Enc.int .u8) (SlV.nil.v) ([] : List Int), Asr.blk b10 35 [Seg.c (.int .u8 (0 : Int)), Seg.c (.int .i64 (0 : Int)), Seg.c (.int .i64 (0 : Int)), Seg.c (SlV.nil.v)], Asr.of 5 (Enc.int .u8) (SlV.nil.v) ([] : List Int), Asr.blk b11 35 [Seg.c (.int .u8 d19), Seg.c (.int .i64 x5), Seg.c (.int .i64 ((x4).length : Int)), Seg.c (SlV.nil.v)]] (fun t => false) [(0, true), (1, true), (2, true), (3, true), (4, true), (5, true), (6, true), (7, true), (8, false), (9, false), (10, false), (11, false), (12, false), (13, false), (14, false)] (by kernel_rfl) (by kernel_rfl) (by kernel_rfl) rfl (fun hsel => ?_)
      refine JT.take (i := 0) (v := z13.v) hsel rfl (QV.move rfl) rfl rfl rfl [0, 1, 2, 3, 4, 5] rfl rfl ?_
      refine JT.take (i := 1) (v := .int .i64 d21) hsel rfl (QV.move rfl) rfl rfl rfl [0, 1, 2, 3, 4, 5] rfl rfl ?_
      refine JT.take (i := 2) (v := s3.v) hsel rfl (QV.move rfl) rfl rfl rfl [0, 1, 2, 3, 4, 5] rfl rfl ?_
      refine JT.take (i := 3) (v := .int .i64 d21) hsel rfl (QV.move rfl) rfl rfl rfl [0, 1, 2, 3, 4, 5] rfl rfl ?_
      obtain ⟨h30, hm⟩ := guard_inv hm
      refine JT.take (i := 4) (v := .pointer (some (elA (s3.v) (Int.toNat d21 * ((Enc.int .u8)).sz)))) hsel rfl (QV.indexA (Rdg.vw 1 rfl) Try.underlying23 tk_5 rfl rfl h30) rfl rfl rfl [0, 1, 2, 3, 4, 5] rfl rfl ?_
      refine JT.take (i := 5) (v := .int .u8 (gd x4 d21)) hsel rfl (QV.el1 (Rdg.vw 1 rfl) tk_5 rfl h30 rfl) rfl rfl rfl [0, 1, 2, 3, 4, 5] rfl rfl ?_
      refine JT.take (i := 6) (v := s1.v) hsel rfl (QV.move rfl) rfl rfl rfl [0, 1, 2, 3, 4, 5] rfl rfl ?_
      refine JT.take (i := 7) (v := .int .i64 x5) hsel rfl (QV.move rfl) rfl rfl rfl [0, 1, 2, 3, 4, 5] rfl rfl ?_
      refine JT.only (i := 8) (d := some 30) rfl (MV.ofQV (v := .int .i64 d21) (QV.move rfl)) rfl rfl rfl ?_
      rintro _ _ ⟨rfl, rfl⟩
      refine ⟨fun _ => ⟨[0, 1, 2, 3, 4, 5], rfl, rfl⟩, ?_⟩
      refine JT.only (i := 9) (d := some 31) rfl (MV.ofQV (v := .int .i64 (IntKind.wrap .i64 (x5 + d21))) (QV.add rfl rfl)) rfl rfl rfl ?_
      rintro _ _ ⟨rfl, rfl⟩
      refine ⟨fun _ => ⟨[0, 1, 2, 3, 4, 5], rfl, rfl⟩, ?_⟩
      obtain ⟨h31, hm⟩ := guard_inv hm
      refine JT.only (i := 10) (d := some 32) rfl (MV.ofQV (v := .pointer (some (elA (s1.v) (Int.toNat (IntKind.wrap .i64 (x5 + d21)) * ((Enc.int .u8)).sz)))) (QV.indexA (Rdg.vw 0 rfl) Try.underlying23 tk_5 rfl rfl h31)) rfl rfl rfl ?_
      rintro _ _ ⟨rfl, rfl⟩
      refine ⟨fun _ => ⟨[0, 1, 2, 3, 4, 5], rfl, rfl⟩, ?_⟩
      refine JT.only (i := 11) (d := some 33) rfl (MV.ofQV (v := .int .u8 (gd x2 (IntKind.wrap .i64 (x5 + d21)))) (QV.el1 (Rdg.vw 0 rfl) tk_5 rfl h31 rfl)) rfl rfl rfl ?_
      rintro _ _ ⟨rfl, rfl⟩
      refine ⟨fun _ => ⟨[0, 1, 2, 3, 4, 5], rfl, rfl⟩, ?_⟩
      refine JT.only (i := 12) (d := some 34) rfl (MV.ofQV (v := .int .u8 (IntKind.wrap .u8 ((gd x4 d21) - (gd x2 (IntKind.wrap .i64 (x5 + d21)))))) (QV.sub rfl rfl)) rfl rfl rfl ?_
      rintro _ _ ⟨rfl, rfl⟩
      refine ⟨fun _ => ⟨[0, 1, 2, 3, 4, 5], rfl, rfl⟩, ?_⟩
      obtain ⟨h32, hm⟩ := guard_inv hm
      refine JT.only (i := 13) (d := some 35) rfl (MV.ofQV (v := .pointer (some (elA (z13.v) (Int.toNat d21 * ((Enc.int .u8)).sz)))) (QV.indexA (Rdg.of 6 rfl) Try.underlying23 tk_5 rfl rfl h32)) rfl rfl rfl ?_
      rintro _ _ ⟨rfl, rfl⟩
      refine ⟨fun _ => ⟨[0, 1, 2, 3, 4, 5], rfl, rfl⟩, ?_⟩
      refine JT.only (i := 14) (d := none) rfl (MV.storeEl 6 (IntKind.wrap .u8 ((gd x4 d21) - (gd x2 (IntKind.wrap .i64 (x5 + d21))))) rfl tk_5 rfl rfl h32 rfl) rfl rfl rfl ?_
      rintro _ _ ⟨rfl, rfl⟩
      refine ⟨fun _ => ⟨[0, 1, 2, 3, 4, 5], rfl, rfl⟩, ?_⟩
      refine JT.grow [Asr.vw (Enc.int .u8) (s1.v) x2, Asr.vw (Enc.int .u8) (s3.v) x4, Asr.of 5 (Enc.int .u8) (SlV.nil.v) ([] : List Int), Asr.blk b10 35 [Seg.c (.int .u8 (0 : Int)), Seg.c (.int .i64 (0 : Int)), Seg.c (.int .i64 (0 : Int)), Seg.c (SlV.nil.v)], Asr.of 5 (Enc.int .u8) (SlV.nil.v) ([] : List Int), Asr.blk b11 35 [Seg.c (.int .u8 d19), Seg.c (.int .i64 x5), Seg.c (.int .i64 ((x4).length : Int)), Seg.c (SlV.nil.v)], Asr.of 5 (Enc.int .u8) (z13.v) (List.set d20 (Int.toNat d21) (IntKind.wrap .u8 ((gd x4 d21) - (gd x2 (IntKind.wrap .i64 (x5 + d21))))))] [0, 1, 2, 3, 4, 5] rfl rfl ?_
      refine JT.nil ?_
      refine QJ.then_normal ?_
      refine JC.seq ?_
      refine JC.region ?_
      refine JL.val (v := z13.v) (QV.move rfl) rfl rfl rfl ?_
      refine JL.val (v := .int .i64 d21) (QV.move rfl) rfl rfl rfl ?_
      obtain ⟨h33, hm⟩ := guard_inv hm
      refine JL.val (v := .pointer (some (elA (z13.v) (Int.toNat d21 * ((Enc.int .u8)).sz)))) (QV.indexA (Rdg.of 6 rfl) Try.underlying23 tk_5 rfl rfl h33) rfl rfl rfl ?_
      refine JL.val (v := .int .u8 (gd (List.set d20 (Int.toNat d21) (IntKind.wrap .u8 ((gd x4 d21) - (gd x2 (IntKind.wrap .i64 (x5 + d21)))))) d21)) (QV.el1 (Rdg.of 6 rfl) tk_5 rfl h33 rfl) rfl rfl rfl ?_
      refine JL.val (v := .bool (!(decide ((gd (List.set d20 (Int.toNat d21) (IntKind.wrap .u8 ((gd x4 d21) - (gd x2 (IntKind.wrap .i64 (x5 + d21)))))) d21) = (0 : Int))))) (QV.neq rfl rfl) rfl rfl rfl ?_
      refine JL.nil ?_
      refine QJ.then_normal ?_
      refine JC.cutK (Y := Int × Unit) (fun y => match y with | (d34, _) => F70.j3 x2 x4 x5 d20 d21 (d34) = some s28) (fun y => match y with | (d34, _) => [(0, s1.v), (1, s3.v), (2, .int .i64 x5), (6, .pointer (some ⟨b10, 0, none⟩)), (7, .pointer (some ⟨b11, 0, none⟩)), (8, z13.v), (18, .int .i64 (((List.replicate (Int.toNat ((x4).length : Int)) (0 : Int))).length : Int)), (19, .int .i64 d21)]) (fun y => match y with | (d34, _) => [Asr.vw (Enc.int .u8) (s1.v) x2, Asr.vw (Enc.int .u8) (s3.v) x4, Asr.of 5 (Enc.int .u8) (SlV.nil.v) ([] : List Int), Asr.blk b10 35 [Seg.c (.int .u8 (0 : Int)), Seg.c (.int .i64 (0 : Int)), Seg.c (.int .i64 (0 : Int)), Seg.c (SlV.nil.v)], Asr.of 5 (Enc.int .u8) (SlV.nil.v) ([] : List Int), Asr.blk b11 35 [Seg.c (.int .u8 d34), Seg.c (.int .i64 x5), Seg.c (.int .i64 ((x4).length : Int)), Seg.c (SlV.nil.v)], Asr.of 5 (Enc.int .u8) (z13.v) (List.set d20 (Int.toNat d21) (IntKind.wrap .u8 ((gd x4 d21) - (gd x2 (IntKind.wrap .i64 (x5 + d21))))))]) ?_ ?_
      ·
        rintro ⟨d34, ⟨⟩⟩ hm
        unfold F70.j3 at hm
        show QJ _ _ [(0, s1.v), (1, s3.v), (2, .int .i64 x5), (6, .pointer (some ⟨b10, 0, none⟩)), (7, .pointer (some ⟨b11, 0, none⟩)), (8, z13.v), (18, .int .i64 (((List.replicate (Int.toNat ((x4).length : Int)) (0 : Int))).length : Int)), (19, .int .i64 d21)] [Asr.vw (Enc.int .u8) (s1.v) x2, Asr.vw (Enc.int .u8) (s3.v) x4, Asr.of 5 (Enc.int .u8) (SlV.nil.v) ([] : List Int), Asr.blk b10 35 [Seg.c (.int .u8 (0 : Int)), Seg.c (.int .i64 (0 : Int)), Seg.c (.int .i64 (0 : Int)), Seg.c (SlV.nil.v)], Asr.of 5 (Enc.int .u8) (SlV.nil.v) ([] : List Int), Asr.blk b11 35 [Seg.c (.int .u8 d34), Seg.c (.int .i64 x5), Seg.c (.int .i64 ((x4).length : Int)), Seg.c (SlV.nil.v)], Asr.of 5 (Enc.int .u8) (z13.v) (List.set d20 (Int.toNat d21) (IntKind.wrap .u8 ((gd x4 d21) - (gd x2 (IntKind.wrap .i64 (x5 + d21))))))] _ _
        refine QJ.block_normal ?_
        refine QJ.then_normal ?_
        refine JC.region ?_
        refine JL.val (v := .int .i64 (IntKind.wrap .i64 (d21 + (1 : Int)))) (QV.add rfl rfl) rfl rfl rfl ?_
        refine JL.val (v := .int .i64 (IntKind.wrap .i64 (d21 + (1 : Int)))) (QV.move rfl) rfl rfl rfl ?_
        refine JL.nil ?_
        obtain rfl := Option.some.inj hm
        exact QJ.round_on (d34, (List.set d20 (Int.toNat d21) (IntKind.wrap .u8 ((gd x4 d21) - (gd x2 (IntKind.wrap .i64 (x5 + d21)))))), (IntKind.wrap .i64 (d21 + (1 : Int)))) () [0, 1, 2, 3, 4, 5, 6] (by exact ⟨rfl, rfl, rfl, rfl, rfl, rfl, rfl, rfl, trivial⟩) rfl rfl
      ·
        rcases ite_inv hm with ⟨h35, hm⟩ | ⟨h35, hm⟩
        ·
          refine JC.condF' rfl (congrArg Bool.not (decide_eq_true h35)) ?_
          refine JC.skip ?_
          exact QJ.cut_normal (d19, ()) hm [0, 1, 2, 3, 4, 5, 6] (by exact ⟨rfl, rfl, rfl, rfl, rfl, rfl, rfl, rfl, trivial⟩) rfl rfl
        ·
          refine JC.condT' rfl (congrArg Bool.not (decide_eq_false h35)) ?_
          refine JC.region ?_
          refine JL.val (v := .pointer (some ⟨b11, 0, none⟩)) (QV.fieldB fo_35_0 rfl rfl) rfl rfl rfl ?_
          refine JL.mv (d := none) (MV.store (ss := [Seg.c (.int .u8 d19), Seg.c (.int .i64 x5), Seg.c (.int .i64 ((x4).length : Int)), Seg.c (SlV.nil.v)]) 5 0 1 [Seg.c (.int .u8 (3 : Int))] rfl tk_5 rfl rfl rfl rfl (fun w hs => ⟨rfl, one_c rfl, trivial⟩)) rfl rfl rfl ?_
          rintro _ _ ⟨rfl, rfl⟩
          refine JL.nil ?_
          exact QJ.cut_normal ((3 : Int), ()) hm [0, 1, 2, 3, 4, 5, 6] (by exact ⟨rfl, rfl, rfl, rfl, rfl, rfl, rfl, rfl, trivial⟩) rfl rfl
    ·
      refine JC.condF' rfl (decide_eq_false h29) ?_
      refine JC.exit ?_
      refine QJ.then_exit ?_
      obtain rfl := Option.some.inj hm
      refine QJ.round_exit (fun hy => ?_)
      subst hy
      refine QJ.block_hit ?_
      exact QJ.cut_normal ((d19, d20), ()) hmo27 [2, 3, 4, 5, 6] (by exact ⟨rfl, rfl, rfl, trivial⟩) rfl rfl

/-! ### 26: drogher/plan.Size -/
noncomputable def F26.m (x2 : List (Int × Int × Int × (List Int))) : Option Int :=
  ((F22.m (x2)).bind fun y5 => (if y5.2 = (0 : Int) then some ((y5.1).length : Int) else some (0 : Int)))
set_option maxRecDepth 100000 in
set_option maxHeartbeats 4000000 in
theorem F26.spec (s1 : SlV) (z3 : List (Unit × Unit × Unit × SlV)) (x2 : List (Int × Int × Int × (List Int))) (r : Int) (hm : F26.m x2 = some r) :
    Ctr Try.prog false 26 [s1.v] [Asr.vn (NE.pair (NE.flat (Enc.int .u8)) (NE.pair (NE.flat (Enc.int .i64)) (NE.pair (NE.flat (Enc.int .i64)) (NE.sl (Enc.int .u8))))) (s1.v) z3 x2] (fun v L' => v = .int .i64 r ∧ L' = []) := by
  refine Ctr.intro (n := 14) (env := [(0, s1.v)]) Try.func26 rfl rfl rfl rfl (fun c => ?_)
  unfold F26.m at hm
  refine JC.seq ?_
  refine JC.region ?_
  refine JL.val (v := .int .i64 (0 : Int)) (QV.assign rfl) rfl rfl rfl ?_
  refine JL.nil ?_
  refine QJ.then_normal ?_
  refine JC.seq ?_
  refine JC.region ?_
  refine JL.val (v := s1.v) (QV.move rfl) rfl rfl rfl ?_
  obtain ⟨y5, hc6, hm⟩ := bind_inv hm
  refine JL.mv (d := some 7) (MV.call (Lo := []) (Lr := [Asr.vn (NE.pair (NE.flat (Enc.int .u8)) (NE.pair (NE.flat (Enc.int .i64)) (NE.pair (NE.flat (Enc.int .i64)) (NE.sl (Enc.int .u8))))) (s1.v) z3 x2]) (F22.spec (s1) (z3) (x2) _ hc6) rfl Try.func22 rfl rfl rfl [] [0] rfl rfl rfl ⟨(Drv.vn 0 rfl), trivial⟩) rfl rfl rfl ?_
  rintro _ _ ⟨_, ⟨z7, rfl, rfl⟩, rfl⟩
  refine JL.val (v := .tuple #[z7.v, .int .i64 y5.2]) (QV.move rfl) rfl rfl rfl ?_
  refine JL.val (v := z7.v) (QV.extract (vs := [z7.v, .int .i64 y5.2]) rfl rfl) rfl rfl rfl ?_
  refine JL.val (v := .int .i64 y5.2) (QV.extract (vs := [z7.v, .int .i64 y5.2]) rfl rfl) rfl rfl rfl ?_
  refine JL.val (v := z7.v) (QV.assign rfl) rfl rfl rfl ?_
  refine JL.val (v := .int .i64 y5.2) (QV.assign rfl) rfl rfl rfl ?_
  refine JL.nil ?_
  refine QJ.then_normal ?_
  refine JC.seq ?_
  refine JC.seq ?_
  refine JC.region ?_
  refine JL.val (v := .int .i64 y5.2) (QV.move rfl) rfl rfl rfl ?_
  refine JL.val (v := .bool (!(decide (y5.2 = (0 : Int))))) (QV.neq rfl rfl) rfl rfl rfl ?_
  refine JL.nil ?_
  refine QJ.then_normal ?_
  rcases ite_inv hm with ⟨h8, hm⟩ | ⟨h8, hm⟩
  ·
    refine JC.condF' rfl (congrArg Bool.not (decide_eq_true h8)) ?_
    refine JC.skip ?_
    refine QJ.then_normal ?_
    refine JC.seq ?_
    refine JC.region ?_
    refine JL.val (v := z7.v) (QV.move rfl) rfl rfl rfl ?_
    refine JL.val (v := .int .i64 ((y5.1).length : Int)) (QV.len (Rdg.of 0 rfl) Try.underlying23 rfl) rfl rfl rfl ?_
    refine JL.val (v := .int .i64 ((y5.1).length : Int)) (QV.assign rfl) rfl rfl rfl ?_
    refine JL.nil ?_
    refine QJ.then_normal ?_
    refine JC.ret ?_
    obtain rfl := Option.some.inj hm
    exact QJ.body (vs := [.int .i64 ((y5.1).length : Int)]) (.inl rfl) rfl (ResVs.cons (ResV.tmp rfl) ResVs.nil) [] rfl rfl (.inr trivial) ⟨rfl, rfl⟩
  ·
    refine JC.condT' rfl (congrArg Bool.not (decide_eq_false h8)) ?_
    refine JC.seq ?_
    refine JC.region ?_
    refine JL.val (v := .int .i64 (0 : Int)) (QV.assign rfl) rfl rfl rfl ?_
    refine JL.nil ?_
    refine QJ.then_normal ?_
    refine JC.ret ?_
    refine QJ.then_ret ?_
    obtain rfl := Option.some.inj hm
    exact QJ.body (vs := [.int .i64 (0 : Int)]) (.inl rfl) rfl (ResVs.cons (ResV.tmp rfl) ResVs.nil) [] rfl rfl (.inr trivial) ⟨rfl, rfl⟩

/-! ### 59: drogher/delta.one -/
noncomputable def F59.j1 (x4 : List Int) (x7 : Int) (x8 : Int) (d13 : List (Int × Int × Int × (List Int))) (d15 : Int) : Option (List (Int × Int × Int × (List Int))) :=
  (if 0 ≤ d15 ∧ d15 ≤ x8 ∧ x8 ≤ ((x4).length : Int) then ((F40.m ((subL x4 d15 x8))).bind fun y17 => (if ((d13).length + (y17).length) * 48 ≤ 140737488355328 ∧ (d13).length + (y17).length ≤ 9223372036854775807 then ((F26.m ((d13 ++ y17))).bind fun y23 => (if (IntKind.wrap .i64 ((IntKind.wrap .i64 (x8 - x7)) + (12 : Int))) < y23 then (if 0 ≤ x7 ∧ x7 ≤ x8 ∧ x8 ≤ ((x4).length : Int) then ((F40.m ((subL x4 x7 x8))).bind fun y27 => some y27) else none) else some (d13 ++ y17))) else none)) else none)
noncomputable def F59.j2 (d35 : Int) (d47 : List (Int × Int × Int × (List Int))) (d49 : Int) : Option ((List (Int × Int × Int × (List Int)) × Int × Int) ⊕ (List (Int × Int × Int × (List Int)) × Int)) :=
  some (.inl (d47, d49, (IntKind.wrap .i64 (d35 + (1 : Int)))))
noncomputable def F59.b1 (x2 : List Int) (x4 : List Int) (x6 : List (Int × Int × Int)) (x8 : Int) : (List (Int × Int × Int × (List Int)) × Int × Int) → Option ((List (Int × Int × Int × (List Int)) × Int × Int) ⊕ (List (Int × Int × Int × (List Int)) × Int))
  | (d32, d34, d35) => (if d35 < ((x6).length : Int) then (if 0 ≤ d35 ∧ d35 < ((x6).length : Int) then (if (minI x8 (IntKind.wrap .i64 ((gd x6 d35).1 + (gd x6 d35).2.2))) ≤ (maxI d34 (gd x6 d35).1) then F59.j2 d35 (d32) (d34) else (if 0 ≤ d34 ∧ d34 ≤ (maxI d34 (gd x6 d35).1) ∧ (maxI d34 (gd x6 d35).1) ≤ ((x4).length : Int) then ((F40.m ((subL x4 d34 (maxI d34 (gd x6 d35).1)))).bind fun y54 => (if ((d32).length + (y54).length) * 48 ≤ 140737488355328 ∧ (d32).length + (y54).length ≤ 9223372036854775807 then (if 0 ≤ (maxI d34 (gd x6 d35).1) ∧ (maxI d34 (gd x6 d35).1) ≤ (minI x8 (IntKind.wrap .i64 ((gd x6 d35).1 + (gd x6 d35).2.2))) ∧ (minI x8 (IntKind.wrap .i64 ((gd x6 d35).1 + (gd x6 d35).2.2))) ≤ ((x4).length : Int) then ((F70.m (x2) ((subL x4 (maxI d34 (gd x6 d35).1) (minI x8 (IntKind.wrap .i64 ((gd x6 d35).1 + (gd x6 d35).2.2))))) ((IntKind.wrap .i64 ((IntKind.wrap .i64 ((gd x6 d35).2.1 + (maxI d34 (gd x6 d35).1))) - (gd x6 d35).1)))).bind fun y61 => (if (((d32 ++ y54)).length + ([(y61.1, (IntKind.wrap .i64 ((IntKind.wrap .i64 ((gd x6 d35).2.1 + (maxI d34 (gd x6 d35).1))) - (gd x6 d35).1)), y61.2.1, y61.2.2)]).length) * 48 ≤ 140737488355328 ∧ ((d32 ++ y54)).length + ([(y61.1, (IntKind.wrap .i64 ((IntKind.wrap .i64 ((gd x6 d35).2.1 + (maxI d34 (gd x6 d35).1))) - (gd x6 d35).1)), y61.2.1, y61.2.2)]).length ≤ 9223372036854775807 then F59.j2 d35 (((d32 ++ y54) ++ [(y61.1, (IntKind.wrap .i64 ((IntKind.wrap .i64 ((gd x6 d35).2.1 + (maxI d34 (gd x6 d35).1))) - (gd x6 d35).1)), y61.2.1, y61.2.2)])) ((minI x8 (IntKind.wrap .i64 ((gd x6 d35).1 + (gd x6 d35).2.2)))) else none)) else none) else none)) else none)) else none) else some (.inr (d32, d34)))
noncomputable def F59.m (x2 : List Int) (x4 : List Int) (x6 : List (Int × Int × Int)) (x7 : Int) (x8 : Int) : Option (List (Int × Int × Int × (List Int))) :=
  ((loop (F59.b1 x2 x4 x6 x8) (([] : List (Int × Int × Int × (List Int))), x7, (0 : Int))).bind fun y => match y with | (d13, d15) => F59.j1 x4 x7 x8 (d13) (d15))
set_option maxRecDepth 100000 in
set_option maxHeartbeats 4000000 in
theorem F59.spec (s1 : SlV) (s3 : SlV) (s5 : SlV) (x2 : List Int) (x4 : List Int) (x6 : List (Int × Int × Int)) (x7 : Int) (x8 : Int) (r : (List (Int × Int × Int × (List Int)))) (hm : F59.m x2 x4 x6 x7 x8 = some r) :
    Ctr Try.prog true 59 [s1.v, s3.v, s5.v, .int .i64 x7, .int .i64 x8] [Asr.vw (Enc.int .u8) (s1.v) x2, Asr.vw (Enc.int .u8) (s3.v) x4, Asr.vw (Enc.pair (Enc.int .i64) (Enc.pair (Enc.int .i64) (Enc.int .i64))) (s5.v) x6] (fun v L' => ∃ (g9 : SlV), ∃ (g11 : List (Unit × Unit × Unit × SlV)), v = g9.v ∧ L' = [Asr.onv 35 (NE.pair (NE.flat (Enc.int .u8)) (NE.pair (NE.flat (Enc.int .i64)) (NE.pair (NE.flat (Enc.int .i64)) (NE.sl (Enc.int .u8))))) (g9.v) g11 r]) := by
  refine Ctr.intro (n := 83) (env := [(0, s1.v), (1, s3.v), (2, s5.v), (3, .int .i64 x7), (4, .int .i64 x8)]) Try.func59 rfl rfl rfl rfl (fun c => ?_)
  unfold F59.m at hm
  refine JC.seq ?_
  refine JC.region ?_
  refine JL.ent (fun _ hs => hs.nilV 35 (NE.pair (NE.flat (Enc.int .u8)) (NE.pair (NE.flat (Enc.int .i64)) (NE.pair (NE.flat (Enc.int .i64)) (NE.sl (Enc.int .u8)))))) ?_
  refine JL.val (v := SlV.nil.v) (QV.assign rfl) rfl rfl rfl ?_
  refine JL.nil ?_
  refine QJ.then_normal ?_
  refine JC.seq ?_
  refine JC.region ?_
  refine JL.ent (fun _ hs => hs.nilV 35 (NE.pair (NE.flat (Enc.int .u8)) (NE.pair (NE.flat (Enc.int .i64)) (NE.pair (NE.flat (Enc.int .i64)) (NE.sl (Enc.int .u8)))))) ?_
  refine JL.val (v := SlV.nil.v) (QV.assign rfl) rfl rfl rfl ?_
  refine JL.nil ?_
  refine QJ.then_normal ?_
  refine JC.seq ?_
  refine JC.region ?_
  refine JL.val (v := .int .i64 x7) (QV.move rfl) rfl rfl rfl ?_
  refine JL.val (v := .int .i64 x7) (QV.assign rfl) rfl rfl rfl ?_
  refine JL.nil ?_
  refine QJ.then_normal ?_
  refine JC.seq ?_
  refine JC.seq ?_
  refine JC.region ?_
  refine JL.val (v := s5.v) (QV.move rfl) rfl rfl rfl ?_
  refine JL.val (v := .int .i64 ((x6).length : Int)) (QV.len (Rdg.vw 4 rfl) Try.underlying47 rfl) rfl rfl rfl ?_
  refine JL.val (v := .int .i64 (0 : Int)) (QV.move rfl) rfl rfl rfl ?_
  refine JL.nil ?_
  refine QJ.then_normal ?_
  refine JC.cutK (Y := (List (Int × Int × Int × (List Int)) × Int) × (SlV × List (Unit × Unit × Unit × SlV))) (fun y => match y with | ((d13, d15), _) => F59.j1 x4 x7 x8 (d13) (d15) = some r) (fun y => match y with | ((d13, d15), (z12, z14)) => [(1, s3.v), (3, .int .i64 x7), (4, .int .i64 x8), (11, z12.v), (12, .int .i64 d15)]) (fun y => match y with | ((d13, d15), (z12, z14)) => [Asr.vw (Enc.int .u8) (s3.v) x4, Asr.onv 35 (NE.pair (NE.flat (Enc.int .u8)) (NE.pair (NE.flat (Enc.int .i64)) (NE.pair (NE.flat (Enc.int .i64)) (NE.sl (Enc.int .u8))))) (z12.v) z14 d13]) ?_ ?_
  ·
    rintro ⟨⟨d13, d15⟩, ⟨z12, z14⟩⟩ hm
    unfold F59.j1 at hm
    show QJ _ _ [(1, s3.v), (3, .int .i64 x7), (4, .int .i64 x8), (11, z12.v), (12, .int .i64 d15)] [Asr.vw (Enc.int .u8) (s3.v) x4, Asr.onv 35 (NE.pair (NE.flat (Enc.int .u8)) (NE.pair (NE.flat (Enc.int .i64)) (NE.pair (NE.flat (Enc.int .i64)) (NE.sl (Enc.int .u8))))) (z12.v) z14 d13] _ _
    refine QJ.then_normal ?_
    refine JC.seq ?_
    refine JC.region ?_
    refine JL.val (v := z12.v) (QV.move rfl) rfl rfl rfl ?_
    refine JL.val (v := s3.v) (QV.move rfl) rfl rfl rfl ?_
    refine JL.val (v := .int .i64 d15) (QV.move rfl) rfl rfl rfl ?_
    refine JL.val (v := .int .i64 x8) (QV.move rfl) rfl rfl rfl ?_
    obtain ⟨h16, hm⟩ := guard_inv hm
    refine JL.val (v := (SlV.sub ((Enc.int .u8)).sz s3 d15 x8).v) (QV.sliceV (Rdg.vw 0 rfl) Try.underlying23 tk_5 rfl rfl rfl h16) rfl rfl rfl ?_
    obtain ⟨y17, hc18, hm⟩ := bind_inv hm
    refine JL.mv (d := some 68) (MV.call (Lo := []) (Lr := [Asr.vw (Enc.int .u8) (s3.v) x4, Asr.onv 35 (NE.pair (NE.flat (Enc.int .u8)) (NE.pair (NE.flat (Enc.int .i64)) (NE.pair (NE.flat (Enc.int .i64)) (NE.sl (Enc.int .u8))))) (z12.v) z14 d13]) (F40.spec ((SlV.sub ((Enc.int .u8)).sz s3 d15 x8)) ((subL x4 d15 x8)) _ hc18) rfl Try.func40 rfl rfl rfl [] [0, 1] rfl rfl rfl ⟨((Drv.vw 0 rfl).subV h16), trivial⟩) rfl rfl rfl ?_
    rintro _ _ ⟨_, ⟨z19, z20, rfl, rfl⟩, rfl⟩
    obtain ⟨h21, hm⟩ := guard_inv hm
    refine JL.mv (d := some 69) (MV.appendV 2 rfl (OkG.onv 0 rfl) (RdN.onv 0 rfl) Try.underlying22 zi_35 rfl (by decide) rfl rfl h21) rfl rfl rfl ?_
    rintro _ _ ⟨z22, rfl, rfl⟩
    refine JL.val (v := z22.v) (QV.assign rfl) rfl rfl rfl ?_
    refine JL.nil ?_
    refine QJ.then_normal ?_
    refine JC.seq ?_
    refine JC.seq ?_
    refine JC.region ?_
    refine JL.val (v := z22.v) (QV.move rfl) rfl rfl rfl ?_
    obtain ⟨y23, hc24, hm⟩ := bind_inv hm
    refine JL.mv (d := some 71) (MV.call (Lo := []) (Lr := [Asr.onv 35 (NE.pair (NE.flat (Enc.int .u8)) (NE.pair (NE.flat (Enc.int .i64)) (NE.pair (NE.flat (Enc.int .i64)) (NE.sl (Enc.int .u8))))) (z19.v) z20 y17, Asr.vw (Enc.int .u8) (s3.v) x4, Asr.onv 35 (NE.pair (NE.flat (Enc.int .u8)) (NE.pair (NE.flat (Enc.int .i64)) (NE.pair (NE.flat (Enc.int .i64)) (NE.sl (Enc.int .u8))))) (z22.v) (z14 ++ z20) (d13 ++ y17)]) (F26.spec (z22) ((z14 ++ z20)) ((d13 ++ y17)) _ hc24) rfl Try.func26 rfl rfl rfl [] [0, 1, 2] rfl rfl rfl ⟨(Drv.onv 2 rfl), trivial⟩) rfl rfl rfl ?_
    rintro _ _ ⟨_, ⟨rfl, rfl⟩, rfl⟩
    refine JL.val (v := .int .i64 x8) (QV.move rfl) rfl rfl rfl ?_
    refine JL.val (v := .int .i64 x7) (QV.move rfl) rfl rfl rfl ?_
    refine JL.val (v := .int .i64 (IntKind.wrap .i64 (x8 - x7))) (QV.sub rfl rfl) rfl rfl rfl ?_
    refine JL.val (v := .int .i64 (IntKind.wrap .i64 ((IntKind.wrap .i64 (x8 - x7)) + (12 : Int)))) (QV.add rfl rfl) rfl rfl rfl ?_
    refine JL.val (v := .bool (decide ((IntKind.wrap .i64 ((IntKind.wrap .i64 (x8 - x7)) + (12 : Int))) < y23))) (QV.gtr rfl rfl) rfl rfl rfl ?_
    refine JL.nil ?_
    refine QJ.then_normal ?_
    rcases ite_inv hm with ⟨h25, hm⟩ | ⟨h25, hm⟩
    ·
      refine JC.condT' rfl (decide_eq_true h25) ?_
      refine JC.seq ?_
      refine JC.region ?_
      refine JL.val (v := s3.v) (QV.move rfl) rfl rfl rfl ?_
      refine JL.val (v := .int .i64 x7) (QV.move rfl) rfl rfl rfl ?_
      refine JL.val (v := .int .i64 x8) (QV.move rfl) rfl rfl rfl ?_
      obtain ⟨h26, hm⟩ := guard_inv hm
      refine JL.val (v := (SlV.sub ((Enc.int .u8)).sz s3 x7 x8).v) (QV.sliceV (Rdg.vw 1 rfl) Try.underlying23 tk_5 rfl rfl rfl h26) rfl rfl rfl ?_
      obtain ⟨y27, hc28, hm⟩ := bind_inv hm
      refine JL.mv (d := some 81) (MV.call (Lo := []) (Lr := [Asr.onv 35 (NE.pair (NE.flat (Enc.int .u8)) (NE.pair (NE.flat (Enc.int .i64)) (NE.pair (NE.flat (Enc.int .i64)) (NE.sl (Enc.int .u8))))) (z19.v) z20 y17, Asr.vw (Enc.int .u8) (s3.v) x4, Asr.onv 35 (NE.pair (NE.flat (Enc.int .u8)) (NE.pair (NE.flat (Enc.int .i64)) (NE.pair (NE.flat (Enc.int .i64)) (NE.sl (Enc.int .u8))))) (z22.v) (z14 ++ z20) (d13 ++ y17)]) (F40.spec ((SlV.sub ((Enc.int .u8)).sz s3 x7 x8)) ((subL x4 x7 x8)) _ hc28) rfl Try.func40 rfl rfl rfl [] [0, 1, 2] rfl rfl rfl ⟨((Drv.vw 1 rfl).subV h26), trivial⟩) rfl rfl rfl ?_
      rintro _ _ ⟨_, ⟨z29, z30, rfl, rfl⟩, rfl⟩
      refine JL.val (v := z29.v) (QV.assign rfl) rfl rfl rfl ?_
      refine JL.nil ?_
      refine QJ.then_normal ?_
      refine JC.ret ?_
      refine QJ.then_ret ?_
      obtain rfl := Option.some.inj hm
      exact QJ.body (vs := [z29.v]) (.inl rfl) rfl (ResVs.cons (ResV.tmp rfl) ResVs.nil) [0] rfl rfl (.inl rfl) ⟨z29, z30, rfl, rfl⟩
    ·
      refine JC.condF' rfl (decide_eq_false h25) ?_
      refine JC.skip ?_
      refine QJ.then_normal ?_
      refine JC.seq ?_
      refine JC.region ?_
      refine JL.val (v := z22.v) (QV.move rfl) rfl rfl rfl ?_
      refine JL.val (v := z22.v) (QV.assign rfl) rfl rfl rfl ?_
      refine JL.nil ?_
      refine QJ.then_normal ?_
      refine JC.ret ?_
      obtain rfl := Option.some.inj hm
      exact QJ.body (vs := [z22.v]) (.inl rfl) rfl (ResVs.cons (ResV.tmp rfl) ResVs.nil) [2] rfl rfl (.inl rfl) ⟨z22, ((z14 ++ z20)), rfl, rfl⟩
  ·
    refine JC.block ?_
    obtain ⟨y41, hl42, hmo43⟩ := bind_inv hm
    refine JC.loop (F59.b1 x2 x4 x6 x8) (fun x z => match x, z with | (d32, d34, d35), (z31, z33) => [(0, s1.v), (1, s3.v), (3, .int .i64 x7), (4, .int .i64 x8), (11, z31.v), (12, .int .i64 d34), (18, s5.v), (19, .int .i64 ((x6).length : Int)), (20, .int .i64 d35)]) (fun x z => match x, z with | (d32, d34, d35), (z31, z33) => [Asr.vw (Enc.int .u8) (s1.v) x2, Asr.vw (Enc.int .u8) (s3.v) x4, Asr.onv 35 (NE.pair (NE.flat (Enc.int .u8)) (NE.pair (NE.flat (Enc.int .i64)) (NE.pair (NE.flat (Enc.int .i64)) (NE.sl (Enc.int .u8))))) (z31.v) z33 d32, Asr.vw (Enc.pair (Enc.int .i64) (Enc.pair (Enc.int .i64) (Enc.int .i64))) (s5.v) x6]) (([] : List (Int × Int × Int × (List Int))), x7, (0 : Int)) (SlV.nil, ([] : List (Unit × Unit × Unit × SlV))) y41 hl42 [2, 3, 0, 4] (by exact ⟨rfl, rfl, rfl, rfl, rfl, rfl, rfl, rfl, rfl, trivial⟩) rfl rfl ?_
    rintro ⟨d32, d34, d35⟩ ⟨z31, z33⟩ s44 hm
    unfold F59.b1 at hm
    dsimp only at hm
    show JC _ _ _ [(0, s1.v), (1, s3.v), (3, .int .i64 x7), (4, .int .i64 x8), (11, z31.v), (12, .int .i64 d34), (18, s5.v), (19, .int .i64 ((x6).length : Int)), (20, .int .i64 d35)] [Asr.vw (Enc.int .u8) (s1.v) x2, Asr.vw (Enc.int .u8) (s3.v) x4, Asr.onv 35 (NE.pair (NE.flat (Enc.int .u8)) (NE.pair (NE.flat (Enc.int .i64)) (NE.pair (NE.flat (Enc.int .i64)) (NE.sl (Enc.int .u8))))) (z31.v) z33 d32, Asr.vw (Enc.pair (Enc.int .i64) (Enc.pair (Enc.int .i64) (Enc.int .i64))) (s5.v) x6] _ _
    refine JC.seq ?_
    refine JC.region ?_
    refine JL.val (v := .bool (decide (d35 < ((x6).length : Int)))) (QV.lss rfl rfl) rfl rfl rfl ?_
    refine JL.nil ?_
    refine QJ.then_normal ?_
    refine JC.seq ?_
    rcases ite_inv hm with ⟨h45, hm⟩ | ⟨h45, hm⟩
    ·
      refine JC.condT' rfl (decide_eq_true h45) ?_
      refine JC.skip ?_
      refine QJ.then_normal ?_
      refine JC.seq ?_
      refine JC.cutK (Y := (List (Int × Int × Int × (List Int)) × Int) × (SlV × List (Unit × Unit × Unit × SlV))) (fun y => match y with | ((d47, d49), _) => F59.j2 d35 (d47) (d49) = some s44) (fun y => match y with | ((d47, d49), (z46, z48)) => [(0, s1.v), (1, s3.v), (3, .int .i64 x7), (4, .int .i64 x8), (11, z46.v), (12, .int .i64 d49), (18, s5.v), (19, .int .i64 ((x6).length : Int)), (20, .int .i64 d35)]) (fun y => match y with | ((d47, d49), (z46, z48)) => [Asr.vw (Enc.int .u8) (s1.v) x2, Asr.vw (Enc.int .u8) (s3.v) x4, Asr.onv 35 (NE.pair (NE.flat (Enc.int .u8)) (NE.pair (NE.flat (Enc.int .i64)) (NE.pair (NE.flat (Enc.int .i64)) (NE.sl (Enc.int .u8))))) (z46.v) z48 d47, Asr.vw (Enc.pair (Enc.int .i64) (Enc.pair (Enc.int .i64) (Enc.int .i64))) (s5.v) x6]) ?_ ?_
      ·
        rintro ⟨⟨d47, d49⟩, ⟨z46, z48⟩⟩ hm
        unfold F59.j2 at hm
        show QJ _ _ [(0, s1.v), (1, s3.v), (3, .int .i64 x7), (4, .int .i64 x8), (11, z46.v), (12, .int .i64 d49), (18, s5.v), (19, .int .i64 ((x6).length : Int)), (20, .int .i64 d35)] [Asr.vw (Enc.int .u8) (s1.v) x2, Asr.vw (Enc.int .u8) (s3.v) x4, Asr.onv 35 (NE.pair (NE.flat (Enc.int .u8)) (NE.pair (NE.flat (Enc.int .i64)) (NE.pair (NE.flat (Enc.int .i64)) (NE.sl (Enc.int .u8))))) (z46.v) z48 d47, Asr.vw (Enc.pair (Enc.int .i64) (Enc.pair (Enc.int .i64) (Enc.int .i64))) (s5.v) x6] _ _
        refine QJ.then_normal ?_
        refine JC.region ?_
        refine JL.val (v := .int .i64 (IntKind.wrap .i64 (d35 + (1 : Int)))) (QV.add rfl rfl) rfl rfl rfl ?_
        refine JL.val (v := .int .i64 (IntKind.wrap .i64 (d35 + (1 : Int)))) (QV.move rfl) rfl rfl rfl ?_
        refine JL.nil ?_
        obtain rfl := Option.some.inj hm
        exact QJ.round_on (d47, d49, (IntKind.wrap .i64 (d35 + (1 : Int)))) (z46, z48) [0, 1, 2, 3] (by exact ⟨rfl, rfl, rfl, rfl, rfl, rfl, rfl, rfl, rfl, trivial⟩) rfl rfl
      ·
        refine JC.block ?_
        refine JC.seq ?_
        refine JC.region ?_
        obtain ⟨h50, hm⟩ := guard_inv hm
        refine JL.val (v := .pointer (some (elA (s5.v) (Int.toNat d35 * ((Enc.pair (Enc.int .i64) (Enc.pair (Enc.int .i64) (Enc.int .i64)))).sz)))) (QV.indexA (Rdg.vw 3 rfl) Try.underlying47 tk_52 rfl rfl h50) rfl rfl rfl ?_
        refine JL.val (v := .agg #[.int .i64 (gd x6 d35).1, .int .i64 (gd x6 d35).2.1, .int .i64 (gd x6 d35).2.2]) (QV.eq (QV.elN (Rdg.vw 3 rfl) tk_52 rfl h50) rfl) rfl rfl rfl ?_
        refine JL.mv (d := some 14) (MV.alloc [Seg.c (.int .i64 (0 : Int)), Seg.c (.int .i64 (0 : Int)), Seg.c (.int .i64 (0 : Int))] z_52 rfl) rfl rfl rfl ?_
        rintro _ _ ⟨b51, rfl, rfl⟩
        refine JL.mv (d := none) (MV.store (ss := [Seg.c (.int .i64 (0 : Int)), Seg.c (.int .i64 (0 : Int)), Seg.c (.int .i64 (0 : Int))]) 0 0 3 [Seg.c (.int .i64 (gd x6 d35).1), Seg.c (.int .i64 (gd x6 d35).2.1), Seg.c (.int .i64 (gd x6 d35).2.2)] rfl tk_52 rfl rfl rfl rfl (fun w hs => ⟨rfl, one_c rfl, one_c rfl, one_c rfl, trivial⟩)) rfl rfl rfl ?_
        rintro _ _ ⟨rfl, rfl⟩
        refine JL.nil ?_
        refine QJ.then_normal ?_
        refine JC.seq ?_
        refine JC.regionT [Asr.blk b51 52 [Seg.c (.int .i64 (gd x6 d35).1), Seg.c (.int .i64 (gd x6 d35).2.1), Seg.c (.int .i64 (gd x6 d35).2.2)], Asr.vw (Enc.int .u8) (s1.v) x2, Asr.vw (Enc.int .u8) (s3.v) x4, Asr.onv 35 (NE.pair (NE.flat (Enc.int .u8)) (NE.pair (NE.flat (Enc.int .i64)) (NE.pair (NE.flat (Enc.int .i64)) (NE.sl (Enc.int .u8))))) (z31.v) z33 d32, Asr.vw (Enc.pair (Enc.int .i64) (Enc.pair (Enc.int .i64) (Enc.int .i64))) (s5.v) x6] (fun t => false) [(0, true), (1, true), (2, true), (3, true), (4, true), (5, true), (6, true), (7, true), (8, true), (9, true), (10, true), (11, false), (12, false)] (by kernel_rfl) (by kernel_rfl) (by kernel_rfl) rfl (fun hsel => ?_)
        refine JT.take (i := 0) (v := .int .i64 d34) hsel rfl (QV.move rfl) rfl rfl rfl [0, 1, 2, 3, 4] rfl rfl ?_
        refine JT.take (i := 1) (v := .pointer (some ⟨b51, 0, none⟩)) hsel rfl (QV.fieldB fo_52_0 rfl rfl) rfl rfl rfl [0, 1, 2, 3, 4] rfl rfl ?_
        refine JT.take (i := 2) (v := .int .i64 (gd x6 d35).1) hsel rfl (QV.load1 (ss := [Seg.c (.int .i64 (gd x6 d35).1), Seg.c (.int .i64 (gd x6 d35).2.1), Seg.c (.int .i64 (gd x6 d35).2.2)]) 0 0 rfl tk_3 rfl rfl rfl) rfl rfl rfl [0, 1, 2, 3, 4] rfl rfl ?_
        refine JT.take (i := 3) (v := .int .i64 (maxI d34 (gd x6 d35).1)) hsel rfl (QV.max2 rfl rfl) rfl rfl rfl [0, 1, 2, 3, 4] rfl rfl ?_
        refine JT.take (i := 4) (v := .int .i64 x8) hsel rfl (QV.move rfl) rfl rfl rfl [0, 1, 2, 3, 4] rfl rfl ?_
        refine JT.take (i := 5) (v := .pointer (some ⟨b51, 0, none⟩)) hsel rfl (QV.fieldB fo_52_0 rfl rfl) rfl rfl rfl [0, 1, 2, 3, 4] rfl rfl ?_
        refine JT.take (i := 6) (v := .int .i64 (gd x6 d35).1) hsel rfl (QV.load1 (ss := [Seg.c (.int .i64 (gd x6 d35).1), Seg.c (.int .i64 (gd x6 d35).2.1), Seg.c (.int .i64 (gd x6 d35).2.2)]) 0 0 rfl tk_3 rfl rfl rfl) rfl rfl rfl [0, 1, 2, 3, 4] rfl rfl ?_
        refine JT.take (i := 7) (v := .pointer (some ⟨b51, 2, none⟩)) hsel rfl (QV.fieldB fo_52_2 rfl rfl) rfl rfl rfl [0, 1, 2, 3, 4] rfl rfl ?_
        refine JT.take (i := 8) (v := .int .i64 (gd x6 d35).2.2) hsel rfl (QV.load1 (ss := [Seg.c (.int .i64 (gd x6 d35).1), Seg.c (.int .i64 (gd x6 d35).2.1), Seg.c (.int .i64 (gd x6 d35).2.2)]) 0 2 rfl tk_3 rfl rfl rfl) rfl rfl rfl [0, 1, 2, 3, 4] rfl rfl ?_
        refine JT.take (i := 9) (v := .int .i64 (IntKind.wrap .i64 ((gd x6 d35).1 + (gd x6 d35).2.2))) hsel rfl (QV.add rfl rfl) rfl rfl rfl [0, 1, 2, 3, 4] rfl rfl ?_
        refine JT.take (i := 10) (v := .int .i64 (minI x8 (IntKind.wrap .i64 ((gd x6 d35).1 + (gd x6 d35).2.2)))) hsel rfl (QV.min2 rfl rfl) rfl rfl rfl [0, 1, 2, 3, 4] rfl rfl ?_
        refine JT.only (i := 11) (d := some 15) rfl (MV.ofQV (v := .int .i64 (maxI d34 (gd x6 d35).1)) (QV.assign rfl)) rfl rfl rfl ?_
        rintro _ _ ⟨rfl, rfl⟩
        refine ⟨fun _ => ⟨[0, 1, 2, 3, 4], rfl, rfl⟩, ?_⟩
        refine JT.only (i := 12) (d := some 16) rfl (MV.ofQV (v := .int .i64 (minI x8 (IntKind.wrap .i64 ((gd x6 d35).1 + (gd x6 d35).2.2)))) (QV.assign rfl)) rfl rfl rfl ?_
        rintro _ _ ⟨rfl, rfl⟩
        refine ⟨fun _ => ⟨[0, 1, 2, 3, 4], rfl, rfl⟩, ?_⟩
        refine JT.nil ?_
        refine QJ.then_normal ?_
        refine JC.seq ?_
        refine JC.seq ?_
        refine JC.region ?_
        refine JL.val (v := .int .i64 (maxI d34 (gd x6 d35).1)) (QV.move rfl) rfl rfl rfl ?_
        refine JL.val (v := .int .i64 (minI x8 (IntKind.wrap .i64 ((gd x6 d35).1 + (gd x6 d35).2.2)))) (QV.move rfl) rfl rfl rfl ?_
        refine JL.val (v := .bool (decide ((minI x8 (IntKind.wrap .i64 ((gd x6 d35).1 + (gd x6 d35).2.2))) ≤ (maxI d34 (gd x6 d35).1)))) (QV.geq rfl rfl) rfl rfl rfl ?_
        refine JL.nil ?_
        refine QJ.then_normal ?_
        rcases ite_inv hm with ⟨h52, hm⟩ | ⟨h52, hm⟩
        ·
          refine JC.condT' rfl (decide_eq_true h52) ?_
          refine JC.exit ?_
          refine QJ.then_exit ?_
          refine QJ.block_hit ?_
          exact QJ.cut_normal ((d32, d34), (z31, z33)) hm [1, 2, 3, 4] (by exact ⟨rfl, rfl, rfl, rfl, rfl, rfl, rfl, rfl, rfl, trivial⟩) rfl rfl
        ·
          refine JC.condF' rfl (decide_eq_false h52) ?_
          refine JC.skip ?_
          refine QJ.then_normal ?_
          refine JC.seq ?_
          refine JC.region ?_
          refine JL.val (v := z31.v) (QV.move rfl) rfl rfl rfl ?_
          refine JL.val (v := s3.v) (QV.move rfl) rfl rfl rfl ?_
          refine JL.val (v := .int .i64 d34) (QV.move rfl) rfl rfl rfl ?_
          refine JL.val (v := .int .i64 (maxI d34 (gd x6 d35).1)) (QV.move rfl) rfl rfl rfl ?_
          obtain ⟨h53, hm⟩ := guard_inv hm
          refine JL.val (v := (SlV.sub ((Enc.int .u8)).sz s3 d34 (maxI d34 (gd x6 d35).1)).v) (QV.sliceV (Rdg.vw 2 rfl) Try.underlying23 tk_5 rfl rfl rfl h53) rfl rfl rfl ?_
          obtain ⟨y54, hc55, hm⟩ := bind_inv hm
          refine JL.mv (d := some 43) (MV.call (Lo := []) (Lr := [Asr.blk b51 52 [Seg.c (.int .i64 (gd x6 d35).1), Seg.c (.int .i64 (gd x6 d35).2.1), Seg.c (.int .i64 (gd x6 d35).2.2)], Asr.vw (Enc.int .u8) (s1.v) x2, Asr.vw (Enc.int .u8) (s3.v) x4, Asr.onv 35 (NE.pair (NE.flat (Enc.int .u8)) (NE.pair (NE.flat (Enc.int .i64)) (NE.pair (NE.flat (Enc.int .i64)) (NE.sl (Enc.int .u8))))) (z31.v) z33 d32, Asr.vw (Enc.pair (Enc.int .i64) (Enc.pair (Enc.int .i64) (Enc.int .i64))) (s5.v) x6]) (F40.spec ((SlV.sub ((Enc.int .u8)).sz s3 d34 (maxI d34 (gd x6 d35).1))) ((subL x4 d34 (maxI d34 (gd x6 d35).1))) _ hc55) rfl Try.func40 rfl rfl rfl [] [0, 1, 2, 3, 4] rfl rfl rfl ⟨((Drv.vw 2 rfl).subV h53), trivial⟩) rfl rfl rfl ?_
          rintro _ _ ⟨_, ⟨z56, z57, rfl, rfl⟩, rfl⟩
          obtain ⟨h58, hm⟩ := guard_inv hm
          refine JL.mv (d := some 44) (MV.appendV 4 rfl (OkG.onv 0 rfl) (RdN.onv 0 rfl) Try.underlying22 zi_35 rfl (by decide) rfl rfl h58) rfl rfl rfl ?_
          rintro _ _ ⟨z59, rfl, rfl⟩
          refine JL.val (v := z59.v) (QV.assign rfl) rfl rfl rfl ?_
          refine JL.nil ?_
          refine QJ.then_normal ?_
          refine JC.seq ?_
          refine JC.regionT [Asr.onv 35 (NE.pair (NE.flat (Enc.int .u8)) (NE.pair (NE.flat (Enc.int .i64)) (NE.pair (NE.flat (Enc.int .i64)) (NE.sl (Enc.int .u8))))) (z56.v) z57 y54, Asr.blk b51 52 [Seg.c (.int .i64 (gd x6 d35).1), Seg.c (.int .i64 (gd x6 d35).2.1), Seg.c (.int .i64 (gd x6 d35).2.2)], Asr.vw (Enc.int .u8) (s1.v) x2, Asr.vw (Enc.int .u8) (s3.v) x4, Asr.vw (Enc.pair (Enc.int .i64) (Enc.pair (Enc.int .i64) (Enc.int .i64))) (s5.v) x6] (fun t => false) [(0, true), (1, true), (2, true), (3, true), (4, true), (5, true), (6, true), (7, true), (8, true), (9, true), (10, false), (11, false), (12, false), (13, false), (14, false), (15, false), (16, false)] (by kernel_rfl) (by kernel_rfl) (by kernel_rfl) rfl (fun hsel => ?_)
          refine JT.take (i := 0) (v := z59.v) hsel rfl (QV.move rfl) rfl rfl rfl [0, 1, 2, 3, 5] rfl rfl ?_
          refine JT.take (i := 1) (v := s1.v) hsel rfl (QV.move rfl) rfl rfl rfl [0, 1, 2, 3, 5] rfl rfl ?_
          refine JT.take (i := 2) (v := s3.v) hsel rfl (QV.move rfl) rfl rfl rfl [0, 1, 2, 3, 5] rfl rfl ?_
          refine JT.take (i := 3) (v := .int .i64 (maxI d34 (gd x6 d35).1)) hsel rfl (QV.move rfl) rfl rfl rfl [0, 1, 2, 3, 5] rfl rfl ?_
          refine JT.take (i := 4) (v := .int .i64 (minI x8 (IntKind.wrap .i64 ((gd x6 d35).1 + (gd x6 d35).2.2)))) hsel rfl (QV.move rfl) rfl rfl rfl [0, 1, 2, 3, 5] rfl rfl ?_
          obtain ⟨h60, hm⟩ := guard_inv hm
          refine JT.take (i := 5) (v := (SlV.sub ((Enc.int .u8)).sz s3 (maxI d34 (gd x6 d35).1) (minI x8 (IntKind.wrap .i64 ((gd x6 d35).1 + (gd x6 d35).2.2)))).v) hsel rfl (QV.sliceV (Rdg.vw 3 rfl) Try.underlying23 tk_5 rfl rfl rfl h60) rfl rfl rfl [0, 1, 2, 3, 5] rfl rfl ?_
          refine JT.take (i := 6) (v := .pointer (some ⟨b51, 1, none⟩)) hsel rfl (QV.fieldB fo_52_1 rfl rfl) rfl rfl rfl [0, 1, 2, 3, 5] rfl rfl ?_
          refine JT.take (i := 7) (v := .int .i64 (gd x6 d35).2.1) hsel rfl (QV.load1 (ss := [Seg.c (.int .i64 (gd x6 d35).1), Seg.c (.int .i64 (gd x6 d35).2.1), Seg.c (.int .i64 (gd x6 d35).2.2)]) 1 1 rfl tk_3 rfl rfl rfl) rfl rfl rfl [0, 1, 2, 3, 5] rfl rfl ?_
          refine JT.take (i := 8) (v := .int .i64 (maxI d34 (gd x6 d35).1)) hsel rfl (QV.move rfl) rfl rfl rfl [0, 1, 2, 3, 5] rfl rfl ?_
          refine JT.take (i := 9) (v := .int .i64 (IntKind.wrap .i64 ((gd x6 d35).2.1 + (maxI d34 (gd x6 d35).1)))) hsel rfl (QV.add rfl rfl) rfl rfl rfl [0, 1, 2, 3, 5] rfl rfl ?_
          refine JT.only (i := 10) (d := some 55) rfl (MV.ofQV (v := .pointer (some ⟨b51, 0, none⟩)) (QV.fieldB fo_52_0 rfl rfl)) rfl rfl rfl ?_
          rintro _ _ ⟨rfl, rfl⟩
          refine ⟨fun _ => ⟨[0, 1, 2, 3, 5], rfl, rfl⟩, ?_⟩
          refine JT.only (i := 11) (d := some 56) rfl (MV.ofQV (v := .int .i64 (gd x6 d35).1) (QV.load1 (ss := [Seg.c (.int .i64 (gd x6 d35).1), Seg.c (.int .i64 (gd x6 d35).2.1), Seg.c (.int .i64 (gd x6 d35).2.2)]) 1 0 rfl tk_3 rfl rfl rfl)) rfl rfl rfl ?_
          rintro _ _ ⟨rfl, rfl⟩
          refine ⟨fun _ => ⟨[0, 1, 2, 3, 5], rfl, rfl⟩, ?_⟩
          refine JT.only (i := 12) (d := some 57) rfl (MV.ofQV (v := .int .i64 (IntKind.wrap .i64 ((IntKind.wrap .i64 ((gd x6 d35).2.1 + (maxI d34 (gd x6 d35).1))) - (gd x6 d35).1))) (QV.sub rfl rfl)) rfl rfl rfl ?_
          rintro _ _ ⟨rfl, rfl⟩
          refine ⟨fun _ => ⟨[0, 1, 2, 3, 5], rfl, rfl⟩, ?_⟩
          obtain ⟨y61, hc62, hm⟩ := bind_inv hm
          refine JT.only (i := 13) (d := some 58) rfl (MV.call (Lo := []) (Lr := [Asr.onv 35 (NE.pair (NE.flat (Enc.int .u8)) (NE.pair (NE.flat (Enc.int .i64)) (NE.pair (NE.flat (Enc.int .i64)) (NE.sl (Enc.int .u8))))) (z56.v) z57 y54, Asr.blk b51 52 [Seg.c (.int .i64 (gd x6 d35).1), Seg.c (.int .i64 (gd x6 d35).2.1), Seg.c (.int .i64 (gd x6 d35).2.2)], Asr.vw (Enc.int .u8) (s1.v) x2, Asr.vw (Enc.int .u8) (s3.v) x4, Asr.onv 35 (NE.pair (NE.flat (Enc.int .u8)) (NE.pair (NE.flat (Enc.int .i64)) (NE.pair (NE.flat (Enc.int .i64)) (NE.sl (Enc.int .u8))))) (z59.v) (z33 ++ z57) (d32 ++ y54), Asr.vw (Enc.pair (Enc.int .i64) (Enc.pair (Enc.int .i64) (Enc.int .i64))) (s5.v) x6]) (F70.spec (s1) ((SlV.sub ((Enc.int .u8)).sz s3 (maxI d34 (gd x6 d35).1) (minI x8 (IntKind.wrap .i64 ((gd x6 d35).1 + (gd x6 d35).2.2))))) (x2) ((subL x4 (maxI d34 (gd x6 d35).1) (minI x8 (IntKind.wrap .i64 ((gd x6 d35).1 + (gd x6 d35).2.2))))) ((IntKind.wrap .i64 ((IntKind.wrap .i64 ((gd x6 d35).2.1 + (maxI d34 (gd x6 d35).1))) - (gd x6 d35).1))) _ hc62) rfl Try.func70 rfl rfl rfl [] [0, 1, 2, 3, 4, 5] rfl rfl rfl ⟨(Drv.vw 2 rfl), ⟨((Drv.vw 3 rfl).subV h60), trivial⟩⟩) rfl rfl rfl ?_
          rintro _ _ ⟨_, ⟨z63, rfl, rfl⟩, rfl⟩
          refine ⟨fun _ => ⟨[1, 2, 3, 4, 6], rfl, rfl⟩, ?_⟩
          refine JT.ent (fun _ hs => hs.share 0 rfl) ?_
          refine JT.only (i := 14) (d := some 59) rfl (MV.litV (K := (NE.pair (NE.flat (Enc.int .u8)) (NE.pair (NE.flat (Enc.int .i64)) (NE.pair (NE.flat (Enc.int .i64)) (NE.sl (Enc.int .u8)))))) (vals := [(0, .agg #[.int .u8 y61.1, .int .i64 (IntKind.wrap .i64 ((IntKind.wrap .i64 ((gd x6 d35).2.1 + (maxI d34 (gd x6 d35).1))) - (gd x6 d35).1)), .int .i64 y61.2.1, z63.v])]) [((), (), (), z63)] [(y61.1, (IntKind.wrap .i64 ((IntKind.wrap .i64 ((gd x6 d35).2.1 + (maxI d34 (gd x6 d35).1))) - (gd x6 d35).1)), y61.2.1, y61.2.2)] Try.underlying22 zi_35 ⟨fun w F G hst => ⟨trivial, trivial, trivial, (ok_vw (Drv.vw 0 rfl) w F G hst)⟩, trivial⟩ rfl (by decide) rfl (by kernel_rfl)) rfl rfl rfl ?_
          rintro _ _ ⟨z64, rfl, rfl⟩
          refine ⟨fun _ => ⟨[2, 3, 4, 5, 7], rfl, rfl⟩, ?_⟩
          refine JT.grow [Asr.onv 35 (NE.pair (NE.flat (Enc.int .u8)) (NE.pair (NE.flat (Enc.int .i64)) (NE.pair (NE.flat (Enc.int .i64)) (NE.sl (Enc.int .u8))))) (z64.v) [((), (), (), z63)] [(y61.1, (IntKind.wrap .i64 ((IntKind.wrap .i64 ((gd x6 d35).2.1 + (maxI d34 (gd x6 d35).1))) - (gd x6 d35).1)), y61.2.1, y61.2.2)], Asr.vw (Enc.int .u8) (z63.v) y61.2.2, Asr.onv 35 (NE.pair (NE.flat (Enc.int .u8)) (NE.pair (NE.flat (Enc.int .i64)) (NE.pair (NE.flat (Enc.int .i64)) (NE.sl (Enc.int .u8))))) (z56.v) z57 y54, Asr.blk b51 52 [Seg.c (.int .i64 (gd x6 d35).1), Seg.c (.int .i64 (gd x6 d35).2.1), Seg.c (.int .i64 (gd x6 d35).2.2)], Asr.vw (Enc.int .u8) (s1.v) x2, Asr.vw (Enc.int .u8) (s3.v) x4, Asr.vw (Enc.pair (Enc.int .i64) (Enc.pair (Enc.int .i64) (Enc.int .i64))) (s5.v) x6] [2, 3, 4, 5, 6] rfl rfl ?_
          obtain ⟨h65, hm⟩ := guard_inv hm
          refine JT.only (i := 15) (d := some 60) rfl (MV.appendV 6 rfl (OkG.onv 0 rfl) (RdN.onv 0 rfl) Try.underlying22 zi_35 rfl (by decide) rfl rfl h65) rfl rfl rfl ?_
          rintro _ _ ⟨z66, rfl, rfl⟩
          refine ⟨fun _ => ⟨[0, 1, 2, 3, 4, 5, 7], rfl, rfl⟩, ?_⟩
          refine JT.grow [Asr.onv 35 (NE.pair (NE.flat (Enc.int .u8)) (NE.pair (NE.flat (Enc.int .i64)) (NE.pair (NE.flat (Enc.int .i64)) (NE.sl (Enc.int .u8))))) (z64.v) [((), (), (), z63)] [(y61.1, (IntKind.wrap .i64 ((IntKind.wrap .i64 ((gd x6 d35).2.1 + (maxI d34 (gd x6 d35).1))) - (gd x6 d35).1)), y61.2.1, y61.2.2)], Asr.vw (Enc.int .u8) (z63.v) y61.2.2, Asr.onv 35 (NE.pair (NE.flat (Enc.int .u8)) (NE.pair (NE.flat (Enc.int .i64)) (NE.pair (NE.flat (Enc.int .i64)) (NE.sl (Enc.int .u8))))) (z56.v) z57 y54, Asr.blk b51 52 [Seg.c (.int .i64 (gd x6 d35).1), Seg.c (.int .i64 (gd x6 d35).2.1), Seg.c (.int .i64 (gd x6 d35).2.2)], Asr.vw (Enc.int .u8) (s1.v) x2, Asr.vw (Enc.int .u8) (s3.v) x4, Asr.onv 35 (NE.pair (NE.flat (Enc.int .u8)) (NE.pair (NE.flat (Enc.int .i64)) (NE.pair (NE.flat (Enc.int .i64)) (NE.sl (Enc.int .u8))))) (z66.v) ((z33 ++ z57) ++ [((), (), (), z63)]) ((d32 ++ y54) ++ [(y61.1, (IntKind.wrap .i64 ((IntKind.wrap .i64 ((gd x6 d35).2.1 + (maxI d34 (gd x6 d35).1))) - (gd x6 d35).1)), y61.2.1, y61.2.2)]), Asr.vw (Enc.pair (Enc.int .i64) (Enc.pair (Enc.int .i64) (Enc.int .i64))) (s5.v) x6] [0, 1, 2, 3, 4, 5, 7] rfl rfl ?_
          refine JT.only (i := 16) (d := some 11) rfl (MV.ofQV (v := z66.v) (QV.assign rfl)) rfl rfl rfl ?_
          rintro _ _ ⟨rfl, rfl⟩
          refine ⟨fun _ => ⟨[0, 1, 2, 3, 4, 5, 6, 7], rfl, rfl⟩, ?_⟩
          refine JT.nil ?_
          refine QJ.then_normal ?_
          refine JC.region ?_
          refine JL.val (v := .int .i64 (minI x8 (IntKind.wrap .i64 ((gd x6 d35).1 + (gd x6 d35).2.2)))) (QV.move rfl) rfl rfl rfl ?_
          refine JL.val (v := .int .i64 (minI x8 (IntKind.wrap .i64 ((gd x6 d35).1 + (gd x6 d35).2.2)))) (QV.assign rfl) rfl rfl rfl ?_
          refine JL.nil ?_
          refine QJ.block_normal ?_
          exact QJ.cut_normal ((((d32 ++ y54) ++ [(y61.1, (IntKind.wrap .i64 ((IntKind.wrap .i64 ((gd x6 d35).2.1 + (maxI d34 (gd x6 d35).1))) - (gd x6 d35).1)), y61.2.1, y61.2.2)]), (minI x8 (IntKind.wrap .i64 ((gd x6 d35).1 + (gd x6 d35).2.2)))), (z66, ((z33 ++ z57) ++ [((), (), (), z63)]))) hm [4, 5, 6, 7] (by exact ⟨rfl, rfl, rfl, rfl, rfl, rfl, rfl, rfl, rfl, trivial⟩) rfl rfl
    ·
      refine JC.condF' rfl (decide_eq_false h45) ?_
      refine JC.exit ?_
      refine QJ.then_exit ?_
      obtain rfl := Option.some.inj hm
      refine QJ.round_exit (fun hy => ?_)
      subst hy
      refine QJ.block_hit ?_
      exact QJ.cut_normal ((d32, d34), (z31, z33)) hmo43 [1, 2] (by exact ⟨rfl, rfl, rfl, rfl, rfl, trivial⟩) rfl rfl

/-! ### 35: drogher/delta.Plans -/
noncomputable def F35_1.j1  (d21 : List (List (Int × Int × Int × (List Int)))) : Option (List (List (Int × Int × Int × (List Int))) × Int) :=
  some (d21, (0 : Int))
noncomputable def F35_1.j2 (d28 : Int) (d41 : List (Int × Int × Int)) (d43 : List (List (Int × Int × Int × (List Int)))) : Option ((List (Int × Int × Int) × List (List (Int × Int × Int × (List Int))) × Int) ⊕ (List (List (Int × Int × Int × (List Int))))) :=
  some (.inl (d41, d43, (IntKind.wrap .i64 (d28 + (1 : Int)))))
noncomputable def F35_1.j3 (x2 : List Int) (x4 : List Int) (x5 : Int) (d26 : List (List (Int × Int × Int × (List Int)))) (d28 : Int) (d46 : List (Int × Int × Int)) : Option ((List (Int × Int × Int) × List (List (Int × Int × Int × (List Int))) × Int) ⊕ (List (List (Int × Int × Int × (List Int))))) :=
  ((F59.m (x2) (x4) (d46) ((IntKind.wrap .i64 (d28 * x5))) ((minI ((x4).length : Int) (IntKind.wrap .i64 ((IntKind.wrap .i64 (d28 * x5)) + x5))))).bind fun y47 => (if ((d26).length + ([y47]).length) * 24 ≤ 140737488355328 ∧ (d26).length + ([y47]).length ≤ 9223372036854775807 then F35_1.j2 d28 (d46) ((d26 ++ [y47])) else none))
noncomputable def F35_1.b2 (x5 : Int) (d28 : Int) : (List (Int × Int × Int)) → Option ((List (Int × Int × Int)) ⊕ (List (Int × Int × Int)))
  | d55 => (if (0 : Int) < ((d55).length : Int) then (if 0 ≤ (0 : Int) ∧ (0 : Int) < ((d55).length : Int) then (if (IntKind.wrap .i64 ((gd d55 (0 : Int)).1 + (gd d55 (0 : Int)).2.2)) ≤ (IntKind.wrap .i64 (d28 * x5)) then (if 0 ≤ (1 : Int) ∧ (1 : Int) ≤ ((d55).length : Int) ∧ ((d55).length : Int) ≤ ((d55).length : Int) then some (.inl (subL d55 (1 : Int) ((d55).length : Int))) else none) else some (.inr d55)) else none) else some (.inr d55))
noncomputable def F35_1.b1 (x2 : List Int) (x4 : List Int) (x5 : Int) (y18 : Int) : (List (Int × Int × Int) × List (List (Int × Int × Int × (List Int))) × Int) → Option ((List (Int × Int × Int) × List (List (Int × Int × Int × (List Int))) × Int) ⊕ (List (List (Int × Int × Int × (List Int)))))
  | (d24, d26, d28) => (if d28 < y18 then ((loop (F35_1.b2 x5 d28) d24).bind fun y => match y with | d46 => F35_1.j3 x2 x4 x5 d26 d28 (d46)) else some (.inr d26))
noncomputable def F35_1.m (x2 : List Int) (x4 : List Int) (x5 : Int) : Option (List (List (Int × Int × Int × (List Int))) × Int) :=
  ((F58.m (x5)).bind fun y10 => (if y10 = true then (if (2147483647 : Int) < ((x2).length : Int) then some (([] : List (List (Int × Int × Int × (List Int)))), (4 : Int)) else (if (2147483647 : Int) < ((x4).length : Int) then some (([] : List (List (Int × Int × Int × (List Int)))), (4 : Int)) else ((F28.m (x2) (x4)).bind fun y15 => ((F39.m (((x4).length : Int)) (x5)).bind fun y18 => ((loop (F35_1.b1 x2 x4 x5 y18) (y15, ([] : List (List (Int × Int × Int × (List Int)))), (0 : Int))).bind fun y => match y with | d21 => F35_1.j1 (d21)))))) else some (([] : List (List (Int × Int × Int × (List Int)))), (1 : Int))))
set_option maxRecDepth 100000 in
set_option maxHeartbeats 4000000 in
theorem F35_1.spec (s1 : SlV) (s3 : SlV) (x2 : List Int) (x4 : List Int) (x5 : Int) (r : (List (List (Int × Int × Int × (List Int))) × Int)) (hm : F35_1.m x2 x4 x5 = some r) :
    Ctr Try.prog true 35 [s1.v, s3.v, .int .i64 x5] [Asr.vw (Enc.int .u8) (s1.v) x2, Asr.vw (Enc.int .u8) (s3.v) x4] (fun v L' => ∃ (g6 : SlV), ∃ (g8 : List (SlV × List (Unit × Unit × Unit × SlV))), v = .tuple #[g6.v, .int .i64 r.2] ∧ L' = [Asr.onv 22 (NE.nest (NE.pair (NE.flat (Enc.int .u8)) (NE.pair (NE.flat (Enc.int .i64)) (NE.pair (NE.flat (Enc.int .i64)) (NE.sl (Enc.int .u8)))))) (g6.v) g8 r.1]) := by
  refine Ctr.intro (n := 74) (env := [(0, s1.v), (1, s3.v), (2, .int .i64 x5)]) Try.func35 rfl rfl rfl rfl (fun c => ?_)
  unfold F35_1.m at hm
  refine JC.seq ?_
  refine JC.region ?_
  refine JL.ent (fun _ hs => hs.nilV 22 (NE.nest (NE.pair (NE.flat (Enc.int .u8)) (NE.pair (NE.flat (Enc.int .i64)) (NE.pair (NE.flat (Enc.int .i64)) (NE.sl (Enc.int .u8))))))) ?_
  refine JL.val (v := SlV.nil.v) (QV.assign rfl) rfl rfl rfl ?_
  refine JL.val (v := .int .i64 (0 : Int)) (QV.assign rfl) rfl rfl rfl ?_
  refine JL.nil ?_
  refine QJ.then_normal ?_
  refine JC.seq ?_
  refine JC.block ?_
  refine JC.seq ?_
  refine JC.region ?_
  refine JL.val (v := .int .i64 x5) (QV.move rfl) rfl rfl rfl ?_
  obtain ⟨y10, hc11, hm⟩ := bind_inv hm
  refine JL.mv (d := some 15) (MV.call (Lo := []) (Lr := [Asr.onv 22 (NE.nest (NE.pair (NE.flat (Enc.int .u8)) (NE.pair (NE.flat (Enc.int .i64)) (NE.pair (NE.flat (Enc.int .i64)) (NE.sl (Enc.int .u8)))))) (SlV.nil.v) ([] : List (SlV × List (Unit × Unit × Unit × SlV))) ([] : List (List (Int × Int × Int × (List Int)))), Asr.vw (Enc.int .u8) (s1.v) x2, Asr.vw (Enc.int .u8) (s3.v) x4]) (F58.spec (x5) _ hc11) rfl Try.func58 rfl rfl rfl [] [0, 1, 2] rfl rfl rfl trivial) rfl rfl rfl ?_
  rintro _ _ ⟨_, ⟨rfl, rfl⟩, rfl⟩
  refine JL.val (v := .bool (!y10)) (QV.not rfl) rfl rfl rfl ?_
  refine JL.val (v := .bool (!y10)) (QV.assign rfl) rfl rfl rfl ?_
  refine JL.nil ?_
  refine QJ.then_normal ?_
  rcases ite_inv hm with ⟨h12, hm⟩ | ⟨h12, hm⟩
  ·
    refine JC.condF' rfl (congrArg Bool.not h12) ?_
    refine JC.seq ?_
    refine JC.region ?_
    refine JL.val (v := s1.v) (QV.move rfl) rfl rfl rfl ?_
    refine JL.val (v := .int .i64 ((x2).length : Int)) (QV.len (Rdg.vw 1 rfl) Try.underlying23 rfl) rfl rfl rfl ?_
    refine JL.val (v := .bool (decide ((2147483647 : Int) < ((x2).length : Int)))) (QV.gtr rfl rfl) rfl rfl rfl ?_
    rcases ite_inv hm with ⟨h13, hm⟩ | ⟨h13, hm⟩
    ·
      refine JL.val (v := .bool true) (QV.eq (QV.move rfl) (congrArg Value.bool (decide_eq_true h13))) rfl rfl rfl ?_
      refine JL.skip (d := some 22) rfl rfl rfl ?_
      refine JL.skip (d := some 23) rfl rfl rfl ?_
      refine JL.skip (d := some 24) rfl rfl rfl ?_
      refine JL.val (v := .bool true) (QV.pickT rfl rfl) rfl rfl rfl ?_
      refine JL.val (v := .bool true) (QV.assign rfl) rfl rfl rfl ?_
      refine JL.nil ?_
      refine QJ.then_normal ?_
      refine JC.condT rfl ?_
      refine JC.seq ?_
      refine JC.region ?_
      refine JL.ent (fun _ hs => hs.nilV 22 (NE.nest (NE.pair (NE.flat (Enc.int .u8)) (NE.pair (NE.flat (Enc.int .i64)) (NE.pair (NE.flat (Enc.int .i64)) (NE.sl (Enc.int .u8))))))) ?_
      refine JL.val (v := SlV.nil.v) (QV.assign rfl) rfl rfl rfl ?_
      refine JL.val (v := .int .i64 (4 : Int)) (QV.assign rfl) rfl rfl rfl ?_
      refine JL.nil ?_
      refine QJ.then_normal ?_
      refine JC.ret ?_
      refine QJ.block_ret ?_
      refine QJ.then_ret ?_
      obtain rfl := Option.some.inj hm
      exact QJ.body (vs := [SlV.nil.v, .int .i64 (4 : Int)]) (.inl rfl) rfl (ResVs.cons (ResV.tmp rfl) (ResVs.cons (ResV.tmp rfl) ResVs.nil)) [0] rfl rfl (.inl rfl) ⟨(SlV.nil), (([] : List (SlV × List (Unit × Unit × Unit × SlV)))), rfl, rfl⟩
    ·
      refine JL.val (v := .bool false) (QV.eq (QV.move rfl) (congrArg Value.bool (decide_eq_false h13))) rfl rfl rfl ?_
      refine JL.val (v := s3.v) (QV.move rfl) rfl rfl rfl ?_
      refine JL.val (v := .int .i64 ((x4).length : Int)) (QV.len (Rdg.vw 2 rfl) Try.underlying23 rfl) rfl rfl rfl ?_
      refine JL.val (v := .bool (decide ((2147483647 : Int) < ((x4).length : Int)))) (QV.gtr rfl rfl) rfl rfl rfl ?_
      refine JL.val (v := .bool (decide ((2147483647 : Int) < ((x4).length : Int)))) (QV.pickF rfl rfl) rfl rfl rfl ?_
      refine JL.val (v := .bool (decide ((2147483647 : Int) < ((x4).length : Int)))) (QV.assign rfl) rfl rfl rfl ?_
      refine JL.nil ?_
      refine QJ.then_normal ?_
      rcases ite_inv hm with ⟨h14, hm⟩ | ⟨h14, hm⟩
      ·
        refine JC.condT' rfl (decide_eq_true h14) ?_
        refine JC.seq ?_
        refine JC.region ?_
        refine JL.ent (fun _ hs => hs.nilV 22 (NE.nest (NE.pair (NE.flat (Enc.int .u8)) (NE.pair (NE.flat (Enc.int .i64)) (NE.pair (NE.flat (Enc.int .i64)) (NE.sl (Enc.int .u8))))))) ?_
        refine JL.val (v := SlV.nil.v) (QV.assign rfl) rfl rfl rfl ?_
        refine JL.val (v := .int .i64 (4 : Int)) (QV.assign rfl) rfl rfl rfl ?_
        refine JL.nil ?_
        refine QJ.then_normal ?_
        refine JC.ret ?_
        refine QJ.block_ret ?_
        refine QJ.then_ret ?_
        obtain rfl := Option.some.inj hm
        exact QJ.body (vs := [SlV.nil.v, .int .i64 (4 : Int)]) (.inl rfl) rfl (ResVs.cons (ResV.tmp rfl) (ResVs.cons (ResV.tmp rfl) ResVs.nil)) [0] rfl rfl (.inl rfl) ⟨(SlV.nil), (([] : List (SlV × List (Unit × Unit × Unit × SlV)))), rfl, rfl⟩
      ·
        refine JC.condF' rfl (decide_eq_false h14) ?_
        refine JC.skip ?_
        refine QJ.block_normal ?_
        refine QJ.then_normal ?_
        refine JC.seq ?_
        refine JC.region ?_
        refine JL.val (v := s1.v) (QV.move rfl) rfl rfl rfl ?_
        refine JL.val (v := s3.v) (QV.move rfl) rfl rfl rfl ?_
        obtain ⟨y15, hc16, hm⟩ := bind_inv hm
        refine JL.mv (d := some 28) (MV.call (Lo := []) (Lr := [Asr.onv 22 (NE.nest (NE.pair (NE.flat (Enc.int .u8)) (NE.pair (NE.flat (Enc.int .i64)) (NE.pair (NE.flat (Enc.int .i64)) (NE.sl (Enc.int .u8)))))) (SlV.nil.v) ([] : List (SlV × List (Unit × Unit × Unit × SlV))) ([] : List (List (Int × Int × Int × (List Int)))), Asr.vw (Enc.int .u8) (s1.v) x2, Asr.vw (Enc.int .u8) (s3.v) x4]) (F28.spec (s1) (s3) (x2) (x4) _ hc16) rfl Try.func28 rfl rfl rfl [] [0, 1, 2] rfl rfl rfl ⟨(Drv.vw 1 rfl), ⟨(Drv.vw 2 rfl), trivial⟩⟩) rfl rfl rfl ?_
        rintro _ _ ⟨_, ⟨z17, rfl, rfl⟩, rfl⟩
        refine JL.val (v := z17.v) (QV.assign rfl) rfl rfl rfl ?_
        refine JL.nil ?_
        refine QJ.then_normal ?_
        refine JC.seq ?_
        refine JC.region ?_
        refine JL.ent (fun _ hs => hs.nilV 22 (NE.nest (NE.pair (NE.flat (Enc.int .u8)) (NE.pair (NE.flat (Enc.int .i64)) (NE.pair (NE.flat (Enc.int .i64)) (NE.sl (Enc.int .u8))))))) ?_
        refine JL.val (v := SlV.nil.v) (QV.assign rfl) rfl rfl rfl ?_
        refine JL.nil ?_
        refine QJ.then_normal ?_
        refine JC.seq ?_
        refine JC.seq ?_
        refine JC.region ?_
        refine JL.val (v := s3.v) (QV.move rfl) rfl rfl rfl ?_
        refine JL.val (v := .int .i64 ((x4).length : Int)) (QV.len (Rdg.vw 4 rfl) Try.underlying23 rfl) rfl rfl rfl ?_
        refine JL.val (v := .int .i64 x5) (QV.move rfl) rfl rfl rfl ?_
        obtain ⟨y18, hc19, hm⟩ := bind_inv hm
        refine JL.mv (d := some 32) (MV.call (Lo := []) (Lr := [Asr.onv 22 (NE.nest (NE.pair (NE.flat (Enc.int .u8)) (NE.pair (NE.flat (Enc.int .i64)) (NE.pair (NE.flat (Enc.int .i64)) (NE.sl (Enc.int .u8)))))) (SlV.nil.v) ([] : List (SlV × List (Unit × Unit × Unit × SlV))) ([] : List (List (Int × Int × Int × (List Int)))), Asr.of 52 (Enc.pair (Enc.int .i64) (Enc.pair (Enc.int .i64) (Enc.int .i64))) (z17.v) y15, Asr.onv 22 (NE.nest (NE.pair (NE.flat (Enc.int .u8)) (NE.pair (NE.flat (Enc.int .i64)) (NE.pair (NE.flat (Enc.int .i64)) (NE.sl (Enc.int .u8)))))) (SlV.nil.v) ([] : List (SlV × List (Unit × Unit × Unit × SlV))) ([] : List (List (Int × Int × Int × (List Int)))), Asr.vw (Enc.int .u8) (s1.v) x2, Asr.vw (Enc.int .u8) (s3.v) x4]) (F39.spec (((x4).length : Int)) (x5) _ hc19) rfl Try.func39 rfl rfl rfl [] [0, 1, 2, 3, 4] rfl rfl rfl trivial) rfl rfl rfl ?_
        rintro _ _ ⟨_, ⟨rfl, rfl⟩, rfl⟩
        refine JL.val (v := .int .i64 (0 : Int)) (QV.move rfl) rfl rfl rfl ?_
        refine JL.nil ?_
        refine QJ.then_normal ?_
        refine JC.cutK (Y := (List (List (Int × Int × Int × (List Int)))) × (SlV × List (SlV × List (Unit × Unit × Unit × SlV)))) (fun y => match y with | (d21, _) => F35_1.j1 (d21) = some r) (fun y => match y with | (d21, (z20, z22)) => [(9, z20.v)]) (fun y => match y with | (d21, (z20, z22)) => [Asr.onv 22 (NE.nest (NE.pair (NE.flat (Enc.int .u8)) (NE.pair (NE.flat (Enc.int .i64)) (NE.pair (NE.flat (Enc.int .i64)) (NE.sl (Enc.int .u8)))))) (z20.v) z22 d21]) ?_ ?_
        ·
          rintro ⟨d21, ⟨z20, z22⟩⟩ hm
          unfold F35_1.j1 at hm
          show QJ _ _ [(9, z20.v)] [Asr.onv 22 (NE.nest (NE.pair (NE.flat (Enc.int .u8)) (NE.pair (NE.flat (Enc.int .i64)) (NE.pair (NE.flat (Enc.int .i64)) (NE.sl (Enc.int .u8)))))) (z20.v) z22 d21] _ _
          refine QJ.then_normal ?_
          refine JC.seq ?_
          refine JC.region ?_
          refine JL.val (v := z20.v) (QV.move rfl) rfl rfl rfl ?_
          refine JL.val (v := z20.v) (QV.assign rfl) rfl rfl rfl ?_
          refine JL.val (v := .int .i64 (0 : Int)) (QV.assign rfl) rfl rfl rfl ?_
          refine JL.nil ?_
          refine QJ.then_normal ?_
          refine JC.ret ?_
          obtain rfl := Option.some.inj hm
          exact QJ.body (vs := [z20.v, .int .i64 (0 : Int)]) (.inl rfl) rfl (ResVs.cons (ResV.tmp rfl) (ResVs.cons (ResV.tmp rfl) ResVs.nil)) [0] rfl rfl (.inl rfl) ⟨z20, z22, rfl, rfl⟩
        ·
          refine JC.block ?_
          refine JC.ent (fun _ hs => hs.share 1 rfl) ?_
          obtain ⟨y35, hl36, hmo37⟩ := bind_inv hm
          refine JC.loop (F35_1.b1 x2 x4 x5 y18) (fun x z => match x, z with | (d24, d26, d28), (z23, z25, z27) => [(0, s1.v), (1, s3.v), (2, .int .i64 x5), (8, z23.v), (9, z25.v), (32, .int .i64 y18), (33, .int .i64 d28)]) (fun x z => match x, z with | (d24, d26, d28), (z23, z25, z27) => [Asr.vw (Enc.int .u8) (s1.v) x2, Asr.vw (Enc.int .u8) (s3.v) x4, Asr.vw (Enc.pair (Enc.int .i64) (Enc.pair (Enc.int .i64) (Enc.int .i64))) (z23.v) d24, Asr.onv 22 (NE.nest (NE.pair (NE.flat (Enc.int .u8)) (NE.pair (NE.flat (Enc.int .i64)) (NE.pair (NE.flat (Enc.int .i64)) (NE.sl (Enc.int .u8)))))) (z25.v) z27 d26]) (y15, ([] : List (List (Int × Int × Int × (List Int)))), (0 : Int)) (z17, SlV.nil, ([] : List (SlV × List (Unit × Unit × Unit × SlV)))) y35 hl36 [3, 4, 1, 0] (by exact ⟨rfl, rfl, rfl, rfl, rfl, rfl, rfl, trivial⟩) rfl rfl ?_
          rintro ⟨d24, d26, d28⟩ ⟨z23, z25, z27⟩ s38 hm
          unfold F35_1.b1 at hm
          dsimp only at hm
          show JC _ _ _ [(0, s1.v), (1, s3.v), (2, .int .i64 x5), (8, z23.v), (9, z25.v), (32, .int .i64 y18), (33, .int .i64 d28)] [Asr.vw (Enc.int .u8) (s1.v) x2, Asr.vw (Enc.int .u8) (s3.v) x4, Asr.vw (Enc.pair (Enc.int .i64) (Enc.pair (Enc.int .i64) (Enc.int .i64))) (z23.v) d24, Asr.onv 22 (NE.nest (NE.pair (NE.flat (Enc.int .u8)) (NE.pair (NE.flat (Enc.int .i64)) (NE.pair (NE.flat (Enc.int .i64)) (NE.sl (Enc.int .u8)))))) (z25.v) z27 d26] _ _
          refine JC.seq ?_
          refine JC.region ?_
          refine JL.val (v := .bool (decide (d28 < y18))) (QV.lss rfl rfl) rfl rfl rfl ?_
          refine JL.nil ?_
          refine QJ.then_normal ?_
          refine JC.seq ?_
          rcases ite_inv hm with ⟨h39, hm⟩ | ⟨h39, hm⟩
          ·
            refine JC.condT' rfl (decide_eq_true h39) ?_
            refine JC.skip ?_
            refine QJ.then_normal ?_
            refine JC.seq ?_
            refine JC.cutK (Y := (List (Int × Int × Int) × List (List (Int × Int × Int × (List Int)))) × (SlV × SlV × List (SlV × List (Unit × Unit × Unit × SlV)))) (fun y => match y with | ((d41, d43), _) => F35_1.j2 d28 (d41) (d43) = some s38) (fun y => match y with | ((d41, d43), (z40, z42, z44)) => [(0, s1.v), (1, s3.v), (2, .int .i64 x5), (8, z40.v), (9, z42.v), (32, .int .i64 y18), (33, .int .i64 d28)]) (fun y => match y with | ((d41, d43), (z40, z42, z44)) => [Asr.vw (Enc.int .u8) (s1.v) x2, Asr.vw (Enc.int .u8) (s3.v) x4, Asr.vw (Enc.pair (Enc.int .i64) (Enc.pair (Enc.int .i64) (Enc.int .i64))) (z40.v) d41, Asr.onv 22 (NE.nest (NE.pair (NE.flat (Enc.int .u8)) (NE.pair (NE.flat (Enc.int .i64)) (NE.pair (NE.flat (Enc.int .i64)) (NE.sl (Enc.int .u8)))))) (z42.v) z44 d43]) ?_ ?_
            ·
              rintro ⟨⟨d41, d43⟩, ⟨z40, z42, z44⟩⟩ hm
              unfold F35_1.j2 at hm
              show QJ _ _ [(0, s1.v), (1, s3.v), (2, .int .i64 x5), (8, z40.v), (9, z42.v), (32, .int .i64 y18), (33, .int .i64 d28)] [Asr.vw (Enc.int .u8) (s1.v) x2, Asr.vw (Enc.int .u8) (s3.v) x4, Asr.vw (Enc.pair (Enc.int .i64) (Enc.pair (Enc.int .i64) (Enc.int .i64))) (z40.v) d41, Asr.onv 22 (NE.nest (NE.pair (NE.flat (Enc.int .u8)) (NE.pair (NE.flat (Enc.int .i64)) (NE.pair (NE.flat (Enc.int .i64)) (NE.sl (Enc.int .u8)))))) (z42.v) z44 d43] _ _
              refine QJ.then_normal ?_
              refine JC.region ?_
              refine JL.val (v := .int .i64 (IntKind.wrap .i64 (d28 + (1 : Int)))) (QV.add rfl rfl) rfl rfl rfl ?_
              refine JL.val (v := .int .i64 (IntKind.wrap .i64 (d28 + (1 : Int)))) (QV.move rfl) rfl rfl rfl ?_
              refine JL.nil ?_
              obtain rfl := Option.some.inj hm
              exact QJ.round_on (d41, d43, (IntKind.wrap .i64 (d28 + (1 : Int)))) (z40, z42, z44) [0, 1, 2, 3] (by exact ⟨rfl, rfl, rfl, rfl, rfl, rfl, rfl, trivial⟩) rfl rfl
            ·
              refine JC.block ?_
              refine JC.seq ?_
              refine JC.region ?_
              refine JL.val (v := .int .i64 d28) (QV.move rfl) rfl rfl rfl ?_
              refine JL.val (v := .int .i64 d28) (QV.assign rfl) rfl rfl rfl ?_
              refine JL.nil ?_
              refine QJ.then_normal ?_
              refine JC.seq ?_
              refine JC.region ?_
              refine JL.val (v := .int .i64 d28) (QV.move rfl) rfl rfl rfl ?_
              refine JL.val (v := .int .i64 x5) (QV.move rfl) rfl rfl rfl ?_
              refine JL.val (v := .int .i64 (IntKind.wrap .i64 (d28 * x5))) (QV.mul rfl rfl) rfl rfl rfl ?_
              refine JL.val (v := .int .i64 (IntKind.wrap .i64 (d28 * x5))) (QV.assign rfl) rfl rfl rfl ?_
              refine JL.nil ?_
              refine QJ.then_normal ?_
              refine JC.seq ?_
              refine JC.region ?_
              refine JL.val (v := s3.v) (QV.move rfl) rfl rfl rfl ?_
              refine JL.val (v := .int .i64 ((x4).length : Int)) (QV.len (Rdg.vw 1 rfl) Try.underlying23 rfl) rfl rfl rfl ?_
              refine JL.val (v := .int .i64 (IntKind.wrap .i64 (d28 * x5))) (QV.move rfl) rfl rfl rfl ?_
              refine JL.val (v := .int .i64 x5) (QV.move rfl) rfl rfl rfl ?_
              refine JL.val (v := .int .i64 (IntKind.wrap .i64 ((IntKind.wrap .i64 (d28 * x5)) + x5))) (QV.add rfl rfl) rfl rfl rfl ?_
              refine JL.val (v := .int .i64 (minI ((x4).length : Int) (IntKind.wrap .i64 ((IntKind.wrap .i64 (d28 * x5)) + x5)))) (QV.min2 rfl rfl) rfl rfl rfl ?_
              refine JL.val (v := .int .i64 (minI ((x4).length : Int) (IntKind.wrap .i64 ((IntKind.wrap .i64 (d28 * x5)) + x5)))) (QV.assign rfl) rfl rfl rfl ?_
              refine JL.nil ?_
              refine QJ.then_normal ?_
              refine JC.seq ?_
              refine JC.cutK (Y := (List (Int × Int × Int)) × SlV) (fun y => match y with | (d46, _) => F35_1.j3 x2 x4 x5 d26 d28 (d46) = some s38) (fun y => match y with | (d46, z45) => [(0, s1.v), (1, s3.v), (2, .int .i64 x5), (8, z45.v), (9, z25.v), (11, .int .i64 (IntKind.wrap .i64 (d28 * x5))), (12, .int .i64 (minI ((x4).length : Int) (IntKind.wrap .i64 ((IntKind.wrap .i64 (d28 * x5)) + x5)))), (32, .int .i64 y18), (33, .int .i64 d28)]) (fun y => match y with | (d46, z45) => [Asr.vw (Enc.int .u8) (s1.v) x2, Asr.vw (Enc.int .u8) (s3.v) x4, Asr.vw (Enc.pair (Enc.int .i64) (Enc.pair (Enc.int .i64) (Enc.int .i64))) (z45.v) d46, Asr.onv 22 (NE.nest (NE.pair (NE.flat (Enc.int .u8)) (NE.pair (NE.flat (Enc.int .i64)) (NE.pair (NE.flat (Enc.int .i64)) (NE.sl (Enc.int .u8)))))) (z25.v) z27 d26]) ?_ ?_
              ·
                rintro ⟨d46, z45⟩ hm
                unfold F35_1.j3 at hm
                show QJ _ _ [(0, s1.v), (1, s3.v), (2, .int .i64 x5), (8, z45.v), (9, z25.v), (11, .int .i64 (IntKind.wrap .i64 (d28 * x5))), (12, .int .i64 (minI ((x4).length : Int) (IntKind.wrap .i64 ((IntKind.wrap .i64 (d28 * x5)) + x5)))), (32, .int .i64 y18), (33, .int .i64 d28)] [Asr.vw (Enc.int .u8) (s1.v) x2, Asr.vw (Enc.int .u8) (s3.v) x4, Asr.vw (Enc.pair (Enc.int .i64) (Enc.pair (Enc.int .i64) (Enc.int .i64))) (z45.v) d46, Asr.onv 22 (NE.nest (NE.pair (NE.flat (Enc.int .u8)) (NE.pair (NE.flat (Enc.int .i64)) (NE.pair (NE.flat (Enc.int .i64)) (NE.sl (Enc.int .u8)))))) (z25.v) z27 d26] _ _
                refine QJ.then_normal ?_
                refine JC.region ?_
                refine JL.val (v := z25.v) (QV.move rfl) rfl rfl rfl ?_
                refine JL.val (v := s1.v) (QV.move rfl) rfl rfl rfl ?_
                refine JL.val (v := s3.v) (QV.move rfl) rfl rfl rfl ?_
                refine JL.val (v := z45.v) (QV.move rfl) rfl rfl rfl ?_
                refine JL.val (v := .int .i64 (IntKind.wrap .i64 (d28 * x5))) (QV.move rfl) rfl rfl rfl ?_
                refine JL.val (v := .int .i64 (minI ((x4).length : Int) (IntKind.wrap .i64 ((IntKind.wrap .i64 (d28 * x5)) + x5)))) (QV.move rfl) rfl rfl rfl ?_
                obtain ⟨y47, hc48, hm⟩ := bind_inv hm
                refine JL.mv (d := some 69) (MV.call (Lo := []) (Lr := [Asr.vw (Enc.int .u8) (s1.v) x2, Asr.vw (Enc.int .u8) (s3.v) x4, Asr.vw (Enc.pair (Enc.int .i64) (Enc.pair (Enc.int .i64) (Enc.int .i64))) (z45.v) d46, Asr.onv 22 (NE.nest (NE.pair (NE.flat (Enc.int .u8)) (NE.pair (NE.flat (Enc.int .i64)) (NE.pair (NE.flat (Enc.int .i64)) (NE.sl (Enc.int .u8)))))) (z25.v) z27 d26]) (F59.spec (s1) (s3) (z45) (x2) (x4) (d46) ((IntKind.wrap .i64 (d28 * x5))) ((minI ((x4).length : Int) (IntKind.wrap .i64 ((IntKind.wrap .i64 (d28 * x5)) + x5)))) _ hc48) rfl Try.func59 rfl rfl rfl [] [0, 1, 2, 3] rfl rfl rfl ⟨(Drv.vw 0 rfl), ⟨(Drv.vw 1 rfl), ⟨(Drv.vw 2 rfl), trivial⟩⟩⟩) rfl rfl rfl ?_
                rintro _ _ ⟨_, ⟨z49, z50, rfl, rfl⟩, rfl⟩
                refine JL.ent (fun _ hs => hs.shareV 0 rfl) ?_
                refine JL.mv (d := some 70) (MV.litV (K := (NE.nest (NE.pair (NE.flat (Enc.int .u8)) (NE.pair (NE.flat (Enc.int .i64)) (NE.pair (NE.flat (Enc.int .i64)) (NE.sl (Enc.int .u8))))))) (vals := [(0, z49.v)]) [(z49, z50)] [y47] Try.underlying57 zi_22 ⟨fun w F G hst => (ok_vw (Drv.vn 0 rfl) w F G hst), trivial⟩ rfl (by decide) rfl (by kernel_rfl)) rfl rfl rfl ?_
                rintro _ _ ⟨z51, rfl, rfl⟩
                obtain ⟨h52, hm⟩ := guard_inv hm
                refine JL.mv (d := some 71) (MV.appendV 5 rfl (OkG.onv 0 rfl) (RdN.onv 0 rfl) Try.underlying57 zi_22 rfl (by decide) rfl rfl h52) rfl rfl rfl ?_
                rintro _ _ ⟨z53, rfl, rfl⟩
                refine JL.val (v := z53.v) (QV.assign rfl) rfl rfl rfl ?_
                refine JL.nil ?_
                refine QJ.block_normal ?_
                exact QJ.cut_normal ((d46, (d26 ++ [y47])), (z45, z53, (z27 ++ [(z49, z50)]))) hm [2, 3, 4, 5] (by exact ⟨rfl, rfl, rfl, rfl, rfl, rfl, rfl, trivial⟩) rfl rfl
              ·
                refine JC.block ?_
                obtain ⟨y58, hl59, hmo60⟩ := bind_inv hm
                refine JC.loop (F35_1.b2 x5 d28) (fun x z => match x, z with | d55, z54 => [(0, s1.v), (1, s3.v), (2, .int .i64 x5), (8, z54.v), (9, z25.v), (11, .int .i64 (IntKind.wrap .i64 (d28 * x5))), (12, .int .i64 (minI ((x4).length : Int) (IntKind.wrap .i64 ((IntKind.wrap .i64 (d28 * x5)) + x5)))), (32, .int .i64 y18), (33, .int .i64 d28)]) (fun x z => match x, z with | d55, z54 => [Asr.vw (Enc.int .u8) (s1.v) x2, Asr.vw (Enc.int .u8) (s3.v) x4, Asr.vw (Enc.pair (Enc.int .i64) (Enc.pair (Enc.int .i64) (Enc.int .i64))) (z54.v) d55, Asr.onv 22 (NE.nest (NE.pair (NE.flat (Enc.int .u8)) (NE.pair (NE.flat (Enc.int .i64)) (NE.pair (NE.flat (Enc.int .i64)) (NE.sl (Enc.int .u8)))))) (z25.v) z27 d26]) d24 z23 y58 hl59 [0, 1, 2, 3] (by exact ⟨rfl, rfl, rfl, rfl, rfl, rfl, rfl, rfl, rfl, trivial⟩) rfl rfl ?_
                rintro d55 z54 s61 hm
                unfold F35_1.b2 at hm
                dsimp only at hm
                show JC _ _ _ [(0, s1.v), (1, s3.v), (2, .int .i64 x5), (8, z54.v), (9, z25.v), (11, .int .i64 (IntKind.wrap .i64 (d28 * x5))), (12, .int .i64 (minI ((x4).length : Int) (IntKind.wrap .i64 ((IntKind.wrap .i64 (d28 * x5)) + x5)))), (32, .int .i64 y18), (33, .int .i64 d28)] [Asr.vw (Enc.int .u8) (s1.v) x2, Asr.vw (Enc.int .u8) (s3.v) x4, Asr.vw (Enc.pair (Enc.int .i64) (Enc.pair (Enc.int .i64) (Enc.int .i64))) (z54.v) d55, Asr.onv 22 (NE.nest (NE.pair (NE.flat (Enc.int .u8)) (NE.pair (NE.flat (Enc.int .i64)) (NE.pair (NE.flat (Enc.int .i64)) (NE.sl (Enc.int .u8)))))) (z25.v) z27 d26] _ _
                refine JC.seq ?_
                refine JC.seq ?_
                refine JC.regionT [Asr.vw (Enc.int .u8) (s1.v) x2, Asr.vw (Enc.int .u8) (s3.v) x4, Asr.vw (Enc.pair (Enc.int .i64) (Enc.pair (Enc.int .i64) (Enc.int .i64))) (z54.v) d55, Asr.onv 22 (NE.nest (NE.pair (NE.flat (Enc.int .u8)) (NE.pair (NE.flat (Enc.int .i64)) (NE.pair (NE.flat (Enc.int .i64)) (NE.sl (Enc.int .u8)))))) (z25.v) z27 d26] (fun t => false) [(0, false), (1, false), (2, false), (3, false), (4, true), (5, true), (6, true), (7, true), (8, true), (9, true), (10, true), (11, true), (12, true), (13, false), (14, false), (15, false)] (by kernel_rfl) (by kernel_rfl) (by kernel_rfl) rfl (fun hsel => ?_)
                refine JT.only (i := 0) (d := some 45) rfl (MV.ofQV (v := z54.v) (QV.move rfl)) rfl rfl rfl ?_
                rintro _ _ ⟨rfl, rfl⟩
                refine ⟨fun _ => ⟨[0, 1, 2, 3], rfl, rfl⟩, ?_⟩
                refine JT.only (i := 1) (d := some 46) rfl (MV.ofQV (v := .int .i64 ((d55).length : Int)) (QV.len (Rdg.vw 2 rfl) Try.underlying47 rfl)) rfl rfl rfl ?_
                rintro _ _ ⟨rfl, rfl⟩
                refine ⟨fun _ => ⟨[0, 1, 2, 3], rfl, rfl⟩, ?_⟩
                refine JT.only (i := 2) (d := some 47) rfl (MV.ofQV (v := .bool (decide ((0 : Int) < ((d55).length : Int)))) (QV.gtr rfl rfl)) rfl rfl rfl ?_
                rintro _ _ ⟨rfl, rfl⟩
                refine ⟨fun _ => ⟨[0, 1, 2, 3], rfl, rfl⟩, ?_⟩
                rcases ite_inv hm with ⟨h62, hm⟩ | ⟨h62, hm⟩
                ·
                  refine JT.only (i := 3) (d := some 48) rfl (MV.ofQV (v := .bool true) (QV.eq (QV.move rfl) (congrArg Value.bool (decide_eq_true h62)))) rfl rfl rfl ?_
                  rintro _ _ ⟨rfl, rfl⟩
                  refine ⟨fun _ => ⟨[0, 1, 2, 3], rfl, rfl⟩, ?_⟩
                  refine JT.take (i := 4) (v := z54.v) hsel rfl (QV.move rfl) rfl rfl rfl [0, 1, 2, 3] rfl rfl ?_
                  obtain ⟨h63, hm⟩ := guard_inv hm
                  refine JT.take (i := 5) (v := .pointer (some (elA (z54.v) (Int.toNat (0 : Int) * ((Enc.pair (Enc.int .i64) (Enc.pair (Enc.int .i64) (Enc.int .i64)))).sz)))) hsel rfl (QV.indexA (Rdg.vw 2 rfl) Try.underlying47 tk_52 rfl rfl h63) rfl rfl rfl [0, 1, 2, 3] rfl rfl ?_
                  refine JT.take (i := 6) (v := .pointer (some ((elA (z54.v) (Int.toNat (0 : Int) * ((Enc.pair (Enc.int .i64) (Enc.pair (Enc.int .i64) (Enc.int .i64)))).sz)).add 0))) hsel rfl (QV.fieldA fo_52_0 rfl) rfl rfl rfl [0, 1, 2, 3] rfl rfl ?_
                  refine JT.take (i := 7) (v := .int .i64 (gd d55 (0 : Int)).1) hsel rfl (QV.elF (Rdg.vw 2 rfl) tk_3 rfl h63 rfl) rfl rfl rfl [0, 1, 2, 3] rfl rfl ?_
                  refine JT.take (i := 8) (v := z54.v) hsel rfl (QV.move rfl) rfl rfl rfl [0, 1, 2, 3] rfl rfl ?_
                  refine JT.take (i := 9) (v := .pointer (some (elA (z54.v) (Int.toNat (0 : Int) * ((Enc.pair (Enc.int .i64) (Enc.pair (Enc.int .i64) (Enc.int .i64)))).sz)))) hsel rfl (QV.indexA (Rdg.vw 2 rfl) Try.underlying47 tk_52 rfl rfl h63) rfl rfl rfl [0, 1, 2, 3] rfl rfl ?_
                  refine JT.take (i := 10) (v := .pointer (some ((elA (z54.v) (Int.toNat (0 : Int) * ((Enc.pair (Enc.int .i64) (Enc.pair (Enc.int .i64) (Enc.int .i64)))).sz)).add 2))) hsel rfl (QV.fieldA fo_52_2 rfl) rfl rfl rfl [0, 1, 2, 3] rfl rfl ?_
                  refine JT.take (i := 11) (v := .int .i64 (gd d55 (0 : Int)).2.2) hsel rfl (QV.elF (Rdg.vw 2 rfl) tk_3 rfl h63 rfl) rfl rfl rfl [0, 1, 2, 3] rfl rfl ?_
                  refine JT.take (i := 12) (v := .int .i64 (IntKind.wrap .i64 ((gd d55 (0 : Int)).1 + (gd d55 (0 : Int)).2.2))) hsel rfl (QV.add rfl rfl) rfl rfl rfl [0, 1, 2, 3] rfl rfl ?_
                  refine JT.only (i := 13) (d := some 58) rfl (MV.ofQV (v := .int .i64 (IntKind.wrap .i64 (d28 * x5))) (QV.move rfl)) rfl rfl rfl ?_
                  rintro _ _ ⟨rfl, rfl⟩
                  refine ⟨fun _ => ⟨[0, 1, 2, 3], rfl, rfl⟩, ?_⟩
                  refine JT.only (i := 14) (d := some 59) rfl (MV.ofQV (v := .bool (decide ((IntKind.wrap .i64 ((gd d55 (0 : Int)).1 + (gd d55 (0 : Int)).2.2)) ≤ (IntKind.wrap .i64 (d28 * x5))))) (QV.leq rfl rfl)) rfl rfl rfl ?_
                  rintro _ _ ⟨rfl, rfl⟩
                  refine ⟨fun _ => ⟨[0, 1, 2, 3], rfl, rfl⟩, ?_⟩
                  refine JT.only (i := 15) (d := some 60) rfl (MV.ofQV (v := .bool (decide ((IntKind.wrap .i64 ((gd d55 (0 : Int)).1 + (gd d55 (0 : Int)).2.2)) ≤ (IntKind.wrap .i64 (d28 * x5))))) (QV.pickT rfl rfl)) rfl rfl rfl ?_
                  rintro _ _ ⟨rfl, rfl⟩
                  refine ⟨fun _ => ⟨[0, 1, 2, 3], rfl, rfl⟩, ?_⟩
                  refine JT.nil ?_
                  refine QJ.then_normal ?_
                  rcases ite_inv hm with ⟨h64, hm⟩ | ⟨h64, hm⟩
                  ·
                    refine JC.condT' rfl (decide_eq_true h64) ?_
                    refine JC.skip ?_
                    refine QJ.then_normal ?_
                    refine JC.block ?_
                    refine JC.region ?_
                    refine JL.val (v := z54.v) (QV.move rfl) rfl rfl rfl ?_
                    obtain ⟨h65, hm⟩ := guard_inv hm
                    refine JL.val (v := (SlV.sub ((Enc.pair (Enc.int .i64) (Enc.pair (Enc.int .i64) (Enc.int .i64)))).sz z54 (1 : Int) ((d55).length : Int)).v) (QV.sliceV (Rdg.vw 2 rfl) Try.underlying47 tk_52 rfl rfl rfl h65) rfl rfl rfl ?_
                    refine JL.val (v := (SlV.sub ((Enc.pair (Enc.int .i64) (Enc.pair (Enc.int .i64) (Enc.int .i64)))).sz z54 (1 : Int) ((d55).length : Int)).v) (QV.assign rfl) rfl rfl rfl ?_
                    refine JL.nil ?_
                    refine QJ.ent (fun _ hs => hs.derive ((Drv.vw 2 rfl).subV h65)) ?_
                    refine QJ.block_normal ?_
                    obtain rfl := Option.some.inj hm
                    exact QJ.round_on (subL d55 (1 : Int) ((d55).length : Int)) (SlV.sub ((Enc.pair (Enc.int .i64) (Enc.pair (Enc.int .i64) (Enc.int .i64)))).sz z54 (1 : Int) ((d55).length : Int)) [1, 2, 0, 4] (by exact ⟨rfl, rfl, rfl, rfl, rfl, rfl, rfl, rfl, rfl, trivial⟩) rfl rfl
                  ·
                    refine JC.condF' rfl (decide_eq_false h64) ?_
                    refine JC.exit ?_
                    refine QJ.then_exit ?_
                    obtain rfl := Option.some.inj hm
                    refine QJ.round_exit (fun hy => ?_)
                    subst hy
                    refine QJ.block_hit ?_
                    exact QJ.cut_normal (d55, z54) hmo60 [0, 1, 2, 3] (by exact ⟨rfl, rfl, rfl, rfl, rfl, rfl, rfl, rfl, rfl, trivial⟩) rfl rfl
                ·
                  refine JT.only (i := 3) (d := some 48) rfl (MV.ofQV (v := .bool false) (QV.eq (QV.move rfl) (congrArg Value.bool (decide_eq_false h62)))) rfl rfl rfl ?_
                  rintro _ _ ⟨rfl, rfl⟩
                  refine ⟨fun _ => ⟨[0, 1, 2, 3], rfl, rfl⟩, ?_⟩
                  refine JT.skip (i := 4) (d := some 49) hsel rfl rfl rfl rfl [0, 1, 2, 3] rfl rfl ?_
                  refine JT.skip (i := 5) (d := some 50) hsel rfl rfl rfl rfl [0, 1, 2, 3] rfl rfl ?_
                  refine JT.skip (i := 6) (d := some 51) hsel rfl rfl rfl rfl [0, 1, 2, 3] rfl rfl ?_
                  refine JT.skip (i := 7) (d := some 52) hsel rfl rfl rfl rfl [0, 1, 2, 3] rfl rfl ?_
                  refine JT.skip (i := 8) (d := some 53) hsel rfl rfl rfl rfl [0, 1, 2, 3] rfl rfl ?_
                  refine JT.skip (i := 9) (d := some 54) hsel rfl rfl rfl rfl [0, 1, 2, 3] rfl rfl ?_
                  refine JT.skip (i := 10) (d := some 55) hsel rfl rfl rfl rfl [0, 1, 2, 3] rfl rfl ?_
                  refine JT.skip (i := 11) (d := some 56) hsel rfl rfl rfl rfl [0, 1, 2, 3] rfl rfl ?_
                  refine JT.skip (i := 12) (d := some 57) hsel rfl rfl rfl rfl [0, 1, 2, 3] rfl rfl ?_
                  refine JT.skipO (i := 13) (d := some 58) rfl rfl rfl rfl [0, 1, 2, 3] rfl rfl ?_
                  refine JT.skipO (i := 14) (d := some 59) rfl rfl rfl rfl [0, 1, 2, 3] rfl rfl ?_
                  refine JT.only (i := 15) (d := some 60) rfl (MV.ofQV (v := .bool false) (QV.pickF rfl rfl)) rfl rfl rfl ?_
                  rintro _ _ ⟨rfl, rfl⟩
                  refine ⟨fun _ => ⟨[0, 1, 2, 3], rfl, rfl⟩, ?_⟩
                  refine JT.nil ?_
                  refine QJ.then_normal ?_
                  refine JC.condF rfl ?_
                  refine JC.exit ?_
                  refine QJ.then_exit ?_
                  obtain rfl := Option.some.inj hm
                  refine QJ.round_exit (fun hy => ?_)
                  subst hy
                  refine QJ.block_hit ?_
                  exact QJ.cut_normal (d55, z54) hmo60 [0, 1, 2, 3] (by exact ⟨rfl, rfl, rfl, rfl, rfl, rfl, rfl, rfl, rfl, trivial⟩) rfl rfl
          ·
            refine JC.condF' rfl (decide_eq_false h39) ?_
            refine JC.exit ?_
            refine QJ.then_exit ?_
            obtain rfl := Option.some.inj hm
            refine QJ.round_exit (fun hy => ?_)
            subst hy
            refine QJ.block_hit ?_
            exact QJ.cut_normal (d26, (z25, z27)) hmo37 [3] (by exact ⟨rfl, trivial⟩) rfl rfl
  ·
    refine JC.condT' rfl (congrArg Bool.not (bfalse h12)) ?_
    refine JC.seq ?_
    refine JC.region ?_
    refine JL.ent (fun _ hs => hs.nilV 22 (NE.nest (NE.pair (NE.flat (Enc.int .u8)) (NE.pair (NE.flat (Enc.int .i64)) (NE.pair (NE.flat (Enc.int .i64)) (NE.sl (Enc.int .u8))))))) ?_
    refine JL.val (v := SlV.nil.v) (QV.assign rfl) rfl rfl rfl ?_
    refine JL.val (v := .int .i64 (1 : Int)) (QV.assign rfl) rfl rfl rfl ?_
    refine JL.nil ?_
    refine QJ.then_normal ?_
    refine JC.ret ?_
    refine QJ.block_ret ?_
    refine QJ.then_ret ?_
    obtain rfl := Option.some.inj hm
    exact QJ.body (vs := [SlV.nil.v, .int .i64 (1 : Int)]) (.inl rfl) rfl (ResVs.cons (ResV.tmp rfl) (ResVs.cons (ResV.tmp rfl) ResVs.nil)) [0] rfl rfl (.inl rfl) ⟨(SlV.nil), (([] : List (SlV × List (Unit × Unit × Unit × SlV)))), rfl, rfl⟩

/-! ### 34: drogher/drogherlaw17.awake -/
noncomputable def F34.m  : Option Bool :=
  ((F35_1.m (([] : List Int)) ([(97 : Int)]) ((128 : Int))).bind fun y3 => ((F39.m ((300 : Int)) ((128 : Int))).bind fun y7 => (if y7 = (3 : Int) then (if y3.2 = (0 : Int) then some (decide (((y3.1).length : Int) = (1 : Int))) else some false) else some false)))
set_option maxRecDepth 100000 in
set_option maxHeartbeats 4000000 in
theorem F34.spec  (r : Bool) (hm : F34.m  = some r) :
    Ctr Try.prog false 34 [] [] (fun v L' => v = .bool r ∧ L' = []) := by
  refine Ctr.intro (n := 20) (env := []) Try.func34 rfl rfl rfl rfl (fun c => ?_)
  unfold F34.m at hm
  refine JC.seq ?_
  refine JC.region ?_
  refine JL.val (v := .bool false) (QV.assign rfl) rfl rfl rfl ?_
  refine JL.nil ?_
  refine QJ.then_normal ?_
  refine JC.seq ?_
  refine JC.region ?_
  refine JL.mv (d := some 4) (MV.lit (E := (Enc.int .u8)) (vals := [(0, .int .u8 (97 : Int))]) [(97 : Int)] Try.underlying23 zi_5 rfl (by decide) rfl (by kernel_rfl)) rfl rfl rfl ?_
  rintro _ _ ⟨z2, rfl, rfl⟩
  refine JL.mv (d := some 5) (MV.mark 0 rfl Try.underlying23 Try.underlying5 (by decide) rfl) rfl rfl rfl ?_
  rintro _ _ ⟨rfl, rfl⟩
  refine JL.ent (fun _ hs => hs.nil 5 (Enc.int .u8)) ?_
  refine JL.ent (fun _ hs => hs.share 0 rfl) ?_
  obtain ⟨y3, hc4, hm⟩ := bind_inv hm
  refine JL.mv (d := some 6) (MV.call (Lo := []) (Lr := [Asr.vw (Enc.int .u8) (SlV.nil.v) ([] : List Int), Asr.vw (Enc.int .u8) (z2.v) [(97 : Int)]]) (F35_1.spec (SlV.nil) (z2) (([] : List Int)) ([(97 : Int)]) ((128 : Int)) _ hc4) rfl Try.func35 rfl rfl rfl [] [0, 1] rfl rfl rfl ⟨(Drv.vw 0 rfl), ⟨(Drv.vw 1 rfl), trivial⟩⟩) rfl rfl rfl ?_
  rintro _ _ ⟨_, ⟨z5, z6, rfl, rfl⟩, rfl⟩
  refine JL.val (v := .tuple #[z5.v, .int .i64 y3.2]) (QV.move rfl) rfl rfl rfl ?_
  refine JL.val (v := z5.v) (QV.extract (vs := [z5.v, .int .i64 y3.2]) rfl rfl) rfl rfl rfl ?_
  refine JL.val (v := .int .i64 y3.2) (QV.extract (vs := [z5.v, .int .i64 y3.2]) rfl rfl) rfl rfl rfl ?_
  refine JL.val (v := z5.v) (QV.assign rfl) rfl rfl rfl ?_
  refine JL.val (v := .int .i64 y3.2) (QV.assign rfl) rfl rfl rfl ?_
  refine JL.nil ?_
  refine QJ.then_normal ?_
  refine JC.seq ?_
  refine JC.region ?_
  obtain ⟨y7, hc8, hm⟩ := bind_inv hm
  refine JL.mv (d := some 9) (MV.call (Lo := []) (Lr := [Asr.onv 22 (NE.nest (NE.pair (NE.flat (Enc.int .u8)) (NE.pair (NE.flat (Enc.int .i64)) (NE.pair (NE.flat (Enc.int .i64)) (NE.sl (Enc.int .u8)))))) (z5.v) z6 y3.1, Asr.vw (Enc.int .u8) (SlV.nil.v) ([] : List Int), Asr.vw (Enc.int .u8) (z2.v) [(97 : Int)]]) (F39.spec ((300 : Int)) ((128 : Int)) _ hc8) rfl Try.func39 rfl rfl rfl [] [0, 1, 2] rfl rfl rfl trivial) rfl rfl rfl ?_
  rintro _ _ ⟨_, ⟨rfl, rfl⟩, rfl⟩
  refine JL.val (v := .bool (decide (y7 = (3 : Int)))) (QV.eql rfl rfl) rfl rfl rfl ?_
  rcases ite_inv hm with ⟨h9, hm⟩ | ⟨h9, hm⟩
  ·
    refine JL.val (v := .bool true) (QV.eq (QV.move rfl) (congrArg Value.bool (decide_eq_true h9))) rfl rfl rfl ?_
    refine JL.val (v := .int .i64 y3.2) (QV.move rfl) rfl rfl rfl ?_
    refine JL.val (v := .bool (decide (y3.2 = (0 : Int)))) (QV.eql rfl rfl) rfl rfl rfl ?_
    refine JL.val (v := .bool (decide (y3.2 = (0 : Int)))) (QV.pickT rfl rfl) rfl rfl rfl ?_
    rcases ite_inv hm with ⟨h10, hm⟩ | ⟨h10, hm⟩
    ·
      refine JL.val (v := .bool true) (QV.eq (QV.move rfl) (congrArg Value.bool (decide_eq_true h10))) rfl rfl rfl ?_
      refine JL.val (v := z5.v) (QV.move rfl) rfl rfl rfl ?_
      refine JL.val (v := .int .i64 ((y3.1).length : Int)) (QV.lenN (RdN.onv 0 rfl) Try.underlying57 rfl) rfl rfl rfl ?_
      refine JL.val (v := .bool (decide (((y3.1).length : Int) = (1 : Int)))) (QV.eql rfl rfl) rfl rfl rfl ?_
      refine JL.val (v := .bool (decide (((y3.1).length : Int) = (1 : Int)))) (QV.pickT rfl rfl) rfl rfl rfl ?_
      refine JL.val (v := .bool (decide (((y3.1).length : Int) = (1 : Int)))) (QV.assign rfl) rfl rfl rfl ?_
      refine JL.nil ?_
      refine QJ.then_normal ?_
      refine JC.ret ?_
      obtain rfl := Option.some.inj hm
      exact QJ.body (vs := [.bool (decide (((y3.1).length : Int) = (1 : Int)))]) (.inl rfl) rfl (ResVs.cons (ResV.tmp rfl) ResVs.nil) [] rfl rfl (.inr trivial) ⟨rfl, rfl⟩
    ·
      refine JL.val (v := .bool false) (QV.eq (QV.move rfl) (congrArg Value.bool (decide_eq_false h10))) rfl rfl rfl ?_
      refine JL.skip (d := some 16) rfl rfl rfl ?_
      refine JL.skip (d := some 17) rfl rfl rfl ?_
      refine JL.skip (d := some 18) rfl rfl rfl ?_
      refine JL.val (v := .bool false) (QV.pickF rfl rfl) rfl rfl rfl ?_
      refine JL.val (v := .bool false) (QV.assign rfl) rfl rfl rfl ?_
      refine JL.nil ?_
      refine QJ.then_normal ?_
      refine JC.ret ?_
      obtain rfl := Option.some.inj hm
      exact QJ.body (vs := [.bool false]) (.inl rfl) rfl (ResVs.cons (ResV.tmp rfl) ResVs.nil) [] rfl rfl (.inr trivial) ⟨rfl, rfl⟩
  ·
    refine JL.val (v := .bool false) (QV.eq (QV.move rfl) (congrArg Value.bool (decide_eq_false h9))) rfl rfl rfl ?_
    refine JL.skip (d := some 12) rfl rfl rfl ?_
    refine JL.skip (d := some 13) rfl rfl rfl ?_
    refine JL.val (v := .bool false) (QV.pickF rfl rfl) rfl rfl rfl ?_
    refine JL.val (v := .bool false) (QV.move rfl) rfl rfl rfl ?_
    refine JL.skip (d := some 16) rfl rfl rfl ?_
    refine JL.skip (d := some 17) rfl rfl rfl ?_
    refine JL.skip (d := some 18) rfl rfl rfl ?_
    refine JL.val (v := .bool false) (QV.pickF rfl rfl) rfl rfl rfl ?_
    refine JL.val (v := .bool false) (QV.assign rfl) rfl rfl rfl ?_
    refine JL.nil ?_
    refine QJ.then_normal ?_
    refine JC.ret ?_
    obtain rfl := Option.some.inj hm
    exact QJ.body (vs := [.bool false]) (.inl rfl) rfl (ResVs.cons (ResV.tmp rfl) ResVs.nil) [] rfl rfl (.inr trivial) ⟨rfl, rfl⟩

/-! ### 36: drogher/drogherref17.Blocks -/
noncomputable def F36.j1  (d7 : Int) : Option Int :=
  some d7
noncomputable def F36.m (x1 : Int) (x2 : Int) : Option Int :=
  (if x1 < (1 : Int) then some (0 : Int) else (if x2 < (1 : Int) then some (0 : Int) else (if x2 ≠ 0 then (if (0 : Int) < (Int.tmod x1 x2) then F36.j1 ((IntKind.wrap .i64 ((IntKind.wrap .i64 (Int.tdiv x1 x2)) + (1 : Int)))) else F36.j1 ((IntKind.wrap .i64 (Int.tdiv x1 x2)))) else none)))
set_option maxRecDepth 100000 in
set_option maxHeartbeats 4000000 in
theorem F36.spec (x1 : Int) (x2 : Int) (r : Int) (hm : F36.m x1 x2 = some r) :
    Ctr Try.prog false 36 [.int .i64 x1, .int .i64 x2] [] (fun v L' => v = .int .i64 r ∧ L' = []) := by
  refine Ctr.intro (n := 22) (env := [(0, .int .i64 x1), (1, .int .i64 x2)]) Try.func36 rfl rfl rfl rfl (fun c => ?_)
  unfold F36.m at hm
  refine JC.seq ?_
  refine JC.region ?_
  refine JL.val (v := .int .i64 (0 : Int)) (QV.assign rfl) rfl rfl rfl ?_
  refine JL.nil ?_
  refine QJ.then_normal ?_
  refine JC.seq ?_
  refine JC.seq ?_
  refine JC.region ?_
  refine JL.val (v := .int .i64 x1) (QV.move rfl) rfl rfl rfl ?_
  refine JL.val (v := .bool (decide (x1 < (1 : Int)))) (QV.lss rfl rfl) rfl rfl rfl ?_
  rcases ite_inv hm with ⟨h4, hm⟩ | ⟨h4, hm⟩
  ·
    refine JL.val (v := .bool true) (QV.eq (QV.move rfl) (congrArg Value.bool (decide_eq_true h4))) rfl rfl rfl ?_
    refine JL.skip (d := some 9) rfl rfl rfl ?_
    refine JL.skip (d := some 10) rfl rfl rfl ?_
    refine JL.val (v := .bool true) (QV.pickT rfl rfl) rfl rfl rfl ?_
    refine JL.nil ?_
    refine QJ.then_normal ?_
    refine JC.condT rfl ?_
    refine JC.seq ?_
    refine JC.region ?_
    refine JL.val (v := .int .i64 (0 : Int)) (QV.assign rfl) rfl rfl rfl ?_
    refine JL.nil ?_
    refine QJ.then_normal ?_
    refine JC.ret ?_
    refine QJ.then_ret ?_
    obtain rfl := Option.some.inj hm
    exact QJ.body (vs := [.int .i64 (0 : Int)]) (.inl rfl) rfl (ResVs.cons (ResV.tmp rfl) ResVs.nil) [] rfl rfl (.inr trivial) ⟨rfl, rfl⟩
  ·
    refine JL.val (v := .bool false) (QV.eq (QV.move rfl) (congrArg Value.bool (decide_eq_false h4))) rfl rfl rfl ?_
    refine JL.val (v := .int .i64 x2) (QV.move rfl) rfl rfl rfl ?_
    refine JL.val (v := .bool (decide (x2 < (1 : Int)))) (QV.lss rfl rfl) rfl rfl rfl ?_
    refine JL.val (v := .bool (decide (x2 < (1 : Int)))) (QV.pickF rfl rfl) rfl rfl rfl ?_
    refine JL.nil ?_
    refine QJ.then_normal ?_
    rcases ite_inv hm with ⟨h5, hm⟩ | ⟨h5, hm⟩
    ·
      refine JC.condT' rfl (decide_eq_true h5) ?_
      refine JC.seq ?_
      refine JC.region ?_
      refine JL.val (v := .int .i64 (0 : Int)) (QV.assign rfl) rfl rfl rfl ?_
      refine JL.nil ?_
      refine QJ.then_normal ?_
      refine JC.ret ?_
      refine QJ.then_ret ?_
      obtain rfl := Option.some.inj hm
      exact QJ.body (vs := [.int .i64 (0 : Int)]) (.inl rfl) rfl (ResVs.cons (ResV.tmp rfl) ResVs.nil) [] rfl rfl (.inr trivial) ⟨rfl, rfl⟩
    ·
      refine JC.condF' rfl (decide_eq_false h5) ?_
      refine JC.skip ?_
      refine QJ.then_normal ?_
      refine JC.seq ?_
      refine JC.region ?_
      refine JL.val (v := .int .i64 x1) (QV.move rfl) rfl rfl rfl ?_
      refine JL.val (v := .int .i64 x2) (QV.move rfl) rfl rfl rfl ?_
      obtain ⟨h6, hm⟩ := guard_inv hm
      refine JL.val (v := .int .i64 (IntKind.wrap .i64 (Int.tdiv x1 x2))) (QV.quo rfl rfl h6) rfl rfl rfl ?_
      refine JL.val (v := .int .i64 (IntKind.wrap .i64 (Int.tdiv x1 x2))) (QV.assign rfl) rfl rfl rfl ?_
      refine JL.nil ?_
      refine QJ.then_normal ?_
      refine JC.seq ?_
      refine JC.seq ?_
      refine JC.region ?_
      refine JL.val (v := .int .i64 x1) (QV.move rfl) rfl rfl rfl ?_
      refine JL.val (v := .int .i64 x2) (QV.move rfl) rfl rfl rfl ?_
      refine JL.val (v := .int .i64 (Int.tmod x1 x2)) (QV.rem rfl rfl h6) rfl rfl rfl ?_
      refine JL.val (v := .bool (decide ((0 : Int) < (Int.tmod x1 x2)))) (QV.gtr rfl rfl) rfl rfl rfl ?_
      refine JL.nil ?_
      refine QJ.then_normal ?_
      refine JC.cutK (Y := Int × Unit) (fun y => match y with | (d7, _) => F36.j1 (d7) = some r) (fun y => match y with | (d7, _) => [(5, .int .i64 d7)]) (fun y => match y with | (d7, _) => []) ?_ ?_
      ·
        rintro ⟨d7, ⟨⟩⟩ hm
        unfold F36.j1 at hm
        show QJ _ _ [(5, .int .i64 d7)] [] _ _
        refine QJ.then_normal ?_
        refine JC.seq ?_
        refine JC.region ?_
        refine JL.val (v := .int .i64 d7) (QV.move rfl) rfl rfl rfl ?_
        refine JL.val (v := .int .i64 d7) (QV.assign rfl) rfl rfl rfl ?_
        refine JL.nil ?_
        refine QJ.then_normal ?_
        refine JC.ret ?_
        obtain rfl := Option.some.inj hm
        exact QJ.body (vs := [.int .i64 d7]) (.inl rfl) rfl (ResVs.cons (ResV.tmp rfl) ResVs.nil) [] rfl rfl (.inr trivial) ⟨rfl, rfl⟩
      ·
        rcases ite_inv hm with ⟨h8, hm⟩ | ⟨h8, hm⟩
        ·
          refine JC.condT' rfl (decide_eq_true h8) ?_
          refine JC.region ?_
          refine JL.val (v := .int .i64 (IntKind.wrap .i64 (Int.tdiv x1 x2))) (QV.move rfl) rfl rfl rfl ?_
          refine JL.val (v := .int .i64 (IntKind.wrap .i64 ((IntKind.wrap .i64 (Int.tdiv x1 x2)) + (1 : Int)))) (QV.add rfl rfl) rfl rfl rfl ?_
          refine JL.val (v := .int .i64 (IntKind.wrap .i64 ((IntKind.wrap .i64 (Int.tdiv x1 x2)) + (1 : Int)))) (QV.assign rfl) rfl rfl rfl ?_
          refine JL.nil ?_
          exact QJ.cut_normal ((IntKind.wrap .i64 ((IntKind.wrap .i64 (Int.tdiv x1 x2)) + (1 : Int))), ()) hm [] (by exact ⟨rfl, trivial⟩) rfl rfl
        ·
          refine JC.condF' rfl (decide_eq_false h8) ?_
          refine JC.skip ?_
          exact QJ.cut_normal ((IntKind.wrap .i64 (Int.tdiv x1 x2)), ()) hm [] (by exact ⟨rfl, trivial⟩) rfl rfl

/-! ### 37: drogher/drogherref17.Block -/
noncomputable def F37.j1 (x2 : List Int) (x3 : Int) (x4 : Int) (d13 : Int) : Option (List Int) :=
  (if 0 ≤ (IntKind.wrap .i64 (x4 * x3)) ∧ (IntKind.wrap .i64 (x4 * x3)) ≤ d13 ∧ d13 ≤ ((x2).length : Int) then some (subL x2 (IntKind.wrap .i64 (x4 * x3)) d13) else none)
noncomputable def F37.m (x2 : List Int) (x3 : Int) (x4 : Int) : Option (List Int) :=
  (if x4 < (0 : Int) then some ([] : List Int) else ((F36.m (((x2).length : Int)) (x3)).bind fun y9 => (if y9 ≤ x4 then some ([] : List Int) else (if x3 < (IntKind.wrap .i64 (((x2).length : Int) - (IntKind.wrap .i64 (x4 * x3)))) then F37.j1 x2 x3 x4 ((IntKind.wrap .i64 ((IntKind.wrap .i64 (x4 + (1 : Int))) * x3))) else F37.j1 x2 x3 x4 (((x2).length : Int))))))
set_option maxRecDepth 100000 in
set_option maxHeartbeats 4000000 in
theorem F37.spec (s1 : SlV) (x2 : List Int) (x3 : Int) (x4 : Int) (r : (List Int)) (hm : F37.m x2 x3 x4 = some r) :
    Ctr Try.prog true 37 [s1.v, .int .i64 x3, .int .i64 x4] [Asr.vw (Enc.int .u8) (s1.v) x2] (fun v L' => ∃ (g5 : SlV), v = g5.v ∧ L' = [Asr.vw (Enc.int .u8) (g5.v) r]) := by
  refine Ctr.intro (n := 38) (env := [(0, s1.v), (1, .int .i64 x3), (2, .int .i64 x4)]) Try.func37 rfl rfl rfl rfl (fun c => ?_)
  unfold F37.m at hm
  refine JC.seq ?_
  refine JC.region ?_
  refine JL.ent (fun _ hs => hs.nil 5 (Enc.int .u8)) ?_
  refine JL.val (v := SlV.nil.v) (QV.assign rfl) rfl rfl rfl ?_
  refine JL.nil ?_
  refine QJ.then_normal ?_
  refine JC.seq ?_
  refine JC.seq ?_
  refine JC.region ?_
  refine JL.val (v := .int .i64 x4) (QV.move rfl) rfl rfl rfl ?_
  refine JL.val (v := .bool (decide (x4 < (0 : Int)))) (QV.lss rfl rfl) rfl rfl rfl ?_
  rcases ite_inv hm with ⟨h7, hm⟩ | ⟨h7, hm⟩
  ·
    refine JL.val (v := .bool true) (QV.eq (QV.move rfl) (congrArg Value.bool (decide_eq_true h7))) rfl rfl rfl ?_
    refine JL.skip (d := some 11) rfl rfl rfl ?_
    refine JL.skip (d := some 12) rfl rfl rfl ?_
    refine JL.skip (d := some 13) rfl rfl rfl ?_
    refine JL.skip (d := some 14) rfl rfl rfl ?_
    refine JL.skip (d := some 15) rfl rfl rfl ?_
    refine JL.skip (d := some 16) rfl rfl rfl ?_
    refine JL.val (v := .bool true) (QV.pickT rfl rfl) rfl rfl rfl ?_
    refine JL.nil ?_
    refine QJ.then_normal ?_
    refine JC.condT rfl ?_
    refine JC.seq ?_
    refine JC.region ?_
    refine JL.mv (d := some 18) (MV.lit0 (Enc.int .u8) Try.underlying23 (by kernel_rfl)) rfl rfl rfl ?_
    rintro _ _ ⟨z8, rfl, rfl⟩
    refine JL.val (v := z8.v) (QV.assign rfl) rfl rfl rfl ?_
    refine JL.nil ?_
    refine QJ.then_normal ?_
    refine JC.ret ?_
    refine QJ.then_ret ?_
    obtain rfl := Option.some.inj hm
    refine QJ.ent (fun _ hs => hs.share 0 rfl) ?_
    exact QJ.body (vs := [z8.v]) (.inl rfl) rfl (ResVs.cons (ResV.tmp rfl) ResVs.nil) [0] rfl rfl (.inl rfl) ⟨z8, rfl, rfl⟩
  ·
    refine JL.val (v := .bool false) (QV.eq (QV.move rfl) (congrArg Value.bool (decide_eq_false h7))) rfl rfl rfl ?_
    refine JL.val (v := .int .i64 x4) (QV.move rfl) rfl rfl rfl ?_
    refine JL.val (v := s1.v) (QV.move rfl) rfl rfl rfl ?_
    refine JL.val (v := .int .i64 ((x2).length : Int)) (QV.len (Rdg.vw 1 rfl) Try.underlying23 rfl) rfl rfl rfl ?_
    refine JL.val (v := .int .i64 x3) (QV.move rfl) rfl rfl rfl ?_
    obtain ⟨y9, hc10, hm⟩ := bind_inv hm
    refine JL.mv (d := some 15) (MV.call (Lo := []) (Lr := [Asr.of 5 (Enc.int .u8) (SlV.nil.v) ([] : List Int), Asr.vw (Enc.int .u8) (s1.v) x2]) (F36.spec (((x2).length : Int)) (x3) _ hc10) rfl Try.func36 rfl rfl rfl [] [0, 1] rfl rfl rfl trivial) rfl rfl rfl ?_
    rintro _ _ ⟨_, ⟨rfl, rfl⟩, rfl⟩
    refine JL.val (v := .bool (decide (y9 ≤ x4))) (QV.geq rfl rfl) rfl rfl rfl ?_
    refine JL.val (v := .bool (decide (y9 ≤ x4))) (QV.pickF rfl rfl) rfl rfl rfl ?_
    refine JL.nil ?_
    refine QJ.then_normal ?_
    rcases ite_inv hm with ⟨h11, hm⟩ | ⟨h11, hm⟩
    ·
      refine JC.condT' rfl (decide_eq_true h11) ?_
      refine JC.seq ?_
      refine JC.region ?_
      refine JL.mv (d := some 18) (MV.lit0 (Enc.int .u8) Try.underlying23 (by kernel_rfl)) rfl rfl rfl ?_
      rintro _ _ ⟨z12, rfl, rfl⟩
      refine JL.val (v := z12.v) (QV.assign rfl) rfl rfl rfl ?_
      refine JL.nil ?_
      refine QJ.then_normal ?_
      refine JC.ret ?_
      refine QJ.then_ret ?_
      obtain rfl := Option.some.inj hm
      refine QJ.ent (fun _ hs => hs.share 0 rfl) ?_
      exact QJ.body (vs := [z12.v]) (.inl rfl) rfl (ResVs.cons (ResV.tmp rfl) ResVs.nil) [0] rfl rfl (.inl rfl) ⟨z12, rfl, rfl⟩
    ·
      refine JC.condF' rfl (decide_eq_false h11) ?_
      refine JC.skip ?_
      refine QJ.then_normal ?_
      refine JC.seq ?_
      refine JC.region ?_
      refine JL.val (v := s1.v) (QV.move rfl) rfl rfl rfl ?_
      refine JL.val (v := .int .i64 ((x2).length : Int)) (QV.len (Rdg.vw 1 rfl) Try.underlying23 rfl) rfl rfl rfl ?_
      refine JL.val (v := .int .i64 ((x2).length : Int)) (QV.assign rfl) rfl rfl rfl ?_
      refine JL.nil ?_
      refine QJ.then_normal ?_
      refine JC.seq ?_
      refine JC.seq ?_
      refine JC.region ?_
      refine JL.val (v := .int .i64 ((x2).length : Int)) (QV.move rfl) rfl rfl rfl ?_
      refine JL.val (v := .int .i64 x4) (QV.move rfl) rfl rfl rfl ?_
      refine JL.val (v := .int .i64 x3) (QV.move rfl) rfl rfl rfl ?_
      refine JL.val (v := .int .i64 (IntKind.wrap .i64 (x4 * x3))) (QV.mul rfl rfl) rfl rfl rfl ?_
      refine JL.val (v := .int .i64 (IntKind.wrap .i64 (((x2).length : Int) - (IntKind.wrap .i64 (x4 * x3))))) (QV.sub rfl rfl) rfl rfl rfl ?_
      refine JL.val (v := .int .i64 x3) (QV.move rfl) rfl rfl rfl ?_
      refine JL.val (v := .bool (decide (x3 < (IntKind.wrap .i64 (((x2).length : Int) - (IntKind.wrap .i64 (x4 * x3))))))) (QV.gtr rfl rfl) rfl rfl rfl ?_
      refine JL.nil ?_
      refine QJ.then_normal ?_
      refine JC.cutK (Y := Int × Unit) (fun y => match y with | (d13, _) => F37.j1 x2 x3 x4 (d13) = some r) (fun y => match y with | (d13, _) => [(0, s1.v), (1, .int .i64 x3), (2, .int .i64 x4), (7, .int .i64 d13)]) (fun y => match y with | (d13, _) => [Asr.vw (Enc.int .u8) (s1.v) x2]) ?_ ?_
      ·
        rintro ⟨d13, ⟨⟩⟩ hm
        unfold F37.j1 at hm
        show QJ _ _ [(0, s1.v), (1, .int .i64 x3), (2, .int .i64 x4), (7, .int .i64 d13)] [Asr.vw (Enc.int .u8) (s1.v) x2] _ _
        refine QJ.then_normal ?_
        refine JC.seq ?_
        refine JC.region ?_
        refine JL.val (v := s1.v) (QV.move rfl) rfl rfl rfl ?_
        refine JL.val (v := .int .i64 x4) (QV.move rfl) rfl rfl rfl ?_
        refine JL.val (v := .int .i64 x3) (QV.move rfl) rfl rfl rfl ?_
        refine JL.val (v := .int .i64 (IntKind.wrap .i64 (x4 * x3))) (QV.mul rfl rfl) rfl rfl rfl ?_
        refine JL.val (v := .int .i64 d13) (QV.move rfl) rfl rfl rfl ?_
        obtain ⟨h14, hm⟩ := guard_inv hm
        refine JL.val (v := (SlV.sub ((Enc.int .u8)).sz s1 (IntKind.wrap .i64 (x4 * x3)) d13).v) (QV.sliceV (Rdg.vw 0 rfl) Try.underlying23 tk_5 rfl rfl rfl h14) rfl rfl rfl ?_
        refine JL.val (v := (SlV.sub ((Enc.int .u8)).sz s1 (IntKind.wrap .i64 (x4 * x3)) d13).v) (QV.assign rfl) rfl rfl rfl ?_
        refine JL.nil ?_
        refine QJ.ent (fun _ hs => hs.derive ((Drv.vw 0 rfl).subV h14)) ?_
        refine QJ.then_normal ?_
        refine JC.ret ?_
        obtain rfl := Option.some.inj hm
        exact QJ.body (vs := [(SlV.sub ((Enc.int .u8)).sz s1 (IntKind.wrap .i64 (x4 * x3)) d13).v]) (.inl rfl) rfl (ResVs.cons (ResV.tmp rfl) ResVs.nil) [0] rfl rfl (.inl rfl) ⟨((SlV.sub ((Enc.int .u8)).sz s1 (IntKind.wrap .i64 (x4 * x3)) d13)), rfl, rfl⟩
      ·
        rcases ite_inv hm with ⟨h15, hm⟩ | ⟨h15, hm⟩
        ·
          refine JC.condT' rfl (decide_eq_true h15) ?_
          refine JC.region ?_
          refine JL.val (v := .int .i64 x4) (QV.move rfl) rfl rfl rfl ?_
          refine JL.val (v := .int .i64 (IntKind.wrap .i64 (x4 + (1 : Int)))) (QV.add rfl rfl) rfl rfl rfl ?_
          refine JL.val (v := .int .i64 x3) (QV.move rfl) rfl rfl rfl ?_
          refine JL.val (v := .int .i64 (IntKind.wrap .i64 ((IntKind.wrap .i64 (x4 + (1 : Int))) * x3))) (QV.mul rfl rfl) rfl rfl rfl ?_
          refine JL.val (v := .int .i64 (IntKind.wrap .i64 ((IntKind.wrap .i64 (x4 + (1 : Int))) * x3))) (QV.assign rfl) rfl rfl rfl ?_
          refine JL.nil ?_
          exact QJ.cut_normal ((IntKind.wrap .i64 ((IntKind.wrap .i64 (x4 + (1 : Int))) * x3)), ()) hm [1] (by exact ⟨rfl, rfl, rfl, rfl, trivial⟩) rfl rfl
        ·
          refine JC.condF' rfl (decide_eq_false h15) ?_
          refine JC.skip ?_
          exact QJ.cut_normal (((x2).length : Int), ()) hm [1] (by exact ⟨rfl, rfl, rfl, rfl, trivial⟩) rfl rfl

/-! ### 38: drogher/delta.Block -/
noncomputable def F38.m (x2 : List Int) (x3 : Int) (x4 : Int) : Option (List Int) :=
  (if x4 < (0 : Int) then some ([] : List Int) else ((F39.m (((x2).length : Int)) (x3)).bind fun y8 => (if y8 ≤ x4 then some ([] : List Int) else (if 0 ≤ (IntKind.wrap .i64 (x4 * x3)) ∧ (IntKind.wrap .i64 (x4 * x3)) ≤ ((x2).length : Int) ∧ ((x2).length : Int) ≤ ((x2).length : Int) then (if 0 ≤ (0 : Int) ∧ (0 : Int) ≤ (minI x3 (IntKind.wrap .i64 (((x2).length : Int) - (IntKind.wrap .i64 (x4 * x3))))) ∧ (minI x3 (IntKind.wrap .i64 (((x2).length : Int) - (IntKind.wrap .i64 (x4 * x3))))) ≤ (((subL x2 (IntKind.wrap .i64 (x4 * x3)) ((x2).length : Int))).length : Int) then ((F60.m ((subL (subL x2 (IntKind.wrap .i64 (x4 * x3)) ((x2).length : Int)) (0 : Int) (minI x3 (IntKind.wrap .i64 (((x2).length : Int) - (IntKind.wrap .i64 (x4 * x3)))))))).bind fun y13 => some y13) else none) else none))))
set_option maxRecDepth 100000 in
set_option maxHeartbeats 4000000 in
theorem F38.spec (s1 : SlV) (x2 : List Int) (x3 : Int) (x4 : Int) (r : (List Int)) (hm : F38.m x2 x3 x4 = some r) :
    Ctr Try.prog false 38 [s1.v, .int .i64 x3, .int .i64 x4] [Asr.vw (Enc.int .u8) (s1.v) x2] (fun v L' => ∃ (g5 : SlV), v = g5.v ∧ L' = [Asr.of 5 (Enc.int .u8) (g5.v) r]) := by
  refine Ctr.intro (n := 32) (env := [(0, s1.v), (1, .int .i64 x3), (2, .int .i64 x4)]) Try.func38 rfl rfl rfl rfl (fun c => ?_)
  unfold F38.m at hm
  refine JC.seq ?_
  refine JC.region ?_
  refine JL.ent (fun _ hs => hs.nil 5 (Enc.int .u8)) ?_
  refine JL.val (v := SlV.nil.v) (QV.assign rfl) rfl rfl rfl ?_
  refine JL.nil ?_
  refine QJ.then_normal ?_
  refine JC.seq ?_
  refine JC.seq ?_
  refine JC.region ?_
  refine JL.val (v := .int .i64 x4) (QV.move rfl) rfl rfl rfl ?_
  refine JL.val (v := .bool (decide (x4 < (0 : Int)))) (QV.lss rfl rfl) rfl rfl rfl ?_
  rcases ite_inv hm with ⟨h7, hm⟩ | ⟨h7, hm⟩
  ·
    refine JL.val (v := .bool true) (QV.eq (QV.move rfl) (congrArg Value.bool (decide_eq_true h7))) rfl rfl rfl ?_
    refine JL.skip (d := some 11) rfl rfl rfl ?_
    refine JL.skip (d := some 12) rfl rfl rfl ?_
    refine JL.skip (d := some 13) rfl rfl rfl ?_
    refine JL.skip (d := some 14) rfl rfl rfl ?_
    refine JL.skip (d := some 15) rfl rfl rfl ?_
    refine JL.skip (d := some 16) rfl rfl rfl ?_
    refine JL.val (v := .bool true) (QV.pickT rfl rfl) rfl rfl rfl ?_
    refine JL.nil ?_
    refine QJ.then_normal ?_
    refine JC.condT rfl ?_
    refine JC.seq ?_
    refine JC.region ?_
    refine JL.ent (fun _ hs => hs.nil 5 (Enc.int .u8)) ?_
    refine JL.val (v := SlV.nil.v) (QV.assign rfl) rfl rfl rfl ?_
    refine JL.nil ?_
    refine QJ.then_normal ?_
    refine JC.ret ?_
    refine QJ.then_ret ?_
    obtain rfl := Option.some.inj hm
    exact QJ.body (vs := [SlV.nil.v]) (.inl rfl) rfl (ResVs.cons (ResV.tmp rfl) ResVs.nil) [0] rfl rfl (.inr ⟨own_of _ _ _ _, trivial⟩) ⟨(SlV.nil), rfl, rfl⟩
  ·
    refine JL.val (v := .bool false) (QV.eq (QV.move rfl) (congrArg Value.bool (decide_eq_false h7))) rfl rfl rfl ?_
    refine JL.val (v := .int .i64 x4) (QV.move rfl) rfl rfl rfl ?_
    refine JL.val (v := s1.v) (QV.move rfl) rfl rfl rfl ?_
    refine JL.val (v := .int .i64 ((x2).length : Int)) (QV.len (Rdg.vw 1 rfl) Try.underlying23 rfl) rfl rfl rfl ?_
    refine JL.val (v := .int .i64 x3) (QV.move rfl) rfl rfl rfl ?_
    obtain ⟨y8, hc9, hm⟩ := bind_inv hm
    refine JL.mv (d := some 15) (MV.call (Lo := []) (Lr := [Asr.of 5 (Enc.int .u8) (SlV.nil.v) ([] : List Int), Asr.vw (Enc.int .u8) (s1.v) x2]) (F39.spec (((x2).length : Int)) (x3) _ hc9) rfl Try.func39 rfl rfl rfl [] [0, 1] rfl rfl rfl trivial) rfl rfl rfl ?_
    rintro _ _ ⟨_, ⟨rfl, rfl⟩, rfl⟩
    refine JL.val (v := .bool (decide (y8 ≤ x4))) (QV.geq rfl rfl) rfl rfl rfl ?_
    refine JL.val (v := .bool (decide (y8 ≤ x4))) (QV.pickF rfl rfl) rfl rfl rfl ?_
    refine JL.nil ?_
    refine QJ.then_normal ?_
    rcases ite_inv hm with ⟨h10, hm⟩ | ⟨h10, hm⟩
    ·
      refine JC.condT' rfl (decide_eq_true h10) ?_
      refine JC.seq ?_
      refine JC.region ?_
      refine JL.ent (fun _ hs => hs.nil 5 (Enc.int .u8)) ?_
      refine JL.val (v := SlV.nil.v) (QV.assign rfl) rfl rfl rfl ?_
      refine JL.nil ?_
      refine QJ.then_normal ?_
      refine JC.ret ?_
      refine QJ.then_ret ?_
      obtain rfl := Option.some.inj hm
      exact QJ.body (vs := [SlV.nil.v]) (.inl rfl) rfl (ResVs.cons (ResV.tmp rfl) ResVs.nil) [0] rfl rfl (.inr ⟨own_of _ _ _ _, trivial⟩) ⟨(SlV.nil), rfl, rfl⟩
    ·
      refine JC.condF' rfl (decide_eq_false h10) ?_
      refine JC.skip ?_
      refine QJ.then_normal ?_
      refine JC.seq ?_
      refine JC.region ?_
      refine JL.val (v := .int .i64 x4) (QV.move rfl) rfl rfl rfl ?_
      refine JL.val (v := .int .i64 x3) (QV.move rfl) rfl rfl rfl ?_
      refine JL.val (v := .int .i64 (IntKind.wrap .i64 (x4 * x3))) (QV.mul rfl rfl) rfl rfl rfl ?_
      refine JL.val (v := .int .i64 (IntKind.wrap .i64 (x4 * x3))) (QV.assign rfl) rfl rfl rfl ?_
      refine JL.nil ?_
      refine QJ.then_normal ?_
      refine JC.seq ?_
      refine JC.region ?_
      refine JL.val (v := s1.v) (QV.move rfl) rfl rfl rfl ?_
      refine JL.val (v := .int .i64 (IntKind.wrap .i64 (x4 * x3))) (QV.move rfl) rfl rfl rfl ?_
      obtain ⟨h11, hm⟩ := guard_inv hm
      refine JL.val (v := (SlV.sub ((Enc.int .u8)).sz s1 (IntKind.wrap .i64 (x4 * x3)) ((x2).length : Int)).v) (QV.sliceV (Rdg.vw 1 rfl) Try.underlying23 tk_5 rfl rfl rfl h11) rfl rfl rfl ?_
      refine JL.val (v := .int .i64 x3) (QV.move rfl) rfl rfl rfl ?_
      refine JL.val (v := s1.v) (QV.move rfl) rfl rfl rfl ?_
      refine JL.val (v := .int .i64 ((x2).length : Int)) (QV.len (Rdg.vw 1 rfl) Try.underlying23 rfl) rfl rfl rfl ?_
      refine JL.val (v := .int .i64 (IntKind.wrap .i64 (x4 * x3))) (QV.move rfl) rfl rfl rfl ?_
      refine JL.val (v := .int .i64 (IntKind.wrap .i64 (((x2).length : Int) - (IntKind.wrap .i64 (x4 * x3))))) (QV.sub rfl rfl) rfl rfl rfl ?_
      refine JL.val (v := .int .i64 (minI x3 (IntKind.wrap .i64 (((x2).length : Int) - (IntKind.wrap .i64 (x4 * x3)))))) (QV.min2 rfl rfl) rfl rfl rfl ?_
      obtain ⟨h12, hm⟩ := guard_inv hm
      refine JL.val (v := (SlV.sub ((Enc.int .u8)).sz (SlV.sub ((Enc.int .u8)).sz s1 (IntKind.wrap .i64 (x4 * x3)) ((x2).length : Int)) (0 : Int) (minI x3 (IntKind.wrap .i64 (((x2).length : Int) - (IntKind.wrap .i64 (x4 * x3)))))).v) (QV.sliceV (Rdg.ofDrv ((Drv.vw 1 rfl).subV h11)) Try.underlying23 tk_5 rfl rfl rfl h12) rfl rfl rfl ?_
      obtain ⟨y13, hc14, hm⟩ := bind_inv hm
      refine JL.mv (d := some 31) (MV.call (Lo := []) (Lr := [Asr.of 5 (Enc.int .u8) (SlV.nil.v) ([] : List Int), Asr.vw (Enc.int .u8) (s1.v) x2]) (F60.spec ((SlV.sub ((Enc.int .u8)).sz (SlV.sub ((Enc.int .u8)).sz s1 (IntKind.wrap .i64 (x4 * x3)) ((x2).length : Int)) (0 : Int) (minI x3 (IntKind.wrap .i64 (((x2).length : Int) - (IntKind.wrap .i64 (x4 * x3))))))) ((subL (subL x2 (IntKind.wrap .i64 (x4 * x3)) ((x2).length : Int)) (0 : Int) (minI x3 (IntKind.wrap .i64 (((x2).length : Int) - (IntKind.wrap .i64 (x4 * x3))))))) _ hc14) rfl Try.func60 rfl rfl rfl [] [0, 1] rfl rfl rfl ⟨(((Drv.vw 1 rfl).subV h11).subV h12), trivial⟩) rfl rfl rfl ?_
      rintro _ _ ⟨_, ⟨z15, rfl, rfl⟩, rfl⟩
      refine JL.val (v := z15.v) (QV.assign rfl) rfl rfl rfl ?_
      refine JL.nil ?_
      refine QJ.then_normal ?_
      refine JC.ret ?_
      obtain rfl := Option.some.inj hm
      exact QJ.body (vs := [z15.v]) (.inl rfl) rfl (ResVs.cons (ResV.tmp rfl) ResVs.nil) [0] rfl rfl (.inr ⟨own_of _ _ _ _, trivial⟩) ⟨z15, rfl, rfl⟩

end Go.Proofs.Ytedokgdilpfomaa
