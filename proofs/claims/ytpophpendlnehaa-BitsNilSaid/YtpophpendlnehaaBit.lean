/- Written by gen.py: functions and their contracts. -/
import Derived.Test.YtpophpendlnehaaBitFacts
namespace Go.Proofs.Ytpophpendlnehaa
open Go Go.Eng Go.Proofs
set_option linter.unusedVariables false
set_option linter.unusedSimpArgs false
/-! ### 27: drogher/bits.NewWriter -/
noncomputable def F27.m  : Option Unit :=
  some ()
set_option maxRecDepth 100000 in
set_option maxHeartbeats 4000000 in
theorem F27.spec  (r : Unit) (hm : F27.m  = some r) :
    Ctr Try.prog false 27 [] [] (fun v L' => ∃ (g1 : Nat), v = .pointer (some ⟨g1, 0, none⟩) ∧ L' = [Asr.of 5 (Enc.int .u8) (SlV.nil.v) ([] : List Int), Asr.blk g1 98 [Seg.c (SlV.nil.v), Seg.c (.int .u64 (0 : Int)), Seg.c (.int .i64 (0 : Int))]]) := by
  refine Ctr.intro (n := 3) (env := []) Try.func27 rfl rfl rfl rfl (fun c => ?_)
  unfold F27.m at hm
  refine JC.seq ?_
  refine JC.region ?_
  refine JL.val (v := .pointer none) (QV.assign rfl) rfl rfl rfl ?_
  refine JL.nil ?_
  refine QJ.then_normal ?_
  refine JC.seq ?_
  refine JC.region ?_
  refine JL.ent (fun _ hs => hs.nil 5 (Enc.int .u8)) ?_
  refine JL.val (v := .agg #[SlV.nil.v, .int .u64 (0 : Int), .int .i64 (0 : Int)]) (QV.build (vals := []) rfl (by kernel_rfl)) rfl rfl rfl ?_
  refine JL.mv (d := some 2) (MV.box [Seg.c (SlV.nil.v), Seg.c (.int .u64 (0 : Int)), Seg.c (.int .i64 (0 : Int))] rfl (fun w hs => rfl)) rfl rfl rfl ?_
  rintro _ _ ⟨b2, rfl, rfl⟩
  refine JL.val (v := .pointer (some ⟨b2, 0, none⟩)) (QV.assign rfl) rfl rfl rfl ?_
  refine JL.nil ?_
  refine QJ.then_normal ?_
  refine JC.ret ?_
  obtain rfl := Option.some.inj hm
  exact QJ.body (vs := [.pointer (some ⟨b2, 0, none⟩)]) (.inl rfl) rfl (ResVs.cons (ResV.tmp rfl) ResVs.nil) [1, 0] rfl rfl (.inr ⟨own_of _ _ _ _, own_blk _ _ _, trivial⟩) ⟨b2, rfl, rfl⟩

/-! ### 28: (*drogher/bits.Writer).Put -/
noncomputable def F28.j1  (d15 : List Int) (d16 : Int) (d17 : Int) : Option (List Int × Int × Int) :=
  some (d15, d16, d17)
noncomputable def F28.b1  : (List Int × Int × Int) → Option ((List Int × Int × Int) ⊕ (List Int × Int × Int))
  | (d19, d20, d21) => (if (8 : Int) ≤ d21 then (if ((d19).length + ([(IntKind.wrap .u8 d20)]).length) * 1 ≤ 140737488355328 ∧ (d19).length + ([(IntKind.wrap .u8 d20)]).length ≤ 9223372036854775807 then some (.inl ((d19 ++ [(IntKind.wrap .u8 d20)]), (shrI .u64 d20 (8 : Int)), (IntKind.wrap .i64 (d21 - (8 : Int))))) else none) else some (.inr (d19, d20, d21)))
noncomputable def F28.m (x3 : List Int) (x4 : Int) (x5 : Int) (x6 : Int) (x7 : Int) : Option (List Int × Int × Int) :=
  (if 0 ≤ (minI (maxI x7 (0 : Int)) (32 : Int)) then (if 0 ≤ x5 then ((loop (F28.b1) (x3, (orI .u64 x4 (shlI .u64 (andI .u64 (IntKind.wrap .u64 x6) (IntKind.wrap .u64 ((shlI .u64 (1 : Int) (minI (maxI x7 (0 : Int)) (32 : Int))) - (1 : Int)))) x5)), (IntKind.wrap .i64 (x5 + (minI (maxI x7 (0 : Int)) (32 : Int)))))).bind fun y => match y with | (d15, d16, d17) => F28.j1 (d15) (d16) (d17)) else none) else none)
set_option maxRecDepth 100000 in
set_option maxHeartbeats 4000000 in
theorem F28.spec (b1 : Nat) (s2 : SlV) (x3 : List Int) (x4 : Int) (x5 : Int) (x6 : Int) (x7 : Int) (r : (List Int × Int × Int)) (hm : F28.m x3 x4 x5 x6 x7 = some r) :
    Ctr Try.prog false 28 [.pointer (some ⟨b1, 0, none⟩), .int .u32 x6, .int .i64 x7] [Asr.blk b1 98 [Seg.c (s2.v), Seg.c (.int .u64 x4), Seg.c (.int .i64 x5)], Asr.of 5 (Enc.int .u8) (s2.v) x3] (fun v L' => ∃ (g8 : SlV), v = .tuple #[] ∧ L' = [Asr.of 5 (Enc.int .u8) (g8.v) r.1, Asr.blk b1 98 [Seg.c (g8.v), Seg.c (.int .u64 r.2.1), Seg.c (.int .i64 r.2.2)]]) := by
  refine Ctr.intro (n := 70) (env := [(0, .pointer (some ⟨b1, 0, none⟩)), (1, .int .u32 x6), (2, .int .i64 x7)]) Try.func28 rfl rfl rfl rfl (fun c => ?_)
  unfold F28.m at hm
  refine JC.seq ?_
  refine JC.seq ?_
  refine JC.region ?_
  refine JL.val (v := .pointer (some ⟨b1, 0, none⟩)) (QV.move rfl) rfl rfl rfl ?_
  refine JL.val (v := .bool false) ((QV.eq (QV.eqlP Try.underlying40 rfl rfl (.inr rfl)) (by simp))) rfl rfl rfl ?_
  refine JL.nil ?_
  refine QJ.then_normal ?_
  refine JC.condF rfl ?_
  refine JC.skip ?_
  refine QJ.then_normal ?_
  refine JC.seq ?_
  refine JC.region ?_
  refine JL.val (v := .int .i64 x7) (QV.move rfl) rfl rfl rfl ?_
  refine JL.val (v := .int .i64 (maxI x7 (0 : Int))) (QV.max2 rfl rfl) rfl rfl rfl ?_
  refine JL.val (v := .int .i64 (minI (maxI x7 (0 : Int)) (32 : Int))) (QV.min2 rfl rfl) rfl rfl rfl ?_
  refine JL.val (v := .int .i64 (minI (maxI x7 (0 : Int)) (32 : Int))) (QV.assign rfl) rfl rfl rfl ?_
  refine JL.nil ?_
  refine QJ.then_normal ?_
  refine JC.seq ?_
  refine JC.regionT [Asr.blk b1 98 [Seg.c (s2.v), Seg.c (.int .u64 x4), Seg.c (.int .i64 x5)], Asr.of 5 (Enc.int .u8) (s2.v) x3] (fun t => Nat.beq t 18) [(0, true), (1, true), (2, true), (3, true), (4, true), (5, true), (6, true), (7, true), (8, true), (9, true), (10, false), (11, false), (12, false), (13, false), (14, false), (15, false), (16, false), (17, false), (18, false)] (by kernel_rfl) (by kernel_rfl) (by kernel_rfl) rfl (fun hsel => ?_)
  refine JT.take (i := 0) (v := .pointer (some ⟨b1, 0, none⟩)) hsel rfl (QV.move rfl) rfl rfl rfl [0, 1] rfl rfl ?_
  refine JT.take (i := 1) (v := .pointer (some ⟨b1, 0, none⟩)) hsel rfl (QV.nilCheck rfl) rfl rfl rfl [0, 1] rfl rfl ?_
  refine JT.take (i := 2) (v := .pointer (some ⟨b1, 1, none⟩)) hsel rfl (QV.fieldB fo_98_1 rfl rfl) rfl rfl rfl [0, 1] rfl rfl ?_
  refine JT.take (i := 3) (v := .int .u64 x4) hsel rfl (QV.load1 (ss := [Seg.c (s2.v), Seg.c (.int .u64 x4), Seg.c (.int .i64 x5)]) 0 1 rfl tk_96 rfl rfl rfl) rfl rfl rfl [0, 1] rfl rfl ?_
  refine JT.take (i := 4) (v := .int .u32 x6) hsel rfl (QV.move rfl) rfl rfl rfl [0, 1] rfl rfl ?_
  refine JT.take (i := 5) (v := .int .u64 (IntKind.wrap .u64 x6)) hsel rfl (QV.conv rfl (by rw [Try.underlying42]; rfl) Try.underlying96) rfl rfl rfl [0, 1] rfl rfl ?_
  refine JT.take (i := 6) (v := .int .i64 (minI (maxI x7 (0 : Int)) (32 : Int))) hsel rfl (QV.move rfl) rfl rfl rfl [0, 1] rfl rfl ?_
  obtain ⟨h12, hm⟩ := guard_inv hm
  refine JT.take (i := 7) (v := .int .u64 (shlI .u64 (1 : Int) (minI (maxI x7 (0 : Int)) (32 : Int)))) hsel rfl (QV.shl rfl rfl h12) rfl rfl rfl [0, 1] rfl rfl ?_
  refine JT.take (i := 8) (v := .int .u64 (IntKind.wrap .u64 ((shlI .u64 (1 : Int) (minI (maxI x7 (0 : Int)) (32 : Int))) - (1 : Int)))) hsel rfl (QV.sub rfl rfl) rfl rfl rfl [0, 1] rfl rfl ?_
  refine JT.take (i := 9) (v := .int .u64 (andI .u64 (IntKind.wrap .u64 x6) (IntKind.wrap .u64 ((shlI .u64 (1 : Int) (minI (maxI x7 (0 : Int)) (32 : Int))) - (1 : Int))))) hsel rfl (QV.and rfl rfl) rfl rfl rfl [0, 1] rfl rfl ?_
  refine JT.only (i := 10) (d := some 21) rfl (MV.ofQV (v := .pointer (some ⟨b1, 0, none⟩)) (QV.move rfl)) rfl rfl rfl ?_
  rintro _ _ ⟨rfl, rfl⟩
  refine ⟨fun _ => ⟨[0, 1], rfl, rfl⟩, ?_⟩
  refine JT.only (i := 11) (d := some 22) rfl (MV.ofQV (v := .pointer (some ⟨b1, 0, none⟩)) (QV.nilCheck rfl)) rfl rfl rfl ?_
  rintro _ _ ⟨rfl, rfl⟩
  refine ⟨fun _ => ⟨[0, 1], rfl, rfl⟩, ?_⟩
  refine JT.only (i := 12) (d := some 23) rfl (MV.ofQV (v := .pointer (some ⟨b1, 2, none⟩)) (QV.fieldB fo_98_2 rfl rfl)) rfl rfl rfl ?_
  rintro _ _ ⟨rfl, rfl⟩
  refine ⟨fun _ => ⟨[0, 1], rfl, rfl⟩, ?_⟩
  refine JT.only (i := 13) (d := some 24) rfl (MV.ofQV (v := .int .i64 x5) (QV.load1 (ss := [Seg.c (s2.v), Seg.c (.int .u64 x4), Seg.c (.int .i64 x5)]) 0 2 rfl tk_3 rfl rfl rfl)) rfl rfl rfl ?_
  rintro _ _ ⟨rfl, rfl⟩
  refine ⟨fun _ => ⟨[0, 1], rfl, rfl⟩, ?_⟩
  obtain ⟨h13, hm⟩ := guard_inv hm
  refine JT.only (i := 14) (d := some 25) rfl (MV.ofQV (v := .int .u64 (shlI .u64 (andI .u64 (IntKind.wrap .u64 x6) (IntKind.wrap .u64 ((shlI .u64 (1 : Int) (minI (maxI x7 (0 : Int)) (32 : Int))) - (1 : Int)))) x5)) (QV.shl rfl rfl h13)) rfl rfl rfl ?_
  rintro _ _ ⟨rfl, rfl⟩
  refine ⟨fun _ => ⟨[0, 1], rfl, rfl⟩, ?_⟩
  refine JT.only (i := 15) (d := some 26) rfl (MV.ofQV (v := .int .u64 (orI .u64 x4 (shlI .u64 (andI .u64 (IntKind.wrap .u64 x6) (IntKind.wrap .u64 ((shlI .u64 (1 : Int) (minI (maxI x7 (0 : Int)) (32 : Int))) - (1 : Int)))) x5))) (QV.or rfl rfl)) rfl rfl rfl ?_
  rintro _ _ ⟨rfl, rfl⟩
  refine ⟨fun _ => ⟨[0, 1], rfl, rfl⟩, ?_⟩
  refine JT.only (i := 16) (d := some 27) rfl (MV.ofQV (v := .pointer (some ⟨b1, 0, none⟩)) (QV.nilCheck rfl)) rfl rfl rfl ?_
  rintro _ _ ⟨rfl, rfl⟩
  refine ⟨fun _ => ⟨[0, 1], rfl, rfl⟩, ?_⟩
  refine JT.only (i := 17) (d := some 28) rfl (MV.ofQV (v := .pointer (some ⟨b1, 1, none⟩)) (QV.fieldB fo_98_1 rfl rfl)) rfl rfl rfl ?_
  rintro _ _ ⟨rfl, rfl⟩
  refine ⟨fun _ => ⟨[0, 1], rfl, rfl⟩, ?_⟩
  refine JT.only (i := 18) (d := none) rfl (MV.store (ss := [Seg.c (s2.v), Seg.c (.int .u64 x4), Seg.c (.int .i64 x5)]) 0 1 1 [Seg.c (.int .u64 (orI .u64 x4 (shlI .u64 (andI .u64 (IntKind.wrap .u64 x6) (IntKind.wrap .u64 ((shlI .u64 (1 : Int) (minI (maxI x7 (0 : Int)) (32 : Int))) - (1 : Int)))) x5)))] rfl tk_96 rfl rfl rfl rfl (fun w hs => ⟨rfl, one_c rfl, trivial⟩)) rfl rfl rfl ?_
  rintro _ _ ⟨rfl, rfl⟩
  refine ⟨fun h => absurd h (by decide), ?_⟩
  refine JT.nil ?_
  refine QJ.then_normal ?_
  refine JC.seq ?_
  refine JC.region ?_
  refine JL.val (v := .pointer (some ⟨b1, 0, none⟩)) (QV.move rfl) rfl rfl rfl ?_
  refine JL.val (v := .pointer (some ⟨b1, 0, none⟩)) (QV.nilCheck rfl) rfl rfl rfl ?_
  refine JL.val (v := .pointer (some ⟨b1, 2, none⟩)) (QV.fieldB fo_98_2 rfl rfl) rfl rfl rfl ?_
  refine JL.val (v := .int .i64 x5) (QV.load1 (ss := [Seg.c (s2.v), Seg.c (.int .u64 (orI .u64 x4 (shlI .u64 (andI .u64 (IntKind.wrap .u64 x6) (IntKind.wrap .u64 ((shlI .u64 (1 : Int) (minI (maxI x7 (0 : Int)) (32 : Int))) - (1 : Int)))) x5))), Seg.c (.int .i64 x5)]) 0 2 rfl tk_3 rfl rfl rfl) rfl rfl rfl ?_
  refine JL.val (v := .int .i64 (minI (maxI x7 (0 : Int)) (32 : Int))) (QV.move rfl) rfl rfl rfl ?_
  refine JL.val (v := .int .i64 (IntKind.wrap .i64 (x5 + (minI (maxI x7 (0 : Int)) (32 : Int))))) (QV.add rfl rfl) rfl rfl rfl ?_
  refine JL.val (v := .pointer (some ⟨b1, 0, none⟩)) (QV.nilCheck rfl) rfl rfl rfl ?_
  refine JL.val (v := .pointer (some ⟨b1, 2, none⟩)) (QV.fieldB fo_98_2 rfl rfl) rfl rfl rfl ?_
  refine JL.mv (d := none) (MV.store (ss := [Seg.c (s2.v), Seg.c (.int .u64 (orI .u64 x4 (shlI .u64 (andI .u64 (IntKind.wrap .u64 x6) (IntKind.wrap .u64 ((shlI .u64 (1 : Int) (minI (maxI x7 (0 : Int)) (32 : Int))) - (1 : Int)))) x5))), Seg.c (.int .i64 x5)]) 0 2 1 [Seg.c (.int .i64 (IntKind.wrap .i64 (x5 + (minI (maxI x7 (0 : Int)) (32 : Int)))))] rfl tk_3 rfl rfl rfl rfl (fun w hs => ⟨rfl, one_c rfl, trivial⟩)) rfl rfl rfl ?_
  rintro _ _ ⟨rfl, rfl⟩
  refine JL.nil ?_
  refine QJ.then_normal ?_
  refine JC.cutK (Y := (List Int × Int × Int) × SlV) (fun y => match y with | ((d15, d16, d17), _) => F28.j1 (d15) (d16) (d17) = some r) (fun y => match y with | ((d15, d16, d17), z14) => []) (fun y => match y with | ((d15, d16, d17), z14) => [Asr.of 5 (Enc.int .u8) (z14.v) d15, Asr.blk b1 98 [Seg.c (z14.v), Seg.c (.int .u64 d16), Seg.c (.int .i64 d17)]]) ?_ ?_
  ·
    rintro ⟨⟨d15, d16, d17⟩, z14⟩ hm
    unfold F28.j1 at hm
    show QJ _ _ [] [Asr.of 5 (Enc.int .u8) (z14.v) d15, Asr.blk b1 98 [Seg.c (z14.v), Seg.c (.int .u64 d16), Seg.c (.int .i64 d17)]] _ _
    obtain rfl := Option.some.inj hm
    exact QJ.body (vs := []) (.inr rfl) rfl ResVs.nil [0, 1] rfl rfl (.inr ⟨own_of _ _ _ _, own_blk _ _ _, trivial⟩) ⟨z14, rfl, rfl⟩
  ·
    refine JC.block ?_
    obtain ⟨y26, hl27, hmo28⟩ := bind_inv hm
    refine JC.loop (F28.b1) (fun x z => match x, z with | (d19, d20, d21), z18 => [(0, .pointer (some ⟨b1, 0, none⟩))]) (fun x z => match x, z with | (d19, d20, d21), z18 => [Asr.of 5 (Enc.int .u8) (z18.v) d19, Asr.blk b1 98 [Seg.c (z18.v), Seg.c (.int .u64 d20), Seg.c (.int .i64 d21)]]) (x3, (orI .u64 x4 (shlI .u64 (andI .u64 (IntKind.wrap .u64 x6) (IntKind.wrap .u64 ((shlI .u64 (1 : Int) (minI (maxI x7 (0 : Int)) (32 : Int))) - (1 : Int)))) x5)), (IntKind.wrap .i64 (x5 + (minI (maxI x7 (0 : Int)) (32 : Int))))) s2 y26 hl27 [1, 0] (by exact ⟨rfl, trivial⟩) rfl rfl ?_
    rintro ⟨d19, d20, d21⟩ z18 s29 hm
    unfold F28.b1 at hm
    dsimp only at hm
    show JC _ _ _ [(0, .pointer (some ⟨b1, 0, none⟩))] [Asr.of 5 (Enc.int .u8) (z18.v) d19, Asr.blk b1 98 [Seg.c (z18.v), Seg.c (.int .u64 d20), Seg.c (.int .i64 d21)]] _ _
    refine JC.seq ?_
    refine JC.seq ?_
    refine JC.region ?_
    refine JL.val (v := .pointer (some ⟨b1, 0, none⟩)) (QV.move rfl) rfl rfl rfl ?_
    refine JL.val (v := .pointer (some ⟨b1, 0, none⟩)) (QV.nilCheck rfl) rfl rfl rfl ?_
    refine JL.val (v := .pointer (some ⟨b1, 2, none⟩)) (QV.fieldB fo_98_2 rfl rfl) rfl rfl rfl ?_
    refine JL.val (v := .int .i64 d21) (QV.load1 (ss := [Seg.c (z18.v), Seg.c (.int .u64 d20), Seg.c (.int .i64 d21)]) 1 2 rfl tk_3 rfl rfl rfl) rfl rfl rfl ?_
    refine JL.val (v := .bool (decide ((8 : Int) ≤ d21))) (QV.geq rfl rfl) rfl rfl rfl ?_
    refine JL.nil ?_
    refine QJ.then_normal ?_
    rcases ite_inv hm with ⟨h30, hm⟩ | ⟨h30, hm⟩
    ·
      refine JC.condT' rfl (decide_eq_true h30) ?_
      refine JC.skip ?_
      refine QJ.then_normal ?_
      refine JC.block ?_
      refine JC.seq ?_
      refine JC.regionT [Asr.blk b1 98 [Seg.c (z18.v), Seg.c (.int .u64 d20), Seg.c (.int .i64 d21)]] (fun t => Nat.beq t 14) [(0, true), (1, true), (2, true), (3, true), (4, true), (5, false), (6, false), (7, false), (8, false), (9, false), (10, false), (11, false), (12, false), (13, false), (14, false)] (by kernel_rfl) (by kernel_rfl) (by kernel_rfl) rfl (fun hsel => ?_)
      refine JT.take (i := 0) (v := .pointer (some ⟨b1, 0, none⟩)) hsel rfl (QV.move rfl) rfl rfl rfl [1] rfl rfl ?_
      refine JT.take (i := 1) (v := .pointer (some ⟨b1, 0, none⟩)) hsel rfl (QV.move rfl) rfl rfl rfl [1] rfl rfl ?_
      refine JT.take (i := 2) (v := .pointer (some ⟨b1, 0, none⟩)) hsel rfl (QV.nilCheck rfl) rfl rfl rfl [1] rfl rfl ?_
      refine JT.take (i := 3) (v := .pointer (some ⟨b1, 0, none⟩)) hsel rfl (QV.fieldB fo_98_0 rfl rfl) rfl rfl rfl [1] rfl rfl ?_
      refine JT.take (i := 4) (v := z18.v) hsel rfl (QV.load1 (ss := [Seg.c (z18.v), Seg.c (.int .u64 d20), Seg.c (.int .i64 d21)]) 0 0 rfl tk_26 rfl rfl rfl) rfl rfl rfl [1] rfl rfl ?_
      refine JT.only (i := 5) (d := some 47) rfl (MV.ofQV (v := .pointer (some ⟨b1, 0, none⟩)) (QV.move rfl)) rfl rfl rfl ?_
      rintro _ _ ⟨rfl, rfl⟩
      refine ⟨fun _ => ⟨[1], rfl, rfl⟩, ?_⟩
      refine JT.only (i := 6) (d := some 48) rfl (MV.ofQV (v := .pointer (some ⟨b1, 0, none⟩)) (QV.nilCheck rfl)) rfl rfl rfl ?_
      rintro _ _ ⟨rfl, rfl⟩
      refine ⟨fun _ => ⟨[1], rfl, rfl⟩, ?_⟩
      refine JT.only (i := 7) (d := some 49) rfl (MV.ofQV (v := .pointer (some ⟨b1, 1, none⟩)) (QV.fieldB fo_98_1 rfl rfl)) rfl rfl rfl ?_
      rintro _ _ ⟨rfl, rfl⟩
      refine ⟨fun _ => ⟨[1], rfl, rfl⟩, ?_⟩
      refine JT.only (i := 8) (d := some 50) rfl (MV.ofQV (v := .int .u64 d20) (QV.load1 (ss := [Seg.c (z18.v), Seg.c (.int .u64 d20), Seg.c (.int .i64 d21)]) 1 1 rfl tk_96 rfl rfl rfl)) rfl rfl rfl ?_
      rintro _ _ ⟨rfl, rfl⟩
      refine ⟨fun _ => ⟨[1], rfl, rfl⟩, ?_⟩
      refine JT.only (i := 9) (d := some 51) rfl (MV.ofQV (v := .int .u8 (IntKind.wrap .u8 d20)) (QV.conv rfl (by rw [Try.underlying96]; rfl) Try.underlying5)) rfl rfl rfl ?_
      rintro _ _ ⟨rfl, rfl⟩
      refine ⟨fun _ => ⟨[1], rfl, rfl⟩, ?_⟩
      refine JT.only (i := 10) (d := some 52) rfl (MV.lit (E := (Enc.int .u8)) (vals := [(0, .int .u8 (IntKind.wrap .u8 d20))]) [(IntKind.wrap .u8 d20)] Try.underlying26 zi_5 rfl (by decide) rfl (by kernel_rfl)) rfl rfl rfl ?_
      rintro _ _ ⟨z31, rfl, rfl⟩
      refine ⟨fun _ => ⟨[2], rfl, rfl⟩, ?_⟩
      refine JT.grow [Asr.of 5 (Enc.int .u8) (z31.v) [(IntKind.wrap .u8 d20)], Asr.blk b1 98 [Seg.c (z18.v), Seg.c (.int .u64 d20), Seg.c (.int .i64 d21)]] [1] rfl rfl ?_
      obtain ⟨h32, hm⟩ := guard_inv hm
      refine JT.only (i := 11) (d := some 53) rfl (MV.append 1 rfl (Rdg.of 0 rfl) Try.underlying26 zi_5 rfl (by decide) rfl rfl h32) rfl rfl rfl ?_
      rintro _ _ ⟨z33, rfl, rfl⟩
      refine ⟨fun _ => ⟨[0, 2], rfl, rfl⟩, ?_⟩
      refine JT.grow [Asr.of 5 (Enc.int .u8) (z31.v) [(IntKind.wrap .u8 d20)], Asr.of 5 (Enc.int .u8) (z33.v) (d19 ++ [(IntKind.wrap .u8 d20)]), Asr.blk b1 98 [Seg.c (z18.v), Seg.c (.int .u64 d20), Seg.c (.int .i64 d21)]] [0, 2] rfl rfl ?_
      refine JT.only (i := 12) (d := some 54) rfl (MV.ofQV (v := .pointer (some ⟨b1, 0, none⟩)) (QV.nilCheck rfl)) rfl rfl rfl ?_
      rintro _ _ ⟨rfl, rfl⟩
      refine ⟨fun _ => ⟨[0, 1, 2], rfl, rfl⟩, ?_⟩
      refine JT.only (i := 13) (d := some 55) rfl (MV.ofQV (v := .pointer (some ⟨b1, 0, none⟩)) (QV.fieldB fo_98_0 rfl rfl)) rfl rfl rfl ?_
      rintro _ _ ⟨rfl, rfl⟩
      refine ⟨fun _ => ⟨[0, 1, 2], rfl, rfl⟩, ?_⟩
      refine JT.only (i := 14) (d := none) rfl (MV.store (ss := [Seg.c (z18.v), Seg.c (.int .u64 d20), Seg.c (.int .i64 d21)]) 2 0 1 [Seg.c (z33.v)] rfl tk_26 rfl rfl rfl rfl (fun w hs => ⟨cells_sl (Rdg.of 1 rfl) hs, one_sl (Rdg.of 1 rfl) hs, trivial⟩)) rfl rfl rfl ?_
      rintro _ _ ⟨rfl, rfl⟩
      refine ⟨fun h => absurd h (by decide), ?_⟩
      refine JT.nil ?_
      refine QJ.then_normal ?_
      refine JC.seq ?_
      refine JC.region ?_
      refine JL.val (v := .pointer (some ⟨b1, 0, none⟩)) (QV.move rfl) rfl rfl rfl ?_
      refine JL.val (v := .pointer (some ⟨b1, 0, none⟩)) (QV.nilCheck rfl) rfl rfl rfl ?_
      refine JL.val (v := .pointer (some ⟨b1, 1, none⟩)) (QV.fieldB fo_98_1 rfl rfl) rfl rfl rfl ?_
      refine JL.val (v := .int .u64 d20) (QV.load1 (ss := [Seg.c (z33.v), Seg.c (.int .u64 d20), Seg.c (.int .i64 d21)]) 2 1 rfl tk_96 rfl rfl rfl) rfl rfl rfl ?_
      refine JL.val (v := .int .u64 (shrI .u64 d20 (8 : Int))) (QV.shr rfl rfl (by decide)) rfl rfl rfl ?_
      refine JL.val (v := .pointer (some ⟨b1, 0, none⟩)) (QV.nilCheck rfl) rfl rfl rfl ?_
      refine JL.val (v := .pointer (some ⟨b1, 1, none⟩)) (QV.fieldB fo_98_1 rfl rfl) rfl rfl rfl ?_
      refine JL.mv (d := none) (MV.store (ss := [Seg.c (z33.v), Seg.c (.int .u64 d20), Seg.c (.int .i64 d21)]) 2 1 1 [Seg.c (.int .u64 (shrI .u64 d20 (8 : Int)))] rfl tk_96 rfl rfl rfl rfl (fun w hs => ⟨rfl, one_c rfl, trivial⟩)) rfl rfl rfl ?_
      rintro _ _ ⟨rfl, rfl⟩
      refine JL.nil ?_
      refine QJ.then_normal ?_
      refine JC.region ?_
      refine JL.val (v := .pointer (some ⟨b1, 0, none⟩)) (QV.move rfl) rfl rfl rfl ?_
      refine JL.val (v := .pointer (some ⟨b1, 0, none⟩)) (QV.nilCheck rfl) rfl rfl rfl ?_
      refine JL.val (v := .pointer (some ⟨b1, 2, none⟩)) (QV.fieldB fo_98_2 rfl rfl) rfl rfl rfl ?_
      refine JL.val (v := .int .i64 d21) (QV.load1 (ss := [Seg.c (z33.v), Seg.c (.int .u64 (shrI .u64 d20 (8 : Int))), Seg.c (.int .i64 d21)]) 2 2 rfl tk_3 rfl rfl rfl) rfl rfl rfl ?_
      refine JL.val (v := .int .i64 (IntKind.wrap .i64 (d21 - (8 : Int)))) (QV.sub rfl rfl) rfl rfl rfl ?_
      refine JL.val (v := .pointer (some ⟨b1, 0, none⟩)) (QV.nilCheck rfl) rfl rfl rfl ?_
      refine JL.val (v := .pointer (some ⟨b1, 2, none⟩)) (QV.fieldB fo_98_2 rfl rfl) rfl rfl rfl ?_
      refine JL.mv (d := none) (MV.store (ss := [Seg.c (z33.v), Seg.c (.int .u64 (shrI .u64 d20 (8 : Int))), Seg.c (.int .i64 d21)]) 2 2 1 [Seg.c (.int .i64 (IntKind.wrap .i64 (d21 - (8 : Int))))] rfl tk_3 rfl rfl rfl rfl (fun w hs => ⟨rfl, one_c rfl, trivial⟩)) rfl rfl rfl ?_
      rintro _ _ ⟨rfl, rfl⟩
      refine JL.nil ?_
      refine QJ.block_normal ?_
      obtain rfl := Option.some.inj hm
      exact QJ.round_on ((d19 ++ [(IntKind.wrap .u8 d20)]), (shrI .u64 d20 (8 : Int)), (IntKind.wrap .i64 (d21 - (8 : Int)))) z33 [1, 2] (by exact ⟨rfl, trivial⟩) rfl rfl
    ·
      refine JC.condF' rfl (decide_eq_false h30) ?_
      refine JC.exit ?_
      refine QJ.then_exit ?_
      obtain rfl := Option.some.inj hm
      refine QJ.round_exit (fun hy => ?_)
      subst hy
      refine QJ.block_hit ?_
      exact QJ.cut_normal ((d19, d20, d21), z18) hmo28 [0, 1] trivial rfl rfl

/-! ### 73: math/bits.ReverseBytes32 -/
noncomputable def F73.m (x1 : Int) : Option Int :=
  some (orI .u32 (shrI .u32 (orI .u32 (andI .u32 (shrI .u32 x1 (8 : Int)) (16711935 : Int)) (shlI .u32 (andI .u32 x1 (16711935 : Int)) (8 : Int))) (16 : Int)) (shlI .u32 (orI .u32 (andI .u32 (shrI .u32 x1 (8 : Int)) (16711935 : Int)) (shlI .u32 (andI .u32 x1 (16711935 : Int)) (8 : Int))) (16 : Int)))
set_option maxRecDepth 100000 in
set_option maxHeartbeats 4000000 in
theorem F73.spec (x1 : Int) (r : Int) (hm : F73.m x1 = some r) :
    Ctr Try.prog false 73 [.int .u32 x1] [] (fun v L' => v = .int .u32 r ∧ L' = []) := by
  refine Ctr.intro (n := 15) (env := [(0, .int .u32 x1)]) Try.func73 rfl rfl rfl rfl (fun c => ?_)
  unfold F73.m at hm
  refine JC.seq ?_
  refine JC.region ?_
  refine JL.val (v := .int .u32 (0 : Int)) (QV.assign rfl) rfl rfl rfl ?_
  refine JL.nil ?_
  refine QJ.then_normal ?_
  refine JC.seq ?_
  refine JC.region ?_
  refine JL.val (v := .int .u32 x1) (QV.move rfl) rfl rfl rfl ?_
  refine JL.val (v := .int .u32 (shrI .u32 x1 (8 : Int))) (QV.shr rfl rfl (by decide)) rfl rfl rfl ?_
  refine JL.val (v := .int .u32 (andI .u32 (shrI .u32 x1 (8 : Int)) (16711935 : Int))) (QV.and rfl rfl) rfl rfl rfl ?_
  refine JL.val (v := .int .u32 x1) (QV.move rfl) rfl rfl rfl ?_
  refine JL.val (v := .int .u32 (andI .u32 x1 (16711935 : Int))) (QV.and rfl rfl) rfl rfl rfl ?_
  refine JL.val (v := .int .u32 (shlI .u32 (andI .u32 x1 (16711935 : Int)) (8 : Int))) (QV.shl rfl rfl (by decide)) rfl rfl rfl ?_
  refine JL.val (v := .int .u32 (orI .u32 (andI .u32 (shrI .u32 x1 (8 : Int)) (16711935 : Int)) (shlI .u32 (andI .u32 x1 (16711935 : Int)) (8 : Int)))) (QV.or rfl rfl) rfl rfl rfl ?_
  refine JL.val (v := .int .u32 (orI .u32 (andI .u32 (shrI .u32 x1 (8 : Int)) (16711935 : Int)) (shlI .u32 (andI .u32 x1 (16711935 : Int)) (8 : Int)))) (QV.assign rfl) rfl rfl rfl ?_
  refine JL.nil ?_
  refine QJ.then_normal ?_
  refine JC.seq ?_
  refine JC.region ?_
  refine JL.val (v := .int .u32 (orI .u32 (andI .u32 (shrI .u32 x1 (8 : Int)) (16711935 : Int)) (shlI .u32 (andI .u32 x1 (16711935 : Int)) (8 : Int)))) (QV.move rfl) rfl rfl rfl ?_
  refine JL.val (v := .int .u32 (shrI .u32 (orI .u32 (andI .u32 (shrI .u32 x1 (8 : Int)) (16711935 : Int)) (shlI .u32 (andI .u32 x1 (16711935 : Int)) (8 : Int))) (16 : Int))) (QV.shr rfl rfl (by decide)) rfl rfl rfl ?_
  refine JL.val (v := .int .u32 (orI .u32 (andI .u32 (shrI .u32 x1 (8 : Int)) (16711935 : Int)) (shlI .u32 (andI .u32 x1 (16711935 : Int)) (8 : Int)))) (QV.move rfl) rfl rfl rfl ?_
  refine JL.val (v := .int .u32 (shlI .u32 (orI .u32 (andI .u32 (shrI .u32 x1 (8 : Int)) (16711935 : Int)) (shlI .u32 (andI .u32 x1 (16711935 : Int)) (8 : Int))) (16 : Int))) (QV.shl rfl rfl (by decide)) rfl rfl rfl ?_
  refine JL.val (v := .int .u32 (orI .u32 (shrI .u32 (orI .u32 (andI .u32 (shrI .u32 x1 (8 : Int)) (16711935 : Int)) (shlI .u32 (andI .u32 x1 (16711935 : Int)) (8 : Int))) (16 : Int)) (shlI .u32 (orI .u32 (andI .u32 (shrI .u32 x1 (8 : Int)) (16711935 : Int)) (shlI .u32 (andI .u32 x1 (16711935 : Int)) (8 : Int))) (16 : Int)))) (QV.or rfl rfl) rfl rfl rfl ?_
  refine JL.val (v := .int .u32 (orI .u32 (shrI .u32 (orI .u32 (andI .u32 (shrI .u32 x1 (8 : Int)) (16711935 : Int)) (shlI .u32 (andI .u32 x1 (16711935 : Int)) (8 : Int))) (16 : Int)) (shlI .u32 (orI .u32 (andI .u32 (shrI .u32 x1 (8 : Int)) (16711935 : Int)) (shlI .u32 (andI .u32 x1 (16711935 : Int)) (8 : Int))) (16 : Int)))) (QV.assign rfl) rfl rfl rfl ?_
  refine JL.nil ?_
  refine QJ.then_normal ?_
  refine JC.ret ?_
  obtain rfl := Option.some.inj hm
  exact QJ.body (vs := [.int .u32 (orI .u32 (shrI .u32 (orI .u32 (andI .u32 (shrI .u32 x1 (8 : Int)) (16711935 : Int)) (shlI .u32 (andI .u32 x1 (16711935 : Int)) (8 : Int))) (16 : Int)) (shlI .u32 (orI .u32 (andI .u32 (shrI .u32 x1 (8 : Int)) (16711935 : Int)) (shlI .u32 (andI .u32 x1 (16711935 : Int)) (8 : Int))) (16 : Int)))]) (.inl rfl) rfl (ResVs.cons (ResV.tmp rfl) ResVs.nil) [] rfl rfl (.inr trivial) ⟨rfl, rfl⟩

/-! ### 63: math/bits.Reverse32 -/
noncomputable def F63.m (x1 : Int) : Option Int :=
  ((F73.m ((orI .u32 (andI .u32 (shrI .u32 (orI .u32 (andI .u32 (shrI .u32 (orI .u32 (andI .u32 (shrI .u32 x1 (1 : Int)) (1431655765 : Int)) (shlI .u32 (andI .u32 x1 (1431655765 : Int)) (1 : Int))) (2 : Int)) (858993459 : Int)) (shlI .u32 (andI .u32 (orI .u32 (andI .u32 (shrI .u32 x1 (1 : Int)) (1431655765 : Int)) (shlI .u32 (andI .u32 x1 (1431655765 : Int)) (1 : Int))) (858993459 : Int)) (2 : Int))) (4 : Int)) (252645135 : Int)) (shlI .u32 (andI .u32 (orI .u32 (andI .u32 (shrI .u32 (orI .u32 (andI .u32 (shrI .u32 x1 (1 : Int)) (1431655765 : Int)) (shlI .u32 (andI .u32 x1 (1431655765 : Int)) (1 : Int))) (2 : Int)) (858993459 : Int)) (shlI .u32 (andI .u32 (orI .u32 (andI .u32 (shrI .u32 x1 (1 : Int)) (1431655765 : Int)) (shlI .u32 (andI .u32 x1 (1431655765 : Int)) (1 : Int))) (858993459 : Int)) (2 : Int))) (252645135 : Int)) (4 : Int))))).bind fun y3 => some y3)
set_option maxRecDepth 100000 in
set_option maxHeartbeats 4000000 in
theorem F63.spec (x1 : Int) (r : Int) (hm : F63.m x1 = some r) :
    Ctr Try.prog false 63 [.int .u32 x1] [] (fun v L' => v = .int .u32 r ∧ L' = []) := by
  refine Ctr.intro (n := 26) (env := [(0, .int .u32 x1)]) Try.func63 rfl rfl rfl rfl (fun c => ?_)
  unfold F63.m at hm
  refine JC.seq ?_
  refine JC.region ?_
  refine JL.val (v := .int .u32 (0 : Int)) (QV.assign rfl) rfl rfl rfl ?_
  refine JL.nil ?_
  refine QJ.then_normal ?_
  refine JC.seq ?_
  refine JC.region ?_
  refine JL.val (v := .int .u32 x1) (QV.move rfl) rfl rfl rfl ?_
  refine JL.val (v := .int .u32 (shrI .u32 x1 (1 : Int))) (QV.shr rfl rfl (by decide)) rfl rfl rfl ?_
  refine JL.val (v := .int .u32 (andI .u32 (shrI .u32 x1 (1 : Int)) (1431655765 : Int))) (QV.and rfl rfl) rfl rfl rfl ?_
  refine JL.val (v := .int .u32 x1) (QV.move rfl) rfl rfl rfl ?_
  refine JL.val (v := .int .u32 (andI .u32 x1 (1431655765 : Int))) (QV.and rfl rfl) rfl rfl rfl ?_
  refine JL.val (v := .int .u32 (shlI .u32 (andI .u32 x1 (1431655765 : Int)) (1 : Int))) (QV.shl rfl rfl (by decide)) rfl rfl rfl ?_
  refine JL.val (v := .int .u32 (orI .u32 (andI .u32 (shrI .u32 x1 (1 : Int)) (1431655765 : Int)) (shlI .u32 (andI .u32 x1 (1431655765 : Int)) (1 : Int)))) (QV.or rfl rfl) rfl rfl rfl ?_
  refine JL.val (v := .int .u32 (orI .u32 (andI .u32 (shrI .u32 x1 (1 : Int)) (1431655765 : Int)) (shlI .u32 (andI .u32 x1 (1431655765 : Int)) (1 : Int)))) (QV.assign rfl) rfl rfl rfl ?_
  refine JL.nil ?_
  refine QJ.then_normal ?_
  refine JC.seq ?_
  refine JC.region ?_
  refine JL.val (v := .int .u32 (orI .u32 (andI .u32 (shrI .u32 x1 (1 : Int)) (1431655765 : Int)) (shlI .u32 (andI .u32 x1 (1431655765 : Int)) (1 : Int)))) (QV.move rfl) rfl rfl rfl ?_
  refine JL.val (v := .int .u32 (shrI .u32 (orI .u32 (andI .u32 (shrI .u32 x1 (1 : Int)) (1431655765 : Int)) (shlI .u32 (andI .u32 x1 (1431655765 : Int)) (1 : Int))) (2 : Int))) (QV.shr rfl rfl (by decide)) rfl rfl rfl ?_
  refine JL.val (v := .int .u32 (andI .u32 (shrI .u32 (orI .u32 (andI .u32 (shrI .u32 x1 (1 : Int)) (1431655765 : Int)) (shlI .u32 (andI .u32 x1 (1431655765 : Int)) (1 : Int))) (2 : Int)) (858993459 : Int))) (QV.and rfl rfl) rfl rfl rfl ?_
  refine JL.val (v := .int .u32 (orI .u32 (andI .u32 (shrI .u32 x1 (1 : Int)) (1431655765 : Int)) (shlI .u32 (andI .u32 x1 (1431655765 : Int)) (1 : Int)))) (QV.move rfl) rfl rfl rfl ?_
  refine JL.val (v := .int .u32 (andI .u32 (orI .u32 (andI .u32 (shrI .u32 x1 (1 : Int)) (1431655765 : Int)) (shlI .u32 (andI .u32 x1 (1431655765 : Int)) (1 : Int))) (858993459 : Int))) (QV.and rfl rfl) rfl rfl rfl ?_
  refine JL.val (v := .int .u32 (shlI .u32 (andI .u32 (orI .u32 (andI .u32 (shrI .u32 x1 (1 : Int)) (1431655765 : Int)) (shlI .u32 (andI .u32 x1 (1431655765 : Int)) (1 : Int))) (858993459 : Int)) (2 : Int))) (QV.shl rfl rfl (by decide)) rfl rfl rfl ?_
  refine JL.val (v := .int .u32 (orI .u32 (andI .u32 (shrI .u32 (orI .u32 (andI .u32 (shrI .u32 x1 (1 : Int)) (1431655765 : Int)) (shlI .u32 (andI .u32 x1 (1431655765 : Int)) (1 : Int))) (2 : Int)) (858993459 : Int)) (shlI .u32 (andI .u32 (orI .u32 (andI .u32 (shrI .u32 x1 (1 : Int)) (1431655765 : Int)) (shlI .u32 (andI .u32 x1 (1431655765 : Int)) (1 : Int))) (858993459 : Int)) (2 : Int)))) (QV.or rfl rfl) rfl rfl rfl ?_
  refine JL.val (v := .int .u32 (orI .u32 (andI .u32 (shrI .u32 (orI .u32 (andI .u32 (shrI .u32 x1 (1 : Int)) (1431655765 : Int)) (shlI .u32 (andI .u32 x1 (1431655765 : Int)) (1 : Int))) (2 : Int)) (858993459 : Int)) (shlI .u32 (andI .u32 (orI .u32 (andI .u32 (shrI .u32 x1 (1 : Int)) (1431655765 : Int)) (shlI .u32 (andI .u32 x1 (1431655765 : Int)) (1 : Int))) (858993459 : Int)) (2 : Int)))) (QV.assign rfl) rfl rfl rfl ?_
  refine JL.nil ?_
  refine QJ.then_normal ?_
  refine JC.seq ?_
  refine JC.region ?_
  refine JL.val (v := .int .u32 (orI .u32 (andI .u32 (shrI .u32 (orI .u32 (andI .u32 (shrI .u32 x1 (1 : Int)) (1431655765 : Int)) (shlI .u32 (andI .u32 x1 (1431655765 : Int)) (1 : Int))) (2 : Int)) (858993459 : Int)) (shlI .u32 (andI .u32 (orI .u32 (andI .u32 (shrI .u32 x1 (1 : Int)) (1431655765 : Int)) (shlI .u32 (andI .u32 x1 (1431655765 : Int)) (1 : Int))) (858993459 : Int)) (2 : Int)))) (QV.move rfl) rfl rfl rfl ?_
  refine JL.val (v := .int .u32 (shrI .u32 (orI .u32 (andI .u32 (shrI .u32 (orI .u32 (andI .u32 (shrI .u32 x1 (1 : Int)) (1431655765 : Int)) (shlI .u32 (andI .u32 x1 (1431655765 : Int)) (1 : Int))) (2 : Int)) (858993459 : Int)) (shlI .u32 (andI .u32 (orI .u32 (andI .u32 (shrI .u32 x1 (1 : Int)) (1431655765 : Int)) (shlI .u32 (andI .u32 x1 (1431655765 : Int)) (1 : Int))) (858993459 : Int)) (2 : Int))) (4 : Int))) (QV.shr rfl rfl (by decide)) rfl rfl rfl ?_
  refine JL.val (v := .int .u32 (andI .u32 (shrI .u32 (orI .u32 (andI .u32 (shrI .u32 (orI .u32 (andI .u32 (shrI .u32 x1 (1 : Int)) (1431655765 : Int)) (shlI .u32 (andI .u32 x1 (1431655765 : Int)) (1 : Int))) (2 : Int)) (858993459 : Int)) (shlI .u32 (andI .u32 (orI .u32 (andI .u32 (shrI .u32 x1 (1 : Int)) (1431655765 : Int)) (shlI .u32 (andI .u32 x1 (1431655765 : Int)) (1 : Int))) (858993459 : Int)) (2 : Int))) (4 : Int)) (252645135 : Int))) (QV.and rfl rfl) rfl rfl rfl ?_
  refine JL.val (v := .int .u32 (orI .u32 (andI .u32 (shrI .u32 (orI .u32 (andI .u32 (shrI .u32 x1 (1 : Int)) (1431655765 : Int)) (shlI .u32 (andI .u32 x1 (1431655765 : Int)) (1 : Int))) (2 : Int)) (858993459 : Int)) (shlI .u32 (andI .u32 (orI .u32 (andI .u32 (shrI .u32 x1 (1 : Int)) (1431655765 : Int)) (shlI .u32 (andI .u32 x1 (1431655765 : Int)) (1 : Int))) (858993459 : Int)) (2 : Int)))) (QV.move rfl) rfl rfl rfl ?_
  refine JL.val (v := .int .u32 (andI .u32 (orI .u32 (andI .u32 (shrI .u32 (orI .u32 (andI .u32 (shrI .u32 x1 (1 : Int)) (1431655765 : Int)) (shlI .u32 (andI .u32 x1 (1431655765 : Int)) (1 : Int))) (2 : Int)) (858993459 : Int)) (shlI .u32 (andI .u32 (orI .u32 (andI .u32 (shrI .u32 x1 (1 : Int)) (1431655765 : Int)) (shlI .u32 (andI .u32 x1 (1431655765 : Int)) (1 : Int))) (858993459 : Int)) (2 : Int))) (252645135 : Int))) (QV.and rfl rfl) rfl rfl rfl ?_
  refine JL.val (v := .int .u32 (shlI .u32 (andI .u32 (orI .u32 (andI .u32 (shrI .u32 (orI .u32 (andI .u32 (shrI .u32 x1 (1 : Int)) (1431655765 : Int)) (shlI .u32 (andI .u32 x1 (1431655765 : Int)) (1 : Int))) (2 : Int)) (858993459 : Int)) (shlI .u32 (andI .u32 (orI .u32 (andI .u32 (shrI .u32 x1 (1 : Int)) (1431655765 : Int)) (shlI .u32 (andI .u32 x1 (1431655765 : Int)) (1 : Int))) (858993459 : Int)) (2 : Int))) (252645135 : Int)) (4 : Int))) (QV.shl rfl rfl (by decide)) rfl rfl rfl ?_
  refine JL.val (v := .int .u32 (orI .u32 (andI .u32 (shrI .u32 (orI .u32 (andI .u32 (shrI .u32 (orI .u32 (andI .u32 (shrI .u32 x1 (1 : Int)) (1431655765 : Int)) (shlI .u32 (andI .u32 x1 (1431655765 : Int)) (1 : Int))) (2 : Int)) (858993459 : Int)) (shlI .u32 (andI .u32 (orI .u32 (andI .u32 (shrI .u32 x1 (1 : Int)) (1431655765 : Int)) (shlI .u32 (andI .u32 x1 (1431655765 : Int)) (1 : Int))) (858993459 : Int)) (2 : Int))) (4 : Int)) (252645135 : Int)) (shlI .u32 (andI .u32 (orI .u32 (andI .u32 (shrI .u32 (orI .u32 (andI .u32 (shrI .u32 x1 (1 : Int)) (1431655765 : Int)) (shlI .u32 (andI .u32 x1 (1431655765 : Int)) (1 : Int))) (2 : Int)) (858993459 : Int)) (shlI .u32 (andI .u32 (orI .u32 (andI .u32 (shrI .u32 x1 (1 : Int)) (1431655765 : Int)) (shlI .u32 (andI .u32 x1 (1431655765 : Int)) (1 : Int))) (858993459 : Int)) (2 : Int))) (252645135 : Int)) (4 : Int)))) (QV.or rfl rfl) rfl rfl rfl ?_
  refine JL.val (v := .int .u32 (orI .u32 (andI .u32 (shrI .u32 (orI .u32 (andI .u32 (shrI .u32 (orI .u32 (andI .u32 (shrI .u32 x1 (1 : Int)) (1431655765 : Int)) (shlI .u32 (andI .u32 x1 (1431655765 : Int)) (1 : Int))) (2 : Int)) (858993459 : Int)) (shlI .u32 (andI .u32 (orI .u32 (andI .u32 (shrI .u32 x1 (1 : Int)) (1431655765 : Int)) (shlI .u32 (andI .u32 x1 (1431655765 : Int)) (1 : Int))) (858993459 : Int)) (2 : Int))) (4 : Int)) (252645135 : Int)) (shlI .u32 (andI .u32 (orI .u32 (andI .u32 (shrI .u32 (orI .u32 (andI .u32 (shrI .u32 x1 (1 : Int)) (1431655765 : Int)) (shlI .u32 (andI .u32 x1 (1431655765 : Int)) (1 : Int))) (2 : Int)) (858993459 : Int)) (shlI .u32 (andI .u32 (orI .u32 (andI .u32 (shrI .u32 x1 (1 : Int)) (1431655765 : Int)) (shlI .u32 (andI .u32 x1 (1431655765 : Int)) (1 : Int))) (858993459 : Int)) (2 : Int))) (252645135 : Int)) (4 : Int)))) (QV.assign rfl) rfl rfl rfl ?_
  refine JL.nil ?_
  refine QJ.then_normal ?_
  refine JC.seq ?_
  refine JC.region ?_
  refine JL.val (v := .int .u32 (orI .u32 (andI .u32 (shrI .u32 (orI .u32 (andI .u32 (shrI .u32 (orI .u32 (andI .u32 (shrI .u32 x1 (1 : Int)) (1431655765 : Int)) (shlI .u32 (andI .u32 x1 (1431655765 : Int)) (1 : Int))) (2 : Int)) (858993459 : Int)) (shlI .u32 (andI .u32 (orI .u32 (andI .u32 (shrI .u32 x1 (1 : Int)) (1431655765 : Int)) (shlI .u32 (andI .u32 x1 (1431655765 : Int)) (1 : Int))) (858993459 : Int)) (2 : Int))) (4 : Int)) (252645135 : Int)) (shlI .u32 (andI .u32 (orI .u32 (andI .u32 (shrI .u32 (orI .u32 (andI .u32 (shrI .u32 x1 (1 : Int)) (1431655765 : Int)) (shlI .u32 (andI .u32 x1 (1431655765 : Int)) (1 : Int))) (2 : Int)) (858993459 : Int)) (shlI .u32 (andI .u32 (orI .u32 (andI .u32 (shrI .u32 x1 (1 : Int)) (1431655765 : Int)) (shlI .u32 (andI .u32 x1 (1431655765 : Int)) (1 : Int))) (858993459 : Int)) (2 : Int))) (252645135 : Int)) (4 : Int)))) (QV.move rfl) rfl rfl rfl ?_
  obtain ⟨y3, hc4, hm⟩ := bind_inv hm
  refine JL.mv (d := some 25) (MV.call (Lo := []) (Lr := []) (F73.spec ((orI .u32 (andI .u32 (shrI .u32 (orI .u32 (andI .u32 (shrI .u32 (orI .u32 (andI .u32 (shrI .u32 x1 (1 : Int)) (1431655765 : Int)) (shlI .u32 (andI .u32 x1 (1431655765 : Int)) (1 : Int))) (2 : Int)) (858993459 : Int)) (shlI .u32 (andI .u32 (orI .u32 (andI .u32 (shrI .u32 x1 (1 : Int)) (1431655765 : Int)) (shlI .u32 (andI .u32 x1 (1431655765 : Int)) (1 : Int))) (858993459 : Int)) (2 : Int))) (4 : Int)) (252645135 : Int)) (shlI .u32 (andI .u32 (orI .u32 (andI .u32 (shrI .u32 (orI .u32 (andI .u32 (shrI .u32 x1 (1 : Int)) (1431655765 : Int)) (shlI .u32 (andI .u32 x1 (1431655765 : Int)) (1 : Int))) (2 : Int)) (858993459 : Int)) (shlI .u32 (andI .u32 (orI .u32 (andI .u32 (shrI .u32 x1 (1 : Int)) (1431655765 : Int)) (shlI .u32 (andI .u32 x1 (1431655765 : Int)) (1 : Int))) (858993459 : Int)) (2 : Int))) (252645135 : Int)) (4 : Int)))) _ hc4) rfl Try.func73 rfl rfl rfl [] [] rfl rfl rfl trivial) rfl rfl rfl ?_
  rintro _ _ ⟨_, ⟨rfl, rfl⟩, rfl⟩
  refine JL.val (v := .int .u32 y3) (QV.assign rfl) rfl rfl rfl ?_
  refine JL.nil ?_
  refine QJ.then_normal ?_
  refine JC.ret ?_
  obtain rfl := Option.some.inj hm
  exact QJ.body (vs := [.int .u32 y3]) (.inl rfl) rfl (ResVs.cons (ResV.tmp rfl) ResVs.nil) [] rfl rfl (.inr trivial) ⟨rfl, rfl⟩

/-! ### 30: (*drogher/bits.Writer).Code -/
noncomputable def F30.j1  (d13 : List Int) (d14 : Int) (d15 : Int) : Option (List Int × Int × Int) :=
  some (d13, d14, d15)
noncomputable def F30.m (x3 : List Int) (x4 : Int) (x5 : Int) (x6 : Int) (x7 : Int) : Option (List Int × Int × Int) :=
  (if (0 : Int) < (minI (maxI x7 (0 : Int)) (32 : Int)) then ((F63.m (x6)).bind fun y17 => (if 0 ≤ (IntKind.wrap .i64 ((32 : Int) - (minI (maxI x7 (0 : Int)) (32 : Int)))) then ((F28.m (x3) (x4) (x5) ((shrI .u32 y17 (IntKind.wrap .i64 ((32 : Int) - (minI (maxI x7 (0 : Int)) (32 : Int)))))) ((minI (maxI x7 (0 : Int)) (32 : Int)))).bind fun y20 => F30.j1 (y20.1) (y20.2.1) (y20.2.2)) else none)) else F30.j1 (x3) (x4) (x5))
set_option maxRecDepth 100000 in
set_option maxHeartbeats 4000000 in
theorem F30.spec (b1 : Nat) (s2 : SlV) (x3 : List Int) (x4 : Int) (x5 : Int) (x6 : Int) (x7 : Int) (r : (List Int × Int × Int)) (hm : F30.m x3 x4 x5 x6 x7 = some r) :
    Ctr Try.prog false 30 [.pointer (some ⟨b1, 0, none⟩), .int .u32 x6, .int .i64 x7] [Asr.blk b1 98 [Seg.c (s2.v), Seg.c (.int .u64 x4), Seg.c (.int .i64 x5)], Asr.of 5 (Enc.int .u8) (s2.v) x3] (fun v L' => ∃ (g8 : SlV), v = .tuple #[] ∧ L' = [Asr.of 5 (Enc.int .u8) (g8.v) r.1, Asr.blk b1 98 [Seg.c (g8.v), Seg.c (.int .u64 r.2.1), Seg.c (.int .i64 r.2.2)]]) := by
  refine Ctr.intro (n := 19) (env := [(0, .pointer (some ⟨b1, 0, none⟩)), (1, .int .u32 x6), (2, .int .i64 x7)]) Try.func30 rfl rfl rfl rfl (fun c => ?_)
  unfold F30.m at hm
  refine JC.seq ?_
  refine JC.region ?_
  refine JL.val (v := .int .i64 x7) (QV.move rfl) rfl rfl rfl ?_
  refine JL.val (v := .int .i64 (maxI x7 (0 : Int))) (QV.max2 rfl rfl) rfl rfl rfl ?_
  refine JL.val (v := .int .i64 (minI (maxI x7 (0 : Int)) (32 : Int))) (QV.min2 rfl rfl) rfl rfl rfl ?_
  refine JL.val (v := .int .i64 (minI (maxI x7 (0 : Int)) (32 : Int))) (QV.assign rfl) rfl rfl rfl ?_
  refine JL.nil ?_
  refine QJ.then_normal ?_
  refine JC.seq ?_
  refine JC.region ?_
  refine JL.val (v := .int .i64 (minI (maxI x7 (0 : Int)) (32 : Int))) (QV.move rfl) rfl rfl rfl ?_
  refine JL.val (v := .bool (decide ((0 : Int) < (minI (maxI x7 (0 : Int)) (32 : Int))))) (QV.gtr rfl rfl) rfl rfl rfl ?_
  refine JL.nil ?_
  refine QJ.then_normal ?_
  refine JC.cutK (Y := (List Int × Int × Int) × SlV) (fun y => match y with | ((d13, d14, d15), _) => F30.j1 (d13) (d14) (d15) = some r) (fun y => match y with | ((d13, d14, d15), z12) => []) (fun y => match y with | ((d13, d14, d15), z12) => [Asr.of 5 (Enc.int .u8) (z12.v) d13, Asr.blk b1 98 [Seg.c (z12.v), Seg.c (.int .u64 d14), Seg.c (.int .i64 d15)]]) ?_ ?_
  ·
    rintro ⟨⟨d13, d14, d15⟩, z12⟩ hm
    unfold F30.j1 at hm
    show QJ _ _ [] [Asr.of 5 (Enc.int .u8) (z12.v) d13, Asr.blk b1 98 [Seg.c (z12.v), Seg.c (.int .u64 d14), Seg.c (.int .i64 d15)]] _ _
    obtain rfl := Option.some.inj hm
    exact QJ.body (vs := []) (.inr rfl) rfl ResVs.nil [0, 1] rfl rfl (.inr ⟨own_of _ _ _ _, own_blk _ _ _, trivial⟩) ⟨z12, rfl, rfl⟩
  ·
    rcases ite_inv hm with ⟨h16, hm⟩ | ⟨h16, hm⟩
    ·
      refine JC.condT' rfl (decide_eq_true h16) ?_
      refine JC.region ?_
      refine JL.val (v := .pointer (some ⟨b1, 0, none⟩)) (QV.move rfl) rfl rfl rfl ?_
      refine JL.val (v := .int .u32 x6) (QV.move rfl) rfl rfl rfl ?_
      obtain ⟨y17, hc18, hm⟩ := bind_inv hm
      refine JL.mv (d := some 13) (MV.call (Lo := []) (Lr := [Asr.blk b1 98 [Seg.c (s2.v), Seg.c (.int .u64 x4), Seg.c (.int .i64 x5)], Asr.of 5 (Enc.int .u8) (s2.v) x3]) (F63.spec (x6) _ hc18) rfl Try.func63 rfl rfl rfl [] [0, 1] rfl rfl rfl trivial) rfl rfl rfl ?_
      rintro _ _ ⟨_, ⟨rfl, rfl⟩, rfl⟩
      refine JL.val (v := .int .i64 (minI (maxI x7 (0 : Int)) (32 : Int))) (QV.move rfl) rfl rfl rfl ?_
      refine JL.val (v := .int .i64 (IntKind.wrap .i64 ((32 : Int) - (minI (maxI x7 (0 : Int)) (32 : Int))))) (QV.sub rfl rfl) rfl rfl rfl ?_
      obtain ⟨h19, hm⟩ := guard_inv hm
      refine JL.val (v := .int .u32 (shrI .u32 y17 (IntKind.wrap .i64 ((32 : Int) - (minI (maxI x7 (0 : Int)) (32 : Int)))))) (QV.shr rfl rfl h19) rfl rfl rfl ?_
      refine JL.val (v := .int .i64 (minI (maxI x7 (0 : Int)) (32 : Int))) (QV.move rfl) rfl rfl rfl ?_
      obtain ⟨y20, hc21, hm⟩ := bind_inv hm
      refine JL.mv (d := some 18) (MV.call (Lo := [Asr.blk b1 98 [Seg.c (s2.v), Seg.c (.int .u64 x4), Seg.c (.int .i64 x5)], Asr.of 5 (Enc.int .u8) (s2.v) x3]) (Lr := []) (F28.spec (b1) (s2) (x3) (x4) (x5) ((shrI .u32 y17 (IntKind.wrap .i64 ((32 : Int) - (minI (maxI x7 (0 : Int)) (32 : Int)))))) ((minI (maxI x7 (0 : Int)) (32 : Int))) _ hc21) rfl Try.func28 rfl rfl rfl [0, 1] [] rfl rfl rfl trivial) rfl rfl rfl ?_
      rintro _ _ ⟨_, ⟨z22, rfl, rfl⟩, rfl⟩
      refine JL.nil ?_
      exact QJ.cut_normal ((y20.1, y20.2.1, y20.2.2), z22) hm [0, 1] trivial rfl rfl
    ·
      refine JC.condF' rfl (decide_eq_false h16) ?_
      refine JC.skip ?_
      exact QJ.cut_normal ((x3, x4, x5), s2) hm [1, 0] trivial rfl rfl

/-! ### 64: slices.Clone[[]byte,byte] -/
noncomputable def F64.m (x2 : List Int) : Option (List Int) :=
  if (([] : List Int).length + x2.length) * 1 ≤ 140737488355328 ∧ ([] : List Int).length + x2.length ≤ 9223372036854775807 then some x2 else none
set_option maxRecDepth 100000 in
set_option maxHeartbeats 4000000 in
theorem F64.spec (s1 : SlV) (x2 : List Int) (r : List Int) (hm : F64.m x2 = some r) :
    Ctr Try.prog false 64 [s1.v] [Asr.vw (Enc.int .u8) (s1.v) x2] (fun v L' => ∃ (g1 : SlV), v = g1.v ∧ L' = [Asr.of 5 (Enc.int .u8) (g1.v) r]) := by
  refine Ctr.intro (n := 8) (env := [(0, s1.v)]) Try.func64 rfl rfl rfl rfl (fun c => ?_)
  unfold F64.m at hm
  obtain ⟨h4, hm⟩ := guard_inv hm
  obtain rfl := Option.some.inj hm
  refine JC.seq ?_
  refine JC.region ?_
  refine JL.ent (fun _ hs => hs.nil 5 (Enc.int .u8)) ?_
  refine JL.val (v := SlV.nil.v) (QV.assign rfl) rfl rfl rfl ?_
  refine JL.nil ?_
  refine QJ.then_normal ?_
  refine JC.seq ?_
  refine JC.seq ?_
  refine JC.region ?_
  refine JL.val (v := s1.v) (QV.move rfl) rfl rfl rfl ?_
  refine JL.val (v := .bool (decide (s1.a = none))) (QV.eqlNil Try.underlying26 rfl rfl) rfl rfl rfl ?_
  refine JL.nil ?_
  refine QJ.then_normal ?_
  refine JC.cond (decide (s1.a = none)) rfl (fun hb => ?_) (fun hb => ?_)
  · refine JC.fact ((Rdg.vw 1 rfl : Rdg c _ (Enc.int .u8) s1.v x2).none_nil (of_decide_eq_true hb)) (fun hx => ?_)
    subst hx
    refine JC.seq ?_
    refine JC.region ?_
    refine JL.ent (fun _ hs => hs.nil 5 (Enc.int .u8)) ?_
    refine JL.val (v := SlV.nil.v) (QV.assign rfl) rfl rfl rfl ?_
    refine JL.nil ?_
    refine QJ.then_normal ?_
    refine JC.ret ?_
    refine QJ.then_ret ?_
    exact QJ.body (vs := [SlV.nil.v]) (.inl rfl) rfl (ResVs.cons (ResV.tmp rfl) ResVs.nil) [0] rfl rfl (.inr ⟨own_of _ _ _ _, trivial⟩) ⟨SlV.nil, rfl, rfl⟩
  · refine JC.skip ?_
    refine QJ.then_normal ?_
    refine JC.seq ?_
    refine JC.region ?_
    refine JL.mv (d := some 5) (MV.lit0 (Enc.int .u8) Try.underlying26 (by kernel_rfl)) rfl rfl rfl ?_
    rintro _ _ ⟨z8, rfl, rfl⟩
    refine JL.val (v := s1.v) (QV.move rfl) rfl rfl rfl ?_
    refine JL.mv (d := some 7) (MV.append 0 rfl (Rdg.vw 2 rfl) Try.underlying26 zi_5 rfl (by decide) rfl rfl h4) rfl rfl rfl ?_
    rintro _ _ ⟨z9, rfl, rfl⟩
    refine JL.val (v := z9.v) (QV.assign rfl) rfl rfl rfl ?_
    refine JL.nil ?_
    refine QJ.then_normal ?_
    refine JC.ret ?_
    exact QJ.body (vs := [z9.v]) (.inl rfl) rfl (ResVs.cons (ResV.tmp rfl) ResVs.nil) [0] rfl rfl (.inr ⟨own_of _ _ _ _, trivial⟩) ⟨z9, rfl, rfl⟩

/-! ### 37: (*drogher/bits.Writer).Bytes -/
noncomputable def F37.j1  (d12 : List Int) : Option (List Int) :=
  some d12
noncomputable def F37.m (x3 : List Int) (x4 : Int) (x5 : Int) : Option (List Int) :=
  ((F64.m (x3)).bind fun y8 => (if (0 : Int) < x5 then (if ((y8).length + ([(IntKind.wrap .u8 x4)]).length) * 1 ≤ 140737488355328 ∧ (y8).length + ([(IntKind.wrap .u8 x4)]).length ≤ 9223372036854775807 then F37.j1 ((y8 ++ [(IntKind.wrap .u8 x4)])) else none) else F37.j1 (y8)))
set_option maxRecDepth 100000 in
set_option maxHeartbeats 4000000 in
theorem F37.spec (b1 : Nat) (s2 : SlV) (x3 : List Int) (x4 : Int) (x5 : Int) (r : (List Int)) (hm : F37.m x3 x4 x5 = some r) :
    Ctr Try.prog false 37 [.pointer (some ⟨b1, 0, none⟩)] [Asr.blk b1 98 [Seg.c (s2.v), Seg.c (.int .u64 x4), Seg.c (.int .i64 x5)], Asr.of 5 (Enc.int .u8) (s2.v) x3] (fun v L' => ∃ (g6 : SlV), v = g6.v ∧ L' = [Asr.of 5 (Enc.int .u8) (g6.v) r, Asr.of 5 (Enc.int .u8) (s2.v) x3, Asr.blk b1 98 [Seg.c (s2.v), Seg.c (.int .u64 x4), Seg.c (.int .i64 x5)]]) := by
  refine Ctr.intro (n := 25) (env := [(0, .pointer (some ⟨b1, 0, none⟩))]) Try.func37 rfl rfl rfl rfl (fun c => ?_)
  unfold F37.m at hm
  refine JC.seq ?_
  refine JC.region ?_
  refine JL.ent (fun _ hs => hs.nil 5 (Enc.int .u8)) ?_
  refine JL.val (v := SlV.nil.v) (QV.assign rfl) rfl rfl rfl ?_
  refine JL.nil ?_
  refine QJ.then_normal ?_
  refine JC.seq ?_
  refine JC.seq ?_
  refine JC.region ?_
  refine JL.val (v := .pointer (some ⟨b1, 0, none⟩)) (QV.move rfl) rfl rfl rfl ?_
  refine JL.val (v := .bool false) ((QV.eq (QV.eqlP Try.underlying40 rfl rfl (.inr rfl)) (by simp))) rfl rfl rfl ?_
  refine JL.nil ?_
  refine QJ.then_normal ?_
  refine JC.condF rfl ?_
  refine JC.skip ?_
  refine QJ.then_normal ?_
  refine JC.seq ?_
  refine JC.region ?_
  refine JL.val (v := .pointer (some ⟨b1, 0, none⟩)) (QV.move rfl) rfl rfl rfl ?_
  refine JL.val (v := .pointer (some ⟨b1, 0, none⟩)) (QV.nilCheck rfl) rfl rfl rfl ?_
  refine JL.val (v := .pointer (some ⟨b1, 0, none⟩)) (QV.fieldB fo_98_0 rfl rfl) rfl rfl rfl ?_
  refine JL.val (v := s2.v) (QV.load1 (ss := [Seg.c (s2.v), Seg.c (.int .u64 x4), Seg.c (.int .i64 x5)]) 1 0 rfl tk_26 rfl rfl rfl) rfl rfl rfl ?_
  obtain ⟨y8, hc9, hm⟩ := bind_inv hm
  refine JL.mv (d := some 10) (MV.call (Lo := []) (Lr := [Asr.of 5 (Enc.int .u8) (SlV.nil.v) ([] : List Int), Asr.blk b1 98 [Seg.c (s2.v), Seg.c (.int .u64 x4), Seg.c (.int .i64 x5)], Asr.of 5 (Enc.int .u8) (s2.v) x3]) (F64.spec (s2) (x3) _ hc9) rfl Try.func64 rfl rfl rfl [] [0, 1, 2] rfl rfl rfl ⟨(Drv.of 2 rfl), trivial⟩) rfl rfl rfl ?_
  rintro _ _ ⟨_, ⟨z10, rfl, rfl⟩, rfl⟩
  refine JL.val (v := z10.v) (QV.assign rfl) rfl rfl rfl ?_
  refine JL.nil ?_
  refine QJ.then_normal ?_
  refine JC.seq ?_
  refine JC.seq ?_
  refine JC.region ?_
  refine JL.val (v := .pointer (some ⟨b1, 0, none⟩)) (QV.move rfl) rfl rfl rfl ?_
  refine JL.val (v := .pointer (some ⟨b1, 0, none⟩)) (QV.nilCheck rfl) rfl rfl rfl ?_
  refine JL.val (v := .pointer (some ⟨b1, 2, none⟩)) (QV.fieldB fo_98_2 rfl rfl) rfl rfl rfl ?_
  refine JL.val (v := .int .i64 x5) (QV.load1 (ss := [Seg.c (s2.v), Seg.c (.int .u64 x4), Seg.c (.int .i64 x5)]) 2 2 rfl tk_3 rfl rfl rfl) rfl rfl rfl ?_
  refine JL.val (v := .bool (decide ((0 : Int) < x5))) (QV.gtr rfl rfl) rfl rfl rfl ?_
  refine JL.nil ?_
  refine QJ.then_normal ?_
  refine JC.cutK (Y := (List Int) × SlV) (fun y => match y with | (d12, _) => F37.j1 (d12) = some r) (fun y => match y with | (d12, z11) => [(3, z11.v)]) (fun y => match y with | (d12, z11) => [Asr.of 5 (Enc.int .u8) (z11.v) d12, Asr.of 5 (Enc.int .u8) (s2.v) x3, Asr.blk b1 98 [Seg.c (s2.v), Seg.c (.int .u64 x4), Seg.c (.int .i64 x5)]]) ?_ ?_
  ·
    rintro ⟨d12, z11⟩ hm
    unfold F37.j1 at hm
    show QJ _ _ [(3, z11.v)] [Asr.of 5 (Enc.int .u8) (z11.v) d12, Asr.of 5 (Enc.int .u8) (s2.v) x3, Asr.blk b1 98 [Seg.c (s2.v), Seg.c (.int .u64 x4), Seg.c (.int .i64 x5)]] _ _
    refine QJ.then_normal ?_
    refine JC.seq ?_
    refine JC.region ?_
    refine JL.val (v := z11.v) (QV.move rfl) rfl rfl rfl ?_
    refine JL.val (v := z11.v) (QV.assign rfl) rfl rfl rfl ?_
    refine JL.nil ?_
    refine QJ.then_normal ?_
    refine JC.ret ?_
    obtain rfl := Option.some.inj hm
    exact QJ.body (vs := [z11.v]) (.inl rfl) rfl (ResVs.cons (ResV.tmp rfl) ResVs.nil) [0, 1, 2] rfl rfl (.inr ⟨own_of _ _ _ _, own_of _ _ _ _, own_blk _ _ _, trivial⟩) ⟨z11, rfl, rfl⟩
  ·
    rcases ite_inv hm with ⟨h13, hm⟩ | ⟨h13, hm⟩
    ·
      refine JC.condT' rfl (decide_eq_true h13) ?_
      refine JC.region ?_
      refine JL.val (v := z10.v) (QV.move rfl) rfl rfl rfl ?_
      refine JL.val (v := .pointer (some ⟨b1, 0, none⟩)) (QV.move rfl) rfl rfl rfl ?_
      refine JL.val (v := .pointer (some ⟨b1, 0, none⟩)) (QV.nilCheck rfl) rfl rfl rfl ?_
      refine JL.val (v := .pointer (some ⟨b1, 1, none⟩)) (QV.fieldB fo_98_1 rfl rfl) rfl rfl rfl ?_
      refine JL.val (v := .int .u64 x4) (QV.load1 (ss := [Seg.c (s2.v), Seg.c (.int .u64 x4), Seg.c (.int .i64 x5)]) 2 1 rfl tk_96 rfl rfl rfl) rfl rfl rfl ?_
      refine JL.val (v := .int .u8 (IntKind.wrap .u8 x4)) (QV.conv rfl (by rw [Try.underlying96]; rfl) Try.underlying5) rfl rfl rfl ?_
      refine JL.mv (d := some 22) (MV.lit (E := (Enc.int .u8)) (vals := [(0, .int .u8 (IntKind.wrap .u8 x4))]) [(IntKind.wrap .u8 x4)] Try.underlying26 zi_5 rfl (by decide) rfl (by kernel_rfl)) rfl rfl rfl ?_
      rintro _ _ ⟨z14, rfl, rfl⟩
      obtain ⟨h15, hm⟩ := guard_inv hm
      refine JL.mv (d := some 23) (MV.append 1 rfl (Rdg.of 0 rfl) Try.underlying26 zi_5 rfl (by decide) rfl rfl h15) rfl rfl rfl ?_
      rintro _ _ ⟨z16, rfl, rfl⟩
      refine JL.val (v := z16.v) (QV.assign rfl) rfl rfl rfl ?_
      refine JL.nil ?_
      exact QJ.cut_normal ((y8 ++ [(IntKind.wrap .u8 x4)]), z16) hm [1, 4, 3] (by exact ⟨rfl, trivial⟩) rfl rfl
    ·
      refine JC.condF' rfl (decide_eq_false h13) ?_
      refine JC.skip ?_
      exact QJ.cut_normal (y8, z10) hm [0, 3, 2] (by exact ⟨rfl, trivial⟩) rfl rfl

/-! ### 36: (*drogher/bits.Writer).Len -/
noncomputable def F36.m (x3 : List Int) (x4 : Int) (x5 : Int) : Option Int :=
  some (IntKind.wrap .i64 ((IntKind.wrap .i64 ((8 : Int) * ((x3).length : Int))) + x5))
set_option maxRecDepth 100000 in
set_option maxHeartbeats 4000000 in
theorem F36.spec (b1 : Nat) (s2 : SlV) (x3 : List Int) (x4 : Int) (x5 : Int) (r : Int) (hm : F36.m x3 x4 x5 = some r) :
    Ctr Try.prog false 36 [.pointer (some ⟨b1, 0, none⟩)] [Asr.blk b1 98 [Seg.c (s2.v), Seg.c (.int .u64 x4), Seg.c (.int .i64 x5)], Asr.of 5 (Enc.int .u8) (s2.v) x3] (fun v L' => v = .int .i64 r ∧ L' = [Asr.of 5 (Enc.int .u8) (s2.v) x3, Asr.blk b1 98 [Seg.c (s2.v), Seg.c (.int .u64 x4), Seg.c (.int .i64 x5)]]) := by
  refine Ctr.intro (n := 16) (env := [(0, .pointer (some ⟨b1, 0, none⟩))]) Try.func36 rfl rfl rfl rfl (fun c => ?_)
  unfold F36.m at hm
  refine JC.seq ?_
  refine JC.region ?_
  refine JL.val (v := .int .i64 (0 : Int)) (QV.assign rfl) rfl rfl rfl ?_
  refine JL.nil ?_
  refine QJ.then_normal ?_
  refine JC.seq ?_
  refine JC.seq ?_
  refine JC.region ?_
  refine JL.val (v := .pointer (some ⟨b1, 0, none⟩)) (QV.move rfl) rfl rfl rfl ?_
  refine JL.val (v := .bool false) ((QV.eq (QV.eqlP Try.underlying40 rfl rfl (.inr rfl)) (by simp))) rfl rfl rfl ?_
  refine JL.nil ?_
  refine QJ.then_normal ?_
  refine JC.condF rfl ?_
  refine JC.skip ?_
  refine QJ.then_normal ?_
  refine JC.seq ?_
  refine JC.regionT [Asr.blk b1 98 [Seg.c (s2.v), Seg.c (.int .u64 x4), Seg.c (.int .i64 x5)], Asr.of 5 (Enc.int .u8) (s2.v) x3] (fun t => false) [(0, true), (1, true), (2, true), (3, true), (4, true), (5, true), (6, false), (7, false), (8, false), (9, false), (10, false), (11, false)] (by kernel_rfl) (by kernel_rfl) (by kernel_rfl) rfl (fun hsel => ?_)
  refine JT.take (i := 0) (v := .pointer (some ⟨b1, 0, none⟩)) hsel rfl (QV.move rfl) rfl rfl rfl [0, 1] rfl rfl ?_
  refine JT.take (i := 1) (v := .pointer (some ⟨b1, 0, none⟩)) hsel rfl (QV.nilCheck rfl) rfl rfl rfl [0, 1] rfl rfl ?_
  refine JT.take (i := 2) (v := .pointer (some ⟨b1, 0, none⟩)) hsel rfl (QV.fieldB fo_98_0 rfl rfl) rfl rfl rfl [0, 1] rfl rfl ?_
  refine JT.take (i := 3) (v := s2.v) hsel rfl (QV.load1 (ss := [Seg.c (s2.v), Seg.c (.int .u64 x4), Seg.c (.int .i64 x5)]) 0 0 rfl tk_26 rfl rfl rfl) rfl rfl rfl [0, 1] rfl rfl ?_
  refine JT.take (i := 4) (v := .int .i64 ((x3).length : Int)) hsel rfl (QV.len (Rdg.of 1 rfl) Try.underlying26 rfl) rfl rfl rfl [0, 1] rfl rfl ?_
  refine JT.take (i := 5) (v := .int .i64 (IntKind.wrap .i64 ((8 : Int) * ((x3).length : Int)))) hsel rfl (QV.mul rfl rfl) rfl rfl rfl [0, 1] rfl rfl ?_
  refine JT.only (i := 6) (d := some 11) rfl (MV.ofQV (v := .pointer (some ⟨b1, 0, none⟩)) (QV.move rfl)) rfl rfl rfl ?_
  rintro _ _ ⟨rfl, rfl⟩
  refine ⟨fun _ => ⟨[0, 1], rfl, rfl⟩, ?_⟩
  refine JT.only (i := 7) (d := some 12) rfl (MV.ofQV (v := .pointer (some ⟨b1, 0, none⟩)) (QV.nilCheck rfl)) rfl rfl rfl ?_
  rintro _ _ ⟨rfl, rfl⟩
  refine ⟨fun _ => ⟨[0, 1], rfl, rfl⟩, ?_⟩
  refine JT.only (i := 8) (d := some 13) rfl (MV.ofQV (v := .pointer (some ⟨b1, 2, none⟩)) (QV.fieldB fo_98_2 rfl rfl)) rfl rfl rfl ?_
  rintro _ _ ⟨rfl, rfl⟩
  refine ⟨fun _ => ⟨[0, 1], rfl, rfl⟩, ?_⟩
  refine JT.only (i := 9) (d := some 14) rfl (MV.ofQV (v := .int .i64 x5) (QV.load1 (ss := [Seg.c (s2.v), Seg.c (.int .u64 x4), Seg.c (.int .i64 x5)]) 0 2 rfl tk_3 rfl rfl rfl)) rfl rfl rfl ?_
  rintro _ _ ⟨rfl, rfl⟩
  refine ⟨fun _ => ⟨[0, 1], rfl, rfl⟩, ?_⟩
  refine JT.only (i := 10) (d := some 15) rfl (MV.ofQV (v := .int .i64 (IntKind.wrap .i64 ((IntKind.wrap .i64 ((8 : Int) * ((x3).length : Int))) + x5))) (QV.add rfl rfl)) rfl rfl rfl ?_
  rintro _ _ ⟨rfl, rfl⟩
  refine ⟨fun _ => ⟨[0, 1], rfl, rfl⟩, ?_⟩
  refine JT.only (i := 11) (d := some 2) rfl (MV.ofQV (v := .int .i64 (IntKind.wrap .i64 ((IntKind.wrap .i64 ((8 : Int) * ((x3).length : Int))) + x5))) (QV.assign rfl)) rfl rfl rfl ?_
  rintro _ _ ⟨rfl, rfl⟩
  refine ⟨fun _ => ⟨[0, 1], rfl, rfl⟩, ?_⟩
  refine JT.nil ?_
  refine QJ.then_normal ?_
  refine JC.ret ?_
  obtain rfl := Option.some.inj hm
  exact QJ.body (vs := [.int .i64 (IntKind.wrap .i64 ((IntKind.wrap .i64 ((8 : Int) * ((x3).length : Int))) + x5))]) (.inl rfl) rfl (ResVs.cons (ResV.tmp rfl) ResVs.nil) [1, 0] rfl rfl (.inr ⟨own_of _ _ _ _, own_blk _ _ _, trivial⟩) ⟨rfl, rfl⟩

/-! ### 26: drogher/drogherlaw08.awake -/
noncomputable def F26.m  : Option Bool :=
  ((F27.m).bind fun y2 => ((F28.m (([] : List Int)) ((0 : Int)) ((0 : Int)) ((1 : Int)) ((1 : Int))).bind fun y5 => ((F28.m (y5.1) (y5.2.1) (y5.2.2) ((2 : Int)) ((2 : Int))).bind fun y8 => ((F30.m (y8.1) (y8.2.1) (y8.2.2) ((1 : Int)) ((2 : Int))).bind fun y11 => ((F37.m (y11.1) (y11.2.1) (y11.2.2)).bind fun y14 => (if (strOfNums y14) = (⟨#[21]⟩ : ByteArray) then ((F36.m (y11.1) (y11.2.1) (y11.2.2)).bind fun y18 => some (decide (y18 = (5 : Int)))) else some false))))))
set_option maxRecDepth 100000 in
set_option maxHeartbeats 4000000 in
theorem F26.spec  (r : Bool) (hm : F26.m  = some r) :
    Ctr Try.prog false 26 [] [] (fun v L' => v = .bool r ∧ L' = []) := by
  refine Ctr.intro (n := 18) (env := []) Try.func26 rfl rfl rfl rfl (fun c => ?_)
  unfold F26.m at hm
  refine JC.seq ?_
  refine JC.region ?_
  refine JL.val (v := .bool false) (QV.assign rfl) rfl rfl rfl ?_
  refine JL.nil ?_
  refine QJ.then_normal ?_
  refine JC.seq ?_
  refine JC.region ?_
  obtain ⟨y2, hc3, hm⟩ := bind_inv hm
  refine JL.mv (d := some 2) (MV.call (Lo := []) (Lr := []) (F27.spec _ hc3) rfl Try.func27 rfl rfl rfl [] [] rfl rfl rfl trivial) rfl rfl rfl ?_
  rintro _ _ ⟨_, ⟨b4, rfl, rfl⟩, rfl⟩
  refine JL.val (v := .pointer (some ⟨b4, 0, none⟩)) (QV.assign rfl) rfl rfl rfl ?_
  refine JL.nil ?_
  refine QJ.then_normal ?_
  refine JC.seq ?_
  refine JC.region ?_
  refine JL.val (v := .pointer (some ⟨b4, 0, none⟩)) (QV.move rfl) rfl rfl rfl ?_
  obtain ⟨y5, hc6, hm⟩ := bind_inv hm
  refine JL.mv (d := some 4) (MV.call (Lo := [Asr.blk b4 98 [Seg.c (SlV.nil.v), Seg.c (.int .u64 (0 : Int)), Seg.c (.int .i64 (0 : Int))], Asr.of 5 (Enc.int .u8) (SlV.nil.v) ([] : List Int)]) (Lr := []) (F28.spec (b4) (SlV.nil) (([] : List Int)) ((0 : Int)) ((0 : Int)) ((1 : Int)) ((1 : Int)) _ hc6) rfl Try.func28 rfl rfl rfl [1, 0] [] rfl rfl rfl trivial) rfl rfl rfl ?_
  rintro _ _ ⟨_, ⟨z7, rfl, rfl⟩, rfl⟩
  refine JL.nil ?_
  refine QJ.then_normal ?_
  refine JC.seq ?_
  refine JC.region ?_
  refine JL.val (v := .pointer (some ⟨b4, 0, none⟩)) (QV.move rfl) rfl rfl rfl ?_
  obtain ⟨y8, hc9, hm⟩ := bind_inv hm
  refine JL.mv (d := some 6) (MV.call (Lo := [Asr.blk b4 98 [Seg.c (z7.v), Seg.c (.int .u64 y5.2.1), Seg.c (.int .i64 y5.2.2)], Asr.of 5 (Enc.int .u8) (z7.v) y5.1]) (Lr := []) (F28.spec (b4) (z7) (y5.1) (y5.2.1) (y5.2.2) ((2 : Int)) ((2 : Int)) _ hc9) rfl Try.func28 rfl rfl rfl [1, 0] [] rfl rfl rfl trivial) rfl rfl rfl ?_
  rintro _ _ ⟨_, ⟨z10, rfl, rfl⟩, rfl⟩
  refine JL.nil ?_
  refine QJ.then_normal ?_
  refine JC.seq ?_
  refine JC.region ?_
  refine JL.val (v := .pointer (some ⟨b4, 0, none⟩)) (QV.move rfl) rfl rfl rfl ?_
  obtain ⟨y11, hc12, hm⟩ := bind_inv hm
  refine JL.mv (d := some 8) (MV.call (Lo := [Asr.blk b4 98 [Seg.c (z10.v), Seg.c (.int .u64 y8.2.1), Seg.c (.int .i64 y8.2.2)], Asr.of 5 (Enc.int .u8) (z10.v) y8.1]) (Lr := []) (F30.spec (b4) (z10) (y8.1) (y8.2.1) (y8.2.2) ((1 : Int)) ((2 : Int)) _ hc12) rfl Try.func30 rfl rfl rfl [1, 0] [] rfl rfl rfl trivial) rfl rfl rfl ?_
  rintro _ _ ⟨_, ⟨z13, rfl, rfl⟩, rfl⟩
  refine JL.nil ?_
  refine QJ.then_normal ?_
  refine JC.seq ?_
  refine JC.region ?_
  refine JL.val (v := .pointer (some ⟨b4, 0, none⟩)) (QV.move rfl) rfl rfl rfl ?_
  obtain ⟨y14, hc15, hm⟩ := bind_inv hm
  refine JL.mv (d := some 10) (MV.call (Lo := [Asr.blk b4 98 [Seg.c (z13.v), Seg.c (.int .u64 y11.2.1), Seg.c (.int .i64 y11.2.2)], Asr.of 5 (Enc.int .u8) (z13.v) y11.1]) (Lr := []) (F37.spec (b4) (z13) (y11.1) (y11.2.1) (y11.2.2) _ hc15) rfl Try.func37 rfl rfl rfl [1, 0] [] rfl rfl rfl trivial) rfl rfl rfl ?_
  rintro _ _ ⟨_, ⟨z16, rfl, rfl⟩, rfl⟩
  refine JL.val (v := .string (strOfNums y14)) (QV.str (Rdg.of 0 rfl) Try.underlying26 Try.underlying5 Try.underlying9 rfl) rfl rfl rfl ?_
  refine JL.val (v := .bool (decide ((strOfNums y14) = (⟨#[21]⟩ : ByteArray)))) (QV.eqlS rfl rfl) rfl rfl rfl ?_
  rcases ite_inv hm with ⟨h17, hm⟩ | ⟨h17, hm⟩
  ·
    refine JL.val (v := .bool true) (QV.eq (QV.move rfl) (congrArg Value.bool (decide_eq_true h17))) rfl rfl rfl ?_
    refine JL.val (v := .pointer (some ⟨b4, 0, none⟩)) (QV.move rfl) rfl rfl rfl ?_
    obtain ⟨y18, hc19, hm⟩ := bind_inv hm
    refine JL.mv (d := some 15) (MV.call (Lo := [Asr.blk b4 98 [Seg.c (z13.v), Seg.c (.int .u64 y11.2.1), Seg.c (.int .i64 y11.2.2)], Asr.of 5 (Enc.int .u8) (z13.v) y11.1]) (Lr := [Asr.of 5 (Enc.int .u8) (z16.v) y14]) (F36.spec (b4) (z13) (y11.1) (y11.2.1) (y11.2.2) _ hc19) rfl Try.func36 rfl rfl rfl [2, 1] [0] rfl rfl rfl trivial) rfl rfl rfl ?_
    rintro _ _ ⟨_, ⟨rfl, rfl⟩, rfl⟩
    refine JL.val (v := .bool (decide (y18 = (5 : Int)))) (QV.eql rfl rfl) rfl rfl rfl ?_
    refine JL.val (v := .bool (decide (y18 = (5 : Int)))) (QV.pickT rfl rfl) rfl rfl rfl ?_
    refine JL.val (v := .bool (decide (y18 = (5 : Int)))) (QV.assign rfl) rfl rfl rfl ?_
    refine JL.nil ?_
    refine QJ.then_normal ?_
    refine JC.ret ?_
    obtain rfl := Option.some.inj hm
    exact QJ.body (vs := [.bool (decide (y18 = (5 : Int)))]) (.inl rfl) rfl (ResVs.cons (ResV.tmp rfl) ResVs.nil) [] rfl rfl (.inr trivial) ⟨rfl, rfl⟩
  ·
    refine JL.val (v := .bool false) (QV.eq (QV.move rfl) (congrArg Value.bool (decide_eq_false h17))) rfl rfl rfl ?_
    refine JL.skip (d := some 14) rfl rfl rfl ?_
    refine JL.skip (d := some 15) rfl rfl rfl ?_
    refine JL.skip (d := some 16) rfl rfl rfl ?_
    refine JL.val (v := .bool false) (QV.pickF rfl rfl) rfl rfl rfl ?_
    refine JL.val (v := .bool false) (QV.assign rfl) rfl rfl rfl ?_
    refine JL.nil ?_
    refine QJ.then_normal ?_
    refine JC.ret ?_
    obtain rfl := Option.some.inj hm
    exact QJ.body (vs := [.bool false]) (.inl rfl) rfl (ResVs.cons (ResV.tmp rfl) ResVs.nil) [] rfl rfl (.inr trivial) ⟨rfl, rfl⟩

/-! ### 38: drogher/bits.NewReader -/
noncomputable def F38.m (x2 : List Int) : Option (List Int) :=
  ((F64.m (x2)).bind fun y6 => some y6)
set_option maxRecDepth 100000 in
set_option maxHeartbeats 4000000 in
theorem F38.spec (s1 : SlV) (x2 : List Int) (r : (List Int)) (hm : F38.m x2 = some r) :
    Ctr Try.prog false 38 [s1.v] [Asr.vw (Enc.int .u8) (s1.v) x2] (fun v L' => ∃ (g3 : Nat), ∃ (g4 : SlV), v = .pointer (some ⟨g3, 0, none⟩) ∧ L' = [Asr.of 5 (Enc.int .u8) (g4.v) r, Asr.blk g3 101 [Seg.c (g4.v), Seg.c (.int .i64 (0 : Int))]]) := by
  refine Ctr.intro (n := 7) (env := [(0, s1.v)]) Try.func38 rfl rfl rfl rfl (fun c => ?_)
  unfold F38.m at hm
  refine JC.seq ?_
  refine JC.region ?_
  refine JL.val (v := .pointer none) (QV.assign rfl) rfl rfl rfl ?_
  refine JL.nil ?_
  refine QJ.then_normal ?_
  refine JC.seq ?_
  refine JC.region ?_
  refine JL.val (v := s1.v) (QV.move rfl) rfl rfl rfl ?_
  obtain ⟨y6, hc7, hm⟩ := bind_inv hm
  refine JL.mv (d := some 4) (MV.call (Lo := []) (Lr := [Asr.vw (Enc.int .u8) (s1.v) x2]) (F64.spec (s1) (x2) _ hc7) rfl Try.func64 rfl rfl rfl [] [0] rfl rfl rfl ⟨(Drv.vw 0 rfl), trivial⟩) rfl rfl rfl ?_
  rintro _ _ ⟨_, ⟨z8, rfl, rfl⟩, rfl⟩
  refine JL.ent (fun _ hs => hs.nil 5 (Enc.int .u8)) ?_
  refine JL.val (v := .agg #[z8.v, .int .i64 (0 : Int)]) (QV.build (vals := [(0, z8.v)]) rfl (by kernel_rfl)) rfl rfl rfl ?_
  refine JL.mv (d := some 6) (MV.box [Seg.c (z8.v), Seg.c (.int .i64 (0 : Int))] rfl (fun w hs => rfl)) rfl rfl rfl ?_
  rintro _ _ ⟨b9, rfl, rfl⟩
  refine JL.val (v := .pointer (some ⟨b9, 0, none⟩)) (QV.assign rfl) rfl rfl rfl ?_
  refine JL.nil ?_
  refine QJ.then_normal ?_
  refine JC.ret ?_
  obtain rfl := Option.some.inj hm
  exact QJ.body (vs := [.pointer (some ⟨b9, 0, none⟩)]) (.inl rfl) rfl (ResVs.cons (ResV.tmp rfl) ResVs.nil) [2, 0] rfl rfl (.inr ⟨own_of _ _ _ _, own_blk _ _ _, trivial⟩) ⟨b9, z8, rfl, rfl⟩

/-! ### 29: drogher/drogherref08.Number -/
noncomputable def F29.j1  (d7 : List Int) : Option (List Int) :=
  some d7
noncomputable def F29.b1 (x1 : Int) (x2 : Int) : (List Int × Int) → Option ((List Int × Int) ⊕ (List Int))
  | (d9, d10) => (if d10 < x2 then (if d10 < (32 : Int) then (if 0 ≤ d10 then (if ((d9).length + ([(Int.tmod (IntKind.wrap .u8 (shrI .u32 x1 d10)) (2 : Int))]).length) * 1 ≤ 140737488355328 ∧ (d9).length + ([(Int.tmod (IntKind.wrap .u8 (shrI .u32 x1 d10)) (2 : Int))]).length ≤ 9223372036854775807 then some (.inl ((d9 ++ [(Int.tmod (IntKind.wrap .u8 (shrI .u32 x1 d10)) (2 : Int))]), (IntKind.wrap .i64 (d10 + (1 : Int))))) else none) else none) else some (.inr d9)) else some (.inr d9))
noncomputable def F29.m (x1 : Int) (x2 : Int) : Option (List Int) :=
  ((loop (F29.b1 x1 x2) (([] : List Int), (0 : Int))).bind fun y => match y with | d7 => F29.j1 (d7))
set_option maxRecDepth 100000 in
set_option maxHeartbeats 4000000 in
theorem F29.spec (x1 : Int) (x2 : Int) (r : (List Int)) (hm : F29.m x1 x2 = some r) :
    Ctr Try.prog false 29 [.int .u32 x1, .int .i64 x2] [] (fun v L' => ∃ (g3 : SlV), v = g3.v ∧ L' = [Asr.of 5 (Enc.int .u8) (g3.v) r]) := by
  refine Ctr.intro (n := 26) (env := [(0, .int .u32 x1), (1, .int .i64 x2)]) Try.func29 rfl rfl rfl rfl (fun c => ?_)
  unfold F29.m at hm
  refine JC.seq ?_
  refine JC.region ?_
  refine JL.ent (fun _ hs => hs.nil 5 (Enc.int .u8)) ?_
  refine JL.val (v := SlV.nil.v) (QV.assign rfl) rfl rfl rfl ?_
  refine JL.nil ?_
  refine QJ.then_normal ?_
  refine JC.seq ?_
  refine JC.region ?_
  refine JL.mv (d := some 7) (MV.lit0 (Enc.int .u8) Try.underlying26 (by kernel_rfl)) rfl rfl rfl ?_
  rintro _ _ ⟨z5, rfl, rfl⟩
  refine JL.val (v := z5.v) (QV.assign rfl) rfl rfl rfl ?_
  refine JL.nil ?_
  refine QJ.then_normal ?_
  refine JC.seq ?_
  refine JC.seq ?_
  refine JC.region ?_
  refine JL.val (v := .int .i64 (0 : Int)) (QV.assign rfl) rfl rfl rfl ?_
  refine JL.nil ?_
  refine QJ.then_normal ?_
  refine JC.cutK (Y := (List Int) × SlV) (fun y => match y with | (d7, _) => F29.j1 (d7) = some r) (fun y => match y with | (d7, z6) => [(5, z6.v)]) (fun y => match y with | (d7, z6) => [Asr.of 5 (Enc.int .u8) (z6.v) d7]) ?_ ?_
  ·
    rintro ⟨d7, z6⟩ hm
    unfold F29.j1 at hm
    show QJ _ _ [(5, z6.v)] [Asr.of 5 (Enc.int .u8) (z6.v) d7] _ _
    refine QJ.then_normal ?_
    refine JC.seq ?_
    refine JC.region ?_
    refine JL.val (v := z6.v) (QV.move rfl) rfl rfl rfl ?_
    refine JL.val (v := z6.v) (QV.assign rfl) rfl rfl rfl ?_
    refine JL.nil ?_
    refine QJ.then_normal ?_
    refine JC.ret ?_
    obtain rfl := Option.some.inj hm
    exact QJ.body (vs := [z6.v]) (.inl rfl) rfl (ResVs.cons (ResV.tmp rfl) ResVs.nil) [0] rfl rfl (.inr ⟨own_of _ _ _ _, trivial⟩) ⟨z6, rfl, rfl⟩
  ·
    refine JC.block ?_
    obtain ⟨y14, hl15, hmo16⟩ := bind_inv hm
    refine JC.loop (F29.b1 x1 x2) (fun x z => match x, z with | (d9, d10), z8 => [(0, .int .u32 x1), (1, .int .i64 x2), (5, z8.v), (6, .int .i64 d10)]) (fun x z => match x, z with | (d9, d10), z8 => [Asr.of 5 (Enc.int .u8) (z8.v) d9]) (([] : List Int), (0 : Int)) z5 y14 hl15 [0] (by exact ⟨rfl, rfl, rfl, rfl, trivial⟩) rfl rfl ?_
    rintro ⟨d9, d10⟩ z8 s17 hm
    unfold F29.b1 at hm
    dsimp only at hm
    show JC _ _ _ [(0, .int .u32 x1), (1, .int .i64 x2), (5, z8.v), (6, .int .i64 d10)] [Asr.of 5 (Enc.int .u8) (z8.v) d9] _ _
    refine JC.seq ?_
    refine JC.seq ?_
    refine JC.region ?_
    refine JL.val (v := .int .i64 d10) (QV.move rfl) rfl rfl rfl ?_
    refine JL.val (v := .int .i64 x2) (QV.move rfl) rfl rfl rfl ?_
    refine JL.val (v := .bool (decide (d10 < x2))) (QV.lss rfl rfl) rfl rfl rfl ?_
    rcases ite_inv hm with ⟨h18, hm⟩ | ⟨h18, hm⟩
    ·
      refine JL.val (v := .bool true) (QV.eq (QV.move rfl) (congrArg Value.bool (decide_eq_true h18))) rfl rfl rfl ?_
      refine JL.val (v := .int .i64 d10) (QV.move rfl) rfl rfl rfl ?_
      refine JL.val (v := .bool (decide (d10 < (32 : Int)))) (QV.lss rfl rfl) rfl rfl rfl ?_
      refine JL.val (v := .bool (decide (d10 < (32 : Int)))) (QV.pickT rfl rfl) rfl rfl rfl ?_
      refine JL.nil ?_
      refine QJ.then_normal ?_
      rcases ite_inv hm with ⟨h19, hm⟩ | ⟨h19, hm⟩
      ·
        refine JC.condT' rfl (decide_eq_true h19) ?_
        refine JC.skip ?_
        refine QJ.then_normal ?_
        refine JC.seq ?_
        refine JC.block ?_
        refine JC.region ?_
        refine JL.val (v := z8.v) (QV.move rfl) rfl rfl rfl ?_
        refine JL.val (v := .int .u32 x1) (QV.move rfl) rfl rfl rfl ?_
        refine JL.val (v := .int .i64 d10) (QV.move rfl) rfl rfl rfl ?_
        obtain ⟨h20, hm⟩ := guard_inv hm
        refine JL.val (v := .int .u32 (shrI .u32 x1 d10)) (QV.shr rfl rfl h20) rfl rfl rfl ?_
        refine JL.val (v := .int .u8 (IntKind.wrap .u8 (shrI .u32 x1 d10))) (QV.conv rfl (by rw [Try.underlying42]; rfl) Try.underlying5) rfl rfl rfl ?_
        refine JL.val (v := .int .u8 (Int.tmod (IntKind.wrap .u8 (shrI .u32 x1 d10)) (2 : Int))) (QV.rem rfl rfl (by decide)) rfl rfl rfl ?_
        refine JL.mv (d := some 23) (MV.lit (E := (Enc.int .u8)) (vals := [(0, .int .u8 (Int.tmod (IntKind.wrap .u8 (shrI .u32 x1 d10)) (2 : Int)))]) [(Int.tmod (IntKind.wrap .u8 (shrI .u32 x1 d10)) (2 : Int))] Try.underlying26 zi_5 rfl (by decide) rfl (by kernel_rfl)) rfl rfl rfl ?_
        rintro _ _ ⟨z21, rfl, rfl⟩
        obtain ⟨h22, hm⟩ := guard_inv hm
        refine JL.mv (d := some 24) (MV.append 1 rfl (Rdg.of 0 rfl) Try.underlying26 zi_5 rfl (by decide) rfl rfl h22) rfl rfl rfl ?_
        rintro _ _ ⟨z23, rfl, rfl⟩
        refine JL.val (v := z23.v) (QV.assign rfl) rfl rfl rfl ?_
        refine JL.nil ?_
        refine QJ.block_normal ?_
        refine QJ.then_normal ?_
        refine JC.region ?_
        refine JL.val (v := .int .i64 d10) (QV.move rfl) rfl rfl rfl ?_
        refine JL.val (v := .int .i64 (IntKind.wrap .i64 (d10 + (1 : Int)))) (QV.add rfl rfl) rfl rfl rfl ?_
        refine JL.val (v := .int .i64 (IntKind.wrap .i64 (d10 + (1 : Int)))) (QV.assign rfl) rfl rfl rfl ?_
        refine JL.nil ?_
        obtain rfl := Option.some.inj hm
        exact QJ.round_on ((d9 ++ [(Int.tmod (IntKind.wrap .u8 (shrI .u32 x1 d10)) (2 : Int))]), (IntKind.wrap .i64 (d10 + (1 : Int)))) z23 [1] (by exact ⟨rfl, rfl, rfl, rfl, trivial⟩) rfl rfl
      ·
        refine JC.condF' rfl (decide_eq_false h19) ?_
        refine JC.exit ?_
        refine QJ.then_exit ?_
        obtain rfl := Option.some.inj hm
        refine QJ.round_exit (fun hy => ?_)
        subst hy
        refine QJ.block_hit ?_
        exact QJ.cut_normal (d9, z8) hmo16 [0] (by exact ⟨rfl, trivial⟩) rfl rfl
    ·
      refine JL.val (v := .bool false) (QV.eq (QV.move rfl) (congrArg Value.bool (decide_eq_false h18))) rfl rfl rfl ?_
      refine JL.skip (d := some 12) rfl rfl rfl ?_
      refine JL.skip (d := some 13) rfl rfl rfl ?_
      refine JL.val (v := .bool false) (QV.pickF rfl rfl) rfl rfl rfl ?_
      refine JL.nil ?_
      refine QJ.then_normal ?_
      refine JC.condF rfl ?_
      refine JC.exit ?_
      refine QJ.then_exit ?_
      obtain rfl := Option.some.inj hm
      refine QJ.round_exit (fun hy => ?_)
      subst hy
      refine QJ.block_hit ?_
      exact QJ.cut_normal (d9, z8) hmo16 [0] (by exact ⟨rfl, trivial⟩) rfl rfl

/-! ### 33: drogher/drogherref08.Of -/
noncomputable def F33.j1  (d7 : List Int) : Option (List Int) :=
  some d7
noncomputable def F33.b1 (x2 : List Int) : (List Int × Int) → Option ((List Int × Int) ⊕ (List Int))
  | (d9, d10) => (if d10 < ((x2).length : Int) then (if 0 ≤ d10 ∧ d10 < ((x2).length : Int) then ((F29.m ((IntKind.wrap .u32 (gd x2 d10))) ((8 : Int))).bind fun y20 => (if ((d9).length + (y20).length) * 1 ≤ 140737488355328 ∧ (d9).length + (y20).length ≤ 9223372036854775807 then some (.inl ((d9 ++ y20), (IntKind.wrap .i64 (d10 + (1 : Int))))) else none)) else none) else some (.inr d9))
noncomputable def F33.m (x2 : List Int) : Option (List Int) :=
  ((loop (F33.b1 x2) (([] : List Int), (0 : Int))).bind fun y => match y with | d7 => F33.j1 (d7))
set_option maxRecDepth 100000 in
set_option maxHeartbeats 4000000 in
theorem F33.spec (s1 : SlV) (x2 : List Int) (r : (List Int)) (hm : F33.m x2 = some r) :
    Ctr Try.prog false 33 [s1.v] [Asr.vw (Enc.int .u8) (s1.v) x2] (fun v L' => ∃ (g3 : SlV), v = g3.v ∧ L' = [Asr.of 5 (Enc.int .u8) (g3.v) r]) := by
  refine Ctr.intro (n := 21) (env := [(0, s1.v)]) Try.func33 rfl rfl rfl rfl (fun c => ?_)
  unfold F33.m at hm
  refine JC.seq ?_
  refine JC.region ?_
  refine JL.ent (fun _ hs => hs.nil 5 (Enc.int .u8)) ?_
  refine JL.val (v := SlV.nil.v) (QV.assign rfl) rfl rfl rfl ?_
  refine JL.nil ?_
  refine QJ.then_normal ?_
  refine JC.seq ?_
  refine JC.region ?_
  refine JL.mv (d := some 5) (MV.lit0 (Enc.int .u8) Try.underlying26 (by kernel_rfl)) rfl rfl rfl ?_
  rintro _ _ ⟨z5, rfl, rfl⟩
  refine JL.val (v := z5.v) (QV.assign rfl) rfl rfl rfl ?_
  refine JL.nil ?_
  refine QJ.then_normal ?_
  refine JC.seq ?_
  refine JC.seq ?_
  refine JC.region ?_
  refine JL.val (v := s1.v) (QV.move rfl) rfl rfl rfl ?_
  refine JL.val (v := .int .i64 ((x2).length : Int)) (QV.len (Rdg.vw 2 rfl) Try.underlying26 rfl) rfl rfl rfl ?_
  refine JL.val (v := .int .i64 (0 : Int)) (QV.move rfl) rfl rfl rfl ?_
  refine JL.nil ?_
  refine QJ.then_normal ?_
  refine JC.cutK (Y := (List Int) × SlV) (fun y => match y with | (d7, _) => F33.j1 (d7) = some r) (fun y => match y with | (d7, z6) => [(3, z6.v)]) (fun y => match y with | (d7, z6) => [Asr.of 5 (Enc.int .u8) (z6.v) d7]) ?_ ?_
  ·
    rintro ⟨d7, z6⟩ hm
    unfold F33.j1 at hm
    show QJ _ _ [(3, z6.v)] [Asr.of 5 (Enc.int .u8) (z6.v) d7] _ _
    refine QJ.then_normal ?_
    refine JC.seq ?_
    refine JC.region ?_
    refine JL.val (v := z6.v) (QV.move rfl) rfl rfl rfl ?_
    refine JL.val (v := z6.v) (QV.assign rfl) rfl rfl rfl ?_
    refine JL.nil ?_
    refine QJ.then_normal ?_
    refine JC.ret ?_
    obtain rfl := Option.some.inj hm
    exact QJ.body (vs := [z6.v]) (.inl rfl) rfl (ResVs.cons (ResV.tmp rfl) ResVs.nil) [0] rfl rfl (.inr ⟨own_of _ _ _ _, trivial⟩) ⟨z6, rfl, rfl⟩
  ·
    refine JC.block ?_
    obtain ⟨y14, hl15, hmo16⟩ := bind_inv hm
    refine JC.loop (F33.b1 x2) (fun x z => match x, z with | (d9, d10), z8 => [(0, s1.v), (3, z8.v), (7, .int .i64 ((x2).length : Int)), (8, .int .i64 d10)]) (fun x z => match x, z with | (d9, d10), z8 => [Asr.vw (Enc.int .u8) (s1.v) x2, Asr.of 5 (Enc.int .u8) (z8.v) d9]) (([] : List Int), (0 : Int)) z5 y14 hl15 [2, 0] (by exact ⟨rfl, rfl, rfl, rfl, trivial⟩) rfl rfl ?_
    rintro ⟨d9, d10⟩ z8 s17 hm
    unfold F33.b1 at hm
    dsimp only at hm
    show JC _ _ _ [(0, s1.v), (3, z8.v), (7, .int .i64 ((x2).length : Int)), (8, .int .i64 d10)] [Asr.vw (Enc.int .u8) (s1.v) x2, Asr.of 5 (Enc.int .u8) (z8.v) d9] _ _
    refine JC.seq ?_
    refine JC.region ?_
    refine JL.val (v := .bool (decide (d10 < ((x2).length : Int)))) (QV.lss rfl rfl) rfl rfl rfl ?_
    refine JL.nil ?_
    refine QJ.then_normal ?_
    refine JC.seq ?_
    rcases ite_inv hm with ⟨h18, hm⟩ | ⟨h18, hm⟩
    ·
      refine JC.condT' rfl (decide_eq_true h18) ?_
      refine JC.skip ?_
      refine QJ.then_normal ?_
      refine JC.seq ?_
      refine JC.block ?_
      refine JC.seq ?_
      refine JC.region ?_
      refine JL.val (v := .int .i64 d10) (QV.move rfl) rfl rfl rfl ?_
      refine JL.val (v := .int .i64 d10) (QV.assign rfl) rfl rfl rfl ?_
      refine JL.nil ?_
      refine QJ.then_normal ?_
      refine JC.region ?_
      refine JL.val (v := z8.v) (QV.move rfl) rfl rfl rfl ?_
      refine JL.val (v := s1.v) (QV.move rfl) rfl rfl rfl ?_
      refine JL.val (v := .int .i64 d10) (QV.move rfl) rfl rfl rfl ?_
      obtain ⟨h19, hm⟩ := guard_inv hm
      refine JL.val (v := .pointer (some (elA (s1.v) (Int.toNat d10 * ((Enc.int .u8)).sz)))) (QV.indexA (Rdg.vw 0 rfl) Try.underlying26 tk_5 rfl rfl h19) rfl rfl rfl ?_
      refine JL.val (v := .int .u8 (gd x2 d10)) (QV.el1 (Rdg.vw 0 rfl) tk_5 rfl h19 rfl) rfl rfl rfl ?_
      refine JL.val (v := .int .u32 (IntKind.wrap .u32 (gd x2 d10))) (QV.conv rfl (by rw [Try.underlying5]; rfl) Try.underlying42) rfl rfl rfl ?_
      obtain ⟨y20, hc21, hm⟩ := bind_inv hm
      refine JL.mv (d := some 17) (MV.call (Lo := []) (Lr := [Asr.vw (Enc.int .u8) (s1.v) x2, Asr.of 5 (Enc.int .u8) (z8.v) d9]) (F29.spec ((IntKind.wrap .u32 (gd x2 d10))) ((8 : Int)) _ hc21) rfl Try.func29 rfl rfl rfl [] [0, 1] rfl rfl rfl trivial) rfl rfl rfl ?_
      rintro _ _ ⟨_, ⟨z22, rfl, rfl⟩, rfl⟩
      obtain ⟨h23, hm⟩ := guard_inv hm
      refine JL.mv (d := some 18) (MV.append 2 rfl (Rdg.of 0 rfl) Try.underlying26 zi_5 rfl (by decide) rfl rfl h23) rfl rfl rfl ?_
      rintro _ _ ⟨z24, rfl, rfl⟩
      refine JL.val (v := z24.v) (QV.assign rfl) rfl rfl rfl ?_
      refine JL.nil ?_
      refine QJ.block_normal ?_
      refine QJ.then_normal ?_
      refine JC.region ?_
      refine JL.val (v := .int .i64 (IntKind.wrap .i64 (d10 + (1 : Int)))) (QV.add rfl rfl) rfl rfl rfl ?_
      refine JL.val (v := .int .i64 (IntKind.wrap .i64 (d10 + (1 : Int)))) (QV.move rfl) rfl rfl rfl ?_
      refine JL.nil ?_
      obtain rfl := Option.some.inj hm
      exact QJ.round_on ((d9 ++ y20), (IntKind.wrap .i64 (d10 + (1 : Int)))) z24 [1, 2] (by exact ⟨rfl, rfl, rfl, rfl, trivial⟩) rfl rfl
    ·
      refine JC.condF' rfl (decide_eq_false h18) ?_
      refine JC.exit ?_
      refine QJ.then_exit ?_
      obtain rfl := Option.some.inj hm
      refine QJ.round_exit (fun hy => ?_)
      subst hy
      refine QJ.block_hit ?_
      exact QJ.cut_normal (d9, z8) hmo16 [1] (by exact ⟨rfl, trivial⟩) rfl rfl

/-! ### 41: (*drogher/bits.Reader).Left -/
noncomputable def F41.m (x3 : List Int) (x4 : Int) : Option Int :=
  some (IntKind.wrap .i64 ((IntKind.wrap .i64 ((8 : Int) * ((x3).length : Int))) - x4))
set_option maxRecDepth 100000 in
set_option maxHeartbeats 4000000 in
theorem F41.spec (b1 : Nat) (s2 : SlV) (x3 : List Int) (x4 : Int) (r : Int) (hm : F41.m x3 x4 = some r) :
    Ctr Try.prog false 41 [.pointer (some ⟨b1, 0, none⟩)] [Asr.blk b1 101 [Seg.c (s2.v), Seg.c (.int .i64 x4)], Asr.of 5 (Enc.int .u8) (s2.v) x3] (fun v L' => v = .int .i64 r ∧ L' = [Asr.of 5 (Enc.int .u8) (s2.v) x3, Asr.blk b1 101 [Seg.c (s2.v), Seg.c (.int .i64 x4)]]) := by
  refine Ctr.intro (n := 16) (env := [(0, .pointer (some ⟨b1, 0, none⟩))]) Try.func41 rfl rfl rfl rfl (fun c => ?_)
  unfold F41.m at hm
  refine JC.seq ?_
  refine JC.region ?_
  refine JL.val (v := .int .i64 (0 : Int)) (QV.assign rfl) rfl rfl rfl ?_
  refine JL.nil ?_
  refine QJ.then_normal ?_
  refine JC.seq ?_
  refine JC.seq ?_
  refine JC.region ?_
  refine JL.val (v := .pointer (some ⟨b1, 0, none⟩)) (QV.move rfl) rfl rfl rfl ?_
  refine JL.val (v := .bool false) ((QV.eq (QV.eqlP Try.underlying51 rfl rfl (.inr rfl)) (by simp))) rfl rfl rfl ?_
  refine JL.nil ?_
  refine QJ.then_normal ?_
  refine JC.condF rfl ?_
  refine JC.skip ?_
  refine QJ.then_normal ?_
  refine JC.seq ?_
  refine JC.regionT [Asr.blk b1 101 [Seg.c (s2.v), Seg.c (.int .i64 x4)], Asr.of 5 (Enc.int .u8) (s2.v) x3] (fun t => false) [(0, true), (1, true), (2, true), (3, true), (4, true), (5, true), (6, false), (7, false), (8, false), (9, false), (10, false), (11, false)] (by kernel_rfl) (by kernel_rfl) (by kernel_rfl) rfl (fun hsel => ?_)
  refine JT.take (i := 0) (v := .pointer (some ⟨b1, 0, none⟩)) hsel rfl (QV.move rfl) rfl rfl rfl [0, 1] rfl rfl ?_
  refine JT.take (i := 1) (v := .pointer (some ⟨b1, 0, none⟩)) hsel rfl (QV.nilCheck rfl) rfl rfl rfl [0, 1] rfl rfl ?_
  refine JT.take (i := 2) (v := .pointer (some ⟨b1, 0, none⟩)) hsel rfl (QV.fieldB fo_101_0 rfl rfl) rfl rfl rfl [0, 1] rfl rfl ?_
  refine JT.take (i := 3) (v := s2.v) hsel rfl (QV.load1 (ss := [Seg.c (s2.v), Seg.c (.int .i64 x4)]) 0 0 rfl tk_26 rfl rfl rfl) rfl rfl rfl [0, 1] rfl rfl ?_
  refine JT.take (i := 4) (v := .int .i64 ((x3).length : Int)) hsel rfl (QV.len (Rdg.of 1 rfl) Try.underlying26 rfl) rfl rfl rfl [0, 1] rfl rfl ?_
  refine JT.take (i := 5) (v := .int .i64 (IntKind.wrap .i64 ((8 : Int) * ((x3).length : Int)))) hsel rfl (QV.mul rfl rfl) rfl rfl rfl [0, 1] rfl rfl ?_
  refine JT.only (i := 6) (d := some 11) rfl (MV.ofQV (v := .pointer (some ⟨b1, 0, none⟩)) (QV.move rfl)) rfl rfl rfl ?_
  rintro _ _ ⟨rfl, rfl⟩
  refine ⟨fun _ => ⟨[0, 1], rfl, rfl⟩, ?_⟩
  refine JT.only (i := 7) (d := some 12) rfl (MV.ofQV (v := .pointer (some ⟨b1, 0, none⟩)) (QV.nilCheck rfl)) rfl rfl rfl ?_
  rintro _ _ ⟨rfl, rfl⟩
  refine ⟨fun _ => ⟨[0, 1], rfl, rfl⟩, ?_⟩
  refine JT.only (i := 8) (d := some 13) rfl (MV.ofQV (v := .pointer (some ⟨b1, 1, none⟩)) (QV.fieldB fo_101_1 rfl rfl)) rfl rfl rfl ?_
  rintro _ _ ⟨rfl, rfl⟩
  refine ⟨fun _ => ⟨[0, 1], rfl, rfl⟩, ?_⟩
  refine JT.only (i := 9) (d := some 14) rfl (MV.ofQV (v := .int .i64 x4) (QV.load1 (ss := [Seg.c (s2.v), Seg.c (.int .i64 x4)]) 0 1 rfl tk_3 rfl rfl rfl)) rfl rfl rfl ?_
  rintro _ _ ⟨rfl, rfl⟩
  refine ⟨fun _ => ⟨[0, 1], rfl, rfl⟩, ?_⟩
  refine JT.only (i := 10) (d := some 15) rfl (MV.ofQV (v := .int .i64 (IntKind.wrap .i64 ((IntKind.wrap .i64 ((8 : Int) * ((x3).length : Int))) - x4))) (QV.sub rfl rfl)) rfl rfl rfl ?_
  rintro _ _ ⟨rfl, rfl⟩
  refine ⟨fun _ => ⟨[0, 1], rfl, rfl⟩, ?_⟩
  refine JT.only (i := 11) (d := some 2) rfl (MV.ofQV (v := .int .i64 (IntKind.wrap .i64 ((IntKind.wrap .i64 ((8 : Int) * ((x3).length : Int))) - x4))) (QV.assign rfl)) rfl rfl rfl ?_
  rintro _ _ ⟨rfl, rfl⟩
  refine ⟨fun _ => ⟨[0, 1], rfl, rfl⟩, ?_⟩
  refine JT.nil ?_
  refine QJ.then_normal ?_
  refine JC.ret ?_
  obtain rfl := Option.some.inj hm
  exact QJ.body (vs := [.int .i64 (IntKind.wrap .i64 ((IntKind.wrap .i64 ((8 : Int) * ((x3).length : Int))) - x4))]) (.inl rfl) rfl (ResVs.cons (ResV.tmp rfl) ResVs.nil) [1, 0] rfl rfl (.inr ⟨own_of _ _ _ _, own_blk _ _ _, trivial⟩) ⟨rfl, rfl⟩

/-! ### 39: (*drogher/bits.Reader).Get -/
noncomputable def F39.j1  (d14 : Int) (d15 : Int) : Option (Int × Int × Int) :=
  some ((IntKind.wrap .u32 d14), (0 : Int), d15)
noncomputable def F39.b1 (x3 : List Int) (x5 : Int) : (Int × Int × Int) → Option ((Int × Int × Int) ⊕ (Int × Int))
  | (d16, d17, d18) => (if d18 < x5 then (if 0 ≤ (IntKind.wrap .i64 (Int.tdiv d16 (8 : Int))) ∧ (IntKind.wrap .i64 (Int.tdiv d16 (8 : Int))) < ((x3).length : Int) then (if 0 ≤ (Int.tmod d16 (8 : Int)) then (if 0 ≤ (minI (IntKind.wrap .i64 ((8 : Int) - (Int.tmod d16 (8 : Int)))) (IntKind.wrap .i64 (x5 - d18))) then (if 0 ≤ d18 then some (.inl ((IntKind.wrap .i64 (d16 + (minI (IntKind.wrap .i64 ((8 : Int) - (Int.tmod d16 (8 : Int)))) (IntKind.wrap .i64 (x5 - d18))))), (orI .u64 d17 (shlI .u64 (andI .u64 (IntKind.wrap .u64 (shrI .u8 (gd x3 (IntKind.wrap .i64 (Int.tdiv d16 (8 : Int)))) (Int.tmod d16 (8 : Int)))) (IntKind.wrap .u64 ((shlI .u64 (1 : Int) (minI (IntKind.wrap .i64 ((8 : Int) - (Int.tmod d16 (8 : Int)))) (IntKind.wrap .i64 (x5 - d18)))) - (1 : Int)))) d18)), (IntKind.wrap .i64 (d18 + (minI (IntKind.wrap .i64 ((8 : Int) - (Int.tmod d16 (8 : Int)))) (IntKind.wrap .i64 (x5 - d18))))))) else none) else none) else none) else none) else some (.inr (d17, d16)))
noncomputable def F39.m (x3 : List Int) (x4 : Int) (x5 : Int) : Option (Int × Int × Int) :=
  (if x5 < (0 : Int) then some ((0 : Int), (1 : Int), x4) else (if (32 : Int) < x5 then some ((0 : Int), (1 : Int), x4) else ((F41.m (x3) (x4)).bind fun y11 => (if y11 < x5 then some ((0 : Int), (2 : Int), x4) else ((loop (F39.b1 x3 x5) (x4, (0 : Int), (0 : Int))).bind fun y => match y with | (d14, d15) => F39.j1 (d14) (d15))))))
set_option maxRecDepth 100000 in
set_option maxHeartbeats 4000000 in
theorem F39.spec (b1 : Nat) (s2 : SlV) (x3 : List Int) (x4 : Int) (x5 : Int) (r : (Int × Int × Int)) (hm : F39.m x3 x4 x5 = some r) :
    Ctr Try.prog false 39 [.pointer (some ⟨b1, 0, none⟩), .int .i64 x5] [Asr.blk b1 101 [Seg.c (s2.v), Seg.c (.int .i64 x4)], Asr.of 5 (Enc.int .u8) (s2.v) x3] (fun v L' => v = .tuple #[.int .u32 r.1, .int .i64 r.2.1] ∧ L' = [Asr.of 5 (Enc.int .u8) (s2.v) x3, Asr.blk b1 101 [Seg.c (s2.v), Seg.c (.int .i64 r.2.2)]]) := by
  refine Ctr.intro (n := 77) (env := [(0, .pointer (some ⟨b1, 0, none⟩)), (1, .int .i64 x5)]) Try.func39 rfl rfl rfl rfl (fun c => ?_)
  unfold F39.m at hm
  refine JC.seq ?_
  refine JC.region ?_
  refine JL.val (v := .int .u32 (0 : Int)) (QV.assign rfl) rfl rfl rfl ?_
  refine JL.val (v := .int .i64 (0 : Int)) (QV.assign rfl) rfl rfl rfl ?_
  refine JL.nil ?_
  refine QJ.then_normal ?_
  refine JC.seq ?_
  refine JC.block ?_
  refine JC.seq ?_
  refine JC.region ?_
  refine JL.val (v := .pointer (some ⟨b1, 0, none⟩)) (QV.move rfl) rfl rfl rfl ?_
  refine JL.val (v := .bool false) ((QV.eq (QV.eqlP Try.underlying51 rfl rfl (.inr rfl)) (by simp))) rfl rfl rfl ?_
  refine JL.val (v := .bool false) (QV.move rfl) rfl rfl rfl ?_
  refine JL.val (v := .int .i64 x5) (QV.move rfl) rfl rfl rfl ?_
  refine JL.val (v := .bool (decide (x5 < (0 : Int)))) (QV.lss rfl rfl) rfl rfl rfl ?_
  refine JL.val (v := .bool (decide (x5 < (0 : Int)))) (QV.pickF rfl rfl) rfl rfl rfl ?_
  rcases ite_inv hm with ⟨h9, hm⟩ | ⟨h9, hm⟩
  ·
    refine JL.val (v := .bool true) (QV.eq (QV.move rfl) (congrArg Value.bool (decide_eq_true h9))) rfl rfl rfl ?_
    refine JL.skip (d := some 19) rfl rfl rfl ?_
    refine JL.skip (d := some 20) rfl rfl rfl ?_
    refine JL.val (v := .bool true) (QV.pickT rfl rfl) rfl rfl rfl ?_
    refine JL.val (v := .bool true) (QV.assign rfl) rfl rfl rfl ?_
    refine JL.nil ?_
    refine QJ.then_normal ?_
    refine JC.condT rfl ?_
    refine JC.seq ?_
    refine JC.region ?_
    refine JL.val (v := .int .u32 (0 : Int)) (QV.assign rfl) rfl rfl rfl ?_
    refine JL.val (v := .int .i64 (1 : Int)) (QV.assign rfl) rfl rfl rfl ?_
    refine JL.nil ?_
    refine QJ.then_normal ?_
    refine JC.ret ?_
    refine QJ.block_ret ?_
    refine QJ.then_ret ?_
    obtain rfl := Option.some.inj hm
    exact QJ.body (vs := [.int .u32 (0 : Int), .int .i64 (1 : Int)]) (.inl rfl) rfl (ResVs.cons (ResV.tmp rfl) (ResVs.cons (ResV.tmp rfl) ResVs.nil)) [1, 0] rfl rfl (.inr ⟨own_of _ _ _ _, own_blk _ _ _, trivial⟩) ⟨rfl, rfl⟩
  ·
    refine JL.val (v := .bool false) (QV.eq (QV.move rfl) (congrArg Value.bool (decide_eq_false h9))) rfl rfl rfl ?_
    refine JL.val (v := .int .i64 x5) (QV.move rfl) rfl rfl rfl ?_
    refine JL.val (v := .bool (decide ((32 : Int) < x5))) (QV.gtr rfl rfl) rfl rfl rfl ?_
    refine JL.val (v := .bool (decide ((32 : Int) < x5))) (QV.pickF rfl rfl) rfl rfl rfl ?_
    refine JL.val (v := .bool (decide ((32 : Int) < x5))) (QV.assign rfl) rfl rfl rfl ?_
    refine JL.nil ?_
    refine QJ.then_normal ?_
    rcases ite_inv hm with ⟨h10, hm⟩ | ⟨h10, hm⟩
    ·
      refine JC.condT' rfl (decide_eq_true h10) ?_
      refine JC.seq ?_
      refine JC.region ?_
      refine JL.val (v := .int .u32 (0 : Int)) (QV.assign rfl) rfl rfl rfl ?_
      refine JL.val (v := .int .i64 (1 : Int)) (QV.assign rfl) rfl rfl rfl ?_
      refine JL.nil ?_
      refine QJ.then_normal ?_
      refine JC.ret ?_
      refine QJ.block_ret ?_
      refine QJ.then_ret ?_
      obtain rfl := Option.some.inj hm
      exact QJ.body (vs := [.int .u32 (0 : Int), .int .i64 (1 : Int)]) (.inl rfl) rfl (ResVs.cons (ResV.tmp rfl) (ResVs.cons (ResV.tmp rfl) ResVs.nil)) [1, 0] rfl rfl (.inr ⟨own_of _ _ _ _, own_blk _ _ _, trivial⟩) ⟨rfl, rfl⟩
    ·
      refine JC.condF' rfl (decide_eq_false h10) ?_
      refine JC.seq ?_
      refine JC.region ?_
      refine JL.val (v := .int .i64 x5) (QV.move rfl) rfl rfl rfl ?_
      refine JL.val (v := .pointer (some ⟨b1, 0, none⟩)) (QV.move rfl) rfl rfl rfl ?_
      obtain ⟨y11, hc12, hm⟩ := bind_inv hm
      refine JL.mv (d := some 25) (MV.call (Lo := [Asr.blk b1 101 [Seg.c (s2.v), Seg.c (.int .i64 x4)], Asr.of 5 (Enc.int .u8) (s2.v) x3]) (Lr := []) (F41.spec (b1) (s2) (x3) (x4) _ hc12) rfl Try.func41 rfl rfl rfl [0, 1] [] rfl rfl rfl trivial) rfl rfl rfl ?_
      rintro _ _ ⟨_, ⟨rfl, rfl⟩, rfl⟩
      refine JL.val (v := .bool (decide (y11 < x5))) (QV.gtr rfl rfl) rfl rfl rfl ?_
      refine JL.val (v := .bool (decide (y11 < x5))) (QV.assign rfl) rfl rfl rfl ?_
      refine JL.nil ?_
      refine QJ.then_normal ?_
      rcases ite_inv hm with ⟨h13, hm⟩ | ⟨h13, hm⟩
      ·
        refine JC.condT' rfl (decide_eq_true h13) ?_
        refine JC.seq ?_
        refine JC.region ?_
        refine JL.val (v := .int .u32 (0 : Int)) (QV.assign rfl) rfl rfl rfl ?_
        refine JL.val (v := .int .i64 (2 : Int)) (QV.assign rfl) rfl rfl rfl ?_
        refine JL.nil ?_
        refine QJ.then_normal ?_
        refine JC.ret ?_
        refine QJ.block_ret ?_
        refine QJ.then_ret ?_
        obtain rfl := Option.some.inj hm
        exact QJ.body (vs := [.int .u32 (0 : Int), .int .i64 (2 : Int)]) (.inl rfl) rfl (ResVs.cons (ResV.tmp rfl) (ResVs.cons (ResV.tmp rfl) ResVs.nil)) [0, 1] rfl rfl (.inr ⟨own_of _ _ _ _, own_blk _ _ _, trivial⟩) ⟨rfl, rfl⟩
      ·
        refine JC.condF' rfl (decide_eq_false h13) ?_
        refine JC.skip ?_
        refine QJ.block_normal ?_
        refine QJ.then_normal ?_
        refine JC.seq ?_
        refine JC.region ?_
        refine JL.val (v := .int .u64 (0 : Int)) (QV.assign rfl) rfl rfl rfl ?_
        refine JL.nil ?_
        refine QJ.then_normal ?_
        refine JC.seq ?_
        refine JC.seq ?_
        refine JC.region ?_
        refine JL.val (v := .int .i64 (0 : Int)) (QV.assign rfl) rfl rfl rfl ?_
        refine JL.nil ?_
        refine QJ.then_normal ?_
        refine JC.cutK (Y := (Int × Int) × Unit) (fun y => match y with | ((d14, d15), _) => F39.j1 (d14) (d15) = some r) (fun y => match y with | ((d14, d15), _) => [(6, .int .u64 d14)]) (fun y => match y with | ((d14, d15), _) => [Asr.of 5 (Enc.int .u8) (s2.v) x3, Asr.blk b1 101 [Seg.c (s2.v), Seg.c (.int .i64 d15)]]) ?_ ?_
        ·
          rintro ⟨⟨d14, d15⟩, ⟨⟩⟩ hm
          unfold F39.j1 at hm
          show QJ _ _ [(6, .int .u64 d14)] [Asr.of 5 (Enc.int .u8) (s2.v) x3, Asr.blk b1 101 [Seg.c (s2.v), Seg.c (.int .i64 d15)]] _ _
          refine QJ.then_normal ?_
          refine JC.seq ?_
          refine JC.region ?_
          refine JL.val (v := .int .u64 d14) (QV.move rfl) rfl rfl rfl ?_
          refine JL.val (v := .int .u32 (IntKind.wrap .u32 d14)) (QV.conv rfl (by rw [Try.underlying96]; rfl) Try.underlying42) rfl rfl rfl ?_
          refine JL.val (v := .int .u32 (IntKind.wrap .u32 d14)) (QV.assign rfl) rfl rfl rfl ?_
          refine JL.val (v := .int .i64 (0 : Int)) (QV.assign rfl) rfl rfl rfl ?_
          refine JL.nil ?_
          refine QJ.then_normal ?_
          refine JC.ret ?_
          obtain rfl := Option.some.inj hm
          exact QJ.body (vs := [.int .u32 (IntKind.wrap .u32 d14), .int .i64 (0 : Int)]) (.inl rfl) rfl (ResVs.cons (ResV.tmp rfl) (ResVs.cons (ResV.tmp rfl) ResVs.nil)) [0, 1] rfl rfl (.inr ⟨own_of _ _ _ _, own_blk _ _ _, trivial⟩) ⟨rfl, rfl⟩
        ·
          refine JC.block ?_
          obtain ⟨y22, hl23, hmo24⟩ := bind_inv hm
          refine JC.loop (F39.b1 x3 x5) (fun x z => match x, z with | (d16, d17, d18), _ => [(0, .pointer (some ⟨b1, 0, none⟩)), (1, .int .i64 x5), (6, .int .u64 d17), (7, .int .i64 d18)]) (fun x z => match x, z with | (d16, d17, d18), _ => [Asr.of 5 (Enc.int .u8) (s2.v) x3, Asr.blk b1 101 [Seg.c (s2.v), Seg.c (.int .i64 d16)]]) (x4, (0 : Int), (0 : Int)) () y22 hl23 [0, 1] (by exact ⟨rfl, rfl, rfl, rfl, trivial⟩) rfl rfl ?_
          rintro ⟨d16, d17, d18⟩ ⟨⟩ s25 hm
          unfold F39.b1 at hm
          dsimp only at hm
          show JC _ _ _ [(0, .pointer (some ⟨b1, 0, none⟩)), (1, .int .i64 x5), (6, .int .u64 d17), (7, .int .i64 d18)] [Asr.of 5 (Enc.int .u8) (s2.v) x3, Asr.blk b1 101 [Seg.c (s2.v), Seg.c (.int .i64 d16)]] _ _
          refine JC.seq ?_
          refine JC.seq ?_
          refine JC.region ?_
          refine JL.val (v := .int .i64 d18) (QV.move rfl) rfl rfl rfl ?_
          refine JL.val (v := .int .i64 x5) (QV.move rfl) rfl rfl rfl ?_
          refine JL.val (v := .bool (decide (d18 < x5))) (QV.lss rfl rfl) rfl rfl rfl ?_
          refine JL.nil ?_
          refine QJ.then_normal ?_
          rcases ite_inv hm with ⟨h26, hm⟩ | ⟨h26, hm⟩
          ·
            refine JC.condT' rfl (decide_eq_true h26) ?_
            refine JC.skip ?_
            refine QJ.then_normal ?_
            refine JC.block ?_
            refine JC.seq ?_
            refine JC.region ?_
            refine JL.val (v := .pointer (some ⟨b1, 0, none⟩)) (QV.move rfl) rfl rfl rfl ?_
            refine JL.val (v := .pointer (some ⟨b1, 0, none⟩)) (QV.nilCheck rfl) rfl rfl rfl ?_
            refine JL.val (v := .pointer (some ⟨b1, 1, none⟩)) (QV.fieldB fo_101_1 rfl rfl) rfl rfl rfl ?_
            refine JL.val (v := .int .i64 d16) (QV.load1 (ss := [Seg.c (s2.v), Seg.c (.int .i64 d16)]) 1 1 rfl tk_3 rfl rfl rfl) rfl rfl rfl ?_
            refine JL.val (v := .int .i64 (Int.tmod d16 (8 : Int))) (QV.rem rfl rfl (by decide)) rfl rfl rfl ?_
            refine JL.val (v := .int .i64 (Int.tmod d16 (8 : Int))) (QV.assign rfl) rfl rfl rfl ?_
            refine JL.nil ?_
            refine QJ.then_normal ?_
            refine JC.seq ?_
            refine JC.region ?_
            refine JL.val (v := .int .i64 (Int.tmod d16 (8 : Int))) (QV.move rfl) rfl rfl rfl ?_
            refine JL.val (v := .int .i64 (IntKind.wrap .i64 ((8 : Int) - (Int.tmod d16 (8 : Int))))) (QV.sub rfl rfl) rfl rfl rfl ?_
            refine JL.val (v := .int .i64 x5) (QV.move rfl) rfl rfl rfl ?_
            refine JL.val (v := .int .i64 d18) (QV.move rfl) rfl rfl rfl ?_
            refine JL.val (v := .int .i64 (IntKind.wrap .i64 (x5 - d18))) (QV.sub rfl rfl) rfl rfl rfl ?_
            refine JL.val (v := .int .i64 (minI (IntKind.wrap .i64 ((8 : Int) - (Int.tmod d16 (8 : Int)))) (IntKind.wrap .i64 (x5 - d18)))) (QV.min2 rfl rfl) rfl rfl rfl ?_
            refine JL.val (v := .int .i64 (minI (IntKind.wrap .i64 ((8 : Int) - (Int.tmod d16 (8 : Int)))) (IntKind.wrap .i64 (x5 - d18)))) (QV.assign rfl) rfl rfl rfl ?_
            refine JL.nil ?_
            refine QJ.then_normal ?_
            refine JC.seq ?_
            refine JC.regionT [Asr.of 5 (Enc.int .u8) (s2.v) x3, Asr.blk b1 101 [Seg.c (s2.v), Seg.c (.int .i64 d16)]] (fun t => false) [(0, true), (1, true), (2, true), (3, true), (4, true), (5, true), (6, true), (7, true), (8, true), (9, true), (10, true), (11, true), (12, true), (13, true), (14, false), (15, false), (16, false), (17, false), (18, false)] (by kernel_rfl) (by kernel_rfl) (by kernel_rfl) rfl (fun hsel => ?_)
            refine JT.take (i := 0) (v := .pointer (some ⟨b1, 0, none⟩)) hsel rfl (QV.move rfl) rfl rfl rfl [0, 1] rfl rfl ?_
            refine JT.take (i := 1) (v := .pointer (some ⟨b1, 0, none⟩)) hsel rfl (QV.nilCheck rfl) rfl rfl rfl [0, 1] rfl rfl ?_
            refine JT.take (i := 2) (v := .pointer (some ⟨b1, 0, none⟩)) hsel rfl (QV.fieldB fo_101_0 rfl rfl) rfl rfl rfl [0, 1] rfl rfl ?_
            refine JT.take (i := 3) (v := s2.v) hsel rfl (QV.load1 (ss := [Seg.c (s2.v), Seg.c (.int .i64 d16)]) 1 0 rfl tk_26 rfl rfl rfl) rfl rfl rfl [0, 1] rfl rfl ?_
            refine JT.take (i := 4) (v := .pointer (some ⟨b1, 0, none⟩)) hsel rfl (QV.move rfl) rfl rfl rfl [0, 1] rfl rfl ?_
            refine JT.take (i := 5) (v := .pointer (some ⟨b1, 0, none⟩)) hsel rfl (QV.nilCheck rfl) rfl rfl rfl [0, 1] rfl rfl ?_
            refine JT.take (i := 6) (v := .pointer (some ⟨b1, 1, none⟩)) hsel rfl (QV.fieldB fo_101_1 rfl rfl) rfl rfl rfl [0, 1] rfl rfl ?_
            refine JT.take (i := 7) (v := .int .i64 d16) hsel rfl (QV.load1 (ss := [Seg.c (s2.v), Seg.c (.int .i64 d16)]) 1 1 rfl tk_3 rfl rfl rfl) rfl rfl rfl [0, 1] rfl rfl ?_
            refine JT.take (i := 8) (v := .int .i64 (IntKind.wrap .i64 (Int.tdiv d16 (8 : Int)))) hsel rfl (QV.quo rfl rfl (by decide)) rfl rfl rfl [0, 1] rfl rfl ?_
            obtain ⟨h27, hm⟩ := guard_inv hm
            refine JT.take (i := 9) (v := .pointer (some (elA (s2.v) (Int.toNat (IntKind.wrap .i64 (Int.tdiv d16 (8 : Int))) * ((Enc.int .u8)).sz)))) hsel rfl (QV.indexA (Rdg.of 0 rfl) Try.underlying26 tk_5 rfl rfl h27) rfl rfl rfl [0, 1] rfl rfl ?_
            refine JT.take (i := 10) (v := .int .u8 (gd x3 (IntKind.wrap .i64 (Int.tdiv d16 (8 : Int))))) hsel rfl (QV.el1 (Rdg.of 0 rfl) tk_5 rfl h27 rfl) rfl rfl rfl [0, 1] rfl rfl ?_
            refine JT.take (i := 11) (v := .int .i64 (Int.tmod d16 (8 : Int))) hsel rfl (QV.move rfl) rfl rfl rfl [0, 1] rfl rfl ?_
            obtain ⟨h28, hm⟩ := guard_inv hm
            refine JT.take (i := 12) (v := .int .u8 (shrI .u8 (gd x3 (IntKind.wrap .i64 (Int.tdiv d16 (8 : Int)))) (Int.tmod d16 (8 : Int)))) hsel rfl (QV.shr rfl rfl h28) rfl rfl rfl [0, 1] rfl rfl ?_
            refine JT.take (i := 13) (v := .int .u64 (IntKind.wrap .u64 (shrI .u8 (gd x3 (IntKind.wrap .i64 (Int.tdiv d16 (8 : Int)))) (Int.tmod d16 (8 : Int))))) hsel rfl (QV.conv rfl (by rw [Try.underlying5]; rfl) Try.underlying96) rfl rfl rfl [0, 1] rfl rfl ?_
            refine JT.only (i := 14) (d := some 55) rfl (MV.ofQV (v := .int .i64 (minI (IntKind.wrap .i64 ((8 : Int) - (Int.tmod d16 (8 : Int)))) (IntKind.wrap .i64 (x5 - d18)))) (QV.move rfl)) rfl rfl rfl ?_
            rintro _ _ ⟨rfl, rfl⟩
            refine ⟨fun _ => ⟨[0, 1], rfl, rfl⟩, ?_⟩
            obtain ⟨h29, hm⟩ := guard_inv hm
            refine JT.only (i := 15) (d := some 56) rfl (MV.ofQV (v := .int .u64 (shlI .u64 (1 : Int) (minI (IntKind.wrap .i64 ((8 : Int) - (Int.tmod d16 (8 : Int)))) (IntKind.wrap .i64 (x5 - d18))))) (QV.shl rfl rfl h29)) rfl rfl rfl ?_
            rintro _ _ ⟨rfl, rfl⟩
            refine ⟨fun _ => ⟨[0, 1], rfl, rfl⟩, ?_⟩
            refine JT.only (i := 16) (d := some 57) rfl (MV.ofQV (v := .int .u64 (IntKind.wrap .u64 ((shlI .u64 (1 : Int) (minI (IntKind.wrap .i64 ((8 : Int) - (Int.tmod d16 (8 : Int)))) (IntKind.wrap .i64 (x5 - d18)))) - (1 : Int)))) (QV.sub rfl rfl)) rfl rfl rfl ?_
            rintro _ _ ⟨rfl, rfl⟩
            refine ⟨fun _ => ⟨[0, 1], rfl, rfl⟩, ?_⟩
            refine JT.only (i := 17) (d := some 58) rfl (MV.ofQV (v := .int .u64 (andI .u64 (IntKind.wrap .u64 (shrI .u8 (gd x3 (IntKind.wrap .i64 (Int.tdiv d16 (8 : Int)))) (Int.tmod d16 (8 : Int)))) (IntKind.wrap .u64 ((shlI .u64 (1 : Int) (minI (IntKind.wrap .i64 ((8 : Int) - (Int.tmod d16 (8 : Int)))) (IntKind.wrap .i64 (x5 - d18)))) - (1 : Int))))) (QV.and rfl rfl)) rfl rfl rfl ?_
            rintro _ _ ⟨rfl, rfl⟩
            refine ⟨fun _ => ⟨[0, 1], rfl, rfl⟩, ?_⟩
            refine JT.only (i := 18) (d := some 10) rfl (MV.ofQV (v := .int .u64 (andI .u64 (IntKind.wrap .u64 (shrI .u8 (gd x3 (IntKind.wrap .i64 (Int.tdiv d16 (8 : Int)))) (Int.tmod d16 (8 : Int)))) (IntKind.wrap .u64 ((shlI .u64 (1 : Int) (minI (IntKind.wrap .i64 ((8 : Int) - (Int.tmod d16 (8 : Int)))) (IntKind.wrap .i64 (x5 - d18)))) - (1 : Int))))) (QV.assign rfl)) rfl rfl rfl ?_
            rintro _ _ ⟨rfl, rfl⟩
            refine ⟨fun _ => ⟨[0, 1], rfl, rfl⟩, ?_⟩
            refine JT.nil ?_
            refine QJ.then_normal ?_
            refine JC.seq ?_
            refine JC.region ?_
            refine JL.val (v := .int .u64 d17) (QV.move rfl) rfl rfl rfl ?_
            refine JL.val (v := .int .u64 (andI .u64 (IntKind.wrap .u64 (shrI .u8 (gd x3 (IntKind.wrap .i64 (Int.tdiv d16 (8 : Int)))) (Int.tmod d16 (8 : Int)))) (IntKind.wrap .u64 ((shlI .u64 (1 : Int) (minI (IntKind.wrap .i64 ((8 : Int) - (Int.tmod d16 (8 : Int)))) (IntKind.wrap .i64 (x5 - d18)))) - (1 : Int))))) (QV.move rfl) rfl rfl rfl ?_
            refine JL.val (v := .int .i64 d18) (QV.move rfl) rfl rfl rfl ?_
            obtain ⟨h30, hm⟩ := guard_inv hm
            refine JL.val (v := .int .u64 (shlI .u64 (andI .u64 (IntKind.wrap .u64 (shrI .u8 (gd x3 (IntKind.wrap .i64 (Int.tdiv d16 (8 : Int)))) (Int.tmod d16 (8 : Int)))) (IntKind.wrap .u64 ((shlI .u64 (1 : Int) (minI (IntKind.wrap .i64 ((8 : Int) - (Int.tmod d16 (8 : Int)))) (IntKind.wrap .i64 (x5 - d18)))) - (1 : Int)))) d18)) (QV.shl rfl rfl h30) rfl rfl rfl ?_
            refine JL.val (v := .int .u64 (orI .u64 d17 (shlI .u64 (andI .u64 (IntKind.wrap .u64 (shrI .u8 (gd x3 (IntKind.wrap .i64 (Int.tdiv d16 (8 : Int)))) (Int.tmod d16 (8 : Int)))) (IntKind.wrap .u64 ((shlI .u64 (1 : Int) (minI (IntKind.wrap .i64 ((8 : Int) - (Int.tmod d16 (8 : Int)))) (IntKind.wrap .i64 (x5 - d18)))) - (1 : Int)))) d18))) (QV.or rfl rfl) rfl rfl rfl ?_
            refine JL.val (v := .int .u64 (orI .u64 d17 (shlI .u64 (andI .u64 (IntKind.wrap .u64 (shrI .u8 (gd x3 (IntKind.wrap .i64 (Int.tdiv d16 (8 : Int)))) (Int.tmod d16 (8 : Int)))) (IntKind.wrap .u64 ((shlI .u64 (1 : Int) (minI (IntKind.wrap .i64 ((8 : Int) - (Int.tmod d16 (8 : Int)))) (IntKind.wrap .i64 (x5 - d18)))) - (1 : Int)))) d18))) (QV.assign rfl) rfl rfl rfl ?_
            refine JL.nil ?_
            refine QJ.then_normal ?_
            refine JC.seq ?_
            refine JC.region ?_
            refine JL.val (v := .int .i64 d18) (QV.move rfl) rfl rfl rfl ?_
            refine JL.val (v := .int .i64 (minI (IntKind.wrap .i64 ((8 : Int) - (Int.tmod d16 (8 : Int)))) (IntKind.wrap .i64 (x5 - d18)))) (QV.move rfl) rfl rfl rfl ?_
            refine JL.val (v := .int .i64 (IntKind.wrap .i64 (d18 + (minI (IntKind.wrap .i64 ((8 : Int) - (Int.tmod d16 (8 : Int)))) (IntKind.wrap .i64 (x5 - d18)))))) (QV.add rfl rfl) rfl rfl rfl ?_
            refine JL.val (v := .int .i64 (IntKind.wrap .i64 (d18 + (minI (IntKind.wrap .i64 ((8 : Int) - (Int.tmod d16 (8 : Int)))) (IntKind.wrap .i64 (x5 - d18)))))) (QV.assign rfl) rfl rfl rfl ?_
            refine JL.nil ?_
            refine QJ.then_normal ?_
            refine JC.region ?_
            refine JL.val (v := .pointer (some ⟨b1, 0, none⟩)) (QV.move rfl) rfl rfl rfl ?_
            refine JL.val (v := .pointer (some ⟨b1, 0, none⟩)) (QV.nilCheck rfl) rfl rfl rfl ?_
            refine JL.val (v := .pointer (some ⟨b1, 1, none⟩)) (QV.fieldB fo_101_1 rfl rfl) rfl rfl rfl ?_
            refine JL.val (v := .int .i64 d16) (QV.load1 (ss := [Seg.c (s2.v), Seg.c (.int .i64 d16)]) 1 1 rfl tk_3 rfl rfl rfl) rfl rfl rfl ?_
            refine JL.val (v := .int .i64 (minI (IntKind.wrap .i64 ((8 : Int) - (Int.tmod d16 (8 : Int)))) (IntKind.wrap .i64 (x5 - d18)))) (QV.move rfl) rfl rfl rfl ?_
            refine JL.val (v := .int .i64 (IntKind.wrap .i64 (d16 + (minI (IntKind.wrap .i64 ((8 : Int) - (Int.tmod d16 (8 : Int)))) (IntKind.wrap .i64 (x5 - d18)))))) (QV.add rfl rfl) rfl rfl rfl ?_
            refine JL.val (v := .pointer (some ⟨b1, 0, none⟩)) (QV.nilCheck rfl) rfl rfl rfl ?_
            refine JL.val (v := .pointer (some ⟨b1, 1, none⟩)) (QV.fieldB fo_101_1 rfl rfl) rfl rfl rfl ?_
            refine JL.mv (d := none) (MV.store (ss := [Seg.c (s2.v), Seg.c (.int .i64 d16)]) 1 1 1 [Seg.c (.int .i64 (IntKind.wrap .i64 (d16 + (minI (IntKind.wrap .i64 ((8 : Int) - (Int.tmod d16 (8 : Int)))) (IntKind.wrap .i64 (x5 - d18))))))] rfl tk_3 rfl rfl rfl rfl (fun w hs => ⟨rfl, one_c rfl, trivial⟩)) rfl rfl rfl ?_
            rintro _ _ ⟨rfl, rfl⟩
            refine JL.nil ?_
            refine QJ.block_normal ?_
            obtain rfl := Option.some.inj hm
            exact QJ.round_on ((IntKind.wrap .i64 (d16 + (minI (IntKind.wrap .i64 ((8 : Int) - (Int.tmod d16 (8 : Int)))) (IntKind.wrap .i64 (x5 - d18))))), (orI .u64 d17 (shlI .u64 (andI .u64 (IntKind.wrap .u64 (shrI .u8 (gd x3 (IntKind.wrap .i64 (Int.tdiv d16 (8 : Int)))) (Int.tmod d16 (8 : Int)))) (IntKind.wrap .u64 ((shlI .u64 (1 : Int) (minI (IntKind.wrap .i64 ((8 : Int) - (Int.tmod d16 (8 : Int)))) (IntKind.wrap .i64 (x5 - d18)))) - (1 : Int)))) d18)), (IntKind.wrap .i64 (d18 + (minI (IntKind.wrap .i64 ((8 : Int) - (Int.tmod d16 (8 : Int)))) (IntKind.wrap .i64 (x5 - d18)))))) () [0, 1] (by exact ⟨rfl, rfl, rfl, rfl, trivial⟩) rfl rfl
          ·
            refine JC.condF' rfl (decide_eq_false h26) ?_
            refine JC.exit ?_
            refine QJ.then_exit ?_
            obtain rfl := Option.some.inj hm
            refine QJ.round_exit (fun hy => ?_)
            subst hy
            refine QJ.block_hit ?_
            exact QJ.cut_normal ((d17, d16), ()) hmo24 [0, 1] (by exact ⟨rfl, trivial⟩) rfl rfl

/-! ### 45: (*drogher/bits.Reader).Seek -/
noncomputable def F45.m (x3 : List Int) (x4 : Int) (x5 : Int) : Option (Int × Int) :=
  (if x5 < (0 : Int) then some ((5 : Int), x4) else (if (IntKind.wrap .i64 ((8 : Int) * ((x3).length : Int))) < x5 then some ((5 : Int), x4) else some ((0 : Int), x5)))
set_option maxRecDepth 100000 in
set_option maxHeartbeats 4000000 in
theorem F45.spec (b1 : Nat) (s2 : SlV) (x3 : List Int) (x4 : Int) (x5 : Int) (r : (Int × Int)) (hm : F45.m x3 x4 x5 = some r) :
    Ctr Try.prog false 45 [.pointer (some ⟨b1, 0, none⟩), .int .i64 x5] [Asr.blk b1 101 [Seg.c (s2.v), Seg.c (.int .i64 x4)], Asr.of 5 (Enc.int .u8) (s2.v) x3] (fun v L' => v = .int .i64 r.1 ∧ L' = [Asr.of 5 (Enc.int .u8) (s2.v) x3, Asr.blk b1 101 [Seg.c (s2.v), Seg.c (.int .i64 r.2)]]) := by
  refine Ctr.intro (n := 25) (env := [(0, .pointer (some ⟨b1, 0, none⟩)), (1, .int .i64 x5)]) Try.func45 rfl rfl rfl rfl (fun c => ?_)
  unfold F45.m at hm
  refine JC.seq ?_
  refine JC.region ?_
  refine JL.val (v := .int .i64 (0 : Int)) (QV.assign rfl) rfl rfl rfl ?_
  refine JL.nil ?_
  refine QJ.then_normal ?_
  refine JC.seq ?_
  refine JC.block ?_
  refine JC.seq ?_
  refine JC.region ?_
  refine JL.val (v := .pointer (some ⟨b1, 0, none⟩)) (QV.move rfl) rfl rfl rfl ?_
  refine JL.val (v := .bool false) ((QV.eq (QV.eqlP Try.underlying51 rfl rfl (.inr rfl)) (by simp))) rfl rfl rfl ?_
  refine JL.val (v := .bool false) (QV.assign rfl) rfl rfl rfl ?_
  refine JL.nil ?_
  refine QJ.then_normal ?_
  refine JC.condF rfl ?_
  refine JC.seq ?_
  refine JC.region ?_
  refine JL.val (v := .int .i64 x5) (QV.move rfl) rfl rfl rfl ?_
  refine JL.val (v := .bool (decide (x5 < (0 : Int)))) (QV.lss rfl rfl) rfl rfl rfl ?_
  rcases ite_inv hm with ⟨h8, hm⟩ | ⟨h8, hm⟩
  ·
    refine JL.val (v := .bool true) (QV.eq (QV.move rfl) (congrArg Value.bool (decide_eq_true h8))) rfl rfl rfl ?_
    refine JL.skip (d := some 12) rfl rfl rfl ?_
    refine JL.skip (d := some 13) rfl rfl rfl ?_
    refine JL.skip (d := some 14) rfl rfl rfl ?_
    refine JL.skip (d := some 15) rfl rfl rfl ?_
    refine JL.skip (d := some 16) rfl rfl rfl ?_
    refine JL.skip (d := some 17) rfl rfl rfl ?_
    refine JL.skip (d := some 18) rfl rfl rfl ?_
    refine JL.skip (d := some 19) rfl rfl rfl ?_
    refine JL.val (v := .bool true) (QV.pickT rfl rfl) rfl rfl rfl ?_
    refine JL.val (v := .bool true) (QV.assign rfl) rfl rfl rfl ?_
    refine JL.nil ?_
    refine QJ.then_normal ?_
    refine JC.condT rfl ?_
    refine JC.seq ?_
    refine JC.region ?_
    refine JL.val (v := .int .i64 (5 : Int)) (QV.assign rfl) rfl rfl rfl ?_
    refine JL.nil ?_
    refine QJ.then_normal ?_
    refine JC.ret ?_
    refine QJ.block_ret ?_
    refine QJ.then_ret ?_
    obtain rfl := Option.some.inj hm
    exact QJ.body (vs := [.int .i64 (5 : Int)]) (.inl rfl) rfl (ResVs.cons (ResV.tmp rfl) ResVs.nil) [1, 0] rfl rfl (.inr ⟨own_of _ _ _ _, own_blk _ _ _, trivial⟩) ⟨rfl, rfl⟩
  ·
    refine JL.val (v := .bool false) (QV.eq (QV.move rfl) (congrArg Value.bool (decide_eq_false h8))) rfl rfl rfl ?_
    refine JL.val (v := .int .i64 x5) (QV.move rfl) rfl rfl rfl ?_
    refine JL.val (v := .pointer (some ⟨b1, 0, none⟩)) (QV.move rfl) rfl rfl rfl ?_
    refine JL.val (v := .pointer (some ⟨b1, 0, none⟩)) (QV.nilCheck rfl) rfl rfl rfl ?_
    refine JL.val (v := .pointer (some ⟨b1, 0, none⟩)) (QV.fieldB fo_101_0 rfl rfl) rfl rfl rfl ?_
    refine JL.val (v := s2.v) (QV.load1 (ss := [Seg.c (s2.v), Seg.c (.int .i64 x4)]) 0 0 rfl tk_26 rfl rfl rfl) rfl rfl rfl ?_
    refine JL.val (v := .int .i64 ((x3).length : Int)) (QV.len (Rdg.of 1 rfl) Try.underlying26 rfl) rfl rfl rfl ?_
    refine JL.val (v := .int .i64 (IntKind.wrap .i64 ((8 : Int) * ((x3).length : Int)))) (QV.mul rfl rfl) rfl rfl rfl ?_
    refine JL.val (v := .bool (decide ((IntKind.wrap .i64 ((8 : Int) * ((x3).length : Int))) < x5))) (QV.gtr rfl rfl) rfl rfl rfl ?_
    refine JL.val (v := .bool (decide ((IntKind.wrap .i64 ((8 : Int) * ((x3).length : Int))) < x5))) (QV.pickF rfl rfl) rfl rfl rfl ?_
    refine JL.val (v := .bool (decide ((IntKind.wrap .i64 ((8 : Int) * ((x3).length : Int))) < x5))) (QV.assign rfl) rfl rfl rfl ?_
    refine JL.nil ?_
    refine QJ.then_normal ?_
    rcases ite_inv hm with ⟨h9, hm⟩ | ⟨h9, hm⟩
    ·
      refine JC.condT' rfl (decide_eq_true h9) ?_
      refine JC.seq ?_
      refine JC.region ?_
      refine JL.val (v := .int .i64 (5 : Int)) (QV.assign rfl) rfl rfl rfl ?_
      refine JL.nil ?_
      refine QJ.then_normal ?_
      refine JC.ret ?_
      refine QJ.block_ret ?_
      refine QJ.then_ret ?_
      obtain rfl := Option.some.inj hm
      exact QJ.body (vs := [.int .i64 (5 : Int)]) (.inl rfl) rfl (ResVs.cons (ResV.tmp rfl) ResVs.nil) [1, 0] rfl rfl (.inr ⟨own_of _ _ _ _, own_blk _ _ _, trivial⟩) ⟨rfl, rfl⟩
    ·
      refine JC.condF' rfl (decide_eq_false h9) ?_
      refine JC.skip ?_
      refine QJ.block_normal ?_
      refine QJ.then_normal ?_
      refine JC.seq ?_
      refine JC.region ?_
      refine JL.val (v := .pointer (some ⟨b1, 0, none⟩)) (QV.move rfl) rfl rfl rfl ?_
      refine JL.val (v := .int .i64 x5) (QV.move rfl) rfl rfl rfl ?_
      refine JL.val (v := .pointer (some ⟨b1, 0, none⟩)) (QV.nilCheck rfl) rfl rfl rfl ?_
      refine JL.val (v := .pointer (some ⟨b1, 1, none⟩)) (QV.fieldB fo_101_1 rfl rfl) rfl rfl rfl ?_
      refine JL.mv (d := none) (MV.store (ss := [Seg.c (s2.v), Seg.c (.int .i64 x4)]) 0 1 1 [Seg.c (.int .i64 x5)] rfl tk_3 rfl rfl rfl rfl (fun w hs => ⟨rfl, one_c rfl, trivial⟩)) rfl rfl rfl ?_
      rintro _ _ ⟨rfl, rfl⟩
      refine JL.nil ?_
      refine QJ.then_normal ?_
      refine JC.seq ?_
      refine JC.region ?_
      refine JL.val (v := .int .i64 (0 : Int)) (QV.assign rfl) rfl rfl rfl ?_
      refine JL.nil ?_
      refine QJ.then_normal ?_
      refine JC.ret ?_
      obtain rfl := Option.some.inj hm
      exact QJ.body (vs := [.int .i64 (0 : Int)]) (.inl rfl) rfl (ResVs.cons (ResV.tmp rfl) ResVs.nil) [1, 0] rfl rfl (.inr ⟨own_of _ _ _ _, own_blk _ _ _, trivial⟩) ⟨rfl, rfl⟩

/-! ### 46: (*drogher/bits.Reader).At -/
noncomputable def F46.m (x3 : List Int) (x4 : Int) : Option Unit :=
  some ()
set_option maxRecDepth 100000 in
set_option maxHeartbeats 4000000 in
theorem F46.spec (b1 : Nat) (s2 : SlV) (x3 : List Int) (x4 : Int) (r : Unit) (hm : F46.m x3 x4 = some r) :
    Ctr Try.prog false 46 [.pointer (some ⟨b1, 0, none⟩)] [Asr.blk b1 101 [Seg.c (s2.v), Seg.c (.int .i64 x4)], Asr.of 5 (Enc.int .u8) (s2.v) x3] (fun v L' => v = .int .i64 x4 ∧ L' = [Asr.of 5 (Enc.int .u8) (s2.v) x3, Asr.blk b1 101 [Seg.c (s2.v), Seg.c (.int .i64 x4)]]) := by
  refine Ctr.intro (n := 9) (env := [(0, .pointer (some ⟨b1, 0, none⟩))]) Try.func46 rfl rfl rfl rfl (fun c => ?_)
  unfold F46.m at hm
  refine JC.seq ?_
  refine JC.region ?_
  refine JL.val (v := .int .i64 (0 : Int)) (QV.assign rfl) rfl rfl rfl ?_
  refine JL.nil ?_
  refine QJ.then_normal ?_
  refine JC.seq ?_
  refine JC.seq ?_
  refine JC.region ?_
  refine JL.val (v := .pointer (some ⟨b1, 0, none⟩)) (QV.move rfl) rfl rfl rfl ?_
  refine JL.val (v := .bool false) ((QV.eq (QV.eqlP Try.underlying51 rfl rfl (.inr rfl)) (by simp))) rfl rfl rfl ?_
  refine JL.nil ?_
  refine QJ.then_normal ?_
  refine JC.condF rfl ?_
  refine JC.skip ?_
  refine QJ.then_normal ?_
  refine JC.seq ?_
  refine JC.region ?_
  refine JL.val (v := .pointer (some ⟨b1, 0, none⟩)) (QV.move rfl) rfl rfl rfl ?_
  refine JL.val (v := .pointer (some ⟨b1, 0, none⟩)) (QV.nilCheck rfl) rfl rfl rfl ?_
  refine JL.val (v := .pointer (some ⟨b1, 1, none⟩)) (QV.fieldB fo_101_1 rfl rfl) rfl rfl rfl ?_
  refine JL.val (v := .int .i64 x4) (QV.load1 (ss := [Seg.c (s2.v), Seg.c (.int .i64 x4)]) 0 1 rfl tk_3 rfl rfl rfl) rfl rfl rfl ?_
  refine JL.val (v := .int .i64 x4) (QV.assign rfl) rfl rfl rfl ?_
  refine JL.nil ?_
  refine QJ.then_normal ?_
  refine JC.ret ?_
  obtain rfl := Option.some.inj hm
  exact QJ.body (vs := [.int .i64 x4]) (.inl rfl) rfl (ResVs.cons (ResV.tmp rfl) ResVs.nil) [1, 0] rfl rfl (.inr ⟨own_of _ _ _ _, own_blk _ _ _, trivial⟩) ⟨rfl, rfl⟩

end Go.Proofs.Ytpophpendlnehaa
