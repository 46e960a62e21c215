/- Written by gen.py: functions and their contracts. -/
import Derived.Test.YtpophpendlnehaaBiFacts
namespace Go.Proofs.Ytpophpendlnehaa
open Go Go.Eng Go.Proofs
set_option linter.unusedVariables false
set_option linter.unusedSimpArgs false
/-! ### 25: drogher/drogherlaw08.great -/
noncomputable def F25.j1   : Option Bool :=
  some false
noncomputable def F25.b1 (x2 : (List (Int × Int × Int × (List Int)))) : Int → Option (Int ⊕ ((Bool) ⊕ Unit))
  | d6 => (if d6 < ((x2).length : Int) then (if 0 ≤ d6 ∧ d6 < ((x2).length : Int) then (if (100 : Int) < (((gd x2 d6).2.2.2).length : Int) then some (.inr (.inl (true))) else some (.inl (IntKind.wrap .i64 (d6 + (1 : Int))))) else none) else some (.inr (.inr (()))))
noncomputable def F25.m (x2 : (List (Int × Int × Int × (List Int)))) : Option Bool :=
  (if (100 : Int) < ((x2).length : Int) then some true else ((loop (F25.b1 x2) (0 : Int)).bind fun y => match y with | .inl r => some r | .inr _ => F25.j1))
set_option maxRecDepth 100000 in
set_option maxHeartbeats 4000000 in
theorem F25.spec (s1 : SlV) (z3 : List (Unit × Unit × Unit × SlV)) (x2 : (List (Int × Int × Int × (List Int)))) (r : Bool) (hm : F25.m x2 = some r) :
    Ctr Try.prog false 25 [s1.v] [Asr.vn (NE.pair (NE.flat (Enc.int .i64)) (NE.pair (NE.flat (Enc.int .i64)) (NE.pair (NE.flat (Enc.int .u32)) (NE.sl (Enc.int .u8))))) (s1.v) z3 x2] (fun v L' => v = .bool r ∧ L' = []) := by
  refine Ctr.intro (n := 20) (env := [(0, s1.v)]) Try.func25 rfl rfl rfl rfl (fun c => ?_)
  unfold F25.m at hm
  refine JC.seq ?_
  refine JC.region ?_
  refine JL.val (v := .bool false) (QV.assign rfl) rfl rfl rfl ?_
  refine JL.nil ?_
  refine QJ.then_normal ?_
  refine JC.seq ?_
  refine JC.seq ?_
  refine JC.region ?_
  refine JL.val (v := s1.v) (QV.move rfl) rfl rfl rfl ?_
  refine JL.val (v := .int .i64 ((x2).length : Int)) (QV.lenN (RdN.vn 0 rfl) Try.underlying38 rfl) rfl rfl rfl ?_
  refine JL.val (v := .bool (decide ((100 : Int) < ((x2).length : Int)))) (QV.gtr rfl rfl) rfl rfl rfl ?_
  refine JL.nil ?_
  refine QJ.then_normal ?_
  rcases ite_inv hm with ⟨h5, hm⟩ | ⟨h5, hm⟩
  ·
    refine JC.condT' rfl (decide_eq_true h5) ?_
    refine JC.seq ?_
    refine JC.region ?_
    refine JL.val (v := .bool true) (QV.assign rfl) rfl rfl rfl ?_
    refine JL.nil ?_
    refine QJ.then_normal ?_
    refine JC.ret ?_
    refine QJ.then_ret ?_
    obtain rfl := Option.some.inj hm
    exact QJ.body (vs := [.bool true]) (.inl rfl) rfl (ResVs.cons (ResV.tmp rfl) ResVs.nil) [] rfl rfl (.inr trivial) ⟨rfl, rfl⟩
  ·
    refine JC.condF' rfl (decide_eq_false h5) ?_
    refine JC.skip ?_
    refine QJ.then_normal ?_
    refine JC.seq ?_
    refine JC.seq ?_
    refine JC.region ?_
    refine JL.val (v := .int .i64 (0 : Int)) (QV.assign rfl) rfl rfl rfl ?_
    refine JL.nil ?_
    refine QJ.then_normal ?_
    refine JC.cutK (Y := Unit × Unit) (fun y => match y with | (_, _) => F25.j1 = some r) (fun y => match y with | (_, _) => []) (fun y => match y with | (_, _) => []) ?_ ?_
    ·
      rintro ⟨⟨⟩, ⟨⟩⟩ hm
      unfold F25.j1 at hm
      show QJ _ _ [] [] _ _
      refine QJ.then_normal ?_
      refine JC.seq ?_
      refine JC.region ?_
      refine JL.val (v := .bool false) (QV.assign rfl) rfl rfl rfl ?_
      refine JL.nil ?_
      refine QJ.then_normal ?_
      refine JC.ret ?_
      obtain rfl := Option.some.inj hm
      exact QJ.body (vs := [.bool false]) (.inl rfl) rfl (ResVs.cons (ResV.tmp rfl) ResVs.nil) [] rfl rfl (.inr trivial) ⟨rfl, rfl⟩
    ·
      refine JC.block ?_
      obtain ⟨y8, hl9, hmo10⟩ := bind_inv hm
      refine JC.loop (F25.b1 x2) (fun x z => match x, z with | d6, _ => [(0, s1.v), (3, .int .i64 d6)]) (fun x z => match x, z with | d6, _ => [Asr.vn (NE.pair (NE.flat (Enc.int .i64)) (NE.pair (NE.flat (Enc.int .i64)) (NE.pair (NE.flat (Enc.int .u32)) (NE.sl (Enc.int .u8))))) (s1.v) z3 x2]) (0 : Int) () y8 hl9 [0] (by exact ⟨rfl, rfl, trivial⟩) rfl rfl ?_
      rintro d6 ⟨⟩ s11 hm
      unfold F25.b1 at hm
      dsimp only at hm
      show JC _ _ _ [(0, s1.v), (3, .int .i64 d6)] [Asr.vn (NE.pair (NE.flat (Enc.int .i64)) (NE.pair (NE.flat (Enc.int .i64)) (NE.pair (NE.flat (Enc.int .u32)) (NE.sl (Enc.int .u8))))) (s1.v) z3 x2] _ _
      refine JC.seq ?_
      refine JC.seq ?_
      refine JC.region ?_
      refine JL.val (v := .int .i64 d6) (QV.move rfl) rfl rfl rfl ?_
      refine JL.val (v := s1.v) (QV.move rfl) rfl rfl rfl ?_
      refine JL.val (v := .int .i64 ((x2).length : Int)) (QV.lenN (RdN.vn 0 rfl) Try.underlying38 rfl) rfl rfl rfl ?_
      refine JL.val (v := .bool (decide (d6 < ((x2).length : Int)))) (QV.lss rfl rfl) rfl rfl rfl ?_
      refine JL.nil ?_
      refine QJ.then_normal ?_
      rcases ite_inv hm with ⟨h12, hm⟩ | ⟨h12, hm⟩
      ·
        refine JC.condT' rfl (decide_eq_true h12) ?_
        refine JC.skip ?_
        refine QJ.then_normal ?_
        refine JC.seq ?_
        refine JC.block ?_
        refine JC.seq ?_
        refine JC.region ?_
        refine JL.val (v := s1.v) (QV.move rfl) rfl rfl rfl ?_
        refine JL.val (v := .int .i64 d6) (QV.move rfl) rfl rfl rfl ?_
        obtain ⟨h13, hm⟩ := guard_inv hm
        refine JL.val (v := .pointer (some (elA (s1.v) (Int.toNat d6 * ((NE.pair (NE.flat (Enc.int .i64)) (NE.pair (NE.flat (Enc.int .i64)) (NE.pair (NE.flat (Enc.int .u32)) (NE.sl (Enc.int .u8))))).E).sz)))) (QV.indexN (RdN.vn 0 rfl) Try.underlying38 tk_44 rfl rfl h13) rfl rfl rfl ?_
        refine JL.val (v := .pointer (some ((elA (s1.v) (Int.toNat d6 * ((NE.pair (NE.flat (Enc.int .i64)) (NE.pair (NE.flat (Enc.int .i64)) (NE.pair (NE.flat (Enc.int .u32)) (NE.sl (Enc.int .u8))))).E).sz)).add 3))) (QV.fieldA fo_44_3 rfl) rfl rfl rfl ?_
        refine JL.val (v := (gd z3 d6).2.2.2.v) (QV.elFN (RdN.vn 0 rfl) tk_26 rfl h13 rfl) rfl rfl rfl ?_
        refine JL.val (v := .int .i64 (((gd x2 d6).2.2.2).length : Int)) (QV.len (Rdg.ofDrv (Drv.el (K := (NE.pair (NE.flat (Enc.int .i64)) (NE.pair (NE.flat (Enc.int .i64)) (NE.pair (NE.flat (Enc.int .u32)) (NE.sl (Enc.int .u8)))))) (A := Asr.vw (Enc.int .u8) ((gd z3 d6).2.2.2.v) (gd x2 d6).2.2.2) (Drv.vn 0 rfl) h13 (fun _ _ q => q.2.2.2))) Try.underlying26 rfl) rfl rfl rfl ?_
        refine JL.val (v := .bool (decide ((100 : Int) < (((gd x2 d6).2.2.2).length : Int)))) (QV.gtr rfl rfl) rfl rfl rfl ?_
        refine JL.nil ?_
        refine QJ.then_normal ?_
        rcases ite_inv hm with ⟨h14, hm⟩ | ⟨h14, hm⟩
        ·
          refine JC.condT' rfl (decide_eq_true h14) ?_
          refine JC.seq ?_
          refine JC.region ?_
          refine JL.val (v := .bool true) (QV.assign rfl) rfl rfl rfl ?_
          refine JL.nil ?_
          refine QJ.then_normal ?_
          refine JC.ret ?_
          refine QJ.block_ret ?_
          refine QJ.then_ret ?_
          obtain rfl := Option.some.inj hm
          refine QJ.round_ret (fun hy => ?_)
          subst hy
          refine QJ.block_ret ?_
          refine QJ.cut_ret ?_
          refine QJ.then_ret ?_
          obtain rfl := Option.some.inj hmo10
          exact QJ.body (vs := [.bool true]) (.inl rfl) rfl (ResVs.cons (ResV.tmp rfl) ResVs.nil) [] rfl rfl (.inr trivial) ⟨rfl, rfl⟩
        ·
          refine JC.condF' rfl (decide_eq_false h14) ?_
          refine JC.skip ?_
          refine QJ.block_normal ?_
          refine QJ.then_normal ?_
          refine JC.region ?_
          refine JL.val (v := .int .i64 d6) (QV.move rfl) rfl rfl rfl ?_
          refine JL.val (v := .int .i64 (IntKind.wrap .i64 (d6 + (1 : Int)))) (QV.add rfl rfl) rfl rfl rfl ?_
          refine JL.val (v := .int .i64 (IntKind.wrap .i64 (d6 + (1 : Int)))) (QV.assign rfl) rfl rfl rfl ?_
          refine JL.nil ?_
          obtain rfl := Option.some.inj hm
          exact QJ.round_on (IntKind.wrap .i64 (d6 + (1 : Int))) () [0] (by exact ⟨rfl, rfl, trivial⟩) rfl rfl
      ·
        refine JC.condF' rfl (decide_eq_false h12) ?_
        refine JC.exit ?_
        refine QJ.then_exit ?_
        obtain rfl := Option.some.inj hm
        refine QJ.round_exit (fun hy => ?_)
        subst hy
        refine QJ.block_hit ?_
        exact QJ.cut_normal ((), ()) hmo10 [] trivial rfl rfl

/-! ### 27: drogher/bits.NewWriter -/
noncomputable def F27.m  : Option (List Int × Int × Int) :=
  some (([] : List Int), (0 : Int), (0 : Int))
set_option maxRecDepth 100000 in
set_option maxHeartbeats 4000000 in
theorem F27.spec  (r : (List Int × Int × Int)) (hm : F27.m = some r) :
    Ctr Try.prog false 27 [] [] (fun v L' => ∃ (g1 : Nat), ∃ (g2 : SlV), v = .pointer (some ⟨g1, 0, none⟩) ∧ L' = [Asr.blk g1 98 [Seg.c (g2.v), Seg.c (.int .u64 r.2.1), Seg.c (.int .i64 r.2.2)], Asr.of 5 (Enc.int .u8) (g2.v) r.1]) := by
  refine Ctr.intro (n := 3) (env := []) Try.func27 rfl rfl rfl rfl (fun c => ?_)
  unfold F27.m at hm
  refine JC.seq ?_
  refine JC.region ?_
  refine JL.val (v := .pointer none) (QV.assign rfl) rfl rfl rfl ?_
  refine JL.nil ?_
  refine QJ.then_normal ?_
  refine JC.seq ?_
  refine JC.region ?_
  refine JL.ent (fun _ hs => hs.nil 5 (Enc.int .u8)) ?_
  refine JL.val (v := .agg #[SlV.nil.v, .int .u64 (0 : Int), .int .i64 (0 : Int)]) (QV.build (vals := []) rfl (by kernel_rfl)) rfl rfl rfl ?_
  refine JL.mv (d := some 2) (MV.box [Seg.c (SlV.nil.v), Seg.c (.int .u64 (0 : Int)), Seg.c (.int .i64 (0 : Int))] rfl (fun w hs => rfl)) rfl rfl rfl ?_
  rintro _ _ ⟨b6, rfl, rfl⟩
  refine JL.val (v := .pointer (some ⟨b6, 0, none⟩)) (QV.assign rfl) rfl rfl rfl ?_
  refine JL.nil ?_
  refine QJ.then_normal ?_
  refine JC.ret ?_
  obtain rfl := Option.some.inj hm
  exact QJ.body (vs := [.pointer (some ⟨b6, 0, none⟩)]) (.inl rfl) rfl (ResVs.cons (ResV.tmp rfl) ResVs.nil) [0, 1] rfl rfl (.inr ⟨own_blk _ _ _, own_of _ _ _ _, trivial⟩) ⟨b6, (SlV.nil), rfl, rfl⟩

/-! ### 28: (*drogher/bits.Writer).Put -/
noncomputable def F28.j1  (d15 : List Int) (d16 : Int) (d17 : Int) : Option (List Int × Int × Int) :=
  some (d15, d16, d17)
noncomputable def F28.b1  : (List Int × Int × Int) → Option ((List Int × Int × Int) ⊕ (List Int × Int × Int))
  | (d19, d20, d21) => (if (8 : Int) ≤ d21 then (if ((d19).length + ([(IntKind.wrap .u8 d20)]).length) * 1 ≤ 140737488355328 ∧ (d19).length + ([(IntKind.wrap .u8 d20)]).length ≤ 9223372036854775807 then some (.inl ((d19 ++ [(IntKind.wrap .u8 d20)]), (shrI .u64 d20 (8 : Int)), (IntKind.wrap .i64 (d21 - (8 : Int))))) else none) else some (.inr (d19, d20, d21)))
noncomputable def F28.m (x3 : (List Int)) (x4 : Int) (x5 : Int) (x6 : Int) (x7 : Int) : Option (List Int × Int × Int) :=
  (if 0 ≤ (minI (maxI x7 (0 : Int)) (32 : Int)) then (if 0 ≤ x5 then ((loop (F28.b1) (x3, (orI .u64 x4 (shlI .u64 (andI .u64 (IntKind.wrap .u64 x6) (IntKind.wrap .u64 ((shlI .u64 (1 : Int) (minI (maxI x7 (0 : Int)) (32 : Int))) - (1 : Int)))) x5)), (IntKind.wrap .i64 (x5 + (minI (maxI x7 (0 : Int)) (32 : Int)))))).bind fun y => match y with | (d15, d16, d17) => F28.j1 (d15) (d16) (d17)) else none) else none)
set_option maxRecDepth 100000 in
set_option maxHeartbeats 4000000 in
theorem F28.spec (b1 : Nat) (s2 : SlV) (x3 : (List Int)) (x4 : Int) (x5 : Int) (x6 : Int) (x7 : Int) (r : (List Int × Int × Int)) (hm : F28.m x3 x4 x5 x6 x7 = some r) :
    Ctr Try.prog false 28 [.pointer (some ⟨b1, 0, none⟩), .int .u32 x6, .int .i64 x7] [Asr.blk b1 98 [Seg.c (s2.v), Seg.c (.int .u64 x4), Seg.c (.int .i64 x5)], Asr.of 5 (Enc.int .u8) (s2.v) x3] (fun v L' => ∃ (g8 : SlV), v = .tuple #[] ∧ L' = [Asr.of 5 (Enc.int .u8) (g8.v) r.1, Asr.blk b1 98 [Seg.c (g8.v), Seg.c (.int .u64 r.2.1), Seg.c (.int .i64 r.2.2)]]) := by
  refine Ctr.intro (n := 70) (env := [(0, .pointer (some ⟨b1, 0, none⟩)), (1, .int .u32 x6), (2, .int .i64 x7)]) Try.func28 rfl rfl rfl rfl (fun c => ?_)
  unfold F28.m at hm
  refine JC.seq ?_
  refine JC.seq ?_
  refine JC.region ?_
  refine JL.val (v := .pointer (some ⟨b1, 0, none⟩)) (QV.move rfl) rfl rfl rfl ?_
  refine JL.val (v := .bool false) ((QV.eq (QV.eqlP Try.underlying40 rfl rfl (.inr rfl)) (by simp))) rfl rfl rfl ?_
  refine JL.nil ?_
  refine QJ.then_normal ?_
  refine JC.condF rfl ?_
  refine JC.skip ?_
  refine QJ.then_normal ?_
  refine JC.seq ?_
  refine JC.region ?_
  refine JL.val (v := .int .i64 x7) (QV.move rfl) rfl rfl rfl ?_
  refine JL.val (v := .int .i64 (maxI x7 (0 : Int))) (QV.max2 rfl rfl) rfl rfl rfl ?_
  refine JL.val (v := .int .i64 (minI (maxI x7 (0 : Int)) (32 : Int))) (QV.min2 rfl rfl) rfl rfl rfl ?_
  refine JL.val (v := .int .i64 (minI (maxI x7 (0 : Int)) (32 : Int))) (QV.assign rfl) rfl rfl rfl ?_
  refine JL.nil ?_
  refine QJ.then_normal ?_
  refine JC.seq ?_
  refine JC.regionT [Asr.blk b1 98 [Seg.c (s2.v), Seg.c (.int .u64 x4), Seg.c (.int .i64 x5)], Asr.of 5 (Enc.int .u8) (s2.v) x3] (fun t => Nat.beq t 18) [(0, true), (1, true), (2, true), (3, true), (4, true), (5, true), (6, true), (7, true), (8, true), (9, true), (10, false), (11, false), (12, false), (13, false), (14, false), (15, false), (16, false), (17, false), (18, false)] (by kernel_rfl) (by kernel_rfl) (by kernel_rfl) rfl (fun hsel => ?_)
  refine JT.take (i := 0) (v := .pointer (some ⟨b1, 0, none⟩)) hsel rfl (QV.move rfl) rfl rfl rfl [0, 1] rfl rfl ?_
  refine JT.take (i := 1) (v := .pointer (some ⟨b1, 0, none⟩)) hsel rfl (QV.nilCheck rfl) rfl rfl rfl [0, 1] rfl rfl ?_
  refine JT.take (i := 2) (v := .pointer (some ⟨b1, 1, none⟩)) hsel rfl (QV.fieldB fo_98_1 rfl rfl) rfl rfl rfl [0, 1] rfl rfl ?_
  refine JT.take (i := 3) (v := .int .u64 x4) hsel rfl (QV.load1 (ss := [Seg.c (s2.v), Seg.c (.int .u64 x4), Seg.c (.int .i64 x5)]) 0 1 rfl tk_96 rfl rfl rfl) rfl rfl rfl [0, 1] rfl rfl ?_
  refine JT.take (i := 4) (v := .int .u32 x6) hsel rfl (QV.move rfl) rfl rfl rfl [0, 1] rfl rfl ?_
  refine JT.take (i := 5) (v := .int .u64 (IntKind.wrap .u64 x6)) hsel rfl (QV.conv rfl (by rw [Try.underlying42]; rfl) Try.underlying96) rfl rfl rfl [0, 1] rfl rfl ?_
  refine JT.take (i := 6) (v := .int .i64 (minI (maxI x7 (0 : Int)) (32 : Int))) hsel rfl (QV.move rfl) rfl rfl rfl [0, 1] rfl rfl ?_
  obtain ⟨h12, hm⟩ := guard_inv hm
  refine JT.take (i := 7) (v := .int .u64 (shlI .u64 (1 : Int) (minI (maxI x7 (0 : Int)) (32 : Int)))) hsel rfl (QV.shl rfl rfl h12) rfl rfl rfl [0, 1] rfl rfl ?_
  refine JT.take (i := 8) (v := .int .u64 (IntKind.wrap .u64 ((shlI .u64 (1 : Int) (minI (maxI x7 (0 : Int)) (32 : Int))) - (1 : Int)))) hsel rfl (QV.sub rfl rfl) rfl rfl rfl [0, 1] rfl rfl ?_
  refine JT.take (i := 9) (v := .int .u64 (andI .u64 (IntKind.wrap .u64 x6) (IntKind.wrap .u64 ((shlI .u64 (1 : Int) (minI (maxI x7 (0 : Int)) (32 : Int))) - (1 : Int))))) hsel rfl (QV.and rfl rfl) rfl rfl rfl [0, 1] rfl rfl ?_
  refine JT.only (i := 10) (d := some 21) rfl (MV.ofQV (v := .pointer (some ⟨b1, 0, none⟩)) (QV.move rfl)) rfl rfl rfl ?_
  rintro _ _ ⟨rfl, rfl⟩
  refine ⟨fun _ => ⟨[0, 1], rfl, rfl⟩, ?_⟩
  refine JT.only (i := 11) (d := some 22) rfl (MV.ofQV (v := .pointer (some ⟨b1, 0, none⟩)) (QV.nilCheck rfl)) rfl rfl rfl ?_
  rintro _ _ ⟨rfl, rfl⟩
  refine ⟨fun _ => ⟨[0, 1], rfl, rfl⟩, ?_⟩
  refine JT.only (i := 12) (d := some 23) rfl (MV.ofQV (v := .pointer (some ⟨b1, 2, none⟩)) (QV.fieldB fo_98_2 rfl rfl)) rfl rfl rfl ?_
  rintro _ _ ⟨rfl, rfl⟩
  refine ⟨fun _ => ⟨[0, 1], rfl, rfl⟩, ?_⟩
  refine JT.only (i := 13) (d := some 24) rfl (MV.ofQV (v := .int .i64 x5) (QV.load1 (ss := [Seg.c (s2.v), Seg.c (.int .u64 x4), Seg.c (.int .i64 x5)]) 0 2 rfl tk_3 rfl rfl rfl)) rfl rfl rfl ?_
  rintro _ _ ⟨rfl, rfl⟩
  refine ⟨fun _ => ⟨[0, 1], rfl, rfl⟩, ?_⟩
  obtain ⟨h13, hm⟩ := guard_inv hm
  refine JT.only (i := 14) (d := some 25) rfl (MV.ofQV (v := .int .u64 (shlI .u64 (andI .u64 (IntKind.wrap .u64 x6) (IntKind.wrap .u64 ((shlI .u64 (1 : Int) (minI (maxI x7 (0 : Int)) (32 : Int))) - (1 : Int)))) x5)) (QV.shl rfl rfl h13)) rfl rfl rfl ?_
  rintro _ _ ⟨rfl, rfl⟩
  refine ⟨fun _ => ⟨[0, 1], rfl, rfl⟩, ?_⟩
  refine JT.only (i := 15) (d := some 26) rfl (MV.ofQV (v := .int .u64 (orI .u64 x4 (shlI .u64 (andI .u64 (IntKind.wrap .u64 x6) (IntKind.wrap .u64 ((shlI .u64 (1 : Int) (minI (maxI x7 (0 : Int)) (32 : Int))) - (1 : Int)))) x5))) (QV.or rfl rfl)) rfl rfl rfl ?_
  rintro _ _ ⟨rfl, rfl⟩
  refine ⟨fun _ => ⟨[0, 1], rfl, rfl⟩, ?_⟩
  refine JT.only (i := 16) (d := some 27) rfl (MV.ofQV (v := .pointer (some ⟨b1, 0, none⟩)) (QV.nilCheck rfl)) rfl rfl rfl ?_
  rintro _ _ ⟨rfl, rfl⟩
  refine ⟨fun _ => ⟨[0, 1], rfl, rfl⟩, ?_⟩
  refine JT.only (i := 17) (d := some 28) rfl (MV.ofQV (v := .pointer (some ⟨b1, 1, none⟩)) (QV.fieldB fo_98_1 rfl rfl)) rfl rfl rfl ?_
  rintro _ _ ⟨rfl, rfl⟩
  refine ⟨fun _ => ⟨[0, 1], rfl, rfl⟩, ?_⟩
  refine JT.only (i := 18) (d := none) rfl (MV.store (ss := [Seg.c (s2.v), Seg.c (.int .u64 x4), Seg.c (.int .i64 x5)]) 0 1 1 [Seg.c (.int .u64 (orI .u64 x4 (shlI .u64 (andI .u64 (IntKind.wrap .u64 x6) (IntKind.wrap .u64 ((shlI .u64 (1 : Int) (minI (maxI x7 (0 : Int)) (32 : Int))) - (1 : Int)))) x5)))] rfl tk_96 rfl rfl rfl rfl (fun w hs => ⟨rfl, one_c rfl, trivial⟩)) rfl rfl rfl ?_
  rintro _ _ ⟨rfl, rfl⟩
  refine ⟨fun h => absurd h (by decide), ?_⟩
  refine JT.nil ?_
  refine QJ.then_normal ?_
  refine JC.seq ?_
  refine JC.region ?_
  refine JL.val (v := .pointer (some ⟨b1, 0, none⟩)) (QV.move rfl) rfl rfl rfl ?_
  refine JL.val (v := .pointer (some ⟨b1, 0, none⟩)) (QV.nilCheck rfl) rfl rfl rfl ?_
  refine JL.val (v := .pointer (some ⟨b1, 2, none⟩)) (QV.fieldB fo_98_2 rfl rfl) rfl rfl rfl ?_
  refine JL.val (v := .int .i64 x5) (QV.load1 (ss := [Seg.c (s2.v), Seg.c (.int .u64 (orI .u64 x4 (shlI .u64 (andI .u64 (IntKind.wrap .u64 x6) (IntKind.wrap .u64 ((shlI .u64 (1 : Int) (minI (maxI x7 (0 : Int)) (32 : Int))) - (1 : Int)))) x5))), Seg.c (.int .i64 x5)]) 0 2 rfl tk_3 rfl rfl rfl) rfl rfl rfl ?_
  refine JL.val (v := .int .i64 (minI (maxI x7 (0 : Int)) (32 : Int))) (QV.move rfl) rfl rfl rfl ?_
  refine JL.val (v := .int .i64 (IntKind.wrap .i64 (x5 + (minI (maxI x7 (0 : Int)) (32 : Int))))) (QV.add rfl rfl) rfl rfl rfl ?_
  refine JL.val (v := .pointer (some ⟨b1, 0, none⟩)) (QV.nilCheck rfl) rfl rfl rfl ?_
  refine JL.val (v := .pointer (some ⟨b1, 2, none⟩)) (QV.fieldB fo_98_2 rfl rfl) rfl rfl rfl ?_
  refine JL.mv (d := none) (MV.store (ss := [Seg.c (s2.v), Seg.c (.int .u64 (orI .u64 x4 (shlI .u64 (andI .u64 (IntKind.wrap .u64 x6) (IntKind.wrap .u64 ((shlI .u64 (1 : Int) (minI (maxI x7 (0 : Int)) (32 : Int))) - (1 : Int)))) x5))), Seg.c (.int .i64 x5)]) 0 2 1 [Seg.c (.int .i64 (IntKind.wrap .i64 (x5 + (minI (maxI x7 (0 : Int)) (32 : Int)))))] rfl tk_3 rfl rfl rfl rfl (fun w hs => ⟨rfl, one_c rfl, trivial⟩)) rfl rfl rfl ?_
  rintro _ _ ⟨rfl, rfl⟩
  refine JL.nil ?_
  refine QJ.then_normal ?_
  refine JC.cutK (Y := (List Int × Int × Int) × SlV) (fun y => match y with | ((d15, d16, d17), _) => F28.j1 (d15) (d16) (d17) = some r) (fun y => match y with | ((d15, d16, d17), z14) => []) (fun y => match y with | ((d15, d16, d17), z14) => [Asr.of 5 (Enc.int .u8) (z14.v) d15, Asr.blk b1 98 [Seg.c (z14.v), Seg.c (.int .u64 d16), Seg.c (.int .i64 d17)]]) ?_ ?_
  ·
    rintro ⟨⟨d15, d16, d17⟩, z14⟩ hm
    unfold F28.j1 at hm
    show QJ _ _ [] [Asr.of 5 (Enc.int .u8) (z14.v) d15, Asr.blk b1 98 [Seg.c (z14.v), Seg.c (.int .u64 d16), Seg.c (.int .i64 d17)]] _ _
    obtain rfl := Option.some.inj hm
    exact QJ.body (vs := []) (.inr rfl) rfl ResVs.nil [0, 1] rfl rfl (.inr ⟨own_of _ _ _ _, own_blk _ _ _, trivial⟩) ⟨z14, rfl, rfl⟩
  ·
    refine JC.block ?_
    obtain ⟨y26, hl27, hmo28⟩ := bind_inv hm
    refine JC.loop (F28.b1) (fun x z => match x, z with | (d19, d20, d21), z18 => [(0, .pointer (some ⟨b1, 0, none⟩))]) (fun x z => match x, z with | (d19, d20, d21), z18 => [Asr.of 5 (Enc.int .u8) (z18.v) d19, Asr.blk b1 98 [Seg.c (z18.v), Seg.c (.int .u64 d20), Seg.c (.int .i64 d21)]]) (x3, (orI .u64 x4 (shlI .u64 (andI .u64 (IntKind.wrap .u64 x6) (IntKind.wrap .u64 ((shlI .u64 (1 : Int) (minI (maxI x7 (0 : Int)) (32 : Int))) - (1 : Int)))) x5)), (IntKind.wrap .i64 (x5 + (minI (maxI x7 (0 : Int)) (32 : Int))))) s2 y26 hl27 [1, 0] (by exact ⟨rfl, trivial⟩) rfl rfl ?_
    rintro ⟨d19, d20, d21⟩ z18 s29 hm
    unfold F28.b1 at hm
    dsimp only at hm
    show JC _ _ _ [(0, .pointer (some ⟨b1, 0, none⟩))] [Asr.of 5 (Enc.int .u8) (z18.v) d19, Asr.blk b1 98 [Seg.c (z18.v), Seg.c (.int .u64 d20), Seg.c (.int .i64 d21)]] _ _
    refine JC.seq ?_
    refine JC.seq ?_
    refine JC.region ?_
    refine JL.val (v := .pointer (some ⟨b1, 0, none⟩)) (QV.move rfl) rfl rfl rfl ?_
    refine JL.val (v := .pointer (some ⟨b1, 0, none⟩)) (QV.nilCheck rfl) rfl rfl rfl ?_
    refine JL.val (v := .pointer (some ⟨b1, 2, none⟩)) (QV.fieldB fo_98_2 rfl rfl) rfl rfl rfl ?_
    refine JL.val (v := .int .i64 d21) (QV.load1 (ss := [Seg.c (z18.v), Seg.c (.int .u64 d20), Seg.c (.int .i64 d21)]) 1 2 rfl tk_3 rfl rfl rfl) rfl rfl rfl ?_
    refine JL.val (v := .bool (decide ((8 : Int) ≤ d21))) (QV.geq rfl rfl) rfl rfl rfl ?_
    refine JL.nil ?_
    refine QJ.then_normal ?_
    rcases ite_inv hm with ⟨h30, hm⟩ | ⟨h30, hm⟩
    ·
      refine JC.condT' rfl (decide_eq_true h30) ?_
      refine JC.skip ?_
      refine QJ.then_normal ?_
      refine JC.block ?_
      refine JC.seq ?_
      refine JC.regionT [Asr.blk b1 98 [Seg.c (z18.v), Seg.c (.int .u64 d20), Seg.c (.int .i64 d21)]] (fun t => Nat.beq t 14) [(0, true), (1, true), (2, true), (3, true), (4, true), (5, false), (6, false), (7, false), (8, false), (9, false), (10, false), (11, false), (12, false), (13, false), (14, false)] (by kernel_rfl) (by kernel_rfl) (by kernel_rfl) rfl (fun hsel => ?_)
      refine JT.take (i := 0) (v := .pointer (some ⟨b1, 0, none⟩)) hsel rfl (QV.move rfl) rfl rfl rfl [1] rfl rfl ?_
      refine JT.take (i := 1) (v := .pointer (some ⟨b1, 0, none⟩)) hsel rfl (QV.move rfl) rfl rfl rfl [1] rfl rfl ?_
      refine JT.take (i := 2) (v := .pointer (some ⟨b1, 0, none⟩)) hsel rfl (QV.nilCheck rfl) rfl rfl rfl [1] rfl rfl ?_
      refine JT.take (i := 3) (v := .pointer (some ⟨b1, 0, none⟩)) hsel rfl (QV.fieldB fo_98_0 rfl rfl) rfl rfl rfl [1] rfl rfl ?_
      refine JT.take (i := 4) (v := z18.v) hsel rfl (QV.load1 (ss := [Seg.c (z18.v), Seg.c (.int .u64 d20), Seg.c (.int .i64 d21)]) 0 0 rfl tk_26 rfl rfl rfl) rfl rfl rfl [1] rfl rfl ?_
      refine JT.only (i := 5) (d := some 47) rfl (MV.ofQV (v := .pointer (some ⟨b1, 0, none⟩)) (QV.move rfl)) rfl rfl rfl ?_
      rintro _ _ ⟨rfl, rfl⟩
      refine ⟨fun _ => ⟨[1], rfl, rfl⟩, ?_⟩
      refine JT.only (i := 6) (d := some 48) rfl (MV.ofQV (v := .pointer (some ⟨b1, 0, none⟩)) (QV.nilCheck rfl)) rfl rfl rfl ?_
      rintro _ _ ⟨rfl, rfl⟩
      refine ⟨fun _ => ⟨[1], rfl, rfl⟩, ?_⟩
      refine JT.only (i := 7) (d := some 49) rfl (MV.ofQV (v := .pointer (some ⟨b1, 1, none⟩)) (QV.fieldB fo_98_1 rfl rfl)) rfl rfl rfl ?_
      rintro _ _ ⟨rfl, rfl⟩
      refine ⟨fun _ => ⟨[1], rfl, rfl⟩, ?_⟩
      refine JT.only (i := 8) (d := some 50) rfl (MV.ofQV (v := .int .u64 d20) (QV.load1 (ss := [Seg.c (z18.v), Seg.c (.int .u64 d20), Seg.c (.int .i64 d21)]) 1 1 rfl tk_96 rfl rfl rfl)) rfl rfl rfl ?_
      rintro _ _ ⟨rfl, rfl⟩
      refine ⟨fun _ => ⟨[1], rfl, rfl⟩, ?_⟩
      refine JT.only (i := 9) (d := some 51) rfl (MV.ofQV (v := .int .u8 (IntKind.wrap .u8 d20)) (QV.conv rfl (by rw [Try.underlying96]; rfl) Try.underlying5)) rfl rfl rfl ?_
      rintro _ _ ⟨rfl, rfl⟩
      refine ⟨fun _ => ⟨[1], rfl, rfl⟩, ?_⟩
      refine JT.only (i := 10) (d := some 52) rfl (MV.lit (E := (Enc.int .u8)) (vals := [(0, .int .u8 (IntKind.wrap .u8 d20))]) [(IntKind.wrap .u8 d20)] Try.underlying26 zi_5 rfl (by decide) rfl (by kernel_rfl)) rfl rfl rfl ?_
      rintro _ _ ⟨z31, rfl, rfl⟩
      refine ⟨fun _ => ⟨[2], rfl, rfl⟩, ?_⟩
      refine JT.grow [Asr.of 5 (Enc.int .u8) (z31.v) [(IntKind.wrap .u8 d20)], Asr.blk b1 98 [Seg.c (z18.v), Seg.c (.int .u64 d20), Seg.c (.int .i64 d21)]] [1] rfl rfl ?_
      obtain ⟨h32, hm⟩ := guard_inv hm
      refine JT.only (i := 11) (d := some 53) rfl (MV.append 1 rfl (Rdg.of 0 rfl) Try.underlying26 zi_5 rfl (by decide) rfl rfl h32) rfl rfl rfl ?_
      rintro _ _ ⟨z33, rfl, rfl⟩
      refine ⟨fun _ => ⟨[0, 2], rfl, rfl⟩, ?_⟩
      refine JT.grow [Asr.of 5 (Enc.int .u8) (z31.v) [(IntKind.wrap .u8 d20)], Asr.of 5 (Enc.int .u8) (z33.v) (d19 ++ [(IntKind.wrap .u8 d20)]), Asr.blk b1 98 [Seg.c (z18.v), Seg.c (.int .u64 d20), Seg.c (.int .i64 d21)]] [0, 2] rfl rfl ?_
      refine JT.only (i := 12) (d := some 54) rfl (MV.ofQV (v := .pointer (some ⟨b1, 0, none⟩)) (QV.nilCheck rfl)) rfl rfl rfl ?_
      rintro _ _ ⟨rfl, rfl⟩
      refine ⟨fun _ => ⟨[0, 1, 2], rfl, rfl⟩, ?_⟩
      refine JT.only (i := 13) (d := some 55) rfl (MV.ofQV (v := .pointer (some ⟨b1, 0, none⟩)) (QV.fieldB fo_98_0 rfl rfl)) rfl rfl rfl ?_
      rintro _ _ ⟨rfl, rfl⟩
      refine ⟨fun _ => ⟨[0, 1, 2], rfl, rfl⟩, ?_⟩
      refine JT.only (i := 14) (d := none) rfl (MV.store (ss := [Seg.c (z18.v), Seg.c (.int .u64 d20), Seg.c (.int .i64 d21)]) 2 0 1 [Seg.c (z33.v)] rfl tk_26 rfl rfl rfl rfl (fun w hs => ⟨cells_sl (Rdg.of 1 rfl) hs, one_sl (Rdg.of 1 rfl) hs, trivial⟩)) rfl rfl rfl ?_
      rintro _ _ ⟨rfl, rfl⟩
      refine ⟨fun h => absurd h (by decide), ?_⟩
      refine JT.nil ?_
      refine QJ.then_normal ?_
      refine JC.seq ?_
      refine JC.region ?_
      refine JL.val (v := .pointer (some ⟨b1, 0, none⟩)) (QV.move rfl) rfl rfl rfl ?_
      refine JL.val (v := .pointer (some ⟨b1, 0, none⟩)) (QV.nilCheck rfl) rfl rfl rfl ?_
      refine JL.val (v := .pointer (some ⟨b1, 1, none⟩)) (QV.fieldB fo_98_1 rfl rfl) rfl rfl rfl ?_
      refine JL.val (v := .int .u64 d20) (QV.load1 (ss := [Seg.c (z33.v), Seg.c (.int .u64 d20), Seg.c (.int .i64 d21)]) 2 1 rfl tk_96 rfl rfl rfl) rfl rfl rfl ?_
      refine JL.val (v := .int .u64 (shrI .u64 d20 (8 : Int))) (QV.shr rfl rfl (by decide)) rfl rfl rfl ?_
      refine JL.val (v := .pointer (some ⟨b1, 0, none⟩)) (QV.nilCheck rfl) rfl rfl rfl ?_
      refine JL.val (v := .pointer (some ⟨b1, 1, none⟩)) (QV.fieldB fo_98_1 rfl rfl) rfl rfl rfl ?_
      refine JL.mv (d := none) (MV.store (ss := [Seg.c (z33.v), Seg.c (.int .u64 d20), Seg.c (.int .i64 d21)]) 2 1 1 [Seg.c (.int .u64 (shrI .u64 d20 (8 : Int)))] rfl tk_96 rfl rfl rfl rfl (fun w hs => ⟨rfl, one_c rfl, trivial⟩)) rfl rfl rfl ?_
      rintro _ _ ⟨rfl, rfl⟩
      refine JL.nil ?_
      refine QJ.then_normal ?_
      refine JC.region ?_
      refine JL.val (v := .pointer (some ⟨b1, 0, none⟩)) (QV.move rfl) rfl rfl rfl ?_
      refine JL.val (v := .pointer (some ⟨b1, 0, none⟩)) (QV.nilCheck rfl) rfl rfl rfl ?_
      refine JL.val (v := .pointer (some ⟨b1, 2, none⟩)) (QV.fieldB fo_98_2 rfl rfl) rfl rfl rfl ?_
      refine JL.val (v := .int .i64 d21) (QV.load1 (ss := [Seg.c (z33.v), Seg.c (.int .u64 (shrI .u64 d20 (8 : Int))), Seg.c (.int .i64 d21)]) 2 2 rfl tk_3 rfl rfl rfl) rfl rfl rfl ?_
      refine JL.val (v := .int .i64 (IntKind.wrap .i64 (d21 - (8 : Int)))) (QV.sub rfl rfl) rfl rfl rfl ?_
      refine JL.val (v := .pointer (some ⟨b1, 0, none⟩)) (QV.nilCheck rfl) rfl rfl rfl ?_
      refine JL.val (v := .pointer (some ⟨b1, 2, none⟩)) (QV.fieldB fo_98_2 rfl rfl) rfl rfl rfl ?_
      refine JL.mv (d := none) (MV.store (ss := [Seg.c (z33.v), Seg.c (.int .u64 (shrI .u64 d20 (8 : Int))), Seg.c (.int .i64 d21)]) 2 2 1 [Seg.c (.int .i64 (IntKind.wrap .i64 (d21 - (8 : Int))))] rfl tk_3 rfl rfl rfl rfl (fun w hs => ⟨rfl, one_c rfl, trivial⟩)) rfl rfl rfl ?_
      rintro _ _ ⟨rfl, rfl⟩
      refine JL.nil ?_
      refine QJ.block_normal ?_
      obtain rfl := Option.some.inj hm
      exact QJ.round_on ((d19 ++ [(IntKind.wrap .u8 d20)]), (shrI .u64 d20 (8 : Int)), (IntKind.wrap .i64 (d21 - (8 : Int)))) z33 [1, 2] (by exact ⟨rfl, trivial⟩) rfl rfl
    ·
      refine JC.condF' rfl (decide_eq_false h30) ?_
      refine JC.exit ?_
      refine QJ.then_exit ?_
      obtain rfl := Option.some.inj hm
      refine QJ.round_exit (fun hy => ?_)
      subst hy
      refine QJ.block_hit ?_
      exact QJ.cut_normal ((d19, d20, d21), z18) hmo28 [0, 1] trivial rfl rfl

/-! ### 73: math/bits.ReverseBytes32 -/
noncomputable def F73.m (x1 : Int) : Option Int :=
  some (orI .u32 (shrI .u32 (orI .u32 (andI .u32 (shrI .u32 x1 (8 : Int)) (16711935 : Int)) (shlI .u32 (andI .u32 x1 (16711935 : Int)) (8 : Int))) (16 : Int)) (shlI .u32 (orI .u32 (andI .u32 (shrI .u32 x1 (8 : Int)) (16711935 : Int)) (shlI .u32 (andI .u32 x1 (16711935 : Int)) (8 : Int))) (16 : Int)))
set_option maxRecDepth 100000 in
set_option maxHeartbeats 4000000 in
theorem F73.spec (x1 : Int) (r : Int) (hm : F73.m x1 = some r) :
    Ctr Try.prog false 73 [.int .u32 x1] [] (fun v L' => v = .int .u32 r ∧ L' = []) := by
  refine Ctr.intro (n := 15) (env := [(0, .int .u32 x1)]) Try.func73 rfl rfl rfl rfl (fun c => ?_)
  unfold F73.m at hm
  refine JC.seq ?_
  refine JC.region ?_
  refine JL.val (v := .int .u32 (0 : Int)) (QV.assign rfl) rfl rfl rfl ?_
  refine JL.nil ?_
  refine QJ.then_normal ?_
  refine JC.seq ?_
  refine JC.region ?_
  refine JL.val (v := .int .u32 x1) (QV.move rfl) rfl rfl rfl ?_
  refine JL.val (v := .int .u32 (shrI .u32 x1 (8 : Int))) (QV.shr rfl rfl (by decide)) rfl rfl rfl ?_
  refine JL.val (v := .int .u32 (andI .u32 (shrI .u32 x1 (8 : Int)) (16711935 : Int))) (QV.and rfl rfl) rfl rfl rfl ?_
  refine JL.val (v := .int .u32 x1) (QV.move rfl) rfl rfl rfl ?_
  refine JL.val (v := .int .u32 (andI .u32 x1 (16711935 : Int))) (QV.and rfl rfl) rfl rfl rfl ?_
  refine JL.val (v := .int .u32 (shlI .u32 (andI .u32 x1 (16711935 : Int)) (8 : Int))) (QV.shl rfl rfl (by decide)) rfl rfl rfl ?_
  refine JL.val (v := .int .u32 (orI .u32 (andI .u32 (shrI .u32 x1 (8 : Int)) (16711935 : Int)) (shlI .u32 (andI .u32 x1 (16711935 : Int)) (8 : Int)))) (QV.or rfl rfl) rfl rfl rfl ?_
  refine JL.val (v := .int .u32 (orI .u32 (andI .u32 (shrI .u32 x1 (8 : Int)) (16711935 : Int)) (shlI .u32 (andI .u32 x1 (16711935 : Int)) (8 : Int)))) (QV.assign rfl) rfl rfl rfl ?_
  refine JL.nil ?_
  refine QJ.then_normal ?_
  refine JC.seq ?_
  refine JC.region ?_
  refine JL.val (v := .int .u32 (orI .u32 (andI .u32 (shrI .u32 x1 (8 : Int)) (16711935 : Int)) (shlI .u32 (andI .u32 x1 (16711935 : Int)) (8 : Int)))) (QV.move rfl) rfl rfl rfl ?_
  refine JL.val (v := .int .u32 (shrI .u32 (orI .u32 (andI .u32 (shrI .u32 x1 (8 : Int)) (16711935 : Int)) (shlI .u32 (andI .u32 x1 (16711935 : Int)) (8 : Int))) (16 : Int))) (QV.shr rfl rfl (by decide)) rfl rfl rfl ?_
  refine JL.val (v := .int .u32 (orI .u32 (andI .u32 (shrI .u32 x1 (8 : Int)) (16711935 : Int)) (shlI .u32 (andI .u32 x1 (16711935 : Int)) (8 : Int)))) (QV.move rfl) rfl rfl rfl ?_
  refine JL.val (v := .int .u32 (shlI .u32 (orI .u32 (andI .u32 (shrI .u32 x1 (8 : Int)) (16711935 : Int)) (shlI .u32 (andI .u32 x1 (16711935 : Int)) (8 : Int))) (16 : Int))) (QV.shl rfl rfl (by decide)) rfl rfl rfl ?_
  refine JL.val (v := .int .u32 (orI .u32 (shrI .u32 (orI .u32 (andI .u32 (shrI .u32 x1 (8 : Int)) (16711935 : Int)) (shlI .u32 (andI .u32 x1 (16711935 : Int)) (8 : Int))) (16 : Int)) (shlI .u32 (orI .u32 (andI .u32 (shrI .u32 x1 (8 : Int)) (16711935 : Int)) (shlI .u32 (andI .u32 x1 (16711935 : Int)) (8 : Int))) (16 : Int)))) (QV.or rfl rfl) rfl rfl rfl ?_
  refine JL.val (v := .int .u32 (orI .u32 (shrI .u32 (orI .u32 (andI .u32 (shrI .u32 x1 (8 : Int)) (16711935 : Int)) (shlI .u32 (andI .u32 x1 (16711935 : Int)) (8 : Int))) (16 : Int)) (shlI .u32 (orI .u32 (andI .u32 (shrI .u32 x1 (8 : Int)) (16711935 : Int)) (shlI .u32 (andI .u32 x1 (16711935 : Int)) (8 : Int))) (16 : Int)))) (QV.assign rfl) rfl rfl rfl ?_
  refine JL.nil ?_
  refine QJ.then_normal ?_
  refine JC.ret ?_
  obtain rfl := Option.some.inj hm
  exact QJ.body (vs := [.int .u32 (orI .u32 (shrI .u32 (orI .u32 (andI .u32 (shrI .u32 x1 (8 : Int)) (16711935 : Int)) (shlI .u32 (andI .u32 x1 (16711935 : Int)) (8 : Int))) (16 : Int)) (shlI .u32 (orI .u32 (andI .u32 (shrI .u32 x1 (8 : Int)) (16711935 : Int)) (shlI .u32 (andI .u32 x1 (16711935 : Int)) (8 : Int))) (16 : Int)))]) (.inl rfl) rfl (ResVs.cons (ResV.tmp rfl) ResVs.nil) [] rfl rfl (.inr trivial) ⟨rfl, rfl⟩

/-! ### 63: math/bits.Reverse32 -/
noncomputable def F63.m (x1 : Int) : Option Int :=
  ((F73.m ((orI .u32 (andI .u32 (shrI .u32 (orI .u32 (andI .u32 (shrI .u32 (orI .u32 (andI .u32 (shrI .u32 x1 (1 : Int)) (1431655765 : Int)) (shlI .u32 (andI .u32 x1 (1431655765 : Int)) (1 : Int))) (2 : Int)) (858993459 : Int)) (shlI .u32 (andI .u32 (orI .u32 (andI .u32 (shrI .u32 x1 (1 : Int)) (1431655765 : Int)) (shlI .u32 (andI .u32 x1 (1431655765 : Int)) (1 : Int))) (858993459 : Int)) (2 : Int))) (4 : Int)) (252645135 : Int)) (shlI .u32 (andI .u32 (orI .u32 (andI .u32 (shrI .u32 (orI .u32 (andI .u32 (shrI .u32 x1 (1 : Int)) (1431655765 : Int)) (shlI .u32 (andI .u32 x1 (1431655765 : Int)) (1 : Int))) (2 : Int)) (858993459 : Int)) (shlI .u32 (andI .u32 (orI .u32 (andI .u32 (shrI .u32 x1 (1 : Int)) (1431655765 : Int)) (shlI .u32 (andI .u32 x1 (1431655765 : Int)) (1 : Int))) (858993459 : Int)) (2 : Int))) (252645135 : Int)) (4 : Int))))).bind fun y3 => some y3)
set_option maxRecDepth 100000 in
set_option maxHeartbeats 4000000 in
theorem F63.spec (x1 : Int) (r : Int) (hm : F63.m x1 = some r) :
    Ctr Try.prog false 63 [.int .u32 x1] [] (fun v L' => v = .int .u32 r ∧ L' = []) := by
  refine Ctr.intro (n := 26) (env := [(0, .int .u32 x1)]) Try.func63 rfl rfl rfl rfl (fun c => ?_)
  unfold F63.m at hm
  refine JC.seq ?_
  refine JC.region ?_
  refine JL.val (v := .int .u32 (0 : Int)) (QV.assign rfl) rfl rfl rfl ?_
  refine JL.nil ?_
  refine QJ.then_normal ?_
  refine JC.seq ?_
  refine JC.region ?_
  refine JL.val (v := .int .u32 x1) (QV.move rfl) rfl rfl rfl ?_
  refine JL.val (v := .int .u32 (shrI .u32 x1 (1 : Int))) (QV.shr rfl rfl (by decide)) rfl rfl rfl ?_
  refine JL.val (v := .int .u32 (andI .u32 (shrI .u32 x1 (1 : Int)) (1431655765 : Int))) (QV.and rfl rfl) rfl rfl rfl ?_
  refine JL.val (v := .int .u32 x1) (QV.move rfl) rfl rfl rfl ?_
  refine JL.val (v := .int .u32 (andI .u32 x1 (1431655765 : Int))) (QV.and rfl rfl) rfl rfl rfl ?_
  refine JL.val (v := .int .u32 (shlI .u32 (andI .u32 x1 (1431655765 : Int)) (1 : Int))) (QV.shl rfl rfl (by decide)) rfl rfl rfl ?_
  refine JL.val (v := .int .u32 (orI .u32 (andI .u32 (shrI .u32 x1 (1 : Int)) (1431655765 : Int)) (shlI .u32 (andI .u32 x1 (1431655765 : Int)) (1 : Int)))) (QV.or rfl rfl) rfl rfl rfl ?_
  refine JL.val (v := .int .u32 (orI .u32 (andI .u32 (shrI .u32 x1 (1 : Int)) (1431655765 : Int)) (shlI .u32 (andI .u32 x1 (1431655765 : Int)) (1 : Int)))) (QV.assign rfl) rfl rfl rfl ?_
  refine JL.nil ?_
  refine QJ.then_normal ?_
  refine JC.seq ?_
  refine JC.region ?_
  refine JL.val (v := .int .u32 (orI .u32 (andI .u32 (shrI .u32 x1 (1 : Int)) (1431655765 : Int)) (shlI .u32 (andI .u32 x1 (1431655765 : Int)) (1 : Int)))) (QV.move rfl) rfl rfl rfl ?_
  refine JL.val (v := .int .u32 (shrI .u32 (orI .u32 (andI .u32 (shrI .u32 x1 (1 : Int)) (1431655765 : Int)) (shlI .u32 (andI .u32 x1 (1431655765 : Int)) (1 : Int))) (2 : Int))) (QV.shr rfl rfl (by decide)) rfl rfl rfl ?_
  refine JL.val (v := .int .u32 (andI .u32 (shrI .u32 (orI .u32 (andI .u32 (shrI .u32 x1 (1 : Int)) (1431655765 : Int)) (shlI .u32 (andI .u32 x1 (1431655765 : Int)) (1 : Int))) (2 : Int)) (858993459 : Int))) (QV.and rfl rfl) rfl rfl rfl ?_
  refine JL.val (v := .int .u32 (orI .u32 (andI .u32 (shrI .u32 x1 (1 : Int)) (1431655765 : Int)) (shlI .u32 (andI .u32 x1 (1431655765 : Int)) (1 : Int)))) (QV.move rfl) rfl rfl rfl ?_
  refine JL.val (v := .int .u32 (andI .u32 (orI .u32 (andI .u32 (shrI .u32 x1 (1 : Int)) (1431655765 : Int)) (shlI .u32 (andI .u32 x1 (1431655765 : Int)) (1 : Int))) (858993459 : Int))) (QV.and rfl rfl) rfl rfl rfl ?_
  refine JL.val (v := .int .u32 (shlI .u32 (andI .u32 (orI .u32 (andI .u32 (shrI .u32 x1 (1 : Int)) (1431655765 : Int)) (shlI .u32 (andI .u32 x1 (1431655765 : Int)) (1 : Int))) (858993459 : Int)) (2 : Int))) (QV.shl rfl rfl (by decide)) rfl rfl rfl ?_
  refine JL.val (v := .int .u32 (orI .u32 (andI .u32 (shrI .u32 (orI .u32 (andI .u32 (shrI .u32 x1 (1 : Int)) (1431655765 : Int)) (shlI .u32 (andI .u32 x1 (1431655765 : Int)) (1 : Int))) (2 : Int)) (858993459 : Int)) (shlI .u32 (andI .u32 (orI .u32 (andI .u32 (shrI .u32 x1 (1 : Int)) (1431655765 : Int)) (shlI .u32 (andI .u32 x1 (1431655765 : Int)) (1 : Int))) (858993459 : Int)) (2 : Int)))) (QV.or rfl rfl) rfl rfl rfl ?_
  refine JL.val (v := .int .u32 (orI .u32 (andI .u32 (shrI .u32 (orI .u32 (andI .u32 (shrI .u32 x1 (1 : Int)) (1431655765 : Int)) (shlI .u32 (andI .u32 x1 (1431655765 : Int)) (1 : Int))) (2 : Int)) (858993459 : Int)) (shlI .u32 (andI .u32 (orI .u32 (andI .u32 (shrI .u32 x1 (1 : Int)) (1431655765 : Int)) (shlI .u32 (andI .u32 x1 (1431655765 : Int)) (1 : Int))) (858993459 : Int)) (2 : Int)))) (QV.assign rfl) rfl rfl rfl ?_
  refine JL.nil ?_
  refine QJ.then_normal ?_
  refine JC.seq ?_
  refine JC.region ?_
  refine JL.val (v := .int .u32 (orI .u32 (andI .u32 (shrI .u32 (orI .u32 (andI .u32 (shrI .u32 x1 (1 : Int)) (1431655765 : Int)) (shlI .u32 (andI .u32 x1 (1431655765 : Int)) (1 : Int))) (2 : Int)) (858993459 : Int)) (shlI .u32 (andI .u32 (orI .u32 (andI .u32 (shrI .u32 x1 (1 : Int)) (1431655765 : Int)) (shlI .u32 (andI .u32 x1 (1431655765 : Int)) (1 : Int))) (858993459 : Int)) (2 : Int)))) (QV.move rfl) rfl rfl rfl ?_
  refine JL.val (v := .int .u32 (shrI .u32 (orI .u32 (andI .u32 (shrI .u32 (orI .u32 (andI .u32 (shrI .u32 x1 (1 : Int)) (1431655765 : Int)) (shlI .u32 (andI .u32 x1 (1431655765 : Int)) (1 : Int))) (2 : Int)) (858993459 : Int)) (shlI .u32 (andI .u32 (orI .u32 (andI .u32 (shrI .u32 x1 (1 : Int)) (1431655765 : Int)) (shlI .u32 (andI .u32 x1 (1431655765 : Int)) (1 : Int))) (858993459 : Int)) (2 : Int))) (4 : Int))) (QV.shr rfl rfl (by decide)) rfl rfl rfl ?_
  refine JL.val (v := .int .u32 (andI .u32 (shrI .u32 (orI .u32 (andI .u32 (shrI .u32 (orI .u32 (andI .u32 (shrI .u32 x1 (1 : Int)) (1431655765 : Int)) (shlI .u32 (andI .u32 x1 (1431655765 : Int)) (1 : Int))) (2 : Int)) (858993459 : Int)) (shlI .u32 (andI .u32 (orI .u32 (andI .u32 (shrI .u32 x1 (1 : Int)) (1431655765 : Int)) (shlI .u32 (andI .u32 x1 (1431655765 : Int)) (1 : Int))) (858993459 : Int)) (2 : Int))) (4 : Int)) (252645135 : Int))) (QV.and rfl rfl) rfl rfl rfl ?_
  refine JL.val (v := .int .u32 (orI .u32 (andI .u32 (shrI .u32 (orI .u32 (andI .u32 (shrI .u32 x1 (1 : Int)) (1431655765 : Int)) (shlI .u32 (andI .u32 x1 (1431655765 : Int)) (1 : Int))) (2 : Int)) (858993459 : Int)) (shlI .u32 (andI .u32 (orI .u32 (andI .u32 (shrI .u32 x1 (1 : Int)) (1431655765 : Int)) (shlI .u32 (andI .u32 x1 (1431655765 : Int)) (1 : Int))) (858993459 : Int)) (2 : Int)))) (QV.move rfl) rfl rfl rfl ?_
  refine JL.val (v := .int .u32 (andI .u32 (orI .u32 (andI .u32 (shrI .u32 (orI .u32 (andI .u32 (shrI .u32 x1 (1 : Int)) (1431655765 : Int)) (shlI .u32 (andI .u32 x1 (1431655765 : Int)) (1 : Int))) (2 : Int)) (858993459 : Int)) (shlI .u32 (andI .u32 (orI .u32 (andI .u32 (shrI .u32 x1 (1 : Int)) (1431655765 : Int)) (shlI .u32 (andI .u32 x1 (1431655765 : Int)) (1 : Int))) (858993459 : Int)) (2 : Int))) (252645135 : Int))) (QV.and rfl rfl) rfl rfl rfl ?_
  refine JL.val (v := .int .u32 (shlI .u32 (andI .u32 (orI .u32 (andI .u32 (shrI .u32 (orI .u32 (andI .u32 (shrI .u32 x1 (1 : Int)) (1431655765 : Int)) (shlI .u32 (andI .u32 x1 (1431655765 : Int)) (1 : Int))) (2 : Int)) (858993459 : Int)) (shlI .u32 (andI .u32 (orI .u32 (andI .u32 (shrI .u32 x1 (1 : Int)) (1431655765 : Int)) (shlI .u32 (andI .u32 x1 (1431655765 : Int)) (1 : Int))) (858993459 : Int)) (2 : Int))) (252645135 : Int)) (4 : Int))) (QV.shl rfl rfl (by decide)) rfl rfl rfl ?_
  refine JL.val (v := .int .u32 (orI .u32 (andI .u32 (shrI .u32 (orI .u32 (andI .u32 (shrI .u32 (orI .u32 (andI .u32 (shrI .u32 x1 (1 : Int)) (1431655765 : Int)) (shlI .u32 (andI .u32 x1 (1431655765 : Int)) (1 : Int))) (2 : Int)) (858993459 : Int)) (shlI .u32 (andI .u32 (orI .u32 (andI .u32 (shrI .u32 x1 (1 : Int)) (1431655765 : Int)) (shlI .u32 (andI .u32 x1 (1431655765 : Int)) (1 : Int))) (858993459 : Int)) (2 : Int))) (4 : Int)) (252645135 : Int)) (shlI .u32 (andI .u32 (orI .u32 (andI .u32 (shrI .u32 (orI .u32 (andI .u32 (shrI .u32 x1 (1 : Int)) (1431655765 : Int)) (shlI .u32 (andI .u32 x1 (1431655765 : Int)) (1 : Int))) (2 : Int)) (858993459 : Int)) (shlI .u32 (andI .u32 (orI .u32 (andI .u32 (shrI .u32 x1 (1 : Int)) (1431655765 : Int)) (shlI .u32 (andI .u32 x1 (1431655765 : Int)) (1 : Int))) (858993459 : Int)) (2 : Int))) (252645135 : Int)) (4 : Int)))) (QV.or rfl rfl) rfl rfl rfl ?_
  refine JL.val (v := .int .u32 (orI .u32 (andI .u32 (shrI .u32 (orI .u32 (andI .u32 (shrI .u32 (orI .u32 (andI .u32 (shrI .u32 x1 (1 : Int)) (1431655765 : Int)) (shlI .u32 (andI .u32 x1 (1431655765 : Int)) (1 : Int))) (2 : Int)) (858993459 : Int)) (shlI .u32 (andI .u32 (orI .u32 (andI .u32 (shrI .u32 x1 (1 : Int)) (1431655765 : Int)) (shlI .u32 (andI .u32 x1 (1431655765 : Int)) (1 : Int))) (858993459 : Int)) (2 : Int))) (4 : Int)) (252645135 : Int)) (shlI .u32 (andI .u32 (orI .u32 (andI .u32 (shrI .u32 (orI .u32 (andI .u32 (shrI .u32 x1 (1 : Int)) (1431655765 : Int)) (shlI .u32 (andI .u32 x1 (1431655765 : Int)) (1 : Int))) (2 : Int)) (858993459 : Int)) (shlI .u32 (andI .u32 (orI .u32 (andI .u32 (shrI .u32 x1 (1 : Int)) (1431655765 : Int)) (shlI .u32 (andI .u32 x1 (1431655765 : Int)) (1 : Int))) (858993459 : Int)) (2 : Int))) (252645135 : Int)) (4 : Int)))) (QV.assign rfl) rfl rfl rfl ?_
  refine JL.nil ?_
  refine QJ.then_normal ?_
  refine JC.seq ?_
  refine JC.region ?_
  refine JL.val (v := .int .u32 (orI .u32 (andI .u32 (shrI .u32 (orI .u32 (andI .u32 (shrI .u32 (orI .u32 (andI .u32 (shrI .u32 x1 (1 : Int)) (1431655765 : Int)) (shlI .u32 (andI .u32 x1 (1431655765 : Int)) (1 : Int))) (2 : Int)) (858993459 : Int)) (shlI .u32 (andI .u32 (orI .u32 (andI .u32 (shrI .u32 x1 (1 : Int)) (1431655765 : Int)) (shlI .u32 (andI .u32 x1 (1431655765 : Int)) (1 : Int))) (858993459 : Int)) (2 : Int))) (4 : Int)) (252645135 : Int)) (shlI .u32 (andI .u32 (orI .u32 (andI .u32 (shrI .u32 (orI .u32 (andI .u32 (shrI .u32 x1 (1 : Int)) (1431655765 : Int)) (shlI .u32 (andI .u32 x1 (1431655765 : Int)) (1 : Int))) (2 : Int)) (858993459 : Int)) (shlI .u32 (andI .u32 (orI .u32 (andI .u32 (shrI .u32 x1 (1 : Int)) (1431655765 : Int)) (shlI .u32 (andI .u32 x1 (1431655765 : Int)) (1 : Int))) (858993459 : Int)) (2 : Int))) (252645135 : Int)) (4 : Int)))) (QV.move rfl) rfl rfl rfl ?_
  obtain ⟨y3, hc4, hm⟩ := bind_inv hm
  refine JL.mv (d := some 25) (MV.call (Lo := []) (Lr := []) (F73.spec ((orI .u32 (andI .u32 (shrI .u32 (orI .u32 (andI .u32 (shrI .u32 (orI .u32 (andI .u32 (shrI .u32 x1 (1 : Int)) (1431655765 : Int)) (shlI .u32 (andI .u32 x1 (1431655765 : Int)) (1 : Int))) (2 : Int)) (858993459 : Int)) (shlI .u32 (andI .u32 (orI .u32 (andI .u32 (shrI .u32 x1 (1 : Int)) (1431655765 : Int)) (shlI .u32 (andI .u32 x1 (1431655765 : Int)) (1 : Int))) (858993459 : Int)) (2 : Int))) (4 : Int)) (252645135 : Int)) (shlI .u32 (andI .u32 (orI .u32 (andI .u32 (shrI .u32 (orI .u32 (andI .u32 (shrI .u32 x1 (1 : Int)) (1431655765 : Int)) (shlI .u32 (andI .u32 x1 (1431655765 : Int)) (1 : Int))) (2 : Int)) (858993459 : Int)) (shlI .u32 (andI .u32 (orI .u32 (andI .u32 (shrI .u32 x1 (1 : Int)) (1431655765 : Int)) (shlI .u32 (andI .u32 x1 (1431655765 : Int)) (1 : Int))) (858993459 : Int)) (2 : Int))) (252645135 : Int)) (4 : Int)))) _ hc4) rfl Try.func73 rfl rfl rfl [] [] rfl rfl rfl trivial) rfl rfl rfl ?_
  rintro _ _ ⟨_, ⟨rfl, rfl⟩, rfl⟩
  refine JL.val (v := .int .u32 y3) (QV.assign rfl) rfl rfl rfl ?_
  refine JL.nil ?_
  refine QJ.then_normal ?_
  refine JC.ret ?_
  obtain rfl := Option.some.inj hm
  exact QJ.body (vs := [.int .u32 y3]) (.inl rfl) rfl (ResVs.cons (ResV.tmp rfl) ResVs.nil) [] rfl rfl (.inr trivial) ⟨rfl, rfl⟩

/-! ### 30: (*drogher/bits.Writer).Code -/
noncomputable def F30.j1  (d13 : List Int) (d14 : Int) (d15 : Int) : Option (List Int × Int × Int) :=
  some (d13, d14, d15)
noncomputable def F30.m (x3 : (List Int)) (x4 : Int) (x5 : Int) (x6 : Int) (x7 : Int) : Option (List Int × Int × Int) :=
  (if (0 : Int) < (minI (maxI x7 (0 : Int)) (32 : Int)) then ((F63.m (x6)).bind fun y17 => (if 0 ≤ (IntKind.wrap .i64 ((32 : Int) - (minI (maxI x7 (0 : Int)) (32 : Int)))) then ((F28.m (x3) (x4) (x5) ((shrI .u32 y17 (IntKind.wrap .i64 ((32 : Int) - (minI (maxI x7 (0 : Int)) (32 : Int)))))) ((minI (maxI x7 (0 : Int)) (32 : Int)))).bind fun y20 => F30.j1 (y20.1) (y20.2.1) (y20.2.2)) else none)) else F30.j1 (x3) (x4) (x5))
set_option maxRecDepth 100000 in
set_option maxHeartbeats 4000000 in
theorem F30.spec (b1 : Nat) (s2 : SlV) (x3 : (List Int)) (x4 : Int) (x5 : Int) (x6 : Int) (x7 : Int) (r : (List Int × Int × Int)) (hm : F30.m x3 x4 x5 x6 x7 = some r) :
    Ctr Try.prog false 30 [.pointer (some ⟨b1, 0, none⟩), .int .u32 x6, .int .i64 x7] [Asr.blk b1 98 [Seg.c (s2.v), Seg.c (.int .u64 x4), Seg.c (.int .i64 x5)], Asr.of 5 (Enc.int .u8) (s2.v) x3] (fun v L' => ∃ (g8 : SlV), v = .tuple #[] ∧ L' = [Asr.of 5 (Enc.int .u8) (g8.v) r.1, Asr.blk b1 98 [Seg.c (g8.v), Seg.c (.int .u64 r.2.1), Seg.c (.int .i64 r.2.2)]]) := by
  refine Ctr.intro (n := 19) (env := [(0, .pointer (some ⟨b1, 0, none⟩)), (1, .int .u32 x6), (2, .int .i64 x7)]) Try.func30 rfl rfl rfl rfl (fun c => ?_)
  unfold F30.m at hm
  refine JC.seq ?_
  refine JC.region ?_
  refine JL.val (v := .int .i64 x7) (QV.move rfl) rfl rfl rfl ?_
  refine JL.val (v := .int .i64 (maxI x7 (0 : Int))) (QV.max2 rfl rfl) rfl rfl rfl ?_
  refine JL.val (v := .int .i64 (minI (maxI x7 (0 : Int)) (32 : Int))) (QV.min2 rfl rfl) rfl rfl rfl ?_
  refine JL.val (v := .int .i64 (minI (maxI x7 (0 : Int)) (32 : Int))) (QV.assign rfl) rfl rfl rfl ?_
  refine JL.nil ?_
  refine QJ.then_normal ?_
  refine JC.seq ?_
  refine JC.region ?_
  refine JL.val (v := .int .i64 (minI (maxI x7 (0 : Int)) (32 : Int))) (QV.move rfl) rfl rfl rfl ?_
  refine JL.val (v := .bool (decide ((0 : Int) < (minI (maxI x7 (0 : Int)) (32 : Int))))) (QV.gtr rfl rfl) rfl rfl rfl ?_
  refine JL.nil ?_
  refine QJ.then_normal ?_
  refine JC.cutK (Y := (List Int × Int × Int) × SlV) (fun y => match y with | ((d13, d14, d15), _) => F30.j1 (d13) (d14) (d15) = some r) (fun y => match y with | ((d13, d14, d15), z12) => []) (fun y => match y with | ((d13, d14, d15), z12) => [Asr.of 5 (Enc.int .u8) (z12.v) d13, Asr.blk b1 98 [Seg.c (z12.v), Seg.c (.int .u64 d14), Seg.c (.int .i64 d15)]]) ?_ ?_
  ·
    rintro ⟨⟨d13, d14, d15⟩, z12⟩ hm
    unfold F30.j1 at hm
    show QJ _ _ [] [Asr.of 5 (Enc.int .u8) (z12.v) d13, Asr.blk b1 98 [Seg.c (z12.v), Seg.c (.int .u64 d14), Seg.c (.int .i64 d15)]] _ _
    obtain rfl := Option.some.inj hm
    exact QJ.body (vs := []) (.inr rfl) rfl ResVs.nil [0, 1] rfl rfl (.inr ⟨own_of _ _ _ _, own_blk _ _ _, trivial⟩) ⟨z12, rfl, rfl⟩
  ·
    rcases ite_inv hm with ⟨h16, hm⟩ | ⟨h16, hm⟩
    ·
      refine JC.condT' rfl (decide_eq_true h16) ?_
      refine JC.region ?_
      refine JL.val (v := .pointer (some ⟨b1, 0, none⟩)) (QV.move rfl) rfl rfl rfl ?_
      refine JL.val (v := .int .u32 x6) (QV.move rfl) rfl rfl rfl ?_
      obtain ⟨y17, hc18, hm⟩ := bind_inv hm
      refine JL.mv (d := some 13) (MV.call (Lo := []) (Lr := [Asr.blk b1 98 [Seg.c (s2.v), Seg.c (.int .u64 x4), Seg.c (.int .i64 x5)], Asr.of 5 (Enc.int .u8) (s2.v) x3]) (F63.spec (x6) _ hc18) rfl Try.func63 rfl rfl rfl [] [0, 1] rfl rfl rfl trivial) rfl rfl rfl ?_
      rintro _ _ ⟨_, ⟨rfl, rfl⟩, rfl⟩
      refine JL.val (v := .int .i64 (minI (maxI x7 (0 : Int)) (32 : Int))) (QV.move rfl) rfl rfl rfl ?_
      refine JL.val (v := .int .i64 (IntKind.wrap .i64 ((32 : Int) - (minI (maxI x7 (0 : Int)) (32 : Int))))) (QV.sub rfl rfl) rfl rfl rfl ?_
      obtain ⟨h19, hm⟩ := guard_inv hm
      refine JL.val (v := .int .u32 (shrI .u32 y17 (IntKind.wrap .i64 ((32 : Int) - (minI (maxI x7 (0 : Int)) (32 : Int)))))) (QV.shr rfl rfl h19) rfl rfl rfl ?_
      refine JL.val (v := .int .i64 (minI (maxI x7 (0 : Int)) (32 : Int))) (QV.move rfl) rfl rfl rfl ?_
      obtain ⟨y20, hc21, hm⟩ := bind_inv hm
      refine JL.mv (d := some 18) (MV.call (Lo := [Asr.blk b1 98 [Seg.c (s2.v), Seg.c (.int .u64 x4), Seg.c (.int .i64 x5)], Asr.of 5 (Enc.int .u8) (s2.v) x3]) (Lr := []) (F28.spec (b1) (s2) (x3) (x4) (x5) ((shrI .u32 y17 (IntKind.wrap .i64 ((32 : Int) - (minI (maxI x7 (0 : Int)) (32 : Int)))))) ((minI (maxI x7 (0 : Int)) (32 : Int))) _ hc21) rfl Try.func28 rfl rfl rfl [0, 1] [] rfl rfl rfl trivial) rfl rfl rfl ?_
      rintro _ _ ⟨_, ⟨z22, rfl, rfl⟩, rfl⟩
      refine JL.nil ?_
      exact QJ.cut_normal ((y20.1, y20.2.1, y20.2.2), z22) hm [0, 1] trivial rfl rfl
    ·
      refine JC.condF' rfl (decide_eq_false h16) ?_
      refine JC.skip ?_
      exact QJ.cut_normal ((x3, x4, x5), s2) hm [1, 0] trivial rfl rfl

/-! ### 64: slices.Clone[[]byte,byte] -/
noncomputable def F64.m (x2 : List Int) : Option (List Int) :=
  if (([] : List Int).length + x2.length) * 1 ≤ 140737488355328 ∧ ([] : List Int).length + x2.length ≤ 9223372036854775807 then some x2 else none
set_option maxRecDepth 100000 in
set_option maxHeartbeats 4000000 in
theorem F64.spec (s1 : SlV) (x2 : List Int) (r : List Int) (hm : F64.m x2 = some r) :
    Ctr Try.prog false 64 [s1.v] [Asr.vw (Enc.int .u8) (s1.v) x2] (fun v L' => ∃ (g1 : SlV), v = g1.v ∧ L' = [Asr.of 5 (Enc.int .u8) (g1.v) r]) := by
  refine Ctr.intro (n := 8) (env := [(0, s1.v)]) Try.func64 rfl rfl rfl rfl (fun c => ?_)
  unfold F64.m at hm
  obtain ⟨h4, hm⟩ := guard_inv hm
  obtain rfl := Option.some.inj hm
  refine JC.seq ?_
  refine JC.region ?_
  refine JL.ent (fun _ hs => hs.nil 5 (Enc.int .u8)) ?_
  refine JL.val (v := SlV.nil.v) (QV.assign rfl) rfl rfl rfl ?_
  refine JL.nil ?_
  refine QJ.then_normal ?_
  refine JC.seq ?_
  refine JC.seq ?_
  refine JC.region ?_
  refine JL.val (v := s1.v) (QV.move rfl) rfl rfl rfl ?_
  refine JL.val (v := .bool (decide (s1.a = none))) (QV.eqlNil Try.underlying26 rfl rfl) rfl rfl rfl ?_
  refine JL.nil ?_
  refine QJ.then_normal ?_
  refine JC.cond (decide (s1.a = none)) rfl (fun hb => ?_) (fun hb => ?_)
  · refine JC.fact ((Rdg.vw 1 rfl : Rdg c _ (Enc.int .u8) s1.v x2).none_nil (of_decide_eq_true hb)) (fun hx => ?_)
    subst hx
    refine JC.seq ?_
    refine JC.region ?_
    refine JL.ent (fun _ hs => hs.nil 5 (Enc.int .u8)) ?_
    refine JL.val (v := SlV.nil.v) (QV.assign rfl) rfl rfl rfl ?_
    refine JL.nil ?_
    refine QJ.then_normal ?_
    refine JC.ret ?_
    refine QJ.then_ret ?_
    exact QJ.body (vs := [SlV.nil.v]) (.inl rfl) rfl (ResVs.cons (ResV.tmp rfl) ResVs.nil) [0] rfl rfl (.inr ⟨own_of _ _ _ _, trivial⟩) ⟨SlV.nil, rfl, rfl⟩
  · refine JC.skip ?_
    refine QJ.then_normal ?_
    refine JC.seq ?_
    refine JC.region ?_
    refine JL.mv (d := some 5) (MV.lit0 (Enc.int .u8) Try.underlying26 (by kernel_rfl)) rfl rfl rfl ?_
    rintro _ _ ⟨z8, rfl, rfl⟩
    refine JL.val (v := s1.v) (QV.move rfl) rfl rfl rfl ?_
    refine JL.mv (d := some 7) (MV.append 0 rfl (Rdg.vw 2 rfl) Try.underlying26 zi_5 rfl (by decide) rfl rfl h4) rfl rfl rfl ?_
    rintro _ _ ⟨z9, rfl, rfl⟩
    refine JL.val (v := z9.v) (QV.assign rfl) rfl rfl rfl ?_
    refine JL.nil ?_
    refine QJ.then_normal ?_
    refine JC.ret ?_
    exact QJ.body (vs := [z9.v]) (.inl rfl) rfl (ResVs.cons (ResV.tmp rfl) ResVs.nil) [0] rfl rfl (.inr ⟨own_of _ _ _ _, trivial⟩) ⟨z9, rfl, rfl⟩

/-! ### 37: (*drogher/bits.Writer).Bytes -/
noncomputable def F37.j1  (d12 : List Int) : Option (List Int) :=
  some d12
noncomputable def F37.m (x3 : (List Int)) (x4 : Int) (x5 : Int) : Option (List Int) :=
  ((F64.m (x3)).bind fun y8 => (if (0 : Int) < x5 then (if ((y8).length + ([(IntKind.wrap .u8 x4)]).length) * 1 ≤ 140737488355328 ∧ (y8).length + ([(IntKind.wrap .u8 x4)]).length ≤ 9223372036854775807 then F37.j1 ((y8 ++ [(IntKind.wrap .u8 x4)])) else none) else F37.j1 (y8)))
set_option maxRecDepth 100000 in
set_option maxHeartbeats 4000000 in
theorem F37.spec (b1 : Nat) (s2 : SlV) (x3 : (List Int)) (x4 : Int) (x5 : Int) (r : (List Int)) (hm : F37.m x3 x4 x5 = some r) :
    Ctr Try.prog false 37 [.pointer (some ⟨b1, 0, none⟩)] [Asr.blk b1 98 [Seg.c (s2.v), Seg.c (.int .u64 x4), Seg.c (.int .i64 x5)], Asr.of 5 (Enc.int .u8) (s2.v) x3] (fun v L' => ∃ (g6 : SlV), v = g6.v ∧ L' = [Asr.of 5 (Enc.int .u8) (g6.v) r, Asr.of 5 (Enc.int .u8) (s2.v) x3, Asr.blk b1 98 [Seg.c (s2.v), Seg.c (.int .u64 x4), Seg.c (.int .i64 x5)]]) := by
  refine Ctr.intro (n := 25) (env := [(0, .pointer (some ⟨b1, 0, none⟩))]) Try.func37 rfl rfl rfl rfl (fun c => ?_)
  unfold F37.m at hm
  refine JC.seq ?_
  refine JC.region ?_
  refine JL.ent (fun _ hs => hs.nil 5 (Enc.int .u8)) ?_
  refine JL.val (v := SlV.nil.v) (QV.assign rfl) rfl rfl rfl ?_
  refine JL.nil ?_
  refine QJ.then_normal ?_
  refine JC.seq ?_
  refine JC.seq ?_
  refine JC.region ?_
  refine JL.val (v := .pointer (some ⟨b1, 0, none⟩)) (QV.move rfl) rfl rfl rfl ?_
  refine JL.val (v := .bool false) ((QV.eq (QV.eqlP Try.underlying40 rfl rfl (.inr rfl)) (by simp))) rfl rfl rfl ?_
  refine JL.nil ?_
  refine QJ.then_normal ?_
  refine JC.condF rfl ?_
  refine JC.skip ?_
  refine QJ.then_normal ?_
  refine JC.seq ?_
  refine JC.region ?_
  refine JL.val (v := .pointer (some ⟨b1, 0, none⟩)) (QV.move rfl) rfl rfl rfl ?_
  refine JL.val (v := .pointer (some ⟨b1, 0, none⟩)) (QV.nilCheck rfl) rfl rfl rfl ?_
  refine JL.val (v := .pointer (some ⟨b1, 0, none⟩)) (QV.fieldB fo_98_0 rfl rfl) rfl rfl rfl ?_
  refine JL.val (v := s2.v) (QV.load1 (ss := [Seg.c (s2.v), Seg.c (.int .u64 x4), Seg.c (.int .i64 x5)]) 1 0 rfl tk_26 rfl rfl rfl) rfl rfl rfl ?_
  obtain ⟨y8, hc9, hm⟩ := bind_inv hm
  refine JL.mv (d := some 10) (MV.call (Lo := []) (Lr := [Asr.of 5 (Enc.int .u8) (SlV.nil.v) ([] : List Int), Asr.blk b1 98 [Seg.c (s2.v), Seg.c (.int .u64 x4), Seg.c (.int .i64 x5)], Asr.of 5 (Enc.int .u8) (s2.v) x3]) (F64.spec (s2) (x3) _ hc9) rfl Try.func64 rfl rfl rfl [] [0, 1, 2] rfl rfl rfl ⟨(Drv.of 2 rfl), trivial⟩) rfl rfl rfl ?_
  rintro _ _ ⟨_, ⟨z10, rfl, rfl⟩, rfl⟩
  refine JL.val (v := z10.v) (QV.assign rfl) rfl rfl rfl ?_
  refine JL.nil ?_
  refine QJ.then_normal ?_
  refine JC.seq ?_
  refine JC.seq ?_
  refine JC.region ?_
  refine JL.val (v := .pointer (some ⟨b1, 0, none⟩)) (QV.move rfl) rfl rfl rfl ?_
  refine JL.val (v := .pointer (some ⟨b1, 0, none⟩)) (QV.nilCheck rfl) rfl rfl rfl ?_
  refine JL.val (v := .pointer (some ⟨b1, 2, none⟩)) (QV.fieldB fo_98_2 rfl rfl) rfl rfl rfl ?_
  refine JL.val (v := .int .i64 x5) (QV.load1 (ss := [Seg.c (s2.v), Seg.c (.int .u64 x4), Seg.c (.int .i64 x5)]) 2 2 rfl tk_3 rfl rfl rfl) rfl rfl rfl ?_
  refine JL.val (v := .bool (decide ((0 : Int) < x5))) (QV.gtr rfl rfl) rfl rfl rfl ?_
  refine JL.nil ?_
  refine QJ.then_normal ?_
  refine JC.cutK (Y := (List Int) × SlV) (fun y => match y with | (d12, _) => F37.j1 (d12) = some r) (fun y => match y with | (d12, z11) => [(3, z11.v)]) (fun y => match y with | (d12, z11) => [Asr.of 5 (Enc.int .u8) (z11.v) d12, Asr.of 5 (Enc.int .u8) (s2.v) x3, Asr.blk b1 98 [Seg.c (s2.v), Seg.c (.int .u64 x4), Seg.c (.int .i64 x5)]]) ?_ ?_
  ·
    rintro ⟨d12, z11⟩ hm
    unfold F37.j1 at hm
    show QJ _ _ [(3, z11.v)] [Asr.of 5 (Enc.int .u8) (z11.v) d12, Asr.of 5 (Enc.int .u8) (s2.v) x3, Asr.blk b1 98 [Seg.c (s2.v), Seg.c (.int .u64 x4), Seg.c (.int .i64 x5)]] _ _
    refine QJ.then_normal ?_
    refine JC.seq ?_
    refine JC.region ?_
    refine JL.val (v := z11.v) (QV.move rfl) rfl rfl rfl ?_
    refine JL.val (v := z11.v) (QV.assign rfl) rfl rfl rfl ?_
    refine JL.nil ?_
    refine QJ.then_normal ?_
    refine JC.ret ?_
    obtain rfl := Option.some.inj hm
    exact QJ.body (vs := [z11.v]) (.inl rfl) rfl (ResVs.cons (ResV.tmp rfl) ResVs.nil) [0, 1, 2] rfl rfl (.inr ⟨own_of _ _ _ _, own_of _ _ _ _, own_blk _ _ _, trivial⟩) ⟨z11, rfl, rfl⟩
  ·
    rcases ite_inv hm with ⟨h13, hm⟩ | ⟨h13, hm⟩
    ·
      refine JC.condT' rfl (decide_eq_true h13) ?_
      refine JC.region ?_
      refine JL.val (v := z10.v) (QV.move rfl) rfl rfl rfl ?_
      refine JL.val (v := .pointer (some ⟨b1, 0, none⟩)) (QV.move rfl) rfl rfl rfl ?_
      refine JL.val (v := .pointer (some ⟨b1, 0, none⟩)) (QV.nilCheck rfl) rfl rfl rfl ?_
      refine JL.val (v := .pointer (some ⟨b1, 1, none⟩)) (QV.fieldB fo_98_1 rfl rfl) rfl rfl rfl ?_
      refine JL.val (v := .int .u64 x4) (QV.load1 (ss := [Seg.c (s2.v), Seg.c (.int .u64 x4), Seg.c (.int .i64 x5)]) 2 1 rfl tk_96 rfl rfl rfl) rfl rfl rfl ?_
      refine JL.val (v := .int .u8 (IntKind.wrap .u8 x4)) (QV.conv rfl (by rw [Try.underlying96]; rfl) Try.underlying5) rfl rfl rfl ?_
      refine JL.mv (d := some 22) (MV.lit (E := (Enc.int .u8)) (vals := [(0, .int .u8 (IntKind.wrap .u8 x4))]) [(IntKind.wrap .u8 x4)] Try.underlying26 zi_5 rfl (by decide) rfl (by kernel_rfl)) rfl rfl rfl ?_
      rintro _ _ ⟨z14, rfl, rfl⟩
      obtain ⟨h15, hm⟩ := guard_inv hm
      refine JL.mv (d := some 23) (MV.append 1 rfl (Rdg.of 0 rfl) Try.underlying26 zi_5 rfl (by decide) rfl rfl h15) rfl rfl rfl ?_
      rintro _ _ ⟨z16, rfl, rfl⟩
      refine JL.val (v := z16.v) (QV.assign rfl) rfl rfl rfl ?_
      refine JL.nil ?_
      exact QJ.cut_normal ((y8 ++ [(IntKind.wrap .u8 x4)]), z16) hm [1, 4, 3] (by exact ⟨rfl, trivial⟩) rfl rfl
    ·
      refine JC.condF' rfl (decide_eq_false h13) ?_
      refine JC.skip ?_
      exact QJ.cut_normal (y8, z10) hm [0, 3, 2] (by exact ⟨rfl, trivial⟩) rfl rfl

/-! ### 36: (*drogher/bits.Writer).Len -/
noncomputable def F36.m (x3 : (List Int)) (x4 : Int) (x5 : Int) : Option Int :=
  some (IntKind.wrap .i64 ((IntKind.wrap .i64 ((8 : Int) * ((x3).length : Int))) + x5))
set_option maxRecDepth 100000 in
set_option maxHeartbeats 4000000 in
theorem F36.spec (b1 : Nat) (s2 : SlV) (x3 : (List Int)) (x4 : Int) (x5 : Int) (r : Int) (hm : F36.m x3 x4 x5 = some r) :
    Ctr Try.prog false 36 [.pointer (some ⟨b1, 0, none⟩)] [Asr.blk b1 98 [Seg.c (s2.v), Seg.c (.int .u64 x4), Seg.c (.int .i64 x5)], Asr.of 5 (Enc.int .u8) (s2.v) x3] (fun v L' => v = .int .i64 r ∧ L' = [Asr.of 5 (Enc.int .u8) (s2.v) x3, Asr.blk b1 98 [Seg.c (s2.v), Seg.c (.int .u64 x4), Seg.c (.int .i64 x5)]]) := by
  refine Ctr.intro (n := 16) (env := [(0, .pointer (some ⟨b1, 0, none⟩))]) Try.func36 rfl rfl rfl rfl (fun c => ?_)
  unfold F36.m at hm
  refine JC.seq ?_
  refine JC.region ?_
  refine JL.val (v := .int .i64 (0 : Int)) (QV.assign rfl) rfl rfl rfl ?_
  refine JL.nil ?_
  refine QJ.then_normal ?_
  refine JC.seq ?_
  refine JC.seq ?_
  refine JC.region ?_
  refine JL.val (v := .pointer (some ⟨b1, 0, none⟩)) (QV.move rfl) rfl rfl rfl ?_
  refine JL.val (v := .bool false) ((QV.eq (QV.eqlP Try.underlying40 rfl rfl (.inr rfl)) (by simp))) rfl rfl rfl ?_
  refine JL.nil ?_
  refine QJ.then_normal ?_
  refine JC.condF rfl ?_
  refine JC.skip ?_
  refine QJ.then_normal ?_
  refine JC.seq ?_
  refine JC.regionT [Asr.blk b1 98 [Seg.c (s2.v), Seg.c (.int .u64 x4), Seg.c (.int .i64 x5)], Asr.of 5 (Enc.int .u8) (s2.v) x3] (fun t => false) [(0, true), (1, true), (2, true), (3, true), (4, true), (5, true), (6, false), (7, false), (8, false), (9, false), (10, false), (11, false)] (by kernel_rfl) (by kernel_rfl) (by kernel_rfl) rfl (fun hsel => ?_)
  refine JT.take (i := 0) (v := .pointer (some ⟨b1, 0, none⟩)) hsel rfl (QV.move rfl) rfl rfl rfl [0, 1] rfl rfl ?_
  refine JT.take (i := 1) (v := .pointer (some ⟨b1, 0, none⟩)) hsel rfl (QV.nilCheck rfl) rfl rfl rfl [0, 1] rfl rfl ?_
  refine JT.take (i := 2) (v := .pointer (some ⟨b1, 0, none⟩)) hsel rfl (QV.fieldB fo_98_0 rfl rfl) rfl rfl rfl [0, 1] rfl rfl ?_
  refine JT.take (i := 3) (v := s2.v) hsel rfl (QV.load1 (ss := [Seg.c (s2.v), Seg.c (.int .u64 x4), Seg.c (.int .i64 x5)]) 0 0 rfl tk_26 rfl rfl rfl) rfl rfl rfl [0, 1] rfl rfl ?_
  refine JT.take (i := 4) (v := .int .i64 ((x3).length : Int)) hsel rfl (QV.len (Rdg.of 1 rfl) Try.underlying26 rfl) rfl rfl rfl [0, 1] rfl rfl ?_
  refine JT.take (i := 5) (v := .int .i64 (IntKind.wrap .i64 ((8 : Int) * ((x3).length : Int)))) hsel rfl (QV.mul rfl rfl) rfl rfl rfl [0, 1] rfl rfl ?_
  refine JT.only (i := 6) (d := some 11) rfl (MV.ofQV (v := .pointer (some ⟨b1, 0, none⟩)) (QV.move rfl)) rfl rfl rfl ?_
  rintro _ _ ⟨rfl, rfl⟩
  refine ⟨fun _ => ⟨[0, 1], rfl, rfl⟩, ?_⟩
  refine JT.only (i := 7) (d := some 12) rfl (MV.ofQV (v := .pointer (some ⟨b1, 0, none⟩)) (QV.nilCheck rfl)) rfl rfl rfl ?_
  rintro _ _ ⟨rfl, rfl⟩
  refine ⟨fun _ => ⟨[0, 1], rfl, rfl⟩, ?_⟩
  refine JT.only (i := 8) (d := some 13) rfl (MV.ofQV (v := .pointer (some ⟨b1, 2, none⟩)) (QV.fieldB fo_98_2 rfl rfl)) rfl rfl rfl ?_
  rintro _ _ ⟨rfl, rfl⟩
  refine ⟨fun _ => ⟨[0, 1], rfl, rfl⟩, ?_⟩
  refine JT.only (i := 9) (d := some 14) rfl (MV.ofQV (v := .int .i64 x5) (QV.load1 (ss := [Seg.c (s2.v), Seg.c (.int .u64 x4), Seg.c (.int .i64 x5)]) 0 2 rfl tk_3 rfl rfl rfl)) rfl rfl rfl ?_
  rintro _ _ ⟨rfl, rfl⟩
  refine ⟨fun _ => ⟨[0, 1], rfl, rfl⟩, ?_⟩
  refine JT.only (i := 10) (d := some 15) rfl (MV.ofQV (v := .int .i64 (IntKind.wrap .i64 ((IntKind.wrap .i64 ((8 : Int) * ((x3).length : Int))) + x5))) (QV.add rfl rfl)) rfl rfl rfl ?_
  rintro _ _ ⟨rfl, rfl⟩
  refine ⟨fun _ => ⟨[0, 1], rfl, rfl⟩, ?_⟩
  refine JT.only (i := 11) (d := some 2) rfl (MV.ofQV (v := .int .i64 (IntKind.wrap .i64 ((IntKind.wrap .i64 ((8 : Int) * ((x3).length : Int))) + x5))) (QV.assign rfl)) rfl rfl rfl ?_
  rintro _ _ ⟨rfl, rfl⟩
  refine ⟨fun _ => ⟨[0, 1], rfl, rfl⟩, ?_⟩
  refine JT.nil ?_
  refine QJ.then_normal ?_
  refine JC.ret ?_
  obtain rfl := Option.some.inj hm
  exact QJ.body (vs := [.int .i64 (IntKind.wrap .i64 ((IntKind.wrap .i64 ((8 : Int) * ((x3).length : Int))) + x5))]) (.inl rfl) rfl (ResVs.cons (ResV.tmp rfl) ResVs.nil) [1, 0] rfl rfl (.inr ⟨own_of _ _ _ _, own_blk _ _ _, trivial⟩) ⟨rfl, rfl⟩

/-! ### 26: drogher/drogherlaw08.awake -/
noncomputable def F26.m  : Option Bool :=
  ((F27.m).bind fun y2 => ((F28.m (y2.1) (y2.2.1) (y2.2.2) ((1 : Int)) ((1 : Int))).bind fun y6 => ((F28.m (y6.1) (y6.2.1) (y6.2.2) ((2 : Int)) ((2 : Int))).bind fun y9 => ((F30.m (y9.1) (y9.2.1) (y9.2.2) ((1 : Int)) ((2 : Int))).bind fun y12 => ((F37.m (y12.1) (y12.2.1) (y12.2.2)).bind fun y15 => (if (strOfNums y15) = (⟨#[21]⟩ : ByteArray) then ((F36.m (y12.1) (y12.2.1) (y12.2.2)).bind fun y19 => some (decide (y19 = (5 : Int)))) else some false))))))
set_option maxRecDepth 100000 in
set_option maxHeartbeats 4000000 in
theorem F26.spec  (r : Bool) (hm : F26.m = some r) :
    Ctr Try.prog false 26 [] [] (fun v L' => v = .bool r ∧ L' = []) := by
  refine Ctr.intro (n := 18) (env := []) Try.func26 rfl rfl rfl rfl (fun c => ?_)
  unfold F26.m at hm
  refine JC.seq ?_
  refine JC.region ?_
  refine JL.val (v := .bool false) (QV.assign rfl) rfl rfl rfl ?_
  refine JL.nil ?_
  refine QJ.then_normal ?_
  refine JC.seq ?_
  refine JC.region ?_
  obtain ⟨y2, hc3, hm⟩ := bind_inv hm
  refine JL.mv (d := some 2) (MV.call (Lo := []) (Lr := []) (F27.spec _ hc3) rfl Try.func27 rfl rfl rfl [] [] rfl rfl rfl trivial) rfl rfl rfl ?_
  rintro _ _ ⟨_, ⟨b4, z5, rfl, rfl⟩, rfl⟩
  refine JL.val (v := .pointer (some ⟨b4, 0, none⟩)) (QV.assign rfl) rfl rfl rfl ?_
  refine JL.nil ?_
  refine QJ.then_normal ?_
  refine JC.seq ?_
  refine JC.region ?_
  refine JL.val (v := .pointer (some ⟨b4, 0, none⟩)) (QV.move rfl) rfl rfl rfl ?_
  obtain ⟨y6, hc7, hm⟩ := bind_inv hm
  refine JL.mv (d := some 4) (MV.call (Lo := [Asr.blk b4 98 [Seg.c (z5.v), Seg.c (.int .u64 y2.2.1), Seg.c (.int .i64 y2.2.2)], Asr.of 5 (Enc.int .u8) (z5.v) y2.1]) (Lr := []) (F28.spec (b4) (z5) (y2.1) (y2.2.1) (y2.2.2) ((1 : Int)) ((1 : Int)) _ hc7) rfl Try.func28 rfl rfl rfl [0, 1] [] rfl rfl rfl trivial) rfl rfl rfl ?_
  rintro _ _ ⟨_, ⟨z8, rfl, rfl⟩, rfl⟩
  refine JL.nil ?_
  refine QJ.then_normal ?_
  refine JC.seq ?_
  refine JC.region ?_
  refine JL.val (v := .pointer (some ⟨b4, 0, none⟩)) (QV.move rfl) rfl rfl rfl ?_
  obtain ⟨y9, hc10, hm⟩ := bind_inv hm
  refine JL.mv (d := some 6) (MV.call (Lo := [Asr.blk b4 98 [Seg.c (z8.v), Seg.c (.int .u64 y6.2.1), Seg.c (.int .i64 y6.2.2)], Asr.of 5 (Enc.int .u8) (z8.v) y6.1]) (Lr := []) (F28.spec (b4) (z8) (y6.1) (y6.2.1) (y6.2.2) ((2 : Int)) ((2 : Int)) _ hc10) rfl Try.func28 rfl rfl rfl [1, 0] [] rfl rfl rfl trivial) rfl rfl rfl ?_
  rintro _ _ ⟨_, ⟨z11, rfl, rfl⟩, rfl⟩
  refine JL.nil ?_
  refine QJ.then_normal ?_
  refine JC.seq ?_
  refine JC.region ?_
  refine JL.val (v := .pointer (some ⟨b4, 0, none⟩)) (QV.move rfl) rfl rfl rfl ?_
  obtain ⟨y12, hc13, hm⟩ := bind_inv hm
  refine JL.mv (d := some 8) (MV.call (Lo := [Asr.blk b4 98 [Seg.c (z11.v), Seg.c (.int .u64 y9.2.1), Seg.c (.int .i64 y9.2.2)], Asr.of 5 (Enc.int .u8) (z11.v) y9.1]) (Lr := []) (F30.spec (b4) (z11) (y9.1) (y9.2.1) (y9.2.2) ((1 : Int)) ((2 : Int)) _ hc13) rfl Try.func30 rfl rfl rfl [1, 0] [] rfl rfl rfl trivial) rfl rfl rfl ?_
  rintro _ _ ⟨_, ⟨z14, rfl, rfl⟩, rfl⟩
  refine JL.nil ?_
  refine QJ.then_normal ?_
  refine JC.seq ?_
  refine JC.region ?_
  refine JL.val (v := .pointer (some ⟨b4, 0, none⟩)) (QV.move rfl) rfl rfl rfl ?_
  obtain ⟨y15, hc16, hm⟩ := bind_inv hm
  refine JL.mv (d := some 10) (MV.call (Lo := [Asr.blk b4 98 [Seg.c (z14.v), Seg.c (.int .u64 y12.2.1), Seg.c (.int .i64 y12.2.2)], Asr.of 5 (Enc.int .u8) (z14.v) y12.1]) (Lr := []) (F37.spec (b4) (z14) (y12.1) (y12.2.1) (y12.2.2) _ hc16) rfl Try.func37 rfl rfl rfl [1, 0] [] rfl rfl rfl trivial) rfl rfl rfl ?_
  rintro _ _ ⟨_, ⟨z17, rfl, rfl⟩, rfl⟩
  refine JL.val (v := .string (strOfNums y15)) (QV.str (Rdg.of 0 rfl) Try.underlying26 Try.underlying5 Try.underlying9 rfl) rfl rfl rfl ?_
  refine JL.val (v := .bool (decide ((strOfNums y15) = (⟨#[21]⟩ : ByteArray)))) (QV.eqlS rfl rfl) rfl rfl rfl ?_
  rcases ite_inv hm with ⟨h18, hm⟩ | ⟨h18, hm⟩
  ·
    refine JL.val (v := .bool true) (QV.eq (QV.move rfl) (congrArg Value.bool (decide_eq_true h18))) rfl rfl rfl ?_
    refine JL.val (v := .pointer (some ⟨b4, 0, none⟩)) (QV.move rfl) rfl rfl rfl ?_
    obtain ⟨y19, hc20, hm⟩ := bind_inv hm
    refine JL.mv (d := some 15) (MV.call (Lo := [Asr.blk b4 98 [Seg.c (z14.v), Seg.c (.int .u64 y12.2.1), Seg.c (.int .i64 y12.2.2)], Asr.of 5 (Enc.int .u8) (z14.v) y12.1]) (Lr := [Asr.of 5 (Enc.int .u8) (z17.v) y15]) (F36.spec (b4) (z14) (y12.1) (y12.2.1) (y12.2.2) _ hc20) rfl Try.func36 rfl rfl rfl [2, 1] [0] rfl rfl rfl trivial) rfl rfl rfl ?_
    rintro _ _ ⟨_, ⟨rfl, rfl⟩, rfl⟩
    refine JL.val (v := .bool (decide (y19 = (5 : Int)))) (QV.eql rfl rfl) rfl rfl rfl ?_
    refine JL.val (v := .bool (decide (y19 = (5 : Int)))) (QV.pickT rfl rfl) rfl rfl rfl ?_
    refine JL.val (v := .bool (decide (y19 = (5 : Int)))) (QV.assign rfl) rfl rfl rfl ?_
    refine JL.nil ?_
    refine QJ.then_normal ?_
    refine JC.ret ?_
    obtain rfl := Option.some.inj hm
    exact QJ.body (vs := [.bool (decide (y19 = (5 : Int)))]) (.inl rfl) rfl (ResVs.cons (ResV.tmp rfl) ResVs.nil) [] rfl rfl (.inr trivial) ⟨rfl, rfl⟩
  ·
    refine JL.val (v := .bool false) (QV.eq (QV.move rfl) (congrArg Value.bool (decide_eq_false h18))) rfl rfl rfl ?_
    refine JL.skip (d := some 14) rfl rfl rfl ?_
    refine JL.skip (d := some 15) rfl rfl rfl ?_
    refine JL.skip (d := some 16) rfl rfl rfl ?_
    refine JL.val (v := .bool false) (QV.pickF rfl rfl) rfl rfl rfl ?_
    refine JL.val (v := .bool false) (QV.assign rfl) rfl rfl rfl ?_
    refine JL.nil ?_
    refine QJ.then_normal ?_
    refine JC.ret ?_
    obtain rfl := Option.some.inj hm
    exact QJ.body (vs := [.bool false]) (.inl rfl) rfl (ResVs.cons (ResV.tmp rfl) ResVs.nil) [] rfl rfl (.inr trivial) ⟨rfl, rfl⟩

/-! ### 29: drogher/drogherref08.Number -/
noncomputable def F29.j1  (d7 : List Int) : Option (List Int) :=
  some d7
noncomputable def F29.b1 (x1 : Int) (x2 : Int) : (List Int × Int) → Option ((List Int × Int) ⊕ (List Int))
  | (d9, d10) => (if d10 < x2 then (if d10 < (32 : Int) then (if 0 ≤ d10 then (if ((d9).length + ([(Int.tmod (IntKind.wrap .u8 (shrI .u32 x1 d10)) (2 : Int))]).length) * 1 ≤ 140737488355328 ∧ (d9).length + ([(Int.tmod (IntKind.wrap .u8 (shrI .u32 x1 d10)) (2 : Int))]).length ≤ 9223372036854775807 then some (.inl ((d9 ++ [(Int.tmod (IntKind.wrap .u8 (shrI .u32 x1 d10)) (2 : Int))]), (IntKind.wrap .i64 (d10 + (1 : Int))))) else none) else none) else some (.inr d9)) else some (.inr d9))
noncomputable def F29.m (x1 : Int) (x2 : Int) : Option (List Int) :=
  ((loop (F29.b1 x1 x2) (([] : List Int), (0 : Int))).bind fun y => match y with | d7 => F29.j1 (d7))
set_option maxRecDepth 100000 in
set_option maxHeartbeats 4000000 in
theorem F29.spec (x1 : Int) (x2 : Int) (r : (List Int)) (hm : F29.m x1 x2 = some r) :
    Ctr Try.prog false 29 [.int .u32 x1, .int .i64 x2] [] (fun v L' => ∃ (g3 : SlV), v = g3.v ∧ L' = [Asr.of 5 (Enc.int .u8) (g3.v) r]) := by
  refine Ctr.intro (n := 26) (env := [(0, .int .u32 x1), (1, .int .i64 x2)]) Try.func29 rfl rfl rfl rfl (fun c => ?_)
  unfold F29.m at hm
  refine JC.seq ?_
  refine JC.region ?_
  refine JL.ent (fun _ hs => hs.nil 5 (Enc.int .u8)) ?_
  refine JL.val (v := SlV.nil.v) (QV.assign rfl) rfl rfl rfl ?_
  refine JL.nil ?_
  refine QJ.then_normal ?_
  refine JC.seq ?_
  refine JC.region ?_
  refine JL.mv (d := some 7) (MV.lit0 (Enc.int .u8) Try.underlying26 (by kernel_rfl)) rfl rfl rfl ?_
  rintro _ _ ⟨z5, rfl, rfl⟩
  refine JL.val (v := z5.v) (QV.assign rfl) rfl rfl rfl ?_
  refine JL.nil ?_
  refine QJ.then_normal ?_
  refine JC.seq ?_
  refine JC.seq ?_
  refine JC.region ?_
  refine JL.val (v := .int .i64 (0 : Int)) (QV.assign rfl) rfl rfl rfl ?_
  refine JL.nil ?_
  refine QJ.then_normal ?_
  refine JC.cutK (Y := (List Int) × SlV) (fun y => match y with | (d7, _) => F29.j1 (d7) = some r) (fun y => match y with | (d7, z6) => [(5, z6.v)]) (fun y => match y with | (d7, z6) => [Asr.of 5 (Enc.int .u8) (z6.v) d7]) ?_ ?_
  ·
    rintro ⟨d7, z6⟩ hm
    unfold F29.j1 at hm
    show QJ _ _ [(5, z6.v)] [Asr.of 5 (Enc.int .u8) (z6.v) d7] _ _
    refine QJ.then_normal ?_
    refine JC.seq ?_
    refine JC.region ?_
    refine JL.val (v := z6.v) (QV.move rfl) rfl rfl rfl ?_
    refine JL.val (v := z6.v) (QV.assign rfl) rfl rfl rfl ?_
    refine JL.nil ?_
    refine QJ.then_normal ?_
    refine JC.ret ?_
    obtain rfl := Option.some.inj hm
    exact QJ.body (vs := [z6.v]) (.inl rfl) rfl (ResVs.cons (ResV.tmp rfl) ResVs.nil) [0] rfl rfl (.inr ⟨own_of _ _ _ _, trivial⟩) ⟨z6, rfl, rfl⟩
  ·
    refine JC.block ?_
    obtain ⟨y14, hl15, hmo16⟩ := bind_inv hm
    refine JC.loop (F29.b1 x1 x2) (fun x z => match x, z with | (d9, d10), z8 => [(0, .int .u32 x1), (1, .int .i64 x2), (5, z8.v), (6, .int .i64 d10)]) (fun x z => match x, z with | (d9, d10), z8 => [Asr.of 5 (Enc.int .u8) (z8.v) d9]) (([] : List Int), (0 : Int)) z5 y14 hl15 [0] (by exact ⟨rfl, rfl, rfl, rfl, trivial⟩) rfl rfl ?_
    rintro ⟨d9, d10⟩ z8 s17 hm
    unfold F29.b1 at hm
    dsimp only at hm
    show JC _ _ _ [(0, .int .u32 x1), (1, .int .i64 x2), (5, z8.v), (6, .int .i64 d10)] [Asr.of 5 (Enc.int .u8) (z8.v) d9] _ _
    refine JC.seq ?_
    refine JC.seq ?_
    refine JC.region ?_
    refine JL.val (v := .int .i64 d10) (QV.move rfl) rfl rfl rfl ?_
    refine JL.val (v := .int .i64 x2) (QV.move rfl) rfl rfl rfl ?_
    refine JL.val (v := .bool (decide (d10 < x2))) (QV.lss rfl rfl) rfl rfl rfl ?_
    rcases ite_inv hm with ⟨h18, hm⟩ | ⟨h18, hm⟩
    ·
      refine JL.val (v := .bool true) (QV.eq (QV.move rfl) (congrArg Value.bool (decide_eq_true h18))) rfl rfl rfl ?_
      refine JL.val (v := .int .i64 d10) (QV.move rfl) rfl rfl rfl ?_
      refine JL.val (v := .bool (decide (d10 < (32 : Int)))) (QV.lss rfl rfl) rfl rfl rfl ?_
      refine JL.val (v := .bool (decide (d10 < (32 : Int)))) (QV.pickT rfl rfl) rfl rfl rfl ?_
      refine JL.nil ?_
      refine QJ.then_normal ?_
      rcases ite_inv hm with ⟨h19, hm⟩ | ⟨h19, hm⟩
      ·
        refine JC.condT' rfl (decide_eq_true h19) ?_
        refine JC.skip ?_
        refine QJ.then_normal ?_
        refine JC.seq ?_
        refine JC.block ?_
        refine JC.region ?_
        refine JL.val (v := z8.v) (QV.move rfl) rfl rfl rfl ?_
        refine JL.val (v := .int .u32 x1) (QV.move rfl) rfl rfl rfl ?_
        refine JL.val (v := .int .i64 d10) (QV.move rfl) rfl rfl rfl ?_
        obtain ⟨h20, hm⟩ := guard_inv hm
        refine JL.val (v := .int .u32 (shrI .u32 x1 d10)) (QV.shr rfl rfl h20) rfl rfl rfl ?_
        refine JL.val (v := .int .u8 (IntKind.wrap .u8 (shrI .u32 x1 d10))) (QV.conv rfl (by rw [Try.underlying42]; rfl) Try.underlying5) rfl rfl rfl ?_
        refine JL.val (v := .int .u8 (Int.tmod (IntKind.wrap .u8 (shrI .u32 x1 d10)) (2 : Int))) (QV.rem rfl rfl (by decide)) rfl rfl rfl ?_
        refine JL.mv (d := some 23) (MV.lit (E := (Enc.int .u8)) (vals := [(0, .int .u8 (Int.tmod (IntKind.wrap .u8 (shrI .u32 x1 d10)) (2 : Int)))]) [(Int.tmod (IntKind.wrap .u8 (shrI .u32 x1 d10)) (2 : Int))] Try.underlying26 zi_5 rfl (by decide) rfl (by kernel_rfl)) rfl rfl rfl ?_
        rintro _ _ ⟨z21, rfl, rfl⟩
        obtain ⟨h22, hm⟩ := guard_inv hm
        refine JL.mv (d := some 24) (MV.append 1 rfl (Rdg.of 0 rfl) Try.underlying26 zi_5 rfl (by decide) rfl rfl h22) rfl rfl rfl ?_
        rintro _ _ ⟨z23, rfl, rfl⟩
        refine JL.val (v := z23.v) (QV.assign rfl) rfl rfl rfl ?_
        refine JL.nil ?_
        refine QJ.block_normal ?_
        refine QJ.then_normal ?_
        refine JC.region ?_
        refine JL.val (v := .int .i64 d10) (QV.move rfl) rfl rfl rfl ?_
        refine JL.val (v := .int .i64 (IntKind.wrap .i64 (d10 + (1 : Int)))) (QV.add rfl rfl) rfl rfl rfl ?_
        refine JL.val (v := .int .i64 (IntKind.wrap .i64 (d10 + (1 : Int)))) (QV.assign rfl) rfl rfl rfl ?_
        refine JL.nil ?_
        obtain rfl := Option.some.inj hm
        exact QJ.round_on ((d9 ++ [(Int.tmod (IntKind.wrap .u8 (shrI .u32 x1 d10)) (2 : Int))]), (IntKind.wrap .i64 (d10 + (1 : Int)))) z23 [1] (by exact ⟨rfl, rfl, rfl, rfl, trivial⟩) rfl rfl
      ·
        refine JC.condF' rfl (decide_eq_false h19) ?_
        refine JC.exit ?_
        refine QJ.then_exit ?_
        obtain rfl := Option.some.inj hm
        refine QJ.round_exit (fun hy => ?_)
        subst hy
        refine QJ.block_hit ?_
        exact QJ.cut_normal (d9, z8) hmo16 [0] (by exact ⟨rfl, trivial⟩) rfl rfl
    ·
      refine JL.val (v := .bool false) (QV.eq (QV.move rfl) (congrArg Value.bool (decide_eq_false h18))) rfl rfl rfl ?_
      refine JL.skip (d := some 12) rfl rfl rfl ?_
      refine JL.skip (d := some 13) rfl rfl rfl ?_
      refine JL.val (v := .bool false) (QV.pickF rfl rfl) rfl rfl rfl ?_
      refine JL.nil ?_
      refine QJ.then_normal ?_
      refine JC.condF rfl ?_
      refine JC.exit ?_
      refine QJ.then_exit ?_
      obtain rfl := Option.some.inj hm
      refine QJ.round_exit (fun hy => ?_)
      subst hy
      refine QJ.block_hit ?_
      exact QJ.cut_normal (d9, z8) hmo16 [0] (by exact ⟨rfl, trivial⟩) rfl rfl

/-! ### 31: drogher/drogherref08.Code -/
noncomputable def F31.j1  (d10 : List Int) : Option (List Int) :=
  some d10
noncomputable def F31.b1 (y5 : (List Int)) : (List Int × Int) → Option ((List Int × Int) ⊕ (List Int))
  | (d12, d13) => (if (0 : Int) ≤ d13 then (if 0 ≤ d13 ∧ d13 < ((y5).length : Int) then (if ((d12).length + ([(gd y5 d13)]).length) * 1 ≤ 140737488355328 ∧ (d12).length + ([(gd y5 d13)]).length ≤ 9223372036854775807 then some (.inl ((d12 ++ [(gd y5 d13)]), (IntKind.wrap .i64 (d13 - (1 : Int))))) else none) else none) else some (.inr d12))
noncomputable def F31.m (x1 : Int) (x2 : Int) : Option (List Int) :=
  ((F29.m (x1) (x2)).bind fun y5 => ((loop (F31.b1 y5) (([] : List Int), (IntKind.wrap .i64 (((y5).length : Int) - (1 : Int))))).bind fun y => match y with | d10 => F31.j1 (d10)))
set_option maxRecDepth 100000 in
set_option maxHeartbeats 4000000 in
theorem F31.spec (x1 : Int) (x2 : Int) (r : (List Int)) (hm : F31.m x1 x2 = some r) :
    Ctr Try.prog false 31 [.int .u32 x1, .int .i64 x2] [] (fun v L' => ∃ (g3 : SlV), v = g3.v ∧ L' = [Asr.of 5 (Enc.int .u8) (g3.v) r]) := by
  refine Ctr.intro (n := 27) (env := [(0, .int .u32 x1), (1, .int .i64 x2)]) Try.func31 rfl rfl rfl rfl (fun c => ?_)
  unfold F31.m at hm
  refine JC.seq ?_
  refine JC.region ?_
  refine JL.ent (fun _ hs => hs.nil 5 (Enc.int .u8)) ?_
  refine JL.val (v := SlV.nil.v) (QV.assign rfl) rfl rfl rfl ?_
  refine JL.nil ?_
  refine QJ.then_normal ?_
  refine JC.seq ?_
  refine JC.region ?_
  refine JL.val (v := .int .u32 x1) (QV.move rfl) rfl rfl rfl ?_
  refine JL.val (v := .int .i64 x2) (QV.move rfl) rfl rfl rfl ?_
  obtain ⟨y5, hc6, hm⟩ := bind_inv hm
  refine JL.mv (d := some 10) (MV.call (Lo := []) (Lr := [Asr.of 5 (Enc.int .u8) (SlV.nil.v) ([] : List Int)]) (F29.spec (x1) (x2) _ hc6) rfl Try.func29 rfl rfl rfl [] [0] rfl rfl rfl trivial) rfl rfl rfl ?_
  rintro _ _ ⟨_, ⟨z7, rfl, rfl⟩, rfl⟩
  refine JL.val (v := z7.v) (QV.assign rfl) rfl rfl rfl ?_
  refine JL.nil ?_
  refine QJ.then_normal ?_
  refine JC.seq ?_
  refine JC.region ?_
  refine JL.mv (d := some 11) (MV.lit0 (Enc.int .u8) Try.underlying26 (by kernel_rfl)) rfl rfl rfl ?_
  rintro _ _ ⟨z8, rfl, rfl⟩
  refine JL.val (v := z8.v) (QV.assign rfl) rfl rfl rfl ?_
  refine JL.nil ?_
  refine QJ.then_normal ?_
  refine JC.seq ?_
  refine JC.seq ?_
  refine JC.region ?_
  refine JL.val (v := z7.v) (QV.move rfl) rfl rfl rfl ?_
  refine JL.val (v := .int .i64 ((y5).length : Int)) (QV.len (Rdg.of 1 rfl) Try.underlying26 rfl) rfl rfl rfl ?_
  refine JL.val (v := .int .i64 (IntKind.wrap .i64 (((y5).length : Int) - (1 : Int)))) (QV.sub rfl rfl) rfl rfl rfl ?_
  refine JL.val (v := .int .i64 (IntKind.wrap .i64 (((y5).length : Int) - (1 : Int)))) (QV.assign rfl) rfl rfl rfl ?_
  refine JL.nil ?_
  refine QJ.then_normal ?_
  refine JC.cutK (Y := (List Int) × SlV) (fun y => match y with | (d10, _) => F31.j1 (d10) = some r) (fun y => match y with | (d10, z9) => [(6, z9.v)]) (fun y => match y with | (d10, z9) => [Asr.of 5 (Enc.int .u8) (z9.v) d10]) ?_ ?_
  ·
    rintro ⟨d10, z9⟩ hm
    unfold F31.j1 at hm
    show QJ _ _ [(6, z9.v)] [Asr.of 5 (Enc.int .u8) (z9.v) d10] _ _
    refine QJ.then_normal ?_
    refine JC.seq ?_
    refine JC.region ?_
    refine JL.val (v := z9.v) (QV.move rfl) rfl rfl rfl ?_
    refine JL.val (v := z9.v) (QV.assign rfl) rfl rfl rfl ?_
    refine JL.nil ?_
    refine QJ.then_normal ?_
    refine JC.ret ?_
    obtain rfl := Option.some.inj hm
    exact QJ.body (vs := [z9.v]) (.inl rfl) rfl (ResVs.cons (ResV.tmp rfl) ResVs.nil) [0] rfl rfl (.inr ⟨own_of _ _ _ _, trivial⟩) ⟨z9, rfl, rfl⟩
  ·
    refine JC.block ?_
    obtain ⟨y17, hl18, hmo19⟩ := bind_inv hm
    refine JC.loop (F31.b1 y5) (fun x z => match x, z with | (d12, d13), z11 => [(5, z7.v), (6, z11.v), (7, .int .i64 d13)]) (fun x z => match x, z with | (d12, d13), z11 => [Asr.of 5 (Enc.int .u8) (z7.v) y5, Asr.of 5 (Enc.int .u8) (z11.v) d12]) (([] : List Int), (IntKind.wrap .i64 (((y5).length : Int) - (1 : Int)))) z8 y17 hl18 [1, 0] (by exact ⟨rfl, rfl, rfl, trivial⟩) rfl rfl ?_
    rintro ⟨d12, d13⟩ z11 s20 hm
    unfold F31.b1 at hm
    dsimp only at hm
    show JC _ _ _ [(5, z7.v), (6, z11.v), (7, .int .i64 d13)] [Asr.of 5 (Enc.int .u8) (z7.v) y5, Asr.of 5 (Enc.int .u8) (z11.v) d12] _ _
    refine JC.seq ?_
    refine JC.seq ?_
    refine JC.region ?_
    refine JL.val (v := .int .i64 d13) (QV.move rfl) rfl rfl rfl ?_
    refine JL.val (v := .bool (decide ((0 : Int) ≤ d13))) (QV.geq rfl rfl) rfl rfl rfl ?_
    refine JL.nil ?_
    refine QJ.then_normal ?_
    rcases ite_inv hm with ⟨h21, hm⟩ | ⟨h21, hm⟩
    ·
      refine JC.condT' rfl (decide_eq_true h21) ?_
      refine JC.skip ?_
      refine QJ.then_normal ?_
      refine JC.seq ?_
      refine JC.block ?_
      refine JC.region ?_
      refine JL.val (v := z11.v) (QV.move rfl) rfl rfl rfl ?_
      refine JL.val (v := z7.v) (QV.move rfl) rfl rfl rfl ?_
      refine JL.val (v := .int .i64 d13) (QV.move rfl) rfl rfl rfl ?_
      obtain ⟨h22, hm⟩ := guard_inv hm
      refine JL.val (v := .pointer (some (elA (z7.v) (Int.toNat d13 * ((Enc.int .u8)).sz)))) (QV.indexA (Rdg.of 0 rfl) Try.underlying26 tk_5 rfl rfl h22) rfl rfl rfl ?_
      refine JL.val (v := .int .u8 (gd y5 d13)) (QV.el1 (Rdg.of 0 rfl) tk_5 rfl h22 rfl) rfl rfl rfl ?_
      refine JL.mv (d := some 24) (MV.lit (E := (Enc.int .u8)) (vals := [(0, .int .u8 (gd y5 d13))]) [(gd y5 d13)] Try.underlying26 zi_5 rfl (by decide) rfl (by kernel_rfl)) rfl rfl rfl ?_
      rintro _ _ ⟨z23, rfl, rfl⟩
      obtain ⟨h24, hm⟩ := guard_inv hm
      refine JL.mv (d := some 25) (MV.append 2 rfl (Rdg.of 0 rfl) Try.underlying26 zi_5 rfl (by decide) rfl rfl h24) rfl rfl rfl ?_
      rintro _ _ ⟨z25, rfl, rfl⟩
      refine JL.val (v := z25.v) (QV.assign rfl) rfl rfl rfl ?_
      refine JL.nil ?_
      refine QJ.block_normal ?_
      refine QJ.then_normal ?_
      refine JC.region ?_
      refine JL.val (v := .int .i64 d13) (QV.move rfl) rfl rfl rfl ?_
      refine JL.val (v := .int .i64 (IntKind.wrap .i64 (d13 - (1 : Int)))) (QV.sub rfl rfl) rfl rfl rfl ?_
      refine JL.val (v := .int .i64 (IntKind.wrap .i64 (d13 - (1 : Int)))) (QV.assign rfl) rfl rfl rfl ?_
      refine JL.nil ?_
      obtain rfl := Option.some.inj hm
      exact QJ.round_on ((d12 ++ [(gd y5 d13)]), (IntKind.wrap .i64 (d13 - (1 : Int)))) z25 [1, 2] (by exact ⟨rfl, rfl, rfl, trivial⟩) rfl rfl
    ·
      refine JC.condF' rfl (decide_eq_false h21) ?_
      refine JC.exit ?_
      refine QJ.then_exit ?_
      obtain rfl := Option.some.inj hm
      refine QJ.round_exit (fun hy => ?_)
      subst hy
      refine QJ.block_hit ?_
      exact QJ.cut_normal (d12, z11) hmo19 [1] (by exact ⟨rfl, trivial⟩) rfl rfl

/-! ### 32: (*drogher/bits.Writer).Align -/
noncomputable def F32.m (x3 : (List Int)) (x4 : Int) (x5 : Int) : Option (List Int × Int × Int) :=
  ((F28.m (x3) (x4) (x5) ((0 : Int)) ((andI .i64 (IntKind.wrap .i64 (0 - x5)) (7 : Int)))).bind fun y10 => some (y10.1, y10.2.1, y10.2.2))
set_option maxRecDepth 100000 in
set_option maxHeartbeats 4000000 in
theorem F32.spec (b1 : Nat) (s2 : SlV) (x3 : (List Int)) (x4 : Int) (x5 : Int) (r : (List Int × Int × Int)) (hm : F32.m x3 x4 x5 = some r) :
    Ctr Try.prog false 32 [.pointer (some ⟨b1, 0, none⟩)] [Asr.blk b1 98 [Seg.c (s2.v), Seg.c (.int .u64 x4), Seg.c (.int .i64 x5)], Asr.of 5 (Enc.int .u8) (s2.v) x3] (fun v L' => ∃ (g6 : SlV), v = .tuple #[] ∧ L' = [Asr.of 5 (Enc.int .u8) (g6.v) r.1, Asr.blk b1 98 [Seg.c (g6.v), Seg.c (.int .u64 r.2.1), Seg.c (.int .i64 r.2.2)]]) := by
  refine Ctr.intro (n := 12) (env := [(0, .pointer (some ⟨b1, 0, none⟩))]) Try.func32 rfl rfl rfl rfl (fun c => ?_)
  unfold F32.m at hm
  refine JC.seq ?_
  refine JC.region ?_
  refine JL.val (v := .pointer (some ⟨b1, 0, none⟩)) (QV.move rfl) rfl rfl rfl ?_
  refine JL.val (v := .bool true) ((QV.eq (QV.neqP Try.underlying40 rfl rfl (.inr rfl)) (by simp))) rfl rfl rfl ?_
  refine JL.nil ?_
  refine QJ.then_normal ?_
  refine JC.condT rfl ?_
  refine JC.region ?_
  refine JL.val (v := .pointer (some ⟨b1, 0, none⟩)) (QV.move rfl) rfl rfl rfl ?_
  refine JL.val (v := .pointer (some ⟨b1, 0, none⟩)) (QV.move rfl) rfl rfl rfl ?_
  refine JL.val (v := .pointer (some ⟨b1, 0, none⟩)) (QV.nilCheck rfl) rfl rfl rfl ?_
  refine JL.val (v := .pointer (some ⟨b1, 2, none⟩)) (QV.fieldB fo_98_2 rfl rfl) rfl rfl rfl ?_
  refine JL.val (v := .int .i64 x5) (QV.load1 (ss := [Seg.c (s2.v), Seg.c (.int .u64 x4), Seg.c (.int .i64 x5)]) 0 2 rfl tk_3 rfl rfl rfl) rfl rfl rfl ?_
  refine JL.val (v := .int .i64 (IntKind.wrap .i64 (0 - x5))) (QV.neg rfl) rfl rfl rfl ?_
  refine JL.val (v := .int .i64 (andI .i64 (IntKind.wrap .i64 (0 - x5)) (7 : Int))) (QV.and rfl rfl) rfl rfl rfl ?_
  obtain ⟨y10, hc11, hm⟩ := bind_inv hm
  refine JL.mv (d := some 11) (MV.call (Lo := [Asr.blk b1 98 [Seg.c (s2.v), Seg.c (.int .u64 x4), Seg.c (.int .i64 x5)], Asr.of 5 (Enc.int .u8) (s2.v) x3]) (Lr := []) (F28.spec (b1) (s2) (x3) (x4) (x5) ((0 : Int)) ((andI .i64 (IntKind.wrap .i64 (0 - x5)) (7 : Int))) _ hc11) rfl Try.func28 rfl rfl rfl [0, 1] [] rfl rfl rfl trivial) rfl rfl rfl ?_
  rintro _ _ ⟨_, ⟨z12, rfl, rfl⟩, rfl⟩
  refine JL.nil ?_
  obtain rfl := Option.some.inj hm
  exact QJ.body (vs := []) (.inr rfl) rfl ResVs.nil [0, 1] rfl rfl (.inr ⟨own_of _ _ _ _, own_blk _ _ _, trivial⟩) ⟨z12, rfl, rfl⟩

/-! ### 34: drogher/drogherref08.Bytes -/
noncomputable def F34.j1  (d7 : List Int) : Option (List Int) :=
  some d7
noncomputable def F34.j2 (x2 : (List Int)) (d10 : Int) (d20 : List Int) : Option ((List Int × Int) ⊕ (List Int)) :=
  (if 0 ≤ (IntKind.wrap .i64 (Int.tdiv d10 (8 : Int))) ∧ (IntKind.wrap .i64 (Int.tdiv d10 (8 : Int))) < ((d20).length : Int) then (if 0 ≤ d10 ∧ d10 < ((x2).length : Int) then (if 0 ≤ (Int.tmod d10 (8 : Int)) then some (.inl ((List.set d20 (Int.toNat (IntKind.wrap .i64 (Int.tdiv d10 (8 : Int)))) (IntKind.wrap .u8 ((gd d20 (IntKind.wrap .i64 (Int.tdiv d10 (8 : Int)))) + (shlI .u8 (gd x2 d10) (Int.tmod d10 (8 : Int)))))), (IntKind.wrap .i64 (d10 + (1 : Int))))) else none) else none) else none)
noncomputable def F34.b1 (x2 : (List Int)) : (List Int × Int) → Option ((List Int × Int) ⊕ (List Int))
  | (d9, d10) => (if d10 < ((x2).length : Int) then (if (Int.tmod d10 (8 : Int)) = (0 : Int) then (if ((d9).length + ([(0 : Int)]).length) * 1 ≤ 140737488355328 ∧ (d9).length + ([(0 : Int)]).length ≤ 9223372036854775807 then F34.j2 x2 d10 ((d9 ++ [(0 : Int)])) else none) else F34.j2 x2 d10 (d9)) else some (.inr d9))
noncomputable def F34.m (x2 : (List Int)) : Option (List Int) :=
  ((loop (F34.b1 x2) (([] : List Int), (0 : Int))).bind fun y => match y with | d7 => F34.j1 (d7))
set_option maxRecDepth 100000 in
set_option maxHeartbeats 4000000 in
theorem F34.spec (s1 : SlV) (x2 : (List Int)) (r : (List Int)) (hm : F34.m x2 = some r) :
    Ctr Try.prog false 34 [s1.v] [Asr.vw (Enc.int .u8) (s1.v) x2] (fun v L' => ∃ (g3 : SlV), v = g3.v ∧ L' = [Asr.of 5 (Enc.int .u8) (g3.v) r]) := by
  refine Ctr.intro (n := 36) (env := [(0, s1.v)]) Try.func34 rfl rfl rfl rfl (fun c => ?_)
  unfold F34.m at hm
  refine JC.seq ?_
  refine JC.region ?_
  refine JL.ent (fun _ hs => hs.nil 5 (Enc.int .u8)) ?_
  refine JL.val (v := SlV.nil.v) (QV.assign rfl) rfl rfl rfl ?_
  refine JL.nil ?_
  refine QJ.then_normal ?_
  refine JC.seq ?_
  refine JC.region ?_
  refine JL.mv (d := some 5) (MV.lit0 (Enc.int .u8) Try.underlying26 (by kernel_rfl)) rfl rfl rfl ?_
  rintro _ _ ⟨z5, rfl, rfl⟩
  refine JL.val (v := z5.v) (QV.assign rfl) rfl rfl rfl ?_
  refine JL.nil ?_
  refine QJ.then_normal ?_
  refine JC.seq ?_
  refine JC.seq ?_
  refine JC.region ?_
  refine JL.val (v := s1.v) (QV.move rfl) rfl rfl rfl ?_
  refine JL.val (v := .int .i64 ((x2).length : Int)) (QV.len (Rdg.vw 2 rfl) Try.underlying26 rfl) rfl rfl rfl ?_
  refine JL.val (v := .int .i64 (0 : Int)) (QV.move rfl) rfl rfl rfl ?_
  refine JL.nil ?_
  refine QJ.then_normal ?_
  refine JC.cutK (Y := (List Int) × SlV) (fun y => match y with | (d7, _) => F34.j1 (d7) = some r) (fun y => match y with | (d7, z6) => [(3, z6.v)]) (fun y => match y with | (d7, z6) => [Asr.of 5 (Enc.int .u8) (z6.v) d7]) ?_ ?_
  ·
    rintro ⟨d7, z6⟩ hm
    unfold F34.j1 at hm
    show QJ _ _ [(3, z6.v)] [Asr.of 5 (Enc.int .u8) (z6.v) d7] _ _
    refine QJ.then_normal ?_
    refine JC.seq ?_
    refine JC.region ?_
    refine JL.val (v := z6.v) (QV.move rfl) rfl rfl rfl ?_
    refine JL.val (v := z6.v) (QV.assign rfl) rfl rfl rfl ?_
    refine JL.nil ?_
    refine QJ.then_normal ?_
    refine JC.ret ?_
    obtain rfl := Option.some.inj hm
    exact QJ.body (vs := [z6.v]) (.inl rfl) rfl (ResVs.cons (ResV.tmp rfl) ResVs.nil) [0] rfl rfl (.inr ⟨own_of _ _ _ _, trivial⟩) ⟨z6, rfl, rfl⟩
  ·
    refine JC.block ?_
    obtain ⟨y14, hl15, hmo16⟩ := bind_inv hm
    refine JC.loop (F34.b1 x2) (fun x z => match x, z with | (d9, d10), z8 => [(0, s1.v), (3, z8.v), (7, .int .i64 ((x2).length : Int)), (8, .int .i64 d10)]) (fun x z => match x, z with | (d9, d10), z8 => [Asr.vw (Enc.int .u8) (s1.v) x2, Asr.of 5 (Enc.int .u8) (z8.v) d9]) (([] : List Int), (0 : Int)) z5 y14 hl15 [2, 0] (by exact ⟨rfl, rfl, rfl, rfl, trivial⟩) rfl rfl ?_
    rintro ⟨d9, d10⟩ z8 s17 hm
    unfold F34.b1 at hm
    dsimp only at hm
    show JC _ _ _ [(0, s1.v), (3, z8.v), (7, .int .i64 ((x2).length : Int)), (8, .int .i64 d10)] [Asr.vw (Enc.int .u8) (s1.v) x2, Asr.of 5 (Enc.int .u8) (z8.v) d9] _ _
    refine JC.seq ?_
    refine JC.region ?_
    refine JL.val (v := .bool (decide (d10 < ((x2).length : Int)))) (QV.lss rfl rfl) rfl rfl rfl ?_
    refine JL.nil ?_
    refine QJ.then_normal ?_
    refine JC.seq ?_
    rcases ite_inv hm with ⟨h18, hm⟩ | ⟨h18, hm⟩
    ·
      refine JC.condT' rfl (decide_eq_true h18) ?_
      refine JC.skip ?_
      refine QJ.then_normal ?_
      refine JC.seq ?_
      refine JC.block ?_
      refine JC.seq ?_
      refine JC.region ?_
      refine JL.val (v := .int .i64 d10) (QV.move rfl) rfl rfl rfl ?_
      refine JL.val (v := .int .i64 d10) (QV.assign rfl) rfl rfl rfl ?_
      refine JL.nil ?_
      refine QJ.then_normal ?_
      refine JC.seq ?_
      refine JC.seq ?_
      refine JC.region ?_
      refine JL.val (v := .int .i64 d10) (QV.move rfl) rfl rfl rfl ?_
      refine JL.val (v := .int .i64 (Int.tmod d10 (8 : Int))) (QV.rem rfl rfl (by decide)) rfl rfl rfl ?_
      refine JL.val (v := .bool (decide ((Int.tmod d10 (8 : Int)) = (0 : Int)))) (QV.eql rfl rfl) rfl rfl rfl ?_
      refine JL.nil ?_
      refine QJ.then_normal ?_
      refine JC.cutK (Y := (List Int) × SlV) (fun y => match y with | (d20, _) => F34.j2 x2 d10 (d20) = some s17) (fun y => match y with | (d20, z19) => [(0, s1.v), (3, z19.v), (4, .int .i64 d10), (7, .int .i64 ((x2).length : Int)), (8, .int .i64 d10)]) (fun y => match y with | (d20, z19) => [Asr.vw (Enc.int .u8) (s1.v) x2, Asr.of 5 (Enc.int .u8) (z19.v) d20]) ?_ ?_
      ·
        rintro ⟨d20, z19⟩ hm
        unfold F34.j2 at hm
        show QJ _ _ [(0, s1.v), (3, z19.v), (4, .int .i64 d10), (7, .int .i64 ((x2).length : Int)), (8, .int .i64 d10)] [Asr.vw (Enc.int .u8) (s1.v) x2, Asr.of 5 (Enc.int .u8) (z19.v) d20] _ _
        refine QJ.then_normal ?_
        refine JC.regionT [Asr.vw (Enc.int .u8) (s1.v) x2, Asr.of 5 (Enc.int .u8) (z19.v) d20] (fun t => Nat.beq t 17) [(0, true), (1, true), (2, true), (3, true), (4, true), (5, true), (6, true), (7, true), (8, true), (9, true), (10, true), (11, true), (12, false), (13, false), (14, false), (15, false), (16, false), (17, false)] (by kernel_rfl) (by kernel_rfl) (by kernel_rfl) rfl (fun hsel => ?_)
        refine JT.take (i := 0) (v := z19.v) hsel rfl (QV.move rfl) rfl rfl rfl [0, 1] rfl rfl ?_
        refine JT.take (i := 1) (v := .int .i64 d10) hsel rfl (QV.move rfl) rfl rfl rfl [0, 1] rfl rfl ?_
        refine JT.take (i := 2) (v := .int .i64 (IntKind.wrap .i64 (Int.tdiv d10 (8 : Int)))) hsel rfl (QV.quo rfl rfl (by decide)) rfl rfl rfl [0, 1] rfl rfl ?_
        refine JT.take (i := 3) (v := z19.v) hsel rfl (QV.move rfl) rfl rfl rfl [0, 1] rfl rfl ?_
        refine JT.take (i := 4) (v := .int .i64 d10) hsel rfl (QV.move rfl) rfl rfl rfl [0, 1] rfl rfl ?_
        refine JT.take (i := 5) (v := .int .i64 (IntKind.wrap .i64 (Int.tdiv d10 (8 : Int)))) hsel rfl (QV.quo rfl rfl (by decide)) rfl rfl rfl [0, 1] rfl rfl ?_
        obtain ⟨h21, hm⟩ := guard_inv hm
        refine JT.take (i := 6) (v := .pointer (some (elA (z19.v) (Int.toNat (IntKind.wrap .i64 (Int.tdiv d10 (8 : Int))) * ((Enc.int .u8)).sz)))) hsel rfl (QV.indexA (Rdg.of 1 rfl) Try.underlying26 tk_5 rfl rfl h21) rfl rfl rfl [0, 1] rfl rfl ?_
        refine JT.take (i := 7) (v := .int .u8 (gd d20 (IntKind.wrap .i64 (Int.tdiv d10 (8 : Int))))) hsel rfl (QV.el1 (Rdg.of 1 rfl) tk_5 rfl h21 rfl) rfl rfl rfl [0, 1] rfl rfl ?_
        refine JT.take (i := 8) (v := s1.v) hsel rfl (QV.move rfl) rfl rfl rfl [0, 1] rfl rfl ?_
        refine JT.take (i := 9) (v := .int .i64 d10) hsel rfl (QV.move rfl) rfl rfl rfl [0, 1] rfl rfl ?_
        obtain ⟨h22, hm⟩ := guard_inv hm
        refine JT.take (i := 10) (v := .pointer (some (elA (s1.v) (Int.toNat d10 * ((Enc.int .u8)).sz)))) hsel rfl (QV.indexA (Rdg.vw 0 rfl) Try.underlying26 tk_5 rfl rfl h22) rfl rfl rfl [0, 1] rfl rfl ?_
        refine JT.take (i := 11) (v := .int .u8 (gd x2 d10)) hsel rfl (QV.el1 (Rdg.vw 0 rfl) tk_5 rfl h22 rfl) rfl rfl rfl [0, 1] rfl rfl ?_
        refine JT.only (i := 12) (d := some 29) rfl (MV.ofQV (v := .int .i64 d10) (QV.move rfl)) rfl rfl rfl ?_
        rintro _ _ ⟨rfl, rfl⟩
        refine ⟨fun _ => ⟨[0, 1], rfl, rfl⟩, ?_⟩
        refine JT.only (i := 13) (d := some 30) rfl (MV.ofQV (v := .int .i64 (Int.tmod d10 (8 : Int))) (QV.rem rfl rfl (by decide))) rfl rfl rfl ?_
        rintro _ _ ⟨rfl, rfl⟩
        refine ⟨fun _ => ⟨[0, 1], rfl, rfl⟩, ?_⟩
        obtain ⟨h23, hm⟩ := guard_inv hm
        refine JT.only (i := 14) (d := some 31) rfl (MV.ofQV (v := .int .u8 (shlI .u8 (gd x2 d10) (Int.tmod d10 (8 : Int)))) (QV.shl rfl rfl h23)) rfl rfl rfl ?_
        rintro _ _ ⟨rfl, rfl⟩
        refine ⟨fun _ => ⟨[0, 1], rfl, rfl⟩, ?_⟩
        refine JT.only (i := 15) (d := some 32) rfl (MV.ofQV (v := .int .u8 (IntKind.wrap .u8 ((gd d20 (IntKind.wrap .i64 (Int.tdiv d10 (8 : Int)))) + (shlI .u8 (gd x2 d10) (Int.tmod d10 (8 : Int)))))) (QV.add rfl rfl)) rfl rfl rfl ?_
        rintro _ _ ⟨rfl, rfl⟩
        refine ⟨fun _ => ⟨[0, 1], rfl, rfl⟩, ?_⟩
        refine JT.only (i := 16) (d := some 33) rfl (MV.ofQV (v := .pointer (some (elA (z19.v) (Int.toNat (IntKind.wrap .i64 (Int.tdiv d10 (8 : Int))) * ((Enc.int .u8)).sz)))) (QV.indexA (Rdg.of 1 rfl) Try.underlying26 tk_5 rfl rfl h21)) rfl rfl rfl ?_
        rintro _ _ ⟨rfl, rfl⟩
        refine ⟨fun _ => ⟨[0, 1], rfl, rfl⟩, ?_⟩
        refine JT.only (i := 17) (d := none) rfl (MV.storeEl 1 (IntKind.wrap .u8 ((gd d20 (IntKind.wrap .i64 (Int.tdiv d10 (8 : Int)))) + (shlI .u8 (gd x2 d10) (Int.tmod d10 (8 : Int))))) rfl tk_5 rfl rfl h21 rfl) rfl rfl rfl ?_
        rintro _ _ ⟨rfl, rfl⟩
        refine ⟨fun h => absurd h (by decide), ?_⟩
        refine JT.nil ?_
        refine QJ.block_normal ?_
        refine QJ.then_normal ?_
        refine JC.region ?_
        refine JL.val (v := .int .i64 (IntKind.wrap .i64 (d10 + (1 : Int)))) (QV.add rfl rfl) rfl rfl rfl ?_
        refine JL.val (v := .int .i64 (IntKind.wrap .i64 (d10 + (1 : Int)))) (QV.move rfl) rfl rfl rfl ?_
        refine JL.nil ?_
        obtain rfl := Option.some.inj hm
        exact QJ.round_on ((List.set d20 (Int.toNat (IntKind.wrap .i64 (Int.tdiv d10 (8 : Int)))) (IntKind.wrap .u8 ((gd d20 (IntKind.wrap .i64 (Int.tdiv d10 (8 : Int)))) + (shlI .u8 (gd x2 d10) (Int.tmod d10 (8 : Int)))))), (IntKind.wrap .i64 (d10 + (1 : Int)))) z19 [0, 1] (by exact ⟨rfl, rfl, rfl, rfl, trivial⟩) rfl rfl
      ·
        rcases ite_inv hm with ⟨h24, hm⟩ | ⟨h24, hm⟩
        ·
          refine JC.condT' rfl (decide_eq_true h24) ?_
          refine JC.region ?_
          refine JL.val (v := z8.v) (QV.move rfl) rfl rfl rfl ?_
          refine JL.mv (d := some 15) (MV.lit (E := (Enc.int .u8)) (vals := [(0, .int .u8 (0 : Int))]) [(0 : Int)] Try.underlying26 zi_5 rfl (by decide) rfl (by kernel_rfl)) rfl rfl rfl ?_
          rintro _ _ ⟨z25, rfl, rfl⟩
          obtain ⟨h26, hm⟩ := guard_inv hm
          refine JL.mv (d := some 16) (MV.append 2 rfl (Rdg.of 0 rfl) Try.underlying26 zi_5 rfl (by decide) rfl rfl h26) rfl rfl rfl ?_
          rintro _ _ ⟨z27, rfl, rfl⟩
          refine JL.val (v := z27.v) (QV.assign rfl) rfl rfl rfl ?_
          refine JL.nil ?_
          exact QJ.cut_normal ((d9 ++ [(0 : Int)]), z27) hm [1, 2] (by exact ⟨rfl, rfl, rfl, rfl, rfl, trivial⟩) rfl rfl
        ·
          refine JC.condF' rfl (decide_eq_false h24) ?_
          refine JC.skip ?_
          exact QJ.cut_normal (d9, z8) hm [0, 1] (by exact ⟨rfl, rfl, rfl, rfl, rfl, trivial⟩) rfl rfl
    ·
      refine JC.condF' rfl (decide_eq_false h18) ?_
      refine JC.exit ?_
      refine QJ.then_exit ?_
      obtain rfl := Option.some.inj hm
      refine QJ.round_exit (fun hy => ?_)
      subst hy
      refine QJ.block_hit ?_
      exact QJ.cut_normal (d9, z8) hmo16 [1] (by exact ⟨rfl, trivial⟩) rfl rfl

/-! ### 33: drogher/drogherref08.Of -/
noncomputable def F33.j1  (d7 : List Int) : Option (List Int) :=
  some d7
noncomputable def F33.b1 (x2 : (List Int)) : (List Int × Int) → Option ((List Int × Int) ⊕ (List Int))
  | (d9, d10) => (if d10 < ((x2).length : Int) then (if 0 ≤ d10 ∧ d10 < ((x2).length : Int) then ((F29.m ((IntKind.wrap .u32 (gd x2 d10))) ((8 : Int))).bind fun y20 => (if ((d9).length + (y20).length) * 1 ≤ 140737488355328 ∧ (d9).length + (y20).length ≤ 9223372036854775807 then some (.inl ((d9 ++ y20), (IntKind.wrap .i64 (d10 + (1 : Int))))) else none)) else none) else some (.inr d9))
noncomputable def F33.m (x2 : (List Int)) : Option (List Int) :=
  ((loop (F33.b1 x2) (([] : List Int), (0 : Int))).bind fun y => match y with | d7 => F33.j1 (d7))
set_option maxRecDepth 100000 in
set_option maxHeartbeats 4000000 in
theorem F33.spec (s1 : SlV) (x2 : (List Int)) (r : (List Int)) (hm : F33.m x2 = some r) :
    Ctr Try.prog false 33 [s1.v] [Asr.vw (Enc.int .u8) (s1.v) x2] (fun v L' => ∃ (g3 : SlV), v = g3.v ∧ L' = [Asr.of 5 (Enc.int .u8) (g3.v) r]) := by
  refine Ctr.intro (n := 21) (env := [(0, s1.v)]) Try.func33 rfl rfl rfl rfl (fun c => ?_)
  unfold F33.m at hm
  refine JC.seq ?_
  refine JC.region ?_
  refine JL.ent (fun _ hs => hs.nil 5 (Enc.int .u8)) ?_
  refine JL.val (v := SlV.nil.v) (QV.assign rfl) rfl rfl rfl ?_
  refine JL.nil ?_
  refine QJ.then_normal ?_
  refine JC.seq ?_
  refine JC.region ?_
  refine JL.mv (d := some 5) (MV.lit0 (Enc.int .u8) Try.underlying26 (by kernel_rfl)) rfl rfl rfl ?_
  rintro _ _ ⟨z5, rfl, rfl⟩
  refine JL.val (v := z5.v) (QV.assign rfl) rfl rfl rfl ?_
  refine JL.nil ?_
  refine QJ.then_normal ?_
  refine JC.seq ?_
  refine JC.seq ?_
  refine JC.region ?_
  refine JL.val (v := s1.v) (QV.move rfl) rfl rfl rfl ?_
  refine JL.val (v := .int .i64 ((x2).length : Int)) (QV.len (Rdg.vw 2 rfl) Try.underlying26 rfl) rfl rfl rfl ?_
  refine JL.val (v := .int .i64 (0 : Int)) (QV.move rfl) rfl rfl rfl ?_
  refine JL.nil ?_
  refine QJ.then_normal ?_
  refine JC.cutK (Y := (List Int) × SlV) (fun y => match y with | (d7, _) => F33.j1 (d7) = some r) (fun y => match y with | (d7, z6) => [(3, z6.v)]) (fun y => match y with | (d7, z6) => [Asr.of 5 (Enc.int .u8) (z6.v) d7]) ?_ ?_
  ·
    rintro ⟨d7, z6⟩ hm
    unfold F33.j1 at hm
    show QJ _ _ [(3, z6.v)] [Asr.of 5 (Enc.int .u8) (z6.v) d7] _ _
    refine QJ.then_normal ?_
    refine JC.seq ?_
    refine JC.region ?_
    refine JL.val (v := z6.v) (QV.move rfl) rfl rfl rfl ?_
    refine JL.val (v := z6.v) (QV.assign rfl) rfl rfl rfl ?_
    refine JL.nil ?_
    refine QJ.then_normal ?_
    refine JC.ret ?_
    obtain rfl := Option.some.inj hm
    exact QJ.body (vs := [z6.v]) (.inl rfl) rfl (ResVs.cons (ResV.tmp rfl) ResVs.nil) [0] rfl rfl (.inr ⟨own_of _ _ _ _, trivial⟩) ⟨z6, rfl, rfl⟩
  ·
    refine JC.block ?_
    obtain ⟨y14, hl15, hmo16⟩ := bind_inv hm
    refine JC.loop (F33.b1 x2) (fun x z => match x, z with | (d9, d10), z8 => [(0, s1.v), (3, z8.v), (7, .int .i64 ((x2).length : Int)), (8, .int .i64 d10)]) (fun x z => match x, z with | (d9, d10), z8 => [Asr.vw (Enc.int .u8) (s1.v) x2, Asr.of 5 (Enc.int .u8) (z8.v) d9]) (([] : List Int), (0 : Int)) z5 y14 hl15 [2, 0] (by exact ⟨rfl, rfl, rfl, rfl, trivial⟩) rfl rfl ?_
    rintro ⟨d9, d10⟩ z8 s17 hm
    unfold F33.b1 at hm
    dsimp only at hm
    show JC _ _ _ [(0, s1.v), (3, z8.v), (7, .int .i64 ((x2).length : Int)), (8, .int .i64 d10)] [Asr.vw (Enc.int .u8) (s1.v) x2, Asr.of 5 (Enc.int .u8) (z8.v) d9] _ _
    refine JC.seq ?_
    refine JC.region ?_
    refine JL.val (v := .bool (decide (d10 < ((x2).length : Int)))) (QV.lss rfl rfl) rfl rfl rfl ?_
    refine JL.nil ?_
    refine QJ.then_normal ?_
    refine JC.seq ?_
    rcases ite_inv hm with ⟨h18, hm⟩ | ⟨h18, hm⟩
    ·
      refine JC.condT' rfl (decide_eq_true h18) ?_
      refine JC.skip ?_
      refine QJ.then_normal ?_
      refine JC.seq ?_
      refine JC.block ?_
      refine JC.seq ?_
      refine JC.region ?_
      refine JL.val (v := .int .i64 d10) (QV.move rfl) rfl rfl rfl ?_
      refine JL.val (v := .int .i64 d10) (QV.assign rfl) rfl rfl rfl ?_
      refine JL.nil ?_
      refine QJ.then_normal ?_
      refine JC.region ?_
      refine JL.val (v := z8.v) (QV.move rfl) rfl rfl rfl ?_
      refine JL.val (v := s1.v) (QV.move rfl) rfl rfl rfl ?_
      refine JL.val (v := .int .i64 d10) (QV.move rfl) rfl rfl rfl ?_
      obtain ⟨h19, hm⟩ := guard_inv hm
      refine JL.val (v := .pointer (some (elA (s1.v) (Int.toNat d10 * ((Enc.int .u8)).sz)))) (QV.indexA (Rdg.vw 0 rfl) Try.underlying26 tk_5 rfl rfl h19) rfl rfl rfl ?_
      refine JL.val (v := .int .u8 (gd x2 d10)) (QV.el1 (Rdg.vw 0 rfl) tk_5 rfl h19 rfl) rfl rfl rfl ?_
      refine JL.val (v := .int .u32 (IntKind.wrap .u32 (gd x2 d10))) (QV.conv rfl (by rw [Try.underlying5]; rfl) Try.underlying42) rfl rfl rfl ?_
      obtain ⟨y20, hc21, hm⟩ := bind_inv hm
      refine JL.mv (d := some 17) (MV.call (Lo := []) (Lr := [Asr.vw (Enc.int .u8) (s1.v) x2, Asr.of 5 (Enc.int .u8) (z8.v) d9]) (F29.spec ((IntKind.wrap .u32 (gd x2 d10))) ((8 : Int)) _ hc21) rfl Try.func29 rfl rfl rfl [] [0, 1] rfl rfl rfl trivial) rfl rfl rfl ?_
      rintro _ _ ⟨_, ⟨z22, rfl, rfl⟩, rfl⟩
      obtain ⟨h23, hm⟩ := guard_inv hm
      refine JL.mv (d := some 18) (MV.append 2 rfl (Rdg.of 0 rfl) Try.underlying26 zi_5 rfl (by decide) rfl rfl h23) rfl rfl rfl ?_
      rintro _ _ ⟨z24, rfl, rfl⟩
      refine JL.val (v := z24.v) (QV.assign rfl) rfl rfl rfl ?_
      refine JL.nil ?_
      refine QJ.block_normal ?_
      refine QJ.then_normal ?_
      refine JC.region ?_
      refine JL.val (v := .int .i64 (IntKind.wrap .i64 (d10 + (1 : Int)))) (QV.add rfl rfl) rfl rfl rfl ?_
      refine JL.val (v := .int .i64 (IntKind.wrap .i64 (d10 + (1 : Int)))) (QV.move rfl) rfl rfl rfl ?_
      refine JL.nil ?_
      obtain rfl := Option.some.inj hm
      exact QJ.round_on ((d9 ++ y20), (IntKind.wrap .i64 (d10 + (1 : Int)))) z24 [1, 2] (by exact ⟨rfl, rfl, rfl, rfl, trivial⟩) rfl rfl
    ·
      refine JC.condF' rfl (decide_eq_false h18) ?_
      refine JC.exit ?_
      refine QJ.then_exit ?_
      obtain rfl := Option.some.inj hm
      refine QJ.round_exit (fun hy => ?_)
      subst hy
      refine QJ.block_hit ?_
      exact QJ.cut_normal (d9, z8) hmo16 [1] (by exact ⟨rfl, trivial⟩) rfl rfl

/-! ### 35: (*drogher/bits.Writer).Raw -/
noncomputable def F35.m (x3 : (List Int)) (x4 : Int) (x5 : Int) (x7 : (List Int)) : Option (List Int × Int × Int) :=
  ((F32.m (x3) (x4) (x5)).bind fun y12 => (if ((y12.1).length + (x7).length) * 1 ≤ 140737488355328 ∧ (y12.1).length + (x7).length ≤ 9223372036854775807 then some ((y12.1 ++ x7), y12.2.1, y12.2.2) else none))
set_option maxRecDepth 100000 in
set_option maxHeartbeats 4000000 in
theorem F35.spec (b1 : Nat) (s2 : SlV) (s6 : SlV) (x3 : (List Int)) (x4 : Int) (x5 : Int) (x7 : (List Int)) (r : (List Int × Int × Int)) (hm : F35.m x3 x4 x5 x7 = some r) :
    Ctr Try.prog false 35 [.pointer (some ⟨b1, 0, none⟩), s6.v] [Asr.blk b1 98 [Seg.c (s2.v), Seg.c (.int .u64 x4), Seg.c (.int .i64 x5)], Asr.of 5 (Enc.int .u8) (s2.v) x3, Asr.vw (Enc.int .u8) (s6.v) x7] (fun v L' => ∃ (g8 : SlV), v = .tuple #[] ∧ L' = [Asr.of 5 (Enc.int .u8) (g8.v) r.1, Asr.blk b1 98 [Seg.c (g8.v), Seg.c (.int .u64 r.2.1), Seg.c (.int .i64 r.2.2)]]) := by
  refine Ctr.intro (n := 17) (env := [(0, .pointer (some ⟨b1, 0, none⟩)), (1, s6.v)]) Try.func35 rfl rfl rfl rfl (fun c => ?_)
  unfold F35.m at hm
  refine JC.seq ?_
  refine JC.region ?_
  refine JL.val (v := .pointer (some ⟨b1, 0, none⟩)) (QV.move rfl) rfl rfl rfl ?_
  refine JL.val (v := .bool true) ((QV.eq (QV.neqP Try.underlying40 rfl rfl (.inr rfl)) (by simp))) rfl rfl rfl ?_
  refine JL.nil ?_
  refine QJ.then_normal ?_
  refine JC.condT rfl ?_
  refine JC.seq ?_
  refine JC.region ?_
  refine JL.val (v := .pointer (some ⟨b1, 0, none⟩)) (QV.move rfl) rfl rfl rfl ?_
  obtain ⟨y12, hc13, hm⟩ := bind_inv hm
  refine JL.mv (d := some 7) (MV.call (Lo := [Asr.blk b1 98 [Seg.c (s2.v), Seg.c (.int .u64 x4), Seg.c (.int .i64 x5)], Asr.of 5 (Enc.int .u8) (s2.v) x3]) (Lr := [Asr.vw (Enc.int .u8) (s6.v) x7]) (F32.spec (b1) (s2) (x3) (x4) (x5) _ hc13) rfl Try.func32 rfl rfl rfl [0, 1] [2] rfl rfl rfl trivial) rfl rfl rfl ?_
  rintro _ _ ⟨_, ⟨z14, rfl, rfl⟩, rfl⟩
  refine JL.nil ?_
  refine QJ.then_normal ?_
  refine JC.region ?_
  refine JL.val (v := .pointer (some ⟨b1, 0, none⟩)) (QV.move rfl) rfl rfl rfl ?_
  refine JL.val (v := .pointer (some ⟨b1, 0, none⟩)) (QV.move rfl) rfl rfl rfl ?_
  refine JL.val (v := .pointer (some ⟨b1, 0, none⟩)) (QV.nilCheck rfl) rfl rfl rfl ?_
  refine JL.val (v := .pointer (some ⟨b1, 0, none⟩)) (QV.fieldB fo_98_0 rfl rfl) rfl rfl rfl ?_
  refine JL.val (v := z14.v) (QV.load1 (ss := [Seg.c (z14.v), Seg.c (.int .u64 y12.2.1), Seg.c (.int .i64 y12.2.2)]) 1 0 rfl tk_26 rfl rfl rfl) rfl rfl rfl ?_
  refine JL.val (v := s6.v) (QV.move rfl) rfl rfl rfl ?_
  obtain ⟨h15, hm⟩ := guard_inv hm
  refine JL.mv (d := some 14) (MV.append 0 rfl (Rdg.vw 2 rfl) Try.underlying26 zi_5 rfl (by decide) rfl rfl h15) rfl rfl rfl ?_
  rintro _ _ ⟨z16, rfl, rfl⟩
  refine JL.val (v := .pointer (some ⟨b1, 0, none⟩)) (QV.nilCheck rfl) rfl rfl rfl ?_
  refine JL.val (v := .pointer (some ⟨b1, 0, none⟩)) (QV.fieldB fo_98_0 rfl rfl) rfl rfl rfl ?_
  refine JL.mv (d := none) (MV.store (ss := [Seg.c (z14.v), Seg.c (.int .u64 y12.2.1), Seg.c (.int .i64 y12.2.2)]) 1 0 1 [Seg.c (z16.v)] rfl tk_26 rfl rfl rfl rfl (fun w hs => ⟨cells_sl (Rdg.of 0 rfl) hs, one_sl (Rdg.of 0 rfl) hs, trivial⟩)) rfl rfl rfl ?_
  rintro _ _ ⟨rfl, rfl⟩
  refine JL.nil ?_
  obtain rfl := Option.some.inj hm
  exact QJ.body (vs := []) (.inr rfl) rfl ResVs.nil [0, 1] rfl rfl (.inr ⟨own_of _ _ _ _, own_blk _ _ _, trivial⟩) ⟨z16, rfl, rfl⟩

/-! ### 7: drogher/drogherlaw08.BitsWrites -/
noncomputable def F7.j1  (d16 : List Int) (d17 : Int) (d18 : Int) (d20 : List Int) : Option Bool :=
  ((F37.m (d16) (d17) (d18)).bind fun y21 => ((F34.m (d20)).bind fun y24 => (if (strOfNums y21) = (strOfNums y24) then ((F26.m).bind fun y28 => some y28) else some false)))
noncomputable def F7.j2 (d36 : Int) (d52 : List Int) (d53 : Int) (d54 : Int) (d56 : List Int) : Option ((List Int × Int × Int × List Int × Int) ⊕ ((Bool) ⊕ (List Int × Int × Int × List Int))) :=
  ((F36.m (d52) (d53) (d54)).bind fun y57 => (if y57 = ((d56).length : Int) then some (.inl (d52, d53, d54, d56, (IntKind.wrap .i64 (d36 + (1 : Int))))) else some (.inr (.inl (false)))))
noncomputable def F7.j3 (d36 : Int) (d70 : List Int) (d71 : Int) (d72 : Int) (d74 : List Int) : Option ((List Int × Int × Int × List Int × Int) ⊕ ((Bool) ⊕ (List Int × Int × Int × List Int))) :=
  F7.j2 d36 (d70) (d71) (d72) (d74)
noncomputable def F7.j4 (d36 : Int) (d85 : List Int) (d86 : Int) (d87 : Int) (d89 : List Int) : Option ((List Int × Int × Int × List Int × Int) ⊕ ((Bool) ⊕ (List Int × Int × Int × List Int))) :=
  F7.j3 d36 (d85) (d86) (d87) (d89)
noncomputable def F7.b1 (x2 : (List (Int × Int × Int × (List Int)))) : (List Int × Int × Int × List Int × Int) → Option ((List Int × Int × Int × List Int × Int) ⊕ ((Bool) ⊕ (List Int × Int × Int × List Int)))
  | (d31, d32, d33, d35, d36) => (if d36 < ((x2).length : Int) then (if 0 ≤ d36 ∧ d36 < ((x2).length : Int) then (if (gd x2 d36).1 = (0 : Int) then ((F28.m (d31) (d32) (d33) ((gd x2 d36).2.2.1) ((gd x2 d36).2.1)).bind fun y61 => ((F29.m ((gd x2 d36).2.2.1) ((gd x2 d36).2.1)).bind fun y64 => (if ((d35).length + (y64).length) * 1 ≤ 140737488355328 ∧ (d35).length + (y64).length ≤ 9223372036854775807 then F7.j2 d36 (y61.1) (y61.2.1) (y61.2.2) ((d35 ++ y64)) else none))) else (if (gd x2 d36).1 = (1 : Int) then ((F30.m (d31) (d32) (d33) ((gd x2 d36).2.2.1) ((gd x2 d36).2.1)).bind fun y76 => ((F31.m ((gd x2 d36).2.2.1) ((gd x2 d36).2.1)).bind fun y79 => (if ((d35).length + (y79).length) * 1 ≤ 140737488355328 ∧ (d35).length + (y79).length ≤ 9223372036854775807 then F7.j3 d36 (y76.1) (y76.2.1) (y76.2.2) ((d35 ++ y79)) else none))) else (if (gd x2 d36).1 = (2 : Int) then ((F32.m (d31) (d32) (d33)).bind fun y91 => ((F34.m (d35)).bind fun y94 => ((F33.m (y94)).bind fun y97 => F7.j4 d36 (y91.1) (y91.2.1) (y91.2.2) (y97)))) else ((F35.m (d31) (d32) (d33) ((gd x2 d36).2.2.2)).bind fun y100 => ((F34.m (d35)).bind fun y103 => ((F33.m (y103)).bind fun y106 => ((F33.m ((gd x2 d36).2.2.2)).bind fun y109 => (if ((y106).length + (y109).length) * 1 ≤ 140737488355328 ∧ (y106).length + (y109).length ≤ 9223372036854775807 then F7.j4 d36 (y100.1) (y100.2.1) (y100.2.2) ((y106 ++ y109)) else none)))))))) else none) else some (.inr (.inr ((d31, d32, d33, d35)))))
noncomputable def F7.m (x2 : (List (Int × Int × Int × (List Int)))) : Option Bool :=
  ((F25.m (x2)).bind fun y5 => (if y5 = true then ((F26.m).bind fun y8 => some y8) else ((F27.m).bind fun y10 => ((loop (F7.b1 x2) (y10.1, y10.2.1, y10.2.2, ([] : List Int), (0 : Int))).bind fun y => match y with | .inl r => some r | .inr (d16, d17, d18, d20) => F7.j1 (d16) (d17) (d18) (d20)))))
set_option maxRecDepth 100000 in
set_option maxHeartbeats 4000000 in
theorem F7.spec (s1 : SlV) (z3 : List (Unit × Unit × Unit × SlV)) (x2 : (List (Int × Int × Int × (List Int)))) (r : Bool) (hm : F7.m x2 = some r) :
    Ctr Try.prog false 7 [s1.v] [Asr.vn (NE.pair (NE.flat (Enc.int .i64)) (NE.pair (NE.flat (Enc.int .i64)) (NE.pair (NE.flat (Enc.int .u32)) (NE.sl (Enc.int .u8))))) (s1.v) z3 x2] (fun v L' => v = .bool r ∧ L' = []) := by
  refine Ctr.intro (n := 88) (env := [(0, s1.v)]) Try.func7 rfl rfl rfl rfl (fun c => ?_)
  unfold F7.m at hm
  refine JC.seq ?_
  refine JC.region ?_
  refine JL.val (v := .bool false) (QV.assign rfl) rfl rfl rfl ?_
  refine JL.nil ?_
  refine QJ.then_normal ?_
  refine JC.seq ?_
  refine JC.seq ?_
  refine JC.region ?_
  refine JL.val (v := s1.v) (QV.move rfl) rfl rfl rfl ?_
  obtain ⟨y5, hc6, hm⟩ := bind_inv hm
  refine JL.mv (d := some 8) (MV.call (Lo := []) (Lr := [Asr.vn (NE.pair (NE.flat (Enc.int .i64)) (NE.pair (NE.flat (Enc.int .i64)) (NE.pair (NE.flat (Enc.int .u32)) (NE.sl (Enc.int .u8))))) (s1.v) z3 x2]) (F25.spec (s1) (z3) (x2) _ hc6) rfl Try.func25 rfl rfl rfl [] [0] rfl rfl rfl ⟨(Drv.vn 0 rfl), trivial⟩) rfl rfl rfl ?_
  rintro _ _ ⟨_, ⟨rfl, rfl⟩, rfl⟩
  refine JL.nil ?_
  refine QJ.then_normal ?_
  rcases ite_inv hm with ⟨h7, hm⟩ | ⟨h7, hm⟩
  ·
    refine JC.condT' rfl h7 ?_
    refine JC.seq ?_
    refine JC.region ?_
    obtain ⟨y8, hc9, hm⟩ := bind_inv hm
    refine JL.mv (d := some 9) (MV.call (Lo := []) (Lr := [Asr.vn (NE.pair (NE.flat (Enc.int .i64)) (NE.pair (NE.flat (Enc.int .i64)) (NE.pair (NE.flat (Enc.int .u32)) (NE.sl (Enc.int .u8))))) (s1.v) z3 x2]) (F26.spec _ hc9) rfl Try.func26 rfl rfl rfl [] [0] rfl rfl rfl trivial) rfl rfl rfl ?_
    rintro _ _ ⟨_, ⟨rfl, rfl⟩, rfl⟩
    refine JL.val (v := .bool y8) (QV.assign rfl) rfl rfl rfl ?_
    refine JL.nil ?_
    refine QJ.then_normal ?_
    refine JC.ret ?_
    refine QJ.then_ret ?_
    obtain rfl := Option.some.inj hm
    exact QJ.body (vs := [.bool y8]) (.inl rfl) rfl (ResVs.cons (ResV.tmp rfl) ResVs.nil) [] rfl rfl (.inr trivial) ⟨rfl, rfl⟩
  ·
    refine JC.condF' rfl (bfalse h7) ?_
    refine JC.skip ?_
    refine QJ.then_normal ?_
    refine JC.seq ?_
    refine JC.region ?_
    obtain ⟨y10, hc11, hm⟩ := bind_inv hm
    refine JL.mv (d := some 10) (MV.call (Lo := []) (Lr := [Asr.vn (NE.pair (NE.flat (Enc.int .i64)) (NE.pair (NE.flat (Enc.int .i64)) (NE.pair (NE.flat (Enc.int .u32)) (NE.sl (Enc.int .u8))))) (s1.v) z3 x2]) (F27.spec _ hc11) rfl Try.func27 rfl rfl rfl [] [0] rfl rfl rfl trivial) rfl rfl rfl ?_
    rintro _ _ ⟨_, ⟨b12, z13, rfl, rfl⟩, rfl⟩
    refine JL.val (v := .pointer (some ⟨b12, 0, none⟩)) (QV.assign rfl) rfl rfl rfl ?_
    refine JL.nil ?_
    refine QJ.then_normal ?_
    refine JC.seq ?_
    refine JC.region ?_
    refine JL.mv (d := some 11) (MV.lit0 (Enc.int .u8) Try.underlying26 (by kernel_rfl)) rfl rfl rfl ?_
    rintro _ _ ⟨z14, rfl, rfl⟩
    refine JL.val (v := z14.v) (QV.assign rfl) rfl rfl rfl ?_
    refine JL.nil ?_
    refine QJ.then_normal ?_
    refine JC.seq ?_
    refine JC.seq ?_
    refine JC.region ?_
    refine JL.val (v := .int .i64 (0 : Int)) (QV.assign rfl) rfl rfl rfl ?_
    refine JL.nil ?_
    refine QJ.then_normal ?_
    refine JC.cutK (Y := (List Int × Int × Int × List Int) × (SlV × SlV)) (fun y => match y with | ((d16, d17, d18, d20), _) => F7.j1 (d16) (d17) (d18) (d20) = some r) (fun y => match y with | ((d16, d17, d18, d20), (z15, z19)) => [(3, .pointer (some ⟨b12, 0, none⟩)), (4, z19.v)]) (fun y => match y with | ((d16, d17, d18, d20), (z15, z19)) => [Asr.of 5 (Enc.int .u8) (z15.v) d16, Asr.blk b12 98 [Seg.c (z15.v), Seg.c (.int .u64 d17), Seg.c (.int .i64 d18)], Asr.of 5 (Enc.int .u8) (z19.v) d20]) ?_ ?_
    ·
      rintro ⟨⟨d16, d17, d18, d20⟩, ⟨z15, z19⟩⟩ hm
      unfold F7.j1 at hm
      show QJ _ _ [(3, .pointer (some ⟨b12, 0, none⟩)), (4, z19.v)] [Asr.of 5 (Enc.int .u8) (z15.v) d16, Asr.blk b12 98 [Seg.c (z15.v), Seg.c (.int .u64 d17), Seg.c (.int .i64 d18)], Asr.of 5 (Enc.int .u8) (z19.v) d20] _ _
      refine QJ.then_normal ?_
      refine JC.seq ?_
      refine JC.regionT [Asr.of 5 (Enc.int .u8) (z15.v) d16, Asr.blk b12 98 [Seg.c (z15.v), Seg.c (.int .u64 d17), Seg.c (.int .i64 d18)], Asr.of 5 (Enc.int .u8) (z19.v) d20] (fun t => false) [(0, true), (3, true), (1, false), (2, true), (4, false), (5, false), (6, false), (7, false), (8, false), (9, false), (10, false)] (by kernel_rfl) (by kernel_rfl) (by kernel_rfl) rfl (fun hsel => ?_)
      refine JT.take (i := 0) (v := .pointer (some ⟨b12, 0, none⟩)) hsel rfl (QV.move rfl) rfl rfl rfl [0, 1, 2] rfl rfl ?_
      refine JT.take (i := 3) (v := z19.v) hsel rfl (QV.move rfl) rfl rfl rfl [0, 1, 2] rfl rfl ?_
      obtain ⟨y21, hc22, hm⟩ := bind_inv hm
      refine JT.only (i := 1) (d := some 79) rfl (MV.call (Lo := [Asr.blk b12 98 [Seg.c (z15.v), Seg.c (.int .u64 d17), Seg.c (.int .i64 d18)], Asr.of 5 (Enc.int .u8) (z15.v) d16]) (Lr := [Asr.of 5 (Enc.int .u8) (z19.v) d20]) (F37.spec (b12) (z15) (d16) (d17) (d18) _ hc22) rfl Try.func37 rfl rfl rfl [1, 0] [2] rfl rfl rfl trivial) rfl rfl rfl ?_
      rintro _ _ ⟨_, ⟨z23, rfl, rfl⟩, rfl⟩
      refine ⟨fun _ => ⟨[1, 2, 3], rfl, rfl⟩, ?_⟩
      refine JT.grow [Asr.of 5 (Enc.int .u8) (z23.v) y21, Asr.of 5 (Enc.int .u8) (z15.v) d16, Asr.blk b12 98 [Seg.c (z15.v), Seg.c (.int .u64 d17), Seg.c (.int .i64 d18)], Asr.of 5 (Enc.int .u8) (z19.v) d20] [1, 2, 3] rfl rfl ?_
      refine JT.take (i := 2) (v := .string (strOfNums y21)) hsel rfl (QV.str (Rdg.of 0 rfl) Try.underlying26 Try.underlying5 Try.underlying9 rfl) rfl rfl rfl [0, 1, 2, 3] rfl rfl ?_
      obtain ⟨y24, hc25, hm⟩ := bind_inv hm
      refine JT.only (i := 4) (d := some 82) rfl (MV.call (Lo := []) (Lr := [Asr.of 5 (Enc.int .u8) (z23.v) y21, Asr.of 5 (Enc.int .u8) (z15.v) d16, Asr.blk b12 98 [Seg.c (z15.v), Seg.c (.int .u64 d17), Seg.c (.int .i64 d18)], Asr.of 5 (Enc.int .u8) (z19.v) d20]) (F34.spec (z19) (d20) _ hc25) rfl Try.func34 rfl rfl rfl [] [0, 1, 2, 3] rfl rfl rfl ⟨(Drv.of 3 rfl), trivial⟩) rfl rfl rfl ?_
      rintro _ _ ⟨_, ⟨z26, rfl, rfl⟩, rfl⟩
      refine ⟨fun _ => ⟨[1, 2, 3, 4], rfl, rfl⟩, ?_⟩
      refine JT.grow [Asr.of 5 (Enc.int .u8) (z26.v) y24, Asr.of 5 (Enc.int .u8) (z23.v) y21, Asr.of 5 (Enc.int .u8) (z15.v) d16, Asr.blk b12 98 [Seg.c (z15.v), Seg.c (.int .u64 d17), Seg.c (.int .i64 d18)], Asr.of 5 (Enc.int .u8) (z19.v) d20] [1, 2, 3, 4] rfl rfl ?_
      refine JT.only (i := 5) (d := some 83) rfl (MV.ofQV (v := .string (strOfNums y24)) (QV.str (Rdg.of 0 rfl) Try.underlying26 Try.underlying5 Try.underlying9 rfl)) rfl rfl rfl ?_
      rintro _ _ ⟨rfl, rfl⟩
      refine ⟨fun _ => ⟨[0, 1, 2, 3, 4], rfl, rfl⟩, ?_⟩
      refine JT.only (i := 6) (d := some 84) rfl (MV.ofQV (v := .bool (decide ((strOfNums y21) = (strOfNums y24)))) (QV.eqlS rfl rfl)) rfl rfl rfl ?_
      rintro _ _ ⟨rfl, rfl⟩
      refine ⟨fun _ => ⟨[0, 1, 2, 3, 4], rfl, rfl⟩, ?_⟩
      rcases ite_inv hm with ⟨h27, hm⟩ | ⟨h27, hm⟩
      ·
        refine JT.only (i := 7) (d := some 85) rfl (MV.ofQV (v := .bool true) (QV.eq (QV.move rfl) (congrArg Value.bool (decide_eq_true h27)))) rfl rfl rfl ?_
        rintro _ _ ⟨rfl, rfl⟩
        refine ⟨fun _ => ⟨[0, 1, 2, 3, 4], rfl, rfl⟩, ?_⟩
        obtain ⟨y28, hc29, hm⟩ := bind_inv hm
        refine JT.only (i := 8) (d := some 86) rfl (MV.call (Lo := []) (Lr := [Asr.of 5 (Enc.int .u8) (z26.v) y24, Asr.of 5 (Enc.int .u8) (z23.v) y21, Asr.of 5 (Enc.int .u8) (z15.v) d16, Asr.blk b12 98 [Seg.c (z15.v), Seg.c (.int .u64 d17), Seg.c (.int .i64 d18)], Asr.of 5 (Enc.int .u8) (z19.v) d20]) (F26.spec _ hc29) rfl Try.func26 rfl rfl rfl [] [0, 1, 2, 3, 4] rfl rfl rfl trivial) rfl rfl rfl ?_
        rintro _ _ ⟨_, ⟨rfl, rfl⟩, rfl⟩
        refine ⟨fun _ => ⟨[0, 1, 2, 3, 4], rfl, rfl⟩, ?_⟩
        refine JT.only (i := 9) (d := some 87) rfl (MV.ofQV (v := .bool y28) (QV.pickT rfl rfl)) rfl rfl rfl ?_
        rintro _ _ ⟨rfl, rfl⟩
        refine ⟨fun _ => ⟨[0, 1, 2, 3, 4], rfl, rfl⟩, ?_⟩
        refine JT.only (i := 10) (d := some 2) rfl (MV.ofQV (v := .bool y28) (QV.assign rfl)) rfl rfl rfl ?_
        rintro _ _ ⟨rfl, rfl⟩
        refine ⟨fun _ => ⟨[0, 1, 2, 3, 4], rfl, rfl⟩, ?_⟩
        refine JT.nil ?_
        refine QJ.then_normal ?_
        refine JC.ret ?_
        obtain rfl := Option.some.inj hm
        exact QJ.body (vs := [.bool y28]) (.inl rfl) rfl (ResVs.cons (ResV.tmp rfl) ResVs.nil) [] rfl rfl (.inr trivial) ⟨rfl, rfl⟩
      ·
        refine JT.only (i := 7) (d := some 85) rfl (MV.ofQV (v := .bool false) (QV.eq (QV.move rfl) (congrArg Value.bool (decide_eq_false h27)))) rfl rfl rfl ?_
        rintro _ _ ⟨rfl, rfl⟩
        refine ⟨fun _ => ⟨[0, 1, 2, 3, 4], rfl, rfl⟩, ?_⟩
        refine JT.skipO (i := 8) (d := some 86) rfl rfl rfl rfl [0, 1, 2, 3, 4] rfl rfl ?_
        refine JT.only (i := 9) (d := some 87) rfl (MV.ofQV (v := .bool false) (QV.pickF rfl rfl)) rfl rfl rfl ?_
        rintro _ _ ⟨rfl, rfl⟩
        refine ⟨fun _ => ⟨[0, 1, 2, 3, 4], rfl, rfl⟩, ?_⟩
        refine JT.only (i := 10) (d := some 2) rfl (MV.ofQV (v := .bool false) (QV.assign rfl)) rfl rfl rfl ?_
        rintro _ _ ⟨rfl, rfl⟩
        refine ⟨fun _ => ⟨[0, 1, 2, 3, 4], rfl, rfl⟩, ?_⟩
        refine JT.nil ?_
        refine QJ.then_normal ?_
        refine JC.ret ?_
        obtain rfl := Option.some.inj hm
        exact QJ.body (vs := [.bool false]) (.inl rfl) rfl (ResVs.cons (ResV.tmp rfl) ResVs.nil) [] rfl rfl (.inr trivial) ⟨rfl, rfl⟩
    ·
      refine JC.block ?_
      obtain ⟨y44, hl45, hmo46⟩ := bind_inv hm
      refine JC.loop (F7.b1 x2) (fun x z => match x, z with | (d31, d32, d33, d35, d36), (z30, z34) => [(0, s1.v), (3, .pointer (some ⟨b12, 0, none⟩)), (4, z34.v), (5, .int .i64 d36)]) (fun x z => match x, z with | (d31, d32, d33, d35, d36), (z30, z34) => [Asr.vn (NE.pair (NE.flat (Enc.int .i64)) (NE.pair (NE.flat (Enc.int .i64)) (NE.pair (NE.flat (Enc.int .u32)) (NE.sl (Enc.int .u8))))) (s1.v) z3 x2, Asr.of 5 (Enc.int .u8) (z30.v) d31, Asr.blk b12 98 [Seg.c (z30.v), Seg.c (.int .u64 d32), Seg.c (.int .i64 d33)], Asr.of 5 (Enc.int .u8) (z34.v) d35]) (y10.1, y10.2.1, y10.2.2, ([] : List Int), (0 : Int)) (z13, z14) y44 hl45 [3, 2, 1, 0] (by exact ⟨rfl, rfl, rfl, rfl, trivial⟩) rfl rfl ?_
      rintro ⟨d31, d32, d33, d35, d36⟩ ⟨z30, z34⟩ s47 hm
      unfold F7.b1 at hm
      dsimp only at hm
      show JC _ _ _ [(0, s1.v), (3, .pointer (some ⟨b12, 0, none⟩)), (4, z34.v), (5, .int .i64 d36)] [Asr.vn (NE.pair (NE.flat (Enc.int .i64)) (NE.pair (NE.flat (Enc.int .i64)) (NE.pair (NE.flat (Enc.int .u32)) (NE.sl (Enc.int .u8))))) (s1.v) z3 x2, Asr.of 5 (Enc.int .u8) (z30.v) d31, Asr.blk b12 98 [Seg.c (z30.v), Seg.c (.int .u64 d32), Seg.c (.int .i64 d33)], Asr.of 5 (Enc.int .u8) (z34.v) d35] _ _
      refine JC.seq ?_
      refine JC.seq ?_
      refine JC.region ?_
      refine JL.val (v := .int .i64 d36) (QV.move rfl) rfl rfl rfl ?_
      refine JL.val (v := s1.v) (QV.move rfl) rfl rfl rfl ?_
      refine JL.val (v := .int .i64 ((x2).length : Int)) (QV.lenN (RdN.vn 0 rfl) Try.underlying38 rfl) rfl rfl rfl ?_
      refine JL.val (v := .bool (decide (d36 < ((x2).length : Int)))) (QV.lss rfl rfl) rfl rfl rfl ?_
      refine JL.nil ?_
      refine QJ.then_normal ?_
      rcases ite_inv hm with ⟨h48, hm⟩ | ⟨h48, hm⟩
      ·
        refine JC.condT' rfl (decide_eq_true h48) ?_
        refine JC.skip ?_
        refine QJ.then_normal ?_
        refine JC.seq ?_
        refine JC.block ?_
        refine JC.seq ?_
        refine JC.region ?_
        refine JL.val (v := s1.v) (QV.move rfl) rfl rfl rfl ?_
        refine JL.val (v := .int .i64 d36) (QV.move rfl) rfl rfl rfl ?_
        obtain ⟨h49, hm⟩ := guard_inv hm
        refine JL.val (v := .pointer (some (elA (s1.v) (Int.toNat d36 * ((NE.pair (NE.flat (Enc.int .i64)) (NE.pair (NE.flat (Enc.int .i64)) (NE.pair (NE.flat (Enc.int .u32)) (NE.sl (Enc.int .u8))))).E).sz)))) (QV.indexN (RdN.vn 0 rfl) Try.underlying38 tk_44 rfl rfl h49) rfl rfl rfl ?_
        refine JL.val (v := .agg #[.int .i64 (gd x2 d36).1, .int .i64 (gd x2 d36).2.1, .int .u32 (gd x2 d36).2.2.1, (gd z3 d36).2.2.2.v]) (QV.eq (QV.elNN (RdN.vn 0 rfl) tk_44 rfl h49) rfl) rfl rfl rfl ?_
        refine JL.ent (fun _ hs => hs.nil 5 (Enc.int .u8)) ?_
        refine JL.mv (d := some 6) (MV.alloc [Seg.c (.int .i64 (0 : Int)), Seg.c (.int .i64 (0 : Int)), Seg.c (.int .u32 (0 : Int)), Seg.c (SlV.nil.v)] z_44 rfl) rfl rfl rfl ?_
        rintro _ _ ⟨b50, rfl, rfl⟩
        refine JL.ent (fun _ hs => hs.derive (Drv.el (K := (NE.pair (NE.flat (Enc.int .i64)) (NE.pair (NE.flat (Enc.int .i64)) (NE.pair (NE.flat (Enc.int .u32)) (NE.sl (Enc.int .u8)))))) (A := Asr.vw (Enc.int .u8) ((gd z3 d36).2.2.2.v) (gd x2 d36).2.2.2) (Drv.vn 2 rfl) h49 (fun _ _ q => q.2.2.2))) ?_
        refine JL.mv (d := none) (MV.store (ss := [Seg.c (.int .i64 (0 : Int)), Seg.c (.int .i64 (0 : Int)), Seg.c (.int .u32 (0 : Int)), Seg.c (SlV.nil.v)]) 1 0 4 [Seg.c (.int .i64 (gd x2 d36).1), Seg.c (.int .i64 (gd x2 d36).2.1), Seg.c (.int .u32 (gd x2 d36).2.2.1), Seg.c ((gd z3 d36).2.2.2.v)] rfl tk_44 rfl rfl rfl rfl (fun w hs => ⟨rfl, one_c rfl, one_c rfl, one_c rfl, one_sl (Rdg.vw 0 rfl) hs, trivial⟩)) rfl rfl rfl ?_
        rintro _ _ ⟨rfl, rfl⟩
        refine JL.nil ?_
        refine QJ.then_normal ?_
        refine JC.seq ?_
        refine JC.seq ?_
        refine JC.region ?_
        refine JL.val (v := .pointer (some ⟨b50, 0, none⟩)) (QV.fieldB fo_44_0 rfl rfl) rfl rfl rfl ?_
        refine JL.val (v := .int .i64 (gd x2 d36).1) (QV.load1 (ss := [Seg.c (.int .i64 (gd x2 d36).1), Seg.c (.int .i64 (gd x2 d36).2.1), Seg.c (.int .u32 (gd x2 d36).2.2.1), Seg.c ((gd z3 d36).2.2.2.v)]) 1 0 rfl tk_3 rfl rfl rfl) rfl rfl rfl ?_
        refine JL.nil ?_
        refine QJ.then_normal ?_
        refine JC.block ?_
        refine JC.seq ?_
        refine JC.region ?_
        refine JL.val (v := .bool (decide ((gd x2 d36).1 = (0 : Int)))) (QV.eql rfl rfl) rfl rfl rfl ?_
        refine JL.val (v := .bool (decide ((gd x2 d36).1 = (0 : Int)))) (QV.assign rfl) rfl rfl rfl ?_
        refine JL.nil ?_
        refine QJ.then_normal ?_
        refine JC.cutK (Y := (List Int × Int × Int × List Int) × (SlV × SlV)) (fun y => match y with | ((d52, d53, d54, d56), _) => F7.j2 d36 (d52) (d53) (d54) (d56) = some s47) (fun y => match y with | ((d52, d53, d54, d56), (z51, z55)) => [(0, s1.v), (3, .pointer (some ⟨b12, 0, none⟩)), (4, z55.v), (5, .int .i64 d36)]) (fun y => match y with | ((d52, d53, d54, d56), (z51, z55)) => [Asr.vn (NE.pair (NE.flat (Enc.int .i64)) (NE.pair (NE.flat (Enc.int .i64)) (NE.pair (NE.flat (Enc.int .u32)) (NE.sl (Enc.int .u8))))) (s1.v) z3 x2, Asr.of 5 (Enc.int .u8) (z51.v) d52, Asr.blk b12 98 [Seg.c (z51.v), Seg.c (.int .u64 d53), Seg.c (.int .i64 d54)], Asr.of 5 (Enc.int .u8) (z55.v) d56]) ?_ ?_
        ·
          rintro ⟨⟨d52, d53, d54, d56⟩, ⟨z51, z55⟩⟩ hm
          unfold F7.j2 at hm
          show QJ _ _ [(0, s1.v), (3, .pointer (some ⟨b12, 0, none⟩)), (4, z55.v), (5, .int .i64 d36)] [Asr.vn (NE.pair (NE.flat (Enc.int .i64)) (NE.pair (NE.flat (Enc.int .i64)) (NE.pair (NE.flat (Enc.int .u32)) (NE.sl (Enc.int .u8))))) (s1.v) z3 x2, Asr.of 5 (Enc.int .u8) (z51.v) d52, Asr.blk b12 98 [Seg.c (z51.v), Seg.c (.int .u64 d53), Seg.c (.int .i64 d54)], Asr.of 5 (Enc.int .u8) (z55.v) d56] _ _
          refine QJ.block_normal ?_
          refine QJ.then_normal ?_
          refine JC.seq ?_
          refine JC.region ?_
          refine JL.val (v := .pointer (some ⟨b12, 0, none⟩)) (QV.move rfl) rfl rfl rfl ?_
          obtain ⟨y57, hc58, hm⟩ := bind_inv hm
          refine JL.mv (d := some 74) (MV.call (Lo := [Asr.blk b12 98 [Seg.c (z51.v), Seg.c (.int .u64 d53), Seg.c (.int .i64 d54)], Asr.of 5 (Enc.int .u8) (z51.v) d52]) (Lr := [Asr.vn (NE.pair (NE.flat (Enc.int .i64)) (NE.pair (NE.flat (Enc.int .i64)) (NE.pair (NE.flat (Enc.int .u32)) (NE.sl (Enc.int .u8))))) (s1.v) z3 x2, Asr.of 5 (Enc.int .u8) (z55.v) d56]) (F36.spec (b12) (z51) (d52) (d53) (d54) _ hc58) rfl Try.func36 rfl rfl rfl [2, 1] [0, 3] rfl rfl rfl trivial) rfl rfl rfl ?_
          rintro _ _ ⟨_, ⟨rfl, rfl⟩, rfl⟩
          refine JL.val (v := z55.v) (QV.move rfl) rfl rfl rfl ?_
          refine JL.val (v := .int .i64 ((d56).length : Int)) (QV.len (Rdg.of 3 rfl) Try.underlying26 rfl) rfl rfl rfl ?_
          refine JL.val (v := .bool (!(decide (y57 = ((d56).length : Int))))) (QV.neq rfl rfl) rfl rfl rfl ?_
          refine JL.nil ?_
          refine QJ.then_normal ?_
          rcases ite_inv hm with ⟨h59, hm⟩ | ⟨h59, hm⟩
          ·
            refine JC.condF' rfl (congrArg Bool.not (decide_eq_true h59)) ?_
            refine JC.skip ?_
            refine QJ.block_normal ?_
            refine QJ.then_normal ?_
            refine JC.region ?_
            refine JL.val (v := .int .i64 d36) (QV.move rfl) rfl rfl rfl ?_
            refine JL.val (v := .int .i64 (IntKind.wrap .i64 (d36 + (1 : Int)))) (QV.add rfl rfl) rfl rfl rfl ?_
            refine JL.val (v := .int .i64 (IntKind.wrap .i64 (d36 + (1 : Int)))) (QV.assign rfl) rfl rfl rfl ?_
            refine JL.nil ?_
            obtain rfl := Option.some.inj hm
            exact QJ.round_on (d52, d53, d54, d56, (IntKind.wrap .i64 (d36 + (1 : Int)))) (z51, z55) [2, 0, 1, 3] (by exact ⟨rfl, rfl, rfl, rfl, trivial⟩) rfl rfl
          ·
            refine JC.condT' rfl (congrArg Bool.not (decide_eq_false h59)) ?_
            refine JC.seq ?_
            refine JC.region ?_
            refine JL.val (v := .bool false) (QV.assign rfl) rfl rfl rfl ?_
            refine JL.nil ?_
            refine QJ.then_normal ?_
            refine JC.ret ?_
            refine QJ.block_ret ?_
            refine QJ.then_ret ?_
            obtain rfl := Option.some.inj hm
            refine QJ.round_ret (fun hy => ?_)
            subst hy
            refine QJ.block_ret ?_
            refine QJ.cut_ret ?_
            refine QJ.then_ret ?_
            obtain rfl := Option.some.inj hmo46
            exact QJ.body (vs := [.bool false]) (.inl rfl) rfl (ResVs.cons (ResV.tmp rfl) ResVs.nil) [] rfl rfl (.inr trivial) ⟨rfl, rfl⟩
        ·
          rcases ite_inv hm with ⟨h60, hm⟩ | ⟨h60, hm⟩
          ·
            refine JC.condT' rfl (decide_eq_true h60) ?_
            refine JC.seq ?_
            refine JC.region ?_
            refine JL.val (v := .pointer (some ⟨b12, 0, none⟩)) (QV.move rfl) rfl rfl rfl ?_
            refine JL.val (v := .pointer (some ⟨b50, 2, none⟩)) (QV.fieldB fo_44_2 rfl rfl) rfl rfl rfl ?_
            refine JL.val (v := .int .u32 (gd x2 d36).2.2.1) (QV.load1 (ss := [Seg.c (.int .i64 (gd x2 d36).1), Seg.c (.int .i64 (gd x2 d36).2.1), Seg.c (.int .u32 (gd x2 d36).2.2.1), Seg.c ((gd z3 d36).2.2.2.v)]) 1 2 rfl tk_42 rfl rfl rfl) rfl rfl rfl ?_
            refine JL.val (v := .pointer (some ⟨b50, 1, none⟩)) (QV.fieldB fo_44_1 rfl rfl) rfl rfl rfl ?_
            refine JL.val (v := .int .i64 (gd x2 d36).2.1) (QV.load1 (ss := [Seg.c (.int .i64 (gd x2 d36).1), Seg.c (.int .i64 (gd x2 d36).2.1), Seg.c (.int .u32 (gd x2 d36).2.2.1), Seg.c ((gd z3 d36).2.2.2.v)]) 1 1 rfl tk_3 rfl rfl rfl) rfl rfl rfl ?_
            obtain ⟨y61, hc62, hm⟩ := bind_inv hm
            refine JL.mv (d := some 43) (MV.call (Lo := [Asr.blk b12 98 [Seg.c (z30.v), Seg.c (.int .u64 d32), Seg.c (.int .i64 d33)], Asr.of 5 (Enc.int .u8) (z30.v) d31]) (Lr := [Asr.vw (Enc.int .u8) ((gd z3 d36).2.2.2.v) (gd x2 d36).2.2.2, Asr.blk b50 44 [Seg.c (.int .i64 (gd x2 d36).1), Seg.c (.int .i64 (gd x2 d36).2.1), Seg.c (.int .u32 (gd x2 d36).2.2.1), Seg.c ((gd z3 d36).2.2.2.v)], Asr.of 5 (Enc.int .u8) (SlV.nil.v) ([] : List Int), Asr.vn (NE.pair (NE.flat (Enc.int .i64)) (NE.pair (NE.flat (Enc.int .i64)) (NE.pair (NE.flat (Enc.int .u32)) (NE.sl (Enc.int .u8))))) (s1.v) z3 x2, Asr.of 5 (Enc.int .u8) (z34.v) d35]) (F28.spec (b12) (z30) (d31) (d32) (d33) ((gd x2 d36).2.2.1) ((gd x2 d36).2.1) _ hc62) rfl Try.func28 rfl rfl rfl [5, 4] [0, 1, 2, 3, 6] rfl rfl rfl trivial) rfl rfl rfl ?_
            rintro _ _ ⟨_, ⟨z63, rfl, rfl⟩, rfl⟩
            refine JL.nil ?_
            refine QJ.then_normal ?_
            refine JC.region ?_
            refine JL.val (v := z34.v) (QV.move rfl) rfl rfl rfl ?_
            refine JL.val (v := .pointer (some ⟨b50, 2, none⟩)) (QV.fieldB fo_44_2 rfl rfl) rfl rfl rfl ?_
            refine JL.val (v := .int .u32 (gd x2 d36).2.2.1) (QV.load1 (ss := [Seg.c (.int .i64 (gd x2 d36).1), Seg.c (.int .i64 (gd x2 d36).2.1), Seg.c (.int .u32 (gd x2 d36).2.2.1), Seg.c ((gd z3 d36).2.2.2.v)]) 3 2 rfl tk_42 rfl rfl rfl) rfl rfl rfl ?_
            refine JL.val (v := .pointer (some ⟨b50, 1, none⟩)) (QV.fieldB fo_44_1 rfl rfl) rfl rfl rfl ?_
            refine JL.val (v := .int .i64 (gd x2 d36).2.1) (QV.load1 (ss := [Seg.c (.int .i64 (gd x2 d36).1), Seg.c (.int .i64 (gd x2 d36).2.1), Seg.c (.int .u32 (gd x2 d36).2.2.1), Seg.c ((gd z3 d36).2.2.2.v)]) 3 1 rfl tk_3 rfl rfl rfl) rfl rfl rfl ?_
            obtain ⟨y64, hc65, hm⟩ := bind_inv hm
            refine JL.mv (d := some 49) (MV.call (Lo := []) (Lr := [Asr.of 5 (Enc.int .u8) (z63.v) y61.1, Asr.blk b12 98 [Seg.c (z63.v), Seg.c (.int .u64 y61.2.1), Seg.c (.int .i64 y61.2.2)], Asr.vw (Enc.int .u8) ((gd z3 d36).2.2.2.v) (gd x2 d36).2.2.2, Asr.blk b50 44 [Seg.c (.int .i64 (gd x2 d36).1), Seg.c (.int .i64 (gd x2 d36).2.1), Seg.c (.int .u32 (gd x2 d36).2.2.1), Seg.c ((gd z3 d36).2.2.2.v)], Asr.of 5 (Enc.int .u8) (SlV.nil.v) ([] : List Int), Asr.vn (NE.pair (NE.flat (Enc.int .i64)) (NE.pair (NE.flat (Enc.int .i64)) (NE.pair (NE.flat (Enc.int .u32)) (NE.sl (Enc.int .u8))))) (s1.v) z3 x2, Asr.of 5 (Enc.int .u8) (z34.v) d35]) (F29.spec ((gd x2 d36).2.2.1) ((gd x2 d36).2.1) _ hc65) rfl Try.func29 rfl rfl rfl [] [0, 1, 2, 3, 4, 5, 6] rfl rfl rfl trivial) rfl rfl rfl ?_
            rintro _ _ ⟨_, ⟨z66, rfl, rfl⟩, rfl⟩
            obtain ⟨h67, hm⟩ := guard_inv hm
            refine JL.mv (d := some 50) (MV.append 7 rfl (Rdg.of 0 rfl) Try.underlying26 zi_5 rfl (by decide) rfl rfl h67) rfl rfl rfl ?_
            rintro _ _ ⟨z68, rfl, rfl⟩
            refine JL.val (v := z68.v) (QV.assign rfl) rfl rfl rfl ?_
            refine JL.nil ?_
            exact QJ.cut_normal ((y61.1, y61.2.1, y61.2.2, (d35 ++ y64)), (z63, z68)) hm [6, 1, 2, 7] (by exact ⟨rfl, rfl, rfl, rfl, trivial⟩) rfl rfl
          ·
            refine JC.condF' rfl (decide_eq_false h60) ?_
            refine JC.seq ?_
            refine JC.region ?_
            refine JL.val (v := .bool (decide ((gd x2 d36).1 = (1 : Int)))) (QV.eql rfl rfl) rfl rfl rfl ?_
            refine JL.val (v := .bool (decide ((gd x2 d36).1 = (1 : Int)))) (QV.assign rfl) rfl rfl rfl ?_
            refine JL.nil ?_
            refine QJ.then_normal ?_
            refine JC.cutK (Y := (List Int × Int × Int × List Int) × (SlV × SlV)) (fun y => match y with | ((d70, d71, d72, d74), _) => F7.j3 d36 (d70) (d71) (d72) (d74) = some s47) (fun y => match y with | ((d70, d71, d72, d74), (z69, z73)) => [(0, s1.v), (3, .pointer (some ⟨b12, 0, none⟩)), (4, z73.v), (5, .int .i64 d36)]) (fun y => match y with | ((d70, d71, d72, d74), (z69, z73)) => [Asr.vn (NE.pair (NE.flat (Enc.int .i64)) (NE.pair (NE.flat (Enc.int .i64)) (NE.pair (NE.flat (Enc.int .u32)) (NE.sl (Enc.int .u8))))) (s1.v) z3 x2, Asr.of 5 (Enc.int .u8) (z69.v) d70, Asr.blk b12 98 [Seg.c (z69.v), Seg.c (.int .u64 d71), Seg.c (.int .i64 d72)], Asr.of 5 (Enc.int .u8) (z73.v) d74]) ?_ ?_
            ·
              rintro ⟨⟨d70, d71, d72, d74⟩, ⟨z69, z73⟩⟩ hm
              unfold F7.j3 at hm
              show QJ _ _ [(0, s1.v), (3, .pointer (some ⟨b12, 0, none⟩)), (4, z73.v), (5, .int .i64 d36)] [Asr.vn (NE.pair (NE.flat (Enc.int .i64)) (NE.pair (NE.flat (Enc.int .i64)) (NE.pair (NE.flat (Enc.int .u32)) (NE.sl (Enc.int .u8))))) (s1.v) z3 x2, Asr.of 5 (Enc.int .u8) (z69.v) d70, Asr.blk b12 98 [Seg.c (z69.v), Seg.c (.int .u64 d71), Seg.c (.int .i64 d72)], Asr.of 5 (Enc.int .u8) (z73.v) d74] _ _
              exact QJ.cut_normal ((d70, d71, d72, d74), (z69, z73)) hm [0, 1, 2, 3] (by exact ⟨rfl, rfl, rfl, rfl, trivial⟩) rfl rfl
            ·
              rcases ite_inv hm with ⟨h75, hm⟩ | ⟨h75, hm⟩
              ·
                refine JC.condT' rfl (decide_eq_true h75) ?_
                refine JC.seq ?_
                refine JC.region ?_
                refine JL.val (v := .pointer (some ⟨b12, 0, none⟩)) (QV.move rfl) rfl rfl rfl ?_
                refine JL.val (v := .pointer (some ⟨b50, 2, none⟩)) (QV.fieldB fo_44_2 rfl rfl) rfl rfl rfl ?_
                refine JL.val (v := .int .u32 (gd x2 d36).2.2.1) (QV.load1 (ss := [Seg.c (.int .i64 (gd x2 d36).1), Seg.c (.int .i64 (gd x2 d36).2.1), Seg.c (.int .u32 (gd x2 d36).2.2.1), Seg.c ((gd z3 d36).2.2.2.v)]) 1 2 rfl tk_42 rfl rfl rfl) rfl rfl rfl ?_
                refine JL.val (v := .pointer (some ⟨b50, 1, none⟩)) (QV.fieldB fo_44_1 rfl rfl) rfl rfl rfl ?_
                refine JL.val (v := .int .i64 (gd x2 d36).2.1) (QV.load1 (ss := [Seg.c (.int .i64 (gd x2 d36).1), Seg.c (.int .i64 (gd x2 d36).2.1), Seg.c (.int .u32 (gd x2 d36).2.2.1), Seg.c ((gd z3 d36).2.2.2.v)]) 1 1 rfl tk_3 rfl rfl rfl) rfl rfl rfl ?_
                obtain ⟨y76, hc77, hm⟩ := bind_inv hm
                refine JL.mv (d := some 58) (MV.call (Lo := [Asr.blk b12 98 [Seg.c (z30.v), Seg.c (.int .u64 d32), Seg.c (.int .i64 d33)], Asr.of 5 (Enc.int .u8) (z30.v) d31]) (Lr := [Asr.vw (Enc.int .u8) ((gd z3 d36).2.2.2.v) (gd x2 d36).2.2.2, Asr.blk b50 44 [Seg.c (.int .i64 (gd x2 d36).1), Seg.c (.int .i64 (gd x2 d36).2.1), Seg.c (.int .u32 (gd x2 d36).2.2.1), Seg.c ((gd z3 d36).2.2.2.v)], Asr.of 5 (Enc.int .u8) (SlV.nil.v) ([] : List Int), Asr.vn (NE.pair (NE.flat (Enc.int .i64)) (NE.pair (NE.flat (Enc.int .i64)) (NE.pair (NE.flat (Enc.int .u32)) (NE.sl (Enc.int .u8))))) (s1.v) z3 x2, Asr.of 5 (Enc.int .u8) (z34.v) d35]) (F30.spec (b12) (z30) (d31) (d32) (d33) ((gd x2 d36).2.2.1) ((gd x2 d36).2.1) _ hc77) rfl Try.func30 rfl rfl rfl [5, 4] [0, 1, 2, 3, 6] rfl rfl rfl trivial) rfl rfl rfl ?_
                rintro _ _ ⟨_, ⟨z78, rfl, rfl⟩, rfl⟩
                refine JL.nil ?_
                refine QJ.then_normal ?_
                refine JC.region ?_
                refine JL.val (v := z34.v) (QV.move rfl) rfl rfl rfl ?_
                refine JL.val (v := .pointer (some ⟨b50, 2, none⟩)) (QV.fieldB fo_44_2 rfl rfl) rfl rfl rfl ?_
                refine JL.val (v := .int .u32 (gd x2 d36).2.2.1) (QV.load1 (ss := [Seg.c (.int .i64 (gd x2 d36).1), Seg.c (.int .i64 (gd x2 d36).2.1), Seg.c (.int .u32 (gd x2 d36).2.2.1), Seg.c ((gd z3 d36).2.2.2.v)]) 3 2 rfl tk_42 rfl rfl rfl) rfl rfl rfl ?_
                refine JL.val (v := .pointer (some ⟨b50, 1, none⟩)) (QV.fieldB fo_44_1 rfl rfl) rfl rfl rfl ?_
                refine JL.val (v := .int .i64 (gd x2 d36).2.1) (QV.load1 (ss := [Seg.c (.int .i64 (gd x2 d36).1), Seg.c (.int .i64 (gd x2 d36).2.1), Seg.c (.int .u32 (gd x2 d36).2.2.1), Seg.c ((gd z3 d36).2.2.2.v)]) 3 1 rfl tk_3 rfl rfl rfl) rfl rfl rfl ?_
                obtain ⟨y79, hc80, hm⟩ := bind_inv hm
                refine JL.mv (d := some 64) (MV.call (Lo := []) (Lr := [Asr.of 5 (Enc.int .u8) (z78.v) y76.1, Asr.blk b12 98 [Seg.c (z78.v), Seg.c (.int .u64 y76.2.1), Seg.c (.int .i64 y76.2.2)], Asr.vw (Enc.int .u8) ((gd z3 d36).2.2.2.v) (gd x2 d36).2.2.2, Asr.blk b50 44 [Seg.c (.int .i64 (gd x2 d36).1), Seg.c (.int .i64 (gd x2 d36).2.1), Seg.c (.int .u32 (gd x2 d36).2.2.1), Seg.c ((gd z3 d36).2.2.2.v)], Asr.of 5 (Enc.int .u8) (SlV.nil.v) ([] : List Int), Asr.vn (NE.pair (NE.flat (Enc.int .i64)) (NE.pair (NE.flat (Enc.int .i64)) (NE.pair (NE.flat (Enc.int .u32)) (NE.sl (Enc.int .u8))))) (s1.v) z3 x2, Asr.of 5 (Enc.int .u8) (z34.v) d35]) (F31.spec ((gd x2 d36).2.2.1) ((gd x2 d36).2.1) _ hc80) rfl Try.func31 rfl rfl rfl [] [0, 1, 2, 3, 4, 5, 6] rfl rfl rfl trivial) rfl rfl rfl ?_
                rintro _ _ ⟨_, ⟨z81, rfl, rfl⟩, rfl⟩
                obtain ⟨h82, hm⟩ := guard_inv hm
                refine JL.mv (d := some 65) (MV.append 7 rfl (Rdg.of 0 rfl) Try.underlying26 zi_5 rfl (by decide) rfl rfl h82) rfl rfl rfl ?_
                rintro _ _ ⟨z83, rfl, rfl⟩
                refine JL.val (v := z83.v) (QV.assign rfl) rfl rfl rfl ?_
                refine JL.nil ?_
                exact QJ.cut_normal ((y76.1, y76.2.1, y76.2.2, (d35 ++ y79)), (z78, z83)) hm [6, 1, 2, 7] (by exact ⟨rfl, rfl, rfl, rfl, trivial⟩) rfl rfl
              ·
                refine JC.condF' rfl (decide_eq_false h75) ?_
                refine JC.seq ?_
                refine JC.region ?_
                refine JL.val (v := .bool (decide ((gd x2 d36).1 = (2 : Int)))) (QV.eql rfl rfl) rfl rfl rfl ?_
                refine JL.val (v := .bool (decide ((gd x2 d36).1 = (2 : Int)))) (QV.assign rfl) rfl rfl rfl ?_
                refine JL.nil ?_
                refine QJ.then_normal ?_
                refine JC.cutK (Y := (List Int × Int × Int × List Int) × (SlV × SlV)) (fun y => match y with | ((d85, d86, d87, d89), _) => F7.j4 d36 (d85) (d86) (d87) (d89) = some s47) (fun y => match y with | ((d85, d86, d87, d89), (z84, z88)) => [(0, s1.v), (3, .pointer (some ⟨b12, 0, none⟩)), (4, z88.v), (5, .int .i64 d36)]) (fun y => match y with | ((d85, d86, d87, d89), (z84, z88)) => [Asr.vn (NE.pair (NE.flat (Enc.int .i64)) (NE.pair (NE.flat (Enc.int .i64)) (NE.pair (NE.flat (Enc.int .u32)) (NE.sl (Enc.int .u8))))) (s1.v) z3 x2, Asr.of 5 (Enc.int .u8) (z84.v) d85, Asr.blk b12 98 [Seg.c (z84.v), Seg.c (.int .u64 d86), Seg.c (.int .i64 d87)], Asr.of 5 (Enc.int .u8) (z88.v) d89]) ?_ ?_
                ·
                  rintro ⟨⟨d85, d86, d87, d89⟩, ⟨z84, z88⟩⟩ hm
                  unfold F7.j4 at hm
                  show QJ _ _ [(0, s1.v), (3, .pointer (some ⟨b12, 0, none⟩)), (4, z88.v), (5, .int .i64 d36)] [Asr.vn (NE.pair (NE.flat (Enc.int .i64)) (NE.pair (NE.flat (Enc.int .i64)) (NE.pair (NE.flat (Enc.int .u32)) (NE.sl (Enc.int .u8))))) (s1.v) z3 x2, Asr.of 5 (Enc.int .u8) (z84.v) d85, Asr.blk b12 98 [Seg.c (z84.v), Seg.c (.int .u64 d86), Seg.c (.int .i64 d87)], Asr.of 5 (Enc.int .u8) (z88.v) d89] _ _
                  exact QJ.cut_normal ((d85, d86, d87, d89), (z84, z88)) hm [0, 1, 2, 3] (by exact ⟨rfl, rfl, rfl, rfl, trivial⟩) rfl rfl
                ·
                  rcases ite_inv hm with ⟨h90, hm⟩ | ⟨h90, hm⟩
                  ·
                    refine JC.condT' rfl (decide_eq_true h90) ?_
                    refine JC.seq ?_
                    refine JC.region ?_
                    refine JL.val (v := .pointer (some ⟨b12, 0, none⟩)) (QV.move rfl) rfl rfl rfl ?_
                    obtain ⟨y91, hc92, hm⟩ := bind_inv hm
                    refine JL.mv (d := some 69) (MV.call (Lo := [Asr.blk b12 98 [Seg.c (z30.v), Seg.c (.int .u64 d32), Seg.c (.int .i64 d33)], Asr.of 5 (Enc.int .u8) (z30.v) d31]) (Lr := [Asr.vw (Enc.int .u8) ((gd z3 d36).2.2.2.v) (gd x2 d36).2.2.2, Asr.blk b50 44 [Seg.c (.int .i64 (gd x2 d36).1), Seg.c (.int .i64 (gd x2 d36).2.1), Seg.c (.int .u32 (gd x2 d36).2.2.1), Seg.c ((gd z3 d36).2.2.2.v)], Asr.of 5 (Enc.int .u8) (SlV.nil.v) ([] : List Int), Asr.vn (NE.pair (NE.flat (Enc.int .i64)) (NE.pair (NE.flat (Enc.int .i64)) (NE.pair (NE.flat (Enc.int .u32)) (NE.sl (Enc.int .u8))))) (s1.v) z3 x2, Asr.of 5 (Enc.int .u8) (z34.v) d35]) (F32.spec (b12) (z30) (d31) (d32) (d33) _ hc92) rfl Try.func32 rfl rfl rfl [5, 4] [0, 1, 2, 3, 6] rfl rfl rfl trivial) rfl rfl rfl ?_
                    rintro _ _ ⟨_, ⟨z93, rfl, rfl⟩, rfl⟩
                    refine JL.nil ?_
                    refine QJ.then_normal ?_
                    refine JC.region ?_
                    refine JL.val (v := z34.v) (QV.move rfl) rfl rfl rfl ?_
                    obtain ⟨y94, hc95, hm⟩ := bind_inv hm
                    refine JL.mv (d := some 71) (MV.call (Lo := []) (Lr := [Asr.of 5 (Enc.int .u8) (z93.v) y91.1, Asr.blk b12 98 [Seg.c (z93.v), Seg.c (.int .u64 y91.2.1), Seg.c (.int .i64 y91.2.2)], Asr.vw (Enc.int .u8) ((gd z3 d36).2.2.2.v) (gd x2 d36).2.2.2, Asr.blk b50 44 [Seg.c (.int .i64 (gd x2 d36).1), Seg.c (.int .i64 (gd x2 d36).2.1), Seg.c (.int .u32 (gd x2 d36).2.2.1), Seg.c ((gd z3 d36).2.2.2.v)], Asr.of 5 (Enc.int .u8) (SlV.nil.v) ([] : List Int), Asr.vn (NE.pair (NE.flat (Enc.int .i64)) (NE.pair (NE.flat (Enc.int .i64)) (NE.pair (NE.flat (Enc.int .u32)) (NE.sl (Enc.int .u8))))) (s1.v) z3 x2, Asr.of 5 (Enc.int .u8) (z34.v) d35]) (F34.spec (z34) (d35) _ hc95) rfl Try.func34 rfl rfl rfl [] [0, 1, 2, 3, 4, 5, 6] rfl rfl rfl ⟨(Drv.of 6 rfl), trivial⟩) rfl rfl rfl ?_
                    rintro _ _ ⟨_, ⟨z96, rfl, rfl⟩, rfl⟩
                    obtain ⟨y97, hc98, hm⟩ := bind_inv hm
                    refine JL.mv (d := some 72) (MV.call (Lo := []) (Lr := [Asr.of 5 (Enc.int .u8) (z96.v) y94, Asr.of 5 (Enc.int .u8) (z93.v) y91.1, Asr.blk b12 98 [Seg.c (z93.v), Seg.c (.int .u64 y91.2.1), Seg.c (.int .i64 y91.2.2)], Asr.vw (Enc.int .u8) ((gd z3 d36).2.2.2.v) (gd x2 d36).2.2.2, Asr.blk b50 44 [Seg.c (.int .i64 (gd x2 d36).1), Seg.c (.int .i64 (gd x2 d36).2.1), Seg.c (.int .u32 (gd x2 d36).2.2.1), Seg.c ((gd z3 d36).2.2.2.v)], Asr.of 5 (Enc.int .u8) (SlV.nil.v) ([] : List Int), Asr.vn (NE.pair (NE.flat (Enc.int .i64)) (NE.pair (NE.flat (Enc.int .i64)) (NE.pair (NE.flat (Enc.int .u32)) (NE.sl (Enc.int .u8))))) (s1.v) z3 x2, Asr.of 5 (Enc.int .u8) (z34.v) d35]) (F33.spec (z96) (y94) _ hc98) rfl Try.func33 rfl rfl rfl [] [0, 1, 2, 3, 4, 5, 6, 7] rfl rfl rfl ⟨(Drv.of 0 rfl), trivial⟩) rfl rfl rfl ?_
                    rintro _ _ ⟨_, ⟨z99, rfl, rfl⟩, rfl⟩
                    refine JL.val (v := z99.v) (QV.assign rfl) rfl rfl rfl ?_
                    refine JL.nil ?_
                    exact QJ.cut_normal ((y91.1, y91.2.1, y91.2.2, y97), (z93, z99)) hm [7, 2, 3, 0] (by exact ⟨rfl, rfl, rfl, rfl, trivial⟩) rfl rfl
                  ·
                    refine JC.condF' rfl (decide_eq_false h90) ?_
                    refine JC.seq ?_
                    refine JC.region ?_
                    refine JL.val (v := .pointer (some ⟨b12, 0, none⟩)) (QV.move rfl) rfl rfl rfl ?_
                    refine JL.val (v := .pointer (some ⟨b50, 3, none⟩)) (QV.fieldB fo_44_3 rfl rfl) rfl rfl rfl ?_
                    refine JL.val (v := (gd z3 d36).2.2.2.v) (QV.load1 (ss := [Seg.c (.int .i64 (gd x2 d36).1), Seg.c (.int .i64 (gd x2 d36).2.1), Seg.c (.int .u32 (gd x2 d36).2.2.1), Seg.c ((gd z3 d36).2.2.2.v)]) 1 3 rfl tk_26 rfl rfl rfl) rfl rfl rfl ?_
                    obtain ⟨y100, hc101, hm⟩ := bind_inv hm
                    refine JL.mv (d := some 27) (MV.call (Lo := [Asr.blk b12 98 [Seg.c (z30.v), Seg.c (.int .u64 d32), Seg.c (.int .i64 d33)], Asr.of 5 (Enc.int .u8) (z30.v) d31]) (Lr := [Asr.vw (Enc.int .u8) ((gd z3 d36).2.2.2.v) (gd x2 d36).2.2.2, Asr.blk b50 44 [Seg.c (.int .i64 (gd x2 d36).1), Seg.c (.int .i64 (gd x2 d36).2.1), Seg.c (.int .u32 (gd x2 d36).2.2.1), Seg.c ((gd z3 d36).2.2.2.v)], Asr.of 5 (Enc.int .u8) (SlV.nil.v) ([] : List Int), Asr.vn (NE.pair (NE.flat (Enc.int .i64)) (NE.pair (NE.flat (Enc.int .i64)) (NE.pair (NE.flat (Enc.int .u32)) (NE.sl (Enc.int .u8))))) (s1.v) z3 x2, Asr.of 5 (Enc.int .u8) (z34.v) d35]) (F35.spec (b12) (z30) ((gd z3 d36).2.2.2) (d31) (d32) (d33) ((gd x2 d36).2.2.2) _ hc101) rfl Try.func35 rfl rfl rfl [5, 4] [0, 1, 2, 3, 6] rfl rfl rfl ⟨(Drv.vw 0 rfl), trivial⟩) rfl rfl rfl ?_
                    rintro _ _ ⟨_, ⟨z102, rfl, rfl⟩, rfl⟩
                    refine JL.nil ?_
                    refine QJ.then_normal ?_
                    refine JC.seq ?_
                    refine JC.region ?_
                    refine JL.val (v := z34.v) (QV.move rfl) rfl rfl rfl ?_
                    obtain ⟨y103, hc104, hm⟩ := bind_inv hm
                    refine JL.mv (d := some 29) (MV.call (Lo := []) (Lr := [Asr.of 5 (Enc.int .u8) (z102.v) y100.1, Asr.blk b12 98 [Seg.c (z102.v), Seg.c (.int .u64 y100.2.1), Seg.c (.int .i64 y100.2.2)], Asr.vw (Enc.int .u8) ((gd z3 d36).2.2.2.v) (gd x2 d36).2.2.2, Asr.blk b50 44 [Seg.c (.int .i64 (gd x2 d36).1), Seg.c (.int .i64 (gd x2 d36).2.1), Seg.c (.int .u32 (gd x2 d36).2.2.1), Seg.c ((gd z3 d36).2.2.2.v)], Asr.of 5 (Enc.int .u8) (SlV.nil.v) ([] : List Int), Asr.vn (NE.pair (NE.flat (Enc.int .i64)) (NE.pair (NE.flat (Enc.int .i64)) (NE.pair (NE.flat (Enc.int .u32)) (NE.sl (Enc.int .u8))))) (s1.v) z3 x2, Asr.of 5 (Enc.int .u8) (z34.v) d35]) (F34.spec (z34) (d35) _ hc104) rfl Try.func34 rfl rfl rfl [] [0, 1, 2, 3, 4, 5, 6] rfl rfl rfl ⟨(Drv.of 6 rfl), trivial⟩) rfl rfl rfl ?_
                    rintro _ _ ⟨_, ⟨z105, rfl, rfl⟩, rfl⟩
                    obtain ⟨y106, hc107, hm⟩ := bind_inv hm
                    refine JL.mv (d := some 30) (MV.call (Lo := []) (Lr := [Asr.of 5 (Enc.int .u8) (z105.v) y103, Asr.of 5 (Enc.int .u8) (z102.v) y100.1, Asr.blk b12 98 [Seg.c (z102.v), Seg.c (.int .u64 y100.2.1), Seg.c (.int .i64 y100.2.2)], Asr.vw (Enc.int .u8) ((gd z3 d36).2.2.2.v) (gd x2 d36).2.2.2, Asr.blk b50 44 [Seg.c (.int .i64 (gd x2 d36).1), Seg.c (.int .i64 (gd x2 d36).2.1), Seg.c (.int .u32 (gd x2 d36).2.2.1), Seg.c ((gd z3 d36).2.2.2.v)], Asr.of 5 (Enc.int .u8) (SlV.nil.v) ([] : List Int), Asr.vn (NE.pair (NE.flat (Enc.int .i64)) (NE.pair (NE.flat (Enc.int .i64)) (NE.pair (NE.flat (Enc.int .u32)) (NE.sl (Enc.int .u8))))) (s1.v) z3 x2, Asr.of 5 (Enc.int .u8) (z34.v) d35]) (F33.spec (z105) (y103) _ hc107) rfl Try.func33 rfl rfl rfl [] [0, 1, 2, 3, 4, 5, 6, 7] rfl rfl rfl ⟨(Drv.of 0 rfl), trivial⟩) rfl rfl rfl ?_
                    rintro _ _ ⟨_, ⟨z108, rfl, rfl⟩, rfl⟩
                    refine JL.val (v := z108.v) (QV.assign rfl) rfl rfl rfl ?_
                    refine JL.nil ?_
                    refine QJ.then_normal ?_
                    refine JC.region ?_
                    refine JL.val (v := z108.v) (QV.move rfl) rfl rfl rfl ?_
                    refine JL.val (v := .pointer (some ⟨b50, 3, none⟩)) (QV.fieldB fo_44_3 rfl rfl) rfl rfl rfl ?_
                    refine JL.val (v := (gd z3 d36).2.2.2.v) (QV.load1 (ss := [Seg.c (.int .i64 (gd x2 d36).1), Seg.c (.int .i64 (gd x2 d36).2.1), Seg.c (.int .u32 (gd x2 d36).2.2.1), Seg.c ((gd z3 d36).2.2.2.v)]) 5 3 rfl tk_26 rfl rfl rfl) rfl rfl rfl ?_
                    obtain ⟨y109, hc110, hm⟩ := bind_inv hm
                    refine JL.mv (d := some 34) (MV.call (Lo := []) (Lr := [Asr.of 5 (Enc.int .u8) (z108.v) y106, Asr.of 5 (Enc.int .u8) (z105.v) y103, Asr.of 5 (Enc.int .u8) (z102.v) y100.1, Asr.blk b12 98 [Seg.c (z102.v), Seg.c (.int .u64 y100.2.1), Seg.c (.int .i64 y100.2.2)], Asr.vw (Enc.int .u8) ((gd z3 d36).2.2.2.v) (gd x2 d36).2.2.2, Asr.blk b50 44 [Seg.c (.int .i64 (gd x2 d36).1), Seg.c (.int .i64 (gd x2 d36).2.1), Seg.c (.int .u32 (gd x2 d36).2.2.1), Seg.c ((gd z3 d36).2.2.2.v)], Asr.of 5 (Enc.int .u8) (SlV.nil.v) ([] : List Int), Asr.vn (NE.pair (NE.flat (Enc.int .i64)) (NE.pair (NE.flat (Enc.int .i64)) (NE.pair (NE.flat (Enc.int .u32)) (NE.sl (Enc.int .u8))))) (s1.v) z3 x2, Asr.of 5 (Enc.int .u8) (z34.v) d35]) (F33.spec ((gd z3 d36).2.2.2) ((gd x2 d36).2.2.2) _ hc110) rfl Try.func33 rfl rfl rfl [] [0, 1, 2, 3, 4, 5, 6, 7, 8] rfl rfl rfl ⟨(Drv.vw 4 rfl), trivial⟩) rfl rfl rfl ?_
                    rintro _ _ ⟨_, ⟨z111, rfl, rfl⟩, rfl⟩
                    obtain ⟨h112, hm⟩ := guard_inv hm
                    refine JL.mv (d := some 35) (MV.append 1 rfl (Rdg.of 0 rfl) Try.underlying26 zi_5 rfl (by decide) rfl rfl h112) rfl rfl rfl ?_
                    rintro _ _ ⟨z113, rfl, rfl⟩
                    refine JL.val (v := z113.v) (QV.assign rfl) rfl rfl rfl ?_
                    refine JL.nil ?_
                    exact QJ.cut_normal ((y100.1, y100.2.1, y100.2.2, (y106 ++ y109)), (z102, z113)) hm [8, 3, 4, 1] (by exact ⟨rfl, rfl, rfl, rfl, trivial⟩) rfl rfl
      ·
        refine JC.condF' rfl (decide_eq_false h48) ?_
        refine JC.exit ?_
        refine QJ.then_exit ?_
        obtain rfl := Option.some.inj hm
        refine QJ.round_exit (fun hy => ?_)
        subst hy
        refine QJ.block_hit ?_
        exact QJ.cut_normal ((d31, d32, d33, d35), (z30, z34)) hmo46 [1, 2, 3] (by exact ⟨rfl, rfl, trivial⟩) rfl rfl

/-! ### 38: drogher/bits.NewReader -/
noncomputable def F38.m (x2 : (List Int)) : Option (List Int × Int) :=
  ((F64.m (x2)).bind fun y7 => some (y7, (0 : Int)))
set_option maxRecDepth 100000 in
set_option maxHeartbeats 4000000 in
theorem F38.spec (s1 : SlV) (x2 : (List Int)) (r : (List Int × Int)) (hm : F38.m x2 = some r) :
    Ctr Try.prog false 38 [s1.v] [Asr.vw (Enc.int .u8) (s1.v) x2] (fun v L' => ∃ (g3 : Nat), ∃ (g4 : SlV), v = .pointer (some ⟨g3, 0, none⟩) ∧ L' = [Asr.blk g3 101 [Seg.c (g4.v), Seg.c (.int .i64 r.2)], Asr.of 5 (Enc.int .u8) (g4.v) r.1]) := by
  refine Ctr.intro (n := 7) (env := [(0, s1.v)]) Try.func38 rfl rfl rfl rfl (fun c => ?_)
  unfold F38.m at hm
  refine JC.seq ?_
  refine JC.region ?_
  refine JL.val (v := .pointer none) (QV.assign rfl) rfl rfl rfl ?_
  refine JL.nil ?_
  refine QJ.then_normal ?_
  refine JC.seq ?_
  refine JC.region ?_
  refine JL.val (v := s1.v) (QV.move rfl) rfl rfl rfl ?_
  obtain ⟨y7, hc8, hm⟩ := bind_inv hm
  refine JL.mv (d := some 4) (MV.call (Lo := []) (Lr := [Asr.vw (Enc.int .u8) (s1.v) x2]) (F64.spec (s1) (x2) _ hc8) rfl Try.func64 rfl rfl rfl [] [0] rfl rfl rfl ⟨(Drv.vw 0 rfl), trivial⟩) rfl rfl rfl ?_
  rintro _ _ ⟨_, ⟨z9, rfl, rfl⟩, rfl⟩
  refine JL.ent (fun _ hs => hs.nil 5 (Enc.int .u8)) ?_
  refine JL.val (v := .agg #[z9.v, .int .i64 (0 : Int)]) (QV.build (vals := [(0, z9.v)]) rfl (by kernel_rfl)) rfl rfl rfl ?_
  refine JL.mv (d := some 6) (MV.box [Seg.c (z9.v), Seg.c (.int .i64 (0 : Int))] rfl (fun w hs => rfl)) rfl rfl rfl ?_
  rintro _ _ ⟨b10, rfl, rfl⟩
  refine JL.val (v := .pointer (some ⟨b10, 0, none⟩)) (QV.assign rfl) rfl rfl rfl ?_
  refine JL.nil ?_
  refine QJ.then_normal ?_
  refine JC.ret ?_
  obtain rfl := Option.some.inj hm
  exact QJ.body (vs := [.pointer (some ⟨b10, 0, none⟩)]) (.inl rfl) rfl (ResVs.cons (ResV.tmp rfl) ResVs.nil) [0, 2] rfl rfl (.inr ⟨own_blk _ _ _, own_of _ _ _ _, trivial⟩) ⟨b10, z9, rfl, rfl⟩

/-! ### 41: (*drogher/bits.Reader).Left -/
noncomputable def F41.m (x3 : (List Int)) (x4 : Int) : Option Int :=
  some (IntKind.wrap .i64 ((IntKind.wrap .i64 ((8 : Int) * ((x3).length : Int))) - x4))
set_option maxRecDepth 100000 in
set_option maxHeartbeats 4000000 in
theorem F41.spec (b1 : Nat) (s2 : SlV) (x3 : (List Int)) (x4 : Int) (r : Int) (hm : F41.m x3 x4 = some r) :
    Ctr Try.prog false 41 [.pointer (some ⟨b1, 0, none⟩)] [Asr.blk b1 101 [Seg.c (s2.v), Seg.c (.int .i64 x4)], Asr.of 5 (Enc.int .u8) (s2.v) x3] (fun v L' => v = .int .i64 r ∧ L' = [Asr.of 5 (Enc.int .u8) (s2.v) x3, Asr.blk b1 101 [Seg.c (s2.v), Seg.c (.int .i64 x4)]]) := by
  refine Ctr.intro (n := 16) (env := [(0, .pointer (some ⟨b1, 0, none⟩))]) Try.func41 rfl rfl rfl rfl (fun c => ?_)
  unfold F41.m at hm
  refine JC.seq ?_
  refine JC.region ?_
  refine JL.val (v := .int .i64 (0 : Int)) (QV.assign rfl) rfl rfl rfl ?_
  refine JL.nil ?_
  refine QJ.then_normal ?_
  refine JC.seq ?_
  refine JC.seq ?_
  refine JC.region ?_
  refine JL.val (v := .pointer (some ⟨b1, 0, none⟩)) (QV.move rfl) rfl rfl rfl ?_
  refine JL.val (v := .bool false) ((QV.eq (QV.eqlP Try.underlying51 rfl rfl (.inr rfl)) (by simp))) rfl rfl rfl ?_
  refine JL.nil ?_
  refine QJ.then_normal ?_
  refine JC.condF rfl ?_
  refine JC.skip ?_
  refine QJ.then_normal ?_
  refine JC.seq ?_
  refine JC.regionT [Asr.blk b1 101 [Seg.c (s2.v), Seg.c (.int .i64 x4)], Asr.of 5 (Enc.int .u8) (s2.v) x3] (fun t => false) [(0, true), (1, true), (2, true), (3, true), (4, true), (5, true), (6, false), (7, false), (8, false), (9, false), (10, false), (11, false)] (by kernel_rfl) (by kernel_rfl) (by kernel_rfl) rfl (fun hsel => ?_)
  refine JT.take (i := 0) (v := .pointer (some ⟨b1, 0, none⟩)) hsel rfl (QV.move rfl) rfl rfl rfl [0, 1] rfl rfl ?_
  refine JT.take (i := 1) (v := .pointer (some ⟨b1, 0, none⟩)) hsel rfl (QV.nilCheck rfl) rfl rfl rfl [0, 1] rfl rfl ?_
  refine JT.take (i := 2) (v := .pointer (some ⟨b1, 0, none⟩)) hsel rfl (QV.fieldB fo_101_0 rfl rfl) rfl rfl rfl [0, 1] rfl rfl ?_
  refine JT.take (i := 3) (v := s2.v) hsel rfl (QV.load1 (ss := [Seg.c (s2.v), Seg.c (.int .i64 x4)]) 0 0 rfl tk_26 rfl rfl rfl) rfl rfl rfl [0, 1] rfl rfl ?_
  refine JT.take (i := 4) (v := .int .i64 ((x3).length : Int)) hsel rfl (QV.len (Rdg.of 1 rfl) Try.underlying26 rfl) rfl rfl rfl [0, 1] rfl rfl ?_
  refine JT.take (i := 5) (v := .int .i64 (IntKind.wrap .i64 ((8 : Int) * ((x3).length : Int)))) hsel rfl (QV.mul rfl rfl) rfl rfl rfl [0, 1] rfl rfl ?_
  refine JT.only (i := 6) (d := some 11) rfl (MV.ofQV (v := .pointer (some ⟨b1, 0, none⟩)) (QV.move rfl)) rfl rfl rfl ?_
  rintro _ _ ⟨rfl, rfl⟩
  refine ⟨fun _ => ⟨[0, 1], rfl, rfl⟩, ?_⟩
  refine JT.only (i := 7) (d := some 12) rfl (MV.ofQV (v := .pointer (some ⟨b1, 0, none⟩)) (QV.nilCheck rfl)) rfl rfl rfl ?_
  rintro _ _ ⟨rfl, rfl⟩
  refine ⟨fun _ => ⟨[0, 1], rfl, rfl⟩, ?_⟩
  refine JT.only (i := 8) (d := some 13) rfl (MV.ofQV (v := .pointer (some ⟨b1, 1, none⟩)) (QV.fieldB fo_101_1 rfl rfl)) rfl rfl rfl ?_
  rintro _ _ ⟨rfl, rfl⟩
  refine ⟨fun _ => ⟨[0, 1], rfl, rfl⟩, ?_⟩
  refine JT.only (i := 9) (d := some 14) rfl (MV.ofQV (v := .int .i64 x4) (QV.load1 (ss := [Seg.c (s2.v), Seg.c (.int .i64 x4)]) 0 1 rfl tk_3 rfl rfl rfl)) rfl rfl rfl ?_
  rintro _ _ ⟨rfl, rfl⟩
  refine ⟨fun _ => ⟨[0, 1], rfl, rfl⟩, ?_⟩
  refine JT.only (i := 10) (d := some 15) rfl (MV.ofQV (v := .int .i64 (IntKind.wrap .i64 ((IntKind.wrap .i64 ((8 : Int) * ((x3).length : Int))) - x4))) (QV.sub rfl rfl)) rfl rfl rfl ?_
  rintro _ _ ⟨rfl, rfl⟩
  refine ⟨fun _ => ⟨[0, 1], rfl, rfl⟩, ?_⟩
  refine JT.only (i := 11) (d := some 2) rfl (MV.ofQV (v := .int .i64 (IntKind.wrap .i64 ((IntKind.wrap .i64 ((8 : Int) * ((x3).length : Int))) - x4))) (QV.assign rfl)) rfl rfl rfl ?_
  rintro _ _ ⟨rfl, rfl⟩
  refine ⟨fun _ => ⟨[0, 1], rfl, rfl⟩, ?_⟩
  refine JT.nil ?_
  refine QJ.then_normal ?_
  refine JC.ret ?_
  obtain rfl := Option.some.inj hm
  exact QJ.body (vs := [.int .i64 (IntKind.wrap .i64 ((IntKind.wrap .i64 ((8 : Int) * ((x3).length : Int))) - x4))]) (.inl rfl) rfl (ResVs.cons (ResV.tmp rfl) ResVs.nil) [1, 0] rfl rfl (.inr ⟨own_of _ _ _ _, own_blk _ _ _, trivial⟩) ⟨rfl, rfl⟩

/-! ### 39: (*drogher/bits.Reader).Get -/
noncomputable def F39.j1  (d14 : Int) (d15 : Int) : Option (Int × Int × Int) :=
  some ((IntKind.wrap .u32 d14), (0 : Int), d15)
noncomputable def F39.b1 (x3 : (List Int)) (x5 : Int) : (Int × Int × Int) → Option ((Int × Int × Int) ⊕ (Int × Int))
  | (d16, d17, d18) => (if d18 < x5 then (if 0 ≤ (IntKind.wrap .i64 (Int.tdiv d16 (8 : Int))) ∧ (IntKind.wrap .i64 (Int.tdiv d16 (8 : Int))) < ((x3).length : Int) then (if 0 ≤ (Int.tmod d16 (8 : Int)) then (if 0 ≤ (minI (IntKind.wrap .i64 ((8 : Int) - (Int.tmod d16 (8 : Int)))) (IntKind.wrap .i64 (x5 - d18))) then (if 0 ≤ d18 then some (.inl ((IntKind.wrap .i64 (d16 + (minI (IntKind.wrap .i64 ((8 : Int) - (Int.tmod d16 (8 : Int)))) (IntKind.wrap .i64 (x5 - d18))))), (orI .u64 d17 (shlI .u64 (andI .u64 (IntKind.wrap .u64 (shrI .u8 (gd x3 (IntKind.wrap .i64 (Int.tdiv d16 (8 : Int)))) (Int.tmod d16 (8 : Int)))) (IntKind.wrap .u64 ((shlI .u64 (1 : Int) (minI (IntKind.wrap .i64 ((8 : Int) - (Int.tmod d16 (8 : Int)))) (IntKind.wrap .i64 (x5 - d18)))) - (1 : Int)))) d18)), (IntKind.wrap .i64 (d18 + (minI (IntKind.wrap .i64 ((8 : Int) - (Int.tmod d16 (8 : Int)))) (IntKind.wrap .i64 (x5 - d18))))))) else none) else none) else none) else none) else some (.inr (d17, d16)))
noncomputable def F39.m (x3 : (List Int)) (x4 : Int) (x5 : Int) : Option (Int × Int × Int) :=
  (if x5 < (0 : Int) then some ((0 : Int), (1 : Int), x4) else (if (32 : Int) < x5 then some ((0 : Int), (1 : Int), x4) else ((F41.m (x3) (x4)).bind fun y11 => (if y11 < x5 then some ((0 : Int), (2 : Int), x4) else ((loop (F39.b1 x3 x5) (x4, (0 : Int), (0 : Int))).bind fun y => match y with | (d14, d15) => F39.j1 (d14) (d15))))))
set_option maxRecDepth 100000 in
set_option maxHeartbeats 4000000 in
theorem F39.spec (b1 : Nat) (s2 : SlV) (x3 : (List Int)) (x4 : Int) (x5 : Int) (r : (Int × Int × Int)) (hm : F39.m x3 x4 x5 = some r) :
    Ctr Try.prog false 39 [.pointer (some ⟨b1, 0, none⟩), .int .i64 x5] [Asr.blk b1 101 [Seg.c (s2.v), Seg.c (.int .i64 x4)], Asr.of 5 (Enc.int .u8) (s2.v) x3] (fun v L' => v = .tuple #[.int .u32 r.1, .int .i64 r.2.1] ∧ L' = [Asr.of 5 (Enc.int .u8) (s2.v) x3, Asr.blk b1 101 [Seg.c (s2.v), Seg.c (.int .i64 r.2.2)]]) := by
  refine Ctr.intro (n := 77) (env := [(0, .pointer (some ⟨b1, 0, none⟩)), (1, .int .i64 x5)]) Try.func39 rfl rfl rfl rfl (fun c => ?_)
  unfold F39.m at hm
  refine JC.seq ?_
  refine JC.region ?_
  refine JL.val (v := .int .u32 (0 : Int)) (QV.assign rfl) rfl rfl rfl ?_
  refine JL.val (v := .int .i64 (0 : Int)) (QV.assign rfl) rfl rfl rfl ?_
  refine JL.nil ?_
  refine QJ.then_normal ?_
  refine JC.seq ?_
  refine JC.block ?_
  refine JC.seq ?_
  refine JC.region ?_
  refine JL.val (v := .pointer (some ⟨b1, 0, none⟩)) (QV.move rfl) rfl rfl rfl ?_
  refine JL.val (v := .bool false) ((QV.eq (QV.eqlP Try.underlying51 rfl rfl (.inr rfl)) (by simp))) rfl rfl rfl ?_
  refine JL.val (v := .bool false) (QV.move rfl) rfl rfl rfl ?_
  refine JL.val (v := .int .i64 x5) (QV.move rfl) rfl rfl rfl ?_
  refine JL.val (v := .bool (decide (x5 < (0 : Int)))) (QV.lss rfl rfl) rfl rfl rfl ?_
  refine JL.val (v := .bool (decide (x5 < (0 : Int)))) (QV.pickF rfl rfl) rfl rfl rfl ?_
  rcases ite_inv hm with ⟨h9, hm⟩ | ⟨h9, hm⟩
  ·
    refine JL.val (v := .bool true) (QV.eq (QV.move rfl) (congrArg Value.bool (decide_eq_true h9))) rfl rfl rfl ?_
    refine JL.skip (d := some 19) rfl rfl rfl ?_
    refine JL.skip (d := some 20) rfl rfl rfl ?_
    refine JL.val (v := .bool true) (QV.pickT rfl rfl) rfl rfl rfl ?_
    refine JL.val (v := .bool true) (QV.assign rfl) rfl rfl rfl ?_
    refine JL.nil ?_
    refine QJ.then_normal ?_
    refine JC.condT rfl ?_
    refine JC.seq ?_
    refine JC.region ?_
    refine JL.val (v := .int .u32 (0 : Int)) (QV.assign rfl) rfl rfl rfl ?_
    refine JL.val (v := .int .i64 (1 : Int)) (QV.assign rfl) rfl rfl rfl ?_
    refine JL.nil ?_
    refine QJ.then_normal ?_
    refine JC.ret ?_
    refine QJ.block_ret ?_
    refine QJ.then_ret ?_
    obtain rfl := Option.some.inj hm
    exact QJ.body (vs := [.int .u32 (0 : Int), .int .i64 (1 : Int)]) (.inl rfl) rfl (ResVs.cons (ResV.tmp rfl) (ResVs.cons (ResV.tmp rfl) ResVs.nil)) [1, 0] rfl rfl (.inr ⟨own_of _ _ _ _, own_blk _ _ _, trivial⟩) ⟨rfl, rfl⟩
  ·
    refine JL.val (v := .bool false) (QV.eq (QV.move rfl) (congrArg Value.bool (decide_eq_false h9))) rfl rfl rfl ?_
    refine JL.val (v := .int .i64 x5) (QV.move rfl) rfl rfl rfl ?_
    refine JL.val (v := .bool (decide ((32 : Int) < x5))) (QV.gtr rfl rfl) rfl rfl rfl ?_
    refine JL.val (v := .bool (decide ((32 : Int) < x5))) (QV.pickF rfl rfl) rfl rfl rfl ?_
    refine JL.val (v := .bool (decide ((32 : Int) < x5))) (QV.assign rfl) rfl rfl rfl ?_
    refine JL.nil ?_
    refine QJ.then_normal ?_
    rcases ite_inv hm with ⟨h10, hm⟩ | ⟨h10, hm⟩
    ·
      refine JC.condT' rfl (decide_eq_true h10) ?_
      refine JC.seq ?_
      refine JC.region ?_
      refine JL.val (v := .int .u32 (0 : Int)) (QV.assign rfl) rfl rfl rfl ?_
      refine JL.val (v := .int .i64 (1 : Int)) (QV.assign rfl) rfl rfl rfl ?_
      refine JL.nil ?_
      refine QJ.then_normal ?_
      refine JC.ret ?_
      refine QJ.block_ret ?_
      refine QJ.then_ret ?_
      obtain rfl := Option.some.inj hm
      exact QJ.body (vs := [.int .u32 (0 : Int), .int .i64 (1 : Int)]) (.inl rfl) rfl (ResVs.cons (ResV.tmp rfl) (ResVs.cons (ResV.tmp rfl) ResVs.nil)) [1, 0] rfl rfl (.inr ⟨own_of _ _ _ _, own_blk _ _ _, trivial⟩) ⟨rfl, rfl⟩
    ·
      refine JC.condF' rfl (decide_eq_false h10) ?_
      refine JC.seq ?_
      refine JC.region ?_
      refine JL.val (v := .int .i64 x5) (QV.move rfl) rfl rfl rfl ?_
      refine JL.val (v := .pointer (some ⟨b1, 0, none⟩)) (QV.move rfl) rfl rfl rfl ?_
      obtain ⟨y11, hc12, hm⟩ := bind_inv hm
      refine JL.mv (d := some 25) (MV.call (Lo := [Asr.blk b1 101 [Seg.c (s2.v), Seg.c (.int .i64 x4)], Asr.of 5 (Enc.int .u8) (s2.v) x3]) (Lr := []) (F41.spec (b1) (s2) (x3) (x4) _ hc12) rfl Try.func41 rfl rfl rfl [0, 1] [] rfl rfl rfl trivial) rfl rfl rfl ?_
      rintro _ _ ⟨_, ⟨rfl, rfl⟩, rfl⟩
      refine JL.val (v := .bool (decide (y11 < x5))) (QV.gtr rfl rfl) rfl rfl rfl ?_
      refine JL.val (v := .bool (decide (y11 < x5))) (QV.assign rfl) rfl rfl rfl ?_
      refine JL.nil ?_
      refine QJ.then_normal ?_
      rcases ite_inv hm with ⟨h13, hm⟩ | ⟨h13, hm⟩
      ·
        refine JC.condT' rfl (decide_eq_true h13) ?_
        refine JC.seq ?_
        refine JC.region ?_
        refine JL.val (v := .int .u32 (0 : Int)) (QV.assign rfl) rfl rfl rfl ?_
        refine JL.val (v := .int .i64 (2 : Int)) (QV.assign rfl) rfl rfl rfl ?_
        refine JL.nil ?_
        refine QJ.then_normal ?_
        refine JC.ret ?_
        refine QJ.block_ret ?_
        refine QJ.then_ret ?_
        obtain rfl := Option.some.inj hm
        exact QJ.body (vs := [.int .u32 (0 : Int), .int .i64 (2 : Int)]) (.inl rfl) rfl (ResVs.cons (ResV.tmp rfl) (ResVs.cons (ResV.tmp rfl) ResVs.nil)) [0, 1] rfl rfl (.inr ⟨own_of _ _ _ _, own_blk _ _ _, trivial⟩) ⟨rfl, rfl⟩
      ·
        refine JC.condF' rfl (decide_eq_false h13) ?_
        refine JC.skip ?_
        refine QJ.block_normal ?_
        refine QJ.then_normal ?_
        refine JC.seq ?_
        refine JC.region ?_
        refine JL.val (v := .int .u64 (0 : Int)) (QV.assign rfl) rfl rfl rfl ?_
        refine JL.nil ?_
        refine QJ.then_normal ?_
        refine JC.seq ?_
        refine JC.seq ?_
        refine JC.region ?_
        refine JL.val (v := .int .i64 (0 : Int)) (QV.assign rfl) rfl rfl rfl ?_
        refine JL.nil ?_
        refine QJ.then_normal ?_
        refine JC.cutK (Y := (Int × Int) × Unit) (fun y => match y with | ((d14, d15), _) => F39.j1 (d14) (d15) = some r) (fun y => match y with | ((d14, d15), _) => [(6, .int .u64 d14)]) (fun y => match y with | ((d14, d15), _) => [Asr.of 5 (Enc.int .u8) (s2.v) x3, Asr.blk b1 101 [Seg.c (s2.v), Seg.c (.int .i64 d15)]]) ?_ ?_
        ·
          rintro ⟨⟨d14, d15⟩, ⟨⟩⟩ hm
          unfold F39.j1 at hm
          show QJ _ _ [(6, .int .u64 d14)] [Asr.of 5 (Enc.int .u8) (s2.v) x3, Asr.blk b1 101 [Seg.c (s2.v), Seg.c (.int .i64 d15)]] _ _
          refine QJ.then_normal ?_
          refine JC.seq ?_
          refine JC.region ?_
          refine JL.val (v := .int .u64 d14) (QV.move rfl) rfl rfl rfl ?_
          refine JL.val (v := .int .u32 (IntKind.wrap .u32 d14)) (QV.conv rfl (by rw [Try.underlying96]; rfl) Try.underlying42) rfl rfl rfl ?_
          refine JL.val (v := .int .u32 (IntKind.wrap .u32 d14)) (QV.assign rfl) rfl rfl rfl ?_
          refine JL.val (v := .int .i64 (0 : Int)) (QV.assign rfl) rfl rfl rfl ?_
          refine JL.nil ?_
          refine QJ.then_normal ?_
          refine JC.ret ?_
          obtain rfl := Option.some.inj hm
          exact QJ.body (vs := [.int .u32 (IntKind.wrap .u32 d14), .int .i64 (0 : Int)]) (.inl rfl) rfl (ResVs.cons (ResV.tmp rfl) (ResVs.cons (ResV.tmp rfl) ResVs.nil)) [0, 1] rfl rfl (.inr ⟨own_of _ _ _ _, own_blk _ _ _, trivial⟩) ⟨rfl, rfl⟩
        ·
          refine JC.block ?_
          obtain ⟨y22, hl23, hmo24⟩ := bind_inv hm
          refine JC.loop (F39.b1 x3 x5) (fun x z => match x, z with | (d16, d17, d18), _ => [(0, .pointer (some ⟨b1, 0, none⟩)), (1, .int .i64 x5), (6, .int .u64 d17), (7, .int .i64 d18)]) (fun x z => match x, z with | (d16, d17, d18), _ => [Asr.of 5 (Enc.int .u8) (s2.v) x3, Asr.blk b1 101 [Seg.c (s2.v), Seg.c (.int .i64 d16)]]) (x4, (0 : Int), (0 : Int)) () y22 hl23 [0, 1] (by exact ⟨rfl, rfl, rfl, rfl, trivial⟩) rfl rfl ?_
          rintro ⟨d16, d17, d18⟩ ⟨⟩ s25 hm
          unfold F39.b1 at hm
          dsimp only at hm
          show JC _ _ _ [(0, .pointer (some ⟨b1, 0, none⟩)), (1, .int .i64 x5), (6, .int .u64 d17), (7, .int .i64 d18)] [Asr.of 5 (Enc.int .u8) (s2.v) x3, Asr.blk b1 101 [Seg.c (s2.v), Seg.c (.int .i64 d16)]] _ _
          refine JC.seq ?_
          refine JC.seq ?_
          refine JC.region ?_
          refine JL.val (v := .int .i64 d18) (QV.move rfl) rfl rfl rfl ?_
          refine JL.val (v := .int .i64 x5) (QV.move rfl) rfl rfl rfl ?_
          refine JL.val (v := .bool (decide (d18 < x5))) (QV.lss rfl rfl) rfl rfl rfl ?_
          refine JL.nil ?_
          refine QJ.then_normal ?_
          rcases ite_inv hm with ⟨h26, hm⟩ | ⟨h26, hm⟩
          ·
            refine JC.condT' rfl (decide_eq_true h26) ?_
            refine JC.skip ?_
            refine QJ.then_normal ?_
            refine JC.block ?_
            refine JC.seq ?_
            refine JC.region ?_
            refine JL.val (v := .pointer (some ⟨b1, 0, none⟩)) (QV.move rfl) rfl rfl rfl ?_
            refine JL.val (v := .pointer (some ⟨b1, 0, none⟩)) (QV.nilCheck rfl) rfl rfl rfl ?_
            refine JL.val (v := .pointer (some ⟨b1, 1, none⟩)) (QV.fieldB fo_101_1 rfl rfl) rfl rfl rfl ?_
            refine JL.val (v := .int .i64 d16) (QV.load1 (ss := [Seg.c (s2.v), Seg.c (.int .i64 d16)]) 1 1 rfl tk_3 rfl rfl rfl) rfl rfl rfl ?_
            refine JL.val (v := .int .i64 (Int.tmod d16 (8 : Int))) (QV.rem rfl rfl (by decide)) rfl rfl rfl ?_
            refine JL.val (v := .int .i64 (Int.tmod d16 (8 : Int))) (QV.assign rfl) rfl rfl rfl ?_
            refine JL.nil ?_
            refine QJ.then_normal ?_
            refine JC.seq ?_
            refine JC.region ?_
            refine JL.val (v := .int .i64 (Int.tmod d16 (8 : Int))) (QV.move rfl) rfl rfl rfl ?_
            refine JL.val (v := .int .i64 (IntKind.wrap .i64 ((8 : Int) - (Int.tmod d16 (8 : Int))))) (QV.sub rfl rfl) rfl rfl rfl ?_
            refine JL.val (v := .int .i64 x5) (QV.move rfl) rfl rfl rfl ?_
            refine JL.val (v := .int .i64 d18) (QV.move rfl) rfl rfl rfl ?_
            refine JL.val (v := .int .i64 (IntKind.wrap .i64 (x5 - d18))) (QV.sub rfl rfl) rfl rfl rfl ?_
            refine JL.val (v := .int .i64 (minI (IntKind.wrap .i64 ((8 : Int) - (Int.tmod d16 (8 : Int)))) (IntKind.wrap .i64 (x5 - d18)))) (QV.min2 rfl rfl) rfl rfl rfl ?_
            refine JL.val (v := .int .i64 (minI (IntKind.wrap .i64 ((8 : Int) - (Int.tmod d16 (8 : Int)))) (IntKind.wrap .i64 (x5 - d18)))) (QV.assign rfl) rfl rfl rfl ?_
            refine JL.nil ?_
            refine QJ.then_normal ?_
            refine JC.seq ?_
            refine JC.regionT [Asr.of 5 (Enc.int .u8) (s2.v) x3, Asr.blk b1 101 [Seg.c (s2.v), Seg.c (.int .i64 d16)]] (fun t => false) [(0, true), (1, true), (2, true), (3, true), (4, true), (5, true), (6, true), (7, true), (8, true), (9, true), (10, true), (11, true), (12, true), (13, true), (14, false), (15, false), (16, false), (17, false), (18, false)] (by kernel_rfl) (by kernel_rfl) (by kernel_rfl) rfl (fun hsel => ?_)
            refine JT.take (i := 0) (v := .pointer (some ⟨b1, 0, none⟩)) hsel rfl (QV.move rfl) rfl rfl rfl [0, 1] rfl rfl ?_
            refine JT.take (i := 1) (v := .pointer (some ⟨b1, 0, none⟩)) hsel rfl (QV.nilCheck rfl) rfl rfl rfl [0, 1] rfl rfl ?_
            refine JT.take (i := 2) (v := .pointer (some ⟨b1, 0, none⟩)) hsel rfl (QV.fieldB fo_101_0 rfl rfl) rfl rfl rfl [0, 1] rfl rfl ?_
            refine JT.take (i := 3) (v := s2.v) hsel rfl (QV.load1 (ss := [Seg.c (s2.v), Seg.c (.int .i64 d16)]) 1 0 rfl tk_26 rfl rfl rfl) rfl rfl rfl [0, 1] rfl rfl ?_
            refine JT.take (i := 4) (v := .pointer (some ⟨b1, 0, none⟩)) hsel rfl (QV.move rfl) rfl rfl rfl [0, 1] rfl rfl ?_
            refine JT.take (i := 5) (v := .pointer (some ⟨b1, 0, none⟩)) hsel rfl (QV.nilCheck rfl) rfl rfl rfl [0, 1] rfl rfl ?_
            refine JT.take (i := 6) (v := .pointer (some ⟨b1, 1, none⟩)) hsel rfl (QV.fieldB fo_101_1 rfl rfl) rfl rfl rfl [0, 1] rfl rfl ?_
            refine JT.take (i := 7) (v := .int .i64 d16) hsel rfl (QV.load1 (ss := [Seg.c (s2.v), Seg.c (.int .i64 d16)]) 1 1 rfl tk_3 rfl rfl rfl) rfl rfl rfl [0, 1] rfl rfl ?_
            refine JT.take (i := 8) (v := .int .i64 (IntKind.wrap .i64 (Int.tdiv d16 (8 : Int)))) hsel rfl (QV.quo rfl rfl (by decide)) rfl rfl rfl [0, 1] rfl rfl ?_
            obtain ⟨h27, hm⟩ := guard_inv hm
            refine JT.take (i := 9) (v := .pointer (some (elA (s2.v) (Int.toNat (IntKind.wrap .i64 (Int.tdiv d16 (8 : Int))) * ((Enc.int .u8)).sz)))) hsel rfl (QV.indexA (Rdg.of 0 rfl) Try.underlying26 tk_5 rfl rfl h27) rfl rfl rfl [0, 1] rfl rfl ?_
            refine JT.take (i := 10) (v := .int .u8 (gd x3 (IntKind.wrap .i64 (Int.tdiv d16 (8 : Int))))) hsel rfl (QV.el1 (Rdg.of 0 rfl) tk_5 rfl h27 rfl) rfl rfl rfl [0, 1] rfl rfl ?_
            refine JT.take (i := 11) (v := .int .i64 (Int.tmod d16 (8 : Int))) hsel rfl (QV.move rfl) rfl rfl rfl [0, 1] rfl rfl ?_
            obtain ⟨h28, hm⟩ := guard_inv hm
            refine JT.take (i := 12) (v := .int .u8 (shrI .u8 (gd x3 (IntKind.wrap .i64 (Int.tdiv d16 (8 : Int)))) (Int.tmod d16 (8 : Int)))) hsel rfl (QV.shr rfl rfl h28) rfl rfl rfl [0, 1] rfl rfl ?_
            refine JT.take (i := 13) (v := .int .u64 (IntKind.wrap .u64 (shrI .u8 (gd x3 (IntKind.wrap .i64 (Int.tdiv d16 (8 : Int)))) (Int.tmod d16 (8 : Int))))) hsel rfl (QV.conv rfl (by rw [Try.underlying5]; rfl) Try.underlying96) rfl rfl rfl [0, 1] rfl rfl ?_
            refine JT.only (i := 14) (d := some 55) rfl (MV.ofQV (v := .int .i64 (minI (IntKind.wrap .i64 ((8 : Int) - (Int.tmod d16 (8 : Int)))) (IntKind.wrap .i64 (x5 - d18)))) (QV.move rfl)) rfl rfl rfl ?_
            rintro _ _ ⟨rfl, rfl⟩
            refine ⟨fun _ => ⟨[0, 1], rfl, rfl⟩, ?_⟩
            obtain ⟨h29, hm⟩ := guard_inv hm
            refine JT.only (i := 15) (d := some 56) rfl (MV.ofQV (v := .int .u64 (shlI .u64 (1 : Int) (minI (IntKind.wrap .i64 ((8 : Int) - (Int.tmod d16 (8 : Int)))) (IntKind.wrap .i64 (x5 - d18))))) (QV.shl rfl rfl h29)) rfl rfl rfl ?_
            rintro _ _ ⟨rfl, rfl⟩
            refine ⟨fun _ => ⟨[0, 1], rfl, rfl⟩, ?_⟩
            refine JT.only (i := 16) (d := some 57) rfl (MV.ofQV (v := .int .u64 (IntKind.wrap .u64 ((shlI .u64 (1 : Int) (minI (IntKind.wrap .i64 ((8 : Int) - (Int.tmod d16 (8 : Int)))) (IntKind.wrap .i64 (x5 - d18)))) - (1 : Int)))) (QV.sub rfl rfl)) rfl rfl rfl ?_
            rintro _ _ ⟨rfl, rfl⟩
            refine ⟨fun _ => ⟨[0, 1], rfl, rfl⟩, ?_⟩
            refine JT.only (i := 17) (d := some 58) rfl (MV.ofQV (v := .int .u64 (andI .u64 (IntKind.wrap .u64 (shrI .u8 (gd x3 (IntKind.wrap .i64 (Int.tdiv d16 (8 : Int)))) (Int.tmod d16 (8 : Int)))) (IntKind.wrap .u64 ((shlI .u64 (1 : Int) (minI (IntKind.wrap .i64 ((8 : Int) - (Int.tmod d16 (8 : Int)))) (IntKind.wrap .i64 (x5 - d18)))) - (1 : Int))))) (QV.and rfl rfl)) rfl rfl rfl ?_
            rintro _ _ ⟨rfl, rfl⟩
            refine ⟨fun _ => ⟨[0, 1], rfl, rfl⟩, ?_⟩
            refine JT.only (i := 18) (d := some 10) rfl (MV.ofQV (v := .int .u64 (andI .u64 (IntKind.wrap .u64 (shrI .u8 (gd x3 (IntKind.wrap .i64 (Int.tdiv d16 (8 : Int)))) (Int.tmod d16 (8 : Int)))) (IntKind.wrap .u64 ((shlI .u64 (1 : Int) (minI (IntKind.wrap .i64 ((8 : Int) - (Int.tmod d16 (8 : Int)))) (IntKind.wrap .i64 (x5 - d18)))) - (1 : Int))))) (QV.assign rfl)) rfl rfl rfl ?_
            rintro _ _ ⟨rfl, rfl⟩
            refine ⟨fun _ => ⟨[0, 1], rfl, rfl⟩, ?_⟩
            refine JT.nil ?_
            refine QJ.then_normal ?_
            refine JC.seq ?_
            refine JC.region ?_
            refine JL.val (v := .int .u64 d17) (QV.move rfl) rfl rfl rfl ?_
            refine JL.val (v := .int .u64 (andI .u64 (IntKind.wrap .u64 (shrI .u8 (gd x3 (IntKind.wrap .i64 (Int.tdiv d16 (8 : Int)))) (Int.tmod d16 (8 : Int)))) (IntKind.wrap .u64 ((shlI .u64 (1 : Int) (minI (IntKind.wrap .i64 ((8 : Int) - (Int.tmod d16 (8 : Int)))) (IntKind.wrap .i64 (x5 - d18)))) - (1 : Int))))) (QV.move rfl) rfl rfl rfl ?_
            refine JL.val (v := .int .i64 d18) (QV.move rfl) rfl rfl rfl ?_
            obtain ⟨h30, hm⟩ := guard_inv hm
            refine JL.val (v := .int .u64 (shlI .u64 (andI .u64 (IntKind.wrap .u64 (shrI .u8 (gd x3 (IntKind.wrap .i64 (Int.tdiv d16 (8 : Int)))) (Int.tmod d16 (8 : Int)))) (IntKind.wrap .u64 ((shlI .u64 (1 : Int) (minI (IntKind.wrap .i64 ((8 : Int) - (Int.tmod d16 (8 : Int)))) (IntKind.wrap .i64 (x5 - d18)))) - (1 : Int)))) d18)) (QV.shl rfl rfl h30) rfl rfl rfl ?_
            refine JL.val (v := .int .u64 (orI .u64 d17 (shlI .u64 (andI .u64 (IntKind.wrap .u64 (shrI .u8 (gd x3 (IntKind.wrap .i64 (Int.tdiv d16 (8 : Int)))) (Int.tmod d16 (8 : Int)))) (IntKind.wrap .u64 ((shlI .u64 (1 : Int) (minI (IntKind.wrap .i64 ((8 : Int) - (Int.tmod d16 (8 : Int)))) (IntKind.wrap .i64 (x5 - d18)))) - (1 : Int)))) d18))) (QV.or rfl rfl) rfl rfl rfl ?_
            refine JL.val (v := .int .u64 (orI .u64 d17 (shlI .u64 (andI .u64 (IntKind.wrap .u64 (shrI .u8 (gd x3 (IntKind.wrap .i64 (Int.tdiv d16 (8 : Int)))) (Int.tmod d16 (8 : Int)))) (IntKind.wrap .u64 ((shlI .u64 (1 : Int) (minI (IntKind.wrap .i64 ((8 : Int) - (Int.tmod d16 (8 : Int)))) (IntKind.wrap .i64 (x5 - d18)))) - (1 : Int)))) d18))) (QV.assign rfl) rfl rfl rfl ?_
            refine JL.nil ?_
            refine QJ.then_normal ?_
            refine JC.seq ?_
            refine JC.region ?_
            refine JL.val (v := .int .i64 d18) (QV.move rfl) rfl rfl rfl ?_
            refine JL.val (v := .int .i64 (minI (IntKind.wrap .i64 ((8 : Int) - (Int.tmod d16 (8 : Int)))) (IntKind.wrap .i64 (x5 - d18)))) (QV.move rfl) rfl rfl rfl ?_
            refine JL.val (v := .int .i64 (IntKind.wrap .i64 (d18 + (minI (IntKind.wrap .i64 ((8 : Int) - (Int.tmod d16 (8 : Int)))) (IntKind.wrap .i64 (x5 - d18)))))) (QV.add rfl rfl) rfl rfl rfl ?_
            refine JL.val (v := .int .i64 (IntKind.wrap .i64 (d18 + (minI (IntKind.wrap .i64 ((8 : Int) - (Int.tmod d16 (8 : Int)))) (IntKind.wrap .i64 (x5 - d18)))))) (QV.assign rfl) rfl rfl rfl ?_
            refine JL.nil ?_
            refine QJ.then_normal ?_
            refine JC.region ?_
            refine JL.val (v := .pointer (some ⟨b1, 0, none⟩)) (QV.move rfl) rfl rfl rfl ?_
            refine JL.val (v := .pointer (some ⟨b1, 0, none⟩)) (QV.nilCheck rfl) rfl rfl rfl ?_
            refine JL.val (v := .pointer (some ⟨b1, 1, none⟩)) (QV.fieldB fo_101_1 rfl rfl) rfl rfl rfl ?_
            refine JL.val (v := .int .i64 d16) (QV.load1 (ss := [Seg.c (s2.v), Seg.c (.int .i64 d16)]) 1 1 rfl tk_3 rfl rfl rfl) rfl rfl rfl ?_
            refine JL.val (v := .int .i64 (minI (IntKind.wrap .i64 ((8 : Int) - (Int.tmod d16 (8 : Int)))) (IntKind.wrap .i64 (x5 - d18)))) (QV.move rfl) rfl rfl rfl ?_
            refine JL.val (v := .int .i64 (IntKind.wrap .i64 (d16 + (minI (IntKind.wrap .i64 ((8 : Int) - (Int.tmod d16 (8 : Int)))) (IntKind.wrap .i64 (x5 - d18)))))) (QV.add rfl rfl) rfl rfl rfl ?_
            refine JL.val (v := .pointer (some ⟨b1, 0, none⟩)) (QV.nilCheck rfl) rfl rfl rfl ?_
            refine JL.val (v := .pointer (some ⟨b1, 1, none⟩)) (QV.fieldB fo_101_1 rfl rfl) rfl rfl rfl ?_
            refine JL.mv (d := none) (MV.store (ss := [Seg.c (s2.v), Seg.c (.int .i64 d16)]) 1 1 1 [Seg.c (.int .i64 (IntKind.wrap .i64 (d16 + (minI (IntKind.wrap .i64 ((8 : Int) - (Int.tmod d16 (8 : Int)))) (IntKind.wrap .i64 (x5 - d18))))))] rfl tk_3 rfl rfl rfl rfl (fun w hs => ⟨rfl, one_c rfl, trivial⟩)) rfl rfl rfl ?_
            rintro _ _ ⟨rfl, rfl⟩
            refine JL.nil ?_
            refine QJ.block_normal ?_
            obtain rfl := Option.some.inj hm
            exact QJ.round_on ((IntKind.wrap .i64 (d16 + (minI (IntKind.wrap .i64 ((8 : Int) - (Int.tmod d16 (8 : Int)))) (IntKind.wrap .i64 (x5 - d18))))), (orI .u64 d17 (shlI .u64 (andI .u64 (IntKind.wrap .u64 (shrI .u8 (gd x3 (IntKind.wrap .i64 (Int.tdiv d16 (8 : Int)))) (Int.tmod d16 (8 : Int)))) (IntKind.wrap .u64 ((shlI .u64 (1 : Int) (minI (IntKind.wrap .i64 ((8 : Int) - (Int.tmod d16 (8 : Int)))) (IntKind.wrap .i64 (x5 - d18)))) - (1 : Int)))) d18)), (IntKind.wrap .i64 (d18 + (minI (IntKind.wrap .i64 ((8 : Int) - (Int.tmod d16 (8 : Int)))) (IntKind.wrap .i64 (x5 - d18)))))) () [0, 1] (by exact ⟨rfl, rfl, rfl, rfl, trivial⟩) rfl rfl
          ·
            refine JC.condF' rfl (decide_eq_false h26) ?_
            refine JC.exit ?_
            refine QJ.then_exit ?_
            obtain rfl := Option.some.inj hm
            refine QJ.round_exit (fun hy => ?_)
            subst hy
            refine QJ.block_hit ?_
            exact QJ.cut_normal ((d17, d16), ()) hmo24 [0, 1] (by exact ⟨rfl, trivial⟩) rfl rfl

/-! ### 40: drogher/drogherref08.Value -/
noncomputable def F40.j1  (d4 : Int) : Option Int :=
  some d4
noncomputable def F40.b1 (x2 : (List Int)) : (Int × Int) → Option ((Int × Int) ⊕ Int)
  | (d5, d6) => (if (0 : Int) ≤ d6 then (if 0 ≤ d6 ∧ d6 < ((x2).length : Int) then some (.inl ((IntKind.wrap .u32 ((IntKind.wrap .u32 ((2 : Int) * d5)) + (IntKind.wrap .u32 (gd x2 d6)))), (IntKind.wrap .i64 (d6 - (1 : Int))))) else none) else some (.inr d5))
noncomputable def F40.m (x2 : (List Int)) : Option Int :=
  ((loop (F40.b1 x2) ((0 : Int), (IntKind.wrap .i64 (((x2).length : Int) - (1 : Int))))).bind fun y => match y with | d4 => F40.j1 (d4))
set_option maxRecDepth 100000 in
set_option maxHeartbeats 4000000 in
theorem F40.spec (s1 : SlV) (x2 : (List Int)) (r : Int) (hm : F40.m x2 = some r) :
    Ctr Try.prog false 40 [s1.v] [Asr.vw (Enc.int .u8) (s1.v) x2] (fun v L' => v = .int .u32 r ∧ L' = []) := by
  refine Ctr.intro (n := 21) (env := [(0, s1.v)]) Try.func40 rfl rfl rfl rfl (fun c => ?_)
  unfold F40.m at hm
  refine JC.seq ?_
  refine JC.region ?_
  refine JL.val (v := .int .u32 (0 : Int)) (QV.assign rfl) rfl rfl rfl ?_
  refine JL.nil ?_
  refine QJ.then_normal ?_
  refine JC.seq ?_
  refine JC.region ?_
  refine JL.val (v := .int .u32 (0 : Int)) (QV.assign rfl) rfl rfl rfl ?_
  refine JL.nil ?_
  refine QJ.then_normal ?_
  refine JC.seq ?_
  refine JC.seq ?_
  refine JC.region ?_
  refine JL.val (v := s1.v) (QV.move rfl) rfl rfl rfl ?_
  refine JL.val (v := .int .i64 ((x2).length : Int)) (QV.len (Rdg.vw 0 rfl) Try.underlying26 rfl) rfl rfl rfl ?_
  refine JL.val (v := .int .i64 (IntKind.wrap .i64 (((x2).length : Int) - (1 : Int)))) (QV.sub rfl rfl) rfl rfl rfl ?_
  refine JL.val (v := .int .i64 (IntKind.wrap .i64 (((x2).length : Int) - (1 : Int)))) (QV.assign rfl) rfl rfl rfl ?_
  refine JL.nil ?_
  refine QJ.then_normal ?_
  refine JC.cutK (Y := Int × Unit) (fun y => match y with | (d4, _) => F40.j1 (d4) = some r) (fun y => match y with | (d4, _) => [(3, .int .u32 d4)]) (fun y => match y with | (d4, _) => []) ?_ ?_
  ·
    rintro ⟨d4, ⟨⟩⟩ hm
    unfold F40.j1 at hm
    show QJ _ _ [(3, .int .u32 d4)] [] _ _
    refine QJ.then_normal ?_
    refine JC.seq ?_
    refine JC.region ?_
    refine JL.val (v := .int .u32 d4) (QV.move rfl) rfl rfl rfl ?_
    refine JL.val (v := .int .u32 d4) (QV.assign rfl) rfl rfl rfl ?_
    refine JL.nil ?_
    refine QJ.then_normal ?_
    refine JC.ret ?_
    obtain rfl := Option.some.inj hm
    exact QJ.body (vs := [.int .u32 d4]) (.inl rfl) rfl (ResVs.cons (ResV.tmp rfl) ResVs.nil) [] rfl rfl (.inr trivial) ⟨rfl, rfl⟩
  ·
    refine JC.block ?_
    obtain ⟨y9, hl10, hmo11⟩ := bind_inv hm
    refine JC.loop (F40.b1 x2) (fun x z => match x, z with | (d5, d6), _ => [(0, s1.v), (3, .int .u32 d5), (4, .int .i64 d6)]) (fun x z => match x, z with | (d5, d6), _ => [Asr.vw (Enc.int .u8) (s1.v) x2]) ((0 : Int), (IntKind.wrap .i64 (((x2).length : Int) - (1 : Int)))) () y9 hl10 [0] (by exact ⟨rfl, rfl, rfl, trivial⟩) rfl rfl ?_
    rintro ⟨d5, d6⟩ ⟨⟩ s12 hm
    unfold F40.b1 at hm
    dsimp only at hm
    show JC _ _ _ [(0, s1.v), (3, .int .u32 d5), (4, .int .i64 d6)] [Asr.vw (Enc.int .u8) (s1.v) x2] _ _
    refine JC.seq ?_
    refine JC.seq ?_
    refine JC.region ?_
    refine JL.val (v := .int .i64 d6) (QV.move rfl) rfl rfl rfl ?_
    refine JL.val (v := .bool (decide ((0 : Int) ≤ d6))) (QV.geq rfl rfl) rfl rfl rfl ?_
    refine JL.nil ?_
    refine QJ.then_normal ?_
    rcases ite_inv hm with ⟨h13, hm⟩ | ⟨h13, hm⟩
    ·
      refine JC.condT' rfl (decide_eq_true h13) ?_
      refine JC.skip ?_
      refine QJ.then_normal ?_
      refine JC.seq ?_
      refine JC.block ?_
      refine JC.region ?_
      refine JL.val (v := .int .u32 d5) (QV.move rfl) rfl rfl rfl ?_
      refine JL.val (v := .int .u32 (IntKind.wrap .u32 ((2 : Int) * d5))) (QV.mul rfl rfl) rfl rfl rfl ?_
      refine JL.val (v := s1.v) (QV.move rfl) rfl rfl rfl ?_
      refine JL.val (v := .int .i64 d6) (QV.move rfl) rfl rfl rfl ?_
      obtain ⟨h14, hm⟩ := guard_inv hm
      refine JL.val (v := .pointer (some (elA (s1.v) (Int.toNat d6 * ((Enc.int .u8)).sz)))) (QV.indexA (Rdg.vw 0 rfl) Try.underlying26 tk_5 rfl rfl h14) rfl rfl rfl ?_
      refine JL.val (v := .int .u8 (gd x2 d6)) (QV.el1 (Rdg.vw 0 rfl) tk_5 rfl h14 rfl) rfl rfl rfl ?_
      refine JL.val (v := .int .u32 (IntKind.wrap .u32 (gd x2 d6))) (QV.conv rfl (by rw [Try.underlying5]; rfl) Try.underlying42) rfl rfl rfl ?_
      refine JL.val (v := .int .u32 (IntKind.wrap .u32 ((IntKind.wrap .u32 ((2 : Int) * d5)) + (IntKind.wrap .u32 (gd x2 d6))))) (QV.add rfl rfl) rfl rfl rfl ?_
      refine JL.val (v := .int .u32 (IntKind.wrap .u32 ((IntKind.wrap .u32 ((2 : Int) * d5)) + (IntKind.wrap .u32 (gd x2 d6))))) (QV.assign rfl) rfl rfl rfl ?_
      refine JL.nil ?_
      refine QJ.block_normal ?_
      refine QJ.then_normal ?_
      refine JC.region ?_
      refine JL.val (v := .int .i64 d6) (QV.move rfl) rfl rfl rfl ?_
      refine JL.val (v := .int .i64 (IntKind.wrap .i64 (d6 - (1 : Int)))) (QV.sub rfl rfl) rfl rfl rfl ?_
      refine JL.val (v := .int .i64 (IntKind.wrap .i64 (d6 - (1 : Int)))) (QV.assign rfl) rfl rfl rfl ?_
      refine JL.nil ?_
      obtain rfl := Option.some.inj hm
      exact QJ.round_on ((IntKind.wrap .u32 ((IntKind.wrap .u32 ((2 : Int) * d5)) + (IntKind.wrap .u32 (gd x2 d6)))), (IntKind.wrap .i64 (d6 - (1 : Int)))) () [0] (by exact ⟨rfl, rfl, rfl, trivial⟩) rfl rfl
    ·
      refine JC.condF' rfl (decide_eq_false h13) ?_
      refine JC.exit ?_
      refine QJ.then_exit ?_
      obtain rfl := Option.some.inj hm
      refine QJ.round_exit (fun hy => ?_)
      subst hy
      refine QJ.block_hit ?_
      exact QJ.cut_normal (d5, ()) hmo11 [] (by exact ⟨rfl, trivial⟩) rfl rfl

/-! ### 8: drogher/drogherlaw08.BitsBack -/
noncomputable def F8.j2 (y21 : (List Int × Int)) (d25 : Int) : Option Bool :=
  ((F41.m (y21.1) (d25)).bind fun y26 => (if y26 < (8 : Int) then ((F26.m).bind fun y29 => some y29) else some false))
noncomputable def F8.b1 (x2 : (List (Int × Int × Int × (List Int)))) (y21 : (List Int × Int)) : (Int × Int) → Option ((Int × Int) ⊕ ((Bool) ⊕ Int))
  | (d31, d32) => (if d32 < ((x2).length : Int) then (if 0 ≤ d32 ∧ d32 < ((x2).length : Int) then ((F39.m (y21.1) (d31) ((minI (maxI (gd x2 d32).2.1 (0 : Int)) (32 : Int)))).bind fun y41 => (if y41.2.1 = (0 : Int) then ((F29.m ((gd x2 d32).2.2.1) ((minI (maxI (gd x2 d32).2.1 (0 : Int)) (32 : Int)))).bind fun y44 => ((F40.m (y44)).bind fun y47 => (if y41.1 = y47 then some (.inl (y41.2.2, (IntKind.wrap .i64 (d32 + (1 : Int))))) else some (.inr (.inl (false)))))) else some (.inr (.inl (false))))) else none) else some (.inr (.inr (d31))))
noncomputable def F8.j1 (x2 : (List (Int × Int × Int × (List Int)))) (d15 : List Int) (d16 : Int) (d17 : Int) : Option Bool :=
  ((F37.m (d15) (d16) (d17)).bind fun y18 => ((F38.m (y18)).bind fun y21 => ((loop (F8.b1 x2 y21) (y21.2, (0 : Int))).bind fun y => match y with | .inl r => some r | .inr d25 => F8.j2 y21 (d25))))
noncomputable def F8.b2 (x2 : (List (Int × Int × Int × (List Int)))) : (List Int × Int × Int × Int) → Option ((List Int × Int × Int × Int) ⊕ (List Int × Int × Int))
  | (d51, d52, d53, d54) => (if d54 < ((x2).length : Int) then (if 0 ≤ d54 ∧ d54 < ((x2).length : Int) then ((F28.m (d51) (d52) (d53) ((gd x2 d54).2.2.1) ((minI (maxI (gd x2 d54).2.1 (0 : Int)) (32 : Int)))).bind fun y66 => some (.inl (y66.1, y66.2.1, y66.2.2, (IntKind.wrap .i64 (d54 + (1 : Int)))))) else none) else some (.inr (d51, d52, d53)))
noncomputable def F8.m (x2 : (List (Int × Int × Int × (List Int)))) : Option Bool :=
  ((F25.m (x2)).bind fun y5 => (if y5 = true then ((F26.m).bind fun y8 => some y8) else ((F27.m).bind fun y10 => ((loop (F8.b2 x2) (y10.1, y10.2.1, y10.2.2, (0 : Int))).bind fun y => match y with | (d15, d16, d17) => F8.j1 x2 (d15) (d16) (d17)))))
set_option maxRecDepth 100000 in
set_option maxHeartbeats 4000000 in
theorem F8.spec (s1 : SlV) (z3 : List (Unit × Unit × Unit × SlV)) (x2 : (List (Int × Int × Int × (List Int)))) (r : Bool) (hm : F8.m x2 = some r) :
    Ctr Try.prog false 8 [s1.v] [Asr.vn (NE.pair (NE.flat (Enc.int .i64)) (NE.pair (NE.flat (Enc.int .i64)) (NE.pair (NE.flat (Enc.int .u32)) (NE.sl (Enc.int .u8))))) (s1.v) z3 x2] (fun v L' => v = .bool r ∧ L' = []) := by
  refine Ctr.intro (n := 76) (env := [(0, s1.v)]) Try.func8 rfl rfl rfl rfl (fun c => ?_)
  unfold F8.m at hm
  refine JC.seq ?_
  refine JC.region ?_
  refine JL.val (v := .bool false) (QV.assign rfl) rfl rfl rfl ?_
  refine JL.nil ?_
  refine QJ.then_normal ?_
  refine JC.seq ?_
  refine JC.seq ?_
  refine JC.region ?_
  refine JL.val (v := s1.v) (QV.move rfl) rfl rfl rfl ?_
  obtain ⟨y5, hc6, hm⟩ := bind_inv hm
  refine JL.mv (d := some 11) (MV.call (Lo := []) (Lr := [Asr.vn (NE.pair (NE.flat (Enc.int .i64)) (NE.pair (NE.flat (Enc.int .i64)) (NE.pair (NE.flat (Enc.int .u32)) (NE.sl (Enc.int .u8))))) (s1.v) z3 x2]) (F25.spec (s1) (z3) (x2) _ hc6) rfl Try.func25 rfl rfl rfl [] [0] rfl rfl rfl ⟨(Drv.vn 0 rfl), trivial⟩) rfl rfl rfl ?_
  rintro _ _ ⟨_, ⟨rfl, rfl⟩, rfl⟩
  refine JL.nil ?_
  refine QJ.then_normal ?_
  rcases ite_inv hm with ⟨h7, hm⟩ | ⟨h7, hm⟩
  ·
    refine JC.condT' rfl h7 ?_
    refine JC.seq ?_
    refine JC.region ?_
    obtain ⟨y8, hc9, hm⟩ := bind_inv hm
    refine JL.mv (d := some 12) (MV.call (Lo := []) (Lr := [Asr.vn (NE.pair (NE.flat (Enc.int .i64)) (NE.pair (NE.flat (Enc.int .i64)) (NE.pair (NE.flat (Enc.int .u32)) (NE.sl (Enc.int .u8))))) (s1.v) z3 x2]) (F26.spec _ hc9) rfl Try.func26 rfl rfl rfl [] [0] rfl rfl rfl trivial) rfl rfl rfl ?_
    rintro _ _ ⟨_, ⟨rfl, rfl⟩, rfl⟩
    refine JL.val (v := .bool y8) (QV.assign rfl) rfl rfl rfl ?_
    refine JL.nil ?_
    refine QJ.then_normal ?_
    refine JC.ret ?_
    refine QJ.then_ret ?_
    obtain rfl := Option.some.inj hm
    exact QJ.body (vs := [.bool y8]) (.inl rfl) rfl (ResVs.cons (ResV.tmp rfl) ResVs.nil) [] rfl rfl (.inr trivial) ⟨rfl, rfl⟩
  ·
    refine JC.condF' rfl (bfalse h7) ?_
    refine JC.skip ?_
    refine QJ.then_normal ?_
    refine JC.seq ?_
    refine JC.region ?_
    obtain ⟨y10, hc11, hm⟩ := bind_inv hm
    refine JL.mv (d := some 13) (MV.call (Lo := []) (Lr := [Asr.vn (NE.pair (NE.flat (Enc.int .i64)) (NE.pair (NE.flat (Enc.int .i64)) (NE.pair (NE.flat (Enc.int .u32)) (NE.sl (Enc.int .u8))))) (s1.v) z3 x2]) (F27.spec _ hc11) rfl Try.func27 rfl rfl rfl [] [0] rfl rfl rfl trivial) rfl rfl rfl ?_
    rintro _ _ ⟨_, ⟨b12, z13, rfl, rfl⟩, rfl⟩
    refine JL.val (v := .pointer (some ⟨b12, 0, none⟩)) (QV.assign rfl) rfl rfl rfl ?_
    refine JL.nil ?_
    refine QJ.then_normal ?_
    refine JC.seq ?_
    refine JC.seq ?_
    refine JC.region ?_
    refine JL.val (v := .int .i64 (0 : Int)) (QV.assign rfl) rfl rfl rfl ?_
    refine JL.nil ?_
    refine QJ.then_normal ?_
    refine JC.cutK (Y := (List Int × Int × Int) × SlV) (fun y => match y with | ((d15, d16, d17), _) => F8.j1 x2 (d15) (d16) (d17) = some r) (fun y => match y with | ((d15, d16, d17), z14) => [(0, s1.v), (3, .pointer (some ⟨b12, 0, none⟩))]) (fun y => match y with | ((d15, d16, d17), z14) => [Asr.vn (NE.pair (NE.flat (Enc.int .i64)) (NE.pair (NE.flat (Enc.int .i64)) (NE.pair (NE.flat (Enc.int .u32)) (NE.sl (Enc.int .u8))))) (s1.v) z3 x2, Asr.of 5 (Enc.int .u8) (z14.v) d15, Asr.blk b12 98 [Seg.c (z14.v), Seg.c (.int .u64 d16), Seg.c (.int .i64 d17)]]) ?_ ?_
    ·
      rintro ⟨⟨d15, d16, d17⟩, z14⟩ hm
      unfold F8.j1 at hm
      show QJ _ _ [(0, s1.v), (3, .pointer (some ⟨b12, 0, none⟩))] [Asr.vn (NE.pair (NE.flat (Enc.int .i64)) (NE.pair (NE.flat (Enc.int .i64)) (NE.pair (NE.flat (Enc.int .u32)) (NE.sl (Enc.int .u8))))) (s1.v) z3 x2, Asr.of 5 (Enc.int .u8) (z14.v) d15, Asr.blk b12 98 [Seg.c (z14.v), Seg.c (.int .u64 d16), Seg.c (.int .i64 d17)]] _ _
      refine QJ.then_normal ?_
      refine JC.seq ?_
      refine JC.region ?_
      refine JL.val (v := .pointer (some ⟨b12, 0, none⟩)) (QV.move rfl) rfl rfl rfl ?_
      obtain ⟨y18, hc19, hm⟩ := bind_inv hm
      refine JL.mv (d := some 35) (MV.call (Lo := [Asr.blk b12 98 [Seg.c (z14.v), Seg.c (.int .u64 d16), Seg.c (.int .i64 d17)], Asr.of 5 (Enc.int .u8) (z14.v) d15]) (Lr := [Asr.vn (NE.pair (NE.flat (Enc.int .i64)) (NE.pair (NE.flat (Enc.int .i64)) (NE.pair (NE.flat (Enc.int .u32)) (NE.sl (Enc.int .u8))))) (s1.v) z3 x2]) (F37.spec (b12) (z14) (d15) (d16) (d17) _ hc19) rfl Try.func37 rfl rfl rfl [2, 1] [0] rfl rfl rfl trivial) rfl rfl rfl ?_
      rintro _ _ ⟨_, ⟨z20, rfl, rfl⟩, rfl⟩
      obtain ⟨y21, hc22, hm⟩ := bind_inv hm
      refine JL.mv (d := some 36) (MV.call (Lo := []) (Lr := [Asr.of 5 (Enc.int .u8) (z20.v) y18, Asr.of 5 (Enc.int .u8) (z14.v) d15, Asr.blk b12 98 [Seg.c (z14.v), Seg.c (.int .u64 d16), Seg.c (.int .i64 d17)], Asr.vn (NE.pair (NE.flat (Enc.int .i64)) (NE.pair (NE.flat (Enc.int .i64)) (NE.pair (NE.flat (Enc.int .u32)) (NE.sl (Enc.int .u8))))) (s1.v) z3 x2]) (F38.spec (z20) (y18) _ hc22) rfl Try.func38 rfl rfl rfl [] [0, 1, 2, 3] rfl rfl rfl ⟨(Drv.of 0 rfl), trivial⟩) rfl rfl rfl ?_
      rintro _ _ ⟨_, ⟨b23, z24, rfl, rfl⟩, rfl⟩
      refine JL.val (v := .pointer (some ⟨b23, 0, none⟩)) (QV.assign rfl) rfl rfl rfl ?_
      refine JL.nil ?_
      refine QJ.then_normal ?_
      refine JC.seq ?_
      refine JC.seq ?_
      refine JC.region ?_
      refine JL.val (v := .int .i64 (0 : Int)) (QV.assign rfl) rfl rfl rfl ?_
      refine JL.nil ?_
      refine QJ.then_normal ?_
      refine JC.cutK (Y := Int × Unit) (fun y => match y with | (d25, _) => F8.j2 y21 (d25) = some r) (fun y => match y with | (d25, _) => [(5, .pointer (some ⟨b23, 0, none⟩))]) (fun y => match y with | (d25, _) => [Asr.of 5 (Enc.int .u8) (z24.v) y21.1, Asr.blk b23 101 [Seg.c (z24.v), Seg.c (.int .i64 d25)]]) ?_ ?_
      ·
        rintro ⟨d25, ⟨⟩⟩ hm
        unfold F8.j2 at hm
        show QJ _ _ [(5, .pointer (some ⟨b23, 0, none⟩))] [Asr.of 5 (Enc.int .u8) (z24.v) y21.1, Asr.blk b23 101 [Seg.c (z24.v), Seg.c (.int .i64 d25)]] _ _
        refine QJ.then_normal ?_
        refine JC.seq ?_
        refine JC.region ?_
        refine JL.val (v := .pointer (some ⟨b23, 0, none⟩)) (QV.move rfl) rfl rfl rfl ?_
        obtain ⟨y26, hc27, hm⟩ := bind_inv hm
        refine JL.mv (d := some 71) (MV.call (Lo := [Asr.blk b23 101 [Seg.c (z24.v), Seg.c (.int .i64 d25)], Asr.of 5 (Enc.int .u8) (z24.v) y21.1]) (Lr := []) (F41.spec (b23) (z24) (y21.1) (d25) _ hc27) rfl Try.func41 rfl rfl rfl [1, 0] [] rfl rfl rfl trivial) rfl rfl rfl ?_
        rintro _ _ ⟨_, ⟨rfl, rfl⟩, rfl⟩
        refine JL.val (v := .bool (decide (y26 < (8 : Int)))) (QV.lss rfl rfl) rfl rfl rfl ?_
        rcases ite_inv hm with ⟨h28, hm⟩ | ⟨h28, hm⟩
        ·
          refine JL.val (v := .bool true) (QV.eq (QV.move rfl) (congrArg Value.bool (decide_eq_true h28))) rfl rfl rfl ?_
          obtain ⟨y29, hc30, hm⟩ := bind_inv hm
          refine JL.mv (d := some 74) (MV.call (Lo := []) (Lr := [Asr.of 5 (Enc.int .u8) (z24.v) y21.1, Asr.blk b23 101 [Seg.c (z24.v), Seg.c (.int .i64 d25)]]) (F26.spec _ hc30) rfl Try.func26 rfl rfl rfl [] [0, 1] rfl rfl rfl trivial) rfl rfl rfl ?_
          rintro _ _ ⟨_, ⟨rfl, rfl⟩, rfl⟩
          refine JL.val (v := .bool y29) (QV.pickT rfl rfl) rfl rfl rfl ?_
          refine JL.val (v := .bool y29) (QV.assign rfl) rfl rfl rfl ?_
          refine JL.nil ?_
          refine QJ.then_normal ?_
          refine JC.ret ?_
          obtain rfl := Option.some.inj hm
          exact QJ.body (vs := [.bool y29]) (.inl rfl) rfl (ResVs.cons (ResV.tmp rfl) ResVs.nil) [] rfl rfl (.inr trivial) ⟨rfl, rfl⟩
        ·
          refine JL.val (v := .bool false) (QV.eq (QV.move rfl) (congrArg Value.bool (decide_eq_false h28))) rfl rfl rfl ?_
          refine JL.skip (d := some 74) rfl rfl rfl ?_
          refine JL.val (v := .bool false) (QV.pickF rfl rfl) rfl rfl rfl ?_
          refine JL.val (v := .bool false) (QV.assign rfl) rfl rfl rfl ?_
          refine JL.nil ?_
          refine QJ.then_normal ?_
          refine JC.ret ?_
          obtain rfl := Option.some.inj hm
          exact QJ.body (vs := [.bool false]) (.inl rfl) rfl (ResVs.cons (ResV.tmp rfl) ResVs.nil) [] rfl rfl (.inr trivial) ⟨rfl, rfl⟩
      ·
        refine JC.block ?_
        obtain ⟨y35, hl36, hmo37⟩ := bind_inv hm
        refine JC.loop (F8.b1 x2 y21) (fun x z => match x, z with | (d31, d32), _ => [(0, s1.v), (5, .pointer (some ⟨b23, 0, none⟩)), (6, .int .i64 d32)]) (fun x z => match x, z with | (d31, d32), _ => [Asr.vn (NE.pair (NE.flat (Enc.int .i64)) (NE.pair (NE.flat (Enc.int .i64)) (NE.pair (NE.flat (Enc.int .u32)) (NE.sl (Enc.int .u8))))) (s1.v) z3 x2, Asr.of 5 (Enc.int .u8) (z24.v) y21.1, Asr.blk b23 101 [Seg.c (z24.v), Seg.c (.int .i64 d31)]]) (y21.2, (0 : Int)) () y35 hl36 [5, 1, 0] (by exact ⟨rfl, rfl, rfl, trivial⟩) rfl rfl ?_
        rintro ⟨d31, d32⟩ ⟨⟩ s38 hm
        unfold F8.b1 at hm
        dsimp only at hm
        show JC _ _ _ [(0, s1.v), (5, .pointer (some ⟨b23, 0, none⟩)), (6, .int .i64 d32)] [Asr.vn (NE.pair (NE.flat (Enc.int .i64)) (NE.pair (NE.flat (Enc.int .i64)) (NE.pair (NE.flat (Enc.int .u32)) (NE.sl (Enc.int .u8))))) (s1.v) z3 x2, Asr.of 5 (Enc.int .u8) (z24.v) y21.1, Asr.blk b23 101 [Seg.c (z24.v), Seg.c (.int .i64 d31)]] _ _
        refine JC.seq ?_
        refine JC.seq ?_
        refine JC.region ?_
        refine JL.val (v := .int .i64 d32) (QV.move rfl) rfl rfl rfl ?_
        refine JL.val (v := s1.v) (QV.move rfl) rfl rfl rfl ?_
        refine JL.val (v := .int .i64 ((x2).length : Int)) (QV.lenN (RdN.vn 0 rfl) Try.underlying38 rfl) rfl rfl rfl ?_
        refine JL.val (v := .bool (decide (d32 < ((x2).length : Int)))) (QV.lss rfl rfl) rfl rfl rfl ?_
        refine JL.nil ?_
        refine QJ.then_normal ?_
        rcases ite_inv hm with ⟨h39, hm⟩ | ⟨h39, hm⟩
        ·
          refine JC.condT' rfl (decide_eq_true h39) ?_
          refine JC.skip ?_
          refine QJ.then_normal ?_
          refine JC.seq ?_
          refine JC.block ?_
          refine JC.seq ?_
          refine JC.region ?_
          refine JL.val (v := s1.v) (QV.move rfl) rfl rfl rfl ?_
          refine JL.val (v := .int .i64 d32) (QV.move rfl) rfl rfl rfl ?_
          obtain ⟨h40, hm⟩ := guard_inv hm
          refine JL.val (v := .pointer (some (elA (s1.v) (Int.toNat d32 * ((NE.pair (NE.flat (Enc.int .i64)) (NE.pair (NE.flat (Enc.int .i64)) (NE.pair (NE.flat (Enc.int .u32)) (NE.sl (Enc.int .u8))))).E).sz)))) (QV.indexN (RdN.vn 0 rfl) Try.underlying38 tk_44 rfl rfl h40) rfl rfl rfl ?_
          refine JL.val (v := .pointer (some ((elA (s1.v) (Int.toNat d32 * ((NE.pair (NE.flat (Enc.int .i64)) (NE.pair (NE.flat (Enc.int .i64)) (NE.pair (NE.flat (Enc.int .u32)) (NE.sl (Enc.int .u8))))).E).sz)).add 1))) (QV.fieldA fo_44_1 rfl) rfl rfl rfl ?_
          refine JL.val (v := .int .i64 (gd x2 d32).2.1) (QV.elFN (RdN.vn 0 rfl) tk_3 rfl h40 rfl) rfl rfl rfl ?_
          refine JL.val (v := .int .i64 (maxI (gd x2 d32).2.1 (0 : Int))) (QV.max2 rfl rfl) rfl rfl rfl ?_
          refine JL.val (v := .int .i64 (minI (maxI (gd x2 d32).2.1 (0 : Int)) (32 : Int))) (QV.min2 rfl rfl) rfl rfl rfl ?_
          refine JL.val (v := .int .i64 (minI (maxI (gd x2 d32).2.1 (0 : Int)) (32 : Int))) (QV.assign rfl) rfl rfl rfl ?_
          refine JL.nil ?_
          refine QJ.then_normal ?_
          refine JC.seq ?_
          refine JC.region ?_
          refine JL.val (v := .pointer (some ⟨b23, 0, none⟩)) (QV.move rfl) rfl rfl rfl ?_
          refine JL.val (v := .int .i64 (minI (maxI (gd x2 d32).2.1 (0 : Int)) (32 : Int))) (QV.move rfl) rfl rfl rfl ?_
          obtain ⟨y41, hc42, hm⟩ := bind_inv hm
          refine JL.mv (d := some 53) (MV.call (Lo := [Asr.blk b23 101 [Seg.c (z24.v), Seg.c (.int .i64 d31)], Asr.of 5 (Enc.int .u8) (z24.v) y21.1]) (Lr := [Asr.vn (NE.pair (NE.flat (Enc.int .i64)) (NE.pair (NE.flat (Enc.int .i64)) (NE.pair (NE.flat (Enc.int .u32)) (NE.sl (Enc.int .u8))))) (s1.v) z3 x2]) (F39.spec (b23) (z24) (y21.1) (d31) ((minI (maxI (gd x2 d32).2.1 (0 : Int)) (32 : Int))) _ hc42) rfl Try.func39 rfl rfl rfl [2, 1] [0] rfl rfl rfl trivial) rfl rfl rfl ?_
          rintro _ _ ⟨_, ⟨rfl, rfl⟩, rfl⟩
          refine JL.val (v := .tuple #[.int .u32 y41.1, .int .i64 y41.2.1]) (QV.move rfl) rfl rfl rfl ?_
          refine JL.val (v := .int .u32 y41.1) (QV.extract (vs := [.int .u32 y41.1, .int .i64 y41.2.1]) rfl rfl) rfl rfl rfl ?_
          refine JL.val (v := .int .i64 y41.2.1) (QV.extract (vs := [.int .u32 y41.1, .int .i64 y41.2.1]) rfl rfl) rfl rfl rfl ?_
          refine JL.val (v := .int .u32 y41.1) (QV.assign rfl) rfl rfl rfl ?_
          refine JL.val (v := .int .i64 y41.2.1) (QV.assign rfl) rfl rfl rfl ?_
          refine JL.nil ?_
          refine QJ.then_normal ?_
          refine JC.seq ?_
          refine JC.region ?_
          refine JL.val (v := .int .i64 y41.2.1) (QV.move rfl) rfl rfl rfl ?_
          refine JL.val (v := .bool (!(decide (y41.2.1 = (0 : Int))))) (QV.neq rfl rfl) rfl rfl rfl ?_
          rcases ite_inv hm with ⟨h43, hm⟩ | ⟨h43, hm⟩
          ·
            refine JL.val (v := .bool false) (QV.eq (QV.move rfl) (congrArg Value.bool (congrArg Bool.not (decide_eq_true h43)))) rfl rfl rfl ?_
            refine JL.val (v := .int .u32 y41.1) (QV.move rfl) rfl rfl rfl ?_
            refine JL.val (v := s1.v) (QV.move rfl) rfl rfl rfl ?_
            refine JL.val (v := .int .i64 d32) (QV.move rfl) rfl rfl rfl ?_
            refine JL.val (v := .pointer (some (elA (s1.v) (Int.toNat d32 * ((NE.pair (NE.flat (Enc.int .i64)) (NE.pair (NE.flat (Enc.int .i64)) (NE.pair (NE.flat (Enc.int .u32)) (NE.sl (Enc.int .u8))))).E).sz)))) (QV.indexN (RdN.vn 2 rfl) Try.underlying38 tk_44 rfl rfl h40) rfl rfl rfl ?_
            refine JL.val (v := .pointer (some ((elA (s1.v) (Int.toNat d32 * ((NE.pair (NE.flat (Enc.int .i64)) (NE.pair (NE.flat (Enc.int .i64)) (NE.pair (NE.flat (Enc.int .u32)) (NE.sl (Enc.int .u8))))).E).sz)).add 2))) (QV.fieldA fo_44_2 rfl) rfl rfl rfl ?_
            refine JL.val (v := .int .u32 (gd x2 d32).2.2.1) (QV.elFN (RdN.vn 2 rfl) tk_42 rfl h40 rfl) rfl rfl rfl ?_
            refine JL.val (v := .int .i64 (minI (maxI (gd x2 d32).2.1 (0 : Int)) (32 : Int))) (QV.move rfl) rfl rfl rfl ?_
            obtain ⟨y44, hc45, hm⟩ := bind_inv hm
            refine JL.mv (d := some 66) (MV.call (Lo := []) (Lr := [Asr.of 5 (Enc.int .u8) (z24.v) y21.1, Asr.blk b23 101 [Seg.c (z24.v), Seg.c (.int .i64 y41.2.2)], Asr.vn (NE.pair (NE.flat (Enc.int .i64)) (NE.pair (NE.flat (Enc.int .i64)) (NE.pair (NE.flat (Enc.int .u32)) (NE.sl (Enc.int .u8))))) (s1.v) z3 x2]) (F29.spec ((gd x2 d32).2.2.1) ((minI (maxI (gd x2 d32).2.1 (0 : Int)) (32 : Int))) _ hc45) rfl Try.func29 rfl rfl rfl [] [0, 1, 2] rfl rfl rfl trivial) rfl rfl rfl ?_
            rintro _ _ ⟨_, ⟨z46, rfl, rfl⟩, rfl⟩
            obtain ⟨y47, hc48, hm⟩ := bind_inv hm
            refine JL.mv (d := some 67) (MV.call (Lo := []) (Lr := [Asr.of 5 (Enc.int .u8) (z46.v) y44, Asr.of 5 (Enc.int .u8) (z24.v) y21.1, Asr.blk b23 101 [Seg.c (z24.v), Seg.c (.int .i64 y41.2.2)], Asr.vn (NE.pair (NE.flat (Enc.int .i64)) (NE.pair (NE.flat (Enc.int .i64)) (NE.pair (NE.flat (Enc.int .u32)) (NE.sl (Enc.int .u8))))) (s1.v) z3 x2]) (F40.spec (z46) (y44) _ hc48) rfl Try.func40 rfl rfl rfl [] [0, 1, 2, 3] rfl rfl rfl ⟨(Drv.of 0 rfl), trivial⟩) rfl rfl rfl ?_
            rintro _ _ ⟨_, ⟨rfl, rfl⟩, rfl⟩
            refine JL.val (v := .bool (!(decide (y41.1 = y47)))) (QV.neq rfl rfl) rfl rfl rfl ?_
            refine JL.val (v := .bool (!(decide (y41.1 = y47)))) (QV.pickF rfl rfl) rfl rfl rfl ?_
            refine JL.nil ?_
            refine QJ.then_normal ?_
            rcases ite_inv hm with ⟨h49, hm⟩ | ⟨h49, hm⟩
            ·
              refine JC.condF' rfl (congrArg Bool.not (decide_eq_true h49)) ?_
              refine JC.skip ?_
              refine QJ.block_normal ?_
              refine QJ.then_normal ?_
              refine JC.region ?_
              refine JL.val (v := .int .i64 d32) (QV.move rfl) rfl rfl rfl ?_
              refine JL.val (v := .int .i64 (IntKind.wrap .i64 (d32 + (1 : Int)))) (QV.add rfl rfl) rfl rfl rfl ?_
              refine JL.val (v := .int .i64 (IntKind.wrap .i64 (d32 + (1 : Int)))) (QV.assign rfl) rfl rfl rfl ?_
              refine JL.nil ?_
              obtain rfl := Option.some.inj hm
              exact QJ.round_on (y41.2.2, (IntKind.wrap .i64 (d32 + (1 : Int)))) () [3, 1, 2] (by exact ⟨rfl, rfl, rfl, trivial⟩) rfl rfl
            ·
              refine JC.condT' rfl (congrArg Bool.not (decide_eq_false h49)) ?_
              refine JC.seq ?_
              refine JC.region ?_
              refine JL.val (v := .bool false) (QV.assign rfl) rfl rfl rfl ?_
              refine JL.nil ?_
              refine QJ.then_normal ?_
              refine JC.ret ?_
              refine QJ.block_ret ?_
              refine QJ.then_ret ?_
              obtain rfl := Option.some.inj hm
              refine QJ.round_ret (fun hy => ?_)
              subst hy
              refine QJ.block_ret ?_
              refine QJ.cut_ret ?_
              refine QJ.then_ret ?_
              obtain rfl := Option.some.inj hmo37
              exact QJ.body (vs := [.bool false]) (.inl rfl) rfl (ResVs.cons (ResV.tmp rfl) ResVs.nil) [] rfl rfl (.inr trivial) ⟨rfl, rfl⟩
          ·
            refine JL.val (v := .bool true) (QV.eq (QV.move rfl) (congrArg Value.bool (congrArg Bool.not (decide_eq_false h43)))) rfl rfl rfl ?_
            refine JL.skip (d := some 59) rfl rfl rfl ?_
            refine JL.skip (d := some 60) rfl rfl rfl ?_
            refine JL.skip (d := some 61) rfl rfl rfl ?_
            refine JL.skip (d := some 62) rfl rfl rfl ?_
            refine JL.skip (d := some 63) rfl rfl rfl ?_
            refine JL.skip (d := some 64) rfl rfl rfl ?_
            refine JL.skip (d := some 65) rfl rfl rfl ?_
            refine JL.skip (d := some 66) rfl rfl rfl ?_
            refine JL.skip (d := some 67) rfl rfl rfl ?_
            refine JL.skip (d := some 68) rfl rfl rfl ?_
            refine JL.val (v := .bool true) (QV.pickT rfl rfl) rfl rfl rfl ?_
            refine JL.nil ?_
            refine QJ.then_normal ?_
            refine JC.condT rfl ?_
            refine JC.seq ?_
            refine JC.region ?_
            refine JL.val (v := .bool false) (QV.assign rfl) rfl rfl rfl ?_
            refine JL.nil ?_
            refine QJ.then_normal ?_
            refine JC.ret ?_
            refine QJ.block_ret ?_
            refine QJ.then_ret ?_
            obtain rfl := Option.some.inj hm
            refine QJ.round_ret (fun hy => ?_)
            subst hy
            refine QJ.block_ret ?_
            refine QJ.cut_ret ?_
            refine QJ.then_ret ?_
            obtain rfl := Option.some.inj hmo37
            exact QJ.body (vs := [.bool false]) (.inl rfl) rfl (ResVs.cons (ResV.tmp rfl) ResVs.nil) [] rfl rfl (.inr trivial) ⟨rfl, rfl⟩
        ·
          refine JC.condF' rfl (decide_eq_false h39) ?_
          refine JC.exit ?_
          refine QJ.then_exit ?_
          obtain rfl := Option.some.inj hm
          refine QJ.round_exit (fun hy => ?_)
          subst hy
          refine QJ.block_hit ?_
          exact QJ.cut_normal (d31, ()) hmo37 [1, 2] (by exact ⟨rfl, trivial⟩) rfl rfl
    ·
      refine JC.block ?_
      obtain ⟨y60, hl61, hmo62⟩ := bind_inv hm
      refine JC.loop (F8.b2 x2) (fun x z => match x, z with | (d51, d52, d53, d54), z50 => [(0, s1.v), (3, .pointer (some ⟨b12, 0, none⟩)), (4, .int .i64 d54)]) (fun x z => match x, z with | (d51, d52, d53, d54), z50 => [Asr.vn (NE.pair (NE.flat (Enc.int .i64)) (NE.pair (NE.flat (Enc.int .i64)) (NE.pair (NE.flat (Enc.int .u32)) (NE.sl (Enc.int .u8))))) (s1.v) z3 x2, Asr.of 5 (Enc.int .u8) (z50.v) d51, Asr.blk b12 98 [Seg.c (z50.v), Seg.c (.int .u64 d52), Seg.c (.int .i64 d53)]]) (y10.1, y10.2.1, y10.2.2, (0 : Int)) z13 y60 hl61 [2, 1, 0] (by exact ⟨rfl, rfl, rfl, trivial⟩) rfl rfl ?_
      rintro ⟨d51, d52, d53, d54⟩ z50 s63 hm
      unfold F8.b2 at hm
      dsimp only at hm
      show JC _ _ _ [(0, s1.v), (3, .pointer (some ⟨b12, 0, none⟩)), (4, .int .i64 d54)] [Asr.vn (NE.pair (NE.flat (Enc.int .i64)) (NE.pair (NE.flat (Enc.int .i64)) (NE.pair (NE.flat (Enc.int .u32)) (NE.sl (Enc.int .u8))))) (s1.v) z3 x2, Asr.of 5 (Enc.int .u8) (z50.v) d51, Asr.blk b12 98 [Seg.c (z50.v), Seg.c (.int .u64 d52), Seg.c (.int .i64 d53)]] _ _
      refine JC.seq ?_
      refine JC.seq ?_
      refine JC.region ?_
      refine JL.val (v := .int .i64 d54) (QV.move rfl) rfl rfl rfl ?_
      refine JL.val (v := s1.v) (QV.move rfl) rfl rfl rfl ?_
      refine JL.val (v := .int .i64 ((x2).length : Int)) (QV.lenN (RdN.vn 0 rfl) Try.underlying38 rfl) rfl rfl rfl ?_
      refine JL.val (v := .bool (decide (d54 < ((x2).length : Int)))) (QV.lss rfl rfl) rfl rfl rfl ?_
      refine JL.nil ?_
      refine QJ.then_normal ?_
      rcases ite_inv hm with ⟨h64, hm⟩ | ⟨h64, hm⟩
      ·
        refine JC.condT' rfl (decide_eq_true h64) ?_
        refine JC.skip ?_
        refine QJ.then_normal ?_
        refine JC.seq ?_
        refine JC.block ?_
        refine JC.regionT [Asr.vn (NE.pair (NE.flat (Enc.int .i64)) (NE.pair (NE.flat (Enc.int .i64)) (NE.pair (NE.flat (Enc.int .u32)) (NE.sl (Enc.int .u8))))) (s1.v) z3 x2] (fun t => false) [(0, true), (1, true), (2, true), (3, true), (4, true), (5, true), (6, true), (7, false), (8, false), (9, false), (10, false), (11, false), (12, false), (13, false)] (by kernel_rfl) (by kernel_rfl) (by kernel_rfl) rfl (fun hsel => ?_)
        refine JT.take (i := 0) (v := .pointer (some ⟨b12, 0, none⟩)) hsel rfl (QV.move rfl) rfl rfl rfl [0] rfl rfl ?_
        refine JT.take (i := 1) (v := s1.v) hsel rfl (QV.move rfl) rfl rfl rfl [0] rfl rfl ?_
        refine JT.take (i := 2) (v := .int .i64 d54) hsel rfl (QV.move rfl) rfl rfl rfl [0] rfl rfl ?_
        obtain ⟨h65, hm⟩ := guard_inv hm
        refine JT.take (i := 3) (v := .pointer (some (elA (s1.v) (Int.toNat d54 * ((NE.pair (NE.flat (Enc.int .i64)) (NE.pair (NE.flat (Enc.int .i64)) (NE.pair (NE.flat (Enc.int .u32)) (NE.sl (Enc.int .u8))))).E).sz)))) hsel rfl (QV.indexN (RdN.vn 0 rfl) Try.underlying38 tk_44 rfl rfl h65) rfl rfl rfl [0] rfl rfl ?_
        refine JT.take (i := 4) (v := .pointer (some ((elA (s1.v) (Int.toNat d54 * ((NE.pair (NE.flat (Enc.int .i64)) (NE.pair (NE.flat (Enc.int .i64)) (NE.pair (NE.flat (Enc.int .u32)) (NE.sl (Enc.int .u8))))).E).sz)).add 2))) hsel rfl (QV.fieldA fo_44_2 rfl) rfl rfl rfl [0] rfl rfl ?_
        refine JT.take (i := 5) (v := .int .u32 (gd x2 d54).2.2.1) hsel rfl (QV.elFN (RdN.vn 0 rfl) tk_42 rfl h65 rfl) rfl rfl rfl [0] rfl rfl ?_
        refine JT.take (i := 6) (v := s1.v) hsel rfl (QV.move rfl) rfl rfl rfl [0] rfl rfl ?_
        refine JT.only (i := 7) (d := some 27) rfl (MV.ofQV (v := .int .i64 d54) (QV.move rfl)) rfl rfl rfl ?_
        rintro _ _ ⟨rfl, rfl⟩
        refine ⟨fun _ => ⟨[0], rfl, rfl⟩, ?_⟩
        refine JT.only (i := 8) (d := some 28) rfl (MV.ofQV (v := .pointer (some (elA (s1.v) (Int.toNat d54 * ((NE.pair (NE.flat (Enc.int .i64)) (NE.pair (NE.flat (Enc.int .i64)) (NE.pair (NE.flat (Enc.int .u32)) (NE.sl (Enc.int .u8))))).E).sz)))) (QV.indexN (RdN.vn 0 rfl) Try.underlying38 tk_44 rfl rfl h65)) rfl rfl rfl ?_
        rintro _ _ ⟨rfl, rfl⟩
        refine ⟨fun _ => ⟨[0], rfl, rfl⟩, ?_⟩
        refine JT.only (i := 9) (d := some 29) rfl (MV.ofQV (v := .pointer (some ((elA (s1.v) (Int.toNat d54 * ((NE.pair (NE.flat (Enc.int .i64)) (NE.pair (NE.flat (Enc.int .i64)) (NE.pair (NE.flat (Enc.int .u32)) (NE.sl (Enc.int .u8))))).E).sz)).add 1))) (QV.fieldA fo_44_1 rfl)) rfl rfl rfl ?_
        rintro _ _ ⟨rfl, rfl⟩
        refine ⟨fun _ => ⟨[0], rfl, rfl⟩, ?_⟩
        refine JT.only (i := 10) (d := some 30) rfl (MV.ofQV (v := .int .i64 (gd x2 d54).2.1) (QV.elFN (RdN.vn 0 rfl) tk_3 rfl h65 rfl)) rfl rfl rfl ?_
        rintro _ _ ⟨rfl, rfl⟩
        refine ⟨fun _ => ⟨[0], rfl, rfl⟩, ?_⟩
        refine JT.only (i := 11) (d := some 31) rfl (MV.ofQV (v := .int .i64 (maxI (gd x2 d54).2.1 (0 : Int))) (QV.max2 rfl rfl)) rfl rfl rfl ?_
        rintro _ _ ⟨rfl, rfl⟩
        refine ⟨fun _ => ⟨[0], rfl, rfl⟩, ?_⟩
        refine JT.only (i := 12) (d := some 32) rfl (MV.ofQV (v := .int .i64 (minI (maxI (gd x2 d54).2.1 (0 : Int)) (32 : Int))) (QV.min2 rfl rfl)) rfl rfl rfl ?_
        rintro _ _ ⟨rfl, rfl⟩
        refine ⟨fun _ => ⟨[0], rfl, rfl⟩, ?_⟩
        obtain ⟨y66, hc67, hm⟩ := bind_inv hm
        refine JT.only (i := 13) (d := some 33) rfl (MV.call (Lo := [Asr.blk b12 98 [Seg.c (z50.v), Seg.c (.int .u64 d52), Seg.c (.int .i64 d53)], Asr.of 5 (Enc.int .u8) (z50.v) d51]) (Lr := [Asr.vn (NE.pair (NE.flat (Enc.int .i64)) (NE.pair (NE.flat (Enc.int .i64)) (NE.pair (NE.flat (Enc.int .u32)) (NE.sl (Enc.int .u8))))) (s1.v) z3 x2]) (F28.spec (b12) (z50) (d51) (d52) (d53) ((gd x2 d54).2.2.1) ((minI (maxI (gd x2 d54).2.1 (0 : Int)) (32 : Int))) _ hc67) rfl Try.func28 rfl rfl rfl [2, 1] [0] rfl rfl rfl trivial) rfl rfl rfl ?_
        rintro _ _ ⟨_, ⟨z68, rfl, rfl⟩, rfl⟩
        refine ⟨fun _ => ⟨[2], rfl, rfl⟩, ?_⟩
        refine JT.grow [Asr.of 5 (Enc.int .u8) (z68.v) y66.1, Asr.blk b12 98 [Seg.c (z68.v), Seg.c (.int .u64 y66.2.1), Seg.c (.int .i64 y66.2.2)], Asr.vn (NE.pair (NE.flat (Enc.int .i64)) (NE.pair (NE.flat (Enc.int .i64)) (NE.pair (NE.flat (Enc.int .u32)) (NE.sl (Enc.int .u8))))) (s1.v) z3 x2] [2] rfl rfl ?_
        refine JT.nil ?_
        refine QJ.block_normal ?_
        refine QJ.then_normal ?_
        refine JC.region ?_
        refine JL.val (v := .int .i64 d54) (QV.move rfl) rfl rfl rfl ?_
        refine JL.val (v := .int .i64 (IntKind.wrap .i64 (d54 + (1 : Int)))) (QV.add rfl rfl) rfl rfl rfl ?_
        refine JL.val (v := .int .i64 (IntKind.wrap .i64 (d54 + (1 : Int)))) (QV.assign rfl) rfl rfl rfl ?_
        refine JL.nil ?_
        obtain rfl := Option.some.inj hm
        exact QJ.round_on (y66.1, y66.2.1, y66.2.2, (IntKind.wrap .i64 (d54 + (1 : Int)))) z68 [2, 0, 1] (by exact ⟨rfl, rfl, rfl, trivial⟩) rfl rfl
      ·
        refine JC.condF' rfl (decide_eq_false h64) ?_
        refine JC.exit ?_
        refine QJ.then_exit ?_
        obtain rfl := Option.some.inj hm
        refine QJ.round_exit (fun hy => ?_)
        subst hy
        refine QJ.block_hit ?_
        exact QJ.cut_normal ((d51, d52, d53), z50) hmo62 [0, 1, 2] (by exact ⟨rfl, rfl, trivial⟩) rfl rfl

end Go.Proofs.Ytpophpendlnehaa
