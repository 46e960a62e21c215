/- Written by gen.py: functions and their contracts. -/
import Derived.Test.YtedokgdilpfomaaMatx2
namespace Go.Proofs.Ytedokgdilpfomaa
open Go Go.Eng Go.Proofs
set_option linter.unusedVariables false
set_option linter.unusedSimpArgs false
/-! ### 29: drogher/drogherref15.May -/
noncomputable def F29.j1   : Option Bool :=
  some true
noncomputable def F29.j2 (d6 : Int)  : Option (Int ⊕ ((Bool) ⊕ Unit)) :=
  some (.inl (IntKind.wrap .i64 (d6 + (1 : Int))))
noncomputable def F29.b1 (x2 : List (Int × Int × Int)) (x3 : Int) (x4 : Int) : Int → Option (Int ⊕ ((Bool) ⊕ Unit))
  | d6 => (if d6 < ((x2).length : Int) then (if 0 ≤ d6 ∧ d6 < ((x2).length : Int) then ((F56.m ((gd x2 d6).1) ((gd x2 d6).2.1) ((gd x2 d6).2.2) (x3) (x4)).bind fun y14 => (if y14 = true then (if (0 : Int) < d6 then (if 0 ≤ (IntKind.wrap .i64 (d6 - (1 : Int))) ∧ (IntKind.wrap .i64 (d6 - (1 : Int))) < ((x2).length : Int) then (if (IntKind.wrap .i64 ((gd x2 d6).1 - (gd x2 (IntKind.wrap .i64 (d6 - (1 : Int)))).1)) < (gd x2 (IntKind.wrap .i64 (d6 - (1 : Int)))).2.2 then some (.inr (.inl (false))) else F29.j2 d6) else none) else F29.j2 d6) else some (.inr (.inl (false))))) else none) else some (.inr (.inr (()))))
noncomputable def F29.m (x2 : List (Int × Int × Int)) (x3 : Int) (x4 : Int) : Option Bool :=
  ((loop (F29.b1 x2 x3 x4) (0 : Int)).bind fun y => match y with | .inl r => some r | .inr _ => F29.j1)
set_option maxRecDepth 100000 in
set_option maxHeartbeats 4000000 in
theorem F29.spec (s1 : SlV) (x2 : List (Int × Int × Int)) (x3 : Int) (x4 : Int) (r : Bool) (hm : F29.m x2 x3 x4 = some r) :
    Ctr Try.prog false 29 [s1.v, .int .i64 x3, .int .i64 x4] [Asr.vw (Enc.pair (Enc.int .i64) (Enc.pair (Enc.int .i64) (Enc.int .i64))) (s1.v) x2] (fun v L' => v = .bool r ∧ L' = []) := by
  refine Ctr.intro (n := 45) (env := [(0, s1.v), (1, .int .i64 x3), (2, .int .i64 x4)]) Try.func29 rfl rfl rfl rfl (fun c => ?_)
  unfold F29.m at hm
  refine JC.seq ?_
  refine JC.region ?_
  refine JL.val (v := .bool false) (QV.assign rfl) rfl rfl rfl ?_
  refine JL.nil ?_
  refine QJ.then_normal ?_
  refine JC.seq ?_
  refine JC.seq ?_
  refine JC.region ?_
  refine JL.val (v := s1.v) (QV.move rfl) rfl rfl rfl ?_
  refine JL.val (v := .int .i64 ((x2).length : Int)) (QV.len (Rdg.vw 0 rfl) Try.underlying47 rfl) rfl rfl rfl ?_
  refine JL.val (v := .int .i64 (0 : Int)) (QV.move rfl) rfl rfl rfl ?_
  refine JL.nil ?_
  refine QJ.then_normal ?_
  refine JC.cutK (Y := Unit × Unit) (fun y => match y with | (_, _) => F29.j1 = some r) (fun y => match y with | (_, _) => []) (fun y => match y with | (_, _) => []) ?_ ?_
  ·
    rintro ⟨⟨⟩, ⟨⟩⟩ hm
    unfold F29.j1 at hm
    show QJ _ _ [] [] _ _
    refine QJ.then_normal ?_
    refine JC.seq ?_
    refine JC.region ?_
    refine JL.val (v := .bool true) (QV.assign rfl) rfl rfl rfl ?_
    refine JL.nil ?_
    refine QJ.then_normal ?_
    refine JC.ret ?_
    obtain rfl := Option.some.inj hm
    exact QJ.body (vs := [.bool true]) (.inl rfl) rfl (ResVs.cons (ResV.tmp rfl) ResVs.nil) [] rfl rfl (.inr trivial) ⟨rfl, rfl⟩
  ·
    refine JC.block ?_
    obtain ⟨y8, hl9, hmo10⟩ := bind_inv hm
    refine JC.loop (F29.b1 x2 x3 x4) (fun x z => match x, z with | d6, _ => [(0, s1.v), (1, .int .i64 x3), (2, .int .i64 x4), (9, .int .i64 ((x2).length : Int)), (10, .int .i64 d6)]) (fun x z => match x, z with | d6, _ => [Asr.vw (Enc.pair (Enc.int .i64) (Enc.pair (Enc.int .i64) (Enc.int .i64))) (s1.v) x2]) (0 : Int) () y8 hl9 [0] (by exact ⟨rfl, rfl, rfl, rfl, rfl, trivial⟩) rfl rfl ?_
    rintro d6 ⟨⟩ s11 hm
    unfold F29.b1 at hm
    dsimp only at hm
    show JC _ _ _ [(0, s1.v), (1, .int .i64 x3), (2, .int .i64 x4), (9, .int .i64 ((x2).length : Int)), (10, .int .i64 d6)] [Asr.vw (Enc.pair (Enc.int .i64) (Enc.pair (Enc.int .i64) (Enc.int .i64))) (s1.v) x2] _ _
    refine JC.seq ?_
    refine JC.region ?_
    refine JL.val (v := .bool (decide (d6 < ((x2).length : Int)))) (QV.lss rfl rfl) rfl rfl rfl ?_
    refine JL.nil ?_
    refine QJ.then_normal ?_
    refine JC.seq ?_
    rcases ite_inv hm with ⟨h12, hm⟩ | ⟨h12, hm⟩
    ·
      refine JC.condT' rfl (decide_eq_true h12) ?_
      refine JC.skip ?_
      refine QJ.then_normal ?_
      refine JC.seq ?_
      refine JC.cutK (Y := Unit × Unit) (fun y => match y with | (_, _) => F29.j2 d6 = some s11) (fun y => match y with | (_, _) => [(0, s1.v), (1, .int .i64 x3), (2, .int .i64 x4), (9, .int .i64 ((x2).length : Int)), (10, .int .i64 d6)]) (fun y => match y with | (_, _) => [Asr.vw (Enc.pair (Enc.int .i64) (Enc.pair (Enc.int .i64) (Enc.int .i64))) (s1.v) x2]) ?_ ?_
      ·
        rintro ⟨⟨⟩, ⟨⟩⟩ hm
        unfold F29.j2 at hm
        show QJ _ _ [(0, s1.v), (1, .int .i64 x3), (2, .int .i64 x4), (9, .int .i64 ((x2).length : Int)), (10, .int .i64 d6)] [Asr.vw (Enc.pair (Enc.int .i64) (Enc.pair (Enc.int .i64) (Enc.int .i64))) (s1.v) x2] _ _
        refine QJ.then_normal ?_
        refine JC.region ?_
        refine JL.val (v := .int .i64 (IntKind.wrap .i64 (d6 + (1 : Int)))) (QV.add rfl rfl) rfl rfl rfl ?_
        refine JL.val (v := .int .i64 (IntKind.wrap .i64 (d6 + (1 : Int)))) (QV.move rfl) rfl rfl rfl ?_
        refine JL.nil ?_
        obtain rfl := Option.some.inj hm
        exact QJ.round_on (IntKind.wrap .i64 (d6 + (1 : Int))) () [0] (by exact ⟨rfl, rfl, rfl, rfl, rfl, trivial⟩) rfl rfl
      ·
        refine JC.block ?_
        refine JC.seq ?_
        refine JC.region ?_
        refine JL.val (v := .int .i64 d6) (QV.move rfl) rfl rfl rfl ?_
        refine JL.val (v := .int .i64 d6) (QV.assign rfl) rfl rfl rfl ?_
        refine JL.nil ?_
        refine QJ.then_normal ?_
        refine JC.seq ?_
        refine JC.seq ?_
        refine JC.region ?_
        refine JL.val (v := s1.v) (QV.move rfl) rfl rfl rfl ?_
        refine JL.val (v := .int .i64 d6) (QV.move rfl) rfl rfl rfl ?_
        obtain ⟨h13, hm⟩ := guard_inv hm
        refine JL.val (v := .pointer (some (elA (s1.v) (Int.toNat d6 * ((Enc.pair (Enc.int .i64) (Enc.pair (Enc.int .i64) (Enc.int .i64)))).sz)))) (QV.indexA (Rdg.vw 0 rfl) Try.underlying47 tk_52 rfl rfl h13) rfl rfl rfl ?_
        refine JL.val (v := .agg #[.int .i64 (gd x2 d6).1, .int .i64 (gd x2 d6).2.1, .int .i64 (gd x2 d6).2.2]) (QV.eq (QV.elN (Rdg.vw 0 rfl) tk_52 rfl h13) rfl) rfl rfl rfl ?_
        refine JL.val (v := .int .i64 x3) (QV.move rfl) rfl rfl rfl ?_
        refine JL.val (v := .int .i64 x4) (QV.move rfl) rfl rfl rfl ?_
        obtain ⟨y14, hc15, hm⟩ := bind_inv hm
        refine JL.mv (d := some 19) (MV.call (Lo := []) (Lr := [Asr.vw (Enc.pair (Enc.int .i64) (Enc.pair (Enc.int .i64) (Enc.int .i64))) (s1.v) x2]) (F56.spec ((gd x2 d6).1) ((gd x2 d6).2.1) ((gd x2 d6).2.2) (x3) (x4) _ hc15) rfl Try.func56 rfl rfl rfl [] [0] rfl rfl rfl trivial) rfl rfl rfl ?_
        rintro _ _ ⟨_, ⟨rfl, rfl⟩, rfl⟩
        refine JL.val (v := .bool (!y14)) (QV.not rfl) rfl rfl rfl ?_
        refine JL.nil ?_
        refine QJ.then_normal ?_
        rcases ite_inv hm with ⟨h16, hm⟩ | ⟨h16, hm⟩
        ·
          refine JC.condF' rfl (congrArg Bool.not h16) ?_
          refine JC.skip ?_
          refine QJ.then_normal ?_
          refine JC.seq ?_
          refine JC.regionT [Asr.vw (Enc.pair (Enc.int .i64) (Enc.pair (Enc.int .i64) (Enc.int .i64))) (s1.v) x2] (fun t => false) [(0, false), (1, false), (2, false), (3, true), (4, true), (5, true), (6, true), (7, true), (8, true), (9, true), (10, true), (11, true), (12, true), (13, true), (14, true), (15, true), (16, false), (17, false), (18, false), (19, false), (20, false), (21, false), (22, false)] (by kernel_rfl) (by kernel_rfl) (by kernel_rfl) rfl (fun hsel => ?_)
          refine JT.only (i := 0) (d := some 21) rfl (MV.ofQV (v := .int .i64 d6) (QV.move rfl)) rfl rfl rfl ?_
          rintro _ _ ⟨rfl, rfl⟩
          refine ⟨fun _ => ⟨[0], rfl, rfl⟩, ?_⟩
          refine JT.only (i := 1) (d := some 22) rfl (MV.ofQV (v := .bool (decide ((0 : Int) < d6))) (QV.gtr rfl rfl)) rfl rfl rfl ?_
          rintro _ _ ⟨rfl, rfl⟩
          refine ⟨fun _ => ⟨[0], rfl, rfl⟩, ?_⟩
          rcases ite_inv hm with ⟨h17, hm⟩ | ⟨h17, hm⟩
          ·
            refine JT.only (i := 2) (d := some 23) rfl (MV.ofQV (v := .bool true) (QV.eq (QV.move rfl) (congrArg Value.bool (decide_eq_true h17)))) rfl rfl rfl ?_
            rintro _ _ ⟨rfl, rfl⟩
            refine ⟨fun _ => ⟨[0], rfl, rfl⟩, ?_⟩
            refine JT.take (i := 3) (v := s1.v) hsel rfl (QV.move rfl) rfl rfl rfl [0] rfl rfl ?_
            refine JT.take (i := 4) (v := .int .i64 d6) hsel rfl (QV.move rfl) rfl rfl rfl [0] rfl rfl ?_
            refine JT.take (i := 5) (v := .pointer (some (elA (s1.v) (Int.toNat d6 * ((Enc.pair (Enc.int .i64) (Enc.pair (Enc.int .i64) (Enc.int .i64)))).sz)))) hsel rfl (QV.indexA (Rdg.vw 0 rfl) Try.underlying47 tk_52 rfl rfl h13) rfl rfl rfl [0] rfl rfl ?_
            refine JT.take (i := 6) (v := .pointer (some ((elA (s1.v) (Int.toNat d6 * ((Enc.pair (Enc.int .i64) (Enc.pair (Enc.int .i64) (Enc.int .i64)))).sz)).add 0))) hsel rfl (QV.fieldA fo_52_0 rfl) rfl rfl rfl [0] rfl rfl ?_
            refine JT.take (i := 7) (v := .int .i64 (gd x2 d6).1) hsel rfl (QV.elF (Rdg.vw 0 rfl) tk_3 rfl h13 rfl) rfl rfl rfl [0] rfl rfl ?_
            refine JT.take (i := 8) (v := s1.v) hsel rfl (QV.move rfl) rfl rfl rfl [0] rfl rfl ?_
            refine JT.take (i := 9) (v := .int .i64 d6) hsel rfl (QV.move rfl) rfl rfl rfl [0] rfl rfl ?_
            refine JT.take (i := 10) (v := .int .i64 (IntKind.wrap .i64 (d6 - (1 : Int)))) hsel rfl (QV.sub rfl rfl) rfl rfl rfl [0] rfl rfl ?_
            obtain ⟨h18, hm⟩ := guard_inv hm
            refine JT.take (i := 11) (v := .pointer (some (elA (s1.v) (Int.toNat (IntKind.wrap .i64 (d6 - (1 : Int))) * ((Enc.pair (Enc.int .i64) (Enc.pair (Enc.int .i64) (Enc.int .i64)))).sz)))) hsel rfl (QV.indexA (Rdg.vw 0 rfl) Try.underlying47 tk_52 rfl rfl h18) rfl rfl rfl [0] rfl rfl ?_
            refine JT.take (i := 12) (v := .pointer (some ((elA (s1.v) (Int.toNat (IntKind.wrap .i64 (d6 - (1 : Int))) * ((Enc.pair (Enc.int .i64) (Enc.pair (Enc.int .i64) (Enc.int .i64)))).sz)).add 0))) hsel rfl (QV.fieldA fo_52_0 rfl) rfl rfl rfl [0] rfl rfl ?_
            refine JT.take (i := 13) (v := .int .i64 (gd x2 (IntKind.wrap .i64 (d6 - (1 : Int)))).1) hsel rfl (QV.elF (Rdg.vw 0 rfl) tk_3 rfl h18 rfl) rfl rfl rfl [0] rfl rfl ?_
            refine JT.take (i := 14) (v := .int .i64 (IntKind.wrap .i64 ((gd x2 d6).1 - (gd x2 (IntKind.wrap .i64 (d6 - (1 : Int)))).1))) hsel rfl (QV.sub rfl rfl) rfl rfl rfl [0] rfl rfl ?_
            refine JT.take (i := 15) (v := s1.v) hsel rfl (QV.move rfl) rfl rfl rfl [0] rfl rfl ?_
            refine JT.only (i := 16) (d := some 37) rfl (MV.ofQV (v := .int .i64 d6) (QV.move rfl)) rfl rfl rfl ?_
            rintro _ _ ⟨rfl, rfl⟩
            refine ⟨fun _ => ⟨[0], rfl, rfl⟩, ?_⟩
            refine JT.only (i := 17) (d := some 38) rfl (MV.ofQV (v := .int .i64 (IntKind.wrap .i64 (d6 - (1 : Int)))) (QV.sub rfl rfl)) rfl rfl rfl ?_
            rintro _ _ ⟨rfl, rfl⟩
            refine ⟨fun _ => ⟨[0], rfl, rfl⟩, ?_⟩
            refine JT.only (i := 18) (d := some 39) rfl (MV.ofQV (v := .pointer (some (elA (s1.v) (Int.toNat (IntKind.wrap .i64 (d6 - (1 : Int))) * ((Enc.pair (Enc.int .i64) (Enc.pair (Enc.int .i64) (Enc.int .i64)))).sz)))) (QV.indexA (Rdg.vw 0 rfl) Try.underlying47 tk_52 rfl rfl h18)) rfl rfl rfl ?_
            rintro _ _ ⟨rfl, rfl⟩
            refine ⟨fun _ => ⟨[0], rfl, rfl⟩, ?_⟩
            refine JT.only (i := 19) (d := some 40) rfl (MV.ofQV (v := .pointer (some ((elA (s1.v) (Int.toNat (IntKind.wrap .i64 (d6 - (1 : Int))) * ((Enc.pair (Enc.int .i64) (Enc.pair (Enc.int .i64) (Enc.int .i64)))).sz)).add 2))) (QV.fieldA fo_52_2 rfl)) rfl rfl rfl ?_
            rintro _ _ ⟨rfl, rfl⟩
            refine ⟨fun _ => ⟨[0], rfl, rfl⟩, ?_⟩
            refine JT.only (i := 20) (d := some 41) rfl (MV.ofQV (v := .int .i64 (gd x2 (IntKind.wrap .i64 (d6 - (1 : Int)))).2.2) (QV.elF (Rdg.vw 0 rfl) tk_3 rfl h18 rfl)) rfl rfl rfl ?_
            rintro _ _ ⟨rfl, rfl⟩
            refine ⟨fun _ => ⟨[0], rfl, rfl⟩, ?_⟩
            refine JT.only (i := 21) (d := some 42) rfl (MV.ofQV (v := .bool (decide ((IntKind.wrap .i64 ((gd x2 d6).1 - (gd x2 (IntKind.wrap .i64 (d6 - (1 : Int)))).1)) < (gd x2 (IntKind.wrap .i64 (d6 - (1 : Int)))).2.2))) (QV.lss rfl rfl)) rfl rfl rfl ?_
            rintro _ _ ⟨rfl, rfl⟩
            refine ⟨fun _ => ⟨[0], rfl, rfl⟩, ?_⟩
            refine JT.only (i := 22) (d := some 43) rfl (MV.ofQV (v := .bool (decide ((IntKind.wrap .i64 ((gd x2 d6).1 - (gd x2 (IntKind.wrap .i64 (d6 - (1 : Int)))).1)) < (gd x2 (IntKind.wrap .i64 (d6 - (1 : Int)))).2.2))) (QV.pickT rfl rfl)) rfl rfl rfl ?_
            rintro _ _ ⟨rfl, rfl⟩
            refine ⟨fun _ => ⟨[0], rfl, rfl⟩, ?_⟩
            refine JT.nil ?_
            refine QJ.then_normal ?_
            rcases ite_inv hm with ⟨h19, hm⟩ | ⟨h19, hm⟩
            ·
              refine JC.condT' rfl (decide_eq_true h19) ?_
              refine JC.seq ?_
              refine JC.region ?_
              refine JL.val (v := .bool false) (QV.assign rfl) rfl rfl rfl ?_
              refine JL.nil ?_
              refine QJ.then_normal ?_
              refine JC.ret ?_
              refine QJ.block_ret ?_
              refine QJ.cut_ret ?_
              refine QJ.then_ret ?_
              obtain rfl := Option.some.inj hm
              refine QJ.round_ret (fun hy => ?_)
              subst hy
              refine QJ.block_ret ?_
              refine QJ.cut_ret ?_
              refine QJ.then_ret ?_
              obtain rfl := Option.some.inj hmo10
              exact QJ.body (vs := [.bool false]) (.inl rfl) rfl (ResVs.cons (ResV.tmp rfl) ResVs.nil) [] rfl rfl (.inr trivial) ⟨rfl, rfl⟩
            ·
              refine JC.condF' rfl (decide_eq_false h19) ?_
              refine JC.skip ?_
              refine QJ.block_normal ?_
              exact QJ.cut_normal ((), ()) hm [0] (by exact ⟨rfl, rfl, rfl, rfl, rfl, trivial⟩) rfl rfl
          ·
            refine JT.only (i := 2) (d := some 23) rfl (MV.ofQV (v := .bool false) (QV.eq (QV.move rfl) (congrArg Value.bool (decide_eq_false h17)))) rfl rfl rfl ?_
            rintro _ _ ⟨rfl, rfl⟩
            refine ⟨fun _ => ⟨[0], rfl, rfl⟩, ?_⟩
            refine JT.skip (i := 3) (d := some 24) hsel rfl rfl rfl rfl [0] rfl rfl ?_
            refine JT.skip (i := 4) (d := some 25) hsel rfl rfl rfl rfl [0] rfl rfl ?_
            refine JT.skip (i := 5) (d := some 26) hsel rfl rfl rfl rfl [0] rfl rfl ?_
            refine JT.skip (i := 6) (d := some 27) hsel rfl rfl rfl rfl [0] rfl rfl ?_
            refine JT.skip (i := 7) (d := some 28) hsel rfl rfl rfl rfl [0] rfl rfl ?_
            refine JT.skip (i := 8) (d := some 29) hsel rfl rfl rfl rfl [0] rfl rfl ?_
            refine JT.skip (i := 9) (d := some 30) hsel rfl rfl rfl rfl [0] rfl rfl ?_
            refine JT.skip (i := 10) (d := some 31) hsel rfl rfl rfl rfl [0] rfl rfl ?_
            refine JT.skip (i := 11) (d := some 32) hsel rfl rfl rfl rfl [0] rfl rfl ?_
            refine JT.skip (i := 12) (d := some 33) hsel rfl rfl rfl rfl [0] rfl rfl ?_
            refine JT.skip (i := 13) (d := some 34) hsel rfl rfl rfl rfl [0] rfl rfl ?_
            refine JT.skip (i := 14) (d := some 35) hsel rfl rfl rfl rfl [0] rfl rfl ?_
            refine JT.skip (i := 15) (d := some 36) hsel rfl rfl rfl rfl [0] rfl rfl ?_
            refine JT.skipO (i := 16) (d := some 37) rfl rfl rfl rfl [0] rfl rfl ?_
            refine JT.skipO (i := 17) (d := some 38) rfl rfl rfl rfl [0] rfl rfl ?_
            refine JT.skipO (i := 18) (d := some 39) rfl rfl rfl rfl [0] rfl rfl ?_
            refine JT.skipO (i := 19) (d := some 40) rfl rfl rfl rfl [0] rfl rfl ?_
            refine JT.skipO (i := 20) (d := some 41) rfl rfl rfl rfl [0] rfl rfl ?_
            refine JT.skipO (i := 21) (d := some 42) rfl rfl rfl rfl [0] rfl rfl ?_
            refine JT.only (i := 22) (d := some 43) rfl (MV.ofQV (v := .bool false) (QV.pickF rfl rfl)) rfl rfl rfl ?_
            rintro _ _ ⟨rfl, rfl⟩
            refine ⟨fun _ => ⟨[0], rfl, rfl⟩, ?_⟩
            refine JT.nil ?_
            refine QJ.then_normal ?_
            refine JC.condF rfl ?_
            refine JC.skip ?_
            refine QJ.block_normal ?_
            exact QJ.cut_normal ((), ()) hm [0] (by exact ⟨rfl, rfl, rfl, rfl, rfl, trivial⟩) rfl rfl
        ·
          refine JC.condT' rfl (congrArg Bool.not (bfalse h16)) ?_
          refine JC.seq ?_
          refine JC.region ?_
          refine JL.val (v := .bool false) (QV.assign rfl) rfl rfl rfl ?_
          refine JL.nil ?_
          refine QJ.then_normal ?_
          refine JC.ret ?_
          refine QJ.then_ret ?_
          refine QJ.block_ret ?_
          refine QJ.cut_ret ?_
          refine QJ.then_ret ?_
          obtain rfl := Option.some.inj hm
          refine QJ.round_ret (fun hy => ?_)
          subst hy
          refine QJ.block_ret ?_
          refine QJ.cut_ret ?_
          refine QJ.then_ret ?_
          obtain rfl := Option.some.inj hmo10
          exact QJ.body (vs := [.bool false]) (.inl rfl) rfl (ResVs.cons (ResV.tmp rfl) ResVs.nil) [] rfl rfl (.inr trivial) ⟨rfl, rfl⟩
    ·
      refine JC.condF' rfl (decide_eq_false h12) ?_
      refine JC.exit ?_
      refine QJ.then_exit ?_
      obtain rfl := Option.some.inj hm
      refine QJ.round_exit (fun hy => ?_)
      subst hy
      refine QJ.block_hit ?_
      exact QJ.cut_normal ((), ()) hmo10 [] trivial rfl rfl

/-! ### 30: drogher/drogherref15.Same -/
noncomputable def F30.j1  (d13 : Int) : Option Int :=
  some d13
noncomputable def F30.j2 (d15 : Int) (d25 : Int) : Option ((Int × Int) ⊕ Int) :=
  some (.inl (d25, (IntKind.wrap .i64 (d15 + (1 : Int)))))
noncomputable def F30.b1 (x2 : List Int) (x4 : List Int) (x5 : Int) (x6 : Int) (x7 : Int) : (Int × Int) → Option ((Int × Int) ⊕ Int)
  | (d14, d15) => (if d15 < x7 then (if 0 ≤ (IntKind.wrap .i64 (x6 + d15)) ∧ (IntKind.wrap .i64 (x6 + d15)) < ((x2).length : Int) then (if 0 ≤ (IntKind.wrap .i64 (x5 + d15)) ∧ (IntKind.wrap .i64 (x5 + d15)) < ((x4).length : Int) then (if (gd x2 (IntKind.wrap .i64 (x6 + d15))) = (gd x4 (IntKind.wrap .i64 (x5 + d15))) then F30.j2 d15 ((IntKind.wrap .i64 (d14 + (1 : Int)))) else F30.j2 d15 (d14)) else none) else none) else some (.inr d14))
noncomputable def F30.m (x2 : List Int) (x4 : List Int) (x5 : Int) (x6 : Int) (x7 : Int) : Option Int :=
  ((F56.m (x5) (x6) (x7) (((x2).length : Int)) (((x4).length : Int))).bind fun y10 => (if y10 = true then ((loop (F30.b1 x2 x4 x5 x6 x7) ((0 : Int), (0 : Int))).bind fun y => match y with | d13 => F30.j1 (d13)) else some (0 : Int)))
set_option maxRecDepth 100000 in
set_option maxHeartbeats 4000000 in
theorem F30.spec (s1 : SlV) (s3 : SlV) (x2 : List Int) (x4 : List Int) (x5 : Int) (x6 : Int) (x7 : Int) (r : Int) (hm : F30.m x2 x4 x5 x6 x7 = some r) :
    Ctr Try.prog false 30 [s1.v, s3.v, .agg #[.int .i64 x5, .int .i64 x6, .int .i64 x7]] [Asr.vw (Enc.int .u8) (s1.v) x2, Asr.vw (Enc.int .u8) (s3.v) x4] (fun v L' => v = .int .i64 r ∧ L' = []) := by
  refine Ctr.intro (n := 40) (env := [(0, s1.v), (1, s3.v), (2, .agg #[.int .i64 x5, .int .i64 x6, .int .i64 x7])]) Try.func30 rfl rfl rfl rfl (fun c => ?_)
  unfold F30.m at hm
  refine JC.seq ?_
  refine JC.region ?_
  refine JL.mv (d := some 5) (MV.box [Seg.c (.int .i64 x5), Seg.c (.int .i64 x6), Seg.c (.int .i64 x7)] rfl (fun w hs => rfl)) rfl rfl rfl ?_
  rintro _ _ ⟨b9, rfl, rfl⟩
  refine JL.val (v := .int .i64 (0 : Int)) (QV.assign rfl) rfl rfl rfl ?_
  refine JL.nil ?_
  refine QJ.then_normal ?_
  refine JC.seq ?_
  refine JC.seq ?_
  refine JC.region ?_
  refine JL.val (v := .agg #[.int .i64 x5, .int .i64 x6, .int .i64 x7]) (QV.eq (QV.loadN (ss := [Seg.c (.int .i64 x5), Seg.c (.int .i64 x6), Seg.c (.int .i64 x7)]) 0 0 3 rfl tk_52 rfl rfl rfl rfl) rfl) rfl rfl rfl ?_
  refine JL.val (v := s1.v) (QV.move rfl) rfl rfl rfl ?_
  refine JL.val (v := .int .i64 ((x2).length : Int)) (QV.len (Rdg.vw 1 rfl) Try.underlying23 rfl) rfl rfl rfl ?_
  refine JL.val (v := s3.v) (QV.move rfl) rfl rfl rfl ?_
  refine JL.val (v := .int .i64 ((x4).length : Int)) (QV.len (Rdg.vw 2 rfl) Try.underlying23 rfl) rfl rfl rfl ?_
  obtain ⟨y10, hc11, hm⟩ := bind_inv hm
  refine JL.mv (d := some 14) (MV.call (Lo := []) (Lr := [Asr.blk b9 52 [Seg.c (.int .i64 x5), Seg.c (.int .i64 x6), Seg.c (.int .i64 x7)], Asr.vw (Enc.int .u8) (s1.v) x2, Asr.vw (Enc.int .u8) (s3.v) x4]) (F56.spec (x5) (x6) (x7) (((x2).length : Int)) (((x4).length : Int)) _ hc11) rfl Try.func56 rfl rfl rfl [] [0, 1, 2] rfl rfl rfl trivial) rfl rfl rfl ?_
  rintro _ _ ⟨_, ⟨rfl, rfl⟩, rfl⟩
  refine JL.val (v := .bool (!y10)) (QV.not rfl) rfl rfl rfl ?_
  refine JL.nil ?_
  refine QJ.then_normal ?_
  rcases ite_inv hm with ⟨h12, hm⟩ | ⟨h12, hm⟩
  ·
    refine JC.condF' rfl (congrArg Bool.not h12) ?_
    refine JC.skip ?_
    refine QJ.then_normal ?_
    refine JC.seq ?_
    refine JC.region ?_
    refine JL.val (v := .int .i64 (0 : Int)) (QV.assign rfl) rfl rfl rfl ?_
    refine JL.nil ?_
    refine QJ.then_normal ?_
    refine JC.seq ?_
    refine JC.seq ?_
    refine JC.region ?_
    refine JL.val (v := .int .i64 (0 : Int)) (QV.assign rfl) rfl rfl rfl ?_
    refine JL.nil ?_
    refine QJ.then_normal ?_
    refine JC.cutK (Y := Int × Unit) (fun y => match y with | (d13, _) => F30.j1 (d13) = some r) (fun y => match y with | (d13, _) => [(7, .int .i64 d13)]) (fun y => match y with | (d13, _) => []) ?_ ?_
    ·
      rintro ⟨d13, ⟨⟩⟩ hm
      unfold F30.j1 at hm
      show QJ _ _ [(7, .int .i64 d13)] [] _ _
      refine QJ.then_normal ?_
      refine JC.seq ?_
      refine JC.region ?_
      refine JL.val (v := .int .i64 d13) (QV.move rfl) rfl rfl rfl ?_
      refine JL.val (v := .int .i64 d13) (QV.assign rfl) rfl rfl rfl ?_
      refine JL.nil ?_
      refine QJ.then_normal ?_
      refine JC.ret ?_
      obtain rfl := Option.some.inj hm
      exact QJ.body (vs := [.int .i64 d13]) (.inl rfl) rfl (ResVs.cons (ResV.tmp rfl) ResVs.nil) [] rfl rfl (.inr trivial) ⟨rfl, rfl⟩
    ·
      refine JC.block ?_
      obtain ⟨y18, hl19, hmo20⟩ := bind_inv hm
      refine JC.loop (F30.b1 x2 x4 x5 x6 x7) (fun x z => match x, z with | (d14, d15), _ => [(0, s1.v), (1, s3.v), (5, .pointer (some ⟨b9, 0, none⟩)), (7, .int .i64 d14), (8, .int .i64 d15)]) (fun x z => match x, z with | (d14, d15), _ => [Asr.vw (Enc.int .u8) (s1.v) x2, Asr.vw (Enc.int .u8) (s3.v) x4, Asr.blk b9 52 [Seg.c (.int .i64 x5), Seg.c (.int .i64 x6), Seg.c (.int .i64 x7)]]) ((0 : Int), (0 : Int)) () y18 hl19 [1, 2, 0] (by exact ⟨rfl, rfl, rfl, rfl, rfl, trivial⟩) rfl rfl ?_
      rintro ⟨d14, d15⟩ ⟨⟩ s21 hm
      unfold F30.b1 at hm
      dsimp only at hm
      show JC _ _ _ [(0, s1.v), (1, s3.v), (5, .pointer (some ⟨b9, 0, none⟩)), (7, .int .i64 d14), (8, .int .i64 d15)] [Asr.vw (Enc.int .u8) (s1.v) x2, Asr.vw (Enc.int .u8) (s3.v) x4, Asr.blk b9 52 [Seg.c (.int .i64 x5), Seg.c (.int .i64 x6), Seg.c (.int .i64 x7)]] _ _
      refine JC.seq ?_
      refine JC.seq ?_
      refine JC.region ?_
      refine JL.val (v := .int .i64 d15) (QV.move rfl) rfl rfl rfl ?_
      refine JL.val (v := .pointer (some ⟨b9, 2, none⟩)) (QV.fieldB fo_52_2 rfl rfl) rfl rfl rfl ?_
      refine JL.val (v := .int .i64 x7) (QV.load1 (ss := [Seg.c (.int .i64 x5), Seg.c (.int .i64 x6), Seg.c (.int .i64 x7)]) 2 2 rfl tk_3 rfl rfl rfl) rfl rfl rfl ?_
      refine JL.val (v := .bool (decide (d15 < x7))) (QV.lss rfl rfl) rfl rfl rfl ?_
      refine JL.nil ?_
      refine QJ.then_normal ?_
      rcases ite_inv hm with ⟨h22, hm⟩ | ⟨h22, hm⟩
      ·
        refine JC.condT' rfl (decide_eq_true h22) ?_
        refine JC.skip ?_
        refine QJ.then_normal ?_
        refine JC.seq ?_
        refine JC.block ?_
        refine JC.seq ?_
        refine JC.regionT [Asr.vw (Enc.int .u8) (s1.v) x2, Asr.vw (Enc.int .u8) (s3.v) x4, Asr.blk b9 52 [Seg.c (.int .i64 x5), Seg.c (.int .i64 x6), Seg.c (.int .i64 x7)]] (fun t => false) [(0, true), (1, true), (2, true), (3, true), (4, true), (5, true), (6, true), (7, true), (8, true), (9, true), (10, false), (11, false), (12, false), (13, false), (14, false)] (by kernel_rfl) (by kernel_rfl) (by kernel_rfl) rfl (fun hsel => ?_)
        refine JT.take (i := 0) (v := s1.v) hsel rfl (QV.move rfl) rfl rfl rfl [0, 1, 2] rfl rfl ?_
        refine JT.take (i := 1) (v := .pointer (some ⟨b9, 1, none⟩)) hsel rfl (QV.fieldB fo_52_1 rfl rfl) rfl rfl rfl [0, 1, 2] rfl rfl ?_
        refine JT.take (i := 2) (v := .int .i64 x6) hsel rfl (QV.load1 (ss := [Seg.c (.int .i64 x5), Seg.c (.int .i64 x6), Seg.c (.int .i64 x7)]) 2 1 rfl tk_3 rfl rfl rfl) rfl rfl rfl [0, 1, 2] rfl rfl ?_
        refine JT.take (i := 3) (v := .int .i64 d15) hsel rfl (QV.move rfl) rfl rfl rfl [0, 1, 2] rfl rfl ?_
        refine JT.take (i := 4) (v := .int .i64 (IntKind.wrap .i64 (x6 + d15))) hsel rfl (QV.add rfl rfl) rfl rfl rfl [0, 1, 2] rfl rfl ?_
        obtain ⟨h23, hm⟩ := guard_inv hm
        refine JT.take (i := 5) (v := .pointer (some (elA (s1.v) (Int.toNat (IntKind.wrap .i64 (x6 + d15)) * ((Enc.int .u8)).sz)))) hsel rfl (QV.indexA (Rdg.vw 0 rfl) Try.underlying23 tk_5 rfl rfl h23) rfl rfl rfl [0, 1, 2] rfl rfl ?_
        refine JT.take (i := 6) (v := .int .u8 (gd x2 (IntKind.wrap .i64 (x6 + d15)))) hsel rfl (QV.el1 (Rdg.vw 0 rfl) tk_5 rfl h23 rfl) rfl rfl rfl [0, 1, 2] rfl rfl ?_
        refine JT.take (i := 7) (v := s3.v) hsel rfl (QV.move rfl) rfl rfl rfl [0, 1, 2] rfl rfl ?_
        refine JT.take (i := 8) (v := .pointer (some ⟨b9, 0, none⟩)) hsel rfl (QV.fieldB fo_52_0 rfl rfl) rfl rfl rfl [0, 1, 2] rfl rfl ?_
        refine JT.take (i := 9) (v := .int .i64 x5) hsel rfl (QV.load1 (ss := [Seg.c (.int .i64 x5), Seg.c (.int .i64 x6), Seg.c (.int .i64 x7)]) 2 0 rfl tk_3 rfl rfl rfl) rfl rfl rfl [0, 1, 2] rfl rfl ?_
        refine JT.only (i := 10) (d := some 32) rfl (MV.ofQV (v := .int .i64 d15) (QV.move rfl)) rfl rfl rfl ?_
        rintro _ _ ⟨rfl, rfl⟩
        refine ⟨fun _ => ⟨[0, 1, 2], rfl, rfl⟩, ?_⟩
        refine JT.only (i := 11) (d := some 33) rfl (MV.ofQV (v := .int .i64 (IntKind.wrap .i64 (x5 + d15))) (QV.add rfl rfl)) rfl rfl rfl ?_
        rintro _ _ ⟨rfl, rfl⟩
        refine ⟨fun _ => ⟨[0, 1, 2], rfl, rfl⟩, ?_⟩
        obtain ⟨h24, hm⟩ := guard_inv hm
        refine JT.only (i := 12) (d := some 34) rfl (MV.ofQV (v := .pointer (some (elA (s3.v) (Int.toNat (IntKind.wrap .i64 (x5 + d15)) * ((Enc.int .u8)).sz)))) (QV.indexA (Rdg.vw 1 rfl) Try.underlying23 tk_5 rfl rfl h24)) rfl rfl rfl ?_
        rintro _ _ ⟨rfl, rfl⟩
        refine ⟨fun _ => ⟨[0, 1, 2], rfl, rfl⟩, ?_⟩
        refine JT.only (i := 13) (d := some 35) rfl (MV.ofQV (v := .int .u8 (gd x4 (IntKind.wrap .i64 (x5 + d15)))) (QV.el1 (Rdg.vw 1 rfl) tk_5 rfl h24 rfl)) rfl rfl rfl ?_
        rintro _ _ ⟨rfl, rfl⟩
        refine ⟨fun _ => ⟨[0, 1, 2], rfl, rfl⟩, ?_⟩
        refine JT.only (i := 14) (d := some 36) rfl (MV.ofQV (v := .bool (decide ((gd x2 (IntKind.wrap .i64 (x6 + d15))) = (gd x4 (IntKind.wrap .i64 (x5 + d15)))))) (QV.eql rfl rfl)) rfl rfl rfl ?_
        rintro _ _ ⟨rfl, rfl⟩
        refine ⟨fun _ => ⟨[0, 1, 2], rfl, rfl⟩, ?_⟩
        refine JT.nil ?_
        refine QJ.then_normal ?_
        refine JC.cutK (Y := Int × Unit) (fun y => match y with | (d25, _) => F30.j2 d15 (d25) = some s21) (fun y => match y with | (d25, _) => [(0, s1.v), (1, s3.v), (5, .pointer (some ⟨b9, 0, none⟩)), (7, .int .i64 d25), (8, .int .i64 d15)]) (fun y => match y with | (d25, _) => [Asr.vw (Enc.int .u8) (s1.v) x2, Asr.vw (Enc.int .u8) (s3.v) x4, Asr.blk b9 52 [Seg.c (.int .i64 x5), Seg.c (.int .i64 x6), Seg.c (.int .i64 x7)]]) ?_ ?_
        ·
          rintro ⟨d25, ⟨⟩⟩ hm
          unfold F30.j2 at hm
          show QJ _ _ [(0, s1.v), (1, s3.v), (5, .pointer (some ⟨b9, 0, none⟩)), (7, .int .i64 d25), (8, .int .i64 d15)] [Asr.vw (Enc.int .u8) (s1.v) x2, Asr.vw (Enc.int .u8) (s3.v) x4, Asr.blk b9 52 [Seg.c (.int .i64 x5), Seg.c (.int .i64 x6), Seg.c (.int .i64 x7)]] _ _
          refine QJ.block_normal ?_
          refine QJ.then_normal ?_
          refine JC.region ?_
          refine JL.val (v := .int .i64 d15) (QV.move rfl) rfl rfl rfl ?_
          refine JL.val (v := .int .i64 (IntKind.wrap .i64 (d15 + (1 : Int)))) (QV.add rfl rfl) rfl rfl rfl ?_
          refine JL.val (v := .int .i64 (IntKind.wrap .i64 (d15 + (1 : Int)))) (QV.assign rfl) rfl rfl rfl ?_
          refine JL.nil ?_
          obtain rfl := Option.some.inj hm
          exact QJ.round_on (d25, (IntKind.wrap .i64 (d15 + (1 : Int)))) () [0, 1, 2] (by exact ⟨rfl, rfl, rfl, rfl, rfl, trivial⟩) rfl rfl
        ·
          rcases ite_inv hm with ⟨h26, hm⟩ | ⟨h26, hm⟩
          ·
            refine JC.condT' rfl (decide_eq_true h26) ?_
            refine JC.region ?_
            refine JL.val (v := .int .i64 d14) (QV.move rfl) rfl rfl rfl ?_
            refine JL.val (v := .int .i64 (IntKind.wrap .i64 (d14 + (1 : Int)))) (QV.add rfl rfl) rfl rfl rfl ?_
            refine JL.val (v := .int .i64 (IntKind.wrap .i64 (d14 + (1 : Int)))) (QV.assign rfl) rfl rfl rfl ?_
            refine JL.nil ?_
            exact QJ.cut_normal ((IntKind.wrap .i64 (d14 + (1 : Int))), ()) hm [0, 1, 2] (by exact ⟨rfl, rfl, rfl, rfl, rfl, trivial⟩) rfl rfl
          ·
            refine JC.condF' rfl (decide_eq_false h26) ?_
            refine JC.skip ?_
            exact QJ.cut_normal (d14, ()) hm [0, 1, 2] (by exact ⟨rfl, rfl, rfl, rfl, rfl, trivial⟩) rfl rfl
      ·
        refine JC.condF' rfl (decide_eq_false h22) ?_
        refine JC.exit ?_
        refine QJ.then_exit ?_
        obtain rfl := Option.some.inj hm
        refine QJ.round_exit (fun hy => ?_)
        subst hy
        refine QJ.block_hit ?_
        exact QJ.cut_normal (d14, ()) hmo20 [] (by exact ⟨rfl, trivial⟩) rfl rfl
  ·
    refine JC.condT' rfl (congrArg Bool.not (bfalse h12)) ?_
    refine JC.seq ?_
    refine JC.region ?_
    refine JL.val (v := .int .i64 (0 : Int)) (QV.assign rfl) rfl rfl rfl ?_
    refine JL.nil ?_
    refine QJ.then_normal ?_
    refine JC.ret ?_
    refine QJ.then_ret ?_
    obtain rfl := Option.some.inj hm
    exact QJ.body (vs := [.int .i64 (0 : Int)]) (.inl rfl) rfl (ResVs.cons (ResV.tmp rfl) ResVs.nil) [] rfl rfl (.inr trivial) ⟨rfl, rfl⟩

end Go.Proofs.Ytedokgdilpfomaa
