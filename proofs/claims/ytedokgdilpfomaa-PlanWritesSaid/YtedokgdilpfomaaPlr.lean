/- Written by gen.py: functions and their contracts. -/
import Derived.Test.YtedokgdilpfomaaPlrx0
namespace Go.Proofs.Ytedokgdilpfomaa
open Go Go.Eng Go.Proofs
set_option linter.unusedVariables false
set_option linter.unusedSimpArgs false
/-! ### 21: drogher/drogherref16.Same -/
noncomputable def F21.j1   : Option Bool :=
  some true
noncomputable def F21.b1 (x2 : List (Int × Int × Int × (List Int))) (x5 : List (Int × Int × Int × (List Int))) : Int → Option (Int ⊕ ((Bool) ⊕ Unit))
  | d9 => (if d9 < ((x2).length : Int) then (if 0 ≤ d9 ∧ d9 < ((x2).length : Int) then (if 0 ≤ d9 ∧ d9 < ((x5).length : Int) then (if (gd x2 d9).1 = (gd x5 d9).1 then (if (gd x2 d9).2.1 = (gd x5 d9).2.1 then (if (gd x2 d9).2.2.1 = (gd x5 d9).2.2.1 then (if (strOfNums (gd x2 d9).2.2.2) = (strOfNums (gd x5 d9).2.2.2) then some (.inl (IntKind.wrap .i64 (d9 + (1 : Int)))) else some (.inr (.inl (false)))) else some (.inr (.inl (false)))) else some (.inr (.inl (false)))) else some (.inr (.inl (false)))) else none) else none) else some (.inr (.inr (()))))
noncomputable def F21.m (x2 : List (Int × Int × Int × (List Int))) (x5 : List (Int × Int × Int × (List Int))) : Option Bool :=
  (if ((x2).length : Int) = ((x5).length : Int) then ((loop (F21.b1 x2 x5) (0 : Int)).bind fun y => match y with | .inl r => some r | .inr _ => F21.j1) else some false)
set_option maxRecDepth 100000 in
set_option maxHeartbeats 4000000 in
theorem F21.spec (s1 : SlV) (z3 : List (Unit × Unit × Unit × SlV)) (s4 : SlV) (z6 : List (Unit × Unit × Unit × SlV)) (x2 : List (Int × Int × Int × (List Int))) (x5 : List (Int × Int × Int × (List Int))) (r : Bool) (hm : F21.m x2 x5 = some r) :
    Ctr Try.prog false 21 [s1.v, s4.v] [Asr.vn (NE.pair (NE.flat (Enc.int .u8)) (NE.pair (NE.flat (Enc.int .i64)) (NE.pair (NE.flat (Enc.int .i64)) (NE.sl (Enc.int .u8))))) (s1.v) z3 x2, Asr.vn (NE.pair (NE.flat (Enc.int .u8)) (NE.pair (NE.flat (Enc.int .i64)) (NE.pair (NE.flat (Enc.int .i64)) (NE.sl (Enc.int .u8))))) (s4.v) z6 x5] (fun v L' => v = .bool r ∧ L' = []) := by
  refine Ctr.intro (n := 69) (env := [(0, s1.v), (1, s4.v)]) Try.func21 rfl rfl rfl rfl (fun c => ?_)
  unfold F21.m at hm
  refine JC.seq ?_
  refine JC.region ?_
  refine JL.val (v := .bool false) (QV.assign rfl) rfl rfl rfl ?_
  refine JL.nil ?_
  refine QJ.then_normal ?_
  refine JC.seq ?_
  refine JC.seq ?_
  refine JC.region ?_
  refine JL.val (v := s1.v) (QV.move rfl) rfl rfl rfl ?_
  refine JL.val (v := .int .i64 ((x2).length : Int)) (QV.lenN (RdN.vn 0 rfl) Try.underlying22 rfl) rfl rfl rfl ?_
  refine JL.val (v := s4.v) (QV.move rfl) rfl rfl rfl ?_
  refine JL.val (v := .int .i64 ((x5).length : Int)) (QV.lenN (RdN.vn 1 rfl) Try.underlying22 rfl) rfl rfl rfl ?_
  refine JL.val (v := .bool (!(decide (((x2).length : Int) = ((x5).length : Int))))) (QV.neq rfl rfl) rfl rfl rfl ?_
  refine JL.nil ?_
  refine QJ.then_normal ?_
  rcases ite_inv hm with ⟨h8, hm⟩ | ⟨h8, hm⟩
  ·
    refine JC.condF' rfl (congrArg Bool.not (decide_eq_true h8)) ?_
    refine JC.skip ?_
    refine QJ.then_normal ?_
    refine JC.seq ?_
    refine JC.seq ?_
    refine JC.region ?_
    refine JL.val (v := s1.v) (QV.move rfl) rfl rfl rfl ?_
    refine JL.val (v := .int .i64 ((x2).length : Int)) (QV.lenN (RdN.vn 0 rfl) Try.underlying22 rfl) rfl rfl rfl ?_
    refine JL.val (v := .int .i64 (0 : Int)) (QV.move rfl) rfl rfl rfl ?_
    refine JL.nil ?_
    refine QJ.then_normal ?_
    refine JC.cutK (Y := Unit × Unit) (fun y => match y with | (_, _) => F21.j1 = some r) (fun y => match y with | (_, _) => []) (fun y => match y with | (_, _) => []) ?_ ?_
    ·
      rintro ⟨⟨⟩, ⟨⟩⟩ hm
      unfold F21.j1 at hm
      show QJ _ _ [] [] _ _
      refine QJ.then_normal ?_
      refine JC.seq ?_
      refine JC.region ?_
      refine JL.val (v := .bool true) (QV.assign rfl) rfl rfl rfl ?_
      refine JL.nil ?_
      refine QJ.then_normal ?_
      refine JC.ret ?_
      obtain rfl := Option.some.inj hm
      exact QJ.body (vs := [.bool true]) (.inl rfl) rfl (ResVs.cons (ResV.tmp rfl) ResVs.nil) [] rfl rfl (.inr trivial) ⟨rfl, rfl⟩
    ·
      refine JC.block ?_
      obtain ⟨y11, hl12, hmo13⟩ := bind_inv hm
      refine JC.loop (F21.b1 x2 x5) (fun x z => match x, z with | d9, _ => [(0, s1.v), (1, s4.v), (12, .int .i64 ((x2).length : Int)), (13, .int .i64 d9)]) (fun x z => match x, z with | d9, _ => [Asr.vn (NE.pair (NE.flat (Enc.int .u8)) (NE.pair (NE.flat (Enc.int .i64)) (NE.pair (NE.flat (Enc.int .i64)) (NE.sl (Enc.int .u8))))) (s1.v) z3 x2, Asr.vn (NE.pair (NE.flat (Enc.int .u8)) (NE.pair (NE.flat (Enc.int .i64)) (NE.pair (NE.flat (Enc.int .i64)) (NE.sl (Enc.int .u8))))) (s4.v) z6 x5]) (0 : Int) () y11 hl12 [0, 1] (by exact ⟨rfl, rfl, rfl, rfl, trivial⟩) rfl rfl ?_
      rintro d9 ⟨⟩ s14 hm
      unfold F21.b1 at hm
      dsimp only at hm
      show JC _ _ _ [(0, s1.v), (1, s4.v), (12, .int .i64 ((x2).length : Int)), (13, .int .i64 d9)] [Asr.vn (NE.pair (NE.flat (Enc.int .u8)) (NE.pair (NE.flat (Enc.int .i64)) (NE.pair (NE.flat (Enc.int .i64)) (NE.sl (Enc.int .u8))))) (s1.v) z3 x2, Asr.vn (NE.pair (NE.flat (Enc.int .u8)) (NE.pair (NE.flat (Enc.int .i64)) (NE.pair (NE.flat (Enc.int .i64)) (NE.sl (Enc.int .u8))))) (s4.v) z6 x5] _ _
      refine JC.seq ?_
      refine JC.region ?_
      refine JL.val (v := .bool (decide (d9 < ((x2).length : Int)))) (QV.lss rfl rfl) rfl rfl rfl ?_
      refine JL.nil ?_
      refine QJ.then_normal ?_
      refine JC.seq ?_
      rcases ite_inv hm with ⟨h15, hm⟩ | ⟨h15, hm⟩
      ·
        refine JC.condT' rfl (decide_eq_true h15) ?_
        refine JC.skip ?_
        refine QJ.then_normal ?_
        refine JC.seq ?_
        refine JC.block ?_
        refine JC.seq ?_
        refine JC.region ?_
        refine JL.val (v := .int .i64 d9) (QV.move rfl) rfl rfl rfl ?_
        refine JL.val (v := .int .i64 d9) (QV.assign rfl) rfl rfl rfl ?_
        refine JL.nil ?_
        refine QJ.then_normal ?_
        refine JC.seq ?_
        refine JC.regionT [Asr.vn (NE.pair (NE.flat (Enc.int .u8)) (NE.pair (NE.flat (Enc.int .i64)) (NE.pair (NE.flat (Enc.int .i64)) (NE.sl (Enc.int .u8))))) (s1.v) z3 x2, Asr.vn (NE.pair (NE.flat (Enc.int .u8)) (NE.pair (NE.flat (Enc.int .i64)) (NE.pair (NE.flat (Enc.int .i64)) (NE.sl (Enc.int .u8))))) (s4.v) z6 x5] (fun t => false) [(0, true), (1, true), (2, true), (3, true), (4, true), (5, true), (6, false), (7, false), (8, false), (9, false), (10, false), (11, false), (12, true), (13, true), (14, true), (15, true), (16, true), (17, true), (18, false), (19, false), (20, false), (21, false), (22, false), (23, false), (24, false), (25, true), (26, true), (27, true), (28, true), (29, true), (30, true), (31, false), (32, false), (33, false), (34, false), (35, false), (36, false), (37, false), (38, true), (39, true), (40, true), (41, true), (42, true), (43, true), (44, true), (45, false), (46, false), (47, false), (48, false), (49, false), (50, false), (51, false)] (by kernel_rfl) (by kernel_rfl) (by kernel_rfl) rfl (fun hsel => ?_)
        refine JT.take (i := 0) (v := s1.v) hsel rfl (QV.move rfl) rfl rfl rfl rfl [0, 1] rfl rfl ?_
        refine JT.take (i := 1) (v := .int .i64 d9) hsel rfl (QV.move rfl) rfl rfl rfl rfl [0, 1] rfl rfl ?_
        obtain ⟨h16, hm⟩ := guard_inv hm
        refine JT.take (i := 2) (v := .pointer (some (elA (s1.v) (Int.toNat d9 * ((NE.pair (NE.flat (Enc.int .u8)) (NE.pair (NE.flat (Enc.int .i64)) (NE.pair (NE.flat (Enc.int .i64)) (NE.sl (Enc.int .u8))))).E).sz)))) hsel rfl (QV.indexN (RdN.vn 0 rfl) Try.underlying22 tk_35 rfl rfl h16) rfl rfl rfl rfl [0, 1] rfl rfl ?_
        refine JT.take (i := 3) (v := .pointer (some ((elA (s1.v) (Int.toNat d9 * ((NE.pair (NE.flat (Enc.int .u8)) (NE.pair (NE.flat (Enc.int .i64)) (NE.pair (NE.flat (Enc.int .i64)) (NE.sl (Enc.int .u8))))).E).sz)).add 0))) hsel rfl (QV.fieldA fo_35_0 rfl) rfl rfl rfl rfl [0, 1] rfl rfl ?_
        refine JT.take (i := 4) (v := .int .u8 (gd x2 d9).1) hsel rfl (QV.elFN (RdN.vn 0 rfl) tk_5 rfl h16 rfl) rfl rfl rfl rfl [0, 1] rfl rfl ?_
        refine JT.take (i := 5) (v := s4.v) hsel rfl (QV.move rfl) rfl rfl rfl rfl [0, 1] rfl rfl ?_
        refine JT.only (i := 6) (d := some 22) rfl (MV.ofQV (v := .int .i64 d9) (QV.move rfl)) rfl rfl rfl ?_
        rintro _ _ ⟨rfl, rfl⟩
        refine ⟨fun _ => ⟨[0, 1], rfl, rfl⟩, ?_⟩
        obtain ⟨h17, hm⟩ := guard_inv hm
        refine JT.only (i := 7) (d := some 23) rfl (MV.ofQV (v := .pointer (some (elA (s4.v) (Int.toNat d9 * ((NE.pair (NE.flat (Enc.int .u8)) (NE.pair (NE.flat (Enc.int .i64)) (NE.pair (NE.flat (Enc.int .i64)) (NE.sl (Enc.int .u8))))).E).sz)))) (QV.indexN (RdN.vn 1 rfl) Try.underlying22 tk_35 rfl rfl h17)) rfl rfl rfl ?_
        rintro _ _ ⟨rfl, rfl⟩
        refine ⟨fun _ => ⟨[0, 1], rfl, rfl⟩, ?_⟩
        refine JT.only (i := 8) (d := some 24) rfl (MV.ofQV (v := .pointer (some ((elA (s4.v) (Int.toNat d9 * ((NE.pair (NE.flat (Enc.int .u8)) (NE.pair (NE.flat (Enc.int .i64)) (NE.pair (NE.flat (Enc.int .i64)) (NE.sl (Enc.int .u8))))).E).sz)).add 0))) (QV.fieldA fo_35_0 rfl)) rfl rfl rfl ?_
        rintro _ _ ⟨rfl, rfl⟩
        refine ⟨fun _ => ⟨[0, 1], rfl, rfl⟩, ?_⟩
        refine JT.only (i := 9) (d := some 25) rfl (MV.ofQV (v := .int .u8 (gd x5 d9).1) (QV.elFN (RdN.vn 1 rfl) tk_5 rfl h17 rfl)) rfl rfl rfl ?_
        rintro _ _ ⟨rfl, rfl⟩
        refine ⟨fun _ => ⟨[0, 1], rfl, rfl⟩, ?_⟩
        refine JT.only (i := 10) (d := some 26) rfl (MV.ofQV (v := .bool (!(decide ((gd x2 d9).1 = (gd x5 d9).1)))) (QV.neq rfl rfl)) rfl rfl rfl ?_
        rintro _ _ ⟨rfl, rfl⟩
        refine ⟨fun _ => ⟨[0, 1], rfl, rfl⟩, ?_⟩
        rcases ite_inv hm with ⟨h18, hm⟩ | ⟨h18, hm⟩
        ·
          refine JT.only (i := 11) (d := some 27) rfl (MV.ofQV (v := .bool false) (QV.eq (QV.move rfl) (congrArg Value.bool (congrArg Bool.not (decide_eq_true h18))))) rfl rfl rfl ?_
          rintro _ _ ⟨rfl, rfl⟩
          refine ⟨fun _ => ⟨[0, 1], rfl, rfl⟩, ?_⟩
          refine JT.take (i := 12) (v := s1.v) hsel rfl (QV.move rfl) rfl rfl rfl rfl [0, 1] rfl rfl ?_
          refine JT.take (i := 13) (v := .int .i64 d9) hsel rfl (QV.move rfl) rfl rfl rfl rfl [0, 1] rfl rfl ?_
          refine JT.take (i := 14) (v := .pointer (some (elA (s1.v) (Int.toNat d9 * ((NE.pair (NE.flat (Enc.int .u8)) (NE.pair (NE.flat (Enc.int .i64)) (NE.pair (NE.flat (Enc.int .i64)) (NE.sl (Enc.int .u8))))).E).sz)))) hsel rfl (QV.indexN (RdN.vn 0 rfl) Try.underlying22 tk_35 rfl rfl h16) rfl rfl rfl rfl [0, 1] rfl rfl ?_
          refine JT.take (i := 15) (v := .pointer (some ((elA (s1.v) (Int.toNat d9 * ((NE.pair (NE.flat (Enc.int .u8)) (NE.pair (NE.flat (Enc.int .i64)) (NE.pair (NE.flat (Enc.int .i64)) (NE.sl (Enc.int .u8))))).E).sz)).add 1))) hsel rfl (QV.fieldA fo_35_1 rfl) rfl rfl rfl rfl [0, 1] rfl rfl ?_
          refine JT.take (i := 16) (v := .int .i64 (gd x2 d9).2.1) hsel rfl (QV.elFN (RdN.vn 0 rfl) tk_3 rfl h16 rfl) rfl rfl rfl rfl [0, 1] rfl rfl ?_
          refine JT.take (i := 17) (v := s4.v) hsel rfl (QV.move rfl) rfl rfl rfl rfl [0, 1] rfl rfl ?_
          refine JT.only (i := 18) (d := some 34) rfl (MV.ofQV (v := .int .i64 d9) (QV.move rfl)) rfl rfl rfl ?_
          rintro _ _ ⟨rfl, rfl⟩
          refine ⟨fun _ => ⟨[0, 1], rfl, rfl⟩, ?_⟩
          refine JT.only (i := 19) (d := some 35) rfl (MV.ofQV (v := .pointer (some (elA (s4.v) (Int.toNat d9 * ((NE.pair (NE.flat (Enc.int .u8)) (NE.pair (NE.flat (Enc.int .i64)) (NE.pair (NE.flat (Enc.int .i64)) (NE.sl (Enc.int .u8))))).E).sz)))) (QV.indexN (RdN.vn 1 rfl) Try.underlying22 tk_35 rfl rfl h17)) rfl rfl rfl ?_
          rintro _ _ ⟨rfl, rfl⟩
          refine ⟨fun _ => ⟨[0, 1], rfl, rfl⟩, ?_⟩
          refine JT.only (i := 20) (d := some 36) rfl (MV.ofQV (v := .pointer (some ((elA (s4.v) (Int.toNat d9 * ((NE.pair (NE.flat (Enc.int .u8)) (NE.pair (NE.flat (Enc.int .i64)) (NE.pair (NE.flat (Enc.int .i64)) (NE.sl (Enc.int .u8))))).E).sz)).add 1))) (QV.fieldA fo_35_1 rfl)) rfl rfl rfl ?_
          rintro _ _ ⟨rfl, rfl⟩
          refine ⟨fun _ => ⟨[0, 1], rfl, rfl⟩, ?_⟩
          refine JT.only (i := 21) (d := some 37) rfl (MV.ofQV (v := .int .i64 (gd x5 d9).2.1) (QV.elFN (RdN.vn 1 rfl) tk_3 rfl h17 rfl)) rfl rfl rfl ?_
          rintro _ _ ⟨rfl, rfl⟩
          refine ⟨fun _ => ⟨[0, 1], rfl, rfl⟩, ?_⟩
          refine JT.only (i := 22) (d := some 38) rfl (MV.ofQV (v := .bool (!(decide ((gd x2 d9).2.1 = (gd x5 d9).2.1)))) (QV.neq rfl rfl)) rfl rfl rfl ?_
          rintro _ _ ⟨rfl, rfl⟩
          refine ⟨fun _ => ⟨[0, 1], rfl, rfl⟩, ?_⟩
          refine JT.only (i := 23) (d := some 39) rfl (MV.ofQV (v := .bool (!(decide ((gd x2 d9).2.1 = (gd x5 d9).2.1)))) (QV.pickF rfl rfl)) rfl rfl rfl ?_
          rintro _ _ ⟨rfl, rfl⟩
          refine ⟨fun _ => ⟨[0, 1], rfl, rfl⟩, ?_⟩
          rcases ite_inv hm with ⟨h19, hm⟩ | ⟨h19, hm⟩
          ·
            refine JT.only (i := 24) (d := some 40) rfl (MV.ofQV (v := .bool false) (QV.eq (QV.move rfl) (congrArg Value.bool (congrArg Bool.not (decide_eq_true h19))))) rfl rfl rfl ?_
            rintro _ _ ⟨rfl, rfl⟩
            refine ⟨fun _ => ⟨[0, 1], rfl, rfl⟩, ?_⟩
            refine JT.take (i := 25) (v := s1.v) hsel rfl (QV.move rfl) rfl rfl rfl rfl [0, 1] rfl rfl ?_
            refine JT.take (i := 26) (v := .int .i64 d9) hsel rfl (QV.move rfl) rfl rfl rfl rfl [0, 1] rfl rfl ?_
            refine JT.take (i := 27) (v := .pointer (some (elA (s1.v) (Int.toNat d9 * ((NE.pair (NE.flat (Enc.int .u8)) (NE.pair (NE.flat (Enc.int .i64)) (NE.pair (NE.flat (Enc.int .i64)) (NE.sl (Enc.int .u8))))).E).sz)))) hsel rfl (QV.indexN (RdN.vn 0 rfl) Try.underlying22 tk_35 rfl rfl h16) rfl rfl rfl rfl [0, 1] rfl rfl ?_
            refine JT.take (i := 28) (v := .pointer (some ((elA (s1.v) (Int.toNat d9 * ((NE.pair (NE.flat (Enc.int .u8)) (NE.pair (NE.flat (Enc.int .i64)) (NE.pair (NE.flat (Enc.int .i64)) (NE.sl (Enc.int .u8))))).E).sz)).add 2))) hsel rfl (QV.fieldA fo_35_2 rfl) rfl rfl rfl rfl [0, 1] rfl rfl ?_
            refine JT.take (i := 29) (v := .int .i64 (gd x2 d9).2.2.1) hsel rfl (QV.elFN (RdN.vn 0 rfl) tk_3 rfl h16 rfl) rfl rfl rfl rfl [0, 1] rfl rfl ?_
            refine JT.take (i := 30) (v := s4.v) hsel rfl (QV.move rfl) rfl rfl rfl rfl [0, 1] rfl rfl ?_
            refine JT.only (i := 31) (d := some 47) rfl (MV.ofQV (v := .int .i64 d9) (QV.move rfl)) rfl rfl rfl ?_
            rintro _ _ ⟨rfl, rfl⟩
            refine ⟨fun _ => ⟨[0, 1], rfl, rfl⟩, ?_⟩
            refine JT.only (i := 32) (d := some 48) rfl (MV.ofQV (v := .pointer (some (elA (s4.v) (Int.toNat d9 * ((NE.pair (NE.flat (Enc.int .u8)) (NE.pair (NE.flat (Enc.int .i64)) (NE.pair (NE.flat (Enc.int .i64)) (NE.sl (Enc.int .u8))))).E).sz)))) (QV.indexN (RdN.vn 1 rfl) Try.underlying22 tk_35 rfl rfl h17)) rfl rfl rfl ?_
            rintro _ _ ⟨rfl, rfl⟩
            refine ⟨fun _ => ⟨[0, 1], rfl, rfl⟩, ?_⟩
            refine JT.only (i := 33) (d := some 49) rfl (MV.ofQV (v := .pointer (some ((elA (s4.v) (Int.toNat d9 * ((NE.pair (NE.flat (Enc.int .u8)) (NE.pair (NE.flat (Enc.int .i64)) (NE.pair (NE.flat (Enc.int .i64)) (NE.sl (Enc.int .u8))))).E).sz)).add 2))) (QV.fieldA fo_35_2 rfl)) rfl rfl rfl ?_
            rintro _ _ ⟨rfl, rfl⟩
            refine ⟨fun _ => ⟨[0, 1], rfl, rfl⟩, ?_⟩
            refine JT.only (i := 34) (d := some 50) rfl (MV.ofQV (v := .int .i64 (gd x5 d9).2.2.1) (QV.elFN (RdN.vn 1 rfl) tk_3 rfl h17 rfl)) rfl rfl rfl ?_
            rintro _ _ ⟨rfl, rfl⟩
            refine ⟨fun _ => ⟨[0, 1], rfl, rfl⟩, ?_⟩
            refine JT.only (i := 35) (d := some 51) rfl (MV.ofQV (v := .bool (!(decide ((gd x2 d9).2.2.1 = (gd x5 d9).2.2.1)))) (QV.neq rfl rfl)) rfl rfl rfl ?_
            rintro _ _ ⟨rfl, rfl⟩
            refine ⟨fun _ => ⟨[0, 1], rfl, rfl⟩, ?_⟩
            refine JT.only (i := 36) (d := some 52) rfl (MV.ofQV (v := .bool (!(decide ((gd x2 d9).2.2.1 = (gd x5 d9).2.2.1)))) (QV.pickF rfl rfl)) rfl rfl rfl ?_
            rintro _ _ ⟨rfl, rfl⟩
            refine ⟨fun _ => ⟨[0, 1], rfl, rfl⟩, ?_⟩
            rcases ite_inv hm with ⟨h20, hm⟩ | ⟨h20, hm⟩
            ·
              refine JT.only (i := 37) (d := some 53) rfl (MV.ofQV (v := .bool false) (QV.eq (QV.move rfl) (congrArg Value.bool (congrArg Bool.not (decide_eq_true h20))))) rfl rfl rfl ?_
              rintro _ _ ⟨rfl, rfl⟩
              refine ⟨fun _ => ⟨[0, 1], rfl, rfl⟩, ?_⟩
              refine JT.take (i := 38) (v := s1.v) hsel rfl (QV.move rfl) rfl rfl rfl rfl [0, 1] rfl rfl ?_
              refine JT.take (i := 39) (v := .int .i64 d9) hsel rfl (QV.move rfl) rfl rfl rfl rfl [0, 1] rfl rfl ?_
              refine JT.take (i := 40) (v := .pointer (some (elA (s1.v) (Int.toNat d9 * ((NE.pair (NE.flat (Enc.int .u8)) (NE.pair (NE.flat (Enc.int .i64)) (NE.pair (NE.flat (Enc.int .i64)) (NE.sl (Enc.int .u8))))).E).sz)))) hsel rfl (QV.indexN (RdN.vn 0 rfl) Try.underlying22 tk_35 rfl rfl h16) rfl rfl rfl rfl [0, 1] rfl rfl ?_
              refine JT.take (i := 41) (v := .pointer (some ((elA (s1.v) (Int.toNat d9 * ((NE.pair (NE.flat (Enc.int .u8)) (NE.pair (NE.flat (Enc.int .i64)) (NE.pair (NE.flat (Enc.int .i64)) (NE.sl (Enc.int .u8))))).E).sz)).add 3))) hsel rfl (QV.fieldA fo_35_3 rfl) rfl rfl rfl rfl [0, 1] rfl rfl ?_
              refine JT.take (i := 42) (v := (gd z3 d9).2.2.2.v) hsel rfl (QV.elFN (RdN.vn 0 rfl) tk_23 rfl h16 rfl) rfl rfl rfl rfl [0, 1] rfl rfl ?_
              refine JT.take (i := 43) (v := .string (strOfNums (gd x2 d9).2.2.2)) hsel rfl (QV.str (Rdg.ofDrv (Drv.el (K := (NE.pair (NE.flat (Enc.int .u8)) (NE.pair (NE.flat (Enc.int .i64)) (NE.pair (NE.flat (Enc.int .i64)) (NE.sl (Enc.int .u8)))))) (A := Asr.vw (Enc.int .u8) ((gd z3 d9).2.2.2.v) (gd x2 d9).2.2.2) (Drv.vn 0 rfl) h16 (fun _ _ q => q.2.2.2))) Try.underlying23 Try.underlying5 Try.underlying9 rfl) rfl rfl rfl rfl [0, 1] rfl rfl ?_
              refine JT.take (i := 44) (v := s4.v) hsel rfl (QV.move rfl) rfl rfl rfl rfl [0, 1] rfl rfl ?_
              refine JT.only (i := 45) (d := some 61) rfl (MV.ofQV (v := .int .i64 d9) (QV.move rfl)) rfl rfl rfl ?_
              rintro _ _ ⟨rfl, rfl⟩
              refine ⟨fun _ => ⟨[0, 1], rfl, rfl⟩, ?_⟩
              refine JT.only (i := 46) (d := some 62) rfl (MV.ofQV (v := .pointer (some (elA (s4.v) (Int.toNat d9 * ((NE.pair (NE.flat (Enc.int .u8)) (NE.pair (NE.flat (Enc.int .i64)) (NE.pair (NE.flat (Enc.int .i64)) (NE.sl (Enc.int .u8))))).E).sz)))) (QV.indexN (RdN.vn 1 rfl) Try.underlying22 tk_35 rfl rfl h17)) rfl rfl rfl ?_
              rintro _ _ ⟨rfl, rfl⟩
              refine ⟨fun _ => ⟨[0, 1], rfl, rfl⟩, ?_⟩
              refine JT.only (i := 47) (d := some 63) rfl (MV.ofQV (v := .pointer (some ((elA (s4.v) (Int.toNat d9 * ((NE.pair (NE.flat (Enc.int .u8)) (NE.pair (NE.flat (Enc.int .i64)) (NE.pair (NE.flat (Enc.int .i64)) (NE.sl (Enc.int .u8))))).E).sz)).add 3))) (QV.fieldA fo_35_3 rfl)) rfl rfl rfl ?_
              rintro _ _ ⟨rfl, rfl⟩
              refine ⟨fun _ => ⟨[0, 1], rfl, rfl⟩, ?_⟩
              refine JT.only (i := 48) (d := some 64) rfl (MV.ofQV (v := (gd z6 d9).2.2.2.v) (QV.elFN (RdN.vn 1 rfl) tk_23 rfl h17 rfl)) rfl rfl rfl ?_
              rintro _ _ ⟨rfl, rfl⟩
              refine ⟨fun _ => ⟨[0, 1], rfl, rfl⟩, ?_⟩
              refine JT.only (i := 49) (d := some 65) rfl (MV.ofQV (v := .string (strOfNums (gd x5 d9).2.2.2)) (QV.str (Rdg.ofDrv (Drv.el (K := (NE.pair (NE.flat (Enc.int .u8)) (NE.pair (NE.flat (Enc.int .i64)) (NE.pair (NE.flat (Enc.int .i64)) (NE.sl (Enc.int .u8)))))) (A := Asr.vw (Enc.int .u8) ((gd z6 d9).2.2.2.v) (gd x5 d9).2.2.2) (Drv.vn 1 rfl) h17 (fun _ _ q => q.2.2.2))) Try.underlying23 Try.underlying5 Try.underlying9 rfl)) rfl rfl rfl ?_
              rintro _ _ ⟨rfl, rfl⟩
              refine ⟨fun _ => ⟨[0, 1], rfl, rfl⟩, ?_⟩
              refine JT.only (i := 50) (d := some 66) rfl (MV.ofQV (v := .bool (!(decide ((strOfNums (gd x2 d9).2.2.2) = (strOfNums (gd x5 d9).2.2.2))))) (QV.neqS rfl rfl)) rfl rfl rfl ?_
              rintro _ _ ⟨rfl, rfl⟩
              refine ⟨fun _ => ⟨[0, 1], rfl, rfl⟩, ?_⟩
              refine JT.only (i := 51) (d := some 67) rfl (MV.ofQV (v := .bool (!(decide ((strOfNums (gd x2 d9).2.2.2) = (strOfNums (gd x5 d9).2.2.2))))) (QV.pickF rfl rfl)) rfl rfl rfl ?_
              rintro _ _ ⟨rfl, rfl⟩
              refine ⟨fun _ => ⟨[0, 1], rfl, rfl⟩, ?_⟩
              refine JT.nil ?_
              refine QJ.then_normal ?_
              rcases ite_inv hm with ⟨h21, hm⟩ | ⟨h21, hm⟩
              ·
                refine JC.condF' rfl (congrArg Bool.not (decide_eq_true h21)) ?_
                refine JC.skip ?_
                refine QJ.block_normal ?_
                refine QJ.then_normal ?_
                refine JC.region ?_
                refine JL.val (v := .int .i64 (IntKind.wrap .i64 (d9 + (1 : Int)))) (QV.add rfl rfl) rfl rfl rfl ?_
                refine JL.val (v := .int .i64 (IntKind.wrap .i64 (d9 + (1 : Int)))) (QV.move rfl) rfl rfl rfl ?_
                refine JL.nil ?_
                obtain rfl := Option.some.inj hm
                exact QJ.round_on (IntKind.wrap .i64 (d9 + (1 : Int))) () [0, 1] (by exact ⟨rfl, rfl, rfl, rfl, trivial⟩) rfl rfl
              ·
                refine JC.condT' rfl (congrArg Bool.not (decide_eq_false h21)) ?_
                refine JC.seq ?_
                refine JC.region ?_
                refine JL.val (v := .bool false) (QV.assign rfl) rfl rfl rfl ?_
                refine JL.nil ?_
                refine QJ.then_normal ?_
                refine JC.ret ?_
                refine QJ.block_ret ?_
                refine QJ.then_ret ?_
                obtain rfl := Option.some.inj hm
                refine QJ.round_ret (fun hy => ?_)
                subst hy
                refine QJ.block_ret ?_
                refine QJ.cut_ret ?_
                refine QJ.then_ret ?_
                obtain rfl := Option.some.inj hmo13
                exact QJ.body (vs := [.bool false]) (.inl rfl) rfl (ResVs.cons (ResV.tmp rfl) ResVs.nil) [] rfl rfl (.inr trivial) ⟨rfl, rfl⟩
            ·
              refine JT.only (i := 37) (d := some 53) rfl (MV.ofQV (v := .bool true) (QV.eq (QV.move rfl) (congrArg Value.bool (congrArg Bool.not (decide_eq_false h20))))) rfl rfl rfl ?_
              rintro _ _ ⟨rfl, rfl⟩
              refine ⟨fun _ => ⟨[0, 1], rfl, rfl⟩, ?_⟩
              refine JT.skip (i := 38) (d := some 54) hsel rfl rfl rfl rfl rfl [0, 1] rfl rfl ?_
              refine JT.skip (i := 39) (d := some 55) hsel rfl rfl rfl rfl rfl [0, 1] rfl rfl ?_
              refine JT.skip (i := 40) (d := some 56) hsel rfl rfl rfl rfl rfl [0, 1] rfl rfl ?_
              refine JT.skip (i := 41) (d := some 57) hsel rfl rfl rfl rfl rfl [0, 1] rfl rfl ?_
              refine JT.skip (i := 42) (d := some 58) hsel rfl rfl rfl rfl rfl [0, 1] rfl rfl ?_
              refine JT.skip (i := 43) (d := some 59) hsel rfl rfl rfl rfl rfl [0, 1] rfl rfl ?_
              refine JT.skip (i := 44) (d := some 60) hsel rfl rfl rfl rfl rfl [0, 1] rfl rfl ?_
              refine JT.skipO (i := 45) (d := some 61) rfl rfl rfl rfl [0, 1] rfl rfl ?_
              refine JT.skipO (i := 46) (d := some 62) rfl rfl rfl rfl [0, 1] rfl rfl ?_
              refine JT.skipO (i := 47) (d := some 63) rfl rfl rfl rfl [0, 1] rfl rfl ?_
              refine JT.skipO (i := 48) (d := some 64) rfl rfl rfl rfl [0, 1] rfl rfl ?_
              refine JT.skipO (i := 49) (d := some 65) rfl rfl rfl rfl [0, 1] rfl rfl ?_
              refine JT.skipO (i := 50) (d := some 66) rfl rfl rfl rfl [0, 1] rfl rfl ?_
              refine JT.only (i := 51) (d := some 67) rfl (MV.ofQV (v := .bool true) (QV.pickT rfl rfl)) rfl rfl rfl ?_
              rintro _ _ ⟨rfl, rfl⟩
              refine ⟨fun _ => ⟨[0, 1], rfl, rfl⟩, ?_⟩
              refine JT.nil ?_
              refine QJ.then_normal ?_
              refine JC.condT rfl ?_
              refine JC.seq ?_
              refine JC.region ?_
              refine JL.val (v := .bool false) (QV.assign rfl) rfl rfl rfl ?_
              refine JL.nil ?_
              refine QJ.then_normal ?_
              refine JC.ret ?_
              refine QJ.block_ret ?_
              refine QJ.then_ret ?_
              obtain rfl := Option.some.inj hm
              refine QJ.round_ret (fun hy => ?_)
              subst hy
              refine QJ.block_ret ?_
              refine QJ.cut_ret ?_
              refine QJ.then_ret ?_
              obtain rfl := Option.some.inj hmo13
              exact QJ.body (vs := [.bool false]) (.inl rfl) rfl (ResVs.cons (ResV.tmp rfl) ResVs.nil) [] rfl rfl (.inr trivial) ⟨rfl, rfl⟩
          ·
            refine JT.only (i := 24) (d := some 40) rfl (MV.ofQV (v := .bool true) (QV.eq (QV.move rfl) (congrArg Value.bool (congrArg Bool.not (decide_eq_false h19))))) rfl rfl rfl ?_
            rintro _ _ ⟨rfl, rfl⟩
            refine ⟨fun _ => ⟨[0, 1], rfl, rfl⟩, ?_⟩
            refine JT.skip (i := 25) (d := some 41) hsel rfl rfl rfl rfl rfl [0, 1] rfl rfl ?_
            refine JT.skip (i := 26) (d := some 42) hsel rfl rfl rfl rfl rfl [0, 1] rfl rfl ?_
            refine JT.skip (i := 27) (d := some 43) hsel rfl rfl rfl rfl rfl [0, 1] rfl rfl ?_
            refine JT.skip (i := 28) (d := some 44) hsel rfl rfl rfl rfl rfl [0, 1] rfl rfl ?_
            refine JT.skip (i := 29) (d := some 45) hsel rfl rfl rfl rfl rfl [0, 1] rfl rfl ?_
            refine JT.skip (i := 30) (d := some 46) hsel rfl rfl rfl rfl rfl [0, 1] rfl rfl ?_
            refine JT.skipO (i := 31) (d := some 47) rfl rfl rfl rfl [0, 1] rfl rfl ?_
            refine JT.skipO (i := 32) (d := some 48) rfl rfl rfl rfl [0, 1] rfl rfl ?_
            refine JT.skipO (i := 33) (d := some 49) rfl rfl rfl rfl [0, 1] rfl rfl ?_
            refine JT.skipO (i := 34) (d := some 50) rfl rfl rfl rfl [0, 1] rfl rfl ?_
            refine JT.skipO (i := 35) (d := some 51) rfl rfl rfl rfl [0, 1] rfl rfl ?_
            refine JT.only (i := 36) (d := some 52) rfl (MV.ofQV (v := .bool true) (QV.pickT rfl rfl)) rfl rfl rfl ?_
            rintro _ _ ⟨rfl, rfl⟩
            refine ⟨fun _ => ⟨[0, 1], rfl, rfl⟩, ?_⟩
            refine JT.only (i := 37) (d := some 53) rfl (MV.ofQV (v := .bool true) (QV.move rfl)) rfl rfl rfl ?_
            rintro _ _ ⟨rfl, rfl⟩
            refine ⟨fun _ => ⟨[0, 1], rfl, rfl⟩, ?_⟩
            refine JT.skip (i := 38) (d := some 54) hsel rfl rfl rfl rfl rfl [0, 1] rfl rfl ?_
            refine JT.skip (i := 39) (d := some 55) hsel rfl rfl rfl rfl rfl [0, 1] rfl rfl ?_
            refine JT.skip (i := 40) (d := some 56) hsel rfl rfl rfl rfl rfl [0, 1] rfl rfl ?_
            refine JT.skip (i := 41) (d := some 57) hsel rfl rfl rfl rfl rfl [0, 1] rfl rfl ?_
            refine JT.skip (i := 42) (d := some 58) hsel rfl rfl rfl rfl rfl [0, 1] rfl rfl ?_
            refine JT.skip (i := 43) (d := some 59) hsel rfl rfl rfl rfl rfl [0, 1] rfl rfl ?_
            refine JT.skip (i := 44) (d := some 60) hsel rfl rfl rfl rfl rfl [0, 1] rfl rfl ?_
            refine JT.skipO (i := 45) (d := some 61) rfl rfl rfl rfl [0, 1] rfl rfl ?_
            refine JT.skipO (i := 46) (d := some 62) rfl rfl rfl rfl [0, 1] rfl rfl ?_
            refine JT.skipO (i := 47) (d := some 63) rfl rfl rfl rfl [0, 1] rfl rfl ?_
            refine JT.skipO (i := 48) (d := some 64) rfl rfl rfl rfl [0, 1] rfl rfl ?_
            refine JT.skipO (i := 49) (d := some 65) rfl rfl rfl rfl [0, 1] rfl rfl ?_
            refine JT.skipO (i := 50) (d := some 66) rfl rfl rfl rfl [0, 1] rfl rfl ?_
            refine JT.only (i := 51) (d := some 67) rfl (MV.ofQV (v := .bool true) (QV.pickT rfl rfl)) rfl rfl rfl ?_
            rintro _ _ ⟨rfl, rfl⟩
            refine ⟨fun _ => ⟨[0, 1], rfl, rfl⟩, ?_⟩
            refine JT.nil ?_
            refine QJ.then_normal ?_
            refine JC.condT rfl ?_
            refine JC.seq ?_
            refine JC.region ?_
            refine JL.val (v := .bool false) (QV.assign rfl) rfl rfl rfl ?_
            refine JL.nil ?_
            refine QJ.then_normal ?_
            refine JC.ret ?_
            refine QJ.block_ret ?_
            refine QJ.then_ret ?_
            obtain rfl := Option.some.inj hm
            refine QJ.round_ret (fun hy => ?_)
            subst hy
            refine QJ.block_ret ?_
            refine QJ.cut_ret ?_
            refine QJ.then_ret ?_
            obtain rfl := Option.some.inj hmo13
            exact QJ.body (vs := [.bool false]) (.inl rfl) rfl (ResVs.cons (ResV.tmp rfl) ResVs.nil) [] rfl rfl (.inr trivial) ⟨rfl, rfl⟩
        ·
          refine JT.only (i := 11) (d := some 27) rfl (MV.ofQV (v := .bool true) (QV.eq (QV.move rfl) (congrArg Value.bool (congrArg Bool.not (decide_eq_false h18))))) rfl rfl rfl ?_
          rintro _ _ ⟨rfl, rfl⟩
          refine ⟨fun _ => ⟨[0, 1], rfl, rfl⟩, ?_⟩
          refine JT.skip (i := 12) (d := some 28) hsel rfl rfl rfl rfl rfl [0, 1] rfl rfl ?_
          refine JT.skip (i := 13) (d := some 29) hsel rfl rfl rfl rfl rfl [0, 1] rfl rfl ?_
          refine JT.skip (i := 14) (d := some 30) hsel rfl rfl rfl rfl rfl [0, 1] rfl rfl ?_
          refine JT.skip (i := 15) (d := some 31) hsel rfl rfl rfl rfl rfl [0, 1] rfl rfl ?_
          refine JT.skip (i := 16) (d := some 32) hsel rfl rfl rfl rfl rfl [0, 1] rfl rfl ?_
          refine JT.skip (i := 17) (d := some 33) hsel rfl rfl rfl rfl rfl [0, 1] rfl rfl ?_
          refine JT.skipO (i := 18) (d := some 34) rfl rfl rfl rfl [0, 1] rfl rfl ?_
          refine JT.skipO (i := 19) (d := some 35) rfl rfl rfl rfl [0, 1] rfl rfl ?_
          refine JT.skipO (i := 20) (d := some 36) rfl rfl rfl rfl [0, 1] rfl rfl ?_
          refine JT.skipO (i := 21) (d := some 37) rfl rfl rfl rfl [0, 1] rfl rfl ?_
          refine JT.skipO (i := 22) (d := some 38) rfl rfl rfl rfl [0, 1] rfl rfl ?_
          refine JT.only (i := 23) (d := some 39) rfl (MV.ofQV (v := .bool true) (QV.pickT rfl rfl)) rfl rfl rfl ?_
          rintro _ _ ⟨rfl, rfl⟩
          refine ⟨fun _ => ⟨[0, 1], rfl, rfl⟩, ?_⟩
          refine JT.only (i := 24) (d := some 40) rfl (MV.ofQV (v := .bool true) (QV.move rfl)) rfl rfl rfl ?_
          rintro _ _ ⟨rfl, rfl⟩
          refine ⟨fun _ => ⟨[0, 1], rfl, rfl⟩, ?_⟩
          refine JT.skip (i := 25) (d := some 41) hsel rfl rfl rfl rfl rfl [0, 1] rfl rfl ?_
          refine JT.skip (i := 26) (d := some 42) hsel rfl rfl rfl rfl rfl [0, 1] rfl rfl ?_
          refine JT.skip (i := 27) (d := some 43) hsel rfl rfl rfl rfl rfl [0, 1] rfl rfl ?_
          refine JT.skip (i := 28) (d := some 44) hsel rfl rfl rfl rfl rfl [0, 1] rfl rfl ?_
          refine JT.skip (i := 29) (d := some 45) hsel rfl rfl rfl rfl rfl [0, 1] rfl rfl ?_
          refine JT.skip (i := 30) (d := some 46) hsel rfl rfl rfl rfl rfl [0, 1] rfl rfl ?_
          refine JT.skipO (i := 31) (d := some 47) rfl rfl rfl rfl [0, 1] rfl rfl ?_
          refine JT.skipO (i := 32) (d := some 48) rfl rfl rfl rfl [0, 1] rfl rfl ?_
          refine JT.skipO (i := 33) (d := some 49) rfl rfl rfl rfl [0, 1] rfl rfl ?_
          refine JT.skipO (i := 34) (d := some 50) rfl rfl rfl rfl [0, 1] rfl rfl ?_
          refine JT.skipO (i := 35) (d := some 51) rfl rfl rfl rfl [0, 1] rfl rfl ?_
          refine JT.only (i := 36) (d := some 52) rfl (MV.ofQV (v := .bool true) (QV.pickT rfl rfl)) rfl rfl rfl ?_
          rintro _ _ ⟨rfl, rfl⟩
          refine ⟨fun _ => ⟨[0, 1], rfl, rfl⟩, ?_⟩
          refine JT.only (i := 37) (d := some 53) rfl (MV.ofQV (v := .bool true) (QV.move rfl)) rfl rfl rfl ?_
          rintro _ _ ⟨rfl, rfl⟩
          refine ⟨fun _ => ⟨[0, 1], rfl, rfl⟩, ?_⟩
          refine JT.skip (i := 38) (d := some 54) hsel rfl rfl rfl rfl rfl [0, 1] rfl rfl ?_
          refine JT.skip (i := 39) (d := some 55) hsel rfl rfl rfl rfl rfl [0, 1] rfl rfl ?_
          refine JT.skip (i := 40) (d := some 56) hsel rfl rfl rfl rfl rfl [0, 1] rfl rfl ?_
          refine JT.skip (i := 41) (d := some 57) hsel rfl rfl rfl rfl rfl [0, 1] rfl rfl ?_
          refine JT.skip (i := 42) (d := some 58) hsel rfl rfl rfl rfl rfl [0, 1] rfl rfl ?_
          refine JT.skip (i := 43) (d := some 59) hsel rfl rfl rfl rfl rfl [0, 1] rfl rfl ?_
          refine JT.skip (i := 44) (d := some 60) hsel rfl rfl rfl rfl rfl [0, 1] rfl rfl ?_
          refine JT.skipO (i := 45) (d := some 61) rfl rfl rfl rfl [0, 1] rfl rfl ?_
          refine JT.skipO (i := 46) (d := some 62) rfl rfl rfl rfl [0, 1] rfl rfl ?_
          refine JT.skipO (i := 47) (d := some 63) rfl rfl rfl rfl [0, 1] rfl rfl ?_
          refine JT.skipO (i := 48) (d := some 64) rfl rfl rfl rfl [0, 1] rfl rfl ?_
          refine JT.skipO (i := 49) (d := some 65) rfl rfl rfl rfl [0, 1] rfl rfl ?_
          refine JT.skipO (i := 50) (d := some 66) rfl rfl rfl rfl [0, 1] rfl rfl ?_
          refine JT.only (i := 51) (d := some 67) rfl (MV.ofQV (v := .bool true) (QV.pickT rfl rfl)) rfl rfl rfl ?_
          rintro _ _ ⟨rfl, rfl⟩
          refine ⟨fun _ => ⟨[0, 1], rfl, rfl⟩, ?_⟩
          refine JT.nil ?_
          refine QJ.then_normal ?_
          refine JC.condT rfl ?_
          refine JC.seq ?_
          refine JC.region ?_
          refine JL.val (v := .bool false) (QV.assign rfl) rfl rfl rfl ?_
          refine JL.nil ?_
          refine QJ.then_normal ?_
          refine JC.ret ?_
          refine QJ.block_ret ?_
          refine QJ.then_ret ?_
          obtain rfl := Option.some.inj hm
          refine QJ.round_ret (fun hy => ?_)
          subst hy
          refine QJ.block_ret ?_
          refine QJ.cut_ret ?_
          refine QJ.then_ret ?_
          obtain rfl := Option.some.inj hmo13
          exact QJ.body (vs := [.bool false]) (.inl rfl) rfl (ResVs.cons (ResV.tmp rfl) ResVs.nil) [] rfl rfl (.inr trivial) ⟨rfl, rfl⟩
      ·
        refine JC.condF' rfl (decide_eq_false h15) ?_
        refine JC.exit ?_
        refine QJ.then_exit ?_
        obtain rfl := Option.some.inj hm
        refine QJ.round_exit (fun hy => ?_)
        subst hy
        refine QJ.block_hit ?_
        exact QJ.cut_normal ((), ()) hmo13 [] trivial rfl rfl
  ·
    refine JC.condT' rfl (congrArg Bool.not (decide_eq_false h8)) ?_
    refine JC.seq ?_
    refine JC.region ?_
    refine JL.val (v := .bool false) (QV.assign rfl) rfl rfl rfl ?_
    refine JL.nil ?_
    refine QJ.then_normal ?_
    refine JC.ret ?_
    refine QJ.then_ret ?_
    obtain rfl := Option.some.inj hm
    exact QJ.body (vs := [.bool false]) (.inl rfl) rfl (ResVs.cons (ResV.tmp rfl) ResVs.nil) [] rfl rfl (.inr trivial) ⟨rfl, rfl⟩

end Go.Proofs.Ytedokgdilpfomaa
