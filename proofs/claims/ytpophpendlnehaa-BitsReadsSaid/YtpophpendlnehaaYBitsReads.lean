/- Written by gen.py: functions and their contracts. -/
import Derived.Test.YtpophpendlnehaaBit
namespace Go.Proofs.Ytpophpendlnehaa
open Go Go.Eng Go.Proofs
set_option linter.unusedVariables false
set_option linter.unusedSimpArgs false
/-! ### 25: drogher/drogherlaw08.great -/
noncomputable def F25.j1   : Option Bool :=
  some false
noncomputable def F25.b1 (x2 : List (Int × Int × Int × (List Int))) : Int → Option (Int ⊕ ((Bool) ⊕ Unit))
  | d6 => (if d6 < ((x2).length : Int) then (if 0 ≤ d6 ∧ d6 < ((x2).length : Int) then (if (100 : Int) < (((gd x2 d6).2.2.2).length : Int) then some (.inr (.inl (true))) else some (.inl (IntKind.wrap .i64 (d6 + (1 : Int))))) else none) else some (.inr (.inr (()))))
noncomputable def F25.m (x2 : List (Int × Int × Int × (List Int))) : Option Bool :=
  (if (100 : Int) < ((x2).length : Int) then some true else ((loop (F25.b1 x2) (0 : Int)).bind fun y => match y with | .inl r => some r | .inr _ => F25.j1))
set_option maxRecDepth 100000 in
set_option maxHeartbeats 4000000 in
theorem F25.spec (s1 : SlV) (z3 : List (Unit × Unit × Unit × SlV)) (x2 : List (Int × Int × Int × (List Int))) (r : Bool) (hm : F25.m x2 = some r) :
    Ctr Try.prog false 25 [s1.v] [Asr.vn (NE.pair (NE.flat (Enc.int .i64)) (NE.pair (NE.flat (Enc.int .i64)) (NE.pair (NE.flat (Enc.int .u32)) (NE.sl (Enc.int .u8))))) (s1.v) z3 x2] (fun v L' => v = .bool r ∧ L' = []) := by
  refine Ctr.intro (n := 20) (env := [(0, s1.v)]) Try.func25 rfl rfl rfl rfl (fun c => ?_)
  unfold F25.m at hm
  refine JC.seq ?_
  refine JC.region ?_
  refine JL.val (v := .bool false) (QV.assign rfl) rfl rfl rfl ?_
  refine JL.nil ?_
  refine QJ.then_normal ?_
  refine JC.seq ?_
  refine JC.seq ?_
  refine JC.region ?_
  refine JL.val (v := s1.v) (QV.move rfl) rfl rfl rfl ?_
  refine JL.val (v := .int .i64 ((x2).length : Int)) (QV.lenN (RdN.vn 0 rfl) Try.underlying38 rfl) rfl rfl rfl ?_
  refine JL.val (v := .bool (decide ((100 : Int) < ((x2).length : Int)))) (QV.gtr rfl rfl) rfl rfl rfl ?_
  refine JL.nil ?_
  refine QJ.then_normal ?_
  rcases ite_inv hm with ⟨h5, hm⟩ | ⟨h5, hm⟩
  ·
    refine JC.condT' rfl (decide_eq_true h5) ?_
    refine JC.seq ?_
    refine JC.region ?_
    refine JL.val (v := .bool true) (QV.assign rfl) rfl rfl rfl ?_
    refine JL.nil ?_
    refine QJ.then_normal ?_
    refine JC.ret ?_
    refine QJ.then_ret ?_
    obtain rfl := Option.some.inj hm
    exact QJ.body (vs := [.bool true]) (.inl rfl) rfl (ResVs.cons (ResV.tmp rfl) ResVs.nil) [] rfl rfl (.inr trivial) ⟨rfl, rfl⟩
  ·
    refine JC.condF' rfl (decide_eq_false h5) ?_
    refine JC.skip ?_
    refine QJ.then_normal ?_
    refine JC.seq ?_
    refine JC.seq ?_
    refine JC.region ?_
    refine JL.val (v := .int .i64 (0 : Int)) (QV.assign rfl) rfl rfl rfl ?_
    refine JL.nil ?_
    refine QJ.then_normal ?_
    refine JC.cutK (Y := Unit × Unit) (fun y => match y with | (_, _) => F25.j1 = some r) (fun y => match y with | (_, _) => []) (fun y => match y with | (_, _) => []) ?_ ?_
    ·
      rintro ⟨⟨⟩, ⟨⟩⟩ hm
      unfold F25.j1 at hm
      show QJ _ _ [] [] _ _
      refine QJ.then_normal ?_
      refine JC.seq ?_
      refine JC.region ?_
      refine JL.val (v := .bool false) (QV.assign rfl) rfl rfl rfl ?_
      refine JL.nil ?_
      refine QJ.then_normal ?_
      refine JC.ret ?_
      obtain rfl := Option.some.inj hm
      exact QJ.body (vs := [.bool false]) (.inl rfl) rfl (ResVs.cons (ResV.tmp rfl) ResVs.nil) [] rfl rfl (.inr trivial) ⟨rfl, rfl⟩
    ·
      refine JC.block ?_
      obtain ⟨y8, hl9, hmo10⟩ := bind_inv hm
      refine JC.loop (F25.b1 x2) (fun x z => match x, z with | d6, _ => [(0, s1.v), (3, .int .i64 d6)]) (fun x z => match x, z with | d6, _ => [Asr.vn (NE.pair (NE.flat (Enc.int .i64)) (NE.pair (NE.flat (Enc.int .i64)) (NE.pair (NE.flat (Enc.int .u32)) (NE.sl (Enc.int .u8))))) (s1.v) z3 x2]) (0 : Int) () y8 hl9 [0] (by exact ⟨rfl, rfl, trivial⟩) rfl rfl ?_
      rintro d6 ⟨⟩ s11 hm
      unfold F25.b1 at hm
      dsimp only at hm
      show JC _ _ _ [(0, s1.v), (3, .int .i64 d6)] [Asr.vn (NE.pair (NE.flat (Enc.int .i64)) (NE.pair (NE.flat (Enc.int .i64)) (NE.pair (NE.flat (Enc.int .u32)) (NE.sl (Enc.int .u8))))) (s1.v) z3 x2] _ _
      refine JC.seq ?_
      refine JC.seq ?_
      refine JC.region ?_
      refine JL.val (v := .int .i64 d6) (QV.move rfl) rfl rfl rfl ?_
      refine JL.val (v := s1.v) (QV.move rfl) rfl rfl rfl ?_
      refine JL.val (v := .int .i64 ((x2).length : Int)) (QV.lenN (RdN.vn 0 rfl) Try.underlying38 rfl) rfl rfl rfl ?_
      refine JL.val (v := .bool (decide (d6 < ((x2).length : Int)))) (QV.lss rfl rfl) rfl rfl rfl ?_
      refine JL.nil ?_
      refine QJ.then_normal ?_
      rcases ite_inv hm with ⟨h12, hm⟩ | ⟨h12, hm⟩
      ·
        refine JC.condT' rfl (decide_eq_true h12) ?_
        refine JC.skip ?_
        refine QJ.then_normal ?_
        refine JC.seq ?_
        refine JC.block ?_
        refine JC.seq ?_
        refine JC.region ?_
        refine JL.val (v := s1.v) (QV.move rfl) rfl rfl rfl ?_
        refine JL.val (v := .int .i64 d6) (QV.move rfl) rfl rfl rfl ?_
        obtain ⟨h13, hm⟩ := guard_inv hm
        refine JL.val (v := .pointer (some (elA (s1.v) (Int.toNat d6 * ((NE.pair (NE.flat (Enc.int .i64)) (NE.pair (NE.flat (Enc.int .i64)) (NE.pair (NE.flat (Enc.int .u32)) (NE.sl (Enc.int .u8))))).E).sz)))) (QV.indexN (RdN.vn 0 rfl) Try.underlying38 tk_44 rfl rfl h13) rfl rfl rfl ?_
        refine JL.val (v := .pointer (some ((elA (s1.v) (Int.toNat d6 * ((NE.pair (NE.flat (Enc.int .i64)) (NE.pair (NE.flat (Enc.int .i64)) (NE.pair (NE.flat (Enc.int .u32)) (NE.sl (Enc.int .u8))))).E).sz)).add 3))) (QV.fieldA fo_44_3 rfl) rfl rfl rfl ?_
        refine JL.val (v := (gd z3 d6).2.2.2.v) (QV.elFN (RdN.vn 0 rfl) tk_26 rfl h13 rfl) rfl rfl rfl ?_
        refine JL.val (v := .int .i64 (((gd x2 d6).2.2.2).length : Int)) (QV.len (Rdg.ofDrv (Drv.el (K := (NE.pair (NE.flat (Enc.int .i64)) (NE.pair (NE.flat (Enc.int .i64)) (NE.pair (NE.flat (Enc.int .u32)) (NE.sl (Enc.int .u8)))))) (A := Asr.vw (Enc.int .u8) ((gd z3 d6).2.2.2.v) (gd x2 d6).2.2.2) (Drv.vn 0 rfl) h13 (fun _ _ q => q.2.2.2))) Try.underlying26 rfl) rfl rfl rfl ?_
        refine JL.val (v := .bool (decide ((100 : Int) < (((gd x2 d6).2.2.2).length : Int)))) (QV.gtr rfl rfl) rfl rfl rfl ?_
        refine JL.nil ?_
        refine QJ.then_normal ?_
        rcases ite_inv hm with ⟨h14, hm⟩ | ⟨h14, hm⟩
        ·
          refine JC.condT' rfl (decide_eq_true h14) ?_
          refine JC.seq ?_
          refine JC.region ?_
          refine JL.val (v := .bool true) (QV.assign rfl) rfl rfl rfl ?_
          refine JL.nil ?_
          refine QJ.then_normal ?_
          refine JC.ret ?_
          refine QJ.block_ret ?_
          refine QJ.then_ret ?_
          obtain rfl := Option.some.inj hm
          refine QJ.round_ret (fun hy => ?_)
          subst hy
          refine QJ.block_ret ?_
          refine QJ.cut_ret ?_
          refine QJ.then_ret ?_
          obtain rfl := Option.some.inj hmo10
          exact QJ.body (vs := [.bool true]) (.inl rfl) rfl (ResVs.cons (ResV.tmp rfl) ResVs.nil) [] rfl rfl (.inr trivial) ⟨rfl, rfl⟩
        ·
          refine JC.condF' rfl (decide_eq_false h14) ?_
          refine JC.skip ?_
          refine QJ.block_normal ?_
          refine QJ.then_normal ?_
          refine JC.region ?_
          refine JL.val (v := .int .i64 d6) (QV.move rfl) rfl rfl rfl ?_
          refine JL.val (v := .int .i64 (IntKind.wrap .i64 (d6 + (1 : Int)))) (QV.add rfl rfl) rfl rfl rfl ?_
          refine JL.val (v := .int .i64 (IntKind.wrap .i64 (d6 + (1 : Int)))) (QV.assign rfl) rfl rfl rfl ?_
          refine JL.nil ?_
          obtain rfl := Option.some.inj hm
          exact QJ.round_on (IntKind.wrap .i64 (d6 + (1 : Int))) () [0] (by exact ⟨rfl, rfl, trivial⟩) rfl rfl
      ·
        refine JC.condF' rfl (decide_eq_false h12) ?_
        refine JC.exit ?_
        refine QJ.then_exit ?_
        obtain rfl := Option.some.inj hm
        refine QJ.round_exit (fun hy => ?_)
        subst hy
        refine QJ.block_hit ?_
        exact QJ.cut_normal ((), ()) hmo10 [] trivial rfl rfl

/-! ### 40: drogher/drogherref08.Value -/
noncomputable def F40.j1  (d4 : Int) : Option Int :=
  some d4
noncomputable def F40.b1 (x2 : List Int) : (Int × Int) → Option ((Int × Int) ⊕ Int)
  | (d5, d6) => (if (0 : Int) ≤ d6 then (if 0 ≤ d6 ∧ d6 < ((x2).length : Int) then some (.inl ((IntKind.wrap .u32 ((IntKind.wrap .u32 ((2 : Int) * d5)) + (IntKind.wrap .u32 (gd x2 d6)))), (IntKind.wrap .i64 (d6 - (1 : Int))))) else none) else some (.inr d5))
noncomputable def F40.m (x2 : List Int) : Option Int :=
  ((loop (F40.b1 x2) ((0 : Int), (IntKind.wrap .i64 (((x2).length : Int) - (1 : Int))))).bind fun y => match y with | d4 => F40.j1 (d4))
set_option maxRecDepth 100000 in
set_option maxHeartbeats 4000000 in
theorem F40.spec (s1 : SlV) (x2 : List Int) (r : Int) (hm : F40.m x2 = some r) :
    Ctr Try.prog false 40 [s1.v] [Asr.vw (Enc.int .u8) (s1.v) x2] (fun v L' => v = .int .u32 r ∧ L' = []) := by
  refine Ctr.intro (n := 21) (env := [(0, s1.v)]) Try.func40 rfl rfl rfl rfl (fun c => ?_)
  unfold F40.m at hm
  refine JC.seq ?_
  refine JC.region ?_
  refine JL.val (v := .int .u32 (0 : Int)) (QV.assign rfl) rfl rfl rfl ?_
  refine JL.nil ?_
  refine QJ.then_normal ?_
  refine JC.seq ?_
  refine JC.region ?_
  refine JL.val (v := .int .u32 (0 : Int)) (QV.assign rfl) rfl rfl rfl ?_
  refine JL.nil ?_
  refine QJ.then_normal ?_
  refine JC.seq ?_
  refine JC.seq ?_
  refine JC.region ?_
  refine JL.val (v := s1.v) (QV.move rfl) rfl rfl rfl ?_
  refine JL.val (v := .int .i64 ((x2).length : Int)) (QV.len (Rdg.vw 0 rfl) Try.underlying26 rfl) rfl rfl rfl ?_
  refine JL.val (v := .int .i64 (IntKind.wrap .i64 (((x2).length : Int) - (1 : Int)))) (QV.sub rfl rfl) rfl rfl rfl ?_
  refine JL.val (v := .int .i64 (IntKind.wrap .i64 (((x2).length : Int) - (1 : Int)))) (QV.assign rfl) rfl rfl rfl ?_
  refine JL.nil ?_
  refine QJ.then_normal ?_
  refine JC.cutK (Y := Int × Unit) (fun y => match y with | (d4, _) => F40.j1 (d4) = some r) (fun y => match y with | (d4, _) => [(3, .int .u32 d4)]) (fun y => match y with | (d4, _) => []) ?_ ?_
  ·
    rintro ⟨d4, ⟨⟩⟩ hm
    unfold F40.j1 at hm
    show QJ _ _ [(3, .int .u32 d4)] [] _ _
    refine QJ.then_normal ?_
    refine JC.seq ?_
    refine JC.region ?_
    refine JL.val (v := .int .u32 d4) (QV.move rfl) rfl rfl rfl ?_
    refine JL.val (v := .int .u32 d4) (QV.assign rfl) rfl rfl rfl ?_
    refine JL.nil ?_
    refine QJ.then_normal ?_
    refine JC.ret ?_
    obtain rfl := Option.some.inj hm
    exact QJ.body (vs := [.int .u32 d4]) (.inl rfl) rfl (ResVs.cons (ResV.tmp rfl) ResVs.nil) [] rfl rfl (.inr trivial) ⟨rfl, rfl⟩
  ·
    refine JC.block ?_
    obtain ⟨y9, hl10, hmo11⟩ := bind_inv hm
    refine JC.loop (F40.b1 x2) (fun x z => match x, z with | (d5, d6), _ => [(0, s1.v), (3, .int .u32 d5), (4, .int .i64 d6)]) (fun x z => match x, z with | (d5, d6), _ => [Asr.vw (Enc.int .u8) (s1.v) x2]) ((0 : Int), (IntKind.wrap .i64 (((x2).length : Int) - (1 : Int)))) () y9 hl10 [0] (by exact ⟨rfl, rfl, rfl, trivial⟩) rfl rfl ?_
    rintro ⟨d5, d6⟩ ⟨⟩ s12 hm
    unfold F40.b1 at hm
    dsimp only at hm
    show JC _ _ _ [(0, s1.v), (3, .int .u32 d5), (4, .int .i64 d6)] [Asr.vw (Enc.int .u8) (s1.v) x2] _ _
    refine JC.seq ?_
    refine JC.seq ?_
    refine JC.region ?_
    refine JL.val (v := .int .i64 d6) (QV.move rfl) rfl rfl rfl ?_
    refine JL.val (v := .bool (decide ((0 : Int) ≤ d6))) (QV.geq rfl rfl) rfl rfl rfl ?_
    refine JL.nil ?_
    refine QJ.then_normal ?_
    rcases ite_inv hm with ⟨h13, hm⟩ | ⟨h13, hm⟩
    ·
      refine JC.condT' rfl (decide_eq_true h13) ?_
      refine JC.skip ?_
      refine QJ.then_normal ?_
      refine JC.seq ?_
      refine JC.block ?_
      refine JC.region ?_
      refine JL.val (v := .int .u32 d5) (QV.move rfl) rfl rfl rfl ?_
      refine JL.val (v := .int .u32 (IntKind.wrap .u32 ((2 : Int) * d5))) (QV.mul rfl rfl) rfl rfl rfl ?_
      refine JL.val (v := s1.v) (QV.move rfl) rfl rfl rfl ?_
      refine JL.val (v := .int .i64 d6) (QV.move rfl) rfl rfl rfl ?_
      obtain ⟨h14, hm⟩ := guard_inv hm
      refine JL.val (v := .pointer (some (elA (s1.v) (Int.toNat d6 * ((Enc.int .u8)).sz)))) (QV.indexA (Rdg.vw 0 rfl) Try.underlying26 tk_5 rfl rfl h14) rfl rfl rfl ?_
      refine JL.val (v := .int .u8 (gd x2 d6)) (QV.el1 (Rdg.vw 0 rfl) tk_5 rfl h14 rfl) rfl rfl rfl ?_
      refine JL.val (v := .int .u32 (IntKind.wrap .u32 (gd x2 d6))) (QV.conv rfl (by rw [Try.underlying5]; rfl) Try.underlying42) rfl rfl rfl ?_
      refine JL.val (v := .int .u32 (IntKind.wrap .u32 ((IntKind.wrap .u32 ((2 : Int) * d5)) + (IntKind.wrap .u32 (gd x2 d6))))) (QV.add rfl rfl) rfl rfl rfl ?_
      refine JL.val (v := .int .u32 (IntKind.wrap .u32 ((IntKind.wrap .u32 ((2 : Int) * d5)) + (IntKind.wrap .u32 (gd x2 d6))))) (QV.assign rfl) rfl rfl rfl ?_
      refine JL.nil ?_
      refine QJ.block_normal ?_
      refine QJ.then_normal ?_
      refine JC.region ?_
      refine JL.val (v := .int .i64 d6) (QV.move rfl) rfl rfl rfl ?_
      refine JL.val (v := .int .i64 (IntKind.wrap .i64 (d6 - (1 : Int)))) (QV.sub rfl rfl) rfl rfl rfl ?_
      refine JL.val (v := .int .i64 (IntKind.wrap .i64 (d6 - (1 : Int)))) (QV.assign rfl) rfl rfl rfl ?_
      refine JL.nil ?_
      obtain rfl := Option.some.inj hm
      exact QJ.round_on ((IntKind.wrap .u32 ((IntKind.wrap .u32 ((2 : Int) * d5)) + (IntKind.wrap .u32 (gd x2 d6)))), (IntKind.wrap .i64 (d6 - (1 : Int)))) () [0] (by exact ⟨rfl, rfl, rfl, trivial⟩) rfl rfl
    ·
      refine JC.condF' rfl (decide_eq_false h13) ?_
      refine JC.exit ?_
      refine QJ.then_exit ?_
      obtain rfl := Option.some.inj hm
      refine QJ.round_exit (fun hy => ?_)
      subst hy
      refine QJ.block_hit ?_
      exact QJ.cut_normal (d5, ()) hmo11 [] (by exact ⟨rfl, trivial⟩) rfl rfl

/-! ### 42: (*drogher/bits.Reader).Align -/
noncomputable def F42.m (x3 : List Int) (x4 : Int) : Option Int :=
  some (IntKind.wrap .i64 (x4 + (andI .i64 (IntKind.wrap .i64 (0 - x4)) (7 : Int))))
set_option maxRecDepth 100000 in
set_option maxHeartbeats 4000000 in
theorem F42.spec (b1 : Nat) (s2 : SlV) (x3 : List Int) (x4 : Int) (r : Int) (hm : F42.m x3 x4 = some r) :
    Ctr Try.prog false 42 [.pointer (some ⟨b1, 0, none⟩)] [Asr.blk b1 101 [Seg.c (s2.v), Seg.c (.int .i64 x4)], Asr.of 5 (Enc.int .u8) (s2.v) x3] (fun v L' => v = .tuple #[] ∧ L' = [Asr.of 5 (Enc.int .u8) (s2.v) x3, Asr.blk b1 101 [Seg.c (s2.v), Seg.c (.int .i64 r)]]) := by
  refine Ctr.intro (n := 17) (env := [(0, .pointer (some ⟨b1, 0, none⟩))]) Try.func42 rfl rfl rfl rfl (fun c => ?_)
  unfold F42.m at hm
  refine JC.seq ?_
  refine JC.region ?_
  refine JL.val (v := .pointer (some ⟨b1, 0, none⟩)) (QV.move rfl) rfl rfl rfl ?_
  refine JL.val (v := .bool true) ((QV.eq (QV.neqP Try.underlying51 rfl rfl (.inr rfl)) (by simp))) rfl rfl rfl ?_
  refine JL.nil ?_
  refine QJ.then_normal ?_
  refine JC.condT rfl ?_
  refine JC.regionT [Asr.blk b1 101 [Seg.c (s2.v), Seg.c (.int .i64 x4)], Asr.of 5 (Enc.int .u8) (s2.v) x3] (fun t => Nat.beq t 13) [(0, true), (1, true), (2, true), (3, true), (4, false), (5, false), (6, false), (7, false), (8, false), (9, false), (10, false), (11, false), (12, false), (13, false)] (by kernel_rfl) (by kernel_rfl) (by kernel_rfl) rfl (fun hsel => ?_)
  refine JT.take (i := 0) (v := .pointer (some ⟨b1, 0, none⟩)) hsel rfl (QV.move rfl) rfl rfl rfl [0, 1] rfl rfl ?_
  refine JT.take (i := 1) (v := .pointer (some ⟨b1, 0, none⟩)) hsel rfl (QV.nilCheck rfl) rfl rfl rfl [0, 1] rfl rfl ?_
  refine JT.take (i := 2) (v := .pointer (some ⟨b1, 1, none⟩)) hsel rfl (QV.fieldB fo_101_1 rfl rfl) rfl rfl rfl [0, 1] rfl rfl ?_
  refine JT.take (i := 3) (v := .int .i64 x4) hsel rfl (QV.load1 (ss := [Seg.c (s2.v), Seg.c (.int .i64 x4)]) 0 1 rfl tk_3 rfl rfl rfl) rfl rfl rfl [0, 1] rfl rfl ?_
  refine JT.only (i := 4) (d := some 8) rfl (MV.ofQV (v := .pointer (some ⟨b1, 0, none⟩)) (QV.move rfl)) rfl rfl rfl ?_
  rintro _ _ ⟨rfl, rfl⟩
  refine ⟨fun _ => ⟨[0, 1], rfl, rfl⟩, ?_⟩
  refine JT.only (i := 5) (d := some 9) rfl (MV.ofQV (v := .pointer (some ⟨b1, 0, none⟩)) (QV.nilCheck rfl)) rfl rfl rfl ?_
  rintro _ _ ⟨rfl, rfl⟩
  refine ⟨fun _ => ⟨[0, 1], rfl, rfl⟩, ?_⟩
  refine JT.only (i := 6) (d := some 10) rfl (MV.ofQV (v := .pointer (some ⟨b1, 1, none⟩)) (QV.fieldB fo_101_1 rfl rfl)) rfl rfl rfl ?_
  rintro _ _ ⟨rfl, rfl⟩
  refine ⟨fun _ => ⟨[0, 1], rfl, rfl⟩, ?_⟩
  refine JT.only (i := 7) (d := some 11) rfl (MV.ofQV (v := .int .i64 x4) (QV.load1 (ss := [Seg.c (s2.v), Seg.c (.int .i64 x4)]) 0 1 rfl tk_3 rfl rfl rfl)) rfl rfl rfl ?_
  rintro _ _ ⟨rfl, rfl⟩
  refine ⟨fun _ => ⟨[0, 1], rfl, rfl⟩, ?_⟩
  refine JT.only (i := 8) (d := some 12) rfl (MV.ofQV (v := .int .i64 (IntKind.wrap .i64 (0 - x4))) (QV.neg rfl)) rfl rfl rfl ?_
  rintro _ _ ⟨rfl, rfl⟩
  refine ⟨fun _ => ⟨[0, 1], rfl, rfl⟩, ?_⟩
  refine JT.only (i := 9) (d := some 13) rfl (MV.ofQV (v := .int .i64 (andI .i64 (IntKind.wrap .i64 (0 - x4)) (7 : Int))) (QV.and rfl rfl)) rfl rfl rfl ?_
  rintro _ _ ⟨rfl, rfl⟩
  refine ⟨fun _ => ⟨[0, 1], rfl, rfl⟩, ?_⟩
  refine JT.only (i := 10) (d := some 14) rfl (MV.ofQV (v := .int .i64 (IntKind.wrap .i64 (x4 + (andI .i64 (IntKind.wrap .i64 (0 - x4)) (7 : Int))))) (QV.add rfl rfl)) rfl rfl rfl ?_
  rintro _ _ ⟨rfl, rfl⟩
  refine ⟨fun _ => ⟨[0, 1], rfl, rfl⟩, ?_⟩
  refine JT.only (i := 11) (d := some 15) rfl (MV.ofQV (v := .pointer (some ⟨b1, 0, none⟩)) (QV.nilCheck rfl)) rfl rfl rfl ?_
  rintro _ _ ⟨rfl, rfl⟩
  refine ⟨fun _ => ⟨[0, 1], rfl, rfl⟩, ?_⟩
  refine JT.only (i := 12) (d := some 16) rfl (MV.ofQV (v := .pointer (some ⟨b1, 1, none⟩)) (QV.fieldB fo_101_1 rfl rfl)) rfl rfl rfl ?_
  rintro _ _ ⟨rfl, rfl⟩
  refine ⟨fun _ => ⟨[0, 1], rfl, rfl⟩, ?_⟩
  refine JT.only (i := 13) (d := none) rfl (MV.store (ss := [Seg.c (s2.v), Seg.c (.int .i64 x4)]) 0 1 1 [Seg.c (.int .i64 (IntKind.wrap .i64 (x4 + (andI .i64 (IntKind.wrap .i64 (0 - x4)) (7 : Int)))))] rfl tk_3 rfl rfl rfl rfl (fun w hs => ⟨rfl, one_c rfl, trivial⟩)) rfl rfl rfl ?_
  rintro _ _ ⟨rfl, rfl⟩
  refine ⟨fun h => absurd h (by decide), ?_⟩
  refine JT.nil ?_
  obtain rfl := Option.some.inj hm
  exact QJ.body (vs := []) (.inr rfl) rfl ResVs.nil [1, 0] rfl rfl (.inr ⟨own_of _ _ _ _, own_blk _ _ _, trivial⟩) ⟨rfl, rfl⟩

/-! ### 43: drogher/drogherref08.Whole -/
noncomputable def F43.m (x1 : Int) : Option Int :=
  some (IntKind.wrap .i64 ((IntKind.wrap .i64 (Int.tdiv (IntKind.wrap .i64 (x1 + (7 : Int))) (8 : Int))) * (8 : Int)))
set_option maxRecDepth 100000 in
set_option maxHeartbeats 4000000 in
theorem F43.spec (x1 : Int) (r : Int) (hm : F43.m x1 = some r) :
    Ctr Try.prog false 43 [.int .i64 x1] [] (fun v L' => v = .int .i64 r ∧ L' = []) := by
  refine Ctr.intro (n := 7) (env := [(0, .int .i64 x1)]) Try.func43 rfl rfl rfl rfl (fun c => ?_)
  unfold F43.m at hm
  refine JC.seq ?_
  refine JC.region ?_
  refine JL.val (v := .int .i64 (0 : Int)) (QV.assign rfl) rfl rfl rfl ?_
  refine JL.nil ?_
  refine QJ.then_normal ?_
  refine JC.seq ?_
  refine JC.region ?_
  refine JL.val (v := .int .i64 x1) (QV.move rfl) rfl rfl rfl ?_
  refine JL.val (v := .int .i64 (IntKind.wrap .i64 (x1 + (7 : Int)))) (QV.add rfl rfl) rfl rfl rfl ?_
  refine JL.val (v := .int .i64 (IntKind.wrap .i64 (Int.tdiv (IntKind.wrap .i64 (x1 + (7 : Int))) (8 : Int)))) (QV.quo rfl rfl (by decide)) rfl rfl rfl ?_
  refine JL.val (v := .int .i64 (IntKind.wrap .i64 ((IntKind.wrap .i64 (Int.tdiv (IntKind.wrap .i64 (x1 + (7 : Int))) (8 : Int))) * (8 : Int)))) (QV.mul rfl rfl) rfl rfl rfl ?_
  refine JL.val (v := .int .i64 (IntKind.wrap .i64 ((IntKind.wrap .i64 (Int.tdiv (IntKind.wrap .i64 (x1 + (7 : Int))) (8 : Int))) * (8 : Int)))) (QV.assign rfl) rfl rfl rfl ?_
  refine JL.nil ?_
  refine QJ.then_normal ?_
  refine JC.ret ?_
  obtain rfl := Option.some.inj hm
  exact QJ.body (vs := [.int .i64 (IntKind.wrap .i64 ((IntKind.wrap .i64 (Int.tdiv (IntKind.wrap .i64 (x1 + (7 : Int))) (8 : Int))) * (8 : Int)))]) (.inl rfl) rfl (ResVs.cons (ResV.tmp rfl) ResVs.nil) [] rfl rfl (.inr trivial) ⟨rfl, rfl⟩

/-! ### 44: (*drogher/bits.Reader).Raw -/
noncomputable def F44.m (x3 : List Int) (x4 : Int) (x5 : Int) : Option (List Int × Int × Int) :=
  ((F42.m (x3) (x4)).bind fun y10 => (if x5 < (0 : Int) then some (([] : List Int), (1 : Int), y10) else ((F41.m (x3) (y10)).bind fun y13 => (if (IntKind.wrap .i64 (Int.tdiv y13 (8 : Int))) < x5 then some (([] : List Int), (2 : Int), y10) else (if 0 ≤ (IntKind.wrap .i64 (Int.tdiv y10 (8 : Int))) ∧ (IntKind.wrap .i64 (Int.tdiv y10 (8 : Int))) ≤ ((x3).length : Int) ∧ ((x3).length : Int) ≤ ((x3).length : Int) then (if 0 ≤ (0 : Int) ∧ (0 : Int) ≤ x5 ∧ x5 ≤ (((subL x3 (IntKind.wrap .i64 (Int.tdiv y10 (8 : Int))) ((x3).length : Int))).length : Int) then ((F64.m ((subL (subL x3 (IntKind.wrap .i64 (Int.tdiv y10 (8 : Int))) ((x3).length : Int)) (0 : Int) x5))).bind fun y18 => some (y18, (0 : Int), (IntKind.wrap .i64 (y10 + (IntKind.wrap .i64 ((8 : Int) * x5)))))) else none) else none)))))
set_option maxRecDepth 100000 in
set_option maxHeartbeats 4000000 in
theorem F44.spec (b1 : Nat) (s2 : SlV) (x3 : List Int) (x4 : Int) (x5 : Int) (r : (List Int × Int × Int)) (hm : F44.m x3 x4 x5 = some r) :
    Ctr Try.prog false 44 [.pointer (some ⟨b1, 0, none⟩), .int .i64 x5] [Asr.blk b1 101 [Seg.c (s2.v), Seg.c (.int .i64 x4)], Asr.of 5 (Enc.int .u8) (s2.v) x3] (fun v L' => ∃ (g6 : SlV), v = .tuple #[g6.v, .int .i64 r.2.1] ∧ L' = [Asr.of 5 (Enc.int .u8) (g6.v) r.1, Asr.of 5 (Enc.int .u8) (s2.v) x3, Asr.blk b1 101 [Seg.c (s2.v), Seg.c (.int .i64 r.2.2)]]) := by
  refine Ctr.intro (n := 45) (env := [(0, .pointer (some ⟨b1, 0, none⟩)), (1, .int .i64 x5)]) Try.func44 rfl rfl rfl rfl (fun c => ?_)
  unfold F44.m at hm
  refine JC.seq ?_
  refine JC.region ?_
  refine JL.ent (fun _ hs => hs.nil 5 (Enc.int .u8)) ?_
  refine JL.val (v := SlV.nil.v) (QV.assign rfl) rfl rfl rfl ?_
  refine JL.val (v := .int .i64 (0 : Int)) (QV.assign rfl) rfl rfl rfl ?_
  refine JL.nil ?_
  refine QJ.then_normal ?_
  refine JC.seq ?_
  refine JC.region ?_
  refine JL.val (v := .pointer (some ⟨b1, 0, none⟩)) (QV.move rfl) rfl rfl rfl ?_
  obtain ⟨y10, hc11, hm⟩ := bind_inv hm
  refine JL.mv (d := some 8) (MV.call (Lo := [Asr.blk b1 101 [Seg.c (s2.v), Seg.c (.int .i64 x4)], Asr.of 5 (Enc.int .u8) (s2.v) x3]) (Lr := [Asr.of 5 (Enc.int .u8) (SlV.nil.v) ([] : List Int)]) (F42.spec (b1) (s2) (x3) (x4) _ hc11) rfl Try.func42 rfl rfl rfl [1, 2] [0] rfl rfl rfl trivial) rfl rfl rfl ?_
  rintro _ _ ⟨_, ⟨rfl, rfl⟩, rfl⟩
  refine JL.nil ?_
  refine QJ.then_normal ?_
  refine JC.seq ?_
  refine JC.block ?_
  refine JC.seq ?_
  refine JC.region ?_
  refine JL.val (v := .pointer (some ⟨b1, 0, none⟩)) (QV.move rfl) rfl rfl rfl ?_
  refine JL.val (v := .bool false) ((QV.eq (QV.eqlP Try.underlying51 rfl rfl (.inr rfl)) (by simp))) rfl rfl rfl ?_
  refine JL.val (v := .bool false) (QV.move rfl) rfl rfl rfl ?_
  refine JL.val (v := .int .i64 x5) (QV.move rfl) rfl rfl rfl ?_
  refine JL.val (v := .bool (decide (x5 < (0 : Int)))) (QV.lss rfl rfl) rfl rfl rfl ?_
  refine JL.val (v := .bool (decide (x5 < (0 : Int)))) (QV.pickF rfl rfl) rfl rfl rfl ?_
  refine JL.val (v := .bool (decide (x5 < (0 : Int)))) (QV.assign rfl) rfl rfl rfl ?_
  refine JL.nil ?_
  refine QJ.then_normal ?_
  rcases ite_inv hm with ⟨h12, hm⟩ | ⟨h12, hm⟩
  ·
    refine JC.condT' rfl (decide_eq_true h12) ?_
    refine JC.seq ?_
    refine JC.region ?_
    refine JL.ent (fun _ hs => hs.nil 5 (Enc.int .u8)) ?_
    refine JL.val (v := SlV.nil.v) (QV.assign rfl) rfl rfl rfl ?_
    refine JL.val (v := .int .i64 (1 : Int)) (QV.assign rfl) rfl rfl rfl ?_
    refine JL.nil ?_
    refine QJ.then_normal ?_
    refine JC.ret ?_
    refine QJ.block_ret ?_
    refine QJ.then_ret ?_
    obtain rfl := Option.some.inj hm
    exact QJ.body (vs := [SlV.nil.v, .int .i64 (1 : Int)]) (.inl rfl) rfl (ResVs.cons (ResV.tmp rfl) (ResVs.cons (ResV.tmp rfl) ResVs.nil)) [0, 1, 2] rfl rfl (.inr ⟨own_of _ _ _ _, own_of _ _ _ _, own_blk _ _ _, trivial⟩) ⟨(SlV.nil), rfl, rfl⟩
  ·
    refine JC.condF' rfl (decide_eq_false h12) ?_
    refine JC.seq ?_
    refine JC.region ?_
    refine JL.val (v := .int .i64 x5) (QV.move rfl) rfl rfl rfl ?_
    refine JL.val (v := .pointer (some ⟨b1, 0, none⟩)) (QV.move rfl) rfl rfl rfl ?_
    obtain ⟨y13, hc14, hm⟩ := bind_inv hm
    refine JL.mv (d := some 19) (MV.call (Lo := [Asr.blk b1 101 [Seg.c (s2.v), Seg.c (.int .i64 y10)], Asr.of 5 (Enc.int .u8) (s2.v) x3]) (Lr := [Asr.of 5 (Enc.int .u8) (SlV.nil.v) ([] : List Int)]) (F41.spec (b1) (s2) (x3) (y10) _ hc14) rfl Try.func41 rfl rfl rfl [1, 0] [2] rfl rfl rfl trivial) rfl rfl rfl ?_
    rintro _ _ ⟨_, ⟨rfl, rfl⟩, rfl⟩
    refine JL.val (v := .int .i64 (IntKind.wrap .i64 (Int.tdiv y13 (8 : Int)))) (QV.quo rfl rfl (by decide)) rfl rfl rfl ?_
    refine JL.val (v := .bool (decide ((IntKind.wrap .i64 (Int.tdiv y13 (8 : Int))) < x5))) (QV.gtr rfl rfl) rfl rfl rfl ?_
    refine JL.val (v := .bool (decide ((IntKind.wrap .i64 (Int.tdiv y13 (8 : Int))) < x5))) (QV.assign rfl) rfl rfl rfl ?_
    refine JL.nil ?_
    refine QJ.then_normal ?_
    rcases ite_inv hm with ⟨h15, hm⟩ | ⟨h15, hm⟩
    ·
      refine JC.condT' rfl (decide_eq_true h15) ?_
      refine JC.seq ?_
      refine JC.region ?_
      refine JL.ent (fun _ hs => hs.nil 5 (Enc.int .u8)) ?_
      refine JL.val (v := SlV.nil.v) (QV.assign rfl) rfl rfl rfl ?_
      refine JL.val (v := .int .i64 (2 : Int)) (QV.assign rfl) rfl rfl rfl ?_
      refine JL.nil ?_
      refine QJ.then_normal ?_
      refine JC.ret ?_
      refine QJ.block_ret ?_
      refine QJ.then_ret ?_
      obtain rfl := Option.some.inj hm
      exact QJ.body (vs := [SlV.nil.v, .int .i64 (2 : Int)]) (.inl rfl) rfl (ResVs.cons (ResV.tmp rfl) (ResVs.cons (ResV.tmp rfl) ResVs.nil)) [0, 1, 2] rfl rfl (.inr ⟨own_of _ _ _ _, own_of _ _ _ _, own_blk _ _ _, trivial⟩) ⟨(SlV.nil), rfl, rfl⟩
    ·
      refine JC.condF' rfl (decide_eq_false h15) ?_
      refine JC.skip ?_
      refine QJ.block_normal ?_
      refine QJ.then_normal ?_
      refine JC.seq ?_
      refine JC.regionT [Asr.of 5 (Enc.int .u8) (s2.v) x3, Asr.blk b1 101 [Seg.c (s2.v), Seg.c (.int .i64 y10)], Asr.of 5 (Enc.int .u8) (SlV.nil.v) ([] : List Int)] (fun t => false) [(0, true), (1, true), (2, true), (3, true), (4, true), (5, true), (6, true), (7, true), (8, true), (9, true), (10, false), (11, false), (12, false), (13, false)] (by kernel_rfl) (by kernel_rfl) (by kernel_rfl) rfl (fun hsel => ?_)
      refine JT.take (i := 0) (v := .pointer (some ⟨b1, 0, none⟩)) hsel rfl (QV.move rfl) rfl rfl rfl [0, 1, 2] rfl rfl ?_
      refine JT.take (i := 1) (v := .pointer (some ⟨b1, 0, none⟩)) hsel rfl (QV.nilCheck rfl) rfl rfl rfl [0, 1, 2] rfl rfl ?_
      refine JT.take (i := 2) (v := .pointer (some ⟨b1, 0, none⟩)) hsel rfl (QV.fieldB fo_101_0 rfl rfl) rfl rfl rfl [0, 1, 2] rfl rfl ?_
      refine JT.take (i := 3) (v := s2.v) hsel rfl (QV.load1 (ss := [Seg.c (s2.v), Seg.c (.int .i64 y10)]) 1 0 rfl tk_26 rfl rfl rfl) rfl rfl rfl [0, 1, 2] rfl rfl ?_
      refine JT.take (i := 4) (v := .pointer (some ⟨b1, 0, none⟩)) hsel rfl (QV.move rfl) rfl rfl rfl [0, 1, 2] rfl rfl ?_
      refine JT.take (i := 5) (v := .pointer (some ⟨b1, 0, none⟩)) hsel rfl (QV.nilCheck rfl) rfl rfl rfl [0, 1, 2] rfl rfl ?_
      refine JT.take (i := 6) (v := .pointer (some ⟨b1, 1, none⟩)) hsel rfl (QV.fieldB fo_101_1 rfl rfl) rfl rfl rfl [0, 1, 2] rfl rfl ?_
      refine JT.take (i := 7) (v := .int .i64 y10) hsel rfl (QV.load1 (ss := [Seg.c (s2.v), Seg.c (.int .i64 y10)]) 1 1 rfl tk_3 rfl rfl rfl) rfl rfl rfl [0, 1, 2] rfl rfl ?_
      refine JT.take (i := 8) (v := .int .i64 (IntKind.wrap .i64 (Int.tdiv y10 (8 : Int)))) hsel rfl (QV.quo rfl rfl (by decide)) rfl rfl rfl [0, 1, 2] rfl rfl ?_
      obtain ⟨h16, hm⟩ := guard_inv hm
      refine JT.take (i := 9) (v := (SlV.sub ((Enc.int .u8)).sz s2 (IntKind.wrap .i64 (Int.tdiv y10 (8 : Int))) ((x3).length : Int)).v) hsel rfl (QV.sliceV (Rdg.of 0 rfl) Try.underlying26 tk_5 rfl rfl rfl h16) rfl rfl rfl [0, 1, 2] rfl rfl ?_
      refine JT.only (i := 10) (d := some 32) rfl (MV.ofQV (v := .int .i64 x5) (QV.move rfl)) rfl rfl rfl ?_
      rintro _ _ ⟨rfl, rfl⟩
      refine ⟨fun _ => ⟨[0, 1, 2], rfl, rfl⟩, ?_⟩
      obtain ⟨h17, hm⟩ := guard_inv hm
      refine JT.only (i := 11) (d := some 33) rfl (MV.ofQV (v := (SlV.sub ((Enc.int .u8)).sz (SlV.sub ((Enc.int .u8)).sz s2 (IntKind.wrap .i64 (Int.tdiv y10 (8 : Int))) ((x3).length : Int)) (0 : Int) x5).v) (QV.sliceV (Rdg.ofDrv ((Drv.of 0 rfl).subV h16)) Try.underlying26 tk_5 rfl rfl rfl h17)) rfl rfl rfl ?_
      rintro _ _ ⟨rfl, rfl⟩
      refine ⟨fun _ => ⟨[0, 1, 2], rfl, rfl⟩, ?_⟩
      obtain ⟨y18, hc19, hm⟩ := bind_inv hm
      refine JT.only (i := 12) (d := some 34) rfl (MV.call (Lo := []) (Lr := [Asr.of 5 (Enc.int .u8) (s2.v) x3, Asr.blk b1 101 [Seg.c (s2.v), Seg.c (.int .i64 y10)], Asr.of 5 (Enc.int .u8) (SlV.nil.v) ([] : List Int)]) (F64.spec ((SlV.sub ((Enc.int .u8)).sz (SlV.sub ((Enc.int .u8)).sz s2 (IntKind.wrap .i64 (Int.tdiv y10 (8 : Int))) ((x3).length : Int)) (0 : Int) x5)) ((subL (subL x3 (IntKind.wrap .i64 (Int.tdiv y10 (8 : Int))) ((x3).length : Int)) (0 : Int) x5)) _ hc19) rfl Try.func64 rfl rfl rfl [] [0, 1, 2] rfl rfl rfl ⟨(((Drv.of 0 rfl).subV h16).subV h17), trivial⟩) rfl rfl rfl ?_
      rintro _ _ ⟨_, ⟨z20, rfl, rfl⟩, rfl⟩
      refine ⟨fun _ => ⟨[1, 2, 3], rfl, rfl⟩, ?_⟩
      refine JT.grow [Asr.of 5 (Enc.int .u8) (z20.v) y18, Asr.of 5 (Enc.int .u8) (s2.v) x3, Asr.blk b1 101 [Seg.c (s2.v), Seg.c (.int .i64 y10)], Asr.of 5 (Enc.int .u8) (SlV.nil.v) ([] : List Int)] [1, 2, 3] rfl rfl ?_
      refine JT.only (i := 13) (d := some 6) rfl (MV.ofQV (v := z20.v) (QV.assign rfl)) rfl rfl rfl ?_
      rintro _ _ ⟨rfl, rfl⟩
      refine ⟨fun _ => ⟨[0, 1, 2, 3], rfl, rfl⟩, ?_⟩
      refine JT.nil ?_
      refine QJ.then_normal ?_
      refine JC.seq ?_
      refine JC.region ?_
      refine JL.val (v := .pointer (some ⟨b1, 0, none⟩)) (QV.move rfl) rfl rfl rfl ?_
      refine JL.val (v := .pointer (some ⟨b1, 0, none⟩)) (QV.nilCheck rfl) rfl rfl rfl ?_
      refine JL.val (v := .pointer (some ⟨b1, 1, none⟩)) (QV.fieldB fo_101_1 rfl rfl) rfl rfl rfl ?_
      refine JL.val (v := .int .i64 y10) (QV.load1 (ss := [Seg.c (s2.v), Seg.c (.int .i64 y10)]) 2 1 rfl tk_3 rfl rfl rfl) rfl rfl rfl ?_
      refine JL.val (v := .int .i64 x5) (QV.move rfl) rfl rfl rfl ?_
      refine JL.val (v := .int .i64 (IntKind.wrap .i64 ((8 : Int) * x5))) (QV.mul rfl rfl) rfl rfl rfl ?_
      refine JL.val (v := .int .i64 (IntKind.wrap .i64 (y10 + (IntKind.wrap .i64 ((8 : Int) * x5))))) (QV.add rfl rfl) rfl rfl rfl ?_
      refine JL.val (v := .pointer (some ⟨b1, 0, none⟩)) (QV.nilCheck rfl) rfl rfl rfl ?_
      refine JL.val (v := .pointer (some ⟨b1, 1, none⟩)) (QV.fieldB fo_101_1 rfl rfl) rfl rfl rfl ?_
      refine JL.mv (d := none) (MV.store (ss := [Seg.c (s2.v), Seg.c (.int .i64 y10)]) 2 1 1 [Seg.c (.int .i64 (IntKind.wrap .i64 (y10 + (IntKind.wrap .i64 ((8 : Int) * x5)))))] rfl tk_3 rfl rfl rfl rfl (fun w hs => ⟨rfl, one_c rfl, trivial⟩)) rfl rfl rfl ?_
      rintro _ _ ⟨rfl, rfl⟩
      refine JL.nil ?_
      refine QJ.then_normal ?_
      refine JC.seq ?_
      refine JC.region ?_
      refine JL.val (v := z20.v) (QV.move rfl) rfl rfl rfl ?_
      refine JL.val (v := z20.v) (QV.assign rfl) rfl rfl rfl ?_
      refine JL.val (v := .int .i64 (0 : Int)) (QV.assign rfl) rfl rfl rfl ?_
      refine JL.nil ?_
      refine QJ.then_normal ?_
      refine JC.ret ?_
      obtain rfl := Option.some.inj hm
      exact QJ.body (vs := [z20.v, .int .i64 (0 : Int)]) (.inl rfl) rfl (ResVs.cons (ResV.tmp rfl) (ResVs.cons (ResV.tmp rfl) ResVs.nil)) [0, 1, 2] rfl rfl (.inr ⟨own_of _ _ _ _, own_of _ _ _ _, own_blk _ _ _, trivial⟩) ⟨z20, rfl, rfl⟩

/-! ### 9: drogher/drogherlaw08.BitsReads -/
noncomputable def F9.j1   : Option Bool :=
  ((F26.m).bind fun y22 => some y22)
noncomputable def F9.j3 (y15 : (List Int)) (y19 : (List Int)) (d26 : Int) (d38 : Int) (d39 : Int) : Option ((Int × Int × Int) ⊕ ((Bool) ⊕ Unit)) :=
  ((F46.m (y15) (d38)).bind fun y40 => (if d38 = d39 then ((F41.m (y15) (d38)).bind fun y43 => (if y43 = (IntKind.wrap .i64 (((y19).length : Int) - d39)) then some (.inl (d38, d39, (IntKind.wrap .i64 (d26 + (1 : Int))))) else some (.inr (.inl (false))))) else some (.inr (.inl (false)))))
noncomputable def F9.j4 (y15 : (List Int)) (y19 : (List Int)) (d26 : Int) (y47 : (Int × Int × Int)) (d52 : Int) (d53 : Int) (d54 : Int) : Option ((Int × Int × Int) ⊕ ((Bool) ⊕ Unit)) :=
  (if y47.1 = d53 then (if y47.2.1 = d54 then F9.j3 y15 y19 d26 (y47.2.2) (d52) else some (.inr (.inl (false)))) else some (.inr (.inl (false))))
noncomputable def F9.j5 (y15 : (List Int)) (y19 : (List Int)) (d26 : Int) (y47 : (Int × Int × Int)) (d58 : Int) (d59 : Int) (d60 : Int) : Option ((Int × Int × Int) ⊕ ((Bool) ⊕ Unit)) :=
  F9.j4 y15 y19 d26 y47 (d58) (d59) (d60)
noncomputable def F9.j6 (y15 : (List Int)) (y19 : (List Int)) (d26 : Int) (d65 : Int) (d66 : Int) : Option ((Int × Int × Int) ⊕ ((Bool) ⊕ Unit)) :=
  F9.j3 y15 y19 d26 (d65) (d66)
noncomputable def F9.j7 (y15 : (List Int)) (y19 : (List Int)) (d26 : Int) (d72 : Int) (d73 : Int) : Option ((Int × Int × Int) ⊕ ((Bool) ⊕ Unit)) :=
  F9.j6 y15 y19 d26 (d72) (d73)
noncomputable def F9.j8 (y15 : (List Int)) (y19 : (List Int)) (d26 : Int) (y75 : (List Int × Int × Int)) (d81 : Int) (d83 : List Int) (d84 : Int) : Option ((Int × Int × Int) ⊕ ((Bool) ⊕ Unit)) :=
  (if (strOfNums y75.1) = (strOfNums d83) then (if y75.2.1 = d84 then F9.j7 y15 y19 d26 (y75.2.2) (d81) else some (.inr (.inl (false)))) else some (.inr (.inl (false))))
noncomputable def F9.j9 (y15 : (List Int)) (y19 : (List Int)) (d26 : Int) (y75 : (List Int × Int × Int)) (d88 : Int) (d90 : List Int) (d91 : Int) : Option ((Int × Int × Int) ⊕ ((Bool) ⊕ Unit)) :=
  F9.j8 y15 y19 d26 y75 (d88) (d90) (d91)
noncomputable def F9.j10 (y15 : (List Int)) (y19 : (List Int)) (d26 : Int) (y94 : (Int × Int)) (d98 : Int) : Option ((Int × Int × Int) ⊕ ((Bool) ⊕ Unit)) :=
  F9.j7 y15 y19 d26 (y94.2) (d98)
noncomputable def F9.j2 (x2 : List Int) (x4 : List (Int × Int × Int × (List Int))) (y15 : (List Int)) (y19 : (List Int)) (d24 : Int) (d25 : Int) (d26 : Int) (d37 : Bool) : Option ((Int × Int × Int) ⊕ ((Bool) ⊕ Unit)) :=
  (if d37 = true then ((F39.m (y15) (d24) ((gd x4 d26).2.1)).bind fun y47 => (if (gd x4 d26).2.1 < (0 : Int) then (if y47.1 = (0 : Int) then (if y47.2.1 = (1 : Int) then F9.j3 y15 y19 d26 (y47.2.2) (d25) else some (.inr (.inl (false)))) else some (.inr (.inl (false)))) else (if (32 : Int) < (gd x4 d26).2.1 then F9.j4 y15 y19 d26 y47 (d25) ((0 : Int)) ((1 : Int)) else (if (IntKind.wrap .i64 (((y19).length : Int) - d25)) < (gd x4 d26).2.1 then F9.j5 y15 y19 d26 y47 (d25) ((0 : Int)) ((2 : Int)) else (if 0 ≤ d25 ∧ d25 ≤ (IntKind.wrap .i64 (d25 + (gd x4 d26).2.1)) ∧ (IntKind.wrap .i64 (d25 + (gd x4 d26).2.1)) ≤ ((y19).length : Int) then ((F40.m ((subL y19 d25 (IntKind.wrap .i64 (d25 + (gd x4 d26).2.1))))).bind fun y63 => F9.j5 y15 y19 d26 y47 ((IntKind.wrap .i64 (d25 + (gd x4 d26).2.1))) (y63) ((0 : Int))) else none))))) else (if (gd x4 d26).1 = (2 : Int) then ((F42.m (y15) (d24)).bind fun y68 => ((F43.m (d25)).bind fun y70 => F9.j6 y15 y19 d26 (y68) (y70))) else (if (gd x4 d26).1 = (3 : Int) then ((F44.m (y15) (d24) ((gd x4 d26).2.1)).bind fun y75 => ((F43.m (d25)).bind fun y78 => (if (gd x4 d26).2.1 < (0 : Int) then F9.j8 y15 y19 d26 y75 (y78) (([] : List Int)) ((1 : Int)) else (if (IntKind.wrap .i64 (Int.tdiv (IntKind.wrap .i64 (((y19).length : Int) - y78)) (8 : Int))) < (gd x4 d26).2.1 then F9.j9 y15 y19 d26 y75 (y78) (([] : List Int)) ((2 : Int)) else (if 0 ≤ (IntKind.wrap .i64 (Int.tdiv y78 (8 : Int))) ∧ (IntKind.wrap .i64 (Int.tdiv y78 (8 : Int))) ≤ (IntKind.wrap .i64 ((IntKind.wrap .i64 (Int.tdiv y78 (8 : Int))) + (gd x4 d26).2.1)) ∧ (IntKind.wrap .i64 ((IntKind.wrap .i64 (Int.tdiv y78 (8 : Int))) + (gd x4 d26).2.1)) ≤ ((x2).length : Int) then F9.j9 y15 y19 d26 y75 ((IntKind.wrap .i64 (y78 + (IntKind.wrap .i64 ((8 : Int) * (gd x4 d26).2.1))))) ((subL x2 (IntKind.wrap .i64 (Int.tdiv y78 (8 : Int))) (IntKind.wrap .i64 ((IntKind.wrap .i64 (Int.tdiv y78 (8 : Int))) + (gd x4 d26).2.1)))) ((0 : Int)) else none))))) else ((F45.m (y15) (d24) ((gd x4 d26).2.1)).bind fun y94 => (if (gd x4 d26).2.1 < (0 : Int) then (if y94.1 = (5 : Int) then F9.j7 y15 y19 d26 (y94.2) (d25) else some (.inr (.inl (false)))) else (if ((y19).length : Int) < (gd x4 d26).2.1 then (if y94.1 = (5 : Int) then F9.j10 y15 y19 d26 y94 (d25) else some (.inr (.inl (false)))) else (if y94.1 = (0 : Int) then F9.j10 y15 y19 d26 y94 ((gd x4 d26).2.1) else some (.inr (.inl (false))))))))))
noncomputable def F9.b1 (x2 : List Int) (x4 : List (Int × Int × Int × (List Int))) (y15 : (List Int)) (y19 : (List Int)) : (Int × Int × Int) → Option ((Int × Int × Int) ⊕ ((Bool) ⊕ Unit))
  | (d24, d25, d26) => (if d26 < ((x4).length : Int) then (if 0 ≤ d26 ∧ d26 < ((x4).length : Int) then (if (gd x4 d26).1 = (0 : Int) then F9.j2 x2 x4 y15 y19 d24 d25 d26 ((decide ((gd x4 d26).1 = (0 : Int)))) else F9.j2 x2 x4 y15 y19 d24 d25 d26 ((decide ((gd x4 d26).1 = (1 : Int))))) else none) else some (.inr (.inr (()))))
noncomputable def F9.m (x2 : List Int) (x4 : List (Int × Int × Int × (List Int))) : Option Bool :=
  ((F25.m (x4)).bind fun y7 => (if y7 = true then ((F26.m).bind fun y10 => some y10) else (if (500 : Int) < ((x2).length : Int) then ((F26.m).bind fun y13 => some y13) else ((F38.m (x2)).bind fun y15 => ((F33.m (x2)).bind fun y19 => ((loop (F9.b1 x2 x4 y15 y19) ((0 : Int), (0 : Int), (0 : Int))).bind fun y => match y with | .inl r => some r | .inr _ => F9.j1))))))
set_option maxRecDepth 100000 in
set_option maxHeartbeats 4000000 in
theorem F9.spec (s1 : SlV) (s3 : SlV) (z5 : List (Unit × Unit × Unit × SlV)) (x2 : List Int) (x4 : List (Int × Int × Int × (List Int))) (r : Bool) (hm : F9.m x2 x4 = some r) :
    Ctr Try.prog false 9 [s1.v, s3.v] [Asr.vw (Enc.int .u8) (s1.v) x2, Asr.vn (NE.pair (NE.flat (Enc.int .i64)) (NE.pair (NE.flat (Enc.int .i64)) (NE.pair (NE.flat (Enc.int .u32)) (NE.sl (Enc.int .u8))))) (s3.v) z5 x4] (fun v L' => v = .bool r ∧ L' = []) := by
  refine Ctr.intro (n := 175) (env := [(0, s1.v), (1, s3.v)]) Try.func9 rfl rfl rfl rfl (fun c => ?_)
  unfold F9.m at hm
  refine JC.seq ?_
  refine JC.region ?_
  refine JL.val (v := .bool false) (QV.assign rfl) rfl rfl rfl ?_
  refine JL.nil ?_
  refine QJ.then_normal ?_
  refine JC.seq ?_
  refine JC.seq ?_
  refine JC.region ?_
  refine JL.val (v := s3.v) (QV.move rfl) rfl rfl rfl ?_
  obtain ⟨y7, hc8, hm⟩ := bind_inv hm
  refine JL.mv (d := some 20) (MV.call (Lo := []) (Lr := [Asr.vw (Enc.int .u8) (s1.v) x2, Asr.vn (NE.pair (NE.flat (Enc.int .i64)) (NE.pair (NE.flat (Enc.int .i64)) (NE.pair (NE.flat (Enc.int .u32)) (NE.sl (Enc.int .u8))))) (s3.v) z5 x4]) (F25.spec (s3) (z5) (x4) _ hc8) rfl Try.func25 rfl rfl rfl [] [0, 1] rfl rfl rfl ⟨(Drv.vn 1 rfl), trivial⟩) rfl rfl rfl ?_
  rintro _ _ ⟨_, ⟨rfl, rfl⟩, rfl⟩
  rcases ite_inv hm with ⟨h9, hm⟩ | ⟨h9, hm⟩
  ·
    refine JL.val (v := .bool true) (QV.eq (QV.move rfl) (congrArg Value.bool h9)) rfl rfl rfl ?_
    refine JL.skip (d := some 22) rfl rfl rfl ?_
    refine JL.skip (d := some 23) rfl rfl rfl ?_
    refine JL.skip (d := some 24) rfl rfl rfl ?_
    refine JL.val (v := .bool true) (QV.pickT rfl rfl) rfl rfl rfl ?_
    refine JL.nil ?_
    refine QJ.then_normal ?_
    refine JC.condT rfl ?_
    refine JC.seq ?_
    refine JC.region ?_
    obtain ⟨y10, hc11, hm⟩ := bind_inv hm
    refine JL.mv (d := some 26) (MV.call (Lo := []) (Lr := [Asr.vw (Enc.int .u8) (s1.v) x2, Asr.vn (NE.pair (NE.flat (Enc.int .i64)) (NE.pair (NE.flat (Enc.int .i64)) (NE.pair (NE.flat (Enc.int .u32)) (NE.sl (Enc.int .u8))))) (s3.v) z5 x4]) (F26.spec _ hc11) rfl Try.func26 rfl rfl rfl [] [0, 1] rfl rfl rfl trivial) rfl rfl rfl ?_
    rintro _ _ ⟨_, ⟨rfl, rfl⟩, rfl⟩
    refine JL.val (v := .bool y10) (QV.assign rfl) rfl rfl rfl ?_
    refine JL.nil ?_
    refine QJ.then_normal ?_
    refine JC.ret ?_
    refine QJ.then_ret ?_
    obtain rfl := Option.some.inj hm
    exact QJ.body (vs := [.bool y10]) (.inl rfl) rfl (ResVs.cons (ResV.tmp rfl) ResVs.nil) [] rfl rfl (.inr trivial) ⟨rfl, rfl⟩
  ·
    refine JL.val (v := .bool false) (QV.eq (QV.move rfl) (congrArg Value.bool (bfalse h9))) rfl rfl rfl ?_
    refine JL.val (v := s1.v) (QV.move rfl) rfl rfl rfl ?_
    refine JL.val (v := .int .i64 ((x2).length : Int)) (QV.len (Rdg.vw 0 rfl) Try.underlying26 rfl) rfl rfl rfl ?_
    refine JL.val (v := .bool (decide ((500 : Int) < ((x2).length : Int)))) (QV.gtr rfl rfl) rfl rfl rfl ?_
    refine JL.val (v := .bool (decide ((500 : Int) < ((x2).length : Int)))) (QV.pickF rfl rfl) rfl rfl rfl ?_
    refine JL.nil ?_
    refine QJ.then_normal ?_
    rcases ite_inv hm with ⟨h12, hm⟩ | ⟨h12, hm⟩
    ·
      refine JC.condT' rfl (decide_eq_true h12) ?_
      refine JC.seq ?_
      refine JC.region ?_
      obtain ⟨y13, hc14, hm⟩ := bind_inv hm
      refine JL.mv (d := some 26) (MV.call (Lo := []) (Lr := [Asr.vw (Enc.int .u8) (s1.v) x2, Asr.vn (NE.pair (NE.flat (Enc.int .i64)) (NE.pair (NE.flat (Enc.int .i64)) (NE.pair (NE.flat (Enc.int .u32)) (NE.sl (Enc.int .u8))))) (s3.v) z5 x4]) (F26.spec _ hc14) rfl Try.func26 rfl rfl rfl [] [0, 1] rfl rfl rfl trivial) rfl rfl rfl ?_
      rintro _ _ ⟨_, ⟨rfl, rfl⟩, rfl⟩
      refine JL.val (v := .bool y13) (QV.assign rfl) rfl rfl rfl ?_
      refine JL.nil ?_
      refine QJ.then_normal ?_
      refine JC.ret ?_
      refine QJ.then_ret ?_
      obtain rfl := Option.some.inj hm
      exact QJ.body (vs := [.bool y13]) (.inl rfl) rfl (ResVs.cons (ResV.tmp rfl) ResVs.nil) [] rfl rfl (.inr trivial) ⟨rfl, rfl⟩
    ·
      refine JC.condF' rfl (decide_eq_false h12) ?_
      refine JC.skip ?_
      refine QJ.then_normal ?_
      refine JC.seq ?_
      refine JC.region ?_
      refine JL.val (v := s1.v) (QV.move rfl) rfl rfl rfl ?_
      obtain ⟨y15, hc16, hm⟩ := bind_inv hm
      refine JL.mv (d := some 28) (MV.call (Lo := []) (Lr := [Asr.vw (Enc.int .u8) (s1.v) x2, Asr.vn (NE.pair (NE.flat (Enc.int .i64)) (NE.pair (NE.flat (Enc.int .i64)) (NE.pair (NE.flat (Enc.int .u32)) (NE.sl (Enc.int .u8))))) (s3.v) z5 x4]) (F38.spec (s1) (x2) _ hc16) rfl Try.func38 rfl rfl rfl [] [0, 1] rfl rfl rfl ⟨(Drv.vw 0 rfl), trivial⟩) rfl rfl rfl ?_
      rintro _ _ ⟨_, ⟨b17, z18, rfl, rfl⟩, rfl⟩
      refine JL.val (v := .pointer (some ⟨b17, 0, none⟩)) (QV.assign rfl) rfl rfl rfl ?_
      refine JL.nil ?_
      refine QJ.then_normal ?_
      refine JC.seq ?_
      refine JC.region ?_
      refine JL.val (v := s1.v) (QV.move rfl) rfl rfl rfl ?_
      obtain ⟨y19, hc20, hm⟩ := bind_inv hm
      refine JL.mv (d := some 30) (MV.call (Lo := []) (Lr := [Asr.of 5 (Enc.int .u8) (z18.v) y15, Asr.blk b17 101 [Seg.c (z18.v), Seg.c (.int .i64 (0 : Int))], Asr.vw (Enc.int .u8) (s1.v) x2, Asr.vn (NE.pair (NE.flat (Enc.int .i64)) (NE.pair (NE.flat (Enc.int .i64)) (NE.pair (NE.flat (Enc.int .u32)) (NE.sl (Enc.int .u8))))) (s3.v) z5 x4]) (F33.spec (s1) (x2) _ hc20) rfl Try.func33 rfl rfl rfl [] [0, 1, 2, 3] rfl rfl rfl ⟨(Drv.vw 2 rfl), trivial⟩) rfl rfl rfl ?_
      rintro _ _ ⟨_, ⟨z21, rfl, rfl⟩, rfl⟩
      refine JL.val (v := z21.v) (QV.assign rfl) rfl rfl rfl ?_
      refine JL.nil ?_
      refine QJ.then_normal ?_
      refine JC.seq ?_
      refine JC.region ?_
      refine JL.val (v := .int .i64 (0 : Int)) (QV.assign rfl) rfl rfl rfl ?_
      refine JL.nil ?_
      refine QJ.then_normal ?_
      refine JC.seq ?_
      refine JC.seq ?_
      refine JC.region ?_
      refine JL.val (v := .int .i64 (0 : Int)) (QV.assign rfl) rfl rfl rfl ?_
      refine JL.nil ?_
      refine QJ.then_normal ?_
      refine JC.cutK (Y := Unit × Unit) (fun y => match y with | (_, _) => F9.j1 = some r) (fun y => match y with | (_, _) => []) (fun y => match y with | (_, _) => []) ?_ ?_
      ·
        rintro ⟨⟨⟩, ⟨⟩⟩ hm
        unfold F9.j1 at hm
        show QJ _ _ [] [] _ _
        refine QJ.then_normal ?_
        refine JC.seq ?_
        refine JC.region ?_
        obtain ⟨y22, hc23, hm⟩ := bind_inv hm
        refine JL.mv (d := some 174) (MV.call (Lo := []) (Lr := []) (F26.spec _ hc23) rfl Try.func26 rfl rfl rfl [] [] rfl rfl rfl trivial) rfl rfl rfl ?_
        rintro _ _ ⟨_, ⟨rfl, rfl⟩, rfl⟩
        refine JL.val (v := .bool y22) (QV.assign rfl) rfl rfl rfl ?_
        refine JL.nil ?_
        refine QJ.then_normal ?_
        refine JC.ret ?_
        obtain rfl := Option.some.inj hm
        exact QJ.body (vs := [.bool y22]) (.inl rfl) rfl (ResVs.cons (ResV.tmp rfl) ResVs.nil) [] rfl rfl (.inr trivial) ⟨rfl, rfl⟩
      ·
        refine JC.block ?_
        obtain ⟨y30, hl31, hmo32⟩ := bind_inv hm
        refine JC.loop (F9.b1 x2 x4 y15 y19) (fun x z => match x, z with | (d24, d25, d26), _ => [(0, s1.v), (1, s3.v), (5, .pointer (some ⟨b17, 0, none⟩)), (6, z21.v), (7, .int .i64 d25), (8, .int .i64 d26)]) (fun x z => match x, z with | (d24, d25, d26), _ => [Asr.vw (Enc.int .u8) (s1.v) x2, Asr.vn (NE.pair (NE.flat (Enc.int .i64)) (NE.pair (NE.flat (Enc.int .i64)) (NE.pair (NE.flat (Enc.int .u32)) (NE.sl (Enc.int .u8))))) (s3.v) z5 x4, Asr.of 5 (Enc.int .u8) (z18.v) y15, Asr.blk b17 101 [Seg.c (z18.v), Seg.c (.int .i64 d24)], Asr.of 5 (Enc.int .u8) (z21.v) y19]) ((0 : Int), (0 : Int), (0 : Int)) () y30 hl31 [3, 4, 1, 2, 0] (by exact ⟨rfl, rfl, rfl, rfl, rfl, rfl, trivial⟩) rfl rfl ?_
        rintro ⟨d24, d25, d26⟩ ⟨⟩ s33 hm
        unfold F9.b1 at hm
        dsimp only at hm
        show JC _ _ _ [(0, s1.v), (1, s3.v), (5, .pointer (some ⟨b17, 0, none⟩)), (6, z21.v), (7, .int .i64 d25), (8, .int .i64 d26)] [Asr.vw (Enc.int .u8) (s1.v) x2, Asr.vn (NE.pair (NE.flat (Enc.int .i64)) (NE.pair (NE.flat (Enc.int .i64)) (NE.pair (NE.flat (Enc.int .u32)) (NE.sl (Enc.int .u8))))) (s3.v) z5 x4, Asr.of 5 (Enc.int .u8) (z18.v) y15, Asr.blk b17 101 [Seg.c (z18.v), Seg.c (.int .i64 d24)], Asr.of 5 (Enc.int .u8) (z21.v) y19] _ _
        refine JC.seq ?_
        refine JC.seq ?_
        refine JC.region ?_
        refine JL.val (v := .int .i64 d26) (QV.move rfl) rfl rfl rfl ?_
        refine JL.val (v := s3.v) (QV.move rfl) rfl rfl rfl ?_
        refine JL.val (v := .int .i64 ((x4).length : Int)) (QV.lenN (RdN.vn 1 rfl) Try.underlying38 rfl) rfl rfl rfl ?_
        refine JL.val (v := .bool (decide (d26 < ((x4).length : Int)))) (QV.lss rfl rfl) rfl rfl rfl ?_
        refine JL.nil ?_
        refine QJ.then_normal ?_
        rcases ite_inv hm with ⟨h34, hm⟩ | ⟨h34, hm⟩
        ·
          refine JC.condT' rfl (decide_eq_true h34) ?_
          refine JC.skip ?_
          refine QJ.then_normal ?_
          refine JC.seq ?_
          refine JC.block ?_
          refine JC.seq ?_
          refine JC.region ?_
          refine JL.val (v := s3.v) (QV.move rfl) rfl rfl rfl ?_
          refine JL.val (v := .int .i64 d26) (QV.move rfl) rfl rfl rfl ?_
          obtain ⟨h35, hm⟩ := guard_inv hm
          refine JL.val (v := .pointer (some (elA (s3.v) (Int.toNat d26 * ((NE.pair (NE.flat (Enc.int .i64)) (NE.pair (NE.flat (Enc.int .i64)) (NE.pair (NE.flat (Enc.int .u32)) (NE.sl (Enc.int .u8))))).E).sz)))) (QV.indexN (RdN.vn 1 rfl) Try.underlying38 tk_44 rfl rfl h35) rfl rfl rfl ?_
          refine JL.val (v := .agg #[.int .i64 (gd x4 d26).1, .int .i64 (gd x4 d26).2.1, .int .u32 (gd x4 d26).2.2.1, (gd z5 d26).2.2.2.v]) (QV.eq (QV.elNN (RdN.vn 1 rfl) tk_44 rfl h35) rfl) rfl rfl rfl ?_
          refine JL.ent (fun _ hs => hs.nil 5 (Enc.int .u8)) ?_
          refine JL.mv (d := some 9) (MV.alloc [Seg.c (.int .i64 (0 : Int)), Seg.c (.int .i64 (0 : Int)), Seg.c (.int .u32 (0 : Int)), Seg.c (SlV.nil.v)] z_44 rfl) rfl rfl rfl ?_
          rintro _ _ ⟨b36, rfl, rfl⟩
          refine JL.ent (fun _ hs => hs.derive (Drv.el (K := (NE.pair (NE.flat (Enc.int .i64)) (NE.pair (NE.flat (Enc.int .i64)) (NE.pair (NE.flat (Enc.int .u32)) (NE.sl (Enc.int .u8)))))) (A := Asr.vw (Enc.int .u8) ((gd z5 d26).2.2.2.v) (gd x4 d26).2.2.2) (Drv.vn 3 rfl) h35 (fun _ _ q => q.2.2.2))) ?_
          refine JL.mv (d := none) (MV.store (ss := [Seg.c (.int .i64 (0 : Int)), Seg.c (.int .i64 (0 : Int)), Seg.c (.int .u32 (0 : Int)), Seg.c (SlV.nil.v)]) 1 0 4 [Seg.c (.int .i64 (gd x4 d26).1), Seg.c (.int .i64 (gd x4 d26).2.1), Seg.c (.int .u32 (gd x4 d26).2.2.1), Seg.c ((gd z5 d26).2.2.2.v)] rfl tk_44 rfl rfl rfl rfl (fun w hs => ⟨rfl, one_c rfl, one_c rfl, one_c rfl, one_sl (Rdg.vw 0 rfl) hs, trivial⟩)) rfl rfl rfl ?_
          rintro _ _ ⟨rfl, rfl⟩
          refine JL.nil ?_
          refine QJ.then_normal ?_
          refine JC.seq ?_
          refine JC.seq ?_
          refine JC.region ?_
          refine JL.val (v := .pointer (some ⟨b36, 0, none⟩)) (QV.fieldB fo_44_0 rfl rfl) rfl rfl rfl ?_
          refine JL.val (v := .int .i64 (gd x4 d26).1) (QV.load1 (ss := [Seg.c (.int .i64 (gd x4 d26).1), Seg.c (.int .i64 (gd x4 d26).2.1), Seg.c (.int .u32 (gd x4 d26).2.2.1), Seg.c ((gd z5 d26).2.2.2.v)]) 1 0 rfl tk_3 rfl rfl rfl) rfl rfl rfl ?_
          refine JL.nil ?_
          refine QJ.then_normal ?_
          refine JC.block ?_
          refine JC.seq ?_
          refine JC.seq ?_
          refine JC.region ?_
          refine JL.val (v := .bool (decide ((gd x4 d26).1 = (0 : Int)))) (QV.eql rfl rfl) rfl rfl rfl ?_
          refine JL.val (v := .bool (decide ((gd x4 d26).1 = (0 : Int)))) (QV.assign rfl) rfl rfl rfl ?_
          refine JL.nil ?_
          refine QJ.then_normal ?_
          refine JC.cutK (Y := Bool × Unit) (fun y => match y with | (d37, _) => F9.j2 x2 x4 y15 y19 d24 d25 d26 (d37) = some s33) (fun y => match y with | (d37, _) => [(0, s1.v), (1, s3.v), (5, .pointer (some ⟨b17, 0, none⟩)), (6, z21.v), (7, .int .i64 d25), (8, .int .i64 d26), (9, .pointer (some ⟨b36, 0, none⟩)), (42, .int .i64 (gd x4 d26).1), (63, .bool d37)]) (fun y => match y with | (d37, _) => [Asr.vw (Enc.int .u8) (s1.v) x2, Asr.vn (NE.pair (NE.flat (Enc.int .i64)) (NE.pair (NE.flat (Enc.int .i64)) (NE.pair (NE.flat (Enc.int .u32)) (NE.sl (Enc.int .u8))))) (s3.v) z5 x4, Asr.of 5 (Enc.int .u8) (z18.v) y15, Asr.blk b17 101 [Seg.c (z18.v), Seg.c (.int .i64 d24)], Asr.of 5 (Enc.int .u8) (z21.v) y19, Asr.vw (Enc.int .u8) ((gd z5 d26).2.2.2.v) (gd x4 d26).2.2.2, Asr.blk b36 44 [Seg.c (.int .i64 (gd x4 d26).1), Seg.c (.int .i64 (gd x4 d26).2.1), Seg.c (.int .u32 (gd x4 d26).2.2.1), Seg.c ((gd z5 d26).2.2.2.v)]]) ?_ ?_
          ·
            rintro ⟨d37, ⟨⟩⟩ hm
            unfold F9.j2 at hm
            show QJ _ _ [(0, s1.v), (1, s3.v), (5, .pointer (some ⟨b17, 0, none⟩)), (6, z21.v), (7, .int .i64 d25), (8, .int .i64 d26), (9, .pointer (some ⟨b36, 0, none⟩)), (42, .int .i64 (gd x4 d26).1), (63, .bool d37)] [Asr.vw (Enc.int .u8) (s1.v) x2, Asr.vn (NE.pair (NE.flat (Enc.int .i64)) (NE.pair (NE.flat (Enc.int .i64)) (NE.pair (NE.flat (Enc.int .u32)) (NE.sl (Enc.int .u8))))) (s3.v) z5 x4, Asr.of 5 (Enc.int .u8) (z18.v) y15, Asr.blk b17 101 [Seg.c (z18.v), Seg.c (.int .i64 d24)], Asr.of 5 (Enc.int .u8) (z21.v) y19, Asr.vw (Enc.int .u8) ((gd z5 d26).2.2.2.v) (gd x4 d26).2.2.2, Asr.blk b36 44 [Seg.c (.int .i64 (gd x4 d26).1), Seg.c (.int .i64 (gd x4 d26).2.1), Seg.c (.int .u32 (gd x4 d26).2.2.1), Seg.c ((gd z5 d26).2.2.2.v)]] _ _
            refine QJ.then_normal ?_
            refine JC.cutK (Y := (Int × Int) × Unit) (fun y => match y with | ((d38, d39), _) => F9.j3 y15 y19 d26 (d38) (d39) = some s33) (fun y => match y with | ((d38, d39), _) => [(0, s1.v), (1, s3.v), (5, .pointer (some ⟨b17, 0, none⟩)), (6, z21.v), (7, .int .i64 d39), (8, .int .i64 d26)]) (fun y => match y with | ((d38, d39), _) => [Asr.vw (Enc.int .u8) (s1.v) x2, Asr.vn (NE.pair (NE.flat (Enc.int .i64)) (NE.pair (NE.flat (Enc.int .i64)) (NE.pair (NE.flat (Enc.int .u32)) (NE.sl (Enc.int .u8))))) (s3.v) z5 x4, Asr.of 5 (Enc.int .u8) (z18.v) y15, Asr.blk b17 101 [Seg.c (z18.v), Seg.c (.int .i64 d38)], Asr.of 5 (Enc.int .u8) (z21.v) y19]) ?_ ?_
            ·
              rintro ⟨⟨d38, d39⟩, ⟨⟩⟩ hm
              unfold F9.j3 at hm
              show QJ _ _ [(0, s1.v), (1, s3.v), (5, .pointer (some ⟨b17, 0, none⟩)), (6, z21.v), (7, .int .i64 d39), (8, .int .i64 d26)] [Asr.vw (Enc.int .u8) (s1.v) x2, Asr.vn (NE.pair (NE.flat (Enc.int .i64)) (NE.pair (NE.flat (Enc.int .i64)) (NE.pair (NE.flat (Enc.int .u32)) (NE.sl (Enc.int .u8))))) (s3.v) z5 x4, Asr.of 5 (Enc.int .u8) (z18.v) y15, Asr.blk b17 101 [Seg.c (z18.v), Seg.c (.int .i64 d38)], Asr.of 5 (Enc.int .u8) (z21.v) y19] _ _
              refine QJ.block_normal ?_
              refine QJ.then_normal ?_
              refine JC.seq ?_
              refine JC.region ?_
              refine JL.val (v := .pointer (some ⟨b17, 0, none⟩)) (QV.move rfl) rfl rfl rfl ?_
              obtain ⟨y40, hc41, hm⟩ := bind_inv hm
              refine JL.mv (d := some 162) (MV.call (Lo := [Asr.blk b17 101 [Seg.c (z18.v), Seg.c (.int .i64 d38)], Asr.of 5 (Enc.int .u8) (z18.v) y15]) (Lr := [Asr.vw (Enc.int .u8) (s1.v) x2, Asr.vn (NE.pair (NE.flat (Enc.int .i64)) (NE.pair (NE.flat (Enc.int .i64)) (NE.pair (NE.flat (Enc.int .u32)) (NE.sl (Enc.int .u8))))) (s3.v) z5 x4, Asr.of 5 (Enc.int .u8) (z21.v) y19]) (F46.spec (b17) (z18) (y15) (d38) _ hc41) rfl Try.func46 rfl rfl rfl [3, 2] [0, 1, 4] rfl rfl rfl trivial) rfl rfl rfl ?_
              rintro _ _ ⟨_, ⟨rfl, rfl⟩, rfl⟩
              refine JL.val (v := .int .i64 d39) (QV.move rfl) rfl rfl rfl ?_
              refine JL.val (v := .bool (!(decide (d38 = d39)))) (QV.neq rfl rfl) rfl rfl rfl ?_
              rcases ite_inv hm with ⟨h42, hm⟩ | ⟨h42, hm⟩
              ·
                refine JL.val (v := .bool false) (QV.eq (QV.move rfl) (congrArg Value.bool (congrArg Bool.not (decide_eq_true h42)))) rfl rfl rfl ?_
                refine JL.val (v := .pointer (some ⟨b17, 0, none⟩)) (QV.move rfl) rfl rfl rfl ?_
                obtain ⟨y43, hc44, hm⟩ := bind_inv hm
                refine JL.mv (d := some 167) (MV.call (Lo := [Asr.blk b17 101 [Seg.c (z18.v), Seg.c (.int .i64 d38)], Asr.of 5 (Enc.int .u8) (z18.v) y15]) (Lr := [Asr.vw (Enc.int .u8) (s1.v) x2, Asr.vn (NE.pair (NE.flat (Enc.int .i64)) (NE.pair (NE.flat (Enc.int .i64)) (NE.pair (NE.flat (Enc.int .u32)) (NE.sl (Enc.int .u8))))) (s3.v) z5 x4, Asr.of 5 (Enc.int .u8) (z21.v) y19]) (F41.spec (b17) (z18) (y15) (d38) _ hc44) rfl Try.func41 rfl rfl rfl [1, 0] [2, 3, 4] rfl rfl rfl trivial) rfl rfl rfl ?_
                rintro _ _ ⟨_, ⟨rfl, rfl⟩, rfl⟩
                refine JL.val (v := z21.v) (QV.move rfl) rfl rfl rfl ?_
                refine JL.val (v := .int .i64 ((y19).length : Int)) (QV.len (Rdg.of 4 rfl) Try.underlying26 rfl) rfl rfl rfl ?_
                refine JL.val (v := .int .i64 d39) (QV.move rfl) rfl rfl rfl ?_
                refine JL.val (v := .int .i64 (IntKind.wrap .i64 (((y19).length : Int) - d39))) (QV.sub rfl rfl) rfl rfl rfl ?_
                refine JL.val (v := .bool (!(decide (y43 = (IntKind.wrap .i64 (((y19).length : Int) - d39)))))) (QV.neq rfl rfl) rfl rfl rfl ?_
                refine JL.val (v := .bool (!(decide (y43 = (IntKind.wrap .i64 (((y19).length : Int) - d39)))))) (QV.pickF rfl rfl) rfl rfl rfl ?_
                refine JL.nil ?_
                refine QJ.then_normal ?_
                rcases ite_inv hm with ⟨h45, hm⟩ | ⟨h45, hm⟩
                ·
                  refine JC.condF' rfl (congrArg Bool.not (decide_eq_true h45)) ?_
                  refine JC.skip ?_
                  refine QJ.block_normal ?_
                  refine QJ.then_normal ?_
                  refine JC.region ?_
                  refine JL.val (v := .int .i64 d26) (QV.move rfl) rfl rfl rfl ?_
                  refine JL.val (v := .int .i64 (IntKind.wrap .i64 (d26 + (1 : Int)))) (QV.add rfl rfl) rfl rfl rfl ?_
                  refine JL.val (v := .int .i64 (IntKind.wrap .i64 (d26 + (1 : Int)))) (QV.assign rfl) rfl rfl rfl ?_
                  refine JL.nil ?_
                  obtain rfl := Option.some.inj hm
                  exact QJ.round_on (d38, d39, (IntKind.wrap .i64 (d26 + (1 : Int)))) () [2, 3, 0, 1, 4] (by exact ⟨rfl, rfl, rfl, rfl, rfl, rfl, trivial⟩) rfl rfl
                ·
                  refine JC.condT' rfl (congrArg Bool.not (decide_eq_false h45)) ?_
                  refine JC.seq ?_
                  refine JC.region ?_
                  refine JL.val (v := .bool false) (QV.assign rfl) rfl rfl rfl ?_
                  refine JL.nil ?_
                  refine QJ.then_normal ?_
                  refine JC.ret ?_
                  refine QJ.block_ret ?_
                  refine QJ.then_ret ?_
                  obtain rfl := Option.some.inj hm
                  refine QJ.round_ret (fun hy => ?_)
                  subst hy
                  refine QJ.block_ret ?_
                  refine QJ.cut_ret ?_
                  refine QJ.then_ret ?_
                  obtain rfl := Option.some.inj hmo32
                  exact QJ.body (vs := [.bool false]) (.inl rfl) rfl (ResVs.cons (ResV.tmp rfl) ResVs.nil) [] rfl rfl (.inr trivial) ⟨rfl, rfl⟩
              ·
                refine JL.val (v := .bool true) (QV.eq (QV.move rfl) (congrArg Value.bool (congrArg Bool.not (decide_eq_false h42)))) rfl rfl rfl ?_
                refine JL.skip (d := some 166) rfl rfl rfl ?_
                refine JL.skip (d := some 167) rfl rfl rfl ?_
                refine JL.skip (d := some 168) rfl rfl rfl ?_
                refine JL.skip (d := some 169) rfl rfl rfl ?_
                refine JL.skip (d := some 170) rfl rfl rfl ?_
                refine JL.skip (d := some 171) rfl rfl rfl ?_
                refine JL.skip (d := some 172) rfl rfl rfl ?_
                refine JL.val (v := .bool true) (QV.pickT rfl rfl) rfl rfl rfl ?_
                refine JL.nil ?_
                refine QJ.then_normal ?_
                refine JC.condT rfl ?_
                refine JC.seq ?_
                refine JC.region ?_
                refine JL.val (v := .bool false) (QV.assign rfl) rfl rfl rfl ?_
                refine JL.nil ?_
                refine QJ.then_normal ?_
                refine JC.ret ?_
                refine QJ.block_ret ?_
                refine QJ.then_ret ?_
                obtain rfl := Option.some.inj hm
                refine QJ.round_ret (fun hy => ?_)
                subst hy
                refine QJ.block_ret ?_
                refine QJ.cut_ret ?_
                refine QJ.then_ret ?_
                obtain rfl := Option.some.inj hmo32
                exact QJ.body (vs := [.bool false]) (.inl rfl) rfl (ResVs.cons (ResV.tmp rfl) ResVs.nil) [] rfl rfl (.inr trivial) ⟨rfl, rfl⟩
            ·
              rcases ite_inv hm with ⟨h46, hm⟩ | ⟨h46, hm⟩
              ·
                refine JC.condT' rfl h46 ?_
                refine JC.seq ?_
                refine JC.region ?_
                refine JL.val (v := .pointer (some ⟨b17, 0, none⟩)) (QV.move rfl) rfl rfl rfl ?_
                refine JL.val (v := .pointer (some ⟨b36, 1, none⟩)) (QV.fieldB fo_44_1 rfl rfl) rfl rfl rfl ?_
                refine JL.val (v := .int .i64 (gd x4 d26).2.1) (QV.load1 (ss := [Seg.c (.int .i64 (gd x4 d26).1), Seg.c (.int .i64 (gd x4 d26).2.1), Seg.c (.int .u32 (gd x4 d26).2.2.1), Seg.c ((gd z5 d26).2.2.2.v)]) 6 1 rfl tk_3 rfl rfl rfl) rfl rfl rfl ?_
                obtain ⟨y47, hc48, hm⟩ := bind_inv hm
                refine JL.mv (d := some 70) (MV.call (Lo := [Asr.blk b17 101 [Seg.c (z18.v), Seg.c (.int .i64 d24)], Asr.of 5 (Enc.int .u8) (z18.v) y15]) (Lr := [Asr.vw (Enc.int .u8) (s1.v) x2, Asr.vn (NE.pair (NE.flat (Enc.int .i64)) (NE.pair (NE.flat (Enc.int .i64)) (NE.pair (NE.flat (Enc.int .u32)) (NE.sl (Enc.int .u8))))) (s3.v) z5 x4, Asr.of 5 (Enc.int .u8) (z21.v) y19, Asr.vw (Enc.int .u8) ((gd z5 d26).2.2.2.v) (gd x4 d26).2.2.2, Asr.blk b36 44 [Seg.c (.int .i64 (gd x4 d26).1), Seg.c (.int .i64 (gd x4 d26).2.1), Seg.c (.int .u32 (gd x4 d26).2.2.1), Seg.c ((gd z5 d26).2.2.2.v)]]) (F39.spec (b17) (z18) (y15) (d24) ((gd x4 d26).2.1) _ hc48) rfl Try.func39 rfl rfl rfl [3, 2] [0, 1, 4, 5, 6] rfl rfl rfl trivial) rfl rfl rfl ?_
                rintro _ _ ⟨_, ⟨rfl, rfl⟩, rfl⟩
                refine JL.val (v := .tuple #[.int .u32 y47.1, .int .i64 y47.2.1]) (QV.move rfl) rfl rfl rfl ?_
                refine JL.val (v := .int .u32 y47.1) (QV.extract (vs := [.int .u32 y47.1, .int .i64 y47.2.1]) rfl rfl) rfl rfl rfl ?_
                refine JL.val (v := .int .i64 y47.2.1) (QV.extract (vs := [.int .u32 y47.1, .int .i64 y47.2.1]) rfl rfl) rfl rfl rfl ?_
                refine JL.val (v := .int .u32 y47.1) (QV.assign rfl) rfl rfl rfl ?_
                refine JL.val (v := .int .i64 y47.2.1) (QV.assign rfl) rfl rfl rfl ?_
                refine JL.nil ?_
                refine QJ.then_normal ?_
                refine JC.seq ?_
                refine JC.region ?_
                refine JL.val (v := .int .u32 (0 : Int)) (QV.assign rfl) rfl rfl rfl ?_
                refine JL.val (v := .int .i64 (0 : Int)) (QV.assign rfl) rfl rfl rfl ?_
                refine JL.nil ?_
                refine QJ.then_normal ?_
                refine JC.seq ?_
                refine JC.seq ?_
                refine JC.region ?_
                refine JL.val (v := .pointer (some ⟨b36, 1, none⟩)) (QV.fieldB fo_44_1 rfl rfl) rfl rfl rfl ?_
                refine JL.val (v := .int .i64 (gd x4 d26).2.1) (QV.load1 (ss := [Seg.c (.int .i64 (gd x4 d26).1), Seg.c (.int .i64 (gd x4 d26).2.1), Seg.c (.int .u32 (gd x4 d26).2.2.1), Seg.c ((gd z5 d26).2.2.2.v)]) 6 1 rfl tk_3 rfl rfl rfl) rfl rfl rfl ?_
                refine JL.val (v := .bool (decide ((gd x4 d26).2.1 < (0 : Int)))) (QV.lss rfl rfl) rfl rfl rfl ?_
                rcases ite_inv hm with ⟨h49, hm⟩ | ⟨h49, hm⟩
                ·
                  refine JL.val (v := .bool true) (QV.eq (QV.move rfl) (congrArg Value.bool (decide_eq_true h49))) rfl rfl rfl ?_
                  refine JL.skip (d := some 77) rfl rfl rfl ?_
                  refine JL.skip (d := some 78) rfl rfl rfl ?_
                  refine JL.skip (d := some 79) rfl rfl rfl ?_
                  refine JL.val (v := .bool true) (QV.pickT rfl rfl) rfl rfl rfl ?_
                  refine JL.nil ?_
                  refine QJ.then_normal ?_
                  refine JC.condT rfl ?_
                  refine JC.region ?_
                  refine JL.val (v := .int .i64 (1 : Int)) (QV.assign rfl) rfl rfl rfl ?_
                  refine JL.nil ?_
                  refine QJ.then_normal ?_
                  refine JC.seq ?_
                  refine JC.region ?_
                  refine JL.val (v := .int .u32 y47.1) (QV.move rfl) rfl rfl rfl ?_
                  refine JL.val (v := .int .u32 (0 : Int)) (QV.move rfl) rfl rfl rfl ?_
                  refine JL.val (v := .bool (!(decide (y47.1 = (0 : Int))))) (QV.neq rfl rfl) rfl rfl rfl ?_
                  rcases ite_inv hm with ⟨h50, hm⟩ | ⟨h50, hm⟩
                  ·
                    refine JL.val (v := .bool false) (QV.eq (QV.move rfl) (congrArg Value.bool (congrArg Bool.not (decide_eq_true h50)))) rfl rfl rfl ?_
                    refine JL.val (v := .int .i64 y47.2.1) (QV.move rfl) rfl rfl rfl ?_
                    refine JL.val (v := .int .i64 (1 : Int)) (QV.move rfl) rfl rfl rfl ?_
                    refine JL.val (v := .bool (!(decide (y47.2.1 = (1 : Int))))) (QV.neq rfl rfl) rfl rfl rfl ?_
                    refine JL.val (v := .bool (!(decide (y47.2.1 = (1 : Int))))) (QV.pickF rfl rfl) rfl rfl rfl ?_
                    refine JL.nil ?_
                    refine QJ.then_normal ?_
                    rcases ite_inv hm with ⟨h51, hm⟩ | ⟨h51, hm⟩
                    ·
                      refine JC.condF' rfl (congrArg Bool.not (decide_eq_true h51)) ?_
                      refine JC.skip ?_
                      exact QJ.cut_normal ((y47.2.2, d25), ()) hm [2, 3, 0, 1, 4] (by exact ⟨rfl, rfl, rfl, rfl, rfl, rfl, trivial⟩) rfl rfl
                    ·
                      refine JC.condT' rfl (congrArg Bool.not (decide_eq_false h51)) ?_
                      refine JC.seq ?_
                      refine JC.region ?_
                      refine JL.val (v := .bool false) (QV.assign rfl) rfl rfl rfl ?_
                      refine JL.nil ?_
                      refine QJ.then_normal ?_
                      refine JC.ret ?_
                      refine QJ.cut_ret ?_
                      refine QJ.block_ret ?_
                      refine QJ.then_ret ?_
                      refine QJ.block_ret ?_
                      refine QJ.then_ret ?_
                      obtain rfl := Option.some.inj hm
                      refine QJ.round_ret (fun hy => ?_)
                      subst hy
                      refine QJ.block_ret ?_
                      refine QJ.cut_ret ?_
                      refine QJ.then_ret ?_
                      obtain rfl := Option.some.inj hmo32
                      exact QJ.body (vs := [.bool false]) (.inl rfl) rfl (ResVs.cons (ResV.tmp rfl) ResVs.nil) [] rfl rfl (.inr trivial) ⟨rfl, rfl⟩
                  ·
                    refine JL.val (v := .bool true) (QV.eq (QV.move rfl) (congrArg Value.bool (congrArg Bool.not (decide_eq_false h50)))) rfl rfl rfl ?_
                    refine JL.skip (d := some 104) rfl rfl rfl ?_
                    refine JL.skip (d := some 105) rfl rfl rfl ?_
                    refine JL.skip (d := some 106) rfl rfl rfl ?_
                    refine JL.val (v := .bool true) (QV.pickT rfl rfl) rfl rfl rfl ?_
                    refine JL.nil ?_
                    refine QJ.then_normal ?_
                    refine JC.condT rfl ?_
                    refine JC.seq ?_
                    refine JC.region ?_
                    refine JL.val (v := .bool false) (QV.assign rfl) rfl rfl rfl ?_
                    refine JL.nil ?_
                    refine QJ.then_normal ?_
                    refine JC.ret ?_
                    refine QJ.cut_ret ?_
                    refine QJ.block_ret ?_
                    refine QJ.then_ret ?_
                    refine QJ.block_ret ?_
                    refine QJ.then_ret ?_
                    obtain rfl := Option.some.inj hm
                    refine QJ.round_ret (fun hy => ?_)
                    subst hy
                    refine QJ.block_ret ?_
                    refine QJ.cut_ret ?_
                    refine QJ.then_ret ?_
                    obtain rfl := Option.some.inj hmo32
                    exact QJ.body (vs := [.bool false]) (.inl rfl) rfl (ResVs.cons (ResV.tmp rfl) ResVs.nil) [] rfl rfl (.inr trivial) ⟨rfl, rfl⟩
                ·
                  refine JL.val (v := .bool false) (QV.eq (QV.move rfl) (congrArg Value.bool (decide_eq_false h49))) rfl rfl rfl ?_
                  refine JL.val (v := .pointer (some ⟨b36, 1, none⟩)) (QV.fieldB fo_44_1 rfl rfl) rfl rfl rfl ?_
                  refine JL.val (v := .int .i64 (gd x4 d26).2.1) (QV.load1 (ss := [Seg.c (.int .i64 (gd x4 d26).1), Seg.c (.int .i64 (gd x4 d26).2.1), Seg.c (.int .u32 (gd x4 d26).2.2.1), Seg.c ((gd z5 d26).2.2.2.v)]) 6 1 rfl tk_3 rfl rfl rfl) rfl rfl rfl ?_
                  refine JL.val (v := .bool (decide ((32 : Int) < (gd x4 d26).2.1))) (QV.gtr rfl rfl) rfl rfl rfl ?_
                  refine JL.val (v := .bool (decide ((32 : Int) < (gd x4 d26).2.1))) (QV.pickF rfl rfl) rfl rfl rfl ?_
                  refine JL.nil ?_
                  refine QJ.then_normal ?_
                  refine JC.cutK (Y := (Int × Int × Int) × Unit) (fun y => match y with | ((d52, d53, d54), _) => F9.j4 y15 y19 d26 y47 (d52) (d53) (d54) = some s33) (fun y => match y with | ((d52, d53, d54), _) => [(0, s1.v), (1, s3.v), (5, .pointer (some ⟨b17, 0, none⟩)), (6, z21.v), (7, .int .i64 d52), (8, .int .i64 d26), (10, .int .u32 y47.1), (11, .int .i64 y47.2.1), (12, .int .u32 d53), (13, .int .i64 d54)]) (fun y => match y with | ((d52, d53, d54), _) => [Asr.vw (Enc.int .u8) (s1.v) x2, Asr.vn (NE.pair (NE.flat (Enc.int .i64)) (NE.pair (NE.flat (Enc.int .i64)) (NE.pair (NE.flat (Enc.int .u32)) (NE.sl (Enc.int .u8))))) (s3.v) z5 x4, Asr.of 5 (Enc.int .u8) (z18.v) y15, Asr.blk b17 101 [Seg.c (z18.v), Seg.c (.int .i64 y47.2.2)], Asr.of 5 (Enc.int .u8) (z21.v) y19]) ?_ ?_
                  ·
                    rintro ⟨⟨d52, d53, d54⟩, ⟨⟩⟩ hm
                    unfold F9.j4 at hm
                    show QJ _ _ [(0, s1.v), (1, s3.v), (5, .pointer (some ⟨b17, 0, none⟩)), (6, z21.v), (7, .int .i64 d52), (8, .int .i64 d26), (10, .int .u32 y47.1), (11, .int .i64 y47.2.1), (12, .int .u32 d53), (13, .int .i64 d54)] [Asr.vw (Enc.int .u8) (s1.v) x2, Asr.vn (NE.pair (NE.flat (Enc.int .i64)) (NE.pair (NE.flat (Enc.int .i64)) (NE.pair (NE.flat (Enc.int .u32)) (NE.sl (Enc.int .u8))))) (s3.v) z5 x4, Asr.of 5 (Enc.int .u8) (z18.v) y15, Asr.blk b17 101 [Seg.c (z18.v), Seg.c (.int .i64 y47.2.2)], Asr.of 5 (Enc.int .u8) (z21.v) y19] _ _
                    refine QJ.then_normal ?_
                    refine JC.seq ?_
                    refine JC.region ?_
                    refine JL.val (v := .int .u32 y47.1) (QV.move rfl) rfl rfl rfl ?_
                    refine JL.val (v := .int .u32 d53) (QV.move rfl) rfl rfl rfl ?_
                    refine JL.val (v := .bool (!(decide (y47.1 = d53)))) (QV.neq rfl rfl) rfl rfl rfl ?_
                    rcases ite_inv hm with ⟨h55, hm⟩ | ⟨h55, hm⟩
                    ·
                      refine JL.val (v := .bool false) (QV.eq (QV.move rfl) (congrArg Value.bool (congrArg Bool.not (decide_eq_true h55)))) rfl rfl rfl ?_
                      refine JL.val (v := .int .i64 y47.2.1) (QV.move rfl) rfl rfl rfl ?_
                      refine JL.val (v := .int .i64 d54) (QV.move rfl) rfl rfl rfl ?_
                      refine JL.val (v := .bool (!(decide (y47.2.1 = d54)))) (QV.neq rfl rfl) rfl rfl rfl ?_
                      refine JL.val (v := .bool (!(decide (y47.2.1 = d54)))) (QV.pickF rfl rfl) rfl rfl rfl ?_
                      refine JL.nil ?_
                      refine QJ.then_normal ?_
                      rcases ite_inv hm with ⟨h56, hm⟩ | ⟨h56, hm⟩
                      ·
                        refine JC.condF' rfl (congrArg Bool.not (decide_eq_true h56)) ?_
                        refine JC.skip ?_
                        exact QJ.cut_normal ((y47.2.2, d52), ()) hm [0, 1, 2, 3, 4] (by exact ⟨rfl, rfl, rfl, rfl, rfl, rfl, trivial⟩) rfl rfl
                      ·
                        refine JC.condT' rfl (congrArg Bool.not (decide_eq_false h56)) ?_
                        refine JC.seq ?_
                        refine JC.region ?_
                        refine JL.val (v := .bool false) (QV.assign rfl) rfl rfl rfl ?_
                        refine JL.nil ?_
                        refine QJ.then_normal ?_
                        refine JC.ret ?_
                        refine QJ.cut_ret ?_
                        refine QJ.block_ret ?_
                        refine QJ.then_ret ?_
                        refine QJ.block_ret ?_
                        refine QJ.then_ret ?_
                        obtain rfl := Option.some.inj hm
                        refine QJ.round_ret (fun hy => ?_)
                        subst hy
                        refine QJ.block_ret ?_
                        refine QJ.cut_ret ?_
                        refine QJ.then_ret ?_
                        obtain rfl := Option.some.inj hmo32
                        exact QJ.body (vs := [.bool false]) (.inl rfl) rfl (ResVs.cons (ResV.tmp rfl) ResVs.nil) [] rfl rfl (.inr trivial) ⟨rfl, rfl⟩
                    ·
                      refine JL.val (v := .bool true) (QV.eq (QV.move rfl) (congrArg Value.bool (congrArg Bool.not (decide_eq_false h55)))) rfl rfl rfl ?_
                      refine JL.skip (d := some 104) rfl rfl rfl ?_
                      refine JL.skip (d := some 105) rfl rfl rfl ?_
                      refine JL.skip (d := some 106) rfl rfl rfl ?_
                      refine JL.val (v := .bool true) (QV.pickT rfl rfl) rfl rfl rfl ?_
                      refine JL.nil ?_
                      refine QJ.then_normal ?_
                      refine JC.condT rfl ?_
                      refine JC.seq ?_
                      refine JC.region ?_
                      refine JL.val (v := .bool false) (QV.assign rfl) rfl rfl rfl ?_
                      refine JL.nil ?_
                      refine QJ.then_normal ?_
                      refine JC.ret ?_
                      refine QJ.cut_ret ?_
                      refine QJ.block_ret ?_
                      refine QJ.then_ret ?_
                      refine QJ.block_ret ?_
                      refine QJ.then_ret ?_
                      obtain rfl := Option.some.inj hm
                      refine QJ.round_ret (fun hy => ?_)
                      subst hy
                      refine QJ.block_ret ?_
                      refine QJ.cut_ret ?_
                      refine QJ.then_ret ?_
                      obtain rfl := Option.some.inj hmo32
                      exact QJ.body (vs := [.bool false]) (.inl rfl) rfl (ResVs.cons (ResV.tmp rfl) ResVs.nil) [] rfl rfl (.inr trivial) ⟨rfl, rfl⟩
                  ·
                    rcases ite_inv hm with ⟨h57, hm⟩ | ⟨h57, hm⟩
                    ·
                      refine JC.condT' rfl (decide_eq_true h57) ?_
                      refine JC.region ?_
                      refine JL.val (v := .int .i64 (1 : Int)) (QV.assign rfl) rfl rfl rfl ?_
                      refine JL.nil ?_
                      exact QJ.cut_normal ((d25, (0 : Int), (1 : Int)), ()) hm [2, 3, 0, 1, 4] (by exact ⟨rfl, rfl, rfl, rfl, rfl, rfl, rfl, rfl, rfl, rfl, trivial⟩) rfl rfl
                    ·
                      refine JC.condF' rfl (decide_eq_false h57) ?_
                      refine JC.seq ?_
                      refine JC.region ?_
                      refine JL.val (v := .pointer (some ⟨b36, 1, none⟩)) (QV.fieldB fo_44_1 rfl rfl) rfl rfl rfl ?_
                      refine JL.val (v := .int .i64 (gd x4 d26).2.1) (QV.load1 (ss := [Seg.c (.int .i64 (gd x4 d26).1), Seg.c (.int .i64 (gd x4 d26).2.1), Seg.c (.int .u32 (gd x4 d26).2.2.1), Seg.c ((gd z5 d26).2.2.2.v)]) 6 1 rfl tk_3 rfl rfl rfl) rfl rfl rfl ?_
                      refine JL.val (v := z21.v) (QV.move rfl) rfl rfl rfl ?_
                      refine JL.val (v := .int .i64 ((y19).length : Int)) (QV.len (Rdg.of 4 rfl) Try.underlying26 rfl) rfl rfl rfl ?_
                      refine JL.val (v := .int .i64 d25) (QV.move rfl) rfl rfl rfl ?_
                      refine JL.val (v := .int .i64 (IntKind.wrap .i64 (((y19).length : Int) - d25))) (QV.sub rfl rfl) rfl rfl rfl ?_
                      refine JL.val (v := .bool (decide ((IntKind.wrap .i64 (((y19).length : Int) - d25)) < (gd x4 d26).2.1))) (QV.gtr rfl rfl) rfl rfl rfl ?_
                      refine JL.nil ?_
                      refine QJ.then_normal ?_
                      refine JC.cutK (Y := (Int × Int × Int) × Unit) (fun y => match y with | ((d58, d59, d60), _) => F9.j5 y15 y19 d26 y47 (d58) (d59) (d60) = some s33) (fun y => match y with | ((d58, d59, d60), _) => [(0, s1.v), (1, s3.v), (5, .pointer (some ⟨b17, 0, none⟩)), (6, z21.v), (7, .int .i64 d58), (8, .int .i64 d26), (10, .int .u32 y47.1), (11, .int .i64 y47.2.1), (12, .int .u32 d59), (13, .int .i64 d60)]) (fun y => match y with | ((d58, d59, d60), _) => [Asr.vw (Enc.int .u8) (s1.v) x2, Asr.vn (NE.pair (NE.flat (Enc.int .i64)) (NE.pair (NE.flat (Enc.int .i64)) (NE.pair (NE.flat (Enc.int .u32)) (NE.sl (Enc.int .u8))))) (s3.v) z5 x4, Asr.of 5 (Enc.int .u8) (z18.v) y15, Asr.blk b17 101 [Seg.c (z18.v), Seg.c (.int .i64 y47.2.2)], Asr.of 5 (Enc.int .u8) (z21.v) y19]) ?_ ?_
                      ·
                        rintro ⟨⟨d58, d59, d60⟩, ⟨⟩⟩ hm
                        unfold F9.j5 at hm
                        show QJ _ _ [(0, s1.v), (1, s3.v), (5, .pointer (some ⟨b17, 0, none⟩)), (6, z21.v), (7, .int .i64 d58), (8, .int .i64 d26), (10, .int .u32 y47.1), (11, .int .i64 y47.2.1), (12, .int .u32 d59), (13, .int .i64 d60)] [Asr.vw (Enc.int .u8) (s1.v) x2, Asr.vn (NE.pair (NE.flat (Enc.int .i64)) (NE.pair (NE.flat (Enc.int .i64)) (NE.pair (NE.flat (Enc.int .u32)) (NE.sl (Enc.int .u8))))) (s3.v) z5 x4, Asr.of 5 (Enc.int .u8) (z18.v) y15, Asr.blk b17 101 [Seg.c (z18.v), Seg.c (.int .i64 y47.2.2)], Asr.of 5 (Enc.int .u8) (z21.v) y19] _ _
                        exact QJ.cut_normal ((d58, d59, d60), ()) hm [0, 1, 2, 3, 4] (by exact ⟨rfl, rfl, rfl, rfl, rfl, rfl, rfl, rfl, rfl, rfl, trivial⟩) rfl rfl
                      ·
                        rcases ite_inv hm with ⟨h61, hm⟩ | ⟨h61, hm⟩
                        ·
                          refine JC.condT' rfl (decide_eq_true h61) ?_
                          refine JC.region ?_
                          refine JL.val (v := .int .i64 (2 : Int)) (QV.assign rfl) rfl rfl rfl ?_
                          refine JL.nil ?_
                          exact QJ.cut_normal ((d25, (0 : Int), (2 : Int)), ()) hm [2, 3, 0, 1, 4] (by exact ⟨rfl, rfl, rfl, rfl, rfl, rfl, rfl, rfl, rfl, rfl, trivial⟩) rfl rfl
                        ·
                          refine JC.condF' rfl (decide_eq_false h61) ?_
                          refine JC.seq ?_
                          refine JC.region ?_
                          refine JL.val (v := z21.v) (QV.move rfl) rfl rfl rfl ?_
                          refine JL.val (v := .int .i64 d25) (QV.move rfl) rfl rfl rfl ?_
                          refine JL.val (v := .int .i64 d25) (QV.move rfl) rfl rfl rfl ?_
                          refine JL.val (v := .pointer (some ⟨b36, 1, none⟩)) (QV.fieldB fo_44_1 rfl rfl) rfl rfl rfl ?_
                          refine JL.val (v := .int .i64 (gd x4 d26).2.1) (QV.load1 (ss := [Seg.c (.int .i64 (gd x4 d26).1), Seg.c (.int .i64 (gd x4 d26).2.1), Seg.c (.int .u32 (gd x4 d26).2.2.1), Seg.c ((gd z5 d26).2.2.2.v)]) 6 1 rfl tk_3 rfl rfl rfl) rfl rfl rfl ?_
                          refine JL.val (v := .int .i64 (IntKind.wrap .i64 (d25 + (gd x4 d26).2.1))) (QV.add rfl rfl) rfl rfl rfl ?_
                          obtain ⟨h62, hm⟩ := guard_inv hm
                          refine JL.val (v := (SlV.sub ((Enc.int .u8)).sz z21 d25 (IntKind.wrap .i64 (d25 + (gd x4 d26).2.1))).v) (QV.sliceV (Rdg.of 4 rfl) Try.underlying26 tk_5 rfl rfl rfl h62) rfl rfl rfl ?_
                          obtain ⟨y63, hc64, hm⟩ := bind_inv hm
                          refine JL.mv (d := some 95) (MV.call (Lo := []) (Lr := [Asr.of 5 (Enc.int .u8) (z18.v) y15, Asr.blk b17 101 [Seg.c (z18.v), Seg.c (.int .i64 y47.2.2)], Asr.vw (Enc.int .u8) (s1.v) x2, Asr.vn (NE.pair (NE.flat (Enc.int .i64)) (NE.pair (NE.flat (Enc.int .i64)) (NE.pair (NE.flat (Enc.int .u32)) (NE.sl (Enc.int .u8))))) (s3.v) z5 x4, Asr.of 5 (Enc.int .u8) (z21.v) y19, Asr.vw (Enc.int .u8) ((gd z5 d26).2.2.2.v) (gd x4 d26).2.2.2, Asr.blk b36 44 [Seg.c (.int .i64 (gd x4 d26).1), Seg.c (.int .i64 (gd x4 d26).2.1), Seg.c (.int .u32 (gd x4 d26).2.2.1), Seg.c ((gd z5 d26).2.2.2.v)]]) (F40.spec ((SlV.sub ((Enc.int .u8)).sz z21 d25 (IntKind.wrap .i64 (d25 + (gd x4 d26).2.1)))) ((subL y19 d25 (IntKind.wrap .i64 (d25 + (gd x4 d26).2.1)))) _ hc64) rfl Try.func40 rfl rfl rfl [] [0, 1, 2, 3, 4, 5, 6] rfl rfl rfl ⟨((Drv.of 4 rfl).subV h62), trivial⟩) rfl rfl rfl ?_
                          rintro _ _ ⟨_, ⟨rfl, rfl⟩, rfl⟩
                          refine JL.val (v := .int .u32 y63) (QV.assign rfl) rfl rfl rfl ?_
                          refine JL.nil ?_
                          refine QJ.then_normal ?_
                          refine JC.region ?_
                          refine JL.val (v := .int .i64 d25) (QV.move rfl) rfl rfl rfl ?_
                          refine JL.val (v := .pointer (some ⟨b36, 1, none⟩)) (QV.fieldB fo_44_1 rfl rfl) rfl rfl rfl ?_
                          refine JL.val (v := .int .i64 (gd x4 d26).2.1) (QV.load1 (ss := [Seg.c (.int .i64 (gd x4 d26).1), Seg.c (.int .i64 (gd x4 d26).2.1), Seg.c (.int .u32 (gd x4 d26).2.2.1), Seg.c ((gd z5 d26).2.2.2.v)]) 6 1 rfl tk_3 rfl rfl rfl) rfl rfl rfl ?_
                          refine JL.val (v := .int .i64 (IntKind.wrap .i64 (d25 + (gd x4 d26).2.1))) (QV.add rfl rfl) rfl rfl rfl ?_
                          refine JL.val (v := .int .i64 (IntKind.wrap .i64 (d25 + (gd x4 d26).2.1))) (QV.assign rfl) rfl rfl rfl ?_
                          refine JL.nil ?_
                          exact QJ.cut_normal (((IntKind.wrap .i64 (d25 + (gd x4 d26).2.1)), y63, (0 : Int)), ()) hm [2, 3, 0, 1, 4] (by exact ⟨rfl, rfl, rfl, rfl, rfl, rfl, rfl, rfl, rfl, rfl, trivial⟩) rfl rfl
              ·
                refine JC.condF' rfl (bfalse h46) ?_
                refine JC.seq ?_
                refine JC.region ?_
                refine JL.val (v := .bool (decide ((gd x4 d26).1 = (2 : Int)))) (QV.eql rfl rfl) rfl rfl rfl ?_
                refine JL.val (v := .bool (decide ((gd x4 d26).1 = (2 : Int)))) (QV.assign rfl) rfl rfl rfl ?_
                refine JL.nil ?_
                refine QJ.then_normal ?_
                refine JC.cutK (Y := (Int × Int) × Unit) (fun y => match y with | ((d65, d66), _) => F9.j6 y15 y19 d26 (d65) (d66) = some s33) (fun y => match y with | ((d65, d66), _) => [(0, s1.v), (1, s3.v), (5, .pointer (some ⟨b17, 0, none⟩)), (6, z21.v), (7, .int .i64 d66), (8, .int .i64 d26)]) (fun y => match y with | ((d65, d66), _) => [Asr.vw (Enc.int .u8) (s1.v) x2, Asr.vn (NE.pair (NE.flat (Enc.int .i64)) (NE.pair (NE.flat (Enc.int .i64)) (NE.pair (NE.flat (Enc.int .u32)) (NE.sl (Enc.int .u8))))) (s3.v) z5 x4, Asr.of 5 (Enc.int .u8) (z18.v) y15, Asr.blk b17 101 [Seg.c (z18.v), Seg.c (.int .i64 d65)], Asr.of 5 (Enc.int .u8) (z21.v) y19]) ?_ ?_
                ·
                  rintro ⟨⟨d65, d66⟩, ⟨⟩⟩ hm
                  unfold F9.j6 at hm
                  show QJ _ _ [(0, s1.v), (1, s3.v), (5, .pointer (some ⟨b17, 0, none⟩)), (6, z21.v), (7, .int .i64 d66), (8, .int .i64 d26)] [Asr.vw (Enc.int .u8) (s1.v) x2, Asr.vn (NE.pair (NE.flat (Enc.int .i64)) (NE.pair (NE.flat (Enc.int .i64)) (NE.pair (NE.flat (Enc.int .u32)) (NE.sl (Enc.int .u8))))) (s3.v) z5 x4, Asr.of 5 (Enc.int .u8) (z18.v) y15, Asr.blk b17 101 [Seg.c (z18.v), Seg.c (.int .i64 d65)], Asr.of 5 (Enc.int .u8) (z21.v) y19] _ _
                  exact QJ.cut_normal ((d65, d66), ()) hm [0, 1, 2, 3, 4] (by exact ⟨rfl, rfl, rfl, rfl, rfl, rfl, trivial⟩) rfl rfl
                ·
                  rcases ite_inv hm with ⟨h67, hm⟩ | ⟨h67, hm⟩
                  ·
                    refine JC.condT' rfl (decide_eq_true h67) ?_
                    refine JC.seq ?_
                    refine JC.region ?_
                    refine JL.val (v := .pointer (some ⟨b17, 0, none⟩)) (QV.move rfl) rfl rfl rfl ?_
                    obtain ⟨y68, hc69, hm⟩ := bind_inv hm
                    refine JL.mv (d := some 111) (MV.call (Lo := [Asr.blk b17 101 [Seg.c (z18.v), Seg.c (.int .i64 d24)], Asr.of 5 (Enc.int .u8) (z18.v) y15]) (Lr := [Asr.vw (Enc.int .u8) (s1.v) x2, Asr.vn (NE.pair (NE.flat (Enc.int .i64)) (NE.pair (NE.flat (Enc.int .i64)) (NE.pair (NE.flat (Enc.int .u32)) (NE.sl (Enc.int .u8))))) (s3.v) z5 x4, Asr.of 5 (Enc.int .u8) (z21.v) y19, Asr.vw (Enc.int .u8) ((gd z5 d26).2.2.2.v) (gd x4 d26).2.2.2, Asr.blk b36 44 [Seg.c (.int .i64 (gd x4 d26).1), Seg.c (.int .i64 (gd x4 d26).2.1), Seg.c (.int .u32 (gd x4 d26).2.2.1), Seg.c ((gd z5 d26).2.2.2.v)]]) (F42.spec (b17) (z18) (y15) (d24) _ hc69) rfl Try.func42 rfl rfl rfl [3, 2] [0, 1, 4, 5, 6] rfl rfl rfl trivial) rfl rfl rfl ?_
                    rintro _ _ ⟨_, ⟨rfl, rfl⟩, rfl⟩
                    refine JL.nil ?_
                    refine QJ.then_normal ?_
                    refine JC.region ?_
                    refine JL.val (v := .int .i64 d25) (QV.move rfl) rfl rfl rfl ?_
                    obtain ⟨y70, hc71, hm⟩ := bind_inv hm
                    refine JL.mv (d := some 113) (MV.call (Lo := []) (Lr := [Asr.of 5 (Enc.int .u8) (z18.v) y15, Asr.blk b17 101 [Seg.c (z18.v), Seg.c (.int .i64 y68)], Asr.vw (Enc.int .u8) (s1.v) x2, Asr.vn (NE.pair (NE.flat (Enc.int .i64)) (NE.pair (NE.flat (Enc.int .i64)) (NE.pair (NE.flat (Enc.int .u32)) (NE.sl (Enc.int .u8))))) (s3.v) z5 x4, Asr.of 5 (Enc.int .u8) (z21.v) y19, Asr.vw (Enc.int .u8) ((gd z5 d26).2.2.2.v) (gd x4 d26).2.2.2, Asr.blk b36 44 [Seg.c (.int .i64 (gd x4 d26).1), Seg.c (.int .i64 (gd x4 d26).2.1), Seg.c (.int .u32 (gd x4 d26).2.2.1), Seg.c ((gd z5 d26).2.2.2.v)]]) (F43.spec (d25) _ hc71) rfl Try.func43 rfl rfl rfl [] [0, 1, 2, 3, 4, 5, 6] rfl rfl rfl trivial) rfl rfl rfl ?_
                    rintro _ _ ⟨_, ⟨rfl, rfl⟩, rfl⟩
                    refine JL.val (v := .int .i64 y70) (QV.assign rfl) rfl rfl rfl ?_
                    refine JL.nil ?_
                    exact QJ.cut_normal ((y68, y70), ()) hm [2, 3, 0, 1, 4] (by exact ⟨rfl, rfl, rfl, rfl, rfl, rfl, trivial⟩) rfl rfl
                  ·
                    refine JC.condF' rfl (decide_eq_false h67) ?_
                    refine JC.seq ?_
                    refine JC.region ?_
                    refine JL.val (v := .bool (decide ((gd x4 d26).1 = (3 : Int)))) (QV.eql rfl rfl) rfl rfl rfl ?_
                    refine JL.val (v := .bool (decide ((gd x4 d26).1 = (3 : Int)))) (QV.assign rfl) rfl rfl rfl ?_
                    refine JL.nil ?_
                    refine QJ.then_normal ?_
                    refine JC.cutK (Y := (Int × Int) × Unit) (fun y => match y with | ((d72, d73), _) => F9.j7 y15 y19 d26 (d72) (d73) = some s33) (fun y => match y with | ((d72, d73), _) => [(0, s1.v), (1, s3.v), (5, .pointer (some ⟨b17, 0, none⟩)), (6, z21.v), (7, .int .i64 d73), (8, .int .i64 d26)]) (fun y => match y with | ((d72, d73), _) => [Asr.vw (Enc.int .u8) (s1.v) x2, Asr.vn (NE.pair (NE.flat (Enc.int .i64)) (NE.pair (NE.flat (Enc.int .i64)) (NE.pair (NE.flat (Enc.int .u32)) (NE.sl (Enc.int .u8))))) (s3.v) z5 x4, Asr.of 5 (Enc.int .u8) (z18.v) y15, Asr.blk b17 101 [Seg.c (z18.v), Seg.c (.int .i64 d72)], Asr.of 5 (Enc.int .u8) (z21.v) y19]) ?_ ?_
                    ·
                      rintro ⟨⟨d72, d73⟩, ⟨⟩⟩ hm
                      unfold F9.j7 at hm
                      show QJ _ _ [(0, s1.v), (1, s3.v), (5, .pointer (some ⟨b17, 0, none⟩)), (6, z21.v), (7, .int .i64 d73), (8, .int .i64 d26)] [Asr.vw (Enc.int .u8) (s1.v) x2, Asr.vn (NE.pair (NE.flat (Enc.int .i64)) (NE.pair (NE.flat (Enc.int .i64)) (NE.pair (NE.flat (Enc.int .u32)) (NE.sl (Enc.int .u8))))) (s3.v) z5 x4, Asr.of 5 (Enc.int .u8) (z18.v) y15, Asr.blk b17 101 [Seg.c (z18.v), Seg.c (.int .i64 d72)], Asr.of 5 (Enc.int .u8) (z21.v) y19] _ _
                      exact QJ.cut_normal ((d72, d73), ()) hm [0, 1, 2, 3, 4] (by exact ⟨rfl, rfl, rfl, rfl, rfl, rfl, trivial⟩) rfl rfl
                    ·
                      rcases ite_inv hm with ⟨h74, hm⟩ | ⟨h74, hm⟩
                      ·
                        refine JC.condT' rfl (decide_eq_true h74) ?_
                        refine JC.seq ?_
                        refine JC.region ?_
                        refine JL.val (v := .pointer (some ⟨b17, 0, none⟩)) (QV.move rfl) rfl rfl rfl ?_
                        refine JL.val (v := .pointer (some ⟨b36, 1, none⟩)) (QV.fieldB fo_44_1 rfl rfl) rfl rfl rfl ?_
                        refine JL.val (v := .int .i64 (gd x4 d26).2.1) (QV.load1 (ss := [Seg.c (.int .i64 (gd x4 d26).1), Seg.c (.int .i64 (gd x4 d26).2.1), Seg.c (.int .u32 (gd x4 d26).2.2.1), Seg.c ((gd z5 d26).2.2.2.v)]) 6 1 rfl tk_3 rfl rfl rfl) rfl rfl rfl ?_
                        obtain ⟨y75, hc76, hm⟩ := bind_inv hm
                        refine JL.mv (d := some 120) (MV.call (Lo := [Asr.blk b17 101 [Seg.c (z18.v), Seg.c (.int .i64 d24)], Asr.of 5 (Enc.int .u8) (z18.v) y15]) (Lr := [Asr.vw (Enc.int .u8) (s1.v) x2, Asr.vn (NE.pair (NE.flat (Enc.int .i64)) (NE.pair (NE.flat (Enc.int .i64)) (NE.pair (NE.flat (Enc.int .u32)) (NE.sl (Enc.int .u8))))) (s3.v) z5 x4, Asr.of 5 (Enc.int .u8) (z21.v) y19, Asr.vw (Enc.int .u8) ((gd z5 d26).2.2.2.v) (gd x4 d26).2.2.2, Asr.blk b36 44 [Seg.c (.int .i64 (gd x4 d26).1), Seg.c (.int .i64 (gd x4 d26).2.1), Seg.c (.int .u32 (gd x4 d26).2.2.1), Seg.c ((gd z5 d26).2.2.2.v)]]) (F44.spec (b17) (z18) (y15) (d24) ((gd x4 d26).2.1) _ hc76) rfl Try.func44 rfl rfl rfl [3, 2] [0, 1, 4, 5, 6] rfl rfl rfl trivial) rfl rfl rfl ?_
                        rintro _ _ ⟨_, ⟨z77, rfl, rfl⟩, rfl⟩
                        refine JL.val (v := .tuple #[z77.v, .int .i64 y75.2.1]) (QV.move rfl) rfl rfl rfl ?_
                        refine JL.val (v := z77.v) (QV.extract (vs := [z77.v, .int .i64 y75.2.1]) rfl rfl) rfl rfl rfl ?_
                        refine JL.val (v := .int .i64 y75.2.1) (QV.extract (vs := [z77.v, .int .i64 y75.2.1]) rfl rfl) rfl rfl rfl ?_
                        refine JL.val (v := z77.v) (QV.assign rfl) rfl rfl rfl ?_
                        refine JL.val (v := .int .i64 y75.2.1) (QV.assign rfl) rfl rfl rfl ?_
                        refine JL.nil ?_
                        refine QJ.then_normal ?_
                        refine JC.seq ?_
                        refine JC.region ?_
                        refine JL.val (v := .int .i64 d25) (QV.move rfl) rfl rfl rfl ?_
                        obtain ⟨y78, hc79, hm⟩ := bind_inv hm
                        refine JL.mv (d := some 124) (MV.call (Lo := []) (Lr := [Asr.of 5 (Enc.int .u8) (z77.v) y75.1, Asr.of 5 (Enc.int .u8) (z18.v) y15, Asr.blk b17 101 [Seg.c (z18.v), Seg.c (.int .i64 y75.2.2)], Asr.vw (Enc.int .u8) (s1.v) x2, Asr.vn (NE.pair (NE.flat (Enc.int .i64)) (NE.pair (NE.flat (Enc.int .i64)) (NE.pair (NE.flat (Enc.int .u32)) (NE.sl (Enc.int .u8))))) (s3.v) z5 x4, Asr.of 5 (Enc.int .u8) (z21.v) y19, Asr.vw (Enc.int .u8) ((gd z5 d26).2.2.2.v) (gd x4 d26).2.2.2, Asr.blk b36 44 [Seg.c (.int .i64 (gd x4 d26).1), Seg.c (.int .i64 (gd x4 d26).2.1), Seg.c (.int .u32 (gd x4 d26).2.2.1), Seg.c ((gd z5 d26).2.2.2.v)]]) (F43.spec (d25) _ hc79) rfl Try.func43 rfl rfl rfl [] [0, 1, 2, 3, 4, 5, 6, 7] rfl rfl rfl trivial) rfl rfl rfl ?_
                        rintro _ _ ⟨_, ⟨rfl, rfl⟩, rfl⟩
                        refine JL.val (v := .int .i64 y78) (QV.assign rfl) rfl rfl rfl ?_
                        refine JL.nil ?_
                        refine QJ.then_normal ?_
                        refine JC.seq ?_
                        refine JC.region ?_
                        refine JL.mv (d := some 125) (MV.lit0 (Enc.int .u8) Try.underlying26 (by kernel_rfl)) rfl rfl rfl ?_
                        rintro _ _ ⟨z80, rfl, rfl⟩
                        refine JL.val (v := z80.v) (QV.assign rfl) rfl rfl rfl ?_
                        refine JL.val (v := .int .i64 (0 : Int)) (QV.assign rfl) rfl rfl rfl ?_
                        refine JL.nil ?_
                        refine QJ.then_normal ?_
                        refine JC.seq ?_
                        refine JC.seq ?_
                        refine JC.region ?_
                        refine JL.val (v := .pointer (some ⟨b36, 1, none⟩)) (QV.fieldB fo_44_1 rfl rfl) rfl rfl rfl ?_
                        refine JL.val (v := .int .i64 (gd x4 d26).2.1) (QV.load1 (ss := [Seg.c (.int .i64 (gd x4 d26).1), Seg.c (.int .i64 (gd x4 d26).2.1), Seg.c (.int .u32 (gd x4 d26).2.2.1), Seg.c ((gd z5 d26).2.2.2.v)]) 8 1 rfl tk_3 rfl rfl rfl) rfl rfl rfl ?_
                        refine JL.val (v := .bool (decide ((gd x4 d26).2.1 < (0 : Int)))) (QV.lss rfl rfl) rfl rfl rfl ?_
                        refine JL.nil ?_
                        refine QJ.then_normal ?_
                        refine JC.cutK (Y := (Int × List Int × Int) × SlV) (fun y => match y with | ((d81, d83, d84), _) => F9.j8 y15 y19 d26 y75 (d81) (d83) (d84) = some s33) (fun y => match y with | ((d81, d83, d84), z82) => [(0, s1.v), (1, s3.v), (5, .pointer (some ⟨b17, 0, none⟩)), (6, z21.v), (7, .int .i64 d81), (8, .int .i64 d26), (14, z77.v), (15, .int .i64 y75.2.1), (16, z82.v), (17, .int .i64 d84)]) (fun y => match y with | ((d81, d83, d84), z82) => [Asr.vw (Enc.int .u8) (s1.v) x2, Asr.vn (NE.pair (NE.flat (Enc.int .i64)) (NE.pair (NE.flat (Enc.int .i64)) (NE.pair (NE.flat (Enc.int .u32)) (NE.sl (Enc.int .u8))))) (s3.v) z5 x4, Asr.of 5 (Enc.int .u8) (z18.v) y15, Asr.blk b17 101 [Seg.c (z18.v), Seg.c (.int .i64 y75.2.2)], Asr.of 5 (Enc.int .u8) (z21.v) y19, Asr.of 5 (Enc.int .u8) (z77.v) y75.1, Asr.vw (Enc.int .u8) (z82.v) d83]) ?_ ?_
                        ·
                          rintro ⟨⟨d81, d83, d84⟩, z82⟩ hm
                          unfold F9.j8 at hm
                          show QJ _ _ [(0, s1.v), (1, s3.v), (5, .pointer (some ⟨b17, 0, none⟩)), (6, z21.v), (7, .int .i64 d81), (8, .int .i64 d26), (14, z77.v), (15, .int .i64 y75.2.1), (16, z82.v), (17, .int .i64 d84)] [Asr.vw (Enc.int .u8) (s1.v) x2, Asr.vn (NE.pair (NE.flat (Enc.int .i64)) (NE.pair (NE.flat (Enc.int .i64)) (NE.pair (NE.flat (Enc.int .u32)) (NE.sl (Enc.int .u8))))) (s3.v) z5 x4, Asr.of 5 (Enc.int .u8) (z18.v) y15, Asr.blk b17 101 [Seg.c (z18.v), Seg.c (.int .i64 y75.2.2)], Asr.of 5 (Enc.int .u8) (z21.v) y19, Asr.of 5 (Enc.int .u8) (z77.v) y75.1, Asr.vw (Enc.int .u8) (z82.v) d83] _ _
                          refine QJ.then_normal ?_
                          refine JC.seq ?_
                          refine JC.region ?_
                          refine JL.val (v := z77.v) (QV.move rfl) rfl rfl rfl ?_
                          refine JL.val (v := .string (strOfNums y75.1)) (QV.str (Rdg.of 5 rfl) Try.underlying26 Try.underlying5 Try.underlying9 rfl) rfl rfl rfl ?_
                          refine JL.val (v := z82.v) (QV.move rfl) rfl rfl rfl ?_
                          refine JL.val (v := .string (strOfNums d83)) (QV.str (Rdg.vw 6 rfl) Try.underlying26 Try.underlying5 Try.underlying9 rfl) rfl rfl rfl ?_
                          refine JL.val (v := .bool (!(decide ((strOfNums y75.1) = (strOfNums d83))))) (QV.neqS rfl rfl) rfl rfl rfl ?_
                          rcases ite_inv hm with ⟨h85, hm⟩ | ⟨h85, hm⟩
                          ·
                            refine JL.val (v := .bool false) (QV.eq (QV.move rfl) (congrArg Value.bool (congrArg Bool.not (decide_eq_true h85)))) rfl rfl rfl ?_
                            refine JL.val (v := .int .i64 y75.2.1) (QV.move rfl) rfl rfl rfl ?_
                            refine JL.val (v := .int .i64 d84) (QV.move rfl) rfl rfl rfl ?_
                            refine JL.val (v := .bool (!(decide (y75.2.1 = d84)))) (QV.neq rfl rfl) rfl rfl rfl ?_
                            refine JL.val (v := .bool (!(decide (y75.2.1 = d84)))) (QV.pickF rfl rfl) rfl rfl rfl ?_
                            refine JL.nil ?_
                            refine QJ.then_normal ?_
                            rcases ite_inv hm with ⟨h86, hm⟩ | ⟨h86, hm⟩
                            ·
                              refine JC.condF' rfl (congrArg Bool.not (decide_eq_true h86)) ?_
                              refine JC.skip ?_
                              exact QJ.cut_normal ((y75.2.2, d81), ()) hm [0, 1, 2, 3, 4] (by exact ⟨rfl, rfl, rfl, rfl, rfl, rfl, trivial⟩) rfl rfl
                            ·
                              refine JC.condT' rfl (congrArg Bool.not (decide_eq_false h86)) ?_
                              refine JC.seq ?_
                              refine JC.region ?_
                              refine JL.val (v := .bool false) (QV.assign rfl) rfl rfl rfl ?_
                              refine JL.nil ?_
                              refine QJ.then_normal ?_
                              refine JC.ret ?_
                              refine QJ.cut_ret ?_
                              refine QJ.cut_ret ?_
                              refine QJ.cut_ret ?_
                              refine QJ.block_ret ?_
                              refine QJ.then_ret ?_
                              refine QJ.block_ret ?_
                              refine QJ.then_ret ?_
                              obtain rfl := Option.some.inj hm
                              refine QJ.round_ret (fun hy => ?_)
                              subst hy
                              refine QJ.block_ret ?_
                              refine QJ.cut_ret ?_
                              refine QJ.then_ret ?_
                              obtain rfl := Option.some.inj hmo32
                              exact QJ.body (vs := [.bool false]) (.inl rfl) rfl (ResVs.cons (ResV.tmp rfl) ResVs.nil) [] rfl rfl (.inr trivial) ⟨rfl, rfl⟩
                          ·
                            refine JL.val (v := .bool true) (QV.eq (QV.move rfl) (congrArg Value.bool (congrArg Bool.not (decide_eq_false h85)))) rfl rfl rfl ?_
                            refine JL.skip (d := some 157) rfl rfl rfl ?_
                            refine JL.skip (d := some 158) rfl rfl rfl ?_
                            refine JL.skip (d := some 159) rfl rfl rfl ?_
                            refine JL.val (v := .bool true) (QV.pickT rfl rfl) rfl rfl rfl ?_
                            refine JL.nil ?_
                            refine QJ.then_normal ?_
                            refine JC.condT rfl ?_
                            refine JC.seq ?_
                            refine JC.region ?_
                            refine JL.val (v := .bool false) (QV.assign rfl) rfl rfl rfl ?_
                            refine JL.nil ?_
                            refine QJ.then_normal ?_
                            refine JC.ret ?_
                            refine QJ.cut_ret ?_
                            refine QJ.cut_ret ?_
                            refine QJ.cut_ret ?_
                            refine QJ.block_ret ?_
                            refine QJ.then_ret ?_
                            refine QJ.block_ret ?_
                            refine QJ.then_ret ?_
                            obtain rfl := Option.some.inj hm
                            refine QJ.round_ret (fun hy => ?_)
                            subst hy
                            refine QJ.block_ret ?_
                            refine QJ.cut_ret ?_
                            refine QJ.then_ret ?_
                            obtain rfl := Option.some.inj hmo32
                            exact QJ.body (vs := [.bool false]) (.inl rfl) rfl (ResVs.cons (ResV.tmp rfl) ResVs.nil) [] rfl rfl (.inr trivial) ⟨rfl, rfl⟩
                        ·
                          rcases ite_inv hm with ⟨h87, hm⟩ | ⟨h87, hm⟩
                          ·
                            refine JC.condT' rfl (decide_eq_true h87) ?_
                            refine JC.region ?_
                            refine JL.val (v := .int .i64 (1 : Int)) (QV.assign rfl) rfl rfl rfl ?_
                            refine JL.nil ?_
                            refine QJ.ent (fun _ hs => hs.share 0 rfl) ?_
                            exact QJ.cut_normal ((y78, ([] : List Int), (1 : Int)), z80) hm [4, 5, 2, 3, 6, 1, 0] (by exact ⟨rfl, rfl, rfl, rfl, rfl, rfl, rfl, rfl, rfl, rfl, trivial⟩) rfl rfl
                          ·
                            refine JC.condF' rfl (decide_eq_false h87) ?_
                            refine JC.seq ?_
                            refine JC.region ?_
                            refine JL.val (v := .pointer (some ⟨b36, 1, none⟩)) (QV.fieldB fo_44_1 rfl rfl) rfl rfl rfl ?_
                            refine JL.val (v := .int .i64 (gd x4 d26).2.1) (QV.load1 (ss := [Seg.c (.int .i64 (gd x4 d26).1), Seg.c (.int .i64 (gd x4 d26).2.1), Seg.c (.int .u32 (gd x4 d26).2.2.1), Seg.c ((gd z5 d26).2.2.2.v)]) 8 1 rfl tk_3 rfl rfl rfl) rfl rfl rfl ?_
                            refine JL.val (v := z21.v) (QV.move rfl) rfl rfl rfl ?_
                            refine JL.val (v := .int .i64 ((y19).length : Int)) (QV.len (Rdg.of 6 rfl) Try.underlying26 rfl) rfl rfl rfl ?_
                            refine JL.val (v := .int .i64 y78) (QV.move rfl) rfl rfl rfl ?_
                            refine JL.val (v := .int .i64 (IntKind.wrap .i64 (((y19).length : Int) - y78))) (QV.sub rfl rfl) rfl rfl rfl ?_
                            refine JL.val (v := .int .i64 (IntKind.wrap .i64 (Int.tdiv (IntKind.wrap .i64 (((y19).length : Int) - y78)) (8 : Int)))) (QV.quo rfl rfl (by decide)) rfl rfl rfl ?_
                            refine JL.val (v := .bool (decide ((IntKind.wrap .i64 (Int.tdiv (IntKind.wrap .i64 (((y19).length : Int) - y78)) (8 : Int))) < (gd x4 d26).2.1))) (QV.gtr rfl rfl) rfl rfl rfl ?_
                            refine JL.nil ?_
                            refine QJ.then_normal ?_
                            refine JC.cutK (Y := (Int × List Int × Int) × SlV) (fun y => match y with | ((d88, d90, d91), _) => F9.j9 y15 y19 d26 y75 (d88) (d90) (d91) = some s33) (fun y => match y with | ((d88, d90, d91), z89) => [(0, s1.v), (1, s3.v), (5, .pointer (some ⟨b17, 0, none⟩)), (6, z21.v), (7, .int .i64 d88), (8, .int .i64 d26), (14, z77.v), (15, .int .i64 y75.2.1), (16, z89.v), (17, .int .i64 d91)]) (fun y => match y with | ((d88, d90, d91), z89) => [Asr.vw (Enc.int .u8) (s1.v) x2, Asr.vn (NE.pair (NE.flat (Enc.int .i64)) (NE.pair (NE.flat (Enc.int .i64)) (NE.pair (NE.flat (Enc.int .u32)) (NE.sl (Enc.int .u8))))) (s3.v) z5 x4, Asr.of 5 (Enc.int .u8) (z18.v) y15, Asr.blk b17 101 [Seg.c (z18.v), Seg.c (.int .i64 y75.2.2)], Asr.of 5 (Enc.int .u8) (z21.v) y19, Asr.of 5 (Enc.int .u8) (z77.v) y75.1, Asr.vw (Enc.int .u8) (z89.v) d90]) ?_ ?_
                            ·
                              rintro ⟨⟨d88, d90, d91⟩, z89⟩ hm
                              unfold F9.j9 at hm
                              show QJ _ _ [(0, s1.v), (1, s3.v), (5, .pointer (some ⟨b17, 0, none⟩)), (6, z21.v), (7, .int .i64 d88), (8, .int .i64 d26), (14, z77.v), (15, .int .i64 y75.2.1), (16, z89.v), (17, .int .i64 d91)] [Asr.vw (Enc.int .u8) (s1.v) x2, Asr.vn (NE.pair (NE.flat (Enc.int .i64)) (NE.pair (NE.flat (Enc.int .i64)) (NE.pair (NE.flat (Enc.int .u32)) (NE.sl (Enc.int .u8))))) (s3.v) z5 x4, Asr.of 5 (Enc.int .u8) (z18.v) y15, Asr.blk b17 101 [Seg.c (z18.v), Seg.c (.int .i64 y75.2.2)], Asr.of 5 (Enc.int .u8) (z21.v) y19, Asr.of 5 (Enc.int .u8) (z77.v) y75.1, Asr.vw (Enc.int .u8) (z89.v) d90] _ _
                              exact QJ.cut_normal ((d88, d90, d91), z89) hm [0, 1, 2, 3, 4, 5, 6] (by exact ⟨rfl, rfl, rfl, rfl, rfl, rfl, rfl, rfl, rfl, rfl, trivial⟩) rfl rfl
                            ·
                              rcases ite_inv hm with ⟨h92, hm⟩ | ⟨h92, hm⟩
                              ·
                                refine JC.condT' rfl (decide_eq_true h92) ?_
                                refine JC.region ?_
                                refine JL.val (v := .int .i64 (2 : Int)) (QV.assign rfl) rfl rfl rfl ?_
                                refine JL.nil ?_
                                refine QJ.ent (fun _ hs => hs.share 0 rfl) ?_
                                exact QJ.cut_normal ((y78, ([] : List Int), (2 : Int)), z80) hm [4, 5, 2, 3, 6, 1, 0] (by exact ⟨rfl, rfl, rfl, rfl, rfl, rfl, rfl, rfl, rfl, rfl, trivial⟩) rfl rfl
                              ·
                                refine JC.condF' rfl (decide_eq_false h92) ?_
                                refine JC.seq ?_
                                refine JC.region ?_
                                refine JL.val (v := s1.v) (QV.move rfl) rfl rfl rfl ?_
                                refine JL.val (v := .int .i64 y78) (QV.move rfl) rfl rfl rfl ?_
                                refine JL.val (v := .int .i64 (IntKind.wrap .i64 (Int.tdiv y78 (8 : Int)))) (QV.quo rfl rfl (by decide)) rfl rfl rfl ?_
                                refine JL.val (v := .int .i64 y78) (QV.move rfl) rfl rfl rfl ?_
                                refine JL.val (v := .int .i64 (IntKind.wrap .i64 (Int.tdiv y78 (8 : Int)))) (QV.quo rfl rfl (by decide)) rfl rfl rfl ?_
                                refine JL.val (v := .pointer (some ⟨b36, 1, none⟩)) (QV.fieldB fo_44_1 rfl rfl) rfl rfl rfl ?_
                                refine JL.val (v := .int .i64 (gd x4 d26).2.1) (QV.load1 (ss := [Seg.c (.int .i64 (gd x4 d26).1), Seg.c (.int .i64 (gd x4 d26).2.1), Seg.c (.int .u32 (gd x4 d26).2.2.1), Seg.c ((gd z5 d26).2.2.2.v)]) 8 1 rfl tk_3 rfl rfl rfl) rfl rfl rfl ?_
                                refine JL.val (v := .int .i64 (IntKind.wrap .i64 ((IntKind.wrap .i64 (Int.tdiv y78 (8 : Int))) + (gd x4 d26).2.1))) (QV.add rfl rfl) rfl rfl rfl ?_
                                obtain ⟨h93, hm⟩ := guard_inv hm
                                refine JL.val (v := (SlV.sub ((Enc.int .u8)).sz s1 (IntKind.wrap .i64 (Int.tdiv y78 (8 : Int))) (IntKind.wrap .i64 ((IntKind.wrap .i64 (Int.tdiv y78 (8 : Int))) + (gd x4 d26).2.1))).v) (QV.sliceV (Rdg.vw 4 rfl) Try.underlying26 tk_5 rfl rfl rfl h93) rfl rfl rfl ?_
                                refine JL.val (v := (SlV.sub ((Enc.int .u8)).sz s1 (IntKind.wrap .i64 (Int.tdiv y78 (8 : Int))) (IntKind.wrap .i64 ((IntKind.wrap .i64 (Int.tdiv y78 (8 : Int))) + (gd x4 d26).2.1))).v) (QV.assign rfl) rfl rfl rfl ?_
                                refine JL.nil ?_
                                refine QJ.ent (fun _ hs => hs.derive ((Drv.vw 4 rfl).subV h93)) ?_
                                refine QJ.then_normal ?_
                                refine JC.region ?_
                                refine JL.val (v := .int .i64 y78) (QV.move rfl) rfl rfl rfl ?_
                                refine JL.val (v := .pointer (some ⟨b36, 1, none⟩)) (QV.fieldB fo_44_1 rfl rfl) rfl rfl rfl ?_
                                refine JL.val (v := .int .i64 (gd x4 d26).2.1) (QV.load1 (ss := [Seg.c (.int .i64 (gd x4 d26).1), Seg.c (.int .i64 (gd x4 d26).2.1), Seg.c (.int .u32 (gd x4 d26).2.2.1), Seg.c ((gd z5 d26).2.2.2.v)]) 9 1 rfl tk_3 rfl rfl rfl) rfl rfl rfl ?_
                                refine JL.val (v := .int .i64 (IntKind.wrap .i64 ((8 : Int) * (gd x4 d26).2.1))) (QV.mul rfl rfl) rfl rfl rfl ?_
                                refine JL.val (v := .int .i64 (IntKind.wrap .i64 (y78 + (IntKind.wrap .i64 ((8 : Int) * (gd x4 d26).2.1))))) (QV.add rfl rfl) rfl rfl rfl ?_
                                refine JL.val (v := .int .i64 (IntKind.wrap .i64 (y78 + (IntKind.wrap .i64 ((8 : Int) * (gd x4 d26).2.1))))) (QV.assign rfl) rfl rfl rfl ?_
                                refine JL.nil ?_
                                exact QJ.cut_normal (((IntKind.wrap .i64 (y78 + (IntKind.wrap .i64 ((8 : Int) * (gd x4 d26).2.1)))), (subL x2 (IntKind.wrap .i64 (Int.tdiv y78 (8 : Int))) (IntKind.wrap .i64 ((IntKind.wrap .i64 (Int.tdiv y78 (8 : Int))) + (gd x4 d26).2.1))), (0 : Int)), (SlV.sub ((Enc.int .u8)).sz s1 (IntKind.wrap .i64 (Int.tdiv y78 (8 : Int))) (IntKind.wrap .i64 ((IntKind.wrap .i64 (Int.tdiv y78 (8 : Int))) + (gd x4 d26).2.1)))) hm [5, 6, 3, 4, 7, 2, 0] (by exact ⟨rfl, rfl, rfl, rfl, rfl, rfl, rfl, rfl, rfl, rfl, trivial⟩) rfl rfl
                      ·
                        refine JC.condF' rfl (decide_eq_false h74) ?_
                        refine JC.seq ?_
                        refine JC.region ?_
                        refine JL.val (v := .pointer (some ⟨b17, 0, none⟩)) (QV.move rfl) rfl rfl rfl ?_
                        refine JL.val (v := .pointer (some ⟨b36, 1, none⟩)) (QV.fieldB fo_44_1 rfl rfl) rfl rfl rfl ?_
                        refine JL.val (v := .int .i64 (gd x4 d26).2.1) (QV.load1 (ss := [Seg.c (.int .i64 (gd x4 d26).1), Seg.c (.int .i64 (gd x4 d26).2.1), Seg.c (.int .u32 (gd x4 d26).2.2.1), Seg.c ((gd z5 d26).2.2.2.v)]) 6 1 rfl tk_3 rfl rfl rfl) rfl rfl rfl ?_
                        obtain ⟨y94, hc95, hm⟩ := bind_inv hm
                        refine JL.mv (d := some 46) (MV.call (Lo := [Asr.blk b17 101 [Seg.c (z18.v), Seg.c (.int .i64 d24)], Asr.of 5 (Enc.int .u8) (z18.v) y15]) (Lr := [Asr.vw (Enc.int .u8) (s1.v) x2, Asr.vn (NE.pair (NE.flat (Enc.int .i64)) (NE.pair (NE.flat (Enc.int .i64)) (NE.pair (NE.flat (Enc.int .u32)) (NE.sl (Enc.int .u8))))) (s3.v) z5 x4, Asr.of 5 (Enc.int .u8) (z21.v) y19, Asr.vw (Enc.int .u8) ((gd z5 d26).2.2.2.v) (gd x4 d26).2.2.2, Asr.blk b36 44 [Seg.c (.int .i64 (gd x4 d26).1), Seg.c (.int .i64 (gd x4 d26).2.1), Seg.c (.int .u32 (gd x4 d26).2.2.1), Seg.c ((gd z5 d26).2.2.2.v)]]) (F45.spec (b17) (z18) (y15) (d24) ((gd x4 d26).2.1) _ hc95) rfl Try.func45 rfl rfl rfl [3, 2] [0, 1, 4, 5, 6] rfl rfl rfl trivial) rfl rfl rfl ?_
                        rintro _ _ ⟨_, ⟨rfl, rfl⟩, rfl⟩
                        refine JL.val (v := .int .i64 y94.1) (QV.assign rfl) rfl rfl rfl ?_
                        refine JL.nil ?_
                        refine QJ.then_normal ?_
                        refine JC.seq ?_
                        refine JC.region ?_
                        refine JL.val (v := .pointer (some ⟨b36, 1, none⟩)) (QV.fieldB fo_44_1 rfl rfl) rfl rfl rfl ?_
                        refine JL.val (v := .int .i64 (gd x4 d26).2.1) (QV.load1 (ss := [Seg.c (.int .i64 (gd x4 d26).1), Seg.c (.int .i64 (gd x4 d26).2.1), Seg.c (.int .u32 (gd x4 d26).2.2.1), Seg.c ((gd z5 d26).2.2.2.v)]) 6 1 rfl tk_3 rfl rfl rfl) rfl rfl rfl ?_
                        refine JL.val (v := .bool (decide ((gd x4 d26).2.1 < (0 : Int)))) (QV.lss rfl rfl) rfl rfl rfl ?_
                        rcases ite_inv hm with ⟨h96, hm⟩ | ⟨h96, hm⟩
                        ·
                          refine JL.val (v := .bool true) (QV.eq (QV.move rfl) (congrArg Value.bool (decide_eq_true h96))) rfl rfl rfl ?_
                          refine JL.skip (d := some 51) rfl rfl rfl ?_
                          refine JL.skip (d := some 52) rfl rfl rfl ?_
                          refine JL.skip (d := some 53) rfl rfl rfl ?_
                          refine JL.skip (d := some 54) rfl rfl rfl ?_
                          refine JL.skip (d := some 55) rfl rfl rfl ?_
                          refine JL.val (v := .bool true) (QV.pickT rfl rfl) rfl rfl rfl ?_
                          refine JL.nil ?_
                          refine QJ.then_normal ?_
                          refine JC.condT rfl ?_
                          refine JC.seq ?_
                          refine JC.region ?_
                          refine JL.val (v := .int .i64 y94.1) (QV.move rfl) rfl rfl rfl ?_
                          refine JL.val (v := .bool (!(decide (y94.1 = (5 : Int))))) (QV.neq rfl rfl) rfl rfl rfl ?_
                          refine JL.nil ?_
                          refine QJ.then_normal ?_
                          rcases ite_inv hm with ⟨h97, hm⟩ | ⟨h97, hm⟩
                          ·
                            refine JC.condF' rfl (congrArg Bool.not (decide_eq_true h97)) ?_
                            refine JC.skip ?_
                            exact QJ.cut_normal ((y94.2, d25), ()) hm [2, 3, 0, 1, 4] (by exact ⟨rfl, rfl, rfl, rfl, rfl, rfl, trivial⟩) rfl rfl
                          ·
                            refine JC.condT' rfl (congrArg Bool.not (decide_eq_false h97)) ?_
                            refine JC.seq ?_
                            refine JC.region ?_
                            refine JL.val (v := .bool false) (QV.assign rfl) rfl rfl rfl ?_
                            refine JL.nil ?_
                            refine QJ.then_normal ?_
                            refine JC.ret ?_
                            refine QJ.cut_ret ?_
                            refine QJ.cut_ret ?_
                            refine QJ.cut_ret ?_
                            refine QJ.block_ret ?_
                            refine QJ.then_ret ?_
                            refine QJ.block_ret ?_
                            refine QJ.then_ret ?_
                            obtain rfl := Option.some.inj hm
                            refine QJ.round_ret (fun hy => ?_)
                            subst hy
                            refine QJ.block_ret ?_
                            refine QJ.cut_ret ?_
                            refine QJ.then_ret ?_
                            obtain rfl := Option.some.inj hmo32
                            exact QJ.body (vs := [.bool false]) (.inl rfl) rfl (ResVs.cons (ResV.tmp rfl) ResVs.nil) [] rfl rfl (.inr trivial) ⟨rfl, rfl⟩
                        ·
                          refine JL.val (v := .bool false) (QV.eq (QV.move rfl) (congrArg Value.bool (decide_eq_false h96))) rfl rfl rfl ?_
                          refine JL.val (v := .pointer (some ⟨b36, 1, none⟩)) (QV.fieldB fo_44_1 rfl rfl) rfl rfl rfl ?_
                          refine JL.val (v := .int .i64 (gd x4 d26).2.1) (QV.load1 (ss := [Seg.c (.int .i64 (gd x4 d26).1), Seg.c (.int .i64 (gd x4 d26).2.1), Seg.c (.int .u32 (gd x4 d26).2.2.1), Seg.c ((gd z5 d26).2.2.2.v)]) 6 1 rfl tk_3 rfl rfl rfl) rfl rfl rfl ?_
                          refine JL.val (v := z21.v) (QV.move rfl) rfl rfl rfl ?_
                          refine JL.val (v := .int .i64 ((y19).length : Int)) (QV.len (Rdg.of 4 rfl) Try.underlying26 rfl) rfl rfl rfl ?_
                          refine JL.val (v := .bool (decide (((y19).length : Int) < (gd x4 d26).2.1))) (QV.gtr rfl rfl) rfl rfl rfl ?_
                          refine JL.val (v := .bool (decide (((y19).length : Int) < (gd x4 d26).2.1))) (QV.pickF rfl rfl) rfl rfl rfl ?_
                          refine JL.nil ?_
                          refine QJ.then_normal ?_
                          refine JC.cutK (Y := Int × Unit) (fun y => match y with | (d98, _) => F9.j10 y15 y19 d26 y94 (d98) = some s33) (fun y => match y with | (d98, _) => [(0, s1.v), (1, s3.v), (5, .pointer (some ⟨b17, 0, none⟩)), (6, z21.v), (7, .int .i64 d98), (8, .int .i64 d26)]) (fun y => match y with | (d98, _) => [Asr.vw (Enc.int .u8) (s1.v) x2, Asr.vn (NE.pair (NE.flat (Enc.int .i64)) (NE.pair (NE.flat (Enc.int .i64)) (NE.pair (NE.flat (Enc.int .u32)) (NE.sl (Enc.int .u8))))) (s3.v) z5 x4, Asr.of 5 (Enc.int .u8) (z18.v) y15, Asr.blk b17 101 [Seg.c (z18.v), Seg.c (.int .i64 y94.2)], Asr.of 5 (Enc.int .u8) (z21.v) y19]) ?_ ?_
                          ·
                            rintro ⟨d98, ⟨⟩⟩ hm
                            unfold F9.j10 at hm
                            show QJ _ _ [(0, s1.v), (1, s3.v), (5, .pointer (some ⟨b17, 0, none⟩)), (6, z21.v), (7, .int .i64 d98), (8, .int .i64 d26)] [Asr.vw (Enc.int .u8) (s1.v) x2, Asr.vn (NE.pair (NE.flat (Enc.int .i64)) (NE.pair (NE.flat (Enc.int .i64)) (NE.pair (NE.flat (Enc.int .u32)) (NE.sl (Enc.int .u8))))) (s3.v) z5 x4, Asr.of 5 (Enc.int .u8) (z18.v) y15, Asr.blk b17 101 [Seg.c (z18.v), Seg.c (.int .i64 y94.2)], Asr.of 5 (Enc.int .u8) (z21.v) y19] _ _
                            exact QJ.cut_normal ((y94.2, d98), ()) hm [0, 1, 2, 3, 4] (by exact ⟨rfl, rfl, rfl, rfl, rfl, rfl, trivial⟩) rfl rfl
                          ·
                            rcases ite_inv hm with ⟨h99, hm⟩ | ⟨h99, hm⟩
                            ·
                              refine JC.condT' rfl (decide_eq_true h99) ?_
                              refine JC.seq ?_
                              refine JC.region ?_
                              refine JL.val (v := .int .i64 y94.1) (QV.move rfl) rfl rfl rfl ?_
                              refine JL.val (v := .bool (!(decide (y94.1 = (5 : Int))))) (QV.neq rfl rfl) rfl rfl rfl ?_
                              refine JL.nil ?_
                              refine QJ.then_normal ?_
                              rcases ite_inv hm with ⟨h100, hm⟩ | ⟨h100, hm⟩
                              ·
                                refine JC.condF' rfl (congrArg Bool.not (decide_eq_true h100)) ?_
                                refine JC.skip ?_
                                exact QJ.cut_normal (d25, ()) hm [2, 3, 0, 1, 4] (by exact ⟨rfl, rfl, rfl, rfl, rfl, rfl, trivial⟩) rfl rfl
                              ·
                                refine JC.condT' rfl (congrArg Bool.not (decide_eq_false h100)) ?_
                                refine JC.seq ?_
                                refine JC.region ?_
                                refine JL.val (v := .bool false) (QV.assign rfl) rfl rfl rfl ?_
                                refine JL.nil ?_
                                refine QJ.then_normal ?_
                                refine JC.ret ?_
                                refine QJ.cut_ret ?_
                                refine QJ.cut_ret ?_
                                refine QJ.cut_ret ?_
                                refine QJ.cut_ret ?_
                                refine QJ.block_ret ?_
                                refine QJ.then_ret ?_
                                refine QJ.block_ret ?_
                                refine QJ.then_ret ?_
                                obtain rfl := Option.some.inj hm
                                refine QJ.round_ret (fun hy => ?_)
                                subst hy
                                refine QJ.block_ret ?_
                                refine QJ.cut_ret ?_
                                refine QJ.then_ret ?_
                                obtain rfl := Option.some.inj hmo32
                                exact QJ.body (vs := [.bool false]) (.inl rfl) rfl (ResVs.cons (ResV.tmp rfl) ResVs.nil) [] rfl rfl (.inr trivial) ⟨rfl, rfl⟩
                            ·
                              refine JC.condF' rfl (decide_eq_false h99) ?_
                              refine JC.seq ?_
                              refine JC.region ?_
                              refine JL.val (v := .pointer (some ⟨b36, 1, none⟩)) (QV.fieldB fo_44_1 rfl rfl) rfl rfl rfl ?_
                              refine JL.val (v := .int .i64 (gd x4 d26).2.1) (QV.load1 (ss := [Seg.c (.int .i64 (gd x4 d26).1), Seg.c (.int .i64 (gd x4 d26).2.1), Seg.c (.int .u32 (gd x4 d26).2.2.1), Seg.c ((gd z5 d26).2.2.2.v)]) 6 1 rfl tk_3 rfl rfl rfl) rfl rfl rfl ?_
                              refine JL.val (v := .int .i64 (gd x4 d26).2.1) (QV.assign rfl) rfl rfl rfl ?_
                              refine JL.nil ?_
                              refine QJ.then_normal ?_
                              refine JC.seq ?_
                              refine JC.region ?_
                              refine JL.val (v := .int .i64 y94.1) (QV.move rfl) rfl rfl rfl ?_
                              refine JL.val (v := .bool (!(decide (y94.1 = (0 : Int))))) (QV.neq rfl rfl) rfl rfl rfl ?_
                              refine JL.nil ?_
                              refine QJ.then_normal ?_
                              rcases ite_inv hm with ⟨h101, hm⟩ | ⟨h101, hm⟩
                              ·
                                refine JC.condF' rfl (congrArg Bool.not (decide_eq_true h101)) ?_
                                refine JC.skip ?_
                                exact QJ.cut_normal ((gd x4 d26).2.1, ()) hm [2, 3, 0, 1, 4] (by exact ⟨rfl, rfl, rfl, rfl, rfl, rfl, trivial⟩) rfl rfl
                              ·
                                refine JC.condT' rfl (congrArg Bool.not (decide_eq_false h101)) ?_
                                refine JC.seq ?_
                                refine JC.region ?_
                                refine JL.val (v := .bool false) (QV.assign rfl) rfl rfl rfl ?_
                                refine JL.nil ?_
                                refine QJ.then_normal ?_
                                refine JC.ret ?_
                                refine QJ.cut_ret ?_
                                refine QJ.cut_ret ?_
                                refine QJ.cut_ret ?_
                                refine QJ.cut_ret ?_
                                refine QJ.block_ret ?_
                                refine QJ.then_ret ?_
                                refine QJ.block_ret ?_
                                refine QJ.then_ret ?_
                                obtain rfl := Option.some.inj hm
                                refine QJ.round_ret (fun hy => ?_)
                                subst hy
                                refine QJ.block_ret ?_
                                refine QJ.cut_ret ?_
                                refine QJ.then_ret ?_
                                obtain rfl := Option.some.inj hmo32
                                exact QJ.body (vs := [.bool false]) (.inl rfl) rfl (ResVs.cons (ResV.tmp rfl) ResVs.nil) [] rfl rfl (.inr trivial) ⟨rfl, rfl⟩
          ·
            rcases ite_inv hm with ⟨h102, hm⟩ | ⟨h102, hm⟩
            ·
              refine JC.condT' rfl (decide_eq_true h102) ?_
              refine JC.skip ?_
              exact QJ.cut_normal ((decide ((gd x4 d26).1 = (0 : Int))), ()) hm [3, 4, 5, 6, 7, 0, 1] (by exact ⟨rfl, rfl, rfl, rfl, rfl, rfl, rfl, rfl, rfl, trivial⟩) rfl rfl
            ·
              refine JC.condF' rfl (decide_eq_false h102) ?_
              refine JC.region ?_
              refine JL.val (v := .bool (decide ((gd x4 d26).1 = (1 : Int)))) (QV.eql rfl rfl) rfl rfl rfl ?_
              refine JL.val (v := .bool (decide ((gd x4 d26).1 = (1 : Int)))) (QV.assign rfl) rfl rfl rfl ?_
              refine JL.nil ?_
              exact QJ.cut_normal ((decide ((gd x4 d26).1 = (1 : Int))), ()) hm [3, 4, 5, 6, 7, 0, 1] (by exact ⟨rfl, rfl, rfl, rfl, rfl, rfl, rfl, rfl, rfl, trivial⟩) rfl rfl
        ·
          refine JC.condF' rfl (decide_eq_false h34) ?_
          refine JC.exit ?_
          refine QJ.then_exit ?_
          obtain rfl := Option.some.inj hm
          refine QJ.round_exit (fun hy => ?_)
          subst hy
          refine QJ.block_hit ?_
          exact QJ.cut_normal ((), ()) hmo32 [] trivial rfl rfl

end Go.Proofs.Ytpophpendlnehaa
