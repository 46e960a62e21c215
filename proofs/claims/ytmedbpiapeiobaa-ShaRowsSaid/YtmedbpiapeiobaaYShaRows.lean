/- Written by gen.py: functions and their contracts. -/
import Derived.Test.YtmedbpiapeiobaaSha
namespace Go.Proofs.Ytmedbpiapeiobaa
open Go Go.Eng Go.Proofs
set_option linter.unusedVariables false
set_option linter.unusedSimpArgs false
/-! ### 38: drogher/drogherref01.Great -/
noncomputable def F38.j1   : Option Bool :=
  some false
noncomputable def F38.b1 (x2 : List (List Int)) : Int → Option (Int ⊕ ((Bool) ⊕ Unit))
  | d6 => (if d6 < ((x2).length : Int) then (if 0 ≤ d6 ∧ d6 < ((x2).length : Int) then (if (400 : Int) < (((gd x2 d6)).length : Int) then some (.inr (.inl (true))) else some (.inl (IntKind.wrap .i64 (d6 + (1 : Int))))) else none) else some (.inr (.inr (()))))
noncomputable def F38.m (x2 : List (List Int)) : Option Bool :=
  (if (60 : Int) < ((x2).length : Int) then some true else ((loop (F38.b1 x2) (0 : Int)).bind fun y => match y with | .inl r => some r | .inr _ => F38.j1))
set_option maxRecDepth 100000 in
set_option maxHeartbeats 4000000 in
theorem F38.spec (s1 : SlV) (z3 : List SlV) (x2 : List (List Int)) (r : Bool) (hm : F38.m x2 = some r) :
    Ctr Try.prog false 38 [s1.v] [Asr.vn (NE.sl (Enc.int .u8)) (s1.v) z3 x2] (fun v L' => v = .bool r ∧ L' = []) := by
  refine Ctr.intro (n := 19) (env := [(0, s1.v)]) Try.func38 rfl rfl rfl rfl (fun c => ?_)
  unfold F38.m at hm
  refine JC.seq ?_
  refine JC.region ?_
  refine JL.val (v := .bool false) (QV.assign rfl) rfl rfl rfl ?_
  refine JL.nil ?_
  refine QJ.then_normal ?_
  refine JC.seq ?_
  refine JC.seq ?_
  refine JC.region ?_
  refine JL.val (v := s1.v) (QV.move rfl) rfl rfl rfl ?_
  refine JL.val (v := .int .i64 ((x2).length : Int)) (QV.lenN (RdN.vn 0 rfl) Try.underlying50 rfl) rfl rfl rfl ?_
  refine JL.val (v := .bool (decide ((60 : Int) < ((x2).length : Int)))) (QV.gtr rfl rfl) rfl rfl rfl ?_
  refine JL.nil ?_
  refine QJ.then_normal ?_
  rcases ite_inv hm with ⟨h5, hm⟩ | ⟨h5, hm⟩
  ·
    refine JC.condT' rfl (decide_eq_true h5) ?_
    refine JC.seq ?_
    refine JC.region ?_
    refine JL.val (v := .bool true) (QV.assign rfl) rfl rfl rfl ?_
    refine JL.nil ?_
    refine QJ.then_normal ?_
    refine JC.ret ?_
    refine QJ.then_ret ?_
    obtain rfl := Option.some.inj hm
    exact QJ.body (vs := [.bool true]) (.inl rfl) rfl (ResVs.cons (ResV.tmp rfl) ResVs.nil) [] rfl rfl (.inr trivial) ⟨rfl, rfl⟩
  ·
    refine JC.condF' rfl (decide_eq_false h5) ?_
    refine JC.skip ?_
    refine QJ.then_normal ?_
    refine JC.seq ?_
    refine JC.seq ?_
    refine JC.region ?_
    refine JL.val (v := s1.v) (QV.move rfl) rfl rfl rfl ?_
    refine JL.val (v := .int .i64 ((x2).length : Int)) (QV.lenN (RdN.vn 0 rfl) Try.underlying50 rfl) rfl rfl rfl ?_
    refine JL.val (v := .int .i64 (0 : Int)) (QV.move rfl) rfl rfl rfl ?_
    refine JL.nil ?_
    refine QJ.then_normal ?_
    refine JC.cutK (Y := Unit × Unit) (fun y => match y with | (_, _) => F38.j1 = some r) (fun y => match y with | (_, _) => []) (fun y => match y with | (_, _) => []) ?_ ?_
    ·
      rintro ⟨⟨⟩, ⟨⟩⟩ hm
      unfold F38.j1 at hm
      show QJ _ _ [] [] _ _
      refine QJ.then_normal ?_
      refine JC.seq ?_
      refine JC.region ?_
      refine JL.val (v := .bool false) (QV.assign rfl) rfl rfl rfl ?_
      refine JL.nil ?_
      refine QJ.then_normal ?_
      refine JC.ret ?_
      obtain rfl := Option.some.inj hm
      exact QJ.body (vs := [.bool false]) (.inl rfl) rfl (ResVs.cons (ResV.tmp rfl) ResVs.nil) [] rfl rfl (.inr trivial) ⟨rfl, rfl⟩
    ·
      refine JC.block ?_
      obtain ⟨y8, hl9, hmo10⟩ := bind_inv hm
      refine JC.loop (F38.b1 x2) (fun x z => match x, z with | d6, _ => [(0, s1.v), (8, .int .i64 ((x2).length : Int)), (9, .int .i64 d6)]) (fun x z => match x, z with | d6, _ => [Asr.vn (NE.sl (Enc.int .u8)) (s1.v) z3 x2]) (0 : Int) () y8 hl9 [0] (by exact ⟨rfl, rfl, rfl, trivial⟩) rfl rfl ?_
      rintro d6 ⟨⟩ s11 hm
      unfold F38.b1 at hm
      dsimp only at hm
      show JC _ _ _ [(0, s1.v), (8, .int .i64 ((x2).length : Int)), (9, .int .i64 d6)] [Asr.vn (NE.sl (Enc.int .u8)) (s1.v) z3 x2] _ _
      refine JC.seq ?_
      refine JC.region ?_
      refine JL.val (v := .bool (decide (d6 < ((x2).length : Int)))) (QV.lss rfl rfl) rfl rfl rfl ?_
      refine JL.nil ?_
      refine QJ.then_normal ?_
      refine JC.seq ?_
      rcases ite_inv hm with ⟨h12, hm⟩ | ⟨h12, hm⟩
      ·
        refine JC.condT' rfl (decide_eq_true h12) ?_
        refine JC.skip ?_
        refine QJ.then_normal ?_
        refine JC.seq ?_
        refine JC.block ?_
        refine JC.seq ?_
        refine JC.region ?_
        refine JL.val (v := .int .i64 d6) (QV.move rfl) rfl rfl rfl ?_
        refine JL.val (v := .int .i64 d6) (QV.assign rfl) rfl rfl rfl ?_
        refine JL.nil ?_
        refine QJ.then_normal ?_
        refine JC.seq ?_
        refine JC.region ?_
        refine JL.val (v := s1.v) (QV.move rfl) rfl rfl rfl ?_
        refine JL.val (v := .int .i64 d6) (QV.move rfl) rfl rfl rfl ?_
        obtain ⟨h13, hm⟩ := guard_inv hm
        refine JL.val (v := .pointer (some (elA (s1.v) (Int.toNat d6 * ((NE.sl (Enc.int .u8)).E).sz)))) (QV.indexN (RdN.vn 0 rfl) Try.underlying50 tk_22 rfl rfl h13) rfl rfl rfl ?_
        refine JL.val (v := (gd z3 d6).v) (QV.el1N (RdN.vn 0 rfl) tk_22 rfl h13 rfl) rfl rfl rfl ?_
        refine JL.val (v := .int .i64 (((gd x2 d6)).length : Int)) (QV.len (Rdg.ofDrv (Drv.el (K := (NE.sl (Enc.int .u8))) (A := Asr.vw (Enc.int .u8) ((gd z3 d6).v) (gd x2 d6)) (Drv.vn 0 rfl) h13 (fun _ _ q => q))) Try.underlying22 rfl) rfl rfl rfl ?_
        refine JL.val (v := .bool (decide ((400 : Int) < (((gd x2 d6)).length : Int)))) (QV.gtr rfl rfl) rfl rfl rfl ?_
        refine JL.nil ?_
        refine QJ.then_normal ?_
        rcases ite_inv hm with ⟨h14, hm⟩ | ⟨h14, hm⟩
        ·
          refine JC.condT' rfl (decide_eq_true h14) ?_
          refine JC.seq ?_
          refine JC.region ?_
          refine JL.val (v := .bool true) (QV.assign rfl) rfl rfl rfl ?_
          refine JL.nil ?_
          refine QJ.then_normal ?_
          refine JC.ret ?_
          refine QJ.block_ret ?_
          refine QJ.then_ret ?_
          obtain rfl := Option.some.inj hm
          refine QJ.round_ret (fun hy => ?_)
          subst hy
          refine QJ.block_ret ?_
          refine QJ.cut_ret ?_
          refine QJ.then_ret ?_
          obtain rfl := Option.some.inj hmo10
          exact QJ.body (vs := [.bool true]) (.inl rfl) rfl (ResVs.cons (ResV.tmp rfl) ResVs.nil) [] rfl rfl (.inr trivial) ⟨rfl, rfl⟩
        ·
          refine JC.condF' rfl (decide_eq_false h14) ?_
          refine JC.skip ?_
          refine QJ.block_normal ?_
          refine QJ.then_normal ?_
          refine JC.region ?_
          refine JL.val (v := .int .i64 (IntKind.wrap .i64 (d6 + (1 : Int)))) (QV.add rfl rfl) rfl rfl rfl ?_
          refine JL.val (v := .int .i64 (IntKind.wrap .i64 (d6 + (1 : Int)))) (QV.move rfl) rfl rfl rfl ?_
          refine JL.nil ?_
          obtain rfl := Option.some.inj hm
          exact QJ.round_on (IntKind.wrap .i64 (d6 + (1 : Int))) () [0] (by exact ⟨rfl, rfl, rfl, trivial⟩) rfl rfl
      ·
        refine JC.condF' rfl (decide_eq_false h12) ?_
        refine JC.exit ?_
        refine QJ.then_exit ?_
        obtain rfl := Option.some.inj hm
        refine QJ.round_exit (fun hy => ?_)
        subst hy
        refine QJ.block_hit ?_
        exact QJ.cut_normal ((), ()) hmo10 [] trivial rfl rfl

/-! ### 39: (*drogher/sha.Hash).Len -/
noncomputable def F39.m (x2 : (Arr Int 8)) (x3 : (Arr Int 64)) (x4 : Int) (x5 : Int) : Option Unit :=
  some ()
set_option maxRecDepth 100000 in
set_option maxHeartbeats 4000000 in
theorem F39.spec (b1 : Nat) (x2 : (Arr Int 8)) (x3 : (Arr Int 64)) (x4 : Int) (x5 : Int) (r : Unit) (hm : F39.m x2 x3 x4 x5 = some r) :
    Ctr Try.prog false 39 [.pointer (some ⟨b1, 0, none⟩)] [Asr.blk b1 105 [Seg.of (Enc.arr 8 (Enc.int .u32)) x2, Seg.of (Enc.arr 64 (Enc.int .u8)) x3, Seg.c (.int .i64 x4), Seg.c (.int .u64 x5)]] (fun v L' => v = .int .u64 x5 ∧ L' = [Asr.blk b1 105 [Seg.of (Enc.arr 8 (Enc.int .u32)) x2, Seg.of (Enc.arr 64 (Enc.int .u8)) x3, Seg.c (.int .i64 x4), Seg.c (.int .u64 x5)]]) := by
  refine Ctr.intro (n := 9) (env := [(0, .pointer (some ⟨b1, 0, none⟩))]) Try.func39 rfl rfl rfl rfl (fun c => ?_)
  unfold F39.m at hm
  refine JC.seq ?_
  refine JC.region ?_
  refine JL.val (v := .int .u64 (0 : Int)) (QV.assign rfl) rfl rfl rfl ?_
  refine JL.nil ?_
  refine QJ.then_normal ?_
  refine JC.seq ?_
  refine JC.seq ?_
  refine JC.region ?_
  refine JL.val (v := .pointer (some ⟨b1, 0, none⟩)) (QV.move rfl) rfl rfl rfl ?_
  refine JL.val (v := .bool false) ((QV.eq (QV.eqlP Try.underlying45 rfl rfl (.inr rfl)) (by simp))) rfl rfl rfl ?_
  refine JL.nil ?_
  refine QJ.then_normal ?_
  refine JC.condF rfl ?_
  refine JC.skip ?_
  refine QJ.then_normal ?_
  refine JC.seq ?_
  refine JC.region ?_
  refine JL.val (v := .pointer (some ⟨b1, 0, none⟩)) (QV.move rfl) rfl rfl rfl ?_
  refine JL.val (v := .pointer (some ⟨b1, 0, none⟩)) (QV.nilCheck rfl) rfl rfl rfl ?_
  refine JL.val (v := .pointer (some ⟨b1, 73, none⟩)) (QV.fieldB fo_105_3 rfl rfl) rfl rfl rfl ?_
  refine JL.val (v := .int .u64 x5) (QV.load1 (ss := [Seg.of (Enc.arr 8 (Enc.int .u32)) x2, Seg.of (Enc.arr 64 (Enc.int .u8)) x3, Seg.c (.int .i64 x4), Seg.c (.int .u64 x5)]) 0 3 rfl tk_28 rfl rfl rfl) rfl rfl rfl ?_
  refine JL.val (v := .int .u64 x5) (QV.assign rfl) rfl rfl rfl ?_
  refine JL.nil ?_
  refine QJ.then_normal ?_
  refine JC.ret ?_
  obtain rfl := Option.some.inj hm
  exact QJ.body (vs := [.int .u64 x5]) (.inl rfl) rfl (ResVs.cons (ResV.tmp rfl) ResVs.nil) [0] rfl rfl (.inr ⟨own_blk _ _ _, trivial⟩) ⟨rfl, rfl⟩

/-! ### 10: drogher/drogherlaw01.ShaRows -/
noncomputable def F10.j1 (x2 : List (List Int)) (d13 : (Arr Int 8)) (d14 : (Arr Int 64)) (d15 : Int) (d16 : Int) (d17 : Int) : Option Bool :=
  ((F36.m (d13) (d14) (d15) (d16)).bind fun y18 => ((F37.m (x2)).bind fun y20 => ((F33.m (y20)).bind fun y23 => (if y18 = y23 then ((F39.m (d13) (d14) (d15) (d16)).bind fun y26 => (if d16 = d17 then ((F31.m).bind fun y29 => some y29) else some false)) else some false))))
noncomputable def F10.j2 (x2 : List (List Int)) (d35 : Int) (d36 : Int) (d48 : (Arr Int 8)) (d49 : (Arr Int 64)) (d50 : Int) (d51 : Int) : Option (((Arr Int 8) × (Arr Int 64) × Int × Int × Int × Int) ⊕ ((Bool) ⊕ ((Arr Int 8) × (Arr Int 64) × Int × Int × Int))) :=
  some (.inl (d48, d49, d50, d51, (IntKind.wrap .u64 (d35 + (IntKind.wrap .u64 (((gd x2 d36)).length : Int)))), (IntKind.wrap .i64 (d36 + (1 : Int)))))
noncomputable def F10.b1 (x2 : List (List Int)) : ((Arr Int 8) × (Arr Int 64) × Int × Int × Int × Int) → Option (((Arr Int 8) × (Arr Int 64) × Int × Int × Int × Int) ⊕ ((Bool) ⊕ ((Arr Int 8) × (Arr Int 64) × Int × Int × Int)))
  | (d31, d32, d33, d34, d35, d36) => (if d36 < ((x2).length : Int) then (if 0 ≤ d36 ∧ d36 < ((x2).length : Int) then ((F35.m (d31) (d32) (d33) (d34) ((gd x2 d36))).bind fun y53 => ((F39.m (y53.1) (y53.2.1) (y53.2.2.1) (y53.2.2.2)).bind fun y55 => (if y53.2.2.2 = (IntKind.wrap .u64 (d35 + (IntKind.wrap .u64 (((gd x2 d36)).length : Int)))) then (if (Int.tmod d36 (8 : Int)) = (0 : Int) then (if 0 ≤ (0 : Int) ∧ (0 : Int) ≤ (IntKind.wrap .i64 (d36 + (1 : Int))) ∧ (IntKind.wrap .i64 (d36 + (1 : Int))) ≤ ((x2).length : Int) then ((F36.m (y53.1) (y53.2.1) (y53.2.2.1) (y53.2.2.2)).bind fun y60 => ((F37.m ((subL x2 (0 : Int) (IntKind.wrap .i64 (d36 + (1 : Int)))))).bind fun y62 => ((F32.m (y62)).bind fun y65 => (if y60 = y65 then F10.j2 x2 d35 d36 (y53.1) (y53.2.1) (y53.2.2.1) (y53.2.2.2) else some (.inr (.inl (false))))))) else none) else F10.j2 x2 d35 d36 (y53.1) (y53.2.1) (y53.2.2.1) (y53.2.2.2)) else some (.inr (.inl (false)))))) else none) else some (.inr (.inr ((d31, d32, d33, d34, d35)))))
noncomputable def F10.m (x2 : List (List Int)) : Option Bool :=
  ((F38.m (x2)).bind fun y5 => (if y5 = true then ((F31.m).bind fun y8 => some y8) else ((F34.m).bind fun y10 => ((loop (F10.b1 x2) (y10.1, y10.2, (0 : Int), (0 : Int), (0 : Int), (0 : Int))).bind fun y => match y with | .inl r => some r | .inr (d13, d14, d15, d16, d17) => F10.j1 x2 (d13) (d14) (d15) (d16) (d17)))))
set_option maxRecDepth 100000 in
set_option maxHeartbeats 4000000 in
theorem F10.spec (s1 : SlV) (z3 : List SlV) (x2 : List (List Int)) (r : Bool) (hm : F10.m x2 = some r) :
    Ctr Try.prog false 10 [s1.v] [Asr.vn (NE.sl (Enc.int .u8)) (s1.v) z3 x2] (fun v L' => v = .bool r ∧ L' = []) := by
  refine Ctr.intro (n := 65) (env := [(0, s1.v)]) Try.func10 rfl rfl rfl rfl (fun c => ?_)
  unfold F10.m at hm
  refine JC.seq ?_
  refine JC.region ?_
  refine JL.val (v := .bool false) (QV.assign rfl) rfl rfl rfl ?_
  refine JL.nil ?_
  refine QJ.then_normal ?_
  refine JC.seq ?_
  refine JC.seq ?_
  refine JC.region ?_
  refine JL.val (v := s1.v) (QV.move rfl) rfl rfl rfl ?_
  obtain ⟨y5, hc6, hm⟩ := bind_inv hm
  refine JL.mv (d := some 7) (MV.call (Lo := []) (Lr := [Asr.vn (NE.sl (Enc.int .u8)) (s1.v) z3 x2]) (F38.spec (s1) (z3) (x2) _ hc6) rfl Try.func38 rfl rfl rfl [] [0] rfl rfl rfl ⟨(Drv.vn 0 rfl), trivial⟩) rfl rfl rfl ?_
  rintro _ _ ⟨_, ⟨rfl, rfl⟩, rfl⟩
  refine JL.nil ?_
  refine QJ.then_normal ?_
  rcases ite_inv hm with ⟨h7, hm⟩ | ⟨h7, hm⟩
  ·
    refine JC.condT' rfl h7 ?_
    refine JC.seq ?_
    refine JC.region ?_
    obtain ⟨y8, hc9, hm⟩ := bind_inv hm
    refine JL.mv (d := some 8) (MV.call (Lo := []) (Lr := [Asr.vn (NE.sl (Enc.int .u8)) (s1.v) z3 x2]) (F31.spec _ hc9) rfl Try.func31 rfl rfl rfl [] [0] rfl rfl rfl trivial) rfl rfl rfl ?_
    rintro _ _ ⟨_, ⟨rfl, rfl⟩, rfl⟩
    refine JL.val (v := .bool y8) (QV.assign rfl) rfl rfl rfl ?_
    refine JL.nil ?_
    refine QJ.then_normal ?_
    refine JC.ret ?_
    refine QJ.then_ret ?_
    obtain rfl := Option.some.inj hm
    exact QJ.body (vs := [.bool y8]) (.inl rfl) rfl (ResVs.cons (ResV.tmp rfl) ResVs.nil) [] rfl rfl (.inr trivial) ⟨rfl, rfl⟩
  ·
    refine JC.condF' rfl (bfalse h7) ?_
    refine JC.skip ?_
    refine QJ.then_normal ?_
    refine JC.seq ?_
    refine JC.region ?_
    obtain ⟨y10, hc11, hm⟩ := bind_inv hm
    refine JL.mv (d := some 9) (MV.call (Lo := []) (Lr := [Asr.vn (NE.sl (Enc.int .u8)) (s1.v) z3 x2]) (F34.spec _ hc11) rfl Try.func34 rfl rfl rfl [] [0] rfl rfl rfl trivial) rfl rfl rfl ?_
    rintro _ _ ⟨_, ⟨b12, rfl, rfl⟩, rfl⟩
    refine JL.val (v := .pointer (some ⟨b12, 0, none⟩)) (QV.assign rfl) rfl rfl rfl ?_
    refine JL.nil ?_
    refine QJ.then_normal ?_
    refine JC.seq ?_
    refine JC.region ?_
    refine JL.val (v := .int .u64 (0 : Int)) (QV.assign rfl) rfl rfl rfl ?_
    refine JL.nil ?_
    refine QJ.then_normal ?_
    refine JC.seq ?_
    refine JC.seq ?_
    refine JC.region ?_
    refine JL.val (v := .int .i64 (0 : Int)) (QV.assign rfl) rfl rfl rfl ?_
    refine JL.nil ?_
    refine QJ.then_normal ?_
    refine JC.cutK (Y := ((Arr Int 8) × (Arr Int 64) × Int × Int × Int) × Unit) (fun y => match y with | ((d13, d14, d15, d16, d17), _) => F10.j1 x2 (d13) (d14) (d15) (d16) (d17) = some r) (fun y => match y with | ((d13, d14, d15, d16, d17), _) => [(0, s1.v), (3, .pointer (some ⟨b12, 0, none⟩)), (4, .int .u64 d17)]) (fun y => match y with | ((d13, d14, d15, d16, d17), _) => [Asr.vn (NE.sl (Enc.int .u8)) (s1.v) z3 x2, Asr.blk b12 105 [Seg.of (Enc.arr 8 (Enc.int .u32)) d13, Seg.of (Enc.arr 64 (Enc.int .u8)) d14, Seg.c (.int .i64 d15), Seg.c (.int .u64 d16)]]) ?_ ?_
    ·
      rintro ⟨⟨d13, d14, d15, d16, d17⟩, ⟨⟩⟩ hm
      unfold F10.j1 at hm
      show QJ _ _ [(0, s1.v), (3, .pointer (some ⟨b12, 0, none⟩)), (4, .int .u64 d17)] [Asr.vn (NE.sl (Enc.int .u8)) (s1.v) z3 x2, Asr.blk b12 105 [Seg.of (Enc.arr 8 (Enc.int .u32)) d13, Seg.of (Enc.arr 64 (Enc.int .u8)) d14, Seg.c (.int .i64 d15), Seg.c (.int .u64 d16)]] _ _
      refine QJ.then_normal ?_
      refine JC.seq ?_
      refine JC.region ?_
      refine JL.val (v := .pointer (some ⟨b12, 0, none⟩)) (QV.move rfl) rfl rfl rfl ?_
      obtain ⟨y18, hc19, hm⟩ := bind_inv hm
      refine JL.mv (d := some 51) (MV.call (Lo := [Asr.blk b12 105 [Seg.of (Enc.arr 8 (Enc.int .u32)) d13, Seg.of (Enc.arr 64 (Enc.int .u8)) d14, Seg.c (.int .i64 d15), Seg.c (.int .u64 d16)]]) (Lr := [Asr.vn (NE.sl (Enc.int .u8)) (s1.v) z3 x2]) (F36.spec (b12) (d13) (d14) (d15) (d16) _ hc19) rfl Try.func36 rfl rfl rfl [1] [0] rfl rfl rfl trivial) rfl rfl rfl ?_
      rintro _ _ ⟨_, ⟨rfl, rfl⟩, rfl⟩
      refine JL.val (v := s1.v) (QV.move rfl) rfl rfl rfl ?_
      obtain ⟨y20, hc21, hm⟩ := bind_inv hm
      refine JL.mv (d := some 53) (MV.call (Lo := []) (Lr := [Asr.blk b12 105 [Seg.of (Enc.arr 8 (Enc.int .u32)) d13, Seg.of (Enc.arr 64 (Enc.int .u8)) d14, Seg.c (.int .i64 d15), Seg.c (.int .u64 d16)], Asr.vn (NE.sl (Enc.int .u8)) (s1.v) z3 x2]) (F37.spec (s1) (z3) (x2) _ hc21) rfl Try.func37 rfl rfl rfl [] [0, 1] rfl rfl rfl ⟨(Drv.vn 1 rfl), trivial⟩) rfl rfl rfl ?_
      rintro _ _ ⟨_, ⟨z22, rfl, rfl⟩, rfl⟩
      obtain ⟨y23, hc24, hm⟩ := bind_inv hm
      refine JL.mv (d := some 54) (MV.call (Lo := []) (Lr := [Asr.of 5 (Enc.int .u8) (z22.v) y20, Asr.blk b12 105 [Seg.of (Enc.arr 8 (Enc.int .u32)) d13, Seg.of (Enc.arr 64 (Enc.int .u8)) d14, Seg.c (.int .i64 d15), Seg.c (.int .u64 d16)], Asr.vn (NE.sl (Enc.int .u8)) (s1.v) z3 x2]) (F33.spec (z22) (y20) _ hc24) rfl Try.func33 rfl rfl rfl [] [0, 1, 2] rfl rfl rfl ⟨(Drv.of 0 rfl), trivial⟩) rfl rfl rfl ?_
      rintro _ _ ⟨_, ⟨rfl, rfl⟩, rfl⟩
      refine JL.val (v := .bool (decide (y18 = y23))) (QV.eqlE (E := (Enc.arr 32 (Enc.int .u8))) (a := y18) (b := y23) zeq_41 (by kernel_rfl) rfl rfl) rfl rfl rfl ?_
      rcases ite_inv hm with ⟨h25, hm⟩ | ⟨h25, hm⟩
      ·
        refine JL.val (v := .bool true) (QV.eq (QV.move rfl) (congrArg Value.bool (decide_eq_true h25))) rfl rfl rfl ?_
        refine JL.val (v := .pointer (some ⟨b12, 0, none⟩)) (QV.move rfl) rfl rfl rfl ?_
        obtain ⟨y26, hc27, hm⟩ := bind_inv hm
        refine JL.mv (d := some 58) (MV.call (Lo := [Asr.blk b12 105 [Seg.of (Enc.arr 8 (Enc.int .u32)) d13, Seg.of (Enc.arr 64 (Enc.int .u8)) d14, Seg.c (.int .i64 d15), Seg.c (.int .u64 d16)]]) (Lr := [Asr.of 5 (Enc.int .u8) (z22.v) y20, Asr.vn (NE.sl (Enc.int .u8)) (s1.v) z3 x2]) (F39.spec (b12) (d13) (d14) (d15) (d16) _ hc27) rfl Try.func39 rfl rfl rfl [1] [0, 2] rfl rfl rfl trivial) rfl rfl rfl ?_
        rintro _ _ ⟨_, ⟨rfl, rfl⟩, rfl⟩
        refine JL.val (v := .int .u64 d17) (QV.move rfl) rfl rfl rfl ?_
        refine JL.val (v := .bool (decide (d16 = d17))) (QV.eql rfl rfl) rfl rfl rfl ?_
        refine JL.val (v := .bool (decide (d16 = d17))) (QV.pickT rfl rfl) rfl rfl rfl ?_
        rcases ite_inv hm with ⟨h28, hm⟩ | ⟨h28, hm⟩
        ·
          refine JL.val (v := .bool true) (QV.eq (QV.move rfl) (congrArg Value.bool (decide_eq_true h28))) rfl rfl rfl ?_
          obtain ⟨y29, hc30, hm⟩ := bind_inv hm
          refine JL.mv (d := some 63) (MV.call (Lo := []) (Lr := [Asr.blk b12 105 [Seg.of (Enc.arr 8 (Enc.int .u32)) d13, Seg.of (Enc.arr 64 (Enc.int .u8)) d14, Seg.c (.int .i64 d15), Seg.c (.int .u64 d16)], Asr.of 5 (Enc.int .u8) (z22.v) y20, Asr.vn (NE.sl (Enc.int .u8)) (s1.v) z3 x2]) (F31.spec _ hc30) rfl Try.func31 rfl rfl rfl [] [0, 1, 2] rfl rfl rfl trivial) rfl rfl rfl ?_
          rintro _ _ ⟨_, ⟨rfl, rfl⟩, rfl⟩
          refine JL.val (v := .bool y29) (QV.pickT rfl rfl) rfl rfl rfl ?_
          refine JL.val (v := .bool y29) (QV.assign rfl) rfl rfl rfl ?_
          refine JL.nil ?_
          refine QJ.then_normal ?_
          refine JC.ret ?_
          obtain rfl := Option.some.inj hm
          exact QJ.body (vs := [.bool y29]) (.inl rfl) rfl (ResVs.cons (ResV.tmp rfl) ResVs.nil) [] rfl rfl (.inr trivial) ⟨rfl, rfl⟩
        ·
          refine JL.val (v := .bool false) (QV.eq (QV.move rfl) (congrArg Value.bool (decide_eq_false h28))) rfl rfl rfl ?_
          refine JL.skip (d := some 63) rfl rfl rfl ?_
          refine JL.val (v := .bool false) (QV.pickF rfl rfl) rfl rfl rfl ?_
          refine JL.val (v := .bool false) (QV.assign rfl) rfl rfl rfl ?_
          refine JL.nil ?_
          refine QJ.then_normal ?_
          refine JC.ret ?_
          obtain rfl := Option.some.inj hm
          exact QJ.body (vs := [.bool false]) (.inl rfl) rfl (ResVs.cons (ResV.tmp rfl) ResVs.nil) [] rfl rfl (.inr trivial) ⟨rfl, rfl⟩
      ·
        refine JL.val (v := .bool false) (QV.eq (QV.move rfl) (congrArg Value.bool (decide_eq_false h25))) rfl rfl rfl ?_
        refine JL.skip (d := some 57) rfl rfl rfl ?_
        refine JL.skip (d := some 58) rfl rfl rfl ?_
        refine JL.skip (d := some 59) rfl rfl rfl ?_
        refine JL.skip (d := some 60) rfl rfl rfl ?_
        refine JL.val (v := .bool false) (QV.pickF rfl rfl) rfl rfl rfl ?_
        refine JL.val (v := .bool false) (QV.move rfl) rfl rfl rfl ?_
        refine JL.skip (d := some 63) rfl rfl rfl ?_
        refine JL.val (v := .bool false) (QV.pickF rfl rfl) rfl rfl rfl ?_
        refine JL.val (v := .bool false) (QV.assign rfl) rfl rfl rfl ?_
        refine JL.nil ?_
        refine QJ.then_normal ?_
        refine JC.ret ?_
        obtain rfl := Option.some.inj hm
        exact QJ.body (vs := [.bool false]) (.inl rfl) rfl (ResVs.cons (ResV.tmp rfl) ResVs.nil) [] rfl rfl (.inr trivial) ⟨rfl, rfl⟩
    ·
      refine JC.block ?_
      obtain ⟨y43, hl44, hmo45⟩ := bind_inv hm
      refine JC.loop (F10.b1 x2) (fun x z => match x, z with | (d31, d32, d33, d34, d35, d36), _ => [(0, s1.v), (3, .pointer (some ⟨b12, 0, none⟩)), (4, .int .u64 d35), (5, .int .i64 d36)]) (fun x z => match x, z with | (d31, d32, d33, d34, d35, d36), _ => [Asr.vn (NE.sl (Enc.int .u8)) (s1.v) z3 x2, Asr.blk b12 105 [Seg.of (Enc.arr 8 (Enc.int .u32)) d31, Seg.of (Enc.arr 64 (Enc.int .u8)) d32, Seg.c (.int .i64 d33), Seg.c (.int .u64 d34)]]) (y10.1, y10.2, (0 : Int), (0 : Int), (0 : Int), (0 : Int)) () y43 hl44 [1, 0] (by exact ⟨rfl, rfl, rfl, rfl, trivial⟩) rfl rfl ?_
      rintro ⟨d31, d32, d33, d34, d35, d36⟩ ⟨⟩ s46 hm
      unfold F10.b1 at hm
      dsimp only at hm
      show JC _ _ _ [(0, s1.v), (3, .pointer (some ⟨b12, 0, none⟩)), (4, .int .u64 d35), (5, .int .i64 d36)] [Asr.vn (NE.sl (Enc.int .u8)) (s1.v) z3 x2, Asr.blk b12 105 [Seg.of (Enc.arr 8 (Enc.int .u32)) d31, Seg.of (Enc.arr 64 (Enc.int .u8)) d32, Seg.c (.int .i64 d33), Seg.c (.int .u64 d34)]] _ _
      refine JC.seq ?_
      refine JC.seq ?_
      refine JC.region ?_
      refine JL.val (v := .int .i64 d36) (QV.move rfl) rfl rfl rfl ?_
      refine JL.val (v := s1.v) (QV.move rfl) rfl rfl rfl ?_
      refine JL.val (v := .int .i64 ((x2).length : Int)) (QV.lenN (RdN.vn 0 rfl) Try.underlying50 rfl) rfl rfl rfl ?_
      refine JL.val (v := .bool (decide (d36 < ((x2).length : Int)))) (QV.lss rfl rfl) rfl rfl rfl ?_
      refine JL.nil ?_
      refine QJ.then_normal ?_
      rcases ite_inv hm with ⟨h47, hm⟩ | ⟨h47, hm⟩
      ·
        refine JC.condT' rfl (decide_eq_true h47) ?_
        refine JC.skip ?_
        refine QJ.then_normal ?_
        refine JC.seq ?_
        refine JC.cutK (Y := ((Arr Int 8) × (Arr Int 64) × Int × Int) × Unit) (fun y => match y with | ((d48, d49, d50, d51), _) => F10.j2 x2 d35 d36 (d48) (d49) (d50) (d51) = some s46) (fun y => match y with | ((d48, d49, d50, d51), _) => [(0, s1.v), (3, .pointer (some ⟨b12, 0, none⟩)), (4, .int .u64 (IntKind.wrap .u64 (d35 + (IntKind.wrap .u64 (((gd x2 d36)).length : Int))))), (5, .int .i64 d36)]) (fun y => match y with | ((d48, d49, d50, d51), _) => [Asr.vn (NE.sl (Enc.int .u8)) (s1.v) z3 x2, Asr.blk b12 105 [Seg.of (Enc.arr 8 (Enc.int .u32)) d48, Seg.of (Enc.arr 64 (Enc.int .u8)) d49, Seg.c (.int .i64 d50), Seg.c (.int .u64 d51)]]) ?_ ?_
        ·
          rintro ⟨⟨d48, d49, d50, d51⟩, ⟨⟩⟩ hm
          unfold F10.j2 at hm
          show QJ _ _ [(0, s1.v), (3, .pointer (some ⟨b12, 0, none⟩)), (4, .int .u64 (IntKind.wrap .u64 (d35 + (IntKind.wrap .u64 (((gd x2 d36)).length : Int))))), (5, .int .i64 d36)] [Asr.vn (NE.sl (Enc.int .u8)) (s1.v) z3 x2, Asr.blk b12 105 [Seg.of (Enc.arr 8 (Enc.int .u32)) d48, Seg.of (Enc.arr 64 (Enc.int .u8)) d49, Seg.c (.int .i64 d50), Seg.c (.int .u64 d51)]] _ _
          refine QJ.then_normal ?_
          refine JC.region ?_
          refine JL.val (v := .int .i64 d36) (QV.move rfl) rfl rfl rfl ?_
          refine JL.val (v := .int .i64 (IntKind.wrap .i64 (d36 + (1 : Int)))) (QV.add rfl rfl) rfl rfl rfl ?_
          refine JL.val (v := .int .i64 (IntKind.wrap .i64 (d36 + (1 : Int)))) (QV.assign rfl) rfl rfl rfl ?_
          refine JL.nil ?_
          obtain rfl := Option.some.inj hm
          exact QJ.round_on (d48, d49, d50, d51, (IntKind.wrap .u64 (d35 + (IntKind.wrap .u64 (((gd x2 d36)).length : Int)))), (IntKind.wrap .i64 (d36 + (1 : Int)))) () [0, 1] (by exact ⟨rfl, rfl, rfl, rfl, trivial⟩) rfl rfl
        ·
          refine JC.block ?_
          refine JC.seq ?_
          refine JC.region ?_
          refine JL.val (v := .pointer (some ⟨b12, 0, none⟩)) (QV.move rfl) rfl rfl rfl ?_
          refine JL.val (v := s1.v) (QV.move rfl) rfl rfl rfl ?_
          refine JL.val (v := .int .i64 d36) (QV.move rfl) rfl rfl rfl ?_
          obtain ⟨h52, hm⟩ := guard_inv hm
          refine JL.val (v := .pointer (some (elA (s1.v) (Int.toNat d36 * ((NE.sl (Enc.int .u8)).E).sz)))) (QV.indexN (RdN.vn 0 rfl) Try.underlying50 tk_22 rfl rfl h52) rfl rfl rfl ?_
          refine JL.val (v := (gd z3 d36).v) (QV.el1N (RdN.vn 0 rfl) tk_22 rfl h52 rfl) rfl rfl rfl ?_
          obtain ⟨y53, hc54, hm⟩ := bind_inv hm
          refine JL.mv (d := some 21) (MV.call (Lo := [Asr.blk b12 105 [Seg.of (Enc.arr 8 (Enc.int .u32)) d31, Seg.of (Enc.arr 64 (Enc.int .u8)) d32, Seg.c (.int .i64 d33), Seg.c (.int .u64 d34)]]) (Lr := [Asr.vn (NE.sl (Enc.int .u8)) (s1.v) z3 x2]) (F35.spec (b12) ((gd z3 d36)) (d31) (d32) (d33) (d34) ((gd x2 d36)) _ hc54) rfl Try.func35 rfl rfl rfl [1] [0] rfl rfl rfl ⟨(Drv.el (K := (NE.sl (Enc.int .u8))) (A := Asr.vw (Enc.int .u8) ((gd z3 d36).v) (gd x2 d36)) (Drv.vn 0 rfl) h52 (fun _ _ q => q)), trivial⟩) rfl rfl rfl ?_
          rintro _ _ ⟨_, ⟨rfl, rfl⟩, rfl⟩
          refine JL.nil ?_
          refine QJ.then_normal ?_
          refine JC.seq ?_
          refine JC.region ?_
          refine JL.val (v := .int .u64 d35) (QV.move rfl) rfl rfl rfl ?_
          refine JL.val (v := s1.v) (QV.move rfl) rfl rfl rfl ?_
          refine JL.val (v := .int .i64 d36) (QV.move rfl) rfl rfl rfl ?_
          refine JL.val (v := .pointer (some (elA (s1.v) (Int.toNat d36 * ((NE.sl (Enc.int .u8)).E).sz)))) (QV.indexN (RdN.vn 1 rfl) Try.underlying50 tk_22 rfl rfl h52) rfl rfl rfl ?_
          refine JL.val (v := (gd z3 d36).v) (QV.el1N (RdN.vn 1 rfl) tk_22 rfl h52 rfl) rfl rfl rfl ?_
          refine JL.val (v := .int .i64 (((gd x2 d36)).length : Int)) (QV.len (Rdg.ofDrv (Drv.el (K := (NE.sl (Enc.int .u8))) (A := Asr.vw (Enc.int .u8) ((gd z3 d36).v) (gd x2 d36)) (Drv.vn 1 rfl) h52 (fun _ _ q => q))) Try.underlying22 rfl) rfl rfl rfl ?_
          refine JL.val (v := .int .u64 (IntKind.wrap .u64 (((gd x2 d36)).length : Int))) (QV.conv rfl (by rw [Try.underlying3]; rfl) Try.underlying28) rfl rfl rfl ?_
          refine JL.val (v := .int .u64 (IntKind.wrap .u64 (d35 + (IntKind.wrap .u64 (((gd x2 d36)).length : Int))))) (QV.add rfl rfl) rfl rfl rfl ?_
          refine JL.val (v := .int .u64 (IntKind.wrap .u64 (d35 + (IntKind.wrap .u64 (((gd x2 d36)).length : Int))))) (QV.assign rfl) rfl rfl rfl ?_
          refine JL.nil ?_
          refine QJ.then_normal ?_
          refine JC.seq ?_
          refine JC.regionT [Asr.blk b12 105 [Seg.of (Enc.arr 8 (Enc.int .u32)) y53.1, Seg.of (Enc.arr 64 (Enc.int .u8)) y53.2.1, Seg.c (.int .i64 y53.2.2.1), Seg.c (.int .u64 y53.2.2.2)], Asr.vn (NE.sl (Enc.int .u8)) (s1.v) z3 x2] (fun t => false) [(0, true), (2, true), (1, false), (3, false), (4, false), (5, false), (6, false), (7, false), (8, false), (9, true), (11, true), (12, true), (13, true), (14, true), (10, false), (15, false), (16, false), (17, false), (18, false), (19, false)] (by kernel_rfl) (by kernel_rfl) (by kernel_rfl) rfl (fun hsel => ?_)
          refine JT.take (i := 0) (v := .pointer (some ⟨b12, 0, none⟩)) hsel rfl (QV.move rfl) rfl rfl rfl [0, 1] rfl rfl ?_
          refine JT.take (i := 2) (v := .int .u64 (IntKind.wrap .u64 (d35 + (IntKind.wrap .u64 (((gd x2 d36)).length : Int))))) hsel rfl (QV.move rfl) rfl rfl rfl [0, 1] rfl rfl ?_
          obtain ⟨y55, hc56, hm⟩ := bind_inv hm
          refine JT.only (i := 1) (d := some 31) rfl (MV.call (Lo := [Asr.blk b12 105 [Seg.of (Enc.arr 8 (Enc.int .u32)) y53.1, Seg.of (Enc.arr 64 (Enc.int .u8)) y53.2.1, Seg.c (.int .i64 y53.2.2.1), Seg.c (.int .u64 y53.2.2.2)]]) (Lr := [Asr.vn (NE.sl (Enc.int .u8)) (s1.v) z3 x2]) (F39.spec (b12) (y53.1) (y53.2.1) (y53.2.2.1) (y53.2.2.2) _ hc56) rfl Try.func39 rfl rfl rfl [0] [1] rfl rfl rfl trivial) rfl rfl rfl ?_
          rintro _ _ ⟨_, ⟨rfl, rfl⟩, rfl⟩
          refine ⟨fun _ => ⟨[0, 1], rfl, rfl⟩, ?_⟩
          refine JT.only (i := 3) (d := some 33) rfl (MV.ofQV (v := .bool (!(decide (y53.2.2.2 = (IntKind.wrap .u64 (d35 + (IntKind.wrap .u64 (((gd x2 d36)).length : Int)))))))) (QV.neq rfl rfl)) rfl rfl rfl ?_
          rintro _ _ ⟨rfl, rfl⟩
          refine ⟨fun _ => ⟨[0, 1], rfl, rfl⟩, ?_⟩
          rcases ite_inv hm with ⟨h57, hm⟩ | ⟨h57, hm⟩
          ·
            refine JT.only (i := 4) (d := some 34) rfl (MV.ofQV (v := .bool false) (QV.eq (QV.move rfl) (congrArg Value.bool (congrArg Bool.not (decide_eq_true h57))))) rfl rfl rfl ?_
            rintro _ _ ⟨rfl, rfl⟩
            refine ⟨fun _ => ⟨[0, 1], rfl, rfl⟩, ?_⟩
            refine JT.only (i := 5) (d := some 35) rfl (MV.ofQV (v := .int .i64 d36) (QV.move rfl)) rfl rfl rfl ?_
            rintro _ _ ⟨rfl, rfl⟩
            refine ⟨fun _ => ⟨[0, 1], rfl, rfl⟩, ?_⟩
            refine JT.only (i := 6) (d := some 36) rfl (MV.ofQV (v := .int .i64 (Int.tmod d36 (8 : Int))) (QV.rem rfl rfl (by decide))) rfl rfl rfl ?_
            rintro _ _ ⟨rfl, rfl⟩
            refine ⟨fun _ => ⟨[0, 1], rfl, rfl⟩, ?_⟩
            refine JT.only (i := 7) (d := some 37) rfl (MV.ofQV (v := .bool (decide ((Int.tmod d36 (8 : Int)) = (0 : Int)))) (QV.eql rfl rfl)) rfl rfl rfl ?_
            rintro _ _ ⟨rfl, rfl⟩
            refine ⟨fun _ => ⟨[0, 1], rfl, rfl⟩, ?_⟩
            rcases ite_inv hm with ⟨h58, hm⟩ | ⟨h58, hm⟩
            ·
              refine JT.only (i := 8) (d := some 38) rfl (MV.ofQV (v := .bool true) (QV.eq (QV.move rfl) (congrArg Value.bool (decide_eq_true h58)))) rfl rfl rfl ?_
              rintro _ _ ⟨rfl, rfl⟩
              refine ⟨fun _ => ⟨[0, 1], rfl, rfl⟩, ?_⟩
              refine JT.take (i := 9) (v := .pointer (some ⟨b12, 0, none⟩)) hsel rfl (QV.move rfl) rfl rfl rfl [0, 1] rfl rfl ?_
              refine JT.take (i := 11) (v := s1.v) hsel rfl (QV.move rfl) rfl rfl rfl [0, 1] rfl rfl ?_
              refine JT.take (i := 12) (v := .int .i64 d36) hsel rfl (QV.move rfl) rfl rfl rfl [0, 1] rfl rfl ?_
              refine JT.take (i := 13) (v := .int .i64 (IntKind.wrap .i64 (d36 + (1 : Int)))) hsel rfl (QV.add rfl rfl) rfl rfl rfl [0, 1] rfl rfl ?_
              obtain ⟨h59, hm⟩ := guard_inv hm
              refine JT.take (i := 14) (v := (SlV.sub ((NE.sl (Enc.int .u8))).E.sz s1 (0 : Int) (IntKind.wrap .i64 (d36 + (1 : Int)))).v) hsel rfl (QV.sliceN (RdN.vn 1 rfl) Try.underlying50 tk_22 rfl rfl rfl h59) rfl rfl rfl [0, 1] rfl rfl ?_
              obtain ⟨y60, hc61, hm⟩ := bind_inv hm
              refine JT.only (i := 10) (d := some 40) rfl (MV.call (Lo := [Asr.blk b12 105 [Seg.of (Enc.arr 8 (Enc.int .u32)) y53.1, Seg.of (Enc.arr 64 (Enc.int .u8)) y53.2.1, Seg.c (.int .i64 y53.2.2.1), Seg.c (.int .u64 y53.2.2.2)]]) (Lr := [Asr.vn (NE.sl (Enc.int .u8)) (s1.v) z3 x2]) (F36.spec (b12) (y53.1) (y53.2.1) (y53.2.2.1) (y53.2.2.2) _ hc61) rfl Try.func36 rfl rfl rfl [0] [1] rfl rfl rfl trivial) rfl rfl rfl ?_
              rintro _ _ ⟨_, ⟨rfl, rfl⟩, rfl⟩
              refine ⟨fun _ => ⟨[0, 1], rfl, rfl⟩, ?_⟩
              obtain ⟨y62, hc63, hm⟩ := bind_inv hm
              refine JT.only (i := 15) (d := some 45) rfl (MV.call (Lo := []) (Lr := [Asr.blk b12 105 [Seg.of (Enc.arr 8 (Enc.int .u32)) y53.1, Seg.of (Enc.arr 64 (Enc.int .u8)) y53.2.1, Seg.c (.int .i64 y53.2.2.1), Seg.c (.int .u64 y53.2.2.2)], Asr.vn (NE.sl (Enc.int .u8)) (s1.v) z3 x2]) (F37.spec ((SlV.sub ((NE.sl (Enc.int .u8))).E.sz s1 (0 : Int) (IntKind.wrap .i64 (d36 + (1 : Int))))) ((subL z3 (0 : Int) (IntKind.wrap .i64 (d36 + (1 : Int))))) ((subL x2 (0 : Int) (IntKind.wrap .i64 (d36 + (1 : Int))))) _ hc63) rfl Try.func37 rfl rfl rfl [] [0, 1] rfl rfl rfl ⟨((Drv.vn 1 rfl).subN h59), trivial⟩) rfl rfl rfl ?_
              rintro _ _ ⟨_, ⟨z64, rfl, rfl⟩, rfl⟩
              refine ⟨fun _ => ⟨[1, 2], rfl, rfl⟩, ?_⟩
              refine JT.grow [Asr.of 5 (Enc.int .u8) (z64.v) y62, Asr.blk b12 105 [Seg.of (Enc.arr 8 (Enc.int .u32)) y53.1, Seg.of (Enc.arr 64 (Enc.int .u8)) y53.2.1, Seg.c (.int .i64 y53.2.2.1), Seg.c (.int .u64 y53.2.2.2)], Asr.vn (NE.sl (Enc.int .u8)) (s1.v) z3 x2] [1, 2] rfl rfl ?_
              obtain ⟨y65, hc66, hm⟩ := bind_inv hm
              refine JT.only (i := 16) (d := some 46) rfl (MV.call (Lo := []) (Lr := [Asr.of 5 (Enc.int .u8) (z64.v) y62, Asr.blk b12 105 [Seg.of (Enc.arr 8 (Enc.int .u32)) y53.1, Seg.of (Enc.arr 64 (Enc.int .u8)) y53.2.1, Seg.c (.int .i64 y53.2.2.1), Seg.c (.int .u64 y53.2.2.2)], Asr.vn (NE.sl (Enc.int .u8)) (s1.v) z3 x2]) (F32.spec (z64) (y62) _ hc66) rfl Try.func32 rfl rfl rfl [] [0, 1, 2] rfl rfl rfl ⟨(Drv.of 0 rfl), trivial⟩) rfl rfl rfl ?_
              rintro _ _ ⟨_, ⟨rfl, rfl⟩, rfl⟩
              refine ⟨fun _ => ⟨[0, 1, 2], rfl, rfl⟩, ?_⟩
              refine JT.only (i := 17) (d := some 47) rfl (MV.ofQV (v := .bool (!(decide (y60 = y65)))) (QV.neqE (E := (Enc.arr 32 (Enc.int .u8))) (a := y60) (b := y65) zeq_41 (by kernel_rfl) rfl rfl)) rfl rfl rfl ?_
              rintro _ _ ⟨rfl, rfl⟩
              refine ⟨fun _ => ⟨[0, 1, 2], rfl, rfl⟩, ?_⟩
              refine JT.only (i := 18) (d := some 48) rfl (MV.ofQV (v := .bool (!(decide (y60 = y65)))) (QV.pickT rfl rfl)) rfl rfl rfl ?_
              rintro _ _ ⟨rfl, rfl⟩
              refine ⟨fun _ => ⟨[0, 1, 2], rfl, rfl⟩, ?_⟩
              refine JT.only (i := 19) (d := some 49) rfl (MV.ofQV (v := .bool (!(decide (y60 = y65)))) (QV.pickF rfl rfl)) rfl rfl rfl ?_
              rintro _ _ ⟨rfl, rfl⟩
              refine ⟨fun _ => ⟨[0, 1, 2], rfl, rfl⟩, ?_⟩
              refine JT.nil ?_
              refine QJ.then_normal ?_
              rcases ite_inv hm with ⟨h67, hm⟩ | ⟨h67, hm⟩
              ·
                refine JC.condF' rfl (congrArg Bool.not (decide_eq_true h67)) ?_
                refine JC.skip ?_
                refine QJ.block_normal ?_
                exact QJ.cut_normal ((y53.1, y53.2.1, y53.2.2.1, y53.2.2.2), ()) hm [2, 1] (by exact ⟨rfl, rfl, rfl, rfl, trivial⟩) rfl rfl
              ·
                refine JC.condT' rfl (congrArg Bool.not (decide_eq_false h67)) ?_
                refine JC.seq ?_
                refine JC.region ?_
                refine JL.val (v := .bool false) (QV.assign rfl) rfl rfl rfl ?_
                refine JL.nil ?_
                refine QJ.then_normal ?_
                refine JC.ret ?_
                refine QJ.block_ret ?_
                refine QJ.cut_ret ?_
                refine QJ.then_ret ?_
                obtain rfl := Option.some.inj hm
                refine QJ.round_ret (fun hy => ?_)
                subst hy
                refine QJ.block_ret ?_
                refine QJ.cut_ret ?_
                refine QJ.then_ret ?_
                obtain rfl := Option.some.inj hmo45
                exact QJ.body (vs := [.bool false]) (.inl rfl) rfl (ResVs.cons (ResV.tmp rfl) ResVs.nil) [] rfl rfl (.inr trivial) ⟨rfl, rfl⟩
            ·
              refine JT.only (i := 8) (d := some 38) rfl (MV.ofQV (v := .bool false) (QV.eq (QV.move rfl) (congrArg Value.bool (decide_eq_false h58)))) rfl rfl rfl ?_
              rintro _ _ ⟨rfl, rfl⟩
              refine ⟨fun _ => ⟨[0, 1], rfl, rfl⟩, ?_⟩
              refine JT.skip (i := 9) (d := some 39) hsel rfl rfl rfl rfl [0, 1] rfl rfl ?_
              refine JT.skip (i := 11) (d := some 41) hsel rfl rfl rfl rfl [0, 1] rfl rfl ?_
              refine JT.skip (i := 12) (d := some 42) hsel rfl rfl rfl rfl [0, 1] rfl rfl ?_
              refine JT.skip (i := 13) (d := some 43) hsel rfl rfl rfl rfl [0, 1] rfl rfl ?_
              refine JT.skip (i := 14) (d := some 44) hsel rfl rfl rfl rfl [0, 1] rfl rfl ?_
              refine JT.skipO (i := 10) (d := some 40) rfl rfl rfl rfl [0, 1] rfl rfl ?_
              refine JT.skipO (i := 15) (d := some 45) rfl rfl rfl rfl [0, 1] rfl rfl ?_
              refine JT.skipO (i := 16) (d := some 46) rfl rfl rfl rfl [0, 1] rfl rfl ?_
              refine JT.skipO (i := 17) (d := some 47) rfl rfl rfl rfl [0, 1] rfl rfl ?_
              refine JT.only (i := 18) (d := some 48) rfl (MV.ofQV (v := .bool false) (QV.pickF rfl rfl)) rfl rfl rfl ?_
              rintro _ _ ⟨rfl, rfl⟩
              refine ⟨fun _ => ⟨[0, 1], rfl, rfl⟩, ?_⟩
              refine JT.only (i := 19) (d := some 49) rfl (MV.ofQV (v := .bool false) (QV.pickF rfl rfl)) rfl rfl rfl ?_
              rintro _ _ ⟨rfl, rfl⟩
              refine ⟨fun _ => ⟨[0, 1], rfl, rfl⟩, ?_⟩
              refine JT.nil ?_
              refine QJ.then_normal ?_
              refine JC.condF rfl ?_
              refine JC.skip ?_
              refine QJ.block_normal ?_
              exact QJ.cut_normal ((y53.1, y53.2.1, y53.2.2.1, y53.2.2.2), ()) hm [1, 0] (by exact ⟨rfl, rfl, rfl, rfl, trivial⟩) rfl rfl
          ·
            refine JT.only (i := 4) (d := some 34) rfl (MV.ofQV (v := .bool true) (QV.eq (QV.move rfl) (congrArg Value.bool (congrArg Bool.not (decide_eq_false h57))))) rfl rfl rfl ?_
            rintro _ _ ⟨rfl, rfl⟩
            refine ⟨fun _ => ⟨[0, 1], rfl, rfl⟩, ?_⟩
            refine JT.skipO (i := 5) (d := some 35) rfl rfl rfl rfl [0, 1] rfl rfl ?_
            refine JT.skipO (i := 6) (d := some 36) rfl rfl rfl rfl [0, 1] rfl rfl ?_
            refine JT.skipO (i := 7) (d := some 37) rfl rfl rfl rfl [0, 1] rfl rfl ?_
            refine JT.skipO (i := 8) (d := some 38) rfl rfl rfl rfl [0, 1] rfl rfl ?_
            refine JT.skip (i := 9) (d := some 39) hsel rfl rfl rfl rfl [0, 1] rfl rfl ?_
            refine JT.skip (i := 11) (d := some 41) hsel rfl rfl rfl rfl [0, 1] rfl rfl ?_
            refine JT.skip (i := 12) (d := some 42) hsel rfl rfl rfl rfl [0, 1] rfl rfl ?_
            refine JT.skip (i := 13) (d := some 43) hsel rfl rfl rfl rfl [0, 1] rfl rfl ?_
            refine JT.skip (i := 14) (d := some 44) hsel rfl rfl rfl rfl [0, 1] rfl rfl ?_
            refine JT.skipO (i := 10) (d := some 40) rfl rfl rfl rfl [0, 1] rfl rfl ?_
            refine JT.skipO (i := 15) (d := some 45) rfl rfl rfl rfl [0, 1] rfl rfl ?_
            refine JT.skipO (i := 16) (d := some 46) rfl rfl rfl rfl [0, 1] rfl rfl ?_
            refine JT.skipO (i := 17) (d := some 47) rfl rfl rfl rfl [0, 1] rfl rfl ?_
            refine JT.skipO (i := 18) (d := some 48) rfl rfl rfl rfl [0, 1] rfl rfl ?_
            refine JT.only (i := 19) (d := some 49) rfl (MV.ofQV (v := .bool true) (QV.pickT rfl rfl)) rfl rfl rfl ?_
            rintro _ _ ⟨rfl, rfl⟩
            refine ⟨fun _ => ⟨[0, 1], rfl, rfl⟩, ?_⟩
            refine JT.nil ?_
            refine QJ.then_normal ?_
            refine JC.condT rfl ?_
            refine JC.seq ?_
            refine JC.region ?_
            refine JL.val (v := .bool false) (QV.assign rfl) rfl rfl rfl ?_
            refine JL.nil ?_
            refine QJ.then_normal ?_
            refine JC.ret ?_
            refine QJ.block_ret ?_
            refine QJ.cut_ret ?_
            refine QJ.then_ret ?_
            obtain rfl := Option.some.inj hm
            refine QJ.round_ret (fun hy => ?_)
            subst hy
            refine QJ.block_ret ?_
            refine QJ.cut_ret ?_
            refine QJ.then_ret ?_
            obtain rfl := Option.some.inj hmo45
            exact QJ.body (vs := [.bool false]) (.inl rfl) rfl (ResVs.cons (ResV.tmp rfl) ResVs.nil) [] rfl rfl (.inr trivial) ⟨rfl, rfl⟩
      ·
        refine JC.condF' rfl (decide_eq_false h47) ?_
        refine JC.exit ?_
        refine QJ.then_exit ?_
        obtain rfl := Option.some.inj hm
        refine QJ.round_exit (fun hy => ?_)
        subst hy
        refine QJ.block_hit ?_
        exact QJ.cut_normal ((d31, d32, d33, d34, d35), ()) hmo45 [0, 1] (by exact ⟨rfl, rfl, rfl, trivial⟩) rfl rfl

end Go.Proofs.Ytmedbpiapeiobaa
