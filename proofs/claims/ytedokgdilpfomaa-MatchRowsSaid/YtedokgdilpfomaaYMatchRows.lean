/- Written by gen.py: functions and their contracts. -/
import Derived.Test.YtedokgdilpfomaaMat
namespace Go.Proofs.Ytedokgdilpfomaa
open Go Go.Eng Go.Proofs
set_option linter.unusedVariables false
set_option linter.unusedSimpArgs false
/-! ### 31: drogher/drogherref15.Stands -/
noncomputable def F31.j1   : Option Bool :=
  some false
noncomputable def F31.b1 (x2 : List Int) (x4 : List Int) : Int → Option (Int ⊕ ((Bool) ⊕ Unit))
  | d6 => (if d6 ≤ (IntKind.wrap .i64 (((x2).length : Int) - ((x4).length : Int))) then (if 0 ≤ d6 ∧ d6 ≤ (IntKind.wrap .i64 (d6 + ((x4).length : Int))) ∧ (IntKind.wrap .i64 (d6 + ((x4).length : Int))) ≤ ((x2).length : Int) then (if (strOfNums (subL x2 d6 (IntKind.wrap .i64 (d6 + ((x4).length : Int))))) = (strOfNums x4) then some (.inr (.inl (true))) else some (.inl (IntKind.wrap .i64 (d6 + (1 : Int))))) else none) else some (.inr (.inr (()))))
noncomputable def F31.m (x2 : List Int) (x4 : List Int) : Option Bool :=
  ((loop (F31.b1 x2 x4) (0 : Int)).bind fun y => match y with | .inl r => some r | .inr _ => F31.j1)
set_option maxRecDepth 100000 in
set_option maxHeartbeats 4000000 in
theorem F31.spec (s1 : SlV) (s3 : SlV) (x2 : List Int) (x4 : List Int) (r : Bool) (hm : F31.m x2 x4 = some r) :
    Ctr Try.prog false 31 [s1.v, s3.v] [Asr.vw (Enc.int .u8) (s1.v) x2, Asr.vw (Enc.int .u8) (s3.v) x4] (fun v L' => v = .bool r ∧ L' = []) := by
  refine Ctr.intro (n := 26) (env := [(0, s1.v), (1, s3.v)]) Try.func31 rfl rfl rfl rfl (fun c => ?_)
  unfold F31.m at hm
  refine JC.seq ?_
  refine JC.region ?_
  refine JL.val (v := .bool false) (QV.assign rfl) rfl rfl rfl ?_
  refine JL.nil ?_
  refine QJ.then_normal ?_
  refine JC.seq ?_
  refine JC.seq ?_
  refine JC.region ?_
  refine JL.val (v := .int .i64 (0 : Int)) (QV.assign rfl) rfl rfl rfl ?_
  refine JL.nil ?_
  refine QJ.then_normal ?_
  refine JC.cutK (Y := Unit × Unit) (fun y => match y with | (_, _) => F31.j1 = some r) (fun y => match y with | (_, _) => []) (fun y => match y with | (_, _) => []) ?_ ?_
  ·
    rintro ⟨⟨⟩, ⟨⟩⟩ hm
    unfold F31.j1 at hm
    show QJ _ _ [] [] _ _
    refine QJ.then_normal ?_
    refine JC.seq ?_
    refine JC.region ?_
    refine JL.val (v := .bool false) (QV.assign rfl) rfl rfl rfl ?_
    refine JL.nil ?_
    refine QJ.then_normal ?_
    refine JC.ret ?_
    obtain rfl := Option.some.inj hm
    exact QJ.body (vs := [.bool false]) (.inl rfl) rfl (ResVs.cons (ResV.tmp rfl) ResVs.nil) [] rfl rfl (.inr trivial) ⟨rfl, rfl⟩
  ·
    refine JC.block ?_
    obtain ⟨y8, hl9, hmo10⟩ := bind_inv hm
    refine JC.loop (F31.b1 x2 x4) (fun x z => match x, z with | d6, _ => [(0, s1.v), (1, s3.v), (5, .int .i64 d6)]) (fun x z => match x, z with | d6, _ => [Asr.vw (Enc.int .u8) (s1.v) x2, Asr.vw (Enc.int .u8) (s3.v) x4]) (0 : Int) () y8 hl9 [0, 1] (by exact ⟨rfl, rfl, rfl, trivial⟩) rfl rfl ?_
    rintro d6 ⟨⟩ s11 hm
    unfold F31.b1 at hm
    dsimp only at hm
    show JC _ _ _ [(0, s1.v), (1, s3.v), (5, .int .i64 d6)] [Asr.vw (Enc.int .u8) (s1.v) x2, Asr.vw (Enc.int .u8) (s3.v) x4] _ _
    refine JC.seq ?_
    refine JC.seq ?_
    refine JC.region ?_
    refine JL.val (v := .int .i64 d6) (QV.move rfl) rfl rfl rfl ?_
    refine JL.val (v := s1.v) (QV.move rfl) rfl rfl rfl ?_
    refine JL.val (v := .int .i64 ((x2).length : Int)) (QV.len (Rdg.vw 0 rfl) Try.underlying23 rfl) rfl rfl rfl ?_
    refine JL.val (v := s3.v) (QV.move rfl) rfl rfl rfl ?_
    refine JL.val (v := .int .i64 ((x4).length : Int)) (QV.len (Rdg.vw 1 rfl) Try.underlying23 rfl) rfl rfl rfl ?_
    refine JL.val (v := .int .i64 (IntKind.wrap .i64 (((x2).length : Int) - ((x4).length : Int)))) (QV.sub rfl rfl) rfl rfl rfl ?_
    refine JL.val (v := .bool (decide (d6 ≤ (IntKind.wrap .i64 (((x2).length : Int) - ((x4).length : Int)))))) (QV.leq rfl rfl) rfl rfl rfl ?_
    refine JL.nil ?_
    refine QJ.then_normal ?_
    rcases ite_inv hm with ⟨h12, hm⟩ | ⟨h12, hm⟩
    ·
      refine JC.condT' rfl (decide_eq_true h12) ?_
      refine JC.skip ?_
      refine QJ.then_normal ?_
      refine JC.seq ?_
      refine JC.block ?_
      refine JC.seq ?_
      refine JC.regionT [Asr.vw (Enc.int .u8) (s1.v) x2, Asr.vw (Enc.int .u8) (s3.v) x4] (fun t => false) [(0, true), (1, true), (2, true), (3, true), (4, true), (5, true), (6, true), (7, true), (8, false), (9, false), (10, false)] (by kernel_rfl) (by kernel_rfl) (by kernel_rfl) rfl (fun hsel => ?_)
      refine JT.take (i := 0) (v := s1.v) hsel rfl (QV.move rfl) rfl rfl rfl [0, 1] rfl rfl ?_
      refine JT.take (i := 1) (v := .int .i64 d6) hsel rfl (QV.move rfl) rfl rfl rfl [0, 1] rfl rfl ?_
      refine JT.take (i := 2) (v := .int .i64 d6) hsel rfl (QV.move rfl) rfl rfl rfl [0, 1] rfl rfl ?_
      refine JT.take (i := 3) (v := s3.v) hsel rfl (QV.move rfl) rfl rfl rfl [0, 1] rfl rfl ?_
      refine JT.take (i := 4) (v := .int .i64 ((x4).length : Int)) hsel rfl (QV.len (Rdg.vw 1 rfl) Try.underlying23 rfl) rfl rfl rfl [0, 1] rfl rfl ?_
      refine JT.take (i := 5) (v := .int .i64 (IntKind.wrap .i64 (d6 + ((x4).length : Int)))) hsel rfl (QV.add rfl rfl) rfl rfl rfl [0, 1] rfl rfl ?_
      obtain ⟨h13, hm⟩ := guard_inv hm
      refine JT.take (i := 6) (v := (SlV.sub ((Enc.int .u8)).sz s1 d6 (IntKind.wrap .i64 (d6 + ((x4).length : Int)))).v) hsel rfl (QV.sliceV (Rdg.vw 0 rfl) Try.underlying23 tk_5 rfl rfl rfl h13) rfl rfl rfl [0, 1] rfl rfl ?_
      refine JT.take (i := 7) (v := .string (strOfNums (subL x2 d6 (IntKind.wrap .i64 (d6 + ((x4).length : Int)))))) hsel rfl (QV.str (Rdg.ofDrv ((Drv.vw 0 rfl).subV h13)) Try.underlying23 Try.underlying5 Try.underlying9 rfl) rfl rfl rfl [0, 1] rfl rfl ?_
      refine JT.only (i := 8) (d := some 23) rfl (MV.ofQV (v := s3.v) (QV.move rfl)) rfl rfl rfl ?_
      rintro _ _ ⟨rfl, rfl⟩
      refine ⟨fun _ => ⟨[0, 1], rfl, rfl⟩, ?_⟩
      refine JT.only (i := 9) (d := some 24) rfl (MV.ofQV (v := .string (strOfNums x4)) (QV.str (Rdg.vw 1 rfl) Try.underlying23 Try.underlying5 Try.underlying9 rfl)) rfl rfl rfl ?_
      rintro _ _ ⟨rfl, rfl⟩
      refine ⟨fun _ => ⟨[0, 1], rfl, rfl⟩, ?_⟩
      refine JT.only (i := 10) (d := some 25) rfl (MV.ofQV (v := .bool (decide ((strOfNums (subL x2 d6 (IntKind.wrap .i64 (d6 + ((x4).length : Int))))) = (strOfNums x4)))) (QV.eqlS rfl rfl)) rfl rfl rfl ?_
      rintro _ _ ⟨rfl, rfl⟩
      refine ⟨fun _ => ⟨[0, 1], rfl, rfl⟩, ?_⟩
      refine JT.nil ?_
      refine QJ.then_normal ?_
      rcases ite_inv hm with ⟨h14, hm⟩ | ⟨h14, hm⟩
      ·
        refine JC.condT' rfl (decide_eq_true h14) ?_
        refine JC.seq ?_
        refine JC.region ?_
        refine JL.val (v := .bool true) (QV.assign rfl) rfl rfl rfl ?_
        refine JL.nil ?_
        refine QJ.then_normal ?_
        refine JC.ret ?_
        refine QJ.block_ret ?_
        refine QJ.then_ret ?_
        obtain rfl := Option.some.inj hm
        refine QJ.round_ret (fun hy => ?_)
        subst hy
        refine QJ.block_ret ?_
        refine QJ.cut_ret ?_
        refine QJ.then_ret ?_
        obtain rfl := Option.some.inj hmo10
        exact QJ.body (vs := [.bool true]) (.inl rfl) rfl (ResVs.cons (ResV.tmp rfl) ResVs.nil) [] rfl rfl (.inr trivial) ⟨rfl, rfl⟩
      ·
        refine JC.condF' rfl (decide_eq_false h14) ?_
        refine JC.skip ?_
        refine QJ.block_normal ?_
        refine QJ.then_normal ?_
        refine JC.region ?_
        refine JL.val (v := .int .i64 d6) (QV.move rfl) rfl rfl rfl ?_
        refine JL.val (v := .int .i64 (IntKind.wrap .i64 (d6 + (1 : Int)))) (QV.add rfl rfl) rfl rfl rfl ?_
        refine JL.val (v := .int .i64 (IntKind.wrap .i64 (d6 + (1 : Int)))) (QV.assign rfl) rfl rfl rfl ?_
        refine JL.nil ?_
        obtain rfl := Option.some.inj hm
        exact QJ.round_on (IntKind.wrap .i64 (d6 + (1 : Int))) () [0, 1] (by exact ⟨rfl, rfl, rfl, trivial⟩) rfl rfl
    ·
      refine JC.condF' rfl (decide_eq_false h12) ?_
      refine JC.exit ?_
      refine QJ.then_exit ?_
      obtain rfl := Option.some.inj hm
      refine QJ.round_exit (fun hy => ?_)
      subst hy
      refine QJ.block_hit ?_
      exact QJ.cut_normal ((), ()) hmo10 [] trivial rfl rfl

/-! ### 9: drogher/drogherlaw15.MatchRows -/
noncomputable def F9.j1   : Option Bool :=
  some false
noncomputable def F9.j2 (d29 : Int)  : Option (Int ⊕ ((Bool) ⊕ Unit)) :=
  some (.inl (IntKind.wrap .i64 (d29 + (1 : Int))))
noncomputable def F9.b1 (x5 : Int) (y26 : (List (Int × Int × Int))) : Int → Option (Int ⊕ ((Bool) ⊕ Unit))
  | d29 => (if d29 < ((y26).length : Int) then (if 0 ≤ d29 ∧ d29 < ((y26).length : Int) then (if (gd y26 d29).1 < (IntKind.wrap .i64 (x5 + (32 : Int))) then (if x5 < (IntKind.wrap .i64 ((gd y26 d29).1 + (gd y26 d29).2.2)) then ((F27.m).bind fun y39 => some (.inr (.inl (y39)))) else F9.j2 d29) else F9.j2 d29) else none) else some (.inr (.inr (()))))
noncomputable def F9.m (x2 : List Int) (x4 : List Int) (x5 : Int) : Option Bool :=
  (if (1000 : Int) < ((x2).length : Int) then ((F27.m).bind fun y8 => some y8) else (if (1000 : Int) < ((x4).length : Int) then ((F27.m).bind fun y11 => some y11) else (if x5 < (0 : Int) then ((F27.m).bind fun y14 => some y14) else (if ((x4).length : Int) ≤ x5 then ((F27.m).bind fun y17 => some y17) else (if (IntKind.wrap .i64 (((x4).length : Int) - x5)) < (32 : Int) then ((F27.m).bind fun y20 => some y20) else (if 0 ≤ x5 ∧ x5 ≤ (IntKind.wrap .i64 (x5 + (32 : Int))) ∧ (IntKind.wrap .i64 (x5 + (32 : Int))) ≤ ((x4).length : Int) then ((F31.m (x2) ((subL x4 x5 (IntKind.wrap .i64 (x5 + (32 : Int)))))).bind fun y23 => (if y23 = true then ((F28.m (x2) (x4)).bind fun y26 => ((loop (F9.b1 x5 y26) (0 : Int)).bind fun y => match y with | .inl r => some r | .inr _ => F9.j1)) else ((F27.m).bind fun y41 => some y41))) else none))))))
set_option maxRecDepth 100000 in
set_option maxHeartbeats 4000000 in
theorem F9.spec (s1 : SlV) (s3 : SlV) (x2 : List Int) (x4 : List Int) (x5 : Int) (r : Bool) (hm : F9.m x2 x4 x5 = some r) :
    Ctr Try.prog false 9 [s1.v, s3.v, .int .i64 x5] [Asr.vw (Enc.int .u8) (s1.v) x2, Asr.vw (Enc.int .u8) (s3.v) x4] (fun v L' => v = .bool r ∧ L' = []) := by
  refine Ctr.intro (n := 78) (env := [(0, s1.v), (1, s3.v), (2, .int .i64 x5)]) Try.func9 rfl rfl rfl rfl (fun c => ?_)
  unfold F9.m at hm
  refine JC.seq ?_
  refine JC.region ?_
  refine JL.val (v := .bool false) (QV.assign rfl) rfl rfl rfl ?_
  refine JL.nil ?_
  refine QJ.then_normal ?_
  refine JC.seq ?_
  refine JC.seq ?_
  refine JC.region ?_
  refine JL.val (v := s1.v) (QV.move rfl) rfl rfl rfl ?_
  refine JL.val (v := .int .i64 ((x2).length : Int)) (QV.len (Rdg.vw 0 rfl) Try.underlying23 rfl) rfl rfl rfl ?_
  refine JL.val (v := .bool (decide ((1000 : Int) < ((x2).length : Int)))) (QV.gtr rfl rfl) rfl rfl rfl ?_
  rcases ite_inv hm with ⟨h7, hm⟩ | ⟨h7, hm⟩
  ·
    refine JL.val (v := .bool true) (QV.eq (QV.move rfl) (congrArg Value.bool (decide_eq_true h7))) rfl rfl rfl ?_
    refine JL.skip (d := some 13) rfl rfl rfl ?_
    refine JL.skip (d := some 14) rfl rfl rfl ?_
    refine JL.skip (d := some 15) rfl rfl rfl ?_
    refine JL.val (v := .bool true) (QV.pickT rfl rfl) rfl rfl rfl ?_
    refine JL.val (v := .bool true) (QV.move rfl) rfl rfl rfl ?_
    refine JL.skip (d := some 18) rfl rfl rfl ?_
    refine JL.skip (d := some 19) rfl rfl rfl ?_
    refine JL.val (v := .bool true) (QV.pickT rfl rfl) rfl rfl rfl ?_
    refine JL.val (v := .bool true) (QV.move rfl) rfl rfl rfl ?_
    refine JL.skip (d := some 22) rfl rfl rfl ?_
    refine JL.skip (d := some 23) rfl rfl rfl ?_
    refine JL.skip (d := some 24) rfl rfl rfl ?_
    refine JL.skip (d := some 25) rfl rfl rfl ?_
    refine JL.val (v := .bool true) (QV.pickT rfl rfl) rfl rfl rfl ?_
    refine JL.val (v := .bool true) (QV.move rfl) rfl rfl rfl ?_
    refine JL.skip (d := some 28) rfl rfl rfl ?_
    refine JL.skip (d := some 29) rfl rfl rfl ?_
    refine JL.skip (d := some 30) rfl rfl rfl ?_
    refine JL.skip (d := some 31) rfl rfl rfl ?_
    refine JL.skip (d := some 32) rfl rfl rfl ?_
    refine JL.val (v := .bool true) (QV.pickT rfl rfl) rfl rfl rfl ?_
    refine JL.val (v := .bool true) (QV.move rfl) rfl rfl rfl ?_
    refine JL.skip (d := some 35) rfl rfl rfl ?_
    refine JL.skip (d := some 36) rfl rfl rfl ?_
    refine JL.skip (d := some 37) rfl rfl rfl ?_
    refine JL.skip (d := some 38) rfl rfl rfl ?_
    refine JL.skip (d := some 39) rfl rfl rfl ?_
    refine JL.skip (d := some 40) rfl rfl rfl ?_
    refine JL.skip (d := some 41) rfl rfl rfl ?_
    refine JL.skip (d := some 42) rfl rfl rfl ?_
    refine JL.val (v := .bool true) (QV.pickT rfl rfl) rfl rfl rfl ?_
    refine JL.nil ?_
    refine QJ.then_normal ?_
    refine JC.condT rfl ?_
    refine JC.seq ?_
    refine JC.region ?_
    obtain ⟨y8, hc9, hm⟩ := bind_inv hm
    refine JL.mv (d := some 44) (MV.call (Lo := []) (Lr := [Asr.vw (Enc.int .u8) (s1.v) x2, Asr.vw (Enc.int .u8) (s3.v) x4]) (F27.spec _ hc9) rfl Try.func27 rfl rfl rfl [] [0, 1] rfl rfl rfl trivial) rfl rfl rfl ?_
    rintro _ _ ⟨_, ⟨rfl, rfl⟩, rfl⟩
    refine JL.val (v := .bool y8) (QV.assign rfl) rfl rfl rfl ?_
    refine JL.nil ?_
    refine QJ.then_normal ?_
    refine JC.ret ?_
    refine QJ.then_ret ?_
    obtain rfl := Option.some.inj hm
    exact QJ.body (vs := [.bool y8]) (.inl rfl) rfl (ResVs.cons (ResV.tmp rfl) ResVs.nil) [] rfl rfl (.inr trivial) ⟨rfl, rfl⟩
  ·
    refine JL.val (v := .bool false) (QV.eq (QV.move rfl) (congrArg Value.bool (decide_eq_false h7))) rfl rfl rfl ?_
    refine JL.val (v := s3.v) (QV.move rfl) rfl rfl rfl ?_
    refine JL.val (v := .int .i64 ((x4).length : Int)) (QV.len (Rdg.vw 1 rfl) Try.underlying23 rfl) rfl rfl rfl ?_
    refine JL.val (v := .bool (decide ((1000 : Int) < ((x4).length : Int)))) (QV.gtr rfl rfl) rfl rfl rfl ?_
    refine JL.val (v := .bool (decide ((1000 : Int) < ((x4).length : Int)))) (QV.pickF rfl rfl) rfl rfl rfl ?_
    rcases ite_inv hm with ⟨h10, hm⟩ | ⟨h10, hm⟩
    ·
      refine JL.val (v := .bool true) (QV.eq (QV.move rfl) (congrArg Value.bool (decide_eq_true h10))) rfl rfl rfl ?_
      refine JL.skip (d := some 18) rfl rfl rfl ?_
      refine JL.skip (d := some 19) rfl rfl rfl ?_
      refine JL.val (v := .bool true) (QV.pickT rfl rfl) rfl rfl rfl ?_
      refine JL.val (v := .bool true) (QV.move rfl) rfl rfl rfl ?_
      refine JL.skip (d := some 22) rfl rfl rfl ?_
      refine JL.skip (d := some 23) rfl rfl rfl ?_
      refine JL.skip (d := some 24) rfl rfl rfl ?_
      refine JL.skip (d := some 25) rfl rfl rfl ?_
      refine JL.val (v := .bool true) (QV.pickT rfl rfl) rfl rfl rfl ?_
      refine JL.val (v := .bool true) (QV.move rfl) rfl rfl rfl ?_
      refine JL.skip (d := some 28) rfl rfl rfl ?_
      refine JL.skip (d := some 29) rfl rfl rfl ?_
      refine JL.skip (d := some 30) rfl rfl rfl ?_
      refine JL.skip (d := some 31) rfl rfl rfl ?_
      refine JL.skip (d := some 32) rfl rfl rfl ?_
      refine JL.val (v := .bool true) (QV.pickT rfl rfl) rfl rfl rfl ?_
      refine JL.val (v := .bool true) (QV.move rfl) rfl rfl rfl ?_
      refine JL.skip (d := some 35) rfl rfl rfl ?_
      refine JL.skip (d := some 36) rfl rfl rfl ?_
      refine JL.skip (d := some 37) rfl rfl rfl ?_
      refine JL.skip (d := some 38) rfl rfl rfl ?_
      refine JL.skip (d := some 39) rfl rfl rfl ?_
      refine JL.skip (d := some 40) rfl rfl rfl ?_
      refine JL.skip (d := some 41) rfl rfl rfl ?_
      refine JL.skip (d := some 42) rfl rfl rfl ?_
      refine JL.val (v := .bool true) (QV.pickT rfl rfl) rfl rfl rfl ?_
      refine JL.nil ?_
      refine QJ.then_normal ?_
      refine JC.condT rfl ?_
      refine JC.seq ?_
      refine JC.region ?_
      obtain ⟨y11, hc12, hm⟩ := bind_inv hm
      refine JL.mv (d := some 44) (MV.call (Lo := []) (Lr := [Asr.vw (Enc.int .u8) (s1.v) x2, Asr.vw (Enc.int .u8) (s3.v) x4]) (F27.spec _ hc12) rfl Try.func27 rfl rfl rfl [] [0, 1] rfl rfl rfl trivial) rfl rfl rfl ?_
      rintro _ _ ⟨_, ⟨rfl, rfl⟩, rfl⟩
      refine JL.val (v := .bool y11) (QV.assign rfl) rfl rfl rfl ?_
      refine JL.nil ?_
      refine QJ.then_normal ?_
      refine JC.ret ?_
      refine QJ.then_ret ?_
      obtain rfl := Option.some.inj hm
      exact QJ.body (vs := [.bool y11]) (.inl rfl) rfl (ResVs.cons (ResV.tmp rfl) ResVs.nil) [] rfl rfl (.inr trivial) ⟨rfl, rfl⟩
    ·
      refine JL.val (v := .bool false) (QV.eq (QV.move rfl) (congrArg Value.bool (decide_eq_false h10))) rfl rfl rfl ?_
      refine JL.val (v := .int .i64 x5) (QV.move rfl) rfl rfl rfl ?_
      refine JL.val (v := .bool (decide (x5 < (0 : Int)))) (QV.lss rfl rfl) rfl rfl rfl ?_
      refine JL.val (v := .bool (decide (x5 < (0 : Int)))) (QV.pickF rfl rfl) rfl rfl rfl ?_
      rcases ite_inv hm with ⟨h13, hm⟩ | ⟨h13, hm⟩
      ·
        refine JL.val (v := .bool true) (QV.eq (QV.move rfl) (congrArg Value.bool (decide_eq_true h13))) rfl rfl rfl ?_
        refine JL.skip (d := some 22) rfl rfl rfl ?_
        refine JL.skip (d := some 23) rfl rfl rfl ?_
        refine JL.skip (d := some 24) rfl rfl rfl ?_
        refine JL.skip (d := some 25) rfl rfl rfl ?_
        refine JL.val (v := .bool true) (QV.pickT rfl rfl) rfl rfl rfl ?_
        refine JL.val (v := .bool true) (QV.move rfl) rfl rfl rfl ?_
        refine JL.skip (d := some 28) rfl rfl rfl ?_
        refine JL.skip (d := some 29) rfl rfl rfl ?_
        refine JL.skip (d := some 30) rfl rfl rfl ?_
        refine JL.skip (d := some 31) rfl rfl rfl ?_
        refine JL.skip (d := some 32) rfl rfl rfl ?_
        refine JL.val (v := .bool true) (QV.pickT rfl rfl) rfl rfl rfl ?_
        refine JL.val (v := .bool true) (QV.move rfl) rfl rfl rfl ?_
        refine JL.skip (d := some 35) rfl rfl rfl ?_
        refine JL.skip (d := some 36) rfl rfl rfl ?_
        refine JL.skip (d := some 37) rfl rfl rfl ?_
        refine JL.skip (d := some 38) rfl rfl rfl ?_
        refine JL.skip (d := some 39) rfl rfl rfl ?_
        refine JL.skip (d := some 40) rfl rfl rfl ?_
        refine JL.skip (d := some 41) rfl rfl rfl ?_
        refine JL.skip (d := some 42) rfl rfl rfl ?_
        refine JL.val (v := .bool true) (QV.pickT rfl rfl) rfl rfl rfl ?_
        refine JL.nil ?_
        refine QJ.then_normal ?_
        refine JC.condT rfl ?_
        refine JC.seq ?_
        refine JC.region ?_
        obtain ⟨y14, hc15, hm⟩ := bind_inv hm
        refine JL.mv (d := some 44) (MV.call (Lo := []) (Lr := [Asr.vw (Enc.int .u8) (s1.v) x2, Asr.vw (Enc.int .u8) (s3.v) x4]) (F27.spec _ hc15) rfl Try.func27 rfl rfl rfl [] [0, 1] rfl rfl rfl trivial) rfl rfl rfl ?_
        rintro _ _ ⟨_, ⟨rfl, rfl⟩, rfl⟩
        refine JL.val (v := .bool y14) (QV.assign rfl) rfl rfl rfl ?_
        refine JL.nil ?_
        refine QJ.then_normal ?_
        refine JC.ret ?_
        refine QJ.then_ret ?_
        obtain rfl := Option.some.inj hm
        exact QJ.body (vs := [.bool y14]) (.inl rfl) rfl (ResVs.cons (ResV.tmp rfl) ResVs.nil) [] rfl rfl (.inr trivial) ⟨rfl, rfl⟩
      ·
        refine JL.val (v := .bool false) (QV.eq (QV.move rfl) (congrArg Value.bool (decide_eq_false h13))) rfl rfl rfl ?_
        refine JL.val (v := .int .i64 x5) (QV.move rfl) rfl rfl rfl ?_
        refine JL.val (v := s3.v) (QV.move rfl) rfl rfl rfl ?_
        refine JL.val (v := .int .i64 ((x4).length : Int)) (QV.len (Rdg.vw 1 rfl) Try.underlying23 rfl) rfl rfl rfl ?_
        refine JL.val (v := .bool (decide (((x4).length : Int) ≤ x5))) (QV.geq rfl rfl) rfl rfl rfl ?_
        refine JL.val (v := .bool (decide (((x4).length : Int) ≤ x5))) (QV.pickF rfl rfl) rfl rfl rfl ?_
        rcases ite_inv hm with ⟨h16, hm⟩ | ⟨h16, hm⟩
        ·
          refine JL.val (v := .bool true) (QV.eq (QV.move rfl) (congrArg Value.bool (decide_eq_true h16))) rfl rfl rfl ?_
          refine JL.skip (d := some 28) rfl rfl rfl ?_
          refine JL.skip (d := some 29) rfl rfl rfl ?_
          refine JL.skip (d := some 30) rfl rfl rfl ?_
          refine JL.skip (d := some 31) rfl rfl rfl ?_
          refine JL.skip (d := some 32) rfl rfl rfl ?_
          refine JL.val (v := .bool true) (QV.pickT rfl rfl) rfl rfl rfl ?_
          refine JL.val (v := .bool true) (QV.move rfl) rfl rfl rfl ?_
          refine JL.skip (d := some 35) rfl rfl rfl ?_
          refine JL.skip (d := some 36) rfl rfl rfl ?_
          refine JL.skip (d := some 37) rfl rfl rfl ?_
          refine JL.skip (d := some 38) rfl rfl rfl ?_
          refine JL.skip (d := some 39) rfl rfl rfl ?_
          refine JL.skip (d := some 40) rfl rfl rfl ?_
          refine JL.skip (d := some 41) rfl rfl rfl ?_
          refine JL.skip (d := some 42) rfl rfl rfl ?_
          refine JL.val (v := .bool true) (QV.pickT rfl rfl) rfl rfl rfl ?_
          refine JL.nil ?_
          refine QJ.then_normal ?_
          refine JC.condT rfl ?_
          refine JC.seq ?_
          refine JC.region ?_
          obtain ⟨y17, hc18, hm⟩ := bind_inv hm
          refine JL.mv (d := some 44) (MV.call (Lo := []) (Lr := [Asr.vw (Enc.int .u8) (s1.v) x2, Asr.vw (Enc.int .u8) (s3.v) x4]) (F27.spec _ hc18) rfl Try.func27 rfl rfl rfl [] [0, 1] rfl rfl rfl trivial) rfl rfl rfl ?_
          rintro _ _ ⟨_, ⟨rfl, rfl⟩, rfl⟩
          refine JL.val (v := .bool y17) (QV.assign rfl) rfl rfl rfl ?_
          refine JL.nil ?_
          refine QJ.then_normal ?_
          refine JC.ret ?_
          refine QJ.then_ret ?_
          obtain rfl := Option.some.inj hm
          exact QJ.body (vs := [.bool y17]) (.inl rfl) rfl (ResVs.cons (ResV.tmp rfl) ResVs.nil) [] rfl rfl (.inr trivial) ⟨rfl, rfl⟩
        ·
          refine JL.val (v := .bool false) (QV.eq (QV.move rfl) (congrArg Value.bool (decide_eq_false h16))) rfl rfl rfl ?_
          refine JL.val (v := s3.v) (QV.move rfl) rfl rfl rfl ?_
          refine JL.val (v := .int .i64 ((x4).length : Int)) (QV.len (Rdg.vw 1 rfl) Try.underlying23 rfl) rfl rfl rfl ?_
          refine JL.val (v := .int .i64 x5) (QV.move rfl) rfl rfl rfl ?_
          refine JL.val (v := .int .i64 (IntKind.wrap .i64 (((x4).length : Int) - x5))) (QV.sub rfl rfl) rfl rfl rfl ?_
          refine JL.val (v := .bool (decide ((IntKind.wrap .i64 (((x4).length : Int) - x5)) < (32 : Int)))) (QV.lss rfl rfl) rfl rfl rfl ?_
          refine JL.val (v := .bool (decide ((IntKind.wrap .i64 (((x4).length : Int) - x5)) < (32 : Int)))) (QV.pickF rfl rfl) rfl rfl rfl ?_
          rcases ite_inv hm with ⟨h19, hm⟩ | ⟨h19, hm⟩
          ·
            refine JL.val (v := .bool true) (QV.eq (QV.move rfl) (congrArg Value.bool (decide_eq_true h19))) rfl rfl rfl ?_
            refine JL.skip (d := some 35) rfl rfl rfl ?_
            refine JL.skip (d := some 36) rfl rfl rfl ?_
            refine JL.skip (d := some 37) rfl rfl rfl ?_
            refine JL.skip (d := some 38) rfl rfl rfl ?_
            refine JL.skip (d := some 39) rfl rfl rfl ?_
            refine JL.skip (d := some 40) rfl rfl rfl ?_
            refine JL.skip (d := some 41) rfl rfl rfl ?_
            refine JL.skip (d := some 42) rfl rfl rfl ?_
            refine JL.val (v := .bool true) (QV.pickT rfl rfl) rfl rfl rfl ?_
            refine JL.nil ?_
            refine QJ.then_normal ?_
            refine JC.condT rfl ?_
            refine JC.seq ?_
            refine JC.region ?_
            obtain ⟨y20, hc21, hm⟩ := bind_inv hm
            refine JL.mv (d := some 44) (MV.call (Lo := []) (Lr := [Asr.vw (Enc.int .u8) (s1.v) x2, Asr.vw (Enc.int .u8) (s3.v) x4]) (F27.spec _ hc21) rfl Try.func27 rfl rfl rfl [] [0, 1] rfl rfl rfl trivial) rfl rfl rfl ?_
            rintro _ _ ⟨_, ⟨rfl, rfl⟩, rfl⟩
            refine JL.val (v := .bool y20) (QV.assign rfl) rfl rfl rfl ?_
            refine JL.nil ?_
            refine QJ.then_normal ?_
            refine JC.ret ?_
            refine QJ.then_ret ?_
            obtain rfl := Option.some.inj hm
            exact QJ.body (vs := [.bool y20]) (.inl rfl) rfl (ResVs.cons (ResV.tmp rfl) ResVs.nil) [] rfl rfl (.inr trivial) ⟨rfl, rfl⟩
          ·
            refine JL.val (v := .bool false) (QV.eq (QV.move rfl) (congrArg Value.bool (decide_eq_false h19))) rfl rfl rfl ?_
            refine JL.val (v := s1.v) (QV.move rfl) rfl rfl rfl ?_
            refine JL.val (v := s3.v) (QV.move rfl) rfl rfl rfl ?_
            refine JL.val (v := .int .i64 x5) (QV.move rfl) rfl rfl rfl ?_
            refine JL.val (v := .int .i64 x5) (QV.move rfl) rfl rfl rfl ?_
            refine JL.val (v := .int .i64 (IntKind.wrap .i64 (x5 + (32 : Int)))) (QV.add rfl rfl) rfl rfl rfl ?_
            obtain ⟨h22, hm⟩ := guard_inv hm
            refine JL.val (v := (SlV.sub ((Enc.int .u8)).sz s3 x5 (IntKind.wrap .i64 (x5 + (32 : Int)))).v) (QV.sliceV (Rdg.vw 1 rfl) Try.underlying23 tk_5 rfl rfl rfl h22) rfl rfl rfl ?_
            obtain ⟨y23, hc24, hm⟩ := bind_inv hm
            refine JL.mv (d := some 41) (MV.call (Lo := []) (Lr := [Asr.vw (Enc.int .u8) (s1.v) x2, Asr.vw (Enc.int .u8) (s3.v) x4]) (F31.spec (s1) ((SlV.sub ((Enc.int .u8)).sz s3 x5 (IntKind.wrap .i64 (x5 + (32 : Int))))) (x2) ((subL x4 x5 (IntKind.wrap .i64 (x5 + (32 : Int))))) _ hc24) rfl Try.func31 rfl rfl rfl [] [0, 1] rfl rfl rfl ⟨(Drv.vw 0 rfl), ⟨((Drv.vw 1 rfl).subV h22), trivial⟩⟩) rfl rfl rfl ?_
            rintro _ _ ⟨_, ⟨rfl, rfl⟩, rfl⟩
            refine JL.val (v := .bool (!y23)) (QV.not rfl) rfl rfl rfl ?_
            refine JL.val (v := .bool (!y23)) (QV.pickF rfl rfl) rfl rfl rfl ?_
            refine JL.nil ?_
            refine QJ.then_normal ?_
            rcases ite_inv hm with ⟨h25, hm⟩ | ⟨h25, hm⟩
            ·
              refine JC.condF' rfl (congrArg Bool.not h25) ?_
              refine JC.skip ?_
              refine QJ.then_normal ?_
              refine JC.seq ?_
              refine JC.region ?_
              refine JL.val (v := s1.v) (QV.move rfl) rfl rfl rfl ?_
              refine JL.val (v := s3.v) (QV.move rfl) rfl rfl rfl ?_
              obtain ⟨y26, hc27, hm⟩ := bind_inv hm
              refine JL.mv (d := some 47) (MV.call (Lo := []) (Lr := [Asr.vw (Enc.int .u8) (s1.v) x2, Asr.vw (Enc.int .u8) (s3.v) x4]) (F28.spec (s1) (s3) (x2) (x4) _ hc27) rfl Try.func28 rfl rfl rfl [] [0, 1] rfl rfl rfl ⟨(Drv.vw 0 rfl), ⟨(Drv.vw 1 rfl), trivial⟩⟩) rfl rfl rfl ?_
              rintro _ _ ⟨_, ⟨z28, rfl, rfl⟩, rfl⟩
              refine JL.val (v := z28.v) (QV.assign rfl) rfl rfl rfl ?_
              refine JL.nil ?_
              refine QJ.then_normal ?_
              refine JC.seq ?_
              refine JC.seq ?_
              refine JC.region ?_
              refine JL.val (v := .int .i64 (0 : Int)) (QV.assign rfl) rfl rfl rfl ?_
              refine JL.nil ?_
              refine QJ.then_normal ?_
              refine JC.cutK (Y := Unit × Unit) (fun y => match y with | (_, _) => F9.j1 = some r) (fun y => match y with | (_, _) => []) (fun y => match y with | (_, _) => []) ?_ ?_
              ·
                rintro ⟨⟨⟩, ⟨⟩⟩ hm
                unfold F9.j1 at hm
                show QJ _ _ [] [] _ _
                refine QJ.then_normal ?_
                refine JC.seq ?_
                refine JC.region ?_
                refine JL.val (v := .bool false) (QV.assign rfl) rfl rfl rfl ?_
                refine JL.nil ?_
                refine QJ.then_normal ?_
                refine JC.ret ?_
                obtain rfl := Option.some.inj hm
                exact QJ.body (vs := [.bool false]) (.inl rfl) rfl (ResVs.cons (ResV.tmp rfl) ResVs.nil) [] rfl rfl (.inr trivial) ⟨rfl, rfl⟩
              ·
                refine JC.block ?_
                obtain ⟨y31, hl32, hmo33⟩ := bind_inv hm
                refine JC.loop (F9.b1 x5 y26) (fun x z => match x, z with | d29, _ => [(2, .int .i64 x5), (7, z28.v), (8, .int .i64 d29)]) (fun x z => match x, z with | d29, _ => [Asr.of 52 (Enc.pair (Enc.int .i64) (Enc.pair (Enc.int .i64) (Enc.int .i64))) (z28.v) y26]) (0 : Int) () y31 hl32 [0] (by exact ⟨rfl, rfl, rfl, trivial⟩) rfl rfl ?_
                rintro d29 ⟨⟩ s34 hm
                unfold F9.b1 at hm
                dsimp only at hm
                show JC _ _ _ [(2, .int .i64 x5), (7, z28.v), (8, .int .i64 d29)] [Asr.of 52 (Enc.pair (Enc.int .i64) (Enc.pair (Enc.int .i64) (Enc.int .i64))) (z28.v) y26] _ _
                refine JC.seq ?_
                refine JC.seq ?_
                refine JC.region ?_
                refine JL.val (v := .int .i64 d29) (QV.move rfl) rfl rfl rfl ?_
                refine JL.val (v := z28.v) (QV.move rfl) rfl rfl rfl ?_
                refine JL.val (v := .int .i64 ((y26).length : Int)) (QV.len (Rdg.of 0 rfl) Try.underlying47 rfl) rfl rfl rfl ?_
                refine JL.val (v := .bool (decide (d29 < ((y26).length : Int)))) (QV.lss rfl rfl) rfl rfl rfl ?_
                refine JL.nil ?_
                refine QJ.then_normal ?_
                rcases ite_inv hm with ⟨h35, hm⟩ | ⟨h35, hm⟩
                ·
                  refine JC.condT' rfl (decide_eq_true h35) ?_
                  refine JC.skip ?_
                  refine QJ.then_normal ?_
                  refine JC.seq ?_
                  refine JC.cutK (Y := Unit × Unit) (fun y => match y with | (_, _) => F9.j2 d29 = some s34) (fun y => match y with | (_, _) => [(2, .int .i64 x5), (7, z28.v), (8, .int .i64 d29)]) (fun y => match y with | (_, _) => [Asr.of 52 (Enc.pair (Enc.int .i64) (Enc.pair (Enc.int .i64) (Enc.int .i64))) (z28.v) y26]) ?_ ?_
                  ·
                    rintro ⟨⟨⟩, ⟨⟩⟩ hm
                    unfold F9.j2 at hm
                    show QJ _ _ [(2, .int .i64 x5), (7, z28.v), (8, .int .i64 d29)] [Asr.of 52 (Enc.pair (Enc.int .i64) (Enc.pair (Enc.int .i64) (Enc.int .i64))) (z28.v) y26] _ _
                    refine QJ.then_normal ?_
                    refine JC.region ?_
                    refine JL.val (v := .int .i64 d29) (QV.move rfl) rfl rfl rfl ?_
                    refine JL.val (v := .int .i64 (IntKind.wrap .i64 (d29 + (1 : Int)))) (QV.add rfl rfl) rfl rfl rfl ?_
                    refine JL.val (v := .int .i64 (IntKind.wrap .i64 (d29 + (1 : Int)))) (QV.assign rfl) rfl rfl rfl ?_
                    refine JL.nil ?_
                    obtain rfl := Option.some.inj hm
                    exact QJ.round_on (IntKind.wrap .i64 (d29 + (1 : Int))) () [0] (by exact ⟨rfl, rfl, rfl, trivial⟩) rfl rfl
                  ·
                    refine JC.block ?_
                    refine JC.seq ?_
                    refine JC.regionT [Asr.of 52 (Enc.pair (Enc.int .i64) (Enc.pair (Enc.int .i64) (Enc.int .i64))) (z28.v) y26] (fun t => false) [(0, true), (1, true), (2, true), (3, true), (4, true), (5, false), (6, false), (7, false), (8, false), (9, true), (10, true), (11, true), (12, true), (13, true), (14, true), (15, true), (16, true), (17, true), (18, true), (19, true), (20, false), (21, false), (22, false)] (by kernel_rfl) (by kernel_rfl) (by kernel_rfl) rfl (fun hsel => ?_)
                    refine JT.take (i := 0) (v := z28.v) hsel rfl (QV.move rfl) rfl rfl rfl [0] rfl rfl ?_
                    refine JT.take (i := 1) (v := .int .i64 d29) hsel rfl (QV.move rfl) rfl rfl rfl [0] rfl rfl ?_
                    obtain ⟨h36, hm⟩ := guard_inv hm
                    refine JT.take (i := 2) (v := .pointer (some (elA (z28.v) (Int.toNat d29 * ((Enc.pair (Enc.int .i64) (Enc.pair (Enc.int .i64) (Enc.int .i64)))).sz)))) hsel rfl (QV.indexA (Rdg.of 0 rfl) Try.underlying47 tk_52 rfl rfl h36) rfl rfl rfl [0] rfl rfl ?_
                    refine JT.take (i := 3) (v := .pointer (some ((elA (z28.v) (Int.toNat d29 * ((Enc.pair (Enc.int .i64) (Enc.pair (Enc.int .i64) (Enc.int .i64)))).sz)).add 0))) hsel rfl (QV.fieldA fo_52_0 rfl) rfl rfl rfl [0] rfl rfl ?_
                    refine JT.take (i := 4) (v := .int .i64 (gd y26 d29).1) hsel rfl (QV.elF (Rdg.of 0 rfl) tk_3 rfl h36 rfl) rfl rfl rfl [0] rfl rfl ?_
                    refine JT.only (i := 5) (d := some 59) rfl (MV.ofQV (v := .int .i64 x5) (QV.move rfl)) rfl rfl rfl ?_
                    rintro _ _ ⟨rfl, rfl⟩
                    refine ⟨fun _ => ⟨[0], rfl, rfl⟩, ?_⟩
                    refine JT.only (i := 6) (d := some 60) rfl (MV.ofQV (v := .int .i64 (IntKind.wrap .i64 (x5 + (32 : Int)))) (QV.add rfl rfl)) rfl rfl rfl ?_
                    rintro _ _ ⟨rfl, rfl⟩
                    refine ⟨fun _ => ⟨[0], rfl, rfl⟩, ?_⟩
                    refine JT.only (i := 7) (d := some 61) rfl (MV.ofQV (v := .bool (decide ((gd y26 d29).1 < (IntKind.wrap .i64 (x5 + (32 : Int)))))) (QV.lss rfl rfl)) rfl rfl rfl ?_
                    rintro _ _ ⟨rfl, rfl⟩
                    refine ⟨fun _ => ⟨[0], rfl, rfl⟩, ?_⟩
                    rcases ite_inv hm with ⟨h37, hm⟩ | ⟨h37, hm⟩
                    ·
                      refine JT.only (i := 8) (d := some 62) rfl (MV.ofQV (v := .bool true) (QV.eq (QV.move rfl) (congrArg Value.bool (decide_eq_true h37)))) rfl rfl rfl ?_
                      rintro _ _ ⟨rfl, rfl⟩
                      refine ⟨fun _ => ⟨[0], rfl, rfl⟩, ?_⟩
                      refine JT.take (i := 9) (v := z28.v) hsel rfl (QV.move rfl) rfl rfl rfl [0] rfl rfl ?_
                      refine JT.take (i := 10) (v := .int .i64 d29) hsel rfl (QV.move rfl) rfl rfl rfl [0] rfl rfl ?_
                      refine JT.take (i := 11) (v := .pointer (some (elA (z28.v) (Int.toNat d29 * ((Enc.pair (Enc.int .i64) (Enc.pair (Enc.int .i64) (Enc.int .i64)))).sz)))) hsel rfl (QV.indexA (Rdg.of 0 rfl) Try.underlying47 tk_52 rfl rfl h36) rfl rfl rfl [0] rfl rfl ?_
                      refine JT.take (i := 12) (v := .pointer (some ((elA (z28.v) (Int.toNat d29 * ((Enc.pair (Enc.int .i64) (Enc.pair (Enc.int .i64) (Enc.int .i64)))).sz)).add 0))) hsel rfl (QV.fieldA fo_52_0 rfl) rfl rfl rfl [0] rfl rfl ?_
                      refine JT.take (i := 13) (v := .int .i64 (gd y26 d29).1) hsel rfl (QV.elF (Rdg.of 0 rfl) tk_3 rfl h36 rfl) rfl rfl rfl [0] rfl rfl ?_
                      refine JT.take (i := 14) (v := z28.v) hsel rfl (QV.move rfl) rfl rfl rfl [0] rfl rfl ?_
                      refine JT.take (i := 15) (v := .int .i64 d29) hsel rfl (QV.move rfl) rfl rfl rfl [0] rfl rfl ?_
                      refine JT.take (i := 16) (v := .pointer (some (elA (z28.v) (Int.toNat d29 * ((Enc.pair (Enc.int .i64) (Enc.pair (Enc.int .i64) (Enc.int .i64)))).sz)))) hsel rfl (QV.indexA (Rdg.of 0 rfl) Try.underlying47 tk_52 rfl rfl h36) rfl rfl rfl [0] rfl rfl ?_
                      refine JT.take (i := 17) (v := .pointer (some ((elA (z28.v) (Int.toNat d29 * ((Enc.pair (Enc.int .i64) (Enc.pair (Enc.int .i64) (Enc.int .i64)))).sz)).add 2))) hsel rfl (QV.fieldA fo_52_2 rfl) rfl rfl rfl [0] rfl rfl ?_
                      refine JT.take (i := 18) (v := .int .i64 (gd y26 d29).2.2) hsel rfl (QV.elF (Rdg.of 0 rfl) tk_3 rfl h36 rfl) rfl rfl rfl [0] rfl rfl ?_
                      refine JT.take (i := 19) (v := .int .i64 (IntKind.wrap .i64 ((gd y26 d29).1 + (gd y26 d29).2.2))) hsel rfl (QV.add rfl rfl) rfl rfl rfl [0] rfl rfl ?_
                      refine JT.only (i := 20) (d := some 74) rfl (MV.ofQV (v := .int .i64 x5) (QV.move rfl)) rfl rfl rfl ?_
                      rintro _ _ ⟨rfl, rfl⟩
                      refine ⟨fun _ => ⟨[0], rfl, rfl⟩, ?_⟩
                      refine JT.only (i := 21) (d := some 75) rfl (MV.ofQV (v := .bool (decide (x5 < (IntKind.wrap .i64 ((gd y26 d29).1 + (gd y26 d29).2.2))))) (QV.gtr rfl rfl)) rfl rfl rfl ?_
                      rintro _ _ ⟨rfl, rfl⟩
                      refine ⟨fun _ => ⟨[0], rfl, rfl⟩, ?_⟩
                      refine JT.only (i := 22) (d := some 76) rfl (MV.ofQV (v := .bool (decide (x5 < (IntKind.wrap .i64 ((gd y26 d29).1 + (gd y26 d29).2.2))))) (QV.pickT rfl rfl)) rfl rfl rfl ?_
                      rintro _ _ ⟨rfl, rfl⟩
                      refine ⟨fun _ => ⟨[0], rfl, rfl⟩, ?_⟩
                      refine JT.nil ?_
                      refine QJ.then_normal ?_
                      rcases ite_inv hm with ⟨h38, hm⟩ | ⟨h38, hm⟩
                      ·
                        refine JC.condT' rfl (decide_eq_true h38) ?_
                        refine JC.seq ?_
                        refine JC.region ?_
                        obtain ⟨y39, hc40, hm⟩ := bind_inv hm
                        refine JL.mv (d := some 77) (MV.call (Lo := []) (Lr := [Asr.of 52 (Enc.pair (Enc.int .i64) (Enc.pair (Enc.int .i64) (Enc.int .i64))) (z28.v) y26]) (F27.spec _ hc40) rfl Try.func27 rfl rfl rfl [] [0] rfl rfl rfl trivial) rfl rfl rfl ?_
                        rintro _ _ ⟨_, ⟨rfl, rfl⟩, rfl⟩
                        refine JL.val (v := .bool y39) (QV.assign rfl) rfl rfl rfl ?_
                        refine JL.nil ?_
                        refine QJ.then_normal ?_
                        refine JC.ret ?_
                        refine QJ.block_ret ?_
                        refine QJ.cut_ret ?_
                        refine QJ.then_ret ?_
                        obtain rfl := Option.some.inj hm
                        refine QJ.round_ret (fun hy => ?_)
                        subst hy
                        refine QJ.block_ret ?_
                        refine QJ.cut_ret ?_
                        refine QJ.then_ret ?_
                        obtain rfl := Option.some.inj hmo33
                        exact QJ.body (vs := [.bool y39]) (.inl rfl) rfl (ResVs.cons (ResV.tmp rfl) ResVs.nil) [] rfl rfl (.inr trivial) ⟨rfl, rfl⟩
                      ·
                        refine JC.condF' rfl (decide_eq_false h38) ?_
                        refine JC.skip ?_
                        refine QJ.block_normal ?_
                        exact QJ.cut_normal ((), ()) hm [0] (by exact ⟨rfl, rfl, rfl, trivial⟩) rfl rfl
                    ·
                      refine JT.only (i := 8) (d := some 62) rfl (MV.ofQV (v := .bool false) (QV.eq (QV.move rfl) (congrArg Value.bool (decide_eq_false h37)))) rfl rfl rfl ?_
                      rintro _ _ ⟨rfl, rfl⟩
                      refine ⟨fun _ => ⟨[0], rfl, rfl⟩, ?_⟩
                      refine JT.skip (i := 9) (d := some 63) hsel rfl rfl rfl rfl [0] rfl rfl ?_
                      refine JT.skip (i := 10) (d := some 64) hsel rfl rfl rfl rfl [0] rfl rfl ?_
                      refine JT.skip (i := 11) (d := some 65) hsel rfl rfl rfl rfl [0] rfl rfl ?_
                      refine JT.skip (i := 12) (d := some 66) hsel rfl rfl rfl rfl [0] rfl rfl ?_
                      refine JT.skip (i := 13) (d := some 67) hsel rfl rfl rfl rfl [0] rfl rfl ?_
                      refine JT.skip (i := 14) (d := some 68) hsel rfl rfl rfl rfl [0] rfl rfl ?_
                      refine JT.skip (i := 15) (d := some 69) hsel rfl rfl rfl rfl [0] rfl rfl ?_
                      refine JT.skip (i := 16) (d := some 70) hsel rfl rfl rfl rfl [0] rfl rfl ?_
                      refine JT.skip (i := 17) (d := some 71) hsel rfl rfl rfl rfl [0] rfl rfl ?_
                      refine JT.skip (i := 18) (d := some 72) hsel rfl rfl rfl rfl [0] rfl rfl ?_
                      refine JT.skip (i := 19) (d := some 73) hsel rfl rfl rfl rfl [0] rfl rfl ?_
                      refine JT.skipO (i := 20) (d := some 74) rfl rfl rfl rfl [0] rfl rfl ?_
                      refine JT.skipO (i := 21) (d := some 75) rfl rfl rfl rfl [0] rfl rfl ?_
                      refine JT.only (i := 22) (d := some 76) rfl (MV.ofQV (v := .bool false) (QV.pickF rfl rfl)) rfl rfl rfl ?_
                      rintro _ _ ⟨rfl, rfl⟩
                      refine ⟨fun _ => ⟨[0], rfl, rfl⟩, ?_⟩
                      refine JT.nil ?_
                      refine QJ.then_normal ?_
                      refine JC.condF rfl ?_
                      refine JC.skip ?_
                      refine QJ.block_normal ?_
                      exact QJ.cut_normal ((), ()) hm [0] (by exact ⟨rfl, rfl, rfl, trivial⟩) rfl rfl
                ·
                  refine JC.condF' rfl (decide_eq_false h35) ?_
                  refine JC.exit ?_
                  refine QJ.then_exit ?_
                  obtain rfl := Option.some.inj hm
                  refine QJ.round_exit (fun hy => ?_)
                  subst hy
                  refine QJ.block_hit ?_
                  exact QJ.cut_normal ((), ()) hmo33 [] trivial rfl rfl
            ·
              refine JC.condT' rfl (congrArg Bool.not (bfalse h25)) ?_
              refine JC.seq ?_
              refine JC.region ?_
              obtain ⟨y41, hc42, hm⟩ := bind_inv hm
              refine JL.mv (d := some 44) (MV.call (Lo := []) (Lr := [Asr.vw (Enc.int .u8) (s1.v) x2, Asr.vw (Enc.int .u8) (s3.v) x4]) (F27.spec _ hc42) rfl Try.func27 rfl rfl rfl [] [0, 1] rfl rfl rfl trivial) rfl rfl rfl ?_
              rintro _ _ ⟨_, ⟨rfl, rfl⟩, rfl⟩
              refine JL.val (v := .bool y41) (QV.assign rfl) rfl rfl rfl ?_
              refine JL.nil ?_
              refine QJ.then_normal ?_
              refine JC.ret ?_
              refine QJ.then_ret ?_
              obtain rfl := Option.some.inj hm
              exact QJ.body (vs := [.bool y41]) (.inl rfl) rfl (ResVs.cons (ResV.tmp rfl) ResVs.nil) [] rfl rfl (.inr trivial) ⟨rfl, rfl⟩

end Go.Proofs.Ytedokgdilpfomaa
