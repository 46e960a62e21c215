/- Written by gen.py: functions and their contracts. -/
import Derived.Test.YtedokgdilpfomaaMat
namespace Go.Proofs.Ytedokgdilpfomaa
open Go Go.Eng Go.Proofs
set_option linter.unusedVariables false
set_option linter.unusedSimpArgs false
/-! ### 7: drogher/drogherlaw15.MatchFinds -/
noncomputable def F7.j1   : Option Bool :=
  ((F27.m).bind fun y18 => some y18)
noncomputable def F7.b1 (x2 : List Int) (x4 : List Int) (y12 : (List (Int × Int × Int))) : Int → Option (Int ⊕ ((Bool) ⊕ Unit))
  | d20 => (if d20 < ((y12).length : Int) then (if 0 ≤ d20 ∧ d20 < ((y12).length : Int) then ((F30.m (x2) (x4) ((gd y12 d20).1) ((gd y12 d20).2.1) ((gd y12 d20).2.2)).bind fun y28 => (if (IntKind.wrap .i64 ((2 : Int) * y28)) < (gd y12 d20).2.2 then some (.inr (.inl (false))) else some (.inl (IntKind.wrap .i64 (d20 + (1 : Int)))))) else none) else some (.inr (.inr (()))))
noncomputable def F7.m (x2 : List Int) (x4 : List Int) : Option Bool :=
  (if (1000 : Int) < ((x2).length : Int) then ((F27.m).bind fun y7 => some y7) else (if (1000 : Int) < ((x4).length : Int) then ((F27.m).bind fun y10 => some y10) else ((F28.m (x2) (x4)).bind fun y12 => ((F29.m (y12) (((x2).length : Int)) (((x4).length : Int))).bind fun y15 => (if y15 = true then ((loop (F7.b1 x2 x4 y12) (0 : Int)).bind fun y => match y with | .inl r => some r | .inr _ => F7.j1) else some false)))))
set_option maxRecDepth 100000 in
set_option maxHeartbeats 4000000 in
theorem F7.spec (s1 : SlV) (s3 : SlV) (x2 : List Int) (x4 : List Int) (r : Bool) (hm : F7.m x2 x4 = some r) :
    Ctr Try.prog false 7 [s1.v, s3.v] [Asr.vw (Enc.int .u8) (s1.v) x2, Asr.vw (Enc.int .u8) (s3.v) x4] (fun v L' => v = .bool r ∧ L' = []) := by
  refine Ctr.intro (n := 47) (env := [(0, s1.v), (1, s3.v)]) Try.func7 rfl rfl rfl rfl (fun c => ?_)
  unfold F7.m at hm
  refine JC.seq ?_
  refine JC.region ?_
  refine JL.val (v := .bool false) (QV.assign rfl) rfl rfl rfl ?_
  refine JL.nil ?_
  refine QJ.then_normal ?_
  refine JC.seq ?_
  refine JC.seq ?_
  refine JC.region ?_
  refine JL.val (v := s1.v) (QV.move rfl) rfl rfl rfl ?_
  refine JL.val (v := .int .i64 ((x2).length : Int)) (QV.len (Rdg.vw 0 rfl) Try.underlying23 rfl) rfl rfl rfl ?_
  refine JL.val (v := .bool (decide ((1000 : Int) < ((x2).length : Int)))) (QV.gtr rfl rfl) rfl rfl rfl ?_
  rcases ite_inv hm with ⟨h6, hm⟩ | ⟨h6, hm⟩
  ·
    refine JL.val (v := .bool true) (QV.eq (QV.move rfl) (congrArg Value.bool (decide_eq_true h6))) rfl rfl rfl ?_
    refine JL.skip (d := some 11) rfl rfl rfl ?_
    refine JL.skip (d := some 12) rfl rfl rfl ?_
    refine JL.skip (d := some 13) rfl rfl rfl ?_
    refine JL.val (v := .bool true) (QV.pickT rfl rfl) rfl rfl rfl ?_
    refine JL.nil ?_
    refine QJ.then_normal ?_
    refine JC.condT rfl ?_
    refine JC.seq ?_
    refine JC.region ?_
    obtain ⟨y7, hc8, hm⟩ := bind_inv hm
    refine JL.mv (d := some 15) (MV.call (Lo := []) (Lr := [Asr.vw (Enc.int .u8) (s1.v) x2, Asr.vw (Enc.int .u8) (s3.v) x4]) (F27.spec _ hc8) rfl Try.func27 rfl rfl rfl [] [0, 1] rfl rfl rfl trivial) rfl rfl rfl ?_
    rintro _ _ ⟨_, ⟨rfl, rfl⟩, rfl⟩
    refine JL.val (v := .bool y7) (QV.assign rfl) rfl rfl rfl ?_
    refine JL.nil ?_
    refine QJ.then_normal ?_
    refine JC.ret ?_
    refine QJ.then_ret ?_
    obtain rfl := Option.some.inj hm
    exact QJ.body (vs := [.bool y7]) (.inl rfl) rfl (ResVs.cons (ResV.tmp rfl) ResVs.nil) [] rfl rfl (.inr trivial) ⟨rfl, rfl⟩
  ·
    refine JL.val (v := .bool false) (QV.eq (QV.move rfl) (congrArg Value.bool (decide_eq_false h6))) rfl rfl rfl ?_
    refine JL.val (v := s3.v) (QV.move rfl) rfl rfl rfl ?_
    refine JL.val (v := .int .i64 ((x4).length : Int)) (QV.len (Rdg.vw 1 rfl) Try.underlying23 rfl) rfl rfl rfl ?_
    refine JL.val (v := .bool (decide ((1000 : Int) < ((x4).length : Int)))) (QV.gtr rfl rfl) rfl rfl rfl ?_
    refine JL.val (v := .bool (decide ((1000 : Int) < ((x4).length : Int)))) (QV.pickF rfl rfl) rfl rfl rfl ?_
    refine JL.nil ?_
    refine QJ.then_normal ?_
    rcases ite_inv hm with ⟨h9, hm⟩ | ⟨h9, hm⟩
    ·
      refine JC.condT' rfl (decide_eq_true h9) ?_
      refine JC.seq ?_
      refine JC.region ?_
      obtain ⟨y10, hc11, hm⟩ := bind_inv hm
      refine JL.mv (d := some 15) (MV.call (Lo := []) (Lr := [Asr.vw (Enc.int .u8) (s1.v) x2, Asr.vw (Enc.int .u8) (s3.v) x4]) (F27.spec _ hc11) rfl Try.func27 rfl rfl rfl [] [0, 1] rfl rfl rfl trivial) rfl rfl rfl ?_
      rintro _ _ ⟨_, ⟨rfl, rfl⟩, rfl⟩
      refine JL.val (v := .bool y10) (QV.assign rfl) rfl rfl rfl ?_
      refine JL.nil ?_
      refine QJ.then_normal ?_
      refine JC.ret ?_
      refine QJ.then_ret ?_
      obtain rfl := Option.some.inj hm
      exact QJ.body (vs := [.bool y10]) (.inl rfl) rfl (ResVs.cons (ResV.tmp rfl) ResVs.nil) [] rfl rfl (.inr trivial) ⟨rfl, rfl⟩
    ·
      refine JC.condF' rfl (decide_eq_false h9) ?_
      refine JC.skip ?_
      refine QJ.then_normal ?_
      refine JC.seq ?_
      refine JC.region ?_
      refine JL.val (v := s1.v) (QV.move rfl) rfl rfl rfl ?_
      refine JL.val (v := s3.v) (QV.move rfl) rfl rfl rfl ?_
      obtain ⟨y12, hc13, hm⟩ := bind_inv hm
      refine JL.mv (d := some 18) (MV.call (Lo := []) (Lr := [Asr.vw (Enc.int .u8) (s1.v) x2, Asr.vw (Enc.int .u8) (s3.v) x4]) (F28.spec (s1) (s3) (x2) (x4) _ hc13) rfl Try.func28 rfl rfl rfl [] [0, 1] rfl rfl rfl ⟨(Drv.vw 0 rfl), ⟨(Drv.vw 1 rfl), trivial⟩⟩) rfl rfl rfl ?_
      rintro _ _ ⟨_, ⟨z14, rfl, rfl⟩, rfl⟩
      refine JL.val (v := z14.v) (QV.assign rfl) rfl rfl rfl ?_
      refine JL.nil ?_
      refine QJ.then_normal ?_
      refine JC.seq ?_
      refine JC.seq ?_
      refine JC.region ?_
      refine JL.val (v := z14.v) (QV.move rfl) rfl rfl rfl ?_
      refine JL.val (v := s1.v) (QV.move rfl) rfl rfl rfl ?_
      refine JL.val (v := .int .i64 ((x2).length : Int)) (QV.len (Rdg.vw 1 rfl) Try.underlying23 rfl) rfl rfl rfl ?_
      refine JL.val (v := s3.v) (QV.move rfl) rfl rfl rfl ?_
      refine JL.val (v := .int .i64 ((x4).length : Int)) (QV.len (Rdg.vw 2 rfl) Try.underlying23 rfl) rfl rfl rfl ?_
      obtain ⟨y15, hc16, hm⟩ := bind_inv hm
      refine JL.mv (d := some 24) (MV.call (Lo := []) (Lr := [Asr.of 52 (Enc.pair (Enc.int .i64) (Enc.pair (Enc.int .i64) (Enc.int .i64))) (z14.v) y12, Asr.vw (Enc.int .u8) (s1.v) x2, Asr.vw (Enc.int .u8) (s3.v) x4]) (F29.spec (z14) (y12) (((x2).length : Int)) (((x4).length : Int)) _ hc16) rfl Try.func29 rfl rfl rfl [] [0, 1, 2] rfl rfl rfl ⟨(Drv.of 0 rfl), trivial⟩) rfl rfl rfl ?_
      rintro _ _ ⟨_, ⟨rfl, rfl⟩, rfl⟩
      refine JL.val (v := .bool (!y15)) (QV.not rfl) rfl rfl rfl ?_
      refine JL.nil ?_
      refine QJ.then_normal ?_
      rcases ite_inv hm with ⟨h17, hm⟩ | ⟨h17, hm⟩
      ·
        refine JC.condF' rfl (congrArg Bool.not h17) ?_
        refine JC.skip ?_
        refine QJ.then_normal ?_
        refine JC.seq ?_
        refine JC.seq ?_
        refine JC.region ?_
        refine JL.val (v := .int .i64 (0 : Int)) (QV.assign rfl) rfl rfl rfl ?_
        refine JL.nil ?_
        refine QJ.then_normal ?_
        refine JC.cutK (Y := Unit × Unit) (fun y => match y with | (_, _) => F7.j1 = some r) (fun y => match y with | (_, _) => []) (fun y => match y with | (_, _) => []) ?_ ?_
        ·
          rintro ⟨⟨⟩, ⟨⟩⟩ hm
          unfold F7.j1 at hm
          show QJ _ _ [] [] _ _
          refine QJ.then_normal ?_
          refine JC.seq ?_
          refine JC.region ?_
          obtain ⟨y18, hc19, hm⟩ := bind_inv hm
          refine JL.mv (d := some 46) (MV.call (Lo := []) (Lr := []) (F27.spec _ hc19) rfl Try.func27 rfl rfl rfl [] [] rfl rfl rfl trivial) rfl rfl rfl ?_
          rintro _ _ ⟨_, ⟨rfl, rfl⟩, rfl⟩
          refine JL.val (v := .bool y18) (QV.assign rfl) rfl rfl rfl ?_
          refine JL.nil ?_
          refine QJ.then_normal ?_
          refine JC.ret ?_
          obtain rfl := Option.some.inj hm
          exact QJ.body (vs := [.bool y18]) (.inl rfl) rfl (ResVs.cons (ResV.tmp rfl) ResVs.nil) [] rfl rfl (.inr trivial) ⟨rfl, rfl⟩
        ·
          refine JC.block ?_
          obtain ⟨y22, hl23, hmo24⟩ := bind_inv hm
          refine JC.loop (F7.b1 x2 x4 y12) (fun x z => match x, z with | d20, _ => [(0, s1.v), (1, s3.v), (5, z14.v), (6, .int .i64 d20)]) (fun x z => match x, z with | d20, _ => [Asr.vw (Enc.int .u8) (s1.v) x2, Asr.vw (Enc.int .u8) (s3.v) x4, Asr.of 52 (Enc.pair (Enc.int .i64) (Enc.pair (Enc.int .i64) (Enc.int .i64))) (z14.v) y12]) (0 : Int) () y22 hl23 [1, 2, 0] (by exact ⟨rfl, rfl, rfl, rfl, trivial⟩) rfl rfl ?_
          rintro d20 ⟨⟩ s25 hm
          unfold F7.b1 at hm
          dsimp only at hm
          show JC _ _ _ [(0, s1.v), (1, s3.v), (5, z14.v), (6, .int .i64 d20)] [Asr.vw (Enc.int .u8) (s1.v) x2, Asr.vw (Enc.int .u8) (s3.v) x4, Asr.of 52 (Enc.pair (Enc.int .i64) (Enc.pair (Enc.int .i64) (Enc.int .i64))) (z14.v) y12] _ _
          refine JC.seq ?_
          refine JC.seq ?_
          refine JC.region ?_
          refine JL.val (v := .int .i64 d20) (QV.move rfl) rfl rfl rfl ?_
          refine JL.val (v := z14.v) (QV.move rfl) rfl rfl rfl ?_
          refine JL.val (v := .int .i64 ((y12).length : Int)) (QV.len (Rdg.of 2 rfl) Try.underlying47 rfl) rfl rfl rfl ?_
          refine JL.val (v := .bool (decide (d20 < ((y12).length : Int)))) (QV.lss rfl rfl) rfl rfl rfl ?_
          refine JL.nil ?_
          refine QJ.then_normal ?_
          rcases ite_inv hm with ⟨h26, hm⟩ | ⟨h26, hm⟩
          ·
            refine JC.condT' rfl (decide_eq_true h26) ?_
            refine JC.skip ?_
            refine QJ.then_normal ?_
            refine JC.seq ?_
            refine JC.block ?_
            refine JC.seq ?_
            refine JC.regionT [Asr.vw (Enc.int .u8) (s1.v) x2, Asr.vw (Enc.int .u8) (s3.v) x4, Asr.of 52 (Enc.pair (Enc.int .i64) (Enc.pair (Enc.int .i64) (Enc.int .i64))) (z14.v) y12] (fun t => false) [(0, true), (1, true), (2, true), (3, true), (4, true), (5, true), (8, true), (9, true), (10, true), (11, true), (12, true), (6, false), (7, false), (13, false)] (by kernel_rfl) (by kernel_rfl) (by kernel_rfl) rfl (fun hsel => ?_)
            refine JT.take (i := 0) (v := s1.v) hsel rfl (QV.move rfl) rfl rfl rfl [0, 1, 2] rfl rfl ?_
            refine JT.take (i := 1) (v := s3.v) hsel rfl (QV.move rfl) rfl rfl rfl [0, 1, 2] rfl rfl ?_
            refine JT.take (i := 2) (v := z14.v) hsel rfl (QV.move rfl) rfl rfl rfl [0, 1, 2] rfl rfl ?_
            refine JT.take (i := 3) (v := .int .i64 d20) hsel rfl (QV.move rfl) rfl rfl rfl [0, 1, 2] rfl rfl ?_
            obtain ⟨h27, hm⟩ := guard_inv hm
            refine JT.take (i := 4) (v := .pointer (some (elA (z14.v) (Int.toNat d20 * ((Enc.pair (Enc.int .i64) (Enc.pair (Enc.int .i64) (Enc.int .i64)))).sz)))) hsel rfl (QV.indexA (Rdg.of 2 rfl) Try.underlying47 tk_52 rfl rfl h27) rfl rfl rfl [0, 1, 2] rfl rfl ?_
            refine JT.take (i := 5) (v := .agg #[.int .i64 (gd y12 d20).1, .int .i64 (gd y12 d20).2.1, .int .i64 (gd y12 d20).2.2]) hsel rfl (QV.eq (QV.elN (Rdg.of 2 rfl) tk_52 rfl h27) rfl) rfl rfl rfl [0, 1, 2] rfl rfl ?_
            refine JT.take (i := 8) (v := z14.v) hsel rfl (QV.move rfl) rfl rfl rfl [0, 1, 2] rfl rfl ?_
            refine JT.take (i := 9) (v := .int .i64 d20) hsel rfl (QV.move rfl) rfl rfl rfl [0, 1, 2] rfl rfl ?_
            refine JT.take (i := 10) (v := .pointer (some (elA (z14.v) (Int.toNat d20 * ((Enc.pair (Enc.int .i64) (Enc.pair (Enc.int .i64) (Enc.int .i64)))).sz)))) hsel rfl (QV.indexA (Rdg.of 2 rfl) Try.underlying47 tk_52 rfl rfl h27) rfl rfl rfl [0, 1, 2] rfl rfl ?_
            refine JT.take (i := 11) (v := .pointer (some ((elA (z14.v) (Int.toNat d20 * ((Enc.pair (Enc.int .i64) (Enc.pair (Enc.int .i64) (Enc.int .i64)))).sz)).add 2))) hsel rfl (QV.fieldA fo_52_2 rfl) rfl rfl rfl [0, 1, 2] rfl rfl ?_
            refine JT.take (i := 12) (v := .int .i64 (gd y12 d20).2.2) hsel rfl (QV.elF (Rdg.of 2 rfl) tk_3 rfl h27 rfl) rfl rfl rfl [0, 1, 2] rfl rfl ?_
            obtain ⟨y28, hc29, hm⟩ := bind_inv hm
            refine JT.only (i := 6) (d := some 38) rfl (MV.call (Lo := []) (Lr := [Asr.vw (Enc.int .u8) (s1.v) x2, Asr.vw (Enc.int .u8) (s3.v) x4, Asr.of 52 (Enc.pair (Enc.int .i64) (Enc.pair (Enc.int .i64) (Enc.int .i64))) (z14.v) y12]) (F30.spec (s1) (s3) (x2) (x4) ((gd y12 d20).1) ((gd y12 d20).2.1) ((gd y12 d20).2.2) _ hc29) rfl Try.func30 rfl rfl rfl [] [0, 1, 2] rfl rfl rfl ⟨(Drv.vw 0 rfl), ⟨(Drv.vw 1 rfl), trivial⟩⟩) rfl rfl rfl ?_
            rintro _ _ ⟨_, ⟨rfl, rfl⟩, rfl⟩
            refine ⟨fun _ => ⟨[0, 1, 2], rfl, rfl⟩, ?_⟩
            refine JT.only (i := 7) (d := some 39) rfl (MV.ofQV (v := .int .i64 (IntKind.wrap .i64 ((2 : Int) * y28))) (QV.mul rfl rfl)) rfl rfl rfl ?_
            rintro _ _ ⟨rfl, rfl⟩
            refine ⟨fun _ => ⟨[0, 1, 2], rfl, rfl⟩, ?_⟩
            refine JT.only (i := 13) (d := some 45) rfl (MV.ofQV (v := .bool (decide ((IntKind.wrap .i64 ((2 : Int) * y28)) < (gd y12 d20).2.2))) (QV.lss rfl rfl)) rfl rfl rfl ?_
            rintro _ _ ⟨rfl, rfl⟩
            refine ⟨fun _ => ⟨[0, 1, 2], rfl, rfl⟩, ?_⟩
            refine JT.nil ?_
            refine QJ.then_normal ?_
            rcases ite_inv hm with ⟨h30, hm⟩ | ⟨h30, hm⟩
            ·
              refine JC.condT' rfl (decide_eq_true h30) ?_
              refine JC.seq ?_
              refine JC.region ?_
              refine JL.val (v := .bool false) (QV.assign rfl) rfl rfl rfl ?_
              refine JL.nil ?_
              refine QJ.then_normal ?_
              refine JC.ret ?_
              refine QJ.block_ret ?_
              refine QJ.then_ret ?_
              obtain rfl := Option.some.inj hm
              refine QJ.round_ret (fun hy => ?_)
              subst hy
              refine QJ.block_ret ?_
              refine QJ.cut_ret ?_
              refine QJ.then_ret ?_
              obtain rfl := Option.some.inj hmo24
              exact QJ.body (vs := [.bool false]) (.inl rfl) rfl (ResVs.cons (ResV.tmp rfl) ResVs.nil) [] rfl rfl (.inr trivial) ⟨rfl, rfl⟩
            ·
              refine JC.condF' rfl (decide_eq_false h30) ?_
              refine JC.skip ?_
              refine QJ.block_normal ?_
              refine QJ.then_normal ?_
              refine JC.region ?_
              refine JL.val (v := .int .i64 d20) (QV.move rfl) rfl rfl rfl ?_
              refine JL.val (v := .int .i64 (IntKind.wrap .i64 (d20 + (1 : Int)))) (QV.add rfl rfl) rfl rfl rfl ?_
              refine JL.val (v := .int .i64 (IntKind.wrap .i64 (d20 + (1 : Int)))) (QV.assign rfl) rfl rfl rfl ?_
              refine JL.nil ?_
              obtain rfl := Option.some.inj hm
              exact QJ.round_on (IntKind.wrap .i64 (d20 + (1 : Int))) () [0, 1, 2] (by exact ⟨rfl, rfl, rfl, rfl, trivial⟩) rfl rfl
          ·
            refine JC.condF' rfl (decide_eq_false h26) ?_
            refine JC.exit ?_
            refine QJ.then_exit ?_
            obtain rfl := Option.some.inj hm
            refine QJ.round_exit (fun hy => ?_)
            subst hy
            refine QJ.block_hit ?_
            exact QJ.cut_normal ((), ()) hmo24 [] trivial rfl rfl
      ·
        refine JC.condT' rfl (congrArg Bool.not (bfalse h17)) ?_
        refine JC.seq ?_
        refine JC.region ?_
        refine JL.val (v := .bool false) (QV.assign rfl) rfl rfl rfl ?_
        refine JL.nil ?_
        refine QJ.then_normal ?_
        refine JC.ret ?_
        refine QJ.then_ret ?_
        obtain rfl := Option.some.inj hm
        exact QJ.body (vs := [.bool false]) (.inl rfl) rfl (ResVs.cons (ResV.tmp rfl) ResVs.nil) [] rfl rfl (.inr trivial) ⟨rfl, rfl⟩

end Go.Proofs.Ytedokgdilpfomaa
