/- Written by gen.py: functions and their contracts. -/
import Derived.Test.YtpophpendlnehaaLzf
namespace Go.Proofs.Ytpophpendlnehaa
open Go Go.Eng Go.Proofs
set_option linter.unusedVariables false
set_option linter.unusedSimpArgs false
/-! ### 5: drogher/drogherlaw11.LzAgain -/
noncomputable def F5.j1 (x3 : Int) (d16 : List Int) : Option Bool :=
  ((F18.m (d16) (x3)).bind fun y17 => (if ((y17).length : Int) ≤ (IntKind.wrap .i64 ((IntKind.wrap .i64 (Int.tdiv ((d16).length : Int) (258 : Int))) + (4 : Int))) then ((F17.m).bind fun y21 => some y21) else some false))
noncomputable def F5.b1 (x1 : Int) : (List Int × Int) → Option ((List Int × Int) ⊕ (List Int))
  | (d23, d24) => (if d24 < ((d23).length : Int) then (if 0 ≤ d24 ∧ d24 < ((d23).length : Int) then some (.inl ((List.set d23 (Int.toNat d24) x1), (IntKind.wrap .i64 (d24 + (1 : Int))))) else none) else some (.inr d23))
noncomputable def F5.m (x1 : Int) (x2 : Int) (x3 : Int) : Option Bool :=
  (if (3000 : Int) < x2 then ((F17.m).bind fun y6 => some y6) else (if x3 < (1 : Int) then ((F17.m).bind fun y9 => some y9) else (if (1000 : Int) < x3 then ((F17.m).bind fun y12 => some y12) else (if 0 ≤ x2 ∧ x2 * 1 ≤ 281474976710656 ∧ x2 ≤ 9223372036854775807 then ((loop (F5.b1 x1) ((List.replicate (Int.toNat x2) (0 : Int)), (0 : Int))).bind fun y => match y with | d16 => F5.j1 x3 (d16)) else none))))
set_option maxRecDepth 100000 in
set_option maxHeartbeats 4000000 in
theorem F5.spec (x1 : Int) (x2 : Int) (x3 : Int) (r : Bool) (hm : F5.m x1 x2 x3 = some r) :
    Ctr Try.prog false 5 [.int .u8 x1, .int .u16 x2, .int .i64 x3] [] (fun v L' => v = .bool r ∧ L' = []) := by
  refine Ctr.intro (n := 44) (env := [(0, .int .u8 x1), (1, .int .u16 x2), (2, .int .i64 x3)]) Try.func5 rfl rfl rfl rfl (fun c => ?_)
  unfold F5.m at hm
  refine JC.seq ?_
  refine JC.region ?_
  refine JL.val (v := .bool false) (QV.assign rfl) rfl rfl rfl ?_
  refine JL.nil ?_
  refine QJ.then_normal ?_
  refine JC.seq ?_
  refine JC.seq ?_
  refine JC.region ?_
  refine JL.val (v := .int .u16 x2) (QV.move rfl) rfl rfl rfl ?_
  refine JL.val (v := .bool (decide ((3000 : Int) < x2))) (QV.gtr rfl rfl) rfl rfl rfl ?_
  rcases ite_inv hm with ⟨h5, hm⟩ | ⟨h5, hm⟩
  ·
    refine JL.val (v := .bool true) (QV.eq (QV.move rfl) (congrArg Value.bool (decide_eq_true h5))) rfl rfl rfl ?_
    refine JL.skip (d := some 12) rfl rfl rfl ?_
    refine JL.skip (d := some 13) rfl rfl rfl ?_
    refine JL.val (v := .bool true) (QV.pickT rfl rfl) rfl rfl rfl ?_
    refine JL.val (v := .bool true) (QV.move rfl) rfl rfl rfl ?_
    refine JL.skip (d := some 16) rfl rfl rfl ?_
    refine JL.skip (d := some 17) rfl rfl rfl ?_
    refine JL.val (v := .bool true) (QV.pickT rfl rfl) rfl rfl rfl ?_
    refine JL.nil ?_
    refine QJ.then_normal ?_
    refine JC.condT rfl ?_
    refine JC.seq ?_
    refine JC.region ?_
    obtain ⟨y6, hc7, hm⟩ := bind_inv hm
    refine JL.mv (d := some 19) (MV.call (Lo := []) (Lr := []) (F17.spec _ hc7) rfl Try.func17 rfl rfl rfl [] [] rfl rfl rfl trivial) rfl rfl rfl ?_
    rintro _ _ ⟨_, ⟨rfl, rfl⟩, rfl⟩
    refine JL.val (v := .bool y6) (QV.assign rfl) rfl rfl rfl ?_
    refine JL.nil ?_
    refine QJ.then_normal ?_
    refine JC.ret ?_
    refine QJ.then_ret ?_
    obtain rfl := Option.some.inj hm
    exact QJ.body (vs := [.bool y6]) (.inl rfl) rfl (ResVs.cons (ResV.tmp rfl) ResVs.nil) [] rfl rfl (.inr trivial) ⟨rfl, rfl⟩
  ·
    refine JL.val (v := .bool false) (QV.eq (QV.move rfl) (congrArg Value.bool (decide_eq_false h5))) rfl rfl rfl ?_
    refine JL.val (v := .int .i64 x3) (QV.move rfl) rfl rfl rfl ?_
    refine JL.val (v := .bool (decide (x3 < (1 : Int)))) (QV.lss rfl rfl) rfl rfl rfl ?_
    refine JL.val (v := .bool (decide (x3 < (1 : Int)))) (QV.pickF rfl rfl) rfl rfl rfl ?_
    rcases ite_inv hm with ⟨h8, hm⟩ | ⟨h8, hm⟩
    ·
      refine JL.val (v := .bool true) (QV.eq (QV.move rfl) (congrArg Value.bool (decide_eq_true h8))) rfl rfl rfl ?_
      refine JL.skip (d := some 16) rfl rfl rfl ?_
      refine JL.skip (d := some 17) rfl rfl rfl ?_
      refine JL.val (v := .bool true) (QV.pickT rfl rfl) rfl rfl rfl ?_
      refine JL.nil ?_
      refine QJ.then_normal ?_
      refine JC.condT rfl ?_
      refine JC.seq ?_
      refine JC.region ?_
      obtain ⟨y9, hc10, hm⟩ := bind_inv hm
      refine JL.mv (d := some 19) (MV.call (Lo := []) (Lr := []) (F17.spec _ hc10) rfl Try.func17 rfl rfl rfl [] [] rfl rfl rfl trivial) rfl rfl rfl ?_
      rintro _ _ ⟨_, ⟨rfl, rfl⟩, rfl⟩
      refine JL.val (v := .bool y9) (QV.assign rfl) rfl rfl rfl ?_
      refine JL.nil ?_
      refine QJ.then_normal ?_
      refine JC.ret ?_
      refine QJ.then_ret ?_
      obtain rfl := Option.some.inj hm
      exact QJ.body (vs := [.bool y9]) (.inl rfl) rfl (ResVs.cons (ResV.tmp rfl) ResVs.nil) [] rfl rfl (.inr trivial) ⟨rfl, rfl⟩
    ·
      refine JL.val (v := .bool false) (QV.eq (QV.move rfl) (congrArg Value.bool (decide_eq_false h8))) rfl rfl rfl ?_
      refine JL.val (v := .int .i64 x3) (QV.move rfl) rfl rfl rfl ?_
      refine JL.val (v := .bool (decide ((1000 : Int) < x3))) (QV.gtr rfl rfl) rfl rfl rfl ?_
      refine JL.val (v := .bool (decide ((1000 : Int) < x3))) (QV.pickF rfl rfl) rfl rfl rfl ?_
      refine JL.nil ?_
      refine QJ.then_normal ?_
      rcases ite_inv hm with ⟨h11, hm⟩ | ⟨h11, hm⟩
      ·
        refine JC.condT' rfl (decide_eq_true h11) ?_
        refine JC.seq ?_
        refine JC.region ?_
        obtain ⟨y12, hc13, hm⟩ := bind_inv hm
        refine JL.mv (d := some 19) (MV.call (Lo := []) (Lr := []) (F17.spec _ hc13) rfl Try.func17 rfl rfl rfl [] [] rfl rfl rfl trivial) rfl rfl rfl ?_
        rintro _ _ ⟨_, ⟨rfl, rfl⟩, rfl⟩
        refine JL.val (v := .bool y12) (QV.assign rfl) rfl rfl rfl ?_
        refine JL.nil ?_
        refine QJ.then_normal ?_
        refine JC.ret ?_
        refine QJ.then_ret ?_
        obtain rfl := Option.some.inj hm
        exact QJ.body (vs := [.bool y12]) (.inl rfl) rfl (ResVs.cons (ResV.tmp rfl) ResVs.nil) [] rfl rfl (.inr trivial) ⟨rfl, rfl⟩
      ·
        refine JC.condF' rfl (decide_eq_false h11) ?_
        refine JC.skip ?_
        refine QJ.then_normal ?_
        refine JC.seq ?_
        refine JC.region ?_
        refine JL.val (v := .int .u16 x2) (QV.move rfl) rfl rfl rfl ?_
        obtain ⟨h14, hm⟩ := guard_inv hm
        refine JL.mv (d := some 21) (MV.make (E := (Enc.int .u8)) (0 : Int) Try.underlying26 zi_5 (by decide) rfl rfl rfl h14) rfl rfl rfl ?_
        rintro _ _ ⟨z15, rfl, rfl⟩
        refine JL.val (v := z15.v) (QV.assign rfl) rfl rfl rfl ?_
        refine JL.nil ?_
        refine QJ.then_normal ?_
        refine JC.seq ?_
        refine JC.seq ?_
        refine JC.region ?_
        refine JL.val (v := .int .i64 (0 : Int)) (QV.assign rfl) rfl rfl rfl ?_
        refine JL.nil ?_
        refine QJ.then_normal ?_
        refine JC.cutK (Y := (List Int) × Unit) (fun y => match y with | (d16, _) => F5.j1 x3 (d16) = some r) (fun y => match y with | (d16, _) => [(2, .int .i64 x3), (7, z15.v)]) (fun y => match y with | (d16, _) => [Asr.of 5 (Enc.int .u8) (z15.v) d16]) ?_ ?_
        ·
          rintro ⟨d16, ⟨⟩⟩ hm
          unfold F5.j1 at hm
          show QJ _ _ [(2, .int .i64 x3), (7, z15.v)] [Asr.of 5 (Enc.int .u8) (z15.v) d16] _ _
          refine QJ.then_normal ?_
          refine JC.seq ?_
          refine JC.region ?_
          refine JL.val (v := z15.v) (QV.move rfl) rfl rfl rfl ?_
          refine JL.val (v := .int .i64 x3) (QV.move rfl) rfl rfl rfl ?_
          obtain ⟨y17, hc18, hm⟩ := bind_inv hm
          refine JL.mv (d := some 34) (MV.call (Lo := []) (Lr := [Asr.of 5 (Enc.int .u8) (z15.v) d16]) (F18.spec (z15) (d16) (x3) _ hc18) rfl Try.func18 rfl rfl rfl [] [0] rfl rfl rfl ⟨(Drv.of 0 rfl), trivial⟩) rfl rfl rfl ?_
          rintro _ _ ⟨_, ⟨z19, rfl, rfl⟩, rfl⟩
          refine JL.val (v := .int .i64 ((y17).length : Int)) (QV.len (Rdg.of 0 rfl) Try.underlying27 rfl) rfl rfl rfl ?_
          refine JL.val (v := z15.v) (QV.move rfl) rfl rfl rfl ?_
          refine JL.val (v := .int .i64 ((d16).length : Int)) (QV.len (Rdg.of 1 rfl) Try.underlying26 rfl) rfl rfl rfl ?_
          refine JL.val (v := .int .i64 (IntKind.wrap .i64 (Int.tdiv ((d16).length : Int) (258 : Int)))) (QV.quo rfl rfl (by decide)) rfl rfl rfl ?_
          refine JL.val (v := .int .i64 (IntKind.wrap .i64 ((IntKind.wrap .i64 (Int.tdiv ((d16).length : Int) (258 : Int))) + (4 : Int)))) (QV.add rfl rfl) rfl rfl rfl ?_
          refine JL.val (v := .bool (decide (((y17).length : Int) ≤ (IntKind.wrap .i64 ((IntKind.wrap .i64 (Int.tdiv ((d16).length : Int) (258 : Int))) + (4 : Int)))))) (QV.leq rfl rfl) rfl rfl rfl ?_
          rcases ite_inv hm with ⟨h20, hm⟩ | ⟨h20, hm⟩
          ·
            refine JL.val (v := .bool true) (QV.eq (QV.move rfl) (congrArg Value.bool (decide_eq_true h20))) rfl rfl rfl ?_
            obtain ⟨y21, hc22, hm⟩ := bind_inv hm
            refine JL.mv (d := some 42) (MV.call (Lo := []) (Lr := [Asr.of 23 (Enc.pair (Enc.int .u8) (Enc.pair (Enc.int .i64) (Enc.int .i64))) (z19.v) y17, Asr.of 5 (Enc.int .u8) (z15.v) d16]) (F17.spec _ hc22) rfl Try.func17 rfl rfl rfl [] [0, 1] rfl rfl rfl trivial) rfl rfl rfl ?_
            rintro _ _ ⟨_, ⟨rfl, rfl⟩, rfl⟩
            refine JL.val (v := .bool y21) (QV.pickT rfl rfl) rfl rfl rfl ?_
            refine JL.val (v := .bool y21) (QV.assign rfl) rfl rfl rfl ?_
            refine JL.nil ?_
            refine QJ.then_normal ?_
            refine JC.ret ?_
            obtain rfl := Option.some.inj hm
            exact QJ.body (vs := [.bool y21]) (.inl rfl) rfl (ResVs.cons (ResV.tmp rfl) ResVs.nil) [] rfl rfl (.inr trivial) ⟨rfl, rfl⟩
          ·
            refine JL.val (v := .bool false) (QV.eq (QV.move rfl) (congrArg Value.bool (decide_eq_false h20))) rfl rfl rfl ?_
            refine JL.skip (d := some 42) rfl rfl rfl ?_
            refine JL.val (v := .bool false) (QV.pickF rfl rfl) rfl rfl rfl ?_
            refine JL.val (v := .bool false) (QV.assign rfl) rfl rfl rfl ?_
            refine JL.nil ?_
            refine QJ.then_normal ?_
            refine JC.ret ?_
            obtain rfl := Option.some.inj hm
            exact QJ.body (vs := [.bool false]) (.inl rfl) rfl (ResVs.cons (ResV.tmp rfl) ResVs.nil) [] rfl rfl (.inr trivial) ⟨rfl, rfl⟩
        ·
          refine JC.block ?_
          obtain ⟨y27, hl28, hmo29⟩ := bind_inv hm
          refine JC.loop (F5.b1 x1) (fun x z => match x, z with | (d23, d24), _ => [(0, .int .u8 x1), (2, .int .i64 x3), (7, z15.v), (8, .int .i64 d24)]) (fun x z => match x, z with | (d23, d24), _ => [Asr.of 5 (Enc.int .u8) (z15.v) d23]) ((List.replicate (Int.toNat x2) (0 : Int)), (0 : Int)) () y27 hl28 [0] (by exact ⟨rfl, rfl, rfl, rfl, trivial⟩) rfl rfl ?_
          rintro ⟨d23, d24⟩ ⟨⟩ s30 hm
          unfold F5.b1 at hm
          dsimp only at hm
          show JC _ _ _ [(0, .int .u8 x1), (2, .int .i64 x3), (7, z15.v), (8, .int .i64 d24)] [Asr.of 5 (Enc.int .u8) (z15.v) d23] _ _
          refine JC.seq ?_
          refine JC.seq ?_
          refine JC.region ?_
          refine JL.val (v := .int .i64 d24) (QV.move rfl) rfl rfl rfl ?_
          refine JL.val (v := z15.v) (QV.move rfl) rfl rfl rfl ?_
          refine JL.val (v := .int .i64 ((d23).length : Int)) (QV.len (Rdg.of 0 rfl) Try.underlying26 rfl) rfl rfl rfl ?_
          refine JL.val (v := .bool (decide (d24 < ((d23).length : Int)))) (QV.lss rfl rfl) rfl rfl rfl ?_
          refine JL.nil ?_
          refine QJ.then_normal ?_
          rcases ite_inv hm with ⟨h31, hm⟩ | ⟨h31, hm⟩
          ·
            refine JC.condT' rfl (decide_eq_true h31) ?_
            refine JC.skip ?_
            refine QJ.then_normal ?_
            refine JC.seq ?_
            refine JC.block ?_
            refine JC.region ?_
            refine JL.val (v := z15.v) (QV.move rfl) rfl rfl rfl ?_
            refine JL.val (v := .int .i64 d24) (QV.move rfl) rfl rfl rfl ?_
            refine JL.val (v := .int .u8 x1) (QV.move rfl) rfl rfl rfl ?_
            obtain ⟨h32, hm⟩ := guard_inv hm
            refine JL.val (v := .pointer (some (elA (z15.v) (Int.toNat d24 * ((Enc.int .u8)).sz)))) (QV.indexA (Rdg.of 0 rfl) Try.underlying26 tk_5 rfl rfl h32) rfl rfl rfl ?_
            refine JL.mv (d := none) (MV.storeEl 0 x1 rfl tk_5 rfl rfl h32 rfl) rfl rfl rfl ?_
            rintro _ _ ⟨rfl, rfl⟩
            refine JL.nil ?_
            refine QJ.block_normal ?_
            refine QJ.then_normal ?_
            refine JC.region ?_
            refine JL.val (v := .int .i64 d24) (QV.move rfl) rfl rfl rfl ?_
            refine JL.val (v := .int .i64 (IntKind.wrap .i64 (d24 + (1 : Int)))) (QV.add rfl rfl) rfl rfl rfl ?_
            refine JL.val (v := .int .i64 (IntKind.wrap .i64 (d24 + (1 : Int)))) (QV.assign rfl) rfl rfl rfl ?_
            refine JL.nil ?_
            obtain rfl := Option.some.inj hm
            exact QJ.round_on ((List.set d23 (Int.toNat d24) x1), (IntKind.wrap .i64 (d24 + (1 : Int)))) () [0] (by exact ⟨rfl, rfl, rfl, rfl, trivial⟩) rfl rfl
          ·
            refine JC.condF' rfl (decide_eq_false h31) ?_
            refine JC.exit ?_
            refine QJ.then_exit ?_
            obtain rfl := Option.some.inj hm
            refine QJ.round_exit (fun hy => ?_)
            subst hy
            refine QJ.block_hit ?_
            exact QJ.cut_normal (d23, ()) hmo29 [0] (by exact ⟨rfl, rfl, trivial⟩) rfl rfl

end Go.Proofs.Ytpophpendlnehaa
