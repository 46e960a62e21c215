/- Written by gen.py: functions and their contracts. -/
import Derived.Test.YtgganckggdjpaaaYImageWrongx1
namespace Go.Proofs.Ytgganckggdjpaaa
open Go Go.Eng Go.Proofs
set_option linter.unusedVariables false
set_option linter.unusedSimpArgs false
/-! ### 27: drogher/drogherlaw25.awake -/
noncomputable def F27.m  : Option Bool :=
  ((F28.m ((128 : Int)) ((9 : Int))).bind fun y2 => match y2 with | (.inl y4) => ((F29.m ((128 : Int)) ((128 : Int)) ((3 : Int))).bind fun y6 => match y6 with | (.inl y8) => ((F29.m ((128 : Int)) ((128 : Int)) ((4 : Int))).bind fun y10 => match y10 with | (.inl y12) => (if (1 : Int) = (0 : Int) then (if (1 : Int) = (0 : Int) then some false else some false) else some false) | (.inr y13) => (if (1 : Int) = (0 : Int) then (if (1 : Int) = (0 : Int) then some false else some false) else some false)) | (.inr y9) => ((F29.m ((128 : Int)) ((128 : Int)) ((4 : Int))).bind fun y26 => match y26 with | (.inl y28) => (if (1 : Int) = (0 : Int) then (if (0 : Int) = (0 : Int) then ((F38.m ((128 : Int)) ((128 : Int)) ((3 : Int)) (y9.1) (y9.2.1) (y9.2.2.1) (y9.2.2.2.1) (y9.2.2.2.2.1) (y9.2.2.2.2.2)).bind fun y32 => (if y32 = (384 : Int) then some (decide ((1 : Int) = (1 : Int))) else some false)) else some false) else some false) | (.inr y29) => (if (1 : Int) = (0 : Int) then (if (0 : Int) = (0 : Int) then ((F38.m ((128 : Int)) ((128 : Int)) ((3 : Int)) (y9.1) (y9.2.1) (y9.2.2.1) (y9.2.2.2.1) (y9.2.2.2.2.1) (y9.2.2.2.2.2)).bind fun y41 => (if y41 = (384 : Int) then some false else some false)) else some false) else some false))) | (.inr y5) => ((F29_1.m ((128 : Int)) ((9 : Int)) (false) ((0 : Int)) (false) ((0 : Int)) ((0 : Int)) ((128 : Int)) ((128 : Int)) ((3 : Int))).bind fun y47 => match y47 with | (.inl y49) => ((F29_1.m ((128 : Int)) ((9 : Int)) (false) ((0 : Int)) (false) ((0 : Int)) ((0 : Int)) ((128 : Int)) ((128 : Int)) ((4 : Int))).bind fun y51 => match y51 with | (.inl y53) => (if (0 : Int) = (0 : Int) then (if (1 : Int) = (0 : Int) then some false else some false) else some false) | (.inr y54) => (if (0 : Int) = (0 : Int) then (if (1 : Int) = (0 : Int) then some false else some false) else some false)) | (.inr y50) => ((F29_1.m ((128 : Int)) ((9 : Int)) (false) ((0 : Int)) (false) ((0 : Int)) ((0 : Int)) ((128 : Int)) ((128 : Int)) ((4 : Int))).bind fun y67 => match y67 with | (.inl y69) => (if (0 : Int) = (0 : Int) then (if (0 : Int) = (0 : Int) then ((F38_1.m ((128 : Int)) ((128 : Int)) ((3 : Int)) ((128 : Int)) ((9 : Int)) (false) ((0 : Int)) (false) ((0 : Int)) ((0 : Int)) (y50.1) (y50.2.1) (y50.2.2.1) (y50.2.2.2.1) (y50.2.2.2.2.1) (y50.2.2.2.2.2)).bind fun y73 => (if y73 = (384 : Int) then some (decide ((1 : Int) = (1 : Int))) else some false)) else some false) else some false) | (.inr y70) => (if (0 : Int) = (0 : Int) then (if (0 : Int) = (0 : Int) then ((F38_1.m ((128 : Int)) ((128 : Int)) ((3 : Int)) ((128 : Int)) ((9 : Int)) (false) ((0 : Int)) (false) ((0 : Int)) ((0 : Int)) (y50.1) (y50.2.1) (y50.2.2.1) (y50.2.2.2.1) (y50.2.2.2.2.1) (y50.2.2.2.2.2)).bind fun y82 => (if y82 = (384 : Int) then some false else some false)) else some false) else some false))))
set_option maxRecDepth 100000 in
set_option maxHeartbeats 4000000 in
theorem F27.spec  (r : Bool) (hm : F27.m  = some r) :
    Ctr Try.prog false 27 [] [] (fun v L' => v = .bool r ∧ L' = []) := by
  refine Ctr.intro (n := 46) (env := []) Try.func27 rfl rfl rfl rfl (fun c => ?_)
  unfold F27.m at hm
  refine JC.seq ?_
  refine JC.region ?_
  refine JL.val (v := .bool false) (QV.assign rfl) rfl rfl rfl ?_
  refine JL.nil ?_
  refine QJ.then_normal ?_
  refine JC.seq ?_
  refine JC.region ?_
  obtain ⟨y2, hc3, hm⟩ := bind_inv hm
  rcases y2 with y4 | y5
  ·
    refine JL.mv (d := some 8) (MV.call (Lo := []) (Lr := []) (F28.spec ((128 : Int)) ((9 : Int)) _ hc3) rfl Try.func28 rfl rfl rfl [] [] rfl rfl rfl trivial) rfl rfl rfl ?_
    rintro _ _ ⟨_, ⟨rfl, rfl⟩, rfl⟩
    refine JL.val (v := .tuple #[.pointer none, .int .i64 (1 : Int)]) (QV.move rfl) rfl rfl rfl ?_
    refine JL.val (v := .pointer none) (QV.extract (vs := [.pointer none, .int .i64 (1 : Int)]) rfl rfl) rfl rfl rfl ?_
    refine JL.val (v := .int .i64 (1 : Int)) (QV.extract (vs := [.pointer none, .int .i64 (1 : Int)]) rfl rfl) rfl rfl rfl ?_
    refine JL.val (v := .pointer none) (QV.assign rfl) rfl rfl rfl ?_
    refine JL.val (v := .int .i64 (1 : Int)) (QV.assign rfl) rfl rfl rfl ?_
    refine JL.nil ?_
    refine QJ.then_normal ?_
    refine JC.seq ?_
    refine JC.region ?_
    refine JL.val (v := .pointer none) (QV.move rfl) rfl rfl rfl ?_
    refine JL.val (v := .agg #[.int .i64 (128 : Int), .int .i64 (128 : Int), .int .i64 (3 : Int)]) (QV.build (vals := [(0, .int .i64 (128 : Int)), (1, .int .i64 (128 : Int)), (2, .int .i64 (3 : Int))]) rfl (by kernel_rfl)) rfl rfl rfl ?_
    obtain ⟨y6, hc7, hm⟩ := bind_inv hm
    rcases y6 with y8 | y9
    ·
      refine JL.mv (d := some 14) (MV.call (Lo := []) (Lr := []) (F29.spec ((128 : Int)) ((128 : Int)) ((3 : Int)) _ hc7) rfl Try.func29 rfl rfl rfl [] [] rfl rfl rfl trivial) rfl rfl rfl ?_
      rintro _ _ ⟨_, ⟨rfl, rfl⟩, rfl⟩
      refine JL.val (v := .tuple #[.pointer none, .int .i64 (1 : Int)]) (QV.move rfl) rfl rfl rfl ?_
      refine JL.val (v := .pointer none) (QV.extract (vs := [.pointer none, .int .i64 (1 : Int)]) rfl rfl) rfl rfl rfl ?_
      refine JL.val (v := .int .i64 (1 : Int)) (QV.extract (vs := [.pointer none, .int .i64 (1 : Int)]) rfl rfl) rfl rfl rfl ?_
      refine JL.val (v := .pointer none) (QV.assign rfl) rfl rfl rfl ?_
      refine JL.val (v := .int .i64 (1 : Int)) (QV.assign rfl) rfl rfl rfl ?_
      refine JL.nil ?_
      refine QJ.then_normal ?_
      refine JC.seq ?_
      refine JC.region ?_
      refine JL.val (v := .pointer none) (QV.move rfl) rfl rfl rfl ?_
      refine JL.val (v := .agg #[.int .i64 (128 : Int), .int .i64 (128 : Int), .int .i64 (4 : Int)]) (QV.build (vals := [(0, .int .i64 (128 : Int)), (1, .int .i64 (128 : Int)), (2, .int .i64 (4 : Int))]) rfl (by kernel_rfl)) rfl rfl rfl ?_
      obtain ⟨y10, hc11, hm⟩ := bind_inv hm
      rcases y10 with y12 | y13
      ·
        refine JL.mv (d := some 20) (MV.call (Lo := []) (Lr := []) (F29.spec ((128 : Int)) ((128 : Int)) ((4 : Int)) _ hc11) rfl Try.func29 rfl rfl rfl [] [] rfl rfl rfl trivial) rfl rfl rfl ?_
        rintro _ _ ⟨_, ⟨rfl, rfl⟩, rfl⟩
        refine JL.val (v := .tuple #[.pointer none, .int .i64 (1 : Int)]) (QV.move rfl) rfl rfl rfl ?_
        refine JL.val (v := .pointer none) (QV.extract (vs := [.pointer none, .int .i64 (1 : Int)]) rfl rfl) rfl rfl rfl ?_
        refine JL.val (v := .int .i64 (1 : Int)) (QV.extract (vs := [.pointer none, .int .i64 (1 : Int)]) rfl rfl) rfl rfl rfl ?_
        refine JL.val (v := .pointer none) (QV.assign rfl) rfl rfl rfl ?_
        refine JL.val (v := .int .i64 (1 : Int)) (QV.assign rfl) rfl rfl rfl ?_
        refine JL.nil ?_
        refine QJ.then_normal ?_
        refine JC.seq ?_
        refine JC.region ?_
        refine JL.val (v := .int .i64 (1 : Int)) (QV.move rfl) rfl rfl rfl ?_
        refine JL.val (v := .bool (decide ((1 : Int) = (0 : Int)))) (QV.eql rfl rfl) rfl rfl rfl ?_
        rcases ite_inv hm with ⟨h14, hm⟩ | ⟨h14, hm⟩
        ·
          refine JL.val (v := .bool true) (QV.eq (QV.move rfl) (congrArg Value.bool (decide_eq_true h14))) rfl rfl rfl ?_
          refine JL.val (v := .int .i64 (1 : Int)) (QV.move rfl) rfl rfl rfl ?_
          refine JL.val (v := .bool (decide ((1 : Int) = (0 : Int)))) (QV.eql rfl rfl) rfl rfl rfl ?_
          refine JL.val (v := .bool (decide ((1 : Int) = (0 : Int)))) (QV.pickT rfl rfl) rfl rfl rfl ?_
          rcases ite_inv hm with ⟨h15, hm⟩ | ⟨h15, hm⟩
          ·
            refine JL.val (v := .bool true) (QV.eq (QV.move rfl) (congrArg Value.bool (decide_eq_true h15))) rfl rfl rfl ?_
            refine JL.val (v := .pointer none) (QV.move rfl) rfl rfl rfl ?_
            refine JL.val (v := .bool false) ((QV.eq (QV.neqP Try.underlying53 rfl rfl (.inl rfl)) (by simp))) rfl rfl rfl ?_
            refine JL.val (v := .bool false) (QV.pickT rfl rfl) rfl rfl rfl ?_
            refine JL.val (v := .bool false) (QV.move rfl) rfl rfl rfl ?_
            refine JL.skip (d := some 34) rfl rfl rfl ?_
            refine JL.skip (d := some 35) rfl rfl rfl ?_
            refine JL.skip (d := some 36) rfl rfl rfl ?_
            refine JL.val (v := .bool false) (QV.pickF rfl rfl) rfl rfl rfl ?_
            refine JL.val (v := .bool false) (QV.move rfl) rfl rfl rfl ?_
            refine JL.skip (d := some 39) rfl rfl rfl ?_
            refine JL.skip (d := some 40) rfl rfl rfl ?_
            refine JL.val (v := .bool false) (QV.pickF rfl rfl) rfl rfl rfl ?_
            refine JL.val (v := .bool false) (QV.move rfl) rfl rfl rfl ?_
            refine JL.skip (d := some 43) rfl rfl rfl ?_
            refine JL.skip (d := some 44) rfl rfl rfl ?_
            refine JL.val (v := .bool false) (QV.pickF rfl rfl) rfl rfl rfl ?_
            refine JL.val (v := .bool false) (QV.assign rfl) rfl rfl rfl ?_
            refine JL.nil ?_
            refine QJ.then_normal ?_
            refine JC.ret ?_
            obtain rfl := Option.some.inj hm
            exact QJ.body (vs := [.bool false]) (.inl rfl) rfl (ResVs.cons (ResV.tmp rfl) ResVs.nil) [] rfl rfl (.inr trivial) ⟨rfl, rfl⟩
          ·
            refine JL.val (v := .bool false) (QV.eq (QV.move rfl) (congrArg Value.bool (decide_eq_false h15))) rfl rfl rfl ?_
            refine JL.skip (d := some 30) rfl rfl rfl ?_
            refine JL.skip (d := some 31) rfl rfl rfl ?_
            refine JL.val (v := .bool false) (QV.pickF rfl rfl) rfl rfl rfl ?_
            refine JL.val (v := .bool false) (QV.move rfl) rfl rfl rfl ?_
            refine JL.skip (d := some 34) rfl rfl rfl ?_
            refine JL.skip (d := some 35) rfl rfl rfl ?_
            refine JL.skip (d := some 36) rfl rfl rfl ?_
            refine JL.val (v := .bool false) (QV.pickF rfl rfl) rfl rfl rfl ?_
            refine JL.val (v := .bool false) (QV.move rfl) rfl rfl rfl ?_
            refine JL.skip (d := some 39) rfl rfl rfl ?_
            refine JL.skip (d := some 40) rfl rfl rfl ?_
            refine JL.val (v := .bool false) (QV.pickF rfl rfl) rfl rfl rfl ?_
            refine JL.val (v := .bool false) (QV.move rfl) rfl rfl rfl ?_
            refine JL.skip (d := some 43) rfl rfl rfl ?_
            refine JL.skip (d := some 44) rfl rfl rfl ?_
            refine JL.val (v := .bool false) (QV.pickF rfl rfl) rfl rfl rfl ?_
            refine JL.val (v := .bool false) (QV.assign rfl) rfl rfl rfl ?_
            refine JL.nil ?_
            refine QJ.then_normal ?_
            refine JC.ret ?_
            obtain rfl := Option.some.inj hm
            exact QJ.body (vs := [.bool false]) (.inl rfl) rfl (ResVs.cons (ResV.tmp rfl) ResVs.nil) [] rfl rfl (.inr trivial) ⟨rfl, rfl⟩
        ·
          refine JL.val (v := .bool false) (QV.eq (QV.move rfl) (congrArg Value.bool (decide_eq_false h14))) rfl rfl rfl ?_
          refine JL.skip (d := some 26) rfl rfl rfl ?_
          refine JL.skip (d := some 27) rfl rfl rfl ?_
          refine JL.val (v := .bool false) (QV.pickF rfl rfl) rfl rfl rfl ?_
          refine JL.val (v := .bool false) (QV.move rfl) rfl rfl rfl ?_
          refine JL.skip (d := some 30) rfl rfl rfl ?_
          refine JL.skip (d := some 31) rfl rfl rfl ?_
          refine JL.val (v := .bool false) (QV.pickF rfl rfl) rfl rfl rfl ?_
          refine JL.val (v := .bool false) (QV.move rfl) rfl rfl rfl ?_
          refine JL.skip (d := some 34) rfl rfl rfl ?_
          refine JL.skip (d := some 35) rfl rfl rfl ?_
          refine JL.skip (d := some 36) rfl rfl rfl ?_
          refine JL.val (v := .bool false) (QV.pickF rfl rfl) rfl rfl rfl ?_
          refine JL.val (v := .bool false) (QV.move rfl) rfl rfl rfl ?_
          refine JL.skip (d := some 39) rfl rfl rfl ?_
          refine JL.skip (d := some 40) rfl rfl rfl ?_
          refine JL.val (v := .bool false) (QV.pickF rfl rfl) rfl rfl rfl ?_
          refine JL.val (v := .bool false) (QV.move rfl) rfl rfl rfl ?_
          refine JL.skip (d := some 43) rfl rfl rfl ?_
          refine JL.skip (d := some 44) rfl rfl rfl ?_
          refine JL.val (v := .bool false) (QV.pickF rfl rfl) rfl rfl rfl ?_
          refine JL.val (v := .bool false) (QV.assign rfl) rfl rfl rfl ?_
          refine JL.nil ?_
          refine QJ.then_normal ?_
          refine JC.ret ?_
          obtain rfl := Option.some.inj hm
          exact QJ.body (vs := [.bool false]) (.inl rfl) rfl (ResVs.cons (ResV.tmp rfl) ResVs.nil) [] rfl rfl (.inr trivial) ⟨rfl, rfl⟩
      ·
        refine JL.mv (d := some 20) (MV.call (Lo := []) (Lr := []) (F29.spec ((128 : Int)) ((128 : Int)) ((4 : Int)) _ hc11) rfl Try.func29 rfl rfl rfl [] [] rfl rfl rfl trivial) rfl rfl rfl ?_
        rintro _ _ ⟨_, ⟨b16, b17, b18, b19, rfl, rfl⟩, rfl⟩
        refine JL.val (v := .tuple #[.pointer (some ⟨b16, 0, none⟩), .int .i64 (0 : Int)]) (QV.move rfl) rfl rfl rfl ?_
        refine JL.val (v := .pointer (some ⟨b16, 0, none⟩)) (QV.extract (vs := [.pointer (some ⟨b16, 0, none⟩), .int .i64 (0 : Int)]) rfl rfl) rfl rfl rfl ?_
        refine JL.val (v := .int .i64 (0 : Int)) (QV.extract (vs := [.pointer (some ⟨b16, 0, none⟩), .int .i64 (0 : Int)]) rfl rfl) rfl rfl rfl ?_
        refine JL.val (v := .pointer (some ⟨b16, 0, none⟩)) (QV.assign rfl) rfl rfl rfl ?_
        refine JL.val (v := .int .i64 (0 : Int)) (QV.assign rfl) rfl rfl rfl ?_
        refine JL.nil ?_
        refine QJ.then_normal ?_
        refine JC.seq ?_
        refine JC.region ?_
        refine JL.val (v := .int .i64 (1 : Int)) (QV.move rfl) rfl rfl rfl ?_
        refine JL.val (v := .bool (decide ((1 : Int) = (0 : Int)))) (QV.eql rfl rfl) rfl rfl rfl ?_
        rcases ite_inv hm with ⟨h20, hm⟩ | ⟨h20, hm⟩
        ·
          refine JL.val (v := .bool true) (QV.eq (QV.move rfl) (congrArg Value.bool (decide_eq_true h20))) rfl rfl rfl ?_
          refine JL.val (v := .int .i64 (1 : Int)) (QV.move rfl) rfl rfl rfl ?_
          refine JL.val (v := .bool (decide ((1 : Int) = (0 : Int)))) (QV.eql rfl rfl) rfl rfl rfl ?_
          refine JL.val (v := .bool (decide ((1 : Int) = (0 : Int)))) (QV.pickT rfl rfl) rfl rfl rfl ?_
          rcases ite_inv hm with ⟨h21, hm⟩ | ⟨h21, hm⟩
          ·
            refine JL.val (v := .bool true) (QV.eq (QV.move rfl) (congrArg Value.bool (decide_eq_true h21))) rfl rfl rfl ?_
            refine JL.val (v := .pointer none) (QV.move rfl) rfl rfl rfl ?_
            refine JL.val (v := .bool false) ((QV.eq (QV.neqP Try.underlying53 rfl rfl (.inl rfl)) (by simp))) rfl rfl rfl ?_
            refine JL.val (v := .bool false) (QV.pickT rfl rfl) rfl rfl rfl ?_
            refine JL.val (v := .bool false) (QV.move rfl) rfl rfl rfl ?_
            refine JL.skip (d := some 34) rfl rfl rfl ?_
            refine JL.skip (d := some 35) rfl rfl rfl ?_
            refine JL.skip (d := some 36) rfl rfl rfl ?_
            refine JL.val (v := .bool false) (QV.pickF rfl rfl) rfl rfl rfl ?_
            refine JL.val (v := .bool false) (QV.move rfl) rfl rfl rfl ?_
            refine JL.skip (d := some 39) rfl rfl rfl ?_
            refine JL.skip (d := some 40) rfl rfl rfl ?_
            refine JL.val (v := .bool false) (QV.pickF rfl rfl) rfl rfl rfl ?_
            refine JL.val (v := .bool false) (QV.move rfl) rfl rfl rfl ?_
            refine JL.skip (d := some 43) rfl rfl rfl ?_
            refine JL.skip (d := some 44) rfl rfl rfl ?_
            refine JL.val (v := .bool false) (QV.pickF rfl rfl) rfl rfl rfl ?_
            refine JL.val (v := .bool false) (QV.assign rfl) rfl rfl rfl ?_
            refine JL.nil ?_
            refine QJ.then_normal ?_
            refine JC.ret ?_
            obtain rfl := Option.some.inj hm
            exact QJ.body (vs := [.bool false]) (.inl rfl) rfl (ResVs.cons (ResV.tmp rfl) ResVs.nil) [] rfl rfl (.inr trivial) ⟨rfl, rfl⟩
          ·
            refine JL.val (v := .bool false) (QV.eq (QV.move rfl) (congrArg Value.bool (decide_eq_false h21))) rfl rfl rfl ?_
            refine JL.skip (d := some 30) rfl rfl rfl ?_
            refine JL.skip (d := some 31) rfl rfl rfl ?_
            refine JL.val (v := .bool false) (QV.pickF rfl rfl) rfl rfl rfl ?_
            refine JL.val (v := .bool false) (QV.move rfl) rfl rfl rfl ?_
            refine JL.skip (d := some 34) rfl rfl rfl ?_
            refine JL.skip (d := some 35) rfl rfl rfl ?_
            refine JL.skip (d := some 36) rfl rfl rfl ?_
            refine JL.val (v := .bool false) (QV.pickF rfl rfl) rfl rfl rfl ?_
            refine JL.val (v := .bool false) (QV.move rfl) rfl rfl rfl ?_
            refine JL.skip (d := some 39) rfl rfl rfl ?_
            refine JL.skip (d := some 40) rfl rfl rfl ?_
            refine JL.val (v := .bool false) (QV.pickF rfl rfl) rfl rfl rfl ?_
            refine JL.val (v := .bool false) (QV.move rfl) rfl rfl rfl ?_
            refine JL.skip (d := some 43) rfl rfl rfl ?_
            refine JL.skip (d := some 44) rfl rfl rfl ?_
            refine JL.val (v := .bool false) (QV.pickF rfl rfl) rfl rfl rfl ?_
            refine JL.val (v := .bool false) (QV.assign rfl) rfl rfl rfl ?_
            refine JL.nil ?_
            refine QJ.then_normal ?_
            refine JC.ret ?_
            obtain rfl := Option.some.inj hm
            exact QJ.body (vs := [.bool false]) (.inl rfl) rfl (ResVs.cons (ResV.tmp rfl) ResVs.nil) [] rfl rfl (.inr trivial) ⟨rfl, rfl⟩
        ·
          refine JL.val (v := .bool false) (QV.eq (QV.move rfl) (congrArg Value.bool (decide_eq_false h20))) rfl rfl rfl ?_
          refine JL.skip (d := some 26) rfl rfl rfl ?_
          refine JL.skip (d := some 27) rfl rfl rfl ?_
          refine JL.val (v := .bool false) (QV.pickF rfl rfl) rfl rfl rfl ?_
          refine JL.val (v := .bool false) (QV.move rfl) rfl rfl rfl ?_
          refine JL.skip (d := some 30) rfl rfl rfl ?_
          refine JL.skip (d := some 31) rfl rfl rfl ?_
          refine JL.val (v := .bool false) (QV.pickF rfl rfl) rfl rfl rfl ?_
          refine JL.val (v := .bool false) (QV.move rfl) rfl rfl rfl ?_
          refine JL.skip (d := some 34) rfl rfl rfl ?_
          refine JL.skip (d := some 35) rfl rfl rfl ?_
          refine JL.skip (d := some 36) rfl rfl rfl ?_
          refine JL.val (v := .bool false) (QV.pickF rfl rfl) rfl rfl rfl ?_
          refine JL.val (v := .bool false) (QV.move rfl) rfl rfl rfl ?_
          refine JL.skip (d := some 39) rfl rfl rfl ?_
          refine JL.skip (d := some 40) rfl rfl rfl ?_
          refine JL.val (v := .bool false) (QV.pickF rfl rfl) rfl rfl rfl ?_
          refine JL.val (v := .bool false) (QV.move rfl) rfl rfl rfl ?_
          refine JL.skip (d := some 43) rfl rfl rfl ?_
          refine JL.skip (d := some 44) rfl rfl rfl ?_
          refine JL.val (v := .bool false) (QV.pickF rfl rfl) rfl rfl rfl ?_
          refine JL.val (v := .bool false) (QV.assign rfl) rfl rfl rfl ?_
          refine JL.nil ?_
          refine QJ.then_normal ?_
          refine JC.ret ?_
          obtain rfl := Option.some.inj hm
          exact QJ.body (vs := [.bool false]) (.inl rfl) rfl (ResVs.cons (ResV.tmp rfl) ResVs.nil) [] rfl rfl (.inr trivial) ⟨rfl, rfl⟩
    ·
      refine JL.mv (d := some 14) (MV.call (Lo := []) (Lr := []) (F29.spec ((128 : Int)) ((128 : Int)) ((3 : Int)) _ hc7) rfl Try.func29 rfl rfl rfl [] [] rfl rfl rfl trivial) rfl rfl rfl ?_
      rintro _ _ ⟨_, ⟨b22, b23, b24, b25, rfl, rfl⟩, rfl⟩
      refine JL.val (v := .tuple #[.pointer (some ⟨b22, 0, none⟩), .int .i64 (0 : Int)]) (QV.move rfl) rfl rfl rfl ?_
      refine JL.val (v := .pointer (some ⟨b22, 0, none⟩)) (QV.extract (vs := [.pointer (some ⟨b22, 0, none⟩), .int .i64 (0 : Int)]) rfl rfl) rfl rfl rfl ?_
      refine JL.val (v := .int .i64 (0 : Int)) (QV.extract (vs := [.pointer (some ⟨b22, 0, none⟩), .int .i64 (0 : Int)]) rfl rfl) rfl rfl rfl ?_
      refine JL.val (v := .pointer (some ⟨b22, 0, none⟩)) (QV.assign rfl) rfl rfl rfl ?_
      refine JL.val (v := .int .i64 (0 : Int)) (QV.assign rfl) rfl rfl rfl ?_
      refine JL.nil ?_
      refine QJ.then_normal ?_
      refine JC.seq ?_
      refine JC.region ?_
      refine JL.val (v := .pointer none) (QV.move rfl) rfl rfl rfl ?_
      refine JL.val (v := .agg #[.int .i64 (128 : Int), .int .i64 (128 : Int), .int .i64 (4 : Int)]) (QV.build (vals := [(0, .int .i64 (128 : Int)), (1, .int .i64 (128 : Int)), (2, .int .i64 (4 : Int))]) rfl (by kernel_rfl)) rfl rfl rfl ?_
      obtain ⟨y26, hc27, hm⟩ := bind_inv hm
      rcases y26 with y28 | y29
      ·
        refine JL.mv (d := some 20) (MV.call (Lo := []) (Lr := [Asr.blk b23 134 [Seg.c (.pointer none), Seg.c (.int .i64 y9.1), Seg.c (.int .i64 y9.2.1)], Asr.blk b24 134 [Seg.c (.pointer none), Seg.c (.int .i64 y9.2.2.1), Seg.c (.int .i64 y9.2.2.2.1)], Asr.blk b25 134 [Seg.c (.pointer none), Seg.c (.int .i64 y9.2.2.2.2.1), Seg.c (.int .i64 y9.2.2.2.2.2)], Asr.blk b22 108 [Seg.c (.int .i64 (128 : Int)), Seg.c (.int .i64 (128 : Int)), Seg.c (.int .i64 (3 : Int)), Seg.c (.pointer (some ⟨b23, 0, none⟩)), Seg.c (.pointer (some ⟨b24, 0, none⟩)), Seg.c (.pointer (some ⟨b25, 0, none⟩))]]) (F29.spec ((128 : Int)) ((128 : Int)) ((4 : Int)) _ hc27) rfl Try.func29 rfl rfl rfl [] [0, 1, 2, 3] rfl rfl rfl trivial) rfl rfl rfl ?_
        rintro _ _ ⟨_, ⟨rfl, rfl⟩, rfl⟩
        refine JL.val (v := .tuple #[.pointer none, .int .i64 (1 : Int)]) (QV.move rfl) rfl rfl rfl ?_
        refine JL.val (v := .pointer none) (QV.extract (vs := [.pointer none, .int .i64 (1 : Int)]) rfl rfl) rfl rfl rfl ?_
        refine JL.val (v := .int .i64 (1 : Int)) (QV.extract (vs := [.pointer none, .int .i64 (1 : Int)]) rfl rfl) rfl rfl rfl ?_
        refine JL.val (v := .pointer none) (QV.assign rfl) rfl rfl rfl ?_
        refine JL.val (v := .int .i64 (1 : Int)) (QV.assign rfl) rfl rfl rfl ?_
        refine JL.nil ?_
        refine QJ.then_normal ?_
        refine JC.seq ?_
        refine JC.region ?_
        refine JL.val (v := .int .i64 (1 : Int)) (QV.move rfl) rfl rfl rfl ?_
        refine JL.val (v := .bool (decide ((1 : Int) = (0 : Int)))) (QV.eql rfl rfl) rfl rfl rfl ?_
        rcases ite_inv hm with ⟨h30, hm⟩ | ⟨h30, hm⟩
        ·
          refine JL.val (v := .bool true) (QV.eq (QV.move rfl) (congrArg Value.bool (decide_eq_true h30))) rfl rfl rfl ?_
          refine JL.val (v := .int .i64 (0 : Int)) (QV.move rfl) rfl rfl rfl ?_
          refine JL.val (v := .bool (decide ((0 : Int) = (0 : Int)))) (QV.eql rfl rfl) rfl rfl rfl ?_
          refine JL.val (v := .bool (decide ((0 : Int) = (0 : Int)))) (QV.pickT rfl rfl) rfl rfl rfl ?_
          rcases ite_inv hm with ⟨h31, hm⟩ | ⟨h31, hm⟩
          ·
            refine JL.val (v := .bool true) (QV.eq (QV.move rfl) (congrArg Value.bool (decide_eq_true h31))) rfl rfl rfl ?_
            refine JL.val (v := .pointer (some ⟨b22, 0, none⟩)) (QV.move rfl) rfl rfl rfl ?_
            refine JL.val (v := .bool true) ((QV.eq (QV.neqP Try.underlying53 rfl rfl (.inr rfl)) (by simp))) rfl rfl rfl ?_
            refine JL.val (v := .bool true) (QV.pickT rfl rfl) rfl rfl rfl ?_
            refine JL.val (v := .bool true) (QV.move rfl) rfl rfl rfl ?_
            refine JL.val (v := .pointer (some ⟨b22, 0, none⟩)) (QV.move rfl) rfl rfl rfl ?_
            obtain ⟨y32, hc33, hm⟩ := bind_inv hm
            refine JL.mv (d := some 35) (MV.call (Lo := [Asr.blk b22 108 [Seg.c (.int .i64 (128 : Int)), Seg.c (.int .i64 (128 : Int)), Seg.c (.int .i64 (3 : Int)), Seg.c (.pointer (some ⟨b23, 0, none⟩)), Seg.c (.pointer (some ⟨b24, 0, none⟩)), Seg.c (.pointer (some ⟨b25, 0, none⟩))], Asr.blk b23 134 [Seg.c (.pointer none), Seg.c (.int .i64 y9.1), Seg.c (.int .i64 y9.2.1)], Asr.blk b24 134 [Seg.c (.pointer none), Seg.c (.int .i64 y9.2.2.1), Seg.c (.int .i64 y9.2.2.2.1)], Asr.blk b25 134 [Seg.c (.pointer none), Seg.c (.int .i64 y9.2.2.2.2.1), Seg.c (.int .i64 y9.2.2.2.2.2)]]) (Lr := []) (F38.spec (b22) (b23) (b24) (b25) ((128 : Int)) ((128 : Int)) ((3 : Int)) (y9.1) (y9.2.1) (y9.2.2.1) (y9.2.2.2.1) (y9.2.2.2.2.1) (y9.2.2.2.2.2) _ hc33) rfl Try.func38 rfl rfl rfl [3, 0, 1, 2] [] rfl rfl rfl trivial) rfl rfl rfl ?_
            rintro _ _ ⟨_, ⟨rfl, rfl⟩, rfl⟩
            refine JL.val (v := .bool (decide (y32 = (384 : Int)))) (QV.eql rfl rfl) rfl rfl rfl ?_
            refine JL.val (v := .bool (decide (y32 = (384 : Int)))) (QV.pickT rfl rfl) rfl rfl rfl ?_
            rcases ite_inv hm with ⟨h34, hm⟩ | ⟨h34, hm⟩
            ·
              refine JL.val (v := .bool true) (QV.eq (QV.move rfl) (congrArg Value.bool (decide_eq_true h34))) rfl rfl rfl ?_
              refine JL.val (v := .pointer none) (QV.move rfl) rfl rfl rfl ?_
              refine JL.val (v := .bool true) ((QV.eq (QV.eqlP Try.underlying53 rfl rfl (.inl rfl)) (by simp))) rfl rfl rfl ?_
              refine JL.val (v := .bool true) (QV.pickT rfl rfl) rfl rfl rfl ?_
              refine JL.val (v := .bool true) (QV.move rfl) rfl rfl rfl ?_
              refine JL.val (v := .int .i64 (1 : Int)) (QV.move rfl) rfl rfl rfl ?_
              refine JL.val (v := .bool (decide ((1 : Int) = (1 : Int)))) (QV.eql rfl rfl) rfl rfl rfl ?_
              refine JL.val (v := .bool (decide ((1 : Int) = (1 : Int)))) (QV.pickT rfl rfl) rfl rfl rfl ?_
              refine JL.val (v := .bool (decide ((1 : Int) = (1 : Int)))) (QV.assign rfl) rfl rfl rfl ?_
              refine JL.nil ?_
              refine QJ.then_normal ?_
              refine JC.ret ?_
              obtain rfl := Option.some.inj hm
              exact QJ.body (vs := [.bool (decide ((1 : Int) = (1 : Int)))]) (.inl rfl) rfl (ResVs.cons (ResV.tmp rfl) ResVs.nil) [] rfl rfl (.inr trivial) ⟨rfl, rfl⟩
            ·
              refine JL.val (v := .bool false) (QV.eq (QV.move rfl) (congrArg Value.bool (decide_eq_false h34))) rfl rfl rfl ?_
              refine JL.skip (d := some 39) rfl rfl rfl ?_
              refine JL.skip (d := some 40) rfl rfl rfl ?_
              refine JL.val (v := .bool false) (QV.pickF rfl rfl) rfl rfl rfl ?_
              refine JL.val (v := .bool false) (QV.move rfl) rfl rfl rfl ?_
              refine JL.skip (d := some 43) rfl rfl rfl ?_
              refine JL.skip (d := some 44) rfl rfl rfl ?_
              refine JL.val (v := .bool false) (QV.pickF rfl rfl) rfl rfl rfl ?_
              refine JL.val (v := .bool false) (QV.assign rfl) rfl rfl rfl ?_
              refine JL.nil ?_
              refine QJ.then_normal ?_
              refine JC.ret ?_
              obtain rfl := Option.some.inj hm
              exact QJ.body (vs := [.bool false]) (.inl rfl) rfl (ResVs.cons (ResV.tmp rfl) ResVs.nil) [] rfl rfl (.inr trivial) ⟨rfl, rfl⟩
          ·
            refine JL.val (v := .bool false) (QV.eq (QV.move rfl) (congrArg Value.bool (decide_eq_false h31))) rfl rfl rfl ?_
            refine JL.skip (d := some 30) rfl rfl rfl ?_
            refine JL.skip (d := some 31) rfl rfl rfl ?_
            refine JL.val (v := .bool false) (QV.pickF rfl rfl) rfl rfl rfl ?_
            refine JL.val (v := .bool false) (QV.move rfl) rfl rfl rfl ?_
            refine JL.skip (d := some 34) rfl rfl rfl ?_
            refine JL.skip (d := some 35) rfl rfl rfl ?_
            refine JL.skip (d := some 36) rfl rfl rfl ?_
            refine JL.val (v := .bool false) (QV.pickF rfl rfl) rfl rfl rfl ?_
            refine JL.val (v := .bool false) (QV.move rfl) rfl rfl rfl ?_
            refine JL.skip (d := some 39) rfl rfl rfl ?_
            refine JL.skip (d := some 40) rfl rfl rfl ?_
            refine JL.val (v := .bool false) (QV.pickF rfl rfl) rfl rfl rfl ?_
            refine JL.val (v := .bool false) (QV.move rfl) rfl rfl rfl ?_
            refine JL.skip (d := some 43) rfl rfl rfl ?_
            refine JL.skip (d := some 44) rfl rfl rfl ?_
            refine JL.val (v := .bool false) (QV.pickF rfl rfl) rfl rfl rfl ?_
            refine JL.val (v := .bool false) (QV.assign rfl) rfl rfl rfl ?_
            refine JL.nil ?_
            refine QJ.then_normal ?_
            refine JC.ret ?_
            obtain rfl := Option.some.inj hm
            exact QJ.body (vs := [.bool false]) (.inl rfl) rfl (ResVs.cons (ResV.tmp rfl) ResVs.nil) [] rfl rfl (.inr trivial) ⟨rfl, rfl⟩
        ·
          refine JL.val (v := .bool false) (QV.eq (QV.move rfl) (congrArg Value.bool (decide_eq_false h30))) rfl rfl rfl ?_
          refine JL.skip (d := some 26) rfl rfl rfl ?_
          refine JL.skip (d := some 27) rfl rfl rfl ?_
          refine JL.val (v := .bool false) (QV.pickF rfl rfl) rfl rfl rfl ?_
          refine JL.val (v := .bool false) (QV.move rfl) rfl rfl rfl ?_
          refine JL.skip (d := some 30) rfl rfl rfl ?_
          refine JL.skip (d := some 31) rfl rfl rfl ?_
          refine JL.val (v := .bool false) (QV.pickF rfl rfl) rfl rfl rfl ?_
          refine JL.val (v := .bool false) (QV.move rfl) rfl rfl rfl ?_
          refine JL.skip (d := some 34) rfl rfl rfl ?_
          refine JL.skip (d := some 35) rfl rfl rfl ?_
          refine JL.skip (d := some 36) rfl rfl rfl ?_
          refine JL.val (v := .bool false) (QV.pickF rfl rfl) rfl rfl rfl ?_
          refine JL.val (v := .bool false) (QV.move rfl) rfl rfl rfl ?_
          refine JL.skip (d := some 39) rfl rfl rfl ?_
          refine JL.skip (d := some 40) rfl rfl rfl ?_
          refine JL.val (v := .bool false) (QV.pickF rfl rfl) rfl rfl rfl ?_
          refine JL.val (v := .bool false) (QV.move rfl) rfl rfl rfl ?_
          refine JL.skip (d := some 43) rfl rfl rfl ?_
          refine JL.skip (d := some 44) rfl rfl rfl ?_
          refine JL.val (v := .bool false) (QV.pickF rfl rfl) rfl rfl rfl ?_
          refine JL.val (v := .bool false) (QV.assign rfl) rfl rfl rfl ?_
          refine JL.nil ?_
          refine QJ.then_normal ?_
          refine JC.ret ?_
          obtain rfl := Option.some.inj hm
          exact QJ.body (vs := [.bool false]) (.inl rfl) rfl (ResVs.cons (ResV.tmp rfl) ResVs.nil) [] rfl rfl (.inr trivial) ⟨rfl, rfl⟩
      ·
        refine JL.mv (d := some 20) (MV.call (Lo := []) (Lr := [Asr.blk b23 134 [Seg.c (.pointer none), Seg.c (.int .i64 y9.1), Seg.c (.int .i64 y9.2.1)], Asr.blk b24 134 [Seg.c (.pointer none), Seg.c (.int .i64 y9.2.2.1), Seg.c (.int .i64 y9.2.2.2.1)], Asr.blk b25 134 [Seg.c (.pointer none), Seg.c (.int .i64 y9.2.2.2.2.1), Seg.c (.int .i64 y9.2.2.2.2.2)], Asr.blk b22 108 [Seg.c (.int .i64 (128 : Int)), Seg.c (.int .i64 (128 : Int)), Seg.c (.int .i64 (3 : Int)), Seg.c (.pointer (some ⟨b23, 0, none⟩)), Seg.c (.pointer (some ⟨b24, 0, none⟩)), Seg.c (.pointer (some ⟨b25, 0, none⟩))]]) (F29.spec ((128 : Int)) ((128 : Int)) ((4 : Int)) _ hc27) rfl Try.func29 rfl rfl rfl [] [0, 1, 2, 3] rfl rfl rfl trivial) rfl rfl rfl ?_
        rintro _ _ ⟨_, ⟨b35, b36, b37, b38, rfl, rfl⟩, rfl⟩
        refine JL.val (v := .tuple #[.pointer (some ⟨b35, 0, none⟩), .int .i64 (0 : Int)]) (QV.move rfl) rfl rfl rfl ?_
        refine JL.val (v := .pointer (some ⟨b35, 0, none⟩)) (QV.extract (vs := [.pointer (some ⟨b35, 0, none⟩), .int .i64 (0 : Int)]) rfl rfl) rfl rfl rfl ?_
        refine JL.val (v := .int .i64 (0 : Int)) (QV.extract (vs := [.pointer (some ⟨b35, 0, none⟩), .int .i64 (0 : Int)]) rfl rfl) rfl rfl rfl ?_
        refine JL.val (v := .pointer (some ⟨b35, 0, none⟩)) (QV.assign rfl) rfl rfl rfl ?_
        refine JL.val (v := .int .i64 (0 : Int)) (QV.assign rfl) rfl rfl rfl ?_
        refine JL.nil ?_
        refine QJ.then_normal ?_
        refine JC.seq ?_
        refine JC.region ?_
        refine JL.val (v := .int .i64 (1 : Int)) (QV.move rfl) rfl rfl rfl ?_
        refine JL.val (v := .bool (decide ((1 : Int) = (0 : Int)))) (QV.eql rfl rfl) rfl rfl rfl ?_
        rcases ite_inv hm with ⟨h39, hm⟩ | ⟨h39, hm⟩
        ·
          refine JL.val (v := .bool true) (QV.eq (QV.move rfl) (congrArg Value.bool (decide_eq_true h39))) rfl rfl rfl ?_
          refine JL.val (v := .int .i64 (0 : Int)) (QV.move rfl) rfl rfl rfl ?_
          refine JL.val (v := .bool (decide ((0 : Int) = (0 : Int)))) (QV.eql rfl rfl) rfl rfl rfl ?_
          refine JL.val (v := .bool (decide ((0 : Int) = (0 : Int)))) (QV.pickT rfl rfl) rfl rfl rfl ?_
          rcases ite_inv hm with ⟨h40, hm⟩ | ⟨h40, hm⟩
          ·
            refine JL.val (v := .bool true) (QV.eq (QV.move rfl) (congrArg Value.bool (decide_eq_true h40))) rfl rfl rfl ?_
            refine JL.val (v := .pointer (some ⟨b22, 0, none⟩)) (QV.move rfl) rfl rfl rfl ?_
            refine JL.val (v := .bool true) ((QV.eq (QV.neqP Try.underlying53 rfl rfl (.inr rfl)) (by simp))) rfl rfl rfl ?_
            refine JL.val (v := .bool true) (QV.pickT rfl rfl) rfl rfl rfl ?_
            refine JL.val (v := .bool true) (QV.move rfl) rfl rfl rfl ?_
            refine JL.val (v := .pointer (some ⟨b22, 0, none⟩)) (QV.move rfl) rfl rfl rfl ?_
            obtain ⟨y41, hc42, hm⟩ := bind_inv hm
            refine JL.mv (d := some 35) (MV.call (Lo := [Asr.blk b22 108 [Seg.c (.int .i64 (128 : Int)), Seg.c (.int .i64 (128 : Int)), Seg.c (.int .i64 (3 : Int)), Seg.c (.pointer (some ⟨b23, 0, none⟩)), Seg.c (.pointer (some ⟨b24, 0, none⟩)), Seg.c (.pointer (some ⟨b25, 0, none⟩))], Asr.blk b23 134 [Seg.c (.pointer none), Seg.c (.int .i64 y9.1), Seg.c (.int .i64 y9.2.1)], Asr.blk b24 134 [Seg.c (.pointer none), Seg.c (.int .i64 y9.2.2.1), Seg.c (.int .i64 y9.2.2.2.1)], Asr.blk b25 134 [Seg.c (.pointer none), Seg.c (.int .i64 y9.2.2.2.2.1), Seg.c (.int .i64 y9.2.2.2.2.2)]]) (Lr := [Asr.blk b36 134 [Seg.c (.pointer none), Seg.c (.int .i64 y29.1), Seg.c (.int .i64 y29.2.1)], Asr.blk b37 134 [Seg.c (.pointer none), Seg.c (.int .i64 y29.2.2.1), Seg.c (.int .i64 y29.2.2.2.1)], Asr.blk b38 134 [Seg.c (.pointer none), Seg.c (.int .i64 y29.2.2.2.2.1), Seg.c (.int .i64 y29.2.2.2.2.2)], Asr.blk b35 108 [Seg.c (.int .i64 (128 : Int)), Seg.c (.int .i64 (128 : Int)), Seg.c (.int .i64 (4 : Int)), Seg.c (.pointer (some ⟨b36, 0, none⟩)), Seg.c (.pointer (some ⟨b37, 0, none⟩)), Seg.c (.pointer (some ⟨b38, 0, none⟩))]]) (F38.spec (b22) (b23) (b24) (b25) ((128 : Int)) ((128 : Int)) ((3 : Int)) (y9.1) (y9.2.1) (y9.2.2.1) (y9.2.2.2.1) (y9.2.2.2.2.1) (y9.2.2.2.2.2) _ hc42) rfl Try.func38 rfl rfl rfl [7, 4, 5, 6] [0, 1, 2, 3] rfl rfl rfl trivial) rfl rfl rfl ?_
            rintro _ _ ⟨_, ⟨rfl, rfl⟩, rfl⟩
            refine JL.val (v := .bool (decide (y41 = (384 : Int)))) (QV.eql rfl rfl) rfl rfl rfl ?_
            refine JL.val (v := .bool (decide (y41 = (384 : Int)))) (QV.pickT rfl rfl) rfl rfl rfl ?_
            rcases ite_inv hm with ⟨h43, hm⟩ | ⟨h43, hm⟩
            ·
              refine JL.val (v := .bool true) (QV.eq (QV.move rfl) (congrArg Value.bool (decide_eq_true h43))) rfl rfl rfl ?_
              refine JL.val (v := .pointer (some ⟨b35, 0, none⟩)) (QV.move rfl) rfl rfl rfl ?_
              refine JL.val (v := .bool false) ((QV.eq (QV.eqlP Try.underlying53 rfl rfl (.inr rfl)) (by simp))) rfl rfl rfl ?_
              refine JL.val (v := .bool false) (QV.pickT rfl rfl) rfl rfl rfl ?_
              refine JL.val (v := .bool false) (QV.move rfl) rfl rfl rfl ?_
              refine JL.skip (d := some 43) rfl rfl rfl ?_
              refine JL.skip (d := some 44) rfl rfl rfl ?_
              refine JL.val (v := .bool false) (QV.pickF rfl rfl) rfl rfl rfl ?_
              refine JL.val (v := .bool false) (QV.assign rfl) rfl rfl rfl ?_
              refine JL.nil ?_
              refine QJ.then_normal ?_
              refine JC.ret ?_
              obtain rfl := Option.some.inj hm
              exact QJ.body (vs := [.bool false]) (.inl rfl) rfl (ResVs.cons (ResV.tmp rfl) ResVs.nil) [] rfl rfl (.inr trivial) ⟨rfl, rfl⟩
            ·
              refine JL.val (v := .bool false) (QV.eq (QV.move rfl) (congrArg Value.bool (decide_eq_false h43))) rfl rfl rfl ?_
              refine JL.skip (d := some 39) rfl rfl rfl ?_
              refine JL.skip (d := some 40) rfl rfl rfl ?_
              refine JL.val (v := .bool false) (QV.pickF rfl rfl) rfl rfl rfl ?_
              refine JL.val (v := .bool false) (QV.move rfl) rfl rfl rfl ?_
              refine JL.skip (d := some 43) rfl rfl rfl ?_
              refine JL.skip (d := some 44) rfl rfl rfl ?_
              refine JL.val (v := .bool false) (QV.pickF rfl rfl) rfl rfl rfl ?_
              refine JL.val (v := .bool false) (QV.assign rfl) rfl rfl rfl ?_
              refine JL.nil ?_
              refine QJ.then_normal ?_
              refine JC.ret ?_
              obtain rfl := Option.some.inj hm
              exact QJ.body (vs := [.bool false]) (.inl rfl) rfl (ResVs.cons (ResV.tmp rfl) ResVs.nil) [] rfl rfl (.inr trivial) ⟨rfl, rfl⟩
          ·
            refine JL.val (v := .bool false) (QV.eq (QV.move rfl) (congrArg Value.bool (decide_eq_false h40))) rfl rfl rfl ?_
            refine JL.skip (d := some 30) rfl rfl rfl ?_
            refine JL.skip (d := some 31) rfl rfl rfl ?_
            refine JL.val (v := .bool false) (QV.pickF rfl rfl) rfl rfl rfl ?_
            refine JL.val (v := .bool false) (QV.move rfl) rfl rfl rfl ?_
            refine JL.skip (d := some 34) rfl rfl rfl ?_
            refine JL.skip (d := some 35) rfl rfl rfl ?_
            refine JL.skip (d := some 36) rfl rfl rfl ?_
            refine JL.val (v := .bool false) (QV.pickF rfl rfl) rfl rfl rfl ?_
            refine JL.val (v := .bool false) (QV.move rfl) rfl rfl rfl ?_
            refine JL.skip (d := some 39) rfl rfl rfl ?_
            refine JL.skip (d := some 40) rfl rfl rfl ?_
            refine JL.val (v := .bool false) (QV.pickF rfl rfl) rfl rfl rfl ?_
            refine JL.val (v := .bool false) (QV.move rfl) rfl rfl rfl ?_
            refine JL.skip (d := some 43) rfl rfl rfl ?_
            refine JL.skip (d := some 44) rfl rfl rfl ?_
            refine JL.val (v := .bool false) (QV.pickF rfl rfl) rfl rfl rfl ?_
            refine JL.val (v := .bool false) (QV.assign rfl) rfl rfl rfl ?_
            refine JL.nil ?_
            refine QJ.then_normal ?_
            refine JC.ret ?_
            obtain rfl := Option.some.inj hm
            exact QJ.body (vs := [.bool false]) (.inl rfl) rfl (ResVs.cons (ResV.tmp rfl) ResVs.nil) [] rfl rfl (.inr trivial) ⟨rfl, rfl⟩
        ·
          refine JL.val (v := .bool false) (QV.eq (QV.move rfl) (congrArg Value.bool (decide_eq_false h39))) rfl rfl rfl ?_
          refine JL.skip (d := some 26) rfl rfl rfl ?_
          refine JL.skip (d := some 27) rfl rfl rfl ?_
          refine JL.val (v := .bool false) (QV.pickF rfl rfl) rfl rfl rfl ?_
          refine JL.val (v := .bool false) (QV.move rfl) rfl rfl rfl ?_
          refine JL.skip (d := some 30) rfl rfl rfl ?_
          refine JL.skip (d := some 31) rfl rfl rfl ?_
          refine JL.val (v := .bool false) (QV.pickF rfl rfl) rfl rfl rfl ?_
          refine JL.val (v := .bool false) (QV.move rfl) rfl rfl rfl ?_
          refine JL.skip (d := some 34) rfl rfl rfl ?_
          refine JL.skip (d := some 35) rfl rfl rfl ?_
          refine JL.skip (d := some 36) rfl rfl rfl ?_
          refine JL.val (v := .bool false) (QV.pickF rfl rfl) rfl rfl rfl ?_
          refine JL.val (v := .bool false) (QV.move rfl) rfl rfl rfl ?_
          refine JL.skip (d := some 39) rfl rfl rfl ?_
          refine JL.skip (d := some 40) rfl rfl rfl ?_
          refine JL.val (v := .bool false) (QV.pickF rfl rfl) rfl rfl rfl ?_
          refine JL.val (v := .bool false) (QV.move rfl) rfl rfl rfl ?_
          refine JL.skip (d := some 43) rfl rfl rfl ?_
          refine JL.skip (d := some 44) rfl rfl rfl ?_
          refine JL.val (v := .bool false) (QV.pickF rfl rfl) rfl rfl rfl ?_
          refine JL.val (v := .bool false) (QV.assign rfl) rfl rfl rfl ?_
          refine JL.nil ?_
          refine QJ.then_normal ?_
          refine JC.ret ?_
          obtain rfl := Option.some.inj hm
          exact QJ.body (vs := [.bool false]) (.inl rfl) rfl (ResVs.cons (ResV.tmp rfl) ResVs.nil) [] rfl rfl (.inr trivial) ⟨rfl, rfl⟩
  ·
    refine JL.mv (d := some 8) (MV.call (Lo := []) (Lr := []) (F28.spec ((128 : Int)) ((9 : Int)) _ hc3) rfl Try.func28 rfl rfl rfl [] [] rfl rfl rfl trivial) rfl rfl rfl ?_
    rintro _ _ ⟨_, ⟨b44, z45, z46, rfl, rfl⟩, rfl⟩
    refine JL.val (v := .tuple #[.pointer (some ⟨b44, 0, none⟩), .int .i64 (0 : Int)]) (QV.move rfl) rfl rfl rfl ?_
    refine JL.val (v := .pointer (some ⟨b44, 0, none⟩)) (QV.extract (vs := [.pointer (some ⟨b44, 0, none⟩), .int .i64 (0 : Int)]) rfl rfl) rfl rfl rfl ?_
    refine JL.val (v := .int .i64 (0 : Int)) (QV.extract (vs := [.pointer (some ⟨b44, 0, none⟩), .int .i64 (0 : Int)]) rfl rfl) rfl rfl rfl ?_
    refine JL.val (v := .pointer (some ⟨b44, 0, none⟩)) (QV.assign rfl) rfl rfl rfl ?_
    refine JL.val (v := .int .i64 (0 : Int)) (QV.assign rfl) rfl rfl rfl ?_
    refine JL.nil ?_
    refine QJ.then_normal ?_
    refine JC.seq ?_
    refine JC.region ?_
    refine JL.val (v := .pointer (some ⟨b44, 0, none⟩)) (QV.move rfl) rfl rfl rfl ?_
    refine JL.val (v := .agg #[.int .i64 (128 : Int), .int .i64 (128 : Int), .int .i64 (3 : Int)]) (QV.build (vals := [(0, .int .i64 (128 : Int)), (1, .int .i64 (128 : Int)), (2, .int .i64 (3 : Int))]) rfl (by kernel_rfl)) rfl rfl rfl ?_
    obtain ⟨y47, hc48, hm⟩ := bind_inv hm
    rcases y47 with y49 | y50
    ·
      refine JL.mv (d := some 14) (MV.call (Lo := [Asr.blk b44 102 [Seg.c (.int .i64 (128 : Int)), Seg.c (.int .i64 (9 : Int)), Seg.c (z45), Seg.c (z46), Seg.c (.bool false), Seg.c (.int .i64 (0 : Int)), Seg.c (.bool false), Seg.c (.int .i64 (0 : Int)), Seg.c (.int .u64 (0 : Int))]]) (Lr := []) (F29_1.spec (b44) (z45) (z46) ((128 : Int)) ((9 : Int)) (false) ((0 : Int)) (false) ((0 : Int)) ((0 : Int)) ((128 : Int)) ((128 : Int)) ((3 : Int)) _ hc48) rfl Try.func29 rfl rfl rfl [0] [] rfl rfl rfl trivial) rfl rfl rfl ?_
      rintro _ _ ⟨_, ⟨rfl, rfl⟩, rfl⟩
      refine JL.val (v := .tuple #[.pointer none, .int .i64 (1 : Int)]) (QV.move rfl) rfl rfl rfl ?_
      refine JL.val (v := .pointer none) (QV.extract (vs := [.pointer none, .int .i64 (1 : Int)]) rfl rfl) rfl rfl rfl ?_
      refine JL.val (v := .int .i64 (1 : Int)) (QV.extract (vs := [.pointer none, .int .i64 (1 : Int)]) rfl rfl) rfl rfl rfl ?_
      refine JL.val (v := .pointer none) (QV.assign rfl) rfl rfl rfl ?_
      refine JL.val (v := .int .i64 (1 : Int)) (QV.assign rfl) rfl rfl rfl ?_
      refine JL.nil ?_
      refine QJ.then_normal ?_
      refine JC.seq ?_
      refine JC.region ?_
      refine JL.val (v := .pointer (some ⟨b44, 0, none⟩)) (QV.move rfl) rfl rfl rfl ?_
      refine JL.val (v := .agg #[.int .i64 (128 : Int), .int .i64 (128 : Int), .int .i64 (4 : Int)]) (QV.build (vals := [(0, .int .i64 (128 : Int)), (1, .int .i64 (128 : Int)), (2, .int .i64 (4 : Int))]) rfl (by kernel_rfl)) rfl rfl rfl ?_
      obtain ⟨y51, hc52, hm⟩ := bind_inv hm
      rcases y51 with y53 | y54
      ·
        refine JL.mv (d := some 20) (MV.call (Lo := [Asr.blk b44 102 [Seg.c (.int .i64 (128 : Int)), Seg.c (.int .i64 (9 : Int)), Seg.c (z45), Seg.c (z46), Seg.c (.bool false), Seg.c (.int .i64 (0 : Int)), Seg.c (.bool false), Seg.c (.int .i64 (0 : Int)), Seg.c (.int .u64 (0 : Int))]]) (Lr := []) (F29_1.spec (b44) (z45) (z46) ((128 : Int)) ((9 : Int)) (false) ((0 : Int)) (false) ((0 : Int)) ((0 : Int)) ((128 : Int)) ((128 : Int)) ((4 : Int)) _ hc52) rfl Try.func29 rfl rfl rfl [0] [] rfl rfl rfl trivial) rfl rfl rfl ?_
        rintro _ _ ⟨_, ⟨rfl, rfl⟩, rfl⟩
        refine JL.val (v := .tuple #[.pointer none, .int .i64 (1 : Int)]) (QV.move rfl) rfl rfl rfl ?_
        refine JL.val (v := .pointer none) (QV.extract (vs := [.pointer none, .int .i64 (1 : Int)]) rfl rfl) rfl rfl rfl ?_
        refine JL.val (v := .int .i64 (1 : Int)) (QV.extract (vs := [.pointer none, .int .i64 (1 : Int)]) rfl rfl) rfl rfl rfl ?_
        refine JL.val (v := .pointer none) (QV.assign rfl) rfl rfl rfl ?_
        refine JL.val (v := .int .i64 (1 : Int)) (QV.assign rfl) rfl rfl rfl ?_
        refine JL.nil ?_
        refine QJ.then_normal ?_
        refine JC.seq ?_
        refine JC.region ?_
        refine JL.val (v := .int .i64 (0 : Int)) (QV.move rfl) rfl rfl rfl ?_
        refine JL.val (v := .bool (decide ((0 : Int) = (0 : Int)))) (QV.eql rfl rfl) rfl rfl rfl ?_
        rcases ite_inv hm with ⟨h55, hm⟩ | ⟨h55, hm⟩
        ·
          refine JL.val (v := .bool true) (QV.eq (QV.move rfl) (congrArg Value.bool (decide_eq_true h55))) rfl rfl rfl ?_
          refine JL.val (v := .int .i64 (1 : Int)) (QV.move rfl) rfl rfl rfl ?_
          refine JL.val (v := .bool (decide ((1 : Int) = (0 : Int)))) (QV.eql rfl rfl) rfl rfl rfl ?_
          refine JL.val (v := .bool (decide ((1 : Int) = (0 : Int)))) (QV.pickT rfl rfl) rfl rfl rfl ?_
          rcases ite_inv hm with ⟨h56, hm⟩ | ⟨h56, hm⟩
          ·
            refine JL.val (v := .bool true) (QV.eq (QV.move rfl) (congrArg Value.bool (decide_eq_true h56))) rfl rfl rfl ?_
            refine JL.val (v := .pointer none) (QV.move rfl) rfl rfl rfl ?_
            refine JL.val (v := .bool false) ((QV.eq (QV.neqP Try.underlying53 rfl rfl (.inl rfl)) (by simp))) rfl rfl rfl ?_
            refine JL.val (v := .bool false) (QV.pickT rfl rfl) rfl rfl rfl ?_
            refine JL.val (v := .bool false) (QV.move rfl) rfl rfl rfl ?_
            refine JL.skip (d := some 34) rfl rfl rfl ?_
            refine JL.skip (d := some 35) rfl rfl rfl ?_
            refine JL.skip (d := some 36) rfl rfl rfl ?_
            refine JL.val (v := .bool false) (QV.pickF rfl rfl) rfl rfl rfl ?_
            refine JL.val (v := .bool false) (QV.move rfl) rfl rfl rfl ?_
            refine JL.skip (d := some 39) rfl rfl rfl ?_
            refine JL.skip (d := some 40) rfl rfl rfl ?_
            refine JL.val (v := .bool false) (QV.pickF rfl rfl) rfl rfl rfl ?_
            refine JL.val (v := .bool false) (QV.move rfl) rfl rfl rfl ?_
            refine JL.skip (d := some 43) rfl rfl rfl ?_
            refine JL.skip (d := some 44) rfl rfl rfl ?_
            refine JL.val (v := .bool false) (QV.pickF rfl rfl) rfl rfl rfl ?_
            refine JL.val (v := .bool false) (QV.assign rfl) rfl rfl rfl ?_
            refine JL.nil ?_
            refine QJ.then_normal ?_
            refine JC.ret ?_
            obtain rfl := Option.some.inj hm
            exact QJ.body (vs := [.bool false]) (.inl rfl) rfl (ResVs.cons (ResV.tmp rfl) ResVs.nil) [] rfl rfl (.inr trivial) ⟨rfl, rfl⟩
          ·
            refine JL.val (v := .bool false) (QV.eq (QV.move rfl) (congrArg Value.bool (decide_eq_false h56))) rfl rfl rfl ?_
            refine JL.skip (d := some 30) rfl rfl rfl ?_
            refine JL.skip (d := some 31) rfl rfl rfl ?_
            refine JL.val (v := .bool false) (QV.pickF rfl rfl) rfl rfl rfl ?_
            refine JL.val (v := .bool false) (QV.move rfl) rfl rfl rfl ?_
            refine JL.skip (d := some 34) rfl rfl rfl ?_
            refine JL.skip (d := some 35) rfl rfl rfl ?_
            refine JL.skip (d := some 36) rfl rfl rfl ?_
            refine JL.val (v := .bool false) (QV.pickF rfl rfl) rfl rfl rfl ?_
            refine JL.val (v := .bool false) (QV.move rfl) rfl rfl rfl ?_
            refine JL.skip (d := some 39) rfl rfl rfl ?_
            refine JL.skip (d := some 40) rfl rfl rfl ?_
            refine JL.val (v := .bool false) (QV.pickF rfl rfl) rfl rfl rfl ?_
            refine JL.val (v := .bool false) (QV.move rfl) rfl rfl rfl ?_
            refine JL.skip (d := some 43) rfl rfl rfl ?_
            refine JL.skip (d := some 44) rfl rfl rfl ?_
            refine JL.val (v := .bool false) (QV.pickF rfl rfl) rfl rfl rfl ?_
            refine JL.val (v := .bool false) (QV.assign rfl) rfl rfl rfl ?_
            refine JL.nil ?_
            refine QJ.then_normal ?_
            refine JC.ret ?_
            obtain rfl := Option.some.inj hm
            exact QJ.body (vs := [.bool false]) (.inl rfl) rfl (ResVs.cons (ResV.tmp rfl) ResVs.nil) [] rfl rfl (.inr trivial) ⟨rfl, rfl⟩
        ·
          refine JL.val (v := .bool false) (QV.eq (QV.move rfl) (congrArg Value.bool (decide_eq_false h55))) rfl rfl rfl ?_
          refine JL.skip (d := some 26) rfl rfl rfl ?_
          refine JL.skip (d := some 27) rfl rfl rfl ?_
          refine JL.val (v := .bool false) (QV.pickF rfl rfl) rfl rfl rfl ?_
          refine JL.val (v := .bool false) (QV.move rfl) rfl rfl rfl ?_
          refine JL.skip (d := some 30) rfl rfl rfl ?_
          refine JL.skip (d := some 31) rfl rfl rfl ?_
          refine JL.val (v := .bool false) (QV.pickF rfl rfl) rfl rfl rfl ?_
          refine JL.val (v := .bool false) (QV.move rfl) rfl rfl rfl ?_
          refine JL.skip (d := some 34) rfl rfl rfl ?_
          refine JL.skip (d := some 35) rfl rfl rfl ?_
          refine JL.skip (d := some 36) rfl rfl rfl ?_
          refine JL.val (v := .bool false) (QV.pickF rfl rfl) rfl rfl rfl ?_
          refine JL.val (v := .bool false) (QV.move rfl) rfl rfl rfl ?_
          refine JL.skip (d := some 39) rfl rfl rfl ?_
          refine JL.skip (d := some 40) rfl rfl rfl ?_
          refine JL.val (v := .bool false) (QV.pickF rfl rfl) rfl rfl rfl ?_
          refine JL.val (v := .bool false) (QV.move rfl) rfl rfl rfl ?_
          refine JL.skip (d := some 43) rfl rfl rfl ?_
          refine JL.skip (d := some 44) rfl rfl rfl ?_
          refine JL.val (v := .bool false) (QV.pickF rfl rfl) rfl rfl rfl ?_
          refine JL.val (v := .bool false) (QV.assign rfl) rfl rfl rfl ?_
          refine JL.nil ?_
          refine QJ.then_normal ?_
          refine JC.ret ?_
          obtain rfl := Option.some.inj hm
          exact QJ.body (vs := [.bool false]) (.inl rfl) rfl (ResVs.cons (ResV.tmp rfl) ResVs.nil) [] rfl rfl (.inr trivial) ⟨rfl, rfl⟩
      ·
        refine JL.mv (d := some 20) (MV.call (Lo := [Asr.blk b44 102 [Seg.c (.int .i64 (128 : Int)), Seg.c (.int .i64 (9 : Int)), Seg.c (z45), Seg.c (z46), Seg.c (.bool false), Seg.c (.int .i64 (0 : Int)), Seg.c (.bool false), Seg.c (.int .i64 (0 : Int)), Seg.c (.int .u64 (0 : Int))]]) (Lr := []) (F29_1.spec (b44) (z45) (z46) ((128 : Int)) ((9 : Int)) (false) ((0 : Int)) (false) ((0 : Int)) ((0 : Int)) ((128 : Int)) ((128 : Int)) ((4 : Int)) _ hc52) rfl Try.func29 rfl rfl rfl [0] [] rfl rfl rfl trivial) rfl rfl rfl ?_
        rintro _ _ ⟨_, ⟨b57, b58, b59, b60, rfl, rfl⟩, rfl⟩
        refine JL.val (v := .tuple #[.pointer (some ⟨b57, 0, none⟩), .int .i64 (0 : Int)]) (QV.move rfl) rfl rfl rfl ?_
        refine JL.val (v := .pointer (some ⟨b57, 0, none⟩)) (QV.extract (vs := [.pointer (some ⟨b57, 0, none⟩), .int .i64 (0 : Int)]) rfl rfl) rfl rfl rfl ?_
        refine JL.val (v := .int .i64 (0 : Int)) (QV.extract (vs := [.pointer (some ⟨b57, 0, none⟩), .int .i64 (0 : Int)]) rfl rfl) rfl rfl rfl ?_
        refine JL.val (v := .pointer (some ⟨b57, 0, none⟩)) (QV.assign rfl) rfl rfl rfl ?_
        refine JL.val (v := .int .i64 (0 : Int)) (QV.assign rfl) rfl rfl rfl ?_
        refine JL.nil ?_
        refine QJ.then_normal ?_
        refine JC.seq ?_
        refine JC.region ?_
        refine JL.val (v := .int .i64 (0 : Int)) (QV.move rfl) rfl rfl rfl ?_
        refine JL.val (v := .bool (decide ((0 : Int) = (0 : Int)))) (QV.eql rfl rfl) rfl rfl rfl ?_
        rcases ite_inv hm with ⟨h61, hm⟩ | ⟨h61, hm⟩
        ·
          refine JL.val (v := .bool true) (QV.eq (QV.move rfl) (congrArg Value.bool (decide_eq_true h61))) rfl rfl rfl ?_
          refine JL.val (v := .int .i64 (1 : Int)) (QV.move rfl) rfl rfl rfl ?_
          refine JL.val (v := .bool (decide ((1 : Int) = (0 : Int)))) (QV.eql rfl rfl) rfl rfl rfl ?_
          refine JL.val (v := .bool (decide ((1 : Int) = (0 : Int)))) (QV.pickT rfl rfl) rfl rfl rfl ?_
          rcases ite_inv hm with ⟨h62, hm⟩ | ⟨h62, hm⟩
          ·
            refine JL.val (v := .bool true) (QV.eq (QV.move rfl) (congrArg Value.bool (decide_eq_true h62))) rfl rfl rfl ?_
            refine JL.val (v := .pointer none) (QV.move rfl) rfl rfl rfl ?_
            refine JL.val (v := .bool false) ((QV.eq (QV.neqP Try.underlying53 rfl rfl (.inl rfl)) (by simp))) rfl rfl rfl ?_
            refine JL.val (v := .bool false) (QV.pickT rfl rfl) rfl rfl rfl ?_
            refine JL.val (v := .bool false) (QV.move rfl) rfl rfl rfl ?_
            refine JL.skip (d := some 34) rfl rfl rfl ?_
            refine JL.skip (d := some 35) rfl rfl rfl ?_
            refine JL.skip (d := some 36) rfl rfl rfl ?_
            refine JL.val (v := .bool false) (QV.pickF rfl rfl) rfl rfl rfl ?_
            refine JL.val (v := .bool false) (QV.move rfl) rfl rfl rfl ?_
            refine JL.skip (d := some 39) rfl rfl rfl ?_
            refine JL.skip (d := some 40) rfl rfl rfl ?_
            refine JL.val (v := .bool false) (QV.pickF rfl rfl) rfl rfl rfl ?_
            refine JL.val (v := .bool false) (QV.move rfl) rfl rfl rfl ?_
            refine JL.skip (d := some 43) rfl rfl rfl ?_
            refine JL.skip (d := some 44) rfl rfl rfl ?_
            refine JL.val (v := .bool false) (QV.pickF rfl rfl) rfl rfl rfl ?_
            refine JL.val (v := .bool false) (QV.assign rfl) rfl rfl rfl ?_
            refine JL.nil ?_
            refine QJ.then_normal ?_
            refine JC.ret ?_
            obtain rfl := Option.some.inj hm
            exact QJ.body (vs := [.bool false]) (.inl rfl) rfl (ResVs.cons (ResV.tmp rfl) ResVs.nil) [] rfl rfl (.inr trivial) ⟨rfl, rfl⟩
          ·
            refine JL.val (v := .bool false) (QV.eq (QV.move rfl) (congrArg Value.bool (decide_eq_false h62))) rfl rfl rfl ?_
            refine JL.skip (d := some 30) rfl rfl rfl ?_
            refine JL.skip (d := some 31) rfl rfl rfl ?_
            refine JL.val (v := .bool false) (QV.pickF rfl rfl) rfl rfl rfl ?_
            refine JL.val (v := .bool false) (QV.move rfl) rfl rfl rfl ?_
            refine JL.skip (d := some 34) rfl rfl rfl ?_
            refine JL.skip (d := some 35) rfl rfl rfl ?_
            refine JL.skip (d := some 36) rfl rfl rfl ?_
            refine JL.val (v := .bool false) (QV.pickF rfl rfl) rfl rfl rfl ?_
            refine JL.val (v := .bool false) (QV.move rfl) rfl rfl rfl ?_
            refine JL.skip (d := some 39) rfl rfl rfl ?_
            refine JL.skip (d := some 40) rfl rfl rfl ?_
            refine JL.val (v := .bool false) (QV.pickF rfl rfl) rfl rfl rfl ?_
            refine JL.val (v := .bool false) (QV.move rfl) rfl rfl rfl ?_
            refine JL.skip (d := some 43) rfl rfl rfl ?_
            refine JL.skip (d := some 44) rfl rfl rfl ?_
            refine JL.val (v := .bool false) (QV.pickF rfl rfl) rfl rfl rfl ?_
            refine JL.val (v := .bool false) (QV.assign rfl) rfl rfl rfl ?_
            refine JL.nil ?_
            refine QJ.then_normal ?_
            refine JC.ret ?_
            obtain rfl := Option.some.inj hm
            exact QJ.body (vs := [.bool false]) (.inl rfl) rfl (ResVs.cons (ResV.tmp rfl) ResVs.nil) [] rfl rfl (.inr trivial) ⟨rfl, rfl⟩
        ·
          refine JL.val (v := .bool false) (QV.eq (QV.move rfl) (congrArg Value.bool (decide_eq_false h61))) rfl rfl rfl ?_
          refine JL.skip (d := some 26) rfl rfl rfl ?_
          refine JL.skip (d := some 27) rfl rfl rfl ?_
          refine JL.val (v := .bool false) (QV.pickF rfl rfl) rfl rfl rfl ?_
          refine JL.val (v := .bool false) (QV.move rfl) rfl rfl rfl ?_
          refine JL.skip (d := some 30) rfl rfl rfl ?_
          refine JL.skip (d := some 31) rfl rfl rfl ?_
          refine JL.val (v := .bool false) (QV.pickF rfl rfl) rfl rfl rfl ?_
          refine JL.val (v := .bool false) (QV.move rfl) rfl rfl rfl ?_
          refine JL.skip (d := some 34) rfl rfl rfl ?_
          refine JL.skip (d := some 35) rfl rfl rfl ?_
          refine JL.skip (d := some 36) rfl rfl rfl ?_
          refine JL.val (v := .bool false) (QV.pickF rfl rfl) rfl rfl rfl ?_
          refine JL.val (v := .bool false) (QV.move rfl) rfl rfl rfl ?_
          refine JL.skip (d := some 39) rfl rfl rfl ?_
          refine JL.skip (d := some 40) rfl rfl rfl ?_
          refine JL.val (v := .bool false) (QV.pickF rfl rfl) rfl rfl rfl ?_
          refine JL.val (v := .bool false) (QV.move rfl) rfl rfl rfl ?_
          refine JL.skip (d := some 43) rfl rfl rfl ?_
          refine JL.skip (d := some 44) rfl rfl rfl ?_
          refine JL.val (v := .bool false) (QV.pickF rfl rfl) rfl rfl rfl ?_
          refine JL.val (v := .bool false) (QV.assign rfl) rfl rfl rfl ?_
          refine JL.nil ?_
          refine QJ.then_normal ?_
          refine JC.ret ?_
          obtain rfl := Option.some.inj hm
          exact QJ.body (vs := [.bool false]) (.inl rfl) rfl (ResVs.cons (ResV.tmp rfl) ResVs.nil) [] rfl rfl (.inr trivial) ⟨rfl, rfl⟩
    ·
      refine JL.mv (d := some 14) (MV.call (Lo := [Asr.blk b44 102 [Seg.c (.int .i64 (128 : Int)), Seg.c (.int .i64 (9 : Int)), Seg.c (z45), Seg.c (z46), Seg.c (.bool false), Seg.c (.int .i64 (0 : Int)), Seg.c (.bool false), Seg.c (.int .i64 (0 : Int)), Seg.c (.int .u64 (0 : Int))]]) (Lr := []) (F29_1.spec (b44) (z45) (z46) ((128 : Int)) ((9 : Int)) (false) ((0 : Int)) (false) ((0 : Int)) ((0 : Int)) ((128 : Int)) ((128 : Int)) ((3 : Int)) _ hc48) rfl Try.func29 rfl rfl rfl [0] [] rfl rfl rfl trivial) rfl rfl rfl ?_
      rintro _ _ ⟨_, ⟨b63, b64, b65, b66, rfl, rfl⟩, rfl⟩
      refine JL.val (v := .tuple #[.pointer (some ⟨b63, 0, none⟩), .int .i64 (0 : Int)]) (QV.move rfl) rfl rfl rfl ?_
      refine JL.val (v := .pointer (some ⟨b63, 0, none⟩)) (QV.extract (vs := [.pointer (some ⟨b63, 0, none⟩), .int .i64 (0 : Int)]) rfl rfl) rfl rfl rfl ?_
      refine JL.val (v := .int .i64 (0 : Int)) (QV.extract (vs := [.pointer (some ⟨b63, 0, none⟩), .int .i64 (0 : Int)]) rfl rfl) rfl rfl rfl ?_
      refine JL.val (v := .pointer (some ⟨b63, 0, none⟩)) (QV.assign rfl) rfl rfl rfl ?_
      refine JL.val (v := .int .i64 (0 : Int)) (QV.assign rfl) rfl rfl rfl ?_
      refine JL.nil ?_
      refine QJ.then_normal ?_
      refine JC.seq ?_
      refine JC.region ?_
      refine JL.val (v := .pointer (some ⟨b44, 0, none⟩)) (QV.move rfl) rfl rfl rfl ?_
      refine JL.val (v := .agg #[.int .i64 (128 : Int), .int .i64 (128 : Int), .int .i64 (4 : Int)]) (QV.build (vals := [(0, .int .i64 (128 : Int)), (1, .int .i64 (128 : Int)), (2, .int .i64 (4 : Int))]) rfl (by kernel_rfl)) rfl rfl rfl ?_
      obtain ⟨y67, hc68, hm⟩ := bind_inv hm
      rcases y67 with y69 | y70
      ·
        refine JL.mv (d := some 20) (MV.call (Lo := [Asr.blk b44 102 [Seg.c (.int .i64 (128 : Int)), Seg.c (.int .i64 (9 : Int)), Seg.c (z45), Seg.c (z46), Seg.c (.bool false), Seg.c (.int .i64 (0 : Int)), Seg.c (.bool false), Seg.c (.int .i64 (0 : Int)), Seg.c (.int .u64 (0 : Int))]]) (Lr := [Asr.blk b64 134 [Seg.c (.pointer (some ⟨b44, 0, none⟩)), Seg.c (.int .i64 y50.1), Seg.c (.int .i64 y50.2.1)], Asr.blk b65 134 [Seg.c (.pointer (some ⟨b44, 0, none⟩)), Seg.c (.int .i64 y50.2.2.1), Seg.c (.int .i64 y50.2.2.2.1)], Asr.blk b66 134 [Seg.c (.pointer (some ⟨b44, 0, none⟩)), Seg.c (.int .i64 y50.2.2.2.2.1), Seg.c (.int .i64 y50.2.2.2.2.2)], Asr.blk b63 108 [Seg.c (.int .i64 (128 : Int)), Seg.c (.int .i64 (128 : Int)), Seg.c (.int .i64 (3 : Int)), Seg.c (.pointer (some ⟨b64, 0, none⟩)), Seg.c (.pointer (some ⟨b65, 0, none⟩)), Seg.c (.pointer (some ⟨b66, 0, none⟩))]]) (F29_1.spec (b44) (z45) (z46) ((128 : Int)) ((9 : Int)) (false) ((0 : Int)) (false) ((0 : Int)) ((0 : Int)) ((128 : Int)) ((128 : Int)) ((4 : Int)) _ hc68) rfl Try.func29 rfl rfl rfl [0] [1, 2, 3, 4] rfl rfl rfl trivial) rfl rfl rfl ?_
        rintro _ _ ⟨_, ⟨rfl, rfl⟩, rfl⟩
        refine JL.val (v := .tuple #[.pointer none, .int .i64 (1 : Int)]) (QV.move rfl) rfl rfl rfl ?_
        refine JL.val (v := .pointer none) (QV.extract (vs := [.pointer none, .int .i64 (1 : Int)]) rfl rfl) rfl rfl rfl ?_
        refine JL.val (v := .int .i64 (1 : Int)) (QV.extract (vs := [.pointer none, .int .i64 (1 : Int)]) rfl rfl) rfl rfl rfl ?_
        refine JL.val (v := .pointer none) (QV.assign rfl) rfl rfl rfl ?_
        refine JL.val (v := .int .i64 (1 : Int)) (QV.assign rfl) rfl rfl rfl ?_
        refine JL.nil ?_
        refine QJ.then_normal ?_
        refine JC.seq ?_
        refine JC.region ?_
        refine JL.val (v := .int .i64 (0 : Int)) (QV.move rfl) rfl rfl rfl ?_
        refine JL.val (v := .bool (decide ((0 : Int) = (0 : Int)))) (QV.eql rfl rfl) rfl rfl rfl ?_
        rcases ite_inv hm with ⟨h71, hm⟩ | ⟨h71, hm⟩
        ·
          refine JL.val (v := .bool true) (QV.eq (QV.move rfl) (congrArg Value.bool (decide_eq_true h71))) rfl rfl rfl ?_
          refine JL.val (v := .int .i64 (0 : Int)) (QV.move rfl) rfl rfl rfl ?_
          refine JL.val (v := .bool (decide ((0 : Int) = (0 : Int)))) (QV.eql rfl rfl) rfl rfl rfl ?_
          refine JL.val (v := .bool (decide ((0 : Int) = (0 : Int)))) (QV.pickT rfl rfl) rfl rfl rfl ?_
          rcases ite_inv hm with ⟨h72, hm⟩ | ⟨h72, hm⟩
          ·
            refine JL.val (v := .bool true) (QV.eq (QV.move rfl) (congrArg Value.bool (decide_eq_true h72))) rfl rfl rfl ?_
            refine JL.val (v := .pointer (some ⟨b63, 0, none⟩)) (QV.move rfl) rfl rfl rfl ?_
            refine JL.val (v := .bool true) ((QV.eq (QV.neqP Try.underlying53 rfl rfl (.inr rfl)) (by simp))) rfl rfl rfl ?_
            refine JL.val (v := .bool true) (QV.pickT rfl rfl) rfl rfl rfl ?_
            refine JL.val (v := .bool true) (QV.move rfl) rfl rfl rfl ?_
            refine JL.val (v := .pointer (some ⟨b63, 0, none⟩)) (QV.move rfl) rfl rfl rfl ?_
            obtain ⟨y73, hc74, hm⟩ := bind_inv hm
            refine JL.mv (d := some 35) (MV.call (Lo := [Asr.blk b63 108 [Seg.c (.int .i64 (128 : Int)), Seg.c (.int .i64 (128 : Int)), Seg.c (.int .i64 (3 : Int)), Seg.c (.pointer (some ⟨b64, 0, none⟩)), Seg.c (.pointer (some ⟨b65, 0, none⟩)), Seg.c (.pointer (some ⟨b66, 0, none⟩))], Asr.blk b64 134 [Seg.c (.pointer (some ⟨b44, 0, none⟩)), Seg.c (.int .i64 y50.1), Seg.c (.int .i64 y50.2.1)], Asr.blk b44 102 [Seg.c (.int .i64 (128 : Int)), Seg.c (.int .i64 (9 : Int)), Seg.c (z45), Seg.c (z46), Seg.c (.bool false), Seg.c (.int .i64 (0 : Int)), Seg.c (.bool false), Seg.c (.int .i64 (0 : Int)), Seg.c (.int .u64 (0 : Int))], Asr.blk b65 134 [Seg.c (.pointer (some ⟨b44, 0, none⟩)), Seg.c (.int .i64 y50.2.2.1), Seg.c (.int .i64 y50.2.2.2.1)], Asr.blk b66 134 [Seg.c (.pointer (some ⟨b44, 0, none⟩)), Seg.c (.int .i64 y50.2.2.2.2.1), Seg.c (.int .i64 y50.2.2.2.2.2)]]) (Lr := []) (F38_1.spec (b63) (b64) (b44) (z45) (z46) (b65) (b66) ((128 : Int)) ((128 : Int)) ((3 : Int)) ((128 : Int)) ((9 : Int)) (false) ((0 : Int)) (false) ((0 : Int)) ((0 : Int)) (y50.1) (y50.2.1) (y50.2.2.1) (y50.2.2.2.1) (y50.2.2.2.2.1) (y50.2.2.2.2.2) _ hc74) rfl Try.func38 rfl rfl rfl [4, 1, 0, 2, 3] [] rfl rfl rfl trivial) rfl rfl rfl ?_
            rintro _ _ ⟨_, ⟨rfl, rfl⟩, rfl⟩
            refine JL.val (v := .bool (decide (y73 = (384 : Int)))) (QV.eql rfl rfl) rfl rfl rfl ?_
            refine JL.val (v := .bool (decide (y73 = (384 : Int)))) (QV.pickT rfl rfl) rfl rfl rfl ?_
            rcases ite_inv hm with ⟨h75, hm⟩ | ⟨h75, hm⟩
            ·
              refine JL.val (v := .bool true) (QV.eq (QV.move rfl) (congrArg Value.bool (decide_eq_true h75))) rfl rfl rfl ?_
              refine JL.val (v := .pointer none) (QV.move rfl) rfl rfl rfl ?_
              refine JL.val (v := .bool true) ((QV.eq (QV.eqlP Try.underlying53 rfl rfl (.inl rfl)) (by simp))) rfl rfl rfl ?_
              refine JL.val (v := .bool true) (QV.pickT rfl rfl) rfl rfl rfl ?_
              refine JL.val (v := .bool true) (QV.move rfl) rfl rfl rfl ?_
              refine JL.val (v := .int .i64 (1 : Int)) (QV.move rfl) rfl rfl rfl ?_
              refine JL.val (v := .bool (decide ((1 : Int) = (1 : Int)))) (QV.eql rfl rfl) rfl rfl rfl ?_
              refine JL.val (v := .bool (decide ((1 : Int) = (1 : Int)))) (QV.pickT rfl rfl) rfl rfl rfl ?_
              refine JL.val (v := .bool (decide ((1 : Int) = (1 : Int)))) (QV.assign rfl) rfl rfl rfl ?_
              refine JL.nil ?_
              refine QJ.then_normal ?_
              refine JC.ret ?_
              obtain rfl := Option.some.inj hm
              exact QJ.body (vs := [.bool (decide ((1 : Int) = (1 : Int)))]) (.inl rfl) rfl (ResVs.cons (ResV.tmp rfl) ResVs.nil) [] rfl rfl (.inr trivial) ⟨rfl, rfl⟩
            ·
              refine JL.val (v := .bool false) (QV.eq (QV.move rfl) (congrArg Value.bool (decide_eq_false h75))) rfl rfl rfl ?_
              refine JL.skip (d := some 39) rfl rfl rfl ?_
              refine JL.skip (d := some 40) rfl rfl rfl ?_
              refine JL.val (v := .bool false) (QV.pickF rfl rfl) rfl rfl rfl ?_
              refine JL.val (v := .bool false) (QV.move rfl) rfl rfl rfl ?_
              refine JL.skip (d := some 43) rfl rfl rfl ?_
              refine JL.skip (d := some 44) rfl rfl rfl ?_
              refine JL.val (v := .bool false) (QV.pickF rfl rfl) rfl rfl rfl ?_
              refine JL.val (v := .bool false) (QV.assign rfl) rfl rfl rfl ?_
              refine JL.nil ?_
              refine QJ.then_normal ?_
              refine JC.ret ?_
              obtain rfl := Option.some.inj hm
              exact QJ.body (vs := [.bool false]) (.inl rfl) rfl (ResVs.cons (ResV.tmp rfl) ResVs.nil) [] rfl rfl (.inr trivial) ⟨rfl, rfl⟩
          ·
            refine JL.val (v := .bool false) (QV.eq (QV.move rfl) (congrArg Value.bool (decide_eq_false h72))) rfl rfl rfl ?_
            refine JL.skip (d := some 30) rfl rfl rfl ?_
            refine JL.skip (d := some 31) rfl rfl rfl ?_
            refine JL.val (v := .bool false) (QV.pickF rfl rfl) rfl rfl rfl ?_
            refine JL.val (v := .bool false) (QV.move rfl) rfl rfl rfl ?_
            refine JL.skip (d := some 34) rfl rfl rfl ?_
            refine JL.skip (d := some 35) rfl rfl rfl ?_
            refine JL.skip (d := some 36) rfl rfl rfl ?_
            refine JL.val (v := .bool false) (QV.pickF rfl rfl) rfl rfl rfl ?_
            refine JL.val (v := .bool false) (QV.move rfl) rfl rfl rfl ?_
            refine JL.skip (d := some 39) rfl rfl rfl ?_
            refine JL.skip (d := some 40) rfl rfl rfl ?_
            refine JL.val (v := .bool false) (QV.pickF rfl rfl) rfl rfl rfl ?_
            refine JL.val (v := .bool false) (QV.move rfl) rfl rfl rfl ?_
            refine JL.skip (d := some 43) rfl rfl rfl ?_
            refine JL.skip (d := some 44) rfl rfl rfl ?_
            refine JL.val (v := .bool false) (QV.pickF rfl rfl) rfl rfl rfl ?_
            refine JL.val (v := .bool false) (QV.assign rfl) rfl rfl rfl ?_
            refine JL.nil ?_
            refine QJ.then_normal ?_
            refine JC.ret ?_
            obtain rfl := Option.some.inj hm
            exact QJ.body (vs := [.bool false]) (.inl rfl) rfl (ResVs.cons (ResV.tmp rfl) ResVs.nil) [] rfl rfl (.inr trivial) ⟨rfl, rfl⟩
        ·
          refine JL.val (v := .bool false) (QV.eq (QV.move rfl) (congrArg Value.bool (decide_eq_false h71))) rfl rfl rfl ?_
          refine JL.skip (d := some 26) rfl rfl rfl ?_
          refine JL.skip (d := some 27) rfl rfl rfl ?_
          refine JL.val (v := .bool false) (QV.pickF rfl rfl) rfl rfl rfl ?_
          refine JL.val (v := .bool false) (QV.move rfl) rfl rfl rfl ?_
          refine JL.skip (d := some 30) rfl rfl rfl ?_
          refine JL.skip (d := some 31) rfl rfl rfl ?_
          refine JL.val (v := .bool false) (QV.pickF rfl rfl) rfl rfl rfl ?_
          refine JL.val (v := .bool false) (QV.move rfl) rfl rfl rfl ?_
          refine JL.skip (d := some 34) rfl rfl rfl ?_
          refine JL.skip (d := some 35) rfl rfl rfl ?_
          refine JL.skip (d := some 36) rfl rfl rfl ?_
          refine JL.val (v := .bool false) (QV.pickF rfl rfl) rfl rfl rfl ?_
          refine JL.val (v := .bool false) (QV.move rfl) rfl rfl rfl ?_
          refine JL.skip (d := some 39) rfl rfl rfl ?_
          refine JL.skip (d := some 40) rfl rfl rfl ?_
          refine JL.val (v := .bool false) (QV.pickF rfl rfl) rfl rfl rfl ?_
          refine JL.val (v := .bool false) (QV.move rfl) rfl rfl rfl ?_
          refine JL.skip (d := some 43) rfl rfl rfl ?_
          refine JL.skip (d := some 44) rfl rfl rfl ?_
          refine JL.val (v := .bool false) (QV.pickF rfl rfl) rfl rfl rfl ?_
          refine JL.val (v := .bool false) (QV.assign rfl) rfl rfl rfl ?_
          refine JL.nil ?_
          refine QJ.then_normal ?_
          refine JC.ret ?_
          obtain rfl := Option.some.inj hm
          exact QJ.body (vs := [.bool false]) (.inl rfl) rfl (ResVs.cons (ResV.tmp rfl) ResVs.nil) [] rfl rfl (.inr trivial) ⟨rfl, rfl⟩
      ·
        refine JL.mv (d := some 20) (MV.call (Lo := [Asr.blk b44 102 [Seg.c (.int .i64 (128 : Int)), Seg.c (.int .i64 (9 : Int)), Seg.c (z45), Seg.c (z46), Seg.c (.bool false), Seg.c (.int .i64 (0 : Int)), Seg.c (.bool false), Seg.c (.int .i64 (0 : Int)), Seg.c (.int .u64 (0 : Int))]]) (Lr := [Asr.blk b64 134 [Seg.c (.pointer (some ⟨b44, 0, none⟩)), Seg.c (.int .i64 y50.1), Seg.c (.int .i64 y50.2.1)], Asr.blk b65 134 [Seg.c (.pointer (some ⟨b44, 0, none⟩)), Seg.c (.int .i64 y50.2.2.1), Seg.c (.int .i64 y50.2.2.2.1)], Asr.blk b66 134 [Seg.c (.pointer (some ⟨b44, 0, none⟩)), Seg.c (.int .i64 y50.2.2.2.2.1), Seg.c (.int .i64 y50.2.2.2.2.2)], Asr.blk b63 108 [Seg.c (.int .i64 (128 : Int)), Seg.c (.int .i64 (128 : Int)), Seg.c (.int .i64 (3 : Int)), Seg.c (.pointer (some ⟨b64, 0, none⟩)), Seg.c (.pointer (some ⟨b65, 0, none⟩)), Seg.c (.pointer (some ⟨b66, 0, none⟩))]]) (F29_1.spec (b44) (z45) (z46) ((128 : Int)) ((9 : Int)) (false) ((0 : Int)) (false) ((0 : Int)) ((0 : Int)) ((128 : Int)) ((128 : Int)) ((4 : Int)) _ hc68) rfl Try.func29 rfl rfl rfl [0] [1, 2, 3, 4] rfl rfl rfl trivial) rfl rfl rfl ?_
        rintro _ _ ⟨_, ⟨b76, b77, b78, b79, rfl, rfl⟩, rfl⟩
        refine JL.val (v := .tuple #[.pointer (some ⟨b76, 0, none⟩), .int .i64 (0 : Int)]) (QV.move rfl) rfl rfl rfl ?_
        refine JL.val (v := .pointer (some ⟨b76, 0, none⟩)) (QV.extract (vs := [.pointer (some ⟨b76, 0, none⟩), .int .i64 (0 : Int)]) rfl rfl) rfl rfl rfl ?_
        refine JL.val (v := .int .i64 (0 : Int)) (QV.extract (vs := [.pointer (some ⟨b76, 0, none⟩), .int .i64 (0 : Int)]) rfl rfl) rfl rfl rfl ?_
        refine JL.val (v := .pointer (some ⟨b76, 0, none⟩)) (QV.assign rfl) rfl rfl rfl ?_
        refine JL.val (v := .int .i64 (0 : Int)) (QV.assign rfl) rfl rfl rfl ?_
        refine JL.nil ?_
        refine QJ.then_normal ?_
        refine JC.seq ?_
        refine JC.region ?_
        refine JL.val (v := .int .i64 (0 : Int)) (QV.move rfl) rfl rfl rfl ?_
        refine JL.val (v := .bool (decide ((0 : Int) = (0 : Int)))) (QV.eql rfl rfl) rfl rfl rfl ?_
        rcases ite_inv hm with ⟨h80, hm⟩ | ⟨h80, hm⟩
        ·
          refine JL.val (v := .bool true) (QV.eq (QV.move rfl) (congrArg Value.bool (decide_eq_true h80))) rfl rfl rfl ?_
          refine JL.val (v := .int .i64 (0 : Int)) (QV.move rfl) rfl rfl rfl ?_
          refine JL.val (v := .bool (decide ((0 : Int) = (0 : Int)))) (QV.eql rfl rfl) rfl rfl rfl ?_
          refine JL.val (v := .bool (decide ((0 : Int) = (0 : Int)))) (QV.pickT rfl rfl) rfl rfl rfl ?_
          rcases ite_inv hm with ⟨h81, hm⟩ | ⟨h81, hm⟩
          ·
            refine JL.val (v := .bool true) (QV.eq (QV.move rfl) (congrArg Value.bool (decide_eq_true h81))) rfl rfl rfl ?_
            refine JL.val (v := .pointer (some ⟨b63, 0, none⟩)) (QV.move rfl) rfl rfl rfl ?_
            refine JL.val (v := .bool true) ((QV.eq (QV.neqP Try.underlying53 rfl rfl (.inr rfl)) (by simp))) rfl rfl rfl ?_
            refine JL.val (v := .bool true) (QV.pickT rfl rfl) rfl rfl rfl ?_
            refine JL.val (v := .bool true) (QV.move rfl) rfl rfl rfl ?_
            refine JL.val (v := .pointer (some ⟨b63, 0, none⟩)) (QV.move rfl) rfl rfl rfl ?_
            obtain ⟨y82, hc83, hm⟩ := bind_inv hm
            refine JL.mv (d := some 35) (MV.call (Lo := [Asr.blk b63 108 [Seg.c (.int .i64 (128 : Int)), Seg.c (.int .i64 (128 : Int)), Seg.c (.int .i64 (3 : Int)), Seg.c (.pointer (some ⟨b64, 0, none⟩)), Seg.c (.pointer (some ⟨b65, 0, none⟩)), Seg.c (.pointer (some ⟨b66, 0, none⟩))], Asr.blk b64 134 [Seg.c (.pointer (some ⟨b44, 0, none⟩)), Seg.c (.int .i64 y50.1), Seg.c (.int .i64 y50.2.1)], Asr.blk b44 102 [Seg.c (.int .i64 (128 : Int)), Seg.c (.int .i64 (9 : Int)), Seg.c (z45), Seg.c (z46), Seg.c (.bool false), Seg.c (.int .i64 (0 : Int)), Seg.c (.bool false), Seg.c (.int .i64 (0 : Int)), Seg.c (.int .u64 (0 : Int))], Asr.blk b65 134 [Seg.c (.pointer (some ⟨b44, 0, none⟩)), Seg.c (.int .i64 y50.2.2.1), Seg.c (.int .i64 y50.2.2.2.1)], Asr.blk b66 134 [Seg.c (.pointer (some ⟨b44, 0, none⟩)), Seg.c (.int .i64 y50.2.2.2.2.1), Seg.c (.int .i64 y50.2.2.2.2.2)]]) (Lr := [Asr.blk b77 134 [Seg.c (.pointer (some ⟨b44, 0, none⟩)), Seg.c (.int .i64 y70.1), Seg.c (.int .i64 y70.2.1)], Asr.blk b78 134 [Seg.c (.pointer (some ⟨b44, 0, none⟩)), Seg.c (.int .i64 y70.2.2.1), Seg.c (.int .i64 y70.2.2.2.1)], Asr.blk b79 134 [Seg.c (.pointer (some ⟨b44, 0, none⟩)), Seg.c (.int .i64 y70.2.2.2.2.1), Seg.c (.int .i64 y70.2.2.2.2.2)], Asr.blk b76 108 [Seg.c (.int .i64 (128 : Int)), Seg.c (.int .i64 (128 : Int)), Seg.c (.int .i64 (4 : Int)), Seg.c (.pointer (some ⟨b77, 0, none⟩)), Seg.c (.pointer (some ⟨b78, 0, none⟩)), Seg.c (.pointer (some ⟨b79, 0, none⟩))]]) (F38_1.spec (b63) (b64) (b44) (z45) (z46) (b65) (b66) ((128 : Int)) ((128 : Int)) ((3 : Int)) ((128 : Int)) ((9 : Int)) (false) ((0 : Int)) (false) ((0 : Int)) ((0 : Int)) (y50.1) (y50.2.1) (y50.2.2.1) (y50.2.2.2.1) (y50.2.2.2.2.1) (y50.2.2.2.2.2) _ hc83) rfl Try.func38 rfl rfl rfl [8, 5, 0, 6, 7] [1, 2, 3, 4] rfl rfl rfl trivial) rfl rfl rfl ?_
            rintro _ _ ⟨_, ⟨rfl, rfl⟩, rfl⟩
            refine JL.val (v := .bool (decide (y82 = (384 : Int)))) (QV.eql rfl rfl) rfl rfl rfl ?_
            refine JL.val (v := .bool (decide (y82 = (384 : Int)))) (QV.pickT rfl rfl) rfl rfl rfl ?_
            rcases ite_inv hm with ⟨h84, hm⟩ | ⟨h84, hm⟩
            ·
              refine JL.val (v := .bool true) (QV.eq (QV.move rfl) (congrArg Value.bool (decide_eq_true h84))) rfl rfl rfl ?_
              refine JL.val (v := .pointer (some ⟨b76, 0, none⟩)) (QV.move rfl) rfl rfl rfl ?_
              refine JL.val (v := .bool false) ((QV.eq (QV.eqlP Try.underlying53 rfl rfl (.inr rfl)) (by simp))) rfl rfl rfl ?_
              refine JL.val (v := .bool false) (QV.pickT rfl rfl) rfl rfl rfl ?_
              refine JL.val (v := .bool false) (QV.move rfl) rfl rfl rfl ?_
              refine JL.skip (d := some 43) rfl rfl rfl ?_
              refine JL.skip (d := some 44) rfl rfl rfl ?_
              refine JL.val (v := .bool false) (QV.pickF rfl rfl) rfl rfl rfl ?_
              refine JL.val (v := .bool false) (QV.assign rfl) rfl rfl rfl ?_
              refine JL.nil ?_
              refine QJ.then_normal ?_
              refine JC.ret ?_
              obtain rfl := Option.some.inj hm
              exact QJ.body (vs := [.bool false]) (.inl rfl) rfl (ResVs.cons (ResV.tmp rfl) ResVs.nil) [] rfl rfl (.inr trivial) ⟨rfl, rfl⟩
            ·
              refine JL.val (v := .bool false) (QV.eq (QV.move rfl) (congrArg Value.bool (decide_eq_false h84))) rfl rfl rfl ?_
              refine JL.skip (d := some 39) rfl rfl rfl ?_
              refine JL.skip (d := some 40) rfl rfl rfl ?_
              refine JL.val (v := .bool false) (QV.pickF rfl rfl) rfl rfl rfl ?_
              refine JL.val (v := .bool false) (QV.move rfl) rfl rfl rfl ?_
              refine JL.skip (d := some 43) rfl rfl rfl ?_
              refine JL.skip (d := some 44) rfl rfl rfl ?_
              refine JL.val (v := .bool false) (QV.pickF rfl rfl) rfl rfl rfl ?_
              refine JL.val (v := .bool false) (QV.assign rfl) rfl rfl rfl ?_
              refine JL.nil ?_
              refine QJ.then_normal ?_
              refine JC.ret ?_
              obtain rfl := Option.some.inj hm
              exact QJ.body (vs := [.bool false]) (.inl rfl) rfl (ResVs.cons (ResV.tmp rfl) ResVs.nil) [] rfl rfl (.inr trivial) ⟨rfl, rfl⟩
          ·
            refine JL.val (v := .bool false) (QV.eq (QV.move rfl) (congrArg Value.bool (decide_eq_false h81))) rfl rfl rfl ?_
            refine JL.skip (d := some 30) rfl rfl rfl ?_
            refine JL.skip (d := some 31) rfl rfl rfl ?_
            refine JL.val (v := .bool false) (QV.pickF rfl rfl) rfl rfl rfl ?_
            refine JL.val (v := .bool false) (QV.move rfl) rfl rfl rfl ?_
            refine JL.skip (d := some 34) rfl rfl rfl ?_
            refine JL.skip (d := some 35) rfl rfl rfl ?_
            refine JL.skip (d := some 36) rfl rfl rfl ?_
            refine JL.val (v := .bool false) (QV.pickF rfl rfl) rfl rfl rfl ?_
            refine JL.val (v := .bool false) (QV.move rfl) rfl rfl rfl ?_
            refine JL.skip (d := some 39) rfl rfl rfl ?_
            refine JL.skip (d := some 40) rfl rfl rfl ?_
            refine JL.val (v := .bool false) (QV.pickF rfl rfl) rfl rfl rfl ?_
            refine JL.val (v := .bool false) (QV.move rfl) rfl rfl rfl ?_
            refine JL.skip (d := some 43) rfl rfl rfl ?_
            refine JL.skip (d := some 44) rfl rfl rfl ?_
            refine JL.val (v := .bool false) (QV.pickF rfl rfl) rfl rfl rfl ?_
            refine JL.val (v := .bool false) (QV.assign rfl) rfl rfl rfl ?_
            refine JL.nil ?_
            refine QJ.then_normal ?_
            refine JC.ret ?_
            obtain rfl := Option.some.inj hm
            exact QJ.body (vs := [.bool false]) (.inl rfl) rfl (ResVs.cons (ResV.tmp rfl) ResVs.nil) [] rfl rfl (.inr trivial) ⟨rfl, rfl⟩
        ·
          refine JL.val (v := .bool false) (QV.eq (QV.move rfl) (congrArg Value.bool (decide_eq_false h80))) rfl rfl rfl ?_
          refine JL.skip (d := some 26) rfl rfl rfl ?_
          refine JL.skip (d := some 27) rfl rfl rfl ?_
          refine JL.val (v := .bool false) (QV.pickF rfl rfl) rfl rfl rfl ?_
          refine JL.val (v := .bool false) (QV.move rfl) rfl rfl rfl ?_
          refine JL.skip (d := some 30) rfl rfl rfl ?_
          refine JL.skip (d := some 31) rfl rfl rfl ?_
          refine JL.val (v := .bool false) (QV.pickF rfl rfl) rfl rfl rfl ?_
          refine JL.val (v := .bool false) (QV.move rfl) rfl rfl rfl ?_
          refine JL.skip (d := some 34) rfl rfl rfl ?_
          refine JL.skip (d := some 35) rfl rfl rfl ?_
          refine JL.skip (d := some 36) rfl rfl rfl ?_
          refine JL.val (v := .bool false) (QV.pickF rfl rfl) rfl rfl rfl ?_
          refine JL.val (v := .bool false) (QV.move rfl) rfl rfl rfl ?_
          refine JL.skip (d := some 39) rfl rfl rfl ?_
          refine JL.skip (d := some 40) rfl rfl rfl ?_
          refine JL.val (v := .bool false) (QV.pickF rfl rfl) rfl rfl rfl ?_
          refine JL.val (v := .bool false) (QV.move rfl) rfl rfl rfl ?_
          refine JL.skip (d := some 43) rfl rfl rfl ?_
          refine JL.skip (d := some 44) rfl rfl rfl ?_
          refine JL.val (v := .bool false) (QV.pickF rfl rfl) rfl rfl rfl ?_
          refine JL.val (v := .bool false) (QV.assign rfl) rfl rfl rfl ?_
          refine JL.nil ?_
          refine QJ.then_normal ?_
          refine JC.ret ?_
          obtain rfl := Option.some.inj hm
          exact QJ.body (vs := [.bool false]) (.inl rfl) rfl (ResVs.cons (ResV.tmp rfl) ResVs.nil) [] rfl rfl (.inr trivial) ⟨rfl, rfl⟩

/-! ### 30: drogher/drogherref07.May -/
noncomputable def F30.m (x1 : Int) (x2 : Int) (x3 : Int) : Option Bool :=
  (if x1 < (128 : Int) then some false else (if (4096 : Int) < x1 then some false else (if x2 < (128 : Int) then some false else (if (4096 : Int) < x2 then some false else (if x3 < (1 : Int) then some false else (if (4096 : Int) < x3 then some false else (if x1 ≠ 0 then (if (Int.tmod x2 x1) = (0 : Int) then some (decide ((IntKind.wrap .i64 ((IntKind.wrap .i64 ((2 : Int) + (IntKind.wrap .i64 (Int.tdiv x2 x1)))) + (IntKind.wrap .i64 ((IntKind.wrap .i64 ((2 : Int) * x3)) * (IntKind.wrap .i64 (Int.tdiv x2 x1)))))) ≤ (1048576 : Int))) else some false) else none)))))))
set_option maxRecDepth 100000 in
set_option maxHeartbeats 4000000 in
theorem F30.spec (x1 : Int) (x2 : Int) (x3 : Int) (r : Bool) (hm : F30.m x1 x2 x3 = some r) :
    Ctr Try.prog false 30 [.agg #[.int .i64 x1, .int .i64 x2, .int .i64 x3]] [] (fun v L' => v = .bool r ∧ L' = []) := by
  refine Ctr.intro (n := 56) (env := [(0, .agg #[.int .i64 x1, .int .i64 x2, .int .i64 x3])]) Try.func30 rfl rfl rfl rfl (fun c => ?_)
  unfold F30.m at hm
  refine JC.seq ?_
  refine JC.region ?_
  refine JL.mv (d := some 1) (MV.box [Seg.c (.int .i64 x1), Seg.c (.int .i64 x2), Seg.c (.int .i64 x3)] rfl (fun w hs => rfl)) rfl rfl rfl ?_
  rintro _ _ ⟨b5, rfl, rfl⟩
  refine JL.val (v := .bool false) (QV.assign rfl) rfl rfl rfl ?_
  refine JL.nil ?_
  refine QJ.then_normal ?_
  refine JC.seq ?_
  refine JC.seq ?_
  refine JC.region ?_
  refine JL.val (v := .pointer (some ⟨b5, 0, none⟩)) (QV.fieldB fo_47_0 rfl rfl) rfl rfl rfl ?_
  refine JL.val (v := .int .i64 x1) (QV.load1 (ss := [Seg.c (.int .i64 x1), Seg.c (.int .i64 x2), Seg.c (.int .i64 x3)]) 0 0 rfl tk_3 rfl rfl rfl) rfl rfl rfl ?_
  refine JL.val (v := .bool (decide (x1 < (128 : Int)))) (QV.lss rfl rfl) rfl rfl rfl ?_
  rcases ite_inv hm with ⟨h6, hm⟩ | ⟨h6, hm⟩
  ·
    refine JL.val (v := .bool true) (QV.eq (QV.move rfl) (congrArg Value.bool (decide_eq_true h6))) rfl rfl rfl ?_
    refine JL.skip (d := some 7) rfl rfl rfl ?_
    refine JL.skip (d := some 8) rfl rfl rfl ?_
    refine JL.skip (d := some 9) rfl rfl rfl ?_
    refine JL.val (v := .bool true) (QV.pickT rfl rfl) rfl rfl rfl ?_
    refine JL.val (v := .bool true) (QV.move rfl) rfl rfl rfl ?_
    refine JL.skip (d := some 12) rfl rfl rfl ?_
    refine JL.skip (d := some 13) rfl rfl rfl ?_
    refine JL.skip (d := some 14) rfl rfl rfl ?_
    refine JL.val (v := .bool true) (QV.pickT rfl rfl) rfl rfl rfl ?_
    refine JL.val (v := .bool true) (QV.move rfl) rfl rfl rfl ?_
    refine JL.skip (d := some 17) rfl rfl rfl ?_
    refine JL.skip (d := some 18) rfl rfl rfl ?_
    refine JL.skip (d := some 19) rfl rfl rfl ?_
    refine JL.val (v := .bool true) (QV.pickT rfl rfl) rfl rfl rfl ?_
    refine JL.val (v := .bool true) (QV.move rfl) rfl rfl rfl ?_
    refine JL.skip (d := some 22) rfl rfl rfl ?_
    refine JL.skip (d := some 23) rfl rfl rfl ?_
    refine JL.skip (d := some 24) rfl rfl rfl ?_
    refine JL.val (v := .bool true) (QV.pickT rfl rfl) rfl rfl rfl ?_
    refine JL.val (v := .bool true) (QV.move rfl) rfl rfl rfl ?_
    refine JL.skip (d := some 27) rfl rfl rfl ?_
    refine JL.skip (d := some 28) rfl rfl rfl ?_
    refine JL.skip (d := some 29) rfl rfl rfl ?_
    refine JL.val (v := .bool true) (QV.pickT rfl rfl) rfl rfl rfl ?_
    refine JL.val (v := .bool true) (QV.move rfl) rfl rfl rfl ?_
    refine JL.skip (d := some 32) rfl rfl rfl ?_
    refine JL.skip (d := some 33) rfl rfl rfl ?_
    refine JL.skip (d := some 34) rfl rfl rfl ?_
    refine JL.skip (d := some 35) rfl rfl rfl ?_
    refine JL.skip (d := some 36) rfl rfl rfl ?_
    refine JL.skip (d := some 37) rfl rfl rfl ?_
    refine JL.val (v := .bool true) (QV.pickT rfl rfl) rfl rfl rfl ?_
    refine JL.nil ?_
    refine QJ.then_normal ?_
    refine JC.condT rfl ?_
    refine JC.seq ?_
    refine JC.region ?_
    refine JL.val (v := .bool false) (QV.assign rfl) rfl rfl rfl ?_
    refine JL.nil ?_
    refine QJ.then_normal ?_
    refine JC.ret ?_
    refine QJ.then_ret ?_
    obtain rfl := Option.some.inj hm
    exact QJ.body (vs := [.bool false]) (.inl rfl) rfl (ResVs.cons (ResV.tmp rfl) ResVs.nil) [] rfl rfl (.inr trivial) ⟨rfl, rfl⟩
  ·
    refine JL.val (v := .bool false) (QV.eq (QV.move rfl) (congrArg Value.bool (decide_eq_false h6))) rfl rfl rfl ?_
    refine JL.val (v := .pointer (some ⟨b5, 0, none⟩)) (QV.fieldB fo_47_0 rfl rfl) rfl rfl rfl ?_
    refine JL.val (v := .int .i64 x1) (QV.load1 (ss := [Seg.c (.int .i64 x1), Seg.c (.int .i64 x2), Seg.c (.int .i64 x3)]) 0 0 rfl tk_3 rfl rfl rfl) rfl rfl rfl ?_
    refine JL.val (v := .bool (decide ((4096 : Int) < x1))) (QV.gtr rfl rfl) rfl rfl rfl ?_
    refine JL.val (v := .bool (decide ((4096 : Int) < x1))) (QV.pickF rfl rfl) rfl rfl rfl ?_
    rcases ite_inv hm with ⟨h7, hm⟩ | ⟨h7, hm⟩
    ·
      refine JL.val (v := .bool true) (QV.eq (QV.move rfl) (congrArg Value.bool (decide_eq_true h7))) rfl rfl rfl ?_
      refine JL.skip (d := some 12) rfl rfl rfl ?_
      refine JL.skip (d := some 13) rfl rfl rfl ?_
      refine JL.skip (d := some 14) rfl rfl rfl ?_
      refine JL.val (v := .bool true) (QV.pickT rfl rfl) rfl rfl rfl ?_
      refine JL.val (v := .bool true) (QV.move rfl) rfl rfl rfl ?_
      refine JL.skip (d := some 17) rfl rfl rfl ?_
      refine JL.skip (d := some 18) rfl rfl rfl ?_
      refine JL.skip (d := some 19) rfl rfl rfl ?_
      refine JL.val (v := .bool true) (QV.pickT rfl rfl) rfl rfl rfl ?_
      refine JL.val (v := .bool true) (QV.move rfl) rfl rfl rfl ?_
      refine JL.skip (d := some 22) rfl rfl rfl ?_
      refine JL.skip (d := some 23) rfl rfl rfl ?_
      refine JL.skip (d := some 24) rfl rfl rfl ?_
      refine JL.val (v := .bool true) (QV.pickT rfl rfl) rfl rfl rfl ?_
      refine JL.val (v := .bool true) (QV.move rfl) rfl rfl rfl ?_
      refine JL.skip (d := some 27) rfl rfl rfl ?_
      refine JL.skip (d := some 28) rfl rfl rfl ?_
      refine JL.skip (d := some 29) rfl rfl rfl ?_
      refine JL.val (v := .bool true) (QV.pickT rfl rfl) rfl rfl rfl ?_
      refine JL.val (v := .bool true) (QV.move rfl) rfl rfl rfl ?_
      refine JL.skip (d := some 32) rfl rfl rfl ?_
      refine JL.skip (d := some 33) rfl rfl rfl ?_
      refine JL.skip (d := some 34) rfl rfl rfl ?_
      refine JL.skip (d := some 35) rfl rfl rfl ?_
      refine JL.skip (d := some 36) rfl rfl rfl ?_
      refine JL.skip (d := some 37) rfl rfl rfl ?_
      refine JL.val (v := .bool true) (QV.pickT rfl rfl) rfl rfl rfl ?_
      refine JL.nil ?_
      refine QJ.then_normal ?_
      refine JC.condT rfl ?_
      refine JC.seq ?_
      refine JC.region ?_
      refine JL.val (v := .bool false) (QV.assign rfl) rfl rfl rfl ?_
      refine JL.nil ?_
      refine QJ.then_normal ?_
      refine JC.ret ?_
      refine QJ.then_ret ?_
      obtain rfl := Option.some.inj hm
      exact QJ.body (vs := [.bool false]) (.inl rfl) rfl (ResVs.cons (ResV.tmp rfl) ResVs.nil) [] rfl rfl (.inr trivial) ⟨rfl, rfl⟩
    ·
      refine JL.val (v := .bool false) (QV.eq (QV.move rfl) (congrArg Value.bool (decide_eq_false h7))) rfl rfl rfl ?_
      refine JL.val (v := .pointer (some ⟨b5, 1, none⟩)) (QV.fieldB fo_47_1 rfl rfl) rfl rfl rfl ?_
      refine JL.val (v := .int .i64 x2) (QV.load1 (ss := [Seg.c (.int .i64 x1), Seg.c (.int .i64 x2), Seg.c (.int .i64 x3)]) 0 1 rfl tk_3 rfl rfl rfl) rfl rfl rfl ?_
      refine JL.val (v := .bool (decide (x2 < (128 : Int)))) (QV.lss rfl rfl) rfl rfl rfl ?_
      refine JL.val (v := .bool (decide (x2 < (128 : Int)))) (QV.pickF rfl rfl) rfl rfl rfl ?_
      rcases ite_inv hm with ⟨h8, hm⟩ | ⟨h8, hm⟩
      ·
        refine JL.val (v := .bool true) (QV.eq (QV.move rfl) (congrArg Value.bool (decide_eq_true h8))) rfl rfl rfl ?_
        refine JL.skip (d := some 17) rfl rfl rfl ?_
        refine JL.skip (d := some 18) rfl rfl rfl ?_
        refine JL.skip (d := some 19) rfl rfl rfl ?_
        refine JL.val (v := .bool true) (QV.pickT rfl rfl) rfl rfl rfl ?_
        refine JL.val (v := .bool true) (QV.move rfl) rfl rfl rfl ?_
        refine JL.skip (d := some 22) rfl rfl rfl ?_
        refine JL.skip (d := some 23) rfl rfl rfl ?_
        refine JL.skip (d := some 24) rfl rfl rfl ?_
        refine JL.val (v := .bool true) (QV.pickT rfl rfl) rfl rfl rfl ?_
        refine JL.val (v := .bool true) (QV.move rfl) rfl rfl rfl ?_
        refine JL.skip (d := some 27) rfl rfl rfl ?_
        refine JL.skip (d := some 28) rfl rfl rfl ?_
        refine JL.skip (d := some 29) rfl rfl rfl ?_
        refine JL.val (v := .bool true) (QV.pickT rfl rfl) rfl rfl rfl ?_
        refine JL.val (v := .bool true) (QV.move rfl) rfl rfl rfl ?_
        refine JL.skip (d := some 32) rfl rfl rfl ?_
        refine JL.skip (d := some 33) rfl rfl rfl ?_
        refine JL.skip (d := some 34) rfl rfl rfl ?_
        refine JL.skip (d := some 35) rfl rfl rfl ?_
        refine JL.skip (d := some 36) rfl rfl rfl ?_
        refine JL.skip (d := some 37) rfl rfl rfl ?_
        refine JL.val (v := .bool true) (QV.pickT rfl rfl) rfl rfl rfl ?_
        refine JL.nil ?_
        refine QJ.then_normal ?_
        refine JC.condT rfl ?_
        refine JC.seq ?_
        refine JC.region ?_
        refine JL.val (v := .bool false) (QV.assign rfl) rfl rfl rfl ?_
        refine JL.nil ?_
        refine QJ.then_normal ?_
        refine JC.ret ?_
        refine QJ.then_ret ?_
        obtain rfl := Option.some.inj hm
        exact QJ.body (vs := [.bool false]) (.inl rfl) rfl (ResVs.cons (ResV.tmp rfl) ResVs.nil) [] rfl rfl (.inr trivial) ⟨rfl, rfl⟩
      ·
        refine JL.val (v := .bool false) (QV.eq (QV.move rfl) (congrArg Value.bool (decide_eq_false h8))) rfl rfl rfl ?_
        refine JL.val (v := .pointer (some ⟨b5, 1, none⟩)) (QV.fieldB fo_47_1 rfl rfl) rfl rfl rfl ?_
        refine JL.val (v := .int .i64 x2) (QV.load1 (ss := [Seg.c (.int .i64 x1), Seg.c (.int .i64 x2), Seg.c (.int .i64 x3)]) 0 1 rfl tk_3 rfl rfl rfl) rfl rfl rfl ?_
        refine JL.val (v := .bool (decide ((4096 : Int) < x2))) (QV.gtr rfl rfl) rfl rfl rfl ?_
        refine JL.val (v := .bool (decide ((4096 : Int) < x2))) (QV.pickF rfl rfl) rfl rfl rfl ?_
        rcases ite_inv hm with ⟨h9, hm⟩ | ⟨h9, hm⟩
        ·
          refine JL.val (v := .bool true) (QV.eq (QV.move rfl) (congrArg Value.bool (decide_eq_true h9))) rfl rfl rfl ?_
          refine JL.skip (d := some 22) rfl rfl rfl ?_
          refine JL.skip (d := some 23) rfl rfl rfl ?_
          refine JL.skip (d := some 24) rfl rfl rfl ?_
          refine JL.val (v := .bool true) (QV.pickT rfl rfl) rfl rfl rfl ?_
          refine JL.val (v := .bool true) (QV.move rfl) rfl rfl rfl ?_
          refine JL.skip (d := some 27) rfl rfl rfl ?_
          refine JL.skip (d := some 28) rfl rfl rfl ?_
          refine JL.skip (d := some 29) rfl rfl rfl ?_
          refine JL.val (v := .bool true) (QV.pickT rfl rfl) rfl rfl rfl ?_
          refine JL.val (v := .bool true) (QV.move rfl) rfl rfl rfl ?_
          refine JL.skip (d := some 32) rfl rfl rfl ?_
          refine JL.skip (d := some 33) rfl rfl rfl ?_
          refine JL.skip (d := some 34) rfl rfl rfl ?_
          refine JL.skip (d := some 35) rfl rfl rfl ?_
          refine JL.skip (d := some 36) rfl rfl rfl ?_
          refine JL.skip (d := some 37) rfl rfl rfl ?_
          refine JL.val (v := .bool true) (QV.pickT rfl rfl) rfl rfl rfl ?_
          refine JL.nil ?_
          refine QJ.then_normal ?_
          refine JC.condT rfl ?_
          refine JC.seq ?_
          refine JC.region ?_
          refine JL.val (v := .bool false) (QV.assign rfl) rfl rfl rfl ?_
          refine JL.nil ?_
          refine QJ.then_normal ?_
          refine JC.ret ?_
          refine QJ.then_ret ?_
          obtain rfl := Option.some.inj hm
          exact QJ.body (vs := [.bool false]) (.inl rfl) rfl (ResVs.cons (ResV.tmp rfl) ResVs.nil) [] rfl rfl (.inr trivial) ⟨rfl, rfl⟩
        ·
          refine JL.val (v := .bool false) (QV.eq (QV.move rfl) (congrArg Value.bool (decide_eq_false h9))) rfl rfl rfl ?_
          refine JL.val (v := .pointer (some ⟨b5, 2, none⟩)) (QV.fieldB fo_47_2 rfl rfl) rfl rfl rfl ?_
          refine JL.val (v := .int .i64 x3) (QV.load1 (ss := [Seg.c (.int .i64 x1), Seg.c (.int .i64 x2), Seg.c (.int .i64 x3)]) 0 2 rfl tk_3 rfl rfl rfl) rfl rfl rfl ?_
          refine JL.val (v := .bool (decide (x3 < (1 : Int)))) (QV.lss rfl rfl) rfl rfl rfl ?_
          refine JL.val (v := .bool (decide (x3 < (1 : Int)))) (QV.pickF rfl rfl) rfl rfl rfl ?_
          rcases ite_inv hm with ⟨h10, hm⟩ | ⟨h10, hm⟩
          ·
            refine JL.val (v := .bool true) (QV.eq (QV.move rfl) (congrArg Value.bool (decide_eq_true h10))) rfl rfl rfl ?_
            refine JL.skip (d := some 27) rfl rfl rfl ?_
            refine JL.skip (d := some 28) rfl rfl rfl ?_
            refine JL.skip (d := some 29) rfl rfl rfl ?_
            refine JL.val (v := .bool true) (QV.pickT rfl rfl) rfl rfl rfl ?_
            refine JL.val (v := .bool true) (QV.move rfl) rfl rfl rfl ?_
            refine JL.skip (d := some 32) rfl rfl rfl ?_
            refine JL.skip (d := some 33) rfl rfl rfl ?_
            refine JL.skip (d := some 34) rfl rfl rfl ?_
            refine JL.skip (d := some 35) rfl rfl rfl ?_
            refine JL.skip (d := some 36) rfl rfl rfl ?_
            refine JL.skip (d := some 37) rfl rfl rfl ?_
            refine JL.val (v := .bool true) (QV.pickT rfl rfl) rfl rfl rfl ?_
            refine JL.nil ?_
            refine QJ.then_normal ?_
            refine JC.condT rfl ?_
            refine JC.seq ?_
            refine JC.region ?_
            refine JL.val (v := .bool false) (QV.assign rfl) rfl rfl rfl ?_
            refine JL.nil ?_
            refine QJ.then_normal ?_
            refine JC.ret ?_
            refine QJ.then_ret ?_
            obtain rfl := Option.some.inj hm
            exact QJ.body (vs := [.bool false]) (.inl rfl) rfl (ResVs.cons (ResV.tmp rfl) ResVs.nil) [] rfl rfl (.inr trivial) ⟨rfl, rfl⟩
          ·
            refine JL.val (v := .bool false) (QV.eq (QV.move rfl) (congrArg Value.bool (decide_eq_false h10))) rfl rfl rfl ?_
            refine JL.val (v := .pointer (some ⟨b5, 2, none⟩)) (QV.fieldB fo_47_2 rfl rfl) rfl rfl rfl ?_
            refine JL.val (v := .int .i64 x3) (QV.load1 (ss := [Seg.c (.int .i64 x1), Seg.c (.int .i64 x2), Seg.c (.int .i64 x3)]) 0 2 rfl tk_3 rfl rfl rfl) rfl rfl rfl ?_
            refine JL.val (v := .bool (decide ((4096 : Int) < x3))) (QV.gtr rfl rfl) rfl rfl rfl ?_
            refine JL.val (v := .bool (decide ((4096 : Int) < x3))) (QV.pickF rfl rfl) rfl rfl rfl ?_
            rcases ite_inv hm with ⟨h11, hm⟩ | ⟨h11, hm⟩
            ·
              refine JL.val (v := .bool true) (QV.eq (QV.move rfl) (congrArg Value.bool (decide_eq_true h11))) rfl rfl rfl ?_
              refine JL.skip (d := some 32) rfl rfl rfl ?_
              refine JL.skip (d := some 33) rfl rfl rfl ?_
              refine JL.skip (d := some 34) rfl rfl rfl ?_
              refine JL.skip (d := some 35) rfl rfl rfl ?_
              refine JL.skip (d := some 36) rfl rfl rfl ?_
              refine JL.skip (d := some 37) rfl rfl rfl ?_
              refine JL.val (v := .bool true) (QV.pickT rfl rfl) rfl rfl rfl ?_
              refine JL.nil ?_
              refine QJ.then_normal ?_
              refine JC.condT rfl ?_
              refine JC.seq ?_
              refine JC.region ?_
              refine JL.val (v := .bool false) (QV.assign rfl) rfl rfl rfl ?_
              refine JL.nil ?_
              refine QJ.then_normal ?_
              refine JC.ret ?_
              refine QJ.then_ret ?_
              obtain rfl := Option.some.inj hm
              exact QJ.body (vs := [.bool false]) (.inl rfl) rfl (ResVs.cons (ResV.tmp rfl) ResVs.nil) [] rfl rfl (.inr trivial) ⟨rfl, rfl⟩
            ·
              refine JL.val (v := .bool false) (QV.eq (QV.move rfl) (congrArg Value.bool (decide_eq_false h11))) rfl rfl rfl ?_
              refine JL.val (v := .pointer (some ⟨b5, 1, none⟩)) (QV.fieldB fo_47_1 rfl rfl) rfl rfl rfl ?_
              refine JL.val (v := .int .i64 x2) (QV.load1 (ss := [Seg.c (.int .i64 x1), Seg.c (.int .i64 x2), Seg.c (.int .i64 x3)]) 0 1 rfl tk_3 rfl rfl rfl) rfl rfl rfl ?_
              refine JL.val (v := .pointer (some ⟨b5, 0, none⟩)) (QV.fieldB fo_47_0 rfl rfl) rfl rfl rfl ?_
              refine JL.val (v := .int .i64 x1) (QV.load1 (ss := [Seg.c (.int .i64 x1), Seg.c (.int .i64 x2), Seg.c (.int .i64 x3)]) 0 0 rfl tk_3 rfl rfl rfl) rfl rfl rfl ?_
              obtain ⟨h12, hm⟩ := guard_inv hm
              refine JL.val (v := .int .i64 (Int.tmod x2 x1)) (QV.rem rfl rfl h12) rfl rfl rfl ?_
              refine JL.val (v := .bool (!(decide ((Int.tmod x2 x1) = (0 : Int))))) (QV.neq rfl rfl) rfl rfl rfl ?_
              refine JL.val (v := .bool (!(decide ((Int.tmod x2 x1) = (0 : Int))))) (QV.pickF rfl rfl) rfl rfl rfl ?_
              refine JL.nil ?_
              refine QJ.then_normal ?_
              rcases ite_inv hm with ⟨h13, hm⟩ | ⟨h13, hm⟩
              ·
                refine JC.condF' rfl (congrArg Bool.not (decide_eq_true h13)) ?_
                refine JC.skip ?_
                refine QJ.then_normal ?_
                refine JC.seq ?_
                refine JC.regionT [Asr.blk b5 47 [Seg.c (.int .i64 x1), Seg.c (.int .i64 x2), Seg.c (.int .i64 x3)]] (fun t => false) [(0, true), (1, true), (2, true), (3, true), (4, true), (5, true), (6, true), (7, true), (8, true), (9, true), (10, true), (11, false), (12, false), (13, false), (14, false), (15, false), (16, false), (17, false)] (by kernel_rfl) (by kernel_rfl) (by kernel_rfl) rfl (fun hsel => ?_)
                refine JT.take (i := 0) (v := .pointer (some ⟨b5, 1, none⟩)) hsel rfl (QV.fieldB fo_47_1 rfl rfl) rfl rfl rfl rfl [0] rfl rfl ?_
                refine JT.take (i := 1) (v := .int .i64 x2) hsel rfl (QV.load1 (ss := [Seg.c (.int .i64 x1), Seg.c (.int .i64 x2), Seg.c (.int .i64 x3)]) 0 1 rfl tk_3 rfl rfl rfl) rfl rfl rfl rfl [0] rfl rfl ?_
                refine JT.take (i := 2) (v := .pointer (some ⟨b5, 0, none⟩)) hsel rfl (QV.fieldB fo_47_0 rfl rfl) rfl rfl rfl rfl [0] rfl rfl ?_
                refine JT.take (i := 3) (v := .int .i64 x1) hsel rfl (QV.load1 (ss := [Seg.c (.int .i64 x1), Seg.c (.int .i64 x2), Seg.c (.int .i64 x3)]) 0 0 rfl tk_3 rfl rfl rfl) rfl rfl rfl rfl [0] rfl rfl ?_
                refine JT.take (i := 4) (v := .int .i64 (IntKind.wrap .i64 (Int.tdiv x2 x1))) hsel rfl (QV.quo rfl rfl h12) rfl rfl rfl rfl [0] rfl rfl ?_
                refine JT.take (i := 5) (v := .int .i64 (IntKind.wrap .i64 ((2 : Int) + (IntKind.wrap .i64 (Int.tdiv x2 x1))))) hsel rfl (QV.add rfl rfl) rfl rfl rfl rfl [0] rfl rfl ?_
                refine JT.take (i := 6) (v := .pointer (some ⟨b5, 2, none⟩)) hsel rfl (QV.fieldB fo_47_2 rfl rfl) rfl rfl rfl rfl [0] rfl rfl ?_
                refine JT.take (i := 7) (v := .int .i64 x3) hsel rfl (QV.load1 (ss := [Seg.c (.int .i64 x1), Seg.c (.int .i64 x2), Seg.c (.int .i64 x3)]) 0 2 rfl tk_3 rfl rfl rfl) rfl rfl rfl rfl [0] rfl rfl ?_
                refine JT.take (i := 8) (v := .int .i64 (IntKind.wrap .i64 ((2 : Int) * x3))) hsel rfl (QV.mul rfl rfl) rfl rfl rfl rfl [0] rfl rfl ?_
                refine JT.take (i := 9) (v := .pointer (some ⟨b5, 1, none⟩)) hsel rfl (QV.fieldB fo_47_1 rfl rfl) rfl rfl rfl rfl [0] rfl rfl ?_
                refine JT.take (i := 10) (v := .int .i64 x2) hsel rfl (QV.load1 (ss := [Seg.c (.int .i64 x1), Seg.c (.int .i64 x2), Seg.c (.int .i64 x3)]) 0 1 rfl tk_3 rfl rfl rfl) rfl rfl rfl rfl [0] rfl rfl ?_
                refine JT.only (i := 11) (d := some 50) rfl (MV.ofQV (v := .pointer (some ⟨b5, 0, none⟩)) (QV.fieldB fo_47_0 rfl rfl)) rfl rfl rfl ?_
                rintro _ _ ⟨rfl, rfl⟩
                refine ⟨fun _ => ⟨[0], rfl, rfl⟩, ?_⟩
                refine JT.only (i := 12) (d := some 51) rfl (MV.ofQV (v := .int .i64 x1) (QV.load1 (ss := [Seg.c (.int .i64 x1), Seg.c (.int .i64 x2), Seg.c (.int .i64 x3)]) 0 0 rfl tk_3 rfl rfl rfl)) rfl rfl rfl ?_
                rintro _ _ ⟨rfl, rfl⟩
                refine ⟨fun _ => ⟨[0], rfl, rfl⟩, ?_⟩
                refine JT.only (i := 13) (d := some 52) rfl (MV.ofQV (v := .int .i64 (IntKind.wrap .i64 (Int.tdiv x2 x1))) (QV.quo rfl rfl h12)) rfl rfl rfl ?_
                rintro _ _ ⟨rfl, rfl⟩
                refine ⟨fun _ => ⟨[0], rfl, rfl⟩, ?_⟩
                refine JT.only (i := 14) (d := some 53) rfl (MV.ofQV (v := .int .i64 (IntKind.wrap .i64 ((IntKind.wrap .i64 ((2 : Int) * x3)) * (IntKind.wrap .i64 (Int.tdiv x2 x1))))) (QV.mul rfl rfl)) rfl rfl rfl ?_
                rintro _ _ ⟨rfl, rfl⟩
                refine ⟨fun _ => ⟨[0], rfl, rfl⟩, ?_⟩
                refine JT.only (i := 15) (d := some 54) rfl (MV.ofQV (v := .int .i64 (IntKind.wrap .i64 ((IntKind.wrap .i64 ((2 : Int) + (IntKind.wrap .i64 (Int.tdiv x2 x1)))) + (IntKind.wrap .i64 ((IntKind.wrap .i64 ((2 : Int) * x3)) * (IntKind.wrap .i64 (Int.tdiv x2 x1))))))) (QV.add rfl rfl)) rfl rfl rfl ?_
                rintro _ _ ⟨rfl, rfl⟩
                refine ⟨fun _ => ⟨[0], rfl, rfl⟩, ?_⟩
                refine JT.only (i := 16) (d := some 55) rfl (MV.ofQV (v := .bool (decide ((IntKind.wrap .i64 ((IntKind.wrap .i64 ((2 : Int) + (IntKind.wrap .i64 (Int.tdiv x2 x1)))) + (IntKind.wrap .i64 ((IntKind.wrap .i64 ((2 : Int) * x3)) * (IntKind.wrap .i64 (Int.tdiv x2 x1)))))) ≤ (1048576 : Int)))) (QV.leq rfl rfl)) rfl rfl rfl ?_
                rintro _ _ ⟨rfl, rfl⟩
                refine ⟨fun _ => ⟨[0], rfl, rfl⟩, ?_⟩
                refine JT.only (i := 17) (d := some 2) rfl (MV.ofQV (v := .bool (decide ((IntKind.wrap .i64 ((IntKind.wrap .i64 ((2 : Int) + (IntKind.wrap .i64 (Int.tdiv x2 x1)))) + (IntKind.wrap .i64 ((IntKind.wrap .i64 ((2 : Int) * x3)) * (IntKind.wrap .i64 (Int.tdiv x2 x1)))))) ≤ (1048576 : Int)))) (QV.assign rfl)) rfl rfl rfl ?_
                rintro _ _ ⟨rfl, rfl⟩
                refine ⟨fun _ => ⟨[0], rfl, rfl⟩, ?_⟩
                refine JT.nil ?_
                refine QJ.then_normal ?_
                refine JC.ret ?_
                obtain rfl := Option.some.inj hm
                exact QJ.body (vs := [.bool (decide ((IntKind.wrap .i64 ((IntKind.wrap .i64 ((2 : Int) + (IntKind.wrap .i64 (Int.tdiv x2 x1)))) + (IntKind.wrap .i64 ((IntKind.wrap .i64 ((2 : Int) * x3)) * (IntKind.wrap .i64 (Int.tdiv x2 x1)))))) ≤ (1048576 : Int)))]) (.inl rfl) rfl (ResVs.cons (ResV.tmp rfl) ResVs.nil) [] rfl rfl (.inr trivial) ⟨rfl, rfl⟩
              ·
                refine JC.condT' rfl (congrArg Bool.not (decide_eq_false h13)) ?_
                refine JC.seq ?_
                refine JC.region ?_
                refine JL.val (v := .bool false) (QV.assign rfl) rfl rfl rfl ?_
                refine JL.nil ?_
                refine QJ.then_normal ?_
                refine JC.ret ?_
                refine QJ.then_ret ?_
                obtain rfl := Option.some.inj hm
                exact QJ.body (vs := [.bool false]) (.inl rfl) rfl (ResVs.cons (ResV.tmp rfl) ResVs.nil) [] rfl rfl (.inr trivial) ⟨rfl, rfl⟩

/-! ### 31: drogher/drogherref07.Layout -/
noncomputable def F31.m (x1 : Int) (x2 : Int) (x3 : Int) : Option ((Arr (Int × Int) 2) × Int × (Arr (Int × Int) 2) × Int) :=
  (if x1 ≠ 0 then some ((⟨[((0 : Int), (1 : Int)), ((1 : Int), (1 : Int))], rfl⟩ : (Arr (Int × Int) 2)), (IntKind.wrap .i64 (Int.tdiv x2 x1)), (⟨[((IntKind.wrap .i64 ((2 : Int) + (IntKind.wrap .i64 (Int.tdiv x2 x1)))), (IntKind.wrap .i64 ((IntKind.wrap .i64 (Int.tdiv x2 x1)) * x3))), ((IntKind.wrap .i64 ((IntKind.wrap .i64 ((2 : Int) + (IntKind.wrap .i64 (Int.tdiv x2 x1)))) + (IntKind.wrap .i64 ((IntKind.wrap .i64 (Int.tdiv x2 x1)) * x3)))), (IntKind.wrap .i64 ((IntKind.wrap .i64 (Int.tdiv x2 x1)) * x3)))], rfl⟩ : (Arr (Int × Int) 2)), (IntKind.wrap .i64 ((IntKind.wrap .i64 ((2 : Int) + (IntKind.wrap .i64 (Int.tdiv x2 x1)))) + (IntKind.wrap .i64 ((2 : Int) * (IntKind.wrap .i64 ((IntKind.wrap .i64 (Int.tdiv x2 x1)) * x3))))))) else none)
set_option maxRecDepth 100000 in
set_option maxHeartbeats 4000000 in
theorem F31.spec (x1 : Int) (x2 : Int) (x3 : Int) (r : ((Arr (Int × Int) 2) × Int × (Arr (Int × Int) 2) × Int)) (hm : F31.m x1 x2 x3 = some r) :
    Ctr Try.prog false 31 [.agg #[.int .i64 x1, .int .i64 x2, .int .i64 x3]] [] (fun v L' => v = .agg (flat [Seg.of (Enc.arr 2 (Enc.pair (Enc.int .i64) (Enc.int .i64))) r.1, Seg.c (.int .i64 (2 : Int)), Seg.c (.int .i64 r.2.1), Seg.of (Enc.arr 2 (Enc.pair (Enc.int .i64) (Enc.int .i64))) r.2.2.1, Seg.c (.int .i64 r.2.2.2)]).toArray ∧ L' = []) := by
  refine Ctr.intro (n := 36) (env := [(0, .agg #[.int .i64 x1, .int .i64 x2, .int .i64 x3])]) Try.func31 rfl rfl rfl rfl (fun c => ?_)
  unfold F31.m at hm
  refine JC.seq ?_
  refine JC.region ?_
  refine JL.mv (d := some 1) (MV.box [Seg.c (.int .i64 x1), Seg.c (.int .i64 x2), Seg.c (.int .i64 x3)] rfl (fun w hs => rfl)) rfl rfl rfl ?_
  rintro _ _ ⟨b8, rfl, rfl⟩
  refine JL.mv (d := some 2) (MV.alloc [Seg.of (Enc.arr 2 (Enc.pair (Enc.int .i64) (Enc.int .i64))) (Arr.rep 2 ((0 : Int), (0 : Int))), Seg.c (.int .i64 (0 : Int)), Seg.c (.int .i64 (0 : Int)), Seg.of (Enc.arr 2 (Enc.pair (Enc.int .i64) (Enc.int .i64))) (Arr.rep 2 ((0 : Int), (0 : Int))), Seg.c (.int .i64 (0 : Int))] z_61 rfl) rfl rfl rfl ?_
  rintro _ _ ⟨b9, rfl, rfl⟩
  refine JL.nil ?_
  refine QJ.then_normal ?_
  refine JC.seq ?_
  refine JC.region ?_
  refine JL.val (v := .pointer (some ⟨b8, 1, none⟩)) (QV.fieldB fo_47_1 rfl rfl) rfl rfl rfl ?_
  refine JL.val (v := .int .i64 x2) (QV.load1 (ss := [Seg.c (.int .i64 x1), Seg.c (.int .i64 x2), Seg.c (.int .i64 x3)]) 1 1 rfl tk_3 rfl rfl rfl) rfl rfl rfl ?_
  refine JL.val (v := .pointer (some ⟨b8, 0, none⟩)) (QV.fieldB fo_47_0 rfl rfl) rfl rfl rfl ?_
  refine JL.val (v := .int .i64 x1) (QV.load1 (ss := [Seg.c (.int .i64 x1), Seg.c (.int .i64 x2), Seg.c (.int .i64 x3)]) 1 0 rfl tk_3 rfl rfl rfl) rfl rfl rfl ?_
  obtain ⟨h10, hm⟩ := guard_inv hm
  refine JL.val (v := .int .i64 (IntKind.wrap .i64 (Int.tdiv x2 x1))) (QV.quo rfl rfl h10) rfl rfl rfl ?_
  refine JL.val (v := .int .i64 (IntKind.wrap .i64 (Int.tdiv x2 x1))) (QV.assign rfl) rfl rfl rfl ?_
  refine JL.nil ?_
  refine QJ.then_normal ?_
  refine JC.seq ?_
  refine JC.region ?_
  refine JL.val (v := .int .i64 (IntKind.wrap .i64 (Int.tdiv x2 x1))) (QV.move rfl) rfl rfl rfl ?_
  refine JL.val (v := .pointer (some ⟨b8, 2, none⟩)) (QV.fieldB fo_47_2 rfl rfl) rfl rfl rfl ?_
  refine JL.val (v := .int .i64 x3) (QV.load1 (ss := [Seg.c (.int .i64 x1), Seg.c (.int .i64 x2), Seg.c (.int .i64 x3)]) 1 2 rfl tk_3 rfl rfl rfl) rfl rfl rfl ?_
  refine JL.val (v := .int .i64 (IntKind.wrap .i64 ((IntKind.wrap .i64 (Int.tdiv x2 x1)) * x3))) (QV.mul rfl rfl) rfl rfl rfl ?_
  refine JL.val (v := .int .i64 (IntKind.wrap .i64 ((IntKind.wrap .i64 (Int.tdiv x2 x1)) * x3))) (QV.assign rfl) rfl rfl rfl ?_
  refine JL.nil ?_
  refine QJ.then_normal ?_
  refine JC.seq ?_
  refine JC.region ?_
  refine JL.val (v := .agg #[.int .i64 (0 : Int), .int .i64 (1 : Int)]) (QV.build (vals := [(0, .int .i64 (0 : Int)), (1, .int .i64 (1 : Int))]) rfl (by kernel_rfl)) rfl rfl rfl ?_
  refine JL.val (v := .agg #[.int .i64 (1 : Int), .int .i64 (1 : Int)]) (QV.build (vals := [(0, .int .i64 (1 : Int)), (1, .int .i64 (1 : Int))]) rfl (by kernel_rfl)) rfl rfl rfl ?_
  refine JL.val (v := .agg (((Enc.arr 2 (Enc.pair (Enc.int .i64) (Enc.int .i64)))).enc (⟨[((0 : Int), (1 : Int)), ((1 : Int), (1 : Int))], rfl⟩ : (Arr (Int × Int) 2))).toArray) (QV.build (vals := [(0, .agg #[.int .i64 (0 : Int), .int .i64 (1 : Int)]), (1, .agg #[.int .i64 (1 : Int), .int .i64 (1 : Int)])]) (cells := ((Enc.arr 2 (Enc.pair (Enc.int .i64) (Enc.int .i64))).enc (⟨[((0 : Int), (1 : Int)), ((1 : Int), (1 : Int))], rfl⟩ : (Arr (Int × Int) 2))).toArray) rfl (by kernel_rfl)) rfl rfl rfl ?_
  refine JL.val (v := .int .i64 (IntKind.wrap .i64 (Int.tdiv x2 x1))) (QV.move rfl) rfl rfl rfl ?_
  refine JL.val (v := .agg #[.int .i64 (2 : Int), .int .i64 (IntKind.wrap .i64 (Int.tdiv x2 x1))]) (QV.build (vals := [(0, .int .i64 (2 : Int)), (1, .int .i64 (IntKind.wrap .i64 (Int.tdiv x2 x1)))]) rfl (by kernel_rfl)) rfl rfl rfl ?_
  refine JL.val (v := .int .i64 (IntKind.wrap .i64 (Int.tdiv x2 x1))) (QV.move rfl) rfl rfl rfl ?_
  refine JL.val (v := .int .i64 (IntKind.wrap .i64 ((2 : Int) + (IntKind.wrap .i64 (Int.tdiv x2 x1))))) (QV.add rfl rfl) rfl rfl rfl ?_
  refine JL.val (v := .int .i64 (IntKind.wrap .i64 ((IntKind.wrap .i64 (Int.tdiv x2 x1)) * x3))) (QV.move rfl) rfl rfl rfl ?_
  refine JL.val (v := .agg #[.int .i64 (IntKind.wrap .i64 ((2 : Int) + (IntKind.wrap .i64 (Int.tdiv x2 x1)))), .int .i64 (IntKind.wrap .i64 ((IntKind.wrap .i64 (Int.tdiv x2 x1)) * x3))]) (QV.build (vals := [(0, .int .i64 (IntKind.wrap .i64 ((2 : Int) + (IntKind.wrap .i64 (Int.tdiv x2 x1))))), (1, .int .i64 (IntKind.wrap .i64 ((IntKind.wrap .i64 (Int.tdiv x2 x1)) * x3)))]) rfl (by kernel_rfl)) rfl rfl rfl ?_
  refine JL.val (v := .int .i64 (IntKind.wrap .i64 (Int.tdiv x2 x1))) (QV.move rfl) rfl rfl rfl ?_
  refine JL.val (v := .int .i64 (IntKind.wrap .i64 ((2 : Int) + (IntKind.wrap .i64 (Int.tdiv x2 x1))))) (QV.add rfl rfl) rfl rfl rfl ?_
  refine JL.val (v := .int .i64 (IntKind.wrap .i64 ((IntKind.wrap .i64 (Int.tdiv x2 x1)) * x3))) (QV.move rfl) rfl rfl rfl ?_
  refine JL.val (v := .int .i64 (IntKind.wrap .i64 ((IntKind.wrap .i64 ((2 : Int) + (IntKind.wrap .i64 (Int.tdiv x2 x1)))) + (IntKind.wrap .i64 ((IntKind.wrap .i64 (Int.tdiv x2 x1)) * x3))))) (QV.add rfl rfl) rfl rfl rfl ?_
  refine JL.val (v := .int .i64 (IntKind.wrap .i64 ((IntKind.wrap .i64 (Int.tdiv x2 x1)) * x3))) (QV.move rfl) rfl rfl rfl ?_
  refine JL.val (v := .agg #[.int .i64 (IntKind.wrap .i64 ((IntKind.wrap .i64 ((2 : Int) + (IntKind.wrap .i64 (Int.tdiv x2 x1)))) + (IntKind.wrap .i64 ((IntKind.wrap .i64 (Int.tdiv x2 x1)) * x3)))), .int .i64 (IntKind.wrap .i64 ((IntKind.wrap .i64 (Int.tdiv x2 x1)) * x3))]) (QV.build (vals := [(0, .int .i64 (IntKind.wrap .i64 ((IntKind.wrap .i64 ((2 : Int) + (IntKind.wrap .i64 (Int.tdiv x2 x1)))) + (IntKind.wrap .i64 ((IntKind.wrap .i64 (Int.tdiv x2 x1)) * x3))))), (1, .int .i64 (IntKind.wrap .i64 ((IntKind.wrap .i64 (Int.tdiv x2 x1)) * x3)))]) rfl (by kernel_rfl)) rfl rfl rfl ?_
  refine JL.val (v := .agg (((Enc.arr 2 (Enc.pair (Enc.int .i64) (Enc.int .i64)))).enc (⟨[((IntKind.wrap .i64 ((2 : Int) + (IntKind.wrap .i64 (Int.tdiv x2 x1)))), (IntKind.wrap .i64 ((IntKind.wrap .i64 (Int.tdiv x2 x1)) * x3))), ((IntKind.wrap .i64 ((IntKind.wrap .i64 ((2 : Int) + (IntKind.wrap .i64 (Int.tdiv x2 x1)))) + (IntKind.wrap .i64 ((IntKind.wrap .i64 (Int.tdiv x2 x1)) * x3)))), (IntKind.wrap .i64 ((IntKind.wrap .i64 (Int.tdiv x2 x1)) * x3)))], rfl⟩ : (Arr (Int × Int) 2))).toArray) (QV.build (vals := [(0, .agg #[.int .i64 (IntKind.wrap .i64 ((2 : Int) + (IntKind.wrap .i64 (Int.tdiv x2 x1)))), .int .i64 (IntKind.wrap .i64 ((IntKind.wrap .i64 (Int.tdiv x2 x1)) * x3))]), (1, .agg #[.int .i64 (IntKind.wrap .i64 ((IntKind.wrap .i64 ((2 : Int) + (IntKind.wrap .i64 (Int.tdiv x2 x1)))) + (IntKind.wrap .i64 ((IntKind.wrap .i64 (Int.tdiv x2 x1)) * x3)))), .int .i64 (IntKind.wrap .i64 ((IntKind.wrap .i64 (Int.tdiv x2 x1)) * x3))])]) (cells := ((Enc.arr 2 (Enc.pair (Enc.int .i64) (Enc.int .i64))).enc (⟨[((IntKind.wrap .i64 ((2 : Int) + (IntKind.wrap .i64 (Int.tdiv x2 x1)))), (IntKind.wrap .i64 ((IntKind.wrap .i64 (Int.tdiv x2 x1)) * x3))), ((IntKind.wrap .i64 ((IntKind.wrap .i64 ((2 : Int) + (IntKind.wrap .i64 (Int.tdiv x2 x1)))) + (IntKind.wrap .i64 ((IntKind.wrap .i64 (Int.tdiv x2 x1)) * x3)))), (IntKind.wrap .i64 ((IntKind.wrap .i64 (Int.tdiv x2 x1)) * x3)))], rfl⟩ : (Arr (Int × Int) 2))).toArray) rfl (by kernel_rfl)) rfl rfl rfl ?_
  refine JL.val (v := .int .i64 (IntKind.wrap .i64 (Int.tdiv x2 x1))) (QV.move rfl) rfl rfl rfl ?_
  refine JL.val (v := .int .i64 (IntKind.wrap .i64 ((2 : Int) + (IntKind.wrap .i64 (Int.tdiv x2 x1))))) (QV.add rfl rfl) rfl rfl rfl ?_
  refine JL.val (v := .int .i64 (IntKind.wrap .i64 ((IntKind.wrap .i64 (Int.tdiv x2 x1)) * x3))) (QV.move rfl) rfl rfl rfl ?_
  refine JL.val (v := .int .i64 (IntKind.wrap .i64 ((2 : Int) * (IntKind.wrap .i64 ((IntKind.wrap .i64 (Int.tdiv x2 x1)) * x3))))) (QV.mul rfl rfl) rfl rfl rfl ?_
  refine JL.val (v := .int .i64 (IntKind.wrap .i64 ((IntKind.wrap .i64 ((2 : Int) + (IntKind.wrap .i64 (Int.tdiv x2 x1)))) + (IntKind.wrap .i64 ((2 : Int) * (IntKind.wrap .i64 ((IntKind.wrap .i64 (Int.tdiv x2 x1)) * x3))))))) (QV.add rfl rfl) rfl rfl rfl ?_
  refine JL.val (v := .agg (flat [Seg.of (Enc.arr 2 (Enc.pair (Enc.int .i64) (Enc.int .i64))) (⟨[((0 : Int), (1 : Int)), ((1 : Int), (1 : Int))], rfl⟩ : (Arr (Int × Int) 2)), Seg.c (.int .i64 (2 : Int)), Seg.c (.int .i64 (IntKind.wrap .i64 (Int.tdiv x2 x1))), Seg.of (Enc.arr 2 (Enc.pair (Enc.int .i64) (Enc.int .i64))) (⟨[((IntKind.wrap .i64 ((2 : Int) + (IntKind.wrap .i64 (Int.tdiv x2 x1)))), (IntKind.wrap .i64 ((IntKind.wrap .i64 (Int.tdiv x2 x1)) * x3))), ((IntKind.wrap .i64 ((IntKind.wrap .i64 ((2 : Int) + (IntKind.wrap .i64 (Int.tdiv x2 x1)))) + (IntKind.wrap .i64 ((IntKind.wrap .i64 (Int.tdiv x2 x1)) * x3)))), (IntKind.wrap .i64 ((IntKind.wrap .i64 (Int.tdiv x2 x1)) * x3)))], rfl⟩ : (Arr (Int × Int) 2)), Seg.c (.int .i64 (IntKind.wrap .i64 ((IntKind.wrap .i64 ((2 : Int) + (IntKind.wrap .i64 (Int.tdiv x2 x1)))) + (IntKind.wrap .i64 ((2 : Int) * (IntKind.wrap .i64 ((IntKind.wrap .i64 (Int.tdiv x2 x1)) * x3)))))))]).toArray) (QV.build (vals := [(0, .agg (((Enc.arr 2 (Enc.pair (Enc.int .i64) (Enc.int .i64)))).enc (⟨[((0 : Int), (1 : Int)), ((1 : Int), (1 : Int))], rfl⟩ : (Arr (Int × Int) 2))).toArray), (1, .agg #[.int .i64 (2 : Int), .int .i64 (IntKind.wrap .i64 (Int.tdiv x2 x1))]), (2, .agg (((Enc.arr 2 (Enc.pair (Enc.int .i64) (Enc.int .i64)))).enc (⟨[((IntKind.wrap .i64 ((2 : Int) + (IntKind.wrap .i64 (Int.tdiv x2 x1)))), (IntKind.wrap .i64 ((IntKind.wrap .i64 (Int.tdiv x2 x1)) * x3))), ((IntKind.wrap .i64 ((IntKind.wrap .i64 ((2 : Int) + (IntKind.wrap .i64 (Int.tdiv x2 x1)))) + (IntKind.wrap .i64 ((IntKind.wrap .i64 (Int.tdiv x2 x1)) * x3)))), (IntKind.wrap .i64 ((IntKind.wrap .i64 (Int.tdiv x2 x1)) * x3)))], rfl⟩ : (Arr (Int × Int) 2))).toArray), (3, .int .i64 (IntKind.wrap .i64 ((IntKind.wrap .i64 ((2 : Int) + (IntKind.wrap .i64 (Int.tdiv x2 x1)))) + (IntKind.wrap .i64 ((2 : Int) * (IntKind.wrap .i64 ((IntKind.wrap .i64 (Int.tdiv x2 x1)) * x3)))))))]) rfl (by kernel_rfl)) rfl rfl rfl ?_
  refine JL.mv (d := none) (MV.store (ss := [Seg.of (Enc.arr 2 (Enc.pair (Enc.int .i64) (Enc.int .i64))) (Arr.rep 2 ((0 : Int), (0 : Int))), Seg.c (.int .i64 (0 : Int)), Seg.c (.int .i64 (0 : Int)), Seg.of (Enc.arr 2 (Enc.pair (Enc.int .i64) (Enc.int .i64))) (Arr.rep 2 ((0 : Int), (0 : Int))), Seg.c (.int .i64 (0 : Int))]) 0 0 5 [Seg.of (Enc.arr 2 (Enc.pair (Enc.int .i64) (Enc.int .i64))) (⟨[((0 : Int), (1 : Int)), ((1 : Int), (1 : Int))], rfl⟩ : (Arr (Int × Int) 2)), Seg.c (.int .i64 (2 : Int)), Seg.c (.int .i64 (IntKind.wrap .i64 (Int.tdiv x2 x1))), Seg.of (Enc.arr 2 (Enc.pair (Enc.int .i64) (Enc.int .i64))) (⟨[((IntKind.wrap .i64 ((2 : Int) + (IntKind.wrap .i64 (Int.tdiv x2 x1)))), (IntKind.wrap .i64 ((IntKind.wrap .i64 (Int.tdiv x2 x1)) * x3))), ((IntKind.wrap .i64 ((IntKind.wrap .i64 ((2 : Int) + (IntKind.wrap .i64 (Int.tdiv x2 x1)))) + (IntKind.wrap .i64 ((IntKind.wrap .i64 (Int.tdiv x2 x1)) * x3)))), (IntKind.wrap .i64 ((IntKind.wrap .i64 (Int.tdiv x2 x1)) * x3)))], rfl⟩ : (Arr (Int × Int) 2)), Seg.c (.int .i64 (IntKind.wrap .i64 ((IntKind.wrap .i64 ((2 : Int) + (IntKind.wrap .i64 (Int.tdiv x2 x1)))) + (IntKind.wrap .i64 ((2 : Int) * (IntKind.wrap .i64 ((IntKind.wrap .i64 (Int.tdiv x2 x1)) * x3)))))))] rfl tk_61 rfl rfl rfl rfl (fun w hs => ⟨rfl, one_of _ _, one_c rfl, one_c rfl, one_of _ _, one_c rfl, trivial⟩)) rfl rfl rfl ?_
  rintro _ _ ⟨rfl, rfl⟩
  refine JL.nil ?_
  refine QJ.then_normal ?_
  refine JC.ret ?_
  obtain rfl := Option.some.inj hm
  exact QJ.body (vs := [.agg (flat [Seg.of (Enc.arr 2 (Enc.pair (Enc.int .i64) (Enc.int .i64))) (⟨[((0 : Int), (1 : Int)), ((1 : Int), (1 : Int))], rfl⟩ : (Arr (Int × Int) 2)), Seg.c (.int .i64 (2 : Int)), Seg.c (.int .i64 (IntKind.wrap .i64 (Int.tdiv x2 x1))), Seg.of (Enc.arr 2 (Enc.pair (Enc.int .i64) (Enc.int .i64))) (⟨[((IntKind.wrap .i64 ((2 : Int) + (IntKind.wrap .i64 (Int.tdiv x2 x1)))), (IntKind.wrap .i64 ((IntKind.wrap .i64 (Int.tdiv x2 x1)) * x3))), ((IntKind.wrap .i64 ((IntKind.wrap .i64 ((2 : Int) + (IntKind.wrap .i64 (Int.tdiv x2 x1)))) + (IntKind.wrap .i64 ((IntKind.wrap .i64 (Int.tdiv x2 x1)) * x3)))), (IntKind.wrap .i64 ((IntKind.wrap .i64 (Int.tdiv x2 x1)) * x3)))], rfl⟩ : (Arr (Int × Int) 2)), Seg.c (.int .i64 (IntKind.wrap .i64 ((IntKind.wrap .i64 ((2 : Int) + (IntKind.wrap .i64 (Int.tdiv x2 x1)))) + (IntKind.wrap .i64 ((2 : Int) * (IntKind.wrap .i64 ((IntKind.wrap .i64 (Int.tdiv x2 x1)) * x3)))))))]).toArray]) (.inl rfl) rfl (ResVs.cons (ResV.cell (d := none) (ty := 0) (ps := "") (af := #[]) (g := none) rfl (QV.eq (QV.loadN (ss := [Seg.of (Enc.arr 2 (Enc.pair (Enc.int .i64) (Enc.int .i64))) (⟨[((0 : Int), (1 : Int)), ((1 : Int), (1 : Int))], rfl⟩ : (Arr (Int × Int) 2)), Seg.c (.int .i64 (2 : Int)), Seg.c (.int .i64 (IntKind.wrap .i64 (Int.tdiv x2 x1))), Seg.of (Enc.arr 2 (Enc.pair (Enc.int .i64) (Enc.int .i64))) (⟨[((IntKind.wrap .i64 ((2 : Int) + (IntKind.wrap .i64 (Int.tdiv x2 x1)))), (IntKind.wrap .i64 ((IntKind.wrap .i64 (Int.tdiv x2 x1)) * x3))), ((IntKind.wrap .i64 ((IntKind.wrap .i64 ((2 : Int) + (IntKind.wrap .i64 (Int.tdiv x2 x1)))) + (IntKind.wrap .i64 ((IntKind.wrap .i64 (Int.tdiv x2 x1)) * x3)))), (IntKind.wrap .i64 ((IntKind.wrap .i64 (Int.tdiv x2 x1)) * x3)))], rfl⟩ : (Arr (Int × Int) 2)), Seg.c (.int .i64 (IntKind.wrap .i64 ((IntKind.wrap .i64 ((2 : Int) + (IntKind.wrap .i64 (Int.tdiv x2 x1)))) + (IntKind.wrap .i64 ((2 : Int) * (IntKind.wrap .i64 ((IntKind.wrap .i64 (Int.tdiv x2 x1)) * x3)))))))]) 0 0 5 rfl tk_61 rfl rfl rfl rfl) rfl)) ResVs.nil) [] rfl rfl (.inr trivial) ⟨rfl, rfl⟩

/-! ### 32: (*drogher/image.Image).View -/
noncomputable def F32.m (x1 : Int) (x2 : Int) : Option Unit :=
  some ()
set_option maxRecDepth 100000 in
set_option maxHeartbeats 4000000 in
theorem F32.spec (x1 : Int) (x2 : Int) (r : Unit) (hm : F32.m x1 x2 = some r) :
    Ctr Try.prog false 32 [.pointer none, .int .u8 x1, .int .i64 x2] [] (fun v L' => v = .pointer none ∧ L' = []) := by
  refine Ctr.intro (n := 19) (env := [(0, .pointer none), (1, .int .u8 x1), (2, .int .i64 x2)]) Try.func32 rfl rfl rfl rfl (fun c => ?_)
  unfold F32.m at hm
  refine JC.seq ?_
  refine JC.region ?_
  refine JL.val (v := .pointer none) (QV.assign rfl) rfl rfl rfl ?_
  refine JL.nil ?_
  refine QJ.then_normal ?_
  refine JC.seq ?_
  refine JC.seq ?_
  refine JC.region ?_
  refine JL.val (v := .pointer none) (QV.move rfl) rfl rfl rfl ?_
  refine JL.val (v := .bool true) ((QV.eq (QV.eqlP Try.underlying53 rfl rfl (.inl rfl)) (by simp))) rfl rfl rfl ?_
  refine JL.nil ?_
  refine QJ.then_normal ?_
  refine JC.condT rfl ?_
  refine JC.seq ?_
  refine JC.region ?_
  refine JL.val (v := .pointer none) (QV.assign rfl) rfl rfl rfl ?_
  refine JL.nil ?_
  refine QJ.then_normal ?_
  refine JC.ret ?_
  refine QJ.then_ret ?_
  obtain rfl := Option.some.inj hm
  exact QJ.body (vs := [.pointer none]) (.inl rfl) rfl (ResVs.cons (ResV.tmp rfl) ResVs.nil) [] rfl rfl (.inr trivial) ⟨rfl, rfl⟩

/-! ### 33: (*drogher/image.View).Range -/
noncomputable def F33.m (x1 : Int) (x2 : Int) : Option Unit :=
  some ()
set_option maxRecDepth 100000 in
set_option maxHeartbeats 4000000 in
theorem F33.spec (x1 : Int) (x2 : Int) (r : Unit) (hm : F33.m x1 x2 = some r) :
    Ctr Try.prog false 33 [.pointer none, .int .i64 x1, .int .i64 x2] [] (fun v L' => v = .tuple #[SlV.nil.v, .int .i64 (5 : Int)] ∧ L' = [Asr.of 5 (Enc.int .u8) (SlV.nil.v) ([] : List Int)]) := by
  refine Ctr.intro (n := 45) (env := [(0, .pointer none), (1, .int .i64 x1), (2, .int .i64 x2)]) Try.func33 rfl rfl rfl rfl (fun c => ?_)
  unfold F33.m at hm
  refine JC.seq ?_
  refine JC.region ?_
  refine JL.ent (fun _ hs => hs.nil 5 (Enc.int .u8)) ?_
  refine JL.val (v := SlV.nil.v) (QV.assign rfl) rfl rfl rfl ?_
  refine JL.val (v := .int .i64 (0 : Int)) (QV.assign rfl) rfl rfl rfl ?_
  refine JL.nil ?_
  refine QJ.then_normal ?_
  refine JC.seq ?_
  refine JC.seq ?_
  refine JC.region ?_
  refine JL.val (v := .pointer none) (QV.move rfl) rfl rfl rfl ?_
  refine JL.val (v := .bool true) ((QV.eq (QV.eqlP Try.underlying63 rfl rfl (.inl rfl)) (by simp))) rfl rfl rfl ?_
  refine JL.val (v := .bool true) (QV.move rfl) rfl rfl rfl ?_
  refine JL.skip (d := some 11) rfl rfl rfl ?_
  refine JL.skip (d := some 12) rfl rfl rfl ?_
  refine JL.val (v := .bool true) (QV.pickT rfl rfl) rfl rfl rfl ?_
  refine JL.val (v := .bool true) (QV.move rfl) rfl rfl rfl ?_
  refine JL.skip (d := some 15) rfl rfl rfl ?_
  refine JL.skip (d := some 16) rfl rfl rfl ?_
  refine JL.val (v := .bool true) (QV.pickT rfl rfl) rfl rfl rfl ?_
  refine JL.val (v := .bool true) (QV.move rfl) rfl rfl rfl ?_
  refine JL.skip (d := some 19) rfl rfl rfl ?_
  refine JL.skip (d := some 20) rfl rfl rfl ?_
  refine JL.skip (d := some 21) rfl rfl rfl ?_
  refine JL.skip (d := some 22) rfl rfl rfl ?_
  refine JL.skip (d := some 23) rfl rfl rfl ?_
  refine JL.skip (d := some 24) rfl rfl rfl ?_
  refine JL.val (v := .bool true) (QV.pickT rfl rfl) rfl rfl rfl ?_
  refine JL.val (v := .bool true) (QV.move rfl) rfl rfl rfl ?_
  refine JL.skip (d := some 27) rfl rfl rfl ?_
  refine JL.skip (d := some 28) rfl rfl rfl ?_
  refine JL.skip (d := some 29) rfl rfl rfl ?_
  refine JL.skip (d := some 30) rfl rfl rfl ?_
  refine JL.skip (d := some 31) rfl rfl rfl ?_
  refine JL.skip (d := some 32) rfl rfl rfl ?_
  refine JL.skip (d := some 33) rfl rfl rfl ?_
  refine JL.skip (d := some 34) rfl rfl rfl ?_
  refine JL.val (v := .bool true) (QV.pickT rfl rfl) rfl rfl rfl ?_
  refine JL.nil ?_
  refine QJ.then_normal ?_
  refine JC.condT rfl ?_
  refine JC.seq ?_
  refine JC.region ?_
  refine JL.ent (fun _ hs => hs.nil 5 (Enc.int .u8)) ?_
  refine JL.val (v := SlV.nil.v) (QV.assign rfl) rfl rfl rfl ?_
  refine JL.val (v := .int .i64 (5 : Int)) (QV.assign rfl) rfl rfl rfl ?_
  refine JL.nil ?_
  refine QJ.then_normal ?_
  refine JC.ret ?_
  refine QJ.then_ret ?_
  obtain rfl := Option.some.inj hm
  exact QJ.body (vs := [SlV.nil.v, .int .i64 (5 : Int)]) (.inl rfl) rfl (ResVs.cons (ResV.tmp rfl) (ResVs.cons (ResV.tmp rfl) ResVs.nil)) [0] rfl rfl (.inr ⟨own_of _ _ _ _, trivial⟩) ⟨rfl, rfl⟩

/-! ### 34: (*drogher/image.Image).Sum -/
noncomputable def F34.m (x1 : Int) (x2 : Int) : Option (Arr Int 32) :=
  some K0
set_option maxRecDepth 100000 in
set_option maxHeartbeats 4000000 in
theorem F34.spec (x1 : Int) (x2 : Int) (r : (Arr Int 32)) (hm : F34.m x1 x2 = some r) :
    Ctr Try.prog false 34 [.pointer none, .int .u8 x1, .int .i64 x2] [] (fun v L' => v = .tuple #[.agg (((Enc.arr 32 (Enc.int .u8))).enc r).toArray, .int .i64 (1 : Int)] ∧ L' = []) := by
  refine Ctr.intro (n := 63) (env := [(0, .pointer none), (1, .int .u8 x1), (2, .int .i64 x2)]) Try.func34 rfl rfl rfl rfl (fun c => ?_)
  unfold F34.m at hm
  refine JC.seq ?_
  refine JC.region ?_
  refine JL.mv (d := some 6) (MV.alloc [Seg.of (Enc.arr 32 (Enc.int .u8)) (Arr.rep 32 (0 : Int))] z_67 rfl) rfl rfl rfl ?_
  rintro _ _ ⟨b4, rfl, rfl⟩
  refine JL.val (v := .int .i64 (0 : Int)) (QV.assign rfl) rfl rfl rfl ?_
  refine JL.nil ?_
  refine QJ.then_normal ?_
  refine JC.seq ?_
  refine JC.block ?_
  refine JC.seq ?_
  refine JC.region ?_
  refine JL.val (v := .pointer none) (QV.move rfl) rfl rfl rfl ?_
  refine JL.val (v := .bool true) ((QV.eq (QV.eqlP Try.underlying53 rfl rfl (.inl rfl)) (by simp))) rfl rfl rfl ?_
  refine JL.val (v := .bool true) (QV.assign rfl) rfl rfl rfl ?_
  refine JL.nil ?_
  refine QJ.then_normal ?_
  refine JC.condT rfl ?_
  refine JC.seq ?_
  refine JC.region ?_
  refine JL.val (v := .agg (((Enc.arr 32 (Enc.int .u8))).enc K0).toArray) (QV.build (vals := []) (cells := ((Enc.arr 32 (Enc.int .u8)).enc K0).toArray) rfl (by kernel_rfl)) rfl rfl rfl ?_
  refine JL.mv (d := none) (MV.store (ss := [Seg.of (Enc.arr 32 (Enc.int .u8)) (Arr.rep 32 (0 : Int))]) 0 0 1 [Seg.of (Enc.arr 32 (Enc.int .u8)) K0] rfl tk_67 rfl rfl rfl rfl (fun w hs => ⟨rfl, one_of _ _, trivial⟩)) rfl rfl rfl ?_
  rintro _ _ ⟨rfl, rfl⟩
  refine JL.val (v := .int .i64 (1 : Int)) (QV.assign rfl) rfl rfl rfl ?_
  refine JL.nil ?_
  refine QJ.then_normal ?_
  refine JC.ret ?_
  refine QJ.block_ret ?_
  refine QJ.then_ret ?_
  obtain rfl := Option.some.inj hm
  exact QJ.body (vs := [.agg (((Enc.arr 32 (Enc.int .u8))).enc K0).toArray, .int .i64 (1 : Int)]) (.inl rfl) rfl (ResVs.cons (ResV.cell (d := none) (ty := 0) (ps := "") (af := #[]) (g := none) rfl (QV.eq (QV.loadN (ss := [Seg.of (Enc.arr 32 (Enc.int .u8)) K0]) 0 0 1 rfl tk_67 rfl rfl rfl rfl) rfl)) (ResVs.cons (ResV.tmp rfl) ResVs.nil)) [] rfl rfl (.inr trivial) ⟨rfl, rfl⟩

/-! ### 35: (*drogher/image.Image).Kept -/
noncomputable def F35.m (x1 : Int) : Option Unit :=
  some ()
set_option maxRecDepth 100000 in
set_option maxHeartbeats 4000000 in
theorem F35.spec (x1 : Int) (r : Unit) (hm : F35.m x1 = some r) :
    Ctr Try.prog false 35 [.pointer none, .int .i64 x1] [] (fun v L' => v = .tuple #[SlV.nil.v, .int .i64 (1 : Int)] ∧ L' = [Asr.of 5 (Enc.int .u8) (SlV.nil.v) ([] : List Int)]) := by
  refine Ctr.intro (n := 16) (env := [(0, .pointer none), (1, .int .i64 x1)]) Try.func35 rfl rfl rfl rfl (fun c => ?_)
  unfold F35.m at hm
  refine JC.seq ?_
  refine JC.region ?_
  refine JL.ent (fun _ hs => hs.nil 5 (Enc.int .u8)) ?_
  refine JL.val (v := SlV.nil.v) (QV.assign rfl) rfl rfl rfl ?_
  refine JL.val (v := .int .i64 (0 : Int)) (QV.assign rfl) rfl rfl rfl ?_
  refine JL.nil ?_
  refine QJ.then_normal ?_
  refine JC.seq ?_
  refine JC.seq ?_
  refine JC.region ?_
  refine JL.val (v := .pointer none) (QV.move rfl) rfl rfl rfl ?_
  refine JL.val (v := .bool true) ((QV.eq (QV.eqlP Try.underlying53 rfl rfl (.inl rfl)) (by simp))) rfl rfl rfl ?_
  refine JL.nil ?_
  refine QJ.then_normal ?_
  refine JC.condT rfl ?_
  refine JC.seq ?_
  refine JC.region ?_
  refine JL.ent (fun _ hs => hs.nil 5 (Enc.int .u8)) ?_
  refine JL.val (v := SlV.nil.v) (QV.assign rfl) rfl rfl rfl ?_
  refine JL.val (v := .int .i64 (1 : Int)) (QV.assign rfl) rfl rfl rfl ?_
  refine JL.nil ?_
  refine QJ.then_normal ?_
  refine JC.ret ?_
  refine QJ.then_ret ?_
  obtain rfl := Option.some.inj hm
  exact QJ.body (vs := [SlV.nil.v, .int .i64 (1 : Int)]) (.inl rfl) rfl (ResVs.cons (ResV.tmp rfl) (ResVs.cons (ResV.tmp rfl) ResVs.nil)) [0] rfl rfl (.inr ⟨own_of _ _ _ _, trivial⟩) ⟨rfl, rfl⟩

/-! ### 36: (*drogher/image.Image).Put -/
noncomputable def F36.m (x1 : Int) (x2 : Int) (x4 : List Int) : Option Unit :=
  some ()
set_option maxRecDepth 100000 in
set_option maxHeartbeats 4000000 in
theorem F36.spec (s3 : SlV) (x1 : Int) (x2 : Int) (x4 : List Int) (r : Unit) (hm : F36.m x1 x2 x4 = some r) :
    Ctr Try.prog false 36 [.pointer none, .int .u8 x1, .int .i64 x2, s3.v] [Asr.vw (Enc.int .u8) (s3.v) x4] (fun v L' => v = .int .i64 (1 : Int) ∧ L' = []) := by
  refine Ctr.intro (n := 41) (env := [(0, .pointer none), (1, .int .u8 x1), (2, .int .i64 x2), (3, s3.v)]) Try.func36 rfl rfl rfl rfl (fun c => ?_)
  unfold F36.m at hm
  refine JC.seq ?_
  refine JC.region ?_
  refine JL.val (v := .int .i64 (0 : Int)) (QV.assign rfl) rfl rfl rfl ?_
  refine JL.nil ?_
  refine QJ.then_normal ?_
  refine JC.seq ?_
  refine JC.block ?_
  refine JC.seq ?_
  refine JC.region ?_
  refine JL.val (v := .pointer none) (QV.move rfl) rfl rfl rfl ?_
  refine JL.val (v := .bool true) ((QV.eq (QV.eqlP Try.underlying53 rfl rfl (.inl rfl)) (by simp))) rfl rfl rfl ?_
  refine JL.val (v := .bool true) (QV.assign rfl) rfl rfl rfl ?_
  refine JL.nil ?_
  refine QJ.then_normal ?_
  refine JC.condT rfl ?_
  refine JC.seq ?_
  refine JC.region ?_
  refine JL.val (v := .int .i64 (1 : Int)) (QV.assign rfl) rfl rfl rfl ?_
  refine JL.nil ?_
  refine QJ.then_normal ?_
  refine JC.ret ?_
  refine QJ.block_ret ?_
  refine QJ.then_ret ?_
  obtain rfl := Option.some.inj hm
  exact QJ.body (vs := [.int .i64 (1 : Int)]) (.inl rfl) rfl (ResVs.cons (ResV.tmp rfl) ResVs.nil) [] rfl rfl (.inr trivial) ⟨rfl, rfl⟩

/-! ### 37: (*drogher/image.Image).Keep -/
noncomputable def F37.m (x2 : List Int) : Option Unit :=
  some ()
set_option maxRecDepth 100000 in
set_option maxHeartbeats 4000000 in
theorem F37.spec (s1 : SlV) (x2 : List Int) (r : Unit) (hm : F37.m x2 = some r) :
    Ctr Try.prog false 37 [.pointer none, s1.v] [Asr.vw (Enc.int .u8) (s1.v) x2] (fun v L' => v = .int .i64 (1 : Int) ∧ L' = []) := by
  refine Ctr.intro (n := 19) (env := [(0, .pointer none), (1, s1.v)]) Try.func37 rfl rfl rfl rfl (fun c => ?_)
  unfold F37.m at hm
  refine JC.seq ?_
  refine JC.region ?_
  refine JL.val (v := .int .i64 (0 : Int)) (QV.assign rfl) rfl rfl rfl ?_
  refine JL.nil ?_
  refine QJ.then_normal ?_
  refine JC.seq ?_
  refine JC.block ?_
  refine JC.seq ?_
  refine JC.region ?_
  refine JL.val (v := .pointer none) (QV.move rfl) rfl rfl rfl ?_
  refine JL.val (v := .bool true) ((QV.eq (QV.eqlP Try.underlying53 rfl rfl (.inl rfl)) (by simp))) rfl rfl rfl ?_
  refine JL.val (v := .bool true) (QV.assign rfl) rfl rfl rfl ?_
  refine JL.nil ?_
  refine QJ.then_normal ?_
  refine JC.condT rfl ?_
  refine JC.seq ?_
  refine JC.region ?_
  refine JL.val (v := .int .i64 (1 : Int)) (QV.assign rfl) rfl rfl rfl ?_
  refine JL.nil ?_
  refine QJ.then_normal ?_
  refine JC.ret ?_
  refine QJ.block_ret ?_
  refine QJ.then_ret ?_
  obtain rfl := Option.some.inj hm
  exact QJ.body (vs := [.int .i64 (1 : Int)]) (.inl rfl) rfl (ResVs.cons (ResV.tmp rfl) ResVs.nil) [] rfl rfl (.inr trivial) ⟨rfl, rfl⟩

/-! ### 38: (*drogher/image.Image).Cap -/
noncomputable def F38_2.m  : Option Unit :=
  some ()
set_option maxRecDepth 100000 in
set_option maxHeartbeats 4000000 in
theorem F38_2.spec  (r : Unit) (hm : F38_2.m  = some r) :
    Ctr Try.prog false 38 [.pointer none] [] (fun v L' => v = .int .i64 (0 : Int) ∧ L' = []) := by
  refine Ctr.intro (n := 16) (env := [(0, .pointer none)]) Try.func38 rfl rfl rfl rfl (fun c => ?_)
  unfold F38_2.m at hm
  refine JC.seq ?_
  refine JC.region ?_
  refine JL.val (v := .int .i64 (0 : Int)) (QV.assign rfl) rfl rfl rfl ?_
  refine JL.nil ?_
  refine QJ.then_normal ?_
  refine JC.seq ?_
  refine JC.seq ?_
  refine JC.region ?_
  refine JL.val (v := .pointer none) (QV.move rfl) rfl rfl rfl ?_
  refine JL.val (v := .bool true) ((QV.eq (QV.eqlP Try.underlying53 rfl rfl (.inl rfl)) (by simp))) rfl rfl rfl ?_
  refine JL.nil ?_
  refine QJ.then_normal ?_
  refine JC.condT rfl ?_
  refine JC.seq ?_
  refine JC.region ?_
  refine JL.val (v := .int .i64 (0 : Int)) (QV.assign rfl) rfl rfl rfl ?_
  refine JL.nil ?_
  refine QJ.then_normal ?_
  refine JC.ret ?_
  refine QJ.then_ret ?_
  obtain rfl := Option.some.inj hm
  exact QJ.body (vs := [.int .i64 (0 : Int)]) (.inl rfl) rfl (ResVs.cons (ResV.tmp rfl) ResVs.nil) [] rfl rfl (.inr trivial) ⟨rfl, rfl⟩

end Go.Proofs.Ytgganckggdjpaaa
