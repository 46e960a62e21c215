/- Written by gen.py: functions and their contracts. -/
import Derived.Test.YtmedbpiapeiobaaMer
namespace Go.Proofs.Ytmedbpiapeiobaa
open Go Go.Eng Go.Proofs
set_option linter.unusedVariables false
set_option linter.unusedSimpArgs false
/-! ### 51: drogher/drogherref21.Steps -/
noncomputable def F51.g (recM : (Int) → (Int) → Option Int) (x1 : Int) (x2 : Int) : Option Int :=
  (if x2 = (1 : Int) then some (0 : Int) else ((F77.m (x2)).bind fun y6 => (if x1 < y6 then ((recM (x1) (y6)).bind fun y9 => some (IntKind.wrap .i64 ((1 : Int) + y9))) else ((recM ((IntKind.wrap .i64 (x1 - y6))) ((IntKind.wrap .i64 (x2 - y6)))).bind fun y11 => some (IntKind.wrap .i64 ((1 : Int) + y11))))))
noncomputable def F51.mF : Nat → (Int) → (Int) → Option Int
  | 0 => fun _ _ => none
  | n + 1 => fun x1 x2 => F51.g (F51.mF n) x1 x2
noncomputable def F51.m (x1 : Int) (x2 : Int) : Option Int := evt (fun n => F51.mF n x1 x2)
set_option maxRecDepth 100000 in
set_option maxHeartbeats 4000000 in
theorem F51.specG (recM : (Int) → (Int) → Option Int) (ih : ∀ (x1 : Int) (x2 : Int) (r : Int) (_hm : recM x1 x2 = some r), Ctr Try.prog false 51 [.int .i64 x1, .int .i64 x2] [] (fun v L' => v = .int .i64 r ∧ L' = [])) (x1 : Int) (x2 : Int) (r : Int) (hm : F51.g recM x1 x2 = some r) :
    Ctr Try.prog false 51 [.int .i64 x1, .int .i64 x2] [] (fun v L' => v = .int .i64 r ∧ L' = []) := by
  refine Ctr.intro (n := 25) (env := [(0, .int .i64 x1), (1, .int .i64 x2)]) Try.func51 rfl rfl rfl rfl (fun c => ?_)
  unfold F51.g at hm
  refine JC.seq ?_
  refine JC.region ?_
  refine JL.val (v := .int .i64 (0 : Int)) (QV.assign rfl) rfl rfl rfl ?_
  refine JL.nil ?_
  refine QJ.then_normal ?_
  refine JC.seq ?_
  refine JC.seq ?_
  refine JC.region ?_
  refine JL.val (v := .int .i64 x2) (QV.move rfl) rfl rfl rfl ?_
  refine JL.val (v := .bool (decide (x2 = (1 : Int)))) (QV.eql rfl rfl) rfl rfl rfl ?_
  refine JL.nil ?_
  refine QJ.then_normal ?_
  rcases ite_inv hm with ⟨h5, hm⟩ | ⟨h5, hm⟩
  ·
    refine JC.condT' rfl (decide_eq_true h5) ?_
    refine JC.seq ?_
    refine JC.region ?_
    refine JL.val (v := .int .i64 (0 : Int)) (QV.assign rfl) rfl rfl rfl ?_
    refine JL.nil ?_
    refine QJ.then_normal ?_
    refine JC.ret ?_
    refine QJ.then_ret ?_
    obtain rfl := Option.some.inj hm
    exact QJ.body (vs := [.int .i64 (0 : Int)]) (.inl rfl) rfl (ResVs.cons (ResV.tmp rfl) ResVs.nil) [] rfl rfl (.inr trivial) ⟨rfl, rfl⟩
  ·
    refine JC.condF' rfl (decide_eq_false h5) ?_
    refine JC.skip ?_
    refine QJ.then_normal ?_
    refine JC.seq ?_
    refine JC.region ?_
    refine JL.val (v := .int .i64 x2) (QV.move rfl) rfl rfl rfl ?_
    obtain ⟨y6, hc7, hm⟩ := bind_inv hm
    refine JL.mv (d := some 9) (MV.call (Lo := []) (Lr := []) (F77.spec (x2) _ hc7) rfl Try.func77 rfl rfl rfl [] [] rfl rfl rfl trivial) rfl rfl rfl ?_
    rintro _ _ ⟨_, ⟨rfl, rfl⟩, rfl⟩
    refine JL.val (v := .int .i64 y6) (QV.assign rfl) rfl rfl rfl ?_
    refine JL.nil ?_
    refine QJ.then_normal ?_
    refine JC.seq ?_
    refine JC.seq ?_
    refine JC.region ?_
    refine JL.val (v := .int .i64 x1) (QV.move rfl) rfl rfl rfl ?_
    refine JL.val (v := .int .i64 y6) (QV.move rfl) rfl rfl rfl ?_
    refine JL.val (v := .bool (decide (x1 < y6))) (QV.lss rfl rfl) rfl rfl rfl ?_
    refine JL.nil ?_
    refine QJ.then_normal ?_
    rcases ite_inv hm with ⟨h8, hm⟩ | ⟨h8, hm⟩
    ·
      refine JC.condT' rfl (decide_eq_true h8) ?_
      refine JC.seq ?_
      refine JC.region ?_
      refine JL.val (v := .int .i64 x1) (QV.move rfl) rfl rfl rfl ?_
      refine JL.val (v := .int .i64 y6) (QV.move rfl) rfl rfl rfl ?_
      obtain ⟨y9, hc10, hm⟩ := bind_inv hm
      refine JL.mv (d := some 15) (MV.call (Lo := []) (Lr := []) (ih (x1) (y6) _ hc10) rfl Try.func51 rfl rfl rfl [] [] rfl rfl rfl trivial) rfl rfl rfl ?_
      rintro _ _ ⟨_, ⟨rfl, rfl⟩, rfl⟩
      refine JL.val (v := .int .i64 (IntKind.wrap .i64 ((1 : Int) + y9))) (QV.add rfl rfl) rfl rfl rfl ?_
      refine JL.val (v := .int .i64 (IntKind.wrap .i64 ((1 : Int) + y9))) (QV.assign rfl) rfl rfl rfl ?_
      refine JL.nil ?_
      refine QJ.then_normal ?_
      refine JC.ret ?_
      refine QJ.then_ret ?_
      obtain rfl := Option.some.inj hm
      exact QJ.body (vs := [.int .i64 (IntKind.wrap .i64 ((1 : Int) + y9))]) (.inl rfl) rfl (ResVs.cons (ResV.tmp rfl) ResVs.nil) [] rfl rfl (.inr trivial) ⟨rfl, rfl⟩
    ·
      refine JC.condF' rfl (decide_eq_false h8) ?_
      refine JC.skip ?_
      refine QJ.then_normal ?_
      refine JC.seq ?_
      refine JC.region ?_
      refine JL.val (v := .int .i64 x1) (QV.move rfl) rfl rfl rfl ?_
      refine JL.val (v := .int .i64 y6) (QV.move rfl) rfl rfl rfl ?_
      refine JL.val (v := .int .i64 (IntKind.wrap .i64 (x1 - y6))) (QV.sub rfl rfl) rfl rfl rfl ?_
      refine JL.val (v := .int .i64 x2) (QV.move rfl) rfl rfl rfl ?_
      refine JL.val (v := .int .i64 y6) (QV.move rfl) rfl rfl rfl ?_
      refine JL.val (v := .int .i64 (IntKind.wrap .i64 (x2 - y6))) (QV.sub rfl rfl) rfl rfl rfl ?_
      obtain ⟨y11, hc12, hm⟩ := bind_inv hm
      refine JL.mv (d := some 23) (MV.call (Lo := []) (Lr := []) (ih ((IntKind.wrap .i64 (x1 - y6))) ((IntKind.wrap .i64 (x2 - y6))) _ hc12) rfl Try.func51 rfl rfl rfl [] [] rfl rfl rfl trivial) rfl rfl rfl ?_
      rintro _ _ ⟨_, ⟨rfl, rfl⟩, rfl⟩
      refine JL.val (v := .int .i64 (IntKind.wrap .i64 ((1 : Int) + y11))) (QV.add rfl rfl) rfl rfl rfl ?_
      refine JL.val (v := .int .i64 (IntKind.wrap .i64 ((1 : Int) + y11))) (QV.assign rfl) rfl rfl rfl ?_
      refine JL.nil ?_
      refine QJ.then_normal ?_
      refine JC.ret ?_
      obtain rfl := Option.some.inj hm
      exact QJ.body (vs := [.int .i64 (IntKind.wrap .i64 ((1 : Int) + y11))]) (.inl rfl) rfl (ResVs.cons (ResV.tmp rfl) ResVs.nil) [] rfl rfl (.inr trivial) ⟨rfl, rfl⟩
theorem F51.specF : ∀ (n : Nat) (x1 : Int) (x2 : Int) (r : Int) (_hm : F51.mF n x1 x2 = some r), Ctr Try.prog false 51 [.int .i64 x1, .int .i64 x2] [] (fun v L' => v = .int .i64 r ∧ L' = [])
  | 0, x1, x2, r, hm => by cases hm
  | n + 1, x1, x2, r, hm => F51.specG (F51.mF n) (F51.specF n) x1 x2 r hm
theorem F51.spec (x1 : Int) (x2 : Int) (r : Int) (hm : F51.m x1 x2 = some r) :
    Ctr Try.prog false 51 [.int .i64 x1, .int .i64 x2] [] (fun v L' => v = .int .i64 r ∧ L' = []) := by
  obtain ⟨n, hn⟩ := evt_some hm
  exact F51.specF n x1 x2 r hn

/-! ### 14: drogher/drogherlaw21.MerkleLeads -/
noncomputable def F14.j1 (x1 : (Arr Int 32)) (x2 : Int) (x3 : Int) (x5 : List (Arr Int 32)) (y14 : ((Arr Int 32) × Int))  : Option Bool :=
  (if x2 < (0 : Int) then (if y14.1 = K3 then (if y14.2 = (5 : Int) then ((F50.m (x2) (x3)).bind fun y21 => (if y21 = (-1 : Int) then ((F41.m).bind fun y24 => some y24) else some false)) else some false) else some false) else (if x3 ≤ x2 then (if y14.1 = K3 then (if y14.2 = (5 : Int) then ((F50.m (x2) (x3)).bind fun y29 => (if y29 = (-1 : Int) then ((F41.m).bind fun y32 => some y32) else some false)) else some false) else some false) else ((F51.m (x2) (x3)).bind fun y34 => (if y34 = ((x5).length : Int) then (if y14.2 = (0 : Int) then ((F52.m (x1) (x2) (x3) (x5)).bind fun y38 => (if y14.1 = y38 then ((F41.m).bind fun y41 => some y41) else some false)) else some false) else (if y14.1 = K3 then (if y14.2 = (3 : Int) then ((F50.m (x2) (x3)).bind fun y45 => ((F51.m (x2) (x3)).bind fun y47 => (if y45 = y47 then ((F41.m).bind fun y50 => some y50) else some false))) else some false) else some false)))))
noncomputable def F14.m (x1 : (Arr Int 32)) (x2 : Int) (x3 : Int) (x5 : List (Arr Int 32)) : Option Bool :=
  (if (70 : Int) < ((x5).length : Int) then ((F41.m).bind fun y9 => some y9) else ((F45.m (x5)).bind fun y11 => ((F49.m (x1) (x2) (x3) (y11)).bind fun y14 => F14.j1 x1 x2 x3 x5 y14)))
set_option maxRecDepth 100000 in
set_option maxHeartbeats 4000000 in
theorem F14.spec (s4 : SlV) (x1 : (Arr Int 32)) (x2 : Int) (x3 : Int) (x5 : List (Arr Int 32)) (r : Bool) (hm : F14.m x1 x2 x3 x5 = some r) :
    Ctr Try.prog false 14 [.agg (((Enc.arr 32 (Enc.int .u8))).enc x1).toArray, .int .i64 x2, .int .i64 x3, s4.v] [Asr.vw (Enc.arr 32 (Enc.int .u8)) (s4.v) x5] (fun v L' => v = .bool r ∧ L' = []) := by
  refine Ctr.intro (n := 86) (env := [(0, .agg (((Enc.arr 32 (Enc.int .u8))).enc x1).toArray), (1, .int .i64 x2), (2, .int .i64 x3), (3, s4.v)]) Try.func14 rfl rfl rfl rfl (fun c => ?_)
  unfold F14.m at hm
  refine JC.seq ?_
  refine JC.region ?_
  refine JL.mv (d := some 4) (MV.box [Seg.of (Enc.arr 32 (Enc.int .u8)) x1] rfl (fun w hs => rfl)) rfl rfl rfl ?_
  rintro _ _ ⟨b7, rfl, rfl⟩
  refine JL.val (v := .bool false) (QV.assign rfl) rfl rfl rfl ?_
  refine JL.nil ?_
  refine QJ.then_normal ?_
  refine JC.seq ?_
  refine JC.seq ?_
  refine JC.region ?_
  refine JL.val (v := s4.v) (QV.move rfl) rfl rfl rfl ?_
  refine JL.val (v := .int .i64 ((x5).length : Int)) (QV.len (Rdg.vw 1 rfl) Try.underlying55 rfl) rfl rfl rfl ?_
  refine JL.val (v := .bool (decide ((70 : Int) < ((x5).length : Int)))) (QV.gtr rfl rfl) rfl rfl rfl ?_
  refine JL.nil ?_
  refine QJ.then_normal ?_
  rcases ite_inv hm with ⟨h8, hm⟩ | ⟨h8, hm⟩
  ·
    refine JC.condT' rfl (decide_eq_true h8) ?_
    refine JC.seq ?_
    refine JC.region ?_
    obtain ⟨y9, hc10, hm⟩ := bind_inv hm
    refine JL.mv (d := some 14) (MV.call (Lo := []) (Lr := [Asr.blk b7 39 [Seg.of (Enc.arr 32 (Enc.int .u8)) x1], Asr.vw (Enc.arr 32 (Enc.int .u8)) (s4.v) x5]) (F41.spec _ hc10) rfl Try.func41 rfl rfl rfl [] [0, 1] rfl rfl rfl trivial) rfl rfl rfl ?_
    rintro _ _ ⟨_, ⟨rfl, rfl⟩, rfl⟩
    refine JL.val (v := .bool y9) (QV.assign rfl) rfl rfl rfl ?_
    refine JL.nil ?_
    refine QJ.then_normal ?_
    refine JC.ret ?_
    refine QJ.then_ret ?_
    obtain rfl := Option.some.inj hm
    exact QJ.body (vs := [.bool y9]) (.inl rfl) rfl (ResVs.cons (ResV.tmp rfl) ResVs.nil) [] rfl rfl (.inr trivial) ⟨rfl, rfl⟩
  ·
    refine JC.condF' rfl (decide_eq_false h8) ?_
    refine JC.skip ?_
    refine QJ.then_normal ?_
    refine JC.seq ?_
    obtain ⟨y11, hc12, hm⟩ := bind_inv hm
    obtain ⟨y14, hc15, hm⟩ := bind_inv hm
    refine JC.cutK (Y := Unit × Nat) (fun y => match y with | (_, _) => F14.j1 x1 x2 x3 x5 y14 = some r) (fun y => match y with | (_, z17) => [(1, .int .i64 x2), (2, .int .i64 x3), (3, s4.v), (4, .pointer (some ⟨b7, 0, none⟩)), (9, .pointer (some ⟨z17, 0, none⟩)), (10, .int .i64 y14.2)]) (fun y => match y with | (_, z17) => [Asr.vw (Enc.arr 32 (Enc.int .u8)) (s4.v) x5, Asr.blk b7 39 [Seg.of (Enc.arr 32 (Enc.int .u8)) x1], Asr.blk z17 41 [Seg.of (Enc.arr 32 (Enc.int .u8)) y14.1]]) ?_ ?_
    ·
      rintro ⟨⟨⟩, z17⟩ hm
      unfold F14.j1 at hm
      show QJ _ _ [(1, .int .i64 x2), (2, .int .i64 x3), (3, s4.v), (4, .pointer (some ⟨b7, 0, none⟩)), (9, .pointer (some ⟨z17, 0, none⟩)), (10, .int .i64 y14.2)] [Asr.vw (Enc.arr 32 (Enc.int .u8)) (s4.v) x5, Asr.blk b7 39 [Seg.of (Enc.arr 32 (Enc.int .u8)) x1], Asr.blk z17 41 [Seg.of (Enc.arr 32 (Enc.int .u8)) y14.1]] _ _
      refine QJ.then_normal ?_
      refine JC.seq ?_
      refine JC.seq ?_
      refine JC.region ?_
      refine JL.val (v := .int .i64 x2) (QV.move rfl) rfl rfl rfl ?_
      refine JL.val (v := .bool (decide (x2 < (0 : Int)))) (QV.lss rfl rfl) rfl rfl rfl ?_
      rcases ite_inv hm with ⟨h18, hm⟩ | ⟨h18, hm⟩
      ·
        refine JL.val (v := .bool true) (QV.eq (QV.move rfl) (congrArg Value.bool (decide_eq_true h18))) rfl rfl rfl ?_
        refine JL.skip (d := some 27) rfl rfl rfl ?_
        refine JL.skip (d := some 28) rfl rfl rfl ?_
        refine JL.skip (d := some 29) rfl rfl rfl ?_
        refine JL.val (v := .bool true) (QV.pickT rfl rfl) rfl rfl rfl ?_
        refine JL.nil ?_
        refine QJ.then_normal ?_
        refine JC.condT rfl ?_
        refine JC.seq ?_
        refine JC.region ?_
        refine JL.val (v := .agg (((Enc.arr 32 (Enc.int .u8))).enc y14.1).toArray) (QV.eq (QV.loadN (ss := [Seg.of (Enc.arr 32 (Enc.int .u8)) y14.1]) 2 0 1 rfl tk_41 rfl rfl rfl rfl) rfl) rfl rfl rfl ?_
        refine JL.val (v := .agg (((Enc.arr 32 (Enc.int .u8))).enc K3).toArray) (QV.build (vals := []) (cells := ((Enc.arr 32 (Enc.int .u8)).enc K3).toArray) rfl (by kernel_rfl)) rfl rfl rfl ?_
        refine JL.val (v := .bool (decide (y14.1 = K3))) (QV.eqlE (E := (Enc.arr 32 (Enc.int .u8))) (a := y14.1) (b := K3) zeq_41 (by kernel_rfl) rfl rfl) rfl rfl rfl ?_
        rcases ite_inv hm with ⟨h19, hm⟩ | ⟨h19, hm⟩
        ·
          refine JL.val (v := .bool true) (QV.eq (QV.move rfl) (congrArg Value.bool (decide_eq_true h19))) rfl rfl rfl ?_
          refine JL.val (v := .int .i64 y14.2) (QV.move rfl) rfl rfl rfl ?_
          refine JL.val (v := .bool (decide (y14.2 = (5 : Int)))) (QV.eql rfl rfl) rfl rfl rfl ?_
          refine JL.val (v := .bool (decide (y14.2 = (5 : Int)))) (QV.pickT rfl rfl) rfl rfl rfl ?_
          rcases ite_inv hm with ⟨h20, hm⟩ | ⟨h20, hm⟩
          ·
            refine JL.val (v := .bool true) (QV.eq (QV.move rfl) (congrArg Value.bool (decide_eq_true h20))) rfl rfl rfl ?_
            refine JL.val (v := .int .i64 x2) (QV.move rfl) rfl rfl rfl ?_
            refine JL.val (v := .int .i64 x3) (QV.move rfl) rfl rfl rfl ?_
            obtain ⟨y21, hc22, hm⟩ := bind_inv hm
            refine JL.mv (d := some 41) (MV.call (Lo := []) (Lr := [Asr.vw (Enc.arr 32 (Enc.int .u8)) (s4.v) x5, Asr.blk b7 39 [Seg.of (Enc.arr 32 (Enc.int .u8)) x1], Asr.blk z17 41 [Seg.of (Enc.arr 32 (Enc.int .u8)) y14.1]]) (F50.spec (x2) (x3) _ hc22) rfl Try.func50 rfl rfl rfl [] [0, 1, 2] rfl rfl rfl trivial) rfl rfl rfl ?_
            rintro _ _ ⟨_, ⟨rfl, rfl⟩, rfl⟩
            refine JL.val (v := .bool (decide (y21 = (-1 : Int)))) (QV.eql rfl rfl) rfl rfl rfl ?_
            refine JL.val (v := .bool (decide (y21 = (-1 : Int)))) (QV.pickT rfl rfl) rfl rfl rfl ?_
            rcases ite_inv hm with ⟨h23, hm⟩ | ⟨h23, hm⟩
            ·
              refine JL.val (v := .bool true) (QV.eq (QV.move rfl) (congrArg Value.bool (decide_eq_true h23))) rfl rfl rfl ?_
              obtain ⟨y24, hc25, hm⟩ := bind_inv hm
              refine JL.mv (d := some 45) (MV.call (Lo := []) (Lr := [Asr.vw (Enc.arr 32 (Enc.int .u8)) (s4.v) x5, Asr.blk b7 39 [Seg.of (Enc.arr 32 (Enc.int .u8)) x1], Asr.blk z17 41 [Seg.of (Enc.arr 32 (Enc.int .u8)) y14.1]]) (F41.spec _ hc25) rfl Try.func41 rfl rfl rfl [] [0, 1, 2] rfl rfl rfl trivial) rfl rfl rfl ?_
              rintro _ _ ⟨_, ⟨rfl, rfl⟩, rfl⟩
              refine JL.val (v := .bool y24) (QV.pickT rfl rfl) rfl rfl rfl ?_
              refine JL.val (v := .bool y24) (QV.assign rfl) rfl rfl rfl ?_
              refine JL.nil ?_
              refine QJ.then_normal ?_
              refine JC.ret ?_
              refine QJ.then_ret ?_
              obtain rfl := Option.some.inj hm
              exact QJ.body (vs := [.bool y24]) (.inl rfl) rfl (ResVs.cons (ResV.tmp rfl) ResVs.nil) [] rfl rfl (.inr trivial) ⟨rfl, rfl⟩
            ·
              refine JL.val (v := .bool false) (QV.eq (QV.move rfl) (congrArg Value.bool (decide_eq_false h23))) rfl rfl rfl ?_
              refine JL.skip (d := some 45) rfl rfl rfl ?_
              refine JL.val (v := .bool false) (QV.pickF rfl rfl) rfl rfl rfl ?_
              refine JL.val (v := .bool false) (QV.assign rfl) rfl rfl rfl ?_
              refine JL.nil ?_
              refine QJ.then_normal ?_
              refine JC.ret ?_
              refine QJ.then_ret ?_
              obtain rfl := Option.some.inj hm
              exact QJ.body (vs := [.bool false]) (.inl rfl) rfl (ResVs.cons (ResV.tmp rfl) ResVs.nil) [] rfl rfl (.inr trivial) ⟨rfl, rfl⟩
          ·
            refine JL.val (v := .bool false) (QV.eq (QV.move rfl) (congrArg Value.bool (decide_eq_false h20))) rfl rfl rfl ?_
            refine JL.skip (d := some 39) rfl rfl rfl ?_
            refine JL.skip (d := some 40) rfl rfl rfl ?_
            refine JL.skip (d := some 41) rfl rfl rfl ?_
            refine JL.skip (d := some 42) rfl rfl rfl ?_
            refine JL.val (v := .bool false) (QV.pickF rfl rfl) rfl rfl rfl ?_
            refine JL.val (v := .bool false) (QV.move rfl) rfl rfl rfl ?_
            refine JL.skip (d := some 45) rfl rfl rfl ?_
            refine JL.val (v := .bool false) (QV.pickF rfl rfl) rfl rfl rfl ?_
            refine JL.val (v := .bool false) (QV.assign rfl) rfl rfl rfl ?_
            refine JL.nil ?_
            refine QJ.then_normal ?_
            refine JC.ret ?_
            refine QJ.then_ret ?_
            obtain rfl := Option.some.inj hm
            exact QJ.body (vs := [.bool false]) (.inl rfl) rfl (ResVs.cons (ResV.tmp rfl) ResVs.nil) [] rfl rfl (.inr trivial) ⟨rfl, rfl⟩
        ·
          refine JL.val (v := .bool false) (QV.eq (QV.move rfl) (congrArg Value.bool (decide_eq_false h19))) rfl rfl rfl ?_
          refine JL.skip (d := some 35) rfl rfl rfl ?_
          refine JL.skip (d := some 36) rfl rfl rfl ?_
          refine JL.val (v := .bool false) (QV.pickF rfl rfl) rfl rfl rfl ?_
          refine JL.val (v := .bool false) (QV.move rfl) rfl rfl rfl ?_
          refine JL.skip (d := some 39) rfl rfl rfl ?_
          refine JL.skip (d := some 40) rfl rfl rfl ?_
          refine JL.skip (d := some 41) rfl rfl rfl ?_
          refine JL.skip (d := some 42) rfl rfl rfl ?_
          refine JL.val (v := .bool false) (QV.pickF rfl rfl) rfl rfl rfl ?_
          refine JL.val (v := .bool false) (QV.move rfl) rfl rfl rfl ?_
          refine JL.skip (d := some 45) rfl rfl rfl ?_
          refine JL.val (v := .bool false) (QV.pickF rfl rfl) rfl rfl rfl ?_
          refine JL.val (v := .bool false) (QV.assign rfl) rfl rfl rfl ?_
          refine JL.nil ?_
          refine QJ.then_normal ?_
          refine JC.ret ?_
          refine QJ.then_ret ?_
          obtain rfl := Option.some.inj hm
          exact QJ.body (vs := [.bool false]) (.inl rfl) rfl (ResVs.cons (ResV.tmp rfl) ResVs.nil) [] rfl rfl (.inr trivial) ⟨rfl, rfl⟩
      ·
        refine JL.val (v := .bool false) (QV.eq (QV.move rfl) (congrArg Value.bool (decide_eq_false h18))) rfl rfl rfl ?_
        refine JL.val (v := .int .i64 x2) (QV.move rfl) rfl rfl rfl ?_
        refine JL.val (v := .int .i64 x3) (QV.move rfl) rfl rfl rfl ?_
        refine JL.val (v := .bool (decide (x3 ≤ x2))) (QV.geq rfl rfl) rfl rfl rfl ?_
        refine JL.val (v := .bool (decide (x3 ≤ x2))) (QV.pickF rfl rfl) rfl rfl rfl ?_
        refine JL.nil ?_
        refine QJ.then_normal ?_
        rcases ite_inv hm with ⟨h26, hm⟩ | ⟨h26, hm⟩
        ·
          refine JC.condT' rfl (decide_eq_true h26) ?_
          refine JC.seq ?_
          refine JC.region ?_
          refine JL.val (v := .agg (((Enc.arr 32 (Enc.int .u8))).enc y14.1).toArray) (QV.eq (QV.loadN (ss := [Seg.of (Enc.arr 32 (Enc.int .u8)) y14.1]) 2 0 1 rfl tk_41 rfl rfl rfl rfl) rfl) rfl rfl rfl ?_
          refine JL.val (v := .agg (((Enc.arr 32 (Enc.int .u8))).enc K3).toArray) (QV.build (vals := []) (cells := ((Enc.arr 32 (Enc.int .u8)).enc K3).toArray) rfl (by kernel_rfl)) rfl rfl rfl ?_
          refine JL.val (v := .bool (decide (y14.1 = K3))) (QV.eqlE (E := (Enc.arr 32 (Enc.int .u8))) (a := y14.1) (b := K3) zeq_41 (by kernel_rfl) rfl rfl) rfl rfl rfl ?_
          rcases ite_inv hm with ⟨h27, hm⟩ | ⟨h27, hm⟩
          ·
            refine JL.val (v := .bool true) (QV.eq (QV.move rfl) (congrArg Value.bool (decide_eq_true h27))) rfl rfl rfl ?_
            refine JL.val (v := .int .i64 y14.2) (QV.move rfl) rfl rfl rfl ?_
            refine JL.val (v := .bool (decide (y14.2 = (5 : Int)))) (QV.eql rfl rfl) rfl rfl rfl ?_
            refine JL.val (v := .bool (decide (y14.2 = (5 : Int)))) (QV.pickT rfl rfl) rfl rfl rfl ?_
            rcases ite_inv hm with ⟨h28, hm⟩ | ⟨h28, hm⟩
            ·
              refine JL.val (v := .bool true) (QV.eq (QV.move rfl) (congrArg Value.bool (decide_eq_true h28))) rfl rfl rfl ?_
              refine JL.val (v := .int .i64 x2) (QV.move rfl) rfl rfl rfl ?_
              refine JL.val (v := .int .i64 x3) (QV.move rfl) rfl rfl rfl ?_
              obtain ⟨y29, hc30, hm⟩ := bind_inv hm
              refine JL.mv (d := some 41) (MV.call (Lo := []) (Lr := [Asr.vw (Enc.arr 32 (Enc.int .u8)) (s4.v) x5, Asr.blk b7 39 [Seg.of (Enc.arr 32 (Enc.int .u8)) x1], Asr.blk z17 41 [Seg.of (Enc.arr 32 (Enc.int .u8)) y14.1]]) (F50.spec (x2) (x3) _ hc30) rfl Try.func50 rfl rfl rfl [] [0, 1, 2] rfl rfl rfl trivial) rfl rfl rfl ?_
              rintro _ _ ⟨_, ⟨rfl, rfl⟩, rfl⟩
              refine JL.val (v := .bool (decide (y29 = (-1 : Int)))) (QV.eql rfl rfl) rfl rfl rfl ?_
              refine JL.val (v := .bool (decide (y29 = (-1 : Int)))) (QV.pickT rfl rfl) rfl rfl rfl ?_
              rcases ite_inv hm with ⟨h31, hm⟩ | ⟨h31, hm⟩
              ·
                refine JL.val (v := .bool true) (QV.eq (QV.move rfl) (congrArg Value.bool (decide_eq_true h31))) rfl rfl rfl ?_
                obtain ⟨y32, hc33, hm⟩ := bind_inv hm
                refine JL.mv (d := some 45) (MV.call (Lo := []) (Lr := [Asr.vw (Enc.arr 32 (Enc.int .u8)) (s4.v) x5, Asr.blk b7 39 [Seg.of (Enc.arr 32 (Enc.int .u8)) x1], Asr.blk z17 41 [Seg.of (Enc.arr 32 (Enc.int .u8)) y14.1]]) (F41.spec _ hc33) rfl Try.func41 rfl rfl rfl [] [0, 1, 2] rfl rfl rfl trivial) rfl rfl rfl ?_
                rintro _ _ ⟨_, ⟨rfl, rfl⟩, rfl⟩
                refine JL.val (v := .bool y32) (QV.pickT rfl rfl) rfl rfl rfl ?_
                refine JL.val (v := .bool y32) (QV.assign rfl) rfl rfl rfl ?_
                refine JL.nil ?_
                refine QJ.then_normal ?_
                refine JC.ret ?_
                refine QJ.then_ret ?_
                obtain rfl := Option.some.inj hm
                exact QJ.body (vs := [.bool y32]) (.inl rfl) rfl (ResVs.cons (ResV.tmp rfl) ResVs.nil) [] rfl rfl (.inr trivial) ⟨rfl, rfl⟩
              ·
                refine JL.val (v := .bool false) (QV.eq (QV.move rfl) (congrArg Value.bool (decide_eq_false h31))) rfl rfl rfl ?_
                refine JL.skip (d := some 45) rfl rfl rfl ?_
                refine JL.val (v := .bool false) (QV.pickF rfl rfl) rfl rfl rfl ?_
                refine JL.val (v := .bool false) (QV.assign rfl) rfl rfl rfl ?_
                refine JL.nil ?_
                refine QJ.then_normal ?_
                refine JC.ret ?_
                refine QJ.then_ret ?_
                obtain rfl := Option.some.inj hm
                exact QJ.body (vs := [.bool false]) (.inl rfl) rfl (ResVs.cons (ResV.tmp rfl) ResVs.nil) [] rfl rfl (.inr trivial) ⟨rfl, rfl⟩
            ·
              refine JL.val (v := .bool false) (QV.eq (QV.move rfl) (congrArg Value.bool (decide_eq_false h28))) rfl rfl rfl ?_
              refine JL.skip (d := some 39) rfl rfl rfl ?_
              refine JL.skip (d := some 40) rfl rfl rfl ?_
              refine JL.skip (d := some 41) rfl rfl rfl ?_
              refine JL.skip (d := some 42) rfl rfl rfl ?_
              refine JL.val (v := .bool false) (QV.pickF rfl rfl) rfl rfl rfl ?_
              refine JL.val (v := .bool false) (QV.move rfl) rfl rfl rfl ?_
              refine JL.skip (d := some 45) rfl rfl rfl ?_
              refine JL.val (v := .bool false) (QV.pickF rfl rfl) rfl rfl rfl ?_
              refine JL.val (v := .bool false) (QV.assign rfl) rfl rfl rfl ?_
              refine JL.nil ?_
              refine QJ.then_normal ?_
              refine JC.ret ?_
              refine QJ.then_ret ?_
              obtain rfl := Option.some.inj hm
              exact QJ.body (vs := [.bool false]) (.inl rfl) rfl (ResVs.cons (ResV.tmp rfl) ResVs.nil) [] rfl rfl (.inr trivial) ⟨rfl, rfl⟩
          ·
            refine JL.val (v := .bool false) (QV.eq (QV.move rfl) (congrArg Value.bool (decide_eq_false h27))) rfl rfl rfl ?_
            refine JL.skip (d := some 35) rfl rfl rfl ?_
            refine JL.skip (d := some 36) rfl rfl rfl ?_
            refine JL.val (v := .bool false) (QV.pickF rfl rfl) rfl rfl rfl ?_
            refine JL.val (v := .bool false) (QV.move rfl) rfl rfl rfl ?_
            refine JL.skip (d := some 39) rfl rfl rfl ?_
            refine JL.skip (d := some 40) rfl rfl rfl ?_
            refine JL.skip (d := some 41) rfl rfl rfl ?_
            refine JL.skip (d := some 42) rfl rfl rfl ?_
            refine JL.val (v := .bool false) (QV.pickF rfl rfl) rfl rfl rfl ?_
            refine JL.val (v := .bool false) (QV.move rfl) rfl rfl rfl ?_
            refine JL.skip (d := some 45) rfl rfl rfl ?_
            refine JL.val (v := .bool false) (QV.pickF rfl rfl) rfl rfl rfl ?_
            refine JL.val (v := .bool false) (QV.assign rfl) rfl rfl rfl ?_
            refine JL.nil ?_
            refine QJ.then_normal ?_
            refine JC.ret ?_
            refine QJ.then_ret ?_
            obtain rfl := Option.some.inj hm
            exact QJ.body (vs := [.bool false]) (.inl rfl) rfl (ResVs.cons (ResV.tmp rfl) ResVs.nil) [] rfl rfl (.inr trivial) ⟨rfl, rfl⟩
        ·
          refine JC.condF' rfl (decide_eq_false h26) ?_
          refine JC.skip ?_
          refine QJ.then_normal ?_
          refine JC.seq ?_
          refine JC.seq ?_
          refine JC.region ?_
          refine JL.val (v := .int .i64 x2) (QV.move rfl) rfl rfl rfl ?_
          refine JL.val (v := .int .i64 x3) (QV.move rfl) rfl rfl rfl ?_
          obtain ⟨y34, hc35, hm⟩ := bind_inv hm
          refine JL.mv (d := some 49) (MV.call (Lo := []) (Lr := [Asr.vw (Enc.arr 32 (Enc.int .u8)) (s4.v) x5, Asr.blk b7 39 [Seg.of (Enc.arr 32 (Enc.int .u8)) x1], Asr.blk z17 41 [Seg.of (Enc.arr 32 (Enc.int .u8)) y14.1]]) (F51.spec (x2) (x3) _ hc35) rfl Try.func51 rfl rfl rfl [] [0, 1, 2] rfl rfl rfl trivial) rfl rfl rfl ?_
          rintro _ _ ⟨_, ⟨rfl, rfl⟩, rfl⟩
          refine JL.val (v := s4.v) (QV.move rfl) rfl rfl rfl ?_
          refine JL.val (v := .int .i64 ((x5).length : Int)) (QV.len (Rdg.vw 0 rfl) Try.underlying55 rfl) rfl rfl rfl ?_
          refine JL.val (v := .bool (!(decide (y34 = ((x5).length : Int))))) (QV.neq rfl rfl) rfl rfl rfl ?_
          refine JL.nil ?_
          refine QJ.then_normal ?_
          rcases ite_inv hm with ⟨h36, hm⟩ | ⟨h36, hm⟩
          ·
            refine JC.condF' rfl (congrArg Bool.not (decide_eq_true h36)) ?_
            refine JC.skip ?_
            refine QJ.then_normal ?_
            refine JC.seq ?_
            refine JC.regionT [Asr.vw (Enc.arr 32 (Enc.int .u8)) (s4.v) x5, Asr.blk b7 39 [Seg.of (Enc.arr 32 (Enc.int .u8)) x1], Asr.blk z17 41 [Seg.of (Enc.arr 32 (Enc.int .u8)) y14.1]] (fun t => false) [(0, false), (1, false), (2, false), (3, true), (4, true), (5, true), (6, true), (7, false), (8, false), (9, false), (10, false), (11, false), (12, false), (13, false), (14, false)] (by kernel_rfl) (by kernel_rfl) (by kernel_rfl) rfl (fun hsel => ?_)
            refine JT.only (i := 0) (d := some 72) rfl (MV.ofQV (v := .int .i64 y14.2) (QV.move rfl)) rfl rfl rfl ?_
            rintro _ _ ⟨rfl, rfl⟩
            refine ⟨fun _ => ⟨[0, 1, 2], rfl, rfl⟩, ?_⟩
            refine JT.only (i := 1) (d := some 73) rfl (MV.ofQV (v := .bool (decide (y14.2 = (0 : Int)))) (QV.eql rfl rfl)) rfl rfl rfl ?_
            rintro _ _ ⟨rfl, rfl⟩
            refine ⟨fun _ => ⟨[0, 1, 2], rfl, rfl⟩, ?_⟩
            rcases ite_inv hm with ⟨h37, hm⟩ | ⟨h37, hm⟩
            ·
              refine JT.only (i := 2) (d := some 74) rfl (MV.ofQV (v := .bool true) (QV.eq (QV.move rfl) (congrArg Value.bool (decide_eq_true h37)))) rfl rfl rfl ?_
              rintro _ _ ⟨rfl, rfl⟩
              refine ⟨fun _ => ⟨[0, 1, 2], rfl, rfl⟩, ?_⟩
              refine JT.take (i := 3) (v := .agg (((Enc.arr 32 (Enc.int .u8))).enc y14.1).toArray) hsel rfl (QV.eq (QV.loadN (ss := [Seg.of (Enc.arr 32 (Enc.int .u8)) y14.1]) 2 0 1 rfl tk_41 rfl rfl rfl rfl) rfl) rfl rfl rfl [0, 1, 2] rfl rfl ?_
              refine JT.take (i := 4) (v := .agg (((Enc.arr 32 (Enc.int .u8))).enc x1).toArray) hsel rfl (QV.eq (QV.loadN (ss := [Seg.of (Enc.arr 32 (Enc.int .u8)) x1]) 1 0 1 rfl tk_39 rfl rfl rfl rfl) rfl) rfl rfl rfl [0, 1, 2] rfl rfl ?_
              refine JT.take (i := 5) (v := .int .i64 x2) hsel rfl (QV.move rfl) rfl rfl rfl [0, 1, 2] rfl rfl ?_
              refine JT.take (i := 6) (v := .int .i64 x3) hsel rfl (QV.move rfl) rfl rfl rfl [0, 1, 2] rfl rfl ?_
              refine JT.only (i := 7) (d := some 79) rfl (MV.ofQV (v := s4.v) (QV.move rfl)) rfl rfl rfl ?_
              rintro _ _ ⟨rfl, rfl⟩
              refine ⟨fun _ => ⟨[0, 1, 2], rfl, rfl⟩, ?_⟩
              obtain ⟨y38, hc39, hm⟩ := bind_inv hm
              refine JT.only (i := 8) (d := some 80) rfl (MV.call (Lo := []) (Lr := [Asr.vw (Enc.arr 32 (Enc.int .u8)) (s4.v) x5, Asr.blk b7 39 [Seg.of (Enc.arr 32 (Enc.int .u8)) x1], Asr.blk z17 41 [Seg.of (Enc.arr 32 (Enc.int .u8)) y14.1]]) (F52.spec (s4) (x1) (x2) (x3) (x5) _ hc39) rfl Try.func52 rfl rfl rfl [] [0, 1, 2] rfl rfl rfl ⟨(Drv.vw 0 rfl), trivial⟩) rfl rfl rfl ?_
              rintro _ _ ⟨_, ⟨rfl, rfl⟩, rfl⟩
              refine ⟨fun _ => ⟨[0, 1, 2], rfl, rfl⟩, ?_⟩
              refine JT.only (i := 9) (d := some 81) rfl (MV.ofQV (v := .bool (decide (y14.1 = y38))) (QV.eqlE (E := (Enc.arr 32 (Enc.int .u8))) (a := y14.1) (b := y38) zeq_41 (by kernel_rfl) rfl rfl)) rfl rfl rfl ?_
              rintro _ _ ⟨rfl, rfl⟩
              refine ⟨fun _ => ⟨[0, 1, 2], rfl, rfl⟩, ?_⟩
              refine JT.only (i := 10) (d := some 82) rfl (MV.ofQV (v := .bool (decide (y14.1 = y38))) (QV.pickT rfl rfl)) rfl rfl rfl ?_
              rintro _ _ ⟨rfl, rfl⟩
              refine ⟨fun _ => ⟨[0, 1, 2], rfl, rfl⟩, ?_⟩
              rcases ite_inv hm with ⟨h40, hm⟩ | ⟨h40, hm⟩
              ·
                refine JT.only (i := 11) (d := some 83) rfl (MV.ofQV (v := .bool true) (QV.eq (QV.move rfl) (congrArg Value.bool (decide_eq_true h40)))) rfl rfl rfl ?_
                rintro _ _ ⟨rfl, rfl⟩
                refine ⟨fun _ => ⟨[0, 1, 2], rfl, rfl⟩, ?_⟩
                obtain ⟨y41, hc42, hm⟩ := bind_inv hm
                refine JT.only (i := 12) (d := some 84) rfl (MV.call (Lo := []) (Lr := [Asr.vw (Enc.arr 32 (Enc.int .u8)) (s4.v) x5, Asr.blk b7 39 [Seg.of (Enc.arr 32 (Enc.int .u8)) x1], Asr.blk z17 41 [Seg.of (Enc.arr 32 (Enc.int .u8)) y14.1]]) (F41.spec _ hc42) rfl Try.func41 rfl rfl rfl [] [0, 1, 2] rfl rfl rfl trivial) rfl rfl rfl ?_
                rintro _ _ ⟨_, ⟨rfl, rfl⟩, rfl⟩
                refine ⟨fun _ => ⟨[0, 1, 2], rfl, rfl⟩, ?_⟩
                refine JT.only (i := 13) (d := some 85) rfl (MV.ofQV (v := .bool y41) (QV.pickT rfl rfl)) rfl rfl rfl ?_
                rintro _ _ ⟨rfl, rfl⟩
                refine ⟨fun _ => ⟨[0, 1, 2], rfl, rfl⟩, ?_⟩
                refine JT.only (i := 14) (d := some 8) rfl (MV.ofQV (v := .bool y41) (QV.assign rfl)) rfl rfl rfl ?_
                rintro _ _ ⟨rfl, rfl⟩
                refine ⟨fun _ => ⟨[0, 1, 2], rfl, rfl⟩, ?_⟩
                refine JT.nil ?_
                refine QJ.then_normal ?_
                refine JC.ret ?_
                obtain rfl := Option.some.inj hm
                exact QJ.body (vs := [.bool y41]) (.inl rfl) rfl (ResVs.cons (ResV.tmp rfl) ResVs.nil) [] rfl rfl (.inr trivial) ⟨rfl, rfl⟩
              ·
                refine JT.only (i := 11) (d := some 83) rfl (MV.ofQV (v := .bool false) (QV.eq (QV.move rfl) (congrArg Value.bool (decide_eq_false h40)))) rfl rfl rfl ?_
                rintro _ _ ⟨rfl, rfl⟩
                refine ⟨fun _ => ⟨[0, 1, 2], rfl, rfl⟩, ?_⟩
                refine JT.skipO (i := 12) (d := some 84) rfl rfl rfl rfl [0, 1, 2] rfl rfl ?_
                refine JT.only (i := 13) (d := some 85) rfl (MV.ofQV (v := .bool false) (QV.pickF rfl rfl)) rfl rfl rfl ?_
                rintro _ _ ⟨rfl, rfl⟩
                refine ⟨fun _ => ⟨[0, 1, 2], rfl, rfl⟩, ?_⟩
                refine JT.only (i := 14) (d := some 8) rfl (MV.ofQV (v := .bool false) (QV.assign rfl)) rfl rfl rfl ?_
                rintro _ _ ⟨rfl, rfl⟩
                refine ⟨fun _ => ⟨[0, 1, 2], rfl, rfl⟩, ?_⟩
                refine JT.nil ?_
                refine QJ.then_normal ?_
                refine JC.ret ?_
                obtain rfl := Option.some.inj hm
                exact QJ.body (vs := [.bool false]) (.inl rfl) rfl (ResVs.cons (ResV.tmp rfl) ResVs.nil) [] rfl rfl (.inr trivial) ⟨rfl, rfl⟩
            ·
              refine JT.only (i := 2) (d := some 74) rfl (MV.ofQV (v := .bool false) (QV.eq (QV.move rfl) (congrArg Value.bool (decide_eq_false h37)))) rfl rfl rfl ?_
              rintro _ _ ⟨rfl, rfl⟩
              refine ⟨fun _ => ⟨[0, 1, 2], rfl, rfl⟩, ?_⟩
              refine JT.skip (i := 3) (d := some 75) hsel rfl rfl rfl rfl [0, 1, 2] rfl rfl ?_
              refine JT.skip (i := 4) (d := some 76) hsel rfl rfl rfl rfl [0, 1, 2] rfl rfl ?_
              refine JT.skip (i := 5) (d := some 77) hsel rfl rfl rfl rfl [0, 1, 2] rfl rfl ?_
              refine JT.skip (i := 6) (d := some 78) hsel rfl rfl rfl rfl [0, 1, 2] rfl rfl ?_
              refine JT.skipO (i := 7) (d := some 79) rfl rfl rfl rfl [0, 1, 2] rfl rfl ?_
              refine JT.skipO (i := 8) (d := some 80) rfl rfl rfl rfl [0, 1, 2] rfl rfl ?_
              refine JT.skipO (i := 9) (d := some 81) rfl rfl rfl rfl [0, 1, 2] rfl rfl ?_
              refine JT.only (i := 10) (d := some 82) rfl (MV.ofQV (v := .bool false) (QV.pickF rfl rfl)) rfl rfl rfl ?_
              rintro _ _ ⟨rfl, rfl⟩
              refine ⟨fun _ => ⟨[0, 1, 2], rfl, rfl⟩, ?_⟩
              refine JT.only (i := 11) (d := some 83) rfl (MV.ofQV (v := .bool false) (QV.move rfl)) rfl rfl rfl ?_
              rintro _ _ ⟨rfl, rfl⟩
              refine ⟨fun _ => ⟨[0, 1, 2], rfl, rfl⟩, ?_⟩
              refine JT.skipO (i := 12) (d := some 84) rfl rfl rfl rfl [0, 1, 2] rfl rfl ?_
              refine JT.only (i := 13) (d := some 85) rfl (MV.ofQV (v := .bool false) (QV.pickF rfl rfl)) rfl rfl rfl ?_
              rintro _ _ ⟨rfl, rfl⟩
              refine ⟨fun _ => ⟨[0, 1, 2], rfl, rfl⟩, ?_⟩
              refine JT.only (i := 14) (d := some 8) rfl (MV.ofQV (v := .bool false) (QV.assign rfl)) rfl rfl rfl ?_
              rintro _ _ ⟨rfl, rfl⟩
              refine ⟨fun _ => ⟨[0, 1, 2], rfl, rfl⟩, ?_⟩
              refine JT.nil ?_
              refine QJ.then_normal ?_
              refine JC.ret ?_
              obtain rfl := Option.some.inj hm
              exact QJ.body (vs := [.bool false]) (.inl rfl) rfl (ResVs.cons (ResV.tmp rfl) ResVs.nil) [] rfl rfl (.inr trivial) ⟨rfl, rfl⟩
          ·
            refine JC.condT' rfl (congrArg Bool.not (decide_eq_false h36)) ?_
            refine JC.seq ?_
            refine JC.region ?_
            refine JL.val (v := .agg (((Enc.arr 32 (Enc.int .u8))).enc y14.1).toArray) (QV.eq (QV.loadN (ss := [Seg.of (Enc.arr 32 (Enc.int .u8)) y14.1]) 2 0 1 rfl tk_41 rfl rfl rfl rfl) rfl) rfl rfl rfl ?_
            refine JL.val (v := .agg (((Enc.arr 32 (Enc.int .u8))).enc K3).toArray) (QV.build (vals := []) (cells := ((Enc.arr 32 (Enc.int .u8)).enc K3).toArray) rfl (by kernel_rfl)) rfl rfl rfl ?_
            refine JL.val (v := .bool (decide (y14.1 = K3))) (QV.eqlE (E := (Enc.arr 32 (Enc.int .u8))) (a := y14.1) (b := K3) zeq_41 (by kernel_rfl) rfl rfl) rfl rfl rfl ?_
            rcases ite_inv hm with ⟨h43, hm⟩ | ⟨h43, hm⟩
            ·
              refine JL.val (v := .bool true) (QV.eq (QV.move rfl) (congrArg Value.bool (decide_eq_true h43))) rfl rfl rfl ?_
              refine JL.val (v := .int .i64 y14.2) (QV.move rfl) rfl rfl rfl ?_
              refine JL.val (v := .bool (decide (y14.2 = (3 : Int)))) (QV.eql rfl rfl) rfl rfl rfl ?_
              refine JL.val (v := .bool (decide (y14.2 = (3 : Int)))) (QV.pickT rfl rfl) rfl rfl rfl ?_
              rcases ite_inv hm with ⟨h44, hm⟩ | ⟨h44, hm⟩
              ·
                refine JL.val (v := .bool true) (QV.eq (QV.move rfl) (congrArg Value.bool (decide_eq_true h44))) rfl rfl rfl ?_
                refine JL.val (v := .int .i64 x2) (QV.move rfl) rfl rfl rfl ?_
                refine JL.val (v := .int .i64 x3) (QV.move rfl) rfl rfl rfl ?_
                obtain ⟨y45, hc46, hm⟩ := bind_inv hm
                refine JL.mv (d := some 63) (MV.call (Lo := []) (Lr := [Asr.vw (Enc.arr 32 (Enc.int .u8)) (s4.v) x5, Asr.blk b7 39 [Seg.of (Enc.arr 32 (Enc.int .u8)) x1], Asr.blk z17 41 [Seg.of (Enc.arr 32 (Enc.int .u8)) y14.1]]) (F50.spec (x2) (x3) _ hc46) rfl Try.func50 rfl rfl rfl [] [0, 1, 2] rfl rfl rfl trivial) rfl rfl rfl ?_
                rintro _ _ ⟨_, ⟨rfl, rfl⟩, rfl⟩
                refine JL.val (v := .int .i64 x2) (QV.move rfl) rfl rfl rfl ?_
                refine JL.val (v := .int .i64 x3) (QV.move rfl) rfl rfl rfl ?_
                obtain ⟨y47, hc48, hm⟩ := bind_inv hm
                refine JL.mv (d := some 66) (MV.call (Lo := []) (Lr := [Asr.vw (Enc.arr 32 (Enc.int .u8)) (s4.v) x5, Asr.blk b7 39 [Seg.of (Enc.arr 32 (Enc.int .u8)) x1], Asr.blk z17 41 [Seg.of (Enc.arr 32 (Enc.int .u8)) y14.1]]) (F51.spec (x2) (x3) _ hc48) rfl Try.func51 rfl rfl rfl [] [0, 1, 2] rfl rfl rfl trivial) rfl rfl rfl ?_
                rintro _ _ ⟨_, ⟨rfl, rfl⟩, rfl⟩
                refine JL.val (v := .bool (decide (y45 = y47))) (QV.eql rfl rfl) rfl rfl rfl ?_
                refine JL.val (v := .bool (decide (y45 = y47))) (QV.pickT rfl rfl) rfl rfl rfl ?_
                rcases ite_inv hm with ⟨h49, hm⟩ | ⟨h49, hm⟩
                ·
                  refine JL.val (v := .bool true) (QV.eq (QV.move rfl) (congrArg Value.bool (decide_eq_true h49))) rfl rfl rfl ?_
                  obtain ⟨y50, hc51, hm⟩ := bind_inv hm
                  refine JL.mv (d := some 70) (MV.call (Lo := []) (Lr := [Asr.vw (Enc.arr 32 (Enc.int .u8)) (s4.v) x5, Asr.blk b7 39 [Seg.of (Enc.arr 32 (Enc.int .u8)) x1], Asr.blk z17 41 [Seg.of (Enc.arr 32 (Enc.int .u8)) y14.1]]) (F41.spec _ hc51) rfl Try.func41 rfl rfl rfl [] [0, 1, 2] rfl rfl rfl trivial) rfl rfl rfl ?_
                  rintro _ _ ⟨_, ⟨rfl, rfl⟩, rfl⟩
                  refine JL.val (v := .bool y50) (QV.pickT rfl rfl) rfl rfl rfl ?_
                  refine JL.val (v := .bool y50) (QV.assign rfl) rfl rfl rfl ?_
                  refine JL.nil ?_
                  refine QJ.then_normal ?_
                  refine JC.ret ?_
                  refine QJ.then_ret ?_
                  obtain rfl := Option.some.inj hm
                  exact QJ.body (vs := [.bool y50]) (.inl rfl) rfl (ResVs.cons (ResV.tmp rfl) ResVs.nil) [] rfl rfl (.inr trivial) ⟨rfl, rfl⟩
                ·
                  refine JL.val (v := .bool false) (QV.eq (QV.move rfl) (congrArg Value.bool (decide_eq_false h49))) rfl rfl rfl ?_
                  refine JL.skip (d := some 70) rfl rfl rfl ?_
                  refine JL.val (v := .bool false) (QV.pickF rfl rfl) rfl rfl rfl ?_
                  refine JL.val (v := .bool false) (QV.assign rfl) rfl rfl rfl ?_
                  refine JL.nil ?_
                  refine QJ.then_normal ?_
                  refine JC.ret ?_
                  refine QJ.then_ret ?_
                  obtain rfl := Option.some.inj hm
                  exact QJ.body (vs := [.bool false]) (.inl rfl) rfl (ResVs.cons (ResV.tmp rfl) ResVs.nil) [] rfl rfl (.inr trivial) ⟨rfl, rfl⟩
              ·
                refine JL.val (v := .bool false) (QV.eq (QV.move rfl) (congrArg Value.bool (decide_eq_false h44))) rfl rfl rfl ?_
                refine JL.skip (d := some 61) rfl rfl rfl ?_
                refine JL.skip (d := some 62) rfl rfl rfl ?_
                refine JL.skip (d := some 63) rfl rfl rfl ?_
                refine JL.skip (d := some 64) rfl rfl rfl ?_
                refine JL.skip (d := some 65) rfl rfl rfl ?_
                refine JL.skip (d := some 66) rfl rfl rfl ?_
                refine JL.skip (d := some 67) rfl rfl rfl ?_
                refine JL.val (v := .bool false) (QV.pickF rfl rfl) rfl rfl rfl ?_
                refine JL.val (v := .bool false) (QV.move rfl) rfl rfl rfl ?_
                refine JL.skip (d := some 70) rfl rfl rfl ?_
                refine JL.val (v := .bool false) (QV.pickF rfl rfl) rfl rfl rfl ?_
                refine JL.val (v := .bool false) (QV.assign rfl) rfl rfl rfl ?_
                refine JL.nil ?_
                refine QJ.then_normal ?_
                refine JC.ret ?_
                refine QJ.then_ret ?_
                obtain rfl := Option.some.inj hm
                exact QJ.body (vs := [.bool false]) (.inl rfl) rfl (ResVs.cons (ResV.tmp rfl) ResVs.nil) [] rfl rfl (.inr trivial) ⟨rfl, rfl⟩
            ·
              refine JL.val (v := .bool false) (QV.eq (QV.move rfl) (congrArg Value.bool (decide_eq_false h43))) rfl rfl rfl ?_
              refine JL.skip (d := some 57) rfl rfl rfl ?_
              refine JL.skip (d := some 58) rfl rfl rfl ?_
              refine JL.val (v := .bool false) (QV.pickF rfl rfl) rfl rfl rfl ?_
              refine JL.val (v := .bool false) (QV.move rfl) rfl rfl rfl ?_
              refine JL.skip (d := some 61) rfl rfl rfl ?_
              refine JL.skip (d := some 62) rfl rfl rfl ?_
              refine JL.skip (d := some 63) rfl rfl rfl ?_
              refine JL.skip (d := some 64) rfl rfl rfl ?_
              refine JL.skip (d := some 65) rfl rfl rfl ?_
              refine JL.skip (d := some 66) rfl rfl rfl ?_
              refine JL.skip (d := some 67) rfl rfl rfl ?_
              refine JL.val (v := .bool false) (QV.pickF rfl rfl) rfl rfl rfl ?_
              refine JL.val (v := .bool false) (QV.move rfl) rfl rfl rfl ?_
              refine JL.skip (d := some 70) rfl rfl rfl ?_
              refine JL.val (v := .bool false) (QV.pickF rfl rfl) rfl rfl rfl ?_
              refine JL.val (v := .bool false) (QV.assign rfl) rfl rfl rfl ?_
              refine JL.nil ?_
              refine QJ.then_normal ?_
              refine JC.ret ?_
              refine QJ.then_ret ?_
              obtain rfl := Option.some.inj hm
              exact QJ.body (vs := [.bool false]) (.inl rfl) rfl (ResVs.cons (ResV.tmp rfl) ResVs.nil) [] rfl rfl (.inr trivial) ⟨rfl, rfl⟩
    ·
      refine JC.regionU [Asr.blk b7 39 [Seg.of (Enc.arr 32 (Enc.int .u8)) x1], Asr.vw (Enc.arr 32 (Enc.int .u8)) (s4.v) x5] (fun _ => false) 12 rfl (by kernel_rfl) (by kernel_rfl) (fun hsel => ?_)
      refine JU.take (i := 0) (v := .agg (((Enc.arr 32 (Enc.int .u8))).enc x1).toArray) hsel rfl (by kernel_rfl) (QV.eq (QV.loadN (ss := [Seg.of (Enc.arr 32 (Enc.int .u8)) x1]) 0 0 1 rfl tk_39 rfl rfl rfl rfl) rfl) rfl rfl rfl [0, 1] rfl rfl ?_
      refine JU.take (i := 1) (v := .int .i64 x2) hsel rfl (by kernel_rfl) (QV.move rfl) rfl rfl rfl [0, 1] rfl rfl ?_
      refine JU.take (i := 2) (v := .int .i64 x3) hsel rfl (by kernel_rfl) (QV.move rfl) rfl rfl rfl [0, 1] rfl rfl ?_
      refine JU.take (i := 3) (v := s4.v) hsel rfl (by kernel_rfl) (QV.move rfl) rfl rfl rfl [0, 1] rfl rfl ?_
      refine JU.any [4, 9] (by kernel_rfl) rfl ?_
      refine ⟨?_, ?_, trivial⟩
      ·
        refine JUo.mv (d := some 20) rfl (MV.call (Lo := []) (Lr := [Asr.blk b7 39 [Seg.of (Enc.arr 32 (Enc.int .u8)) x1], Asr.vw (Enc.arr 32 (Enc.int .u8)) (s4.v) x5]) (F45.spec (s4) (x5) _ hc12) rfl Try.func45 rfl rfl rfl [] [0, 1] rfl rfl rfl ⟨(Drv.vw 1 rfl), trivial⟩) rfl rfl rfl ?_
        rintro _ _ ⟨_, ⟨z52, rfl, rfl⟩, rfl⟩
        refine ⟨fun _ => ⟨[1, 2], rfl, rfl⟩, ?_⟩
        refine JU.any [5, 9] (by kernel_rfl) rfl ?_
        refine ⟨?_, ?_, trivial⟩
        ·
          refine JUo.mv (d := some 21) rfl (MV.call (Lo := []) (Lr := [Asr.of 41 (Enc.arr 32 (Enc.int .u8)) (z52.v) y11, Asr.blk b7 39 [Seg.of (Enc.arr 32 (Enc.int .u8)) x1], Asr.vw (Enc.arr 32 (Enc.int .u8)) (s4.v) x5]) (F49.spec (z52) (x1) (x2) (x3) (y11) _ hc15) rfl Try.func49 rfl rfl rfl [] [0, 1, 2] rfl rfl rfl ⟨(Drv.of 0 rfl), trivial⟩) rfl rfl rfl ?_
          rintro _ _ ⟨_, ⟨rfl, rfl⟩, rfl⟩
          refine ⟨fun _ => ⟨[1, 2], rfl, rfl⟩, ?_⟩
          refine JU.take (i := 6) (v := .tuple #[.agg (((Enc.arr 32 (Enc.int .u8))).enc y14.1).toArray, .int .i64 y14.2]) hsel rfl (by kernel_rfl) (QV.move rfl) rfl rfl rfl [1, 2] rfl rfl ?_
          refine JU.take (i := 7) (v := .agg (((Enc.arr 32 (Enc.int .u8))).enc y14.1).toArray) hsel rfl (by kernel_rfl) (QV.extract (vs := [.agg (((Enc.arr 32 (Enc.int .u8))).enc y14.1).toArray, .int .i64 y14.2]) rfl rfl) rfl rfl rfl [1, 2] rfl rfl ?_
          refine JU.take (i := 8) (v := .int .i64 y14.2) hsel rfl (by kernel_rfl) (QV.extract (vs := [.agg (((Enc.arr 32 (Enc.int .u8))).enc y14.1).toArray, .int .i64 y14.2]) rfl rfl) rfl rfl rfl [1, 2] rfl rfl ?_
          refine JU.any [9] (by kernel_rfl) rfl ?_
          refine ⟨?_, trivial⟩
          refine JUo.mv (d := some 9) rfl (MV.alloc [Seg.of (Enc.arr 32 (Enc.int .u8)) (Arr.rep 32 (0 : Int))] z_41 rfl) rfl rfl rfl ?_
          rintro _ _ ⟨b53, rfl, rfl⟩
          refine ⟨fun _ => ⟨[2, 3], rfl, rfl⟩, ?_⟩
          refine JU.any [10] (by kernel_rfl) rfl ?_
          refine ⟨?_, trivial⟩
          refine JUo.mv (d := none) rfl (MV.store (ss := [Seg.of (Enc.arr 32 (Enc.int .u8)) (Arr.rep 32 (0 : Int))]) 0 0 1 [Seg.of (Enc.arr 32 (Enc.int .u8)) y14.1] rfl tk_41 rfl rfl rfl rfl (fun w hs => ⟨rfl, one_of _ _, trivial⟩)) rfl rfl rfl ?_
          rintro _ _ ⟨rfl, rfl⟩
          refine ⟨fun _ => ⟨[2, 3], rfl, rfl⟩, ?_⟩
          refine JU.take (i := 11) (v := .int .i64 y14.2) hsel rfl (by kernel_rfl) (QV.assign rfl) rfl rfl rfl [2, 3] rfl rfl ?_
          refine JU.nil (by kernel_rfl) ?_
          exact QJ.cut_normal ((), b53) hm [3, 2, 0] (by exact ⟨rfl, rfl, rfl, rfl, rfl, rfl, trivial⟩) rfl rfl
        ·
          refine JUo.mv (d := some 9) rfl (MV.alloc [Seg.of (Enc.arr 32 (Enc.int .u8)) (Arr.rep 32 (0 : Int))] z_41 rfl) rfl rfl rfl ?_
          rintro _ _ ⟨b54, rfl, rfl⟩
          refine ⟨fun _ => ⟨[2, 3], rfl, rfl⟩, ?_⟩
          refine JU.any [5] (by kernel_rfl) rfl ?_
          refine ⟨?_, trivial⟩
          refine JUo.mv (d := some 21) rfl (MV.call (Lo := []) (Lr := [Asr.blk b54 41 [Seg.of (Enc.arr 32 (Enc.int .u8)) (Arr.rep 32 (0 : Int))], Asr.of 41 (Enc.arr 32 (Enc.int .u8)) (z52.v) y11, Asr.blk b7 39 [Seg.of (Enc.arr 32 (Enc.int .u8)) x1], Asr.vw (Enc.arr 32 (Enc.int .u8)) (s4.v) x5]) (F49.spec (z52) (x1) (x2) (x3) (y11) _ hc15) rfl Try.func49 rfl rfl rfl [] [0, 1, 2, 3] rfl rfl rfl ⟨(Drv.of 1 rfl), trivial⟩) rfl rfl rfl ?_
          rintro _ _ ⟨_, ⟨rfl, rfl⟩, rfl⟩
          refine ⟨fun _ => ⟨[2, 3], rfl, rfl⟩, ?_⟩
          refine JU.take (i := 6) (v := .tuple #[.agg (((Enc.arr 32 (Enc.int .u8))).enc y14.1).toArray, .int .i64 y14.2]) hsel rfl (by kernel_rfl) (QV.move rfl) rfl rfl rfl [2, 3] rfl rfl ?_
          refine JU.take (i := 7) (v := .agg (((Enc.arr 32 (Enc.int .u8))).enc y14.1).toArray) hsel rfl (by kernel_rfl) (QV.extract (vs := [.agg (((Enc.arr 32 (Enc.int .u8))).enc y14.1).toArray, .int .i64 y14.2]) rfl rfl) rfl rfl rfl [2, 3] rfl rfl ?_
          refine JU.take (i := 8) (v := .int .i64 y14.2) hsel rfl (by kernel_rfl) (QV.extract (vs := [.agg (((Enc.arr 32 (Enc.int .u8))).enc y14.1).toArray, .int .i64 y14.2]) rfl rfl) rfl rfl rfl [2, 3] rfl rfl ?_
          refine JU.any [10] (by kernel_rfl) rfl ?_
          refine ⟨?_, trivial⟩
          refine JUo.mv (d := none) rfl (MV.store (ss := [Seg.of (Enc.arr 32 (Enc.int .u8)) (Arr.rep 32 (0 : Int))]) 0 0 1 [Seg.of (Enc.arr 32 (Enc.int .u8)) y14.1] rfl tk_41 rfl rfl rfl rfl (fun w hs => ⟨rfl, one_of _ _, trivial⟩)) rfl rfl rfl ?_
          rintro _ _ ⟨rfl, rfl⟩
          refine ⟨fun _ => ⟨[2, 3], rfl, rfl⟩, ?_⟩
          refine JU.take (i := 11) (v := .int .i64 y14.2) hsel rfl (by kernel_rfl) (QV.assign rfl) rfl rfl rfl [2, 3] rfl rfl ?_
          refine JU.nil (by kernel_rfl) ?_
          exact QJ.cut_normal ((), b54) hm [3, 2, 0] (by exact ⟨rfl, rfl, rfl, rfl, rfl, rfl, trivial⟩) rfl rfl
      ·
        refine JUo.mv (d := some 9) rfl (MV.alloc [Seg.of (Enc.arr 32 (Enc.int .u8)) (Arr.rep 32 (0 : Int))] z_41 rfl) rfl rfl rfl ?_
        rintro _ _ ⟨b55, rfl, rfl⟩
        refine ⟨fun _ => ⟨[1, 2], rfl, rfl⟩, ?_⟩
        refine JU.any [4] (by kernel_rfl) rfl ?_
        refine ⟨?_, trivial⟩
        refine JUo.mv (d := some 20) rfl (MV.call (Lo := []) (Lr := [Asr.blk b55 41 [Seg.of (Enc.arr 32 (Enc.int .u8)) (Arr.rep 32 (0 : Int))], Asr.blk b7 39 [Seg.of (Enc.arr 32 (Enc.int .u8)) x1], Asr.vw (Enc.arr 32 (Enc.int .u8)) (s4.v) x5]) (F45.spec (s4) (x5) _ hc12) rfl Try.func45 rfl rfl rfl [] [0, 1, 2] rfl rfl rfl ⟨(Drv.vw 2 rfl), trivial⟩) rfl rfl rfl ?_
        rintro _ _ ⟨_, ⟨z56, rfl, rfl⟩, rfl⟩
        refine ⟨fun _ => ⟨[2, 3], rfl, rfl⟩, ?_⟩
        refine JU.any [5] (by kernel_rfl) rfl ?_
        refine ⟨?_, trivial⟩
        refine JUo.mv (d := some 21) rfl (MV.call (Lo := []) (Lr := [Asr.of 41 (Enc.arr 32 (Enc.int .u8)) (z56.v) y11, Asr.blk b55 41 [Seg.of (Enc.arr 32 (Enc.int .u8)) (Arr.rep 32 (0 : Int))], Asr.blk b7 39 [Seg.of (Enc.arr 32 (Enc.int .u8)) x1], Asr.vw (Enc.arr 32 (Enc.int .u8)) (s4.v) x5]) (F49.spec (z56) (x1) (x2) (x3) (y11) _ hc15) rfl Try.func49 rfl rfl rfl [] [0, 1, 2, 3] rfl rfl rfl ⟨(Drv.of 0 rfl), trivial⟩) rfl rfl rfl ?_
        rintro _ _ ⟨_, ⟨rfl, rfl⟩, rfl⟩
        refine ⟨fun _ => ⟨[2, 3], rfl, rfl⟩, ?_⟩
        refine JU.take (i := 6) (v := .tuple #[.agg (((Enc.arr 32 (Enc.int .u8))).enc y14.1).toArray, .int .i64 y14.2]) hsel rfl (by kernel_rfl) (QV.move rfl) rfl rfl rfl [2, 3] rfl rfl ?_
        refine JU.take (i := 7) (v := .agg (((Enc.arr 32 (Enc.int .u8))).enc y14.1).toArray) hsel rfl (by kernel_rfl) (QV.extract (vs := [.agg (((Enc.arr 32 (Enc.int .u8))).enc y14.1).toArray, .int .i64 y14.2]) rfl rfl) rfl rfl rfl [2, 3] rfl rfl ?_
        refine JU.take (i := 8) (v := .int .i64 y14.2) hsel rfl (by kernel_rfl) (QV.extract (vs := [.agg (((Enc.arr 32 (Enc.int .u8))).enc y14.1).toArray, .int .i64 y14.2]) rfl rfl) rfl rfl rfl [2, 3] rfl rfl ?_
        refine JU.any [10] (by kernel_rfl) rfl ?_
        refine ⟨?_, trivial⟩
        refine JUo.mv (d := none) rfl (MV.store (ss := [Seg.of (Enc.arr 32 (Enc.int .u8)) (Arr.rep 32 (0 : Int))]) 1 0 1 [Seg.of (Enc.arr 32 (Enc.int .u8)) y14.1] rfl tk_41 rfl rfl rfl rfl (fun w hs => ⟨rfl, one_of _ _, trivial⟩)) rfl rfl rfl ?_
        rintro _ _ ⟨rfl, rfl⟩
        refine ⟨fun _ => ⟨[2, 3], rfl, rfl⟩, ?_⟩
        refine JU.take (i := 11) (v := .int .i64 y14.2) hsel rfl (by kernel_rfl) (QV.assign rfl) rfl rfl rfl [2, 3] rfl rfl ?_
        refine JU.nil (by kernel_rfl) ?_
        exact QJ.cut_normal ((), b55) hm [3, 2, 1] (by exact ⟨rfl, rfl, rfl, rfl, rfl, rfl, trivial⟩) rfl rfl

end Go.Proofs.Ytmedbpiapeiobaa
