/- Written by gen.py: functions and their contracts. -/
import Derived.Test.YtedokgdilpfomaaDel
namespace Go.Proofs.Ytedokgdilpfomaa
open Go Go.Eng Go.Proofs
set_option linter.unusedVariables false
set_option linter.unusedSimpArgs false
/-! ### 12: drogher/drogherlaw17.DeltaJoins -/
noncomputable def F12.j1 (x2 : List Int) (d32 : List Int) : Option Bool :=
  (if (strOfNums d32) = (strOfNums x2) then ((F34.m).bind fun y34 => some y34) else some false)
noncomputable def F12.j2 (d38 : Int) (d48 : List Int) : Option ((List Int × Int) ⊕ ((Bool) ⊕ (List Int))) :=
  some (.inl (d48, (IntKind.wrap .i64 (d38 + (1 : Int)))))
noncomputable def F12.b1 (x2 : List Int) (x3 : Int) (y28 : Int) : (List Int × Int) → Option ((List Int × Int) ⊕ ((Bool) ⊕ (List Int)))
  | (d37, d38) => (if d38 < y28 then ((F38.m (x2) (x3) (d38)).bind fun y49 => (if ((y49).length : Int) < (1 : Int) then some (.inr (.inl (false))) else (if x3 < ((y49).length : Int) then some (.inr (.inl (false))) else (if d38 < (IntKind.wrap .i64 (y28 - (1 : Int))) then (if ((y49).length : Int) = x3 then (if ((d37).length + (y49).length) * 1 ≤ 140737488355328 ∧ (d37).length + (y49).length ≤ 9223372036854775807 then F12.j2 d38 ((d37 ++ y49)) else none) else some (.inr (.inl (false)))) else (if ((d37).length + (y49).length) * 1 ≤ 140737488355328 ∧ (d37).length + (y49).length ≤ 9223372036854775807 then F12.j2 d38 ((d37 ++ y49)) else none))))) else some (.inr (.inr (d37))))
noncomputable def F12.m (x2 : List Int) (x3 : Int) : Option Bool :=
  (if (5000 : Int) < ((x2).length : Int) then ((F38.m (x2) (x3) ((0 : Int))).bind fun y6 => (if x3 < (1 : Int) then (if ((decide (((y6).length : Int) = (0 : Int))) == true) = true then ((F34.m).bind fun y11 => some y11) else some false) else (if ((decide (((y6).length : Int) = (0 : Int))) == (decide (((x2).length : Int) = (0 : Int)))) = true then ((F34.m).bind fun y14 => some y14) else some false))) else (if x3 < (1 : Int) then ((F38.m (x2) (x3) ((0 : Int))).bind fun y17 => (if x3 < (1 : Int) then (if ((decide (((y17).length : Int) = (0 : Int))) == true) = true then ((F34.m).bind fun y22 => some y22) else some false) else (if ((decide (((y17).length : Int) = (0 : Int))) == (decide (((x2).length : Int) = (0 : Int)))) = true then ((F34.m).bind fun y25 => some y25) else some false))) else ((F39.m (((x2).length : Int)) (x3)).bind fun y28 => (if ((x2).length : Int) < y28 then some false else ((loop (F12.b1 x2 x3 y28) (([] : List Int), (0 : Int))).bind fun y => match y with | .inl r => some r | .inr d32 => F12.j1 x2 (d32))))))
set_option maxRecDepth 100000 in
set_option maxHeartbeats 4000000 in
theorem F12.spec (s1 : SlV) (x2 : List Int) (x3 : Int) (r : Bool) (hm : F12.m x2 x3 = some r) :
    Ctr Try.prog false 12 [s1.v, .int .i64 x3] [Asr.vw (Enc.int .u8) (s1.v) x2] (fun v L' => v = .bool r ∧ L' = []) := by
  refine Ctr.intro (n := 82) (env := [(0, s1.v), (1, .int .i64 x3)]) Try.func12 rfl rfl rfl rfl (fun c => ?_)
  unfold F12.m at hm
  refine JC.seq ?_
  refine JC.region ?_
  refine JL.val (v := .bool false) (QV.assign rfl) rfl rfl rfl ?_
  refine JL.nil ?_
  refine QJ.then_normal ?_
  refine JC.seq ?_
  refine JC.seq ?_
  refine JC.region ?_
  refine JL.val (v := s1.v) (QV.move rfl) rfl rfl rfl ?_
  refine JL.val (v := .int .i64 ((x2).length : Int)) (QV.len (Rdg.vw 0 rfl) Try.underlying23 rfl) rfl rfl rfl ?_
  refine JL.val (v := .bool (decide ((5000 : Int) < ((x2).length : Int)))) (QV.gtr rfl rfl) rfl rfl rfl ?_
  rcases ite_inv hm with ⟨h5, hm⟩ | ⟨h5, hm⟩
  ·
    refine JL.val (v := .bool true) (QV.eq (QV.move rfl) (congrArg Value.bool (decide_eq_true h5))) rfl rfl rfl ?_
    refine JL.skip (d := some 13) rfl rfl rfl ?_
    refine JL.skip (d := some 14) rfl rfl rfl ?_
    refine JL.val (v := .bool true) (QV.pickT rfl rfl) rfl rfl rfl ?_
    refine JL.nil ?_
    refine QJ.then_normal ?_
    refine JC.condT rfl ?_
    refine JC.seq ?_
    refine JC.region ?_
    refine JL.val (v := s1.v) (QV.move rfl) rfl rfl rfl ?_
    refine JL.val (v := .int .i64 x3) (QV.move rfl) rfl rfl rfl ?_
    obtain ⟨y6, hc7, hm⟩ := bind_inv hm
    refine JL.mv (d := some 18) (MV.call (Lo := []) (Lr := [Asr.vw (Enc.int .u8) (s1.v) x2]) (F38.spec (s1) (x2) (x3) ((0 : Int)) _ hc7) rfl Try.func38 rfl rfl rfl [] [0] rfl rfl rfl ⟨(Drv.vw 0 rfl), trivial⟩) rfl rfl rfl ?_
    rintro _ _ ⟨_, ⟨z8, rfl, rfl⟩, rfl⟩
    refine JL.val (v := .int .i64 ((y6).length : Int)) (QV.len (Rdg.of 0 rfl) Try.underlying23 rfl) rfl rfl rfl ?_
    refine JL.val (v := .bool (decide (((y6).length : Int) = (0 : Int)))) (QV.eql rfl rfl) rfl rfl rfl ?_
    refine JL.val (v := .int .i64 x3) (QV.move rfl) rfl rfl rfl ?_
    refine JL.val (v := .bool (decide (x3 < (1 : Int)))) (QV.lss rfl rfl) rfl rfl rfl ?_
    rcases ite_inv hm with ⟨h9, hm⟩ | ⟨h9, hm⟩
    ·
      refine JL.val (v := .bool true) (QV.eq (QV.move rfl) (congrArg Value.bool (decide_eq_true h9))) rfl rfl rfl ?_
      refine JL.skip (d := some 24) rfl rfl rfl ?_
      refine JL.skip (d := some 25) rfl rfl rfl ?_
      refine JL.skip (d := some 26) rfl rfl rfl ?_
      refine JL.val (v := .bool true) (QV.pickT rfl rfl) rfl rfl rfl ?_
      refine JL.val (v := .bool ((decide (((y6).length : Int) = (0 : Int))) == true)) (QV.eqlB Try.underlying4 rfl rfl) rfl rfl rfl ?_
      rcases ite_inv hm with ⟨h10, hm⟩ | ⟨h10, hm⟩
      ·
        refine JL.val (v := .bool true) (QV.eq (QV.move rfl) (congrArg Value.bool h10)) rfl rfl rfl ?_
        obtain ⟨y11, hc12, hm⟩ := bind_inv hm
        refine JL.mv (d := some 30) (MV.call (Lo := []) (Lr := [Asr.of 5 (Enc.int .u8) (z8.v) y6, Asr.vw (Enc.int .u8) (s1.v) x2]) (F34.spec _ hc12) rfl Try.func34 rfl rfl rfl [] [0, 1] rfl rfl rfl trivial) rfl rfl rfl ?_
        rintro _ _ ⟨_, ⟨rfl, rfl⟩, rfl⟩
        refine JL.val (v := .bool y11) (QV.pickT rfl rfl) rfl rfl rfl ?_
        refine JL.val (v := .bool y11) (QV.assign rfl) rfl rfl rfl ?_
        refine JL.nil ?_
        refine QJ.then_normal ?_
        refine JC.ret ?_
        refine QJ.then_ret ?_
        obtain rfl := Option.some.inj hm
        exact QJ.body (vs := [.bool y11]) (.inl rfl) rfl (ResVs.cons (ResV.tmp rfl) ResVs.nil) [] rfl rfl (.inr trivial) ⟨rfl, rfl⟩
      ·
        refine JL.val (v := .bool false) (QV.eq (QV.move rfl) (congrArg Value.bool (bfalse h10))) rfl rfl rfl ?_
        refine JL.skip (d := some 30) rfl rfl rfl ?_
        refine JL.val (v := .bool false) (QV.pickF rfl rfl) rfl rfl rfl ?_
        refine JL.val (v := .bool false) (QV.assign rfl) rfl rfl rfl ?_
        refine JL.nil ?_
        refine QJ.then_normal ?_
        refine JC.ret ?_
        refine QJ.then_ret ?_
        obtain rfl := Option.some.inj hm
        exact QJ.body (vs := [.bool false]) (.inl rfl) rfl (ResVs.cons (ResV.tmp rfl) ResVs.nil) [] rfl rfl (.inr trivial) ⟨rfl, rfl⟩
    ·
      refine JL.val (v := .bool false) (QV.eq (QV.move rfl) (congrArg Value.bool (decide_eq_false h9))) rfl rfl rfl ?_
      refine JL.val (v := s1.v) (QV.move rfl) rfl rfl rfl ?_
      refine JL.val (v := .int .i64 ((x2).length : Int)) (QV.len (Rdg.vw 1 rfl) Try.underlying23 rfl) rfl rfl rfl ?_
      refine JL.val (v := .bool (decide (((x2).length : Int) = (0 : Int)))) (QV.eql rfl rfl) rfl rfl rfl ?_
      refine JL.val (v := .bool (decide (((x2).length : Int) = (0 : Int)))) (QV.pickF rfl rfl) rfl rfl rfl ?_
      refine JL.val (v := .bool ((decide (((y6).length : Int) = (0 : Int))) == (decide (((x2).length : Int) = (0 : Int))))) (QV.eqlB Try.underlying4 rfl rfl) rfl rfl rfl ?_
      rcases ite_inv hm with ⟨h13, hm⟩ | ⟨h13, hm⟩
      ·
        refine JL.val (v := .bool true) (QV.eq (QV.move rfl) (congrArg Value.bool h13)) rfl rfl rfl ?_
        obtain ⟨y14, hc15, hm⟩ := bind_inv hm
        refine JL.mv (d := some 30) (MV.call (Lo := []) (Lr := [Asr.of 5 (Enc.int .u8) (z8.v) y6, Asr.vw (Enc.int .u8) (s1.v) x2]) (F34.spec _ hc15) rfl Try.func34 rfl rfl rfl [] [0, 1] rfl rfl rfl trivial) rfl rfl rfl ?_
        rintro _ _ ⟨_, ⟨rfl, rfl⟩, rfl⟩
        refine JL.val (v := .bool y14) (QV.pickT rfl rfl) rfl rfl rfl ?_
        refine JL.val (v := .bool y14) (QV.assign rfl) rfl rfl rfl ?_
        refine JL.nil ?_
        refine QJ.then_normal ?_
        refine JC.ret ?_
        refine QJ.then_ret ?_
        obtain rfl := Option.some.inj hm
        exact QJ.body (vs := [.bool y14]) (.inl rfl) rfl (ResVs.cons (ResV.tmp rfl) ResVs.nil) [] rfl rfl (.inr trivial) ⟨rfl, rfl⟩
      ·
        refine JL.val (v := .bool false) (QV.eq (QV.move rfl) (congrArg Value.bool (bfalse h13))) rfl rfl rfl ?_
        refine JL.skip (d := some 30) rfl rfl rfl ?_
        refine JL.val (v := .bool false) (QV.pickF rfl rfl) rfl rfl rfl ?_
        refine JL.val (v := .bool false) (QV.assign rfl) rfl rfl rfl ?_
        refine JL.nil ?_
        refine QJ.then_normal ?_
        refine JC.ret ?_
        refine QJ.then_ret ?_
        obtain rfl := Option.some.inj hm
        exact QJ.body (vs := [.bool false]) (.inl rfl) rfl (ResVs.cons (ResV.tmp rfl) ResVs.nil) [] rfl rfl (.inr trivial) ⟨rfl, rfl⟩
  ·
    refine JL.val (v := .bool false) (QV.eq (QV.move rfl) (congrArg Value.bool (decide_eq_false h5))) rfl rfl rfl ?_
    refine JL.val (v := .int .i64 x3) (QV.move rfl) rfl rfl rfl ?_
    refine JL.val (v := .bool (decide (x3 < (1 : Int)))) (QV.lss rfl rfl) rfl rfl rfl ?_
    refine JL.val (v := .bool (decide (x3 < (1 : Int)))) (QV.pickF rfl rfl) rfl rfl rfl ?_
    refine JL.nil ?_
    refine QJ.then_normal ?_
    rcases ite_inv hm with ⟨h16, hm⟩ | ⟨h16, hm⟩
    ·
      refine JC.condT' rfl (decide_eq_true h16) ?_
      refine JC.seq ?_
      refine JC.region ?_
      refine JL.val (v := s1.v) (QV.move rfl) rfl rfl rfl ?_
      refine JL.val (v := .int .i64 x3) (QV.move rfl) rfl rfl rfl ?_
      obtain ⟨y17, hc18, hm⟩ := bind_inv hm
      refine JL.mv (d := some 18) (MV.call (Lo := []) (Lr := [Asr.vw (Enc.int .u8) (s1.v) x2]) (F38.spec (s1) (x2) (x3) ((0 : Int)) _ hc18) rfl Try.func38 rfl rfl rfl [] [0] rfl rfl rfl ⟨(Drv.vw 0 rfl), trivial⟩) rfl rfl rfl ?_
      rintro _ _ ⟨_, ⟨z19, rfl, rfl⟩, rfl⟩
      refine JL.val (v := .int .i64 ((y17).length : Int)) (QV.len (Rdg.of 0 rfl) Try.underlying23 rfl) rfl rfl rfl ?_
      refine JL.val (v := .bool (decide (((y17).length : Int) = (0 : Int)))) (QV.eql rfl rfl) rfl rfl rfl ?_
      refine JL.val (v := .int .i64 x3) (QV.move rfl) rfl rfl rfl ?_
      refine JL.val (v := .bool (decide (x3 < (1 : Int)))) (QV.lss rfl rfl) rfl rfl rfl ?_
      rcases ite_inv hm with ⟨h20, hm⟩ | ⟨h20, hm⟩
      ·
        refine JL.val (v := .bool true) (QV.eq (QV.move rfl) (congrArg Value.bool (decide_eq_true h20))) rfl rfl rfl ?_
        refine JL.skip (d := some 24) rfl rfl rfl ?_
        refine JL.skip (d := some 25) rfl rfl rfl ?_
        refine JL.skip (d := some 26) rfl rfl rfl ?_
        refine JL.val (v := .bool true) (QV.pickT rfl rfl) rfl rfl rfl ?_
        refine JL.val (v := .bool ((decide (((y17).length : Int) = (0 : Int))) == true)) (QV.eqlB Try.underlying4 rfl rfl) rfl rfl rfl ?_
        rcases ite_inv hm with ⟨h21, hm⟩ | ⟨h21, hm⟩
        ·
          refine JL.val (v := .bool true) (QV.eq (QV.move rfl) (congrArg Value.bool h21)) rfl rfl rfl ?_
          obtain ⟨y22, hc23, hm⟩ := bind_inv hm
          refine JL.mv (d := some 30) (MV.call (Lo := []) (Lr := [Asr.of 5 (Enc.int .u8) (z19.v) y17, Asr.vw (Enc.int .u8) (s1.v) x2]) (F34.spec _ hc23) rfl Try.func34 rfl rfl rfl [] [0, 1] rfl rfl rfl trivial) rfl rfl rfl ?_
          rintro _ _ ⟨_, ⟨rfl, rfl⟩, rfl⟩
          refine JL.val (v := .bool y22) (QV.pickT rfl rfl) rfl rfl rfl ?_
          refine JL.val (v := .bool y22) (QV.assign rfl) rfl rfl rfl ?_
          refine JL.nil ?_
          refine QJ.then_normal ?_
          refine JC.ret ?_
          refine QJ.then_ret ?_
          obtain rfl := Option.some.inj hm
          exact QJ.body (vs := [.bool y22]) (.inl rfl) rfl (ResVs.cons (ResV.tmp rfl) ResVs.nil) [] rfl rfl (.inr trivial) ⟨rfl, rfl⟩
        ·
          refine JL.val (v := .bool false) (QV.eq (QV.move rfl) (congrArg Value.bool (bfalse h21))) rfl rfl rfl ?_
          refine JL.skip (d := some 30) rfl rfl rfl ?_
          refine JL.val (v := .bool false) (QV.pickF rfl rfl) rfl rfl rfl ?_
          refine JL.val (v := .bool false) (QV.assign rfl) rfl rfl rfl ?_
          refine JL.nil ?_
          refine QJ.then_normal ?_
          refine JC.ret ?_
          refine QJ.then_ret ?_
          obtain rfl := Option.some.inj hm
          exact QJ.body (vs := [.bool false]) (.inl rfl) rfl (ResVs.cons (ResV.tmp rfl) ResVs.nil) [] rfl rfl (.inr trivial) ⟨rfl, rfl⟩
      ·
        refine JL.val (v := .bool false) (QV.eq (QV.move rfl) (congrArg Value.bool (decide_eq_false h20))) rfl rfl rfl ?_
        refine JL.val (v := s1.v) (QV.move rfl) rfl rfl rfl ?_
        refine JL.val (v := .int .i64 ((x2).length : Int)) (QV.len (Rdg.vw 1 rfl) Try.underlying23 rfl) rfl rfl rfl ?_
        refine JL.val (v := .bool (decide (((x2).length : Int) = (0 : Int)))) (QV.eql rfl rfl) rfl rfl rfl ?_
        refine JL.val (v := .bool (decide (((x2).length : Int) = (0 : Int)))) (QV.pickF rfl rfl) rfl rfl rfl ?_
        refine JL.val (v := .bool ((decide (((y17).length : Int) = (0 : Int))) == (decide (((x2).length : Int) = (0 : Int))))) (QV.eqlB Try.underlying4 rfl rfl) rfl rfl rfl ?_
        rcases ite_inv hm with ⟨h24, hm⟩ | ⟨h24, hm⟩
        ·
          refine JL.val (v := .bool true) (QV.eq (QV.move rfl) (congrArg Value.bool h24)) rfl rfl rfl ?_
          obtain ⟨y25, hc26, hm⟩ := bind_inv hm
          refine JL.mv (d := some 30) (MV.call (Lo := []) (Lr := [Asr.of 5 (Enc.int .u8) (z19.v) y17, Asr.vw (Enc.int .u8) (s1.v) x2]) (F34.spec _ hc26) rfl Try.func34 rfl rfl rfl [] [0, 1] rfl rfl rfl trivial) rfl rfl rfl ?_
          rintro _ _ ⟨_, ⟨rfl, rfl⟩, rfl⟩
          refine JL.val (v := .bool y25) (QV.pickT rfl rfl) rfl rfl rfl ?_
          refine JL.val (v := .bool y25) (QV.assign rfl) rfl rfl rfl ?_
          refine JL.nil ?_
          refine QJ.then_normal ?_
          refine JC.ret ?_
          refine QJ.then_ret ?_
          obtain rfl := Option.some.inj hm
          exact QJ.body (vs := [.bool y25]) (.inl rfl) rfl (ResVs.cons (ResV.tmp rfl) ResVs.nil) [] rfl rfl (.inr trivial) ⟨rfl, rfl⟩
        ·
          refine JL.val (v := .bool false) (QV.eq (QV.move rfl) (congrArg Value.bool (bfalse h24))) rfl rfl rfl ?_
          refine JL.skip (d := some 30) rfl rfl rfl ?_
          refine JL.val (v := .bool false) (QV.pickF rfl rfl) rfl rfl rfl ?_
          refine JL.val (v := .bool false) (QV.assign rfl) rfl rfl rfl ?_
          refine JL.nil ?_
          refine QJ.then_normal ?_
          refine JC.ret ?_
          refine QJ.then_ret ?_
          obtain rfl := Option.some.inj hm
          exact QJ.body (vs := [.bool false]) (.inl rfl) rfl (ResVs.cons (ResV.tmp rfl) ResVs.nil) [] rfl rfl (.inr trivial) ⟨rfl, rfl⟩
    ·
      refine JC.condF' rfl (decide_eq_false h16) ?_
      refine JC.skip ?_
      refine QJ.then_normal ?_
      refine JC.seq ?_
      refine JC.region ?_
      refine JL.mv (d := some 32) (MV.lit0 (Enc.int .u8) Try.underlying23 (by kernel_rfl)) rfl rfl rfl ?_
      rintro _ _ ⟨z27, rfl, rfl⟩
      refine JL.val (v := z27.v) (QV.assign rfl) rfl rfl rfl ?_
      refine JL.nil ?_
      refine QJ.then_normal ?_
      refine JC.seq ?_
      refine JC.region ?_
      refine JL.val (v := s1.v) (QV.move rfl) rfl rfl rfl ?_
      refine JL.val (v := .int .i64 ((x2).length : Int)) (QV.len (Rdg.vw 1 rfl) Try.underlying23 rfl) rfl rfl rfl ?_
      refine JL.val (v := .int .i64 x3) (QV.move rfl) rfl rfl rfl ?_
      obtain ⟨y28, hc29, hm⟩ := bind_inv hm
      refine JL.mv (d := some 36) (MV.call (Lo := []) (Lr := [Asr.of 5 (Enc.int .u8) (z27.v) ([] : List Int), Asr.vw (Enc.int .u8) (s1.v) x2]) (F39.spec (((x2).length : Int)) (x3) _ hc29) rfl Try.func39 rfl rfl rfl [] [0, 1] rfl rfl rfl trivial) rfl rfl rfl ?_
      rintro _ _ ⟨_, ⟨rfl, rfl⟩, rfl⟩
      refine JL.val (v := .int .i64 y28) (QV.assign rfl) rfl rfl rfl ?_
      refine JL.nil ?_
      refine QJ.then_normal ?_
      refine JC.seq ?_
      refine JC.seq ?_
      refine JC.region ?_
      refine JL.val (v := .int .i64 y28) (QV.move rfl) rfl rfl rfl ?_
      refine JL.val (v := s1.v) (QV.move rfl) rfl rfl rfl ?_
      refine JL.val (v := .int .i64 ((x2).length : Int)) (QV.len (Rdg.vw 1 rfl) Try.underlying23 rfl) rfl rfl rfl ?_
      refine JL.val (v := .bool (decide (((x2).length : Int) < y28))) (QV.gtr rfl rfl) rfl rfl rfl ?_
      refine JL.nil ?_
      refine QJ.then_normal ?_
      rcases ite_inv hm with ⟨h30, hm⟩ | ⟨h30, hm⟩
      ·
        refine JC.condT' rfl (decide_eq_true h30) ?_
        refine JC.seq ?_
        refine JC.region ?_
        refine JL.val (v := .bool false) (QV.assign rfl) rfl rfl rfl ?_
        refine JL.nil ?_
        refine QJ.then_normal ?_
        refine JC.ret ?_
        refine QJ.then_ret ?_
        obtain rfl := Option.some.inj hm
        exact QJ.body (vs := [.bool false]) (.inl rfl) rfl (ResVs.cons (ResV.tmp rfl) ResVs.nil) [] rfl rfl (.inr trivial) ⟨rfl, rfl⟩
      ·
        refine JC.condF' rfl (decide_eq_false h30) ?_
        refine JC.skip ?_
        refine QJ.then_normal ?_
        refine JC.seq ?_
        refine JC.seq ?_
        refine JC.region ?_
        refine JL.val (v := .int .i64 (0 : Int)) (QV.assign rfl) rfl rfl rfl ?_
        refine JL.nil ?_
        refine QJ.then_normal ?_
        refine JC.cutK (Y := (List Int) × SlV) (fun y => match y with | (d32, _) => F12.j1 x2 (d32) = some r) (fun y => match y with | (d32, z31) => [(0, s1.v), (5, z31.v)]) (fun y => match y with | (d32, z31) => [Asr.vw (Enc.int .u8) (s1.v) x2, Asr.of 5 (Enc.int .u8) (z31.v) d32]) ?_ ?_
        ·
          rintro ⟨d32, z31⟩ hm
          unfold F12.j1 at hm
          show QJ _ _ [(0, s1.v), (5, z31.v)] [Asr.vw (Enc.int .u8) (s1.v) x2, Asr.of 5 (Enc.int .u8) (z31.v) d32] _ _
          refine QJ.then_normal ?_
          refine JC.seq ?_
          refine JC.region ?_
          refine JL.val (v := z31.v) (QV.move rfl) rfl rfl rfl ?_
          refine JL.val (v := .string (strOfNums d32)) (QV.str (Rdg.of 1 rfl) Try.underlying23 Try.underlying5 Try.underlying9 rfl) rfl rfl rfl ?_
          refine JL.val (v := s1.v) (QV.move rfl) rfl rfl rfl ?_
          refine JL.val (v := .string (strOfNums x2)) (QV.str (Rdg.vw 0 rfl) Try.underlying23 Try.underlying5 Try.underlying9 rfl) rfl rfl rfl ?_
          refine JL.val (v := .bool (decide ((strOfNums d32) = (strOfNums x2)))) (QV.eqlS rfl rfl) rfl rfl rfl ?_
          rcases ite_inv hm with ⟨h33, hm⟩ | ⟨h33, hm⟩
          ·
            refine JL.val (v := .bool true) (QV.eq (QV.move rfl) (congrArg Value.bool (decide_eq_true h33))) rfl rfl rfl ?_
            obtain ⟨y34, hc35, hm⟩ := bind_inv hm
            refine JL.mv (d := some 80) (MV.call (Lo := []) (Lr := [Asr.vw (Enc.int .u8) (s1.v) x2, Asr.of 5 (Enc.int .u8) (z31.v) d32]) (F34.spec _ hc35) rfl Try.func34 rfl rfl rfl [] [0, 1] rfl rfl rfl trivial) rfl rfl rfl ?_
            rintro _ _ ⟨_, ⟨rfl, rfl⟩, rfl⟩
            refine JL.val (v := .bool y34) (QV.pickT rfl rfl) rfl rfl rfl ?_
            refine JL.val (v := .bool y34) (QV.assign rfl) rfl rfl rfl ?_
            refine JL.nil ?_
            refine QJ.then_normal ?_
            refine JC.ret ?_
            obtain rfl := Option.some.inj hm
            exact QJ.body (vs := [.bool y34]) (.inl rfl) rfl (ResVs.cons (ResV.tmp rfl) ResVs.nil) [] rfl rfl (.inr trivial) ⟨rfl, rfl⟩
          ·
            refine JL.val (v := .bool false) (QV.eq (QV.move rfl) (congrArg Value.bool (decide_eq_false h33))) rfl rfl rfl ?_
            refine JL.skip (d := some 80) rfl rfl rfl ?_
            refine JL.val (v := .bool false) (QV.pickF rfl rfl) rfl rfl rfl ?_
            refine JL.val (v := .bool false) (QV.assign rfl) rfl rfl rfl ?_
            refine JL.nil ?_
            refine QJ.then_normal ?_
            refine JC.ret ?_
            obtain rfl := Option.some.inj hm
            exact QJ.body (vs := [.bool false]) (.inl rfl) rfl (ResVs.cons (ResV.tmp rfl) ResVs.nil) [] rfl rfl (.inr trivial) ⟨rfl, rfl⟩
        ·
          refine JC.block ?_
          obtain ⟨y42, hl43, hmo44⟩ := bind_inv hm
          refine JC.loop (F12.b1 x2 x3 y28) (fun x z => match x, z with | (d37, d38), z36 => [(0, s1.v), (1, .int .i64 x3), (5, z36.v), (6, .int .i64 y28), (7, .int .i64 d38)]) (fun x z => match x, z with | (d37, d38), z36 => [Asr.vw (Enc.int .u8) (s1.v) x2, Asr.of 5 (Enc.int .u8) (z36.v) d37]) (([] : List Int), (0 : Int)) z27 y42 hl43 [1, 0] (by exact ⟨rfl, rfl, rfl, rfl, rfl, trivial⟩) rfl rfl ?_
          rintro ⟨d37, d38⟩ z36 s45 hm
          unfold F12.b1 at hm
          dsimp only at hm
          show JC _ _ _ [(0, s1.v), (1, .int .i64 x3), (5, z36.v), (6, .int .i64 y28), (7, .int .i64 d38)] [Asr.vw (Enc.int .u8) (s1.v) x2, Asr.of 5 (Enc.int .u8) (z36.v) d37] _ _
          refine JC.seq ?_
          refine JC.seq ?_
          refine JC.region ?_
          refine JL.val (v := .int .i64 d38) (QV.move rfl) rfl rfl rfl ?_
          refine JL.val (v := .int .i64 y28) (QV.move rfl) rfl rfl rfl ?_
          refine JL.val (v := .bool (decide (d38 < y28))) (QV.lss rfl rfl) rfl rfl rfl ?_
          refine JL.nil ?_
          refine QJ.then_normal ?_
          rcases ite_inv hm with ⟨h46, hm⟩ | ⟨h46, hm⟩
          ·
            refine JC.condT' rfl (decide_eq_true h46) ?_
            refine JC.skip ?_
            refine QJ.then_normal ?_
            refine JC.seq ?_
            refine JC.cutK (Y := (List Int) × SlV) (fun y => match y with | (d48, _) => F12.j2 d38 (d48) = some s45) (fun y => match y with | (d48, z47) => [(0, s1.v), (1, .int .i64 x3), (5, z47.v), (6, .int .i64 y28), (7, .int .i64 d38)]) (fun y => match y with | (d48, z47) => [Asr.vw (Enc.int .u8) (s1.v) x2, Asr.of 5 (Enc.int .u8) (z47.v) d48]) ?_ ?_
            ·
              rintro ⟨d48, z47⟩ hm
              unfold F12.j2 at hm
              show QJ _ _ [(0, s1.v), (1, .int .i64 x3), (5, z47.v), (6, .int .i64 y28), (7, .int .i64 d38)] [Asr.vw (Enc.int .u8) (s1.v) x2, Asr.of 5 (Enc.int .u8) (z47.v) d48] _ _
              refine QJ.then_normal ?_
              refine JC.region ?_
              refine JL.val (v := .int .i64 d38) (QV.move rfl) rfl rfl rfl ?_
              refine JL.val (v := .int .i64 (IntKind.wrap .i64 (d38 + (1 : Int)))) (QV.add rfl rfl) rfl rfl rfl ?_
              refine JL.val (v := .int .i64 (IntKind.wrap .i64 (d38 + (1 : Int)))) (QV.assign rfl) rfl rfl rfl ?_
              refine JL.nil ?_
              obtain rfl := Option.some.inj hm
              exact QJ.round_on (d48, (IntKind.wrap .i64 (d38 + (1 : Int)))) z47 [0, 1] (by exact ⟨rfl, rfl, rfl, rfl, rfl, trivial⟩) rfl rfl
            ·
              refine JC.block ?_
              refine JC.seq ?_
              refine JC.region ?_
              refine JL.val (v := s1.v) (QV.move rfl) rfl rfl rfl ?_
              refine JL.val (v := .int .i64 x3) (QV.move rfl) rfl rfl rfl ?_
              refine JL.val (v := .int .i64 d38) (QV.move rfl) rfl rfl rfl ?_
              obtain ⟨y49, hc50, hm⟩ := bind_inv hm
              refine JL.mv (d := some 49) (MV.call (Lo := []) (Lr := [Asr.vw (Enc.int .u8) (s1.v) x2, Asr.of 5 (Enc.int .u8) (z36.v) d37]) (F38.spec (s1) (x2) (x3) (d38) _ hc50) rfl Try.func38 rfl rfl rfl [] [0, 1] rfl rfl rfl ⟨(Drv.vw 0 rfl), trivial⟩) rfl rfl rfl ?_
              rintro _ _ ⟨_, ⟨z51, rfl, rfl⟩, rfl⟩
              refine JL.val (v := z51.v) (QV.assign rfl) rfl rfl rfl ?_
              refine JL.nil ?_
              refine QJ.then_normal ?_
              refine JC.seq ?_
              refine JC.seq ?_
              refine JC.region ?_
              refine JL.val (v := z51.v) (QV.move rfl) rfl rfl rfl ?_
              refine JL.val (v := .int .i64 ((y49).length : Int)) (QV.len (Rdg.of 0 rfl) Try.underlying23 rfl) rfl rfl rfl ?_
              refine JL.val (v := .bool (decide (((y49).length : Int) < (1 : Int)))) (QV.lss rfl rfl) rfl rfl rfl ?_
              rcases ite_inv hm with ⟨h52, hm⟩ | ⟨h52, hm⟩
              ·
                refine JL.val (v := .bool true) (QV.eq (QV.move rfl) (congrArg Value.bool (decide_eq_true h52))) rfl rfl rfl ?_
                refine JL.skip (d := some 54) rfl rfl rfl ?_
                refine JL.skip (d := some 55) rfl rfl rfl ?_
                refine JL.skip (d := some 56) rfl rfl rfl ?_
                refine JL.skip (d := some 57) rfl rfl rfl ?_
                refine JL.val (v := .bool true) (QV.pickT rfl rfl) rfl rfl rfl ?_
                refine JL.val (v := .bool true) (QV.move rfl) rfl rfl rfl ?_
                refine JL.skip (d := some 60) rfl rfl rfl ?_
                refine JL.skip (d := some 61) rfl rfl rfl ?_
                refine JL.skip (d := some 62) rfl rfl rfl ?_
                refine JL.skip (d := some 63) rfl rfl rfl ?_
                refine JL.skip (d := some 64) rfl rfl rfl ?_
                refine JL.skip (d := some 65) rfl rfl rfl ?_
                refine JL.skip (d := some 66) rfl rfl rfl ?_
                refine JL.skip (d := some 67) rfl rfl rfl ?_
                refine JL.skip (d := some 68) rfl rfl rfl ?_
                refine JL.skip (d := some 69) rfl rfl rfl ?_
                refine JL.val (v := .bool true) (QV.pickT rfl rfl) rfl rfl rfl ?_
                refine JL.nil ?_
                refine QJ.then_normal ?_
                refine JC.condT rfl ?_
                refine JC.seq ?_
                refine JC.region ?_
                refine JL.val (v := .bool false) (QV.assign rfl) rfl rfl rfl ?_
                refine JL.nil ?_
                refine QJ.then_normal ?_
                refine JC.ret ?_
                refine QJ.then_ret ?_
                refine QJ.block_ret ?_
                refine QJ.cut_ret ?_
                refine QJ.then_ret ?_
                obtain rfl := Option.some.inj hm
                refine QJ.round_ret (fun hy => ?_)
                subst hy
                refine QJ.block_ret ?_
                refine QJ.cut_ret ?_
                refine QJ.then_ret ?_
                obtain rfl := Option.some.inj hmo44
                exact QJ.body (vs := [.bool false]) (.inl rfl) rfl (ResVs.cons (ResV.tmp rfl) ResVs.nil) [] rfl rfl (.inr trivial) ⟨rfl, rfl⟩
              ·
                refine JL.val (v := .bool false) (QV.eq (QV.move rfl) (congrArg Value.bool (decide_eq_false h52))) rfl rfl rfl ?_
                refine JL.val (v := z51.v) (QV.move rfl) rfl rfl rfl ?_
                refine JL.val (v := .int .i64 ((y49).length : Int)) (QV.len (Rdg.of 0 rfl) Try.underlying23 rfl) rfl rfl rfl ?_
                refine JL.val (v := .int .i64 x3) (QV.move rfl) rfl rfl rfl ?_
                refine JL.val (v := .bool (decide (x3 < ((y49).length : Int)))) (QV.gtr rfl rfl) rfl rfl rfl ?_
                refine JL.val (v := .bool (decide (x3 < ((y49).length : Int)))) (QV.pickF rfl rfl) rfl rfl rfl ?_
                rcases ite_inv hm with ⟨h53, hm⟩ | ⟨h53, hm⟩
                ·
                  refine JL.val (v := .bool true) (QV.eq (QV.move rfl) (congrArg Value.bool (decide_eq_true h53))) rfl rfl rfl ?_
                  refine JL.skip (d := some 60) rfl rfl rfl ?_
                  refine JL.skip (d := some 61) rfl rfl rfl ?_
                  refine JL.skip (d := some 62) rfl rfl rfl ?_
                  refine JL.skip (d := some 63) rfl rfl rfl ?_
                  refine JL.skip (d := some 64) rfl rfl rfl ?_
                  refine JL.skip (d := some 65) rfl rfl rfl ?_
                  refine JL.skip (d := some 66) rfl rfl rfl ?_
                  refine JL.skip (d := some 67) rfl rfl rfl ?_
                  refine JL.skip (d := some 68) rfl rfl rfl ?_
                  refine JL.skip (d := some 69) rfl rfl rfl ?_
                  refine JL.val (v := .bool true) (QV.pickT rfl rfl) rfl rfl rfl ?_
                  refine JL.nil ?_
                  refine QJ.then_normal ?_
                  refine JC.condT rfl ?_
                  refine JC.seq ?_
                  refine JC.region ?_
                  refine JL.val (v := .bool false) (QV.assign rfl) rfl rfl rfl ?_
                  refine JL.nil ?_
                  refine QJ.then_normal ?_
                  refine JC.ret ?_
                  refine QJ.then_ret ?_
                  refine QJ.block_ret ?_
                  refine QJ.cut_ret ?_
                  refine QJ.then_ret ?_
                  obtain rfl := Option.some.inj hm
                  refine QJ.round_ret (fun hy => ?_)
                  subst hy
                  refine QJ.block_ret ?_
                  refine QJ.cut_ret ?_
                  refine QJ.then_ret ?_
                  obtain rfl := Option.some.inj hmo44
                  exact QJ.body (vs := [.bool false]) (.inl rfl) rfl (ResVs.cons (ResV.tmp rfl) ResVs.nil) [] rfl rfl (.inr trivial) ⟨rfl, rfl⟩
                ·
                  refine JL.val (v := .bool false) (QV.eq (QV.move rfl) (congrArg Value.bool (decide_eq_false h53))) rfl rfl rfl ?_
                  refine JL.val (v := .int .i64 d38) (QV.move rfl) rfl rfl rfl ?_
                  refine JL.val (v := .int .i64 y28) (QV.move rfl) rfl rfl rfl ?_
                  refine JL.val (v := .int .i64 (IntKind.wrap .i64 (y28 - (1 : Int)))) (QV.sub rfl rfl) rfl rfl rfl ?_
                  refine JL.val (v := .bool (decide (d38 < (IntKind.wrap .i64 (y28 - (1 : Int)))))) (QV.lss rfl rfl) rfl rfl rfl ?_
                  rcases ite_inv hm with ⟨h54, hm⟩ | ⟨h54, hm⟩
                  ·
                    refine JL.val (v := .bool true) (QV.eq (QV.move rfl) (congrArg Value.bool (decide_eq_true h54))) rfl rfl rfl ?_
                    refine JL.val (v := z51.v) (QV.move rfl) rfl rfl rfl ?_
                    refine JL.val (v := .int .i64 ((y49).length : Int)) (QV.len (Rdg.of 0 rfl) Try.underlying23 rfl) rfl rfl rfl ?_
                    refine JL.val (v := .int .i64 x3) (QV.move rfl) rfl rfl rfl ?_
                    refine JL.val (v := .bool (!(decide (((y49).length : Int) = x3)))) (QV.neq rfl rfl) rfl rfl rfl ?_
                    refine JL.val (v := .bool (!(decide (((y49).length : Int) = x3)))) (QV.pickT rfl rfl) rfl rfl rfl ?_
                    refine JL.val (v := .bool (!(decide (((y49).length : Int) = x3)))) (QV.pickF rfl rfl) rfl rfl rfl ?_
                    refine JL.nil ?_
                    refine QJ.then_normal ?_
                    rcases ite_inv hm with ⟨h55, hm⟩ | ⟨h55, hm⟩
                    ·
                      refine JC.condF' rfl (congrArg Bool.not (decide_eq_true h55)) ?_
                      refine JC.skip ?_
                      refine QJ.then_normal ?_
                      refine JC.region ?_
                      refine JL.val (v := z36.v) (QV.move rfl) rfl rfl rfl ?_
                      refine JL.val (v := z51.v) (QV.move rfl) rfl rfl rfl ?_
                      obtain ⟨h56, hm⟩ := guard_inv hm
                      refine JL.mv (d := some 73) (MV.append 2 rfl (Rdg.of 0 rfl) Try.underlying23 zi_5 rfl (by decide) rfl rfl h56) rfl rfl rfl ?_
                      rintro _ _ ⟨z57, rfl, rfl⟩
                      refine JL.val (v := z57.v) (QV.assign rfl) rfl rfl rfl ?_
                      refine JL.nil ?_
                      refine QJ.block_normal ?_
                      exact QJ.cut_normal ((d37 ++ y49), z57) hm [1, 2] (by exact ⟨rfl, rfl, rfl, rfl, rfl, trivial⟩) rfl rfl
                    ·
                      refine JC.condT' rfl (congrArg Bool.not (decide_eq_false h55)) ?_
                      refine JC.seq ?_
                      refine JC.region ?_
                      refine JL.val (v := .bool false) (QV.assign rfl) rfl rfl rfl ?_
                      refine JL.nil ?_
                      refine QJ.then_normal ?_
                      refine JC.ret ?_
                      refine QJ.then_ret ?_
                      refine QJ.block_ret ?_
                      refine QJ.cut_ret ?_
                      refine QJ.then_ret ?_
                      obtain rfl := Option.some.inj hm
                      refine QJ.round_ret (fun hy => ?_)
                      subst hy
                      refine QJ.block_ret ?_
                      refine QJ.cut_ret ?_
                      refine QJ.then_ret ?_
                      obtain rfl := Option.some.inj hmo44
                      exact QJ.body (vs := [.bool false]) (.inl rfl) rfl (ResVs.cons (ResV.tmp rfl) ResVs.nil) [] rfl rfl (.inr trivial) ⟨rfl, rfl⟩
                  ·
                    refine JL.val (v := .bool false) (QV.eq (QV.move rfl) (congrArg Value.bool (decide_eq_false h54))) rfl rfl rfl ?_
                    refine JL.skip (d := some 65) rfl rfl rfl ?_
                    refine JL.skip (d := some 66) rfl rfl rfl ?_
                    refine JL.skip (d := some 67) rfl rfl rfl ?_
                    refine JL.skip (d := some 68) rfl rfl rfl ?_
                    refine JL.val (v := .bool false) (QV.pickF rfl rfl) rfl rfl rfl ?_
                    refine JL.val (v := .bool false) (QV.pickF rfl rfl) rfl rfl rfl ?_
                    refine JL.nil ?_
                    refine QJ.then_normal ?_
                    refine JC.condF rfl ?_
                    refine JC.skip ?_
                    refine QJ.then_normal ?_
                    refine JC.region ?_
                    refine JL.val (v := z36.v) (QV.move rfl) rfl rfl rfl ?_
                    refine JL.val (v := z51.v) (QV.move rfl) rfl rfl rfl ?_
                    obtain ⟨h58, hm⟩ := guard_inv hm
                    refine JL.mv (d := some 73) (MV.append 2 rfl (Rdg.of 0 rfl) Try.underlying23 zi_5 rfl (by decide) rfl rfl h58) rfl rfl rfl ?_
                    rintro _ _ ⟨z59, rfl, rfl⟩
                    refine JL.val (v := z59.v) (QV.assign rfl) rfl rfl rfl ?_
                    refine JL.nil ?_
                    refine QJ.block_normal ?_
                    exact QJ.cut_normal ((d37 ++ y49), z59) hm [1, 2] (by exact ⟨rfl, rfl, rfl, rfl, rfl, trivial⟩) rfl rfl
          ·
            refine JC.condF' rfl (decide_eq_false h46) ?_
            refine JC.exit ?_
            refine QJ.then_exit ?_
            obtain rfl := Option.some.inj hm
            refine QJ.round_exit (fun hy => ?_)
            subst hy
            refine QJ.block_hit ?_
            exact QJ.cut_normal (d37, z36) hmo44 [0, 1] (by exact ⟨rfl, rfl, trivial⟩) rfl rfl

end Go.Proofs.Ytedokgdilpfomaa
