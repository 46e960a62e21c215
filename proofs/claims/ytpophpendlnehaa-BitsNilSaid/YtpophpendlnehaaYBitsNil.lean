/- Written by gen.py: functions and their contracts. -/
import Derived.Test.YtpophpendlnehaaBit
namespace Go.Proofs.Ytpophpendlnehaa
open Go Go.Eng Go.Proofs
set_option linter.unusedVariables false
set_option linter.unusedSimpArgs false
/-! ### 28: (*drogher/bits.Writer).Put -/
noncomputable def F28_1.m (x1 : Int) (x2 : Int) : Option Unit :=
  some ()
set_option maxRecDepth 100000 in
set_option maxHeartbeats 4000000 in
theorem F28_1.spec (x1 : Int) (x2 : Int) (r : Unit) (hm : F28_1.m x1 x2 = some r) :
    Ctr Try.prog false 28 [.pointer none, .int .u32 x1, .int .i64 x2] [] (fun v L' => v = .tuple #[] ∧ L' = []) := by
  refine Ctr.intro (n := 70) (env := [(0, .pointer none), (1, .int .u32 x1), (2, .int .i64 x2)]) Try.func28 rfl rfl rfl rfl (fun c => ?_)
  unfold F28_1.m at hm
  refine JC.seq ?_
  refine JC.seq ?_
  refine JC.region ?_
  refine JL.val (v := .pointer none) (QV.move rfl) rfl rfl rfl ?_
  refine JL.val (v := .bool true) ((QV.eq (QV.eqlP Try.underlying40 rfl rfl (.inl rfl)) (by simp))) rfl rfl rfl ?_
  refine JL.nil ?_
  refine QJ.then_normal ?_
  refine JC.condT rfl ?_
  refine JC.ret ?_
  refine QJ.then_ret ?_
  obtain rfl := Option.some.inj hm
  exact QJ.body (vs := []) (.inl rfl) rfl ResVs.nil [] rfl rfl (.inr trivial) ⟨rfl, rfl⟩

/-! ### 30: (*drogher/bits.Writer).Code -/
noncomputable def F30_1.j1   : Option Unit :=
  some ()
noncomputable def F30_1.m (x1 : Int) (x2 : Int) : Option Unit :=
  (if (0 : Int) < (minI (maxI x2 (0 : Int)) (32 : Int)) then ((F63.m (x1)).bind fun y4 => (if 0 ≤ (IntKind.wrap .i64 ((32 : Int) - (minI (maxI x2 (0 : Int)) (32 : Int)))) then ((F28_1.m ((shrI .u32 y4 (IntKind.wrap .i64 ((32 : Int) - (minI (maxI x2 (0 : Int)) (32 : Int)))))) ((minI (maxI x2 (0 : Int)) (32 : Int)))).bind fun y7 => F30_1.j1) else none)) else F30_1.j1)
set_option maxRecDepth 100000 in
set_option maxHeartbeats 4000000 in
theorem F30_1.spec (x1 : Int) (x2 : Int) (r : Unit) (hm : F30_1.m x1 x2 = some r) :
    Ctr Try.prog false 30 [.pointer none, .int .u32 x1, .int .i64 x2] [] (fun v L' => v = .tuple #[] ∧ L' = []) := by
  refine Ctr.intro (n := 19) (env := [(0, .pointer none), (1, .int .u32 x1), (2, .int .i64 x2)]) Try.func30 rfl rfl rfl rfl (fun c => ?_)
  unfold F30_1.m at hm
  refine JC.seq ?_
  refine JC.region ?_
  refine JL.val (v := .int .i64 x2) (QV.move rfl) rfl rfl rfl ?_
  refine JL.val (v := .int .i64 (maxI x2 (0 : Int))) (QV.max2 rfl rfl) rfl rfl rfl ?_
  refine JL.val (v := .int .i64 (minI (maxI x2 (0 : Int)) (32 : Int))) (QV.min2 rfl rfl) rfl rfl rfl ?_
  refine JL.val (v := .int .i64 (minI (maxI x2 (0 : Int)) (32 : Int))) (QV.assign rfl) rfl rfl rfl ?_
  refine JL.nil ?_
  refine QJ.then_normal ?_
  refine JC.seq ?_
  refine JC.region ?_
  refine JL.val (v := .int .i64 (minI (maxI x2 (0 : Int)) (32 : Int))) (QV.move rfl) rfl rfl rfl ?_
  refine JL.val (v := .bool (decide ((0 : Int) < (minI (maxI x2 (0 : Int)) (32 : Int))))) (QV.gtr rfl rfl) rfl rfl rfl ?_
  refine JL.nil ?_
  refine QJ.then_normal ?_
  refine JC.cutK (Y := Unit × Unit) (fun y => match y with | (_, _) => F30_1.j1 = some r) (fun y => match y with | (_, _) => []) (fun y => match y with | (_, _) => []) ?_ ?_
  ·
    rintro ⟨⟨⟩, ⟨⟩⟩ hm
    unfold F30_1.j1 at hm
    show QJ _ _ [] [] _ _
    obtain rfl := Option.some.inj hm
    exact QJ.body (vs := []) (.inr rfl) rfl ResVs.nil [] rfl rfl (.inr trivial) ⟨rfl, rfl⟩
  ·
    rcases ite_inv hm with ⟨h3, hm⟩ | ⟨h3, hm⟩
    ·
      refine JC.condT' rfl (decide_eq_true h3) ?_
      refine JC.region ?_
      refine JL.val (v := .pointer none) (QV.move rfl) rfl rfl rfl ?_
      refine JL.val (v := .int .u32 x1) (QV.move rfl) rfl rfl rfl ?_
      obtain ⟨y4, hc5, hm⟩ := bind_inv hm
      refine JL.mv (d := some 13) (MV.call (Lo := []) (Lr := []) (F63.spec (x1) _ hc5) rfl Try.func63 rfl rfl rfl [] [] rfl rfl rfl trivial) rfl rfl rfl ?_
      rintro _ _ ⟨_, ⟨rfl, rfl⟩, rfl⟩
      refine JL.val (v := .int .i64 (minI (maxI x2 (0 : Int)) (32 : Int))) (QV.move rfl) rfl rfl rfl ?_
      refine JL.val (v := .int .i64 (IntKind.wrap .i64 ((32 : Int) - (minI (maxI x2 (0 : Int)) (32 : Int))))) (QV.sub rfl rfl) rfl rfl rfl ?_
      obtain ⟨h6, hm⟩ := guard_inv hm
      refine JL.val (v := .int .u32 (shrI .u32 y4 (IntKind.wrap .i64 ((32 : Int) - (minI (maxI x2 (0 : Int)) (32 : Int)))))) (QV.shr rfl rfl h6) rfl rfl rfl ?_
      refine JL.val (v := .int .i64 (minI (maxI x2 (0 : Int)) (32 : Int))) (QV.move rfl) rfl rfl rfl ?_
      obtain ⟨y7, hc8, hm⟩ := bind_inv hm
      refine JL.mv (d := some 18) (MV.call (Lo := []) (Lr := []) (F28_1.spec ((shrI .u32 y4 (IntKind.wrap .i64 ((32 : Int) - (minI (maxI x2 (0 : Int)) (32 : Int)))))) ((minI (maxI x2 (0 : Int)) (32 : Int))) _ hc8) rfl Try.func28 rfl rfl rfl [] [] rfl rfl rfl trivial) rfl rfl rfl ?_
      rintro _ _ ⟨_, ⟨rfl, rfl⟩, rfl⟩
      refine JL.nil ?_
      exact QJ.cut_normal ((), ()) hm [] trivial rfl rfl
    ·
      refine JC.condF' rfl (decide_eq_false h3) ?_
      refine JC.skip ?_
      exact QJ.cut_normal ((), ()) hm [] trivial rfl rfl

/-! ### 32: (*drogher/bits.Writer).Align -/
noncomputable def F32.m  : Option Unit :=
  some ()
set_option maxRecDepth 100000 in
set_option maxHeartbeats 4000000 in
theorem F32.spec  (r : Unit) (hm : F32.m  = some r) :
    Ctr Try.prog false 32 [.pointer none] [] (fun v L' => v = .tuple #[] ∧ L' = []) := by
  refine Ctr.intro (n := 12) (env := [(0, .pointer none)]) Try.func32 rfl rfl rfl rfl (fun c => ?_)
  unfold F32.m at hm
  refine JC.seq ?_
  refine JC.region ?_
  refine JL.val (v := .pointer none) (QV.move rfl) rfl rfl rfl ?_
  refine JL.val (v := .bool false) ((QV.eq (QV.neqP Try.underlying40 rfl rfl (.inl rfl)) (by simp))) rfl rfl rfl ?_
  refine JL.nil ?_
  refine QJ.then_normal ?_
  refine JC.condF rfl ?_
  refine JC.skip ?_
  obtain rfl := Option.some.inj hm
  exact QJ.body (vs := []) (.inr rfl) rfl ResVs.nil [] rfl rfl (.inr trivial) ⟨rfl, rfl⟩

/-! ### 35: (*drogher/bits.Writer).Raw -/
noncomputable def F35.m (x2 : List Int) : Option Unit :=
  some ()
set_option maxRecDepth 100000 in
set_option maxHeartbeats 4000000 in
theorem F35.spec (s1 : SlV) (x2 : List Int) (r : Unit) (hm : F35.m x2 = some r) :
    Ctr Try.prog false 35 [.pointer none, s1.v] [Asr.vw (Enc.int .u8) (s1.v) x2] (fun v L' => v = .tuple #[] ∧ L' = []) := by
  refine Ctr.intro (n := 17) (env := [(0, .pointer none), (1, s1.v)]) Try.func35 rfl rfl rfl rfl (fun c => ?_)
  unfold F35.m at hm
  refine JC.seq ?_
  refine JC.region ?_
  refine JL.val (v := .pointer none) (QV.move rfl) rfl rfl rfl ?_
  refine JL.val (v := .bool false) ((QV.eq (QV.neqP Try.underlying40 rfl rfl (.inl rfl)) (by simp))) rfl rfl rfl ?_
  refine JL.nil ?_
  refine QJ.then_normal ?_
  refine JC.condF rfl ?_
  refine JC.skip ?_
  obtain rfl := Option.some.inj hm
  exact QJ.body (vs := []) (.inr rfl) rfl ResVs.nil [] rfl rfl (.inr trivial) ⟨rfl, rfl⟩

/-! ### 42: (*drogher/bits.Reader).Align -/
noncomputable def F42_1.m  : Option Unit :=
  some ()
set_option maxRecDepth 100000 in
set_option maxHeartbeats 4000000 in
theorem F42_1.spec  (r : Unit) (hm : F42_1.m  = some r) :
    Ctr Try.prog false 42 [.pointer none] [] (fun v L' => v = .tuple #[] ∧ L' = []) := by
  refine Ctr.intro (n := 17) (env := [(0, .pointer none)]) Try.func42 rfl rfl rfl rfl (fun c => ?_)
  unfold F42_1.m at hm
  refine JC.seq ?_
  refine JC.region ?_
  refine JL.val (v := .pointer none) (QV.move rfl) rfl rfl rfl ?_
  refine JL.val (v := .bool false) ((QV.eq (QV.neqP Try.underlying51 rfl rfl (.inl rfl)) (by simp))) rfl rfl rfl ?_
  refine JL.nil ?_
  refine QJ.then_normal ?_
  refine JC.condF rfl ?_
  refine JC.skip ?_
  obtain rfl := Option.some.inj hm
  exact QJ.body (vs := []) (.inr rfl) rfl ResVs.nil [] rfl rfl (.inr trivial) ⟨rfl, rfl⟩

/-! ### 39: (*drogher/bits.Reader).Get -/
noncomputable def F39_1.m (x1 : Int) : Option Unit :=
  some ()
set_option maxRecDepth 100000 in
set_option maxHeartbeats 4000000 in
theorem F39_1.spec (x1 : Int) (r : Unit) (hm : F39_1.m x1 = some r) :
    Ctr Try.prog false 39 [.pointer none, .int .i64 x1] [] (fun v L' => v = .tuple #[.int .u32 (0 : Int), .int .i64 (1 : Int)] ∧ L' = []) := by
  refine Ctr.intro (n := 77) (env := [(0, .pointer none), (1, .int .i64 x1)]) Try.func39 rfl rfl rfl rfl (fun c => ?_)
  unfold F39_1.m at hm
  refine JC.seq ?_
  refine JC.region ?_
  refine JL.val (v := .int .u32 (0 : Int)) (QV.assign rfl) rfl rfl rfl ?_
  refine JL.val (v := .int .i64 (0 : Int)) (QV.assign rfl) rfl rfl rfl ?_
  refine JL.nil ?_
  refine QJ.then_normal ?_
  refine JC.seq ?_
  refine JC.block ?_
  refine JC.seq ?_
  refine JC.region ?_
  refine JL.val (v := .pointer none) (QV.move rfl) rfl rfl rfl ?_
  refine JL.val (v := .bool true) ((QV.eq (QV.eqlP Try.underlying51 rfl rfl (.inl rfl)) (by simp))) rfl rfl rfl ?_
  refine JL.val (v := .bool true) (QV.move rfl) rfl rfl rfl ?_
  refine JL.skip (d := some 15) rfl rfl rfl ?_
  refine JL.skip (d := some 16) rfl rfl rfl ?_
  refine JL.val (v := .bool true) (QV.pickT rfl rfl) rfl rfl rfl ?_
  refine JL.val (v := .bool true) (QV.move rfl) rfl rfl rfl ?_
  refine JL.skip (d := some 19) rfl rfl rfl ?_
  refine JL.skip (d := some 20) rfl rfl rfl ?_
  refine JL.val (v := .bool true) (QV.pickT rfl rfl) rfl rfl rfl ?_
  refine JL.val (v := .bool true) (QV.assign rfl) rfl rfl rfl ?_
  refine JL.nil ?_
  refine QJ.then_normal ?_
  refine JC.condT rfl ?_
  refine JC.seq ?_
  refine JC.region ?_
  refine JL.val (v := .int .u32 (0 : Int)) (QV.assign rfl) rfl rfl rfl ?_
  refine JL.val (v := .int .i64 (1 : Int)) (QV.assign rfl) rfl rfl rfl ?_
  refine JL.nil ?_
  refine QJ.then_normal ?_
  refine JC.ret ?_
  refine QJ.block_ret ?_
  refine QJ.then_ret ?_
  obtain rfl := Option.some.inj hm
  exact QJ.body (vs := [.int .u32 (0 : Int), .int .i64 (1 : Int)]) (.inl rfl) rfl (ResVs.cons (ResV.tmp rfl) (ResVs.cons (ResV.tmp rfl) ResVs.nil)) [] rfl rfl (.inr trivial) ⟨rfl, rfl⟩

/-! ### 44: (*drogher/bits.Reader).Raw -/
noncomputable def F44_1.m (x1 : Int) : Option Unit :=
  ((F42_1.m).bind fun y2 => some ())
set_option maxRecDepth 100000 in
set_option maxHeartbeats 4000000 in
theorem F44_1.spec (x1 : Int) (r : Unit) (hm : F44_1.m x1 = some r) :
    Ctr Try.prog false 44 [.pointer none, .int .i64 x1] [] (fun v L' => v = .tuple #[SlV.nil.v, .int .i64 (1 : Int)] ∧ L' = [Asr.of 5 (Enc.int .u8) (SlV.nil.v) ([] : List Int)]) := by
  refine Ctr.intro (n := 45) (env := [(0, .pointer none), (1, .int .i64 x1)]) Try.func44 rfl rfl rfl rfl (fun c => ?_)
  unfold F44_1.m at hm
  refine JC.seq ?_
  refine JC.region ?_
  refine JL.ent (fun _ hs => hs.nil 5 (Enc.int .u8)) ?_
  refine JL.val (v := SlV.nil.v) (QV.assign rfl) rfl rfl rfl ?_
  refine JL.val (v := .int .i64 (0 : Int)) (QV.assign rfl) rfl rfl rfl ?_
  refine JL.nil ?_
  refine QJ.then_normal ?_
  refine JC.seq ?_
  refine JC.region ?_
  refine JL.val (v := .pointer none) (QV.move rfl) rfl rfl rfl ?_
  obtain ⟨y2, hc3, hm⟩ := bind_inv hm
  refine JL.mv (d := some 8) (MV.call (Lo := []) (Lr := [Asr.of 5 (Enc.int .u8) (SlV.nil.v) ([] : List Int)]) (F42_1.spec _ hc3) rfl Try.func42 rfl rfl rfl [] [0] rfl rfl rfl trivial) rfl rfl rfl ?_
  rintro _ _ ⟨_, ⟨rfl, rfl⟩, rfl⟩
  refine JL.nil ?_
  refine QJ.then_normal ?_
  refine JC.seq ?_
  refine JC.block ?_
  refine JC.seq ?_
  refine JC.region ?_
  refine JL.val (v := .pointer none) (QV.move rfl) rfl rfl rfl ?_
  refine JL.val (v := .bool true) ((QV.eq (QV.eqlP Try.underlying51 rfl rfl (.inl rfl)) (by simp))) rfl rfl rfl ?_
  refine JL.val (v := .bool true) (QV.move rfl) rfl rfl rfl ?_
  refine JL.skip (d := some 13) rfl rfl rfl ?_
  refine JL.skip (d := some 14) rfl rfl rfl ?_
  refine JL.val (v := .bool true) (QV.pickT rfl rfl) rfl rfl rfl ?_
  refine JL.val (v := .bool true) (QV.assign rfl) rfl rfl rfl ?_
  refine JL.nil ?_
  refine QJ.then_normal ?_
  refine JC.condT rfl ?_
  refine JC.seq ?_
  refine JC.region ?_
  refine JL.ent (fun _ hs => hs.nil 5 (Enc.int .u8)) ?_
  refine JL.val (v := SlV.nil.v) (QV.assign rfl) rfl rfl rfl ?_
  refine JL.val (v := .int .i64 (1 : Int)) (QV.assign rfl) rfl rfl rfl ?_
  refine JL.nil ?_
  refine QJ.then_normal ?_
  refine JC.ret ?_
  refine QJ.block_ret ?_
  refine QJ.then_ret ?_
  obtain rfl := Option.some.inj hm
  exact QJ.body (vs := [SlV.nil.v, .int .i64 (1 : Int)]) (.inl rfl) rfl (ResVs.cons (ResV.tmp rfl) (ResVs.cons (ResV.tmp rfl) ResVs.nil)) [0] rfl rfl (.inr ⟨own_of _ _ _ _, trivial⟩) ⟨rfl, rfl⟩

/-! ### 36: (*drogher/bits.Writer).Len -/
noncomputable def F36_1.m  : Option Unit :=
  some ()
set_option maxRecDepth 100000 in
set_option maxHeartbeats 4000000 in
theorem F36_1.spec  (r : Unit) (hm : F36_1.m  = some r) :
    Ctr Try.prog false 36 [.pointer none] [] (fun v L' => v = .int .i64 (0 : Int) ∧ L' = []) := by
  refine Ctr.intro (n := 16) (env := [(0, .pointer none)]) Try.func36 rfl rfl rfl rfl (fun c => ?_)
  unfold F36_1.m at hm
  refine JC.seq ?_
  refine JC.region ?_
  refine JL.val (v := .int .i64 (0 : Int)) (QV.assign rfl) rfl rfl rfl ?_
  refine JL.nil ?_
  refine QJ.then_normal ?_
  refine JC.seq ?_
  refine JC.seq ?_
  refine JC.region ?_
  refine JL.val (v := .pointer none) (QV.move rfl) rfl rfl rfl ?_
  refine JL.val (v := .bool true) ((QV.eq (QV.eqlP Try.underlying40 rfl rfl (.inl rfl)) (by simp))) rfl rfl rfl ?_
  refine JL.nil ?_
  refine QJ.then_normal ?_
  refine JC.condT rfl ?_
  refine JC.seq ?_
  refine JC.region ?_
  refine JL.val (v := .int .i64 (0 : Int)) (QV.assign rfl) rfl rfl rfl ?_
  refine JL.nil ?_
  refine QJ.then_normal ?_
  refine JC.ret ?_
  refine QJ.then_ret ?_
  obtain rfl := Option.some.inj hm
  exact QJ.body (vs := [.int .i64 (0 : Int)]) (.inl rfl) rfl (ResVs.cons (ResV.tmp rfl) ResVs.nil) [] rfl rfl (.inr trivial) ⟨rfl, rfl⟩

/-! ### 37: (*drogher/bits.Writer).Bytes -/
noncomputable def F37_1.m  : Option Unit :=
  some ()
set_option maxRecDepth 100000 in
set_option maxHeartbeats 4000000 in
theorem F37_1.spec  (r : Unit) (hm : F37_1.m  = some r) :
    Ctr Try.prog false 37 [.pointer none] [] (fun v L' => v = SlV.nil.v ∧ L' = [Asr.of 5 (Enc.int .u8) (SlV.nil.v) ([] : List Int)]) := by
  refine Ctr.intro (n := 25) (env := [(0, .pointer none)]) Try.func37 rfl rfl rfl rfl (fun c => ?_)
  unfold F37_1.m at hm
  refine JC.seq ?_
  refine JC.region ?_
  refine JL.ent (fun _ hs => hs.nil 5 (Enc.int .u8)) ?_
  refine JL.val (v := SlV.nil.v) (QV.assign rfl) rfl rfl rfl ?_
  refine JL.nil ?_
  refine QJ.then_normal ?_
  refine JC.seq ?_
  refine JC.seq ?_
  refine JC.region ?_
  refine JL.val (v := .pointer none) (QV.move rfl) rfl rfl rfl ?_
  refine JL.val (v := .bool true) ((QV.eq (QV.eqlP Try.underlying40 rfl rfl (.inl rfl)) (by simp))) rfl rfl rfl ?_
  refine JL.nil ?_
  refine QJ.then_normal ?_
  refine JC.condT rfl ?_
  refine JC.seq ?_
  refine JC.region ?_
  refine JL.ent (fun _ hs => hs.nil 5 (Enc.int .u8)) ?_
  refine JL.val (v := SlV.nil.v) (QV.assign rfl) rfl rfl rfl ?_
  refine JL.nil ?_
  refine QJ.then_normal ?_
  refine JC.ret ?_
  refine QJ.then_ret ?_
  obtain rfl := Option.some.inj hm
  exact QJ.body (vs := [SlV.nil.v]) (.inl rfl) rfl (ResVs.cons (ResV.tmp rfl) ResVs.nil) [0] rfl rfl (.inr ⟨own_of _ _ _ _, trivial⟩) ⟨rfl, rfl⟩

/-! ### 41: (*drogher/bits.Reader).Left -/
noncomputable def F41_1.m  : Option Unit :=
  some ()
set_option maxRecDepth 100000 in
set_option maxHeartbeats 4000000 in
theorem F41_1.spec  (r : Unit) (hm : F41_1.m  = some r) :
    Ctr Try.prog false 41 [.pointer none] [] (fun v L' => v = .int .i64 (0 : Int) ∧ L' = []) := by
  refine Ctr.intro (n := 16) (env := [(0, .pointer none)]) Try.func41 rfl rfl rfl rfl (fun c => ?_)
  unfold F41_1.m at hm
  refine JC.seq ?_
  refine JC.region ?_
  refine JL.val (v := .int .i64 (0 : Int)) (QV.assign rfl) rfl rfl rfl ?_
  refine JL.nil ?_
  refine QJ.then_normal ?_
  refine JC.seq ?_
  refine JC.seq ?_
  refine JC.region ?_
  refine JL.val (v := .pointer none) (QV.move rfl) rfl rfl rfl ?_
  refine JL.val (v := .bool true) ((QV.eq (QV.eqlP Try.underlying51 rfl rfl (.inl rfl)) (by simp))) rfl rfl rfl ?_
  refine JL.nil ?_
  refine QJ.then_normal ?_
  refine JC.condT rfl ?_
  refine JC.seq ?_
  refine JC.region ?_
  refine JL.val (v := .int .i64 (0 : Int)) (QV.assign rfl) rfl rfl rfl ?_
  refine JL.nil ?_
  refine QJ.then_normal ?_
  refine JC.ret ?_
  refine QJ.then_ret ?_
  obtain rfl := Option.some.inj hm
  exact QJ.body (vs := [.int .i64 (0 : Int)]) (.inl rfl) rfl (ResVs.cons (ResV.tmp rfl) ResVs.nil) [] rfl rfl (.inr trivial) ⟨rfl, rfl⟩

/-! ### 46: (*drogher/bits.Reader).At -/
noncomputable def F46_1.m  : Option Unit :=
  some ()
set_option maxRecDepth 100000 in
set_option maxHeartbeats 4000000 in
theorem F46_1.spec  (r : Unit) (hm : F46_1.m  = some r) :
    Ctr Try.prog false 46 [.pointer none] [] (fun v L' => v = .int .i64 (0 : Int) ∧ L' = []) := by
  refine Ctr.intro (n := 9) (env := [(0, .pointer none)]) Try.func46 rfl rfl rfl rfl (fun c => ?_)
  unfold F46_1.m at hm
  refine JC.seq ?_
  refine JC.region ?_
  refine JL.val (v := .int .i64 (0 : Int)) (QV.assign rfl) rfl rfl rfl ?_
  refine JL.nil ?_
  refine QJ.then_normal ?_
  refine JC.seq ?_
  refine JC.seq ?_
  refine JC.region ?_
  refine JL.val (v := .pointer none) (QV.move rfl) rfl rfl rfl ?_
  refine JL.val (v := .bool true) ((QV.eq (QV.eqlP Try.underlying51 rfl rfl (.inl rfl)) (by simp))) rfl rfl rfl ?_
  refine JL.nil ?_
  refine QJ.then_normal ?_
  refine JC.condT rfl ?_
  refine JC.seq ?_
  refine JC.region ?_
  refine JL.val (v := .int .i64 (0 : Int)) (QV.assign rfl) rfl rfl rfl ?_
  refine JL.nil ?_
  refine QJ.then_normal ?_
  refine JC.ret ?_
  refine QJ.then_ret ?_
  obtain rfl := Option.some.inj hm
  exact QJ.body (vs := [.int .i64 (0 : Int)]) (.inl rfl) rfl (ResVs.cons (ResV.tmp rfl) ResVs.nil) [] rfl rfl (.inr trivial) ⟨rfl, rfl⟩

/-! ### 45: (*drogher/bits.Reader).Seek -/
noncomputable def F45_1.m (x1 : Int) : Option Unit :=
  some ()
set_option maxRecDepth 100000 in
set_option maxHeartbeats 4000000 in
theorem F45_1.spec (x1 : Int) (r : Unit) (hm : F45_1.m x1 = some r) :
    Ctr Try.prog false 45 [.pointer none, .int .i64 x1] [] (fun v L' => v = .int .i64 (1 : Int) ∧ L' = []) := by
  refine Ctr.intro (n := 25) (env := [(0, .pointer none), (1, .int .i64 x1)]) Try.func45 rfl rfl rfl rfl (fun c => ?_)
  unfold F45_1.m at hm
  refine JC.seq ?_
  refine JC.region ?_
  refine JL.val (v := .int .i64 (0 : Int)) (QV.assign rfl) rfl rfl rfl ?_
  refine JL.nil ?_
  refine QJ.then_normal ?_
  refine JC.seq ?_
  refine JC.block ?_
  refine JC.seq ?_
  refine JC.region ?_
  refine JL.val (v := .pointer none) (QV.move rfl) rfl rfl rfl ?_
  refine JL.val (v := .bool true) ((QV.eq (QV.eqlP Try.underlying51 rfl rfl (.inl rfl)) (by simp))) rfl rfl rfl ?_
  refine JL.val (v := .bool true) (QV.assign rfl) rfl rfl rfl ?_
  refine JL.nil ?_
  refine QJ.then_normal ?_
  refine JC.condT rfl ?_
  refine JC.seq ?_
  refine JC.region ?_
  refine JL.val (v := .int .i64 (1 : Int)) (QV.assign rfl) rfl rfl rfl ?_
  refine JL.nil ?_
  refine QJ.then_normal ?_
  refine JC.ret ?_
  refine QJ.block_ret ?_
  refine QJ.then_ret ?_
  obtain rfl := Option.some.inj hm
  exact QJ.body (vs := [.int .i64 (1 : Int)]) (.inl rfl) rfl (ResVs.cons (ResV.tmp rfl) ResVs.nil) [] rfl rfl (.inr trivial) ⟨rfl, rfl⟩

/-! ### 10: drogher/drogherlaw08.BitsNil -/
noncomputable def F10.m (x1 : Int) (x2 : Int) (x3 : Int) (x5 : List Int) : Option Bool :=
  (if (100 : Int) < ((x5).length : Int) then ((F26.m).bind fun y9 => some y9) else ((F28_1.m (x3) (x2)).bind fun y11 => ((F30_1.m (x3) (x2)).bind fun y13 => ((F32.m).bind fun y15 => ((F35.m (x5)).bind fun y17 => ((F42_1.m).bind fun y19 => ((F39_1.m (x2)).bind fun y21 => ((F44_1.m (x2)).bind fun y23 => ((F36_1.m).bind fun y25 => (if (0 : Int) = (0 : Int) then ((F37_1.m).bind fun y28 => (if ((([] : List Int)).length : Int) = (0 : Int) then (if (1 : Int) = (1 : Int) then (if (1 : Int) = (1 : Int) then ((F41_1.m).bind fun y33 => (if (0 : Int) = (0 : Int) then ((F46_1.m).bind fun y36 => (if (0 : Int) = (0 : Int) then ((F45_1.m (x2)).bind fun y39 => (if (1 : Int) = (1 : Int) then ((F26.m).bind fun y42 => some y42) else some false)) else some false)) else some false)) else some false) else some false) else some false)) else some false))))))))))
set_option maxRecDepth 100000 in
set_option maxHeartbeats 4000000 in
theorem F10.spec (s4 : SlV) (x1 : Int) (x2 : Int) (x3 : Int) (x5 : List Int) (r : Bool) (hm : F10.m x1 x2 x3 x5 = some r) :
    Ctr Try.prog false 10 [.agg #[.int .i64 x1, .int .i64 x2, .int .u32 x3, s4.v]] [Asr.vw (Enc.int .u8) (s4.v) x5] (fun v L' => v = .bool r ∧ L' = []) := by
  refine Ctr.intro (n := 85) (env := [(0, .agg #[.int .i64 x1, .int .i64 x2, .int .u32 x3, s4.v])]) Try.func10 rfl rfl rfl rfl (fun c => ?_)
  unfold F10.m at hm
  refine JC.seq ?_
  refine JC.region ?_
  refine JL.mv (d := some 1) (MV.box [Seg.c (.int .i64 x1), Seg.c (.int .i64 x2), Seg.c (.int .u32 x3), Seg.c (s4.v)] rfl (fun w hs => rfl)) rfl rfl rfl ?_
  rintro _ _ ⟨b7, rfl, rfl⟩
  refine JL.val (v := .bool false) (QV.assign rfl) rfl rfl rfl ?_
  refine JL.nil ?_
  refine QJ.then_normal ?_
  refine JC.seq ?_
  refine JC.seq ?_
  refine JC.region ?_
  refine JL.val (v := .pointer (some ⟨b7, 3, none⟩)) (QV.fieldB fo_44_3 rfl rfl) rfl rfl rfl ?_
  refine JL.val (v := s4.v) (QV.load1 (ss := [Seg.c (.int .i64 x1), Seg.c (.int .i64 x2), Seg.c (.int .u32 x3), Seg.c (s4.v)]) 0 3 rfl tk_26 rfl rfl rfl) rfl rfl rfl ?_
  refine JL.val (v := .int .i64 ((x5).length : Int)) (QV.len (Rdg.vw 1 rfl) Try.underlying26 rfl) rfl rfl rfl ?_
  refine JL.val (v := .bool (decide ((100 : Int) < ((x5).length : Int)))) (QV.gtr rfl rfl) rfl rfl rfl ?_
  refine JL.nil ?_
  refine QJ.then_normal ?_
  rcases ite_inv hm with ⟨h8, hm⟩ | ⟨h8, hm⟩
  ·
    refine JC.condT' rfl (decide_eq_true h8) ?_
    refine JC.seq ?_
    refine JC.region ?_
    obtain ⟨y9, hc10, hm⟩ := bind_inv hm
    refine JL.mv (d := some 13) (MV.call (Lo := []) (Lr := [Asr.blk b7 44 [Seg.c (.int .i64 x1), Seg.c (.int .i64 x2), Seg.c (.int .u32 x3), Seg.c (s4.v)], Asr.vw (Enc.int .u8) (s4.v) x5]) (F26.spec _ hc10) rfl Try.func26 rfl rfl rfl [] [0, 1] rfl rfl rfl trivial) rfl rfl rfl ?_
    rintro _ _ ⟨_, ⟨rfl, rfl⟩, rfl⟩
    refine JL.val (v := .bool y9) (QV.assign rfl) rfl rfl rfl ?_
    refine JL.nil ?_
    refine QJ.then_normal ?_
    refine JC.ret ?_
    refine QJ.then_ret ?_
    obtain rfl := Option.some.inj hm
    exact QJ.body (vs := [.bool y9]) (.inl rfl) rfl (ResVs.cons (ResV.tmp rfl) ResVs.nil) [] rfl rfl (.inr trivial) ⟨rfl, rfl⟩
  ·
    refine JC.condF' rfl (decide_eq_false h8) ?_
    refine JC.skip ?_
    refine QJ.then_normal ?_
    refine JC.seq ?_
    refine JC.region ?_
    refine JL.val (v := .pointer none) (QV.assign rfl) rfl rfl rfl ?_
    refine JL.nil ?_
    refine QJ.then_normal ?_
    refine JC.seq ?_
    refine JC.region ?_
    refine JL.val (v := .pointer none) (QV.assign rfl) rfl rfl rfl ?_
    refine JL.nil ?_
    refine QJ.then_normal ?_
    refine JC.seq ?_
    refine JC.region ?_
    refine JL.val (v := .pointer none) (QV.move rfl) rfl rfl rfl ?_
    refine JL.val (v := .pointer (some ⟨b7, 2, none⟩)) (QV.fieldB fo_44_2 rfl rfl) rfl rfl rfl ?_
    refine JL.val (v := .int .u32 x3) (QV.load1 (ss := [Seg.c (.int .i64 x1), Seg.c (.int .i64 x2), Seg.c (.int .u32 x3), Seg.c (s4.v)]) 0 2 rfl tk_42 rfl rfl rfl) rfl rfl rfl ?_
    refine JL.val (v := .pointer (some ⟨b7, 1, none⟩)) (QV.fieldB fo_44_1 rfl rfl) rfl rfl rfl ?_
    refine JL.val (v := .int .i64 x2) (QV.load1 (ss := [Seg.c (.int .i64 x1), Seg.c (.int .i64 x2), Seg.c (.int .u32 x3), Seg.c (s4.v)]) 0 1 rfl tk_3 rfl rfl rfl) rfl rfl rfl ?_
    obtain ⟨y11, hc12, hm⟩ := bind_inv hm
    refine JL.mv (d := some 19) (MV.call (Lo := []) (Lr := [Asr.blk b7 44 [Seg.c (.int .i64 x1), Seg.c (.int .i64 x2), Seg.c (.int .u32 x3), Seg.c (s4.v)], Asr.vw (Enc.int .u8) (s4.v) x5]) (F28_1.spec (x3) (x2) _ hc12) rfl Try.func28 rfl rfl rfl [] [0, 1] rfl rfl rfl trivial) rfl rfl rfl ?_
    rintro _ _ ⟨_, ⟨rfl, rfl⟩, rfl⟩
    refine JL.nil ?_
    refine QJ.then_normal ?_
    refine JC.seq ?_
    refine JC.region ?_
    refine JL.val (v := .pointer none) (QV.move rfl) rfl rfl rfl ?_
    refine JL.val (v := .pointer (some ⟨b7, 2, none⟩)) (QV.fieldB fo_44_2 rfl rfl) rfl rfl rfl ?_
    refine JL.val (v := .int .u32 x3) (QV.load1 (ss := [Seg.c (.int .i64 x1), Seg.c (.int .i64 x2), Seg.c (.int .u32 x3), Seg.c (s4.v)]) 0 2 rfl tk_42 rfl rfl rfl) rfl rfl rfl ?_
    refine JL.val (v := .pointer (some ⟨b7, 1, none⟩)) (QV.fieldB fo_44_1 rfl rfl) rfl rfl rfl ?_
    refine JL.val (v := .int .i64 x2) (QV.load1 (ss := [Seg.c (.int .i64 x1), Seg.c (.int .i64 x2), Seg.c (.int .u32 x3), Seg.c (s4.v)]) 0 1 rfl tk_3 rfl rfl rfl) rfl rfl rfl ?_
    obtain ⟨y13, hc14, hm⟩ := bind_inv hm
    refine JL.mv (d := some 25) (MV.call (Lo := []) (Lr := [Asr.blk b7 44 [Seg.c (.int .i64 x1), Seg.c (.int .i64 x2), Seg.c (.int .u32 x3), Seg.c (s4.v)], Asr.vw (Enc.int .u8) (s4.v) x5]) (F30_1.spec (x3) (x2) _ hc14) rfl Try.func30 rfl rfl rfl [] [0, 1] rfl rfl rfl trivial) rfl rfl rfl ?_
    rintro _ _ ⟨_, ⟨rfl, rfl⟩, rfl⟩
    refine JL.nil ?_
    refine QJ.then_normal ?_
    refine JC.seq ?_
    refine JC.region ?_
    refine JL.val (v := .pointer none) (QV.move rfl) rfl rfl rfl ?_
    obtain ⟨y15, hc16, hm⟩ := bind_inv hm
    refine JL.mv (d := some 27) (MV.call (Lo := []) (Lr := [Asr.blk b7 44 [Seg.c (.int .i64 x1), Seg.c (.int .i64 x2), Seg.c (.int .u32 x3), Seg.c (s4.v)], Asr.vw (Enc.int .u8) (s4.v) x5]) (F32.spec _ hc16) rfl Try.func32 rfl rfl rfl [] [0, 1] rfl rfl rfl trivial) rfl rfl rfl ?_
    rintro _ _ ⟨_, ⟨rfl, rfl⟩, rfl⟩
    refine JL.nil ?_
    refine QJ.then_normal ?_
    refine JC.seq ?_
    refine JC.region ?_
    refine JL.val (v := .pointer none) (QV.move rfl) rfl rfl rfl ?_
    refine JL.val (v := .pointer (some ⟨b7, 3, none⟩)) (QV.fieldB fo_44_3 rfl rfl) rfl rfl rfl ?_
    refine JL.val (v := s4.v) (QV.load1 (ss := [Seg.c (.int .i64 x1), Seg.c (.int .i64 x2), Seg.c (.int .u32 x3), Seg.c (s4.v)]) 0 3 rfl tk_26 rfl rfl rfl) rfl rfl rfl ?_
    obtain ⟨y17, hc18, hm⟩ := bind_inv hm
    refine JL.mv (d := some 31) (MV.call (Lo := []) (Lr := [Asr.blk b7 44 [Seg.c (.int .i64 x1), Seg.c (.int .i64 x2), Seg.c (.int .u32 x3), Seg.c (s4.v)], Asr.vw (Enc.int .u8) (s4.v) x5]) (F35.spec (s4) (x5) _ hc18) rfl Try.func35 rfl rfl rfl [] [0, 1] rfl rfl rfl ⟨(Drv.vw 1 rfl), trivial⟩) rfl rfl rfl ?_
    rintro _ _ ⟨_, ⟨rfl, rfl⟩, rfl⟩
    refine JL.nil ?_
    refine QJ.then_normal ?_
    refine JC.seq ?_
    refine JC.region ?_
    refine JL.val (v := .pointer none) (QV.move rfl) rfl rfl rfl ?_
    obtain ⟨y19, hc20, hm⟩ := bind_inv hm
    refine JL.mv (d := some 33) (MV.call (Lo := []) (Lr := [Asr.blk b7 44 [Seg.c (.int .i64 x1), Seg.c (.int .i64 x2), Seg.c (.int .u32 x3), Seg.c (s4.v)], Asr.vw (Enc.int .u8) (s4.v) x5]) (F42_1.spec _ hc20) rfl Try.func42 rfl rfl rfl [] [0, 1] rfl rfl rfl trivial) rfl rfl rfl ?_
    rintro _ _ ⟨_, ⟨rfl, rfl⟩, rfl⟩
    refine JL.nil ?_
    refine QJ.then_normal ?_
    refine JC.seq ?_
    refine JC.region ?_
    refine JL.val (v := .pointer none) (QV.move rfl) rfl rfl rfl ?_
    refine JL.val (v := .pointer (some ⟨b7, 1, none⟩)) (QV.fieldB fo_44_1 rfl rfl) rfl rfl rfl ?_
    refine JL.val (v := .int .i64 x2) (QV.load1 (ss := [Seg.c (.int .i64 x1), Seg.c (.int .i64 x2), Seg.c (.int .u32 x3), Seg.c (s4.v)]) 0 1 rfl tk_3 rfl rfl rfl) rfl rfl rfl ?_
    obtain ⟨y21, hc22, hm⟩ := bind_inv hm
    refine JL.mv (d := some 38) (MV.call (Lo := []) (Lr := [Asr.blk b7 44 [Seg.c (.int .i64 x1), Seg.c (.int .i64 x2), Seg.c (.int .u32 x3), Seg.c (s4.v)], Asr.vw (Enc.int .u8) (s4.v) x5]) (F39_1.spec (x2) _ hc22) rfl Try.func39 rfl rfl rfl [] [0, 1] rfl rfl rfl trivial) rfl rfl rfl ?_
    rintro _ _ ⟨_, ⟨rfl, rfl⟩, rfl⟩
    refine JL.val (v := .tuple #[.int .u32 (0 : Int), .int .i64 (1 : Int)]) (QV.move rfl) rfl rfl rfl ?_
    refine JL.val (v := .int .u32 (0 : Int)) (QV.extract (vs := [.int .u32 (0 : Int), .int .i64 (1 : Int)]) rfl rfl) rfl rfl rfl ?_
    refine JL.val (v := .int .i64 (1 : Int)) (QV.extract (vs := [.int .u32 (0 : Int), .int .i64 (1 : Int)]) rfl rfl) rfl rfl rfl ?_
    refine JL.val (v := .int .u32 (0 : Int)) (QV.assign rfl) rfl rfl rfl ?_
    refine JL.val (v := .int .i64 (1 : Int)) (QV.assign rfl) rfl rfl rfl ?_
    refine JL.nil ?_
    refine QJ.then_normal ?_
    refine JC.seq ?_
    refine JC.region ?_
    refine JL.val (v := .pointer none) (QV.move rfl) rfl rfl rfl ?_
    refine JL.val (v := .pointer (some ⟨b7, 1, none⟩)) (QV.fieldB fo_44_1 rfl rfl) rfl rfl rfl ?_
    refine JL.val (v := .int .i64 x2) (QV.load1 (ss := [Seg.c (.int .i64 x1), Seg.c (.int .i64 x2), Seg.c (.int .u32 x3), Seg.c (s4.v)]) 0 1 rfl tk_3 rfl rfl rfl) rfl rfl rfl ?_
    obtain ⟨y23, hc24, hm⟩ := bind_inv hm
    refine JL.mv (d := some 45) (MV.call (Lo := []) (Lr := [Asr.blk b7 44 [Seg.c (.int .i64 x1), Seg.c (.int .i64 x2), Seg.c (.int .u32 x3), Seg.c (s4.v)], Asr.vw (Enc.int .u8) (s4.v) x5]) (F44_1.spec (x2) _ hc24) rfl Try.func44 rfl rfl rfl [] [0, 1] rfl rfl rfl trivial) rfl rfl rfl ?_
    rintro _ _ ⟨_, ⟨rfl, rfl⟩, rfl⟩
    refine JL.val (v := .tuple #[SlV.nil.v, .int .i64 (1 : Int)]) (QV.move rfl) rfl rfl rfl ?_
    refine JL.val (v := SlV.nil.v) (QV.extract (vs := [SlV.nil.v, .int .i64 (1 : Int)]) rfl rfl) rfl rfl rfl ?_
    refine JL.val (v := .int .i64 (1 : Int)) (QV.extract (vs := [SlV.nil.v, .int .i64 (1 : Int)]) rfl rfl) rfl rfl rfl ?_
    refine JL.val (v := SlV.nil.v) (QV.assign rfl) rfl rfl rfl ?_
    refine JL.val (v := .int .i64 (1 : Int)) (QV.assign rfl) rfl rfl rfl ?_
    refine JL.nil ?_
    refine QJ.then_normal ?_
    refine JC.seq ?_
    refine JC.region ?_
    refine JL.val (v := .pointer none) (QV.move rfl) rfl rfl rfl ?_
    obtain ⟨y25, hc26, hm⟩ := bind_inv hm
    refine JL.mv (d := some 49) (MV.call (Lo := []) (Lr := [Asr.of 5 (Enc.int .u8) (SlV.nil.v) ([] : List Int), Asr.blk b7 44 [Seg.c (.int .i64 x1), Seg.c (.int .i64 x2), Seg.c (.int .u32 x3), Seg.c (s4.v)], Asr.vw (Enc.int .u8) (s4.v) x5]) (F36_1.spec _ hc26) rfl Try.func36 rfl rfl rfl [] [0, 1, 2] rfl rfl rfl trivial) rfl rfl rfl ?_
    rintro _ _ ⟨_, ⟨rfl, rfl⟩, rfl⟩
    refine JL.val (v := .bool (decide ((0 : Int) = (0 : Int)))) (QV.eql rfl rfl) rfl rfl rfl ?_
    rcases ite_inv hm with ⟨h27, hm⟩ | ⟨h27, hm⟩
    ·
      refine JL.val (v := .bool true) (QV.eq (QV.move rfl) (congrArg Value.bool (decide_eq_true h27))) rfl rfl rfl ?_
      refine JL.val (v := .pointer none) (QV.move rfl) rfl rfl rfl ?_
      obtain ⟨y28, hc29, hm⟩ := bind_inv hm
      refine JL.mv (d := some 53) (MV.call (Lo := []) (Lr := [Asr.of 5 (Enc.int .u8) (SlV.nil.v) ([] : List Int), Asr.blk b7 44 [Seg.c (.int .i64 x1), Seg.c (.int .i64 x2), Seg.c (.int .u32 x3), Seg.c (s4.v)], Asr.vw (Enc.int .u8) (s4.v) x5]) (F37_1.spec _ hc29) rfl Try.func37 rfl rfl rfl [] [0, 1, 2] rfl rfl rfl trivial) rfl rfl rfl ?_
      rintro _ _ ⟨_, ⟨rfl, rfl⟩, rfl⟩
      refine JL.val (v := .int .i64 ((([] : List Int)).length : Int)) (QV.len (Rdg.of 0 rfl) Try.underlying26 rfl) rfl rfl rfl ?_
      refine JL.val (v := .bool (decide (((([] : List Int)).length : Int) = (0 : Int)))) (QV.eql rfl rfl) rfl rfl rfl ?_
      refine JL.val (v := .bool (decide (((([] : List Int)).length : Int) = (0 : Int)))) (QV.pickT rfl rfl) rfl rfl rfl ?_
      rcases ite_inv hm with ⟨h30, hm⟩ | ⟨h30, hm⟩
      ·
        refine JL.val (v := .bool true) (QV.eq (QV.move rfl) (congrArg Value.bool (decide_eq_true h30))) rfl rfl rfl ?_
        refine JL.val (v := .int .i64 (1 : Int)) (QV.move rfl) rfl rfl rfl ?_
        refine JL.val (v := .bool (decide ((1 : Int) = (1 : Int)))) (QV.eql rfl rfl) rfl rfl rfl ?_
        refine JL.val (v := .bool (decide ((1 : Int) = (1 : Int)))) (QV.pickT rfl rfl) rfl rfl rfl ?_
        rcases ite_inv hm with ⟨h31, hm⟩ | ⟨h31, hm⟩
        ·
          refine JL.val (v := .bool true) (QV.eq (QV.move rfl) (congrArg Value.bool (decide_eq_true h31))) rfl rfl rfl ?_
          refine JL.val (v := .int .i64 (1 : Int)) (QV.move rfl) rfl rfl rfl ?_
          refine JL.val (v := .bool (decide ((1 : Int) = (1 : Int)))) (QV.eql rfl rfl) rfl rfl rfl ?_
          refine JL.val (v := .bool (decide ((1 : Int) = (1 : Int)))) (QV.pickT rfl rfl) rfl rfl rfl ?_
          rcases ite_inv hm with ⟨h32, hm⟩ | ⟨h32, hm⟩
          ·
            refine JL.val (v := .bool true) (QV.eq (QV.move rfl) (congrArg Value.bool (decide_eq_true h32))) rfl rfl rfl ?_
            refine JL.val (v := .pointer none) (QV.move rfl) rfl rfl rfl ?_
            obtain ⟨y33, hc34, hm⟩ := bind_inv hm
            refine JL.mv (d := some 67) (MV.call (Lo := []) (Lr := [Asr.of 5 (Enc.int .u8) (SlV.nil.v) ([] : List Int), Asr.of 5 (Enc.int .u8) (SlV.nil.v) ([] : List Int), Asr.blk b7 44 [Seg.c (.int .i64 x1), Seg.c (.int .i64 x2), Seg.c (.int .u32 x3), Seg.c (s4.v)], Asr.vw (Enc.int .u8) (s4.v) x5]) (F41_1.spec _ hc34) rfl Try.func41 rfl rfl rfl [] [0, 1, 2, 3] rfl rfl rfl trivial) rfl rfl rfl ?_
            rintro _ _ ⟨_, ⟨rfl, rfl⟩, rfl⟩
            refine JL.val (v := .bool (decide ((0 : Int) = (0 : Int)))) (QV.eql rfl rfl) rfl rfl rfl ?_
            refine JL.val (v := .bool (decide ((0 : Int) = (0 : Int)))) (QV.pickT rfl rfl) rfl rfl rfl ?_
            rcases ite_inv hm with ⟨h35, hm⟩ | ⟨h35, hm⟩
            ·
              refine JL.val (v := .bool true) (QV.eq (QV.move rfl) (congrArg Value.bool (decide_eq_true h35))) rfl rfl rfl ?_
              refine JL.val (v := .pointer none) (QV.move rfl) rfl rfl rfl ?_
              obtain ⟨y36, hc37, hm⟩ := bind_inv hm
              refine JL.mv (d := some 72) (MV.call (Lo := []) (Lr := [Asr.of 5 (Enc.int .u8) (SlV.nil.v) ([] : List Int), Asr.of 5 (Enc.int .u8) (SlV.nil.v) ([] : List Int), Asr.blk b7 44 [Seg.c (.int .i64 x1), Seg.c (.int .i64 x2), Seg.c (.int .u32 x3), Seg.c (s4.v)], Asr.vw (Enc.int .u8) (s4.v) x5]) (F46_1.spec _ hc37) rfl Try.func46 rfl rfl rfl [] [0, 1, 2, 3] rfl rfl rfl trivial) rfl rfl rfl ?_
              rintro _ _ ⟨_, ⟨rfl, rfl⟩, rfl⟩
              refine JL.val (v := .bool (decide ((0 : Int) = (0 : Int)))) (QV.eql rfl rfl) rfl rfl rfl ?_
              refine JL.val (v := .bool (decide ((0 : Int) = (0 : Int)))) (QV.pickT rfl rfl) rfl rfl rfl ?_
              rcases ite_inv hm with ⟨h38, hm⟩ | ⟨h38, hm⟩
              ·
                refine JL.val (v := .bool true) (QV.eq (QV.move rfl) (congrArg Value.bool (decide_eq_true h38))) rfl rfl rfl ?_
                refine JL.val (v := .pointer none) (QV.move rfl) rfl rfl rfl ?_
                refine JL.val (v := .pointer (some ⟨b7, 1, none⟩)) (QV.fieldB fo_44_1 rfl rfl) rfl rfl rfl ?_
                refine JL.val (v := .int .i64 x2) (QV.load1 (ss := [Seg.c (.int .i64 x1), Seg.c (.int .i64 x2), Seg.c (.int .u32 x3), Seg.c (s4.v)]) 2 1 rfl tk_3 rfl rfl rfl) rfl rfl rfl ?_
                obtain ⟨y39, hc40, hm⟩ := bind_inv hm
                refine JL.mv (d := some 79) (MV.call (Lo := []) (Lr := [Asr.of 5 (Enc.int .u8) (SlV.nil.v) ([] : List Int), Asr.of 5 (Enc.int .u8) (SlV.nil.v) ([] : List Int), Asr.blk b7 44 [Seg.c (.int .i64 x1), Seg.c (.int .i64 x2), Seg.c (.int .u32 x3), Seg.c (s4.v)], Asr.vw (Enc.int .u8) (s4.v) x5]) (F45_1.spec (x2) _ hc40) rfl Try.func45 rfl rfl rfl [] [0, 1, 2, 3] rfl rfl rfl trivial) rfl rfl rfl ?_
                rintro _ _ ⟨_, ⟨rfl, rfl⟩, rfl⟩
                refine JL.val (v := .bool (decide ((1 : Int) = (1 : Int)))) (QV.eql rfl rfl) rfl rfl rfl ?_
                refine JL.val (v := .bool (decide ((1 : Int) = (1 : Int)))) (QV.pickT rfl rfl) rfl rfl rfl ?_
                rcases ite_inv hm with ⟨h41, hm⟩ | ⟨h41, hm⟩
                ·
                  refine JL.val (v := .bool true) (QV.eq (QV.move rfl) (congrArg Value.bool (decide_eq_true h41))) rfl rfl rfl ?_
                  obtain ⟨y42, hc43, hm⟩ := bind_inv hm
                  refine JL.mv (d := some 83) (MV.call (Lo := []) (Lr := [Asr.of 5 (Enc.int .u8) (SlV.nil.v) ([] : List Int), Asr.of 5 (Enc.int .u8) (SlV.nil.v) ([] : List Int), Asr.blk b7 44 [Seg.c (.int .i64 x1), Seg.c (.int .i64 x2), Seg.c (.int .u32 x3), Seg.c (s4.v)], Asr.vw (Enc.int .u8) (s4.v) x5]) (F26.spec _ hc43) rfl Try.func26 rfl rfl rfl [] [0, 1, 2, 3] rfl rfl rfl trivial) rfl rfl rfl ?_
                  rintro _ _ ⟨_, ⟨rfl, rfl⟩, rfl⟩
                  refine JL.val (v := .bool y42) (QV.pickT rfl rfl) rfl rfl rfl ?_
                  refine JL.val (v := .bool y42) (QV.assign rfl) rfl rfl rfl ?_
                  refine JL.nil ?_
                  refine QJ.then_normal ?_
                  refine JC.ret ?_
                  obtain rfl := Option.some.inj hm
                  exact QJ.body (vs := [.bool y42]) (.inl rfl) rfl (ResVs.cons (ResV.tmp rfl) ResVs.nil) [] rfl rfl (.inr trivial) ⟨rfl, rfl⟩
                ·
                  refine JL.val (v := .bool false) (QV.eq (QV.move rfl) (congrArg Value.bool (decide_eq_false h41))) rfl rfl rfl ?_
                  refine JL.skip (d := some 83) rfl rfl rfl ?_
                  refine JL.val (v := .bool false) (QV.pickF rfl rfl) rfl rfl rfl ?_
                  refine JL.val (v := .bool false) (QV.assign rfl) rfl rfl rfl ?_
                  refine JL.nil ?_
                  refine QJ.then_normal ?_
                  refine JC.ret ?_
                  obtain rfl := Option.some.inj hm
                  exact QJ.body (vs := [.bool false]) (.inl rfl) rfl (ResVs.cons (ResV.tmp rfl) ResVs.nil) [] rfl rfl (.inr trivial) ⟨rfl, rfl⟩
              ·
                refine JL.val (v := .bool false) (QV.eq (QV.move rfl) (congrArg Value.bool (decide_eq_false h38))) rfl rfl rfl ?_
                refine JL.skip (d := some 76) rfl rfl rfl ?_
                refine JL.skip (d := some 77) rfl rfl rfl ?_
                refine JL.skip (d := some 78) rfl rfl rfl ?_
                refine JL.skip (d := some 79) rfl rfl rfl ?_
                refine JL.skip (d := some 80) rfl rfl rfl ?_
                refine JL.val (v := .bool false) (QV.pickF rfl rfl) rfl rfl rfl ?_
                refine JL.val (v := .bool false) (QV.move rfl) rfl rfl rfl ?_
                refine JL.skip (d := some 83) rfl rfl rfl ?_
                refine JL.val (v := .bool false) (QV.pickF rfl rfl) rfl rfl rfl ?_
                refine JL.val (v := .bool false) (QV.assign rfl) rfl rfl rfl ?_
                refine JL.nil ?_
                refine QJ.then_normal ?_
                refine JC.ret ?_
                obtain rfl := Option.some.inj hm
                exact QJ.body (vs := [.bool false]) (.inl rfl) rfl (ResVs.cons (ResV.tmp rfl) ResVs.nil) [] rfl rfl (.inr trivial) ⟨rfl, rfl⟩
            ·
              refine JL.val (v := .bool false) (QV.eq (QV.move rfl) (congrArg Value.bool (decide_eq_false h35))) rfl rfl rfl ?_
              refine JL.skip (d := some 71) rfl rfl rfl ?_
              refine JL.skip (d := some 72) rfl rfl rfl ?_
              refine JL.skip (d := some 73) rfl rfl rfl ?_
              refine JL.val (v := .bool false) (QV.pickF rfl rfl) rfl rfl rfl ?_
              refine JL.val (v := .bool false) (QV.move rfl) rfl rfl rfl ?_
              refine JL.skip (d := some 76) rfl rfl rfl ?_
              refine JL.skip (d := some 77) rfl rfl rfl ?_
              refine JL.skip (d := some 78) rfl rfl rfl ?_
              refine JL.skip (d := some 79) rfl rfl rfl ?_
              refine JL.skip (d := some 80) rfl rfl rfl ?_
              refine JL.val (v := .bool false) (QV.pickF rfl rfl) rfl rfl rfl ?_
              refine JL.val (v := .bool false) (QV.move rfl) rfl rfl rfl ?_
              refine JL.skip (d := some 83) rfl rfl rfl ?_
              refine JL.val (v := .bool false) (QV.pickF rfl rfl) rfl rfl rfl ?_
              refine JL.val (v := .bool false) (QV.assign rfl) rfl rfl rfl ?_
              refine JL.nil ?_
              refine QJ.then_normal ?_
              refine JC.ret ?_
              obtain rfl := Option.some.inj hm
              exact QJ.body (vs := [.bool false]) (.inl rfl) rfl (ResVs.cons (ResV.tmp rfl) ResVs.nil) [] rfl rfl (.inr trivial) ⟨rfl, rfl⟩
          ·
            refine JL.val (v := .bool false) (QV.eq (QV.move rfl) (congrArg Value.bool (decide_eq_false h32))) rfl rfl rfl ?_
            refine JL.skip (d := some 66) rfl rfl rfl ?_
            refine JL.skip (d := some 67) rfl rfl rfl ?_
            refine JL.skip (d := some 68) rfl rfl rfl ?_
            refine JL.val (v := .bool false) (QV.pickF rfl rfl) rfl rfl rfl ?_
            refine JL.val (v := .bool false) (QV.move rfl) rfl rfl rfl ?_
            refine JL.skip (d := some 71) rfl rfl rfl ?_
            refine JL.skip (d := some 72) rfl rfl rfl ?_
            refine JL.skip (d := some 73) rfl rfl rfl ?_
            refine JL.val (v := .bool false) (QV.pickF rfl rfl) rfl rfl rfl ?_
            refine JL.val (v := .bool false) (QV.move rfl) rfl rfl rfl ?_
            refine JL.skip (d := some 76) rfl rfl rfl ?_
            refine JL.skip (d := some 77) rfl rfl rfl ?_
            refine JL.skip (d := some 78) rfl rfl rfl ?_
            refine JL.skip (d := some 79) rfl rfl rfl ?_
            refine JL.skip (d := some 80) rfl rfl rfl ?_
            refine JL.val (v := .bool false) (QV.pickF rfl rfl) rfl rfl rfl ?_
            refine JL.val (v := .bool false) (QV.move rfl) rfl rfl rfl ?_
            refine JL.skip (d := some 83) rfl rfl rfl ?_
            refine JL.val (v := .bool false) (QV.pickF rfl rfl) rfl rfl rfl ?_
            refine JL.val (v := .bool false) (QV.assign rfl) rfl rfl rfl ?_
            refine JL.nil ?_
            refine QJ.then_normal ?_
            refine JC.ret ?_
            obtain rfl := Option.some.inj hm
            exact QJ.body (vs := [.bool false]) (.inl rfl) rfl (ResVs.cons (ResV.tmp rfl) ResVs.nil) [] rfl rfl (.inr trivial) ⟨rfl, rfl⟩
        ·
          refine JL.val (v := .bool false) (QV.eq (QV.move rfl) (congrArg Value.bool (decide_eq_false h31))) rfl rfl rfl ?_
          refine JL.skip (d := some 62) rfl rfl rfl ?_
          refine JL.skip (d := some 63) rfl rfl rfl ?_
          refine JL.val (v := .bool false) (QV.pickF rfl rfl) rfl rfl rfl ?_
          refine JL.val (v := .bool false) (QV.move rfl) rfl rfl rfl ?_
          refine JL.skip (d := some 66) rfl rfl rfl ?_
          refine JL.skip (d := some 67) rfl rfl rfl ?_
          refine JL.skip (d := some 68) rfl rfl rfl ?_
          refine JL.val (v := .bool false) (QV.pickF rfl rfl) rfl rfl rfl ?_
          refine JL.val (v := .bool false) (QV.move rfl) rfl rfl rfl ?_
          refine JL.skip (d := some 71) rfl rfl rfl ?_
          refine JL.skip (d := some 72) rfl rfl rfl ?_
          refine JL.skip (d := some 73) rfl rfl rfl ?_
          refine JL.val (v := .bool false) (QV.pickF rfl rfl) rfl rfl rfl ?_
          refine JL.val (v := .bool false) (QV.move rfl) rfl rfl rfl ?_
          refine JL.skip (d := some 76) rfl rfl rfl ?_
          refine JL.skip (d := some 77) rfl rfl rfl ?_
          refine JL.skip (d := some 78) rfl rfl rfl ?_
          refine JL.skip (d := some 79) rfl rfl rfl ?_
          refine JL.skip (d := some 80) rfl rfl rfl ?_
          refine JL.val (v := .bool false) (QV.pickF rfl rfl) rfl rfl rfl ?_
          refine JL.val (v := .bool false) (QV.move rfl) rfl rfl rfl ?_
          refine JL.skip (d := some 83) rfl rfl rfl ?_
          refine JL.val (v := .bool false) (QV.pickF rfl rfl) rfl rfl rfl ?_
          refine JL.val (v := .bool false) (QV.assign rfl) rfl rfl rfl ?_
          refine JL.nil ?_
          refine QJ.then_normal ?_
          refine JC.ret ?_
          obtain rfl := Option.some.inj hm
          exact QJ.body (vs := [.bool false]) (.inl rfl) rfl (ResVs.cons (ResV.tmp rfl) ResVs.nil) [] rfl rfl (.inr trivial) ⟨rfl, rfl⟩
      ·
        refine JL.val (v := .bool false) (QV.eq (QV.move rfl) (congrArg Value.bool (decide_eq_false h30))) rfl rfl rfl ?_
        refine JL.skip (d := some 58) rfl rfl rfl ?_
        refine JL.skip (d := some 59) rfl rfl rfl ?_
        refine JL.val (v := .bool false) (QV.pickF rfl rfl) rfl rfl rfl ?_
        refine JL.val (v := .bool false) (QV.move rfl) rfl rfl rfl ?_
        refine JL.skip (d := some 62) rfl rfl rfl ?_
        refine JL.skip (d := some 63) rfl rfl rfl ?_
        refine JL.val (v := .bool false) (QV.pickF rfl rfl) rfl rfl rfl ?_
        refine JL.val (v := .bool false) (QV.move rfl) rfl rfl rfl ?_
        refine JL.skip (d := some 66) rfl rfl rfl ?_
        refine JL.skip (d := some 67) rfl rfl rfl ?_
        refine JL.skip (d := some 68) rfl rfl rfl ?_
        refine JL.val (v := .bool false) (QV.pickF rfl rfl) rfl rfl rfl ?_
        refine JL.val (v := .bool false) (QV.move rfl) rfl rfl rfl ?_
        refine JL.skip (d := some 71) rfl rfl rfl ?_
        refine JL.skip (d := some 72) rfl rfl rfl ?_
        refine JL.skip (d := some 73) rfl rfl rfl ?_
        refine JL.val (v := .bool false) (QV.pickF rfl rfl) rfl rfl rfl ?_
        refine JL.val (v := .bool false) (QV.move rfl) rfl rfl rfl ?_
        refine JL.skip (d := some 76) rfl rfl rfl ?_
        refine JL.skip (d := some 77) rfl rfl rfl ?_
        refine JL.skip (d := some 78) rfl rfl rfl ?_
        refine JL.skip (d := some 79) rfl rfl rfl ?_
        refine JL.skip (d := some 80) rfl rfl rfl ?_
        refine JL.val (v := .bool false) (QV.pickF rfl rfl) rfl rfl rfl ?_
        refine JL.val (v := .bool false) (QV.move rfl) rfl rfl rfl ?_
        refine JL.skip (d := some 83) rfl rfl rfl ?_
        refine JL.val (v := .bool false) (QV.pickF rfl rfl) rfl rfl rfl ?_
        refine JL.val (v := .bool false) (QV.assign rfl) rfl rfl rfl ?_
        refine JL.nil ?_
        refine QJ.then_normal ?_
        refine JC.ret ?_
        obtain rfl := Option.some.inj hm
        exact QJ.body (vs := [.bool false]) (.inl rfl) rfl (ResVs.cons (ResV.tmp rfl) ResVs.nil) [] rfl rfl (.inr trivial) ⟨rfl, rfl⟩
    ·
      refine JL.val (v := .bool false) (QV.eq (QV.move rfl) (congrArg Value.bool (decide_eq_false h27))) rfl rfl rfl ?_
      refine JL.skip (d := some 52) rfl rfl rfl ?_
      refine JL.skip (d := some 53) rfl rfl rfl ?_
      refine JL.skip (d := some 54) rfl rfl rfl ?_
      refine JL.skip (d := some 55) rfl rfl rfl ?_
      refine JL.val (v := .bool false) (QV.pickF rfl rfl) rfl rfl rfl ?_
      refine JL.val (v := .bool false) (QV.move rfl) rfl rfl rfl ?_
      refine JL.skip (d := some 58) rfl rfl rfl ?_
      refine JL.skip (d := some 59) rfl rfl rfl ?_
      refine JL.val (v := .bool false) (QV.pickF rfl rfl) rfl rfl rfl ?_
      refine JL.val (v := .bool false) (QV.move rfl) rfl rfl rfl ?_
      refine JL.skip (d := some 62) rfl rfl rfl ?_
      refine JL.skip (d := some 63) rfl rfl rfl ?_
      refine JL.val (v := .bool false) (QV.pickF rfl rfl) rfl rfl rfl ?_
      refine JL.val (v := .bool false) (QV.move rfl) rfl rfl rfl ?_
      refine JL.skip (d := some 66) rfl rfl rfl ?_
      refine JL.skip (d := some 67) rfl rfl rfl ?_
      refine JL.skip (d := some 68) rfl rfl rfl ?_
      refine JL.val (v := .bool false) (QV.pickF rfl rfl) rfl rfl rfl ?_
      refine JL.val (v := .bool false) (QV.move rfl) rfl rfl rfl ?_
      refine JL.skip (d := some 71) rfl rfl rfl ?_
      refine JL.skip (d := some 72) rfl rfl rfl ?_
      refine JL.skip (d := some 73) rfl rfl rfl ?_
      refine JL.val (v := .bool false) (QV.pickF rfl rfl) rfl rfl rfl ?_
      refine JL.val (v := .bool false) (QV.move rfl) rfl rfl rfl ?_
      refine JL.skip (d := some 76) rfl rfl rfl ?_
      refine JL.skip (d := some 77) rfl rfl rfl ?_
      refine JL.skip (d := some 78) rfl rfl rfl ?_
      refine JL.skip (d := some 79) rfl rfl rfl ?_
      refine JL.skip (d := some 80) rfl rfl rfl ?_
      refine JL.val (v := .bool false) (QV.pickF rfl rfl) rfl rfl rfl ?_
      refine JL.val (v := .bool false) (QV.move rfl) rfl rfl rfl ?_
      refine JL.skip (d := some 83) rfl rfl rfl ?_
      refine JL.val (v := .bool false) (QV.pickF rfl rfl) rfl rfl rfl ?_
      refine JL.val (v := .bool false) (QV.assign rfl) rfl rfl rfl ?_
      refine JL.nil ?_
      refine QJ.then_normal ?_
      refine JC.ret ?_
      obtain rfl := Option.some.inj hm
      exact QJ.body (vs := [.bool false]) (.inl rfl) rfl (ResVs.cons (ResV.tmp rfl) ResVs.nil) [] rfl rfl (.inr trivial) ⟨rfl, rfl⟩

end Go.Proofs.Ytpophpendlnehaa
