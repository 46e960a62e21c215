/- Written by gen.py: functions and their contracts. -/
import Derived.Test.YtpophpendlnehaaScrFacts
namespace Go.Proofs.Ytpophpendlnehaa
open Go Go.Eng Go.Proofs
set_option linter.unusedVariables false
set_option linter.unusedSimpArgs false
/-! ### 71: (*strings.Builder).copyCheck -/
noncomputable def F71.m (x3 : List Int) : Option Unit :=
  some ()
set_option maxRecDepth 100000 in
set_option maxHeartbeats 4000000 in
theorem F71.spec (b1 : Nat) (s2 : SlV) (x3 : List Int) (r : Unit) (hm : F71.m x3 = some r) :
    Ctr Try.prog false 71 [.pointer (some ⟨b1, 0, none⟩)] [Asr.blk b1 86 [Seg.c (.pointer none), Seg.c (s2.v)], Asr.of 5 (Enc.int .u8) (s2.v) x3] (fun v L' => v = .tuple #[] ∧ L' = [Asr.of 5 (Enc.int .u8) (s2.v) x3, Asr.blk b1 86 [Seg.c (.pointer (some ⟨b1, 0, none⟩)), Seg.c (s2.v)]]) := by
  refine Ctr.intro (n := 20) (env := [(0, .pointer (some ⟨b1, 0, none⟩))]) Try.func71 rfl rfl rfl rfl (fun c => ?_)
  unfold F71.m at hm
  refine JC.seq ?_
  refine JC.region ?_
  refine JL.val (v := .pointer (some ⟨b1, 0, none⟩)) (QV.move rfl) rfl rfl rfl ?_
  refine JL.val (v := .pointer (some ⟨b1, 0, none⟩)) (QV.nilCheck rfl) rfl rfl rfl ?_
  refine JL.val (v := .pointer (some ⟨b1, 0, none⟩)) (QV.fieldB fo_86_0 rfl rfl) rfl rfl rfl ?_
  refine JL.val (v := .pointer none) (QV.load1 (ss := [Seg.c (.pointer none), Seg.c (s2.v)]) 0 0 rfl tk_84 rfl rfl rfl) rfl rfl rfl ?_
  refine JL.val (v := .bool true) ((QV.eq (QV.eqlP Try.underlying84 rfl rfl (.inl rfl)) (by simp))) rfl rfl rfl ?_
  refine JL.nil ?_
  refine QJ.then_normal ?_
  refine JC.condT rfl ?_
  refine JC.region ?_
  refine JL.val (v := .pointer (some ⟨b1, 0, none⟩)) (QV.move rfl) rfl rfl rfl ?_
  refine JL.val (v := .pointer (some ⟨b1, 0, none⟩)) (QV.move rfl) rfl rfl rfl ?_
  refine JL.val (v := .pointer (some ⟨b1, 0, none⟩)) (QV.toUns (ss := [Seg.c (.pointer none), Seg.c (s2.v)]) (k := 1) 0 rfl rfl Try.underlying84 Try.underlying111 nz_86 rfl) rfl rfl rfl ?_
  refine JL.val (v := .pointer (some ⟨b1, 0, none⟩)) (QV.ext (vals := [.pointer (some ⟨b1, 0, none⟩)]) rfl Try.func74 rfl rfl xn_74 xf_74 rfl ext_same) rfl rfl rfl ?_
  refine JL.val (v := .pointer (some ⟨b1, 0, none⟩)) (QV.fromUns (ss := [Seg.c (.pointer none), Seg.c (s2.v)]) (k := 2) 0 rfl rfl Try.underlying111 Try.underlying84 is_86 ls_86_2_86 rfl) rfl rfl rfl ?_
  refine JL.val (v := .pointer (some ⟨b1, 0, none⟩)) (QV.nilCheck rfl) rfl rfl rfl ?_
  refine JL.val (v := .pointer (some ⟨b1, 0, none⟩)) (QV.fieldB fo_86_0 rfl rfl) rfl rfl rfl ?_
  refine JL.mv (d := none) (MV.store (ss := [Seg.c (.pointer none), Seg.c (s2.v)]) 0 0 1 [Seg.c (.pointer (some ⟨b1, 0, none⟩))] rfl tk_84 rfl rfl rfl rfl (fun w hs => ⟨rfl, one_c rfl, trivial⟩)) rfl rfl rfl ?_
  rintro _ _ ⟨rfl, rfl⟩
  refine JL.nil ?_
  obtain rfl := Option.some.inj hm
  exact QJ.body (vs := []) (.inr rfl) rfl ResVs.nil [1, 0] rfl rfl (.inr ⟨own_of _ _ _ _, own_blk _ _ _, trivial⟩) ⟨rfl, rfl⟩

/-! ### 58: (*strings.Builder).WriteByte -/
noncomputable def F58.m (x3 : List Int) (x4 : Int) : Option (List Int) :=
  ((F71.m (x3)).bind fun y7 => (if ((x3).length + ([x4]).length) * 1 ≤ 140737488355328 ∧ (x3).length + ([x4]).length ≤ 9223372036854775807 then some (x3 ++ [x4]) else none))
set_option maxRecDepth 100000 in
set_option maxHeartbeats 4000000 in
theorem F58.spec (b1 : Nat) (s2 : SlV) (x3 : List Int) (x4 : Int) (r : (List Int)) (hm : F58.m x3 x4 = some r) :
    Ctr Try.prog false 58 [.pointer (some ⟨b1, 0, none⟩), .int .u8 x4] [Asr.blk b1 86 [Seg.c (.pointer none), Seg.c (s2.v)], Asr.of 5 (Enc.int .u8) (s2.v) x3] (fun v L' => ∃ (g5 : SlV), v = .nilIface ∧ L' = [Asr.of 5 (Enc.int .u8) (g5.v) r, Asr.blk b1 86 [Seg.c (.pointer (some ⟨b1, 0, none⟩)), Seg.c (g5.v)]]) := by
  refine Ctr.intro (n := 17) (env := [(0, .pointer (some ⟨b1, 0, none⟩)), (1, .int .u8 x4)]) Try.func58 rfl rfl rfl rfl (fun c => ?_)
  unfold F58.m at hm
  refine JC.seq ?_
  refine JC.region ?_
  refine JL.val (v := .nilIface) (QV.assign rfl) rfl rfl rfl ?_
  refine JL.nil ?_
  refine QJ.then_normal ?_
  refine JC.seq ?_
  refine JC.region ?_
  refine JL.val (v := .pointer (some ⟨b1, 0, none⟩)) (QV.move rfl) rfl rfl rfl ?_
  obtain ⟨y7, hc8, hm⟩ := bind_inv hm
  refine JL.mv (d := some 6) (MV.call (Lo := [Asr.blk b1 86 [Seg.c (.pointer none), Seg.c (s2.v)], Asr.of 5 (Enc.int .u8) (s2.v) x3]) (Lr := []) (F71.spec (b1) (s2) (x3) _ hc8) rfl Try.func71 rfl rfl rfl [0, 1] [] rfl rfl rfl trivial) rfl rfl rfl ?_
  rintro _ _ ⟨_, ⟨rfl, rfl⟩, rfl⟩
  refine JL.nil ?_
  refine QJ.then_normal ?_
  refine JC.seq ?_
  refine JC.region ?_
  refine JL.val (v := .pointer (some ⟨b1, 0, none⟩)) (QV.move rfl) rfl rfl rfl ?_
  refine JL.val (v := .pointer (some ⟨b1, 0, none⟩)) (QV.move rfl) rfl rfl rfl ?_
  refine JL.val (v := .pointer (some ⟨b1, 0, none⟩)) (QV.nilCheck rfl) rfl rfl rfl ?_
  refine JL.val (v := .pointer (some ⟨b1, 1, none⟩)) (QV.fieldB fo_86_1 rfl rfl) rfl rfl rfl ?_
  refine JL.val (v := s2.v) (QV.load1 (ss := [Seg.c (.pointer (some ⟨b1, 0, none⟩)), Seg.c (s2.v)]) 1 1 rfl tk_26 rfl rfl rfl) rfl rfl rfl ?_
  refine JL.val (v := .int .u8 x4) (QV.move rfl) rfl rfl rfl ?_
  refine JL.mv (d := some 13) (MV.lit (E := (Enc.int .u8)) (vals := [(0, .int .u8 x4)]) [x4] Try.underlying26 zi_5 rfl (by decide) rfl (by kernel_rfl)) rfl rfl rfl ?_
  rintro _ _ ⟨z9, rfl, rfl⟩
  obtain ⟨h10, hm⟩ := guard_inv hm
  refine JL.mv (d := some 14) (MV.append 1 rfl (Rdg.of 0 rfl) Try.underlying26 zi_5 rfl (by decide) rfl rfl h10) rfl rfl rfl ?_
  rintro _ _ ⟨z11, rfl, rfl⟩
  refine JL.val (v := .pointer (some ⟨b1, 0, none⟩)) (QV.nilCheck rfl) rfl rfl rfl ?_
  refine JL.val (v := .pointer (some ⟨b1, 1, none⟩)) (QV.fieldB fo_86_1 rfl rfl) rfl rfl rfl ?_
  refine JL.mv (d := none) (MV.store (ss := [Seg.c (.pointer (some ⟨b1, 0, none⟩)), Seg.c (s2.v)]) 2 1 1 [Seg.c (z11.v)] rfl tk_26 rfl rfl rfl rfl (fun w hs => ⟨cells_sl (Rdg.of 1 rfl) hs, one_sl (Rdg.of 1 rfl) hs, trivial⟩)) rfl rfl rfl ?_
  rintro _ _ ⟨rfl, rfl⟩
  refine JL.nil ?_
  refine QJ.then_normal ?_
  refine JC.seq ?_
  refine JC.region ?_
  refine JL.val (v := .nilIface) (QV.assign rfl) rfl rfl rfl ?_
  refine JL.nil ?_
  refine QJ.then_normal ?_
  refine JC.ret ?_
  obtain rfl := Option.some.inj hm
  exact QJ.body (vs := [.nilIface]) (.inl rfl) rfl (ResVs.cons (ResV.tmp rfl) ResVs.nil) [1, 2] rfl rfl (.inr ⟨own_of _ _ _ _, own_blk _ _ _, trivial⟩) ⟨z11, rfl, rfl⟩

/-! ### 71: (*strings.Builder).copyCheck -/
noncomputable def F71_1.m (x3 : List Int) : Option Unit :=
  some ()
set_option maxRecDepth 100000 in
set_option maxHeartbeats 4000000 in
theorem F71_1.spec (b1 : Nat) (s2 : SlV) (x3 : List Int) (r : Unit) (hm : F71_1.m x3 = some r) :
    Ctr Try.prog false 71 [.pointer (some ⟨b1, 0, none⟩)] [Asr.blk b1 86 [Seg.c (.pointer (some ⟨b1, 0, none⟩)), Seg.c (s2.v)], Asr.of 5 (Enc.int .u8) (s2.v) x3] (fun v L' => v = .tuple #[] ∧ L' = [Asr.of 5 (Enc.int .u8) (s2.v) x3, Asr.blk b1 86 [Seg.c (.pointer (some ⟨b1, 0, none⟩)), Seg.c (s2.v)]]) := by
  refine Ctr.intro (n := 20) (env := [(0, .pointer (some ⟨b1, 0, none⟩))]) Try.func71 rfl rfl rfl rfl (fun c => ?_)
  unfold F71_1.m at hm
  refine JC.seq ?_
  refine JC.region ?_
  refine JL.val (v := .pointer (some ⟨b1, 0, none⟩)) (QV.move rfl) rfl rfl rfl ?_
  refine JL.val (v := .pointer (some ⟨b1, 0, none⟩)) (QV.nilCheck rfl) rfl rfl rfl ?_
  refine JL.val (v := .pointer (some ⟨b1, 0, none⟩)) (QV.fieldB fo_86_0 rfl rfl) rfl rfl rfl ?_
  refine JL.val (v := .pointer (some ⟨b1, 0, none⟩)) (QV.load1 (ss := [Seg.c (.pointer (some ⟨b1, 0, none⟩)), Seg.c (s2.v)]) 0 0 rfl tk_84 rfl rfl rfl) rfl rfl rfl ?_
  refine JL.val (v := .bool false) ((QV.eq (QV.eqlP Try.underlying84 rfl rfl (.inr rfl)) (by simp))) rfl rfl rfl ?_
  refine JL.nil ?_
  refine QJ.then_normal ?_
  refine JC.condF rfl ?_
  refine JC.seq ?_
  refine JC.region ?_
  refine JL.val (v := .pointer (some ⟨b1, 0, none⟩)) (QV.move rfl) rfl rfl rfl ?_
  refine JL.val (v := .pointer (some ⟨b1, 0, none⟩)) (QV.nilCheck rfl) rfl rfl rfl ?_
  refine JL.val (v := .pointer (some ⟨b1, 0, none⟩)) (QV.fieldB fo_86_0 rfl rfl) rfl rfl rfl ?_
  refine JL.val (v := .pointer (some ⟨b1, 0, none⟩)) (QV.load1 (ss := [Seg.c (.pointer (some ⟨b1, 0, none⟩)), Seg.c (s2.v)]) 0 0 rfl tk_84 rfl rfl rfl) rfl rfl rfl ?_
  refine JL.val (v := .pointer (some ⟨b1, 0, none⟩)) (QV.move rfl) rfl rfl rfl ?_
  refine JL.val (v := .bool false) (QV.neqPS Try.underlying84 is_86 rfl rfl) rfl rfl rfl ?_
  refine JL.nil ?_
  refine QJ.then_normal ?_
  refine JC.condF rfl ?_
  refine JC.skip ?_
  obtain rfl := Option.some.inj hm
  exact QJ.body (vs := []) (.inr rfl) rfl ResVs.nil [1, 0] rfl rfl (.inr ⟨own_of _ _ _ _, own_blk _ _ _, trivial⟩) ⟨rfl, rfl⟩

/-! ### 58: (*strings.Builder).WriteByte -/
noncomputable def F58_1.m (x3 : List Int) (x4 : Int) : Option (List Int) :=
  ((F71_1.m (x3)).bind fun y7 => (if ((x3).length + ([x4]).length) * 1 ≤ 140737488355328 ∧ (x3).length + ([x4]).length ≤ 9223372036854775807 then some (x3 ++ [x4]) else none))
set_option maxRecDepth 100000 in
set_option maxHeartbeats 4000000 in
theorem F58_1.spec (b1 : Nat) (s2 : SlV) (x3 : List Int) (x4 : Int) (r : (List Int)) (hm : F58_1.m x3 x4 = some r) :
    Ctr Try.prog false 58 [.pointer (some ⟨b1, 0, none⟩), .int .u8 x4] [Asr.blk b1 86 [Seg.c (.pointer (some ⟨b1, 0, none⟩)), Seg.c (s2.v)], Asr.of 5 (Enc.int .u8) (s2.v) x3] (fun v L' => ∃ (g5 : SlV), v = .nilIface ∧ L' = [Asr.of 5 (Enc.int .u8) (g5.v) r, Asr.blk b1 86 [Seg.c (.pointer (some ⟨b1, 0, none⟩)), Seg.c (g5.v)]]) := by
  refine Ctr.intro (n := 17) (env := [(0, .pointer (some ⟨b1, 0, none⟩)), (1, .int .u8 x4)]) Try.func58 rfl rfl rfl rfl (fun c => ?_)
  unfold F58_1.m at hm
  refine JC.seq ?_
  refine JC.region ?_
  refine JL.val (v := .nilIface) (QV.assign rfl) rfl rfl rfl ?_
  refine JL.nil ?_
  refine QJ.then_normal ?_
  refine JC.seq ?_
  refine JC.region ?_
  refine JL.val (v := .pointer (some ⟨b1, 0, none⟩)) (QV.move rfl) rfl rfl rfl ?_
  obtain ⟨y7, hc8, hm⟩ := bind_inv hm
  refine JL.mv (d := some 6) (MV.call (Lo := [Asr.blk b1 86 [Seg.c (.pointer (some ⟨b1, 0, none⟩)), Seg.c (s2.v)], Asr.of 5 (Enc.int .u8) (s2.v) x3]) (Lr := []) (F71_1.spec (b1) (s2) (x3) _ hc8) rfl Try.func71 rfl rfl rfl [0, 1] [] rfl rfl rfl trivial) rfl rfl rfl ?_
  rintro _ _ ⟨_, ⟨rfl, rfl⟩, rfl⟩
  refine JL.nil ?_
  refine QJ.then_normal ?_
  refine JC.seq ?_
  refine JC.region ?_
  refine JL.val (v := .pointer (some ⟨b1, 0, none⟩)) (QV.move rfl) rfl rfl rfl ?_
  refine JL.val (v := .pointer (some ⟨b1, 0, none⟩)) (QV.move rfl) rfl rfl rfl ?_
  refine JL.val (v := .pointer (some ⟨b1, 0, none⟩)) (QV.nilCheck rfl) rfl rfl rfl ?_
  refine JL.val (v := .pointer (some ⟨b1, 1, none⟩)) (QV.fieldB fo_86_1 rfl rfl) rfl rfl rfl ?_
  refine JL.val (v := s2.v) (QV.load1 (ss := [Seg.c (.pointer (some ⟨b1, 0, none⟩)), Seg.c (s2.v)]) 1 1 rfl tk_26 rfl rfl rfl) rfl rfl rfl ?_
  refine JL.val (v := .int .u8 x4) (QV.move rfl) rfl rfl rfl ?_
  refine JL.mv (d := some 13) (MV.lit (E := (Enc.int .u8)) (vals := [(0, .int .u8 x4)]) [x4] Try.underlying26 zi_5 rfl (by decide) rfl (by kernel_rfl)) rfl rfl rfl ?_
  rintro _ _ ⟨z9, rfl, rfl⟩
  obtain ⟨h10, hm⟩ := guard_inv hm
  refine JL.mv (d := some 14) (MV.append 1 rfl (Rdg.of 0 rfl) Try.underlying26 zi_5 rfl (by decide) rfl rfl h10) rfl rfl rfl ?_
  rintro _ _ ⟨z11, rfl, rfl⟩
  refine JL.val (v := .pointer (some ⟨b1, 0, none⟩)) (QV.nilCheck rfl) rfl rfl rfl ?_
  refine JL.val (v := .pointer (some ⟨b1, 1, none⟩)) (QV.fieldB fo_86_1 rfl rfl) rfl rfl rfl ?_
  refine JL.mv (d := none) (MV.store (ss := [Seg.c (.pointer (some ⟨b1, 0, none⟩)), Seg.c (s2.v)]) 2 1 1 [Seg.c (z11.v)] rfl tk_26 rfl rfl rfl rfl (fun w hs => ⟨cells_sl (Rdg.of 1 rfl) hs, one_sl (Rdg.of 1 rfl) hs, trivial⟩)) rfl rfl rfl ?_
  rintro _ _ ⟨rfl, rfl⟩
  refine JL.nil ?_
  refine QJ.then_normal ?_
  refine JC.seq ?_
  refine JC.region ?_
  refine JL.val (v := .nilIface) (QV.assign rfl) rfl rfl rfl ?_
  refine JL.nil ?_
  refine QJ.then_normal ?_
  refine JC.ret ?_
  obtain rfl := Option.some.inj hm
  exact QJ.body (vs := [.nilIface]) (.inl rfl) rfl (ResVs.cons (ResV.tmp rfl) ResVs.nil) [1, 2] rfl rfl (.inr ⟨own_of _ _ _ _, own_blk _ _ _, trivial⟩) ⟨z11, rfl, rfl⟩

/-! ### 71: (*strings.Builder).copyCheck -/
noncomputable def F71_2.m (x2 : Bool) (x4 : List Int) : Option Unit :=
  (if x2 = true then some () else some ())
set_option maxRecDepth 100000 in
set_option maxHeartbeats 4000000 in
theorem F71_2.spec (b1 : Nat) (s3 : SlV) (x2 : Bool) (x4 : List Int) (r : Unit) (hm : F71_2.m x2 x4 = some r) :
    Ctr Try.prog false 71 [.pointer (some ⟨b1, 0, none⟩)] [Asr.blk b1 86 [Seg.c (.pointer (pn x2 b1)), Seg.c (s3.v)], Asr.of 5 (Enc.int .u8) (s3.v) x4] (fun v L' => v = .tuple #[] ∧ L' = [Asr.of 5 (Enc.int .u8) (s3.v) x4, Asr.blk b1 86 [Seg.c (.pointer (some ⟨b1, 0, none⟩)), Seg.c (s3.v)]]) := by
  refine Ctr.intro (n := 20) (env := [(0, .pointer (some ⟨b1, 0, none⟩))]) Try.func71 rfl rfl rfl rfl (fun c => ?_)
  unfold F71_2.m at hm
  refine JC.seq ?_
  refine JC.region ?_
  refine JL.val (v := .pointer (some ⟨b1, 0, none⟩)) (QV.move rfl) rfl rfl rfl ?_
  refine JL.val (v := .pointer (some ⟨b1, 0, none⟩)) (QV.nilCheck rfl) rfl rfl rfl ?_
  refine JL.val (v := .pointer (some ⟨b1, 0, none⟩)) (QV.fieldB fo_86_0 rfl rfl) rfl rfl rfl ?_
  rcases ite_inv hm with ⟨h5, hm⟩ | ⟨h5, hm⟩
  ·
    subst h5
    refine JL.val (v := .pointer none) (QV.load1 (ss := [Seg.c (.pointer none), Seg.c (s3.v)]) 0 0 rfl tk_84 rfl rfl rfl) rfl rfl rfl ?_
    refine JL.val (v := .bool true) ((QV.eq (QV.eqlP Try.underlying84 rfl rfl (.inl rfl)) (by simp))) rfl rfl rfl ?_
    refine JL.nil ?_
    refine QJ.then_normal ?_
    refine JC.condT rfl ?_
    refine JC.region ?_
    refine JL.val (v := .pointer (some ⟨b1, 0, none⟩)) (QV.move rfl) rfl rfl rfl ?_
    refine JL.val (v := .pointer (some ⟨b1, 0, none⟩)) (QV.move rfl) rfl rfl rfl ?_
    refine JL.val (v := .pointer (some ⟨b1, 0, none⟩)) (QV.toUns (ss := [Seg.c (.pointer none), Seg.c (s3.v)]) (k := 1) 0 rfl rfl Try.underlying84 Try.underlying111 nz_86 rfl) rfl rfl rfl ?_
    refine JL.val (v := .pointer (some ⟨b1, 0, none⟩)) (QV.ext (vals := [.pointer (some ⟨b1, 0, none⟩)]) rfl Try.func74 rfl rfl xn_74 xf_74 rfl ext_same) rfl rfl rfl ?_
    refine JL.val (v := .pointer (some ⟨b1, 0, none⟩)) (QV.fromUns (ss := [Seg.c (.pointer none), Seg.c (s3.v)]) (k := 2) 0 rfl rfl Try.underlying111 Try.underlying84 is_86 ls_86_2_86 rfl) rfl rfl rfl ?_
    refine JL.val (v := .pointer (some ⟨b1, 0, none⟩)) (QV.nilCheck rfl) rfl rfl rfl ?_
    refine JL.val (v := .pointer (some ⟨b1, 0, none⟩)) (QV.fieldB fo_86_0 rfl rfl) rfl rfl rfl ?_
    refine JL.mv (d := none) (MV.store (ss := [Seg.c (.pointer none), Seg.c (s3.v)]) 0 0 1 [Seg.c (.pointer (some ⟨b1, 0, none⟩))] rfl tk_84 rfl rfl rfl rfl (fun w hs => ⟨rfl, one_c rfl, trivial⟩)) rfl rfl rfl ?_
    rintro _ _ ⟨rfl, rfl⟩
    refine JL.nil ?_
    obtain rfl := Option.some.inj hm
    exact QJ.body (vs := []) (.inr rfl) rfl ResVs.nil [1, 0] rfl rfl (.inr ⟨own_of _ _ _ _, own_blk _ _ _, trivial⟩) ⟨rfl, rfl⟩
  ·
    obtain rfl := bfalse h5
    refine JL.val (v := .pointer (some ⟨b1, 0, none⟩)) (QV.load1 (ss := [Seg.c (.pointer (some ⟨b1, 0, none⟩)), Seg.c (s3.v)]) 0 0 rfl tk_84 rfl rfl rfl) rfl rfl rfl ?_
    refine JL.val (v := .bool false) ((QV.eq (QV.eqlP Try.underlying84 rfl rfl (.inr rfl)) (by simp))) rfl rfl rfl ?_
    refine JL.nil ?_
    refine QJ.then_normal ?_
    refine JC.condF rfl ?_
    refine JC.seq ?_
    refine JC.region ?_
    refine JL.val (v := .pointer (some ⟨b1, 0, none⟩)) (QV.move rfl) rfl rfl rfl ?_
    refine JL.val (v := .pointer (some ⟨b1, 0, none⟩)) (QV.nilCheck rfl) rfl rfl rfl ?_
    refine JL.val (v := .pointer (some ⟨b1, 0, none⟩)) (QV.fieldB fo_86_0 rfl rfl) rfl rfl rfl ?_
    refine JL.val (v := .pointer (some ⟨b1, 0, none⟩)) (QV.load1 (ss := [Seg.c (.pointer (some ⟨b1, 0, none⟩)), Seg.c (s3.v)]) 0 0 rfl tk_84 rfl rfl rfl) rfl rfl rfl ?_
    refine JL.val (v := .pointer (some ⟨b1, 0, none⟩)) (QV.move rfl) rfl rfl rfl ?_
    refine JL.val (v := .bool false) (QV.neqPS Try.underlying84 is_86 rfl rfl) rfl rfl rfl ?_
    refine JL.nil ?_
    refine QJ.then_normal ?_
    refine JC.condF rfl ?_
    refine JC.skip ?_
    obtain rfl := Option.some.inj hm
    exact QJ.body (vs := []) (.inr rfl) rfl ResVs.nil [1, 0] rfl rfl (.inr ⟨own_of _ _ _ _, own_blk _ _ _, trivial⟩) ⟨rfl, rfl⟩

/-! ### 58: (*strings.Builder).WriteByte -/
noncomputable def F58_2.m (x2 : Bool) (x4 : List Int) (x5 : Int) : Option (List Int) :=
  ((F71_2.m (x2) (x4)).bind fun y8 => (if ((x4).length + ([x5]).length) * 1 ≤ 140737488355328 ∧ (x4).length + ([x5]).length ≤ 9223372036854775807 then some (x4 ++ [x5]) else none))
set_option maxRecDepth 100000 in
set_option maxHeartbeats 4000000 in
theorem F58_2.spec (b1 : Nat) (s3 : SlV) (x2 : Bool) (x4 : List Int) (x5 : Int) (r : (List Int)) (hm : F58_2.m x2 x4 x5 = some r) :
    Ctr Try.prog false 58 [.pointer (some ⟨b1, 0, none⟩), .int .u8 x5] [Asr.blk b1 86 [Seg.c (.pointer (pn x2 b1)), Seg.c (s3.v)], Asr.of 5 (Enc.int .u8) (s3.v) x4] (fun v L' => ∃ (g6 : SlV), v = .nilIface ∧ L' = [Asr.of 5 (Enc.int .u8) (g6.v) r, Asr.blk b1 86 [Seg.c (.pointer (some ⟨b1, 0, none⟩)), Seg.c (g6.v)]]) := by
  refine Ctr.intro (n := 17) (env := [(0, .pointer (some ⟨b1, 0, none⟩)), (1, .int .u8 x5)]) Try.func58 rfl rfl rfl rfl (fun c => ?_)
  unfold F58_2.m at hm
  refine JC.seq ?_
  refine JC.region ?_
  refine JL.val (v := .nilIface) (QV.assign rfl) rfl rfl rfl ?_
  refine JL.nil ?_
  refine QJ.then_normal ?_
  refine JC.seq ?_
  refine JC.region ?_
  refine JL.val (v := .pointer (some ⟨b1, 0, none⟩)) (QV.move rfl) rfl rfl rfl ?_
  obtain ⟨y8, hc9, hm⟩ := bind_inv hm
  refine JL.mv (d := some 6) (MV.call (Lo := [Asr.blk b1 86 [Seg.c (.pointer (pn x2 b1)), Seg.c (s3.v)], Asr.of 5 (Enc.int .u8) (s3.v) x4]) (Lr := []) (F71_2.spec (b1) (s3) (x2) (x4) _ hc9) rfl Try.func71 rfl rfl rfl [0, 1] [] rfl rfl rfl trivial) rfl rfl rfl ?_
  rintro _ _ ⟨_, ⟨rfl, rfl⟩, rfl⟩
  refine JL.nil ?_
  refine QJ.then_normal ?_
  refine JC.seq ?_
  refine JC.region ?_
  refine JL.val (v := .pointer (some ⟨b1, 0, none⟩)) (QV.move rfl) rfl rfl rfl ?_
  refine JL.val (v := .pointer (some ⟨b1, 0, none⟩)) (QV.move rfl) rfl rfl rfl ?_
  refine JL.val (v := .pointer (some ⟨b1, 0, none⟩)) (QV.nilCheck rfl) rfl rfl rfl ?_
  refine JL.val (v := .pointer (some ⟨b1, 1, none⟩)) (QV.fieldB fo_86_1 rfl rfl) rfl rfl rfl ?_
  refine JL.val (v := s3.v) (QV.load1 (ss := [Seg.c (.pointer (some ⟨b1, 0, none⟩)), Seg.c (s3.v)]) 1 1 rfl tk_26 rfl rfl rfl) rfl rfl rfl ?_
  refine JL.val (v := .int .u8 x5) (QV.move rfl) rfl rfl rfl ?_
  refine JL.mv (d := some 13) (MV.lit (E := (Enc.int .u8)) (vals := [(0, .int .u8 x5)]) [x5] Try.underlying26 zi_5 rfl (by decide) rfl (by kernel_rfl)) rfl rfl rfl ?_
  rintro _ _ ⟨z10, rfl, rfl⟩
  obtain ⟨h11, hm⟩ := guard_inv hm
  refine JL.mv (d := some 14) (MV.append 1 rfl (Rdg.of 0 rfl) Try.underlying26 zi_5 rfl (by decide) rfl rfl h11) rfl rfl rfl ?_
  rintro _ _ ⟨z12, rfl, rfl⟩
  refine JL.val (v := .pointer (some ⟨b1, 0, none⟩)) (QV.nilCheck rfl) rfl rfl rfl ?_
  refine JL.val (v := .pointer (some ⟨b1, 1, none⟩)) (QV.fieldB fo_86_1 rfl rfl) rfl rfl rfl ?_
  refine JL.mv (d := none) (MV.store (ss := [Seg.c (.pointer (some ⟨b1, 0, none⟩)), Seg.c (s3.v)]) 2 1 1 [Seg.c (z12.v)] rfl tk_26 rfl rfl rfl rfl (fun w hs => ⟨cells_sl (Rdg.of 1 rfl) hs, one_sl (Rdg.of 1 rfl) hs, trivial⟩)) rfl rfl rfl ?_
  rintro _ _ ⟨rfl, rfl⟩
  refine JL.nil ?_
  refine QJ.then_normal ?_
  refine JC.seq ?_
  refine JC.region ?_
  refine JL.val (v := .nilIface) (QV.assign rfl) rfl rfl rfl ?_
  refine JL.nil ?_
  refine QJ.then_normal ?_
  refine JC.ret ?_
  obtain rfl := Option.some.inj hm
  exact QJ.body (vs := [.nilIface]) (.inl rfl) rfl (ResVs.cons (ResV.tmp rfl) ResVs.nil) [1, 2] rfl rfl (.inr ⟨own_of _ _ _ _, own_blk _ _ _, trivial⟩) ⟨z12, rfl, rfl⟩

/-! ### 59: (*strings.Builder).String -/
noncomputable def F59.j1 (x4 : List Int)  : Option ByteArray :=
  some (strOfNums x4)
noncomputable def F59.m (x2 : Bool) (x4 : List Int) : Option ByteArray :=
  (if 0 < (x4).length then (if 0 < (x4).length ∧ ∀ x ∈ x4, 0 ≤ x ∧ x ≤ 255 then F59.j1 x4 else none) else none)
set_option maxRecDepth 100000 in
set_option maxHeartbeats 4000000 in
theorem F59.spec (b1 : Nat) (s3 : SlV) (x2 : Bool) (x4 : List Int) (r : ByteArray) (hm : F59.m x2 x4 = some r) :
    Ctr Try.prog true 59 [.pointer (some ⟨b1, 0, none⟩)] [Asr.blk b1 86 [Seg.c (.pointer (pn x2 b1)), Seg.c (s3.v)], Asr.of 5 (Enc.int .u8) (s3.v) x4] (fun v L' => v = .string r ∧ L' = [Asr.vw (Enc.int .u8) (s3.v) x4, Asr.blk b1 86 [Seg.c (.pointer (pn x2 b1)), Seg.c (s3.v)]]) := by
  refine Ctr.intro (n := 14) (env := [(0, .pointer (some ⟨b1, 0, none⟩))]) Try.func59 rfl rfl rfl rfl (fun c => ?_)
  unfold F59.m at hm
  refine JC.seq ?_
  refine JC.region ?_
  refine JL.val (v := .string (⟨#[]⟩ : ByteArray)) (QV.assign rfl) rfl rfl rfl ?_
  refine JL.nil ?_
  refine QJ.then_normal ?_
  refine JC.seq ?_
  obtain ⟨h6, hm⟩ := guard_inv hm
  obtain ⟨h7, hm⟩ := guard_inv hm
  refine JC.cutK (Y := Unit × Unit) (fun y => match y with | (_, _) => F59.j1 x4 = some r) (fun y => match y with | (_, _) => [(2, .string (strOfNums x4))]) (fun y => match y with | (_, _) => [Asr.vw (Enc.int .u8) (s3.v) x4, Asr.blk b1 86 [Seg.c (.pointer (pn x2 b1)), Seg.c (s3.v)]]) ?_ ?_
  ·
    rintro ⟨⟨⟩, ⟨⟩⟩ hm
    unfold F59.j1 at hm
    show QJ _ _ [(2, .string (strOfNums x4))] [Asr.vw (Enc.int .u8) (s3.v) x4, Asr.blk b1 86 [Seg.c (.pointer (pn x2 b1)), Seg.c (s3.v)]] _ _
    refine QJ.then_normal ?_
    refine JC.ret ?_
    obtain rfl := Option.some.inj hm
    exact QJ.body (vs := [.string (strOfNums x4)]) (.inl rfl) rfl (ResVs.cons (ResV.tmp rfl) ResVs.nil) [0, 1] rfl rfl (.inl rfl) ⟨rfl, rfl⟩
  ·
    refine JC.regionU [Asr.blk b1 86 [Seg.c (.pointer (pn x2 b1)), Seg.c (s3.v)]] (fun _ => false) 12 rfl (by kernel_rfl) (by kernel_rfl) (fun hsel => ?_)
    refine JU.take (i := 0) (v := .pointer (some ⟨b1, 0, none⟩)) hsel rfl (by kernel_rfl) (QV.move rfl) rfl rfl rfl rfl [0] rfl rfl ?_
    refine JU.take (i := 1) (v := .pointer (some ⟨b1, 0, none⟩)) hsel rfl (by kernel_rfl) (QV.nilCheck rfl) rfl rfl rfl rfl [0] rfl rfl ?_
    refine JU.take (i := 2) (v := .pointer (some ⟨b1, 1, none⟩)) hsel rfl (by kernel_rfl) (QV.fieldB fo_86_1 rfl rfl) rfl rfl rfl rfl [0] rfl rfl ?_
    refine JU.take (i := 3) (v := s3.v) hsel rfl (by kernel_rfl) (QV.load1 (ss := [Seg.c (.pointer (pn x2 b1)), Seg.c (s3.v)]) 0 1 rfl tk_26 rfl rfl rfl) rfl rfl rfl rfl [0] rfl rfl ?_
    refine JU.take (i := 5) (v := .pointer (some ⟨b1, 0, none⟩)) hsel rfl (by kernel_rfl) (QV.move rfl) rfl rfl rfl rfl [0] rfl rfl ?_
    refine JU.take (i := 6) (v := .pointer (some ⟨b1, 0, none⟩)) hsel rfl (by kernel_rfl) (QV.nilCheck rfl) rfl rfl rfl rfl [0] rfl rfl ?_
    refine JU.take (i := 7) (v := .pointer (some ⟨b1, 1, none⟩)) hsel rfl (by kernel_rfl) (QV.fieldB fo_86_1 rfl rfl) rfl rfl rfl rfl [0] rfl rfl ?_
    refine JU.take (i := 8) (v := s3.v) hsel rfl (by kernel_rfl) (QV.load1 (ss := [Seg.c (.pointer (pn x2 b1)), Seg.c (s3.v)]) 0 1 rfl tk_26 rfl rfl rfl) rfl rfl rfl rfl [0] rfl rfl ?_
    refine JU.any [4, 9] (by kernel_rfl) rfl ?_
    refine ⟨?_, ?_, trivial⟩
    ·
      refine JUo.mv (d := some 7) rfl (MV.ofQV (v := .pointer (s3).a) (QV.sliceData (Rdg.of 1 rfl) h6 rfl)) rfl rfl rfl ?_
      rintro _ _ ⟨rfl, rfl⟩
      refine ⟨fun _ => ⟨[0], rfl, rfl⟩, ?_⟩
      refine JU.any [9] (by kernel_rfl) rfl ?_
      refine ⟨?_, trivial⟩
      refine JUo.mv (d := some 12) rfl (MV.ofQV (v := .int .i64 ((x4).length : Int)) (QV.len (Rdg.of 1 rfl) Try.underlying26 rfl)) rfl rfl rfl ?_
      rintro _ _ ⟨rfl, rfl⟩
      refine ⟨fun _ => ⟨[0], rfl, rfl⟩, ?_⟩
      refine JU.any [10] (by kernel_rfl) rfl ?_
      refine ⟨?_, trivial⟩
      refine JUo.mv (d := some 13) rfl (MV.unsStr (sv := s3) 1 rfl Try.underlying110 co_5 h7 rfl rfl) rfl rfl rfl ?_
      rintro _ _ ⟨rfl, rfl⟩
      refine ⟨fun _ => ⟨[0], rfl, rfl⟩, ?_⟩
      refine JU.take (i := 11) (v := .string (strOfNums x4)) hsel rfl (by kernel_rfl) (QV.assign rfl) rfl rfl rfl rfl [0] rfl rfl ?_
      refine JU.nil (by kernel_rfl) ?_
      exact QJ.cut_normal ((), ()) hm [1, 0] (by exact ⟨rfl, trivial⟩) rfl rfl
    ·
      refine JUo.mv (d := some 12) rfl (MV.ofQV (v := .int .i64 ((x4).length : Int)) (QV.len (Rdg.of 1 rfl) Try.underlying26 rfl)) rfl rfl rfl ?_
      rintro _ _ ⟨rfl, rfl⟩
      refine ⟨fun _ => ⟨[0], rfl, rfl⟩, ?_⟩
      refine JU.any [4] (by kernel_rfl) rfl ?_
      refine ⟨?_, trivial⟩
      refine JUo.mv (d := some 7) rfl (MV.ofQV (v := .pointer (s3).a) (QV.sliceData (Rdg.of 1 rfl) h6 rfl)) rfl rfl rfl ?_
      rintro _ _ ⟨rfl, rfl⟩
      refine ⟨fun _ => ⟨[0], rfl, rfl⟩, ?_⟩
      refine JU.any [10] (by kernel_rfl) rfl ?_
      refine ⟨?_, trivial⟩
      refine JUo.mv (d := some 13) rfl (MV.unsStr (sv := s3) 1 rfl Try.underlying110 co_5 h7 rfl rfl) rfl rfl rfl ?_
      rintro _ _ ⟨rfl, rfl⟩
      refine ⟨fun _ => ⟨[0], rfl, rfl⟩, ?_⟩
      refine JU.take (i := 11) (v := .string (strOfNums x4)) hsel rfl (by kernel_rfl) (QV.assign rfl) rfl rfl rfl rfl [0] rfl rfl ?_
      refine JU.nil (by kernel_rfl) ?_
      exact QJ.cut_normal ((), ()) hm [1, 0] (by exact ⟨rfl, trivial⟩) rfl rfl

/-! ### 21: drogher/script.Hex -/
noncomputable def F21.j1  (d6 : Bool) (d8 : List Int) : Option ByteArray :=
  ((F59.m (d6) (d8)).bind fun y9 => some y9)
noncomputable def F21.b1 (x2 : List Int) : (Bool × List Int × Int) → Option ((Bool × List Int × Int) ⊕ (Bool × List Int))
  | (d11, d13, d14) => (if d14 < ((x2).length : Int) then (if 0 ≤ d14 ∧ d14 < ((x2).length : Int) then (if 0 ≤ (shrI .u8 (gd x2 d14) (4 : Int)) then (if (shrI .u8 (gd x2 d14) (4 : Int)) < ((⟨#[48, 49, 50, 51, 52, 53, 54, 55, 56, 57, 97, 98, 99, 100, 101, 102]⟩ : ByteArray)).size then ((F58_2.m (d11) (d13) ((bt (⟨#[48, 49, 50, 51, 52, 53, 54, 55, 56, 57, 97, 98, 99, 100, 101, 102]⟩ : ByteArray) (shrI .u8 (gd x2 d14) (4 : Int))))).bind fun y27 => (if 0 ≤ (andI .u8 (gd x2 d14) (15 : Int)) then (if (andI .u8 (gd x2 d14) (15 : Int)) < ((⟨#[48, 49, 50, 51, 52, 53, 54, 55, 56, 57, 97, 98, 99, 100, 101, 102]⟩ : ByteArray)).size then ((F58_1.m (y27) ((bt (⟨#[48, 49, 50, 51, 52, 53, 54, 55, 56, 57, 97, 98, 99, 100, 101, 102]⟩ : ByteArray) (andI .u8 (gd x2 d14) (15 : Int))))).bind fun y32 => some (.inl (false, y32, (IntKind.wrap .i64 (d14 + (1 : Int)))))) else none) else none)) else none) else none) else none) else some (.inr (d11, d13)))
noncomputable def F21.m (x2 : List Int) : Option ByteArray :=
  (if ((x2).length : Int) = (0 : Int) then some (⟨#[46]⟩ : ByteArray) else ((loop (F21.b1 x2) (true, ([] : List Int), (0 : Int))).bind fun y => match y with | (d6, d8) => F21.j1 (d6) (d8)))
set_option maxRecDepth 100000 in
set_option maxHeartbeats 4000000 in
theorem F21.spec (s1 : SlV) (x2 : List Int) (r : ByteArray) (hm : F21.m x2 = some r) :
    Ctr Try.prog false 21 [s1.v] [Asr.vw (Enc.int .u8) (s1.v) x2] (fun v L' => v = .string r ∧ L' = []) := by
  refine Ctr.intro (n := 25) (env := [(0, s1.v)]) Try.func21 rfl rfl rfl rfl (fun c => ?_)
  unfold F21.m at hm
  refine JC.seq ?_
  refine JC.region ?_
  refine JL.val (v := .string (⟨#[]⟩ : ByteArray)) (QV.assign rfl) rfl rfl rfl ?_
  refine JL.nil ?_
  refine QJ.then_normal ?_
  refine JC.seq ?_
  refine JC.seq ?_
  refine JC.region ?_
  refine JL.val (v := s1.v) (QV.move rfl) rfl rfl rfl ?_
  refine JL.val (v := .int .i64 ((x2).length : Int)) (QV.len (Rdg.vw 0 rfl) Try.underlying26 rfl) rfl rfl rfl ?_
  refine JL.val (v := .bool (decide (((x2).length : Int) = (0 : Int)))) (QV.eql rfl rfl) rfl rfl rfl ?_
  refine JL.nil ?_
  refine QJ.then_normal ?_
  rcases ite_inv hm with ⟨h4, hm⟩ | ⟨h4, hm⟩
  ·
    refine JC.condT' rfl (decide_eq_true h4) ?_
    refine JC.seq ?_
    refine JC.region ?_
    refine JL.val (v := .string (⟨#[46]⟩ : ByteArray)) (QV.assign rfl) rfl rfl rfl ?_
    refine JL.nil ?_
    refine QJ.then_normal ?_
    refine JC.ret ?_
    refine QJ.then_ret ?_
    obtain rfl := Option.some.inj hm
    exact QJ.body (vs := [.string (⟨#[46]⟩ : ByteArray)]) (.inl rfl) rfl (ResVs.cons (ResV.tmp rfl) ResVs.nil) [] rfl rfl (.inr trivial) ⟨rfl, rfl⟩
  ·
    refine JC.condF' rfl (decide_eq_false h4) ?_
    refine JC.skip ?_
    refine QJ.then_normal ?_
    refine JC.seq ?_
    refine JC.region ?_
    refine JL.ent (fun _ hs => hs.nil 5 (Enc.int .u8)) ?_
    refine JL.mv (d := some 3) (MV.alloc [Seg.c (.pointer none), Seg.c (SlV.nil.v)] z_86 rfl) rfl rfl rfl ?_
    rintro _ _ ⟨b5, rfl, rfl⟩
    refine JL.nil ?_
    refine QJ.then_normal ?_
    refine JC.seq ?_
    refine JC.seq ?_
    refine JC.region ?_
    refine JL.val (v := s1.v) (QV.move rfl) rfl rfl rfl ?_
    refine JL.val (v := .int .i64 ((x2).length : Int)) (QV.len (Rdg.vw 2 rfl) Try.underlying26 rfl) rfl rfl rfl ?_
    refine JL.val (v := .int .i64 (0 : Int)) (QV.move rfl) rfl rfl rfl ?_
    refine JL.nil ?_
    refine QJ.then_normal ?_
    refine JC.cutK (Y := (Bool × List Int) × SlV) (fun y => match y with | ((d6, d8), _) => F21.j1 (d6) (d8) = some r) (fun y => match y with | ((d6, d8), z7) => [(3, .pointer (some ⟨b5, 0, none⟩))]) (fun y => match y with | ((d6, d8), z7) => [Asr.of 5 (Enc.int .u8) (z7.v) d8, Asr.blk b5 86 [Seg.c (.pointer (pn d6 b5)), Seg.c (z7.v)]]) ?_ ?_
    ·
      rintro ⟨⟨d6, d8⟩, z7⟩ hm
      unfold F21.j1 at hm
      show QJ _ _ [(3, .pointer (some ⟨b5, 0, none⟩))] [Asr.of 5 (Enc.int .u8) (z7.v) d8, Asr.blk b5 86 [Seg.c (.pointer (pn d6 b5)), Seg.c (z7.v)]] _ _
      refine QJ.then_normal ?_
      refine JC.seq ?_
      refine JC.region ?_
      obtain ⟨y9, hc10, hm⟩ := bind_inv hm
      refine JL.mv (d := some 24) (MV.call (Lo := [Asr.blk b5 86 [Seg.c (.pointer (pn d6 b5)), Seg.c (z7.v)], Asr.of 5 (Enc.int .u8) (z7.v) d8]) (Lr := []) (F59.spec (b5) (z7) (d6) (d8) _ hc10) rfl Try.func59 rfl rfl rfl [1, 0] [] rfl rfl rfl trivial) rfl rfl rfl ?_
      rintro _ _ ⟨_, ⟨rfl, rfl⟩, rfl⟩
      refine JL.val (v := .string y9) (QV.assign rfl) rfl rfl rfl ?_
      refine JL.nil ?_
      refine QJ.then_normal ?_
      refine JC.ret ?_
      obtain rfl := Option.some.inj hm
      exact QJ.body (vs := [.string y9]) (.inl rfl) rfl (ResVs.cons (ResV.tmp rfl) ResVs.nil) [] rfl rfl (.inr trivial) ⟨rfl, rfl⟩
    ·
      refine JC.block ?_
      obtain ⟨y19, hl20, hmo21⟩ := bind_inv hm
      refine JC.loop (F21.b1 x2) (fun x z => match x, z with | (d11, d13, d14), z12 => [(3, .pointer (some ⟨b5, 0, none⟩)), (9, s1.v), (10, .int .i64 ((x2).length : Int)), (11, .int .i64 d14)]) (fun x z => match x, z with | (d11, d13, d14), z12 => [Asr.of 5 (Enc.int .u8) (z12.v) d13, Asr.blk b5 86 [Seg.c (.pointer (pn d11 b5)), Seg.c (z12.v)], Asr.vw (Enc.int .u8) (s1.v) x2]) (true, ([] : List Int), (0 : Int)) SlV.nil y19 hl20 [1, 0, 2] (by exact ⟨rfl, rfl, rfl, rfl, trivial⟩) rfl rfl ?_
      rintro ⟨d11, d13, d14⟩ z12 s22 hm
      unfold F21.b1 at hm
      dsimp only at hm
      show JC _ _ _ [(3, .pointer (some ⟨b5, 0, none⟩)), (9, s1.v), (10, .int .i64 ((x2).length : Int)), (11, .int .i64 d14)] [Asr.of 5 (Enc.int .u8) (z12.v) d13, Asr.blk b5 86 [Seg.c (.pointer (pn d11 b5)), Seg.c (z12.v)], Asr.vw (Enc.int .u8) (s1.v) x2] _ _
      refine JC.seq ?_
      refine JC.region ?_
      refine JL.val (v := .bool (decide (d14 < ((x2).length : Int)))) (QV.lss rfl rfl) rfl rfl rfl ?_
      refine JL.nil ?_
      refine QJ.then_normal ?_
      refine JC.seq ?_
      rcases ite_inv hm with ⟨h23, hm⟩ | ⟨h23, hm⟩
      ·
        refine JC.condT' rfl (decide_eq_true h23) ?_
        refine JC.skip ?_
        refine QJ.then_normal ?_
        refine JC.seq ?_
        refine JC.block ?_
        refine JC.seq ?_
        refine JC.region ?_
        obtain ⟨h24, hm⟩ := guard_inv hm
        refine JL.val (v := .pointer (some (elA (s1.v) (Int.toNat d14 * ((Enc.int .u8)).sz)))) (QV.indexA (Rdg.vw 2 rfl) Try.underlying26 tk_5 rfl rfl h24) rfl rfl rfl ?_
        refine JL.val (v := .int .u8 (gd x2 d14)) (QV.el1 (Rdg.vw 2 rfl) tk_5 rfl h24 rfl) rfl rfl rfl ?_
        refine JL.val (v := .int .u8 (gd x2 d14)) (QV.assign rfl) rfl rfl rfl ?_
        refine JL.nil ?_
        refine QJ.then_normal ?_
        refine JC.seq ?_
        refine JC.region ?_
        refine JL.val (v := .int .u8 (gd x2 d14)) (QV.move rfl) rfl rfl rfl ?_
        refine JL.val (v := .int .u8 (shrI .u8 (gd x2 d14) (4 : Int))) (QV.shr rfl rfl (by decide)) rfl rfl rfl ?_
        obtain ⟨h25, hm⟩ := guard_inv hm
        obtain ⟨h26, hm⟩ := guard_inv hm
        refine JL.val (v := .int .u8 (bt (⟨#[48, 49, 50, 51, 52, 53, 54, 55, 56, 57, 97, 98, 99, 100, 101, 102]⟩ : ByteArray) (shrI .u8 (gd x2 d14) (4 : Int)))) (QV.indexS Try.underlying9 rfl rfl h25 h26) rfl rfl rfl ?_
        obtain ⟨y27, hc28, hm⟩ := bind_inv hm
        refine JL.mv (d := some 18) (MV.call (Lo := [Asr.blk b5 86 [Seg.c (.pointer (pn d11 b5)), Seg.c (z12.v)], Asr.of 5 (Enc.int .u8) (z12.v) d13]) (Lr := [Asr.vw (Enc.int .u8) (s1.v) x2]) (F58_2.spec (b5) (z12) (d11) (d13) ((bt (⟨#[48, 49, 50, 51, 52, 53, 54, 55, 56, 57, 97, 98, 99, 100, 101, 102]⟩ : ByteArray) (shrI .u8 (gd x2 d14) (4 : Int)))) _ hc28) rfl Try.func58 rfl rfl rfl [1, 0] [2] rfl rfl rfl trivial) rfl rfl rfl ?_
        rintro _ _ ⟨_, ⟨z29, rfl, rfl⟩, rfl⟩
        refine JL.nil ?_
        refine QJ.then_normal ?_
        refine JC.region ?_
        refine JL.val (v := .int .u8 (gd x2 d14)) (QV.move rfl) rfl rfl rfl ?_
        refine JL.val (v := .int .u8 (andI .u8 (gd x2 d14) (15 : Int))) (QV.and rfl rfl) rfl rfl rfl ?_
        obtain ⟨h30, hm⟩ := guard_inv hm
        obtain ⟨h31, hm⟩ := guard_inv hm
        refine JL.val (v := .int .u8 (bt (⟨#[48, 49, 50, 51, 52, 53, 54, 55, 56, 57, 97, 98, 99, 100, 101, 102]⟩ : ByteArray) (andI .u8 (gd x2 d14) (15 : Int)))) (QV.indexS Try.underlying9 rfl rfl h30 h31) rfl rfl rfl ?_
        obtain ⟨y32, hc33, hm⟩ := bind_inv hm
        refine JL.mv (d := some 22) (MV.call (Lo := [Asr.blk b5 86 [Seg.c (.pointer (some ⟨b5, 0, none⟩)), Seg.c (z29.v)], Asr.of 5 (Enc.int .u8) (z29.v) y27]) (Lr := [Asr.vw (Enc.int .u8) (s1.v) x2]) (F58_1.spec (b5) (z29) (y27) ((bt (⟨#[48, 49, 50, 51, 52, 53, 54, 55, 56, 57, 97, 98, 99, 100, 101, 102]⟩ : ByteArray) (andI .u8 (gd x2 d14) (15 : Int)))) _ hc33) rfl Try.func58 rfl rfl rfl [1, 0] [2] rfl rfl rfl trivial) rfl rfl rfl ?_
        rintro _ _ ⟨_, ⟨z34, rfl, rfl⟩, rfl⟩
        refine JL.nil ?_
        refine QJ.block_normal ?_
        refine QJ.then_normal ?_
        refine JC.region ?_
        refine JL.val (v := .int .i64 (IntKind.wrap .i64 (d14 + (1 : Int)))) (QV.add rfl rfl) rfl rfl rfl ?_
        refine JL.val (v := .int .i64 (IntKind.wrap .i64 (d14 + (1 : Int)))) (QV.move rfl) rfl rfl rfl ?_
        refine JL.nil ?_
        obtain rfl := Option.some.inj hm
        exact QJ.round_on (false, y32, (IntKind.wrap .i64 (d14 + (1 : Int)))) z34 [0, 1, 2] (by exact ⟨rfl, rfl, rfl, rfl, trivial⟩) rfl rfl
      ·
        refine JC.condF' rfl (decide_eq_false h23) ?_
        refine JC.exit ?_
        refine QJ.then_exit ?_
        obtain rfl := Option.some.inj hm
        refine QJ.round_exit (fun hy => ?_)
        subst hy
        refine QJ.block_hit ?_
        exact QJ.cut_normal ((d11, d13), z12) hmo21 [0, 1] (by exact ⟨rfl, trivial⟩) rfl rfl

/-! ### 20: drogher/drogherlaw30.awake -/
noncomputable def F20.m  : Option Bool :=
  ((F21.m ([(10 : Int), (255 : Int)])).bind fun y3 => some (decide (y3 = (⟨#[48, 97, 102, 102]⟩ : ByteArray))))
set_option maxRecDepth 100000 in
set_option maxHeartbeats 4000000 in
theorem F20.spec  (r : Bool) (hm : F20.m  = some r) :
    Ctr Try.prog false 20 [] [] (fun v L' => v = .bool r ∧ L' = []) := by
  refine Ctr.intro (n := 4) (env := []) Try.func20 rfl rfl rfl rfl (fun c => ?_)
  unfold F20.m at hm
  refine JC.seq ?_
  refine JC.region ?_
  refine JL.val (v := .bool false) (QV.assign rfl) rfl rfl rfl ?_
  refine JL.nil ?_
  refine QJ.then_normal ?_
  refine JC.seq ?_
  refine JC.region ?_
  refine JL.mv (d := some 1) (MV.lit (E := (Enc.int .u8)) (vals := [(0, .int .u8 (10 : Int)), (1, .int .u8 (255 : Int))]) [(10 : Int), (255 : Int)] Try.underlying26 zi_5 rfl (by decide) rfl (by kernel_rfl)) rfl rfl rfl ?_
  rintro _ _ ⟨z2, rfl, rfl⟩
  obtain ⟨y3, hc4, hm⟩ := bind_inv hm
  refine JL.mv (d := some 2) (MV.call (Lo := []) (Lr := [Asr.of 5 (Enc.int .u8) (z2.v) [(10 : Int), (255 : Int)]]) (F21.spec (z2) ([(10 : Int), (255 : Int)]) _ hc4) rfl Try.func21 rfl rfl rfl [] [0] rfl rfl rfl ⟨(Drv.of 0 rfl), trivial⟩) rfl rfl rfl ?_
  rintro _ _ ⟨_, ⟨rfl, rfl⟩, rfl⟩
  refine JL.val (v := .bool (decide (y3 = (⟨#[48, 97, 102, 102]⟩ : ByteArray)))) (QV.eqlS rfl rfl) rfl rfl rfl ?_
  refine JL.val (v := .bool (decide (y3 = (⟨#[48, 97, 102, 102]⟩ : ByteArray)))) (QV.assign rfl) rfl rfl rfl ?_
  refine JL.nil ?_
  refine QJ.then_normal ?_
  refine JC.ret ?_
  obtain rfl := Option.some.inj hm
  exact QJ.body (vs := [.bool (decide (y3 = (⟨#[48, 97, 102, 102]⟩ : ByteArray)))]) (.inl rfl) rfl (ResVs.cons (ResV.tmp rfl) ResVs.nil) [] rfl rfl (.inr trivial) ⟨rfl, rfl⟩

/-! ### 72: internal/stringslite.IndexByte -/
noncomputable def F72.m (x1 : ByteArray) (x2 : Int) : Option Int :=
  some (idxB x1 x2)
set_option maxRecDepth 100000 in
set_option maxHeartbeats 4000000 in
theorem F72.spec (x1 : ByteArray) (x2 : Int) (r : Int) (hm : F72.m x1 x2 = some r) :
    Ctr Try.prog false 72 [.string x1, .int .u8 x2] [] (fun v L' => v = .int .i64 r ∧ L' = []) := by
  refine Ctr.intro (n := 8) (env := [(0, .string x1), (1, .int .u8 x2)]) Try.func72 rfl rfl rfl rfl (fun c => ?_)
  unfold F72.m at hm
  refine JC.seq ?_
  refine JC.region ?_
  refine JL.val (v := .int .i64 (0 : Int)) (QV.assign rfl) rfl rfl rfl ?_
  refine JL.nil ?_
  refine QJ.then_normal ?_
  refine JC.seq ?_
  refine JC.region ?_
  refine JL.val (v := .string x1) (QV.move rfl) rfl rfl rfl ?_
  refine JL.val (v := .int .u8 x2) (QV.move rfl) rfl rfl rfl ?_
  refine JL.val (v := .int .i64 (idxB x1 x2)) (QV.ext (vals := [.string x1, .int .u8 x2]) rfl Try.func75 rfl rfl xn_75 xf_75 rfl (ext_idx)) rfl rfl rfl ?_
  refine JL.val (v := .int .i64 (idxB x1 x2)) (QV.assign rfl) rfl rfl rfl ?_
  refine JL.nil ?_
  refine QJ.then_normal ?_
  refine JC.ret ?_
  obtain rfl := Option.some.inj hm
  exact QJ.body (vs := [.int .i64 (idxB x1 x2)]) (.inl rfl) rfl (ResVs.cons (ResV.tmp rfl) ResVs.nil) [] rfl rfl (.inr trivial) ⟨rfl, rfl⟩

/-! ### 60: strings.IndexByte -/
noncomputable def F60.m (x1 : ByteArray) (x2 : Int) : Option Int :=
  ((F72.m (x1) (x2)).bind fun y4 => some y4)
set_option maxRecDepth 100000 in
set_option maxHeartbeats 4000000 in
theorem F60.spec (x1 : ByteArray) (x2 : Int) (r : Int) (hm : F60.m x1 x2 = some r) :
    Ctr Try.prog false 60 [.string x1, .int .u8 x2] [] (fun v L' => v = .int .i64 r ∧ L' = []) := by
  refine Ctr.intro (n := 8) (env := [(0, .string x1), (1, .int .u8 x2)]) Try.func60 rfl rfl rfl rfl (fun c => ?_)
  unfold F60.m at hm
  refine JC.seq ?_
  refine JC.region ?_
  refine JL.val (v := .int .i64 (0 : Int)) (QV.assign rfl) rfl rfl rfl ?_
  refine JL.nil ?_
  refine QJ.then_normal ?_
  refine JC.seq ?_
  refine JC.region ?_
  refine JL.val (v := .string x1) (QV.move rfl) rfl rfl rfl ?_
  refine JL.val (v := .int .u8 x2) (QV.move rfl) rfl rfl rfl ?_
  obtain ⟨y4, hc5, hm⟩ := bind_inv hm
  refine JL.mv (d := some 7) (MV.call (Lo := []) (Lr := []) (F72.spec (x1) (x2) _ hc5) rfl Try.func72 rfl rfl rfl [] [] rfl rfl rfl trivial) rfl rfl rfl ?_
  rintro _ _ ⟨_, ⟨rfl, rfl⟩, rfl⟩
  refine JL.val (v := .int .i64 y4) (QV.assign rfl) rfl rfl rfl ?_
  refine JL.nil ?_
  refine QJ.then_normal ?_
  refine JC.ret ?_
  obtain rfl := Option.some.inj hm
  exact QJ.body (vs := [.int .i64 y4]) (.inl rfl) rfl (ResVs.cons (ResV.tmp rfl) ResVs.nil) [] rfl rfl (.inr trivial) ⟨rfl, rfl⟩

/-! ### 22: drogher/script.Unhex -/
noncomputable def F22.j1  (d9 : List Int) : Option (List Int × Bool) :=
  some (d9, true)
noncomputable def F22.b1 (x1 : ByteArray) : (List Int × Int) → Option ((List Int × Int) ⊕ (((List Int × Bool)) ⊕ (List Int)))
  | (d11, d12) => (if d12 < ((x1).size : Int) then (if 0 ≤ d12 then (if d12 < (x1).size then (if 0 ≤ (IntKind.wrap .i64 (d12 + (1 : Int))) then (if (IntKind.wrap .i64 (d12 + (1 : Int))) < (x1).size then ((F60.m ((⟨#[48, 49, 50, 51, 52, 53, 54, 55, 56, 57, 97, 98, 99, 100, 101, 102]⟩ : ByteArray)) ((bt x1 d12))).bind fun y25 => ((F60.m ((⟨#[48, 49, 50, 51, 52, 53, 54, 55, 56, 57, 97, 98, 99, 100, 101, 102]⟩ : ByteArray)) ((bt x1 (IntKind.wrap .i64 (d12 + (1 : Int)))))).bind fun y27 => (if y25 < (0 : Int) then some (.inr (.inl ((([] : List Int), false)))) else (if y27 < (0 : Int) then some (.inr (.inl ((([] : List Int), false)))) else (if ((d11).length + ([(IntKind.wrap .u8 (orI .i64 (shlI .i64 y25 (4 : Int)) y27))]).length) * 1 ≤ 140737488355328 ∧ (d11).length + ([(IntKind.wrap .u8 (orI .i64 (shlI .i64 y25 (4 : Int)) y27))]).length ≤ 9223372036854775807 then some (.inl ((d11 ++ [(IntKind.wrap .u8 (orI .i64 (shlI .i64 y25 (4 : Int)) y27))]), (IntKind.wrap .i64 (d12 + (2 : Int))))) else none))))) else none) else none) else none) else none) else some (.inr (.inr (d11))))
noncomputable def F22.m (x1 : ByteArray) : Option (List Int × Bool) :=
  (if x1 = (⟨#[46]⟩ : ByteArray) then some (([] : List Int), true) else (if x1 = (⟨#[]⟩ : ByteArray) then some (([] : List Int), false) else (if (0 : Int) < (Int.tmod ((x1).size : Int) (2 : Int)) then some (([] : List Int), false) else ((loop (F22.b1 x1) (([] : List Int), (0 : Int))).bind fun y => match y with | .inl r => some r | .inr d9 => F22.j1 (d9)))))
set_option maxRecDepth 100000 in
set_option maxHeartbeats 4000000 in
theorem F22.spec (x1 : ByteArray) (r : (List Int × Bool)) (hm : F22.m x1 = some r) :
    Ctr Try.prog false 22 [.string x1] [] (fun v L' => ∃ (g2 : SlV), v = .tuple #[g2.v, .bool r.2] ∧ L' = [Asr.of 5 (Enc.int .u8) (g2.v) r.1]) := by
  refine Ctr.intro (n := 48) (env := [(0, .string x1)]) Try.func22 rfl rfl rfl rfl (fun c => ?_)
  unfold F22.m at hm
  refine JC.seq ?_
  refine JC.region ?_
  refine JL.ent (fun _ hs => hs.nil 5 (Enc.int .u8)) ?_
  refine JL.val (v := SlV.nil.v) (QV.assign rfl) rfl rfl rfl ?_
  refine JL.val (v := .bool false) (QV.assign rfl) rfl rfl rfl ?_
  refine JL.nil ?_
  refine QJ.then_normal ?_
  refine JC.seq ?_
  refine JC.seq ?_
  refine JC.region ?_
  refine JL.val (v := .string x1) (QV.move rfl) rfl rfl rfl ?_
  refine JL.val (v := .bool (decide (x1 = (⟨#[46]⟩ : ByteArray)))) (QV.eqlS rfl rfl) rfl rfl rfl ?_
  refine JL.nil ?_
  refine QJ.then_normal ?_
  rcases ite_inv hm with ⟨h5, hm⟩ | ⟨h5, hm⟩
  ·
    refine JC.condT' rfl (decide_eq_true h5) ?_
    refine JC.seq ?_
    refine JC.region ?_
    refine JL.ent (fun _ hs => hs.nil 5 (Enc.int .u8)) ?_
    refine JL.val (v := SlV.nil.v) (QV.assign rfl) rfl rfl rfl ?_
    refine JL.val (v := .bool true) (QV.assign rfl) rfl rfl rfl ?_
    refine JL.nil ?_
    refine QJ.then_normal ?_
    refine JC.ret ?_
    refine QJ.then_ret ?_
    obtain rfl := Option.some.inj hm
    exact QJ.body (vs := [SlV.nil.v, .bool true]) (.inl rfl) rfl (ResVs.cons (ResV.tmp rfl) (ResVs.cons (ResV.tmp rfl) ResVs.nil)) [0] rfl rfl (.inr ⟨own_of _ _ _ _, trivial⟩) ⟨(SlV.nil), rfl, rfl⟩
  ·
    refine JC.condF' rfl (decide_eq_false h5) ?_
    refine JC.skip ?_
    refine QJ.then_normal ?_
    refine JC.seq ?_
    refine JC.seq ?_
    refine JC.region ?_
    refine JL.val (v := .string x1) (QV.move rfl) rfl rfl rfl ?_
    refine JL.val (v := .bool (decide (x1 = (⟨#[]⟩ : ByteArray)))) (QV.eqlS rfl rfl) rfl rfl rfl ?_
    rcases ite_inv hm with ⟨h6, hm⟩ | ⟨h6, hm⟩
    ·
      refine JL.val (v := .bool true) (QV.eq (QV.move rfl) (congrArg Value.bool (decide_eq_true h6))) rfl rfl rfl ?_
      refine JL.skip (d := some 13) rfl rfl rfl ?_
      refine JL.skip (d := some 14) rfl rfl rfl ?_
      refine JL.skip (d := some 15) rfl rfl rfl ?_
      refine JL.skip (d := some 16) rfl rfl rfl ?_
      refine JL.val (v := .bool true) (QV.pickT rfl rfl) rfl rfl rfl ?_
      refine JL.nil ?_
      refine QJ.then_normal ?_
      refine JC.condT rfl ?_
      refine JC.seq ?_
      refine JC.region ?_
      refine JL.ent (fun _ hs => hs.nil 5 (Enc.int .u8)) ?_
      refine JL.val (v := SlV.nil.v) (QV.assign rfl) rfl rfl rfl ?_
      refine JL.val (v := .bool false) (QV.assign rfl) rfl rfl rfl ?_
      refine JL.nil ?_
      refine QJ.then_normal ?_
      refine JC.ret ?_
      refine QJ.then_ret ?_
      obtain rfl := Option.some.inj hm
      exact QJ.body (vs := [SlV.nil.v, .bool false]) (.inl rfl) rfl (ResVs.cons (ResV.tmp rfl) (ResVs.cons (ResV.tmp rfl) ResVs.nil)) [0] rfl rfl (.inr ⟨own_of _ _ _ _, trivial⟩) ⟨(SlV.nil), rfl, rfl⟩
    ·
      refine JL.val (v := .bool false) (QV.eq (QV.move rfl) (congrArg Value.bool (decide_eq_false h6))) rfl rfl rfl ?_
      refine JL.val (v := .string x1) (QV.move rfl) rfl rfl rfl ?_
      refine JL.val (v := .int .i64 ((x1).size : Int)) (QV.lenS Try.underlying9 rfl) rfl rfl rfl ?_
      refine JL.val (v := .int .i64 (Int.tmod ((x1).size : Int) (2 : Int))) (QV.rem rfl rfl (by decide)) rfl rfl rfl ?_
      refine JL.val (v := .bool (decide ((0 : Int) < (Int.tmod ((x1).size : Int) (2 : Int))))) (QV.gtr rfl rfl) rfl rfl rfl ?_
      refine JL.val (v := .bool (decide ((0 : Int) < (Int.tmod ((x1).size : Int) (2 : Int))))) (QV.pickF rfl rfl) rfl rfl rfl ?_
      refine JL.nil ?_
      refine QJ.then_normal ?_
      rcases ite_inv hm with ⟨h7, hm⟩ | ⟨h7, hm⟩
      ·
        refine JC.condT' rfl (decide_eq_true h7) ?_
        refine JC.seq ?_
        refine JC.region ?_
        refine JL.ent (fun _ hs => hs.nil 5 (Enc.int .u8)) ?_
        refine JL.val (v := SlV.nil.v) (QV.assign rfl) rfl rfl rfl ?_
        refine JL.val (v := .bool false) (QV.assign rfl) rfl rfl rfl ?_
        refine JL.nil ?_
        refine QJ.then_normal ?_
        refine JC.ret ?_
        refine QJ.then_ret ?_
        obtain rfl := Option.some.inj hm
        exact QJ.body (vs := [SlV.nil.v, .bool false]) (.inl rfl) rfl (ResVs.cons (ResV.tmp rfl) (ResVs.cons (ResV.tmp rfl) ResVs.nil)) [0] rfl rfl (.inr ⟨own_of _ _ _ _, trivial⟩) ⟨(SlV.nil), rfl, rfl⟩
      ·
        refine JC.condF' rfl (decide_eq_false h7) ?_
        refine JC.skip ?_
        refine QJ.then_normal ?_
        refine JC.seq ?_
        refine JC.region ?_
        refine JL.ent (fun _ hs => hs.nil 5 (Enc.int .u8)) ?_
        refine JL.val (v := SlV.nil.v) (QV.assign rfl) rfl rfl rfl ?_
        refine JL.nil ?_
        refine QJ.then_normal ?_
        refine JC.seq ?_
        refine JC.seq ?_
        refine JC.region ?_
        refine JL.val (v := .int .i64 (0 : Int)) (QV.assign rfl) rfl rfl rfl ?_
        refine JL.nil ?_
        refine QJ.then_normal ?_
        refine JC.cutK (Y := (List Int) × SlV) (fun y => match y with | (d9, _) => F22.j1 (d9) = some r) (fun y => match y with | (d9, z8) => [(4, z8.v)]) (fun y => match y with | (d9, z8) => [Asr.of 5 (Enc.int .u8) (z8.v) d9]) ?_ ?_
        ·
          rintro ⟨d9, z8⟩ hm
          unfold F22.j1 at hm
          show QJ _ _ [(4, z8.v)] [Asr.of 5 (Enc.int .u8) (z8.v) d9] _ _
          refine QJ.then_normal ?_
          refine JC.seq ?_
          refine JC.region ?_
          refine JL.val (v := z8.v) (QV.move rfl) rfl rfl rfl ?_
          refine JL.val (v := z8.v) (QV.assign rfl) rfl rfl rfl ?_
          refine JL.val (v := .bool true) (QV.assign rfl) rfl rfl rfl ?_
          refine JL.nil ?_
          refine QJ.then_normal ?_
          refine JC.ret ?_
          obtain rfl := Option.some.inj hm
          exact QJ.body (vs := [z8.v, .bool true]) (.inl rfl) rfl (ResVs.cons (ResV.tmp rfl) (ResVs.cons (ResV.tmp rfl) ResVs.nil)) [0] rfl rfl (.inr ⟨own_of _ _ _ _, trivial⟩) ⟨z8, rfl, rfl⟩
        ·
          refine JC.block ?_
          obtain ⟨y16, hl17, hmo18⟩ := bind_inv hm
          refine JC.loop (F22.b1 x1) (fun x z => match x, z with | (d11, d12), z10 => [(0, .string x1), (4, z10.v), (5, .int .i64 d12)]) (fun x z => match x, z with | (d11, d12), z10 => [Asr.of 5 (Enc.int .u8) (z10.v) d11]) (([] : List Int), (0 : Int)) SlV.nil y16 hl17 [0] (by exact ⟨rfl, rfl, rfl, trivial⟩) rfl rfl ?_
          rintro ⟨d11, d12⟩ z10 s19 hm
          unfold F22.b1 at hm
          dsimp only at hm
          show JC _ _ _ [(0, .string x1), (4, z10.v), (5, .int .i64 d12)] [Asr.of 5 (Enc.int .u8) (z10.v) d11] _ _
          refine JC.seq ?_
          refine JC.seq ?_
          refine JC.region ?_
          refine JL.val (v := .int .i64 d12) (QV.move rfl) rfl rfl rfl ?_
          refine JL.val (v := .string x1) (QV.move rfl) rfl rfl rfl ?_
          refine JL.val (v := .int .i64 ((x1).size : Int)) (QV.lenS Try.underlying9 rfl) rfl rfl rfl ?_
          refine JL.val (v := .bool (decide (d12 < ((x1).size : Int)))) (QV.lss rfl rfl) rfl rfl rfl ?_
          refine JL.nil ?_
          refine QJ.then_normal ?_
          rcases ite_inv hm with ⟨h20, hm⟩ | ⟨h20, hm⟩
          ·
            refine JC.condT' rfl (decide_eq_true h20) ?_
            refine JC.skip ?_
            refine QJ.then_normal ?_
            refine JC.seq ?_
            refine JC.block ?_
            refine JC.seq ?_
            refine JC.regionT [Asr.of 5 (Enc.int .u8) (z10.v) d11] (fun t => false) [(0, true), (1, true), (2, true), (4, true), (5, true), (6, true), (7, true), (3, false), (8, false), (9, false), (10, false)] (by kernel_rfl) (by kernel_rfl) (by kernel_rfl) rfl (fun hsel => ?_)
            refine JT.take (i := 0) (v := .string x1) hsel rfl (QV.move rfl) rfl rfl rfl rfl [0] rfl rfl ?_
            refine JT.take (i := 1) (v := .int .i64 d12) hsel rfl (QV.move rfl) rfl rfl rfl rfl [0] rfl rfl ?_
            obtain ⟨h21, hm⟩ := guard_inv hm
            obtain ⟨h22, hm⟩ := guard_inv hm
            refine JT.take (i := 2) (v := .int .u8 (bt x1 d12)) hsel rfl (QV.indexS Try.underlying9 rfl rfl h21 h22) rfl rfl rfl rfl [0] rfl rfl ?_
            refine JT.take (i := 4) (v := .string x1) hsel rfl (QV.move rfl) rfl rfl rfl rfl [0] rfl rfl ?_
            refine JT.take (i := 5) (v := .int .i64 d12) hsel rfl (QV.move rfl) rfl rfl rfl rfl [0] rfl rfl ?_
            refine JT.take (i := 6) (v := .int .i64 (IntKind.wrap .i64 (d12 + (1 : Int)))) hsel rfl (QV.add rfl rfl) rfl rfl rfl rfl [0] rfl rfl ?_
            obtain ⟨h23, hm⟩ := guard_inv hm
            obtain ⟨h24, hm⟩ := guard_inv hm
            refine JT.take (i := 7) (v := .int .u8 (bt x1 (IntKind.wrap .i64 (d12 + (1 : Int))))) hsel rfl (QV.indexS Try.underlying9 rfl rfl h23 h24) rfl rfl rfl rfl [0] rfl rfl ?_
            obtain ⟨y25, hc26, hm⟩ := bind_inv hm
            refine JT.only (i := 3) (d := some 27) rfl (MV.call (Lo := []) (Lr := [Asr.of 5 (Enc.int .u8) (z10.v) d11]) (F60.spec ((⟨#[48, 49, 50, 51, 52, 53, 54, 55, 56, 57, 97, 98, 99, 100, 101, 102]⟩ : ByteArray)) ((bt x1 d12)) _ hc26) rfl Try.func60 rfl rfl rfl [] [0] rfl rfl rfl trivial) rfl rfl rfl ?_
            rintro _ _ ⟨_, ⟨rfl, rfl⟩, rfl⟩
            refine ⟨fun _ => ⟨[0], rfl, rfl⟩, ?_⟩
            obtain ⟨y27, hc28, hm⟩ := bind_inv hm
            refine JT.only (i := 8) (d := some 32) rfl (MV.call (Lo := []) (Lr := [Asr.of 5 (Enc.int .u8) (z10.v) d11]) (F60.spec ((⟨#[48, 49, 50, 51, 52, 53, 54, 55, 56, 57, 97, 98, 99, 100, 101, 102]⟩ : ByteArray)) ((bt x1 (IntKind.wrap .i64 (d12 + (1 : Int))))) _ hc28) rfl Try.func60 rfl rfl rfl [] [0] rfl rfl rfl trivial) rfl rfl rfl ?_
            rintro _ _ ⟨_, ⟨rfl, rfl⟩, rfl⟩
            refine ⟨fun _ => ⟨[0], rfl, rfl⟩, ?_⟩
            refine JT.only (i := 9) (d := some 6) rfl (MV.ofQV (v := .int .i64 y25) (QV.assign rfl)) rfl rfl rfl ?_
            rintro _ _ ⟨rfl, rfl⟩
            refine ⟨fun _ => ⟨[0], rfl, rfl⟩, ?_⟩
            refine JT.only (i := 10) (d := some 7) rfl (MV.ofQV (v := .int .i64 y27) (QV.assign rfl)) rfl rfl rfl ?_
            rintro _ _ ⟨rfl, rfl⟩
            refine ⟨fun _ => ⟨[0], rfl, rfl⟩, ?_⟩
            refine JT.nil ?_
            refine QJ.then_normal ?_
            refine JC.seq ?_
            refine JC.seq ?_
            refine JC.region ?_
            refine JL.val (v := .int .i64 y25) (QV.move rfl) rfl rfl rfl ?_
            refine JL.val (v := .bool (decide (y25 < (0 : Int)))) (QV.lss rfl rfl) rfl rfl rfl ?_
            rcases ite_inv hm with ⟨h29, hm⟩ | ⟨h29, hm⟩
            ·
              refine JL.val (v := .bool true) (QV.eq (QV.move rfl) (congrArg Value.bool (decide_eq_true h29))) rfl rfl rfl ?_
              refine JL.skip (d := some 36) rfl rfl rfl ?_
              refine JL.skip (d := some 37) rfl rfl rfl ?_
              refine JL.val (v := .bool true) (QV.pickT rfl rfl) rfl rfl rfl ?_
              refine JL.nil ?_
              refine QJ.then_normal ?_
              refine JC.condT rfl ?_
              refine JC.seq ?_
              refine JC.region ?_
              refine JL.ent (fun _ hs => hs.nil 5 (Enc.int .u8)) ?_
              refine JL.val (v := SlV.nil.v) (QV.assign rfl) rfl rfl rfl ?_
              refine JL.val (v := .bool false) (QV.assign rfl) rfl rfl rfl ?_
              refine JL.nil ?_
              refine QJ.then_normal ?_
              refine JC.ret ?_
              refine QJ.then_ret ?_
              refine QJ.block_ret ?_
              refine QJ.then_ret ?_
              obtain rfl := Option.some.inj hm
              refine QJ.round_ret (fun hy => ?_)
              subst hy
              refine QJ.block_ret ?_
              refine QJ.cut_ret ?_
              refine QJ.then_ret ?_
              obtain rfl := Option.some.inj hmo18
              exact QJ.body (vs := [SlV.nil.v, .bool false]) (.inl rfl) rfl (ResVs.cons (ResV.tmp rfl) (ResVs.cons (ResV.tmp rfl) ResVs.nil)) [0] rfl rfl (.inr ⟨own_of _ _ _ _, trivial⟩) ⟨(SlV.nil), rfl, rfl⟩
            ·
              refine JL.val (v := .bool false) (QV.eq (QV.move rfl) (congrArg Value.bool (decide_eq_false h29))) rfl rfl rfl ?_
              refine JL.val (v := .int .i64 y27) (QV.move rfl) rfl rfl rfl ?_
              refine JL.val (v := .bool (decide (y27 < (0 : Int)))) (QV.lss rfl rfl) rfl rfl rfl ?_
              refine JL.val (v := .bool (decide (y27 < (0 : Int)))) (QV.pickF rfl rfl) rfl rfl rfl ?_
              refine JL.nil ?_
              refine QJ.then_normal ?_
              rcases ite_inv hm with ⟨h30, hm⟩ | ⟨h30, hm⟩
              ·
                refine JC.condT' rfl (decide_eq_true h30) ?_
                refine JC.seq ?_
                refine JC.region ?_
                refine JL.ent (fun _ hs => hs.nil 5 (Enc.int .u8)) ?_
                refine JL.val (v := SlV.nil.v) (QV.assign rfl) rfl rfl rfl ?_
                refine JL.val (v := .bool false) (QV.assign rfl) rfl rfl rfl ?_
                refine JL.nil ?_
                refine QJ.then_normal ?_
                refine JC.ret ?_
                refine QJ.then_ret ?_
                refine QJ.block_ret ?_
                refine QJ.then_ret ?_
                obtain rfl := Option.some.inj hm
                refine QJ.round_ret (fun hy => ?_)
                subst hy
                refine QJ.block_ret ?_
                refine QJ.cut_ret ?_
                refine QJ.then_ret ?_
                obtain rfl := Option.some.inj hmo18
                exact QJ.body (vs := [SlV.nil.v, .bool false]) (.inl rfl) rfl (ResVs.cons (ResV.tmp rfl) (ResVs.cons (ResV.tmp rfl) ResVs.nil)) [0] rfl rfl (.inr ⟨own_of _ _ _ _, trivial⟩) ⟨(SlV.nil), rfl, rfl⟩
              ·
                refine JC.condF' rfl (decide_eq_false h30) ?_
                refine JC.skip ?_
                refine QJ.then_normal ?_
                refine JC.region ?_
                refine JL.val (v := z10.v) (QV.move rfl) rfl rfl rfl ?_
                refine JL.val (v := .int .i64 y25) (QV.move rfl) rfl rfl rfl ?_
                refine JL.val (v := .int .i64 (shlI .i64 y25 (4 : Int))) (QV.shl rfl rfl (by decide)) rfl rfl rfl ?_
                refine JL.val (v := .int .i64 y27) (QV.move rfl) rfl rfl rfl ?_
                refine JL.val (v := .int .i64 (orI .i64 (shlI .i64 y25 (4 : Int)) y27)) (QV.or rfl rfl) rfl rfl rfl ?_
                refine JL.val (v := .int .u8 (IntKind.wrap .u8 (orI .i64 (shlI .i64 y25 (4 : Int)) y27))) (QV.conv rfl (by rw [Try.underlying3]; rfl) Try.underlying5) rfl rfl rfl ?_
                refine JL.mv (d := some 45) (MV.lit (E := (Enc.int .u8)) (vals := [(0, .int .u8 (IntKind.wrap .u8 (orI .i64 (shlI .i64 y25 (4 : Int)) y27)))]) [(IntKind.wrap .u8 (orI .i64 (shlI .i64 y25 (4 : Int)) y27))] Try.underlying26 zi_5 rfl (by decide) rfl (by kernel_rfl)) rfl rfl rfl ?_
                rintro _ _ ⟨z31, rfl, rfl⟩
                obtain ⟨h32, hm⟩ := guard_inv hm
                refine JL.mv (d := some 46) (MV.append 1 rfl (Rdg.of 0 rfl) Try.underlying26 zi_5 rfl (by decide) rfl rfl h32) rfl rfl rfl ?_
                rintro _ _ ⟨z33, rfl, rfl⟩
                refine JL.val (v := z33.v) (QV.assign rfl) rfl rfl rfl ?_
                refine JL.nil ?_
                refine QJ.block_normal ?_
                refine QJ.then_normal ?_
                refine JC.region ?_
                refine JL.val (v := .int .i64 d12) (QV.move rfl) rfl rfl rfl ?_
                refine JL.val (v := .int .i64 (IntKind.wrap .i64 (d12 + (2 : Int)))) (QV.add rfl rfl) rfl rfl rfl ?_
                refine JL.val (v := .int .i64 (IntKind.wrap .i64 (d12 + (2 : Int)))) (QV.assign rfl) rfl rfl rfl ?_
                refine JL.nil ?_
                obtain rfl := Option.some.inj hm
                exact QJ.round_on ((d11 ++ [(IntKind.wrap .u8 (orI .i64 (shlI .i64 y25 (4 : Int)) y27))]), (IntKind.wrap .i64 (d12 + (2 : Int)))) z33 [1] (by exact ⟨rfl, rfl, rfl, trivial⟩) rfl rfl
          ·
            refine JC.condF' rfl (decide_eq_false h20) ?_
            refine JC.exit ?_
            refine QJ.then_exit ?_
            obtain rfl := Option.some.inj hm
            refine QJ.round_exit (fun hy => ?_)
            subst hy
            refine QJ.block_hit ?_
            exact QJ.cut_normal (d11, z10) hmo18 [0] (by exact ⟨rfl, trivial⟩) rfl rfl

/-! ### 61: drogher/drogherref30.value -/
noncomputable def F61.m (x1 : Int) : Option (Int × Bool) :=
  (if (48 : Int) ≤ x1 then (if x1 ≤ (57 : Int) then some ((IntKind.wrap .u8 (x1 - (48 : Int))), true) else (if (97 : Int) ≤ x1 then (if x1 ≤ (102 : Int) then some ((IntKind.wrap .u8 ((IntKind.wrap .u8 (x1 - (97 : Int))) + (10 : Int))), true) else some ((0 : Int), false)) else some ((0 : Int), false))) else (if (97 : Int) ≤ x1 then (if x1 ≤ (102 : Int) then some ((IntKind.wrap .u8 ((IntKind.wrap .u8 (x1 - (97 : Int))) + (10 : Int))), true) else some ((0 : Int), false)) else some ((0 : Int), false)))
set_option maxRecDepth 100000 in
set_option maxHeartbeats 4000000 in
theorem F61.spec (x1 : Int) (r : (Int × Bool)) (hm : F61.m x1 = some r) :
    Ctr Try.prog false 61 [.int .u8 x1] [] (fun v L' => v = .tuple #[.int .u8 r.1, .bool r.2] ∧ L' = []) := by
  refine Ctr.intro (n := 21) (env := [(0, .int .u8 x1)]) Try.func61 rfl rfl rfl rfl (fun c => ?_)
  unfold F61.m at hm
  refine JC.seq ?_
  refine JC.region ?_
  refine JL.val (v := .int .u8 (0 : Int)) (QV.assign rfl) rfl rfl rfl ?_
  refine JL.val (v := .bool false) (QV.assign rfl) rfl rfl rfl ?_
  refine JL.nil ?_
  refine QJ.then_normal ?_
  refine JC.seq ?_
  refine JC.seq ?_
  refine JC.region ?_
  refine JL.val (v := .int .u8 x1) (QV.move rfl) rfl rfl rfl ?_
  refine JL.val (v := .bool (decide ((48 : Int) ≤ x1))) (QV.geq rfl rfl) rfl rfl rfl ?_
  rcases ite_inv hm with ⟨h4, hm⟩ | ⟨h4, hm⟩
  ·
    refine JL.val (v := .bool true) (QV.eq (QV.move rfl) (congrArg Value.bool (decide_eq_true h4))) rfl rfl rfl ?_
    refine JL.val (v := .int .u8 x1) (QV.move rfl) rfl rfl rfl ?_
    refine JL.val (v := .bool (decide (x1 ≤ (57 : Int)))) (QV.leq rfl rfl) rfl rfl rfl ?_
    refine JL.val (v := .bool (decide (x1 ≤ (57 : Int)))) (QV.pickT rfl rfl) rfl rfl rfl ?_
    refine JL.nil ?_
    refine QJ.then_normal ?_
    rcases ite_inv hm with ⟨h5, hm⟩ | ⟨h5, hm⟩
    ·
      refine JC.condT' rfl (decide_eq_true h5) ?_
      refine JC.seq ?_
      refine JC.region ?_
      refine JL.val (v := .int .u8 x1) (QV.move rfl) rfl rfl rfl ?_
      refine JL.val (v := .int .u8 (IntKind.wrap .u8 (x1 - (48 : Int)))) (QV.sub rfl rfl) rfl rfl rfl ?_
      refine JL.val (v := .int .u8 (IntKind.wrap .u8 (x1 - (48 : Int)))) (QV.assign rfl) rfl rfl rfl ?_
      refine JL.val (v := .bool true) (QV.assign rfl) rfl rfl rfl ?_
      refine JL.nil ?_
      refine QJ.then_normal ?_
      refine JC.ret ?_
      refine QJ.then_ret ?_
      obtain rfl := Option.some.inj hm
      exact QJ.body (vs := [.int .u8 (IntKind.wrap .u8 (x1 - (48 : Int))), .bool true]) (.inl rfl) rfl (ResVs.cons (ResV.tmp rfl) (ResVs.cons (ResV.tmp rfl) ResVs.nil)) [] rfl rfl (.inr trivial) ⟨rfl, rfl⟩
    ·
      refine JC.condF' rfl (decide_eq_false h5) ?_
      refine JC.skip ?_
      refine QJ.then_normal ?_
      refine JC.seq ?_
      refine JC.seq ?_
      refine JC.region ?_
      refine JL.val (v := .int .u8 x1) (QV.move rfl) rfl rfl rfl ?_
      refine JL.val (v := .bool (decide ((97 : Int) ≤ x1))) (QV.geq rfl rfl) rfl rfl rfl ?_
      rcases ite_inv hm with ⟨h6, hm⟩ | ⟨h6, hm⟩
      ·
        refine JL.val (v := .bool true) (QV.eq (QV.move rfl) (congrArg Value.bool (decide_eq_true h6))) rfl rfl rfl ?_
        refine JL.val (v := .int .u8 x1) (QV.move rfl) rfl rfl rfl ?_
        refine JL.val (v := .bool (decide (x1 ≤ (102 : Int)))) (QV.leq rfl rfl) rfl rfl rfl ?_
        refine JL.val (v := .bool (decide (x1 ≤ (102 : Int)))) (QV.pickT rfl rfl) rfl rfl rfl ?_
        refine JL.nil ?_
        refine QJ.then_normal ?_
        rcases ite_inv hm with ⟨h7, hm⟩ | ⟨h7, hm⟩
        ·
          refine JC.condT' rfl (decide_eq_true h7) ?_
          refine JC.seq ?_
          refine JC.region ?_
          refine JL.val (v := .int .u8 x1) (QV.move rfl) rfl rfl rfl ?_
          refine JL.val (v := .int .u8 (IntKind.wrap .u8 (x1 - (97 : Int)))) (QV.sub rfl rfl) rfl rfl rfl ?_
          refine JL.val (v := .int .u8 (IntKind.wrap .u8 ((IntKind.wrap .u8 (x1 - (97 : Int))) + (10 : Int)))) (QV.add rfl rfl) rfl rfl rfl ?_
          refine JL.val (v := .int .u8 (IntKind.wrap .u8 ((IntKind.wrap .u8 (x1 - (97 : Int))) + (10 : Int)))) (QV.assign rfl) rfl rfl rfl ?_
          refine JL.val (v := .bool true) (QV.assign rfl) rfl rfl rfl ?_
          refine JL.nil ?_
          refine QJ.then_normal ?_
          refine JC.ret ?_
          refine QJ.then_ret ?_
          obtain rfl := Option.some.inj hm
          exact QJ.body (vs := [.int .u8 (IntKind.wrap .u8 ((IntKind.wrap .u8 (x1 - (97 : Int))) + (10 : Int))), .bool true]) (.inl rfl) rfl (ResVs.cons (ResV.tmp rfl) (ResVs.cons (ResV.tmp rfl) ResVs.nil)) [] rfl rfl (.inr trivial) ⟨rfl, rfl⟩
        ·
          refine JC.condF' rfl (decide_eq_false h7) ?_
          refine JC.skip ?_
          refine QJ.then_normal ?_
          refine JC.seq ?_
          refine JC.region ?_
          refine JL.val (v := .int .u8 (0 : Int)) (QV.assign rfl) rfl rfl rfl ?_
          refine JL.val (v := .bool false) (QV.assign rfl) rfl rfl rfl ?_
          refine JL.nil ?_
          refine QJ.then_normal ?_
          refine JC.ret ?_
          obtain rfl := Option.some.inj hm
          exact QJ.body (vs := [.int .u8 (0 : Int), .bool false]) (.inl rfl) rfl (ResVs.cons (ResV.tmp rfl) (ResVs.cons (ResV.tmp rfl) ResVs.nil)) [] rfl rfl (.inr trivial) ⟨rfl, rfl⟩
      ·
        refine JL.val (v := .bool false) (QV.eq (QV.move rfl) (congrArg Value.bool (decide_eq_false h6))) rfl rfl rfl ?_
        refine JL.skip (d := some 15) rfl rfl rfl ?_
        refine JL.skip (d := some 16) rfl rfl rfl ?_
        refine JL.val (v := .bool false) (QV.pickF rfl rfl) rfl rfl rfl ?_
        refine JL.nil ?_
        refine QJ.then_normal ?_
        refine JC.condF rfl ?_
        refine JC.skip ?_
        refine QJ.then_normal ?_
        refine JC.seq ?_
        refine JC.region ?_
        refine JL.val (v := .int .u8 (0 : Int)) (QV.assign rfl) rfl rfl rfl ?_
        refine JL.val (v := .bool false) (QV.assign rfl) rfl rfl rfl ?_
        refine JL.nil ?_
        refine QJ.then_normal ?_
        refine JC.ret ?_
        obtain rfl := Option.some.inj hm
        exact QJ.body (vs := [.int .u8 (0 : Int), .bool false]) (.inl rfl) rfl (ResVs.cons (ResV.tmp rfl) (ResVs.cons (ResV.tmp rfl) ResVs.nil)) [] rfl rfl (.inr trivial) ⟨rfl, rfl⟩
  ·
    refine JL.val (v := .bool false) (QV.eq (QV.move rfl) (congrArg Value.bool (decide_eq_false h4))) rfl rfl rfl ?_
    refine JL.skip (d := some 7) rfl rfl rfl ?_
    refine JL.skip (d := some 8) rfl rfl rfl ?_
    refine JL.val (v := .bool false) (QV.pickF rfl rfl) rfl rfl rfl ?_
    refine JL.nil ?_
    refine QJ.then_normal ?_
    refine JC.condF rfl ?_
    refine JC.skip ?_
    refine QJ.then_normal ?_
    refine JC.seq ?_
    refine JC.seq ?_
    refine JC.region ?_
    refine JL.val (v := .int .u8 x1) (QV.move rfl) rfl rfl rfl ?_
    refine JL.val (v := .bool (decide ((97 : Int) ≤ x1))) (QV.geq rfl rfl) rfl rfl rfl ?_
    rcases ite_inv hm with ⟨h8, hm⟩ | ⟨h8, hm⟩
    ·
      refine JL.val (v := .bool true) (QV.eq (QV.move rfl) (congrArg Value.bool (decide_eq_true h8))) rfl rfl rfl ?_
      refine JL.val (v := .int .u8 x1) (QV.move rfl) rfl rfl rfl ?_
      refine JL.val (v := .bool (decide (x1 ≤ (102 : Int)))) (QV.leq rfl rfl) rfl rfl rfl ?_
      refine JL.val (v := .bool (decide (x1 ≤ (102 : Int)))) (QV.pickT rfl rfl) rfl rfl rfl ?_
      refine JL.nil ?_
      refine QJ.then_normal ?_
      rcases ite_inv hm with ⟨h9, hm⟩ | ⟨h9, hm⟩
      ·
        refine JC.condT' rfl (decide_eq_true h9) ?_
        refine JC.seq ?_
        refine JC.region ?_
        refine JL.val (v := .int .u8 x1) (QV.move rfl) rfl rfl rfl ?_
        refine JL.val (v := .int .u8 (IntKind.wrap .u8 (x1 - (97 : Int)))) (QV.sub rfl rfl) rfl rfl rfl ?_
        refine JL.val (v := .int .u8 (IntKind.wrap .u8 ((IntKind.wrap .u8 (x1 - (97 : Int))) + (10 : Int)))) (QV.add rfl rfl) rfl rfl rfl ?_
        refine JL.val (v := .int .u8 (IntKind.wrap .u8 ((IntKind.wrap .u8 (x1 - (97 : Int))) + (10 : Int)))) (QV.assign rfl) rfl rfl rfl ?_
        refine JL.val (v := .bool true) (QV.assign rfl) rfl rfl rfl ?_
        refine JL.nil ?_
        refine QJ.then_normal ?_
        refine JC.ret ?_
        refine QJ.then_ret ?_
        obtain rfl := Option.some.inj hm
        exact QJ.body (vs := [.int .u8 (IntKind.wrap .u8 ((IntKind.wrap .u8 (x1 - (97 : Int))) + (10 : Int))), .bool true]) (.inl rfl) rfl (ResVs.cons (ResV.tmp rfl) (ResVs.cons (ResV.tmp rfl) ResVs.nil)) [] rfl rfl (.inr trivial) ⟨rfl, rfl⟩
      ·
        refine JC.condF' rfl (decide_eq_false h9) ?_
        refine JC.skip ?_
        refine QJ.then_normal ?_
        refine JC.seq ?_
        refine JC.region ?_
        refine JL.val (v := .int .u8 (0 : Int)) (QV.assign rfl) rfl rfl rfl ?_
        refine JL.val (v := .bool false) (QV.assign rfl) rfl rfl rfl ?_
        refine JL.nil ?_
        refine QJ.then_normal ?_
        refine JC.ret ?_
        obtain rfl := Option.some.inj hm
        exact QJ.body (vs := [.int .u8 (0 : Int), .bool false]) (.inl rfl) rfl (ResVs.cons (ResV.tmp rfl) (ResVs.cons (ResV.tmp rfl) ResVs.nil)) [] rfl rfl (.inr trivial) ⟨rfl, rfl⟩
    ·
      refine JL.val (v := .bool false) (QV.eq (QV.move rfl) (congrArg Value.bool (decide_eq_false h8))) rfl rfl rfl ?_
      refine JL.skip (d := some 15) rfl rfl rfl ?_
      refine JL.skip (d := some 16) rfl rfl rfl ?_
      refine JL.val (v := .bool false) (QV.pickF rfl rfl) rfl rfl rfl ?_
      refine JL.nil ?_
      refine QJ.then_normal ?_
      refine JC.condF rfl ?_
      refine JC.skip ?_
      refine QJ.then_normal ?_
      refine JC.seq ?_
      refine JC.region ?_
      refine JL.val (v := .int .u8 (0 : Int)) (QV.assign rfl) rfl rfl rfl ?_
      refine JL.val (v := .bool false) (QV.assign rfl) rfl rfl rfl ?_
      refine JL.nil ?_
      refine QJ.then_normal ?_
      refine JC.ret ?_
      obtain rfl := Option.some.inj hm
      exact QJ.body (vs := [.int .u8 (0 : Int), .bool false]) (.inl rfl) rfl (ResVs.cons (ResV.tmp rfl) (ResVs.cons (ResV.tmp rfl) ResVs.nil)) [] rfl rfl (.inr trivial) ⟨rfl, rfl⟩

/-! ### 23: drogher/drogherref30.Unhex -/
noncomputable def F23.j1  (d10 : List Int) : Option (List Int × Bool) :=
  some (d10, true)
noncomputable def F23.b1 (x1 : ByteArray) : (List Int × Int) → Option ((List Int × Int) ⊕ (((List Int × Bool)) ⊕ (List Int)))
  | (d12, d13) => (if d13 < ((x1).size : Int) then (if 0 ≤ d13 then (if d13 < (x1).size then ((F61.m ((bt x1 d13))).bind fun y24 => (if 0 ≤ (IntKind.wrap .i64 (d13 + (1 : Int))) then (if (IntKind.wrap .i64 (d13 + (1 : Int))) < (x1).size then ((F61.m ((bt x1 (IntKind.wrap .i64 (d13 + (1 : Int)))))).bind fun y28 => (if y24.2 = true then (if y28.2 = true then (if ((d12).length + ([(IntKind.wrap .u8 ((IntKind.wrap .u8 ((16 : Int) * y24.1)) + y28.1))]).length) * 1 ≤ 140737488355328 ∧ (d12).length + ([(IntKind.wrap .u8 ((IntKind.wrap .u8 ((16 : Int) * y24.1)) + y28.1))]).length ≤ 9223372036854775807 then some (.inl ((d12 ++ [(IntKind.wrap .u8 ((IntKind.wrap .u8 ((16 : Int) * y24.1)) + y28.1))]), (IntKind.wrap .i64 (d13 + (2 : Int))))) else none) else some (.inr (.inl ((([] : List Int), false))))) else some (.inr (.inl ((([] : List Int), false)))))) else none) else none)) else none) else none) else some (.inr (.inr (d12))))
noncomputable def F23.m (x1 : ByteArray) : Option (List Int × Bool) :=
  (if x1 = (⟨#[46]⟩ : ByteArray) then some (([] : List Int), true) else (if x1 = (⟨#[]⟩ : ByteArray) then some (([] : List Int), false) else (if (Int.tmod ((x1).size : Int) (2 : Int)) = (1 : Int) then some (([] : List Int), false) else ((loop (F23.b1 x1) (([] : List Int), (0 : Int))).bind fun y => match y with | .inl r => some r | .inr d10 => F23.j1 (d10)))))
set_option maxRecDepth 100000 in
set_option maxHeartbeats 4000000 in
theorem F23.spec (x1 : ByteArray) (r : (List Int × Bool)) (hm : F23.m x1 = some r) :
    Ctr Try.prog false 23 [.string x1] [] (fun v L' => ∃ (g2 : SlV), v = .tuple #[g2.v, .bool r.2] ∧ L' = [Asr.of 5 (Enc.int .u8) (g2.v) r.1]) := by
  refine Ctr.intro (n := 59) (env := [(0, .string x1)]) Try.func23 rfl rfl rfl rfl (fun c => ?_)
  unfold F23.m at hm
  refine JC.seq ?_
  refine JC.region ?_
  refine JL.ent (fun _ hs => hs.nil 5 (Enc.int .u8)) ?_
  refine JL.val (v := SlV.nil.v) (QV.assign rfl) rfl rfl rfl ?_
  refine JL.val (v := .bool false) (QV.assign rfl) rfl rfl rfl ?_
  refine JL.nil ?_
  refine QJ.then_normal ?_
  refine JC.seq ?_
  refine JC.region ?_
  refine JL.mv (d := some 10) (MV.lit0 (Enc.int .u8) Try.underlying26 (by kernel_rfl)) rfl rfl rfl ?_
  rintro _ _ ⟨z5, rfl, rfl⟩
  refine JL.val (v := z5.v) (QV.assign rfl) rfl rfl rfl ?_
  refine JL.nil ?_
  refine QJ.then_normal ?_
  refine JC.seq ?_
  refine JC.seq ?_
  refine JC.region ?_
  refine JL.val (v := .string x1) (QV.move rfl) rfl rfl rfl ?_
  refine JL.val (v := .bool (decide (x1 = (⟨#[46]⟩ : ByteArray)))) (QV.eqlS rfl rfl) rfl rfl rfl ?_
  refine JL.nil ?_
  refine QJ.then_normal ?_
  rcases ite_inv hm with ⟨h6, hm⟩ | ⟨h6, hm⟩
  ·
    refine JC.condT' rfl (decide_eq_true h6) ?_
    refine JC.seq ?_
    refine JC.region ?_
    refine JL.val (v := z5.v) (QV.move rfl) rfl rfl rfl ?_
    refine JL.val (v := z5.v) (QV.assign rfl) rfl rfl rfl ?_
    refine JL.val (v := .bool true) (QV.assign rfl) rfl rfl rfl ?_
    refine JL.nil ?_
    refine QJ.then_normal ?_
    refine JC.ret ?_
    refine QJ.then_ret ?_
    obtain rfl := Option.some.inj hm
    exact QJ.body (vs := [z5.v, .bool true]) (.inl rfl) rfl (ResVs.cons (ResV.tmp rfl) (ResVs.cons (ResV.tmp rfl) ResVs.nil)) [0] rfl rfl (.inr ⟨own_of _ _ _ _, trivial⟩) ⟨z5, rfl, rfl⟩
  ·
    refine JC.condF' rfl (decide_eq_false h6) ?_
    refine JC.skip ?_
    refine QJ.then_normal ?_
    refine JC.seq ?_
    refine JC.seq ?_
    refine JC.region ?_
    refine JL.val (v := .string x1) (QV.move rfl) rfl rfl rfl ?_
    refine JL.val (v := .bool (decide (x1 = (⟨#[]⟩ : ByteArray)))) (QV.eqlS rfl rfl) rfl rfl rfl ?_
    rcases ite_inv hm with ⟨h7, hm⟩ | ⟨h7, hm⟩
    ·
      refine JL.val (v := .bool true) (QV.eq (QV.move rfl) (congrArg Value.bool (decide_eq_true h7))) rfl rfl rfl ?_
      refine JL.skip (d := some 17) rfl rfl rfl ?_
      refine JL.skip (d := some 18) rfl rfl rfl ?_
      refine JL.skip (d := some 19) rfl rfl rfl ?_
      refine JL.skip (d := some 20) rfl rfl rfl ?_
      refine JL.val (v := .bool true) (QV.pickT rfl rfl) rfl rfl rfl ?_
      refine JL.nil ?_
      refine QJ.then_normal ?_
      refine JC.condT rfl ?_
      refine JC.seq ?_
      refine JC.region ?_
      refine JL.val (v := z5.v) (QV.move rfl) rfl rfl rfl ?_
      refine JL.val (v := z5.v) (QV.assign rfl) rfl rfl rfl ?_
      refine JL.val (v := .bool false) (QV.assign rfl) rfl rfl rfl ?_
      refine JL.nil ?_
      refine QJ.then_normal ?_
      refine JC.ret ?_
      refine QJ.then_ret ?_
      obtain rfl := Option.some.inj hm
      exact QJ.body (vs := [z5.v, .bool false]) (.inl rfl) rfl (ResVs.cons (ResV.tmp rfl) (ResVs.cons (ResV.tmp rfl) ResVs.nil)) [0] rfl rfl (.inr ⟨own_of _ _ _ _, trivial⟩) ⟨z5, rfl, rfl⟩
    ·
      refine JL.val (v := .bool false) (QV.eq (QV.move rfl) (congrArg Value.bool (decide_eq_false h7))) rfl rfl rfl ?_
      refine JL.val (v := .string x1) (QV.move rfl) rfl rfl rfl ?_
      refine JL.val (v := .int .i64 ((x1).size : Int)) (QV.lenS Try.underlying9 rfl) rfl rfl rfl ?_
      refine JL.val (v := .int .i64 (Int.tmod ((x1).size : Int) (2 : Int))) (QV.rem rfl rfl (by decide)) rfl rfl rfl ?_
      refine JL.val (v := .bool (decide ((Int.tmod ((x1).size : Int) (2 : Int)) = (1 : Int)))) (QV.eql rfl rfl) rfl rfl rfl ?_
      refine JL.val (v := .bool (decide ((Int.tmod ((x1).size : Int) (2 : Int)) = (1 : Int)))) (QV.pickF rfl rfl) rfl rfl rfl ?_
      refine JL.nil ?_
      refine QJ.then_normal ?_
      rcases ite_inv hm with ⟨h8, hm⟩ | ⟨h8, hm⟩
      ·
        refine JC.condT' rfl (decide_eq_true h8) ?_
        refine JC.seq ?_
        refine JC.region ?_
        refine JL.val (v := z5.v) (QV.move rfl) rfl rfl rfl ?_
        refine JL.val (v := z5.v) (QV.assign rfl) rfl rfl rfl ?_
        refine JL.val (v := .bool false) (QV.assign rfl) rfl rfl rfl ?_
        refine JL.nil ?_
        refine QJ.then_normal ?_
        refine JC.ret ?_
        refine QJ.then_ret ?_
        obtain rfl := Option.some.inj hm
        exact QJ.body (vs := [z5.v, .bool false]) (.inl rfl) rfl (ResVs.cons (ResV.tmp rfl) (ResVs.cons (ResV.tmp rfl) ResVs.nil)) [0] rfl rfl (.inr ⟨own_of _ _ _ _, trivial⟩) ⟨z5, rfl, rfl⟩
      ·
        refine JC.condF' rfl (decide_eq_false h8) ?_
        refine JC.skip ?_
        refine QJ.then_normal ?_
        refine JC.seq ?_
        refine JC.seq ?_
        refine JC.region ?_
        refine JL.val (v := .int .i64 (0 : Int)) (QV.assign rfl) rfl rfl rfl ?_
        refine JL.nil ?_
        refine QJ.then_normal ?_
        refine JC.cutK (Y := (List Int) × SlV) (fun y => match y with | (d10, _) => F23.j1 (d10) = some r) (fun y => match y with | (d10, z9) => [(4, z9.v)]) (fun y => match y with | (d10, z9) => [Asr.of 5 (Enc.int .u8) (z9.v) d10]) ?_ ?_
        ·
          rintro ⟨d10, z9⟩ hm
          unfold F23.j1 at hm
          show QJ _ _ [(4, z9.v)] [Asr.of 5 (Enc.int .u8) (z9.v) d10] _ _
          refine QJ.then_normal ?_
          refine JC.seq ?_
          refine JC.region ?_
          refine JL.val (v := z9.v) (QV.move rfl) rfl rfl rfl ?_
          refine JL.val (v := z9.v) (QV.assign rfl) rfl rfl rfl ?_
          refine JL.val (v := .bool true) (QV.assign rfl) rfl rfl rfl ?_
          refine JL.nil ?_
          refine QJ.then_normal ?_
          refine JC.ret ?_
          obtain rfl := Option.some.inj hm
          exact QJ.body (vs := [z9.v, .bool true]) (.inl rfl) rfl (ResVs.cons (ResV.tmp rfl) (ResVs.cons (ResV.tmp rfl) ResVs.nil)) [0] rfl rfl (.inr ⟨own_of _ _ _ _, trivial⟩) ⟨z9, rfl, rfl⟩
        ·
          refine JC.block ?_
          obtain ⟨y17, hl18, hmo19⟩ := bind_inv hm
          refine JC.loop (F23.b1 x1) (fun x z => match x, z with | (d12, d13), z11 => [(0, .string x1), (4, z11.v), (5, .int .i64 d13)]) (fun x z => match x, z with | (d12, d13), z11 => [Asr.of 5 (Enc.int .u8) (z11.v) d12]) (([] : List Int), (0 : Int)) z5 y17 hl18 [0] (by exact ⟨rfl, rfl, rfl, trivial⟩) rfl rfl ?_
          rintro ⟨d12, d13⟩ z11 s20 hm
          unfold F23.b1 at hm
          dsimp only at hm
          show JC _ _ _ [(0, .string x1), (4, z11.v), (5, .int .i64 d13)] [Asr.of 5 (Enc.int .u8) (z11.v) d12] _ _
          refine JC.seq ?_
          refine JC.seq ?_
          refine JC.region ?_
          refine JL.val (v := .int .i64 d13) (QV.move rfl) rfl rfl rfl ?_
          refine JL.val (v := .string x1) (QV.move rfl) rfl rfl rfl ?_
          refine JL.val (v := .int .i64 ((x1).size : Int)) (QV.lenS Try.underlying9 rfl) rfl rfl rfl ?_
          refine JL.val (v := .bool (decide (d13 < ((x1).size : Int)))) (QV.lss rfl rfl) rfl rfl rfl ?_
          refine JL.nil ?_
          refine QJ.then_normal ?_
          rcases ite_inv hm with ⟨h21, hm⟩ | ⟨h21, hm⟩
          ·
            refine JC.condT' rfl (decide_eq_true h21) ?_
            refine JC.skip ?_
            refine QJ.then_normal ?_
            refine JC.seq ?_
            refine JC.block ?_
            refine JC.seq ?_
            refine JC.region ?_
            refine JL.val (v := .string x1) (QV.move rfl) rfl rfl rfl ?_
            refine JL.val (v := .int .i64 d13) (QV.move rfl) rfl rfl rfl ?_
            obtain ⟨h22, hm⟩ := guard_inv hm
            obtain ⟨h23, hm⟩ := guard_inv hm
            refine JL.val (v := .int .u8 (bt x1 d13)) (QV.indexS Try.underlying9 rfl rfl h22 h23) rfl rfl rfl ?_
            obtain ⟨y24, hc25, hm⟩ := bind_inv hm
            refine JL.mv (d := some 33) (MV.call (Lo := []) (Lr := [Asr.of 5 (Enc.int .u8) (z11.v) d12]) (F61.spec ((bt x1 d13)) _ hc25) rfl Try.func61 rfl rfl rfl [] [0] rfl rfl rfl trivial) rfl rfl rfl ?_
            rintro _ _ ⟨_, ⟨rfl, rfl⟩, rfl⟩
            refine JL.val (v := .tuple #[.int .u8 y24.1, .bool y24.2]) (QV.move rfl) rfl rfl rfl ?_
            refine JL.val (v := .int .u8 y24.1) (QV.extract (vs := [.int .u8 y24.1, .bool y24.2]) rfl rfl) rfl rfl rfl ?_
            refine JL.val (v := .bool y24.2) (QV.extract (vs := [.int .u8 y24.1, .bool y24.2]) rfl rfl) rfl rfl rfl ?_
            refine JL.val (v := .int .u8 y24.1) (QV.assign rfl) rfl rfl rfl ?_
            refine JL.val (v := .bool y24.2) (QV.assign rfl) rfl rfl rfl ?_
            refine JL.nil ?_
            refine QJ.then_normal ?_
            refine JC.seq ?_
            refine JC.region ?_
            refine JL.val (v := .string x1) (QV.move rfl) rfl rfl rfl ?_
            refine JL.val (v := .int .i64 d13) (QV.move rfl) rfl rfl rfl ?_
            refine JL.val (v := .int .i64 (IntKind.wrap .i64 (d13 + (1 : Int)))) (QV.add rfl rfl) rfl rfl rfl ?_
            obtain ⟨h26, hm⟩ := guard_inv hm
            obtain ⟨h27, hm⟩ := guard_inv hm
            refine JL.val (v := .int .u8 (bt x1 (IntKind.wrap .i64 (d13 + (1 : Int))))) (QV.indexS Try.underlying9 rfl rfl h26 h27) rfl rfl rfl ?_
            obtain ⟨y28, hc29, hm⟩ := bind_inv hm
            refine JL.mv (d := some 41) (MV.call (Lo := []) (Lr := [Asr.of 5 (Enc.int .u8) (z11.v) d12]) (F61.spec ((bt x1 (IntKind.wrap .i64 (d13 + (1 : Int))))) _ hc29) rfl Try.func61 rfl rfl rfl [] [0] rfl rfl rfl trivial) rfl rfl rfl ?_
            rintro _ _ ⟨_, ⟨rfl, rfl⟩, rfl⟩
            refine JL.val (v := .tuple #[.int .u8 y28.1, .bool y28.2]) (QV.move rfl) rfl rfl rfl ?_
            refine JL.val (v := .int .u8 y28.1) (QV.extract (vs := [.int .u8 y28.1, .bool y28.2]) rfl rfl) rfl rfl rfl ?_
            refine JL.val (v := .bool y28.2) (QV.extract (vs := [.int .u8 y28.1, .bool y28.2]) rfl rfl) rfl rfl rfl ?_
            refine JL.val (v := .int .u8 y28.1) (QV.assign rfl) rfl rfl rfl ?_
            refine JL.val (v := .bool y28.2) (QV.assign rfl) rfl rfl rfl ?_
            refine JL.nil ?_
            refine QJ.then_normal ?_
            refine JC.seq ?_
            refine JC.seq ?_
            refine JC.region ?_
            refine JL.val (v := .bool y24.2) (QV.move rfl) rfl rfl rfl ?_
            refine JL.val (v := .bool (!y24.2)) (QV.not rfl) rfl rfl rfl ?_
            rcases ite_inv hm with ⟨h30, hm⟩ | ⟨h30, hm⟩
            ·
              refine JL.val (v := .bool false) (QV.eq (QV.move rfl) (congrArg Value.bool (congrArg Bool.not h30))) rfl rfl rfl ?_
              refine JL.val (v := .bool y28.2) (QV.move rfl) rfl rfl rfl ?_
              refine JL.val (v := .bool (!y28.2)) (QV.not rfl) rfl rfl rfl ?_
              refine JL.val (v := .bool (!y28.2)) (QV.pickF rfl rfl) rfl rfl rfl ?_
              refine JL.nil ?_
              refine QJ.then_normal ?_
              rcases ite_inv hm with ⟨h31, hm⟩ | ⟨h31, hm⟩
              ·
                refine JC.condF' rfl (congrArg Bool.not h31) ?_
                refine JC.skip ?_
                refine QJ.then_normal ?_
                refine JC.region ?_
                refine JL.val (v := z11.v) (QV.move rfl) rfl rfl rfl ?_
                refine JL.val (v := .int .u8 y24.1) (QV.move rfl) rfl rfl rfl ?_
                refine JL.val (v := .int .u8 (IntKind.wrap .u8 ((16 : Int) * y24.1))) (QV.mul rfl rfl) rfl rfl rfl ?_
                refine JL.val (v := .int .u8 y28.1) (QV.move rfl) rfl rfl rfl ?_
                refine JL.val (v := .int .u8 (IntKind.wrap .u8 ((IntKind.wrap .u8 ((16 : Int) * y24.1)) + y28.1))) (QV.add rfl rfl) rfl rfl rfl ?_
                refine JL.mv (d := some 56) (MV.lit (E := (Enc.int .u8)) (vals := [(0, .int .u8 (IntKind.wrap .u8 ((IntKind.wrap .u8 ((16 : Int) * y24.1)) + y28.1)))]) [(IntKind.wrap .u8 ((IntKind.wrap .u8 ((16 : Int) * y24.1)) + y28.1))] Try.underlying26 zi_5 rfl (by decide) rfl (by kernel_rfl)) rfl rfl rfl ?_
                rintro _ _ ⟨z32, rfl, rfl⟩
                obtain ⟨h33, hm⟩ := guard_inv hm
                refine JL.mv (d := some 57) (MV.append 1 rfl (Rdg.of 0 rfl) Try.underlying26 zi_5 rfl (by decide) rfl rfl h33) rfl rfl rfl ?_
                rintro _ _ ⟨z34, rfl, rfl⟩
                refine JL.val (v := z34.v) (QV.assign rfl) rfl rfl rfl ?_
                refine JL.nil ?_
                refine QJ.block_normal ?_
                refine QJ.then_normal ?_
                refine JC.region ?_
                refine JL.val (v := .int .i64 d13) (QV.move rfl) rfl rfl rfl ?_
                refine JL.val (v := .int .i64 (IntKind.wrap .i64 (d13 + (2 : Int)))) (QV.add rfl rfl) rfl rfl rfl ?_
                refine JL.val (v := .int .i64 (IntKind.wrap .i64 (d13 + (2 : Int)))) (QV.assign rfl) rfl rfl rfl ?_
                refine JL.nil ?_
                obtain rfl := Option.some.inj hm
                exact QJ.round_on ((d12 ++ [(IntKind.wrap .u8 ((IntKind.wrap .u8 ((16 : Int) * y24.1)) + y28.1))]), (IntKind.wrap .i64 (d13 + (2 : Int)))) z34 [1] (by exact ⟨rfl, rfl, rfl, trivial⟩) rfl rfl
              ·
                refine JC.condT' rfl (congrArg Bool.not (bfalse h31)) ?_
                refine JC.seq ?_
                refine JC.region ?_
                refine JL.mv (d := some 50) (MV.lit0 (Enc.int .u8) Try.underlying26 (by kernel_rfl)) rfl rfl rfl ?_
                rintro _ _ ⟨z35, rfl, rfl⟩
                refine JL.val (v := z35.v) (QV.assign rfl) rfl rfl rfl ?_
                refine JL.val (v := .bool false) (QV.assign rfl) rfl rfl rfl ?_
                refine JL.nil ?_
                refine QJ.then_normal ?_
                refine JC.ret ?_
                refine QJ.then_ret ?_
                refine QJ.block_ret ?_
                refine QJ.then_ret ?_
                obtain rfl := Option.some.inj hm
                refine QJ.round_ret (fun hy => ?_)
                subst hy
                refine QJ.block_ret ?_
                refine QJ.cut_ret ?_
                refine QJ.then_ret ?_
                obtain rfl := Option.some.inj hmo19
                exact QJ.body (vs := [z35.v, .bool false]) (.inl rfl) rfl (ResVs.cons (ResV.tmp rfl) (ResVs.cons (ResV.tmp rfl) ResVs.nil)) [0] rfl rfl (.inr ⟨own_of _ _ _ _, trivial⟩) ⟨z35, rfl, rfl⟩
            ·
              refine JL.val (v := .bool true) (QV.eq (QV.move rfl) (congrArg Value.bool (congrArg Bool.not (bfalse h30)))) rfl rfl rfl ?_
              refine JL.skip (d := some 47) rfl rfl rfl ?_
              refine JL.skip (d := some 48) rfl rfl rfl ?_
              refine JL.val (v := .bool true) (QV.pickT rfl rfl) rfl rfl rfl ?_
              refine JL.nil ?_
              refine QJ.then_normal ?_
              refine JC.condT rfl ?_
              refine JC.seq ?_
              refine JC.region ?_
              refine JL.mv (d := some 50) (MV.lit0 (Enc.int .u8) Try.underlying26 (by kernel_rfl)) rfl rfl rfl ?_
              rintro _ _ ⟨z36, rfl, rfl⟩
              refine JL.val (v := z36.v) (QV.assign rfl) rfl rfl rfl ?_
              refine JL.val (v := .bool false) (QV.assign rfl) rfl rfl rfl ?_
              refine JL.nil ?_
              refine QJ.then_normal ?_
              refine JC.ret ?_
              refine QJ.then_ret ?_
              refine QJ.block_ret ?_
              refine QJ.then_ret ?_
              obtain rfl := Option.some.inj hm
              refine QJ.round_ret (fun hy => ?_)
              subst hy
              refine QJ.block_ret ?_
              refine QJ.cut_ret ?_
              refine QJ.then_ret ?_
              obtain rfl := Option.some.inj hmo19
              exact QJ.body (vs := [z36.v, .bool false]) (.inl rfl) rfl (ResVs.cons (ResV.tmp rfl) (ResVs.cons (ResV.tmp rfl) ResVs.nil)) [0] rfl rfl (.inr ⟨own_of _ _ _ _, trivial⟩) ⟨z36, rfl, rfl⟩
          ·
            refine JC.condF' rfl (decide_eq_false h21) ?_
            refine JC.exit ?_
            refine QJ.then_exit ?_
            obtain rfl := Option.some.inj hm
            refine QJ.round_exit (fun hy => ?_)
            subst hy
            refine QJ.block_hit ?_
            exact QJ.cut_normal (d12, z11) hmo19 [0] (by exact ⟨rfl, trivial⟩) rfl rfl

/-! ### 62: drogher/drogherref30.digit -/
noncomputable def F62.m (x1 : Int) : Option ByteArray :=
  (if x1 < (10 : Int) then some (strOfNums [(IntKind.wrap .u8 ((48 : Int) + x1))]) else some (strOfNums [(IntKind.wrap .u8 ((IntKind.wrap .u8 ((97 : Int) + x1)) - (10 : Int)))]))
set_option maxRecDepth 100000 in
set_option maxHeartbeats 4000000 in
theorem F62.spec (x1 : Int) (r : ByteArray) (hm : F62.m x1 = some r) :
    Ctr Try.prog false 62 [.int .u8 x1] [] (fun v L' => v = .string r ∧ L' = []) := by
  refine Ctr.intro (n := 14) (env := [(0, .int .u8 x1)]) Try.func62 rfl rfl rfl rfl (fun c => ?_)
  unfold F62.m at hm
  refine JC.seq ?_
  refine JC.region ?_
  refine JL.val (v := .string (⟨#[]⟩ : ByteArray)) (QV.assign rfl) rfl rfl rfl ?_
  refine JL.nil ?_
  refine QJ.then_normal ?_
  refine JC.seq ?_
  refine JC.seq ?_
  refine JC.region ?_
  refine JL.val (v := .int .u8 x1) (QV.move rfl) rfl rfl rfl ?_
  refine JL.val (v := .bool (decide (x1 < (10 : Int)))) (QV.lss rfl rfl) rfl rfl rfl ?_
  refine JL.nil ?_
  refine QJ.then_normal ?_
  rcases ite_inv hm with ⟨h3, hm⟩ | ⟨h3, hm⟩
  ·
    refine JC.condT' rfl (decide_eq_true h3) ?_
    refine JC.seq ?_
    refine JC.region ?_
    refine JL.val (v := .int .u8 x1) (QV.move rfl) rfl rfl rfl ?_
    refine JL.val (v := .int .u8 (IntKind.wrap .u8 ((48 : Int) + x1))) (QV.add rfl rfl) rfl rfl rfl ?_
    refine JL.mv (d := some 7) (MV.lit (E := (Enc.int .u8)) (vals := [(0, .int .u8 (IntKind.wrap .u8 ((48 : Int) + x1)))]) [(IntKind.wrap .u8 ((48 : Int) + x1))] Try.underlying26 zi_5 rfl (by decide) rfl (by kernel_rfl)) rfl rfl rfl ?_
    rintro _ _ ⟨z4, rfl, rfl⟩
    refine JL.val (v := .string (strOfNums [(IntKind.wrap .u8 ((48 : Int) + x1))])) (QV.str (Rdg.of 0 rfl) Try.underlying26 Try.underlying5 Try.underlying9 rfl) rfl rfl rfl ?_
    refine JL.val (v := .string (strOfNums [(IntKind.wrap .u8 ((48 : Int) + x1))])) (QV.assign rfl) rfl rfl rfl ?_
    refine JL.nil ?_
    refine QJ.then_normal ?_
    refine JC.ret ?_
    refine QJ.then_ret ?_
    obtain rfl := Option.some.inj hm
    exact QJ.body (vs := [.string (strOfNums [(IntKind.wrap .u8 ((48 : Int) + x1))])]) (.inl rfl) rfl (ResVs.cons (ResV.tmp rfl) ResVs.nil) [] rfl rfl (.inr trivial) ⟨rfl, rfl⟩
  ·
    refine JC.condF' rfl (decide_eq_false h3) ?_
    refine JC.skip ?_
    refine QJ.then_normal ?_
    refine JC.seq ?_
    refine JC.region ?_
    refine JL.val (v := .int .u8 x1) (QV.move rfl) rfl rfl rfl ?_
    refine JL.val (v := .int .u8 (IntKind.wrap .u8 ((97 : Int) + x1))) (QV.add rfl rfl) rfl rfl rfl ?_
    refine JL.val (v := .int .u8 (IntKind.wrap .u8 ((IntKind.wrap .u8 ((97 : Int) + x1)) - (10 : Int)))) (QV.sub rfl rfl) rfl rfl rfl ?_
    refine JL.mv (d := some 12) (MV.lit (E := (Enc.int .u8)) (vals := [(0, .int .u8 (IntKind.wrap .u8 ((IntKind.wrap .u8 ((97 : Int) + x1)) - (10 : Int))))]) [(IntKind.wrap .u8 ((IntKind.wrap .u8 ((97 : Int) + x1)) - (10 : Int)))] Try.underlying26 zi_5 rfl (by decide) rfl (by kernel_rfl)) rfl rfl rfl ?_
    rintro _ _ ⟨z5, rfl, rfl⟩
    refine JL.val (v := .string (strOfNums [(IntKind.wrap .u8 ((IntKind.wrap .u8 ((97 : Int) + x1)) - (10 : Int)))])) (QV.str (Rdg.of 0 rfl) Try.underlying26 Try.underlying5 Try.underlying9 rfl) rfl rfl rfl ?_
    refine JL.val (v := .string (strOfNums [(IntKind.wrap .u8 ((IntKind.wrap .u8 ((97 : Int) + x1)) - (10 : Int)))])) (QV.assign rfl) rfl rfl rfl ?_
    refine JL.nil ?_
    refine QJ.then_normal ?_
    refine JC.ret ?_
    obtain rfl := Option.some.inj hm
    exact QJ.body (vs := [.string (strOfNums [(IntKind.wrap .u8 ((IntKind.wrap .u8 ((97 : Int) + x1)) - (10 : Int)))])]) (.inl rfl) rfl (ResVs.cons (ResV.tmp rfl) ResVs.nil) [] rfl rfl (.inr trivial) ⟨rfl, rfl⟩

/-! ### 24: drogher/drogherref30.Hex -/
noncomputable def F24.j1  (d5 : ByteArray) : Option ByteArray :=
  some d5
noncomputable def F24.b1 (x2 : List Int) : (ByteArray × Int) → Option ((ByteArray × Int) ⊕ ByteArray)
  | (d6, d7) => (if d7 < ((x2).length : Int) then (if 0 ≤ d7 ∧ d7 < ((x2).length : Int) then ((F62.m ((IntKind.wrap .u8 (Int.tdiv (gd x2 d7) (16 : Int))))).bind fun y16 => (if (d6).size + (y16).size ≤ 9223372036854775807 then ((F62.m ((Int.tmod (gd x2 d7) (16 : Int)))).bind fun y19 => (if ((d6 ++ y16)).size + (y19).size ≤ 9223372036854775807 then some (.inl (((d6 ++ y16) ++ y19), (IntKind.wrap .i64 (d7 + (1 : Int))))) else none)) else none)) else none) else some (.inr d6))
noncomputable def F24.m (x2 : List Int) : Option ByteArray :=
  (if ((x2).length : Int) = (0 : Int) then some (⟨#[46]⟩ : ByteArray) else ((loop (F24.b1 x2) ((⟨#[]⟩ : ByteArray), (0 : Int))).bind fun y => match y with | d5 => F24.j1 (d5)))
set_option maxRecDepth 100000 in
set_option maxHeartbeats 4000000 in
theorem F24.spec (s1 : SlV) (x2 : List Int) (r : ByteArray) (hm : F24.m x2 = some r) :
    Ctr Try.prog false 24 [s1.v] [Asr.vw (Enc.int .u8) (s1.v) x2] (fun v L' => v = .string r ∧ L' = []) := by
  refine Ctr.intro (n := 30) (env := [(0, s1.v)]) Try.func24 rfl rfl rfl rfl (fun c => ?_)
  unfold F24.m at hm
  refine JC.seq ?_
  refine JC.region ?_
  refine JL.val (v := .string (⟨#[]⟩ : ByteArray)) (QV.assign rfl) rfl rfl rfl ?_
  refine JL.nil ?_
  refine QJ.then_normal ?_
  refine JC.seq ?_
  refine JC.seq ?_
  refine JC.region ?_
  refine JL.val (v := s1.v) (QV.move rfl) rfl rfl rfl ?_
  refine JL.val (v := .int .i64 ((x2).length : Int)) (QV.len (Rdg.vw 0 rfl) Try.underlying26 rfl) rfl rfl rfl ?_
  refine JL.val (v := .bool (decide (((x2).length : Int) = (0 : Int)))) (QV.eql rfl rfl) rfl rfl rfl ?_
  refine JL.nil ?_
  refine QJ.then_normal ?_
  rcases ite_inv hm with ⟨h4, hm⟩ | ⟨h4, hm⟩
  ·
    refine JC.condT' rfl (decide_eq_true h4) ?_
    refine JC.seq ?_
    refine JC.region ?_
    refine JL.val (v := .string (⟨#[46]⟩ : ByteArray)) (QV.assign rfl) rfl rfl rfl ?_
    refine JL.nil ?_
    refine QJ.then_normal ?_
    refine JC.ret ?_
    refine QJ.then_ret ?_
    obtain rfl := Option.some.inj hm
    exact QJ.body (vs := [.string (⟨#[46]⟩ : ByteArray)]) (.inl rfl) rfl (ResVs.cons (ResV.tmp rfl) ResVs.nil) [] rfl rfl (.inr trivial) ⟨rfl, rfl⟩
  ·
    refine JC.condF' rfl (decide_eq_false h4) ?_
    refine JC.skip ?_
    refine QJ.then_normal ?_
    refine JC.seq ?_
    refine JC.region ?_
    refine JL.val (v := .string (⟨#[]⟩ : ByteArray)) (QV.assign rfl) rfl rfl rfl ?_
    refine JL.nil ?_
    refine QJ.then_normal ?_
    refine JC.seq ?_
    refine JC.seq ?_
    refine JC.region ?_
    refine JL.val (v := s1.v) (QV.move rfl) rfl rfl rfl ?_
    refine JL.val (v := .int .i64 ((x2).length : Int)) (QV.len (Rdg.vw 0 rfl) Try.underlying26 rfl) rfl rfl rfl ?_
    refine JL.val (v := .int .i64 (0 : Int)) (QV.move rfl) rfl rfl rfl ?_
    refine JL.nil ?_
    refine QJ.then_normal ?_
    refine JC.cutK (Y := ByteArray × Unit) (fun y => match y with | (d5, _) => F24.j1 (d5) = some r) (fun y => match y with | (d5, _) => [(3, .string d5)]) (fun y => match y with | (d5, _) => []) ?_ ?_
    ·
      rintro ⟨d5, ⟨⟩⟩ hm
      unfold F24.j1 at hm
      show QJ _ _ [(3, .string d5)] [] _ _
      refine QJ.then_normal ?_
      refine JC.seq ?_
      refine JC.region ?_
      refine JL.val (v := .string d5) (QV.move rfl) rfl rfl rfl ?_
      refine JL.val (v := .string d5) (QV.assign rfl) rfl rfl rfl ?_
      refine JL.nil ?_
      refine QJ.then_normal ?_
      refine JC.ret ?_
      obtain rfl := Option.some.inj hm
      exact QJ.body (vs := [.string d5]) (.inl rfl) rfl (ResVs.cons (ResV.tmp rfl) ResVs.nil) [] rfl rfl (.inr trivial) ⟨rfl, rfl⟩
    ·
      refine JC.block ?_
      obtain ⟨y10, hl11, hmo12⟩ := bind_inv hm
      refine JC.loop (F24.b1 x2) (fun x z => match x, z with | (d6, d7), _ => [(0, s1.v), (3, .string d6), (9, .int .i64 ((x2).length : Int)), (10, .int .i64 d7)]) (fun x z => match x, z with | (d6, d7), _ => [Asr.vw (Enc.int .u8) (s1.v) x2]) ((⟨#[]⟩ : ByteArray), (0 : Int)) () y10 hl11 [0] (by exact ⟨rfl, rfl, rfl, rfl, trivial⟩) rfl rfl ?_
      rintro ⟨d6, d7⟩ ⟨⟩ s13 hm
      unfold F24.b1 at hm
      dsimp only at hm
      show JC _ _ _ [(0, s1.v), (3, .string d6), (9, .int .i64 ((x2).length : Int)), (10, .int .i64 d7)] [Asr.vw (Enc.int .u8) (s1.v) x2] _ _
      refine JC.seq ?_
      refine JC.region ?_
      refine JL.val (v := .bool (decide (d7 < ((x2).length : Int)))) (QV.lss rfl rfl) rfl rfl rfl ?_
      refine JL.nil ?_
      refine QJ.then_normal ?_
      refine JC.seq ?_
      rcases ite_inv hm with ⟨h14, hm⟩ | ⟨h14, hm⟩
      ·
        refine JC.condT' rfl (decide_eq_true h14) ?_
        refine JC.skip ?_
        refine QJ.then_normal ?_
        refine JC.seq ?_
        refine JC.block ?_
        refine JC.seq ?_
        refine JC.region ?_
        refine JL.val (v := .int .i64 d7) (QV.move rfl) rfl rfl rfl ?_
        refine JL.val (v := .int .i64 d7) (QV.assign rfl) rfl rfl rfl ?_
        refine JL.nil ?_
        refine QJ.then_normal ?_
        refine JC.regionT [Asr.vw (Enc.int .u8) (s1.v) x2] (fun t => false) [(0, true), (1, true), (2, true), (3, true), (4, true), (5, true), (8, true), (9, true), (10, true), (11, true), (12, true), (6, false), (7, true), (13, false), (14, false), (15, false)] (by kernel_rfl) (by kernel_rfl) (by kernel_rfl) rfl (fun hsel => ?_)
        refine JT.take (i := 0) (v := .string d6) hsel rfl (QV.move rfl) rfl rfl rfl rfl [0] rfl rfl ?_
        refine JT.take (i := 1) (v := s1.v) hsel rfl (QV.move rfl) rfl rfl rfl rfl [0] rfl rfl ?_
        refine JT.take (i := 2) (v := .int .i64 d7) hsel rfl (QV.move rfl) rfl rfl rfl rfl [0] rfl rfl ?_
        obtain ⟨h15, hm⟩ := guard_inv hm
        refine JT.take (i := 3) (v := .pointer (some (elA (s1.v) (Int.toNat d7 * ((Enc.int .u8)).sz)))) hsel rfl (QV.indexA (Rdg.vw 0 rfl) Try.underlying26 tk_5 rfl rfl h15) rfl rfl rfl rfl [0] rfl rfl ?_
        refine JT.take (i := 4) (v := .int .u8 (gd x2 d7)) hsel rfl (QV.el1 (Rdg.vw 0 rfl) tk_5 rfl h15 rfl) rfl rfl rfl rfl [0] rfl rfl ?_
        refine JT.take (i := 5) (v := .int .u8 (IntKind.wrap .u8 (Int.tdiv (gd x2 d7) (16 : Int)))) hsel rfl (QV.quo rfl rfl (by decide)) rfl rfl rfl rfl [0] rfl rfl ?_
        refine JT.take (i := 8) (v := s1.v) hsel rfl (QV.move rfl) rfl rfl rfl rfl [0] rfl rfl ?_
        refine JT.take (i := 9) (v := .int .i64 d7) hsel rfl (QV.move rfl) rfl rfl rfl rfl [0] rfl rfl ?_
        refine JT.take (i := 10) (v := .pointer (some (elA (s1.v) (Int.toNat d7 * ((Enc.int .u8)).sz)))) hsel rfl (QV.indexA (Rdg.vw 0 rfl) Try.underlying26 tk_5 rfl rfl h15) rfl rfl rfl rfl [0] rfl rfl ?_
        refine JT.take (i := 11) (v := .int .u8 (gd x2 d7)) hsel rfl (QV.el1 (Rdg.vw 0 rfl) tk_5 rfl h15 rfl) rfl rfl rfl rfl [0] rfl rfl ?_
        refine JT.take (i := 12) (v := .int .u8 (Int.tmod (gd x2 d7) (16 : Int))) hsel rfl (QV.rem rfl rfl (by decide)) rfl rfl rfl rfl [0] rfl rfl ?_
        obtain ⟨y16, hc17, hm⟩ := bind_inv hm
        refine JT.only (i := 6) (d := some 19) rfl (MV.call (Lo := []) (Lr := [Asr.vw (Enc.int .u8) (s1.v) x2]) (F62.spec ((IntKind.wrap .u8 (Int.tdiv (gd x2 d7) (16 : Int)))) _ hc17) rfl Try.func62 rfl rfl rfl [] [0] rfl rfl rfl trivial) rfl rfl rfl ?_
        rintro _ _ ⟨_, ⟨rfl, rfl⟩, rfl⟩
        refine ⟨fun _ => ⟨[0], rfl, rfl⟩, ?_⟩
        obtain ⟨h18, hm⟩ := guard_inv hm
        refine JT.take (i := 7) (v := .string (d6 ++ y16)) hsel rfl (QV.addS rfl rfl h18) rfl rfl rfl rfl [0] rfl rfl ?_
        obtain ⟨y19, hc20, hm⟩ := bind_inv hm
        refine JT.only (i := 13) (d := some 26) rfl (MV.call (Lo := []) (Lr := [Asr.vw (Enc.int .u8) (s1.v) x2]) (F62.spec ((Int.tmod (gd x2 d7) (16 : Int))) _ hc20) rfl Try.func62 rfl rfl rfl [] [0] rfl rfl rfl trivial) rfl rfl rfl ?_
        rintro _ _ ⟨_, ⟨rfl, rfl⟩, rfl⟩
        refine ⟨fun _ => ⟨[0], rfl, rfl⟩, ?_⟩
        obtain ⟨h21, hm⟩ := guard_inv hm
        refine JT.only (i := 14) (d := some 27) rfl (MV.ofQV (v := .string ((d6 ++ y16) ++ y19)) (QV.addS rfl rfl h21)) rfl rfl rfl ?_
        rintro _ _ ⟨rfl, rfl⟩
        refine ⟨fun _ => ⟨[0], rfl, rfl⟩, ?_⟩
        refine JT.only (i := 15) (d := some 3) rfl (MV.ofQV (v := .string ((d6 ++ y16) ++ y19)) (QV.assign rfl)) rfl rfl rfl ?_
        rintro _ _ ⟨rfl, rfl⟩
        refine ⟨fun _ => ⟨[0], rfl, rfl⟩, ?_⟩
        refine JT.nil ?_
        refine QJ.block_normal ?_
        refine QJ.then_normal ?_
        refine JC.region ?_
        refine JL.val (v := .int .i64 (IntKind.wrap .i64 (d7 + (1 : Int)))) (QV.add rfl rfl) rfl rfl rfl ?_
        refine JL.val (v := .int .i64 (IntKind.wrap .i64 (d7 + (1 : Int)))) (QV.move rfl) rfl rfl rfl ?_
        refine JL.nil ?_
        obtain rfl := Option.some.inj hm
        exact QJ.round_on (((d6 ++ y16) ++ y19), (IntKind.wrap .i64 (d7 + (1 : Int)))) () [0] (by exact ⟨rfl, rfl, rfl, rfl, trivial⟩) rfl rfl
      ·
        refine JC.condF' rfl (decide_eq_false h14) ?_
        refine JC.exit ?_
        refine QJ.then_exit ?_
        obtain rfl := Option.some.inj hm
        refine QJ.round_exit (fun hy => ?_)
        subst hy
        refine QJ.block_hit ?_
        exact QJ.cut_normal (d6, ()) hmo12 [] (by exact ⟨rfl, trivial⟩) rfl rfl

/-! ### 6: drogher/drogherlaw30.ScriptTexts -/
noncomputable def F6.m (x2 : List Int) (x3 : ByteArray) : Option Bool :=
  (if (2000 : Int) < ((x2).length : Int) then ((F20.m).bind fun y6 => some y6) else (if (2000 : Int) < ((x3).size : Int) then ((F20.m).bind fun y9 => some y9) else ((F21.m (x2)).bind fun y11 => ((F22.m (y11)).bind fun y13 => ((F22.m (x3)).bind fun y16 => ((F23.m (x3)).bind fun y19 => ((F24.m (x2)).bind fun y22 => (if y11 = y22 then (if y13.2 = true then (if (strOfNums y13.1) = (strOfNums x2) then (if (strOfNums y16.1) = (strOfNums y19.1) then (if (y16.2 == y19.2) = true then ((F20.m).bind fun y29 => some y29) else some false) else some false) else some false) else some false) else some false))))))))
set_option maxRecDepth 100000 in
set_option maxHeartbeats 4000000 in
theorem F6.spec (s1 : SlV) (x2 : List Int) (x3 : ByteArray) (r : Bool) (hm : F6.m x2 x3 = some r) :
    Ctr Try.prog false 6 [s1.v, .string x3] [Asr.vw (Enc.int .u8) (s1.v) x2] (fun v L' => v = .bool r ∧ L' = []) := by
  refine Ctr.intro (n := 67) (env := [(0, s1.v), (1, .string x3)]) Try.func6 rfl rfl rfl rfl (fun c => ?_)
  unfold F6.m at hm
  refine JC.seq ?_
  refine JC.region ?_
  refine JL.val (v := .bool false) (QV.assign rfl) rfl rfl rfl ?_
  refine JL.nil ?_
  refine QJ.then_normal ?_
  refine JC.seq ?_
  refine JC.seq ?_
  refine JC.region ?_
  refine JL.val (v := s1.v) (QV.move rfl) rfl rfl rfl ?_
  refine JL.val (v := .int .i64 ((x2).length : Int)) (QV.len (Rdg.vw 0 rfl) Try.underlying26 rfl) rfl rfl rfl ?_
  refine JL.val (v := .bool (decide ((2000 : Int) < ((x2).length : Int)))) (QV.gtr rfl rfl) rfl rfl rfl ?_
  rcases ite_inv hm with ⟨h5, hm⟩ | ⟨h5, hm⟩
  ·
    refine JL.val (v := .bool true) (QV.eq (QV.move rfl) (congrArg Value.bool (decide_eq_true h5))) rfl rfl rfl ?_
    refine JL.skip (d := some 16) rfl rfl rfl ?_
    refine JL.skip (d := some 17) rfl rfl rfl ?_
    refine JL.skip (d := some 18) rfl rfl rfl ?_
    refine JL.val (v := .bool true) (QV.pickT rfl rfl) rfl rfl rfl ?_
    refine JL.nil ?_
    refine QJ.then_normal ?_
    refine JC.condT rfl ?_
    refine JC.seq ?_
    refine JC.region ?_
    obtain ⟨y6, hc7, hm⟩ := bind_inv hm
    refine JL.mv (d := some 20) (MV.call (Lo := []) (Lr := [Asr.vw (Enc.int .u8) (s1.v) x2]) (F20.spec _ hc7) rfl Try.func20 rfl rfl rfl [] [0] rfl rfl rfl trivial) rfl rfl rfl ?_
    rintro _ _ ⟨_, ⟨rfl, rfl⟩, rfl⟩
    refine JL.val (v := .bool y6) (QV.assign rfl) rfl rfl rfl ?_
    refine JL.nil ?_
    refine QJ.then_normal ?_
    refine JC.ret ?_
    refine QJ.then_ret ?_
    obtain rfl := Option.some.inj hm
    exact QJ.body (vs := [.bool y6]) (.inl rfl) rfl (ResVs.cons (ResV.tmp rfl) ResVs.nil) [] rfl rfl (.inr trivial) ⟨rfl, rfl⟩
  ·
    refine JL.val (v := .bool false) (QV.eq (QV.move rfl) (congrArg Value.bool (decide_eq_false h5))) rfl rfl rfl ?_
    refine JL.val (v := .string x3) (QV.move rfl) rfl rfl rfl ?_
    refine JL.val (v := .int .i64 ((x3).size : Int)) (QV.lenS Try.underlying9 rfl) rfl rfl rfl ?_
    refine JL.val (v := .bool (decide ((2000 : Int) < ((x3).size : Int)))) (QV.gtr rfl rfl) rfl rfl rfl ?_
    refine JL.val (v := .bool (decide ((2000 : Int) < ((x3).size : Int)))) (QV.pickF rfl rfl) rfl rfl rfl ?_
    refine JL.nil ?_
    refine QJ.then_normal ?_
    rcases ite_inv hm with ⟨h8, hm⟩ | ⟨h8, hm⟩
    ·
      refine JC.condT' rfl (decide_eq_true h8) ?_
      refine JC.seq ?_
      refine JC.region ?_
      obtain ⟨y9, hc10, hm⟩ := bind_inv hm
      refine JL.mv (d := some 20) (MV.call (Lo := []) (Lr := [Asr.vw (Enc.int .u8) (s1.v) x2]) (F20.spec _ hc10) rfl Try.func20 rfl rfl rfl [] [0] rfl rfl rfl trivial) rfl rfl rfl ?_
      rintro _ _ ⟨_, ⟨rfl, rfl⟩, rfl⟩
      refine JL.val (v := .bool y9) (QV.assign rfl) rfl rfl rfl ?_
      refine JL.nil ?_
      refine QJ.then_normal ?_
      refine JC.ret ?_
      refine QJ.then_ret ?_
      obtain rfl := Option.some.inj hm
      exact QJ.body (vs := [.bool y9]) (.inl rfl) rfl (ResVs.cons (ResV.tmp rfl) ResVs.nil) [] rfl rfl (.inr trivial) ⟨rfl, rfl⟩
    ·
      refine JC.condF' rfl (decide_eq_false h8) ?_
      refine JC.skip ?_
      refine QJ.then_normal ?_
      refine JC.seq ?_
      refine JC.region ?_
      refine JL.val (v := s1.v) (QV.move rfl) rfl rfl rfl ?_
      obtain ⟨y11, hc12, hm⟩ := bind_inv hm
      refine JL.mv (d := some 22) (MV.call (Lo := []) (Lr := [Asr.vw (Enc.int .u8) (s1.v) x2]) (F21.spec (s1) (x2) _ hc12) rfl Try.func21 rfl rfl rfl [] [0] rfl rfl rfl ⟨(Drv.vw 0 rfl), trivial⟩) rfl rfl rfl ?_
      rintro _ _ ⟨_, ⟨rfl, rfl⟩, rfl⟩
      refine JL.val (v := .string y11) (QV.assign rfl) rfl rfl rfl ?_
      refine JL.nil ?_
      refine QJ.then_normal ?_
      refine JC.seq ?_
      refine JC.region ?_
      refine JL.val (v := .string y11) (QV.move rfl) rfl rfl rfl ?_
      obtain ⟨y13, hc14, hm⟩ := bind_inv hm
      refine JL.mv (d := some 25) (MV.call (Lo := []) (Lr := [Asr.vw (Enc.int .u8) (s1.v) x2]) (F22.spec (y11) _ hc14) rfl Try.func22 rfl rfl rfl [] [0] rfl rfl rfl trivial) rfl rfl rfl ?_
      rintro _ _ ⟨_, ⟨z15, rfl, rfl⟩, rfl⟩
      refine JL.val (v := .tuple #[z15.v, .bool y13.2]) (QV.move rfl) rfl rfl rfl ?_
      refine JL.val (v := z15.v) (QV.extract (vs := [z15.v, .bool y13.2]) rfl rfl) rfl rfl rfl ?_
      refine JL.val (v := .bool y13.2) (QV.extract (vs := [z15.v, .bool y13.2]) rfl rfl) rfl rfl rfl ?_
      refine JL.val (v := z15.v) (QV.assign rfl) rfl rfl rfl ?_
      refine JL.val (v := .bool y13.2) (QV.assign rfl) rfl rfl rfl ?_
      refine JL.nil ?_
      refine QJ.then_normal ?_
      refine JC.seq ?_
      refine JC.region ?_
      refine JL.val (v := .string x3) (QV.move rfl) rfl rfl rfl ?_
      obtain ⟨y16, hc17, hm⟩ := bind_inv hm
      refine JL.mv (d := some 30) (MV.call (Lo := []) (Lr := [Asr.of 5 (Enc.int .u8) (z15.v) y13.1, Asr.vw (Enc.int .u8) (s1.v) x2]) (F22.spec (x3) _ hc17) rfl Try.func22 rfl rfl rfl [] [0, 1] rfl rfl rfl trivial) rfl rfl rfl ?_
      rintro _ _ ⟨_, ⟨z18, rfl, rfl⟩, rfl⟩
      refine JL.val (v := .tuple #[z18.v, .bool y16.2]) (QV.move rfl) rfl rfl rfl ?_
      refine JL.val (v := z18.v) (QV.extract (vs := [z18.v, .bool y16.2]) rfl rfl) rfl rfl rfl ?_
      refine JL.val (v := .bool y16.2) (QV.extract (vs := [z18.v, .bool y16.2]) rfl rfl) rfl rfl rfl ?_
      refine JL.val (v := z18.v) (QV.assign rfl) rfl rfl rfl ?_
      refine JL.val (v := .bool y16.2) (QV.assign rfl) rfl rfl rfl ?_
      refine JL.nil ?_
      refine QJ.then_normal ?_
      refine JC.seq ?_
      refine JC.region ?_
      refine JL.val (v := .string x3) (QV.move rfl) rfl rfl rfl ?_
      obtain ⟨y19, hc20, hm⟩ := bind_inv hm
      refine JL.mv (d := some 35) (MV.call (Lo := []) (Lr := [Asr.of 5 (Enc.int .u8) (z18.v) y16.1, Asr.of 5 (Enc.int .u8) (z15.v) y13.1, Asr.vw (Enc.int .u8) (s1.v) x2]) (F23.spec (x3) _ hc20) rfl Try.func23 rfl rfl rfl [] [0, 1, 2] rfl rfl rfl trivial) rfl rfl rfl ?_
      rintro _ _ ⟨_, ⟨z21, rfl, rfl⟩, rfl⟩
      refine JL.val (v := .tuple #[z21.v, .bool y19.2]) (QV.move rfl) rfl rfl rfl ?_
      refine JL.val (v := z21.v) (QV.extract (vs := [z21.v, .bool y19.2]) rfl rfl) rfl rfl rfl ?_
      refine JL.val (v := .bool y19.2) (QV.extract (vs := [z21.v, .bool y19.2]) rfl rfl) rfl rfl rfl ?_
      refine JL.val (v := z21.v) (QV.assign rfl) rfl rfl rfl ?_
      refine JL.val (v := .bool y19.2) (QV.assign rfl) rfl rfl rfl ?_
      refine JL.nil ?_
      refine QJ.then_normal ?_
      refine JC.seq ?_
      refine JC.region ?_
      refine JL.val (v := .string y11) (QV.move rfl) rfl rfl rfl ?_
      refine JL.val (v := s1.v) (QV.move rfl) rfl rfl rfl ?_
      obtain ⟨y22, hc23, hm⟩ := bind_inv hm
      refine JL.mv (d := some 40) (MV.call (Lo := []) (Lr := [Asr.of 5 (Enc.int .u8) (z21.v) y19.1, Asr.of 5 (Enc.int .u8) (z18.v) y16.1, Asr.of 5 (Enc.int .u8) (z15.v) y13.1, Asr.vw (Enc.int .u8) (s1.v) x2]) (F24.spec (s1) (x2) _ hc23) rfl Try.func24 rfl rfl rfl [] [0, 1, 2, 3] rfl rfl rfl ⟨(Drv.vw 3 rfl), trivial⟩) rfl rfl rfl ?_
      rintro _ _ ⟨_, ⟨rfl, rfl⟩, rfl⟩
      refine JL.val (v := .bool (decide (y11 = y22))) (QV.eqlS rfl rfl) rfl rfl rfl ?_
      rcases ite_inv hm with ⟨h24, hm⟩ | ⟨h24, hm⟩
      ·
        refine JL.val (v := .bool true) (QV.eq (QV.move rfl) (congrArg Value.bool (decide_eq_true h24))) rfl rfl rfl ?_
        refine JL.val (v := .bool y13.2) (QV.move rfl) rfl rfl rfl ?_
        refine JL.val (v := .bool y13.2) (QV.pickT rfl rfl) rfl rfl rfl ?_
        rcases ite_inv hm with ⟨h25, hm⟩ | ⟨h25, hm⟩
        ·
          refine JL.val (v := .bool true) (QV.eq (QV.move rfl) (congrArg Value.bool h25)) rfl rfl rfl ?_
          refine JL.val (v := z15.v) (QV.move rfl) rfl rfl rfl ?_
          refine JL.val (v := .string (strOfNums y13.1)) (QV.str (Rdg.of 2 rfl) Try.underlying26 Try.underlying5 Try.underlying9 rfl) rfl rfl rfl ?_
          refine JL.val (v := s1.v) (QV.move rfl) rfl rfl rfl ?_
          refine JL.val (v := .string (strOfNums x2)) (QV.str (Rdg.vw 3 rfl) Try.underlying26 Try.underlying5 Try.underlying9 rfl) rfl rfl rfl ?_
          refine JL.val (v := .bool (decide ((strOfNums y13.1) = (strOfNums x2)))) (QV.eqlS rfl rfl) rfl rfl rfl ?_
          refine JL.val (v := .bool (decide ((strOfNums y13.1) = (strOfNums x2)))) (QV.pickT rfl rfl) rfl rfl rfl ?_
          rcases ite_inv hm with ⟨h26, hm⟩ | ⟨h26, hm⟩
          ·
            refine JL.val (v := .bool true) (QV.eq (QV.move rfl) (congrArg Value.bool (decide_eq_true h26))) rfl rfl rfl ?_
            refine JL.val (v := z18.v) (QV.move rfl) rfl rfl rfl ?_
            refine JL.val (v := .string (strOfNums y16.1)) (QV.str (Rdg.of 1 rfl) Try.underlying26 Try.underlying5 Try.underlying9 rfl) rfl rfl rfl ?_
            refine JL.val (v := z21.v) (QV.move rfl) rfl rfl rfl ?_
            refine JL.val (v := .string (strOfNums y19.1)) (QV.str (Rdg.of 0 rfl) Try.underlying26 Try.underlying5 Try.underlying9 rfl) rfl rfl rfl ?_
            refine JL.val (v := .bool (decide ((strOfNums y16.1) = (strOfNums y19.1)))) (QV.eqlS rfl rfl) rfl rfl rfl ?_
            refine JL.val (v := .bool (decide ((strOfNums y16.1) = (strOfNums y19.1)))) (QV.pickT rfl rfl) rfl rfl rfl ?_
            rcases ite_inv hm with ⟨h27, hm⟩ | ⟨h27, hm⟩
            ·
              refine JL.val (v := .bool true) (QV.eq (QV.move rfl) (congrArg Value.bool (decide_eq_true h27))) rfl rfl rfl ?_
              refine JL.val (v := .bool y16.2) (QV.move rfl) rfl rfl rfl ?_
              refine JL.val (v := .bool y19.2) (QV.move rfl) rfl rfl rfl ?_
              refine JL.val (v := .bool (y16.2 == y19.2)) (QV.eqlB Try.underlying4 rfl rfl) rfl rfl rfl ?_
              refine JL.val (v := .bool (y16.2 == y19.2)) (QV.pickT rfl rfl) rfl rfl rfl ?_
              rcases ite_inv hm with ⟨h28, hm⟩ | ⟨h28, hm⟩
              ·
                refine JL.val (v := .bool true) (QV.eq (QV.move rfl) (congrArg Value.bool h28)) rfl rfl rfl ?_
                obtain ⟨y29, hc30, hm⟩ := bind_inv hm
                refine JL.mv (d := some 65) (MV.call (Lo := []) (Lr := [Asr.of 5 (Enc.int .u8) (z21.v) y19.1, Asr.of 5 (Enc.int .u8) (z18.v) y16.1, Asr.of 5 (Enc.int .u8) (z15.v) y13.1, Asr.vw (Enc.int .u8) (s1.v) x2]) (F20.spec _ hc30) rfl Try.func20 rfl rfl rfl [] [0, 1, 2, 3] rfl rfl rfl trivial) rfl rfl rfl ?_
                rintro _ _ ⟨_, ⟨rfl, rfl⟩, rfl⟩
                refine JL.val (v := .bool y29) (QV.pickT rfl rfl) rfl rfl rfl ?_
                refine JL.val (v := .bool y29) (QV.assign rfl) rfl rfl rfl ?_
                refine JL.nil ?_
                refine QJ.then_normal ?_
                refine JC.ret ?_
                obtain rfl := Option.some.inj hm
                exact QJ.body (vs := [.bool y29]) (.inl rfl) rfl (ResVs.cons (ResV.tmp rfl) ResVs.nil) [] rfl rfl (.inr trivial) ⟨rfl, rfl⟩
              ·
                refine JL.val (v := .bool false) (QV.eq (QV.move rfl) (congrArg Value.bool (bfalse h28))) rfl rfl rfl ?_
                refine JL.skip (d := some 65) rfl rfl rfl ?_
                refine JL.val (v := .bool false) (QV.pickF rfl rfl) rfl rfl rfl ?_
                refine JL.val (v := .bool false) (QV.assign rfl) rfl rfl rfl ?_
                refine JL.nil ?_
                refine QJ.then_normal ?_
                refine JC.ret ?_
                obtain rfl := Option.some.inj hm
                exact QJ.body (vs := [.bool false]) (.inl rfl) rfl (ResVs.cons (ResV.tmp rfl) ResVs.nil) [] rfl rfl (.inr trivial) ⟨rfl, rfl⟩
            ·
              refine JL.val (v := .bool false) (QV.eq (QV.move rfl) (congrArg Value.bool (decide_eq_false h27))) rfl rfl rfl ?_
              refine JL.skip (d := some 60) rfl rfl rfl ?_
              refine JL.skip (d := some 61) rfl rfl rfl ?_
              refine JL.skip (d := some 62) rfl rfl rfl ?_
              refine JL.val (v := .bool false) (QV.pickF rfl rfl) rfl rfl rfl ?_
              refine JL.val (v := .bool false) (QV.move rfl) rfl rfl rfl ?_
              refine JL.skip (d := some 65) rfl rfl rfl ?_
              refine JL.val (v := .bool false) (QV.pickF rfl rfl) rfl rfl rfl ?_
              refine JL.val (v := .bool false) (QV.assign rfl) rfl rfl rfl ?_
              refine JL.nil ?_
              refine QJ.then_normal ?_
              refine JC.ret ?_
              obtain rfl := Option.some.inj hm
              exact QJ.body (vs := [.bool false]) (.inl rfl) rfl (ResVs.cons (ResV.tmp rfl) ResVs.nil) [] rfl rfl (.inr trivial) ⟨rfl, rfl⟩
          ·
            refine JL.val (v := .bool false) (QV.eq (QV.move rfl) (congrArg Value.bool (decide_eq_false h26))) rfl rfl rfl ?_
            refine JL.skip (d := some 53) rfl rfl rfl ?_
            refine JL.skip (d := some 54) rfl rfl rfl ?_
            refine JL.skip (d := some 55) rfl rfl rfl ?_
            refine JL.skip (d := some 56) rfl rfl rfl ?_
            refine JL.skip (d := some 57) rfl rfl rfl ?_
            refine JL.val (v := .bool false) (QV.pickF rfl rfl) rfl rfl rfl ?_
            refine JL.val (v := .bool false) (QV.move rfl) rfl rfl rfl ?_
            refine JL.skip (d := some 60) rfl rfl rfl ?_
            refine JL.skip (d := some 61) rfl rfl rfl ?_
            refine JL.skip (d := some 62) rfl rfl rfl ?_
            refine JL.val (v := .bool false) (QV.pickF rfl rfl) rfl rfl rfl ?_
            refine JL.val (v := .bool false) (QV.move rfl) rfl rfl rfl ?_
            refine JL.skip (d := some 65) rfl rfl rfl ?_
            refine JL.val (v := .bool false) (QV.pickF rfl rfl) rfl rfl rfl ?_
            refine JL.val (v := .bool false) (QV.assign rfl) rfl rfl rfl ?_
            refine JL.nil ?_
            refine QJ.then_normal ?_
            refine JC.ret ?_
            obtain rfl := Option.some.inj hm
            exact QJ.body (vs := [.bool false]) (.inl rfl) rfl (ResVs.cons (ResV.tmp rfl) ResVs.nil) [] rfl rfl (.inr trivial) ⟨rfl, rfl⟩
        ·
          refine JL.val (v := .bool false) (QV.eq (QV.move rfl) (congrArg Value.bool (bfalse h25))) rfl rfl rfl ?_
          refine JL.skip (d := some 46) rfl rfl rfl ?_
          refine JL.skip (d := some 47) rfl rfl rfl ?_
          refine JL.skip (d := some 48) rfl rfl rfl ?_
          refine JL.skip (d := some 49) rfl rfl rfl ?_
          refine JL.skip (d := some 50) rfl rfl rfl ?_
          refine JL.val (v := .bool false) (QV.pickF rfl rfl) rfl rfl rfl ?_
          refine JL.val (v := .bool false) (QV.move rfl) rfl rfl rfl ?_
          refine JL.skip (d := some 53) rfl rfl rfl ?_
          refine JL.skip (d := some 54) rfl rfl rfl ?_
          refine JL.skip (d := some 55) rfl rfl rfl ?_
          refine JL.skip (d := some 56) rfl rfl rfl ?_
          refine JL.skip (d := some 57) rfl rfl rfl ?_
          refine JL.val (v := .bool false) (QV.pickF rfl rfl) rfl rfl rfl ?_
          refine JL.val (v := .bool false) (QV.move rfl) rfl rfl rfl ?_
          refine JL.skip (d := some 60) rfl rfl rfl ?_
          refine JL.skip (d := some 61) rfl rfl rfl ?_
          refine JL.skip (d := some 62) rfl rfl rfl ?_
          refine JL.val (v := .bool false) (QV.pickF rfl rfl) rfl rfl rfl ?_
          refine JL.val (v := .bool false) (QV.move rfl) rfl rfl rfl ?_
          refine JL.skip (d := some 65) rfl rfl rfl ?_
          refine JL.val (v := .bool false) (QV.pickF rfl rfl) rfl rfl rfl ?_
          refine JL.val (v := .bool false) (QV.assign rfl) rfl rfl rfl ?_
          refine JL.nil ?_
          refine QJ.then_normal ?_
          refine JC.ret ?_
          obtain rfl := Option.some.inj hm
          exact QJ.body (vs := [.bool false]) (.inl rfl) rfl (ResVs.cons (ResV.tmp rfl) ResVs.nil) [] rfl rfl (.inr trivial) ⟨rfl, rfl⟩
      ·
        refine JL.val (v := .bool false) (QV.eq (QV.move rfl) (congrArg Value.bool (decide_eq_false h24))) rfl rfl rfl ?_
        refine JL.skip (d := some 43) rfl rfl rfl ?_
        refine JL.val (v := .bool false) (QV.pickF rfl rfl) rfl rfl rfl ?_
        refine JL.val (v := .bool false) (QV.move rfl) rfl rfl rfl ?_
        refine JL.skip (d := some 46) rfl rfl rfl ?_
        refine JL.skip (d := some 47) rfl rfl rfl ?_
        refine JL.skip (d := some 48) rfl rfl rfl ?_
        refine JL.skip (d := some 49) rfl rfl rfl ?_
        refine JL.skip (d := some 50) rfl rfl rfl ?_
        refine JL.val (v := .bool false) (QV.pickF rfl rfl) rfl rfl rfl ?_
        refine JL.val (v := .bool false) (QV.move rfl) rfl rfl rfl ?_
        refine JL.skip (d := some 53) rfl rfl rfl ?_
        refine JL.skip (d := some 54) rfl rfl rfl ?_
        refine JL.skip (d := some 55) rfl rfl rfl ?_
        refine JL.skip (d := some 56) rfl rfl rfl ?_
        refine JL.skip (d := some 57) rfl rfl rfl ?_
        refine JL.val (v := .bool false) (QV.pickF rfl rfl) rfl rfl rfl ?_
        refine JL.val (v := .bool false) (QV.move rfl) rfl rfl rfl ?_
        refine JL.skip (d := some 60) rfl rfl rfl ?_
        refine JL.skip (d := some 61) rfl rfl rfl ?_
        refine JL.skip (d := some 62) rfl rfl rfl ?_
        refine JL.val (v := .bool false) (QV.pickF rfl rfl) rfl rfl rfl ?_
        refine JL.val (v := .bool false) (QV.move rfl) rfl rfl rfl ?_
        refine JL.skip (d := some 65) rfl rfl rfl ?_
        refine JL.val (v := .bool false) (QV.pickF rfl rfl) rfl rfl rfl ?_
        refine JL.val (v := .bool false) (QV.assign rfl) rfl rfl rfl ?_
        refine JL.nil ?_
        refine QJ.then_normal ?_
        refine JC.ret ?_
        obtain rfl := Option.some.inj hm
        exact QJ.body (vs := [.bool false]) (.inl rfl) rfl (ResVs.cons (ResV.tmp rfl) ResVs.nil) [] rfl rfl (.inr trivial) ⟨rfl, rfl⟩

end Go.Proofs.Ytpophpendlnehaa
