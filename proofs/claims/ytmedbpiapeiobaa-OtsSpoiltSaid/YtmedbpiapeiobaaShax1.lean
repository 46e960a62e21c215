/- Written by gen.py: functions and their contracts. -/
import Derived.Test.YtmedbpiapeiobaaShax0
namespace Go.Proofs.Ytmedbpiapeiobaa
open Go Go.Eng Go.Proofs
set_option linter.unusedVariables false
set_option linter.unusedSimpArgs false
/-! ### 35: (*drogher/sha.Hash).Write -/
noncomputable def F35.j2 (x5 : Int) (x7 : List Int) (d13 : (Arr Int 64)) (d17 : (Arr Int 8)) (d19 : List Int) : Option ((Arr Int 8) × (Arr Int 64) × Int × Int) :=
  some (d17, (Arr.cp d13 (0 : Int) ((64 : Nat) : Int) d19), (cpN (0 : Int) ((64 : Nat) : Int) d19), (IntKind.wrap .u64 (x5 + (IntKind.wrap .u64 ((x7).length : Int)))))
noncomputable def F35.b1 (x5 : Int) (x7 : List Int) (d13 : (Arr Int 64)) (d14 : Int) : ((Arr Int 8) × List Int) → Option (((Arr Int 8) × List Int) ⊕ ((Arr Int 8) × List Int))
  | (d20, d22) => (if (64 : Int) ≤ ((d22).length : Int) then (if 0 ≤ (0 : Int) ∧ (0 : Int) ≤ (64 : Int) ∧ (64 : Int) ≤ ((d22).length : Int) then ((F75_1.m (d20) (d13) (d14) ((IntKind.wrap .u64 (x5 + (IntKind.wrap .u64 ((x7).length : Int))))) ((subL d22 (0 : Int) (64 : Int)))).bind fun y32 => (if 0 ≤ (64 : Int) ∧ (64 : Int) ≤ ((d22).length : Int) ∧ ((d22).length : Int) ≤ ((d22).length : Int) then some (.inl (y32, (subL d22 (64 : Int) ((d22).length : Int)))) else none)) else none) else some (.inr (d20, d22)))
noncomputable def F35.j1 (x5 : Int) (x7 : List Int) (d12 : (Arr Int 8)) (d13 : (Arr Int 64)) (d14 : Int) (d16 : List Int) : Option ((Arr Int 8) × (Arr Int 64) × Int × Int) :=
  ((loop (F35.b1 x5 x7 d13 d14) (d12, d16)).bind fun y => match y with | (d17, d19) => F35.j2 x5 x7 d13 (d17) (d19))
noncomputable def F35.m (x2 : (Arr Int 8)) (x3 : (Arr Int 64)) (x4 : Int) (x5 : Int) (x7 : List Int) : Option ((Arr Int 8) × (Arr Int 64) × Int × Int) :=
  (if (0 : Int) < x4 then (if 0 ≤ x4 ∧ x4 ≤ ((64 : Nat) : Int) ∧ ((64 : Nat) : Int) ≤ 64 then (if 0 ≤ (cpN x4 ((64 : Nat) : Int) x7) ∧ (cpN x4 ((64 : Nat) : Int) x7) ≤ ((x7).length : Int) ∧ ((x7).length : Int) ≤ ((x7).length : Int) then (if (IntKind.wrap .i64 (x4 + (cpN x4 ((64 : Nat) : Int) x7))) < (64 : Int) then some (x2, (Arr.cp x3 x4 ((64 : Nat) : Int) x7), (IntKind.wrap .i64 (x4 + (cpN x4 ((64 : Nat) : Int) x7))), (IntKind.wrap .u64 (x5 + (IntKind.wrap .u64 ((x7).length : Int))))) else ((F75.m (x2) ((Arr.cp x3 x4 ((64 : Nat) : Int) x7)) ((IntKind.wrap .i64 (x4 + (cpN x4 ((64 : Nat) : Int) x7)))) ((IntKind.wrap .u64 (x5 + (IntKind.wrap .u64 ((x7).length : Int)))))).bind fun y39 => F35.j1 x5 x7 (y39) ((Arr.cp x3 x4 ((64 : Nat) : Int) x7)) ((0 : Int)) ((subL x7 (cpN x4 ((64 : Nat) : Int) x7) ((x7).length : Int))))) else none) else none) else F35.j1 x5 x7 (x2) (x3) (x4) (x7))
set_option maxRecDepth 100000 in
set_option maxHeartbeats 4000000 in
theorem F35.spec (b1 : Nat) (s6 : SlV) (x2 : (Arr Int 8)) (x3 : (Arr Int 64)) (x4 : Int) (x5 : Int) (x7 : List Int) (r : ((Arr Int 8) × (Arr Int 64) × Int × Int)) (hm : F35.m x2 x3 x4 x5 x7 = some r) :
    Ctr Try.prog false 35 [.pointer (some ⟨b1, 0, none⟩), s6.v] [Asr.blk b1 105 [Seg.of (Enc.arr 8 (Enc.int .u32)) x2, Seg.of (Enc.arr 64 (Enc.int .u8)) x3, Seg.c (.int .i64 x4), Seg.c (.int .u64 x5)], Asr.vw (Enc.int .u8) (s6.v) x7] (fun v L' => v = .tuple #[] ∧ L' = [Asr.blk b1 105 [Seg.of (Enc.arr 8 (Enc.int .u32)) r.1, Seg.of (Enc.arr 64 (Enc.int .u8)) r.2.1, Seg.c (.int .i64 r.2.2.1), Seg.c (.int .u64 r.2.2.2)]]) := by
  refine Ctr.intro (n := 75) (env := [(0, .pointer (some ⟨b1, 0, none⟩)), (1, s6.v)]) Try.func35 rfl rfl rfl rfl (fun c => ?_)
  unfold F35.m at hm
  refine JC.seq ?_
  refine JC.seq ?_
  refine JC.region ?_
  refine JL.val (v := .pointer (some ⟨b1, 0, none⟩)) (QV.move rfl) rfl rfl rfl ?_
  refine JL.val (v := .bool false) ((QV.eq (QV.eqlP Try.underlying45 rfl rfl (.inr rfl)) (by simp))) rfl rfl rfl ?_
  refine JL.nil ?_
  refine QJ.then_normal ?_
  refine JC.condF rfl ?_
  refine JC.skip ?_
  refine QJ.then_normal ?_
  refine JC.seq ?_
  refine JC.region ?_
  refine JL.val (v := .pointer (some ⟨b1, 0, none⟩)) (QV.move rfl) rfl rfl rfl ?_
  refine JL.val (v := .pointer (some ⟨b1, 0, none⟩)) (QV.nilCheck rfl) rfl rfl rfl ?_
  refine JL.val (v := .pointer (some ⟨b1, 73, none⟩)) (QV.fieldB fo_105_3 rfl rfl) rfl rfl rfl ?_
  refine JL.val (v := .int .u64 x5) (QV.load1 (ss := [Seg.of (Enc.arr 8 (Enc.int .u32)) x2, Seg.of (Enc.arr 64 (Enc.int .u8)) x3, Seg.c (.int .i64 x4), Seg.c (.int .u64 x5)]) 0 3 rfl tk_28 rfl rfl rfl) rfl rfl rfl ?_
  refine JL.val (v := s6.v) (QV.move rfl) rfl rfl rfl ?_
  refine JL.val (v := .int .i64 ((x7).length : Int)) (QV.len (Rdg.vw 1 rfl) Try.underlying22 rfl) rfl rfl rfl ?_
  refine JL.val (v := .int .u64 (IntKind.wrap .u64 ((x7).length : Int))) (QV.conv rfl (by rw [Try.underlying3]; rfl) Try.underlying28) rfl rfl rfl ?_
  refine JL.val (v := .int .u64 (IntKind.wrap .u64 (x5 + (IntKind.wrap .u64 ((x7).length : Int))))) (QV.add rfl rfl) rfl rfl rfl ?_
  refine JL.val (v := .pointer (some ⟨b1, 0, none⟩)) (QV.nilCheck rfl) rfl rfl rfl ?_
  refine JL.val (v := .pointer (some ⟨b1, 73, none⟩)) (QV.fieldB fo_105_3 rfl rfl) rfl rfl rfl ?_
  refine JL.mv (d := none) (MV.store (ss := [Seg.of (Enc.arr 8 (Enc.int .u32)) x2, Seg.of (Enc.arr 64 (Enc.int .u8)) x3, Seg.c (.int .i64 x4), Seg.c (.int .u64 x5)]) 0 3 1 [Seg.c (.int .u64 (IntKind.wrap .u64 (x5 + (IntKind.wrap .u64 ((x7).length : Int)))))] rfl tk_28 rfl rfl rfl rfl (fun w hs => ⟨rfl, one_c rfl, trivial⟩)) rfl rfl rfl ?_
  rintro _ _ ⟨rfl, rfl⟩
  refine JL.nil ?_
  refine QJ.then_normal ?_
  refine JC.seq ?_
  refine JC.seq ?_
  refine JC.region ?_
  refine JL.val (v := .pointer (some ⟨b1, 0, none⟩)) (QV.move rfl) rfl rfl rfl ?_
  refine JL.val (v := .pointer (some ⟨b1, 0, none⟩)) (QV.nilCheck rfl) rfl rfl rfl ?_
  refine JL.val (v := .pointer (some ⟨b1, 72, none⟩)) (QV.fieldB fo_105_2 rfl rfl) rfl rfl rfl ?_
  refine JL.val (v := .int .i64 x4) (QV.load1 (ss := [Seg.of (Enc.arr 8 (Enc.int .u32)) x2, Seg.of (Enc.arr 64 (Enc.int .u8)) x3, Seg.c (.int .i64 x4), Seg.c (.int .u64 (IntKind.wrap .u64 (x5 + (IntKind.wrap .u64 ((x7).length : Int)))))]) 0 2 rfl tk_3 rfl rfl rfl) rfl rfl rfl ?_
  refine JL.val (v := .bool (decide ((0 : Int) < x4))) (QV.gtr rfl rfl) rfl rfl rfl ?_
  refine JL.nil ?_
  refine QJ.then_normal ?_
  refine JC.cutK (Y := ((Arr Int 8) × (Arr Int 64) × Int × List Int) × SlV) (fun y => match y with | ((d12, d13, d14, d16), _) => F35.j1 x5 x7 (d12) (d13) (d14) (d16) = some r) (fun y => match y with | ((d12, d13, d14, d16), z15) => [(0, .pointer (some ⟨b1, 0, none⟩)), (1, z15.v)]) (fun y => match y with | ((d12, d13, d14, d16), z15) => [Asr.blk b1 105 [Seg.of (Enc.arr 8 (Enc.int .u32)) d12, Seg.of (Enc.arr 64 (Enc.int .u8)) d13, Seg.c (.int .i64 d14), Seg.c (.int .u64 (IntKind.wrap .u64 (x5 + (IntKind.wrap .u64 ((x7).length : Int)))))], Asr.vw (Enc.int .u8) (z15.v) d16]) ?_ ?_
  ·
    rintro ⟨⟨d12, d13, d14, d16⟩, z15⟩ hm
    unfold F35.j1 at hm
    show QJ _ _ [(0, .pointer (some ⟨b1, 0, none⟩)), (1, z15.v)] [Asr.blk b1 105 [Seg.of (Enc.arr 8 (Enc.int .u32)) d12, Seg.of (Enc.arr 64 (Enc.int .u8)) d13, Seg.c (.int .i64 d14), Seg.c (.int .u64 (IntKind.wrap .u64 (x5 + (IntKind.wrap .u64 ((x7).length : Int)))))], Asr.vw (Enc.int .u8) (z15.v) d16] _ _
    refine QJ.then_normal ?_
    refine JC.seq ?_
    refine JC.cutK (Y := ((Arr Int 8) × List Int) × SlV) (fun y => match y with | ((d17, d19), _) => F35.j2 x5 x7 d13 (d17) (d19) = some r) (fun y => match y with | ((d17, d19), z18) => [(0, .pointer (some ⟨b1, 0, none⟩)), (1, z18.v)]) (fun y => match y with | ((d17, d19), z18) => [Asr.blk b1 105 [Seg.of (Enc.arr 8 (Enc.int .u32)) d17, Seg.of (Enc.arr 64 (Enc.int .u8)) d13, Seg.c (.int .i64 d14), Seg.c (.int .u64 (IntKind.wrap .u64 (x5 + (IntKind.wrap .u64 ((x7).length : Int)))))], Asr.vw (Enc.int .u8) (z18.v) d19]) ?_ ?_
    ·
      rintro ⟨⟨d17, d19⟩, z18⟩ hm
      unfold F35.j2 at hm
      show QJ _ _ [(0, .pointer (some ⟨b1, 0, none⟩)), (1, z18.v)] [Asr.blk b1 105 [Seg.of (Enc.arr 8 (Enc.int .u32)) d17, Seg.of (Enc.arr 64 (Enc.int .u8)) d13, Seg.c (.int .i64 d14), Seg.c (.int .u64 (IntKind.wrap .u64 (x5 + (IntKind.wrap .u64 ((x7).length : Int)))))], Asr.vw (Enc.int .u8) (z18.v) d19] _ _
      refine QJ.then_normal ?_
      refine JC.region ?_
      refine JL.val (v := .pointer (some ⟨b1, 0, none⟩)) (QV.move rfl) rfl rfl rfl ?_
      refine JL.val (v := .pointer (some ⟨b1, 0, none⟩)) (QV.move rfl) rfl rfl rfl ?_
      refine JL.val (v := .pointer (some ⟨b1, 0, none⟩)) (QV.nilCheck rfl) rfl rfl rfl ?_
      refine JL.val (v := .pointer (some ⟨b1, 8, none⟩)) (QV.fieldB fo_105_1 rfl rfl) rfl rfl rfl ?_
      refine JL.val (v := (SlV.sub ((Enc.int .u8)).sz (SlV.mk (some ⟨b1, 8, none⟩) 64 64) (0 : Int) ((64 : Nat) : Int)).v) (QV.sliceB Try.underlying103 tk_5 rfl rfl rfl (by decide)) rfl rfl rfl ?_
      refine JL.val (v := z18.v) (QV.move rfl) rfl rfl rfl ?_
      refine JL.mv (d := some 72) (MV.copyB (ss := [Seg.of (Enc.arr 8 (Enc.int .u32)) d17, Seg.of (Enc.arr 64 (Enc.int .u8)) d13, Seg.c (.int .i64 d14), Seg.c (.int .u64 (IntKind.wrap .u64 (x5 + (IntKind.wrap .u64 ((x7).length : Int)))))]) (xs := d13) (l := (0 : Int)) (h := ((64 : Nat) : Int)) 0 1 rfl (Rdg.vw 1 rfl) Try.underlying22 tk_5 rfl rfl rfl rfl (show 0 ≤ (0 : Int) ∧ (0 : Int) ≤ ((64 : Nat) : Int) ∧ ((64 : Nat) : Int) ≤ ((64 : Nat) : Int) from by decide)) rfl rfl rfl ?_
      rintro _ _ ⟨rfl, rfl⟩
      refine JL.val (v := .pointer (some ⟨b1, 0, none⟩)) (QV.nilCheck rfl) rfl rfl rfl ?_
      refine JL.val (v := .pointer (some ⟨b1, 72, none⟩)) (QV.fieldB fo_105_2 rfl rfl) rfl rfl rfl ?_
      refine JL.mv (d := none) (MV.store (ss := [Seg.of (Enc.arr 8 (Enc.int .u32)) d17, Seg.of (Enc.arr 64 (Enc.int .u8)) (Arr.cp d13 (0 : Int) ((64 : Nat) : Int) d19), Seg.c (.int .i64 d14), Seg.c (.int .u64 (IntKind.wrap .u64 (x5 + (IntKind.wrap .u64 ((x7).length : Int)))))]) 0 2 1 [Seg.c (.int .i64 (cpN (0 : Int) ((64 : Nat) : Int) d19))] rfl tk_3 rfl rfl rfl rfl (fun w hs => ⟨rfl, one_c rfl, trivial⟩)) rfl rfl rfl ?_
      rintro _ _ ⟨rfl, rfl⟩
      refine JL.nil ?_
      obtain rfl := Option.some.inj hm
      exact QJ.body (vs := []) (.inr rfl) rfl ResVs.nil [0] rfl rfl (.inr ⟨own_blk _ _ _, trivial⟩) ⟨rfl, rfl⟩
    ·
      refine JC.block ?_
      obtain ⟨y26, hl27, hmo28⟩ := bind_inv hm
      refine JC.loop (F35.b1 x5 x7 d13 d14) (fun x z => match x, z with | (d20, d22), z21 => [(0, .pointer (some ⟨b1, 0, none⟩)), (1, z21.v)]) (fun x z => match x, z with | (d20, d22), z21 => [Asr.blk b1 105 [Seg.of (Enc.arr 8 (Enc.int .u32)) d20, Seg.of (Enc.arr 64 (Enc.int .u8)) d13, Seg.c (.int .i64 d14), Seg.c (.int .u64 (IntKind.wrap .u64 (x5 + (IntKind.wrap .u64 ((x7).length : Int)))))], Asr.vw (Enc.int .u8) (z21.v) d22]) (d12, d16) z15 y26 hl27 [0, 1] (by exact ⟨rfl, rfl, trivial⟩) rfl rfl ?_
      rintro ⟨d20, d22⟩ z21 s29 hm
      unfold F35.b1 at hm
      dsimp only at hm
      show JC _ _ _ [(0, .pointer (some ⟨b1, 0, none⟩)), (1, z21.v)] [Asr.blk b1 105 [Seg.of (Enc.arr 8 (Enc.int .u32)) d20, Seg.of (Enc.arr 64 (Enc.int .u8)) d13, Seg.c (.int .i64 d14), Seg.c (.int .u64 (IntKind.wrap .u64 (x5 + (IntKind.wrap .u64 ((x7).length : Int)))))], Asr.vw (Enc.int .u8) (z21.v) d22] _ _
      refine JC.seq ?_
      refine JC.seq ?_
      refine JC.region ?_
      refine JL.val (v := z21.v) (QV.move rfl) rfl rfl rfl ?_
      refine JL.val (v := .int .i64 ((d22).length : Int)) (QV.len (Rdg.vw 1 rfl) Try.underlying22 rfl) rfl rfl rfl ?_
      refine JL.val (v := .bool (decide ((64 : Int) ≤ ((d22).length : Int)))) (QV.geq rfl rfl) rfl rfl rfl ?_
      refine JL.nil ?_
      refine QJ.then_normal ?_
      rcases ite_inv hm with ⟨h30, hm⟩ | ⟨h30, hm⟩
      ·
        refine JC.condT' rfl (decide_eq_true h30) ?_
        refine JC.skip ?_
        refine QJ.then_normal ?_
        refine JC.block ?_
        refine JC.seq ?_
        refine JC.region ?_
        refine JL.val (v := .pointer (some ⟨b1, 0, none⟩)) (QV.move rfl) rfl rfl rfl ?_
        refine JL.val (v := z21.v) (QV.move rfl) rfl rfl rfl ?_
        obtain ⟨h31, hm⟩ := guard_inv hm
        refine JL.val (v := (SlV.sub ((Enc.int .u8)).sz z21 (0 : Int) (64 : Int)).v) (QV.sliceV (Rdg.vw 1 rfl) Try.underlying22 tk_5 rfl rfl rfl h31) rfl rfl rfl ?_
        obtain ⟨y32, hc33, hm⟩ := bind_inv hm
        refine JL.mv (d := some 63) (MV.call (Lo := [Asr.blk b1 105 [Seg.of (Enc.arr 8 (Enc.int .u32)) d20, Seg.of (Enc.arr 64 (Enc.int .u8)) d13, Seg.c (.int .i64 d14), Seg.c (.int .u64 (IntKind.wrap .u64 (x5 + (IntKind.wrap .u64 ((x7).length : Int)))))]]) (Lr := [Asr.vw (Enc.int .u8) (z21.v) d22]) (F75_1.spec (b1) ((SlV.sub ((Enc.int .u8)).sz z21 (0 : Int) (64 : Int))) (d20) (d13) (d14) ((IntKind.wrap .u64 (x5 + (IntKind.wrap .u64 ((x7).length : Int))))) ((subL d22 (0 : Int) (64 : Int))) _ hc33) rfl Try.func75 rfl rfl rfl [0] [1] rfl rfl rfl ⟨((Drv.vw 0 rfl).subV h31), trivial⟩) rfl rfl rfl ?_
        rintro _ _ ⟨_, ⟨rfl, rfl⟩, rfl⟩
        refine JL.nil ?_
        refine QJ.then_normal ?_
        refine JC.region ?_
        refine JL.val (v := z21.v) (QV.move rfl) rfl rfl rfl ?_
        obtain ⟨h34, hm⟩ := guard_inv hm
        refine JL.val (v := (SlV.sub ((Enc.int .u8)).sz z21 (64 : Int) ((d22).length : Int)).v) (QV.sliceV (Rdg.vw 1 rfl) Try.underlying22 tk_5 rfl rfl rfl h34) rfl rfl rfl ?_
        refine JL.val (v := (SlV.sub ((Enc.int .u8)).sz z21 (64 : Int) ((d22).length : Int)).v) (QV.assign rfl) rfl rfl rfl ?_
        refine JL.nil ?_
        refine QJ.ent (fun _ hs => hs.derive ((Drv.vw 1 rfl).subV h34)) ?_
        refine QJ.block_normal ?_
        obtain rfl := Option.some.inj hm
        exact QJ.round_on (y32, (subL d22 (64 : Int) ((d22).length : Int))) (SlV.sub ((Enc.int .u8)).sz z21 (64 : Int) ((d22).length : Int)) [1, 0] (by exact ⟨rfl, rfl, trivial⟩) rfl rfl
      ·
        refine JC.condF' rfl (decide_eq_false h30) ?_
        refine JC.exit ?_
        refine QJ.then_exit ?_
        obtain rfl := Option.some.inj hm
        refine QJ.round_exit (fun hy => ?_)
        subst hy
        refine QJ.block_hit ?_
        exact QJ.cut_normal ((d20, d22), z21) hmo28 [0, 1] (by exact ⟨rfl, rfl, trivial⟩) rfl rfl
  ·
    rcases ite_inv hm with ⟨h35, hm⟩ | ⟨h35, hm⟩
    ·
      refine JC.condT' rfl (decide_eq_true h35) ?_
      refine JC.seq ?_
      obtain ⟨h36, hm⟩ := guard_inv hm
      refine JC.regionU [Asr.vw (Enc.int .u8) (s6.v) x7] (fun _ => false) 11 rfl (by kernel_rfl) (by kernel_rfl) (fun hsel => ?_)
      refine JU.take (i := 0) (v := .pointer (some ⟨b1, 0, none⟩)) hsel rfl (by kernel_rfl) (QV.move rfl) rfl rfl rfl [1] rfl rfl ?_
      refine JU.take (i := 1) (v := .pointer (some ⟨b1, 0, none⟩)) hsel rfl (by kernel_rfl) (QV.nilCheck rfl) rfl rfl rfl [1] rfl rfl ?_
      refine JU.take (i := 2) (v := .pointer (some ⟨b1, 8, none⟩)) hsel rfl (by kernel_rfl) (QV.fieldB fo_105_1 rfl rfl) rfl rfl rfl [1] rfl rfl ?_
      refine JU.take (i := 3) (v := .pointer (some ⟨b1, 0, none⟩)) hsel rfl (by kernel_rfl) (QV.move rfl) rfl rfl rfl [1] rfl rfl ?_
      refine JU.take (i := 4) (v := .pointer (some ⟨b1, 0, none⟩)) hsel rfl (by kernel_rfl) (QV.nilCheck rfl) rfl rfl rfl [1] rfl rfl ?_
      refine JU.take (i := 5) (v := .pointer (some ⟨b1, 72, none⟩)) hsel rfl (by kernel_rfl) (QV.fieldB fo_105_2 rfl rfl) rfl rfl rfl [1] rfl rfl ?_
      refine JU.take (i := 8) (v := s6.v) hsel rfl (by kernel_rfl) (QV.move rfl) rfl rfl rfl [1] rfl rfl ?_
      refine JU.any [6] (by kernel_rfl) rfl ?_
      refine ⟨?_, trivial⟩
      refine JUo.mv (d := some 28) rfl (MV.ofQV (v := .int .i64 x4) (QV.load1 (ss := [Seg.of (Enc.arr 8 (Enc.int .u32)) x2, Seg.of (Enc.arr 64 (Enc.int .u8)) x3, Seg.c (.int .i64 x4), Seg.c (.int .u64 (IntKind.wrap .u64 (x5 + (IntKind.wrap .u64 ((x7).length : Int)))))]) 0 2 rfl tk_3 rfl rfl rfl)) rfl rfl rfl ?_
      rintro _ _ ⟨rfl, rfl⟩
      refine ⟨fun _ => ⟨[1], rfl, rfl⟩, ?_⟩
      refine JU.take (i := 7) (v := (SlV.sub ((Enc.int .u8)).sz (SlV.mk (some ⟨b1, 8, none⟩) 64 64) x4 ((64 : Nat) : Int)).v) hsel rfl (by kernel_rfl) (QV.sliceB Try.underlying103 tk_5 rfl rfl rfl h36) rfl rfl rfl [1] rfl rfl ?_
      refine JU.any [9] (by kernel_rfl) rfl ?_
      refine ⟨?_, trivial⟩
      refine JUo.mv (d := some 31) rfl (MV.copyB (ss := [Seg.of (Enc.arr 8 (Enc.int .u32)) x2, Seg.of (Enc.arr 64 (Enc.int .u8)) x3, Seg.c (.int .i64 x4), Seg.c (.int .u64 (IntKind.wrap .u64 (x5 + (IntKind.wrap .u64 ((x7).length : Int)))))]) (xs := x3) (l := x4) (h := ((64 : Nat) : Int)) 0 1 rfl (Rdg.vw 1 rfl) Try.underlying22 tk_5 rfl rfl rfl rfl h36) rfl rfl rfl ?_
      rintro _ _ ⟨rfl, rfl⟩
      refine ⟨fun _ => ⟨[1], rfl, rfl⟩, ?_⟩
      refine JU.take (i := 10) (v := .int .i64 (cpN x4 ((64 : Nat) : Int) x7)) hsel rfl (by kernel_rfl) (QV.assign rfl) rfl rfl rfl [1] rfl rfl ?_
      refine JU.nil (by kernel_rfl) ?_
      refine QJ.then_normal ?_
      refine JC.seq ?_
      refine JC.region ?_
      refine JL.val (v := .pointer (some ⟨b1, 0, none⟩)) (QV.move rfl) rfl rfl rfl ?_
      refine JL.val (v := .pointer (some ⟨b1, 0, none⟩)) (QV.nilCheck rfl) rfl rfl rfl ?_
      refine JL.val (v := .pointer (some ⟨b1, 72, none⟩)) (QV.fieldB fo_105_2 rfl rfl) rfl rfl rfl ?_
      refine JL.val (v := .int .i64 x4) (QV.load1 (ss := [Seg.of (Enc.arr 8 (Enc.int .u32)) x2, Seg.of (Enc.arr 64 (Enc.int .u8)) (Arr.cp x3 x4 ((64 : Nat) : Int) x7), Seg.c (.int .i64 x4), Seg.c (.int .u64 (IntKind.wrap .u64 (x5 + (IntKind.wrap .u64 ((x7).length : Int)))))]) 0 2 rfl tk_3 rfl rfl rfl) rfl rfl rfl ?_
      refine JL.val (v := .int .i64 (cpN x4 ((64 : Nat) : Int) x7)) (QV.move rfl) rfl rfl rfl ?_
      refine JL.val (v := .int .i64 (IntKind.wrap .i64 (x4 + (cpN x4 ((64 : Nat) : Int) x7)))) (QV.add rfl rfl) rfl rfl rfl ?_
      refine JL.val (v := .pointer (some ⟨b1, 0, none⟩)) (QV.nilCheck rfl) rfl rfl rfl ?_
      refine JL.val (v := .pointer (some ⟨b1, 72, none⟩)) (QV.fieldB fo_105_2 rfl rfl) rfl rfl rfl ?_
      refine JL.mv (d := none) (MV.store (ss := [Seg.of (Enc.arr 8 (Enc.int .u32)) x2, Seg.of (Enc.arr 64 (Enc.int .u8)) (Arr.cp x3 x4 ((64 : Nat) : Int) x7), Seg.c (.int .i64 x4), Seg.c (.int .u64 (IntKind.wrap .u64 (x5 + (IntKind.wrap .u64 ((x7).length : Int)))))]) 0 2 1 [Seg.c (.int .i64 (IntKind.wrap .i64 (x4 + (cpN x4 ((64 : Nat) : Int) x7))))] rfl tk_3 rfl rfl rfl rfl (fun w hs => ⟨rfl, one_c rfl, trivial⟩)) rfl rfl rfl ?_
      rintro _ _ ⟨rfl, rfl⟩
      refine JL.nil ?_
      refine QJ.then_normal ?_
      refine JC.seq ?_
      refine JC.region ?_
      refine JL.val (v := s6.v) (QV.move rfl) rfl rfl rfl ?_
      refine JL.val (v := .int .i64 (cpN x4 ((64 : Nat) : Int) x7)) (QV.move rfl) rfl rfl rfl ?_
      obtain ⟨h37, hm⟩ := guard_inv hm
      refine JL.val (v := (SlV.sub ((Enc.int .u8)).sz s6 (cpN x4 ((64 : Nat) : Int) x7) ((x7).length : Int)).v) (QV.sliceV (Rdg.vw 1 rfl) Try.underlying22 tk_5 rfl rfl rfl h37) rfl rfl rfl ?_
      refine JL.val (v := (SlV.sub ((Enc.int .u8)).sz s6 (cpN x4 ((64 : Nat) : Int) x7) ((x7).length : Int)).v) (QV.assign rfl) rfl rfl rfl ?_
      refine JL.nil ?_
      refine QJ.ent (fun _ hs => hs.derive ((Drv.vw 1 rfl).subV h37)) ?_
      refine QJ.then_normal ?_
      refine JC.seq ?_
      refine JC.seq ?_
      refine JC.region ?_
      refine JL.val (v := .pointer (some ⟨b1, 0, none⟩)) (QV.move rfl) rfl rfl rfl ?_
      refine JL.val (v := .pointer (some ⟨b1, 0, none⟩)) (QV.nilCheck rfl) rfl rfl rfl ?_
      refine JL.val (v := .pointer (some ⟨b1, 72, none⟩)) (QV.fieldB fo_105_2 rfl rfl) rfl rfl rfl ?_
      refine JL.val (v := .int .i64 (IntKind.wrap .i64 (x4 + (cpN x4 ((64 : Nat) : Int) x7)))) (QV.load1 (ss := [Seg.of (Enc.arr 8 (Enc.int .u32)) x2, Seg.of (Enc.arr 64 (Enc.int .u8)) (Arr.cp x3 x4 ((64 : Nat) : Int) x7), Seg.c (.int .i64 (IntKind.wrap .i64 (x4 + (cpN x4 ((64 : Nat) : Int) x7)))), Seg.c (.int .u64 (IntKind.wrap .u64 (x5 + (IntKind.wrap .u64 ((x7).length : Int)))))]) 1 2 rfl tk_3 rfl rfl rfl) rfl rfl rfl ?_
      refine JL.val (v := .bool (decide ((IntKind.wrap .i64 (x4 + (cpN x4 ((64 : Nat) : Int) x7))) < (64 : Int)))) (QV.lss rfl rfl) rfl rfl rfl ?_
      refine JL.nil ?_
      refine QJ.then_normal ?_
      rcases ite_inv hm with ⟨h38, hm⟩ | ⟨h38, hm⟩
      ·
        refine JC.condT' rfl (decide_eq_true h38) ?_
        refine JC.ret ?_
        refine QJ.then_ret ?_
        refine QJ.cut_ret ?_
        refine QJ.then_ret ?_
        obtain rfl := Option.some.inj hm
        exact QJ.body (vs := []) (.inl rfl) rfl ResVs.nil [1] rfl rfl (.inr ⟨own_blk _ _ _, trivial⟩) ⟨rfl, rfl⟩
      ·
        refine JC.condF' rfl (decide_eq_false h38) ?_
        refine JC.skip ?_
        refine QJ.then_normal ?_
        refine JC.seq ?_
        refine JC.region ?_
        refine JL.val (v := .pointer (some ⟨b1, 0, none⟩)) (QV.move rfl) rfl rfl rfl ?_
        refine JL.val (v := .pointer (some ⟨b1, 0, none⟩)) (QV.move rfl) rfl rfl rfl ?_
        refine JL.val (v := .pointer (some ⟨b1, 0, none⟩)) (QV.nilCheck rfl) rfl rfl rfl ?_
        refine JL.val (v := .pointer (some ⟨b1, 8, none⟩)) (QV.fieldB fo_105_1 rfl rfl) rfl rfl rfl ?_
        refine JL.val (v := (SlV.sub ((Enc.int .u8)).sz (SlV.mk (some ⟨b1, 8, none⟩) 64 64) (0 : Int) ((64 : Nat) : Int)).v) (QV.sliceB Try.underlying103 tk_5 rfl rfl rfl (by decide)) rfl rfl rfl ?_
        obtain ⟨y39, hc40, hm⟩ := bind_inv hm
        refine JL.mv (d := some 53) (MV.call (Lo := [Asr.blk b1 105 [Seg.of (Enc.arr 8 (Enc.int .u32)) x2, Seg.of (Enc.arr 64 (Enc.int .u8)) (Arr.cp x3 x4 ((64 : Nat) : Int) x7), Seg.c (.int .i64 (IntKind.wrap .i64 (x4 + (cpN x4 ((64 : Nat) : Int) x7)))), Seg.c (.int .u64 (IntKind.wrap .u64 (x5 + (IntKind.wrap .u64 ((x7).length : Int)))))]]) (Lr := [Asr.vw (Enc.int .u8) ((SlV.sub ((Enc.int .u8)).sz s6 (cpN x4 ((64 : Nat) : Int) x7) ((x7).length : Int)).v) (subL x7 (cpN x4 ((64 : Nat) : Int) x7) ((x7).length : Int)), Asr.vw (Enc.int .u8) (s6.v) x7]) (F75.spec (b1) (x2) ((Arr.cp x3 x4 ((64 : Nat) : Int) x7)) ((IntKind.wrap .i64 (x4 + (cpN x4 ((64 : Nat) : Int) x7)))) ((IntKind.wrap .u64 (x5 + (IntKind.wrap .u64 ((x7).length : Int))))) _ hc40) rfl Try.func75 rfl rfl rfl [1] [0, 2] rfl rfl rfl trivial) rfl rfl rfl ?_
        rintro _ _ ⟨_, ⟨rfl, rfl⟩, rfl⟩
        refine JL.nil ?_
        refine QJ.then_normal ?_
        refine JC.region ?_
        refine JL.val (v := .pointer (some ⟨b1, 0, none⟩)) (QV.move rfl) rfl rfl rfl ?_
        refine JL.val (v := .pointer (some ⟨b1, 0, none⟩)) (QV.nilCheck rfl) rfl rfl rfl ?_
        refine JL.val (v := .pointer (some ⟨b1, 72, none⟩)) (QV.fieldB fo_105_2 rfl rfl) rfl rfl rfl ?_
        refine JL.mv (d := none) (MV.store (ss := [Seg.of (Enc.arr 8 (Enc.int .u32)) y39, Seg.of (Enc.arr 64 (Enc.int .u8)) (Arr.cp x3 x4 ((64 : Nat) : Int) x7), Seg.c (.int .i64 (IntKind.wrap .i64 (x4 + (cpN x4 ((64 : Nat) : Int) x7)))), Seg.c (.int .u64 (IntKind.wrap .u64 (x5 + (IntKind.wrap .u64 ((x7).length : Int)))))]) 0 2 1 [Seg.c (.int .i64 (0 : Int))] rfl tk_3 rfl rfl rfl rfl (fun w hs => ⟨rfl, one_c rfl, trivial⟩)) rfl rfl rfl ?_
        rintro _ _ ⟨rfl, rfl⟩
        refine JL.nil ?_
        exact QJ.cut_normal ((y39, (Arr.cp x3 x4 ((64 : Nat) : Int) x7), (0 : Int), (subL x7 (cpN x4 ((64 : Nat) : Int) x7) ((x7).length : Int))), (SlV.sub ((Enc.int .u8)).sz s6 (cpN x4 ((64 : Nat) : Int) x7) ((x7).length : Int))) hm [0, 1] (by exact ⟨rfl, rfl, trivial⟩) rfl rfl
    ·
      refine JC.condF' rfl (decide_eq_false h35) ?_
      refine JC.skip ?_
      exact QJ.cut_normal ((x2, x3, x4, x7), s6) hm [0, 1] (by exact ⟨rfl, rfl, trivial⟩) rfl rfl

/-! ### 36: (*drogher/sha.Hash).Sum -/
noncomputable def F36.j2  (d17 : (Arr Int 32)) : Option (Arr Int 32) :=
  some d17
noncomputable def F36.b1 (y14 : ((Arr Int 8) × (Arr Int 64) × Int × Int)) : ((Arr Int 32) × Int) → Option (((Arr Int 32) × Int) ⊕ (Arr Int 32))
  | (d18, d19) => (if d19 < (32 : Int) then (if 0 ≤ (IntKind.wrap .i64 (Int.tdiv d19 (4 : Int))) ∧ (IntKind.wrap .i64 (Int.tdiv d19 (4 : Int))) < 8 then (if 0 ≤ (IntKind.wrap .i64 ((24 : Int) - (IntKind.wrap .i64 ((8 : Int) * (Int.tmod d19 (4 : Int)))))) then (if 0 ≤ d19 ∧ d19 < 32 then some (.inl ((Arr.set d18 d19 (IntKind.wrap .u8 (shrI .u32 (gd (y14.1).l (IntKind.wrap .i64 (Int.tdiv d19 (4 : Int)))) (IntKind.wrap .i64 ((24 : Int) - (IntKind.wrap .i64 ((8 : Int) * (Int.tmod d19 (4 : Int))))))))), (IntKind.wrap .i64 (d19 + (1 : Int))))) else none) else none) else none) else some (.inr d18))
noncomputable def F36.j1 (y11 : ((Arr Int 8) × (Arr Int 64) × Int × Int)) (d13 : (Arr Int 72)) : Option (Arr Int 32) :=
  ((F35.m (y11.1) (y11.2.1) (y11.2.2.1) (y11.2.2.2) ((subL (d13).l (0 : Int) (8 : Int)))).bind fun y14 => ((loop (F36.b1 y14) ((Arr.rep 32 (0 : Int)), (0 : Int))).bind fun y => match y with | d17 => F36.j2 (d17)))
noncomputable def F36.b2 (x5 : Int) : ((Arr Int 72) × Int) → Option (((Arr Int 72) × Int) ⊕ (Arr Int 72))
  | (d30, d31) => (if d31 < (8 : Int) then (if 0 ≤ (IntKind.wrap .i64 ((56 : Int) - (IntKind.wrap .i64 ((8 : Int) * d31)))) then (if 0 ≤ d31 ∧ d31 < 72 then some (.inl ((Arr.set d30 d31 (IntKind.wrap .u8 (shrI .u64 (IntKind.wrap .u64 ((8 : Int) * x5)) (IntKind.wrap .i64 ((56 : Int) - (IntKind.wrap .i64 ((8 : Int) * d31))))))), (IntKind.wrap .i64 (d31 + (1 : Int))))) else none) else none) else some (.inr d30))
noncomputable def F36.m (x2 : (Arr Int 8)) (x3 : (Arr Int 64)) (x4 : Int) (x5 : Int) : Option (Arr Int 32) :=
  (if 0 ≤ (0 : Int) ∧ (0 : Int) ≤ (IntKind.wrap .i64 ((1 : Int) + (Int.tmod (IntKind.wrap .i64 ((119 : Int) - x4)) (64 : Int)))) ∧ (IntKind.wrap .i64 ((1 : Int) + (Int.tmod (IntKind.wrap .i64 ((119 : Int) - x4)) (64 : Int)))) ≤ 72 then ((F35.m (x2) (x3) (x4) (x5) ((subL ((Arr.set (Arr.rep 72 (0 : Int)) (0 : Int) (128 : Int))).l (0 : Int) (IntKind.wrap .i64 ((1 : Int) + (Int.tmod (IntKind.wrap .i64 ((119 : Int) - x4)) (64 : Int))))))).bind fun y11 => ((loop (F36.b2 x5) ((Arr.set (Arr.rep 72 (0 : Int)) (0 : Int) (128 : Int)), (0 : Int))).bind fun y => match y with | d13 => F36.j1 y11 (d13))) else none)
set_option maxRecDepth 100000 in
set_option maxHeartbeats 4000000 in
theorem F36.spec (b1 : Nat) (x2 : (Arr Int 8)) (x3 : (Arr Int 64)) (x4 : Int) (x5 : Int) (r : (Arr Int 32)) (hm : F36.m x2 x3 x4 x5 = some r) :
    Ctr Try.prog false 36 [.pointer (some ⟨b1, 0, none⟩)] [Asr.blk b1 105 [Seg.of (Enc.arr 8 (Enc.int .u32)) x2, Seg.of (Enc.arr 64 (Enc.int .u8)) x3, Seg.c (.int .i64 x4), Seg.c (.int .u64 x5)]] (fun v L' => v = .agg (((Enc.arr 32 (Enc.int .u8))).enc r).toArray ∧ L' = [Asr.blk b1 105 [Seg.of (Enc.arr 8 (Enc.int .u32)) x2, Seg.of (Enc.arr 64 (Enc.int .u8)) x3, Seg.c (.int .i64 x4), Seg.c (.int .u64 x5)]]) := by
  refine Ctr.intro (n := 61) (env := [(0, .pointer (some ⟨b1, 0, none⟩))]) Try.func36 rfl rfl rfl rfl (fun c => ?_)
  unfold F36.m at hm
  refine JC.seq ?_
  refine JC.region ?_
  refine JL.mv (d := some 2) (MV.alloc [Seg.of (Enc.arr 32 (Enc.int .u8)) (Arr.rep 32 (0 : Int))] z_41 rfl) rfl rfl rfl ?_
  rintro _ _ ⟨b7, rfl, rfl⟩
  refine JL.nil ?_
  refine QJ.then_normal ?_
  refine JC.seq ?_
  refine JC.seq ?_
  refine JC.region ?_
  refine JL.val (v := .pointer (some ⟨b1, 0, none⟩)) (QV.move rfl) rfl rfl rfl ?_
  refine JL.val (v := .bool false) ((QV.eq (QV.eqlP Try.underlying45 rfl rfl (.inr rfl)) (by simp))) rfl rfl rfl ?_
  refine JL.nil ?_
  refine QJ.then_normal ?_
  refine JC.condF rfl ?_
  refine JC.skip ?_
  refine QJ.then_normal ?_
  refine JC.seq ?_
  refine JC.region ?_
  refine JL.val (v := .pointer (some ⟨b1, 0, none⟩)) (QV.move rfl) rfl rfl rfl ?_
  refine JL.val (v := .pointer (some ⟨b1, 0, none⟩)) (QV.nilCheck rfl) rfl rfl rfl ?_
  refine JL.val (v := .agg (flat [Seg.of (Enc.arr 8 (Enc.int .u32)) x2, Seg.of (Enc.arr 64 (Enc.int .u8)) x3, Seg.c (.int .i64 x4), Seg.c (.int .u64 x5)]).toArray) (QV.eq (QV.loadN (ss := [Seg.of (Enc.arr 8 (Enc.int .u32)) x2, Seg.of (Enc.arr 64 (Enc.int .u8)) x3, Seg.c (.int .i64 x4), Seg.c (.int .u64 x5)]) 1 0 4 rfl tk_105 rfl rfl rfl rfl) rfl) rfl rfl rfl ?_
  refine JL.mv (d := some 3) (MV.alloc [Seg.of (Enc.arr 8 (Enc.int .u32)) (Arr.rep 8 (0 : Int)), Seg.of (Enc.arr 64 (Enc.int .u8)) (Arr.rep 64 (0 : Int)), Seg.c (.int .i64 (0 : Int)), Seg.c (.int .u64 (0 : Int))] z_105 rfl) rfl rfl rfl ?_
  rintro _ _ ⟨b8, rfl, rfl⟩
  refine JL.mv (d := none) (MV.store (ss := [Seg.of (Enc.arr 8 (Enc.int .u32)) (Arr.rep 8 (0 : Int)), Seg.of (Enc.arr 64 (Enc.int .u8)) (Arr.rep 64 (0 : Int)), Seg.c (.int .i64 (0 : Int)), Seg.c (.int .u64 (0 : Int))]) 0 0 4 [Seg.of (Enc.arr 8 (Enc.int .u32)) x2, Seg.of (Enc.arr 64 (Enc.int .u8)) x3, Seg.c (.int .i64 x4), Seg.c (.int .u64 x5)] rfl tk_105 rfl rfl rfl rfl (fun w hs => ⟨rfl, one_of _ _, one_of _ _, one_c rfl, one_c rfl, trivial⟩)) rfl rfl rfl ?_
  rintro _ _ ⟨rfl, rfl⟩
  refine JL.nil ?_
  refine QJ.then_normal ?_
  refine JC.seq ?_
  refine JC.region ?_
  refine JL.val (v := .pointer (some ⟨b8, 73, none⟩)) (QV.fieldB fo_105_3 rfl rfl) rfl rfl rfl ?_
  refine JL.val (v := .int .u64 x5) (QV.load1 (ss := [Seg.of (Enc.arr 8 (Enc.int .u32)) x2, Seg.of (Enc.arr 64 (Enc.int .u8)) x3, Seg.c (.int .i64 x4), Seg.c (.int .u64 x5)]) 0 3 rfl tk_28 rfl rfl rfl) rfl rfl rfl ?_
  refine JL.val (v := .int .u64 x5) (QV.assign rfl) rfl rfl rfl ?_
  refine JL.nil ?_
  refine QJ.then_normal ?_
  refine JC.seq ?_
  refine JC.region ?_
  refine JL.mv (d := some 5) (MV.alloc [Seg.of (Enc.arr 72 (Enc.int .u8)) (Arr.rep 72 (0 : Int))] z_106 rfl) rfl rfl rfl ?_
  rintro _ _ ⟨b9, rfl, rfl⟩
  refine JL.nil ?_
  refine QJ.then_normal ?_
  refine JC.seq ?_
  refine JC.region ?_
  refine JL.val (v := .pointer (some ⟨b9, 0 + Int.toNat (0 : Int) * 1, none⟩)) (QV.indexB Try.underlying106 tk_5 rfl rfl (by decide)) rfl rfl rfl ?_
  refine JL.mv (d := none) (MV.storeAr (ss := [Seg.of (Enc.arr 72 (Enc.int .u8)) (Arr.rep 72 (0 : Int))]) 0 0 (128 : Int) rfl tk_5 rfl rfl rfl rfl (by decide) rfl rfl) rfl rfl rfl ?_
  rintro _ _ ⟨rfl, rfl⟩
  refine JL.nil ?_
  refine QJ.then_normal ?_
  refine JC.seq ?_
  refine JC.region ?_
  refine JL.val (v := .pointer (some ⟨b8, 72, none⟩)) (QV.fieldB fo_105_2 rfl rfl) rfl rfl rfl ?_
  refine JL.val (v := .int .i64 x4) (QV.load1 (ss := [Seg.of (Enc.arr 8 (Enc.int .u32)) x2, Seg.of (Enc.arr 64 (Enc.int .u8)) x3, Seg.c (.int .i64 x4), Seg.c (.int .u64 x5)]) 1 2 rfl tk_3 rfl rfl rfl) rfl rfl rfl ?_
  refine JL.val (v := .int .i64 (IntKind.wrap .i64 ((119 : Int) - x4))) (QV.sub rfl rfl) rfl rfl rfl ?_
  refine JL.val (v := .int .i64 (Int.tmod (IntKind.wrap .i64 ((119 : Int) - x4)) (64 : Int))) (QV.rem rfl rfl (by decide)) rfl rfl rfl ?_
  refine JL.val (v := .int .i64 (Int.tmod (IntKind.wrap .i64 ((119 : Int) - x4)) (64 : Int))) (QV.assign rfl) rfl rfl rfl ?_
  refine JL.nil ?_
  refine QJ.then_normal ?_
  refine JC.seq ?_
  refine JC.region ?_
  refine JL.val (v := .int .i64 (Int.tmod (IntKind.wrap .i64 ((119 : Int) - x4)) (64 : Int))) (QV.move rfl) rfl rfl rfl ?_
  refine JL.val (v := .int .i64 (IntKind.wrap .i64 ((1 : Int) + (Int.tmod (IntKind.wrap .i64 ((119 : Int) - x4)) (64 : Int))))) (QV.add rfl rfl) rfl rfl rfl ?_
  obtain ⟨h10, hm⟩ := guard_inv hm
  refine JL.val (v := (SlV.sub ((Enc.int .u8)).sz (SlV.mk (some ⟨b9, 0, none⟩) 72 72) (0 : Int) (IntKind.wrap .i64 ((1 : Int) + (Int.tmod (IntKind.wrap .i64 ((119 : Int) - x4)) (64 : Int))))).v) (QV.sliceB Try.underlying106 tk_5 rfl rfl rfl h10) rfl rfl rfl ?_
  obtain ⟨y11, hc12, hm⟩ := bind_inv hm
  refine JL.mv (d := some 27) (MV.call (Lo := [Asr.blk b8 105 [Seg.of (Enc.arr 8 (Enc.int .u32)) x2, Seg.of (Enc.arr 64 (Enc.int .u8)) x3, Seg.c (.int .i64 x4), Seg.c (.int .u64 x5)]]) (Lr := [Asr.blk b9 106 [Seg.of (Enc.arr 72 (Enc.int .u8)) (Arr.set (Arr.rep 72 (0 : Int)) (0 : Int) (128 : Int))], Asr.blk b7 41 [Seg.of (Enc.arr 32 (Enc.int .u8)) (Arr.rep 32 (0 : Int))], Asr.blk b1 105 [Seg.of (Enc.arr 8 (Enc.int .u32)) x2, Seg.of (Enc.arr 64 (Enc.int .u8)) x3, Seg.c (.int .i64 x4), Seg.c (.int .u64 x5)]]) (F35.spec (b8) ((SlV.sub ((Enc.int .u8)).sz (SlV.mk (some ⟨b9, 0, none⟩) 72 72) (0 : Int) (IntKind.wrap .i64 ((1 : Int) + (Int.tmod (IntKind.wrap .i64 ((119 : Int) - x4)) (64 : Int)))))) (x2) (x3) (x4) (x5) ((subL ((Arr.set (Arr.rep 72 (0 : Int)) (0 : Int) (128 : Int))).l (0 : Int) (IntKind.wrap .i64 ((1 : Int) + (Int.tmod (IntKind.wrap .i64 ((119 : Int) - x4)) (64 : Int)))))) _ hc12) rfl Try.func35 rfl rfl rfl [1] [0, 2, 3] rfl rfl rfl ⟨((Drv.arr (ss := [Seg.of (Enc.arr 72 (Enc.int .u8)) (Arr.set (Arr.rep 72 (0 : Int)) (0 : Int) (128 : Int))]) 0 0 rfl rfl rfl rfl).subV (by rw [Arr.h]; exact h10)), trivial⟩) rfl rfl rfl ?_
  rintro _ _ ⟨_, ⟨rfl, rfl⟩, rfl⟩
  refine JL.nil ?_
  refine QJ.then_normal ?_
  refine JC.seq ?_
  refine JC.seq ?_
  refine JC.region ?_
  refine JL.val (v := .int .i64 (0 : Int)) (QV.move rfl) rfl rfl rfl ?_
  refine JL.nil ?_
  refine QJ.then_normal ?_
  refine JC.cutK (Y := (Arr Int 72) × Unit) (fun y => match y with | (d13, _) => F36.j1 y11 (d13) = some r) (fun y => match y with | (d13, _) => [(2, .pointer (some ⟨b7, 0, none⟩)), (3, .pointer (some ⟨b8, 0, none⟩)), (5, .pointer (some ⟨b9, 0, none⟩))]) (fun y => match y with | (d13, _) => [Asr.blk b7 41 [Seg.of (Enc.arr 32 (Enc.int .u8)) (Arr.rep 32 (0 : Int))], Asr.blk b8 105 [Seg.of (Enc.arr 8 (Enc.int .u32)) y11.1, Seg.of (Enc.arr 64 (Enc.int .u8)) y11.2.1, Seg.c (.int .i64 y11.2.2.1), Seg.c (.int .u64 y11.2.2.2)], Asr.blk b9 106 [Seg.of (Enc.arr 72 (Enc.int .u8)) d13], Asr.blk b1 105 [Seg.of (Enc.arr 8 (Enc.int .u32)) x2, Seg.of (Enc.arr 64 (Enc.int .u8)) x3, Seg.c (.int .i64 x4), Seg.c (.int .u64 x5)]]) ?_ ?_
  ·
    rintro ⟨d13, ⟨⟩⟩ hm
    unfold F36.j1 at hm
    show QJ _ _ [(2, .pointer (some ⟨b7, 0, none⟩)), (3, .pointer (some ⟨b8, 0, none⟩)), (5, .pointer (some ⟨b9, 0, none⟩))] [Asr.blk b7 41 [Seg.of (Enc.arr 32 (Enc.int .u8)) (Arr.rep 32 (0 : Int))], Asr.blk b8 105 [Seg.of (Enc.arr 8 (Enc.int .u32)) y11.1, Seg.of (Enc.arr 64 (Enc.int .u8)) y11.2.1, Seg.c (.int .i64 y11.2.2.1), Seg.c (.int .u64 y11.2.2.2)], Asr.blk b9 106 [Seg.of (Enc.arr 72 (Enc.int .u8)) d13], Asr.blk b1 105 [Seg.of (Enc.arr 8 (Enc.int .u32)) x2, Seg.of (Enc.arr 64 (Enc.int .u8)) x3, Seg.c (.int .i64 x4), Seg.c (.int .u64 x5)]] _ _
    refine QJ.then_normal ?_
    refine JC.seq ?_
    refine JC.region ?_
    refine JL.val (v := (SlV.sub ((Enc.int .u8)).sz (SlV.mk (some ⟨b9, 0, none⟩) 72 72) (0 : Int) (8 : Int)).v) (QV.sliceB Try.underlying106 tk_5 rfl rfl rfl (by decide)) rfl rfl rfl ?_
    obtain ⟨y14, hc15, hm⟩ := bind_inv hm
    refine JL.mv (d := some 42) (MV.call (Lo := [Asr.blk b8 105 [Seg.of (Enc.arr 8 (Enc.int .u32)) y11.1, Seg.of (Enc.arr 64 (Enc.int .u8)) y11.2.1, Seg.c (.int .i64 y11.2.2.1), Seg.c (.int .u64 y11.2.2.2)]]) (Lr := [Asr.blk b7 41 [Seg.of (Enc.arr 32 (Enc.int .u8)) (Arr.rep 32 (0 : Int))], Asr.blk b9 106 [Seg.of (Enc.arr 72 (Enc.int .u8)) d13], Asr.blk b1 105 [Seg.of (Enc.arr 8 (Enc.int .u32)) x2, Seg.of (Enc.arr 64 (Enc.int .u8)) x3, Seg.c (.int .i64 x4), Seg.c (.int .u64 x5)]]) (F35.spec (b8) ((SlV.sub ((Enc.int .u8)).sz (SlV.mk (some ⟨b9, 0, none⟩) 72 72) (0 : Int) (8 : Int))) (y11.1) (y11.2.1) (y11.2.2.1) (y11.2.2.2) ((subL (d13).l (0 : Int) (8 : Int))) _ hc15) rfl Try.func35 rfl rfl rfl [1] [0, 2, 3] rfl rfl rfl ⟨((Drv.arr (ss := [Seg.of (Enc.arr 72 (Enc.int .u8)) d13]) 1 0 rfl rfl rfl rfl).subV (by rw [Arr.h]; exact (show 0 ≤ (0 : Int) ∧ (0 : Int) ≤ (8 : Int) ∧ (8 : Int) ≤ ((72 : Nat) : Int) from by decide))), trivial⟩) rfl rfl rfl ?_
    rintro _ _ ⟨_, ⟨rfl, rfl⟩, rfl⟩
    refine JL.nil ?_
    refine QJ.then_normal ?_
    refine JC.seq ?_
    refine JC.region ?_
    refine JL.mv (d := some 8) (MV.alloc [Seg.of (Enc.arr 32 (Enc.int .u8)) (Arr.rep 32 (0 : Int))] z_41 rfl) rfl rfl rfl ?_
    rintro _ _ ⟨b16, rfl, rfl⟩
    refine JL.nil ?_
    refine QJ.then_normal ?_
    refine JC.seq ?_
    refine JC.seq ?_
    refine JC.region ?_
    refine JL.val (v := .int .i64 (0 : Int)) (QV.move rfl) rfl rfl rfl ?_
    refine JL.nil ?_
    refine QJ.then_normal ?_
    refine JC.cutK (Y := (Arr Int 32) × Unit) (fun y => match y with | (d17, _) => F36.j2 (d17) = some r) (fun y => match y with | (d17, _) => [(2, .pointer (some ⟨b7, 0, none⟩)), (8, .pointer (some ⟨b16, 0, none⟩))]) (fun y => match y with | (d17, _) => [Asr.blk b7 41 [Seg.of (Enc.arr 32 (Enc.int .u8)) (Arr.rep 32 (0 : Int))], Asr.blk b16 41 [Seg.of (Enc.arr 32 (Enc.int .u8)) d17], Asr.blk b1 105 [Seg.of (Enc.arr 8 (Enc.int .u32)) x2, Seg.of (Enc.arr 64 (Enc.int .u8)) x3, Seg.c (.int .i64 x4), Seg.c (.int .u64 x5)]]) ?_ ?_
    ·
      rintro ⟨d17, ⟨⟩⟩ hm
      unfold F36.j2 at hm
      show QJ _ _ [(2, .pointer (some ⟨b7, 0, none⟩)), (8, .pointer (some ⟨b16, 0, none⟩))] [Asr.blk b7 41 [Seg.of (Enc.arr 32 (Enc.int .u8)) (Arr.rep 32 (0 : Int))], Asr.blk b16 41 [Seg.of (Enc.arr 32 (Enc.int .u8)) d17], Asr.blk b1 105 [Seg.of (Enc.arr 8 (Enc.int .u32)) x2, Seg.of (Enc.arr 64 (Enc.int .u8)) x3, Seg.c (.int .i64 x4), Seg.c (.int .u64 x5)]] _ _
      refine QJ.then_normal ?_
      refine JC.seq ?_
      refine JC.region ?_
      refine JL.val (v := .agg (((Enc.arr 32 (Enc.int .u8))).enc d17).toArray) (QV.eq (QV.loadN (ss := [Seg.of (Enc.arr 32 (Enc.int .u8)) d17]) 1 0 1 rfl tk_41 rfl rfl rfl rfl) rfl) rfl rfl rfl ?_
      refine JL.mv (d := none) (MV.store (ss := [Seg.of (Enc.arr 32 (Enc.int .u8)) (Arr.rep 32 (0 : Int))]) 0 0 1 [Seg.of (Enc.arr 32 (Enc.int .u8)) d17] rfl tk_41 rfl rfl rfl rfl (fun w hs => ⟨rfl, one_of _ _, trivial⟩)) rfl rfl rfl ?_
      rintro _ _ ⟨rfl, rfl⟩
      refine JL.nil ?_
      refine QJ.then_normal ?_
      refine JC.ret ?_
      obtain rfl := Option.some.inj hm
      exact QJ.body (vs := [.agg (((Enc.arr 32 (Enc.int .u8))).enc d17).toArray]) (.inl rfl) rfl (ResVs.cons (ResV.cell (d := none) (ty := 0) (ps := "") (af := #[]) (g := none) rfl (QV.eq (QV.loadN (ss := [Seg.of (Enc.arr 32 (Enc.int .u8)) d17]) 0 0 1 rfl tk_41 rfl rfl rfl rfl) rfl)) ResVs.nil) [2] rfl rfl (.inr ⟨own_blk _ _ _, trivial⟩) ⟨rfl, rfl⟩
    ·
      refine JC.block ?_
      obtain ⟨y22, hl23, hmo24⟩ := bind_inv hm
      refine JC.loop (F36.b1 y14) (fun x z => match x, z with | (d18, d19), _ => [(2, .pointer (some ⟨b7, 0, none⟩)), (3, .pointer (some ⟨b8, 0, none⟩)), (8, .pointer (some ⟨b16, 0, none⟩)), (43, .int .i64 d19)]) (fun x z => match x, z with | (d18, d19), _ => [Asr.blk b7 41 [Seg.of (Enc.arr 32 (Enc.int .u8)) (Arr.rep 32 (0 : Int))], Asr.blk b8 105 [Seg.of (Enc.arr 8 (Enc.int .u32)) y14.1, Seg.of (Enc.arr 64 (Enc.int .u8)) y14.2.1, Seg.c (.int .i64 y14.2.2.1), Seg.c (.int .u64 y14.2.2.2)], Asr.blk b16 41 [Seg.of (Enc.arr 32 (Enc.int .u8)) d18], Asr.blk b1 105 [Seg.of (Enc.arr 8 (Enc.int .u32)) x2, Seg.of (Enc.arr 64 (Enc.int .u8)) x3, Seg.c (.int .i64 x4), Seg.c (.int .u64 x5)]]) ((Arr.rep 32 (0 : Int)), (0 : Int)) () y22 hl23 [2, 1, 0, 4] (by exact ⟨rfl, rfl, rfl, rfl, trivial⟩) rfl rfl ?_
      rintro ⟨d18, d19⟩ ⟨⟩ s25 hm
      unfold F36.b1 at hm
      dsimp only at hm
      show JC _ _ _ [(2, .pointer (some ⟨b7, 0, none⟩)), (3, .pointer (some ⟨b8, 0, none⟩)), (8, .pointer (some ⟨b16, 0, none⟩)), (43, .int .i64 d19)] [Asr.blk b7 41 [Seg.of (Enc.arr 32 (Enc.int .u8)) (Arr.rep 32 (0 : Int))], Asr.blk b8 105 [Seg.of (Enc.arr 8 (Enc.int .u32)) y14.1, Seg.of (Enc.arr 64 (Enc.int .u8)) y14.2.1, Seg.c (.int .i64 y14.2.2.1), Seg.c (.int .u64 y14.2.2.2)], Asr.blk b16 41 [Seg.of (Enc.arr 32 (Enc.int .u8)) d18], Asr.blk b1 105 [Seg.of (Enc.arr 8 (Enc.int .u32)) x2, Seg.of (Enc.arr 64 (Enc.int .u8)) x3, Seg.c (.int .i64 x4), Seg.c (.int .u64 x5)]] _ _
      refine JC.seq ?_
      refine JC.region ?_
      refine JL.val (v := .bool (decide (d19 < (32 : Int)))) (QV.lss rfl rfl) rfl rfl rfl ?_
      refine JL.nil ?_
      refine QJ.then_normal ?_
      refine JC.seq ?_
      rcases ite_inv hm with ⟨h26, hm⟩ | ⟨h26, hm⟩
      ·
        refine JC.condT' rfl (decide_eq_true h26) ?_
        refine JC.skip ?_
        refine QJ.then_normal ?_
        refine JC.seq ?_
        refine JC.block ?_
        refine JC.seq ?_
        refine JC.region ?_
        refine JL.val (v := .int .i64 d19) (QV.move rfl) rfl rfl rfl ?_
        refine JL.val (v := .int .i64 d19) (QV.assign rfl) rfl rfl rfl ?_
        refine JL.nil ?_
        refine QJ.then_normal ?_
        refine JC.region ?_
        refine JL.val (v := .int .i64 d19) (QV.move rfl) rfl rfl rfl ?_
        refine JL.val (v := .int .i64 d19) (QV.move rfl) rfl rfl rfl ?_
        refine JL.val (v := .int .i64 (IntKind.wrap .i64 (Int.tdiv d19 (4 : Int)))) (QV.quo rfl rfl (by decide)) rfl rfl rfl ?_
        refine JL.val (v := .pointer (some ⟨b8, 0, none⟩)) (QV.fieldB fo_105_0 rfl rfl) rfl rfl rfl ?_
        obtain ⟨h27, hm⟩ := guard_inv hm
        refine JL.val (v := .pointer (some ⟨b8, 0 + Int.toNat (IntKind.wrap .i64 (Int.tdiv d19 (4 : Int))) * 1, none⟩)) (QV.indexB Try.underlying98 tk_74 rfl rfl h27) rfl rfl rfl ?_
        refine JL.val (v := .int .u32 (gd (y14.1).l (IntKind.wrap .i64 (Int.tdiv d19 (4 : Int))))) (QV.ar1 (ss := [Seg.of (Enc.arr 8 (Enc.int .u32)) y14.1, Seg.of (Enc.arr 64 (Enc.int .u8)) y14.2.1, Seg.c (.int .i64 y14.2.2.1), Seg.c (.int .u64 y14.2.2.2)]) 1 0 rfl tk_74 rfl rfl rfl rfl h27 rfl) rfl rfl rfl ?_
        refine JL.val (v := .int .i64 d19) (QV.move rfl) rfl rfl rfl ?_
        refine JL.val (v := .int .i64 (Int.tmod d19 (4 : Int))) (QV.rem rfl rfl (by decide)) rfl rfl rfl ?_
        refine JL.val (v := .int .i64 (IntKind.wrap .i64 ((8 : Int) * (Int.tmod d19 (4 : Int))))) (QV.mul rfl rfl) rfl rfl rfl ?_
        refine JL.val (v := .int .i64 (IntKind.wrap .i64 ((24 : Int) - (IntKind.wrap .i64 ((8 : Int) * (Int.tmod d19 (4 : Int))))))) (QV.sub rfl rfl) rfl rfl rfl ?_
        obtain ⟨h28, hm⟩ := guard_inv hm
        refine JL.val (v := .int .u32 (shrI .u32 (gd (y14.1).l (IntKind.wrap .i64 (Int.tdiv d19 (4 : Int)))) (IntKind.wrap .i64 ((24 : Int) - (IntKind.wrap .i64 ((8 : Int) * (Int.tmod d19 (4 : Int)))))))) (QV.shr rfl rfl h28) rfl rfl rfl ?_
        refine JL.val (v := .int .u8 (IntKind.wrap .u8 (shrI .u32 (gd (y14.1).l (IntKind.wrap .i64 (Int.tdiv d19 (4 : Int)))) (IntKind.wrap .i64 ((24 : Int) - (IntKind.wrap .i64 ((8 : Int) * (Int.tmod d19 (4 : Int))))))))) (QV.conv rfl (by rw [Try.underlying74]; rfl) Try.underlying5) rfl rfl rfl ?_
        obtain ⟨h29, hm⟩ := guard_inv hm
        refine JL.val (v := .pointer (some ⟨b16, 0 + Int.toNat d19 * 1, none⟩)) (QV.indexB Try.underlying41 tk_5 rfl rfl h29) rfl rfl rfl ?_
        refine JL.mv (d := none) (MV.storeAr (ss := [Seg.of (Enc.arr 32 (Enc.int .u8)) d18]) 2 0 (IntKind.wrap .u8 (shrI .u32 (gd (y14.1).l (IntKind.wrap .i64 (Int.tdiv d19 (4 : Int)))) (IntKind.wrap .i64 ((24 : Int) - (IntKind.wrap .i64 ((8 : Int) * (Int.tmod d19 (4 : Int)))))))) rfl tk_5 rfl rfl rfl rfl h29 rfl rfl) rfl rfl rfl ?_
        rintro _ _ ⟨rfl, rfl⟩
        refine JL.nil ?_
        refine QJ.block_normal ?_
        refine QJ.then_normal ?_
        refine JC.region ?_
        refine JL.val (v := .int .i64 (IntKind.wrap .i64 (d19 + (1 : Int)))) (QV.add rfl rfl) rfl rfl rfl ?_
        refine JL.val (v := .int .i64 (IntKind.wrap .i64 (d19 + (1 : Int)))) (QV.move rfl) rfl rfl rfl ?_
        refine JL.nil ?_
        obtain rfl := Option.some.inj hm
        exact QJ.round_on ((Arr.set d18 d19 (IntKind.wrap .u8 (shrI .u32 (gd (y14.1).l (IntKind.wrap .i64 (Int.tdiv d19 (4 : Int)))) (IntKind.wrap .i64 ((24 : Int) - (IntKind.wrap .i64 ((8 : Int) * (Int.tmod d19 (4 : Int))))))))), (IntKind.wrap .i64 (d19 + (1 : Int)))) () [0, 1, 2, 3] (by exact ⟨rfl, rfl, rfl, rfl, trivial⟩) rfl rfl
      ·
        refine JC.condF' rfl (decide_eq_false h26) ?_
        refine JC.exit ?_
        refine QJ.then_exit ?_
        obtain rfl := Option.some.inj hm
        refine QJ.round_exit (fun hy => ?_)
        subst hy
        refine QJ.block_hit ?_
        exact QJ.cut_normal (d18, ()) hmo24 [0, 2, 3] (by exact ⟨rfl, rfl, trivial⟩) rfl rfl
  ·
    refine JC.block ?_
    obtain ⟨y34, hl35, hmo36⟩ := bind_inv hm
    refine JC.loop (F36.b2 x5) (fun x z => match x, z with | (d30, d31), _ => [(2, .pointer (some ⟨b7, 0, none⟩)), (3, .pointer (some ⟨b8, 0, none⟩)), (4, .int .u64 x5), (5, .pointer (some ⟨b9, 0, none⟩)), (28, .int .i64 d31)]) (fun x z => match x, z with | (d30, d31), _ => [Asr.blk b7 41 [Seg.of (Enc.arr 32 (Enc.int .u8)) (Arr.rep 32 (0 : Int))], Asr.blk b8 105 [Seg.of (Enc.arr 8 (Enc.int .u32)) y11.1, Seg.of (Enc.arr 64 (Enc.int .u8)) y11.2.1, Seg.c (.int .i64 y11.2.2.1), Seg.c (.int .u64 y11.2.2.2)], Asr.blk b9 106 [Seg.of (Enc.arr 72 (Enc.int .u8)) d30], Asr.blk b1 105 [Seg.of (Enc.arr 8 (Enc.int .u32)) x2, Seg.of (Enc.arr 64 (Enc.int .u8)) x3, Seg.c (.int .i64 x4), Seg.c (.int .u64 x5)]]) ((Arr.set (Arr.rep 72 (0 : Int)) (0 : Int) (128 : Int)), (0 : Int)) () y34 hl35 [2, 0, 1, 3] (by exact ⟨rfl, rfl, rfl, rfl, rfl, trivial⟩) rfl rfl ?_
    rintro ⟨d30, d31⟩ ⟨⟩ s37 hm
    unfold F36.b2 at hm
    dsimp only at hm
    show JC _ _ _ [(2, .pointer (some ⟨b7, 0, none⟩)), (3, .pointer (some ⟨b8, 0, none⟩)), (4, .int .u64 x5), (5, .pointer (some ⟨b9, 0, none⟩)), (28, .int .i64 d31)] [Asr.blk b7 41 [Seg.of (Enc.arr 32 (Enc.int .u8)) (Arr.rep 32 (0 : Int))], Asr.blk b8 105 [Seg.of (Enc.arr 8 (Enc.int .u32)) y11.1, Seg.of (Enc.arr 64 (Enc.int .u8)) y11.2.1, Seg.c (.int .i64 y11.2.2.1), Seg.c (.int .u64 y11.2.2.2)], Asr.blk b9 106 [Seg.of (Enc.arr 72 (Enc.int .u8)) d30], Asr.blk b1 105 [Seg.of (Enc.arr 8 (Enc.int .u32)) x2, Seg.of (Enc.arr 64 (Enc.int .u8)) x3, Seg.c (.int .i64 x4), Seg.c (.int .u64 x5)]] _ _
    refine JC.seq ?_
    refine JC.region ?_
    refine JL.val (v := .bool (decide (d31 < (8 : Int)))) (QV.lss rfl rfl) rfl rfl rfl ?_
    refine JL.nil ?_
    refine QJ.then_normal ?_
    refine JC.seq ?_
    rcases ite_inv hm with ⟨h38, hm⟩ | ⟨h38, hm⟩
    ·
      refine JC.condT' rfl (decide_eq_true h38) ?_
      refine JC.skip ?_
      refine QJ.then_normal ?_
      refine JC.seq ?_
      refine JC.block ?_
      refine JC.seq ?_
      refine JC.region ?_
      refine JL.val (v := .int .i64 d31) (QV.move rfl) rfl rfl rfl ?_
      refine JL.val (v := .int .i64 d31) (QV.assign rfl) rfl rfl rfl ?_
      refine JL.nil ?_
      refine QJ.then_normal ?_
      refine JC.region ?_
      refine JL.val (v := .int .i64 d31) (QV.move rfl) rfl rfl rfl ?_
      refine JL.val (v := .int .u64 x5) (QV.move rfl) rfl rfl rfl ?_
      refine JL.val (v := .int .u64 (IntKind.wrap .u64 ((8 : Int) * x5))) (QV.mul rfl rfl) rfl rfl rfl ?_
      refine JL.val (v := .int .i64 d31) (QV.move rfl) rfl rfl rfl ?_
      refine JL.val (v := .int .i64 (IntKind.wrap .i64 ((8 : Int) * d31))) (QV.mul rfl rfl) rfl rfl rfl ?_
      refine JL.val (v := .int .i64 (IntKind.wrap .i64 ((56 : Int) - (IntKind.wrap .i64 ((8 : Int) * d31))))) (QV.sub rfl rfl) rfl rfl rfl ?_
      obtain ⟨h39, hm⟩ := guard_inv hm
      refine JL.val (v := .int .u64 (shrI .u64 (IntKind.wrap .u64 ((8 : Int) * x5)) (IntKind.wrap .i64 ((56 : Int) - (IntKind.wrap .i64 ((8 : Int) * d31)))))) (QV.shr rfl rfl h39) rfl rfl rfl ?_
      refine JL.val (v := .int .u8 (IntKind.wrap .u8 (shrI .u64 (IntKind.wrap .u64 ((8 : Int) * x5)) (IntKind.wrap .i64 ((56 : Int) - (IntKind.wrap .i64 ((8 : Int) * d31))))))) (QV.conv rfl (by rw [Try.underlying28]; rfl) Try.underlying5) rfl rfl rfl ?_
      obtain ⟨h40, hm⟩ := guard_inv hm
      refine JL.val (v := .pointer (some ⟨b9, 0 + Int.toNat d31 * 1, none⟩)) (QV.indexB Try.underlying106 tk_5 rfl rfl h40) rfl rfl rfl ?_
      refine JL.mv (d := none) (MV.storeAr (ss := [Seg.of (Enc.arr 72 (Enc.int .u8)) d30]) 2 0 (IntKind.wrap .u8 (shrI .u64 (IntKind.wrap .u64 ((8 : Int) * x5)) (IntKind.wrap .i64 ((56 : Int) - (IntKind.wrap .i64 ((8 : Int) * d31)))))) rfl tk_5 rfl rfl rfl rfl h40 rfl rfl) rfl rfl rfl ?_
      rintro _ _ ⟨rfl, rfl⟩
      refine JL.nil ?_
      refine QJ.block_normal ?_
      refine QJ.then_normal ?_
      refine JC.region ?_
      refine JL.val (v := .int .i64 (IntKind.wrap .i64 (d31 + (1 : Int)))) (QV.add rfl rfl) rfl rfl rfl ?_
      refine JL.val (v := .int .i64 (IntKind.wrap .i64 (d31 + (1 : Int)))) (QV.move rfl) rfl rfl rfl ?_
      refine JL.nil ?_
      obtain rfl := Option.some.inj hm
      exact QJ.round_on ((Arr.set d30 d31 (IntKind.wrap .u8 (shrI .u64 (IntKind.wrap .u64 ((8 : Int) * x5)) (IntKind.wrap .i64 ((56 : Int) - (IntKind.wrap .i64 ((8 : Int) * d31))))))), (IntKind.wrap .i64 (d31 + (1 : Int)))) () [0, 1, 2, 3] (by exact ⟨rfl, rfl, rfl, rfl, rfl, trivial⟩) rfl rfl
    ·
      refine JC.condF' rfl (decide_eq_false h38) ?_
      refine JC.exit ?_
      refine QJ.then_exit ?_
      obtain rfl := Option.some.inj hm
      refine QJ.round_exit (fun hy => ?_)
      subst hy
      refine QJ.block_hit ?_
      exact QJ.cut_normal (d30, ()) hmo36 [0, 1, 2, 3] (by exact ⟨rfl, rfl, rfl, trivial⟩) rfl rfl

/-! ### 32: drogher/sha.Sum -/
noncomputable def F32.m (x2 : List Int) : Option (Arr Int 32) :=
  ((F34.m).bind fun y5 => ((F35.m (y5.1) (y5.2) ((0 : Int)) ((0 : Int)) (x2)).bind fun y8 => ((F36.m (y8.1) (y8.2.1) (y8.2.2.1) (y8.2.2.2)).bind fun y10 => some y10)))
set_option maxRecDepth 100000 in
set_option maxHeartbeats 4000000 in
theorem F32.spec (s1 : SlV) (x2 : List Int) (r : (Arr Int 32)) (hm : F32.m x2 = some r) :
    Ctr Try.prog false 32 [s1.v] [Asr.vw (Enc.int .u8) (s1.v) x2] (fun v L' => v = .agg (((Enc.arr 32 (Enc.int .u8))).enc r).toArray ∧ L' = []) := by
  refine Ctr.intro (n := 10) (env := [(0, s1.v)]) Try.func32 rfl rfl rfl rfl (fun c => ?_)
  unfold F32.m at hm
  refine JC.seq ?_
  refine JC.region ?_
  refine JL.mv (d := some 2) (MV.alloc [Seg.of (Enc.arr 32 (Enc.int .u8)) (Arr.rep 32 (0 : Int))] z_41 rfl) rfl rfl rfl ?_
  rintro _ _ ⟨b4, rfl, rfl⟩
  refine JL.nil ?_
  refine QJ.then_normal ?_
  refine JC.seq ?_
  refine JC.region ?_
  obtain ⟨y5, hc6, hm⟩ := bind_inv hm
  refine JL.mv (d := some 4) (MV.call (Lo := []) (Lr := [Asr.blk b4 41 [Seg.of (Enc.arr 32 (Enc.int .u8)) (Arr.rep 32 (0 : Int))], Asr.vw (Enc.int .u8) (s1.v) x2]) (F34.spec _ hc6) rfl Try.func34 rfl rfl rfl [] [0, 1] rfl rfl rfl trivial) rfl rfl rfl ?_
  rintro _ _ ⟨_, ⟨b7, rfl, rfl⟩, rfl⟩
  refine JL.val (v := .pointer (some ⟨b7, 0, none⟩)) (QV.assign rfl) rfl rfl rfl ?_
  refine JL.nil ?_
  refine QJ.then_normal ?_
  refine JC.seq ?_
  refine JC.region ?_
  refine JL.val (v := .pointer (some ⟨b7, 0, none⟩)) (QV.move rfl) rfl rfl rfl ?_
  refine JL.val (v := s1.v) (QV.move rfl) rfl rfl rfl ?_
  obtain ⟨y8, hc9, hm⟩ := bind_inv hm
  refine JL.mv (d := some 7) (MV.call (Lo := [Asr.blk b7 105 [Seg.of (Enc.arr 8 (Enc.int .u32)) y5.1, Seg.of (Enc.arr 64 (Enc.int .u8)) y5.2, Seg.c (.int .i64 (0 : Int)), Seg.c (.int .u64 (0 : Int))]]) (Lr := [Asr.blk b4 41 [Seg.of (Enc.arr 32 (Enc.int .u8)) (Arr.rep 32 (0 : Int))], Asr.vw (Enc.int .u8) (s1.v) x2]) (F35.spec (b7) (s1) (y5.1) (y5.2) ((0 : Int)) ((0 : Int)) (x2) _ hc9) rfl Try.func35 rfl rfl rfl [0] [1, 2] rfl rfl rfl ⟨(Drv.vw 1 rfl), trivial⟩) rfl rfl rfl ?_
  rintro _ _ ⟨_, ⟨rfl, rfl⟩, rfl⟩
  refine JL.nil ?_
  refine QJ.then_normal ?_
  refine JC.seq ?_
  refine JC.region ?_
  refine JL.val (v := .pointer (some ⟨b7, 0, none⟩)) (QV.move rfl) rfl rfl rfl ?_
  obtain ⟨y10, hc11, hm⟩ := bind_inv hm
  refine JL.mv (d := some 9) (MV.call (Lo := [Asr.blk b7 105 [Seg.of (Enc.arr 8 (Enc.int .u32)) y8.1, Seg.of (Enc.arr 64 (Enc.int .u8)) y8.2.1, Seg.c (.int .i64 y8.2.2.1), Seg.c (.int .u64 y8.2.2.2)]]) (Lr := [Asr.blk b4 41 [Seg.of (Enc.arr 32 (Enc.int .u8)) (Arr.rep 32 (0 : Int))], Asr.vw (Enc.int .u8) (s1.v) x2]) (F36.spec (b7) (y8.1) (y8.2.1) (y8.2.2.1) (y8.2.2.2) _ hc11) rfl Try.func36 rfl rfl rfl [0] [1, 2] rfl rfl rfl trivial) rfl rfl rfl ?_
  rintro _ _ ⟨_, ⟨rfl, rfl⟩, rfl⟩
  refine JL.mv (d := none) (MV.store (ss := [Seg.of (Enc.arr 32 (Enc.int .u8)) (Arr.rep 32 (0 : Int))]) 1 0 1 [Seg.of (Enc.arr 32 (Enc.int .u8)) y10] rfl tk_41 rfl rfl rfl rfl (fun w hs => ⟨rfl, one_of _ _, trivial⟩)) rfl rfl rfl ?_
  rintro _ _ ⟨rfl, rfl⟩
  refine JL.nil ?_
  refine QJ.then_normal ?_
  refine JC.ret ?_
  obtain rfl := Option.some.inj hm
  exact QJ.body (vs := [.agg (((Enc.arr 32 (Enc.int .u8))).enc y10).toArray]) (.inl rfl) rfl (ResVs.cons (ResV.cell (d := none) (ty := 0) (ps := "") (af := #[]) (g := none) rfl (QV.eq (QV.loadN (ss := [Seg.of (Enc.arr 32 (Enc.int .u8)) y10]) 1 0 1 rfl tk_41 rfl rfl rfl rfl) rfl)) ResVs.nil) [] rfl rfl (.inr trivial) ⟨rfl, rfl⟩

/-! ### 31: drogher/drogherlaw01.awake -/
noncomputable def F31.m  : Option Bool :=
  ((F32.m ([(97 : Int), (98 : Int), (99 : Int)])).bind fun y3 => (if (gd (y3).l (0 : Int)) = (186 : Int) then (if (gd (y3).l (1 : Int)) = (120 : Int) then (if (gd (y3).l (2 : Int)) = (22 : Int) then some (decide ((gd (y3).l (3 : Int)) = (191 : Int))) else some false) else some false) else some false))
set_option maxRecDepth 100000 in
set_option maxHeartbeats 4000000 in
theorem F31.spec  (r : Bool) (hm : F31.m  = some r) :
    Ctr Try.prog false 31 [] [] (fun v L' => v = .bool r ∧ L' = []) := by
  refine Ctr.intro (n := 23) (env := []) Try.func31 rfl rfl rfl rfl (fun c => ?_)
  unfold F31.m at hm
  refine JC.seq ?_
  refine JC.region ?_
  refine JL.val (v := .bool false) (QV.assign rfl) rfl rfl rfl ?_
  refine JL.nil ?_
  refine QJ.then_normal ?_
  refine JC.seq ?_
  refine JC.region ?_
  refine JL.mv (d := some 2) (MV.lit (E := (Enc.int .u8)) (vals := [(0, .int .u8 (97 : Int)), (1, .int .u8 (98 : Int)), (2, .int .u8 (99 : Int))]) [(97 : Int), (98 : Int), (99 : Int)] Try.underlying22 zi_5 rfl (by decide) rfl (by kernel_rfl)) rfl rfl rfl ?_
  rintro _ _ ⟨z2, rfl, rfl⟩
  refine JL.mv (d := some 3) (MV.mark 0 rfl Try.underlying22 Try.underlying5 (by decide) rfl) rfl rfl rfl ?_
  rintro _ _ ⟨rfl, rfl⟩
  obtain ⟨y3, hc4, hm⟩ := bind_inv hm
  refine JL.mv (d := some 4) (MV.call (Lo := []) (Lr := [Asr.vw (Enc.int .u8) (z2.v) [(97 : Int), (98 : Int), (99 : Int)]]) (F32.spec (z2) ([(97 : Int), (98 : Int), (99 : Int)]) _ hc4) rfl Try.func32 rfl rfl rfl [] [0] rfl rfl rfl ⟨(Drv.vw 0 rfl), trivial⟩) rfl rfl rfl ?_
  rintro _ _ ⟨_, ⟨rfl, rfl⟩, rfl⟩
  refine JL.mv (d := some 1) (MV.alloc [Seg.of (Enc.arr 32 (Enc.int .u8)) (Arr.rep 32 (0 : Int))] z_41 rfl) rfl rfl rfl ?_
  rintro _ _ ⟨b5, rfl, rfl⟩
  refine JL.mv (d := none) (MV.store (ss := [Seg.of (Enc.arr 32 (Enc.int .u8)) (Arr.rep 32 (0 : Int))]) 0 0 1 [Seg.of (Enc.arr 32 (Enc.int .u8)) y3] rfl tk_41 rfl rfl rfl rfl (fun w hs => ⟨rfl, one_of _ _, trivial⟩)) rfl rfl rfl ?_
  rintro _ _ ⟨rfl, rfl⟩
  refine JL.nil ?_
  refine QJ.then_normal ?_
  refine JC.seq ?_
  refine JC.region ?_
  refine JL.val (v := .pointer (some ⟨b5, 0 + Int.toNat (0 : Int) * 1, none⟩)) (QV.indexB Try.underlying41 tk_5 rfl rfl (by decide)) rfl rfl rfl ?_
  refine JL.val (v := .int .u8 (gd (y3).l (0 : Int))) (QV.ar1 (ss := [Seg.of (Enc.arr 32 (Enc.int .u8)) y3]) 0 0 rfl tk_5 rfl rfl rfl rfl (by decide) rfl) rfl rfl rfl ?_
  refine JL.val (v := .bool (decide ((gd (y3).l (0 : Int)) = (186 : Int)))) (QV.eql rfl rfl) rfl rfl rfl ?_
  rcases ite_inv hm with ⟨h6, hm⟩ | ⟨h6, hm⟩
  ·
    refine JL.val (v := .bool true) (QV.eq (QV.move rfl) (congrArg Value.bool (decide_eq_true h6))) rfl rfl rfl ?_
    refine JL.val (v := .pointer (some ⟨b5, 0 + Int.toNat (1 : Int) * 1, none⟩)) (QV.indexB Try.underlying41 tk_5 rfl rfl (by decide)) rfl rfl rfl ?_
    refine JL.val (v := .int .u8 (gd (y3).l (1 : Int))) (QV.ar1 (ss := [Seg.of (Enc.arr 32 (Enc.int .u8)) y3]) 0 0 rfl tk_5 rfl rfl rfl rfl (by decide) rfl) rfl rfl rfl ?_
    refine JL.val (v := .bool (decide ((gd (y3).l (1 : Int)) = (120 : Int)))) (QV.eql rfl rfl) rfl rfl rfl ?_
    refine JL.val (v := .bool (decide ((gd (y3).l (1 : Int)) = (120 : Int)))) (QV.pickT rfl rfl) rfl rfl rfl ?_
    rcases ite_inv hm with ⟨h7, hm⟩ | ⟨h7, hm⟩
    ·
      refine JL.val (v := .bool true) (QV.eq (QV.move rfl) (congrArg Value.bool (decide_eq_true h7))) rfl rfl rfl ?_
      refine JL.val (v := .pointer (some ⟨b5, 0 + Int.toNat (2 : Int) * 1, none⟩)) (QV.indexB Try.underlying41 tk_5 rfl rfl (by decide)) rfl rfl rfl ?_
      refine JL.val (v := .int .u8 (gd (y3).l (2 : Int))) (QV.ar1 (ss := [Seg.of (Enc.arr 32 (Enc.int .u8)) y3]) 0 0 rfl tk_5 rfl rfl rfl rfl (by decide) rfl) rfl rfl rfl ?_
      refine JL.val (v := .bool (decide ((gd (y3).l (2 : Int)) = (22 : Int)))) (QV.eql rfl rfl) rfl rfl rfl ?_
      refine JL.val (v := .bool (decide ((gd (y3).l (2 : Int)) = (22 : Int)))) (QV.pickT rfl rfl) rfl rfl rfl ?_
      rcases ite_inv hm with ⟨h8, hm⟩ | ⟨h8, hm⟩
      ·
        refine JL.val (v := .bool true) (QV.eq (QV.move rfl) (congrArg Value.bool (decide_eq_true h8))) rfl rfl rfl ?_
        refine JL.val (v := .pointer (some ⟨b5, 0 + Int.toNat (3 : Int) * 1, none⟩)) (QV.indexB Try.underlying41 tk_5 rfl rfl (by decide)) rfl rfl rfl ?_
        refine JL.val (v := .int .u8 (gd (y3).l (3 : Int))) (QV.ar1 (ss := [Seg.of (Enc.arr 32 (Enc.int .u8)) y3]) 0 0 rfl tk_5 rfl rfl rfl rfl (by decide) rfl) rfl rfl rfl ?_
        refine JL.val (v := .bool (decide ((gd (y3).l (3 : Int)) = (191 : Int)))) (QV.eql rfl rfl) rfl rfl rfl ?_
        refine JL.val (v := .bool (decide ((gd (y3).l (3 : Int)) = (191 : Int)))) (QV.pickT rfl rfl) rfl rfl rfl ?_
        refine JL.val (v := .bool (decide ((gd (y3).l (3 : Int)) = (191 : Int)))) (QV.assign rfl) rfl rfl rfl ?_
        refine JL.nil ?_
        refine QJ.then_normal ?_
        refine JC.ret ?_
        obtain rfl := Option.some.inj hm
        exact QJ.body (vs := [.bool (decide ((gd (y3).l (3 : Int)) = (191 : Int)))]) (.inl rfl) rfl (ResVs.cons (ResV.tmp rfl) ResVs.nil) [] rfl rfl (.inr trivial) ⟨rfl, rfl⟩
      ·
        refine JL.val (v := .bool false) (QV.eq (QV.move rfl) (congrArg Value.bool (decide_eq_false h8))) rfl rfl rfl ?_
        refine JL.skip (d := some 19) rfl rfl rfl ?_
        refine JL.skip (d := some 20) rfl rfl rfl ?_
        refine JL.skip (d := some 21) rfl rfl rfl ?_
        refine JL.val (v := .bool false) (QV.pickF rfl rfl) rfl rfl rfl ?_
        refine JL.val (v := .bool false) (QV.assign rfl) rfl rfl rfl ?_
        refine JL.nil ?_
        refine QJ.then_normal ?_
        refine JC.ret ?_
        obtain rfl := Option.some.inj hm
        exact QJ.body (vs := [.bool false]) (.inl rfl) rfl (ResVs.cons (ResV.tmp rfl) ResVs.nil) [] rfl rfl (.inr trivial) ⟨rfl, rfl⟩
    ·
      refine JL.val (v := .bool false) (QV.eq (QV.move rfl) (congrArg Value.bool (decide_eq_false h7))) rfl rfl rfl ?_
      refine JL.skip (d := some 14) rfl rfl rfl ?_
      refine JL.skip (d := some 15) rfl rfl rfl ?_
      refine JL.skip (d := some 16) rfl rfl rfl ?_
      refine JL.val (v := .bool false) (QV.pickF rfl rfl) rfl rfl rfl ?_
      refine JL.val (v := .bool false) (QV.move rfl) rfl rfl rfl ?_
      refine JL.skip (d := some 19) rfl rfl rfl ?_
      refine JL.skip (d := some 20) rfl rfl rfl ?_
      refine JL.skip (d := some 21) rfl rfl rfl ?_
      refine JL.val (v := .bool false) (QV.pickF rfl rfl) rfl rfl rfl ?_
      refine JL.val (v := .bool false) (QV.assign rfl) rfl rfl rfl ?_
      refine JL.nil ?_
      refine QJ.then_normal ?_
      refine JC.ret ?_
      obtain rfl := Option.some.inj hm
      exact QJ.body (vs := [.bool false]) (.inl rfl) rfl (ResVs.cons (ResV.tmp rfl) ResVs.nil) [] rfl rfl (.inr trivial) ⟨rfl, rfl⟩
  ·
    refine JL.val (v := .bool false) (QV.eq (QV.move rfl) (congrArg Value.bool (decide_eq_false h6))) rfl rfl rfl ?_
    refine JL.skip (d := some 9) rfl rfl rfl ?_
    refine JL.skip (d := some 10) rfl rfl rfl ?_
    refine JL.skip (d := some 11) rfl rfl rfl ?_
    refine JL.val (v := .bool false) (QV.pickF rfl rfl) rfl rfl rfl ?_
    refine JL.val (v := .bool false) (QV.move rfl) rfl rfl rfl ?_
    refine JL.skip (d := some 14) rfl rfl rfl ?_
    refine JL.skip (d := some 15) rfl rfl rfl ?_
    refine JL.skip (d := some 16) rfl rfl rfl ?_
    refine JL.val (v := .bool false) (QV.pickF rfl rfl) rfl rfl rfl ?_
    refine JL.val (v := .bool false) (QV.move rfl) rfl rfl rfl ?_
    refine JL.skip (d := some 19) rfl rfl rfl ?_
    refine JL.skip (d := some 20) rfl rfl rfl ?_
    refine JL.skip (d := some 21) rfl rfl rfl ?_
    refine JL.val (v := .bool false) (QV.pickF rfl rfl) rfl rfl rfl ?_
    refine JL.val (v := .bool false) (QV.assign rfl) rfl rfl rfl ?_
    refine JL.nil ?_
    refine QJ.then_normal ?_
    refine JC.ret ?_
    obtain rfl := Option.some.inj hm
    exact QJ.body (vs := [.bool false]) (.inl rfl) rfl (ResVs.cons (ResV.tmp rfl) ResVs.nil) [] rfl rfl (.inr trivial) ⟨rfl, rfl⟩

/-! ### 72: drogher/drogherref01.roots -/
noncomputable def F72.m  : Option (Arr Int 64) :=
  some K1
set_option maxRecDepth 100000 in
set_option maxHeartbeats 4000000 in
theorem F72.spec  (r : (Arr Int 64)) (hm : F72.m  = some r) :
    Ctr Try.prog false 72 [] [] (fun v L' => v = .agg (((Enc.arr 64 (Enc.int .u32))).enc r).toArray ∧ L' = []) := by
  refine Ctr.intro (n := 2) (env := []) Try.func72 rfl rfl rfl rfl (fun c => ?_)
  unfold F72.m at hm
  refine JC.seq ?_
  refine JC.region ?_
  refine JL.mv (d := some 0) (MV.alloc [Seg.of (Enc.arr 64 (Enc.int .u32)) (Arr.rep 64 (0 : Int))] z_99 rfl) rfl rfl rfl ?_
  rintro _ _ ⟨b2, rfl, rfl⟩
  refine JL.nil ?_
  refine QJ.then_normal ?_
  refine JC.seq ?_
  refine JC.region ?_
  refine JL.val (v := .agg (((Enc.arr 64 (Enc.int .u32))).enc K1).toArray) (QV.build (vals := [(0, .int .u32 (1116352408 : Int)), (1, .int .u32 (1899447441 : Int)), (2, .int .u32 (3049323471 : Int)), (3, .int .u32 (3921009573 : Int)), (4, .int .u32 (961987163 : Int)), (5, .int .u32 (1508970993 : Int)), (6, .int .u32 (2453635748 : Int)), (7, .int .u32 (2870763221 : Int)), (8, .int .u32 (3624381080 : Int)), (9, .int .u32 (310598401 : Int)), (10, .int .u32 (607225278 : Int)), (11, .int .u32 (1426881987 : Int)), (12, .int .u32 (1925078388 : Int)), (13, .int .u32 (2162078206 : Int)), (14, .int .u32 (2614888103 : Int)), (15, .int .u32 (3248222580 : Int)), (16, .int .u32 (3835390401 : Int)), (17, .int .u32 (4022224774 : Int)), (18, .int .u32 (264347078 : Int)), (19, .int .u32 (604807628 : Int)), (20, .int .u32 (770255983 : Int)), (21, .int .u32 (1249150122 : Int)), (22, .int .u32 (1555081692 : Int)), (23, .int .u32 (1996064986 : Int)), (24, .int .u32 (2554220882 : Int)), (25, .int .u32 (2821834349 : Int)), (26, .int .u32 (2952996808 : Int)), (27, .int .u32 (3210313671 : Int)), (28, .int .u32 (3336571891 : Int)), (29, .int .u32 (3584528711 : Int)), (30, .int .u32 (113926993 : Int)), (31, .int .u32 (338241895 : Int)), (32, .int .u32 (666307205 : Int)), (33, .int .u32 (773529912 : Int)), (34, .int .u32 (1294757372 : Int)), (35, .int .u32 (1396182291 : Int)), (36, .int .u32 (1695183700 : Int)), (37, .int .u32 (1986661051 : Int)), (38, .int .u32 (2177026350 : Int)), (39, .int .u32 (2456956037 : Int)), (40, .int .u32 (2730485921 : Int)), (41, .int .u32 (2820302411 : Int)), (42, .int .u32 (3259730800 : Int)), (43, .int .u32 (3345764771 : Int)), (44, .int .u32 (3516065817 : Int)), (45, .int .u32 (3600352804 : Int)), (46, .int .u32 (4094571909 : Int)), (47, .int .u32 (275423344 : Int)), (48, .int .u32 (430227734 : Int)), (49, .int .u32 (506948616 : Int)), (50, .int .u32 (659060556 : Int)), (51, .int .u32 (883997877 : Int)), (52, .int .u32 (958139571 : Int)), (53, .int .u32 (1322822218 : Int)), (54, .int .u32 (1537002063 : Int)), (55, .int .u32 (1747873779 : Int)), (56, .int .u32 (1955562222 : Int)), (57, .int .u32 (2024104815 : Int)), (58, .int .u32 (2227730452 : Int)), (59, .int .u32 (2361852424 : Int)), (60, .int .u32 (2428436474 : Int)), (61, .int .u32 (2756734187 : Int)), (62, .int .u32 (3204031479 : Int)), (63, .int .u32 (3329325298 : Int))]) (cells := ((Enc.arr 64 (Enc.int .u32)).enc K1).toArray) rfl (by kernel_rfl)) rfl rfl rfl ?_
  refine JL.mv (d := none) (MV.store (ss := [Seg.of (Enc.arr 64 (Enc.int .u32)) (Arr.rep 64 (0 : Int))]) 0 0 1 [Seg.of (Enc.arr 64 (Enc.int .u32)) K1] rfl tk_99 rfl rfl rfl rfl (fun w hs => ⟨rfl, one_of _ _, trivial⟩)) rfl rfl rfl ?_
  rintro _ _ ⟨rfl, rfl⟩
  refine JL.nil ?_
  refine QJ.then_normal ?_
  refine JC.ret ?_
  obtain rfl := Option.some.inj hm
  exact QJ.body (vs := [.agg (((Enc.arr 64 (Enc.int .u32))).enc K1).toArray]) (.inl rfl) rfl (ResVs.cons (ResV.cell (d := none) (ty := 0) (ps := "") (af := #[]) (g := none) rfl (QV.eq (QV.loadN (ss := [Seg.of (Enc.arr 64 (Enc.int .u32)) K1]) 0 0 1 rfl tk_99 rfl rfl rfl rfl) rfl)) ResVs.nil) [] rfl rfl (.inr trivial) ⟨rfl, rfl⟩

/-! ### 73: drogher/drogherref01.padded -/
noncomputable def F73.j2  (d14 : List Int) : Option (List Int) :=
  some d14
noncomputable def F73.b1 (x2 : List Int) : (List Int × Int) → Option ((List Int × Int) ⊕ (List Int))
  | (d16, d17) => (if d17 < (8 : Int) then (if 0 ≤ (IntKind.wrap .i64 ((56 : Int) - (IntKind.wrap .i64 ((8 : Int) * d17)))) then (if ((d16).length + ([(IntKind.wrap .u8 (shrI .u64 (IntKind.wrap .u64 ((IntKind.wrap .u64 ((x2).length : Int)) * (8 : Int))) (IntKind.wrap .i64 ((56 : Int) - (IntKind.wrap .i64 ((8 : Int) * d17))))))]).length) * 1 ≤ 140737488355328 ∧ (d16).length + ([(IntKind.wrap .u8 (shrI .u64 (IntKind.wrap .u64 ((IntKind.wrap .u64 ((x2).length : Int)) * (8 : Int))) (IntKind.wrap .i64 ((56 : Int) - (IntKind.wrap .i64 ((8 : Int) * d17))))))]).length ≤ 9223372036854775807 then some (.inl ((d16 ++ [(IntKind.wrap .u8 (shrI .u64 (IntKind.wrap .u64 ((IntKind.wrap .u64 ((x2).length : Int)) * (8 : Int))) (IntKind.wrap .i64 ((56 : Int) - (IntKind.wrap .i64 ((8 : Int) * d17))))))]), (IntKind.wrap .i64 (d17 + (1 : Int))))) else none) else none) else some (.inr d16))
noncomputable def F73.j1 (x2 : List Int) (d12 : List Int) : Option (List Int) :=
  ((loop (F73.b1 x2) (d12, (0 : Int))).bind fun y => match y with | d14 => F73.j2 (d14))
noncomputable def F73.b2  : (List Int) → Option ((List Int) ⊕ (List Int))
  | d31 => (if (Int.tmod ((d31).length : Int) (64 : Int)) = (56 : Int) then some (.inr d31) else (if ((d31).length + ([(0 : Int)]).length) * 1 ≤ 140737488355328 ∧ (d31).length + ([(0 : Int)]).length ≤ 9223372036854775807 then some (.inl (d31 ++ [(0 : Int)])) else none))
noncomputable def F73.m (x2 : List Int) : Option (List Int) :=
  (if ((([] : List Int)).length + (x2).length) * 1 ≤ 140737488355328 ∧ (([] : List Int)).length + (x2).length ≤ 9223372036854775807 then (if (((([] : List Int) ++ x2)).length + ([(128 : Int)]).length) * 1 ≤ 140737488355328 ∧ ((([] : List Int) ++ x2)).length + ([(128 : Int)]).length ≤ 9223372036854775807 then ((loop (F73.b2) ((([] : List Int) ++ x2) ++ [(128 : Int)])).bind fun y => match y with | d12 => F73.j1 x2 (d12)) else none) else none)
set_option maxRecDepth 100000 in
set_option maxHeartbeats 4000000 in
theorem F73.spec (s1 : SlV) (x2 : List Int) (r : (List Int)) (hm : F73.m x2 = some r) :
    Ctr Try.prog false 73 [s1.v] [Asr.vw (Enc.int .u8) (s1.v) x2] (fun v L' => ∃ (g3 : SlV), v = g3.v ∧ L' = [Asr.of 5 (Enc.int .u8) (g3.v) r]) := by
  refine Ctr.intro (n := 38) (env := [(0, s1.v)]) Try.func73 rfl rfl rfl rfl (fun c => ?_)
  unfold F73.m at hm
  refine JC.seq ?_
  refine JC.region ?_
  refine JL.ent (fun _ hs => hs.nil 5 (Enc.int .u8)) ?_
  refine JL.val (v := SlV.nil.v) (QV.assign rfl) rfl rfl rfl ?_
  refine JL.nil ?_
  refine QJ.then_normal ?_
  refine JC.seq ?_
  refine JC.region ?_
  refine JL.mv (d := some 6) (MV.lit0 (Enc.int .u8) Try.underlying22 (by kernel_rfl)) rfl rfl rfl ?_
  rintro _ _ ⟨z5, rfl, rfl⟩
  refine JL.val (v := z5.v) (QV.assign rfl) rfl rfl rfl ?_
  refine JL.nil ?_
  refine QJ.then_normal ?_
  refine JC.seq ?_
  refine JC.region ?_
  refine JL.val (v := z5.v) (QV.move rfl) rfl rfl rfl ?_
  refine JL.val (v := s1.v) (QV.move rfl) rfl rfl rfl ?_
  obtain ⟨h6, hm⟩ := guard_inv hm
  refine JL.mv (d := some 9) (MV.append 0 rfl (Rdg.vw 2 rfl) Try.underlying22 zi_5 rfl (by decide) rfl rfl h6) rfl rfl rfl ?_
  rintro _ _ ⟨z7, rfl, rfl⟩
  refine JL.val (v := z7.v) (QV.assign rfl) rfl rfl rfl ?_
  refine JL.nil ?_
  refine QJ.then_normal ?_
  refine JC.seq ?_
  refine JC.region ?_
  refine JL.val (v := z7.v) (QV.move rfl) rfl rfl rfl ?_
  refine JL.mv (d := some 11) (MV.lit (E := (Enc.int .u8)) (vals := [(0, .int .u8 (128 : Int))]) [(128 : Int)] Try.underlying22 zi_5 rfl (by decide) rfl (by kernel_rfl)) rfl rfl rfl ?_
  rintro _ _ ⟨z8, rfl, rfl⟩
  obtain ⟨h9, hm⟩ := guard_inv hm
  refine JL.mv (d := some 12) (MV.append 1 rfl (Rdg.of 0 rfl) Try.underlying22 zi_5 rfl (by decide) rfl rfl h9) rfl rfl rfl ?_
  rintro _ _ ⟨z10, rfl, rfl⟩
  refine JL.val (v := z10.v) (QV.assign rfl) rfl rfl rfl ?_
  refine JL.nil ?_
  refine QJ.then_normal ?_
  refine JC.seq ?_
  refine JC.cutK (Y := (List Int) × SlV) (fun y => match y with | (d12, _) => F73.j1 x2 (d12) = some r) (fun y => match y with | (d12, z11) => [(0, s1.v), (3, z11.v)]) (fun y => match y with | (d12, z11) => [Asr.vw (Enc.int .u8) (s1.v) x2, Asr.of 5 (Enc.int .u8) (z11.v) d12]) ?_ ?_
  ·
    rintro ⟨d12, z11⟩ hm
    unfold F73.j1 at hm
    show QJ _ _ [(0, s1.v), (3, z11.v)] [Asr.vw (Enc.int .u8) (s1.v) x2, Asr.of 5 (Enc.int .u8) (z11.v) d12] _ _
    refine QJ.then_normal ?_
    refine JC.seq ?_
    refine JC.region ?_
    refine JL.val (v := s1.v) (QV.move rfl) rfl rfl rfl ?_
    refine JL.val (v := .int .i64 ((x2).length : Int)) (QV.len (Rdg.vw 0 rfl) Try.underlying22 rfl) rfl rfl rfl ?_
    refine JL.val (v := .int .u64 (IntKind.wrap .u64 ((x2).length : Int))) (QV.conv rfl (by rw [Try.underlying3]; rfl) Try.underlying28) rfl rfl rfl ?_
    refine JL.val (v := .int .u64 (IntKind.wrap .u64 ((IntKind.wrap .u64 ((x2).length : Int)) * (8 : Int)))) (QV.mul rfl rfl) rfl rfl rfl ?_
    refine JL.val (v := .int .u64 (IntKind.wrap .u64 ((IntKind.wrap .u64 ((x2).length : Int)) * (8 : Int)))) (QV.assign rfl) rfl rfl rfl ?_
    refine JL.nil ?_
    refine QJ.then_normal ?_
    refine JC.seq ?_
    refine JC.seq ?_
    refine JC.region ?_
    refine JL.val (v := .int .i64 (0 : Int)) (QV.assign rfl) rfl rfl rfl ?_
    refine JL.nil ?_
    refine QJ.then_normal ?_
    refine JC.cutK (Y := (List Int) × SlV) (fun y => match y with | (d14, _) => F73.j2 (d14) = some r) (fun y => match y with | (d14, z13) => [(3, z13.v)]) (fun y => match y with | (d14, z13) => [Asr.of 5 (Enc.int .u8) (z13.v) d14]) ?_ ?_
    ·
      rintro ⟨d14, z13⟩ hm
      unfold F73.j2 at hm
      show QJ _ _ [(3, z13.v)] [Asr.of 5 (Enc.int .u8) (z13.v) d14] _ _
      refine QJ.then_normal ?_
      refine JC.seq ?_
      refine JC.region ?_
      refine JL.val (v := z13.v) (QV.move rfl) rfl rfl rfl ?_
      refine JL.val (v := z13.v) (QV.assign rfl) rfl rfl rfl ?_
      refine JL.nil ?_
      refine QJ.then_normal ?_
      refine JC.ret ?_
      obtain rfl := Option.some.inj hm
      exact QJ.body (vs := [z13.v]) (.inl rfl) rfl (ResVs.cons (ResV.tmp rfl) ResVs.nil) [0] rfl rfl (.inr ⟨own_of _ _ _ _, trivial⟩) ⟨z13, rfl, rfl⟩
    ·
      refine JC.block ?_
      obtain ⟨y21, hl22, hmo23⟩ := bind_inv hm
      refine JC.loop (F73.b1 x2) (fun x z => match x, z with | (d16, d17), z15 => [(3, z15.v), (4, .int .u64 (IntKind.wrap .u64 ((IntKind.wrap .u64 ((x2).length : Int)) * (8 : Int)))), (5, .int .i64 d17)]) (fun x z => match x, z with | (d16, d17), z15 => [Asr.of 5 (Enc.int .u8) (z15.v) d16]) (d12, (0 : Int)) z11 y21 hl22 [1] (by exact ⟨rfl, rfl, rfl, trivial⟩) rfl rfl ?_
      rintro ⟨d16, d17⟩ z15 s24 hm
      unfold F73.b1 at hm
      dsimp only at hm
      show JC _ _ _ [(3, z15.v), (4, .int .u64 (IntKind.wrap .u64 ((IntKind.wrap .u64 ((x2).length : Int)) * (8 : Int)))), (5, .int .i64 d17)] [Asr.of 5 (Enc.int .u8) (z15.v) d16] _ _
      refine JC.seq ?_
      refine JC.seq ?_
      refine JC.region ?_
      refine JL.val (v := .int .i64 d17) (QV.move rfl) rfl rfl rfl ?_
      refine JL.val (v := .bool (decide (d17 < (8 : Int)))) (QV.lss rfl rfl) rfl rfl rfl ?_
      refine JL.nil ?_
      refine QJ.then_normal ?_
      rcases ite_inv hm with ⟨h25, hm⟩ | ⟨h25, hm⟩
      ·
        refine JC.condT' rfl (decide_eq_true h25) ?_
        refine JC.skip ?_
        refine QJ.then_normal ?_
        refine JC.seq ?_
        refine JC.block ?_
        refine JC.region ?_
        refine JL.val (v := z15.v) (QV.move rfl) rfl rfl rfl ?_
        refine JL.val (v := .int .u64 (IntKind.wrap .u64 ((IntKind.wrap .u64 ((x2).length : Int)) * (8 : Int)))) (QV.move rfl) rfl rfl rfl ?_
        refine JL.val (v := .int .i64 d17) (QV.move rfl) rfl rfl rfl ?_
        refine JL.val (v := .int .i64 (IntKind.wrap .i64 ((8 : Int) * d17))) (QV.mul rfl rfl) rfl rfl rfl ?_
        refine JL.val (v := .int .i64 (IntKind.wrap .i64 ((56 : Int) - (IntKind.wrap .i64 ((8 : Int) * d17))))) (QV.sub rfl rfl) rfl rfl rfl ?_
        obtain ⟨h26, hm⟩ := guard_inv hm
        refine JL.val (v := .int .u64 (shrI .u64 (IntKind.wrap .u64 ((IntKind.wrap .u64 ((x2).length : Int)) * (8 : Int))) (IntKind.wrap .i64 ((56 : Int) - (IntKind.wrap .i64 ((8 : Int) * d17)))))) (QV.shr rfl rfl h26) rfl rfl rfl ?_
        refine JL.val (v := .int .u8 (IntKind.wrap .u8 (shrI .u64 (IntKind.wrap .u64 ((IntKind.wrap .u64 ((x2).length : Int)) * (8 : Int))) (IntKind.wrap .i64 ((56 : Int) - (IntKind.wrap .i64 ((8 : Int) * d17))))))) (QV.conv rfl (by rw [Try.underlying28]; rfl) Try.underlying5) rfl rfl rfl ?_
        refine JL.mv (d := some 35) (MV.lit (E := (Enc.int .u8)) (vals := [(0, .int .u8 (IntKind.wrap .u8 (shrI .u64 (IntKind.wrap .u64 ((IntKind.wrap .u64 ((x2).length : Int)) * (8 : Int))) (IntKind.wrap .i64 ((56 : Int) - (IntKind.wrap .i64 ((8 : Int) * d17)))))))]) [(IntKind.wrap .u8 (shrI .u64 (IntKind.wrap .u64 ((IntKind.wrap .u64 ((x2).length : Int)) * (8 : Int))) (IntKind.wrap .i64 ((56 : Int) - (IntKind.wrap .i64 ((8 : Int) * d17))))))] Try.underlying22 zi_5 rfl (by decide) rfl (by kernel_rfl)) rfl rfl rfl ?_
        rintro _ _ ⟨z27, rfl, rfl⟩
        obtain ⟨h28, hm⟩ := guard_inv hm
        refine JL.mv (d := some 36) (MV.append 1 rfl (Rdg.of 0 rfl) Try.underlying22 zi_5 rfl (by decide) rfl rfl h28) rfl rfl rfl ?_
        rintro _ _ ⟨z29, rfl, rfl⟩
        refine JL.val (v := z29.v) (QV.assign rfl) rfl rfl rfl ?_
        refine JL.nil ?_
        refine QJ.block_normal ?_
        refine QJ.then_normal ?_
        refine JC.region ?_
        refine JL.val (v := .int .i64 d17) (QV.move rfl) rfl rfl rfl ?_
        refine JL.val (v := .int .i64 (IntKind.wrap .i64 (d17 + (1 : Int)))) (QV.add rfl rfl) rfl rfl rfl ?_
        refine JL.val (v := .int .i64 (IntKind.wrap .i64 (d17 + (1 : Int)))) (QV.assign rfl) rfl rfl rfl ?_
        refine JL.nil ?_
        obtain rfl := Option.some.inj hm
        exact QJ.round_on ((d16 ++ [(IntKind.wrap .u8 (shrI .u64 (IntKind.wrap .u64 ((IntKind.wrap .u64 ((x2).length : Int)) * (8 : Int))) (IntKind.wrap .i64 ((56 : Int) - (IntKind.wrap .i64 ((8 : Int) * d17))))))]), (IntKind.wrap .i64 (d17 + (1 : Int)))) z29 [1] (by exact ⟨rfl, rfl, rfl, trivial⟩) rfl rfl
      ·
        refine JC.condF' rfl (decide_eq_false h25) ?_
        refine JC.exit ?_
        refine QJ.then_exit ?_
        obtain rfl := Option.some.inj hm
        refine QJ.round_exit (fun hy => ?_)
        subst hy
        refine QJ.block_hit ?_
        exact QJ.cut_normal (d16, z15) hmo23 [0] (by exact ⟨rfl, trivial⟩) rfl rfl
  ·
    refine JC.block ?_
    obtain ⟨y34, hl35, hmo36⟩ := bind_inv hm
    refine JC.loop (F73.b2) (fun x z => match x, z with | d31, z30 => [(0, s1.v), (3, z30.v)]) (fun x z => match x, z with | d31, z30 => [Asr.vw (Enc.int .u8) (s1.v) x2, Asr.of 5 (Enc.int .u8) (z30.v) d31]) ((([] : List Int) ++ x2) ++ [(128 : Int)]) z10 y34 hl35 [3, 1] (by exact ⟨rfl, rfl, trivial⟩) rfl rfl ?_
    rintro d31 z30 s37 hm
    unfold F73.b2 at hm
    dsimp only at hm
    show JC _ _ _ [(0, s1.v), (3, z30.v)] [Asr.vw (Enc.int .u8) (s1.v) x2, Asr.of 5 (Enc.int .u8) (z30.v) d31] _ _
    refine JC.seq ?_
    refine JC.seq ?_
    refine JC.region ?_
    refine JL.val (v := z30.v) (QV.move rfl) rfl rfl rfl ?_
    refine JL.val (v := .int .i64 ((d31).length : Int)) (QV.len (Rdg.of 1 rfl) Try.underlying22 rfl) rfl rfl rfl ?_
    refine JL.val (v := .int .i64 (Int.tmod ((d31).length : Int) (64 : Int))) (QV.rem rfl rfl (by decide)) rfl rfl rfl ?_
    refine JL.val (v := .bool (!(decide ((Int.tmod ((d31).length : Int) (64 : Int)) = (56 : Int))))) (QV.neq rfl rfl) rfl rfl rfl ?_
    refine JL.nil ?_
    refine QJ.then_normal ?_
    rcases ite_inv hm with ⟨h38, hm⟩ | ⟨h38, hm⟩
    ·
      refine JC.condF' rfl (congrArg Bool.not (decide_eq_true h38)) ?_
      refine JC.exit ?_
      refine QJ.then_exit ?_
      obtain rfl := Option.some.inj hm
      refine QJ.round_exit (fun hy => ?_)
      subst hy
      refine QJ.block_hit ?_
      exact QJ.cut_normal (d31, z30) hmo36 [0, 1] (by exact ⟨rfl, rfl, trivial⟩) rfl rfl
    ·
      refine JC.condT' rfl (congrArg Bool.not (decide_eq_false h38)) ?_
      refine JC.skip ?_
      refine QJ.then_normal ?_
      refine JC.block ?_
      refine JC.region ?_
      refine JL.val (v := z30.v) (QV.move rfl) rfl rfl rfl ?_
      refine JL.mv (d := some 18) (MV.lit (E := (Enc.int .u8)) (vals := [(0, .int .u8 (0 : Int))]) [(0 : Int)] Try.underlying22 zi_5 rfl (by decide) rfl (by kernel_rfl)) rfl rfl rfl ?_
      rintro _ _ ⟨z39, rfl, rfl⟩
      obtain ⟨h40, hm⟩ := guard_inv hm
      refine JL.mv (d := some 19) (MV.append 2 rfl (Rdg.of 0 rfl) Try.underlying22 zi_5 rfl (by decide) rfl rfl h40) rfl rfl rfl ?_
      rintro _ _ ⟨z41, rfl, rfl⟩
      refine JL.val (v := z41.v) (QV.assign rfl) rfl rfl rfl ?_
      refine JL.nil ?_
      refine QJ.block_normal ?_
      obtain rfl := Option.some.inj hm
      exact QJ.round_on (d31 ++ [(0 : Int)]) z41 [1, 2] (by exact ⟨rfl, rfl, trivial⟩) rfl rfl

/-! ### 92: drogher/drogherref01.turn -/
noncomputable def F92.m (x1 : Int) (x2 : Int) : Option Int :=
  (if 0 ≤ x2 then (if 0 ≤ (IntKind.wrap .i64 ((32 : Int) - x2)) then some (orI .u32 (shrI .u32 x1 x2) (shlI .u32 x1 (IntKind.wrap .i64 ((32 : Int) - x2)))) else none) else none)
set_option maxRecDepth 100000 in
set_option maxHeartbeats 4000000 in
theorem F92.spec (x1 : Int) (x2 : Int) (r : Int) (hm : F92.m x1 x2 = some r) :
    Ctr Try.prog false 92 [.int .u32 x1, .int .i64 x2] [] (fun v L' => v = .int .u32 r ∧ L' = []) := by
  refine Ctr.intro (n := 13) (env := [(0, .int .u32 x1), (1, .int .i64 x2)]) Try.func92 rfl rfl rfl rfl (fun c => ?_)
  unfold F92.m at hm
  refine JC.seq ?_
  refine JC.region ?_
  refine JL.val (v := .int .u32 (0 : Int)) (QV.assign rfl) rfl rfl rfl ?_
  refine JL.nil ?_
  refine QJ.then_normal ?_
  refine JC.seq ?_
  refine JC.regionT [] (fun t => false) [(0, true), (1, true), (2, true), (3, true), (4, false), (5, false), (6, false), (7, false), (8, false)] (by kernel_rfl) (by kernel_rfl) (by kernel_rfl) rfl (fun hsel => ?_)
  refine JT.take (i := 0) (v := .int .u32 x1) hsel rfl (QV.move rfl) rfl rfl rfl [] rfl rfl ?_
  refine JT.take (i := 1) (v := .int .i64 x2) hsel rfl (QV.move rfl) rfl rfl rfl [] rfl rfl ?_
  obtain ⟨h4, hm⟩ := guard_inv hm
  refine JT.take (i := 2) (v := .int .u32 (shrI .u32 x1 x2)) hsel rfl (QV.shr rfl rfl h4) rfl rfl rfl [] rfl rfl ?_
  refine JT.take (i := 3) (v := .int .u32 x1) hsel rfl (QV.move rfl) rfl rfl rfl [] rfl rfl ?_
  refine JT.only (i := 4) (d := some 9) rfl (MV.ofQV (v := .int .i64 x2) (QV.move rfl)) rfl rfl rfl ?_
  rintro _ _ ⟨rfl, rfl⟩
  refine ⟨fun _ => ⟨[], rfl, rfl⟩, ?_⟩
  refine JT.only (i := 5) (d := some 10) rfl (MV.ofQV (v := .int .i64 (IntKind.wrap .i64 ((32 : Int) - x2))) (QV.sub rfl rfl)) rfl rfl rfl ?_
  rintro _ _ ⟨rfl, rfl⟩
  refine ⟨fun _ => ⟨[], rfl, rfl⟩, ?_⟩
  obtain ⟨h5, hm⟩ := guard_inv hm
  refine JT.only (i := 6) (d := some 11) rfl (MV.ofQV (v := .int .u32 (shlI .u32 x1 (IntKind.wrap .i64 ((32 : Int) - x2)))) (QV.shl rfl rfl h5)) rfl rfl rfl ?_
  rintro _ _ ⟨rfl, rfl⟩
  refine ⟨fun _ => ⟨[], rfl, rfl⟩, ?_⟩
  refine JT.only (i := 7) (d := some 12) rfl (MV.ofQV (v := .int .u32 (orI .u32 (shrI .u32 x1 x2) (shlI .u32 x1 (IntKind.wrap .i64 ((32 : Int) - x2))))) (QV.or rfl rfl)) rfl rfl rfl ?_
  rintro _ _ ⟨rfl, rfl⟩
  refine ⟨fun _ => ⟨[], rfl, rfl⟩, ?_⟩
  refine JT.only (i := 8) (d := some 4) rfl (MV.ofQV (v := .int .u32 (orI .u32 (shrI .u32 x1 x2) (shlI .u32 x1 (IntKind.wrap .i64 ((32 : Int) - x2))))) (QV.assign rfl)) rfl rfl rfl ?_
  rintro _ _ ⟨rfl, rfl⟩
  refine ⟨fun _ => ⟨[], rfl, rfl⟩, ?_⟩
  refine JT.nil ?_
  refine QJ.then_normal ?_
  refine JC.ret ?_
  obtain rfl := Option.some.inj hm
  exact QJ.body (vs := [.int .u32 (orI .u32 (shrI .u32 x1 x2) (shlI .u32 x1 (IntKind.wrap .i64 ((32 : Int) - x2))))]) (.inl rfl) rfl (ResVs.cons (ResV.tmp rfl) ResVs.nil) [] rfl rfl (.inr trivial) ⟨rfl, rfl⟩

end Go.Proofs.Ytmedbpiapeiobaa
