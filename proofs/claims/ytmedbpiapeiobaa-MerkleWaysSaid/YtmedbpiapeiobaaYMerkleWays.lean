/- Written by gen.py: functions and their contracts. -/
import Derived.Test.YtmedbpiapeiobaaMer
namespace Go.Proofs.Ytmedbpiapeiobaa
open Go Go.Eng Go.Proofs
set_option linter.unusedVariables false
set_option linter.unusedSimpArgs false
/-! ### 54: drogher/merkle.Way -/
noncomputable def F54.j1  (d10 : List (Arr Int 32)) : Option (List (Arr Int 32) × Int) :=
  some (d10, (0 : Int))
noncomputable def F54.j2  (d29 : List (Arr Int 32)) (d30 : Int) (d32 : List (Arr Int 32)) : Option ((List (Arr Int 32) × Int × List (Arr Int 32)) ⊕ (List (Arr Int 32))) :=
  some (.inl (d29, d30, d32))
noncomputable def F54.b1  : (List (Arr Int 32) × Int × List (Arr Int 32)) → Option ((List (Arr Int 32) × Int × List (Arr Int 32)) ⊕ (List (Arr Int 32)))
  | (d12, d13, d15) => (if (1 : Int) < ((d12).length : Int) then ((F76.m (((d12).length : Int))).bind fun y26 => (if d13 < y26 then (if 0 ≤ y26 ∧ y26 ≤ ((d12).length : Int) ∧ ((d12).length : Int) ≤ ((d12).length : Int) then ((F44.m ((subL d12 y26 ((d12).length : Int)))).bind fun y35 => (if (([y35]).length + (d15).length) * 32 ≤ 140737488355328 ∧ ([y35]).length + (d15).length ≤ 9223372036854775807 then (if 0 ≤ (0 : Int) ∧ (0 : Int) ≤ y26 ∧ y26 ≤ ((d12).length : Int) then F54.j2 ((subL d12 (0 : Int) y26)) (d13) (([y35] ++ d15)) else none) else none)) else none) else (if 0 ≤ (0 : Int) ∧ (0 : Int) ≤ y26 ∧ y26 ≤ ((d12).length : Int) then ((F44.m ((subL d12 (0 : Int) y26))).bind fun y42 => (if (([y42]).length + (d15).length) * 32 ≤ 140737488355328 ∧ ([y42]).length + (d15).length ≤ 9223372036854775807 then (if 0 ≤ y26 ∧ y26 ≤ ((d12).length : Int) ∧ ((d12).length : Int) ≤ ((d12).length : Int) then F54.j2 ((subL d12 y26 ((d12).length : Int))) ((IntKind.wrap .i64 (d13 - y26))) (([y42] ++ d15)) else none) else none)) else none))) else some (.inr d15))
noncomputable def F54.m (x2 : List (Arr Int 32)) (x3 : Int) : Option (List (Arr Int 32) × Int) :=
  (if x3 < (0 : Int) then some (([] : List (Arr Int 32)), (5 : Int)) else (if ((x2).length : Int) ≤ x3 then some (([] : List (Arr Int 32)), (5 : Int)) else ((loop (F54.b1) (x2, x3, ([] : List (Arr Int 32)))).bind fun y => match y with | d10 => F54.j1 (d10))))
set_option maxRecDepth 100000 in
set_option maxHeartbeats 4000000 in
theorem F54.spec (s1 : SlV) (x2 : List (Arr Int 32)) (x3 : Int) (r : (List (Arr Int 32) × Int)) (hm : F54.m x2 x3 = some r) :
    Ctr Try.prog false 54 [s1.v, .int .i64 x3] [Asr.vw (Enc.arr 32 (Enc.int .u8)) (s1.v) x2] (fun v L' => ∃ (g4 : SlV), v = .tuple #[g4.v, .int .i64 r.2] ∧ L' = [Asr.of 41 (Enc.arr 32 (Enc.int .u8)) (g4.v) r.1]) := by
  refine Ctr.intro (n := 49) (env := [(0, s1.v), (1, .int .i64 x3)]) Try.func54 rfl rfl rfl rfl (fun c => ?_)
  unfold F54.m at hm
  refine JC.seq ?_
  refine JC.region ?_
  refine JL.ent (fun _ hs => hs.nil 41 (Enc.arr 32 (Enc.int .u8))) ?_
  refine JL.val (v := SlV.nil.v) (QV.assign rfl) rfl rfl rfl ?_
  refine JL.val (v := .int .i64 (0 : Int)) (QV.assign rfl) rfl rfl rfl ?_
  refine JL.nil ?_
  refine QJ.then_normal ?_
  refine JC.seq ?_
  refine JC.seq ?_
  refine JC.region ?_
  refine JL.val (v := .int .i64 x3) (QV.move rfl) rfl rfl rfl ?_
  refine JL.val (v := .bool (decide (x3 < (0 : Int)))) (QV.lss rfl rfl) rfl rfl rfl ?_
  rcases ite_inv hm with ⟨h7, hm⟩ | ⟨h7, hm⟩
  ·
    refine JL.val (v := .bool true) (QV.eq (QV.move rfl) (congrArg Value.bool (decide_eq_true h7))) rfl rfl rfl ?_
    refine JL.skip (d := some 11) rfl rfl rfl ?_
    refine JL.skip (d := some 12) rfl rfl rfl ?_
    refine JL.skip (d := some 13) rfl rfl rfl ?_
    refine JL.skip (d := some 14) rfl rfl rfl ?_
    refine JL.val (v := .bool true) (QV.pickT rfl rfl) rfl rfl rfl ?_
    refine JL.nil ?_
    refine QJ.then_normal ?_
    refine JC.condT rfl ?_
    refine JC.seq ?_
    refine JC.region ?_
    refine JL.ent (fun _ hs => hs.nil 41 (Enc.arr 32 (Enc.int .u8))) ?_
    refine JL.val (v := SlV.nil.v) (QV.assign rfl) rfl rfl rfl ?_
    refine JL.val (v := .int .i64 (5 : Int)) (QV.assign rfl) rfl rfl rfl ?_
    refine JL.nil ?_
    refine QJ.then_normal ?_
    refine JC.ret ?_
    refine QJ.then_ret ?_
    obtain rfl := Option.some.inj hm
    exact QJ.body (vs := [SlV.nil.v, .int .i64 (5 : Int)]) (.inl rfl) rfl (ResVs.cons (ResV.tmp rfl) (ResVs.cons (ResV.tmp rfl) ResVs.nil)) [0] rfl rfl (.inr ⟨own_of _ _ _ _, trivial⟩) ⟨(SlV.nil), rfl, rfl⟩
  ·
    refine JL.val (v := .bool false) (QV.eq (QV.move rfl) (congrArg Value.bool (decide_eq_false h7))) rfl rfl rfl ?_
    refine JL.val (v := .int .i64 x3) (QV.move rfl) rfl rfl rfl ?_
    refine JL.val (v := s1.v) (QV.move rfl) rfl rfl rfl ?_
    refine JL.val (v := .int .i64 ((x2).length : Int)) (QV.len (Rdg.vw 1 rfl) Try.underlying57 rfl) rfl rfl rfl ?_
    refine JL.val (v := .bool (decide (((x2).length : Int) ≤ x3))) (QV.geq rfl rfl) rfl rfl rfl ?_
    refine JL.val (v := .bool (decide (((x2).length : Int) ≤ x3))) (QV.pickF rfl rfl) rfl rfl rfl ?_
    refine JL.nil ?_
    refine QJ.then_normal ?_
    rcases ite_inv hm with ⟨h8, hm⟩ | ⟨h8, hm⟩
    ·
      refine JC.condT' rfl (decide_eq_true h8) ?_
      refine JC.seq ?_
      refine JC.region ?_
      refine JL.ent (fun _ hs => hs.nil 41 (Enc.arr 32 (Enc.int .u8))) ?_
      refine JL.val (v := SlV.nil.v) (QV.assign rfl) rfl rfl rfl ?_
      refine JL.val (v := .int .i64 (5 : Int)) (QV.assign rfl) rfl rfl rfl ?_
      refine JL.nil ?_
      refine QJ.then_normal ?_
      refine JC.ret ?_
      refine QJ.then_ret ?_
      obtain rfl := Option.some.inj hm
      exact QJ.body (vs := [SlV.nil.v, .int .i64 (5 : Int)]) (.inl rfl) rfl (ResVs.cons (ResV.tmp rfl) (ResVs.cons (ResV.tmp rfl) ResVs.nil)) [0] rfl rfl (.inr ⟨own_of _ _ _ _, trivial⟩) ⟨(SlV.nil), rfl, rfl⟩
    ·
      refine JC.condF' rfl (decide_eq_false h8) ?_
      refine JC.skip ?_
      refine QJ.then_normal ?_
      refine JC.seq ?_
      refine JC.region ?_
      refine JL.ent (fun _ hs => hs.nil 41 (Enc.arr 32 (Enc.int .u8))) ?_
      refine JL.val (v := SlV.nil.v) (QV.assign rfl) rfl rfl rfl ?_
      refine JL.nil ?_
      refine QJ.then_normal ?_
      refine JC.seq ?_
      refine JC.cutK (Y := (List (Arr Int 32)) × SlV) (fun y => match y with | (d10, _) => F54.j1 (d10) = some r) (fun y => match y with | (d10, z9) => [(6, z9.v)]) (fun y => match y with | (d10, z9) => [Asr.of 41 (Enc.arr 32 (Enc.int .u8)) (z9.v) d10]) ?_ ?_
      ·
        rintro ⟨d10, z9⟩ hm
        unfold F54.j1 at hm
        show QJ _ _ [(6, z9.v)] [Asr.of 41 (Enc.arr 32 (Enc.int .u8)) (z9.v) d10] _ _
        refine QJ.then_normal ?_
        refine JC.seq ?_
        refine JC.region ?_
        refine JL.val (v := z9.v) (QV.move rfl) rfl rfl rfl ?_
        refine JL.val (v := z9.v) (QV.assign rfl) rfl rfl rfl ?_
        refine JL.val (v := .int .i64 (0 : Int)) (QV.assign rfl) rfl rfl rfl ?_
        refine JL.nil ?_
        refine QJ.then_normal ?_
        refine JC.ret ?_
        obtain rfl := Option.some.inj hm
        exact QJ.body (vs := [z9.v, .int .i64 (0 : Int)]) (.inl rfl) rfl (ResVs.cons (ResV.tmp rfl) (ResVs.cons (ResV.tmp rfl) ResVs.nil)) [0] rfl rfl (.inr ⟨own_of _ _ _ _, trivial⟩) ⟨z9, rfl, rfl⟩
      ·
        refine JC.block ?_
        obtain ⟨y21, hl22, hmo23⟩ := bind_inv hm
        refine JC.loop (F54.b1) (fun x z => match x, z with | (d12, d13, d15), (z11, z14) => [(0, z11.v), (1, .int .i64 d13), (6, z14.v)]) (fun x z => match x, z with | (d12, d13, d15), (z11, z14) => [Asr.vw (Enc.arr 32 (Enc.int .u8)) (z11.v) d12, Asr.of 41 (Enc.arr 32 (Enc.int .u8)) (z14.v) d15]) (x2, x3, ([] : List (Arr Int 32))) (s1, SlV.nil) y21 hl22 [2, 0] (by exact ⟨rfl, rfl, rfl, trivial⟩) rfl rfl ?_
        rintro ⟨d12, d13, d15⟩ ⟨z11, z14⟩ s24 hm
        unfold F54.b1 at hm
        dsimp only at hm
        show JC _ _ _ [(0, z11.v), (1, .int .i64 d13), (6, z14.v)] [Asr.vw (Enc.arr 32 (Enc.int .u8)) (z11.v) d12, Asr.of 41 (Enc.arr 32 (Enc.int .u8)) (z14.v) d15] _ _
        refine JC.seq ?_
        refine JC.seq ?_
        refine JC.region ?_
        refine JL.val (v := z11.v) (QV.move rfl) rfl rfl rfl ?_
        refine JL.val (v := .int .i64 ((d12).length : Int)) (QV.len (Rdg.vw 0 rfl) Try.underlying57 rfl) rfl rfl rfl ?_
        refine JL.val (v := .bool (decide ((1 : Int) < ((d12).length : Int)))) (QV.gtr rfl rfl) rfl rfl rfl ?_
        refine JL.nil ?_
        refine QJ.then_normal ?_
        rcases ite_inv hm with ⟨h25, hm⟩ | ⟨h25, hm⟩
        ·
          refine JC.condT' rfl (decide_eq_true h25) ?_
          refine JC.skip ?_
          refine QJ.then_normal ?_
          refine JC.block ?_
          refine JC.seq ?_
          refine JC.region ?_
          refine JL.val (v := z11.v) (QV.move rfl) rfl rfl rfl ?_
          refine JL.val (v := .int .i64 ((d12).length : Int)) (QV.len (Rdg.vw 0 rfl) Try.underlying57 rfl) rfl rfl rfl ?_
          obtain ⟨y26, hc27, hm⟩ := bind_inv hm
          refine JL.mv (d := some 21) (MV.call (Lo := []) (Lr := [Asr.vw (Enc.arr 32 (Enc.int .u8)) (z11.v) d12, Asr.of 41 (Enc.arr 32 (Enc.int .u8)) (z14.v) d15]) (F76.spec (((d12).length : Int)) _ hc27) rfl Try.func76 rfl rfl rfl [] [0, 1] rfl rfl rfl trivial) rfl rfl rfl ?_
          rintro _ _ ⟨_, ⟨rfl, rfl⟩, rfl⟩
          refine JL.val (v := .int .i64 y26) (QV.assign rfl) rfl rfl rfl ?_
          refine JL.nil ?_
          refine QJ.then_normal ?_
          refine JC.seq ?_
          refine JC.region ?_
          refine JL.val (v := .int .i64 d13) (QV.move rfl) rfl rfl rfl ?_
          refine JL.val (v := .int .i64 y26) (QV.move rfl) rfl rfl rfl ?_
          refine JL.val (v := .bool (decide (d13 < y26))) (QV.lss rfl rfl) rfl rfl rfl ?_
          refine JL.nil ?_
          refine QJ.then_normal ?_
          refine JC.cutK (Y := (List (Arr Int 32) × Int × List (Arr Int 32)) × (SlV × SlV)) (fun y => match y with | ((d29, d30, d32), _) => F54.j2 (d29) (d30) (d32) = some s24) (fun y => match y with | ((d29, d30, d32), (z28, z31)) => [(0, z28.v), (1, .int .i64 d30), (6, z31.v)]) (fun y => match y with | ((d29, d30, d32), (z28, z31)) => [Asr.vw (Enc.arr 32 (Enc.int .u8)) (z28.v) d29, Asr.of 41 (Enc.arr 32 (Enc.int .u8)) (z31.v) d32]) ?_ ?_
          ·
            rintro ⟨⟨d29, d30, d32⟩, ⟨z28, z31⟩⟩ hm
            unfold F54.j2 at hm
            show QJ _ _ [(0, z28.v), (1, .int .i64 d30), (6, z31.v)] [Asr.vw (Enc.arr 32 (Enc.int .u8)) (z28.v) d29, Asr.of 41 (Enc.arr 32 (Enc.int .u8)) (z31.v) d32] _ _
            refine QJ.block_normal ?_
            obtain rfl := Option.some.inj hm
            exact QJ.round_on (d29, d30, d32) (z28, z31) [0, 1] (by exact ⟨rfl, rfl, rfl, trivial⟩) rfl rfl
          ·
            rcases ite_inv hm with ⟨h33, hm⟩ | ⟨h33, hm⟩
            ·
              refine JC.condT' rfl (decide_eq_true h33) ?_
              refine JC.seq ?_
              refine JC.region ?_
              refine JL.val (v := z11.v) (QV.move rfl) rfl rfl rfl ?_
              refine JL.val (v := .int .i64 y26) (QV.move rfl) rfl rfl rfl ?_
              obtain ⟨h34, hm⟩ := guard_inv hm
              refine JL.val (v := (SlV.sub ((Enc.arr 32 (Enc.int .u8))).sz z11 y26 ((d12).length : Int)).v) (QV.sliceV (Rdg.vw 0 rfl) Try.underlying57 tk_41 rfl rfl rfl h34) rfl rfl rfl ?_
              obtain ⟨y35, hc36, hm⟩ := bind_inv hm
              refine JL.mv (d := some 28) (MV.call (Lo := []) (Lr := [Asr.vw (Enc.arr 32 (Enc.int .u8)) (z11.v) d12, Asr.of 41 (Enc.arr 32 (Enc.int .u8)) (z14.v) d15]) (F44.spec ((SlV.sub ((Enc.arr 32 (Enc.int .u8))).sz z11 y26 ((d12).length : Int))) ((subL d12 y26 ((d12).length : Int))) _ hc36) rfl Try.func44 rfl rfl rfl [] [0, 1] rfl rfl rfl ⟨((Drv.vw 0 rfl).subV h34), trivial⟩) rfl rfl rfl ?_
              rintro _ _ ⟨_, ⟨rfl, rfl⟩, rfl⟩
              refine JL.mv (d := some 29) (MV.litA (E := (Enc.arr 32 (Enc.int .u8))) (vals := [(0, .agg (((Enc.arr 32 (Enc.int .u8))).enc y35).toArray)]) [y35] (fun x => .agg (Enc.enc (Enc.arr 32 (Enc.int .u8)) x).toArray) (fun _ => rfl) Try.underlying57 zi_41 rfl (by decide) rfl rfl) rfl rfl rfl ?_
              rintro _ _ ⟨z37, rfl, rfl⟩
              refine JL.val (v := z14.v) (QV.move rfl) rfl rfl rfl ?_
              obtain ⟨h38, hm⟩ := guard_inv hm
              refine JL.mv (d := some 31) (MV.append 0 rfl (Rdg.of 2 rfl) Try.underlying57 zi_41 rfl (by decide) rfl rfl h38) rfl rfl rfl ?_
              rintro _ _ ⟨z39, rfl, rfl⟩
              refine JL.val (v := z39.v) (QV.assign rfl) rfl rfl rfl ?_
              refine JL.nil ?_
              refine QJ.then_normal ?_
              refine JC.region ?_
              refine JL.val (v := z11.v) (QV.move rfl) rfl rfl rfl ?_
              refine JL.val (v := .int .i64 y26) (QV.move rfl) rfl rfl rfl ?_
              obtain ⟨h40, hm⟩ := guard_inv hm
              refine JL.val (v := (SlV.sub ((Enc.arr 32 (Enc.int .u8))).sz z11 (0 : Int) y26).v) (QV.sliceV (Rdg.vw 1 rfl) Try.underlying57 tk_41 rfl rfl rfl h40) rfl rfl rfl ?_
              refine JL.val (v := (SlV.sub ((Enc.arr 32 (Enc.int .u8))).sz z11 (0 : Int) y26).v) (QV.assign rfl) rfl rfl rfl ?_
              refine JL.nil ?_
              refine QJ.ent (fun _ hs => hs.derive ((Drv.vw 1 rfl).subV h40)) ?_
              exact QJ.cut_normal (((subL d12 (0 : Int) y26), d13, ([y35] ++ d15)), ((SlV.sub ((Enc.arr 32 (Enc.int .u8))).sz z11 (0 : Int) y26), z39)) hm [0, 1] (by exact ⟨rfl, rfl, rfl, trivial⟩) rfl rfl
            ·
              refine JC.condF' rfl (decide_eq_false h33) ?_
              refine JC.seq ?_
              refine JC.region ?_
              refine JL.val (v := z11.v) (QV.move rfl) rfl rfl rfl ?_
              refine JL.val (v := .int .i64 y26) (QV.move rfl) rfl rfl rfl ?_
              obtain ⟨h41, hm⟩ := guard_inv hm
              refine JL.val (v := (SlV.sub ((Enc.arr 32 (Enc.int .u8))).sz z11 (0 : Int) y26).v) (QV.sliceV (Rdg.vw 0 rfl) Try.underlying57 tk_41 rfl rfl rfl h41) rfl rfl rfl ?_
              obtain ⟨y42, hc43, hm⟩ := bind_inv hm
              refine JL.mv (d := some 38) (MV.call (Lo := []) (Lr := [Asr.vw (Enc.arr 32 (Enc.int .u8)) (z11.v) d12, Asr.of 41 (Enc.arr 32 (Enc.int .u8)) (z14.v) d15]) (F44.spec ((SlV.sub ((Enc.arr 32 (Enc.int .u8))).sz z11 (0 : Int) y26)) ((subL d12 (0 : Int) y26)) _ hc43) rfl Try.func44 rfl rfl rfl [] [0, 1] rfl rfl rfl ⟨((Drv.vw 0 rfl).subV h41), trivial⟩) rfl rfl rfl ?_
              rintro _ _ ⟨_, ⟨rfl, rfl⟩, rfl⟩
              refine JL.mv (d := some 39) (MV.litA (E := (Enc.arr 32 (Enc.int .u8))) (vals := [(0, .agg (((Enc.arr 32 (Enc.int .u8))).enc y42).toArray)]) [y42] (fun x => .agg (Enc.enc (Enc.arr 32 (Enc.int .u8)) x).toArray) (fun _ => rfl) Try.underlying57 zi_41 rfl (by decide) rfl rfl) rfl rfl rfl ?_
              rintro _ _ ⟨z44, rfl, rfl⟩
              refine JL.val (v := z14.v) (QV.move rfl) rfl rfl rfl ?_
              obtain ⟨h45, hm⟩ := guard_inv hm
              refine JL.mv (d := some 41) (MV.append 0 rfl (Rdg.of 2 rfl) Try.underlying57 zi_41 rfl (by decide) rfl rfl h45) rfl rfl rfl ?_
              rintro _ _ ⟨z46, rfl, rfl⟩
              refine JL.val (v := z46.v) (QV.assign rfl) rfl rfl rfl ?_
              refine JL.nil ?_
              refine QJ.then_normal ?_
              refine JC.region ?_
              refine JL.val (v := z11.v) (QV.move rfl) rfl rfl rfl ?_
              refine JL.val (v := .int .i64 y26) (QV.move rfl) rfl rfl rfl ?_
              obtain ⟨h47, hm⟩ := guard_inv hm
              refine JL.val (v := (SlV.sub ((Enc.arr 32 (Enc.int .u8))).sz z11 y26 ((d12).length : Int)).v) (QV.sliceV (Rdg.vw 1 rfl) Try.underlying57 tk_41 rfl rfl rfl h47) rfl rfl rfl ?_
              refine JL.val (v := .int .i64 d13) (QV.move rfl) rfl rfl rfl ?_
              refine JL.val (v := .int .i64 y26) (QV.move rfl) rfl rfl rfl ?_
              refine JL.val (v := .int .i64 (IntKind.wrap .i64 (d13 - y26))) (QV.sub rfl rfl) rfl rfl rfl ?_
              refine JL.val (v := (SlV.sub ((Enc.arr 32 (Enc.int .u8))).sz z11 y26 ((d12).length : Int)).v) (QV.assign rfl) rfl rfl rfl ?_
              refine JL.val (v := .int .i64 (IntKind.wrap .i64 (d13 - y26))) (QV.assign rfl) rfl rfl rfl ?_
              refine JL.nil ?_
              refine QJ.ent (fun _ hs => hs.derive ((Drv.vw 1 rfl).subV h47)) ?_
              exact QJ.cut_normal (((subL d12 y26 ((d12).length : Int)), (IntKind.wrap .i64 (d13 - y26)), ([y42] ++ d15)), ((SlV.sub ((Enc.arr 32 (Enc.int .u8))).sz z11 y26 ((d12).length : Int)), z46)) hm [0, 1] (by exact ⟨rfl, rfl, rfl, trivial⟩) rfl rfl
        ·
          refine JC.condF' rfl (decide_eq_false h25) ?_
          refine JC.exit ?_
          refine QJ.then_exit ?_
          obtain rfl := Option.some.inj hm
          refine QJ.round_exit (fun hy => ?_)
          subst hy
          refine QJ.block_hit ?_
          exact QJ.cut_normal (d15, z14) hmo23 [1] (by exact ⟨rfl, trivial⟩) rfl rfl

/-! ### 56: drogher/drogherref21.Way -/
noncomputable def F56.g (recM : (List (Arr Int 32)) → (Int) → Option (List (Arr Int 32))) (x2 : List (Arr Int 32)) (x3 : Int) : Option (List (Arr Int 32)) :=
  (if ((x2).length : Int) = (1 : Int) then some ([] : List (Arr Int 32)) else ((F77.m (((x2).length : Int))).bind fun y11 => (if x3 < y11 then (if 0 ≤ (0 : Int) ∧ (0 : Int) ≤ y11 ∧ y11 ≤ ((x2).length : Int) then (if 0 ≤ y11 ∧ y11 ≤ ((x2).length : Int) ∧ ((x2).length : Int) ≤ ((x2).length : Int) then ((recM ((subL x2 (0 : Int) y11)) (x3)).bind fun y16 => ((F46.m ((subL x2 y11 ((x2).length : Int)))).bind fun y19 => (if ((y16).length + ([y19]).length) * 32 ≤ 140737488355328 ∧ (y16).length + ([y19]).length ≤ 9223372036854775807 then some (y16 ++ [y19]) else none))) else none) else none) else (if 0 ≤ y11 ∧ y11 ≤ ((x2).length : Int) ∧ ((x2).length : Int) ≤ ((x2).length : Int) then (if 0 ≤ (0 : Int) ∧ (0 : Int) ≤ y11 ∧ y11 ≤ ((x2).length : Int) then ((recM ((subL x2 y11 ((x2).length : Int))) ((IntKind.wrap .i64 (x3 - y11)))).bind fun y26 => ((F46.m ((subL x2 (0 : Int) y11))).bind fun y29 => (if ((y26).length + ([y29]).length) * 32 ≤ 140737488355328 ∧ (y26).length + ([y29]).length ≤ 9223372036854775807 then some (y26 ++ [y29]) else none))) else none) else none))))
noncomputable def F56.mF : Nat → (List (Arr Int 32)) → (Int) → Option (List (Arr Int 32))
  | 0 => fun _ _ => none
  | n + 1 => fun x2 x3 => F56.g (F56.mF n) x2 x3
noncomputable def F56.m (x2 : List (Arr Int 32)) (x3 : Int) : Option (List (Arr Int 32)) := evt (fun n => F56.mF n x2 x3)
set_option maxRecDepth 100000 in
set_option maxHeartbeats 4000000 in
theorem F56.specG (recM : (List (Arr Int 32)) → (Int) → Option (List (Arr Int 32))) (ih : ∀ (s1 : SlV) (x2 : List (Arr Int 32)) (x3 : Int) (r : (List (Arr Int 32))) (_hm : recM x2 x3 = some r), Ctr Try.prog false 56 [s1.v, .int .i64 x3] [Asr.vw (Enc.arr 32 (Enc.int .u8)) (s1.v) x2] (fun v L' => ∃ (g7 : SlV), v = g7.v ∧ L' = [Asr.of 39 (Enc.arr 32 (Enc.int .u8)) (g7.v) r])) (s1 : SlV) (x2 : List (Arr Int 32)) (x3 : Int) (r : (List (Arr Int 32))) (hm : F56.g recM x2 x3 = some r) :
    Ctr Try.prog false 56 [s1.v, .int .i64 x3] [Asr.vw (Enc.arr 32 (Enc.int .u8)) (s1.v) x2] (fun v L' => ∃ (g7 : SlV), v = g7.v ∧ L' = [Asr.of 39 (Enc.arr 32 (Enc.int .u8)) (g7.v) r]) := by
  refine Ctr.intro (n := 40) (env := [(0, s1.v), (1, .int .i64 x3)]) Try.func56 rfl rfl rfl rfl (fun c => ?_)
  unfold F56.g at hm
  refine JC.seq ?_
  refine JC.region ?_
  refine JL.ent (fun _ hs => hs.nil 39 (Enc.arr 32 (Enc.int .u8))) ?_
  refine JL.val (v := SlV.nil.v) (QV.assign rfl) rfl rfl rfl ?_
  refine JL.nil ?_
  refine QJ.then_normal ?_
  refine JC.seq ?_
  refine JC.seq ?_
  refine JC.region ?_
  refine JL.val (v := s1.v) (QV.move rfl) rfl rfl rfl ?_
  refine JL.val (v := .int .i64 ((x2).length : Int)) (QV.len (Rdg.vw 1 rfl) Try.underlying55 rfl) rfl rfl rfl ?_
  refine JL.val (v := .bool (decide (((x2).length : Int) = (1 : Int)))) (QV.eql rfl rfl) rfl rfl rfl ?_
  refine JL.nil ?_
  refine QJ.then_normal ?_
  rcases ite_inv hm with ⟨h9, hm⟩ | ⟨h9, hm⟩
  ·
    refine JC.condT' rfl (decide_eq_true h9) ?_
    refine JC.seq ?_
    refine JC.region ?_
    refine JL.mv (d := some 9) (MV.lit0 (Enc.arr 32 (Enc.int .u8)) Try.underlying55 (by kernel_rfl)) rfl rfl rfl ?_
    rintro _ _ ⟨z10, rfl, rfl⟩
    refine JL.val (v := z10.v) (QV.assign rfl) rfl rfl rfl ?_
    refine JL.nil ?_
    refine QJ.then_normal ?_
    refine JC.ret ?_
    refine QJ.then_ret ?_
    obtain rfl := Option.some.inj hm
    exact QJ.body (vs := [z10.v]) (.inl rfl) rfl (ResVs.cons (ResV.tmp rfl) ResVs.nil) [0] rfl rfl (.inr ⟨own_of _ _ _ _, trivial⟩) ⟨z10, rfl, rfl⟩
  ·
    refine JC.condF' rfl (decide_eq_false h9) ?_
    refine JC.skip ?_
    refine QJ.then_normal ?_
    refine JC.seq ?_
    refine JC.region ?_
    refine JL.val (v := s1.v) (QV.move rfl) rfl rfl rfl ?_
    refine JL.val (v := .int .i64 ((x2).length : Int)) (QV.len (Rdg.vw 1 rfl) Try.underlying55 rfl) rfl rfl rfl ?_
    obtain ⟨y11, hc12, hm⟩ := bind_inv hm
    refine JL.mv (d := some 12) (MV.call (Lo := []) (Lr := [Asr.of 39 (Enc.arr 32 (Enc.int .u8)) (SlV.nil.v) ([] : List (Arr Int 32)), Asr.vw (Enc.arr 32 (Enc.int .u8)) (s1.v) x2]) (F77.spec (((x2).length : Int)) _ hc12) rfl Try.func77 rfl rfl rfl [] [0, 1] rfl rfl rfl trivial) rfl rfl rfl ?_
    rintro _ _ ⟨_, ⟨rfl, rfl⟩, rfl⟩
    refine JL.val (v := .int .i64 y11) (QV.assign rfl) rfl rfl rfl ?_
    refine JL.nil ?_
    refine QJ.then_normal ?_
    refine JC.seq ?_
    refine JC.seq ?_
    refine JC.region ?_
    refine JL.val (v := .int .i64 x3) (QV.move rfl) rfl rfl rfl ?_
    refine JL.val (v := .int .i64 y11) (QV.move rfl) rfl rfl rfl ?_
    refine JL.val (v := .bool (decide (x3 < y11))) (QV.lss rfl rfl) rfl rfl rfl ?_
    refine JL.nil ?_
    refine QJ.then_normal ?_
    rcases ite_inv hm with ⟨h13, hm⟩ | ⟨h13, hm⟩
    ·
      refine JC.condT' rfl (decide_eq_true h13) ?_
      refine JC.seq ?_
      refine JC.regionT [Asr.of 39 (Enc.arr 32 (Enc.int .u8)) (SlV.nil.v) ([] : List (Arr Int 32)), Asr.vw (Enc.arr 32 (Enc.int .u8)) (s1.v) x2] (fun t => false) [(0, true), (1, true), (2, true), (3, true), (5, true), (6, true), (7, true), (4, false), (8, false), (9, false), (10, false), (11, false)] (by kernel_rfl) (by kernel_rfl) (by kernel_rfl) rfl (fun hsel => ?_)
      refine JT.take (i := 0) (v := s1.v) hsel rfl (QV.move rfl) rfl rfl rfl [0, 1] rfl rfl ?_
      refine JT.take (i := 1) (v := .int .i64 y11) hsel rfl (QV.move rfl) rfl rfl rfl [0, 1] rfl rfl ?_
      obtain ⟨h14, hm⟩ := guard_inv hm
      refine JT.take (i := 2) (v := (SlV.sub ((Enc.arr 32 (Enc.int .u8))).sz s1 (0 : Int) y11).v) hsel rfl (QV.sliceV (Rdg.vw 1 rfl) Try.underlying55 tk_39 rfl rfl rfl h14) rfl rfl rfl [0, 1] rfl rfl ?_
      refine JT.take (i := 3) (v := .int .i64 x3) hsel rfl (QV.move rfl) rfl rfl rfl [0, 1] rfl rfl ?_
      refine JT.take (i := 5) (v := s1.v) hsel rfl (QV.move rfl) rfl rfl rfl [0, 1] rfl rfl ?_
      refine JT.take (i := 6) (v := .int .i64 y11) hsel rfl (QV.move rfl) rfl rfl rfl [0, 1] rfl rfl ?_
      obtain ⟨h15, hm⟩ := guard_inv hm
      refine JT.take (i := 7) (v := (SlV.sub ((Enc.arr 32 (Enc.int .u8))).sz s1 y11 ((x2).length : Int)).v) hsel rfl (QV.sliceV (Rdg.vw 1 rfl) Try.underlying55 tk_39 rfl rfl rfl h15) rfl rfl rfl [0, 1] rfl rfl ?_
      obtain ⟨y16, hc17, hm⟩ := bind_inv hm
      refine JT.only (i := 4) (d := some 20) rfl (MV.call (Lo := []) (Lr := [Asr.of 39 (Enc.arr 32 (Enc.int .u8)) (SlV.nil.v) ([] : List (Arr Int 32)), Asr.vw (Enc.arr 32 (Enc.int .u8)) (s1.v) x2]) (ih ((SlV.sub ((Enc.arr 32 (Enc.int .u8))).sz s1 (0 : Int) y11)) ((subL x2 (0 : Int) y11)) (x3) _ hc17) rfl Try.func56 rfl rfl rfl [] [0, 1] rfl rfl rfl ⟨((Drv.vw 1 rfl).subV h14), trivial⟩) rfl rfl rfl ?_
      rintro _ _ ⟨_, ⟨z18, rfl, rfl⟩, rfl⟩
      refine ⟨fun _ => ⟨[1, 2], rfl, rfl⟩, ?_⟩
      obtain ⟨y19, hc20, hm⟩ := bind_inv hm
      refine JT.only (i := 8) (d := some 24) rfl (MV.call (Lo := []) (Lr := [Asr.of 39 (Enc.arr 32 (Enc.int .u8)) (z18.v) y16, Asr.of 39 (Enc.arr 32 (Enc.int .u8)) (SlV.nil.v) ([] : List (Arr Int 32)), Asr.vw (Enc.arr 32 (Enc.int .u8)) (s1.v) x2]) (F46.spec ((SlV.sub ((Enc.arr 32 (Enc.int .u8))).sz s1 y11 ((x2).length : Int))) ((subL x2 y11 ((x2).length : Int))) _ hc20) rfl Try.func46 rfl rfl rfl [] [0, 1, 2] rfl rfl rfl ⟨((Drv.vw 2 rfl).subV h15), trivial⟩) rfl rfl rfl ?_
      rintro _ _ ⟨_, ⟨rfl, rfl⟩, rfl⟩
      refine ⟨fun _ => ⟨[1, 2], rfl, rfl⟩, ?_⟩
      refine JT.only (i := 9) (d := some 25) rfl (MV.litA (E := (Enc.arr 32 (Enc.int .u8))) (vals := [(0, .agg (((Enc.arr 32 (Enc.int .u8))).enc y19).toArray)]) [y19] (fun x => .agg (Enc.enc (Enc.arr 32 (Enc.int .u8)) x).toArray) (fun _ => rfl) Try.underlying55 zi_39 rfl (by decide) rfl rfl) rfl rfl rfl ?_
      rintro _ _ ⟨z21, rfl, rfl⟩
      refine ⟨fun _ => ⟨[2, 3], rfl, rfl⟩, ?_⟩
      refine JT.grow [Asr.of 39 (Enc.arr 32 (Enc.int .u8)) (z21.v) [y19], Asr.of 39 (Enc.arr 32 (Enc.int .u8)) (SlV.nil.v) ([] : List (Arr Int 32)), Asr.vw (Enc.arr 32 (Enc.int .u8)) (s1.v) x2] [1, 2] rfl rfl ?_
      obtain ⟨h22, hm⟩ := guard_inv hm
      refine JT.only (i := 10) (d := some 26) rfl (MV.append 1 rfl (Rdg.of 0 rfl) Try.underlying55 zi_39 rfl (by decide) rfl rfl h22) rfl rfl rfl ?_
      rintro _ _ ⟨z23, rfl, rfl⟩
      refine ⟨fun _ => ⟨[0, 2, 3], rfl, rfl⟩, ?_⟩
      refine JT.grow [Asr.of 39 (Enc.arr 32 (Enc.int .u8)) (z21.v) [y19], Asr.of 39 (Enc.arr 32 (Enc.int .u8)) (z23.v) (y16 ++ [y19]), Asr.of 39 (Enc.arr 32 (Enc.int .u8)) (SlV.nil.v) ([] : List (Arr Int 32)), Asr.vw (Enc.arr 32 (Enc.int .u8)) (s1.v) x2] [0, 2, 3] rfl rfl ?_
      refine JT.only (i := 11) (d := some 4) rfl (MV.ofQV (v := z23.v) (QV.assign rfl)) rfl rfl rfl ?_
      rintro _ _ ⟨rfl, rfl⟩
      refine ⟨fun _ => ⟨[0, 1, 2, 3], rfl, rfl⟩, ?_⟩
      refine JT.nil ?_
      refine QJ.then_normal ?_
      refine JC.ret ?_
      refine QJ.then_ret ?_
      obtain rfl := Option.some.inj hm
      exact QJ.body (vs := [z23.v]) (.inl rfl) rfl (ResVs.cons (ResV.tmp rfl) ResVs.nil) [1] rfl rfl (.inr ⟨own_of _ _ _ _, trivial⟩) ⟨z23, rfl, rfl⟩
    ·
      refine JC.condF' rfl (decide_eq_false h13) ?_
      refine JC.skip ?_
      refine QJ.then_normal ?_
      refine JC.seq ?_
      refine JC.regionT [Asr.of 39 (Enc.arr 32 (Enc.int .u8)) (SlV.nil.v) ([] : List (Arr Int 32)), Asr.vw (Enc.arr 32 (Enc.int .u8)) (s1.v) x2] (fun t => false) [(0, true), (1, true), (2, true), (3, true), (4, true), (5, true), (7, true), (8, true), (9, true), (6, false), (10, false), (11, false), (12, false), (13, false)] (by kernel_rfl) (by kernel_rfl) (by kernel_rfl) rfl (fun hsel => ?_)
      refine JT.take (i := 0) (v := s1.v) hsel rfl (QV.move rfl) rfl rfl rfl [0, 1] rfl rfl ?_
      refine JT.take (i := 1) (v := .int .i64 y11) hsel rfl (QV.move rfl) rfl rfl rfl [0, 1] rfl rfl ?_
      obtain ⟨h24, hm⟩ := guard_inv hm
      refine JT.take (i := 2) (v := (SlV.sub ((Enc.arr 32 (Enc.int .u8))).sz s1 y11 ((x2).length : Int)).v) hsel rfl (QV.sliceV (Rdg.vw 1 rfl) Try.underlying55 tk_39 rfl rfl rfl h24) rfl rfl rfl [0, 1] rfl rfl ?_
      refine JT.take (i := 3) (v := .int .i64 x3) hsel rfl (QV.move rfl) rfl rfl rfl [0, 1] rfl rfl ?_
      refine JT.take (i := 4) (v := .int .i64 y11) hsel rfl (QV.move rfl) rfl rfl rfl [0, 1] rfl rfl ?_
      refine JT.take (i := 5) (v := .int .i64 (IntKind.wrap .i64 (x3 - y11))) hsel rfl (QV.sub rfl rfl) rfl rfl rfl [0, 1] rfl rfl ?_
      refine JT.take (i := 7) (v := s1.v) hsel rfl (QV.move rfl) rfl rfl rfl [0, 1] rfl rfl ?_
      refine JT.take (i := 8) (v := .int .i64 y11) hsel rfl (QV.move rfl) rfl rfl rfl [0, 1] rfl rfl ?_
      obtain ⟨h25, hm⟩ := guard_inv hm
      refine JT.take (i := 9) (v := (SlV.sub ((Enc.arr 32 (Enc.int .u8))).sz s1 (0 : Int) y11).v) hsel rfl (QV.sliceV (Rdg.vw 1 rfl) Try.underlying55 tk_39 rfl rfl rfl h25) rfl rfl rfl [0, 1] rfl rfl ?_
      obtain ⟨y26, hc27, hm⟩ := bind_inv hm
      refine JT.only (i := 6) (d := some 33) rfl (MV.call (Lo := []) (Lr := [Asr.of 39 (Enc.arr 32 (Enc.int .u8)) (SlV.nil.v) ([] : List (Arr Int 32)), Asr.vw (Enc.arr 32 (Enc.int .u8)) (s1.v) x2]) (ih ((SlV.sub ((Enc.arr 32 (Enc.int .u8))).sz s1 y11 ((x2).length : Int))) ((subL x2 y11 ((x2).length : Int))) ((IntKind.wrap .i64 (x3 - y11))) _ hc27) rfl Try.func56 rfl rfl rfl [] [0, 1] rfl rfl rfl ⟨((Drv.vw 1 rfl).subV h24), trivial⟩) rfl rfl rfl ?_
      rintro _ _ ⟨_, ⟨z28, rfl, rfl⟩, rfl⟩
      refine ⟨fun _ => ⟨[1, 2], rfl, rfl⟩, ?_⟩
      obtain ⟨y29, hc30, hm⟩ := bind_inv hm
      refine JT.only (i := 10) (d := some 37) rfl (MV.call (Lo := []) (Lr := [Asr.of 39 (Enc.arr 32 (Enc.int .u8)) (z28.v) y26, Asr.of 39 (Enc.arr 32 (Enc.int .u8)) (SlV.nil.v) ([] : List (Arr Int 32)), Asr.vw (Enc.arr 32 (Enc.int .u8)) (s1.v) x2]) (F46.spec ((SlV.sub ((Enc.arr 32 (Enc.int .u8))).sz s1 (0 : Int) y11)) ((subL x2 (0 : Int) y11)) _ hc30) rfl Try.func46 rfl rfl rfl [] [0, 1, 2] rfl rfl rfl ⟨((Drv.vw 2 rfl).subV h25), trivial⟩) rfl rfl rfl ?_
      rintro _ _ ⟨_, ⟨rfl, rfl⟩, rfl⟩
      refine ⟨fun _ => ⟨[1, 2], rfl, rfl⟩, ?_⟩
      refine JT.only (i := 11) (d := some 38) rfl (MV.litA (E := (Enc.arr 32 (Enc.int .u8))) (vals := [(0, .agg (((Enc.arr 32 (Enc.int .u8))).enc y29).toArray)]) [y29] (fun x => .agg (Enc.enc (Enc.arr 32 (Enc.int .u8)) x).toArray) (fun _ => rfl) Try.underlying55 zi_39 rfl (by decide) rfl rfl) rfl rfl rfl ?_
      rintro _ _ ⟨z31, rfl, rfl⟩
      refine ⟨fun _ => ⟨[2, 3], rfl, rfl⟩, ?_⟩
      refine JT.grow [Asr.of 39 (Enc.arr 32 (Enc.int .u8)) (z31.v) [y29], Asr.of 39 (Enc.arr 32 (Enc.int .u8)) (SlV.nil.v) ([] : List (Arr Int 32)), Asr.vw (Enc.arr 32 (Enc.int .u8)) (s1.v) x2] [1, 2] rfl rfl ?_
      obtain ⟨h32, hm⟩ := guard_inv hm
      refine JT.only (i := 12) (d := some 39) rfl (MV.append 1 rfl (Rdg.of 0 rfl) Try.underlying55 zi_39 rfl (by decide) rfl rfl h32) rfl rfl rfl ?_
      rintro _ _ ⟨z33, rfl, rfl⟩
      refine ⟨fun _ => ⟨[0, 2, 3], rfl, rfl⟩, ?_⟩
      refine JT.grow [Asr.of 39 (Enc.arr 32 (Enc.int .u8)) (z31.v) [y29], Asr.of 39 (Enc.arr 32 (Enc.int .u8)) (z33.v) (y26 ++ [y29]), Asr.of 39 (Enc.arr 32 (Enc.int .u8)) (SlV.nil.v) ([] : List (Arr Int 32)), Asr.vw (Enc.arr 32 (Enc.int .u8)) (s1.v) x2] [0, 2, 3] rfl rfl ?_
      refine JT.only (i := 13) (d := some 4) rfl (MV.ofQV (v := z33.v) (QV.assign rfl)) rfl rfl rfl ?_
      rintro _ _ ⟨rfl, rfl⟩
      refine ⟨fun _ => ⟨[0, 1, 2, 3], rfl, rfl⟩, ?_⟩
      refine JT.nil ?_
      refine QJ.then_normal ?_
      refine JC.ret ?_
      obtain rfl := Option.some.inj hm
      exact QJ.body (vs := [z33.v]) (.inl rfl) rfl (ResVs.cons (ResV.tmp rfl) ResVs.nil) [1] rfl rfl (.inr ⟨own_of _ _ _ _, trivial⟩) ⟨z33, rfl, rfl⟩
theorem F56.specF : ∀ (n : Nat) (s1 : SlV) (x2 : List (Arr Int 32)) (x3 : Int) (r : (List (Arr Int 32))) (_hm : F56.mF n x2 x3 = some r), Ctr Try.prog false 56 [s1.v, .int .i64 x3] [Asr.vw (Enc.arr 32 (Enc.int .u8)) (s1.v) x2] (fun v L' => ∃ (g7 : SlV), v = g7.v ∧ L' = [Asr.of 39 (Enc.arr 32 (Enc.int .u8)) (g7.v) r])
  | 0, s1, x2, x3, r, hm => by cases hm
  | n + 1, s1, x2, x3, r, hm => F56.specG (F56.mF n) (F56.specF n) s1 x2 x3 r hm
theorem F56.spec (s1 : SlV) (x2 : List (Arr Int 32)) (x3 : Int) (r : (List (Arr Int 32))) (hm : F56.m x2 x3 = some r) :
    Ctr Try.prog false 56 [s1.v, .int .i64 x3] [Asr.vw (Enc.arr 32 (Enc.int .u8)) (s1.v) x2] (fun v L' => ∃ (g7 : SlV), v = g7.v ∧ L' = [Asr.of 39 (Enc.arr 32 (Enc.int .u8)) (g7.v) r]) := by
  obtain ⟨n, hn⟩ := evt_some hm
  exact F56.specF n s1 x2 x3 r hn

/-! ### 55: drogher/drogherlaw21.same -/
noncomputable def F55.j1   : Option Bool :=
  some true
noncomputable def F55.b1 (x2 : List (Arr Int 32)) (x4 : List (Arr Int 32)) : Int → Option (Int ⊕ ((Bool) ⊕ Unit))
  | d7 => (if d7 < ((x2).length : Int) then (if 0 ≤ d7 ∧ d7 < ((x2).length : Int) then (if 0 ≤ d7 ∧ d7 < ((x4).length : Int) then (if (gd x2 d7) = (gd x4 d7) then some (.inl (IntKind.wrap .i64 (d7 + (1 : Int)))) else some (.inr (.inl (false)))) else none) else none) else some (.inr (.inr (()))))
noncomputable def F55.m (x2 : List (Arr Int 32)) (x4 : List (Arr Int 32)) : Option Bool :=
  (if ((x2).length : Int) = ((x4).length : Int) then ((loop (F55.b1 x2 x4) (0 : Int)).bind fun y => match y with | .inl r => some r | .inr _ => F55.j1) else some false)
set_option maxRecDepth 100000 in
set_option maxHeartbeats 4000000 in
theorem F55.spec (s1 : SlV) (s3 : SlV) (x2 : List (Arr Int 32)) (x4 : List (Arr Int 32)) (r : Bool) (hm : F55.m x2 x4 = some r) :
    Ctr Try.prog false 55 [s1.v, s3.v] [Asr.vw (Enc.arr 32 (Enc.int .u8)) (s1.v) x2, Asr.vw (Enc.arr 32 (Enc.int .u8)) (s3.v) x4] (fun v L' => v = .bool r ∧ L' = []) := by
  refine Ctr.intro (n := 26) (env := [(0, s1.v), (1, s3.v)]) Try.func55 rfl rfl rfl rfl (fun c => ?_)
  unfold F55.m at hm
  refine JC.seq ?_
  refine JC.region ?_
  refine JL.val (v := .bool false) (QV.assign rfl) rfl rfl rfl ?_
  refine JL.nil ?_
  refine QJ.then_normal ?_
  refine JC.seq ?_
  refine JC.seq ?_
  refine JC.region ?_
  refine JL.val (v := s1.v) (QV.move rfl) rfl rfl rfl ?_
  refine JL.val (v := .int .i64 ((x2).length : Int)) (QV.len (Rdg.vw 0 rfl) Try.underlying57 rfl) rfl rfl rfl ?_
  refine JL.val (v := s3.v) (QV.move rfl) rfl rfl rfl ?_
  refine JL.val (v := .int .i64 ((x4).length : Int)) (QV.len (Rdg.vw 1 rfl) Try.underlying55 rfl) rfl rfl rfl ?_
  refine JL.val (v := .bool (!(decide (((x2).length : Int) = ((x4).length : Int))))) (QV.neq rfl rfl) rfl rfl rfl ?_
  refine JL.nil ?_
  refine QJ.then_normal ?_
  rcases ite_inv hm with ⟨h6, hm⟩ | ⟨h6, hm⟩
  ·
    refine JC.condF' rfl (congrArg Bool.not (decide_eq_true h6)) ?_
    refine JC.skip ?_
    refine QJ.then_normal ?_
    refine JC.seq ?_
    refine JC.seq ?_
    refine JC.region ?_
    refine JL.val (v := .int .i64 (0 : Int)) (QV.assign rfl) rfl rfl rfl ?_
    refine JL.nil ?_
    refine QJ.then_normal ?_
    refine JC.cutK (Y := Unit × Unit) (fun y => match y with | (_, _) => F55.j1 = some r) (fun y => match y with | (_, _) => []) (fun y => match y with | (_, _) => []) ?_ ?_
    ·
      rintro ⟨⟨⟩, ⟨⟩⟩ hm
      unfold F55.j1 at hm
      show QJ _ _ [] [] _ _
      refine QJ.then_normal ?_
      refine JC.seq ?_
      refine JC.region ?_
      refine JL.val (v := .bool true) (QV.assign rfl) rfl rfl rfl ?_
      refine JL.nil ?_
      refine QJ.then_normal ?_
      refine JC.ret ?_
      obtain rfl := Option.some.inj hm
      exact QJ.body (vs := [.bool true]) (.inl rfl) rfl (ResVs.cons (ResV.tmp rfl) ResVs.nil) [] rfl rfl (.inr trivial) ⟨rfl, rfl⟩
    ·
      refine JC.block ?_
      obtain ⟨y9, hl10, hmo11⟩ := bind_inv hm
      refine JC.loop (F55.b1 x2 x4) (fun x z => match x, z with | d7, _ => [(0, s1.v), (1, s3.v), (5, .int .i64 d7)]) (fun x z => match x, z with | d7, _ => [Asr.vw (Enc.arr 32 (Enc.int .u8)) (s1.v) x2, Asr.vw (Enc.arr 32 (Enc.int .u8)) (s3.v) x4]) (0 : Int) () y9 hl10 [0, 1] (by exact ⟨rfl, rfl, rfl, trivial⟩) rfl rfl ?_
      rintro d7 ⟨⟩ s12 hm
      unfold F55.b1 at hm
      dsimp only at hm
      show JC _ _ _ [(0, s1.v), (1, s3.v), (5, .int .i64 d7)] [Asr.vw (Enc.arr 32 (Enc.int .u8)) (s1.v) x2, Asr.vw (Enc.arr 32 (Enc.int .u8)) (s3.v) x4] _ _
      refine JC.seq ?_
      refine JC.seq ?_
      refine JC.region ?_
      refine JL.val (v := .int .i64 d7) (QV.move rfl) rfl rfl rfl ?_
      refine JL.val (v := s1.v) (QV.move rfl) rfl rfl rfl ?_
      refine JL.val (v := .int .i64 ((x2).length : Int)) (QV.len (Rdg.vw 0 rfl) Try.underlying57 rfl) rfl rfl rfl ?_
      refine JL.val (v := .bool (decide (d7 < ((x2).length : Int)))) (QV.lss rfl rfl) rfl rfl rfl ?_
      refine JL.nil ?_
      refine QJ.then_normal ?_
      rcases ite_inv hm with ⟨h13, hm⟩ | ⟨h13, hm⟩
      ·
        refine JC.condT' rfl (decide_eq_true h13) ?_
        refine JC.skip ?_
        refine QJ.then_normal ?_
        refine JC.seq ?_
        refine JC.block ?_
        refine JC.seq ?_
        refine JC.regionT [Asr.vw (Enc.arr 32 (Enc.int .u8)) (s1.v) x2, Asr.vw (Enc.arr 32 (Enc.int .u8)) (s3.v) x4] (fun t => false) [(0, true), (1, true), (2, true), (3, true), (4, true), (5, false), (6, false), (7, false), (8, false)] (by kernel_rfl) (by kernel_rfl) (by kernel_rfl) rfl (fun hsel => ?_)
        refine JT.take (i := 0) (v := s1.v) hsel rfl (QV.move rfl) rfl rfl rfl [0, 1] rfl rfl ?_
        refine JT.take (i := 1) (v := .int .i64 d7) hsel rfl (QV.move rfl) rfl rfl rfl [0, 1] rfl rfl ?_
        obtain ⟨h14, hm⟩ := guard_inv hm
        refine JT.take (i := 2) (v := .pointer (some (elA (s1.v) (Int.toNat d7 * ((Enc.arr 32 (Enc.int .u8))).sz)))) hsel rfl (QV.indexA (Rdg.vw 0 rfl) Try.underlying57 tk_41 rfl rfl h14) rfl rfl rfl [0, 1] rfl rfl ?_
        refine JT.take (i := 3) (v := .agg (((Enc.arr 32 (Enc.int .u8))).enc (gd x2 d7)).toArray) hsel rfl (QV.eq (QV.elN (Rdg.vw 0 rfl) tk_41 rfl h14) rfl) rfl rfl rfl [0, 1] rfl rfl ?_
        refine JT.take (i := 4) (v := s3.v) hsel rfl (QV.move rfl) rfl rfl rfl [0, 1] rfl rfl ?_
        refine JT.only (i := 5) (d := some 22) rfl (MV.ofQV (v := .int .i64 d7) (QV.move rfl)) rfl rfl rfl ?_
        rintro _ _ ⟨rfl, rfl⟩
        refine ⟨fun _ => ⟨[0, 1], rfl, rfl⟩, ?_⟩
        obtain ⟨h15, hm⟩ := guard_inv hm
        refine JT.only (i := 6) (d := some 23) rfl (MV.ofQV (v := .pointer (some (elA (s3.v) (Int.toNat d7 * ((Enc.arr 32 (Enc.int .u8))).sz)))) (QV.indexA (Rdg.vw 1 rfl) Try.underlying55 tk_39 rfl rfl h15)) rfl rfl rfl ?_
        rintro _ _ ⟨rfl, rfl⟩
        refine ⟨fun _ => ⟨[0, 1], rfl, rfl⟩, ?_⟩
        refine JT.only (i := 7) (d := some 24) rfl (MV.ofQV (v := .agg (((Enc.arr 32 (Enc.int .u8))).enc (gd x4 d7)).toArray) (QV.eq (QV.elN (Rdg.vw 1 rfl) tk_39 rfl h15) rfl)) rfl rfl rfl ?_
        rintro _ _ ⟨rfl, rfl⟩
        refine ⟨fun _ => ⟨[0, 1], rfl, rfl⟩, ?_⟩
        refine JT.only (i := 8) (d := some 25) rfl (MV.ofQV (v := .bool (!(decide ((gd x2 d7) = (gd x4 d7))))) (QV.neqE (E := (Enc.arr 32 (Enc.int .u8))) (a := (gd x2 d7)) (b := (gd x4 d7)) zeq_41 (by kernel_rfl) rfl rfl)) rfl rfl rfl ?_
        rintro _ _ ⟨rfl, rfl⟩
        refine ⟨fun _ => ⟨[0, 1], rfl, rfl⟩, ?_⟩
        refine JT.nil ?_
        refine QJ.then_normal ?_
        rcases ite_inv hm with ⟨h16, hm⟩ | ⟨h16, hm⟩
        ·
          refine JC.condF' rfl (congrArg Bool.not (decide_eq_true h16)) ?_
          refine JC.skip ?_
          refine QJ.block_normal ?_
          refine QJ.then_normal ?_
          refine JC.region ?_
          refine JL.val (v := .int .i64 d7) (QV.move rfl) rfl rfl rfl ?_
          refine JL.val (v := .int .i64 (IntKind.wrap .i64 (d7 + (1 : Int)))) (QV.add rfl rfl) rfl rfl rfl ?_
          refine JL.val (v := .int .i64 (IntKind.wrap .i64 (d7 + (1 : Int)))) (QV.assign rfl) rfl rfl rfl ?_
          refine JL.nil ?_
          obtain rfl := Option.some.inj hm
          exact QJ.round_on (IntKind.wrap .i64 (d7 + (1 : Int))) () [0, 1] (by exact ⟨rfl, rfl, rfl, trivial⟩) rfl rfl
        ·
          refine JC.condT' rfl (congrArg Bool.not (decide_eq_false h16)) ?_
          refine JC.seq ?_
          refine JC.region ?_
          refine JL.val (v := .bool false) (QV.assign rfl) rfl rfl rfl ?_
          refine JL.nil ?_
          refine QJ.then_normal ?_
          refine JC.ret ?_
          refine QJ.block_ret ?_
          refine QJ.then_ret ?_
          obtain rfl := Option.some.inj hm
          refine QJ.round_ret (fun hy => ?_)
          subst hy
          refine QJ.block_ret ?_
          refine QJ.cut_ret ?_
          refine QJ.then_ret ?_
          obtain rfl := Option.some.inj hmo11
          exact QJ.body (vs := [.bool false]) (.inl rfl) rfl (ResVs.cons (ResV.tmp rfl) ResVs.nil) [] rfl rfl (.inr trivial) ⟨rfl, rfl⟩
      ·
        refine JC.condF' rfl (decide_eq_false h13) ?_
        refine JC.exit ?_
        refine QJ.then_exit ?_
        obtain rfl := Option.some.inj hm
        refine QJ.round_exit (fun hy => ?_)
        subst hy
        refine QJ.block_hit ?_
        exact QJ.cut_normal ((), ()) hmo11 [] trivial rfl rfl
  ·
    refine JC.condT' rfl (congrArg Bool.not (decide_eq_false h6)) ?_
    refine JC.seq ?_
    refine JC.region ?_
    refine JL.val (v := .bool false) (QV.assign rfl) rfl rfl rfl ?_
    refine JL.nil ?_
    refine QJ.then_normal ?_
    refine JC.ret ?_
    refine QJ.then_ret ?_
    obtain rfl := Option.some.inj hm
    exact QJ.body (vs := [.bool false]) (.inl rfl) rfl (ResVs.cons (ResV.tmp rfl) ResVs.nil) [] rfl rfl (.inr trivial) ⟨rfl, rfl⟩

/-! ### 16: drogher/drogherlaw21.MerkleWays -/
noncomputable def F16.m (x2 : List (Arr Int 32)) (x3 : Int) : Option Bool :=
  (if (100 : Int) < ((x2).length : Int) then ((F41.m).bind fun y6 => some y6) else ((F45.m (x2)).bind fun y8 => ((F54.m (y8) (x3)).bind fun y11 => (if x3 < (0 : Int) then (if ((y11.1).length : Int) = (0 : Int) then (if y11.2 = (5 : Int) then ((F50.m (x3) (((x2).length : Int))).bind fun y17 => (if y17 = (-1 : Int) then ((F41.m).bind fun y20 => some y20) else some false)) else some false) else some false) else (if ((x2).length : Int) ≤ x3 then (if ((y11.1).length : Int) = (0 : Int) then (if y11.2 = (5 : Int) then ((F50.m (x3) (((x2).length : Int))).bind fun y25 => (if y25 = (-1 : Int) then ((F41.m).bind fun y28 => some y28) else some false)) else some false) else some false) else (if 0 ≤ x3 ∧ x3 < ((x2).length : Int) then ((F49.m ((gd x2 x3)) (x3) (((x2).length : Int)) (y11.1)).bind fun y31 => (if y11.2 = (0 : Int) then ((F56.m (x2) (x3)).bind fun y35 => ((F55.m (y11.1) (y35)).bind fun y38 => (if y38 = true then ((F50.m (x3) (((x2).length : Int))).bind fun y41 => (if y41 = ((y11.1).length : Int) then (if y31.2 = (0 : Int) then ((F45.m (x2)).bind fun y45 => ((F44.m (y45)).bind fun y48 => (if y31.1 = y48 then ((F41.m).bind fun y51 => some y51) else some false))) else some false) else some false)) else some false))) else some false)) else none))))))
set_option maxRecDepth 100000 in
set_option maxHeartbeats 4000000 in
theorem F16.spec (s1 : SlV) (x2 : List (Arr Int 32)) (x3 : Int) (r : Bool) (hm : F16.m x2 x3 = some r) :
    Ctr Try.prog false 16 [s1.v, .int .i64 x3] [Asr.vw (Enc.arr 32 (Enc.int .u8)) (s1.v) x2] (fun v L' => v = .bool r ∧ L' = []) := by
  refine Ctr.intro (n := 89) (env := [(0, s1.v), (1, .int .i64 x3)]) Try.func16 rfl rfl rfl rfl (fun c => ?_)
  unfold F16.m at hm
  refine JC.seq ?_
  refine JC.region ?_
  refine JL.val (v := .bool false) (QV.assign rfl) rfl rfl rfl ?_
  refine JL.nil ?_
  refine QJ.then_normal ?_
  refine JC.seq ?_
  refine JC.seq ?_
  refine JC.region ?_
  refine JL.val (v := s1.v) (QV.move rfl) rfl rfl rfl ?_
  refine JL.val (v := .int .i64 ((x2).length : Int)) (QV.len (Rdg.vw 0 rfl) Try.underlying55 rfl) rfl rfl rfl ?_
  refine JL.val (v := .bool (decide ((100 : Int) < ((x2).length : Int)))) (QV.gtr rfl rfl) rfl rfl rfl ?_
  refine JL.nil ?_
  refine QJ.then_normal ?_
  rcases ite_inv hm with ⟨h5, hm⟩ | ⟨h5, hm⟩
  ·
    refine JC.condT' rfl (decide_eq_true h5) ?_
    refine JC.seq ?_
    refine JC.region ?_
    obtain ⟨y6, hc7, hm⟩ := bind_inv hm
    refine JL.mv (d := some 12) (MV.call (Lo := []) (Lr := [Asr.vw (Enc.arr 32 (Enc.int .u8)) (s1.v) x2]) (F41.spec _ hc7) rfl Try.func41 rfl rfl rfl [] [0] rfl rfl rfl trivial) rfl rfl rfl ?_
    rintro _ _ ⟨_, ⟨rfl, rfl⟩, rfl⟩
    refine JL.val (v := .bool y6) (QV.assign rfl) rfl rfl rfl ?_
    refine JL.nil ?_
    refine QJ.then_normal ?_
    refine JC.ret ?_
    refine QJ.then_ret ?_
    obtain rfl := Option.some.inj hm
    exact QJ.body (vs := [.bool y6]) (.inl rfl) rfl (ResVs.cons (ResV.tmp rfl) ResVs.nil) [] rfl rfl (.inr trivial) ⟨rfl, rfl⟩
  ·
    refine JC.condF' rfl (decide_eq_false h5) ?_
    refine JC.skip ?_
    refine QJ.then_normal ?_
    refine JC.seq ?_
    refine JC.region ?_
    refine JL.val (v := s1.v) (QV.move rfl) rfl rfl rfl ?_
    obtain ⟨y8, hc9, hm⟩ := bind_inv hm
    refine JL.mv (d := some 15) (MV.call (Lo := []) (Lr := [Asr.vw (Enc.arr 32 (Enc.int .u8)) (s1.v) x2]) (F45.spec (s1) (x2) _ hc9) rfl Try.func45 rfl rfl rfl [] [0] rfl rfl rfl ⟨(Drv.vw 0 rfl), trivial⟩) rfl rfl rfl ?_
    rintro _ _ ⟨_, ⟨z10, rfl, rfl⟩, rfl⟩
    refine JL.val (v := .int .i64 x3) (QV.move rfl) rfl rfl rfl ?_
    obtain ⟨y11, hc12, hm⟩ := bind_inv hm
    refine JL.mv (d := some 17) (MV.call (Lo := []) (Lr := [Asr.of 41 (Enc.arr 32 (Enc.int .u8)) (z10.v) y8, Asr.vw (Enc.arr 32 (Enc.int .u8)) (s1.v) x2]) (F54.spec (z10) (y8) (x3) _ hc12) rfl Try.func54 rfl rfl rfl [] [0, 1] rfl rfl rfl ⟨(Drv.of 0 rfl), trivial⟩) rfl rfl rfl ?_
    rintro _ _ ⟨_, ⟨z13, rfl, rfl⟩, rfl⟩
    refine JL.val (v := .tuple #[z13.v, .int .i64 y11.2]) (QV.move rfl) rfl rfl rfl ?_
    refine JL.val (v := z13.v) (QV.extract (vs := [z13.v, .int .i64 y11.2]) rfl rfl) rfl rfl rfl ?_
    refine JL.val (v := .int .i64 y11.2) (QV.extract (vs := [z13.v, .int .i64 y11.2]) rfl rfl) rfl rfl rfl ?_
    refine JL.val (v := z13.v) (QV.assign rfl) rfl rfl rfl ?_
    refine JL.val (v := .int .i64 y11.2) (QV.assign rfl) rfl rfl rfl ?_
    refine JL.nil ?_
    refine QJ.then_normal ?_
    refine JC.seq ?_
    refine JC.seq ?_
    refine JC.region ?_
    refine JL.val (v := .int .i64 x3) (QV.move rfl) rfl rfl rfl ?_
    refine JL.val (v := .bool (decide (x3 < (0 : Int)))) (QV.lss rfl rfl) rfl rfl rfl ?_
    rcases ite_inv hm with ⟨h14, hm⟩ | ⟨h14, hm⟩
    ·
      refine JL.val (v := .bool true) (QV.eq (QV.move rfl) (congrArg Value.bool (decide_eq_true h14))) rfl rfl rfl ?_
      refine JL.skip (d := some 23) rfl rfl rfl ?_
      refine JL.skip (d := some 24) rfl rfl rfl ?_
      refine JL.skip (d := some 25) rfl rfl rfl ?_
      refine JL.skip (d := some 26) rfl rfl rfl ?_
      refine JL.val (v := .bool true) (QV.pickT rfl rfl) rfl rfl rfl ?_
      refine JL.nil ?_
      refine QJ.then_normal ?_
      refine JC.condT rfl ?_
      refine JC.seq ?_
      refine JC.region ?_
      refine JL.val (v := z13.v) (QV.move rfl) rfl rfl rfl ?_
      refine JL.val (v := .int .i64 ((y11.1).length : Int)) (QV.len (Rdg.of 0 rfl) Try.underlying57 rfl) rfl rfl rfl ?_
      refine JL.val (v := .bool (decide (((y11.1).length : Int) = (0 : Int)))) (QV.eql rfl rfl) rfl rfl rfl ?_
      rcases ite_inv hm with ⟨h15, hm⟩ | ⟨h15, hm⟩
      ·
        refine JL.val (v := .bool true) (QV.eq (QV.move rfl) (congrArg Value.bool (decide_eq_true h15))) rfl rfl rfl ?_
        refine JL.val (v := .int .i64 y11.2) (QV.move rfl) rfl rfl rfl ?_
        refine JL.val (v := .bool (decide (y11.2 = (5 : Int)))) (QV.eql rfl rfl) rfl rfl rfl ?_
        refine JL.val (v := .bool (decide (y11.2 = (5 : Int)))) (QV.pickT rfl rfl) rfl rfl rfl ?_
        rcases ite_inv hm with ⟨h16, hm⟩ | ⟨h16, hm⟩
        ·
          refine JL.val (v := .bool true) (QV.eq (QV.move rfl) (congrArg Value.bool (decide_eq_true h16))) rfl rfl rfl ?_
          refine JL.val (v := .int .i64 x3) (QV.move rfl) rfl rfl rfl ?_
          refine JL.val (v := s1.v) (QV.move rfl) rfl rfl rfl ?_
          refine JL.val (v := .int .i64 ((x2).length : Int)) (QV.len (Rdg.vw 2 rfl) Try.underlying55 rfl) rfl rfl rfl ?_
          obtain ⟨y17, hc18, hm⟩ := bind_inv hm
          refine JL.mv (d := some 39) (MV.call (Lo := []) (Lr := [Asr.of 41 (Enc.arr 32 (Enc.int .u8)) (z13.v) y11.1, Asr.of 41 (Enc.arr 32 (Enc.int .u8)) (z10.v) y8, Asr.vw (Enc.arr 32 (Enc.int .u8)) (s1.v) x2]) (F50.spec (x3) (((x2).length : Int)) _ hc18) rfl Try.func50 rfl rfl rfl [] [0, 1, 2] rfl rfl rfl trivial) rfl rfl rfl ?_
          rintro _ _ ⟨_, ⟨rfl, rfl⟩, rfl⟩
          refine JL.val (v := .bool (decide (y17 = (-1 : Int)))) (QV.eql rfl rfl) rfl rfl rfl ?_
          refine JL.val (v := .bool (decide (y17 = (-1 : Int)))) (QV.pickT rfl rfl) rfl rfl rfl ?_
          rcases ite_inv hm with ⟨h19, hm⟩ | ⟨h19, hm⟩
          ·
            refine JL.val (v := .bool true) (QV.eq (QV.move rfl) (congrArg Value.bool (decide_eq_true h19))) rfl rfl rfl ?_
            obtain ⟨y20, hc21, hm⟩ := bind_inv hm
            refine JL.mv (d := some 43) (MV.call (Lo := []) (Lr := [Asr.of 41 (Enc.arr 32 (Enc.int .u8)) (z13.v) y11.1, Asr.of 41 (Enc.arr 32 (Enc.int .u8)) (z10.v) y8, Asr.vw (Enc.arr 32 (Enc.int .u8)) (s1.v) x2]) (F41.spec _ hc21) rfl Try.func41 rfl rfl rfl [] [0, 1, 2] rfl rfl rfl trivial) rfl rfl rfl ?_
            rintro _ _ ⟨_, ⟨rfl, rfl⟩, rfl⟩
            refine JL.val (v := .bool y20) (QV.pickT rfl rfl) rfl rfl rfl ?_
            refine JL.val (v := .bool y20) (QV.assign rfl) rfl rfl rfl ?_
            refine JL.nil ?_
            refine QJ.then_normal ?_
            refine JC.ret ?_
            refine QJ.then_ret ?_
            obtain rfl := Option.some.inj hm
            exact QJ.body (vs := [.bool y20]) (.inl rfl) rfl (ResVs.cons (ResV.tmp rfl) ResVs.nil) [] rfl rfl (.inr trivial) ⟨rfl, rfl⟩
          ·
            refine JL.val (v := .bool false) (QV.eq (QV.move rfl) (congrArg Value.bool (decide_eq_false h19))) rfl rfl rfl ?_
            refine JL.skip (d := some 43) rfl rfl rfl ?_
            refine JL.val (v := .bool false) (QV.pickF rfl rfl) rfl rfl rfl ?_
            refine JL.val (v := .bool false) (QV.assign rfl) rfl rfl rfl ?_
            refine JL.nil ?_
            refine QJ.then_normal ?_
            refine JC.ret ?_
            refine QJ.then_ret ?_
            obtain rfl := Option.some.inj hm
            exact QJ.body (vs := [.bool false]) (.inl rfl) rfl (ResVs.cons (ResV.tmp rfl) ResVs.nil) [] rfl rfl (.inr trivial) ⟨rfl, rfl⟩
        ·
          refine JL.val (v := .bool false) (QV.eq (QV.move rfl) (congrArg Value.bool (decide_eq_false h16))) rfl rfl rfl ?_
          refine JL.skip (d := some 36) rfl rfl rfl ?_
          refine JL.skip (d := some 37) rfl rfl rfl ?_
          refine JL.skip (d := some 38) rfl rfl rfl ?_
          refine JL.skip (d := some 39) rfl rfl rfl ?_
          refine JL.skip (d := some 40) rfl rfl rfl ?_
          refine JL.val (v := .bool false) (QV.pickF rfl rfl) rfl rfl rfl ?_
          refine JL.val (v := .bool false) (QV.move rfl) rfl rfl rfl ?_
          refine JL.skip (d := some 43) rfl rfl rfl ?_
          refine JL.val (v := .bool false) (QV.pickF rfl rfl) rfl rfl rfl ?_
          refine JL.val (v := .bool false) (QV.assign rfl) rfl rfl rfl ?_
          refine JL.nil ?_
          refine QJ.then_normal ?_
          refine JC.ret ?_
          refine QJ.then_ret ?_
          obtain rfl := Option.some.inj hm
          exact QJ.body (vs := [.bool false]) (.inl rfl) rfl (ResVs.cons (ResV.tmp rfl) ResVs.nil) [] rfl rfl (.inr trivial) ⟨rfl, rfl⟩
      ·
        refine JL.val (v := .bool false) (QV.eq (QV.move rfl) (congrArg Value.bool (decide_eq_false h15))) rfl rfl rfl ?_
        refine JL.skip (d := some 32) rfl rfl rfl ?_
        refine JL.skip (d := some 33) rfl rfl rfl ?_
        refine JL.val (v := .bool false) (QV.pickF rfl rfl) rfl rfl rfl ?_
        refine JL.val (v := .bool false) (QV.move rfl) rfl rfl rfl ?_
        refine JL.skip (d := some 36) rfl rfl rfl ?_
        refine JL.skip (d := some 37) rfl rfl rfl ?_
        refine JL.skip (d := some 38) rfl rfl rfl ?_
        refine JL.skip (d := some 39) rfl rfl rfl ?_
        refine JL.skip (d := some 40) rfl rfl rfl ?_
        refine JL.val (v := .bool false) (QV.pickF rfl rfl) rfl rfl rfl ?_
        refine JL.val (v := .bool false) (QV.move rfl) rfl rfl rfl ?_
        refine JL.skip (d := some 43) rfl rfl rfl ?_
        refine JL.val (v := .bool false) (QV.pickF rfl rfl) rfl rfl rfl ?_
        refine JL.val (v := .bool false) (QV.assign rfl) rfl rfl rfl ?_
        refine JL.nil ?_
        refine QJ.then_normal ?_
        refine JC.ret ?_
        refine QJ.then_ret ?_
        obtain rfl := Option.some.inj hm
        exact QJ.body (vs := [.bool false]) (.inl rfl) rfl (ResVs.cons (ResV.tmp rfl) ResVs.nil) [] rfl rfl (.inr trivial) ⟨rfl, rfl⟩
    ·
      refine JL.val (v := .bool false) (QV.eq (QV.move rfl) (congrArg Value.bool (decide_eq_false h14))) rfl rfl rfl ?_
      refine JL.val (v := .int .i64 x3) (QV.move rfl) rfl rfl rfl ?_
      refine JL.val (v := s1.v) (QV.move rfl) rfl rfl rfl ?_
      refine JL.val (v := .int .i64 ((x2).length : Int)) (QV.len (Rdg.vw 2 rfl) Try.underlying55 rfl) rfl rfl rfl ?_
      refine JL.val (v := .bool (decide (((x2).length : Int) ≤ x3))) (QV.geq rfl rfl) rfl rfl rfl ?_
      refine JL.val (v := .bool (decide (((x2).length : Int) ≤ x3))) (QV.pickF rfl rfl) rfl rfl rfl ?_
      refine JL.nil ?_
      refine QJ.then_normal ?_
      rcases ite_inv hm with ⟨h22, hm⟩ | ⟨h22, hm⟩
      ·
        refine JC.condT' rfl (decide_eq_true h22) ?_
        refine JC.seq ?_
        refine JC.region ?_
        refine JL.val (v := z13.v) (QV.move rfl) rfl rfl rfl ?_
        refine JL.val (v := .int .i64 ((y11.1).length : Int)) (QV.len (Rdg.of 0 rfl) Try.underlying57 rfl) rfl rfl rfl ?_
        refine JL.val (v := .bool (decide (((y11.1).length : Int) = (0 : Int)))) (QV.eql rfl rfl) rfl rfl rfl ?_
        rcases ite_inv hm with ⟨h23, hm⟩ | ⟨h23, hm⟩
        ·
          refine JL.val (v := .bool true) (QV.eq (QV.move rfl) (congrArg Value.bool (decide_eq_true h23))) rfl rfl rfl ?_
          refine JL.val (v := .int .i64 y11.2) (QV.move rfl) rfl rfl rfl ?_
          refine JL.val (v := .bool (decide (y11.2 = (5 : Int)))) (QV.eql rfl rfl) rfl rfl rfl ?_
          refine JL.val (v := .bool (decide (y11.2 = (5 : Int)))) (QV.pickT rfl rfl) rfl rfl rfl ?_
          rcases ite_inv hm with ⟨h24, hm⟩ | ⟨h24, hm⟩
          ·
            refine JL.val (v := .bool true) (QV.eq (QV.move rfl) (congrArg Value.bool (decide_eq_true h24))) rfl rfl rfl ?_
            refine JL.val (v := .int .i64 x3) (QV.move rfl) rfl rfl rfl ?_
            refine JL.val (v := s1.v) (QV.move rfl) rfl rfl rfl ?_
            refine JL.val (v := .int .i64 ((x2).length : Int)) (QV.len (Rdg.vw 2 rfl) Try.underlying55 rfl) rfl rfl rfl ?_
            obtain ⟨y25, hc26, hm⟩ := bind_inv hm
            refine JL.mv (d := some 39) (MV.call (Lo := []) (Lr := [Asr.of 41 (Enc.arr 32 (Enc.int .u8)) (z13.v) y11.1, Asr.of 41 (Enc.arr 32 (Enc.int .u8)) (z10.v) y8, Asr.vw (Enc.arr 32 (Enc.int .u8)) (s1.v) x2]) (F50.spec (x3) (((x2).length : Int)) _ hc26) rfl Try.func50 rfl rfl rfl [] [0, 1, 2] rfl rfl rfl trivial) rfl rfl rfl ?_
            rintro _ _ ⟨_, ⟨rfl, rfl⟩, rfl⟩
            refine JL.val (v := .bool (decide (y25 = (-1 : Int)))) (QV.eql rfl rfl) rfl rfl rfl ?_
            refine JL.val (v := .bool (decide (y25 = (-1 : Int)))) (QV.pickT rfl rfl) rfl rfl rfl ?_
            rcases ite_inv hm with ⟨h27, hm⟩ | ⟨h27, hm⟩
            ·
              refine JL.val (v := .bool true) (QV.eq (QV.move rfl) (congrArg Value.bool (decide_eq_true h27))) rfl rfl rfl ?_
              obtain ⟨y28, hc29, hm⟩ := bind_inv hm
              refine JL.mv (d := some 43) (MV.call (Lo := []) (Lr := [Asr.of 41 (Enc.arr 32 (Enc.int .u8)) (z13.v) y11.1, Asr.of 41 (Enc.arr 32 (Enc.int .u8)) (z10.v) y8, Asr.vw (Enc.arr 32 (Enc.int .u8)) (s1.v) x2]) (F41.spec _ hc29) rfl Try.func41 rfl rfl rfl [] [0, 1, 2] rfl rfl rfl trivial) rfl rfl rfl ?_
              rintro _ _ ⟨_, ⟨rfl, rfl⟩, rfl⟩
              refine JL.val (v := .bool y28) (QV.pickT rfl rfl) rfl rfl rfl ?_
              refine JL.val (v := .bool y28) (QV.assign rfl) rfl rfl rfl ?_
              refine JL.nil ?_
              refine QJ.then_normal ?_
              refine JC.ret ?_
              refine QJ.then_ret ?_
              obtain rfl := Option.some.inj hm
              exact QJ.body (vs := [.bool y28]) (.inl rfl) rfl (ResVs.cons (ResV.tmp rfl) ResVs.nil) [] rfl rfl (.inr trivial) ⟨rfl, rfl⟩
            ·
              refine JL.val (v := .bool false) (QV.eq (QV.move rfl) (congrArg Value.bool (decide_eq_false h27))) rfl rfl rfl ?_
              refine JL.skip (d := some 43) rfl rfl rfl ?_
              refine JL.val (v := .bool false) (QV.pickF rfl rfl) rfl rfl rfl ?_
              refine JL.val (v := .bool false) (QV.assign rfl) rfl rfl rfl ?_
              refine JL.nil ?_
              refine QJ.then_normal ?_
              refine JC.ret ?_
              refine QJ.then_ret ?_
              obtain rfl := Option.some.inj hm
              exact QJ.body (vs := [.bool false]) (.inl rfl) rfl (ResVs.cons (ResV.tmp rfl) ResVs.nil) [] rfl rfl (.inr trivial) ⟨rfl, rfl⟩
          ·
            refine JL.val (v := .bool false) (QV.eq (QV.move rfl) (congrArg Value.bool (decide_eq_false h24))) rfl rfl rfl ?_
            refine JL.skip (d := some 36) rfl rfl rfl ?_
            refine JL.skip (d := some 37) rfl rfl rfl ?_
            refine JL.skip (d := some 38) rfl rfl rfl ?_
            refine JL.skip (d := some 39) rfl rfl rfl ?_
            refine JL.skip (d := some 40) rfl rfl rfl ?_
            refine JL.val (v := .bool false) (QV.pickF rfl rfl) rfl rfl rfl ?_
            refine JL.val (v := .bool false) (QV.move rfl) rfl rfl rfl ?_
            refine JL.skip (d := some 43) rfl rfl rfl ?_
            refine JL.val (v := .bool false) (QV.pickF rfl rfl) rfl rfl rfl ?_
            refine JL.val (v := .bool false) (QV.assign rfl) rfl rfl rfl ?_
            refine JL.nil ?_
            refine QJ.then_normal ?_
            refine JC.ret ?_
            refine QJ.then_ret ?_
            obtain rfl := Option.some.inj hm
            exact QJ.body (vs := [.bool false]) (.inl rfl) rfl (ResVs.cons (ResV.tmp rfl) ResVs.nil) [] rfl rfl (.inr trivial) ⟨rfl, rfl⟩
        ·
          refine JL.val (v := .bool false) (QV.eq (QV.move rfl) (congrArg Value.bool (decide_eq_false h23))) rfl rfl rfl ?_
          refine JL.skip (d := some 32) rfl rfl rfl ?_
          refine JL.skip (d := some 33) rfl rfl rfl ?_
          refine JL.val (v := .bool false) (QV.pickF rfl rfl) rfl rfl rfl ?_
          refine JL.val (v := .bool false) (QV.move rfl) rfl rfl rfl ?_
          refine JL.skip (d := some 36) rfl rfl rfl ?_
          refine JL.skip (d := some 37) rfl rfl rfl ?_
          refine JL.skip (d := some 38) rfl rfl rfl ?_
          refine JL.skip (d := some 39) rfl rfl rfl ?_
          refine JL.skip (d := some 40) rfl rfl rfl ?_
          refine JL.val (v := .bool false) (QV.pickF rfl rfl) rfl rfl rfl ?_
          refine JL.val (v := .bool false) (QV.move rfl) rfl rfl rfl ?_
          refine JL.skip (d := some 43) rfl rfl rfl ?_
          refine JL.val (v := .bool false) (QV.pickF rfl rfl) rfl rfl rfl ?_
          refine JL.val (v := .bool false) (QV.assign rfl) rfl rfl rfl ?_
          refine JL.nil ?_
          refine QJ.then_normal ?_
          refine JC.ret ?_
          refine QJ.then_ret ?_
          obtain rfl := Option.some.inj hm
          exact QJ.body (vs := [.bool false]) (.inl rfl) rfl (ResVs.cons (ResV.tmp rfl) ResVs.nil) [] rfl rfl (.inr trivial) ⟨rfl, rfl⟩
      ·
        refine JC.condF' rfl (decide_eq_false h22) ?_
        refine JC.skip ?_
        refine QJ.then_normal ?_
        refine JC.seq ?_
        refine JC.region ?_
        refine JL.val (v := s1.v) (QV.move rfl) rfl rfl rfl ?_
        refine JL.val (v := .int .i64 x3) (QV.move rfl) rfl rfl rfl ?_
        obtain ⟨h30, hm⟩ := guard_inv hm
        refine JL.val (v := .pointer (some (elA (s1.v) (Int.toNat x3 * ((Enc.arr 32 (Enc.int .u8))).sz)))) (QV.indexA (Rdg.vw 2 rfl) Try.underlying55 tk_39 rfl rfl h30) rfl rfl rfl ?_
        refine JL.val (v := .agg (((Enc.arr 32 (Enc.int .u8))).enc (gd x2 x3)).toArray) (QV.eq (QV.elN (Rdg.vw 2 rfl) tk_39 rfl h30) rfl) rfl rfl rfl ?_
        refine JL.val (v := .int .i64 x3) (QV.move rfl) rfl rfl rfl ?_
        refine JL.val (v := s1.v) (QV.move rfl) rfl rfl rfl ?_
        refine JL.val (v := .int .i64 ((x2).length : Int)) (QV.len (Rdg.vw 2 rfl) Try.underlying55 rfl) rfl rfl rfl ?_
        refine JL.val (v := z13.v) (QV.move rfl) rfl rfl rfl ?_
        obtain ⟨y31, hc32, hm⟩ := bind_inv hm
        refine JL.mv (d := some 54) (MV.call (Lo := []) (Lr := [Asr.of 41 (Enc.arr 32 (Enc.int .u8)) (z13.v) y11.1, Asr.of 41 (Enc.arr 32 (Enc.int .u8)) (z10.v) y8, Asr.vw (Enc.arr 32 (Enc.int .u8)) (s1.v) x2]) (F49.spec (z13) ((gd x2 x3)) (x3) (((x2).length : Int)) (y11.1) _ hc32) rfl Try.func49 rfl rfl rfl [] [0, 1, 2] rfl rfl rfl ⟨(Drv.of 0 rfl), trivial⟩) rfl rfl rfl ?_
        rintro _ _ ⟨_, ⟨rfl, rfl⟩, rfl⟩
        refine JL.val (v := .tuple #[.agg (((Enc.arr 32 (Enc.int .u8))).enc y31.1).toArray, .int .i64 y31.2]) (QV.move rfl) rfl rfl rfl ?_
        refine JL.val (v := .agg (((Enc.arr 32 (Enc.int .u8))).enc y31.1).toArray) (QV.extract (vs := [.agg (((Enc.arr 32 (Enc.int .u8))).enc y31.1).toArray, .int .i64 y31.2]) rfl rfl) rfl rfl rfl ?_
        refine JL.val (v := .int .i64 y31.2) (QV.extract (vs := [.agg (((Enc.arr 32 (Enc.int .u8))).enc y31.1).toArray, .int .i64 y31.2]) rfl rfl) rfl rfl rfl ?_
        refine JL.mv (d := some 7) (MV.alloc [Seg.of (Enc.arr 32 (Enc.int .u8)) (Arr.rep 32 (0 : Int))] z_41 rfl) rfl rfl rfl ?_
        rintro _ _ ⟨b33, rfl, rfl⟩
        refine JL.mv (d := none) (MV.store (ss := [Seg.of (Enc.arr 32 (Enc.int .u8)) (Arr.rep 32 (0 : Int))]) 0 0 1 [Seg.of (Enc.arr 32 (Enc.int .u8)) y31.1] rfl tk_41 rfl rfl rfl rfl (fun w hs => ⟨rfl, one_of _ _, trivial⟩)) rfl rfl rfl ?_
        rintro _ _ ⟨rfl, rfl⟩
        refine JL.val (v := .int .i64 y31.2) (QV.assign rfl) rfl rfl rfl ?_
        refine JL.nil ?_
        refine QJ.then_normal ?_
        refine JC.seq ?_
        refine JC.regionT [Asr.blk b33 41 [Seg.of (Enc.arr 32 (Enc.int .u8)) y31.1], Asr.of 41 (Enc.arr 32 (Enc.int .u8)) (z13.v) y11.1, Asr.of 41 (Enc.arr 32 (Enc.int .u8)) (z10.v) y8, Asr.vw (Enc.arr 32 (Enc.int .u8)) (s1.v) x2] (fun t => false) [(0, false), (1, false), (2, false), (3, true), (4, true), (5, false), (6, false), (7, false), (8, false), (9, false), (10, true), (11, true), (12, true), (14, true), (15, true), (13, false), (16, false), (17, false), (18, false), (19, false), (20, false), (21, false), (22, false), (23, true), (24, false), (25, false), (26, false), (27, false), (28, false), (29, false), (30, false), (31, false), (32, false)] (by kernel_rfl) (by kernel_rfl) (by kernel_rfl) rfl (fun hsel => ?_)
        refine JT.only (i := 0) (d := some 57) rfl (MV.ofQV (v := .int .i64 y11.2) (QV.move rfl)) rfl rfl rfl ?_
        rintro _ _ ⟨rfl, rfl⟩
        refine ⟨fun _ => ⟨[0, 1, 2, 3], rfl, rfl⟩, ?_⟩
        refine JT.only (i := 1) (d := some 58) rfl (MV.ofQV (v := .bool (decide (y11.2 = (0 : Int)))) (QV.eql rfl rfl)) rfl rfl rfl ?_
        rintro _ _ ⟨rfl, rfl⟩
        refine ⟨fun _ => ⟨[0, 1, 2, 3], rfl, rfl⟩, ?_⟩
        rcases ite_inv hm with ⟨h34, hm⟩ | ⟨h34, hm⟩
        ·
          refine JT.only (i := 2) (d := some 59) rfl (MV.ofQV (v := .bool true) (QV.eq (QV.move rfl) (congrArg Value.bool (decide_eq_true h34)))) rfl rfl rfl ?_
          rintro _ _ ⟨rfl, rfl⟩
          refine ⟨fun _ => ⟨[0, 1, 2, 3], rfl, rfl⟩, ?_⟩
          refine JT.take (i := 3) (v := z13.v) hsel rfl (QV.move rfl) rfl rfl rfl [0, 1, 2, 3] rfl rfl ?_
          refine JT.take (i := 4) (v := s1.v) hsel rfl (QV.move rfl) rfl rfl rfl [0, 1, 2, 3] rfl rfl ?_
          refine JT.only (i := 5) (d := some 62) rfl (MV.ofQV (v := .int .i64 x3) (QV.move rfl)) rfl rfl rfl ?_
          rintro _ _ ⟨rfl, rfl⟩
          refine ⟨fun _ => ⟨[0, 1, 2, 3], rfl, rfl⟩, ?_⟩
          obtain ⟨y35, hc36, hm⟩ := bind_inv hm
          refine JT.only (i := 6) (d := some 63) rfl (MV.call (Lo := []) (Lr := [Asr.blk b33 41 [Seg.of (Enc.arr 32 (Enc.int .u8)) y31.1], Asr.of 41 (Enc.arr 32 (Enc.int .u8)) (z13.v) y11.1, Asr.of 41 (Enc.arr 32 (Enc.int .u8)) (z10.v) y8, Asr.vw (Enc.arr 32 (Enc.int .u8)) (s1.v) x2]) (F56.spec (s1) (x2) (x3) _ hc36) rfl Try.func56 rfl rfl rfl [] [0, 1, 2, 3] rfl rfl rfl ⟨(Drv.vw 3 rfl), trivial⟩) rfl rfl rfl ?_
          rintro _ _ ⟨_, ⟨z37, rfl, rfl⟩, rfl⟩
          refine ⟨fun _ => ⟨[1, 2, 3, 4], rfl, rfl⟩, ?_⟩
          refine JT.grow [Asr.of 39 (Enc.arr 32 (Enc.int .u8)) (z37.v) y35, Asr.blk b33 41 [Seg.of (Enc.arr 32 (Enc.int .u8)) y31.1], Asr.of 41 (Enc.arr 32 (Enc.int .u8)) (z13.v) y11.1, Asr.of 41 (Enc.arr 32 (Enc.int .u8)) (z10.v) y8, Asr.vw (Enc.arr 32 (Enc.int .u8)) (s1.v) x2] [1, 2, 3, 4] rfl rfl ?_
          obtain ⟨y38, hc39, hm⟩ := bind_inv hm
          refine JT.only (i := 7) (d := some 64) rfl (MV.call (Lo := []) (Lr := [Asr.of 39 (Enc.arr 32 (Enc.int .u8)) (z37.v) y35, Asr.blk b33 41 [Seg.of (Enc.arr 32 (Enc.int .u8)) y31.1], Asr.of 41 (Enc.arr 32 (Enc.int .u8)) (z13.v) y11.1, Asr.of 41 (Enc.arr 32 (Enc.int .u8)) (z10.v) y8, Asr.vw (Enc.arr 32 (Enc.int .u8)) (s1.v) x2]) (F55.spec (z13) (z37) (y11.1) (y35) _ hc39) rfl Try.func55 rfl rfl rfl [] [0, 1, 2, 3, 4] rfl rfl rfl ⟨(Drv.of 2 rfl), ⟨(Drv.of 0 rfl), trivial⟩⟩) rfl rfl rfl ?_
          rintro _ _ ⟨_, ⟨rfl, rfl⟩, rfl⟩
          refine ⟨fun _ => ⟨[0, 1, 2, 3, 4], rfl, rfl⟩, ?_⟩
          refine JT.only (i := 8) (d := some 65) rfl (MV.ofQV (v := .bool y38) (QV.pickT rfl rfl)) rfl rfl rfl ?_
          rintro _ _ ⟨rfl, rfl⟩
          refine ⟨fun _ => ⟨[0, 1, 2, 3, 4], rfl, rfl⟩, ?_⟩
          rcases ite_inv hm with ⟨h40, hm⟩ | ⟨h40, hm⟩
          ·
            refine JT.only (i := 9) (d := some 66) rfl (MV.ofQV (v := .bool true) (QV.eq (QV.move rfl) (congrArg Value.bool h40))) rfl rfl rfl ?_
            rintro _ _ ⟨rfl, rfl⟩
            refine ⟨fun _ => ⟨[0, 1, 2, 3, 4], rfl, rfl⟩, ?_⟩
            refine JT.take (i := 10) (v := .int .i64 x3) hsel rfl (QV.move rfl) rfl rfl rfl [0, 1, 2, 3, 4] rfl rfl ?_
            refine JT.take (i := 11) (v := s1.v) hsel rfl (QV.move rfl) rfl rfl rfl [0, 1, 2, 3, 4] rfl rfl ?_
            refine JT.take (i := 12) (v := .int .i64 ((x2).length : Int)) hsel rfl (QV.len (Rdg.vw 4 rfl) Try.underlying55 rfl) rfl rfl rfl [0, 1, 2, 3, 4] rfl rfl ?_
            refine JT.take (i := 14) (v := z13.v) hsel rfl (QV.move rfl) rfl rfl rfl [0, 1, 2, 3, 4] rfl rfl ?_
            refine JT.take (i := 15) (v := .int .i64 ((y11.1).length : Int)) hsel rfl (QV.len (Rdg.of 2 rfl) Try.underlying57 rfl) rfl rfl rfl [0, 1, 2, 3, 4] rfl rfl ?_
            obtain ⟨y41, hc42, hm⟩ := bind_inv hm
            refine JT.only (i := 13) (d := some 70) rfl (MV.call (Lo := []) (Lr := [Asr.of 39 (Enc.arr 32 (Enc.int .u8)) (z37.v) y35, Asr.blk b33 41 [Seg.of (Enc.arr 32 (Enc.int .u8)) y31.1], Asr.of 41 (Enc.arr 32 (Enc.int .u8)) (z13.v) y11.1, Asr.of 41 (Enc.arr 32 (Enc.int .u8)) (z10.v) y8, Asr.vw (Enc.arr 32 (Enc.int .u8)) (s1.v) x2]) (F50.spec (x3) (((x2).length : Int)) _ hc42) rfl Try.func50 rfl rfl rfl [] [0, 1, 2, 3, 4] rfl rfl rfl trivial) rfl rfl rfl ?_
            rintro _ _ ⟨_, ⟨rfl, rfl⟩, rfl⟩
            refine ⟨fun _ => ⟨[0, 1, 2, 3, 4], rfl, rfl⟩, ?_⟩
            refine JT.only (i := 16) (d := some 73) rfl (MV.ofQV (v := .bool (decide (y41 = ((y11.1).length : Int)))) (QV.eql rfl rfl)) rfl rfl rfl ?_
            rintro _ _ ⟨rfl, rfl⟩
            refine ⟨fun _ => ⟨[0, 1, 2, 3, 4], rfl, rfl⟩, ?_⟩
            refine JT.only (i := 17) (d := some 74) rfl (MV.ofQV (v := .bool (decide (y41 = ((y11.1).length : Int)))) (QV.pickT rfl rfl)) rfl rfl rfl ?_
            rintro _ _ ⟨rfl, rfl⟩
            refine ⟨fun _ => ⟨[0, 1, 2, 3, 4], rfl, rfl⟩, ?_⟩
            rcases ite_inv hm with ⟨h43, hm⟩ | ⟨h43, hm⟩
            ·
              refine JT.only (i := 18) (d := some 75) rfl (MV.ofQV (v := .bool true) (QV.eq (QV.move rfl) (congrArg Value.bool (decide_eq_true h43)))) rfl rfl rfl ?_
              rintro _ _ ⟨rfl, rfl⟩
              refine ⟨fun _ => ⟨[0, 1, 2, 3, 4], rfl, rfl⟩, ?_⟩
              refine JT.only (i := 19) (d := some 76) rfl (MV.ofQV (v := .int .i64 y31.2) (QV.move rfl)) rfl rfl rfl ?_
              rintro _ _ ⟨rfl, rfl⟩
              refine ⟨fun _ => ⟨[0, 1, 2, 3, 4], rfl, rfl⟩, ?_⟩
              refine JT.only (i := 20) (d := some 77) rfl (MV.ofQV (v := .bool (decide (y31.2 = (0 : Int)))) (QV.eql rfl rfl)) rfl rfl rfl ?_
              rintro _ _ ⟨rfl, rfl⟩
              refine ⟨fun _ => ⟨[0, 1, 2, 3, 4], rfl, rfl⟩, ?_⟩
              refine JT.only (i := 21) (d := some 78) rfl (MV.ofQV (v := .bool (decide (y31.2 = (0 : Int)))) (QV.pickT rfl rfl)) rfl rfl rfl ?_
              rintro _ _ ⟨rfl, rfl⟩
              refine ⟨fun _ => ⟨[0, 1, 2, 3, 4], rfl, rfl⟩, ?_⟩
              rcases ite_inv hm with ⟨h44, hm⟩ | ⟨h44, hm⟩
              ·
                refine JT.only (i := 22) (d := some 79) rfl (MV.ofQV (v := .bool true) (QV.eq (QV.move rfl) (congrArg Value.bool (decide_eq_true h44)))) rfl rfl rfl ?_
                rintro _ _ ⟨rfl, rfl⟩
                refine ⟨fun _ => ⟨[0, 1, 2, 3, 4], rfl, rfl⟩, ?_⟩
                refine JT.take (i := 23) (v := .agg (((Enc.arr 32 (Enc.int .u8))).enc y31.1).toArray) hsel rfl (QV.eq (QV.loadN (ss := [Seg.of (Enc.arr 32 (Enc.int .u8)) y31.1]) 1 0 1 rfl tk_41 rfl rfl rfl rfl) rfl) rfl rfl rfl [0, 1, 2, 3, 4] rfl rfl ?_
                refine JT.only (i := 24) (d := some 81) rfl (MV.ofQV (v := s1.v) (QV.move rfl)) rfl rfl rfl ?_
                rintro _ _ ⟨rfl, rfl⟩
                refine ⟨fun _ => ⟨[0, 1, 2, 3, 4], rfl, rfl⟩, ?_⟩
                obtain ⟨y45, hc46, hm⟩ := bind_inv hm
                refine JT.only (i := 25) (d := some 82) rfl (MV.call (Lo := []) (Lr := [Asr.of 39 (Enc.arr 32 (Enc.int .u8)) (z37.v) y35, Asr.blk b33 41 [Seg.of (Enc.arr 32 (Enc.int .u8)) y31.1], Asr.of 41 (Enc.arr 32 (Enc.int .u8)) (z13.v) y11.1, Asr.of 41 (Enc.arr 32 (Enc.int .u8)) (z10.v) y8, Asr.vw (Enc.arr 32 (Enc.int .u8)) (s1.v) x2]) (F45.spec (s1) (x2) _ hc46) rfl Try.func45 rfl rfl rfl [] [0, 1, 2, 3, 4] rfl rfl rfl ⟨(Drv.vw 4 rfl), trivial⟩) rfl rfl rfl ?_
                rintro _ _ ⟨_, ⟨z47, rfl, rfl⟩, rfl⟩
                refine ⟨fun _ => ⟨[1, 2, 3, 4, 5], rfl, rfl⟩, ?_⟩
                refine JT.grow [Asr.of 41 (Enc.arr 32 (Enc.int .u8)) (z47.v) y45, Asr.of 39 (Enc.arr 32 (Enc.int .u8)) (z37.v) y35, Asr.blk b33 41 [Seg.of (Enc.arr 32 (Enc.int .u8)) y31.1], Asr.of 41 (Enc.arr 32 (Enc.int .u8)) (z13.v) y11.1, Asr.of 41 (Enc.arr 32 (Enc.int .u8)) (z10.v) y8, Asr.vw (Enc.arr 32 (Enc.int .u8)) (s1.v) x2] [1, 2, 3, 4, 5] rfl rfl ?_
                obtain ⟨y48, hc49, hm⟩ := bind_inv hm
                refine JT.only (i := 26) (d := some 83) rfl (MV.call (Lo := []) (Lr := [Asr.of 41 (Enc.arr 32 (Enc.int .u8)) (z47.v) y45, Asr.of 39 (Enc.arr 32 (Enc.int .u8)) (z37.v) y35, Asr.blk b33 41 [Seg.of (Enc.arr 32 (Enc.int .u8)) y31.1], Asr.of 41 (Enc.arr 32 (Enc.int .u8)) (z13.v) y11.1, Asr.of 41 (Enc.arr 32 (Enc.int .u8)) (z10.v) y8, Asr.vw (Enc.arr 32 (Enc.int .u8)) (s1.v) x2]) (F44.spec (z47) (y45) _ hc49) rfl Try.func44 rfl rfl rfl [] [0, 1, 2, 3, 4, 5] rfl rfl rfl ⟨(Drv.of 0 rfl), trivial⟩) rfl rfl rfl ?_
                rintro _ _ ⟨_, ⟨rfl, rfl⟩, rfl⟩
                refine ⟨fun _ => ⟨[0, 1, 2, 3, 4, 5], rfl, rfl⟩, ?_⟩
                refine JT.only (i := 27) (d := some 84) rfl (MV.ofQV (v := .bool (decide (y31.1 = y48))) (QV.eqlE (E := (Enc.arr 32 (Enc.int .u8))) (a := y31.1) (b := y48) zeq_41 (by kernel_rfl) rfl rfl)) rfl rfl rfl ?_
                rintro _ _ ⟨rfl, rfl⟩
                refine ⟨fun _ => ⟨[0, 1, 2, 3, 4, 5], rfl, rfl⟩, ?_⟩
                refine JT.only (i := 28) (d := some 85) rfl (MV.ofQV (v := .bool (decide (y31.1 = y48))) (QV.pickT rfl rfl)) rfl rfl rfl ?_
                rintro _ _ ⟨rfl, rfl⟩
                refine ⟨fun _ => ⟨[0, 1, 2, 3, 4, 5], rfl, rfl⟩, ?_⟩
                rcases ite_inv hm with ⟨h50, hm⟩ | ⟨h50, hm⟩
                ·
                  refine JT.only (i := 29) (d := some 86) rfl (MV.ofQV (v := .bool true) (QV.eq (QV.move rfl) (congrArg Value.bool (decide_eq_true h50)))) rfl rfl rfl ?_
                  rintro _ _ ⟨rfl, rfl⟩
                  refine ⟨fun _ => ⟨[0, 1, 2, 3, 4, 5], rfl, rfl⟩, ?_⟩
                  obtain ⟨y51, hc52, hm⟩ := bind_inv hm
                  refine JT.only (i := 30) (d := some 87) rfl (MV.call (Lo := []) (Lr := [Asr.of 41 (Enc.arr 32 (Enc.int .u8)) (z47.v) y45, Asr.of 39 (Enc.arr 32 (Enc.int .u8)) (z37.v) y35, Asr.blk b33 41 [Seg.of (Enc.arr 32 (Enc.int .u8)) y31.1], Asr.of 41 (Enc.arr 32 (Enc.int .u8)) (z13.v) y11.1, Asr.of 41 (Enc.arr 32 (Enc.int .u8)) (z10.v) y8, Asr.vw (Enc.arr 32 (Enc.int .u8)) (s1.v) x2]) (F41.spec _ hc52) rfl Try.func41 rfl rfl rfl [] [0, 1, 2, 3, 4, 5] rfl rfl rfl trivial) rfl rfl rfl ?_
                  rintro _ _ ⟨_, ⟨rfl, rfl⟩, rfl⟩
                  refine ⟨fun _ => ⟨[0, 1, 2, 3, 4, 5], rfl, rfl⟩, ?_⟩
                  refine JT.only (i := 31) (d := some 88) rfl (MV.ofQV (v := .bool y51) (QV.pickT rfl rfl)) rfl rfl rfl ?_
                  rintro _ _ ⟨rfl, rfl⟩
                  refine ⟨fun _ => ⟨[0, 1, 2, 3, 4, 5], rfl, rfl⟩, ?_⟩
                  refine JT.only (i := 32) (d := some 4) rfl (MV.ofQV (v := .bool y51) (QV.assign rfl)) rfl rfl rfl ?_
                  rintro _ _ ⟨rfl, rfl⟩
                  refine ⟨fun _ => ⟨[0, 1, 2, 3, 4, 5], rfl, rfl⟩, ?_⟩
                  refine JT.nil ?_
                  refine QJ.then_normal ?_
                  refine JC.ret ?_
                  obtain rfl := Option.some.inj hm
                  exact QJ.body (vs := [.bool y51]) (.inl rfl) rfl (ResVs.cons (ResV.tmp rfl) ResVs.nil) [] rfl rfl (.inr trivial) ⟨rfl, rfl⟩
                ·
                  refine JT.only (i := 29) (d := some 86) rfl (MV.ofQV (v := .bool false) (QV.eq (QV.move rfl) (congrArg Value.bool (decide_eq_false h50)))) rfl rfl rfl ?_
                  rintro _ _ ⟨rfl, rfl⟩
                  refine ⟨fun _ => ⟨[0, 1, 2, 3, 4, 5], rfl, rfl⟩, ?_⟩
                  refine JT.skipO (i := 30) (d := some 87) rfl rfl rfl rfl [0, 1, 2, 3, 4, 5] rfl rfl ?_
                  refine JT.only (i := 31) (d := some 88) rfl (MV.ofQV (v := .bool false) (QV.pickF rfl rfl)) rfl rfl rfl ?_
                  rintro _ _ ⟨rfl, rfl⟩
                  refine ⟨fun _ => ⟨[0, 1, 2, 3, 4, 5], rfl, rfl⟩, ?_⟩
                  refine JT.only (i := 32) (d := some 4) rfl (MV.ofQV (v := .bool false) (QV.assign rfl)) rfl rfl rfl ?_
                  rintro _ _ ⟨rfl, rfl⟩
                  refine ⟨fun _ => ⟨[0, 1, 2, 3, 4, 5], rfl, rfl⟩, ?_⟩
                  refine JT.nil ?_
                  refine QJ.then_normal ?_
                  refine JC.ret ?_
                  obtain rfl := Option.some.inj hm
                  exact QJ.body (vs := [.bool false]) (.inl rfl) rfl (ResVs.cons (ResV.tmp rfl) ResVs.nil) [] rfl rfl (.inr trivial) ⟨rfl, rfl⟩
              ·
                refine JT.only (i := 22) (d := some 79) rfl (MV.ofQV (v := .bool false) (QV.eq (QV.move rfl) (congrArg Value.bool (decide_eq_false h44)))) rfl rfl rfl ?_
                rintro _ _ ⟨rfl, rfl⟩
                refine ⟨fun _ => ⟨[0, 1, 2, 3, 4], rfl, rfl⟩, ?_⟩
                refine JT.skip (i := 23) (d := some 80) hsel rfl rfl rfl rfl [0, 1, 2, 3, 4] rfl rfl ?_
                refine JT.skipO (i := 24) (d := some 81) rfl rfl rfl rfl [0, 1, 2, 3, 4] rfl rfl ?_
                refine JT.skipO (i := 25) (d := some 82) rfl rfl rfl rfl [0, 1, 2, 3, 4] rfl rfl ?_
                refine JT.skipO (i := 26) (d := some 83) rfl rfl rfl rfl [0, 1, 2, 3, 4] rfl rfl ?_
                refine JT.skipO (i := 27) (d := some 84) rfl rfl rfl rfl [0, 1, 2, 3, 4] rfl rfl ?_
                refine JT.only (i := 28) (d := some 85) rfl (MV.ofQV (v := .bool false) (QV.pickF rfl rfl)) rfl rfl rfl ?_
                rintro _ _ ⟨rfl, rfl⟩
                refine ⟨fun _ => ⟨[0, 1, 2, 3, 4], rfl, rfl⟩, ?_⟩
                refine JT.only (i := 29) (d := some 86) rfl (MV.ofQV (v := .bool false) (QV.move rfl)) rfl rfl rfl ?_
                rintro _ _ ⟨rfl, rfl⟩
                refine ⟨fun _ => ⟨[0, 1, 2, 3, 4], rfl, rfl⟩, ?_⟩
                refine JT.skipO (i := 30) (d := some 87) rfl rfl rfl rfl [0, 1, 2, 3, 4] rfl rfl ?_
                refine JT.only (i := 31) (d := some 88) rfl (MV.ofQV (v := .bool false) (QV.pickF rfl rfl)) rfl rfl rfl ?_
                rintro _ _ ⟨rfl, rfl⟩
                refine ⟨fun _ => ⟨[0, 1, 2, 3, 4], rfl, rfl⟩, ?_⟩
                refine JT.only (i := 32) (d := some 4) rfl (MV.ofQV (v := .bool false) (QV.assign rfl)) rfl rfl rfl ?_
                rintro _ _ ⟨rfl, rfl⟩
                refine ⟨fun _ => ⟨[0, 1, 2, 3, 4], rfl, rfl⟩, ?_⟩
                refine JT.nil ?_
                refine QJ.then_normal ?_
                refine JC.ret ?_
                obtain rfl := Option.some.inj hm
                exact QJ.body (vs := [.bool false]) (.inl rfl) rfl (ResVs.cons (ResV.tmp rfl) ResVs.nil) [] rfl rfl (.inr trivial) ⟨rfl, rfl⟩
            ·
              refine JT.only (i := 18) (d := some 75) rfl (MV.ofQV (v := .bool false) (QV.eq (QV.move rfl) (congrArg Value.bool (decide_eq_false h43)))) rfl rfl rfl ?_
              rintro _ _ ⟨rfl, rfl⟩
              refine ⟨fun _ => ⟨[0, 1, 2, 3, 4], rfl, rfl⟩, ?_⟩
              refine JT.skipO (i := 19) (d := some 76) rfl rfl rfl rfl [0, 1, 2, 3, 4] rfl rfl ?_
              refine JT.skipO (i := 20) (d := some 77) rfl rfl rfl rfl [0, 1, 2, 3, 4] rfl rfl ?_
              refine JT.only (i := 21) (d := some 78) rfl (MV.ofQV (v := .bool false) (QV.pickF rfl rfl)) rfl rfl rfl ?_
              rintro _ _ ⟨rfl, rfl⟩
              refine ⟨fun _ => ⟨[0, 1, 2, 3, 4], rfl, rfl⟩, ?_⟩
              refine JT.only (i := 22) (d := some 79) rfl (MV.ofQV (v := .bool false) (QV.move rfl)) rfl rfl rfl ?_
              rintro _ _ ⟨rfl, rfl⟩
              refine ⟨fun _ => ⟨[0, 1, 2, 3, 4], rfl, rfl⟩, ?_⟩
              refine JT.skip (i := 23) (d := some 80) hsel rfl rfl rfl rfl [0, 1, 2, 3, 4] rfl rfl ?_
              refine JT.skipO (i := 24) (d := some 81) rfl rfl rfl rfl [0, 1, 2, 3, 4] rfl rfl ?_
              refine JT.skipO (i := 25) (d := some 82) rfl rfl rfl rfl [0, 1, 2, 3, 4] rfl rfl ?_
              refine JT.skipO (i := 26) (d := some 83) rfl rfl rfl rfl [0, 1, 2, 3, 4] rfl rfl ?_
              refine JT.skipO (i := 27) (d := some 84) rfl rfl rfl rfl [0, 1, 2, 3, 4] rfl rfl ?_
              refine JT.only (i := 28) (d := some 85) rfl (MV.ofQV (v := .bool false) (QV.pickF rfl rfl)) rfl rfl rfl ?_
              rintro _ _ ⟨rfl, rfl⟩
              refine ⟨fun _ => ⟨[0, 1, 2, 3, 4], rfl, rfl⟩, ?_⟩
              refine JT.only (i := 29) (d := some 86) rfl (MV.ofQV (v := .bool false) (QV.move rfl)) rfl rfl rfl ?_
              rintro _ _ ⟨rfl, rfl⟩
              refine ⟨fun _ => ⟨[0, 1, 2, 3, 4], rfl, rfl⟩, ?_⟩
              refine JT.skipO (i := 30) (d := some 87) rfl rfl rfl rfl [0, 1, 2, 3, 4] rfl rfl ?_
              refine JT.only (i := 31) (d := some 88) rfl (MV.ofQV (v := .bool false) (QV.pickF rfl rfl)) rfl rfl rfl ?_
              rintro _ _ ⟨rfl, rfl⟩
              refine ⟨fun _ => ⟨[0, 1, 2, 3, 4], rfl, rfl⟩, ?_⟩
              refine JT.only (i := 32) (d := some 4) rfl (MV.ofQV (v := .bool false) (QV.assign rfl)) rfl rfl rfl ?_
              rintro _ _ ⟨rfl, rfl⟩
              refine ⟨fun _ => ⟨[0, 1, 2, 3, 4], rfl, rfl⟩, ?_⟩
              refine JT.nil ?_
              refine QJ.then_normal ?_
              refine JC.ret ?_
              obtain rfl := Option.some.inj hm
              exact QJ.body (vs := [.bool false]) (.inl rfl) rfl (ResVs.cons (ResV.tmp rfl) ResVs.nil) [] rfl rfl (.inr trivial) ⟨rfl, rfl⟩
          ·
            refine JT.only (i := 9) (d := some 66) rfl (MV.ofQV (v := .bool false) (QV.eq (QV.move rfl) (congrArg Value.bool (bfalse h40)))) rfl rfl rfl ?_
            rintro _ _ ⟨rfl, rfl⟩
            refine ⟨fun _ => ⟨[0, 1, 2, 3, 4], rfl, rfl⟩, ?_⟩
            refine JT.skip (i := 10) (d := some 67) hsel rfl rfl rfl rfl [0, 1, 2, 3, 4] rfl rfl ?_
            refine JT.skip (i := 11) (d := some 68) hsel rfl rfl rfl rfl [0, 1, 2, 3, 4] rfl rfl ?_
            refine JT.skip (i := 12) (d := some 69) hsel rfl rfl rfl rfl [0, 1, 2, 3, 4] rfl rfl ?_
            refine JT.skip (i := 14) (d := some 71) hsel rfl rfl rfl rfl [0, 1, 2, 3, 4] rfl rfl ?_
            refine JT.skip (i := 15) (d := some 72) hsel rfl rfl rfl rfl [0, 1, 2, 3, 4] rfl rfl ?_
            refine JT.skipO (i := 13) (d := some 70) rfl rfl rfl rfl [0, 1, 2, 3, 4] rfl rfl ?_
            refine JT.skipO (i := 16) (d := some 73) rfl rfl rfl rfl [0, 1, 2, 3, 4] rfl rfl ?_
            refine JT.only (i := 17) (d := some 74) rfl (MV.ofQV (v := .bool false) (QV.pickF rfl rfl)) rfl rfl rfl ?_
            rintro _ _ ⟨rfl, rfl⟩
            refine ⟨fun _ => ⟨[0, 1, 2, 3, 4], rfl, rfl⟩, ?_⟩
            refine JT.only (i := 18) (d := some 75) rfl (MV.ofQV (v := .bool false) (QV.move rfl)) rfl rfl rfl ?_
            rintro _ _ ⟨rfl, rfl⟩
            refine ⟨fun _ => ⟨[0, 1, 2, 3, 4], rfl, rfl⟩, ?_⟩
            refine JT.skipO (i := 19) (d := some 76) rfl rfl rfl rfl [0, 1, 2, 3, 4] rfl rfl ?_
            refine JT.skipO (i := 20) (d := some 77) rfl rfl rfl rfl [0, 1, 2, 3, 4] rfl rfl ?_
            refine JT.only (i := 21) (d := some 78) rfl (MV.ofQV (v := .bool false) (QV.pickF rfl rfl)) rfl rfl rfl ?_
            rintro _ _ ⟨rfl, rfl⟩
            refine ⟨fun _ => ⟨[0, 1, 2, 3, 4], rfl, rfl⟩, ?_⟩
            refine JT.only (i := 22) (d := some 79) rfl (MV.ofQV (v := .bool false) (QV.move rfl)) rfl rfl rfl ?_
            rintro _ _ ⟨rfl, rfl⟩
            refine ⟨fun _ => ⟨[0, 1, 2, 3, 4], rfl, rfl⟩, ?_⟩
            refine JT.skip (i := 23) (d := some 80) hsel rfl rfl rfl rfl [0, 1, 2, 3, 4] rfl rfl ?_
            refine JT.skipO (i := 24) (d := some 81) rfl rfl rfl rfl [0, 1, 2, 3, 4] rfl rfl ?_
            refine JT.skipO (i := 25) (d := some 82) rfl rfl rfl rfl [0, 1, 2, 3, 4] rfl rfl ?_
            refine JT.skipO (i := 26) (d := some 83) rfl rfl rfl rfl [0, 1, 2, 3, 4] rfl rfl ?_
            refine JT.skipO (i := 27) (d := some 84) rfl rfl rfl rfl [0, 1, 2, 3, 4] rfl rfl ?_
            refine JT.only (i := 28) (d := some 85) rfl (MV.ofQV (v := .bool false) (QV.pickF rfl rfl)) rfl rfl rfl ?_
            rintro _ _ ⟨rfl, rfl⟩
            refine ⟨fun _ => ⟨[0, 1, 2, 3, 4], rfl, rfl⟩, ?_⟩
            refine JT.only (i := 29) (d := some 86) rfl (MV.ofQV (v := .bool false) (QV.move rfl)) rfl rfl rfl ?_
            rintro _ _ ⟨rfl, rfl⟩
            refine ⟨fun _ => ⟨[0, 1, 2, 3, 4], rfl, rfl⟩, ?_⟩
            refine JT.skipO (i := 30) (d := some 87) rfl rfl rfl rfl [0, 1, 2, 3, 4] rfl rfl ?_
            refine JT.only (i := 31) (d := some 88) rfl (MV.ofQV (v := .bool false) (QV.pickF rfl rfl)) rfl rfl rfl ?_
            rintro _ _ ⟨rfl, rfl⟩
            refine ⟨fun _ => ⟨[0, 1, 2, 3, 4], rfl, rfl⟩, ?_⟩
            refine JT.only (i := 32) (d := some 4) rfl (MV.ofQV (v := .bool false) (QV.assign rfl)) rfl rfl rfl ?_
            rintro _ _ ⟨rfl, rfl⟩
            refine ⟨fun _ => ⟨[0, 1, 2, 3, 4], rfl, rfl⟩, ?_⟩
            refine JT.nil ?_
            refine QJ.then_normal ?_
            refine JC.ret ?_
            obtain rfl := Option.some.inj hm
            exact QJ.body (vs := [.bool false]) (.inl rfl) rfl (ResVs.cons (ResV.tmp rfl) ResVs.nil) [] rfl rfl (.inr trivial) ⟨rfl, rfl⟩
        ·
          refine JT.only (i := 2) (d := some 59) rfl (MV.ofQV (v := .bool false) (QV.eq (QV.move rfl) (congrArg Value.bool (decide_eq_false h34)))) rfl rfl rfl ?_
          rintro _ _ ⟨rfl, rfl⟩
          refine ⟨fun _ => ⟨[0, 1, 2, 3], rfl, rfl⟩, ?_⟩
          refine JT.skip (i := 3) (d := some 60) hsel rfl rfl rfl rfl [0, 1, 2, 3] rfl rfl ?_
          refine JT.skip (i := 4) (d := some 61) hsel rfl rfl rfl rfl [0, 1, 2, 3] rfl rfl ?_
          refine JT.skipO (i := 5) (d := some 62) rfl rfl rfl rfl [0, 1, 2, 3] rfl rfl ?_
          refine JT.skipO (i := 6) (d := some 63) rfl rfl rfl rfl [0, 1, 2, 3] rfl rfl ?_
          refine JT.skipO (i := 7) (d := some 64) rfl rfl rfl rfl [0, 1, 2, 3] rfl rfl ?_
          refine JT.only (i := 8) (d := some 65) rfl (MV.ofQV (v := .bool false) (QV.pickF rfl rfl)) rfl rfl rfl ?_
          rintro _ _ ⟨rfl, rfl⟩
          refine ⟨fun _ => ⟨[0, 1, 2, 3], rfl, rfl⟩, ?_⟩
          refine JT.only (i := 9) (d := some 66) rfl (MV.ofQV (v := .bool false) (QV.move rfl)) rfl rfl rfl ?_
          rintro _ _ ⟨rfl, rfl⟩
          refine ⟨fun _ => ⟨[0, 1, 2, 3], rfl, rfl⟩, ?_⟩
          refine JT.skip (i := 10) (d := some 67) hsel rfl rfl rfl rfl [0, 1, 2, 3] rfl rfl ?_
          refine JT.skip (i := 11) (d := some 68) hsel rfl rfl rfl rfl [0, 1, 2, 3] rfl rfl ?_
          refine JT.skip (i := 12) (d := some 69) hsel rfl rfl rfl rfl [0, 1, 2, 3] rfl rfl ?_
          refine JT.skip (i := 14) (d := some 71) hsel rfl rfl rfl rfl [0, 1, 2, 3] rfl rfl ?_
          refine JT.skip (i := 15) (d := some 72) hsel rfl rfl rfl rfl [0, 1, 2, 3] rfl rfl ?_
          refine JT.skipO (i := 13) (d := some 70) rfl rfl rfl rfl [0, 1, 2, 3] rfl rfl ?_
          refine JT.skipO (i := 16) (d := some 73) rfl rfl rfl rfl [0, 1, 2, 3] rfl rfl ?_
          refine JT.only (i := 17) (d := some 74) rfl (MV.ofQV (v := .bool false) (QV.pickF rfl rfl)) rfl rfl rfl ?_
          rintro _ _ ⟨rfl, rfl⟩
          refine ⟨fun _ => ⟨[0, 1, 2, 3], rfl, rfl⟩, ?_⟩
          refine JT.only (i := 18) (d := some 75) rfl (MV.ofQV (v := .bool false) (QV.move rfl)) rfl rfl rfl ?_
          rintro _ _ ⟨rfl, rfl⟩
          refine ⟨fun _ => ⟨[0, 1, 2, 3], rfl, rfl⟩, ?_⟩
          refine JT.skipO (i := 19) (d := some 76) rfl rfl rfl rfl [0, 1, 2, 3] rfl rfl ?_
          refine JT.skipO (i := 20) (d := some 77) rfl rfl rfl rfl [0, 1, 2, 3] rfl rfl ?_
          refine JT.only (i := 21) (d := some 78) rfl (MV.ofQV (v := .bool false) (QV.pickF rfl rfl)) rfl rfl rfl ?_
          rintro _ _ ⟨rfl, rfl⟩
          refine ⟨fun _ => ⟨[0, 1, 2, 3], rfl, rfl⟩, ?_⟩
          refine JT.only (i := 22) (d := some 79) rfl (MV.ofQV (v := .bool false) (QV.move rfl)) rfl rfl rfl ?_
          rintro _ _ ⟨rfl, rfl⟩
          refine ⟨fun _ => ⟨[0, 1, 2, 3], rfl, rfl⟩, ?_⟩
          refine JT.skip (i := 23) (d := some 80) hsel rfl rfl rfl rfl [0, 1, 2, 3] rfl rfl ?_
          refine JT.skipO (i := 24) (d := some 81) rfl rfl rfl rfl [0, 1, 2, 3] rfl rfl ?_
          refine JT.skipO (i := 25) (d := some 82) rfl rfl rfl rfl [0, 1, 2, 3] rfl rfl ?_
          refine JT.skipO (i := 26) (d := some 83) rfl rfl rfl rfl [0, 1, 2, 3] rfl rfl ?_
          refine JT.skipO (i := 27) (d := some 84) rfl rfl rfl rfl [0, 1, 2, 3] rfl rfl ?_
          refine JT.only (i := 28) (d := some 85) rfl (MV.ofQV (v := .bool false) (QV.pickF rfl rfl)) rfl rfl rfl ?_
          rintro _ _ ⟨rfl, rfl⟩
          refine ⟨fun _ => ⟨[0, 1, 2, 3], rfl, rfl⟩, ?_⟩
          refine JT.only (i := 29) (d := some 86) rfl (MV.ofQV (v := .bool false) (QV.move rfl)) rfl rfl rfl ?_
          rintro _ _ ⟨rfl, rfl⟩
          refine ⟨fun _ => ⟨[0, 1, 2, 3], rfl, rfl⟩, ?_⟩
          refine JT.skipO (i := 30) (d := some 87) rfl rfl rfl rfl [0, 1, 2, 3] rfl rfl ?_
          refine JT.only (i := 31) (d := some 88) rfl (MV.ofQV (v := .bool false) (QV.pickF rfl rfl)) rfl rfl rfl ?_
          rintro _ _ ⟨rfl, rfl⟩
          refine ⟨fun _ => ⟨[0, 1, 2, 3], rfl, rfl⟩, ?_⟩
          refine JT.only (i := 32) (d := some 4) rfl (MV.ofQV (v := .bool false) (QV.assign rfl)) rfl rfl rfl ?_
          rintro _ _ ⟨rfl, rfl⟩
          refine ⟨fun _ => ⟨[0, 1, 2, 3], rfl, rfl⟩, ?_⟩
          refine JT.nil ?_
          refine QJ.then_normal ?_
          refine JC.ret ?_
          obtain rfl := Option.some.inj hm
          exact QJ.body (vs := [.bool false]) (.inl rfl) rfl (ResVs.cons (ResV.tmp rfl) ResVs.nil) [] rfl rfl (.inr trivial) ⟨rfl, rfl⟩

end Go.Proofs.Ytmedbpiapeiobaa
