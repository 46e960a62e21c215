/- The statement DeltaBlocks of the given rows: for every input the law returns true, and its arguments read as they did. The contract of the law is printed, what it computes is proved in YtedokgdilpfomaaPureDeltaBlocks. -/
import Derived.Test.YtedokgdilpfomaaRows
import Derived.Test.YtedokgdilpfomaaYDeltaBlocks
import Derived.Test.YtedokgdilpfomaaEngLaw
import Derived.Test.YtedokgdilpfomaaPureDeltaBlocks
import Derived.WalkKit
import Derived.ProofKit
import Derived.OpenShut
import Derived.ShutString
import Derived.ChangeOld
import Derived.Below
import Derived.SizedLaws
namespace Go.Proofs.Ytedokgdilpfomaa.deltaBlocks
open Go Go.ChangeShapes Go.WideShapes Go.ChangeAt Go.RowKit Go.Eng
set_option linter.unusedVariables false

theorem own : ownKnob Try.prog.godebug = none := by kernel_rfl
theorem laidOut : laidOutB Try.prog = true := by kernel_rfl
set_option maxRecDepth 100000 in
theorem lifted (os : Os) (started : os.Started) (H : Type) (enc : TypeId × Value → H) :
    ReturnsInHanded {} Try.checked os 13 .any (Rows.deltaBlocksSpec.pre6 enc Try.prog Try.f13 Rows.deltaBlocksRow.domain false) (Rows.deltaBlocksSpec.post enc Try.prog Try.f13 false true false false) := by
  refine returnsInHanded_of_change (C := Try.checked) own started (by kernel_rfl) Try.func13
    (ChangeSpec.witness6 (enc := enc) (C := Try.checked) false ⟨#[], #[.slice none 0 0, .int .i64 0, .int .i64 0, .int .i64 0], []⟩ 8 (by kernel_rfl) (by kernel_rfl) (by kernel_rfl) (by kernel_rfl)) ?_
  intro W base args ds gs before hval0 hW hcnd _
  have hval : ∀ (j : Nat) t v, Try.f13.params[j]? = some t → args[j]? = some v → Value.okWide Try.prog W .any base t v := hval0
  have hW' := hW
  obtain ⟨p, q, hA0, hV, rfl, hfz, hnd⟩ := hW
  have hA : DataW.TrodAll enc Try.prog W 0 (fun _ => true) true Try.f13.params.toList args.toList ds p := hA0
  rw [Try.params13] at hA hval
  obtain ⟨v0, vs0, d0, ds0, p0, q0, hargs, rfl, rfl, h0, r0⟩ := trodAll_cons hA
  obtain ⟨v1, vs1, d1, ds1, p1, q1, rfl, rfl, rfl, h1, r1⟩ := trodAll_cons r0
  obtain ⟨v2, vs2, d2, ds2, p2, q2, rfl, rfl, rfl, h2, r2⟩ := trodAll_cons r1
  obtain ⟨v3, vs3, d3, ds3, p3, q3, rfl, rfl, rfl, h3, r3⟩ := trodAll_cons r2
  obtain ⟨rfl, rfl, rfl⟩ := trodAll_nil r3
  obtain rfl : args = #[v0, v1, v2, v3] := by cases args; simp_all
  obtain ⟨rfl, rfl⟩ := trodVars_none hV
  have k0 := h0
  have lt0 : ∀ x ∈ p0, x.block < W.heap.size := by obtain ⟨m, hm⟩ := k0; exact DataW.trod_lt m _ _ _ hm
  obtain ⟨s0, a0, rfl, hp0, w0, m0⟩ := open_sl (E := (Enc.int .u8)) Try.underlying23 (by kernel_rfl) (by decide) (Op1.int Try.underlying5) (hval 0 23 v0 rfl rfl) h0
  have k1 := h1
  have lt1 : ∀ x ∈ p1, x.block < W.heap.size := by obtain ⟨m, hm⟩ := k1; exact DataW.trod_lt m _ _ _ hm
  obtain ⟨a1, e1, w1⟩ := open_one (E := (Enc.int .i64)) (by rw [tk_3]; rfl) (Op1.int Try.underlying3) (hval 1 3 v1 rfl rfl) h1
  obtain rfl : v1 = Value.int .i64 a1 := (List.cons.inj e1).1
  have k2 := h2
  have lt2 : ∀ x ∈ p2, x.block < W.heap.size := by obtain ⟨m, hm⟩ := k2; exact DataW.trod_lt m _ _ _ hm
  obtain ⟨a2, e2, w2⟩ := open_one (E := (Enc.int .i64)) (by rw [tk_3]; rfl) (Op1.int Try.underlying3) (hval 2 3 v2 rfl rfl) h2
  obtain rfl : v2 = Value.int .i64 a2 := (List.cons.inj e2).1
  have k3 := h3
  have lt3 : ∀ x ∈ p3, x.block < W.heap.size := by obtain ⟨m, hm⟩ := k3; exact DataW.trod_lt m _ _ _ hm
  obtain ⟨a3, e3, w3⟩ := open_one (E := (Enc.int .i64)) (by rw [tk_3]; rfl) (Op1.int Try.underlying3) (hval 3 3 v3 rfl rfl) h3
  obtain rfl : v3 = Value.int .i64 a3 := (List.cons.inj e3).1
  clear hA0 hval0
  refine (law_calls (F13.spec s0 a0 a1 a2 a3 true (pure_DeltaBlocks a0 a1 a2 a3 w0 m0 w1 w2 w3)) ⟨hp0, trivial⟩).mono fun e W' ⟨he, bel⟩ => ?_
  subst he
  exact ⟨_, rfl, _, _, _, [], _, [], hW', trodAll_mk1 (shut_bool Try.underlying4 _), (trodAll_cons_mk (Below.trod laidOut (by kernel_rfl) (of_decide_eq_true (by kernel_rfl)) k0 bel lt0) (trodAll_cons_mk (Below.trod laidOut (by kernel_rfl) (of_decide_eq_true (by kernel_rfl)) k1 bel lt1) (trodAll_cons_mk (Below.trod laidOut (by kernel_rfl) (of_decide_eq_true (by kernel_rfl)) k2 bel lt2) (trodAll_cons_mk (Below.trod laidOut (by kernel_rfl) (of_decide_eq_true (by kernel_rfl)) k3 bel lt3) trodAll_mk0)))), rfl, bel.frame _, fun h => by cases h⟩
theorem over : Rows.deltaBlocksRow.holds Try.pinned (OpenSpec.ofChange Rows.deltaBlocksSpec) :=
  OpenClaim.holds_of_wide 13 Try.f13 rfl rfl rfl rfl rfl rfl rfl ⟨rfl, rfl, rfl, rfl, rfl⟩ rfl rfl rfl rfl rfl (by kernel_rfl) Try.func13 (by kernel_rfl)
    (of_decide_eq_true (by kernel_rfl)) (by unfold Func.isWrapper; first | (rw [if_pos (by decide +kernel)]; kernel_rfl) | (rw [if_neg (by decide +kernel)]; exact ⟨rfl, rfl⟩))
    (fun os started H enc _ => lifted os started H enc)
theorem proved : Rows.DeltaBlocksSaid := over
end Go.Proofs.Ytedokgdilpfomaa.deltaBlocks
namespace Go.Proofs.Ytedokgdilpfomaa
/-- The row, under a short name, for the claim. -/
theorem deltaBlocks_holds : Rows.DeltaBlocksSaid := deltaBlocks.proved
#print axioms deltaBlocks_holds
end Go.Proofs.Ytedokgdilpfomaa
