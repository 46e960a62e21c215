/- The statement MerkleBinds of the given rows: for every input the law returns true, and its arguments read as they did. The contract of the law is printed, what it computes is proved in YtmedbpiapeiobaaPureMerkleBinds. -/
import Derived.Test.YtmedbpiapeiobaaRows
import Derived.Test.YtmedbpiapeiobaaYMerkleBinds
import Derived.Test.YtmedbpiapeiobaaEngLaw
import Derived.Test.YtmedbpiapeiobaaPureMerkleBinds
import Derived.Test.YtmedbpiapeiobaaEngSized
import Derived.WalkKit
import Derived.ProofKit
import Derived.OpenShut
import Derived.ShutString
import Derived.ChangeOld
import Derived.Below
import Derived.SizedLaws
namespace Go.Proofs.Ytmedbpiapeiobaa.merkleBinds
open Go Go.ChangeShapes Go.WideShapes Go.ChangeAt Go.RowKit Go.Eng
set_option linter.unusedVariables false

theorem own : ownKnob Try.prog.godebug = none := by kernel_rfl
theorem laidOut : laidOutB Try.prog = true := by kernel_rfl
set_option maxRecDepth 100000 in
theorem lifted (os : Os) (started : os.Started) (H : Type) (enc : TypeId × Value → H) :
    ReturnsInHanded {} Try.checked os 15 .any (Rows.merkleBindsSpec.pre6 enc Try.prog Try.f15 Rows.merkleBindsRow.domain false) (Rows.merkleBindsSpec.post enc Try.prog Try.f15 false true false false) := by
  refine returnsInHanded_of_change_sized (C := Try.checked) own started (by kernel_rfl) Try.func15
    (ChangeSpec.witness6 (enc := enc) (C := Try.checked) false ⟨#[], #[.slice none 0 0, .agg #[.int .u8 0, .int .u8 0, .int .u8 0, .int .u8 0, .int .u8 0, .int .u8 0, .int .u8 0, .int .u8 0, .int .u8 0, .int .u8 0, .int .u8 0, .int .u8 0, .int .u8 0, .int .u8 0, .int .u8 0, .int .u8 0, .int .u8 0, .int .u8 0, .int .u8 0, .int .u8 0, .int .u8 0, .int .u8 0, .int .u8 0, .int .u8 0, .int .u8 0, .int .u8 0, .int .u8 0, .int .u8 0, .int .u8 0, .int .u8 0, .int .u8 0, .int .u8 0], .int .i64 0, .slice none 0 0], []⟩ 8 (by kernel_rfl) (by kernel_rfl) (by kernel_rfl) (by kernel_rfl)) ?_
  intro W base args ds gs before hval0 hW hcnd hsz0 _
  have hval : ∀ (j : Nat) t v, Try.f15.params[j]? = some t → args[j]? = some v → Value.okWide Try.prog W .any base t v := hval0
  have hW' := hW
  obtain ⟨p, q, hA0, hV, rfl, hfz, hnd⟩ := hW
  have hA : DataW.TrodAll enc Try.prog W 0 (fun _ => true) true Try.f15.params.toList args.toList ds p := hA0
  rw [Try.params15] at hA hval
  obtain ⟨v0, vs0, d0, ds0, p0, q0, hargs, rfl, rfl, h0, r0⟩ := trodAll_cons hA
  obtain ⟨v1, vs1, d1, ds1, p1, q1, rfl, rfl, rfl, h1, r1⟩ := trodAll_cons r0
  obtain ⟨v2, vs2, d2, ds2, p2, q2, rfl, rfl, rfl, h2, r2⟩ := trodAll_cons r1
  obtain ⟨v3, vs3, d3, ds3, p3, q3, rfl, rfl, rfl, h3, r3⟩ := trodAll_cons r2
  obtain ⟨rfl, rfl, rfl⟩ := trodAll_nil r3
  obtain rfl : args = #[v0, v1, v2, v3] := by cases args; simp_all
  obtain ⟨rfl, rfl⟩ := trodVars_none hV
  have k0 := h0
  have lt0 : ∀ x ∈ p0, x.block < W.heap.size := by obtain ⟨m, hm⟩ := k0; exact DataW.trod_lt m _ _ _ hm
  obtain ⟨s0, a0, rfl, hp0, w0, m0⟩ := open_sl (E := (Enc.arr 32 (Enc.int .u8))) Try.underlying55 (by kernel_rfl) (by decide) (Op1.arr (E := (Enc.int .u8)) Try.underlying39 (by kernel_rfl) (by kernel_rfl) (Op1.int Try.underlying5)) (hval 0 55 v0 rfl rfl) h0
  have k1 := h1
  have lt1 : ∀ x ∈ p1, x.block < W.heap.size := by obtain ⟨m, hm⟩ := k1; exact DataW.trod_lt m _ _ _ hm
  obtain ⟨a1, rfl, w1⟩ := open_agg (E := (Enc.arr 32 (Enc.int .u8))) (by rw [tk_39]; rfl) (Op1.arr (E := (Enc.int .u8)) Try.underlying39 (by kernel_rfl) (by kernel_rfl) (Op1.int Try.underlying5)) (hval 1 39 v1 rfl rfl) h1
  have k2 := h2
  have lt2 : ∀ x ∈ p2, x.block < W.heap.size := by obtain ⟨m, hm⟩ := k2; exact DataW.trod_lt m _ _ _ hm
  obtain ⟨a2, e2, w2⟩ := open_one (E := (Enc.int .i64)) (by rw [tk_3]; rfl) (Op1.int Try.underlying3) (hval 2 3 v2 rfl rfl) h2
  obtain rfl : v2 = Value.int .i64 a2 := (List.cons.inj e2).1
  have k3 := h3
  have lt3 : ∀ x ∈ p3, x.block < W.heap.size := by obtain ⟨m, hm⟩ := k3; exact DataW.trod_lt m _ _ _ hm
  obtain ⟨s3, a3, rfl, hp3, w3, m3⟩ := open_sl (E := (Enc.arr 32 (Enc.int .u8))) Try.underlying55 (by kernel_rfl) (by decide) (Op1.arr (E := (Enc.int .u8)) Try.underlying39 (by kernel_rfl) (by kernel_rfl) (Op1.int Try.underlying5)) (hval 3 55 v3 rfl rfl) h3
  have hsz : (DataW.weightsEach Try.prog [55, 39, 3, 55] [d0, d1, d2, d3]).all (fun x => decide (x ≤ reachBytes)) = true := by rw [Try.params15] at hsz0; exact hsz0
  have z0 : a0.length * 32 ≤ 140737488351232 := sl_weight Try.underlying55 h0 hp0 hsz 0 rfl rfl (by kernel_rfl : Try.prog.bytesOf 39 = 32)
  have z3 : a3.length * 32 ≤ 140737488351232 := sl_weight Try.underlying55 h3 hp3 hsz 3 rfl rfl (by kernel_rfl : Try.prog.bytesOf 39 = 32)
  clear hA0 hval0
  refine (law_calls (F15.spec s0 s3 a0 (a1) a2 a3 true (pure_MerkleBinds a0 a1 a2 a3 w0 m0 w1 w2 w3 m3 z0 z3)) ⟨hp0, hp3, trivial⟩).mono fun e W' ⟨he, bel⟩ => ?_
  subst he
  exact ⟨_, rfl, _, _, _, [], _, [], hW', trodAll_mk1 (shut_bool Try.underlying4 _), (trodAll_cons_mk (Below.trod laidOut (by kernel_rfl) (of_decide_eq_true (by kernel_rfl)) k0 bel lt0) (trodAll_cons_mk (Below.trod laidOut (by kernel_rfl) (of_decide_eq_true (by kernel_rfl)) k1 bel lt1) (trodAll_cons_mk (Below.trod laidOut (by kernel_rfl) (of_decide_eq_true (by kernel_rfl)) k2 bel lt2) (trodAll_cons_mk (Below.trod laidOut (by kernel_rfl) (of_decide_eq_true (by kernel_rfl)) k3 bel lt3) trodAll_mk0)))), rfl, bel.frame _, fun h => by cases h⟩
theorem over : Rows.merkleBindsRow.holds Try.pinned (OpenSpec.ofChange Rows.merkleBindsSpec) :=
  OpenClaim.holds_of_wide 15 Try.f15 rfl rfl rfl rfl rfl rfl rfl ⟨rfl, rfl, rfl, rfl, rfl⟩ rfl rfl rfl rfl rfl (by kernel_rfl) Try.func15 (by kernel_rfl)
    (of_decide_eq_true (by kernel_rfl)) (by unfold Func.isWrapper; first | (rw [if_pos (by decide +kernel)]; kernel_rfl) | (rw [if_neg (by decide +kernel)]; exact ⟨rfl, rfl⟩))
    (fun os started H enc _ => lifted os started H enc)
theorem proved : Rows.MerkleBindsSaid := over
end Go.Proofs.Ytmedbpiapeiobaa.merkleBinds
namespace Go.Proofs.Ytmedbpiapeiobaa
/-- The row, under a short name, for the claim. -/
theorem merkleBinds_holds : Rows.MerkleBindsSaid := merkleBinds.proved
#print axioms merkleBinds_holds
end Go.Proofs.Ytmedbpiapeiobaa
