/- The statement BitsNil of the given rows: for every input the law returns true, and its arguments read as they did. The contract of the law is printed, what it computes is proved in YtpophpendlnehaaPureBitsNil. -/
import Derived.Test.YtpophpendlnehaaRows
import Derived.Test.YtpophpendlnehaaYBitsNil
import Derived.Test.YtpophpendlnehaaEngLaw
import Derived.Test.YtpophpendlnehaaPureBitsNil
import Derived.Test.YtpophpendlnehaaEngStr
import Derived.WalkKit
import Derived.ProofKit
import Derived.OpenShut
import Derived.ShutString
import Derived.ChangeOld
import Derived.Below
import Derived.SizedLaws
namespace Go.Proofs.Ytpophpendlnehaa.bitsNil
open Go Go.ChangeShapes Go.WideShapes Go.ChangeAt Go.RowKit Go.Eng
set_option linter.unusedVariables false

theorem own : ownKnob Try.prog.godebug = none := by kernel_rfl
theorem laidOut : laidOutB Try.prog = true := by kernel_rfl
set_option maxRecDepth 100000 in
theorem lifted (os : Os) (started : os.Started) (H : Type) (enc : TypeId × Value → H) :
    ReturnsInHanded {} Try.checked os 10 .any (Rows.bitsNilSpec.pre6 enc Try.prog Try.f10 Rows.bitsNilRow.domain false) (Rows.bitsNilSpec.post enc Try.prog Try.f10 false true false false) := by
  refine returnsInHanded_of_change (C := Try.checked) own started (by kernel_rfl) Try.func10
    (ChangeSpec.witness6 (enc := enc) (C := Try.checked) false ⟨#[], #[.agg #[.int .i64 0, .int .i64 0, .int .u32 0, .slice none 0 0]], []⟩ 8 (by kernel_rfl) (by kernel_rfl) (by kernel_rfl) (by kernel_rfl)) ?_
  intro W base args ds gs before hval0 hW hcnd _
  have hval : ∀ (j : Nat) t v, Try.f10.params[j]? = some t → args[j]? = some v → Value.okWide Try.prog W .any base t v := hval0
  have hW' := hW
  obtain ⟨p, q, hA0, hV, rfl, hfz, hnd⟩ := hW
  have hA : DataW.TrodAll enc Try.prog W 0 (fun _ => true) true Try.f10.params.toList args.toList ds p := hA0
  rw [Try.params10] at hA hval
  obtain ⟨v0, vs0, d0, ds0, p0, q0, hargs, rfl, rfl, h0, r0⟩ := trodAll_cons hA
  obtain ⟨rfl, rfl, rfl⟩ := trodAll_nil r0
  obtain rfl : args = #[v0] := by cases args; simp_all
  obtain ⟨rfl, rfl⟩ := trodVars_none hV
  have k0 := h0
  have lt0 : ∀ x ∈ p0, x.block < W.heap.size := by obtain ⟨m, hm⟩ := k0; exact DataW.trod_lt m _ _ _ hm
  obtain ⟨z0, a0, rfl, n0, w0⟩ := open_agn (K := (NE.pair (NE.flat (Enc.int .i64)) (NE.pair (NE.flat (Enc.int .i64)) (NE.pair (NE.flat (Enc.int .u32)) (NE.sl (Enc.int .u8)))))) (by rw [tk_44]; rfl) (OpN.struct (K := (NE.pair (NE.flat (Enc.int .i64)) (NE.pair (NE.flat (Enc.int .i64)) (NE.pair (NE.flat (Enc.int .u32)) (NE.sl (Enc.int .u8)))))) Try.underlying44 (by kernel_rfl) (OpNs.cons (A := (NE.flat (Enc.int .i64))) rfl (by kernel_rfl) (OpN.flat (Op1.int Try.underlying3)) (OpNs.cons (A := (NE.flat (Enc.int .i64))) rfl (by kernel_rfl) (OpN.flat (Op1.int Try.underlying3)) (OpNs.cons (A := (NE.flat (Enc.int .u32))) rfl (by kernel_rfl) (OpN.flat (Op1.int Try.underlying42)) (OpNs.one (K := (NE.sl (Enc.int .u8))) rfl (by kernel_rfl) (OpN.sl (E := (Enc.int .u8)) Try.underlying26 (by kernel_rfl) (by decide) (Op1.int Try.underlying5))))))) (hval 0 44 v0 rfl rfl) h0
  clear hA0 hval0
  refine (law_calls (F10.spec (z0.2.2.2) (a0.1) (a0.2.1) (a0.2.2.1) (a0.2.2.2) true (pure_BitsNil a0 w0)) ⟨n0.2.2.2, trivial⟩).mono fun e W' ⟨he, bel⟩ => ?_
  subst he
  exact ⟨_, rfl, _, _, _, [], _, [], hW', trodAll_mk1 (shut_bool Try.underlying4 _), (trodAll_cons_mk (Below.trod laidOut (by kernel_rfl) (of_decide_eq_true (by kernel_rfl)) k0 bel lt0) trodAll_mk0), rfl, bel.frame _, fun h => by cases h⟩
theorem over : Rows.bitsNilRow.holds Try.pinned (OpenSpec.ofChange Rows.bitsNilSpec) :=
  OpenClaim.holds_of_wide 10 Try.f10 rfl rfl rfl rfl rfl rfl rfl ⟨rfl, rfl, rfl, rfl, rfl⟩ rfl rfl rfl rfl rfl (by kernel_rfl) Try.func10 (by kernel_rfl)
    (of_decide_eq_true (by kernel_rfl)) (by unfold Func.isWrapper; first | (rw [if_pos (by decide +kernel)]; kernel_rfl) | (rw [if_neg (by decide +kernel)]; exact ⟨rfl, rfl⟩))
    (fun os started H enc _ => lifted os started H enc)
theorem proved : Rows.BitsNilSaid := over
end Go.Proofs.Ytpophpendlnehaa.bitsNil
namespace Go.Proofs.Ytpophpendlnehaa
/-- The row, under a short name, for the claim. -/
theorem bitsNil_holds : Rows.BitsNilSaid := bitsNil.proved
#print axioms bitsNil_holds
end Go.Proofs.Ytpophpendlnehaa
