/- The statement ImageWrong of the given rows: for every input the law returns true, and its arguments read as they did. The contract of the law is printed, what it computes is proved in YtgganckggdjpaaaPureImageWrong. -/
import Derived.Test.YtgganckggdjpaaaRows
import Derived.Test.YtgganckggdjpaaaYImageWrong
import Derived.Test.YtgganckggdjpaaaEngLaw
import Derived.Test.YtgganckggdjpaaaPureImageWrong
import Derived.Test.YtgganckggdjpaaaEngStr
import Derived.WalkKit
import Derived.ProofKit
import Derived.OpenShut
import Derived.ShutString
import Derived.ChangeOld
import Derived.Below
import Derived.SizedLaws
namespace Go.Proofs.Ytgganckggdjpaaa.imageWrong
open Go Go.ChangeShapes Go.WideShapes Go.ChangeAt Go.RowKit Go.Eng
set_option linter.unusedVariables false
theorem tk_49 : tk Try.prog 49 = some (true, 8) := by kernel_rfl
theorem own : ownKnob Try.prog.godebug = none := by kernel_rfl
theorem laidOut : laidOutB Try.prog = true := by kernel_rfl
set_option maxRecDepth 100000 in
theorem lifted (os : Os) (started : os.Started) (H : Type) (enc : TypeId × Value → H) :
    ReturnsInHanded {} Try.checked os 10 .any (Rows.imageWrongSpec.pre6 enc Try.prog Try.f10 Rows.imageWrongRow.domain false) (Rows.imageWrongSpec.post enc Try.prog Try.f10 false true false false) := by
  refine returnsInHanded_of_change (C := Try.checked) own started (by kernel_rfl) Try.func10
    (ChangeSpec.witness6 (enc := enc) (C := Try.checked) false ⟨#[], #[.agg #[.int .i64 0, .int .i64 0, .int .i64 0], .int .i64 0, .int .i64 0, .agg #[.int .i64 0, .int .i64 0, .int .i64 0, .int .i64 0, .int .i64 0, .int .u8 0, .slice none 0 0, .slice none 0 0]], []⟩ 8 (by kernel_rfl) (by kernel_rfl) (by kernel_rfl) (by kernel_rfl)) ?_
  intro W base args ds gs before hval0 hW hcnd _
  have hval : ∀ (j : Nat) t v, Try.f10.params[j]? = some t → args[j]? = some v → Value.okWide Try.prog W .any base t v := hval0
  have hW' := hW
  obtain ⟨p, q, hA0, hV, rfl, hfz, hnd⟩ := hW
  have hA : DataW.TrodAll enc Try.prog W 0 (fun _ => true) true Try.f10.params.toList args.toList ds p := hA0
  rw [Try.params10] at hA hval
  obtain ⟨v0, vs0, d0, ds0, p0, q0, hargs, rfl, rfl, h0, r0⟩ := trodAll_cons hA
  obtain ⟨v1, vs1, d1, ds1, p1, q1, rfl, rfl, rfl, h1, r1⟩ := trodAll_cons r0
  obtain ⟨v2, vs2, d2, ds2, p2, q2, rfl, rfl, rfl, h2, r2⟩ := trodAll_cons r1
  obtain ⟨v3, vs3, d3, ds3, p3, q3, rfl, rfl, rfl, h3, r3⟩ := trodAll_cons r2
  obtain ⟨rfl, rfl, rfl⟩ := trodAll_nil r3
  obtain rfl : args = #[v0, v1, v2, v3] := by cases args; simp_all
  obtain ⟨rfl, rfl⟩ := trodVars_none hV
  have k0 := h0
  have lt0 : ∀ x ∈ p0, x.block < W.heap.size := by obtain ⟨m, hm⟩ := k0; exact DataW.trod_lt m _ _ _ hm
  obtain ⟨a0, rfl, w0⟩ := open_agg (E := (Enc.pair (Enc.int .i64) (Enc.pair (Enc.int .i64) (Enc.int .i64)))) (by rw [tk_47]; rfl) (Op1.struct (E := (Enc.pair (Enc.int .i64) (Enc.pair (Enc.int .i64) (Enc.int .i64)))) Try.underlying47 (by kernel_rfl) (OpFs.cons (A := (Enc.int .i64)) rfl (by kernel_rfl) (Op1.int Try.underlying3) (OpFs.cons (A := (Enc.int .i64)) rfl (by kernel_rfl) (Op1.int Try.underlying3) (OpFs.one (E := (Enc.int .i64)) rfl (by kernel_rfl) (Op1.int Try.underlying3))))) (hval 0 47 v0 rfl rfl) h0
  have k1 := h1
  have lt1 : ∀ x ∈ p1, x.block < W.heap.size := by obtain ⟨m, hm⟩ := k1; exact DataW.trod_lt m _ _ _ hm
  obtain ⟨a1, e1, w1⟩ := open_one (E := (Enc.int .i64)) (by rw [tk_3]; rfl) (Op1.int Try.underlying3) (hval 1 3 v1 rfl rfl) h1
  obtain rfl : v1 = Value.int .i64 a1 := (List.cons.inj e1).1
  have k2 := h2
  have lt2 : ∀ x ∈ p2, x.block < W.heap.size := by obtain ⟨m, hm⟩ := k2; exact DataW.trod_lt m _ _ _ hm
  obtain ⟨a2, e2, w2⟩ := open_one (E := (Enc.int .i64)) (by rw [tk_3]; rfl) (Op1.int Try.underlying3) (hval 2 3 v2 rfl rfl) h2
  obtain rfl : v2 = Value.int .i64 a2 := (List.cons.inj e2).1
  have k3 := h3
  have lt3 : ∀ x ∈ p3, x.block < W.heap.size := by obtain ⟨m, hm⟩ := k3; exact DataW.trod_lt m _ _ _ hm
  obtain ⟨z3, a3, rfl, n3, w3⟩ := open_agn (K := (NE.pair (NE.flat (Enc.int .i64)) (NE.pair (NE.flat (Enc.int .i64)) (NE.pair (NE.flat (Enc.int .i64)) (NE.pair (NE.flat (Enc.int .i64)) (NE.pair (NE.flat (Enc.int .i64)) (NE.pair (NE.flat (Enc.int .u8)) (NE.pair (NE.sl (Enc.int .u8)) (NE.sl (Enc.int .u8)))))))))) (by rw [tk_49]; rfl) (OpN.struct (K := (NE.pair (NE.flat (Enc.int .i64)) (NE.pair (NE.flat (Enc.int .i64)) (NE.pair (NE.flat (Enc.int .i64)) (NE.pair (NE.flat (Enc.int .i64)) (NE.pair (NE.flat (Enc.int .i64)) (NE.pair (NE.flat (Enc.int .u8)) (NE.pair (NE.sl (Enc.int .u8)) (NE.sl (Enc.int .u8)))))))))) Try.underlying49 (by kernel_rfl) (OpNs.cons (A := (NE.flat (Enc.int .i64))) rfl (by kernel_rfl) (OpN.flat (Op1.int Try.underlying3)) (OpNs.cons (A := (NE.flat (Enc.int .i64))) rfl (by kernel_rfl) (OpN.flat (Op1.int Try.underlying3)) (OpNs.cons (A := (NE.flat (Enc.int .i64))) rfl (by kernel_rfl) (OpN.flat (Op1.int Try.underlying3)) (OpNs.cons (A := (NE.flat (Enc.int .i64))) rfl (by kernel_rfl) (OpN.flat (Op1.int Try.underlying3)) (OpNs.cons (A := (NE.flat (Enc.int .i64))) rfl (by kernel_rfl) (OpN.flat (Op1.int Try.underlying3)) (OpNs.cons (A := (NE.flat (Enc.int .u8))) rfl (by kernel_rfl) (OpN.flat (Op1.int Try.underlying5)) (OpNs.cons (A := (NE.sl (Enc.int .u8))) rfl (by kernel_rfl) (OpN.sl (E := (Enc.int .u8)) Try.underlying34 (by kernel_rfl) (by decide) (Op1.int Try.underlying5)) (OpNs.one (K := (NE.sl (Enc.int .u8))) rfl (by kernel_rfl) (OpN.sl (E := (Enc.int .u8)) Try.underlying34 (by kernel_rfl) (by decide) (Op1.int Try.underlying5))))))))))) (hval 3 49 v3 rfl rfl) h3
  clear hA0 hval0
  refine (law_calls (F10.spec (z3.2.2.2.2.2.2.1) (z3.2.2.2.2.2.2.2) (a0.1) (a0.2.1) (a0.2.2) a1 a2 (a3.1) (a3.2.1) (a3.2.2.1) (a3.2.2.2.1) (a3.2.2.2.2.1) (a3.2.2.2.2.2.1) (a3.2.2.2.2.2.2.1) (a3.2.2.2.2.2.2.2) true (pure_ImageWrong a0 a1 a2 a3 w0 w1 w2 w3)) ⟨n3.2.2.2.2.2.2.1, n3.2.2.2.2.2.2.2, trivial⟩).mono fun e W' ⟨he, bel⟩ => ?_
  subst he
  exact ⟨_, rfl, _, _, _, [], _, [], hW', trodAll_mk1 (shut_bool Try.underlying4 _), (trodAll_cons_mk (Below.trod laidOut (by kernel_rfl) (of_decide_eq_true (by kernel_rfl)) k0 bel lt0) (trodAll_cons_mk (Below.trod laidOut (by kernel_rfl) (of_decide_eq_true (by kernel_rfl)) k1 bel lt1) (trodAll_cons_mk (Below.trod laidOut (by kernel_rfl) (of_decide_eq_true (by kernel_rfl)) k2 bel lt2) (trodAll_cons_mk (Below.trod laidOut (by kernel_rfl) (of_decide_eq_true (by kernel_rfl)) k3 bel lt3) trodAll_mk0)))), rfl, bel.frame _, fun h => by cases h⟩
theorem over : Rows.imageWrongRow.holds Try.pinned (OpenSpec.ofChange Rows.imageWrongSpec) :=
  OpenClaim.holds_of_wide 10 Try.f10 rfl rfl rfl rfl rfl rfl rfl ⟨rfl, rfl, rfl, rfl, rfl⟩ rfl rfl rfl rfl rfl (by kernel_rfl) Try.func10 (by kernel_rfl)
    (of_decide_eq_true (by kernel_rfl)) (by unfold Func.isWrapper; first | (rw [if_pos (by decide +kernel)]; kernel_rfl) | (rw [if_neg (by decide +kernel)]; exact ⟨rfl, rfl⟩))
    (fun os started H enc _ => lifted os started H enc)
theorem proved : Rows.ImageWrongSaid := over
end Go.Proofs.Ytgganckggdjpaaa.imageWrong
namespace Go.Proofs.Ytgganckggdjpaaa
/-- The row, under a short name, for the claim. -/
theorem imageWrong_holds : Rows.ImageWrongSaid := imageWrong.proved
#print axioms imageWrong_holds
end Go.Proofs.Ytgganckggdjpaaa
