/- What PlanSources needs. -/
import Derived.Test.YtedokgdilpfomaaYPlanSources
import Derived.Test.YtedokgdilpfomaaPurePlK
set_option linter.unusedVariables false
set_option linter.unusedSimpArgs false
namespace Go.Proofs.Ytedokgdilpfomaa
open Go Go.Eng Go.Proofs
theorem pure_PlanSources (a0 : (List Int)) (a1 : Int) (a2 : Int) (w0 : ∀ x ∈ a0, InR .u8 x) (m0 : a0.length ≤ maxLen) (w1 : InR .i64 a1) (w2 : InR .i64 a2) :
    F4.m a0 a1 a2 = some true := by
  have h1 := inI64 w1
  have h2 := inI64 w2
  have e1 : F16_1.m [((2 : Int), (0 : Int), (1 : Int), ([] : List Int))] 1 = some ([], 5) := by
    simp [F16_1.m, F42.m, F42.b1, F42.j1, loop_eq, F16_1.b1, F43_1.m, F23.m, gd, IntKind.wrap, IntKind.bits, IntKind.signed]
  have e2 : F16_1.m [((1 : Int), (0 : Int), (1 : Int), [(7 : Int)])] 1 = some ([7], 0) := by
    simp [F16_1.m, F42.m, F42.b1, F42.j1, loop_eq, F16_1.b1, F16_1.j2, F16_1.j1, F43_1.m, F23.m, gd, IntKind.wrap, IntKind.bits, IntKind.signed]
  unfold F4.m
  by_cases c0 : (2000 : Int) < (a0.length : Int)
  · rw [if_pos c0, plan_awake]; rfl
  rw [if_neg c0, range18 a0 a1 a2 (by omega) h1]
  by_cases c1 : a1 < 0
  · rw [if_pos (.inl c1), Option.bind_some, if_pos c1, if_pos (by simp), if_pos rfl, plan_awake]; rfl
  by_cases c2 : a2 < 0
  · rw [if_pos (.inr (.inl c2)), Option.bind_some, if_neg c1, if_pos c2, if_pos (by simp), if_pos rfl, plan_awake]; rfl
  by_cases c3 : (a0.length : Int) < a1
  · rw [if_pos (.inr (.inr (.inl c3))), Option.bind_some, if_neg c1, if_neg c2, if_pos c3, if_pos (by simp), if_pos rfl, plan_awake]; rfl
  by_cases c4 : (a0.length : Int) - a1 < a2
  · rw [if_pos (.inr (.inr (.inr c4))), Option.bind_some, if_neg c1, if_neg c2, if_neg c3, w64 (n := (a0.length : Int) - a1) (by omega) (by omega), if_pos c4, if_pos (by simp), if_pos rfl, plan_awake]; rfl
  rw [if_neg (by omega), Option.bind_some, if_neg c1, if_neg c2, if_neg c3, w64 (n := (a0.length : Int) - a1) (by omega) (by omega), if_neg c4, if_pos rfl, w64 (n := a1 + a2) (by omega) (by omega), if_pos (by omega), if_pos rfl, e1, Option.bind_some, e2, Option.bind_some, if_pos rfl, if_pos rfl, if_pos (by decide), plan_awake]
  rfl
end Go.Proofs.Ytedokgdilpfomaa
