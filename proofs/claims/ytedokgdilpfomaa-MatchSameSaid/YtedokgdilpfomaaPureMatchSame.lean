/- What MatchSame needs. -/
import Derived.Test.YtedokgdilpfomaaPureMatF
import Derived.Test.YtedokgdilpfomaaYMatchSame
set_option linter.unusedVariables false
set_option linter.unusedSimpArgs false
namespace Go.Proofs.Ytedokgdilpfomaa
open Go Go.Eng Go.Proofs
theorem pure_MatchSame (a0 : (List Int)) (w0 : ∀ x ∈ a0, InR .u8 x) (m0 : a0.length ≤ maxLen) :
    F8.m a0 = some true := by
  obtain ⟨l0, e0, _, _, h0, _⟩ := find_is [] [] (by simp) (by simp) (by simp) (by simp)
  have h0 := h0 rfl
  subst h0
  unfold F8.m
  by_cases h1 : (1000 : Int) < (a0.length : Int)
  · rw [if_pos h1, e0, Option.bind_some, if_pos (by simp), match_awake]; rfl
  rw [if_neg h1]
  by_cases h2 : (a0.length : Int) = 0
  · rw [if_pos h2, e0, Option.bind_some, if_pos (by simp), match_awake]; rfl
  rw [if_neg h2]
  have hu : ∀ x ∈ a0, 0 ≤ x ∧ x ≤ 255 := fun x hx => inU8 (w0 x hx)
  obtain ⟨l, e, _, _, _, h⟩ := find_is a0 a0 (by omega) (by omega) hu hu
  have h := h (fun h => h2 (by rw [h]; rfl)) rfl
  subst h
  rw [e, Option.bind_some, if_pos (by simp), if_pos (by simp)]
  exact (if_pos rfl).trans (by rw [match_awake]; rfl)
end Go.Proofs.Ytedokgdilpfomaa
