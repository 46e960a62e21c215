/- What OrderRight needs. -/
import Derived.Test.YtgganckggdjpaaaPureOrdM
import Derived.Test.YtgganckggdjpaaaYOrderRight
import Derived.Test.YtgganckggdjpaaaEngLaw
set_option linter.unusedVariables false
set_option linter.unusedSimpArgs false
namespace Go.Proofs.Ytgganckggdjpaaa
open Go Go.Eng Go.Proofs
theorem pure_OrderRight (a0 : List (List Int)) (a1 a2 : List Int) (w0 : ∀ x ∈ a0, ((∀ y ∈ x, InR .i64 y) ∧ (x).length ≤ maxLen)) (m0 : a0.length ≤ maxLen) (w1 : ∀ x ∈ a1, InR .i64 x) (m1 : a1.length ≤ maxLen) (w2 : ∀ x ∈ a2, InR .i64 x) (m2 : a2.length ≤ maxLen) :
    F5.m a0 a1 a2 = some true := by
  unfold F5.m
  obtain ⟨r, hr, hg⟩ := great11 a0 m0
  rw [hr, Option.bind_some]
  by_cases c : r = true
  · rw [if_pos c, awake12]; rfl
  rw [if_neg c]
  obtain ⟨g1, g2⟩ := hg (by simpa using c)
  by_cases c1 : (60 : Int) < (a1.length : Int)
  · rw [if_pos c1, awake12]; rfl
  rw [if_neg c1]
  by_cases c2 : (60 : Int) < (a2.length : Int)
  · rw [if_pos c2, awake12]; rfl
  rw [if_neg c2]
  rcases right18 a0 a1 a2 g1 g2 (by omega) (by omega) with ⟨h1, e1⟩ | ⟨h1, e1⟩ <;> rcases right14 a0 a1 a2 g1 g2 (by omega) (by omega) with ⟨h2, e2⟩ | ⟨h2, e2⟩
  · rw [e1, e2, Option.bind_some, Option.bind_some, if_pos (by decide), awake12]; rfl
  · exact absurd h1 h2
  · exact absurd h2 h1
  · rw [e1, e2, Option.bind_some, Option.bind_some, if_pos (by decide), awake12]; rfl
end Go.Proofs.Ytgganckggdjpaaa
