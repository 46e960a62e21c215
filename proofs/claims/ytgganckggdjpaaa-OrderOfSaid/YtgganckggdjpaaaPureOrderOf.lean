/- What OrderOf needs. -/
import Derived.Test.YtgganckggdjpaaaPureOrdF
import Derived.Test.YtgganckggdjpaaaYOrderOf
import Derived.Test.YtgganckggdjpaaaEngLaw
set_option linter.unusedVariables false
set_option linter.unusedSimpArgs false
namespace Go.Proofs.Ytgganckggdjpaaa
open Go Go.Eng Go.Proofs
theorem pure_OrderOf (a0 : List (List Int)) (w0 : ∀ x ∈ a0, ((∀ y ∈ x, InR .i64 y) ∧ (x).length ≤ maxLen)) (m0 : a0.length ≤ maxLen) :
    F4.m a0 = some true := by
  unfold F4.m
  obtain ⟨r, hr, hg⟩ := great11 a0 m0
  rw [hr, Option.bind_some]
  by_cases c : r = true
  · rw [if_pos c, awake12]; rfl
  rw [if_neg c]
  obtain ⟨g1, g2⟩ := hg (by simpa using c)
  rcases right15 a0 g1 g2 with ⟨hR, e⟩ | ⟨hR, e⟩
  · obtain ⟨N, h1, h2, h3⟩ := itr_end a0
    have hv := h3 N (Nat.le_refl _)
    have hlo := hv.lo
    have hlb := hv.lb
    rw [of13 a0 hR g1 g2 N h1 h2 h3, Option.bind_some, e, Option.bind_some, if_pos rfl, of16 a0 hR g1 g2 N h1 h2 h3, Option.bind_some, if_pos rfl, same17 _ (by simp only; omega), Option.bind_some, if_pos rfl, same17 _ (by simp only; omega), Option.bind_some, if_pos rfl]
    rcases right18 a0 (itr a0 N).1 (itr a0 N).2 g1 g2 (by omega) (by omega) with ⟨_, e1⟩ | ⟨hn, _⟩
    · rw [e1, Option.bind_some, if_pos rfl, awake12]; rfl
    · exact absurd (itr_RR a0 hR N h1 h2 h3) hn
  · have e13 : F13.m a0 = some ([], [], 3) := by
      unfold F13.m
      rcases turned39 a0 g1 g2 with ⟨h, _⟩ | ⟨_, e2⟩
      · exact absurd h hR
      · rw [e2, Option.bind_some, if_neg (by decide)]
    rw [e13, Option.bind_some, e, Option.bind_some, if_neg (by simp), if_pos (by decide), if_pos (by decide), if_pos rfl, awake12]
    rfl
end Go.Proofs.Ytgganckggdjpaaa
