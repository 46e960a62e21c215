/- What LimitRight needs. -/
import Derived.Test.YtgganckggdjpaaaYLimitRight
import Derived.Test.YtgganckggdjpaaaPureLimA
import Derived.Test.YtgganckggdjpaaaPureLimC
import Derived.Test.YtgganckggdjpaaaPurePm5
set_option linter.unusedVariables false
set_option linter.unusedSimpArgs false
namespace Go.Proofs.Ytgganckggdjpaaa
open Go Go.Eng Go.Proofs
theorem F24_F25 (w l : List Int) (h : w.length ≤ 400) : F24.m w l = F25.m w l ∧ ∃ r, F25.m w l = some r := by
  rw [F24_is _ _ h, F25_is _ _ h]; exact ⟨rfl, _, rfl⟩
theorem F20_bad (w : List Int) (most : Int) (h : most < 1 ∨ 15 < most ∨ 300 < w.length) : F20.m w most = some ([], 1) := by
  unfold F20.m
  by_cases h1 : most < 1
  · rw [if_pos h1]
  · rw [if_neg h1]
    by_cases h2 : 15 < most
    · rw [if_pos h2]
    · rw [if_neg h2, if_pos (by omega)]
theorem pure_LimitRight (a0 : (List Int)) (a1 : Int) (w0 : ∀ x ∈ a0, InR .u32 x) (m0 : a0.length ≤ maxLen) (w1 : InR .i64 a1) :
    F6.m a0 a1 = some true := by
  unfold F6.m
  by_cases h1 : (400 : Int) < (a0.length : Int)
  · rw [if_pos h1, lim_awake]; rfl
  rw [if_neg h1]
  by_cases hb : a1 < 1 ∨ 15 < a1 ∨ 300 < a0.length
  · rw [F20_bad a0 a1 hb, Option.bind_some]
    by_cases h2 : a1 < 1
    · rw [if_pos h2, lim_awake]; rfl
    · rw [if_neg h2]
      by_cases h3 : 15 < a1
      · rw [if_pos h3, lim_awake]; rfl
      · rw [if_neg h3, if_pos (by omega), lim_awake]; rfl
  · obtain ⟨most, rfl⟩ := nat_of (show 0 ≤ a1 by omega)
    have hcl := coins_len a0 a0.length
    rcases F20_right a0 w0 (by omega) most (by omega) (by omega) with ⟨h2, h3⟩ | ⟨h2, l, h3, h4⟩
    · rw [h3, Option.bind_some, if_neg (by omega), if_neg (by omega), if_neg (by omega), F22_is a0 w0 (by omega), Option.bind_some, F21_is _ _ (by omega) (by omega), Option.bind_some, if_neg (by simp; omega), lim_awake]
      rfl
    · rw [h3, Option.bind_some, if_neg (by omega), if_neg (by omega), if_neg (by omega), F22_is a0 w0 (by omega), Option.bind_some, F21_is _ _ (by omega) (by omega), Option.bind_some, if_pos (by simp; omega), if_pos rfl]
      have hll := h4.len
      simp only
      rw [if_pos (by omega), h4.may, Option.bind_some, if_pos rfl]
      have hloop : loop (F6.b1 a0 (most : Int) (l, (0 : Int))) (0 : Int) = some (.inr ()) := by
        refine loop_done (fun k => (k : Int)) l.length _ (fun k hk => ?_) ?_ rfl
        · have he := h4.each k (by omega)
          unfold F6.b1
          dsimp only
          rw [if_pos (by omega), if_pos (by omega), if_pos (by omega), if_pos (by
            have : decide ((0 : Int) < gd l (k : Int)) = decide ((0 : Int) < gd a0 (k : Int)) := decide_eq_decide.2 he.2.2
            rw [this]; simp), w64 (by omega) (by omega), if_neg (by omega), wp1 k (by omega)]
        · unfold F6.b1
          dsimp only
          rw [if_neg (by omega)]
      rw [hloop, Option.bind_some]
      dsimp only
      unfold F6.j1
      obtain ⟨e, r, hr⟩ := F24_F25 a0 l (by omega)
      simp only [e, hr, Option.bind_some]
      rw [if_pos trivial, lim_awake]
      rfl
end Go.Proofs.Ytgganckggdjpaaa
