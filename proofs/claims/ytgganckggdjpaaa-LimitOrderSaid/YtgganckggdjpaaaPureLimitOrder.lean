/- What LimitOrder needs. -/
import Derived.Test.YtgganckggdjpaaaYLimitOrder
import Derived.Test.YtgganckggdjpaaaPureLimA
import Derived.Test.YtgganckggdjpaaaPurePm5
import Derived.Test.YtgganckggdjpaaaPureLimitRight
set_option linter.unusedVariables false
set_option linter.unusedSimpArgs false
namespace Go.Proofs.Ytgganckggdjpaaa
open Go Go.Eng Go.Proofs
theorem pure_LimitOrder (a0 : (List Int)) (a1 : Int) (w0 : ∀ x ∈ a0, InR .u32 x) (m0 : a0.length ≤ maxLen) (w1 : InR .i64 a1) :
    F8.m a0 a1 = some true := by
  unfold F8.m
  by_cases h1 : (60 : Int) < (a0.length : Int)
  · rw [if_pos h1, lim_awake]; rfl
  rw [if_neg h1]
  have hbad : ((some (([] : List Int), (1 : Int))).bind fun y8 => (if y8.2 = (0 : Int) then (if ((y8.1).length : Int) = ((a0).length : Int) then ((loop (F8.b1 a0 y8) (0 : Int)).bind fun y => match y with | .inl r => some r | .inr _ => F8.j1) else some false) else (if ((y8.1).length : Int) = (0 : Int) then ((F19.m).bind fun y37 => some y37) else some false))) = some true := by
    rw [Option.bind_some, if_neg (by decide), if_pos (by simp), lim_awake]; rfl
  by_cases hb : a1 < 1 ∨ 15 < a1 ∨ 300 < a0.length
  · rw [F20_bad a0 a1 hb]
    exact hbad
  · obtain ⟨most, rfl⟩ := nat_of (show 0 ≤ a1 by omega)
    rcases F20_right a0 w0 (by omega) most (by omega) (by omega) with ⟨h2, h3⟩ | ⟨h2, l, h3, h4⟩
    · rw [h3]; exact hbad
    · have hll := h4.len
      rw [h3, Option.bind_some, if_pos rfl]
      simp only
      rw [if_pos (by omega)]
      have hin : ∀ i, i < a0.length → loop (F8.b2 a0 (l, (0 : Int)) (i : Int)) (0 : Int) = some (.inr ()) := fun i hi => by
        refine loop_done (fun k => (k : Int)) l.length _ (fun k hk => ?_) ?_ rfl
        · have ho := h4.order i k hi (by omega)
          unfold F8.b2
          dsimp only
          unfold F8.j4
          rw [if_pos (by omega), if_pos (by omega), if_pos (by omega)]
          simp only [wp1 k (by omega)]
          by_cases c1 : gd a0 (k : Int) < gd a0 (i : Int)
          · rw [if_pos c1]
            by_cases c2 : 0 < gd a0 (k : Int)
            · have := ho c1 c2
              rw [if_pos c2, if_pos (by omega), if_pos (by omega), if_neg (by omega)]
            · rw [if_neg c2]
          · rw [if_neg c1]
        · unfold F8.b2
          dsimp only
          rw [if_neg (by omega)]
      have hout : loop (F8.b1 a0 (l, (0 : Int))) (0 : Int) = some (.inr ()) := by
        refine loop_done (fun k => (k : Int)) l.length _ (fun k hk => ?_) ?_ rfl
        · unfold F8.b1
          dsimp only
          rw [if_pos (by omega), hin k (by omega), Option.bind_some]
          dsimp only
          unfold F8.j3 F8.j2
          rw [wp1 k (by omega)]
        · unfold F8.b1
          dsimp only
          rw [if_neg (by omega)]
      rw [hout, Option.bind_some]
      dsimp only
      unfold F8.j1
      rw [lim_awake]
      rfl
end Go.Proofs.Ytgganckggdjpaaa
