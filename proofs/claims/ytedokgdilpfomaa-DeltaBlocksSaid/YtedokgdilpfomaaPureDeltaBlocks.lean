/- What DeltaBlocks needs. -/
import Derived.Test.YtedokgdilpfomaaPureDelB
import Derived.Test.YtedokgdilpfomaaYDeltaBlocks
set_option linter.unusedVariables false
set_option linter.unusedSimpArgs false
namespace Go.Proofs.Ytedokgdilpfomaa
open Go Go.Eng Go.Proofs
theorem same21 (s t : Stp) (h : s = t) : F21.m [s] [t] = some true := by
  subst h
  unfold F21.m
  rw [if_pos rfl, loop_done (x := (0 : Int)) (fun k => (k : Int)) 1 (.inr ()) (fun k hk => ?_) ?_ rfl]
  · rfl
  · simp only [F21.b1]
    rw [if_neg (by simp)]
  · have : k = 0 := by omega
    subst this
    simp only [F21.b1]
    rw [if_pos (by simp), if_pos (by simp), if_pos (by simp), if_pos trivial, if_pos trivial, if_pos trivial, if_pos trivial, w64 (by omega) (by omega)]
    rfl
theorem pure_DeltaBlocks (a0 : (List Int)) (a1 : Int) (a2 : Int) (a3 : Int) (w0 : ∀ x ∈ a0, InR .u8 x) (m0 : a0.length ≤ maxLen) (w1 : InR .i64 a1) (w2 : InR .i64 a2) (w3 : InR .i64 a3) :
    F13.m a0 a1 a2 a3 = some true := by
  have h1 := inI64 w1
  have h2 := inI64 w2
  have h3 := inI64 w3
  unfold F13.m
  by_cases h0 : (5000 : Int) < (a0.length : Int)
  · rw [if_pos h0, delta_awake]; rfl
  rw [if_neg h0, blocks39 _ _ h1.2 h2.2, Option.bind_some, blocks36 _ _ h1.2 h2.2, Option.bind_some, if_pos rfl, block38 a0 a2 a3 (by omega) h2 h3.2, Option.bind_some, block37 a0 a2 a3 (by omega) h2 h3.2, Option.bind_some, if_pos rfl]
  have hm : ∀ d : Int, (d = if 128 ≤ a2 ∧ a2 ≤ 4096 then a2 + 12 else 0) → F41.m a2 = some d := by
    intro d hd
    unfold F41.m F58.m
    by_cases c : 128 ≤ a2
    · rw [if_pos c, Option.bind_some]
      by_cases c2 : a2 ≤ 4096
      · rw [if_pos (decide_eq_true c2), w64 (by omega) (by omega), hd, if_pos ⟨c, c2⟩]
      · rw [if_neg (by rw [decide_eq_true_iff]; exact c2), hd, if_neg (fun h => c2 h.2)]
    · rw [if_neg c, Option.bind_some, if_neg (by simp), hd, if_neg (fun h => c h.1)]
  have fin1 : ∀ d : Int, (d = if 128 ≤ a2 ∧ a2 ≤ 4096 then a2 + 12 else 0) → F13.j1 a2 d = some true := fun d hd => by
    simp only [F13.j1]
    rw [hm d hd, Option.bind_some, if_pos rfl, delta_awake]; rfl
  have hj2 : F13.j2 a2 = some true := by
    simp only [F13.j2]
    by_cases c : 128 ≤ a2
    · rw [if_pos c]
      by_cases c2 : a2 ≤ 4096
      · rw [if_pos c2, w64 (by omega) (by omega)]
        exact fin1 _ (by rw [if_pos ⟨c, c2⟩])
      · rw [if_neg c2]
        exact fin1 _ (by rw [if_neg (fun h => c2 h.2)])
    · rw [if_neg c]
      exact fin1 _ (by rw [if_neg (fun h => c h.1)])
  by_cases c0 : (a0.length : Int) = 0
  · rw [lit40 a0 (by omega), Option.bind_some, if_pos c0, if_pos (show a0.length = 0 by omega), if_pos (by simp)]
    exact hj2
  · by_cases c1 : (4096 : Int) < (a0.length : Int)
    · have e : F40.m a0 = some [] := by
        unfold F40.m
        rw [if_neg (by omega), if_pos c1]
      rw [e, Option.bind_some, if_neg c0, if_pos c1, if_pos (by simp)]
      exact hj2
    · rw [lit40 a0 (by omega), Option.bind_some, if_neg c0, if_neg c1, if_neg (show ¬ a0.length = 0 by omega), same21 _ _ rfl, Option.bind_some, if_pos rfl]
      exact hj2
end Go.Proofs.Ytedokgdilpfomaa
