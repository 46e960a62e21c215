/- What Sh4 needs. -/
import Derived.Test.YtmedbpiapeiobaaPureSh3
set_option linter.unusedVariables false
set_option linter.unusedSimpArgs false
namespace Go.Proofs.Ytmedbpiapeiobaa
open Go Go.Eng Go.Proofs
/-! ### Awake; rows joined -/
theorem sha_awake : F31.m = some true := by
  have e0 : gd (dig [97, 98, 99]).l 0 = 186 := by decide +kernel
  have e1 : gd (dig [97, 98, 99]).l 1 = 120 := by decide +kernel
  have e2 : gd (dig [97, 98, 99]).l 2 = 22 := by decide +kernel
  have e3 : gd (dig [97, 98, 99]).l 3 = 191 := by decide +kernel
  unfold F31.m
  rw [F32_is _ (by simp), Option.bind_some, if_pos e0, if_pos e1, if_pos e2, e3]
  rfl
theorem flat_take (x : List (List Int)) (k : Nat) (h : k < x.length) : (x.take (k + 1)).flatten = (x.take k).flatten ++ x[k] := by
  rw [List.take_succ_eq_append_getElem h, List.flatten_append]
  simp
theorem flat_le (x : List (List Int)) (c : Nat) (h : ∀ y ∈ x, y.length ≤ c) : x.flatten.length ≤ c * x.length := by
  induction x with
  | nil => simp
  | cons a x ih =>
    have h1 := h a (by simp)
    have h2 := ih (fun y hy => h y (by simp [hy]))
    simp only [List.flatten_cons, List.length_append, List.length_cons, Nat.mul_add, Nat.mul_one]
    omega
theorem join_is (x : List (List Int)) (hn : x.length ≤ 1000) (h : ∀ y ∈ x, y.length ≤ 1000) : F37.m x = some x.flatten := by
  unfold F37.m
  rw [loop_done (fun k => ((x.take k).flatten, (k : Int))) x.length x.flatten (fun k hk => ?_) ?_ (by simp)]
  · rfl
  · simp only [F37.b1]
    rw [if_neg (by omega), List.take_length]
  · have hx := h _ (List.getElem_mem hk)
    have hl := flat_le (x.take k) 1000 (fun y hy => h y (List.mem_of_mem_take hy))
    rw [List.length_take] at hl
    simp only [F37.b1]
    rw [if_pos (by omega), if_pos (by omega), gd_at _ _ hk, if_pos (by omega), w64 (by omega) (by omega), ← flat_take x k hk]
    rfl
theorem join2 (a b : List Int) (ha : a.length ≤ 400) (hb : b.length ≤ 400) : F37.m [a, b] = some (a ++ b) := by
  rw [join_is _ (by simp) (by simp; omega)]
  simp
end Go.Proofs.Ytmedbpiapeiobaa
