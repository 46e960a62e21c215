/- What OcN needs. -/
import Derived.Test.YtmedbpiapeiobaaPureOcC
import Derived.Test.YtmedbpiapeiobaaOts
set_option linter.unusedVariables false
set_option linter.unusedSimpArgs false
namespace Go.Proofs.Ytmedbpiapeiobaa
open Go Go.Eng Go.Proofs
theorem wu8_mod (n : Int) : IntKind.wrap .u8 n = n % 256 := by simp [IntKind.wrap, IntKind.bits, IntKind.signed]
theorem oct_u8 (x : Int) (k : Nat) : 0 ≤ oct x k ∧ oct x k ≤ 255 := by
  unfold oct
  rw [wu8_mod]
  omega
def octs (x : Int) : List Int := (List.range 8).map (oct x)
theorem octs_len (x : Int) : (octs x).length = 8 := by simp [octs]
theorem octs_at (x : Int) (k : Nat) (h : k < (octs x).length) : (octs x)[k] = oct x k := by simp [octs]

theorem F26_loop (b : List Int) (hb : b.length ≤ 1000) (k : Nat) (hk : 1 ≤ k ∧ k ≤ 8) (x : Int) : F26.j2 b x (k : Int) = some (b ++ (octs x).drop (8 - k)) := by
  unfold F26.j2
  rw [w64 (by omega) (by omega)]
  have hlen : ((octs x).drop (8 - k)).length = k := by rw [List.length_drop, octs_len]; omega
  rw [loop_done (fun j => (b ++ ((octs x).drop (8 - k)).take j, (k : Int) - 1 - j)) k (b ++ (octs x).drop (8 - k)) (fun j hj => ?_) ?_ (by simp)]
  · rfl
  · simp only [F26.b1]
    rw [if_neg (by omega), List.take_of_length_le (by omega)]
  · simp only [F26.b1]
    rw [if_pos (by omega), w64 (n := 8 * ((k : Int) - 1 - j)) (by omega) (by omega), if_pos (by omega), if_pos (by simp only [List.length_append, List.length_take, List.length_singleton]; omega), w64 (by omega) (by omega)]
    have e : IntKind.wrap .u8 (shrI .u64 x (8 * ((k : Int) - 1 - j))) = oct x (8 - k + j) := by
      unfold oct
      congr 2
      omega
    have hj' : j < ((octs x).drop (8 - k)).length := by omega
    rw [e, take_succ' _ j hj', List.getElem_drop, octs_at, List.append_assoc]
    congr 3
    omega
theorem F26_is (b : List Int) (n x : Int) (hb : b.length ≤ 1000) : F26.m b n x = some (b ++ (octs x).drop (8 - wide n)) := by
  obtain ⟨h1, h2, h3⟩ := wide_le n
  unfold F26.m
  rw [if_pos (by simp; omega)]
  by_cases a : n < 1
  · rw [if_pos a]
    have : wide n = 1 := by unfold minI maxI at h3; split at h3 <;> (try split at h3) <;> omega
    rw [this]
    unfold F26.j1
    rw [if_neg (by omega)]
    exact F26_loop b hb 1 (by omega) x
  · rw [if_neg a]
    unfold F26.j1
    by_cases c : 8 < n
    · rw [if_pos c]
      have : wide n = 8 := by unfold minI maxI at h3; split at h3 <;> (try split at h3) <;> omega
      rw [this]
      exact F26_loop b hb 8 (by omega) x
    · rw [if_neg c]
      have : n = (wide n : Int) := by unfold minI maxI at h3; split at h3 <;> (try split at h3) <;> omega
      rw [show F26.j2 b x n = F26.j2 b x (wide n : Int) from by rw [← this]]
      exact F26_loop b hb _ ⟨h1, h2⟩ x

theorem shr_ediv (x : Int) (s : Int) (m : Nat) (h : min s.toNat 64 = m) : shrI .u64 x s = x / 2 ^ m := by
  unfold shrI
  have e : IntKind.bits .u64 = 64 := rfl
  rw [e, h]
  exact Int.fdiv_eq_ediv_of_nonneg _ (Int.le_of_lt (Int.pow_pos (by omega)))
end Go.Proofs.Ytmedbpiapeiobaa
