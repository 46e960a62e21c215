/- What LimC needs. -/
import Derived.Test.YtgganckggdjpaaaPureLimA
import Derived.Test.YtgganckggdjpaaaEngPure
set_option linter.unusedVariables false
set_option linter.unusedSimpArgs false
namespace Go.Proofs.Ytgganckggdjpaaa
open Go Go.Eng Go.Proofs
/-! ### What lengths cost -/
noncomputable def lacc (f : Nat → Int) : Nat → Int
  | 0 => 0
  | k + 1 => IntKind.wrap .u64 (lacc f k + f k)
theorem lacc_congr {f g : Nat → Int} : ∀ {k : Nat}, (∀ j, j < k → f j = g j) → lacc f k = lacc g k
  | 0, _ => rfl
  | k + 1, h => by
    unfold lacc
    rw [lacc_congr (fun j hj => h j (by omega)), h k (by omega)]
noncomputable def lterm (x y : List Int) (k : Nat) : Int := IntKind.wrap .u64 ((IntKind.wrap .u64 (gd x (k : Int))) * (IntKind.wrap .u64 (gd y (k : Int))))
theorem lw (k : Nat) (h : k < 1000000) : IntKind.wrap .i64 ((k : Int) + 1) = ((k + 1 : Nat) : Int) := by
  rw [w64 (by omega) (by omega)]; omega
theorem F25_is (x y : List Int) (h : x.length ≤ 400) : F25.m x y = some (lacc (lterm x y) (min x.length y.length)) := by
  unfold F25.m
  obtain ⟨r, hr, hp⟩ := loop_ends (b := F25.b1 x y) (fun s => ∃ k : Nat, s.2 = (k : Int) ∧ k ≤ x.length ∧ s.1 = lacc (lterm x y) (min k y.length)) (fun s => x.length - s.2.toNat) (fun r => r = lacc (lterm x y) (min x.length y.length)) (fun s hs => by
    obtain ⟨d, i⟩ := s
    obtain ⟨k, hi, hk, hd⟩ := hs
    simp only at hi hd
    subst hi
    subst hd
    unfold F25.b1
    dsimp only
    by_cases h1 : (k : Int) < (x.length : Int)
    · rw [if_pos h1]
      by_cases h2 : (k : Int) < (y.length : Int)
      · rw [if_pos h2, if_pos (by omega), if_pos (by omega)]
        refine ⟨_, rfl, fun s' hs' => ?_, fun r hr => by cases hr⟩
        cases hs'
        rw [lw k (by omega)]
        refine ⟨⟨k + 1, rfl, by omega, ?_⟩, by simp only; omega⟩
        have e1 : min k y.length = k := by omega
        have e2 : min (k + 1) y.length = k + 1 := by omega
        rw [e1, e2]
        rfl
      · rw [if_neg h2]
        refine ⟨_, rfl, fun s' hs' => ?_, fun r hr => by cases hr⟩
        cases hs'
        rw [lw k (by omega)]
        refine ⟨⟨k + 1, rfl, by omega, ?_⟩, by simp only; omega⟩
        have e1 : min k y.length = y.length := by omega
        have e2 : min (k + 1) y.length = y.length := by omega
        rw [e1, e2]
    · rw [if_neg h1]
      refine ⟨_, rfl, fun s' hs' => (by cases hs'), fun r hr => ?_⟩
      cases hr
      rw [show k = x.length by omega]) (0, 0) ⟨0, rfl, by omega, by simp [lacc]⟩
  rw [hr, hp]
  rfl
theorem lim_sub (x : List Int) (m k : Nat) (hk : k < m) : gd (subL x 0 (m : Int)) (k : Int) = gd x (k : Int) := by
  unfold gd subL
  simp only [List.getD_eq_getElem?_getD, Int.toNat_natCast]
  congr 1
  simp [List.getElem?_take, hk]
theorem F24_is (x y : List Int) (h : x.length ≤ 400) : F24.m x y = some (lacc (lterm x y) (min x.length y.length)) := by
  unfold F24.m
  have e : minI (x.length : Int) (y.length : Int) = ((min x.length y.length : Nat) : Int) := by unfold minI; split <;> omega
  rw [e, if_pos (by omega)]
  have hl : (subL x 0 ((min x.length y.length : Nat) : Int)).length = min x.length y.length := by rw [subL_length _ _ _ (by omega)]; simp
  obtain ⟨r, hr, hp⟩ := loop_ends (b := F24.b1 x y) (fun s => ∃ k : Nat, s.2 = (k : Int) ∧ k ≤ min x.length y.length ∧ s.1 = lacc (lterm x y) k) (fun s => x.length - s.2.toNat) (fun r => r = lacc (lterm x y) (min x.length y.length)) (fun s hs => by
    obtain ⟨d, i⟩ := s
    obtain ⟨k, hi, hk, hd⟩ := hs
    simp only at hi hd
    subst hi
    subst hd
    unfold F24.b1
    dsimp only
    rw [e, hl]
    by_cases h1 : (k : Int) < ((min x.length y.length : Nat) : Int)
    · rw [if_pos h1, if_pos (by omega), if_pos (by omega), lim_sub _ _ _ (by omega)]
      refine ⟨_, rfl, fun s' hs' => ?_, fun r hr => by cases hr⟩
      cases hs'
      rw [lw k (by omega)]
      exact ⟨⟨k + 1, rfl, by omega, rfl⟩, by simp only; omega⟩
    · rw [if_neg h1]
      refine ⟨_, rfl, fun s' hs' => (by cases hs'), fun r hr => ?_⟩
      cases hr
      rw [show k = min x.length y.length by omega]) (0, 0) ⟨0, rfl, by omega, rfl⟩
  rw [hr, hp]
  rfl
end Go.Proofs.Ytgganckggdjpaaa
