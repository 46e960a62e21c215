/- What OrdF needs. -/
import Derived.Test.YtgganckggdjpaaaPureOrdM
set_option linter.unusedVariables false
set_option linter.unusedSimpArgs false
namespace Go.Proofs.Ytgganckggdjpaaa
open Go Go.Eng Go.Proofs
theorem itr_back (x : List (List Int)) (N : Nat) (h2 : ∀ k, k < N → (itr x k).1.length < x.length) (h3 : ∀ k, k ≤ N → Vd x.length (itr x k)) : ∀ k, k ≤ N → ∀ p i : Nat, p < (itr x k).1.length → i < x.length → gd (itr x k).1 (p : Int) ∈ gd x (i : Int) → (i : Int) ∈ (itr x k).2 ∨ ∃ q : Nat, q < p ∧ gd (itr x k).1 (q : Int) = (i : Int) := by
  intro k
  induction k with
  | zero => intro _ p i hp; simp [itr] at hp
  | succ k ih =>
    intro hk p i hp hi hm
    have ih := ih (by omega)
    have hv := h3 k (by omega)
    have hl := h2 k (by omega)
    have e : itr x (k + 1) = nxt x (itr x k) := rfl
    rw [e] at hp hm ⊢
    rcases nxt_cases x hv hl with ⟨j, hj, j1, j2, e2⟩ | ⟨j, hj, j1, j2, j3, e2⟩
    · rw [e2] at hp hm ⊢
      simp only at hp hm ⊢
      rw [List.length_append, List.length_singleton] at hp
      by_cases hpl : p < (itr x k).1.length
      · rw [gd_append_left _ _ _ hpl] at hm
        rcases ih p i hpl hi hm with h | ⟨q, hq, hqe⟩
        · exact .inl h
        · exact .inr ⟨q, hq, by rw [gd_append_left _ _ _ (by omega)]; exact hqe⟩
      · obtain rfl : p = (itr x k).1.length := by omega
        rw [gd_append_right _ _ _ (Nat.le_refl _), Nat.sub_self] at hm
        have hm : (j : Int) ∈ gd x (i : Int) := hm
        have hz : lv x (itr x k).1 (itr x k).2 i j = false := by
          unfold cnt at j2
          rw [List.countP_eq_zero] at j2
          simpa using j2 i (List.mem_range.2 hi)
        have : (i : Int) ∈ (itr x k).1 ∨ (i : Int) ∈ (itr x k).2 := by
          apply Classical.byContradiction
          intro hc
          rw [lv_iff.2 ⟨hm, hc⟩] at hz
          cases hz
        rcases this with h | h
        · obtain ⟨q, hq, hqe⟩ := mem_gd.1 h
          exact .inr ⟨q, hq, by rw [gd_append_left _ _ _ hq]; exact hqe⟩
        · exact .inl h
    · rw [e2] at hp hm ⊢
      simp only at hp hm ⊢
      rcases ih p i hp hi hm with h | h
      · exact .inl (List.mem_append.2 (.inl h))
      · exact .inr h
theorem itr_RR (x : List (List Int)) (hR : Rgt x) (N : Nat) (h1 : (itr x N).1.length = x.length) (h2 : ∀ k, k < N → (itr x k).1.length < x.length) (h3 : ∀ k, k ≤ N → Vd x.length (itr x k)) : RR x (itr x N).1 (itr x N).2 := by
  have hv := h3 N (Nat.le_refl _)
  have hp : (rng x.length).Perm (itr x N).1 := (perm_of _ _ hv.no hv.io).2 (by rw [rng_len, h1])
  refine ⟨hR, h1, fun k hk => hp.mem_iff.1 ((rng_mem _ _).2 ⟨k, hk, rfl⟩), fun p q hpq hq hm => ?_⟩
  obtain ⟨i, hi, hie⟩ := perm_in hp.symm q hq
  rw [hie] at hm ⊢
  rcases itr_back x N h2 h3 N (Nat.le_refl _) p i (by omega) hi hm with h | ⟨q', hq', he⟩
  · exact h
  · exact absurd (he.trans hie.symm) (nodup_gd.1 hv.no q' q (by omega) hq)
end Go.Proofs.Ytgganckggdjpaaa
