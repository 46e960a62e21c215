/- What ShaKeeps needs. -/
import Derived.Test.YtmedbpiapeiobaaPureSh4
import Derived.Test.YtmedbpiapeiobaaYShaKeeps
set_option linter.unusedVariables false
set_option linter.unusedSimpArgs false
namespace Go.Proofs.Ytmedbpiapeiobaa
open Go Go.Eng Go.Proofs
theorem pure_ShaKeeps (a0 : List Int) (a1 : List Int) (w0 : ∀ x ∈ a0, InR .u8 x) (m0 : a0.length ≤ maxLen) (w1 : ∀ x ∈ a1, InR .u8 x) (m1 : a1.length ≤ maxLen) :
    F9.m a0 a1 = some true := by
  unfold F9.m
  rw [sha_awake]
  by_cases h : (400 : Int) < (a0.length : Int)
  · rw [if_pos h]; rfl
  by_cases h2 : (400 : Int) < (a1.length : Int)
  · rw [if_neg h, if_pos h2]; rfl
  obtain ⟨b1, r1, n1, l1, hw1, hI1⟩ := write_is _ _ _ _ _ a0 Inv.nil (by simp; omega)
  rw [if_neg h, if_neg h2, if_pos (by simp; omega)]
  unfold F34.m
  simp only [Option.bind_some, List.nil_append] at hw1 ⊢
  rw [hw1, Option.bind_some]
  have hlp : loop F9.b1 (a0, 0) = some () := by
    obtain ⟨y, hy, _⟩ := loop_ends (b := F9.b1) (fun s => ∃ (d : List Int) (k : Nat), d.length = a0.length ∧ k ≤ a0.length ∧ s = (d, (k : Int))) (fun s => a0.length - s.2.toNat) (fun _ => True) (fun s hs => by
      obtain ⟨d, k, hd, hk, rfl⟩ := hs
      simp only [F9.b1]
      by_cases a : k < a0.length
      · rw [if_pos (by omega), if_pos (by omega), w64 (by omega) (by omega)]
        refine ⟨_, rfl, fun x' h => ?_, fun y h => by simp at h⟩
        simp only [Sum.inl.injEq] at h
        subst h
        exact ⟨⟨_, k + 1, by simpa using hd, by omega, rfl⟩, by simp only; omega⟩
      · rw [if_neg (by omega)]
        exact ⟨_, rfl, fun x' h => by simp at h, fun _ _ => trivial⟩) (a0, 0) ⟨a0, 0, rfl, by omega, rfl⟩
    rw [hy]
  rw [hlp]
  simp only [Option.bind_some, F9.j1]
  obtain ⟨b2, r2, n2, l2, hw2, hI2⟩ := write_is _ _ _ _ _ a1 hI1 (by simp; omega)
  rw [hw2, Option.bind_some, sum_is _ _ _ _ _ hI2 (by simp; omega), Option.bind_some, join2 _ _ (by omega) (by omega), Option.bind_some, F33_is _ (by simp; omega), Option.bind_some, List.nil_append, if_pos rfl, sha_awake]
  rfl
end Go.Proofs.Ytmedbpiapeiobaa
