/- What ShaCopies needs. -/
import Derived.Test.YtmedbpiapeiobaaPureSh4
import Derived.Test.YtmedbpiapeiobaaYShaCopies
set_option linter.unusedVariables false
set_option linter.unusedSimpArgs false
namespace Go.Proofs.Ytmedbpiapeiobaa
open Go Go.Eng Go.Proofs
theorem pure_ShaCopies (a0 : List Int) (a1 : List Int) (a2 : List Int) (w0 : ∀ x ∈ a0, InR .u8 x) (m0 : a0.length ≤ maxLen) (w1 : ∀ x ∈ a1, InR .u8 x) (m1 : a1.length ≤ maxLen) (w2 : ∀ x ∈ a2, InR .u8 x) (m2 : a2.length ≤ maxLen) :
    F11.m a0 a1 a2 = some true := by
  unfold F11.m
  rw [sha_awake]
  by_cases h : (400 : Int) < (a0.length : Int)
  · rw [if_pos h]; rfl
  by_cases h2 : (400 : Int) < (a1.length : Int)
  · rw [if_neg h, if_pos h2]; rfl
  by_cases h3 : (400 : Int) < (a2.length : Int)
  · rw [if_neg h, if_neg h2, if_pos h3]; rfl
  obtain ⟨b1, r1, n1, l1, hw1, hI1⟩ := write_is _ _ _ _ _ a0 Inv.nil (by simp; omega)
  obtain ⟨b2, r2, n2, l2, hw2, hI2⟩ := write_is _ _ _ _ _ a1 hI1 (by simp; omega)
  obtain ⟨b3, r3, n3, l3, hw3, hI3⟩ := write_is _ _ _ _ _ a2 hI1 (by simp; omega)
  rw [if_neg h, if_neg h2, if_neg h3]
  unfold F34.m
  simp only [Option.bind_some, List.nil_append] at *
  rw [hw1, Option.bind_some, show ∀ a b c d, F40.m a b c d = some () from fun _ _ _ _ => rfl, Option.bind_some, hw2, Option.bind_some, hw3, Option.bind_some, sum_is _ _ _ _ _ hI2 (by simp; omega), Option.bind_some, join2 _ _ (by omega) (by omega), Option.bind_some, F33_is _ (by simp; omega), Option.bind_some, if_pos rfl,
    sum_is _ _ _ _ _ hI3 (by simp; omega), Option.bind_some, join2 _ _ (by omega) (by omega), Option.bind_some, F33_is _ (by simp; omega), Option.bind_some, if_pos rfl]
end Go.Proofs.Ytmedbpiapeiobaa
