/- What MerkleRoots needs. -/
import Derived.Test.YtmedbpiapeiobaaPureMeK
import Derived.Test.YtmedbpiapeiobaaYMerkleRoots
set_option linter.unusedVariables false
set_option linter.unusedSimpArgs false
namespace Go.Proofs.Ytmedbpiapeiobaa
open Go Go.Eng Go.Proofs
theorem F47_1_is (a b : D32) : F47_1.m a b = some (pr a b) := F47_is a b
theorem pure_MerkleRoots (a0 : List Int) (a1 : List (Arr Int 32)) (w0 : ∀ x ∈ a0, InR .u8 x) (m0 : a0.length ≤ maxLen) (w1 : ∀ x ∈ a1, (∀ y ∈ (x).l, InR .u8 y)) (m1 : a1.length ≤ maxLen) :
    F13.m a0 a1 = some true := by
  unfold F13.m
  rw [mer_awake]
  by_cases h : (500 : Int) < (a0.length : Int)
  · rw [if_pos h]; rfl
  by_cases h2 : (100 : Int) < (a1.length : Int)
  · rw [if_neg h, if_pos h2]; rfl
  have h43 : F43.m a0 = some (dig (0 :: a0)) := by
    unfold F43.m
    rw [join_is _ (by simp) (by simp; omega), Option.bind_some, F33_is _ (by simp; omega)]
    simp
  rw [if_neg h, if_neg h2, leaf_is _ (by omega), Option.bind_some, h43, Option.bind_some, if_pos rfl, copy_is _ (by omega), Option.bind_some, F44_is _ (by omega), Option.bind_some, F46_is _ (by omega), Option.bind_some, if_pos rfl]
  by_cases h3 : (a1.length : Int) < 2
  · rw [if_pos h3]; rfl
  · rw [if_neg h3, if_pos (by omega), if_pos (by omega), F47_1_is, Option.bind_some, F48_is, Option.bind_some, if_pos rfl]
    rfl
end Go.Proofs.Ytmedbpiapeiobaa
