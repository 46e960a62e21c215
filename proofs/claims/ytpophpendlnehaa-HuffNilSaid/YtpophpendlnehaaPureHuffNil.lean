/- What HuffNil needs. -/
import Derived.Test.YtpophpendlnehaaPureHufK
import Derived.Test.YtpophpendlnehaaYHuffNil
set_option linter.unusedVariables false
set_option linter.unusedSimpArgs false
namespace Go.Proofs.Ytpophpendlnehaa
open Go Go.Eng Go.Proofs
theorem pure_HuffNil (a0 : List Int) (w0 : ∀ x ∈ a0, InR .u8 x) (m0 : a0.length ≤ maxLen) :
    F13.m a0 = some true := by
  unfold F13.m
  rw [huff_awake]
  by_cases h : (100 : Int) < (a0.length : Int)
  · rw [if_pos h]; rfl
  obtain ⟨a, b, c, l, h49⟩ := F49_is [1, 1] (by decide) (by unfold Good15; decide) (by decide)
  rw [if_neg h, reader_is a0 (by omega), Option.bind_some, show ∀ a b, F53_1.m a b = some () from fun _ _ => rfl, Option.bind_some, h49]
  simp only [Option.bind_some]
  rw [show ∀ a b c d, F53_2.m a b c d = some () from fun _ _ _ _ => rfl, Option.bind_some]
  rfl
end Go.Proofs.Ytpophpendlnehaa
