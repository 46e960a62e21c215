/- What ShaSums needs. -/
import Derived.Test.YtmedbpiapeiobaaPureSh4
import Derived.Test.YtmedbpiapeiobaaYShaSums
set_option linter.unusedVariables false
set_option linter.unusedSimpArgs false
namespace Go.Proofs.Ytmedbpiapeiobaa
open Go Go.Eng Go.Proofs
theorem pure_ShaSums (a0 : List Int) (w0 : ∀ x ∈ a0, InR .u8 x) (m0 : a0.length ≤ maxLen) :
    F8.m a0 = some true := by
  unfold F8.m
  rw [sha_awake]
  by_cases h : (3000 : Int) < (a0.length : Int)
  · rw [if_pos h]; rfl
  · rw [if_neg h, F32_is _ (by omega), Option.bind_some, F33_is _ (by omega), Option.bind_some, if_pos rfl]; rfl
end Go.Proofs.Ytmedbpiapeiobaa
