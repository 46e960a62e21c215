/- What ShaNil needs. -/
import Derived.Test.YtmedbpiapeiobaaPureSh4
import Derived.Test.YtmedbpiapeiobaaYShaNil
set_option linter.unusedVariables false
set_option linter.unusedSimpArgs false
namespace Go.Proofs.Ytmedbpiapeiobaa
open Go Go.Eng Go.Proofs
theorem pure_ShaNil (a0 : List Int) (w0 : ∀ x ∈ a0, InR .u8 x) (m0 : a0.length ≤ maxLen) :
    F12.m a0 = some true := by
  unfold F12.m
  rw [sha_awake]
  have e : F36_1.m = some (dig []) := by
    unfold F36_1.m F34.m
    rw [Option.bind_some, sum_is _ _ _ _ _ Inv.nil (by simp)]
    rfl
  by_cases h : (400 : Int) < (a0.length : Int)
  · rw [if_pos h]; rfl
  · rw [if_neg h, show F35_1.m a0 = some () from rfl, Option.bind_some, e, Option.bind_some, F33_is _ (by simp), Option.bind_some, if_pos rfl]; rfl
end Go.Proofs.Ytmedbpiapeiobaa
