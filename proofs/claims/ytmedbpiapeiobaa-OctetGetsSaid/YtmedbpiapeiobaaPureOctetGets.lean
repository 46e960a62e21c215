/- What OctetGets' printed function computes: true, whatever the bytes. -/
import Derived.Test.YtmedbpiapeiobaaPureOcKit
namespace Go.Proofs.Ytmedbpiapeiobaa
open Go Go.Eng Go.Proofs
theorem pure_OctetGets (a0 : List Int) (a1 : Int) (a2 : Int) (w0 : ∀ x ∈ a0, InR .u8 x) (_m0 : a0.length ≤ maxLen) (w1 : InR .i64 a1) (_w2 : InR .i64 a2) :
    F5.m a0 a1 a2 = some true := by
  unfold F5.m
  by_cases hl : (500 : Int) < (a0.length : Int)
  · rw [if_pos hl, oct_awake]; rfl
  · rw [if_neg hl]
    obtain ⟨p, h1, h2⟩ := get_same a0 a1 a2 (by omega) (fun x hx => inU8 (w0 x hx)) (inI64 w1)
    rw [h1, h2]
    simp [oct_awake]
end Go.Proofs.Ytmedbpiapeiobaa
