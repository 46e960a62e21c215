/- What BitsNil needs. -/
import Derived.Test.YtpophpendlnehaaPureBitK
import Derived.Test.YtpophpendlnehaaYBitsNil
set_option linter.unusedVariables false
set_option linter.unusedSimpArgs false
namespace Go.Proofs.Ytpophpendlnehaa
open Go Go.Eng Go.Proofs
theorem nil_code (x n : Int) : F30_1.m x n = some () := by
  unfold F30_1.m
  by_cases h : 0 < minI (maxI n 0) 32
  · rw [if_pos h]
    obtain ⟨h1, h2⟩ := cl_is n
    rw [h1] at h ⊢
    have e : ∀ x, F63.m x = some ((F63.m x).getD 0) := fun x => by
      have : ∃ y, F63.m x = some y := ⟨_, rfl⟩
      obtain ⟨y, hy⟩ := this
      rw [hy]; rfl
    rw [e, Option.bind_some, w64 (by omega) (by omega), if_pos (by omega)]
    rfl
  · rw [if_neg h]; rfl
theorem pure_BitsNil (a0 : (Int × Int × Int × (List Int))) (w0 : (InR .i64 a0.1 ∧ InR .i64 a0.2.1 ∧ InR .u32 a0.2.2.1 ∧ ((∀ y ∈ a0.2.2.2, InR .u8 y) ∧ (a0.2.2.2).length ≤ maxLen))) :
    F10.m (a0.1) (a0.2.1) (a0.2.2.1) (a0.2.2.2) = some true := by
  unfold F10.m
  by_cases h : (100 : Int) < (a0.2.2.2.length : Int)
  · rw [if_pos h, bits_awake]; rfl
  · rw [if_neg h, show F28_1.m a0.2.2.1 a0.2.1 = some () from rfl, Option.bind_some, nil_code, Option.bind_some]
    simp only [F32.m, F35.m, F42_1.m, F39_1.m, F44_1.m, F36_1.m, F37_1.m, F41_1.m, F46_1.m, F45_1.m, Option.bind_some, bits_awake]
    rfl
end Go.Proofs.Ytpophpendlnehaa
