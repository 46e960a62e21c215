/- What OtsReads needs. -/
import Derived.Test.YtmedbpiapeiobaaPureOt3
import Derived.Test.YtmedbpiapeiobaaYOtsReads
set_option linter.unusedVariables false
set_option linter.unusedSimpArgs false
namespace Go.Proofs.Ytmedbpiapeiobaa
open Go Go.Eng Go.Proofs
theorem pure_OtsReads (a0 : Int) (a1 : (Arr Int 16)) (a2 : Int) (a3 : List Int) (a4 : List Int) (w0 : InR .u32 a0) (w1 : (∀ y ∈ (a1).l, InR .u8 y)) (w2 : InR .u32 a2) (w3 : ∀ x ∈ a3, InR .u8 x) (m3 : a3.length ≤ maxLen) (w4 : ∀ x ∈ a4, InR .u8 x) (m4 : a4.length ≤ maxLen) :
    F19.m a0 (a1) a2 a3 a4 = some true := by
  have b0 := inU32 w0
  have hq : IntKind.wrap .u64 a2 = a2 := by
    have := inU32 w2
    exact wu64 (by omega) (by omega)
  unfold F19.m
  rw [ots_awake]
  by_cases hl : (9000 : Int) < (a3.length : Int)
  · rw [if_pos hl]; rfl
  by_cases hl2 : (1000 : Int) < (a4.length : Int)
  · rw [if_neg hl, if_pos hl2]; rfl
  rw [if_neg hl, if_neg hl2]
  by_cases h : 1 ≤ a0 ∧ a0 ≤ 4
  · obtain ⟨x, rfl⟩ : ∃ x : Nat, a0 = x := ⟨a0.toNat, by omega⟩
    have hx : 1 ≤ x ∧ x ≤ 4 := by omega
    rw [cand1_is x hx a1 a2 hq a3 a4 (by omega), Option.bind_some, refCand_is x hx a1 a2 hq a3 a4 (fun y hy => inU8 (w3 y hy)) (by omega), Option.bind_some, if_pos rfl, if_pos rfl]
    rfl
  · have h58 : F58.m a0 = some 0 := by
      unfold F58.m
      by_cases a : a0 < 1
      · rw [if_pos a]
      · rw [if_neg a, if_pos (by omega)]
    have h59 : F59.m a0 = some 0 := by
      unfold F59.m
      rw [if_neg (by omega), if_neg (by omega), if_neg (by omega), if_neg (by omega)]
    have h67 : F67_1.m a0 a1 a2 a3 a4 = some (K3, 21) := by unfold F67_1.m; rw [h58]; rfl
    have h68 : F68.m a0 a1 a2 a3 a4 = some (K3, 21) := by unfold F68.m; rw [h59]; rfl
    rw [h67, h68]
    rfl
end Go.Proofs.Ytmedbpiapeiobaa
