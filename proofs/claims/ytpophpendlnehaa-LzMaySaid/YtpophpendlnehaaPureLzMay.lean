/- What LzMay's printed function computes: true, whatever the token. -/
import Derived.Test.YtpophpendlnehaaLz
import Derived.Test.YtpophpendlnehaaEngLaw
namespace Go.Proofs.Ytpophpendlnehaa
open Go Go.Eng Go.Proofs

theorem lz_awake : F17.m = some true := by
  have h : F55.m [((97 : Int), (0 : Int), (0 : Int)), ((0 : Int), (3 : Int), (1 : Int))] 9 = some ([97, 97, 97, 97], 0) := by
    simp [F55.m, loop_eq, F55.b1, F55.b2, F55.j1, F55.j2, F55.j3, F15.m, gd, maxI, IntKind.wrap, IntKind.bits, IntKind.signed]
  unfold F17.m
  rw [h]
  simp
  decide

theorem may_same (x1 x2 x3 : Int) : F15.m x1 x2 x3 = F16.m x1 x2 x3 := by
  unfold F15.m F16.m
  simp only [show ((3 : Int) ≤ x2) = (2 < x2) from propext (by omega), show (x2 ≤ (258 : Int)) = (x2 < 259) from propext (by omega), show ((1 : Int) ≤ x3) = (0 < x3) from propext (by omega), show (x3 ≤ (32768 : Int)) = (x3 < 32769) from propext (by omega)]
theorem may_some (x1 x2 x3 : Int) : ∃ b, F16.m x1 x2 x3 = some b := by
  unfold F16.m
  repeat' split
  all_goals exact ⟨_, rfl⟩

theorem pure_LzMay (a0 : (Int × Int × Int)) (_w0 : (InR .u8 a0.1 ∧ InR .i64 a0.2.1 ∧ InR .i64 a0.2.2)) :
    F3.m (a0.1) (a0.2.1) (a0.2.2) = some true := by
  obtain ⟨b, hb⟩ := may_some a0.1 a0.2.1 a0.2.2
  unfold F3.m
  rw [may_same, hb]
  simp [lz_awake]
end Go.Proofs.Ytpophpendlnehaa
