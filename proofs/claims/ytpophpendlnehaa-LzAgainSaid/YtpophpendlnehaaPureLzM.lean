/- What LzM needs. -/
import Derived.Test.YtpophpendlnehaaLzf
set_option linter.unusedVariables false
set_option linter.unusedSimpArgs false
namespace Go.Proofs.Ytpophpendlnehaa
open Go Go.Eng Go.Proofs
theorem lz_awake : F17.m = some true := by
  have h : F55.m [((97 : Int), (0 : Int), (0 : Int)), ((0 : Int), (3 : Int), (1 : Int))] 9 = some ([97, 97, 97, 97], 0) := by
    simp [F55.m, loop_eq, F55.b1, F55.b2, F55.j1, F55.j2, F55.j3, F15.m, gd, maxI, IntKind.wrap, IntKind.bits, IntKind.signed]
  unfold F17.m
  rw [h]
  simp
  decide

end Go.Proofs.Ytpophpendlnehaa
