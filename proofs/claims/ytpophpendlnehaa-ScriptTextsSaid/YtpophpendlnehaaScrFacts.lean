/- Written by gen2.py: facts on types. -/
import Derived.Test.YtpophpendlnehaaProg
import Derived.Test.YtpophpendlnehaaEngBld
namespace Go.Proofs.Ytpophpendlnehaa
open Go Go.Eng Go.Proofs

theorem co_5 : Try.prog.cellsOf 5 = 1 := by kernel_rfl
theorem fo_86_0 : fieldOff Try.prog 86 0 = some 0 := by kernel_rfl
theorem fo_86_1 : fieldOff Try.prog 86 1 = some 1 := by kernel_rfl
theorem is_86 : (Try.prog.info? 86).isSome = true := by kernel_rfl
theorem ls_86_2_86 : liesAt Try.prog Try.prog.depth 86 (2 / Try.prog.cellsOf 86) 0 86 1 = true := by kernel_rfl
theorem nz_86 : (Try.prog.info? 86).map (fun j => Nat.beq j.size 0) = some false := by kernel_rfl
theorem tk_26 : tk Try.prog 26 = some (false, 1) := by kernel_rfl
theorem tk_5 : tk Try.prog 5 = some (false, 1) := by kernel_rfl
theorem tk_84 : tk Try.prog 84 = some (false, 1) := by kernel_rfl
theorem xf_74 : Extern.find Try.f74 = some Extern.AbiNoEscape.same := by kernel_rfl
theorem xf_75 : Extern.find Try.f75 = some Extern.BytealgIndexByte.indexByte := by kernel_rfl
theorem xn_74 : (Extern.findNext Try.f74).isNone = true := by kernel_rfl
theorem xn_75 : (Extern.findNext Try.f75).isNone = true := by kernel_rfl
theorem z_86 : (Try.prog.info? 86).map (·.zero) = some (some (.agg #[.pointer none, .slice none 0 0])) := by kernel_rfl
theorem zi_5 : (Try.prog.info? 5).map (fun i => (i.zero, i.size, i.bytes)) = some (some (.int .u8 0), 1, 1) := by kernel_rfl
end Go.Proofs.Ytpophpendlnehaa
