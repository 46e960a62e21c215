/- Written by gen.py: facts on types. -/
import Derived.Test.YtpophpendlnehaaProg
import Derived.Test.YtpophpendlnehaaEngNest
namespace Go.Proofs.Ytpophpendlnehaa
open Go Go.Eng Go.Proofs
theorem fo_101_0 : fieldOff Try.prog 101 0 = some 0 := by kernel_rfl
theorem fo_101_1 : fieldOff Try.prog 101 1 = some 1 := by kernel_rfl
theorem fo_44_0 : fieldOff Try.prog 44 0 = some 0 := by kernel_rfl
theorem fo_44_1 : fieldOff Try.prog 44 1 = some 1 := by kernel_rfl
theorem fo_44_2 : fieldOff Try.prog 44 2 = some 2 := by kernel_rfl
theorem fo_44_3 : fieldOff Try.prog 44 3 = some 3 := by kernel_rfl
theorem fo_98_0 : fieldOff Try.prog 98 0 = some 0 := by kernel_rfl
theorem fo_98_1 : fieldOff Try.prog 98 1 = some 1 := by kernel_rfl
theorem fo_98_2 : fieldOff Try.prog 98 2 = some 2 := by kernel_rfl
theorem tk_26 : tk Try.prog 26 = some (false, 1) := by kernel_rfl
theorem tk_3 : tk Try.prog 3 = some (false, 1) := by kernel_rfl
theorem tk_42 : tk Try.prog 42 = some (false, 1) := by kernel_rfl
theorem tk_44 : tk Try.prog 44 = some (true, 4) := by kernel_rfl
theorem tk_5 : tk Try.prog 5 = some (false, 1) := by kernel_rfl
theorem tk_96 : tk Try.prog 96 = some (false, 1) := by kernel_rfl
theorem z_44 : (Try.prog.info? 44).map (·.zero) = some (some (.agg #[.int .i64 0, .int .i64 0, .int .u32 0, .slice none 0 0])) := by kernel_rfl
theorem zi_5 : (Try.prog.info? 5).map (fun i => (i.zero, i.size, i.bytes)) = some (some (.int .u8 0), 1, 1) := by kernel_rfl
end Go.Proofs.Ytpophpendlnehaa
