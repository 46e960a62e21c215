/- Written by gen.py: facts on types. -/
import Derived.Test.YtpophpendlnehaaProg
import Derived.Test.YtpophpendlnehaaEngGen
namespace Go.Proofs.Ytpophpendlnehaa
open Go Go.Eng Go.Proofs
theorem fo_107_0 : fieldOff Try.prog 107 0 = some 0 := by kernel_rfl
theorem fo_107_1 : fieldOff Try.prog 107 1 = some 16 := by kernel_rfl
theorem fo_107_2 : fieldOff Try.prog 107 2 = some 32 := by kernel_rfl
theorem fo_107_3 : fieldOff Try.prog 107 3 = some 48 := by kernel_rfl
theorem tk_102 : tk Try.prog 102 = some (true, 16) := by kernel_rfl
theorem tk_3 : tk Try.prog 3 = some (false, 1) := by kernel_rfl
theorem tk_32 : tk Try.prog 32 = some (false, 1) := by kernel_rfl
theorem tk_5 : tk Try.prog 5 = some (false, 1) := by kernel_rfl
theorem tk_76 : tk Try.prog 76 = some (false, 1) := by kernel_rfl
theorem z_102 : (Try.prog.info? 102).map (·.zero) = some (some (.agg #[.int .i64 0, .int .i64 0, .int .i64 0, .int .i64 0, .int .i64 0, .int .i64 0, .int .i64 0, .int .i64 0, .int .i64 0, .int .i64 0, .int .i64 0, .int .i64 0, .int .i64 0, .int .i64 0, .int .i64 0, .int .i64 0])) := by kernel_rfl
theorem zi_3 : (Try.prog.info? 3).map (fun i => (i.zero, i.size, i.bytes)) = some (some (.int .i64 0), 1, 8) := by kernel_rfl
theorem zi_32 : (Try.prog.info? 32).map (fun i => (i.zero, i.size, i.bytes)) = some (some (.int .u16 0), 1, 2) := by kernel_rfl
theorem zi_5 : (Try.prog.info? 5).map (fun i => (i.zero, i.size, i.bytes)) = some (some (.int .u8 0), 1, 1) := by kernel_rfl
end Go.Proofs.Ytpophpendlnehaa
