/- Written by gen.py: facts on types. -/
import Derived.Test.YtpophpendlnehaaProg
import Derived.Test.YtpophpendlnehaaEngGen
namespace Go.Proofs.Ytpophpendlnehaa
open Go Go.Eng Go.Proofs
theorem fo_23_0 : fieldOff Try.prog 23 0 = some 0 := by kernel_rfl
theorem fo_23_1 : fieldOff Try.prog 23 1 = some 1 := by kernel_rfl
theorem fo_23_2 : fieldOff Try.prog 23 2 = some 2 := by kernel_rfl
theorem tk_23 : tk Try.prog 23 = some (true, 3) := by kernel_rfl
theorem tk_3 : tk Try.prog 3 = some (false, 1) := by kernel_rfl
theorem tk_5 : tk Try.prog 5 = some (false, 1) := by kernel_rfl
theorem z_23 : (Try.prog.info? 23).map (·.zero) = some (some (.agg #[.int .u8 0, .int .i64 0, .int .i64 0])) := by kernel_rfl
theorem zi_23 : (Try.prog.info? 23).map (fun i => (i.zero, i.size, i.bytes)) = some (some (.agg #[.int .u8 0, .int .i64 0, .int .i64 0]), 3, 24) := by kernel_rfl
theorem zi_5 : (Try.prog.info? 5).map (fun i => (i.zero, i.size, i.bytes)) = some (some (.int .u8 0), 1, 1) := by kernel_rfl
end Go.Proofs.Ytpophpendlnehaa
