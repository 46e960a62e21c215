/- Written by gen.py: facts on types. -/
import Derived.Test.YtmedbpiapeiobaaProg
import Derived.Test.YtmedbpiapeiobaaEngNest
namespace Go.Proofs.Ytmedbpiapeiobaa
open Go Go.Eng Go.Proofs
theorem tk_22 : tk Try.prog 22 = some (false, 1) := by kernel_rfl
theorem tk_3 : tk Try.prog 3 = some (false, 1) := by kernel_rfl
theorem tk_5 : tk Try.prog 5 = some (false, 1) := by kernel_rfl
theorem z_93 : (Try.prog.info? 93).map (·.zero) = some (some (.agg #[.int .u8 0, .int .u8 0, .int .u8 0, .int .u8 0, .int .u8 0, .int .u8 0, .int .u8 0, .int .u8 0])) := by kernel_rfl
theorem zi_22 : (Try.prog.info? 22).map (fun i => (i.zero, i.size, i.bytes)) = some (some (.slice none 0 0), 1, 24) := by kernel_rfl
theorem zi_3 : (Try.prog.info? 3).map (fun i => (i.zero, i.size, i.bytes)) = some (some (.int .i64 0), 1, 8) := by kernel_rfl
theorem zi_5 : (Try.prog.info? 5).map (fun i => (i.zero, i.size, i.bytes)) = some (some (.int .u8 0), 1, 1) := by kernel_rfl
end Go.Proofs.Ytmedbpiapeiobaa
