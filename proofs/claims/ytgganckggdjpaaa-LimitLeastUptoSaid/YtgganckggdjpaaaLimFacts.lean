/- Written by gen2.py: facts on types. -/
import Derived.Test.YtgganckggdjpaaaProg
import Derived.Test.YtgganckggdjpaaaEngRow
namespace Go.Proofs.Ytgganckggdjpaaa
open Go Go.Eng Go.Proofs

theorem fo_91_0 : fieldOff Try.prog 91 0 = some 0 := by kernel_rfl
theorem fo_91_1 : fieldOff Try.prog 91 1 = some 1 := by kernel_rfl
theorem tk_25 : tk Try.prog 25 = some (false, 1) := by kernel_rfl
theorem tk_3 : tk Try.prog 3 = some (false, 1) := by kernel_rfl
theorem tk_40 : tk Try.prog 40 = some (false, 1) := by kernel_rfl
theorem tk_41 : tk Try.prog 41 = some (false, 1) := by kernel_rfl
theorem tk_5 : tk Try.prog 5 = some (false, 1) := by kernel_rfl
theorem tk_89 : tk Try.prog 89 = some (false, 1) := by kernel_rfl
theorem tk_91 : tk Try.prog 91 = some (true, 2) := by kernel_rfl
theorem tk_95 : tk Try.prog 95 = some (false, 1) := by kernel_rfl
theorem z_89 : (Try.prog.info? 89).map (·.zero) = some (some (.slice none 0 0)) := by kernel_rfl
theorem z_91 : (Try.prog.info? 91).map (·.zero) = some (some (.agg #[.int .u64 0, .slice none 0 0])) := by kernel_rfl
theorem zi_25 : (Try.prog.info? 25).map (fun i => (i.zero, i.size, i.bytes)) = some (some (.slice none 0 0), 1, 24) := by kernel_rfl
theorem zi_3 : (Try.prog.info? 3).map (fun i => (i.zero, i.size, i.bytes)) = some (some (.int .i64 0), 1, 8) := by kernel_rfl
theorem zi_40 : (Try.prog.info? 40).map (fun i => (i.zero, i.size, i.bytes)) = some (some (.int .u32 0), 1, 4) := by kernel_rfl
theorem zi_41 : (Try.prog.info? 41).map (fun i => (i.zero, i.size, i.bytes)) = some (some (.int .u64 0), 1, 8) := by kernel_rfl
theorem zi_5 : (Try.prog.info? 5).map (fun i => (i.zero, i.size, i.bytes)) = some (some (.int .u8 0), 1, 1) := by kernel_rfl
theorem zi_91 : (Try.prog.info? 91).map (fun i => (i.zero, i.size, i.bytes)) = some (some (.agg #[.int .u64 0, .slice none 0 0]), 2, 32) := by kernel_rfl
theorem zi_95 : (Try.prog.info? 95).map (fun i => (i.zero, i.size, i.bytes)) = some (some (.slice none 0 0), 1, 24) := by kernel_rfl
end Go.Proofs.Ytgganckggdjpaaa
