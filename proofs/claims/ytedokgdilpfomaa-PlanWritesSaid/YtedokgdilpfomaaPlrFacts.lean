/- Written by gen2.py: facts on types. -/
import Derived.Test.YtedokgdilpfomaaProg
import Derived.Test.YtedokgdilpfomaaEngExc
namespace Go.Proofs.Ytedokgdilpfomaa
open Go Go.Eng Go.Proofs

theorem fo_35_0 : fieldOff Try.prog 35 0 = some 0 := by kernel_rfl
theorem fo_35_1 : fieldOff Try.prog 35 1 = some 1 := by kernel_rfl
theorem fo_35_2 : fieldOff Try.prog 35 2 = some 2 := by kernel_rfl
theorem fo_35_3 : fieldOff Try.prog 35 3 = some 3 := by kernel_rfl
theorem fo_70_0 : fieldOff Try.prog 70 0 = some 0 := by kernel_rfl
theorem fo_73_0 : fieldOff Try.prog 73 0 = some 0 := by kernel_rfl
theorem tk_22 : tk Try.prog 22 = some (false, 1) := by kernel_rfl
theorem tk_23 : tk Try.prog 23 = some (false, 1) := by kernel_rfl
theorem tk_26 : tk Try.prog 26 = some (false, 1) := by kernel_rfl
theorem tk_3 : tk Try.prog 3 = some (false, 1) := by kernel_rfl
theorem tk_35 : tk Try.prog 35 = some (true, 4) := by kernel_rfl
theorem tk_5 : tk Try.prog 5 = some (false, 1) := by kernel_rfl
theorem tk_70 : tk Try.prog 70 = some (true, 1) := by kernel_rfl
theorem z_22 : (Try.prog.info? 22).map (·.zero) = some (some (.slice none 0 0)) := by kernel_rfl
theorem z_26 : (Try.prog.info? 26).map (·.zero) = some (some (.int .i64 0)) := by kernel_rfl
theorem z_35 : (Try.prog.info? 35).map (·.zero) = some (some (.agg #[.int .u8 0, .int .i64 0, .int .i64 0, .slice none 0 0])) := by kernel_rfl
theorem z_70 : (Try.prog.info? 70).map (·.zero) = some (some (.agg #[.int .i64 0])) := by kernel_rfl
theorem zi_35 : (Try.prog.info? 35).map (fun i => (i.zero, i.size, i.bytes)) = some (some (.agg #[.int .u8 0, .int .i64 0, .int .i64 0, .slice none 0 0]), 4, 48) := by kernel_rfl
theorem zi_5 : (Try.prog.info? 5).map (fun i => (i.zero, i.size, i.bytes)) = some (some (.int .u8 0), 1, 1) := by kernel_rfl
end Go.Proofs.Ytedokgdilpfomaa
