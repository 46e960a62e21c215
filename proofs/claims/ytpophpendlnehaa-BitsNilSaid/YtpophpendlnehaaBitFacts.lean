/- Written by gen2.py: facts on types. -/
import Derived.Test.YtpophpendlnehaaProg
import Derived.Test.YtpophpendlnehaaEngOwn
namespace Go.Proofs.Ytpophpendlnehaa
open Go Go.Eng Go.Proofs

theorem fo_101_0 : fieldOff Try.prog 101 0 = some 0 := by kernel_rfl
theorem fo_101_1 : fieldOff Try.prog 101 1 = some 1 := by kernel_rfl
theorem fo_107_0 : fieldOff Try.prog 107 0 = some 0 := by kernel_rfl
theorem fo_107_1 : fieldOff Try.prog 107 1 = some 16 := by kernel_rfl
theorem fo_107_2 : fieldOff Try.prog 107 2 = some 32 := by kernel_rfl
theorem fo_107_3 : fieldOff Try.prog 107 3 = some 48 := by kernel_rfl
theorem fo_23_0 : fieldOff Try.prog 23 0 = some 0 := by kernel_rfl
theorem fo_23_1 : fieldOff Try.prog 23 1 = some 1 := by kernel_rfl
theorem fo_23_2 : fieldOff Try.prog 23 2 = some 2 := by kernel_rfl
theorem fo_44_0 : fieldOff Try.prog 44 0 = some 0 := by kernel_rfl
theorem fo_44_1 : fieldOff Try.prog 44 1 = some 1 := by kernel_rfl
theorem fo_44_2 : fieldOff Try.prog 44 2 = some 2 := by kernel_rfl
theorem fo_44_3 : fieldOff Try.prog 44 3 = some 3 := by kernel_rfl
theorem fo_81_0 : fieldOff Try.prog 81 0 = some 0 := by kernel_rfl
theorem fo_81_1 : fieldOff Try.prog 81 1 = some 1 := by kernel_rfl
theorem fo_81_2 : fieldOff Try.prog 81 2 = some 2 := by kernel_rfl
theorem fo_98_0 : fieldOff Try.prog 98 0 = some 0 := by kernel_rfl
theorem fo_98_1 : fieldOff Try.prog 98 1 = some 1 := by kernel_rfl
theorem fo_98_2 : fieldOff Try.prog 98 2 = some 2 := by kernel_rfl
theorem tk_102 : tk Try.prog 102 = some (true, 16) := by kernel_rfl
theorem tk_23 : tk Try.prog 23 = some (true, 3) := by kernel_rfl
theorem tk_26 : tk Try.prog 26 = some (false, 1) := by kernel_rfl
theorem tk_3 : tk Try.prog 3 = some (false, 1) := by kernel_rfl
theorem tk_32 : tk Try.prog 32 = some (false, 1) := by kernel_rfl
theorem tk_42 : tk Try.prog 42 = some (false, 1) := by kernel_rfl
theorem tk_44 : tk Try.prog 44 = some (true, 4) := by kernel_rfl
theorem tk_5 : tk Try.prog 5 = some (false, 1) := by kernel_rfl
theorem tk_76 : tk Try.prog 76 = some (false, 1) := by kernel_rfl
theorem tk_96 : tk Try.prog 96 = some (false, 1) := by kernel_rfl
theorem z_102 : (Try.prog.info? 102).map (·.zero) = some (some (.agg #[.int .i64 0, .int .i64 0, .int .i64 0, .int .i64 0, .int .i64 0, .int .i64 0, .int .i64 0, .int .i64 0, .int .i64 0, .int .i64 0, .int .i64 0, .int .i64 0, .int .i64 0, .int .i64 0, .int .i64 0, .int .i64 0])) := by kernel_rfl
theorem z_23 : (Try.prog.info? 23).map (·.zero) = some (some (.agg #[.int .u8 0, .int .i64 0, .int .i64 0])) := by kernel_rfl
theorem z_44 : (Try.prog.info? 44).map (·.zero) = some (some (.agg #[.int .i64 0, .int .i64 0, .int .u32 0, .slice none 0 0])) := by kernel_rfl
theorem zi_23 : (Try.prog.info? 23).map (fun i => (i.zero, i.size, i.bytes)) = some (some (.agg #[.int .u8 0, .int .i64 0, .int .i64 0]), 3, 24) := by kernel_rfl
theorem zi_3 : (Try.prog.info? 3).map (fun i => (i.zero, i.size, i.bytes)) = some (some (.int .i64 0), 1, 8) := by kernel_rfl
theorem zi_32 : (Try.prog.info? 32).map (fun i => (i.zero, i.size, i.bytes)) = some (some (.int .u16 0), 1, 2) := by kernel_rfl
theorem zi_5 : (Try.prog.info? 5).map (fun i => (i.zero, i.size, i.bytes)) = some (some (.int .u8 0), 1, 1) := by kernel_rfl
end Go.Proofs.Ytpophpendlnehaa
