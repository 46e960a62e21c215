/- Written by gen2.py: facts on types. -/
import Derived.Test.YtgganckggdjpaaaProg
import Derived.Test.YtgganckggdjpaaaEngNn
namespace Go.Proofs.Ytgganckggdjpaaa
open Go Go.Eng Go.Proofs

theorem fo_80_0 : fieldOff Try.prog 80 0 = some 0 := by kernel_rfl
theorem fo_82_0 : fieldOff Try.prog 82 0 = some 0 := by kernel_rfl
theorem fo_82_1 : fieldOff Try.prog 82 1 = some 1 := by kernel_rfl
theorem fo_82_2 : fieldOff Try.prog 82 2 = some 2 := by kernel_rfl
theorem fo_82_3 : fieldOff Try.prog 82 3 = some 3 := by kernel_rfl
theorem fo_82_4 : fieldOff Try.prog 82 4 = some 4 := by kernel_rfl
theorem me_84_Len : methB Try.prog 84 "Len" 41 = true := by kernel_rfl
theorem me_84_Less : methB Try.prog 84 "Less" 113 = true := by kernel_rfl
theorem me_84_Pop : methB Try.prog 84 "Pop" 114 = true := by kernel_rfl
theorem me_84_Push : methB Try.prog 84 "Push" 115 = true := by kernel_rfl
theorem me_84_Swap : methB Try.prog 84 "Swap" 116 = true := by kernel_rfl
theorem tk_22 : tk Try.prog 22 = some (false, 1) := by kernel_rfl
theorem tk_25 : tk Try.prog 25 = some (false, 1) := by kernel_rfl
theorem tk_3 : tk Try.prog 3 = some (false, 1) := by kernel_rfl
theorem tk_4 : tk Try.prog 4 = some (false, 1) := by kernel_rfl
theorem tk_78 : tk Try.prog 78 = some (false, 1) := by kernel_rfl
theorem zi_25 : (Try.prog.info? 25).map (fun i => (i.zero, i.size, i.bytes)) = some (some (.slice none 0 0), 1, 24) := by kernel_rfl
theorem zi_3 : (Try.prog.info? 3).map (fun i => (i.zero, i.size, i.bytes)) = some (some (.int .i64 0), 1, 8) := by kernel_rfl
theorem zi_4 : (Try.prog.info? 4).map (fun i => (i.zero, i.size, i.bytes)) = some (some (.bool false), 1, 1) := by kernel_rfl
end Go.Proofs.Ytgganckggdjpaaa
