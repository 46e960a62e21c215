/- Written by gen2.py: facts on types. -/
import Derived.Test.YtgganckggdjpaaaProg
import Derived.Test.YtgganckggdjpaaaEngBld
namespace Go.Proofs.Ytgganckggdjpaaa
open Go Go.Eng Go.Proofs
def K0 : (Arr Int 32) := (⟨[(0 : Int), (0 : Int), (0 : Int), (0 : Int), (0 : Int), (0 : Int), (0 : Int), (0 : Int), (0 : Int), (0 : Int), (0 : Int), (0 : Int), (0 : Int), (0 : Int), (0 : Int), (0 : Int), (0 : Int), (0 : Int), (0 : Int), (0 : Int), (0 : Int), (0 : Int), (0 : Int), (0 : Int), (0 : Int), (0 : Int), (0 : Int), (0 : Int), (0 : Int), (0 : Int), (0 : Int), (0 : Int)], rfl⟩ : (Arr Int 32))
theorem fo_102_0 : fieldOff Try.prog 102 0 = some 0 := by kernel_rfl
theorem fo_102_1 : fieldOff Try.prog 102 1 = some 1 := by kernel_rfl
theorem fo_108_0 : fieldOff Try.prog 108 0 = some 0 := by kernel_rfl
theorem fo_108_1 : fieldOff Try.prog 108 1 = some 3 := by kernel_rfl
theorem fo_108_2 : fieldOff Try.prog 108 2 = some 5 := by kernel_rfl
theorem fo_47_0 : fieldOff Try.prog 47 0 = some 0 := by kernel_rfl
theorem fo_47_1 : fieldOff Try.prog 47 1 = some 1 := by kernel_rfl
theorem fo_47_2 : fieldOff Try.prog 47 2 = some 2 := by kernel_rfl
theorem fo_49_1 : fieldOff Try.prog 49 1 = some 1 := by kernel_rfl
theorem fo_49_2 : fieldOff Try.prog 49 2 = some 2 := by kernel_rfl
theorem fo_49_3 : fieldOff Try.prog 49 3 = some 3 := by kernel_rfl
theorem fo_49_4 : fieldOff Try.prog 49 4 = some 4 := by kernel_rfl
theorem fo_49_5 : fieldOff Try.prog 49 5 = some 5 := by kernel_rfl
theorem fo_49_6 : fieldOff Try.prog 49 6 = some 6 := by kernel_rfl
theorem fo_58_0 : fieldOff Try.prog 58 0 = some 0 := by kernel_rfl
theorem fo_58_1 : fieldOff Try.prog 58 1 = some 1 := by kernel_rfl
theorem fo_61_0 : fieldOff Try.prog 61 0 = some 0 := by kernel_rfl
theorem fo_61_1 : fieldOff Try.prog 61 1 = some 4 := by kernel_rfl
theorem fo_61_2 : fieldOff Try.prog 61 2 = some 6 := by kernel_rfl
theorem fo_61_3 : fieldOff Try.prog 61 3 = some 10 := by kernel_rfl
theorem tk_105 : tk Try.prog 105 = some (false, 1) := by kernel_rfl
theorem tk_3 : tk Try.prog 3 = some (false, 1) := by kernel_rfl
theorem tk_34 : tk Try.prog 34 = some (false, 1) := by kernel_rfl
theorem tk_47 : tk Try.prog 47 = some (true, 3) := by kernel_rfl
theorem tk_5 : tk Try.prog 5 = some (false, 1) := by kernel_rfl
theorem tk_58 : tk Try.prog 58 = some (true, 2) := by kernel_rfl
theorem tk_59 : tk Try.prog 59 = some (true, 4) := by kernel_rfl
theorem tk_61 : tk Try.prog 61 = some (true, 11) := by kernel_rfl
theorem tk_67 : tk Try.prog 67 = some (true, 32) := by kernel_rfl
theorem to_61_3 : fieldTO Try.prog 61 3 = some (3, 10) := by kernel_rfl
theorem z_58 : (Try.prog.info? 58).map (·.zero) = some (some (.agg #[.int .i64 0, .int .i64 0])) := by kernel_rfl
theorem z_61 : (Try.prog.info? 61).map (·.zero) = some (some (.agg #[.int .i64 0, .int .i64 0, .int .i64 0, .int .i64 0, .int .i64 0, .int .i64 0, .int .i64 0, .int .i64 0, .int .i64 0, .int .i64 0, .int .i64 0])) := by kernel_rfl
theorem z_67 : (Try.prog.info? 67).map (·.zero) = some (some (.agg #[.int .u8 0, .int .u8 0, .int .u8 0, .int .u8 0, .int .u8 0, .int .u8 0, .int .u8 0, .int .u8 0, .int .u8 0, .int .u8 0, .int .u8 0, .int .u8 0, .int .u8 0, .int .u8 0, .int .u8 0, .int .u8 0, .int .u8 0, .int .u8 0, .int .u8 0, .int .u8 0, .int .u8 0, .int .u8 0, .int .u8 0, .int .u8 0, .int .u8 0, .int .u8 0, .int .u8 0, .int .u8 0, .int .u8 0, .int .u8 0, .int .u8 0, .int .u8 0])) := by kernel_rfl
end Go.Proofs.Ytgganckggdjpaaa
