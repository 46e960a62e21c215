/- Written by gen2.py: facts on types. -/
import Derived.Test.YtedokgdilpfomaaProg
import Derived.Test.YtedokgdilpfomaaEngOwn
namespace Go.Proofs.Ytedokgdilpfomaa
open Go Go.Eng Go.Proofs

theorem fo_35_0 : fieldOff Try.prog 35 0 = some 0 := by kernel_rfl
theorem fo_35_1 : fieldOff Try.prog 35 1 = some 1 := by kernel_rfl
theorem fo_35_2 : fieldOff Try.prog 35 2 = some 2 := by kernel_rfl
theorem fo_35_3 : fieldOff Try.prog 35 3 = some 3 := by kernel_rfl
theorem fo_52_0 : fieldOff Try.prog 52 0 = some 0 := by kernel_rfl
theorem fo_52_1 : fieldOff Try.prog 52 1 = some 1 := by kernel_rfl
theorem fo_52_2 : fieldOff Try.prog 52 2 = some 2 := by kernel_rfl
theorem fo_97_0 : fieldOff Try.prog 97 0 = some 0 := by kernel_rfl
theorem fo_97_1 : fieldOff Try.prog 97 1 = some 1 := by kernel_rfl
theorem me_29_Range : methB Try.prog 29 "Range" 18 = true := by kernel_rfl
theorem tk_22 : tk Try.prog 22 = some (false, 1) := by kernel_rfl
theorem tk_23 : tk Try.prog 23 = some (false, 1) := by kernel_rfl
theorem tk_3 : tk Try.prog 3 = some (false, 1) := by kernel_rfl
theorem tk_35 : tk Try.prog 35 = some (true, 4) := by kernel_rfl
theorem tk_5 : tk Try.prog 5 = some (false, 1) := by kernel_rfl
theorem tk_52 : tk Try.prog 52 = some (true, 3) := by kernel_rfl
theorem tk_79 : tk Try.prog 79 = some (false, 1) := by kernel_rfl
theorem tk_94 : tk Try.prog 94 = some (false, 1) := by kernel_rfl
theorem xf_73 : Extern.find Try.f73 = some Extern.BytealgCompare.compare := by kernel_rfl
theorem xn_73 : (Extern.findNext Try.f73).isNone = true := by kernel_rfl
theorem z_3 : (Try.prog.info? 3).map (·.zero) = some (some (.int .i64 0)) := by kernel_rfl
theorem z_35 : (Try.prog.info? 35).map (·.zero) = some (some (.agg #[.int .u8 0, .int .i64 0, .int .i64 0, .slice none 0 0])) := by kernel_rfl
theorem z_52 : (Try.prog.info? 52).map (·.zero) = some (some (.agg #[.int .i64 0, .int .i64 0, .int .i64 0])) := by kernel_rfl
theorem zeq_52 : EqE Try.prog 10000 52 true (Enc.pair (Enc.int .i64) (Enc.pair (Enc.int .i64) (Enc.int .i64))) := (EqE.struct (E := (Enc.pair (Enc.int .i64) (Enc.pair (Enc.int .i64) (Enc.int .i64)))) Try.underlying52 (by kernel_rfl) (EqFs.cons (A := (Enc.int .i64)) rfl rfl tk_3 (fun _ => rfl) (EqE.int _ Try.underlying3) (EqFs.cons (A := (Enc.int .i64)) rfl rfl tk_3 (fun _ => rfl) (EqE.int _ Try.underlying3) (EqFs.one (A := (Enc.int .i64)) rfl rfl tk_3 (fun _ => rfl) (EqE.int _ Try.underlying3)))))
theorem zi_22 : (Try.prog.info? 22).map (fun i => (i.zero, i.size, i.bytes)) = some (some (.slice none 0 0), 1, 24) := by kernel_rfl
theorem zi_3 : (Try.prog.info? 3).map (fun i => (i.zero, i.size, i.bytes)) = some (some (.int .i64 0), 1, 8) := by kernel_rfl
theorem zi_35 : (Try.prog.info? 35).map (fun i => (i.zero, i.size, i.bytes)) = some (some (.agg #[.int .u8 0, .int .i64 0, .int .i64 0, .slice none 0 0]), 4, 48) := by kernel_rfl
theorem zi_5 : (Try.prog.info? 5).map (fun i => (i.zero, i.size, i.bytes)) = some (some (.int .u8 0), 1, 1) := by kernel_rfl
theorem zi_52 : (Try.prog.info? 52).map (fun i => (i.zero, i.size, i.bytes)) = some (some (.agg #[.int .i64 0, .int .i64 0, .int .i64 0]), 3, 24) := by kernel_rfl
end Go.Proofs.Ytedokgdilpfomaa
