/- For the plain laws: bits of whole numbers, as natural ones. -/
import Derived.Test.YtgganckggdjpaaaEngPure
set_option linter.unusedVariables false
namespace Go.Eng
open Go

theorem wrapU8 (n : Nat) : IntKind.wrap .u8 (n : Int) = ((n % 256 : Nat) : Int) := by simp [IntKind.wrap, IntKind.bits, IntKind.signed]
theorem wrapU16 (n : Nat) : IntKind.wrap .u16 (n : Int) = ((n % 65536 : Nat) : Int) := by simp [IntKind.wrap, IntKind.bits, IntKind.signed]
theorem wrapU32 (n : Nat) : IntKind.wrap .u32 (n : Int) = ((n % 4294967296 : Nat) : Int) := by simp [IntKind.wrap, IntKind.bits, IntKind.signed]
theorem wrapU64 (n : Nat) : IntKind.wrap .u64 (n : Int) = ((n % 18446744073709551616 : Nat) : Int) := by simp [IntKind.wrap, IntKind.bits, IntKind.signed]
theorem bv_or (N a b : Nat) (ha : a < 2 ^ N) (hb : b < 2 ^ N) : (BitVec.ofInt N (a : Int) ||| BitVec.ofInt N (b : Int)).toNat = a ||| b := by
  rw [BitVec.toNat_or, BitVec.ofInt_natCast, BitVec.ofInt_natCast, BitVec.toNat_ofNat, BitVec.toNat_ofNat, Nat.mod_eq_of_lt ha, Nat.mod_eq_of_lt hb]
theorem bv_and (N a b : Nat) (ha : a < 2 ^ N) (hb : b < 2 ^ N) : (BitVec.ofInt N (a : Int) &&& BitVec.ofInt N (b : Int)).toNat = a &&& b := by
  rw [BitVec.toNat_and, BitVec.ofInt_natCast, BitVec.ofInt_natCast, BitVec.toNat_ofNat, BitVec.toNat_ofNat, Nat.mod_eq_of_lt ha, Nat.mod_eq_of_lt hb]
theorem bv_xor (N a b : Nat) (ha : a < 2 ^ N) (hb : b < 2 ^ N) : (BitVec.ofInt N (a : Int) ^^^ BitVec.ofInt N (b : Int)).toNat = a ^^^ b := by
  rw [BitVec.toNat_xor, BitVec.ofInt_natCast, BitVec.ofInt_natCast, BitVec.toNat_ofNat, BitVec.toNat_ofNat, Nat.mod_eq_of_lt ha, Nat.mod_eq_of_lt hb]
theorem and_lt (N a b : Nat) (ha : a < 2 ^ N) : a &&& b < 2 ^ N := Nat.lt_of_le_of_lt Nat.and_le_left ha
theorem orU64 (a b : Nat) (ha : a < 2 ^ 64) (hb : b < 2 ^ 64) : orI .u64 a b = ((a ||| b : Nat) : Int) := by
  unfold orI
  rw [show IntKind.bits .u64 = 64 from rfl, bv_or 64 a b ha hb, wrapU64, Nat.mod_eq_of_lt (Nat.or_lt_two_pow ha hb)]
theorem orU32 (a b : Nat) (ha : a < 2 ^ 32) (hb : b < 2 ^ 32) : orI .u32 a b = ((a ||| b : Nat) : Int) := by
  unfold orI
  rw [show IntKind.bits .u32 = 32 from rfl, bv_or 32 a b ha hb, wrapU32, Nat.mod_eq_of_lt (Nat.or_lt_two_pow ha hb)]
theorem orU8 (a b : Nat) (ha : a < 2 ^ 8) (hb : b < 2 ^ 8) : orI .u8 a b = ((a ||| b : Nat) : Int) := by
  unfold orI
  rw [show IntKind.bits .u8 = 8 from rfl, bv_or 8 a b ha hb, wrapU8, Nat.mod_eq_of_lt (Nat.or_lt_two_pow ha hb)]
theorem andU64 (a b : Nat) (ha : a < 2 ^ 64) (hb : b < 2 ^ 64) : andI .u64 a b = ((a &&& b : Nat) : Int) := by
  unfold andI
  rw [show IntKind.bits .u64 = 64 from rfl, bv_and 64 a b ha hb, wrapU64, Nat.mod_eq_of_lt (and_lt 64 a b ha)]
theorem andU32 (a b : Nat) (ha : a < 2 ^ 32) (hb : b < 2 ^ 32) : andI .u32 a b = ((a &&& b : Nat) : Int) := by
  unfold andI
  rw [show IntKind.bits .u32 = 32 from rfl, bv_and 32 a b ha hb, wrapU32, Nat.mod_eq_of_lt (and_lt 32 a b ha)]
theorem andU8 (a b : Nat) (ha : a < 2 ^ 8) (hb : b < 2 ^ 8) : andI .u8 a b = ((a &&& b : Nat) : Int) := by
  unfold andI
  rw [show IntKind.bits .u8 = 8 from rfl, bv_and 8 a b ha hb, wrapU8, Nat.mod_eq_of_lt (and_lt 8 a b ha)]
theorem xorU32 (a b : Nat) (ha : a < 2 ^ 32) (hb : b < 2 ^ 32) : xorI .u32 a b = ((a ^^^ b : Nat) : Int) := by
  unfold xorI
  rw [show IntKind.bits .u32 = 32 from rfl, bv_xor 32 a b ha hb, wrapU32, Nat.mod_eq_of_lt (Nat.xor_lt_two_pow ha hb)]
theorem shr_nat (k : IntKind) (a s : Nat) (h : s ≤ k.bits) : shrI k a s = ((a >>> s : Nat) : Int) := by
  unfold shrI
  rw [Int.toNat_natCast, Nat.min_eq_left h, Int.fdiv_eq_ediv_of_nonneg _ (Int.le_of_lt (Int.pow_pos (by omega))), Nat.shiftRight_eq_div_pow]
  simp
theorem shl_nat (k : IntKind) (a s : Nat) (h : s ≤ k.bits) : shlI k a s = IntKind.wrap k ((a <<< s : Nat) : Int) := by
  unfold shlI
  rw [Int.toNat_natCast, Nat.min_eq_left h, Nat.shiftLeft_eq]
  simp
theorem tmod_nat (a c : Nat) : Int.tmod (a : Int) (c : Int) = ((a % c : Nat) : Int) := by rw [Int.tmod_eq_emod_of_nonneg (by omega)]; simp
theorem tdiv_nat (a c : Nat) : Int.tdiv (a : Int) (c : Int) = ((a / c : Nat) : Int) := by simp

/-! ### Rows of bits, the lowest first -/
def bt1 (x i : Nat) : Int := ((x.testBit i).toNat : Int)
theorem bt1_div (x i : Nat) : bt1 x i = ((x / 2 ^ i % 2 : Nat) : Int) := by rw [bt1, Nat.toNat_testBit]
theorem bt1_01 (x i : Nat) : bt1 x i = 0 ∨ bt1 x i = 1 := by
  unfold bt1
  cases x.testBit i <;> simp
def bN (x n : Nat) : List Int := (List.range n).map (bt1 x)
@[simp] theorem bN_len (x n : Nat) : (bN x n).length = n := by simp [bN]
@[simp] theorem bN_zero (x : Nat) : bN x 0 = [] := rfl
theorem bN_at (x n i : Nat) (h : i < (bN x n).length) : (bN x n)[i] = bt1 x i := by simp [bN]
theorem bN_ext (x y n : Nat) (h : ∀ i, i < n → x.testBit i = y.testBit i) : bN x n = bN y n := map_same n _ _ (fun i hi => by unfold bt1; rw [h i hi])
theorem bN_add (x k j : Nat) : bN x (k + j) = bN x k ++ bN (x >>> k) j := by
  apply List.ext_getElem
  · simp
  · intro i h1 h2
    rw [bN_at]
    by_cases h : i < k
    · rw [List.getElem_append_left (by simpa using h), bN_at]
    · rw [List.getElem_append_right (by simpa using h), bN_at]
      unfold bt1
      rw [Nat.testBit_shiftRight]
      congr 3
      simp
      omega
theorem bN_succ (x n : Nat) : bN x (n + 1) = bN x n ++ [bt1 x n] := by simp [bN, List.range_succ]
theorem bN_mod (x n m : Nat) (h : n ≤ m) : bN (x % 2 ^ m) n = bN x n := bN_ext _ _ _ fun i hi => by
  rw [Nat.testBit_mod_two_pow]
  simp; omega
theorem bN_or (r x k n : Nat) (hr : r < 2 ^ k) : bN (r ||| (x <<< k)) (k + n) = bN r k ++ bN x n := by
  rw [bN_add]
  congr 1
  · refine bN_ext _ _ _ fun i hi => ?_
    rw [Nat.testBit_or, Nat.testBit_shiftLeft]
    have : ¬ i ≥ k := by omega
    simp [this]
  · refine bN_ext _ _ _ fun i hi => ?_
    rw [Nat.testBit_shiftRight, Nat.testBit_or, Nat.testBit_shiftLeft]
    have h1 : r.testBit (k + i) = false := Nat.testBit_lt_two_pow (Nat.lt_of_lt_of_le hr (Nat.pow_le_pow_right (by omega) (by omega)))
    simp [h1]
theorem bN_low (r k n : Nat) (hr : r < 2 ^ k) : bN r (k + n) = bN r k ++ bN 0 n := by
  have := bN_or r 0 k n hr
  simpa using this
/-- Bytes' bits. -/
def bO (b : List Int) : List Int := b.flatMap (fun x => bN x.toNat 8)
@[simp] theorem bO_nil : bO [] = [] := rfl
theorem bO_append (a b : List Int) : bO (a ++ b) = bO a ++ bO b := by simp [bO]
theorem bO_one (x : Int) : bO [x] = bN x.toNat 8 := by simp [bO]
theorem bO_len (b : List Int) : (bO b).length = 8 * b.length := by
  induction b with
  | nil => rfl
  | cons x b ih => simp [bO] at ih ⊢; omega
theorem bO_at (b : List Int) (i : Nat) (h : i < (bO b).length) : (bO b)[i] = bt1 (gd b ((i / 8 : Nat) : Int)).toNat (i % 8) := by
  induction b generalizing i with
  | nil => simp at h
  | cons x b ih =>
    have e : bO (x :: b) = bN x.toNat 8 ++ bO b := by simp [bO]
    by_cases hi : i < 8
    · have h0 : i / 8 = 0 := by omega
      have h1 : i % 8 = i := by omega
      simp only [e]
      rw [List.getElem_append_left (by simpa using hi), bN_at, h0, h1]
      rfl
    · simp only [e]
      rw [List.getElem_append_right (by simp; omega)]
      have hb : i - 8 < (bO b).length := by rw [bO_len] at h ⊢; simp at h; omega
      have h1 := ih (i - 8) hb
      simp only [bN_len]
      rw [h1]
      have h2 : i / 8 = (i - 8) / 8 + 1 := by omega
      have h3 : (i - 8) % 8 = i % 8 := by omega
      rw [h3, h2]
      congr 2
end Go.Eng
