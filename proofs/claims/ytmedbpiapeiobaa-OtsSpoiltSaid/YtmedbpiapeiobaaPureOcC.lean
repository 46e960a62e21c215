/- What OcC needs. -/
import Derived.Test.YtmedbpiapeiobaaPureOcD
set_option linter.unusedVariables false
set_option linter.unusedSimpArgs false
namespace Go.Proofs.Ytmedbpiapeiobaa
open Go Go.Eng Go.Proofs

/-- What is left to the most, of all digits. -/
def lack (b : List Int) (w : Nat) : Int := ((8 / w * b.length : Nat) : Int) * ((2 ^ w - 1 : Nat) : Int) - sumTo (digit b w) (8 / w * b.length)
theorem digit_le (b : List Int) (w i : Nat) : 0 ≤ digit b w i ∧ digit b w i ≤ ((2 ^ w - 1 : Nat) : Int) := by
  unfold digit dgt
  have : perB b (i / (8 / w)) / 2 ^ (8 - w * (i % (8 / w) + 1)) % 2 ^ w < 2 ^ w := Nat.mod_lt _ (Nat.pow_pos (by omega))
  omega
theorem sumTo_le (g : Nat → Int) (m : Int) (h : ∀ i, 0 ≤ g i ∧ g i ≤ m) : ∀ n : Nat, 0 ≤ sumTo g n ∧ sumTo g n ≤ n * m
  | 0 => by simp [sumTo]
  | n + 1 => by
    have h1 := sumTo_le g m h n
    have h2 := h n
    simp only [sumTo]
    have : ((n + 1 : Nat) : Int) * m = n * m + m := by rw [Int.natCast_add, Int.add_mul]; simp
    omega
def fac (w : Nat) : Int := if w = 1 then 128 else if w = 2 then 64 else if w = 4 then 16 else 1
theorem lack_bd (b : List Int) (hl : b.length ≤ 1000) (w : Nat) (hw : w = 1 ∨ w = 2 ∨ w = 4 ∨ w = 8) : 0 ≤ lack b w ∧ lack b w ≤ 8 / w * b.length * (2 ^ w - 1 : Nat) ∧ (8 / w * b.length : Nat) * (2 ^ w - 1) ≤ 255000 := by
  have h := sumTo_le (digit b w) _ (digit_le b w) (8 / w * b.length)
  unfold lack
  rcases hw with rfl | rfl | rfl | rfl <;> simp at h ⊢ <;> omega
theorem F29_in (b : List Int) (hl : b.length ≤ 1000) (hb : ∀ x ∈ b, 0 ≤ x ∧ x ≤ 255) (w : Nat) (hw : w = 1 ∨ w = 2 ∨ w = 4 ∨ w = 8) : F29.m b (w : Int) = some (IntKind.wrap .u16 (lack b w * fac w)) := by
  have hbd := lack_bd b hl w hw
  have hwi : isW (w : Int) := by unfold isW; omega
  have h1 : IntKind.wrap .i64 (shlI .i64 1 (w : Int) - 1) = ((2 ^ w - 1 : Nat) : Int) := by rcases hw with rfl | rfl | rfl | rfl <;> decide
  have h8 : ((8 : Int) / (w : Int)) = ((8 / w : Nat) : Int) := by rcases hw with rfl | rfl | rfl | rfl <;> decide
  unfold F29.m
  rw [F69_in _ hwi, Option.bind_some]
  simp only [if_true]
  rw [if_pos (by omega), F22_in b hl hb w hw, Option.bind_some, h1, h8]
  have h8l : 8 / w ≤ 8 := by rcases hw with rfl | rfl | rfl | rfl <;> omega
  have hn : 8 / w * b.length ≤ 8000 := by rcases hw with rfl | rfl | rfl | rfl <;> omega
  have e1 : ((8 / w : Nat) : Int) * (b.length : Int) = ((8 / w * b.length : Nat) : Int) := by simp
  have hp : (2 ^ w - 1 : Nat) ≤ 255 := by rcases hw with rfl | rfl | rfl | rfl <;> decide
  have e2 : ((8 / w * b.length : Nat) : Int) * ((2 ^ w - 1 : Nat) : Int) = ((8 / w * b.length * (2 ^ w - 1) : Nat) : Int) := by simp
  generalize hN : 8 / w * b.length = N at *
  have hNP : N * (2 ^ w - 1) ≤ 255000 := hbd.2.2
  rw [e1, w64 (n := (N : Int)) (by omega) (by omega), e2, w64 (by omega) (by omega)]
  have hs := fun k => sumTo_le (digit b w) _ (digit_le b w) k
  rw [loop_done (fun k => (((N * (2 ^ w - 1) : Nat) : Int) - sumTo (digit b w) k, (k : Int))) N (lack b w) (fun k hk => ?_) ?_ (by simp [sumTo])]
  · rw [Option.bind_some]
    simp only [F29.j1]
    rw [if_pos (by rcases hw with rfl | rfl | rfl | rfl <;> decide)]
    congr 2
    rcases hw with rfl | rfl | rfl | rfl
    · show shlI .i64 (lack b 1) 7 = _
      have : shlI .i64 (lack b 1) 7 = IntKind.wrap .i64 (lack b 1 * 128) := rfl
      rw [this, w64 (by omega) (by omega)]; rfl
    · show shlI .i64 (lack b 2) 6 = _
      have : shlI .i64 (lack b 2) 6 = IntKind.wrap .i64 (lack b 2 * 64) := rfl
      rw [this, w64 (by omega) (by omega)]; rfl
    · show shlI .i64 (lack b 4) 4 = _
      have : shlI .i64 (lack b 4) 4 = IntKind.wrap .i64 (lack b 4 * 16) := rfl
      rw [this, w64 (by omega) (by omega)]; rfl
    · show shlI .i64 (lack b 8) 0 = _
      have : shlI .i64 (lack b 8) 0 = IntKind.wrap .i64 (lack b 8 * 1) := rfl
      rw [this, w64 (by omega) (by omega)]; rfl
  · simp only [F29.b1]
    rw [if_neg (by simp)]
    unfold lack
    rw [hN, e2]
  · have h2 := hs k
    have h3 := hs (k + 1)
    have hd := digit_le b w k
    have hkm : (k : Int) * ((2 ^ w - 1 : Nat) : Int) ≤ 8000 * 255 := by
      have : k * (2 ^ w - 1) ≤ 8000 * 255 := Nat.mul_le_mul (by omega) hp
      have e : (k : Int) * ((2 ^ w - 1 : Nat) : Int) = ((k * (2 ^ w - 1) : Nat) : Int) := by simp
      omega
    simp only [F29.b1]
    rw [if_pos (by simpa using hk), if_pos (by simp; omega), gd_map _ _ _ hk, w64 (by omega) (by omega), w64 (by omega) (by omega)]
    simp only [sumTo]
    congr 3
    omega
theorem F29_out (b : List Int) (w : Int) (hw : ¬ isW w) : F29.m b w = some 0 := by
  unfold F29.m
  rw [F69_out w hw]
  rfl
theorem F71_in (b : List Int) (hl : b.length ≤ 1000) (hb : ∀ x ∈ b, 0 ≤ x ∧ x ≤ 255) (w : Nat) (hw : w = 1 ∨ w = 2 ∨ w = 4 ∨ w = 8) : F71.m b (w : Int) = some (lack b w) := by
  have hbd := lack_bd b hl w hw
  have hpos : 0 < 8 / w := by rcases hw with rfl | rfl | rfl | rfl <;> decide
  have hn : 8 / w * b.length ≤ 8000 := by rcases hw with rfl | rfl | rfl | rfl <;> omega
  have hp : (2 ^ w - 1 : Nat) ≤ 255 ∧ 1 ≤ 2 ^ w := by rcases hw with rfl | rfl | rfl | rfl <;> decide
  unfold F71.m
  rw [loop_done (fun k => (((2 ^ k : Nat) : Int), (k : Int))) w (((2 ^ w : Nat) : Int)) (fun k hk => ?_) ?_ (by rfl)]
  · simp only [Option.bind_some, F71.j1]
    rw [F23_in b hl hb w hw, Option.bind_some, allD_map b w hpos]
    generalize hN : 8 / w * b.length = N at *
    have hs := fun k => sumTo_le (fun i => ((2 ^ w - 1 : Nat) : Int) - digit b w i) ((2 ^ w - 1 : Nat) : Int) (fun i => by have := digit_le b w i; constructor <;> omega) k
    have hsum : ∀ k : Nat, sumTo (fun i => ((2 ^ w - 1 : Nat) : Int) - digit b w i) k = (k : Int) * ((2 ^ w - 1 : Nat) : Int) - sumTo (digit b w) k := by
      intro k
      induction k with
      | zero => simp [sumTo]
      | succ k ih =>
        simp only [sumTo, ih]
        have : ((k + 1 : Nat) : Int) * ((2 ^ w - 1 : Nat) : Int) = k * ((2 ^ w - 1 : Nat) : Int) + ((2 ^ w - 1 : Nat) : Int) := by rw [Int.natCast_add, Int.add_mul]; simp
        omega
    rw [loop_done (fun k => (sumTo (fun i => ((2 ^ w - 1 : Nat) : Int) - digit b w i) k, (k : Int))) N (lack b w) (fun k hk => ?_) ?_ (by simp [sumTo])]
    · rfl
    · simp only [F71.b1]
      rw [if_neg (by simp), hsum]
      unfold lack
      rw [hN]
    · have h2 := hs k
      have hd := digit_le b w k
      have hkm : (k : Int) * ((2 ^ w - 1 : Nat) : Int) ≤ 8000 * 255 := by
        have : k * (2 ^ w - 1) ≤ 8000 * 255 := Nat.mul_le_mul (by omega) hp.1
        have e : (k : Int) * ((2 ^ w - 1 : Nat) : Int) = ((k * (2 ^ w - 1) : Nat) : Int) := by simp
        omega
      simp only [F71.b1]
      rw [if_pos (by simpa using hk), if_pos (by simp; omega), gd_map _ _ _ hk, w64 (n := _ + ((2 ^ w : Nat) : Int)) (by omega) (by omega), w64 (n := _ - 1) (by omega) (by omega), w64 (by omega) (by omega), w64 (by omega) (by omega)]
      simp only [sumTo]
      congr 3
      omega
  · simp only [F71.b2]
    rw [if_neg (by omega)]
  · obtain ⟨z, hz⟩ : ∃ z : Nat, z = 2 ^ (k + 1) := ⟨_, rfl⟩
    have hz2 : z ≤ 2 ^ 8 := by rw [hz]; exact Nat.pow_le_pow_right (by omega) (by omega)
    simp only [F71.b2]
    have e : (2 : Int) * ((2 ^ k : Nat) : Int) = (z : Int) := by rw [hz, Nat.pow_succ]; simp [Int.mul_comm]
    rw [if_pos (by omega), e, w64 (by omega) (by omega), w64 (by omega) (by omega), hz]
    rfl
theorem wu16_mod (n : Int) : IntKind.wrap .u16 n = n % 65536 := by simp [IntKind.wrap, IntKind.bits, IntKind.signed]
theorem F30_in (b : List Int) (hl : b.length ≤ 1000) (hb : ∀ x ∈ b, 0 ≤ x ∧ x ≤ 255) (w : Nat) (hw : w = 1 ∨ w = 2 ∨ w = 4 ∨ w = 8) : F30.m b (w : Int) = some (IntKind.wrap .u16 (lack b w * fac w)) := by
  have hbd := lack_bd b hl w hw
  have h71 := F71_in b hl hb w hw
  have key : ∀ f : Int, f = fac w → F30.j1 b (w : Int) f = some (IntKind.wrap .u16 (lack b w * fac w)) := by
    rintro f rfl
    have hf : 1 ≤ fac w ∧ fac w ≤ 128 := by rcases hw with rfl | rfl | rfl | rfl <;> decide
    have hm : 0 ≤ lack b w * fac w ∧ lack b w * fac w ≤ 255000 * 128 := by
      constructor
      · exact Int.mul_nonneg hbd.1 (by omega)
      · refine Int.mul_le_mul ?_ hf.2 (by omega) (by omega)
        have := hbd.2.1; have := hbd.2.2
        rcases hw with rfl | rfl | rfl | rfl <;> simp at * <;> omega
    unfold F30.j1
    rw [h71, Option.bind_some, w64 (by omega) (by omega), wu16_mod, wu16_mod, Int.tmod_eq_emod_of_nonneg hm.1]
    congr 1
    omega
  unfold F30.m
  rcases hw with rfl | rfl | rfl | rfl
  · rw [if_pos (by decide)]; exact key 128 rfl
  · rw [if_neg (by decide), if_pos (by decide)]; exact key 64 rfl
  · rw [if_neg (by decide), if_neg (by decide), if_pos (by decide)]; exact key 16 rfl
  · rw [if_neg (by decide), if_neg (by decide), if_neg (by decide), if_pos (by decide)]; exact key 1 rfl
theorem F30_out (b : List Int) (w : Int) (hw : ¬ isW w) : F30.m b w = some 0 := by
  unfold isW at hw
  unfold F30.m
  rw [if_neg (by omega), if_neg (by omega), if_neg (by omega), if_neg (by omega)]
end Go.Proofs.Ytmedbpiapeiobaa
