/- What DelB needs. -/
import Derived.Test.YtedokgdilpfomaaPureDelP
set_option linter.unusedVariables false
set_option linter.unusedSimpArgs false
namespace Go.Proofs.Ytedokgdilpfomaa
open Go Go.Eng Go.Proofs
/-! ### A block's bytes -/
def blk (b : List Int) (n i : Nat) : List Int := subL b ((i * n : Nat) : Int) ((min b.length (i * n + n) : Nat) : Int)
theorem blk_len (b : List Int) (n i : Nat) (h : i < bk b.length n) : (blk b n i).length = min n (b.length - i * n) := by
  have h1 := bk_lt h
  unfold blk
  rw [subL_len b (i * n) (min b.length (i * n + n)) (by omega)]
  omega
theorem block38 (b : List Int) (n i : Int) (hb : b.length ≤ 140737488351232) (hn : -9223372036854775808 ≤ n ∧ n ≤ 9223372036854775807) (hi : i ≤ 9223372036854775807) : F38.m b n i = some (if i < 0 ∨ ((bk b.length n.toNat : Nat) : Int) ≤ i then [] else blk b n.toNat i.toNat) := by
  unfold F38.m
  by_cases h1 : i < 0
  · rw [if_pos h1, if_pos (.inl h1)]
  rw [if_neg h1, blocks39 _ _ (by omega) hn.2, Option.bind_some, Int.toNat_natCast]
  by_cases h2 : ((bk b.length n.toNat : Nat) : Int) ≤ i
  · rw [if_pos h2, if_pos (.inr h2)]
  rw [if_neg h2, if_neg (show ¬ (i < 0 ∨ ((bk b.length n.toNat : Nat) : Int) ≤ i) by omega)]
  obtain ⟨i, rfl⟩ := nat_of (show 0 ≤ i by omega)
  have h3 := bk_lt (show i < bk b.length n.toNat by omega)
  obtain ⟨n, rfl⟩ := nat_of (show 0 ≤ n by omega)
  rw [Int.toNat_natCast] at h3
  have e1 : IntKind.wrap .i64 ((i : Int) * (n : Int)) = ((i * n : Nat) : Int) := by
    rw [show (i : Int) * (n : Int) = ((i * n : Nat) : Int) by simp]
    exact w64 (by omega) (by omega)
  rw [e1, w64 (n := (b.length : Int) - ((i * n : Nat) : Int)) (by omega) (by omega), show (b.length : Int) - ((i * n : Nat) : Int) = ((b.length - i * n : Nat) : Int) by omega, minN, if_pos (by omega)]
  have h4 := subL_len b (i * n) b.length (by omega)
  rw [h4, if_pos (by omega)]
  unfold F60.m
  have e2 : subL (subL b ((i * n : Nat) : Int) (b.length : Int)) 0 ((min n (b.length - i * n) : Nat) : Int) = blk b n i := by
    unfold blk
    have l1 := subL_len (subL b ((i * n : Nat) : Int) (b.length : Int)) 0 (min n (b.length - i * n)) (by omega)
    have l2 := subL_len b (i * n) (min b.length (i * n + n)) (by omega)
    refine ext_gd (by rw [show (0 : Int) = ((0 : Nat) : Int) from rfl, l1, l2]; omega) (fun k hk => ?_)
    rw [show (0 : Int) = ((0 : Nat) : Int) from rfl, l1] at hk
    rw [show (0 : Int) = ((0 : Nat) : Int) from rfl, subL_at _ _ _ _ (by omega), subL_at _ _ _ _ (by omega), subL_at _ _ _ _ (by omega), Nat.zero_add]
  rw [e2, Int.toNat_natCast, Int.toNat_natCast]
  have h5 := blk_len b n i (by rw [Int.toNat_natCast] at h2; omega)
  rw [if_pos (by simp; omega)]
  rfl
theorem blocks36 (n b : Int) (hn : n ≤ 9223372036854775807) (hb : b ≤ 9223372036854775807) : F36.m n b = some ((bk n.toNat b.toNat : Nat) : Int) := by
  unfold F36.m bk
  by_cases h1 : n < 1
  · rw [if_pos h1, if_pos (.inl (by omega))]; rfl
  rw [if_neg h1]
  by_cases h2 : b < 1
  · rw [if_pos h2, if_pos (.inr (by omega))]; rfl
  rw [if_neg h2, if_pos (by omega), if_neg (show ¬ (n.toNat = 0 ∨ b.toNat = 0) by omega)]
  obtain ⟨n, rfl⟩ := nat_of (show 0 ≤ n by omega)
  obtain ⟨b, rfl⟩ := nat_of (show 0 ≤ b by omega)
  rw [tmod_nat, tdiv_nat, Int.toNat_natCast, Int.toNat_natCast]
  have hq : n / b ≤ n := Nat.div_le_self _ _
  have key : (n - 1) / b + 1 = n / b + if 0 < n % b then 1 else 0 := by
    have h3 : n / b * b + n % b = n := by rw [Nat.mul_comm]; exact Nat.div_add_mod n b
    have h4 := Nat.mod_lt n (show b > 0 by omega)
    generalize n / b = q at h3 hq ⊢
    generalize n % b = r at h3 h4 ⊢
    by_cases c : 0 < r
    · rw [if_pos c]
      congr 1
      refine Nat.div_eq_of_lt_le (by omega) ?_
      rw [Nat.add_mul]; omega
    · rw [if_neg c]
      cases q with
      | zero => omega
      | succ q =>
        rw [Nat.add_mul, Nat.one_mul] at h3
        have e : (n - 1) / b = q := by
          refine Nat.div_eq_of_lt_le ?_ ?_
          · omega
          · rw [Nat.add_mul]; omega
        omega
  rw [key]
  by_cases c : 0 < n % b
  · rw [if_pos (by omega), if_pos c]
    simp only [F36.j1]
    have : n / b < n ∨ b = 1 := by
      by_cases e : b = 1
      · exact .inr e
      · exact .inl (Nat.div_lt_self (by omega) (by omega))
    have hlt : n / b < n := by
      rcases this with h | h
      · exact h
      · subst h; omega
    generalize n / b = q at hq hlt ⊢
    rw [w64 (n := (q : Int)) (by omega) (by omega), w64 (by omega) (by omega)]
    rfl
  · rw [if_neg (by omega), if_neg c]
    simp only [F36.j1]
    generalize n / b = q at hq ⊢
    rw [w64 (n := (q : Int)) (by omega) (by omega)]
    rfl
theorem block37 (b : List Int) (n i : Int) (hb : b.length ≤ 1000000) (hn : -9223372036854775808 ≤ n ∧ n ≤ 9223372036854775807) (hi : i ≤ 9223372036854775807) : F37.m b n i = some (if i < 0 ∨ ((bk b.length n.toNat : Nat) : Int) ≤ i then [] else blk b n.toNat i.toNat) := by
  unfold F37.m
  by_cases h1 : i < 0
  · rw [if_pos h1, if_pos (.inl h1)]
  rw [if_neg h1, blocks36 _ _ (by omega) hn.2, Option.bind_some, Int.toNat_natCast]
  by_cases h2 : ((bk b.length n.toNat : Nat) : Int) ≤ i
  · rw [if_pos h2, if_pos (.inr h2)]
  rw [if_neg h2, if_neg (show ¬ (i < 0 ∨ ((bk b.length n.toNat : Nat) : Int) ≤ i) by omega)]
  obtain ⟨i, rfl⟩ := nat_of (show 0 ≤ i by omega)
  have h3 := bk_lt (show i < bk b.length n.toNat by omega)
  obtain ⟨n, rfl⟩ := nat_of (show 0 ≤ n by omega)
  rw [Int.toNat_natCast] at h3
  have e1 : IntKind.wrap .i64 ((i : Int) * (n : Int)) = ((i * n : Nat) : Int) := by
    rw [show (i : Int) * (n : Int) = ((i * n : Nat) : Int) by simp]
    exact w64 (by omega) (by omega)
  rw [e1, w64 (n := (b.length : Int) - ((i * n : Nat) : Int)) (by omega) (by omega)]
  have fin : ∀ d : Nat, i * n ≤ d → d ≤ b.length → F37.j1 b (n : Int) (i : Int) (d : Int) = some (subL b ((i * n : Nat) : Int) (d : Int)) := fun d hd1 hd2 => by
    simp only [F37.j1]
    rw [e1, if_pos (by omega)]
  rw [Int.toNat_natCast, Int.toNat_natCast]
  unfold blk
  by_cases c : (n : Int) < (b.length : Int) - ((i * n : Nat) : Int)
  · rw [if_pos c]
    have hin : i < b.length := by
      have : i * 1 ≤ i * n := Nat.mul_le_mul_left i (by omega)
      omega
    rw [w64 (n := (i : Int) + 1) (by omega) (by omega)]
    have e2 : ((i : Int) + 1) * (n : Int) = ((i * n + n : Nat) : Int) := by
      rw [show (i : Int) + 1 = ((i + 1 : Nat) : Int) by omega, show ((i + 1 : Nat) : Int) * (n : Int) = (((i + 1) * n : Nat) : Int) by simp, Nat.add_mul, Nat.one_mul]
    rw [e2, w64 (by omega) (by omega), fin _ (by omega) (by omega), Nat.min_eq_right (by omega)]
  · rw [if_neg c, fin _ (by omega) (Nat.le_refl _), Nat.min_eq_left (by omega)]
end Go.Proofs.Ytedokgdilpfomaa
