/- What DeltaJoins needs. -/
import Derived.Test.YtedokgdilpfomaaPureDelB
import Derived.Test.YtedokgdilpfomaaYDeltaJoins
set_option linter.unusedVariables false
set_option linter.unusedSimpArgs false
namespace Go.Proofs.Ytedokgdilpfomaa
open Go Go.Eng Go.Proofs
theorem pure_DeltaJoins (a0 : (List Int)) (a1 : Int) (w0 : ∀ x ∈ a0, InR .u8 x) (m0 : a0.length ≤ maxLen) (w1 : InR .i64 a1) (z0 : a0.length * 1 ≤ 140737488351232) :
    F12.m a0 a1 = some true := by
  have h1 := inI64 w1
  have hsmall : ∀ c : Bool, ((decide (((if (0 : Int) < 0 ∨ ((bk a0.length a1.toNat : Nat) : Int) ≤ 0 then [] else blk a0 a1.toNat (0 : Int).toNat).length : Int) = 0)) == c) = true ↔ (decide (a1 < 1 ∨ a0.length = 0) = c) := by
    intro c
    have e : (((if (0 : Int) < 0 ∨ ((bk a0.length a1.toNat : Nat) : Int) ≤ 0 then [] else blk a0 a1.toNat (0 : Int).toNat).length : Int) = 0) ↔ (a1 < 1 ∨ a0.length = 0) := by
      by_cases hz : a1 < 1 ∨ a0.length = 0
      · rw [if_pos (by unfold bk; rw [if_pos (by omega)]; omega)]
        simp only [List.length_nil]
        constructor
        · intro _; exact hz
        · intro _; rfl
      · have hb : 0 < bk a0.length a1.toNat := by unfold bk; rw [if_neg (by omega)]; exact Nat.succ_pos _
        have hl := blk_len a0 a1.toNat 0 hb
        rw [if_neg (by omega)]
        rw [show (0 : Int).toNat = 0 from rfl, hl]
        rw [Nat.zero_mul]
        omega
    rw [beq_iff_eq, decide_eq_decide.2 e]
  unfold F12.m
  by_cases c0 : (5000 : Int) < (a0.length : Int)
  · rw [if_pos c0, block38 a0 a1 0 (by omega) h1 (by omega), Option.bind_some]
    by_cases c1 : a1 < 1
    · rw [if_pos c1, if_pos ((hsmall true).2 (decide_eq_true (.inl c1))), delta_awake]; rfl
    · rw [if_neg c1, if_pos ((hsmall _).2 (decide_eq_decide.2 (by omega))), delta_awake]; rfl
  rw [if_neg c0]
  by_cases c1 : a1 < 1
  · rw [if_pos c1, block38 a0 a1 0 (by omega) h1 (by omega), Option.bind_some, if_pos c1, if_pos ((hsmall true).2 (decide_eq_true (.inl c1))), delta_awake]; rfl
  rw [if_neg c1, blocks39 _ _ (by omega) h1.2, Option.bind_some, Int.toNat_natCast]
  obtain ⟨n, rfl⟩ := nat_of (show 0 ≤ a1 by omega)
  rw [Int.toNat_natCast]
  have hbn : bk a0.length n ≤ a0.length := by
    unfold bk
    split
    · omega
    · have := Nat.div_le_self (a0.length - 1) n
      omega
  rw [if_neg (by omega)]
  obtain ⟨y, hy, hQ⟩ := loop_ends (b := F12.b1 a0 (n : Int) ((bk a0.length n : Nat) : Int)) (fun x => ∃ k : Nat, x = (a0.take (k * n), (k : Int)) ∧ k ≤ bk a0.length n) (fun x => (((bk a0.length n : Nat) : Int) - x.2).toNat)
    (fun y => y = .inr a0) (fun x hx => by
      obtain ⟨k, rfl, hk⟩ := hx
      simp only [F12.b1]
      by_cases hk' : k < bk a0.length n
      · have h3 := bk_lt hk'
        have hl := blk_len a0 n k hk'
        rw [if_pos (by omega), block38 a0 n k (by omega) h1 (by omega), Option.bind_some, Int.toNat_natCast, Int.toNat_natCast, if_neg (show ¬ ((k : Int) < 0 ∨ ((bk a0.length n : Nat) : Int) ≤ (k : Int)) by omega), hl, if_neg (by omega), if_neg (by omega)]
        have ha : a0.take (k * n) ++ blk a0 n k = a0.take ((k + 1) * n) := by
          unfold blk subL
          rw [Int.toNat_natCast, Int.toNat_natCast, ← List.take_add]
          rw [Nat.add_mul, Nat.one_mul]
          by_cases c : a0.length ≤ k * n + n
          · rw [Nat.min_eq_left c, List.take_of_length_le (by omega), List.take_of_length_le c]
          · rw [Nat.min_eq_right (by omega)]; congr 1; omega
        have hg : ((a0.take (k * n)).length + (blk a0 n k).length) * 1 ≤ 140737488355328 ∧ (a0.take (k * n)).length + (blk a0 n k).length ≤ 9223372036854775807 := by
          rw [List.length_take, hl]; omega
        have fin : F12.j2 (k : Int) (a0.take (k * n) ++ blk a0 n k) = some (.inl (a0.take ((k + 1) * n), ((k + 1 : Nat) : Int))) := by
          simp only [F12.j2]
          rw [ha, w64 (by omega) (by omega)]; rfl
        rw [w64 (n := ((bk a0.length n : Nat) : Int) - 1) (by omega) (by omega)]
        rw [hl] at hg
        by_cases c : (k : Int) < ((bk a0.length n : Nat) : Int) - 1
        · have h4 := bk_lt (show k + 1 < bk a0.length n by omega)
          rw [Nat.add_mul, Nat.one_mul] at h4
          rw [if_pos c, if_pos (by omega), if_pos hg, fin]
          exact on_ (x := (a0.take (k * n), (k : Int))) ⟨k + 1, rfl, by omega⟩ (by simp only; omega)
        · rw [if_neg c, if_pos hg, fin]
          exact on_ (x := (a0.take (k * n), (k : Int))) ⟨k + 1, rfl, by omega⟩ (by simp only; omega)
      · rw [if_neg (by omega)]
        have h3 := bk_ge (show bk a0.length n ≤ k by omega) (show 0 < n by omega)
        rw [List.take_of_length_le h3]
        exact out_ (x := (a0, (k : Int))) rfl) ([], 0) ⟨0, by simp, by omega⟩
  rw [hy, hQ, Option.bind_some]
  simp only [F12.j1]
  rw [if_pos trivial, delta_awake]; rfl
end Go.Proofs.Ytedokgdilpfomaa
