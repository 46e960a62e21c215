/- What HufR0 needs. -/
import Derived.Test.YtpophpendlnehaaPureHufK
import Derived.Test.YtpophpendlnehaaYHuffReads
set_option linter.unusedVariables false
set_option linter.unusedSimpArgs false
namespace Go.Proofs.Ytpophpendlnehaa
open Go Go.Eng Go.Proofs
theorem F67_is (xs : List Int) (hl : xs.length ≤ 300) (hx : Good15 xs) (n : Nat) : F67.m xs (n : Int) = some (cnt xs n) := by
  unfold F67.m
  rw [loop_done (fun k => (cnt (xs.take k) n, (k : Int))) xs.length (cnt xs n) (fun k hk => ?_) (by simp [F67.b1]) (by simp [cnt])]
  · rfl
  · obtain ⟨m, hm, hm16⟩ := good_at hx hk
    have hc := cnt_le (xs.take k) n
    rw [List.length_take] at hc
    simp only [F67.b1]
    rw [if_pos (by omega), if_pos (by omega), gd_at _ _ hk, hm, w64 (n := (m : Int)) (by omega) (by omega), cnt_take xs k hk, hm]
    by_cases e : (m : Int) = (n : Int)
    · rw [if_pos e, if_pos e]
      simp only [F67.j2]
      rw [w64 (by omega) (by omega), w64 (by omega) (by omega)]; rfl
    · rw [if_neg e, if_neg e]
      simp only [F67.j2]
      rw [w64 (by omega) (by omega)]; simp

def part (xs : List Int) (k j : Nat) (s : Nat) : Int := if (1 ≤ gd xs s ∧ gd xs s ≤ k) ∨ (gd xs s = ((k + 1 : Nat) : Int) ∧ s < j) then code xs s else 0
theorem F52_inner (xs : List Int) (hl : xs.length ≤ 300) (hx : Good15 xs) (k : Nat) :
    loop (F52.b2 xs ((k + 1 : Nat) : Int)) ((List.range xs.length).map (part xs k 0), fst xs (k + 1), 0) = some ((List.range xs.length).map (part xs (k + 1) 0)) := by
  refine loop_done (fun j => ((List.range xs.length).map (part xs k j), itr ((xs.take j).count ((k + 1 : Nat) : Int)) (fst xs (k + 1)), (j : Int))) xs.length _ (fun j hj => ?_) ?_ (by simp [itr])
  · obtain ⟨m, hm, hm16⟩ := good_at hx hj
    simp only [F52.b2]
    rw [if_pos (by omega), if_pos (by omega), gd_at _ _ hj, hm, w64 (n := (m : Int)) (by omega) (by omega), take_succ' xs j hj, hm, count_snoc]
    by_cases e : (m : Int) = ((k + 1 : Nat) : Int)
    · rw [if_pos e, if_pos e, if_pos (by simp; omega)]
      simp only [F52.j5]
      rw [w64 (n := (j : Int) + 1) (by omega) (by omega), Int.toNat_natCast, map_set xs.length _ (part xs k (j + 1)) j _ hj (fun i hi => ?_)]
      · rfl
      · by_cases a : i = j
        · subst a
          rw [if_pos rfl]
          unfold part
          rw [if_pos (.inr ⟨by rw [gd_at _ _ hj, hm, e], by omega⟩)]
          unfold code
          rw [gd_at _ _ hj, hm, e, if_pos (by omega)]
          rfl
        · rw [if_neg a]
          unfold part
          have : (i < j + 1) = (i < j) := propext (by omega)
          simp only [this]
    · rw [if_neg e, if_neg e]
      simp only [F52.j5]
      rw [w64 (n := (j : Int) + 1) (by omega) (by omega), map_same xs.length (part xs k j) (part xs k (j + 1)) (fun i hi => ?_)]
      · rfl
      · unfold part
        by_cases a : i = j
        · subst a
          have : ¬ (gd xs i = ((k + 1 : Nat) : Int)) := by rw [gd_at _ _ hj, hm]; exact e
          simp only [this, false_and]
        · have : (i < j + 1) = (i < j) := propext (by omega)
          simp only [this]
  · simp only [F52.b2]
    rw [if_neg (by omega), map_same xs.length (part xs k xs.length) (part xs (k + 1) 0) (fun i hi => ?_)]
    unfold part
    have : (1 ≤ gd xs i ∧ gd xs i ≤ (k : Int) ∨ gd xs i = ((k + 1 : Nat) : Int) ∧ i < xs.length) = (1 ≤ gd xs i ∧ gd xs i ≤ ((k + 1 : Nat) : Int) ∨ gd xs i = ((k + 1 + 1 : Nat) : Int) ∧ i < 0) := propext (by omega)
    simp only [this]
theorem F52_is (xs : List Int) (hl : xs.length ≤ 300) (hx : Good15 xs) : F52.m xs = some (codes xs) := by
  unfold F52.m
  rw [if_pos (by omega)]
  rw [loop_done (fun k => ((List.range xs.length).map (part xs k 0), fst xs k, ((k + 1 : Nat) : Int))) 15 (codes xs) (fun k hk => ?_) ?_ ?_]
  · rfl
  · simp only [F52.b1]
    rw [if_neg (by omega), map_same xs.length (part xs 15 0) (code xs) (fun i hi => ?_)]
    · rfl
    · obtain ⟨m, hm, hm16⟩ := good_at hx hi
      unfold part
      rw [gd_at _ _ hi, hm]
      by_cases h0 : 1 ≤ (m : Int)
      · rw [if_pos (.inl ⟨h0, by omega⟩)]
      · rw [if_neg (by omega)]
        unfold code
        rw [gd_at _ _ hi, hm, if_neg (by omega)]
  · rw [Int.toNat_natCast, rep_map, map_same xs.length (fun _ => (0 : Int)) (part xs 0 0) (fun i hi => ?_)]
    · rfl
    · unfold part
      rw [if_neg (by omega)]
  · simp only [F52.b1]
    rw [if_pos (by omega)]
    have key : F52.j3 xs ((List.range xs.length).map (part xs k 0)) ((k + 1 : Nat) : Int) (fst xs (k + 1)) = some (.inl ((List.range xs.length).map (part xs (k + 1) 0), fst xs (k + 1), ((k + 1 + 1 : Nat) : Int))) := by
      unfold F52.j3
      rw [F52_inner xs hl hx k]
      simp only [Option.bind_some, F52.j4, F52.j2]
      rw [w64 (by omega) (by omega)]; rfl
    by_cases h1 : (1 : Int) < ((k + 1 : Nat) : Int)
    · rw [if_pos h1]
      obtain ⟨q, rfl⟩ : ∃ q, k = q + 1 := ⟨k - 1, by omega⟩
      have e : ((q + 1 + 1 : Nat) : Int) - 1 = ((q + 1 : Nat) : Int) := by omega
      rw [e, w64 (n := ((q + 1 : Nat) : Int)) (by omega) (by omega), F67_is xs hl hx]
      exact key
    · rw [if_neg h1]
      have : k = 0 := by omega
      subst this
      exact key

/-! ### The table -/
end Go.Proofs.Ytpophpendlnehaa
