/- What PlanWrites needs. -/
import Derived.Test.YtedokgdilpfomaaPurePlrN
import Derived.Test.YtedokgdilpfomaaYPlanWrites
import Derived.Test.YtedokgdilpfomaaEngLaw
set_option linter.unusedVariables false
set_option linter.unusedSimpArgs false
namespace Go.Proofs.Ytedokgdilpfomaa
open Go Go.Eng Go.Proofs
theorem right24 (s : Stp) : F24.m s.1 s.2.1 s.2.2.1 s.2.2.2 = some (rt s) := by
  unfold F24.m rt
  repeat' split
  all_goals (congr 1; symm; first | (apply decide_eq_false; omega) | (apply decide_eq_true; omega) | (apply decide_eq_decide.2; omega))
theorem number49 (n : Nat) (hn : n ≤ 2147483647) : F49.m (n : Int) = some (num n) := by
  unfold F49.m
  obtain ⟨y, hy, hQ⟩ := loop_ends (b := F49.b1) (fun x => ∃ (c : List Int) (k : Nat), x = ((k : Int), c) ∧ c.length ≤ 100 ∧ k < 128 ^ (100 - c.length) ∧ k ≤ 2147483647 ∧ c ++ num k = num n) (fun x => x.1.toNat)
    (fun y => ∃ (c : List Int) (k : Nat), y = ((k : Int), c) ∧ c.length ≤ 100 ∧ k < 128 ∧ c ++ [(k : Int)] = num n) (fun x hx => by
      obtain ⟨c, k, rfl, h1, h2, h3, h4⟩ := hx
      simp only [F49.b1]
      by_cases hk : 128 ≤ k
      · have hc : c.length < 100 := by
          rcases Nat.lt_or_ge c.length 100 with h | h
          · exact h
          · rw [show 100 - c.length = 0 by omega] at h2
            simp at h2; omega
        rw [if_pos (by omega), show (128 : Int) = ((128 : Nat) : Int) from rfl, tmod_nat, tdiv_nat, w64 (n := ((128 : Nat) : Int) + ((k % 128 : Nat) : Int)) (by omega) (by omega), w8 (by omega) (by omega), if_pos (by simp; omega), w64 (by omega) (by omega)]
        refine on_ (x := ((k : Int), c)) ⟨_, k / 128, rfl, by simp; omega, ?_, by omega, ?_⟩ (by simp only; omega)
        · rw [Nat.div_lt_iff_lt_mul (by omega), ← Nat.pow_succ]
          simp only [List.length_append, List.length_singleton]
          rw [show (100 - (c.length + 1)).succ = 100 - c.length by omega]
          exact h2
        · rw [← h4, num_ge k hk, List.append_assoc, show ((128 : Nat) : Int) + ((k % 128 : Nat) : Int) = ((k % 128 + 128 : Nat) : Int) by omega]; rfl
      · rw [if_neg (by omega)]
        rw [num_lt k (by omega)] at h4
        exact out_ (x := ((k : Int), c)) ⟨c, k, rfl, h1, by omega, h4⟩) ((n : Int), []) ⟨[], n, rfl, by simp, by
          refine Nat.lt_of_lt_of_le (show n < 128 ^ 5 by omega) (Nat.pow_le_pow_right (by omega) (by simp)), hn, rfl⟩
  obtain ⟨c, k, rfl, h1, h2, h3⟩ := hQ
  rw [hy, Option.bind_some]
  simp only [F49.j1]
  rw [w8 (by omega) (by omega), if_pos (by simp; omega), h3]
theorem put25 (l : List Stp) (hl : l.length ≤ 100000) (hk : ∀ s ∈ l, 0 ≤ s.1) : F25.m l = some (if ∀ s ∈ l, rt s = true then (put l, 0) else ([], 3)) := by
  unfold F25.m
  obtain ⟨y, hy, hQ⟩ := loop_ends (b := F25.b1 l) (fun x => ∃ k : Nat, x = (put (l.take k), (k : Int)) ∧ k ≤ l.length ∧ ∀ s ∈ l.take k, rt s = true) (fun x => ((l.length : Int) - x.2).toNat)
    (fun y => (y = .inr (put l) ∧ ∀ s ∈ l, rt s = true) ∨ (y = .inl ([], 3) ∧ ¬ ∀ s ∈ l, rt s = true)) (fun x hx => by
      obtain ⟨k, rfl, hk', ha⟩ := hx
      simp only [F25.b1]
      by_cases h : k < l.length
      · rw [if_pos (by omega), if_pos (by omega), right24, Option.bind_some]
        by_cases hr : rt (gd l (k : Int)) = true
        · rw [if_pos hr]
          have hin := rt_in hr
          have hpl := put_len _ ha
          rw [List.length_take] at hpl
          have h1 := num_b (gd l (k : Int)).2.2.1.toNat (by omega)
          have h2 := num_b (gd l (k : Int)).2.1.toNat (by omega)
          have e1 := number49 (gd l (k : Int)).2.2.1.toNat (by omega)
          rw [show (((gd l (k : Int)).2.2.1.toNat : Nat) : Int) = (gd l (k : Int)).2.2.1 by omega] at e1
          rw [if_pos (by simp; omega), e1, Option.bind_some, if_pos (by simp only [List.length_append, List.length_singleton]; omega)]
          have fin : ∀ q : List Int, q.length ≤ 10 → put (l.take k) ++ ([(gd l (k : Int)).1] ++ (num (gd l (k : Int)).2.2.1.toNat ++ (q ++ (gd l (k : Int)).2.2.2))) = put (l.take (k + 1)) → ∃ s, F25.j2 l (k : Int) (put (l.take k) ++ [(gd l (k : Int)).1] ++ num (gd l (k : Int)).2.2.1.toNat ++ q) = some s ∧ (∀ x', s = .inl x' → (∃ k : Nat, x' = (put (l.take k), (k : Int)) ∧ k ≤ l.length ∧ ∀ s ∈ l.take k, rt s = true) ∧ ((l.length : Int) - x'.2).toNat < ((l.length : Int) - (k : Int)).toNat) ∧ (∀ y, s = .inr y → (y = .inr (put l) ∧ ∀ s ∈ l, rt s = true) ∨ (y = .inl ([], 3) ∧ ¬ ∀ s ∈ l, rt s = true)) := by
            intro q hq he
            simp only [F25.j2]
            rw [if_pos (by simp only [List.length_append, List.length_singleton]; omega), w64 (by omega) (by omega)]
            refine on_ (I := fun x' : List Int × Int => ∃ k : Nat, x' = (put (l.take k), (k : Int)) ∧ k ≤ l.length ∧ ∀ s ∈ l.take k, rt s = true) (m := fun x' => ((l.length : Int) - x'.2).toNat) (x := (put (l.take k), (k : Int))) ⟨k + 1, ?_, by omega, fun s hs => ?_⟩ (by simp only; omega)
            · rw [← he]; simp
            · rw [take_gd l k h] at hs
              rcases List.mem_append.1 hs with hs | hs
              · exact ha s hs
              · rw [List.mem_singleton.1 hs]; exact hr
          have ep : put (l.take (k + 1)) = put (l.take k) ++ pst (gd l (k : Int)) := by rw [take_gd l k h, put_snoc]
          by_cases c : (gd l (k : Int)).1 = 1
          · rw [if_neg (by omega)]
            have := fin [] (by simp) (by rw [ep]; unfold pst; rw [if_pos c]; simp)
            rwa [List.append_nil] at this
          · rw [if_pos (by have := hk _ (gd_mem l k h); omega)]
            have e2 := number49 (gd l (k : Int)).2.1.toNat (by omega)
            rw [show (((gd l (k : Int)).2.1.toNat : Nat) : Int) = (gd l (k : Int)).2.1 by omega] at e2
            rw [e2, Option.bind_some, if_pos (by simp only [List.length_append, List.length_singleton]; omega)]
            exact fin (num (gd l (k : Int)).2.1.toNat) (by omega) (by rw [ep]; unfold pst; rw [if_neg c]; simp)
        · rw [if_neg hr]
          exact out_ (x := (put (l.take k), (k : Int))) (.inr ⟨rfl, fun h' => hr (h' _ (gd_mem l k h))⟩)
      · rw [if_neg (by omega)]
        rw [List.take_of_length_le (by omega)] at ha ⊢
        exact out_ (x := (put l, (k : Int))) (.inl ⟨rfl, ha⟩)) ([], 0) ⟨0, by simp [put], by omega, by simp⟩
  rw [hy, Option.bind_some]
  rcases hQ with ⟨rfl, h⟩ | ⟨rfl, h⟩
  · rw [if_pos h]; rfl
  · rw [if_neg h]
theorem great14 (l : List Stp) (hl : l.length ≤ maxLen) : ∃ r, F14.m l = some r ∧ (r = false → l.length ≤ 60 ∧ ∀ s ∈ l, s.2.2.2.length ≤ 5000) := by
  unfold F14.m
  by_cases h : (60 : Int) < (l.length : Int)
  · rw [if_pos h]; exact ⟨true, rfl, fun h => by cases h⟩
  · rw [if_neg h]
    obtain ⟨y, hy, hQ⟩ := loop_ends (b := F14.b1 l) (fun x => ∃ k : Nat, x = (k : Int) ∧ k ≤ l.length ∧ ∀ s ∈ l.take k, s.2.2.2.length ≤ 5000) (fun x => ((l.length : Int) - x).toNat)
      (fun y => y = .inl true ∨ (y = .inr () ∧ ∀ s ∈ l, s.2.2.2.length ≤ 5000)) (fun x hx => by
        obtain ⟨k, rfl, hk, ha⟩ := hx
        simp only [F14.b1]
        by_cases hk' : k < l.length
        · rw [if_pos (by omega), if_pos (by omega)]
          by_cases hg : (5000 : Int) < ((gd l (k : Int)).2.2.2.length : Int)
          · rw [if_pos hg]; exact out_ (x := (k : Int)) (.inl rfl)
          · rw [if_neg hg, w64 (by omega) (by omega)]
            refine on_ (x := (k : Int)) ⟨k + 1, rfl, by omega, fun s hs => ?_⟩ (by omega)
            rw [take_gd l k hk'] at hs
            rcases List.mem_append.1 hs with hs | hs
            · exact ha s hs
            · rw [List.mem_singleton.1 hs]; omega
        · rw [if_neg (by omega)]
          rw [List.take_of_length_le (by omega)] at ha
          exact out_ (x := (k : Int)) (.inr ⟨rfl, ha⟩)) 0 ⟨0, rfl, by omega, by simp⟩
    rw [hy, Option.bind_some]
    rcases hQ with rfl | ⟨rfl, hQ⟩
    · exact ⟨true, rfl, fun h => by cases h⟩
    · exact ⟨false, rfl, fun _ => ⟨by omega, hQ⟩⟩
theorem size26 (l : List Stp) (hl : l.length ≤ 100000) : F26.m l = some (if ∀ s ∈ l, rt s = true then ((put l).length : Int) else 0) := by
  unfold F26.m
  rw [put22 l hl, Option.bind_some]
  by_cases h : ∀ s ∈ l, rt s = true
  · rw [if_pos h, if_pos h, if_pos rfl]
  · rw [if_neg h, if_neg h, if_neg (by simp)]
theorem pure_PlanWrites (a0 : List (Int × Int × Int × (List Int))) (w0 : ∀ x ∈ a0, (InR .u8 x.1 ∧ InR .i64 x.2.1 ∧ InR .i64 x.2.2.1 ∧ ((∀ y ∈ x.2.2.2, InR .u8 y) ∧ (x.2.2.2).length ≤ maxLen))) (m0 : a0.length ≤ maxLen) :
    F6.m a0 = some true := by
  have hk : ∀ s ∈ a0, 0 ≤ s.1 := fun s hs => (inU8 (w0 s hs).1).1
  unfold F6.m
  obtain ⟨r, hr, hg⟩ := great14 a0 m0
  rw [hr, Option.bind_some]
  by_cases c : r = true
  · rw [if_pos c, plan_awake]; rfl
  rw [if_neg c]
  obtain ⟨g1, g2⟩ := hg (by simpa using c)
  rw [loop_done (b := F6.b1 a0) (x := (0 : Int)) (fun k => (k : Int)) a0.length (.inr ()) (fun k hk => ?_) ?_ rfl]
  · rw [Option.bind_some]
    simp only [F6.j1]
    rw [put22 a0 (by omega), Option.bind_some, put25 a0 (by omega) hk, Option.bind_some, if_pos rfl, if_pos rfl, size26 a0 (by omega), Option.bind_some]
    by_cases h : ∀ s ∈ a0, rt s = true
    · have hlen := put_len a0 h
      have hb : byt (put a0) := fun x hx => by
        obtain ⟨s, hs, hx⟩ := List.mem_flatMap.1 hx
        have h1 := rt_in (h s hs)
        unfold pst at hx
        rcases List.mem_cons.1 hx with rfl | hx
        · have := h1.2.2.2.2; omega
        rcases List.mem_append.1 hx with hx | hx
        · exact num_byt _ x hx
        rcases List.mem_append.1 hx with hx | hx
        · split at hx
          · cases hx
          · exact num_byt _ x hx
        · have := inU8 ((w0 s hs).2.2.2.1 x hx); omega
      have e0 := rda_put a0 [] ((put a0).length + 1) h (by omega)
      rw [List.nil_append] at e0
      rw [if_pos h, if_pos h, if_pos rfl, if_pos rfl, get19 (put a0) _ hb (by omega), if_neg (by simp only; omega), e0, Option.bind_some, w64 (by simp only; omega) (by simp only; omega), get19 (put a0) _ hb (by omega), if_pos (by simp only; omega), Option.bind_some, show res (.inr a0) = (a0, (0 : Int)) from rfl, if_pos rfl, same21 a0 (by omega), Option.bind_some, if_pos rfl, if_pos rfl, plan_awake]
      rfl
    · rw [if_neg h, if_neg h, if_pos (by rfl), if_neg (by simp), plan_awake]
      rfl
  · simp only [F6.b1]
    rw [if_neg (by omega)]
  · simp only [F6.b1]
    rw [if_pos (by omega), if_pos (by omega), right23, Option.bind_some, right24, Option.bind_some, if_pos (by simp), w64 (by omega) (by omega)]
    rfl
end Go.Proofs.Ytedokgdilpfomaa
