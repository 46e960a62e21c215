/- What PlrK needs. -/
import Derived.Test.YtedokgdilpfomaaPlr
import Derived.Test.YtedokgdilpfomaaEngLp
set_option linter.unusedVariables false
set_option linter.unusedSimpArgs false
namespace Go.Proofs.Ytedokgdilpfomaa
open Go Go.Eng Go.Proofs
/-! ### Steps -/
abbrev Stp := Int × Int × Int × List Int
def rt (s : Stp) : Bool := decide (1 ≤ s.2.2.1 ∧ s.2.2.1 ≤ 4096 ∧ 0 ≤ s.2.1 ∧ s.2.1 ≤ 2147483647 ∧ ((s.1 = 1 ∧ s.2.1 = 0 ∧ (s.2.2.2.length : Int) = s.2.2.1) ∨ (s.1 = 2 ∧ s.2.2.2.length = 0) ∨ (s.1 = 3 ∧ (s.2.2.2.length : Int) = s.2.2.1)))
theorem right23 (s : Stp) : F23.m s.1 s.2.1 s.2.2.1 s.2.2.2 = some (rt s) := by
  unfold F23.m rt
  repeat' split
  all_goals (congr 1; symm; first | (apply decide_eq_false; omega) | (apply decide_eq_decide.2; omega))
theorem rt_in {s : Stp} (h : rt s = true) : 1 ≤ s.2.2.1 ∧ s.2.2.1 ≤ 4096 ∧ 0 ≤ s.2.1 ∧ s.2.1 ≤ 2147483647 ∧ ((s.1 = 1 ∧ s.2.1 = 0 ∧ (s.2.2.2.length : Int) = s.2.2.1) ∨ (s.1 = 2 ∧ s.2.2.2.length = 0) ∨ (s.1 = 3 ∧ (s.2.2.2.length : Int) = s.2.2.1)) := of_decide_eq_true h
theorem plan_awake : F15.m = some true := by
  have h : F22.m [((1 : Int), (0 : Int), (2 : Int), [(97 : Int), (98 : Int)])] = some ([1, 2, 97, 98], 0) := by
    simp [F22.m, loop_eq, F22.b1, F22.j1, F22.j2, F23.m, F48_1.m, F48_1.b1, F48_1.j1, gd, IntKind.wrap, IntKind.bits, IntKind.signed]
  unfold F15.m
  rw [h]
  simp
  decide

/-! ### A plan's writing -/
def num : Nat → List Int
  | n => if h : n < 128 then [(n : Int)] else ((n % 128 + 128 : Nat) : Int) :: num (n / 128)
termination_by n => n
decreasing_by omega
theorem num_lt (n : Nat) (h : n < 128) : num n = [(n : Int)] := by rw [num, dif_pos h]
theorem num_ge (n : Nat) (h : 128 ≤ n) : num n = ((n % 128 + 128 : Nat) : Int) :: num (n / 128) := by rw [num, dif_neg (by omega)]
theorem num_len (k : Nat) : ∀ n, n < 128 ^ (k + 1) → 1 ≤ (num n).length ∧ (num n).length ≤ k + 1 := by
  induction k with
  | zero => intro n h; rw [num_lt n (by simpa using h)]; simp
  | succ k ih =>
    intro n h
    by_cases c : n < 128
    · rw [num_lt n c]; simp
    · rw [num_ge n (by omega)]
      have := ih (n / 128) (by rw [Nat.div_lt_iff_lt_mul (by omega)]; rw [Nat.pow_succ] at h; exact h)
      simp only [List.length_cons]
      omega
theorem num_b (n : Nat) (h : n ≤ 2147483647) : 1 ≤ (num n).length ∧ (num n).length ≤ 5 := num_len 4 n (by omega)
theorem number48 (b : List Int) (n : Nat) (hb : b.length ≤ 1000000000) (hn : n ≤ 9223372036854775807) : F48_1.m b (n : Int) = some (b ++ num n) := by
  unfold F48_1.m
  obtain ⟨y, hy, hQ⟩ := loop_ends (b := F48_1.b1) (fun x => ∃ (c : List Int) (k : Nat), x = (c, (k : Int)) ∧ c.length ≤ 1000000020 ∧ k < 128 ^ (1000000020 - c.length) ∧ k ≤ 9223372036854775807 ∧ c ++ num k = b ++ num n) (fun x => x.2.toNat)
    (fun y => ∃ (c : List Int) (k : Nat), y = (c, (k : Int)) ∧ c.length ≤ 1000000020 ∧ k < 128 ∧ c ++ [(k : Int)] = b ++ num n) (fun x hx => by
      obtain ⟨c, k, rfl, h1, h2, h3, h4⟩ := hx
      simp only [F48_1.b1]
      by_cases hk : 128 ≤ k
      · have hc : c.length < 1000000020 := by
          rcases Nat.lt_or_ge c.length 1000000020 with h | h
          · exact h
          · rw [show 1000000020 - c.length = 0 by omega] at h2
            simp at h2; omega
        rw [if_pos (by omega), show (128 : Int) = ((128 : Nat) : Int) from rfl, tmod_nat, tdiv_nat, w64 (n := ((k % 128 : Nat) : Int) + ((128 : Nat) : Int)) (by omega) (by omega), w8 (by omega) (by omega), if_pos (by simp; omega), w64 (by omega) (by omega)]
        refine on_ (x := (c, (k : Int))) ⟨_, k / 128, rfl, by simp; omega, ?_, by omega, ?_⟩ (by simp only; omega)
        · rw [Nat.div_lt_iff_lt_mul (by omega), ← Nat.pow_succ]
          simp only [List.length_append, List.length_singleton]
          rw [show (1000000020 - (c.length + 1)).succ = 1000000020 - c.length by omega]
          exact h2
        · rw [← h4, num_ge k hk, List.append_assoc]; rfl
      · rw [if_neg (by omega)]
        rw [num_lt k (by omega)] at h4
        exact out_ (x := (c, (k : Int))) ⟨c, k, rfl, h1, by omega, h4⟩) (b, (n : Int)) ⟨b, n, rfl, by omega, by
          refine Nat.lt_of_lt_of_le (show n < 128 ^ 20 by omega) (Nat.pow_le_pow_right (by omega) (by omega)), hn, rfl⟩
  obtain ⟨c, k, rfl, h1, h2, h3⟩ := hQ
  rw [hy, Option.bind_some]
  simp only [F48_1.j1]
  rw [w8 (by omega) (by omega), if_pos (by simp; omega), h3]
/-- A step's writing. -/
def pst (s : Stp) : List Int := s.1 :: (num s.2.2.1.toNat ++ ((if s.1 = 1 then [] else num s.2.1.toNat) ++ s.2.2.2))
def put (l : List Stp) : List Int := l.flatMap pst
theorem put_snoc (l : List Stp) (s : Stp) : put (l ++ [s]) = put l ++ pst s := by simp [put]
theorem pst_len {s : Stp} (h : rt s = true) : 3 ≤ (pst s).length + 1 ∧ (pst s).length ≤ 5000 := by
  have hin := rt_in h
  have h1 := num_b s.2.2.1.toNat (by omega)
  have h2 := num_b s.2.1.toNat (by omega)
  unfold pst
  simp only [List.length_cons, List.length_append]
  split <;> (try simp only [List.length_nil]) <;> omega
theorem put_len (l : List Stp) (h : ∀ s ∈ l, rt s = true) : l.length ≤ (put l).length ∧ (put l).length ≤ 5000 * l.length := by
  induction l with
  | nil => simp [put]
  | cons s l ih =>
    have h1 := ih (fun t ht => h t (by simp [ht]))
    have h2 := pst_len (h s (by simp))
    have e : put (s :: l) = pst s ++ put l := by simp [put]
    rw [e, List.length_append, List.length_cons]
    omega
theorem put22 (l : List Stp) (hl : l.length ≤ 100000) : F22.m l = some (if ∀ s ∈ l, rt s = true then (put l, 0) else ([], 3)) := by
  unfold F22.m
  obtain ⟨y, hy, hQ⟩ := loop_ends (b := F22.b1 l) (fun x => ∃ k : Nat, x = (put (l.take k), (k : Int)) ∧ k ≤ l.length ∧ ∀ s ∈ l.take k, rt s = true) (fun x => ((l.length : Int) - x.2).toNat)
    (fun y => (y = .inr (put l) ∧ ∀ s ∈ l, rt s = true) ∨ (y = .inl ([], 3) ∧ ¬ ∀ s ∈ l, rt s = true)) (fun x hx => by
      obtain ⟨k, rfl, hk, ha⟩ := hx
      simp only [F22.b1]
      by_cases h : k < l.length
      · rw [if_pos (by omega), if_pos (by omega), right23, Option.bind_some]
        by_cases hr : rt (gd l (k : Int)) = true
        · rw [if_pos hr]
          have hin := rt_in hr
          have hpl := put_len _ ha
          rw [List.length_take] at hpl
          have h1 := num_b (gd l (k : Int)).2.2.1.toNat (by omega)
          have h2 := num_b (gd l (k : Int)).2.1.toNat (by omega)
          have e1 := number48 (put (l.take k) ++ [(gd l (k : Int)).1]) (gd l (k : Int)).2.2.1.toNat (by simp; omega) (by omega)
          rw [show (((gd l (k : Int)).2.2.1.toNat : Nat) : Int) = (gd l (k : Int)).2.2.1 by omega] at e1
          rw [if_pos (by simp; omega), e1, Option.bind_some]
          have fin : ∀ q : List Int, q.length ≤ 10 → put (l.take k) ++ ([(gd l (k : Int)).1] ++ (num (gd l (k : Int)).2.2.1.toNat ++ (q ++ (gd l (k : Int)).2.2.2))) = put (l.take (k + 1)) → ∃ s, F22.j2 l (k : Int) (put (l.take k) ++ [(gd l (k : Int)).1] ++ num (gd l (k : Int)).2.2.1.toNat ++ q) = some s ∧ (∀ x', s = .inl x' → (∃ k : Nat, x' = (put (l.take k), (k : Int)) ∧ k ≤ l.length ∧ ∀ s ∈ l.take k, rt s = true) ∧ ((l.length : Int) - x'.2).toNat < ((l.length : Int) - (k : Int)).toNat) ∧ (∀ y, s = .inr y → (y = .inr (put l) ∧ ∀ s ∈ l, rt s = true) ∨ (y = .inl ([], 3) ∧ ¬ ∀ s ∈ l, rt s = true)) := by
            intro q hq he
            simp only [F22.j2]
            rw [if_pos (by simp only [List.length_append, List.length_singleton]; omega), w64 (by omega) (by omega)]
            refine on_ (I := fun x' : List Int × Int => ∃ k : Nat, x' = (put (l.take k), (k : Int)) ∧ k ≤ l.length ∧ ∀ s ∈ l.take k, rt s = true) (m := fun x' => ((l.length : Int) - x'.2).toNat) (x := (put (l.take k), (k : Int))) ⟨k + 1, ?_, by omega, fun s hs => ?_⟩ (by simp only; omega)
            · rw [← he]; simp
            · rw [take_gd l k h] at hs
              rcases List.mem_append.1 hs with hs | hs
              · exact ha s hs
              · rw [List.mem_singleton.1 hs]; exact hr
          have ep : put (l.take (k + 1)) = put (l.take k) ++ pst (gd l (k : Int)) := by rw [take_gd l k h, put_snoc]
          by_cases c : (gd l (k : Int)).1 = 1
          · rw [if_pos c]
            have := fin [] (by simp) (by rw [ep]; unfold pst; rw [if_pos c]; simp)
            rwa [List.append_nil] at this
          · rw [if_neg c]
            have e2 := number48 (put (l.take k) ++ [(gd l (k : Int)).1] ++ num (gd l (k : Int)).2.2.1.toNat) (gd l (k : Int)).2.1.toNat (by simp only [List.length_append, List.length_singleton]; omega) (by omega)
            rw [show (((gd l (k : Int)).2.1.toNat : Nat) : Int) = (gd l (k : Int)).2.1 by omega] at e2
            rw [e2, Option.bind_some]
            exact fin (num (gd l (k : Int)).2.1.toNat) (by omega) (by rw [ep]; unfold pst; rw [if_neg c]; simp)
        · rw [if_neg hr]
          exact out_ (x := (put (l.take k), (k : Int))) (.inr ⟨rfl, fun h' => hr (h' _ (gd_mem l k h))⟩)
      · rw [if_neg (by omega)]
        rw [List.take_of_length_le (by omega)] at ha ⊢
        exact out_ (x := (put l, (k : Int))) (.inl ⟨rfl, ha⟩)) ([], 0) ⟨0, by simp [put], by omega, by simp⟩
  rw [hy, Option.bind_some]
  rcases hQ with ⟨rfl, h⟩ | ⟨rfl, h⟩
  · rw [if_pos h]; rfl
  · rw [if_neg h]
end Go.Proofs.Ytedokgdilpfomaa
