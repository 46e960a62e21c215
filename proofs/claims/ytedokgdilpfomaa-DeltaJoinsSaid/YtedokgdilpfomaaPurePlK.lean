/- What PlK needs. -/
import Derived.Test.YtedokgdilpfomaaPln
import Derived.Test.YtedokgdilpfomaaEngLp
set_option linter.unusedVariables false
set_option linter.unusedSimpArgs false
namespace Go.Proofs.Ytedokgdilpfomaa
open Go Go.Eng Go.Proofs
/-! ### Steps -/
abbrev Stp := Int × Int × Int × List Int
def rt (s : Stp) : Bool := decide (1 ≤ s.2.2.1 ∧ s.2.2.1 ≤ 4096 ∧ 0 ≤ s.2.1 ∧ s.2.1 ≤ 2147483647 ∧ ((s.1 = 1 ∧ s.2.1 = 0 ∧ (s.2.2.2.length : Int) = s.2.2.1) ∨ (s.1 = 2 ∧ s.2.2.2.length = 0) ∨ (s.1 = 3 ∧ (s.2.2.2.length : Int) = s.2.2.1)))
theorem right23 (s : Stp) : F23.m s.1 s.2.1 s.2.2.1 s.2.2.2 = some (rt s) := by
  unfold F23.m rt
  repeat' split
  all_goals (congr 1; symm; first | (apply decide_eq_false; omega) | (apply decide_eq_decide.2; omega))
theorem rt_in {s : Stp} (h : rt s = true) : 1 ≤ s.2.2.1 ∧ s.2.2.1 ≤ 4096 ∧ 0 ≤ s.2.1 ∧ s.2.1 ≤ 2147483647 ∧ ((s.1 = 1 ∧ s.2.1 = 0 ∧ (s.2.2.2.length : Int) = s.2.2.1) ∨ (s.1 = 2 ∧ s.2.2.2.length = 0) ∨ (s.1 = 3 ∧ (s.2.2.2.length : Int) = s.2.2.1)) := of_decide_eq_true h
def tot (l : List Stp) : Int := (l.map (fun s => s.2.2.1)).sum
theorem tot_snoc (l : List Stp) (s : Stp) : tot (l ++ [s]) = tot l + s.2.2.1 := by simp [tot]
theorem tot_bd (l : List Stp) (h : ∀ s ∈ l, rt s = true) : 0 ≤ tot l ∧ tot l ≤ 4096 * l.length := by
  induction l with
  | nil => simp [tot]
  | cons s l ih =>
    have h1 := ih (fun t ht => h t (by simp [ht]))
    have h2 := rt_in (h s (by simp))
    have e : tot (s :: l) = s.2.2.1 + tot l := by simp [tot]
    rw [e, List.length_cons]
    omega
theorem sum42 (l : List Stp) (hl : l.length ≤ 100000) : (∀ s ∈ l, rt s = true) ∧ F42.m l = some (tot l) ∨ (¬ ∀ s ∈ l, rt s = true) ∧ F42.m l = some (-1) := by
  unfold F42.m
  obtain ⟨y, hy, hQ⟩ := loop_ends (b := F42.b1 l) (fun x => ∃ k : Nat, x = (tot (l.take k), (k : Int)) ∧ k ≤ l.length ∧ ∀ s ∈ l.take k, rt s = true) (fun x => ((l.length : Int) - x.2).toNat)
    (fun y => (y = .inr (tot l) ∧ ∀ s ∈ l, rt s = true) ∨ (y = .inl (-1) ∧ ¬ ∀ s ∈ l, rt s = true)) (fun x hx => by
      obtain ⟨k, rfl, hk, ha⟩ := hx
      simp only [F42.b1]
      by_cases h : k < l.length
      · rw [if_pos (by omega), if_pos (by omega), right23, Option.bind_some]
        by_cases hr : rt (gd l (k : Int)) = true
        · rw [if_pos hr]
          have hin := rt_in hr
          have hb := tot_bd _ ha
          rw [List.length_take] at hb
          rw [w64 (n := tot (l.take k) + _) (by omega) (by omega), ← tot_snoc, ← take_gd l k h, w64 (by omega) (by omega)]
          refine on_ (x := (tot (l.take k), (k : Int))) ⟨k + 1, rfl, by omega, fun s hs => ?_⟩ (by simp only; omega)
          rw [take_gd l k h] at hs
          rcases List.mem_append.1 hs with hs | hs
          · exact ha s hs
          · rw [List.mem_singleton.1 hs]; exact hr
        · rw [if_neg hr]
          exact out_ (x := (tot (l.take k), (k : Int))) (.inr ⟨rfl, fun h' => hr (h' _ (gd_mem l k h))⟩)
      · rw [if_neg (by omega)]
        rw [List.take_of_length_le (by omega)] at ha ⊢
        exact out_ (x := (tot l, (k : Int))) (.inl ⟨rfl, ha⟩)) (0, 0) ⟨0, by simp [tot], by omega, by simp⟩
  rw [hy]
  rcases hQ with ⟨rfl, h⟩ | ⟨rfl, h⟩
  · exact .inl ⟨h, rfl⟩
  · exact .inr ⟨h, rfl⟩
/-- What a step makes out of an old image. -/
def pc (old : List Int) (s : Stp) : List Int := (List.range s.2.2.1.toNat).map (fun k => if s.1 = 3 then IntKind.wrap .u8 (gd old ((s.2.1.toNat + k : Nat) : Int) + gd s.2.2.2 (k : Int)) else gd old ((s.2.1.toNat + k : Nat) : Int))
def evs (old : List Int) : List Stp → List Int → List Int × Int
  | [], out => (out, 0)
  | s :: l, out => if s.1 = 1 then evs old l (out ++ s.2.2.2) else if (old.length : Int) < s.2.1 then ([], 5) else if (old.length : Int) - s.2.1 < s.2.2.1 then ([], 5) else evs old l (out ++ pc old s)
theorem pc_len (old : List Int) (s : Stp) : (pc old s).length = s.2.2.1.toNat := by simp [pc]
theorem pc_at (old : List Int) (s : Stp) (k : Nat) (h : k < s.2.2.1.toNat) : gd (pc old s) (k : Int) = if s.1 = 3 then IntKind.wrap .u8 (gd old ((s.2.1.toNat + k : Nat) : Int) + gd s.2.2.2 (k : Int)) else gd old ((s.2.1.toNat + k : Nat) : Int) := gd_map _ _ _ h
theorem clone44 (x : List Int) (h : x.length ≤ 1000000) : F44.m x = some x := by
  unfold F44.m
  rw [if_pos (by simp; omega)]
theorem subL_len {α : Type} (l : List α) (a b : Nat) (h : a ≤ b ∧ b ≤ l.length) : (subL l (a : Int) (b : Int)).length = b - a := by
  unfold subL
  simp
  omega
theorem subL_at {α : Type} [Inhabited α] (l : List α) (a b k : Nat) (hk : k < b - a) : gd (subL l (a : Int) (b : Int)) (k : Int) = gd l ((a + k : Nat) : Int) := by
  unfold subL
  rw [gd_take _ _ _ (by rw [Int.toNat_natCast, Int.toNat_natCast]; exact hk), gd_drop, Int.toNat_natCast]
theorem range18 (x : List Int) (a n : Int) (hx : x.length ≤ 100000) (ha : -9223372036854775808 ≤ a ∧ a ≤ 9223372036854775807) : F18.m x a n = if a < 0 ∨ n < 0 ∨ (x.length : Int) < a ∨ (x.length : Int) - a < n then some ([], 5) else some (subL x a (a + n), 0) := by
  unfold F18.m
  by_cases h1 : a < 0
  · rw [if_pos h1, if_pos (.inl h1)]
  rw [if_neg h1]
  by_cases h2 : n < 0
  · rw [if_pos h2, if_pos (.inr (.inl h2))]
  rw [if_neg h2]
  by_cases h3 : (x.length : Int) < a
  · rw [if_pos h3, if_pos (.inr (.inr (.inl h3)))]
  rw [if_neg h3, w64 (n := (x.length : Int) - a) (by omega) (by omega)]
  by_cases h4 : (x.length : Int) - a < n
  · rw [if_pos h4, if_pos (.inr (.inr (.inr h4)))]
  rw [if_neg h4, w64 (n := a + n) (by omega) (by omega), if_pos (by omega), if_neg (by omega)]
  obtain ⟨a, rfl⟩ := nat_of (show 0 ≤ a by omega)
  obtain ⟨n, rfl⟩ := nat_of (show 0 ≤ n by omega)
  rw [show (a : Int) + (n : Int) = ((a + n : Nat) : Int) by omega, clone44 _ (by rw [subL_len _ _ _ (by omega)]; omega)]
  rfl
theorem plan_awake : F15.m = some true := by
  have h : F22.m [((1 : Int), (0 : Int), (2 : Int), [(97 : Int), (98 : Int)])] = some ([1, 2, 97, 98], 0) := by
    simp [F22.m, loop_eq, F22.b1, F22.j1, F22.j2, F23.m, F48_1.m, F48_1.b1, F48_1.j1, gd, IntKind.wrap, IntKind.bits, IntKind.signed]
  unfold F15.m
  rw [h]
  simp
  decide
end Go.Proofs.Ytedokgdilpfomaa
