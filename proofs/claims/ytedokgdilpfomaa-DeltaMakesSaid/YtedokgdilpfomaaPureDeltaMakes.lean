/- What DeltaMakes needs. -/
import Derived.Test.YtedokgdilpfomaaPureDelB
import Derived.Test.YtedokgdilpfomaaPurePlE
import Derived.Test.YtedokgdilpfomaaYDeltaMakes
set_option linter.unusedVariables false
set_option linter.unusedSimpArgs false
namespace Go.Proofs.Ytedokgdilpfomaa
open Go Go.Eng Go.Proofs
theorem number49 (n : Nat) (hn : n ≤ 2147483647) : F49.m (n : Int) = some (num n) := by
  unfold F49.m
  obtain ⟨y, hy, hQ⟩ := loop_ends (b := F49.b1) (fun x => ∃ (c : List Int) (k : Nat), x = ((k : Int), c) ∧ c.length ≤ 100 ∧ k < 128 ^ (100 - c.length) ∧ k ≤ 2147483647 ∧ c ++ num k = num n) (fun x => x.1.toNat)
    (fun y => ∃ (c : List Int) (k : Nat), y = ((k : Int), c) ∧ c.length ≤ 100 ∧ k < 128 ∧ c ++ [(k : Int)] = num n) (fun x hx => by
      obtain ⟨c, k, rfl, h1, h2, h3, h4⟩ := hx
      simp only [F49.b1]
      by_cases hk : 128 ≤ k
      · have hc : c.length < 100 := by
          rcases Nat.lt_or_ge c.length 100 with h | h
          · exact h
          · rw [show 100 - c.length = 0 by omega] at h2
            simp at h2; omega
        rw [if_pos (by omega), show (128 : Int) = ((128 : Nat) : Int) from rfl, tmod_nat, tdiv_nat, w64 (n := ((128 : Nat) : Int) + ((k % 128 : Nat) : Int)) (by omega) (by omega), w8 (by omega) (by omega), if_pos (by simp; omega), w64 (by omega) (by omega)]
        refine on_ (x := ((k : Int), c)) ⟨_, k / 128, rfl, by simp; omega, ?_, by omega, ?_⟩ (by simp only; omega)
        · rw [Nat.div_lt_iff_lt_mul (by omega), ← Nat.pow_succ]
          simp only [List.length_append, List.length_singleton]
          rw [show (100 - (c.length + 1)).succ = 100 - c.length by omega]
          exact h2
        · rw [← h4, num_ge k hk, List.append_assoc, show ((128 : Nat) : Int) + ((k % 128 : Nat) : Int) = ((k % 128 + 128 : Nat) : Int) by omega]; rfl
      · rw [if_neg (by omega)]
        rw [num_lt k (by omega)] at h4
        exact out_ (x := ((k : Int), c)) ⟨c, k, rfl, h1, by omega, h4⟩) ((n : Int), []) ⟨[], n, rfl, by simp, by
          refine Nat.lt_of_lt_of_le (show n < 128 ^ 5 by omega) (Nat.pow_le_pow_right (by omega) (by simp)), hn, rfl⟩
  obtain ⟨c, k, rfl, h1, h2, h3⟩ := hQ
  rw [hy, Option.bind_some]
  simp only [F49.j1]
  rw [w8 (by omega) (by omega), if_pos (by simp; omega), h3]
theorem put25 (l : List Stp) (hl : l.length ≤ 100000) (hk : ∀ s ∈ l, 0 ≤ s.1) : F25.m l = some (if ∀ s ∈ l, rt s = true then (put l, 0) else ([], 3)) := by
  unfold F25.m
  obtain ⟨y, hy, hQ⟩ := loop_ends (b := F25.b1 l) (fun x => ∃ k : Nat, x = (put (l.take k), (k : Int)) ∧ k ≤ l.length ∧ ∀ s ∈ l.take k, rt s = true) (fun x => ((l.length : Int) - x.2).toNat)
    (fun y => (y = .inr (put l) ∧ ∀ s ∈ l, rt s = true) ∨ (y = .inl ([], 3) ∧ ¬ ∀ s ∈ l, rt s = true)) (fun x hx => by
      obtain ⟨k, rfl, hk', ha⟩ := hx
      simp only [F25.b1]
      by_cases h : k < l.length
      · rw [if_pos (by omega), if_pos (by omega), right24, Option.bind_some]
        by_cases hr : rt (gd l (k : Int)) = true
        · rw [if_pos hr]
          have hin := rt_in hr
          have hpl := put_len _ ha
          rw [List.length_take] at hpl
          have h1 := num_b (gd l (k : Int)).2.2.1.toNat (by omega)
          have h2 := num_b (gd l (k : Int)).2.1.toNat (by omega)
          have e1 := number49 (gd l (k : Int)).2.2.1.toNat (by omega)
          rw [show (((gd l (k : Int)).2.2.1.toNat : Nat) : Int) = (gd l (k : Int)).2.2.1 by omega] at e1
          rw [if_pos (by simp; omega), e1, Option.bind_some, if_pos (by simp only [List.length_append, List.length_singleton]; omega)]
          have fin : ∀ q : List Int, q.length ≤ 10 → put (l.take k) ++ ([(gd l (k : Int)).1] ++ (num (gd l (k : Int)).2.2.1.toNat ++ (q ++ (gd l (k : Int)).2.2.2))) = put (l.take (k + 1)) → ∃ s, F25.j2 l (k : Int) (put (l.take k) ++ [(gd l (k : Int)).1] ++ num (gd l (k : Int)).2.2.1.toNat ++ q) = some s ∧ (∀ x', s = .inl x' → (∃ k : Nat, x' = (put (l.take k), (k : Int)) ∧ k ≤ l.length ∧ ∀ s ∈ l.take k, rt s = true) ∧ ((l.length : Int) - x'.2).toNat < ((l.length : Int) - (k : Int)).toNat) ∧ (∀ y, s = .inr y → (y = .inr (put l) ∧ ∀ s ∈ l, rt s = true) ∨ (y = .inl ([], 3) ∧ ¬ ∀ s ∈ l, rt s = true)) := by
            intro q hq he
            simp only [F25.j2]
            rw [if_pos (by simp only [List.length_append, List.length_singleton]; omega), w64 (by omega) (by omega)]
            refine on_ (I := fun x' : List Int × Int => ∃ k : Nat, x' = (put (l.take k), (k : Int)) ∧ k ≤ l.length ∧ ∀ s ∈ l.take k, rt s = true) (m := fun x' => ((l.length : Int) - x'.2).toNat) (x := (put (l.take k), (k : Int))) ⟨k + 1, ?_, by omega, fun s hs => ?_⟩ (by simp only; omega)
            · rw [← he]; simp
            · rw [take_gd l k h] at hs
              rcases List.mem_append.1 hs with hs | hs
              · exact ha s hs
              · rw [List.mem_singleton.1 hs]; exact hr
          have ep : put (l.take (k + 1)) = put (l.take k) ++ pst (gd l (k : Int)) := by rw [take_gd l k h, put_snoc]
          by_cases c : (gd l (k : Int)).1 = 1
          · rw [if_neg (by omega)]
            have := fin [] (by simp) (by rw [ep]; unfold pst; rw [if_pos c]; simp)
            rwa [List.append_nil] at this
          · rw [if_pos (by have := hk _ (gd_mem l k h); omega)]
            have e2 := number49 (gd l (k : Int)).2.1.toNat (by omega)
            rw [show (((gd l (k : Int)).2.1.toNat : Nat) : Int) = (gd l (k : Int)).2.1 by omega] at e2
            rw [e2, Option.bind_some, if_pos (by simp only [List.length_append, List.length_singleton]; omega)]
            exact fin (num (gd l (k : Int)).2.1.toNat) (by omega) (by rw [ep]; unfold pst; rw [if_neg c]; simp)
        · rw [if_neg hr]
          exact out_ (x := (put (l.take k), (k : Int))) (.inr ⟨rfl, fun h' => hr (h' _ (gd_mem l k h))⟩)
      · rw [if_neg (by omega)]
        rw [List.take_of_length_le (by omega)] at ha ⊢
        exact out_ (x := (put l, (k : Int))) (.inl ⟨rfl, ha⟩)) ([], 0) ⟨0, by simp [put], by omega, by simp⟩
  rw [hy, Option.bind_some]
  rcases hQ with ⟨rfl, h⟩ | ⟨rfl, h⟩
  · rw [if_pos h]; rfl
  · rw [if_neg h]
theorem pure_DeltaMakes (a0 : (List Int)) (a1 : (List Int)) (a2 : Int) (w0 : ∀ x ∈ a0, InR .u8 x) (m0 : a0.length ≤ maxLen) (w1 : ∀ x ∈ a1, InR .u8 x) (m1 : a1.length ≤ maxLen) (w2 : InR .i64 a2) :
    F11.m a0 a1 a2 = some true := by
  have h2 := inI64 w2
  have hou : ∀ y ∈ a0, 0 ≤ y ∧ y ≤ 255 := fun y hy => inU8 (w0 y hy)
  have hnu : ∀ y ∈ a1, 0 ≤ y ∧ y ≤ 255 := fun y hy => inU8 (w1 y hy)
  unfold F11.m
  by_cases c0 : (2000 : Int) < (a0.length : Int)
  · rw [if_pos c0, delta_awake]; rfl
  rw [if_neg c0]
  by_cases c1 : (2000 : Int) < (a1.length : Int)
  · rw [if_pos c1, delta_awake]; rfl
  rw [if_neg c1]
  by_cases hb : 128 ≤ a2 ∧ a2 ≤ 4096
  · obtain ⟨b, rfl⟩ := nat_of (show 0 ≤ a2 by omega)
    obtain ⟨pl, e, hl, hg⟩ := plans_is a0 a1 b (by omega) (by omega) (by omega) hou hnu
    have hbn : bk a1.length b ≤ a1.length := by
      unfold bk
      split
      · omega
      · have := Nat.div_le_self (a1.length - 1) b
        omega
    rw [e, Option.bind_some, if_neg (by omega), if_neg (by omega), if_pos rfl, blocks36 _ _ (by omega) (by omega), Option.bind_some, Int.toNat_natCast, Int.toNat_natCast]
    simp only
    rw [hl, if_pos rfl]
    rw [loop_done (x := (0 : Int)) (fun k => (k : Int)) (bk a1.length b) (.inr ()) (fun k hk' => ?_) ?_ rfl]
    · simp only [F11.j1]
      rw [Option.bind_some, delta_awake]; rfl
    · simp only [F11.b1]
      rw [if_neg (by omega)]
    · obtain ⟨mk, hp⟩ := hg k (by omega)
      have hlen := mk_len mk
      have hbl := blk_len a1 b k hk'
      have eb : subL a1 ((k * b : Nat) : Int) ((min a1.length (k * b + b) : Nat) : Int) = blk a1 b k := rfl
      rw [eb] at mk hlen
      have hok := mk.ok
      simp only [F11.b1]
      rw [hl, if_pos (by omega), block37 a1 b k (by omega) h2 (by omega), Option.bind_some, Int.toNat_natCast, Int.toNat_natCast, if_neg (show ¬ ((k : Int) < 0 ∨ ((bk a1.length b : Nat) : Int) ≤ (k : Int)) by omega), if_pos (by omega)]
      rw [eval17 _ a0 _ (by omega) (fun s hs => by have := rt_in (hok s hs); omega) (by omega) (by omega), Option.bind_some, if_neg (show ¬ ¬ (∀ s ∈ gd pl (k : Int), rt s = true) from fun h => h hok), if_pos mk.tot, mk.ev, put25 _ (by omega) (fun s hs => by have := rt_in (hok s hs); omega), Option.bind_some, if_pos hok]
      simp only [List.nil_append]
      rw [if_pos trivial, if_pos trivial, if_pos trivial, w64 (n := (b : Int) + 12) (by omega) (by omega), if_neg (by omega), w64 (by omega) (by omega)]
      rfl
  · have e : F35_1.m a0 a1 a2 = some ([], 1) := by
      unfold F35_1.m F58.m
      by_cases d : 128 ≤ a2
      · rw [if_pos d, Option.bind_some, if_neg (by rw [decide_eq_true_iff]; exact fun h => hb ⟨d, h⟩)]
      · rw [if_neg d, Option.bind_some, if_neg (by simp)]
    rw [e, Option.bind_some]
    by_cases d : a2 < 128
    · rw [if_pos d, if_pos (by simp), if_pos rfl, delta_awake]; rfl
    · rw [if_neg d, if_pos (by omega), if_pos (by simp), if_pos rfl, delta_awake]; rfl
end Go.Proofs.Ytedokgdilpfomaa
