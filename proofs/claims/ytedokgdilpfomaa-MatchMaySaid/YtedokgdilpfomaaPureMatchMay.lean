/- What MatchMay needs. -/
import Derived.Test.YtedokgdilpfomaaPureMatF
import Derived.Test.YtedokgdilpfomaaYMatchMay
set_option linter.unusedVariables false
set_option linter.unusedSimpArgs false
namespace Go.Proofs.Ytedokgdilpfomaa
open Go Go.Eng Go.Proofs
def one (t : Pce) (a old new : Int) : Bool := decide (1 ≤ t.2.2 ∧ a ≤ t.1 ∧ t.1 ≤ new ∧ t.2.2 ≤ new - t.1 ∧ 0 ≤ t.2.1 ∧ t.2.1 ≤ old ∧ t.2.2 ≤ old - t.2.1)
theorem may57 (t : Pce) (a old new : Int) (ha : 0 ≤ a) (ho : 0 ≤ old ∧ old ≤ 100000) (hn : 0 ≤ new ∧ new ≤ 100000) (ht : -9223372036854775808 ≤ t.1 ∧ t.1 ≤ 9223372036854775807) (ht' : -9223372036854775808 ≤ t.2.1 ∧ t.2.1 ≤ 9223372036854775807) : F57.m t.1 t.2.1 t.2.2 a old new = some (one t a old new) := by
  unfold F57.m one
  by_cases h1' : ¬ ((1 : Int) ≤ t.2.2)
  · rw [if_neg h1', decide_eq_false (by omega)]
  have h1 := Decidable.not_not.1 h1'
  rw [if_pos h1]
  by_cases h2' : ¬ (a ≤ t.1)
  · rw [if_neg h2', decide_eq_false (by omega)]
  have h2 := Decidable.not_not.1 h2'
  rw [if_pos h2]
  by_cases h3' : ¬ (t.1 ≤ new)
  · rw [if_neg h3', decide_eq_false (by omega)]
  have h3 := Decidable.not_not.1 h3'
  rw [if_pos h3, w64 (n := new - t.1) (by omega) (by omega)]
  by_cases h4' : ¬ (t.2.2 ≤ new - t.1)
  · rw [if_neg h4', decide_eq_false (by omega)]
  have h4 := Decidable.not_not.1 h4'
  rw [if_pos h4]
  by_cases h5' : ¬ (0 ≤ t.2.1)
  · rw [if_neg h5', decide_eq_false (by omega)]
  have h5 := Decidable.not_not.1 h5'
  rw [if_pos h5]
  by_cases h6' : ¬ (t.2.1 ≤ old)
  · rw [if_neg h6', decide_eq_false (by omega)]
  have h6 := Decidable.not_not.1 h6'
  rw [if_pos h6, w64 (n := old - t.2.1) (by omega) (by omega)]
  congr 1
  rw [decide_eq_decide]
  omega
theorem may56 (t : Pce) (old new : Int) (ho : 0 ≤ old ∧ old ≤ 100000) (hn : 0 ≤ new ∧ new ≤ 100000) : F56.m t.1 t.2.1 t.2.2 old new = some (one t 0 old new) := by
  unfold F56.m one
  by_cases h1 : t.2.2 < 1
  · rw [if_pos h1, decide_eq_false (by omega)]
  rw [if_neg h1]
  by_cases h2 : t.1 < 0
  · rw [if_pos h2, decide_eq_false (by omega)]
  rw [if_neg h2]
  by_cases h3 : t.2.1 < 0
  · rw [if_pos h3, decide_eq_false (by omega)]
  rw [if_neg h3]
  by_cases h4 : new < t.1
  · rw [if_pos h4, decide_eq_false (by omega)]
  rw [if_neg h4]
  by_cases h5 : old < t.2.1
  · rw [if_pos h5, decide_eq_false (by omega)]
  rw [if_neg h5, w64 (n := new - t.1) (by omega) (by omega)]
  by_cases h6' : ¬ (t.2.2 ≤ new - t.1)
  · rw [if_neg h6', decide_eq_false (by omega)]
  have h6 := Decidable.not_not.1 h6'
  rw [if_pos h6, w64 (n := old - t.2.1) (by omega) (by omega)]
  congr 1
  rw [decide_eq_decide]
  omega
theorem one_in {t : Pce} {a old new : Int} (h : one t a old new = true) : 1 ≤ t.2.2 ∧ a ≤ t.1 ∧ t.1 ≤ new ∧ t.2.2 ≤ new - t.1 ∧ 0 ≤ t.2.1 ∧ t.2.1 ≤ old ∧ t.2.2 ≤ old - t.2.1 := of_decide_eq_true h
/-- Are the pieces of a list right, from a place of the new one on? -/
def mays (old new : Int) : Int → List Pce → Bool
  | _, [] => true
  | a, t :: l => one t a old new && mays old new (t.1 + t.2.2) l
theorem may32 (l : List Pce) (old new : Int) (hl : l.length ≤ 100) (ho : 0 ≤ old ∧ old ≤ 100000) (hn : 0 ≤ new ∧ new ≤ 100000) (ht : ∀ t ∈ l, (-9223372036854775808 ≤ t.1 ∧ t.1 ≤ 9223372036854775807) ∧ (-9223372036854775808 ≤ t.2.1 ∧ t.2.1 ≤ 9223372036854775807)) : F32.m l old new = some (mays old new 0 l) := by
  unfold F32.m
  obtain ⟨y, hy, hQ⟩ := loop_ends (b := F32.b1 l old new) (fun x => ∃ k : Nat, x.2 = (k : Int) ∧ k ≤ l.length ∧ 0 ≤ x.1 ∧ mays old new x.1 (l.drop k) = mays old new 0 l) (fun x => ((l.length : Int) - x.2).toNat)
    (fun y => (y = .inl false ∧ mays old new 0 l = false) ∨ (y = .inr () ∧ mays old new 0 l = true)) (fun x hx => by
      obtain ⟨a, k⟩ := x
      obtain ⟨k, rfl, h1, h2, h3⟩ := hx
      simp only at h2 h3
      simp only [F32.b1]
      by_cases hk : k < l.length
      · have hm := ht _ (gd_mem l k hk)
        rw [drop_gd l k hk, mays] at h3
        rw [if_pos (by omega), if_pos (by omega), may57 _ a old new h2 ho hn hm.1 hm.2, Option.bind_some]
        by_cases ho' : one (gd l (k : Int)) a old new = true
        · have hin := one_in ho'
          rw [if_pos ho', w64 (n := (gd l (k : Int)).1 + _) (by omega) (by omega), w64 (by omega) (by omega)]
          rw [ho', Bool.true_and] at h3
          exact on_ (x := (a, (k : Int))) ⟨k + 1, rfl, by omega, by simp only; omega, h3⟩ (by simp only; omega)
        · rw [if_neg ho']
          have ho'' : one (gd l (k : Int)) a old new = false := by simpa using ho'
          rw [ho'', Bool.false_and] at h3
          exact out_ (x := (a, (k : Int))) (.inl ⟨rfl, h3.symm⟩)
      · rw [if_neg (by omega)]
        rw [List.drop_of_length_le (by omega), mays] at h3
        exact out_ (x := (a, (k : Int))) (.inr ⟨rfl, h3.symm⟩)) (0, 0) ⟨0, rfl, by omega, by simp, rfl⟩
  rw [hy]
  rcases hQ with ⟨rfl, h⟩ | ⟨rfl, h⟩
  · rw [h]; rfl
  · rw [h]; rfl
theorem may29' (l : List Pce) (old new : Int) (hl : l.length ≤ 100) (ho : 0 ≤ old ∧ old ≤ 100000) (hn : 0 ≤ new ∧ new ≤ 100000) : F29.m l old new = some (mays old new 0 l) := by
  unfold F29.m
  obtain ⟨y, hy, hQ⟩ := loop_ends (b := F29.b1 l old new) (fun x => ∃ (k : Nat) (a : Int), x = (k : Int) ∧ k ≤ l.length ∧ 0 ≤ a ∧ (k = 0 → a = 0) ∧ (∀ j : Nat, k = j + 1 → a = (gd l (j : Int)).1 + (gd l (j : Int)).2.2 ∧ one (gd l (j : Int)) 0 old new = true) ∧ mays old new a (l.drop k) = mays old new 0 l) (fun x => ((l.length : Int) - x).toNat)
    (fun y => (y = .inl false ∧ mays old new 0 l = false) ∨ (y = .inr () ∧ mays old new 0 l = true)) (fun x hx => by
      obtain ⟨k, a, rfl, h1, h2, h3, h4, h5⟩ := hx
      simp only [F29.b1]
      by_cases hk : k < l.length
      · rw [drop_gd l k hk, mays] at h5
        rw [if_pos (by omega), if_pos (by omega), may56 _ old new ho hn, Option.bind_some]
        have fin : ∀ (ht : one (gd l (k : Int)) 0 old new = true) (ht' : one (gd l (k : Int)) a old new = true), ∃ s, F29.j2 (k : Int) = some s ∧ (∀ x', s = .inl x' → (∃ (k : Nat) (a : Int), x' = (k : Int) ∧ k ≤ l.length ∧ 0 ≤ a ∧ (k = 0 → a = 0) ∧ (∀ j : Nat, k = j + 1 → a = (gd l (j : Int)).1 + (gd l (j : Int)).2.2 ∧ one (gd l (j : Int)) 0 old new = true) ∧ mays old new a (l.drop k) = mays old new 0 l) ∧ ((l.length : Int) - x').toNat < ((l.length : Int) - (k : Int)).toNat) ∧ (∀ y, s = .inr y → (y = .inl false ∧ mays old new 0 l = false) ∨ (y = .inr () ∧ mays old new 0 l = true)) := by
          intro ht ht'
          have hin := one_in ht
          simp only [F29.j2]
          rw [w64 (by omega) (by omega)]
          rw [ht', Bool.true_and] at h5
          refine ⟨_, rfl, fun x' e => ?_, fun y e => by cases e⟩
          cases e
          refine ⟨⟨k + 1, (gd l (k : Int)).1 + (gd l (k : Int)).2.2, rfl, by omega, by omega, fun h => by omega, fun j hj => ?_, h5⟩, by omega⟩
          have : j = k := by omega
          subst this
          exact ⟨rfl, ht⟩
        have bad : one (gd l (k : Int)) a old new = false → mays old new 0 l = false := fun h => by rw [h, Bool.false_and] at h5; exact h5.symm
        by_cases ht : one (gd l (k : Int)) 0 old new = true
        · have hin := one_in ht
          rw [if_pos ht]
          by_cases hk0 : (0 : Int) < (k : Int)
          · obtain ⟨j, rfl⟩ : ∃ j, k = j + 1 := ⟨k - 1, by omega⟩
            obtain ⟨ea, hj⟩ := h4 j rfl
            have hin' := one_in hj
            rw [if_pos hk0, show ((j + 1 : Nat) : Int) - 1 = (j : Int) by omega, w64 (n := (j : Int)) (by omega) (by omega), if_pos (by omega), w64 (n := (gd l ((j + 1 : Nat) : Int)).1 - (gd l (j : Int)).1) (by omega) (by omega)]
            by_cases c : (gd l ((j + 1 : Nat) : Int)).1 - (gd l (j : Int)).1 < (gd l (j : Int)).2.2
            · rw [if_pos c]
              exact out_ (x := ((j + 1 : Nat) : Int)) (.inl ⟨rfl, bad (by unfold one; exact decide_eq_false (by omega))⟩)
            · rw [if_neg c]
              exact fin ht (by unfold one; exact decide_eq_true (by omega))
          · rw [if_neg hk0]
            have := h3 (by omega)
            subst this
            exact fin ht ht
        · rw [if_neg ht]
          refine out_ (x := (k : Int)) (.inl ⟨rfl, bad ?_⟩)
          unfold one at ht ⊢
          rw [decide_eq_true_iff] at ht
          exact decide_eq_false (by omega)
      · rw [if_neg (by omega)]
        rw [List.drop_of_length_le (by omega), mays] at h5
        exact out_ (x := (k : Int)) (.inr ⟨rfl, h5.symm⟩)) 0 ⟨0, 0, rfl, by omega, by omega, fun _ => rfl, fun j hj => by omega, rfl⟩
  rw [hy]
  rcases hQ with ⟨rfl, h⟩ | ⟨rfl, h⟩
  · rw [h]; rfl
  · rw [h]; rfl
theorem b33 : F33.b1 = F30.b1 := rfl
theorem same_some (old new : List Int) (t : Pce) (ho : old.length ≤ 5000) (hn : new.length ≤ 5000) (h : one t 0 old.length new.length = true) : ∃ c : Int, loop (F30.b1 old new t.1 t.2.1 t.2.2) (0, 0) = some c := by
  have hin := one_in h
  obtain ⟨N, hN⟩ := nat_of hin.2.1
  obtain ⟨O, hO⟩ := nat_of hin.2.2.2.2.1
  obtain ⟨L, hL⟩ := nat_of (show 0 ≤ t.2.2 by omega)
  rw [hN, hO, hL]
  rw [hN, hO, hL] at hin
  obtain ⟨y, hy, _⟩ := loop_ends (b := F30.b1 old new (N : Int) (O : Int) (L : Int)) (fun x => ∃ k : Nat, x.2 = (k : Int) ∧ k ≤ L ∧ 0 ≤ x.1 ∧ x.1 ≤ k) (fun x => ((L : Int) - x.2).toNat) (fun _ => True) (fun x hx => by
    obtain ⟨c, k⟩ := x
    obtain ⟨k, rfl, h1, h2, h3⟩ := hx
    simp only at h2 h3
    simp only [F30.b1]
    by_cases hk : k < L
    · rw [if_pos (by omega), w64 (n := (O : Int) + (k : Int)) (by omega) (by omega), if_pos (by omega), w64 (n := (N : Int) + (k : Int)) (by omega) (by omega), if_pos (by omega)]
      by_cases e : gd old ((O : Int) + (k : Int)) = gd new ((N : Int) + (k : Int))
      · rw [if_pos e]
        simp only [F30.j2]
        rw [w64 (n := c + 1) (by omega) (by omega), w64 (by omega) (by omega)]
        exact on_ (x := (c, (k : Int))) ⟨k + 1, rfl, by omega, by simp only; omega, by simp only; omega⟩ (by simp only; omega)
      · rw [if_neg e]
        simp only [F30.j2]
        rw [w64 (by omega) (by omega)]
        exact on_ (x := (c, (k : Int))) ⟨k + 1, rfl, by omega, h2, by simp only; omega⟩ (by simp only; omega)
    · rw [if_neg (by omega)]
      exact out_ (x := (c, (k : Int))) trivial) (0, 0) ⟨0, rfl, by omega, by simp, by simp⟩
  exact ⟨y, hy⟩
theorem pure_MatchMay (a0 : List (Int × Int × Int)) (a1 : (List Int)) (a2 : (List Int)) (a3 : (Int × Int × Int)) (w0 : ∀ x ∈ a0, (InR .i64 x.1 ∧ InR .i64 x.2.1 ∧ InR .i64 x.2.2)) (m0 : a0.length ≤ maxLen) (w1 : ∀ x ∈ a1, InR .u8 x) (m1 : a1.length ≤ maxLen) (w2 : ∀ x ∈ a2, InR .u8 x) (m2 : a2.length ≤ maxLen) (w3 : (InR .i64 a3.1 ∧ InR .i64 a3.2.1 ∧ InR .i64 a3.2.2)) :
    F10.m a0 a1 a2 (a3.1) (a3.2.1) (a3.2.2) = some true := by
  unfold F10.m
  by_cases h0 : (60 : Int) < (a0.length : Int)
  · rw [if_pos h0, match_awake]; rfl
  rw [if_neg h0]
  by_cases h1 : (1000 : Int) < (a1.length : Int)
  · rw [if_pos h1, match_awake]; rfl
  rw [if_neg h1]
  by_cases h2 : (1000 : Int) < (a2.length : Int)
  · rw [if_pos h2, match_awake]; rfl
  rw [if_neg h2, may32 a0 _ _ (by omega) (by omega) (by omega) (fun t ht => ⟨inI64 (w0 t ht).1, inI64 (w0 t ht).2.1⟩), Option.bind_some, may29' a0 _ _ (by omega) (by omega) (by omega), Option.bind_some, if_pos (by simp)]
  have e : F33.m a1 a2 a3.1 a3.2.1 a3.2.2 = F30.m a1 a2 a3.1 a3.2.1 a3.2.2 := by
    unfold F33.m F30.m
    rw [may57 a3 0 _ _ (by omega) (by omega) (by omega) (inI64 w3.1) (inI64 w3.2.1), may56 a3 _ _ (by omega) (by omega)]
    rfl
  have hs : ∃ c, F30.m a1 a2 a3.1 a3.2.1 a3.2.2 = some c := by
    unfold F30.m
    rw [may56 a3 _ _ (by omega) (by omega), Option.bind_some]
    by_cases ho : one a3 0 a1.length a2.length = true
    · rw [if_pos ho]
      obtain ⟨c, hc⟩ := same_some a1 a2 a3 (by omega) (by omega) ho
      rw [hc]
      exact ⟨c, rfl⟩
    · rw [if_neg ho]; exact ⟨0, rfl⟩
  obtain ⟨c, hc⟩ := hs
  rw [e, hc, Option.bind_some, Option.bind_some, if_pos rfl, match_awake]
  rfl
end Go.Proofs.Ytedokgdilpfomaa
