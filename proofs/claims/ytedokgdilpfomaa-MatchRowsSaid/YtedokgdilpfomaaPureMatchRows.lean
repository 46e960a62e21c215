/- What MatchRows needs. -/
import Derived.Test.YtedokgdilpfomaaPureMatL
import Derived.Test.YtedokgdilpfomaaYMatchRows
set_option linter.unusedVariables false
set_option linter.unusedSimpArgs false
namespace Go.Proofs.Ytedokgdilpfomaa
open Go Go.Eng Go.Proofs
theorem stands31 (old row : List Int) (ho : old.length ≤ 5000) (hr : row.length ≤ 5000) (hou : ∀ x ∈ old, 0 ≤ x ∧ x ≤ 255) (hru : ∀ x ∈ row, 0 ≤ x ∧ x ≤ 255) :
    ∃ r, F31.m old row = some r ∧ (r = true → ∃ s, s + row.length ≤ old.length ∧ ∀ j : Nat, j < row.length → gd old ((s + j : Nat) : Int) = gd row (j : Int)) := by
  unfold F31.m
  obtain ⟨y, hy, hQ⟩ := loop_ends (b := F31.b1 old row) (fun x => ∃ k : Nat, x = (k : Int) ∧ k ≤ old.length + 1) (fun x => ((old.length : Int) + 1 - x).toNat)
    (fun y => (y = .inl true ∧ ∃ s, s + row.length ≤ old.length ∧ ∀ j : Nat, j < row.length → gd old ((s + j : Nat) : Int) = gd row (j : Int)) ∨ y = .inr ()) (fun x hx => by
      obtain ⟨k, rfl, h1⟩ := hx
      simp only [F31.b1]
      rw [w64 (n := (old.length : Int) - (row.length : Int)) (by omega) (by omega)]
      by_cases c : (k : Int) ≤ (old.length : Int) - (row.length : Int)
      · rw [if_pos c, w64 (n := (k : Int) + (row.length : Int)) (by omega) (by omega), if_pos (by omega), show (k : Int) + (row.length : Int) = ((k + row.length : Nat) : Int) by omega]
        by_cases d : strOfNums (subL old (k : Int) ((k + row.length : Nat) : Int)) = strOfNums row
        · rw [if_pos d]
          have := str_inj (fun x hx => hou x (by unfold subL at hx; exact List.mem_of_mem_drop (List.mem_of_mem_take hx))) hru d
          refine out_ (x := (k : Int)) (.inl ⟨rfl, k, by omega, fun j hj => ?_⟩)
          rw [← subL_at old k (k + row.length) j (by omega), this]
        · rw [if_neg d, w64 (by omega) (by omega)]
          exact on_ (x := (k : Int)) ⟨k + 1, rfl, by omega⟩ (by omega)
      · rw [if_neg c]
        exact out_ (x := (k : Int)) (.inr rfl)) 0 ⟨0, rfl, by omega⟩
  rw [hy]
  rcases hQ with ⟨rfl, h⟩ | rfl
  · exact ⟨true, rfl, fun _ => h⟩
  · exact ⟨false, rfl, fun h => by cases h⟩
theorem pure_MatchRows (a0 : (List Int)) (a1 : (List Int)) (a2 : Int) (w0 : ∀ x ∈ a0, InR .u8 x) (m0 : a0.length ≤ maxLen) (w1 : ∀ x ∈ a1, InR .u8 x) (m1 : a1.length ≤ maxLen) (w2 : InR .i64 a2) :
    F9.m a0 a1 a2 = some true := by
  have hou : ∀ x ∈ a0, 0 ≤ x ∧ x ≤ 255 := fun x hx => inU8 (w0 x hx)
  have hnu : ∀ x ∈ a1, 0 ≤ x ∧ x ≤ 255 := fun x hx => inU8 (w1 x hx)
  unfold F9.m
  by_cases h1 : (1000 : Int) < (a0.length : Int)
  · rw [if_pos h1, match_awake]; rfl
  rw [if_neg h1]
  by_cases h2 : (1000 : Int) < (a1.length : Int)
  · rw [if_pos h2, match_awake]; rfl
  rw [if_neg h2]
  by_cases h3 : a2 < 0
  · rw [if_pos h3, match_awake]; rfl
  rw [if_neg h3]
  by_cases h4 : (a1.length : Int) ≤ a2
  · rw [if_pos h4, match_awake]; rfl
  rw [if_neg h4, w64 (n := (a1.length : Int) - a2) (by omega) (by omega)]
  by_cases h5 : (a1.length : Int) - a2 < 32
  · rw [if_pos h5, match_awake]; rfl
  rw [if_neg h5, w64 (n := a2 + 32) (by omega) (by omega), if_pos (by omega)]
  obtain ⟨at_, rfl⟩ := nat_of (show 0 ≤ a2 by omega)
  rw [show (at_ : Int) + 32 = ((at_ + 32 : Nat) : Int) by omega]
  have hsl := subL_len a1 at_ (at_ + 32) (by omega)
  obtain ⟨r, er, hr⟩ := stands31 a0 (subL a1 (at_ : Int) ((at_ + 32 : Nat) : Int)) (by omega) (by omega) hou (fun x hx => hnu x (by unfold subL at hx; exact List.mem_of_mem_drop (List.mem_of_mem_take hx)))
  rw [er, Option.bind_some]
  by_cases hrt : r = true
  · rw [if_pos hrt]
    obtain ⟨s, hs, hh⟩ := hr hrt
    rw [hsl] at hs hh
    obtain ⟨l, e, hk, hc, _, _⟩ := find_is a0 a1 (by omega) (by omega) hou hnu
    have hll := pk_le hk
    obtain ⟨t, ht, c1, c2⟩ := hc at_ s (by omega) (by omega) (by omega) (fun j hj => by rw [hh j (by omega), subL_at a1 at_ (at_ + 32) j (by omega)])
    rw [e, Option.bind_some]
    obtain ⟨y, hy, hQ⟩ := loop_ends (b := F9.b1 (at_ : Int) l) (fun x => ∃ k : Nat, x = (k : Int) ∧ k ≤ l.length ∧ ∀ j : Nat, j < k → ¬ ((gd l (j : Int)).1 < (at_ : Int) + 32 ∧ (at_ : Int) < (gd l (j : Int)).1 + (gd l (j : Int)).2.2)) (fun x => ((l.length : Int) - x).toNat)
      (fun y => y = .inl true) (fun x hx => by
        obtain ⟨k, rfl, g1, g2⟩ := hx
        simp only [F9.b1]
        rw [w64 (n := (at_ : Int) + 32) (by omega) (by omega)]
        by_cases hk' : k < l.length
        · obtain ⟨a', N, O, L, g, _, _⟩ := pk_at hk k hk'
          have g5 := g.nl
          rw [if_pos (by omega), if_pos (by omega), g.n, g.l, w64 (n := (N : Int) + (L : Int)) (by omega) (by omega)]
          have nx : (¬ ((N : Int) < (at_ : Int) + 32 ∧ (at_ : Int) < (N : Int) + (L : Int))) → ∃ s, F9.j2 (k : Int) = some s ∧ (∀ x', s = .inl x' → (∃ k : Nat, x' = (k : Int) ∧ k ≤ l.length ∧ ∀ j : Nat, j < k → ¬ ((gd l (j : Int)).1 < (at_ : Int) + 32 ∧ (at_ : Int) < (gd l (j : Int)).1 + (gd l (j : Int)).2.2)) ∧ ((l.length : Int) - x').toNat < ((l.length : Int) - (k : Int)).toNat) ∧ (∀ y, s = .inr y → y = .inl true) := by
            intro hno
            simp only [F9.j2]
            rw [w64 (by omega) (by omega)]
            refine on_ (I := fun x' : Int => ∃ k : Nat, x' = (k : Int) ∧ k ≤ l.length ∧ ∀ j : Nat, j < k → ¬ ((gd l (j : Int)).1 < (at_ : Int) + 32 ∧ (at_ : Int) < (gd l (j : Int)).1 + (gd l (j : Int)).2.2)) (m := fun x' => ((l.length : Int) - x').toNat) (x := (k : Int)) ⟨k + 1, rfl, by omega, fun j hj => ?_⟩ (by omega)
            by_cases e : j = k
            · subst e; rw [g.n, g.l]; exact hno
            · exact g2 j (by omega)
          by_cases d1 : (N : Int) < (at_ : Int) + 32
          · rw [if_pos d1]
            by_cases d2 : (at_ : Int) < (N : Int) + (L : Int)
            · rw [if_pos d2, match_awake, Option.bind_some]
              exact out_ (x := (k : Int)) rfl
            · rw [if_neg d2]; exact nx (fun h => d2 h.2)
          · rw [if_neg d1]; exact nx (fun h => d1 h.1)
        · exfalso
          obtain ⟨j, hj, ej⟩ := List.mem_iff_getElem.1 ht
          refine g2 j (by omega) ?_
          rw [gd_at _ _ hj, ej]
          exact ⟨c1, c2⟩) 0 ⟨0, rfl, by omega, fun j hj => by omega⟩
    rw [hy, hQ]
    rfl
  · rw [if_neg hrt, match_awake]; rfl
end Go.Proofs.Ytedokgdilpfomaa
