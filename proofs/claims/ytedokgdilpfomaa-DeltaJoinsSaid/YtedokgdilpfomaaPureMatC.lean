/- What MatC needs. -/
import Derived.Test.YtedokgdilpfomaaMatx1
import Derived.Test.YtedokgdilpfomaaEngLp
set_option linter.unusedVariables false
set_option linter.unusedSimpArgs false
namespace Go.Proofs.Ytedokgdilpfomaa
open Go Go.Eng Go.Proofs
/-! ### Comparing bytes -/
def chl (l : List Int) (i : Nat) : Nat := if i < l.length then (gd l (i : Int)).toNat + 1 else 0
def LT (u v : Nat → Nat) : Prop := ∃ k, (∀ i, i < k → u i = v i) ∧ u k < v k
theorem baOf_size (l : List Int) : (baOf l).size = l.length := by simp [baOf, ByteArray.size]
theorem baOf_at (l : List Int) (i : Nat) (h : i < l.length) : (baOf l)[i]! = UInt8.ofNat (gd l (i : Int)).toNat := by
  rw [getElem!_pos (baOf l) i (by rw [baOf_size]; exact h), gd_at _ _ h]
  simp [baOf, ByteArray.getElem_eq_getElem_data]
theorem cmp_is (a b : List Int) (ha : ∀ x ∈ a, 0 ≤ x ∧ x ≤ 255) (hb : ∀ x ∈ b, 0 ≤ x ∧ x ≤ 255) : (0 ≤ Extern.BytealgCompare.cmp (baOf a) (baOf b)) ↔ ¬ LT (chl a) (chl b) := by
  have hga : ∀ i : Nat, i < a.length → 0 ≤ gd a (i : Int) ∧ gd a (i : Int) ≤ 255 := fun i hi => ha _ (gd_mem a i hi)
  have hgb : ∀ i : Nat, i < b.length → 0 ≤ gd b (i : Int) ∧ gd b (i : Int) ≤ 255 := fun i hi => hb _ (gd_mem b i hi)
  have hne : ∀ i : Nat, i < a.length → i < b.length → (((baOf a)[i]! != (baOf b)[i]!) = true ↔ gd a (i : Int) ≠ gd b (i : Int)) := fun i h1 h2 => by
    rw [baOf_at _ _ h1, baOf_at _ _ h2, bne_iff_ne, ne_eq, ← UInt8.toNat_inj]
    have := hga i h1
    have := hgb i h2
    simp
    omega
  have hlt : ∀ i : Nat, i < a.length → i < b.length → (((baOf a)[i]! < (baOf b)[i]!) ↔ gd a (i : Int) < gd b (i : Int)) := fun i h1 h2 => by
    rw [baOf_at _ _ h1, baOf_at _ _ h2, UInt8.lt_iff_toNat_lt]
    have := hga i h1
    have := hgb i h2
    simp
    omega
  have hca : ∀ i : Nat, i < a.length → chl a i = (gd a (i : Int)).toNat + 1 := fun i h => by unfold chl; rw [if_pos h]
  have hcb : ∀ i : Nat, i < b.length → chl b i = (gd b (i : Int)).toNat + 1 := fun i h => by unfold chl; rw [if_pos h]
  have hza : ∀ i : Nat, a.length ≤ i → chl a i = 0 := fun i h => by unfold chl; rw [if_neg (by omega)]
  have hzb : ∀ i : Nat, b.length ≤ i → chl b i = 0 := fun i h => by unfold chl; rw [if_neg (by omega)]
  unfold Extern.BytealgCompare.cmp
  rw [baOf_size, baOf_size]
  cases hf : (List.range (min a.length b.length)).find? (fun i => (baOf a)[i]! != (baOf b)[i]!) with
  | some i =>
    have h1 := List.find?_some hf
    have h2 := List.mem_of_find?_eq_some hf
    have h3 : i < min a.length b.length := by simpa using h2
    have hia : i < a.length := by omega
    have hib : i < b.length := by omega
    rw [hne i hia hib] at h1
    have h4 : ∀ j, j < i → gd a (j : Int) = gd b (j : Int) := fun j hj => by
      rw [List.find?_eq_some_iff_append] at hf
      obtain ⟨_, l1, l2, he, hall⟩ := hf
      have hl : l1.length = i := by
        have := congrArg (fun l => l[l1.length]?) he
        simp only [List.getElem?_append_right (Nat.le_refl _), Nat.sub_self, List.getElem?_cons_zero] at this
        rw [List.getElem?_range (by
          have := congrArg List.length he
          simp at this
          omega)] at this
        exact Option.some.inj this
      have hmem : j ∈ l1 := by
        have := congrArg (fun l => l[j]?) he
        simp only [List.getElem?_append_left (show j < l1.length by omega)] at this
        rw [List.getElem?_range (by omega)] at this
        exact List.mem_of_getElem? this.symm
      have := hall j hmem
      by_cases e : gd a (j : Int) = gd b (j : Int)
      · exact e
      · have h5 := (hne j (by omega) (by omega)).2 e
        rw [h5] at this
        cases this
    have ai := hga i hia
    have bi := hgb i hib
    simp only
    by_cases c : (baOf a)[i]! < (baOf b)[i]!
    · rw [if_pos c]
      rw [hlt i hia hib] at c
      constructor
      · intro h; omega
      · intro h
        refine absurd ⟨i, fun j hj => ?_, ?_⟩ h
        · rw [hca j (by omega), hcb j (by omega), h4 j hj]
        · rw [hca i hia, hcb i hib]; omega
    · rw [if_neg c]
      rw [hlt i hia hib] at c
      refine ⟨fun _ => ?_, fun _ => by omega⟩
      rintro ⟨k, e1, e2⟩
      rcases Nat.lt_trichotomy k i with d | d | d
      · rw [hca k (by omega), hcb k (by omega), h4 k d] at e2; omega
      · subst d; rw [hca k hia, hcb k hib] at e2; omega
      · have := e1 i d
        rw [hca i hia, hcb i hib] at this; omega
  | none =>
    have h4 : ∀ j, j < min a.length b.length → gd a (j : Int) = gd b (j : Int) := fun j hj => by
      have := List.find?_eq_none.1 hf j (by simpa using hj)
      by_cases e : gd a (j : Int) = gd b (j : Int)
      · exact e
      · exact absurd ((hne j (by omega) (by omega)).2 e) this
    simp only
    by_cases c : a.length < b.length
    · rw [if_pos c]
      constructor
      · intro h; omega
      · intro h
        refine absurd ⟨a.length, fun j hj => ?_, ?_⟩ h
        · rw [hca j hj, hcb j (by omega), h4 j (by omega)]
        · rw [hza _ (Nat.le_refl _), hcb _ c]; omega
    · rw [if_neg c]
      refine ⟨fun _ => ?_, fun _ => by split <;> omega⟩
      rintro ⟨k, e1, e2⟩
      by_cases d : k < b.length
      · rw [hca k (by omega), hcb k d, h4 k (by omega)] at e2; omega
      · rw [hzb k (by omega)] at e2; omega
end Go.Proofs.Ytedokgdilpfomaa
