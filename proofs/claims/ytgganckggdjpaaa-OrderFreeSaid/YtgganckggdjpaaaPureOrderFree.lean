/- What OrderFree needs. -/
import Derived.Test.YtgganckggdjpaaaPureOrdF
import Derived.Test.YtgganckggdjpaaaYOrderFree
import Derived.Test.YtgganckggdjpaaaEngLaw
set_option linter.unusedVariables false
set_option linter.unusedSimpArgs false
namespace Go.Proofs.Ytgganckggdjpaaa
open Go Go.Eng Go.Proofs
def lowRow (t : Nat) (l : List Int) : Prop := l.length ≤ 60 ∧ ∀ c : Nat, c < l.length → 0 ≤ gd l (c : Int) ∧ gd l (c : Int) < (t : Int) ∧ (0 < c → gd l ((c - 1 : Nat) : Int) < gd l (c : Int))
theorem row3 (x : List (List Int)) (i : Nat) (hi : i < x.length) (hx : x.length ≤ 40) (hl : (gd x (i : Int)).length ≤ 60) : ∃ l, loop (F3.b2 x (i : Int)) ([], 0) = some l ∧ lowRow i l := by
  obtain ⟨y, hy, hQ⟩ := loop_ends (b := F3.b2 x (i : Int)) (fun s => ∃ j : Nat, s.2 = (j : Int) ∧ j ≤ (gd x (i : Int)).length ∧ s.1.length ≤ j ∧ ∀ c : Nat, c < s.1.length → 0 ≤ gd s.1 (c : Int) ∧ gd s.1 (c : Int) < (i : Int) ∧ (0 < c → gd s.1 ((c - 1 : Nat) : Int) < gd s.1 (c : Int))) (fun s => (((gd x (i : Int)).length : Int) - s.2).toNat)
    (fun y => lowRow i y) (fun s hs => by
      obtain ⟨l, j⟩ := s
      obtain ⟨j, rfl, hj, hlj, hc⟩ := hs
      simp only at hlj hc
      simp only [F3.b2]
      rw [if_pos (by omega)]
      by_cases h : j < (gd x (i : Int)).length
      · rw [if_pos (by omega), if_pos (by omega)]
        have skip : ∃ s, F3.j4 (j : Int) l = some s ∧ (∀ x', s = .inl x' → (∃ j : Nat, x'.2 = (j : Int) ∧ j ≤ (gd x (i : Int)).length ∧ x'.1.length ≤ j ∧ ∀ c : Nat, c < x'.1.length → 0 ≤ gd x'.1 (c : Int) ∧ gd x'.1 (c : Int) < (i : Int) ∧ (0 < c → gd x'.1 ((c - 1 : Nat) : Int) < gd x'.1 (c : Int))) ∧ (((gd x (i : Int)).length : Int) - x'.2).toNat < (((gd x (i : Int)).length : Int) - (j : Int)).toNat) ∧ (∀ y, s = .inr y → lowRow i y) := by
          simp only [F3.j4]
          rw [w64 (by omega) (by omega)]
          refine ⟨_, rfl, fun x' e => ?_, fun y e => by cases e⟩
          cases e
          exact ⟨⟨j + 1, rfl, by omega, by simp only; omega, hc⟩, by simp only; omega⟩
        have put : ∀ e : Int, 0 ≤ e → e < (i : Int) → (0 < l.length → gd l ((l.length - 1 : Nat) : Int) < e) → ∃ s, F3.j4 (j : Int) (l ++ [e]) = some s ∧ (∀ x', s = .inl x' → (∃ j : Nat, x'.2 = (j : Int) ∧ j ≤ (gd x (i : Int)).length ∧ x'.1.length ≤ j ∧ ∀ c : Nat, c < x'.1.length → 0 ≤ gd x'.1 (c : Int) ∧ gd x'.1 (c : Int) < (i : Int) ∧ (0 < c → gd x'.1 ((c - 1 : Nat) : Int) < gd x'.1 (c : Int))) ∧ (((gd x (i : Int)).length : Int) - x'.2).toNat < (((gd x (i : Int)).length : Int) - (j : Int)).toNat) ∧ (∀ y, s = .inr y → lowRow i y) := fun e e0 e1 e2 => by
          simp only [F3.j4]
          rw [w64 (by omega) (by omega)]
          refine ⟨_, rfl, fun x' ex => ?_, fun y ey => by cases ey⟩
          cases ex
          refine ⟨⟨j + 1, rfl, by omega, by simp; omega, fun c hcl => ?_⟩, by simp only; omega⟩
          simp only [List.length_append, List.length_singleton] at hcl ⊢
          by_cases hcc : c < l.length
          · rw [gd_append_left _ _ _ hcc]
            obtain ⟨a1, a2, a3⟩ := hc c hcc
            exact ⟨a1, a2, fun h0 => by rw [gd_append_left _ _ _ (by omega)]; exact a3 h0⟩
          · obtain rfl : c = l.length := by omega
            rw [gd_append_right _ _ _ (Nat.le_refl _), Nat.sub_self]
            have : gd [e] ((0 : Nat) : Int) = e := rfl
            rw [this]
            exact ⟨e0, e1, fun h0 => by rw [gd_append_left _ _ _ (by omega)]; exact e2 h0⟩
        by_cases c1 : 0 ≤ gd (gd x (i : Int)) (j : Int)
        · rw [if_pos c1]
          by_cases c2 : gd (gd x (i : Int)) (j : Int) < (i : Int)
          · rw [if_pos c2]
            by_cases c3 : l.length = 0
            · rw [if_pos (by omega), if_pos (by simp; omega)]
              exact put _ c1 c2 (fun h => by omega)
            · rw [if_neg (by omega), w64 (n := (l.length : Int) - 1) (by omega) (by omega), if_pos (by omega), show (l.length : Int) - 1 = ((l.length - 1 : Nat) : Int) by omega]
              by_cases c4 : gd l ((l.length - 1 : Nat) : Int) < gd (gd x (i : Int)) (j : Int)
              · rw [if_pos c4, if_pos (by simp; omega)]
                exact put _ c1 c2 (fun _ => c4)
              · rw [if_neg c4]; exact skip
          · rw [if_neg c2]; exact skip
        · rw [if_neg c1]; exact skip
      · rw [if_neg (by omega)]
        exact out_ (x := (l, (j : Int))) ⟨by omega, hc⟩) ([], 0) ⟨0, rfl, by omega, by simp, fun c hc => by simp at hc⟩
  exact ⟨y, hy, hQ⟩
theorem low3 (x : List (List Int)) (hx : x.length ≤ 40) (hr : ∀ l ∈ x, l.length ≤ 60) : ∃ low, loop (F3.b1 x) ([], 0) = some low ∧ low.length = x.length ∧ ∀ t : Nat, t < low.length → lowRow t (gd low (t : Int)) := by
  obtain ⟨y, hy, hQ⟩ := loop_ends (b := F3.b1 x) (fun s => ∃ i : Nat, s.2 = (i : Int) ∧ i ≤ x.length ∧ s.1.length = i ∧ ∀ t : Nat, t < i → lowRow t (gd s.1 (t : Int))) (fun s => ((x.length : Int) - s.2).toNat)
    (fun y => y.length = x.length ∧ ∀ t : Nat, t < y.length → lowRow t (gd y (t : Int))) (fun s hs => by
      obtain ⟨low, i⟩ := s
      obtain ⟨i, rfl, hi, hl, ha⟩ := hs
      simp only at hl ha
      simp only [F3.b1]
      by_cases h : i < x.length
      · rw [if_pos (by omega)]
        obtain ⟨l, e, hlow⟩ := row3 x i h hx (hr _ (gd_mem x i h))
        rw [e, Option.bind_some]
        simp only [F3.j3, F3.j2]
        rw [if_pos (by simp; omega), w64 (by omega) (by omega)]
        refine on_ (x := (low, (i : Int))) ⟨i + 1, rfl, by omega, by simp [hl], fun t ht => ?_⟩ (by simp only; omega)
        simp only
        by_cases et : t < i
        · rw [gd_append_left _ _ _ (by omega)]; exact ha t et
        · obtain rfl : t = i := by omega
          rw [gd_append_right _ _ _ (by omega), show t - low.length = 0 by omega]
          exact hlow
      · rw [if_neg (by omega)]
        obtain rfl : i = x.length := by omega
        exact out_ (x := (low, ((x.length : Nat) : Int))) ⟨hl, fun t ht => ha t (by omega)⟩) ([], 0) ⟨0, rfl, by omega, rfl, fun t ht => by omega⟩
  exact ⟨y, hy, hQ⟩
theorem free_b (x : List (List Int)) (hlow : ∀ t : Nat, t < x.length → lowRow t (gd x (t : Int))) (N : Nat) (h2 : ∀ k, k < N → (itr x k).1.length < x.length) (h3 : ∀ k, k ≤ N → Vd x.length (itr x k)) : ∀ k, k ≤ N → (itr x k).2 = [] := by
  intro k
  induction k with
  | zero => intro _; rfl
  | succ k ih =>
    intro hk
    have ih := ih (by omega)
    have hv := h3 k (by omega)
    have hl := h2 k (by omega)
    have e : itr x (k + 1) = nxt x (itr x k) := rfl
    rw [e]
    rcases nxt_cases x hv hl with ⟨j, hj, j1, j2, e2⟩ | ⟨j, hj, j1, j2, j3, e2⟩
    · rw [e2]; exact ih
    · exfalso
      have up : ∀ m : Nat, ∃ a : Nat, m ≤ a ∧ a < x.length ∧ (a : Int) ∉ (itr x k).1 := by
        intro m
        induction m with
        | zero => exact ⟨j, by omega, hj, j1⟩
        | succ m ih2 =>
          obtain ⟨a, a1, a2, a3⟩ := ih2
          have hc := j3 a a2 a3
          have hex : ∃ i, i < x.length ∧ lv x (itr x k).1 (itr x k).2 i a = true := by
            apply Classical.byContradiction
            intro hn
            refine hc ?_
            unfold cnt
            rw [List.countP_eq_zero]
            intro i hi h
            exact hn ⟨i, List.mem_range.1 hi, h⟩
          obtain ⟨i, hi, hlv⟩ := hex
          obtain ⟨m1, m2⟩ := lv_iff.1 hlv
          obtain ⟨c, c1, c2⟩ := mem_gd.1 m1
          have := (hlow i hi).2 c c1
          exact ⟨i, by omega, hi, fun h => m2 (.inl h)⟩
      obtain ⟨a, a1, a2, _⟩ := up x.length
      omega
theorem pure_OrderFree (a0 : List (List Int)) (w0 : ∀ x ∈ a0, ((∀ y ∈ x, InR .i64 y) ∧ (x).length ≤ maxLen)) (m0 : a0.length ≤ maxLen) :
    F3.m a0 = some true := by
  unfold F3.m
  obtain ⟨r, hr, hg⟩ := great11 a0 m0
  rw [hr, Option.bind_some]
  by_cases c : r = true
  · rw [if_pos c, awake12]; rfl
  rw [if_neg c]
  obtain ⟨g1, g2⟩ := hg (by simpa using c)
  obtain ⟨low, e, hl, hlow⟩ := low3 a0 g1 g2
  rw [e, Option.bind_some]
  simp only [F3.j1]
  have hx : low.length ≤ 40 := by omega
  have hrow : ∀ l ∈ low, l.length ≤ 60 := fun l hm => by
    obtain ⟨t, ht, rfl⟩ := mem_gd.1 hm
    exact (hlow t ht).1
  have hR : Rgt low := fun i hi k hk => by
    obtain ⟨b1, b2, b3⟩ := (hlow i hi).2 k hk
    exact ⟨b1, by omega, by omega, b3⟩
  obtain ⟨N, h1, h2, h3⟩ := itr_end low
  have hb := free_b low hlow N h2 h3 N (Nat.le_refl _)
  have hRR := itr_RR low hR N h1 h2 h3
  rw [hb] at hRR
  rw [of13 low hR hx hrow N h1 h2 h3, Option.bind_some, if_pos rfl, if_pos (by simp [hb]), if_pos (by simp only; omega)]
  rcases right14 low (itr low N).1 [] hx hrow (by omega) (by simp) with ⟨_, e1⟩ | ⟨hn, _⟩
  · rw [e1, Option.bind_some, if_pos rfl, awake12]; rfl
  · exact absurd hRR hn
end Go.Proofs.Ytgganckggdjpaaa
