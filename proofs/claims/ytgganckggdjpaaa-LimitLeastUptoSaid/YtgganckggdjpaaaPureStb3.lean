/- What Stb3 needs. -/
import Derived.Test.YtgganckggdjpaaaPureStb
set_option linter.unusedVariables false
set_option linter.unusedSimpArgs false
namespace Go.Proofs.Ytgganckggdjpaaa
open Go Go.Eng Go.Proofs
/-! ### Merging in place -/
theorem set_is' (L : List Lp) (j k : Nat) (v : Pk) (hv : v = gd (dat L) (k : Int)) (u : Pk) (hu : u = gd (dat L) (j : Int)) : List.set (List.set (dat L) (Int.toNat (j : Int)) (v.1, v.2)) (Int.toNat (k : Int)) (u.1, u.2) = dat (swp L j k) := by
  subst hv; subst hu; exact set_is L j k
/-- One ahead of many. -/
theorem sym_first {a b : Nat} (L : List Lp) (h1 : a + 1 < b) (h3 : b ≤ L.length) (hl : L.length ≤ 1000000) (hs : Srt lex (a + 1) b L) (hap : Apt a (a + 1) b L) :
    ∃ M, ((loop (F80_1.b5 (dat L) (a : Int)) (((a + 1 : Nat) : Int), (b : Int))).bind fun y => match y with | d115 => F80_1.j17 (dat L) (a : Int) (d115)) = some (dat M) ∧ Rng a b L M ∧ Srt lex a b M := by
  obtain ⟨y, hy, i, rfl, hi1, hi2, hlo, hhi⟩ := loop_ends (b := F80_1.b5 (dat L) (a : Int)) (fun s => ∃ i j : Nat, s.1 = (i : Int) ∧ s.2 = (j : Int) ∧ a + 1 ≤ i ∧ i ≤ j ∧ j ≤ b ∧ (∀ h : Nat, a + 1 ≤ h → h < i → ¬ lex (gd L (a : Int)) (gd L (h : Int))) ∧ (∀ h : Nat, j ≤ h → h < b → lex (gd L (a : Int)) (gd L (h : Int)))) (fun s => s.2.toNat - s.1.toNat)
    (fun y => ∃ i : Nat, y = (i : Int) ∧ a + 1 ≤ i ∧ i ≤ b ∧ (∀ h : Nat, a + 1 ≤ h → h < i → ¬ lex (gd L (a : Int)) (gd L (h : Int))) ∧ (∀ h : Nat, i ≤ h → h < b → lex (gd L (a : Int)) (gd L (h : Int)))) (fun s hS => by
    obtain ⟨ii, jj⟩ := s
    obtain ⟨i, j, hi, hj, hai, hij, hjb, hlo, hhi⟩ := hS
    simp only at hi hj
    subst hi; subst hj
    unfold F80_1.b5
    dsimp only
    by_cases hc : (i : Int) < (j : Int)
    · rw [if_pos hc]
      simp only [whf i j (by omega) (by omega)]
      rw [if_pos (by rw [dat_len]; omega), if_pos (by rw [dat_len]; omega), F48_is, Option.bind_some, dat_gd, dat_gd]
      have hlt := lex_of_lt (hap a ((i + j) / 2) (by omega) (by omega) (by omega) (by omega))
      by_cases h2 : (gd L (((i + j) / 2 : Nat) : Int)).1.1 < (gd L (a : Int)).1.1
      · rw [if_pos (F48_neg.2 h2)]
        unfold F80_1.j20
        rw [wp1 _ (by omega)]
        refine ⟨_, rfl, fun s' hs' => ?_, fun r hr => by cases hr⟩
        cases hs'
        refine ⟨⟨(i + j) / 2 + 1, j, rfl, rfl, by omega, by omega, hjb, fun h h4 h5 hx => ?_, hhi⟩, by simp only; omega⟩
        have := lex_trans hx (hs h ((i + j) / 2) h4 (by omega) (by omega))
        rw [hlt] at this
        omega
      · rw [if_neg (fun h => h2 (F48_neg.1 h))]
        unfold F80_1.j20
        refine ⟨_, rfl, fun s' hs' => ?_, fun r hr => by cases hr⟩
        cases hs'
        refine ⟨⟨i, (i + j) / 2, rfl, rfl, by omega, by omega, by omega, hlo, fun h h4 h5 => ?_⟩, by simp only; omega⟩
        exact lex_trans (hlt.2 (by omega)) (hs ((i + j) / 2) h (by omega) h4 h5)
    · rw [if_neg hc]
      have : i = j := by omega
      subst this
      refine ⟨_, rfl, fun s' hs' => (by cases hs'), fun r hr' => ?_⟩
      cases hr'
      exact ⟨i, rfl, hai, hjb, hlo, hhi⟩) (((a + 1 : Nat) : Int), (b : Int)) ⟨a + 1, b, rfl, rfl, Nat.le_refl _, by omega, Nat.le_refl _, fun h h4 h5 => by omega, fun h h4 h5 => by omega⟩
  rw [hy, Option.bind_some]
  dsimp only
  unfold F80_1.j17
  obtain ⟨y, hy, M, rfl, hr, hv⟩ := loop_ends (b := F80_1.b4 (i : Int)) (fun s => ∃ (k : Nat) (M : List Lp), s.1 = dat M ∧ s.2 = (k : Int) ∧ a ≤ k ∧ k ≤ i - 1 ∧ Rng a b L M ∧ ∀ p : Nat, gd M (p : Int) = if a ≤ p ∧ p < k then gd L ((p + 1 : Nat) : Int) else if p = k then gd L (a : Int) else gd L (p : Int)) (fun s => i - s.2.toNat)
    (fun y => ∃ M : List Lp, y = dat M ∧ Rng a b L M ∧ ∀ p : Nat, gd M (p : Int) = if a ≤ p ∧ p < i - 1 then gd L ((p + 1 : Nat) : Int) else if p = i - 1 then gd L (a : Int) else gd L (p : Int)) (fun s hS => by
    obtain ⟨d, kk⟩ := s
    obtain ⟨k, M, hd, hk, hak, hki, hr, hv⟩ := hS
    simp only at hk hd
    subst hk; subst hd
    have hlen := hr.len
    unfold F80_1.b4
    dsimp only
    rw [wm1 i (by omega) (by omega)]
    by_cases hc : (k : Int) < ((i - 1 : Nat) : Int)
    · rw [if_pos hc]
      simp only [wp1 k (by omega)]
      rw [if_pos (by rw [dat_len]; omega), if_pos (by rw [dat_len]; omega), if_pos (by simp [dat_len]; omega)]
      unfold F80_1.j19
      rw [wp1 k (by omega), set_is]
      refine ⟨_, rfl, fun s' hs' => ?_, fun r hr => by cases hr⟩
      cases hs'
      have hg := swp_get (xs := M) (i := k) (j := k + 1) (by omega) (by omega)
      refine ⟨⟨k + 1, _, rfl, rfl, by omega, by omega, hr.trans (Rng.swp (by omega) (by omega) (by omega)), fun p => ?_⟩, by simp only; omega⟩
      rw [hg p, hv k, hv (k + 1), hv p]
      by_cases p1 : p = k + 1
      · subst p1
        rw [if_pos rfl, if_neg (by omega), if_pos rfl, if_neg (by omega), if_pos rfl]
      · rw [if_neg p1]
        by_cases p2 : p = k
        · subst p2
          rw [if_pos rfl, if_neg (by omega), if_neg (by omega), if_pos (by omega)]
        · rw [if_neg p2]
          by_cases p3 : a ≤ p ∧ p < k
          · rw [if_pos p3, if_pos (by omega)]
          · rw [if_neg p3, if_neg p2, if_neg (by omega), if_neg p1]
    · rw [if_neg hc]
      have : k = i - 1 := by omega
      subst this
      refine ⟨_, rfl, fun s' hs' => (by cases hs'), fun r hr' => ?_⟩
      cases hr'
      exact ⟨M, rfl, hr, hv⟩) (dat L, (a : Int)) ⟨a, L, rfl, rfl, Nat.le_refl _, by omega, Rng.refl _ _ _, fun p => by
        rw [if_neg (by omega)]
        by_cases h : p = a
        · subst h; rw [if_pos rfl]
        · rw [if_neg h]⟩
  rw [hy, Option.bind_some]
  refine ⟨M, rfl, hr, fun p q hp hpq hq => ?_⟩
  rw [hv p, hv q]
  by_cases q1 : a ≤ q ∧ q < i - 1
  · rw [if_pos q1, if_pos (show a ≤ p ∧ p < i - 1 by omega)]
    exact hs (p + 1) (q + 1) (by omega) (by omega) (by omega)
  · rw [if_neg q1]
    by_cases q2 : q = i - 1
    · rw [if_pos q2]
      by_cases p1 : a ≤ p ∧ p < i - 1
      · rw [if_pos p1]
        exact (lex_total _ _).resolve_left (hlo (p + 1) (by omega) (by omega))
      · rw [if_neg p1, if_pos (by omega)]
        exact lex_refl _
    · rw [if_neg q2]
      by_cases p1 : a ≤ p ∧ p < i - 1
      · rw [if_pos p1]
        exact hs (p + 1) q (by omega) (by omega) (by omega)
      · rw [if_neg p1]
        by_cases p2 : p = i - 1
        · rw [if_pos p2]
          exact hhi q (by omega) hq
        · rw [if_neg p2]
          exact hs p q (by omega) (by omega) hq
/-- Many ahead of one. -/
theorem sym_last {a m : Nat} (L : List Lp) (h1 : a < m) (h3 : m + 1 ≤ L.length) (hl : L.length ≤ 1000000) (hs : Srt lex a m L) (hap : Apt a m (m + 1) L) :
    ∃ M, ((loop (F80_1.b3 (dat L) (m : Int)) ((a : Int), (m : Int))).bind fun y => match y with | d81 => F80_1.j13 (dat L) (m : Int) (d81)) = some (dat M) ∧ Rng a (m + 1) L M ∧ Srt lex a (m + 1) M := by
  obtain ⟨y, hy, i, rfl, hi1, hi2, hlo, hhi⟩ := loop_ends (b := F80_1.b3 (dat L) (m : Int)) (fun s => ∃ i j : Nat, s.1 = (i : Int) ∧ s.2 = (j : Int) ∧ a ≤ i ∧ i ≤ j ∧ j ≤ m ∧ (∀ h : Nat, a ≤ h → h < i → lex (gd L (h : Int)) (gd L (m : Int))) ∧ (∀ h : Nat, j ≤ h → h < m → ¬ lex (gd L (h : Int)) (gd L (m : Int)))) (fun s => s.2.toNat - s.1.toNat)
    (fun y => ∃ i : Nat, y = (i : Int) ∧ a ≤ i ∧ i ≤ m ∧ (∀ h : Nat, a ≤ h → h < i → lex (gd L (h : Int)) (gd L (m : Int))) ∧ (∀ h : Nat, i ≤ h → h < m → ¬ lex (gd L (h : Int)) (gd L (m : Int)))) (fun s hS => by
    obtain ⟨ii, jj⟩ := s
    obtain ⟨i, j, hi, hj, hai, hij, hjb, hlo, hhi⟩ := hS
    simp only at hi hj
    subst hi; subst hj
    unfold F80_1.b3
    dsimp only
    by_cases hc : (i : Int) < (j : Int)
    · rw [if_pos hc]
      simp only [whf i j (by omega) (by omega)]
      rw [if_pos (by rw [dat_len]; omega), if_pos (by rw [dat_len]; omega), F48_is, Option.bind_some, dat_gd, dat_gd]
      have hlt := lex_of_lt (hap ((i + j) / 2) m (by omega) (by omega) (by omega) (by omega))
      by_cases h2 : (gd L (m : Int)).1.1 < (gd L (((i + j) / 2 : Nat) : Int)).1.1
      · rw [if_pos (F48_neg.2 h2)]
        unfold F80_1.j16
        refine ⟨_, rfl, fun s' hs' => ?_, fun r hr => by cases hr⟩
        cases hs'
        refine ⟨⟨i, (i + j) / 2, rfl, rfl, by omega, by omega, by omega, hlo, fun h h4 h5 hx => ?_⟩, by simp only; omega⟩
        have := lex_trans (hs ((i + j) / 2) h (by omega) h4 h5) hx
        rw [hlt] at this
        omega
      · rw [if_neg (fun h => h2 (F48_neg.1 h))]
        unfold F80_1.j16
        rw [wp1 _ (by omega)]
        refine ⟨_, rfl, fun s' hs' => ?_, fun r hr => by cases hr⟩
        cases hs'
        refine ⟨⟨(i + j) / 2 + 1, j, rfl, rfl, by omega, by omega, hjb, fun h h4 h5 => ?_, hhi⟩, by simp only; omega⟩
        exact lex_trans (hs h ((i + j) / 2) h4 (by omega) (by omega)) (hlt.2 (by omega))
    · rw [if_neg hc]
      have : i = j := by omega
      subst this
      refine ⟨_, rfl, fun s' hs' => (by cases hs'), fun r hr' => ?_⟩
      cases hr'
      exact ⟨i, rfl, hai, hjb, hlo, hhi⟩) ((a : Int), (m : Int)) ⟨a, m, rfl, rfl, Nat.le_refl _, by omega, Nat.le_refl _, fun h h4 h5 => by omega, fun h h4 h5 => by omega⟩
  rw [hy, Option.bind_some]
  dsimp only
  unfold F80_1.j13
  obtain ⟨y, hy, M, rfl, hr, hv⟩ := loop_ends (b := F80_1.b2 (i : Int)) (fun s => ∃ (k : Nat) (M : List Lp), s.1 = dat M ∧ s.2 = (k : Int) ∧ i ≤ k ∧ k ≤ m ∧ Rng a (m + 1) L M ∧ ∀ p : Nat, gd M (p : Int) = if k < p ∧ p ≤ m then gd L ((p - 1 : Nat) : Int) else if p = k then gd L (m : Int) else gd L (p : Int)) (fun s => s.2.toNat)
    (fun y => ∃ M : List Lp, y = dat M ∧ Rng a (m + 1) L M ∧ ∀ p : Nat, gd M (p : Int) = if i < p ∧ p ≤ m then gd L ((p - 1 : Nat) : Int) else if p = i then gd L (m : Int) else gd L (p : Int)) (fun s hS => by
    obtain ⟨d, kk⟩ := s
    obtain ⟨k, M, hd, hk, hak, hki, hr, hv⟩ := hS
    simp only at hk hd
    subst hk; subst hd
    have hlen := hr.len
    unfold F80_1.b2
    dsimp only
    by_cases hc : (i : Int) < (k : Int)
    · rw [if_pos hc]
      simp only [wm1 k (by omega) (by omega)]
      rw [if_pos (by rw [dat_len]; omega), if_pos (by rw [dat_len]; omega), if_pos (by simp [dat_len]; omega)]
      unfold F80_1.j15
      rw [wm1 k (by omega) (by omega), set_is]
      refine ⟨_, rfl, fun s' hs' => ?_, fun r hr => by cases hr⟩
      cases hs'
      have hg := swp_get (xs := M) (i := k) (j := k - 1) (by omega) (by omega)
      refine ⟨⟨k - 1, _, rfl, rfl, by omega, by omega, hr.trans (Rng.swp (by omega) (by omega) (by omega)), fun p => ?_⟩, by simp only; omega⟩
      rw [hg p, hv k, hv (k - 1), hv p]
      by_cases p1 : p = k - 1
      · subst p1
        rw [if_pos rfl, if_neg (by omega), if_pos rfl, if_neg (by omega), if_pos rfl]
      · rw [if_neg p1]
        by_cases p2 : p = k
        · subst p2
          rw [if_pos rfl, if_neg (by omega), if_neg (by omega), if_pos (by omega)]
        · rw [if_neg p2]
          by_cases p3 : k < p ∧ p ≤ m
          · rw [if_pos p3, if_pos (by omega)]
          · rw [if_neg p3, if_neg p2, if_neg (by omega), if_neg p1]
    · rw [if_neg hc]
      have : k = i := by omega
      subst this
      refine ⟨_, rfl, fun s' hs' => (by cases hs'), fun r hr' => ?_⟩
      cases hr'
      exact ⟨M, rfl, hr, hv⟩) (dat L, (m : Int)) ⟨m, L, rfl, rfl, by omega, Nat.le_refl _, Rng.refl _ _ _, fun p => by
        rw [if_neg (by omega)]
        by_cases h : p = m
        · subst h; rw [if_pos rfl]
        · rw [if_neg h]⟩
  rw [hy, Option.bind_some]
  refine ⟨M, rfl, hr, fun p q hp hpq hq => ?_⟩
  rw [hv p, hv q]
  by_cases q1 : i < q ∧ q ≤ m
  · rw [if_pos q1]
    by_cases p1 : i < p ∧ p ≤ m
    · rw [if_pos p1]
      exact hs (p - 1) (q - 1) (by omega) (by omega) (by omega)
    · rw [if_neg p1]
      by_cases p2 : p = i
      · rw [if_pos p2]
        exact (lex_total _ _).resolve_left (hhi (q - 1) (by omega) (by omega))
      · rw [if_neg p2]
        exact hs p (q - 1) hp (by omega) (by omega)
  · rw [if_neg q1]
    by_cases q2 : q = i
    · rw [if_pos q2, if_neg (show ¬ (i < p ∧ p ≤ m) by omega)]
      by_cases p2 : p = i
      · rw [if_pos p2]; exact lex_refl _
      · rw [if_neg p2]; exact hlo p hp (by omega)
    · rw [if_neg q2, if_neg (show ¬ (i < p ∧ p ≤ m) by omega), if_neg (show ¬ p = i by omega)]
      exact hs p q hp hpq (by omega)
end Go.Proofs.Ytgganckggdjpaaa
