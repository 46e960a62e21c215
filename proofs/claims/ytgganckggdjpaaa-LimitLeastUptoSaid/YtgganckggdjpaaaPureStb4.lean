/- What Stb4 needs. -/
import Derived.Test.YtgganckggdjpaaaPureStb3
set_option linter.unusedVariables false
set_option linter.unusedSimpArgs false
namespace Go.Proofs.Ytgganckggdjpaaa
open Go Go.Eng Go.Proofs
/-! ### Merging in place: both many -/
theorem sym_search {a m b mid n s0 r0 : Nat} (L : List Lp) (h1 : a < m) (h2 : m < b) (h3 : b ≤ L.length) (hl : L.length ≤ 1000000) (hs1 : Srt lex a m L) (hs2 : Srt lex m b L) (hap : Apt a m b L)
    (hmid : mid = (a + b) / 2) (hn : n = mid + m) (h0 : s0 ≤ r0) (ha0 : a ≤ s0) (hr0 : r0 ≤ m) (hlow : n ≤ s0 + b) (hup : r0 ≤ mid) :
    ∃ s : Nat, loop (F80_1.b1 (dat L) (a : Int) (m : Int) (b : Int)) ((s0 : Int), (r0 : Int)) = some (s : Int) ∧ s0 ≤ s ∧ s ≤ r0 ∧
      (∀ c : Nat, s0 ≤ c → c < s → lex (gd L (c : Int)) (gd L ((n - 1 - c : Nat) : Int))) ∧ (∀ c : Nat, s ≤ c → c < r0 → lex (gd L ((n - 1 - c : Nat) : Int)) (gd L (c : Int))) := by
  obtain ⟨y, hy, s, rfl, hs⟩ := loop_ends (b := F80_1.b1 (dat L) (a : Int) (m : Int) (b : Int)) (fun x => ∃ s r : Nat, x.1 = (s : Int) ∧ x.2 = (r : Int) ∧ s0 ≤ s ∧ s ≤ r ∧ r ≤ r0 ∧
      (∀ c : Nat, s0 ≤ c → c < s → lex (gd L (c : Int)) (gd L ((n - 1 - c : Nat) : Int))) ∧ (∀ c : Nat, r ≤ c → c < r0 → lex (gd L ((n - 1 - c : Nat) : Int)) (gd L (c : Int)))) (fun x => x.2.toNat - x.1.toNat)
    (fun y => ∃ s : Nat, y = (s : Int) ∧ s0 ≤ s ∧ s ≤ r0 ∧ (∀ c : Nat, s0 ≤ c → c < s → lex (gd L (c : Int)) (gd L ((n - 1 - c : Nat) : Int))) ∧ (∀ c : Nat, s ≤ c → c < r0 → lex (gd L ((n - 1 - c : Nat) : Int)) (gd L (c : Int)))) (fun x hS => by
    obtain ⟨ss, rr⟩ := x
    obtain ⟨s, r, hs, hr, hss, hsr, hrr, hlo, hhi⟩ := hS
    simp only at hs hr
    subst hs; subst hr
    unfold F80_1.b1
    dsimp only
    by_cases hc : (s : Int) < (r : Int)
    · rw [if_pos hc]
      have e1 : IntKind.wrap .i64 (IntKind.wrap .i64 ((mid : Int) + (m : Int)) - 1) = ((n - 1 : Nat) : Int) := by rw [wad mid m (by omega) (by omega), wm1 _ (by omega) (by omega), hn]
      have hcc : (s + r) / 2 < r0 := by omega
      have hcs : s0 ≤ (s + r) / 2 := by omega
      generalize hce : (s + r) / 2 = c at hcc hcs
      simp only [whf s r (by omega) (by omega), whf a b (by omega) (by omega), ← hmid, e1, hce]
      simp only [wsb (n - 1) c (by omega) (by omega)]
      rw [if_pos (by rw [dat_len]; omega), if_pos (by rw [dat_len]; omega), F48_is, Option.bind_some, dat_gd, dat_gd]
      have hlt := lex_of_lt (hap c (n - 1 - c) (by omega) (by omega) (by omega) (by omega))
      by_cases h2 : (gd L ((n - 1 - c : Nat) : Int)).1.1 < (gd L (c : Int)).1.1
      · rw [if_pos (F48_neg.2 h2)]
        unfold F80_1.j12
        refine ⟨_, rfl, fun s' hs' => ?_, fun r hr => by cases hr⟩
        cases hs'
        refine ⟨⟨s, c, rfl, rfl, by omega, by omega, by omega, hlo, fun h h4 h5 => ?_⟩, by simp only; omega⟩
        exact lex_trans (hs2 (n - 1 - h) (n - 1 - c) (by omega) (by omega) (by omega)) (lex_trans (.inl h2) (hs1 c h (by omega) h4 (by omega)))
      · rw [if_neg (fun h => h2 (F48_neg.1 h))]
        unfold F80_1.j12
        rw [wp1 _ (by omega)]
        refine ⟨_, rfl, fun s' hs' => ?_, fun r hr => by cases hr⟩
        cases hs'
        refine ⟨⟨c + 1, r, rfl, rfl, by omega, by omega, by omega, fun h h4 h5 => ?_, hhi⟩, by simp only; omega⟩
        exact lex_trans (hs1 h c (by omega) (by omega) (by omega)) (lex_trans (hlt.2 (by omega)) (hs2 (n - 1 - c) (n - 1 - h) (by omega) (by omega) (by omega)))
    · rw [if_neg hc]
      have : s = r := by omega
      subst this
      refine ⟨_, rfl, fun s' hs' => (by cases hs'), fun r hr' => ?_⟩
      cases hr'
      exact ⟨s, rfl, hss, hrr, hlo, hhi⟩) ((s0 : Int), (r0 : Int)) ⟨s0, r0, rfl, rfl, Nat.le_refl _, h0, Nat.le_refl _, fun c h4 h5 => by omega, fun c h4 h5 => by omega⟩
  exact ⟨s, hy, hs⟩
/-- What follows the search, told by what it does. -/
def rightF (rec : List Pk → Int → Int → Int → Option (List Pk)) (mid e b : Nat) (D : List Pk) : Option (List Pk) := if mid < e ∧ e < b then rec D (mid : Int) (e : Int) (b : Int) else some D
def leftF (rec : List Pk → Int → Int → Int → Option (List Pk)) (a s mid e b : Nat) (D : List Pk) : Option (List Pk) := if a < s ∧ s < mid then (rec D (a : Int) (s : Int) (mid : Int)).bind (rightF rec mid e b) else rightF rec mid e b D
theorem bind_id {α : Type} (o : Option α) : (o.bind fun y => some y) = o := by cases o <;> rfl
section
variable {rec : List Pk → Int → Int → Int → Option (List Pk)} {a m b mid s e : Nat}
theorem j6_is (hb : b ≤ 1000000) (hm : m ≤ 1000000) (ha : a ≤ b) (hmid : mid = (a + b) / 2) (hs : s ≤ m) (he : e = mid + m - s) (D : List Pk) : F80_1.j6 (a : Int) (m : Int) (b : Int) rec (s : Int) D = rightF rec mid e b D := by
  unfold F80_1.j6 rightF F80_1.j7
  simp only [whf a b (by omega) (by omega), ← hmid, wad mid m (by omega) (by omega), wsb (mid + m) s (by omega) (by omega), ← he, bind_id]
  by_cases h1 : mid < e
  · by_cases h2 : e < b
    · rw [if_pos (show (mid : Int) < (e : Int) by omega), if_pos (show (e : Int) < (b : Int) by omega), if_pos ⟨h1, h2⟩]
    · rw [if_pos (show (mid : Int) < (e : Int) by omega), if_neg (show ¬ (e : Int) < (b : Int) by omega), if_neg (show ¬ (mid < e ∧ e < b) by omega)]
  · rw [if_neg (show ¬ (mid : Int) < (e : Int) by omega), if_neg (show ¬ (mid < e ∧ e < b) by omega)]
theorem j5_is (hb : b ≤ 1000000) (hm : m ≤ 1000000) (ha : a ≤ b) (hmid : mid = (a + b) / 2) (hs : s ≤ m) (he : e = mid + m - s) (D : List Pk) : F80_1.j5 (a : Int) (m : Int) (b : Int) rec (s : Int) D = leftF rec a s mid e b D := by
  unfold F80_1.j5 leftF F80_1.j8
  have hj : (fun y => F80_1.j6 (a : Int) (m : Int) (b : Int) rec (s : Int) y) = rightF rec mid e b := funext (j6_is hb hm ha hmid hs he)
  simp only [j6_is hb hm ha hmid hs he]
  simp only [whf a b (by omega) (by omega), ← hmid, wad mid m (by omega) (by omega), wsb (mid + m) s (by omega) (by omega), ← he, bind_id]
  by_cases h1 : a < s
  · rw [if_pos (show (a : Int) < (s : Int) by omega)]
    by_cases h2 : s < mid
    · rw [if_pos (show (s : Int) < (mid : Int) by omega), if_pos ⟨h1, h2⟩]
    · rw [if_neg (show ¬ (s : Int) < (mid : Int) by omega), if_neg (show ¬ (a < s ∧ s < mid) by omega)]
  · rw [if_neg (show ¬ (a : Int) < (s : Int) by omega), if_neg (show ¬ (a < s ∧ s < mid) by omega)]
    unfold rightF
    by_cases h1 : mid < e
    · by_cases h2 : e < b
      · rw [if_pos (show (mid : Int) < (e : Int) by omega), if_pos (show (e : Int) < (b : Int) by omega), if_pos ⟨h1, h2⟩]
      · rw [if_pos (show (mid : Int) < (e : Int) by omega), if_neg (show ¬ (e : Int) < (b : Int) by omega), if_neg (show ¬ (mid < e ∧ e < b) by omega)]
    · rw [if_neg (show ¬ (mid : Int) < (e : Int) by omega), if_neg (show ¬ (mid < e ∧ e < b) by omega)]
theorem j4_is (hb : b ≤ 1000000) (hm : m ≤ 1000000) (ha : a ≤ b) (hmid : mid = (a + b) / 2) (hs : s ≤ m) (he : e = mid + m - s) (D : List Pk) : F80_1.j4 D (a : Int) (m : Int) (b : Int) rec (s : Int) = if s < m ∧ m < e then (F93_1.m D (s : Int) (m : Int) (e : Int)).bind (leftF rec a s mid e b) else leftF rec a s mid e b D := by
  unfold F80_1.j4
  simp only [j5_is hb hm ha hmid hs he]
  by_cases h1 : s < m
  · rw [if_pos (show (s : Int) < (m : Int) by omega)]
    simp only [whf a b (by omega) (by omega), ← hmid, wad mid m (by omega) (by omega), wsb (mid + m) s (by omega) (by omega), ← he, bind_id]
    by_cases h2 : m < e
    · rw [if_pos (show (m : Int) < (e : Int) by omega), if_pos ⟨h1, h2⟩]
    · rw [if_neg (show ¬ (m : Int) < (e : Int) by omega), if_neg (show ¬ (s < m ∧ m < e) by omega)]
  · rw [if_neg (show ¬ (s : Int) < (m : Int) by omega), if_neg (show ¬ (s < m ∧ m < e) by omega)]
    have hj : ∀ D, F80_1.j9 (a : Int) (m : Int) (b : Int) rec (s : Int) D = rightF rec mid e b D := fun D => j6_is hb hm ha hmid hs he D
    simp only [hj]
    have := j5_is hb hm ha hmid hs he (rec := rec) D
    rw [← this]
    unfold F80_1.j5
    simp only [j6_is hb hm ha hmid hs he]
    rfl
end
/-- Runs told by where they came from. -/
theorem sym_all : ∀ (k : Nat) {a m b : Nat} (L : List Lp), b - a ≤ k → a < m → m < b → b ≤ L.length → L.length ≤ 1000000 → Srt lex a m L → Srt lex m b L → Apt a m b L →
    ∃ M, (∀ K, k ≤ K → F80_1.mF K (dat L) (a : Int) (m : Int) (b : Int) = some (dat M)) ∧ Rng a b L M ∧ Srt lex a b M := by
  intro k
  induction k with
  | zero => intro a m b L h0 h1 h2; omega
  | succ k ih =>
    intro a m b L h0 h1 h2 h3 hl hs1 hs2 hap
    suffices H : ∃ M, (∀ K, k ≤ K → F80_1.g (F80_1.mF K) (dat L) (a : Int) (m : Int) (b : Int) = some (dat M)) ∧ Rng a b L M ∧ Srt lex a b M by
      obtain ⟨M, h4, h5⟩ := H
      exact ⟨M, fun K hK => by
        obtain ⟨K', rfl⟩ : ∃ K', K = K' + 1 := ⟨K - 1, by omega⟩
        exact h4 K' (by omega), h5⟩
    unfold F80_1.g
    simp only [wsb m a (by omega) (by omega)]
    by_cases c1 : m = a + 1
    · subst c1
      simp only [if_pos (show ((a + 1 - a : Nat) : Int) = 1 by omega)]
      obtain ⟨M, h4, h5⟩ := sym_first L h2 h3 hl hs2 hap
      exact ⟨M, fun _ _ => h4, h5⟩
    simp only [if_neg (show ¬ ((m - a : Nat) : Int) = 1 by omega)]
    unfold F80_1.j1
    simp only [wsb b m (by omega) (by omega)]
    by_cases c2 : b = m + 1
    · subst c2
      simp only [if_pos (show ((m + 1 - m : Nat) : Int) = 1 by omega)]
      obtain ⟨M, h4, h5⟩ := sym_last L h1 h3 hl hs1 hap
      exact ⟨M, fun _ _ => h4, h5⟩
    simp only [if_neg (show ¬ ((b - m : Nat) : Int) = 1 by omega)]
    obtain ⟨mid, hmid⟩ : ∃ mid, mid = (a + b) / 2 := ⟨_, rfl⟩
    obtain ⟨n, hn⟩ : ∃ n, n = mid + m := ⟨_, rfl⟩
    -- the search
    have hsearch : ∃ s : Nat, (∀ rec, F80_1.j2 (dat L) (a : Int) (m : Int) (b : Int) rec = F80_1.j4 (dat L) (a : Int) (m : Int) (b : Int) rec (s : Int)) ∧ a ≤ s ∧ s ≤ m ∧ s ≤ mid ∧ n ≤ s + b ∧
        (∀ c : Nat, a ≤ c → c < s → n ≤ c + b → lex (gd L (c : Int)) (gd L ((n - 1 - c : Nat) : Int))) ∧ (∀ c : Nat, s ≤ c → c < m → c < mid → lex (gd L ((n - 1 - c : Nat) : Int)) (gd L (c : Int))) := by
      unfold F80_1.j2
      simp only [whf a b (by omega) (by omega), ← hmid, wad mid m (by omega) (by omega)]
      by_cases c3 : mid < m
      · simp only [if_pos (show (mid : Int) < (m : Int) by omega), ← hn, wsb n b (by omega) (by omega)]
        obtain ⟨s, h4, h5, h6, h7, h8⟩ := sym_search (s0 := n - b) (r0 := mid) L h1 h2 h3 hl hs1 hs2 hap hmid hn (by omega) (by omega) (by omega) (by omega) (by omega)
        unfold F80_1.j3
        simp only [h4]
        exact ⟨s, fun _ => rfl, by omega, by omega, by omega, by omega, fun c h9 h10 h11 => h7 c (by omega) h10, fun c h9 h10 h11 => h8 c h9 (by omega)⟩
      · simp only [if_neg (show ¬ (mid : Int) < (m : Int) by omega)]
        obtain ⟨s, h4, h5, h6, h7, h8⟩ := sym_search (s0 := a) (r0 := m) L h1 h2 h3 hl hs1 hs2 hap hmid hn (by omega) (by omega) (by omega) (by omega) (by omega)
        unfold F80_1.j3
        simp only [h4]
        exact ⟨s, fun _ => rfl, by omega, by omega, by omega, by omega, fun c h9 h10 h11 => h7 c (by omega) h10, fun c h9 h10 h11 => h8 c h9 (by omega)⟩
    obtain ⟨s, hj, has, hsm, hsd, hsb, hlo, hhi⟩ := hsearch
    obtain ⟨e, he⟩ : ∃ e, e = mid + m - s := ⟨_, rfl⟩
    simp only [hj]
    simp only [j4_is (b := b) (m := m) (a := a) (by omega) (by omega) (by omega) hmid hsm he]
    have he1 : m ≤ e := by omega
    have he2 : e ≤ b := by omega
    -- the rotation
    have hrot : ∃ M, (∀ rec, (if s < m ∧ m < e then (F93_1.m (dat L) (s : Int) (m : Int) (e : Int)).bind (leftF rec a s mid e b) else leftF rec a s mid e b (dat L)) = leftF rec a s mid e b (dat M)) ∧ Rng a b L M ∧ ∀ k : Nat, gd M (k : Int) = rot (fun k => gd L (k : Int)) s m e k := by
      by_cases c4 : s < m ∧ m < e
      · simp only [if_pos c4]
        obtain ⟨M, h4, h5, h6⟩ := F93_is L c4.1 c4.2 (by omega) hl
        simp only [h4]
        exact ⟨M, fun _ => rfl, h5.wide has he2, h6⟩
      · simp only [if_neg c4]
        refine ⟨L, fun _ => rfl, Rng.refl _ _ _, fun k => ?_⟩
        unfold rot
        by_cases k1 : s ≤ k ∧ k < s + (e - m)
        · rw [if_pos k1]
          congr 2; omega
        · rw [if_neg k1]
          by_cases k2 : s + (e - m) ≤ k ∧ k < e
          · rw [if_pos k2]
            congr 2; omega
          · rw [if_neg k2]
    obtain ⟨M, hM, hr, hv⟩ := hrot
    simp only [hM]
    have hlen := hr.len
    have hem : s + (e - m) = mid := by omega
    have v1 : ∀ i : Nat, i < s → gd M (i : Int) = gd L (i : Int) := fun i h => by rw [hv i]; unfold rot; rw [if_neg (by omega), if_neg (by omega)]
    have v2 : ∀ i : Nat, s ≤ i → i < mid → gd M (i : Int) = gd L ((i + (m - s) : Nat) : Int) := fun i h h' => by rw [hv i]; unfold rot; rw [if_pos (by omega)]
    have v3 : ∀ i : Nat, mid ≤ i → i < e → gd M (i : Int) = gd L ((i - (e - m) : Nat) : Int) := fun i h h' => by rw [hv i]; unfold rot; rw [if_neg (by omega), if_pos (by omega)]
    have v4 : ∀ i : Nat, e ≤ i → gd M (i : Int) = gd L (i : Int) := fun i h => by rw [hv i]; unfold rot; rw [if_neg (by omega), if_neg (by omega)]
    have t1 : Srt lex a s M := fun p q h4 h5 h6 => by rw [v1 p (by omega), v1 q (by omega)]; exact hs1 p q h4 h5 (by omega)
    have t2 : Srt lex s mid M := fun p q h4 h5 h6 => by rw [v2 p h4 (by omega), v2 q (by omega) h6]; exact hs2 _ _ (by omega) (by omega) (by omega)
    have t3 : Srt lex mid e M := fun p q h4 h5 h6 => by rw [v3 p h4 (by omega), v3 q (by omega) h6]; exact hs1 _ _ (by omega) (by omega) (by omega)
    have t4 : Srt lex e b M := fun p q h4 h5 h6 => by rw [v4 p h4, v4 q (by omega)]; exact hs2 _ _ (by omega) (by omega) (by omega)
    have p1 : Apt a s mid M := fun i j h4 h5 h6 h7 => by rw [v1 i h5, v2 j h6 h7]; exact hap _ _ (by omega) (by omega) (by omega) (by omega)
    have p2 : Apt mid e b M := fun i j h4 h5 h6 h7 => by rw [v3 i h4 h5, v4 j h6]; exact hap _ _ (by omega) (by omega) (by omega) (by omega)
    have cross : ∀ i j : Nat, a ≤ i → i < mid → mid ≤ j → j < b → lex (gd M (i : Int)) (gd M (j : Int)) := fun i j h4 h5 h6 h7 => by
      by_cases ci : i < s
      · rw [v1 i ci]
        by_cases cj : j < e
        · rw [v3 j h6 cj]
          exact hs1 _ _ h4 (by omega) (by omega)
        · rw [v4 j (by omega)]
          have := hlo (s - 1) (by omega) (by omega) (by omega)
          exact lex_trans (hs1 i (s - 1) h4 (by omega) (by omega)) (lex_trans this (hs2 _ j (by omega) (by omega) h7))
      · rw [v2 i (by omega) h5]
        by_cases cj : j < e
        · rw [v3 j h6 cj]
          have := hhi s (Nat.le_refl _) (by omega) (by omega)
          exact lex_trans (hs2 _ (n - 1 - s) (by omega) (by omega) (by omega)) (lex_trans this (hs1 s _ (by omega) (by omega) (by omega)))
        · rw [v4 j (by omega)]
          exact hs2 _ _ (by omega) (by omega) h7
    -- the left part
    have hleft : ∃ M', (∀ K, k ≤ K → leftF (F80_1.mF K) a s mid e b (dat M) = rightF (F80_1.mF K) mid e b (dat M')) ∧ Rng a mid M M' ∧ Srt lex a mid M' := by
      unfold leftF
      by_cases c5 : a < s ∧ s < mid
      · simp only [if_pos c5]
        obtain ⟨M', h4, h5, h6⟩ := ih M (by omega) c5.1 c5.2 (by omega) (by omega) t1 t2 p1
        exact ⟨M', fun K hK => by rw [h4 K hK]; rfl, h5, h6⟩
      · simp only [if_neg c5]
        refine ⟨M, fun _ _ => rfl, Rng.refl _ _ _, ?_⟩
        by_cases c6 : s = a
        · subst c6; exact t2
        · have : s = mid := by omega
          rw [← this]; exact t1
    obtain ⟨M1, h4, hr1, hq1⟩ := hleft
    have hlen1 := hr1.len
    have hright : ∃ M', (∀ K, k ≤ K → rightF (F80_1.mF K) mid e b (dat M1) = some (dat M')) ∧ Rng mid b M1 M' ∧ Srt lex mid b M' := by
      unfold rightF
      have t3' := t3.out hr1 (.inr (Nat.le_refl _))
      have t4' := t4.out hr1 (.inr (by omega))
      by_cases c5 : mid < e ∧ e < b
      · simp only [if_pos c5]
        obtain ⟨M', h4, h5, h6⟩ := ih M1 (by omega) c5.1 c5.2 (by omega) (by omega) t3' t4' (p2.out hr1 (.inr (Nat.le_refl _)))
        exact ⟨M', h4, h5, h6⟩
      · simp only [if_neg c5]
        refine ⟨M1, fun _ _ => rfl, Rng.refl _ _ _, ?_⟩
        by_cases c6 : e = mid
        · rw [← c6]; exact t4'
        · have : e = b := by omega
          rw [← this]; exact t3'
    obtain ⟨M2, h5, hr2, hq2⟩ := hright
    refine ⟨M2, fun K hK => by rw [h4 K hK, h5 K hK], (hr.trans (hr1.wide (Nat.le_refl _) (by omega))).trans (hr2.wide (by omega) (Nat.le_refl _)), (hq1.out hr2 (.inl (Nat.le_refl _))).join hq2 fun i j h6 h7 h8 h9 => ?_⟩
    obtain ⟨j', h10, h11, h12⟩ := hr2.inn j h8 h9
    rw [h12, hr2.out i (by omega), hr1.out j' (by omega)]
    obtain ⟨i', h13, h14, h15⟩ := hr1.inn i h6 h7
    rw [h15]
    exact cross i' j' h13 h14 h10 h11
theorem F80_is {a m b : Nat} (L : List Lp) (h1 : a < m) (h2 : m < b) (h3 : b ≤ L.length) (hl : L.length ≤ 1000000) (hs1 : Srt lex a m L) (hs2 : Srt lex m b L) (hap : Apt a m b L) :
    ∃ M, F80_1.m (dat L) (a : Int) (m : Int) (b : Int) = some (dat M) ∧ Rng a b L M ∧ Srt lex a b M := by
  obtain ⟨M, h4, h5⟩ := sym_all (b - a) L (Nat.le_refl _) h1 h2 h3 hl hs1 hs2 hap
  exact ⟨M, evt_is (b - a) h4, h5⟩
end Go.Proofs.Ytgganckggdjpaaa
