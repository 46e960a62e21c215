/- What MatK needs. -/
import Derived.Test.YtedokgdilpfomaaPureSufB
import Derived.Test.YtedokgdilpfomaaPureMatC
import Derived.Test.YtedokgdilpfomaaMatx2
set_option linter.unusedVariables false
set_option linter.unusedSimpArgs false
namespace Go.Proofs.Ytedokgdilpfomaa
open Go Go.Eng Go.Proofs
theorem subL_len {α : Type} (l : List α) (a b : Nat) (h : a ≤ b ∧ b ≤ l.length) : (subL l (a : Int) (b : Int)).length = b - a := by
  unfold subL
  simp
  omega
theorem subL_at {α : Type} [Inhabited α] (l : List α) (a b k : Nat) (hk : k < b - a) : gd (subL l (a : Int) (b : Int)) (k : Int) = gd l ((a + k : Nat) : Int) := by
  unfold subL
  rw [gd_take _ _ _ (by rw [Int.toNat_natCast, Int.toNat_natCast]; exact hk), gd_drop, Int.toNat_natCast]
/-! ### Where as much stands as anywhere -/
def su (b : List Int) (p : Nat) : Nat → Nat := fun i => ch b (p + i)
theorem chl_sub (b : List Int) (p : Nat) (h : p ≤ b.length) : chl (subL b (p : Int) (b.length : Int)) = su b p := by
  funext i
  have hl := subL_len b p b.length (by omega)
  unfold chl su ch
  rw [hl]
  by_cases c : i < b.length - p
  · rw [if_pos c, if_pos (by omega), subL_at _ _ _ _ c]
  · rw [if_neg c, if_neg (by omega)]
theorem lt_ltp {b : List Int} {p q : Nat} (h : LT (su b p) (su b q)) : ∃ H, ltp b H p q := by
  obtain ⟨k, h1, h2⟩ := h
  exact ⟨k + 1, k, by omega, h1, h2⟩
theorem diff_or (u v : Nat → Nat) : ∀ n, (∀ i, i < n → u i = v i) ∨ ∃ k, k < n ∧ (∀ i, i < k → u i = v i) ∧ u k ≠ v k
  | 0 => .inl (fun i hi => by omega)
  | n + 1 => by
    rcases diff_or u v n with h | ⟨k, h1, h2⟩
    · by_cases e : u n = v n
      · refine .inl (fun i hi => ?_)
        by_cases c : i = n
        · rw [c]; exact e
        · exact h i (by omega)
      · exact .inr ⟨n, by omega, h, e⟩
    · exact .inr ⟨k, by omega, h2⟩
theorem lt_trans' {u v w : Nat → Nat} (h1 : ¬ LT v u) (h2 : LT v w) : LT u w := by
  obtain ⟨k, a, c⟩ := h2
  rcases diff_or u v (k + 1) with h | ⟨j, hj, e1, e2⟩
  · exact ⟨k, fun i hi => by rw [h i (by omega), a i hi], by rw [h k (by omega)]; exact c⟩
  · rcases Nat.lt_or_gt_of_ne e2 with d | d
    · by_cases ej : j = k
      · subst ej; exact ⟨j, fun i hi => by rw [e1 i hi, a i hi], by omega⟩
      · exact ⟨j, fun i hi => by rw [e1 i hi, a i (by omega)], by rw [← a j (by omega)]; exact d⟩
    · exact absurd ⟨j, fun i hi => (e1 i hi).symm, d⟩ h1
theorem sand {u v w : Nat → Nat} {m : Nat} (huw : ∀ i, i < m → u i = w i) (h1 : ¬ LT u v) (h2 : ¬ LT v w) : ∀ i, i < m → v i = w i := by
  rcases diff_or v w m with h | ⟨k, hk, e1, e2⟩
  · exact h
  · rcases Nat.lt_or_gt_of_ne e2 with d | d
    · exact absurd ⟨k, e1, d⟩ h2
    · exact absurd ⟨k, fun i hi => by rw [huw i (by omega), e1 i hi], by rw [huw k hk]; exact d⟩ h1
theorem sand2 {u v w : Nat → Nat} {m : Nat} (huw : ∀ i, i < m → u i = w i) (h1 : LT v w) (h2 : ¬ LT v u) : ∀ i, i < m → v i = w i := by
  rcases diff_or v w m with h | ⟨k, hk, e1, e2⟩
  · exact h
  · rcases Nat.lt_or_gt_of_ne e2 with d | d
    · exact absurd ⟨k, fun i hi => by rw [huw i (by omega), e1 i hi], by rw [huw k hk]; exact d⟩ h2
    · obtain ⟨j, a, c⟩ := h1
      rcases Nat.lt_trichotomy j k with f | f | f
      · have := e1 j f; omega
      · subst f; omega
      · have := a k f; omega
/-- Bytes of suffixes and of a text. -/
theorem su_same (b q : List Int) (p m : Nat) (hp : p + m ≤ b.length) (hq : m ≤ q.length) (hb : ∀ x ∈ b, 0 ≤ x ∧ x ≤ 255) (hqq : ∀ x ∈ q, 0 ≤ x ∧ x ≤ 255) :
    (∀ i, i < m → su b p i = chl q i) ↔ ∀ i : Nat, i < m → gd b ((p + i : Nat) : Int) = gd q (i : Int) := by
  constructor
  · intro h i hi
    have := h i hi
    have h1 := hb _ (gd_mem b (p + i) (by omega))
    have h2 := hqq _ (gd_mem q i (by omega))
    unfold su ch chl at this
    rw [if_pos (by omega), if_pos (by omega)] at this
    omega
  · intro h i hi
    unfold su ch chl
    rw [if_pos (by omega), if_pos (by omega), h i hi]
theorem su_len (b q : List Int) (p m : Nat) (hp : p ≤ b.length) (hq : m ≤ q.length) (h : ∀ i, i < m → su b p i = chl q i) : p + m ≤ b.length := by
  by_cases c : p + m ≤ b.length
  · exact c
  · have := h (b.length - p) (by omega)
    unfold su ch chl at this
    rw [if_neg (by omega), if_pos (by omega)] at this
    omega
theorem less67 (b A q : List Int) (sa : SA b A) (hu : ∀ x ∈ b, 0 ≤ x ∧ x ≤ 255) (hq : ∀ x ∈ q, 0 ≤ x ∧ x ≤ 255) (t p : Nat) (ht : t < b.length) (hp : gd A (t : Int) = (p : Int)) (hpb : p < b.length) :
    ∃ r, F67.m (t : Int) b A q = some r ∧ (r = true ↔ ¬ LT (su b p) (chl q)) := by
  have hl : A.length = b.length := (perm_get sa.1).1
  unfold F67.m F68.m
  rw [if_pos (by omega), hp, if_pos (by omega), Option.bind_some]
  refine ⟨_, rfl, ?_⟩
  rw [decide_eq_true_iff, cmp_is _ _ (fun x hx => hu x (by unfold subL at hx; exact List.mem_of_mem_drop (List.mem_of_mem_take hx))) hq, chl_sub b p (by omega)]
theorem search66 (b A q : List Int) (hb : b.length ≤ 5000) (sa : SA b A) (hu : ∀ x ∈ b, 0 ≤ x ∧ x ≤ 255) (hq : ∀ x ∈ q, 0 ≤ x ∧ x ≤ 255) :
    ∃ at_ : Nat, F66.m (A.length : Int) b A q = some (at_ : Int) ∧ at_ ≤ b.length ∧ (∀ t p : Nat, t < at_ → gd A (t : Int) = (p : Int) → LT (su b p) (chl q)) ∧ (∀ t p : Nat, at_ ≤ t → t < b.length → gd A (t : Int) = (p : Int) → ¬ LT (su b p) (chl q)) := by
  obtain ⟨hl, hg, ho⟩ := perm_get sa.1
  have hord : ∀ i j p q' : Nat, i < j → j < b.length → gd A (i : Int) = (p : Int) → gd A (j : Int) = (q' : Int) → ¬ LT (su b q') (su b p) := fun i j p q' hij hj e1 e2 hlt => by
    obtain ⟨H, h⟩ := lt_ltp hlt
    have := pair_get sa.2 i j hij (by omega)
    rw [e1, e2] at this
    exact this H h
  unfold F66.m
  obtain ⟨y, hy, hQ⟩ := loop_ends (b := F66.b1 b A q) (fun x => ∃ i j : Nat, x = ((i : Int), (j : Int)) ∧ i ≤ j ∧ j ≤ b.length ∧ (∀ t p : Nat, t < i → gd A (t : Int) = (p : Int) → LT (su b p) (chl q)) ∧ (∀ t p : Nat, j ≤ t → t < b.length → gd A (t : Int) = (p : Int) → ¬ LT (su b p) (chl q))) (fun x => (x.2 - x.1).toNat)
    (fun y => ∃ at_ : Nat, y = (at_ : Int) ∧ at_ ≤ b.length ∧ (∀ t p : Nat, t < at_ → gd A (t : Int) = (p : Int) → LT (su b p) (chl q)) ∧ (∀ t p : Nat, at_ ≤ t → t < b.length → gd A (t : Int) = (p : Int) → ¬ LT (su b p) (chl q))) (fun x hx => by
      obtain ⟨i, j, rfl, h1, h2, h3, h4⟩ := hx
      simp only [F66.b1]
      by_cases c : i < j
      · have e1 : IntKind.wrap .i64 (shrI .u64 (IntKind.wrap .u64 (IntKind.wrap .i64 ((i : Int) + (j : Int)))) 1) = (((i + j) / 2 : Nat) : Int) := by
          rw [w64 (n := (i : Int) + (j : Int)) (by omega) (by omega), wu64 (n := (i : Int) + (j : Int)) (by omega) (by omega), show (i : Int) + (j : Int) = ((i + j : Nat) : Int) by omega, show (1 : Int) = ((1 : Nat) : Int) from rfl, shr_nat .u64 (i + j) 1 (by decide), Nat.shiftRight_eq_div_pow]
          exact w64 (by omega) (by omega)
        rw [if_pos (by omega), e1]
        have hm : (i + j) / 2 < b.length ∧ i ≤ (i + j) / 2 ∧ (i + j) / 2 < j := by omega
        generalize (i + j) / 2 = m at hm ⊢
        obtain ⟨p, hp, ep⟩ := hg m hm.1
        obtain ⟨r, hr, hr'⟩ := less67 b A q sa hu hq m p hm.1 ep hp
        rw [hr, Option.bind_some]
        by_cases hrt : r = true
        · rw [if_pos hrt]
          simp only [F66.j2]
          refine on_ (x := ((i : Int), (j : Int))) ⟨i, m, rfl, by omega, by omega, h3, fun t p' ht htn e hlt => ?_⟩ (by simp only; omega)
          have hm' := hr'.1 hrt
          by_cases em : t = m
          · subst em
            rw [ep] at e
            have : p = p' := by omega
            subst this
            exact hm' hlt
          · exact hm' (lt_trans' (hord m t p p' (by omega) htn ep e) hlt)
        · rw [if_neg hrt]
          simp only [F66.j2]
          rw [w64 (n := (m : Int) + 1) (by omega) (by omega)]
          refine on_ (x := ((i : Int), (j : Int))) ⟨m + 1, j, rfl, by omega, by omega, fun t p' ht e => ?_, h4⟩ (by simp only; omega)
          have hm' : LT (su b p) (chl q) := by
            by_cases d : LT (su b p) (chl q)
            · exact d
            · exact absurd (hr'.2 d) hrt
          by_cases em : t = m
          · subst em
            rw [ep] at e
            have : p = p' := by omega
            subst this
            exact hm'
          · exact lt_trans' (hord t m p' p (by omega) hm.1 e ep) hm'
      · rw [if_neg (by omega)]
        have : i = j := by omega
        subst this
        exact out_ (x := ((i : Int), (i : Int))) ⟨i, rfl, h2, h3, h4⟩) (0, (A.length : Int)) ⟨0, b.length, by rw [hl]; rfl, by omega, by omega, fun t p ht => by omega, fun t p ht ht' => by omega⟩
  rw [hy]
  obtain ⟨a, rfl, h⟩ := hQ
  exact ⟨a, rfl, h⟩
theorem same69 (a q : List Int) (ha : a.length ≤ 100000) : ∃ n : Nat, F69.m a q = some (n : Int) ∧ n ≤ a.length ∧ n ≤ q.length ∧ (∀ i : Nat, i < n → gd a (i : Int) = gd q (i : Int)) ∧ ∀ m : Nat, m ≤ a.length → m ≤ q.length → (∀ i : Nat, i < m → gd a (i : Int) = gd q (i : Int)) → m ≤ n := by
  unfold F69.m
  obtain ⟨y, hy, hQ⟩ := loop_ends (b := F69.b1 a q) (fun x => ∃ n : Nat, x = (n : Int) ∧ n ≤ a.length ∧ n ≤ q.length ∧ ∀ i : Nat, i < n → gd a (i : Int) = gd q (i : Int)) (fun x => ((a.length : Int) - x).toNat)
    (fun y => ∃ n : Nat, y = (n : Int) ∧ n ≤ a.length ∧ n ≤ q.length ∧ (∀ i : Nat, i < n → gd a (i : Int) = gd q (i : Int)) ∧ ∀ m : Nat, m ≤ a.length → m ≤ q.length → (∀ i : Nat, i < m → gd a (i : Int) = gd q (i : Int)) → m ≤ n) (fun x hx => by
      obtain ⟨n, rfl, h1, h2, h3⟩ := hx
      simp only [F69.b1]
      by_cases c1 : n < a.length
      · rw [if_pos (by omega)]
        by_cases c2 : n < q.length
        · rw [if_pos (by omega), if_pos (by omega), if_pos (by omega)]
          by_cases c3 : gd a (n : Int) = gd q (n : Int)
          · rw [if_pos c3, w64 (by omega) (by omega)]
            refine on_ (x := (n : Int)) ⟨n + 1, by omega, by omega, by omega, fun i hi => ?_⟩ (by omega)
            by_cases e : i = n
            · rw [e]; exact c3
            · exact h3 i (by omega)
          · rw [if_neg c3]
            refine out_ (x := (n : Int)) ⟨n, rfl, h1, h2, h3, fun m _ _ hm => ?_⟩
            by_cases e : m ≤ n
            · exact e
            · exact absurd (hm n (by omega)) c3
        · rw [if_neg (by omega)]
          exact out_ (x := (n : Int)) ⟨n, rfl, h1, h2, h3, fun m _ hm _ => by omega⟩
      · rw [if_neg (by omega)]
        exact out_ (x := (n : Int)) ⟨n, rfl, h1, h2, h3, fun m hm _ _ => by omega⟩) 0 ⟨0, rfl, by omega, by omega, fun i hi => by omega⟩
  rw [hy]
  obtain ⟨n, rfl, h⟩ := hQ
  exact ⟨n, rfl, h⟩
/-- The longest match: it stands there, and none is longer. -/
theorem longest52 (b A q : List Int) (hb : b.length ≤ 5000) (hql : q.length ≤ 100000) (sa : SA b A) (hu : ∀ x ∈ b, 0 ≤ x ∧ x ≤ 255) (hq : ∀ x ∈ q, 0 ≤ x ∧ x ≤ 255) :
    ∃ p n : Nat, F52_1.m b A q = some ((p : Int), (n : Int)) ∧ p + n ≤ b.length ∧ n ≤ q.length ∧ (∀ i : Nat, i < n → gd b ((p + i : Nat) : Int) = gd q (i : Int)) ∧ (∀ s m : Nat, s + m ≤ b.length → m ≤ q.length → (∀ i : Nat, i < m → gd b ((s + i : Nat) : Int) = gd q (i : Int)) → m ≤ n) := by
  unfold F52_1.m
  by_cases hb0 : b.length = 0
  · rw [if_pos (by omega)]
    exact ⟨0, 0, rfl, by omega, by omega, fun i hi => by omega, fun s m h _ _ => by omega⟩
  rw [if_neg (by omega)]
  obtain ⟨hl, hg, ho⟩ := perm_get sa.1
  obtain ⟨a, ea, ha, hlo, hhi⟩ := search66 b A q hb sa hu hq
  rw [ea, Option.bind_some]
  have hsub : ∀ p : Nat, p < b.length → (subL b (p : Int) (b.length : Int)).length = b.length - p := fun p hp => subL_len b p b.length (by omega)
  obtain ⟨y, hy, hQ⟩ := loop_ends (b := F52_1.b1 b A q (a : Int)) (fun x => ∃ p n k : Nat, x = ((p : Int), (n : Int), (k : Int)) ∧ k ≤ 2 ∧ p + n ≤ b.length ∧ n ≤ q.length ∧ (∀ i : Nat, i < n → gd b ((p + i : Nat) : Int) = gd q (i : Int)) ∧ ∀ j s : Nat, j < k → 0 ≤ (a : Int) - 1 + j → (a : Int) - 1 + j < b.length → gd A ((a : Int) - 1 + j) = (s : Int) → ∀ m : Nat, s + m ≤ b.length → m ≤ q.length → (∀ i : Nat, i < m → gd b ((s + i : Nat) : Int) = gd q (i : Int)) → m ≤ n) (fun x => (2 - x.2.2).toNat)
    (fun y => ∃ p n : Nat, y = ((p : Int), (n : Int)) ∧ p + n ≤ b.length ∧ n ≤ q.length ∧ (∀ i : Nat, i < n → gd b ((p + i : Nat) : Int) = gd q (i : Int)) ∧ ∀ j s : Nat, j < 2 → 0 ≤ (a : Int) - 1 + j → (a : Int) - 1 + j < b.length → gd A ((a : Int) - 1 + j) = (s : Int) → ∀ m : Nat, s + m ≤ b.length → m ≤ q.length → (∀ i : Nat, i < m → gd b ((s + i : Nat) : Int) = gd q (i : Int)) → m ≤ n) (fun x hx => by
      obtain ⟨p, n, k, rfl, h1, h2, h3, h4, h5⟩ := hx
      simp only [F52_1.b1]
      rw [w64 (n := (a : Int) - 1) (by omega) (by omega)]
      have e2 : (([(a : Int) - 1, (a : Int)] : List Int).length : Int) = 2 := rfl
      rw [e2]
      by_cases hk : k < 2
      · have eg : gd [(a : Int) - 1, (a : Int)] (k : Int) = (a : Int) - 1 + k := by
          have : k = 0 ∨ k = 1 := by omega
          rcases this with rfl | rfl
          · show (a : Int) - 1 = _; omega
          · show (a : Int) = _; omega
        rw [if_pos (by omega), if_pos (by omega), eg]
        have skip : (¬ (0 ≤ (a : Int) - 1 + k ∧ (a : Int) - 1 + k < b.length)) → ∃ s, F52_1.j2 (k : Int) (p : Int) (n : Int) = some s ∧ (∀ x', s = .inl x' → (∃ p n k : Nat, x' = ((p : Int), (n : Int), (k : Int)) ∧ k ≤ 2 ∧ p + n ≤ b.length ∧ n ≤ q.length ∧ (∀ i : Nat, i < n → gd b ((p + i : Nat) : Int) = gd q (i : Int)) ∧ ∀ j s : Nat, j < k → 0 ≤ (a : Int) - 1 + j → (a : Int) - 1 + j < b.length → gd A ((a : Int) - 1 + j) = (s : Int) → ∀ m : Nat, s + m ≤ b.length → m ≤ q.length → (∀ i : Nat, i < m → gd b ((s + i : Nat) : Int) = gd q (i : Int)) → m ≤ n) ∧ (2 - x'.2.2).toNat < (2 - (k : Int)).toNat) ∧
            (∀ y, s = .inr y → ∃ p n : Nat, y = ((p : Int), (n : Int)) ∧ p + n ≤ b.length ∧ n ≤ q.length ∧ (∀ i : Nat, i < n → gd b ((p + i : Nat) : Int) = gd q (i : Int)) ∧ ∀ j s : Nat, j < 2 → 0 ≤ (a : Int) - 1 + j → (a : Int) - 1 + j < b.length → gd A ((a : Int) - 1 + j) = (s : Int) → ∀ m : Nat, s + m ≤ b.length → m ≤ q.length → (∀ i : Nat, i < m → gd b ((s + i : Nat) : Int) = gd q (i : Int)) → m ≤ n) := by
          intro hsk
          simp only [F52_1.j2]
          rw [w64 (by omega) (by omega)]
          refine ⟨_, rfl, fun x' e => ?_, fun y e => by cases e⟩
          cases e
          refine ⟨⟨p, n, k + 1, rfl, by omega, h2, h3, h4, fun j s hj c1 c2 c3 => ?_⟩, by simp only; omega⟩
          by_cases ej : j = k
          · subst ej; exact absurd ⟨c1, c2⟩ hsk
          · exact h5 j s (by omega) c1 c2 c3
        by_cases d1 : (a : Int) - 1 + k < 0
        · rw [if_pos d1]; exact skip (by omega)
        · rw [if_neg d1]
          by_cases d2 : (A.length : Int) ≤ (a : Int) - 1 + k
          · rw [if_pos d2]; exact skip (by omega)
          · rw [if_neg d2, if_pos (by omega)]
            obtain ⟨t, et⟩ := nat_of (show 0 ≤ (a : Int) - 1 + k by omega)
            obtain ⟨s, hs, es⟩ := hg t (by omega)
            rw [et, es, if_pos (by omega)]
            obtain ⟨n', en, f1, f2, f3, f4⟩ := same69 (subL b (s : Int) (b.length : Int)) q (by rw [hsub s hs]; omega)
            rw [hsub s hs] at f1 f4
            have hat : ∀ i : Nat, i < b.length - s → gd (subL b (s : Int) (b.length : Int)) (i : Int) = gd b ((s + i : Nat) : Int) := fun i hi => subL_at _ _ _ _ hi
            have hmx : ∀ m : Nat, s + m ≤ b.length → m ≤ q.length → (∀ i : Nat, i < m → gd b ((s + i : Nat) : Int) = gd q (i : Int)) → m ≤ n' := fun m g1 g2 g3 => f4 m (by omega) g2 (fun i hi => by rw [hat i (by omega)]; exact g3 i hi)
            rw [en, Option.bind_some]
            have step : ∀ P N : Nat, P + N ≤ b.length → N ≤ q.length → (∀ i : Nat, i < N → gd b ((P + i : Nat) : Int) = gd q (i : Int)) → n ≤ N → n' ≤ N → ∃ s, F52_1.j3 (k : Int) (P : Int) (N : Int) = some s ∧ (∀ x', s = .inl x' → (∃ p n k : Nat, x' = ((p : Int), (n : Int), (k : Int)) ∧ k ≤ 2 ∧ p + n ≤ b.length ∧ n ≤ q.length ∧ (∀ i : Nat, i < n → gd b ((p + i : Nat) : Int) = gd q (i : Int)) ∧ ∀ j s : Nat, j < k → 0 ≤ (a : Int) - 1 + j → (a : Int) - 1 + j < b.length → gd A ((a : Int) - 1 + j) = (s : Int) → ∀ m : Nat, s + m ≤ b.length → m ≤ q.length → (∀ i : Nat, i < m → gd b ((s + i : Nat) : Int) = gd q (i : Int)) → m ≤ n) ∧ (2 - x'.2.2).toNat < (2 - (k : Int)).toNat) ∧
                (∀ y, s = .inr y → ∃ p n : Nat, y = ((p : Int), (n : Int)) ∧ p + n ≤ b.length ∧ n ≤ q.length ∧ (∀ i : Nat, i < n → gd b ((p + i : Nat) : Int) = gd q (i : Int)) ∧ ∀ j s : Nat, j < 2 → 0 ≤ (a : Int) - 1 + j → (a : Int) - 1 + j < b.length → gd A ((a : Int) - 1 + j) = (s : Int) → ∀ m : Nat, s + m ≤ b.length → m ≤ q.length → (∀ i : Nat, i < m → gd b ((s + i : Nat) : Int) = gd q (i : Int)) → m ≤ n) := by
              intro P N g1 g2 g3 g4 g5
              simp only [F52_1.j3, F52_1.j2]
              rw [w64 (by omega) (by omega)]
              refine ⟨_, rfl, fun x' e => ?_, fun y e => by cases e⟩
              cases e
              refine ⟨⟨P, N, k + 1, rfl, by omega, g1, g2, g3, fun j s' hj c1 c2 c3 m g6 g7 g8 => ?_⟩, by simp only; omega⟩
              by_cases ej : j = k
              · subst ej
                rw [et, es] at c3
                have : s = s' := by omega
                subst this
                exact Nat.le_trans (hmx m g6 g7 g8) g5
              · exact Nat.le_trans (h5 j s' (by omega) c1 c2 c3 m g6 g7 g8) g4
            by_cases d3 : (n : Int) < (n' : Int)
            · rw [if_pos d3]
              exact step s n' (by omega) f2 (fun i hi => by rw [← hat i (by omega)]; exact f3 i hi) (by omega) (Nat.le_refl _)
            · rw [if_neg d3]
              exact step p n h2 h3 h4 (Nat.le_refl _) (by omega)
      · rw [if_neg (by omega)]
        have : k = 2 := by omega
        subst this
        exact out_ (x := ((p : Int), (n : Int), ((2 : Nat) : Int))) ⟨p, n, rfl, h2, h3, h4, h5⟩) (0, 0, 0) ⟨0, 0, 0, rfl, by omega, by omega, by omega, fun i hi => by omega, fun j s hj => by omega⟩
  rw [hy, Option.bind_some]
  obtain ⟨p, n, rfl, h1, h2, h3, h4⟩ := hQ
  refine ⟨p, n, rfl, h1, h2, h3, fun s m g1 g2 g3 => ?_⟩
  by_cases hm0 : m = 0
  · omega
  have hsb : s < b.length := by omega
  obtain ⟨i, hi, ei⟩ := ho s hsb
  have hsq := (su_same b q s m g1 g2 hu hq).2 g3
  by_cases c : a ≤ i
  · obtain ⟨v, hv, ev⟩ := hg a (by omega)
    have h5 : ¬ LT (su b s) (su b v) := fun hlt => by
      by_cases e : a = i
      · subst e
        rw [ei] at ev
        have : s = v := by omega
        subst this
        obtain ⟨k, _, h⟩ := hlt
        omega
      · obtain ⟨H, h⟩ := lt_ltp hlt
        have := pair_get sa.2 a i (by omega) (by omega)
        rw [ei, ev] at this
        exact this H h
    have h6 := hhi a v (Nat.le_refl _) (by omega) ev
    have h7 := sand hsq h5 h6
    have h8 := su_len b q v m (by omega) g2 h7
    exact h4 1 v (by omega) (by omega) (by omega) (by rw [show (a : Int) - 1 + ((1 : Nat) : Int) = (a : Int) by omega]; exact ev) m h8 g2 ((su_same b q v m h8 g2 hu hq).1 h7)
  · obtain ⟨v, hv, ev⟩ := hg (a - 1) (by omega)
    have h5 : ¬ LT (su b v) (su b s) := fun hlt => by
      by_cases e : i = a - 1
      · subst e
        rw [ei] at ev
        have : s = v := by omega
        subst this
        obtain ⟨k, _, h⟩ := hlt
        omega
      · obtain ⟨H, h⟩ := lt_ltp hlt
        have := pair_get sa.2 i (a - 1) (by omega) (by omega)
        rw [ei, ev] at this
        exact this H h
    have h6 := hlo (a - 1) v (by omega) ev
    have h7 := sand2 hsq h6 h5
    have h8 := su_len b q v m (by omega) g2 h7
    exact h4 0 v (by omega) (by omega) (by omega) (by rw [show (a : Int) - 1 + ((0 : Nat) : Int) = ((a - 1 : Nat) : Int) by omega]; exact ev) m h8 g2 ((su_same b q v m h8 g2 hu hq).1 h7)
/-! ### How far one gets -/
def cnt (g : Nat → Bool) : Nat → Nat
  | 0 => 0
  | n + 1 => cnt g n + if g n then 1 else 0
theorem cnt_add (g : Nat → Bool) (a : Nat) : ∀ c, cnt g (a + c) = cnt g a + cnt (fun k => g (a + k)) c
  | 0 => rfl
  | c + 1 => by
    have := cnt_add g a c
    rw [← Nat.add_assoc]
    simp only [cnt]
    omega
theorem cnt_same (g h : Nat → Bool) : ∀ n, (∀ i, i < n → g i = h i) → cnt g n = cnt h n
  | 0, _ => rfl
  | n + 1, e => by simp only [cnt]; rw [cnt_same g h n (fun i hi => e i (by omega)), e n (by omega)]
theorem cnt_all (g : Nat → Bool) : ∀ n, (∀ i, i < n → g i = true) → cnt g n = n
  | 0, _ => rfl
  | n + 1, e => by simp only [cnt]; rw [cnt_all g n (fun i hi => e i (by omega)), e n (by omega)]; rfl
theorem cnt_rev (g : Nat → Bool) : ∀ n, cnt (fun k => g (n - 1 - k)) n = cnt g n
  | 0 => rfl
  | n + 1 => by
    have ih := cnt_rev g n
    have e : cnt (fun k => g (n + 1 - 1 - k)) (n + 1) = cnt (fun k => g (n - k)) (1 + n) := by rw [Nat.add_comm 1 n]; rfl
    rw [e, cnt_add, cnt_same (fun k => g (n - (1 + k))) (fun k => g (n - 1 - k)) n (fun i hi => by congr 1; omega), ih]
    simp only [cnt]
    simp
    omega
theorem cnt_le (g : Nat → Bool) : ∀ n, cnt g n ≤ n
  | 0 => Nat.le_refl _
  | n + 1 => by have := cnt_le g n; simp only [cnt]; split <;> omega
/-- The loop of 'reach', whatever its steps tell. -/
theorem reach_gen2 {b1 : (Int × Int × Int × Int) → Option ((Int × Int × Int × Int) ⊕ Int)} (g : Nat → Bool) (M : Nat) (hM : M ≤ 100000)
    (hb : ∀ best score far i : Int, 0 ≤ i → b1 (best, score, far, i) = if i < M then (
      let sc := if g i.toNat then IntKind.wrap .i64 (score + 1) else IntKind.wrap .i64 (score - 1)
      let bf := if best ≤ sc ∧ g i.toNat = true then (sc, IntKind.wrap .i64 (i + 1)) else (best, far)
      if sc < IntKind.wrap .i64 (bf.1 - 24) then some (.inr bf.2) else some (.inl (bf.1, sc, bf.2, IntKind.wrap .i64 (i + 1)))) else some (.inr far)) :
    ∃ far : Nat, loop b1 (0, 0, 0, 0) = some (far : Int) ∧ far ≤ M ∧ far ≤ 2 * cnt g far := by
  obtain ⟨y, hy, hQ⟩ := loop_ends (b := b1) (fun x => ∃ far k : Nat, x.2.2.1 = (far : Int) ∧ x.2.2.2 = (k : Int) ∧ far ≤ k ∧ k ≤ M ∧ x.1 = 2 * (cnt g far : Int) - far ∧ x.2.1 = 2 * (cnt g k : Int) - k ∧ 0 ≤ x.1) (fun x => ((M : Int) - x.2.2.2).toNat)
    (fun y => ∃ far : Nat, y = (far : Int) ∧ far ≤ M ∧ far ≤ 2 * cnt g far) (fun x hx => by
      obtain ⟨best, score, fr, i⟩ := x
      obtain ⟨far, k, rfl, rfl, h1, h2, h3, h4, h5⟩ := hx
      simp only at h3 h4 h5
      rw [hb _ _ _ _ (by omega)]
      have c1 := cnt_le g far
      have c2 := cnt_le g k
      by_cases hk : k < M
      · rw [if_pos (by omega), Int.toNat_natCast]
        have hsc : (if g k = true then IntKind.wrap .i64 (score + 1) else IntKind.wrap .i64 (score - 1)) = 2 * (cnt g (k + 1) : Int) - ((k + 1 : Nat) : Int) := by
          simp only [cnt]
          by_cases e : g k = true
          · rw [if_pos e, if_pos e, w64 (by omega) (by omega)]; omega
          · rw [if_neg e, if_neg e, w64 (by omega) (by omega)]; omega
        simp only
        rw [hsc, w64 (n := (k : Int) + 1) (by omega) (by omega)]
        have c3 := cnt_le g (k + 1)
        by_cases hbst : best ≤ 2 * (cnt g (k + 1) : Int) - ((k + 1 : Nat) : Int) ∧ g k = true
        · rw [if_pos hbst]
          simp only
          rw [w64 (by omega) (by omega)]
          rw [if_neg (by omega)]
          exact on_ (x := (best, score, (far : Int), (k : Int))) ⟨k + 1, k + 1, rfl, rfl, by omega, by omega, rfl, rfl, by simp only; omega⟩ (by simp only; omega)
        · rw [if_neg hbst]
          simp only
          rw [w64 (n := best - 24) (by omega) (by omega)]
          by_cases ht : 2 * (cnt g (k + 1) : Int) - ((k + 1 : Nat) : Int) < best - 24
          · rw [if_pos ht]
            exact out_ (x := (best, score, (far : Int), (k : Int))) ⟨far, rfl, by omega, by omega⟩
          · rw [if_neg ht]
            exact on_ (x := (best, score, (far : Int), (k : Int))) ⟨far, k + 1, rfl, rfl, by omega, by omega, h3, rfl, h5⟩ (by simp only; omega)
      · rw [if_neg (by omega)]
        exact out_ (x := (best, score, (far : Int), (k : Int))) ⟨far, rfl, by omega, by omega⟩) (0, 0, 0, 0) ⟨0, 0, rfl, rfl, by omega, by omega, by simp [cnt], by simp [cnt], by simp⟩
  obtain ⟨far, rfl, h⟩ := hQ
  exact ⟨far, hy, h⟩
end Go.Proofs.Ytedokgdilpfomaa
