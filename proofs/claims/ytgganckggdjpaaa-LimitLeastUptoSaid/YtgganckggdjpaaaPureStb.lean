/- What Stb needs. -/
import Derived.Test.YtgganckggdjpaaaLimx2
import Derived.Test.YtgganckggdjpaaaEngLp
set_option linter.unusedVariables false
set_option linter.unusedSimpArgs false
namespace Go.Proofs.Ytgganckggdjpaaa
open Go Go.Eng Go.Proofs
/-! ### Swaps within a range -/
theorem set_perm : ∀ {α : Type} (l : List α) (i : Nat) (v : α) (h : i < l.length), (l[i] :: l.set i v).Perm (v :: l)
  | _, x :: l, 0, v, h => List.Perm.swap v x l
  | _, x :: l, i + 1, v, h => by
    have hl : i < l.length := by simpa using h
    have ih := set_perm l i v hl
    simp only [List.getElem_cons_succ, List.set_cons_succ]
    exact (List.Perm.swap x l[i] (l.set i v)).trans ((ih.cons x).trans (List.Perm.swap v x l))
section
variable {α : Type} [Inhabited α]
def swp (xs : List α) (i j : Nat) : List α := (xs.set i (gd xs (j : Int))).set j (gd xs (i : Int))
theorem gdn (xs : List α) (k : Nat) : gd xs (k : Int) = xs.getD k default := rfl
theorem gdn_get {xs : List α} {k : Nat} (h : k < xs.length) : xs[k]? = some (gd xs (k : Int)) := by
  rw [gdn, List.getD_eq_getElem?_getD, List.getElem?_eq_getElem h]; rfl
theorem swp_length (xs : List α) (i j : Nat) : (swp xs i j).length = xs.length := by simp [swp]
theorem swp_get {xs : List α} {i j : Nat} (hi : i < xs.length) (hj : j < xs.length) (k : Nat) : gd (swp xs i j) (k : Int) = if k = j then gd xs (i : Int) else if k = i then gd xs (j : Int) else gd xs (k : Int) := by
  simp only [gdn, swp, List.getD_eq_getElem?_getD, List.getElem?_set, List.length_set]
  by_cases h1 : k = j
  · subst h1; simp [hj]
  · rw [if_neg (Ne.symm h1), if_neg h1]
    by_cases h2 : k = i
    · subst h2; simp [hi]
    · rw [if_neg (Ne.symm h2), if_neg h2]
theorem swp_perm {xs : List α} {i j : Nat} (hi : i < xs.length) (hj : j < xs.length) : (swp xs i j).Perm xs := by
  have e1 : gd xs (i : Int) = xs[i] := gd_at xs i hi
  have e2 : gd xs (j : Int) = xs[j] := gd_at xs j hj
  unfold swp
  rw [e1, e2]
  have h1 := set_perm xs i xs[j] hi
  have h2 := set_perm (xs.set i xs[j]) j xs[i] (by simpa using hj)
  have e3 : (xs.set i xs[j])[j]'(by simpa using hj) = xs[j] := by
    rw [List.getElem_set]; split
    · rfl
    · rfl
  rw [e3] at h2
  have h3 := h2.trans h1
  exact List.Perm.cons_inv h3

/-- ys holds what xs holds: outside of [a, b) at the same places, within at whatever places. -/
structure Rng (a b : Nat) (xs ys : List α) : Prop where
  perm : ys.Perm xs
  out : ∀ k, ¬ (a ≤ k ∧ k < b) → gd ys (k : Int) = gd xs (k : Int)
  inn : ∀ k, a ≤ k → k < b → ∃ j, a ≤ j ∧ j < b ∧ gd ys (k : Int) = gd xs (j : Int)
theorem Rng.len {a b : Nat} {xs ys : List α} (h : Rng a b xs ys) : ys.length = xs.length := h.perm.length_eq
theorem Rng.refl (a b : Nat) (xs : List α) : Rng a b xs xs := ⟨.refl _, fun _ _ => rfl, fun k h1 h2 => ⟨k, h1, h2, rfl⟩⟩
theorem Rng.trans {a b : Nat} {xs ys zs : List α} (h : Rng a b xs ys) (h' : Rng a b ys zs) : Rng a b xs zs :=
  ⟨h'.perm.trans h.perm, fun k hk => (h'.out k hk).trans (h.out k hk), fun k h1 h2 => by
    obtain ⟨j, h3, h4, h5⟩ := h'.inn k h1 h2
    obtain ⟨i, h6, h7, h8⟩ := h.inn j h3 h4
    exact ⟨i, h6, h7, h5.trans h8⟩⟩
theorem Rng.wide {a b a' b' : Nat} {xs ys : List α} (h : Rng a b xs ys) (ha : a' ≤ a) (hb : b ≤ b') : Rng a' b' xs ys :=
  ⟨h.perm, fun k hk => h.out k (by omega), fun k h1 h2 => by
    by_cases hk : a ≤ k ∧ k < b
    · obtain ⟨j, h3, h4, h5⟩ := h.inn k hk.1 hk.2
      exact ⟨j, by omega, by omega, h5⟩
    · exact ⟨k, h1, h2, h.out k hk⟩⟩
theorem Rng.swp {a b i j : Nat} {xs : List α} (hi : a ≤ i ∧ i < b) (hj : a ≤ j ∧ j < b) (hb : b ≤ xs.length) : Rng a b xs (swp xs i j) := by
  have h := swp_get (xs := xs) (i := i) (j := j) (by omega) (by omega)
  refine ⟨swp_perm (by omega) (by omega), fun k hk => ?_, fun k h1 h2 => ?_⟩
  · rw [h, if_neg (by omega), if_neg (by omega)]
  · rw [h]
    split
    · exact ⟨i, hi.1, hi.2, rfl⟩
    · split
      · exact ⟨j, hj.1, hj.2, rfl⟩
      · exact ⟨k, h1, h2, rfl⟩
/-- In order, from a to b. -/
def Srt (le : α → α → Prop) (a b : Nat) (xs : List α) : Prop := ∀ i j : Nat, a ≤ i → i ≤ j → j < b → le (gd xs (i : Int)) (gd xs (j : Int))
variable {le : α → α → Prop}
theorem Srt.sub {a b a' b' : Nat} {xs : List α} (h : Srt le a b xs) (ha : a ≤ a') (hb : b' ≤ b) : Srt le a' b' xs := fun i j h1 h2 h3 => h i j (by omega) h2 (by omega)
theorem Srt.out {a b a' b' : Nat} {xs ys : List α} (h : Srt le a b xs) (hr : Rng a' b' xs ys) (hd : b ≤ a' ∨ b' ≤ a) : Srt le a b ys := fun i j h1 h2 h3 => by
  rw [hr.out i (by omega), hr.out j (by omega)]
  exact h i j h1 h2 h3
theorem Srt.join {a m b : Nat} {xs : List α} (h1 : Srt le a m xs) (h2 : Srt le m b xs) (h : ∀ i j : Nat, a ≤ i → i < m → m ≤ j → j < b → le (gd xs (i : Int)) (gd xs (j : Int))) : Srt le a b xs := fun i j hi hij hj => by
  by_cases hm : j < m
  · exact h1 i j hi hij hm
  · by_cases hm' : m ≤ i
    · exact h2 i j hm' hij hj
    · exact h i j hi (by omega) (by omega) hj
end

/-! ### Data with their first places as marks -/
abbrev Pk := Int × List Int
abbrev Lp := Pk × Nat
def lex (a b : Lp) : Prop := a.1.1 < b.1.1 ∨ (a.1.1 = b.1.1 ∧ a.2 ≤ b.2)
theorem lex_refl (a : Lp) : lex a a := .inr ⟨rfl, Nat.le_refl _⟩
theorem lex_trans {a b c : Lp} (h : lex a b) (h' : lex b c) : lex a c := by
  unfold lex at *; omega
theorem lex_total (a b : Lp) : lex a b ∨ lex b a := by unfold lex; omega
theorem lex_of_lt {a b : Lp} (h : a.2 < b.2) : lex a b ↔ a.1.1 ≤ b.1.1 := by unfold lex; omega
theorem lex_of_gt {a b : Lp} (h : b.2 < a.2) : lex a b ↔ a.1.1 < b.1.1 := by unfold lex; omega
def dat (L : List Lp) : List Pk := L.map Prod.fst
theorem dat_len (L : List Lp) : (dat L).length = L.length := by simp [dat]
theorem dat_gd (L : List Lp) (k : Nat) : gd (dat L) (k : Int) = (gd L (k : Int)).1 := by
  simp only [gdn, dat, List.getD_eq_getElem?_getD, List.getElem?_map]
  cases L[k]? <;> rfl
theorem dat_swp (L : List Lp) (i j : Nat) : swp (dat L) i j = dat (swp L i j) := by
  unfold swp
  rw [dat_gd, dat_gd]
  simp [dat, List.map_set]
/-- The marks on the left of m are below those on its right. -/
def Apt (a m b : Nat) (L : List Lp) : Prop := ∀ i j : Nat, a ≤ i → i < m → m ≤ j → j < b → (gd L (i : Int)).2 < (gd L (j : Int)).2
theorem Apt.sub {a m b a' b' : Nat} {L : List Lp} (h : Apt a m b L) (ha : a ≤ a') (hb : b' ≤ b) : Apt a' m b' L := fun i j h1 h2 h3 h4 => h i j (by omega) h2 h3 (by omega)
/-- Marks that rise. -/
def Ris (a b : Nat) (L : List Lp) : Prop := ∀ i j : Nat, a ≤ i → i < j → j < b → (gd L (i : Int)).2 < (gd L (j : Int)).2
/-- What has been mixed within two parts that were apart is still apart. -/
theorem Apt.mix {a m b : Nat} {L M : List Lp} (h : Apt a m b L) (hl : Rng a m L M) : Apt a m b M := fun i j h1 h2 h3 h4 => by
  obtain ⟨i', h5, h6, h7⟩ := hl.inn i h1 h2
  rw [h7, hl.out j (by omega)]
  exact h i' j h5 h6 h3 h4
theorem Apt.mixR {a m b : Nat} {L M : List Lp} (h : Apt a m b L) (hl : Rng m b L M) : Apt a m b M := fun i j h1 h2 h3 h4 => by
  obtain ⟨i', h5, h6, h7⟩ := hl.inn j h3 h4
  rw [h7, hl.out i (by omega)]
  exact h i i' h1 h2 h5 h6
theorem Apt.out {a m b a' b' : Nat} {L M : List Lp} (h : Apt a m b L) (hr : Rng a' b' L M) (hd : b ≤ a' ∨ b' ≤ a) : Apt a m b M := fun i j h1 h2 h3 h4 => by
  rw [hr.out i (by omega), hr.out j (by omega)]
  exact h i j h1 h2 h3 h4
theorem wp1 (k : Nat) (h : k ≤ 4000000) : IntKind.wrap .i64 ((k : Int) + 1) = ((k + 1 : Nat) : Int) := by rw [w64 (by omega) (by omega)]; omega
theorem wm1 (k : Nat) (h : k ≤ 4000000) (h0 : 1 ≤ k) : IntKind.wrap .i64 ((k : Int) - 1) = ((k - 1 : Nat) : Int) := by rw [w64 (by omega) (by omega)]; omega
theorem wad (j k : Nat) (h : j ≤ 4000000) (h' : k ≤ 4000000) : IntKind.wrap .i64 ((j : Int) + (k : Int)) = ((j + k : Nat) : Int) := by rw [w64 (by omega) (by omega)]; omega
theorem wsb (j k : Nat) (h : j ≤ 4000000) (h' : k ≤ j) : IntKind.wrap .i64 ((j : Int) - (k : Int)) = ((j - k : Nat) : Int) := by rw [w64 (by omega) (by omega)]; omega
/-- The half of a sum. -/
theorem whf (j k : Nat) (h : j ≤ 1000000) (h' : k ≤ 1000000) : IntKind.wrap .i64 (shrI .u64 (IntKind.wrap .u64 (IntKind.wrap .i64 ((j : Int) + (k : Int)))) (1 : Int)) = (((j + k) / 2 : Nat) : Int) := by
  rw [wad j k (by omega) (by omega), wu64 (by omega) (by omega), show (1 : Int) = ((1 : Nat) : Int) from rfl, shr_nat _ _ _ (by decide), Nat.shiftRight_eq_div_pow, w64 (by omega) (by omega)]
/-! ### Insertion -/
theorem F48_is (a b : Int) (s t : List Int) : F48.m a s b t = some (if a < b then (-1 : Int) else if b < a then 1 else 0) := by
  simp only [F48.m, F69.m, F81.m, Option.bind_some]
  by_cases h : a < b
  · simp [h]
  · by_cases h' : b < a
    · simp [h, h']
    · simp [h, h']
theorem F48_neg {a b : Int} : ((if a < b then (-1 : Int) else if b < a then 1 else 0) < 0) ↔ a < b := by
  constructor
  · intro h
    split at h
    · assumption
    · split at h <;> omega
  · intro h; rw [if_pos h]; omega
theorem set_is (L : List Lp) (j k : Nat) : List.set (List.set (dat L) (Int.toNat (j : Int)) ((gd (dat L) (k : Int)).1, (gd (dat L) (k : Int)).2)) (Int.toNat (k : Int)) ((gd (dat L) (j : Int)).1, (gd (dat L) (j : Int)).2) = dat (swp L j k) := by
  rw [← dat_swp]; simp only [Int.toNat_natCast]; rfl
theorem ins_in {a i : Nat} (L : List Lp) (ha : a ≤ i) (hi : i < L.length) (hl : L.length ≤ 1000000) (hs : Srt lex a i L) (hap : ∀ p, a ≤ p → p < i → (gd L (p : Int)).2 < (gd L (i : Int)).2) :
    ∃ ys, loop (F79_1.b2 (a : Int)) (dat L, (i : Int)) = some ys ∧ ∃ M, ys = dat M ∧ Rng a (i + 1) L M ∧ Srt lex a (i + 1) M := by
  refine loop_ends (fun s => ∃ (j : Nat) (M : List Lp), s.1 = dat M ∧ s.2 = (j : Int) ∧ a ≤ j ∧ j ≤ i ∧ Rng a (i + 1) L M ∧ (∀ p, a ≤ p → p < j → (gd M (p : Int)).2 < (gd M (j : Int)).2) ∧ ∀ p q : Nat, a ≤ p → p ≤ q → q ≤ i → (q ≠ j ∨ p = j) → lex (gd M (p : Int)) (gd M (q : Int))) (fun s => s.2.toNat) _ (fun s hS => ?_) (dat L, (i : Int)) ?_
  · obtain ⟨d, jj⟩ := s
    obtain ⟨j, M, hd, hj, haj, hji, hr, hm, hv⟩ := hS
    simp only at hj hd
    subst hj; subst hd
    have hlen := hr.len
    unfold F79_1.b2
    dsimp only
    by_cases h1 : (a : Int) < (j : Int)
    · rw [if_pos h1, if_pos (by rw [dat_len]; omega), wm1 j (by omega) (by omega), if_pos (by rw [dat_len]; omega), F48_is, Option.bind_some]
      have hlx := lex_of_lt (hm (j - 1) (by omega) (by omega))
      by_cases h2 : (gd (dat M) (j : Int)).1 < (gd (dat M) ((j - 1 : Nat) : Int)).1
      · rw [if_pos (F48_neg.2 h2), if_pos (by simp [dat_len]; omega)]
        unfold F79_1.j4
        rw [wm1 j (by omega) (by omega), set_is]
        rw [dat_gd, dat_gd] at h2
        have hx : lex (gd M (j : Int)) (gd M ((j - 1 : Nat) : Int)) := .inl h2
        refine ⟨_, rfl, fun s' hs' => ?_, fun r hr => by cases hr⟩
        cases hs'
        have hg := swp_get (xs := M) (i := j) (j := j - 1) (by omega) (by omega)
        refine ⟨⟨j - 1, swp M j (j - 1), rfl, rfl, by omega, by omega, hr.trans (Rng.swp (by omega) (by omega) (by omega)), fun p hp hpj => ?_, fun p q hp hpq hq hc => ?_⟩, by simp only; omega⟩
        · rw [hg p, hg (j - 1), if_neg (by omega), if_neg (by omega), if_pos rfl]
          exact hm p hp (by omega)
        rw [hg p, hg q]
        by_cases q1 : q = j - 1
        · have : p = j - 1 := by omega
          subst this; subst q1; exact lex_refl _
        · rw [if_neg q1]
          by_cases q2 : q = j
          · rw [if_pos q2]
            by_cases p1 : p = j - 1
            · rw [if_pos p1]; exact hx
            · rw [if_neg p1]
              by_cases p2 : p = j
              · rw [if_pos p2]; exact lex_refl _
              · rw [if_neg p2]; exact hv p (j - 1) hp (by omega) (by omega) (by omega)
          · rw [if_neg q2]
            by_cases p1 : p = j - 1
            · rw [if_pos p1]; exact hv j q (by omega) (by omega) hq (by omega)
            · rw [if_neg p1]
              by_cases p2 : p = j
              · rw [if_pos p2]; exact hv (j - 1) q (by omega) (by omega) hq (by omega)
              · rw [if_neg p2]; exact hv p q hp hpq hq (by omega)
      · rw [if_neg (fun h => h2 (F48_neg.1 h))]
        rw [dat_gd, dat_gd] at h2
        have hx : lex (gd M ((j - 1 : Nat) : Int)) (gd M (j : Int)) := hlx.2 (by omega)
        refine ⟨_, rfl, fun s' hs' => (by cases hs'), fun r hr' => ?_⟩
        cases hr'
        refine ⟨M, rfl, hr, fun p q hp hpq hq => ?_⟩
        by_cases hc : q ≠ j ∨ p = j
        · exact hv p q hp hpq (by omega) hc
        · have : q = j := by omega
          subst this
          exact lex_trans (hv p (q - 1) hp (by omega) (by omega) (by omega)) hx
    · rw [if_neg h1]
      refine ⟨_, rfl, fun s' hs' => (by cases hs'), fun r hr' => ?_⟩
      cases hr'
      exact ⟨M, rfl, hr, fun p q hp hpq hq => hv p q hp hpq (by omega) (by omega)⟩
  · exact ⟨i, L, rfl, rfl, ha, Nat.le_refl _, Rng.refl _ _ _, hap, fun p q hp hpq hq hc => by
      by_cases h : q = i
      · have : p = q := by omega
        subst this; exact lex_refl _
      · exact hs p q hp hpq (by omega)⟩
theorem F79_is {a b : Nat} (L : List Lp) (hab : a ≤ b) (hb : b ≤ L.length) (hl : L.length ≤ 1000000) (hu : Ris a b L) : ∃ M, F79_1.m (dat L) (a : Int) (b : Int) = some (dat M) ∧ Rng a b L M ∧ Srt lex a b M := by
  unfold F79_1.m
  obtain ⟨y, hy, hp⟩ := loop_ends (b := F79_1.b1 (a : Int) (b : Int)) (fun s => ∃ (i : Nat) (M : List Lp), s.1 = dat M ∧ s.2 = (i : Int) ∧ a + 1 ≤ i ∧ (i ≤ b ∨ i = a + 1) ∧ Rng a (min i b) L M ∧ Srt lex a (min i b) M) (fun s => b - s.2.toNat) (fun y => ∃ M, y = dat M ∧ Rng a b L M ∧ Srt lex a b M) (fun s hS => by
    obtain ⟨d, ii⟩ := s
    obtain ⟨i, M, hd, hi, hai, hib, hr, hs⟩ := hS
    simp only at hi hd
    subst hi; subst hd
    have hlen := hr.len
    unfold F79_1.b1
    dsimp only
    by_cases h1 : (i : Int) < (b : Int)
    · rw [if_pos h1]
      have hmin : min i b = i := by omega
      rw [hmin] at hr hs
      obtain ⟨ys, hy, M', rfl, hr', hs'⟩ := ins_in M (a := a) (i := i) (by omega) (by omega) (by omega) hs (fun p h3 h4 => by
        obtain ⟨p', h5, h6, h7⟩ := hr.inn p h3 h4
        rw [h7, hr.out i (by omega)]
        exact hu p' i h5 h6 (by omega))
      rw [hy, Option.bind_some]
      unfold F79_1.j3 F79_1.j2
      rw [wp1 i (by omega)]
      refine ⟨_, rfl, fun s' hs'' => ?_, fun r hr => by cases hr⟩
      cases hs''
      have hmin' : min (i + 1) b = i + 1 := by omega
      exact ⟨⟨i + 1, M', rfl, rfl, by omega, by omega, by rw [hmin']; exact (hr.wide (Nat.le_refl _) (by omega)).trans hr', by rw [hmin']; exact hs'⟩, by simp only; omega⟩
    · rw [if_neg h1]
      have hmin : min i b = b := by omega
      rw [hmin] at hr hs
      refine ⟨_, rfl, fun s' hs' => (by cases hs'), fun r hr' => ?_⟩
      cases hr'
      exact ⟨M, rfl, hr, hs⟩) (dat L, ((a + 1 : Nat) : Int)) ⟨a + 1, L, rfl, rfl, Nat.le_refl _, .inr rfl, Rng.refl _ _ _, fun p q h1 h2 h3 => by
      have : p = q := by omega
      subst this; exact lex_refl _⟩
  obtain ⟨M, rfl, h1, h2⟩ := hp
  rw [wp1 a (by omega), hy]
  exact ⟨M, rfl, h1, h2⟩
/-! ### Ranges swapped -/
theorem F95_is {a b n : Nat} (L : List Lp) (h1 : a + n ≤ b) (h2 : b + n ≤ L.length) (hl : L.length ≤ 1000000) : ∃ M, F95_1.m (dat L) (a : Int) (b : Int) (n : Int) = some (dat M) ∧ Rng a (b + n) L M ∧
    ∀ k : Nat, gd M (k : Int) = if a ≤ k ∧ k < a + n then gd L ((k - a + b : Nat) : Int) else if b ≤ k ∧ k < b + n then gd L ((k - b + a : Nat) : Int) else gd L (k : Int) := by
  unfold F95_1.m
  obtain ⟨y, hy, hp⟩ := loop_ends (b := F95_1.b1 (a : Int) (b : Int) (n : Int)) (fun s => ∃ (i : Nat) (M : List Lp), s.1 = dat M ∧ s.2 = (i : Int) ∧ i ≤ n ∧ Rng a (b + n) L M ∧ ∀ k : Nat, gd M (k : Int) = if a ≤ k ∧ k < a + i then gd L ((k - a + b : Nat) : Int) else if b ≤ k ∧ k < b + i then gd L ((k - b + a : Nat) : Int) else gd L (k : Int)) (fun s => n - s.2.toNat)
    (fun y => ∃ M, y = dat M ∧ Rng a (b + n) L M ∧ ∀ k : Nat, gd M (k : Int) = if a ≤ k ∧ k < a + n then gd L ((k - a + b : Nat) : Int) else if b ≤ k ∧ k < b + n then gd L ((k - b + a : Nat) : Int) else gd L (k : Int)) (fun s hS => by
    obtain ⟨d, ii⟩ := s
    obtain ⟨i, M, hd, hi, hin, hr, hv⟩ := hS
    simp only at hi hd
    subst hi; subst hd
    have hlen := hr.len
    unfold F95_1.b1
    dsimp only
    by_cases hc : (i : Int) < (n : Int)
    · rw [if_pos hc, wad b i (by omega) (by omega), wad a i (by omega) (by omega), if_pos (by rw [dat_len]; omega), if_pos (by rw [dat_len]; omega), if_pos (by simp [dat_len]; omega)]
      unfold F95_1.j2
      rw [wad b i (by omega) (by omega), wad a i (by omega) (by omega), wp1 i (by omega), set_is]
      refine ⟨_, rfl, fun s' hs' => ?_, fun r hr => by cases hr⟩
      cases hs'
      have hg := swp_get (xs := M) (i := a + i) (j := b + i) (by omega) (by omega)
      refine ⟨⟨i + 1, _, rfl, rfl, by omega, hr.trans (Rng.swp (by omega) (by omega) (by omega)), fun k => ?_⟩, by simp only; omega⟩
      rw [hg k, hv (a + i), hv (b + i), hv k]
      by_cases k1 : k = b + i
      · subst k1
        rw [if_pos rfl, if_neg (by omega), if_neg (by omega), if_neg (by omega), if_pos (by omega)]
        congr 2; omega
      · rw [if_neg k1]
        by_cases k2 : k = a + i
        · subst k2
          rw [if_pos rfl, if_neg (by omega), if_neg (by omega), if_pos (by omega)]
          congr 2; omega
        · rw [if_neg k2]
          by_cases k3 : a ≤ k ∧ k < a + i
          · rw [if_pos k3, if_pos (by omega)]
          · rw [if_neg k3, if_neg (show ¬ (a ≤ k ∧ k < a + (i + 1)) by omega)]
            by_cases k4 : b ≤ k ∧ k < b + i
            · rw [if_pos k4, if_pos (by omega)]
            · rw [if_neg k4, if_neg (by omega)]
    · rw [if_neg hc]
      have : i = n := by omega
      subst this
      refine ⟨_, rfl, fun s' hs' => (by cases hs'), fun r hr' => ?_⟩
      cases hr'
      exact ⟨M, rfl, hr, hv⟩) (dat L, ((0 : Nat) : Int)) ⟨0, L, rfl, rfl, by omega, Rng.refl _ _ _, fun k => by rw [if_neg (by omega), if_neg (by omega)]⟩
  obtain ⟨M, rfl, h3, h4⟩ := hp
  rw [show (0 : Int) = ((0 : Nat) : Int) from rfl, hy]
  exact ⟨M, rfl, h3, h4⟩
/-- Two neighbouring runs change places. -/
def rot {α : Type} (f : Nat → α) (a m b k : Nat) : α := if a ≤ k ∧ k < a + (b - m) then f (k + (m - a)) else if a + (b - m) ≤ k ∧ k < b then f (k - (b - m)) else f k
theorem F93_is {a m b : Nat} (L : List Lp) (h1 : a < m) (h2 : m < b) (h3 : b ≤ L.length) (hl : L.length ≤ 1000000) : ∃ M, F93_1.m (dat L) (a : Int) (m : Int) (b : Int) = some (dat M) ∧ Rng a b L M ∧
    ∀ k : Nat, gd M (k : Int) = rot (fun k => gd L (k : Int)) a m b k := by
  unfold F93_1.m
  obtain ⟨y, hy, hp⟩ := loop_ends (b := F93_1.b1 (m : Int)) (fun s => ∃ (i j : Nat) (M : List Lp), s.1 = dat M ∧ s.2.1 = (i : Int) ∧ s.2.2 = (j : Int) ∧ 0 < i ∧ 0 < j ∧ a + i ≤ m ∧ m + j ≤ b ∧ Rng a b L M ∧ ∀ k : Nat, rot (fun k => gd M (k : Int)) (m - i) m (m + j) k = rot (fun k => gd L (k : Int)) a m b k) (fun s => s.2.1.toNat + s.2.2.toNat)
    (fun y => ∃ (i : Nat) (M : List Lp), y.1 = dat M ∧ y.2 = (i : Int) ∧ 0 < i ∧ a + i ≤ m ∧ m + i ≤ b ∧ Rng a b L M ∧ ∀ k : Nat, rot (fun k => gd M (k : Int)) (m - i) m (m + i) k = rot (fun k => gd L (k : Int)) a m b k) (fun s hS => by
    obtain ⟨d, ii, jj⟩ := s
    obtain ⟨i, j, M, hd, hi, hj, i0, j0, hai, hbj, hr, hv⟩ := hS
    simp only at hi hd hj
    subst hi; subst hd; subst hj
    have hlen := hr.len
    unfold F93_1.b1
    dsimp only
    by_cases hc : (i : Int) = (j : Int)
    · rw [if_pos hc]
      have : j = i := by omega
      subst this
      refine ⟨_, rfl, fun s' hs' => (by cases hs'), fun r hr' => ?_⟩
      cases hr'
      exact ⟨j, M, rfl, rfl, i0, hai, hbj, hr, hv⟩
    · rw [if_neg hc]
      by_cases hij : (j : Int) < (i : Int)
      · rw [if_pos hij, wsb m i (by omega) (by omega)]
        obtain ⟨M', h4, h5, h6⟩ := F95_is (a := m - i) (b := m) (n := j) M (by omega) (by omega) (by omega)
        rw [h4, Option.bind_some]
        unfold F93_1.j2
        rw [wsb i j (by omega) (by omega)]
        refine ⟨_, rfl, fun s' hs' => ?_, fun r hr => by cases hr⟩
        cases hs'
        refine ⟨⟨i - j, j, M', rfl, rfl, rfl, by omega, by omega, by omega, by omega, hr.trans (h5.wide (by omega) (by omega)), fun k => ?_⟩, by simp only; omega⟩
        rw [← hv k]
        unfold rot
        simp only [h6]
        by_cases k1 : m - i ≤ k ∧ k < m - i + j
        · rw [if_neg (by omega), if_neg (by omega), if_pos (by omega), if_pos (by omega)]
          congr 2; omega
        · by_cases k2 : m - i + j ≤ k ∧ k < m - (i - j) + (m + j - m)
          · rw [if_pos (by omega), if_neg (by omega), if_pos (by omega), if_neg (by omega), if_pos (by omega)]
            congr 2; omega
          · by_cases k3 : m ≤ k ∧ k < m + j
            · rw [if_neg (by omega), if_pos (by omega), if_neg (by omega), if_neg (by omega), if_neg (by omega), if_pos (by omega)]
            · by_cases k4 : m - i + j ≤ k ∧ k < m + j
              · rw [if_neg (by omega), if_pos (by omega), if_neg (by omega), if_neg (by omega), if_neg (by omega), if_pos (by omega)]
              · rw [if_neg (by omega), if_neg (by omega), if_neg (by omega), if_neg (by omega), if_neg (by omega), if_neg (by omega)]
      · rw [if_neg hij, wsb m i (by omega) (by omega), wad m j (by omega) (by omega), wsb (m + j) i (by omega) (by omega)]
        obtain ⟨M', h4, h5, h6⟩ := F95_is (a := m - i) (b := m + j - i) (n := i) M (by omega) (by omega) (by omega)
        rw [h4, Option.bind_some]
        unfold F93_1.j2
        rw [wsb j i (by omega) (by omega)]
        refine ⟨_, rfl, fun s' hs' => ?_, fun r hr => by cases hr⟩
        cases hs'
        refine ⟨⟨i, j - i, M', rfl, rfl, rfl, by omega, by omega, by omega, by omega, hr.trans (h5.wide (by omega) (by omega)), fun k => ?_⟩, by simp only; omega⟩
        rw [← hv k]
        unfold rot
        simp only [h6]
        by_cases k1 : m - i ≤ k ∧ k < m - i + (m + (j - i) - m)
        · rw [if_pos (by omega), if_neg (by omega)]
          by_cases k5 : m + j - i ≤ k + (m - (m - i)) ∧ k + (m - (m - i)) < m + j - i + i
          · omega
          · rw [if_neg k5, if_pos (by omega)]
        · by_cases k2 : m - i + (m + (j - i) - m) ≤ k ∧ k < m + (j - i)
          · rw [if_neg k1, if_pos k2, if_pos (by omega), if_pos (by omega)]
            congr 2; omega
          · by_cases k3 : m + j - i ≤ k ∧ k < m + j
            · rw [if_neg k1, if_neg k2, if_neg (by omega), if_pos (by omega), if_neg (by omega), if_pos (by omega)]
              congr 2; omega
            · rw [if_neg k1, if_neg k2, if_neg (by omega), if_neg (by omega), if_neg (by omega), if_neg (by omega)])
    (dat L, ((m - a : Nat) : Int), ((b - m : Nat) : Int)) ⟨m - a, b - m, L, rfl, rfl, rfl, by omega, by omega, by omega, by omega, Rng.refl _ _ _, fun k => by
      rw [show m - (m - a) = a by omega, show m + (b - m) = b by omega]⟩
  obtain ⟨⟨d, ii⟩, hy⟩ : ∃ y', y' = y := ⟨y, rfl⟩
  obtain ⟨i, M, hd, hi, i0, hai, hbi, hr, hv⟩ := hp
  subst hy
  simp only at hd hi
  subst hd; subst hi
  rw [wsb m a (by omega) (by omega), wsb b m (by omega) (by omega), hy, Option.bind_some]
  dsimp only
  have hlen := hr.len
  unfold F93_1.j1
  rw [wsb m i (by omega) (by omega)]
  obtain ⟨M', h4, h5, h6⟩ := F95_is (a := m - i) (b := m) (n := i) M (by omega) (by omega) (by omega)
  rw [h4]
  refine ⟨M', rfl, hr.trans (h5.wide (by omega) (by omega)), fun k => ?_⟩
  rw [h6, ← hv k]
  unfold rot
  by_cases k1 : m - i ≤ k ∧ k < m - i + i
  · rw [if_pos k1, if_pos (by omega)]
    congr 2; omega
  · rw [if_neg k1, if_neg (show ¬ (m - i ≤ k ∧ k < m - i + (m + i - m)) by omega)]
    by_cases k2 : m ≤ k ∧ k < m + i
    · rw [if_pos k2, if_pos (by omega)]
      congr 2; omega
    · rw [if_neg k2, if_neg (by omega)]
end Go.Proofs.Ytgganckggdjpaaa
