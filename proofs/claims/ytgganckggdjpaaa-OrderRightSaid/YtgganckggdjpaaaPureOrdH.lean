/- What OrdH needs. -/
import Derived.Test.YtgganckggdjpaaaOrd
import Derived.Test.YtgganckggdjpaaaEngLp
set_option linter.unusedVariables false
set_option linter.unusedSimpArgs false
namespace Go.Proofs.Ytgganckggdjpaaa
open Go Go.Eng Go.Proofs
/-! ### A heap -/
def hp (l : List Int) (m : Nat) : Prop := ∀ c : Nat, 0 < c → c < m → gd l ((((c - 1) / 2 : Nat)) : Int) ≤ gd l (c : Int)
theorem hp_root {l : List Int} {m : Nat} (h : hp l m) : ∀ c : Nat, c < m → gd l ((0 : Nat) : Int) ≤ gd l (c : Int) := by
  intro c
  induction c using Nat.strongRecOn with
  | _ c ih =>
    intro hc
    rcases Nat.eq_zero_or_pos c with e | e
    · subst e; exact Int.le_refl _
    · exact Int.le_trans (ih ((c - 1) / 2) (by omega) (by omega)) (h c e hc)
def swp (l : List Int) (a b : Nat) : List Int := (l.set a (gd l (b : Int))).set b (gd l (a : Int))
theorem swp_len (l : List Int) (a b : Nat) : (swp l a b).length = l.length := by simp [swp]
theorem swp_at (l : List Int) (a b k : Nat) (ha : a < l.length) (hb : b < l.length) : gd (swp l a b) (k : Int) = if b = k then gd l (a : Int) else if a = k then gd l (b : Int) else gd l (k : Int) := by
  unfold swp
  rw [gd_set _ _ _ _ (by simpa using hb), gd_set _ _ _ _ ha]
theorem swp_count (l : List Int) (a b : Nat) (ha : a < l.length) (hb : b < l.length) (x : Int) : (swp l a b).count x = l.count x := by
  unfold swp
  have e1 : gd l (a : Int) = l[a] := gd_at l a ha
  have e2 : gd l (b : Int) = l[b] := gd_at l b hb
  have hb' : b < (l.set a l[b]).length := by simpa using hb
  rw [e1, e2, List.count_set hb', List.count_set ha, List.getElem_set]
  have p1 : l[a] = x → 0 < l.count x := fun h => List.count_pos_iff.2 (h ▸ List.getElem_mem ha)
  have p2 : l[b] = x → 0 < l.count x := fun h => List.count_pos_iff.2 (h ▸ List.getElem_mem hb)
  have p3 : a ≠ b → l[a] = x → l[b] = x → 1 < l.count x := fun hne h1 h2 => by
    have h3 := List.count_set (a := x + 1) (b := x) ha
    have h4 : 0 < (l.set a (x + 1)).count x := List.count_pos_iff.2 (List.mem_iff_getElem.2 ⟨b, by simpa using hb, by rw [List.getElem_set_ne hne]; exact h2⟩)
    rw [h3, if_pos (by simpa using h1), if_neg (by simp only [beq_iff_eq]; omega)] at h4
    omega
  simp only [beq_iff_eq]
  by_cases e : a = b
  · subst e
    simp
    split <;> simp_all
  · rw [if_neg e]
    by_cases h1 : l[a] = x <;> by_cases h2 : l[b] = x <;> simp [h1, h2] <;> (try have := p1 h1) <;> (try have := p2 h2) <;> omega
theorem swap116 (y3 : List (List Int)) (y6 : List Int) (l : List Int) (y10 y12 : List Bool) (a b : Nat) (ha : a < l.length) (hb : b < l.length) : F116.m y3 y6 l y10 y12 (a : Int) (b : Int) = some (swp l a b) := by
  unfold F116.m F116.j1
  rw [if_pos (by omega), if_pos (by omega), if_pos (by simp; omega)]
  rfl
theorem less113 (y3 : List (List Int)) (y6 : List Int) (l : List Int) (y10 y12 : List Bool) (a b : Nat) (ha : a < l.length) (hb : b < l.length) : F113.m y3 y6 l y10 y12 (a : Int) (b : Int) = some (decide (gd l (a : Int) < gd l (b : Int))) := by
  unfold F113.m
  rw [if_pos (by omega), if_pos (by omega)]
theorem up65 (y3 : List (List Int)) (y6 : List Int) (l : List Int) (y10 y12 : List Bool) (j : Nat) (hj : j < l.length) (hl : l.length ≤ 100000)
    (h1 : ∀ c : Nat, 0 < c → c < l.length → c ≠ j → gd l (((c - 1) / 2 : Nat) : Int) ≤ gd l (c : Int)) (h2 : ∀ c : Nat, 0 < c → c < l.length → (c - 1) / 2 = j → 0 < j → gd l (((j - 1) / 2 : Nat) : Int) ≤ gd l (c : Int)) :
    ∃ r, F65.m y3 y6 l y10 y12 (j : Int) = some r ∧ r.length = l.length ∧ (∀ x, r.count x = l.count x) ∧ hp r l.length := by
  unfold F65.m
  obtain ⟨y, hy, hQ⟩ := loop_ends (b := F65.b1 y3 y6 y10 y12) (fun s => ∃ q : Nat, s.2 = (q : Int) ∧ q < l.length ∧ s.1.length = l.length ∧ (∀ x, s.1.count x = l.count x) ∧ (∀ c : Nat, 0 < c → c < l.length → c ≠ q → gd s.1 (((c - 1) / 2 : Nat) : Int) ≤ gd s.1 (c : Int)) ∧ (∀ c : Nat, 0 < c → c < l.length → (c - 1) / 2 = q → 0 < q → gd s.1 (((q - 1) / 2 : Nat) : Int) ≤ gd s.1 (c : Int))) (fun s => s.2.toNat)
    (fun r => r.length = l.length ∧ (∀ x, r.count x = l.count x) ∧ hp r l.length) (fun s hs => by
      obtain ⟨r, q⟩ := s
      obtain ⟨q, rfl, hq, hr, hc, g1, g2⟩ := hs
      simp only at hr hc g1 g2
      simp only [F65.b1]
      by_cases h0 : q = 0
      · subst h0
        rw [if_pos (by decide)]
        exact out_ (x := (r, ((0 : Nat) : Int))) ⟨hr, hc, fun c hc0 hcl => g1 c hc0 hcl (by omega)⟩
      · have e : IntKind.wrap .i64 (Int.tdiv (IntKind.wrap .i64 ((q : Int) - 1)) 2) = (((q - 1) / 2 : Nat) : Int) := by
          rw [w64 (n := (q : Int) - 1) (by omega) (by omega), show (q : Int) - 1 = ((q - 1 : Nat) : Int) by omega, show (2 : Int) = ((2 : Nat) : Int) from rfl, tdiv_nat, w64 (by omega) (by omega)]
        obtain ⟨i, hi⟩ : ∃ i, i = (q - 1) / 2 := ⟨_, rfl⟩
        rw [e, ← hi, if_neg (by omega), less113 _ _ _ _ _ _ _ (by omega) (by omega), Option.bind_some]
        by_cases hlt : gd r (q : Int) < gd r (i : Int)
        · rw [if_pos (by simpa using hlt), swap116 _ _ _ _ _ _ _ (by omega) (by omega), Option.bind_some]
          have at_ := fun k : Nat => swp_at r i q k (by omega) (by omega)
          refine on_ (x := (r, (q : Int))) ⟨i, rfl, by omega, by rw [swp_len]; exact hr, fun x => (swp_count r i q (by omega) (by omega) x).trans (hc x), fun c hc0 hcl hci => ?_, fun c hc0 hcl hpi hi0 => ?_⟩ (by simp only; omega)
          · simp only
            rw [at_, at_]
            by_cases k1 : c = q
            · subst k1
              rw [if_neg (by omega), if_pos hi, if_pos rfl]
              exact Int.le_of_lt hlt
            · rw [if_neg (show ¬ q = c from fun h => k1 h.symm), if_neg (show ¬ i = c from fun h => hci h.symm)]
              have a1 := g1 c hc0 hcl k1
              by_cases k2 : q = (c - 1) / 2
              · rw [if_pos k2]
                have := g2 c hc0 hcl k2.symm (by omega)
                rwa [← hi] at this
              · rw [if_neg k2]
                by_cases k3 : i = (c - 1) / 2
                · rw [if_pos k3]
                  rw [← k3] at a1
                  omega
                · rw [if_neg k3]; exact a1
          · simp only
            rw [at_, at_, if_neg (show ¬ q = (i - 1) / 2 by omega), if_neg (show ¬ i = (i - 1) / 2 by omega)]
            have a1 := g1 i (by omega) (by omega) (by omega)
            by_cases k1 : q = c
            · rw [if_pos k1]; exact a1
            · rw [if_neg k1, if_neg (by omega)]
              have a2 := g1 c hc0 hcl (Ne.symm k1)
              rw [hpi] at a2
              omega
        · rw [if_neg (by simpa using hlt)]
          refine out_ (x := (r, (q : Int))) ⟨hr, hc, fun c hc0 hcl => ?_⟩
          by_cases k1 : c = q
          · subst k1; rw [← hi]; omega
          · exact g1 c hc0 hcl k1) (l, (j : Int)) ⟨j, rfl, hj, rfl, fun _ => rfl, h1, h2⟩
  rw [hy]
  exact ⟨y, rfl, hQ⟩
theorem push40 (y3 : List (List Int)) (y6 : List Int) (l : List Int) (y10 y12 : List Bool) (x : Int) (hl : l.length ≤ 1000) (h : hp l l.length) :
    ∃ r, F40.m y3 y6 l y10 y12 x = some r ∧ r.length = l.length + 1 ∧ (∀ a, r.count a = l.count a + (if a = x then 1 else 0)) ∧ hp r r.length := by
  unfold F40.m F115.m
  rw [if_pos (by simp; omega), Option.bind_some]
  unfold F41.m
  rw [Option.bind_some, List.length_append, List.length_singleton, w64 (by omega) (by omega), show (((l.length + 1 : Nat) : Int) - 1) = (l.length : Int) by omega]
  obtain ⟨r, h1, h2, h3, h4⟩ := up65 y3 y6 (l ++ [x]) y10 y12 l.length (by simp) (by simp; omega) (fun c hc0 hcl hne => by
    rw [List.length_append, List.length_singleton] at hcl
    rw [gd_append_left _ _ _ (by omega), gd_append_left _ _ _ (by omega)]
    exact h c hc0 (by omega)) (fun c hc0 hcl hp' h0 => by
    rw [List.length_append, List.length_singleton] at hcl
    omega)
  rw [h1, Option.bind_some]
  rw [List.length_append, List.length_singleton] at h2 h4
  refine ⟨r, rfl, h2, fun a => ?_, by rw [h2]; exact h4⟩
  rw [h3, List.count_append, List.count_singleton]
  simp only [beq_iff_eq]
  congr 1
  by_cases e : a = x
  · rw [if_pos e, if_pos e.symm]
  · rw [if_neg e, if_neg (fun h => e h.symm)]
theorem down66 (y3 : List (List Int)) (y6 : List Int) (l : List Int) (y10 y12 : List Bool) (m : Nat) (hm : m ≤ l.length) (hl : l.length ≤ 100000)
    (h1 : ∀ c : Nat, 0 < c → c < m → (c - 1) / 2 ≠ 0 → gd l (((c - 1) / 2 : Nat) : Int) ≤ gd l (c : Int)) :
    ∃ b r, F66.m y3 y6 l y10 y12 0 (m : Int) = some (b, r) ∧ r.length = l.length ∧ (∀ x, r.count x = l.count x) ∧ (∀ k : Nat, m ≤ k → gd r (k : Int) = gd l (k : Int)) ∧ hp r m := by
  unfold F66.m
  obtain ⟨y, hy, hQ⟩ := loop_ends (b := F66.b1 y3 y6 y10 y12 (m : Int)) (fun s => ∃ q : Nat, s.2 = (q : Int) ∧ q ≤ m ∧ s.1.length = l.length ∧ (∀ x, s.1.count x = l.count x) ∧ (∀ k : Nat, m ≤ k → gd s.1 (k : Int) = gd l (k : Int)) ∧ (∀ c : Nat, 0 < c → c < m → (c - 1) / 2 ≠ q → gd s.1 (((c - 1) / 2 : Nat) : Int) ≤ gd s.1 (c : Int)) ∧ (∀ c : Nat, 0 < c → c < m → (c - 1) / 2 = q → 0 < q → gd s.1 (((q - 1) / 2 : Nat) : Int) ≤ gd s.1 (c : Int))) (fun s => m - s.2.toNat)
    (fun r => r.2.length = l.length ∧ (∀ x, r.2.count x = l.count x) ∧ (∀ k : Nat, m ≤ k → gd r.2 (k : Int) = gd l (k : Int)) ∧ hp r.2 m) (fun s hs => by
      obtain ⟨r, q⟩ := s
      obtain ⟨q, rfl, hq, hr, hc, ho, g1, g2⟩ := hs
      simp only at hr hc ho g1 g2
      simp only [F66.b1]
      rw [w64 (n := (2 : Int) * (q : Int)) (by omega) (by omega), w64 (n := (2 : Int) * (q : Int) + 1) (by omega) (by omega), w64 (n := (2 : Int) * (q : Int) + 1 + 1) (by omega) (by omega)]
      by_cases hq0 : m ≤ 2 * q + 1
      · rw [if_pos (by omega)]
        refine out_ (x := (r, (q : Int))) ⟨hr, hc, ho, fun c hc0 hcl => g1 c hc0 hcl (by omega)⟩
      · rw [if_neg (by omega), if_neg (show ¬ (2 : Int) * (q : Int) + 1 < 0 by omega)]
        -- the smaller child
        have fin : ∀ j : Nat, (j = 2 * q + 1 ∨ j = 2 * q + 2) → j < m → (∀ c : Nat, (c = 2 * q + 1 ∨ c = 2 * q + 2) → c < m → gd r (j : Int) ≤ gd r (c : Int)) →
            (gd r (j : Int) < gd r (q : Int) → (∃ q' : Nat, (j : Int) = (q' : Int) ∧ q' ≤ m ∧ (swp r q j).length = l.length ∧ (∀ x, (swp r q j).count x = l.count x) ∧ (∀ k : Nat, m ≤ k → gd (swp r q j) (k : Int) = gd l (k : Int)) ∧ (∀ c : Nat, 0 < c → c < m → (c - 1) / 2 ≠ q' → gd (swp r q j) (((c - 1) / 2 : Nat) : Int) ≤ gd (swp r q j) (c : Int)) ∧ (∀ c : Nat, 0 < c → c < m → (c - 1) / 2 = q' → 0 < q' → gd (swp r q j) (((q' - 1) / 2 : Nat) : Int) ≤ gd (swp r q j) (c : Int)))) ∧
            (¬ gd r (j : Int) < gd r (q : Int) → hp r m) := by
          intro j hj hjm hmin
          have at_ := fun k : Nat => swp_at r q j k (by omega) (by omega)
          refine ⟨fun hlt => ⟨j, rfl, by omega, by rw [swp_len]; exact hr, fun x => (swp_count r q j (by omega) (by omega) x).trans (hc x), fun k hk => ?_, fun c hc0 hcl hne => ?_, fun c hc0 hcl hpj hj0 => ?_⟩, fun hge c hc0 hcl => ?_⟩
          · rw [at_, if_neg (by omega), if_neg (by omega)]; exact ho k hk
          · rw [at_, at_, if_neg (fun h => hne h.symm)]
            by_cases k1 : q = (c - 1) / 2
            · rw [if_pos k1]
              by_cases k2 : j = c
              · rw [if_pos k2]; omega
              · rw [if_neg k2, if_neg (by omega)]
                exact hmin c (by omega) hcl
            · rw [if_neg k1]
              by_cases k3 : q = c
              · rw [if_neg (show ¬ j = c by omega), if_pos k3]
                have := g2 j (by omega) hjm (by omega) (by omega)
                rwa [← k3]
              · rw [if_neg (show ¬ j = c by omega), if_neg k3]
                exact g1 c hc0 hcl (fun h => k1 h.symm)
          · rw [at_, at_, if_neg (show ¬ j = (j - 1) / 2 by omega), if_pos (show q = (j - 1) / 2 by omega), if_neg (show ¬ j = c by omega), if_neg (show ¬ q = c by omega)]
            have := g1 c hc0 hcl (by omega)
            rwa [hpj] at this
          · by_cases k1 : (c - 1) / 2 = q
            · have := hmin c (by omega) hcl
              rw [k1]; omega
            · exact g1 c hc0 hcl k1
        have last : ∀ j : Nat, (j = 2 * q + 1 ∨ j = 2 * q + 2) → j < m → (∀ c : Nat, (c = 2 * q + 1 ∨ c = 2 * q + 2) → c < m → gd r (j : Int) ≤ gd r (c : Int)) →
            ∃ s, ((F113.m y3 y6 r y10 y12 (j : Int) (q : Int)).bind fun y35 => if y35 = true then (F116.m y3 y6 r y10 y12 (q : Int) (j : Int)).bind fun y38 => F66.j2 y38 (j : Int) else some (.inr ((q : Int), r))) = some s ∧
              (∀ x', s = .inl x' → (∃ q : Nat, x'.2 = (q : Int) ∧ q ≤ m ∧ x'.1.length = l.length ∧ (∀ x, x'.1.count x = l.count x) ∧ (∀ k : Nat, m ≤ k → gd x'.1 (k : Int) = gd l (k : Int)) ∧ (∀ c : Nat, 0 < c → c < m → (c - 1) / 2 ≠ q → gd x'.1 (((c - 1) / 2 : Nat) : Int) ≤ gd x'.1 (c : Int)) ∧ (∀ c : Nat, 0 < c → c < m → (c - 1) / 2 = q → 0 < q → gd x'.1 (((q - 1) / 2 : Nat) : Int) ≤ gd x'.1 (c : Int))) ∧ m - x'.2.toNat < m - (q : Int).toNat) ∧ (∀ y, s = .inr y → y.2.length = l.length ∧ (∀ x, y.2.count x = l.count x) ∧ (∀ k : Nat, m ≤ k → gd y.2 (k : Int) = gd l (k : Int)) ∧ hp y.2 m) := by
          intro j hj hjm hmin
          obtain ⟨f1, f2⟩ := fin j hj hjm hmin
          rw [less113 _ _ _ _ _ _ _ (by omega) (by omega), Option.bind_some]
          by_cases hlt : gd r (j : Int) < gd r (q : Int)
          · rw [if_pos (by simpa using hlt), swap116 _ _ _ _ _ _ _ (by omega) (by omega), Option.bind_some]
            simp only [F66.j2]
            refine ⟨_, rfl, fun x' e => ?_, fun y e => by cases e⟩
            cases e
            refine ⟨f1 hlt, ?_⟩
            clear f1 f2 fin
            simp only
            omega
          · rw [if_neg (by simpa using hlt)]
            refine ⟨_, rfl, fun x' e => by (cases e), fun y e => ?_⟩
            cases e
            exact ⟨hr, hc, ho, f2 hlt⟩
        by_cases h2 : 2 * q + 2 < m
        · rw [if_pos (by omega), show (2 : Int) * (q : Int) + 1 + 1 = ((2 * q + 2 : Nat) : Int) by omega, show (2 : Int) * (q : Int) + 1 = ((2 * q + 1 : Nat) : Int) by omega, less113 _ _ _ _ _ _ _ (by omega) (by omega), Option.bind_some]
          by_cases h3 : gd r ((2 * q + 2 : Nat) : Int) < gd r ((2 * q + 1 : Nat) : Int)
          · rw [if_pos (by simpa using h3)]
            exact last (2 * q + 2) (by omega) h2 (fun c hc' hcl => by
              rcases hc' with rfl | rfl
              · omega
              · exact Int.le_refl _)
          · rw [if_neg (by simpa using h3)]
            exact last (2 * q + 1) (by omega) (by omega) (fun c hc' hcl => by
              rcases hc' with rfl | rfl
              · exact Int.le_refl _
              · omega)
        · rw [if_neg (by omega), show (2 : Int) * (q : Int) + 1 = ((2 * q + 1 : Nat) : Int) by omega]
          exact last (2 * q + 1) (by omega) (by omega) (fun c hc' hcl => by
            rcases hc' with rfl | rfl
            · exact Int.le_refl _
            · omega)) (l, 0) ⟨0, rfl, by omega, rfl, fun _ => rfl, fun _ _ => rfl, h1, fun c _ _ _ h0 => by omega⟩
  rw [hy]
  obtain ⟨a, b⟩ := y
  exact ⟨_, _, rfl, hQ⟩
theorem pop42 (y3 : List (List Int)) (y6 : List Int) (l : List Int) (y10 y12 : List Bool) (hl : l.length ≤ 1000) (h0 : 0 < l.length) (h : hp l l.length) :
    ∃ r, F42.m y3 y6 l y10 y12 = some (gd l ((0 : Nat) : Int), r) ∧ r.length + 1 = l.length ∧ (∀ a, l.count a = r.count a + (if a = gd l ((0 : Nat) : Int) then 1 else 0)) ∧ hp r r.length := by
  unfold F42.m F41.m
  obtain ⟨n, hn⟩ : ∃ n, l.length = n + 1 := ⟨l.length - 1, by omega⟩
  rw [Option.bind_some, w64 (by omega) (by omega), show ((l.length : Int) - 1) = (n : Int) by omega, show F116.m y3 y6 l y10 y12 0 (n : Int) = F116.m y3 y6 l y10 y12 ((0 : Nat) : Int) (n : Int) from rfl, swap116 _ _ _ _ _ _ _ (by omega) (by omega), Option.bind_some]
  have at_ := fun k : Nat => swp_at l 0 n k (by omega) (by omega)
  obtain ⟨b, r, h1, h2, h3, h4, h5⟩ := down66 y3 y6 (swp l 0 n) y10 y12 n (by rw [swp_len]; omega) (by rw [swp_len]; omega) (fun c hc0 hcl hne => by
    rw [at_, at_, if_neg (by omega), if_neg (by omega), if_neg (by omega), if_neg (by omega)]
    exact h c hc0 (by omega))
  rw [h1, Option.bind_some]
  unfold F114.m
  rw [swp_len] at h2
  rw [w64 (by simp only; omega) (by simp only; omega), if_pos (by simp only; omega), if_pos (by simp only; omega), Option.bind_some]
  have e1 : ((r.length : Int) - 1) = (n : Int) := by omega
  have e2 : gd r (n : Int) = gd l ((0 : Nat) : Int) := by rw [h4 n (Nat.le_refl _), at_, if_pos rfl]
  have e3 : subL r 0 (n : Int) = r.take n := by unfold subL; simp
  simp only
  rw [e1, e2, e3]
  have e4 : r = r.take n ++ [gd r (n : Int)] := by rw [← take_gd r n (by omega), List.take_of_length_le (by omega)]
  refine ⟨r.take n, rfl, by simp; omega, fun a => ?_, fun c hc0 hcl => ?_⟩
  · have : r.count a = l.count a := (h3 a).trans (swp_count l 0 n (by omega) (by omega) a)
    rw [← this]
    conv => lhs; rw [e4]
    rw [List.count_append, List.count_singleton, e2]
    simp only [beq_iff_eq]
    congr 1
    by_cases e : a = gd l ((0 : Nat) : Int)
    · rw [if_pos e, if_pos e.symm]
    · rw [if_neg e, if_neg (fun h => e h.symm)]
  · rw [List.length_take] at hcl
    rw [gd_take _ _ _ (by omega), gd_take _ _ _ (by omega)]
    exact h5 c hc0 (by omega)
end Go.Proofs.Ytgganckggdjpaaa
