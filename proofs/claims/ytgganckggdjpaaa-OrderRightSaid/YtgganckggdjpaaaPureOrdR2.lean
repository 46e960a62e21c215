/- What OrdR2 needs. -/
import Derived.Test.YtgganckggdjpaaaPureOrdR
set_option linter.unusedVariables false
set_option linter.unusedSimpArgs false
namespace Go.Proofs.Ytgganckggdjpaaa
open Go Go.Eng Go.Proofs
/-! ### The code's own answer -/
def Dis (n : Nat) (o : List Int) (k : Nat) : Prop := (∀ p : Nat, p < k → 0 ≤ gd o (p : Int) ∧ gd o (p : Int) < (n : Int)) ∧ ∀ p q : Nat, p < q → q < k → gd o (p : Int) ≠ gd o (q : Int)
theorem dis_perm {n : Nat} {o : List Int} (hl : o.length = n) (h : Dis n o o.length) : o.Perm (rng n) := by
  refine ((perm_of o (rng n) (nodup_gd.2 h.2) (fun a ha => ?_)).2 (by rw [rng_len, hl])).symm
  obtain ⟨p, hp, rfl⟩ := mem_gd.1 ha
  have := h.1 p hp
  exact (rng_mem n _).2 ⟨(gd o (p : Int)).toNat, by omega, by omega⟩
theorem perm_dis {n : Nat} {o : List Int} (h : o.Perm (rng n)) : Dis n o o.length := by
  refine ⟨fun p hp => ?_, nodup_gd.1 (h.nodup_iff.2 (rng_nodup n))⟩
  obtain ⟨e, he, h2⟩ := perm_in h p hp
  omega
theorem right18 (x : List (List Int)) (o b : List Int) (hx : x.length ≤ 40) (hr : ∀ l ∈ x, l.length ≤ 60) (ho : o.length ≤ 1000) (hb : b.length ≤ 1000) :
    (RR x o b ∧ F18.m x o b = some true) ∨ (¬ RR x o b ∧ F18.m x o b = some false) := by
  unfold F18.m
  rcases turned39 x hx hr with ⟨h, e⟩ | ⟨h, e⟩
  · rw [e, Option.bind_some, if_pos rfl]
    by_cases hl : o.length = x.length
    · rw [if_pos (by omega), if_pos (by omega)]
      obtain ⟨y, hy, hQ⟩ := loop_ends (b := F18.b3 x o) (fun s => ∃ k : Nat, s.2 = (k : Int) ∧ k ≤ o.length ∧ s.1.length = x.length ∧ Dis x.length o k ∧ (∀ p : Nat, p < k → gd s.1 (gd o (p : Int)) = ((p + 1 : Nat) : Int)) ∧ (∀ e : Nat, e < x.length → (∀ p : Nat, p < k → gd o (p : Int) ≠ (e : Int)) → gd s.1 (e : Int) = 0)) (fun s => ((o.length : Int) - s.2).toNat)
        (fun y => (∃ at_, y = .inr at_ ∧ at_.length = x.length ∧ Dis x.length o o.length ∧ ∀ p : Nat, p < o.length → gd at_ (gd o (p : Int)) = ((p + 1 : Nat) : Int)) ∨ (y = .inl false ∧ ¬ Dis x.length o o.length)) (fun s hs => by
          obtain ⟨a, k⟩ := s
          obtain ⟨k, rfl, hk, hal, hd, h1, h2⟩ := hs
          simp only at hal h1 h2
          simp only [F18.b3]
          by_cases hkl : k < o.length
          · rw [if_pos (by omega), if_pos (by omega)]
            by_cases c1 : gd o (k : Int) < 0
            · rw [if_pos c1]; exact out_ (x := (a, (k : Int))) (.inr ⟨rfl, fun h' => by have := h'.1 k hkl; omega⟩)
            rw [if_neg c1]
            by_cases c2 : (x.length : Int) ≤ gd o (k : Int)
            · rw [if_pos c2]; exact out_ (x := (a, (k : Int))) (.inr ⟨rfl, fun h' => by have := h'.1 k hkl; omega⟩)
            rw [if_neg c2, if_pos (by omega)]
            obtain ⟨i, hi⟩ := nat_of (show 0 ≤ gd o (k : Int) by omega)
            rw [hi]
            by_cases c3 : ∀ p : Nat, p < k → gd o (p : Int) ≠ (i : Int)
            · rw [h2 i (by omega) c3, if_neg (by omega), w64 (by omega) (by omega), Int.toNat_natCast]
              refine on_ (x := (a, (k : Int))) ⟨k + 1, rfl, by omega, by simpa using hal, ⟨fun p hp => ?_, fun p q hpq hq => ?_⟩, fun p hp => ?_, fun e he hne => ?_⟩ (by simp only; omega)
              · by_cases ep : p = k
                · subst ep; omega
                · exact hd.1 p (by omega)
              · by_cases eq : q = k
                · subst eq; rw [hi]; exact c3 p hpq
                · exact hd.2 p q hpq (by omega)
              · simp only
                by_cases ep : p = k
                · subst ep
                  rw [hi, gd_set _ _ _ _ (by omega), if_pos rfl]
                  omega
                · have := hd.1 p (by omega)
                  obtain ⟨j, hj⟩ := nat_of this.1
                  have h3 := h1 p (by omega)
                  have h4 := c3 p (by omega)
                  rw [hj] at h3 h4 ⊢
                  rw [gd_set _ _ _ _ (by omega), if_neg (by omega)]
                  exact h3
              · simp only
                have h5 := hne k (by omega)
                rw [hi] at h5
                rw [gd_set _ _ _ _ (by omega), if_neg (by omega)]
                exact h2 e he (fun p hp => hne p (by omega))
            · have ⟨p, hp⟩ := Classical.not_forall.1 c3
              have ⟨hpk, hpe⟩ := Classical.not_imp.1 hp
              have hpe := Classical.not_not.1 hpe
              have h3 := h1 p hpk
              rw [hpe] at h3
              rw [h3, if_pos (by omega)]
              exact out_ (x := (a, (k : Int))) (.inr ⟨rfl, fun h' => h'.2 p k hpk hkl (by rw [hpe, hi])⟩)
          · rw [if_neg (by omega)]
            obtain rfl : k = o.length := by omega
            exact out_ (x := (a, ((o.length : Nat) : Int))) (.inl ⟨a, rfl, hal, hd, h1⟩)) (List.replicate (Int.toNat (x.length : Int)) 0, 0) ⟨0, rfl, by omega, by simp, ⟨fun p hp => by omega, fun p q _ hq => by omega⟩, fun p hp => by omega, fun e he _ => by
              simp only [Int.toNat_natCast]
              exact gd_rep _ _ _ he⟩
      rw [hy]
      rcases hQ with ⟨at_, rfl, hal, hd, hat⟩ | ⟨rfl, hd⟩
      · rw [Option.bind_some]
        have hp := dis_perm hl hd
        have hall : ∀ k : Nat, k < x.length → (k : Int) ∈ o := fun k hk => hp.mem_iff.2 ((rng_mem _ _).2 ⟨k, hk, rfl⟩)
        simp only [F18.j1]
        have pos : ∀ i : Nat, i < x.length → ∃ p : Nat, p < o.length ∧ gd o (p : Int) = (i : Int) ∧ gd at_ (i : Int) = ((p + 1 : Nat) : Int) := fun i hi => by
          obtain ⟨p, h1, h2⟩ := mem_gd.1 (hall i hi)
          have := hat p h1
          rw [h2] at this
          exact ⟨p, h1, h2, this⟩
        have inner : ∀ i : Nat, i < x.length → ((∀ r : Nat, r < x.length → (i : Int) ∈ gd x (r : Int) → gd at_ (i : Int) < gd at_ (r : Int) → (r : Int) ∈ b) ∧ loop (F18.b2 b (turn x, 0) at_ (i : Int)) 0 = some (.inr ())) ∨ ((¬ ∀ r : Nat, r < x.length → (i : Int) ∈ gd x (r : Int) → gd at_ (i : Int) < gd at_ (r : Int) → (r : Int) ∈ b) ∧ loop (F18.b2 b (turn x, 0) at_ (i : Int)) 0 = some (.inl false)) := by
          intro i hi
          have hrl := rd_len x x.length i
          obtain ⟨y, hy, hQ⟩ := loop_ends (b := F18.b2 b (turn x, 0) at_ (i : Int)) (fun s => ∃ k : Nat, s = (k : Int) ∧ k ≤ (rd x x.length i).length ∧ ∀ j : Nat, j < k → gd at_ (i : Int) < gd at_ (gd (rd x x.length i) (j : Int)) → gd (rd x x.length i) (j : Int) ∈ b) (fun s => (((rd x x.length i).length : Int) - s).toNat)
            (fun y => (y = .inr () ∧ ∀ j : Nat, j < (rd x x.length i).length → gd at_ (i : Int) < gd at_ (gd (rd x x.length i) (j : Int)) → gd (rd x x.length i) (j : Int) ∈ b) ∨ (y = .inl false ∧ ¬ ∀ j : Nat, j < (rd x x.length i).length → gd at_ (i : Int) < gd at_ (gd (rd x x.length i) (j : Int)) → gd (rd x x.length i) (j : Int) ∈ b)) (fun s hs => by
              obtain ⟨k, rfl, hk, ha⟩ := hs
              simp only [F18.b2]
              rw [turn_at x i hi]
              by_cases hk' : k < (rd x x.length i).length
              · obtain ⟨r, hr1, hr2, hr3⟩ := (rd_mem x x.length i _).1 (gd_mem _ k hk')
                rw [if_pos (by omega), if_pos (by omega), if_pos (by omega), if_pos (by omega)]
                have on : (gd at_ (i : Int) < gd at_ (gd (rd x x.length i) (k : Int)) → gd (rd x x.length i) (k : Int) ∈ b) → ∃ s, F18.j5 (k : Int) = some s ∧ (∀ x', s = .inl x' → (∃ k : Nat, x' = (k : Int) ∧ k ≤ (rd x x.length i).length ∧ ∀ j : Nat, j < k → gd at_ (i : Int) < gd at_ (gd (rd x x.length i) (j : Int)) → gd (rd x x.length i) (j : Int) ∈ b) ∧ (((rd x x.length i).length : Int) - x').toNat < (((rd x x.length i).length : Int) - (k : Int)).toNat) ∧ (∀ y, s = .inr y → (y = .inr () ∧ ∀ j : Nat, j < (rd x x.length i).length → gd at_ (i : Int) < gd at_ (gd (rd x x.length i) (j : Int)) → gd (rd x x.length i) (j : Int) ∈ b) ∨ (y = .inl false ∧ ¬ ∀ j : Nat, j < (rd x x.length i).length → gd at_ (i : Int) < gd at_ (gd (rd x x.length i) (j : Int)) → gd (rd x x.length i) (j : Int) ∈ b)) := fun hc => by
                  simp only [F18.j5]
                  rw [w64 (by omega) (by omega)]
                  exact on_ (I := fun s : Int => ∃ k : Nat, s = (k : Int) ∧ k ≤ (rd x x.length i).length ∧ ∀ j : Nat, j < k → gd at_ (i : Int) < gd at_ (gd (rd x x.length i) (j : Int)) → gd (rd x x.length i) (j : Int) ∈ b) (m := fun s => (((rd x x.length i).length : Int) - s).toNat) (x := (k : Int)) ⟨k + 1, rfl, by omega, fun j hj => by
                    by_cases e : j = k
                    · subst e; exact hc
                    · exact ha j (by omega)⟩ (by omega)
                by_cases c1 : gd at_ (i : Int) < gd at_ (gd (rd x x.length i) (k : Int))
                · rw [if_pos c1, cont46 _ _ (by omega), Option.bind_some]
                  by_cases c2 : gd (rd x x.length i) (k : Int) ∈ b
                  · rw [if_pos (by simpa using c2)]; exact on (fun _ => c2)
                  · rw [if_neg (by simpa using c2)]
                    exact out_ (x := (k : Int)) (.inr ⟨rfl, fun h' => c2 (h' k hk' c1)⟩)
                · rw [if_neg c1]; exact on (fun h => absurd h c1)
              · rw [if_neg (by omega)]
                exact out_ (x := (k : Int)) (.inl ⟨rfl, fun j hj => ha j (by omega)⟩)) 0 ⟨0, rfl, by omega, fun j hj => by omega⟩
          have conv : (∀ j : Nat, j < (rd x x.length i).length → gd at_ (i : Int) < gd at_ (gd (rd x x.length i) (j : Int)) → gd (rd x x.length i) (j : Int) ∈ b) ↔ (∀ r : Nat, r < x.length → (i : Int) ∈ gd x (r : Int) → gd at_ (i : Int) < gd at_ (r : Int) → (r : Int) ∈ b) := by
            constructor
            · intro hj r hr1 hr2 hr3
              obtain ⟨j, hj1, hj2⟩ := mem_gd.1 ((rd_mem x x.length i (r : Int)).2 ⟨r, hr1, rfl, hr2⟩)
              have := hj j hj1
              rw [hj2] at this
              exact this hr3
            · intro hr' j hj hlt
              obtain ⟨r, h1, h2, h3⟩ := (rd_mem x x.length i _).1 (gd_mem _ j hj)
              rw [h2] at hlt ⊢
              exact hr' r h1 h3 hlt
          rcases hQ with ⟨rfl, h⟩ | ⟨rfl, h⟩
          · exact .inl ⟨conv.1 h, hy⟩
          · exact .inr ⟨fun h' => h (conv.2 h'), hy⟩
        obtain ⟨y, hy, hQ⟩ := loop_ends (b := F18.b1 b (turn x, 0) at_) (fun s => ∃ k : Nat, s = (k : Int) ∧ k ≤ x.length ∧ ∀ i r : Nat, i < k → r < x.length → (i : Int) ∈ gd x (r : Int) → gd at_ (i : Int) < gd at_ (r : Int) → (r : Int) ∈ b) (fun s => ((x.length : Int) - s).toNat)
          (fun y => (y = .inr () ∧ Fits x o b) ∨ (y = .inl false ∧ ¬ Fits x o b)) (fun s hs => by
            obtain ⟨k, rfl, hk, ha⟩ := hs
            simp only [F18.b1]
            rw [turn_len]
            by_cases hkl : k < x.length
            · rw [if_pos (by omega), if_pos (by omega)]
              rcases inner k hkl with ⟨h1, h2⟩ | ⟨h1, h2⟩
              · rw [h2, Option.bind_some]
                simp only [F18.j4, F18.j3]
                rw [w64 (by omega) (by omega)]
                exact on_ (x := (k : Int)) ⟨k + 1, rfl, by omega, fun i r hi hr1 => by
                  by_cases e : i = k
                  · subst e; exact h1 r hr1
                  · exact ha i r (by omega) hr1⟩ (by omega)
              · rw [h2, Option.bind_some]
                refine out_ (x := (k : Int)) (.inr ⟨rfl, fun hf => h1 (fun r hr1 hr2 hr3 => ?_)⟩)
                obtain ⟨p, p1, p2, p3⟩ := pos k hkl
                obtain ⟨q, q1, q2, q3⟩ := pos r hr1
                have := hf p q (by omega) q1
                rw [p2, q2] at this
                exact this hr2
            · rw [if_neg (by omega)]
              refine out_ (x := (k : Int)) (.inl ⟨rfl, fun p q hpq hq hm => ?_⟩)
              obtain ⟨i, hi1, hi2⟩ := perm_in hp p (by omega)
              obtain ⟨r, hr1, hr2⟩ := perm_in hp q hq
              have a1 := hat p (by omega)
              have a2 := hat q hq
              rw [hi2] at hm a1
              rw [hr2] at hm a2 ⊢
              exact ha i r (by omega) hr1 hm (by omega)) 0 ⟨0, rfl, by omega, fun i r hi => by omega⟩
        rw [hy]
        rcases hQ with ⟨rfl, hf⟩ | ⟨rfl, hf⟩
        · exact .inl ⟨⟨h, hl, hall, hf⟩, rfl⟩
        · exact .inr ⟨fun h' => hf h'.2.2.2, rfl⟩
      · exact .inr ⟨fun h' => hd (perm_dis (cover h'.2.1 h'.2.2.1)), rfl⟩
    · rw [if_neg (by omega)]
      exact .inr ⟨fun h' => hl h'.2.1, rfl⟩
  · rw [e, Option.bind_some, if_neg (by simp)]
    exact .inr ⟨fun h' => h h'.1, rfl⟩
end Go.Proofs.Ytgganckggdjpaaa
