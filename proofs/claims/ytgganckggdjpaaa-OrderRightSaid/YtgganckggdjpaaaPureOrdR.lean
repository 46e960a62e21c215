/- What OrdR needs. -/
import Derived.Test.YtgganckggdjpaaaPureOrdK
set_option linter.unusedVariables false
set_option linter.unusedSimpArgs false
namespace Go.Proofs.Ytgganckggdjpaaa
open Go Go.Eng Go.Proofs
/-! ### Right orders -/
theorem cont46 (l : List Int) (x : Int) (hl : l.length ≤ 100000) : F46.m l x = some (decide (x ∈ l)) := by
  unfold F46.m F67.m
  obtain ⟨y, hy, hQ⟩ := loop_ends (b := F67.b1 l x) (fun s => ∃ k : Nat, s = (k : Int) ∧ k ≤ l.length ∧ ∀ i : Nat, i < k → gd l (i : Int) ≠ x) (fun s => ((l.length : Int) - s).toNat)
    (fun y => (∃ k : Nat, y = .inl (k : Int) ∧ x ∈ l) ∨ (y = .inr () ∧ x ∉ l)) (fun s hs => by
      obtain ⟨k, rfl, hk, ha⟩ := hs
      simp only [F67.b1]
      by_cases h : k < l.length
      · rw [if_pos (by omega), if_pos (by omega)]
        by_cases e : x = gd l (k : Int)
        · rw [if_pos e]; exact out_ (x := (k : Int)) (.inl ⟨k, rfl, mem_gd.2 ⟨k, h, e.symm⟩⟩)
        · rw [if_neg e, w64 (by omega) (by omega)]
          exact on_ (x := (k : Int)) ⟨k + 1, rfl, by omega, fun i hi => by
            by_cases e' : i = k
            · subst e'; exact fun h => e h.symm
            · exact ha i (by omega)⟩ (by omega)
      · rw [if_neg (by omega)]
        refine out_ (x := (k : Int)) (.inr ⟨rfl, fun hm => ?_⟩)
        obtain ⟨i, hi, e⟩ := mem_gd.1 hm
        exact ha i (by omega) e) 0 ⟨0, rfl, by omega, fun i hi => by omega⟩
  rw [hy]
  rcases hQ with ⟨k, rfl, h⟩ | ⟨rfl, h⟩
  · rw [decide_eq_true h]
    simp
  · rw [decide_eq_false h]
    simp [F67.j1]
theorem same17 (l : List Int) (hl : l.length ≤ 1000000) : F17.m l l = some true := by
  unfold F17.m
  rw [if_pos rfl]
  rw [loop_done (b := F17.b1 l l) (x := (0 : Int)) (fun k => (k : Int)) l.length (.inr ()) (fun k hk => ?_) ?_ rfl]
  · rfl
  · simp only [F17.b1]
    rw [if_neg (by omega)]
  · simp only [F17.b1]
    rw [if_pos (by omega), if_pos (by omega), if_pos (by omega), if_pos trivial, w64 (by omega) (by omega)]
    rfl
theorem perm_of : ∀ (l o : List Int), l.Nodup → (∀ a ∈ l, a ∈ o) → l.length ≤ o.length ∧ (o.length = l.length → o.Perm l)
  | [], o, _, _ => ⟨by simp, fun h => by
      have : o = [] := List.length_eq_zero_iff.1 (by simpa using h)
      rw [this]⟩
  | a :: l, o, hn, hs => by
    have hp := List.perm_cons_erase (hs a (by simp))
    obtain ⟨hn1, hn2⟩ := List.nodup_cons.1 hn
    obtain ⟨h1, h2⟩ := perm_of l (o.erase a) hn2 (fun b hb => (List.mem_erase_of_ne (fun e => by subst e; exact hn1 hb)).2 (hs b (by simp [hb])))
    have hl : (o.erase a).length + 1 = o.length := by have := hp.length_eq; simpa using this.symm
    exact ⟨by simp; omega, fun h => hp.trans ((h2 (by simp at h; omega)).cons a)⟩
def rng (n : Nat) : List Int := (List.range n).map (fun (k : Nat) => (k : Int))
theorem rng_len (n : Nat) : (rng n).length = n := by simp [rng]
theorem rng_mem (n : Nat) (a : Int) : a ∈ rng n ↔ ∃ k : Nat, k < n ∧ a = (k : Int) := by
  simp only [rng, List.mem_map, List.mem_range]
  exact ⟨fun ⟨k, h, e⟩ => ⟨k, h, e.symm⟩, fun ⟨k, h, e⟩ => ⟨k, h, e.symm⟩⟩
theorem rng_nodup (n : Nat) : (rng n).Nodup := by
  unfold rng
  refine List.Pairwise.map _ (fun a b h => ?_) List.nodup_range
  intro e; exact h (by omega)
theorem nodup_gd {l : List Int} : l.Nodup ↔ ∀ p q : Nat, p < q → q < l.length → gd l (p : Int) ≠ gd l (q : Int) := by
  unfold List.Nodup
  rw [List.pairwise_iff_getElem]
  constructor
  · intro h p q hpq hq
    rw [gd_at _ _ (by omega), gd_at _ _ hq]
    exact h p q (by omega) hq hpq
  · intro h p q hp hq hpq
    have := h p q hpq hq
    rwa [gd_at _ _ (by omega), gd_at _ _ hq] at this
def Fits (x : List (List Int)) (o b : List Int) : Prop := ∀ p q : Nat, p < q → q < o.length → gd o (p : Int) ∈ gd x (gd o (q : Int)) → gd o (q : Int) ∈ b
def RR (x : List (List Int)) (o b : List Int) : Prop := Rgt x ∧ o.length = x.length ∧ (∀ k : Nat, k < x.length → (k : Int) ∈ o) ∧ Fits x o b
theorem cover {n : Nat} {o : List Int} (hl : o.length = n) (h : ∀ k : Nat, k < n → (k : Int) ∈ o) : o.Perm (rng n) :=
  (perm_of (rng n) o (rng_nodup n) (fun a ha => by obtain ⟨k, hk, rfl⟩ := (rng_mem n a).1 ha; exact h k hk)).2 (by rw [rng_len, hl])
theorem perm_in {n : Nat} {o : List Int} (h : o.Perm (rng n)) (p : Nat) (hp : p < o.length) : ∃ e : Nat, e < n ∧ gd o (p : Int) = (e : Int) := (rng_mem n _).1 (h.mem_iff.1 (gd_mem o p hp))
theorem right14 (x : List (List Int)) (o b : List Int) (hx : x.length ≤ 40) (hr : ∀ l ∈ x, l.length ≤ 60) (ho : o.length ≤ 1000) (hb : b.length ≤ 1000) :
    (RR x o b ∧ F14.m x o b = some true) ∨ (¬ RR x o b ∧ F14.m x o b = some false) := by
  unfold F14.m
  rcases right15 x hx hr with ⟨h, e⟩ | ⟨h, e⟩
  · rw [e, Option.bind_some, if_pos rfl]
    by_cases hl : o.length = x.length
    · rw [if_pos (by omega)]
      obtain ⟨y, hy, hQ⟩ := loop_ends (b := F14.b3 x o) (fun s => ∃ k : Nat, s = (k : Int) ∧ k ≤ x.length ∧ ∀ i : Nat, i < k → (i : Int) ∈ o) (fun s => ((x.length : Int) - s).toNat)
        (fun y => (y = .inr () ∧ ∀ i : Nat, i < x.length → (i : Int) ∈ o) ∨ (y = .inl false ∧ ¬ ∀ i : Nat, i < x.length → (i : Int) ∈ o)) (fun s hs => by
          obtain ⟨k, rfl, hk, ha⟩ := hs
          simp only [F14.b3]
          by_cases h : k < x.length
          · rw [if_pos (by omega), has44 _ _ (by omega), Option.bind_some]
            by_cases hm : (k : Int) ∈ o
            · rw [if_pos (by simpa using hm), w64 (by omega) (by omega)]
              exact on_ (x := (k : Int)) ⟨k + 1, rfl, by omega, fun i hi => by
                by_cases e' : i = k
                · subst e'; exact hm
                · exact ha i (by omega)⟩ (by omega)
            · rw [if_neg (by simpa using hm)]
              exact out_ (x := (k : Int)) (.inr ⟨rfl, fun h' => hm (h' k h)⟩)
          · rw [if_neg (by omega)]
            exact out_ (x := (k : Int)) (.inl ⟨rfl, fun i hi => ha i (by omega)⟩)) 0 ⟨0, rfl, by omega, fun i hi => by omega⟩
      rw [hy]
      rcases hQ with ⟨rfl, hc⟩ | ⟨rfl, hc⟩
      · have hp := cover hl hc
        rw [Option.bind_some]
        simp only [F14.j1]
        have inner : ∀ p : Nat, p < o.length → ((∀ q : Nat, p < q → q < o.length → gd o (p : Int) ∈ gd x (gd o (q : Int)) → gd o (q : Int) ∈ b) ∧ loop (F14.b2 x o b (p : Int)) 0 = some (.inr ())) ∨ ((¬ ∀ q : Nat, p < q → q < o.length → gd o (p : Int) ∈ gd x (gd o (q : Int)) → gd o (q : Int) ∈ b) ∧ loop (F14.b2 x o b (p : Int)) 0 = some (.inl false)) := by
          intro p hpl
          obtain ⟨y, hy, hQ⟩ := loop_ends (b := F14.b2 x o b (p : Int)) (fun s => ∃ k : Nat, s = (k : Int) ∧ k ≤ o.length ∧ ∀ q : Nat, p < q → q < k → gd o (p : Int) ∈ gd x (gd o (q : Int)) → gd o (q : Int) ∈ b) (fun s => ((o.length : Int) - s).toNat)
            (fun y => (y = .inr () ∧ ∀ q : Nat, p < q → q < o.length → gd o (p : Int) ∈ gd x (gd o (q : Int)) → gd o (q : Int) ∈ b) ∨ (y = .inl false ∧ ¬ ∀ q : Nat, p < q → q < o.length → gd o (p : Int) ∈ gd x (gd o (q : Int)) → gd o (q : Int) ∈ b)) (fun s hs => by
              obtain ⟨k, rfl, hk, ha⟩ := hs
              simp only [F14.b2]
              by_cases h : k < o.length
              · have on : (p < k → gd o (p : Int) ∈ gd x (gd o (k : Int)) → gd o (k : Int) ∈ b) → ∃ s, F14.j5 (k : Int) = some s ∧ (∀ x', s = .inl x' → (∃ k : Nat, x' = (k : Int) ∧ k ≤ o.length ∧ ∀ q : Nat, p < q → q < k → gd o (p : Int) ∈ gd x (gd o (q : Int)) → gd o (q : Int) ∈ b) ∧ ((o.length : Int) - x').toNat < ((o.length : Int) - (k : Int)).toNat) ∧ (∀ y, s = .inr y → (y = .inr () ∧ ∀ q : Nat, p < q → q < o.length → gd o (p : Int) ∈ gd x (gd o (q : Int)) → gd o (q : Int) ∈ b) ∨ (y = .inl false ∧ ¬ ∀ q : Nat, p < q → q < o.length → gd o (p : Int) ∈ gd x (gd o (q : Int)) → gd o (q : Int) ∈ b)) := fun hc => by
                  simp only [F14.j5]
                  rw [w64 (by omega) (by omega)]
                  exact on_ (I := fun s : Int => ∃ k : Nat, s = (k : Int) ∧ k ≤ o.length ∧ ∀ q : Nat, p < q → q < k → gd o (p : Int) ∈ gd x (gd o (q : Int)) → gd o (q : Int) ∈ b) (m := fun s => ((o.length : Int) - s).toNat) (x := (k : Int)) ⟨k + 1, rfl, by omega, fun q hpq hq => by
                    by_cases e : q = k
                    · subst e; exact hc hpq
                    · exact ha q hpq (by omega)⟩ (by omega)
                rw [if_pos (by omega)]
                by_cases c1 : p < k
                · obtain ⟨e, he, heq⟩ := perm_in hp k h
                  rw [if_pos (by omega), if_pos (by omega), if_pos (by omega), if_pos (by omega), has44 _ _ (by rw [heq]; have := hr _ (gd_mem x e he); omega), Option.bind_some]
                  by_cases c2 : gd o (p : Int) ∈ gd x (gd o (k : Int))
                  · rw [if_pos (by simpa using c2), has44 _ _ (by omega), Option.bind_some]
                    by_cases c3 : gd o (k : Int) ∈ b
                    · rw [if_pos (by simpa using c3)]; exact on (fun _ _ => c3)
                    · rw [if_neg (by simpa using c3)]
                      exact out_ (x := (k : Int)) (.inr ⟨rfl, fun h' => c3 (h' k c1 h c2)⟩)
                  · rw [if_neg (by simpa using c2)]; exact on (fun _ h => absurd h c2)
                · rw [if_neg (by omega)]; exact on (fun h => absurd h c1)
              · rw [if_neg (by omega)]
                exact out_ (x := (k : Int)) (.inl ⟨rfl, fun q hpq hq => ha q hpq (by omega)⟩)) 0 ⟨0, rfl, by omega, fun q _ hq => by omega⟩
          rcases hQ with ⟨rfl, h⟩ | ⟨rfl, h⟩
          · exact .inl ⟨h, hy⟩
          · exact .inr ⟨h, hy⟩
        obtain ⟨y, hy, hQ⟩ := loop_ends (b := F14.b1 x o b) (fun s => ∃ k : Nat, s = (k : Int) ∧ k ≤ o.length ∧ ∀ p q : Nat, p < k → p < q → q < o.length → gd o (p : Int) ∈ gd x (gd o (q : Int)) → gd o (q : Int) ∈ b) (fun s => ((o.length : Int) - s).toNat)
          (fun y => (y = .inr () ∧ Fits x o b) ∨ (y = .inl false ∧ ¬ Fits x o b)) (fun s hs => by
            obtain ⟨k, rfl, hk, ha⟩ := hs
            simp only [F14.b1]
            by_cases h : k < o.length
            · rw [if_pos (by omega)]
              rcases inner k h with ⟨h1, h2⟩ | ⟨h1, h2⟩
              · rw [h2, Option.bind_some]
                simp only [F14.j4, F14.j3]
                rw [w64 (by omega) (by omega)]
                exact on_ (x := (k : Int)) ⟨k + 1, rfl, by omega, fun p q hp hpq hq => by
                  by_cases e : p = k
                  · subst e; exact h1 q hpq hq
                  · exact ha p q (by omega) hpq hq⟩ (by omega)
              · rw [h2, Option.bind_some]
                exact out_ (x := (k : Int)) (.inr ⟨rfl, fun h' => h1 (fun q hpq hq => h' k q hpq hq)⟩)
            · rw [if_neg (by omega)]
              exact out_ (x := (k : Int)) (.inl ⟨rfl, fun p q hpq hq => ha p q (by omega) hpq hq⟩)) 0 ⟨0, rfl, by omega, fun p q hp => by omega⟩
        rw [hy]
        rcases hQ with ⟨rfl, hf⟩ | ⟨rfl, hf⟩
        · exact .inl ⟨⟨h, hl, hc, hf⟩, rfl⟩
        · exact .inr ⟨fun h' => hf h'.2.2.2, rfl⟩
      · exact .inr ⟨fun h' => hc h'.2.2.1, rfl⟩
    · rw [if_neg (by omega)]
      exact .inr ⟨fun h' => hl h'.2.1, rfl⟩
  · rw [e, Option.bind_some, if_neg (by simp)]
    exact .inr ⟨fun h' => h h'.1, rfl⟩
end Go.Proofs.Ytgganckggdjpaaa
