/- What MatL needs. -/
import Derived.Test.YtedokgdilpfomaaPureMatF
set_option linter.unusedVariables false
set_option linter.unusedSimpArgs false
namespace Go.Proofs.Ytedokgdilpfomaa
open Go Go.Eng Go.Proofs
/-! ### The document's May, Same -/
theorem one56 {old new : List Int} {a N O L : Nat} {t : Pce} (g : Gp old new a t N O L) (ho : old.length ≤ 5000) (hn : new.length ≤ 5000) : F56.m t.1 t.2.1 t.2.2 (old.length : Int) (new.length : Int) = some true := by
  have h1 := g.l1
  have h2 := g.nl
  have h3 := g.ol
  unfold F56.m
  rw [g.n, g.o, g.l, if_neg (by omega), if_neg (by omega), if_neg (by omega), if_neg (by omega), if_neg (by omega), w64 (n := (new.length : Int) - (N : Int)) (by omega) (by omega), if_pos (by omega), w64 (n := (old.length : Int) - (O : Int)) (by omega) (by omega), decide_eq_true (by omega)]
theorem pk_at {old new : List Int} {e : Nat} : ∀ {l : List Pce} {a : Nat}, Pk old new a l e → ∀ k : Nat, k < l.length → ∃ a' N O L, Gp old new a' (gd l (k : Int)) N O L ∧ a ≤ a' ∧ (∀ j : Nat, k = j + 1 → ∃ N' O' L', Gp old new 0 (gd l (j : Int)) N' O' L' ∧ a' = N' + L')
  | [], a, _, k, hk => by simp at hk
  | t :: l, a, ⟨N, O, L, h1, h2⟩, k, hk => by
    have hg : ∀ j : Nat, gd (t :: l) ((j + 1 : Nat) : Int) = gd l (j : Int) := fun j => by unfold gd; rw [Int.toNat_natCast, Int.toNat_natCast]; rfl
    cases k with
    | zero => exact ⟨a, N, O, L, h1, Nat.le_refl _, fun j hj => by omega⟩
    | succ k =>
      obtain ⟨a', N', O', L', g', ha', hp⟩ := pk_at h2 k (by simpa using hk)
      rw [hg]
      cases k with
      | zero =>
        cases l with
        | nil => simp at hk
        | cons u l =>
          obtain ⟨N2, O2, L2, g2, _⟩ := h2
          refine ⟨N + L, N2, O2, L2, g2, by have := h1.a; have := h1.l1; omega, fun j hj => ⟨N, O, L, ?_, rfl⟩⟩
          have : j = 0 := by omega
          subst this
          exact ⟨h1.n, h1.o, h1.l, by omega, h1.l1, h1.nl, h1.ol, h1.half⟩
      | succ k =>
        refine ⟨a', N', O', L', g', by have := h1.a; have := h1.l1; omega, fun j hj => ?_⟩
        obtain ⟨N3, O3, L3, g3, e3⟩ := hp k rfl
        have : j = k + 1 := by omega
        subst this
        exact ⟨N3, O3, L3, by rw [hg]; exact g3, e3⟩
theorem may29 {old new : List Int} {l : List Pce} (ho : old.length ≤ 5000) (hn : new.length ≤ 5000) (hk : Pk old new 0 l new.length) : F29.m l (old.length : Int) (new.length : Int) = some true := by
  have hll := pk_le hk
  unfold F29.m
  rw [loop_done (x := (0 : Int)) (fun k => (k : Int)) l.length (.inr ()) (fun k hk' => ?_) ?_ rfl]
  · rfl
  · simp only [F29.b1]
    rw [if_neg (by omega)]
  · obtain ⟨a', N, O, L, g, _, hp⟩ := pk_at hk k hk'
    simp only [F29.b1]
    rw [if_pos (by omega), if_pos (by omega), one56 g ho hn, Option.bind_some, if_pos rfl]
    have fin : F29.j2 (k : Int) = some (.inl ((k + 1 : Nat) : Int)) := by
      simp only [F29.j2]
      rw [w64 (by omega) (by omega)]; rfl
    by_cases h0 : (0 : Int) < (k : Int)
    · obtain ⟨j, rfl⟩ : ∃ j, k = j + 1 := ⟨k - 1, by omega⟩
      obtain ⟨N', O', L', g', e'⟩ := hp j rfl
      have h1 := g.a
      have h2 := g.nl
      have h3 := g'.nl
      rw [if_pos h0, show ((j + 1 : Nat) : Int) - 1 = (j : Int) by omega, w64 (n := (j : Int)) (by omega) (by omega), if_pos (by omega), g.n, g'.n, g'.l, w64 (n := (N : Int) - (N' : Int)) (by omega) (by omega), if_neg (by omega)]
      exact fin
    · rw [if_neg h0]; exact fin
theorem same30 {old new : List Int} {a N O L : Nat} {t : Pce} (g : Gp old new a t N O L) (ho : old.length ≤ 5000) (hn : new.length ≤ 5000) : F30.m old new t.1 t.2.1 t.2.2 = some ((cnt (so old new N O) L : Nat) : Int) := by
  have h1 := g.l1
  have h2 := g.nl
  have h3 := g.ol
  unfold F30.m
  rw [one56 g ho hn, Option.bind_some, if_pos rfl, g.n, g.o, g.l]
  rw [loop_done (x := ((0 : Int), (0 : Int))) (fun k => ((cnt (so old new N O) k : Int), (k : Int))) L ((cnt (so old new N O) L : Nat) : Int) (fun k hk' => ?_) ?_ rfl]
  · rfl
  · simp only [F30.b1]
    rw [if_neg (by omega)]
  · have := cnt_le (so old new N O) k
    simp only [F30.b1]
    rw [if_pos (by omega), w64 (n := (O : Int) + (k : Int)) (by omega) (by omega), if_pos (by omega), w64 (n := (N : Int) + (k : Int)) (by omega) (by omega), if_pos (by omega), show (O : Int) + (k : Int) = ((O + k : Nat) : Int) by omega, show (N : Int) + (k : Int) = ((N + k : Nat) : Int) by omega]
    simp only [cnt]
    by_cases e : gd old ((O + k : Nat) : Int) = gd new ((N + k : Nat) : Int)
    · rw [if_pos e, if_pos (by unfold so; exact decide_eq_true e.symm)]
      simp only [F30.j2]
      rw [w64 (by omega) (by omega), w64 (by omega) (by omega)]; rfl
    · rw [if_neg e, if_neg (by simp only [so]; rw [decide_eq_true_iff]; exact fun h => e h.symm)]
      simp only [F30.j2]
      rw [w64 (by omega) (by omega)]; rfl
end Go.Proofs.Ytedokgdilpfomaa
