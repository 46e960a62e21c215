/- What LzFinds needs. -/
import Derived.Test.YtpophpendlnehaaYLzFinds
import Derived.Test.YtpophpendlnehaaPureLzK2
set_option linter.unusedVariables false
set_option linter.unusedSimpArgs false
namespace Go.Proofs.Ytpophpendlnehaa
open Go Go.Eng Go.Proofs
/-! ### Expand -/
theorem may_ok {b : List Int} (hb : b.length ≤ 3000) {q : Nat} {t : Int × Int × Int} (h : Gt b q t) : F16.m t.1 t.2.1 t.2.2 = some true := by
  unfold F16.m
  obtain ⟨h0, ⟨h1, h2, h3⟩ | ⟨hz, ⟨h1, _⟩ | ⟨n, d, h1, h2, h3, h4, h5, h6, h7, _⟩, hn⟩⟩ := h
  · rw [if_pos h1, h2]; rfl
  · exact absurd h1 hn
  · rw [if_neg hn, if_pos hz, if_pos (by omega), if_pos (by omega), if_pos (by omega), decide_eq_true (by omega)]
theorem expand_one (b : List Int) (hb : b.length ≤ 3000) (l : List (Int × Int × Int)) (i : Int) (q : Nat) (h : Gt b q (gd l i)) :
    loop (F19.b2 l (b.length : Int) i (wd (gd l i) : Int)) (b.take q, 0) = some (.inr (b.take (q + wd (gd l i)))) := by
  have hw := h.wd
  refine loop_done (fun k => (b.take (q + k), (k : Int))) (wd (gd l i)) _ (fun k hk => ?_) ?_ (by simp)
  · simp only [F19.b2]
    have hl : (b.take (q + k)).length = q + k := by rw [List.length_take]; omega
    rw [if_pos (by omega), if_neg (by rw [hl]; omega)]
    have e : b.take (q + (k + 1)) = b.take (q + k) ++ [gd b ((q + k : Nat) : Int)] := take_gd b (q + k) (by omega)
    rw [e]
    obtain ⟨h0, ⟨h1, h2, h3⟩ | ⟨hz, ⟨h1, _⟩ | ⟨n, d, h1, h2, h3, h4, h5, h6, h7, h8, h9⟩, hn⟩⟩ := h
    · rw [if_pos h1, if_pos (by simp; omega)]
      have hw1 : wd (gd l i) = 1 := by unfold wd; rw [if_pos h1]
      have : k = 0 := by omega
      subst this
      rw [h3]
      simp only [F19.j5]
      rw [w64 (by omega) (by omega)]
      rfl
    · exact absurd h1 hn
    · have hw1 : wd (gd l i) = n := by unfold wd; rw [if_neg hn, h1]; simp
      rw [if_neg hn, h2, hl, w64 (by omega) (by omega), if_pos (by omega), if_pos (by simp; omega)]
      have e2 : gd (b.take (q + k)) (((q + k : Nat) : Int) - (d : Int)) = gd b ((q + k : Nat) : Int) := by
        rw [show ((q + k : Nat) : Int) - (d : Int) = ((q - d + k : Nat) : Int) by omega, gd_take _ _ _ (by omega), h9 k (by omega)]
      rw [e2]
      simp only [F19.j5]
      rw [w64 (by omega) (by omega)]
      rfl
  · simp only [F19.b2]
    rw [if_neg (by omega)]
theorem expand_is (b : List Int) (hb : b.length ≤ 3000) (l : List (Int × Int × Int)) (hk : Tk b 0 l b.length) : F19.m l (b.length : Int) = some (b, 0) := by
  unfold F19.m
  have hll := tk_len hk
  obtain ⟨y, hy, rfl⟩ := loop_ends (b := F19.b1 l (b.length : Int)) (fun x => ∃ k p : Nat, x.2 = (k : Int) ∧ k ≤ l.length ∧ Tk b p (l.drop k) b.length ∧ x.1 = b.take p) (fun x => ((l.length : Int) - x.2).toNat)
    (fun y => y = .inr b) (fun x hx => by
      obtain ⟨o, i⟩ := x
      obtain ⟨k, p, rfl, h1, h2, h3⟩ := hx
      simp only at h3
      subst h3
      simp only [F19.b1]
      by_cases hkl : k < l.length
      · rw [drop_gd l k hkl] at h2
        obtain ⟨hg, h2⟩ := h2
        have hw := hg.wd
        rw [if_pos (by omega), if_pos (by omega), may_ok hb hg, Option.bind_some]
        have key : F19.j3 l (b.length : Int) (b.take p) (k : Int) (wd (gd l (k : Int)) : Int) = some (.inl (b.take (p + wd (gd l (k : Int))), ((k + 1 : Nat) : Int))) := by
          unfold F19.j3
          rw [expand_one b hb l k p hg, Option.bind_some]
          simp only [F19.j4, F19.j2]
          rw [w64 (by omega) (by omega)]
          rfl
        have hd : ¬ (((b.take p).length : Nat) : Int) < (gd l (k : Int)).2.2 := by
          rw [List.length_take]
          obtain ⟨h0, ⟨h1, h2, h3⟩ | ⟨hz, ⟨h1, _⟩ | ⟨n, d, h1, h2, h3, h4, h5, h6, h7, h8, h9⟩, hn⟩⟩ := hg <;> omega
        rw [if_pos rfl, if_neg hd]
        have go : ∀ v, v = (wd (gd l (k : Int)) : Int) → ∃ s, F19.j3 l (b.length : Int) (b.take p) (k : Int) v = some s ∧ (∀ x', s = .inl x' → (∃ k p : Nat, x'.2 = (k : Int) ∧ k ≤ l.length ∧ Tk b p (l.drop k) b.length ∧ x'.1 = b.take p) ∧ ((l.length : Int) - x'.2).toNat < ((l.length : Int) - (k : Int)).toNat) ∧ (∀ y, s = .inr y → y = .inr b) := by
          intro v hv
          rw [hv, key]
          exact on_ (I := fun x' : List Int × Int => ∃ k p : Nat, x'.2 = (k : Int) ∧ k ≤ l.length ∧ Tk b p (l.drop k) b.length ∧ x'.1 = b.take p) (m := fun x' => ((l.length : Int) - x'.2).toNat) (x := (b.take p, (k : Int))) ⟨k + 1, p + wd (gd l (k : Int)), rfl, by omega, h2, rfl⟩ (by simp only; omega)
        by_cases h0 : (gd l (k : Int)).2.1 = 0
        · rw [if_pos h0]
          exact go 1 (by unfold wd; rw [if_pos h0]; rfl)
        · rw [if_neg h0]
          refine go _ ?_
          unfold wd
          rw [if_neg h0]
          obtain ⟨_, ⟨h1, _⟩ | ⟨_, ⟨h1, _⟩ | ⟨n, d, h1, _⟩, _⟩⟩ := hg
          · exact absurd h1 h0
          · exact absurd h1 h0
          · omega
      · rw [if_neg (by omega)]
        have : k = l.length := by omega
        subst this
        rw [List.drop_length] at h2
        have h2 : p = b.length := h2
        subst h2
        rw [List.take_length]
        exact out_ (x := (b, (l.length : Int))) rfl) ([], 0) ⟨0, 0, rfl, by omega, hk, by simp⟩
  rw [hy]
  rfl
theorem pure_LzFinds (a0 : (List Int)) (a1 : Int) (w0 : ∀ x ∈ a0, InR .u8 x) (m0 : a0.length ≤ maxLen) (w1 : InR .i64 a1) :
    F4.m a0 a1 = some true := by
  unfold F4.m
  by_cases h1 : (3000 : Int) < (a0.length : Int)
  · rw [if_pos h1, lz_awake]; rfl
  rw [if_neg h1]
  by_cases h2 : (1000 : Int) < a1
  · rw [if_pos h2, lz_awake]; rfl
  rw [if_neg h2]
  have hb : a0.length ≤ 3000 := by omega
  have hi := inI64 w1
  obtain ⟨l, e, hk, hz⟩ := find_is a0 hb a1 ⟨by omega, by omega⟩
  rw [e, Option.bind_some]
  have hlen := tk_len hk
  rw [if_neg (by omega)]
  have hj : F4.j1 a0 l = some true := by
    unfold F4.j1
    rw [expand_is a0 hb l hk, Option.bind_some, if_pos rfl, if_pos rfl, lz_awake]; rfl
  have hmay : ∀ k : Nat, k < l.length → F16.m (gd l (k : Int)).1 (gd l (k : Int)).2.1 (gd l (k : Int)).2.2 = some true := fun k hk' => by
    obtain ⟨q, hq⟩ := tk_mem hk _ (gd_mem l k hk')
    exact may_ok hb hq
  by_cases h3 : a1 < 1
  · have := tk_zero (hz h3) hk
    rw [if_pos h3, if_pos (by omega)]
    rw [loop_done (x := (0 : Int)) (fun k => (k : Int)) l.length (.inr ()) (fun k hk' => ?_) ?_ rfl]
    · exact hj
    · simp only [F4.b1]
      rw [if_neg (by omega)]
    · simp only [F4.b1]
      rw [if_pos (by omega), if_pos (by omega), hmay k hk', Option.bind_some, if_pos rfl, if_pos h3, if_pos (hz h3 _ (gd_mem l k hk'))]
      simp only [F4.j2]
      rw [w64 (by omega) (by omega)]; rfl
  · rw [if_neg h3]
    rw [loop_done (x := (0 : Int)) (fun k => (k : Int)) l.length (.inr ()) (fun k hk' => ?_) ?_ rfl]
    · exact hj
    · simp only [F4.b2]
      rw [if_neg (by omega)]
    · simp only [F4.b2]
      rw [if_pos (by omega), if_pos (by omega), hmay k hk', Option.bind_some, if_pos rfl, if_neg h3]
      simp only [F4.j4]
      rw [w64 (by omega) (by omega)]; rfl
end Go.Proofs.Ytpophpendlnehaa
