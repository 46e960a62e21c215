/- What LzAgain needs. -/
import Derived.Test.YtpophpendlnehaaYLzAgain
import Derived.Test.YtpophpendlnehaaPureLzK2
set_option linter.unusedVariables false
set_option linter.unusedSimpArgs false
namespace Go.Proofs.Ytpophpendlnehaa
open Go Go.Eng Go.Proofs
def Bd (r : Nat) : Nat := if r ≤ 2 then r else r / 258 + 2
theorem bd_step (r w : Nat) (h1 : 1 ≤ w) (h2 : w ≤ r) (h3 : 3 ≤ r → w = min r 258) : Bd (r - w) + 1 ≤ Bd r := by
  unfold Bd
  by_cases h : r ≤ 2
  · rw [if_pos h, if_pos (by omega)]; omega
  · have hw := h3 (by omega)
    rw [if_neg h]
    by_cases h' : r ≤ 258
    · rw [Nat.min_eq_left h'] at hw
      rw [if_pos (by omega)]; omega
    · rw [Nat.min_eq_right (by omega)] at hw
      split <;> omega
theorem bd_le (r : Nat) : Bd r ≤ r / 258 + 2 := by
  unfold Bd
  split <;> omega
theorem hs_all {b : List Int} (hA : AllS b) (q : Nat) (h : q + 3 ≤ b.length) : hs b (q : Int) = hs b 0 := by
  have e1 : gd b (q : Int) = gd b 0 := hA q 0 (by omega) (by omega)
  have e2 : gd b ((q : Int) + 1) = gd b (0 + 1) := hA (q + 1) 1 (by omega) (by omega)
  have e3 : gd b ((q : Int) + 2) = gd b (0 + 2) := hA (q + 2) 2 (by omega) (by omega)
  unfold hs
  rw [e1, e2, e3]
theorem few (b : List Int) (hb : b.length ≤ 3000) (hA : AllS b) (tries : Int) (ht : 1 ≤ tries ∧ tries ≤ 1000) :
    ∃ l, F18.m b tries = some l ∧ l.length ≤ b.length / 258 + 4 := by
  unfold F18.m
  rw [if_pos (by decide), if_pos (by omega)]
  unfold F18.j1
  rw [Int.toNat_natCast]
  obtain ⟨n0, hn0, hn0'⟩ := hs_in b 0
  obtain ⟨y, hy, h1⟩ := loop_ends (b := F18.b1 b tries) (fun x => ∃ q : Nat, x.2.2.2 = (q : Int) ∧ q ≤ b.length ∧ Ch b x.1 x.2.1 q ∧ Tk b 0 x.2.2.1 q ∧ (1 ≤ q → 3 ≤ b.length → 1 ≤ gd x.1 (n0 : Int)) ∧ (q = 0 → x.2.2.1.length = 0) ∧ (1 ≤ q → x.2.2.1.length + Bd (b.length - q) ≤ (b.length - 1) / 258 + 3)) (fun x => ((b.length : Int) - x.2.2.2).toNat)
    (fun l => l.length ≤ b.length / 258 + 4) (fun x hx => by
      obtain ⟨hd, ah, out, q⟩ := x
      obtain ⟨q, rfl, h1, h2, h3, h4, h5, h6⟩ := hx
      have hlen := tk_len h3
      simp only at hlen h4 h5 h6 ⊢
      by_cases hq : q < b.length
      · obtain ⟨hd', ah', t, e, c', g', m', n', z', a'⟩ := step_is h2 hb hq tries ⟨by omega, ht.2⟩ out (by omega)
        have hw := g'.wd
        rw [e]
        have hbd : 1 ≤ q → Bd (b.length - (q + wd t)) + 1 ≤ Bd (b.length - q) := fun hq1 => by
          rw [show b.length - (q + wd t) = b.length - q - wd t by omega]
          refine bd_step _ _ hw.1 (by omega) (fun h3' => ?_)
          have ha := a' hA ht.1 (by omega) (by rw [hs_all hA q (by omega), hn0]; exact h4 hq1 (by omega))
          unfold wd
          rw [if_neg (by omega), ha, Int.toNat_natCast]
        refine on_ (x := (hd, ah, out, (q : Int))) ⟨q + wd t, rfl, by omega, c', tk_snoc g' h3, fun _ h3' => ?_, fun h => by omega, fun _ => ?_⟩ (by simp only; omega)
        · by_cases hq1 : 1 ≤ q
          · exact m' n0 hn0' (h4 hq1 h3')
          · have : q = 0 := by omega
            subst this
            have := n' (by omega)
            rwa [show ((0 : Nat) : Int) = 0 from rfl, hn0] at this
        · simp only [List.length_append, List.length_singleton]
          by_cases hq1 : 1 ≤ q
          · have := hbd hq1
            have := h6 hq1
            omega
          · have h0 : q = 0 := by omega
            have := h5 h0
            have := bd_le (b.length - (q + wd t))
            have : (b.length - (q + wd t)) / 258 ≤ (b.length - 1) / 258 := Nat.div_le_div_right (by omega)
            omega
      · simp only [F18.b1]
        rw [if_neg (by omega)]
        refine out_ (x := (hd, ah, out, (q : Int))) ?_
        by_cases hq1 : 1 ≤ q
        · have := h6 hq1
          have : (b.length - 1) / 258 ≤ b.length / 258 := Nat.div_le_div_right (by omega)
          omega
        · have := h5 (by omega)
          omega) (List.replicate (Int.toNat 4096) 0, List.replicate b.length 0, [], 0) ⟨0, rfl, by omega, ch_start b _ rfl, rfl, fun h => by omega, fun _ => rfl, fun h => by omega⟩
  rw [hy]
  exact ⟨y, rfl, h1⟩
theorem pure_LzAgain (a0 : Int) (a1 : Int) (a2 : Int) (w0 : InR .u8 a0) (w1 : InR .u16 a1) (w2 : InR .i64 a2) :
    F5.m a0 a1 a2 = some true := by
  have h0 := inU16 w1
  have hi := inI64 w2
  unfold F5.m
  by_cases h1 : (3000 : Int) < a1
  · rw [if_pos h1, lz_awake]; rfl
  rw [if_neg h1]
  by_cases h2 : a2 < 1
  · rw [if_pos h2, lz_awake]; rfl
  rw [if_neg h2]
  by_cases h3 : (1000 : Int) < a2
  · rw [if_pos h3, lz_awake]; rfl
  rw [if_neg h3, if_pos (by omega)]
  obtain ⟨n, rfl⟩ := nat_of h0.1
  obtain ⟨y, hy, hl, hA⟩ := loop_ends (b := F5.b1 a0) (fun x => ∃ k : Nat, x.2 = (k : Int) ∧ k ≤ n ∧ x.1.length = n ∧ ∀ i : Nat, i < k → gd x.1 (i : Int) = a0) (fun x => ((n : Int) - x.2).toNat)
    (fun y => y.length = n ∧ ∀ i : Nat, i < n → gd y (i : Int) = a0) (fun x hx => by
      obtain ⟨l, k⟩ := x
      obtain ⟨k, rfl, h1, h2, h3⟩ := hx
      simp only at h2 h3
      simp only [F5.b1]
      by_cases hk : k < n
      · rw [if_pos (by omega), if_pos (by omega), Int.toNat_natCast, w64 (by omega) (by omega)]
        refine on_ (x := (l, (k : Int))) ⟨k + 1, by simp, by omega, by simp [h2], fun i hi => ?_⟩ (by simp only; omega)
        rw [gd_set _ _ _ _ (by omega)]
        by_cases e : k = i
        · rw [if_pos e]
        · rw [if_neg e]; exact h3 i (by omega)
      · rw [if_neg (by omega)]
        exact out_ (x := (l, (k : Int))) ⟨h2, fun i hi => h3 i (by omega)⟩) (List.replicate (Int.toNat (n : Int)) 0, 0) ⟨0, rfl, by omega, by simp, fun i hi => by omega⟩
  rw [hy, Option.bind_some]
  simp only
  unfold F5.j1
  obtain ⟨l, e, hl'⟩ := few y (by omega) (fun i k hi hk => by rw [hA i (by omega), hA k (by omega)]) a2 ⟨by omega, by omega⟩
  rw [e, Option.bind_some, show (258 : Int) = ((258 : Nat) : Int) from rfl, tdiv_nat, w64 (n := ((y.length / 258 : Nat) : Int)) (by omega) (by omega), w64 (by omega) (by omega), if_pos (by omega), lz_awake]
  rfl
end Go.Proofs.Ytpophpendlnehaa
