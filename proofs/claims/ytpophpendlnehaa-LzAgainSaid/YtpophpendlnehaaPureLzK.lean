/- What LzK needs. -/
import Derived.Test.YtpophpendlnehaaLzf
import Derived.Test.YtpophpendlnehaaEngLp
set_option linter.unusedVariables false
set_option linter.unusedSimpArgs false
namespace Go.Proofs.Ytpophpendlnehaa
open Go Go.Eng Go.Proofs
/-! ### The hash of a place, the chains -/
def hs (b : List Int) (q : Int) : Int := IntKind.wrap .i64 (shrI .u32 (IntKind.wrap .u32 ((orI .u32 (orI .u32 (IntKind.wrap .u32 (gd b q)) (shlI .u32 (IntKind.wrap .u32 (gd b (q + 1))) 8)) (shlI .u32 (IntKind.wrap .u32 (gd b (q + 2))) 16)) * 2654435761)) 20)
theorem hs_in (b : List Int) (q : Int) : ∃ n : Nat, hs b q = (n : Int) ∧ n < 4096 := by
  unfold hs
  generalize ((orI .u32 (orI .u32 (IntKind.wrap .u32 (gd b q)) (shlI .u32 (IntKind.wrap .u32 (gd b (q + 1))) 8)) (shlI .u32 (IntKind.wrap .u32 (gd b (q + 2))) 16)) * 2654435761) = X
  obtain ⟨m, hm⟩ := nat_of (wrapU32_in X).1
  have h2 := (wrapU32_in X).2
  rw [hm] at h2 ⊢
  rw [show (20 : Int) = ((20 : Nat) : Int) from rfl, shr_nat .u32 m 20 (by decide)]
  have : m >>> 20 < 4096 := by rw [Nat.shiftRight_eq_div_pow]; omega
  exact ⟨m >>> 20, w64 (by omega) (by omega), this⟩
theorem hash_is (b x5 x7 : List Int) (q : Nat) (hb : b.length ≤ 3000) (h : q + 3 ≤ b.length) : F69.m b x5 x7 q = some (hs b q) := by
  unfold F69.m
  rw [w64 (n := (q : Int) + 1) (by omega) (by omega), w64 (n := (q : Int) + 2) (by omega) (by omega), if_pos (by omega), if_pos (by omega), if_pos (by omega)]
  rfl
structure Ch (b hd ah : List Int) (p : Nat) : Prop where
  hl : hd.length = 4096
  al : ah.length = b.length
  h : ∀ k : Nat, k < 4096 → 0 ≤ gd hd k ∧ gd hd k ≤ p
  a : ∀ k : Nat, k < b.length → 0 ≤ gd ah k ∧ gd ah k ≤ k
theorem Ch.mono {b hd ah : List Int} {p p' : Nat} (c : Ch b hd ah p) (h : p ≤ p') : Ch b hd ah p' := ⟨c.hl, c.al, fun k hk => ⟨(c.h k hk).1, by have := (c.h k hk).2; omega⟩, c.a⟩
theorem ch_start (b : List Int) (n : Nat) (hn : n = 4096) : Ch b (List.replicate n 0) (List.replicate b.length 0) 0 :=
  ⟨by rw [List.length_replicate, hn], by rw [List.length_replicate], fun k hk => by rw [gd_rep _ _ _ (by omega)]; omega, fun k hk => by rw [gd_rep _ _ _ hk]; omega⟩
/-- A place is noted. -/
theorem note_is {b hd ah : List Int} {p q : Nat} (c : Ch b hd ah p) (hb : b.length ≤ 3000) (hp : p ≤ q) (hq : q < b.length) :
    ∃ hd' ah', F57.m b hd ah q = some (hd', ah') ∧ Ch b hd' ah' (q + 1) ∧ (∀ k : Nat, k < 4096 → 1 ≤ gd hd k → 1 ≤ gd hd' k) ∧ (q + 3 ≤ b.length → 1 ≤ gd hd' (hs b q)) := by
  unfold F57.m
  rw [w64 (n := (q : Int) + 3) (by omega) (by omega)]
  by_cases h : (b.length : Int) < (q : Int) + 3
  · rw [if_pos h]
    exact ⟨hd, ah, rfl, c.mono (by omega), fun k _ h => h, fun h' => by omega⟩
  · have he := hash_is b hd ah q hb (by omega)
    obtain ⟨n, hn, hn'⟩ := hs_in b q
    rw [hn] at he ⊢
    rw [if_neg h, he, Option.bind_some]
    rw [if_pos (by rw [c.hl]; omega), if_pos (by rw [c.al]; omega), w64 (n := (q : Int) + 1) (by omega) (by omega), Int.toNat_natCast, Int.toNat_natCast]
    refine ⟨_, _, rfl, ⟨by simp [c.hl], by simp [c.al], fun k hk => ?_, fun k hk => ?_⟩, fun k hk h1 => ?_, fun _ => ?_⟩
    · rw [gd_set _ _ _ _ (by rw [c.hl]; exact hn')]
      have := c.h k hk
      split <;> omega
    · rw [gd_set _ _ _ _ (by rw [c.al]; exact hq)]
      have h1 := c.h n hn'
      have h2 := c.a k hk
      split <;> omega
    · rw [gd_set _ _ _ _ (by rw [c.hl]; exact hn')]
      split <;> omega
    · rw [gd_set _ _ _ _ (by rw [c.hl]; exact hn'), if_pos rfl]; omega
/-- How many bytes are the same. -/
theorem same_is (b x5 x7 : List Int) (f q : Nat) (hb : b.length ≤ 3000) (hf : f < q) (hq : q ≤ b.length) :
    ∃ n : Nat, F70.m b x5 x7 f q = some (n : Int) ∧ n ≤ min (b.length - q) 258 ∧ (∀ i : Nat, i < n → gd b ((f + i : Nat) : Int) = gd b ((q + i : Nat) : Int)) ∧
      ((∀ i : Nat, i < min (b.length - q) 258 → gd b ((f + i : Nat) : Int) = gd b ((q + i : Nat) : Int)) → n = min (b.length - q) 258) := by
  unfold F70.m
  have hM : minI (IntKind.wrap .i64 ((b.length : Int) - (q : Int))) 258 = ((min (b.length - q) 258 : Nat) : Int) := by
    rw [w64 (by omega) (by omega), show (b.length : Int) - (q : Int) = ((b.length - q : Nat) : Int) by omega, show (258 : Int) = ((258 : Nat) : Int) from rfl, minN]
  have hMle : min (b.length - q) 258 ≤ b.length - q := Nat.min_le_left _ _
  generalize min (b.length - q) 258 = M at hM hMle ⊢
  obtain ⟨y, hy, n, rfl, h1, h2, h3⟩ := loop_ends (b := F70.b1 b f q) (fun d => ∃ n : Nat, d = (n : Int) ∧ n ≤ M ∧ ∀ i : Nat, i < n → gd b ((f + i : Nat) : Int) = gd b ((q + i : Nat) : Int)) (fun d => ((M : Int) - d).toNat)
    (fun d => ∃ n : Nat, d = (n : Int) ∧ n ≤ M ∧ (∀ i : Nat, i < n → gd b ((f + i : Nat) : Int) = gd b ((q + i : Nat) : Int)) ∧ (n = M ∨ ¬ gd b ((f + n : Nat) : Int) = gd b ((q + n : Nat) : Int))) (fun d hd => by
      obtain ⟨n, rfl, hn, he⟩ := hd
      simp only [F70.b1]
      rw [hM]
      by_cases hnM : n < M
      · rw [if_pos (by omega), w64 (n := (f : Int) + n) (by omega) (by omega), w64 (n := (q : Int) + n) (by omega) (by omega), if_pos (by omega), if_pos (by omega)]
        by_cases hg : gd b ((f : Int) + n) = gd b ((q : Int) + n)
        · rw [if_pos hg, w64 (n := (n : Int) + 1) (by omega) (by omega)]
          refine on_ ⟨n + 1, by omega, by omega, fun i hi => ?_⟩ (by omega)
          by_cases e : i = n
          · subst e; exact hg
          · exact he i (by omega)
        · rw [if_neg hg]
          exact out_ ⟨n, rfl, hn, he, .inr hg⟩
      · rw [if_neg (by omega)]
        exact out_ ⟨n, rfl, hn, he, .inl (by omega)⟩) 0 ⟨0, rfl, by omega, fun i hi => by omega⟩
  rw [hy]
  refine ⟨n, rfl, h1, h2, fun hall => ?_⟩
  rcases h3 with h3 | h3
  · exact h3
  · by_cases e : n < M
    · exact absurd (hall n e) h3
    · omega
/-- What stands at a place as a length and a distance. -/
def Okt (b : List Int) (q : Nat) (len dist : Int) : Prop := (len = 0 ∧ dist = 0) ∨ ∃ n d : Nat, len = n ∧ dist = d ∧ 3 ≤ n ∧ n ≤ 258 ∧ q + n ≤ b.length ∧ 1 ≤ d ∧ d ≤ 32768 ∧ d ≤ q ∧ ∀ i : Nat, i < n → gd b ((q - d + i : Nat) : Int) = gd b ((q + i : Nat) : Int)
def AllS (b : List Int) : Prop := ∀ i k : Nat, i < b.length → k < b.length → gd b (i : Int) = gd b (k : Int)
theorem longest_is {b hd ah : List Int} {p q : Nat} (c : Ch b hd ah p) (hb : b.length ≤ 3000) (hp : p ≤ q) (hq : q ≤ b.length) (tries : Int) (ht : -9223372036854775808 ≤ tries ∧ tries ≤ 1000) :
    ∃ len dist, F56.m b hd ah q tries = some (len, dist) ∧ Okt b q len dist ∧ (tries < 1 → len = 0) ∧ (AllS b → 1 ≤ tries → q + 3 ≤ b.length → 1 ≤ gd hd (hs b q) → len = ((min (b.length - q) 258 : Nat) : Int)) := by
  unfold F56.m
  rw [w64 (n := (q : Int) + 3) (by omega) (by omega)]
  by_cases h : (b.length : Int) < (q : Int) + 3
  · rw [if_pos h]
    exact ⟨0, 0, rfl, .inl ⟨rfl, rfl⟩, fun _ => rfl, fun _ _ h' => by omega⟩
  · have he := hash_is b hd ah q hb (by omega)
    obtain ⟨n, hn, hn'⟩ := hs_in b q
    rw [hn] at he ⊢
    rw [if_neg h, he, Option.bind_some]
    have hh := c.h n hn'
    rw [if_pos (by rw [c.hl]; omega), w64 (n := gd hd (n : Int) - 1) (by omega) (by omega)]
    obtain ⟨y, hy, hQ⟩ := loop_ends (b := F56.b1 b hd ah q) (fun x => x.1 ≤ tries ∧ -1 ≤ x.2.2.2 ∧ x.2.2.2 < q ∧ Okt b q x.2.1 x.2.2.1 ∧ (tries < 1 → x.2.1 = 0) ∧ (AllS b → 1 ≤ tries → 0 ≤ gd hd (n : Int) - 1 → (x.1 = tries ∧ x.2.2.2 = gd hd (n : Int) - 1 ∧ x.2.1 = 0) ∨ x.2.1 = ((min (b.length - q) 258 : Nat) : Int)))
      (fun x => (x.2.2.2 + 1).toNat) (fun y => Okt b q y.1 y.2 ∧ (tries < 1 → y.1 = 0) ∧ (AllS b → 1 ≤ tries → 0 ≤ gd hd (n : Int) - 1 → y.1 = ((min (b.length - q) 258 : Nat) : Int))) (fun x hx => by
        obtain ⟨t, l, d, f⟩ := x
        simp only at hx
        obtain ⟨ht', hf1, hf2, hok, h0, hall⟩ := hx
        simp only [F56.b1]
        by_cases hf : 0 ≤ f
        · obtain ⟨f, rfl⟩ := nat_of hf
          rw [if_pos hf, w64 (n := (q : Int) - f) (by omega) (by omega), if_pos (by omega)]
          by_cases htp : 0 < t
          · rw [if_pos htp]
            obtain ⟨m, hm, hm1, hm2, hm3⟩ := same_is b hd ah f q hb (by omega) hq
            rw [hm]
            simp only [Option.bind_some]
            have ha := c.a f (by omega)
            have hlen : min (b.length - q) 258 ≤ b.length - q := Nat.min_le_left _ _
            have hlen2 : min (b.length - q) 258 ≤ 258 := Nat.min_le_right _ _
            have hlen3 : 3 ≤ min (b.length - q) 258 := by omega
            have hmall : AllS b → m = min (b.length - q) 258 := fun hA => hm3 fun i hi => hA _ _ (by omega) (by omega)
            generalize hMM : min (b.length - q) 258 = M at *
            have key : ∀ l' d' : Int, Okt b q l' d' → (AllS b → l' = (M : Int)) → (tries < 1 → l' = 0) → ∃ s, F56.j3 ah t f l' d' = some s ∧ (∀ x', s = .inl x' → (x'.1 ≤ tries ∧ -1 ≤ x'.2.2.2 ∧ x'.2.2.2 < (q : Int) ∧ Okt b q x'.2.1 x'.2.2.1 ∧ (tries < 1 → x'.2.1 = 0) ∧ (AllS b → 1 ≤ tries → 0 ≤ gd hd (n : Int) - 1 → (x'.1 = tries ∧ x'.2.2.2 = gd hd (n : Int) - 1 ∧ x'.2.1 = 0) ∨ x'.2.1 = (M : Int))) ∧ (x'.2.2.2 + 1).toNat < ((f : Int) + 1).toNat) ∧ (∀ y, s = .inr y → Okt b q y.1 y.2 ∧ (tries < 1 → y.1 = 0) ∧ (AllS b → 1 ≤ tries → 0 ≤ gd hd (n : Int) - 1 → y.1 = (M : Int))) := by
              intro l' d' hok' hA' h0'
              unfold F56.j3
              rw [if_pos (by rw [c.al]; omega)]
              unfold F56.j2
              rw [w64 (n := t - 1) (by omega) (by omega), w64 (n := gd ah (f : Int) - 1) (by omega) (by omega)]
              exact on_ (I := fun x' : Int × Int × Int × Int => x'.1 ≤ tries ∧ -1 ≤ x'.2.2.2 ∧ x'.2.2.2 < (q : Int) ∧ Okt b q x'.2.1 x'.2.2.1 ∧ (tries < 1 → x'.2.1 = 0) ∧ (AllS b → 1 ≤ tries → 0 ≤ gd hd (n : Int) - 1 → (x'.1 = tries ∧ x'.2.2.2 = gd hd (n : Int) - 1 ∧ x'.2.1 = 0) ∨ x'.2.1 = (M : Int))) (m := fun x' => (x'.2.2.2 + 1).toNat) (x := (t, l, d, (f : Int)))
                ⟨by simp only; omega, by simp only; omega, by simp only; omega, hok', h0', fun hA _ _ => .inr (hA' hA)⟩ (by simp only; omega)
            by_cases h3 : (3 : Int) ≤ m
            · rw [if_pos h3]
              by_cases hbest : l < (m : Int)
              · rw [if_pos hbest]
                exact key _ _ (.inr ⟨m, q - f, rfl, by omega, by omega, by omega, by omega, by omega, by omega, by omega, fun i hi => by have := hm2 i hi; rwa [show q - (q - f) + i = f + i by omega]⟩) (fun hA => by rw [hmall hA]) (fun h1 => by omega)
              · rw [if_neg hbest]
                refine key _ _ hok (fun hA => ?_) h0
                have hmM := hmall hA
                rcases hok with ⟨rfl, _⟩ | ⟨n', d', rfl, rfl, _, h4, h5, _⟩
                · omega
                · have : n' ≤ M := by rw [← hMM]; exact Nat.le_min.2 ⟨by omega, by omega⟩
                  omega
            · rw [if_neg h3]
              have hk := key l d hok (fun hA => by have := hmall hA; omega) h0
              unfold F56.j3 at hk
              exact hk
          · rw [if_neg htp]
            exact out_ (x := (t, l, d, (f : Int))) ⟨hok, h0, fun hA h1 h2 => by
              rcases hall hA h1 h2 with h3 | h3
              · omega
              · exact h3⟩
        · rw [if_neg hf]
          exact out_ (x := (t, l, d, f)) ⟨hok, h0, fun hA h1 h2 => by
            rcases hall hA h1 h2 with h3 | h3
            · omega
            · exact h3⟩) (tries, 0, 0, gd hd (n : Int) - 1) ⟨by simp, by simp only; omega, by simp only; omega, .inl ⟨rfl, rfl⟩, fun _ => rfl, fun _ _ _ => .inl ⟨rfl, rfl, rfl⟩⟩
    rw [hy]
    exact ⟨y.1, y.2, rfl, hQ.1, hQ.2.1, fun hA h1 _ h2 => hQ.2.2 hA h1 (by omega)⟩
end Go.Proofs.Ytpophpendlnehaa
