/- What OctetNumbers' printed function computes: true, whatever is put. -/
import Derived.Test.YtmedbpiapeiobaaPureOcKit
set_option linter.unusedVariables false
set_option linter.unusedSimpArgs false
namespace Go.Proofs.Ytmedbpiapeiobaa
open Go Go.Eng Go.Proofs

theorem wu8_mod (n : Int) : IntKind.wrap .u8 n = n % 256 := by simp [IntKind.wrap, IntKind.bits, IntKind.signed]
theorem oct_u8 (x : Int) (k : Nat) : 0 ≤ oct x k ∧ oct x k ≤ 255 := by
  unfold oct
  rw [wu8_mod]
  omega
def octs (x : Int) : List Int := (List.range 8).map (oct x)
theorem octs_len (x : Int) : (octs x).length = 8 := by simp [octs]
theorem octs_at (x : Int) (k : Nat) (h : k < (octs x).length) : (octs x)[k] = oct x k := by simp [octs]

theorem F26_loop (b : List Int) (hb : b.length ≤ 1000) (k : Nat) (hk : 1 ≤ k ∧ k ≤ 8) (x : Int) : F26.j2 b x (k : Int) = some (b ++ (octs x).drop (8 - k)) := by
  unfold F26.j2
  rw [w64 (by omega) (by omega)]
  have hlen : ((octs x).drop (8 - k)).length = k := by rw [List.length_drop, octs_len]; omega
  rw [loop_done (fun j => (b ++ ((octs x).drop (8 - k)).take j, (k : Int) - 1 - j)) k (b ++ (octs x).drop (8 - k)) (fun j hj => ?_) ?_ (by simp)]
  · rfl
  · simp only [F26.b1]
    rw [if_neg (by omega), List.take_of_length_le (by omega)]
  · simp only [F26.b1]
    rw [if_pos (by omega), w64 (n := 8 * ((k : Int) - 1 - j)) (by omega) (by omega), if_pos (by omega), if_pos (by simp only [List.length_append, List.length_take, List.length_singleton]; omega), w64 (by omega) (by omega)]
    have e : IntKind.wrap .u8 (shrI .u64 x (8 * ((k : Int) - 1 - j))) = oct x (8 - k + j) := by
      unfold oct
      congr 2
      omega
    have hj' : j < ((octs x).drop (8 - k)).length := by omega
    rw [e, take_succ' _ j hj', List.getElem_drop, octs_at, List.append_assoc]
    congr 3
    omega
theorem F26_is (b : List Int) (n x : Int) (hb : b.length ≤ 1000) : F26.m b n x = some (b ++ (octs x).drop (8 - wide n)) := by
  obtain ⟨h1, h2, h3⟩ := wide_le n
  unfold F26.m
  rw [if_pos (by simp; omega)]
  by_cases a : n < 1
  · rw [if_pos a]
    have : wide n = 1 := by unfold minI maxI at h3; split at h3 <;> (try split at h3) <;> omega
    rw [this]
    unfold F26.j1
    rw [if_neg (by omega)]
    exact F26_loop b hb 1 (by omega) x
  · rw [if_neg a]
    unfold F26.j1
    by_cases c : 8 < n
    · rw [if_pos c]
      have : wide n = 8 := by unfold minI maxI at h3; split at h3 <;> (try split at h3) <;> omega
      rw [this]
      exact F26_loop b hb 8 (by omega) x
    · rw [if_neg c]
      have : n = (wide n : Int) := by unfold minI maxI at h3; split at h3 <;> (try split at h3) <;> omega
      rw [show F26.j2 b x n = F26.j2 b x (wide n : Int) from by rw [← this]]
      exact F26_loop b hb _ ⟨h1, h2⟩ x

theorem shr_ediv (x : Int) (s : Int) (m : Nat) (h : min s.toNat 64 = m) : shrI .u64 x s = x / 2 ^ m := by
  unfold shrI
  have e : IntKind.bits .u64 = 64 := rfl
  rw [e, h]
  exact Int.fdiv_eq_ediv_of_nonneg _ (Int.le_of_lt (Int.pow_pos (by omega)))
theorem back8 (b : List Int) (x : Int) (hx : 0 ≤ x ∧ x ≤ 18446744073709551615) : val (b ++ octs x) b.length 8 = x := by
  have g : ∀ k : Nat, k < 8 → gd (b ++ octs x) ((b.length : Int) + k) = oct x k := fun k hk => by
    have h1 : (b.length : Int) + k = ((b.length + k : Nat) : Int) := by omega
    rw [h1, gd_at _ _ (by rw [List.length_append, octs_len]; omega), List.getElem_append_right (by omega)]
    rw [octs_at]
    congr 1
    omega
  have o : ∀ (k m : Nat), min (56 - 8 * (k : Int)).toNat 64 = m → oct x k = x / 2 ^ m % 256 := fun k m hm => by
    unfold oct
    rw [shr_ediv x _ m hm, wu8_mod]
  have o0 := o 0 56 (by decide)
  have o1 := o 1 48 (by decide)
  have o2 := o 2 40 (by decide)
  have o3 := o 3 32 (by decide)
  have o4 := o 4 24 (by decide)
  have o5 := o 5 16 (by decide)
  have o6 := o 6 8 (by decide)
  have o7 := o 7 0 (by decide)
  have step : ∀ (k : Nat), k < 8 → ∀ (p q : Int), val (b ++ octs x) b.length k = p → 0 ≤ p → p * 256 + oct x k = q → q ≤ 18446744073709551615 → val (b ++ octs x) b.length (k + 1) = q := fun k hk p q hp h0 hq hq2 => by
    have hu := oct_u8 x k
    rw [val, hp, g k hk, wu64 (n := p * 256) (by omega) (by omega), wu64 (n := oct x k) (by omega) (by omega), wu64 (by omega) (by omega), hq]
  have s1 := step 0 (by omega) 0 (x / 72057594037927936) rfl (by omega) (by omega) (by omega)
  have s2 := step 1 (by omega) _ (x / 281474976710656) s1 (by omega) (by omega) (by omega)
  have s3 := step 2 (by omega) _ (x / 1099511627776) s2 (by omega) (by omega) (by omega)
  have s4 := step 3 (by omega) _ (x / 4294967296) s3 (by omega) (by omega) (by omega)
  have s5 := step 4 (by omega) _ (x / 16777216) s4 (by omega) (by omega) (by omega)
  have s6 := step 5 (by omega) _ (x / 65536) s5 (by omega) (by omega) (by omega)
  have s7 := step 6 (by omega) _ (x / 256) s6 (by omega) (by omega) (by omega)
  exact step 7 (by omega) _ x s7 (by omega) (by omega) (by omega)

theorem pure_OctetNumbers (a0 : List Int) (a1 : Int) (a2 : Int) (w0 : ∀ x ∈ a0, InR .u8 x) (_m0 : a0.length ≤ maxLen) (_w1 : InR .i64 a1) (w2 : InR .u64 a2) :
    F4.m a0 a1 a2 = some true := by
  unfold F4.m
  by_cases hl : (500 : Int) < (a0.length : Int)
  · rw [if_pos hl, oct_awake]; rfl
  · rw [if_neg hl, if_pos (by simp; omega)]
    simp only [List.nil_append]
    have h25 := F25_is a0 a1 a2 (by omega)
    rw [h25, F26_is a0 a1 a2 (by omega)]
    have hw := wide_le a1
    obtain ⟨p, h1, h2⟩ := get_same (a0 ++ (octs a2).drop (8 - wide a1)) a0.length a1 (by rw [List.length_append, List.length_drop, octs_len]; omega) (fun x hx => by
      rcases List.mem_append.1 hx with h | h
      · exact inU8 (w0 x h)
      · have := List.mem_of_mem_drop h
        unfold octs at this
        obtain ⟨k, _, rfl⟩ := List.mem_map.1 this
        exact oct_u8 a2 k) (by omega)
    have h1' : F27.m (a0 ++ ((List.range 8).map (oct a2)).drop (8 - wide a1)) a0.length a1 = some p := h1
    have h2' : F28.m (a0 ++ ((List.range 8).map (oct a2)).drop (8 - wide a1)) a0.length a1 = some p := h2
    simp only [Option.bind_some, octs, if_true]
    rw [h1', h2']
    simp only [Option.bind_some, if_true]
    by_cases h8 : a1 = 8
    · subst h8
      have e8 : wide 8 = 8 := by decide
      rw [e8] at h2
      have h3 := F28_in (a0 ++ octs a2) a0.length 8 (by rw [List.length_append, octs_len]; omega) ⟨by omega, by omega, by omega, by rw [List.length_append, octs_len]; omega⟩
      have e9 : (octs a2).drop (8 - 8) = octs a2 := rfl
      rw [e9, h3] at h2
      obtain rfl := Option.some.inj h2
      have e10 : (8 : Int).toNat = 8 := rfl
      rw [e10, back8 a0 a2 (inU64 w2)]
      simp [oct_awake]
    · simp [h8, oct_awake]
end Go.Proofs.Ytmedbpiapeiobaa
