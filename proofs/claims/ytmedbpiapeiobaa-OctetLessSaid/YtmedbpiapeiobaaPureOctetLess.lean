/- What OctetLess needs. -/
import Derived.Test.YtmedbpiapeiobaaPureOcC
import Derived.Test.YtmedbpiapeiobaaYOctetLess
import Derived.Test.YtmedbpiapeiobaaEngBits
set_option linter.unusedVariables false
set_option linter.unusedSimpArgs false
namespace Go.Proofs.Ytmedbpiapeiobaa
open Go Go.Eng Go.Proofs
theorem dgt_or (v y w k : Nat) : dgt (v ||| y) w k = dgt v w k ||| dgt y w k := by
  unfold dgt
  apply Nat.eq_of_testBit_eq
  intro i
  simp only [Nat.testBit_or, Nat.testBit_mod_two_pow, Nat.testBit_div_two_pow]
  cases decide (i < w) <;> simp
theorem dgt_le (v y w k : Nat) : dgt v w k ≤ dgt (v ||| y) w k := by
  rw [dgt_or]
  exact Nat.left_le_or
theorem dgt_all (v v' w : Nat) (hw : w = 1 ∨ w = 2 ∨ w = 4 ∨ w = 8) (h : v < 256) (h' : v' < 256) (hd : ∀ k, k < 8 / w → dgt v w k = dgt v' w k) : v = v' := by
  rcases hw with rfl | rfl | rfl | rfl
  · have h0 := hd 0 (by decide); have h1 := hd 1 (by decide); have h2 := hd 2 (by decide); have h3 := hd 3 (by decide)
    have h4 := hd 4 (by decide); have h5 := hd 5 (by decide); have h6 := hd 6 (by decide); have h7 := hd 7 (by decide)
    simp [dgt] at h0 h1 h2 h3 h4 h5 h6 h7
    omega
  · have h0 := hd 0 (by decide); have h1 := hd 1 (by decide); have h2 := hd 2 (by decide); have h3 := hd 3 (by decide)
    simp [dgt] at h0 h1 h2 h3
    omega
  · have h0 := hd 0 (by decide); have h1 := hd 1 (by decide)
    simp [dgt] at h0 h1
    omega
  · have h0 := hd 0 (by decide)
    simp [dgt] at h0
    omega
theorem sum_mono (f g : Nat → Int) (h : ∀ i, f i ≤ g i) : ∀ n, sumTo f n ≤ sumTo g n
  | 0 => by simp [sumTo]
  | n + 1 => by
    have := sum_mono f g h n
    have := h n
    simp only [sumTo]; omega
theorem sum_less (f g : Nat → Int) (h : ∀ i, f i ≤ g i) (k : Nat) (hk : f k < g k) : ∀ n, k < n → sumTo f n < sumTo g n
  | 0, h0 => by omega
  | n + 1, h0 => by
    simp only [sumTo]
    by_cases e : k = n
    · subst e
      have := sum_mono f g h k
      omega
    · have := sum_less f g h k hk n (by omega)
      have := h n
      omega
theorem pure_OctetLess (a0 : (Arr Int 32)) (a1 : Int) (a2 : Int) (a3 : Int) (w0 : (∀ y ∈ (a0).l, InR .u8 y)) (w1 : InR .i64 a1) (w2 : InR .i64 a2) (w3 : InR .u8 a3) :
    F7.m (a0) a1 a2 a3 = some true := by
  have hb : ∀ x ∈ a0.l, 0 ≤ x ∧ x ≤ 255 := fun x hx => inU8 (w0 x hx)
  have b3 := inU8 w3
  have b1 := inI64 w1
  have hl := a0.h
  have all (a : Arr Int 32) : subL a.l 0 ((32 : Nat) : Int) = a.l := by
    unfold subL
    simp [List.take_of_length_le, a.h]
  unfold F7.m
  rw [all, oct_awake]
  by_cases hW : isW a2
  · obtain ⟨w, rfl, hw⟩ : ∃ w : Nat, a2 = w ∧ (w = 1 ∨ w = 2 ∨ w = 4 ∨ w = 8) := by
      rcases hW with h | h | h | h
      · exact ⟨1, h, by omega⟩
      · exact ⟨2, h, by omega⟩
      · exact ⟨4, h, by omega⟩
      · exact ⟨8, h, by omega⟩
    have hpos : 0 < 8 / w := by rcases hw with rfl | rfl | rfl | rfl <;> decide
    have hal := allD_len a0.l w a0.l.length
    rw [F23_in a0.l (by omega) hb w hw, Option.bind_some]
    by_cases c : a1 < 0
    · rw [if_pos c]; rfl
    rw [if_neg c]
    by_cases d : ((allD a0.l w a0.l.length).length : Int) ≤ a1
    · rw [if_pos d]; rfl
    rw [if_neg d]
    obtain ⟨i, rfl⟩ : ∃ i : Nat, a1 = i := ⟨a1.toNat, by omega⟩
    rw [hl] at hal
    have hi : i < 8 / w * 32 := by rw [hl] at d; omega
    have hj : i * w / 8 < 32 := by rcases hw with rfl | rfl | rfl | rfl <;> omega
    have hiw : i * w ≤ 100000 := by rcases hw with rfl | rfl | rfl | rfl <;> omega
    have e : IntKind.wrap .i64 (Int.tdiv (IntKind.wrap .i64 ((i : Int) * (w : Int))) 8) = ((i * w / 8 : Nat) : Int) := by
      rw [show (i : Int) * (w : Int) = ((i * w : Nat) : Int) from by simp, w64 (n := ((i * w : Nat) : Int)) (by omega) (by omega), show (8 : Int) = ((8 : Nat) : Int) from rfl, tdiv_nat, w64 (by omega) (by omega)]
    rw [e]
    generalize i * w / 8 = j at *
    rw [if_pos (by omega)]
    have hv := hb _ (List.getElem_mem (show j < a0.l.length by omega))
    obtain ⟨v, hvv⟩ : ∃ v : Nat, a0.l[j] = v := ⟨a0.l[j].toNat, by omega⟩
    obtain ⟨y, rfl⟩ : ∃ y : Nat, a3 = y := ⟨a3.toNat, by omega⟩
    have hor : (v ||| y) < 2 ^ 8 := Nat.or_lt_two_pow (by omega) (by omega)
    rw [gd_at _ _ (by omega), hvv, orU8 _ _ (by omega) (by omega)]
    generalize hc : Arr.set a0 (j : Int) ((v ||| y : Nat) : Int) = a'
    have hcl : a'.l = List.set a0.l j ((v ||| y : Nat) : Int) := by rw [← hc]; rfl
    have hb' : ∀ x ∈ a'.l, 0 ≤ x ∧ x ≤ 255 := fun x hx => by
      rw [hcl] at hx
      rcases List.mem_or_eq_of_mem_set hx with a | rfl
      · exact hb x a
      · omega
    have hl' := a'.h
    rw [all, F29_in a0.l (by omega) hb w hw, Option.bind_some, F29_in a'.l (by omega) hb' w hw, Option.bind_some]
    by_cases eq : a0 = a'
    · rw [if_pos eq, ← eq, if_pos rfl]; rfl
    rw [if_neg eq]
    have hne : v ≠ (v ||| y) := fun q => eq (Arr.ext' (by
      rw [hcl, ← q, ← hvv, List.set_getElem_self]))
    have hper : ∀ k, perB a'.l k = if k = j then (v ||| y) else perB a0.l k := fun k => by
      unfold perB
      rw [hcl]
      by_cases kl : k < 32
      · rw [gd_at _ _ (by rw [List.length_set]; omega), gd_at _ _ (by omega)]
        by_cases kj : k = j
        · subst kj
          rw [if_pos rfl, List.getElem_set_self, Int.toNat_natCast]
        · rw [if_neg kj, List.getElem_set_ne (fun h => kj h.symm)]
      · rw [if_neg (by omega)]
        have z : ∀ l : List Int, l.length = 32 → gd l (k : Int) = default := fun l h => by
          rw [gd_nat, List.getD_eq_getElem?_getD, List.getElem?_eq_none (by omega)]
          rfl
        rw [z _ hl, z _ (by rw [List.length_set]; exact hl)]
    have hpv : perB a0.l j = v := by
      unfold perB
      rw [gd_at _ _ (by omega), hvv]; simp
    have hle : ∀ k, digit a0.l w k ≤ digit a'.l w k := fun k => by
      unfold digit
      rw [hper]
      by_cases q : k / (8 / w) = j
      · rw [if_pos q, q, hpv]
        exact Int.ofNat_le.2 (dgt_le v y w _)
      · rw [if_neg q]; exact Int.le_refl _
    obtain ⟨k, hk, hlt⟩ : ∃ k, k < 8 / w ∧ dgt v w k < dgt (v ||| y) w k := Classical.byContradiction fun h => hne (dgt_all v (v ||| y) w hw (by omega) (by omega) (fun k hk => by
      have h1 := dgt_le v y w k
      have h2 : ¬ dgt v w k < dgt (v ||| y) w k := fun q => h ⟨k, hk, q⟩
      omega))
    have hq : (j * (8 / w) + k) / (8 / w) = j ∧ (j * (8 / w) + k) % (8 / w) = k := by
      constructor
      · rw [Nat.mul_comm, Nat.mul_add_div hpos, Nat.div_eq_of_lt hk]; omega
      · rw [Nat.mul_comm, Nat.mul_add_mod, Nat.mod_eq_of_lt hk]
    have hlt2 : digit a0.l w (j * (8 / w) + k) < digit a'.l w (j * (8 / w) + k) := by
      unfold digit
      rw [hper, hq.1, hq.2, if_pos rfl, hpv]
      exact Int.ofNat_lt.2 hlt
    have hbnd : j * (8 / w) + k < 8 / w * 32 := by
      have : (j + 1) * (8 / w) ≤ 32 * (8 / w) := Nat.mul_le_mul_right _ (by omega)
      rw [Nat.add_mul, Nat.one_mul] at this
      rw [Nat.mul_comm (8 / w) 32]
      omega
    have hsum := sum_less _ _ hle _ hlt2 _ hbnd
    have hs0 := sumTo_le (digit a0.l w) _ (digit_le a0.l w) (8 / w * 32)
    have hs1 := sumTo_le (digit a'.l w) _ (digit_le a'.l w) (8 / w * 32)
    unfold lack
    rw [hl, hl']
    generalize sumTo (digit a0.l w) (8 / w * 32) = s0 at *
    generalize sumTo (digit a'.l w) (8 / w * 32) = s1 at *
    have fin : ∀ z : Int, 0 ≤ z ∧ z ≤ 65535 → IntKind.wrap .u16 z = z := fun z hz => w16 hz.1 hz.2
    rw [if_pos]
    · rfl
    · rcases hw with rfl | rfl | rfl | rfl
      · simp [fac] at hs0 hs1 ⊢
        rw [fin _ (by omega), fin _ (by omega)]; omega
      · simp [fac] at hs0 hs1 ⊢
        rw [fin _ (by omega), fin _ (by omega)]; omega
      · simp [fac] at hs0 hs1 ⊢
        rw [fin _ (by omega), fin _ (by omega)]; omega
      · simp [fac] at hs0 hs1 ⊢
        rw [fin _ (by omega), fin _ (by omega)]; omega
  · rw [F23_out a0.l a2 hW, Option.bind_some]
    by_cases c : a1 < 0
    · rw [if_pos c]; rfl
    rw [if_neg c, if_pos (by simp; omega)]
    rfl
end Go.Proofs.Ytmedbpiapeiobaa
