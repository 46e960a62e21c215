/- What HufT needs. -/
import Derived.Test.YtpophpendlnehaaPureHufK
import Derived.Test.YtpophpendlnehaaPureBitK
import Derived.Test.YtpophpendlnehaaEngLp
set_option linter.unusedVariables false
set_option linter.unusedSimpArgs false
namespace Go.Proofs.Ytpophpendlnehaa
open Go Go.Eng Go.Proofs
/-! ### Canonical codes, as natural numbers -/
def fN (l : List Int) : Nat → Nat
  | 0 => 0
  | 1 => 0
  | n + 2 => 2 * (fN l (n + 1) + cn l (n + 1))
def tp (l : List Int) (n : Nat) : Nat := fN l n + cn l n
theorem cn0 (l : List Int) : cn l 0 = 0 := rfl
theorem cn_pos (l : List Int) (n : Nat) (h : n ≠ 0) : cn l n = l.count (n : Int) := by unfold cn; rw [if_neg h]
theorem many_cn (l : List Int) (n : Nat) : many l n = (cn l n : Int) := by
  unfold many cn cnt
  split <;> rfl
theorem fN_succ (l : List Int) : ∀ n, fN l (n + 1) = 2 * tp l n
  | 0 => by simp [fN, tp, cn0]
  | n + 1 => rfl
theorem tp_succ (l : List Int) (n : Nat) : tp l (n + 1) = 2 * tp l n + cn l (n + 1) := by rw [show tp l (n + 1) = fN l (n + 1) + cn l (n + 1) from rfl, fN_succ]
theorem tp_mono (l : List Int) (n : Nat) : ∀ k, tp l n * 2 ^ k ≤ tp l (n + k)
  | 0 => by simp
  | k + 1 => by
    have := tp_mono l n k
    rw [← Nat.add_assoc, tp_succ, Nat.pow_succ, ← Nat.mul_assoc]
    omega
theorem p2_succ (n : Nat) (h : n < 15) : p2 n = 2 * p2 (n + 1) := by
  unfold p2
  rw [show 15 - n = (15 - (n + 1)) + 1 by omega, Int.pow_succ]
  omega
theorem tp_sum (l : List Int) : ∀ n, n ≤ 15 → (tp l n : Int) * p2 n = sumTo (fun i => many l i * p2 i) (n + 1)
  | 0, _ => by simp [tp, fN, cn0, sumTo, many]
  | n + 1, h => by
    have ih := tp_sum l n (by omega)
    rw [p2_succ n (by omega)] at ih
    rw [show sumTo (fun i => many l i * p2 i) (n + 1 + 1) = sumTo (fun i => many l i * p2 i) (n + 1) + many l (n + 1) * p2 (n + 1) from rfl, ← ih, tp_succ, many_cn]
    generalize p2 (n + 1) = P
    rw [show ((2 * tp l n + cn l (n + 1) : Nat) : Int) = 2 * (tp l n : Int) + (cn l (n + 1) : Int) by omega, Int.add_mul, ← Int.mul_assoc, Int.mul_comm (tp l n : Int) 2]
theorem tp15 (xs : List Int) (hx : Good15 xs) : (tp xs 15 : Int) = bySym p2 xs := by
  have := tp_sum xs 15 (by omega)
  rw [sum_sym p2 xs hx] at this
  rw [← this]
  simp [p2]
theorem may_cases {xs : List Int} (hx : Good15 xs) (hm : may xs = true) : tp xs 15 = 2 ^ 15 ∨ tp xs 15 = 0 ∨ (tp xs 15 = 2 ^ 14 ∧ bySym (fun _ => 1) xs = 1) := by
  have h := tp15 xs hx
  unfold may at hm
  simp only [Bool.or_eq_true, Bool.and_eq_true, decide_eq_true_eq] at hm
  rcases hm with (h1 | h1) | ⟨h1, h2⟩
  · exact .inl (by omega)
  · have := bySym_zero xs h1 p2
    exact .inr (.inl (by omega))
  · exact .inr (.inr ⟨by omega, h1⟩)
theorem tp_le {xs : List Int} (hx : Good15 xs) (hm : may xs = true) (n : Nat) (h : n ≤ 15) : tp xs n ≤ 2 ^ n := by
  have h1 := tp_mono xs n (15 - n)
  rw [show n + (15 - n) = 15 by omega] at h1
  have h2 : tp xs 15 ≤ 2 ^ 15 := by rcases may_cases hx hm with h | h | ⟨h, _⟩ <;> omega
  have h3 : 2 ^ 15 = 2 ^ n * 2 ^ (15 - n) := by rw [← Nat.pow_add]; congr 1; omega
  rw [h3] at h2
  exact Nat.le_of_mul_le_mul_right (Nat.le_trans h1 h2) (Nat.pow_pos (by omega))
theorem pow15 (n : Nat) (h : n ≤ 15) : 2 ^ n ≤ 32768 := Nat.pow_le_pow_right (n := 2) (by omega) h
theorem fst_eq {xs : List Int} (hx : Good15 xs) (hm : may xs = true) : ∀ n, n ≤ 15 → fst xs n = (fN xs n : Int)
  | 0, _ => rfl
  | 1, _ => rfl
  | n + 2, h => by
    have ih := fst_eq hx hm (n + 1) (by omega)
    have h1 := tp_le hx hm (n + 1) (by omega)
    have h2 := pow15 (n + 1) (by omega)
    unfold tp at h1
    simp only [fst, fN]
    rw [ih, many_cn, w64 (n := (fN xs (n + 1) : Int) + (cn xs (n + 1) : Int)) (by omega) (by omega), w64 (by omega) (by omega)]
    omega
theorem itr_eq (x : Int) : ∀ k : Nat, 0 ≤ x → x + k ≤ 100000 → itr k x = x + k
  | 0, _, _ => by simp [itr]
  | k + 1, h0, h => by
    simp only [itr]
    rw [itr_eq x k h0 (by omega), w64 (by omega) (by omega)]
    omega
theorem count_take_lt (a : Int) : ∀ (l : List Int) (s : Nat) (h : s < l.length), l[s] = a → (l.take s).count a < l.count a := by
  intro l s h e
  have h1 : l = l.take s ++ (l[s] :: l.drop (s + 1)) := by rw [← List.drop_eq_getElem_cons h, List.take_append_drop]
  have h2 : l.count a = (l.take s).count a + (l[s] :: l.drop (s + 1)).count a := by
    conv => lhs; rw [h1]
    rw [List.count_append]
  rw [h2, e]
  simp [List.count_cons]
/-- A symbol's code. -/
def cd (xs : List Int) (s : Nat) : Nat := fN xs (gd xs (s : Int)).toNat + (xs.take s).count (gd xs (s : Int))
theorem cd_in {xs : List Int} (s n : Nat) (hs : s < xs.length) (hn : gd xs (s : Int) = (n : Int)) (h0 : n ≠ 0) : cd xs s = fN xs n + (xs.take s).count (n : Int) ∧ fN xs n ≤ cd xs s ∧ cd xs s < tp xs n := by
  have h1 : cd xs s = fN xs n + (xs.take s).count (n : Int) := by unfold cd; rw [hn, Int.toNat_natCast]
  have h2 := count_take_lt (n : Int) xs s hs (by rw [← gd_at xs s hs]; exact hn)
  have h3 := cn_pos xs n h0
  exact ⟨h1, by omega, by unfold tp; omega⟩
theorem code_eq {xs : List Int} (hx : Good15 xs) (hm : may xs = true) (s n : Nat) (hs : s < xs.length) (hn : gd xs (s : Int) = (n : Int)) (h0 : n ≠ 0) (h15 : n ≤ 15) : code xs s = (cd xs s : Int) ∧ cd xs s < 2 ^ n := by
  obtain ⟨h1, h2, h3⟩ := cd_in s n hs hn h0
  have h4 := tp_le hx hm n h15
  have h5 := pow15 n h15
  refine ⟨?_, by omega⟩
  unfold code
  rw [hn, if_pos (by omega), Int.toNat_natCast, fst_eq hx hm n h15, itr_eq _ _ (by omega) (by omega), w16 (by omega) (by omega), h1]
  omega
theorem nth_of (a : Int) : ∀ (l : List Int) (k : Nat), k < l.count a → ∃ s, ∃ h : s < l.length, l[s] = a ∧ (l.take s).count a = k := by
  intro l
  induction l with
  | nil => intro k h; simp at h
  | cons x l ih =>
    intro k h
    by_cases e : x = a
    · subst e
      cases k with
      | zero => exact ⟨0, by simp, by simp, by simp⟩
      | succ k =>
        rw [List.count_cons_self] at h
        obtain ⟨s, hs, e, c⟩ := ih k (by omega)
        exact ⟨s + 1, by simp; omega, by simpa using e, by rw [List.take_succ_cons, List.count_cons_self, c]⟩
    · rw [List.count_cons_of_ne e] at h
      obtain ⟨s, hs, e', c⟩ := ih k h
      exact ⟨s + 1, by simp; omega, by simpa using e', by rw [List.take_succ_cons, List.count_cons_of_ne e, c]⟩
/-- A hit is a symbol's code. -/
theorem hit_sym {xs : List Int} (n c : Nat) (h0 : n ≠ 0) (h1 : fN xs n ≤ c) (h2 : c < tp xs n) : ∃ s, s < xs.length ∧ gd xs (s : Int) = (n : Int) ∧ cd xs s = c := by
  unfold tp at h2
  rw [cn_pos xs n h0] at h2
  obtain ⟨s, hs, e, k⟩ := nth_of (n : Int) xs (c - fN xs n) (by omega)
  have e' : gd xs (s : Int) = (n : Int) := by rw [gd_at _ _ hs]; exact e
  refine ⟨s, hs, e', ?_⟩
  rw [(cd_in s n hs e' h0).1, k]
  omega

/-! ### What rows of bits are worth, the first one most -/
def V (l : List Int) : Nat → Nat
  | 0 => 0
  | j + 1 => 2 * V l j + (gd l (j : Int)).toNat
theorem bit_of {l : List Int} (h : b01 l) (j : Nat) (hj : j < l.length) : (gd l (j : Int)).toNat ≤ 1 ∧ gd l (j : Int) = ((gd l (j : Int)).toNat : Int) := by
  rw [gd_at _ _ hj]
  rcases h _ (List.getElem_mem hj) with e | e <;> rw [e] <;> simp
theorem V_lt {l : List Int} (h : b01 l) : ∀ j, j ≤ l.length → V l j < 2 ^ j
  | 0, _ => by simp [V]
  | j + 1, hj => by
    have h1 := V_lt h j (by omega)
    have h2 := (bit_of h j (by omega)).1
    simp only [V, Nat.pow_succ]
    omega
theorem V_div {l : List Int} (h : b01 l) (j : Nat) : ∀ k, j + k ≤ l.length → V l (j + k) / 2 ^ k = V l j
  | 0, _ => by simp
  | k + 1, hk => by
    have h1 := V_div h j k (by omega)
    have h2 := (bit_of h (j + k) (by omega)).1
    rw [← Nat.add_assoc, Nat.pow_succ, Nat.mul_comm (2 ^ k) 2, ← Nat.div_div_eq_div_mul]
    simp only [V]
    rw [show (2 * V l (j + k) + (gd l ((j + k : Nat) : Int)).toNat) / 2 = V l (j + k) by omega]
    exact h1
theorem V_same {a b : List Int} (ha : b01 a) (hb : b01 b) : ∀ m, m ≤ a.length → m ≤ b.length → (V a m = V b m ↔ ∀ i : Nat, i < m → gd a (i : Int) = gd b (i : Int))
  | 0, _, _ => by simp [V]
  | m + 1, h1, h2 => by
    have ih := V_same ha hb m (by omega) (by omega)
    have e1 := bit_of ha m (by omega)
    have e2 := bit_of hb m (by omega)
    simp only [V]
    constructor
    · intro h i hi
      have h3 : V a m = V b m := by omega
      by_cases e : i = m
      · subst e; omega
      · exact ih.1 h3 i (by omega)
    · intro h
      rw [ih.2 (fun i hi => h i (by omega)), h m (by omega)]
/-- A code's bits. -/
def cw (c n : Nat) : List Int := (bN c n).reverse
theorem cw_len (c n : Nat) : (cw c n).length = n := by simp [cw]
theorem cw_01 (c n : Nat) : b01 (cw c n) := fun y hy => b01_bN c n y (by simpa [cw] using hy)
theorem cw_at (c n i : Nat) (h : i < n) : gd (cw c n) (i : Int) = bt1 c (n - 1 - i) := by
  rw [gd_at _ _ (by rw [cw_len]; exact h)]
  simp only [cw, List.getElem_reverse, bN_at, bN_len]
theorem V_cw (c n : Nat) (hc : c < 2 ^ n) : ∀ j, j ≤ n → V (cw c n) j = c / 2 ^ (n - j)
  | 0, _ => by simp only [V, Nat.sub_zero]; exact (Nat.div_eq_of_lt hc).symm
  | j + 1, hj => by
    simp only [V]
    rw [V_cw c n hc j (by omega), cw_at c n j (by omega), bt1_div, Int.toNat_natCast, show n - j = (n - (j + 1)) + 1 by omega, show n - 1 - j = n - (j + 1) by omega, Nat.pow_succ, ← Nat.div_div_eq_div_mul]
    omega
/-- A symbol's code and a row of bits: the same, as far as both go. -/
def Sm (xs l : List Int) (s : Nat) : Prop := cd xs s / 2 ^ ((gd xs (s : Int)).toNat - min (gd xs (s : Int)).toNat l.length) = V l (min (gd xs (s : Int)).toNat l.length)
/-- It stands there. -/
def Mt (xs l : List Int) (s : Nat) : Prop := gd xs (s : Int) ≠ 0 ∧ (gd xs (s : Int)).toNat ≤ l.length ∧ Sm xs l s
theorem Mt.V {xs l : List Int} {s n : Nat} (h : Mt xs l s) (hn : gd xs (s : Int) = (n : Int)) : n ≠ 0 ∧ n ≤ l.length ∧ cd xs s = V l n := by
  obtain ⟨h1, h2, h3⟩ := h
  unfold Sm at h3
  rw [hn] at h1 h2 h3
  rw [Int.toNat_natCast] at h2 h3
  rw [Nat.min_eq_left h2] at h3
  simp at h3
  exact ⟨by omega, h2, h3⟩
/-- Ahead of a code's last bit there is no hit. -/
theorem no_hit {xs l : List Int} (h01 : b01 l) (n j c : Nat) (hc : fN xs n ≤ c) (hV : c = V l n) (hn : n ≤ l.length) (hj : j < n) : tp xs j ≤ V l j := by
  obtain ⟨m, rfl⟩ : ∃ m, n = j + (m + 1) := ⟨n - j - 1, by omega⟩
  rw [← V_div h01 j (m + 1) hn, ← hV]
  refine (Nat.le_div_iff_mul_le (Nat.pow_pos (by omega))).2 (Nat.le_trans ?_ hc)
  have := tp_mono xs j m
  rw [show j + (m + 1) = (j + m) + 1 by omega, fN_succ, Nat.pow_succ, ← Nat.mul_assoc]
  omega
/-- Where no code stands, all bits are above. -/
theorem above {xs l : List Int} (hno : ∀ s, s < xs.length → ¬ Mt xs l s) : ∀ j, j ≤ l.length → tp xs j ≤ V l j
  | 0, _ => by simp [tp, fN, cn0]
  | j + 1, hj => by
    have ih := above hno j (by omega)
    rcases Nat.lt_or_ge (V l (j + 1)) (tp xs (j + 1)) with h | h
    · have h1 : fN xs (j + 1) ≤ V l (j + 1) := by rw [fN_succ]; simp only [V]; omega
      obtain ⟨s, hs, e, c⟩ := hit_sym (j + 1) (V l (j + 1)) (by omega) h1 h
      refine absurd ⟨by rw [e]; omega, by rw [e, Int.toNat_natCast]; exact hj, ?_⟩ (hno s hs)
      unfold Sm
      rw [e, Int.toNat_natCast, Nat.min_eq_left hj, c]
      simp
    · exact h
theorem cn_le_tp (xs : List Int) (n : Nat) (h : n ≤ 15) : cn xs n ≤ tp xs 15 := by
  have := tp_mono xs n (15 - n)
  rw [show n + (15 - n) = 15 by omega] at this
  have h2 : tp xs n ≤ tp xs n * 2 ^ (15 - n) := Nat.le_mul_of_pos_right _ (Nat.pow_pos (by omega))
  have h3 : cn xs n ≤ tp xs n := Nat.le_add_left _ _
  omega
/-- Either all is full, or there is no code of more than one bit. -/
theorem full_or {xs : List Int} (hx : Good15 xs) (hm : may xs = true) (L : Nat) (hL : L ≤ 15) (hc : 0 < cn xs L) : tp xs 15 = 2 ^ 15 ∨ L = 1 := by
  have h0 : L ≠ 0 := fun h => by rw [h, cn0] at hc; omega
  rcases may_cases hx hm with h | h | ⟨h, h1⟩
  · exact .inl h
  · have := cn_le_tp xs L hL; omega
  · right
    obtain ⟨m, hm0, hm16, hg⟩ := bySym_one xs hx h1
    have e1 := hg p2
    have e2 := tp15 xs hx
    have hm1 : m = 1 := by
      rw [e1, h] at e2
      have : m = 1 ∨ 2 ≤ m := by omega
      rcases this with h | h
      · exact h
      · have h3 : p2 m ≤ 8192 := by
          unfold p2
          have : (2 : Nat) ^ (15 - m) ≤ 2 ^ 13 := Nat.pow_le_pow_right (by omega) (by omega)
          have h4 : ((2 : Int) ^ (15 - m)) = ((2 ^ (15 - m) : Nat) : Int) := by simp
          omega
        omega
    have e3 := hg (fun i => if i = L then 1 else 0)
    rw [← sum_sym _ xs hx, sumTo_same _ (fun i => if i ≠ 0 ∧ L = i then many xs i else 0) 16 (fun i _ => ?_), one16 (many xs) L (by omega), if_pos (by omega), many_cn] at e3
    · by_cases e : m = L
      · omega
      · rw [if_neg e] at e3; omega
    · by_cases e : i = L
      · subst e; rw [if_pos rfl, if_pos ⟨h0, rfl⟩]; omega
      · rw [if_neg e, if_neg (fun h => e h.2.symm)]; omega
theorem find_first (P : Nat → Prop) (hd : ∀ n, P n ∨ ¬ P n) (a : Nat) (h0 : ¬ P a) : ∀ k, P (a + k) → ∃ n, a ≤ n ∧ n < a + k ∧ ¬ P n ∧ P (n + 1)
  | 0, h => absurd h h0
  | k + 1, h => by
    rcases hd (a + k) with h1 | h1
    · obtain ⟨n, h2, h3, h4⟩ := find_first P hd a h0 k h1
      exact ⟨n, h2, by omega, h4⟩
    · exact ⟨a + k, by omega, by omega, h1, h⟩
/-- Where no code stands and there are fewer bits than the longest has, some code goes on. -/
theorem going_on {xs l : List Int} (hx : Good15 xs) (hm : may xs = true) (h01 : b01 l) (hno : ∀ s, s < xs.length → ¬ Mt xs l s) (L : Nat) (hL : L ≤ 15) (hc : 0 < cn xs L) (hT : l.length < L) : ∃ s, s < xs.length ∧ gd xs (s : Int) ≠ 0 ∧ Sm xs l s := by
  have h0 : L ≠ 0 := by omega
  by_cases hl0 : l.length = 0
  · rw [cn_pos xs L h0] at hc
    obtain ⟨s, hs, e, _⟩ := nth_of (L : Int) xs 0 hc
    have e' : gd xs (s : Int) = (L : Int) := by rw [gd_at _ _ hs]; exact e
    refine ⟨s, hs, by rw [e']; omega, ?_⟩
    unfold Sm
    rw [e', Int.toNat_natCast, hl0, Nat.min_eq_right (by omega)]
    have := (code_eq hx hm s L hs e' h0 hL).2
    simp only [V]
    rw [Nat.sub_zero]
    exact Nat.div_eq_of_lt this
  · rcases full_or hx hm L hL hc with hf | h1
    · have ha := above hno l.length (Nat.le_refl _)
      have hv := V_lt h01 l.length (Nat.le_refl _)
      obtain ⟨n, n1, n2, n3, n4⟩ := find_first (fun n => V l l.length * 2 ^ (n - l.length) < tp xs n) (fun n => by omega) l.length (by simpa using ha) (15 - l.length) (by
        rw [show l.length + (15 - l.length) = 15 by omega, hf]
        have : 2 ^ 15 = 2 ^ l.length * 2 ^ (15 - l.length) := by rw [← Nat.pow_add]; congr 1; omega
        rw [this]
        exact Nat.mul_lt_mul_of_pos_right hv (Nat.pow_pos (by omega)))
      have e : n + 1 - l.length = (n - l.length) + 1 := by omega
      have h2 : fN xs (n + 1) ≤ V l l.length * 2 ^ (n + 1 - l.length) := by
        rw [fN_succ, e, Nat.pow_succ, ← Nat.mul_assoc]
        omega
      obtain ⟨s, hs, es, cs⟩ := hit_sym (n + 1) _ (by omega) h2 n4
      refine ⟨s, hs, by rw [es]; omega, ?_⟩
      unfold Sm
      rw [es, Int.toNat_natCast, Nat.min_eq_right (by omega), cs]
      exact Nat.mul_div_cancel _ (Nat.pow_pos (by omega))
    · omega
end Go.Proofs.Ytpophpendlnehaa
