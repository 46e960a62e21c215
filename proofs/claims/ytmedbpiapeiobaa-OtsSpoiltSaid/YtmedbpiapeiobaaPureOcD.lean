/- What OctetDigits' printed function computes: true, whatever the bytes. -/
import Derived.Test.YtmedbpiapeiobaaPureOcK
set_option linter.unusedVariables false
set_option linter.unusedSimpArgs false
namespace Go.Proofs.Ytmedbpiapeiobaa
open Go Go.Eng Go.Proofs

def isW (w : Int) : Prop := w = 1 ∨ w = 2 ∨ w = 4 ∨ w = 8
/-- A digit of a byte: the j-th of those of w bits. -/
def dgt (v w : Nat) (j : Nat) : Nat := v / 2 ^ (8 - w * (j + 1)) % 2 ^ w
def digs (v w : Nat) : List Int := (List.range (8 / w)).map (fun j => (dgt v w j : Int))
def perB (b : List Int) (i : Nat) : Nat := (gd b (i : Int)).toNat

theorem F69_in (w : Int) (h : isW w) : F69.m w = some (8 / w, true) := by
  rcases h with rfl | rfl | rfl | rfl <;> decide
theorem F69_out (w : Int) (h : ¬ isW w) : F69.m w = some (0, false) := by
  unfold isW at h
  unfold F69.m
  rw [if_neg (by omega), if_neg (by omega), if_neg (by omega)]
  have : decide (w = 8) = false := by simp; omega
  rw [this]; rfl

/-! ### The document's digits: bit by bit -/
theorem shr_i64 (v : Nat) (k : Nat) (h : k ≤ 7) : shrI .i64 (v : Int) (k : Int) = ((v / 2 ^ k : Nat) : Int) := by
  unfold shrI
  have e : min ((k : Int)).toNat (IntKind.bits .i64) = k := by
    have : IntKind.bits .i64 = 64 := rfl
    rw [this]; omega
  rw [e, Int.fdiv_eq_ediv_of_nonneg _ (Int.le_of_lt (Int.pow_pos (by omega)))]
  simp
theorem tmod_nat (a c : Nat) : Int.tmod (a : Int) (c : Int) = ((a % c : Nat) : Int) := by rw [Int.tmod_eq_emod_of_nonneg (by omega)]; simp
/-- What stands behind k bits: the last digits' part. -/
def pend (v w k : Nat) : Nat := v / 2 ^ (8 - k) % 2 ^ (k % w)
theorem pend_on (v w k : Nat) (hw : w = 1 ∨ w = 2 ∨ w = 4 ∨ w = 8) (hk : k < 8) (hv : v ≤ 255) (h : ¬ k % w = w - 1) : 2 * pend v w k + v / 2 ^ (7 - k) % 2 = pend v w (k + 1) := by
  have hk' : k = 0 ∨ k = 1 ∨ k = 2 ∨ k = 3 ∨ k = 4 ∨ k = 5 ∨ k = 6 ∨ k = 7 := by omega
  unfold pend
  rcases hw with rfl | rfl | rfl | rfl <;> rcases hk' with rfl | rfl | rfl | rfl | rfl | rfl | rfl | rfl <;> simp at h ⊢ <;> omega
theorem pend_end (v w k : Nat) (hw : w = 1 ∨ w = 2 ∨ w = 4 ∨ w = 8) (hk : k < 8) (hv : v ≤ 255) (h : k % w = w - 1) : 2 * pend v w k + v / 2 ^ (7 - k) % 2 = dgt v w (k / w) ∧ pend v w (k + 1) = 0 ∧ (k + 1) / w = k / w + 1 ∧ k / w < 8 / w := by
  have hk' : k = 0 ∨ k = 1 ∨ k = 2 ∨ k = 3 ∨ k = 4 ∨ k = 5 ∨ k = 6 ∨ k = 7 := by omega
  unfold pend dgt
  rcases hw with rfl | rfl | rfl | rfl <;> rcases hk' with rfl | rfl | rfl | rfl | rfl | rfl | rfl | rfl <;> simp at h ⊢ <;> omega
theorem div_on (w k : Nat) (hw : w = 1 ∨ w = 2 ∨ w = 4 ∨ w = 8) (hk : k < 8) (h : ¬ k % w = w - 1) : (k + 1) / w = k / w := by
  have hk' : k = 0 ∨ k = 1 ∨ k = 2 ∨ k = 3 ∨ k = 4 ∨ k = 5 ∨ k = 6 ∨ k = 7 := by omega
  rcases hw with rfl | rfl | rfl | rfl <;> rcases hk' with rfl | rfl | rfl | rfl | rfl | rfl | rfl | rfl <;> simp at h ⊢
theorem pend_le (v w k : Nat) (hw : w = 1 ∨ w = 2 ∨ w = 4 ∨ w = 8) : pend v w k ≤ 255 := by
  unfold pend
  have h1 : k % w < w := Nat.mod_lt _ (by omega)
  have h2 : 2 ^ (k % w) ≤ 2 ^ 8 := Nat.pow_le_pow_right (by omega) (by omega)
  have h3 := Nat.mod_lt (v / 2 ^ (8 - k)) (show 0 < 2 ^ (k % w) from Nat.pow_pos (by omega))
  omega
theorem inner (b : List Int) (hb : ∀ x ∈ b, 0 ≤ x ∧ x ≤ 255) (w : Nat) (hw : w = 1 ∨ w = 2 ∨ w = 4 ∨ w = 8) (i : Nat) (hi : i < b.length) (l : List Int) (hl : l.length ≤ 100000) :
    loop (F23.b2 b (w : Int) (i : Int)) (l, (0 : Int), (0 : Int)) = some (l ++ digs (perB b i) w) := by
  have hv := gd_u8 b hb i (by omega)
  obtain ⟨v, hgv⟩ : ∃ v : Nat, gd b (i : Int) = (v : Int) := ⟨(gd b (i : Int)).toNat, by omega⟩
  have hv2 : v ≤ 255 := by omega
  have hper : perB b i = v := by unfold perB; omega
  rw [hper]
  have hdl : (digs v w).length = 8 / w := by simp [digs]
  refine loop_done (fun k => (l ++ (digs v w).take (k / w), (pend v w k : Int), (k : Int))) 8 _ (fun k hk => ?_) ?_ (by simp [pend]) 
  · simp only [F23.b2]
    have hp := pend_le v w k hw
    have e7 : IntKind.wrap .i64 (7 - (k : Int)) = ((7 - k : Nat) : Int) := by rw [w64 (by omega) (by omega)]; omega
    have ed : IntKind.wrap .i64 (IntKind.wrap .i64 (2 * (pend v w k : Int)) + Int.tmod (shrI .i64 (IntKind.wrap .i64 (v : Int)) ((7 - k : Nat) : Int)) 2) = ((2 * pend v w k + v / 2 ^ (7 - k) % 2 : Nat) : Int) := by
      rw [w64 (n := (v : Int)) (by omega) (by omega), shr_i64 v (7 - k) (by omega), w64 (n := 2 * (pend v w k : Int)) (by omega) (by omega)]
      have := tmod_nat (v / 2 ^ (7 - k)) 2
      rw [show ((2 : Nat) : Int) = 2 from rfl] at this
      rw [this, w64 (by omega) (by omega)]
      omega
    rw [if_pos (by omega), if_pos (by omega), e7, if_pos (by omega), if_pos (by omega), hgv, ed, tmod_nat k w, w64 (n := (w : Int) - 1) (by omega) (by omega)]
    by_cases h : k % w = w - 1
    · obtain ⟨h1, h2, h3, h4⟩ := pend_end v w k hw hk hv2 h
      have hk3 : ((digs v w).take (k / w)).length ≤ 8 := by rw [List.length_take, hdl]; have := Nat.div_le_self 8 w; omega
      rw [if_pos (by omega), if_pos (by simp only [List.length_append, List.length_singleton]; omega)]
      simp only [F23.j4]
      have hk2 : k / w < (digs v w).length := by omega
      rw [w64 (by omega) (by omega), h1, h2, h3, take_succ' _ _ hk2, List.append_assoc]
      simp [digs]
    · rw [if_neg (by omega)]
      simp only [F23.j4]
      rw [w64 (by omega) (by omega), pend_on v w k hw hk hv2 h, div_on w k hw hk h]
      rfl
  · simp only [F23.b2]
    rw [if_neg (by omega), List.take_of_length_le (by omega)]
def allD (b : List Int) (w : Nat) : Nat → List Int
  | 0 => []
  | k + 1 => allD b w k ++ digs (perB b k) w
theorem allD_len (b : List Int) (w : Nat) : ∀ k, (allD b w k).length = 8 / w * k
  | 0 => rfl
  | k + 1 => by rw [allD, List.length_append, allD_len b w k, Nat.mul_add]; simp [digs]
theorem outer (b : List Int) (hl : b.length ≤ 1000) (hb : ∀ x ∈ b, 0 ≤ x ∧ x ≤ 255) (w : Nat) (hw : w = 1 ∨ w = 2 ∨ w = 4 ∨ w = 8) :
    loop (F23.b1 b (w : Int)) (([] : List Int), (0 : Int)) = some (allD b w b.length) := by
  refine loop_done (fun k => (allD b w k, (k : Int))) b.length _ (fun k hk => ?_) (by simp [F23.b1]) rfl
  have h8 : 8 / w * k ≤ 8 * k := Nat.mul_le_mul_right _ (Nat.div_le_self _ _)
  simp only [F23.b1]
  rw [if_pos (by omega), inner b hb w hw k hk _ (by rw [allD_len]; omega)]
  simp only [Option.bind_some, F23.j3, F23.j2]
  rw [w64 (by omega) (by omega)]
  rfl
theorem F23_in (b : List Int) (hl : b.length ≤ 1000) (hb : ∀ x ∈ b, 0 ≤ x ∧ x ≤ 255) (w : Nat) (hw : w = 1 ∨ w = 2 ∨ w = 4 ∨ w = 8) : F23.m b (w : Int) = some (allD b w b.length) := by
  unfold F23.m
  have h := outer b hl hb w hw
  have e3 : F23.b3 b (w : Int) = F23.b1 b (w : Int) := rfl
  have e5 : F23.b5 b (w : Int) = F23.b1 b (w : Int) := rfl
  have e7 : F23.b7 b (w : Int) = F23.b1 b (w : Int) := rfl
  rw [e3, e5, e7, h]
  rcases hw with rfl | rfl | rfl | rfl
  · rw [if_pos (by decide)]; rfl
  · rw [if_neg (by decide), if_pos (by decide)]; rfl
  · rw [if_neg (by decide), if_neg (by decide), if_pos (by decide)]; rfl
  · rw [if_neg (by decide), if_neg (by decide), if_neg (by decide), if_pos (by decide)]; rfl
theorem F23_out (b : List Int) (w : Int) (hw : ¬ isW w) : F23.m b w = some [] := by
  unfold isW at hw
  unfold F23.m
  rw [if_neg (by omega), if_neg (by omega), if_neg (by omega), if_neg (by omega)]

/-! ### The program's digits -/
theorem and_pow (x w : Nat) (hw : w ≤ 8) (hx : x ≤ 255) : andI .i64 (x : Int) ((2 ^ w - 1 : Nat) : Int) = ((x % 2 ^ w : Nat) : Int) := by
  have h2 : 2 ^ w ≤ 2 ^ 8 := Nat.pow_le_pow_right (by omega) hw
  have h0 : 0 < 2 ^ w := Nat.pow_pos (by omega)
  have key : (BitVec.ofInt (IntKind.bits .i64) (x : Int) &&& BitVec.ofInt (IntKind.bits .i64) ((2 ^ w - 1 : Nat) : Int)).toNat = x % 2 ^ w := by
    show (BitVec.ofInt 64 (x : Int) &&& BitVec.ofInt 64 ((2 ^ w - 1 : Nat) : Int)).toNat = x % 2 ^ w
    rw [BitVec.toNat_and, BitVec.ofInt_natCast, BitVec.ofInt_natCast, BitVec.toNat_ofNat, BitVec.toNat_ofNat, Nat.mod_eq_of_lt (by omega), Nat.mod_eq_of_lt (by omega), Nat.and_two_pow_sub_one_eq_mod]
  unfold andI
  rw [key]
  have := Nat.mod_lt x h0
  exact w64 (by omega) (by omega)
def digit (b : List Int) (w : Nat) (i : Nat) : Int := (dgt (perB b (i / (8 / w))) w (i % (8 / w)) : Int)
theorem F24_at (b : List Int) (hl : b.length ≤ 1000) (hb : ∀ x ∈ b, 0 ≤ x ∧ x ≤ 255) (w : Nat) (hw : w = 1 ∨ w = 2 ∨ w = 4 ∨ w = 8) (i : Nat) (hi : i / (8 / w) < b.length) (hi2 : i ≤ 100000) : F24.m b (i : Int) (w : Int) = some (digit b w i) := by
  have hW : isW (w : Int) := by unfold isW; omega
  have e8 : ((8 : Int) / (w : Int)) = ((8 / w : Nat) : Int) := by simp
  have hpos : 0 < 8 / w := by rcases hw with rfl | rfl | rfl | rfl <;> decide
  have hm : i % (8 / w) < 8 / w := Nat.mod_lt _ hpos
  have hmw : w * (i % (8 / w) + 1) ≤ 8 := by
    have : w * (i % (8 / w) + 1) ≤ w * (8 / w) := Nat.mul_le_mul_left _ (by omega)
    have := Nat.mul_div_le 8 w
    omega
  have hmw1 : 1 ≤ w * (i % (8 / w) + 1) := Nat.mul_pos (by omega) (by omega)
  have e1 : Int.tdiv (i : Int) ((8 / w : Nat) : Int) = ((i / (8 / w) : Nat) : Int) := by simp
  have e0 := tmod_nat i (8 / w)
  unfold digit
  unfold F24.m
  rw [F69_in _ hW, e8]
  simp only [Option.bind_some, if_true]
  rw [e1, e0]
  have hp8 : 8 / w ≤ 8 := Nat.div_le_self _ _
  generalize hp : 8 / w = p at *
  generalize hq : i / p = q at *
  generalize hr : i % p = r at *
  have hv := gd_u8 b hb (q : Int) (by omega)
  have hgv : gd b (q : Int) = (perB b q : Int) := by unfold perB; omega
  have hw8 : w ≤ 8 := by omega
  have e2 : IntKind.wrap .i64 (8 - IntKind.wrap .i64 ((w : Int) * IntKind.wrap .i64 ((r : Int) + 1))) = ((8 - w * (r + 1) : Nat) : Int) := by
    rw [w64 (n := (r : Int) + 1) (by omega) (by omega)]
    have : (w : Int) * ((r : Int) + 1) = ((w * (r + 1) : Nat) : Int) := by simp
    rw [this, w64 (n := ((w * (r + 1) : Nat) : Int)) (by omega) (by omega), w64 (by omega) (by omega)]
    omega
  have e3 : IntKind.wrap .i64 (shlI .i64 1 (w : Int) - 1) = ((2 ^ w - 1 : Nat) : Int) := by
    rcases hw with rfl | rfl | rfl | rfl <;> decide
  have h5 : perB b q / 2 ^ (8 - w * (r + 1)) ≤ 255 := by
    have := Nat.div_le_self (perB b q) (2 ^ (8 - w * (r + 1)))
    omega
  rw [if_neg (by omega), if_pos (by omega), w64 (n := (q : Int)) (by omega) (by omega), if_neg (by omega), if_pos (by omega), e2, if_pos (by omega), if_pos (by omega), hgv, e3, w64 (n := (perB b q : Int)) (by omega) (by omega), shr_i64 _ _ (by omega), and_pow _ _ hw8 h5]
  rfl
theorem allD_at (b : List Int) (w : Nat) (hpos : 0 < 8 / w) : ∀ (k i : Nat), i < 8 / w * k → (allD b w k)[i]? = some (digit b w i)
  | 0, i, h => by omega
  | k + 1, i, h => by
    rw [allD]
    by_cases hi : i < 8 / w * k
    · rw [List.getElem?_append_left (by rw [allD_len]; exact hi)]
      exact allD_at b w hpos k i hi
    · rw [List.getElem?_append_right (by rw [allD_len]; omega), allD_len]
      rw [Nat.mul_add] at h
      have hd : i / (8 / w) = k := by
        rw [Nat.div_eq_iff hpos]
        rw [Nat.mul_comm k]
        omega
      have hmod : i % (8 / w) = i - 8 / w * k := by
        have := Nat.div_add_mod i (8 / w)
        rw [hd] at this
        omega
      unfold digs digit
      rw [hd, hmod]
      generalize 8 / w = p at *
      rw [List.getElem?_map, List.getElem?_range (by omega)]
      rfl
theorem F24_zero (b : List Int) (hl : b.length ≤ 1000) (w i : Int) (hi : -9223372036854775808 ≤ i ∧ i ≤ 9223372036854775807) (h : ¬ isW w ∨ i < 0 ∨ ∃ n : Nat, w = (n : Int) ∧ (b.length : Int) * ((8 / n : Nat) : Int) ≤ i) : F24.m b i w = some 0 := by
  unfold F24.m
  by_cases hW : isW w
  · rw [F69_in w hW]
    simp only [Option.bind_some, if_true]
    by_cases h0 : i < 0
    · rw [if_pos h0]
    · obtain ⟨n, rfl, hn⟩ := (h.resolve_left (fun h => h hW)).resolve_left h0
      have hw : n = 1 ∨ n = 2 ∨ n = 4 ∨ n = 8 := by unfold isW at hW; omega
      have e8 : ((8 : Int) / (n : Int)) = ((8 / n : Nat) : Int) := by simp
      have hpos : 0 < 8 / n := by rcases hw with rfl | rfl | rfl | rfl <;> decide
      rw [e8]
      generalize 8 / n = p at *
      have e1 : Int.tdiv i (p : Int) = i / p := Int.tdiv_eq_ediv_of_nonneg (by omega)
      have h3 : (b.length : Int) ≤ i / p := by rw [Int.le_ediv_iff_mul_le (by omega)]; exact hn
      have h4 : i / p ≤ i := Int.ediv_le_self _ (by omega)
      rw [if_neg h0, if_pos (by omega), e1, w64 (by omega) (by omega), if_pos h3]
  · rw [F69_out w hW]
    rfl
theorem F22_in (b : List Int) (hl : b.length ≤ 1000) (hb : ∀ x ∈ b, 0 ≤ x ∧ x ≤ 255) (w : Nat) (hw : w = 1 ∨ w = 2 ∨ w = 4 ∨ w = 8) : F22.m b (w : Int) = some ((List.range (8 / w * b.length)).map (digit b w)) := by
  have hW : isW (w : Int) := by unfold isW; omega
  have e8 : ((8 : Int) / (w : Int)) = ((8 / w : Nat) : Int) := by simp
  have hpos : 0 < 8 / w := by rcases hw with rfl | rfl | rfl | rfl <;> decide
  have hle : 8 / w * b.length ≤ 8 * b.length := Nat.mul_le_mul_right _ (Nat.div_le_self _ _)
  have h24 : ∀ i : Nat, i < 8 / w * b.length → F24.m b (i : Int) (w : Int) = some (digit b w i) := fun i h => F24_at b hl hb w hw i (by rw [Nat.div_lt_iff_lt_mul hpos, Nat.mul_comm]; exact h) (by omega)
  unfold F22.m
  rw [F69_in _ hW, e8]
  simp only [Option.bind_some, if_true]
  have em : ((8 / w : Nat) : Int) * (b.length : Int) = ((8 / w * b.length : Nat) : Int) := by simp
  rw [em]
  generalize hN : 8 / w * b.length = N at *
  rw [w64 (by omega) (by omega), if_pos (by omega)]
  rw [loop_done (fun k => ((List.range N).map (fun i => if i < k then digit b w i else 0), (k : Int))) N ((List.range N).map (digit b w)) (fun k hk => ?_) ?_ (by rw [Int.toNat_natCast, rep_map]; rfl)]
  · rfl
  · simp only [F22.b1]
    rw [em, w64 (by omega) (by omega), if_neg (by simp), map_same N (fun i => if i < N then digit b w i else 0) (digit b w) (fun i hi => by rw [if_pos hi])]
  · simp only [F22.b1]
    rw [em, w64 (n := (N : Int)) (by omega) (by omega), if_pos (by simp; omega), h24 k hk]
    simp only [Option.bind_some]
    rw [if_pos (by simp; omega), w64 (by omega) (by omega), Int.toNat_natCast, map_set N _ (fun i => if i < k + 1 then digit b w i else 0) k _ hk (fun i hi => ?_)]
    · rfl
    · by_cases a : i = k
      · subst a; rw [if_pos (by omega), if_pos rfl]
      · rw [if_neg a]
        by_cases c : i < k
        · rw [if_pos (by omega), if_pos c]
        · rw [if_neg (by omega), if_neg c]
theorem F22_out (b : List Int) (w : Int) (hw : ¬ isW w) : F22.m b w = some [] := by
  unfold F22.m
  rw [F69_out w hw]
  rfl
theorem allD_map (b : List Int) (w : Nat) (hpos : 0 < 8 / w) : allD b w b.length = (List.range (8 / w * b.length)).map (digit b w) := by
  apply List.ext_getElem?
  intro i
  by_cases h : i < 8 / w * b.length
  · rw [allD_at b w hpos b.length i h]
    simp [h]
  · rw [List.getElem?_eq_none (by rw [allD_len]; omega), List.getElem?_eq_none (by simp; omega)]

end Go.Proofs.Ytmedbpiapeiobaa
