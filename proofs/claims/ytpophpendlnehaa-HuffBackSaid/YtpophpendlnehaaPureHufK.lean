/- What HufK needs. -/
import Derived.Test.YtpophpendlnehaaPureBitK
import Derived.Test.YtpophpendlnehaaHuf
set_option linter.unusedVariables false
set_option linter.unusedSimpArgs false
namespace Go.Proofs.Ytpophpendlnehaa
open Go Go.Eng Go.Proofs
def cnt (l : List Int) (n : Nat) : Int := (l.count (n : Int) : Nat)
theorem cnt_nil (n : Nat) : cnt [] n = 0 := by simp [cnt]
theorem cnt_snoc (l : List Int) (x : Int) (n : Nat) : cnt (l ++ [x]) n = cnt l n + if x = (n : Int) then 1 else 0 := by
  unfold cnt
  rw [List.count_append, List.count_singleton]
  by_cases h : x = (n : Int)
  · simp [h]
  · simp [h]
theorem cnt_le (l : List Int) (n : Nat) : 0 ≤ cnt l n ∧ cnt l n ≤ l.length := by
  unfold cnt
  have := List.count_le_length (a := (n : Int)) (l := l)
  omega
theorem cnt_take (xs : List Int) (k : Nat) (h : k < xs.length) (n : Nat) : cnt (xs.take (k + 1)) n = cnt (xs.take k) n + if xs[k] = (n : Int) then 1 else 0 := by
  rw [take_succ' xs k h, cnt_snoc]
def many (l : List Int) (n : Nat) : Int := if n = 0 then 0 else cnt l n

def Good15 (xs : List Int) : Prop := ∀ x ∈ xs, 0 ≤ x ∧ x ≤ 15
theorem good_at {xs : List Int} (h : Good15 xs) {k : Nat} (hk : k < xs.length) : ∃ m : Nat, xs[k] = (m : Int) ∧ m < 16 := by
  have := h xs[k] (List.getElem_mem hk)
  exact ⟨xs[k].toNat, by omega, by omega⟩

theorem step65 (xs : List Int) (hl : xs.length ≤ 300) (k : Nat) (h : k < xs.length) (hx : 0 ≤ xs[k] ∧ xs[k] ≤ 15) :
    F65.b1 xs (mkA 16 (cnt (xs.take k)), (k : Int)) = some (.inl (mkA 16 (cnt (xs.take (k + 1))), ((k + 1 : Nat) : Int))) := by
  obtain ⟨m, hm, hm16⟩ : ∃ m : Nat, xs[k] = (m : Int) ∧ m < 16 := ⟨xs[k].toNat, by omega, by omega⟩
  have hc := cnt_le (xs.take k) m
  rw [List.length_take] at hc
  simp only [F65.b1]
  rw [if_pos (by omega), if_pos (by omega), gd_at _ _ h, hm, if_neg (by omega), if_pos (by omega), mkA_gd _ _ _ hm16, w64 (by omega) (by omega), w64 (by omega) (by omega)]
  rw [mkA_set 16 _ (cnt (xs.take (k + 1))) m _ hm16 (fun i hi => ?_)]
  · rfl
  · rw [cnt_take xs k h, hm]
    by_cases e : i = m
    · subst e; simp
    · rw [if_neg (by omega), if_neg e]; omega
theorem start65 : (Arr.rep 16 (0 : Int)) = mkA 16 (cnt (([] : List Int))) := by
  rw [mkA_rep]; exact mkA_same _ _ _ fun i _ => cnt_nil i
theorem F65_good (xs : List Int) (hl : xs.length ≤ 300) (hx : Good15 xs) : F65.m xs = some (mkA 16 (many xs), true) := by
  unfold F65.m
  rw [if_neg (by omega)]
  rw [loop_done (fun k => (mkA 16 (cnt (xs.take k)), (k : Int))) xs.length (.inr (mkA 16 (cnt xs))) (fun k hk => step65 xs hl k hk (hx _ (List.getElem_mem hk))) (by simp [F65.b1]) (by rw [start65]; simp)]
  simp only [Option.bind_some, F65.j1]
  have := mkA_set 16 (cnt xs) (many xs) 0 0 (by omega) (fun i _ => by unfold many; rfl)
  rw [show ((0 : Nat) : Int) = 0 from rfl] at this
  rw [this]
theorem F65_bad (xs : List Int) (hl : xs.length ≤ 300) (h0 : ∀ x ∈ xs, 0 ≤ x) (hb : ¬ Good15 xs) : ∃ a, F65.m xs = some (a, false) := by
  rcases first_not (fun x : Int => x ≤ 15) xs with h | ⟨j, hj, hn, hall⟩
  · exact absurd (fun x hx => ⟨h0 x hx, h x hx⟩) hb
  · unfold F65.m
    rw [if_neg (by omega)]
    refine ⟨mkA 16 (cnt (xs.take j)), ?_⟩
    rw [loop_done (fun k => (mkA 16 (cnt (xs.take k)), (k : Int))) j (.inl (mkA 16 (cnt (xs.take j)), false)) (fun k hk => step65 xs hl k (by omega) ⟨h0 _ (List.getElem_mem _), hall k hk⟩) ?_ (by rw [start65]; simp)]
    · rfl
    · simp only [F65.b1]
      rw [if_pos (by omega), if_pos (by omega), gd_at _ _ hj, if_pos (by omega)]
theorem F65_long (xs : List Int) (hl : 300 < xs.length) : F65.m xs = some (Arr.rep 16 0, false) := by
  unfold F65.m
  rw [if_pos (by omega)]

/-! ### Sums by lengths, and by symbols -/
def p2 (n : Nat) : Int := 2 ^ (15 - n)
theorem p2_le (n : Nat) : 1 ≤ p2 n ∧ p2 n ≤ 32768 := by
  unfold p2
  have h1 : (2 : Int) ^ (15 - n) ≤ 2 ^ 15 := by
    have := Nat.pow_le_pow_right (n := 2) (by omega) (show 15 - n ≤ 15 by omega)
    exact_mod_cast this
  have h2 : (0 : Int) < 2 ^ (15 - n) := by
    have := Nat.pow_pos (a := 2) (n := 15 - n) (by omega)
    exact_mod_cast this
  omega
def bySym (g : Nat → Int) : List Int → Int
  | [] => 0
  | x :: l => (if 0 < x then g x.toNat else 0) + bySym g l
theorem bySym_snoc (g : Nat → Int) (l : List Int) (x : Int) : bySym g (l ++ [x]) = bySym g l + if 0 < x then g x.toNat else 0 := by
  induction l with
  | nil => simp [bySym]
  | cons y l ih => simp [bySym, ih]; omega
theorem one16 (g : Nat → Int) (m : Nat) (h : m < 16) : sumTo (fun i => if i ≠ 0 ∧ m = i then g i else 0) 16 = if 0 < m then g m else 0 := by
  have : m = 0 ∨ m = 1 ∨ m = 2 ∨ m = 3 ∨ m = 4 ∨ m = 5 ∨ m = 6 ∨ m = 7 ∨ m = 8 ∨ m = 9 ∨ m = 10 ∨ m = 11 ∨ m = 12 ∨ m = 13 ∨ m = 14 ∨ m = 15 := by omega
  rcases this with rfl | rfl | rfl | rfl | rfl | rfl | rfl | rfl | rfl | rfl | rfl | rfl | rfl | rfl | rfl | rfl <;> simp [sumTo]
theorem sum_cons (g : Nat → Int) (l : List Int) (m : Nat) (h : m < 16) : sumTo (fun i => many ((m : Int) :: l) i * g i) 16 = sumTo (fun i => many l i * g i) 16 + if 0 < m then g m else 0 := by
  rw [← one16 g m h, ← sumTo_add]
  apply sumTo_same
  intro i _
  unfold many cnt
  by_cases h0 : i = 0
  · simp [h0]
  · by_cases e : m = i
    · subst e; simp [h0, Int.add_mul]
    · have : ¬ ((m : Int) = (i : Int)) := by omega
      rw [List.count_cons]
      simp [h0, e, this]
theorem sum_sym (g : Nat → Int) : ∀ (l : List Int), Good15 l → sumTo (fun i => many l i * g i) 16 = bySym g l
  | [], _ => by
    rw [sumTo_same _ (fun _ => 0) 16 (fun i _ => by simp [many, cnt])]
    simp [sumTo, bySym]
  | x :: l, h => by
    obtain ⟨m, hm, h16⟩ : ∃ m : Nat, x = (m : Int) ∧ m < 16 := by
      have := h x (by simp)
      exact ⟨x.toNat, by omega, by omega⟩
    subst hm
    rw [sum_cons g l m h16, sum_sym g l (fun y hy => h y (by simp [hy]))]
    simp only [bySym, Int.toNat_natCast]
    by_cases h0 : 0 < m
    · rw [if_pos h0, if_pos (by omega)]; omega
    · rw [if_neg h0, if_neg (by omega)]; omega
theorem bySym_bound (g : Nat → Int) (B : Int) (hg : ∀ n, 0 ≤ g n ∧ g n ≤ B) : ∀ l : List Int, 0 ≤ bySym g l ∧ bySym g l ≤ B * l.length
  | [] => by simp [bySym]
  | x :: l => by
    have := bySym_bound g B hg l
    have h2 := hg x.toNat
    simp only [bySym, List.length_cons]
    have : B * ((l.length + 1 : Nat) : Int) = B * l.length + B := by rw [Int.natCast_add, Int.mul_add]; simp
    rw [this]
    split <;> omega
theorem bySym_zero : ∀ l : List Int, bySym (fun _ => 1) l = 0 → ∀ g, bySym g l = 0
  | [], _, g => rfl
  | x :: l, h, g => by
    have h1 := (bySym_bound (fun _ => 1) 1 (fun _ => by omega) l).1
    simp only [bySym] at h ⊢
    split at h
    · omega
    · rename_i hx
      rw [if_neg hx, bySym_zero l (by omega) g]; omega
theorem bySym_one : ∀ l : List Int, Good15 l → bySym (fun _ => 1) l = 1 → ∃ m : Nat, 0 < m ∧ m < 16 ∧ ∀ g, bySym g l = g m
  | [], _, h => by simp [bySym] at h
  | x :: l, hg, h => by
    have h1 := (bySym_bound (fun _ => 1) 1 (fun _ => by omega) l).1
    have hx := hg x (by simp)
    simp only [bySym] at h ⊢
    split at h
    · rename_i hp
      exact ⟨x.toNat, by omega, by omega, fun g => by rw [bySym_zero l (by omega) g, if_pos hp]; omega⟩
    · rename_i hp
      obtain ⟨m, a, b, hm⟩ := bySym_one l (fun y hy => hg y (by simp [hy])) (by omega)
      exact ⟨m, a, b, fun g => by rw [hm g, if_neg hp]; omega⟩

/-! ### May -/
def may (xs : List Int) : Bool := decide (bySym p2 xs = 32768) || decide (bySym (fun _ => 1) xs = 0) || (decide (bySym (fun _ => 1) xs = 1) && decide (bySym p2 xs = 16384))
theorem shl_p2 (a : Int) (n : Nat) (h : n < 16) (ha : 0 ≤ a ∧ a ≤ 300) : shlI .i64 a (15 - n : Int) = a * p2 n := by
  have e : min (15 - (n : Int)).toNat (IntKind.bits .i64) = 15 - n := by
    have : IntKind.bits .i64 = 64 := rfl
    rw [this]; omega
  unfold shlI
  rw [e]
  show IntKind.wrap .i64 (a * p2 n) = _
  have := p2_le n
  have h1 : a * p2 n ≤ 300 * 32768 := by
    have h1 : a * p2 n ≤ 300 * p2 n := Int.mul_le_mul_of_nonneg_right ha.2 (by omega)
    omega
  have h0 : 0 ≤ a * p2 n := Int.mul_nonneg ha.1 (by omega)
  exact w64 (by omega) (by omega)
theorem sumTo_le (g : Nat → Int) (B : Int) (hg : ∀ i, 0 ≤ g i ∧ g i ≤ B) : ∀ n : Nat, 0 ≤ sumTo g n ∧ sumTo g n ≤ B * n
  | 0 => by simp [sumTo]
  | n + 1 => by
    have := sumTo_le g B hg n
    have := hg n
    have : B * ((n + 1 : Nat) : Int) = B * n + B := by rw [Int.natCast_add, Int.mul_add]; simp
    simp only [sumTo]
    omega
theorem many_le (xs : List Int) (hl : xs.length ≤ 300) (n : Nat) : 0 ≤ many xs n ∧ many xs n ≤ 300 := by
  have := cnt_le xs n
  unfold many
  split <;> omega
theorem mul_le (xs : List Int) (hl : xs.length ≤ 300) (n : Nat) : 0 ≤ many xs n * p2 n ∧ many xs n * p2 n ≤ 9830400 := by
  have ha := many_le xs hl n
  have := p2_le n
  have h1 : many xs n * p2 n ≤ 300 * p2 n := Int.mul_le_mul_of_nonneg_right ha.2 (by omega)
  have h0 : 0 ≤ many xs n * p2 n := Int.mul_nonneg ha.1 (by omega)
  omega
theorem F51_good (xs : List Int) (hl : xs.length ≤ 300) (hx : Good15 xs) : F51.m xs = some (may xs) := by
  unfold F51.m
  rw [F65_good xs hl hx]
  simp only [Option.bind_some, if_true]
  rw [loop_done (fun k => (sumTo (many xs) k, sumTo (fun i => many xs i * p2 i) k, (k : Int))) 16 (sumTo (many xs) 16, sumTo (fun i => many xs i * p2 i) 16) (fun k hk => ?_) (by simp [F51.b1]) (by simp [sumTo])]
  · simp only [Option.bind_some, F51.j1]
    have h1 := sum_sym (fun _ => 1) xs hx
    simp only [Int.mul_one] at h1
    rw [h1, sum_sym p2 xs hx]
    have h2 : gd (mkA 16 (many xs)).l (1 : Int) = many xs 1 := mkA_gd 16 (many xs) 1 (by omega)
    rw [h2]
    unfold may
    by_cases a : bySym p2 xs = 32768
    · simp [a]
    · by_cases b : bySym (fun _ => 1) xs = 0
      · simp [a, b]
      · by_cases d : bySym (fun _ => 1) xs = 1
        · obtain ⟨m, hm0, hm16, hm⟩ := bySym_one xs hx d
          have e1 : many xs 1 = if m = 1 then 1 else 0 := by
            have h3 := sum_sym (fun i => if i = 1 then 1 else 0) xs hx
            rw [hm] at h3
            rw [← h3]
            simp [sumTo]
          simp only [a, b, d, if_false, if_true, decide_true, decide_false, Bool.false_or, Bool.true_and, hm p2, e1]
          have : m = 1 ∨ m = 2 ∨ m = 3 ∨ m = 4 ∨ m = 5 ∨ m = 6 ∨ m = 7 ∨ m = 8 ∨ m = 9 ∨ m = 10 ∨ m = 11 ∨ m = 12 ∨ m = 13 ∨ m = 14 ∨ m = 15 := by omega
          rcases this with rfl | rfl | rfl | rfl | rfl | rfl | rfl | rfl | rfl | rfl | rfl | rfl | rfl | rfl | rfl <;> decide
        · simp [a, b, d]
  · have a := many_le xs hl k
    have b := mul_le xs hl k
    have c := sumTo_le (many xs) 300 (many_le xs hl) k
    have d := sumTo_le (fun i => many xs i * p2 i) 9830400 (mul_le xs hl) k
    simp only [F51.b1]
    rw [if_pos (by omega), if_pos (by omega), w64 (n := 15 - (k : Int)) (by omega) (by omega), if_pos (by omega), mkA_gd _ _ _ hk, shl_p2 _ k hk a, w64 (by omega) (by omega), w64 (by omega) (by omega), w64 (by omega) (by omega)]
    rfl
theorem F51_bad (xs : List Int) (h0 : ∀ x ∈ xs, 0 ≤ x) (hb : ¬ (xs.length ≤ 300 ∧ Good15 xs)) : F51.m xs = some false := by
  unfold F51.m
  by_cases hl : xs.length ≤ 300
  · obtain ⟨a, ha⟩ := F65_bad xs hl h0 (fun h => hb ⟨hl, h⟩)
    rw [ha]; rfl
  · rw [F65_long xs (by omega)]; rfl

theorem half (x : Int) (m : Nat) (hx : x = (m : Int)) (h : m < 16) (d12 : Int) (xs : List Int) (hg : gd xs d12 = x) : loop (F50.b2 xs d12) ((32768 : Int), (0 : Int)) = some (p2 m) := by
  refine loop_done (fun k => (p2 k, (k : Int))) m (p2 m) (fun k hk => ?_) ?_ (by rfl)
  · simp only [F50.b2]
    have hp := p2_le k
    have e : Int.tdiv (p2 k) 2 = p2 (k + 1) := by
      have : k = 0 ∨ k = 1 ∨ k = 2 ∨ k = 3 ∨ k = 4 ∨ k = 5 ∨ k = 6 ∨ k = 7 ∨ k = 8 ∨ k = 9 ∨ k = 10 ∨ k = 11 ∨ k = 12 ∨ k = 13 ∨ k = 14 := by omega
      rcases this with rfl | rfl | rfl | rfl | rfl | rfl | rfl | rfl | rfl | rfl | rfl | rfl | rfl | rfl | rfl <;> decide
    have hp' := p2_le (k + 1)
    rw [hg, hx, if_pos (by omega), e, w64 (by omega) (by omega), w8 (by omega) (by omega)]
    rfl
  · simp only [F50.b2]
    rw [hg, hx, if_neg (by omega)]
theorem step50 (xs : List Int) (hl : xs.length ≤ 300) (k : Nat) (h : k < xs.length) (hx : 0 ≤ xs[k] ∧ xs[k] ≤ 15) :
    F50.b1 xs (bySym p2 (xs.take k), bySym (fun _ => 1) (xs.take k), (k : Int)) = some (.inl (bySym p2 (xs.take (k + 1)), bySym (fun _ => 1) (xs.take (k + 1)), ((k + 1 : Nat) : Int))) := by
  obtain ⟨m, hm, hm16⟩ : ∃ m : Nat, xs[k] = (m : Int) ∧ m < 16 := ⟨xs[k].toNat, by omega, by omega⟩
  have b1 := bySym_bound p2 32768 (fun n => by have := p2_le n; omega) (xs.take k)
  have b2 := bySym_bound (fun _ => 1) 1 (fun n => by omega) (xs.take k)
  have hp := p2_le m
  rw [List.length_take] at b1 b2
  rw [take_succ' xs k h, bySym_snoc, bySym_snoc, hm]
  simp only [F50.b1]
  rw [if_pos (by omega), if_pos (by omega), gd_at _ _ h, hm, if_neg (by omega)]
  by_cases h0 : (0 : Int) < (m : Int)
  · rw [if_pos h0, half _ m hm hm16 _ xs (gd_at _ _ h)]
    simp only [Option.bind_some, F50.j4, F50.j3, F50.j2, Int.toNat_natCast]
    rw [if_pos h0, if_pos h0, w64 (by omega) (by omega), w64 (by omega) (by omega), w64 (by omega) (by omega)]
    rfl
  · simp only [if_neg h0, F50.j3, F50.j2]
    rw [w64 (by omega) (by omega)]
    simp
theorem F50_good (xs : List Int) (hl : xs.length ≤ 300) (hx : Good15 xs) : F50.m xs = some (may xs) := by
  unfold F50.m
  rw [if_neg (by omega)]
  rw [loop_done (fun k => (bySym p2 (xs.take k), bySym (fun _ => 1) (xs.take k), (k : Int))) xs.length (.inr (bySym p2 xs, bySym (fun _ => 1) xs)) (fun k hk => step50 xs hl k hk (hx _ (List.getElem_mem hk))) (by simp [F50.b1]) (by simp [bySym])]
  simp only [Option.bind_some, F50.j1]
  unfold may
  by_cases a : bySym p2 xs = 32768
  · simp [a]
  · by_cases b : bySym (fun _ => 1) xs = 0
    · simp [a, b]
    · by_cases d : bySym (fun _ => 1) xs = 1 <;> simp [a, b, d]
theorem F50_bad (xs : List Int) (h0 : ∀ x ∈ xs, 0 ≤ x) (hb : ¬ (xs.length ≤ 300 ∧ Good15 xs)) : F50.m xs = some false := by
  unfold F50.m
  by_cases hl : xs.length ≤ 300
  · rw [if_neg (by omega)]
    rcases first_not (fun x : Int => x ≤ 15) xs with h | ⟨j, hj, hn, hall⟩
    · exact absurd ⟨hl, fun x hx => ⟨h0 x hx, h x hx⟩⟩ hb
    · rw [loop_done (fun k => (bySym p2 (xs.take k), bySym (fun _ => 1) (xs.take k), (k : Int))) j (.inl false) (fun k hk => step50 xs hl k (by omega) ⟨h0 _ (List.getElem_mem _), hall k hk⟩) ?_ (by simp [bySym])]
      · rfl
      · simp only [F50.b1]
        rw [if_pos (by omega), if_pos (by omega), gd_at _ _ hj, if_pos (by omega)]
  · rw [if_pos (by omega)]

/-! ### Codes -/
def itr : Nat → Int → Int
  | 0, x => x
  | n + 1, x => IntKind.wrap .i64 (itr n x + 1)
def fst (l : List Int) : Nat → Int
  | 0 => 0
  | 1 => 0
  | n + 2 => IntKind.wrap .i64 (2 * IntKind.wrap .i64 (fst l (n + 1) + many l (n + 1)))
def code (xs : List Int) (s : Nat) : Int := if 0 < gd xs s then IntKind.wrap .u16 (itr ((xs.take s).count (gd xs s)) (fst xs (gd xs s).toNat)) else 0
def codes (xs : List Int) : List Int := (List.range xs.length).map (code xs)

theorem F66_is (xs : List Int) : F66.m (mkA 16 (many xs)) = some (mkA 16 (fst xs)) := by
  unfold F66.m
  rw [loop_done (fun k => (mkA 16 (fun i => if i < k + 2 then fst xs i else 0), ((k + 2 : Nat) : Int))) 14 (mkA 16 (fst xs)) (fun k hk => ?_) ?_ ?_]
  · rfl
  · simp only [F66.b1]
    rw [if_neg (by omega)]
    rw [mkA_same 16 (fun i => if i < 14 + 2 then fst xs i else 0) (fst xs) (fun i hi => by rw [if_pos (by omega)])]
  · rw [mkA_rep]
    rw [mkA_same 16 (fun _ => (0 : Int)) (fun i => if i < 0 + 2 then fst xs i else 0) (fun i hi => ?_)]
    · rfl
    · have : i = 0 ∨ i = 1 ∨ 2 ≤ i := by omega
      rcases this with rfl | rfl | h
      · rfl
      · rfl
      · rw [if_neg (by omega)]
  · simp only [F66.b1]
    have e : ((k + 2 : Nat) : Int) - 1 = ((k + 1 : Nat) : Int) := by omega
    rw [if_pos (by omega), e, w64 (n := ((k + 1 : Nat) : Int)) (by omega) (by omega), if_pos (by omega), if_pos (by omega), mkA_gd _ _ _ (by omega), mkA_gd _ _ _ (by omega), if_pos (by omega), w64 (n := ((k + 2 : Nat) : Int) + 1) (by omega) (by omega)]
    rw [mkA_set 16 _ (fun i => if i < k + 1 + 2 then fst xs i else 0) (k + 2) _ (by omega) (fun i hi => ?_)]
    · rfl
    · by_cases a : i = k + 2
      · subst a; rw [if_pos (by omega), if_pos rfl]; rfl
      · rw [if_neg a]
        by_cases b : i < k + 2
        · rw [if_pos (by omega), if_pos b]
        · rw [if_neg (by omega), if_neg b]

def cn (l : List Int) (n : Nat) : Nat := if n = 0 then 0 else l.count (n : Int)
theorem count_snoc (l : List Int) (x : Int) (n : Nat) : (l ++ [x]).count (n : Int) = l.count (n : Int) + if x = (n : Int) then 1 else 0 := by
  rw [List.count_append, List.count_singleton]
  by_cases h : x = (n : Int) <;> simp [h]
theorem F48_is (xs : List Int) (hl : xs.length ≤ 300) (hx : Good15 xs) (hm : may xs = true) : F48.m xs = some (codes xs, 0) := by
  unfold F48.m
  rw [F51_good xs hl hx, hm, F65_good xs hl hx]
  simp only [Option.bind_some, if_true]
  rw [F66_is]
  simp only [Option.bind_some]
  rw [if_pos (by omega)]
  rw [loop_done (fun k => (mkA 16 (fun n => itr (cn (xs.take k) n) (fst xs n)), (List.range xs.length).map (fun s => if s < k then code xs s else 0), (k : Int))) xs.length (codes xs) (fun k hk => ?_) ?_ ?_]
  · rfl
  · simp only [F48.b1]
    rw [if_neg (by omega)]
    rw [map_same xs.length (fun s => if s < xs.length then code xs s else 0) (code xs) (fun i hi => by rw [if_pos hi])]
    rfl
  · rw [Int.toNat_natCast, rep_map]
    simp only [List.take_zero]
    rw [mkA_same 16 (fst xs) (fun n => itr (cn [] n) (fst xs n)) (fun i hi => by simp [cn, itr])]
    rfl
  · obtain ⟨m, hm, hm16⟩ := good_at hx hk
    simp only [F48.b1]
    rw [if_pos (by omega), if_pos (by omega), gd_at _ _ hk, hm]
    by_cases h0 : (0 : Int) < (m : Int)
    · have hm0 : m ≠ 0 := by omega
      rw [if_pos h0, if_pos (by omega), if_pos (by simp; omega), mkA_gd _ _ _ hm16]
      simp only [F48.j2]
      rw [w64 (n := (k : Int) + 1) (by omega) (by omega)]
      rw [mkA_set 16 _ (fun n => itr (cn (xs.take (k + 1)) n) (fst xs n)) m _ hm16 (fun i hi => ?_)]
      · rw [Int.toNat_natCast, map_set xs.length _ (fun s => if s < k + 1 then code xs s else 0) k _ hk (fun i hi => ?_)]
        · rfl
        · by_cases a : i = k
          · subst a
            rw [if_pos (by omega), if_pos rfl]
            unfold code
            rw [gd_at _ _ hk, hm, if_pos h0, Int.toNat_natCast]
            simp only [cn, if_neg hm0]
          · rw [if_neg a]
            by_cases b : i < k
            · rw [if_pos (by omega), if_pos b]
            · rw [if_neg (by omega), if_neg b]
      · rw [take_succ' xs k hk, hm]
        by_cases a : i = m
        · subst a
          rw [if_pos rfl]
          simp only [cn, if_neg hm0, count_snoc, if_true]
          rfl
        · rw [if_neg a]
          unfold cn
          by_cases b : i = 0
          · simp [b]
          · rw [if_neg b, if_neg b, count_snoc, if_neg (by omega)]; rfl
    · have hm0 : m = 0 := by omega
      rw [if_neg h0]
      simp only [F48.j2]
      rw [w64 (n := (k : Int) + 1) (by omega) (by omega)]
      rw [mkA_same 16 (fun n => itr (cn (xs.take k) n) (fst xs n)) (fun n => itr (cn (xs.take (k + 1)) n) (fst xs n)) (fun i hi => ?_)]
      · rw [map_same xs.length (fun s => if s < k then code xs s else 0) (fun s => if s < k + 1 then code xs s else 0) (fun i hi => ?_)]
        · rfl
        · by_cases a : i = k
          · subst a
            rw [if_pos (by omega), if_neg (by omega)]
            unfold code
            rw [gd_at _ _ hk, hm, if_neg h0]
          · by_cases b : i < k
            · rw [if_pos (by omega), if_pos b]
            · rw [if_neg (by omega), if_neg b]
      · rw [take_succ' xs k hk, hm]
        unfold cn
        by_cases b : i = 0
        · simp [b]
        · rw [if_neg b, if_neg b, count_snoc, if_neg (by omega)]; rfl

theorem F49_inner (xs : List Int) (hl : xs.length ≤ 300) (n : Int) (l0 : List Int) (h0 : l0.length ≤ 4500) : ∃ l, loop (F49.b2 xs n) (l0, 0) = some l ∧ l.length ≤ l0.length + 300 := by
  refine loop_ends (fun x : List Int × Int => 0 ≤ x.2 ∧ x.2 ≤ (xs.length : Int) ∧ (x.1.length : Int) ≤ (l0.length : Int) + x.2) (fun x => ((xs.length : Int) - x.2).toNat) (fun l : List Int => l.length ≤ l0.length + 300) (fun x hx => ?_) (l0, 0) ⟨by simp, by simp, by simp⟩
  obtain ⟨l, i⟩ := x
  simp only at hx
  obtain ⟨h1, h2, h3⟩ := hx
  simp only [F49.b2]
  by_cases hi : i < (xs.length : Int)
  · rw [if_pos hi, if_pos ⟨h1, hi⟩]
    by_cases e : IntKind.wrap .i64 (gd xs i) = n
    · rw [if_pos e, if_pos (by simp; omega)]
      simp only [F49.j4]
      rw [w64 (by omega) (by omega)]
      refine ⟨_, rfl, fun x' hx' => ?_, fun y hy => by cases hy⟩
      cases hx'
      refine ⟨⟨by omega, by omega, by simp; omega⟩, by simp only; omega⟩
    · rw [if_neg e]
      simp only [F49.j4]
      rw [w64 (by omega) (by omega)]
      refine ⟨_, rfl, fun x' hx' => ?_, fun y hy => by cases hy⟩
      cases hx'
      refine ⟨⟨by omega, by omega, by simp only; omega⟩, by simp only; omega⟩
  · rw [if_neg hi]
    refine ⟨_, rfl, fun x' hx' => (by cases hx'), fun y hy => ?_⟩
    cases hy
    omega
theorem F49_is (xs : List Int) (hl : xs.length ≤ 300) (hx : Good15 xs) (hm : may xs = true) : ∃ a b c l, F49.m xs = some (.inl (a, b, c, l)) := by
  unfold F49.m
  rw [F51_good xs hl hx, hm, F65_good xs hl hx]
  simp only [Option.bind_some, if_true]
  rw [F66_is]
  simp only [Option.bind_some]
  obtain ⟨y, hy, _⟩ := loop_ends (b := F49.b1 xs) (fun x => 1 ≤ x.2.2 ∧ x.2.2 ≤ 16 ∧ (x.2.1.length : Int) ≤ 300 * (x.2.2 - 1)) (fun x => (16 - x.2.2).toNat) (fun _ => True) (fun x hx => by
    obtain ⟨a, l, i⟩ := x
    simp only at hx
    obtain ⟨h1, h2, h3⟩ := hx
    simp only [F49.b1]
    by_cases hi : i ≤ 15
    · rw [if_pos hi, if_pos (by omega)]
      obtain ⟨l', hl', hb⟩ := F49_inner xs hl i l (by omega)
      rw [hl']
      simp only [Option.bind_some, F49.j3, F49.j2]
      rw [w64 (n := i + 1) (by omega) (by omega)]
      refine ⟨_, rfl, fun x' hx' => ?_, fun y hy => by cases hy⟩
      cases hx'
      exact ⟨⟨by simp only; omega, by simp only; omega, by simp only; omega⟩, by simp only; omega⟩
    · rw [if_neg hi]
      exact ⟨_, rfl, fun x' hx' => (by cases hx'), fun y hy => trivial⟩) (Arr.rep 16 0, [], 1) ⟨by simp, by simp, by simp⟩
  rw [hy]
  exact ⟨_, _, _, _, rfl⟩

/-! ### The law -/
theorem huff_awake : F47.m = some true := by
  unfold F47.m
  rw [F48_is [2, 1, 2] (by decide) (by unfold Good15; decide) (by decide)]
  have : codes [2, 1, 2] = [2, 0, 3] := by decide
  rw [this]
  simp [gd]
end Go.Proofs.Ytpophpendlnehaa
