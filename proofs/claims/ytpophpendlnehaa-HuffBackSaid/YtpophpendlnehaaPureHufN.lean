/- What HufN needs. -/
import Derived.Test.YtpophpendlnehaaPureHufT
import Derived.Test.YtpophpendlnehaaHuf
set_option linter.unusedVariables false
set_option linter.unusedSimpArgs false
namespace Go.Proofs.Ytpophpendlnehaa
open Go Go.Eng Go.Proofs
/-! ### The table -/
def ixk (xs : List Int) (n : Int) : Nat → List Int
  | 0 => []
  | k + 1 => ixk xs n k ++ if gd xs (k : Int) = n then [(k : Int)] else []
theorem ixk_len (xs : List Int) (n : Int) : ∀ k, k ≤ xs.length → (ixk xs n k).length = (xs.take k).count n
  | 0, _ => by simp [ixk]
  | k + 1, h => by
    rw [take_gd xs k (by omega), List.count_append, List.count_singleton, ← ixk_len xs n k (by omega)]
    simp only [ixk, List.length_append]
    by_cases e : gd xs (k : Int) = n <;> simp [e]
theorem ixk_at (xs : List Int) (n : Int) (s : Nat) (hn : gd xs (s : Int) = n) : ∀ k, s < k → k ≤ xs.length → gd (ixk xs n k) (((xs.take s).count n : Nat) : Int) = (s : Int)
  | 0, h, _ => by omega
  | k + 1, h, hk => by
    simp only [ixk]
    have hl := ixk_len xs n k (by omega)
    by_cases e : s = k
    · subst e
      rw [if_pos hn, gd_append_right _ _ _ (by omega), hl, Nat.sub_self]; rfl
    · rw [gd_append_left _ _ _ ?_, ixk_at xs n s hn k (by omega) (by omega)]
      have h1 := count_take_lt n (xs.take k) s (by rw [List.length_take]; omega) (by rw [List.getElem_take, ← gd_at xs s (by omega)]; exact hn)
      rw [List.take_take, Nat.min_eq_left (by omega)] at h1
      omega
def sy (xs : List Int) : Nat → List Int
  | 0 => []
  | n + 1 => sy xs n ++ ixk xs ((n + 1 : Nat) : Int) xs.length
def fr (xs : List Int) (n : Nat) : Int := if n = 0 then 0 else ((sy xs (n - 1)).length : Int)
theorem sy_len (xs : List Int) (hl : xs.length ≤ 300) : ∀ n, (sy xs n).length ≤ 300 * n
  | 0 => by simp [sy]
  | n + 1 => by
    have h1 := sy_len xs hl n
    have h2 := ixk_len xs ((n + 1 : Nat) : Int) xs.length (Nat.le_refl _)
    have h3 := List.count_le_length (a := ((n + 1 : Nat) : Int)) (l := xs.take xs.length)
    rw [List.length_take] at h3
    simp only [sy, List.length_append]
    omega
theorem sy_at (xs : List Int) (n k : Nat) (hk : k < (ixk xs ((n + 1 : Nat) : Int) xs.length).length) : ∀ j, gd (sy xs (n + 1 + j)) (((sy xs n).length + k : Nat) : Int) = gd (ixk xs ((n + 1 : Nat) : Int) xs.length) (k : Int) ∧ (sy xs n).length + k < (sy xs (n + 1 + j)).length
  | 0 => by
    simp only [sy, Nat.add_zero, List.length_append]
    rw [gd_append_right _ _ _ (by omega), show (sy xs n).length + k - (sy xs n).length = k by omega]
    exact ⟨rfl, by omega⟩
  | j + 1 => by
    obtain ⟨h1, h2⟩ := sy_at xs n k hk j
    rw [← Nat.add_assoc]
    simp only [sy, List.length_append]
    rw [gd_append_left _ _ _ h2, h1]
    exact ⟨rfl, by omega⟩
theorem F49_loop (xs : List Int) (hl : xs.length ≤ 300) (hx : Good15 xs) (n : Nat) (l0 : List Int) (h0 : l0.length ≤ 5000) : loop (F49.b2 xs (n : Int)) (l0, 0) = some (l0 ++ ixk xs (n : Int) xs.length) := by
  refine loop_done (fun k => (l0 ++ ixk xs (n : Int) k, (k : Int))) xs.length _ (fun k hk => ?_) ?_ (by simp [ixk])
  · obtain ⟨m, hm, hm16⟩ := good_at hx hk
    have h1 := ixk_len xs (n : Int) k (by omega)
    have h3 := List.count_le_length (a := (n : Int)) (l := xs.take k)
    rw [List.length_take] at h3
    simp only [F49.b2]
    rw [if_pos (by omega), if_pos (by omega), gd_at _ _ hk, hm, w64 (n := (m : Int)) (by omega) (by omega)]
    simp only [ixk, gd_at _ _ hk, hm]
    by_cases e : (m : Int) = (n : Int)
    · rw [if_pos e, if_pos e, if_pos (by simp; omega)]
      simp only [F49.j4]
      rw [w64 (by omega) (by omega), List.append_assoc]; rfl
    · rw [if_neg e, if_neg e]
      simp only [F49.j4]
      rw [w64 (by omega) (by omega), List.append_nil]; rfl
  · simp only [F49.b2]
    rw [if_neg (by omega)]
theorem F49_tab (xs : List Int) (hl : xs.length ≤ 300) (hx : Good15 xs) (hm : may xs = true) : F49.m xs = some (.inl (mkA 16 (fst xs), mkA 16 (many xs), mkA 16 (fr xs), sy xs 15)) := by
  unfold F49.m
  rw [F51_good xs hl hx, hm, F65_good xs hl hx, Option.bind_some, if_pos rfl, Option.bind_some]
  simp only
  rw [F66_is, Option.bind_some, loop_done (fun k => (mkA 16 (fun i => if i ≤ k then fr xs i else 0), sy xs k, ((k + 1 : Nat) : Int))) 15 (mkA 16 (fr xs), sy xs 15) (fun k hk => ?_) ?_ ?_]
  · rfl
  · simp only [F49.b1]
    rw [if_neg (by omega), mkA_same 16 (fun i => if i ≤ 15 then fr xs i else 0) (fr xs) (fun i hi => by rw [if_pos (by omega)])]
  · rw [mkA_rep, mkA_same 16 (fun _ => (0 : Int)) (fun i => if i ≤ 0 then fr xs i else 0) (fun i hi => ?_)]
    · rfl
    · by_cases h : i = 0
      · subst h; rfl
      · rw [if_neg (by omega)]
  · have hs := sy_len xs hl k
    simp only [F49.b1]
    rw [if_pos (by omega), if_pos (by omega), F49_loop xs hl hx (k + 1) (sy xs k) (by omega), Option.bind_some]
    simp only [F49.j3, F49.j2]
    rw [w64 (by omega) (by omega), mkA_set 16 _ (fun i => if i ≤ k + 1 then fr xs i else 0) (k + 1) _ (by omega) (fun i hi => ?_)]
    · rfl
    · by_cases a : i = k + 1
      · subst a
        rw [if_pos (by omega), if_pos rfl]
        unfold fr
        rw [if_neg (by omega), show k + 1 - 1 = k by omega]
      · rw [if_neg a]
        by_cases b : i ≤ k
        · rw [if_pos (by omega), if_pos b]
        · rw [if_neg (by omega), if_neg b]
theorem longest68 (xs : List Int) (x2 x4 : Arr Int 16) (x6 : List Int) : ∃ L : Nat, F68.m x2 (mkA 16 (many xs)) x4 x6 = some (L : Int) ∧ L ≤ 15 ∧ (∀ n, L < n → n ≤ 15 → cn xs n = 0) ∧ (1 ≤ L → 0 < cn xs L) := by
  unfold F68.m
  obtain ⟨y, hy, hQ⟩ := loop_ends (b := F68.b1 (mkA 16 (many xs))) (fun d => ∃ n : Nat, d = (n : Int) ∧ n ≤ 15 ∧ ∀ m, n < m → m ≤ 15 → cn xs m = 0) (fun d => d.toNat)
    (fun y => (∃ L : Nat, y = .inl (L : Int) ∧ L ≤ 15 ∧ (∀ n, L < n → n ≤ 15 → cn xs n = 0) ∧ (1 ≤ L → 0 < cn xs L)) ∨ (y = .inr () ∧ ∀ n, 0 < n → n ≤ 15 → cn xs n = 0)) (fun d hd => by
      obtain ⟨n, rfl, h1, h2⟩ := hd
      simp only [F68.b1]
      by_cases h0 : n = 0
      · subst h0
        rw [if_neg (by omega)]
        exact out_ (x := ((0 : Nat) : Int)) (.inr ⟨rfl, h2⟩)
      · rw [if_pos (by omega), if_pos (by omega), mkA_gd _ _ _ (by omega), many_cn]
        by_cases hc : cn xs n = 0
        · rw [if_neg (by omega), w64 (by omega) (by omega)]
          refine on_ (x := (n : Int)) ⟨n - 1, by omega, by omega, fun m hm hm' => ?_⟩ (by omega)
          by_cases e : m = n
          · rw [e]; exact hc
          · exact h2 m (by omega) hm'
        · rw [if_pos (by omega)]
          exact out_ (x := (n : Int)) (.inl ⟨n, rfl, h1, h2, fun _ => by omega⟩)) 15 ⟨15, rfl, by omega, fun m h1 h2 => by omega⟩
  rw [hy, Option.bind_some]
  rcases hQ with ⟨L, rfl, h⟩ | ⟨rfl, h⟩
  · exact ⟨L, rfl, h⟩
  · exact ⟨0, rfl, by omega, h, fun h => by omega⟩
theorem get1 (b : List Int) (q : Nat) (hb : b.length ≤ 100000) (hu : ∀ y ∈ b, 0 ≤ y ∧ y ≤ 255) (h : q < 8 * b.length) : F39.m b (q : Int) 1 = some (((gd (bO b) (q : Int)).toNat : Int), 0, ((q + 1 : Nat) : Int)) := by
  rw [show (1 : Int) = ((1 : Nat) : Int) from rfl, get_is b q 1 (by omega) hu (by omega) (by omega)]
  have hq : q < (bO b).length := by rw [bO_len]; exact h
  have e : ((bO b).drop q).take 1 = [(bO b)[q]] := by rw [List.drop_eq_getElem_cons hq]; rfl
  unfold rowV
  rw [e, gd_at _ _ hq]
  simp only [pvl, Int.mul_zero, Int.add_zero]
theorem get1_none (b : List Int) (q : Nat) (hb : b.length ≤ 100000) (h : q = 8 * b.length) : F39.m b (q : Int) 1 = some (0, 2, (q : Int)) := by
  unfold F39.m F41.m
  rw [if_neg (by omega), if_neg (by omega), Option.bind_some, w64 (n := 8 * (b.length : Int)) (by omega) (by omega), w64 (by omega) (by omega), if_pos (by omega)]
theorem seek_is (b : List Int) (q : Int) (p : Nat) (hb : b.length ≤ 100000) (h : p ≤ 8 * b.length) : F45.m b q (p : Int) = some (0, (p : Int)) := by
  unfold F45.m
  rw [if_neg (by omega), w64 (by omega) (by omega), if_neg (by omega)]
def Hit (xs l : List Int) (n : Nat) : Prop := fN xs n ≤ V l n ∧ V l n < tp xs n
/-- What Next tells. -/
theorem next53 (xs : List Int) (hl : xs.length ≤ 300) (hx : Good15 xs) (hm : may xs = true) (b : List Int) (hb : b.length ≤ 100000) (hu : ∀ y ∈ b, 0 ≤ y ∧ y ≤ 255) (p : Nat) (hp : p ≤ 8 * b.length) :
    ∃ L, L ≤ 15 ∧ (∀ n, L < n → n ≤ 15 → cn xs n = 0) ∧ (1 ≤ L → 0 < cn xs L) ∧ (
      (F53.m (mkA 16 (fst xs)) (mkA 16 (many xs)) (mkA 16 (fr xs)) (sy xs 15) b p = some (0, 2, (p : Int)) ∧ ((bO b).drop p).length < L ∧ ∀ i, 1 ≤ i → i ≤ ((bO b).drop p).length → ¬ Hit xs ((bO b).drop p) i) ∨
      (∃ n, 1 ≤ n ∧ n ≤ L ∧ n ≤ ((bO b).drop p).length ∧ Hit xs ((bO b).drop p) n ∧ (∀ i, 1 ≤ i → i < n → ¬ Hit xs ((bO b).drop p) i) ∧ F53.m (mkA 16 (fst xs)) (mkA 16 (many xs)) (mkA 16 (fr xs)) (sy xs 15) b p = some (gd (ixk xs (n : Int) xs.length) ((V ((bO b).drop p) n - fN xs n : Nat) : Int), 0, ((p + n : Nat) : Int))) ∨
      (F53.m (mkA 16 (fst xs)) (mkA 16 (many xs)) (mkA 16 (fr xs)) (sy xs 15) b p = some (0, 3, (p : Int)) ∧ L ≤ ((bO b).drop p).length ∧ ∀ i, 1 ≤ i → i ≤ L → ¬ Hit xs ((bO b).drop p) i)) := by
  obtain ⟨L, eL, hL15, hLn, hLc⟩ := longest68 xs (mkA 16 (fst xs)) (mkA 16 (fr xs)) (sy xs 15)
  refine ⟨L, hL15, hLn, hLc, ?_⟩
  have hT : ((bO b).drop p).length = 8 * b.length - p := by rw [List.length_drop, bO_len]
  have h01 : b01 ((bO b).drop p) := b01_drop (b01_bO b) p
  have hgd : ∀ j : Nat, gd ((bO b).drop p) (j : Int) = gd (bO b) ((p + j : Nat) : Int) := fun j => gd_drop _ _ _
  generalize (bO b).drop p = l at hT h01 hgd ⊢
  unfold F53.m
  rw [show F46.m b (p : Int) = some () from rfl, Option.bind_some]
  obtain ⟨y, hy, hQ⟩ := loop_ends (b := F53.b1 (mkA 16 (fst xs)) (mkA 16 (many xs)) (mkA 16 (fr xs)) (sy xs 15) b (p : Int)) (fun x => ∃ j : Nat, x = (((p + j : Nat) : Int), ((V l j : Nat) : Int), ((j + 1 : Nat) : Int)) ∧ j ≤ l.length ∧ j ≤ L ∧ ∀ i, 1 ≤ i → i ≤ j → ¬ Hit xs l i) (fun x => (100 - x.2.2).toNat)
    (fun y => (y = .inl (0, 2, (p : Int)) ∧ l.length < L ∧ ∀ i, 1 ≤ i → i ≤ l.length → ¬ Hit xs l i) ∨ (∃ n, 1 ≤ n ∧ n ≤ L ∧ n ≤ l.length ∧ Hit xs l n ∧ (∀ i, 1 ≤ i → i < n → ¬ Hit xs l i) ∧ y = .inl (gd (ixk xs (n : Int) xs.length) ((V l n - fN xs n : Nat) : Int), 0, ((p + n : Nat) : Int))) ∨ (∃ q, y = .inr q ∧ L ≤ l.length ∧ ∀ i, 1 ≤ i → i ≤ L → ¬ Hit xs l i)) (fun x hx' => by
      obtain ⟨j, rfl, h1, h2, h3⟩ := hx'
      simp only [F53.b1]
      rw [eL, Option.bind_some]
      by_cases hjL : j < L
      · rw [if_pos (by omega)]
        by_cases hjT : j < l.length
        · have hv1 := V_lt h01 j (by omega)
          have hv2 := V_lt h01 (j + 1) (by omega)
          have hv3 := pow15 (j + 1) (by omega)
          have hf := tp_le hx hm (j + 1) (by omega)
          have hff : fN xs (j + 1) ≤ tp xs (j + 1) := Nat.le_add_right _ _
          have hVs : V l (j + 1) = 2 * V l j + (gd l (j : Int)).toNat := rfl
          have hbit := (bit_of h01 j hjT).1
          rw [get1 b (p + j) hb hu (by omega), Option.bind_some, if_pos rfl, if_pos (by omega), ← hgd]
          simp only
          rw [w64 (n := 2 * ((V l j : Nat) : Int)) (by omega) (by omega), w64 (n := ((gd l (j : Int)).toNat : Int)) (by omega) (by omega), show 2 * ((V l j : Nat) : Int) + ((gd l (j : Int)).toNat : Int) = ((V l (j + 1) : Nat) : Int) by omega, w64 (n := ((V l (j + 1) : Nat) : Int)) (by omega) (by omega), mkA_gd _ _ _ (by omega), mkA_gd _ _ _ (by omega), mkA_gd _ _ _ (by omega), fst_eq hx hm (j + 1) (by omega), many_cn, w64 (n := ((V l (j + 1) : Nat) : Int) - ((fN xs (j + 1) : Nat) : Int)) (by omega) (by omega)]
          have nohit : ¬ Hit xs l (j + 1) → ∃ s, F53.j2 ((j + 1 : Nat) : Int) ((p + j + 1 : Nat) : Int) ((V l (j + 1) : Nat) : Int) = some s ∧ (∀ x', s = .inl x' → (∃ j : Nat, x' = (((p + j : Nat) : Int), ((V l j : Nat) : Int), ((j + 1 : Nat) : Int)) ∧ j ≤ l.length ∧ j ≤ L ∧ ∀ i, 1 ≤ i → i ≤ j → ¬ Hit xs l i) ∧ (100 - x'.2.2).toNat < (100 - ((j + 1 : Nat) : Int)).toNat) ∧ (∀ y, s = .inr y → (y = .inl (0, 2, (p : Int)) ∧ l.length < L ∧ ∀ i, 1 ≤ i → i ≤ l.length → ¬ Hit xs l i) ∨ (∃ n, 1 ≤ n ∧ n ≤ L ∧ n ≤ l.length ∧ Hit xs l n ∧ (∀ i, 1 ≤ i → i < n → ¬ Hit xs l i) ∧ y = .inl (gd (ixk xs (n : Int) xs.length) ((V l n - fN xs n : Nat) : Int), 0, ((p + n : Nat) : Int))) ∨ (∃ q, y = .inr q ∧ L ≤ l.length ∧ ∀ i, 1 ≤ i → i ≤ L → ¬ Hit xs l i)) := by
            intro hh
            simp only [F53.j2]
            rw [w64 (by omega) (by omega)]
            refine on_ (I := fun x' : Int × Int × Int => ∃ j : Nat, x' = (((p + j : Nat) : Int), ((V l j : Nat) : Int), ((j + 1 : Nat) : Int)) ∧ j ≤ l.length ∧ j ≤ L ∧ ∀ i, 1 ≤ i → i ≤ j → ¬ Hit xs l i) (m := fun x' => (100 - x'.2.2).toNat) (x := (((p + j : Nat) : Int), ((V l j : Nat) : Int), ((j + 1 : Nat) : Int))) ⟨j + 1, rfl, by omega, by omega, fun i hi hi' => ?_⟩ (by simp only; omega)
            by_cases e : i = j + 1
            · rw [e]; exact hh
            · exact h3 i hi (by omega)
          by_cases c1 : fN xs (j + 1) ≤ V l (j + 1)
          · rw [if_pos (by omega)]
            by_cases c2 : V l (j + 1) < tp xs (j + 1)
            · have hc2 : V l (j + 1) - fN xs (j + 1) < cn xs (j + 1) := by unfold tp at c2; omega
              have hil : V l (j + 1) - fN xs (j + 1) < (ixk xs ((j + 1 : Nat) : Int) xs.length).length := by
                rw [ixk_len _ _ _ (Nat.le_refl _), List.take_length, ← cn_pos _ _ (by omega)]; exact hc2
              obtain ⟨s1, s2⟩ := sy_at xs j _ hil (14 - j)
              rw [show j + 1 + (14 - j) = 15 by omega] at s1 s2
              have hsl := sy_len xs hl 15
              have e2 : fr xs (j + 1) = ((sy xs j).length : Int) := rfl
              rw [if_pos (by omega), e2, show ((V l (j + 1) : Nat) : Int) - ((fN xs (j + 1) : Nat) : Int) = ((V l (j + 1) - fN xs (j + 1) : Nat) : Int) by omega, show ((sy xs j).length : Int) + ((V l (j + 1) - fN xs (j + 1) : Nat) : Int) = (((sy xs j).length + (V l (j + 1) - fN xs (j + 1)) : Nat) : Int) by omega, w64 (by omega) (by omega), if_pos (by omega), s1]
              exact out_ (x := (((p + j : Nat) : Int), ((V l j : Nat) : Int), ((j + 1 : Nat) : Int))) (.inr (.inl ⟨j + 1, by omega, by omega, by omega, ⟨c1, c2⟩, fun i hi hi' => h3 i hi (by omega), rfl⟩))
            · rw [if_neg (by unfold tp at c2; omega)]
              exact nohit fun h => c2 h.2
          · rw [if_neg (by omega)]
            exact nohit fun h => c1 h.1
        · have hjT' : j = l.length := by omega
          rw [get1_none b (p + j) hb (by omega), Option.bind_some, if_neg (by simp), seek_is b _ p hb hp, Option.bind_some]
          exact out_ (x := (((p + j : Nat) : Int), ((V l j : Nat) : Int), ((j + 1 : Nat) : Int))) (.inl ⟨rfl, by omega, fun i hi hi' => h3 i hi (by omega)⟩)
      · rw [if_neg (by omega)]
        exact out_ (x := (((p + j : Nat) : Int), ((V l j : Nat) : Int), ((j + 1 : Nat) : Int))) (.inr (.inr ⟨_, rfl, by omega, fun i hi hi' => h3 i hi (by omega)⟩))) ((p : Int), 0, 1) ⟨0, rfl, by omega, by omega, fun i hi hi' => by omega⟩
  rw [hy, Option.bind_some]
  rcases hQ with ⟨rfl, h⟩ | ⟨n, h1, h2, h3, h4, h5, rfl⟩ | ⟨q, rfl, h⟩
  · exact .inl ⟨rfl, h⟩
  · exact .inr (.inl ⟨n, h1, h2, h3, h4, h5, rfl⟩)
  · refine .inr (.inr ⟨?_, h⟩)
    simp only [F53.j1]
    rw [seek_is b q p hb hp, Option.bind_some]
theorem next_hit (xs : List Int) (hl : xs.length ≤ 300) (hx : Good15 xs) (hm : may xs = true) (b : List Int) (hb : b.length ≤ 100000) (hu : ∀ y ∈ b, 0 ≤ y ∧ y ≤ 255) (p : Nat) (hp : p ≤ 8 * b.length) (s n : Nat) (hs : s < xs.length) (hn : gd xs (s : Int) = (n : Int)) (hM : Mt xs ((bO b).drop p) s) :
    F53.m (mkA 16 (fst xs)) (mkA 16 (many xs)) (mkA 16 (fr xs)) (sy xs 15) b p = some ((s : Int), 0, ((p + n : Nat) : Int)) ∧ n ≤ ((bO b).drop p).length := by
  obtain ⟨h0, hT, hc⟩ := hM.V hn
  have h01 : b01 ((bO b).drop p) := b01_drop (b01_bO b) p
  have h15 : n ≤ 15 := by have := hx _ (gd_mem xs s hs); omega
  obtain ⟨c1, c2, c3⟩ := cd_in s n hs hn h0
  have hit : Hit xs ((bO b).drop p) n := ⟨by rw [← hc]; exact c2, by rw [← hc]; exact c3⟩
  obtain ⟨L, hL, hLn, hLc, h⟩ := next53 xs hl hx hm b hb hu p hp
  have hnL : n ≤ L := by
    rcases Nat.lt_or_ge L n with h | h
    · have := hLn n h h15
      unfold tp at c3
      omega
    · exact h
  rcases h with ⟨_, h1, h2⟩ | ⟨m, h1, h2, h3, h4, h5, h6⟩ | ⟨_, h1, h2⟩
  · exact absurd hit (h2 n (by omega) hT)
  · have e : m = n := by
      rcases Nat.lt_trichotomy m n with h | h | h
      · have := no_hit h01 n m _ c2 hc hT h
        have := h4.2
        omega
      · exact h
      · exact absurd hit (h5 n (by omega) h)
    subst e
    rw [h6, ← hc, c1, Nat.add_sub_cancel_left, ixk_at xs (m : Int) s hn _ hs (Nat.le_refl _)]
    exact ⟨rfl, hT⟩
  · exact absurd hit (h2 n (by omega) hnL)
theorem next_none (xs : List Int) (hl : xs.length ≤ 300) (hx : Good15 xs) (hm : may xs = true) (b : List Int) (hb : b.length ≤ 100000) (hu : ∀ y ∈ b, 0 ≤ y ∧ y ≤ 255) (p : Nat) (hp : p ≤ 8 * b.length) (hno : ∀ s, s < xs.length → ¬ Mt xs ((bO b).drop p) s) :
    (F53.m (mkA 16 (fst xs)) (mkA 16 (many xs)) (mkA 16 (fr xs)) (sy xs 15) b p = some (0, 2, (p : Int)) ∧ ∃ s, s < xs.length ∧ gd xs (s : Int) ≠ 0 ∧ Sm xs ((bO b).drop p) s) ∨
    (F53.m (mkA 16 (fst xs)) (mkA 16 (many xs)) (mkA 16 (fr xs)) (sy xs 15) b p = some (0, 3, (p : Int)) ∧ ¬ ∃ s, s < xs.length ∧ gd xs (s : Int) ≠ 0 ∧ Sm xs ((bO b).drop p) s) := by
  have h01 : b01 ((bO b).drop p) := b01_drop (b01_bO b) p
  obtain ⟨L, hL, hLn, hLc, h⟩ := next53 xs hl hx hm b hb hu p hp
  generalize (bO b).drop p = l at *
  rcases h with ⟨e, h1, h2⟩ | ⟨m, h1, h2, h3, h4, h5, h6⟩ | ⟨e, h1, h2⟩
  · exact .inl ⟨e, going_on hx hm h01 hno L hL (hLc (by omega)) h1⟩
  · exfalso
    obtain ⟨s, hs, e, c⟩ := hit_sym m (V l m) (by omega) h4.1 h4.2
    refine hno s hs ⟨by rw [e]; omega, by rw [e, Int.toNat_natCast]; exact h3, ?_⟩
    unfold Sm
    rw [e, Int.toNat_natCast, Nat.min_eq_left h3, c]
    simp
  · refine .inr ⟨e, ?_⟩
    rintro ⟨s, hs, hs0, hS⟩
    obtain ⟨n, hn⟩ := nat_of (hx _ (gd_mem xs s hs)).1
    have h15 : n ≤ 15 := by have := hx _ (gd_mem xs s hs); omega
    have hn0 : n ≠ 0 := by omega
    have c3 := (cd_in s n hs hn hn0).2.2
    have c2 := (cd_in s n hs hn hn0).2.1
    by_cases hT : n ≤ l.length
    · exact hno s hs ⟨hs0, by rw [hn, Int.toNat_natCast]; exact hT, hS⟩
    · have : cn xs n = 0 := hLn n (by omega) h15
      unfold tp at c3
      omega
end Go.Proofs.Ytpophpendlnehaa
