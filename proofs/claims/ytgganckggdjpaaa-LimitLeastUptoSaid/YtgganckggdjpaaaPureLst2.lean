/- What Lst2 needs. -/
import Derived.Test.YtgganckggdjpaaaPureLst
import Derived.Test.YtgganckggdjpaaaPureLimC
set_option linter.unusedVariables false
set_option linter.unusedSimpArgs false
namespace Go.Proofs.Ytgganckggdjpaaa
open Go Go.Eng Go.Proofs
/-! ### Ways down: how many leaves at each depth -/
inductive Way (n : Nat) (r : Nat → Int) : Nat → Nat → Nat → Int → Prop
  | last (i o : Nat) (hi : i ≤ n) (h : n - i = o) : Way n r 0 i o 0
  | step (d i o k : Nat) (v : Int) (h1 : k ≤ o) (h2 : i + k ≤ n) (h3 : 2 * (o - k) ≤ n) (h : Way n r d (i + k) (2 * (o - k)) v) : Way n r (d + 1) i o (v + r (i + k))
theorem Way.bd {n : Nat} {r : Nat → Int} {B : Int} (hr : ∀ i, 0 ≤ r i ∧ r i ≤ B) : ∀ {d i o : Nat} {v : Int}, Way n r d i o v → 0 ≤ v ∧ v ≤ B * (d : Int) := fun {d i o v} h => by
  induction h with
  | last i o hi h => simp
  | step d i o k v h1 h2 h3 h ih =>
    have := hr (i + k)
    push_cast
    rw [Int.mul_add]
    omega
/-- A value is the least of all ways, or there is none. -/
def Least (n : Nat) (r : Nat → Int) (d i o : Nat) (x : Int) : Prop := (x = NON ∧ ∀ v, ¬ Way n r d i o v) ∨ (Way n r d i o x ∧ ∀ v, Way n r d i o v → x ≤ v)
theorem least_cost {S : List Int} (hl : S.length ≤ 40) (hS : ∀ x ∈ S, 0 ≤ x ∧ x ≤ 4294967295) : ∀ d, d ≤ 15 → ∀ i o, i ≤ S.length → o ≤ S.length → Least S.length (restN S) d i o (costD S d i o)
  | 0, _, i, o, hi, ho => by
    unfold costD cost0
    by_cases h : S.length - i = o
    · rw [if_pos h]
      exact .inr ⟨.last i o hi h, fun v hv => by cases hv; omega⟩
    · rw [if_neg h]
      exact .inl ⟨rfl, fun v hv => by cases hv; exact h (by assumption)⟩
  | d + 1, hd, i, o, hi, ho => by
    have hN : NON = 18446744073709551615 := rfl
    have ih := least_cost hl hS d (by omega)
    have hr : ∀ i, 0 ≤ restN S i ∧ restN S i ≤ 171798691800 := fun i => by have := restN_bd S hS i; omega
    have key : ∀ K, K ≤ o + 1 → (bestK (costD S d) (restN S) S.length i o K = NON ∧ ∀ k v, k < K → i + k ≤ S.length → 2 * (o - k) ≤ S.length → ¬ Way S.length (restN S) d (i + k) (2 * (o - k)) v) ∨
        (∃ k v, k < K ∧ i + k ≤ S.length ∧ 2 * (o - k) ≤ S.length ∧ Way S.length (restN S) d (i + k) (2 * (o - k)) v ∧ bestK (costD S d) (restN S) S.length i o K = v + restN S (i + k) ∧
          ∀ k' v', k' < K → i + k' ≤ S.length → 2 * (o - k') ≤ S.length → Way S.length (restN S) d (i + k') (2 * (o - k')) v' → v + restN S (i + k) ≤ v' + restN S (i + k')) := fun K => by
      induction K with
      | zero => exact fun _ => .inl ⟨rfl, fun k v h => by omega⟩
      | succ K ihK =>
        intro hK
        have hK' := ihK (by omega)
        rw [bestK]
        by_cases c1 : i + K ≤ S.length
        · rw [if_pos c1]
          by_cases c2 : S.length < 2 * (o - K)
          · rw [if_pos c2]
            rcases hK' with ⟨e, hno⟩ | ⟨k, v, q1, q2, q3, q4, q5, q6⟩
            · refine .inl ⟨e, fun k v h1 h2 h3 => ?_⟩
              by_cases e : k = K
              · subst e; omega
              · exact hno k v (by omega) h2 h3
            · refine .inr ⟨k, v, by omega, q2, q3, q4, q5, fun k' v' h1 h2 h3 => ?_⟩
              by_cases e : k' = K
              · subst e; omega
              · exact q6 k' v' (by omega) h2 h3
          · rw [if_neg c2]
            have hb := ih (i + K) (2 * (o - K)) c1 (by omega)
            by_cases c3 : costD S d (i + K) (2 * (o - K)) = NON
            · rw [if_pos c3]
              have hno2 : ∀ v, ¬ Way S.length (restN S) d (i + K) (2 * (o - K)) v := by
                rcases hb with ⟨_, h⟩ | ⟨h, _⟩
                · exact h
                · have := h.bd hr
                  rw [c3] at this
                  omega
              rcases hK' with ⟨e, hno⟩ | ⟨k, v, q1, q2, q3, q4, q5, q6⟩
              · refine .inl ⟨e, fun k v h1 h2 h3 => ?_⟩
                by_cases e : k = K
                · subst e; exact hno2 v
                · exact hno k v (by omega) h2 h3
              · refine .inr ⟨k, v, by omega, q2, q3, q4, q5, fun k' v' h1 h2 h3 h4 => ?_⟩
                by_cases e : k' = K
                · subst e; exact absurd h4 (hno2 v')
                · exact q6 k' v' (by omega) h2 h3 h4
            · rw [if_neg c3]
              obtain ⟨hw, hmin⟩ := hb.resolve_left (fun h => c3 h.1)
              have hwb := hw.bd hr
              have hrb := hr (i + K)
              rw [wu64 (by omega) (by omega)]
              rcases hK' with ⟨e, hno⟩ | ⟨k, v, q1, q2, q3, q4, q5, q6⟩
              · rw [e]
                refine .inr ⟨K, _, by omega, c1, by omega, hw, ?_, fun k' v' h1 h2 h3 h4 => ?_⟩
                · unfold minI; rw [if_pos (by omega)]
                · by_cases e : k' = K
                  · subst e; have := hmin v' h4; omega
                  · exact absurd h4 (hno k' v' (by omega) h2 h3)
              · rw [q5]
                unfold minI
                by_cases c4 : costD S d (i + K) (2 * (o - K)) + restN S (i + K) < v + restN S (i + k)
                · rw [if_pos c4]
                  refine .inr ⟨K, _, by omega, c1, by omega, hw, rfl, fun k' v' h1 h2 h3 h4 => ?_⟩
                  by_cases e : k' = K
                  · subst e; have := hmin v' h4; omega
                  · have := q6 k' v' (by omega) h2 h3 h4; omega
                · rw [if_neg c4]
                  refine .inr ⟨k, v, by omega, q2, q3, q4, rfl, fun k' v' h1 h2 h3 h4 => ?_⟩
                  by_cases e : k' = K
                  · subst e; have := hmin v' h4; omega
                  · exact q6 k' v' (by omega) h2 h3 h4
        · rw [if_neg c1]
          rcases hK' with ⟨e, hno⟩ | ⟨k, v, q1, q2, q3, q4, q5, q6⟩
          · refine .inl ⟨e, fun k v h1 h2 h3 => hno k v (by omega) h2 h3⟩
          · exact .inr ⟨k, v, by omega, q2, q3, q4, q5, fun k' v' h1 h2 h3 => q6 k' v' (by omega) h2 h3⟩
    show Least S.length (restN S) (d + 1) i o (bestK (costD S d) (restN S) S.length i o (o + 1))
    rcases key (o + 1) (Nat.le_refl _) with ⟨e, hno⟩ | ⟨k, v, q1, q2, q3, q4, q5, q6⟩
    · refine .inl ⟨e, fun v hv => ?_⟩
      cases hv with
      | step _ _ _ k v h1 h2 h3 h => exact hno k v (by omega) h2 h3 h
    · rw [q5]
      refine .inr ⟨.step d i o k v (by omega) q2 q3 q4, fun v' hv => ?_⟩
      cases hv with
      | step _ _ _ k' v' h1 h2 h3 h => exact q6 k' v' (by omega) h2 h3 h
/-! ### No way costs less than what package-merge chooses, and one costs as much -/
section
variable {A : List Pk}
theorem way_low (hA : Asc A) (r : Nat → Int) (hr : ∀ i, i ≤ A.length → r i = wsum (A.take (A.length - i))) : ∀ (k i o : Nat) (v : Int), i ≤ A.length → Way A.length r (k + 1) i o v →
    o ≤ A.length - i ∧ 2 * (A.length - i - o) ≤ (row A k).length ∧ wsum ((row A k).take (2 * (A.length - i - o))) ≤ v
  | 0, i, o, v, hi, h => by
    cases h with
    | step _ _ _ k v h1 h2 h3 h =>
      cases h with
      | last _ _ h4 h5 =>
        have e : 2 * (A.length - i - o) = A.length - (i + k) := by omega
        rw [e, hr (i + k) h2]
        exact ⟨by omega, by show _ ≤ A.length; omega, by show wsum (A.take _) ≤ _; omega⟩
  | k + 1, i, o, v, hi, h => by
    cases h with
    | step _ _ _ j v h1 h2 h3 h =>
      obtain ⟨a1, a2, a3⟩ := way_low hA r hr k (i + j) (2 * (o - j)) v h2 h
      have hpl := prs_len (row A k)
      have h4 := merge_least A (prs (row A k)) (A.length - (i + j)) (A.length - (i + j) - 2 * (o - j)) hA (prs_asc _ (row_asc hA k)) (by omega) (by omega)
      rw [prs_wsum _ _ (by omega)] at h4
      have e : 2 * (A.length - i - o) = A.length - (i + j) + (A.length - (i + j) - 2 * (o - j)) := by omega
      rw [e, hr (i + j) h2, row_len_succ]
      refine ⟨by omega, by omega, ?_⟩
      show wsum ((A.merge (prs (row A k)) wle).take _) ≤ _
      omega
theorem Sel.half {k m c : Nat} {cs : List Nat} (hd : (c :: cs).Pairwise (· ≥ ·)) (h : Sel A k m (c :: cs)) : m ≤ 2 * c ∧ c ≤ m := by
  induction k generalizing m c cs with
  | zero => cases h; omega
  | succ k ih =>
    cases h with
    | step _ _ _ _ h1 h2 h3 h4 h5 h6 =>
      have hl := h6.len
      cases cs with
      | nil => simp at hl
      | cons c' cs =>
        have := ih (List.pairwise_cons.1 hd).2 h6
        have := (List.pairwise_cons.1 hd).1 c' (by simp)
        omega
theorem way_of (r : Nat → Int) (hr : ∀ i, i ≤ A.length → r i = wsum (A.take (A.length - i))) {cs : List Nat} : ∀ {k m : Nat} (i o : Nat), cs.Pairwise (· ≥ ·) → Sel A k m cs → i ≤ A.length → o ≤ A.length - i → m = 2 * (A.length - i - o) → (∀ c ∈ cs, c ≤ A.length - i) →
    Way A.length r (k + 1) i o ((cs.map fun c => Proofs.Ytgganckggdjpaaa.wsum (A.take c)).sum) := by
  induction cs with
  | nil => intro k m i o _ h; have := h.len; simp at this
  | cons c cs ih =>
    intro k m i o hd h hi ho hm hc
    have hh := Sel.half hd h
    have hcA := h.le c (by simp)
    have hci := hc c (by simp)
    have e1 : i + (A.length - i - c) = A.length - c := by omega
    have hrc : r (i + (A.length - i - c)) = wsum (A.take c) := by rw [e1, hr _ (by omega), show A.length - (A.length - c) = c by omega]
    rw [List.map_cons, List.sum_cons, Int.add_comm, ← hrc]
    refine .step k i o (A.length - i - c) _ (by omega) (by omega) (by omega) ?_
    cases h with
    | base _ h => exact .last _ _ (by omega) (by omega)
    | step k _ _ _ h1 h2 h3 h4 h5 h6 =>
      have hd2 := List.pairwise_cons.1 hd
      exact ih _ _ hd2.2 h6 (by omega) (by omega) (by omega) (fun x hx => by have := hd2.1 x hx; omega)
end
/-! ### What they cost -/
theorem desc_asc {A : List Pk} {S : List Int} (hA : Asc A) (hS : Desc S) (hp : S.Perm (A.map (·.1))) : S = (A.map (·.1)).reverse := by
  refine List.Perm.eq_of_pairwise (le := (· ≥ ·)) (fun a b _ _ h h' => by omega) hS ?_ (hp.trans (List.reverse_perm _).symm)
  rw [List.pairwise_reverse, List.pairwise_map]
  exact hA.imp fun h => wle_iff.1 h
theorem rest_wsum {A : List Pk} (i : Nat) (hi : i ≤ A.length) : restN (A.map (·.1)).reverse i = wsum (A.take (A.length - i)) := by
  unfold restN wsum
  rw [List.drop_reverse, List.length_map, List.map_take]
  generalize List.take (A.length - i) (A.map (·.1)) = l
  induction l with
  | nil => rfl
  | cons x l ih => rw [List.reverse_cons, List.sum_append, List.sum_cons, ih]; simp; omega
theorem wsum_sumN {A : List Pk} (hp : ∀ x ∈ A, 0 < x.1) (c : Nat) (hc : c ≤ A.length) : wsum (A.take c) = ((sumN (fun i => if i < c then (gd A (i : Int)).1.toNat else 0) A.length : Nat) : Int) := by
  have key : ∀ k, k ≤ A.length → wsum (A.take (min c k)) = ((sumN (fun i => if i < c then (gd A (i : Int)).1.toNat else 0) k : Nat) : Int) := fun k => by
    induction k with
    | zero => intro _; simp [sumN, wsum]
    | succ k ih =>
      intro hk
      have := ih (by omega)
      rw [sumN]
      by_cases h : k < c
      · have h0 := hp _ (gd_mem A k (by omega))
        rw [if_pos h, show min c (k + 1) = k + 1 by omega, take_gd _ _ (by omega), wsum_append, wsum_cons, wsum_nil]
        rw [show min c k = k by omega] at this
        push_cast
        omega
      · rw [if_neg h, show min c (k + 1) = min c k by omega, this]; rfl
  have := key A.length (Nat.le_refl _)
  rwa [Nat.min_eq_left hc] at this
theorem cost_cs {A : List Pk} (hp : ∀ x ∈ A, 0 < x.1) : ∀ cs : List Nat, (∀ c ∈ cs, c ≤ A.length) → (cs.map fun c => wsum (A.take c)).sum = ((sumN (fun i => (gd A (i : Int)).1.toNat * lenAt cs i) A.length : Nat) : Int)
  | [], _ => by
    have : ∀ n, sumN (fun i => (gd A (i : Int)).1.toNat * lenAt [] i) n = 0 := fun n => by induction n with
      | zero => rfl
      | succ n ih => rw [sumN, ih]; simp [lenAt]
    rw [this]; rfl
  | c :: cs, h => by
    rw [List.map_cons, List.sum_cons, cost_cs hp cs (fun x hx => h x (by simp [hx])), wsum_sumN hp c (h c (by simp))]
    rw [← Int.natCast_add, ← sumN_add]
    congr 1
    refine sumN_congr _ fun i _ => ?_
    rw [lenAt_cons, Nat.mul_add]
    by_cases hi : i < c
    · rw [if_pos hi, if_pos hi]; omega
    · rw [if_neg hi, if_neg hi]; omega
theorem lacc_sum (w l : List Int) (hw : ∀ s, s < w.length → 0 ≤ gd w (s : Int) ∧ gd w (s : Int) ≤ 4294967295) (hl : ∀ s, s < w.length → 0 ≤ gd l (s : Int) ∧ gd l (s : Int) ≤ 15) : ∀ k, k ≤ w.length → k ≤ 400 → lacc (lterm w l) k = ((sumN (fun s => (gd w (s : Int)).toNat * (gd l (s : Int)).toNat) k : Nat) : Int) ∧ sumN (fun s => (gd w (s : Int)).toNat * (gd l (s : Int)).toNat) k ≤ 64424509425 * k
  | 0, _, _ => ⟨rfl, by simp [sumN]⟩
  | k + 1, h1, h2 => by
    obtain ⟨i1, i2⟩ := lacc_sum w l hw hl k (by omega) (by omega)
    have a := hw k (by omega)
    have b := hl k (by omega)
    obtain ⟨x, hx⟩ := nat_of a.1
    obtain ⟨y, hy⟩ := nat_of b.1
    have hxy : x * y ≤ 4294967295 * 15 := Nat.mul_le_mul (by omega) (by omega)
    have e : lterm w l k = ((x * y : Nat) : Int) := by
      unfold lterm
      rw [hx, hy, wu64 (n := (x : Int)) (by omega) (by omega), wu64 (n := (y : Int)) (by omega) (by omega), ← Int.natCast_mul, wu64 (by omega) (by omega)]
    rw [lacc, i1, e, sumN, hx, hy, Int.toNat_natCast, Int.toNat_natCast]
    refine ⟨?_, by omega⟩
    rw [wu64 (by omega) (by omega)]
    omega
theorem told_cost {w : List Int} {A : List Pk} {cs : List Nat} {l : List Int} (hw : ∀ x ∈ w, InR .u32 x) (hl : w.length ≤ 400) (h : Told w A cs l) (hcs : ∀ c ∈ cs, c ≤ A.length) (h15 : cs.length ≤ 15) :
    F25.m w l = some ((cs.map fun c => wsum (A.take c)).sum) := by
  have hww : ∀ s, s < w.length → 0 ≤ gd w (s : Int) ∧ gd w (s : Int) ≤ 4294967295 := fun s hs => inU32 (hw _ (gd_mem w s hs))
  have key : ∀ s, s < w.length → 0 < gd w (s : Int) → ∃ i, ∃ hi : i < A.length, A[i] = (gd w (s : Int), [(s : Int)]) ∧ gd l (s : Int) = (lenAt cs i : Int) := fun s hs h0 => by
    obtain ⟨i, hi, e⟩ := h.to s hs h0
    obtain ⟨t, _, _, h5, h6⟩ := h.of i hi
    rw [e] at h5
    simp at h5
    rw [← h5.2] at h6
    exact ⟨i, hi, e, h6⟩
  have hll : ∀ s, s < w.length → 0 ≤ gd l (s : Int) ∧ gd l (s : Int) ≤ 15 := fun s hs => by
    by_cases h0 : 0 < gd w (s : Int)
    · obtain ⟨i, hi, _, e⟩ := key s hs h0
      have := lenAt_le cs i
      rw [e]; omega
    · rw [h.zero s hs h0]; omega
  rw [F25_is _ _ hl, h.len, Nat.min_self, (lacc_sum w l hww hll w.length (Nat.le_refl _) hl).1, cost_cs (told_pos h) cs hcs]
  congr 2
  rw [lsum_coins w (fun x => x.1.toNat * (gd l (sy x)).toNat) _ w.length (fun s hs => ?_), ← lsum_perm h.perm, lsum_index _ (fun i => (gd A (i : Int)).1.toNat * lenAt cs i) A (fun i hi => ?_)]
  · obtain ⟨s, h1, h2, h3, h4⟩ := h.of i hi
    have h5 : sy A[i] = (s : Int) := by rw [h3]; rfl
    rw [gd_at _ _ hi]
    simp only [h5, h4, Int.toNat_natCast]
  · by_cases h0 : 0 < gd w (s : Int)
    · rw [if_pos h0]; rfl
    · rw [if_neg h0]
      have := hww s hs
      rw [show gd w (s : Int) = 0 by omega]; simp
end Go.Proofs.Ytgganckggdjpaaa
