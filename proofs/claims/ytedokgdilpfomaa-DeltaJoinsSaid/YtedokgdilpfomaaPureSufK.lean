/- What SufK needs. -/
import Derived.Test.YtedokgdilpfomaaMatx0
import Derived.Test.YtedokgdilpfomaaEngLp
set_option linter.unusedVariables false
set_option linter.unusedSimpArgs false
namespace Go.Proofs.Ytedokgdilpfomaa
open Go Go.Eng Go.Proofs
/-! ### Sorting by counts -/
def cl (f : Int → Nat) (P : List Int) (r : Nat) : Nat := P.countP (fun p => decide (f p < r))
def ce (f : Int → Nat) (P : List Int) (r : Nat) : Nat := P.countP (fun p => decide (f p = r))
def cs (f : Int → Nat) (P : List Int) : Nat → List Int
  | 0 => []
  | r + 1 => cs f P r ++ P.filter (fun p => decide (f p = r))
def ps (f : Int → Nat) (P : List Int) (j : Nat) : Nat := cl f P (f (gd P (j : Int))) + ce f (P.take j) (f (gd P (j : Int)))
theorem cl_succ (f : Int → Nat) (P : List Int) (r : Nat) : cl f P (r + 1) = cl f P r + ce f P r := by
  induction P with
  | nil => rfl
  | cons x P ih =>
    simp only [cl, ce, List.countP_cons] at ih ⊢
    by_cases h1 : f x < r
    · simp [h1, show f x < r + 1 by omega, show ¬ f x = r by omega]; omega
    · by_cases h2 : f x = r
      · simp [h2]; omega
      · simp [h1, h2, show ¬ f x < r + 1 by omega]; omega
theorem cl_zero (f : Int → Nat) (P : List Int) : cl f P 0 = 0 := by simp [cl]
theorem cl_mono (f : Int → Nat) (P : List Int) (r : Nat) : ∀ k, cl f P r ≤ cl f P (r + k)
  | 0 => Nat.le_refl _
  | k + 1 => by have := cl_mono f P r k; rw [← Nat.add_assoc, cl_succ]; omega
theorem cl_all (f : Int → Nat) (P : List Int) (m : Nat) (h : ∀ p ∈ P, f p < m) : cl f P m = P.length := by
  unfold cl
  rw [List.countP_eq_length]
  intro p hp
  simpa using h p hp
theorem ce_snoc (f : Int → Nat) (P : List Int) (k r : Nat) (h : k < P.length) : ce f (P.take (k + 1)) r = ce f (P.take k) r + if f (gd P (k : Int)) = r then 1 else 0 := by
  rw [take_gd P k h]
  simp only [ce, List.countP_append, List.countP_cons, List.countP_nil]
  by_cases e : f (gd P (k : Int)) = r <;> simp [e]
theorem ce_take_le (f : Int → Nat) (P : List Int) (r : Nat) : ∀ k j, j ≤ P.length → k ≤ j → ce f (P.take k) r ≤ ce f (P.take j) r
  | k, 0, _, h => by rw [show k = 0 by omega]; exact Nat.le_refl _
  | k, j + 1, hj, h => by
    by_cases e : k = j + 1
    · rw [e]; exact Nat.le_refl _
    · have := ce_take_le f P r k j (by omega) (by omega)
      rw [ce_snoc f P j r (by omega)]; omega
theorem ce_lt (f : Int → Nat) (P : List Int) (j : Nat) (h : j < P.length) : ce f (P.take j) (f (gd P (j : Int))) < ce f P (f (gd P (j : Int))) := by
  have h1 := ce_snoc f P j (f (gd P (j : Int))) h
  rw [if_pos rfl] at h1
  have h2 := ce_take_le f P (f (gd P (j : Int))) (j + 1) P.length (Nat.le_refl _) h
  rw [List.take_length] at h2
  omega
theorem ps_lt (f : Int → Nat) (P : List Int) (j : Nat) (h : j < P.length) : ps f P j < P.length := by
  have h1 := ce_lt f P j h
  have h2 := cl_succ f P (f (gd P (j : Int)))
  have h3 : cl f P (f (gd P (j : Int)) + 1) ≤ P.length := List.countP_le_length
  unfold ps
  omega
theorem ps_ne (f : Int → Nat) (P : List Int) (i j : Nat) (hij : i < j) (hj : j < P.length) : ps f P i ≠ ps f P j := by
  have hi := ce_lt f P i (by omega)
  have hj' := ce_lt f P j hj
  unfold ps
  rcases Nat.lt_trichotomy (f (gd P (i : Int))) (f (gd P (j : Int))) with h | h | h
  · have h1 := cl_mono f P (f (gd P (i : Int)) + 1) (f (gd P (j : Int)) - f (gd P (i : Int)) - 1)
    rw [show f (gd P (i : Int)) + 1 + (f (gd P (j : Int)) - f (gd P (i : Int)) - 1) = f (gd P (j : Int)) by omega, cl_succ] at h1
    omega
  · have h1 := ce_snoc f P i (f (gd P (i : Int))) (by omega)
    rw [if_pos rfl] at h1
    have h2 := ce_take_le f P (f (gd P (i : Int))) (i + 1) j (by omega) (by omega)
    rw [← h]
    omega
  · have h1 := cl_mono f P (f (gd P (j : Int)) + 1) (f (gd P (i : Int)) - f (gd P (j : Int)) - 1)
    rw [show f (gd P (j : Int)) + 1 + (f (gd P (i : Int)) - f (gd P (j : Int)) - 1) = f (gd P (i : Int)) by omega, cl_succ] at h1
    omega
theorem nth_in (f : Int → Nat) (r : Nat) : ∀ (P : List Int) (k : Nat), k < ce f P r → ∃ j, j < P.length ∧ f (gd P (j : Int)) = r ∧ ce f (P.take j) r = k := by
  intro P
  induction P with
  | nil => intro k h; simp [ce] at h
  | cons x P ih =>
    intro k h
    have hg : ∀ j : Nat, gd (x :: P) ((j + 1 : Nat) : Int) = gd P (j : Int) := fun j => by unfold gd; rw [Int.toNat_natCast, Int.toNat_natCast]; rfl
    by_cases e : f x = r
    · cases k with
      | zero => exact ⟨0, by simp, by simpa [gd] using e, by simp [ce]⟩
      | succ k =>
        simp only [ce, List.countP_cons] at h
        rw [decide_eq_true e, if_pos rfl] at h
        obtain ⟨j, hj, h1, h2⟩ := ih k (by unfold ce; omega)
        refine ⟨j + 1, by simp; omega, by rw [hg]; exact h1, ?_⟩
        simp only [ce, List.take_succ_cons, List.countP_cons] at h2 ⊢
        rw [decide_eq_true e, if_pos rfl, h2]
    · simp only [ce, List.countP_cons] at h
      rw [decide_eq_false e, if_neg (by simp)] at h
      obtain ⟨j, hj, h1, h2⟩ := ih k (by unfold ce; omega)
      refine ⟨j + 1, by simp; omega, by rw [hg]; exact h1, ?_⟩
      simp only [ce, List.take_succ_cons, List.countP_cons] at h2 ⊢
      rw [decide_eq_false e, if_neg (by simp), h2, Nat.add_zero]
theorem ps_onto (f : Int → Nat) (P : List Int) (m : Nat) (h : ∀ p ∈ P, f p < m) (t : Nat) (ht : t < P.length) : ∃ j, j < P.length ∧ ps f P j = t := by
  have key : ∀ k, t < cl f P k → ∃ r, cl f P r ≤ t ∧ t < cl f P (r + 1) := by
    intro k
    induction k with
    | zero => rw [cl_zero]; omega
    | succ k ih =>
      intro hk
      by_cases e : t < cl f P k
      · exact ih e
      · exact ⟨k, by omega, hk⟩
  obtain ⟨r, h1, h2⟩ := key m (by rw [cl_all f P m h]; exact ht)
  rw [cl_succ] at h2
  obtain ⟨j, hj, e, hc⟩ := nth_in f r P (t - cl f P r) (by omega)
  exact ⟨j, hj, by unfold ps; rw [e, hc]; omega⟩
theorem cs_len (f : Int → Nat) (P : List Int) : ∀ r, (cs f P r).length = cl f P r
  | 0 => by rw [cl_zero]; rfl
  | r + 1 => by
    rw [cl_succ, ← cs_len f P r]
    simp only [cs, List.length_append, ce, List.countP_eq_length_filter]
theorem filter_at (q : Int → Bool) : ∀ (P : List Int) (j : Nat), j < P.length → q (gd P (j : Int)) = true → gd (P.filter q) (((P.take j).countP q : Nat) : Int) = gd P (j : Int) ∧ (P.take j).countP q < (P.filter q).length
  | [], j, h, _ => by simp at h
  | x :: P, j, h, hq => by
    have hg : ∀ (l : List Int) (j : Nat), gd (x :: l) ((j + 1 : Nat) : Int) = gd l (j : Int) := fun l j => by unfold gd; rw [Int.toNat_natCast, Int.toNat_natCast]; rfl
    cases j with
    | zero =>
      have hq : q x = true := hq
      rw [List.filter_cons_of_pos hq]
      exact ⟨rfl, by simp⟩
    | succ j =>
      rw [hg] at hq ⊢
      obtain ⟨h1, h2⟩ := filter_at q P j (by simpa using h) hq
      rw [List.take_succ_cons, List.countP_cons]
      by_cases e : q x = true
      · rw [List.filter_cons_of_pos e, if_pos e, hg, h1]
        exact ⟨rfl, by simp; omega⟩
      · rw [List.filter_cons_of_neg e, if_neg e, Nat.add_zero, h1]
        exact ⟨rfl, h2⟩
theorem cs_at (f : Int → Nat) (P : List Int) (j : Nat) (hj : j < P.length) : ∀ m, f (gd P (j : Int)) < m → gd (cs f P m) ((ps f P j : Nat) : Int) = gd P (j : Int)
  | 0, h => by omega
  | m + 1, h => by
    simp only [cs]
    by_cases e : f (gd P (j : Int)) = m
    · obtain ⟨h1, _⟩ := filter_at (fun p => decide (f p = m)) P j hj (by simpa using e)
      rw [gd_append_right _ _ _ (by rw [cs_len]; unfold ps; rw [e]; omega), cs_len]
      have : ps f P j - cl f P m = (P.take j).countP (fun p => decide (f p = m)) := by unfold ps ce; rw [e]; omega
      rw [this, h1]
    · have h1 := ce_lt f P j hj
      have h2 := cl_mono f P (f (gd P (j : Int)) + 1) (m - f (gd P (j : Int)) - 1)
      rw [show f (gd P (j : Int)) + 1 + (m - f (gd P (j : Int)) - 1) = m by omega, cl_succ] at h2
      rw [gd_append_left _ _ _ (by rw [cs_len]; unfold ps; omega), cs_at f P j hj m (by omega)]
theorem cs_perm (f : Int → Nat) (P : List Int) : ∀ m, (cs f P m).Perm (P.filter (fun p => decide (f p < m)))
  | 0 => by simp [cs]
  | m + 1 => by
    simp only [cs]
    refine ((cs_perm f P m).append_right _).trans ?_
    have h := List.filter_append_perm (fun p => decide (f p < m)) (P.filter (fun p => decide (f p < m + 1)))
    rw [List.filter_filter, List.filter_filter] at h
    refine List.Perm.trans ?_ h
    rw [show (fun p => decide (f p < m) && decide (f p < m + 1)) = (fun p => decide (f p < m)) from funext fun p => by by_cases a : f p < m <;> simp [a]; omega,
      show (fun p => !decide (f p < m) && decide (f p < m + 1)) = (fun p => decide (f p = m)) from funext fun p => by rw [Bool.eq_iff_iff]; simp; omega]
theorem cs_perm' (f : Int → Nat) (P : List Int) (m : Nat) (h : ∀ p ∈ P, f p < m) : (cs f P m).Perm P := by
  have := cs_perm f P m
  rwa [List.filter_eq_self.2 (fun p hp => by simpa using h p hp)] at this
/-- In order: by the key, and within one as they came. -/
theorem cs_pair (f : Int → Nat) (P : List Int) (R : Int → Int → Prop) (hP : P.Pairwise R) : ∀ m, (cs f P m).Pairwise (fun x y => f x < f y ∨ f x = f y ∧ R x y)
  | 0 => List.Pairwise.nil
  | m + 1 => by
    simp only [cs]
    rw [List.pairwise_append]
    refine ⟨cs_pair f P R hP m, ?_, fun x hx y hy => ?_⟩
    · have h1 := hP.filter (fun p => decide (f p = m))
      refine List.Pairwise.imp_of_mem (fun hx hy h => .inr ⟨?_, h⟩) h1
      rw [List.mem_filter] at hx hy
      have a := of_decide_eq_true hx.2
      have b := of_decide_eq_true hy.2
      omega
    · have h1 := (cs_perm f P m).mem_iff.1 hx
      rw [List.mem_filter] at h1 hy
      have a := of_decide_eq_true h1.2
      have b := of_decide_eq_true hy.2
      exact .inl (by omega)
/-- What the program's counting gives. -/
theorem counted_is (P R : List Int) (m : Nat) (hP : P.length ≤ 100000) (hm : m ≤ 100000) (hPR : ∀ p ∈ P, ∃ k : Nat, p = (k : Int) ∧ k < R.length) (hR : ∀ k : Nat, k < R.length → 0 ≤ gd R (k : Int) ∧ gd R (k : Int) < m) :
    F71.m P R m = some (cs (fun p => (gd R p).toNat) P m) := by
  have hf : ∀ p ∈ P, (gd R p).toNat < m := fun p hp => by
    obtain ⟨k, rfl, hk⟩ := hPR p hp
    have := hR k hk
    omega
  generalize hfe : (fun p => (gd R p).toNat) = f
  have hfa : ∀ p, f p = (gd R p).toNat := fun p => by rw [← hfe]
  have hf' : ∀ p ∈ P, f p < m := fun p hp => by rw [hfa]; exact hf p hp
  have hrank : ∀ k : Nat, k < P.length → ∃ p r : Nat, gd P (k : Int) = (p : Int) ∧ p < R.length ∧ gd R (p : Int) = (r : Int) ∧ r < m ∧ f (gd P (k : Int)) = r := fun k hk => by
    obtain ⟨p, e, hp⟩ := hPR _ (gd_mem P k hk)
    obtain ⟨r, hr⟩ := nat_of (hR p hp).1
    have := (hR p hp).2
    exact ⟨p, r, e, hp, hr, by omega, by rw [hfa, e, hr]; omega⟩
  unfold F71.m
  rw [w64 (n := (m : Int) + 1) (by omega) (by omega), if_pos (by omega)]
  rw [loop_done (x := (List.replicate (Int.toNat ((m : Int) + 1)) (0 : Int), (0 : Int))) (fun k => ((List.range (m + 1)).map (fun i => (((if i = 0 then 0 else ce f (P.take k) (i - 1) : Nat)) : Int)), (k : Int))) P.length ((List.range (m + 1)).map (fun i => (((if i = 0 then 0 else ce f P (i - 1) : Nat)) : Int))) (fun k hk => ?_) ?_ ?_]
  · rw [Option.bind_some]
    simp only [F71.j1]
    rw [loop_done (x := ((List.range (m + 1)).map (fun i => (((if i = 0 then 0 else ce f P (i - 1) : Nat)) : Int)), (1 : Int))) (fun k => ((List.range (m + 1)).map (fun i => (((if i < k + 1 then cl f P i else ce f P (i - 1) : Nat)) : Int)), ((k + 1 : Nat) : Int))) m ((List.range (m + 1)).map (fun i => ((cl f P i : Nat) : Int))) (fun k hk => ?_) ?_ ?_]
    · rw [Option.bind_some]
      simp only [F71.j2]
      rw [if_pos (by omega)]
      obtain ⟨y, hy, hyl, hya⟩ := loop_ends (b := F71.b1 P R) (fun x => ∃ k : Nat, x.2.2 = (k : Int) ∧ k ≤ P.length ∧ x.1 = (List.range (m + 1)).map (fun i => ((cl f P i + ce f (P.take k) i : Nat) : Int)) ∧ x.2.1.length = P.length ∧ ∀ j : Nat, j < k → gd x.2.1 ((ps f P j : Nat) : Int) = gd P (j : Int)) (fun x => ((P.length : Int) - x.2.2).toNat)
        (fun y => y.length = P.length ∧ ∀ j : Nat, j < P.length → gd y ((ps f P j : Nat) : Int) = gd P (j : Int)) (fun x hx => by
          obtain ⟨a, o, k⟩ := x
          obtain ⟨k, rfl, h1, h2, h3, h4⟩ := hx
          simp only at h2 h3 h4
          subst h2
          simp only [F71.b1]
          by_cases hk : k < P.length
          · obtain ⟨p, r, e1, e2, e3, e4, e5⟩ := hrank k hk
            have hps := ps_lt f P k hk
            have e6 : cl f P r + ce f (P.take k) r = ps f P k := by unfold ps; rw [e5]
            rw [if_pos (by omega), if_pos (by omega), e1, if_pos (by omega), e3, if_pos (by simp; omega), gd_map _ _ _ (by omega), e6, if_pos (by rw [h3]; omega), Int.toNat_natCast, Int.toNat_natCast, w64 (n := ((ps f P k : Nat) : Int) + 1) (by omega) (by omega), w64 (by omega) (by omega)]
            refine on_ (x := ((List.range (m + 1)).map (fun i => ((cl f P i + ce f (P.take k) i : Nat) : Int)), o, (k : Int))) ⟨k + 1, rfl, by omega, ?_, by simp [h3], fun j hj => ?_⟩ (by simp only; omega)
            · refine map_set _ _ _ _ _ (by omega) (fun i hi => ?_)
              rw [ce_snoc f P k i hk, e5]
              by_cases a : i = r
              · subst a; rw [if_pos rfl, if_pos rfl]; omega
              · rw [if_neg a, if_neg (fun h => a h.symm)]; omega
            · simp only
              rw [gd_set _ _ _ _ (by rw [h3]; exact hps)]
              by_cases a : j = k
              · subst a; rw [if_pos rfl, e1]
              · rw [if_neg (fun h => ps_ne f P j k (by omega) hk h.symm)]; exact h4 j (by omega)
          · rw [if_neg (by omega)]
            exact out_ (x := ((List.range (m + 1)).map (fun i => ((cl f P i + ce f (P.take k) i : Nat) : Int)), o, (k : Int))) ⟨h3, fun j hj => h4 j (by omega)⟩) ((List.range (m + 1)).map (fun i => ((cl f P i : Nat) : Int)), List.replicate (Int.toNat (P.length : Int)) 0, 0) ⟨0, rfl, by omega, by simp [ce], by simp, fun j hj => by omega⟩
      rw [hy, Option.bind_some]
      simp only [F71.j3]
      congr 1
      have hcl : (cs f P m).length = P.length := by rw [cs_len, cl_all f P m hf']
      refine ext_gd (by rw [hyl, hcl]) (fun t ht => ?_)
      obtain ⟨j, hj, e⟩ := ps_onto f P m hf' t (by omega)
      rw [← e, hya j hj, cs_at f P j hj m (hf' _ (gd_mem P j hj))]
    · simp only [F71.b2]
      rw [if_neg (by omega)]
      congr 2
      exact map_same _ _ _ (fun i hi => by rw [if_pos (by omega)])
    · rw [show (1 : Int) = ((0 + 1 : Nat) : Int) from rfl]
      congr 1
      refine map_same _ _ _ (fun i hi => ?_)
      by_cases h : i = 0
      · subst h; simp [cl_zero]
      · rw [if_neg h, if_neg (by omega)]
    · simp only [F71.b2]
      rw [if_pos (by omega), if_pos (by simp; omega), show ((k + 1 : Nat) : Int) - 1 = (k : Int) by omega, w64 (n := (k : Int)) (by omega) (by omega), if_pos (by simp; omega), gd_map _ _ _ (by omega), gd_map _ _ _ (by omega), if_neg (by omega), if_pos (by omega), Int.toNat_natCast]
      have hc := cl_succ f P k
      have hle : cl f P (k + 1) ≤ P.length := List.countP_le_length
      rw [w64 (n := ((ce f P (k + 1 - 1) : Nat) : Int) + ((cl f P k : Nat) : Int)) (by rw [show k + 1 - 1 = k by omega]; omega) (by rw [show k + 1 - 1 = k by omega]; omega), w64 (by omega) (by omega)]
      rw [map_set (m + 1) _ (fun i => (((if i < k + 1 + 1 then cl f P i else ce f P (i - 1) : Nat)) : Int)) (k + 1) _ (by omega) (fun i hi => ?_)]
      · rfl
      · by_cases a : i = k + 1
        · subst a; rw [if_pos (by omega), if_pos rfl, hc, show k + 1 - 1 = k by omega]; omega
        · rw [if_neg a]
          by_cases b : i < k + 1
          · rw [if_pos (by omega), if_pos b]
          · rw [if_neg (by omega), if_neg b]
  · simp only [F71.b3]
    rw [if_neg (by omega), List.take_length]
  · rw [show Int.toNat ((m : Int) + 1) = m + 1 by omega, rep_map]
    congr 1
    refine map_same _ _ _ (fun i hi => ?_)
    by_cases h : i = 0
    · rw [if_pos h]; rfl
    · rw [if_neg h]; simp [ce]
  · obtain ⟨p, r, e1, e2, e3, e4, e5⟩ := hrank k hk
    have hle : ce f (P.take k) r ≤ (P.take k).length := List.countP_le_length
    rw [List.length_take] at hle
    simp only [F71.b3]
    rw [if_pos (by omega), if_pos (by omega), e1, if_pos (by omega), e3, w64 (n := (r : Int) + 1) (by omega) (by omega), if_pos (by simp; omega), show (r : Int) + 1 = ((r + 1 : Nat) : Int) by omega, gd_map _ _ _ (by omega), if_neg (by omega), Int.toNat_natCast, show r + 1 - 1 = r by omega, w64 (n := ((ce f (P.take k) r : Nat) : Int) + 1) (by omega) (by omega), w64 (by omega) (by omega)]
    rw [map_set (m + 1) _ (fun i => (((if i = 0 then 0 else ce f (P.take (k + 1)) (i - 1) : Nat)) : Int)) (r + 1) _ (by omega) (fun i hi => ?_)]
    · rfl
    · by_cases a : i = r + 1
      · subst a; rw [if_neg (by omega), if_pos rfl, show r + 1 - 1 = r by omega, ce_snoc f P k r hk, e5, if_pos rfl]; omega
      · rw [if_neg a]
        by_cases b : i = 0
        · rw [if_pos b, if_pos b]
        · rw [if_neg b, if_neg b, ce_snoc f P k (i - 1) hk, e5, if_neg (by omega), Nat.add_zero]
end Go.Proofs.Ytedokgdilpfomaa
