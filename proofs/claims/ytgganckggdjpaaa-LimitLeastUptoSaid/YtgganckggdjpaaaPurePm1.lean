/- What Pm1 needs. -/
import Derived.Test.YtgganckggdjpaaaPureStb
set_option linter.unusedVariables false
set_option linter.unusedSimpArgs false
namespace Go.Proofs.Ytgganckggdjpaaa
open Go Go.Eng Go.Proofs
/-! ### Package-merge, as plain lists -/
def wle (a b : Pk) : Bool := decide (a.1 ≤ b.1)
def Asc (X : List Pk) : Prop := X.Pairwise fun a b => wle a b = true
theorem wle_iff {a b : Pk} : wle a b = true ↔ a.1 ≤ b.1 := by simp [wle]
theorem asc_merge {A B : List Pk} (hA : Asc A) (hB : Asc B) : Asc (A.merge B wle) := List.pairwise_merge (fun a b c h h' => by rw [wle_iff] at *; omega) (fun a b => by simp [wle]; omega) _ _ hA hB
theorem Asc.get {X : List Pk} (h : Asc X) {i j : Nat} (hi : i ≤ j) (hj : j < X.length) : (X[i]'(by omega)).1 ≤ X[j].1 := by
  by_cases e : i = j
  · subst e; exact Int.le_refl _
  · exact wle_iff.1 ((List.pairwise_iff_getElem.1 h) i j (by omega) hj (by omega))
def wsum (X : List Pk) : Int := (X.map (·.1)).sum
theorem wsum_nil : wsum [] = 0 := rfl
theorem wsum_cons (x : Pk) (X : List Pk) : wsum (x :: X) = x.1 + wsum X := by simp [wsum]
theorem wsum_append (X Y : List Pk) : wsum (X ++ Y) = wsum X + wsum Y := by
  induction X with
  | nil => simp [wsum]
  | cons x X ih => rw [List.cons_append, wsum_cons, wsum_cons, ih]; omega
theorem wsum_perm {X Y : List Pk} (h : X.Perm Y) : wsum X = wsum Y := by
  induction h with
  | nil => rfl
  | cons x _ ih => rw [wsum_cons, wsum_cons, ih]
  | swap x y l => simp only [wsum_cons]; omega
  | trans _ _ ih1 ih2 => rw [ih1, ih2]
theorem wsum_take (X : List Pk) (k : Nat) (h : k < X.length) : wsum (X.take (k + 1)) = wsum (X.take k) + X[k].1 := by
  rw [take_succ' _ _ h, wsum_append, wsum_cons, wsum_nil]; omega
/-- A front of two rows merged is a front of each. -/
theorem merge_front : ∀ (A B : List Pk) (m : Nat), Asc A → m ≤ A.length + B.length →
    ∃ c d, c + d = m ∧ c ≤ A.length ∧ d ≤ B.length ∧ ((A.merge B wle).take m).Perm (A.take c ++ B.take d) ∧ ∀ (hc : c < A.length) (hd : d - 1 < B.length), 0 < d → ¬ A[c].1 ≤ B[d - 1].1
  | [], B, m, _, hm => ⟨0, m, by omega, by simp, by simpa using hm, by simp [List.nil_merge], fun hc => by simp at hc⟩
  | a :: A, [], m, _, hm => ⟨m, 0, by omega, by simpa using hm, by simp, by simp [List.merge_right], fun _ _ h => by omega⟩
  | a :: A, b :: B, 0, _, _ => ⟨0, 0, rfl, by simp, by simp, by simp, fun _ _ h => by omega⟩
  | a :: A, b :: B, m + 1, hA, hm => by
    have hA' : Asc A := (List.pairwise_cons.1 hA).2
    rw [List.cons_merge_cons]
    by_cases h : a.1 ≤ b.1
    · rw [if_pos (wle_iff.2 h)]
      obtain ⟨c, d, h1, h2, h3, h4, h5⟩ := merge_front A (b :: B) m hA' (by simp at hm ⊢; omega)
      refine ⟨c + 1, d, by omega, by simpa using h2, h3, ?_, fun hc hd h0 => ?_⟩
      · rw [List.take_succ_cons, List.take_succ_cons, List.cons_append]
        exact h4.cons a
      · simp only [List.getElem_cons_succ]
        exact h5 (by simpa using hc) hd h0
    · rw [if_neg (fun hh => h (wle_iff.1 hh))]
      obtain ⟨c, d, h1, h2, h3, h4, h5⟩ := merge_front (a :: A) B m hA (by simp at hm ⊢; omega)
      refine ⟨c, d + 1, by omega, h2, by simpa using h3, ?_, fun hc hd h0 => ?_⟩
      · rw [List.take_succ_cons, List.take_succ_cons]
        exact (h4.cons b).trans List.perm_middle.symm
      · simp only [Nat.add_sub_cancel]
        cases d with
        | zero =>
          simp only [List.getElem_cons_zero]
          have := hA.get (Nat.zero_le c) hc
          simp only [List.getElem_cons_zero] at this
          omega
        | succ d =>
          simp only [List.getElem_cons_succ]
          exact h5 hc (by simp at hd; omega) (by omega)
/-- No other front weighs less. -/
theorem merge_least : ∀ (A B : List Pk) (c d : Nat), Asc A → Asc B → c ≤ A.length → d ≤ B.length → wsum ((A.merge B wle).take (c + d)) ≤ wsum (A.take c) + wsum (B.take d)
  | [], B, c, d, _, _, hc, hd => by
    have : c = 0 := by simpa using hc
    subst this
    simp [List.nil_merge, wsum_nil]
  | a :: A, [], c, d, _, _, hc, hd => by
    have : d = 0 := by simpa using hd
    subst this
    simp [List.merge_right, wsum_nil]
  | a :: A, b :: B, c, d, hA, hB, hc, hd => by
    have hA' : Asc A := (List.pairwise_cons.1 hA).2
    have hB' : Asc B := (List.pairwise_cons.1 hB).2
    rw [List.cons_merge_cons]
    by_cases h : a.1 ≤ b.1
    · rw [if_pos (wle_iff.2 h)]
      cases c with
      | succ c =>
        rw [show c + 1 + d = (c + d) + 1 by omega, List.take_succ_cons, List.take_succ_cons, wsum_cons, wsum_cons]
        have := merge_least A (b :: B) c d hA' hB (by simpa using hc) hd
        omega
      | zero =>
        cases d with
        | zero => simp [wsum_nil]
        | succ d =>
          rw [show 0 + (d + 1) = (0 + d) + 1 by omega, List.take_succ_cons, wsum_cons]
          have h1 := merge_least A (b :: B) 0 d hA' hB (by omega) (by omega)
          have h2 := wsum_take (b :: B) d (by omega)
          have h3 := hB.get (Nat.zero_le d) (by omega : d < (b :: B).length)
          simp only [List.getElem_cons_zero] at h3
          simp only [List.take_zero, wsum_nil] at h1 ⊢
          omega
    · rw [if_neg (fun hh => h (wle_iff.1 hh))]
      cases d with
      | succ d =>
        rw [show c + (d + 1) = (c + d) + 1 by omega, List.take_succ_cons, List.take_succ_cons, wsum_cons, wsum_cons]
        have := merge_least (a :: A) B c d hA hB' hc (by simpa using hd)
        omega
      | zero =>
        cases c with
        | zero => simp [wsum_nil]
        | succ c =>
          rw [show c + 1 + 0 = c + 1 by omega, List.take_succ_cons, wsum_cons]
          have h1 := merge_least (a :: A) B c 0 hA hB' (by omega) (by omega)
          have h2 := wsum_take (a :: A) c (by omega)
          have h3 := hA.get (Nat.zero_le c) (by omega : c < (a :: A).length)
          simp only [List.getElem_cons_zero] at h3
          simp only [List.take_zero, wsum_nil, Nat.add_zero] at h1 ⊢
          omega
/-! Neighbours put together. -/
def prs : List Pk → List Pk
  | x :: y :: l => (x.1 + y.1, x.2 ++ y.2) :: prs l
  | _ => []
theorem prs_len : ∀ l : List Pk, (prs l).length = l.length / 2
  | [] => rfl
  | [_] => by simp [prs]
  | x :: y :: l => by simp [prs, prs_len l]; omega
def syms (X : List Pk) : List Int := X.flatMap (·.2)
theorem syms_append (X Y : List Pk) : syms (X ++ Y) = syms X ++ syms Y := by simp [syms]
theorem syms_perm {X Y : List Pk} (h : X.Perm Y) : (syms X).Perm (syms Y) := h.flatMap_right _
theorem prs_syms : ∀ (l : List Pk) (d : Nat), 2 * d ≤ l.length → syms ((prs l).take d) = syms (l.take (2 * d))
  | _, 0, _ => rfl
  | [], d + 1, h => by simp at h
  | [_], d + 1, h => by simp at h; omega
  | x :: y :: l, d + 1, h => by
    rw [show 2 * (d + 1) = 2 * d + 1 + 1 by omega]
    simp only [prs, List.take_succ_cons]
    have := prs_syms l d (by simp at h; omega)
    simp only [syms, List.flatMap_cons, List.append_assoc] at this ⊢
    rw [this]
theorem prs_wsum : ∀ (l : List Pk) (d : Nat), 2 * d ≤ l.length → wsum ((prs l).take d) = wsum (l.take (2 * d))
  | _, 0, _ => rfl
  | [], d + 1, h => by simp at h
  | [_], d + 1, h => by simp at h; omega
  | x :: y :: l, d + 1, h => by
    rw [show 2 * (d + 1) = 2 * d + 1 + 1 by omega]
    simp only [prs, List.take_succ_cons, wsum_cons]
    have := prs_wsum l d (by simp at h; omega)
    omega
theorem prs_mem : ∀ (l : List Pk) (d : Nat), 2 * d ≤ l.length → (∀ x ∈ l, 0 < x.1) → ∀ x ∈ l.take (2 * d), ∃ p ∈ (prs l).take d, x.1 < p.1
  | _, 0, _, _, x, hx => by simp at hx
  | [], d + 1, h, _, _, _ => by simp at h
  | [_], d + 1, h, _, _, _ => by simp at h; omega
  | a :: b :: l, d + 1, h, hp, x, hx => by
    rw [show 2 * (d + 1) = 2 * d + 1 + 1 by omega, List.take_succ_cons, List.take_succ_cons] at hx
    have ha := hp a (by simp)
    have hb := hp b (by simp)
    simp only [prs, List.take_succ_cons]
    rcases List.mem_cons.1 hx with rfl | hx
    · exact ⟨_, List.mem_cons_self, by simp only; omega⟩
    · rcases List.mem_cons.1 hx with rfl | hx
      · exact ⟨_, List.mem_cons_self, by simp only; omega⟩
      · obtain ⟨p, h1, h2⟩ := prs_mem l d (by simp at h; omega) (fun y hy => hp y (by simp [hy])) x hx
        exact ⟨p, List.mem_cons_of_mem _ h1, h2⟩
theorem prs_from : ∀ (l : List Pk) (p : Pk), p ∈ prs l → ∃ x ∈ l, ∃ y ∈ l, p = (x.1 + y.1, x.2 ++ y.2)
  | [], p, h => by simp [prs] at h
  | [_], p, h => by simp [prs] at h
  | x :: y :: l, p, h => by
    rcases List.mem_cons.1 h with rfl | h
    · exact ⟨x, by simp, y, by simp, rfl⟩
    · obtain ⟨u, hu, v, hv, e⟩ := prs_from l p h
      exact ⟨u, by simp [hu], v, by simp [hv], e⟩
theorem prs_asc : ∀ (l : List Pk), Asc l → Asc (prs l)
  | [], _ => List.Pairwise.nil
  | [_], _ => List.Pairwise.nil
  | x :: y :: l, h => by
    obtain ⟨h1, h2⟩ := List.pairwise_cons.1 h
    obtain ⟨h3, h4⟩ := List.pairwise_cons.1 h2
    refine List.pairwise_cons.2 ⟨fun p hp => ?_, prs_asc l h4⟩
    obtain ⟨u, hu, v, hv, rfl⟩ := prs_from l p hp
    have a := wle_iff.1 (h1 u (by simp [hu]))
    have b := wle_iff.1 (h3 v hv)
    rw [wle_iff]
    show x.1 + y.1 ≤ u.1 + v.1
    omega
/-! The rows. -/
def row (A : List Pk) : Nat → List Pk
  | 0 => A
  | k + 1 => A.merge (prs (row A k)) wle
section
variable {A : List Pk}
theorem row_asc (hA : Asc A) : ∀ k, Asc (row A k)
  | 0 => hA
  | k + 1 => asc_merge hA (prs_asc _ (row_asc hA k))
theorem row_len_succ (k : Nat) : (row A (k + 1)).length = A.length + (row A k).length / 2 := by
  have := (List.merge_perm_append wle (xs := A) (ys := prs (row A k))).length_eq
  rw [List.length_append, prs_len] at this
  exact this
theorem row_up (h : 1 ≤ A.length) : ∀ k, (row A k).length ≤ 2 * A.length - 1
  | 0 => by show A.length ≤ _; omega
  | k + 1 => by rw [row_len_succ]; have := row_up h k; omega
theorem row_low : ∀ k m, A.length ≤ 2 ^ k * m → 2 * A.length ≤ (row A k).length + m
  | 0, m, h => by show 2 * A.length ≤ A.length + m; omega
  | k + 1, m, h => by
    rw [row_len_succ]
    have := row_low k (2 * m) (by rw [← Nat.mul_assoc, ← Nat.pow_succ]; exact h)
    omega
theorem row_pos (hp : ∀ x ∈ A, 0 < x.1) : ∀ k, ∀ x ∈ row A k, 0 < x.1
  | 0 => hp
  | k + 1 => fun x hx => by
    rcases List.mem_merge.1 hx with h | h
    · exact hp x h
    · obtain ⟨u, hu, v, hv, rfl⟩ := prs_from _ _ h
      have := row_pos hp k u hu
      have := row_pos hp k v hv
      simp only; omega
theorem row_small {W : Int} (hW : ∀ x ∈ A, x.1 ≤ W) (h0 : 0 ≤ W) : ∀ k, ∀ x ∈ row A k, x.1 ≤ W * 2 ^ k
  | 0 => fun x hx => by have := hW x hx; simpa using this
  | k + 1 => fun x hx => by
    have hk : W * 2 ^ k + W * 2 ^ k = W * 2 ^ (k + 1) := by rw [Int.pow_succ, ← Int.mul_assoc]; omega
    rcases List.mem_merge.1 hx with h | h
    · have h1 := hW x h
      have h2 : (1 : Int) ≤ 2 ^ (k + 1) := Int.pow_pos (by omega)
      have h3 := Int.mul_le_mul_of_nonneg_left h2 h0
      omega
    · obtain ⟨u, hu, v, hv, rfl⟩ := prs_from _ _ h
      have := row_small hW h0 k u hu
      have := row_small hW h0 k v hv
      simp only; omega
theorem row_syms (hS : ∀ x ∈ A, x.2.length ≤ 1) : ∀ k, ∀ x ∈ row A k, x.2.length ≤ 2 ^ k
  | 0 => fun x hx => by have := hS x hx; simpa using this
  | k + 1 => fun x hx => by
    rcases List.mem_merge.1 hx with h | h
    · have := hS x h
      have : 1 ≤ 2 ^ (k + 1) := Nat.one_le_two_pow
      omega
    · obtain ⟨u, hu, v, hv, rfl⟩ := prs_from _ _ h
      have := row_syms hS k u hu
      have := row_syms hS k v hv
      simp only [List.length_append, Nat.pow_succ]; omega
/-- What is chosen: how many coins of each row, the last row's first. -/
inductive Sel (A : List Pk) : Nat → Nat → List Nat → Prop
  | base (m : Nat) (h : m ≤ A.length) : Sel A 0 m [m]
  | step (k m c : Nat) (cs : List Nat) (h1 : c ≤ m) (h2 : c ≤ A.length) (h3 : m - c ≤ (row A k).length / 2) (h4 : ((row A (k + 1)).take m).Perm (A.take c ++ (prs (row A k)).take (m - c)))
      (h5 : ∀ (hc : c < A.length) (hd : m - c - 1 < (prs (row A k)).length), 0 < m - c → ¬ A[c].1 ≤ ((prs (row A k))[m - c - 1]).1) (h6 : Sel A k (2 * (m - c)) cs) : Sel A (k + 1) m (c :: cs)
theorem Sel.ex (hA : Asc A) : ∀ k m, m ≤ (row A k).length → ∃ cs, Sel A k m cs
  | 0, m, h => ⟨[m], .base m h⟩
  | k + 1, m, h => by
    rw [row_len_succ] at h
    obtain ⟨c, d, h1, h2, h3, h4, h5⟩ := merge_front A (prs (row A k)) m hA (by rw [prs_len]; exact h)
    rw [prs_len] at h3
    obtain ⟨cs, hcs⟩ := Sel.ex hA k (2 * d) (by omega)
    have e : m - c = d := by omega
    exact ⟨c :: cs, .step k m c cs (by omega) h2 (by omega) (by rw [e]; exact h4) (by rw [e] ; exact h5) (by rw [e]; exact hcs)⟩
theorem Sel.syms {k m : Nat} {cs : List Nat} (h : Sel A k m cs) : (syms ((row A k).take m)).Perm (cs.flatMap fun c => Proofs.Ytgganckggdjpaaa.syms (A.take c)) := by
  induction h with
  | base m h => simp [row]
  | step k m c cs h1 h2 h3 h4 h5 h6 ih =>
    refine (syms_perm h4).trans ?_
    rw [syms_append, prs_syms _ _ (by omega), List.flatMap_cons]
    exact ih.append_left _
theorem Sel.wsum {k m : Nat} {cs : List Nat} (h : Sel A k m cs) : wsum ((row A k).take m) = (cs.map fun c => Proofs.Ytgganckggdjpaaa.wsum (A.take c)).sum := by
  induction h with
  | base m h => simp [row]
  | step k m c cs h1 h2 h3 h4 h5 h6 ih => rw [wsum_perm h4, wsum_append, prs_wsum _ _ (by omega), ih]; simp
theorem Sel.len {k m : Nat} {cs : List Nat} (h : Sel A k m cs) : cs.length = k + 1 := by
  induction h with
  | base => rfl
  | step k m c cs _ _ _ _ _ _ ih => simp [ih]
theorem Sel.le {k m : Nat} {cs : List Nat} (h : Sel A k m cs) : ∀ c ∈ cs, c ≤ A.length := by
  induction h with
  | base m h => simpa using h
  | step k m c cs _ h2 _ _ _ _ ih => simpa using ⟨h2, ih⟩
/-- What is chosen of a row's coins is in its front. -/
theorem Sel.front {k m c : Nat} {cs : List Nat} (h : Sel A k m (c :: cs)) : ∀ x ∈ A.take c, x ∈ (row A k).take m := by
  cases h with
  | base m h => exact fun x hx => hx
  | step k m c cs h1 h2 h3 h4 h5 h6 => exact fun x hx => h4.symm.subset (by simp [hx])
theorem Sel.down {k m : Nat} {cs : List Nat} (hA : Asc A) (hp : ∀ x ∈ A, 0 < x.1) (h : Sel A k m cs) : cs.Pairwise (· ≥ ·) := by
  induction h with
  | base m h => simp
  | step k m c cs h1 h2 h3 h4 h5 h6 ih =>
    cases cs with
    | nil => simp
    | cons c' cs =>
      have hc : c' ≤ c := by
        refine Nat.le_of_not_lt fun hlt => ?_
        have hc'A := h6.le c' (by simp)
        have hcA : c < A.length := by omega
        have hin : A[c] ∈ A.take c' := by
          rw [List.mem_take_iff_getElem]
          exact ⟨c, by omega, rfl⟩
        obtain ⟨p, hp1, hp2⟩ := prs_mem (row A k) (m - c) (by omega) (row_pos hp k) _ (h6.front _ hin)
        obtain ⟨j, hj, rfl⟩ := List.mem_take_iff_getElem.1 hp1
        have hl := prs_len (row A k)
        have h7 := (prs_asc _ (row_asc hA k)).get (show j ≤ m - c - 1 by omega) (by omega)
        exact h5 hcA (by omega) (by omega) (by omega)
      rw [List.pairwise_cons] at ih ⊢
      exact ⟨fun x hx => by
        rcases List.mem_cons.1 hx with rfl | hx
        · exact hc
        · have := ih.1 x hx; omega, List.pairwise_cons.2 ih⟩
/-- All coins are in the last row's front. -/
theorem Sel.all (hA : Asc A) (hp : ∀ x ∈ A, 0 < x.1) (hn : 2 ≤ A.length) {c : Nat} {cs : List Nat} : ∀ {k m : Nat}, m = 2 * A.length - 2 → Sel A k m (c :: cs) → c = A.length
  | k, m, hm, h => by
    have hd := h.down hA hp
    induction k generalizing m c cs with
    | zero => cases h; omega
    | succ k ih =>
      cases h with
      | step _ _ _ _ h1 h2 h3 h4 h5 h6 =>
        have hu := row_up (A := A) (by omega) k
        by_cases e : c = A.length
        · exact e
        · have e1 : c = A.length - 1 := by omega
          have hl := h6.len
          cases cs with
          | nil => simp at hl
          | cons c' cs =>
            have := ih (2 * (m - c)) (by omega) h6 (List.pairwise_cons.1 hd).2
            have := (List.pairwise_cons.1 hd).1 c' (by simp)
            omega
def kval : List Nat → Nat
  | [] => 0
  | c :: cs => c * 2 ^ cs.length + kval cs
theorem Sel.val {k m : Nat} {cs : List Nat} (h : Sel A k m cs) : m * 2 ^ k = kval cs := by
  induction h with
  | base m h => simp [kval]
  | step k m c cs h1 h2 h3 h4 h5 h6 ih =>
    have hl := h6.len
    unfold kval
    rw [hl, ← ih, Nat.pow_succ]
    have e : m = c + (m - c) := by omega
    generalize m - c = d at e
    subst e
    generalize 2 ^ k = t
    rw [Nat.add_mul, Nat.mul_comm t 2, ← Nat.mul_assoc d, Nat.mul_comm d 2]
end
/-! How long codes are: in how many rows a coin is chosen. -/
def lenAt (cs : List Nat) (i : Nat) : Nat := cs.countP fun c => decide (i < c)
theorem lenAt_le (cs : List Nat) (i : Nat) : lenAt cs i ≤ cs.length := List.countP_le_length
theorem lenAt_cons (c : Nat) (cs : List Nat) (i : Nat) : lenAt (c :: cs) i = lenAt cs i + if i < c then 1 else 0 := by
  unfold lenAt
  rw [List.countP_cons]
  by_cases h : i < c <;> simp [h]
theorem lenAt_anti (cs : List Nat) {i j : Nat} (h : i ≤ j) : lenAt cs j ≤ lenAt cs i := by
  induction cs with
  | nil => simp [lenAt]
  | cons c cs ih =>
    rw [lenAt_cons, lenAt_cons]
    by_cases h1 : j < c
    · rw [if_pos h1, if_pos (by omega)]; omega
    · rw [if_neg h1]; omega
theorem lenAt_zero (cs : List Nat) (i : Nat) (h : ∀ c ∈ cs, c ≤ i) : lenAt cs i = 0 := by
  unfold lenAt
  rw [List.countP_eq_zero]
  intro c hc
  have := h c hc
  simp; omega
def sumN (f : Nat → Nat) : Nat → Nat
  | 0 => 0
  | n + 1 => sumN f n + f n
theorem sumN_congr {f g : Nat → Nat} : ∀ n, (∀ i, i < n → f i = g i) → sumN f n = sumN g n
  | 0, _ => rfl
  | n + 1, h => by simp [sumN, sumN_congr n (fun i hi => h i (by omega)), h n (by omega)]
theorem sumN_add (f g : Nat → Nat) : ∀ n, sumN (fun i => f i + g i) n = sumN f n + sumN g n
  | 0 => rfl
  | n + 1 => by simp [sumN, sumN_add f g n]; omega
theorem sumN_if (c t : Nat) : ∀ n, sumN (fun i => if i < c then t else 0) n = min c n * t
  | 0 => by simp [sumN]
  | n + 1 => by
    rw [sumN, sumN_if c t n]
    by_cases h : n < c
    · rw [if_pos h, show min c (n + 1) = min c n + 1 by omega, Nat.add_mul, Nat.one_mul]
    · rw [if_neg h, show min c (n + 1) = min c n by omega]; rfl
theorem kraft_part (n : Nat) : ∀ cs : List Nat, (∀ c ∈ cs, c ≤ n) → cs.Pairwise (· ≥ ·) → sumN (fun i => 2 ^ cs.length - 2 ^ (cs.length - lenAt cs i)) n = kval cs
  | [], _, _ => by
    have : ∀ n, sumN (fun _ => 0) n = 0 := fun n => by induction n with
      | zero => rfl
      | succ n ih => simp [sumN, ih]
    simpa [lenAt, kval] using this n
  | c :: cs, hn, hd => by
    obtain ⟨h1, h2⟩ := List.pairwise_cons.1 hd
    have ih := kraft_part n cs (fun x hx => hn x (by simp [hx])) h2
    have e : ∀ i, i < n → 2 ^ (c :: cs).length - 2 ^ ((c :: cs).length - lenAt (c :: cs) i) = (if i < c then 2 ^ cs.length else 0) + (2 ^ cs.length - 2 ^ (cs.length - lenAt cs i)) := fun i _ => by
      rw [lenAt_cons, List.length_cons]
      by_cases hi : i < c
      · rw [if_pos hi, if_pos hi, show cs.length + 1 - (lenAt cs i + 1) = cs.length - lenAt cs i by omega, Nat.pow_succ]
        have : 2 ^ (cs.length - lenAt cs i) ≤ 2 ^ cs.length := Nat.pow_le_pow_right (by omega) (by omega)
        omega
      · rw [if_neg hi, if_neg hi, lenAt_zero cs i (fun x hx => by have := h1 x hx; omega)]
        simp
    rw [sumN_congr n e, sumN_add, ih, sumN_if, Nat.min_eq_left (hn c (by simp))]
    rfl
/-- The places of all codes are all places. -/
theorem kraft_all {A : List Pk} {k : Nat} {cs : List Nat} (hA : Asc A) (hp : ∀ x ∈ A, 0 < x.1) (hn : 2 ≤ A.length) (h : Sel A k (2 * A.length - 2) cs) :
    sumN (fun i => 2 ^ (k + 1 - lenAt cs i)) A.length = 2 ^ (k + 1) := by
  have h1 := kraft_part A.length cs h.le (h.down hA hp)
  rw [← h.val, h.len] at h1
  have h2 : sumN (fun i => (2 ^ (k + 1) - 2 ^ (k + 1 - lenAt cs i)) + 2 ^ (k + 1 - lenAt cs i)) A.length = sumN (fun _ => 2 ^ (k + 1)) A.length := sumN_congr _ fun i _ => by
    have : 2 ^ (k + 1 - lenAt cs i) ≤ 2 ^ (k + 1) := Nat.pow_le_pow_right (by omega) (by omega)
    omega
  have h3 : ∀ n t, sumN (fun _ => t) n = n * t := fun n t => by induction n with
    | zero => simp [sumN]
    | succ n ih => simp [sumN, ih, Nat.add_mul]
  rw [sumN_add, h1, h3] at h2
  have e : (2 * A.length - 2) * 2 ^ k + 2 ^ (k + 1) = A.length * 2 ^ (k + 1) := by
    rw [Nat.pow_succ, Nat.mul_comm (2 ^ k) 2, ← Nat.mul_assoc, ← Nat.add_mul]
    congr 1; omega
  omega
theorem lenAt_pos {A : List Pk} {k : Nat} {cs : List Nat} (hA : Asc A) (hp : ∀ x ∈ A, 0 < x.1) (hn : 2 ≤ A.length) (h : Sel A k (2 * A.length - 2) cs) (i : Nat) (hi : i < A.length) : 0 < lenAt cs i := by
  have hl := h.len
  cases cs with
  | nil => simp at hl
  | cons c cs =>
    have := Sel.all hA hp hn rfl h
    rw [lenAt_cons, if_pos (by omega)]
    omega
end Go.Proofs.Ytgganckggdjpaaa
