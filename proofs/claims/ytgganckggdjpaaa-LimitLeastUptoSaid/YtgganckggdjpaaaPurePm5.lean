/- What Pm5 needs. -/
import Derived.Test.YtgganckggdjpaaaPurePm4
set_option linter.unusedVariables false
set_option linter.unusedSimpArgs false
namespace Go.Proofs.Ytgganckggdjpaaa
open Go Go.Eng Go.Proofs
/-! ### drogherref10.sorted, Many -/
def Desc (l : List Int) : Prop := l.Pairwise (· ≥ ·)
theorem F51_ins (w : List Int) (out : List Int) (i : Nat) (v : Int) (hv : IntKind.wrap .u64 (gd w (i : Int)) = v) (hl : out.length ≤ 2000000) (hd : Desc out) :
    ∃ y, loop (F51.b2 w out (i : Int)) (([] : List Int), false, (0 : Int)) = some y ∧ ((y.2 = true ∧ y.1.Perm (v :: out) ∧ Desc y.1) ∨ (y.2 = false ∧ y.1 = out ∧ ∀ x ∈ out, v ≤ x)) := by
  obtain ⟨y, hy, hp⟩ := loop_ends (b := F51.b2 w out (i : Int)) (fun s => ∃ k : Nat, s.2.2 = (k : Int) ∧ k ≤ out.length ∧ ((s.2.1 = true ∧ ∃ j, j < k ∧ s.1 = out.take j ++ v :: (out.take k).drop j ∧ (∀ x ∈ out.take j, v ≤ x) ∧ gd out (j : Int) < v) ∨ (s.2.1 = false ∧ s.1 = out.take k ∧ ∀ x ∈ out.take k, v ≤ x))) (fun s => out.length - s.2.2.toNat)
    (fun y => (y.2 = true ∧ y.1.Perm (v :: out) ∧ Desc y.1) ∨ (y.2 = false ∧ y.1 = out ∧ ∀ x ∈ out, v ≤ x)) (fun s hS => by
    obtain ⟨d, dn, kk⟩ := s
    obtain ⟨k, hk, hkl, hS⟩ := hS
    simp only at hk hS
    subst hk
    unfold F51.b2
    dsimp only
    rw [hv]
    by_cases h1 : (k : Int) < (out.length : Int)
    · rw [if_pos h1]
      rcases hS with ⟨rfl, j, hj, rfl, hle, hlt⟩ | ⟨rfl, rfl, hle⟩
      · rw [if_pos rfl, if_pos (by omega), if_pos (by simp; omega)]
        unfold F51.j5
        rw [wp1 k (by omega)]
        refine ⟨_, rfl, fun s' hs' => ?_, fun r hr => by cases hr⟩
        cases hs'
        refine ⟨⟨k + 1, rfl, by omega, .inl ⟨rfl, j, by omega, ?_, hle, hlt⟩⟩, by simp only; omega⟩
        rw [take_gd _ _ (by omega), List.drop_append_of_le_length (by rw [List.length_take]; omega)]
        simp
      · rw [if_neg (by simp), if_pos (by omega)]
        by_cases h2 : gd out (k : Int) < v
        · rw [if_pos h2, if_pos (by simp; omega)]
          unfold F51.j6 F51.j5
          rw [if_pos (by simp; omega), wp1 k (by omega)]
          refine ⟨_, rfl, fun s' hs' => ?_, fun r hr => by cases hr⟩
          cases hs'
          refine ⟨⟨k + 1, rfl, by omega, .inl ⟨rfl, k, by omega, ?_, hle, h2⟩⟩, by simp only; omega⟩
          rw [take_gd out k (by omega), List.drop_append_of_le_length (by rw [List.length_take]; omega), List.drop_of_length_le (by rw [List.length_take]; omega)]
          simp
        · rw [if_neg h2]
          unfold F51.j6 F51.j5
          rw [if_pos (by simp; omega), wp1 k (by omega)]
          refine ⟨_, rfl, fun s' hs' => ?_, fun r hr => by cases hr⟩
          cases hs'
          refine ⟨⟨k + 1, rfl, by omega, .inr ⟨rfl, by rw [take_gd out k (by omega)], fun x hx => ?_⟩⟩, by simp only; omega⟩
          rw [take_gd out k (by omega)] at hx
          rcases List.mem_append.1 hx with h | h
          · exact hle x h
          · simp at h; subst h; omega
    · rw [if_neg h1]
      refine ⟨_, rfl, fun s' hs' => (by cases hs'), fun r hr' => ?_⟩
      cases hr'
      have : k = out.length := by omega
      subst this
      rcases hS with ⟨rfl, j, hj, rfl, hle, hlt⟩ | ⟨rfl, rfl, hle⟩
      · refine .inl ⟨rfl, ?_, ?_⟩
        · rw [List.take_length]
          refine List.perm_middle.trans ?_
          rw [List.take_append_drop]
        · rw [List.take_length]
          have hb : ∀ x ∈ out.drop j, x < v := fun x hx => by
            obtain ⟨t, ht, e⟩ := List.mem_iff_getElem.1 hx
            rw [List.getElem_drop] at e
            rw [gd_at _ _ hj] at hlt
            simp at ht
            by_cases h0 : t = 0
            · subst h0; rw [← e]; simpa using hlt
            · have := (List.pairwise_iff_getElem.1 hd) j (j + t) hj (by omega) (by omega)
              omega
          refine List.pairwise_append.2 ⟨hd.sublist (List.take_sublist _ _), List.pairwise_cons.2 ⟨fun x hx => by have := hb x hx; omega, hd.sublist (List.drop_sublist _ _)⟩, fun a ha b hb' => ?_⟩
          have h3 := hle a ha
          rcases List.mem_cons.1 hb' with rfl | hb'
          · omega
          · have := hb b hb'; omega
      · exact .inr ⟨rfl, by simp, by simpa using hle⟩) (([] : List Int), false, (0 : Int)) ⟨0, rfl, by omega, .inr ⟨rfl, by simp, by simp⟩⟩
  exact ⟨y, hy, hp⟩
theorem F51_is (w : List Int) (hw : ∀ x ∈ w, InR .u32 x) (hl : w.length ≤ 2000000) : ∃ out, F51.m w = some out ∧ out.Perm ((coins w w.length).map (·.1)) ∧ Desc out := by
  unfold F51.m
  obtain ⟨y, hy, hp⟩ := loop_ends (b := F51.b1 w) (fun s => ∃ k : Nat, s.2 = (k : Int) ∧ k ≤ w.length ∧ s.1.Perm ((coins w k).map (·.1)) ∧ Desc s.1) (fun s => w.length - s.2.toNat) (fun y => y.Perm ((coins w w.length).map (·.1)) ∧ Desc y) (fun s hS => by
    obtain ⟨d, kk⟩ := s
    obtain ⟨k, hk, hkl, hp, hd⟩ := hS
    simp only at hk hp hd
    subst hk
    have hcl := coins_len w k
    have hdl := hp.length_eq
    rw [List.length_map] at hdl
    unfold F51.b1
    dsimp only
    by_cases h1 : (k : Int) < (w.length : Int)
    · rw [if_pos h1, if_pos (by omega)]
      have hx := inU32 (hw _ (gd_mem w k (by omega)))
      have hw64 : IntKind.wrap .u64 (gd w (k : Int)) = gd w (k : Int) := wu64 (by omega) (by omega)
      have hc : coins w (k + 1) = if 0 < gd w (k : Int) then coins w k ++ [(gd w (k : Int), [(k : Int)])] else coins w k := by rw [coins]
      by_cases h0 : gd w (k : Int) = 0
      · rw [if_pos h0]
        unfold F51.j2
        rw [wp1 k (by omega)]
        refine ⟨_, rfl, fun s' hs' => ?_, fun r hr => by cases hr⟩
        cases hs'
        exact ⟨⟨k + 1, rfl, by omega, by rw [hc, if_neg (by omega)]; exact hp, hd⟩, by simp only; omega⟩
      · rw [if_neg h0]
        rw [if_pos (by omega)] at hc
        obtain ⟨⟨e, dn⟩, hy, hyp⟩ := F51_ins w d k _ hw64 (by omega) hd
        rw [hy, Option.bind_some]
        dsimp only
        have hpm : ((coins w (k + 1)).map (·.1)).Perm (gd w (k : Int) :: d) := by
          rw [hc, List.map_append]
          exact List.perm_append_singleton _ _ |>.trans (hp.symm.cons _)
        unfold F51.j3
        rcases hyp with ⟨h2, h3, h4⟩ | ⟨h2, h3, h4⟩
        · simp only at h2 h3 h4
          subst h2
          rw [if_pos rfl]
          unfold F51.j4 F51.j2
          rw [wp1 k (by omega)]
          refine ⟨_, rfl, fun s' hs' => ?_, fun r hr => by cases hr⟩
          cases hs'
          exact ⟨⟨k + 1, rfl, by omega, h3.trans hpm.symm, h4⟩, by simp only; omega⟩
        · simp only at h2 h3
          subst h2; subst h3
          rw [if_neg (by simp), if_pos (by simp; omega)]
          unfold F51.j4 F51.j2
          rw [wp1 k (by omega), hw64]
          refine ⟨_, rfl, fun s' hs' => ?_, fun r hr => by cases hr⟩
          cases hs'
          refine ⟨⟨k + 1, rfl, by omega, (List.perm_append_singleton _ _).trans hpm.symm, List.pairwise_append.2 ⟨hd, by simp, fun a ha b hb => ?_⟩⟩, by simp only; omega⟩
          simp at hb
          subst hb
          exact h4 a ha
    · rw [if_neg h1]
      refine ⟨_, rfl, fun s' hs' => (by cases hs'), fun r hr' => ?_⟩
      cases hr'
      have : k = w.length := by omega
      subst this
      exact ⟨hp, hd⟩) (([] : List Int), (0 : Int)) ⟨0, rfl, by omega, by simp [coins], by simp [Desc]⟩
  rw [hy]
  exact ⟨y, rfl, hp⟩
theorem F22_is (w : List Int) (hw : ∀ x ∈ w, InR .u32 x) (hl : w.length ≤ 2000000) : F22.m w = some ((coins w w.length).length : Int) := by
  obtain ⟨out, h1, h2, _⟩ := F51_is w hw hl
  unfold F22.m
  rw [h1, Option.bind_some, h2.length_eq, List.length_map]
theorem F21_is (n most : Nat) (hn : n ≤ 400) (hm : most ≤ 15) : F21.m (n : Int) (most : Int) = some (decide (n ≤ 2 ^ most)) := by
  unfold F21.m
  by_cases h : (9 : Int) ≤ (most : Int)
  · rw [if_pos h]
    have := Nat.pow_le_pow_right (n := 2) (by omega) (show 9 ≤ most by omega)
    congr 1
    symm
    rw [decide_eq_true_iff]
    generalize 2 ^ most = u at this
    omega
  · rw [if_neg h, if_pos (by omega)]
    have h3 := Nat.pow_le_pow_right (n := 2) (by omega) hm
    rw [show (1 : Int) = ((1 : Nat) : Int) from rfl, shl_nat _ _ _ (by simp [IntKind.bits]; omega), Nat.shiftLeft_eq, Nat.one_mul]
    generalize 2 ^ most = u at h3
    rw [w64 (by omega) (by omega)]
    congr 1
    rw [decide_eq_decide]
    omega
theorem told_pos {w : List Int} {A : List Pk} {cs : List Nat} {l : List Int} (h : Told w A cs l) : ∀ x ∈ A, 0 < x.1 := fun x hx => by
  obtain ⟨i, hi, rfl⟩ := List.mem_iff_getElem.1 hx
  obtain ⟨s, _, h1, h2, _⟩ := h.of i hi
  rw [h2]; exact h1
/-- What is said of lengths. -/
structure Right (w : List Int) (most : Nat) (l : List Int) : Prop where
  len : l.length = w.length
  may : F23.m l = some true
  each : ∀ s, s < w.length → 0 ≤ gd l (s : Int) ∧ gd l (s : Int) ≤ (most : Int) ∧ (0 < gd l (s : Int) ↔ 0 < gd w (s : Int))
  order : ∀ s t, s < w.length → t < w.length → gd w (t : Int) < gd w (s : Int) → 0 < gd w (t : Int) → gd l (s : Int) ≤ gd l (t : Int)
theorem F20_right (w : List Int) (hw : ∀ x ∈ w, InR .u32 x) (hl : w.length ≤ 300) (most : Nat) (h1 : 1 ≤ most) (h2 : most ≤ 15) :
    (2 ^ most < (coins w w.length).length ∧ F20.m w (most : Int) = some ([], 1)) ∨ ((coins w w.length).length ≤ 2 ^ most ∧ ∃ l, F20.m w (most : Int) = some (l, 0) ∧ Right w most l) := by
  have hmem := coins_mem w w.length
  rcases F20_is w hw hl most h1 h2 with h | ⟨hn, hn1, s, hs, hC, hm⟩ | ⟨hn, hn1, A, cs, l, hp, ha, hsel, hm, hll, hcount⟩
  · exact .inl h
  · refine .inr ⟨hn, _, hm, ?_⟩
    have hg : ∀ t, t < w.length → gd ((List.replicate w.length (0 : Int)).set s 1) (t : Int) = if s = t then 1 else 0 := fun t ht => by
      rw [gd_set _ _ _ _ (by simpa using hs), gd_rep _ _ _ ht]
    have hone : ∀ t, t < w.length → (0 < gd w (t : Int) ↔ s = t) := fun t ht => by
      constructor
      · intro h
        have := (hmem (gd w (t : Int), [(t : Int)])).2 ⟨t, ht, h, rfl⟩
        rw [hC] at this
        simp at this
        omega
      · rintro rfl
        obtain ⟨t, h3, h4, h5⟩ := (hmem (gd w (s : Int), [(s : Int)])).1 (by rw [hC]; simp)
        simp at h5
        have : s = t := by omega
        rw [this]; exact h4
    refine ⟨by simp, ?_, fun t ht => ?_, fun a b ha hb h3 h4 => ?_⟩
    · have hk : kraftN ((List.replicate w.length (0 : Int)).set s 1) w.length = 16384 ∧ codesN ((List.replicate w.length (0 : Int)).set s 1) w.length = 1 := by
        have key : ∀ k, k ≤ w.length → kraftN ((List.replicate w.length (0 : Int)).set s 1) k = (if s < k then 16384 else 0) ∧ codesN ((List.replicate w.length (0 : Int)).set s 1) k = if s < k then 1 else 0 := fun k => by
          induction k with
          | zero => intro _; exact ⟨rfl, rfl⟩
          | succ k ih =>
            intro hk
            obtain ⟨i1, i2⟩ := ih (by omega)
            unfold kraftN at i1 ⊢
            unfold codesN at i2 ⊢
            rw [sumN, sumN, i1, i2, hg k (by omega)]
            by_cases c : s = k
            · subst c
              simp
            · rw [if_neg c]
              by_cases c2 : s < k
              · rw [if_pos c2, if_pos (show s < k + 1 by omega)]; simp [c2]; omega
              · rw [if_neg c2, if_neg (show ¬ s < k + 1 by omega)]; simp [c2]; omega
        have := key w.length (Nat.le_refl _)
        rw [if_pos hs, if_pos hs] at this
        exact this
      rw [F23_is _ (by simpa using hl) (fun t ht => by rw [hg t (by simpa using ht)]; split <;> omega)]
      rw [List.length_set, List.length_replicate, hk.1, hk.2]
      rfl
    · rw [hg t ht, hone t ht]
      by_cases c : s = t
      · rw [if_pos c]; omega
      · rw [if_neg c]; omega
    · rw [hg a ha, hg b hb]
      have := (hone b hb).1 h4
      rw [if_pos this]
      split <;> omega
  · refine .inr ⟨hn, l, hm, ?_⟩
    have hlen := hsel.len
    have ht := told hp ha (by omega) hll hcount
    have hpos := told_pos ht
    have hAl := hp.length_eq
    have hlt : ∀ i, lenAt cs i ≤ most := fun i => by have := lenAt_le cs i; omega
    have key : ∀ s, s < w.length → 0 < gd w (s : Int) → ∃ i, ∃ hi : i < A.length, A[i] = (gd w (s : Int), [(s : Int)]) ∧ gd l (s : Int) = (lenAt cs i : Int) := fun s hs h0 => by
      obtain ⟨i, hi, e⟩ := ht.to s hs h0
      obtain ⟨t, _, _, h5, h6⟩ := ht.of i hi
      rw [e] at h5
      simp at h5
      rw [← h5.2] at h6
      exact ⟨i, hi, e, h6⟩
    have hb : ∀ s, s < w.length → 0 ≤ gd l (s : Int) ∧ gd l (s : Int) ≤ (most : Int) ∧ (0 < gd l (s : Int) ↔ 0 < gd w (s : Int)) := fun s hs => by
      by_cases h0 : 0 < gd w (s : Int)
      · obtain ⟨i, hi, _, e⟩ := key s hs h0
        have := hlt i
        have := lenAt_pos ha hpos (by omega) hsel i hi
        rw [e]
        refine ⟨by omega, by omega, fun _ => h0, fun _ => by omega⟩
      · rw [ht.zero s hs h0]
        exact ⟨by omega, by omega, fun h => by omega, fun h => absurd h h0⟩
    refine ⟨hll, ?_, hb, fun s t hs ht' h3 h4 => ?_⟩
    · rw [F23_is l (by omega) (fun s hs => by have := hb s (by omega); omega)]
      by_cases c : A.length = 0
      · have hC0 : coins w w.length = [] := List.length_eq_zero_iff.1 (by omega)
        have hz : ∀ s, s < w.length → gd l (s : Int) = 0 := fun s hs => ht.zero s hs fun h0 => by
          have := (hmem (gd w (s : Int), [(s : Int)])).2 ⟨s, hs, h0, rfl⟩
          rw [hC0] at this
          simp at this
        have hk : ∀ k, k ≤ w.length → kraftN l k = 0 ∧ codesN l k = 0 := fun k => by
          induction k with
          | zero => intro _; exact ⟨rfl, rfl⟩
          | succ k ih =>
            intro hk
            obtain ⟨i1, i2⟩ := ih (by omega)
            unfold kraftN at i1 ⊢
            unfold codesN at i2 ⊢
            rw [sumN, sumN, i1, i2, hz k (by omega)]
            exact ⟨rfl, rfl⟩
        rw [hll, (hk _ (Nat.le_refl _)).1, (hk _ (Nat.le_refl _)).2]
        rfl
      · rw [told_kraft ht (by omega) (by omega) hsel]
        unfold F23.j1
        rfl
    · obtain ⟨i, hi, e1, e2⟩ := key s hs (by omega)
      obtain ⟨j, hj, e3, e4⟩ := key t ht' h4
      have hij : j ≤ i := Nat.le_of_not_lt fun hlt => by
        have := ha.get (show i ≤ j by omega) hj
        rw [e1, e3] at this
        simp only at this
        omega
      have := lenAt_anti cs hij
      rw [e2, e4]
      omega
end Go.Proofs.Ytgganckggdjpaaa
