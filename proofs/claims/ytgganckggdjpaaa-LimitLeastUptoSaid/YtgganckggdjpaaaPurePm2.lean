/- What Pm2 needs. -/
import Derived.Test.YtgganckggdjpaaaPureStb5
import Derived.Test.YtgganckggdjpaaaPurePm1
set_option linter.unusedVariables false
set_option linter.unusedSimpArgs false
namespace Go.Proofs.Ytgganckggdjpaaa
open Go Go.Eng Go.Proofs
/-! ### limit.pairs -/
theorem F83_is (n : Nat) (h : n ≤ 1000000) : F83.m (n : Int) = some [] := by
  unfold F83.m
  have e : IntKind.wrap .i64 ((0 : Int) - ((([] : List Int)).length : Int)) = 0 := by decide
  rw [if_neg (by omega), e, show (n : Int) - 0 = (n : Int) by omega, w64 (by omega) (by omega)]
  by_cases h0 : (0 : Int) < (n : Int)
  · rw [if_pos h0, if_pos (by omega), if_pos (by simp)]
    unfold F83.j1 subL
    simp
  · rw [if_neg h0]; rfl
theorem F71_is (s t : List Int) (hs : s.length ≤ 100000) (ht : t.length ≤ 100000) : F71.m [s, t] = some (s ++ t) := by
  unfold F71.m
  have h1 : loop (F71.b2 [s, t]) ((0 : Int), (0 : Int)) = some ((s.length + t.length : Nat) : Int) := by
    have g0 : gd [s, t] (0 : Int) = s := rfl
    have g1 : gd [s, t] (1 : Int) = t := rfl
    have s0 : F71.b2 [s, t] ((0 : Int), (0 : Int)) = some (.inl ((s.length : Int), (1 : Int))) := by
      unfold F71.b2
      dsimp only
      rw [if_pos (by simp), if_pos (by simp), g0, if_neg (by rw [w64 (by omega) (by omega)]; omega), w64 (by omega) (by omega), show IntKind.wrap .i64 ((0 : Int) + 1) = 1 by decide, Int.zero_add]
    have s1 : F71.b2 [s, t] ((s.length : Int), (1 : Int)) = some (.inl (((s.length + t.length : Nat) : Int), (2 : Int))) := by
      unfold F71.b2
      dsimp only
      rw [if_pos (by simp), if_pos (by simp), g1, if_neg (by rw [w64 (by omega) (by omega)]; omega), w64 (by omega) (by omega), show IntKind.wrap .i64 ((1 : Int) + 1) = 2 by decide]
      congr 3
    have s2 : F71.b2 [s, t] (((s.length + t.length : Nat) : Int), (2 : Int)) = some (.inr ((s.length + t.length : Nat) : Int)) := by
      unfold F71.b2
      dsimp only
      rw [if_neg (by simp)]
    rw [loop_eq, s0]
    dsimp only
    rw [loop_eq, s1]
    dsimp only
    rw [loop_eq, s2]
  rw [h1, Option.bind_some]
  dsimp only
  unfold F71.j1
  rw [F83_is _ (by omega), Option.bind_some]
  have h2 : loop (F71.b1 [s, t]) (([] : List Int), (0 : Int)) = some (s ++ t) := by
    have g0 : gd [s, t] (0 : Int) = s := rfl
    have g1 : gd [s, t] (1 : Int) = t := rfl
    have s0 : F71.b1 [s, t] (([] : List Int), (0 : Int)) = some (.inl (s, (1 : Int))) := by
      unfold F71.b1
      dsimp only
      rw [if_pos (by simp), if_pos (by simp), g0, if_pos (by simp; omega), show IntKind.wrap .i64 ((0 : Int) + 1) = 1 by decide, List.nil_append]
    have s1 : F71.b1 [s, t] (s, (1 : Int)) = some (.inl (s ++ t, (2 : Int))) := by
      unfold F71.b1
      dsimp only
      rw [if_pos (by simp), if_pos (by simp), g1, if_pos (by omega), show IntKind.wrap .i64 ((1 : Int) + 1) = 2 by decide]
    have s2 : F71.b1 [s, t] (s ++ t, (2 : Int)) = some (.inr (s ++ t)) := by
      unfold F71.b1
      dsimp only
      rw [if_neg (by simp)]
    rw [loop_eq, s0]
    dsimp only
    rw [loop_eq, s1]
    dsimp only
    rw [loop_eq, s2]
  rw [h2]
  rfl
/-- What a row of packs may be. -/
def Fine (X : List Pk) : Prop := X.length ≤ 10000 ∧ ∀ x ∈ X, 0 < x.1 ∧ x.1 ≤ 4611686018427387904 ∧ x.2.length ≤ 100000
theorem Fine.gd {X : List Pk} (h : Fine X) (k : Nat) (hk : k < X.length) : 0 < (gd X (k : Int)).1 ∧ (gd X (k : Int)).1 ≤ 4611686018427387904 ∧ (gd X (k : Int)).2.length ≤ 100000 := by
  rw [gd_at _ _ hk]; exact h.2 _ (List.getElem_mem hk)
theorem prs_gd : ∀ (X : List Pk) (k : Nat), 2 * k + 1 < X.length → gd (prs X) (k : Int) = ((gd X ((2 * k : Nat) : Int)).1 + (gd X ((2 * k + 1 : Nat) : Int)).1, (gd X ((2 * k : Nat) : Int)).2 ++ (gd X ((2 * k + 1 : Nat) : Int)).2)
  | [], k, h => by simp at h
  | [_], k, h => by simp at h
  | x :: y :: l, 0, h => rfl
  | x :: y :: l, k + 1, h => by
    have := prs_gd l k (by simp at h; omega)
    unfold Eng.gd at this ⊢
    simp only [Int.toNat_natCast] at this ⊢
    rw [show 2 * (k + 1) + 1 = 2 * k + 1 + 1 + 1 by omega, show 2 * (k + 1) = 2 * k + 1 + 1 by omega]
    simpa [prs] using this
theorem F50_is (X : List Pk) (h : Fine X) : F50.m X = some (prs X) := by
  unfold F50.m
  have hpl := prs_len X
  obtain ⟨y, hy, rfl⟩ := loop_ends (b := F82.b X) (fun s => ∃ k : Nat, s.1 = ((2 * k : Nat) : Int) ∧ 2 * k ≤ X.length + 1 ∧ s.2 = (prs X).take k) (fun s => X.length + 1 - s.1.toNat) (fun y => y = prs X) (fun s hS => by
    obtain ⟨i, o⟩ := s
    obtain ⟨k, hi, hk, ho⟩ := hS
    simp only at hi ho
    subst hi; subst ho
    have hX := h.1
    unfold F82.b
    dsimp only
    by_cases h1 : ((2 * k : Nat) : Int) < (X.length : Int)
    · rw [if_pos h1, if_pos (by omega)]
      have hl : (subL X ((2 * k : Nat) : Int) (X.length : Int)).length = X.length - 2 * k := by rw [subL_length _ _ _ (by omega)]; omega
      rw [hl]
      have e2 : IntKind.wrap .i64 (((2 * k : Nat) : Int) + (2 : Int)) = ((2 * (k + 1) : Nat) : Int) := by rw [w64 (by omega) (by omega)]; omega
      by_cases h2 : 2 * k + 1 < X.length
      · have em : minI (2 : Int) ((X.length - 2 * k : Nat) : Int) = 2 := by unfold minI; rw [if_neg (by omega)]
        rw [em, e2, if_pos (by omega)]
        have hs : subL X ((2 * k : Nat) : Int) ((2 * (k + 1) : Nat) : Int) = [gd X ((2 * k : Nat) : Int), gd X ((2 * k + 1 : Nat) : Int)] := by
          unfold subL
          rw [Int.toNat_natCast, Int.toNat_natCast, show 2 * (k + 1) - 2 * k = 2 by omega, drop_gd _ _ (by omega), drop_gd _ _ h2]
          rfl
        rw [hs]
        have a := h.gd (2 * k) (by omega)
        have b := h.gd (2 * k + 1) h2
        unfold F119.m
        simp only [List.length_cons, List.length_nil]
        rw [if_pos (by simp), if_pos (by simp), if_pos (by simp)]
        have g0 : gd [gd X ((2 * k : Nat) : Int), gd X ((2 * k + 1 : Nat) : Int)] (0 : Int) = gd X ((2 * k : Nat) : Int) := rfl
        have g1 : gd [gd X ((2 * k : Nat) : Int), gd X ((2 * k + 1 : Nat) : Int)] (1 : Int) = gd X ((2 * k + 1 : Nat) : Int) := rfl
        rw [g0, g1, F71_is _ _ a.2.2 b.2.2, Option.bind_some, if_pos (by simp; omega)]
        unfold F119.j1
        rw [Option.bind_some, wu64 (by omega) (by omega), ← prs_gd X k h2, ← take_gd _ _ (by omega)]
        refine ⟨_, rfl, fun s' hs' => ?_, fun r hr => by cases hr⟩
        cases hs'
        exact ⟨⟨k + 1, rfl, by omega, rfl⟩, by simp only; omega⟩
      · have em : minI (2 : Int) ((X.length - 2 * k : Nat) : Int) = 1 := by unfold minI; rw [if_pos (by omega)]; omega
        have e1 : IntKind.wrap .i64 (((2 * k : Nat) : Int) + (1 : Int)) = ((2 * k + 1 : Nat) : Int) := by rw [w64 (by omega) (by omega)]; omega
        rw [em, e2, e1, if_pos (by omega)]
        have hs : subL X ((2 * k : Nat) : Int) ((2 * k + 1 : Nat) : Int) = [gd X ((2 * k : Nat) : Int)] := by
          unfold subL
          rw [Int.toNat_natCast, Int.toNat_natCast, show 2 * k + 1 - 2 * k = 1 by omega, drop_gd _ _ (by omega)]
          rfl
        rw [hs]
        unfold F119.m
        simp only [List.length_cons, List.length_nil]
        rw [if_neg (by simp)]
        unfold F119.j1
        rw [Option.bind_some]
        refine ⟨_, rfl, fun s' hs' => ?_, fun r hr => by cases hr⟩
        cases hs'
        refine ⟨⟨k + 1, rfl, by omega, ?_⟩, by simp only; omega⟩
        rw [List.take_of_length_le (by omega), List.take_of_length_le (by omega)]
    · rw [if_neg h1]
      refine ⟨_, rfl, fun s' hs' => (by cases hs'), fun r hr' => ?_⟩
      cases hr'
      exact List.take_of_length_le (by omega)) ((0 : Int), ([] : List Pk)) ⟨0, rfl, by omega, rfl⟩
  exact hy
/-! ### The stable sort of two rows in order is their merging -/
theorem dat_perm {L M : List Lp} (h : L.Perm M) : (dat L).Perm (dat M) := h.map _
theorem dat_zip (xs : List Pk) (k : Nat) : dat (xs.zipIdx k) = xs := by unfold dat; rw [List.zipIdx_map_fst]
theorem zip_inj {xs : List Pk} {a b : Lp} (ha : a ∈ xs.zipIdx) (hb : b ∈ xs.zipIdx) (h : a.2 = b.2) : a = b := by
  have h1 := List.mem_zipIdx_iff_getElem?.1 ha
  have h2 := List.mem_zipIdx_iff_getElem?.1 hb
  rw [h, h2] at h1
  exact Prod.ext (Option.some.inj h1).symm h
def lexB (a b : Lp) : Bool := decide (a.1.1 < b.1.1) || (decide (a.1.1 = b.1.1) && decide (a.2 ≤ b.2))
theorem lexB_iff {a b : Lp} : lexB a b = true ↔ lex a b := by simp [lexB, lex]
theorem zip_asc : ∀ (X : List Pk) (k : Nat), Asc X → (X.zipIdx k).Pairwise fun a b => lexB a b = true
  | [], k, _ => List.Pairwise.nil
  | x :: X, k, h => by
    obtain ⟨h1, h2⟩ := List.pairwise_cons.1 h
    rw [List.zipIdx_cons]
    refine List.pairwise_cons.2 ⟨fun b hb => ?_, zip_asc X (k + 1) h2⟩
    obtain ⟨b1, b2⟩ := b
    have h3 := List.fst_mem_of_mem_zipIdx hb
    have h4 := List.le_snd_of_mem_zipIdx hb
    have h5 := wle_iff.1 (h1 _ h3)
    rw [lexB_iff]
    unfold lex
    simp only at h4 h5 ⊢
    omega
theorem F47_merge (A B : List Pk) (hl : (A ++ B).length ≤ 1000000) (hA : Asc A) (hB : Asc B) : F47_1.m (A ++ B) = some (A.merge B wle) := by
  obtain ⟨M, h1, h2, h3⟩ := F47_is (A ++ B) hl
  rw [h1]
  have hz : (A ++ B).zipIdx = A.zipIdx ++ B.zipIdx A.length := by rw [List.zipIdx_append]; simp
  have hm : M = (A.zipIdx).merge (B.zipIdx A.length) lexB := by
    have hp : M.Perm ((A.zipIdx).merge (B.zipIdx A.length) lexB) := (h2.trans (by rw [hz])).trans (List.merge_perm_append lexB).symm
    have h4 := List.pairwise_merge (le := lexB) (fun a b c h h' => by rw [lexB_iff] at *; exact lex_trans h h') (fun a b => by
      rw [Bool.or_eq_true, lexB_iff, lexB_iff]; exact lex_total a b) _ _ (zip_asc A 0 hA) (zip_asc B A.length hB)
    refine List.Perm.eq_of_pairwise (le := lex) (fun a b ha hb hab hba => ?_) h3 (h4.imp fun h => lexB_iff.1 h) hp
    refine zip_inj (h2.subset ha) (h2.subset (hp.symm.subset hb)) ?_
    unfold lex at hab hba; omega
  rw [hm]
  have := List.map_merge (f := (Prod.fst : Lp → Pk)) (r := lexB) (s := wle) (l := A.zipIdx) (l' := B.zipIdx A.length) (fun a ha b hb => by
    have h4 := List.snd_lt_of_mem_zipIdx (x := a) ha
    have h5 := List.le_snd_of_mem_zipIdx (x := b) hb
    rw [Bool.eq_iff_iff, lexB_iff, wle_iff]
    exact lex_of_lt (by omega))
  unfold dat
  rw [this, List.zipIdx_map_fst, List.zipIdx_map_fst]
theorem F47_sort (A : List Pk) (hl : A.length ≤ 1000000) : ∃ M, F47_1.m A = some M ∧ M.Perm A ∧ Asc M := by
  obtain ⟨M, h1, h2, h3⟩ := F47_is A hl
  refine ⟨dat M, h1, by have := dat_perm h2; rwa [dat_zip] at this, ?_⟩
  unfold dat Asc
  rw [List.pairwise_map]
  exact h3.imp fun {a b} h => by rw [wle_iff]; unfold lex at h; omega
end Go.Proofs.Ytgganckggdjpaaa
