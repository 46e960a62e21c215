/- What Pm3 needs. -/
import Derived.Test.YtgganckggdjpaaaPurePm2
set_option linter.unusedVariables false
set_option linter.unusedSimpArgs false
namespace Go.Proofs.Ytgganckggdjpaaa
open Go Go.Eng Go.Proofs
/-! ### limit.Lengths -/
noncomputable def coins (w : List Int) : Nat → List Pk
  | 0 => []
  | k + 1 => if 0 < gd w (k : Int) then coins w k ++ [(gd w (k : Int), [(k : Int)])] else coins w k
theorem coins_len (w : List Int) : ∀ k, (coins w k).length ≤ k
  | 0 => Nat.le_refl _
  | k + 1 => by
    have := coins_len w k
    unfold coins
    split
    · rw [List.length_append]; simp; exact this
    · omega
theorem coins_mem (w : List Int) : ∀ k x, x ∈ coins w k ↔ ∃ s, s < k ∧ 0 < gd w (s : Int) ∧ x = (gd w (s : Int), [(s : Int)])
  | 0, x => by simp [coins]
  | k + 1, x => by
    have ih := coins_mem w k x
    unfold coins
    constructor
    · intro h
      split at h
      · rename_i h0
        rcases List.mem_append.1 h with h | h
        · obtain ⟨s, h1, h2⟩ := ih.1 h
          exact ⟨s, by omega, h2⟩
        · exact ⟨k, by omega, h0, by simpa using h⟩
      · obtain ⟨s, h1, h2⟩ := ih.1 h
        exact ⟨s, by omega, h2⟩
    · rintro ⟨s, h1, h2, h3⟩
      by_cases e : s = k
      · subst e; rw [if_pos h2]; simp [h3]
      · have := ih.2 ⟨s, by omega, h2, h3⟩
        split
        · exact List.mem_append_left _ this
        · exact this
theorem coins_nodup (w : List Int) : ∀ k, (syms (coins w k)).Nodup
  | 0 => List.nodup_nil
  | k + 1 => by
    have ih := coins_nodup w k
    unfold coins
    split
    · rw [syms_append]
      refine List.nodup_append.2 ⟨ih, by simp [syms], fun a ha b hb => ?_⟩
      obtain ⟨x, hx, hax⟩ := List.mem_flatMap.1 ha
      obtain ⟨s, h1, h2, rfl⟩ := (coins_mem w k x).1 hx
      simp [syms] at hax hb
      omega
    · exact ih
theorem F20_coins (w : List Int) (hw : ∀ x ∈ w, InR .u32 x) (hl : w.length ≤ 400) : loop (F20.b4 w) (([] : List Pk), (0 : Int)) = some (coins w w.length) := by
  refine loop_done (fun k => (coins w k, (k : Int))) w.length _ (fun k hk => ?_) ?_ rfl
  · have hcl := coins_len w k
    have hx := inU32 (hw _ (gd_mem w k hk))
    unfold F20.b4
    dsimp only
    rw [if_pos (by omega), if_pos (by omega)]
    by_cases h0 : (0 : Int) < gd w (k : Int)
    · rw [if_pos h0, if_pos (by simp; omega)]
      unfold F20.j6
      rw [wp1 k (by omega), wu64 (by omega) (by omega)]
      show _ = some (Sum.inl (coins w (k + 1), _))
      rw [coins, if_pos h0]
    · rw [if_neg h0]
      unfold F20.j6
      rw [wp1 k (by omega)]
      show _ = some (Sum.inl (coins w (k + 1), _))
      rw [coins, if_neg h0]
  · unfold F20.b4
    dsimp only
    rw [if_neg (by omega)]
/-- Symbols told, one more for each. -/
theorem F20_tell {N : Nat} (A R : List Pk) (m k : Nat) (X : List Pk) (d : List Int) (hX : subL R (0 : Int) (maxI (0 : Int) (IntKind.wrap .i64 ((IntKind.wrap .i64 ((2 : Int) * ((A).length : Int))) - (2 : Int)))) = X) (hk : k < X.length) (hd : d.length = N) (hs : ∀ s ∈ (gd X (k : Int)).2, 0 ≤ s ∧ s < (N : Int)) (hN : N ≤ 400) (hL : (gd X (k : Int)).2.length ≤ 1000000) (f : Nat → Nat) (hf : ∀ s, s < N → gd d (s : Int) = ((f s % 256 : Nat) : Int)) :
    ∃ d', loop (F20.b2 A R (k : Int)) (d, (0 : Int)) = some d' ∧ d'.length = N ∧ ∀ s, s < N → gd d' (s : Int) = (((f s + (gd X (k : Int)).2.count (s : Int)) % 256 : Nat) : Int) := by
  obtain ⟨y, hy, h1, h2⟩ := loop_ends (b := F20.b2 A R (k : Int)) (fun x => ∃ j : Nat, x.2 = (j : Int) ∧ j ≤ (gd X (k : Int)).2.length ∧ x.1.length = N ∧ ∀ s, s < N → gd x.1 (s : Int) = (((f s + ((gd X (k : Int)).2.take j).count (s : Int)) % 256 : Nat) : Int)) (fun x => (gd X (k : Int)).2.length - x.2.toNat) (fun y => y.length = N ∧ ∀ s, s < N → gd y (s : Int) = (((f s + (gd X (k : Int)).2.count (s : Int)) % 256 : Nat) : Int)) (fun x hS => by
    obtain ⟨e, jj⟩ := x
    obtain ⟨j, hj, hjl, hel, hev⟩ := hS
    simp only at hj hel hev
    subst hj
    unfold F20.b2
    dsimp only
    simp only [hX]
    by_cases h1 : (j : Int) < ((gd X (k : Int)).2.length : Int)
    · rw [if_pos h1, if_pos (by omega)]
      have hm := gd_mem (gd X (k : Int)).2 j (by omega)
      have hs1 := hs _ hm
      rw [if_pos (by omega)]
      obtain ⟨t, ht⟩ := nat_of hs1.1
      refine ⟨_, rfl, fun s' hs' => ?_, fun r hr => by cases hr⟩
      cases hs'
      rw [wp1 j (by omega)]
      refine ⟨⟨j + 1, rfl, by omega, by simpa using hel, fun s hs2 => ?_⟩, by simp only; omega⟩
      simp only
      rw [ht, Int.toNat_natCast, gd_set _ _ _ _ (by omega), take_gd _ _ (by omega), ht, List.count_append]
      by_cases c : t = s
      · subst c
        rw [if_pos rfl, hev t hs2]
        have : List.count (t : Int) [(t : Int)] = 1 := by simp
        rw [this, show (((f t + List.count (t : Int) (List.take j (gd X (k : Int)).2)) % 256 : Nat) : Int) + 1 = (((f t + List.count (t : Int) (List.take j (gd X (k : Int)).2)) % 256 + 1 : Nat) : Int) by omega, wrapU8]
        omega
      · rw [if_neg c, hev s hs2]
        have : List.count (s : Int) [(t : Int)] = 0 := by
          rw [List.count_eq_zero]; simp; omega
        rw [this]; rfl
    · rw [if_neg h1]
      refine ⟨_, rfl, fun s' hs' => (by cases hs'), fun r hr' => ?_⟩
      cases hr'
      refine ⟨hel, fun s hs => ?_⟩
      rw [hev s hs, List.take_of_length_le (by omega)]) (d, (0 : Int)) ⟨0, rfl, by omega, hd, fun s hs => by rw [hf s hs]; simp⟩
  exact ⟨y, hy, h1, h2⟩
theorem F20_told {N : Nat} (A R : List Pk) (X : List Pk) (hX : subL R (0 : Int) (maxI (0 : Int) (IntKind.wrap .i64 ((IntKind.wrap .i64 ((2 : Int) * ((A).length : Int))) - (2 : Int)))) = X) (hXl : X.length ≤ 100000) (hs : ∀ x ∈ X, x.2.length ≤ 1000000 ∧ ∀ s ∈ x.2, 0 ≤ s ∧ s < (N : Int)) (hN : N ≤ 400) :
    ∃ d', loop (F20.b1 A R) (List.replicate N (0 : Int), (0 : Int)) = some d' ∧ d'.length = N ∧ ∀ s, s < N → gd d' (s : Int) = (((syms X).count (s : Int) % 256 : Nat) : Int) := by
  obtain ⟨y, hy, h1, h2⟩ := loop_ends (b := F20.b1 A R) (fun x => ∃ k : Nat, x.2 = (k : Int) ∧ k ≤ X.length ∧ x.1.length = N ∧ ∀ s, s < N → gd x.1 (s : Int) = (((syms (X.take k)).count (s : Int) % 256 : Nat) : Int)) (fun x => X.length - x.2.toNat) (fun y => y.length = N ∧ ∀ s, s < N → gd y (s : Int) = (((syms X).count (s : Int) % 256 : Nat) : Int)) (fun x hS => by
    obtain ⟨e, kk⟩ := x
    obtain ⟨k, hk, hkl, hel, hev⟩ := hS
    simp only at hk hel hev
    subst hk
    unfold F20.b1
    dsimp only
    simp only [hX]
    by_cases h1 : (k : Int) < (X.length : Int)
    · rw [if_pos h1, if_pos (by omega)]
      have hm := hs _ (gd_mem X k (by omega))
      obtain ⟨d', h2, h3, h4⟩ := F20_tell A R 0 k X e hX (by omega) hel hm.2 hN hm.1 (fun s => (syms (X.take k)).count (s : Int)) hev
      rw [h2, Option.bind_some]
      unfold F20.j5 F20.j4
      rw [wp1 k (by omega)]
      refine ⟨_, rfl, fun s' hs' => ?_, fun r hr => by cases hr⟩
      cases hs'
      refine ⟨⟨k + 1, rfl, by omega, h3, fun s hs => ?_⟩, by simp only; omega⟩
      simp only
      rw [h4 s hs, take_gd _ _ (by omega), syms_append, List.count_append]
      simp [syms]
    · rw [if_neg h1]
      refine ⟨_, rfl, fun s' hs' => (by cases hs'), fun r hr' => ?_⟩
      cases hr'
      refine ⟨hel, fun s hs => ?_⟩
      rw [hev s hs, List.take_of_length_le (by omega)]) (List.replicate N (0 : Int), (0 : Int)) ⟨0, rfl, by omega, by simp, fun s hs => by rw [gd_rep _ _ _ hs]; simp [syms]⟩
  exact ⟨y, hy, h1, h2⟩
/-- The rows, one after the other. -/
theorem F20_rows (A : List Pk) (most : Nat) (h1 : 1 ≤ most) (h2 : most ≤ 15) (hn : A.length ≤ 300) (hA : Asc A) (hp : ∀ x ∈ A, 0 < x.1 ∧ x.1 ≤ 4294967296 ∧ x.2.length ≤ 1) :
    loop (F20.b3 (most : Int) A) (A, (0 : Int)) = some (row A (most - 1)) := by
  have hfine : ∀ k, k ≤ 15 → Fine (row A k) := fun k hk => by
    refine ⟨?_, fun x hx => ⟨row_pos (fun x hx => (hp x hx).1) k x hx, ?_, ?_⟩⟩
    · by_cases h0 : A.length = 0
      · have e : A = [] := List.length_eq_zero_iff.1 h0
        have : ∀ k, row ([] : List Pk) k = [] := fun k => by
          induction k with
          | zero => rfl
          | succ k ih => show List.merge [] (prs (row [] k)) wle = []; rw [ih]; simp [prs]
        rw [e, this]; simp
      · have := row_up (A := A) (by omega) k
        omega
    · have h3 := row_small (W := 4294967296) (fun x hx => (hp x hx).2.1) (by omega) k x hx
      have h4 := Nat.pow_le_pow_right (n := 2) (by omega) hk
      rw [show (2 : Int) ^ k = ((2 ^ k : Nat) : Int) by simp] at h3
      generalize 2 ^ k = u at h3 h4
      omega
    · have h3 := row_syms (fun x hx => (hp x hx).2.2) k x hx
      have h4 := Nat.pow_le_pow_right (n := 2) (by omega) hk
      omega
  refine loop_done (fun k => (row A k, (k : Int))) (most - 1) _ (fun k hk => ?_) ?_ rfl
  · have hf := hfine k (by omega)
    have hl := hf.1
    have hpl := prs_len (row A k)
    unfold F20.b3
    dsimp only
    rw [wm1 most (by omega) h1, if_pos (by omega)]
    have e49 : F49.m A = some A := by unfold F49.m; rw [if_pos (by simp; omega)]
    rw [e49, Option.bind_some, F50_is _ hf, Option.bind_some, if_pos (by omega), F47_merge A (prs (row A k)) (by rw [List.length_append]; omega) hA (prs_asc _ (row_asc hA k)), Option.bind_some, wp1 k (by omega)]
    rfl
  · unfold F20.b3
    dsimp only
    rw [wm1 most (by omega) h1, if_neg (by omega)]
/-- What is answered. -/
theorem F20_is (w : List Int) (hw : ∀ x ∈ w, InR .u32 x) (hl : w.length ≤ 300) (most : Nat) (h1 : 1 ≤ most) (h2 : most ≤ 15) :
    (2 ^ most < (coins w w.length).length ∧ F20.m w (most : Int) = some ([], 1)) ∨
    ((coins w w.length).length ≤ 2 ^ most ∧ (coins w w.length).length = 1 ∧ ∃ s : Nat, s < w.length ∧ coins w w.length = [(gd w (s : Int), [(s : Int)])] ∧ F20.m w (most : Int) = some ((List.replicate w.length (0 : Int)).set s 1, 0)) ∨
    ((coins w w.length).length ≤ 2 ^ most ∧ (coins w w.length).length ≠ 1 ∧ ∃ A cs l, A.Perm (coins w w.length) ∧ Asc A ∧ Sel A (most - 1) (2 * A.length - 2) cs ∧ F20.m w (most : Int) = some (l, 0) ∧ l.length = w.length ∧
      ∀ s, s < w.length → gd l (s : Int) = (((cs.flatMap fun c => syms (A.take c)).count (s : Int) % 256 : Nat) : Int)) := by
  have hcl := coins_len w w.length
  have hmem := coins_mem w w.length
  generalize hC : coins w w.length = C at hcl hmem
  unfold F20.m
  rw [if_neg (by omega), if_neg (by omega), if_neg (by omega), F20_coins w hw (by omega), Option.bind_some]
  dsimp only
  rw [hC]
  unfold F20.j1
  rw [if_pos (by omega), if_pos (by omega)]
  have hsh : shlI .i64 (1 : Int) (most : Int) = ((2 ^ most : Nat) : Int) := by
    have h3 := Nat.pow_le_pow_right (n := 2) (by omega) h2
    rw [show (1 : Int) = ((1 : Nat) : Int) from rfl, shl_nat _ _ _ (by simp [IntKind.bits]; omega), Nat.shiftLeft_eq, Nat.one_mul]
    generalize 2 ^ most = u at h3
    rw [w64 (by omega) (by omega)]
  rw [hsh]
  by_cases c1 : ((2 ^ most : Nat) : Int) < (C.length : Int)
  · rw [if_pos c1]
    exact .inl ⟨by omega, rfl⟩
  · rw [if_neg c1]
    by_cases c2 : (C.length : Int) = 1
    · obtain ⟨x, hx⟩ := List.length_eq_one_iff.1 (show C.length = 1 by omega)
      obtain ⟨s, h3, h4, h5⟩ := (hmem x).1 (by rw [hx]; simp)
      refine .inr (.inl ⟨by omega, by omega, s, h3, by rw [hx, h5], ?_⟩)
      have g0 : gd C (0 : Int) = (gd w (s : Int), [(s : Int)]) := by rw [hx, ← h5]; rfl
      have g1 : gd [(s : Int)] (0 : Int) = (s : Int) := rfl
      rw [if_pos c2, if_pos (by omega), g0]
      simp only [g1]
      rw [if_pos (by simp), if_pos (by simp; omega)]
      simp
    · rw [if_neg c2]
      refine .inr (.inr ⟨by omega, by omega, ?_⟩)
      obtain ⟨A, h3, h4, h5⟩ := F47_sort C (by omega)
      have hAl := h4.length_eq
      have hAm : ∀ x ∈ A, ∃ s, s < w.length ∧ 0 < gd w (s : Int) ∧ x = (gd w (s : Int), [(s : Int)]) := fun x hx => (hmem x).1 (h4.subset hx)
      rw [h3, Option.bind_some]
      have e49 : F49.m A = some A := by unfold F49.m; rw [if_pos (by simp; omega)]
      rw [e49, Option.bind_some, F20_rows A most h1 h2 (by omega) h5 (fun x hx => by
        obtain ⟨s, h6, h7, rfl⟩ := hAm x hx
        have := inU32 (hw _ (gd_mem w s h6))
        exact ⟨h7, by simp only; omega, by simp⟩), Option.bind_some]
      dsimp only
      have hlow : 2 * A.length - 2 ≤ (row A (most - 1)).length := by
        have := row_low (A := A) (most - 1) 2 (by
          rw [← Nat.pow_succ, show (most - 1).succ = most by omega]; omega)
        omega
      obtain ⟨cs, hcs⟩ := Sel.ex h5 (most - 1) (2 * A.length - 2) hlow
      have hmax : maxI (0 : Int) (IntKind.wrap .i64 ((IntKind.wrap .i64 ((2 : Int) * ((A).length : Int))) - (2 : Int))) = ((2 * A.length - 2 : Nat) : Int) := by
        rw [w64 (n := (2 : Int) * _) (by omega) (by omega), w64 (by omega) (by omega)]
        unfold maxI; split <;> omega
      have hX : subL (row A (most - 1)) (0 : Int) (maxI (0 : Int) (IntKind.wrap .i64 ((IntKind.wrap .i64 ((2 : Int) * ((A).length : Int))) - (2 : Int)))) = (row A (most - 1)).take (2 * A.length - 2) := by
        rw [hmax]; unfold subL; simp
      have hsy := hcs.syms
      have hrange : ∀ s ∈ syms ((row A (most - 1)).take (2 * A.length - 2)), 0 ≤ s ∧ s < (w.length : Int) := fun s hs => by
        obtain ⟨c, _, hc2⟩ := List.mem_flatMap.1 (hsy.subset hs)
        obtain ⟨x, hx, hsx⟩ := List.mem_flatMap.1 hc2
        obtain ⟨t, h6, h7, rfl⟩ := hAm x (List.mem_of_mem_take hx)
        simp at hsx
        omega
      unfold F20.j2
      rw [if_pos (by rw [hmax]; omega)]
      obtain ⟨l, h6, h7, h8⟩ := F20_told (N := w.length) A (row A (most - 1)) _ hX (by rw [List.length_take]; omega) (fun x hx => ⟨by
        have h9 := row_syms (A := A) (fun x hx => by obtain ⟨s, _, _, rfl⟩ := hAm x hx; simp) (most - 1) x (List.mem_of_mem_take hx)
        have := Nat.pow_le_pow_right (n := 2) (by omega) (show most - 1 ≤ 14 by omega)
        omega, fun s hs => hrange s (List.mem_flatMap.2 ⟨x, hx, hs⟩)⟩) (by omega)
      refine ⟨A, cs, l, h4, h5, hcs, ?_, h7, fun s hs => ?_⟩
      · rw [Int.toNat_natCast, h6]
        rfl
      · rw [h8 s hs, hsy.count_eq]
end Go.Proofs.Ytgganckggdjpaaa
