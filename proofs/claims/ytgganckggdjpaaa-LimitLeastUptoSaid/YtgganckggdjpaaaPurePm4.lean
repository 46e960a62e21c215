/- What Pm4 needs. -/
import Derived.Test.YtgganckggdjpaaaPurePm3
import Derived.Test.YtgganckggdjpaaaLim
import Derived.Test.YtgganckggdjpaaaYLimitRight
set_option linter.unusedVariables false
set_option linter.unusedSimpArgs false
namespace Go.Proofs.Ytgganckggdjpaaa
open Go Go.Eng Go.Proofs
/-! ### What lengths are, by the coins in their order -/
theorem count_take {l : List Int} (h : l.Nodup) (c i : Nat) (hi : i < l.length) : (l.take c).count l[i] = if i < c then 1 else 0 := by
  by_cases hc : i < c
  · rw [if_pos hc]
    have h1 : (l.take c).Nodup := h.sublist (List.take_sublist _ _)
    exact Nat.le_antisymm (List.nodup_iff_count.1 h1 _) (List.count_pos_iff.2 (List.mem_take_iff_getElem.2 ⟨i, by omega, rfl⟩))
  · rw [if_neg hc, List.count_eq_zero]
    intro hm
    obtain ⟨j, hj, e⟩ := List.mem_take_iff_getElem.1 hm
    have := (List.getElem_inj h).1 e
    omega
/-- The symbol of a coin. -/
def sy (x : Pk) : Int := x.2.headD 0
theorem syms_sy {X : List Pk} (h : ∀ x ∈ X, x.2 = [sy x]) : syms X = X.map sy := by
  induction X with
  | nil => rfl
  | cons x X ih =>
    have := h x (by simp)
    unfold syms at ih ⊢
    rw [List.flatMap_cons, ih (fun y hy => h y (by simp [hy])), this]
    rfl
structure Told (w : List Int) (A : List Pk) (cs : List Nat) (l : List Int) : Prop where
  perm : A.Perm (coins w w.length)
  asc : Asc A
  len : l.length = w.length
  zero : ∀ s, s < w.length → ¬ 0 < gd w (s : Int) → gd l (s : Int) = 0
  of : ∀ i (hi : i < A.length), ∃ s : Nat, s < w.length ∧ 0 < gd w (s : Int) ∧ A[i] = (gd w (s : Int), [(s : Int)]) ∧ gd l (s : Int) = (lenAt cs i : Int)
  to : ∀ s, s < w.length → 0 < gd w (s : Int) → ∃ i, ∃ hi : i < A.length, A[i] = (gd w (s : Int), [(s : Int)])
theorem told {w : List Int} {A : List Pk} {cs : List Nat} {l : List Int} (h1 : A.Perm (coins w w.length)) (h2 : Asc A) (hcs : cs.length ≤ 15) (h3 : l.length = w.length)
    (h4 : ∀ s, s < w.length → gd l (s : Int) = (((cs.flatMap fun c => syms (A.take c)).count (s : Int) % 256 : Nat) : Int)) : Told w A cs l := by
  have hmem := coins_mem w w.length
  have hAm : ∀ x ∈ A, ∃ s, s < w.length ∧ 0 < gd w (s : Int) ∧ x = (gd w (s : Int), [(s : Int)]) := fun x hx => (hmem x).1 (h1.subset hx)
  have hsy : ∀ x ∈ A, x.2 = [sy x] := fun x hx => by obtain ⟨s, _, _, rfl⟩ := hAm x hx; rfl
  have hnd : (A.map sy).Nodup := by
    rw [← syms_sy hsy]
    exact (syms_perm h1).nodup_iff.2 (coins_nodup w w.length)
  have hcount : ∀ cs : List Nat, ∀ i (hi : i < A.length), (cs.flatMap fun c => syms (A.take c)).count (sy A[i]) = lenAt cs i := fun cs i hi => by
    induction cs with
    | nil => rfl
    | cons c cs ih =>
      rw [List.flatMap_cons, List.count_append, ih, lenAt_cons, syms_sy (fun x hx => hsy x (List.mem_of_mem_take hx)), List.map_take]
      have := count_take hnd c i (by simpa using hi)
      rw [List.getElem_map] at this
      rw [this]
      omega
  refine ⟨h1, h2, h3, fun s hs h0 => ?_, fun i hi => ?_, fun s hs h0 => ?_⟩
  · rw [h4 s hs]
    have : (cs.flatMap fun c => syms (A.take c)).count (s : Int) = 0 := by
      rw [List.count_eq_zero]
      intro hm
      obtain ⟨c, _, hc⟩ := List.mem_flatMap.1 hm
      obtain ⟨x, hx, hsx⟩ := List.mem_flatMap.1 hc
      obtain ⟨t, h5, h6, rfl⟩ := hAm x (List.mem_of_mem_take hx)
      simp at hsx
      rw [hsx] at h0
      exact h0 h6
    rw [this]; rfl
  · obtain ⟨s, h5, h6, h7⟩ := hAm A[i] (List.getElem_mem hi)
    refine ⟨s, h5, h6, h7, ?_⟩
    have h8 := hcount cs i hi
    have h9 : sy A[i] = (s : Int) := by rw [h7]; rfl
    rw [h9] at h8
    rw [h4 s h5, h8]
    have := lenAt_le cs i
    omega
  · obtain ⟨i, hi, e⟩ := List.mem_iff_getElem.1 (h1.symm.subset ((hmem _).2 ⟨s, hs, h0, rfl⟩))
    exact ⟨i, hi, e⟩
/-! ### drogherref09.May -/
def kraftN (l : List Int) : Nat → Nat := sumN fun s => if 0 < gd l (s : Int) then 2 ^ (15 - (gd l (s : Int)).toNat) else 0
def codesN (l : List Int) : Nat → Nat := sumN fun s => if 0 < gd l (s : Int) then 1 else 0
theorem kraftN_le (l : List Int) : ∀ k, kraftN l k ≤ 32768 * k
  | 0 => by simp [kraftN, sumN]
  | k + 1 => by
    have := kraftN_le l k
    unfold kraftN at this ⊢
    rw [sumN]
    split
    · have := Nat.pow_le_pow_right (n := 2) (by omega) (show 15 - (gd l (k : Int)).toNat ≤ 15 by omega)
      omega
    · omega
theorem codesN_le (l : List Int) : ∀ k, codesN l k ≤ k
  | 0 => by simp [codesN, sumN]
  | k + 1 => by
    have := codesN_le l k
    unfold codesN at this ⊢
    rw [sumN]
    split <;> omega
theorem F23_part (l : List Int) (i : Int) (n : Nat) (hn : gd l i = (n : Int)) (h : n ≤ 15) : loop (F23.b2 l i) ((32768 : Int), (0 : Int)) = some ((2 ^ (15 - n) : Nat) : Int) := by
  refine loop_done (fun k => (((2 ^ (15 - k) : Nat) : Int), (k : Int))) n _ (fun k hk => ?_) ?_ rfl
  · unfold F23.b2
    dsimp only
    rw [hn, if_pos (by omega), w8 (by omega) (by omega)]
    have e : Int.tdiv ((2 ^ (15 - k) : Nat) : Int) 2 = ((2 ^ (15 - (k + 1)) : Nat) : Int) := by
      rw [show (2 : Int) = ((2 : Nat) : Int) from rfl, tdiv_nat, show 15 - k = (15 - (k + 1)) + 1 by omega, Nat.pow_succ, Nat.mul_div_cancel _ (by omega)]
    have hp := Nat.pow_le_pow_right (n := 2) (by omega) (show 15 - (k + 1) ≤ 15 by omega)
    rw [e]
    generalize 2 ^ (15 - (k + 1)) = u at hp
    rw [w64 (by omega) (by omega)]
    congr 3
  · unfold F23.b2
    dsimp only
    rw [hn, if_neg (by omega)]
theorem F23_is (l : List Int) (hl : l.length ≤ 300) (h : ∀ s, s < l.length → 0 ≤ gd l (s : Int) ∧ gd l (s : Int) ≤ 15) : F23.m l = F23.j1 ((kraftN l l.length : Nat) : Int) ((codesN l l.length : Nat) : Int) := by
  unfold F23.m
  rw [if_neg (by omega)]
  have hlp : loop (F23.b1 l) ((0 : Int), (0 : Int), (0 : Int)) = some (.inr (((kraftN l l.length : Nat) : Int), ((codesN l l.length : Nat) : Int))) := by
    refine loop_done (fun k => (((kraftN l k : Nat) : Int), ((codesN l k : Nat) : Int), (k : Int))) l.length _ (fun k hk => ?_) ?_ rfl
    · have hb := h k hk
      have h1 := kraftN_le l k
      have h2 := codesN_le l k
      unfold F23.b1
      dsimp only
      rw [if_pos (by omega), if_pos (by omega), if_neg (by omega)]
      by_cases h0 : 0 < gd l (k : Int)
      · obtain ⟨n, hn⟩ := nat_of hb.1
        rw [if_pos h0, F23_part l k n hn (by omega), Option.bind_some]
        unfold F23.j4 F23.j3 F23.j2
        have hp := Nat.pow_le_pow_right (n := 2) (by omega) (show 15 - n ≤ 15 by omega)
        have e1 : kraftN l (k + 1) = kraftN l k + 2 ^ (15 - n) := by
          unfold kraftN
          rw [sumN, if_pos h0, hn, Int.toNat_natCast]
        have e2 : codesN l (k + 1) = codesN l k + 1 := by
          unfold codesN
          rw [sumN, if_pos h0]
        rw [e1, e2]
        generalize 2 ^ (15 - n) = u at hp
        rw [w64 (by omega) (by omega), w64 (by omega) (by omega), wp1 k (by omega)]
        congr 3
      · rw [if_neg h0]
        unfold F23.j3 F23.j2
        have e1 : kraftN l (k + 1) = kraftN l k := by
          unfold kraftN
          rw [sumN, if_neg h0]; rfl
        have e2 : codesN l (k + 1) = codesN l k := by
          unfold codesN
          rw [sumN, if_neg h0]; rfl
        rw [e1, e2, wp1 k (by omega)]
    · unfold F23.b1
      dsimp only
      rw [if_neg (by omega)]
  rw [hlp]
  rfl
/-! Sums over symbols are sums over coins. -/
def lsum (h : Pk → Nat) (X : List Pk) : Nat := (X.map h).sum
theorem lsum_coins (w : List Int) (h : Pk → Nat) (g : Nat → Nat) : ∀ k, (∀ s, s < k → g s = if 0 < gd w (s : Int) then h (gd w (s : Int), [(s : Int)]) else 0) → sumN g k = lsum h (coins w k)
  | 0, _ => rfl
  | k + 1, hg => by
    have ih := lsum_coins w h g k (fun s hs => hg s (by omega))
    rw [sumN, ih, hg k (by omega), show coins w (k + 1) = if 0 < gd w (k : Int) then coins w k ++ [(gd w (k : Int), [(k : Int)])] else coins w k by rw [coins]]
    by_cases h0 : 0 < gd w (k : Int)
    · rw [if_pos h0, if_pos h0]
      unfold lsum
      simp
    · rw [if_neg h0, if_neg h0]; rfl
theorem lsum_perm {h : Pk → Nat} {X Y : List Pk} (hp : X.Perm Y) : lsum h X = lsum h Y := (hp.map h).sum_nat
theorem lsum_index (h : Pk → Nat) (f : Nat → Nat) : ∀ X : List Pk, (∀ i (hi : i < X.length), h X[i] = f i) → lsum h X = sumN f X.length := fun X => by
  have key : ∀ k, k ≤ X.length → (∀ i (hi : i < X.length), h X[i] = f i) → lsum h (X.take k) = sumN f k := fun k => by
    induction k with
    | zero => intro _ _; rfl
    | succ k ih =>
      intro hk hh
      rw [take_succ' _ _ (by omega), sumN, ← ih (by omega) hh, ← hh k (by omega)]
      unfold lsum
      rw [List.map_append, List.sum_append, List.map_singleton, List.sum_singleton]
  intro hh
  have := key X.length (Nat.le_refl _) hh
  rwa [List.take_length] at this
theorem told_kraft {w : List Int} {A : List Pk} {cs : List Nat} {l : List Int} {K : Nat} (h : Told w A cs l) (hn : 2 ≤ A.length) (hK : K ≤ 14) (hs : Sel A K (2 * A.length - 2) cs) : kraftN l l.length = 32768 := by
  have hp : ∀ x ∈ A, 0 < x.1 := fun x hx => by
    obtain ⟨i, hi, rfl⟩ := List.mem_iff_getElem.1 hx
    obtain ⟨s, _, h1, h2, _⟩ := h.of i hi
    rw [h2]; exact h1
  have hpos := lenAt_pos h.asc hp hn hs
  unfold kraftN
  rw [h.len, lsum_coins w (fun x => 2 ^ (15 - (gd l (sy x)).toNat)) _ w.length (fun s hs' => ?_), ← lsum_perm h.perm, lsum_index _ (fun i => 2 ^ (15 - (K + 1)) * 2 ^ (K + 1 - lenAt cs i)) A (fun i hi => ?_)]
  · have e : ∀ n, sumN (fun i => 2 ^ (15 - (K + 1)) * 2 ^ (K + 1 - lenAt cs i)) n = 2 ^ (15 - (K + 1)) * sumN (fun i => 2 ^ (K + 1 - lenAt cs i)) n := fun n => by
      induction n with
      | zero => rfl
      | succ n ih => rw [sumN, sumN, ih, Nat.mul_add]
    rw [e, kraft_all h.asc hp hn hs, ← Nat.pow_add, show 15 - (K + 1) + (K + 1) = 15 by omega]
  · obtain ⟨s, h1, h2, h3, h4⟩ := h.of i hi
    have h5 : sy A[i] = (s : Int) := by rw [h3]; rfl
    have h6 := lenAt_le cs i
    have h7 := hs.len
    simp only [h5, h4, Int.toNat_natCast]
    rw [← Nat.pow_add]
    congr 1; omega
  · by_cases h0 : 0 < gd w (s : Int)
    · obtain ⟨i, hi, h1⟩ := h.to s hs' h0
      obtain ⟨t, h2, h3, h4, h5⟩ := h.of i hi
      rw [h1] at h4
      simp at h4
      have : (s : Nat) = t := by omega
      subst this
      rw [if_pos h0, if_pos (by rw [h5]; have := hpos i hi; omega)]
      rfl
    · rw [if_neg h0, h.zero s hs' h0]; rfl
end Go.Proofs.Ytgganckggdjpaaa
