/- What OrdC needs. -/
import Derived.Test.YtgganckggdjpaaaPureOrdO
set_option linter.unusedVariables false
set_option linter.unusedSimpArgs false
namespace Go.Proofs.Ytgganckggdjpaaa
open Go Go.Eng Go.Proofs
/-! ### The code's order -/
open Classical in
noncomputable def ind (P : Prop) : Nat := if P then 1 else 0
theorem ind_pos {P : Prop} (h : P) : ind P = 1 := by unfold ind; rw [if_pos h]
theorem ind_neg {P : Prop} (h : ¬ P) : ind P = 0 := by unfold ind; rw [if_neg h]
theorem ind_congr {P Q : Prop} (h : P ↔ Q) : ind P = ind Q := by rw [propext h]
theorem ex_nat {n k : Nat} (hk : k < n) (P : Nat → Prop) : (∃ j : Nat, j < n ∧ (k : Int) = (j : Int) ∧ P j) ↔ P k :=
  ⟨fun ⟨j, _, e, h⟩ => by
    obtain rfl : k = j := by omega
    exact h, fun h => ⟨k, hk, rfl, h⟩⟩
theorem hush43 (x : List (List Int)) (hR : Rgt x) (hx : x.length ≤ 40) (hr : ∀ l ∈ x, l.length ≤ 60) (w r : List Int) (sil pl : List Bool) (i : Nat) (hi : i < x.length) (hwl : w.length = x.length) (hsl : sil.length = x.length) (hpl : pl.length = x.length)
    (hw : ∀ k : Nat, k < x.length → -1000 ≤ gd w (k : Int) ∧ gd w (k : Int) ≤ 1000) (hh : hp r r.length) (hrl : r.length ≤ 100) :
    (gd sil (i : Int) = true → F43.m x w r sil pl (i : Int) = some (w, r, sil)) ∧ (¬ gd sil (i : Int) = true → ∃ w' r', F43.m x w r sil pl (i : Int) = some (w', r', sil.set i true) ∧ w'.length = x.length ∧ (∀ k : Nat, k < x.length → gd w' (k : Int) = gd w (k : Int) - (if (k : Int) ∈ gd x (i : Int) then 1 else 0)) ∧ hp r' r'.length ∧
      ∀ a, r'.count a = r.count a + ind (∃ k : Nat, k < x.length ∧ a = (k : Int) ∧ (k : Int) ∈ gd x (i : Int) ∧ gd w (k : Int) = 1 ∧ ¬ gd pl (k : Int) = true)) := by
  unfold F43.m
  rw [if_pos (by omega)]
  refine ⟨fun h => by rw [if_pos h], fun h => ?_⟩
  rw [if_neg h, if_pos (by omega)]
  have hrow := hR i hi
  have hlen := hr _ (gd_mem x i hi)
  obtain ⟨y, hy, hQ⟩ := loop_ends (b := F43.b1 x sil pl (i : Int)) (fun s => ∃ j : Nat, s.2.2 = (j : Int) ∧ j ≤ (gd x (i : Int)).length ∧ s.1.length = x.length ∧ (∀ k : Nat, k < x.length → gd s.1 (k : Int) = gd w (k : Int) - (if (k : Int) ∈ (gd x (i : Int)).take j then 1 else 0)) ∧ hp s.2.1 s.2.1.length ∧ s.2.1.length ≤ 100 + j ∧
      ∀ a, s.2.1.count a = r.count a + ind (∃ k : Nat, k < x.length ∧ a = (k : Int) ∧ (k : Int) ∈ (gd x (i : Int)).take j ∧ gd w (k : Int) = 1 ∧ ¬ gd pl (k : Int) = true)) (fun s => (((gd x (i : Int)).length : Int) - s.2.2).toNat)
    (fun y => y.1.length = x.length ∧ (∀ k : Nat, k < x.length → gd y.1 (k : Int) = gd w (k : Int) - (if (k : Int) ∈ gd x (i : Int) then 1 else 0)) ∧ hp y.2 y.2.length ∧
      ∀ a, y.2.count a = r.count a + ind (∃ k : Nat, k < x.length ∧ a = (k : Int) ∧ (k : Int) ∈ gd x (i : Int) ∧ gd w (k : Int) = 1 ∧ ¬ gd pl (k : Int) = true)) (fun s hs => by
      obtain ⟨w1, r1, j⟩ := s
      obtain ⟨j, rfl, hj, g1, g2, g3, g4, g5⟩ := hs
      simp only at g1 g2 g3 g4 g5
      simp only [F43.b1]
      by_cases hjl : j < (gd x (i : Int)).length
      · have hc := hrow j hjl
        obtain ⟨e, he⟩ := nat_of hc.1
        have hen : e < x.length := by have := hc.2.1; omega
        have hnot : ¬ (e : Int) ∈ (gd x (i : Int)).take j := fun hm => by
          obtain ⟨a, ha, e2⟩ := (take_mem_gd (by omega)).1 hm
          have := rowOk_lt hrow a j ha hjl
          omega
        have hwe := hw e hen
        have g2e := g2 e hen
        rw [if_neg hnot] at g2e
        rw [if_pos (by omega), if_pos (by omega), he, if_pos (by omega), if_pos (by simp; omega), Int.toNat_natCast, g2e, Int.sub_zero, w64 (n := gd w (e : Int) - 1) (by omega) (by omega), gd_set _ _ _ _ (by omega), if_pos rfl]
        have tk : (gd x (i : Int)).take (j + 1) = (gd x (i : Int)).take j ++ [(e : Int)] := by rw [take_gd _ _ hjl, he]
        have g2' : ∀ k : Nat, k < x.length → gd (w1.set e (gd w (e : Int) - 1)) (k : Int) = gd w (k : Int) - (if (k : Int) ∈ (gd x (i : Int)).take (j + 1) then 1 else 0) := fun k hk => by
          rw [gd_set _ _ _ _ (by omega), tk]
          by_cases ek : e = k
          · subst ek; rw [if_pos rfl, if_pos (by simp)]
          · have : ((k : Int) ∈ (gd x (i : Int)).take j ++ [(e : Int)]) ↔ (k : Int) ∈ (gd x (i : Int)).take j := by
              rw [List.mem_append, List.mem_singleton]
              exact ⟨fun h => h.resolve_right (by omega), .inl⟩
            rw [if_neg ek, g2 k hk]
            by_cases hm : (k : Int) ∈ (gd x (i : Int)).take j
            · rw [if_pos hm, if_pos (this.2 hm)]
            · rw [if_neg hm, if_neg (fun h => hm (this.1 h))]
        have split : ∀ a, ind (∃ k : Nat, k < x.length ∧ a = (k : Int) ∧ (k : Int) ∈ (gd x (i : Int)).take (j + 1) ∧ gd w (k : Int) = 1 ∧ ¬ gd pl (k : Int) = true) = ind (∃ k : Nat, k < x.length ∧ a = (k : Int) ∧ (k : Int) ∈ (gd x (i : Int)).take j ∧ gd w (k : Int) = 1 ∧ ¬ gd pl (k : Int) = true) + ind (a = (e : Int) ∧ gd w (e : Int) = 1 ∧ ¬ gd pl (e : Int) = true) := fun a => by
          by_cases ea : a = (e : Int)
          · subst ea
            rw [ind_congr (ex_nat hen (fun k => (k : Int) ∈ (gd x (i : Int)).take (j + 1) ∧ gd w (k : Int) = 1 ∧ ¬ gd pl (k : Int) = true)), ind_neg (fun h => hnot ((ex_nat hen (fun k => (k : Int) ∈ (gd x (i : Int)).take j ∧ gd w (k : Int) = 1 ∧ ¬ gd pl (k : Int) = true)).1 h).1), Nat.zero_add]
            refine ind_congr ⟨fun h => ⟨rfl, h.2⟩, fun h => ⟨by rw [tk]; simp, h.2⟩⟩
          · rw [ind_neg (P := a = (e : Int) ∧ gd w (e : Int) = 1 ∧ ¬ gd pl (e : Int) = true) (fun h => ea h.1), Nat.add_zero]
            refine ind_congr ⟨fun ⟨k, h1, h2, h3, h4⟩ => ⟨k, h1, h2, ?_, h4⟩, fun ⟨k, h1, h2, h3, h4⟩ => ⟨k, h1, h2, by rw [tk]; exact List.mem_append.2 (.inl h3), h4⟩⟩
            rw [tk] at h3
            exact (List.mem_append.1 h3).resolve_right (fun h => ea (by rw [h2]; exact List.mem_singleton.1 h))
        have skip : ¬ (gd w (e : Int) = 1 ∧ ¬ gd pl (e : Int) = true) → ∃ s, F43.j2 x (i : Int) w1 (j : Int) r1 = some s ∧ (∀ x', s = .inl x' → (∃ j : Nat, x'.2.2 = (j : Int) ∧ j ≤ (gd x (i : Int)).length ∧ x'.1.length = x.length ∧ (∀ k : Nat, k < x.length → gd x'.1 (k : Int) = gd w (k : Int) - (if (k : Int) ∈ (gd x (i : Int)).take j then 1 else 0)) ∧ hp x'.2.1 x'.2.1.length ∧ x'.2.1.length ≤ 100 + j ∧
            ∀ a, x'.2.1.count a = r.count a + ind (∃ k : Nat, k < x.length ∧ a = (k : Int) ∧ (k : Int) ∈ (gd x (i : Int)).take j ∧ gd w (k : Int) = 1 ∧ ¬ gd pl (k : Int) = true)) ∧ (((gd x (i : Int)).length : Int) - x'.2.2).toNat < (((gd x (i : Int)).length : Int) - (j : Int)).toNat) ∧ (∀ y, s = .inr y → y.1.length = x.length ∧ (∀ k : Nat, k < x.length → gd y.1 (k : Int) = gd w (k : Int) - (if (k : Int) ∈ gd x (i : Int) then 1 else 0)) ∧ hp y.2 y.2.length ∧
            ∀ a, y.2.count a = r.count a + ind (∃ k : Nat, k < x.length ∧ a = (k : Int) ∧ (k : Int) ∈ gd x (i : Int) ∧ gd w (k : Int) = 1 ∧ ¬ gd pl (k : Int) = true)) := fun hn => by
          simp only [F43.j2]
          rw [he, g2e, Int.sub_zero, w64 (n := gd w (e : Int) - 1) (by omega) (by omega), w64 (by omega) (by omega), Int.toNat_natCast]
          refine ⟨_, rfl, fun x' ex => ?_, fun y ey => by cases ey⟩
          cases ex
          refine ⟨⟨j + 1, rfl, by omega, by simpa using g1, g2', g3, by simp only; omega, fun a => ?_⟩, by simp only; omega⟩
          simp only
          rw [split a, ind_neg (P := a = (e : Int) ∧ gd w (e : Int) = 1 ∧ ¬ gd pl (e : Int) = true) (fun h => hn h.2), Nat.add_zero]
          exact g5 a
        by_cases c1 : gd w (e : Int) = 1
        · rw [if_pos (by omega), if_pos (by omega)]
          by_cases c2 : gd pl (e : Int) = true
          · rw [if_pos c2]
            exact skip (fun h => h.2 c2)
          · rw [if_neg c2]
            obtain ⟨r2, p1, p2, p3, p4⟩ := push40 x (w1.set e (gd w (e : Int) - 1)) r1 (sil.set (Int.toNat (i : Int)) true) pl (e : Int) (by omega) g3
            rw [p1, Option.bind_some]
            simp only [F43.j3, F43.j2]
            rw [he, g2e, Int.sub_zero, w64 (n := gd w (e : Int) - 1) (by omega) (by omega), w64 (by omega) (by omega), Int.toNat_natCast]
            refine ⟨_, rfl, fun x' ex => ?_, fun y ey => by cases ey⟩
            cases ex
            refine ⟨⟨j + 1, rfl, by omega, by simpa using g1, g2', p4, by simp only; omega, fun a => ?_⟩, by simp only; omega⟩
            simp only
            rw [p3 a, split a, g5 a]
            by_cases ea : a = (e : Int)
            · rw [if_pos ea, ind_pos (P := a = (e : Int) ∧ gd w (e : Int) = 1 ∧ ¬ gd pl (e : Int) = true) ⟨ea, c1, c2⟩, Nat.add_assoc]
            · rw [if_neg ea, ind_neg (P := a = (e : Int) ∧ gd w (e : Int) = 1 ∧ ¬ gd pl (e : Int) = true) (fun h => ea h.1), Nat.add_assoc]
        · rw [if_neg (by omega)]
          exact skip (fun h => c1 h.1)
      · rw [if_neg (by omega)]
        obtain rfl : j = (gd x (i : Int)).length := by omega
        rw [List.take_length] at g2 g5
        exact out_ (x := (w1, r1, (((gd x (i : Int)).length : Nat) : Int))) ⟨g1, g2, g3, g5⟩) (w, r, 0) ⟨0, rfl, by omega, hwl, fun k hk => by simp, hh, by simp only; omega, fun a => by
      rw [ind_neg (by rintro ⟨k, _, _, h, _⟩; simp at h), Nat.add_zero]⟩
  obtain ⟨w', r'⟩ := y
  rw [hy, Option.bind_some]
  exact ⟨w', r', rfl, hQ⟩
theorem lv_iff {x : List (List Int)} {o b : List Int} {i k : Nat} : lv x o b i k = true ↔ (k : Int) ∈ gd x (i : Int) ∧ ¬ ((i : Int) ∈ o ∨ (i : Int) ∈ b) := by
  unfold lv
  simp [not_or]
theorem cnt_same {x : List (List Int)} {o b o' b' : List Int} (h : ∀ j : Nat, ((j : Int) ∈ o' ∨ (j : Int) ∈ b') ↔ ((j : Int) ∈ o ∨ (j : Int) ∈ b)) (k : Nat) : cnt x o' b' k = cnt x o b k := by
  unfold cnt
  congr 1
  funext i
  rw [Bool.eq_iff_iff, lv_iff, lv_iff, h i]
theorem cnt_add {x : List (List Int)} {o b o' b' : List Int} {i : Nat} (hi : i < x.length) (hn : ¬ ((i : Int) ∈ o ∨ (i : Int) ∈ b)) (h : ∀ j : Nat, ((j : Int) ∈ o' ∨ (j : Int) ∈ b') ↔ (((j : Int) ∈ o ∨ (j : Int) ∈ b) ∨ j = i)) (k : Nat) :
    cnt x o b k = cnt x o' b' k + (if (k : Int) ∈ gd x (i : Int) then 1 else 0) := by
  have key : ∀ m, (List.range m).countP (fun i => lv x o b i k) = (List.range m).countP (fun i => lv x o' b' i k) + (if i < m ∧ (k : Int) ∈ gd x (i : Int) then 1 else 0) := by
    intro m
    induction m with
    | zero => simp
    | succ m ih =>
      rw [List.range_succ, List.countP_append, List.countP_append, ih, List.countP_singleton, List.countP_singleton]
      by_cases e : m = i
      · subst e
        have f : lv x o' b' m k = false := by
          rw [Bool.eq_false_iff]
          intro h1
          exact (lv_iff.1 h1).2 ((h m).2 (.inr rfl))
        rw [f, if_neg (show ¬ (m < m ∧ (k : Int) ∈ gd x (m : Int)) by omega)]
        by_cases hm : (k : Int) ∈ gd x (m : Int)
        · rw [lv_iff.2 ⟨hm, hn⟩, if_pos (show m < m + 1 ∧ (k : Int) ∈ gd x (m : Int) from ⟨by omega, hm⟩)]
          simp
        · have f2 : lv x o b m k = false := by
            rw [Bool.eq_false_iff]
            intro h1
            exact hm (lv_iff.1 h1).1
          rw [f2, if_neg (show ¬ (m < m + 1 ∧ (k : Int) ∈ gd x (m : Int)) from fun h => hm h.2)]
          omega
      · have f : lv x o' b' m k = lv x o b m k := by
          rw [Bool.eq_iff_iff, lv_iff, lv_iff, h m]
          simp [e]
        rw [f]
        by_cases hm : i < m ∧ (k : Int) ∈ gd x (i : Int)
        · rw [if_pos hm, if_pos (show i < m + 1 ∧ (k : Int) ∈ gd x (i : Int) from ⟨by omega, hm.2⟩)]; omega
        · rw [if_neg hm, if_neg (show ¬ (i < m + 1 ∧ (k : Int) ∈ gd x (i : Int)) from fun h => hm ⟨by omega, h.2⟩)]
          omega
  have := key x.length
  unfold cnt
  rw [this]
  by_cases hm : (k : Int) ∈ gd x (i : Int)
  · rw [if_pos ⟨hi, hm⟩, if_pos hm]
  · rw [if_neg (fun h => hm h.2), if_neg hm]
theorem cnt_le (x : List (List Int)) (o b : List Int) (k : Nat) : cnt x o b k ≤ x.length := by
  unfold cnt
  refine Nat.le_trans List.countP_le_length (by simp)
structure Inv (x : List (List Int)) (w r : List Int) (sil pl : List Bool) (o b : List Int) (q : Nat) : Prop where
  wl : w.length = x.length
  sl : sil.length = x.length
  pl_ : pl.length = x.length
  wv : ∀ k : Nat, k < x.length → gd w (k : Int) = (cnt x o b k : Int)
  sv : ∀ k : Nat, k < x.length → (gd sil (k : Int) = true ↔ (k : Int) ∈ o ∨ (k : Int) ∈ b)
  pv : ∀ k : Nat, k < x.length → (gd pl (k : Int) = true ↔ (k : Int) ∈ o)
  rh : hp r r.length
  rc : ∀ a, r.count a = ind (∃ k : Nat, k < x.length ∧ a = (k : Int) ∧ (k : Int) ∉ o ∧ cnt x o b k = 0)
  nx : ∀ j : Nat, j < q → (j : Int) ∈ o ∨ (j : Int) ∈ b
theorem count_in {x : List (List Int)} {r : List Int} {P : Nat → Prop} (h : ∀ a, r.count a = ind (∃ k : Nat, k < x.length ∧ a = (k : Int) ∧ P k)) : r.length ≤ x.length := by
  have := (perm_of r (rng x.length) (List.nodup_iff_count.2 fun a => by rw [h a]; unfold ind; split <;> omega) (fun a ha => by
    have h1 := List.count_pos_iff.2 ha
    rw [h a] at h1
    by_cases hc : ∃ k : Nat, k < x.length ∧ a = (k : Int) ∧ P k
    · obtain ⟨k, hk, e, _⟩ := hc
      exact (rng_mem _ _).2 ⟨k, hk, e⟩
    · rw [ind_neg hc] at h1; omega)).1
  rwa [rng_len] at this
theorem snoc_mem {o : List Int} {i j : Nat} : (j : Int) ∈ o ++ [(i : Int)] ↔ (j : Int) ∈ o ∨ j = i := by
  rw [List.mem_append, List.mem_singleton]
  exact or_congr_right ⟨fun h => by omega, fun h => by omega⟩
theorem setb {l : List Bool} {i k : Nat} (h : i < l.length) : gd (l.set i true) (k : Int) = true ↔ gd l (k : Int) = true ∨ k = i := by
  rw [gd_set _ _ _ _ h]
  by_cases e : i = k
  · rw [if_pos e]; simp [e]
  · rw [if_neg e]
    exact ⟨.inl, fun h => h.resolve_right (fun h => e h.symm)⟩
/-- One is placed. -/
theorem place (x : List (List Int)) (hR : Rgt x) (hx : x.length ≤ 40) (hr : ∀ l ∈ x, l.length ≤ 60) {w r : List Int} {sil pl : List Bool} {o b : List Int} {q : Nat} (h : Inv x w r sil pl o b q) {i : Nat} {r1 : List Int} (hi : i < x.length) (hio : (i : Int) ∉ o) (hic : cnt x o b i = 0)
    (h1 : hp r1 r1.length) (h2 : ∀ a, r.count a = r1.count a + (if a = (i : Int) then 1 else 0)) : ∃ w' r' s', F43.m x w r1 sil (pl.set i true) (i : Int) = some (w', r', s') ∧ Inv x w' r' s' (pl.set i true) (o ++ [(i : Int)]) b q := by
  have hrl := count_in h.rc
  have hr1 : r1.length ≤ 100 := by
    have : ∀ a, r1.count a = ind (∃ k : Nat, k < x.length ∧ a = (k : Int) ∧ ((k : Int) ∉ o ∧ k ≠ i ∧ cnt x o b k = 0)) := fun a => by
      have e := h2 a
      rw [h.rc a] at e
      by_cases hk : ∃ k : Nat, k < x.length ∧ a = (k : Int)
      · obtain ⟨k, hk, rfl⟩ := hk
        rw [ind_congr (ex_nat hk (fun k => (k : Int) ∉ o ∧ cnt x o b k = 0))] at e
        rw [ind_congr (ex_nat hk (fun k => (k : Int) ∉ o ∧ k ≠ i ∧ cnt x o b k = 0))]
        by_cases ek : k = i
        · subst ek
          rw [ind_pos ⟨hio, hic⟩, if_pos rfl] at e
          rw [ind_neg (fun h => h.2.1 rfl)]; omega
        · rw [if_neg (by omega)] at e
          rw [← Nat.add_zero (r1.count _), ← e]
          exact ind_congr ⟨fun h => ⟨h.1, ek, h.2⟩, fun h => ⟨h.1, h.2.2⟩⟩
      · rw [ind_neg (fun ⟨k, h1, h2, _⟩ => hk ⟨k, h1, h2⟩)] at e
        rw [ind_neg (fun ⟨k, h1, h2, _⟩ => hk ⟨k, h1, h2⟩)]; omega
    have := count_in this
    omega
  have rc1 : ∀ k : Nat, k < x.length → r1.count (k : Int) = ind ((k : Int) ∉ o ∧ k ≠ i ∧ cnt x o b k = 0) := fun k hk => by
    have e := h2 (k : Int)
    rw [h.rc, ind_congr (ex_nat hk (fun k => (k : Int) ∉ o ∧ cnt x o b k = 0))] at e
    by_cases ek : k = i
    · subst ek
      rw [ind_pos ⟨hio, hic⟩, if_pos rfl] at e
      rw [ind_neg (fun h => h.2.1 rfl)]; omega
    · rw [if_neg (by omega)] at e
      rw [← Nat.add_zero (r1.count _), ← e]
      exact ind_congr ⟨fun h => ⟨h.1, ek, h.2⟩, fun h => ⟨h.1, h.2.2⟩⟩
  have rc0 : ∀ a, (¬ ∃ k : Nat, k < x.length ∧ a = (k : Int)) → r1.count a = 0 := fun a ha => by
    have e := h2 a
    rw [h.rc, ind_neg (fun ⟨k, h1, h2, _⟩ => ha ⟨k, h1, h2⟩)] at e
    omega
  have hpl : (pl.set i true).length = x.length := by simpa using h.pl_
  obtain ⟨f1, f2⟩ := hush43 x hR hx hr w r1 sil (pl.set i true) i hi h.wl h.sl hpl (fun k hk => by rw [h.wv k hk]; have := cnt_le x o b k; omega) h1 hr1
  have pv' : ∀ k : Nat, k < x.length → (gd (pl.set i true) (k : Int) = true ↔ (k : Int) ∈ o ++ [(i : Int)]) := fun k hk => by
    rw [setb (by rw [h.pl_]; exact hi), snoc_mem, h.pv k hk]
  by_cases hs : gd sil (i : Int) = true
  · have hib : (i : Int) ∈ b := ((h.sv i hi).1 hs).resolve_left hio
    have hm : ∀ j : Nat, ((j : Int) ∈ o ++ [(i : Int)] ∨ (j : Int) ∈ b) ↔ ((j : Int) ∈ o ∨ (j : Int) ∈ b) := fun j => by
      rw [snoc_mem]
      constructor
      · rintro ((h | rfl) | h)
        · exact .inl h
        · exact .inr hib
        · exact .inr h
      · rintro (h | h)
        · exact .inl (.inl h)
        · exact .inr h
    refine ⟨w, r1, sil, f1 hs, h.wl, h.sl, hpl, fun k hk => by rw [cnt_same hm]; exact h.wv k hk, fun k hk => by rw [hm]; exact h.sv k hk, pv', h1, fun a => ?_, fun j hj => (hm j).2 (h.nx j hj)⟩
    by_cases hk : ∃ k : Nat, k < x.length ∧ a = (k : Int)
    · obtain ⟨k, hk, rfl⟩ := hk
      rw [rc1 k hk, ind_congr (ex_nat hk (fun k => (k : Int) ∉ o ++ [(i : Int)] ∧ cnt x (o ++ [(i : Int)]) b k = 0)), cnt_same hm]
      refine ind_congr ?_
      rw [snoc_mem]
      exact ⟨fun h => ⟨fun h' => h'.elim h.1 h.2.1, h.2.2⟩, fun h => ⟨fun h' => h.1 (.inl h'), fun h' => h.1 (.inr h'), h.2⟩⟩
    · rw [rc0 a hk, ind_neg (fun ⟨k, h1, h2, _⟩ => hk ⟨k, h1, h2⟩)]
  · have hib : (i : Int) ∉ b := fun hb => hs ((h.sv i hi).2 (.inr hb))
    have hm : ∀ j : Nat, ((j : Int) ∈ o ++ [(i : Int)] ∨ (j : Int) ∈ b) ↔ (((j : Int) ∈ o ∨ (j : Int) ∈ b) ∨ j = i) := fun j => by
      rw [snoc_mem]
      constructor
      · rintro ((h | h) | h)
        · exact .inl (.inl h)
        · exact .inr h
        · exact .inl (.inr h)
      · rintro ((h | h) | h)
        · exact .inl (.inl h)
        · exact .inr h
        · exact .inl (.inr h)
    have ca := cnt_add (o' := o ++ [(i : Int)]) (b' := b) hi (fun h => h.elim hio hib) hm
    obtain ⟨w', r', e, k1, k2, k3, k4⟩ := f2 hs
    refine ⟨w', r', _, e, k1, by simpa using h.sl, hpl, fun k hk => ?_, fun k hk => ?_, pv', k3, fun a => ?_, fun j hj => (hm j).2 (.inl (h.nx j hj))⟩
    · rw [k2 k hk, h.wv k hk, ca k]
      split <;> omega
    · rw [setb (by rw [h.sl]; exact hi), hm, h.sv k hk]
    · rw [k4 a]
      by_cases hk : ∃ k : Nat, k < x.length ∧ a = (k : Int)
      · obtain ⟨k, hk, rfl⟩ := hk
        rw [rc1 k hk, ind_congr (ex_nat hk (fun k => (k : Int) ∈ gd x (i : Int) ∧ gd w (k : Int) = 1 ∧ ¬ gd (pl.set i true) (k : Int) = true)), ind_congr (ex_nat hk (fun k => (k : Int) ∉ o ++ [(i : Int)] ∧ cnt x (o ++ [(i : Int)]) b k = 0))]
        have hck := ca k
        have hwk := h.wv k hk
        by_cases c1 : (k : Int) ∈ o ++ [(i : Int)]
        · rw [ind_neg (P := (k : Int) ∉ o ++ [(i : Int)] ∧ cnt x (o ++ [(i : Int)]) b k = 0) (fun h => h.1 c1), ind_neg (P := (k : Int) ∈ gd x (i : Int) ∧ gd w (k : Int) = 1 ∧ ¬ gd (pl.set i true) (k : Int) = true) (fun h => h.2.2 ((pv' k hk).2 c1)), ind_neg (fun h => (snoc_mem.1 c1).elim h.1 h.2.1)]
        · have c1' := fun h => c1 (snoc_mem.2 h)
          by_cases c2 : (k : Int) ∈ gd x (i : Int)
          · rw [if_pos c2] at hck
            rw [ind_neg (P := (k : Int) ∉ o ∧ k ≠ i ∧ cnt x o b k = 0) (fun h => by have := h.2.2; omega), Nat.zero_add]
            exact ind_congr ⟨fun h => ⟨c1, by have := h.2.1; omega⟩, fun h => ⟨c2, by have := h.2; omega, fun h' => c1 ((pv' k hk).1 h')⟩⟩
          · rw [if_neg c2] at hck
            rw [ind_neg (P := (k : Int) ∈ gd x (i : Int) ∧ gd w (k : Int) = 1 ∧ ¬ gd (pl.set i true) (k : Int) = true) (fun h => c2 h.1), Nat.add_zero]
            exact ind_congr ⟨fun h => ⟨c1, by have := h.2.2; omega⟩, fun h => ⟨fun h' => c1' (.inl h'), fun h' => c1' (.inr h'), by have := h.2; omega⟩⟩
      · rw [rc0 a hk, ind_neg (fun ⟨k, h1, h2, _⟩ => hk ⟨k, h1, h2⟩), ind_neg (fun ⟨k, h1, h2, _⟩ => hk ⟨k, h1, h2⟩)]
/-- One is broken. -/
theorem brk (x : List (List Int)) (hR : Rgt x) (hx : x.length ≤ 40) (hr : ∀ l ∈ x, l.length ≤ 60) {w r : List Int} {sil pl : List Bool} {o b : List Int} {q : Nat} (h : Inv x w r sil pl o b q) {i : Nat} (hi : i < x.length) (hio : (i : Int) ∉ o) (hib : (i : Int) ∉ b) (hnx : ∀ j : Nat, j < i → (j : Int) ∈ o ∨ (j : Int) ∈ b) :
    ∃ w' r' s', F43.m x w r sil pl (i : Int) = some (w', r', s') ∧ Inv x w' r' s' pl o (b ++ [(i : Int)]) i := by
  have hrl := count_in h.rc
  obtain ⟨f1, f2⟩ := hush43 x hR hx hr w r sil pl i hi h.wl h.sl h.pl_ (fun k hk => by rw [h.wv k hk]; have := cnt_le x o b k; omega) h.rh (by omega)
  have hs : ¬ gd sil (i : Int) = true := fun hs => ((h.sv i hi).1 hs).elim hio hib
  have hm : ∀ j : Nat, ((j : Int) ∈ o ∨ (j : Int) ∈ b ++ [(i : Int)]) ↔ (((j : Int) ∈ o ∨ (j : Int) ∈ b) ∨ j = i) := fun j => by
    rw [snoc_mem, or_assoc]
  have ca := cnt_add (o' := o) (b' := b ++ [(i : Int)]) hi (fun h => h.elim hio hib) hm
  obtain ⟨w', r', e, k1, k2, k3, k4⟩ := f2 hs
  refine ⟨w', r', _, e, k1, by simpa using h.sl, h.pl_, fun k hk => ?_, fun k hk => ?_, h.pv, k3, fun a => ?_, fun j hj => (hm j).2 (.inl (hnx j hj))⟩
  · rw [k2 k hk, h.wv k hk, ca k]
    split <;> omega
  · rw [setb (by rw [h.sl]; exact hi), hm, h.sv k hk]
  · rw [k4 a, h.rc a]
    by_cases hk : ∃ k : Nat, k < x.length ∧ a = (k : Int)
    · obtain ⟨k, hk, rfl⟩ := hk
      rw [ind_congr (ex_nat hk (fun k => (k : Int) ∉ o ∧ cnt x o b k = 0)), ind_congr (ex_nat hk (fun k => (k : Int) ∈ gd x (i : Int) ∧ gd w (k : Int) = 1 ∧ ¬ gd pl (k : Int) = true)), ind_congr (ex_nat hk (fun k => (k : Int) ∉ o ∧ cnt x o (b ++ [(i : Int)]) k = 0))]
      have hck := ca k
      have hwk := h.wv k hk
      by_cases c1 : (k : Int) ∈ o
      · rw [ind_neg (P := (k : Int) ∉ o ∧ cnt x o b k = 0) (fun h => h.1 c1), ind_neg (P := (k : Int) ∉ o ∧ cnt x o (b ++ [(i : Int)]) k = 0) (fun h => h.1 c1), ind_neg (fun h' => h'.2.2 ((h.pv k hk).2 c1))]
      · by_cases c2 : (k : Int) ∈ gd x (i : Int)
        · rw [if_pos c2] at hck
          rw [ind_neg (P := (k : Int) ∉ o ∧ cnt x o b k = 0) (fun h => by have := h.2; omega), Nat.zero_add]
          exact ind_congr ⟨fun h => ⟨c1, by have := h.2.1; omega⟩, fun h' => ⟨c2, by have := h'.2; omega, fun h2 => c1 ((h.pv k hk).1 h2)⟩⟩
        · rw [if_neg c2] at hck
          rw [ind_neg (P := (k : Int) ∈ gd x (i : Int) ∧ gd w (k : Int) = 1 ∧ ¬ gd pl (k : Int) = true) (fun h => c2 h.1), Nat.add_zero]
          exact ind_congr ⟨fun h => ⟨c1, by have := h.2; omega⟩, fun h => ⟨c1, by have := h.2; omega⟩⟩
    · rw [ind_neg (fun ⟨k, h1, h2, _⟩ => hk ⟨k, h1, h2⟩), ind_neg (fun ⟨k, h1, h2, _⟩ => hk ⟨k, h1, h2⟩), ind_neg (fun ⟨k, h1, h2, _⟩ => hk ⟨k, h1, h2⟩)]
end Go.Proofs.Ytgganckggdjpaaa
