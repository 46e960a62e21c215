/- What OrdK needs. -/
import Derived.Test.YtgganckggdjpaaaPureOrdH
set_option linter.unusedVariables false
set_option linter.unusedSimpArgs false
namespace Go.Proofs.Ytgganckggdjpaaa
open Go Go.Eng Go.Proofs
/-! ### Lists of blocks -/
theorem mem_gd {α : Type} [Inhabited α] {l : List α} {x : α} : x ∈ l ↔ ∃ k : Nat, k < l.length ∧ gd l (k : Int) = x := by
  constructor
  · intro h
    obtain ⟨k, hk, e⟩ := List.mem_iff_getElem.1 h
    exact ⟨k, hk, by rw [gd_at l k hk]; exact e⟩
  · rintro ⟨k, hk, rfl⟩; exact gd_mem l k hk
theorem take_mem_gd {α : Type} [Inhabited α] {l : List α} {x : α} {j : Nat} (hj : j ≤ l.length) : x ∈ l.take j ↔ ∃ k : Nat, k < j ∧ gd l (k : Int) = x := by
  rw [mem_gd, List.length_take]
  constructor
  · rintro ⟨k, hk, e⟩; exact ⟨k, by omega, by rwa [gd_take _ _ _ (by omega)] at e⟩
  · rintro ⟨k, hk, e⟩; exact ⟨k, by omega, by rwa [gd_take _ _ _ hk]⟩
theorem has44 (l : List Int) (x : Int) (hl : l.length ≤ 100000) : F44.m l x = some (decide (x ∈ l)) := by
  unfold F44.m
  obtain ⟨y, hy, hQ⟩ := loop_ends (b := F44.b1 l x) (fun s => ∃ k : Nat, s = (k : Int) ∧ k ≤ l.length ∧ ∀ i : Nat, i < k → gd l (i : Int) ≠ x) (fun s => ((l.length : Int) - s).toNat)
    (fun y => (y = .inl true ∧ x ∈ l) ∨ (y = .inr () ∧ x ∉ l)) (fun s hs => by
      obtain ⟨k, rfl, hk, ha⟩ := hs
      simp only [F44.b1]
      by_cases h : k < l.length
      · rw [if_pos (by omega), if_pos (by omega)]
        by_cases e : gd l (k : Int) = x
        · rw [if_pos e]; exact out_ (x := (k : Int)) (.inl ⟨rfl, mem_gd.2 ⟨k, h, e⟩⟩)
        · rw [if_neg e, w64 (by omega) (by omega)]
          exact on_ (x := (k : Int)) ⟨k + 1, rfl, by omega, fun i hi => by
            by_cases e' : i = k
            · subst e'; exact e
            · exact ha i (by omega)⟩ (by omega)
      · rw [if_neg (by omega)]
        refine out_ (x := (k : Int)) (.inr ⟨rfl, fun hm => ?_⟩)
        obtain ⟨i, hi, e⟩ := mem_gd.1 hm
        exact ha i (by omega) e) 0 ⟨0, rfl, by omega, fun i hi => by omega⟩
  rw [hy]
  rcases hQ with ⟨rfl, h⟩ | ⟨rfl, h⟩
  · rw [decide_eq_true h]; rfl
  · rw [decide_eq_false h]; rfl
theorem great11 (x : List (List Int)) (hx : x.length ≤ maxLen) : ∃ r, F11.m x = some r ∧ (r = false → x.length ≤ 40 ∧ ∀ l ∈ x, l.length ≤ 60) := by
  unfold F11.m
  by_cases h : (40 : Int) < (x.length : Int)
  · rw [if_pos h]; exact ⟨true, rfl, fun h => by cases h⟩
  · rw [if_neg h]
    obtain ⟨y, hy, hQ⟩ := loop_ends (b := F11.b1 x) (fun s => ∃ k : Nat, s = (k : Int) ∧ k ≤ x.length ∧ ∀ l ∈ x.take k, l.length ≤ 60) (fun s => ((x.length : Int) - s).toNat)
      (fun y => y = .inl true ∨ (y = .inr () ∧ ∀ l ∈ x, l.length ≤ 60)) (fun s hs => by
        obtain ⟨k, rfl, hk, ha⟩ := hs
        simp only [F11.b1]
        by_cases hk' : k < x.length
        · rw [if_pos (by omega), if_pos (by omega)]
          by_cases hg : (60 : Int) < ((gd x (k : Int)).length : Int)
          · rw [if_pos hg]; exact out_ (x := (k : Int)) (.inl rfl)
          · rw [if_neg hg, w64 (by omega) (by omega)]
            refine on_ (x := (k : Int)) ⟨k + 1, rfl, by omega, fun l hl => ?_⟩ (by omega)
            rw [take_gd x k hk'] at hl
            rcases List.mem_append.1 hl with hl | hl
            · exact ha l hl
            · rw [List.mem_singleton.1 hl]; omega
        · rw [if_neg (by omega)]
          rw [List.take_of_length_le (by omega)] at ha
          exact out_ (x := (k : Int)) (.inr ⟨rfl, ha⟩)) 0 ⟨0, rfl, by omega, by simp⟩
    rw [hy]
    rcases hQ with rfl | ⟨rfl, h2⟩
    · exact ⟨true, rfl, fun h => by cases h⟩
    · exact ⟨false, rfl, fun _ => ⟨by omega, h2⟩⟩
def cellOk (n i : Nat) (l : List Int) (k : Nat) : Prop := 0 ≤ gd l (k : Int) ∧ gd l (k : Int) < (n : Int) ∧ gd l (k : Int) ≠ (i : Int) ∧ (0 < k → gd l ((k - 1 : Nat) : Int) < gd l (k : Int))
def rowOk (n i : Nat) (l : List Int) : Prop := ∀ k : Nat, k < l.length → cellOk n i l k
def Rgt (x : List (List Int)) : Prop := ∀ i : Nat, i < x.length → rowOk x.length i (gd x (i : Int))
theorem rowOk_lt {n i : Nat} {l : List Int} (h : rowOk n i l) : ∀ a b : Nat, a < b → b < l.length → gd l (a : Int) < gd l (b : Int) := by
  intro a b
  induction b with
  | zero => intro h; omega
  | succ b ih =>
    intro hab hb
    have h1 := (h (b + 1) hb).2.2.2 (by omega)
    rw [Nat.add_sub_cancel] at h1
    by_cases e : a = b
    · subst e; exact h1
    · exact Int.lt_trans (ih (by omega) (by omega)) h1
theorem row64 (x : List (List Int)) (i : Nat) (hi : i < x.length) (hx : x.length ≤ 40) (hr : (gd x (i : Int)).length ≤ 60) :
    (rowOk x.length i (gd x (i : Int)) ∧ loop (F64.b2 x (i : Int)) 0 = some (.inr ())) ∨ (¬ rowOk x.length i (gd x (i : Int)) ∧ loop (F64.b2 x (i : Int)) 0 = some (.inl false)) := by
  obtain ⟨y, hy, hQ⟩ := loop_ends (b := F64.b2 x (i : Int)) (fun s => ∃ k : Nat, s = (k : Int) ∧ k ≤ (gd x (i : Int)).length ∧ ∀ j : Nat, j < k → cellOk x.length i (gd x (i : Int)) j) (fun s => (((gd x (i : Int)).length : Int) - s).toNat)
    (fun y => (y = .inr () ∧ rowOk x.length i (gd x (i : Int))) ∨ (y = .inl false ∧ ¬ rowOk x.length i (gd x (i : Int)))) (fun s hs => by
      obtain ⟨k, rfl, hk, ha⟩ := hs
      simp only [F64.b2]
      by_cases h : k < (gd x (i : Int)).length
      · rw [if_pos (by omega), if_pos (by omega)]
        by_cases c1 : gd (gd x (i : Int)) (k : Int) < 0
        · rw [if_pos c1]; exact out_ (x := (k : Int)) (.inr ⟨rfl, fun h' => by have := (h' k h).1; omega⟩)
        rw [if_neg c1]
        by_cases c2 : (x.length : Int) ≤ gd (gd x (i : Int)) (k : Int)
        · rw [if_pos c2]; exact out_ (x := (k : Int)) (.inr ⟨rfl, fun h' => by have := (h' k h).2.1; omega⟩)
        rw [if_neg c2]
        by_cases c3 : gd (gd x (i : Int)) (k : Int) = (i : Int)
        · rw [if_pos c3]; exact out_ (x := (k : Int)) (.inr ⟨rfl, fun h' => (h' k h).2.2.1 c3⟩)
        rw [if_neg c3]
        have on : cellOk x.length i (gd x (i : Int)) k → ∃ s, F64.j4 (k : Int) = some s ∧ (∀ x', s = .inl x' → (∃ k : Nat, x' = (k : Int) ∧ k ≤ (gd x (i : Int)).length ∧ ∀ j : Nat, j < k → cellOk x.length i (gd x (i : Int)) j) ∧ (((gd x (i : Int)).length : Int) - x').toNat < (((gd x (i : Int)).length : Int) - (k : Int)).toNat) ∧ (∀ y, s = .inr y → (y = .inr () ∧ rowOk x.length i (gd x (i : Int))) ∨ (y = .inl false ∧ ¬ rowOk x.length i (gd x (i : Int)))) := fun hc => by
          simp only [F64.j4]
          rw [w64 (by omega) (by omega)]
          exact on_ (I := fun s : Int => ∃ k : Nat, s = (k : Int) ∧ k ≤ (gd x (i : Int)).length ∧ ∀ j : Nat, j < k → cellOk x.length i (gd x (i : Int)) j) (m := fun s => (((gd x (i : Int)).length : Int) - s).toNat) (x := (k : Int)) ⟨k + 1, rfl, by omega, fun j hj => by
            by_cases e : j = k
            · subst e; exact hc
            · exact ha j (by omega)⟩ (by omega)
        by_cases c4 : 0 < k
        · rw [if_pos (by omega), w64 (n := (k : Int) - 1) (by omega) (by omega), if_pos (by omega), show (k : Int) - 1 = ((k - 1 : Nat) : Int) by omega]
          by_cases c5 : gd (gd x (i : Int)) (k : Int) ≤ gd (gd x (i : Int)) ((k - 1 : Nat) : Int)
          · rw [if_pos c5]; exact out_ (x := (k : Int)) (.inr ⟨rfl, fun h' => by have := (h' k h).2.2.2 c4; omega⟩)
          · rw [if_neg c5]; exact on ⟨by omega, by omega, c3, fun _ => by omega⟩
        · rw [if_neg (by omega)]; exact on ⟨by omega, by omega, c3, fun h => absurd h c4⟩
      · rw [if_neg (by omega)]
        exact out_ (x := (k : Int)) (.inl ⟨rfl, fun j hj => ha j (by omega)⟩)) 0 ⟨0, rfl, by omega, fun j hj => by omega⟩
  rcases hQ with ⟨rfl, h⟩ | ⟨rfl, h⟩
  · exact .inl ⟨h, hy⟩
  · exact .inr ⟨h, hy⟩
theorem rows64 (x : List (List Int)) (hx : x.length ≤ 40) (hr : ∀ l ∈ x, l.length ≤ 60) : (Rgt x ∧ loop (F64.b1 x) 0 = some (.inr ())) ∨ (¬ Rgt x ∧ loop (F64.b1 x) 0 = some (.inl false)) := by
  obtain ⟨y, hy, hQ⟩ := loop_ends (b := F64.b1 x) (fun s => ∃ k : Nat, s = (k : Int) ∧ k ≤ x.length ∧ ∀ j : Nat, j < k → rowOk x.length j (gd x (j : Int))) (fun s => ((x.length : Int) - s).toNat)
    (fun y => (y = .inr () ∧ Rgt x) ∨ (y = .inl false ∧ ¬ Rgt x)) (fun s hs => by
      obtain ⟨k, rfl, hk, ha⟩ := hs
      simp only [F64.b1]
      by_cases h : k < x.length
      · rw [if_pos (by omega), if_pos (by omega)]
        rcases row64 x k h hx (hr _ (gd_mem x k h)) with ⟨h1, h2⟩ | ⟨h1, h2⟩
        · rw [h2, Option.bind_some]
          simp only [F64.j3, F64.j2]
          rw [w64 (by omega) (by omega)]
          exact on_ (x := (k : Int)) ⟨k + 1, rfl, by omega, fun j hj => by
            by_cases e : j = k
            · subst e; exact h1
            · exact ha j (by omega)⟩ (by omega)
        · rw [h2, Option.bind_some]
          exact out_ (x := (k : Int)) (.inr ⟨rfl, fun h' => h1 (h' k h)⟩)
      · rw [if_neg (by omega)]
        exact out_ (x := (k : Int)) (.inl ⟨rfl, fun j hj => ha j (by omega)⟩)) 0 ⟨0, rfl, by omega, fun j hj => by omega⟩
  rcases hQ with ⟨rfl, h⟩ | ⟨rfl, h⟩
  · exact .inl ⟨h, hy⟩
  · exact .inr ⟨h, hy⟩
theorem right64 (x : List (List Int)) (hx : x.length ≤ 40) (hr : ∀ l ∈ x, l.length ≤ 60) : (Rgt x ∧ F64.m x = some true) ∨ (¬ Rgt x ∧ F64.m x = some false) := by
  unfold F64.m
  rcases rows64 x hx hr with ⟨h, e⟩ | ⟨h, e⟩
  · rw [e]
    refine .inl ⟨h, ?_⟩
    simp only [Option.bind_some, F64.j1]
    rw [decide_eq_true (by omega)]
  · rw [e]; exact .inr ⟨h, rfl⟩
theorem right15 (x : List (List Int)) (hx : x.length ≤ 40) (hr : ∀ l ∈ x, l.length ≤ 60) : (Rgt x ∧ F15.m x = some true) ∨ (¬ Rgt x ∧ F15.m x = some false) := by
  unfold F15.m
  rw [if_neg (by omega), show F15.b1 x = F64.b1 x from rfl]
  rcases rows64 x hx hr with ⟨h, e⟩ | ⟨h, e⟩
  · rw [e]; exact .inl ⟨h, rfl⟩
  · rw [e]; exact .inr ⟨h, rfl⟩
/-! ### Turned -/
def rd (x : List (List Int)) (i k : Nat) : List Int := ((List.range i).filter (fun (j : Nat) => decide ((k : Int) ∈ gd x (j : Int)))).map (fun (j : Nat) => (j : Int))
def turn (x : List (List Int)) : List (List Int) := (List.range x.length).map (fun k => rd x x.length k)
theorem rd_succ (x : List (List Int)) (i k : Nat) : rd x (i + 1) k = if (k : Int) ∈ gd x (i : Int) then rd x i k ++ [(i : Int)] else rd x i k := by
  unfold rd
  rw [List.range_succ, List.filter_append, List.map_append]
  by_cases h : (k : Int) ∈ gd x (i : Int)
  · rw [if_pos h]; simp [h]
  · rw [if_neg h]; simp [h]
theorem rd_len (x : List (List Int)) (i k : Nat) : (rd x i k).length ≤ i := by
  unfold rd
  rw [List.length_map]
  refine Nat.le_trans (List.length_filter_le _ _) (by simp)
theorem rd_mem (x : List (List Int)) (i k : Nat) (a : Int) : a ∈ rd x i k ↔ ∃ j : Nat, j < i ∧ a = (j : Int) ∧ (k : Int) ∈ gd x (j : Int) := by
  unfold rd
  simp only [List.mem_map, List.mem_filter, List.mem_range, decide_eq_true_eq]
  constructor
  · rintro ⟨j, ⟨h1, h2⟩, rfl⟩; exact ⟨j, h1, rfl, h2⟩
  · rintro ⟨j, h1, rfl, h2⟩; exact ⟨j, ⟨h1, h2⟩, rfl⟩
theorem turn_len (x : List (List Int)) : (turn x).length = x.length := by simp [turn]
theorem turn_at (x : List (List Int)) (k : Nat) (h : k < x.length) : gd (turn x) (k : Int) = rd x x.length k := gd_map _ _ _ h
theorem turned39 (x : List (List Int)) (hx : x.length ≤ 40) (hr : ∀ l ∈ x, l.length ≤ 60) : (Rgt x ∧ F39.m x = some (turn x, 0)) ∨ (¬ Rgt x ∧ F39.m x = some ([], 3)) := by
  unfold F39.m
  rcases right64 x hx hr with ⟨h, e⟩ | ⟨h, e⟩
  · refine .inl ⟨h, ?_⟩
    rw [e, Option.bind_some, if_pos rfl, if_pos (by omega)]
    rw [loop_done (b := F39.b1 x) (x := (List.replicate (Int.toNat (x.length : Int)) ([] : List Int), (0 : Int))) (fun i => ((List.range x.length).map (fun k => rd x i k), (i : Int))) x.length (turn x) (fun i hi => ?_) ?_ ?_]
    · rfl
    · simp only [F39.b1]
      rw [if_neg (by omega)]
      rfl
    · simp only [Int.toNat_natCast]
      congr 1
      refine ext_gd (by simp) (fun k hk => ?_)
      rw [List.length_replicate] at hk
      rw [gd_rep _ _ _ hk, gd_map _ _ _ hk]
      rfl
    · have hrow := h i hi
      have hlen := hr _ (gd_mem x i hi)
      simp only [F39.b1]
      rw [if_pos (by omega), if_pos (by omega)]
      rw [loop_done (b := F39.b2 x (i : Int)) (x := ((List.range x.length).map (fun k => rd x i k), (0 : Int))) (fun j => ((List.range x.length).map (fun (k : Nat) => if (k : Int) ∈ (gd x (i : Int)).take j then rd x i k ++ [(i : Int)] else rd x i k), (j : Int))) (gd x (i : Int)).length ((List.range x.length).map (fun k => rd x (i + 1) k)) (fun j hj => ?_) ?_ ?_]
      · rw [Option.bind_some]
        simp only [F39.j3, F39.j2]
        rw [w64 (by omega) (by omega)]
        rfl
      · simp only [F39.b2]
        rw [if_neg (by omega), List.take_length]
        congr 2
        refine List.map_congr_left (fun k _ => ?_)
        rw [rd_succ]
      · simp
      · have hc := hrow j hj
        obtain ⟨e, he⟩ := nat_of hc.1
        have hen : e < x.length := by have := hc.2.1; omega
        simp only [F39.b2]
        rw [he, if_pos (by omega), if_pos (by omega), if_pos (by simp; omega), gd_map _ _ _ hen]
        have hnot : ¬ (e : Int) ∈ (gd x (i : Int)).take j := fun hm => by
          obtain ⟨a, ha, e2⟩ := (take_mem_gd (by omega)).1 hm
          have := rowOk_lt hrow a j ha hj
          omega
        have hl2 := rd_len x i e
        rw [if_neg hnot, if_pos (by simp; omega), w64 (by omega) (by omega), Int.toNat_natCast]
        congr 3
        refine map_set _ _ _ _ _ hen (fun k hk => ?_)
        rw [take_gd _ _ hj, he]
        by_cases hke : k = e
        · subst hke
          rw [if_pos rfl, if_pos (by simp)]
        · rw [if_neg hke]
          have : ((k : Int) ∈ (gd x (i : Int)).take j ++ [(e : Int)]) ↔ (k : Int) ∈ (gd x (i : Int)).take j := by
            rw [List.mem_append, List.mem_singleton]
            exact ⟨fun h => h.resolve_right (by omega), .inl⟩
          by_cases hm : (k : Int) ∈ (gd x (i : Int)).take j
          · rw [if_pos (this.2 hm), if_pos hm]
          · rw [if_neg (fun h => hm (this.1 h)), if_neg hm]
  · refine .inr ⟨h, ?_⟩
    rw [e, Option.bind_some, if_neg (by simp)]
end Go.Proofs.Ytgganckggdjpaaa
