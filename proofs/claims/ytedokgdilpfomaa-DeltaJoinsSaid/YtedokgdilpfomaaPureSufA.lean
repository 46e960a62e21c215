/- What SufA needs. -/
import Derived.Test.YtedokgdilpfomaaPureSufK
set_option linter.unusedVariables false
set_option linter.unusedSimpArgs false
namespace Go.Proofs.Ytedokgdilpfomaa
open Go Go.Eng Go.Proofs
/-! ### Suffixes and their first bytes -/
def ch (b : List Int) (i : Nat) : Nat := if i < b.length then (gd b (i : Int)).toNat + 1 else 0
def eqp (b : List Int) (h p q : Nat) : Prop := ∀ i, i < h → ch b (p + i) = ch b (q + i)
def ltp (b : List Int) (h p q : Nat) : Prop := ∃ k, k < h ∧ eqp b k p q ∧ ch b (p + k) < ch b (q + k)
theorem tri (b : List Int) (p q : Nat) : ∀ h, ltp b h p q ∨ eqp b h p q ∨ ltp b h q p
  | 0 => .inr (.inl (fun i hi => by omega))
  | h + 1 => by
    rcases tri b p q h with ⟨k, h1, h2⟩ | h1 | ⟨k, h1, h2⟩
    · exact .inl ⟨k, by omega, h2⟩
    · rcases Nat.lt_trichotomy (ch b (p + h)) (ch b (q + h)) with c | c | c
      · exact .inl ⟨h, by omega, h1, c⟩
      · refine .inr (.inl (fun i hi => ?_))
        by_cases e : i = h
        · rw [e]; exact c
        · exact h1 i (by omega)
      · exact .inr (.inr ⟨h, by omega, fun i hi => (h1 i hi).symm, c⟩)
    · exact .inr (.inr ⟨k, by omega, h2⟩)
theorem lt_not_eq {b : List Int} {h p q : Nat} (hl : ltp b h p q) (he : eqp b h p q) : False := by
  obtain ⟨k, h1, _, h2⟩ := hl
  have := he k h1
  omega
theorem lt_asym {b : List Int} {h p q : Nat} (hl : ltp b h p q) (hr : ltp b h q p) : False := by
  obtain ⟨k, h1, h2, h3⟩ := hl
  obtain ⟨j, h4, h5, h6⟩ := hr
  rcases Nat.lt_trichotomy k j with c | c | c
  · have := h5 k c; omega
  · subst c; omega
  · have := h2 j c; omega
/-- Twice as many bytes: by the first half, then by the second one. -/
theorem lt_two (b : List Int) (h p q : Nat) : ltp b (h + h) p q ↔ ltp b h p q ∨ (eqp b h p q ∧ ltp b h (p + h) (q + h)) := by
  constructor
  · rintro ⟨k, h1, h2, h3⟩
    by_cases c : k < h
    · exact .inl ⟨k, c, h2, h3⟩
    · refine .inr ⟨fun i hi => h2 i (by omega), k - h, by omega, fun i hi => ?_, ?_⟩
      · have := h2 (h + i) (by omega)
        rwa [← Nat.add_assoc, ← Nat.add_assoc] at this
      · rw [show p + h + (k - h) = p + k by omega, show q + h + (k - h) = q + k by omega]; exact h3
  · rintro (⟨k, h1, h2, h3⟩ | ⟨h0, k, h1, h2, h3⟩)
    · exact ⟨k, by omega, h2, h3⟩
    · refine ⟨h + k, by omega, fun i hi => ?_, by rw [← Nat.add_assoc, ← Nat.add_assoc]; exact h3⟩
      by_cases c : i < h
      · exact h0 i c
      · have := h2 (i - h) (by omega)
        rwa [show p + h + (i - h) = p + i by omega, show q + h + (i - h) = q + i by omega] at this
theorem ch_end (b : List Int) (i : Nat) (h : b.length ≤ i) : ch b i = 0 := by unfold ch; rw [if_neg (by omega)]
theorem ch_pos (b : List Int) (i : Nat) (h : i < b.length) : 1 ≤ ch b i := by unfold ch; rw [if_pos h]; omega
/-- Places in order by their first bytes, and their ranks. -/
structure Srt (b : List Int) (h : Nat) (P : List Int) : Prop where
  perm : P.Perm ((List.range b.length).map (fun i : Nat => (i : Int)))
  pair : P.Pairwise (fun x y => ¬ ltp b h y.toNat x.toNat)
structure Rnk (b : List Int) (h : Nat) (R : List Int) (m : Nat) : Prop where
  len : R.length = b.length
  lt : ∀ p, p < b.length → 0 ≤ gd R (p : Int) ∧ gd R (p : Int) < m
  iff : ∀ p q, p < b.length → q < b.length → (gd R (p : Int) < gd R (q : Int) ↔ ltp b h p q)
theorem Srt.mem {b : List Int} {h : Nat} {P : List Int} (s : Srt b h P) {x : Int} (hx : x ∈ P) : ∃ k : Nat, x = (k : Int) ∧ k < b.length := by
  have := s.perm.mem_iff.1 hx
  rw [List.mem_map] at this
  obtain ⟨k, hk, rfl⟩ := this
  exact ⟨k, rfl, by simpa using hk⟩
theorem Srt.len {b : List Int} {h : Nat} {P : List Int} (s : Srt b h P) : P.length = b.length := by
  have := s.perm.length_eq
  simpa using this
theorem Rnk.eq {b : List Int} {h : Nat} {R : List Int} {m : Nat} (r : Rnk b h R m) (p q : Nat) (hp : p < b.length) (hq : q < b.length) : gd R (p : Int) = gd R (q : Int) ↔ eqp b h p q := by
  have h1 := r.iff p q hp hq
  have h2 := r.iff q p hq hp
  constructor
  · intro e
    rcases tri b p q h with c | c | c
    · have := h1.2 c; omega
    · exact c
    · have := h2.2 c; omega
  · intro e
    rcases Int.lt_trichotomy (gd R (p : Int)) (gd R (q : Int)) with c | c | c
    · exact (lt_not_eq (h1.1 c) e).elim
    · exact c
    · exact (lt_not_eq (h2.1 c) (fun i hi => (e i hi).symm)).elim
/-- The second key. -/
def sec (R : List Int) (h p : Nat) : Int := if R.length ≤ p + h then 0 else gd R ((p + h : Nat) : Int) + 1
theorem second_is (R : List Int) (h p : Nat) (hR : R.length ≤ 100000) (hh : h ≤ 100000) (hp : p ≤ 100000) (hb : ∀ k : Nat, k < R.length → 0 ≤ gd R (k : Int) ∧ gd R (k : Int) ≤ 1000000) : F74.m R (p : Int) (h : Int) = some (sec R h p) := by
  unfold F74.m sec
  rw [w64 (n := (p : Int) + (h : Int)) (by omega) (by omega)]
  by_cases c : R.length ≤ p + h
  · rw [if_pos (by omega), if_pos c]
  · rw [if_neg (by omega), if_neg c, if_pos (by omega), show (p : Int) + (h : Int) = ((p + h : Nat) : Int) by omega]
    have := hb (p + h) (by omega)
    rw [w64 (by omega) (by omega)]
theorem sec_iff {b : List Int} {h : Nat} {R : List Int} {m : Nat} (r : Rnk b h R m) (h1 : 1 ≤ h) (p q : Nat) : sec R h p < sec R h q ↔ ltp b h (p + h) (q + h) := by
  unfold sec
  rw [r.len]
  by_cases c : b.length ≤ p + h
  · rw [if_pos c]
    by_cases d : b.length ≤ q + h
    · rw [if_pos d]
      constructor
      · intro e; omega
      · rintro ⟨k, _, _, e⟩
        rw [ch_end b (p + h + k) (by omega), ch_end b (q + h + k) (by omega)] at e
        omega
    · rw [if_neg d]
      have := (r.lt (q + h) (by omega)).1
      constructor
      · intro _
        refine ⟨0, by omega, fun i hi => by omega, ?_⟩
        have := ch_pos b (q + h) (by omega)
        rw [Nat.add_zero, Nat.add_zero, ch_end b (p + h) c]; omega
      · intro _; omega
  · rw [if_neg c]
    have := (r.lt (p + h) (by omega)).1
    by_cases d : b.length ≤ q + h
    · rw [if_pos d]
      constructor
      · intro e; omega
      · rintro ⟨k, _, e1, e⟩
        rw [ch_end b (q + h + k) (by omega)] at e
        omega
    · rw [if_neg d, ← r.iff (p + h) (q + h) (by omega) (by omega)]
      omega
theorem sec_eq {b : List Int} {h : Nat} {R : List Int} {m : Nat} (r : Rnk b h R m) (h1 : 1 ≤ h) (p q : Nat) : sec R h p = sec R h q ↔ eqp b h (p + h) (q + h) := by
  have a := sec_iff r h1 p q
  have c := sec_iff r h1 q p
  constructor
  · intro e
    rcases tri b (p + h) (q + h) h with d | d | d
    · have := a.2 d; omega
    · exact d
    · have := c.2 d; omega
  · intro e
    rcases Int.lt_trichotomy (sec R h p) (sec R h q) with d | d | d
    · exact (lt_not_eq (a.1 d) e).elim
    · exact d
    · exact (lt_not_eq (c.1 d) (fun i hi => (e i hi).symm)).elim
/-! ### The places by their second half -/
theorem row1 (x2 : List Int) (n h : Nat) (hn : x2.length = n) (hl : n ≤ 100000) (hh : h ≤ n) : loop (F65.b3 x2) ([], ((n - h : Nat) : Int)) = some ((List.range h).map (fun i : Nat => ((n - h + i : Nat) : Int))) := by
  refine loop_done (fun k => ((List.range k).map (fun i : Nat => ((n - h + i : Nat) : Int)), ((n - h + k : Nat) : Int))) h _ (fun k hk => ?_) ?_ (by simp)
  · simp only [F65.b3]
    rw [if_pos (by omega), if_pos (by simp; omega), List.range_succ, List.map_append, w64 (by omega) (by omega)]
    rfl
  · simp only [F65.b3]
    rw [if_neg (by omega)]
theorem row2 (P : List Int) (h : Nat) (r0 : List Int) (h0 : r0.length ≤ 100000) (hP : P.length ≤ 100000) (hPp : ∀ p ∈ P, 0 ≤ p ∧ p ≤ 100000) (hh : h ≤ 100000) : loop (F65.b2 P (h : Int)) (r0, 0) = some (r0 ++ (P.filter (fun p => decide ((h : Int) ≤ p))).map (fun p => p - (h : Int))) := by
  refine loop_done (fun k => (r0 ++ ((P.take k).filter (fun p => decide ((h : Int) ≤ p))).map (fun p => p - (h : Int)), (k : Int))) P.length _ (fun k hk => ?_) ?_ (by simp)
  · have hm := hPp _ (gd_mem P k hk)
    have hfl := List.length_filter_le (fun p => decide ((h : Int) ≤ p)) (P.take k)
    rw [List.length_take] at hfl
    simp only [F65.b2]
    rw [if_pos (by omega), if_pos (by omega), take_gd P k hk, List.filter_append]
    by_cases c : (h : Int) ≤ gd P (k : Int)
    · rw [if_pos c, w64 (n := gd P (k : Int) - (h : Int)) (by omega) (by omega), if_pos (by simp; omega)]
      simp only [F65.j7]
      rw [w64 (by omega) (by omega), List.filter_cons_of_pos (by simpa using c), List.map_append, List.append_assoc]
      rfl
    · rw [if_neg c]
      simp only [F65.j7]
      rw [w64 (by omega) (by omega), List.filter_cons_of_neg (by simpa using c), List.map_append]
      simp
  · simp only [F65.b2]
    rw [if_neg (by omega), List.take_length]
theorem row_perm (n h : Nat) (hh : h ≤ n) (P : List Int) (hP : P.Perm ((List.range n).map (fun i : Nat => (i : Int)))) :
    ((List.range h).map (fun i : Nat => ((n - h + i : Nat) : Int)) ++ (P.filter (fun p => decide ((h : Int) ≤ p))).map (fun p => p - (h : Int))).Perm ((List.range n).map (fun i : Nat => (i : Int))) := by
  have h1 := (hP.filter (fun p => decide ((h : Int) ≤ p))).map (fun p => p - (h : Int))
  have e : (((List.range n).map (fun i : Nat => (i : Int))).filter (fun p => decide ((h : Int) ≤ p))).map (fun p => p - (h : Int)) = (List.range (n - h)).map (fun i : Nat => (i : Int)) := by
    rw [show n = h + (n - h) by omega, List.range_add, List.map_append, List.filter_append, List.filter_eq_nil_iff.2 (fun p hp => ?_), List.nil_append, List.filter_eq_self.2 (fun p hp => ?_)]
    · rw [List.map_map, List.map_map, show h + (n - h) - h = n - h by omega]
      apply List.map_congr_left
      intro i hi
      simp only [Function.comp]
      omega
    · simp only [List.mem_map, List.mem_range] at hp
      obtain ⟨a, ⟨c, hc, rfl⟩, rfl⟩ := hp
      simp; omega
    · simp only [List.mem_map, List.mem_range] at hp
      obtain ⟨a, ha, rfl⟩ := hp
      simp; omega
  rw [e] at h1
  refine (List.Perm.append_left _ h1).trans (List.perm_append_comm.trans ?_)
  rw [show (List.range n).map (fun i : Nat => (i : Int)) = (List.range (n - h + h)).map (fun i : Nat => (i : Int)) by rw [Nat.sub_add_cancel hh], List.range_add, List.map_append, List.map_map]
  exact List.Perm.refl _
theorem row_pair {b : List Int} {h : Nat} {R P : List Int} {m : Nat} (r : Rnk b h R m) (s : Srt b h P) (h1 : 1 ≤ h) (hh : h ≤ b.length) :
    ((List.range h).map (fun i : Nat => ((b.length - h + i : Nat) : Int)) ++ (P.filter (fun p => decide ((h : Int) ≤ p))).map (fun p => p - (h : Int))).Pairwise (fun x y => sec R h x.toNat ≤ sec R h y.toNat) := by
  rw [List.pairwise_append]
  have hz : ∀ i, b.length ≤ i + h → sec R h i = 0 := fun i hi => by unfold sec; rw [r.len, if_pos hi]
  have hnn : ∀ i, 0 ≤ sec R h i := fun i => by
    unfold sec
    rw [r.len]
    split
    · omega
    · have := (r.lt (i + h) (by omega)).1; omega
  refine ⟨?_, ?_, ?_⟩
  · refine List.Pairwise.imp_of_mem (R := fun _ _ => True) (fun {x y} hx hy _ => ?_) (List.pairwise_iff_forall_sublist.2 fun _ => trivial)
    simp only [List.mem_map, List.mem_range] at hx hy
    obtain ⟨i, hi, rfl⟩ := hx
    obtain ⟨j, hj, rfl⟩ := hy
    rw [Int.toNat_natCast, Int.toNat_natCast, hz _ (by omega), hz _ (by omega)]
    omega
  · rw [List.pairwise_map]
    refine List.Pairwise.imp_of_mem (fun {x y} hx hy hxy => ?_) (s.pair.filter _)
    rw [List.mem_filter] at hx hy
    obtain ⟨i, rfl, hi⟩ := s.mem hx.1
    obtain ⟨j, rfl, hj⟩ := s.mem hy.1
    have hx2 := of_decide_eq_true hx.2
    have hy2 := of_decide_eq_true hy.2
    rw [Int.toNat_natCast, Int.toNat_natCast, ← r.iff j i hj hi] at hxy
    have e1 : ((i : Int) - (h : Int)).toNat + h = i := by omega
    have e2 : ((j : Int) - (h : Int)).toNat + h = j := by omega
    unfold sec
    rw [e1, e2, r.len, if_neg (by omega), if_neg (by omega)]
    omega
  · intro x hx y hy
    simp only [List.mem_map, List.mem_range] at hx
    obtain ⟨i, hi, rfl⟩ := hx
    rw [Int.toNat_natCast, hz _ (by omega)]
    exact hnn _
end Go.Proofs.Ytedokgdilpfomaa
