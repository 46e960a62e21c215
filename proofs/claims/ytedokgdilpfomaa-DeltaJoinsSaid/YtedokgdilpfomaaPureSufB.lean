/- What SufB needs. -/
import Derived.Test.YtedokgdilpfomaaPureSufA
set_option linter.unusedVariables false
set_option linter.unusedSimpArgs false
namespace Go.Proofs.Ytedokgdilpfomaa
open Go Go.Eng Go.Proofs
/-! ### New ranks -/
theorem perm_inj {n : Nat} {P : List Int} (hP : P.Perm ((List.range n).map (fun i : Nat => (i : Int)))) (i j : Nat) (hi : i < P.length) (hj : j < P.length) (h : gd P (i : Int) = gd P (j : Int)) : i = j := by
  have h1 : P.Pairwise (fun x y => x ≠ y) := by
    rw [hP.pairwise_iff (fun {x y} h => Ne.symm h), List.pairwise_map]
    exact List.pairwise_lt_range.imp (fun {a c} h e => by omega)
  rw [gd_at _ _ hi, gd_at _ _ hj] at h
  have h2 := List.pairwise_iff_getElem.1 h1
  rcases Nat.lt_trichotomy i j with c | c | c
  · exact absurd h (h2 i j hi hj c)
  · exact c
  · exact absurd h.symm (h2 j i hj hi c)
theorem perm_get {n : Nat} {P : List Int} (hP : P.Perm ((List.range n).map (fun i : Nat => (i : Int)))) : P.length = n ∧ (∀ t : Nat, t < n → ∃ p : Nat, p < n ∧ gd P (t : Int) = (p : Int)) ∧ (∀ p : Nat, p < n → ∃ t, t < n ∧ gd P (t : Int) = (p : Int)) := by
  have hl : P.length = n := by simpa using hP.length_eq
  refine ⟨hl, fun t ht => ?_, fun p hp => ?_⟩
  · have := hP.mem_iff.1 (gd_mem P t (by omega))
    rw [List.mem_map] at this
    obtain ⟨k, hk, e⟩ := this
    exact ⟨k, by simpa using hk, e.symm⟩
  · have : (p : Int) ∈ P := hP.mem_iff.2 (List.mem_map.2 ⟨p, by simpa using hp, rfl⟩)
    obtain ⟨t, ht, e⟩ := List.mem_iff_getElem.1 this
    exact ⟨t, by omega, by rw [gd_at _ _ ht]; exact e⟩
theorem pair_get {P : List Int} {S : Int → Int → Prop} (h : P.Pairwise S) (i j : Nat) (hij : i < j) (hj : j < P.length) : S (gd P (i : Int)) (gd P (j : Int)) := by
  rw [gd_at _ _ (by omega), gd_at _ _ hj]
  exact List.pairwise_iff_getElem.1 h i j (by omega) hj hij
def rkt (κ : Nat → Int) : Nat → Nat
  | 0 => 0
  | t + 1 => rkt κ t + if κ (t + 1) = κ t then 0 else 1
theorem rkt_succ (κ : Nat → Int) (t : Nat) : rkt κ (t + 1) = rkt κ t + if κ (t + 1) = κ t then 0 else 1 := rfl
theorem rkt_le (κ : Nat → Int) (i : Nat) : ∀ k, rkt κ i ≤ rkt κ (i + k) ∧ rkt κ (i + k) ≤ rkt κ i + k
  | 0 => by simp
  | k + 1 => by
    have := rkt_le κ i k
    rw [← Nat.add_assoc, rkt_succ]
    split <;> omega
theorem rkt_eq (κ : Nat → Int) (n : Nat) (hm : ∀ t, t + 1 < n → κ t ≤ κ (t + 1)) (i : Nat) : ∀ k, i + k < n → κ i ≤ κ (i + k) ∧ (rkt κ i = rkt κ (i + k) ↔ κ i = κ (i + k))
  | 0, _ => by simp
  | k + 1, h => by
    have ih := rkt_eq κ n hm i k (by omega)
    have h1 := hm (i + k) (by omega)
    have h2 := (rkt_le κ i k).1
    rw [← Nat.add_assoc, rkt_succ]
    refine ⟨by omega, ?_⟩
    by_cases e : κ (i + k + 1) = κ (i + k)
    · rw [if_pos e, Nat.add_zero, ih.2]; omega
    · rw [if_neg e]
      constructor
      · intro h3; omega
      · intro h3; omega
theorem rkt_lt (κ : Nat → Int) (n : Nat) (hm : ∀ t, t + 1 < n → κ t ≤ κ (t + 1)) (i j : Nat) (hi : i < n) (hj : j < n) : rkt κ i < rkt κ j ↔ κ i < κ j := by
  by_cases c : i ≤ j
  · obtain ⟨k, rfl⟩ : ∃ k, j = i + k := ⟨j - i, by omega⟩
    have h1 := rkt_eq κ n hm i k hj
    have h2 := (rkt_le κ i k).1
    omega
  · obtain ⟨k, rfl⟩ : ∃ k, i = j + k := ⟨i - j, by omega⟩
    have h1 := rkt_eq κ n hm j k hi
    have h2 := (rkt_le κ j k).1
    omega
theorem ranked_is {b : List Int} {h m : Nat} {P R : List Int} (hn : b.length ≤ 100000) (hm : m ≤ 1000000) (h1 : 1 ≤ h) (hh : h ≤ 100000) (r : Rnk b h R m) (hP : P.Perm ((List.range b.length).map (fun i : Nat => (i : Int))))
    (hp : P.Pairwise (fun x y => (gd R x).toNat < (gd R y).toNat ∨ (gd R x).toNat = (gd R y).toNat ∧ sec R h x.toNat ≤ sec R h y.toNat)) (h0 : 1 ≤ b.length) :
    Srt b (h + h) P ∧ ∃ (R' : List Int) (m' : Nat), F72.m P R (h : Int) = some (R', (m' : Int)) ∧ Rnk b (h + h) R' m' ∧ m' ≤ b.length ∧ (m' = b.length → ∀ p q, p < b.length → q < b.length → p ≠ q → ¬ eqp b (h + h) p q) := by
  obtain ⟨hPl, hPg, hPo⟩ := perm_get hP
  have hsb : ∀ p, 0 ≤ sec R h p ∧ sec R h p ≤ 1000001 := fun p => by
    unfold sec
    rw [r.len]
    split
    · omega
    · have := r.lt (p + h) (by omega); omega
  let K : Nat → Int := fun p => gd R (p : Int) * 2000000 + sec R h p
  have hK : ∀ p q, p < b.length → q < b.length → (K p < K q ↔ ltp b (h + h) p q) := fun p q hp hq => by
    have a := hsb p
    have c := hsb q
    have d := r.lt p hp
    have e := r.lt q hq
    rw [lt_two, ← r.iff p q hp hq, ← r.eq p q hp hq, ← sec_iff r h1 p q]
    show gd R (p : Int) * 2000000 + sec R h p < gd R (q : Int) * 2000000 + sec R h q ↔ _
    omega
  have hKe : ∀ p q, p < b.length → q < b.length → (K p = K q ↔ gd R (p : Int) = gd R (q : Int) ∧ sec R h p = sec R h q) := fun p q hp hq => by
    have a := hsb p
    have c := hsb q
    show gd R (p : Int) * 2000000 + sec R h p = gd R (q : Int) * 2000000 + sec R h q ↔ _
    omega
  let κ : Nat → Int := fun t => K (gd P (t : Int)).toNat
  have hpk : ∀ i j : Nat, i < j → j < b.length → κ i ≤ κ j := fun i j hij hj => by
    have h2 := pair_get hp i j hij (by omega)
    obtain ⟨p, hp', e⟩ := hPg i (by omega)
    obtain ⟨q, hq', e'⟩ := hPg j hj
    show K (gd P (i : Int)).toNat ≤ K (gd P (j : Int)).toNat
    rw [e, e', Int.toNat_natCast, Int.toNat_natCast] at h2
    rw [e, e', Int.toNat_natCast, Int.toNat_natCast]
    have a := hsb p
    have c := hsb q
    have d := r.lt p hp'
    have f := r.lt q hq'
    show gd R (p : Int) * 2000000 + sec R h p ≤ gd R (q : Int) * 2000000 + sec R h q
    omega
  have hmono : ∀ t, t + 1 < b.length → κ t ≤ κ (t + 1) := fun t ht => hpk t (t + 1) (by omega) ht
  have hrk := rkt_lt κ b.length hmono
  have hrb : ∀ t, rkt κ t ≤ t := fun t => by have := (rkt_le κ 0 t).2; rw [Nat.zero_add] at this; simpa [rkt] using this
  have hsrt : Srt b (h + h) P := ⟨hP, by
    refine List.Pairwise.imp_of_mem (fun {x y} hx hy hxy hl => ?_) hp
    have hx' := hP.mem_iff.1 hx
    have hy' := hP.mem_iff.1 hy
    rw [List.mem_map] at hx' hy'
    obtain ⟨p, hp', rfl⟩ := hx'
    obtain ⟨q, hq', rfl⟩ := hy'
    rw [List.mem_range] at hp' hq'
    rw [Int.toNat_natCast, Int.toNat_natCast] at hxy hl
    rw [← hK q p hq' hp'] at hl
    have a := hsb p
    have c := hsb q
    have d := r.lt p hp'
    have f := r.lt q hq'
    have hl : gd R (q : Int) * 2000000 + sec R h q < gd R (p : Int) * 2000000 + sec R h p := hl
    omega⟩
  refine ⟨hsrt, ?_⟩
  have hkk : ∀ t p : Nat, t < b.length → gd P (t : Int) = (p : Int) → κ t = K p := fun t p ht e => by show K (gd P (t : Int)).toNat = K p; rw [e, Int.toNat_natCast]
  unfold F72.m
  rw [if_pos (by rw [r.len]; omega)]
  obtain ⟨y, hy, R', hyR, hRl, hRg⟩ := loop_ends (b := F72.b1 P R (h : Int)) (fun x => ∃ k : Nat, x.2.2 = (k : Int) ∧ k ≤ b.length ∧ x.2.1 = ((rkt κ (k - 1) : Nat) : Int) ∧ x.1.length = b.length ∧ ∀ t : Nat, t < k → gd x.1 (gd P (t : Int)) = ((rkt κ t : Nat) : Int)) (fun x => ((b.length : Int) - x.2.2).toNat)
    (fun y => ∃ R' : List Int, y = (R', ((rkt κ (b.length - 1) : Nat) : Int)) ∧ R'.length = b.length ∧ ∀ t : Nat, t < b.length → gd R' (gd P (t : Int)) = ((rkt κ t : Nat) : Int)) (fun x hx => by
      obtain ⟨o, mm, k⟩ := x
      obtain ⟨k, rfl, c1, c2, c3, c4⟩ := hx
      simp only at c2 c3 c4
      subst c2
      simp only [F72.b1]
      by_cases hk : k < b.length
      · obtain ⟨p, hp', ep⟩ := hPg k hk
        have hkb := hrb k
        have fin : ∀ v : Int, v = ((rkt κ k : Nat) : Int) → ∃ s, F72.j2 P o (k : Int) v = some s ∧ (∀ x', s = .inl x' → (∃ k : Nat, x'.2.2 = (k : Int) ∧ k ≤ b.length ∧ x'.2.1 = ((rkt κ (k - 1) : Nat) : Int) ∧ x'.1.length = b.length ∧ ∀ t : Nat, t < k → gd x'.1 (gd P (t : Int)) = ((rkt κ t : Nat) : Int)) ∧ ((b.length : Int) - x'.2.2).toNat < ((b.length : Int) - (k : Int)).toNat) ∧
            (∀ y, s = .inr y → ∃ R' : List Int, y = (R', ((rkt κ (b.length - 1) : Nat) : Int)) ∧ R'.length = b.length ∧ ∀ t : Nat, t < b.length → gd R' (gd P (t : Int)) = ((rkt κ t : Nat) : Int)) := by
          intro v hv
          subst hv
          simp only [F72.j2]
          rw [ep, if_pos (by omega), w64 (by omega) (by omega), Int.toNat_natCast]
          refine on_ (I := fun x' : List Int × Int × Int => ∃ k : Nat, x'.2.2 = (k : Int) ∧ k ≤ b.length ∧ x'.2.1 = ((rkt κ (k - 1) : Nat) : Int) ∧ x'.1.length = b.length ∧ ∀ t : Nat, t < k → gd x'.1 (gd P (t : Int)) = ((rkt κ t : Nat) : Int)) (m := fun x' => ((b.length : Int) - x'.2.2).toNat) (x := (o, ((rkt κ (k - 1) : Nat) : Int), (k : Int))) ⟨k + 1, rfl, by omega, rfl, by simp [c3], fun t ht => ?_⟩ (by simp only; omega)
          simp only
          obtain ⟨q, hq', eq⟩ := hPg t (by omega)
          rw [eq, gd_set _ _ _ _ (by omega)]
          by_cases e : t = k
          · subst e
            rw [ep] at eq
            rw [if_pos (by omega)]
          · rw [if_neg (fun e2 => e (perm_inj hP t k (by omega) (by omega) (by rw [eq, ep, e2]))), ← eq]
            exact c4 t (by omega)
        rw [if_pos (by omega), if_pos (by omega)]
        by_cases hk0 : k = 0
        · subst hk0
          rw [if_neg (by omega)]
          exact fin _ rfl
        · obtain ⟨j, rfl⟩ : ∃ j, k = j + 1 := ⟨k - 1, by omega⟩
          obtain ⟨q, hq', eq⟩ := hPg j (by omega)
          have hjb := hrb j
          have hkp := hkk (j + 1) p hk ep
          have hkq := hkk j q (by omega) eq
          rw [if_pos (by omega), show ((j + 1 : Nat) : Int) - 1 = (j : Int) by omega, w64 (n := (j : Int)) (by omega) (by omega), if_pos (by omega), ep, if_pos (by rw [r.len]; omega), eq, if_pos (by rw [r.len]; omega)]
          rw [show j + 1 - 1 = j by omega]
          have hbd : ∀ k : Nat, k < R.length → 0 ≤ gd R (k : Int) ∧ gd R (k : Int) ≤ 1000000 := fun k hk => by have := r.lt k (by rw [← r.len]; exact hk); omega
          have inc : ¬ κ (j + 1) = κ j → IntKind.wrap .i64 (((rkt κ j : Nat) : Int) + 1) = ((rkt κ (j + 1) : Nat) : Int) := fun c => by
            rw [w64 (by omega) (by omega)]
            simp only [rkt]
            rw [if_neg c]; omega
          have same : κ (j + 1) = κ j → ((rkt κ j : Nat) : Int) = ((rkt κ (j + 1) : Nat) : Int) := fun c => by
            simp only [rkt]
            rw [if_pos c]; omega
          by_cases e1 : gd R (p : Int) = gd R (q : Int)
          · rw [if_pos e1, second_is R h p (by rw [r.len]; omega) hh (by omega) hbd, Option.bind_some, second_is R h q (by rw [r.len]; omega) hh (by omega) hbd, Option.bind_some]
            by_cases e2 : sec R h p = sec R h q
            · rw [if_pos e2]
              exact fin _ (same (by rw [hkp, hkq, hKe p q hp' hq']; exact ⟨e1, e2⟩))
            · rw [if_neg e2]
              exact fin _ (inc (by rw [hkp, hkq, hKe p q hp' hq']; exact fun h => e2 h.2))
          · rw [if_neg e1]
            exact fin _ (inc (by rw [hkp, hkq, hKe p q hp' hq']; exact fun h => e1 h.1))
      · rw [if_neg (by omega)]
        have : k = b.length := by omega
        subst this
        exact out_ (x := (o, ((rkt κ (b.length - 1) : Nat) : Int), ((b.length : Nat) : Int))) ⟨o, rfl, c3, c4⟩) (List.replicate (Int.toNat (R.length : Int)) 0, 0, 0) ⟨0, rfl, by omega, rfl, by simp [r.len], fun t ht => by omega⟩
  rw [hy, hyR, Option.bind_some]
  simp only [F72.j1]
  have hlb := hrb (b.length - 1)
  rw [w64 (by omega) (by omega)]
  have hval : ∀ p, p < b.length → ∃ t, t < b.length ∧ gd P (t : Int) = (p : Int) ∧ gd R' (p : Int) = ((rkt κ t : Nat) : Int) ∧ κ t = K p := fun p hp' => by
    obtain ⟨t, ht, e⟩ := hPo p hp'
    refine ⟨t, ht, e, ?_, hkk t p ht e⟩
    rw [← e]; exact hRg t ht
  refine ⟨R', rkt κ (b.length - 1) + 1, rfl, ⟨hRl, fun p hp' => ?_, fun p q hp' hq' => ?_⟩, by omega, fun he p q hp' hq' hne heq => ?_⟩
  · obtain ⟨t, ht, e, e2, _⟩ := hval p hp'
    have := (rkt_le κ t (b.length - 1 - t)).1
    rw [show t + (b.length - 1 - t) = b.length - 1 by omega] at this
    rw [e2]; omega
  · obtain ⟨t, ht, e, e2, e3⟩ := hval p hp'
    obtain ⟨u, hu, f, f2, f3⟩ := hval q hq'
    rw [e2, f2, ← hK p q hp' hq', ← e3, ← f3, ← hrk t u ht hu]
    omega
  · obtain ⟨t, ht, e, e2, e3⟩ := hval p hp'
    obtain ⟨u, hu, f, f2, f3⟩ := hval q hq'
    have htu : t ≠ u := fun c => by subst c; rw [e] at f; omega
    have ht' := hrb t
    have hu' := hrb u
    have a := (rkt_le κ t (b.length - 1 - t)).2
    rw [show t + (b.length - 1 - t) = b.length - 1 by omega] at a
    have c := (rkt_le κ u (b.length - 1 - u)).2
    rw [show u + (b.length - 1 - u) = b.length - 1 by omega] at c
    have : rkt κ t ≠ rkt κ u := by omega
    rcases Nat.lt_or_gt_of_ne this with d | d
    · have := (hrk t u ht hu).1 d
      rw [e3, f3, hK p q hp' hq'] at this
      exact lt_not_eq this heq
    · have := (hrk u t hu ht).1 d
      rw [e3, f3, hK q p hq' hp'] at this
      exact lt_not_eq this (fun i hi => (heq i hi).symm)
/-! ### The array -/
def SA (b A : List Int) : Prop := A.Perm ((List.range b.length).map (fun i : Nat => (i : Int))) ∧ A.Pairwise (fun x y => ∀ H, ¬ ltp b H y.toNat x.toNat)
theorem lt_asym2 {b : List Int} {h H p q : Nat} (hl : ltp b h p q) (hr : ltp b H q p) : False := by
  obtain ⟨k, h1, h2, h3⟩ := hl
  obtain ⟨j, h4, h5, h6⟩ := hr
  rcases Nat.lt_trichotomy k j with c | c | c
  · have := h5 k c; omega
  · subst c; omega
  · have := h2 j c; omega
theorem sa_long {b A : List Int} {h : Nat} (s : Srt b h A) (hh : b.length ≤ h) : SA b A := by
  refine ⟨s.perm, s.pair.imp (fun {x y} hxy H hl => hxy ?_)⟩
  obtain ⟨k, h1, h2, h3⟩ := hl
  refine ⟨k, ?_, h2, h3⟩
  rcases Nat.lt_or_ge k h with c | c
  · exact c
  · rw [ch_end b (x.toNat + k) (by omega)] at h3; omega
theorem sa_apart {b A : List Int} {h : Nat} (s : Srt b h A) (hd : ∀ p q, p < b.length → q < b.length → p ≠ q → ¬ eqp b h p q) : SA b A := by
  refine ⟨s.perm, ?_⟩
  have hne : A.Pairwise (fun x y => x ≠ y) := by
    rw [s.perm.pairwise_iff (fun {x y} h => Ne.symm h), List.pairwise_map]
    exact List.pairwise_lt_range.imp (fun {a c} h e => by omega)
  refine List.Pairwise.imp_of_mem (fun {x y} hx hy hxy H hl => ?_) (List.Pairwise.and s.pair hne)
  obtain ⟨p, rfl, hp⟩ := s.mem hx
  obtain ⟨q, rfl, hq⟩ := s.mem hy
  rw [Int.toNat_natCast, Int.toNat_natCast] at hxy hl
  rcases tri b q p h with c | c | c
  · exact hxy.1 c
  · exact hd q p hq hp (fun e => hxy.2 (by rw [e])) c
  · exact lt_asym2 c hl
theorem array_is (b : List Int) (hb : b.length ≤ 5000) (hu : ∀ x ∈ b, 0 ≤ x ∧ x ≤ 255) : ∃ A, F65.m b = some A ∧ SA b A := by
  unfold F65.m
  rw [if_pos (by omega)]
  simp only [F65.j1]
  rw [Int.toNat_natCast]
  rw [loop_done (x := (List.replicate b.length (0 : Int), List.replicate b.length (0 : Int), (0 : Int))) (fun k => ((List.range b.length).map (fun i : Nat => if i < k then (i : Int) else 0), (List.range b.length).map (fun i : Nat => if i < k then gd b (i : Int) else 0), (k : Int))) b.length ((List.range b.length).map (fun i : Nat => (i : Int)), b) (fun k hk => ?_) ?_ ?_]
  · rw [Option.bind_some]
    simp only [F65.j2]
    have hR0 : ∀ k : Nat, k < b.length → 0 ≤ gd b (k : Int) ∧ gd b (k : Int) < (256 : Nat) := fun k hk => by have := hu _ (gd_mem b k hk); omega
    have r0 : Rnk b 1 b 256 := ⟨rfl, hR0, fun p q hp hq => by
      have a := hR0 p hp
      have c := hR0 q hq
      have e : ch b p = (gd b (p : Int)).toNat + 1 := by unfold ch; rw [if_pos hp]
      have f : ch b q = (gd b (q : Int)).toNat + 1 := by unfold ch; rw [if_pos hq]
      constructor
      · intro h; exact ⟨0, by omega, fun i hi => by omega, by rw [Nat.add_zero, Nat.add_zero, e, f]; omega⟩
      · rintro ⟨k, hk, _, h⟩
        have : k = 0 := by omega
        subst this
        rw [Nat.add_zero, Nat.add_zero, e, f] at h; omega⟩
    have hP0 : ∀ p ∈ (List.range b.length).map (fun i : Nat => (i : Int)), ∃ k : Nat, p = (k : Int) ∧ k < b.length := fun p hp => by
      obtain ⟨k, hk, rfl⟩ := List.mem_map.1 hp
      exact ⟨k, rfl, by simpa using hk⟩
    rw [show (256 : Int) = ((256 : Nat) : Int) from rfl, counted_is _ b 256 (by simp; omega) (by omega) hP0 hR0, Option.bind_some]
    have s0 : Srt b 1 (cs (fun p => (gd b p).toNat) ((List.range b.length).map (fun i : Nat => (i : Int))) 256) := by
      refine ⟨cs_perm' _ _ _ (fun p hp => ?_), ?_⟩
      · obtain ⟨k, rfl, hk⟩ := hP0 p hp
        have := hR0 k hk; omega
      · have h1 := cs_pair (fun p => (gd b p).toNat) ((List.range b.length).map (fun i : Nat => (i : Int))) (fun _ _ => True) (List.pairwise_iff_forall_sublist.2 fun _ => trivial) 256
        refine List.Pairwise.imp_of_mem (fun {x y} hx hy hxy hl => ?_) h1
        have hm := cs_perm' (fun p => (gd b p).toNat) ((List.range b.length).map (fun i : Nat => (i : Int))) 256 (fun p hp => by
          obtain ⟨k, rfl, hk⟩ := hP0 p hp
          have := hR0 k hk; omega)
        obtain ⟨p, rfl, hp⟩ := hP0 x (hm.mem_iff.1 hx)
        obtain ⟨q, rfl, hq⟩ := hP0 y (hm.mem_iff.1 hy)
        rw [Int.toNat_natCast, Int.toNat_natCast, ← r0.iff q p hq hp] at hl
        have a := hR0 p hp
        have c := hR0 q hq
        omega
    generalize cs (fun p => (gd b p).toNat) ((List.range b.length).map (fun i : Nat => (i : Int))) 256 = P0 at s0 ⊢
    obtain ⟨y, hy, hQ⟩ := loop_ends (b := F65.b1 b) (fun x => ∃ (P R : List Int) (m h : Nat), x = (P, R, (m : Int), (h : Int)) ∧ 1 ≤ h ∧ h ≤ 10000 ∧ m ≤ 5256 ∧ Srt b h P ∧ Rnk b h R m) (fun x => ((b.length : Int) - x.2.2.2).toNat) (fun A => SA b A) (fun x hx => by
      obtain ⟨P, R, m, h, rfl, h1, h2, h3, s, r⟩ := hx
      simp only [F65.b1]
      by_cases hh : h < b.length
      · have hmax : maxI (0 : Int) (IntKind.wrap .i64 ((b.length : Int) - (h : Int))) = ((b.length - h : Nat) : Int) := by
          rw [w64 (by omega) (by omega)]; unfold maxI; split <;> omega
        rw [if_pos (by omega), hmax, row1 b b.length h rfl (by omega) (by omega), Option.bind_some]
        simp only [F65.j5]
        rw [row2 P h _ (by simp; omega) (by rw [s.len]; omega) (fun p hp => by obtain ⟨k, rfl, hk⟩ := s.mem hp; omega) (by omega), Option.bind_some]
        simp only [F65.j6]
        have hrp := row_perm b.length h (by omega) P s.perm
        have hrq := row_pair r s h1 (by omega)
        generalize (List.range h).map (fun i : Nat => ((b.length - h + i : Nat) : Int)) ++ (P.filter (fun p => decide ((h : Int) ≤ p))).map (fun p => p - (h : Int)) = row at hrp hrq ⊢
        have hrl : row.length = b.length := by simpa using hrp.length_eq
        have hrm : ∀ p ∈ row, ∃ k : Nat, p = (k : Int) ∧ k < b.length := fun p hp => hP0 p (hrp.mem_iff.1 hp)
        rw [counted_is row R m (by omega) (by omega) (fun p hp => by rw [r.len]; exact hrm p hp) (fun k hk => r.lt k (by rw [← r.len]; exact hk)), Option.bind_some]
        have hcp := cs_perm' (fun p => (gd R p).toNat) row m (fun p hp => by
          obtain ⟨k, rfl, hk⟩ := hrm p hp
          have := r.lt k hk; omega)
        have hcq := cs_pair (fun p => (gd R p).toNat) row _ hrq m
        obtain ⟨s2, R', m', e, r2, hm', hd⟩ := ranked_is (by omega) (by omega) h1 (by omega) r (hcp.trans hrp) hcq (by omega)
        generalize cs (fun p => (gd R p).toNat) row m = P' at s2 e ⊢
        rw [e, Option.bind_some]
        simp only
        by_cases hf : (m' : Int) = (b.length : Int)
        · rw [if_pos hf]
          exact out_ (x := (P, R, (m : Int), (h : Int))) (sa_apart s2 (hd (by omega)))
        · rw [if_neg hf]
          simp only [F65.j4]
          rw [w64 (by omega) (by omega)]
          exact on_ (x := (P, R, (m : Int), (h : Int))) ⟨P', R', m', h + h, by rw [show ((h + h : Nat) : Int) = (h : Int) * 2 by omega], by omega, by omega, by omega, s2, r2⟩ (by simp only; omega)
      · rw [if_neg (by omega)]
        exact out_ (x := (P, R, (m : Int), (h : Int))) (sa_long s (by omega))) (P0, b, ((256 : Nat) : Int), 1) ⟨P0, b, 256, 1, rfl, by omega, by omega, by omega, s0, r0⟩
    rw [hy]
    exact ⟨y, rfl, hQ⟩
  · simp only [F65.b4]
    rw [if_neg (by omega)]
    congr 2
    refine Prod.ext (map_same _ _ _ (fun i hi => by rw [if_pos hi])) ?_
    refine ext_gd (by simp) (fun k hk => ?_)
    simp only [List.length_map, List.length_range] at hk
    rw [gd_map _ _ _ hk, if_pos hk]
  · refine Prod.ext ?_ (Prod.ext ?_ rfl)
    · show List.replicate b.length (0 : Int) = _
      rw [rep_map]; exact map_same _ _ _ (fun i hi => by rw [if_neg (by omega)])
    · show List.replicate b.length (0 : Int) = _
      rw [rep_map]; exact map_same _ _ _ (fun i hi => by rw [if_neg (by omega)])
  · have := hu _ (gd_mem b k hk)
    simp only [F65.b4]
    rw [if_pos (by omega), if_pos (by omega), if_pos (by simp; omega), if_pos (by simp; omega), Int.toNat_natCast, w64 (n := gd b (k : Int)) (by omega) (by omega), w64 (by omega) (by omega)]
    rw [map_set b.length _ (fun i : Nat => if i < k + 1 then (i : Int) else 0) k _ hk (fun i hi => ?_), map_set b.length _ (fun i : Nat => if i < k + 1 then gd b (i : Int) else 0) k _ hk (fun i hi => ?_)]
    · rfl
    · by_cases a : i = k
      · subst a; rw [if_pos (by omega), if_pos rfl]
      · rw [if_neg a]
        by_cases c : i < k
        · rw [if_pos (by omega), if_pos c]
        · rw [if_neg (by omega), if_neg c]
    · by_cases a : i = k
      · subst a; rw [if_pos (by omega), if_pos rfl]
      · rw [if_neg a]
        by_cases c : i < k
        · rw [if_pos (by omega), if_pos c]
        · rw [if_neg (by omega), if_neg c]
end Go.Proofs.Ytedokgdilpfomaa
