/- What OrdO needs. -/
import Derived.Test.YtgganckggdjpaaaPureOrdR2
import Derived.Test.YtgganckggdjpaaaYOrderOf
set_option linter.unusedVariables false
set_option linter.unusedSimpArgs false
namespace Go.Proofs.Ytgganckggdjpaaa
open Go Go.Eng Go.Proofs
/-! ### The document's order -/
def lv (x : List (List Int)) (o b : List Int) (i k : Nat) : Bool := decide ((k : Int) ∈ gd x (i : Int)) && (!decide ((i : Int) ∈ o) && !decide ((i : Int) ∈ b))
def cnt (x : List (List Int)) (o b : List Int) (k : Nat) : Nat := (List.range x.length).countP (fun i => lv x o b i k)
def wt (x : List (List Int)) (o b : List Int) (k : Nat) : Bool := (List.range x.length).any (fun i => lv x o b i k)
def isP (x : List (List Int)) (o b : List Int) (k : Nat) : Bool := !decide ((k : Int) ∈ o) && !wt x o b k
def isQ (o b : List Int) (k : Nat) : Bool := !decide ((k : Int) ∈ o) && !decide ((k : Int) ∈ b)
def nxt (x : List (List Int)) (s : List Int × List Int) : List Int × List Int := match (List.range x.length).find? (isP x s.1 s.2) with
  | some k => (s.1 ++ [(k : Int)], s.2)
  | none => match (List.range x.length).find? (isQ s.1 s.2) with
    | some k => (s.1, s.2 ++ [(k : Int)])
    | none => s
def itr (x : List (List Int)) : Nat → List Int × List Int
  | 0 => ([], [])
  | k + 1 => nxt x (itr x k)
theorem wt_cnt (x : List (List Int)) (o b : List Int) (k : Nat) : wt x o b k = false ↔ cnt x o b k = 0 := by
  unfold wt cnt
  rw [List.any_eq_false, List.countP_eq_zero]
structure Vd (n : Nat) (s : List Int × List Int) : Prop where
  no : s.1.Nodup
  nb : s.2.Nodup
  io : ∀ a ∈ s.1, a ∈ rng n
  ib : ∀ a ∈ s.2, a ∈ rng n
theorem Vd.lo {n : Nat} {s : List Int × List Int} (h : Vd n s) : s.1.length ≤ n := by have := (perm_of s.1 (rng n) h.no h.io).1; rwa [rng_len] at this
theorem Vd.lb {n : Nat} {s : List Int × List Int} (h : Vd n s) : s.2.length ≤ n := by have := (perm_of s.2 (rng n) h.nb h.ib).1; rwa [rng_len] at this
theorem Vd.more {n : Nat} {s : List Int × List Int} (h : Vd n s) (hl : s.1.length < n) : ∃ k : Nat, k < n ∧ (k : Int) ∉ s.1 := by
  apply Classical.byContradiction
  intro hc
  have : ∀ a ∈ rng n, a ∈ s.1 := fun a ha => by
    obtain ⟨k, hk, rfl⟩ := (rng_mem n a).1 ha
    apply Classical.byContradiction
    intro h2
    exact hc ⟨k, hk, h2⟩
  have := (perm_of (rng n) s.1 (rng_nodup n) this).1
  rw [rng_len] at this
  omega
theorem snoc_nodup {l : List Int} {a : Int} (h : l.Nodup) (ha : a ∉ l) : (l ++ [a]).Nodup := by
  rw [List.nodup_append]
  exact ⟨h, by simp, fun x hx y hy => by rw [List.mem_singleton.1 hy]; intro e; subst e; exact ha hx⟩
theorem isP_iff {x : List (List Int)} {o b : List Int} {k : Nat} : isP x o b k = true ↔ (k : Int) ∉ o ∧ cnt x o b k = 0 := by
  unfold isP
  rw [← wt_cnt]
  simp
theorem isQ_iff {o b : List Int} {k : Nat} : isQ o b k = true ↔ (k : Int) ∉ o ∧ (k : Int) ∉ b := by
  unfold isQ
  simp
theorem nxt_P {x : List (List Int)} {o b : List Int} {k : Nat} (hk : k < x.length) (h1 : (k : Int) ∉ o) (h2 : cnt x o b k = 0) (h3 : ∀ j : Nat, j < k → (j : Int) ∉ o → cnt x o b j ≠ 0) : nxt x (o, b) = (o ++ [(k : Int)], b) := by
  have : (List.range x.length).find? (isP x o b) = some k := by
    rw [List.find?_range_eq_some]
    refine ⟨isP_iff.2 ⟨h1, h2⟩, List.mem_range.2 hk, fun j hj => ?_⟩
    cases e : isP x o b j with
    | false => rfl
    | true => have := isP_iff.1 e; exact absurd this.2 (h3 j hj this.1)
  unfold nxt
  simp only [this]
theorem nxt_Q {x : List (List Int)} {o b : List Int} {k : Nat} (hP : ∀ j : Nat, j < x.length → (j : Int) ∉ o → cnt x o b j ≠ 0) (hk : k < x.length) (h1 : (k : Int) ∉ o) (h2 : (k : Int) ∉ b) (h3 : ∀ j : Nat, j < k → (j : Int) ∈ o ∨ (j : Int) ∈ b) : nxt x (o, b) = (o, b ++ [(k : Int)]) := by
  have e1 : (List.range x.length).find? (isP x o b) = none := by
    rw [List.find?_eq_none]
    intro j hj e
    have := isP_iff.1 e
    exact hP j (List.mem_range.1 hj) this.1 this.2
  have e2 : (List.range x.length).find? (isQ o b) = some k := by
    rw [List.find?_range_eq_some]
    refine ⟨isQ_iff.2 ⟨h1, h2⟩, List.mem_range.2 hk, fun j hj => ?_⟩
    cases e : isQ o b j with
    | false => rfl
    | true => have := isQ_iff.1 e; exact ((h3 j hj).elim this.1 this.2).elim
  unfold nxt
  simp only [e1, e2]
theorem cnt_zero {x : List (List Int)} {o b : List Int} (h : ∀ i : Nat, i < x.length → (i : Int) ∈ o ∨ (i : Int) ∈ b) (k : Nat) : cnt x o b k = 0 := by
  unfold cnt
  rw [List.countP_eq_zero]
  intro i hi
  unfold lv
  rcases h i (List.mem_range.1 hi) with h | h <;> simp [h]
/-- What a step does: two ways. -/
theorem nxt_cases (x : List (List Int)) {s : List Int × List Int} (h : Vd x.length s) (hl : s.1.length < x.length) :
    (∃ k : Nat, k < x.length ∧ (k : Int) ∉ s.1 ∧ cnt x s.1 s.2 k = 0 ∧ nxt x s = (s.1 ++ [(k : Int)], s.2)) ∨
    (∃ k : Nat, k < x.length ∧ (k : Int) ∉ s.1 ∧ (k : Int) ∉ s.2 ∧ (∀ j : Nat, j < x.length → (j : Int) ∉ s.1 → cnt x s.1 s.2 j ≠ 0) ∧ nxt x s = (s.1, s.2 ++ [(k : Int)])) := by
  unfold nxt
  cases e1 : (List.range x.length).find? (isP x s.1 s.2) with
  | some k =>
    have h1 := List.find?_some e1
    have h2 := isP_iff.1 h1
    exact .inl ⟨k, List.mem_range.1 (List.mem_of_find?_eq_some e1), h2.1, h2.2, rfl⟩
  | none =>
    rw [List.find?_eq_none] at e1
    have hP : ∀ j : Nat, j < x.length → (j : Int) ∉ s.1 → cnt x s.1 s.2 j ≠ 0 := fun j hj h1 h2 => e1 j (List.mem_range.2 hj) (isP_iff.2 ⟨h1, h2⟩)
    cases e2 : (List.range x.length).find? (isQ s.1 s.2) with
    | some k =>
      have h2 := isQ_iff.1 (List.find?_some e2)
      exact .inr ⟨k, List.mem_range.1 (List.mem_of_find?_eq_some e2), h2.1, h2.2, hP, rfl⟩
    | none =>
      rw [List.find?_eq_none] at e2
      obtain ⟨k, hk, hko⟩ := h.more hl
      refine absurd (cnt_zero (fun i hi => ?_) k) (hP k hk hko)
      apply Classical.byContradiction
      intro hc
      exact e2 i (List.mem_range.2 hi) (isQ_iff.2 ⟨fun h => hc (.inl h), fun h => hc (.inr h)⟩)
theorem nxt_vd (x : List (List Int)) {s : List Int × List Int} (h : Vd x.length s) (hl : s.1.length < x.length) : Vd x.length (nxt x s) ∧ (nxt x s).1.length + (nxt x s).2.length = s.1.length + s.2.length + 1 := by
  rcases nxt_cases x h hl with ⟨k, hk, h1, _, e⟩ | ⟨k, hk, h1, h2, _, e⟩
  · rw [e]
    refine ⟨⟨snoc_nodup h.no h1, h.nb, fun a ha => ?_, h.ib⟩, by simp; omega⟩
    rcases List.mem_append.1 ha with ha | ha
    · exact h.io a ha
    · rw [List.mem_singleton.1 ha]; exact (rng_mem _ _).2 ⟨k, hk, rfl⟩
  · rw [e]
    refine ⟨⟨h.no, snoc_nodup h.nb h2, h.io, fun a ha => ?_⟩, by simp; omega⟩
    rcases List.mem_append.1 ha with ha | ha
    · exact h.ib a ha
    · rw [List.mem_singleton.1 ha]; exact (rng_mem _ _).2 ⟨k, hk, rfl⟩
theorem itr_end (x : List (List Int)) : ∃ N, (itr x N).1.length = x.length ∧ (∀ k, k < N → (itr x k).1.length < x.length) ∧ ∀ k, k ≤ N → Vd x.length (itr x k) := by
  have key : ∀ m k, 2 * x.length - ((itr x k).1.length + (itr x k).2.length) < m → (∀ j, j < k → (itr x j).1.length < x.length) → (∀ j, j ≤ k → Vd x.length (itr x j)) → ∃ N, (itr x N).1.length = x.length ∧ (∀ k, k < N → (itr x k).1.length < x.length) ∧ ∀ k, k ≤ N → Vd x.length (itr x k) := by
    intro m
    induction m with
    | zero => intro k h; omega
    | succ m ih =>
      intro k hm hlt hv
      have hvk := hv k (Nat.le_refl _)
      have h1 := hvk.lo
      by_cases hl : (itr x k).1.length < x.length
      · obtain ⟨hv', hs⟩ := nxt_vd x hvk hl
        have a1 := hv'.lo
        have a2 := hv'.lb
        refine ih (k + 1) ?_ (fun j hj => ?_) (fun j hj => ?_)
        · show 2 * x.length - ((nxt x (itr x k)).1.length + (nxt x (itr x k)).2.length) < m
          omega
        · by_cases e : j = k
          · subst e; exact hl
          · exact hlt j (by omega)
        · by_cases e : j = k + 1
          · subst e; exact hv'
          · exact hv j (by omega)
      · exact ⟨k, by omega, hlt, hv⟩
  exact key _ 0 (Nat.lt_succ_self _) (fun j hj => by omega) (fun j hj => by
    obtain rfl : j = 0 := by omega
    exact ⟨List.nodup_nil, List.nodup_nil, fun a ha => (by cases ha), fun a ha => (by cases ha)⟩)
theorem waits45 (x : List (List Int)) (o b : List Int) (k : Nat) (hR : Rgt x) (hk : k < x.length) (hx : x.length ≤ 40) (hr : ∀ l ∈ x, l.length ≤ 60) (ho : o.length ≤ 1000) (hb : b.length ≤ 1000) : F45.m x o b (k : Int) = some (wt x o b k) := by
  unfold F45.m
  have hself : lv x o b k k = false := by
    unfold lv
    have : ¬ (k : Int) ∈ gd x (k : Int) := fun hm => by
      obtain ⟨j, hj, e⟩ := mem_gd.1 hm
      exact (hR k hk j hj).2.2.1 e
    simp [this]
  obtain ⟨y, hy, hQ⟩ := loop_ends (b := F45.b1 x o b (k : Int)) (fun s => ∃ i : Nat, s = (i : Int) ∧ i ≤ x.length ∧ ∀ j : Nat, j < i → lv x o b j k = false) (fun s => ((x.length : Int) - s).toNat)
    (fun y => (y = .inr () ∧ wt x o b k = false) ∨ (y = .inl true ∧ wt x o b k = true)) (fun s hs => by
      obtain ⟨i, rfl, hi, ha⟩ := hs
      simp only [F45.b1]
      by_cases h : i < x.length
      · rw [if_pos (by omega)]
        have on : lv x o b i k = false → ∃ s, F45.j2 (i : Int) = some s ∧ (∀ x', s = .inl x' → (∃ i : Nat, x' = (i : Int) ∧ i ≤ x.length ∧ ∀ j : Nat, j < i → lv x o b j k = false) ∧ ((x.length : Int) - x').toNat < ((x.length : Int) - (i : Int)).toNat) ∧ (∀ y, s = .inr y → (y = .inr () ∧ wt x o b k = false) ∨ (y = .inl true ∧ wt x o b k = true)) := fun hc => by
          simp only [F45.j2]
          rw [w64 (by omega) (by omega)]
          exact on_ (I := fun s : Int => ∃ i : Nat, s = (i : Int) ∧ i ≤ x.length ∧ ∀ j : Nat, j < i → lv x o b j k = false) (m := fun s => ((x.length : Int) - s).toNat) (x := (i : Int)) ⟨i + 1, rfl, by omega, fun j hj => by
            by_cases e : j = i
            · subst e; exact hc
            · exact ha j (by omega)⟩ (by omega)
        by_cases c0 : i = k
        · rw [if_pos (by omega)]; exact on (by rw [c0]; exact hself)
        rw [if_neg (by omega), if_pos (by omega), has44 _ _ (by have := hr _ (gd_mem x i h); omega), Option.bind_some]
        by_cases c1 : (k : Int) ∈ gd x (i : Int)
        · rw [if_pos (by simpa using c1), has44 _ _ (by omega), Option.bind_some]
          by_cases c2 : (i : Int) ∈ o
          · rw [if_pos (by simpa using c2)]; exact on (by unfold lv; simp [c2])
          rw [if_neg (by simpa using c2), has44 _ _ (by omega), Option.bind_some]
          by_cases c3 : (i : Int) ∈ b
          · rw [if_pos (by simpa using c3)]; exact on (by unfold lv; simp [c3])
          rw [if_neg (by simpa using c3)]
          refine out_ (x := (i : Int)) (.inr ⟨rfl, ?_⟩)
          unfold wt
          rw [List.any_eq_true]
          exact ⟨i, List.mem_range.2 h, by unfold lv; simp [c1, c2, c3]⟩
        · rw [if_neg (by simpa using c1)]; exact on (by unfold lv; simp [c1])
      · rw [if_neg (by omega)]
        refine out_ (x := (i : Int)) (.inl ⟨rfl, ?_⟩)
        unfold wt
        rw [List.any_eq_false]
        intro j hj
        rw [ha j (by have := List.mem_range.1 hj; omega)]
        simp) 0 ⟨0, rfl, by omega, fun j hj => by omega⟩
  rw [hy]
  rcases hQ with ⟨rfl, h⟩ | ⟨rfl, h⟩
  · rw [h]; rfl
  · rw [h]; rfl
def enc (q : Option Nat) : Int := match q with | none => -1 | some j => (j : Int)
def fk (p : Nat → Bool) (k : Nat) : Int := enc ((List.range k).find? p)
theorem fk_succ (p : Nat → Bool) (k : Nat) : fk p (k + 1) = if fk p k < 0 then (if p k then (k : Int) else -1) else fk p k := by
  unfold fk
  rw [List.range_succ, List.find?_append]
  have e : List.find? p [k] = if p k = true then some k else none := by
    cases h : p k <;> simp [List.find?, h]
  rw [e]
  cases (List.range k).find? p with
  | some j =>
    show (j : Int) = if (j : Int) < 0 then _ else (j : Int)
    rw [if_neg (show ¬ (j : Int) < 0 by omega)]
  | none =>
    show enc (if p k = true then some k else none) = if (-1 : Int) < 0 then (if p k = true then (k : Int) else -1) else -1
    rw [if_pos (show (-1 : Int) < 0 by omega)]
    split <;> rfl
theorem step16 (x : List (List Int)) (o b : List Int) (hR : Rgt x) (hx : x.length ≤ 40) (hr : ∀ l ∈ x, l.length ≤ 60) (ho : o.length ≤ 1000) (hb : b.length ≤ 1000) :
    loop (F16.b2 x o b) (-1, -1, 0) = some (fk (isP x o b) x.length, fk (isQ o b) x.length) := by
  refine loop_done (x := ((-1 : Int), (-1 : Int), (0 : Int))) (fun k => (fk (isP x o b) k, fk (isQ o b) k, (k : Int))) x.length _ (fun k hk => ?_) ?_ rfl
  · simp only [F16.b2]
    rw [if_pos (by omega), has44 _ _ (by omega), Option.bind_some, fk_succ, fk_succ]
    by_cases c1 : (k : Int) ∈ o
    · have e1 : isP x o b k = false := by unfold isP; simp [c1]
      have e2 : isQ o b k = false := by unfold isQ; simp [c1]
      rw [if_pos (by simpa using c1), e1, e2]
      simp only [F16.j5]
      rw [w64 (by omega) (by omega)]
      have q1 : ∀ v : Int, (v = -1 ∨ 0 ≤ v) → (if v < 0 then (if false = true then (k : Int) else -1) else v) = v := fun v hv => by
        split
        · simp; omega
        · rfl
      have r1 : ∀ p, fk p k = -1 ∨ 0 ≤ fk p k := fun p => by unfold fk enc; split <;> omega
      rw [q1 _ (r1 _), q1 _ (r1 _)]
      rfl
    rw [if_neg (by simpa using c1), waits45 x o b k hR hk hx hr ho hb]
    have r1 : ∀ p, fk p k = -1 ∨ 0 ≤ fk p k := fun p => by unfold fk enc; split <;> omega
    have eP : isP x o b k = !wt x o b k := by unfold isP; simp [c1]
    have eQ : isQ o b k = !decide ((k : Int) ∈ b) := by unfold isQ; simp [c1]
    have key : ∀ v : Int, F16.j6 b (fk (isQ o b) k) (k : Int) v = some (.inl (v, (if fk (isQ o b) k < 0 then (if isQ o b k = true then (k : Int) else -1) else fk (isQ o b) k), ((k + 1 : Nat) : Int))) := fun v => by
      simp only [F16.j6]
      by_cases c2 : fk (isQ o b) k < 0
      · rw [if_pos c2, if_pos c2, has44 _ _ (by omega), Option.bind_some, eQ]
        by_cases c3 : (k : Int) ∈ b
        · rw [if_pos (by simpa using c3)]
          simp only [F16.j7, F16.j5]
          rw [w64 (by omega) (by omega), if_neg (by simpa using c3)]
          have := r1 (isQ o b)
          rw [show fk (isQ o b) k = -1 by omega]
          rfl
        · rw [if_neg (by simpa using c3)]
          simp only [F16.j7, F16.j5]
          rw [w64 (by omega) (by omega), if_pos (by simpa using c3)]
          rfl
      · rw [if_neg c2, if_neg c2]
        simp only [F16.j5]
        rw [w64 (by omega) (by omega)]
        rfl
    by_cases c2 : fk (isP x o b) k < 0
    · rw [if_pos c2, if_pos c2, Option.bind_some, eP]
      have := r1 (isP x o b)
      cases hw : wt x o b k with
      | true =>
        rw [if_pos rfl, key, show fk (isP x o b) k = -1 by omega]
        rfl
      | false =>
        rw [if_neg (by simp), key]
        rfl
    · rw [if_neg c2, if_neg c2]
      by_cases c3 : fk (isQ o b) k < 0
      · rw [if_pos c3, if_pos c3, has44 _ _ (by omega), Option.bind_some, eQ]
        by_cases c4 : (k : Int) ∈ b
        · rw [if_pos (by simpa using c4)]
          simp only [F16.j8, F16.j5]
          rw [w64 (by omega) (by omega), if_neg (by simpa using c4)]
          have := r1 (isQ o b)
          rw [show fk (isQ o b) k = -1 by omega]
          rfl
        · rw [if_neg (by simpa using c4)]
          simp only [F16.j8, F16.j5]
          rw [w64 (by omega) (by omega), if_pos (by simpa using c4)]
          rfl
      · rw [if_neg c3, if_neg c3]
        simp only [F16.j5]
        rw [w64 (by omega) (by omega)]
        rfl
  · simp only [F16.b2]
    rw [if_neg (by omega)]
theorem of16 (x : List (List Int)) (hR : Rgt x) (hx : x.length ≤ 40) (hr : ∀ l ∈ x, l.length ≤ 60) (N : Nat) (h1 : (itr x N).1.length = x.length) (h2 : ∀ k, k < N → (itr x k).1.length < x.length) (h3 : ∀ k, k ≤ N → Vd x.length (itr x k)) : F16.m x = some (itr x N) := by
  unfold F16.m
  rw [loop_done (b := F16.b1 x) (x := (([] : List Int), ([] : List Int))) (itr x) N (itr x N) (fun k hk => ?_) ?_ rfl]
  · rfl
  · generalize itr x N = s at h1 ⊢
    obtain ⟨o, b⟩ := s
    simp only at h1
    simp only [F16.b1]
    rw [if_neg (by omega)]
  · have hv := h3 k (by omega)
    have hl := h2 k hk
    have hlo := hv.lo
    have hlb := hv.lb
    show F16.b1 x (itr x k) = some (.inl (nxt x (itr x k)))
    generalize itr x k = s at hv hl hlo hlb ⊢
    obtain ⟨o, b⟩ := s
    simp only at hl hlo hlb
    simp only [F16.b1]
    rw [if_pos (by omega), step16 x o b hR hx hr (by omega) (by omega), Option.bind_some]
    simp only [F16.j3, F16.j4, F16.j2]
    have hc := nxt_cases x hv hl
    unfold nxt at hc ⊢
    simp only at hc ⊢
    cases e1 : (List.range x.length).find? (isP x o b) with
    | some j =>
      have : fk (isP x o b) x.length = (j : Int) := by unfold fk; rw [e1]; rfl
      rw [this, if_pos (by omega), if_pos (by simp; omega)]
    | none =>
      have : fk (isP x o b) x.length = -1 := by unfold fk; rw [e1]; rfl
      rw [this, if_neg (by omega), if_pos (by simp; omega)]
      simp only [e1] at hc
      cases e2 : (List.range x.length).find? (isQ o b) with
      | some j =>
        have : fk (isQ o b) x.length = (j : Int) := by unfold fk; rw [e2]; rfl
        rw [this]
      | none =>
        simp only [e2] at hc
        rcases hc with ⟨j, _, _, _, e⟩ | ⟨j, _, _, _, _, e⟩
        · have := congrArg (fun s => s.1.length) e; simp at this
        · have := congrArg (fun s => s.2.length) e; simp at this
end Go.Proofs.Ytgganckggdjpaaa
