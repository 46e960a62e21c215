/- What DelP needs. -/
import Derived.Test.YtedokgdilpfomaaPureDelK
import Derived.Test.YtedokgdilpfomaaPureMatL
import Derived.Test.YtedokgdilpfomaaDel
set_option linter.unusedVariables false
set_option linter.unusedSimpArgs false
namespace Go.Proofs.Ytedokgdilpfomaa
open Go Go.Eng Go.Proofs
/-! ### What plans make -/
structure Mkb (old : List Int) (l : List Stp) (x : List Int) : Prop where
  ok : ∀ s ∈ l, rt s = true
  tot : tot l = (x.length : Int)
  ev : ∀ acc, evs old l acc = (acc ++ x, 0)
theorem mk_nil (old : List Int) : Mkb old [] [] := ⟨by simp, by simp [Ytedokgdilpfomaa.tot], fun acc => by simp [evs]⟩
theorem mk_app {old : List Int} {l1 l2 : List Stp} {x1 x2 : List Int} (h1 : Mkb old l1 x1) (h2 : Mkb old l2 x2) : Mkb old (l1 ++ l2) (x1 ++ x2) := by
  refine ⟨fun s hs => (List.mem_append.1 hs).elim (h1.ok s) (h2.ok s), ?_, fun acc => ?_⟩
  · have a := h1.tot
    have c := h2.tot
    simp only [Ytedokgdilpfomaa.tot, List.map_append, List.sum_append, List.length_append] at a c ⊢
    omega
  · have key : ∀ (l1 : List Stp) (acc r : List Int), evs old l1 acc = (r, 0) → evs old (l1 ++ l2) acc = evs old l2 r := by
      intro l1
      induction l1 with
      | nil => intro acc r h; simp only [evs, Prod.mk.injEq] at h; rw [List.nil_append, h.1]
      | cons s l1 ih =>
        intro acc r h
        rw [List.cons_append]
        simp only [evs] at h ⊢
        by_cases c1 : s.1 = 1
        · rw [if_pos c1] at h ⊢; exact ih _ _ h
        · rw [if_neg c1] at h ⊢
          by_cases c2 : (old.length : Int) < s.2.1
          · rw [if_pos c2] at h; simp at h
          · rw [if_neg c2] at h ⊢
            by_cases c3 : (old.length : Int) - s.2.1 < s.2.2.1
            · rw [if_pos c3] at h; simp at h
            · rw [if_neg c3] at h ⊢; exact ih _ _ h
    rw [key l1 acc _ (h1.ev acc), h2.ev, List.append_assoc]
theorem mk_len {old : List Int} {l : List Stp} {x : List Int} (h : Mkb old l x) : l.length ≤ x.length := by
  have h1 : (l.length : Int) ≤ tot l := by
    have hok := h.ok
    clear h
    induction l with
    | nil => simp [tot]
    | cons s l ih =>
      have a := ih (fun t ht => hok t (by simp [ht]))
      have c := rt_in (hok s (by simp))
      have e : tot (s :: l) = s.2.2.1 + tot l := by simp [tot]
      rw [e, List.length_cons]
      omega
  have := h.tot
  omega
theorem lit40 (b : List Int) (hb : b.length ≤ 4096) : F40.m b = some (if b.length = 0 then [] else [((1 : Int), (0 : Int), (b.length : Int), b)]) := by
  unfold F40.m
  by_cases h : b.length = 0
  · rw [if_pos (by omega), if_pos h]
  · rw [if_neg (by omega), if_neg (by omega), if_neg h]
    unfold F60.m
    rw [if_pos (by simp; omega)]
    rfl
theorem mk_lit (old b : List Int) (hb : b.length ≤ 4096) : Mkb old (if b.length = 0 then [] else [((1 : Int), (0 : Int), (b.length : Int), b)]) b := by
  by_cases h : b.length = 0
  · rw [if_pos h, List.eq_nil_of_length_eq_zero h]; exact mk_nil old
  · rw [if_neg h]
    refine ⟨fun s hs => ?_, by simp [tot], fun acc => by simp [evs]⟩
    rw [List.mem_singleton.1 hs]
    unfold rt
    exact decide_eq_true ⟨show (1 : Int) ≤ (b.length : Int) by omega, show (b.length : Int) ≤ 4096 by omega, show (0 : Int) ≤ 0 by omega, show (0 : Int) ≤ 2147483647 by omega, .inl ⟨rfl, rfl, rfl⟩⟩
theorem u8_sub (a c : Int) (ha : 0 ≤ a ∧ a ≤ 255) (hc : 0 ≤ c ∧ c ≤ 255) : IntKind.wrap .u8 (c + IntKind.wrap .u8 (a - c)) = a ∧ (IntKind.wrap .u8 (a - c) = 0 → a = c) ∧ 0 ≤ IntKind.wrap .u8 (a - c) ∧ IntKind.wrap .u8 (a - c) ≤ 255 := by
  simp [IntKind.wrap, IntKind.bits, IntKind.signed]
  omega
theorem step70 (old x : List Int) (at_ : Nat) (hx : 1 ≤ x.length ∧ x.length ≤ 4096) (ha : at_ + x.length ≤ old.length) (ho : old.length ≤ 5000) (hou : ∀ y ∈ old, 0 ≤ y ∧ y ≤ 255) (hxu : ∀ y ∈ x, 0 ≤ y ∧ y ≤ 255) :
    ∃ k d, F70.m old x (at_ : Int) = some (k, (x.length : Int), d) ∧ Mkb old [(k, (at_ : Int), (x.length : Int), d)] x := by
  have hog : ∀ j : Nat, j < x.length → 0 ≤ gd old ((at_ + j : Nat) : Int) ∧ gd old ((at_ + j : Nat) : Int) ≤ 255 := fun j hj => hou _ (gd_mem old (at_ + j) (by omega))
  have hxg : ∀ j : Nat, j < x.length → 0 ≤ gd x (j : Int) ∧ gd x (j : Int) ≤ 255 := fun j hj => hxu _ (gd_mem x j hj)
  unfold F70.m
  rw [if_pos (by omega), Int.toNat_natCast]
  obtain ⟨y, hy, hQl, hQd, hQ⟩ := loop_ends (b := F70.b1 old x (at_ : Int)) (fun s => ∃ k : Nat, s.2.2 = (k : Int) ∧ k ≤ x.length ∧ s.2.1.length = x.length ∧ (∀ j : Nat, j < k → gd s.2.1 (j : Int) = IntKind.wrap .u8 (gd x (j : Int) - gd old ((at_ + j : Nat) : Int))) ∧ ((s.1 = 2 ∧ ∀ j : Nat, j < k → gd s.2.1 (j : Int) = 0) ∨ s.1 = 3)) (fun s => ((x.length : Int) - s.2.2).toNat)
    (fun y => y.2.length = x.length ∧ (∀ j : Nat, j < x.length → gd y.2 (j : Int) = IntKind.wrap .u8 (gd x (j : Int) - gd old ((at_ + j : Nat) : Int))) ∧ ((y.1 = 2 ∧ ∀ j : Nat, j < x.length → gd y.2 (j : Int) = 0) ∨ y.1 = 3)) (fun s hs => by
      obtain ⟨kd, d, k⟩ := s
      obtain ⟨k, rfl, h1, h2, h3, h4⟩ := hs
      simp only at h2 h3 h4
      simp only [F70.b1]
      rw [Int.toNat_natCast, List.length_replicate]
      by_cases hk : k < x.length
      · rw [if_pos (by omega), if_pos (by omega), w64 (n := (at_ : Int) + (k : Int)) (by omega) (by omega), if_pos (by omega), if_pos (by omega), Int.toNat_natCast, List.length_set, if_pos (by omega), gd_set _ _ _ _ (by omega), if_pos rfl, show (at_ : Int) + (k : Int) = ((at_ + k : Nat) : Int) by omega]
        have fin : ∀ v : Int, ((v = 2 ∧ kd = 2 ∧ IntKind.wrap .u8 (gd x (k : Int) - gd old ((at_ + k : Nat) : Int)) = 0) ∨ v = 3) → ∃ s', F70.j3 old x (at_ : Int) d (k : Int) v = some s' ∧ (∀ x', s' = .inl x' → (∃ k : Nat, x'.2.2 = (k : Int) ∧ k ≤ x.length ∧ x'.2.1.length = x.length ∧ (∀ j : Nat, j < k → gd x'.2.1 (j : Int) = IntKind.wrap .u8 (gd x (j : Int) - gd old ((at_ + j : Nat) : Int))) ∧ ((x'.1 = 2 ∧ ∀ j : Nat, j < k → gd x'.2.1 (j : Int) = 0) ∨ x'.1 = 3)) ∧ ((x.length : Int) - x'.2.2).toNat < ((x.length : Int) - (k : Int)).toNat) ∧
            (∀ y, s' = .inr y → y.2.length = x.length ∧ (∀ j : Nat, j < x.length → gd y.2 (j : Int) = IntKind.wrap .u8 (gd x (j : Int) - gd old ((at_ + j : Nat) : Int))) ∧ ((y.1 = 2 ∧ ∀ j : Nat, j < x.length → gd y.2 (j : Int) = 0) ∨ y.1 = 3)) := by
          intro v hv
          simp only [F70.j3]
          rw [w64 (n := (at_ : Int) + (k : Int)) (by omega) (by omega), Int.toNat_natCast, w64 (by omega) (by omega), show (at_ : Int) + (k : Int) = ((at_ + k : Nat) : Int) by omega]
          refine ⟨_, rfl, fun x' e => ?_, fun y e => by cases e⟩
          cases e
          have hset : ∀ j : Nat, j < k + 1 → gd (d.set k (IntKind.wrap .u8 (gd x (k : Int) - gd old ((at_ + k : Nat) : Int)))) (j : Int) = IntKind.wrap .u8 (gd x (j : Int) - gd old ((at_ + j : Nat) : Int)) := fun j hj => by
            rw [gd_set _ _ _ _ (by omega)]
            by_cases e : k = j
            · subst e; rw [if_pos rfl]
            · rw [if_neg e]; exact h3 j (by omega)
          refine ⟨⟨k + 1, rfl, by omega, by simp [h2], hset, ?_⟩, by simp only; omega⟩
          rcases hv with ⟨rfl, e1, e2⟩ | rfl
          · refine .inl ⟨rfl, fun j hj => ?_⟩
            simp only
            rw [hset j hj]
            by_cases e : j = k
            · rw [e]; exact e2
            · rw [← h3 j (by omega)]
              rcases h4 with ⟨_, h⟩ | h
              · exact h j (by omega)
              · omega
          · exact .inr rfl
        by_cases hz : IntKind.wrap .u8 (gd x (k : Int) - gd old ((at_ + k : Nat) : Int)) = 0
        · rw [if_pos hz]
          exact fin kd (h4.elim (fun h => .inl ⟨h.1, h.1, hz⟩) .inr)
        · rw [if_neg hz]
          exact fin 3 (.inr rfl)
      · rw [if_neg (by omega)]
        have : k = x.length := by omega
        subst this
        exact out_ (x := (kd, d, ((x.length : Nat) : Int))) ⟨h2, h3, h4⟩) (2, List.replicate x.length 0, 0) ⟨0, rfl, by omega, by simp, fun j hj => by omega, .inl ⟨rfl, fun j hj => by omega⟩⟩
  obtain ⟨kd, d⟩ := y
  simp only at hQl hQd hQ
  rw [hy, Option.bind_some]
  simp only [F70.j1, F70.j2]
  have fin : ∀ (k : Int) (d' : List Int), ((k = 2 ∧ d' = [] ∧ ∀ j : Nat, j < x.length → gd old ((at_ + j : Nat) : Int) = gd x (j : Int)) ∨ (k = 3 ∧ d' = d)) → Mkb old [(k, (at_ : Int), (x.length : Int), d')] x := by
    intro k d' h
    have hpc : pc old (k, (at_ : Int), (x.length : Int), d') = x := by
      have hl := pc_len old (k, (at_ : Int), (x.length : Int), d')
      simp only [Int.toNat_natCast] at hl
      refine ext_gd hl (fun j hj => ?_)
      rw [hl] at hj
      rw [pc_at _ _ _ (by simp only [Int.toNat_natCast]; exact hj)]
      simp only [Int.toNat_natCast]
      rcases h with ⟨rfl, rfl, h⟩ | ⟨rfl, rfl⟩
      · rw [if_neg (by omega)]; exact h j hj
      · rw [if_pos rfl, hQd j hj]
        exact (u8_sub _ _ (hxg j hj) (hog j hj)).1
    refine ⟨fun s hs => ?_, by simp [tot], fun acc => ?_⟩
    · rw [List.mem_singleton.1 hs]
      unfold rt
      refine decide_eq_true ⟨show (1 : Int) ≤ (x.length : Int) by omega, show (x.length : Int) ≤ 4096 by omega, show (0 : Int) ≤ (at_ : Int) by omega, show (at_ : Int) ≤ 2147483647 by omega, ?_⟩
      rcases h with ⟨rfl, rfl, h⟩ | ⟨rfl, rfl⟩
      · exact .inr (.inl ⟨rfl, rfl⟩)
      · exact .inr (.inr ⟨rfl, show (d'.length : Int) = (x.length : Int) by omega⟩)
    · simp only [evs]
      rw [if_neg (by rcases h with ⟨rfl, _⟩ | ⟨rfl, _⟩ <;> omega), if_neg (by omega), if_neg (by omega), hpc]
  by_cases hk : kd = 3
  · rw [if_pos hk]
    exact ⟨kd, d, rfl, fin kd d (.inr ⟨hk, rfl⟩)⟩
  · rw [if_neg hk]
    refine ⟨kd, [], rfl, fin kd [] (.inl ⟨by omega, rfl, fun j hj => ?_⟩)⟩
    rcases hQ with ⟨_, h⟩ | h
    · have := h j hj
      rw [hQd j hj] at this
      exact ((u8_sub _ _ (hxg j hj) (hog j hj)).2.1 this).symm
    · exact absurd h hk
theorem subL_app {α : Type} [Inhabited α] (l : List α) (a c d : Nat) (h : a ≤ c ∧ c ≤ d ∧ d ≤ l.length) : subL l (a : Int) (c : Int) ++ subL l (c : Int) (d : Int) = subL l (a : Int) (d : Int) := by
  have h1 := subL_len l a c (by omega)
  have h2 := subL_len l c d (by omega)
  have h3 := subL_len l a d (by omega)
  refine ext_gd (by rw [List.length_append]; omega) (fun k hk => ?_)
  rw [List.length_append] at hk
  rw [subL_at l a d k (by omega)]
  by_cases e : k < c - a
  · rw [gd_append_left _ _ _ (by omega), subL_at l a c k e]
  · rw [gd_append_right _ _ _ (by omega), subL_at l c d _ (by omega)]
    congr 1
    omega
theorem subL_mem {α : Type} {l : List α} {a c : Int} {x : α} (h : x ∈ subL l a c) : x ∈ l := by
  unfold subL at h
  exact List.mem_of_mem_drop (List.mem_of_mem_take h)
/-- A piece that is there in both images. -/
def Val (old new : List Int) (t : Int × Int × Int) : Prop := ∃ N O L : Nat, t = ((N : Int), (O : Int), (L : Int)) ∧ N + L ≤ new.length ∧ O + L ≤ old.length
theorem one59 (old new : List Int) (ps : List (Int × Int × Int)) (fr to : Nat) (ho : old.length ≤ 5000) (hn : new.length ≤ 5000) (hou : ∀ y ∈ old, 0 ≤ y ∧ y ≤ 255) (hnu : ∀ y ∈ new, 0 ≤ y ∧ y ≤ 255) (hp : ∀ t ∈ ps, Val old new t) (hpl : ps.length ≤ 100000) (hft : fr ≤ to) (hto : to ≤ new.length) (hb : to - fr ≤ 4096) :
    ∃ l, F59.m old new ps (fr : Int) (to : Int) = some l ∧ Mkb old l (subL new (fr : Int) (to : Int)) ∧ (put l).length ≤ to - fr + 12 := by
  have hsl : ∀ a c : Nat, a ≤ c → c ≤ new.length → (subL new (a : Int) (c : Int)).length = c - a := fun a c h1 h2 => subL_len new a c ⟨h1, h2⟩
  unfold F59.m
  obtain ⟨y, hy, hQ⟩ := loop_ends (b := F59.b1 old new ps (to : Int)) (fun x => ∃ (l : List Stp) (a k : Nat), x = (l, (a : Int), (k : Int)) ∧ k ≤ ps.length ∧ fr ≤ a ∧ a ≤ to ∧ Mkb old l (subL new (fr : Int) (a : Int))) (fun x => ((ps.length : Int) - x.2.2).toNat)
    (fun y => ∃ (l : List Stp) (a : Nat), y = (l, (a : Int)) ∧ fr ≤ a ∧ a ≤ to ∧ Mkb old l (subL new (fr : Int) (a : Int))) (fun x hx => by
      obtain ⟨l, a, k, rfl, h1, h2, h3, h4⟩ := hx
      have hll := mk_len h4
      rw [hsl fr a h2 (by omega)] at hll
      simp only [F59.b1]
      by_cases hk : k < ps.length
      · obtain ⟨N, O, L, e, hv1, hv2⟩ := hp _ (gd_mem ps k hk)
        rw [e]
        simp only
        rw [w64 (n := (N : Int) + (L : Int)) (by omega) (by omega), show (N : Int) + (L : Int) = ((N + L : Nat) : Int) by omega, minN, maxN]
        rw [if_pos (by omega), if_pos (by omega)]
        have hlo : max a N = a ∨ max a N = N := by omega
        have hhi : min to (N + L) ≤ to ∧ min to (N + L) ≤ N + L := by omega
        have hlo2 : a ≤ max a N ∧ N ≤ max a N := by omega
        generalize max a N = lo at hlo hlo2 ⊢
        generalize min to (N + L) = hi at hhi ⊢
        by_cases c : (hi : Int) ≤ (lo : Int)
        · rw [if_pos c]
          simp only [F59.j2]
          rw [w64 (by omega) (by omega)]
          exact on_ (x := (l, (a : Int), (k : Int))) ⟨l, a, k + 1, rfl, by omega, h2, h3, h4⟩ (by simp only; omega)
        · have c1 := hsl a lo hlo2.1 (by omega)
          have c2 := hsl lo hi (by omega) (by omega)
          rw [if_neg c, if_pos (by omega), lit40 _ (by omega), Option.bind_some]
          have m1 := mk_lit old (subL new (a : Int) (lo : Int)) (by omega)
          generalize (if (subL new (a : Int) (lo : Int)).length = 0 then [] else [((1 : Int), (0 : Int), ((subL new (a : Int) (lo : Int)).length : Int), subL new (a : Int) (lo : Int))]) = l1 at m1 ⊢
          have m1l := mk_len m1
          rw [if_pos (by omega), if_pos (by omega), w64 (n := (O : Int) + (lo : Int)) (by omega) (by omega), w64 (n := (O : Int) + (lo : Int) - (N : Int)) (by omega) (by omega), show (O : Int) + (lo : Int) - (N : Int) = ((O + lo - N : Nat) : Int) by omega]
          obtain ⟨kd, d, e70, m2⟩ := step70 old (subL new (lo : Int) (hi : Int)) (O + lo - N) (by omega) (by omega) ho hou (fun y hy => hnu y (subL_mem hy))
          rw [e70, Option.bind_some, if_pos (by simp; omega)]
          simp only [F59.j2]
          rw [w64 (by omega) (by omega)]
          refine on_ (x := (l, (a : Int), (k : Int))) ⟨_, hi, k + 1, rfl, by omega, by omega, hhi.1, ?_⟩ (by simp only; omega)
          have := mk_app (mk_app h4 m1) m2
          rw [subL_app new fr a lo (by omega), subL_app new fr lo hi (by omega)] at this
          exact this
      · rw [if_neg (by omega)]
        exact out_ (x := (l, (a : Int), (k : Int))) ⟨l, a, rfl, h2, h3, h4⟩) ([], (fr : Int), 0) ⟨[], fr, 0, rfl, by omega, Nat.le_refl _, hft, by
          have e : subL new (fr : Int) (fr : Int) = [] := List.eq_nil_of_length_eq_zero (by rw [hsl fr fr (Nat.le_refl _) (by omega)]; omega)
          rw [e]; exact mk_nil old⟩
  obtain ⟨l, a, rfl, h1, h2, h3⟩ := hQ
  rw [hy, Option.bind_some]
  simp only [F59.j1]
  have c1 := hsl a to h2 hto
  have c2 := hsl fr to hft hto
  rw [if_pos (by omega), lit40 _ (by omega), Option.bind_some]
  have m1 := mk_lit old (subL new (a : Int) (to : Int)) (by omega)
  generalize (if (subL new (a : Int) (to : Int)).length = 0 then [] else [((1 : Int), (0 : Int), ((subL new (a : Int) (to : Int)).length : Int), subL new (a : Int) (to : Int))]) = l1 at m1 ⊢
  have m2 := mk_app h3 m1
  rw [subL_app new fr a to (by omega)] at m2
  have m2l := mk_len m2
  rw [List.length_append] at m2l
  rw [if_pos (by omega)]
  unfold F26.m
  rw [put22 _ (by rw [List.length_append]; omega), Option.bind_some, if_pos m2.ok]
  simp only [if_true]
  rw [Option.bind_some, w64 (n := (to : Int) - (fr : Int)) (by omega) (by omega), w64 (n := (to : Int) - (fr : Int) + 12) (by omega) (by omega)]
  by_cases c : (to : Int) - (fr : Int) + 12 < ((put (l ++ l1)).length : Int)
  · rw [if_pos c, if_pos (by omega), lit40 _ (by omega), Option.bind_some]
    refine ⟨_, rfl, mk_lit old _ (by omega), ?_⟩
    by_cases h0 : (subL new (fr : Int) (to : Int)).length = 0
    · rw [if_pos h0]; simp [put]
    · rw [if_neg h0, c2]
      have := num_len 1 (to - fr) (by omega)
      simp only [put, List.flatMap_cons, List.flatMap_nil, List.append_nil, pst, if_true, List.nil_append, List.length_cons, List.length_append, Int.toNat_natCast, c2]
      omega
  · rw [if_neg c]
    exact ⟨_, rfl, m2, by omega⟩
/-! ### Blocks -/
def bk (n b : Nat) : Nat := if n = 0 ∨ b = 0 then 0 else (n - 1) / b + 1
theorem blocks39 (n b : Int) (hn : n ≤ 9223372036854775807) (hb : b ≤ 9223372036854775807) : F39.m n b = some ((bk n.toNat b.toNat : Nat) : Int) := by
  unfold F39.m bk
  by_cases h1 : n < 1
  · rw [if_pos h1, if_pos (.inl (by omega))]; rfl
  rw [if_neg h1]
  by_cases h2 : b < 1
  · rw [if_pos h2, if_pos (.inr (by omega))]; rfl
  rw [if_neg h2, if_pos (by omega), if_neg (by omega)]
  obtain ⟨n, rfl⟩ := nat_of (show 0 ≤ n by omega)
  obtain ⟨b, rfl⟩ := nat_of (show 0 ≤ b by omega)
  have hd : (n - 1) / b ≤ n - 1 := Nat.div_le_self _ _
  rw [w64 (n := (n : Int) - 1) (by omega) (by omega), show (n : Int) - 1 = ((n - 1 : Nat) : Int) by omega, tdiv_nat, Int.toNat_natCast, Int.toNat_natCast]
  generalize (n - 1) / b = q at hd ⊢
  rw [w64 (n := (q : Int)) (by omega) (by omega), w64 (by omega) (by omega)]
  rfl
theorem bk_lt {n b i : Nat} (h : i < bk n b) : i * b < n ∧ 0 < b ∧ 0 < n := by
  unfold bk at h
  by_cases c : n = 0 ∨ b = 0
  · rw [if_pos c] at h; omega
  · rw [if_neg c] at h
    have h1 : i * b ≤ (n - 1) / b * b := Nat.mul_le_mul_right b (by omega)
    have h2 := Nat.div_mul_le_self (n - 1) b
    omega
theorem bk_ge {n b i : Nat} (h : bk n b ≤ i) (hb : 0 < b) : n ≤ i * b := by
  unfold bk at h
  by_cases c : n = 0 ∨ b = 0
  · omega
  · rw [if_neg c] at h
    have h1 : ((n - 1) / b + 1) * b ≤ i * b := Nat.mul_le_mul_right b h
    have h2 := Nat.lt_div_mul_add (a := n - 1) hb
    rw [Nat.add_mul] at h1
    omega
theorem dropw (new : List Int) (old : List Int) (d : Int) (b : Int) (fr : Nat) (hfr : IntKind.wrap .i64 (d * b) = (fr : Int)) (ps : List (Int × Int × Int)) (hn : new.length ≤ 5000) (hp : ∀ t ∈ ps, Val old new t) (hl : ps.length ≤ 100000) :
    ∃ ps', loop (F35_1.b2 b d) ps = some ps' ∧ (∀ t ∈ ps', Val old new t) ∧ ps'.length ≤ 100000 := by
  refine loop_ends (b := F35_1.b2 b d) (fun q => (∀ t ∈ q, Val old new t) ∧ q.length ≤ 100000) (fun q => q.length) (fun q => (∀ t ∈ q, Val old new t) ∧ q.length ≤ 100000) (fun q hq => ?_) ps ⟨hp, hl⟩
  obtain ⟨h1, h2⟩ := hq
  simp only [F35_1.b2]
  cases q with
  | nil => rw [if_neg (by simp)]; exact out_ (x := []) ⟨h1, h2⟩
  | cons t q =>
    obtain ⟨N, O, L, e, hv1, hv2⟩ := h1 t (by simp)
    have hg : gd (t :: q) 0 = t := rfl
    have hls : (t :: q).length = q.length + 1 := rfl
    rw [hls, if_pos (by omega), if_pos (by omega), hg, e]
    simp only
    rw [hfr, w64 (n := (N : Int) + (L : Int)) (by omega) (by omega)]
    by_cases c : (N : Int) + (L : Int) ≤ (fr : Int)
    · rw [if_pos c, if_pos (by omega)]
      have es : subL (((N : Int), (O : Int), (L : Int)) :: q) 1 ((q.length + 1 : Nat) : Int) = q := by
        unfold subL
        rw [Int.toNat_natCast]
        simp
      rw [es]
      refine on_ (x := ((N : Int), (O : Int), (L : Int)) :: q) ⟨fun u hu => h1 u (by simp [hu]), by simp at h2; omega⟩ (by simp)
    · rw [if_neg c]
      rw [e] at h1 h2
      exact out_ (x := ((N : Int), (O : Int), (L : Int)) :: q) ⟨h1, h2⟩
theorem plans_is (old new : List Int) (b : Nat) (hb : 128 ≤ b ∧ b ≤ 4096) (ho : old.length ≤ 5000) (hn : new.length ≤ 5000) (hou : ∀ y ∈ old, 0 ≤ y ∧ y ≤ 255) (hnu : ∀ y ∈ new, 0 ≤ y ∧ y ≤ 255) :
    ∃ pl : List (List Stp), F35_1.m old new (b : Int) = some (pl, 0) ∧ pl.length = bk new.length b ∧ ∀ i : Nat, i < pl.length → Mkb old (gd pl (i : Int)) (subL new ((i * b : Nat) : Int) ((min new.length (i * b + b) : Nat) : Int)) ∧ (put (gd pl (i : Int))).length ≤ b + 12 := by
  obtain ⟨ps, e, hk, _, _, _⟩ := find_is old new ho hn hou hnu
  have hpl := pk_le hk
  have hval : ∀ t ∈ ps, Val old new t := fun t ht => by
    obtain ⟨j, hj, ej⟩ := List.mem_iff_getElem.1 ht
    obtain ⟨a', N, O, L, g, _, _⟩ := pk_at hk j hj
    rw [gd_at _ _ hj, ej] at g
    refine ⟨N, O, L, ?_, g.nl, g.ol⟩
    rw [← g.n, ← g.o, ← g.l]
  unfold F35_1.m F58.m
  rw [if_pos (by omega), Option.bind_some, if_pos (decide_eq_true (by omega)), if_neg (by omega), if_neg (by omega), e, Option.bind_some, blocks39 _ _ (by omega) (by omega), Option.bind_some, Int.toNat_natCast, Int.toNat_natCast]
  obtain ⟨y, hy, hyl, hyg⟩ := loop_ends (b := F35_1.b1 old new (b : Int) ((bk new.length b : Nat) : Int)) (fun x => ∃ k : Nat, x.2.2 = (k : Int) ∧ k ≤ bk new.length b ∧ (∀ t ∈ x.1, Val old new t) ∧ x.1.length ≤ 100000 ∧ x.2.1.length = k ∧ ∀ i : Nat, i < k → Mkb old (gd x.2.1 (i : Int)) (subL new ((i * b : Nat) : Int) ((min new.length (i * b + b) : Nat) : Int)) ∧ (put (gd x.2.1 (i : Int))).length ≤ b + 12) (fun x => (((bk new.length b : Nat) : Int) - x.2.2).toNat)
    (fun y => y.length = bk new.length b ∧ ∀ i : Nat, i < bk new.length b → Mkb old (gd y (i : Int)) (subL new ((i * b : Nat) : Int) ((min new.length (i * b + b) : Nat) : Int)) ∧ (put (gd y (i : Int))).length ≤ b + 12) (fun x hx => by
      obtain ⟨q, o, k⟩ := x
      obtain ⟨k, rfl, h1, h2, h3, h4, h5⟩ := hx
      simp only at h2 h3 h4 h5
      simp only [F35_1.b1]
      by_cases hk' : k < bk new.length b
      · have hlt := bk_lt hk'
        have efr : IntKind.wrap .i64 ((k : Int) * (b : Int)) = ((k * b : Nat) : Int) := by
          rw [show (k : Int) * (b : Int) = ((k * b : Nat) : Int) by simp]
          exact w64 (by omega) (by omega)
        rw [if_pos (by omega)]
        obtain ⟨q', eq, hq1, hq2⟩ := dropw new old (k : Int) (b : Int) (k * b) efr q hn h2 h3
        rw [eq, Option.bind_some]
        simp only [F35_1.j3]
        rw [efr, w64 (n := ((k * b : Nat) : Int) + (b : Int)) (by omega) (by omega), show ((k * b : Nat) : Int) + (b : Int) = ((k * b + b : Nat) : Int) by omega, minN]
        generalize hfr : k * b = fr at *
        obtain ⟨l, el, ml, sl⟩ := one59 old new q' fr (min new.length (fr + b)) ho hn hou hnu hq1 hq2 (by omega) (by omega) (by omega)
        have hkn : k ≤ 5000 := by
          have : k * 1 ≤ k * b := Nat.mul_le_mul_left k (by omega)
          omega
        rw [el, Option.bind_some, if_pos (by simp; omega)]
        simp only [F35_1.j2]
        rw [w64 (by omega) (by omega)]
        refine on_ (x := (q, o, (k : Int))) ⟨k + 1, rfl, by omega, hq1, hq2, by simp [h4], fun i hi => ?_⟩ (by simp only; omega)
        simp only
        by_cases ei : i < k
        · rw [gd_append_left _ _ _ (by omega)]; exact h5 i ei
        · have : i = k := by omega
          subst this
          rw [gd_append_right _ _ _ (by omega), h4, Nat.sub_self, hfr]
          exact ⟨ml, by show (put l).length ≤ _; omega⟩
      · rw [if_neg (by omega)]
        have : k = bk new.length b := by omega
        subst this
        exact out_ (x := (q, o, ((bk new.length b : Nat) : Int))) ⟨h4, h5⟩) (ps, [], 0) ⟨0, rfl, by omega, hval, by show ps.length ≤ 100000; omega, rfl, fun i hi => by omega⟩
  rw [hy, Option.bind_some]
  exact ⟨y, rfl, hyl, fun i hi => hyg i (by omega)⟩
theorem delta_awake : F34.m = some true := by
  obtain ⟨pl, e, h1, _⟩ := plans_is [] [97] 128 (by omega) (by simp) (by simp) (by simp) (by simp)
  have e : F35_1.m [] [97] 128 = some (pl, 0) := e
  unfold F34.m
  rw [e, Option.bind_some, blocks39 _ _ (by omega) (by omega), Option.bind_some, if_pos (by decide), if_pos rfl, h1]
  decide
end Go.Proofs.Ytedokgdilpfomaa
