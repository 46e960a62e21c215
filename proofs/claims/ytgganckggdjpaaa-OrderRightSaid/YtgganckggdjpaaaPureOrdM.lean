/- What OrdM needs. -/
import Derived.Test.YtgganckggdjpaaaPureOrdC
set_option linter.unusedVariables false
set_option linter.unusedSimpArgs false
namespace Go.Proofs.Ytgganckggdjpaaa
open Go Go.Eng Go.Proofs
theorem init_inv (x : List (List Int)) (hx : x.length ≤ 40) : ∃ w r, loop (F13.b3 x (turn x, 0)) (List.replicate (Int.toNat (x.length : Int)) 0, [], 0) = some (w, r) ∧ Inv x w r (List.replicate (Int.toNat (x.length : Int)) false) (List.replicate (Int.toNat (x.length : Int)) false) [] [] 0 := by
  have hrd : ∀ k : Nat, (rd x x.length k).length = cnt x [] [] k := fun k => by
    unfold rd cnt
    rw [List.length_map, List.countP_eq_length_filter]
    congr 2
    funext i
    unfold lv
    simp
  obtain ⟨y, hy, hQ⟩ := loop_ends (b := F13.b3 x (turn x, 0)) (fun s => ∃ i : Nat, s.2.2 = (i : Int) ∧ i ≤ x.length ∧ s.1.length = x.length ∧ (∀ k : Nat, k < i → gd s.1 (k : Int) = (cnt x [] [] k : Int)) ∧ hp s.2.1 s.2.1.length ∧ s.2.1.length ≤ i ∧ ∀ a, s.2.1.count a = ind (∃ k : Nat, k < i ∧ a = (k : Int) ∧ cnt x [] [] k = 0)) (fun s => ((x.length : Int) - s.2.2).toNat)
    (fun y => y.1.length = x.length ∧ (∀ k : Nat, k < x.length → gd y.1 (k : Int) = (cnt x [] [] k : Int)) ∧ hp y.2 y.2.length ∧ ∀ a, y.2.count a = ind (∃ k : Nat, k < x.length ∧ a = (k : Int) ∧ cnt x [] [] k = 0)) (fun s hs => by
      obtain ⟨w, r, i⟩ := s
      obtain ⟨i, rfl, hi, g1, g2, g3, g4, g5⟩ := hs
      simp only at g1 g2 g3 g4 g5
      simp only [F13.b3]
      rw [turn_len]
      by_cases h : i < x.length
      · rw [turn_at x i h, hrd, if_pos (by omega), if_pos (by omega), if_pos (by omega)]
        have split : ∀ a, ind (∃ k : Nat, k < i + 1 ∧ a = (k : Int) ∧ cnt x [] [] k = 0) = ind (∃ k : Nat, k < i ∧ a = (k : Int) ∧ cnt x [] [] k = 0) + ind (a = (i : Int) ∧ cnt x [] [] i = 0) := fun a => by
          by_cases ea : a = (i : Int)
          · subst ea
            rw [ind_congr (ex_nat (show i < i + 1 by omega) (fun k => cnt x [] [] k = 0)), ind_neg (P := ∃ k : Nat, k < i ∧ (i : Int) = (k : Int) ∧ cnt x [] [] k = 0) (fun ⟨k, h1, h2, _⟩ => by omega), Nat.zero_add]
            exact ind_congr ⟨fun h => ⟨rfl, h⟩, fun h => h.2⟩
          · rw [ind_neg (P := a = (i : Int) ∧ cnt x [] [] i = 0) (fun h => ea h.1), Nat.add_zero]
            refine ind_congr ⟨fun ⟨k, h1, h2, h3⟩ => ⟨k, ?_, h2, h3⟩, fun ⟨k, h1, h2, h3⟩ => ⟨k, by omega, h2, h3⟩⟩
            by_cases ek : k = i
            · subst ek; exact absurd h2 ea
            · omega
        have wv' : ∀ k : Nat, k < i + 1 → gd (w.set i ((cnt x [] [] i : Nat) : Int)) (k : Int) = (cnt x [] [] k : Int) := fun k hk => by
          rw [gd_set _ _ _ _ (by omega)]
          by_cases ek : i = k
          · subst ek; rw [if_pos rfl]
          · rw [if_neg ek]; exact g2 k (by omega)
        by_cases c : cnt x [] [] i = 0
        · rw [if_pos (by omega)]
          obtain ⟨r2, p1, p2, p3, p4⟩ := push40 x (w.set (Int.toNat (i : Int)) ((cnt x [] [] i : Nat) : Int)) r (List.replicate (Int.toNat (x.length : Int)) false) (List.replicate (Int.toNat (x.length : Int)) false) (i : Int) (by omega) g3
          rw [p1, Option.bind_some]
          simp only [F13.j6]
          rw [turn_at x i h, hrd, w64 (by omega) (by omega), Int.toNat_natCast]
          refine on_ (x := (w, r, (i : Int))) ⟨i + 1, rfl, by omega, by simpa using g1, wv', p4, by simp only; omega, fun a => ?_⟩ (by simp only; omega)
          simp only
          rw [p3 a, split a, g5 a]
          by_cases ea : a = (i : Int)
          · rw [if_pos ea, ind_pos (P := a = (i : Int) ∧ cnt x [] [] i = 0) ⟨ea, c⟩]
          · rw [if_neg ea, ind_neg (P := a = (i : Int) ∧ cnt x [] [] i = 0) (fun h => ea h.1)]
        · rw [if_neg (by omega)]
          simp only [F13.j6]
          rw [turn_at x i h, hrd, w64 (by omega) (by omega), Int.toNat_natCast]
          refine on_ (x := (w, r, (i : Int))) ⟨i + 1, rfl, by omega, by simpa using g1, wv', g3, by simp only; omega, fun a => ?_⟩ (by simp only; omega)
          simp only
          rw [split a, g5 a, ind_neg (P := a = (i : Int) ∧ cnt x [] [] i = 0) (fun h => c h.2)]
          rfl
      · rw [if_neg (by omega)]
        obtain rfl : i = x.length := by omega
        exact out_ (x := (w, r, ((x.length : Nat) : Int))) ⟨g1, g2, g3, g5⟩) (List.replicate (Int.toNat (x.length : Int)) 0, [], 0) ⟨0, rfl, by omega, by simp, fun k hk => by omega, fun c _ hc => by simp at hc, by simp, fun a => by rw [ind_neg (by rintro ⟨k, h, _⟩; omega)]; rfl⟩
  obtain ⟨w, r⟩ := y
  obtain ⟨k1, k2, k3, k4⟩ := hQ
  refine ⟨w, r, hy, k1, by simp, by simp, k2, fun k hk => ?_, fun k hk => ?_, k3, fun a => ?_, fun j hj => by omega⟩
  · rw [Int.toNat_natCast, gd_rep _ _ _ hk]; simp
  · rw [Int.toNat_natCast, gd_rep _ _ _ hk]; simp
  · rw [k4 a]
    exact ind_congr ⟨fun ⟨k, h1, h2, h3⟩ => ⟨k, h1, h2, by simp, h3⟩, fun ⟨k, h1, h2, _, h3⟩ => ⟨k, h1, h2, h3⟩⟩
theorem next13 (x : List (List Int)) (hx : x.length ≤ 40) {w r : List Int} {sil pl : List Bool} {o b : List Int} {q : Nat} (h : Inv x w r sil pl o b q) {k0 : Nat} (hk0 : k0 < x.length) (h1 : (k0 : Int) ∉ o) (h2 : (k0 : Int) ∉ b) :
    ∃ k : Nat, loop (F13.b2 sil pl) (q : Int) = some (k : Int) ∧ k < x.length ∧ (k : Int) ∉ o ∧ (k : Int) ∉ b ∧ ∀ j : Nat, j < k → (j : Int) ∈ o ∨ (j : Int) ∈ b := by
  have hq0 : q ≤ k0 := by
    apply Classical.byContradiction
    intro hc
    exact (h.nx k0 (by omega)).elim h1 h2
  have hsl := h.sl
  have hpl := h.pl_
  obtain ⟨y, hy, hQ⟩ := loop_ends (b := F13.b2 sil pl) (fun s => ∃ k : Nat, s = (k : Int) ∧ k ≤ k0 ∧ ∀ j : Nat, j < k → (j : Int) ∈ o ∨ (j : Int) ∈ b) (fun s => ((k0 : Int) - s).toNat)
    (fun y => ∃ k : Nat, y = (k : Int) ∧ k < x.length ∧ (k : Int) ∉ o ∧ (k : Int) ∉ b ∧ ∀ j : Nat, j < k → (j : Int) ∈ o ∨ (j : Int) ∈ b) (fun s hs => by
      obtain ⟨k, rfl, hk, ha⟩ := hs
      simp only [F13.b2]
      have on : ((k : Int) ∈ o ∨ (k : Int) ∈ b) → ∃ s, (some (.inl (IntKind.wrap .i64 ((k : Int) + 1))) : Option (Int ⊕ Int)) = some s ∧ (∀ x', s = .inl x' → (∃ k : Nat, x' = (k : Int) ∧ k ≤ k0 ∧ ∀ j : Nat, j < k → (j : Int) ∈ o ∨ (j : Int) ∈ b) ∧ ((k0 : Int) - x').toNat < ((k0 : Int) - (k : Int)).toNat) ∧ (∀ y, s = .inr y → ∃ k : Nat, y = (k : Int) ∧ k < x.length ∧ (k : Int) ∉ o ∧ (k : Int) ∉ b ∧ ∀ j : Nat, j < k → (j : Int) ∈ o ∨ (j : Int) ∈ b) := fun hc => by
        have hne : k ≠ k0 := fun e => by subst e; exact hc.elim h1 h2
        rw [w64 (by omega) (by omega)]
        exact on_ (I := fun s : Int => ∃ k : Nat, s = (k : Int) ∧ k ≤ k0 ∧ ∀ j : Nat, j < k → (j : Int) ∈ o ∨ (j : Int) ∈ b) (m := fun s => ((k0 : Int) - s).toNat) (x := (k : Int)) ⟨k + 1, rfl, by omega, fun j hj => by
          by_cases e : j = k
          · subst e; exact hc
          · exact ha j (by omega)⟩ (by omega)
      rw [if_pos (by omega)]
      by_cases c1 : gd pl (k : Int) = true
      · rw [if_pos c1]; exact on (.inl ((h.pv k (by omega)).1 c1))
      · rw [if_neg c1, if_pos (by omega)]
        by_cases c2 : gd sil (k : Int) = true
        · rw [if_pos c2]; exact on ((h.sv k (by omega)).1 c2)
        · rw [if_neg c2]
          exact out_ (x := (k : Int)) ⟨k, rfl, by omega, fun hm => c2 ((h.sv k (by omega)).2 (.inl hm)), fun hm => c2 ((h.sv k (by omega)).2 (.inr hm)), ha⟩) (q : Int) ⟨q, rfl, hq0, h.nx⟩
  obtain ⟨k, rfl, hk⟩ := hQ
  exact ⟨k, hy, hk⟩
theorem of13 (x : List (List Int)) (hR : Rgt x) (hx : x.length ≤ 40) (hr : ∀ l ∈ x, l.length ≤ 60) (N : Nat) (h1 : (itr x N).1.length = x.length) (h2 : ∀ k, k < N → (itr x k).1.length < x.length) (h3 : ∀ k, k ≤ N → Vd x.length (itr x k)) : F13.m x = some ((itr x N).1, (itr x N).2, 0) := by
  unfold F13.m
  rcases turned39 x hx hr with ⟨_, e⟩ | ⟨hn, _⟩
  · rw [e, Option.bind_some, if_pos rfl, if_pos (by omega), if_pos (by omega)]
    simp only [F13.j1]
    obtain ⟨w0, r0, e0, hinv⟩ := init_inv x hx
    rw [e0, Option.bind_some]
    simp only [F13.j2]
    obtain ⟨y, hy, hQ⟩ := loop_ends (b := F13.b1 x) (fun s => ∃ k q : Nat, k ≤ N ∧ (s.2.2.2.2.1, s.2.2.2.2.2.1) = itr x k ∧ s.2.2.2.2.2.2 = (q : Int) ∧ Inv x s.1 s.2.1 s.2.2.1 s.2.2.2.1 s.2.2.2.2.1 s.2.2.2.2.2.1 q) (fun s => 2 * x.length - (s.2.2.2.2.1.length + s.2.2.2.2.2.1.length))
      (fun y => y = itr x N) (fun s hs => by
        obtain ⟨w, r, sil, pl, o, b, nx⟩ := s
        obtain ⟨k, q, hk, hit, rfl, hi⟩ := hs
        simp only at hit hi
        simp only [F13.b1]
        have hv := h3 k hk
        rw [← hit] at hv
        have hlo := hv.lo
        have hlb := hv.lb
        simp only at hlo hlb
        by_cases hl : o.length < x.length
        · have hkN : k < N := by
            rcases Nat.lt_or_ge k N with h | h
            · exact h
            · obtain rfl : k = N := by omega
              rw [← hit] at h1
              simp only at h1
              omega
          have hv2 := nxt_vd x hv hl
          have hst : itr x (k + 1) = nxt x (o, b) := by show nxt x (itr x k) = _; rw [← hit]
          have hrl := count_in hi.rc
          rw [if_pos (by omega)]
          unfold F41.m
          rw [Option.bind_some]
          by_cases h0 : 0 < r.length
          · rw [if_pos (by omega)]
            obtain ⟨r1, p1, p2, p3, p4⟩ := pop42 x w r sil pl (by omega) h0 hi.rh
            obtain ⟨i, hi1, hi2, hi3, hi4⟩ : ∃ i : Nat, i < x.length ∧ gd r ((0 : Nat) : Int) = (i : Int) ∧ (i : Int) ∉ o ∧ cnt x o b i = 0 := by
              have hc := List.count_pos_iff.2 (gd_mem r 0 h0)
              rw [hi.rc] at hc
              apply Classical.byContradiction
              intro hn
              rw [ind_neg hn] at hc
              omega
            have least : ∀ j : Nat, j < i → (j : Int) ∉ o → cnt x o b j ≠ 0 := fun j hj hjo hc => by
              have : 0 < r.count (j : Int) := by rw [hi.rc, ind_pos ⟨j, by omega, rfl, hjo, hc⟩]; omega
              obtain ⟨c, hc1, hc2⟩ := mem_gd.1 (List.count_pos_iff.1 this)
              have := hp_root hi.rh c hc1
              rw [hi2, hc2] at this
              omega
            have hn := nxt_P hi1 hi3 hi4 least
            rw [hi2] at p1 p3
            obtain ⟨w', r', s', e1, inv'⟩ := place x hR hx hr hi hi1 hi3 hi4 p4 p3
            have hpl := hi.pl_
            rw [p1, Option.bind_some, if_pos (by simp only; omega), if_pos (by simp; omega), Int.toNat_natCast, e1, Option.bind_some]
            simp only [F13.j4]
            rw [hn] at hv2
            refine ⟨_, rfl, fun x' ex => ?_, fun y ey => by cases ey⟩
            cases ex
            refine ⟨⟨k + 1, q, by omega, ?_, rfl, inv'⟩, ?_⟩
            · rw [hst, hn]
            · have := hv2.1.lo
              have := hv2.1.lb
              simp at *
              omega
          · rw [if_neg (by omega)]
            have hr0 : r = [] := List.length_eq_zero_iff.1 (by omega)
            have hP : ∀ j : Nat, j < x.length → (j : Int) ∉ o → cnt x o b j ≠ 0 := fun j hj hjo hc => by
              have := hi.rc (j : Int)
              rw [ind_pos ⟨j, hj, rfl, hjo, hc⟩, hr0] at this
              simp at this
            obtain ⟨k0, hk0, hk1, hk2⟩ : ∃ k0 : Nat, k0 < x.length ∧ (k0 : Int) ∉ o ∧ (k0 : Int) ∉ b := by
              rcases nxt_cases x hv hl with ⟨j, a1, a2, a3, _⟩ | ⟨j, a1, a2, a3, _, _⟩
              · exact absurd a3 (hP j a1 a2)
              · exact ⟨j, a1, a2, a3⟩
            obtain ⟨i, e1, i1, i2, i3, i4⟩ := next13 x hx hi hk0 hk1 hk2
            have hn := nxt_Q hP i1 i2 i3 i4
            obtain ⟨w', r', s', e2, inv'⟩ := brk x hR hx hr hi i1 i2 i3 i4
            rw [e1, Option.bind_some]
            simp only [F13.j5]
            rw [if_pos (by simp; omega), e2, Option.bind_some]
            simp only [F13.j4]
            rw [hn] at hv2
            refine ⟨_, rfl, fun x' ex => ?_, fun y ey => by cases ey⟩
            cases ex
            refine ⟨⟨k + 1, i, by omega, ?_, rfl, inv'⟩, ?_⟩
            · rw [hst, hn]
            · have := hv2.1.lo
              have := hv2.1.lb
              simp at *
              omega
        · rw [if_neg (by omega)]
          refine ⟨_, rfl, fun x' ex => by (cases ex), fun y ey => ?_⟩
          cases ey
          rcases Nat.lt_or_ge k N with h | h
          · have := h2 k h
            rw [← hit] at this
            exact absurd this hl
          · obtain rfl : k = N := by omega
            exact hit) (w0, r0, List.replicate (Int.toNat (x.length : Int)) false, List.replicate (Int.toNat (x.length : Int)) false, [], [], 0) ⟨0, 0, by omega, rfl, rfl, hinv⟩
    rw [hy, hQ]
    rfl
  · exact absurd hR hn
theorem awake12 : F12.m = some true := by
  have hR : Rgt [[(1 : Int)], [(0 : Int)]] := by
    intro i hi k hk
    simp at hi
    rcases i with _ | _ | i
    · have hk : k = 0 := by
        have : ([(1 : Int)] : List Int).length = 1 := rfl
        have h2 : k < ([(1 : Int)] : List Int).length := hk
        omega
      subst hk
      exact ⟨by decide, by decide, by decide, fun h => by omega⟩
    · have hk : k = 0 := by
        have h2 : k < ([(0 : Int)] : List Int).length := hk
        have : ([(0 : Int)] : List Int).length = 1 := rfl
        omega
      subst hk
      exact ⟨by decide, by decide, by decide, fun h => by omega⟩
    · omega
  obtain ⟨N, h1, h2, h3⟩ := itr_end [[(1 : Int)], [(0 : Int)]]
  have e3 : itr [[(1 : Int)], [(0 : Int)]] 3 = ([1, 0], [0]) := by decide
  have e2 : itr [[(1 : Int)], [(0 : Int)]] 2 = ([1], [0]) := by decide
  have e1 : itr [[(1 : Int)], [(0 : Int)]] 1 = ([], [0]) := by decide
  have hN : N = 3 := by
    have a : ¬ 3 < N := fun h => by have := h2 3 h; rw [e3] at this; simp at this
    have b : N ≠ 0 := fun h => by subst h; simp [itr] at h1
    have c : N ≠ 1 := fun h => by subst h; rw [e1] at h1; simp at h1
    have d : N ≠ 2 := fun h => by subst h; rw [e2] at h1; simp at h1
    omega
  subst hN
  unfold F12.m
  rw [of13 _ hR (by simp) (by simp) 3 h1 h2 h3, e3, Option.bind_some, if_pos rfl, same17 _ (by simp), Option.bind_some, if_pos rfl, same17 _ (by simp), Option.bind_some]
end Go.Proofs.Ytgganckggdjpaaa
