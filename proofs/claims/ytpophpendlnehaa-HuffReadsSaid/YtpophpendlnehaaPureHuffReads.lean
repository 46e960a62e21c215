/- What HuffReads needs. -/
import Derived.Test.YtpophpendlnehaaPureHufN
import Derived.Test.YtpophpendlnehaaPureHufR0
import Derived.Test.YtpophpendlnehaaYHuffReads
set_option linter.unusedVariables false
set_option linter.unusedSimpArgs false
namespace Go.Proofs.Ytpophpendlnehaa
open Go Go.Eng Go.Proofs
theorem ref_code (x : Nat) (n : Int) : F31.m x n = some (bN x (cl n)).reverse := by
  unfold F31.m
  rw [number_is, Option.bind_some]
  generalize hN : bN x (cl n) = l
  have hl : l.length ≤ 32 := by rw [← hN, bN_len]; exact (cl_is n).2
  rw [w64 (by omega) (by omega), loop_done (fun k => ((l.drop (l.length - k)).reverse, (l.length : Int) - 1 - k)) l.length l.reverse (fun k hk => ?_) ?_ (by simp)]
  · rfl
  · simp only [F31.b1]
    rw [if_neg (by omega)]
    simp
  · simp only [F31.b1]
    have e : (l.length : Int) - 1 - k = ((l.length - 1 - k : Nat) : Int) := by omega
    rw [if_pos (by omega), if_pos (by omega), e, gd_at _ _ (by omega), if_pos (by simp; omega), w64 (by omega) (by omega)]
    have e2 : l.drop (l.length - (k + 1)) = l[l.length - 1 - k] :: l.drop (l.length - k) := by
      rw [List.drop_eq_getElem_cons (by omega)]
      have e3 : l.length - (k + 1) = l.length - 1 - k := by omega
      have e4 : l.length - (k + 1) + 1 = l.length - k := by omega
      rw [e4]
      congr 1
      simp only [e3]
    rw [e2, List.reverse_cons, show (((l.length - 1 - k : Nat) : Int) - 1) = (l.length : Int) - 1 - ((k + 1 : Nat) : Int) from by omega]
/-! ### The document's Next -/
theorem same54 (l c : List Int) (h1 : c.length ≤ 100) : ∃ r, loop (F54.b2 l c) (true, 0) = some r ∧ (r = true ↔ ∀ i : Nat, i < min c.length l.length → gd c (i : Int) = gd l (i : Int)) := by
  refine loop_ends (b := F54.b2 l c) (fun x => ∃ k : Nat, x.2 = (k : Int) ∧ k ≤ min c.length l.length ∧ (x.1 = true ↔ ∀ i : Nat, i < k → gd c (i : Int) = gd l (i : Int))) (fun x => (100 - x.2).toNat) (fun r => r = true ↔ ∀ i : Nat, i < min c.length l.length → gd c (i : Int) = gd l (i : Int)) (fun x hx => ?_) (true, 0) ⟨0, rfl, by omega, by simp⟩
  obtain ⟨r, k⟩ := x
  obtain ⟨k, rfl, h2, h3⟩ := hx
  simp only at h3
  simp only [F54.b2]
  have hmin : min c.length l.length = c.length ∨ min c.length l.length = l.length := by omega
  by_cases a : k < min c.length l.length
  · rw [if_pos (by omega), if_pos (by omega)]
    have all : (∀ i : Nat, i < k + 1 → gd c (i : Int) = gd l (i : Int)) ↔ (∀ i : Nat, i < k → gd c (i : Int) = gd l (i : Int)) ∧ gd c (k : Int) = gd l (k : Int) := by
      constructor
      · intro h; exact ⟨fun i hi => h i (by omega), h k (by omega)⟩
      · rintro ⟨h, h'⟩ i hi
        by_cases e : i = k
        · rw [e]; exact h'
        · exact h i (by omega)
    by_cases hr : r = true
    · rw [if_pos hr, if_pos (by omega), if_pos (by omega)]
      simp only [F54.j4]
      rw [w64 (by omega) (by omega)]
      refine on_ (x := (r, (k : Int))) ⟨k + 1, rfl, by omega, ?_⟩ (by simp only; omega)
      simp only
      rw [decide_eq_true_iff, all]
      exact ⟨fun h => ⟨h3.1 hr, h⟩, fun h => h.2⟩
    · rw [if_neg hr]
      simp only [F54.j4]
      rw [w64 (by omega) (by omega)]
      refine on_ (x := (r, (k : Int))) ⟨k + 1, rfl, by omega, ?_⟩ (by simp only; omega)
      simp only
      rw [all]
      exact ⟨fun h => (by cases h), fun h => absurd (h3.2 h.1) hr⟩
  · have e : k = min c.length l.length := by omega
    have out : ∃ s : (Bool × Int) ⊕ Bool, some (.inr r) = some s ∧ (∀ x', s = .inl x' → (∃ k : Nat, x'.2 = (k : Int) ∧ k ≤ min c.length l.length ∧ (x'.1 = true ↔ ∀ i : Nat, i < k → gd c (i : Int) = gd l (i : Int))) ∧ (100 - x'.2).toNat < (100 - (k : Int)).toNat) ∧ (∀ y, s = .inr y → (y = true ↔ ∀ i : Nat, i < min c.length l.length → gd c (i : Int) = gd l (i : Int))) :=
      ⟨.inr r, rfl, fun x' e => (by cases e), fun y' e' => (by cases e'; rw [← e]; exact h3)⟩
    by_cases c1 : (k : Int) < (c.length : Int)
    · rw [if_pos c1, if_neg (by omega)]; exact out
    · rw [if_neg c1]; exact out
theorem next54 (xs : List Int) (hl : xs.length ≤ 300) (hx : Good15 xs) (hm : may xs = true) (l : List Int) (h01 : b01 l) (hll : l.length ≤ 100000) :
    (∃ s n : Nat, s < xs.length ∧ gd xs (s : Int) = (n : Int) ∧ Mt xs l s ∧ F54.m xs (codes xs) l = some ((s : Int), (n : Int), 0)) ∨
    ((∀ s, s < xs.length → ¬ Mt xs l s) ∧ (((∃ s, s < xs.length ∧ gd xs (s : Int) ≠ 0 ∧ Sm xs l s) ∧ F54.m xs (codes xs) l = some (0, 0, 2)) ∨ ((¬ ∃ s, s < xs.length ∧ gd xs (s : Int) ≠ 0 ∧ Sm xs l s) ∧ F54.m xs (codes xs) l = some (0, 0, 3)))) := by
  unfold F54.m
  have hcl : (codes xs).length = xs.length := by simp [codes]
  obtain ⟨y, hy, hQ⟩ := loop_ends (b := F54.b1 xs (codes xs) l) (fun x => ∃ k : Nat, x.2 = (k : Int) ∧ k ≤ xs.length ∧ (∀ s, s < k → ¬ Mt xs l s) ∧ (x.1 = true ↔ ∃ s, s < k ∧ gd xs (s : Int) ≠ 0 ∧ Sm xs l s)) (fun x => ((xs.length : Int) - x.2).toNat)
    (fun y => (∃ s n : Nat, s < xs.length ∧ gd xs (s : Int) = (n : Int) ∧ Mt xs l s ∧ y = .inl ((s : Int), (n : Int), 0)) ∨ (∃ g, y = .inr g ∧ (∀ s, s < xs.length → ¬ Mt xs l s) ∧ (g = true ↔ ∃ s, s < xs.length ∧ gd xs (s : Int) ≠ 0 ∧ Sm xs l s))) (fun x hx' => by
      obtain ⟨g, k⟩ := x
      obtain ⟨k, rfl, h1, h2, h3⟩ := hx'
      simp only at h3
      simp only [F54.b1]
      by_cases hk : k < xs.length
      · rw [if_pos (by omega), if_pos (by omega)]
        have all : ∀ P : Nat → Prop, (∃ s, s < k + 1 ∧ P s) ↔ (∃ s, s < k ∧ P s) ∨ P k := by
          intro P
          constructor
          · rintro ⟨s, hs, hP⟩
            by_cases e : s = k
            · rw [← e]; exact .inr hP
            · exact .inl ⟨s, by omega, hP⟩
          · rintro (⟨s, hs, hP⟩ | hP)
            · exact ⟨s, by omega, hP⟩
            · exact ⟨k, by omega, hP⟩
        have on : ∀ g' : Bool, ¬ Mt xs l k → (g' = true ↔ g = true ∨ (gd xs (k : Int) ≠ 0 ∧ Sm xs l k)) → ∃ s, F54.j2 (k : Int) g' = some s ∧ (∀ x', s = .inl x' → (∃ k : Nat, x'.2 = (k : Int) ∧ k ≤ xs.length ∧ (∀ s, s < k → ¬ Mt xs l s) ∧ (x'.1 = true ↔ ∃ s, s < k ∧ gd xs (s : Int) ≠ 0 ∧ Sm xs l s)) ∧ ((xs.length : Int) - x'.2).toNat < ((xs.length : Int) - (k : Int)).toNat) ∧
            (∀ y, s = .inr y → (∃ s n : Nat, s < xs.length ∧ gd xs (s : Int) = (n : Int) ∧ Mt xs l s ∧ y = .inl ((s : Int), (n : Int), 0)) ∨ (∃ g, y = .inr g ∧ (∀ s, s < xs.length → ¬ Mt xs l s) ∧ (g = true ↔ ∃ s, s < xs.length ∧ gd xs (s : Int) ≠ 0 ∧ Sm xs l s))) := by
          intro g' hn hg
          simp only [F54.j2]
          rw [w64 (by omega) (by omega)]
          refine on_ (I := fun x' : Bool × Int => ∃ k : Nat, x'.2 = (k : Int) ∧ k ≤ xs.length ∧ (∀ s, s < k → ¬ Mt xs l s) ∧ (x'.1 = true ↔ ∃ s, s < k ∧ gd xs (s : Int) ≠ 0 ∧ Sm xs l s)) (m := fun x' => ((xs.length : Int) - x'.2).toNat) (x := (g, (k : Int))) ⟨k + 1, rfl, by omega, fun s hs => ?_, ?_⟩ (by simp only; omega)
          · by_cases e : s = k
            · rw [e]; exact hn
            · exact h2 s (by omega)
          · simp only
            rw [all, hg, h3]
        by_cases h0 : gd xs (k : Int) = 0
        · rw [if_pos h0]
          exact on g (fun h => h.1 h0) ⟨.inl, fun h => h.elim id (fun h => absurd h0 h.1)⟩
        · rw [if_neg h0, if_pos (by omega)]
          obtain ⟨n, hn⟩ := nat_of (hx _ (gd_mem xs k hk)).1
          have h15 : n ≤ 15 := by have := hx _ (gd_mem xs k hk); omega
          obtain ⟨c1, c2⟩ := code_eq hx hm k n hk hn (by omega) h15
          have hp := pow15 n h15
          have hcg : gd (codes xs) (k : Int) = code xs k := gd_map _ _ _ hk
          have hcl : cl (n : Int) = n := by have := (cl_is (n : Int)).1; unfold minI maxI at this; split at this <;> split at this <;> omega
          rw [hcg, c1, w32 (by omega) (by omega), hn, w64 (n := (n : Int)) (by omega) (by omega), ref_code, Option.bind_some, hcl, show (bN (cd xs k) n).reverse = cw (cd xs k) n from rfl]
          obtain ⟨r, hr, hr'⟩ := same54 l (cw (cd xs k) n) (by rw [cw_len]; omega)
          rw [hr, Option.bind_some]
          rw [cw_len, ← V_same (cw_01 _ _) h01 _ (by rw [cw_len]; omega) (by omega), V_cw _ _ c2 _ (by omega)] at hr'
          have hS : r = true ↔ Sm xs l k := by
            rw [hr']; unfold Sm; rw [hn, Int.toNat_natCast]
          simp only [F54.j3]
          by_cases hrt : r = true
          · rw [if_pos hrt, cw_len]
            by_cases hT : n ≤ l.length
            · rw [if_pos (by omega)]
              exact out_ (x := (g, (k : Int))) (.inl ⟨k, n, hk, hn, ⟨h0, by rw [hn, Int.toNat_natCast]; exact hT, hS.1 hrt⟩, rfl⟩)
            · rw [if_neg (by omega)]
              have hnM : ¬ Mt xs l k := fun h => by
                have := h.2.1
                rw [hn, Int.toNat_natCast] at this
                exact hT this
              have key := on true hnM ⟨fun _ => .inr ⟨h0, hS.1 hrt⟩, fun _ => rfl⟩
              by_cases hg : g = true
              · rw [if_pos hg]; exact key
              · rw [if_neg hg, hrt]; exact key
          · rw [if_neg hrt]
            have hnM : ¬ Mt xs l k := fun h => hrt (hS.2 h.2.2)
            by_cases hg : g = true
            · rw [if_pos hg]
              exact on true hnM ⟨fun _ => .inl hg, fun _ => rfl⟩
            · rw [if_neg hg]
              exact on r hnM ⟨fun h => absurd h hrt, fun h => h.elim (fun h => absurd h hg) (fun h => hS.2 h.2)⟩
      · rw [if_neg (by omega)]
        have : k = xs.length := by omega
        subst this
        exact out_ (x := (g, ((xs.length : Nat) : Int))) (.inr ⟨g, rfl, h2, h3⟩)) (false, 0) ⟨0, rfl, by omega, fun s hs => by omega, by simp⟩
  rw [hy, Option.bind_some]
  rcases hQ with ⟨s, n, h1, h2, h3, rfl⟩ | ⟨g, rfl, h1, h2⟩
  · exact .inl ⟨s, n, h1, h2, h3, rfl⟩
  · refine .inr ⟨h1, ?_⟩
    simp only [F54.j1]
    by_cases hg : g = true
    · exact .inl ⟨h2.1 hg, by rw [if_pos hg]⟩
    · exact .inr ⟨fun h => hg (h2.2 h), by rw [if_neg hg]⟩
theorem both (xs : List Int) (hl : xs.length ≤ 300) (hx : Good15 xs) (hm : may xs = true) (b : List Int) (hb : b.length ≤ 10000) (hu : ∀ y ∈ b, 0 ≤ y ∧ y ≤ 255) (p : Nat) (hp : p ≤ 8 * b.length) :
    ∃ (s e : Int) (n : Nat), p + n ≤ 8 * b.length ∧ F53.m (mkA 16 (fst xs)) (mkA 16 (many xs)) (mkA 16 (fr xs)) (sy xs 15) b p = some (s, e, ((p + n : Nat) : Int)) ∧ F54.m xs (codes xs) ((bO b).drop p) = some (s, (n : Int), e) := by
  have h01 : b01 ((bO b).drop p) := b01_drop (b01_bO b) p
  have hT : ((bO b).drop p).length = 8 * b.length - p := by rw [List.length_drop, bO_len]
  rcases next54 xs hl hx hm ((bO b).drop p) h01 (by omega) with ⟨s, n, hs, hn, hM, e⟩ | ⟨hno, ⟨hg, e⟩ | ⟨hg, e⟩⟩
  · obtain ⟨h1, h2⟩ := next_hit xs hl hx hm b (by omega) hu p hp s n hs hn hM
    exact ⟨(s : Int), 0, n, by omega, h1, e⟩
  · rcases next_none xs hl hx hm b (by omega) hu p hp hno with ⟨h1, h2⟩ | ⟨h1, h2⟩
    · exact ⟨0, 2, 0, by omega, h1, e⟩
    · exact absurd hg h2
  · rcases next_none xs hl hx hm b (by omega) hu p hp hno with ⟨h1, h2⟩ | ⟨h1, h2⟩
    · exact absurd h2 hg
    · exact ⟨0, 3, 0, by omega, h1, e⟩
theorem pure_HuffReads (a0 : (List Int)) (a1 : (List Int)) (a2 : Int) (w0 : ∀ x ∈ a0, InR .u8 x) (m0 : a0.length ≤ maxLen) (w1 : ∀ x ∈ a1, InR .u8 x) (m1 : a1.length ≤ maxLen) (w2 : InR .i64 a2) :
    F12.m a0 a1 a2 = some true := by
  have hu : ∀ y ∈ a1, 0 ≤ y ∧ y ≤ 255 := fun y hy => inU8 (w1 y hy)
  have h00 : ∀ y ∈ a0, 0 ≤ y := fun y hy => (inU8 (w0 y hy)).1
  unfold F12.m
  by_cases h1 : (300 : Int) < (a0.length : Int)
  · rw [if_pos h1, huff_awake]; rfl
  rw [if_neg h1]
  by_cases h2 : (200 : Int) < (a1.length : Int)
  · rw [if_pos h2, huff_awake]; rfl
  rw [if_neg h2]
  by_cases hx : Good15 a0
  · rw [F50_good a0 (by omega) hx, Option.bind_some]
    by_cases hm : may a0 = true
    · rw [if_pos hm, F49_tab a0 (by omega) hx hm, Option.bind_some]
      simp only
      rw [reader_is a1 (by omega), Option.bind_some, if_pos trivial, of_is a1 (by omega) hu, Option.bind_some, F52_is a0 (by omega) hx, Option.bind_some]
      have hloop : ∀ p : Nat, p ≤ 8 * a1.length → ∀ y33 : Int × Int, y33.2 = (p : Int) → F12.j1 a0 (mkA 16 (fst a0), mkA 16 (many a0), mkA 16 (fr a0), sy a0 15) a1 (bO a1) (codes a0) y33 (p : Int) = some true := by
        intro p hp y33 hy33
        unfold F12.j1
        rw [hy33]
        obtain ⟨y, hy, hQ⟩ := loop_ends (b := F12.b1 a0 (mkA 16 (fst a0), mkA 16 (many a0), mkA 16 (fr a0), sy a0 15) a1 (bO a1) (codes a0)) (fun x => ∃ p k : Nat, x = ((p : Int), (p : Int), (k : Int)) ∧ p ≤ 8 * a1.length ∧ k ≤ 60) (fun x => (60 - x.2.2).toNat)
          (fun y => y = .inl true ∨ y = .inr ()) (fun x hx' => by
            obtain ⟨p, k, rfl, hp, hk⟩ := hx'
            simp only [F12.b1]
            by_cases hk' : k < 60
            · obtain ⟨s, e, n, b1, b2, b3⟩ := both a0 (by omega) hx hm a1 (by omega) hu p hp
              have hl := bO_len a1
              have hsub : subL (bO a1) (p : Int) ((bO a1).length : Int) = (bO a1).drop p := by
                unfold subL
                rw [Int.toNat_natCast, Int.toNat_natCast]
                exact List.take_of_length_le (by simp)
              rw [if_pos (by omega), b2, Option.bind_some, if_pos (by omega), hsub, b3, Option.bind_some, if_pos rfl, if_pos rfl, show F46.m a1 ((p + n : Nat) : Int) = some () from rfl, Option.bind_some]
              simp only
              rw [w64 (n := (p : Int) + (n : Int)) (by omega) (by omega), if_pos (by omega)]
              by_cases he : e = 0
              · rw [if_pos he, w64 (by omega) (by omega)]
                exact on_ (x := ((p : Int), (p : Int), (k : Int))) ⟨p + n, k + 1, rfl, by omega, by omega⟩ (by simp only; omega)
              · rw [if_neg he, huff_awake, Option.bind_some]
                exact out_ (x := ((p : Int), (p : Int), (k : Int))) (.inl rfl)
            · rw [if_neg (by omega)]
              exact out_ (x := ((p : Int), (p : Int), (k : Int))) (.inr rfl)) ((p : Int), (p : Int), 0) ⟨p, 0, rfl, hp, by omega⟩
        rw [hy, Option.bind_some]
        rcases hQ with rfl | rfl
        · rfl
        · simp only [F12.j2]
          rw [huff_awake]; rfl
      unfold F45.m
      rw [w64 (n := 8 * (a1.length : Int)) (by omega) (by omega)]
      by_cases c1 : a2 < 0
      · rw [if_pos c1, Option.bind_some, if_neg (by simp)]
        exact hloop 0 (by omega) _ rfl
      · rw [if_neg c1]
        by_cases c2 : 8 * (a1.length : Int) < a2
        · rw [if_pos c2, Option.bind_some, if_neg (by simp)]
          exact hloop 0 (by omega) _ rfl
        · rw [if_neg c2, Option.bind_some, if_pos rfl]
          obtain ⟨p, rfl⟩ := nat_of (show 0 ≤ a2 by omega)
          exact hloop p (by omega) _ rfl
    · rw [if_neg hm, huff_awake]; rfl
  · rw [F50_bad a0 h00 (fun h => hx h.2), Option.bind_some, if_neg (by simp), huff_awake]; rfl
end Go.Proofs.Ytpophpendlnehaa
