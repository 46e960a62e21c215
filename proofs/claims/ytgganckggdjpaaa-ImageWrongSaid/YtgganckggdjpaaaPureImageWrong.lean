/- What ImageWrong needs. -/
import Derived.Test.YtgganckggdjpaaaYImageWrong
import Derived.Test.YtgganckggdjpaaaEngLp
import Derived.Test.YtgganckggdjpaaaEngLaw
set_option linter.unusedVariables false
set_option linter.unusedSimpArgs false
namespace Go.Proofs.Ytgganckggdjpaaa
open Go Go.Eng Go.Proofs
/-! ### Layouts -/
def per (x1 x2 : Int) : Nat := x2.toNat / x1.toNat
def tall (x1 x2 x3 : Int) : Nat := 2 + per x1 x2 + 2 * (per x1 x2 * x3.toNat)
def PP (x1 x2 x3 : Int) : Prop := (128 ≤ x1 ∧ x1 ≤ 4096) ∧ (128 ≤ x2 ∧ x2 ≤ 4096) ∧ (1 ≤ x3 ∧ x3 ≤ 4096) ∧ x2.toNat % x1.toNat = 0 ∧ tall x1 x2 x3 ≤ 1048576
theorem in84 (x lo hi : Int) : F84.m x lo hi = some (decide (lo ≤ x ∧ x ≤ hi)) := by
  unfold F84.m
  by_cases h : lo ≤ x
  · rw [if_pos h]; congr 1; apply decide_eq_decide.2; exact ⟨fun h2 => ⟨h, h2⟩, fun h2 => h2.2⟩
  · rw [if_neg h, decide_eq_false (fun h2 => h h2.1)]
theorem per_b {a b c : Nat} (ha : 128 ≤ a) (hb : b ≤ 4096) (hc : c ≤ 4096) : b / a ≤ 32 ∧ b / a * c ≤ 131072 := by
  have h1 : b / a ≤ b / 128 := Nat.div_le_div_left ha (by omega)
  have h2 : b / a ≤ 32 := by omega
  exact ⟨h2, Nat.le_trans (Nat.mul_le_mul h2 hc) (by omega)⟩
theorem plan73 (a b c : Nat) (ha : 128 ≤ a) (hb : b ≤ 4096) (hc : c ≤ 4096) : ∃ (J : Arr (Int × Int) 2) (f p : Int) (S : Arr (Int × Int) 2) (t : Int), F73.m (a : Int) (b : Int) (c : Int) = some (J, f, p, S, t) ∧ f = 2 ∧ p = ((b / a : Nat) : Int) ∧ gd S.l 0 = (((2 + b / a : Nat) : Int), ((b / a * c : Nat) : Int)) ∧ gd S.l 1 = (((2 + b / a + b / a * c : Nat) : Int), ((b / a * c : Nat) : Int)) ∧ t = ((2 + b / a + 2 * (b / a * c) : Nat) : Int) := by
  obtain ⟨h1, h2⟩ := per_b ha hb hc
  unfold F73.m F85.m
  rw [if_pos (by omega)]
  simp only [Option.bind_some, tdiv_nat]
  generalize b / a = p at h1 h2 ⊢
  rw [w64 (n := (p : Int)) (by omega) (by omega), ← Int.natCast_mul]
  generalize p * c = q at h2 ⊢
  rw [w64 (n := (q : Int)) (by omega) (by omega), w64 (n := (0 : Int) + 1) (by omega) (by omega), w64 (n := (0 : Int) + 1 + 1) (by omega) (by omega), w64 (n := (0 : Int) + 1 + 1 + (p : Int)) (by omega) (by omega), w64 (n := (0 : Int) + 1 + 1 + (p : Int) + (q : Int)) (by omega) (by omega), w64 (n := (0 : Int) + 1 + 1 + (p : Int) + (q : Int) + (q : Int)) (by omega) (by omega)]
  refine ⟨_, _, _, _, _, rfl, by omega, rfl, ?_, ?_, by omega⟩
  · show ((0 : Int) + 1 + 1 + (p : Int), (q : Int)) = _
    rw [show (0 : Int) + 1 + 1 + (p : Int) = ((2 + p : Nat) : Int) by omega]
  · show ((0 : Int) + 1 + 1 + (p : Int) + (q : Int), (q : Int)) = _
    rw [show (0 : Int) + 1 + 1 + (p : Int) + (q : Int) = ((2 + p + q : Nat) : Int) by omega]
theorem may72 (x1 x2 x3 : Int) : (PP x1 x2 x3 ∧ F72.m x1 x2 x3 = some true) ∨ (¬ PP x1 x2 x3 ∧ F72.m x1 x2 x3 = some false) := by
  unfold F72.m
  rw [in84, Option.bind_some, in84, Option.bind_some, in84, Option.bind_some]
  by_cases h1 : 128 ≤ x1 ∧ x1 ≤ 4096
  · rw [if_pos (by simpa using h1)]
    by_cases h2 : 128 ≤ x2 ∧ x2 ≤ 4096
    · rw [if_pos (by simpa using h2)]
      by_cases h3 : 1 ≤ x3 ∧ x3 ≤ 4096
      · rw [if_pos (by simpa using h3), if_pos (by omega)]
        obtain ⟨a, rfl⟩ := nat_of (show 0 ≤ x1 by omega)
        obtain ⟨b, rfl⟩ := nat_of (show 0 ≤ x2 by omega)
        obtain ⟨c, rfl⟩ := nat_of (show 0 ≤ x3 by omega)
        rw [tmod_nat]
        by_cases h4 : b % a = 0
        · rw [if_pos (by omega)]
          obtain ⟨J, f, p, S, t, e, _, _, _, _, ht⟩ := plan73 a b c (by omega) (by omega) (by omega)
          rw [e, Option.bind_some]
          simp only
          by_cases h5 : 2 + b / a + 2 * (b / a * c) ≤ 1048576
          · rw [decide_eq_true (by omega)]
            exact .inl ⟨⟨h1, h2, h3, h4, h5⟩, rfl⟩
          · rw [decide_eq_false (by omega)]
            exact .inr ⟨fun h => h5 h.2.2.2.2, rfl⟩
        · rw [if_neg (by omega)]
          exact .inr ⟨fun h => h4 h.2.2.2.1, rfl⟩
      · rw [if_neg (by simpa using h3)]
        exact .inr ⟨fun h => h3 h.2.2.1, rfl⟩
    · rw [if_neg (by simpa using h2)]
      exact .inr ⟨fun h => h2 h.2.1, rfl⟩
  · rw [if_neg (by simpa using h1)]
    exact .inr ⟨fun h => h1 h.1, rfl⟩
theorem may30 (x1 x2 x3 : Int) : (PP x1 x2 x3 ∧ F30.m x1 x2 x3 = some true) ∨ (¬ PP x1 x2 x3 ∧ F30.m x1 x2 x3 = some false) := by
  unfold F30.m
  by_cases h1 : 128 ≤ x1 ∧ x1 ≤ 4096
  · rw [if_neg (by omega), if_neg (by omega)]
    by_cases h2 : 128 ≤ x2 ∧ x2 ≤ 4096
    · rw [if_neg (by omega), if_neg (by omega)]
      by_cases h3 : 1 ≤ x3 ∧ x3 ≤ 4096
      · rw [if_neg (by omega), if_neg (by omega), if_pos (by omega)]
        obtain ⟨a, rfl⟩ := nat_of (show 0 ≤ x1 by omega)
        obtain ⟨b, rfl⟩ := nat_of (show 0 ≤ x2 by omega)
        obtain ⟨c, rfl⟩ := nat_of (show 0 ≤ x3 by omega)
        rw [tmod_nat, tdiv_nat]
        by_cases h4 : b % a = 0
        · rw [if_pos (by omega)]
          obtain ⟨p1, p2⟩ := per_b (a := a) (b := b) (c := c) (by omega) (by omega) (by omega)
          have hPP : PP (a : Int) (b : Int) (c : Int) ↔ 2 + b / a + 2 * (b / a * c) ≤ 1048576 := ⟨fun h => h.2.2.2.2, fun h => ⟨h1, h2, h3, h4, h⟩⟩
          generalize b / a = p at p1 p2 hPP ⊢
          have e : (2 : Int) * (c : Int) * (p : Int) = ((2 * (p * c) : Nat) : Int) := by
            rw [Int.natCast_mul 2, Int.natCast_mul p, Int.mul_assoc, Int.mul_comm (c : Int)]; rfl
          rw [w64 (n := (p : Int)) (by omega) (by omega), w64 (n := (2 : Int) * (c : Int)) (by omega) (by omega), e, w64 (n := ((2 * (p * c) : Nat) : Int)) (by omega) (by omega), w64 (n := (2 : Int) + (p : Int)) (by omega) (by omega), w64 (by omega) (by omega)]
          by_cases h5 : 2 + p + 2 * (p * c) ≤ 1048576
          · rw [decide_eq_true (by omega)]
            exact .inl ⟨hPP.2 h5, rfl⟩
          · rw [decide_eq_false (by omega)]
            exact .inr ⟨fun h => h5 (hPP.1 h), rfl⟩
        · rw [if_neg (by omega)]
          exact .inr ⟨fun h => h4 h.2.2.2.1, rfl⟩
      · refine .inr ⟨fun h => h3 h.2.2.1, ?_⟩
        by_cases c : x3 < 1
        · rw [if_pos c]
        · rw [if_neg c, if_pos (by omega)]
    · refine .inr ⟨fun h => h2 h.2.1, ?_⟩
      by_cases c : x2 < 128
      · rw [if_pos c]
      · rw [if_neg c, if_pos (by omega)]
  · refine .inr ⟨fun h => h1 h.1, ?_⟩
    by_cases c : x1 < 128
    · rw [if_pos c]
    · rw [if_neg c, if_pos (by omega)]
theorem part56 (s n x9 x10 : Int) (f k : Int) (hn : 1 ≤ n ∧ n ≤ 1000) (hf : -9223372036854774000 ≤ f ∧ f ≤ 9223372036854774000) : F56_1.m s n false 0 false x9 x10 f k = some (if 0 ≤ f ∧ 1 ≤ k ∧ f + k ≤ n then .inr () else .inl ()) := by
  unfold F56_1.m F74_1.m
  by_cases c1 : f < 0
  · rw [if_pos c1, if_neg (by omega)]
  rw [if_neg c1]
  by_cases c2 : k < 1
  · rw [if_pos c2, if_neg (by omega)]
  rw [if_neg c2, Option.bind_some]
  by_cases c3 : n < f
  · rw [if_pos c3, if_neg (by omega)]
  rw [if_neg c3, Option.bind_some, w64 (by omega) (by omega)]
  by_cases c4 : n - f < k
  · rw [if_pos c4, if_neg (by omega)]
  · rw [if_neg c4, if_pos (by omega)]
def RI (s n x1 x2 x3 : Int) : Prop := PP x1 x2 x3 ∧ s = x1 ∧ (tall x1 x2 x3 : Int) ≤ n
theorem open29 (s n x1 x2 x3 : Int) (hn : 1 ≤ n ∧ n ≤ 1000) : (RI s n x1 x2 x3 ∧ ∃ y, F29_1.m s n false 0 false 0 0 x1 x2 x3 = some (.inr y)) ∨ (¬ RI s n x1 x2 x3 ∧ F29_1.m s n false 0 false 0 0 x1 x2 x3 = some (.inl ())) := by
  unfold F29_1.m F54.m
  rcases may72 x1 x2 x3 with ⟨h, e⟩ | ⟨h, e⟩
  · rw [e, Option.bind_some, if_pos rfl]
    have hP := h
    obtain ⟨h1, h2, h3, h4, h5⟩ := h
    obtain ⟨a, rfl⟩ := nat_of (show 0 ≤ x1 by omega)
    obtain ⟨b, rfl⟩ := nat_of (show 0 ≤ x2 by omega)
    obtain ⟨c, rfl⟩ := nat_of (show 0 ≤ x3 by omega)
    obtain ⟨p1, p2⟩ := per_b (a := a) (b := b) (c := c) (by omega) (by omega) (by omega)
    obtain ⟨J, f, p, S, t, e2, rfl, rfl, g0, g1, ht⟩ := plan73 a b c (by omega) (by omega) (by omega)
    have ht' : tall (a : Int) (b : Int) (c : Int) = 2 + b / a + 2 * (b / a * c) := rfl
    have h4' : b % a = 0 := h4
    have hp1 : 1 ≤ b / a := by
      rcases Nat.eq_zero_or_pos (b / a) with h0 | h0
      · have := Nat.div_add_mod b a; rw [h0, h4'] at this; omega
      · exact h0
    have hq1 : 1 ≤ b / a * c := Nat.mul_pos hp1 (by omega)
    rw [e2, Option.bind_some]
    unfold F55_1.m
    simp only [Option.bind_some]
    rw [if_pos trivial]
    by_cases hs : s = (a : Int)
    · rw [if_pos hs, g0, g1]
      simp only
      rw [part56 _ _ _ _ _ _ hn (by omega), Option.bind_some]
      by_cases k1 : 0 ≤ ((2 + b / a : Nat) : Int) ∧ 1 ≤ ((b / a * c : Nat) : Int) ∧ ((2 + b / a : Nat) : Int) + ((b / a * c : Nat) : Int) ≤ n
      · rw [if_pos k1]
        simp only
        rw [part56 _ _ _ _ _ _ hn (by omega), Option.bind_some]
        by_cases k2 : 0 ≤ ((2 + b / a + b / a * c : Nat) : Int) ∧ 1 ≤ ((b / a * c : Nat) : Int) ∧ ((2 + b / a + b / a * c : Nat) : Int) + ((b / a * c : Nat) : Int) ≤ n
        · rw [if_pos k2]
          simp only [F29_1.j1]
          rw [part56 _ _ _ _ _ _ hn (by omega), Option.bind_some, if_pos (by omega)]
          exact .inl ⟨⟨hP, hs, by rw [ht']; omega⟩, _, rfl⟩
        · rw [if_neg k2]
          exact .inr ⟨fun h => by have := h.2.2; rw [ht'] at this; omega, rfl⟩
      · rw [if_neg k1]
        exact .inr ⟨fun h => by have := h.2.2; rw [ht'] at this; omega, rfl⟩
    · rw [if_neg hs]
      exact .inr ⟨fun h => hs h.2.1, rfl⟩
  · rw [e, Option.bind_some, if_neg (by simp), Option.bind_some]
    simp only
    rw [if_neg (by omega)]
    exact .inr ⟨fun h' => h h'.1, rfl⟩
theorem new28 (s n : Int) (hs : 128 ≤ s ∧ s ≤ 4096) (hn : 1 ≤ n ∧ n ≤ 1000) : F28.m s n = some (.inr ()) := by
  unfold F28.m
  rw [if_neg (by omega), if_neg (by omega), if_neg (by omega), if_neg (by omega)]
theorem awake27 : F27.m = some true := by
  unfold F27.m
  rw [new28 128 9 (by omega) (by omega), Option.bind_some]
  simp only
  have p3 : RI 128 9 128 128 3 := ⟨⟨by omega, by omega, by omega, by decide, by decide⟩, rfl, by decide⟩
  have p4 : ¬ RI 128 9 128 128 4 := fun h => absurd h.2.2 (by decide)
  rcases open29 128 9 128 128 3 (by omega) with ⟨_, y, e⟩ | ⟨h, _⟩
  · rcases open29 128 9 128 128 4 (by omega) with ⟨h, _⟩ | ⟨_, e4⟩
    · exact absurd h p4
    · rw [e, Option.bind_some]
      simp only
      rw [e4, Option.bind_some]
      simp only [F38_1.m, Option.bind_some]
      rfl
  · exact absurd p3 h
theorem lay31 (x1 x2 x3 : Int) (h : PP x1 x2 x3) : ∃ J p S, F31.m x1 x2 x3 = some (J, p, S, (tall x1 x2 x3 : Int)) := by
  obtain ⟨h1, h2, h3, h4, h5⟩ := h
  obtain ⟨a, rfl⟩ := nat_of (show 0 ≤ x1 by omega)
  obtain ⟨b, rfl⟩ := nat_of (show 0 ≤ x2 by omega)
  obtain ⟨c, rfl⟩ := nat_of (show 0 ≤ x3 by omega)
  obtain ⟨p1, p2⟩ := per_b (a := a) (b := b) (c := c) (by omega) (by omega) (by omega)
  have ht' : tall (a : Int) (b : Int) (c : Int) = 2 + b / a + 2 * (b / a * c) := rfl
  unfold F31.m
  rw [ht', if_pos (by omega), tdiv_nat]
  generalize b / a = p at p1 p2 ⊢
  rw [w64 (n := (p : Int)) (by omega) (by omega), ← Int.natCast_mul, w64 (n := ((p * c : Nat) : Int)) (by omega) (by omega), w64 (n := (2 : Int) + (p : Int)) (by omega) (by omega), w64 (n := (2 : Int) * ((p * c : Nat) : Int)) (by omega) (by omega), w64 (n := (2 : Int) + (p : Int) + (2 : Int) * ((p * c : Nat) : Int)) (by omega) (by omega)]
  rw [show (2 : Int) + (p : Int) + (2 : Int) * ((p * c : Nat) : Int) = ((2 + p + 2 * (p * c) : Nat) : Int) by omega]
  exact ⟨_, _, _, rfl⟩
theorem last9 (x7 x8 x9 x10 x11 : Int) (l : List Int) : F10.j9 x7 x8 x9 x10 x11 l false = some true := by
  unfold F10.j9
  rw [if_neg (by simp)]
  simp only [F32.m, F33.m, F34.m, F35.m, F36.m, F37.m, F38_2.m, Option.bind_some, if_true, F10.j10, awake27]
theorem last12 (x7 x8 x9 x10 x11 : Int) (l : List Int) : F10.j12 x7 x8 x9 x10 x11 l false = some true := by
  unfold F10.j12
  rw [if_neg (by simp)]
  simp only [F32.m, F33.m, F34.m, F35.m, F36.m, F37.m, F38_2.m, Option.bind_some, if_true, F10.j13, awake27]
theorem law10 (x1 x2 x3 x4 x5 x7 x8 x9 x10 x11 : Int) (l : List Int) (h4 : 128 ≤ x4 ∧ x4 ≤ 4096) (h5 : 1 ≤ x5 ∧ x5 ≤ 1000) : F10.j1 x1 x2 x3 x4 x5 x7 x8 x9 x10 x11 l false = some true := by
  unfold F10.j1
  rw [if_neg (by simp), new28 x4 x5 h4 h5, Option.bind_some]
  simp only
  obtain ⟨rb, hrb⟩ : ∃ rb : Bool, (rb = true ↔ RI x4 x5 x1 x2 x3) := by
    by_cases h : RI x4 x5 x1 x2 x3
    · exact ⟨true, by simp [h]⟩
    · exact ⟨false, by simp [h]⟩
  have no : ¬ RI x4 x5 x1 x2 x3 → rb = false := fun h => by
    cases rb with
    | false => rfl
    | true => exact absurd (hrb.1 rfl) h
  have right : ∀ k : Bool → Option Bool, ((F30.m x1 x2 x3).bind fun y => if y = true then (if x1 = x4 then (F31.m x1 x2 x3).bind fun z => k (decide (z.2.2.2 ≤ x5)) else k false) else k false) = k rb := fun k => by
    rcases may30 x1 x2 x3 with ⟨h, e⟩ | ⟨h, e⟩
    · rw [e, Option.bind_some, if_pos rfl]
      by_cases hs : x1 = x4
      · obtain ⟨J, p, S, e2⟩ := lay31 x1 x2 x3 h
        rw [if_pos hs, e2, Option.bind_some]
        simp only
        congr 1
        rw [Bool.eq_iff_iff, decide_eq_true_iff, hrb]
        exact ⟨fun h2 => ⟨h, hs.symm, h2⟩, fun h2 => h2.2.2⟩
      · rw [if_neg hs, no (fun h2 => hs h2.2.1.symm)]
    · rw [e, Option.bind_some, if_neg (by simp), no (fun h2 => h h2.1)]
  rcases open29 x4 x5 x1 x2 x3 h5 with ⟨h, y, e⟩ | ⟨h, e⟩
  · rw [e, Option.bind_some]
    simp only
    rw [if_pos trivial, right (fun d => F10.j11 x7 x8 x9 x10 x11 l d), hrb.2 h]
    unfold F10.j11
    rw [if_pos (by decide), if_pos (by decide), if_pos rfl, last12]
  · rw [e, Option.bind_some]
    simp only
    rw [if_pos trivial, right (fun d => F10.j8 x7 x8 x9 x10 x11 l d), no h]
    unfold F10.j8
    rw [if_pos (by decide), if_pos (by decide), if_neg (by decide)]
    exact last9 _ _ _ _ _ _
theorem pure_ImageWrong (a0 : (Int × Int × Int)) (a1 : Int) (a2 : Int) (a3 : (Int × Int × Int × Int × Int × Int × (List Int) × (List Int))) (w0 : (InR .i64 a0.1 ∧ InR .i64 a0.2.1 ∧ InR .i64 a0.2.2)) (w1 : InR .i64 a1) (w2 : InR .i64 a2) (w3 : (InR .i64 a3.1 ∧ InR .i64 a3.2.1 ∧ InR .i64 a3.2.2.1 ∧ InR .i64 a3.2.2.2.1 ∧ InR .i64 a3.2.2.2.2.1 ∧ InR .u8 a3.2.2.2.2.2.1 ∧ ((∀ y ∈ a3.2.2.2.2.2.2.1, InR .u8 y) ∧ (a3.2.2.2.2.2.2.1).length ≤ maxLen) ∧ ((∀ y ∈ a3.2.2.2.2.2.2.2, InR .u8 y) ∧ (a3.2.2.2.2.2.2.2).length ≤ maxLen))) :
    F10.m (a0.1) (a0.2.1) (a0.2.2) a1 a2 (a3.1) (a3.2.1) (a3.2.2.1) (a3.2.2.2.1) (a3.2.2.2.2.1) (a3.2.2.2.2.2.1) (a3.2.2.2.2.2.2.1) (a3.2.2.2.2.2.2.2) = some true := by
  unfold F10.m
  have yes : ∀ x1 x2 x3 x4 x5 x7 x8 x9 x10 x11 l, F10.j1 x1 x2 x3 x4 x5 x7 x8 x9 x10 x11 l true = some true := fun x1 x2 x3 x4 x5 x7 x8 x9 x10 x11 l => by
    unfold F10.j1
    rw [if_pos rfl, awake27]
    rfl
  by_cases c1 : a1 < 128
  · rw [if_pos c1, yes]
  rw [if_neg c1]
  by_cases c2 : 4096 < a1
  · rw [if_pos c2, yes]
  rw [if_neg c2]
  by_cases c3 : a2 < 1
  · rw [if_pos c3, yes]
  rw [if_neg c3]
  by_cases c4 : 1000 < a2
  · rw [if_pos c4, yes]
  rw [if_neg c4]
  by_cases c5 : (1000 : Int) < (a3.2.2.2.2.2.2.1.length : Int)
  · rw [decide_eq_true c5, yes]
  · rw [decide_eq_false c5]
    exact law10 _ _ _ _ _ _ _ _ _ _ _ (by omega) (by omega)
end Go.Proofs.Ytgganckggdjpaaa
