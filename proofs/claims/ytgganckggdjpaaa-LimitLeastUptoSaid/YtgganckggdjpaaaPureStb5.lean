/- What Stb5 needs. -/
import Derived.Test.YtgganckggdjpaaaPureStb4
set_option linter.unusedVariables false
set_option linter.unusedSimpArgs false
namespace Go.Proofs.Ytgganckggdjpaaa
open Go Go.Eng Go.Proofs
/-! ### The stable sort -/
def Blk (B c : Nat) (L : List Lp) : Prop := ∀ k i j : Nat, k * B ≤ i → i ≤ j → j < k * B + B → j < c → lex (gd L (i : Int)) (gd L (j : Int))
def Cut (B n : Nat) (L : List Lp) : Prop := ∀ k i j : Nat, i < k * B → k * B ≤ j → j < n → (gd L (i : Int)).2 < (gd L (j : Int)).2
theorem Cut.mix {B n k b : Nat} {L M : List Lp} (h : Cut B n L) (hr : Rng (k * B) b L M) (hb : b ≤ k * B + B) (hbn : b ≤ n) : Cut B n M := by
  have key : ∀ q i : Nat, i < n → ∃ i' : Nat, i' < n ∧ gd M (i : Int) = gd L (i' : Int) ∧ (i < q * B → i' < q * B) ∧ (q * B ≤ i → q * B ≤ i') := fun q i hi => by
    by_cases c : k * B ≤ i ∧ i < b
    · obtain ⟨j, h1, h2, h3⟩ := hr.inn i c.1 c.2
      refine ⟨j, by omega, h3, fun h4 => ?_, fun h4 => ?_⟩
      · have : k < q := Nat.lt_of_not_le fun hx => by have := Nat.mul_le_mul_right B hx; omega
        have : (k + 1) * B ≤ q * B := Nat.mul_le_mul_right B this
        rw [Nat.add_mul] at this; omega
      · have : q ≤ k := Nat.le_of_not_lt fun hx => by
          have := Nat.mul_le_mul_right B (show k + 1 ≤ q from hx)
          rw [Nat.add_mul] at this; omega
        have := Nat.mul_le_mul_right B this
        omega
    · exact ⟨i, hi, hr.out i c, id, id⟩
  intro q i j h1 h2 h3
  by_cases hi : i < n
  · obtain ⟨i', h4, h5, h6, _⟩ := key q i hi
    obtain ⟨j', h7, h8, _, h9⟩ := key q j h3
    rw [h5, h8]
    exact h q i' j' (h6 h1) (h9 h2) h7
  · omega
theorem F68_ins {n : Nat} (L : List Lp) (hn : L.length = n) (hl : n ≤ 1000000) (hu : Ris 0 n L) :
    ∃ M, F68_1.m (dat L) (n : Int) = ((loop (F68_1.b1 (n : Int)) (dat M, (20 : Int))).bind fun y => match y with | d13 => F68_1.j2 (d13)) ∧ M.Perm L ∧ Blk 20 n M ∧ Cut 20 n M := by
  unfold F68_1.m
  obtain ⟨⟨d, aa⟩, hy, k, M, hd, ha, hak, hr, hb, hc, ho⟩ := loop_ends (b := F68_1.b3 (n : Int)) (fun s => ∃ (k : Nat) (M : List Lp), s.1 = dat M ∧ s.2.1 = ((k * 20 : Nat) : Int) ∧ s.2.2 = ((k * 20 + 20 : Nat) : Int) ∧ k * 20 ≤ n ∧ M.Perm L ∧ Blk 20 (k * 20) M ∧ Cut 20 n M ∧ ∀ i : Nat, k * 20 ≤ i → gd M (i : Int) = gd L (i : Int)) (fun s => n - s.2.1.toNat)
    (fun y => ∃ (k : Nat) (M : List Lp), y.1 = dat M ∧ y.2 = ((k * 20 : Nat) : Int) ∧ (k * 20 ≤ n ∧ n < k * 20 + 20) ∧ M.Perm L ∧ Blk 20 (k * 20) M ∧ Cut 20 n M ∧ ∀ i : Nat, k * 20 ≤ i → gd M (i : Int) = gd L (i : Int)) (fun s hS => by
    obtain ⟨d, aa, bb⟩ := s
    obtain ⟨k, M, hd, ha, hbb, hkn, hr, hb, hc, ho⟩ := hS
    simp only at hd ha hbb
    subst hd; subst ha; subst hbb
    have hlen := hr.length_eq
    unfold F68_1.b3
    dsimp only
    by_cases h1 : ((k * 20 + 20 : Nat) : Int) ≤ (n : Int)
    · rw [if_pos h1]
      obtain ⟨M', h2, h3, h4⟩ := F79_is (a := k * 20) (b := k * 20 + 20) M (by omega) (by omega) (by omega) (fun i j h5 h6 h7 => by rw [ho i h5, ho j (by omega)]; exact hu i j (by omega) h6 (by omega))
      rw [h2, Option.bind_some]
      have e1 : IntKind.wrap .i64 (((k * 20 + 20 : Nat) : Int) + 20) = (((k + 1) * 20 + 20 : Nat) : Int) := by rw [w64 (by omega) (by omega)]; omega
      rw [e1]
      refine ⟨_, rfl, fun s' hs' => ?_, fun r hr => by cases hr⟩
      cases hs'
      refine ⟨⟨k + 1, M', rfl, by simp only; omega, rfl, by omega, h3.perm.trans hr, fun q i j h5 h6 h7 h8 => ?_, hc.mix h3 (by omega) (by omega), fun i h5 => ?_⟩, by simp only; omega⟩
      · by_cases c1 : q = k
        · subst c1
          exact h4 i j (by omega) h6 (by omega)
        · rw [h3.out i (by omega), h3.out j (by omega)]
          exact hb q i j h5 h6 h7 (by omega)
      · rw [h3.out i (by omega)]; exact ho i (by omega)
    · rw [if_neg h1]
      refine ⟨_, rfl, fun s' hs' => (by cases hs'), fun r hr' => ?_⟩
      cases hr'
      exact ⟨k, M, rfl, rfl, ⟨hkn, by omega⟩, hr, hb, hc, ho⟩) (dat L, (0 : Int), (20 : Int)) ⟨0, L, rfl, rfl, rfl, by omega, .refl _, fun q i j h5 h6 h7 h8 => by omega, fun q i j h5 h6 h7 => hu i j (by omega) (by omega) h7, fun i _ => rfl⟩
  simp only at hd ha
  subst hd; subst ha
  have hlen := hr.length_eq
  rw [hy, Option.bind_some]
  dsimp only
  unfold F68_1.j1
  obtain ⟨M', h2, h3, h4⟩ := F79_is (a := k * 20) (b := n) M (by omega) (by omega) (by omega) (fun i j h5 h6 h7 => by rw [ho i h5, ho j (by omega)]; exact hu i j (by omega) h6 (by omega))
  rw [h2, Option.bind_some]
  refine ⟨M', rfl, h3.perm.trans hr, fun q i j h5 h6 h7 h8 => ?_, hc.mix h3 (by omega) (by omega)⟩
  by_cases c1 : q = k
  · subst c1
    exact h4 i j (by omega) h6 (by omega)
  · rw [h3.out i (by omega), h3.out j (by omega)]
    exact hb q i j h5 h6 h7 (by omega)
/-- One round: blocks of B become blocks of two B. -/
theorem F68_round {n B : Nat} (L : List Lp) (hn : L.length = n) (hl : n ≤ 1000000) (hB : 0 < B) (hBn : B < n) (hb : Blk B n L) (hc : Cut B n L) :
    ∃ M, F68_1.b1 (n : Int) (dat L, (B : Int)) = some (.inl (dat M, ((2 * B : Nat) : Int))) ∧ M.Perm L ∧ Blk (2 * B) n M ∧ Cut (2 * B) n M := by
  have e2 : ∀ k, k * (2 * B) = (2 * k) * B := fun k => by rw [← Nat.mul_assoc, Nat.mul_comm k 2]
  have e3 : ∀ k, (2 * k + 1) * B = (2 * k) * B + B := fun k => by rw [Nat.add_mul, Nat.one_mul]
  have e4 : ∀ k, (k + 1) * (2 * B) = k * (2 * B) + 2 * B := fun k => by rw [Nat.add_mul, Nat.one_mul]
  have hc2 : Cut (2 * B) n L := fun k i j h1 h2 h3 => hc (2 * k) i j (by rw [← e2]; exact h1) (by rw [← e2]; exact h2) h3
  unfold F68_1.b1
  dsimp only
  rw [if_pos (by omega)]
  have w2 : IntKind.wrap .i64 ((2 : Int) * (B : Int)) = ((2 * B : Nat) : Int) := by rw [w64 (by omega) (by omega)]; omega
  have w2' : IntKind.wrap .i64 ((B : Int) * (2 : Int)) = ((2 * B : Nat) : Int) := by rw [w64 (by omega) (by omega)]; omega
  rw [w2]
  -- a merge at the place k, up to b
  have step : ∀ (k b : Nat) (M : List Lp), M.length = n → k * (2 * B) + B < b → b ≤ k * (2 * B) + 2 * B → b ≤ n → Blk (2 * B) (k * (2 * B)) M → Cut (2 * B) n M → (∀ i : Nat, k * (2 * B) ≤ i → gd M (i : Int) = gd L (i : Int)) →
      ∃ M', F80_1.m (dat M) ((k * (2 * B) : Nat) : Int) ((k * (2 * B) + B : Nat) : Int) (b : Int) = some (dat M') ∧ M'.Perm M ∧ Blk (2 * B) b M' ∧ Cut (2 * B) n M' ∧ (∀ i : Nat, b ≤ i → gd M' (i : Int) = gd L (i : Int)) := by
    intro k b M hM h1 h2 h3 h4 h5 h6
    obtain ⟨M', h7, h8, h9⟩ := F80_is (a := k * (2 * B)) (m := k * (2 * B) + B) (b := b) M (by omega) h1 (by omega) (by omega)
      (fun i j q1 q2 q3 => by rw [h6 i q1, h6 j (by omega)]; exact hb (2 * k) i j (by rw [← e2]; exact q1) q2 (by rw [← e2]; exact q3) (by omega))
      (fun i j q1 q2 q3 => by rw [h6 i (by omega), h6 j (by omega)]; exact hb (2 * k + 1) i j (by rw [e3, ← e2]; exact q1) q2 (by rw [e3, ← e2]; omega) (by omega))
      (fun i j q1 q2 q3 q4 => by rw [h6 i q1, h6 j (by omega)]; exact hc (2 * k + 1) i j (by rw [e3, ← e2]; exact q2) (by rw [e3, ← e2]; exact q3) (by omega))
    refine ⟨M', h7, h8.perm, fun q i j q1 q2 q3 q4 => ?_, h5.mix h8 h2 h3, fun i q1 => by rw [h8.out i (by omega)]; exact h6 i (by omega)⟩
    by_cases c1 : q = k
    · subst c1
      exact h9 i j q1 q2 q4
    · have c2 : q < k := Nat.lt_of_not_le fun hx => by
        have hx' : k + 1 ≤ q := by omega
        have := Nat.mul_le_mul_right (2 * B) hx'
        rw [e4] at this; omega
      have := Nat.mul_le_mul_right (2 * B) (show q + 1 ≤ k from c2)
      rw [e4] at this
      rw [h8.out i (by omega), h8.out j (by omega)]
      exact h4 q i j q1 q2 q3 (by omega)
  obtain ⟨⟨d, aa⟩, hy, k, M, hd, ha, hak, hr, hb', hc', ho⟩ := loop_ends (b := F68_1.b2 (n : Int) (B : Int)) (fun s => ∃ (k : Nat) (M : List Lp), s.1 = dat M ∧ s.2.1 = ((k * (2 * B) : Nat) : Int) ∧ s.2.2 = ((k * (2 * B) + 2 * B : Nat) : Int) ∧ k * (2 * B) ≤ n ∧ M.Perm L ∧ Blk (2 * B) (k * (2 * B)) M ∧ Cut (2 * B) n M ∧ ∀ i : Nat, k * (2 * B) ≤ i → gd M (i : Int) = gd L (i : Int)) (fun s => n - s.2.1.toNat)
    (fun y => ∃ (k : Nat) (M : List Lp), y.1 = dat M ∧ y.2 = ((k * (2 * B) : Nat) : Int) ∧ (k * (2 * B) ≤ n ∧ n < k * (2 * B) + 2 * B) ∧ M.Perm L ∧ Blk (2 * B) (k * (2 * B)) M ∧ Cut (2 * B) n M ∧ ∀ i : Nat, k * (2 * B) ≤ i → gd M (i : Int) = gd L (i : Int)) (fun s hS => by
    obtain ⟨d, aa, bb⟩ := s
    obtain ⟨k, M, hd, ha, hbb, hkn, hr, hb', hc', ho⟩ := hS
    simp only at hd ha hbb
    subst hd; subst ha; subst hbb
    have hlen := hr.length_eq
    unfold F68_1.b2
    dsimp only
    by_cases h1 : ((k * (2 * B) + 2 * B : Nat) : Int) ≤ (n : Int)
    · rw [if_pos h1]
      obtain ⟨M', h2, h3, h4, h5, h6⟩ := step k (k * (2 * B) + 2 * B) M (by omega) (by omega) (by omega) (by omega) hb' hc' ho
      have e5 := e4 k
      rw [wad _ _ (by omega) (by omega), h2, Option.bind_some, w2, wad _ _ (by omega) (by omega)]
      refine ⟨_, rfl, fun s' hs' => ?_, fun r hr => by cases hr⟩
      cases hs'
      refine ⟨⟨k + 1, M', rfl, by simp only; rw [e5], by simp only; rw [e5], by omega, h3.trans hr, by rw [e5]; exact h4, h5, fun i q1 => h6 i (by omega)⟩, by simp only; omega⟩
    · rw [if_neg h1]
      refine ⟨_, rfl, fun s' hs' => (by cases hs'), fun r hr' => ?_⟩
      cases hr'
      exact ⟨k, M, rfl, rfl, ⟨hkn, by omega⟩, hr, hb', hc', ho⟩) (dat L, (0 : Int), ((2 * B : Nat) : Int)) ⟨0, L, rfl, by simp, by simp, by omega, .refl _, fun q i j h5 h6 h7 h8 => by omega, hc2, fun i _ => rfl⟩
  simp only at hd ha
  subst hd; subst ha
  have hlen := hr.length_eq
  rw [hy, Option.bind_some]
  dsimp only
  unfold F68_1.j4
  rw [wad _ _ (by omega) (by omega)]
  by_cases h1 : ((k * (2 * B) + B : Nat) : Int) < (n : Int)
  · rw [if_pos h1]
    obtain ⟨M', h2, h3, h4, h5, h6⟩ := step k n M (by omega) (by omega) (by omega) (by omega) hb' hc' ho
    rw [h2, Option.bind_some]
    unfold F68_1.j5 F68_1.j3
    rw [w2']
    exact ⟨M', rfl, h3.trans hr, h4, h5⟩
  · rw [if_neg h1]
    unfold F68_1.j5 F68_1.j3
    rw [w2']
    refine ⟨M, rfl, hr, fun q i j q1 q2 q3 q4 => ?_, hc'⟩
    by_cases c1 : q = k
    · subst c1
      rw [ho i q1, ho j (by omega)]
      exact hb (2 * q) i j (by rw [← e2]; exact q1) q2 (by rw [← e2]; omega) (by omega)
    · have c2 : q < k := Nat.lt_of_not_le fun hx => by
        have hx' : k + 1 ≤ q := by omega
        have := Nat.mul_le_mul_right (2 * B) hx'
        rw [e4] at this; omega
      have := Nat.mul_le_mul_right (2 * B) (show q + 1 ≤ k from c2)
      rw [e4] at this
      exact hb' q i j q1 q2 q3 (by omega)
theorem F68_is {n : Nat} (L : List Lp) (hn : L.length = n) (hl : n ≤ 1000000) (hu : Ris 0 n L) :
    ∃ M, F68_1.m (dat L) (n : Int) = some (dat M) ∧ M.Perm L ∧ Srt lex 0 n M := by
  obtain ⟨M, h1, h2, h3, h4⟩ := F68_ins L hn hl hu
  rw [h1]
  obtain ⟨y, hy, M', rfl, hp, hs⟩ := loop_ends (b := F68_1.b1 (n : Int)) (fun s => ∃ (B : Nat) (M : List Lp), s.1 = dat M ∧ s.2 = (B : Int) ∧ 0 < B ∧ M.Perm L ∧ Blk B n M ∧ Cut B n M) (fun s => n - s.2.toNat) (fun y => ∃ M, y = dat M ∧ M.Perm L ∧ Srt lex 0 n M) (fun s hS => by
    obtain ⟨d, bb⟩ := s
    obtain ⟨B, M, hd, hB, hB0, hr, hb, hc⟩ := hS
    simp only at hd hB
    subst hd; subst hB
    have hlen := hr.length_eq
    by_cases h1 : B < n
    · obtain ⟨M', h5, h6, h7, h8⟩ := F68_round M (by omega) hl hB0 h1 hb hc
      rw [h5]
      refine ⟨_, rfl, fun s' hs' => ?_, fun r hr => by cases hr⟩
      cases hs'
      exact ⟨⟨2 * B, M', rfl, rfl, by omega, h6.trans hr, h7, h8⟩, by simp only; omega⟩
    · unfold F68_1.b1
      dsimp only
      rw [if_neg (by omega)]
      refine ⟨_, rfl, fun s' hs' => (by cases hs'), fun r hr' => ?_⟩
      cases hr'
      exact ⟨M, rfl, hr, fun i j h5 h6 h7 => hb 0 i j (by omega) h6 (by omega) h7⟩) (dat M, (20 : Int)) ⟨20, M, rfl, rfl, by omega, h2, h3, h4⟩
  rw [hy, Option.bind_some]
  exact ⟨M', rfl, hp, hs⟩
/-- The stable sort: the same, in order, by weights and, where they are the same, by places. -/
theorem F47_is (xs : List Pk) (hl : xs.length ≤ 1000000) : ∃ M : List Lp, F47_1.m xs = some (dat M) ∧ M.Perm xs.zipIdx ∧ M.Pairwise lex := by
  have hz : dat xs.zipIdx = xs := by
    unfold dat
    rw [List.zipIdx_map_fst]
  have hg : ∀ i : Nat, i < xs.length → (gd xs.zipIdx (i : Int)).2 = i := fun i hi => by
    rw [gd_at _ _ (by simpa using hi)]; simp
  obtain ⟨M, h1, h2, h3⟩ := F68_is (n := xs.length) xs.zipIdx (by simp) hl (fun i j _ h4 h5 => by rw [hg i (by omega), hg j h5]; exact h4)
  refine ⟨M, ?_, h2, ?_⟩
  · unfold F47_1.m
    rw [hz] at h1
    rw [h1]
    rfl
  · have hlen := h2.length_eq
    rw [List.length_zipIdx] at hlen
    rw [List.pairwise_iff_getElem]
    intro i j hi hj hij
    have := h3 i j (by omega) (by omega) (by omega)
    rwa [gd_at _ _ hi, gd_at _ _ hj] at this
end Go.Proofs.Ytgganckggdjpaaa
