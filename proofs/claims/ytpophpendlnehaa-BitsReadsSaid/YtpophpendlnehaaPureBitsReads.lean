/- What BitsReads needs. -/
import Derived.Test.YtpophpendlnehaaPureBitK
import Derived.Test.YtpophpendlnehaaYBitsReads
set_option linter.unusedVariables false
set_option linter.unusedSimpArgs false
namespace Go.Proofs.Ytpophpendlnehaa
open Go Go.Eng Go.Proofs
theorem great_is (l : List (Int × Int × Int × List Int)) (hl : l.length ≤ maxLen) : ∃ r, F25.m l = some r ∧ (r = false → l.length ≤ 100 ∧ ∀ o ∈ l, o.2.2.2.length ≤ 100) := by
  unfold F25.m
  by_cases h : (100 : Int) < (l.length : Int)
  · rw [if_pos h]; exact ⟨true, rfl, by simp⟩
  · rw [if_neg h]
    obtain ⟨y, hy, hq⟩ := loop_ends (b := F25.b1 l) (fun i => ∃ k : Nat, i = k ∧ k ≤ l.length ∧ ∀ j (hj : j < l.length), j < k → l[j].2.2.2.length ≤ 100) (fun i => l.length - i.toNat) (fun y => y = .inl true ∨ y = .inr () ∧ ∀ o ∈ l, o.2.2.2.length ≤ 100) (fun x hx => by
      obtain ⟨k, rfl, hk, hall⟩ := hx
      simp only [F25.b1]
      by_cases a : k < l.length
      · rw [if_pos (by omega), if_pos (by omega), gd_at _ _ a]
        by_cases c : (100 : Int) < (l[k].2.2.2.length : Int)
        · rw [if_pos c]
          exact ⟨_, rfl, fun x' h => by simp at h, fun y h => by simp at h; exact .inl h.symm⟩
        · rw [if_neg c]
          refine ⟨_, rfl, fun x' h => ?_, fun y h => by simp at h⟩
          simp only [Sum.inl.injEq] at h
          subst h
          rw [w64 (by omega) (by omega)]
          refine ⟨⟨k + 1, by simp, by omega, fun j hj hlt => ?_⟩, by omega⟩
          by_cases e : j = k
          · subst e; omega
          · exact hall j hj (by omega)
      · rw [if_neg (by omega)]
        refine ⟨_, rfl, fun x' h => by simp at h, fun y h => ?_⟩
        simp only [Sum.inr.injEq] at h
        refine .inr ⟨h.symm, fun o ho => ?_⟩
        obtain ⟨j, hj, rfl⟩ := List.mem_iff_getElem.1 ho
        exact hall j hj (by omega)) 0 ⟨0, rfl, by omega, fun j hj h => by omega⟩
    rw [hy]
    rcases hq with rfl | ⟨rfl, hall⟩
    · exact ⟨true, rfl, by simp⟩
    · exact ⟨false, rfl, fun _ => ⟨by omega, hall⟩⟩

theorem value_is (l : List Int) (h : b01 l) (hl : l.length ≤ 32) : F40.m l = some (pvl l) := by
  unfold F40.m
  rw [w64 (by omega) (by omega), loop_done (fun k => (pvl (l.drop (l.length - k)), (l.length : Int) - 1 - k)) l.length (pvl l) (fun k hk => ?_) ?_ (by simp [pvl])]
  · rfl
  · simp only [F40.b1]
    rw [if_neg (by omega)]
    simp
  · simp only [F40.b1]
    have e : (l.length : Int) - 1 - k = ((l.length - 1 - k : Nat) : Int) := by omega
    have hx := h _ (List.getElem_mem (show l.length - 1 - k < l.length by omega))
    have e2 : l.drop (l.length - (k + 1)) = l[l.length - 1 - k] :: l.drop (l.length - k) := by
      rw [List.drop_eq_getElem_cons (by omega)]
      have e3 : l.length - (k + 1) = l.length - 1 - k := by omega
      have e4 : l.length - (k + 1) + 1 = l.length - k := by omega
      rw [e4]
      congr 1
      simp only [e3]
    have hv := pvl_lt _ (b01_drop h (l.length - k))
    have hv2 := pvl_lt _ (b01_drop h (l.length - (k + 1)))
    have hp : (2 : Nat) ^ (l.drop (l.length - (k + 1))).length ≤ 2 ^ 32 := Nat.pow_le_pow_right (by omega) (by simp; omega)
    have hv3 : pvl (l.drop (l.length - (k + 1))) < ((2 ^ (l.drop (l.length - (k + 1))).length : Nat) : Int) := by simpa using hv2.2
    rw [e2] at hv2 hv3 hp
    rw [if_pos (by omega), if_pos (by omega), e, gd_at _ _ (by omega), e2]
    simp only [pvl] at hv2 hv3 ⊢
    rw [w32 (n := 2 * pvl _) (by omega) (by omega), w32 (n := l[l.length - 1 - k]) (by omega) (by omega), w32 (by omega) (by omega), w64 (by omega) (by omega)]
    rw [show (((l.length - 1 - k : Nat) : Int) - 1) = (l.length : Int) - 1 - ((k + 1 : Nat) : Int) from by omega, Int.add_comm]

theorem and7 (p : Nat) (h : p ≤ 100000) : andI .i64 (IntKind.wrap .i64 (0 - (p : Int))) 7 = (((8 - p % 8) % 8 : Nat) : Int) := by
  rw [w64 (by omega) (by omega)]
  have e : ∀ x : BitVec 64, (x &&& BitVec.ofInt 64 7).toNat = x.toNat % 8 := fun x => by
    rw [BitVec.toNat_and]
    have : (BitVec.ofInt 64 7).toNat = 2 ^ 3 - 1 := by decide
    rw [this, Nat.and_two_pow_sub_one_eq_mod]
  unfold andI
  rw [show IntKind.bits .i64 = 64 from rfl, e, BitVec.toNat_ofInt]
  have : ((0 - (p : Int)) % ((2 ^ 64 : Nat) : Int)).toNat % 8 = (8 - p % 8) % 8 := by omega
  rw [this]
  exact w64 (by omega) (by omega)
def up8 (p : Nat) : Nat := (p + 7) / 8 * 8
theorem align_is (b : List Int) (p : Nat) (h : p ≤ 100000) : F42.m b p = some (up8 p : Int) := by
  unfold F42.m up8
  rw [and7 p h, w64 (by omega) (by omega)]
  congr 1
  omega
theorem whole_is (p : Nat) (h : p ≤ 100000) : F43.m p = some (up8 p : Int) := by
  unfold F43.m up8
  rw [w64 (n := (p : Int) + 7) (by omega) (by omega), show (p : Int) + 7 = ((p + 7 : Nat) : Int) from by omega, show (8 : Int) = ((8 : Nat) : Int) from rfl, tdiv_nat, w64 (n := (((p + 7) / 8 : Nat) : Int)) (by omega) (by omega), w64 (by omega) (by omega)]
  congr 1
theorem left_is (b : List Int) (p : Nat) (hb : b.length ≤ 500) (h : p ≤ 8 * b.length) : F41.m b p = some ((8 * b.length - p : Nat) : Int) := by
  unfold F41.m
  rw [w64 (n := 8 * (b.length : Int)) (by omega) (by omega), w64 (by omega) (by omega)]
  congr 1
  omega
theorem j3_is (b : List Int) (hb : b.length ≤ 500) (p : Nat) (h : p ≤ 8 * b.length) (d : Int) : F9.j3 b (bO b) d p p = some (.inl ((p : Int), (p : Int), IntKind.wrap .i64 (d + 1))) := by
  have hl := bO_len b
  unfold F9.j3
  rw [show F46.m b p = some () from rfl, Option.bind_some, if_pos rfl, left_is b p hb h, Option.bind_some, hl, w64 (by omega) (by omega), if_pos (by omega)]
theorem sub_sub (b : List Int) (q m : Nat) (h : q + m ≤ b.length) : subL (subL b (q : Int) (b.length : Int)) 0 (m : Int) = subL b (q : Int) ((q : Int) + m) := by
  unfold subL
  simp
  rw [show ((q : Int) + (m : Int)).toNat = q + m from by omega]
  apply List.ext_getElem
  · simp <;> omega
  · intro i h1 h2; simp
theorem raw_is (b : List Int) (hb : b.length ≤ 500) (p : Nat) (h : p ≤ 8 * b.length) (n : Int) : F44.m b p n = some (if n < 0 then ([], 1, (up8 p : Int)) else if (((8 * b.length - up8 p) / 8 : Nat) : Int) < n then ([], 2, (up8 p : Int)) else (subL b ((up8 p / 8 : Nat) : Int) ((up8 p / 8 : Nat) + n), 0, (up8 p : Int) + 8 * n)) := by
  have hu : up8 p ≤ 8 * b.length ∧ up8 p % 8 = 0 := by unfold up8; omega
  unfold F44.m
  rw [align_is b p (by omega), Option.bind_some]
  generalize up8 p = u at hu ⊢
  by_cases a : n < 0
  · rw [if_pos a, if_pos a]
  · rw [if_neg a, if_neg a, left_is b _ hb hu.1, Option.bind_some, show (8 : Int) = ((8 : Nat) : Int) from rfl, tdiv_nat, w64 (n := (((8 * b.length - u) / 8 : Nat) : Int)) (by omega) (by omega)]
    by_cases c : (((8 * b.length - u) / 8 : Nat) : Int) < n
    · rw [if_pos c, if_pos c]
    · rw [if_neg c, if_neg c, tdiv_nat, w64 (n := ((u / 8 : Nat) : Int)) (by omega) (by omega), if_pos (by omega)]
      obtain ⟨m, rfl⟩ : ∃ m : Nat, n = m := ⟨n.toNat, by omega⟩
      have e := sub_sub b (u / 8) m (by omega)
      have hlen : (subL b ((u / 8 : Nat) : Int) (b.length : Int)).length = b.length - u / 8 := by unfold subL; simp; omega
      rw [if_pos (by rw [hlen]; omega), e]
      unfold F64.m
      rw [if_pos (by unfold subL; simp; omega), Option.bind_some, w64 (n := ((8 : Nat) : Int) * (m : Int)) (by omega) (by omega), w64 (by omega) (by omega)]
theorem step_is (b : List Int) (hb : b.length ≤ 500) (hu : ∀ y ∈ b, 0 ≤ y ∧ y ≤ 255) (ops : List (Int × Int × Int × (List Int))) (p : Nat) (h : p ≤ 8 * b.length) (d : Nat) (hd : d < ops.length) :
    ∃ p' : Nat, p' ≤ 8 * b.length ∧ F9.b1 b ops b (bO b) (p, p, d) = some (.inl ((p' : Int), (p' : Int), IntKind.wrap .i64 ((d : Int) + 1))) := by
  have hl := bO_len b
  have hB := b01_bO b
  have hu8 : up8 p ≤ 8 * b.length ∧ up8 p % 8 = 0 := by unfold up8; omega
  have get : ∃ p' : Nat, p' ≤ 8 * b.length ∧ F9.j2 b ops b (bO b) p p d true = some (.inl ((p' : Int), (p' : Int), IntKind.wrap .i64 ((d : Int) + 1))) := by
    simp only [F9.j2, F9.j5, F9.j4]
    rw [if_pos trivial]
    generalize (gd ops (d : Int)).2.1 = n
    by_cases a : n < 0
    · have e : F39.m b p n = some (0, 1, (p : Int)) := by unfold F39.m; rw [if_pos a]
      rw [e, Option.bind_some, if_pos a, if_pos rfl, if_pos rfl]
      exact ⟨p, h, j3_is b hb p h d⟩
    by_cases c : (32 : Int) < n
    · have e : F39.m b p n = some (0, 1, (p : Int)) := by unfold F39.m; rw [if_neg a, if_pos c]
      rw [e, Option.bind_some, if_neg a, if_pos c, if_pos rfl, if_pos rfl]
      exact ⟨p, h, j3_is b hb p h d⟩
    obtain ⟨m, rfl⟩ : ∃ m : Nat, n = m := ⟨n.toNat, by omega⟩
    by_cases q : ((8 * b.length - p : Nat) : Int) < (m : Int)
    · have e : F39.m b p m = some (0, 2, (p : Int)) := by
        unfold F39.m
        rw [if_neg a, if_neg c, left_is b p hb h, Option.bind_some, if_pos q]
      rw [e, Option.bind_some, if_neg a, if_neg c, hl, w64 (by omega) (by omega), if_pos (by omega), if_pos rfl, if_pos rfl]
      exact ⟨p, h, j3_is b hb p h d⟩
    · have e := get_is b p m (by omega) hu (by omega) (by omega)
      have hs : subL (bO b) (p : Int) ((p : Int) + (m : Int)) = ((bO b).drop p).take m := by
        unfold subL
        rw [show ((p : Int) + (m : Int)).toNat = p + m from by omega, Int.toNat_natCast]
        apply List.ext_getElem
        · simp <;> omega
        · intro i h1 h2; simp
      rw [e, Option.bind_some, if_neg a, if_neg c, hl, w64 (n := _ - (p : Int)) (by omega) (by omega), if_neg (by omega), w64 (n := (p : Int) + (m : Int)) (by omega) (by omega), if_pos (by omega), hs,
        value_is _ (b01_take (b01_drop hB p) m) (by simp; omega), Option.bind_some]
      have hv := pvl_nat _ (b01_take (b01_drop hB p) m)
      rw [if_pos (by unfold rowV; exact hv.symm), if_pos rfl, show ((p : Int) + (m : Int)) = ((p + m : Nat) : Int) from by omega]
      exact ⟨p + m, by omega, j3_is b hb (p + m) (by omega) d⟩
  simp only [F9.b1]
  rw [if_pos (by omega), if_pos (by omega)]
  by_cases k0 : (gd ops (d : Int)).1 = 0
  · rw [if_pos k0, decide_eq_true k0]; exact get
  rw [if_neg k0]
  by_cases k1 : (gd ops (d : Int)).1 = 1
  · rw [decide_eq_true k1]; exact get
  rw [decide_eq_false k1]
  simp only [F9.j2, F9.j6, F9.j7, F9.j8, F9.j9, F9.j10]
  rw [if_neg (by simp)]
  by_cases k2 : (gd ops (d : Int)).1 = 2
  · rw [if_pos k2, align_is b p (by omega), Option.bind_some, whole_is p (by omega), Option.bind_some]
    exact ⟨up8 p, hu8.1, j3_is b hb _ hu8.1 d⟩
  rw [if_neg k2]
  by_cases k3 : (gd ops (d : Int)).1 = 3
  · rw [if_pos k3, raw_is b hb p h, Option.bind_some, whole_is p (by omega), Option.bind_some]
    generalize (gd ops (d : Int)).2.1 = n
    generalize up8 p = u at hu8 ⊢
    by_cases a : n < 0
    · simp only [if_pos a, if_true]
      exact ⟨u, hu8.1, j3_is b hb _ hu8.1 d⟩
    simp only [if_neg a]
    have e8 : (8 : Int) = ((8 : Nat) : Int) := rfl
    rw [hl, w64 (n := _ - (u : Int)) (by omega) (by omega), show (((8 * b.length : Nat) : Int) - (u : Int)) = ((8 * b.length - u : Nat) : Int) from by omega, e8, tdiv_nat, w64 (n := (((8 * b.length - u) / 8 : Nat) : Int)) (by omega) (by omega)]
    by_cases c : (((8 * b.length - u) / 8 : Nat) : Int) < n
    · simp only [if_pos c, if_true]
      exact ⟨u, hu8.1, j3_is b hb _ hu8.1 d⟩
    · simp only [if_neg c]
      obtain ⟨m, rfl⟩ : ∃ m : Nat, n = m := ⟨n.toNat, by omega⟩
      rw [tdiv_nat, w64 (n := ((u / 8 : Nat) : Int)) (by omega) (by omega), w64 (n := ((u / 8 : Nat) : Int) + (m : Int)) (by omega) (by omega), if_pos (by omega), if_pos rfl, if_pos trivial, w64 (n := ((8 : Nat) : Int) * (m : Int)) (by omega) (by omega), w64 (n := (u : Int) + _) (by omega) (by omega)]
      rw [show (u : Int) + ((8 : Nat) : Int) * (m : Int) = ((u + 8 * m : Nat) : Int) from by omega]
      exact ⟨u + 8 * m, by omega, j3_is b hb _ (by omega) d⟩
  rw [if_neg k3]
  generalize (gd ops (d : Int)).2.1 = n
  unfold F45.m
  rw [w64 (n := 8 * (b.length : Int)) (by omega) (by omega)]
  by_cases a : n < 0
  · simp only [if_pos a, Option.bind_some, if_true]
    exact ⟨p, h, j3_is b hb p h d⟩
  simp only [if_neg a]
  by_cases c : (8 * (b.length : Int)) < n
  · rw [if_pos c, Option.bind_some, hl, if_pos (by omega), if_pos rfl]
    exact ⟨p, h, j3_is b hb p h d⟩
  · obtain ⟨m, rfl⟩ : ∃ m : Nat, n = m := ⟨n.toNat, by omega⟩
    rw [if_neg c, Option.bind_some, hl, if_neg (by omega), if_pos rfl]
    exact ⟨m, by omega, j3_is b hb m (by omega) d⟩
theorem pure_BitsReads (a0 : List Int) (a1 : List (Int × Int × Int × (List Int))) (w0 : ∀ x ∈ a0, InR .u8 x) (m0 : a0.length ≤ maxLen) (w1 : ∀ x ∈ a1, (InR .i64 x.1 ∧ InR .i64 x.2.1 ∧ InR .u32 x.2.2.1 ∧ ((∀ y ∈ x.2.2.2, InR .u8 y) ∧ (x.2.2.2).length ≤ maxLen))) (m1 : a1.length ≤ maxLen) :
    F9.m a0 a1 = some true := by
  obtain ⟨r, hr, hc⟩ := great_is a1 m1
  unfold F9.m
  rw [hr, Option.bind_some, bits_awake]
  by_cases hg : r = true
  · rw [if_pos hg]; rfl
  rw [if_neg hg]
  have hlen := (hc (by simpa using hg)).1
  by_cases hb : (500 : Int) < (a0.length : Int)
  · rw [if_pos hb]; rfl
  have hu : ∀ y ∈ a0, 0 ≤ y ∧ y ≤ 255 := fun y hy => by have := w0 y hy; simp [InR, IntKind.min, IntKind.max, IntKind.bits, IntKind.signed] at this; omega
  rw [if_neg hb, reader_is a0 (by omega), Option.bind_some, of_is a0 (by omega) hu, Option.bind_some]
  obtain ⟨y, hy, hq⟩ := loop_ends (b := F9.b1 a0 a1 a0 (bO a0)) (fun s => ∃ p d : Nat, p ≤ 8 * a0.length ∧ d ≤ a1.length ∧ s = ((p : Int), (p : Int), (d : Int))) (fun s => a1.length - s.2.2.toNat) (fun y => y = .inr ()) (fun s hs => by
    obtain ⟨p, d, hp, hd, rfl⟩ := hs
    by_cases a : d < a1.length
    · obtain ⟨p', hp', e⟩ := step_is a0 (by omega) hu a1 p hp d a
      rw [e, w64 (by omega) (by omega)]
      refine ⟨_, rfl, fun x' h => ?_, fun y h => by simp at h⟩
      simp only [Sum.inl.injEq] at h
      subst h
      exact ⟨⟨p', d + 1, hp', by omega, rfl⟩, by simp only; omega⟩
    · simp only [F9.b1]
      rw [if_neg (by omega)]
      refine ⟨_, rfl, fun x' h => by simp at h, fun y h => ?_⟩
      simp only [Sum.inr.injEq] at h
      exact h.symm) (0, 0, 0) ⟨0, 0, by omega, by omega, rfl⟩
  rw [hy]
  subst hq
  simp only [Option.bind_some, F9.j1, bits_awake]
end Go.Proofs.Ytpophpendlnehaa
