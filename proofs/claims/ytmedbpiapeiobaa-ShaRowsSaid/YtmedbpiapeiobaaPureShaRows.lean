/- What ShaRows needs. -/
import Derived.Test.YtmedbpiapeiobaaPureSh4
import Derived.Test.YtmedbpiapeiobaaYShaRows
set_option linter.unusedVariables false
set_option linter.unusedSimpArgs false
namespace Go.Proofs.Ytmedbpiapeiobaa
open Go Go.Eng Go.Proofs
theorem great_rows (x : List (List Int)) (hl : x.length ≤ maxLen) : ∃ r, F38.m x = some r ∧ (r = false → x.length ≤ 60 ∧ ∀ y ∈ x, y.length ≤ 400) := by
  have hm : maxLen = 9223372036854775807 := by decide
  unfold F38.m
  by_cases h : (60 : Int) < (x.length : Int)
  · rw [if_pos h]; exact ⟨true, rfl, by simp⟩
  · rw [if_neg h]
    obtain ⟨y, hy, hq⟩ := loop_ends (b := F38.b1 x) (fun i => ∃ k : Nat, i = k ∧ k ≤ x.length ∧ ∀ j (hj : j < x.length), j < k → x[j].length ≤ 400) (fun i => x.length - i.toNat) (fun y => y = .inl true ∨ y = .inr () ∧ ∀ o ∈ x, o.length ≤ 400) (fun i hi => by
      obtain ⟨k, rfl, hk, hall⟩ := hi
      simp only [F38.b1]
      by_cases a : k < x.length
      · rw [if_pos (by omega), if_pos (by omega), gd_at _ _ a]
        by_cases c : (400 : Int) < (x[k].length : Int)
        · rw [if_pos c]
          exact ⟨_, rfl, fun x' h => by simp at h, fun y h => by simp at h; exact .inl h.symm⟩
        · rw [if_neg c]
          refine ⟨_, rfl, fun x' h => ?_, fun y h => by simp at h⟩
          simp only [Sum.inl.injEq] at h
          subst h
          rw [w64 (by omega) (by omega)]
          refine ⟨⟨k + 1, by simp, by omega, fun j hj hlt => ?_⟩, by omega⟩
          by_cases e : j = k
          · subst e; omega
          · exact hall j hj (by omega)
      · rw [if_neg (by omega)]
        refine ⟨_, rfl, fun x' h => by simp at h, fun y h => ?_⟩
        simp only [Sum.inr.injEq] at h
        refine .inr ⟨h.symm, fun o ho => ?_⟩
        obtain ⟨j, hj, rfl⟩ := List.mem_iff_getElem.1 ho
        exact hall j hj (by omega)) 0 ⟨0, rfl, by omega, fun j hj h => by omega⟩
    rw [hy]
    rcases hq with rfl | ⟨rfl, hall⟩
    · exact ⟨true, rfl, by simp⟩
    · exact ⟨false, rfl, fun _ => ⟨by omega, hall⟩⟩
theorem pure_ShaRows (a0 : List (List Int)) (w0 : ∀ x ∈ a0, ((∀ y ∈ x, InR .u8 y) ∧ x.length ≤ maxLen)) (m0 : a0.length ≤ maxLen) :
    F10.m a0 = some true := by
  obtain ⟨r, hr, hc⟩ := great_rows a0 m0
  unfold F10.m
  rw [hr, Option.bind_some, sha_awake]
  by_cases hg : r = true
  · rw [if_pos hg]; rfl
  obtain ⟨hn, hs⟩ := hc (by simpa using hg)
  have hfl : ∀ k, (a0.take k).flatten.length ≤ 400 * k := fun k => by
    have := flat_le (a0.take k) 400 (fun y hy => hs y (List.mem_of_mem_take hy))
    have h2 : (a0.take k).length ≤ k := by simp; omega
    have := Nat.mul_le_mul_left 400 h2
    omega
  have hflat : a0.flatten.length ≤ 24000 := by
    have := flat_le a0 400 hs
    omega
  rw [if_neg hg]
  unfold F34.m
  rw [Option.bind_some]
  obtain ⟨y, hy, hq⟩ := loop_ends (b := F10.b1 a0) (fun s => ∃ k : Nat, k ≤ a0.length ∧ s.2.2.2.2.2 = (k : Int) ∧ s.2.2.2.2.1 = ((a0.take k).flatten.length : Int) ∧ Inv s.1 s.2.1 s.2.2.1 s.2.2.2.1 (a0.take k).flatten) (fun s => a0.length - s.2.2.2.2.2.toNat)
    (fun y => ∃ a b c d e, y = .inr (a, b, c, d, e) ∧ e = (a0.flatten.length : Int) ∧ Inv a b c d a0.flatten) (fun s hs0 => by
      obtain ⟨a, b, c, d, e, i⟩ := s
      obtain ⟨k, hk, h1, h2, hI⟩ := hs0
      dsimp only at h1 h2 hI
      subst h1 h2
      simp only [F10.b1]
      by_cases q : k < a0.length
      · have hx := hs _ (List.getElem_mem q)
        have hf := hfl k
        obtain ⟨b2, r2, n2, l2, hw2, hI2⟩ := write_is _ _ _ _ _ a0[k] hI (by omega)
        rw [← flat_take a0 k q] at hI2
        have hl2 := hI2.al
        have hwl : IntKind.wrap .u64 (((a0.take k).flatten.length : Int) + IntKind.wrap .u64 (a0[k].length : Int)) = ((a0.take (k + 1)).flatten.length : Int) := by
          rw [wu64 (n := (a0[k].length : Int)) (by omega) (by omega), wu64 (by omega) (by omega), flat_take a0 k q, List.length_append]; omega
        rw [if_pos (by omega), if_pos (by omega), gd_at _ _ q, hw2, Option.bind_some, show ∀ a b c d, F39.m a b c d = some () from fun _ _ _ _ => rfl, Option.bind_some, hwl, if_pos hl2]
        have hj : F10.j2 a0 ((a0.take k).flatten.length : Int) (k : Int) b2 r2 n2 l2 = some (.inl (b2, r2, n2, l2, ((a0.take (k + 1)).flatten.length : Int), ((k + 1 : Nat) : Int))) := by
          unfold F10.j2
          rw [gd_at _ _ q, hwl, w64 (by omega) (by omega)]
          rfl
        by_cases o : Int.tmod (k : Int) 8 = 0
        · have hsub : subL a0 0 ((k : Int) + 1) = a0.take (k + 1) := by
            unfold subL
            rw [show ((k : Int) + 1).toNat = k + 1 from by omega]
            simp
          have hf1 := hfl (k + 1)
          rw [if_pos o, w64 (by omega) (by omega), if_pos (by omega), sum_is _ _ _ _ _ hI2 (by omega), Option.bind_some, hsub, join_is _ (by simp; omega) (fun y hy => by have := hs y (List.mem_of_mem_take hy); omega), Option.bind_some, F32_is _ (by omega), Option.bind_some, if_pos rfl, hj]
          refine ⟨_, rfl, fun x' h => ?_, fun y h => by simp at h⟩
          simp only [Sum.inl.injEq] at h
          subst h
          exact ⟨⟨k + 1, by omega, rfl, rfl, hI2⟩, by simp only; omega⟩
        · rw [if_neg o, hj]
          refine ⟨_, rfl, fun x' h => ?_, fun y h => by simp at h⟩
          simp only [Sum.inl.injEq] at h
          subst h
          exact ⟨⟨k + 1, by omega, rfl, rfl, hI2⟩, by simp only; omega⟩
      · have : k = a0.length := by omega
        subst this
        rw [List.take_length] at hI
        rw [if_neg (by omega), List.take_length]
        exact ⟨_, rfl, fun x' h => by simp at h, fun y h => by
          simp only [Sum.inr.injEq] at h
          exact ⟨_, _, _, _, _, h.symm, rfl, hI⟩⟩) (K0, Arr.rep 64 0, 0, 0, 0, 0) ⟨0, by omega, rfl, rfl, Inv.nil⟩
  rw [hy]
  obtain ⟨a, b, c, d, e, rfl, rfl, hI⟩ := hq
  simp only [Option.bind_some, F10.j1]
  rw [sum_is _ _ _ _ _ hI (by omega), Option.bind_some, join_is _ (by omega) (fun y hy => by have := hs y hy; omega), Option.bind_some, F33_is _ (by omega), Option.bind_some, if_pos rfl, show ∀ a b c d, F39.m a b c d = some () from fun _ _ _ _ => rfl, Option.bind_some, if_pos hI.al, sha_awake]
  rfl
end Go.Proofs.Ytmedbpiapeiobaa
