/- What LimitLeast needs. -/
import Derived.Test.YtgganckggdjpaaaYLimitLeast
import Derived.Test.YtgganckggdjpaaaPureLimA
import Derived.Test.YtgganckggdjpaaaPureLst2
set_option linter.unusedVariables false
set_option linter.unusedSimpArgs false
namespace Go.Proofs.Ytgganckggdjpaaa
open Go Go.Eng Go.Proofs
theorem pure_LimitLeast (a0 : (List Int)) (a1 : Int) (w0 : ∀ x ∈ a0, InR .u32 x) (m0 : a0.length ≤ maxLen) (w1 : InR .i64 a1) (u0 : a0.length ≤ 1048576) :
    F7.m a0 a1 = some true := by
  unfold F7.m
  rw [F22_is a0 w0 (by omega), Option.bind_some]
  by_cases h1 : (40 : Int) < (a0.length : Int)
  · rw [if_pos h1, lim_awake]; rfl
  rw [if_neg h1]
  by_cases h2 : a1 < 1
  · rw [if_pos h2, lim_awake]; rfl
  rw [if_neg h2]
  by_cases h3 : 15 < a1
  · rw [if_pos h3, lim_awake]; rfl
  rw [if_neg h3]
  obtain ⟨most, rfl⟩ := nat_of (show 0 ≤ a1 by omega)
  have hcl := coins_len a0 a0.length
  rw [F21_is _ _ (by omega) (by omega), Option.bind_some]
  by_cases h4 : (coins a0 a0.length).length ≤ 2 ^ most
  · rw [if_pos (by simpa using h4)]
    by_cases h5 : ((coins a0 a0.length).length : Int) < 2
    · rw [if_pos h5, lim_awake]; rfl
    · rw [if_neg h5]
      rcases F20_is a0 w0 (by omega) most (by omega) (by omega) with ⟨h6, _⟩ | ⟨_, h6, _⟩ | ⟨_, _, A, cs, l, hp, ha, hsel, hm, hll, hcount⟩
      · omega
      · omega
      · rw [hm, Option.bind_some, if_pos rfl]
        have hlen := hsel.len
        have ht := told hp ha (by omega) hll hcount
        have hpos := told_pos ht
        have hAl := hp.length_eq
        have hd := hsel.down ha hpos
        obtain ⟨S, hS, hSp, hSd⟩ := F51_is a0 w0 (by omega)
        have hSp' : S.Perm (A.map (·.1)) := hSp.trans (hp.map _).symm
        have hSl : S.length = A.length := by rw [hSp'.length_eq, List.length_map]
        have hSe := desc_asc ha hSd hSp'
        have hSb : ∀ x ∈ S, 0 ≤ x ∧ x ≤ 4294967295 := fun x hx => by
          obtain ⟨y, hy, rfl⟩ := List.mem_map.1 (hSp.subset hx)
          obtain ⟨s, h7, h8, rfl⟩ := (coins_mem a0 a0.length y).1 hy
          exact inU32 (w0 _ (gd_mem a0 s h7))
        have hr : ∀ i, i ≤ A.length → restN S i = wsum (A.take (A.length - i)) := fun i hi => by rw [hSe]; exact rest_wsum i hi
        have hF25 := told_cost w0 (by omega) ht hsel.le (by omega)
        have hF26 := F26_is a0 S most hS (by omega) hSb (by omega) (by omega) (by omega)
        have hway : Way S.length (restN S) most 0 1 ((cs.map fun c => wsum (A.take c)).sum) := by
          rw [hSl]
          have := way_of (A := A) (restN S) hr (k := most - 1) (m := 2 * A.length - 2) 0 1 hd hsel (by omega) (by omega) (by omega) hsel.le
          rwa [show most - 1 + 1 = most by omega] at this
        have hlow : ∀ v, Way S.length (restN S) most 0 1 v → (cs.map fun c => wsum (A.take c)).sum ≤ v := fun v hv => by
          rw [hSl, show most = most - 1 + 1 by omega] at hv
          obtain ⟨_, _, h9⟩ := way_low ha (restN S) hr (most - 1) 0 1 v (by omega) hv
          have := hsel.wsum
          rw [show 2 * (A.length - 0 - 1) = 2 * A.length - 2 by omega, this] at h9
          exact h9
        have hbest := least_cost (S := S) (by omega) hSb most (by omega) 0 1 (by omega) (by omega)
        have heq : costD S most 0 1 = (cs.map fun c => wsum (A.take c)).sum := by
          rcases hbest with ⟨_, hno⟩ | ⟨hx, hle⟩
          · exact absurd hway (hno _)
          · have := hlow _ hx
            have := hle _ hway
            omega
        simp only
        rw [hF25, Option.bind_some, hF26, Option.bind_some, heq, if_pos rfl, lim_awake]
        rfl
  · rw [if_neg (by simpa using h4), lim_awake]; rfl
end Go.Proofs.Ytgganckggdjpaaa
