/- What MatchFinds needs. -/
import Derived.Test.YtedokgdilpfomaaPureMatL
import Derived.Test.YtedokgdilpfomaaYMatchFinds
set_option linter.unusedVariables false
set_option linter.unusedSimpArgs false
namespace Go.Proofs.Ytedokgdilpfomaa
open Go Go.Eng Go.Proofs
theorem pure_MatchFinds (a0 : (List Int)) (a1 : (List Int)) (w0 : ∀ x ∈ a0, InR .u8 x) (m0 : a0.length ≤ maxLen) (w1 : ∀ x ∈ a1, InR .u8 x) (m1 : a1.length ≤ maxLen) :
    F7.m a0 a1 = some true := by
  unfold F7.m
  by_cases h1 : (1000 : Int) < (a0.length : Int)
  · rw [if_pos h1, match_awake]; rfl
  rw [if_neg h1]
  by_cases h2 : (1000 : Int) < (a1.length : Int)
  · rw [if_pos h2, match_awake]; rfl
  rw [if_neg h2]
  obtain ⟨l, e, hk, _, _, _⟩ := find_is a0 a1 (by omega) (by omega) (fun x hx => inU8 (w0 x hx)) (fun x hx => inU8 (w1 x hx))
  have hll := pk_le hk
  rw [e, Option.bind_some, may29 (by omega) (by omega) hk, Option.bind_some, if_pos rfl]
  rw [loop_done (x := (0 : Int)) (fun k => (k : Int)) l.length (.inr ()) (fun k hk' => ?_) ?_ rfl]
  · simp only [F7.j1]
    rw [Option.bind_some, match_awake]; rfl
  · simp only [F7.b1]
    rw [if_neg (by omega)]
  · obtain ⟨a', N, O, L, g, _, _⟩ := pk_at hk k hk'
    have h3 := g.half
    have h4 := cnt_le (so a0 a1 N O) L
    have h5 := g.nl
    simp only [F7.b1]
    rw [if_pos (by omega), if_pos (by omega), same30 g (by omega) (by omega), Option.bind_some, w64 (n := 2 * ((cnt (so a0 a1 N O) L : Nat) : Int)) (by omega) (by omega), g.l, if_neg (by omega), w64 (by omega) (by omega)]
    rfl
end Go.Proofs.Ytedokgdilpfomaa
