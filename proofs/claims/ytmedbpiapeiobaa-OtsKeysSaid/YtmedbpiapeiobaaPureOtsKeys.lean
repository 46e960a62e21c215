/- What OtsKeys needs. -/
import Derived.Test.YtmedbpiapeiobaaPureOt2
import Derived.Test.YtmedbpiapeiobaaYOtsKeys
set_option linter.unusedVariables false
set_option linter.unusedSimpArgs false
namespace Go.Proofs.Ytmedbpiapeiobaa
open Go Go.Eng Go.Proofs
theorem out58 (x : Int) (h0 : 0 ≤ x) (h : ¬ (1 ≤ x ∧ x ≤ 4)) : F58.m x = some 0 := by
  unfold F58.m
  by_cases a : x < 1
  · rw [if_pos a]
  · rw [if_neg a, if_pos (by omega)]
theorem out59 (x : Int) (h : ¬ (1 ≤ x ∧ x ≤ 4)) : F59.m x = some 0 := by
  unfold F59.m
  rw [if_neg (by omega), if_neg (by omega), if_neg (by omega), if_neg (by omega)]
theorem out60 (x : Int) (h : ¬ (1 ≤ x ∧ x ≤ 4)) : F60.m x = some 0 := by
  unfold F60.m
  rw [if_neg (by omega), if_neg (by omega), if_neg (by omega), if_neg (by omega)]
theorem out57 (x : Int) (h0 : 0 ≤ x) (h : ¬ (1 ≤ x ∧ x ≤ 4)) : F57.m x = some 0 := by
  unfold F57.m
  by_cases a : (4 : Int) < x
  · rw [if_pos a]
  · rw [if_neg a, show x = 0 from by omega, if_pos (by simp)]
    rfl
theorem u32_q (q : Int) (h : InR .u32 q) : IntKind.wrap .u64 q = q := by
  have := inU32 h
  exact wu64 (by omega) (by omega)
theorem refPublic_is (x : Nat) (h : 1 ≤ x ∧ x ≤ 4) (I : D16) (q : Int) (hq : IntKind.wrap .u64 q = q) (S : D32) : F63.m x I q S = some (pubR x I q S, 0) := by
  obtain ⟨h58, h59, h60, h57, hw, ht⟩ := widths x h
  have h1 := w0 x h
  have hp := pn_le x
  unfold F63.m
  rw [h59, Option.bind_some, if_neg (by omega)]
  rw [loop_done (fun k => (cat (fun i => wk I q i (sec I q S i) 0 (tp x)) k, (k : Int))) (pn x) (cat (fun i => wk I q i (sec I q S i) 0 (tp x)) (pn x)) (fun k hk => ?_) ?_ (by rfl)]
  · simp only [Option.bind_some, F63.j1]
    rw [ended_is I q hq _ (by rw [cat_len]; omega)]
    rfl
  · simp only [F63.b1]
    rw [h57, Option.bind_some, if_neg (by omega)]
  · have hl := cat_len (fun i => wk I q i (sec I q S i) 0 (tp x)) k
    simp only [F63.b1]
    rw [h57, Option.bind_some, if_pos (by omega), Go.Proofs.Ytmedbpiapeiobaa.steps_is x h, Option.bind_some, F87_is I q hq k (by omega), Option.bind_some, show (0 : Int) = ((0 : Nat) : Int) from rfl, F85_is I q hq k (by omega) 0 (tp x) (by omega), Option.bind_some]
    unfold F63.j2
    rw [all32, if_pos (by rw [hl, (wk I q k _ 0 _).h]; omega), w64 (by omega) (by omega), Nat.sub_zero]
    rfl
theorem pure_OtsKeys (a0 : Int) (a1 : (Arr Int 16)) (a2 : Int) (a3 : (Arr Int 32)) (w0 : InR .u32 a0) (w1 : (∀ y ∈ (a1).l, InR .u8 y)) (w2 : InR .u32 a2) (w3 : (∀ y ∈ (a3).l, InR .u8 y)) :
    F17.m a0 (a1) a2 (a3) = some true := by
  have b0 := inU32 w0
  have hq := u32_q a2 w2
  unfold F17.m
  by_cases h : 1 ≤ a0 ∧ a0 ≤ 4
  · obtain ⟨x, rfl⟩ : ∃ x : Nat, a0 = x := ⟨a0.toNat, by omega⟩
    have hx : 1 ≤ x ∧ x ≤ 4 := by omega
    obtain ⟨h58, h59, h60, h57, hw, ht⟩ := widths x hx
    have hp := pn_le x
    rw [if_pos (by omega), if_pos (by omega), h57, Option.bind_some, w64 (n := (32 : Int) * (pn x : Int)) (by omega) (by omega), w64 (by omega) (by omega)]
    unfold F17.j1
    rw [h58, Option.bind_some, h59, Option.bind_some, if_pos rfl, h60, Option.bind_some, h57, Option.bind_some, if_pos rfl, size_is x hx, Option.bind_some, if_pos (by omega), public_is x hx a1 a2 hq a3, Option.bind_some, refPublic_is x hx a1 a2 hq a3, Option.bind_some, if_pos rfl, if_pos rfl, ots_awake]
    rfl
  · have h61 : F61.m a0 = some 0 := by unfold F61.m; rw [out60 a0 h]; rfl
    have h62 : F62.m a0 a1 a2 a3 = some (K3, 21) := by unfold F62.m; rw [out58 a0 b0.1 h]; rfl
    have h63 : F63.m a0 a1 a2 a3 = some (K3, 21) := by unfold F63.m; rw [out59 a0 h]; rfl
    have h17 : F17.j1 a0 a1 a2 a3 0 = some true := by
      unfold F17.j1
      rw [out58 a0 b0.1 h, out59 a0 h, out60 a0 h, out57 a0 b0.1 h, h61, h62, h63, ots_awake]
      rfl
    by_cases c : 1 ≤ a0
    · rw [if_pos c, if_neg (by omega), h17]
    · rw [if_neg c, out58 a0 b0.1 h, out59 a0 h, out60 a0 h, out57 a0 b0.1 h, h61, h62, h63, ots_awake]
      rfl
end Go.Proofs.Ytmedbpiapeiobaa
