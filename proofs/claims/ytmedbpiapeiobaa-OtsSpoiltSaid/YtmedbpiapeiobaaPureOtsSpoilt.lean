/- What OtsSpoilt needs. -/
import Derived.Test.YtmedbpiapeiobaaPureOt3
import Derived.Test.YtmedbpiapeiobaaYOtsSpoilt
set_option linter.unusedVariables false
set_option linter.unusedSimpArgs false
namespace Go.Proofs.Ytmedbpiapeiobaa
open Go Go.Eng Go.Proofs
theorem wk_u8 (I : D16) (q : Int) (i : Nat) (v : D32) (hv : ∀ y ∈ v.l, 0 ≤ y ∧ y ≤ 255) (a : Nat) : ∀ k, ∀ y ∈ (wk I q i v a k).l, 0 ≤ y ∧ y ≤ 255
  | 0 => hv
  | k + 1 => hx_u8 _ _ _
theorem cat_u8 (f : Nat → D32) (h : ∀ i, ∀ y ∈ (f i).l, 0 ≤ y ∧ y ≤ 255) : ∀ n, ∀ y ∈ cat f n, 0 ≤ y ∧ y ≤ 255
  | 0, y, hy => by simp [cat] at hy
  | n + 1, y, hy => by
    rw [cat] at hy
    rcases List.mem_append.1 hy with a | a
    · exact cat_u8 f h n y a
    · exact h n y a
theorem sgn_u8 (x : Nat) (I : D16) (q : Int) (S : D32) (m : List Int) : ∀ y ∈ sgn x I q S m, 0 ≤ y ∧ y ≤ 255 := fun y hy => by
  unfold sgn at hy
  rcases List.mem_append.1 hy with a | a
  · rcases List.mem_append.1 a with b | b
    · exact octs_u8 _ y (List.mem_of_mem_drop b)
    · exact hx_u8 _ _ _ y b
  · exact cat_u8 _ (fun i => wk_u8 _ _ _ _ (hx_u8 _ _ _) _ _) _ y a
theorem pure_OtsSpoilt (a0 : Int) (a1 : (Arr Int 16)) (a2 : Int) (a3 : (Arr Int 32)) (a4 : List Int) (a5 : Int) (a6 : Int) (w0 : InR .u32 a0) (w1 : (∀ y ∈ (a1).l, InR .u8 y)) (w2 : InR .u32 a2) (w3 : (∀ y ∈ (a3).l, InR .u8 y)) (w4 : ∀ x ∈ a4, InR .u8 x) (m4 : a4.length ≤ maxLen) (w5 : InR .i64 a5) (w6 : InR .u8 a6) :
    F20.m a0 (a1) a2 (a3) a4 a5 a6 = some true := by
  have b0 := inU32 w0
  have hq : IntKind.wrap .u64 a2 = a2 := by
    have := inU32 w2
    exact wu64 (by omega) (by omega)
  unfold F20.m
  rw [ots_awake]
  by_cases c1 : a0 < 1
  · rw [if_pos c1]; rfl
  by_cases c2 : 3 < a0
  · rw [if_neg c1, if_pos c2]; rfl
  by_cases c3 : (200 : Int) < (a4.length : Int)
  · rw [if_neg c1, if_neg c2, if_pos c3]; rfl
  by_cases c4 : a6 = 0
  · rw [if_neg c1, if_neg c2, if_neg c3, if_pos c4]; rfl
  by_cases c5 : a5 < 0
  · rw [if_neg c1, if_neg c2, if_neg c3, if_neg c4, if_pos c5]; rfl
  rw [if_neg c1, if_neg c2, if_neg c3, if_neg c4, if_neg c5]
  obtain ⟨x, rfl⟩ : ∃ x : Nat, a0 = x := ⟨a0.toNat, by omega⟩
  have hx : 1 ≤ x ∧ x ≤ 4 := by omega
  obtain ⟨h58, h59, h60, h57, hw, ht⟩ := widths x hx
  have hp := pn_le x
  have e32 : IntKind.wrap .i64 ((32 : Int) * (pn x : Int)) = ((32 * pn x : Nat) : Int) := by rw [w64 (by omega) (by omega)]; omega
  rw [h57, Option.bind_some, e32]
  by_cases c6 : ((32 * pn x : Nat) : Int) ≤ a5
  · rw [if_pos c6]; rfl
  rw [if_neg c6]
  obtain ⟨j, rfl⟩ : ∃ j : Nat, a5 = j := ⟨a5.toNat, by omega⟩
  have hsl := sgn_len x a1 a2 a3 a4
  have hsu := sgn_u8 x a1 a2 a3 a4
  obtain ⟨e1, e2⟩ := sgn_cnd x hx a1 a2 a3 a4
  rw [sign1_is x hx a1 a2 hq a3 a4 (by omega), Option.bind_some, if_pos rfl, Option.bind_some, e32, w64 (n := (36 : Int) + ((32 * pn x : Nat) : Int)) (by omega) (by omega)]
  dsimp only
  rw [if_pos (by omega)]
  rw [show F67_1.m x a1 a2 (sgn x a1 a2 a3 a4) a4 = some (pubR x a1 a2 a3, 0) from (cand1_is x hx a1 a2 hq _ a4 (by omega)).trans (by rw [if_pos hsl, e2, if_pos rfl, e1]), Option.bind_some]
  have e36 : IntKind.wrap .i64 ((36 : Int) + (j : Int)) = ((36 + j : Nat) : Int) := by rw [w64 (by omega) (by omega)]; omega
  rw [e36, if_pos (by omega)]
  generalize hs' : List.set (sgn x a1 a2 a3 a4) (Int.toNat ((36 + j : Nat) : Int)) (xorI .u8 (gd (sgn x a1 a2 a3 a4) ((36 + j : Nat) : Int)) a6) = s'
  have hl' : s'.length = 36 + 32 * pn x := by rw [← hs', List.length_set, hsl]
  have ht' : s'.take 4 = b4 x := by
    rw [← hs', ← e2, Int.toNat_natCast]
    apply List.ext_getElem
    · simp
    · intro i h1 h2
      simp at h1 h2
      simp only [List.getElem_take]
      rw [List.getElem_set_ne (by omega)]
  have hu' : ∀ y ∈ s', 0 ≤ y ∧ y ≤ 255 := fun y hy => by
    rw [← hs'] at hy
    rcases List.mem_or_eq_of_mem_set hy with a | rfl
    · exact hsu y a
    · unfold xorI
      rw [wu8_mod]
      omega
  rw [show F67_1.m x a1 a2 s' a4 = some (cnd x a1 a2 s' a4, 0) from (cand1_is x hx a1 a2 hq _ a4 (by omega)).trans (by rw [if_pos hl', ht', if_pos rfl]), Option.bind_some, if_pos rfl, if_pos rfl,
    show F68.m x a1 a2 s' a4 = some (cnd x a1 a2 s' a4, 0) from (refCand_is x hx a1 a2 hq _ a4 hu' (by omega)).trans (by rw [if_pos hl', ht', if_pos rfl]), Option.bind_some, if_pos rfl, if_pos rfl, if_pos (by simp)]
  rfl
end Go.Proofs.Ytmedbpiapeiobaa
