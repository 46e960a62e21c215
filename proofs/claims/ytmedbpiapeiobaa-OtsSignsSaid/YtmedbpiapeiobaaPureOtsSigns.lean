/- What OtsSigns needs. -/
import Derived.Test.YtmedbpiapeiobaaPureOt2
import Derived.Test.YtmedbpiapeiobaaYOtsSigns
set_option linter.unusedVariables false
set_option linter.unusedSimpArgs false
namespace Go.Proofs.Ytmedbpiapeiobaa
open Go Go.Eng Go.Proofs
theorem u32_q (q : Int) (h : InR .u32 q) : IntKind.wrap .u64 q = q := by
  have := inU32 h
  exact wu64 (by omega) (by omega)
theorem refSign_is (x : Nat) (h : 1 ≤ x ∧ x ≤ 4) (I : D16) (q : Int) (hq : IntKind.wrap .u64 q = q) (S : D32) (m : List Int) (hm : m.length ≤ 1000) : F66.m x I q S m = some (sgn x I q S m, 0) := by
  obtain ⟨h58, h59, h60, h57, hw, ht⟩ := widths x h
  have h1 := w0 x h
  have hp := pn_le x
  have hdl := ds_len x h I q (sgC I q S).l m
  unfold F66.m
  rw [h59, Option.bind_some, if_neg (by omega), show (65533 : Int) = ((65533 : Nat) : Int) from rfl, F87_is I q hq 65533 (by omega), Option.bind_some, u64_nat x (by omega), rut4 _ (by simp), Option.bind_some, List.nil_append]
  rw [show sec I q S 65533 = sgC I q S from rfl, all32, if_pos (by rw [b4_len, (sgC I q S).h]; omega), F90_is x h I q hq _ m (by rw [(sgC I q S).h]; omega) hm, Option.bind_some]
  rw [loop_done (fun k => ((b4 x ++ (sgC I q S).l) ++ cat (fun i => wk I q i (sec I q S i) 0 (gd (ds x I q (sgC I q S).l m) (i : Int)).toNat) k, (k : Int))) (pn x) (sgn x I q S m) (fun k hk => ?_) ?_ (by simp [cat])]
  · rfl
  · simp only [F66.b1]
    rw [if_neg (by omega)]
    rfl
  · have hl := cat_len (fun i => wk I q i (sec I q S i) 0 (gd (ds x I q (sgC I q S).l m) (i : Int)).toNat) k
    obtain ⟨d, hd, hdt⟩ := ds_le x I q (sgC I q S).l m k (by omega)
    simp only [F66.b1]
    rw [if_pos (by omega), if_pos (by omega), F87_is I q hq k (by omega), Option.bind_some, hd, show (0 : Int) = ((0 : Nat) : Int) from rfl, F85_is I q hq k (by omega) 0 d (by omega), Option.bind_some]
    unfold F66.j2
    rw [all32, if_pos (by rw [List.length_append, List.length_append, hl, b4_len, (sgC I q S).h, (wk I q k _ 0 _).h]; omega), w64 (by omega) (by omega), Nat.sub_zero, List.append_assoc (b4 (x : Int) ++ (sgC I q S).l)]
    rw [show d = (gd (ds x I q (sgC I q S).l m) (k : Int)).toNat from by rw [hd]; simp]
    rfl
theorem pure_OtsSigns (a0 : Int) (a1 : (Arr Int 16)) (a2 : Int) (a3 : (Arr Int 32)) (a4 : List Int) (w0 : InR .u32 a0) (w1 : (∀ y ∈ (a1).l, InR .u8 y)) (w2 : InR .u32 a2) (w3 : (∀ y ∈ (a3).l, InR .u8 y)) (w4 : ∀ x ∈ a4, InR .u8 x) (m4 : a4.length ≤ maxLen) :
    F18.m a0 (a1) a2 (a3) a4 = some true := by
  have b0 := inU32 w0
  have hq := u32_q a2 w2
  unfold F18.m
  rw [ots_awake]
  by_cases hl : (1000 : Int) < (a4.length : Int)
  · rw [if_pos hl]; rfl
  rw [if_neg hl]
  by_cases h : 1 ≤ a0 ∧ a0 ≤ 4
  · obtain ⟨x, rfl⟩ : ∃ x : Nat, a0 = x := ⟨a0.toNat, by omega⟩
    have hx : 1 ≤ x ∧ x ≤ 4 := by omega
    obtain ⟨e1, e2⟩ := sgn_cnd x hx a1 a2 a3 a4
    rw [sign1_is x hx a1 a2 hq a3 a4 (by omega), Option.bind_some, refSign_is x hx a1 a2 hq a3 a4 (by omega), Option.bind_some, if_pos rfl, if_pos rfl, if_pos rfl, cand1_is x hx a1 a2 hq _ a4 (by omega), Option.bind_some, public_is x hx a1 a2 hq a3, Option.bind_some]
    rw [if_pos (sgn_len x a1 a2 a3 a4), e2, if_pos rfl, e1, if_pos rfl, if_pos rfl, if_pos rfl]
    rfl
  · have h58 : F58.m a0 = some 0 := by
      unfold F58.m
      by_cases a : a0 < 1
      · rw [if_pos a]
      · rw [if_neg a, if_pos (by omega)]
    have h59 : F59.m a0 = some 0 := by
      unfold F59.m
      rw [if_neg (by omega), if_neg (by omega), if_neg (by omega), if_neg (by omega)]
    have h65 : F65_1.m a0 a1 a2 a3 a4 = some ([], 21) := by unfold F65_1.m; rw [h58]; rfl
    have h66 : F66.m a0 a1 a2 a3 a4 = some ([], 21) := by unfold F66.m; rw [h59]; rfl
    rw [h65, h66]
    rfl
end Go.Proofs.Ytmedbpiapeiobaa
