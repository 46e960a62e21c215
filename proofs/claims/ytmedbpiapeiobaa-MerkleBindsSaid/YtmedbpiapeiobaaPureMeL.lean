/- What MeL needs. -/
import Derived.Test.YtmedbpiapeiobaaPureMeK
set_option linter.unusedVariables false
set_option linter.unusedSimpArgs false
namespace Go.Proofs.Ytmedbpiapeiobaa
open Go Go.Eng Go.Proofs
/-! ### Leads -/
/-- From a leaf to the root: the turns from above, what stands beside from below. -/
def cl (x : D32) : List Bool → List D32 → D32
  | [], _ => x
  | t :: T, ws => if t then pr (gd ws ((ws.length - 1 : Nat) : Int)) (cl x T (ws.take (ws.length - 1))) else pr (cl x T (ws.take (ws.length - 1))) (gd ws ((ws.length - 1 : Nat) : Int))
theorem lead_loop (x : D32) (T : List Bool) (ws : List D32) (h : T.length = ws.length) (hl : ws.length ≤ 100000) : loop (F49.b1 ws T) (x, 0) = some (cl x T ws) := by
  refine loop_done (fun k => (cl x (T.drop (T.length - k)) (ws.take k), (k : Int))) ws.length (cl x T ws) (fun k hk => ?_) ?_ ?_
  · have e1 : T.drop (T.length - (k + 1)) = T[T.length - (k + 1)] :: T.drop (T.length - k) := by
      rw [List.drop_eq_getElem_cons (by omega), show T.length - (k + 1) + 1 = T.length - k from by omega]
    have e2 : (ws.take (k + 1)).length - 1 = k := by simp; omega
    have e3 : gd (ws.take (k + 1)) (k : Int) = ws[k] := by
      rw [gd_at _ _ (by simp; omega)]; simp
    have e4 : (ws.take (k + 1)).take k = ws.take k := by rw [List.take_take]; congr 1; omega
    have e5 : IntKind.wrap .i64 (IntKind.wrap .i64 ((T.length : Int) - 1) - (k : Int)) = ((T.length - (k + 1) : Nat) : Int) := by
      rw [w64 (n := (T.length : Int) - 1) (by omega) (by omega), w64 (by omega) (by omega)]; omega
    simp only [F49.b1]
    rw [if_pos (by omega), if_pos (by omega), e5, if_pos (by omega), gd_at T _ (by omega), gd_at ws _ hk, e1]
    simp only [cl]
    rw [e2, e3, e4]
    cases T[T.length - (k + 1)] with
    | true =>
      rw [if_pos rfl, if_pos rfl, F47_2_is, Option.bind_some]
      unfold F49.j2
      rw [w64 (by omega) (by omega)]
      rfl
    | false =>
      rw [if_neg (by simp), if_neg (by simp), F47_3_is, Option.bind_some]
      unfold F49.j2
      rw [w64 (by omega) (by omega)]
      rfl
  · simp only [F49.b1]
    rw [if_neg (by omega), h, Nat.sub_self, List.drop_zero, List.take_length]
  · rw [Nat.sub_zero, List.drop_length]; rfl
theorem lead_is (x : D32) (i n : Nat) (ws : List D32) (h : i < n) (hn : n ≤ 9223372036854775807) (hw : ws.length ≤ 100000) :
    F49.m x i n ws = some (if (tn i n).length = ws.length then (cl x (tn i n) ws, 0) else (K3, 3)) := by
  unfold F49.m
  rw [steps_is i n h hn, Option.bind_some, if_neg (by omega)]
  by_cases a : (tn i n).length = ws.length
  · rw [if_pos (by omega), if_pos a, turns_is i n h hn, Option.bind_some, lead_loop x _ _ a hw]
    rfl
  · rw [if_neg (by omega), if_neg a]
theorem F52_run (x : D32) : ∀ (f i n : Nat) (ws : List D32), lg n < f → i < n → n ≤ 9223372036854775807 → (tn i n).length = ws.length → ws.length ≤ 100000 → F52.mF f x i n ws = some (cl x (tn i n) ws)
  | 0, _, _, _, h, _, _, _, _ => by omega
  | f + 1, i, n, ws, h, hi, hn, ht, hw => by
    simp only [F52.mF, F52.g]
    by_cases a : n = 1
    · subst a
      rw [if_pos (by omega), tn, dif_pos (by omega)]
      rfl
    have hb := hf_bd n (by omega)
    have hl := lg_half n (by omega)
    rw [tn, dif_neg (by omega)] at ht ⊢
    rw [if_neg (by omega), F77_is n (by omega) hn, Option.bind_some]
    have e (q : 1 ≤ ws.length) : IntKind.wrap .i64 ((ws.length : Int) - 1) = ((ws.length - 1 : Nat) : Int) := by rw [w64 (by omega) (by omega)]; omega
    by_cases c : hf n ≤ i
    · rw [if_pos c] at ht ⊢
      simp only [List.length_cons] at ht
      rw [if_neg (by omega), e (by omega), if_pos (by omega), if_pos (by omega), subD_take, w64 (by omega) (by omega), w64 (by omega) (by omega), show (i : Int) - hf n = ((i - hf n : Nat) : Int) from by omega, show (n : Int) - hf n = ((n - hf n : Nat) : Int) from by omega,
        F52_run x f _ _ _ (by omega) (by omega) (by omega) (by simp; omega) (by simp; omega), Option.bind_some, F48_is]
      rfl
    · rw [if_neg c] at ht ⊢
      simp only [List.length_cons] at ht
      rw [if_pos (by omega), e (by omega), if_pos (by omega), if_pos (by omega), subD_take,
        F52_run x f _ _ _ (by omega) (by omega) (by omega) (by simp; omega) (by simp; omega), Option.bind_some, F48_is]
      rfl
theorem F52_is (x : D32) (i n : Nat) (ws : List D32) (h : i < n) (hn : n ≤ 9223372036854775807) (ht : (tn i n).length = ws.length) (hw : ws.length ≤ 100000) : F52.m x i n ws = some (cl x (tn i n) ws) :=
  evt_is (lg n + 1) (fun k hk => F52_run x k i n ws (by omega) h hn ht hw)
end Go.Proofs.Ytmedbpiapeiobaa
