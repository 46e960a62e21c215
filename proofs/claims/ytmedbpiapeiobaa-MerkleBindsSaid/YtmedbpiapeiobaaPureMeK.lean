/- What MeK needs. -/
import Derived.Test.YtmedbpiapeiobaaPureSh4
import Derived.Test.YtmedbpiapeiobaaMer
set_option linter.unusedVariables false
set_option linter.unusedSimpArgs false
namespace Go.Proofs.Ytmedbpiapeiobaa
open Go Go.Eng Go.Proofs
abbrev D32 := Arr Int 32
/-! ### The half of a number -/
theorem lg_shift (x s : Nat) (h : x >>> s ≠ 0) : Nat.log2 x = Nat.log2 (x >>> s) + s := by
  have hx : x ≠ 0 := fun e => h (by rw [e]; simp)
  rw [Nat.log2_eq_iff hx]
  have h1 := Nat.log2_self_le h
  have h2 : x >>> s < 2 ^ (Nat.log2 (x >>> s) + 1) := Nat.lt_log2_self
  rw [Nat.shiftRight_eq_div_pow] at h1 h2 ⊢
  generalize Nat.log2 (x / 2 ^ s) = k at *
  have hp : 0 < 2 ^ s := Nat.pow_pos (by omega)
  constructor
  · rw [Nat.pow_add]
    exact (Nat.le_div_iff_mul_le hp).1 h1
  · rw [show k + s + 1 = (k + 1) + s from by omega, Nat.pow_add]
    exact (Nat.div_lt_iff_lt_mul hp).1 h2
theorem len_tab : ∀ i : Nat, i < 256 → 0 < i → bt K4 (i : Int) = ((Nat.log2 i + 1 : Nat) : Int) := by decide +kernel
theorem j3_is (v n : Nat) (h0 : 0 < v) (h : v < 256) (hn : n ≤ 100) : F98.j3 v n = some ((n + Nat.log2 v + 1 : Nat) : Int) := by
  have hs : ((K4).size : Int) = 256 := by decide +kernel
  have hl : Nat.log2 v < 8 := by
    rw [Nat.log2_lt (by omega)]; omega
  unfold F98.j3
  rw [w8 (by omega) (by omega), if_pos (by omega), if_pos (by omega), len_tab v h h0, w64 (n := ((Nat.log2 v + 1 : Nat) : Int)) (by omega) (by omega), w64 (by omega) (by omega)]
  congr 1
theorem j2_is (v n : Nat) (h0 : 0 < v) (h : v < 65536) (hn : n ≤ 90) : F98.j2 v n = some ((n + Nat.log2 v + 1 : Nat) : Int) := by
  unfold F98.j2
  by_cases a : (256 : Int) ≤ v
  · have e : v >>> 8 = v / 256 := by rw [Nat.shiftRight_eq_div_pow]
    rw [if_pos a, show (8 : Int) = ((8 : Nat) : Int) from rfl, shr_nat _ _ _ (by decide), w64 (by omega) (by omega), show (n : Int) + ((8 : Nat) : Int) = ((n + 8 : Nat) : Int) from by omega, j3_is _ _ (by omega) (by omega) (by omega), lg_shift v 8 (by omega)]
    congr 1
    omega
  · rw [if_neg a, j3_is _ _ h0 (by omega) (by omega)]
theorem j1_is' (v n : Nat) (h0 : 0 < v) (h : v < 4294967296) (hn : n ≤ 70) : F98.j1 v n = some ((n + Nat.log2 v + 1 : Nat) : Int) := by
  unfold F98.j1
  by_cases a : (65536 : Int) ≤ v
  · have e : v >>> 16 = v / 65536 := by rw [Nat.shiftRight_eq_div_pow]
    rw [if_pos a, show (16 : Int) = ((16 : Nat) : Int) from rfl, shr_nat _ _ _ (by decide), w64 (by omega) (by omega), show (n : Int) + ((16 : Nat) : Int) = ((n + 16 : Nat) : Int) from by omega, j2_is _ _ (by omega) (by omega) (by omega), lg_shift v 16 (by omega)]
    congr 1
    omega
  · rw [if_neg a, j2_is _ _ h0 (by omega) (by omega)]
theorem len64 (v : Nat) (h0 : 0 < v) (h : v < 18446744073709551616) : F98.m v = some ((Nat.log2 v + 1 : Nat) : Int) := by
  unfold F98.m
  by_cases a : (4294967296 : Int) ≤ v
  · have e : v >>> 32 = v / 4294967296 := by rw [Nat.shiftRight_eq_div_pow]
    rw [if_pos a, show (32 : Int) = ((32 : Nat) : Int) from rfl, shr_nat _ _ _ (by decide), j1_is' _ _ (by omega) (by omega) (by omega), lg_shift v 32 (by omega)]
    congr 1
    omega
  · rw [if_neg a, show (0 : Int) = ((0 : Nat) : Int) from rfl, j1_is' _ _ h0 (by omega) (by omega)]
    congr 1
    omega
def hf (n : Nat) : Nat := 2 ^ Nat.log2 (n - 1)
theorem hf_bd (n : Nat) (h : 2 ≤ n) : 0 < hf n ∧ hf n < n ∧ n ≤ 2 * hf n := by
  have h1 := Nat.log2_self_le (show n - 1 ≠ 0 by omega)
  have h2 : n - 1 < 2 ^ (Nat.log2 (n - 1) + 1) := Nat.lt_log2_self
  rw [Nat.pow_succ] at h2
  unfold hf
  have hp : 0 < 2 ^ Nat.log2 (n - 1) := Nat.pow_pos (by omega)
  omega
theorem F76_is (n : Nat) (h : 2 ≤ n) (h2 : n ≤ 9223372036854775807) : F76.m n = some (hf n : Int) := by
  have hb := hf_bd n h
  have hl : Nat.log2 (n - 1) < 63 := by rw [Nat.log2_lt (by omega)]; omega
  unfold F76.m F95.m
  rw [w64 (n := (n : Int) - 1) (by omega) (by omega), wu64 (by omega) (by omega), show (n : Int) - 1 = ((n - 1 : Nat) : Int) from by omega, len64 _ (by omega) (by omega)]
  simp only [Option.bind_some]
  rw [w64 (n := ((Nat.log2 (n - 1) + 1 : Nat) : Int) - 1) (by omega) (by omega), show ((Nat.log2 (n - 1) + 1 : Nat) : Int) - 1 = (Nat.log2 (n - 1) : Int) from by omega, if_pos (by omega), show (1 : Int) = ((1 : Nat) : Int) from rfl, shl_nat _ _ _ (by simp [IntKind.bits]; omega), Nat.one_shiftLeft]
  unfold hf at hb ⊢
  rw [w64 (by omega) (by omega)]
theorem F77_is (n : Nat) (h : 2 ≤ n) (h2 : n ≤ 9223372036854775807) : F77.m n = some (hf n : Int) := by
  have hb := hf_bd n h
  unfold F77.m
  rw [loop_done (fun k => ((2 ^ k : Nat) : Int)) (Nat.log2 (n - 1)) (hf n : Int) (fun k hk => ?_) ?_ (by rfl)]
  · rfl
  · simp only [F77.b1]
    show (if ((hf n : Nat) : Int) < _ then _ else _) = _
    rw [show ((2 ^ Nat.log2 (n - 1) : Nat) : Int) = (hf n : Int) from rfl, w64 (by omega) (by omega), if_neg (by omega)]
  · have h3 : 2 ^ (k + 1) ≤ 2 ^ Nat.log2 (n - 1) := Nat.pow_le_pow_right (by omega) (by omega)
    have h4 : 2 ^ Nat.log2 (n - 1) = hf n := rfl
    have h5 : (2 : Nat) ^ (k + 1) = 2 * 2 ^ k := by rw [Nat.pow_succ]; omega
    have h6 : 0 < 2 ^ k := Nat.pow_pos (by omega)
    simp only [F77.b1]
    generalize (2 : Nat) ^ k = z at *
    rw [h5, w64 (n := (n : Int) - z) (by omega) (by omega), if_pos (by omega), w64 (by omega) (by omega)]
    congr 2

/-! ### Pairs, leaves -/
theorem subD_take {α : Type} (x : List α) (c : Nat) : subL x 0 (c : Int) = x.take c := by
  unfold subL
  simp
theorem subD_drop {α : Type} (x : List α) (c : Nat) : subL x (c : Int) (x.length : Int) = x.drop c := by
  unfold subL
  simp
  rw [List.take_of_length_le (by simp)]
def prL (a b : D32) : List Int := 1 :: (a.l ++ b.l)
theorem prL_len (a b : D32) : (prL a b).length = 65 := by simp [prL, a.h, b.h]
def pr (a b : D32) : D32 := dig (prL a b)
theorem text_is (a b : D32) : F78.m a b = some (prL a b) := by
  unfold F78.m
  have ha : subL a.l 0 ((32 : Nat) : Int) = a.l := by rw [sub_take, List.take_of_length_le (by rw [a.h]; omega)]
  have hb : subL b.l 0 ((32 : Nat) : Int) = b.l := by rw [sub_take, List.take_of_length_le (by rw [b.h]; omega)]
  rw [ha, hb, join_is _ (by simp) (by simp [a.h, b.h])]
  simp [prL]
theorem F48_is (a b : D32) : F48.m a b = some (pr a b) := by
  unfold F48.m
  rw [text_is, Option.bind_some, F33_is _ (by rw [prL_len]; omega)]
  rfl
theorem F47_is (a b : D32) : F47.m a b = some (pr a b) := by
  have ha : subL a.l 0 ((32 : Nat) : Int) = a.l := by rw [sub_take, List.take_of_length_le (by rw [a.h]; omega)]
  have hb : subL b.l 0 ((32 : Nat) : Int) = b.l := by rw [sub_take, List.take_of_length_le (by rw [b.h]; omega)]
  unfold F47.m
  rw [ha, hb, sub_take, Arr.cp_l _ _ _ _ (by omega), Arr.cp_l _ _ _ _ (by omega)]
  have e1 : cpL (Arr.set (Arr.rep 65 (0 : Int)) 0 1).l 1 ((65 : Nat) : Int) a.l = 1 :: (a.l ++ List.replicate 32 0) := by
    show cpL (List.set (List.replicate 65 (0 : Int)) 0 1) 1 ((65 : Nat) : Int) a.l = _
    unfold cpL
    rw [a.h, List.take_of_length_le (l := a.l) (by rw [a.h]; decide)]
    rfl
  have e2 : cpL (1 :: (a.l ++ List.replicate 32 0)) 33 ((65 : Nat) : Int) b.l = prL a b := by
    unfold cpL prL
    rw [b.h, List.take_of_length_le (l := b.l) (by rw [b.h]; decide)]
    rw [show Int.toNat 33 = 32 + 1 from rfl, List.take_succ_cons, List.take_append_of_le_length (by rw [a.h]; omega), List.take_of_length_le (l := a.l) (by rw [a.h]; omega), List.drop_eq_nil_of_le (by simp [a.h])]
    simp
  rw [e1, e2, List.take_of_length_le (by rw [prL_len]; omega), F32_is _ (by rw [prL_len]; omega)]
  rfl
theorem F47_2_is (a b : D32) : F47_2.m a b = some (pr a b) := F47_is a b
theorem F47_3_is (a b : D32) : F47_3.m a b = some (pr a b) := F47_is a b
theorem leaf_is (m : List Int) (h : m.length ≤ 500) : F42.m m = some (dig (0 :: m)) := by
  unfold F42.m F34.m
  obtain ⟨a1, r1, m1, l1, hw1, hI1⟩ := write_is _ _ _ _ _ [0] Inv.nil (by simp)
  obtain ⟨a2, r2, m2, l2, hw2, hI2⟩ := write_is _ _ _ _ _ m hI1 (by simp; omega)
  rw [Option.bind_some, hw1, Option.bind_some, hw2, Option.bind_some, sum_is _ _ _ _ _ hI2 (by simp; omega)]
  rfl
theorem copy_is (x : List D32) (h : x.length ≤ 100000) : F45.m x = some x := by
  unfold F45.m
  rw [loop_done (fun k => (x.take k, (k : Int))) x.length x (fun k hk => ?_) ?_ (by rfl)]
  · rfl
  · simp only [F45.b1]
    rw [if_neg (by omega), List.take_length]
  · simp only [F45.b1]
    rw [if_pos (by omega), if_pos (by omega), gd_at _ _ hk, if_pos (by simp; omega), w64 (by omega) (by omega), ← List.take_succ_eq_append_getElem hk]
    rfl

/-! ### The root -/
def R (l : List D32) : D32 :=
  if h0 : l.length = 0 then dig [] else if h1 : l.length = 1 then gd l 0
  else pr (R (l.take (hf l.length))) (R (l.drop (hf l.length)))
termination_by l.length
decreasing_by
  all_goals have := hf_bd l.length (by omega); simp; omega
theorem R_two (l : List D32) (h : 2 ≤ l.length) : R l = pr (R (l.take (hf l.length))) (R (l.drop (hf l.length))) := by
  rw [R, dif_neg (by omega), dif_neg (by omega)]
theorem R_one (l : List D32) (h : l.length = 1) : R l = gd l 0 := by
  rw [R, dif_neg (by omega), dif_pos h]
theorem R_none (l : List D32) (h : l.length = 0) : R l = dig [] := by
  rw [R, dif_pos h]
theorem F44_run : ∀ (n : Nat) (l : List D32), l.length < n → l.length ≤ 100000 → F44.mF n l = some (R l)
  | 0, l, h, _ => by omega
  | n + 1, l, h, hl => by
    simp only [F44.mF, F44.g]
    by_cases a : l.length = 0
    · rw [if_pos (by omega), F32_is _ (by simp), R_none l a]; rfl
    by_cases b : l.length = 1
    · rw [if_neg (by omega), if_pos (by omega), if_pos (by omega), R_one l b]
    have hb := hf_bd l.length (by omega)
    rw [if_neg (by omega), if_neg (by omega), F76_is _ (by omega) (by omega), Option.bind_some, if_pos (by omega), if_pos (by omega), subD_take, subD_drop, F44_run n _ (by simp; omega) (by simp; omega), Option.bind_some, F44_run n _ (by simp; omega) (by simp; omega), Option.bind_some, F47_is, R_two l (by omega)]
    rfl
theorem F44_is (l : List D32) (h : l.length ≤ 100000) : F44.m l = some (R l) := evt_is (l.length + 1) (fun k hk => F44_run k l (by omega) h)
theorem F46_run : ∀ (n : Nat) (l : List D32), l.length < n → l.length ≤ 100000 → F46.mF n l = some (R l)
  | 0, l, h, _ => by omega
  | n + 1, l, h, hl => by
    simp only [F46.mF, F46.g]
    by_cases a : l.length = 0
    · rw [if_pos (by omega), F33_is _ (by simp), R_none l a]; rfl
    by_cases b : l.length = 1
    · rw [if_neg (by omega), if_pos (by omega), if_pos (by omega), R_one l b]
    have hb := hf_bd l.length (by omega)
    rw [if_neg (by omega), if_neg (by omega), F77_is _ (by omega) (by omega), Option.bind_some, if_pos (by omega), if_pos (by omega), subD_take, subD_drop, F46_run n _ (by simp; omega) (by simp; omega), Option.bind_some, F46_run n _ (by simp; omega) (by simp; omega), Option.bind_some, F48_is, R_two l (by omega)]
    rfl
theorem F46_is (l : List D32) (h : l.length ≤ 100000) : F46.m l = some (R l) := evt_is (l.length + 1) (fun k hk => F46_run k l (by omega) h)

/-! ### The turns of a place -/
def tn (i n : Nat) : List Bool :=
  if h : n ≤ 1 then [] else if hf n ≤ i then true :: tn (i - hf n) (n - hf n) else false :: tn i (hf n)
termination_by n
decreasing_by
  all_goals have := hf_bd n (by omega); omega
def lg (n : Nat) : Nat := if n ≤ 1 then 0 else Nat.log2 (n - 1) + 1
theorem lg_half (n : Nat) (h : 2 ≤ n) : lg (hf n) < lg n ∧ lg (n - hf n) < lg n := by
  have hb := hf_bd n h
  have key : ∀ m, m ≤ hf n → lg m < lg n := fun m hm => by
    unfold lg
    rw [if_neg (show ¬ n ≤ 1 by omega)]
    by_cases a : m ≤ 1
    · rw [if_pos a]; omega
    · rw [if_neg a]
      have : Nat.log2 (m - 1) < Nat.log2 (n - 1) := by
        rw [Nat.log2_lt (by omega)]
        unfold hf at hm
        omega
      omega
  exact ⟨key _ (Nat.le_refl _), key _ (by omega)⟩
theorem lg_63 (n : Nat) (h : n ≤ 9223372036854775807) : lg n ≤ 63 := by
  unfold lg
  by_cases a : n ≤ 1
  · rw [if_pos a]; omega
  · rw [if_neg a]
    have : Nat.log2 (n - 1) < 63 := by rw [Nat.log2_lt (by omega)]; omega
    omega
theorem tn_len (i n : Nat) : (tn i n).length ≤ lg n := by
  rw [tn]
  by_cases a : n ≤ 1
  · rw [dif_pos a]; simp
  · have hb := hf_bd n (by omega)
    have hl := lg_half n (by omega)
    rw [dif_neg a]
    split
    · have := tn_len (i - hf n) (n - hf n); simp only [List.length_cons]; omega
    · have := tn_len i (hf n); simp only [List.length_cons]; omega
termination_by n
theorem turns_is (i n : Nat) (h : i < n) (hn : n ≤ 9223372036854775807) : F79.m i n = some (tn i n) := by
  unfold F79.m
  obtain ⟨y, hy, hq⟩ := loop_ends (b := F79.b1) (fun s => ∃ (j m : Nat) (d : List Bool), j < m ∧ m ≤ n ∧ d.length + lg m ≤ lg n ∧ d ++ tn j m = tn i n ∧ s = ((j : Int), (m : Int), d)) (fun s => s.2.1.toNat) (fun y => y = tn i n) (fun s hs => by
    obtain ⟨j, m, d, hj, hm, hd, ht, rfl⟩ := hs
    have h63 := lg_63 n hn
    simp only [F79.b1]
    by_cases a : m ≤ 1
    · rw [if_neg (by omega)]
      refine ⟨_, rfl, fun x' h => by simp at h, fun y h => ?_⟩
      simp only [Sum.inr.injEq] at h
      rw [tn, dif_pos a, List.append_nil] at ht
      rw [← h, ht]
    · have hb := hf_bd m (by omega)
      have hl := lg_half m (by omega)
      rw [tn, dif_neg a] at ht
      rw [if_pos (by omega), F76_is m (by omega) (by omega), Option.bind_some, if_pos (by simp; omega)]
      by_cases c : hf m ≤ j
      · rw [if_pos c] at ht
        rw [if_pos (by omega)]
        simp only [F79.j2]
        rw [decide_eq_true (by omega), w64 (by omega) (by omega), w64 (by omega) (by omega)]
        refine ⟨_, rfl, fun x' h => ?_, fun y h => by simp at h⟩
        simp only [Sum.inl.injEq] at h
        subst h
        refine ⟨⟨j - hf m, m - hf m, d ++ [true], by omega, by omega, by simp; omega, by simpa using ht, ?_⟩, by simp only; omega⟩
        rw [show ((j - hf m : Nat) : Int) = (j : Int) - hf m from by omega, show ((m - hf m : Nat) : Int) = (m : Int) - hf m from by omega]
      · rw [if_neg c] at ht
        rw [if_neg (by omega)]
        simp only [F79.j2]
        rw [decide_eq_false (by omega)]
        refine ⟨_, rfl, fun x' h => ?_, fun y h => by simp at h⟩
        simp only [Sum.inl.injEq] at h
        subst h
        exact ⟨⟨j, hf m, d ++ [false], by omega, by omega, by simp; omega, by simpa using ht, rfl⟩, by simp only; omega⟩) ((i : Int), (n : Int), []) ⟨i, n, [], h, by omega, by simp, by simp, rfl⟩
  rw [hy, hq]
  rfl
theorem steps_is (i n : Nat) (h : i < n) (hn : n ≤ 9223372036854775807) : F50.m i n = some ((tn i n).length : Int) := by
  unfold F50.m
  rw [if_neg (by omega), if_neg (by omega), turns_is i n h hn]
  rfl
theorem mer_awake : F41.m = some true := by
  have h3 : hf 3 = 2 := by decide
  have h2 : hf 2 = 1 := by decide
  have t1 : tn 2 3 = [true] := by
    rw [tn, h3]; simp; rw [tn]; simp
  have t2 : tn 0 3 = [false, false] := by
    rw [tn, h3]; simp; rw [tn, h2]; simp; rw [tn]; simp
  have d0 : gd (dig [0]).l 0 = 110 := by decide +kernel
  unfold F41.m
  rw [leaf_is _ (by simp), Option.bind_some, show F50.m 2 3 = some 1 from (steps_is 2 3 (by omega) (by omega)).trans (by rw [t1]; rfl), Option.bind_some, if_pos rfl, show F50.m 0 3 = some 2 from (steps_is 0 3 (by omega) (by omega)).trans (by rw [t2]; rfl), Option.bind_some, if_pos rfl, d0]
  rfl
end Go.Proofs.Ytmedbpiapeiobaa
