/- What MerkleBinds needs. -/
import Derived.Test.YtmedbpiapeiobaaPureMeL
import Derived.Test.YtmedbpiapeiobaaYMerkleBinds
set_option linter.unusedVariables false
set_option linter.unusedSimpArgs false
namespace Go.Proofs.Ytmedbpiapeiobaa
open Go Go.Eng Go.Proofs
theorem arr_inj {a b : D32} (h : a.l = b.l) : a = b := Arr.ext' h
theorem prL_inj {a b c d : D32} (h : prL a b = prL c d) : a = c ∧ b = d := by
  unfold prL at h
  have h1 := (List.cons.inj h).2
  have h2 := List.append_inj h1 (by rw [a.h, c.h])
  exact ⟨arr_inj h2.1, arr_inj h2.2⟩
theorem str_inj : ∀ {xs ys : List Int}, (∀ x ∈ xs, 0 ≤ x ∧ x ≤ 255) → (∀ y ∈ ys, 0 ≤ y ∧ y ≤ 255) → strOfNums xs = strOfNums ys → xs = ys := by
  intro xs ys hx hy h
  have h1 : (xs.map fun n => UInt8.ofNat n.toNat) = (ys.map fun n => UInt8.ofNat n.toNat) := by
    rw [← strOfNums_data, ← strOfNums_data, h]
  induction xs generalizing ys with
  | nil =>
    cases ys with
    | nil => rfl
    | cons y ys => simp at h1
  | cons x xs ih =>
    cases ys with
    | nil => simp at h1
    | cons y ys =>
      simp only [List.map_cons] at h1
      have h2 := (List.cons.inj h1).1
      have h3 := (List.cons.inj h1).2
      have hxx := hx x (by simp)
      have hyy := hy y (by simp)
      have h4 := congrArg UInt8.toNat h2
      simp only [UInt8.toNat_ofNat'] at h4
      have : x = y := by omega
      subst this
      congr 1
      refine ih (fun z hz => hx z (by simp [hz])) (fun z hz => hy z (by simp [hz])) ?_ h3
      unfold strOfNums
      rw [h3]
def U8 (a : D32) : Prop := ∀ y ∈ a.l, 0 ≤ y ∧ y ≤ 255
theorem wrap_u8 (n : Int) : 0 ≤ IntKind.wrap .u8 n ∧ IntKind.wrap .u8 n ≤ 255 := by
  simp [IntKind.wrap, IntKind.bits, IntKind.signed]
  omega
theorem dig_u8 (m : List Int) : U8 (dig m) := fun y hy => by
  unfold dig outA at hy
  rw [mkA_l] at hy
  obtain ⟨i, _, rfl⟩ := List.mem_map.1 hy
  exact wrap_u8 _
theorem R_u8 (l : List D32) (h : ∀ w ∈ l, U8 w) : U8 (R l) := by
  by_cases a : l.length = 0
  · rw [R_none l a]; exact dig_u8 _
  by_cases b : l.length = 1
  · rw [R_one l b, show (0 : Int) = ((0 : Nat) : Int) from rfl, gd_at _ _ (by omega)]
    exact h _ (List.getElem_mem _)
  · rw [R_two l (by omega)]; exact dig_u8 _
theorem gd_u8' (l : List D32) (h : ∀ w ∈ l, U8 w) (k : Nat) (hk : k < l.length) : U8 (gd l (k : Int)) := by
  rw [gd_at _ _ hk]; exact h _ (List.getElem_mem _)
theorem cl_u8 (x : D32) (hx : U8 x) (T : List Bool) (ws : List D32) : U8 (cl x T ws) := by
  cases T with
  | nil => exact hx
  | cons t T =>
    simp only [cl]
    split <;> exact dig_u8 _
theorem prL_u8 {a b : D32} (ha : U8 a) (hb : U8 b) : ∀ y ∈ prL a b, 0 ≤ y ∧ y ≤ 255 := fun y hy => by
  unfold prL at hy
  simp only [List.mem_cons, List.mem_append] at hy
  rcases hy with rfl | hy | hy
  · omega
  · exact ha y hy
  · exact hb y hy
theorem F53_run : ∀ (f : Nat) (l : List D32) (x : D32) (i : Nat) (ws : List D32), l.length < f → i < l.length → l.length ≤ 100000 → (tn i l.length).length = ws.length → (∀ w ∈ l, U8 w) → (∀ w ∈ ws, U8 w) → U8 x → cl x (tn i l.length) ws = R l → x ≠ gd l (i : Int) → F53.mF f l x i ws = some true
  | 0, _, _, _, _, h, _, _, _, _, _, _, _, _ => by omega
  | f + 1, l, x, i, ws, h, hi, hl, ht, hu, hv, hxu, hc, hx => by
    simp only [F53.mF, F53.g]
    by_cases a : l.length = 1
    · exfalso
      rw [tn, dif_pos (by omega)] at hc
      simp only [cl] at hc
      rw [R_one l a] at hc
      exact hx (by rw [hc, show i = 0 from by omega]; rfl)
    have hb := hf_bd l.length (by omega)
    have hlg := lg_63 l.length (by omega)
    have htl := tn_len i l.length
    have hu1 : ∀ w ∈ l.take (hf l.length), U8 w := fun w hw => hu w (List.mem_of_mem_take hw)
    have hu2 : ∀ w ∈ l.drop (hf l.length), U8 w := fun w hw => hu w (List.mem_of_mem_drop hw)
    have hv1 : ∀ w ∈ ws.take (ws.length - 1), U8 w := fun w hw => hv w (List.mem_of_mem_take hw)
    rw [tn, dif_neg (by omega)] at hc ht htl
    rw [R_two l (by omega)] at hc
    have e (q : 1 ≤ ws.length) : IntKind.wrap .i64 ((ws.length : Int) - 1) = ((ws.length - 1 : Nat) : Int) := by rw [w64 (by omega) (by omega)]; omega
    rw [if_neg (by omega), F77_is _ (by omega) (by omega), Option.bind_some, if_pos (by omega), subD_take, F46_is _ (by simp; omega), Option.bind_some, if_pos (by omega), subD_drop, F46_is _ (by simp; omega), Option.bind_some]
    by_cases c : hf l.length ≤ i
    · rw [if_pos c] at hc ht htl
      simp only [List.length_cons] at ht htl
      simp only [cl, if_true] at hc
      rw [e (by omega), if_pos (by omega), if_neg (by omega), if_pos (by omega), subD_take, w64 (n := (i : Int) - hf l.length) (by omega) (by omega), w64 (n := (l.length : Int) - hf l.length) (by omega) (by omega), show (i : Int) - hf l.length = ((i - hf l.length : Nat) : Int) from by omega, show (l.length : Int) - hf l.length = ((l.length - hf l.length : Nat) : Int) from by omega,
        F52_is x _ _ _ (by omega) (by omega) (by simp; omega) (by simp; omega), Option.bind_some]
      simp only [F53.j1]
      rw [text_is, Option.bind_some, text_is, Option.bind_some]
      by_cases hs : strOfNums (prL (R (l.take (hf l.length))) (R (l.drop (hf l.length)))) = strOfNums (prL (gd ws ((ws.length - 1 : Nat) : Int)) (cl x (tn (i - hf l.length) (l.length - hf l.length)) (ws.take (ws.length - 1))))
      · have h2 := (prL_inj (str_inj (prL_u8 (R_u8 _ hu1) (R_u8 _ hu2)) (prL_u8 (gd_u8' ws hv _ (by omega)) (cl_u8 x hxu _ _)) hs)).2
        rw [if_pos hs, if_neg (by omega), e (by omega), if_pos (by omega), subD_drop, subD_take, w64 (n := (i : Int) - hf l.length) (by omega) (by omega), show (i : Int) - hf l.length = ((i - hf l.length : Nat) : Int) from by omega,
          F53_run f (l.drop (hf l.length)) x (i - hf l.length) (ws.take (ws.length - 1)) (by simp; omega) (by simp; omega) (by simp; omega) (by simp; omega) hu2 hv1 hxu (by rw [List.length_drop]; exact h2.symm) (by
            rw [gd_at _ _ (by simp; omega)]
            rw [gd_at _ _ hi] at hx
            simp only [List.getElem_drop]
            intro q
            apply hx
            rw [q]
            congr 1
            omega)]
        rfl
      · rw [if_neg hs, F48_is, Option.bind_some, F48_is, Option.bind_some, hc]
        simp
    · rw [if_neg c] at hc ht htl
      simp only [List.length_cons] at ht htl
      simp only [cl] at hc
      rw [if_neg (by simp)] at hc
      rw [e (by omega), if_pos (by omega), if_pos (by omega), if_pos (by omega), subD_take,
        F52_is x _ _ _ (by omega) (by omega) (by simp; omega) (by simp; omega), Option.bind_some]
      simp only [F53.j1]
      rw [text_is, Option.bind_some, text_is, Option.bind_some]
      by_cases hs : strOfNums (prL (R (l.take (hf l.length))) (R (l.drop (hf l.length)))) = strOfNums (prL (cl x (tn i (hf l.length)) (ws.take (ws.length - 1))) (gd ws ((ws.length - 1 : Nat) : Int)))
      · have h2 := (prL_inj (str_inj (prL_u8 (R_u8 _ hu1) (R_u8 _ hu2)) (prL_u8 (cl_u8 x hxu _ _) (gd_u8' ws hv _ (by omega))) hs)).1
        rw [if_pos hs, if_pos (by omega), e (by omega), if_pos (by omega), subD_take, subD_take,
          F53_run f (l.take (hf l.length)) x i (ws.take (ws.length - 1)) (by simp; omega) (by simp; omega) (by simp; omega) (by simp [Nat.min_eq_left (Nat.le_of_lt hb.2.1)]; omega) hu1 hv1 hxu (by rw [List.length_take, Nat.min_eq_left (Nat.le_of_lt hb.2.1)]; exact h2.symm) (by
            rw [gd_at _ _ (by simp; omega)]
            rw [gd_at _ _ hi] at hx
            simpa using hx)]
        rfl
      · rw [if_neg hs, F48_is, Option.bind_some, F48_is, Option.bind_some, hc]
        simp
theorem copy_any (x : List D32) (h : x.length * 32 ≤ 140737488351232) : F45.m x = some x := by
  unfold F45.m
  rw [loop_done (fun k => (x.take k, (k : Int))) x.length x (fun k hk => ?_) ?_ (by rfl)]
  · rfl
  · simp only [F45.b1]
    rw [if_neg (by omega), List.take_length]
  · simp only [F45.b1]
    rw [if_pos (by omega), if_pos (by omega), gd_at _ _ hk, if_pos (by simp; omega), w64 (by omega) (by omega), ← List.take_succ_eq_append_getElem hk]
    rfl
theorem F53_is (l : List D32) (x : D32) (i : Nat) (ws : List D32) (hi : i < l.length) (hl : l.length ≤ 100000) (ht : (tn i l.length).length = ws.length) (hu : ∀ w ∈ l, U8 w) (hv : ∀ w ∈ ws, U8 w) (hxu : U8 x) (hc : cl x (tn i l.length) ws = R l) (hx : x ≠ gd l (i : Int)) : F53.m l x i ws = some true :=
  evt_is (l.length + 1) (fun k hk => F53_run k l x i ws (by omega) hi hl ht hu hv hxu hc hx)
theorem pure_MerkleBinds (a0 : List (Arr Int 32)) (a1 : (Arr Int 32)) (a2 : Int) (a3 : List (Arr Int 32)) (w0 : ∀ x ∈ a0, (∀ y ∈ (x).l, InR .u8 y)) (m0 : a0.length ≤ maxLen) (w1 : (∀ y ∈ (a1).l, InR .u8 y)) (w2 : InR .i64 a2) (w3 : ∀ x ∈ a3, (∀ y ∈ (x).l, InR .u8 y)) (m3 : a3.length ≤ maxLen) (z0 : a0.length * 32 ≤ 140737488351232) (z3 : a3.length * 32 ≤ 140737488351232) :
    F15.m a0 a1 a2 a3 = some true := by
  unfold F15.m
  rw [mer_awake]
  by_cases h : (100 : Int) < (a0.length : Int)
  · rw [if_pos h]; rfl
  by_cases d : a2 < 0
  · rw [if_neg h, if_pos d]; rfl
  by_cases e : (a0.length : Int) ≤ a2
  · rw [if_neg h, if_neg d, if_pos e]; rfl
  obtain ⟨i, rfl⟩ : ∃ i : Nat, a2 = i := ⟨a2.toNat, by omega⟩
  have hi : i < a0.length := by omega
  have h63 := lg_63 a0.length (by omega)
  have htl := tn_len i a0.length
  have hu : ∀ w ∈ a0, U8 w := fun w hw y hy => inU8 (w0 w hw y hy)
  have hv : ∀ w ∈ a3, U8 w := fun w hw y hy => inU8 (w3 w hw y hy)
  have hx : U8 a1 := fun y hy => inU8 (w1 y hy)
  rw [if_neg h, if_neg d, if_neg e, copy_any _ z3, Option.bind_some]
  by_cases q : (tn i a0.length).length = a3.length
  · rw [lead_is a1 i a0.length a3 hi (by omega) (by omega), Option.bind_some, if_pos q]
    simp only [F15.j1]
    rw [if_pos trivial, copy_is _ (by omega), Option.bind_some, F44_is _ (by omega), Option.bind_some, mer_awake]
    by_cases r : cl a1 (tn i a0.length) a3 = R a0
    · rw [if_pos r, if_pos (by omega)]
      by_cases s : a1 = gd a0 (i : Int)
      · rw [if_pos s]; rfl
      · rw [if_neg s, F53_is a0 a1 i a3 hi (by omega) q hu hv hx r s]; rfl
    · rw [if_neg r]; rfl
  · have h49 : F49.m a1 i a0.length a3 = some (K3, 3) := by
      unfold F49.m
      rw [steps_is i _ hi (by omega), Option.bind_some, if_neg (by omega), if_neg (by omega)]
    rw [h49, Option.bind_some]
    simp only [F15.j1]
    rw [if_neg (by omega), mer_awake]
    rfl
end Go.Proofs.Ytmedbpiapeiobaa
