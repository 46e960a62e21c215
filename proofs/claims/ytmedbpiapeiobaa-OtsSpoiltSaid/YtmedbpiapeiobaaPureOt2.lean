/- What Ot2 needs. -/
import Derived.Test.YtmedbpiapeiobaaPureOtK
set_option linter.unusedVariables false
set_option linter.unusedSimpArgs false
namespace Go.Proofs.Ytmedbpiapeiobaa
open Go Go.Eng Go.Proofs
/-! ### Digits of a message -/
theorem dig_u8' (m : List Int) : ∀ y ∈ (dig m).l, 0 ≤ y ∧ y ≤ 255 := fun y hy => by
  unfold dig outA at hy
  rw [mkA_l] at hy
  obtain ⟨i, _, rfl⟩ := List.mem_map.1 hy
  rw [wu8_mod]
  omega
theorem hx_u8 (I : D16) (q : Int) (s : List Int) : ∀ y ∈ (hx I q s).l, 0 ≤ y ∧ y ≤ 255 := dig_u8' _
theorem octs_u8 (x : Int) : ∀ y ∈ octs x, 0 ≤ y ∧ y ≤ 255 := fun y hy => by
  unfold octs at hy
  obtain ⟨i, _, rfl⟩ := List.mem_map.1 hy
  exact oct_u8 _ _
def qd (x : Nat) (I : D16) (q : Int) (C m : List Int) : List Int :=
  (hx I q (129 :: 129 :: (C ++ m))).l ++ b2 (IntKind.wrap .u64 (IntKind.wrap .u16 (lack (hx I q (129 :: 129 :: (C ++ m))).l (wd1 x) * fac (wd1 x))))
def ds (x : Nat) (I : D16) (q : Int) (C m : List Int) : List Int := ((List.range (8 / wd1 x * 34)).map (digit (qd x I q C m) (wd1 x))).take (pn x)
theorem qd_len (x : Nat) (I : D16) (q : Int) (C m : List Int) : (qd x I q C m).length = 34 := by
  unfold qd
  rw [List.length_append, b2_len, (hx I q (129 :: 129 :: (C ++ m))).h]
theorem qd_u8 (x : Nat) (I : D16) (q : Int) (C m : List Int) : ∀ y ∈ qd x I q C m, 0 ≤ y ∧ y ≤ 255 := fun y hy => by
  unfold qd at hy
  rcases List.mem_append.1 hy with h | h
  · exact hx_u8 _ _ _ y h
  · exact octs_u8 _ y (List.mem_of_mem_drop h)
theorem p_fits (x : Nat) (h : 1 ≤ x ∧ x ≤ 4) : pn x ≤ 8 / wd1 x * 34 := by
  obtain ⟨h1, h2⟩ := h
  match x, h1, h2 with
  | 1, _, _ => decide
  | 2, _, _ => decide
  | 3, _, _ => decide
  | 4, _, _ => decide
  | n + 5, _, h => omega
theorem ds_len (x : Nat) (h : 1 ≤ x ∧ x ≤ 4) (I : D16) (q : Int) (C m : List Int) : (ds x I q C m).length = pn x := by
  have := p_fits x h
  unfold ds
  rw [List.length_take, List.length_map, List.length_range]
  omega
theorem ds_le (x : Nat) (I : D16) (q : Int) (C m : List Int) (i : Nat) (h : i < (ds x I q C m).length) : ∃ d : Nat, gd (ds x I q C m) (i : Int) = d ∧ d ≤ tp x := by
  rw [gd_at _ _ h]
  unfold ds at h ⊢
  rw [List.getElem_take, List.getElem_map, List.getElem_range]
  have := digit_le (qd x I q C m) (wd1 x) i
  exact ⟨(digit (qd x I q C m) (wd1 x) i).toNat, by omega, by unfold tp; omega⟩
theorem ends_is (I : D16) (q : Int) : ∀ n : Nat, n = 33153 → b2 (n : Int) = [129, 129] := fun n hn => by subst hn; decide
theorem ends_is' : b2 ((32896 : Nat) : Int) = [128, 128] := by decide
theorem sub_pn {α : Type} (l : List α) (p : Nat) : subL l 0 (p : Int) = l.take p := by unfold subL; simp
theorem F89_is (x : Nat) (h : 1 ≤ x ∧ x ≤ 4) (I : D16) (q : Int) (C m : List Int) (hC : C.length ≤ 1000) (hm : m.length ≤ 1000) : F89.m x (ky I q) C m = some (ds x I q C m) := by
  obtain ⟨h58, h59, h60, h57, hw, ht⟩ := widths x h
  have hp := p_fits x h
  have hQ := hx_u8 I q (129 :: 129 :: (C ++ m))
  unfold F89.m
  rw [show (33153 : Int) = ((33153 : Nat) : Int) from rfl, two_is x I q 33153 (by omega) _ (by simp) (by simp; omega), Option.bind_some, ends_is I q _ rfl, h58, Option.bind_some]
  rw [show [129, 129] ++ [C, m].flatten = 129 :: 129 :: (C ++ m) from by simp, all32, F29_in _ (by rw [(hx I q _).h]; omega) hQ _ hw, Option.bind_some, put2 _ (by rw [(hx I q _).h]; omega), Option.bind_some]
  have e := F22_in (qd x I q C m) (by rw [qd_len]; omega) (qd_u8 x I q C m) (wd1 x) hw
  unfold qd at e
  rw [e, Option.bind_some, h60, Option.bind_some]
  have hl := qd_len x I q C m
  unfold qd at hl
  rw [hl, if_pos ⟨by omega, by omega, by rw [List.length_map, List.length_range]; exact Int.ofNat_le.2 hp⟩, sub_pn]
  rfl
theorem F90_is (x : Nat) (h : 1 ≤ x ∧ x ≤ 4) (I : D16) (q : Int) (hq : IntKind.wrap .u64 q = q) (C m : List Int) (hC : C.length ≤ 1000) (hm : m.length ≤ 1000) : F90.m x I q C m = some (ds x I q C m) := by
  obtain ⟨h58, h59, h60, h57, hw, ht⟩ := widths x h
  have hp := p_fits x h
  have hQ := hx_u8 I q (129 :: 129 :: (C ++ m))
  unfold F90.m
  rw [if_pos (by simp; omega), if_pos (by simp; omega), around_is I q hq _ (by simp; omega), Option.bind_some, show [129, 129] ++ C ++ m = 129 :: 129 :: (C ++ m) from by simp, h59]
  simp only [Option.bind_some]
  rw [all32, F30_in _ (by rw [(hx I q _).h]; omega) hQ _ hw, Option.bind_some, rut2 _ (by rw [(hx I q _).h]; omega), Option.bind_some]
  have e := F23_in (qd x I q C m) (by rw [qd_len]; omega) (qd_u8 x I q C m) (wd1 x) hw
  rw [allD_map _ _ (by rcases hw with e | e | e | e <;> rw [e] <;> decide)] at e
  unfold qd at e
  rw [e, Option.bind_some, h57, Option.bind_some]
  have hl := qd_len x I q C m
  unfold qd at hl
  rw [hl, if_pos ⟨by omega, by omega, by rw [List.length_map, List.length_range]; exact Int.ofNat_le.2 hp⟩, sub_pn]
  rfl

/-! ### Rows of sums -/
def cat (f : Nat → D32) : Nat → List Int
  | 0 => []
  | n + 1 => cat f n ++ (f n).l
theorem cat_len (f : Nat → D32) : ∀ n, (cat f n).length = 32 * n
  | 0 => rfl
  | n + 1 => by rw [cat, List.length_append, cat_len f n, (f n).h]; omega
theorem cat_same (f g : Nat → D32) : ∀ n, (∀ i, i < n → f i = g i) → cat f n = cat g n
  | 0, _ => rfl
  | n + 1, h => by rw [cat, cat, cat_same f g n (fun i hi => h i (by omega)), h n (by omega)]
theorem cat_at (f : Nat → D32) (i : Nat) : ∀ n, i < n → ((cat f n).drop (32 * i)).take 32 = (f i).l
  | 0, h => by omega
  | n + 1, h => by
    have hl := cat_len f n
    rw [cat]
    by_cases e : i = n
    · subst e
      rw [List.drop_append, List.drop_eq_nil_of_le (by omega), hl, Nat.sub_self, List.drop_zero, List.nil_append, List.take_of_length_le (by rw [(f i).h]; omega)]
    · rw [List.drop_append_of_le_length (by omega), List.take_append_of_le_length (by simp; omega), cat_at f i n (by omega)]
def pubD (I : D16) (q : Int) (s : List Int) : D32 := hx I q (128 :: 128 :: s)
def pubR (x : Nat) (I : D16) (q : Int) (S : D32) : D32 := pubD I q (cat (fun i => wk I q i (sec I q S i) 0 (tp x)) (pn x))
theorem last_is (x : Int) (I : D16) (q : Int) (s : List Int) (hs : s.length ≤ 9000) : F84.m x (ky I q) 32896 [s] = some (pubD I q s) := by
  rw [show (32896 : Int) = ((32896 : Nat) : Int) from rfl, two_is x I q 32896 (by omega) _ (by simp) (by simpa using hs), ends_is']
  unfold pubD
  simp
theorem ended_is (I : D16) (q : Int) (hq : IntKind.wrap .u64 q = q) (s : List Int) (hs : s.length ≤ 9000) : F88.m I q s = some (pubD I q s) := by
  unfold F88.m
  rw [if_pos (by simp; omega), around_is I q hq _ (by simp; omega)]
  rfl
theorem w0 (x : Nat) (h : 1 ≤ x ∧ x ≤ 4) : 1 ≤ wd1 x := by unfold wd1; exact Nat.pow_pos (by omega)
theorem public_is (x : Nat) (h : 1 ≤ x ∧ x ≤ 4) (I : D16) (q : Int) (hq : IntKind.wrap .u64 q = q) (S : D32) : F62.m x I q S = some (pubR x I q S, 0) := by
  obtain ⟨h58, h59, h60, h57, hw, ht⟩ := widths x h
  have h1 := w0 x h
  have hp := pn_le x
  unfold F62.m
  rw [h58, Option.bind_some, if_neg (by omega), named_is _ I q hq, Option.bind_some, h60, Option.bind_some]
  rw [loop_done (fun k => (cat (fun i => wk I q i (sec I q S i) 0 (tp x)) k, (k : Int))) (pn x) (cat (fun i => wk I q i (sec I q S i) 0 (tp x)) (pn x)) (fun k hk => ?_) ?_ (by rfl)]
  · simp only [Option.bind_some, F62.j1]
    rw [last_is _ I q _ (by rw [cat_len]; omega)]
    rfl
  · simp only [F62.b1]
    rw [if_neg (by omega)]
  · have hl := cat_len (fun i => wk I q i (sec I q S i) 0 (tp x)) k
    simp only [F62.b1]
    rw [if_pos (by omega), top_is x h, Option.bind_some, F83_is _ I q k (by omega), Option.bind_some, show (0 : Int) = ((0 : Nat) : Int) from rfl, F81_is _ I q k (by omega) 0 (tp x) (by omega), Option.bind_some]
    unfold F62.j2
    rw [all32, if_pos (by rw [hl, (wk I q k _ 0 _).h]; omega), w64 (by omega) (by omega), Nat.sub_zero]
    rfl
theorem public1_is (x : Nat) (h : 1 ≤ x ∧ x ≤ 4) (I : D16) (q : Int) (hq : IntKind.wrap .u64 q = q) (S : D32) : F62_1.m x I q S = some (pubR x I q S, 0) := public_is x h I q hq S

/-! ### Signing -/
def sgC (I : D16) (q : Int) (S : D32) : D32 := sec I q S 65533
def sgn (x : Nat) (I : D16) (q : Int) (S : D32) (m : List Int) : List Int :=
  (b4 x ++ (sgC I q S).l) ++ cat (fun i => wk I q i (sec I q S i) 0 (gd (ds x I q (sgC I q S).l m) (i : Int)).toNat) (pn x)
theorem sgn_len (x : Nat) (I : D16) (q : Int) (S : D32) (m : List Int) : (sgn x I q S m).length = 36 + 32 * pn x := by
  unfold sgn
  rw [List.length_append, List.length_append, b4_len, (sgC I q S).h, cat_len]
theorem sign_is (x : Nat) (h : 1 ≤ x ∧ x ≤ 4) (I : D16) (q : Int) (hq : IntKind.wrap .u64 q = q) (S : D32) (m : List Int) (hm : m.length ≤ 1000) : F65.m x I q S m = some (sgn x I q S m, 0) := by
  obtain ⟨h58, h59, h60, h57, hw, ht⟩ := widths x h
  have h1 := w0 x h
  have hp := pn_le x
  have hdl := ds_len x h I q (sgC I q S).l m
  unfold F65.m
  rw [h58, Option.bind_some, if_neg (by omega), named1_is _ I q hq, Option.bind_some, show (65533 : Int) = ((65533 : Nat) : Int) from rfl, F83_1_is _ I q 65533 (by omega), Option.bind_some, u64_nat x (by omega), put4, Option.bind_some]
  rw [show sec I q S 65533 = sgC I q S from rfl, all32, if_pos (by rw [b4_len, (sgC I q S).h]; omega), F89_is x h I q _ m (by rw [(sgC I q S).h]; omega) hm, Option.bind_some]
  rw [loop_done (fun k => ((b4 x ++ (sgC I q S).l) ++ cat (fun i => wk I q i (sec I q S i) 0 (gd (ds x I q (sgC I q S).l m) (i : Int)).toNat) k, (k : Int))) (pn x) (sgn x I q S m) (fun k hk => ?_) ?_ (by simp [cat])]
  · rfl
  · simp only [F65.b1]
    rw [if_neg (by omega)]
    rfl
  · have hl := cat_len (fun i => wk I q i (sec I q S i) 0 (gd (ds x I q (sgC I q S).l m) (i : Int)).toNat) k
    obtain ⟨d, hd, hdt⟩ := ds_le x I q (sgC I q S).l m k (by omega)
    simp only [F65.b1]
    rw [if_pos (by omega), if_pos (by omega), F83_1_is _ I q k (by omega), Option.bind_some, hd, show (0 : Int) = ((0 : Nat) : Int) from rfl, F81_is _ I q k (by omega) 0 d (by omega), Option.bind_some]
    unfold F65.j2
    rw [all32, if_pos (by rw [List.length_append, List.length_append, hl, b4_len, (sgC I q S).h, (wk I q k _ 0 _).h]; omega), w64 (by omega) (by omega), Nat.sub_zero, List.append_assoc (b4 (x : Int) ++ (sgC I q S).l)]
    rw [show d = (gd (ds x I q (sgC I q S).l m) (k : Int)).toNat from by rw [hd]; simp]
    rfl
theorem sign1_is (x : Nat) (h : 1 ≤ x ∧ x ≤ 4) (I : D16) (q : Int) (hq : IntKind.wrap .u64 q = q) (S : D32) (m : List Int) (hm : m.length ≤ 1000) : F65_1.m x I q S m = some (sgn x I q S m, 0) := sign_is x h I q hq S m hm

/-! ### Reading -/
def pc (s : List Int) (i : Nat) : D32 := Arr.ofL 32 ((s.drop (36 + 32 * i)).take 32)
def cnd (x : Nat) (I : D16) (q : Int) (s m : List Int) : D32 :=
  pubD I q (cat (fun i => wk I q i (pc s i) (gd (ds x I q ((s.drop 4).take 32) m) (i : Int)).toNat (tp x - (gd (ds x I q ((s.drop 4).take 32) m) (i : Int)).toNat)) (pn x))
theorem sub_mid {α : Type} (l : List α) (a b : Nat) : subL l (a : Int) (b : Int) = (l.drop a).take (b - a) := by
  unfold subL
  simp
theorem size_is (x : Nat) (h : 1 ≤ x ∧ x ≤ 4) : F61.m x = some ((36 + 32 * pn x : Nat) : Int) := by
  obtain ⟨h58, h59, h60, h57, hw, ht⟩ := widths x h
  have hp := pn_le x
  unfold F61.m
  rw [h60, Option.bind_some, if_neg (by omega), w64 (n := (32 : Int) * (pn x : Int)) (by omega) (by omega), w64 (by omega) (by omega)]
  congr 1
theorem cand_is (x : Nat) (h : 1 ≤ x ∧ x ≤ 4) (I : D16) (q : Int) (hq : IntKind.wrap .u64 q = q) (s m : List Int) (hm : m.length ≤ 1000) :
    F67.m x I q s m = some (if s.length = 36 + 32 * pn x then (if strOfNums (s.take 4) = strOfNums (b4 x) then (cnd x I q s m, 0) else (K3, 21)) else (K3, 3)) := by
  obtain ⟨h58, h59, h60, h57, hw, ht⟩ := widths x h
  have h1 := w0 x h
  have hp := pn_le x
  unfold F67.m
  rw [h58, Option.bind_some, if_neg (by omega), size_is x h, Option.bind_some]
  by_cases c : s.length = 36 + 32 * pn x
  · rw [if_pos (by omega), if_pos c, if_pos (by omega), u64_nat x (by omega), put4, Option.bind_some, show (4 : Int) = ((4 : Nat) : Int) from rfl, sub_take]
    by_cases e : strOfNums (s.take 4) = strOfNums (b4 x)
    · rw [if_pos e, if_pos e, named1_is _ I q hq, Option.bind_some, if_pos (by omega), if_pos (by omega), show (36 : Int) = ((36 : Nat) : Int) from rfl, sub_mid s 4 36, show (36 - 4 : Nat) = 32 from rfl, F89_is x h I q _ m (by simp; omega) hm, Option.bind_some]
      have hdl := ds_len x h I q ((s.drop 4).take 32) m
      rw [loop_done (fun k => (cat (fun i => wk I q i (pc s i) (gd (ds x I q ((s.drop 4).take 32) m) (i : Int)).toNat (tp x - (gd (ds x I q ((s.drop 4).take 32) m) (i : Int)).toNat)) k, (k : Int))) (pn x) (cat (fun i => wk I q i (pc s i) (gd (ds x I q ((s.drop 4).take 32) m) (i : Int)).toNat (tp x - (gd (ds x I q ((s.drop 4).take 32) m) (i : Int)).toNat)) (pn x)) (fun k hk => ?_) ?_ (by rfl)]
      · simp only [Option.bind_some, F67.j1]
        rw [last_is _ I q _ (by rw [cat_len]; omega)]
        rfl
      · simp only [F67.b1]
        rw [if_neg (by omega)]
      · have hl := cat_len (fun i => wk I q i (pc s i) (gd (ds x I q ((s.drop 4).take 32) m) (i : Int)).toNat (tp x - (gd (ds x I q ((s.drop 4).take 32) m) (i : Int)).toNat)) k
        obtain ⟨d, hd, hdt⟩ := ds_le x I q ((s.drop 4).take 32) m k (by omega)
        have e1 : subL s 36 (s.length : Int) = s.drop 36 := sub_drop s 36
        have e2 : IntKind.wrap .i64 ((32 : Int) * (k : Int)) = ((32 * k : Nat) : Int) := by rw [w64 (by omega) (by omega)]; omega
        have e3 : IntKind.wrap .i64 (((32 * k : Nat) : Int) + 32) = ((32 * k + 32 : Nat) : Int) := by rw [w64 (by omega) (by omega)]; omega
        have e4 : subL (s.drop 36) ((32 * k : Nat) : Int) ((32 * k + 32 : Nat) : Int) = (s.drop (36 + 32 * k)).take 32 := by
          rw [sub_mid, List.drop_drop]
          congr 1
          omega
        simp only [F67.b1]
        rw [if_pos (by omega), if_pos (by omega), top_is x h, Option.bind_some, e1, e2, e3, if_pos (by simp; omega), e4, if_pos (by simp; omega)]
        rw [hd, F81_is _ I q k (by omega) d (tp x) (by omega), Option.bind_some]
        unfold F67.j2
        rw [all32, if_pos (by rw [hl, (wk I q k _ _ _).h]; omega), w64 (by omega) (by omega)]
        rw [show d = (gd (ds x I q ((s.drop 4).take 32) m) (k : Int)).toNat from by rw [hd]; simp]
        rfl
    · rw [if_neg e, if_neg e]
  · rw [if_neg (by omega), if_neg c]
theorem cand1_is (x : Nat) (h : 1 ≤ x ∧ x ≤ 4) (I : D16) (q : Int) (hq : IntKind.wrap .u64 q = q) (s m : List Int) (hm : m.length ≤ 1000) :
    F67_1.m x I q s m = some (if s.length = 36 + 32 * pn x then (if strOfNums (s.take 4) = strOfNums (b4 x) then (cnd x I q s m, 0) else (K3, 21)) else (K3, 3)) := cand_is x h I q hq s m hm
theorem sgn_cnd (x : Nat) (h : 1 ≤ x ∧ x ≤ 4) (I : D16) (q : Int) (S : D32) (m : List Int) : cnd x I q (sgn x I q S m) m = pubR x I q S ∧ (sgn x I q S m).take 4 = b4 x := by
  have hb := b4_len x
  have hC := (sgC I q S).h
  have e4 : (sgn x I q S m).take 4 = b4 x := by
    unfold sgn
    rw [List.append_assoc, List.take_append_of_le_length (by omega), List.take_of_length_le (by omega)]
  have eC : ((sgn x I q S m).drop 4).take 32 = (sgC I q S).l := by
    unfold sgn
    rw [List.append_assoc, List.drop_append, List.drop_eq_nil_of_le (by omega), hb, Nat.sub_self, List.drop_zero, List.nil_append, List.take_append_of_le_length (by omega), List.take_of_length_le (by omega)]
  refine ⟨?_, e4⟩
  unfold cnd pubR
  rw [eC]
  congr 1
  refine cat_same _ _ _ (fun i hi => ?_)
  have hdl := ds_len x h I q (sgC I q S).l m
  obtain ⟨d, hd, hdt⟩ := ds_le x I q (sgC I q S).l m i (by omega)
  have hpc : pc (sgn x I q S m) i = wk I q i (sec I q S i) 0 d := by
    apply Arr.ext'
    unfold pc
    have hc := cat_at (fun i => wk I q i (sec I q S i) 0 (gd (ds x I q (sgC I q S).l m) (i : Int)).toNat) i (pn x) hi
    have hdr : ((sgn x I q S m).drop (36 + 32 * i)).take 32 = (wk I q i (sec I q S i) 0 d).l := by
      unfold sgn
      rw [List.drop_append, List.drop_eq_nil_of_le (by rw [List.length_append]; omega), List.nil_append, List.length_append, hb, hC, show 36 + 32 * i - (4 + 32) = 32 * i from by omega, hc, hd]
      simp
    rw [hdr, Arr.ofL_take _ _ (by rw [(wk I q i _ 0 d).h]; omega), List.take_of_length_le (by rw [(wk I q i _ 0 d).h]; omega)]
  rw [hd, Int.toNat_natCast, hpc]
  have := wk_wk I q i (sec I q S i) 0 d (tp x - d)
  rw [Nat.zero_add] at this
  rw [this, show d + (tp x - d) = tp x from by omega]
theorem ots_awake : F64.m = some true := by
  have h : 1 ≤ 1 ∧ (1 : Nat) ≤ 4 := by omega
  have hq : IntKind.wrap .u64 7 = 7 := by decide
  obtain ⟨e1, e2⟩ := sgn_cnd 1 h K5 7 K6 [97]
  have hc : F67.m 1 K5 7 (sgn 1 K5 7 K6 [97]) [97] = some (pubR 1 K5 7 K6, 0) := (cand_is 1 h K5 7 hq _ [97] (by simp)).trans (by rw [if_pos (sgn_len 1 K5 7 K6 [97]), e2, if_pos rfl, e1])
  unfold F64.m
  rw [show F62_1.m 1 K5 7 K6 = some (pubR 1 K5 7 K6, 0) from public1_is 1 h K5 7 hq K6, Option.bind_some, show F65.m 1 K5 7 K6 [97] = some (sgn 1 K5 7 K6 [97], 0) from sign_is 1 h K5 7 hq K6 [97] (by simp), Option.bind_some,
    hc, Option.bind_some, show F61.m 3 = some 2180 from by decide, Option.bind_some, if_pos rfl, if_pos rfl, if_pos rfl, if_pos rfl]
  simp
end Go.Proofs.Ytmedbpiapeiobaa
