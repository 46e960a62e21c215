/- What OtK needs. -/
import Derived.Test.YtmedbpiapeiobaaPureSh4
import Derived.Test.YtmedbpiapeiobaaPureOcN
import Derived.Test.YtmedbpiapeiobaaOts
set_option linter.unusedVariables false
set_option linter.unusedSimpArgs false
namespace Go.Proofs.Ytmedbpiapeiobaa
open Go Go.Eng Go.Proofs
/-! ### Pieces -/
theorem cp_in {n : Nat} (r : Arr Int n) (l h : Nat) (ys : List Int) (h1 : l + ys.length ≤ h) (h2 : h ≤ n) : (Arr.cp r (l : Int) (h : Int) ys).l = r.l.take l ++ (ys ++ r.l.drop (l + ys.length)) := by
  rw [Arr.cp_l _ _ _ _ (by omega)]
  unfold cpL
  simp only [Int.toNat_natCast]
  rw [List.take_of_length_le (l := ys) (by omega), Nat.min_eq_left (by omega)]
def b4 (x : Int) : List Int := (octs x).drop 4
def b2 (x : Int) : List Int := (octs x).drop 6
theorem b4_len (x : Int) : (b4 x).length = 4 := by simp [b4, octs_len]
theorem b2_len (x : Int) : (b2 x).length = 2 := by simp [b2, octs_len]
theorem put4 (x : Int) : F25.m [] 4 x = some (b4 x) := by
  rw [F25_is _ _ _ (by simp)]
  rfl
theorem put2 (b : List Int) (hb : b.length ≤ 1000) (x : Int) : F25.m b 2 x = some (b ++ b2 x) := by
  rw [F25_is _ _ _ hb]
  rfl
theorem rut4 (b : List Int) (hb : b.length ≤ 1000) (x : Int) : F26.m b 4 x = some (b ++ b4 x) := by
  rw [F26_is _ _ _ hb]
  rfl
theorem rut2 (b : List Int) (hb : b.length ≤ 1000) (x : Int) : F26.m b 2 x = some (b ++ b2 x) := by
  rw [F26_is _ _ _ hb]
  rfl
theorem b2_is (x : Int) : b2 x = [oct x 6, oct x 7] := rfl
theorem two16 (n : Nat) (h : n < 65536) : [IntKind.wrap .u8 (shrI .u16 (n : Int) 8), IntKind.wrap .u8 (n : Int)] = b2 (n : Int) := by
  rw [b2_is]
  unfold oct
  rw [show (8 : Int) = ((8 : Nat) : Int) from rfl, shr_nat .u16 n 8 (by decide), show (56 - ((8 : Nat) : Int) * ((6 : Nat) : Int)) = ((8 : Nat) : Int) from by decide, shr_nat .u64 n 8 (by decide), show (56 - ((8 : Nat) : Int) * ((7 : Nat) : Int)) = ((0 : Nat) : Int) from by decide, shr_nat .u64 n 0 (by decide), Nat.shiftRight_zero]
theorem two64 (n : Nat) (h : n < 65536) : [IntKind.wrap .u8 (shrI .i64 (n : Int) 8), IntKind.wrap .u8 (n : Int)] = b2 (n : Int) := by
  rw [b2_is]
  unfold oct
  rw [show (8 : Int) = ((8 : Nat) : Int) from rfl, shr_nat .i64 n 8 (by decide), show (56 - ((8 : Nat) : Int) * ((6 : Nat) : Int)) = ((8 : Nat) : Int) from by decide, shr_nat .u64 n 8 (by decide), show (56 - ((8 : Nat) : Int) * ((7 : Nat) : Int)) = ((0 : Nat) : Int) from by decide, shr_nat .u64 n 0 (by decide), Nat.shiftRight_zero]
abbrev D32 := Arr Int 32
abbrev D16 := Arr Int 16
theorem all32 (a : D32) : subL a.l 0 ((32 : Nat) : Int) = a.l := by rw [sub_take, List.take_of_length_le (by rw [a.h]; omega)]
theorem all16 (a : D16) : subL a.l 0 ((16 : Nat) : Int) = a.l := by rw [sub_take, List.take_of_length_le (by rw [a.h]; omega)]
theorem all20 (a : Arr Int 20) : subL a.l 0 ((20 : Nat) : Int) = a.l := by rw [sub_take, List.take_of_length_le (by rw [a.h]; omega)]
/-- The sum of what stands under a key's name. -/
def hx (I : D16) (q : Int) (s : List Int) : D32 := dig (I.l ++ b4 q ++ s)
def ky (I : D16) (q : Int) : Arr Int 20 := ⟨I.l ++ b4 q, by simp [I.h, b4_len]⟩
theorem named_is (x : Int) (I : D16) (q : Int) (hq : IntKind.wrap .u64 q = q) : F80.m x I q = some (ky I q) := by
  unfold F80.m
  rw [hq, put4, Option.bind_some, all16]
  congr 1
  apply Arr.ext'
  have e1 : (Arr.cp (Arr.rep 20 (0 : Int)) 0 ((20 : Nat) : Int) I.l).l = I.l ++ List.replicate 4 0 := by
    rw [show (0 : Int) = ((0 : Nat) : Int) from rfl, cp_in _ _ _ _ (by rw [I.h]; omega) (by omega), I.h]
    rfl
  rw [show (16 : Int) = ((16 : Nat) : Int) from rfl, cp_in _ _ _ _ (by rw [b4_len]; omega) (by omega), e1, b4_len, List.take_append_of_le_length (by rw [I.h]; omega), List.take_of_length_le (by rw [I.h]; omega), List.drop_eq_nil_of_le (by simp [I.h]), List.append_nil]
  rfl
theorem named1_is (x : Int) (I : D16) (q : Int) (hq : IntKind.wrap .u64 q = q) : F80_1.m x I q = some (ky I q) := named_is x I q hq
theorem two_is (x : Int) (I : D16) (q : Int) (n : Nat) (hn : n < 65536) (parts : List (List Int)) (hp : parts.length ≤ 10) (hl : ∀ y ∈ parts, y.length ≤ 9000) : F84.m x (ky I q) n parts = some (hx I q (b2 n ++ parts.flatten)) := by
  unfold F84.m F34.m
  rw [Option.bind_some, all20, two16 n hn]
  have hkl : (ky I q).l.length = 20 := (ky I q).h
  have hfl : ∀ k, (parts.take k).flatten.length ≤ 9000 * parts.length := fun k => by
    have := flat_le (parts.take k) 9000 (fun y hy => hl y (List.mem_of_mem_take hy))
    have h2 : (parts.take k).length ≤ parts.length := by simp; omega
    have := Nat.mul_le_mul_left 9000 h2
    omega
  obtain ⟨a1, r1, m1, l1, hw1, hI1⟩ := write_is _ _ _ _ _ (ky I q).l Inv.nil (by simp; omega)
  obtain ⟨a2, r2, m2, l2, hw2, hI2⟩ := write_is _ _ _ _ _ (b2 (n : Int)) hI1 (by simp [b2_len]; omega)
  rw [hw1, Option.bind_some, hw2, Option.bind_some]
  obtain ⟨y, hy, hq⟩ := loop_ends (b := F84.b1 parts) (fun s => ∃ k : Nat, k ≤ parts.length ∧ s.2.2.2.2 = (k : Int) ∧ Inv s.1 s.2.1 s.2.2.1 s.2.2.2.1 ((ky I q).l ++ b2 (n : Int) ++ (parts.take k).flatten)) (fun s => parts.length - s.2.2.2.2.toNat)
    (fun y => Inv y.1 y.2.1 y.2.2.1 y.2.2.2 ((ky I q).l ++ b2 (n : Int) ++ parts.flatten)) (fun s hs => by
      obtain ⟨a, b, c, d, i⟩ := s
      obtain ⟨k, hk, h1, hI⟩ := hs
      dsimp only at h1 hI
      subst h1
      simp only [F84.b1]
      by_cases c : k < parts.length
      · have h3 := hfl k
        have h4 := hl _ (List.getElem_mem c)
        obtain ⟨a3, r3, m3, l3, hw3, hI3⟩ := write_is _ _ _ _ _ parts[k] hI (by simp only [List.length_append, b2_len]; omega)
        rw [if_pos (by omega), if_pos (by omega), gd_at _ _ c, hw3, Option.bind_some, w64 (by omega) (by omega)]
        refine ⟨_, rfl, fun x' h => ?_, fun y h => by simp at h⟩
        simp only [Sum.inl.injEq] at h
        subst h
        rw [List.append_assoc, ← flat_take parts k c] at hI3
        exact ⟨⟨k + 1, by omega, rfl, hI3⟩, by simp only; omega⟩
      · have : k = parts.length := by omega
        subst this
        rw [List.take_length] at hI
        rw [if_neg (by omega)]
        refine ⟨_, rfl, fun x' h => by simp at h, fun y h => ?_⟩
        simp only [Sum.inr.injEq] at h
        subst h
        exact hI) (a2, r2, m2, l2, 0) ⟨0, by omega, rfl, by simpa using hI2⟩
  rw [hy]
  obtain ⟨ya, yb, yc, yd⟩ := y
  have h3 := hfl parts.length
  rw [List.take_length] at h3
  simp only [Option.bind_some, F84.j1]
  rw [sum_is _ _ _ _ _ hq (by simp only [List.length_append, b2_len]; omega), Option.bind_some]
  unfold hx
  rw [List.append_assoc]
  rfl
theorem around_is (I : D16) (q : Int) (hq : IntKind.wrap .u64 q = q) (s : List Int) (hs : s.length ≤ 20000) : F96.m I q s = some (hx I q s) := by
  unfold F96.m
  rw [all16, List.nil_append, if_pos (by simp [I.h]), hq, rut4 _ (by rw [I.h]; omega), Option.bind_some, if_pos (by simp [I.h, b4_len]; omega), F33_is _ (by simp [I.h, b4_len]; omega)]
  rfl

/-! ### Secrets and walks -/
def sec (I : D16) (q : Int) (S : D32) (i : Nat) : D32 := hx I q (b2 i ++ 255 :: S.l)
theorem u16_nat (n : Nat) (h : n < 65536) : IntKind.wrap .u16 (n : Int) = n := w16 (by omega) (by omega)
theorem u64_nat (n : Nat) (h : n < 65536) : IntKind.wrap .u64 (n : Int) = n := wu64 (by omega) (by omega)
theorem F83_is (x : Int) (I : D16) (q : Int) (i : Nat) (hi : i < 65536) (S : D32) : F83.m x (ky I q) i S = some (sec I q S i) := by
  unfold F83.m
  rw [u16_nat i hi, all32, two_is x I q i hi _ (by simp) (by simp [S.h])]
  unfold sec
  simp
theorem F83_1_is (x : Int) (I : D16) (q : Int) (i : Nat) (hi : i < 65536) (S : D32) : F83_1.m x (ky I q) i S = some (sec I q S i) := F83_is x I q i hi S
theorem F87_is (I : D16) (q : Int) (hq : IntKind.wrap .u64 q = q) (i : Nat) (hi : i < 65536) (S : D32) : F87.m I q i S = some (sec I q S i) := by
  unfold F87.m
  rw [u64_nat i hi, rut2 _ (by simp), Option.bind_some, List.nil_append, if_pos (by simp [b2_len]), all32, if_pos (by simp [b2_len, S.h]), around_is I q hq _ (by simp [b2_len, S.h])]
  unfold sec
  simp
def wk (I : D16) (q : Int) (i : Nat) (v : D32) (a : Nat) : Nat → D32
  | 0 => v
  | k + 1 => hx I q (b2 i ++ IntKind.wrap .u8 ((a + k : Nat) : Int) :: (wk I q i v a k).l)
theorem wk_wk (I : D16) (q : Int) (i : Nat) (v : D32) (a k : Nat) : ∀ m, wk I q i (wk I q i v a k) (a + k) m = wk I q i v a (k + m)
  | 0 => rfl
  | m + 1 => by
    rw [wk, wk_wk I q i v a k m, show a + k + m = a + (k + m) from by omega]
    rfl
def bufs (b0 : Arr Int 55) (v : Nat → D32) (a : Nat) : Nat → Arr Int 55
  | 0 => b0
  | k + 1 => Arr.cp (Arr.set (bufs b0 v a k) 22 (IntKind.wrap .u8 ((a + k : Nat) : Int))) 23 ((55 : Nat) : Int) (v k).l
theorem bufs_l (b0 : Arr Int 55) (v : Nat → D32) (a k : Nat) : (bufs b0 v a (k + 1)).l = (bufs b0 v a k).l.take 22 ++ IntKind.wrap .u8 ((a + k : Nat) : Int) :: (v k).l := by
  have hl : (bufs b0 v a k).l.length = 55 := (bufs b0 v a k).h
  simp only [bufs]
  rw [show (23 : Int) = ((23 : Nat) : Int) from rfl, cp_in _ _ _ _ (by rw [(v k).h]; omega) (by omega), (v k).h]
  show (List.set (bufs b0 v a k).l 22 (IntKind.wrap .u8 ((a + k : Nat) : Int))).take 23 ++ ((v k).l ++ (List.set (bufs b0 v a k).l 22 _).drop (23 + 32)) = _
  rw [List.drop_eq_nil_of_le (by rw [List.length_set, hl]; omega), List.append_nil]
  have : (List.set (bufs b0 v a k).l 22 (IntKind.wrap .u8 ((a + k : Nat) : Int))).take 23 = (bufs b0 v a k).l.take 22 ++ [IntKind.wrap .u8 ((a + k : Nat) : Int)] := by
    apply List.ext_getElem
    · simp [hl]
    · intro j h1 h2
      simp [hl] at h1 h2
      by_cases e : j = 22
      · subst e
        rw [List.getElem_append_right (by simp [hl])]
        simp
      · rw [List.getElem_append_left (by simp [hl]; omega)]
        simp
        rw [List.getElem_set_ne (by omega)]
  rw [this, List.append_assoc]
  rfl
theorem bufs_22 (b0 : Arr Int 55) (v : Nat → D32) (a : Nat) : ∀ k, (bufs b0 v a k).l.take 22 = b0.l.take 22
  | 0 => rfl
  | k + 1 => by
    have hl : (bufs b0 v a k).l.length = 55 := (bufs b0 v a k).h
    rw [bufs_l, List.take_append_of_le_length (by simp [hl]), List.take_take, Nat.min_self, bufs_22 b0 v a k]
theorem F81_is (x : Int) (I : D16) (q : Int) (i : Nat) (hi : i < 65536) (a t : Nat) (ht : t ≤ 1000) (v : D32) : F81.m x (ky I q) i a t v = some (wk I q i v a (t - a)) := by
  unfold F81.m
  have hkl : (ky I q).l.length = 20 := (ky I q).h
  generalize hb0 : Arr.set (Arr.set (Arr.cp (Arr.rep 55 (0 : Int)) (0 : Int) ((55 : Nat) : Int) (subL (ky I q).l (0 : Int) ((20 : Nat) : Int))) (20 : Int) (IntKind.wrap .u8 (shrI .i64 (i : Int) (8 : Int)))) (21 : Int) (IntKind.wrap .u8 (i : Int)) = b0
  have h22 : b0.l.take 22 = (ky I q).l ++ b2 (i : Int) := by
    rw [← hb0, all20, ← two64 i hi]
    show (List.set (List.set (Arr.cp (Arr.rep 55 (0 : Int)) ((0 : Nat) : Int) ((55 : Nat) : Int) (ky I q).l).l 20 _) 21 _).take 22 = _
    rw [cp_in _ _ _ _ (by omega) (by omega), hkl]
    generalize (ky I q).l = K at hkl
    match K, hkl with
    | [k0, k1, k2, k3, k4, k5, k6, k7, k8, k9, k10, k11, k12, k13, k14, k15, k16, k17, k18, k19], _ => rfl
  have hv : ∀ k, 0 + (wk I q i v a k).l.length = 32 := fun k => by rw [(wk I q i v a k).h]
  by_cases c : a < t
  · rw [loop_done (fun k => (wk I q i v a k, bufs b0 (wk I q i v a) a k, ((a + k : Nat) : Int))) (t - a) (wk I q i v a (t - a)) (fun k hk => ?_) ?_ (by rfl)]
    · rfl
    · simp only [F81.b1]
      rw [if_neg (by omega)]
    · simp only [F81.b1]
      have hb := bufs_l b0 (wk I q i v a) a k
      have e : subL (bufs b0 (wk I q i v a) a (k + 1)).l 0 ((55 : Nat) : Int) = (bufs b0 (wk I q i v a) a (k + 1)).l := by rw [sub_take, List.take_of_length_le (by rw [(bufs b0 (wk I q i v a) a (k + 1)).h]; omega)]
      rw [if_pos (by omega), all32]
      rw [show Arr.cp (Arr.set (bufs b0 (wk I q i v a) a k) 22 (IntKind.wrap .u8 ((a + k : Nat) : Int))) 23 ((55 : Nat) : Int) (wk I q i v a k).l = bufs b0 (wk I q i v a) a (k + 1) from rfl, e, F32_is _ (by rw [(bufs b0 (wk I q i v a) a (k + 1)).h]; omega), Option.bind_some, w64 (by omega) (by omega), hb, bufs_22, h22]
      simp only [wk, hx]
      rw [List.append_assoc]
      rfl
  · have : t - a = 0 := by omega
    rw [this, loop_done (fun k => (v, b0, (a : Int))) 0 v (fun k hk => by omega) ?_ rfl]
    · rfl
    · simp only [F81.b1]
      rw [if_neg (by omega)]
theorem F85_is (I : D16) (q : Int) (hq : IntKind.wrap .u64 q = q) (i : Nat) (hi : i < 65536) (a t : Nat) (ht : t ≤ 1000) (v : D32) : F85.m I q i a t v = some (wk I q i v a (t - a)) := by
  unfold F85.m
  rw [loop_done (fun k => (wk I q i v a k, ((a + k : Nat) : Int))) (t - a) (wk I q i v a (t - a)) (fun k hk => ?_) ?_ (by rfl)]
  · rfl
  · simp only [F85.b1]
    rw [if_neg (by omega)]
  · simp only [F85.b1]
    rw [if_pos (by omega), u64_nat i hi, rut2 _ (by simp), Option.bind_some, List.nil_append, if_pos (by simp [b2_len]), all32, if_pos (by simp [b2_len, (wk I q i v a k).h]), around_is I q hq _ (by simp [b2_len, (wk I q i v a k).h]), Option.bind_some, w64 (by omega) (by omega)]
    simp only [wk]
    simp
    rfl

/-! ### Widths -/
def wd1 (x : Nat) : Nat := 2 ^ (x - 1)
def pn (x : Nat) : Nat := if x = 1 then 265 else if x = 2 then 133 else if x = 3 then 67 else 34
def tp (x : Nat) : Nat := 2 ^ wd1 x - 1
theorem pn_le (x : Nat) : pn x ≤ 265 ∧ 1 ≤ pn x := by unfold pn; split <;> (try split) <;> (try split) <;> omega
theorem widths (x : Nat) (h : 1 ≤ x ∧ x ≤ 4) : F58.m x = some (wd1 x : Int) ∧ F59.m x = some (wd1 x : Int) ∧ F60.m x = some (pn x : Int) ∧ F57.m x = some (pn x : Int) ∧ (wd1 x = 1 ∨ wd1 x = 2 ∨ wd1 x = 4 ∨ wd1 x = 8) ∧ tp x ≤ 255 := by
  obtain ⟨h1, h2⟩ := h
  match x, h1, h2 with
  | 1, _, _ => exact ⟨by decide, by decide, by decide, by decide, by decide, by decide⟩
  | 2, _, _ => exact ⟨by decide, by decide, by decide, by decide, by decide, by decide⟩
  | 3, _, _ => exact ⟨by decide, by decide, by decide, by decide, by decide, by decide⟩
  | 4, _, _ => exact ⟨by decide, by decide, by decide, by decide, by decide, by decide⟩
  | n + 5, _, h => omega
theorem top_is (x : Nat) (h : 1 ≤ x ∧ x ≤ 4) (k : Arr Int 20) : F82.m x k = some (tp x : Int) := by
  unfold F82.m
  rw [(widths x h).1]
  obtain ⟨h1, h2⟩ := h
  match x, h1, h2 with
  | 1, _, _ => decide
  | 2, _, _ => decide
  | 3, _, _ => decide
  | 4, _, _ => decide
  | n + 5, _, h => omega
theorem steps_is (x : Nat) (h : 1 ≤ x ∧ x ≤ 4) : F86.m x = some (tp x : Int) := by
  obtain ⟨_, h59, _, _, hw, _⟩ := widths x h
  have h8 : wd1 x ≤ 8 := by omega
  unfold F86.m
  rw [loop_done (fun k => (((2 ^ k : Nat) : Int), (k : Int))) (wd1 x) ((2 ^ wd1 x : Nat) : Int) (fun k hk => ?_) ?_ (by rfl)]
  · have : 2 ^ wd1 x ≤ 2 ^ 8 := Nat.pow_le_pow_right (by omega) h8
    have h1 : 0 < 2 ^ wd1 x := Nat.pow_pos (by omega)
    simp only [Option.bind_some, F86.j1]
    unfold tp
    rw [w64 (by omega) (by omega)]
    congr 1
    omega
  · simp only [F86.b1]
    rw [h59, Option.bind_some, if_neg (by omega)]
  · simp only [F86.b1]
    have h1 : 2 ^ k ≤ 2 ^ 8 := Nat.pow_le_pow_right (by omega) (by omega)
    have h2 : 2 ^ (k + 1) = 2 * 2 ^ k := by rw [Nat.pow_succ]; omega
    generalize 2 ^ k = z at *
    rw [h59, Option.bind_some, if_pos (by omega), w64 (by omega) (by omega), w64 (by omega) (by omega), h2]
    congr 2
end Go.Proofs.Ytmedbpiapeiobaa
