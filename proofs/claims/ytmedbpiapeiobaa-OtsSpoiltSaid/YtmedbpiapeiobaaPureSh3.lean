/- What Sh3 needs. -/
import Derived.Test.YtmedbpiapeiobaaPureSh2
set_option linter.unusedVariables false
set_option linter.unusedSimpArgs false
namespace Go.Proofs.Ytmedbpiapeiobaa
open Go Go.Eng Go.Proofs
/-! ### The plain sum -/
theorem ch_u (x y z : W32) : (x &&& y) ||| (~~~ x &&& z) = (x &&& y) ^^^ (~~~ x &&& z) := by
  apply BitVec.eq_of_getLsbD_eq
  intro i hi
  simp only [BitVec.getLsbD_or, BitVec.getLsbD_xor, BitVec.getLsbD_and, BitVec.getLsbD_not]
  cases x.getLsbD i <;> cases y.getLsbD i <;> cases z.getLsbD i <;> simp
theorem maj_u (x y z : W32) : ((x &&& y) ||| (x &&& z)) ||| (y &&& z) = ((x &&& y) ^^^ (x &&& z)) ^^^ (y &&& z) := by
  apply BitVec.eq_of_getLsbD_eq
  intro i hi
  simp only [BitVec.getLsbD_or, BitVec.getLsbD_xor, BitVec.getLsbD_and]
  cases x.getLsbD i <;> cases y.getLsbD i <;> cases z.getLsbD i <;> simp
theorem K2_is : K2 = Arr.rep 64 0 := Arr.ext' (by decide)
theorem K3_is : K3 = Arr.rep 32 0 := Arr.ext' (by decide)
theorem words_loop (b : List Int) (hb : b.length = 64) : loop (F74.b3 b) (K2, 0) = some (wA b 64) := by
  refine loop_done (fun k => (wA b k, (k : Int))) 64 _ (fun k hk => ?_) ?_ (by rw [wA_zero, K2_is]; rfl)
  · have c4 : ∀ j : Nat, k < 16 → j ≤ 3 → IntKind.wrap .i64 ((4 : Int) * (k : Int)) = ((4 * k : Nat) : Int) ∧ IntKind.wrap .i64 (((4 * k : Nat) : Int) + (j : Int)) = ((4 * k + j : Nat) : Int) := fun j hk hj => by
      constructor
      · rw [w64 (by omega) (by omega)]; omega
      · rw [w64 (by omega) (by omega)]; omega
    simp only [F74.b3]
    rw [if_pos (by omega)]
    by_cases lo : k < 16
    · obtain ⟨a0, _⟩ := c4 0 lo (by omega)
      have a1 := (c4 1 lo (by omega)).2
      have a2 := (c4 2 lo (by omega)).2
      have a3 := (c4 3 lo (by omega)).2
      simp only [Int.cast_ofNat_Int] at a1 a2 a3
      rw [if_pos (by omega), a0, if_pos (by omega)]
      rw [a1, if_pos (by omega), a2, if_pos (by omega), a3, if_pos (by omega), if_pos (by omega), low_step, ← wv_low b k lo, wA_set b k (by omega)]
      unfold F74.j4
      rw [w64 (by omega) (by omega)]
      rfl
    · have e : ∀ j : Nat, j ≤ 16 → IntKind.wrap .i64 ((k : Int) - (j : Int)) = ((k - j : Nat) : Int) := fun j hj => by
        rw [w64 (by omega) (by omega)]; omega
      have e15 := e 15 (by omega)
      have e2 := e 2 (by omega)
      have e16 := e 16 (by omega)
      have e7 := e 7 (by omega)
      simp only [Int.cast_ofNat_Int] at e15 e2 e16 e7
      rw [if_neg (by omega)]
      simp only [e15, e2, e16, e7]
      have t : ∀ n : Nat, n ≤ 32 → ∀ x : W32, F92.m (u x) (n : Int) = some (u (rot x n)) := fun n hn x => F92_is x n hn
      have t7 := t 7 (by omega)
      have t18 := t 18 (by omega)
      have t17 := t 17 (by omega)
      have t19 := t 19 (by omega)
      simp only [Int.cast_ofNat_Int] at t7 t18 t17 t19
      rw [if_pos (by omega), if_pos (by omega), if_pos (by omega), if_pos (by omega), wA_at _ _ _ (by omega) (by omega), wA_at _ _ _ (by omega) (by omega), wA_at _ _ _ (by omega) (by omega), wA_at _ _ _ (by omega) (by omega)]
      simp only [t7, t18, t17, t19, Option.bind_some]
      rw [if_pos (by omega), show (3 : Int) = ((3 : Nat) : Int) from rfl, show (10 : Int) = ((10 : Nat) : Int) from rfl, shr_u _ _ (by omega), shr_u _ _ (by omega)]
      simp only [xor_u, add_u]
      have hw := wv_high b k (by omega)
      have hs := wA_set b k (by omega)
      rw [hw] at hs
      unfold sg0 sg1 at hs
      unfold F74.j4
      rw [w64 (n := (k : Int) + 1) (by omega) (by omega)]
      first | (rw [hs]; rfl) | (simp only [BitVec.add_assoc, BitVec.add_comm, BitVec.add_left_comm] at hs ⊢; rw [hs]; rfl)
  · simp only [F74.b3]
    rw [if_neg (by omega)]
theorem gd8 (s : S8) : gd s.arr.l 0 = u s.a ∧ gd s.arr.l 1 = u s.b ∧ gd s.arr.l 2 = u s.c ∧ gd s.arr.l 3 = u s.d ∧ gd s.arr.l 4 = u s.e ∧ gd s.arr.l 5 = u s.f ∧ gd s.arr.l 6 = u s.g ∧ gd s.arr.l 7 = u s.h := ⟨rfl, rfl, rfl, rfl, rfl, rfl, rfl, rfl⟩
theorem F74_is (s : S8) (b : List Int) (hb : b.length = 64) : F74.m s.arr b K1 = some (cmpr s b).arr := by
  unfold F74.m
  rw [words_loop b hb]
  simp only [Option.bind_some, F74.j1]
  rw [loop_done (fun k => ((rnds b s k).arr, (k : Int))) 64 ((rnds b s 64).arr) (fun k hk => ?_) ?_ (by rfl)]
  · simp only [Option.bind_some, F74.j2]
    have harr : ∀ s : S8, s.arr = mkA 8 (fun i => gd s.arr.l (i : Int)) := fun s => Arr.ext' rfl
    have hsum : ∀ k : Nat, k < 8 → IntKind.wrap .u32 (gd (rnds b s 64).arr.l (k : Int) + gd s.arr.l (k : Int)) = gd (cmpr s b).arr.l (k : Int) := fun k hk => by
      rw [Int.add_comm]
      match k, hk with
      | 0, _ => exact add_u _ _
      | 1, _ => exact add_u _ _
      | 2, _ => exact add_u _ _
      | 3, _ => exact add_u _ _
      | 4, _ => exact add_u _ _
      | 5, _ => exact add_u _ _
      | 6, _ => exact add_u _ _
      | 7, _ => exact add_u _ _
      | k + 8, h => exact absurd h (by omega)
    let v : Nat → Arr Int 8 := fun k => mkA 8 (fun i => if i < k then gd (cmpr s b).arr.l (i : Int) else gd (rnds b s 64).arr.l (i : Int))
    have v8 : v 8 = (cmpr s b).arr := by
      rw [harr (cmpr s b)]
      exact mkA_same 8 _ _ (fun i hi => by rw [if_pos hi])
    have v0 : (rnds b s 64).arr = v 0 := by
      rw [harr (rnds b s 64)]
      exact (mkA_same 8 _ _ (fun i hi => by rw [if_neg (by omega)])).symm
    rw [v0]
    have hl : loop (F74.b1 s.arr) (v 0, 0) = some ((cmpr s b).arr) := by
      refine loop_done (fun k => (v k, (k : Int))) 8 ((cmpr s b).arr) (fun k hk => ?_) ?_ rfl
      · have e : gd (v k).l (k : Int) = gd (rnds b s 64).arr.l (k : Int) := by
          show gd (mkA 8 _).l (k : Int) = _
          rw [mkA_gd 8 _ k hk, if_neg (by omega)]
        simp only [F74.b1]
        rw [if_pos (by omega), if_pos (by omega), w64 (n := (k : Int) + 1) (by omega) (by omega), e, hsum k hk]
        have e2 : Arr.set (v k) (k : Int) (gd (cmpr s b).arr.l (k : Int)) = v (k + 1) := by
          refine mkA_set 8 _ _ k _ hk (fun i hi => ?_)
          by_cases a : i = k
          · subst a; rw [if_pos (by omega), if_pos rfl]
          · rw [if_neg a]
            by_cases d : i < k
            · rw [if_pos (by omega), if_pos d]
            · rw [if_neg (by omega), if_neg d]
        rw [e2]
        rfl
      · simp only [F74.b1]
        rw [if_neg (by omega), v8]
    rw [hl]
    rfl
  · simp only [F74.b2]
    rw [if_neg (by omega)]
  · obtain ⟨g0, g1, g2, g3, g4, g5, g6, g7⟩ := gd8 (rnds b s k)
    have t : ∀ n : Nat, n ≤ 32 → ∀ x : W32, F92.m (u x) (n : Int) = some (u (rot x n)) := fun n hn x => F92_is x n hn
    have t6 := t 6 (by omega)
    have t11 := t 11 (by omega)
    have t25 := t 25 (by omega)
    have t2 := t 2 (by omega)
    have t13 := t 13 (by omega)
    have t22 := t 22 (by omega)
    simp only [Int.cast_ofNat_Int] at t6 t11 t25 t2 t13 t22
    simp only [F74.b2]
    rw [if_pos (by omega), if_pos (by omega)]
    simp only [g0, g1, g2, g3, g4, g5, g6, g7, t6, t11, t25, t2, t13, t22, Option.bind_some]
    refine congrArg some (congrArg Sum.inl (Prod.ext (Arr.ext' ?_) ?_))
    · dsimp only
      rw [kc_is k hk, wA_at _ _ _ hk hk, com_u]
      simp only [xor_u, and_u, or_u, add_u, ch_u, maj_u]
      rfl
    · dsimp only
      rw [w64 (by omega) (by omega)]
      rfl
theorem pad_loop (m : List Int) (hl : m.length ≤ 100000) : F73.m m = some (pad m) := by
  have hz : zn m.length < 64 := by unfold zn; omega
  unfold F73.m
  simp only [List.nil_append]
  rw [if_pos (by simp; omega), if_pos (by simp; omega)]
  rw [loop_done (fun k => m ++ 128 :: List.replicate k 0) (zn m.length) (m ++ 128 :: List.replicate (zn m.length) 0) (fun k hk => ?_) ?_ (by rfl)]
  · simp only [Option.bind_some, F73.j1]
    rw [loop_done (fun k => ((m ++ 128 :: List.replicate (zn m.length) 0) ++ (be8 m.length).take k, (k : Int))) 8 (pad m) (fun k hk => ?_) ?_ (by simp)]
    · rfl
    · simp only [F73.b1]
      rw [if_neg (by omega), List.take_of_length_le (by simp [be8])]
      rfl
    · simp only [F73.b1]
      rw [if_pos (by omega), w64 (n := (8 : Int) * (k : Int)) (by omega) (by omega), w64 (n := (56 : Int) - _) (by omega) (by omega), if_pos (by omega), if_pos (by simp; omega), w64 (n := (k : Int) + 1) (by omega) (by omega), wu64 (n := (m.length : Int)) (by omega) (by omega), show (56 : Int) - 8 * (k : Int) = ((56 - 8 * k : Nat) : Int) from by omega, Int.mul_comm]
      congr 3
      have hb8 : (be8 m.length).length = 8 := by simp [be8]
      rw [List.append_assoc]
      congr 1
      rw [List.take_succ_eq_append_getElem (by omega)]
      congr 1
      simp [be8]
  · simp only [F73.b2]
    rw [if_pos]
    simp only [List.length_append, List.length_cons, List.length_replicate]
    rw [show (64 : Int) = ((64 : Nat) : Int) from rfl, tmod_nat]
    unfold zn
    omega
  · simp only [F73.b2]
    have : ¬ Int.tmod ((m ++ 128 :: List.replicate k 0).length : Int) 64 = 56 := by
      rw [show (64 : Int) = ((64 : Nat) : Int) from rfl, tmod_nat]
      simp only [List.length_append, List.length_cons, List.length_replicate]
      unfold zn at hk
      omega
    rw [if_neg this, if_pos (by simp; omega), List.append_assoc, List.cons_append, ← List.replicate_succ']
theorem pad_len (m : List Int) : (pad m).length % 64 = 0 := by
  simp [pad, be8, zn]; omega
theorem F33_is (m : List Int) (hl : m.length ≤ 100000) : F33.m m = some (dig m) := by
  have hp := pad_len m
  have hz : zn m.length < 64 := by unfold zn; omega
  have hpl : (pad m).length = m.length + 1 + zn m.length + 8 := by simp [pad, be8]; omega
  unfold F33.m F72.m
  rw [Option.bind_some, pad_loop m hl, Option.bind_some, K0_is]
  rw [loop_done (fun k => ((hb s0 (pad m) k).arr, ((64 * k : Nat) : Int))) ((pad m).length / 64) ((hb s0 (pad m) ((pad m).length / 64)).arr) (fun k hk => ?_) ?_ (by rfl)]
  · simp only [Option.bind_some, F33.j1]
    show _ = some (outA (hb s0 (pad m) ((pad m).length / 64)))
    generalize hb s0 (pad m) ((pad m).length / 64) = s
    let g : Nat → Int := fun i => IntKind.wrap .u8 (shrI .u32 (gd s.arr.l ((i / 4 : Nat) : Int)) ((24 - 8 * (i % 4) : Nat) : Int))
    rw [loop_done (fun k => (mkA 32 (fun i => if i < k then g i else 0), (k : Int))) 32 (outA s) (fun k hk => ?_) ?_ ?_]
    · rfl
    · simp only [F33.b1]
      rw [if_neg (by omega), part_all]
      rfl
    · rw [K3_is, part_zero g 0]; rfl
    · obtain ⟨e1, e2⟩ := out_step s k hk g
      simp only [F33.b1]
      rw [if_pos (by omega), e1, e2, if_pos (by omega), if_pos (by omega), if_pos (by omega), w64 (n := (k : Int) + 1) (by omega) (by omega)]
      rw [show IntKind.wrap .u8 (shrI .u32 (gd s.arr.l ((k / 4 : Nat) : Int)) ((24 - 8 * (k % 4) : Nat) : Int)) = g k from rfl, part_step g 0 k hk]
      rfl
  · simp only [F33.b2]
    rw [if_neg (by omega)]
  · simp only [F33.b2]
    have e : subL (pad m) ((64 * k : Nat) : Int) (((64 * k + 64 : Nat)) : Int) = cut (pad m) k := by
      unfold subL cut
      rw [Int.toNat_natCast, Int.toNat_natCast, show 64 * k + 64 - 64 * k = 64 from by omega]
    rw [if_pos (by omega), w64 (by omega) (by omega), if_pos (by omega), show ((64 * k : Nat) : Int) + 64 = ((64 * k + 64 : Nat) : Int) from by omega, e, F74_is _ _ (cut_len _ _ (by omega)), Option.bind_some]
    rfl
end Go.Proofs.Ytmedbpiapeiobaa
