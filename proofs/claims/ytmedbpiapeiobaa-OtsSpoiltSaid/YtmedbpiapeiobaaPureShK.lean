/- What the sha functions compute, for the plain laws: words of 32 bits, a block into a state. -/
import Derived.Test.YtmedbpiapeiobaaSha
import Derived.Test.YtmedbpiapeiobaaEngBits
set_option linter.unusedVariables false
set_option linter.unusedSimpArgs false
namespace Go.Proofs.Ytmedbpiapeiobaa
open Go Go.Eng Go.Proofs

abbrev W32 := BitVec 32
/-- A word as the whole number that it is. -/
def u (x : W32) : Int := (x.toNat : Int)
theorem u_nat (x : W32) : u x = (x.toNat : Int) := rfl
theorem u_lt (x : W32) : 0 ≤ u x ∧ u x ≤ 4294967295 := by
  have := x.isLt
  unfold u; omega
theorem ofInt_u (x : W32) : BitVec.ofInt 32 (u x) = x := by
  unfold u
  rw [BitVec.ofInt_natCast]
  simp
theorem wrap_u (n : Int) : IntKind.wrap .u32 n = u (BitVec.ofInt 32 n) := by
  unfold u
  rw [BitVec.toNat_ofInt]
  simp [IntKind.wrap, IntKind.bits, IntKind.signed]
  omega
theorem wrapN_u (x : W32) : IntKind.wrap .u32 ((x.toNat : Int)) = u x := by
  have h := x.isLt
  rw [w32 (by omega) (by omega)]; rfl
theorem or_u (x y : W32) : orI .u32 (u x) (u y) = u (x ||| y) := by
  unfold orI
  rw [show IntKind.bits .u32 = 32 from rfl, ofInt_u, ofInt_u, wrapN_u]
theorem and_u (x y : W32) : andI .u32 (u x) (u y) = u (x &&& y) := by
  unfold andI
  rw [show IntKind.bits .u32 = 32 from rfl, ofInt_u, ofInt_u, wrapN_u]
theorem xor_u (x y : W32) : xorI .u32 (u x) (u y) = u (x ^^^ y) := by
  unfold xorI
  rw [show IntKind.bits .u32 = 32 from rfl, ofInt_u, ofInt_u, wrapN_u]
theorem com_u (x : W32) : xorI .u32 (if IntKind.signed .u32 then -1 else IntKind.max .u32) (u x) = u (~~~ x) := by
  have e : (if IntKind.signed .u32 then -1 else IntKind.max .u32) = u (BitVec.allOnes 32) := by decide
  rw [e, xor_u]
  congr 1
theorem add_u (x y : W32) : IntKind.wrap .u32 (u x + u y) = u (x + y) := by
  rw [wrap_u]
  congr 1
theorem shl_u (x : W32) (n : Nat) (h : n ≤ 32) : shlI .u32 (u x) (n : Int) = u (x <<< n) := by
  unfold shlI
  rw [Int.toNat_natCast, show IntKind.bits .u32 = 32 from rfl, Nat.min_eq_left h, wrap_u]
  congr 1
  apply BitVec.eq_of_toNat_eq
  rw [BitVec.toNat_ofInt, BitVec.toNat_shiftLeft, Nat.shiftLeft_eq]
  unfold u
  have e : ((x.toNat : Int) * 2 ^ n) = ((x.toNat * 2 ^ n : Nat) : Int) := by simp
  rw [e]
  omega
theorem shr_u (x : W32) (n : Nat) (h : n ≤ 32) : shrI .u32 (u x) (n : Int) = u (x >>> n) := by
  unfold u
  rw [shr_nat _ _ _ (by simpa [IntKind.bits] using h), BitVec.toNat_ushiftRight]

/-! ### Words of a block -/
def rot (x : W32) (n : Nat) : W32 := (x >>> n) ||| (x <<< (32 - n))
theorem F94_is (x : W32) (n : Nat) (m : Int) (h : n ≤ 32) (hm : andI .u64 (IntKind.wrap .u64 m) 31 = ((32 - n : Nat) : Int)) : F94.m (u x) m = some (u (rot x n)) := by
  unfold F94.m
  rw [hm, if_pos (by omega), wu64 (by omega) (by omega), if_pos (by omega), shl_u _ _ (by omega), show (32 : Int) - ((32 - n : Nat) : Int) = ((n : Nat) : Int) from by omega, shr_u _ _ h, or_u]
  congr 2
  unfold rot
  exact BitVec.or_comm _ _
theorem F92_is (x : W32) (n : Nat) (h : n ≤ 32) : F92.m (u x) (n : Int) = some (u (rot x n)) := by
  unfold F92.m
  rw [if_pos (by omega), w64 (by omega) (by omega), if_pos (by omega), shr_u _ _ h, show (32 : Int) - (n : Int) = ((32 - n : Nat) : Int) from by omega, shl_u _ _ (by omega), or_u]
  rfl
def by4 (b : List Int) (i : Nat) : W32 := BitVec.ofInt 32 (gd b (i : Int))
def wd (b : List Int) (i : Nat) : W32 := ((by4 b (4 * i) <<< 24) ||| (by4 b (4 * i + 1) <<< 16)) ||| (by4 b (4 * i + 2) <<< 8) ||| by4 b (4 * i + 3)
def sg0 (x : W32) : W32 := rot x 7 ^^^ rot x 18 ^^^ x >>> 3
def sg1 (x : W32) : W32 := rot x 17 ^^^ rot x 19 ^^^ x >>> 10
/-- The first words of a block, and those that are made of them. -/
def wl (b : List Int) : Nat → List W32
  | 0 => []
  | n + 1 => wl b n ++ [if n < 16 then wd b n else (wl b n).getD (n - 16) 0 + sg0 ((wl b n).getD (n - 15) 0) + (wl b n).getD (n - 7) 0 + sg1 ((wl b n).getD (n - 2) 0)]
theorem wl_len (b : List Int) : ∀ n, (wl b n).length = n
  | 0 => rfl
  | n + 1 => by simp [wl, wl_len b n]
def wv (b : List Int) (i : Nat) : W32 := (wl b (i + 1)).getD i 0
theorem wl_at (b : List Int) : ∀ n i, i < n → (wl b n).getD i 0 = wv b i
  | 0, i, h => by omega
  | n + 1, i, h => by
    by_cases e : i = n
    · subst e; rfl
    · have h1 := wl_at b n i (by omega)
      rw [← h1, wl, List.getD_eq_getElem?_getD, List.getElem?_append_left (by rw [wl_len]; omega), ← List.getD_eq_getElem?_getD]
theorem wv_low (b : List Int) (i : Nat) (h : i < 16) : wv b i = wd b i := by
  unfold wv
  rw [wl, List.getD_eq_getElem?_getD, List.getElem?_append_right (by rw [wl_len]; exact Nat.le_refl _), wl_len, if_pos h]
  simp
theorem wv_high (b : List Int) (i : Nat) (h : 16 ≤ i) : wv b i = wv b (i - 16) + sg0 (wv b (i - 15)) + wv b (i - 7) + sg1 (wv b (i - 2)) := by
  have e : ∀ j, j < i → (wl b i).getD j 0 = wv b j := fun j hj => wl_at b i j hj
  conv => lhs; unfold wv
  rw [wl, List.getD_eq_getElem?_getD, List.getElem?_append_right (by rw [wl_len]; exact Nat.le_refl _), wl_len, if_neg (by omega), e _ (by omega), e _ (by omega), e _ (by omega), e _ (by omega)]
  simp
def wA (b : List Int) (n : Nat) : Arr Int 64 := mkA 64 (fun i => if i < n then u (wv b i) else 0)
theorem wA_at (b : List Int) (n i : Nat) (hi : i < n) (h : i < 64) : gd (wA b n).l (i : Int) = u (wv b i) := by
  unfold wA
  rw [mkA_gd _ _ _ h, if_pos hi]
theorem wA_set (b : List Int) (n : Nat) (h : n < 64) : Arr.set (wA b n) (n : Int) (u (wv b n)) = wA b (n + 1) := by
  unfold wA
  refine mkA_set 64 _ _ n _ h (fun i hi => ?_)
  by_cases a : i = n
  · subst a; rw [if_pos (by omega), if_pos rfl]
  · rw [if_neg a]
    by_cases d : i < n
    · rw [if_pos (by omega), if_pos d]
    · rw [if_neg (by omega), if_neg d]
theorem wA_zero (b : List Int) : wA b 0 = Arr.rep 64 0 := by
  rw [mkA_rep]
  exact mkA_same 64 _ _ (fun i hi => by simp)
theorem low_step (b : List Int) (k : Nat) : orI .u32 (orI .u32 (orI .u32 (shlI .u32 (IntKind.wrap .u32 (gd b (((4 * k : Nat) : Int)))) 24) (shlI .u32 (IntKind.wrap .u32 (gd b (((4 * k + 1 : Nat) : Int)))) 16)) (shlI .u32 (IntKind.wrap .u32 (gd b (((4 * k + 2 : Nat) : Int)))) 8)) (IntKind.wrap .u32 (gd b (((4 * k + 3 : Nat) : Int)))) = u (wd b k) := by
  have e : ∀ j : Nat, IntKind.wrap .u32 (gd b (j : Int)) = u (by4 b j) := fun j => wrap_u _
  rw [e, e, e, e, show (24 : Int) = ((24 : Nat) : Int) from rfl, show (16 : Int) = ((16 : Nat) : Int) from rfl, show (8 : Int) = ((8 : Nat) : Int) from rfl, shl_u _ _ (by omega), shl_u _ _ (by omega), shl_u _ _ (by omega), or_u, or_u, or_u]
  rfl
theorem F93_is (b : List Int) (hb : b.length = 64) : F93.m b = some (wA b 64) := by
  have c4 : ∀ (k j : Nat), k < 16 → j ≤ 3 → IntKind.wrap .i64 ((4 : Int) * (k : Int)) = ((4 * k : Nat) : Int) ∧ IntKind.wrap .i64 (((4 * k : Nat) : Int) + (j : Int)) = ((4 * k + j : Nat) : Int) := fun k j hk hj => by
    constructor
    · rw [w64 (by omega) (by omega)]; omega
    · rw [w64 (by omega) (by omega)]; omega
  unfold F93.m
  rw [loop_done (fun k => (wA b k, (k : Int))) 16 (wA b 16) (fun k hk => ?_) ?_ (by rw [wA_zero]; rfl)]
  · simp only [Option.bind_some, F93.j1]
    rw [loop_done (fun k => (wA b (16 + k), ((16 + k : Nat) : Int))) 48 (wA b 64) (fun k hk => ?_) ?_ (by rfl)]
    · rfl
    · simp only [F93.b1]
      rw [if_neg (by omega)]
    · simp only [F93.b1]
      have e : ∀ j : Nat, j ≤ 16 → IntKind.wrap .i64 (((16 + k : Nat) : Int) - (j : Int)) = ((16 + k - j : Nat) : Int) := fun j hj => by
        rw [w64 (by omega) (by omega)]; omega
      have e15 := e 15 (by omega)
      have e2 := e 2 (by omega)
      have e16 := e 16 (by omega)
      have e7 := e 7 (by omega)
      simp only [Int.cast_ofNat_Int] at e15 e2 e16 e7
      rw [if_pos (by omega), e15, if_pos (by omega), e2, if_pos (by omega), wA_at _ _ _ (by omega) (by omega), wA_at _ _ _ (by omega) (by omega),
        F94_is _ 7 _ (by omega) (by decide), Option.bind_some, F94_is _ 18 _ (by omega) (by decide), Option.bind_some, F94_is _ 17 _ (by omega) (by decide), Option.bind_some, F94_is _ 19 _ (by omega) (by decide), Option.bind_some,
        e16, if_pos (by omega), e7, if_pos (by omega), if_pos (by omega), wA_at _ _ _ (by omega) (by omega), wA_at _ _ _ (by omega) (by omega),
        show (3 : Int) = ((3 : Nat) : Int) from rfl, show (10 : Int) = ((10 : Nat) : Int) from rfl, shr_u _ _ (by omega), shr_u _ _ (by omega), xor_u, xor_u, xor_u, xor_u, add_u, add_u, add_u]
      have hw := wv_high b (16 + k) (by omega)
      have hs := wA_set b (16 + k) (by omega)
      rw [hw] at hs
      unfold sg0 sg1 at hs
      rw [hs, w64 (by omega) (by omega)]
      rfl
  · simp only [F93.b2]
    rw [if_neg (by omega)]
  · obtain ⟨a0, _⟩ := c4 k 0 hk (by omega)
    have a1 := (c4 k 1 hk (by omega)).2
    have a2 := (c4 k 2 hk (by omega)).2
    have a3 := (c4 k 3 hk (by omega)).2
    simp only [Int.cast_ofNat_Int] at a1 a2 a3
    simp only [F93.b2]
    rw [if_pos (by omega), a0, if_pos (by omega)]
    rw [a1, if_pos (by omega), a2, if_pos (by omega), a3, if_pos (by omega), if_pos (by omega), low_step, ← wv_low b k hk, wA_set b k (by omega), w64 (by omega) (by omega)]
    rfl

/-! ### A block into a state -/
structure S8 where
  a : W32
  b : W32
  c : W32
  d : W32
  e : W32
  f : W32
  g : W32
  h : W32
def rnd (k w : W32) (s : S8) : S8 :=
  let t := s.h + (rot s.e 6 ^^^ rot s.e 11 ^^^ rot s.e 25) + ((s.e &&& s.f) ^^^ (~~~ s.e &&& s.g)) + k + w
  let q := (rot s.a 2 ^^^ rot s.a 13 ^^^ rot s.a 22) + ((s.a &&& s.b) ^^^ (s.a &&& s.c) ^^^ (s.b &&& s.c))
  ⟨t + q, s.a, s.b, s.c, s.d + t, s.e, s.f, s.g⟩
def kc (i : Nat) : W32 := BitVec.ofInt 32 (gd K1.l (i : Int))
theorem kc_is : ∀ i : Nat, i < 64 → gd K1.l (i : Int) = u (kc i) := by decide
def rnds (b : List Int) (s : S8) : Nat → S8
  | 0 => s
  | n + 1 => rnd (kc n) (wv b n) (rnds b s n)
def S8.add (s t : S8) : S8 := ⟨s.a + t.a, s.b + t.b, s.c + t.c, s.d + t.d, s.e + t.e, s.f + t.f, s.g + t.g, s.h + t.h⟩
def S8.l (s : S8) : List Int := [u s.a, u s.b, u s.c, u s.d, u s.e, u s.f, u s.g, u s.h]
def S8.arr (s : S8) : Arr Int 8 := ⟨s.l, rfl⟩
/-- A block into a state. -/
def cmpr (s : S8) (b : List Int) : S8 := s.add (rnds b s 64)
theorem F75_loop (b : List Int) (s : S8) : loop (F75.b2 (wA b 64)) (u s.a, u s.b, u s.c, u s.d, u s.e, u s.f, u s.g, u s.h, 0) = some (u (rnds b s 64).a, u (rnds b s 64).b, u (rnds b s 64).c, u (rnds b s 64).d, u (rnds b s 64).e, u (rnds b s 64).f, u (rnds b s 64).g, u (rnds b s 64).h) := by
  refine loop_done (fun k => (u (rnds b s k).a, u (rnds b s k).b, u (rnds b s k).c, u (rnds b s k).d, u (rnds b s k).e, u (rnds b s k).f, u (rnds b s k).g, u (rnds b s k).h, (k : Int))) 64 _ (fun k hk => ?_) ?_ rfl
  · simp only [F75.b2]
    rw [if_pos (by omega), if_pos (by omega), F94_is _ 6 _ (by omega) (by decide), Option.bind_some, F94_is _ 11 _ (by omega) (by decide), Option.bind_some, F94_is _ 25 _ (by omega) (by decide), Option.bind_some, F94_is _ 2 _ (by omega) (by decide), Option.bind_some, F94_is _ 13 _ (by omega) (by decide), Option.bind_some, F94_is _ 22 _ (by omega) (by decide), Option.bind_some,
      kc_is k hk, wA_at _ _ _ hk hk, com_u]
    simp only [xor_u, and_u, add_u]
    rw [w64 (by omega) (by omega)]
    rfl
  · simp only [F75.b2]
    rw [if_neg (by omega)]
theorem F75_1_loop (b : List Int) (s : S8) : loop (F75_1.b2 (wA b 64)) (u s.a, u s.b, u s.c, u s.d, u s.e, u s.f, u s.g, u s.h, 0) = some (u (rnds b s 64).a, u (rnds b s 64).b, u (rnds b s 64).c, u (rnds b s 64).d, u (rnds b s 64).e, u (rnds b s 64).f, u (rnds b s 64).g, u (rnds b s 64).h) := F75_loop b s
theorem add_loop (s t : S8) : loop (F75.b1 (u t.a) (u t.b) (u t.c) (u t.d) (u t.e) (u t.f) (u t.g) (u t.h)) (s.arr, 0) = some (s.add t).arr := by
  have st : ∀ (v : Arr Int 8) (k : Nat) (v' : Arr Int 8), k < 8 → Arr.set v (k : Int) (IntKind.wrap .u32 (gd v.l (k : Int) + gd t.arr.l (k : Int))) = v' → F75.b1 (u t.a) (u t.b) (u t.c) (u t.d) (u t.e) (u t.f) (u t.g) (u t.h) (v, (k : Int)) = some (.inl (v', ((k + 1 : Nat) : Int))) := fun v k v' hk hv => by
    simp only [F75.b1]
    rw [if_pos (by omega), if_pos (by omega), w64 (by omega) (by omega)]
    have e : [u t.a, u t.b, u t.c, u t.d, u t.e, u t.f, u t.g, u t.h] = t.arr.l := rfl
    rw [e, hv]
    rfl
  let v : Nat → Arr Int 8 := fun k => mkA 8 (fun i => if i < k then gd (s.add t).arr.l (i : Int) else gd s.arr.l (i : Int))
  have hsum : ∀ k : Nat, k < 8 → IntKind.wrap .u32 (gd s.arr.l (k : Int) + gd t.arr.l (k : Int)) = gd (s.add t).arr.l (k : Int) := fun k hk => by
    match k, hk with
    | 0, _ => exact add_u _ _
    | 1, _ => exact add_u _ _
    | 2, _ => exact add_u _ _
    | 3, _ => exact add_u _ _
    | 4, _ => exact add_u _ _
    | 5, _ => exact add_u _ _
    | 6, _ => exact add_u _ _
    | 7, _ => exact add_u _ _
    | k + 8, h => exact absurd h (by omega)
  have harr : ∀ s : S8, s.arr = mkA 8 (fun i => gd s.arr.l (i : Int)) := fun s => Arr.ext' rfl
  refine loop_done (fun k => (v k, (k : Int))) 8 _ (fun k hk => ?_) ?_ ?_
  · refine st _ k _ hk ?_
    show Arr.set (mkA 8 _) _ _ = mkA 8 _
    rw [mkA_gd 8 _ k hk, if_neg (by omega), hsum k hk]
    refine mkA_set 8 _ _ k _ hk (fun i hi => ?_)
    by_cases a : i = k
    · subst a; rw [if_pos (by omega), if_pos rfl]
    · rw [if_neg a]
      by_cases d : i < k
      · rw [if_pos (by omega), if_pos d]
      · rw [if_neg (by omega), if_neg d]
  · simp only [F75.b1]
    rw [if_neg (by omega)]
    have e : v 8 = (s.add t).arr := by
      rw [harr (s.add t)]
      exact mkA_same 8 _ _ (fun i hi => by rw [if_pos hi])
    rw [e]
  · have e : v 0 = s.arr := by
      rw [harr s]
      exact mkA_same 8 _ _ (fun i hi => by rw [if_neg (by omega)])
    rw [e]
    rfl
theorem F75_is (s : S8) (r : Arr Int 64) (x4 x5 : Int) : F75.m s.arr r x4 x5 = some (cmpr s r.l).arr := by
  have hr : subL r.l 0 ((64 : Nat) : Int) = r.l := by
    unfold subL
    simp [List.take_of_length_le, r.h]
  unfold F75.m
  rw [hr, F93_is _ r.h, Option.bind_some]
  have h1 := F75_loop r.l s
  show ((loop (F75.b2 (wA r.l 64)) (u s.a, u s.b, u s.c, u s.d, u s.e, u s.f, u s.g, u s.h, 0)).bind _) = _
  rw [h1]
  simp only [Option.bind_some, F75.j1]
  rw [add_loop]
  rfl
theorem F75_1_is (s : S8) (r : Arr Int 64) (x4 x5 : Int) (b : List Int) (hb : b.length = 64) : F75_1.m s.arr r x4 x5 b = some (cmpr s b).arr := by
  unfold F75_1.m
  rw [F93_is _ hb, Option.bind_some]
  have := F75_1_loop b s
  show ((loop (F75_1.b2 (wA b 64)) (u s.a, u s.b, u s.c, u s.d, u s.e, u s.f, u s.g, u s.h, 0)).bind _) = _
  rw [this]
  simp only [Option.bind_some, F75_1.j1]
  have h2 : loop (F75_1.b1 (u (rnds b s 64).a) (u (rnds b s 64).b) (u (rnds b s 64).c) (u (rnds b s 64).d) (u (rnds b s 64).e) (u (rnds b s 64).f) (u (rnds b s 64).g) (u (rnds b s 64).h)) (s.arr, 0) = some (s.add (rnds b s 64)).arr := add_loop s (rnds b s 64)
  rw [h2]
  rfl
end Go.Proofs.Ytmedbpiapeiobaa
