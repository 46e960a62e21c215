/- What Sh2 needs. -/
import Derived.Test.YtmedbpiapeiobaaPureShK
set_option linter.unusedVariables false
set_option linter.unusedSimpArgs false
namespace Go.Proofs.Ytmedbpiapeiobaa
open Go Go.Eng Go.Proofs
/-! ### Blocks of a message -/
def cut (m : List Int) (j : Nat) : List Int := (m.drop (64 * j)).take 64
theorem cut_len (m : List Int) (j : Nat) (h : 64 * j + 64 ≤ m.length) : (cut m j).length = 64 := by
  simp [cut]; omega
def hb (s : S8) (m : List Int) : Nat → S8
  | 0 => s
  | n + 1 => cmpr (hb s m n) (cut m n)
theorem cut_app (m x : List Int) (j : Nat) (h : 64 * j + 64 ≤ m.length) : cut (m ++ x) j = cut m j := by
  unfold cut
  rw [List.drop_append_of_le_length (by omega), List.take_append_of_le_length (by simp; omega)]
theorem hb_app (s : S8) (m x : List Int) : ∀ n, 64 * n ≤ m.length → hb s (m ++ x) n = hb s m n
  | 0, _ => rfl
  | n + 1, h => by
    simp only [hb]
    rw [hb_app s m x n (by omega), cut_app m x n (by omega)]
def s0 : S8 := ⟨BitVec.ofInt 32 (gd K0.l 0), BitVec.ofInt 32 (gd K0.l 1), BitVec.ofInt 32 (gd K0.l 2), BitVec.ofInt 32 (gd K0.l 3), BitVec.ofInt 32 (gd K0.l 4), BitVec.ofInt 32 (gd K0.l 5), BitVec.ofInt 32 (gd K0.l 6), BitVec.ofInt 32 (gd K0.l 7)⟩
theorem K0_is : K0 = s0.arr := Arr.ext' (by decide)

/-! ### Write -/
theorem sub_drop (x : List Int) (c : Nat) : subL x (c : Int) (x.length : Int) = x.drop c := by
  unfold subL
  simp
  rw [List.take_of_length_le (by simp)]
theorem sub_take (x : List Int) (c : Nat) : subL x 0 (c : Int) = x.take c := by
  unfold subL
  simp
theorem cp0 (r : Arr Int 64) (y : List Int) (h : y.length < 64) : (Arr.cp r 0 ((64 : Nat) : Int) y).l.take y.length = y := by
  rw [Arr.cp_l _ _ _ _ (by omega)]
  unfold cpL
  simp only [Int.toNat_zero, List.take_zero, List.nil_append, Int.toNat_natCast, Nat.sub_zero]
  rw [List.take_of_length_le (l := y) (by omega), List.take_append_of_le_length (by omega), List.take_length]
theorem j1_is (x5 : Int) (x7 M : List Int) (n : Nat) (r : Arr Int 64) (d : Int) (h : 64 * n ≤ M.length) (hM : M.length ≤ 1000000) :
    F35.j1 x5 x7 (hb s0 M n).arr r d (M.drop (64 * n)) = some ((hb s0 M (M.length / 64)).arr, Arr.cp r 0 ((64 : Nat) : Int) (M.drop (64 * (M.length / 64))), ((M.length % 64 : Nat) : Int), IntKind.wrap .u64 (x5 + IntKind.wrap .u64 (x7.length : Int))) := by
  unfold F35.j1
  rw [loop_done (fun k => ((hb s0 M (n + k)).arr, M.drop (64 * (n + k)))) (M.length / 64 - n) ((hb s0 M (M.length / 64)).arr, M.drop (64 * (M.length / 64))) (fun k hk => ?_) ?_ (by rfl)]
  · simp only [Option.bind_some, F35.j2]
    congr 3
    unfold cpN
    simp only [Int.toNat_zero, Int.toNat_natCast, Nat.sub_zero, List.length_drop]
    congr 2
    omega
  · simp only [F35.b1]
    rw [if_neg (by simp; omega), show n + (M.length / 64 - n) = M.length / 64 from by omega]
  · simp only [F35.b1]
    rw [if_pos (by simp; omega), if_pos (by simp; omega), show (64 : Int) = ((64 : Nat) : Int) from rfl, sub_take, F75_1_is _ _ _ _ (List.take 64 (List.drop (64 * (n + k)) M)) (cut_len M (n + k) (by omega)), Option.bind_some, if_pos (by simp; omega), sub_drop, List.drop_drop]
    rfl
structure Inv (a : Arr Int 8) (r : Arr Int 64) (many all : Int) (m : List Int) : Prop where
  st : a = (hb s0 m (m.length / 64)).arr
  ro : r.l.take (m.length % 64) = m.drop (64 * (m.length / 64))
  mn : many = ((m.length % 64 : Nat) : Int)
  al : all = (m.length : Int)
theorem Inv.nil : Inv K0 (Arr.rep 64 0) 0 0 [] := ⟨K0_is, rfl, rfl, rfl⟩
theorem write_is (a : Arr Int 8) (r : Arr Int 64) (many all : Int) (m x : List Int) (h : Inv a r many all m) (hl : m.length + x.length ≤ 1000000) :
    ∃ a' r' many' all', F35.m a r many all x = some (a', r', many', all') ∧ Inv a' r' many' all' (m ++ x) := by
  obtain ⟨rfl, ro, rfl, rfl⟩ := h
  have hall : IntKind.wrap .u64 ((m.length : Int) + IntKind.wrap .u64 (x.length : Int)) = ((m ++ x).length : Int) := by
    rw [wu64 (n := (x.length : Int)) (by omega) (by omega), wu64 (by omega) (by omega)]; simp
  have fin : ∀ (r' : Arr Int 64) (d : Int) (n : Nat), 64 * n ≤ (m ++ x).length → ∃ a' r'' many' all', F35.j1 (m.length : Int) x (hb s0 (m ++ x) n).arr r' d ((m ++ x).drop (64 * n)) = some (a', r'', many', all') ∧ Inv a' r'' many' all' (m ++ x) := fun r' d n hn => by
    rw [j1_is _ _ _ _ _ _ hn (by simp; omega), hall]
    refine ⟨_, _, _, _, rfl, rfl, ?_, rfl, rfl⟩
    have hc := cp0 r' ((m ++ x).drop (64 * ((m ++ x).length / 64))) (by simp; omega)
    rwa [show ((m ++ x).drop (64 * ((m ++ x).length / 64))).length = (m ++ x).length % 64 from by simp; omega] at hc
  unfold F35.m
  by_cases hp : 0 < m.length % 64
  · generalize hq : m.length / 64 = q at *
    generalize hpp : m.length % 64 = p at *
    have hc : cpN (p : Int) ((64 : Nat) : Int) x = ((min x.length (64 - p) : Nat) : Int) := by unfold cpN; simp
    rw [if_pos (by omega), if_pos (by omega), hc, if_pos (by omega)]
    have hcp : (Arr.cp r (p : Int) ((64 : Nat) : Int) x).l = r.l.take p ++ (x.take (64 - p) ++ r.l.drop (p + min x.length (64 - p))) := by
      rw [Arr.cp_l _ _ _ _ (by omega)]
      unfold cpL
      simp
    by_cases c : p + x.length < 64
    · have hmin : min x.length (64 - p) = x.length := by omega
      rw [hmin] at hcp ⊢
      rw [w64 (by omega) (by omega), if_pos (by omega), hall]
      have e1 : (m ++ x).length / 64 = q := by simp; omega
      have e2 : (m ++ x).length % 64 = p + x.length := by simp; omega
      refine ⟨_, _, _, _, rfl, ?_, ?_, ?_, rfl⟩
      · rw [e1, hb_app _ _ _ _ (by omega)]
      · rw [e1, e2, hcp, ro, List.drop_append_of_le_length (by omega), List.take_of_length_le (l := x) (by omega), ← List.append_assoc, List.take_append_of_le_length (by simp; omega), List.take_of_length_le (by simp; omega)]
      · rw [e2]; simp
    · have hmin : min x.length (64 - p) = 64 - p := by omega
      rw [hmin] at hcp ⊢
      have hcut : (Arr.cp r (p : Int) ((64 : Nat) : Int) x).l = cut (m ++ x) q := by
        unfold cut
        rw [hcp, ro, List.drop_append_of_le_length (by omega), List.take_append, show (m.drop (64 * q)).length = p from by simp; omega, List.take_of_length_le (l := m.drop (64 * q)) (by simp; omega), show p + (64 - p) = 64 from by omega, show r.l.drop 64 = [] from List.drop_eq_nil_of_le (by rw [r.h]; omega), List.append_nil]
      rw [w64 (by omega) (by omega), if_neg (by omega), F75_is, Option.bind_some, hcut, sub_drop]
      have hs : cmpr (hb s0 m q) (cut (m ++ x) q) = hb s0 (m ++ x) (q + 1) := by
        simp only [hb]
        rw [hb_app _ _ _ _ (by omega)]
      have hd : x.drop (64 - p) = (m ++ x).drop (64 * (q + 1)) := by
        rw [List.drop_append, show m.drop (64 * (q + 1)) = [] from List.drop_eq_nil_of_le (by omega), List.nil_append]
        congr 1
        omega
      rw [hs, hd]
      exact fin _ _ _ (by simp; omega)
  · have h0 : m.length % 64 = 0 := by omega
    rw [h0, if_neg (by omega)]
    have e := hb_app s0 m x (m.length / 64) (by omega)
    have hd : x = (m ++ x).drop (64 * (m.length / 64)) := by
      rw [List.drop_append, List.drop_eq_nil_of_le (by omega), List.nil_append, show 64 * (m.length / 64) - m.length = 0 from by omega, List.drop_zero]
    have hf := fin r ((0 : Nat) : Int) (m.length / 64) (by simp; omega)
    rw [← hd, e] at hf
    exact hf

/-! ### Sum -/
def zn (n : Nat) : Nat := (119 - n % 64) % 64
def be8 (n : Nat) : List Int := (List.range 8).map (fun i => IntKind.wrap .u8 (shrI .u64 (IntKind.wrap .u64 (8 * (n : Int))) ((56 - 8 * i : Nat) : Int)))
def pad (m : List Int) : List Int := (m ++ 128 :: List.replicate (zn m.length) 0) ++ be8 m.length
def outA (s : S8) : Arr Int 32 := mkA 32 (fun i => IntKind.wrap .u8 (shrI .u32 (gd s.arr.l ((i / 4 : Nat) : Int)) ((24 - 8 * (i % 4) : Nat) : Int)))
def dig (m : List Int) : Arr Int 32 := outA (hb s0 (pad m) ((pad m).length / 64))
theorem out_step (s : S8) (k : Nat) (hk : k < 32) (v : Nat → Int) :
    IntKind.wrap .i64 (Int.tdiv (k : Int) 4) = ((k / 4 : Nat) : Int) ∧ IntKind.wrap .i64 ((24 : Int) - (IntKind.wrap .i64 ((8 : Int) * (Int.tmod (k : Int) 4)))) = ((24 - 8 * (k % 4) : Nat) : Int) := by
  rw [show (4 : Int) = ((4 : Nat) : Int) from rfl, tdiv_nat, tmod_nat, w64 (n := ((k / 4 : Nat) : Int)) (by omega) (by omega), w64 (n := (8 : Int) * _) (by omega) (by omega), w64 (by omega) (by omega)]
  exact ⟨rfl, by omega⟩
theorem part_step {n : Nat} (g : Nat → Int) (z : Int) (k : Nat) (hk : k < n) : Arr.set (mkA n (fun i => if i < k then g i else z)) (k : Int) (g k) = mkA n (fun i => if i < k + 1 then g i else z) := by
  refine mkA_set n _ _ k _ hk (fun i hi => ?_)
  by_cases a : i = k
  · subst a; rw [if_pos (by omega), if_pos rfl]
  · rw [if_neg a]
    by_cases d : i < k
    · rw [if_pos (by omega), if_pos d]
    · rw [if_neg (by omega), if_neg d]
theorem part_zero {n : Nat} (g : Nat → Int) (z : Int) : Arr.rep n z = mkA n (fun i => if i < 0 then g i else z) := by
  rw [mkA_rep]
  exact mkA_same n _ _ (fun i hi => by simp)
theorem part_all {n : Nat} (g : Nat → Int) (z : Int) : mkA n (fun i => if i < n then g i else z) = mkA n g := mkA_same n _ _ (fun i hi => by rw [if_pos hi])
theorem out_loop (s : S8) (y : (Arr Int 8) × (Arr Int 64) × Int × Int) (hy : y.1 = s.arr) : loop (F36.b1 y) (Arr.rep 32 0, 0) = some (outA s) := by
  let g : Nat → Int := fun i => IntKind.wrap .u8 (shrI .u32 (gd s.arr.l ((i / 4 : Nat) : Int)) ((24 - 8 * (i % 4) : Nat) : Int))
  refine loop_done (fun k => (mkA 32 (fun i => if i < k then g i else 0), (k : Int))) 32 _ (fun k hk => ?_) ?_ ?_
  · obtain ⟨e1, e2⟩ := out_step s k hk g
    simp only [F36.b1]
    rw [if_pos (by omega), e1, e2, if_pos (by omega), if_pos (by omega), if_pos (by omega), hy, w64 (n := (k : Int) + 1) (by omega) (by omega)]
    rw [show IntKind.wrap .u8 (shrI .u32 (gd s.arr.l ((k / 4 : Nat) : Int)) ((24 - 8 * (k % 4) : Nat) : Int)) = g k from rfl, part_step g 0 k hk]
    rfl
  · simp only [F36.b1]
    rw [if_neg (by omega), part_all]
    rfl
  · rw [part_zero g 0]; rfl
theorem sum_is (a : Arr Int 8) (r : Arr Int 64) (many all : Int) (m : List Int) (h : Inv a r many all m) (hl : m.length ≤ 100000) : F36.m a r many all = some (dig m) := by
  have hI := h
  obtain ⟨-, -, rfl, rfl⟩ := h
  have hz : IntKind.wrap .i64 ((1 : Int) + (Int.tmod (IntKind.wrap .i64 ((119 : Int) - ((m.length % 64 : Nat) : Int))) (64 : Int))) = ((1 + zn m.length : Nat) : Int) := by
    rw [w64 (n := 119 - ((m.length % 64 : Nat) : Int)) (by omega) (by omega), show (119 : Int) - ((m.length % 64 : Nat) : Int) = ((119 - m.length % 64 : Nat) : Int) from by omega, show (64 : Int) = ((64 : Nat) : Int) from rfl, tmod_nat, w64 (by omega) (by omega)]
    unfold zn
    omega
  have hzl : zn m.length < 64 := by unfold zn; omega
  unfold F36.m
  rw [hz, if_pos (by omega), sub_take]
  have e1 : (Arr.set (Arr.rep 72 (0 : Int)) 0 128).l.take (1 + zn m.length) = 128 :: List.replicate (zn m.length) 0 := by
    show (List.set (List.replicate 72 (0 : Int)) 0 128).take (1 + zn m.length) = _
    rw [show List.set (List.replicate 72 (0 : Int)) 0 128 = 128 :: List.replicate 71 0 from rfl, Nat.add_comm, List.take_succ_cons, List.take_replicate]
    congr 2
    omega
  rw [e1]
  obtain ⟨a1, r1, m1, l1, hw1, hI1⟩ := write_is _ _ _ _ _ (128 :: List.replicate (zn m.length) 0) hI (by simp; omega)
  rw [hw1, Option.bind_some]
  let g : Nat → Int := fun i => if i < 8 then IntKind.wrap .u8 (shrI .u64 (IntKind.wrap .u64 (8 * (m.length : Int))) ((56 - 8 * i : Nat) : Int)) else 0
  let z : Nat → Int := fun i => if i = 0 then 128 else 0
  have e2 : loop (F36.b2 (m.length : Int)) (Arr.set (Arr.rep 72 (0 : Int)) 0 128, 0) = some (mkA 72 (fun i => if i < 8 then g i else z i)) := by
    refine loop_done (fun k => (mkA 72 (fun i => if i < k then g i else z i), (k : Int))) 8 _ (fun k hk => ?_) ?_ ?_
    · simp only [F36.b2]
      rw [w64 (n := (8 : Int) * (k : Int)) (by omega) (by omega), w64 (n := (56 : Int) - _) (by omega) (by omega), if_pos (by omega), if_pos (by omega), if_pos (by omega), w64 (n := (k : Int) + 1) (by omega) (by omega), show (56 : Int) - 8 * (k : Int) = ((56 - 8 * k : Nat) : Int) from by omega]
      congr 3
      refine mkA_set 72 _ _ k _ (by omega) (fun i hi => ?_)
      by_cases a : i = k
      · subst a; rw [if_pos (by omega), if_pos rfl]; simp only [g]; rw [if_pos hk]
      · rw [if_neg a]
        by_cases d : i < k
        · rw [if_pos (by omega), if_pos d]
        · rw [if_neg (by omega), if_neg d]
    · simp only [F36.b2]
      rw [if_neg (by omega)]
    · rw [mkA_rep, show (0 : Int) = ((0 : Nat) : Int) from rfl, mkA_set 72 _ z 0 128 (by omega) (fun i hi => by simp only [z]; rfl)]
      congr 1
  rw [e2]
  simp only [Option.bind_some, F36.j1]
  have e3 : subL (mkA 72 (fun i => if i < 8 then g i else z i)).l 0 8 = be8 m.length := by
    rw [show (8 : Int) = ((8 : Nat) : Int) from rfl, sub_take, mkA_l]
    unfold be8
    apply List.ext_getElem
    · simp
    · intro i h1 h2
      simp at h1 h2
      simp [g, h2]
  rw [e3]
  obtain ⟨a2, r2, m2, l2, hw2, hI2⟩ := write_is _ _ _ _ _ (be8 m.length) hI1 (by simp [be8]; omega)
  rw [hw2, Option.bind_some, out_loop _ (a2, r2, m2, l2) hI2.st]
  rfl
theorem F32_is (m : List Int) (hl : m.length ≤ 100000) : F32.m m = some (dig m) := by
  unfold F32.m F34.m
  obtain ⟨a1, r1, m1, l1, hw1, hI1⟩ := write_is _ _ _ _ _ m Inv.nil (by simp; omega)
  rw [Option.bind_some, hw1, Option.bind_some, sum_is _ _ _ _ _ hI1 (by simpa using hl)]
  rfl
end Go.Proofs.Ytmedbpiapeiobaa
