/- What Ot3 needs. -/
import Derived.Test.YtmedbpiapeiobaaPureOt2
set_option linter.unusedVariables false
set_option linter.unusedSimpArgs false
namespace Go.Proofs.Ytmedbpiapeiobaa
open Go Go.Eng Go.Proofs
/-! ### The plain reading -/
theorem byte_is (v : Int) (h : 0 ≤ v ∧ v ≤ 255) : IntKind.wrap .u64 v = v := wu64 (by omega) (by omega)
theorem F28_4 (s : List Int) (hu : ∀ y ∈ s, 0 ≤ y ∧ y ≤ 255) (h : 4 ≤ s.length) (hl : s.length ≤ 100000) : F28.m s 0 4 = some (((gd s 0 * 256 + gd s 1) * 256 + gd s 2) * 256 + gd s 3, 0) := by
  have g : ∀ k : Nat, k < 4 → 0 ≤ gd s (k : Int) ∧ gd s (k : Int) ≤ 255 := fun k hk => by rw [gd_at _ _ (by omega)]; exact hu _ (List.getElem_mem _)
  have g0 : 0 ≤ gd s 0 ∧ gd s 0 ≤ 255 := g 0 (by omega)
  have g1 : 0 ≤ gd s 1 ∧ gd s 1 ≤ 255 := g 1 (by omega)
  have g2 : 0 ≤ gd s 2 ∧ gd s 2 ≤ 255 := g 2 (by omega)
  have g3 : 0 ≤ gd s 3 ∧ gd s 3 ≤ 255 := g 3 (by omega)
  unfold F28.m
  rw [if_neg (by omega), if_neg (by omega), if_neg (by omega), if_neg (by omega), w64 (by omega) (by omega), if_neg (by omega)]
  have st : ∀ (d : Int) (k : Nat), 0 ≤ d ∧ d ≤ 72057594037927935 → k < 4 → F28.b1 s 0 4 (d, (k : Int)) = some (.inl (d * 256 + gd s (k : Int), ((k + 1 : Nat) : Int))) := fun d k hd hk => by
    have := g k hk
    simp only [F28.b1]
    rw [if_pos (by omega), w64 (n := 0 + (k : Int)) (by omega) (by omega), Int.zero_add, if_pos (by omega), wu64 (n := d * 256) (by omega) (by omega), wu64 (n := gd s (k : Int)) (by omega) (by omega), wu64 (by omega) (by omega), w64 (by omega) (by omega)]
    rfl
  have s0 := st 0 0 (by omega) (by omega)
  have s1 := st (0 * 256 + gd s 0) 1 (by omega) (by omega)
  have s2 := st ((0 * 256 + gd s 0) * 256 + gd s 1) 2 (by omega) (by omega)
  have s3 := st (((0 * 256 + gd s 0) * 256 + gd s 1) * 256 + gd s 2) 3 (by omega) (by omega)
  have se : F28.b1 s 0 4 ((((0 * 256 + gd s 0) * 256 + gd s 1) * 256 + gd s 2) * 256 + gd s 3, 4) = some (.inr ((((0 * 256 + gd s 0) * 256 + gd s 1) * 256 + gd s 2) * 256 + gd s 3)) := by
    simp only [F28.b1]
    rw [if_neg (by omega)]
  have hl : loop (F28.b1 s 0 4) (0, 0) = some ((((0 * 256 + gd s 0) * 256 + gd s 1) * 256 + gd s 2) * 256 + gd s 3) := by
    rw [loop_eq, show ((0 : Int), (0 : Int)) = ((0 : Int), ((0 : Nat) : Int)) from rfl, s0]
    simp only
    rw [loop_eq, show (((0 + 1 : Nat)) : Int) = ((1 : Nat) : Int) from rfl]
    simp only [show gd s ((0 : Nat) : Int) = gd s 0 from rfl]
    rw [s1]
    simp only
    rw [loop_eq]
    simp only [show gd s ((1 : Nat) : Int) = gd s 1 from rfl, show (((1 + 1 : Nat)) : Int) = ((2 : Nat) : Int) from rfl]
    rw [s2]
    simp only
    rw [loop_eq]
    simp only [show gd s ((2 : Nat) : Int) = gd s 2 from rfl, show (((2 + 1 : Nat)) : Int) = ((3 : Nat) : Int) from rfl]
    rw [s3]
    simp only
    rw [loop_eq]
    simp only [show gd s ((3 : Nat) : Int) = gd s 3 from rfl, show (((3 + 1 : Nat)) : Int) = (4 : Int) from rfl]
    rw [se]
  rw [hl]
  simp only [Option.bind_some, F28.j1, Int.zero_mul, Int.zero_add]
theorem b4_small (x : Nat) (h : x ≤ 255) : b4 (x : Int) = [0, 0, 0, (x : Int)] := by
  have o : ∀ (k m : Nat), min (56 - 8 * (k : Int)).toNat 64 = m → oct (x : Int) k = (x : Int) / 2 ^ m % 256 := fun k m hm => by
    unfold oct
    rw [shr_ediv x _ m hm, wu8_mod]
  show [oct (x : Int) 4, oct (x : Int) 5, oct (x : Int) 6, oct (x : Int) 7] = _
  rw [o 4 24 (by decide), o 5 16 (by decide), o 6 8 (by decide), o 7 0 (by decide)]
  simp only [List.cons.injEq, and_true]
  omega
theorem str_inj : ∀ {xs ys : List Int}, (∀ x ∈ xs, 0 ≤ x ∧ x ≤ 255) → (∀ y ∈ ys, 0 ≤ y ∧ y ≤ 255) → strOfNums xs = strOfNums ys → xs = ys := by
  intro xs ys hx hy h
  have h1 : (xs.map fun n => UInt8.ofNat n.toNat) = (ys.map fun n => UInt8.ofNat n.toNat) := by
    rw [← strOfNums_data, ← strOfNums_data, h]
  induction xs generalizing ys with
  | nil =>
    cases ys with
    | nil => rfl
    | cons y ys => simp at h1
  | cons x xs ih =>
    cases ys with
    | nil => simp at h1
    | cons y ys =>
      simp only [List.map_cons] at h1
      have h2 := (List.cons.inj h1).1
      have h3 := (List.cons.inj h1).2
      have hxx := hx x (by simp)
      have hyy := hy y (by simp)
      have h4 := congrArg UInt8.toNat h2
      simp only [UInt8.toNat_ofNat'] at h4
      have : x = y := by omega
      subst this
      congr 1
      refine ih (fun z hz => hx z (by simp [hz])) (fun z hz => hy z (by simp [hz])) ?_ h3
      unfold strOfNums
      rw [h3]
theorem four (s : List Int) (h : 4 ≤ s.length) : s.take 4 = [gd s 0, gd s 1, gd s 2, gd s 3] := by
  match s, h with
  | a :: b :: c :: d :: r, _ => rfl
  | [], h => simp at h
  | [_], h => simp at h
  | [_, _], h => simp at h
  | [_, _, _], h => simp at h
theorem head_is (x : Nat) (hx : x ≤ 255) (s : List Int) (hu : ∀ y ∈ s, 0 ≤ y ∧ y ≤ 255) (h : 4 ≤ s.length) : ((gd s 0 * 256 + gd s 1) * 256 + gd s 2) * 256 + gd s 3 = (x : Int) ↔ strOfNums (s.take 4) = strOfNums (b4 x) := by
  have g : ∀ k : Nat, k < 4 → 0 ≤ gd s (k : Int) ∧ gd s (k : Int) ≤ 255 := fun k hk => by rw [gd_at _ _ (by omega)]; exact hu _ (List.getElem_mem _)
  have g0 : 0 ≤ gd s 0 ∧ gd s 0 ≤ 255 := g 0 (by omega)
  have g1 : 0 ≤ gd s 1 ∧ gd s 1 ≤ 255 := g 1 (by omega)
  have g2 : 0 ≤ gd s 2 ∧ gd s 2 ≤ 255 := g 2 (by omega)
  have g3 : 0 ≤ gd s 3 ∧ gd s 3 ≤ 255 := g 3 (by omega)
  rw [b4_small x hx]
  constructor
  · intro e
    rw [four s h]
    have : gd s 0 = 0 ∧ gd s 1 = 0 ∧ gd s 2 = 0 ∧ gd s 3 = x := by omega
    rw [this.1, this.2.1, this.2.2.1, this.2.2.2]
  · intro e
    have := str_inj (fun y hy => hu y (List.mem_of_mem_take hy)) (by simp; omega) e
    rw [four s h] at this
    simp only [List.cons.injEq, and_true] at this
    omega
theorem piece_is (s : List Int) (k : Nat) (h : 36 + 32 * k + 32 ≤ s.length) (hl : s.length ≤ 100000) : loop (F68.b2 s k) (K3, 0) = some (pc s k) := by
  have hz : K3 = Arr.rep 32 0 := K3_is
  have hp : pc s k = mkA 32 (fun i => gd s ((36 + 32 * k + i : Nat) : Int)) := by
    apply Arr.ext'
    unfold pc
    rw [Arr.ofL_take _ _ (by simp; omega), mkA_l]
    apply List.ext_getElem
    · simp; omega
    · intro i h1 h2
      simp at h1 h2
      simp only [List.getElem_take, List.getElem_drop, List.getElem_map, List.getElem_range]
      rw [gd_at _ _ (by omega)]
  let g : Nat → Int := fun i => gd s ((36 + 32 * k + i : Nat) : Int)
  refine loop_done (fun j => (mkA 32 (fun i => if i < j then g i else 0), (j : Int))) 32 _ (fun j hj => ?_) ?_ ?_
  · have e : IntKind.wrap .i64 (IntKind.wrap .i64 ((36 : Int) + IntKind.wrap .i64 ((32 : Int) * (k : Int))) + (j : Int)) = ((36 + 32 * k + j : Nat) : Int) := by
      rw [w64 (n := (32 : Int) * (k : Int)) (by omega) (by omega), w64 (n := (36 : Int) + _) (by omega) (by omega), w64 (by omega) (by omega)]; omega
    simp only [F68.b2]
    rw [if_pos (by omega), e, if_pos (by omega), if_pos (by omega), w64 (by omega) (by omega)]
    rw [show gd s ((36 + 32 * k + j : Nat) : Int) = g j from rfl, part_step g 0 j hj]
    rfl
  · simp only [F68.b2]
    rw [if_neg (by omega), part_all, hp]
  · rw [hz, part_zero g 0]; rfl
theorem refCand_is (x : Nat) (h : 1 ≤ x ∧ x ≤ 4) (I : D16) (q : Int) (hq : IntKind.wrap .u64 q = q) (s m : List Int) (hu : ∀ y ∈ s, 0 ≤ y ∧ y ≤ 255) (hm : m.length ≤ 1000) :
    F68.m x I q s m = some (if s.length = 36 + 32 * pn x then (if strOfNums (s.take 4) = strOfNums (b4 x) then (cnd x I q s m, 0) else (K3, 21)) else (K3, 3)) := by
  obtain ⟨h58, h59, h60, h57, hw, ht⟩ := widths x h
  have h1 := w0 x h
  have hp := pn_le x
  unfold F68.m
  rw [h59, Option.bind_some, if_neg (by omega), h57, Option.bind_some, w64 (n := (32 : Int) * (pn x : Int)) (by omega) (by omega), w64 (n := (36 : Int) + _) (by omega) (by omega)]
  by_cases c : s.length = 36 + 32 * pn x
  · have hh := head_is x (by omega) s hu (by omega)
    rw [if_pos (by omega), if_pos c, F28_4 s hu (by omega) (by omega), Option.bind_some, u64_nat x (by omega)]
    by_cases e : strOfNums (s.take 4) = strOfNums (b4 x)
    · rw [if_pos (hh.2 e), if_pos e, if_pos (by omega), show (36 : Int) = ((36 : Nat) : Int) from rfl, show (4 : Int) = ((4 : Nat) : Int) from rfl, sub_mid s 4 36, show (36 - 4 : Nat) = 32 from rfl, F90_is x h I q hq _ m (by simp; omega) hm, Option.bind_some]
      have hdl := ds_len x h I q ((s.drop 4).take 32) m
      rw [loop_done (fun k => (cat (fun i => wk I q i (pc s i) (gd (ds x I q ((s.drop 4).take 32) m) (i : Int)).toNat (tp x - (gd (ds x I q ((s.drop 4).take 32) m) (i : Int)).toNat)) k, (k : Int))) (pn x) (cat (fun i => wk I q i (pc s i) (gd (ds x I q ((s.drop 4).take 32) m) (i : Int)).toNat (tp x - (gd (ds x I q ((s.drop 4).take 32) m) (i : Int)).toNat)) (pn x)) (fun k hk => ?_) ?_ (by rfl)]
      · simp only [Option.bind_some, F68.j1]
        rw [ended_is I q hq _ (by rw [cat_len]; omega)]
        rfl
      · simp only [F68.b1]
        rw [if_neg (by omega)]
      · have hl := cat_len (fun i => wk I q i (pc s i) (gd (ds x I q ((s.drop 4).take 32) m) (i : Int)).toNat (tp x - (gd (ds x I q ((s.drop 4).take 32) m) (i : Int)).toNat)) k
        obtain ⟨d, hd, hdt⟩ := ds_le x I q ((s.drop 4).take 32) m k (by omega)
        simp only [F68.b1]
        rw [if_pos (by omega), piece_is s k (by omega) (by omega)]
        simp only [Option.bind_some, F68.j3]
        rw [if_pos (by omega), Go.Proofs.Ytmedbpiapeiobaa.steps_is x h, Option.bind_some, hd, F85_is I q hq k (by omega) d (tp x) (by omega), Option.bind_some]
        unfold F68.j4 F68.j2
        rw [all32, if_pos (by rw [hl, (wk I q k _ _ _).h]; omega), w64 (by omega) (by omega)]
        rw [show d = (gd (ds x I q ((s.drop 4).take 32) m) (k : Int)).toNat from by rw [hd]; simp]
        rfl
    · rw [if_neg (fun a => e (hh.1 a)), if_neg e]
  · rw [if_neg (by omega), if_neg c]
end Go.Proofs.Ytmedbpiapeiobaa
