/- What Lst needs. -/
import Derived.Test.YtgganckggdjpaaaPurePm5
import Derived.Test.YtgganckggdjpaaaYLimitLeast
set_option linter.unusedVariables false
set_option linter.unusedSimpArgs false
namespace Go.Proofs.Ytgganckggdjpaaa
open Go Go.Eng Go.Proofs
/-! ### Tables -/
def mkT (n : Nat) (f : Nat → Nat → Int) : List (List Int) := (List.range (n + 1)).map fun i => (List.range (n + 1)).map fun o => f i o
theorem mkT_len (n : Nat) (f : Nat → Nat → Int) : (mkT n f).length = n + 1 := by simp [mkT]
theorem mkT_row (n : Nat) (f : Nat → Nat → Int) (i : Nat) (h : i ≤ n) : gd (mkT n f) (i : Int) = (List.range (n + 1)).map fun o => f i o := gd_map _ _ _ (by omega)
theorem mkT_gd (n : Nat) (f : Nat → Nat → Int) (i o : Nat) (h : i ≤ n) (h' : o ≤ n) : gd (gd (mkT n f) (i : Int)) (o : Int) = f i o := by
  rw [mkT_row n f i h, gd_map _ _ _ (by omega)]
/-- A table that grows row by row. -/
def part (n : Nat) (f : Nat → Nat → Int) (i : Nat) : List (List Int) := (List.range (n + 1)).map fun p => if p < i then (List.range (n + 1)).map (fun o => f p o) else []
theorem part_len (n : Nat) (f : Nat → Nat → Int) (i : Nat) : (part n f i).length = n + 1 := by simp [part]
theorem part_zero (n : Nat) (f : Nat → Nat → Int) : part n f 0 = List.replicate (n + 1) [] := by
  unfold part; rw [rep_map]; exact map_same _ _ _ (fun i _ => by simp)
theorem part_all (n : Nat) (f : Nat → Nat → Int) : part n f (n + 1) = mkT n f := map_same _ _ _ fun i hi => by rw [if_pos hi]
theorem part_set (n : Nat) (f : Nat → Nat → Int) (i : Nat) (h : i ≤ n) : (part n f i).set i ((List.range (n + 1)).map fun o => f i o) = part n f (i + 1) := by
  unfold part
  refine map_set _ _ _ _ _ (by omega) fun p hp => ?_
  by_cases e : p = i
  · subst e; rw [if_pos (by omega), if_pos rfl]
  · rw [if_neg e]
    by_cases c : p < i
    · rw [if_pos c, if_pos (by omega)]
    · rw [if_neg c, if_neg (by omega)]
def rowP (n : Nat) (g : Nat → Int) (o : Nat) : List Int := (List.range (n + 1)).map fun q => if q < o then g q else 0
theorem rowP_len (n : Nat) (g : Nat → Int) (o : Nat) : (rowP n g o).length = n + 1 := by simp [rowP]
theorem rowP_zero (n : Nat) (g : Nat → Int) : rowP n g 0 = List.replicate (n + 1) 0 := by
  unfold rowP; rw [rep_map]; exact map_same _ _ _ (fun i _ => by simp)
theorem rowP_all (n : Nat) (g : Nat → Int) : rowP n g (n + 1) = (List.range (n + 1)).map g := map_same _ _ _ fun i hi => by rw [if_pos hi]
theorem rowP_set (n : Nat) (g : Nat → Int) (o : Nat) (h : o ≤ n) : (rowP n g o).set o (g o) = rowP n g (o + 1) := by
  unfold rowP
  refine map_set _ _ _ _ _ (by omega) fun p hp => ?_
  by_cases e : p = o
  · subst e; rw [if_pos (by omega), if_pos rfl]
  · rw [if_neg e]
    by_cases c : p < o
    · rw [if_pos c, if_pos (by omega)]
    · rw [if_neg c, if_neg (by omega)]
theorem set_set_same {α : Type} (l : List α) (i : Nat) (a b : α) : (l.set i a).set i b = l.set i b := by simp
theorem gd_set_same {α : Type} [Inhabited α] (l : List α) (i : Nat) (a : α) (h : i < l.length) : gd (l.set i a) (i : Int) = a := by rw [gd_set _ _ _ _ h, if_pos rfl]
abbrev NON : Int := 18446744073709551615
/-- The best of the first k choices. -/
def bestK (c : Nat → Nat → Int) (r : Nat → Int) (n i o : Nat) : Nat → Int
  | 0 => NON
  | k + 1 => if i + k ≤ n then (if n < 2 * (o - k) then bestK c r n i o k else if c (i + k) (2 * (o - k)) = NON then bestK c r n i o k else minI (bestK c r n i o k) (IntKind.wrap .u64 (c (i + k) (2 * (o - k)) + r (i + k)))) else bestK c r n i o k
theorem bestK_stop {c : Nat → Nat → Int} {r : Nat → Int} {n i o k : Nat} (h : n < i + k) : ∀ d, bestK c r n i o (k + d) = bestK c r n i o k
  | 0 => rfl
  | d + 1 => by
    show bestK c r n i o ((k + d) + 1) = _
    rw [bestK, if_neg (by omega)]; exact bestK_stop h d
theorem F53_best (n i o : Nat) (c : Nat → Nat → Int) (r : Nat → Int) (hn : n ≤ 1000) (hi : i ≤ n) (ho : o ≤ n) :
    loop (F53.b3 (mkT n c) ((List.range (n + 1)).map r) (n : Int) (i : Int) (o : Int)) (NON, (0 : Int)) = some (bestK c r n i o (o + 1)) := by
  obtain ⟨y, hy, rfl⟩ := loop_ends (b := F53.b3 (mkT n c) ((List.range (n + 1)).map r) (n : Int) (i : Int) (o : Int)) (fun s => ∃ k : Nat, s.2 = (k : Int) ∧ k ≤ o + 1 ∧ s.1 = bestK c r n i o k) (fun s => o + 1 - s.2.toNat) (fun y => y = bestK c r n i o (o + 1)) (fun s hS => by
    obtain ⟨b, kk⟩ := s
    obtain ⟨k, hk, hko, hb⟩ := hS
    simp only at hk hb
    subst hk; subst hb
    unfold F53.b3
    dsimp only
    by_cases h1 : (k : Int) ≤ (o : Int)
    · rw [if_pos h1]
      have w1 : IntKind.wrap .i64 ((i : Int) + (k : Int)) = ((i + k : Nat) : Int) := wad i k (by omega) (by omega)
      have w2 : IntKind.wrap .i64 ((2 : Int) * (IntKind.wrap .i64 ((o : Int) - (k : Int)))) = ((2 * (o - k) : Nat) : Int) := by
        rw [wsb o k (by omega) (by omega), w64 (by omega) (by omega)]; omega
      simp only [w1, w2]
      by_cases h2 : ((i + k : Nat) : Int) ≤ (n : Int)
      · rw [if_pos h2]
        unfold F53.j6
        rw [wp1 k (by omega)]
        have hbk : bestK c r n i o (k + 1) = (if n < 2 * (o - k) then bestK c r n i o k else if c (i + k) (2 * (o - k)) = NON then bestK c r n i o k else minI (bestK c r n i o k) (IntKind.wrap .u64 (c (i + k) (2 * (o - k)) + r (i + k)))) := by
          rw [bestK, if_pos (by omega)]
        by_cases h3 : (n : Int) < ((2 * (o - k) : Nat) : Int)
        · rw [if_pos h3]
          refine ⟨_, rfl, fun s' hs' => ?_, fun r hr => by cases hr⟩
          cases hs'
          exact ⟨⟨k + 1, rfl, by omega, by rw [hbk, if_pos (by omega)]⟩, by simp only; omega⟩
        · rw [if_neg h3, if_pos (by rw [mkT_len]; omega), if_pos (by rw [mkT_row _ _ _ (by omega)]; simp; omega)]
          unfold F52.m
          rw [Option.bind_some, mkT_gd n c (i + k) (2 * (o - k)) (by omega) (by omega)]
          by_cases h4 : c (i + k) (2 * (o - k)) = NON
          · rw [if_pos h4]
            refine ⟨_, rfl, fun s' hs' => ?_, fun r hr => by cases hr⟩
            cases hs'
            exact ⟨⟨k + 1, rfl, by omega, by rw [hbk, if_neg (by omega), if_pos h4]⟩, by simp only; omega⟩
          · rw [if_neg h4, if_pos (by simp; omega), gd_map _ _ _ (by omega)]
            refine ⟨_, rfl, fun s' hs' => ?_, fun r hr => by cases hr⟩
            cases hs'
            exact ⟨⟨k + 1, rfl, by omega, by rw [hbk, if_neg (by omega), if_neg h4]⟩, by simp only; omega⟩
      · rw [if_neg h2]
        refine ⟨_, rfl, fun s' hs' => (by cases hs'), fun r hr' => ?_⟩
        cases hr'
        have := bestK_stop (c := c) (r := r) (n := n) (i := i) (o := o) (k := k) (by omega) (o + 1 - k)
        rw [show k + (o + 1 - k) = o + 1 by omega] at this
        exact this.symm
    · rw [if_neg h1]
      refine ⟨_, rfl, fun s' hs' => (by cases hs'), fun r hr' => ?_⟩
      cases hr'
      rw [show k = o + 1 by omega]) (NON, (0 : Int)) ⟨0, rfl, by omega, rfl⟩
  exact hy
theorem F53_is (n : Nat) (c : Nat → Nat → Int) (r : Nat → Int) (hn : n ≤ 1000) :
    F53.m (mkT n c) ((List.range (n + 1)).map r) (n : Int) = some (mkT n fun i o => bestK c r n i o (o + 1)) := by
  unfold F53.m
  rw [wp1 n (by omega), if_pos (by omega)]
  have hrow : ∀ i, i ≤ n → loop (F53.b2 (mkT n c) ((List.range (n + 1)).map r) (n : Int) (part n (fun i o => bestK c r n i o (o + 1)) i) (i : Int)) ((part n (fun i o => bestK c r n i o (o + 1)) i).set i (List.replicate (n + 1) 0), (0 : Int)) = some (part n (fun i o => bestK c r n i o (o + 1)) (i + 1)) := fun i hi => by
    refine loop_done (fun o => ((part n (fun i o => bestK c r n i o (o + 1)) i).set i (rowP n (fun o => bestK c r n i o (o + 1)) o), (o : Int))) (n + 1) _ (fun o ho => ?_) ?_ (by rw [rowP_zero]; rfl)
    · unfold F53.b2
      dsimp only
      rw [wp1 n (by omega), Int.toNat_natCast, Int.toNat_natCast, gd_set_same _ _ _ (by rw [part_len]; omega), List.length_replicate, if_pos (by omega)]
      unfold F52.m
      rw [Option.bind_some, F53_best n i o c r hn hi (by omega), Option.bind_some]
      try dsimp only
      unfold F53.j5
      rw [if_pos (by simp [part_len]; omega), gd_set_same _ _ _ (by rw [part_len]; omega), if_pos (by rw [rowP_len]; omega)]
      unfold F53.j4
      rw [wp1 o (by omega), Int.toNat_natCast, Int.toNat_natCast, set_set_same, rowP_set _ (fun o => bestK c r n i o (o + 1)) o (by omega)]
    · unfold F53.b2
      dsimp only
      rw [wp1 n (by omega), Int.toNat_natCast, Int.toNat_natCast, gd_set_same _ _ _ (by rw [part_len]; omega), List.length_replicate, if_neg (by omega), rowP_all, part_set _ (fun i o => bestK c r n i o (o + 1)) i hi]
  have hall : loop (F53.b1 (mkT n c) ((List.range (n + 1)).map r) (n : Int)) (List.replicate (n + 1) [], (0 : Int)) = some (mkT n fun i o => bestK c r n i o (o + 1)) := by
    refine loop_done (fun i => (part n (fun i o => bestK c r n i o (o + 1)) i, (i : Int))) (n + 1) _ (fun i hi => ?_) ?_ (by rw [part_zero]; rfl)
    · unfold F53.b1
      dsimp only
      rw [wp1 n (by omega), Int.toNat_natCast, Int.toNat_natCast, List.length_replicate, if_pos (by omega), if_pos (by omega), if_pos (by rw [part_len]; omega), if_pos (by rw [List.length_set, part_len]; omega), hrow i (by omega), Option.bind_some]
      try dsimp only
      unfold F53.j3 F53.j2
      rw [wp1 i (by omega)]
    · unfold F53.b1
      dsimp only
      rw [wp1 n (by omega), Int.toNat_natCast, List.length_replicate, if_neg (by omega), part_all]
  rw [Int.toNat_natCast, hall, Option.bind_some]
  rfl
/-! ### drogherref10.Least -/
def sumI (f : Nat → Int) : Nat → Int
  | 0 => 0
  | k + 1 => sumI f k + f k
/-- The weights from i on, together. -/
def restN (S : List Int) (i : Nat) : Int := (S.drop i).sum
theorem restN_step (S : List Int) (i : Nat) (h : i < S.length) : restN S i = gd S (i : Int) + restN S (i + 1) := by
  unfold restN
  rw [drop_gd _ _ h, List.sum_cons]
theorem restN_end (S : List Int) : restN S S.length = 0 := by unfold restN; simp
theorem restN_bd (S : List Int) (hS : ∀ x ∈ S, 0 ≤ x ∧ x ≤ 4294967295) : ∀ i, 0 ≤ restN S i ∧ restN S i ≤ 4294967295 * (S.length : Int) := by
  have key : ∀ T : List Int, (∀ x ∈ T, 0 ≤ x ∧ x ≤ 4294967295) → 0 ≤ T.sum ∧ T.sum ≤ 4294967295 * (T.length : Int) := fun T => by
    induction T with
    | nil => intro _; simp
    | cons x T ih =>
      intro h
      have h1 := ih (fun y hy => h y (by simp [hy]))
      have h2 := h x (by simp)
      rw [List.sum_cons, List.length_cons]
      push_cast
      omega
  intro i
  have h1 := key (S.drop i) (fun x hx => hS x (List.mem_of_mem_drop hx))
  unfold restN
  rw [List.length_drop] at h1
  omega
def cost0 (n : Nat) (i o : Nat) : Int := if n - i = o then 0 else NON
/-- The costs d depths above the deepest. -/
def costD (S : List Int) : Nat → Nat → Nat → Int
  | 0 => cost0 S.length
  | d + 1 => fun i o => bestK (costD S d) (restN S) S.length i o (o + 1)
theorem F26_rest (S : List Int) (hl : S.length ≤ 1000) (hS : ∀ x ∈ S, 0 ≤ x ∧ x ≤ 4294967295) :
    loop (F26.b4 S) (List.replicate (S.length + 1) (0 : Int), (S.length : Int) - 1) = some ((List.range (S.length + 1)).map (restN S)) := by
  refine loop_done (fun k => ((List.range (S.length + 1)).map (fun i => if S.length - k ≤ i then restN S i else 0), ((S.length - k : Nat) : Int) - 1)) S.length _ (fun k hk => ?_) ?_ ?_
  · have hb := restN_bd S hS
    unfold F26.b4
    dsimp only
    have e1 : IntKind.wrap .i64 ((((S.length - k : Nat) : Int) - 1) + 1) = ((S.length - k : Nat) : Int) := by rw [w64 (by omega) (by omega)]; omega
    have e2 : ((S.length - k : Nat) : Int) - 1 = ((S.length - (k + 1) : Nat) : Int) := by omega
    have e3 : IntKind.wrap .i64 (((S.length - (k + 1) : Nat) : Int) - 1) = ((S.length - (k + 1) : Nat) : Int) - 1 := by rw [w64 (by omega) (by omega)]
    rw [e1, e2, e3, if_pos (by omega), if_pos (by simp; omega), if_pos (by omega), if_pos (by simp; omega), gd_map _ _ _ (by omega), if_pos (by omega), Int.toNat_natCast]
    have hst := restN_step S (S.length - (k + 1)) (by omega)
    rw [show S.length - (k + 1) + 1 = S.length - k by omega] at hst
    have hb1 := hb (S.length - (k + 1))
    rw [show restN S (S.length - k) + gd S ((S.length - (k + 1) : Nat) : Int) = restN S (S.length - (k + 1)) by omega, wu64 (by omega) (by omega)]
    rw [map_set (S.length + 1) _ (fun i => if S.length - (k + 1) ≤ i then restN S i else 0) _ _ (by omega) (fun i hi => by
      by_cases c : i = S.length - (k + 1)
      · rw [if_pos c, if_pos (by omega), c]
      · rw [if_neg c]
        by_cases c2 : S.length - k ≤ i
        · rw [if_pos c2, if_pos (by omega)]
        · rw [if_neg c2, if_neg (by omega)])]
  · unfold F26.b4
    dsimp only
    rw [if_neg (by omega)]
    congr 2
    exact map_same _ _ _ fun i _ => by rw [if_pos (by omega)]
  · congr 1
    rw [rep_map]
    refine map_same _ _ _ fun i hi => ?_
    by_cases c : S.length - 0 ≤ i
    · rw [if_pos c, show i = S.length by omega, restN_end]
    · rw [if_neg c]
theorem F26_init (S : List Int) (hl : S.length ≤ 1000) : loop (F26.b2 S) (List.replicate (S.length + 1) ([] : List Int), (0 : Int)) = some (mkT S.length (cost0 S.length)) := by
  have hrow : ∀ i, i ≤ S.length → loop (F26.b3 S (part S.length (cost0 S.length) i) (i : Int)) ((part S.length (cost0 S.length) i).set i (List.replicate (S.length + 1) 0), (0 : Int)) = some (part S.length (cost0 S.length) (i + 1)) := fun i hi => by
    refine loop_done (fun o => ((part S.length (cost0 S.length) i).set i (rowP S.length (cost0 S.length i) o), (o : Int))) (S.length + 1) _ (fun o ho => ?_) ?_ (by rw [rowP_zero]; rfl)
    · unfold F26.b3
      dsimp only
      rw [wp1 S.length (by omega), Int.toNat_natCast, Int.toNat_natCast, gd_set_same _ _ _ (by rw [part_len]; omega), List.length_replicate, if_pos (by omega)]
      unfold F52.m
      rw [if_pos (by simp [part_len]; omega), Option.bind_some, gd_set_same _ _ _ (by rw [part_len]; omega), if_pos (by rw [rowP_len]; omega), Int.toNat_natCast, set_set_same, wsb S.length i (by omega) hi]
      unfold F26.j6
      rw [wp1 o (by omega)]
      by_cases c : ((S.length - i : Nat) : Int) = (o : Int)
      · rw [if_pos c, if_pos (by simp [part_len]; omega), gd_set_same _ _ _ (by rw [part_len]; omega), if_pos (by rw [List.length_set, rowP_len]; omega), set_set_same, set_set_same]
        have := rowP_set S.length (cost0 S.length i) o (by omega)
        rw [show cost0 S.length i o = 0 by unfold cost0; rw [if_pos (by omega)]] at this
        rw [this]
      · rw [if_neg c]
        have := rowP_set S.length (cost0 S.length i) o (by omega)
        rw [show cost0 S.length i o = NON by unfold cost0; rw [if_neg (by omega)]] at this
        rw [this]
    · unfold F26.b3
      dsimp only
      rw [wp1 S.length (by omega), Int.toNat_natCast, Int.toNat_natCast, gd_set_same _ _ _ (by rw [part_len]; omega), List.length_replicate, if_neg (by omega), rowP_all, part_set _ _ i hi]
  refine loop_done (fun i => (part S.length (cost0 S.length) i, (i : Int))) (S.length + 1) _ (fun i hi => ?_) ?_ (by rw [part_zero]; rfl)
  · unfold F26.b2
    dsimp only
    rw [wp1 S.length (by omega), Int.toNat_natCast, Int.toNat_natCast, List.length_replicate, if_pos (by omega), if_pos (by rw [part_len]; omega), if_pos (by rw [List.length_set, part_len]; omega), hrow i (by omega), Option.bind_some]
    try dsimp only
    unfold F26.j5 F26.j4
    rw [wp1 i (by omega)]
  · unfold F26.b2
    dsimp only
    rw [wp1 S.length (by omega), Int.toNat_natCast, List.length_replicate, if_neg (by omega), part_all]
theorem F26_is (w S : List Int) (most : Nat) (h51 : F51.m w = some S) (hl : S.length ≤ 1000) (hS : ∀ x ∈ S, 0 ≤ x ∧ x ≤ 4294967295) (h1 : 1 ≤ S.length) (hm1 : 1 ≤ most) (hm : most ≤ 15) :
    F26.m w (most : Int) = some (costD S most 0 1) := by
  unfold F26.m
  rw [h51, Option.bind_some, wp1 S.length (by omega), if_pos (by omega), Int.toNat_natCast, show IntKind.wrap .i64 ((S.length : Int) - 1) = (S.length : Int) - 1 by rw [w64 (by omega) (by omega)], F26_rest S hl hS, Option.bind_some]
  dsimp only
  unfold F26.j1
  rw [wp1 S.length (by omega), if_pos (by omega), Int.toNat_natCast, F26_init S hl, Option.bind_some]
  dsimp only
  unfold F26.j2
  have hloop : loop (F26.b1 S ((List.range (S.length + 1)).map (restN S))) (mkT S.length (cost0 S.length), (most : Int) - 1) = some (mkT S.length (costD S most)) := by
    refine loop_done (fun d => (mkT S.length (costD S d), ((most - d : Nat) : Int) - 1)) most _ (fun d hd => ?_) ?_ rfl
    · unfold F26.b1
      dsimp only
      rw [if_pos (by omega), F53_is S.length (costD S d) (restN S) hl, Option.bind_some, show IntKind.wrap .i64 (((most - d : Nat) : Int) - 1 - 1) = ((most - (d + 1) : Nat) : Int) - 1 by rw [w64 (by omega) (by omega)]; omega]
      rfl
    · unfold F26.b1
      dsimp only
      rw [if_neg (by omega)]
  rw [show IntKind.wrap .i64 ((most : Int) - 1) = (most : Int) - 1 by rw [w64 (by omega) (by omega)], hloop, Option.bind_some]
  dsimp only
  unfold F26.j3
  have g := mkT_gd S.length (costD S most) 0 1 (by omega) h1
  rw [if_pos (by rw [mkT_len]; omega), if_pos (by rw [show (0 : Int) = ((0 : Nat) : Int) from rfl, mkT_row _ _ _ (by omega)]; simp; omega)]
  exact congrArg some g
end Go.Proofs.Ytgganckggdjpaaa
