/- What MatF needs. -/
import Derived.Test.YtedokgdilpfomaaPureMatK
import Derived.Test.YtedokgdilpfomaaMat
set_option linter.unusedVariables false
set_option linter.unusedSimpArgs false
namespace Go.Proofs.Ytedokgdilpfomaa
open Go Go.Eng Go.Proofs
/-! ### reach, as it is called -/
def sb (old new : List Int) (i at_ k : Nat) : Bool := decide (gd new ((i - 1 - k : Nat) : Int) = gd old ((at_ - 1 - k : Nat) : Int))
def so (old new : List Int) (i at_ k : Nat) : Bool := decide (gd new ((i + k : Nat) : Int) = gd old ((at_ + k : Nat) : Int))
theorem step54 (old new : List Int) (i at_ k : Nat) (hn : new.length ≤ 5000) (ho : old.length ≤ 5000) (hi : i ≤ new.length) (ha : at_ ≤ old.length) (h1 : k < i) (h2 : k < at_) : F54.m (k : Int) new (i : Int) old (at_ : Int) = some (sb old new i at_ k) := by
  unfold F54.m sb
  rw [w64 (n := (i : Int) - 1) (by omega) (by omega), w64 (n := (i : Int) - 1 - (k : Int)) (by omega) (by omega), w64 (n := (at_ : Int) - 1) (by omega) (by omega), w64 (n := (at_ : Int) - 1 - (k : Int)) (by omega) (by omega), if_pos (by omega), if_pos (by omega), show (i : Int) - 1 - (k : Int) = ((i - 1 - k : Nat) : Int) by omega, show (at_ : Int) - 1 - (k : Int) = ((at_ - 1 - k : Nat) : Int) by omega]
theorem back53 (old new : List Int) (i at_ M : Nat) (hn : new.length ≤ 5000) (ho : old.length ≤ 5000) (hi : i ≤ new.length) (ha : at_ ≤ old.length) (h1 : M ≤ i) (h2 : M ≤ at_) :
    ∃ far : Nat, F53.m (M : Int) new (i : Int) old (at_ : Int) = some (far : Int) ∧ far ≤ M ∧ far ≤ 2 * cnt (sb old new i at_) far := by
  unfold F53.m
  have e : ∀ best score far k : Int, 0 ≤ k → F53.b1 (M : Int) new (i : Int) old (at_ : Int) (best, score, far, k) = if k < M then (
      let sc := if sb old new i at_ k.toNat then IntKind.wrap .i64 (score + 1) else IntKind.wrap .i64 (score - 1)
      let bf := if best ≤ sc ∧ sb old new i at_ k.toNat = true then (sc, IntKind.wrap .i64 (k + 1)) else (best, far)
      if sc < IntKind.wrap .i64 (bf.1 - 24) then some (.inr bf.2) else some (.inl (bf.1, sc, bf.2, IntKind.wrap .i64 (k + 1)))) else some (.inr far) := by
    intro best score far k hk
    obtain ⟨k, rfl⟩ := nat_of hk
    simp only [F53.b1]
    by_cases c : k < M
    · rw [if_pos (by omega), if_pos (by omega), step54 old new i at_ k hn ho hi ha (by omega) (by omega), Option.bind_some, Int.toNat_natCast]
      cases hg : sb old new i at_ k with
      | true =>
        rw [if_pos rfl]
        simp only [F53.j3, F53.j4, F53.j2, if_true, and_true]
        by_cases d : best ≤ IntKind.wrap .i64 (score + 1)
        · rw [if_pos d, if_pos d, step54 old new i at_ k hn ho hi ha (by omega) (by omega), Option.bind_some, hg, if_pos rfl]
        · rw [if_neg d, if_neg d]
      | false =>
        rw [if_neg (by simp)]
        simp only [F53.j3, F53.j4, F53.j2]
        simp only [Bool.false_eq_true, if_false, and_false]
        by_cases d : best ≤ IntKind.wrap .i64 (score - 1)
        · rw [if_pos d, step54 old new i at_ k hn ho hi ha (by omega) (by omega), Option.bind_some, hg, if_neg (by simp)]
        · rw [if_neg d]
    · rw [if_neg (by omega), if_neg (by omega)]
  obtain ⟨y, hy, hQ⟩ := reach_gen2 (b1 := F53.b1 (M : Int) new (i : Int) old (at_ : Int)) (sb old new i at_) M (by omega) e
  rw [hy]
  exact ⟨y, rfl, hQ⟩
theorem step55 (old new : List Int) (i n at_ k : Nat) (hn : new.length ≤ 5000) (ho : old.length ≤ 5000) (hi : i + n + k < new.length) (ha : at_ + n + k < old.length) : F55.m (k : Int) new (i : Int) (n : Int) old (at_ : Int) = some (so old new (i + n) (at_ + n) k) := by
  unfold F55.m so
  rw [w64 (n := (i : Int) + (n : Int)) (by omega) (by omega), w64 (n := (i : Int) + (n : Int) + (k : Int)) (by omega) (by omega), w64 (n := (at_ : Int) + (n : Int)) (by omega) (by omega), w64 (n := (at_ : Int) + (n : Int) + (k : Int)) (by omega) (by omega), if_pos (by omega), if_pos (by omega), show (i : Int) + (n : Int) + (k : Int) = ((i + n + k : Nat) : Int) by omega, show (at_ : Int) + (n : Int) + (k : Int) = ((at_ + n + k : Nat) : Int) by omega]
theorem on53 (old new : List Int) (i n at_ M : Nat) (hn : new.length ≤ 5000) (ho : old.length ≤ 5000) (hi : i + n + M ≤ new.length) (ha : at_ + n + M ≤ old.length) :
    ∃ far : Nat, F53_1.m (M : Int) new (i : Int) (n : Int) old (at_ : Int) = some (far : Int) ∧ far ≤ M ∧ far ≤ 2 * cnt (so old new (i + n) (at_ + n)) far := by
  unfold F53_1.m
  have e : ∀ best score far k : Int, 0 ≤ k → F53_1.b1 (M : Int) new (i : Int) (n : Int) old (at_ : Int) (best, score, far, k) = if k < M then (
      let sc := if so old new (i + n) (at_ + n) k.toNat then IntKind.wrap .i64 (score + 1) else IntKind.wrap .i64 (score - 1)
      let bf := if best ≤ sc ∧ so old new (i + n) (at_ + n) k.toNat = true then (sc, IntKind.wrap .i64 (k + 1)) else (best, far)
      if sc < IntKind.wrap .i64 (bf.1 - 24) then some (.inr bf.2) else some (.inl (bf.1, sc, bf.2, IntKind.wrap .i64 (k + 1)))) else some (.inr far) := by
    intro best score far k hk
    obtain ⟨k, rfl⟩ := nat_of hk
    simp only [F53_1.b1]
    by_cases c : k < M
    · rw [if_pos (by omega), if_pos (by omega), step55 old new i n at_ k hn ho (by omega) (by omega), Option.bind_some, Int.toNat_natCast]
      cases hg : so old new (i + n) (at_ + n) k with
      | true =>
        rw [if_pos rfl]
        simp only [F53_1.j3, F53_1.j4, F53_1.j2, if_true, and_true]
        by_cases d : best ≤ IntKind.wrap .i64 (score + 1)
        · rw [if_pos d, if_pos d, step55 old new i n at_ k hn ho (by omega) (by omega), Option.bind_some, hg, if_pos rfl]
        · rw [if_neg d, if_neg d]
      | false =>
        rw [if_neg (by simp)]
        simp only [F53_1.j3, F53_1.j4, F53_1.j2]
        simp only [Bool.false_eq_true, if_false, and_false]
        by_cases d : best ≤ IntKind.wrap .i64 (score - 1)
        · rw [if_pos d, step55 old new i n at_ k hn ho (by omega) (by omega), Option.bind_some, hg, if_neg (by simp)]
        · rw [if_neg d]
    · rw [if_neg (by omega), if_neg (by omega)]
  obtain ⟨y, hy, hQ⟩ := reach_gen2 (b1 := F53_1.b1 (M : Int) new (i : Int) (n : Int) old (at_ : Int)) (so old new (i + n) (at_ + n)) M (by omega) e
  rw [hy]
  exact ⟨y, rfl, hQ⟩
/-! ### Pieces -/
abbrev Pce := Int × Int × Int
structure Gp (old new : List Int) (a : Nat) (t : Pce) (N O L : Nat) : Prop where
  n : t.1 = (N : Int)
  o : t.2.1 = (O : Int)
  l : t.2.2 = (L : Int)
  a : a ≤ N
  l1 : 1 ≤ L
  nl : N + L ≤ new.length
  ol : O + L ≤ old.length
  half : L ≤ 2 * cnt (so old new N O) L
def Pk (old new : List Int) : Nat → List Pce → Nat → Prop
  | a, [], e => a ≤ e
  | a, t :: l, e => ∃ N O L, Gp old new a t N O L ∧ Pk old new (N + L) l e
theorem pk_snoc {old new : List Int} {t : Pce} {e N O L : Nat} (h : Gp old new e t N O L) : ∀ {l : List Pce} {a : Nat}, Pk old new a l e → Pk old new a (l ++ [t]) (N + L)
  | [], a, hk => ⟨N, O, L, ⟨h.n, h.o, h.l, Nat.le_trans hk h.a, h.l1, h.nl, h.ol, h.half⟩, Nat.le_refl _⟩
  | u :: l, a, ⟨N', O', L', h1, h2⟩ => ⟨N', O', L', h1, pk_snoc h h2⟩
theorem pk_le {old new : List Int} {e : Nat} : ∀ {l : List Pce} {a : Nat}, Pk old new a l e → a + l.length ≤ e
  | [], a, hk => by have : a ≤ e := hk; simpa using this
  | u :: l, a, ⟨N, O, L, h1, h2⟩ => by
    have := pk_le h2
    have := h1.a
    have := h1.l1
    simp; omega
theorem pk_mono {old new : List Int} {e e' : Nat} (he : e ≤ e') : ∀ {l : List Pce} {a : Nat}, Pk old new a l e → Pk old new a l e'
  | [], a, hk => Nat.le_trans (show a ≤ e from hk) he
  | u :: l, a, ⟨N, O, L, h1, h2⟩ => ⟨N, O, L, h1, pk_mono he h2⟩
/-- A row of 32 bytes that stands somewhere is touched. -/
def Cov (old new : List Int) (i : Nat) (l : List Pce) : Prop := ∀ at_ s : Nat, at_ < i → at_ + 32 ≤ new.length → s + 32 ≤ old.length → (∀ j : Nat, j < 32 → gd old ((s + j : Nat) : Int) = gd new ((at_ + j : Nat) : Int)) → ∃ t ∈ l, t.1 < (at_ : Int) + 32 ∧ (at_ : Int) < t.1 + t.2.2
theorem count_piece (old new : List Int) (i at_ back n on : Nat) (h1 : back ≤ i) (h2 : back ≤ at_) (hs : ∀ j : Nat, j < n → gd old ((at_ + j : Nat) : Int) = gd new ((i + j : Nat) : Int)) (hb : back ≤ 2 * cnt (sb old new i at_) back) (ho : on ≤ 2 * cnt (so old new (i + n) (at_ + n)) on) :
    back + n + on ≤ 2 * cnt (so old new (i - back) (at_ - back)) (back + n + on) := by
  rw [cnt_add, cnt_add]
  have e1 : cnt (so old new (i - back) (at_ - back)) back = cnt (sb old new i at_) back := by
    rw [← cnt_rev (so old new (i - back) (at_ - back)) back]
    refine cnt_same _ _ _ (fun k hk => ?_)
    unfold so sb
    rw [show i - back + (back - 1 - k) = i - 1 - k by omega, show at_ - back + (back - 1 - k) = at_ - 1 - k by omega]
  have e2 : cnt (fun k => so old new (i - back) (at_ - back) (back + k)) n = n := cnt_all _ _ (fun k hk => by
    unfold so
    rw [show i - back + (back + k) = i + k by omega, show at_ - back + (back + k) = at_ + k by omega, hs k hk]
    simp)
  have e3 : cnt (fun k => so old new (i - back) (at_ - back) (back + n + k)) on = cnt (so old new (i + n) (at_ + n)) on := cnt_same _ _ _ (fun k hk => by
    unfold so
    rw [show i - back + (back + n + k) = i + n + k by omega, show at_ - back + (back + n + k) = at_ + n + k by omega])
  omega
theorem find_loop (old new A : List Int) (ho : old.length ≤ 5000) (hn : new.length ≤ 5000) (sa : SA old A) (hou : ∀ x ∈ old, 0 ≤ x ∧ x ≤ 255) (hnu : ∀ x ∈ new, 0 ≤ x ∧ x ≤ 255) :
    ∃ l, loop (F28.b2 old new (old, A)) ([], 0, 0) = some l ∧ Pk old new 0 l new.length ∧ Cov old new new.length l := by
  refine loop_ends (b := F28.b2 old new (old, A)) (fun x => ∃ (l : List Pce) (e i : Nat), x = (l, (e : Int), (i : Int)) ∧ e ≤ i ∧ i ≤ new.length ∧ Pk old new 0 l e ∧ Cov old new i l) (fun x => ((new.length : Int) - x.2.2).toNat)
    (fun l => Pk old new 0 l new.length ∧ Cov old new new.length l) (fun x hx => ?_) ([], 0, 0) ⟨[], 0, 0, rfl, by omega, by omega, Nat.le_refl _, fun at_ s h => by omega⟩
  obtain ⟨l, e, i, rfl, h1, h2, h3, h4⟩ := hx
  have hll := pk_le h3
  simp only [F28.b2]
  by_cases hi : i < new.length
  · have emin : minI (new.length : Int) (IntKind.wrap .i64 ((i : Int) + 16384)) = (new.length : Int) := by
      rw [w64 (by omega) (by omega)]; unfold minI; rw [if_neg (by omega)]
    have hsl := subL_len new i new.length (by omega)
    have hsat : ∀ k : Nat, k < new.length - i → gd (subL new (i : Int) (new.length : Int)) (k : Int) = gd new ((i + k : Nat) : Int) := fun k hk => subL_at _ _ _ _ hk
    obtain ⟨p, n, e1, g1, g2, g3, g4⟩ := longest52 old A (subL new (i : Int) (new.length : Int)) ho (by omega) sa hou (fun x hx => hnu x (by unfold subL at hx; exact List.mem_of_mem_drop (List.mem_of_mem_take hx)))
    rw [if_pos (by omega), emin, if_pos (by omega), e1, Option.bind_some]
    simp only
    rw [hsl] at g2 g4
    by_cases hn12 : (n : Int) < 12
    · rw [if_pos hn12]
      simp only [F28.j4]
      rw [w64 (by omega) (by omega)]
      refine on_ (x := (l, (e : Int), (i : Int))) ⟨l, e, i + 1, rfl, by omega, by omega, h3, fun at_ s ha hr hs hh => ?_⟩ (by simp only; omega)
      by_cases ea : at_ = i
      · subst ea
        have := g4 s 32 hs (by omega) (fun j hj => by rw [hsat j (by omega)]; exact hh j hj)
        omega
      · exact h4 at_ s (by omega) hr hs hh
    · rw [if_neg hn12]
      have em1 : minI (IntKind.wrap .i64 ((i : Int) - (e : Int))) (p : Int) = ((min (i - e) p : Nat) : Int) := by
        rw [w64 (by omega) (by omega), show (i : Int) - (e : Int) = ((i - e : Nat) : Int) by omega, minN]
      obtain ⟨back, f1, f2, f3⟩ := back53 old new i p (min (i - e) p) hn ho (by omega) (by omega) (by omega) (by omega)
      have em2 : minI (IntKind.wrap .i64 (IntKind.wrap .i64 ((new.length : Int) - (i : Int)) - (n : Int))) (IntKind.wrap .i64 (IntKind.wrap .i64 ((old.length : Int) - (p : Int)) - (n : Int))) = ((min (new.length - i - n) (old.length - p - n) : Nat) : Int) := by
        rw [w64 (n := (new.length : Int) - (i : Int)) (by omega) (by omega), w64 (n := (new.length : Int) - (i : Int) - (n : Int)) (by omega) (by omega), w64 (n := (old.length : Int) - (p : Int)) (by omega) (by omega), w64 (n := (old.length : Int) - (p : Int) - (n : Int)) (by omega) (by omega), show (new.length : Int) - (i : Int) - (n : Int) = ((new.length - i - n : Nat) : Int) by omega, show (old.length : Int) - (p : Int) - (n : Int) = ((old.length - p - n : Nat) : Int) by omega, minN]
      obtain ⟨on, k1, k2, k3⟩ := on53 old new i n p (min (new.length - i - n) (old.length - p - n)) hn ho (by omega) (by omega)
      rw [em1, f1, Option.bind_some, em2, k1, Option.bind_some]
      have hs : ∀ j : Nat, j < n → gd old ((p + j : Nat) : Int) = gd new ((i + j : Nat) : Int) := fun j hj => by rw [g3 j hj, hsat j (by omega)]
      have hc := count_piece old new i p back n on (by omega) (by omega) hs f3 k3
      rw [if_pos (by simp; omega), w64 (n := (i : Int) - (back : Int)) (by omega) (by omega), w64 (n := (p : Int) - (back : Int)) (by omega) (by omega), w64 (n := (back : Int) + (n : Int)) (by omega) (by omega), w64 (n := (back : Int) + (n : Int) + (on : Int)) (by omega) (by omega)]
      rw [show (i : Int) - (back : Int) = ((i - back : Nat) : Int) by omega, show (p : Int) - (back : Int) = ((p - back : Nat) : Int) by omega, show (back : Int) + (n : Int) + (on : Int) = ((back + n + on : Nat) : Int) by omega, w64 (n := ((i - back : Nat) : Int) + ((back + n + on : Nat) : Int)) (by omega) (by omega)]
      have hg : Gp old new e (((i - back : Nat) : Int), ((p - back : Nat) : Int), ((back + n + on : Nat) : Int)) (i - back) (p - back) (back + n + on) := ⟨rfl, rfl, rfl, by omega, by omega, by omega, by omega, hc⟩
      simp only [F28.j4]
      refine on_ (x := (l, (e : Int), (i : Int))) ⟨_, i - back + (back + n + on), i - back + (back + n + on), rfl, by omega, by omega, pk_snoc hg h3, fun at_ s ha hr hs' hh => ?_⟩ (by simp only; omega)
      by_cases c : at_ < i
      · obtain ⟨t, ht, hh'⟩ := h4 at_ s c hr hs' hh
        exact ⟨t, by simp [ht], hh'⟩
      · exact ⟨_, List.mem_append_right _ (List.mem_singleton.2 rfl), by simp only; omega, by simp only; omega⟩
  · rw [if_neg (by omega)]
    have : i = new.length := by omega
    subst this
    exact out_ (x := (l, (e : Int), ((new.length : Nat) : Int))) ⟨pk_mono h1 h3, h4⟩
theorem clone60 (x : List Int) (h : x.length ≤ 1000000) : F60.m x = some x := by
  unfold F60.m
  rw [if_pos (by simp; omega)]
theorem find_is (old new : List Int) (ho : old.length ≤ 5000) (hn : new.length ≤ 5000) (hou : ∀ x ∈ old, 0 ≤ x ∧ x ≤ 255) (hnu : ∀ x ∈ new, 0 ≤ x ∧ x ≤ 255) :
    ∃ l, F28.m old new = some l ∧ Pk old new 0 l new.length ∧ Cov old new new.length l ∧ (new = [] → l = []) ∧ (new ≠ [] → old = new → l = [(0, 0, (new.length : Int))]) := by
  obtain ⟨A, eA, sa⟩ := array_is old ho hou
  obtain ⟨l, el, h1, h2⟩ := find_loop old new A ho hn sa hou hnu
  have e51 : F51.m old = some (.inr (old, A)) := by
    unfold F51.m
    rw [if_neg (by omega), clone60 old (by omega), Option.bind_some, eA]
    rfl
  unfold F28.m
  by_cases h0 : (0 : Int) < (new.length : Int)
  · have hne : new ≠ [] := fun h => by rw [h] at h0; simp at h0
    rw [if_pos h0]
    unfold F50.m
    rw [Option.bind_some]
    by_cases he : old = new
    · rw [he, if_pos (by simp)]
      refine ⟨_, rfl, ⟨0, 0, new.length, ⟨rfl, rfl, rfl, by omega, by omega, by omega, by omega, ?_⟩, by show 0 + new.length ≤ new.length; omega⟩, fun at_ s ha hr hs hh => ⟨_, List.mem_singleton.2 rfl, by simp only; omega, by simp only; omega⟩, fun h => absurd h hne, fun _ _ => rfl⟩
      rw [cnt_all _ _ (fun k hk => by simp [so])]
      omega
    · rw [if_neg (fun h => he (str_inj hou hnu (of_decide_eq_true h))), e51, Option.bind_some]
      simp only
      rw [if_pos trivial, el, Option.bind_some]
      exact ⟨l, rfl, h1, h2, fun h => absurd h hne, fun _ h => absurd h he⟩
  · have hnil : new = [] := List.eq_nil_of_length_eq_zero (by omega)
    rw [if_neg h0, e51, Option.bind_some]
    simp only
    rw [if_pos trivial]
    have e4 : F28.b4 old new (old, A) = F28.b2 old new (old, A) := rfl
    rw [e4, el, Option.bind_some]
    refine ⟨l, rfl, h1, h2, fun _ => ?_, fun h => absurd hnil h⟩
    have := pk_le h1
    rw [hnil] at this
    exact List.eq_nil_of_length_eq_zero (by simpa using this)
theorem match_awake : F27.m = some true := by
  unfold F27.m
  obtain ⟨l, e, _, _, _, h⟩ := find_is [97, 98, 99, 100, 101, 102, 103, 104] [97, 98, 99, 100, 101, 102, 103, 104] (by simp) (by simp) (by decide) (by decide)
  rw [e, h (by simp) rfl]
  rfl
end Go.Proofs.Ytedokgdilpfomaa
