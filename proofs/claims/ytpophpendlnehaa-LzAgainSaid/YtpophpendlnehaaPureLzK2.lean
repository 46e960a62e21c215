/- What LzK2 needs. -/
import Derived.Test.YtpophpendlnehaaLzf
import Derived.Test.YtpophpendlnehaaPureLzM
import Derived.Test.YtpophpendlnehaaPureLzK
set_option linter.unusedVariables false
set_option linter.unusedSimpArgs false
namespace Go.Proofs.Ytpophpendlnehaa
open Go Go.Eng Go.Proofs
/-! ### Tokens and what they stand for -/
def wd (t : Int × Int × Int) : Nat := if t.2.1 = 0 then 1 else t.2.1.toNat
def Gt (b : List Int) (q : Nat) (t : Int × Int × Int) : Prop := q < b.length ∧ ((t.2.1 = 0 ∧ t.2.2 = 0 ∧ t.1 = gd b (q : Int)) ∨ (t.1 = 0 ∧ Okt b q t.2.1 t.2.2 ∧ t.2.1 ≠ 0))
theorem Gt.wd {b : List Int} {q : Nat} {t : Int × Int × Int} (h : Gt b q t) : 1 ≤ wd t ∧ q + wd t ≤ b.length := by
  obtain ⟨h0, h | ⟨_, ⟨h1, _⟩ | ⟨n, d, h1, _, h3, _, h5, _⟩, h6⟩⟩ := h
  · unfold Ytpophpendlnehaa.wd; rw [if_pos h.1]; omega
  · exact absurd h1 h6
  · unfold Ytpophpendlnehaa.wd; rw [if_neg h6, h1]; omega
def Tk (b : List Int) : Nat → List (Int × Int × Int) → Nat → Prop
  | a, [], e => a = e
  | a, t :: l, e => Gt b a t ∧ Tk b (a + wd t) l e
theorem tk_snoc {b : List Int} {t : Int × Int × Int} {e : Nat} (h : Gt b e t) : ∀ {l : List (Int × Int × Int)} {a : Nat}, Tk b a l e → Tk b a (l ++ [t]) (e + wd t)
  | [], a, hk => by
    have hk : a = e := hk
    subst hk
    exact ⟨h, rfl⟩
  | u :: l, a, hk => ⟨hk.1, tk_snoc h hk.2⟩
theorem tk_len {b : List Int} {e : Nat} : ∀ {l : List (Int × Int × Int)} {a : Nat}, Tk b a l e → a + l.length ≤ e
  | [], a, hk => by have hk : a = e := hk; simp; omega
  | u :: l, a, hk => by
    have h1 := tk_len hk.2
    have h2 := hk.1.wd
    simp; omega
theorem tk_zero {b : List Int} {e : Nat} : ∀ {l : List (Int × Int × Int)} {a : Nat}, (∀ t ∈ l, t.2.1 = 0) → Tk b a l e → a + l.length = e
  | [], a, _, hk => by have hk : a = e := hk; simp; omega
  | u :: l, a, hz, hk => by
    have h1 := tk_zero (fun t ht => hz t (List.mem_cons_of_mem _ ht)) hk.2
    have h2 : wd u = 1 := by unfold wd; rw [if_pos (hz u (by simp))]
    simp; omega
theorem tk_mem {b : List Int} {e : Nat} : ∀ {l : List (Int × Int × Int)} {a : Nat}, Tk b a l e → ∀ t ∈ l, ∃ q, Gt b q t
  | [], a, hk, t, ht => by simp at ht
  | u :: l, a, hk, t, ht => by
    rcases List.mem_cons.1 ht with rfl | ht
    · exact ⟨_, hk.1⟩
    · exact tk_mem hk.2 t ht
/-! ### The steps of Find -/
theorem notes_is {b hd ah : List Int} {q n : Nat} (c : Ch b hd ah (q + 1)) (hb : b.length ≤ 3000) (hn : 1 ≤ n) (hq : q + n ≤ b.length) :
    ∃ hd' ah', loop (F18.b2 b q n) (hd, ah, 1) = some (hd', ah') ∧ Ch b hd' ah' (q + n) ∧ (∀ k : Nat, k < 4096 → 1 ≤ gd hd k → 1 ≤ gd hd' k) := by
  obtain ⟨y, hy, h1, h2⟩ := loop_ends (b := F18.b2 b q n) (fun x => ∃ i : Nat, x.2.2 = (i : Int) ∧ 1 ≤ i ∧ i ≤ n ∧ Ch b x.1 x.2.1 (q + i) ∧ (∀ k : Nat, k < 4096 → 1 ≤ gd hd k → 1 ≤ gd x.1 k)) (fun x => ((n : Int) - x.2.2).toNat)
    (fun y => Ch b y.1 y.2 (q + n) ∧ (∀ k : Nat, k < 4096 → 1 ≤ gd hd k → 1 ≤ gd y.1 k)) (fun x hx => by
      obtain ⟨h, a, i⟩ := x
      obtain ⟨i, rfl, h1, h2, h3, h4⟩ := hx
      simp only [F18.b2]
      by_cases hi : i < n
      · rw [if_pos (by omega), w64 (n := (q : Int) + i) (by omega) (by omega), show (q : Int) + i = ((q + i : Nat) : Int) by omega]
        obtain ⟨h', a', e, c', m', _⟩ := note_is h3 hb (Nat.le_refl _) (show q + i < b.length by omega)
        rw [e, Option.bind_some, w64 (n := (i : Int) + 1) (by omega) (by omega)]
        exact on_ (x := (h, a, (i : Int))) ⟨i + 1, by simp, by omega, by omega, c', fun k hk hh => m' k hk (h4 k hk hh)⟩ (by simp only; omega)
      · rw [if_neg (by omega)]
        have : i = n := by omega
        subst this
        exact out_ (x := (h, a, (i : Int))) ⟨h3, h4⟩) (hd, ah, 1) ⟨1, rfl, by omega, hn, c, fun k _ h => h⟩
  exact ⟨y.1, y.2, hy, h1, h2⟩
theorem j5_is {b hd ah : List Int} {q n : Nat} (c : Ch b hd ah (q + 1)) (hb : b.length ≤ 3000) (hn : 1 ≤ n) (hq : q + n ≤ b.length) (out : List (Int × Int × Int)) (ho : out.length ≤ 3000) (x y z : Int) :
    ∃ hd' ah', F18.j5 b out q hd ah x y z n = some (.inl (hd', ah', out ++ [(x, y, z)], ((q + n : Nat) : Int))) ∧ Ch b hd' ah' (q + n) ∧ (∀ k : Nat, k < 4096 → 1 ≤ gd hd k → 1 ≤ gd hd' k) := by
  obtain ⟨hd', ah', e, c', m'⟩ := notes_is c hb hn hq
  refine ⟨hd', ah', ?_, c', m'⟩
  unfold F18.j5
  rw [e, Option.bind_some]
  simp only [F18.j6, F18.j3]
  rw [if_pos (by simp; omega), w64 (by omega) (by omega)]
  rfl
theorem j4_is {b hd ah : List Int} {q : Nat} (c : Ch b hd ah (q + 1)) (hb : b.length ≤ 3000) (hq : q < b.length) (out : List (Int × Int × Int)) (ho : out.length ≤ 3000) (len dist : Int) (hok : Okt b q len dist) :
    ∃ hd' ah' t, F18.j4 b out q hd ah len dist = some (.inl (hd', ah', out ++ [t], ((q + wd t : Nat) : Int))) ∧ Ch b hd' ah' (q + wd t) ∧ Gt b q t ∧ t.2.1 = len ∧ (∀ k : Nat, k < 4096 → 1 ≤ gd hd k → 1 ≤ gd hd' k) := by
  unfold F18.j4
  by_cases h0 : len = 0
  · obtain ⟨hd', ah', e, c', m'⟩ := j5_is (n := 1) c hb (by omega) (by omega) out ho (gd b (q : Int)) 0 0
    rw [if_pos h0, if_pos (by omega)]
    refine ⟨hd', ah', (gd b (q : Int), 0, 0), ?_, ?_, ⟨hq, .inl ⟨rfl, rfl, rfl⟩⟩, h0.symm, m'⟩
    · exact e
    · exact c'
  · rw [if_neg h0]
    have hok' := hok
    rcases hok with ⟨h1, _⟩ | ⟨n, d, rfl, rfl, h3, _, h5, _⟩
    · exact absurd h1 h0
    · obtain ⟨hd', ah', e, c', m'⟩ := j5_is (n := n) c hb (by omega) (by omega) out ho 0 (n : Int) (d : Int)
      have hw : wd (0, (n : Int), (d : Int)) = n := by unfold wd; rw [if_neg h0]; simp
      refine ⟨hd', ah', (0, (n : Int), (d : Int)), ?_, ?_, ⟨hq, .inr ⟨rfl, hok', h0⟩⟩, rfl, m'⟩
      · rw [hw]; exact e
      · rw [hw]; exact c'
theorem step_is {b hd ah : List Int} {q : Nat} (c : Ch b hd ah q) (hb : b.length ≤ 3000) (hq : q < b.length) (tries : Int) (ht : -9223372036854775808 ≤ tries ∧ tries ≤ 1000) (out : List (Int × Int × Int)) (ho : out.length ≤ 3000) :
    ∃ hd' ah' t, F18.b1 b tries (hd, ah, out, (q : Int)) = some (.inl (hd', ah', out ++ [t], ((q + wd t : Nat) : Int))) ∧ Ch b hd' ah' (q + wd t) ∧ Gt b q t ∧ (∀ k : Nat, k < 4096 → 1 ≤ gd hd k → 1 ≤ gd hd' k) ∧
      (q + 3 ≤ b.length → 1 ≤ gd hd' (hs b q)) ∧ (tries < 1 → t.2.1 = 0) ∧ (AllS b → 1 ≤ tries → q + 3 ≤ b.length → 1 ≤ gd hd (hs b q) → t.2.1 = ((min (b.length - q) 258 : Nat) : Int)) := by
  obtain ⟨len, dist, e1, ok1, z1, a1⟩ := longest_is c hb (Nat.le_refl _) (Nat.le_of_lt hq) tries ht
  obtain ⟨hd1, ah1, e2, c1, m1, n1⟩ := note_is c hb (Nat.le_refl _) hq
  simp only [F18.b1]
  rw [if_pos (by omega), e1, Option.bind_some]
  obtain ⟨n, hn, hn'⟩ := hs_in b q
  have hmin : min (b.length - q) 258 ≤ b.length - q := Nat.min_le_left _ _
  have hmin2 : min (b.length - q) 258 = b.length - q ∨ min (b.length - q) 258 = 258 := by omega
  have fin : ∀ l d : Int, Okt b q l d → (tries < 1 → l = 0) → (AllS b → 1 ≤ tries → q + 3 ≤ b.length → 1 ≤ gd hd (hs b q) → l = ((min (b.length - q) 258 : Nat) : Int)) →
      ∃ hd' ah' t, F18.j4 b out q hd1 ah1 l d = some (.inl (hd', ah', out ++ [t], ((q + wd t : Nat) : Int))) ∧ Ch b hd' ah' (q + wd t) ∧ Gt b q t ∧ (∀ k : Nat, k < 4096 → 1 ≤ gd hd k → 1 ≤ gd hd' k) ∧
      (q + 3 ≤ b.length → 1 ≤ gd hd' (hs b q)) ∧ (tries < 1 → t.2.1 = 0) ∧ (AllS b → 1 ≤ tries → q + 3 ≤ b.length → 1 ≤ gd hd (hs b q) → t.2.1 = ((min (b.length - q) 258 : Nat) : Int)) := by
    intro l d h1 h2 h3
    obtain ⟨hd', ah', t, e3, c3, g3, l3, m3⟩ := j4_is c1 hb hq out ho l d h1
    refine ⟨hd', ah', t, e3, c3, g3, fun k hk h => m3 k hk (m1 k hk h), fun h => ?_, fun h => by rw [l3]; exact h2 h, fun hA ha hb' hc => by rw [l3]; exact h3 hA ha hb' hc⟩
    rw [hn] at n1 ⊢
    exact m3 n hn' (n1 h)
  by_cases hl : 0 < len
  · rw [if_pos hl]
    by_cases hl2 : len < 32
    · rw [if_pos hl2]
      by_cases ht1 : 1 < tries
      · rw [if_pos ht1, e2, Option.bind_some]
        simp only
        obtain ⟨len2, dist2, e3, ok3, _, _⟩ := longest_is (q := q + 1) c1 hb (Nat.le_refl _) (by omega) tries ht
        rw [w64 (n := (q : Int) + 1) (by omega) (by omega), show (q : Int) + 1 = ((q + 1 : Nat) : Int) by omega, e3, Option.bind_some]
        have hlen2 : len2 + 1 + q ≤ b.length := by
          rcases ok3 with ⟨h, _⟩ | ⟨n', d', h, _, _, _, h5, _⟩ <;> omega
        rw [w64 (n := len + 1) (by omega) (by omega)]
        by_cases hb2 : len + 1 < len2
        · rw [if_pos hb2]
          refine fin 0 0 (.inl ⟨rfl, rfl⟩) (fun h => by omega) (fun hA h1 h2 h3 => ?_)
          have := a1 hA h1 h2 h3
          omega
        · rw [if_neg hb2]
          exact fin len dist ok1 z1 a1
      · rw [if_neg ht1, e2, Option.bind_some]
        exact fin len dist ok1 z1 a1
    · rw [if_neg hl2, e2, Option.bind_some]
      exact fin len dist ok1 z1 a1
  · rw [if_neg hl, e2, Option.bind_some]
    exact fin len dist ok1 z1 a1
theorem find_is (b : List Int) (hb : b.length ≤ 3000) (tries : Int) (ht : -9223372036854775808 ≤ tries ∧ tries ≤ 1000) :
    ∃ l, F18.m b tries = some l ∧ Tk b 0 l b.length ∧ (tries < 1 → ∀ t ∈ l, t.2.1 = 0) := by
  unfold F18.m
  rw [if_pos (by decide), if_pos (by omega)]
  unfold F18.j1
  rw [Int.toNat_natCast]
  obtain ⟨y, hy, h1, h2⟩ := loop_ends (b := F18.b1 b tries) (fun x => ∃ q : Nat, x.2.2.2 = (q : Int) ∧ q ≤ b.length ∧ Ch b x.1 x.2.1 q ∧ Tk b 0 x.2.2.1 q ∧ (tries < 1 → ∀ t ∈ x.2.2.1, t.2.1 = 0)) (fun x => ((b.length : Int) - x.2.2.2).toNat)
    (fun l => Tk b 0 l b.length ∧ (tries < 1 → ∀ t ∈ l, t.2.1 = 0)) (fun x hx => by
      obtain ⟨hd, ah, out, q⟩ := x
      obtain ⟨q, rfl, h1, h2, h3, h4⟩ := hx
      have hlen := tk_len h3
      by_cases hq : q < b.length
      · obtain ⟨hd', ah', t, e, c', g', _, _, z', _⟩ := step_is h2 hb hq tries ht out (by simp only at hlen; omega)
        have hw := g'.wd
        simp only at e ⊢
        rw [e]
        refine on_ (x := (hd, ah, out, (q : Int))) ⟨q + wd t, rfl, by omega, c', tk_snoc g' h3, fun h u hu => ?_⟩ (by simp only; omega)
        rcases List.mem_append.1 hu with hu | hu
        · exact h4 h u hu
        · rw [List.mem_singleton.1 hu]; exact z' h
      · simp only [F18.b1]
        rw [if_neg (by omega)]
        have : q = b.length := by omega
        subst this
        exact out_ (x := (hd, ah, out, (b.length : Int))) ⟨h3, h4⟩) (List.replicate (Int.toNat 4096) 0, List.replicate b.length 0, [], 0) ⟨0, rfl, by omega, ch_start b _ rfl, rfl, fun _ t ht => by simp at ht⟩
  rw [hy]
  exact ⟨y, rfl, h1, h2⟩
end Go.Proofs.Ytpophpendlnehaa
