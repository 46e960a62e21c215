/- What BitsWrites' printed function computes: true, whatever is put. -/
import Derived.Test.YtpophpendlnehaaPureBiKit
set_option linter.unusedVariables false
set_option linter.unusedSimpArgs false
namespace Go.Proofs.Ytpophpendlnehaa
open Go Go.Eng Go.Proofs

theorem great_is (l : List (Int × Int × Int × List Int)) (hl : l.length ≤ maxLen) : ∃ r, F25.m l = some r ∧ (r = false → l.length ≤ 100 ∧ ∀ o ∈ l, o.2.2.2.length ≤ 100) := by
  unfold F25.m
  by_cases h : (100 : Int) < (l.length : Int)
  · rw [if_pos h]; exact ⟨true, rfl, by simp⟩
  · rw [if_neg h]
    obtain ⟨y, hy, hq⟩ := loop_ends (b := F25.b1 l) (fun i => ∃ k : Nat, i = k ∧ k ≤ l.length ∧ ∀ j (hj : j < l.length), j < k → l[j].2.2.2.length ≤ 100) (fun i => l.length - i.toNat) (fun y => y = .inl true ∨ y = .inr () ∧ ∀ o ∈ l, o.2.2.2.length ≤ 100) (fun x hx => by
      obtain ⟨k, rfl, hk, hall⟩ := hx
      simp only [F25.b1]
      by_cases a : k < l.length
      · rw [if_pos (by omega), if_pos (by omega), gd_at _ _ a]
        by_cases c : (100 : Int) < (l[k].2.2.2.length : Int)
        · rw [if_pos c]
          exact ⟨_, rfl, fun x' h => by simp at h, fun y h => by simp at h; exact .inl h.symm⟩
        · rw [if_neg c]
          refine ⟨_, rfl, fun x' h => ?_, fun y h => by simp at h⟩
          simp only [Sum.inl.injEq] at h
          subst h
          rw [w64 (by omega) (by omega)]
          refine ⟨⟨k + 1, by simp, by omega, fun j hj hlt => ?_⟩, by omega⟩
          by_cases e : j = k
          · subst e; omega
          · exact hall j hj (by omega)
      · rw [if_neg (by omega)]
        refine ⟨_, rfl, fun x' h => by simp at h, fun y h => ?_⟩
        simp only [Sum.inr.injEq] at h
        refine .inr ⟨h.symm, fun o ho => ?_⟩
        obtain ⟨j, hj, rfl⟩ := List.mem_iff_getElem.1 ho
        exact hall j hj (by omega)) 0 ⟨0, rfl, by omega, fun j hj h => by omega⟩
    rw [hy]
    rcases hq with rfl | ⟨rfl, hall⟩
    · exact ⟨true, rfl, by simp⟩
    · exact ⟨false, rfl, fun _ => ⟨by omega, hall⟩⟩

theorem bits_awake : F26.m = some true := by
  unfold F26.m
  have a1 : F28.m [] 0 0 1 1 = some ([], 1, 1) := (put_is [] 0 0 1 1 (by simp) (by omega) (by omega) (by omega)).trans (by decide)
  have a2 : F28.m [] 1 1 2 2 = some ([], 5, 3) := (put_is [] 1 1 2 2 (by simp) (by omega) (by omega) (by omega)).trans (by decide)
  have a3 : F30.m [] 5 3 1 2 = some ([], 21, 5) := by
    unfold F30.m
    have e : minI (maxI 2 0) 32 = 2 := by decide
    rw [e, if_pos (by omega), show F63.m 1 = some ((rv 1 : Nat) : Int) from rv_is 1 (by omega), Option.bind_some, w64 (by omega) (by omega), if_pos (by omega),
      show shrI .u32 ((rv 1 : Nat) : Int) (32 - 2) = ((rv 1 >>> 30 : Nat) : Int) from shr_nat .u32 (rv 1) 30 (by decide), show rv 1 >>> 30 = 2 from by decide]
    rw [show F28.m [] 5 3 ((2 : Nat) : Int) 2 = some ([], 21, 5) from (put_is [] 5 3 2 2 (by simp) (by omega) (by omega) (by omega)).trans (by decide)]
    rfl
  have a4 : F37.m [] 21 5 = some [21] := by decide
  have a5 : F36.m [] 21 5 = some 5 := by decide
  simp only [F27.m, Option.bind_some, a1, a2, a3, a4, a5]
  decide

/-- A writer with the bits m. -/
structure Wr (b : List Int) (rest many : Nat) (m : List Int) : Prop where
  lt : rest < 2 ^ many
  l8 : many < 8
  u8 : ∀ y ∈ b, 0 ≤ y ∧ y ≤ 255
  is : bO b ++ bN rest many = m
theorem Wr.len {b : List Int} {rest many : Nat} {m : List Int} (h : Wr b rest many m) : m.length = 8 * b.length + many := by
  rw [← h.is, List.length_append, bO_len, bN_len]
theorem bytes_get {b : List Int} {rest many : Nat} {m : List Int} (h : Wr b rest many m) (hm : m.length ≤ 100000) : F37.m b rest many = some (b ++ if 0 < many then [(rest : Int)] else []) := by
  have hl := h.len
  have h1 := h.lt
  have h2 := h.l8
  have h3 : 2 ^ many ≤ 2 ^ 7 := Nat.pow_le_pow_right (by omega) (by omega)
  unfold F37.m F64.m
  rw [if_pos (by simp; omega), Option.bind_some]
  by_cases a : 0 < many
  · rw [if_pos (by omega), if_pos (by simp; omega), wrapU8, Nat.mod_eq_of_lt (by omega)]
    simp [F37.j1, a]
  · rw [if_neg (by omega)]
    simp [F37.j1, a]
theorem align_is {b : List Int} {rest many : Nat} {m : List Int} (h : Wr b rest many m) (hm : m.length ≤ 100000) :
    ∃ b' m', F32.m b rest many = some (b', 0, 0) ∧ F34.m m = some b' ∧ F33.m b' = some m' ∧ Wr b' 0 0 m' ∧ m'.length ≤ m.length + 8 := by
  have hl := h.len
  have h1 := h.lt
  have h2 := h.l8
  have hneg : ∀ q : Nat, q < 8 → andI .i64 (IntKind.wrap .i64 (0 - (q : Int))) 7 = (((8 - q) % 8 : Nat) : Int) := by decide
  have hcl : ∀ q : Nat, q < 8 → cl (q : Int) = q := by decide
  obtain ⟨rest', many', bs, hp, h3, h4, h5, h6, h7⟩ := put_bits b rest many 0 (((8 - many) % 8 : Nat) : Int) (by omega) h1 h2 (by omega)
  have hpow : 2 ^ many ≤ 2 ^ 7 := Nat.pow_le_pow_right (by omega) (by omega)
  rw [hcl _ (by omega)] at h7
  have hlen := congrArg List.length h7
  simp only [List.length_append, bO_len, bN_len] at hlen
  have hmz : many' = 0 := by omega
  subst hmz
  have hrz : rest' = 0 := by simpa using h3
  subst hrz
  have hu : ∀ y ∈ b ++ bs, 0 ≤ y ∧ y ≤ 255 := fun y hy => (List.mem_append.1 hy).elim (h.u8 y) (h6 y)
  have hbl : (b ++ bs).length = b.length + bs.length := List.length_append
  have hof := of_is (b ++ bs) (by omega) hu
  refine ⟨b ++ bs, bO (b ++ bs), ?_, ?_, hof, ⟨by simp, by omega, hu, by simp⟩, by rw [bO_len]; omega⟩
  · unfold F32.m
    rw [hneg _ h2]
    have hp' : F28.m b rest many 0 (((8 - many) % 8 : Nat) : Int) = some (b ++ bs, 0, 0) := hp
    rw [hp']
    rfl
  · have hb := bytes_of b rest many (by omega) h.u8 h2 h1
    rw [h.is] at hb
    rw [hb]
    congr 1
    have hx : bO (b ++ bs) = bO (b ++ if 0 < many then [(rest : Int)] else []) := by
      rw [bN_zero, List.append_nil] at h7
      rw [h7, bO_append, List.append_assoc]
      congr 1
      by_cases a : 0 < many
      · have e : (8 - many) % 8 = 8 - many := by omega
        rw [e, ← bN_low rest many (8 - many) h1]
        simp [a, bO_one]
        congr 1
        omega
      · have : many = 0 := by omega
        subst this
        simp
    -- bytes of the same bits are the same
    have hu2 : ∀ y ∈ (b ++ if 0 < many then [(rest : Int)] else []), 0 ≤ y ∧ y ≤ 255 := fun y hy => by
      rcases List.mem_append.1 hy with hy | hy
      · exact h.u8 y hy
      · split at hy
        · simp at hy; omega
        · simp at hy
    have b1 := bytes_of (b ++ bs) 0 0 (by omega) hu (by omega) (by simp)
    have b2 := bytes_of (b ++ if 0 < many then [(rest : Int)] else []) 0 0 (by simp; split <;> simp <;> omega) hu2 (by omega) (by simp)
    rw [hx] at b1
    simpa using Option.some.inj (b2.symm.trans b1)

theorem wr_len {b : List Int} {rest many : Nat} {m : List Int} (h : Wr b rest many m) (hm : m.length ≤ 200000) : F36.m b rest many = some (m.length : Int) := by
  have hl := h.len
  have h2 := h.l8
  unfold F36.m
  rw [w64 (n := 8 * (b.length : Int)) (by omega) (by omega), w64 (by omega) (by omega)]
  congr 1
  omega
theorem wr_put {b : List Int} {rest many x : Nat} {m : List Int} (n : Int) (h : Wr b rest many m) (hm : m.length ≤ 100000) (hx : x < 2 ^ 32) :
    ∃ b' : List Int, ∃ rest' many' : Nat, F28.m b rest many x n = some (b', (rest' : Int), (many' : Int)) ∧ Wr b' rest' many' (m ++ bN x (cl n)) := by
  have hl := h.len
  obtain ⟨rest', many', bs, hp, h3, h4, h5, h6, h7⟩ := put_bits b rest many x n (by omega) h.lt h.l8 hx
  exact ⟨b ++ bs, rest', many', hp, h3, h4, fun y hy => (List.mem_append.1 hy).elim (h.u8 y) (h6 y), by rw [h7, h.is]⟩
theorem wr_code {b : List Int} {rest many x : Nat} {m : List Int} (n : Int) (h : Wr b rest many m) (hm : m.length ≤ 100000) (hx : x < 2 ^ 32) :
    ∃ b' : List Int, ∃ rest' many' : Nat, F30.m b rest many x n = some (b', (rest' : Int), (many' : Int)) ∧ Wr b' rest' many' (m ++ (bN x (cl n)).reverse) := by
  have hl := h.len
  obtain ⟨rest', many', bs, hp, h3, h4, h5, h6, h7⟩ := code_is b rest many x n (by omega) h.lt h.l8 hx
  exact ⟨b ++ bs, rest', many', hp, h3, h4, fun y hy => (List.mem_append.1 hy).elim (h.u8 y) (h6 y), by rw [h7, h.is]⟩
theorem ref_code (x : Nat) (n : Int) : F31.m x n = some (bN x (cl n)).reverse := by
  unfold F31.m
  rw [number_is, Option.bind_some]
  generalize hN : bN x (cl n) = l
  have hl : l.length ≤ 32 := by rw [← hN, bN_len]; exact (cl_is n).2
  rw [w64 (by omega) (by omega), loop_done (fun k => ((l.drop (l.length - k)).reverse, (l.length : Int) - 1 - k)) l.length l.reverse (fun k hk => ?_) ?_ (by simp)]
  · rfl
  · simp only [F31.b1]
    rw [if_neg (by omega)]
    simp
  · simp only [F31.b1]
    have e : (l.length : Int) - 1 - k = ((l.length - 1 - k : Nat) : Int) := by omega
    rw [if_pos (by omega), if_pos (by omega), e, gd_at _ _ (by omega), if_pos (by simp; omega), w64 (by omega) (by omega)]
    have e2 : l.drop (l.length - (k + 1)) = l[l.length - 1 - k] :: l.drop (l.length - k) := by
      rw [List.drop_eq_getElem_cons (by omega)]
      have e3 : l.length - (k + 1) = l.length - 1 - k := by omega
      have e4 : l.length - (k + 1) + 1 = l.length - k := by omega
      rw [e4]
      congr 1
      simp only [e3]
    rw [e2, List.reverse_cons, show (((l.length - 1 - k : Nat) : Int) - 1) = (l.length : Int) - 1 - ((k + 1 : Nat) : Int) from by omega]
theorem pure_BitsWrites (a0 : List (Int × Int × Int × (List Int))) (w0 : ∀ x ∈ a0, (InR .i64 x.1 ∧ InR .i64 x.2.1 ∧ InR .u32 x.2.2.1 ∧ ((∀ y ∈ x.2.2.2, InR .u8 y) ∧ (x.2.2.2).length ≤ maxLen))) (m0 : a0.length ≤ maxLen) :
    F7.m a0 = some true := by
  unfold F7.m
  obtain ⟨r, hr, hall⟩ := great_is a0 m0
  rw [hr, Option.bind_some, bits_awake]
  cases r with
  | true => rfl
  | false =>
    obtain ⟨h100, hB⟩ := hall rfl
    rw [if_neg (by simp)]
    simp only [F27.m, Option.bind_some]
    obtain ⟨y, hy, hq⟩ := loop_ends (b := F7.b1 a0) (fun s => ∃ k : Nat, s.2.2.2.2 = k ∧ k ≤ a0.length ∧ ∃ rest many : Nat, s.2.1 = rest ∧ s.2.2.1 = many ∧ Wr s.1 rest many s.2.2.2.1 ∧ s.2.2.2.1.length ≤ 1000 * k) (fun s => a0.length - s.2.2.2.2.toNat)
      (fun y => ∃ b : List Int, ∃ rest many : Nat, ∃ m : List Int, y = .inr (b, (rest : Int), (many : Int), m) ∧ Wr b rest many m ∧ m.length ≤ 100000) (fun s hs => by
      obtain ⟨b, rI, mI, m, kI⟩ := s
      obtain ⟨k, rfl, hk, rest, many, rfl, rfl, hw, hm⟩ := hs
      simp only at hw hm
      simp only [F7.b1]
      by_cases a : k < a0.length
      · rw [if_pos (by omega), if_pos (by omega), gd_at _ _ a]
        have ho := w0 _ (List.getElem_mem a)
        have hoB := hB _ (List.getElem_mem a)
        generalize a0[k] = o at ho hoB
        obtain ⟨kind, n, x, B⟩ := o
        simp only at ho hoB
        obtain ⟨_, hn, hx, hu, _⟩ := ho
        have hx := inU32 hx
        obtain ⟨x, rfl⟩ : ∃ q : Nat, x = (q : Int) := ⟨x.toNat, by omega⟩
        have hcl := (cl_is n).2
        -- a step's end
        have fin : ∀ (b' : List Int) (rest' many' : Nat) (m' : List Int), Wr b' rest' many' m' → m'.length ≤ m.length + 1000 → ∃ s, F7.j2 k b' rest' many' m' = some s ∧ (∀ x', s = .inl x' → (∃ k : Nat, x'.2.2.2.2 = k ∧ k ≤ a0.length ∧ ∃ rest many : Nat, x'.2.1 = rest ∧ x'.2.2.1 = many ∧ Wr x'.1 rest many x'.2.2.2.1 ∧ x'.2.2.2.1.length ≤ 1000 * k) ∧ a0.length - x'.2.2.2.2.toNat < a0.length - ((k : Int)).toNat) ∧
            (∀ y, s = .inr y → ∃ b : List Int, ∃ rest many : Nat, ∃ m : List Int, y = .inr (b, (rest : Int), (many : Int), m) ∧ Wr b rest many m ∧ m.length ≤ 100000) := fun b' rest' many' m' hw' hm' => by
          unfold F7.j2
          rw [wr_len hw' (by omega), Option.bind_some, if_pos rfl, w64 (by omega) (by omega)]
          refine ⟨_, rfl, fun x' h => ?_, fun y h => by simp at h⟩
          simp only [Sum.inl.injEq] at h
          subst h
          exact ⟨⟨k + 1, by simp, by omega, rest', many', rfl, rfl, hw', by simp only; omega⟩, by simp only; omega⟩
        by_cases k0 : kind = 0
        · rw [if_pos k0]
          obtain ⟨b', rest', many', hp, hw'⟩ := wr_put n hw (by omega) (show x < 2 ^ 32 by omega)
          rw [hp, Option.bind_some, number_is, Option.bind_some, if_pos (by simp; omega)]
          exact fin _ _ _ _ hw' (by simp; omega)
        · rw [if_neg k0]
          by_cases k1 : kind = 1
          · rw [if_pos k1]
            obtain ⟨b', rest', many', hp, hw'⟩ := wr_code n hw (by omega) (show x < 2 ^ 32 by omega)
            rw [hp, Option.bind_some, ref_code, Option.bind_some, if_pos (by simp; omega)]
            exact fin _ _ _ _ hw' (by simp; omega)
          · rw [if_neg k1]
            obtain ⟨b', m', h1, h2, h3, hw', hl'⟩ := align_is hw (by omega)
            by_cases k2 : kind = 2
            · rw [if_pos k2, h1, Option.bind_some, h2, Option.bind_some, h3, Option.bind_some]
              exact fin _ _ _ _ hw' (by omega)
            · rw [if_neg k2]
              have hu' : ∀ y ∈ B, 0 ≤ y ∧ y ≤ 255 := fun y hy => inU8 (hu y hy)
              have hbl := hw'.len
              unfold F35.m
              rw [h1, Option.bind_some, if_pos (by simp only; omega), Option.bind_some, h2, Option.bind_some, h3, Option.bind_some, of_is B (by omega) hu', Option.bind_some, if_pos (by rw [bO_len]; omega)]
              refine fin (b' ++ B) 0 0 _ ⟨by simp, by omega, fun y hy => (List.mem_append.1 hy).elim (hw'.u8 y) (hu' y), ?_⟩ (by rw [List.length_append, bO_len]; omega)
              rw [← hw'.is, bO_append]
              simp
      · rw [if_neg (by omega)]
        refine ⟨_, rfl, fun x' h => by simp at h, fun y h => ?_⟩
        simp only [Sum.inr.injEq] at h
        exact ⟨b, rest, many, m, h.symm, hw, by omega⟩) ([], 0, 0, [], 0) ⟨0, rfl, by omega, 0, 0, rfl, rfl, ⟨by simp, by omega, by simp, by simp⟩, by simp⟩
    rw [hy, Option.bind_some]
    obtain ⟨b, rest, many, m, rfl, hw, hm⟩ := hq
    simp only [F7.j1]
    have hb := bytes_of b rest many (by have := hw.len; omega) hw.u8 hw.l8 hw.lt
    rw [hw.is] at hb
    rw [bytes_get hw hm, hb]
    simp [bits_awake]
end Go.Proofs.Ytpophpendlnehaa
