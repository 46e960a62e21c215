/- What HuffBack needs. -/
import Derived.Test.YtpophpendlnehaaPureHufN
import Derived.Test.YtpophpendlnehaaYHuffBack
set_option linter.unusedVariables false
set_option linter.unusedSimpArgs false
namespace Go.Proofs.Ytpophpendlnehaa
open Go Go.Eng Go.Proofs
/-! ### What is written by codes -/
def wb (xs : List Int) (ws : List Int) : List Int := ws.flatMap (fun s => cw (cd xs s.toNat) (gd xs s).toNat)
theorem wb_snoc (xs ws : List Int) (s : Int) : wb xs (ws ++ [s]) = wb xs ws ++ cw (cd xs s.toNat) (gd xs s).toNat := by simp [wb]
theorem wb_len (xs : List Int) (hx : Good15 xs) (ws : List Int) (hw : ∀ s ∈ ws, ∃ k : Nat, s = (k : Int) ∧ k < xs.length ∧ gd xs (k : Int) ≠ 0) : (wb xs ws).length ≤ 15 * ws.length := by
  induction ws with
  | nil => simp [wb]
  | cons s ws ih =>
    have h1 := ih (fun t ht => hw t (by simp [ht]))
    obtain ⟨k, rfl, hk, _⟩ := hw s (by simp)
    have h2 := hx _ (gd_mem xs k hk)
    have e : wb xs ((k : Int) :: ws) = cw (cd xs k) (gd xs (k : Int)).toNat ++ wb xs ws := by simp [wb]
    rw [e, List.length_append, cw_len, List.length_cons]
    omega
/-- A code that begins a row of bits stands there. -/
theorem stands (xs : List Int) (hx : Good15 xs) (hm : may xs = true) (k n : Nat) (hk : k < xs.length) (hn : gd xs (k : Int) = (n : Int)) (h0 : n ≠ 0) (r : List Int) (h01 : b01 (cw (cd xs k) n ++ r)) : Mt xs (cw (cd xs k) n ++ r) k := by
  have h15 : n ≤ 15 := by have := hx _ (gd_mem xs k hk); omega
  have hc := (code_eq hx hm k n hk hn h0 h15).2
  have hl : n ≤ (cw (cd xs k) n ++ r).length := by rw [List.length_append, cw_len]; omega
  refine ⟨by rw [hn]; omega, by rw [hn, Int.toNat_natCast]; exact hl, ?_⟩
  unfold Sm
  rw [hn, Int.toNat_natCast, Nat.min_eq_left hl, ← (V_same (cw_01 (cd xs k) n) h01 n (by rw [cw_len]; omega) hl).2 (fun i hi => (gd_append_left _ _ _ (by rw [cw_len]; exact hi)).symm), V_cw _ _ hc n (Nat.le_refl _)]
theorem wr_loop (xs : List Int) (hl : xs.length ≤ 300) (hx : Good15 xs) (hm : may xs = true) (sym : List Int) (hs : sym.length ≤ 100) (hsu : ∀ y ∈ sym, 0 ≤ y ∧ y ≤ 65535) :
    ∃ (b : List Int) (rest many : Nat) (ws : List Int), loop (F14.b2 xs sym (codes xs, 0)) ([], 0, 0, [], 0) = some (b, (rest : Int), (many : Int), ws) ∧ ws.length ≤ 100 ∧ (∀ s ∈ ws, ∃ k : Nat, s = (k : Int) ∧ k < xs.length ∧ gd xs (k : Int) ≠ 0) ∧ rest < 2 ^ many ∧ many < 8 ∧ (∀ y ∈ b, 0 ≤ y ∧ y ≤ 255) ∧ bO b ++ bN rest many = wb xs ws := by
  obtain ⟨y, hy, b, rest, many, ws, rfl, h⟩ := loop_ends (b := F14.b2 xs sym (codes xs, 0)) (fun x => ∃ (b : List Int) (rest many : Nat) (ws : List Int) (k : Nat), x = (b, (rest : Int), (many : Int), ws, (k : Int)) ∧ k ≤ sym.length ∧ ws.length ≤ k ∧ (∀ s ∈ ws, ∃ k : Nat, s = (k : Int) ∧ k < xs.length ∧ gd xs (k : Int) ≠ 0) ∧ rest < 2 ^ many ∧ many < 8 ∧ (∀ y ∈ b, 0 ≤ y ∧ y ≤ 255) ∧ bO b ++ bN rest many = wb xs ws) (fun x => (100 - x.2.2.2.2).toNat)
    (fun y => ∃ (b : List Int) (rest many : Nat) (ws : List Int), y = (b, (rest : Int), (many : Int), ws) ∧ ws.length ≤ 100 ∧ (∀ s ∈ ws, ∃ k : Nat, s = (k : Int) ∧ k < xs.length ∧ gd xs (k : Int) ≠ 0) ∧ rest < 2 ^ many ∧ many < 8 ∧ (∀ y ∈ b, 0 ≤ y ∧ y ≤ 255) ∧ bO b ++ bN rest many = wb xs ws) (fun x hx' => by
      obtain ⟨b, rest, many, ws, k, rfl, h1, h2, h3, h4, h5, h6, h7⟩ := hx'
      have hcl : (codes xs).length = xs.length := by simp [codes]
      simp only [F14.b2]
      by_cases hk : k < sym.length
      · rw [if_pos (by omega), if_pos (by omega)]
        obtain ⟨s, hs'⟩ := nat_of (hsu _ (gd_mem sym k hk)).1
        have hsb := (hsu _ (gd_mem sym k hk)).2
        rw [hs'] at hsb ⊢
        rw [w64 (n := (s : Int)) (by omega) (by omega)]
        by_cases c1 : (xs.length : Int) ≤ (s : Int)
        · rw [if_pos c1]
          simp only [F14.j3]
          rw [w64 (by omega) (by omega)]
          exact on_ (x := (b, (rest : Int), (many : Int), ws, (k : Int))) ⟨b, rest, many, ws, k + 1, rfl, by omega, by omega, h3, h4, h5, h6, h7⟩ (by simp only; omega)
        · rw [if_neg c1, if_pos (by omega)]
          by_cases c2 : gd xs (s : Int) = 0
          · rw [if_pos c2]
            simp only [F14.j3]
            rw [w64 (by omega) (by omega)]
            exact on_ (x := (b, (rest : Int), (many : Int), ws, (k : Int))) ⟨b, rest, many, ws, k + 1, rfl, by omega, by omega, h3, h4, h5, h6, h7⟩ (by simp only; omega)
          · rw [if_neg c2, if_pos (by omega)]
            have hsl : s < xs.length := by omega
            obtain ⟨n, hn⟩ := nat_of (hx _ (gd_mem xs s hsl)).1
            have h15 : n ≤ 15 := by have := hx _ (gd_mem xs s hsl); omega
            obtain ⟨e1, e2⟩ := code_eq hx hm s n hsl hn (by omega) h15
            have hp := pow15 n h15
            have hcg : gd (codes xs) (s : Int) = code xs s := gd_map _ _ _ hsl
            have hwl := wb_len xs hx ws h3
            have hbl : (bO b ++ bN rest many).length = 8 * b.length + many := by rw [List.length_append, bO_len, bN_len]
            rw [h7] at hbl
            obtain ⟨rest', many', bs, f1, f2, f3, f4, f5, f6⟩ := code_is b rest many (cd xs s) (n : Int) (by omega) h4 h5 (by omega)
            have hcl' : cl (n : Int) = n := by have := (cl_is (n : Int)).1; unfold minI maxI at this; split at this <;> split at this <;> omega
            rw [hcg, e1, w32 (by omega) (by omega), hn, w64 (n := (n : Int)) (by omega) (by omega), f1, Option.bind_some, if_pos (by simp; omega)]
            simp only [F14.j3]
            rw [w64 (by omega) (by omega)]
            refine on_ (x := (b, (rest : Int), (many : Int), ws, (k : Int))) ⟨b ++ bs, rest', many', ws ++ [(s : Int)], k + 1, rfl, by omega, by simp; omega, fun t ht => ?_, f2, f3, fun y hy => (List.mem_append.1 hy).elim (h6 y) (f5 y), ?_⟩ (by simp only; omega)
            · rcases List.mem_append.1 ht with ht | ht
              · exact h3 t ht
              · exact ⟨s, List.mem_singleton.1 ht, hsl, c2⟩
            · rw [f6, h7, hcl', wb_snoc, Int.toNat_natCast, hn, Int.toNat_natCast]
              rfl
      · rw [if_neg (by omega)]
        exact out_ (x := (b, (rest : Int), (many : Int), ws, (k : Int))) ⟨b, rest, many, ws, rfl, by omega, h3, h4, h5, h6, h7⟩) ([], 0, 0, [], 0) ⟨[], 0, 0, [], 0, rfl, by omega, by simp, fun s hs => by simp at hs, by omega, by omega, fun y hy => by simp at hy, by simp [wb]⟩
  exact ⟨b, rest, many, ws, hy, h⟩
theorem pure_HuffBack (a0 : (List Int)) (a1 : (List Int)) (w0 : ∀ x ∈ a0, InR .u8 x) (m0 : a0.length ≤ maxLen) (w1 : ∀ x ∈ a1, InR .u16 x) (m1 : a1.length ≤ maxLen) :
    F14.m a0 a1 = some true := by
  have hu : ∀ y ∈ a1, 0 ≤ y ∧ y ≤ 65535 := fun y hy => inU16 (w1 y hy)
  have h00 : ∀ y ∈ a0, 0 ≤ y := fun y hy => (inU8 (w0 y hy)).1
  unfold F14.m
  by_cases h1 : (300 : Int) < (a0.length : Int)
  · rw [if_pos h1, huff_awake]; rfl
  rw [if_neg h1]
  by_cases h2 : (100 : Int) < (a1.length : Int)
  · rw [if_pos h2, huff_awake]; rfl
  rw [if_neg h2]
  by_cases hx : Good15 a0
  · rw [F50_good a0 (by omega) hx, Option.bind_some]
    by_cases hm : may a0 = true
    · have hcl : (codes a0).length = a0.length := by simp [codes]
      rw [if_pos hm, F48_is a0 (by omega) hx hm, Option.bind_some, F49_tab a0 (by omega) hx hm, Option.bind_some]
      simp only
      rw [if_pos trivial, if_pos trivial, hcl, if_pos rfl, show F27.m = some () from rfl, Option.bind_some]
      obtain ⟨b, rest, many, ws, e, k1, k2, k3, k4, k5, k6⟩ := wr_loop a0 (by omega) hx hm a1 (by omega) hu
      rw [e, Option.bind_some]
      simp only [F14.j1]
      have hwl := wb_len a0 hx ws k2
      have hbl : (bO b ++ bN rest many).length = 8 * b.length + many := by rw [List.length_append, bO_len, bN_len]
      rw [k6] at hbl
      have hr7 : 2 ^ many ≤ 2 ^ 7 := Nat.pow_le_pow_right (by omega) (by omega)
      obtain ⟨B, hB, hBu, hBl, r, hBo⟩ : ∃ B, F37.m b rest many = some B ∧ (∀ y ∈ B, 0 ≤ y ∧ y ≤ 255) ∧ B.length ≤ b.length + 1 ∧ ∃ r, bO B = wb a0 ws ++ r := by
        unfold F37.m F64.m
        rw [if_pos (by simp; omega), Option.bind_some]
        by_cases hm0 : (0 : Int) < (many : Int)
        · rw [if_pos hm0, wrapU8, Nat.mod_eq_of_lt (by omega), if_pos (by simp; omega)]
          refine ⟨_, rfl, fun y hy => ?_, by simp, bN 0 (8 - many), ?_⟩
          · rcases List.mem_append.1 hy with hy | hy
            · exact k5 y hy
            · rw [List.mem_singleton.1 hy]; omega
          · have := bN_low rest many (8 - many) k3
            rw [show many + (8 - many) = 8 by omega] at this
            rw [bO_append, bO_one, Int.toNat_natCast, this, ← List.append_assoc, k6]
        · rw [if_neg hm0]
          refine ⟨_, rfl, k5, by omega, [], ?_⟩
          have : many = 0 := by omega
          subst this
          simpa using k6
      rw [hB, Option.bind_some, reader_is B (by omega), Option.bind_some]
      have hB01 := b01_bO B
      have hB8 := bO_len B
      have hlen : (wb a0 ws).length ≤ (bO B).length := by rw [hBo, List.length_append]; omega
      obtain ⟨y, hy, rfl⟩ := loop_ends (b := F14.b1 (mkA 16 (fst a0), mkA 16 (Ytpophpendlnehaa.many a0), mkA 16 (fr a0), sy a0 15) ws B) (fun x => ∃ k : Nat, x = (((wb a0 (ws.take k)).length : Int), (k : Int)) ∧ k ≤ ws.length) (fun x => (100 - x.2).toNat)
        (fun y => y = .inr ((wb a0 ws).length : Int)) (fun x hx' => by
          obtain ⟨k, rfl, hk⟩ := hx'
          simp only [F14.b1]
          by_cases hk' : k < ws.length
          · obtain ⟨s, hs, hsl, hs0⟩ := k2 _ (gd_mem ws k hk')
            obtain ⟨n, hn⟩ := nat_of (hx _ (gd_mem a0 s hsl)).1
            have e1 : wb a0 ws = wb a0 (ws.take k) ++ (cw (cd a0 s) n ++ wb a0 (ws.drop (k + 1))) := by
              conv => lhs; rw [← List.take_append_drop k ws, drop_gd ws k hk', hs]
              simp [wb, hn]
            have e2 : wb a0 (ws.take (k + 1)) = wb a0 (ws.take k) ++ cw (cd a0 s) n := by
              rw [take_gd ws k hk', hs, wb_snoc, Int.toNat_natCast, hn, Int.toNat_natCast]
            have e3 : (bO B).drop (wb a0 (ws.take k)).length = cw (cd a0 s) n ++ (wb a0 (ws.drop (k + 1)) ++ r) := by
              rw [hBo, e1, List.append_assoc, List.drop_left, List.append_assoc]
            have hle : (wb a0 (ws.take k)).length ≤ (bO B).length := by rw [hBo, e1]; simp
            have hst := stands a0 hx hm s n hsl hn (by omega) (wb a0 (ws.drop (k + 1)) ++ r) (by rw [← e3]; exact b01_drop hB01 _)
            rw [← e3] at hst
            obtain ⟨f1, f2⟩ := next_hit a0 (by omega) hx hm B (by omega) hBu (wb a0 (ws.take k)).length (by omega) s n hsl hn hst
            rw [if_pos (by omega), f1, Option.bind_some, if_pos (by omega), hs, if_pos rfl, if_pos rfl, w64 (by omega) (by omega)]
            refine on_ (x := (((wb a0 (ws.take k)).length : Int), (k : Int))) ⟨k + 1, ?_, by omega⟩ (by simp only; omega)
            rw [e2, List.length_append, cw_len]
            rfl
          · rw [if_neg (by omega), List.take_of_length_le (by omega)]
            exact out_ (x := (((wb a0 ws).length : Int), (k : Int))) rfl) (0, 0) ⟨0, by simp [wb], by omega⟩
      rw [hy, Option.bind_some]
      simp only [F14.j2]
      rw [show F46.m B ((wb a0 ws).length : Int) = some () from rfl, Option.bind_some]
      unfold F36.m
      rw [Option.bind_some, w64 (n := 8 * (b.length : Int)) (by omega) (by omega), w64 (by omega) (by omega), if_pos (by omega), huff_awake]
      rfl
    · rw [if_neg hm, huff_awake]; rfl
  · rw [F50_bad a0 h00 (fun h => hx h.2), Option.bind_some, if_neg (by simp), huff_awake]; rfl
end Go.Proofs.Ytpophpendlnehaa
