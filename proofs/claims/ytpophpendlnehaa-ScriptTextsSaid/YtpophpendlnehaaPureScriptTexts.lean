/- What ScriptTexts needs. -/
import Derived.Test.YtpophpendlnehaaYScriptTexts
import Derived.Test.YtpophpendlnehaaEngLp
import Derived.Test.YtpophpendlnehaaEngLaw
set_option linter.unusedVariables false
set_option linter.unusedSimpArgs false
namespace Go.Proofs.Ytpophpendlnehaa
open Go Go.Eng Go.Proofs
/-! ### Bytes as a text -/
def dig (n : Int) : Int := if n < 10 then 48 + n else 87 + n
def val (c : Int) : Int := if 48 ≤ c ∧ c ≤ 57 then c - 48 else if 97 ≤ c ∧ c ≤ 102 then c - 87 else -1
def hexb (v : Int) : List Int := [dig (v / 16), dig (v % 16)]
def hex (x : List Int) : List Int := x.flatMap hexb
theorem shr4 : ∀ v : Nat, v < 256 → shrI .u8 (v : Int) 4 = ((v / 16 : Nat) : Int) := by decide +kernel
theorem and15 : ∀ v : Nat, v < 256 → andI .u8 (v : Int) 15 = ((v % 16 : Nat) : Int) := by decide +kernel
theorem btD : ∀ n : Nat, n < 16 → bt (⟨#[48, 49, 50, 51, 52, 53, 54, 55, 56, 57, 97, 98, 99, 100, 101, 102]⟩ : ByteArray) (n : Int) = dig (n : Int) := by decide +kernel
theorem idxD : ∀ c : Nat, c < 256 → idxB (⟨#[48, 49, 50, 51, 52, 53, 54, 55, 56, 57, 97, 98, 99, 100, 101, 102]⟩ : ByteArray) (c : Int) = val (c : Int) := by decide +kernel
theorem joinD : ∀ h : Nat, h < 16 → ∀ l : Nat, l < 16 → IntKind.wrap .u8 (orI .i64 (shlI .i64 (h : Int) 4) (l : Int)) = 16 * (h : Int) + (l : Int) := by decide +kernel
theorem val_dig : ∀ n : Nat, n < 16 → val (dig (n : Int)) = (n : Int) := by decide +kernel
theorem val_rng {c : Int} : val c = -1 ∨ (0 ≤ val c ∧ val c < 16) := by
  unfold val
  repeat' split
  all_goals omega
theorem value61 (c : Int) (hc : 0 ≤ c ∧ c ≤ 255) : F61.m c = some (if val c = -1 then (0, false) else (val c, true)) := by
  unfold F61.m
  by_cases h1 : 48 ≤ c ∧ c ≤ 57
  · have e : val c = c - 48 := by unfold val; rw [if_pos h1]
    rw [e, if_pos h1.1, if_pos h1.2, if_neg (show ¬ c - 48 = -1 by omega), w8 (by omega) (by omega)]
  · by_cases h2 : 97 ≤ c ∧ c ≤ 102
    · have e : val c = c - 87 := by unfold val; rw [if_neg h1, if_pos h2]
      rw [e, if_pos (show 48 ≤ c by omega), if_neg (show ¬ c ≤ 57 by omega), if_pos h2.1, if_pos h2.2, if_neg (show ¬ c - 87 = -1 by omega), w8 (n := c - 97) (by omega) (by omega), w8 (by omega) (by omega), show c - 97 + 10 = c - 87 by omega]
    · have e : val c = -1 := by unfold val; rw [if_neg h1, if_neg h2]
      rw [e, if_pos rfl]
      by_cases h3 : 48 ≤ c
      · rw [if_pos h3, if_neg (show ¬ c ≤ 57 by omega)]
        by_cases h4 : 97 ≤ c
        · rw [if_pos h4, if_neg (show ¬ c ≤ 102 by omega)]
        · rw [if_neg h4]
      · rw [if_neg h3, if_neg (show ¬ 97 ≤ c by omega)]
theorem bt_in (s : ByteArray) (i : Int) : 0 ≤ bt s i ∧ bt s i ≤ 255 := by
  unfold bt
  have := (s.data.getD i.toNat 0).toNat_lt
  omega
theorem bt_str (l : List Int) (hl : ∀ x ∈ l, 0 ≤ x ∧ x ≤ 255) (i : Nat) (hi : i < l.length) : bt (strOfNums l) (i : Int) = gd l (i : Int) := by
  have hb := hl _ (gd_mem l i hi)
  rw [gd_at l i hi] at hb ⊢
  unfold bt strOfNums
  simp only [Int.toNat_natCast]
  have : ((l.map fun n => UInt8.ofNat n.toNat).toArray).getD i 0 = UInt8.ofNat (l[i]).toNat := by
    rw [Array.getD_eq_getD_getElem?]
    simp [hi]
  rw [this]
  simp only [UInt8.toNat_ofNat']
  omega
theorem str_app (a b : List Int) : strOfNums a ++ strOfNums b = strOfNums (a ++ b) := by
  unfold strOfNums
  apply ByteArray.ext
  simp
theorem hex_len (x : List Int) : (hex x).length = 2 * x.length := by
  unfold hex hexb
  induction x with
  | nil => rfl
  | cons v x ih => simp only [List.flatMap_cons, List.length_append, List.length_cons, ih]; simp; omega
theorem hex_snoc (x : List Int) (v : Int) : hex (x ++ [v]) = hex x ++ hexb v := by simp [hex]
theorem dig_in {n : Int} (h : 0 ≤ n ∧ n < 16) : 0 ≤ dig n ∧ dig n ≤ 255 := by unfold dig; split <;> omega
theorem hex_in {x : List Int} (hx : ∀ v ∈ x, 0 ≤ v ∧ v ≤ 255) : ∀ c ∈ hex x, 0 ≤ c ∧ c ≤ 255 := fun c hc => by
  obtain ⟨v, hv, hc⟩ := List.mem_flatMap.1 hc
  have := hx v hv
  simp only [hexb, List.mem_cons, List.not_mem_nil, or_false] at hc
  rcases hc with rfl | rfl
  · exact dig_in (by omega)
  · exact dig_in (by omega)
theorem hex_at (x : List Int) (j : Nat) (hj : j < x.length) : gd (hex x) ((2 * j : Nat) : Int) = dig (gd x (j : Int) / 16) ∧ gd (hex x) ((2 * j + 1 : Nat) : Int) = dig (gd x (j : Int) % 16) := by
  have e : hex x = hex (x.take j) ++ (hexb (gd x (j : Int)) ++ hex (x.drop (j + 1))) := by
    conv => lhs; rw [← List.take_append_drop j x, drop_gd x j hj]
    simp [hex]
  have hl : (hex (x.take j)).length = 2 * j := by rw [hex_len, List.length_take]; omega
  rw [e]
  constructor
  · rw [gd_append_right _ _ _ (by omega), hl, Nat.sub_self, gd_append_left _ _ _ (by simp [hexb])]; rfl
  · rw [gd_append_right _ _ _ (by omega), hl, show 2 * j + 1 - 2 * j = 1 by omega, gd_append_left _ _ _ (by simp [hexb])]; rfl
theorem write2 (b : Bool) (l : List Int) (c : Int) (hl : l.length ≤ 100000) : F58_2.m b l c = some (l ++ [c]) := by
  unfold F58_2.m F71_2.m
  rw [show (if b = true then some () else some ()) = some () by split <;> rfl, Option.bind_some, if_pos (by simp; omega)]
theorem write1 (l : List Int) (c : Int) (hl : l.length ≤ 100000) : F58_1.m l c = some (l ++ [c]) := by
  unfold F58_1.m F71_1.m
  rw [Option.bind_some, if_pos (by simp; omega)]
theorem hex21 (x : List Int) (hx : ∀ v ∈ x, 0 ≤ v ∧ v ≤ 255) (hl : x.length ≤ 2000) : F21.m x = some (strOfNums (if x = [] then [46] else hex x)) := by
  unfold F21.m
  by_cases h0 : x = []
  · subst h0; rw [if_pos (by rfl), if_pos rfl]; rfl
  have hp : 0 < x.length := List.length_pos_iff.2 h0
  rw [if_neg (by omega), if_neg h0]
  obtain ⟨y, hy, hQ⟩ := loop_ends (b := F21.b1 x) (fun s => ∃ i : Nat, s.2.2 = (i : Int) ∧ i ≤ x.length ∧ s.2.1 = hex (x.take i)) (fun s => ((x.length : Int) - s.2.2).toNat)
    (fun y => y.2 = hex x) (fun s hs => by
      obtain ⟨b, l, i⟩ := s
      obtain ⟨i, rfl, hi, rfl⟩ := hs
      simp only [F21.b1]
      have hll := hex_len (x.take i)
      rw [List.length_take] at hll
      by_cases h : i < x.length
      · have hv := hx _ (gd_mem x i h)
        obtain ⟨v, hvv⟩ := nat_of hv.1
        rw [hvv] at hv
        rw [if_pos (by omega), if_pos (by omega), hvv, shr4 v (by omega), and15 v (by omega), if_pos (by omega), if_pos (by show ((v / 16 : Nat) : Int) < 16; omega), btD (v / 16) (by omega), write2 _ _ _ (by omega), Option.bind_some, if_pos (by omega), if_pos (by show ((v % 16 : Nat) : Int) < 16; omega), btD (v % 16) (by omega), write1 _ _ (by simp; omega), Option.bind_some, w64 (by omega) (by omega)]
        refine on_ (x := (b, hex (x.take i), (i : Int))) ⟨i + 1, rfl, by omega, ?_⟩ (by simp only; omega)
        simp only
        rw [take_gd x i h, hex_snoc, hvv, List.append_assoc]
        rfl
      · rw [if_neg (by omega), List.take_of_length_le (by omega)]
        exact out_ (x := (b, hex x, (i : Int))) rfl) (true, [], 0) ⟨0, rfl, by omega, rfl⟩
  obtain ⟨b, l⟩ := y
  simp only at hQ
  subst hQ
  have hll := hex_len x
  rw [hy, Option.bind_some]
  simp only [F21.j1, F59.m, F59.j1]
  rw [if_pos (by omega), if_pos ⟨by omega, hex_in hx⟩]
  rfl
theorem digit62 (n : Nat) (h : n < 16) : F62.m (n : Int) = some (strOfNums [dig (n : Int)]) := by
  unfold F62.m dig
  by_cases c : (n : Int) < 10
  · rw [if_pos c, if_pos c, w8 (by omega) (by omega)]
  · rw [if_neg c, if_neg c, w8 (n := 97 + (n : Int)) (by omega) (by omega), w8 (by omega) (by omega)]
    congr 3; omega
theorem hex24 (x : List Int) (hx : ∀ v ∈ x, 0 ≤ v ∧ v ≤ 255) (hl : x.length ≤ 2000) : F24.m x = some (strOfNums (if x = [] then [46] else hex x)) := by
  unfold F24.m
  by_cases h0 : x = []
  · subst h0; rw [if_pos (by rfl), if_pos rfl]; rfl
  have hp : 0 < x.length := List.length_pos_iff.2 h0
  rw [if_neg (by omega), if_neg h0]
  rw [loop_done (b := F24.b1 x) (x := ((⟨#[]⟩ : ByteArray), (0 : Int))) (fun i => (strOfNums (hex (x.take i)), (i : Int))) x.length (strOfNums (hex x)) (fun i hi => ?_) ?_ ?_]
  · rfl
  · simp only [F24.b1]
    rw [if_neg (by omega), List.take_length]
  · rfl
  · simp only [F24.b1]
    have hv := hx _ (gd_mem x i hi)
    obtain ⟨v, hvv⟩ := nat_of hv.1
    rw [hvv] at hv
    have hll := hex_len (x.take i)
    rw [List.length_take] at hll
    rw [if_pos (by omega), if_pos (by omega), hvv, show (16 : Int) = ((16 : Nat) : Int) from rfl, tdiv_nat, tmod_nat, w8 (by omega) (by omega), digit62 _ (by omega), Option.bind_some, if_pos (by rw [strOfNums_size, strOfNums_size]; simp; omega), digit62 _ (by omega), Option.bind_some, str_app, if_pos (by rw [strOfNums_size, strOfNums_size]; simp; omega), str_app, w64 (by omega) (by omega)]
    rw [take_gd x i hi, hex_snoc, hvv, List.append_assoc]
    rfl
/-! ### A text's bytes -/
def pok (s : ByteArray) (j : Nat) : Prop := val (bt s ((2 * j : Nat) : Int)) ≠ -1 ∧ val (bt s ((2 * j + 1 : Nat) : Int)) ≠ -1
def pby (s : ByteArray) (j : Nat) : Int := 16 * val (bt s ((2 * j : Nat) : Int)) + val (bt s ((2 * j + 1 : Nat) : Int))
def Res (s : ByteArray) (r : List Int × Bool) : Prop :=
  (s = ⟨#[46]⟩ ∧ r = ([], true)) ∨ (s ≠ ⟨#[46]⟩ ∧ s = ⟨#[]⟩ ∧ r = ([], false)) ∨ (s ≠ ⟨#[46]⟩ ∧ s ≠ ⟨#[]⟩ ∧ s.size % 2 = 1 ∧ r = ([], false)) ∨
    (s ≠ ⟨#[46]⟩ ∧ s ≠ ⟨#[]⟩ ∧ s.size % 2 = 0 ∧ ((∀ j, j < s.size / 2 → pok s j) ∧ r = ((List.range (s.size / 2)).map (pby s), true) ∨ (¬ ∀ j, j < s.size / 2 → pok s j) ∧ r = ([], false)))
theorem res_one {s : ByteArray} {r r' : List Int × Bool} (h : Res s r) (h' : Res s r') : r = r' := by
  unfold Res at h h'
  rcases h with ⟨a, b⟩ | ⟨a, a2, b⟩ | ⟨a, a2, a3, b⟩ | ⟨a, a2, a3, ⟨b1, b⟩ | ⟨b1, b⟩⟩ <;> rcases h' with ⟨c, d⟩ | ⟨c, c2, d⟩ | ⟨c, c2, c3, d⟩ | ⟨c, c2, c3, ⟨d1, d⟩ | ⟨d1, d⟩⟩ <;> first | exact absurd a c | exact absurd c a | exact absurd a2 c2 | exact absurd c2 a2 | omega | exact absurd b1 d1 | exact absurd d1 b1 | exact b.trans d.symm
theorem unhex22 (s : ByteArray) (hs : s.size ≤ 4000) : ∃ r, F22.m s = some r ∧ Res s r := by
  unfold F22.m
  by_cases h1 : s = ⟨#[46]⟩
  · rw [if_pos h1]; exact ⟨_, rfl, .inl ⟨h1, rfl⟩⟩
  rw [if_neg h1]
  by_cases h2 : s = ⟨#[]⟩
  · rw [if_pos h2]; exact ⟨_, rfl, .inr (.inl ⟨h1, h2, rfl⟩)⟩
  rw [if_neg h2, show (2 : Int) = ((2 : Nat) : Int) from rfl, tmod_nat]
  by_cases h3 : s.size % 2 = 1
  · rw [if_pos (by omega)]; exact ⟨_, rfl, .inr (.inr (.inl ⟨h1, h2, h3, rfl⟩))⟩
  rw [if_neg (by omega)]
  obtain ⟨y, hy, hQ⟩ := loop_ends (b := F22.b1 s) (fun t => ∃ j : Nat, t.2 = ((2 * j : Nat) : Int) ∧ j ≤ s.size / 2 ∧ t.1 = (List.range j).map (pby s) ∧ ∀ i, i < j → pok s i) (fun t => ((s.size : Int) - t.2).toNat)
    (fun y => (y = .inr ((List.range (s.size / 2)).map (pby s)) ∧ ∀ j, j < s.size / 2 → pok s j) ∨ (y = .inl ([], false) ∧ ¬ ∀ j, j < s.size / 2 → pok s j)) (fun t ht => by
      obtain ⟨l, i⟩ := t
      obtain ⟨j, rfl, hj, rfl, ha⟩ := ht
      simp only [F22.b1]
      by_cases h : j < s.size / 2
      · have c1 := bt_in s ((2 * j : Nat) : Int)
        have c2 := bt_in s ((2 * j + 1 : Nat) : Int)
        rw [if_pos (by omega), if_pos (by omega), if_pos (by omega), w64 (n := ((2 * j : Nat) : Int) + 1) (by omega) (by omega), if_pos (by omega), if_pos (by omega), show ((2 * j : Nat) : Int) + 1 = ((2 * j + 1 : Nat) : Int) by omega]
        obtain ⟨d1, e1⟩ := nat_of c1.1
        obtain ⟨d2, e2⟩ := nat_of c2.1
        have hpk : pok s j ↔ val (d1 : Int) ≠ -1 ∧ val (d2 : Int) ≠ -1 := by unfold pok; rw [e1, e2]
        have hpb : pby s j = 16 * val (d1 : Int) + val (d2 : Int) := by unfold pby; rw [e1, e2]
        rw [e1] at c1 ⊢
        rw [e2] at c2 ⊢
        unfold F60.m F72.m
        rw [Option.bind_some, Option.bind_some, Option.bind_some, Option.bind_some, idxD d1 (by omega), idxD d2 (by omega)]
        have r1 := val_rng (c := (d1 : Int))
        have r2 := val_rng (c := (d2 : Int))
        by_cases k1 : val (d1 : Int) < 0
        · rw [if_pos k1]; exact out_ (x := ((List.range j).map (pby s), ((2 * j : Nat) : Int))) (.inr ⟨rfl, fun h' => by have := hpk.1 (h' j h); omega⟩)
        rw [if_neg k1]
        by_cases k2 : val (d2 : Int) < 0
        · rw [if_pos k2]; exact out_ (x := ((List.range j).map (pby s), ((2 * j : Nat) : Int))) (.inr ⟨rfl, fun h' => by have := hpk.1 (h' j h); omega⟩)
        rw [if_neg k2, if_pos (by simp; omega), w64 (by omega) (by omega)]
        obtain ⟨n1, m1⟩ := nat_of (show 0 ≤ val (d1 : Int) by omega)
        obtain ⟨n2, m2⟩ := nat_of (show 0 ≤ val (d2 : Int) by omega)
        rw [m1, m2, joinD n1 (by omega) n2 (by omega)]
        refine on_ (x := ((List.range j).map (pby s), ((2 * j : Nat) : Int))) ⟨j + 1, by simp only; omega, by omega, ?_, fun i hi => ?_⟩ (by simp only; omega)
        · simp only
          rw [List.range_succ, List.map_append, List.map_singleton, hpb, m1, m2]
        · by_cases e : i = j
          · subst e; exact hpk.2 ⟨by omega, by omega⟩
          · exact ha i (by omega)
      · rw [if_neg (by omega)]
        obtain rfl : j = s.size / 2 := by omega
        exact out_ (x := ((List.range (s.size / 2)).map (pby s), ((2 * (s.size / 2) : Nat) : Int))) (.inl ⟨rfl, ha⟩)) ([], 0) ⟨0, rfl, by omega, rfl, fun i hi => by omega⟩
  rw [hy]
  rcases hQ with ⟨rfl, h⟩ | ⟨rfl, h⟩
  · exact ⟨_, rfl, .inr (.inr (.inr ⟨h1, h2, by omega, .inl ⟨h, rfl⟩⟩))⟩
  · exact ⟨_, rfl, .inr (.inr (.inr ⟨h1, h2, by omega, .inr ⟨h, rfl⟩⟩))⟩
theorem unhex23 (s : ByteArray) (hs : s.size ≤ 4000) : ∃ r, F23.m s = some r ∧ Res s r := by
  unfold F23.m
  by_cases h1 : s = ⟨#[46]⟩
  · rw [if_pos h1]; exact ⟨_, rfl, .inl ⟨h1, rfl⟩⟩
  rw [if_neg h1]
  by_cases h2 : s = ⟨#[]⟩
  · rw [if_pos h2]; exact ⟨_, rfl, .inr (.inl ⟨h1, h2, rfl⟩)⟩
  rw [if_neg h2, show (2 : Int) = ((2 : Nat) : Int) from rfl, tmod_nat]
  by_cases h3 : s.size % 2 = 1
  · rw [if_pos (by omega)]; exact ⟨_, rfl, .inr (.inr (.inl ⟨h1, h2, h3, rfl⟩))⟩
  rw [if_neg (by omega)]
  obtain ⟨y, hy, hQ⟩ := loop_ends (b := F23.b1 s) (fun t => ∃ j : Nat, t.2 = ((2 * j : Nat) : Int) ∧ j ≤ s.size / 2 ∧ t.1 = (List.range j).map (pby s) ∧ ∀ i, i < j → pok s i) (fun t => ((s.size : Int) - t.2).toNat)
    (fun y => (y = .inr ((List.range (s.size / 2)).map (pby s)) ∧ ∀ j, j < s.size / 2 → pok s j) ∨ (y = .inl ([], false) ∧ ¬ ∀ j, j < s.size / 2 → pok s j)) (fun t ht => by
      obtain ⟨l, i⟩ := t
      obtain ⟨j, rfl, hj, rfl, ha⟩ := ht
      simp only [F23.b1]
      by_cases h : j < s.size / 2
      · have c1 := bt_in s ((2 * j : Nat) : Int)
        have c2 := bt_in s ((2 * j + 1 : Nat) : Int)
        rw [if_pos (by omega), if_pos (by omega), if_pos (by omega), w64 (n := ((2 * j : Nat) : Int) + 1) (by omega) (by omega), value61 _ c1, Option.bind_some, if_pos (show 0 ≤ ((2 * j : Nat) : Int) + 1 by omega), if_pos (show ((2 * j : Nat) : Int) + 1 < (s.size : Int) by omega), show ((2 * j : Nat) : Int) + 1 = ((2 * j + 1 : Nat) : Int) by omega, value61 _ c2, Option.bind_some]
        have r1 := val_rng (c := bt s ((2 * j : Nat) : Int))
        have r2 := val_rng (c := bt s ((2 * j + 1 : Nat) : Int))
        by_cases k1 : val (bt s ((2 * j : Nat) : Int)) = -1
        · rw [if_pos k1, if_neg (by simp)]; exact out_ (x := ((List.range j).map (pby s), ((2 * j : Nat) : Int))) (.inr ⟨rfl, fun h' => (h' j h).1 k1⟩)
        rw [if_neg k1, if_pos rfl]
        by_cases k2 : val (bt s ((2 * j + 1 : Nat) : Int)) = -1
        · rw [if_pos k2, if_neg (by simp)]; exact out_ (x := ((List.range j).map (pby s), ((2 * j : Nat) : Int))) (.inr ⟨rfl, fun h' => (h' j h).2 k2⟩)
        rw [if_neg k2, if_pos rfl, if_pos (by simp; omega), w64 (by omega) (by omega), w8 (n := 16 * _) (by omega) (by omega), w8 (by simp only; omega) (by simp only; omega)]
        refine on_ (x := ((List.range j).map (pby s), ((2 * j : Nat) : Int))) ⟨j + 1, by simp only; omega, by omega, ?_, fun i hi => ?_⟩ (by simp only; omega)
        · simp only
          rw [List.range_succ, List.map_append, List.map_singleton]
          rfl
        · by_cases e : i = j
          · subst e; exact ⟨k1, k2⟩
          · exact ha i (by omega)
      · rw [if_neg (by omega)]
        obtain rfl : j = s.size / 2 := by omega
        exact out_ (x := ((List.range (s.size / 2)).map (pby s), ((2 * (s.size / 2) : Nat) : Int))) (.inl ⟨rfl, ha⟩)) ([], 0) ⟨0, rfl, by omega, rfl, fun i hi => by omega⟩
  rw [hy]
  rcases hQ with ⟨rfl, h⟩ | ⟨rfl, h⟩
  · exact ⟨_, rfl, .inr (.inr (.inr ⟨h1, h2, by omega, .inl ⟨h, rfl⟩⟩))⟩
  · exact ⟨_, rfl, .inr (.inr (.inr ⟨h1, h2, by omega, .inr ⟨h, rfl⟩⟩))⟩
theorem back (x : List Int) (hx : ∀ v ∈ x, 0 ≤ v ∧ v ≤ 255) : Res (strOfNums (if x = [] then [46] else hex x)) (x, true) := by
  by_cases h0 : x = []
  · subst h0; rw [if_pos rfl]; exact .inl ⟨rfl, rfl⟩
  have hp : 0 < x.length := List.length_pos_iff.2 h0
  rw [if_neg h0]
  have hsz : (strOfNums (hex x)).size = 2 * x.length := by rw [strOfNums_size, hex_len]
  have key : ∀ j, j < x.length → val (bt (strOfNums (hex x)) ((2 * j : Nat) : Int)) = gd x (j : Int) / 16 ∧ val (bt (strOfNums (hex x)) ((2 * j + 1 : Nat) : Int)) = gd x (j : Int) % 16 := fun j hj => by
    have hll := hex_len x
    obtain ⟨a1, a2⟩ := hex_at x j hj
    have hv := hx _ (gd_mem x j hj)
    rw [bt_str _ (hex_in hx) _ (by omega), bt_str _ (hex_in hx) _ (by omega), a1, a2]
    obtain ⟨v, hvv⟩ := nat_of hv.1
    rw [hvv] at hv ⊢
    rw [show (v : Int) / 16 = ((v / 16 : Nat) : Int) by omega, show (v : Int) % 16 = ((v % 16 : Nat) : Int) by omega]
    exact ⟨val_dig _ (by omega), val_dig _ (by omega)⟩
  refine .inr (.inr (.inr ⟨fun h => ?_, fun h => ?_, by omega, .inl ⟨fun j hj => ?_, ?_⟩⟩))
  · have := congrArg ByteArray.size h; rw [hsz] at this; have e : (⟨#[46]⟩ : ByteArray).size = 1 := rfl; omega
  · have := congrArg ByteArray.size h; rw [hsz] at this; have e : (⟨#[]⟩ : ByteArray).size = 0 := rfl; omega
  · have hv := hx _ (gd_mem x j (by omega))
    obtain ⟨a1, a2⟩ := key j (by omega)
    exact ⟨by rw [a1]; omega, by rw [a2]; omega⟩
  · rw [hsz, show 2 * x.length / 2 = x.length by omega]
    congr 1
    refine ext_gd (by simp) (fun j hj => ?_)
    obtain ⟨a1, a2⟩ := key j hj
    rw [gd_map _ _ _ hj]
    unfold pby
    rw [a1, a2]
    omega
theorem awake20 : F20.m = some true := by
  unfold F20.m
  rw [hex21 _ (by decide) (by decide), Option.bind_some, if_neg (by decide)]
  congr 1
theorem pure_ScriptTexts (a0 : (List Int)) (a1 : ByteArray) (w0 : ∀ x ∈ a0, InR .u8 x) (m0 : a0.length ≤ maxLen) (w1 : (a1).size ≤ maxLen) :
    F6.m a0 a1 = some true := by
  unfold F6.m
  by_cases c1 : (2000 : Int) < (a0.length : Int)
  · rw [if_pos c1, awake20]; rfl
  rw [if_neg c1]
  by_cases c2 : (2000 : Int) < (a1.size : Int)
  · rw [if_pos c2, awake20]; rfl
  rw [if_neg c2]
  have hx : ∀ v ∈ a0, 0 ≤ v ∧ v ≤ 255 := fun v hv => by have := inU8 (w0 v hv); omega
  rw [hex21 a0 hx (by omega), Option.bind_some]
  have hsz : (strOfNums (if a0 = [] then [46] else hex a0)).size ≤ 4000 := by
    rw [strOfNums_size]
    split
    · simp
    · rw [hex_len]; omega
  obtain ⟨r, e, h⟩ := unhex22 _ hsz
  obtain ⟨r1, e1, h1⟩ := unhex22 a1 (by omega)
  obtain ⟨r2, e2, h2⟩ := unhex23 a1 (by omega)
  have hr := res_one h (back a0 hx)
  have hr2 := res_one h1 h2
  subst hr hr2
  rw [e, Option.bind_some, e1, Option.bind_some, e2, Option.bind_some, hex24 a0 hx (by omega), Option.bind_some, if_pos rfl, if_pos rfl, if_pos rfl, if_pos rfl, if_pos (by simp), awake20]
  rfl
end Go.Proofs.Ytpophpendlnehaa
