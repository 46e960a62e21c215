/- What the bits functions compute, for the plain laws: putting, codes, bytes, getting. -/
import Derived.Test.YtpophpendlnehaaBit
import Derived.Test.YtpophpendlnehaaEngBits
set_option linter.unusedVariables false
set_option linter.unusedSimpArgs false
namespace Go.Proofs.Ytpophpendlnehaa
open Go Go.Eng Go.Proofs

/-! ### Put -/
def byt (v i : Nat) : Int := ((v >>> (8 * i) % 256 : Nat) : Int)
def byts (v k : Nat) : List Int := (List.range k).map (byt v)
@[simp] theorem byts_len (v k : Nat) : (byts v k).length = k := by simp [byts]
theorem bO_byts (v k : Nat) : bO (byts v k) = bN v (8 * k) := by
  induction k with
  | zero => rfl
  | succ k ih =>
    have e : byts v (k + 1) = byts v k ++ [byt v k] := by simp [byts, List.range_succ]
    rw [e, bO_append, ih, Nat.mul_succ, bN_add, bO_one]
    congr 1
    have h1 : (byt v k).toNat = v >>> (8 * k) % 2 ^ 8 := Int.toNat_natCast _
    rw [h1, bN_mod _ _ _ (Nat.le_refl _)]
def cl (n : Int) : Nat := (minI (maxI n 0) 32).toNat
theorem cl_is (n : Int) : minI (maxI n 0) 32 = (cl n : Int) ∧ cl n ≤ 32 := by
  unfold cl minI maxI
  split <;> split <;> omega
def pv (rest many x n : Nat) : Nat := rest ||| (x % 2 ^ n) <<< many
theorem pv_lt (rest many x n : Nat) (h : rest < 2 ^ many) : pv rest many x n < 2 ^ (many + n) := by
  unfold pv
  refine Nat.or_lt_two_pow (Nat.lt_of_lt_of_le h (Nat.pow_le_pow_right (by omega) (by omega))) ?_
  rw [Nat.shiftLeft_eq, Nat.pow_add, Nat.mul_comm]
  exact Nat.mul_lt_mul_of_pos_left (Nat.mod_lt _ (Nat.pow_pos (by omega))) (Nat.pow_pos (by omega))
theorem pv_bits (rest many x n : Nat) (h : rest < 2 ^ many) : bN (pv rest many x n) (many + n) = bN rest many ++ bN x n := by
  unfold pv
  rw [bN_or _ _ _ _ h, bN_mod _ _ _ (Nat.le_refl _)]
theorem mask (k : IntKind) (hk : k = .u64) (n : Nat) (h : n ≤ 32) : IntKind.wrap .u64 (shlI .u64 1 n - 1) = ((2 ^ n - 1 : Nat) : Int) := by
  have h1 : shlI .u64 1 n = ((2 ^ n : Nat) : Int) := by
    have := shl_nat .u64 1 n (by simp [IntKind.bits]; omega)
    rw [show ((1 : Nat) : Int) = 1 from rfl] at this
    rw [this, Nat.one_shiftLeft, wrapU64, Nat.mod_eq_of_lt (Nat.pow_lt_pow_right (by omega) (by omega) : 2 ^ n < 2 ^ 64)]
  have h2 : 1 ≤ 2 ^ n := Nat.pow_pos (by omega)
  have h3 : 2 ^ n ≤ 2 ^ 32 := Nat.pow_le_pow_right (by omega) h
  rw [h1, wu64 (by omega) (by omega)]
  omega
theorem put_is (b : List Int) (rest many x : Nat) (n : Int) (hb : b.length ≤ 1000000) (hr : rest < 2 ^ many) (hm : many < 8) (hx : x < 2 ^ 32) :
    F28.m b rest many x n = some (b ++ byts (pv rest many x (cl n)) ((many + cl n) / 8), ((pv rest many x (cl n) >>> (8 * ((many + cl n) / 8)) : Nat) : Int), (((many + cl n) % 8 : Nat) : Int)) := by
  obtain ⟨h1, h2⟩ := cl_is n
  unfold F28.m
  rw [h1]
  generalize cl n = m at *
  have e1 : IntKind.wrap .u64 ((x : Nat) : Int) = ((x : Nat) : Int) := by rw [wrapU64, Nat.mod_eq_of_lt (Nat.lt_of_lt_of_le hx (by omega))]
  have hrest : rest < 2 ^ 64 := Nat.lt_of_lt_of_le hr (Nat.pow_le_pow_right (by omega) (by omega))
  have hm2 : x % 2 ^ m < 2 ^ m := Nat.mod_lt _ (Nat.pow_pos (by omega))
  have hm3 : (x % 2 ^ m) <<< many < 2 ^ (m + many) := by
    rw [Nat.shiftLeft_eq, Nat.pow_add]
    exact Nat.mul_lt_mul_of_pos_right hm2 (Nat.pow_pos (by omega))
  have hm4 : 2 ^ (m + many) ≤ 2 ^ 64 := Nat.pow_le_pow_right (by omega) (by omega)
  rw [if_pos (by omega), if_pos (by omega), mask _ rfl m h2, e1, andU64 _ _ (Nat.lt_of_lt_of_le hx (by omega)) (by have : 2 ^ m ≤ 2 ^ 32 := Nat.pow_le_pow_right (by omega) h2; omega), Nat.and_two_pow_sub_one_eq_mod, shl_nat _ _ _ (by simp [IntKind.bits]; omega), wrapU64,
    Nat.mod_eq_of_lt (Nat.lt_of_lt_of_le hm3 hm4), orU64 _ _ hrest (Nat.lt_of_lt_of_le hm3 hm4), w64 (by omega) (by omega)]
  change ((loop F28.b1 (b, ((pv rest many x m : Nat) : Int), (many : Int) + (m : Int))).bind _) = _
  have hv := pv_lt rest many x m hr
  have hv2 : 2 ^ (many + m) ≤ 2 ^ 64 := Nat.pow_le_pow_right (by omega) (by omega)
  generalize pv rest many x m = v at *
  rw [loop_done (fun k => (b ++ byts v k, ((v >>> (8 * k) : Nat) : Int), (many : Int) + m - 8 * k)) ((many + m) / 8) (b ++ byts v ((many + m) / 8), ((v >>> (8 * ((many + m) / 8)) : Nat) : Int), (((many + m) % 8 : Nat) : Int)) (fun k hk => ?_) ?_ (by simp [byts])]
  · rfl
  · simp only [F28.b1]
    rw [if_neg (by omega)]
    congr 4
    omega
  · simp only [F28.b1]
    rw [if_pos (by omega), if_pos (by simp; omega), w64 (by omega) (by omega), wrapU8]
    have e3 := shr_nat .u64 (v >>> (8 * k)) 8 (by simp [IntKind.bits])
    rw [show ((8 : Nat) : Int) = 8 from rfl] at e3
    rw [e3, ← Nat.shiftRight_add]
    have e2 : byts v (k + 1) = byts v k ++ [byt v k] := by simp [byts, List.range_succ]
    rw [e2, ← List.append_assoc]
    congr 4
    omega

theorem byts_u8 (v k : Nat) : ∀ y ∈ byts v k, 0 ≤ y ∧ y ≤ 255 := fun y hy => by
  unfold byts byt at hy
  obtain ⟨i, _, rfl⟩ := List.mem_map.1 hy
  omega
theorem shr_lt (v k T : Nat) (h : v < 2 ^ T) (hk : k ≤ T) : v >>> k < 2 ^ (T - k) := by
  rw [Nat.shiftRight_eq_div_pow]
  refine Nat.div_lt_of_lt_mul ?_
  rwa [← Nat.pow_add, Nat.add_sub_cancel' hk]
/-- The same, as bits. -/
theorem put_bits (b : List Int) (rest many x : Nat) (n : Int) (hb : b.length ≤ 1000000) (hr : rest < 2 ^ many) (hm : many < 8) (hx : x < 2 ^ 32) :
    ∃ rest' many' : Nat, ∃ bs : List Int, F28.m b rest many x n = some (b ++ bs, (rest' : Int), (many' : Int)) ∧ rest' < 2 ^ many' ∧ many' < 8 ∧ bs.length ≤ 5 ∧ (∀ y ∈ bs, 0 ≤ y ∧ y ≤ 255) ∧ bO (b ++ bs) ++ bN rest' many' = bO b ++ bN rest many ++ bN x (cl n) := by
  have h2 := (cl_is n).2
  refine ⟨_, _, _, put_is b rest many x n hb hr hm hx, ?_, by omega, by rw [byts_len]; omega, byts_u8 _ _, ?_⟩
  · have := shr_lt _ (8 * ((many + cl n) / 8)) _ (pv_lt rest many x (cl n) hr) (by omega)
    rwa [show many + cl n - 8 * ((many + cl n) / 8) = (many + cl n) % 8 from by omega] at this
  · rw [bO_append, bO_byts, List.append_assoc, List.append_assoc, ← bN_add, show 8 * ((many + cl n) / 8) + (many + cl n) % 8 = many + cl n from by omega, pv_bits _ _ _ _ hr]

/-! ### Codes: bits turned round -/
theorem sw_bit (x m s i : Nat) : ((((x >>> s) &&& m) ||| ((x &&& m) <<< s))).testBit i = ((x.testBit (s + i) && m.testBit i) || (decide (s ≤ i) && (x.testBit (i - s) && m.testBit (i - s)))) := by
  rw [Nat.testBit_or, Nat.testBit_and, Nat.testBit_shiftRight, Nat.testBit_shiftLeft, Nat.testBit_and]
/-- One step: x's bits in places s apart change theirs. -/
def sw (x m s : Nat) : Nat := (((x >>> s) &&& m) ||| ((x &&& m) <<< s)) % 2 ^ 32
theorem sw_is (x m s : Nat) (hx : x < 2 ^ 32) (hm : m < 2 ^ 32) (hs : s ≤ 32) :
    orI .u32 (andI .u32 (shrI .u32 x s) m) (shlI .u32 (andI .u32 x m) s) = ((sw x m s : Nat) : Int) := by
  have h1 : x >>> s < 2 ^ 32 := Nat.lt_of_le_of_lt (Nat.shiftRight_le _ _) hx
  rw [shr_nat _ _ _ (by simpa [IntKind.bits] using hs), andU32 _ _ h1 hm, andU32 _ _ hx hm, shl_nat _ _ _ (by simpa [IntKind.bits] using hs), wrapU32, orU32 _ _ (and_lt _ _ _ h1) (Nat.mod_lt _ (by omega))]
  congr 1
  unfold sw
  apply Nat.eq_of_testBit_eq
  intro i
  simp only [Nat.testBit_or, Nat.testBit_mod_two_pow]
  by_cases hi : i < 32
  · simp [hi]
  · have : ((x >>> s) &&& m).testBit i = false := by
      rw [Nat.testBit_and, show m.testBit i = false from Nat.testBit_lt_two_pow (Nat.lt_of_lt_of_le hm (Nat.pow_le_pow_right (by omega) (by omega)))]
      simp
    simp [hi, this]
theorem sw_lt (x m s : Nat) : sw x m s < 2 ^ 32 := Nat.mod_lt _ (by omega)
/-- Where a bit comes from. -/
def sf (m s i : Nat) : Nat := if m.testBit i then s + i else i - s
def sfok (m s : Nat) : Bool := (List.range 32).all fun i => m.testBit i && (decide (i < s) || !m.testBit (i - s)) || !m.testBit i && decide (s ≤ i) && m.testBit (i - s)
theorem sw_at (x m s : Nat) (h : sfok m s = true) (i : Nat) (hi : i < 32) : (sw x m s).testBit i = x.testBit (sf m s i) := by
  have h1 := List.all_eq_true.1 h i (by simpa using hi)
  unfold sw
  rw [Nat.testBit_mod_two_pow, sw_bit]
  unfold sf
  cases hm : m.testBit i
  · simp [hm] at h1
    simp [hi, h1]
  · simp [hm] at h1
    rcases h1 with h1 | h1
    · have : ¬ s ≤ i := by omega
      simp [hi, this]
    · simp [hi, h1]
def rv (x : Nat) : Nat := sw (sw (sw (sw (sw x 1431655765 1) 858993459 2) 252645135 4) 16711935 8) 65535 16
theorem last_sw (x : Nat) (hx : x < 2 ^ 32) : orI .u32 (shrI .u32 x 16) (shlI .u32 x 16) = ((sw x 65535 16 : Nat) : Int) := by
  have h1 := shr_nat .u32 x 16 (by simp [IntKind.bits])
  have h2 := shl_nat .u32 x 16 (by simp [IntKind.bits])
  have h3 : x >>> 16 < 2 ^ 32 := Nat.lt_of_le_of_lt (Nat.shiftRight_le _ _) hx
  rw [show ((16 : Nat) : Int) = 16 from rfl] at h1 h2
  rw [h1, h2, wrapU32, orU32 _ _ h3 (Nat.mod_lt _ (by omega))]
  congr 1
  unfold sw
  apply Nat.eq_of_testBit_eq
  intro i
  rw [show (65535 : Nat) = 2 ^ 16 - 1 from rfl, Nat.and_two_pow_sub_one_eq_mod, Nat.and_two_pow_sub_one_eq_mod]
  simp only [Nat.testBit_or, Nat.testBit_mod_two_pow, Nat.testBit_shiftRight, Nat.testBit_shiftLeft]
  have hb : ∀ j, 32 ≤ j → x.testBit j = false := fun j hj => Nat.testBit_lt_two_pow (Nat.lt_of_lt_of_le hx (Nat.pow_le_pow_right (by omega) hj))
  by_cases hi : i < 32
  · by_cases h16 : i < 16
    · have : ¬ 16 ≤ i := by omega
      simp [hi, h16, this]
    · have h5 : i - 16 < 16 := by omega
      rw [hb (16 + i) (by omega)]
      simp [hi, h5]
  · rw [hb (16 + i) (by omega)]
    simp [hi]
theorem rv_is (x : Nat) (hx : x < 2 ^ 32) : F63.m x = some ((rv x : Nat) : Int) := by
  unfold F63.m
  have e := fun (x m s : Nat) hx hm hs => sw_is x m s hx hm hs
  have e1 := sw_is x 1431655765 1 hx (by omega) (by omega)
  rw [show ((1431655765 : Nat) : Int) = 1431655765 from rfl, show ((1 : Nat) : Int) = 1 from rfl] at e1
  have e2 := sw_is (sw x 1431655765 1) 858993459 2 (sw_lt _ _ _) (by omega) (by omega)
  rw [show ((858993459 : Nat) : Int) = 858993459 from rfl, show ((2 : Nat) : Int) = 2 from rfl] at e2
  have e3 := sw_is (sw (sw x 1431655765 1) 858993459 2) 252645135 4 (sw_lt _ _ _) (by omega) (by omega)
  rw [show ((252645135 : Nat) : Int) = 252645135 from rfl, show ((4 : Nat) : Int) = 4 from rfl] at e3
  have e4 := sw_is (sw (sw (sw x 1431655765 1) 858993459 2) 252645135 4) 16711935 8 (sw_lt _ _ _) (by omega) (by omega)
  rw [show ((16711935 : Nat) : Int) = 16711935 from rfl, show ((8 : Nat) : Int) = 8 from rfl] at e4
  rw [e1, e2, e3]
  unfold F73.m
  rw [e4, last_sw _ (sw_lt _ _ _)]
  rfl
theorem rv_lt (x : Nat) : rv x < 2 ^ 32 := sw_lt _ _ _
theorem rv_at (x i : Nat) (hi : i < 32) : (rv x).testBit i = x.testBit (31 - i) := by
  have b : ∀ m s i, i < 32 → sf m s i < 32 ∨ True := fun _ _ _ _ => .inr trivial
  have k1 : ∀ i, i < 32 → sf 65535 16 i < 32 := by decide
  have k2 : ∀ i, i < 32 → sf 16711935 8 i < 32 := by decide
  have k3 : ∀ i, i < 32 → sf 252645135 4 i < 32 := by decide
  have k4 : ∀ i, i < 32 → sf 858993459 2 i < 32 := by decide
  have k : ∀ i, i < 32 → sf 1431655765 1 (sf 858993459 2 (sf 252645135 4 (sf 16711935 8 (sf 65535 16 i)))) = 31 - i := by decide
  unfold rv
  rw [sw_at _ _ _ (by decide) i hi, sw_at _ _ _ (by decide) _ (k1 i hi), sw_at _ _ _ (by decide) _ (k2 _ (k1 i hi)), sw_at _ _ _ (by decide) _ (k3 _ (k2 _ (k1 i hi))), sw_at _ _ _ (by decide) _ (k4 _ (k3 _ (k2 _ (k1 i hi)))), k i hi]
theorem rv_bits (x n : Nat) (hn : n ≤ 32) : bN (rv x >>> (32 - n)) n = (bN x n).reverse := by
  apply List.ext_getElem
  · simp
  · intro i h1 h2
    rw [bN_at, List.getElem_reverse, bN_at]
    simp at h1 h2
    unfold bt1
    rw [Nat.testBit_shiftRight, rv_at _ _ (by omega)]
    congr 3
    simp
    omega

theorem code_is (b : List Int) (rest many x : Nat) (n : Int) (hb : b.length ≤ 1000000) (hr : rest < 2 ^ many) (hm : many < 8) (hx : x < 2 ^ 32) :
    ∃ rest' many' : Nat, ∃ bs : List Int, F30.m b rest many x n = some (b ++ bs, (rest' : Int), (many' : Int)) ∧ rest' < 2 ^ many' ∧ many' < 8 ∧ bs.length ≤ 5 ∧ (∀ y ∈ bs, 0 ≤ y ∧ y ≤ 255) ∧ bO (b ++ bs) ++ bN rest' many' = bO b ++ bN rest many ++ (bN x (cl n)).reverse := by
  obtain ⟨h1, h2⟩ := cl_is n
  by_cases h0 : 0 < cl n
  · have hr32 := rv_lt x
    have hcl : cl ((cl n : Nat) : Int) = cl n := by have := cl_is (cl n : Int); unfold minI maxI at this; split at this <;> split at this <;> omega
    have hlt := pv_lt rest many (rv x >>> (32 - cl n)) (cl n) hr
    have hput := put_is b rest many (rv x >>> (32 - cl n)) (cl n : Int) hb hr hm (Nat.lt_of_le_of_lt (Nat.shiftRight_le _ _) hr32)
    rw [hcl] at hput
    refine ⟨pv rest many (rv x >>> (32 - cl n)) (cl n) >>> (8 * ((many + cl n) / 8)), (many + cl n) % 8, byts (pv rest many (rv x >>> (32 - cl n)) (cl n)) ((many + cl n) / 8), ?_, ?_, by omega, by rw [byts_len]; omega, byts_u8 _ _, ?_⟩
    · unfold F30.m
      rw [h1, if_pos (by omega), rv_is x hx, Option.bind_some, w64 (by omega) (by omega), if_pos (by omega)]
      have e : (32 : Int) - (cl n : Int) = ((32 - cl n : Nat) : Int) := by omega
      rw [e, shr_nat .u32 (rv x) (32 - cl n) (by simp [IntKind.bits]), hput]
      rfl
    · have := shr_lt _ (8 * ((many + cl n) / 8)) _ hlt (by omega)
      rwa [show many + cl n - 8 * ((many + cl n) / 8) = (many + cl n) % 8 from by omega] at this
    · rw [bO_append, bO_byts, List.append_assoc, List.append_assoc, ← bN_add, show 8 * ((many + cl n) / 8) + (many + cl n) % 8 = many + cl n from by omega, pv_bits _ _ _ _ hr, rv_bits x _ h2]
  · have e : cl n = 0 := by omega
    refine ⟨rest, many, [], ?_, hr, hm, by simp, by simp, ?_⟩
    · unfold F30.m
      rw [h1, e, if_neg (by simp)]
      simp [F30.j1]
    · rw [e]; simp

/-! ### The document's numbers, bytes -/
theorem number_is (x : Nat) (n : Int) : F29.m x n = some (bN x (cl n)) := by
  unfold F29.m
  have h : (cl n : Int) = minI (maxI n 0) 32 ∧ cl n ≤ 32 := ⟨(cl_is n).1.symm, (cl_is n).2⟩
  have h' : ((cl n : Int) = n ∨ n < 0 ∧ cl n = 0 ∨ 32 < n ∧ cl n = 32) := by
    obtain ⟨h1, _⟩ := h
    unfold minI maxI at h1
    split at h1 <;> split at h1 <;> omega
  rw [loop_done (fun k => (bN x k, (k : Int))) (cl n) (bN x (cl n)) (fun k hk => ?_) ?_ (by simp)]
  · rfl
  · simp only [F29.b1]
    by_cases a : (cl n : Int) < n
    · rw [if_pos a, if_neg (by omega)]
    · rw [if_neg a]
  · simp only [F29.b1]
    have e := shr_nat .u32 x k (by simp [IntKind.bits]; omega)
    rw [if_pos (by omega), if_pos (by omega), if_pos (by omega), if_pos (by simp; omega), w64 (by omega) (by omega), bN_succ, e, wrapU8, show (2 : Int) = ((2 : Nat) : Int) from rfl, tmod_nat]
    congr 4
    rw [bt1_div, Nat.shiftRight_eq_div_pow]
    simp
theorem of_is (b : List Int) (hb : b.length ≤ 1000000) (hu : ∀ y ∈ b, 0 ≤ y ∧ y ≤ 255) : F33.m b = some (bO b) := by
  unfold F33.m
  rw [loop_done (fun k => (bO (b.take k), (k : Int))) b.length (bO b) (fun k hk => ?_) ?_ (by simp)]
  · rfl
  · simp only [F33.b1]
    rw [if_neg (by omega), List.take_length]
  · simp only [F33.b1]
    rw [if_pos (by omega), if_pos (by omega), gd_at _ _ hk]
    have hy := hu _ (List.getElem_mem hk)
    obtain ⟨y, hyy⟩ : ∃ y : Nat, b[k] = (y : Int) := ⟨b[k].toNat, by omega⟩
    rw [hyy, wrapU32, Nat.mod_eq_of_lt (by omega), number_is]
    have h8 : cl 8 = 8 := by decide
    have hl := bO_len (b.take k)
    rw [List.length_take] at hl
    rw [h8, Option.bind_some, if_pos (by rw [bN_len]; omega), w64 (by omega) (by omega), take_succ' b k hk, bO_append, bO_one, hyy]
    rfl
/-! ### Bytes of bits -/
def pvl : List Int → Int
  | [] => 0
  | x :: xs => x + 2 * pvl xs
theorem pvl_append (a b : List Int) : pvl (a ++ b) = pvl a + 2 ^ a.length * pvl b := by
  induction a with
  | nil => simp [pvl]
  | cons x a ih => simp only [List.cons_append, pvl, ih, List.length_cons, Int.pow_succ]; grind
def b01 (l : List Int) : Prop := ∀ y ∈ l, y = 0 ∨ y = 1
theorem pvl_lt (l : List Int) (h : b01 l) : 0 ≤ pvl l ∧ pvl l < 2 ^ l.length := by
  induction l with
  | nil => simp [pvl]
  | cons x l ih =>
    have h1 := ih (fun y hy => h y (List.mem_cons_of_mem _ hy))
    have h2 := h x (by simp)
    simp only [pvl, List.length_cons, Int.pow_succ]
    omega
theorem pvl_bN (x n : Nat) : pvl (bN x n) = ((x % 2 ^ n : Nat) : Int) := by
  induction n with
  | zero => simp [pvl, Nat.mod_one]
  | succ n ih =>
    rw [bN_succ, pvl_append, ih, bN_len, bt1_div, Nat.mod_pow_succ]
    simp [pvl]
theorem b01_bN (x n : Nat) : b01 (bN x n) := fun y hy => by
  unfold bN at hy
  obtain ⟨i, _, rfl⟩ := List.mem_map.1 hy
  exact bt1_01 x i
theorem b01_bO (b : List Int) : b01 (bO b) := fun y hy => by
  unfold bO at hy
  obtain ⟨x, _, h⟩ := List.mem_flatMap.1 hy
  exact b01_bN _ _ y h
theorem b01_append {a b : List Int} (h : b01 a) (k : b01 b) : b01 (a ++ b) := fun y hy => (List.mem_append.1 hy).elim (h y) (k y)
def pck (l : List Int) (k : Nat) : List Int := (List.range ((k + 7) / 8)).map (fun j => pvl (((l.take k).drop (8 * j)).take 8))
theorem pck_len (l : List Int) (k : Nat) : (pck l k).length = (k + 7) / 8 := by simp [pck]
/-- A row of bits of bytes, as a number. -/
def rowV (B : List Int) (at_ n : Nat) : Nat := (pvl ((B.drop at_).take n)).toNat
theorem pvl_nat (l : List Int) (h : b01 l) : pvl l = ((pvl l).toNat : Int) := by have := pvl_lt l h; omega
theorem b01_drop {l : List Int} (h : b01 l) (k : Nat) : b01 (l.drop k) := fun y hy => h y (List.mem_of_mem_drop hy)
theorem b01_take {l : List Int} (h : b01 l) (k : Nat) : b01 (l.take k) := fun y hy => h y (List.mem_of_mem_take hy)
theorem rowV_lt (B : List Int) (h : b01 B) (at_ n : Nat) : rowV B at_ n < 2 ^ n := by
  have h1 := pvl_lt _ (b01_take (b01_drop h at_) n)
  have h2 : ((B.drop at_).take n).length ≤ n := List.length_take_le _ _
  have h3 : (2 : Nat) ^ ((B.drop at_).take n).length ≤ 2 ^ n := Nat.pow_le_pow_right (by omega) h2
  have h4 : pvl ((B.drop at_).take n) < ((2 ^ ((B.drop at_).take n).length : Nat) : Int) := by simpa using h1.2
  unfold rowV
  omega
theorem rowV_add (B : List Int) (h : b01 B) (at_ n m : Nat) (hl : at_ + n + m ≤ B.length) : rowV B at_ (n + m) = rowV B at_ n ||| (rowV B (at_ + n) m <<< n) := by
  have e : (B.drop at_).take (n + m) = (B.drop at_).take n ++ (B.drop (at_ + n)).take m := by rw [List.take_add, List.drop_drop]
  have hlen : ((B.drop at_).take n).length = n := by simp; omega
  have h1 := pvl_nat _ (b01_take (b01_drop h at_) n)
  have h2 := pvl_nat _ (b01_take (b01_drop h (at_ + n)) m)
  have hlt := rowV_lt B h at_ n
  have hp : pvl ((B.drop at_).take (n + m)) = ((rowV B at_ n + rowV B (at_ + n) m <<< n : Nat) : Int) := by
    rw [e, pvl_append, hlen, h1, h2, Nat.shiftLeft_eq]
    unfold rowV
    push_cast
    rw [Int.mul_comm]
  have h3 : rowV B at_ (n + m) = rowV B at_ n + rowV B (at_ + n) m <<< n := by
    conv => lhs; unfold rowV
    rw [hp, Int.toNat_natCast]
  rw [h3, Nat.add_comm, Nat.or_comm]
  exact Nat.shiftLeft_add_eq_or_of_lt hlt _
/-- Bits of one byte. -/
theorem rowV_byte (b : List Int) (hu : ∀ y ∈ b, 0 ≤ y ∧ y ≤ 255) (at_ m : Nat) (h : at_ < 8 * b.length) (hm : m ≤ 8 - at_ % 8) : rowV (bO b) at_ m = ((gd b ((at_ / 8 : Nat) : Int)).toNat >>> (at_ % 8)) % 2 ^ m := by
  have hj : at_ / 8 < b.length := by omega
  have e : bO b = bO (b.take (at_ / 8)) ++ (bN b[at_ / 8].toNat 8 ++ bO (b.drop (at_ / 8 + 1))) := by
    conv => lhs; rw [← List.take_append_drop (at_ / 8) b, List.drop_eq_getElem_cons hj]
    rw [bO_append]
    congr 1
  have hl : (bO (b.take (at_ / 8))).length = 8 * (at_ / 8) := by rw [bO_len]; simp; omega
  have e2 : (bO b).drop at_ = (bN b[at_ / 8].toNat 8).drop (at_ % 8) ++ bO (b.drop (at_ / 8 + 1)) := by
    have h0 : (bO b).drop at_ = ((bO b).drop (8 * (at_ / 8))).drop (at_ % 8) := by
      rw [List.drop_drop]
      congr 1
      omega
    rw [h0, e, ← hl, List.drop_left, List.drop_append_of_le_length (by simp; omega)]
  have e3 : ((bO b).drop at_).take m = bN (b[at_ / 8].toNat >>> (at_ % 8)) m := by
    rw [e2, List.take_append_of_le_length (by simp; omega)]
    apply List.ext_getElem
    · simp; omega
    · intro i h1 h2
      simp only [List.getElem_take, List.getElem_drop, bN_at, bt1, Nat.testBit_shiftRight]
  unfold rowV
  rw [e3, pvl_bN, Int.toNat_natCast, gd_at _ _ hj]
theorem get_is (b : List Int) (at_ : Nat) (n : Nat) (hb : b.length ≤ 1000000) (hu : ∀ y ∈ b, 0 ≤ y ∧ y ≤ 255) (hn : n ≤ 32) (h : at_ + n ≤ 8 * b.length) :
    F39.m b at_ n = some ((rowV (bO b) at_ n : Int), 0, ((at_ + n : Nat) : Int)) := by
  have hB := b01_bO b
  have hBl := bO_len b
  unfold F39.m F41.m
  rw [if_neg (by omega), if_neg (by omega), w64 (n := 8 * (b.length : Int)) (by omega) (by omega), w64 (by omega) (by omega), Option.bind_some, if_neg (by omega)]
  obtain ⟨y, hy, hq⟩ := loop_ends (b := F39.b1 b n) (fun s => ∃ g : Nat, g ≤ n ∧ s = (((at_ + g : Nat) : Int), ((rowV (bO b) at_ g : Nat) : Int), (g : Int))) (fun s => n - s.2.2.toNat) (fun y => y = (((rowV (bO b) at_ n : Nat) : Int), ((at_ + n : Nat) : Int))) (fun s hs => by
    obtain ⟨g, hg, rfl⟩ := hs
    simp only [F39.b1]
    by_cases a : g < n
    · have e8 : (8 : Int) = ((8 : Nat) : Int) := rfl
      rw [if_pos (by omega), e8, tdiv_nat, tmod_nat, w64 (n := (((at_ + g) / 8 : Nat) : Int)) (by omega) (by omega), if_pos (by omega), if_pos (by omega), w64 (n := ((8 : Nat) : Int) - (((at_ + g) % 8 : Nat) : Int)) (by omega) (by omega), w64 (n := (n : Int) - (g : Int)) (by omega) (by omega)]
      obtain ⟨m, hm, hm1, hm2, hm3⟩ : ∃ m : Nat, minI (((8 : Nat) : Int) - (((at_ + g) % 8 : Nat) : Int)) ((n : Int) - (g : Int)) = (m : Int) ∧ m ≤ 8 - (at_ + g) % 8 ∧ m ≤ n - g ∧ 0 < m := by
        unfold minI
        split
        · exact ⟨n - g, by omega, by omega, by omega, by omega⟩
        · exact ⟨8 - (at_ + g) % 8, by omega, by omega, by omega, by omega⟩
      rw [hm]
      have hbyte := hu _ (List.getElem_mem (show (at_ + g) / 8 < b.length by omega))
      have hrow := rowV_byte b hu (at_ + g) m (by omega) hm1
      rw [gd_at _ _ (by omega)] at hrow
      obtain ⟨v, hv⟩ : ∃ v : Nat, b[(at_ + g) / 8] = (v : Int) := ⟨b[(at_ + g) / 8].toNat, by omega⟩
      rw [hv, Int.toNat_natCast] at hrow
      rw [hv] at hbyte
      have hvs : v >>> ((at_ + g) % 8) ≤ v := Nat.shiftRight_le _ _
      rw [gd_at _ _ (by omega), hv, shr_nat _ _ _ (by simp [IntKind.bits]; omega), wrapU64, Nat.mod_eq_of_lt (by omega), mask _ rfl m (by omega), if_pos (by omega), if_pos (by omega)]
      have hp32 : 2 ^ m ≤ 2 ^ 32 := Nat.pow_le_pow_right (by omega) (by omega)
      rw [andU64 _ _ (by omega) (by omega), Nat.and_two_pow_sub_one_eq_mod, ← hrow]
      have hr2 := rowV_lt (bO b) hB (at_ + g) m
      have hr1 := rowV_lt (bO b) hB at_ g
      have hpg : 2 ^ g ≤ 2 ^ 64 := Nat.pow_le_pow_right (by omega) (by omega)
      have hsh : rowV (bO b) (at_ + g) m <<< g < 2 ^ 64 := by
        rw [Nat.shiftLeft_eq]
        refine Nat.lt_of_lt_of_le (Nat.mul_lt_mul_of_pos_right hr2 (Nat.pow_pos (by omega))) ?_
        rw [← Nat.pow_add]
        exact Nat.pow_le_pow_right (by omega) (by omega)
      rw [shl_nat _ _ _ (by simp [IntKind.bits]; omega), wrapU64, Nat.mod_eq_of_lt hsh, orU64 _ _ (by omega) hsh, ← rowV_add _ hB _ _ _ (by rw [hBl]; omega), w64 (by omega) (by omega), w64 (by omega) (by omega)]
      refine ⟨_, rfl, fun x' h => ?_, fun y h => by simp at h⟩
      simp only [Sum.inl.injEq] at h
      subst h
      refine ⟨⟨g + m, by omega, ?_⟩, by simp only; omega⟩
      rw [show ((at_ + (g + m) : Nat) : Int) = ((at_ + g : Nat) : Int) + m from by omega, show ((g + m : Nat) : Int) = (g : Int) + m from by omega]
    · have : g = n := by omega
      subst this
      rw [if_neg (by omega)]
      refine ⟨_, rfl, fun x' h => by simp at h, fun y h => ?_⟩
      simp only [Sum.inr.injEq] at h
      exact h.symm) ((at_ : Int), 0, 0) ⟨0, by omega, by simp [rowV, pvl]⟩
  rw [hy]
  subst hq
  have h32 := rowV_lt (bO b) hB at_ n
  have hp : 2 ^ n ≤ 2 ^ 32 := Nat.pow_le_pow_right (by omega) hn
  simp only [Option.bind_some, F39.j1]
  rw [wrapU32, Nat.mod_eq_of_lt (by omega)]
theorem reader_is (b : List Int) (hb : b.length ≤ 1000000) : F38.m b = some b := by
  unfold F38.m F64.m
  rw [if_pos (by simp; omega)]
  rfl
theorem bits_awake : F26.m = some true := by
  unfold F26.m
  have a1 : F28.m [] 0 0 1 1 = some ([], 1, 1) := (put_is [] 0 0 1 1 (by simp) (by omega) (by omega) (by omega)).trans (by decide)
  have a2 : F28.m [] 1 1 2 2 = some ([], 5, 3) := (put_is [] 1 1 2 2 (by simp) (by omega) (by omega) (by omega)).trans (by decide)
  have a3 : F30.m [] 5 3 1 2 = some ([], 21, 5) := by
    unfold F30.m
    have e : minI (maxI 2 0) 32 = 2 := by decide
    rw [e, if_pos (by omega), show F63.m 1 = some ((rv 1 : Nat) : Int) from rv_is 1 (by omega), Option.bind_some, w64 (by omega) (by omega), if_pos (by omega),
      show shrI .u32 ((rv 1 : Nat) : Int) (32 - 2) = ((rv 1 >>> 30 : Nat) : Int) from shr_nat .u32 (rv 1) 30 (by decide), show rv 1 >>> 30 = 2 from by decide]
    rw [show F28.m [] 5 3 ((2 : Nat) : Int) 2 = some ([], 21, 5) from (put_is [] 5 3 2 2 (by simp) (by omega) (by omega) (by omega)).trans (by decide)]
    rfl
  have a4 : F37.m [] 21 5 = some [21] := by decide
  have a5 : F36.m [] 21 5 = some 5 := by decide
  simp only [F27.m, Option.bind_some, a1, a2, a3, a4, a5]
  decide

end Go.Proofs.Ytpophpendlnehaa
