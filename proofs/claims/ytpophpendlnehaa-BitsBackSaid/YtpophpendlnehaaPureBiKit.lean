/- What the bits functions compute, for the plain laws: putting, codes, bytes, getting. -/
import Derived.Test.YtpophpendlnehaaBi
import Derived.Test.YtpophpendlnehaaEngBits
set_option linter.unusedVariables false
set_option linter.unusedSimpArgs false
namespace Go.Proofs.Ytpophpendlnehaa
open Go Go.Eng Go.Proofs

/-! ### Put -/
def byt (v i : Nat) : Int := ((v >>> (8 * i) % 256 : Nat) : Int)
def byts (v k : Nat) : List Int := (List.range k).map (byt v)
@[simp] theorem byts_len (v k : Nat) : (byts v k).length = k := by simp [byts]
theorem bO_byts (v k : Nat) : bO (byts v k) = bN v (8 * k) := by
  induction k with
  | zero => rfl
  | succ k ih =>
    have e : byts v (k + 1) = byts v k ++ [byt v k] := by simp [byts, List.range_succ]
    rw [e, bO_append, ih, Nat.mul_succ, bN_add, bO_one]
    congr 1
    have h1 : (byt v k).toNat = v >>> (8 * k) % 2 ^ 8 := Int.toNat_natCast _
    rw [h1, bN_mod _ _ _ (Nat.le_refl _)]
def cl (n : Int) : Nat := (minI (maxI n 0) 32).toNat
theorem cl_is (n : Int) : minI (maxI n 0) 32 = (cl n : Int) ∧ cl n ≤ 32 := by
  unfold cl minI maxI
  split <;> split <;> omega
def pv (rest many x n : Nat) : Nat := rest ||| (x % 2 ^ n) <<< many
theorem pv_lt (rest many x n : Nat) (h : rest < 2 ^ many) : pv rest many x n < 2 ^ (many + n) := by
  unfold pv
  refine Nat.or_lt_two_pow (Nat.lt_of_lt_of_le h (Nat.pow_le_pow_right (by omega) (by omega))) ?_
  rw [Nat.shiftLeft_eq, Nat.pow_add, Nat.mul_comm]
  exact Nat.mul_lt_mul_of_pos_left (Nat.mod_lt _ (Nat.pow_pos (by omega))) (Nat.pow_pos (by omega))
theorem pv_bits (rest many x n : Nat) (h : rest < 2 ^ many) : bN (pv rest many x n) (many + n) = bN rest many ++ bN x n := by
  unfold pv
  rw [bN_or _ _ _ _ h, bN_mod _ _ _ (Nat.le_refl _)]
theorem mask (k : IntKind) (hk : k = .u64) (n : Nat) (h : n ≤ 32) : IntKind.wrap .u64 (shlI .u64 1 n - 1) = ((2 ^ n - 1 : Nat) : Int) := by
  have h1 : shlI .u64 1 n = ((2 ^ n : Nat) : Int) := by
    have := shl_nat .u64 1 n (by simp [IntKind.bits]; omega)
    rw [show ((1 : Nat) : Int) = 1 from rfl] at this
    rw [this, Nat.one_shiftLeft, wrapU64, Nat.mod_eq_of_lt (Nat.pow_lt_pow_right (by omega) (by omega) : 2 ^ n < 2 ^ 64)]
  have h2 : 1 ≤ 2 ^ n := Nat.pow_pos (by omega)
  have h3 : 2 ^ n ≤ 2 ^ 32 := Nat.pow_le_pow_right (by omega) h
  rw [h1, wu64 (by omega) (by omega)]
  omega
theorem put_is (b : List Int) (rest many x : Nat) (n : Int) (hb : b.length ≤ 1000000) (hr : rest < 2 ^ many) (hm : many < 8) (hx : x < 2 ^ 32) :
    F28.m b rest many x n = some (b ++ byts (pv rest many x (cl n)) ((many + cl n) / 8), ((pv rest many x (cl n) >>> (8 * ((many + cl n) / 8)) : Nat) : Int), (((many + cl n) % 8 : Nat) : Int)) := by
  obtain ⟨h1, h2⟩ := cl_is n
  unfold F28.m
  rw [h1]
  generalize cl n = m at *
  have e1 : IntKind.wrap .u64 ((x : Nat) : Int) = ((x : Nat) : Int) := by rw [wrapU64, Nat.mod_eq_of_lt (Nat.lt_of_lt_of_le hx (by omega))]
  have hrest : rest < 2 ^ 64 := Nat.lt_of_lt_of_le hr (Nat.pow_le_pow_right (by omega) (by omega))
  have hm2 : x % 2 ^ m < 2 ^ m := Nat.mod_lt _ (Nat.pow_pos (by omega))
  have hm3 : (x % 2 ^ m) <<< many < 2 ^ (m + many) := by
    rw [Nat.shiftLeft_eq, Nat.pow_add]
    exact Nat.mul_lt_mul_of_pos_right hm2 (Nat.pow_pos (by omega))
  have hm4 : 2 ^ (m + many) ≤ 2 ^ 64 := Nat.pow_le_pow_right (by omega) (by omega)
  rw [if_pos (by omega), if_pos (by omega), mask _ rfl m h2, e1, andU64 _ _ (Nat.lt_of_lt_of_le hx (by omega)) (by have : 2 ^ m ≤ 2 ^ 32 := Nat.pow_le_pow_right (by omega) h2; omega), Nat.and_two_pow_sub_one_eq_mod, shl_nat _ _ _ (by simp [IntKind.bits]; omega), wrapU64,
    Nat.mod_eq_of_lt (Nat.lt_of_lt_of_le hm3 hm4), orU64 _ _ hrest (Nat.lt_of_lt_of_le hm3 hm4), w64 (by omega) (by omega)]
  change ((loop F28.b1 (b, ((pv rest many x m : Nat) : Int), (many : Int) + (m : Int))).bind _) = _
  have hv := pv_lt rest many x m hr
  have hv2 : 2 ^ (many + m) ≤ 2 ^ 64 := Nat.pow_le_pow_right (by omega) (by omega)
  generalize pv rest many x m = v at *
  rw [loop_done (fun k => (b ++ byts v k, ((v >>> (8 * k) : Nat) : Int), (many : Int) + m - 8 * k)) ((many + m) / 8) (b ++ byts v ((many + m) / 8), ((v >>> (8 * ((many + m) / 8)) : Nat) : Int), (((many + m) % 8 : Nat) : Int)) (fun k hk => ?_) ?_ (by simp [byts])]
  · rfl
  · simp only [F28.b1]
    rw [if_neg (by omega)]
    congr 4
    omega
  · simp only [F28.b1]
    rw [if_pos (by omega), if_pos (by simp; omega), w64 (by omega) (by omega), wrapU8]
    have e3 := shr_nat .u64 (v >>> (8 * k)) 8 (by simp [IntKind.bits])
    rw [show ((8 : Nat) : Int) = 8 from rfl] at e3
    rw [e3, ← Nat.shiftRight_add]
    have e2 : byts v (k + 1) = byts v k ++ [byt v k] := by simp [byts, List.range_succ]
    rw [e2, ← List.append_assoc]
    congr 4
    omega

theorem byts_u8 (v k : Nat) : ∀ y ∈ byts v k, 0 ≤ y ∧ y ≤ 255 := fun y hy => by
  unfold byts byt at hy
  obtain ⟨i, _, rfl⟩ := List.mem_map.1 hy
  omega
theorem shr_lt (v k T : Nat) (h : v < 2 ^ T) (hk : k ≤ T) : v >>> k < 2 ^ (T - k) := by
  rw [Nat.shiftRight_eq_div_pow]
  refine Nat.div_lt_of_lt_mul ?_
  rwa [← Nat.pow_add, Nat.add_sub_cancel' hk]
/-- The same, as bits. -/
theorem put_bits (b : List Int) (rest many x : Nat) (n : Int) (hb : b.length ≤ 1000000) (hr : rest < 2 ^ many) (hm : many < 8) (hx : x < 2 ^ 32) :
    ∃ rest' many' : Nat, ∃ bs : List Int, F28.m b rest many x n = some (b ++ bs, (rest' : Int), (many' : Int)) ∧ rest' < 2 ^ many' ∧ many' < 8 ∧ bs.length ≤ 5 ∧ (∀ y ∈ bs, 0 ≤ y ∧ y ≤ 255) ∧ bO (b ++ bs) ++ bN rest' many' = bO b ++ bN rest many ++ bN x (cl n) := by
  have h2 := (cl_is n).2
  refine ⟨_, _, _, put_is b rest many x n hb hr hm hx, ?_, by omega, by rw [byts_len]; omega, byts_u8 _ _, ?_⟩
  · have := shr_lt _ (8 * ((many + cl n) / 8)) _ (pv_lt rest many x (cl n) hr) (by omega)
    rwa [show many + cl n - 8 * ((many + cl n) / 8) = (many + cl n) % 8 from by omega] at this
  · rw [bO_append, bO_byts, List.append_assoc, List.append_assoc, ← bN_add, show 8 * ((many + cl n) / 8) + (many + cl n) % 8 = many + cl n from by omega, pv_bits _ _ _ _ hr]

/-! ### Codes: bits turned round -/
theorem sw_bit (x m s i : Nat) : ((((x >>> s) &&& m) ||| ((x &&& m) <<< s))).testBit i = ((x.testBit (s + i) && m.testBit i) || (decide (s ≤ i) && (x.testBit (i - s) && m.testBit (i - s)))) := by
  rw [Nat.testBit_or, Nat.testBit_and, Nat.testBit_shiftRight, Nat.testBit_shiftLeft, Nat.testBit_and]
/-- One step: x's bits in places s apart change theirs. -/
def sw (x m s : Nat) : Nat := (((x >>> s) &&& m) ||| ((x &&& m) <<< s)) % 2 ^ 32
theorem sw_is (x m s : Nat) (hx : x < 2 ^ 32) (hm : m < 2 ^ 32) (hs : s ≤ 32) :
    orI .u32 (andI .u32 (shrI .u32 x s) m) (shlI .u32 (andI .u32 x m) s) = ((sw x m s : Nat) : Int) := by
  have h1 : x >>> s < 2 ^ 32 := Nat.lt_of_le_of_lt (Nat.shiftRight_le _ _) hx
  rw [shr_nat _ _ _ (by simpa [IntKind.bits] using hs), andU32 _ _ h1 hm, andU32 _ _ hx hm, shl_nat _ _ _ (by simpa [IntKind.bits] using hs), wrapU32, orU32 _ _ (and_lt _ _ _ h1) (Nat.mod_lt _ (by omega))]
  congr 1
  unfold sw
  apply Nat.eq_of_testBit_eq
  intro i
  simp only [Nat.testBit_or, Nat.testBit_mod_two_pow]
  by_cases hi : i < 32
  · simp [hi]
  · have : ((x >>> s) &&& m).testBit i = false := by
      rw [Nat.testBit_and, show m.testBit i = false from Nat.testBit_lt_two_pow (Nat.lt_of_lt_of_le hm (Nat.pow_le_pow_right (by omega) (by omega)))]
      simp
    simp [hi, this]
theorem sw_lt (x m s : Nat) : sw x m s < 2 ^ 32 := Nat.mod_lt _ (by omega)
/-- Where a bit comes from. -/
def sf (m s i : Nat) : Nat := if m.testBit i then s + i else i - s
def sfok (m s : Nat) : Bool := (List.range 32).all fun i => m.testBit i && (decide (i < s) || !m.testBit (i - s)) || !m.testBit i && decide (s ≤ i) && m.testBit (i - s)
theorem sw_at (x m s : Nat) (h : sfok m s = true) (i : Nat) (hi : i < 32) : (sw x m s).testBit i = x.testBit (sf m s i) := by
  have h1 := List.all_eq_true.1 h i (by simpa using hi)
  unfold sw
  rw [Nat.testBit_mod_two_pow, sw_bit]
  unfold sf
  cases hm : m.testBit i
  · simp [hm] at h1
    simp [hi, h1]
  · simp [hm] at h1
    rcases h1 with h1 | h1
    · have : ¬ s ≤ i := by omega
      simp [hi, this]
    · simp [hi, h1]
def rv (x : Nat) : Nat := sw (sw (sw (sw (sw x 1431655765 1) 858993459 2) 252645135 4) 16711935 8) 65535 16
theorem last_sw (x : Nat) (hx : x < 2 ^ 32) : orI .u32 (shrI .u32 x 16) (shlI .u32 x 16) = ((sw x 65535 16 : Nat) : Int) := by
  have h1 := shr_nat .u32 x 16 (by simp [IntKind.bits])
  have h2 := shl_nat .u32 x 16 (by simp [IntKind.bits])
  have h3 : x >>> 16 < 2 ^ 32 := Nat.lt_of_le_of_lt (Nat.shiftRight_le _ _) hx
  rw [show ((16 : Nat) : Int) = 16 from rfl] at h1 h2
  rw [h1, h2, wrapU32, orU32 _ _ h3 (Nat.mod_lt _ (by omega))]
  congr 1
  unfold sw
  apply Nat.eq_of_testBit_eq
  intro i
  rw [show (65535 : Nat) = 2 ^ 16 - 1 from rfl, Nat.and_two_pow_sub_one_eq_mod, Nat.and_two_pow_sub_one_eq_mod]
  simp only [Nat.testBit_or, Nat.testBit_mod_two_pow, Nat.testBit_shiftRight, Nat.testBit_shiftLeft]
  have hb : ∀ j, 32 ≤ j → x.testBit j = false := fun j hj => Nat.testBit_lt_two_pow (Nat.lt_of_lt_of_le hx (Nat.pow_le_pow_right (by omega) hj))
  by_cases hi : i < 32
  · by_cases h16 : i < 16
    · have : ¬ 16 ≤ i := by omega
      simp [hi, h16, this]
    · have h5 : i - 16 < 16 := by omega
      rw [hb (16 + i) (by omega)]
      simp [hi, h5]
  · rw [hb (16 + i) (by omega)]
    simp [hi]
theorem rv_is (x : Nat) (hx : x < 2 ^ 32) : F63.m x = some ((rv x : Nat) : Int) := by
  unfold F63.m
  have e := fun (x m s : Nat) hx hm hs => sw_is x m s hx hm hs
  have e1 := sw_is x 1431655765 1 hx (by omega) (by omega)
  rw [show ((1431655765 : Nat) : Int) = 1431655765 from rfl, show ((1 : Nat) : Int) = 1 from rfl] at e1
  have e2 := sw_is (sw x 1431655765 1) 858993459 2 (sw_lt _ _ _) (by omega) (by omega)
  rw [show ((858993459 : Nat) : Int) = 858993459 from rfl, show ((2 : Nat) : Int) = 2 from rfl] at e2
  have e3 := sw_is (sw (sw x 1431655765 1) 858993459 2) 252645135 4 (sw_lt _ _ _) (by omega) (by omega)
  rw [show ((252645135 : Nat) : Int) = 252645135 from rfl, show ((4 : Nat) : Int) = 4 from rfl] at e3
  have e4 := sw_is (sw (sw (sw x 1431655765 1) 858993459 2) 252645135 4) 16711935 8 (sw_lt _ _ _) (by omega) (by omega)
  rw [show ((16711935 : Nat) : Int) = 16711935 from rfl, show ((8 : Nat) : Int) = 8 from rfl] at e4
  rw [e1, e2, e3]
  unfold F73.m
  rw [e4, last_sw _ (sw_lt _ _ _)]
  rfl
theorem rv_lt (x : Nat) : rv x < 2 ^ 32 := sw_lt _ _ _
theorem rv_at (x i : Nat) (hi : i < 32) : (rv x).testBit i = x.testBit (31 - i) := by
  have b : ∀ m s i, i < 32 → sf m s i < 32 ∨ True := fun _ _ _ _ => .inr trivial
  have k1 : ∀ i, i < 32 → sf 65535 16 i < 32 := by decide
  have k2 : ∀ i, i < 32 → sf 16711935 8 i < 32 := by decide
  have k3 : ∀ i, i < 32 → sf 252645135 4 i < 32 := by decide
  have k4 : ∀ i, i < 32 → sf 858993459 2 i < 32 := by decide
  have k : ∀ i, i < 32 → sf 1431655765 1 (sf 858993459 2 (sf 252645135 4 (sf 16711935 8 (sf 65535 16 i)))) = 31 - i := by decide
  unfold rv
  rw [sw_at _ _ _ (by decide) i hi, sw_at _ _ _ (by decide) _ (k1 i hi), sw_at _ _ _ (by decide) _ (k2 _ (k1 i hi)), sw_at _ _ _ (by decide) _ (k3 _ (k2 _ (k1 i hi))), sw_at _ _ _ (by decide) _ (k4 _ (k3 _ (k2 _ (k1 i hi)))), k i hi]
theorem rv_bits (x n : Nat) (hn : n ≤ 32) : bN (rv x >>> (32 - n)) n = (bN x n).reverse := by
  apply List.ext_getElem
  · simp
  · intro i h1 h2
    rw [bN_at, List.getElem_reverse, bN_at]
    simp at h1 h2
    unfold bt1
    rw [Nat.testBit_shiftRight, rv_at _ _ (by omega)]
    congr 3
    simp
    omega

theorem code_is (b : List Int) (rest many x : Nat) (n : Int) (hb : b.length ≤ 1000000) (hr : rest < 2 ^ many) (hm : many < 8) (hx : x < 2 ^ 32) :
    ∃ rest' many' : Nat, ∃ bs : List Int, F30.m b rest many x n = some (b ++ bs, (rest' : Int), (many' : Int)) ∧ rest' < 2 ^ many' ∧ many' < 8 ∧ bs.length ≤ 5 ∧ (∀ y ∈ bs, 0 ≤ y ∧ y ≤ 255) ∧ bO (b ++ bs) ++ bN rest' many' = bO b ++ bN rest many ++ (bN x (cl n)).reverse := by
  obtain ⟨h1, h2⟩ := cl_is n
  by_cases h0 : 0 < cl n
  · have hr32 := rv_lt x
    have hcl : cl ((cl n : Nat) : Int) = cl n := by have := cl_is (cl n : Int); unfold minI maxI at this; split at this <;> split at this <;> omega
    have hlt := pv_lt rest many (rv x >>> (32 - cl n)) (cl n) hr
    have hput := put_is b rest many (rv x >>> (32 - cl n)) (cl n : Int) hb hr hm (Nat.lt_of_le_of_lt (Nat.shiftRight_le _ _) hr32)
    rw [hcl] at hput
    refine ⟨pv rest many (rv x >>> (32 - cl n)) (cl n) >>> (8 * ((many + cl n) / 8)), (many + cl n) % 8, byts (pv rest many (rv x >>> (32 - cl n)) (cl n)) ((many + cl n) / 8), ?_, ?_, by omega, by rw [byts_len]; omega, byts_u8 _ _, ?_⟩
    · unfold F30.m
      rw [h1, if_pos (by omega), rv_is x hx, Option.bind_some, w64 (by omega) (by omega), if_pos (by omega)]
      have e : (32 : Int) - (cl n : Int) = ((32 - cl n : Nat) : Int) := by omega
      rw [e, shr_nat .u32 (rv x) (32 - cl n) (by simp [IntKind.bits]), hput]
      rfl
    · have := shr_lt _ (8 * ((many + cl n) / 8)) _ hlt (by omega)
      rwa [show many + cl n - 8 * ((many + cl n) / 8) = (many + cl n) % 8 from by omega] at this
    · rw [bO_append, bO_byts, List.append_assoc, List.append_assoc, ← bN_add, show 8 * ((many + cl n) / 8) + (many + cl n) % 8 = many + cl n from by omega, pv_bits _ _ _ _ hr, rv_bits x _ h2]
  · have e : cl n = 0 := by omega
    refine ⟨rest, many, [], ?_, hr, hm, by simp, by simp, ?_⟩
    · unfold F30.m
      rw [h1, e, if_neg (by simp)]
      simp [F30.j1]
    · rw [e]; simp

/-! ### The document's numbers, bytes -/
theorem number_is (x : Nat) (n : Int) : F29.m x n = some (bN x (cl n)) := by
  unfold F29.m
  have h : (cl n : Int) = minI (maxI n 0) 32 ∧ cl n ≤ 32 := ⟨(cl_is n).1.symm, (cl_is n).2⟩
  have h' : ((cl n : Int) = n ∨ n < 0 ∧ cl n = 0 ∨ 32 < n ∧ cl n = 32) := by
    obtain ⟨h1, _⟩ := h
    unfold minI maxI at h1
    split at h1 <;> split at h1 <;> omega
  rw [loop_done (fun k => (bN x k, (k : Int))) (cl n) (bN x (cl n)) (fun k hk => ?_) ?_ (by simp)]
  · rfl
  · simp only [F29.b1]
    by_cases a : (cl n : Int) < n
    · rw [if_pos a, if_neg (by omega)]
    · rw [if_neg a]
  · simp only [F29.b1]
    have e := shr_nat .u32 x k (by simp [IntKind.bits]; omega)
    rw [if_pos (by omega), if_pos (by omega), if_pos (by omega), if_pos (by simp; omega), w64 (by omega) (by omega), bN_succ, e, wrapU8, show (2 : Int) = ((2 : Nat) : Int) from rfl, tmod_nat]
    congr 4
    rw [bt1_div, Nat.shiftRight_eq_div_pow]
    simp
theorem of_is (b : List Int) (hb : b.length ≤ 1000000) (hu : ∀ y ∈ b, 0 ≤ y ∧ y ≤ 255) : F33.m b = some (bO b) := by
  unfold F33.m
  rw [loop_done (fun k => (bO (b.take k), (k : Int))) b.length (bO b) (fun k hk => ?_) ?_ (by simp)]
  · rfl
  · simp only [F33.b1]
    rw [if_neg (by omega), List.take_length]
  · simp only [F33.b1]
    rw [if_pos (by omega), if_pos (by omega), gd_at _ _ hk]
    have hy := hu _ (List.getElem_mem hk)
    obtain ⟨y, hyy⟩ : ∃ y : Nat, b[k] = (y : Int) := ⟨b[k].toNat, by omega⟩
    rw [hyy, wrapU32, Nat.mod_eq_of_lt (by omega), number_is]
    have h8 : cl 8 = 8 := by decide
    have hl := bO_len (b.take k)
    rw [List.length_take] at hl
    rw [h8, Option.bind_some, if_pos (by rw [bN_len]; omega), w64 (by omega) (by omega), take_succ' b k hk, bO_append, bO_one, hyy]
    rfl
/-! ### Bytes of bits -/
def pvl : List Int → Int
  | [] => 0
  | x :: xs => x + 2 * pvl xs
theorem pvl_append (a b : List Int) : pvl (a ++ b) = pvl a + 2 ^ a.length * pvl b := by
  induction a with
  | nil => simp [pvl]
  | cons x a ih => simp only [List.cons_append, pvl, ih, List.length_cons, Int.pow_succ]; grind
def b01 (l : List Int) : Prop := ∀ y ∈ l, y = 0 ∨ y = 1
theorem pvl_lt (l : List Int) (h : b01 l) : 0 ≤ pvl l ∧ pvl l < 2 ^ l.length := by
  induction l with
  | nil => simp [pvl]
  | cons x l ih =>
    have h1 := ih (fun y hy => h y (List.mem_cons_of_mem _ hy))
    have h2 := h x (by simp)
    simp only [pvl, List.length_cons, Int.pow_succ]
    omega
theorem pvl_bN (x n : Nat) : pvl (bN x n) = ((x % 2 ^ n : Nat) : Int) := by
  induction n with
  | zero => simp [pvl, Nat.mod_one]
  | succ n ih =>
    rw [bN_succ, pvl_append, ih, bN_len, bt1_div, Nat.mod_pow_succ]
    simp [pvl]
theorem b01_bN (x n : Nat) : b01 (bN x n) := fun y hy => by
  unfold bN at hy
  obtain ⟨i, _, rfl⟩ := List.mem_map.1 hy
  exact bt1_01 x i
theorem b01_bO (b : List Int) : b01 (bO b) := fun y hy => by
  unfold bO at hy
  obtain ⟨x, _, h⟩ := List.mem_flatMap.1 hy
  exact b01_bN _ _ y h
theorem b01_append {a b : List Int} (h : b01 a) (k : b01 b) : b01 (a ++ b) := fun y hy => (List.mem_append.1 hy).elim (h y) (k y)
def pck (l : List Int) (k : Nat) : List Int := (List.range ((k + 7) / 8)).map (fun j => pvl (((l.take k).drop (8 * j)).take 8))
theorem pck_len (l : List Int) (k : Nat) : (pck l k).length = (k + 7) / 8 := by simp [pck]
theorem bytes_is (l : List Int) (h01 : b01 l) (hl : l.length ≤ 1000000) : F34.m l = some (pck l l.length) := by
  unfold F34.m
  rw [loop_done (fun k => (pck l k, (k : Int))) l.length (pck l l.length) (fun k hk => ?_) ?_ (by simp [pck])]
  · rfl
  · simp only [F34.b1]
    rw [if_neg (by omega)]
  · have hx := h01 _ (List.getElem_mem hk)
    obtain ⟨q, hq, hq1⟩ : ∃ q : Nat, l[k] = (q : Int) ∧ q ≤ 1 := ⟨l[k].toNat, by omega, by omega⟩
    -- the step, from any list whose entry k / 8 has the bits so far
    have step : ∀ L : List Int, L.length = k / 8 + 1 → (∀ j (h : j < L.length), L[j] = pvl (((l.take k).drop (8 * j)).take 8)) → F34.j2 l k L = some (.inl (pck l (k + 1), ((k + 1 : Nat) : Int))) := fun L hL hLj => by
      unfold F34.j2
      have e1 : IntKind.wrap .i64 (Int.tdiv (k : Int) 8) = ((k / 8 : Nat) : Int) := by
        rw [show (8 : Int) = ((8 : Nat) : Int) from rfl, tdiv_nat, w64 (by omega) (by omega)]
      have e2 : Int.tmod (k : Int) 8 = ((k % 8 : Nat) : Int) := by rw [show (8 : Int) = ((8 : Nat) : Int) from rfl, tmod_nat]
      rw [e1, e2, if_pos (by omega), if_pos (by omega), if_pos (by omega), w64 (by omega) (by omega), gd_at _ _ hk, hq, shl_nat _ _ _ (by simp [IntKind.bits]; omega), wrapU8, gd_at _ _ (by omega), hLj _ (by omega)]
      have hsub : ((l.take k).drop (8 * (k / 8))).take 8 = (l.take k).drop (8 * (k / 8)) := List.take_of_length_le (by simp; omega)
      have h01s : b01 ((l.take k).drop (8 * (k / 8))) := fun y hy => h01 y (List.mem_of_mem_take (List.mem_of_mem_drop hy))
      have hlen : ((l.take k).drop (8 * (k / 8))).length = k % 8 := by simp; omega
      have hv := pvl_lt _ h01s
      rw [hlen] at hv
      have hnew : (((l.take (k + 1)).drop (8 * (k / 8))).take 8) = (l.take k).drop (8 * (k / 8)) ++ [l[k]] := by
        rw [take_succ' l k hk, List.drop_append_of_le_length (by simp; omega)]
        exact List.take_of_length_le (by simp; omega)
      have hp : pvl (((l.take (k + 1)).drop (8 * (k / 8))).take 8) = pvl ((l.take k).drop (8 * (k / 8))) + ((q <<< (k % 8) : Nat) : Int) := by
        rw [hnew, pvl_append, hlen, hq, Nat.shiftLeft_eq]
        simp [pvl, Int.mul_comm]
      have hpow : (2 : Nat) ^ (k % 8) ≤ 2 ^ 7 := Nat.pow_le_pow_right (by omega) (by omega)
      have hqs : q <<< (k % 8) ≤ 2 ^ (k % 8) := by
        rw [Nat.shiftLeft_eq]
        calc q * 2 ^ (k % 8) ≤ 1 * 2 ^ (k % 8) := Nat.mul_le_mul_right _ hq1
          _ = _ := Nat.one_mul _
      have hv2 : pvl ((l.take k).drop (8 * (k / 8))) < ((2 ^ (k % 8) : Nat) : Int) := by simpa using hv.2
      generalize q <<< (k % 8) = Q at *
      rw [hsub, Nat.mod_eq_of_lt (by omega), w8 (by omega) (by omega), ← hp, Int.toNat_natCast]
      refine congrArg (fun z => some (Sum.inl (z, ((k + 1 : Nat) : Int)))) ?_
      apply List.ext_getElem
      · simp [pck, hL]; omega
      · intro j h1 h2
        simp only [List.length_set] at h1
        rw [List.getElem_set]
        simp only [pck, List.getElem_map, List.getElem_range]
        by_cases hj : k / 8 = j
        · subst hj; simp
        · rw [if_neg (by simpa using hj), hLj j h1, take_succ' l k hk, List.drop_append_of_le_length (by simp; omega), List.take_append_of_le_length (by simp; omega)]
    simp only [F34.b1]
    have e2 : Int.tmod (k : Int) 8 = ((k % 8 : Nat) : Int) := by rw [show (8 : Int) = ((8 : Nat) : Int) from rfl, tmod_nat]
    have hpl := pck_len l k
    rw [if_pos (by omega), e2]
    by_cases h0 : k % 8 = 0
    · rw [if_pos (by omega), if_pos (by simp only [List.length_singleton]; omega)]
      refine step _ (by simp [hpl]; omega) (fun j h => ?_)
      by_cases hj : j < (pck l k).length
      · rw [List.getElem_append_left hj]
        simp [pck]
      · rw [List.getElem_append_right (by omega)]
        simp at h
        have : ((l.take k).drop (8 * j)).take 8 = [] := by
          apply List.eq_nil_of_length_eq_zero
          simp; omega
        rw [this]
        simp [pvl]
    · rw [if_neg (by omega)]
      refine step _ (by rw [hpl]; omega) (fun j h => by simp [pck])
/-- Of a writer's bits: its bytes, and the rest. -/
theorem bytes_of (b : List Int) (rest many : Nat) (hb : b.length ≤ 100000) (hu : ∀ y ∈ b, 0 ≤ y ∧ y ≤ 255) (hm : many < 8) (hr : rest < 2 ^ many) : F34.m (bO b ++ bN rest many) = some (b ++ if 0 < many then [(rest : Int)] else []) := by
  have hbl := bO_len b
  rw [bytes_is _ (b01_append (b01_bO b) (b01_bN _ _)) (by simp; omega)]
  congr 1
  have hlen : (bO b ++ bN rest many).length = 8 * b.length + many := by simp [hbl]
  apply List.ext_getElem
  · rw [pck_len, hlen]
    by_cases h : 0 < many <;> simp [h] <;> omega
  · intro j h1 h2
    rw [pck_len, hlen] at h1
    simp only [pck, List.getElem_map, List.getElem_range, List.take_length]
    by_cases hj : j < b.length
    · rw [List.getElem_append_left hj]
      have e : bO b = bO (b.take j) ++ (bN b[j].toNat 8 ++ bO (b.drop (j + 1))) := by
        conv => lhs; rw [← List.take_append_drop j b, List.drop_eq_getElem_cons hj]
        rw [bO_append]
        congr 1
      have hl : (bO (b.take j)).length = 8 * j := by rw [bO_len]; simp; omega
      rw [e, List.append_assoc, List.append_assoc, List.drop_left' hl, List.take_left' (by simp), pvl_bN]
      have := hu _ (List.getElem_mem hj)
      rw [Nat.mod_eq_of_lt (by omega)]
      omega
    · have hjl : j = b.length := by omega
      have hmp : 0 < many := by omega
      subst hjl
      simp only [hmp, if_true]
      rw [List.getElem_append_right (by omega), List.drop_left' hbl, List.take_of_length_le (by simp; omega), pvl_bN, Nat.mod_eq_of_lt hr]
      simp
end Go.Proofs.Ytpophpendlnehaa
