/- What BitsBack's printed function computes: true, whatever numbers are put. -/
import Derived.Test.YtpophpendlnehaaPureBitsWrites
set_option linter.unusedVariables false
set_option linter.unusedSimpArgs false
namespace Go.Proofs.Ytpophpendlnehaa
open Go Go.Eng Go.Proofs

/-- A row of bits of bytes, as a number. -/
def rowV (B : List Int) (at_ n : Nat) : Nat := (pvl ((B.drop at_).take n)).toNat
theorem pvl_nat (l : List Int) (h : b01 l) : pvl l = ((pvl l).toNat : Int) := by have := pvl_lt l h; omega
theorem b01_drop {l : List Int} (h : b01 l) (k : Nat) : b01 (l.drop k) := fun y hy => h y (List.mem_of_mem_drop hy)
theorem b01_take {l : List Int} (h : b01 l) (k : Nat) : b01 (l.take k) := fun y hy => h y (List.mem_of_mem_take hy)
theorem rowV_lt (B : List Int) (h : b01 B) (at_ n : Nat) : rowV B at_ n < 2 ^ n := by
  have h1 := pvl_lt _ (b01_take (b01_drop h at_) n)
  have h2 : ((B.drop at_).take n).length ≤ n := List.length_take_le _ _
  have h3 : (2 : Nat) ^ ((B.drop at_).take n).length ≤ 2 ^ n := Nat.pow_le_pow_right (by omega) h2
  have h4 : pvl ((B.drop at_).take n) < ((2 ^ ((B.drop at_).take n).length : Nat) : Int) := by simpa using h1.2
  unfold rowV
  omega
theorem rowV_add (B : List Int) (h : b01 B) (at_ n m : Nat) (hl : at_ + n + m ≤ B.length) : rowV B at_ (n + m) = rowV B at_ n ||| (rowV B (at_ + n) m <<< n) := by
  have e : (B.drop at_).take (n + m) = (B.drop at_).take n ++ (B.drop (at_ + n)).take m := by rw [List.take_add, List.drop_drop]
  have hlen : ((B.drop at_).take n).length = n := by simp; omega
  have h1 := pvl_nat _ (b01_take (b01_drop h at_) n)
  have h2 := pvl_nat _ (b01_take (b01_drop h (at_ + n)) m)
  have hlt := rowV_lt B h at_ n
  have hp : pvl ((B.drop at_).take (n + m)) = ((rowV B at_ n + rowV B (at_ + n) m <<< n : Nat) : Int) := by
    rw [e, pvl_append, hlen, h1, h2, Nat.shiftLeft_eq]
    unfold rowV
    push_cast
    rw [Int.mul_comm]
  have h3 : rowV B at_ (n + m) = rowV B at_ n + rowV B (at_ + n) m <<< n := by
    conv => lhs; unfold rowV
    rw [hp, Int.toNat_natCast]
  rw [h3, Nat.add_comm, Nat.or_comm]
  exact Nat.shiftLeft_add_eq_or_of_lt hlt _
/-- Bits of one byte. -/
theorem rowV_byte (b : List Int) (hu : ∀ y ∈ b, 0 ≤ y ∧ y ≤ 255) (at_ m : Nat) (h : at_ < 8 * b.length) (hm : m ≤ 8 - at_ % 8) : rowV (bO b) at_ m = ((gd b ((at_ / 8 : Nat) : Int)).toNat >>> (at_ % 8)) % 2 ^ m := by
  have hj : at_ / 8 < b.length := by omega
  have e : bO b = bO (b.take (at_ / 8)) ++ (bN b[at_ / 8].toNat 8 ++ bO (b.drop (at_ / 8 + 1))) := by
    conv => lhs; rw [← List.take_append_drop (at_ / 8) b, List.drop_eq_getElem_cons hj]
    rw [bO_append]
    congr 1
  have hl : (bO (b.take (at_ / 8))).length = 8 * (at_ / 8) := by rw [bO_len]; simp; omega
  have e2 : (bO b).drop at_ = (bN b[at_ / 8].toNat 8).drop (at_ % 8) ++ bO (b.drop (at_ / 8 + 1)) := by
    have h0 : (bO b).drop at_ = ((bO b).drop (8 * (at_ / 8))).drop (at_ % 8) := by
      rw [List.drop_drop]
      congr 1
      omega
    rw [h0, e, ← hl, List.drop_left, List.drop_append_of_le_length (by simp; omega)]
  have e3 : ((bO b).drop at_).take m = bN (b[at_ / 8].toNat >>> (at_ % 8)) m := by
    rw [e2, List.take_append_of_le_length (by simp; omega)]
    apply List.ext_getElem
    · simp; omega
    · intro i h1 h2
      simp only [List.getElem_take, List.getElem_drop, bN_at, bt1, Nat.testBit_shiftRight]
  unfold rowV
  rw [e3, pvl_bN, Int.toNat_natCast, gd_at _ _ hj]
theorem get_is (b : List Int) (at_ : Nat) (n : Nat) (hb : b.length ≤ 1000000) (hu : ∀ y ∈ b, 0 ≤ y ∧ y ≤ 255) (hn : n ≤ 32) (h : at_ + n ≤ 8 * b.length) :
    F39.m b at_ n = some ((rowV (bO b) at_ n : Int), 0, ((at_ + n : Nat) : Int)) := by
  have hB := b01_bO b
  have hBl := bO_len b
  unfold F39.m F41.m
  rw [if_neg (by omega), if_neg (by omega), w64 (n := 8 * (b.length : Int)) (by omega) (by omega), w64 (by omega) (by omega), Option.bind_some, if_neg (by omega)]
  obtain ⟨y, hy, hq⟩ := loop_ends (b := F39.b1 b n) (fun s => ∃ g : Nat, g ≤ n ∧ s = (((at_ + g : Nat) : Int), ((rowV (bO b) at_ g : Nat) : Int), (g : Int))) (fun s => n - s.2.2.toNat) (fun y => y = (((rowV (bO b) at_ n : Nat) : Int), ((at_ + n : Nat) : Int))) (fun s hs => by
    obtain ⟨g, hg, rfl⟩ := hs
    simp only [F39.b1]
    by_cases a : g < n
    · have e8 : (8 : Int) = ((8 : Nat) : Int) := rfl
      rw [if_pos (by omega), e8, tdiv_nat, tmod_nat, w64 (n := (((at_ + g) / 8 : Nat) : Int)) (by omega) (by omega), if_pos (by omega), if_pos (by omega), w64 (n := ((8 : Nat) : Int) - (((at_ + g) % 8 : Nat) : Int)) (by omega) (by omega), w64 (n := (n : Int) - (g : Int)) (by omega) (by omega)]
      obtain ⟨m, hm, hm1, hm2, hm3⟩ : ∃ m : Nat, minI (((8 : Nat) : Int) - (((at_ + g) % 8 : Nat) : Int)) ((n : Int) - (g : Int)) = (m : Int) ∧ m ≤ 8 - (at_ + g) % 8 ∧ m ≤ n - g ∧ 0 < m := by
        unfold minI
        split
        · exact ⟨n - g, by omega, by omega, by omega, by omega⟩
        · exact ⟨8 - (at_ + g) % 8, by omega, by omega, by omega, by omega⟩
      rw [hm]
      have hbyte := hu _ (List.getElem_mem (show (at_ + g) / 8 < b.length by omega))
      have hrow := rowV_byte b hu (at_ + g) m (by omega) hm1
      rw [gd_at _ _ (by omega)] at hrow
      obtain ⟨v, hv⟩ : ∃ v : Nat, b[(at_ + g) / 8] = (v : Int) := ⟨b[(at_ + g) / 8].toNat, by omega⟩
      rw [hv, Int.toNat_natCast] at hrow
      rw [hv] at hbyte
      have hvs : v >>> ((at_ + g) % 8) ≤ v := Nat.shiftRight_le _ _
      rw [gd_at _ _ (by omega), hv, shr_nat _ _ _ (by simp [IntKind.bits]; omega), wrapU64, Nat.mod_eq_of_lt (by omega), mask _ rfl m (by omega), if_pos (by omega), if_pos (by omega)]
      have hp32 : 2 ^ m ≤ 2 ^ 32 := Nat.pow_le_pow_right (by omega) (by omega)
      rw [andU64 _ _ (by omega) (by omega), Nat.and_two_pow_sub_one_eq_mod, ← hrow]
      have hr2 := rowV_lt (bO b) hB (at_ + g) m
      have hr1 := rowV_lt (bO b) hB at_ g
      have hpg : 2 ^ g ≤ 2 ^ 64 := Nat.pow_le_pow_right (by omega) (by omega)
      have hsh : rowV (bO b) (at_ + g) m <<< g < 2 ^ 64 := by
        rw [Nat.shiftLeft_eq]
        refine Nat.lt_of_lt_of_le (Nat.mul_lt_mul_of_pos_right hr2 (Nat.pow_pos (by omega))) ?_
        rw [← Nat.pow_add]
        exact Nat.pow_le_pow_right (by omega) (by omega)
      rw [shl_nat _ _ _ (by simp [IntKind.bits]; omega), wrapU64, Nat.mod_eq_of_lt hsh, orU64 _ _ (by omega) hsh, ← rowV_add _ hB _ _ _ (by rw [hBl]; omega), w64 (by omega) (by omega), w64 (by omega) (by omega)]
      refine ⟨_, rfl, fun x' h => ?_, fun y h => by simp at h⟩
      simp only [Sum.inl.injEq] at h
      subst h
      refine ⟨⟨g + m, by omega, ?_⟩, by simp only; omega⟩
      rw [show ((at_ + (g + m) : Nat) : Int) = ((at_ + g : Nat) : Int) + m from by omega, show ((g + m : Nat) : Int) = (g : Int) + m from by omega]
    · have : g = n := by omega
      subst this
      rw [if_neg (by omega)]
      refine ⟨_, rfl, fun x' h => by simp at h, fun y h => ?_⟩
      simp only [Sum.inr.injEq] at h
      exact h.symm) ((at_ : Int), 0, 0) ⟨0, by omega, by simp [rowV, pvl]⟩
  rw [hy]
  subst hq
  have h32 := rowV_lt (bO b) hB at_ n
  have hp : 2 ^ n ≤ 2 ^ 32 := Nat.pow_le_pow_right (by omega) hn
  simp only [Option.bind_some, F39.j1]
  rw [wrapU32, Nat.mod_eq_of_lt (by omega)]
theorem value_is (l : List Int) (h : b01 l) (hl : l.length ≤ 32) : F40.m l = some (pvl l) := by
  unfold F40.m
  rw [w64 (by omega) (by omega), loop_done (fun k => (pvl (l.drop (l.length - k)), (l.length : Int) - 1 - k)) l.length (pvl l) (fun k hk => ?_) ?_ (by simp [pvl])]
  · rfl
  · simp only [F40.b1]
    rw [if_neg (by omega)]
    simp
  · simp only [F40.b1]
    have e : (l.length : Int) - 1 - k = ((l.length - 1 - k : Nat) : Int) := by omega
    have hx := h _ (List.getElem_mem (show l.length - 1 - k < l.length by omega))
    have e2 : l.drop (l.length - (k + 1)) = l[l.length - 1 - k] :: l.drop (l.length - k) := by
      rw [List.drop_eq_getElem_cons (by omega)]
      have e3 : l.length - (k + 1) = l.length - 1 - k := by omega
      have e4 : l.length - (k + 1) + 1 = l.length - k := by omega
      rw [e4]
      congr 1
      simp only [e3]
    have hv := pvl_lt _ (b01_drop h (l.length - k))
    have hv2 := pvl_lt _ (b01_drop h (l.length - (k + 1)))
    have hp : (2 : Nat) ^ (l.drop (l.length - (k + 1))).length ≤ 2 ^ 32 := Nat.pow_le_pow_right (by omega) (by simp; omega)
    have hv3 : pvl (l.drop (l.length - (k + 1))) < ((2 ^ (l.drop (l.length - (k + 1))).length : Nat) : Int) := by simpa using hv2.2
    rw [e2] at hv2 hv3 hp
    rw [if_pos (by omega), if_pos (by omega), e, gd_at _ _ (by omega), e2]
    simp only [pvl] at hv2 hv3 ⊢
    rw [w32 (n := 2 * pvl _) (by omega) (by omega), w32 (n := l[l.length - 1 - k]) (by omega) (by omega), w32 (by omega) (by omega), w64 (by omega) (by omega)]
    rw [show (((l.length - 1 - k : Nat) : Int) - 1) = (l.length : Int) - 1 - ((k + 1 : Nat) : Int) from by omega, Int.add_comm]

theorem reader_is (b : List Int) (hb : b.length ≤ 1000000) : F38.m b = some (b, 0) := by
  unfold F38.m F64.m
  rw [if_pos (by simp; omega)]
  rfl
/-- The bits of numbers, one behind the other. -/
def numBits (l : List (Int × Int × Int × (List Int))) : List Int := l.flatMap (fun o => bN o.2.2.1.toNat (cl o.2.1))
theorem numBits_take (l : List (Int × Int × Int × (List Int))) (k : Nat) (h : k < l.length) : numBits (l.take (k + 1)) = numBits (l.take k) ++ bN l[k].2.2.1.toNat (cl l[k].2.1) := by
  rw [take_succ' l k h]
  unfold numBits
  rw [List.flatMap_append]
  simp
theorem numBits_len (l : List (Int × Int × Int × (List Int))) : (numBits l).length ≤ 32 * l.length := by
  induction l with
  | nil => simp [numBits]
  | cons o l ih =>
    have := (cl_is o.2.1).2
    simp only [numBits, List.flatMap_cons, List.length_append, bN_len, List.length_cons] at ih ⊢
    omega
theorem pure_BitsBack (a0 : List (Int × Int × Int × (List Int))) (w0 : ∀ x ∈ a0, (InR .i64 x.1 ∧ InR .i64 x.2.1 ∧ InR .u32 x.2.2.1 ∧ ((∀ y ∈ x.2.2.2, InR .u8 y) ∧ (x.2.2.2).length ≤ maxLen))) (m0 : a0.length ≤ maxLen) :
    F8.m a0 = some true := by
  unfold F8.m
  obtain ⟨r, hr, hall⟩ := great_is a0 m0
  rw [hr, Option.bind_some, bits_awake]
  cases r with
  | true => rfl
  | false =>
    obtain ⟨h100, hB⟩ := hall rfl
    rw [if_neg (by simp)]
    simp only [F27.m, Option.bind_some]
    have hcc : ∀ n : Int, cl (cl n : Int) = cl n := fun n => by
      have h1 := (cl_is n).2
      have h2 := (cl_is (cl n : Int)).1
      unfold minI maxI at h2
      split at h2 <;> split at h2 <;> omega
    have num : ∀ k (h : k < a0.length), ∃ x : Nat, a0[k].2.2.1 = (x : Int) ∧ x < 2 ^ 32 := fun k h => by
      have := inU32 (w0 _ (List.getElem_mem h)).2.2.1
      exact ⟨a0[k].2.2.1.toNat, by omega, by omega⟩
    have nl : ∀ k, (numBits (a0.take k)).length ≤ 3200 := fun k => by
      have := numBits_len (a0.take k)
      simp at this
      omega
    obtain ⟨y, hy, hq⟩ := loop_ends (b := F8.b2 a0) (fun s => ∃ k : Nat, k ≤ a0.length ∧ ∃ rest many : Nat, ∃ b : List Int, s = (b, (rest : Int), (many : Int), (k : Int)) ∧ Wr b rest many (numBits (a0.take k))) (fun s => a0.length - s.2.2.2.toNat)
      (fun y => ∃ b : List Int, ∃ rest many : Nat, y = (b, (rest : Int), (many : Int)) ∧ Wr b rest many (numBits a0)) (fun s hs => by
      obtain ⟨k, hk, rest, many, b, rfl, hw⟩ := hs
      simp only [F8.b2]
      by_cases a : k < a0.length
      · obtain ⟨x, hx, hx2⟩ := num k a
        obtain ⟨b', rest', many', hp, hw'⟩ := wr_put (cl a0[k].2.1 : Int) hw (by have := nl k; omega) hx2
        rw [if_pos (by omega), if_pos (by omega), gd_at _ _ a, hx, (cl_is a0[k].2.1).1, hp, Option.bind_some, w64 (by omega) (by omega)]
        refine ⟨_, rfl, fun x' h => ?_, fun y h => by simp at h⟩
        simp only [Sum.inl.injEq] at h
        subst h
        rw [hcc] at hw'
        refine ⟨⟨k + 1, by omega, rest', many', b', by simp, ?_⟩, by simp only; omega⟩
        rw [numBits_take _ _ a, hx]
        exact hw'
      · rw [if_neg (by omega)]
        refine ⟨_, rfl, fun x' h => by simp at h, fun y h => ?_⟩
        simp only [Sum.inr.injEq] at h
        rw [List.take_of_length_le (by omega)] at hw
        exact ⟨b, rest, many, h.symm, hw⟩) ([], 0, 0, 0) ⟨0, by omega, 0, 0, [], rfl, ⟨by simp, by omega, by simp, by simp [numBits]⟩⟩
    rw [hy, Option.bind_some]
    obtain ⟨b, rest, many, rfl, hw⟩ := hq
    simp only [F8.j1]
    have nla : (numBits a0).length ≤ 3200 := by have := numBits_len a0; omega
    have hwl := hw.len
    have hpow : 2 ^ many ≤ 2 ^ 7 := Nat.pow_le_pow_right (by omega) (by have := hw.l8; omega)
    have hlt := hw.lt
    have hl8 := hw.l8
    rw [bytes_get hw (by omega), Option.bind_some]
    -- the bytes, their bits
    obtain ⟨c, hc⟩ : ∃ c, (b ++ if 0 < many then [(rest : Int)] else []) = c := ⟨_, rfl⟩
    have hcl : c.length ≤ b.length + 1 := by rw [← hc]; simp; split <;> simp
    have hcu : ∀ y ∈ c, 0 ≤ y ∧ y ≤ 255 := fun y hy => by
      rw [← hc] at hy
      rcases List.mem_append.1 hy with hy | hy
      · exact hw.u8 y hy
      · split at hy
        · simp at hy; omega
        · simp at hy
    have hbits : ∃ z, bO c = numBits a0 ++ z ∧ z.length < 8 := by
      rw [← hc, bO_append, ← hw.is]
      by_cases a : 0 < many
      · refine ⟨bN 0 (8 - many), ?_, by rw [bN_len]; omega⟩
        have := bN_low rest many (8 - many) hw.lt
        rw [show many + (8 - many) = 8 from by omega] at this
        simp [a, bO_one, this]
      · have : many = 0 := by omega
        subst this
        exact ⟨[], by simp, by simp⟩
    obtain ⟨z, hz, hz8⟩ := hbits
    have hcl8 := bO_len c
    rw [hz, List.length_append] at hcl8
    rw [hc, reader_is c (by omega), Option.bind_some]
    simp only
    obtain ⟨y, hy, hq⟩ := loop_ends (b := F8.b1 a0 (c, 0)) (fun s => ∃ k : Nat, k ≤ a0.length ∧ s = (((numBits (a0.take k)).length : Int), (k : Int))) (fun s => a0.length - s.2.toNat)
      (fun y => y = .inr ((numBits a0).length : Int)) (fun s hs => by
      obtain ⟨k, hk, rfl⟩ := hs
      simp only [F8.b1]
      by_cases a : k < a0.length
      · obtain ⟨x, hx, hx2⟩ := num k a
        have ht := numBits_take a0 k a
        have hsplit : numBits a0 = numBits (a0.take k) ++ (bN x (cl a0[k].2.1) ++ numBits (a0.drop (k + 1))) := by
          conv => lhs; rw [← List.take_append_drop (k + 1) a0]
          rw [numBits, List.flatMap_append]
          rw [show List.flatMap (fun o : Int × Int × Int × List Int => bN o.2.2.1.toNat (cl o.2.1)) (a0.take (k + 1)) = numBits (a0.take (k + 1)) from rfl, ht, hx, Int.toNat_natCast, List.append_assoc]
          rfl
        have hsl := congrArg List.length hsplit
        simp only [List.length_append, bN_len] at hsl
        have hcl32 := (cl_is a0[k].2.1).2
        have hg := get_is c (numBits (a0.take k)).length (cl a0[k].2.1) (by omega) hcu hcl32 (by omega)
        rw [if_pos (by omega), if_pos (by omega), gd_at _ _ a, (cl_is a0[k].2.1).1, hg, Option.bind_some, if_pos rfl, hx, number_is, Option.bind_some, hcc, value_is _ (b01_bN _ _) (by rw [bN_len]; omega), Option.bind_some]
        have hrow : (rowV (bO c) (numBits (a0.take k)).length (cl a0[k].2.1) : Int) = pvl (bN x (cl a0[k].2.1)) := by
          unfold rowV
          rw [hz, hsplit, List.append_assoc, List.drop_left, List.append_assoc, List.take_left' (by rw [bN_len])]
          exact (pvl_nat _ (b01_bN _ _)).symm
        rw [if_pos hrow, w64 (by omega) (by omega)]
        refine ⟨_, rfl, fun x' h => ?_, fun y h => by simp at h⟩
        simp only [Sum.inl.injEq] at h
        subst h
        refine ⟨⟨k + 1, by omega, ?_⟩, by simp only; omega⟩
        rw [ht, List.length_append, bN_len]
        simp
      · rw [if_neg (by omega)]
        refine ⟨_, rfl, fun x' h => by simp at h, fun y h => ?_⟩
        simp only [Sum.inr.injEq] at h
        rw [List.take_of_length_le (by omega)] at h
        exact h.symm) (0, 0) ⟨0, by omega, by simp [numBits]⟩
    rw [hy]
    subst hq
    simp only [Option.bind_some, F8.j2, F41.m]
    rw [w64 (n := 8 * (c.length : Int)) (by omega) (by omega), w64 (by omega) (by omega), if_pos (by omega), bits_awake]
    rfl
end Go.Proofs.Ytpophpendlnehaa
