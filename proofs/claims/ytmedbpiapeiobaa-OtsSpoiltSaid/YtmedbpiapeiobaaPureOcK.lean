/- What the octet functions compute, for the plain laws: putting, getting, the document's examples. -/
import Derived.Test.YtmedbpiapeiobaaOct
import Derived.Test.YtmedbpiapeiobaaEngPure
set_option linter.unusedVariables false
set_option linter.unusedSimpArgs false
namespace Go.Proofs.Ytmedbpiapeiobaa
open Go Go.Eng Go.Proofs

theorem wu64_mod (n : Int) : IntKind.wrap .u64 n = n % 18446744073709551616 := by simp [IntKind.wrap, IntKind.bits, IntKind.signed]
theorem or8 (x c : Int) (hx : 0 ≤ x) (hc : 0 ≤ c ∧ c ≤ 255) : orI .u64 (shlI .u64 x 8) c = IntKind.wrap .u64 (IntKind.wrap .u64 (x * 256) + c) := by
  have e : shlI .u64 x 8 = IntKind.wrap .u64 (x * 256) := rfl
  rw [e]
  have h1 := wu64_mod (x * 256)
  obtain ⟨q, hq, hq2⟩ : ∃ q : Nat, IntKind.wrap .u64 (x * 256) = ((q * 256 : Nat) : Int) ∧ q < 72057594037927936 := by
    refine ⟨((x * 256) % 18446744073709551616 / 256).toNat, ?_, ?_⟩ <;> omega
  obtain ⟨d, rfl⟩ : ∃ d : Nat, c = (d : Int) := ⟨c.toNat, by omega⟩
  have hd : d < 2 ^ 8 := by omega
  rw [hq]
  have key : (BitVec.ofInt (IntKind.bits .u64) ((q * 256 : Nat) : Int) ||| BitVec.ofInt (IntKind.bits .u64) (d : Int)).toNat = q * 256 + d := by
    show (BitVec.ofInt 64 ((q * 256 : Nat) : Int) ||| BitVec.ofInt 64 (d : Int)).toNat = q * 256 + d
    rw [BitVec.toNat_or, BitVec.ofInt_natCast, BitVec.ofInt_natCast, BitVec.toNat_ofNat, BitVec.toNat_ofNat, Nat.mod_eq_of_lt (by omega), Nat.mod_eq_of_lt (by omega)]
    have := Nat.shiftLeft_add_eq_or_of_lt hd q
    rw [Nat.shiftLeft_eq] at this
    exact this.symm
  unfold orI
  rw [key]
  rw [wu64 (by omega) (by omega), wu64 (by omega) (by omega)]
  omega

/-! ### slices.Concat of two -/
theorem F91_is (n : Int) (h : 0 ≤ n ∧ n ≤ 1000000) : F91.m n = some [] := by
  have e : IntKind.wrap .i64 (0 - ((([] : List Int)).length : Int)) = 0 := by rw [w64 (by simp) (by simp)]; simp
  unfold F91.m
  rw [e, if_neg (by omega), w64 (by omega) (by omega)]
  by_cases h0 : 0 < n - 0
  · rw [if_pos h0, if_pos (by omega), if_pos (by simp; omega)]
    simp only [F91.j1, subL]
    simp
  · rw [if_neg h0]
    rfl
theorem F70_is (a b : List Int) (h : a.length ≤ 100000) (h' : b.length ≤ 100000) : F70.m [a, b] = some (a ++ b) := by
  unfold F70.m
  rw [loop_eq]
  simp only [F70.b2]
  rw [if_pos (by simp), if_pos (by simp)]
  have g0 : gd [a, b] 0 = a := rfl
  have g1 : gd [a, b] 1 = b := rfl
  rw [g0, w64 (n := 0 + (a.length : Int)) (by omega) (by omega), if_neg (by omega), w64 (by omega) (by omega)]
  simp only [Int.zero_add]
  rw [loop_eq]
  simp only [F70.b2]
  rw [if_pos (by simp), if_pos (by simp), g1, w64 (n := (a.length : Int) + (b.length : Int)) (by omega) (by omega), if_neg (by omega), w64 (by omega) (by omega)]
  simp only []
  rw [loop_eq]
  simp only [F70.b2]
  rw [if_neg (by simp)]
  simp only [Option.bind_some, F70.j1]
  rw [F91_is _ (by omega)]
  simp only [Option.bind_some]
  rw [loop_eq]
  simp only [F70.b1]
  rw [if_pos (by simp), if_pos (by simp), g0, if_pos (by simp; omega), w64 (by omega) (by omega)]
  simp only [Int.zero_add, List.nil_append]
  rw [loop_eq]
  simp only [F70.b1]
  rw [if_pos (by simp), if_pos (by simp), g1, if_pos (by omega), w64 (by omega) (by omega)]
  simp only []
  rw [loop_eq]
  simp only [F70.b1]
  rw [if_neg (by simp)]
  rfl

/-! ### Put -/
def oct (x : Int) (i : Nat) : Int := IntKind.wrap .u8 (shrI .u64 x (56 - 8 * (i : Int)))
def wide (n : Int) : Nat := (minI (maxI n 1) 8).toNat
theorem wide_le (n : Int) : 1 ≤ wide n ∧ wide n ≤ 8 ∧ minI (maxI n 1) 8 = (wide n : Int) := by
  unfold wide
  have : 1 ≤ minI (maxI n 1) 8 ∧ minI (maxI n 1) 8 ≤ 8 := by
    unfold minI maxI
    split <;> split <;> omega
  omega
theorem F25_is (b : List Int) (n x : Int) (hb : b.length ≤ 1000) : F25.m b n x = some (b ++ ((List.range 8).map (oct x)).drop (8 - wide n)) := by
  unfold F25.m
  rw [loop_done (fun k => (mkA 8 (fun i => if i < k then oct x i else 0), (k : Int))) 8 (mkA 8 (oct x)) (fun k hk => ?_) ?_ (by rw [mkA_rep]; rfl)]
  · obtain ⟨h1, h2, h3⟩ := wide_le n
    simp only [Option.bind_some, F25.j1]
    rw [h3, w64 (by omega) (by omega), if_pos (by omega)]
    have e : subL (mkA 8 (oct x)).l (8 - (wide n : Int)) ((8 : Nat) : Int) = ((List.range 8).map (oct x)).drop (8 - wide n) := by
      unfold subL
      have : (8 - (wide n : Int)).toNat = 8 - wide n := by omega
      rw [this, mkA_l]
      apply List.take_of_length_le
      simp
    rw [e, F70_is _ _ (by omega) (by simp; omega)]
    rfl
  · simp only [F25.b1]
    rw [if_neg (by omega), mkA_same 8 (fun i => if i < 8 then oct x i else 0) (oct x) (fun i hi => by rw [if_pos hi])]
  · simp only [F25.b1]
    rw [if_pos (by omega), w64 (n := 8 * (k : Int)) (by omega) (by omega), w64 (n := 56 - 8 * (k : Int)) (by omega) (by omega), if_pos (by omega), if_pos (by omega), w64 (n := (k : Int) + 1) (by omega) (by omega)]
    rw [mkA_set 8 _ (fun i => if i < k + 1 then oct x i else 0) k _ hk (fun i hi => ?_)]
    · rfl
    · by_cases a : i = k
      · subst a; rw [if_pos (by omega), if_pos rfl]; rfl
      · rw [if_neg a]
        by_cases c : i < k
        · rw [if_pos (by omega), if_pos c]
        · rw [if_neg (by omega), if_neg c]

/-! ### The document's examples -/
theorem oct_awake : F21.m = some true := by
  unfold F21.m
  rw [F25_is [] 2 258 (by simp)]
  have e1 : ([] ++ ((List.range 8).map (oct 258)).drop (8 - wide 2)) = [1, 2] := by decide
  have e2 : F24.m [165] 1 4 = some 5 := by decide
  rw [e1, e2]
  decide

theorem gd_u8 (b : List Int) (hb : ∀ x ∈ b, 0 ≤ x ∧ x ≤ 255) (i : Int) (h : 0 ≤ i ∧ i < b.length) : 0 ≤ gd b i ∧ gd b i ≤ 255 := hb _ (List.mem_of_getElem? (gd_get h))
end Go.Proofs.Ytmedbpiapeiobaa
