/- What MerkleLeads needs. -/
import Derived.Test.YtmedbpiapeiobaaPureMeL
import Derived.Test.YtmedbpiapeiobaaYMerkleLeads
set_option linter.unusedVariables false
set_option linter.unusedSimpArgs false
namespace Go.Proofs.Ytmedbpiapeiobaa
open Go Go.Eng Go.Proofs
theorem F51_run : ∀ (f i n : Nat), lg n < f → i < n → n ≤ 9223372036854775807 → F51.mF f i n = some ((tn i n).length : Int)
  | 0, _, _, h, _, _ => by omega
  | f + 1, i, n, h, hi, hn => by
    simp only [F51.mF, F51.g]
    by_cases a : n = 1
    · subst a
      rw [if_pos (by omega), tn, dif_pos (by omega)]
      rfl
    have hb := hf_bd n (by omega)
    have hl := lg_half n (by omega)
    have h63 := lg_63 n hn
    rw [tn, dif_neg (by omega), if_neg (by omega), F77_is n (by omega) hn, Option.bind_some]
    by_cases c : hf n ≤ i
    · have := tn_len (i - hf n) (n - hf n)
      rw [if_pos c, if_neg (by omega), w64 (n := (i : Int) - hf n) (by omega) (by omega), w64 (n := (n : Int) - hf n) (by omega) (by omega), show (i : Int) - hf n = ((i - hf n : Nat) : Int) from by omega, show (n : Int) - hf n = ((n - hf n : Nat) : Int) from by omega, F51_run f _ _ (by omega) (by omega) (by omega), Option.bind_some, w64 (by omega) (by omega)]
      simp only [List.length_cons]
      congr 1
      omega
    · have := tn_len i (hf n)
      rw [if_neg c, if_pos (by omega), F51_run f _ _ (by omega) (by omega) (by omega), Option.bind_some, w64 (by omega) (by omega)]
      simp only [List.length_cons]
      congr 1
      omega
theorem F51_is (i n : Nat) (h : i < n) (hn : n ≤ 9223372036854775807) : F51.m i n = some ((tn i n).length : Int) :=
  evt_is (lg n + 1) (fun k hk => F51_run k i n (by omega) h hn)
theorem pure_MerkleLeads (a0 : (Arr Int 32)) (a1 : Int) (a2 : Int) (a3 : List (Arr Int 32)) (w0 : (∀ y ∈ (a0).l, InR .u8 y)) (w1 : InR .i64 a1) (w2 : InR .i64 a2) (w3 : ∀ x ∈ a3, (∀ y ∈ (x).l, InR .u8 y)) (m3 : a3.length ≤ maxLen) :
    F14.m a0 a1 a2 a3 = some true := by
  have b1 := inI64 w1
  have b2 := inI64 w2
  unfold F14.m
  rw [mer_awake]
  by_cases h : (70 : Int) < (a3.length : Int)
  · rw [if_pos h]; rfl
  rw [if_neg h, copy_is _ (by omega), Option.bind_some]
  by_cases c : a1 < 0 ∨ a2 ≤ a1
  · have h50 : F50.m a1 a2 = some (-1) := by
      unfold F50.m
      by_cases d : a1 < 0
      · rw [if_pos d]
      · rw [if_neg d, if_pos (by omega)]
    have h49 : F49.m a0 a1 a2 a3 = some (K3, 5) := by
      unfold F49.m
      rw [h50]
      rfl
    rw [h49]
    simp only [Option.bind_some, F14.j1, h50, mer_awake]
    by_cases d : a1 < 0
    · rw [if_pos d]; rfl
    · rw [if_neg d, if_pos (by omega)]; rfl
  · obtain ⟨i, rfl⟩ : ∃ i : Nat, a1 = i := ⟨a1.toNat, by omega⟩
    obtain ⟨n, rfl⟩ : ∃ n : Nat, a2 = n := ⟨a2.toNat, by omega⟩
    have hi : i < n := by omega
    have hn : n ≤ 9223372036854775807 := by omega
    rw [lead_is a0 i n a3 hi hn (by omega), Option.bind_some]
    unfold F14.j1
    rw [if_neg (by omega), if_neg (by omega), F51_is i n hi hn, Option.bind_some, steps_is i n hi hn, mer_awake]
    by_cases e : (tn i n).length = a3.length
    · rw [if_pos e, if_pos (by omega), if_pos rfl, F52_is a0 i n a3 hi hn e (by omega), Option.bind_some, if_pos rfl]
      rfl
    · rw [if_neg e, if_neg (by omega), if_pos rfl, if_pos rfl, Option.bind_some, Option.bind_some, if_pos rfl]
      rfl
end Go.Proofs.Ytmedbpiapeiobaa
