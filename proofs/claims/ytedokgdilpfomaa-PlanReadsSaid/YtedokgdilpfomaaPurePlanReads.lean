/- What PlanReads needs. -/
import Derived.Test.YtedokgdilpfomaaPurePlrN
import Derived.Test.YtedokgdilpfomaaYPlanReads
import Derived.Test.YtedokgdilpfomaaEngLaw
set_option linter.unusedVariables false
set_option linter.unusedSimpArgs false
namespace Go.Proofs.Ytedokgdilpfomaa
open Go Go.Eng Go.Proofs
theorem number64 (x : List Int) (hx : byt x) (hl : x.length ≤ 1000000) (p : Nat) (hp : p ≤ x.length) : match rdn 5 0 0 (x.drop p) with
    | .inl e => F64.m x (p : Int) = some (0, 0, e)
    | .inr (v, r) => ∃ q : Nat, p < q ∧ q ≤ x.length ∧ r = x.drop q ∧ F64.m x (p : Int) = some ((v : Int), (q : Int), 0) := by
  unfold F64.m
  obtain ⟨y, hy, hQ⟩ := loop_ends (b := F64.b1 x (p : Int)) (fun s => ∃ (i v : Nat), s = ((v : Int), ((128 ^ i : Nat) : Int), (i : Int)) ∧ i ≤ 5 ∧ p + i ≤ x.length ∧ v < 128 ^ i ∧ rdn (5 - i) i v (x.drop (p + i)) = rdn 5 0 0 (x.drop p)) (fun s => (5 - s.2.2).toNat)
    (fun y => match rdn 5 0 0 (x.drop p) with | .inl e => y = .inl (0, 0, e) ∨ (e = 13 ∧ y = .inr ()) | .inr (v, r) => ∃ q : Nat, p < q ∧ q ≤ x.length ∧ r = x.drop q ∧ y = .inl ((v : Int), (q : Int), 0)) (fun s hs => by
      obtain ⟨i, v, rfl, hi, hpi, hv, he⟩ := hs
      simp only [F64.b1]
      by_cases h : i < 5
      · rw [if_pos (by omega), w64 (n := (p : Int) + (i : Int)) (by omega) (by omega)]
        obtain ⟨f, hf⟩ : ∃ f, 5 - i = f + 1 := ⟨4 - i, by omega⟩
        rw [hf] at he
        have h1 : 128 ^ i ≤ 128 ^ 4 := Nat.pow_le_pow_right (by omega) (by omega)
        by_cases hz : p + i = x.length
        · rw [List.drop_of_length_le (by omega), rdn] at he
          rw [if_pos (by omega)]
          refine out_ (x := ((v : Int), ((128 ^ i : Nat) : Int), (i : Int))) ?_
          rw [← he]
          exact .inl rfl
        · rw [if_neg (by omega), if_pos (by omega), show (p : Int) + (i : Int) = ((p + i : Nat) : Int) by omega]
          rw [drop_gd x (p + i) (by omega), rdn] at he
          have hc := hx _ (gd_mem x (p + i) (by omega))
          obtain ⟨c, hcc⟩ := nat_of hc.1
          rw [hcc] at he hc ⊢
          have ha := add7 v (c % 128) i hv (by omega) (by omega)
          rw [w64 (n := (c : Int)) (by omega) (by omega), show (128 : Int) = ((128 : Nat) : Int) from rfl, tmod_nat]
          have h2 : c % 128 * 128 ^ i ≤ 127 * 128 ^ i := Nat.mul_le_mul_right _ (by omega)
          have e1 : ((128 ^ i : Nat) : Int) * ((c % 128 : Nat) : Int) = ((c % 128 * 128 ^ i : Nat) : Int) := by rw [Int.natCast_mul (c % 128), Int.mul_comm]
          rw [e1, w64 (n := ((c % 128 * 128 ^ i : Nat) : Int)) (by omega) (by omega), w64 (n := (v : Int) + _) (by omega) (by omega), w64 (n := ((p + i : Nat) : Int) + 1) (by omega) (by omega)]
          have fin : ∀ e, (Sum.inr (v + c * 128 ^ i, x.drop (p + i + 1)) : Int ⊕ (Nat × List Int)) = e → c < 128 → (match e with | .inl e => (Sum.inl ((v : Int) + ((c % 128 * 128 ^ i : Nat) : Int), ((p + i : Nat) : Int) + 1, (0 : Int)) : (Int × Int × Int) ⊕ Unit) = .inl (0, 0, e) ∨ (e = 13 ∧ (Sum.inl ((v : Int) + ((c % 128 * 128 ^ i : Nat) : Int), ((p + i : Nat) : Int) + 1, (0 : Int)) : (Int × Int × Int) ⊕ Unit) = .inr ()) | .inr (v', r) => ∃ q : Nat, p < q ∧ q ≤ x.length ∧ r = x.drop q ∧ (Sum.inl ((v : Int) + ((c % 128 * 128 ^ i : Nat) : Int), ((p + i : Nat) : Int) + 1, (0 : Int)) : (Int × Int × Int) ⊕ Unit) = .inl ((v' : Int), (q : Int), 0)) := by
            rintro _ rfl hc8
            refine ⟨p + i + 1, by omega, by omega, rfl, ?_⟩
            rw [Nat.mod_eq_of_lt hc8]
            simp
          by_cases h8 : c < 128
          · rw [if_pos (by omega)] at he
            rw [if_pos (by omega)]
            by_cases h9 : c = 0
            · rw [if_pos (by omega)]
              by_cases h3 : 0 < i
              · rw [if_pos (by omega)] at he
                rw [if_pos (by omega)]
                refine out_ (x := ((v : Int), ((128 ^ i : Nat) : Int), (i : Int))) ?_
                rw [← he]
                exact .inl rfl
              · rw [if_neg (by omega), Int.toNat_natCast] at he
                rw [if_neg (by omega)]
                exact out_ (x := ((v : Int), ((128 ^ i : Nat) : Int), (i : Int))) (fin _ he h8)
            · rw [if_neg (by omega), Int.toNat_natCast] at he
              rw [if_neg (by omega)]
              exact out_ (x := ((v : Int), ((128 ^ i : Nat) : Int), (i : Int))) (fin _ he h8)
          · rw [if_neg (by omega), Int.toNat_natCast] at he
            rw [if_neg (by omega), w64 (n := (i : Int) + 1) (by omega) (by omega), show ((128 ^ i : Nat) : Int) * ((128 : Nat) : Int) = ((128 ^ (i + 1) : Nat) : Int) by rw [Nat.pow_succ]; simp]
            rw [w64 (n := ((128 ^ (i + 1) : Nat) : Int)) (by omega) (by rw [Nat.pow_succ]; omega)]
            refine on_ (x := ((v : Int), ((128 ^ i : Nat) : Int), (i : Int))) ⟨i + 1, v + c % 128 * 128 ^ i, ?_, by omega, by omega, ha.1, ?_⟩ (by simp only; omega)
            · simp
            · rw [show 5 - (i + 1) = f by omega]; exact he
      · obtain rfl : i = 5 := by omega
        rw [if_neg (by omega)]
        refine out_ (x := ((v : Int), ((128 ^ 5 : Nat) : Int), ((5 : Nat) : Int))) ?_
        rw [show 5 - 5 = 0 from rfl, rdn] at he
        rw [← he]
        exact .inr ⟨rfl, rfl⟩) (0, 1, 0) ⟨0, 0, rfl, by omega, by omega, by simp, rfl⟩
  rw [hy]
  generalize rdn 5 0 0 (x.drop p) = V at hQ ⊢
  cases V with
  | inl e =>
    rcases hQ with rfl | ⟨rfl, rfl⟩
    · rfl
    · rfl
  | inr vr =>
    obtain ⟨q, h1, h2, h3, rfl⟩ := hQ
    exact ⟨q, h1, h2, h3, rfl⟩
theorem fin47 (x : List Int) (hl : x.length ≤ 1000000) (p : Nat) (hp : p < x.length) (n f q q0 : Nat) (e0 : Int) (hq : p < q ∧ q ≤ x.length) (hk : gd x (p : Int) ≤ 3) (hn : n < 34359738368) : match fin (gd x (p : Int)) n f (x.drop q) with
    | .inl e => ∃ s : Int × Int × Int × List Int × Int, F47.j1 x (p : Int) ((n : Int), (q0 : Int), e0) (f : Int) (q : Int) = some (s.1, s.2.1, s.2.2.1, s.2.2.2.1, s.2.2.2.2, e)
    | .inr (s, r) => ∃ q' : Nat, p < q' ∧ q' ≤ x.length ∧ r = x.drop q' ∧ F47.j1 x (p : Int) ((n : Int), (q0 : Int), e0) (f : Int) (q : Int) = some (s.1, s.2.1, s.2.2.1, s.2.2.2, (q' : Int), 0) := by
  unfold fin F47.j1
  simp only
  by_cases h1 : n < 1
  · rw [if_pos h1, if_pos (by omega)]; exact ⟨(_, _, _, _, _), rfl⟩
  rw [if_neg h1, if_neg (show ¬ (n : Int) < 1 by omega)]
  by_cases h2 : 4096 < n
  · rw [if_pos h2, if_pos (by omega)]; exact ⟨(_, _, _, _, _), rfl⟩
  rw [if_neg h2, if_neg (show ¬ (4096 : Int) < (n : Int) by omega)]
  by_cases h3 : 2147483647 < f
  · rw [if_pos h3, if_pos (by omega)]; exact ⟨(_, _, _, _, _), rfl⟩
  rw [if_neg h3, if_neg (show ¬ (2147483647 : Int) < (f : Int) by omega)]
  by_cases h4 : gd x (p : Int) = 2
  · rw [if_pos h4, if_pos h4]; exact ⟨q, hq.1, hq.2, rfl, rfl⟩
  rw [if_neg h4, if_neg h4, w64 (n := (x.length : Int) - (q : Int)) (by omega) (by omega), List.length_drop]
  by_cases h5 : x.length - q < n
  · rw [if_pos h5, if_pos (by omega)]; exact ⟨(_, _, _, _, _), rfl⟩
  · rw [if_neg h5, if_neg (by omega), w64 (n := (q : Int) + (n : Int)) (by omega) (by omega), if_pos (by omega)]
    refine ⟨q + n, by omega, by omega, by rw [List.drop_drop], ?_⟩
    have e : subL x (q : Int) ((q : Int) + (n : Int)) = (x.drop q).take n := by
      unfold subL
      rw [show ((q : Int) + (n : Int)).toNat = q + n by omega, Int.toNat_natCast, Nat.add_sub_cancel_left]
    rw [e]
    simp
theorem step47 (x : List Int) (hx : byt x) (hl : x.length ≤ 1000000) (p : Nat) (hp : p < x.length) : match rds (x.drop p) with
    | .inl e => ∃ s : Int × Int × Int × List Int × Int, F47.m x (p : Int) = some (s.1, s.2.1, s.2.2.1, s.2.2.2.1, s.2.2.2.2, e)
    | .inr (s, r) => ∃ q' : Nat, p < q' ∧ q' ≤ x.length ∧ r = x.drop q' ∧ F47.m x (p : Int) = some (s.1, s.2.1, s.2.2.1, s.2.2.2, (q' : Int), 0) := by
  unfold F47.m
  rw [drop_gd x p hp, rds, if_pos (show 0 ≤ (p : Int) ∧ (p : Int) < (x.length : Int) by omega)]
  by_cases h1 : gd x (p : Int) < 1
  · rw [if_pos h1, if_pos h1]; exact ⟨(_, _, _, _, _), rfl⟩
  rw [if_neg h1, if_neg h1]
  by_cases h2 : 3 < gd x (p : Int)
  · rw [if_pos h2, if_pos h2]; exact ⟨(_, _, _, _, _), rfl⟩
  rw [if_neg h2, if_neg h2, w64 (n := (p : Int) + 1) (by omega) (by omega), show (p : Int) + 1 = ((p + 1 : Nat) : Int) by omega]
  have e1 := number64 x hx hl (p + 1) (by omega)
  have z1 := fun e => rdn_err 5 0 0 (x.drop (p + 1)) e
  have b1 := fun n r h => rdn_lt 5 0 0 (x.drop (p + 1)) n r h (fun c hc => hx c (List.mem_of_mem_drop hc)) (by simp)
  generalize rdn 5 0 0 (x.drop (p + 1)) = V at e1 z1 b1 ⊢
  cases V with
  | inl e =>
    have := z1 e rfl
    simp only at e1
    rw [e1, Option.bind_some, if_neg (by simp only; omega)]
    exact ⟨(_, _, _, _, _), rfl⟩
  | inr nx =>
    obtain ⟨n, x1⟩ := nx
    obtain ⟨q, g1, g2, rfl, g3⟩ := e1
    have hn := b1 n _ rfl
    simp only
    rw [g3, Option.bind_some, if_pos rfl]
    unfold rdf
    by_cases h3 : gd x (p : Int) = 1
    · rw [if_pos h3, if_neg (by omega)]
      exact fin47 x hl p hp n 0 q q 0 ⟨by omega, by omega⟩ (by omega) (by simpa using hn)
    rw [if_neg h3, if_pos (by omega)]
    have e2 := number64 x hx hl q (by omega)
    have z2 := fun e => rdn_err 5 0 0 (x.drop q) e
    generalize rdn 5 0 0 (x.drop q) = V at e2 z2 ⊢
    cases V with
    | inl e =>
      have := z2 e rfl
      simp only at e2 ⊢
      rw [e2, Option.bind_some, if_neg (by simp only; omega)]
      exact ⟨(_, _, _, _, _), rfl⟩
    | inr nx =>
      obtain ⟨f, x2⟩ := nx
      obtain ⟨q2, k1, k2, rfl, k3⟩ := e2
      simp only
      rw [k3, Option.bind_some, if_pos rfl]
      exact fin47 x hl p hp n f q2 q 0 ⟨by omega, by omega⟩ (by omega) (by simpa using hn)
theorem get20 (x : List Int) (most : Int) (hx : byt x) (hl : x.length ≤ 1000000) : F20.m x most = some (if most < (x.length : Int) then ([], 12) else res (rda (x.length + 1) [] x)) := by
  unfold F20.m
  by_cases h : most < (x.length : Int)
  · rw [if_pos h, if_pos h]
  rw [if_neg h, if_neg h]
  obtain ⟨y, hy, hQ⟩ := loop_ends (b := F20.b1 x) (fun s => ∃ p : Nat, s.2 = (p : Int) ∧ p ≤ x.length ∧ s.1.length ≤ p ∧ ∃ f, (x.drop p).length < f ∧ rda f s.1 (x.drop p) = rda (x.length + 1) [] x) (fun s => ((x.length : Int) - s.2).toNat)
    (fun y => match rda (x.length + 1) [] x with | .inl e => y = .inl ([], e) | .inr l => y = .inr l) (fun s hs => by
      obtain ⟨acc, z⟩ := s
      obtain ⟨p, rfl, hp, hlen, f, hf, he⟩ := hs
      simp only at hlen hf he
      simp only [F20.b1]
      obtain ⟨f, rfl⟩ : ∃ g, f = g + 1 := ⟨f - 1, by omega⟩
      rw [rda] at he
      by_cases h0 : p = x.length
      · rw [if_pos (by rw [h0]; simp)] at he
        rw [if_neg (by omega)]
        refine out_ (x := (acc, (p : Int))) ?_
        rw [← he]
      · rw [if_neg (by intro h; have := congrArg List.length h; simp at this; omega)] at he
        rw [if_pos (by omega)]
        have hs := step47 x hx hl p (by omega)
        have hz := fun e => rds_err (x.drop p) e
        generalize rds (x.drop p) = V at hs he hz
        cases V with
        | inl e =>
          obtain ⟨⟨s1, s2, s3, s4, s5⟩, hr⟩ := hs
          have := hz e rfl
          rw [hr, Option.bind_some, if_neg (by simp only; omega)]
          refine out_ (x := (acc, (p : Int))) ?_
          rw [← he]
        | inr sr =>
          obtain ⟨s, r⟩ := sr
          obtain ⟨q, h1, h2, rfl, h3⟩ := hs
          simp only at he
          rw [h3, Option.bind_some, if_pos rfl]
          simp only
          rw [if_pos (by simp; omega)]
          rw [List.length_drop] at hf
          exact on_ (x := (acc, (p : Int))) ⟨q, rfl, h2, by simp; omega, f, by rw [List.length_drop]; omega, he⟩ (by simp only; omega)) ([], 0) ⟨0, rfl, by omega, by simp, x.length + 1, by simp, rfl⟩
  rw [hy, Option.bind_some]
  generalize rda (x.length + 1) [] x = V at hQ ⊢
  cases V with
  | inl e => simp only at hQ; subst hQ; rfl
  | inr l => simp only at hQ; subst hQ; rfl
theorem pure_PlanReads (a0 : (List Int)) (a1 : Int) (w0 : ∀ x ∈ a0, InR .u8 x) (m0 : a0.length ≤ maxLen) (w1 : InR .i64 a1) :
    F5.m a0 a1 = some true := by
  unfold F5.m
  by_cases c0 : (5000 : Int) < (a0.length : Int)
  · rw [if_pos c0, plan_awake]; rfl
  have hx : byt a0 := fun c hc => by have := inU8 (w0 c hc); omega
  rw [if_neg c0, get19 a0 a1 hx (by omega), Option.bind_some, get20 a0 a1 hx (by omega), Option.bind_some]
  by_cases c1 : a1 < (a0.length : Int)
  · rw [if_pos c1, same21 _ (by simp), Option.bind_some, if_pos rfl, if_pos rfl, if_neg (by simp), plan_awake]; rfl
  rw [if_neg c1]
  have hok := fun l => rda_ok (a0.length + 1) [] a0 l hx
  have her := fun e => rda_err (a0.length + 1) [] a0 e
  generalize rda (a0.length + 1) [] a0 = V at hok her ⊢
  cases V with
  | inl e =>
    have := her e rfl
    rw [show res (.inl e) = (([] : List Stp), e) from rfl, same21 _ (by simp), Option.bind_some, if_pos rfl, if_pos rfl, if_neg (by omega), plan_awake]; rfl
  | inr l =>
    obtain ⟨l', h1, h2, h3⟩ := hok l rfl
    rw [List.nil_append] at h1
    subst h1
    rw [show res (.inr l) = (l, (0 : Int)) from rfl]
    have hlen := put_len l h3
    rw [h2] at hlen
    rw [same21 l (by omega), Option.bind_some, if_pos rfl, if_pos rfl, if_pos rfl, put22 l (by omega), if_pos h3, Option.bind_some, if_pos rfl, h2, if_pos rfl, plan_awake]
    rfl
end Go.Proofs.Ytedokgdilpfomaa
