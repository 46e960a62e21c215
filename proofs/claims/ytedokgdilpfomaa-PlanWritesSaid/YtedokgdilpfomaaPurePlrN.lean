/- What PlrN needs. -/
import Derived.Test.YtedokgdilpfomaaPurePlrK
import Derived.Test.YtedokgdilpfomaaEngBits
set_option linter.unusedVariables false
set_option linter.unusedSimpArgs false
namespace Go.Proofs.Ytedokgdilpfomaa
open Go Go.Eng Go.Proofs
/-! ### A plan's reading -/
def byt (x : List Int) : Prop := ∀ c ∈ x, 0 ≤ c ∧ c ≤ 255
def rdn : Nat → Nat → Nat → List Int → Int ⊕ (Nat × List Int)
  | 0, _, _, _ => .inl 13
  | _ + 1, _, _, [] => .inl 2
  | f + 1, i, v, c :: x => if c < 128 then (if c = 0 ∧ 0 < i then .inl 13 else .inr (v + c.toNat * 128 ^ i, x)) else rdn f (i + 1) (v + c.toNat % 128 * 128 ^ i) x
theorem byt_tail {c : Int} {x : List Int} (h : byt (c :: x)) : byt x := fun d hd => h d (by simp [hd])
theorem byt_app {a x : List Int} (h : byt (a ++ x)) : byt x := fun d hd => h d (by simp [hd])
theorem rdn_err : ∀ f i v x e, rdn f i v x = .inl e → e = 2 ∨ e = 13
  | 0, i, v, x, e, h => by rw [rdn] at h; cases h; simp
  | f + 1, i, v, [], e, h => by rw [rdn] at h; cases h; simp
  | f + 1, i, v, c :: x, e, h => by
    rw [rdn] at h
    split at h
    · split at h
      · cases h; simp
      · cases h
    · exact rdn_err f _ _ _ _ h
theorem rdn_ok : ∀ f i v x v' r, byt x → rdn f i v x = .inr (v', r) → ∃ m : Nat, v' = v + m * 128 ^ i ∧ (0 < i → m ≠ 0) ∧ x = num m ++ r
  | 0, i, v, x, v', r, hx, h => by rw [rdn] at h; cases h
  | f + 1, i, v, [], v', r, hx, h => by rw [rdn] at h; cases h
  | f + 1, i, v, c :: x, v', r, hx, h => by
    have hc := hx c (by simp)
    rw [rdn] at h
    split at h
    · split at h
      · cases h
      · rename_i h1 h2
        cases h
        refine ⟨c.toNat, rfl, fun hi => by omega, ?_⟩
        rw [num_lt _ (by omega), show ((c.toNat : Nat) : Int) = c by omega]
        rfl
    · rename_i h1
      obtain ⟨m, rfl, h2, rfl⟩ := rdn_ok f (i + 1) _ x v' r (byt_tail hx) h
      have := h2 (by omega)
      refine ⟨c.toNat % 128 + 128 * m, ?_, fun _ => by omega, ?_⟩
      · rw [Nat.add_mul, Nat.pow_succ, Nat.add_assoc]
        congr 2
        rw [Nat.mul_comm 128 m, Nat.mul_assoc, Nat.mul_comm (128 ^ i) 128]
      · rw [num_ge (c.toNat % 128 + 128 * m) (by omega), show (c.toNat % 128 + 128 * m) / 128 = m by omega, show (((c.toNat % 128 + 128 * m) % 128 + 128 : Nat) : Int) = c by omega]
        rfl
theorem rdn_lt : ∀ f i v x v' r, rdn f i v x = .inr (v', r) → byt x → v < 128 ^ i → v' < 128 ^ (i + f)
  | 0, i, v, x, v', r, h, hx, hv => by rw [rdn] at h; cases h
  | f + 1, i, v, [], v', r, h, hx, hv => by rw [rdn] at h; cases h
  | f + 1, i, v, c :: x, v', r, h, hx, hv => by
    have hp : ∀ a, a ≤ 127 → v + a * 128 ^ i < 128 ^ (i + 1) := fun a ha => by
      have h2 : a * 128 ^ i ≤ 127 * 128 ^ i := Nat.mul_le_mul_right _ ha
      rw [Nat.pow_succ]
      omega
    rw [rdn] at h
    split at h
    · split at h
      · cases h
      · cases h
        refine Nat.lt_of_lt_of_le (hp _ (by omega)) (Nat.pow_le_pow_right (by omega) (by omega))
    · have := rdn_lt f (i + 1) _ x v' r h (byt_tail hx) (hp _ (by omega))
      rwa [show i + 1 + f = i + (f + 1) by omega] at this
theorem rdn_num : ∀ f i v m r, m < 128 ^ f → 0 < f → (0 < i → m ≠ 0) → rdn f i v (num m ++ r) = .inr (v + m * 128 ^ i, r)
  | 0, i, v, m, r, h, h0, hi => by omega
  | f + 1, i, v, m, r, h, h0, hi => by
    by_cases c : m < 128
    · rw [num_lt m c, List.singleton_append, rdn, if_pos (by omega), if_neg (by omega), Int.toNat_natCast]
    · have hf : 0 < f := by
        rcases Nat.eq_zero_or_pos f with e | e
        · subst e; rw [Nat.pow_one] at h; omega
        · exact e
      rw [num_ge m (by omega), List.cons_append, rdn, if_neg (by omega), rdn_num f (i + 1) _ (m / 128) r (by rw [Nat.div_lt_iff_lt_mul (by omega), ← Nat.pow_succ]; exact h) hf (fun _ => by omega)]
      rw [Int.toNat_natCast, show (m % 128 + 128) % 128 = m % 128 by omega, Nat.pow_succ, Nat.add_assoc, Nat.mul_comm (128 ^ i) 128, ← Nat.mul_assoc, ← Nat.add_mul, show m % 128 + m / 128 * 128 = m by omega]
theorem shl7 (a i : Nat) (ha : a ≤ 127) (hi : i ≤ 4) : shlI .i64 (IntKind.wrap .i64 (a : Int)) (IntKind.wrap .i64 ((7 : Int) * (i : Int))) = ((a * 128 ^ i : Nat) : Int) := by
  rw [w64 (n := (a : Int)) (by omega) (by omega), w64 (n := (7 : Int) * (i : Int)) (by omega) (by omega), show (7 : Int) * (i : Int) = ((7 * i : Nat) : Int) by omega, shl_nat _ _ _ (by show 7 * i ≤ 64; omega), Nat.shiftLeft_eq, Nat.pow_mul, show (2 : Nat) ^ 7 = 128 from rfl]
  have h1 : 128 ^ i ≤ 128 ^ 4 := Nat.pow_le_pow_right (by omega) hi
  have h2 : a * 128 ^ i ≤ 127 * 128 ^ i := Nat.mul_le_mul_right _ ha
  rw [w64 (by omega) (by omega)]
theorem take63 (x : List Int) (n : Nat) : F63.m x (n : Int) = if x.length < n then some (.inl ()) else some (.inr (x.take n, x.drop n)) := by
  unfold F63.m
  by_cases h : x.length < n
  · rw [if_pos (by omega), if_pos h]
  · rw [if_neg (by omega), if_neg h, if_pos (by omega), if_pos (by omega)]
    unfold subL
    simp only [Int.toNat_natCast, Int.toNat_zero, List.drop_zero, Nat.sub_zero]
    rw [List.take_of_length_le (l := x.drop n) (by simp)]
theorem one61n : F61.m [] = some (.inl ()) := by
  unfold F61.m
  rw [show (1 : Int) = ((1 : Nat) : Int) from rfl, take63, if_pos (by simp)]
  rfl
theorem one61c (c : Int) (x : List Int) : F61.m (c :: x) = some (.inr (c, x)) := by
  unfold F61.m
  rw [show F63.m (c :: x) (1 : Int) = F63.m (c :: x) ((1 : Nat) : Int) from rfl, take63, if_neg (by simp), Option.bind_some]
  simp only [List.take_succ_cons, List.take_zero, List.drop_succ_cons, List.drop_zero]
  rw [if_pos (by simp)]
  rfl
theorem add7 (v a i : Nat) (hv : v < 128 ^ i) (ha : a ≤ 127) (hi : i ≤ 4) : v + a * 128 ^ i < 128 ^ (i + 1) ∧ v + a * 128 ^ i < 34359738368 := by
  have h1 : 128 ^ i ≤ 128 ^ 4 := Nat.pow_le_pow_right (by omega) hi
  have h2 : a * 128 ^ i ≤ 127 * 128 ^ i := Nat.mul_le_mul_right _ ha
  rw [Nat.pow_succ]
  omega
theorem number62 (x : List Int) (hx : byt x) : match rdn 5 0 0 x with
    | .inl e => ∃ r, F62.m x = some (.inl (e, r))
    | .inr (v, r) => F62.m x = some (.inr ((v : Int), r)) := by
  unfold F62.m
  obtain ⟨y, hy, hQ⟩ := loop_ends (b := F62.b1) (fun s => ∃ (i v : Nat) (z : List Int), s = (z, (v : Int), (i : Int)) ∧ i ≤ 5 ∧ v < 128 ^ i ∧ byt z ∧ rdn (5 - i) i v z = rdn 5 0 0 x) (fun s => (5 - s.2.2).toNat)
    (fun y => match rdn 5 0 0 x with | .inl e => (∃ r, y = .inl (.inl (e, r))) ∨ (e = 13 ∧ ∃ r, y = .inr r) | .inr (v, r) => y = .inl (.inr ((v : Int), r))) (fun s hs => by
      obtain ⟨i, v, z, rfl, hi, hv, hz, he⟩ := hs
      simp only [F62.b1]
      by_cases h : i < 5
      · rw [if_pos (by omega)]
        obtain ⟨f, hf⟩ : ∃ f, 5 - i = f + 1 := ⟨4 - i, by omega⟩
        rw [hf] at he
        cases z with
        | nil =>
          rw [rdn] at he
          rw [one61n, Option.bind_some]
          refine out_ (x := (([] : List Int), (v : Int), (i : Int))) ?_
          rw [← he]
          exact .inl ⟨_, rfl⟩
        | cons c z =>
          have hc := hz c (by simp)
          obtain ⟨c, rfl⟩ := nat_of hc.1
          rw [rdn] at he
          rw [one61c, Option.bind_some]
          simp only
          have ha := add7 v (c % 128) i hv (by omega) (by omega)
          rw [w64 (n := (7 : Int) * (i : Int)) (by omega) (by omega), if_pos (by omega), show (128 : Int) = ((128 : Nat) : Int) from rfl, tmod_nat, show ((7 : Int) * (i : Int)) = IntKind.wrap .i64 ((7 : Int) * (i : Int)) from (w64 (by omega) (by omega)).symm, shl7 (c % 128) i (by omega) (by omega)]
          rw [w64 (n := (v : Int) + _) (by omega) (by omega)]
          by_cases h1 : c < 128
          · rw [if_pos (by omega)] at he
            rw [if_pos (by omega)]
            by_cases h2 : c = 0
            · rw [if_pos (by omega)]
              by_cases h3 : 0 < i
              · rw [if_pos (by omega)] at he
                rw [if_pos (by omega)]
                refine out_ (x := (((c : Int) :: z), (v : Int), (i : Int))) ?_
                rw [← he]
                exact .inr ⟨rfl, _, rfl⟩
              · rw [if_neg (by omega)] at he
                rw [if_neg (by omega)]
                refine out_ (x := (((c : Int) :: z), (v : Int), (i : Int))) ?_
                rw [← he, Int.toNat_natCast, Nat.mod_eq_of_lt h1]
                simp
            · rw [if_neg (by omega)] at he
              rw [if_neg (by omega)]
              refine out_ (x := (((c : Int) :: z), (v : Int), (i : Int))) ?_
              rw [← he, Int.toNat_natCast, Nat.mod_eq_of_lt h1]
              simp
          · rw [if_neg (by omega), Int.toNat_natCast] at he
            rw [if_neg (by omega), w64 (by omega) (by omega)]
            refine on_ (x := (((c : Int) :: z), (v : Int), (i : Int))) ⟨i + 1, v + c % 128 * 128 ^ i, z, ?_, by omega, ha.1, byt_tail hz, ?_⟩ (by simp only; omega)
            · simp
            · rw [show 5 - (i + 1) = f by omega]; exact he
      · obtain rfl : i = 5 := by omega
        rw [if_neg (by omega)]
        refine out_ (x := (z, (v : Int), ((5 : Nat) : Int))) ?_
        rw [show 5 - 5 = 0 from rfl, rdn] at he
        rw [← he]
        exact .inr ⟨rfl, _, rfl⟩) (x, 0, 0) ⟨0, 0, x, rfl, by omega, by simp, hx, rfl⟩
  rw [hy]
  generalize rdn 5 0 0 x = V at hQ ⊢
  cases V with
  | inl e =>
    rcases hQ with ⟨r, rfl⟩ | ⟨rfl, r, rfl⟩
    · exact ⟨r, rfl⟩
    · exact ⟨r, rfl⟩
  | inr vr =>
    obtain ⟨v, r⟩ := vr
    simp only at hQ
    subst hQ
    rfl
def rdf (k : Int) (x : List Int) : Int ⊕ (Nat × List Int) := if k = 1 then .inr (0, x) else rdn 5 0 0 x
def fin (k : Int) (n f : Nat) (x : List Int) : Int ⊕ (Stp × List Int) :=
  if n < 1 then .inl 13 else if 4096 < n then .inl 13 else if 2147483647 < f then .inl 13 else if k = 2 then .inr ((k, (f : Int), (n : Int), []), x) else if x.length < n then .inl 2 else .inr ((k, (f : Int), (n : Int), x.take n), x.drop n)
def rds : List Int → Int ⊕ (Stp × List Int)
  | [] => .inl 2
  | k :: x => if k < 1 then .inl 13 else if 3 < k then .inl 13 else match rdn 5 0 0 x with
    | .inl e => .inl e
    | .inr (n, x1) => match rdf k x1 with
      | .inl e => .inl e
      | .inr (f, x2) => fin k n f x2
def rda : Nat → List Stp → List Int → Int ⊕ List Stp
  | 0, _, _ => .inl 13
  | f + 1, acc, x => if x = [] then .inr acc else match rds x with
    | .inl e => .inl e
    | .inr (s, r) => rda f (acc ++ [s]) r
theorem fin46 (k : Int) (n f : Nat) (x q r0 : List Int) : match fin k n f x with
    | .inl e => ∃ r, F46.j1 (k, q) ((n : Int), r0) x (f : Int) = some (.inl (e, r))
    | .inr (s, r) => F46.j1 (k, q) ((n : Int), r0) x (f : Int) = some (.inr (s.1, s.2.1, s.2.2.1, s.2.2.2, r)) := by
  unfold fin F46.j1
  simp only
  by_cases h1 : n < 1
  · rw [if_pos h1, if_pos (by omega)]; exact ⟨_, rfl⟩
  rw [if_neg h1, if_neg (show ¬ (n : Int) < 1 by omega)]
  by_cases h2 : 4096 < n
  · rw [if_pos h2, if_pos (by omega)]; exact ⟨_, rfl⟩
  rw [if_neg h2, if_neg (show ¬ (4096 : Int) < (n : Int) by omega)]
  by_cases h3 : 2147483647 < f
  · rw [if_pos h3, if_pos (by omega)]; exact ⟨_, rfl⟩
  rw [if_neg h3, if_neg (show ¬ (2147483647 : Int) < (f : Int) by omega)]
  by_cases h4 : k = 2
  · rw [if_pos h4, if_pos h4]; rfl
  rw [if_neg h4, if_neg h4, take63]
  by_cases h5 : x.length < n
  · rw [if_pos h5, if_pos h5]; exact ⟨_, rfl⟩
  · rw [if_neg h5, if_neg h5, Option.bind_some]
    simp only
    unfold F60.m
    rw [if_pos (by simp; omega)]
    rfl
theorem step46 (x : List Int) (hx : byt x) : match rds x with
    | .inl e => ∃ r, F46.m x = some (.inl (e, r))
    | .inr (s, r) => F46.m x = some (.inr (s.1, s.2.1, s.2.2.1, s.2.2.2, r)) := by
  cases x with
  | nil =>
    unfold F46.m
    rw [one61n]
    exact ⟨_, rfl⟩
  | cons k x =>
    unfold F46.m
    rw [one61c, Option.bind_some, rds]
    simp only
    by_cases h1 : k < 1
    · rw [if_pos h1, if_pos h1]; exact ⟨_, rfl⟩
    rw [if_neg h1, if_neg h1]
    by_cases h2 : 3 < k
    · rw [if_pos h2, if_pos h2]; exact ⟨_, rfl⟩
    rw [if_neg h2, if_neg h2]
    have e1 := number62 x (byt_tail hx)
    have b1 := fun n x1 h => rdn_ok 5 0 0 x n x1 (byt_tail hx) h
    generalize rdn 5 0 0 x = V at e1 b1 ⊢
    cases V with
    | inl e => obtain ⟨r, hr⟩ := e1; rw [hr]; exact ⟨_, rfl⟩
    | inr nx =>
      obtain ⟨n, x1⟩ := nx
      simp only at e1 ⊢
      obtain ⟨m, _, _, hm⟩ := b1 n x1 rfl
      have hx1 : byt x1 := byt_app (a := num m) (by rw [← hm]; exact byt_tail hx)
      rw [e1, Option.bind_some]
      simp only
      unfold rdf
      by_cases h3 : k = 1
      · rw [if_pos h3, if_pos h3]
        exact fin46 k n 0 x1 x x1
      rw [if_neg h3, if_neg h3]
      have e2 := number62 x1 hx1
      generalize rdn 5 0 0 x1 = V at e2 ⊢
      cases V with
      | inl e => obtain ⟨r, hr⟩ := e2; rw [hr]; exact ⟨_, rfl⟩
      | inr nx =>
        obtain ⟨f, x2⟩ := nx
        simp only at e2 ⊢
        rw [e2, Option.bind_some]
        exact fin46 k n f x2 x x1
theorem rds_err (x : List Int) (e : Int) (h : rds x = .inl e) : e = 2 ∨ e = 13 := by
  cases x with
  | nil => rw [rds] at h; cases h; simp
  | cons k x =>
    rw [rds] at h
    split at h
    · cases h; simp
    split at h
    · cases h; simp
    split at h
    · rename_i e' he; cases h; exact rdn_err _ _ _ _ _ he
    split at h
    · rename_i e' he
      cases h
      unfold rdf at he
      split at he
      · cases he
      · exact rdn_err _ _ _ _ _ he
    unfold fin at h
    split at h
    · cases h; simp
    split at h
    · cases h; simp
    split at h
    · cases h; simp
    split at h
    · cases h
    split at h
    · cases h; simp
    · cases h
theorem rds_ok (x : List Int) (hx : byt x) (s : Stp) (r : List Int) (h : rds x = .inr (s, r)) : rt s = true ∧ x = pst s ++ r := by
  cases x with
  | nil => rw [rds] at h; cases h
  | cons k x =>
    rw [rds] at h
    split at h
    · cases h
    split at h
    · cases h
    rename_i h1 h2
    split at h
    · cases h
    rename_i n x1 hn
    obtain ⟨m, hm, _, rfl⟩ := rdn_ok 5 0 0 x n x1 (byt_tail hx) hn
    rw [Nat.pow_zero, Nat.mul_one, Nat.zero_add] at hm
    subst hm
    have hx1 : byt x1 := byt_app (a := num n) (byt_tail hx)
    split at h
    · cases h
    rename_i f x2 hf
    have hf' : (k = 1 → f = 0) ∧ x1 = (if k = 1 then [] else num f) ++ x2 := by
      unfold rdf at hf
      split at hf
      · rename_i h3
        cases hf
        rw [if_pos h3]
        exact ⟨fun _ => rfl, rfl⟩
      · rename_i h3
        obtain ⟨m, hm, _, rfl⟩ := rdn_ok 5 0 0 x1 f x2 hx1 hf
        rw [Nat.pow_zero, Nat.mul_one, Nat.zero_add] at hm
        subst hm
        rw [if_neg h3]
        exact ⟨fun h => absurd h h3, rfl⟩
    obtain ⟨hk, rfl⟩ := hf'
    unfold fin at h
    split at h
    · cases h
    split at h
    · cases h
    split at h
    · cases h
    rename_i c1 c2 c3
    split at h
    · rename_i h4
      cases h
      refine ⟨decide_eq_true ?_, ?_⟩
      · simp only [List.length_nil]
        exact ⟨by omega, by omega, by omega, by omega, .inr (.inl ⟨h4, trivial⟩)⟩
      · unfold pst
        simp only [Int.toNat_natCast]
        simp
    split at h
    · cases h
    · rename_i h4 h5
      cases h
      refine ⟨decide_eq_true ?_, ?_⟩
      · simp only [List.length_take]
        refine ⟨by omega, by omega, by omega, by omega, ?_⟩
        by_cases h6 : k = 1
        · exact .inl ⟨h6, by rw [hk h6]; rfl, by omega⟩
        · exact .inr (.inr ⟨by omega, by omega⟩)
      · unfold pst
        simp only [Int.toNat_natCast]
        simp
theorem rds_pst (s : Stp) (hs : rt s = true) (r : List Int) : rds (pst s ++ r) = .inr (s, r) := by
  obtain ⟨k, f, n, d⟩ := s
  have hin := rt_in hs
  simp only at hin
  obtain ⟨f, rfl⟩ := nat_of hin.2.2.1
  obtain ⟨n, rfl⟩ := nat_of (show 0 ≤ n by omega)
  unfold pst
  simp only [Int.toNat_natCast, List.cons_append, List.append_assoc]
  rw [rds, if_neg (by omega), if_neg (by omega), rdn_num 5 0 0 n _ (by omega) (by omega) (by omega)]
  simp only [Nat.pow_zero, Nat.mul_one, Nat.zero_add]
  have e : rdf k ((if k = 1 then [] else num f) ++ (d ++ r)) = .inr (f, d ++ r) := by
    unfold rdf
    by_cases h : k = 1
    · rw [if_pos h, if_pos h, show f = 0 by omega]; rfl
    · rw [if_neg h, if_neg h, rdn_num 5 0 0 f _ (by omega) (by omega) (by omega)]
      simp
  rw [e]
  simp only
  unfold fin
  rw [if_neg (by omega), if_neg (by omega), if_neg (by omega)]
  by_cases h : k = 2
  · rw [if_pos h, show d = [] from List.length_eq_zero_iff.1 (by omega)]
    rfl
  · rw [if_neg h, if_neg (by simp; omega), List.take_left' (by omega), List.drop_left' (by omega)]
theorem rds_lt (x : List Int) (hx : byt x) (s : Stp) (r : List Int) (h : rds x = .inr (s, r)) : r.length < x.length ∧ byt r := by
  obtain ⟨h1, rfl⟩ := rds_ok x hx s r h
  have := pst_len h1
  exact ⟨by rw [List.length_append]; omega, byt_app hx⟩
theorem rda_ok : ∀ f acc x l, byt x → rda f acc x = .inr l → ∃ l', l = acc ++ l' ∧ put l' = x ∧ ∀ s ∈ l', rt s = true
  | 0, acc, x, l, hx, h => by rw [rda] at h; cases h
  | f + 1, acc, x, l, hx, h => by
    rw [rda] at h
    split at h
    · rename_i h1; cases h; subst h1; exact ⟨[], by simp, rfl, by simp⟩
    · split at h
      · cases h
      · rename_i s r hs
        obtain ⟨h1, rfl⟩ := rds_ok x hx s r hs
        obtain ⟨l', rfl, h2, h3⟩ := rda_ok f _ _ _ (byt_app hx) h
        refine ⟨s :: l', by simp, ?_, fun t ht => ?_⟩
        · rw [← h2]; rfl
        · rcases List.mem_cons.1 ht with rfl | ht
          · exact h1
          · exact h3 t ht
theorem rda_err : ∀ f acc x e, rda f acc x = .inl e → e = 2 ∨ e = 13
  | 0, acc, x, e, h => by rw [rda] at h; cases h; simp
  | f + 1, acc, x, e, h => by
    rw [rda] at h
    split at h
    · cases h
    · split at h
      · rename_i hs; cases h; exact rds_err _ _ hs
      · exact rda_err f _ _ _ h
theorem rda_put : ∀ (l acc : List Stp) f, (∀ s ∈ l, rt s = true) → (put l).length < f → rda f acc (put l) = .inr (acc ++ l)
  | [], acc, 0, h, hf => by omega
  | [], acc, f + 1, h, hf => by rw [rda, if_pos (by rfl)]; simp
  | s :: l, acc, 0, h, hf => by omega
  | s :: l, acc, f + 1, h, hf => by
    have h1 := h s (by simp)
    have h2 := pst_len h1
    have e : put (s :: l) = pst s ++ put l := rfl
    rw [e, List.length_append] at hf
    rw [e, rda, if_neg (fun h => by have := congrArg List.length h; rw [List.length_append, List.length_nil] at this; omega), rds_pst s h1]
    simp only
    rw [rda_put l (acc ++ [s]) f (fun t ht => h t (by simp [ht])) (by omega)]
    simp
def res : Int ⊕ List Stp → List Stp × Int
  | .inl e => ([], e)
  | .inr l => (l, 0)
theorem get19 (x : List Int) (most : Int) (hx : byt x) (hl : x.length ≤ 1000000) : F19.m x most = some (if most < (x.length : Int) then ([], 12) else res (rda (x.length + 1) [] x)) := by
  unfold F19.m
  by_cases h : most < (x.length : Int)
  · rw [if_pos h, if_pos h]
  rw [if_neg h, if_neg h]
  obtain ⟨y, hy, hQ⟩ := loop_ends (b := F19.b1) (fun s => byt s.2 ∧ s.1.length + s.2.length ≤ x.length ∧ ∃ f, s.2.length < f ∧ rda f s.1 s.2 = rda (x.length + 1) [] x) (fun s => s.2.length)
    (fun y => match rda (x.length + 1) [] x with | .inl e => y = .inl ([], e) | .inr l => y = .inr l) (fun s hs => by
      obtain ⟨acc, z⟩ := s
      obtain ⟨hz, hlen, f, hf, he⟩ := hs
      simp only at hz hlen hf he
      simp only [F19.b1]
      obtain ⟨f, rfl⟩ : ∃ g, f = g + 1 := ⟨f - 1, by omega⟩
      rw [rda] at he
      by_cases h0 : z = []
      · subst h0
        rw [if_pos rfl] at he
        rw [if_neg (by simp)]
        refine out_ (x := (acc, ([] : List Int))) ?_
        rw [← he]
      · have hp : 0 < z.length := List.length_pos_iff.2 h0
        rw [if_neg h0] at he
        rw [if_pos (by omega)]
        have hs := step46 z hz
        have hlt := fun s r h => rds_lt z hz s r h
        generalize rds z = V at hs he hlt
        cases V with
        | inl e =>
          obtain ⟨r, hr⟩ := hs
          rw [hr, Option.bind_some]
          refine out_ (x := (acc, z)) ?_
          rw [← he]
        | inr sr =>
          obtain ⟨s, r⟩ := sr
          simp only at hs he
          obtain ⟨h1, h2⟩ := hlt s r rfl
          rw [hs, Option.bind_some]
          simp only
          rw [if_pos (by simp; omega)]
          exact on_ (x := (acc, z)) ⟨h2, by simp; omega, f, by simp only; omega, he⟩ (by simp only; omega)) ([], x) ⟨hx, by simp, x.length + 1, by simp, rfl⟩
  rw [hy, Option.bind_some]
  generalize rda (x.length + 1) [] x = V at hQ ⊢
  cases V with
  | inl e => simp only at hQ; subst hQ; rfl
  | inr l => simp only at hQ; subst hQ; rfl
theorem same21 (l : List Stp) (hl : l.length ≤ 1000000) : F21.m l l = some true := by
  unfold F21.m
  rw [if_pos rfl]
  rw [loop_done (b := F21.b1 l l) (x := (0 : Int)) (fun k => (k : Int)) l.length (.inr ()) (fun k hk => ?_) ?_ rfl]
  · rfl
  · simp only [F21.b1]
    rw [if_neg (by omega)]
  · simp only [F21.b1]
    rw [if_pos (by omega), if_pos (by omega), if_pos (by omega), if_pos trivial, if_pos trivial, if_pos trivial, if_pos trivial, w64 (by omega) (by omega)]
    rfl
theorem num_byt : ∀ n, byt (num n) := by
  intro n
  induction n using Nat.strongRecOn with
  | _ n ih =>
    intro c hc
    by_cases h : n < 128
    · rw [num_lt n h, List.mem_singleton] at hc
      omega
    · rw [num_ge n (by omega)] at hc
      rcases List.mem_cons.1 hc with rfl | hc
      · omega
      · exact ih (n / 128) (by omega) c hc
end Go.Proofs.Ytedokgdilpfomaa
