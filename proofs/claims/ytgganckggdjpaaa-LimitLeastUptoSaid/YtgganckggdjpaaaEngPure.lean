/- For the plain laws: loops by their states, whole numbers in their bounds, lists by places. -/
import Derived.Test.YtgganckggdjpaaaEngLaw
import Derived.IntWalk
namespace Go.Eng
open Go

theorem loop_run {X Y : Type} {b : X → Option (X ⊕ Y)} (f : Nat → X) : ∀ n, (∀ k, k < n → b (f k) = some (.inl (f (k + 1)))) → loop b (f 0) = loop b (f n)
  | 0, _ => rfl
  | n + 1, h => by
    rw [loop_run f n (fun k hk => h k (by omega)), loop_eq, h n (by omega)]
theorem loop_done {X Y : Type} {b : X → Option (X ⊕ Y)} (f : Nat → X) (n : Nat) (y : Y) (h : ∀ k, k < n → b (f k) = some (.inl (f (k + 1)))) (he : b (f n) = some (.inr y)) {x : X} (hx : x = f 0) : loop b x = some y := by
  rw [hx, loop_run f n h, loop_eq, he]
theorem loop_ctr {X Y : Type} {b b' : X → Option (X ⊕ Y)} (h : ∀ x, b x = b' x) (x : X) : loop b x = loop b' x := by rw [show b = b' from funext h]

/-! whole numbers in their bounds -/
theorem w64 {n : Int} (h0 : -9223372036854775808 ≤ n) (h1 : n ≤ 9223372036854775807) : IntKind.wrap .i64 n = n := IntWalk.i64_in n ⟨h0, h1⟩
theorem w8 {n : Int} (h0 : 0 ≤ n) (h1 : n ≤ 255) : IntKind.wrap .u8 n = n := IntWalk.u8_in n ⟨h0, h1⟩
theorem w16 {n : Int} (h0 : 0 ≤ n) (h1 : n ≤ 65535) : IntKind.wrap .u16 n = n := IntWalk.u16_in n ⟨h0, h1⟩
theorem w32 {n : Int} (h0 : 0 ≤ n) (h1 : n ≤ 4294967295) : IntKind.wrap .u32 n = n := IntWalk.u32_in n ⟨h0, h1⟩
theorem wu64 {n : Int} (h0 : 0 ≤ n) (h1 : n ≤ 18446744073709551615) : IntKind.wrap .u64 n = n := IntWalk.u64_in n ⟨h0, h1⟩
theorem inU8 {x : Int} (h : InR .u8 x) : 0 ≤ x ∧ x ≤ 255 := by
  have e : IntKind.min .u8 = 0 := by decide
  have e' : IntKind.max .u8 = 255 := by decide
  unfold InR at h; rw [e, e'] at h; exact h
theorem inI64 {x : Int} (h : InR .i64 x) : -9223372036854775808 ≤ x ∧ x ≤ 9223372036854775807 := by
  have e : IntKind.min .i64 = -9223372036854775808 := by decide
  have e' : IntKind.max .i64 = 9223372036854775807 := by decide
  unfold InR at h; rw [e, e'] at h; exact h
theorem inU64 {x : Int} (h : InR .u64 x) : 0 ≤ x ∧ x ≤ 18446744073709551615 := by
  have e : IntKind.min .u64 = 0 := by decide
  have e' : IntKind.max .u64 = 18446744073709551615 := by decide
  unfold InR at h; rw [e, e'] at h; exact h
theorem inU32 {x : Int} (h : InR .u32 x) : 0 ≤ x ∧ x ≤ 4294967295 := by
  have e : IntKind.min .u32 = 0 := by decide
  have e' : IntKind.max .u32 = 4294967295 := by decide
  unfold InR at h; rw [e, e'] at h; exact h
theorem inU16 {x : Int} (h : InR .u16 x) : 0 ≤ x ∧ x ≤ 65535 := by
  have e : IntKind.min .u16 = 0 := by decide
  have e' : IntKind.max .u16 = 65535 := by decide
  unfold InR at h; rw [e, e'] at h; exact h

/-! lists by places -/
theorem gd_nat {α : Type} [Inhabited α] (xs : List α) (k : Nat) : gd xs (k : Int) = xs.getD k default := rfl
theorem gd_at {α : Type} [Inhabited α] (xs : List α) (k : Nat) (h : k < xs.length) : gd xs (k : Int) = xs[k] := by simp [gd, h]
theorem gd_map {α : Type} [Inhabited α] (n : Nat) (g : Nat → α) (k : Nat) (h : k < n) : gd ((List.range n).map g) (k : Int) = g k := by
  rw [gd_at _ _ (by simpa using h)]; simp
theorem map_set {α : Type} (n : Nat) (g g' : Nat → α) (k : Nat) (v : α) (_hk : k < n) (h : ∀ i, i < n → g' i = if i = k then v else g i) : ((List.range n).map g).set k v = (List.range n).map g' := by
  apply List.ext_getElem
  · simp
  · intro i h1 h2
    simp at h1 h2
    rw [List.getElem_set]
    simp [h i h2]
    by_cases e : k = i
    · subst e; simp
    · rw [if_neg e, if_neg (fun h => e h.symm)]
theorem map_same {α : Type} (n : Nat) (g g' : Nat → α) (h : ∀ i, i < n → g' i = g i) : (List.range n).map g = (List.range n).map g' := by
  apply List.map_congr_left
  intro i hi
  exact (h i (by simpa using hi)).symm
theorem rep_map {α : Type} (n : Nat) (z : α) : List.replicate n z = (List.range n).map (fun _ => z) := by
  apply List.ext_getElem <;> simp
def mkA {α : Type} (n : Nat) (g : Nat → α) : Arr α n := ⟨(List.range n).map g, by simp⟩
theorem mkA_l {α : Type} (n : Nat) (g : Nat → α) : (mkA n g).l = (List.range n).map g := rfl
theorem Arr.ext' {α : Type} {n : Nat} {a b : Arr α n} (h : a.l = b.l) : a = b := by cases a; cases b; simp at h; subst h; rfl
theorem mkA_set {α : Type} (n : Nat) (g g' : Nat → α) (k : Nat) (v : α) (hk : k < n) (h : ∀ i, i < n → g' i = if i = k then v else g i) : Arr.set (mkA n g) (k : Int) v = mkA n g' := Arr.ext' (map_set n g g' k v hk h)
theorem mkA_rep {α : Type} (n : Nat) (z : α) : Arr.rep n z = mkA n (fun _ => z) := Arr.ext' (rep_map n z)
theorem mkA_gd {α : Type} [Inhabited α] (n : Nat) (g : Nat → α) (k : Nat) (h : k < n) : gd (mkA n g).l (k : Int) = g k := gd_map n g k h
theorem mkA_same {α : Type} (n : Nat) (g g' : Nat → α) (h : ∀ i, i < n → g' i = g i) : mkA n g = mkA n g' := Arr.ext' (map_same n g g' h)
theorem take_succ' {α : Type} (xs : List α) (k : Nat) (h : k < xs.length) : xs.take (k + 1) = xs.take k ++ [xs[k]] := by rw [List.take_add_one, List.getElem?_eq_getElem h]; rfl
/-- Either all are so, or there is a first one that isn't. -/
theorem first_not {α : Type} (p : α → Prop) [DecidablePred p] (xs : List α) : (∀ x ∈ xs, p x) ∨ ∃ j, ∃ h : j < xs.length, ¬ p xs[j] ∧ ∀ i (hi : i < j), p (xs[i]'(by omega)) := by
  induction xs with
  | nil => exact .inl (by simp)
  | cons x xs ih =>
    by_cases hx : p x
    · rcases ih with h | ⟨j, h, hn, hall⟩
      · exact .inl (by simpa [hx] using h)
      · refine .inr ⟨j + 1, by simpa using h, by simpa using hn, fun i hi => ?_⟩
        cases i with
        | zero => simpa using hx
        | succ i => simpa using hall i (by omega)
    · exact .inr ⟨0, by simp, by simpa using hx, fun i hi => by omega⟩
def sumTo (g : Nat → Int) : Nat → Int
  | 0 => 0
  | n + 1 => sumTo g n + g n
theorem sumTo_add (g h : Nat → Int) : ∀ n, sumTo (fun i => g i + h i) n = sumTo g n + sumTo h n
  | 0 => by simp [sumTo]
  | n + 1 => by simp [sumTo, sumTo_add g h n]; omega
theorem sumTo_same (g h : Nat → Int) : ∀ n, (∀ i, i < n → g i = h i) → sumTo g n = sumTo h n
  | 0, _ => rfl
  | n + 1, hh => by simp [sumTo, sumTo_same g h n (fun i hi => hh i (by omega)), hh n (by omega)]
end Go.Eng
