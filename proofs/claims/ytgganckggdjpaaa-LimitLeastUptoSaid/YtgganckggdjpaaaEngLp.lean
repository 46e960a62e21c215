/- For the plain laws: a loop's round, told by what it gives; lists with a place set; the smaller of two. -/
import Derived.Test.YtgganckggdjpaaaEngBits
set_option linter.unusedVariables false
namespace Go.Eng
open Go

theorem on_ {X Y : Type} {I : X → Prop} {m : X → Nat} {Q : Y → Prop} {x x' : X} (h : I x') (hm : m x' < m x) :
    ∃ s : X ⊕ Y, some (.inl x') = some s ∧ (∀ x'', s = .inl x'' → I x'' ∧ m x'' < m x) ∧ (∀ y, s = .inr y → Q y) := ⟨_, rfl, fun x'' e => by cases e; exact ⟨h, hm⟩, fun y e => by cases e⟩
theorem out_ {X Y : Type} {I : X → Prop} {m : X → Nat} {Q : Y → Prop} {x : X} {y : Y} (h : Q y) :
    ∃ s : X ⊕ Y, some (.inr y) = some s ∧ (∀ x'', s = .inl x'' → I x'' ∧ m x'' < m x) ∧ (∀ y, s = .inr y → Q y) := ⟨.inr y, rfl, fun x'' e => (by cases e), fun y' e => (by cases e; exact h)⟩
theorem gd_set {α : Type} [Inhabited α] (l : List α) (i : Nat) (v : α) (k : Nat) (h : i < l.length) : gd (l.set i v) (k : Int) = if i = k then v else gd l (k : Int) := by
  unfold gd
  simp only [Int.toNat_natCast, List.getD_eq_getElem?_getD, List.getElem?_set]
  by_cases e : i = k
  · subst e; simp [h]
  · simp [e]
theorem gd_rep {α : Type} [Inhabited α] (n : Nat) (v : α) (k : Nat) (h : k < n) : gd (List.replicate n v) (k : Int) = v := by
  rw [gd_at _ _ (by simpa using h)]; simp
theorem gd_append_left {α : Type} [Inhabited α] (a b : List α) (k : Nat) (h : k < a.length) : gd (a ++ b) (k : Int) = gd a (k : Int) := by
  unfold gd; simp [List.getElem?_append_left h]
theorem gd_append_right {α : Type} [Inhabited α] (a b : List α) (k : Nat) (h : a.length ≤ k) : gd (a ++ b) (k : Int) = gd b ((k - a.length : Nat) : Int) := by
  unfold gd; simp [List.getElem?_append_right h]
theorem gd_take {α : Type} [Inhabited α] (a : List α) (n k : Nat) (h : k < n) : gd (a.take n) (k : Int) = gd a (k : Int) := by
  unfold gd; simp [h]
theorem gd_drop {α : Type} [Inhabited α] (a : List α) (n k : Nat) : gd (a.drop n) (k : Int) = gd a ((n + k : Nat) : Int) := by
  unfold gd; rw [Int.toNat_natCast, Int.toNat_natCast]; simp
theorem gd_mem {α : Type} [Inhabited α] (l : List α) (k : Nat) (h : k < l.length) : gd l (k : Int) ∈ l := by rw [gd_at _ _ h]; exact List.getElem_mem h
theorem drop_gd {α : Type} [Inhabited α] (l : List α) (k : Nat) (h : k < l.length) : l.drop k = gd l (k : Int) :: l.drop (k + 1) := by rw [gd_at _ _ h, List.drop_eq_getElem_cons h]
theorem take_gd {α : Type} [Inhabited α] (l : List α) (k : Nat) (h : k < l.length) : l.take (k + 1) = l.take k ++ [gd l (k : Int)] := by rw [gd_at _ _ h, take_succ' _ _ h]
theorem minN (a b : Nat) : minI (a : Int) (b : Int) = ((min a b : Nat) : Int) := by unfold minI; split <;> omega
theorem maxN (a b : Nat) : maxI (a : Int) (b : Int) = ((max a b : Nat) : Int) := by unfold maxI; split <;> omega
theorem ext_gd {α : Type} [Inhabited α] {a b : List α} (hl : a.length = b.length) (h : ∀ k : Nat, k < a.length → gd a (k : Int) = gd b (k : Int)) : a = b := by
  apply List.ext_getElem hl
  intro k h1 h2
  have := h k h1
  rwa [gd_at _ _ h1, gd_at _ _ h2] at this
theorem nat_of {x : Int} (h : 0 ≤ x) : ∃ n : Nat, x = (n : Int) := ⟨x.toNat, by omega⟩
theorem wrapU32_in (x : Int) : 0 ≤ IntKind.wrap .u32 x ∧ IntKind.wrap .u32 x < 4294967296 := by
  simp [IntKind.wrap, IntKind.bits, IntKind.signed]; omega
theorem str_inj : ∀ {xs ys : List Int}, (∀ x ∈ xs, 0 ≤ x ∧ x ≤ 255) → (∀ y ∈ ys, 0 ≤ y ∧ y ≤ 255) → strOfNums xs = strOfNums ys → xs = ys := by
  intro xs ys hx hy h
  have h1 : (xs.map fun n => UInt8.ofNat n.toNat) = (ys.map fun n => UInt8.ofNat n.toNat) := by
    have := congrArg (fun b : ByteArray => b.data.toList) h
    simpa [strOfNums] using this
  clear h
  induction xs generalizing ys with
  | nil => cases ys with
    | nil => rfl
    | cons y ys => simp at h1
  | cons x xs ih => cases ys with
    | nil => simp at h1
    | cons y ys =>
      simp only [List.map_cons, List.cons.injEq] at h1
      have a := hx x (by simp)
      have b := hy y (by simp)
      have e : x = y := by
        have := congrArg UInt8.toNat h1.1
        simp at this
        omega
      rw [e, ih (fun z hz => hx z (by simp [hz])) (fun z hz => hy z (by simp [hz])) h1.2]
end Go.Eng
