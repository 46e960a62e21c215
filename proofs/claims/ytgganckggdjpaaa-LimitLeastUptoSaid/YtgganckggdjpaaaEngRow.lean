/- Slices of slices, all of them owned: a row is put in the place of another one. -/
import Derived.Test.YtgganckggdjpaaaEngRf
set_option linter.unusedVariables false
namespace Go.Eng
open Go

section
variable {c : Ctx} {L : List Asr}
variable {α : Type} {E : Enc α}
/-- A row is let go: its place stays. -/
theorem Sat.letgo {w : World} {o e : TypeId} {sv : Value} {zs : List SlV} {xs : List (List α)} (i : Nat) (j : Nat) (hi : L[i]? = some (Asr.onn o e E sv zs xs)) (hs : Sat c L w) : Sat c (L.set i (Asr.onh o e E sv j zs xs)) w := by
  refine hs.setW (A := Asr.onn o e E sv zs xs) (B := Asr.onh o e E sv j zs xs) i hi fun F G hp => ?_
  obtain ⟨hl, F1, F2, h1, h2, h3, h4, h5⟩ := hp
  refine ⟨hl, F1, F2, h1, h2, h3, h4, ?_⟩
  obtain ⟨_, Fs, b1, b2, b3⟩ := h5
  refine ⟨by simp [nil2, hl], fun k b => k ≠ j ∧ Fs k b, fun k z x hz hx => ?_, fun k b hk hb => b2 k b (by simpa [nil2] using hk) hb.2, fun i k b hi hk hne hb hb' => b3 i k b (by simpa [nil2] using hi) (by simpa [nil2] using hk) hne hb.2 hb'.2⟩
  by_cases ek : k = j
  · subst ek
    have hk := (List.getElem?_eq_some_iff.1 hz).1
    have hk1 : k < zs.length := by simpa [nil2] using hk
    unfold nil2 at hz
    rw [List.getElem?_set_self hk1] at hz
    rw [List.getElem?_set_self (by omega)] at hx
    obtain rfl := Option.some.inj hz
    obtain rfl := Option.some.inj hx
    have := of_nil w e E
    exact ⟨this.1, fun b hb => by cases hb⟩
  · unfold nil2 at hz
    rw [List.getElem?_set_ne (Ne.symm ek)] at hz hx
    have := b1 k z x hz hx
    exact ⟨this.1, fun b hb => ⟨ek, this.2 b hb⟩⟩
end
end Go.Eng
