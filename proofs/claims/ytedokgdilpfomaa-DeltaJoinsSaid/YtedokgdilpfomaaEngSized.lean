/- What is read before the call weighs no more than the form's reach: for laws that do not ask a slice's length first. -/
import Derived.Test.YtedokgdilpfomaaEngLaw
import Derived.SizedLaws
namespace Go.Eng
open Go Go.ChangeShapes Go.WideShapes Go.ChangeAt Go.RowKit
theorem sl_weight {H : Type} {P : Program} {enc : TypeId × Value → H} {W : World} {α : Type} {E : Enc α} {xs : List α} {t e : TypeId} {s : SlV} {d : DataW H} {p : List MemPlace} {F G : Nat → Prop} {ts : List TypeId} {ds : List (DataW H)} {B : Nat}
    (ht : P.underlying t = some (.slice e)) (h : DataW.Trod enc P W 0 (fun _ => true) true t s.v d p) (hp : (Asr.vw E s.v xs).p W F G)
    (hs : (DataW.weightsEach P ts ds).all (· ≤ reachBytes) = true) (j : Nat) (hts : ts[j]? = some t) (hds : ds[j]? = some d) (hb : P.bytesOf e = B) : xs.length * B ≤ 140737488351232 := by
  obtain ⟨⟨a, n, c, e1, e2, _⟩, _⟩ := hp
  obtain ⟨fuel, hf⟩ := h
  rcases DataW.trod_slice ht hf with ⟨hcs, _⟩ | ⟨a', len', cap', elems, rest, m, _, hcs, hx, _, _, _, hel, _⟩
  · rw [e1] at hcs
    simp [Value.cells] at hcs
    obtain ⟨rfl, rfl, rfl⟩ := hcs
    rw [← e2]; omega
  · rw [e1] at hcs
    simp [Value.cells] at hcs
    obtain ⟨rfl, rfl, rfl⟩ := hcs
    have hd := (Prod.mk.inj hx).1
    subst hd
    have h2 := sized_slice hs hts hds ht
    rw [hb] at h2
    simp only [List.length_map, reachBytes] at h2
    rw [← e2, ← hel]
    have := Nat.mul_le_mul_right B (Nat.le_add_right elems.length rest.length)
    omega
end Go.Eng
