/- A struct with slices as an argument that came in. -/
import Derived.Test.YtgganckggdjpaaaEngLaw
namespace Go.Eng
open Go
variable {P : Program} {H : Type} {enc : TypeId × Value → H} {W : World} {base : Nat}
theorem open_agn {Z X : Type} {t : TypeId} {K : NE Z X} {wf : X → Prop} {v : Value} {d : DataW H} {p : List MemPlace} (hagg : (tk P t).map (·.1) = some true) (h1 : OpN P t K wf) (hv : Value.okWide P W .any base t v) (h : DataW.Trod enc P W 0 (fun _ => true) true t v d p) : ∃ z a, v = .agg (K.E.enc (z, a)).toArray ∧ K.ok W (lowG W) z a ∧ wf a := by
  obtain ⟨fuel, hf⟩ := h
  obtain ⟨z, a, ha, hk, hw⟩ := h1 H enc W _ _ fuel _ _ hf
  refine ⟨z, a, ?_, hk, hw⟩
  rw [← ha]
  unfold tk at hagg
  unfold Value.okWide at hv
  cases hu : P.underlying t with
  | none => simp [hu] at hagg
  | some dd =>
    rw [hu] at hv hagg
    cases hi : P.info? t with
    | none => simp [hi] at hagg
    | some ti =>
      rw [hi] at hagg
      cases dd <;> simp at hagg <;> (obtain ⟨cs, rfl, _⟩ := hv; simp [Value.cells])
end Go.Eng
