/- What LimA needs. -/
import Derived.Test.YtgganckggdjpaaaLim
set_option linter.unusedVariables false
set_option linter.unusedSimpArgs false
namespace Go.Proofs.Ytgganckggdjpaaa
open Go Go.Eng Go.Proofs
/-! ### A loop of few rounds, reckoned -/
noncomputable def loopK {X Y : Type} (b : X → Option (X ⊕ Y)) (x : X) : Option Y := loopN b 200 x
def Rf {α : Type} (o o' : Option α) : Prop := ∀ r, o' = some r → o = some r
theorem Rf.refl {α : Type} (o : Option α) : Rf o o := fun _ h => h
theorem Rf.ite {α : Type} {p : Prop} [Decidable p] {a a' b b' : Option α} (h1 : Rf a a') (h2 : Rf b b') : Rf (if p then a else b) (if p then a' else b') := by
  by_cases h : p
  · rw [if_pos h, if_pos h]; exact h1
  · rw [if_neg h, if_neg h]; exact h2
theorem Rf.bind {α β : Type} {o o' : Option α} {f f' : α → Option β} (h : Rf o o') (hf : ∀ y, Rf (f y) (f' y)) : Rf (o.bind f) (o'.bind f') := fun r hr => by
  cases ho : o' with
  | none => rw [ho] at hr; cases hr
  | some y => rw [ho] at hr; rw [h y ho]; exact hf y r hr
theorem Rf.bind2 {α γ β : Type} {o o' : Option (α × γ)} {f f' : α × γ → Option β} (h : Rf o o') (hf : ∀ y z, Rf (f (y, z)) (f' (y, z))) : Rf (o.bind f) (o'.bind f') := Rf.bind h fun y => hf y.1 y.2
theorem Rf.bind3 {α γ δ β : Type} {o o' : Option (α × γ × δ)} {f f' : α × γ × δ → Option β} (h : Rf o o') (hf : ∀ y z u, Rf (f (y, z, u)) (f' (y, z, u))) : Rf (o.bind f) (o'.bind f') := Rf.bind h fun y => hf y.1 y.2.1 y.2.2
theorem Rf.loop {X Y : Type} {b b' : X → Option (X ⊕ Y)} {x : X} (hb : ∀ x, Rf (b x) (b' x)) : Rf (Eng.loop b x) (loopK b' x) := fun r hr => by
  refine loop_some.2 ⟨200, ?_⟩
  unfold loopK at hr
  generalize (200 : Nat) = k at hr ⊢
  induction k generalizing x with
  | zero => simp [loopN] at hr
  | succ k ih =>
    simp only [loopN] at hr ⊢
    cases hx : b' x with
    | none => rw [hx] at hr; cases hr
    | some s =>
      rw [hx] at hr
      rw [hb x s hx]
      cases s with
      | inl x' => exact ih hr
      | inr y => exact hr
noncomputable def F81.mc (x1 : Int) : Option Bool :=
  some (!(decide (x1 = x1)))
noncomputable def F69.mc (x1 : Int) (x2 : Int) : Option Int :=
  ((F81.mc (x1)).bind fun y4 => ((F81.mc (x2)).bind fun y6 => (if y4 = true then (if y6 = true then some (0 : Int) else some (-1 : Int)) else (if y6 = true then some (1 : Int) else (if x1 < x2 then some (-1 : Int) else (if x2 < x1 then some (1 : Int) else some (0 : Int)))))))
noncomputable def F48.mc (x1 : Int) (x3 : List Int) (x4 : Int) (x6 : List Int) : Option Int :=
  ((F69.mc (x1) (x4)).bind fun y10 => some y10)
noncomputable def F79_1.j1c  (d8 : List (Int × (List Int))) : Option (List (Int × (List Int))) :=
  some d8
noncomputable def F79_1.j2c (d12 : Int) (d21 : List (Int × (List Int))) : Option ((List (Int × (List Int)) × Int) ⊕ (List (Int × (List Int)))) :=
  some (.inl (d21, (IntKind.wrap .i64 (d12 + (1 : Int)))))
noncomputable def F79_1.j3c (d12 : Int) (d23 : List (Int × (List Int))) : Option ((List (Int × (List Int)) × Int) ⊕ (List (Int × (List Int)))) :=
  F79_1.j2c d12 (d23)
noncomputable def F79_1.j4c (d25 : List (Int × (List Int))) (d27 : Int)  : Option ((List (Int × (List Int)) × Int) ⊕ (List (Int × (List Int)))) :=
  some (.inl ((List.set (List.set d25 (Int.toNat d27) ((gd d25 (IntKind.wrap .i64 (d27 - (1 : Int)))).1, (gd d25 (IntKind.wrap .i64 (d27 - (1 : Int)))).2)) (Int.toNat (IntKind.wrap .i64 (d27 - (1 : Int)))) ((gd d25 d27).1, (gd d25 d27).2)), (IntKind.wrap .i64 (d27 - (1 : Int)))))
noncomputable def F79_1.b2c (x4 : Int) : (List (Int × (List Int)) × Int) → Option ((List (Int × (List Int)) × Int) ⊕ (List (Int × (List Int))))
  | (d25, d27) => (if x4 < d27 then (if 0 ≤ d27 ∧ d27 < ((d25).length : Int) then (if 0 ≤ (IntKind.wrap .i64 (d27 - (1 : Int))) ∧ (IntKind.wrap .i64 (d27 - (1 : Int))) < ((d25).length : Int) then ((F48.mc ((gd d25 d27).1) ((gd d25 d27).2) ((gd d25 (IntKind.wrap .i64 (d27 - (1 : Int)))).1) ((gd d25 (IntKind.wrap .i64 (d27 - (1 : Int)))).2)).bind fun y38 => (if y38 < (0 : Int) then (if 0 ≤ (IntKind.wrap .i64 (d27 - (1 : Int))) ∧ (IntKind.wrap .i64 (d27 - (1 : Int))) < (((List.set d25 (Int.toNat d27) ((gd d25 (IntKind.wrap .i64 (d27 - (1 : Int)))).1, (gd d25 (IntKind.wrap .i64 (d27 - (1 : Int)))).2))).length : Int) then F79_1.j4c d25 d27 else none) else some (.inr d25))) else none) else none) else some (.inr d25))
noncomputable def F79_1.b1c (x4 : Int) (x5 : Int) : (List (Int × (List Int)) × Int) → Option ((List (Int × (List Int)) × Int) ⊕ (List (Int × (List Int))))
  | (d10, d12) => (if d12 < x5 then ((loopK (F79_1.b2c x4) (d10, d12)).bind fun y => match y with | d23 => F79_1.j3c d12 (d23)) else some (.inr d10))
noncomputable def F79_1.mc (x2 : List (Int × (List Int))) (x4 : Int) (x5 : Int) : Option (List (Int × (List Int))) :=
  ((loopK (F79_1.b1c x4 x5) (x2, (IntKind.wrap .i64 (x4 + (1 : Int))))).bind fun y => match y with | d8 => F79_1.j1c (d8))
noncomputable def F95_1.j1c  (d9 : List (Int × (List Int))) : Option (List (Int × (List Int))) :=
  some d9
noncomputable def F95_1.j2c (x4 : Int) (x5 : Int) (d11 : List (Int × (List Int))) (d13 : Int)  : Option ((List (Int × (List Int)) × Int) ⊕ (List (Int × (List Int)))) :=
  some (.inl ((List.set (List.set d11 (Int.toNat (IntKind.wrap .i64 (x4 + d13))) ((gd d11 (IntKind.wrap .i64 (x5 + d13))).1, (gd d11 (IntKind.wrap .i64 (x5 + d13))).2)) (Int.toNat (IntKind.wrap .i64 (x5 + d13))) ((gd d11 (IntKind.wrap .i64 (x4 + d13))).1, (gd d11 (IntKind.wrap .i64 (x4 + d13))).2)), (IntKind.wrap .i64 (d13 + (1 : Int)))))
noncomputable def F95_1.b1c (x4 : Int) (x5 : Int) (x6 : Int) : (List (Int × (List Int)) × Int) → Option ((List (Int × (List Int)) × Int) ⊕ (List (Int × (List Int))))
  | (d11, d13) => (if d13 < x6 then (if 0 ≤ (IntKind.wrap .i64 (x5 + d13)) ∧ (IntKind.wrap .i64 (x5 + d13)) < ((d11).length : Int) then (if 0 ≤ (IntKind.wrap .i64 (x4 + d13)) ∧ (IntKind.wrap .i64 (x4 + d13)) < ((d11).length : Int) then (if 0 ≤ (IntKind.wrap .i64 (x5 + d13)) ∧ (IntKind.wrap .i64 (x5 + d13)) < (((List.set d11 (Int.toNat (IntKind.wrap .i64 (x4 + d13))) ((gd d11 (IntKind.wrap .i64 (x5 + d13))).1, (gd d11 (IntKind.wrap .i64 (x5 + d13))).2))).length : Int) then F95_1.j2c x4 x5 d11 d13 else none) else none) else none) else some (.inr d11))
noncomputable def F95_1.mc (x2 : List (Int × (List Int))) (x4 : Int) (x5 : Int) (x6 : Int) : Option (List (Int × (List Int))) :=
  ((loopK (F95_1.b1c x4 x5 x6) (x2, (0 : Int))).bind fun y => match y with | d9 => F95_1.j1c (d9))
noncomputable def F93_1.j1c (x5 : Int) (d9 : List (Int × (List Int))) (d11 : Int) : Option (List (Int × (List Int))) :=
  ((F95_1.mc (d9) ((IntKind.wrap .i64 (x5 - d11))) (x5) (d11)).bind fun y12 => some y12)
noncomputable def F93_1.j2c  (d28 : List (Int × (List Int))) (d30 : Int) (d31 : Int) : Option ((List (Int × (List Int)) × Int × Int) ⊕ (List (Int × (List Int)) × Int)) :=
  some (.inl (d28, d30, d31))
noncomputable def F93_1.b1c (x5 : Int) : (List (Int × (List Int)) × Int × Int) → Option ((List (Int × (List Int)) × Int × Int) ⊕ (List (Int × (List Int)) × Int))
  | (d15, d17, d18) => (if d17 = d18 then some (.inr (d15, d17)) else (if d18 < d17 then ((F95_1.mc (d15) ((IntKind.wrap .i64 (x5 - d17))) (x5) (d18)).bind fun y33 => F93_1.j2c (y33) ((IntKind.wrap .i64 (d17 - d18))) (d18)) else ((F95_1.mc (d15) ((IntKind.wrap .i64 (x5 - d17))) ((IntKind.wrap .i64 ((IntKind.wrap .i64 (x5 + d18)) - d17))) (d17)).bind fun y36 => F93_1.j2c (y36) (d17) ((IntKind.wrap .i64 (d18 - d17))))))
noncomputable def F93_1.mc (x2 : List (Int × (List Int))) (x4 : Int) (x5 : Int) (x6 : Int) : Option (List (Int × (List Int))) :=
  ((loopK (F93_1.b1c x5) (x2, (IntKind.wrap .i64 (x5 - x4)), (IntKind.wrap .i64 (x6 - x5)))).bind fun y => match y with | (d9, d11) => F93_1.j1c x5 (d9) (d11))
noncomputable def F68_1.j2c  (d13 : List (Int × (List Int))) : Option (List (Int × (List Int))) :=
  some d13
noncomputable def F68_1.j3c (d17 : Int) (d26 : List (Int × (List Int))) : Option ((List (Int × (List Int)) × Int) ⊕ (List (Int × (List Int)))) :=
  some (.inl (d26, (IntKind.wrap .i64 (d17 * (2 : Int)))))
noncomputable def F68_1.j5c (d17 : Int) (d31 : List (Int × (List Int))) : Option ((List (Int × (List Int)) × Int) ⊕ (List (Int × (List Int)))) :=
  F68_1.j3c d17 (d31)
noncomputable def F68_1.j4c (x4 : Int) (d17 : Int) (d28 : List (Int × (List Int))) (d30 : Int) : Option ((List (Int × (List Int)) × Int) ⊕ (List (Int × (List Int)))) :=
  (if (IntKind.wrap .i64 (d30 + d17)) < x4 then ((F80_1.m (d28) (d30) ((IntKind.wrap .i64 (d30 + d17))) (x4)).bind fun y34 => F68_1.j5c d17 (y34)) else F68_1.j5c d17 (d28))
noncomputable def F68_1.b2c (x4 : Int) (d17 : Int) : (List (Int × (List Int)) × Int × Int) → Option ((List (Int × (List Int)) × Int × Int) ⊕ (List (Int × (List Int)) × Int))
  | (d37, d39, d40) => (if d40 ≤ x4 then ((F80_1.m (d37) (d39) ((IntKind.wrap .i64 (d39 + d17))) (d40)).bind fun y50 => some (.inl (y50, d40, (IntKind.wrap .i64 (d40 + (IntKind.wrap .i64 ((2 : Int) * d17))))))) else some (.inr (d37, d39)))
noncomputable def F68_1.b1c (x4 : Int) : (List (Int × (List Int)) × Int) → Option ((List (Int × (List Int)) × Int) ⊕ (List (Int × (List Int))))
  | (d15, d17) => (if d17 < x4 then ((loopK (F68_1.b2c x4 d17) (d15, (0 : Int), (IntKind.wrap .i64 ((2 : Int) * d17)))).bind fun y => match y with | (d28, d30) => F68_1.j4c x4 d17 (d28) (d30)) else some (.inr d15))
noncomputable def F68_1.j1c (x4 : Int) (d7 : List (Int × (List Int))) (d9 : Int) : Option (List (Int × (List Int))) :=
  ((F79_1.mc (d7) (d9) (x4)).bind fun y10 => ((loopK (F68_1.b1c x4) (y10, (20 : Int))).bind fun y => match y with | d13 => F68_1.j2c (d13)))
noncomputable def F68_1.b3c (x4 : Int) : (List (Int × (List Int)) × Int × Int) → Option ((List (Int × (List Int)) × Int × Int) ⊕ (List (Int × (List Int)) × Int))
  | (d53, d55, d56) => (if d56 ≤ x4 then ((F79_1.mc (d53) (d55) (d56)).bind fun y66 => some (.inl (y66, d56, (IntKind.wrap .i64 (d56 + (20 : Int)))))) else some (.inr (d53, d55)))
noncomputable def F68_1.mc (x2 : List (Int × (List Int))) (x4 : Int) : Option (List (Int × (List Int))) :=
  ((loopK (F68_1.b3c x4) (x2, (0 : Int), (20 : Int))).bind fun y => match y with | (d7, d9) => F68_1.j1c x4 (d7) (d9))
noncomputable def F47_1.mc (x2 : List (Int × (List Int))) : Option (List (Int × (List Int))) :=
  ((F68_1.mc (x2) (((x2).length : Int))).bind fun y6 => some y6)
noncomputable def F49.mc (x2 : List (Int × (List Int))) : Option (List (Int × (List Int))) :=
  if (([] : List (Int × (List Int))).length + x2.length) * 32 ≤ 140737488355328 ∧ ([] : List (Int × (List Int))).length + x2.length ≤ 9223372036854775807 then some x2 else none
noncomputable def F83.j1c  (d6 : List Int) : Option (List Int) :=
  some d6
noncomputable def F83.mc (x1 : Int) : Option (List Int) :=
  (if x1 < (0 : Int) then none else (if (0 : Int) < (IntKind.wrap .i64 (x1 - (IntKind.wrap .i64 ((0 : Int) - ((([] : List Int)).length : Int))))) then (if 0 < (IntKind.wrap .i64 (x1 - (IntKind.wrap .i64 ((0 : Int) - ((([] : List Int)).length : Int))))) ∧ (IntKind.wrap .i64 (x1 - (IntKind.wrap .i64 ((0 : Int) - ((([] : List Int)).length : Int))))) * 8 ≤ 140737488355328 ∧ (IntKind.wrap .i64 (x1 - (IntKind.wrap .i64 ((0 : Int) - ((([] : List Int)).length : Int))))) ≤ 140737488355328 then (if 0 ≤ (0 : Int) ∧ (0 : Int) ≤ ((([] : List Int)).length : Int) ∧ ((([] : List Int)).length : Int) ≤ (((List.replicate (Int.toNat (IntKind.wrap .i64 (x1 - (IntKind.wrap .i64 ((0 : Int) - ((([] : List Int)).length : Int)))))) (0 : Int))).length : Int) then F83.j1c ((subL (List.replicate (Int.toNat (IntKind.wrap .i64 (x1 - (IntKind.wrap .i64 ((0 : Int) - ((([] : List Int)).length : Int)))))) (0 : Int)) (0 : Int) ((([] : List Int)).length : Int))) else none) else none) else F83.j1c (([] : List Int))))
noncomputable def F71.j2c  (d11 : List Int) : Option (List Int) :=
  some d11
noncomputable def F71.b1c (x2 : List (List Int)) : (List Int × Int) → Option ((List Int × Int) ⊕ (List Int))
  | (d13, d14) => (if d14 < ((x2).length : Int) then (if 0 ≤ d14 ∧ d14 < ((x2).length : Int) then (if ((d13).length + ((gd x2 d14)).length) * 8 ≤ 140737488355328 ∧ (d13).length + ((gd x2 d14)).length ≤ 9223372036854775807 then some (.inl ((d13 ++ (gd x2 d14)), (IntKind.wrap .i64 (d14 + (1 : Int))))) else none) else none) else some (.inr d13))
noncomputable def F71.j1c (x2 : List (List Int)) (d6 : Int) : Option (List Int) :=
  ((F83.mc (d6)).bind fun y7 => ((loopK (F71.b1c x2) (y7, (0 : Int))).bind fun y => match y with | d11 => F71.j2c (d11)))
noncomputable def F71.b2c (x2 : List (List Int)) : (Int × Int) → Option ((Int × Int) ⊕ Int)
  | (d26, d27) => (if d27 < ((x2).length : Int) then (if 0 ≤ d27 ∧ d27 < ((x2).length : Int) then (if (IntKind.wrap .i64 (d26 + (((gd x2 d27)).length : Int))) < (0 : Int) then none else some (.inl ((IntKind.wrap .i64 (d26 + (((gd x2 d27)).length : Int))), (IntKind.wrap .i64 (d27 + (1 : Int)))))) else none) else some (.inr d26))
noncomputable def F71.mc (x2 : List (List Int)) : Option (List Int) :=
  ((loopK (F71.b2c x2) ((0 : Int), (0 : Int))).bind fun y => match y with | d6 => F71.j1c x2 (d6))
noncomputable def F119.j1c  (d12 : List (Int × (List Int))) : Option (List (Int × (List Int))) :=
  some d12
noncomputable def F119.mc (x3 : List (Int × (List Int))) (x6 : List (Int × (List Int))) : Option (List (Int × (List Int))) :=
  (if ((x6).length : Int) = (2 : Int) then (if 0 ≤ (0 : Int) ∧ (0 : Int) < ((x6).length : Int) then (if 0 ≤ (1 : Int) ∧ (1 : Int) < ((x6).length : Int) then ((F71.mc ([(gd x6 (0 : Int)).2, (gd x6 (1 : Int)).2])).bind fun y18 => (if ((x3).length + ([((IntKind.wrap .u64 ((gd x6 (0 : Int)).1 + (gd x6 (1 : Int)).1)), y18)]).length) * 32 ≤ 140737488355328 ∧ (x3).length + ([((IntKind.wrap .u64 ((gd x6 (0 : Int)).1 + (gd x6 (1 : Int)).1)), y18)]).length ≤ 9223372036854775807 then F119.j1c ((x3 ++ [((IntKind.wrap .u64 ((gd x6 (0 : Int)).1 + (gd x6 (1 : Int)).1)), y18)])) else none)) else none) else none) else F119.j1c (x3))
noncomputable def F82.bc (x : List (Int × (List Int))) (t : Int × List (Int × (List Int))) : Option ((Int × List (Int × (List Int))) ⊕ List (Int × (List Int))) :=
  if t.1 < (x.length : Int) then
    (if 0 ≤ t.1 ∧ t.1 ≤ (x.length : Int) ∧ (x.length : Int) ≤ (x.length : Int) then
      (if 0 ≤ t.1 ∧ t.1 ≤ IntKind.wrap .i64 (t.1 + minI (2 : Int) ((subL x t.1 (x.length : Int)).length : Int)) ∧ IntKind.wrap .i64 (t.1 + minI (2 : Int) ((subL x t.1 (x.length : Int)).length : Int)) ≤ IntKind.wrap .i64 (t.1 + minI (2 : Int) ((subL x t.1 (x.length : Int)).length : Int)) ∧ IntKind.wrap .i64 (t.1 + minI (2 : Int) ((subL x t.1 (x.length : Int)).length : Int)) ≤ (x.length : Int) then
        (F119.mc t.2 (subL x t.1 (IntKind.wrap .i64 (t.1 + minI (2 : Int) ((subL x t.1 (x.length : Int)).length : Int))))).bind fun o => some (.inl (IntKind.wrap .i64 (t.1 + (2 : Int)), o)) else none) else none)
  else some (.inr t.2)
noncomputable def F50.mc (x1 : List (Int × (List Int))) : Option (List (Int × (List Int))) := loopK (F82.bc x1) ((0 : Int), ([] : List (Int × (List Int))))
noncomputable def F20.j3c  (d32 : List Int) : Option (List Int × Int) :=
  some (d32, (0 : Int))
noncomputable def F20.j4c (d34 : Int) (d42 : List Int) : Option ((List Int × Int) ⊕ (List Int)) :=
  some (.inl (d42, (IntKind.wrap .i64 (d34 + (1 : Int)))))
noncomputable def F20.j5c (d34 : Int) (d45 : List Int) : Option ((List Int × Int) ⊕ (List Int)) :=
  F20.j4c d34 (d45)
noncomputable def F20.b2c (y21 : (List (Int × (List Int)))) (d29 : List (Int × (List Int))) (d34 : Int) : (List Int × Int) → Option ((List Int × Int) ⊕ (List Int))
  | (d46, d47) => (if d47 < (((gd (subL d29 (0 : Int) (maxI (0 : Int) (IntKind.wrap .i64 ((IntKind.wrap .i64 ((2 : Int) * ((y21).length : Int))) - (2 : Int))))) d34).2).length : Int) then (if 0 ≤ d47 ∧ d47 < (((gd (subL d29 (0 : Int) (maxI (0 : Int) (IntKind.wrap .i64 ((IntKind.wrap .i64 ((2 : Int) * ((y21).length : Int))) - (2 : Int))))) d34).2).length : Int) then (if 0 ≤ (gd (gd (subL d29 (0 : Int) (maxI (0 : Int) (IntKind.wrap .i64 ((IntKind.wrap .i64 ((2 : Int) * ((y21).length : Int))) - (2 : Int))))) d34).2 d47) ∧ (gd (gd (subL d29 (0 : Int) (maxI (0 : Int) (IntKind.wrap .i64 ((IntKind.wrap .i64 ((2 : Int) * ((y21).length : Int))) - (2 : Int))))) d34).2 d47) < ((d46).length : Int) then some (.inl ((List.set d46 (Int.toNat (gd (gd (subL d29 (0 : Int) (maxI (0 : Int) (IntKind.wrap .i64 ((IntKind.wrap .i64 ((2 : Int) * ((y21).length : Int))) - (2 : Int))))) d34).2 d47)) (IntKind.wrap .u8 ((gd d46 (gd (gd (subL d29 (0 : Int) (maxI (0 : Int) (IntKind.wrap .i64 ((IntKind.wrap .i64 ((2 : Int) * ((y21).length : Int))) - (2 : Int))))) d34).2 d47)) + (1 : Int)))), (IntKind.wrap .i64 (d47 + (1 : Int))))) else none) else none) else some (.inr d46))
noncomputable def F20.b1c (y21 : (List (Int × (List Int)))) (d29 : List (Int × (List Int))) : (List Int × Int) → Option ((List Int × Int) ⊕ (List Int))
  | (d33, d34) => (if d34 < (((subL d29 (0 : Int) (maxI (0 : Int) (IntKind.wrap .i64 ((IntKind.wrap .i64 ((2 : Int) * ((y21).length : Int))) - (2 : Int)))))).length : Int) then (if 0 ≤ d34 ∧ d34 < (((subL d29 (0 : Int) (maxI (0 : Int) (IntKind.wrap .i64 ((IntKind.wrap .i64 ((2 : Int) * ((y21).length : Int))) - (2 : Int)))))).length : Int) then ((loopK (F20.b2c y21 d29 d34) (d33, (0 : Int))).bind fun y => match y with | d45 => F20.j5c d34 (d45)) else none) else some (.inr d33))
noncomputable def F20.j2c (x2 : List Int) (y21 : (List (Int × (List Int)))) (d29 : List (Int × (List Int))) : Option (List Int × Int) :=
  (if 0 ≤ (0 : Int) ∧ (0 : Int) ≤ (maxI (0 : Int) (IntKind.wrap .i64 ((IntKind.wrap .i64 ((2 : Int) * ((y21).length : Int))) - (2 : Int)))) ∧ (maxI (0 : Int) (IntKind.wrap .i64 ((IntKind.wrap .i64 ((2 : Int) * ((y21).length : Int))) - (2 : Int)))) ≤ ((d29).length : Int) then ((loopK (F20.b1c y21 d29) ((List.replicate (Int.toNat ((x2).length : Int)) (0 : Int)), (0 : Int))).bind fun y => match y with | d32 => F20.j3c (d32)) else none)
noncomputable def F20.b3c (x3 : Int) (y21 : (List (Int × (List Int)))) : (List (Int × (List Int)) × Int) → Option ((List (Int × (List Int)) × Int) ⊕ (List (Int × (List Int))))
  | (d58, d60) => (if d60 < (IntKind.wrap .i64 (x3 - (1 : Int))) then ((F49.mc (y21)).bind fun y70 => ((F50.mc (d58)).bind fun y74 => (if ((y70).length + (y74).length) * 32 ≤ 140737488355328 ∧ (y70).length + (y74).length ≤ 9223372036854775807 then ((F47_1.mc ((y70 ++ y74))).bind fun y80 => some (.inl (y80, (IntKind.wrap .i64 (d60 + (1 : Int)))))) else none))) else some (.inr d58))
noncomputable def F20.j1c (x2 : List Int) (x3 : Int) (d11 : List (Int × (List Int))) : Option (List Int × Int) :=
  (if 0 ≤ ((x2).length : Int) ∧ ((x2).length : Int) * 1 ≤ 281474976710656 ∧ ((x2).length : Int) ≤ 9223372036854775807 then (if 0 ≤ x3 then (if (shlI .i64 (1 : Int) x3) < ((d11).length : Int) then some (([] : List Int), (1 : Int)) else (if ((d11).length : Int) = (1 : Int) then (if 0 ≤ (0 : Int) ∧ (0 : Int) < ((d11).length : Int) then (if 0 ≤ (0 : Int) ∧ (0 : Int) < (((gd d11 (0 : Int)).2).length : Int) then (if 0 ≤ (gd (gd d11 (0 : Int)).2 (0 : Int)) ∧ (gd (gd d11 (0 : Int)).2 (0 : Int)) < (((List.replicate (Int.toNat ((x2).length : Int)) (0 : Int))).length : Int) then some ((List.set (List.replicate (Int.toNat ((x2).length : Int)) (0 : Int)) (Int.toNat (gd (gd d11 (0 : Int)).2 (0 : Int))) (1 : Int)), (0 : Int)) else none) else none) else none) else ((F47_1.mc (d11)).bind fun y21 => ((F49.mc (y21)).bind fun y24 => ((loopK (F20.b3c x3 y21) (y24, (0 : Int))).bind fun y => match y with | d29 => F20.j2c x2 y21 (d29)))))) else none) else none)
noncomputable def F20.j6c (d86 : Int) (d98 : List (Int × (List Int))) : Option ((List (Int × (List Int)) × Int) ⊕ (List (Int × (List Int)))) :=
  some (.inl (d98, (IntKind.wrap .i64 (d86 + (1 : Int)))))
noncomputable def F20.b4c (x2 : List Int) : (List (Int × (List Int)) × Int) → Option ((List (Int × (List Int)) × Int) ⊕ (List (Int × (List Int))))
  | (d84, d86) => (if d86 < ((x2).length : Int) then (if 0 ≤ d86 ∧ d86 < ((x2).length : Int) then (if (0 : Int) < (gd x2 d86) then (if ((d84).length + ([((IntKind.wrap .u64 (gd x2 d86)), [d86])]).length) * 32 ≤ 140737488355328 ∧ (d84).length + ([((IntKind.wrap .u64 (gd x2 d86)), [d86])]).length ≤ 9223372036854775807 then F20.j6c d86 ((d84 ++ [((IntKind.wrap .u64 (gd x2 d86)), [d86])])) else none) else F20.j6c d86 (d84)) else none) else some (.inr d84))
noncomputable def F20.mc (x2 : List Int) (x3 : Int) : Option (List Int × Int) :=
  (if x3 < (1 : Int) then some (([] : List Int), (1 : Int)) else (if (15 : Int) < x3 then some (([] : List Int), (1 : Int)) else (if (300 : Int) < ((x2).length : Int) then some (([] : List Int), (1 : Int)) else ((loopK (F20.b4c x2) (([] : List (Int × (List Int))), (0 : Int))).bind fun y => match y with | d11 => F20.j1c x2 x3 (d11)))))
noncomputable def F24.j1c  (d7 : Int) : Option Int :=
  some d7
noncomputable def F24.b1c (x2 : List Int) (x4 : List Int) : (Int × Int) → Option ((Int × Int) ⊕ Int)
  | (d8, d9) => (if d9 < (((subL x2 (0 : Int) (minI ((x2).length : Int) ((x4).length : Int)))).length : Int) then (if 0 ≤ d9 ∧ d9 < (((subL x2 (0 : Int) (minI ((x2).length : Int) ((x4).length : Int)))).length : Int) then (if 0 ≤ d9 ∧ d9 < ((x4).length : Int) then some (.inl ((IntKind.wrap .u64 (d8 + (IntKind.wrap .u64 ((IntKind.wrap .u64 (gd (subL x2 (0 : Int) (minI ((x2).length : Int) ((x4).length : Int))) d9)) * (IntKind.wrap .u64 (gd x4 d9)))))), (IntKind.wrap .i64 (d9 + (1 : Int))))) else none) else none) else some (.inr d8))
noncomputable def F24.mc (x2 : List Int) (x4 : List Int) : Option Int :=
  (if 0 ≤ (0 : Int) ∧ (0 : Int) ≤ (minI ((x2).length : Int) ((x4).length : Int)) ∧ (minI ((x2).length : Int) ((x4).length : Int)) ≤ ((x2).length : Int) then ((loopK (F24.b1c x2 x4) ((0 : Int), (0 : Int))).bind fun y => match y with | d7 => F24.j1c (d7)) else none)
noncomputable def F19.mc  : Option Bool :=
  ((F20.mc ([(1 : Int), (1 : Int), (2 : Int), (4 : Int)]) ((15 : Int))).bind fun y3 => ((F20.mc ([(1 : Int), (1 : Int), (2 : Int), (4 : Int)]) ((2 : Int))).bind fun y6 => (if y3.2 = (0 : Int) then (if y6.2 = (0 : Int) then ((F24.mc ([(1 : Int), (1 : Int), (2 : Int), (4 : Int)]) (y3.1)).bind fun y11 => (if y11 = (14 : Int) then ((F24.mc ([(1 : Int), (1 : Int), (2 : Int), (4 : Int)]) (y6.1)).bind fun y14 => some (decide (y14 = (16 : Int)))) else some false)) else some false) else some false)))
noncomputable def F25.j1c  (d6 : Int) : Option Int :=
  some d6
noncomputable def F25.j2c (d8 : Int) (d16 : Int) : Option ((Int × Int) ⊕ Int) :=
  some (.inl (d16, (IntKind.wrap .i64 (d8 + (1 : Int)))))
noncomputable def F25.b1c (x2 : List Int) (x4 : List Int) : (Int × Int) → Option ((Int × Int) ⊕ Int)
  | (d7, d8) => (if d8 < ((x2).length : Int) then (if d8 < ((x4).length : Int) then (if 0 ≤ d8 ∧ d8 < ((x2).length : Int) then (if 0 ≤ d8 ∧ d8 < ((x4).length : Int) then F25.j2c d8 ((IntKind.wrap .u64 (d7 + (IntKind.wrap .u64 ((IntKind.wrap .u64 (gd x2 d8)) * (IntKind.wrap .u64 (gd x4 d8))))))) else none) else none) else F25.j2c d8 (d7)) else some (.inr d7))
noncomputable def F25.mc (x2 : List Int) (x4 : List Int) : Option Int :=
  ((loopK (F25.b1c x2 x4) ((0 : Int), (0 : Int))).bind fun y => match y with | d6 => F25.j1c (d6))
theorem F81.m.rf (x1 : Int) : Rf (F81.m x1) (F81.mc x1) := by
  unfold F81.m F81.mc
  repeat' with_reducible (first | exact Rf.refl _ | apply Rf.ite | apply Rf.loop | apply Rf.bind3 | apply Rf.bind2 | apply Rf.bind | intro _)
theorem F69.m.rf (x1 : Int) (x2 : Int) : Rf (F69.m x1 x2) (F69.mc x1 x2) := by
  unfold F69.m F69.mc
  repeat' with_reducible (first | exact Rf.refl _ | apply F81.m.rf | apply Rf.ite | apply Rf.loop | apply Rf.bind3 | apply Rf.bind2 | apply Rf.bind | intro _)
theorem F48.m.rf (x1 : Int) (x3 : List Int) (x4 : Int) (x6 : List Int) : Rf (F48.m x1 x3 x4 x6) (F48.mc x1 x3 x4 x6) := by
  unfold F48.m F48.mc
  repeat' with_reducible (first | exact Rf.refl _ | apply F69.m.rf | apply Rf.ite | apply Rf.loop | apply Rf.bind3 | apply Rf.bind2 | apply Rf.bind | intro _)
theorem F79_1.j1.rf (d8 : List (Int × (List Int))) : Rf (F79_1.j1 d8) (F79_1.j1c d8) := by
  unfold F79_1.j1 F79_1.j1c
  repeat' with_reducible (first | exact Rf.refl _ | apply Rf.ite | apply Rf.loop | apply Rf.bind3 | apply Rf.bind2 | apply Rf.bind | intro _)
theorem F79_1.j2.rf (d12 : Int) (d21 : List (Int × (List Int))) : Rf (F79_1.j2 d12 d21) (F79_1.j2c d12 d21) := by
  unfold F79_1.j2 F79_1.j2c
  repeat' with_reducible (first | exact Rf.refl _ | apply Rf.ite | apply Rf.loop | apply Rf.bind3 | apply Rf.bind2 | apply Rf.bind | intro _)
theorem F79_1.j3.rf (d12 : Int) (d23 : List (Int × (List Int))) : Rf (F79_1.j3 d12 d23) (F79_1.j3c d12 d23) := by
  unfold F79_1.j3 F79_1.j3c
  repeat' with_reducible (first | exact Rf.refl _ | apply F79_1.j2.rf | apply Rf.ite | apply Rf.loop | apply Rf.bind3 | apply Rf.bind2 | apply Rf.bind | intro _)
theorem F79_1.j4.rf (d25 : List (Int × (List Int))) (d27 : Int) : Rf (F79_1.j4 d25 d27) (F79_1.j4c d25 d27) := by
  unfold F79_1.j4 F79_1.j4c
  repeat' with_reducible (first | exact Rf.refl _ | apply Rf.ite | apply Rf.loop | apply Rf.bind3 | apply Rf.bind2 | apply Rf.bind | intro _)
theorem F79_1.b2.rf (x4 : Int) : ∀ x, Rf (F79_1.b2 x4 x) (F79_1.b2c x4 x) := by
  rintro ⟨u0, u1⟩
  unfold F79_1.b2 F79_1.b2c
  dsimp only
  repeat' with_reducible (first | exact Rf.refl _ | apply F48.m.rf | apply F79_1.j4.rf | apply Rf.ite | apply Rf.loop | apply Rf.bind3 | apply Rf.bind2 | apply Rf.bind | intro _)
theorem F79_1.b1.rf (x4 : Int) (x5 : Int) : ∀ x, Rf (F79_1.b1 x4 x5 x) (F79_1.b1c x4 x5 x) := by
  rintro ⟨u0, u1⟩
  unfold F79_1.b1 F79_1.b1c
  dsimp only
  repeat' with_reducible (first | exact Rf.refl _ | apply F79_1.b2.rf | apply F79_1.j3.rf | apply Rf.ite | apply Rf.loop | apply Rf.bind3 | apply Rf.bind2 | apply Rf.bind | intro _)
theorem F79_1.m.rf (x2 : List (Int × (List Int))) (x4 : Int) (x5 : Int) : Rf (F79_1.m x2 x4 x5) (F79_1.mc x2 x4 x5) := by
  unfold F79_1.m F79_1.mc
  repeat' with_reducible (first | exact Rf.refl _ | apply F79_1.b1.rf | apply F79_1.j1.rf | apply Rf.ite | apply Rf.loop | apply Rf.bind3 | apply Rf.bind2 | apply Rf.bind | intro _)
theorem F95_1.j1.rf (d9 : List (Int × (List Int))) : Rf (F95_1.j1 d9) (F95_1.j1c d9) := by
  unfold F95_1.j1 F95_1.j1c
  repeat' with_reducible (first | exact Rf.refl _ | apply Rf.ite | apply Rf.loop | apply Rf.bind3 | apply Rf.bind2 | apply Rf.bind | intro _)
theorem F95_1.j2.rf (x4 : Int) (x5 : Int) (d11 : List (Int × (List Int))) (d13 : Int) : Rf (F95_1.j2 x4 x5 d11 d13) (F95_1.j2c x4 x5 d11 d13) := by
  unfold F95_1.j2 F95_1.j2c
  repeat' with_reducible (first | exact Rf.refl _ | apply Rf.ite | apply Rf.loop | apply Rf.bind3 | apply Rf.bind2 | apply Rf.bind | intro _)
theorem F95_1.b1.rf (x4 : Int) (x5 : Int) (x6 : Int) : ∀ x, Rf (F95_1.b1 x4 x5 x6 x) (F95_1.b1c x4 x5 x6 x) := by
  rintro ⟨u0, u1⟩
  unfold F95_1.b1 F95_1.b1c
  dsimp only
  repeat' with_reducible (first | exact Rf.refl _ | apply F95_1.j2.rf | apply Rf.ite | apply Rf.loop | apply Rf.bind3 | apply Rf.bind2 | apply Rf.bind | intro _)
theorem F95_1.m.rf (x2 : List (Int × (List Int))) (x4 : Int) (x5 : Int) (x6 : Int) : Rf (F95_1.m x2 x4 x5 x6) (F95_1.mc x2 x4 x5 x6) := by
  unfold F95_1.m F95_1.mc
  repeat' with_reducible (first | exact Rf.refl _ | apply F95_1.b1.rf | apply F95_1.j1.rf | apply Rf.ite | apply Rf.loop | apply Rf.bind3 | apply Rf.bind2 | apply Rf.bind | intro _)
theorem F93_1.j1.rf (x5 : Int) (d9 : List (Int × (List Int))) (d11 : Int) : Rf (F93_1.j1 x5 d9 d11) (F93_1.j1c x5 d9 d11) := by
  unfold F93_1.j1 F93_1.j1c
  repeat' with_reducible (first | exact Rf.refl _ | apply F95_1.m.rf | apply Rf.ite | apply Rf.loop | apply Rf.bind3 | apply Rf.bind2 | apply Rf.bind | intro _)
theorem F93_1.j2.rf (d28 : List (Int × (List Int))) (d30 : Int) (d31 : Int) : Rf (F93_1.j2 d28 d30 d31) (F93_1.j2c d28 d30 d31) := by
  unfold F93_1.j2 F93_1.j2c
  repeat' with_reducible (first | exact Rf.refl _ | apply Rf.ite | apply Rf.loop | apply Rf.bind3 | apply Rf.bind2 | apply Rf.bind | intro _)
theorem F93_1.b1.rf (x5 : Int) : ∀ x, Rf (F93_1.b1 x5 x) (F93_1.b1c x5 x) := by
  rintro ⟨u0, u1, u2⟩
  unfold F93_1.b1 F93_1.b1c
  dsimp only
  repeat' with_reducible (first | exact Rf.refl _ | apply F93_1.j2.rf | apply F95_1.m.rf | apply Rf.ite | apply Rf.loop | apply Rf.bind3 | apply Rf.bind2 | apply Rf.bind | intro _)
theorem F93_1.m.rf (x2 : List (Int × (List Int))) (x4 : Int) (x5 : Int) (x6 : Int) : Rf (F93_1.m x2 x4 x5 x6) (F93_1.mc x2 x4 x5 x6) := by
  unfold F93_1.m F93_1.mc
  repeat' with_reducible (first | exact Rf.refl _ | apply F93_1.b1.rf | apply F93_1.j1.rf | apply Rf.ite | apply Rf.loop | apply Rf.bind3 | apply Rf.bind2 | apply Rf.bind | intro _)
theorem F68_1.j2.rf (d13 : List (Int × (List Int))) : Rf (F68_1.j2 d13) (F68_1.j2c d13) := by
  unfold F68_1.j2 F68_1.j2c
  repeat' with_reducible (first | exact Rf.refl _ | apply Rf.ite | apply Rf.loop | apply Rf.bind3 | apply Rf.bind2 | apply Rf.bind | intro _)
theorem F68_1.j3.rf (d17 : Int) (d26 : List (Int × (List Int))) : Rf (F68_1.j3 d17 d26) (F68_1.j3c d17 d26) := by
  unfold F68_1.j3 F68_1.j3c
  repeat' with_reducible (first | exact Rf.refl _ | apply Rf.ite | apply Rf.loop | apply Rf.bind3 | apply Rf.bind2 | apply Rf.bind | intro _)
theorem F68_1.j5.rf (d17 : Int) (d31 : List (Int × (List Int))) : Rf (F68_1.j5 d17 d31) (F68_1.j5c d17 d31) := by
  unfold F68_1.j5 F68_1.j5c
  repeat' with_reducible (first | exact Rf.refl _ | apply F68_1.j3.rf | apply Rf.ite | apply Rf.loop | apply Rf.bind3 | apply Rf.bind2 | apply Rf.bind | intro _)
theorem F68_1.j4.rf (x4 : Int) (d17 : Int) (d28 : List (Int × (List Int))) (d30 : Int) : Rf (F68_1.j4 x4 d17 d28 d30) (F68_1.j4c x4 d17 d28 d30) := by
  unfold F68_1.j4 F68_1.j4c
  repeat' with_reducible (first | exact Rf.refl _ | apply F68_1.j5.rf | apply Rf.ite | apply Rf.loop | apply Rf.bind3 | apply Rf.bind2 | apply Rf.bind | intro _)
theorem F68_1.b2.rf (x4 : Int) (d17 : Int) : ∀ x, Rf (F68_1.b2 x4 d17 x) (F68_1.b2c x4 d17 x) := by
  rintro ⟨u0, u1, u2⟩
  unfold F68_1.b2 F68_1.b2c
  dsimp only
  repeat' with_reducible (first | exact Rf.refl _ | apply Rf.ite | apply Rf.loop | apply Rf.bind3 | apply Rf.bind2 | apply Rf.bind | intro _)
theorem F68_1.b1.rf (x4 : Int) : ∀ x, Rf (F68_1.b1 x4 x) (F68_1.b1c x4 x) := by
  rintro ⟨u0, u1⟩
  unfold F68_1.b1 F68_1.b1c
  dsimp only
  repeat' with_reducible (first | exact Rf.refl _ | apply F68_1.b2.rf | apply F68_1.j4.rf | apply Rf.ite | apply Rf.loop | apply Rf.bind3 | apply Rf.bind2 | apply Rf.bind | intro _)
theorem F68_1.j1.rf (x4 : Int) (d7 : List (Int × (List Int))) (d9 : Int) : Rf (F68_1.j1 x4 d7 d9) (F68_1.j1c x4 d7 d9) := by
  unfold F68_1.j1 F68_1.j1c
  repeat' with_reducible (first | exact Rf.refl _ | apply F68_1.b1.rf | apply F68_1.j2.rf | apply F79_1.m.rf | apply Rf.ite | apply Rf.loop | apply Rf.bind3 | apply Rf.bind2 | apply Rf.bind | intro _)
theorem F68_1.b3.rf (x4 : Int) : ∀ x, Rf (F68_1.b3 x4 x) (F68_1.b3c x4 x) := by
  rintro ⟨u0, u1, u2⟩
  unfold F68_1.b3 F68_1.b3c
  dsimp only
  repeat' with_reducible (first | exact Rf.refl _ | apply F79_1.m.rf | apply Rf.ite | apply Rf.loop | apply Rf.bind3 | apply Rf.bind2 | apply Rf.bind | intro _)
theorem F68_1.m.rf (x2 : List (Int × (List Int))) (x4 : Int) : Rf (F68_1.m x2 x4) (F68_1.mc x2 x4) := by
  unfold F68_1.m F68_1.mc
  repeat' with_reducible (first | exact Rf.refl _ | apply F68_1.b3.rf | apply F68_1.j1.rf | apply Rf.ite | apply Rf.loop | apply Rf.bind3 | apply Rf.bind2 | apply Rf.bind | intro _)
theorem F47_1.m.rf (x2 : List (Int × (List Int))) : Rf (F47_1.m x2) (F47_1.mc x2) := by
  unfold F47_1.m F47_1.mc
  repeat' with_reducible (first | exact Rf.refl _ | apply F68_1.m.rf | apply Rf.ite | apply Rf.loop | apply Rf.bind3 | apply Rf.bind2 | apply Rf.bind | intro _)
theorem F49.m.rf (x2 : List (Int × (List Int))) : Rf (F49.m x2) (F49.mc x2) := by
  unfold F49.m F49.mc
  repeat' with_reducible (first | exact Rf.refl _ | apply Rf.ite | apply Rf.loop | apply Rf.bind3 | apply Rf.bind2 | apply Rf.bind | intro _)
theorem F83.j1.rf (d6 : List Int) : Rf (F83.j1 d6) (F83.j1c d6) := by
  unfold F83.j1 F83.j1c
  repeat' with_reducible (first | exact Rf.refl _ | apply Rf.ite | apply Rf.loop | apply Rf.bind3 | apply Rf.bind2 | apply Rf.bind | intro _)
theorem F83.m.rf (x1 : Int) : Rf (F83.m x1) (F83.mc x1) := by
  unfold F83.m F83.mc
  repeat' with_reducible (first | exact Rf.refl _ | apply F83.j1.rf | apply Rf.ite | apply Rf.loop | apply Rf.bind3 | apply Rf.bind2 | apply Rf.bind | intro _)
theorem F71.j2.rf (d11 : List Int) : Rf (F71.j2 d11) (F71.j2c d11) := by
  unfold F71.j2 F71.j2c
  repeat' with_reducible (first | exact Rf.refl _ | apply Rf.ite | apply Rf.loop | apply Rf.bind3 | apply Rf.bind2 | apply Rf.bind | intro _)
theorem F71.b1.rf (x2 : List (List Int)) : ∀ x, Rf (F71.b1 x2 x) (F71.b1c x2 x) := by
  rintro ⟨u0, u1⟩
  unfold F71.b1 F71.b1c
  dsimp only
  repeat' with_reducible (first | exact Rf.refl _ | apply Rf.ite | apply Rf.loop | apply Rf.bind3 | apply Rf.bind2 | apply Rf.bind | intro _)
theorem F71.j1.rf (x2 : List (List Int)) (d6 : Int) : Rf (F71.j1 x2 d6) (F71.j1c x2 d6) := by
  unfold F71.j1 F71.j1c
  repeat' with_reducible (first | exact Rf.refl _ | apply F71.b1.rf | apply F71.j2.rf | apply F83.m.rf | apply Rf.ite | apply Rf.loop | apply Rf.bind3 | apply Rf.bind2 | apply Rf.bind | intro _)
theorem F71.b2.rf (x2 : List (List Int)) : ∀ x, Rf (F71.b2 x2 x) (F71.b2c x2 x) := by
  rintro ⟨u0, u1⟩
  unfold F71.b2 F71.b2c
  dsimp only
  repeat' with_reducible (first | exact Rf.refl _ | apply Rf.ite | apply Rf.loop | apply Rf.bind3 | apply Rf.bind2 | apply Rf.bind | intro _)
theorem F71.m.rf (x2 : List (List Int)) : Rf (F71.m x2) (F71.mc x2) := by
  unfold F71.m F71.mc
  repeat' with_reducible (first | exact Rf.refl _ | apply F71.b2.rf | apply F71.j1.rf | apply Rf.ite | apply Rf.loop | apply Rf.bind3 | apply Rf.bind2 | apply Rf.bind | intro _)
theorem F119.j1.rf (d12 : List (Int × (List Int))) : Rf (F119.j1 d12) (F119.j1c d12) := by
  unfold F119.j1 F119.j1c
  repeat' with_reducible (first | exact Rf.refl _ | apply Rf.ite | apply Rf.loop | apply Rf.bind3 | apply Rf.bind2 | apply Rf.bind | intro _)
theorem F119.m.rf (x3 : List (Int × (List Int))) (x6 : List (Int × (List Int))) : Rf (F119.m x3 x6) (F119.mc x3 x6) := by
  unfold F119.m F119.mc
  repeat' with_reducible (first | exact Rf.refl _ | apply F119.j1.rf | apply F71.m.rf | apply Rf.ite | apply Rf.loop | apply Rf.bind3 | apply Rf.bind2 | apply Rf.bind | intro _)
theorem F82.b.rf (x : List (Int × (List Int))) (t : Int × List (Int × (List Int))) : Rf (F82.b x t) (F82.bc x t) := by
  unfold F82.b F82.bc
  repeat' with_reducible (first | exact Rf.refl _ | apply F119.m.rf | apply Rf.ite | apply Rf.loop | apply Rf.bind3 | apply Rf.bind2 | apply Rf.bind | intro _)
theorem F50.m.rf (x1 : List (Int × (List Int))) : Rf (F50.m x1) (F50.mc x1) := by
  unfold F50.m F50.mc
  repeat' with_reducible (first | exact Rf.refl _ | apply F82.b.rf | apply Rf.ite | apply Rf.loop | apply Rf.bind3 | apply Rf.bind2 | apply Rf.bind | intro _)
theorem F20.j3.rf (d32 : List Int) : Rf (F20.j3 d32) (F20.j3c d32) := by
  unfold F20.j3 F20.j3c
  repeat' with_reducible (first | exact Rf.refl _ | apply Rf.ite | apply Rf.loop | apply Rf.bind3 | apply Rf.bind2 | apply Rf.bind | intro _)
theorem F20.j4.rf (d34 : Int) (d42 : List Int) : Rf (F20.j4 d34 d42) (F20.j4c d34 d42) := by
  unfold F20.j4 F20.j4c
  repeat' with_reducible (first | exact Rf.refl _ | apply Rf.ite | apply Rf.loop | apply Rf.bind3 | apply Rf.bind2 | apply Rf.bind | intro _)
theorem F20.j5.rf (d34 : Int) (d45 : List Int) : Rf (F20.j5 d34 d45) (F20.j5c d34 d45) := by
  unfold F20.j5 F20.j5c
  repeat' with_reducible (first | exact Rf.refl _ | apply F20.j4.rf | apply Rf.ite | apply Rf.loop | apply Rf.bind3 | apply Rf.bind2 | apply Rf.bind | intro _)
theorem F20.b2.rf (y21 : (List (Int × (List Int)))) (d29 : List (Int × (List Int))) (d34 : Int) : ∀ x, Rf (F20.b2 y21 d29 d34 x) (F20.b2c y21 d29 d34 x) := by
  rintro ⟨u0, u1⟩
  unfold F20.b2 F20.b2c
  dsimp only
  repeat' with_reducible (first | exact Rf.refl _ | apply Rf.ite | apply Rf.loop | apply Rf.bind3 | apply Rf.bind2 | apply Rf.bind | intro _)
theorem F20.b1.rf (y21 : (List (Int × (List Int)))) (d29 : List (Int × (List Int))) : ∀ x, Rf (F20.b1 y21 d29 x) (F20.b1c y21 d29 x) := by
  rintro ⟨u0, u1⟩
  unfold F20.b1 F20.b1c
  dsimp only
  repeat' with_reducible (first | exact Rf.refl _ | apply F20.b2.rf | apply F20.j5.rf | apply Rf.ite | apply Rf.loop | apply Rf.bind3 | apply Rf.bind2 | apply Rf.bind | intro _)
theorem F20.j2.rf (x2 : List Int) (y21 : (List (Int × (List Int)))) (d29 : List (Int × (List Int))) : Rf (F20.j2 x2 y21 d29) (F20.j2c x2 y21 d29) := by
  unfold F20.j2 F20.j2c
  repeat' with_reducible (first | exact Rf.refl _ | apply F20.b1.rf | apply F20.j3.rf | apply Rf.ite | apply Rf.loop | apply Rf.bind3 | apply Rf.bind2 | apply Rf.bind | intro _)
theorem F20.b3.rf (x3 : Int) (y21 : (List (Int × (List Int)))) : ∀ x, Rf (F20.b3 x3 y21 x) (F20.b3c x3 y21 x) := by
  rintro ⟨u0, u1⟩
  unfold F20.b3 F20.b3c
  dsimp only
  repeat' with_reducible (first | exact Rf.refl _ | apply F47_1.m.rf | apply F49.m.rf | apply F50.m.rf | apply Rf.ite | apply Rf.loop | apply Rf.bind3 | apply Rf.bind2 | apply Rf.bind | intro _)
theorem F20.j1.rf (x2 : List Int) (x3 : Int) (d11 : List (Int × (List Int))) : Rf (F20.j1 x2 x3 d11) (F20.j1c x2 x3 d11) := by
  unfold F20.j1 F20.j1c
  repeat' with_reducible (first | exact Rf.refl _ | apply F20.b3.rf | apply F20.j2.rf | apply F47_1.m.rf | apply F49.m.rf | apply Rf.ite | apply Rf.loop | apply Rf.bind3 | apply Rf.bind2 | apply Rf.bind | intro _)
theorem F20.j6.rf (d86 : Int) (d98 : List (Int × (List Int))) : Rf (F20.j6 d86 d98) (F20.j6c d86 d98) := by
  unfold F20.j6 F20.j6c
  repeat' with_reducible (first | exact Rf.refl _ | apply Rf.ite | apply Rf.loop | apply Rf.bind3 | apply Rf.bind2 | apply Rf.bind | intro _)
theorem F20.b4.rf (x2 : List Int) : ∀ x, Rf (F20.b4 x2 x) (F20.b4c x2 x) := by
  rintro ⟨u0, u1⟩
  unfold F20.b4 F20.b4c
  dsimp only
  repeat' with_reducible (first | exact Rf.refl _ | apply F20.j6.rf | apply Rf.ite | apply Rf.loop | apply Rf.bind3 | apply Rf.bind2 | apply Rf.bind | intro _)
theorem F20.m.rf (x2 : List Int) (x3 : Int) : Rf (F20.m x2 x3) (F20.mc x2 x3) := by
  unfold F20.m F20.mc
  repeat' with_reducible (first | exact Rf.refl _ | apply F20.b4.rf | apply F20.j1.rf | apply Rf.ite | apply Rf.loop | apply Rf.bind3 | apply Rf.bind2 | apply Rf.bind | intro _)
theorem F24.j1.rf (d7 : Int) : Rf (F24.j1 d7) (F24.j1c d7) := by
  unfold F24.j1 F24.j1c
  repeat' with_reducible (first | exact Rf.refl _ | apply Rf.ite | apply Rf.loop | apply Rf.bind3 | apply Rf.bind2 | apply Rf.bind | intro _)
theorem F24.b1.rf (x2 : List Int) (x4 : List Int) : ∀ x, Rf (F24.b1 x2 x4 x) (F24.b1c x2 x4 x) := by
  rintro ⟨u0, u1⟩
  unfold F24.b1 F24.b1c
  dsimp only
  repeat' with_reducible (first | exact Rf.refl _ | apply Rf.ite | apply Rf.loop | apply Rf.bind3 | apply Rf.bind2 | apply Rf.bind | intro _)
theorem F24.m.rf (x2 : List Int) (x4 : List Int) : Rf (F24.m x2 x4) (F24.mc x2 x4) := by
  unfold F24.m F24.mc
  repeat' with_reducible (first | exact Rf.refl _ | apply F24.b1.rf | apply F24.j1.rf | apply Rf.ite | apply Rf.loop | apply Rf.bind3 | apply Rf.bind2 | apply Rf.bind | intro _)
theorem F19.m.rf  : Rf (F19.m ) (F19.mc ) := by
  unfold F19.m F19.mc
  repeat' with_reducible (first | exact Rf.refl _ | apply F20.m.rf | apply F24.m.rf | apply Rf.ite | apply Rf.loop | apply Rf.bind3 | apply Rf.bind2 | apply Rf.bind | intro _)
theorem F25.j1.rf (d6 : Int) : Rf (F25.j1 d6) (F25.j1c d6) := by
  unfold F25.j1 F25.j1c
  repeat' with_reducible (first | exact Rf.refl _ | apply Rf.ite | apply Rf.loop | apply Rf.bind3 | apply Rf.bind2 | apply Rf.bind | intro _)
theorem F25.j2.rf (d8 : Int) (d16 : Int) : Rf (F25.j2 d8 d16) (F25.j2c d8 d16) := by
  unfold F25.j2 F25.j2c
  repeat' with_reducible (first | exact Rf.refl _ | apply Rf.ite | apply Rf.loop | apply Rf.bind3 | apply Rf.bind2 | apply Rf.bind | intro _)
theorem F25.b1.rf (x2 : List Int) (x4 : List Int) : ∀ x, Rf (F25.b1 x2 x4 x) (F25.b1c x2 x4 x) := by
  rintro ⟨u0, u1⟩
  unfold F25.b1 F25.b1c
  dsimp only
  repeat' with_reducible (first | exact Rf.refl _ | apply F25.j2.rf | apply Rf.ite | apply Rf.loop | apply Rf.bind3 | apply Rf.bind2 | apply Rf.bind | intro _)
theorem F25.m.rf (x2 : List Int) (x4 : List Int) : Rf (F25.m x2 x4) (F25.mc x2 x4) := by
  unfold F25.m F25.mc
  repeat' with_reducible (first | exact Rf.refl _ | apply F25.b1.rf | apply F25.j1.rf | apply Rf.ite | apply Rf.loop | apply Rf.bind3 | apply Rf.bind2 | apply Rf.bind | intro _)
theorem lim_awake : F19.m = some true := F19.m.rf _ (by kernel_rfl)
end Go.Proofs.Ytgganckggdjpaaa
