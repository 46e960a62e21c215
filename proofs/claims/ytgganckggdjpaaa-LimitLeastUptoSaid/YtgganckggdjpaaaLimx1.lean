/- Written by gen.py: functions and their contracts. -/
import Derived.Test.YtgganckggdjpaaaLimx0
namespace Go.Proofs.Ytgganckggdjpaaa
open Go Go.Eng Go.Proofs
set_option linter.unusedVariables false
set_option linter.unusedSimpArgs false
/-! ### 80: slices.symMergeCmpFunc[drogher/limit.pack] -/
noncomputable def F80_1.j7  (d21 : List (Int × (List Int))) : Option (List (Int × (List Int))) :=
  some d21
noncomputable def F80_1.j6 (x4 : Int) (x5 : Int) (x6 : Int) (recM : (List (Int × (List Int))) → (Int) → (Int) → (Int) → Option (List (Int × (List Int)))) (d13 : Int) (d18 : List (Int × (List Int))) : Option (List (Int × (List Int))) :=
  (if (IntKind.wrap .i64 (shrI .u64 (IntKind.wrap .u64 (IntKind.wrap .i64 (x4 + x6))) (1 : Int))) < (IntKind.wrap .i64 ((IntKind.wrap .i64 ((IntKind.wrap .i64 (shrI .u64 (IntKind.wrap .u64 (IntKind.wrap .i64 (x4 + x6))) (1 : Int))) + x5)) - d13)) then (if (IntKind.wrap .i64 ((IntKind.wrap .i64 ((IntKind.wrap .i64 (shrI .u64 (IntKind.wrap .u64 (IntKind.wrap .i64 (x4 + x6))) (1 : Int))) + x5)) - d13)) < x6 then ((recM (d18) ((IntKind.wrap .i64 (shrI .u64 (IntKind.wrap .u64 (IntKind.wrap .i64 (x4 + x6))) (1 : Int)))) ((IntKind.wrap .i64 ((IntKind.wrap .i64 ((IntKind.wrap .i64 (shrI .u64 (IntKind.wrap .u64 (IntKind.wrap .i64 (x4 + x6))) (1 : Int))) + x5)) - d13))) (x6)).bind fun y24 => F80_1.j7 (y24)) else F80_1.j7 (d18)) else some d18)
noncomputable def F80_1.j8  (d32 : List (Int × (List Int))) : Option (List (Int × (List Int))) :=
  some d32
noncomputable def F80_1.j5 (x4 : Int) (x5 : Int) (x6 : Int) (recM : (List (Int × (List Int))) → (Int) → (Int) → (Int) → Option (List (Int × (List Int)))) (d13 : Int) (d15 : List (Int × (List Int))) : Option (List (Int × (List Int))) :=
  (if x4 < d13 then (if d13 < (IntKind.wrap .i64 (shrI .u64 (IntKind.wrap .u64 (IntKind.wrap .i64 (x4 + x6))) (1 : Int))) then ((recM (d15) (x4) (d13) ((IntKind.wrap .i64 (shrI .u64 (IntKind.wrap .u64 (IntKind.wrap .i64 (x4 + x6))) (1 : Int))))).bind fun y28 => F80_1.j6 x4 x5 x6 recM d13 (y28)) else F80_1.j6 x4 x5 x6 recM d13 (d15)) else (if (IntKind.wrap .i64 (shrI .u64 (IntKind.wrap .u64 (IntKind.wrap .i64 (x4 + x6))) (1 : Int))) < (IntKind.wrap .i64 ((IntKind.wrap .i64 ((IntKind.wrap .i64 (shrI .u64 (IntKind.wrap .u64 (IntKind.wrap .i64 (x4 + x6))) (1 : Int))) + x5)) - d13)) then (if (IntKind.wrap .i64 ((IntKind.wrap .i64 ((IntKind.wrap .i64 (shrI .u64 (IntKind.wrap .u64 (IntKind.wrap .i64 (x4 + x6))) (1 : Int))) + x5)) - d13)) < x6 then ((recM (d15) ((IntKind.wrap .i64 (shrI .u64 (IntKind.wrap .u64 (IntKind.wrap .i64 (x4 + x6))) (1 : Int)))) ((IntKind.wrap .i64 ((IntKind.wrap .i64 ((IntKind.wrap .i64 (shrI .u64 (IntKind.wrap .u64 (IntKind.wrap .i64 (x4 + x6))) (1 : Int))) + x5)) - d13))) (x6)).bind fun y35 => F80_1.j8 (y35)) else F80_1.j8 (d15)) else some d15))
noncomputable def F80_1.j10  (d46 : List (Int × (List Int))) : Option (List (Int × (List Int))) :=
  some d46
noncomputable def F80_1.j9 (x4 : Int) (x5 : Int) (x6 : Int) (recM : (List (Int × (List Int))) → (Int) → (Int) → (Int) → Option (List (Int × (List Int)))) (d13 : Int) (d43 : List (Int × (List Int))) : Option (List (Int × (List Int))) :=
  (if (IntKind.wrap .i64 (shrI .u64 (IntKind.wrap .u64 (IntKind.wrap .i64 (x4 + x6))) (1 : Int))) < (IntKind.wrap .i64 ((IntKind.wrap .i64 ((IntKind.wrap .i64 (shrI .u64 (IntKind.wrap .u64 (IntKind.wrap .i64 (x4 + x6))) (1 : Int))) + x5)) - d13)) then (if (IntKind.wrap .i64 ((IntKind.wrap .i64 ((IntKind.wrap .i64 (shrI .u64 (IntKind.wrap .u64 (IntKind.wrap .i64 (x4 + x6))) (1 : Int))) + x5)) - d13)) < x6 then ((recM (d43) ((IntKind.wrap .i64 (shrI .u64 (IntKind.wrap .u64 (IntKind.wrap .i64 (x4 + x6))) (1 : Int)))) ((IntKind.wrap .i64 ((IntKind.wrap .i64 ((IntKind.wrap .i64 (shrI .u64 (IntKind.wrap .u64 (IntKind.wrap .i64 (x4 + x6))) (1 : Int))) + x5)) - d13))) (x6)).bind fun y49 => F80_1.j10 (y49)) else F80_1.j10 (d43)) else some d43)
noncomputable def F80_1.j11  (d57 : List (Int × (List Int))) : Option (List (Int × (List Int))) :=
  some d57
noncomputable def F80_1.j4 (x2 : List (Int × (List Int))) (x4 : Int) (x5 : Int) (x6 : Int) (recM : (List (Int × (List Int))) → (Int) → (Int) → (Int) → Option (List (Int × (List Int)))) (d13 : Int) : Option (List (Int × (List Int))) :=
  (if d13 < x5 then (if x5 < (IntKind.wrap .i64 ((IntKind.wrap .i64 ((IntKind.wrap .i64 (shrI .u64 (IntKind.wrap .u64 (IntKind.wrap .i64 (x4 + x6))) (1 : Int))) + x5)) - d13)) then ((F93_1.m (x2) (d13) (x5) ((IntKind.wrap .i64 ((IntKind.wrap .i64 ((IntKind.wrap .i64 (shrI .u64 (IntKind.wrap .u64 (IntKind.wrap .i64 (x4 + x6))) (1 : Int))) + x5)) - d13)))).bind fun y39 => F80_1.j5 x4 x5 x6 recM d13 (y39)) else F80_1.j5 x4 x5 x6 recM d13 (x2)) else (if x4 < d13 then (if d13 < (IntKind.wrap .i64 (shrI .u64 (IntKind.wrap .u64 (IntKind.wrap .i64 (x4 + x6))) (1 : Int))) then ((recM (x2) (x4) (d13) ((IntKind.wrap .i64 (shrI .u64 (IntKind.wrap .u64 (IntKind.wrap .i64 (x4 + x6))) (1 : Int))))).bind fun y53 => F80_1.j9 x4 x5 x6 recM d13 (y53)) else F80_1.j9 x4 x5 x6 recM d13 (x2)) else (if (IntKind.wrap .i64 (shrI .u64 (IntKind.wrap .u64 (IntKind.wrap .i64 (x4 + x6))) (1 : Int))) < (IntKind.wrap .i64 ((IntKind.wrap .i64 ((IntKind.wrap .i64 (shrI .u64 (IntKind.wrap .u64 (IntKind.wrap .i64 (x4 + x6))) (1 : Int))) + x5)) - d13)) then (if (IntKind.wrap .i64 ((IntKind.wrap .i64 ((IntKind.wrap .i64 (shrI .u64 (IntKind.wrap .u64 (IntKind.wrap .i64 (x4 + x6))) (1 : Int))) + x5)) - d13)) < x6 then ((recM (x2) ((IntKind.wrap .i64 (shrI .u64 (IntKind.wrap .u64 (IntKind.wrap .i64 (x4 + x6))) (1 : Int)))) ((IntKind.wrap .i64 ((IntKind.wrap .i64 ((IntKind.wrap .i64 (shrI .u64 (IntKind.wrap .u64 (IntKind.wrap .i64 (x4 + x6))) (1 : Int))) + x5)) - d13))) (x6)).bind fun y60 => F80_1.j11 (y60)) else F80_1.j11 (x2)) else some x2)))
noncomputable def F80_1.j12  (d76 : Int) (d77 : Int) : Option ((Int × Int) ⊕ Int) :=
  some (.inl (d76, d77))
noncomputable def F80_1.b1 (x2 : List (Int × (List Int))) (x4 : Int) (x5 : Int) (x6 : Int) : (Int × Int) → Option ((Int × Int) ⊕ Int)
  | (d63, d64) => (if d63 < d64 then (if 0 ≤ (IntKind.wrap .i64 ((IntKind.wrap .i64 ((IntKind.wrap .i64 ((IntKind.wrap .i64 (shrI .u64 (IntKind.wrap .u64 (IntKind.wrap .i64 (x4 + x6))) (1 : Int))) + x5)) - (1 : Int))) - (IntKind.wrap .i64 (shrI .u64 (IntKind.wrap .u64 (IntKind.wrap .i64 (d63 + d64))) (1 : Int))))) ∧ (IntKind.wrap .i64 ((IntKind.wrap .i64 ((IntKind.wrap .i64 ((IntKind.wrap .i64 (shrI .u64 (IntKind.wrap .u64 (IntKind.wrap .i64 (x4 + x6))) (1 : Int))) + x5)) - (1 : Int))) - (IntKind.wrap .i64 (shrI .u64 (IntKind.wrap .u64 (IntKind.wrap .i64 (d63 + d64))) (1 : Int))))) < ((x2).length : Int) then (if 0 ≤ (IntKind.wrap .i64 (shrI .u64 (IntKind.wrap .u64 (IntKind.wrap .i64 (d63 + d64))) (1 : Int))) ∧ (IntKind.wrap .i64 (shrI .u64 (IntKind.wrap .u64 (IntKind.wrap .i64 (d63 + d64))) (1 : Int))) < ((x2).length : Int) then ((F48.m ((gd x2 (IntKind.wrap .i64 ((IntKind.wrap .i64 ((IntKind.wrap .i64 ((IntKind.wrap .i64 (shrI .u64 (IntKind.wrap .u64 (IntKind.wrap .i64 (x4 + x6))) (1 : Int))) + x5)) - (1 : Int))) - (IntKind.wrap .i64 (shrI .u64 (IntKind.wrap .u64 (IntKind.wrap .i64 (d63 + d64))) (1 : Int)))))).1) ((gd x2 (IntKind.wrap .i64 ((IntKind.wrap .i64 ((IntKind.wrap .i64 ((IntKind.wrap .i64 (shrI .u64 (IntKind.wrap .u64 (IntKind.wrap .i64 (x4 + x6))) (1 : Int))) + x5)) - (1 : Int))) - (IntKind.wrap .i64 (shrI .u64 (IntKind.wrap .u64 (IntKind.wrap .i64 (d63 + d64))) (1 : Int)))))).2) ((gd x2 (IntKind.wrap .i64 (shrI .u64 (IntKind.wrap .u64 (IntKind.wrap .i64 (d63 + d64))) (1 : Int)))).1) ((gd x2 (IntKind.wrap .i64 (shrI .u64 (IntKind.wrap .u64 (IntKind.wrap .i64 (d63 + d64))) (1 : Int)))).2)).bind fun y74 => (if y74 < (0 : Int) then F80_1.j12 (d63) ((IntKind.wrap .i64 (shrI .u64 (IntKind.wrap .u64 (IntKind.wrap .i64 (d63 + d64))) (1 : Int)))) else F80_1.j12 ((IntKind.wrap .i64 ((IntKind.wrap .i64 (shrI .u64 (IntKind.wrap .u64 (IntKind.wrap .i64 (d63 + d64))) (1 : Int))) + (1 : Int)))) (d64))) else none) else none) else some (.inr d63))
noncomputable def F80_1.j3 (x2 : List (Int × (List Int))) (x4 : Int) (x5 : Int) (x6 : Int) (recM : (List (Int × (List Int))) → (Int) → (Int) → (Int) → Option (List (Int × (List Int)))) (d11 : Int) (d12 : Int) : Option (List (Int × (List Int))) :=
  ((loop (F80_1.b1 x2 x4 x5 x6) (d11, d12)).bind fun y => match y with | d13 => F80_1.j4 x2 x4 x5 x6 recM (d13))
noncomputable def F80_1.j2 (x2 : List (Int × (List Int))) (x4 : Int) (x5 : Int) (x6 : Int) (recM : (List (Int × (List Int))) → (Int) → (Int) → (Int) → Option (List (Int × (List Int))))  : Option (List (Int × (List Int))) :=
  (if (IntKind.wrap .i64 (shrI .u64 (IntKind.wrap .u64 (IntKind.wrap .i64 (x4 + x6))) (1 : Int))) < x5 then F80_1.j3 x2 x4 x5 x6 recM ((IntKind.wrap .i64 ((IntKind.wrap .i64 ((IntKind.wrap .i64 (shrI .u64 (IntKind.wrap .u64 (IntKind.wrap .i64 (x4 + x6))) (1 : Int))) + x5)) - x6))) ((IntKind.wrap .i64 (shrI .u64 (IntKind.wrap .u64 (IntKind.wrap .i64 (x4 + x6))) (1 : Int)))) else F80_1.j3 x2 x4 x5 x6 recM (x4) (x5))
noncomputable def F80_1.j14  (d82 : List (Int × (List Int))) : Option (List (Int × (List Int))) :=
  some d82
noncomputable def F80_1.j15 (d84 : List (Int × (List Int))) (d86 : Int)  : Option ((List (Int × (List Int)) × Int) ⊕ (List (Int × (List Int)))) :=
  some (.inl ((List.set (List.set d84 (Int.toNat d86) ((gd d84 (IntKind.wrap .i64 (d86 - (1 : Int)))).1, (gd d84 (IntKind.wrap .i64 (d86 - (1 : Int)))).2)) (Int.toNat (IntKind.wrap .i64 (d86 - (1 : Int)))) ((gd d84 d86).1, (gd d84 d86).2)), (IntKind.wrap .i64 (d86 - (1 : Int)))))
noncomputable def F80_1.b2 (d81 : Int) : (List (Int × (List Int)) × Int) → Option ((List (Int × (List Int)) × Int) ⊕ (List (Int × (List Int))))
  | (d84, d86) => (if d81 < d86 then (if 0 ≤ (IntKind.wrap .i64 (d86 - (1 : Int))) ∧ (IntKind.wrap .i64 (d86 - (1 : Int))) < ((d84).length : Int) then (if 0 ≤ d86 ∧ d86 < ((d84).length : Int) then (if 0 ≤ (IntKind.wrap .i64 (d86 - (1 : Int))) ∧ (IntKind.wrap .i64 (d86 - (1 : Int))) < (((List.set d84 (Int.toNat d86) ((gd d84 (IntKind.wrap .i64 (d86 - (1 : Int)))).1, (gd d84 (IntKind.wrap .i64 (d86 - (1 : Int)))).2))).length : Int) then F80_1.j15 d84 d86 else none) else none) else none) else some (.inr d84))
noncomputable def F80_1.j13 (x2 : List (Int × (List Int))) (x5 : Int) (d81 : Int) : Option (List (Int × (List Int))) :=
  ((loop (F80_1.b2 d81) (x2, x5)).bind fun y => match y with | d82 => F80_1.j14 (d82))
noncomputable def F80_1.j16  (d111 : Int) (d112 : Int) : Option ((Int × Int) ⊕ Int) :=
  some (.inl (d111, d112))
noncomputable def F80_1.b3 (x2 : List (Int × (List Int))) (x5 : Int) : (Int × Int) → Option ((Int × Int) ⊕ Int)
  | (d98, d99) => (if d98 < d99 then (if 0 ≤ x5 ∧ x5 < ((x2).length : Int) then (if 0 ≤ (IntKind.wrap .i64 (shrI .u64 (IntKind.wrap .u64 (IntKind.wrap .i64 (d98 + d99))) (1 : Int))) ∧ (IntKind.wrap .i64 (shrI .u64 (IntKind.wrap .u64 (IntKind.wrap .i64 (d98 + d99))) (1 : Int))) < ((x2).length : Int) then ((F48.m ((gd x2 x5).1) ((gd x2 x5).2) ((gd x2 (IntKind.wrap .i64 (shrI .u64 (IntKind.wrap .u64 (IntKind.wrap .i64 (d98 + d99))) (1 : Int)))).1) ((gd x2 (IntKind.wrap .i64 (shrI .u64 (IntKind.wrap .u64 (IntKind.wrap .i64 (d98 + d99))) (1 : Int)))).2)).bind fun y109 => (if y109 < (0 : Int) then F80_1.j16 (d98) ((IntKind.wrap .i64 (shrI .u64 (IntKind.wrap .u64 (IntKind.wrap .i64 (d98 + d99))) (1 : Int)))) else F80_1.j16 ((IntKind.wrap .i64 ((IntKind.wrap .i64 (shrI .u64 (IntKind.wrap .u64 (IntKind.wrap .i64 (d98 + d99))) (1 : Int))) + (1 : Int)))) (d99))) else none) else none) else some (.inr d98))
noncomputable def F80_1.j1 (x2 : List (Int × (List Int))) (x4 : Int) (x5 : Int) (x6 : Int) (recM : (List (Int × (List Int))) → (Int) → (Int) → (Int) → Option (List (Int × (List Int))))  : Option (List (Int × (List Int))) :=
  (if (IntKind.wrap .i64 (x6 - x5)) = (1 : Int) then ((loop (F80_1.b3 x2 x5) (x4, x5)).bind fun y => match y with | d81 => F80_1.j13 x2 x5 (d81)) else F80_1.j2 x2 x4 x5 x6 recM)
noncomputable def F80_1.j18  (d116 : List (Int × (List Int))) : Option (List (Int × (List Int))) :=
  some d116
noncomputable def F80_1.j19 (d118 : List (Int × (List Int))) (d120 : Int)  : Option ((List (Int × (List Int)) × Int) ⊕ (List (Int × (List Int)))) :=
  some (.inl ((List.set (List.set d118 (Int.toNat d120) ((gd d118 (IntKind.wrap .i64 (d120 + (1 : Int)))).1, (gd d118 (IntKind.wrap .i64 (d120 + (1 : Int)))).2)) (Int.toNat (IntKind.wrap .i64 (d120 + (1 : Int)))) ((gd d118 d120).1, (gd d118 d120).2)), (IntKind.wrap .i64 (d120 + (1 : Int)))))
noncomputable def F80_1.b4 (d115 : Int) : (List (Int × (List Int)) × Int) → Option ((List (Int × (List Int)) × Int) ⊕ (List (Int × (List Int))))
  | (d118, d120) => (if d120 < (IntKind.wrap .i64 (d115 - (1 : Int))) then (if 0 ≤ (IntKind.wrap .i64 (d120 + (1 : Int))) ∧ (IntKind.wrap .i64 (d120 + (1 : Int))) < ((d118).length : Int) then (if 0 ≤ d120 ∧ d120 < ((d118).length : Int) then (if 0 ≤ (IntKind.wrap .i64 (d120 + (1 : Int))) ∧ (IntKind.wrap .i64 (d120 + (1 : Int))) < (((List.set d118 (Int.toNat d120) ((gd d118 (IntKind.wrap .i64 (d120 + (1 : Int)))).1, (gd d118 (IntKind.wrap .i64 (d120 + (1 : Int)))).2))).length : Int) then F80_1.j19 d118 d120 else none) else none) else none) else some (.inr d118))
noncomputable def F80_1.j17 (x2 : List (Int × (List Int))) (x4 : Int) (d115 : Int) : Option (List (Int × (List Int))) :=
  ((loop (F80_1.b4 d115) (x2, x4)).bind fun y => match y with | d116 => F80_1.j18 (d116))
noncomputable def F80_1.j20  (d145 : Int) (d146 : Int) : Option ((Int × Int) ⊕ Int) :=
  some (.inl (d145, d146))
noncomputable def F80_1.b5 (x2 : List (Int × (List Int))) (x4 : Int) : (Int × Int) → Option ((Int × Int) ⊕ Int)
  | (d132, d133) => (if d132 < d133 then (if 0 ≤ (IntKind.wrap .i64 (shrI .u64 (IntKind.wrap .u64 (IntKind.wrap .i64 (d132 + d133))) (1 : Int))) ∧ (IntKind.wrap .i64 (shrI .u64 (IntKind.wrap .u64 (IntKind.wrap .i64 (d132 + d133))) (1 : Int))) < ((x2).length : Int) then (if 0 ≤ x4 ∧ x4 < ((x2).length : Int) then ((F48.m ((gd x2 (IntKind.wrap .i64 (shrI .u64 (IntKind.wrap .u64 (IntKind.wrap .i64 (d132 + d133))) (1 : Int)))).1) ((gd x2 (IntKind.wrap .i64 (shrI .u64 (IntKind.wrap .u64 (IntKind.wrap .i64 (d132 + d133))) (1 : Int)))).2) ((gd x2 x4).1) ((gd x2 x4).2)).bind fun y143 => (if y143 < (0 : Int) then F80_1.j20 ((IntKind.wrap .i64 ((IntKind.wrap .i64 (shrI .u64 (IntKind.wrap .u64 (IntKind.wrap .i64 (d132 + d133))) (1 : Int))) + (1 : Int)))) (d133) else F80_1.j20 (d132) ((IntKind.wrap .i64 (shrI .u64 (IntKind.wrap .u64 (IntKind.wrap .i64 (d132 + d133))) (1 : Int)))))) else none) else none) else some (.inr d132))
noncomputable def F80_1.g (recM : (List (Int × (List Int))) → (Int) → (Int) → (Int) → Option (List (Int × (List Int)))) (x2 : List (Int × (List Int))) (x4 : Int) (x5 : Int) (x6 : Int) : Option (List (Int × (List Int))) :=
  (if (IntKind.wrap .i64 (x5 - x4)) = (1 : Int) then ((loop (F80_1.b5 x2 x4) (x5, x6)).bind fun y => match y with | d115 => F80_1.j17 x2 x4 (d115)) else F80_1.j1 x2 x4 x5 x6 recM)
noncomputable def F80_1.mF : Nat → (List (Int × (List Int))) → (Int) → (Int) → (Int) → Option (List (Int × (List Int)))
  | 0 => fun _ _ _ _ => none
  | n + 1 => fun x2 x4 x5 x6 => F80_1.g (F80_1.mF n) x2 x4 x5 x6
noncomputable def F80_1.m (x2 : List (Int × (List Int))) (x4 : Int) (x5 : Int) (x6 : Int) : Option (List (Int × (List Int))) := evt (fun n => F80_1.mF n x2 x4 x5 x6)
set_option maxRecDepth 100000 in
set_option maxHeartbeats 4000000 in
theorem F80_1.specG (recM : (List (Int × (List Int))) → (Int) → (Int) → (Int) → Option (List (Int × (List Int)))) (ih : ∀ (s1 : SlV) (z3 : List (Unit × SlV)) (x2 : List (Int × (List Int))) (x4 : Int) (x5 : Int) (x6 : Int) (r : (List (Int × (List Int)))) (_hm : recM x2 x4 x5 x6 = some r), Ctr Try.prog true 80 [s1.v, .int .i64 x4, .int .i64 x5, .int .i64 x6, .func (.func 48) #[] #[]] [Asr.onv 91 (NE.pair (NE.flat (Enc.int .u64)) (NE.sl (Enc.int .i64))) (s1.v) z3 x2] (fun v L' => ∃ (g10 : List (Unit × SlV)), v = .tuple #[] ∧ L' = [Asr.onv 91 (NE.pair (NE.flat (Enc.int .u64)) (NE.sl (Enc.int .i64))) (s1.v) g10 r])) (s1 : SlV) (z3 : List (Unit × SlV)) (x2 : List (Int × (List Int))) (x4 : Int) (x5 : Int) (x6 : Int) (r : (List (Int × (List Int)))) (hm : F80_1.g recM x2 x4 x5 x6 = some r) :
    Ctr Try.prog true 80 [s1.v, .int .i64 x4, .int .i64 x5, .int .i64 x6, .func (.func 48) #[] #[]] [Asr.onv 91 (NE.pair (NE.flat (Enc.int .u64)) (NE.sl (Enc.int .i64))) (s1.v) z3 x2] (fun v L' => ∃ (g10 : List (Unit × SlV)), v = .tuple #[] ∧ L' = [Asr.onv 91 (NE.pair (NE.flat (Enc.int .u64)) (NE.sl (Enc.int .i64))) (s1.v) g10 r]) := by
  refine Ctr.intro (n := 220) (env := [(0, s1.v), (1, .int .i64 x4), (2, .int .i64 x5), (3, .int .i64 x6), (4, .func (.func 48) #[] #[])]) Try.func80 rfl rfl rfl rfl (fun c => ?_)
  unfold F80_1.g at hm
  refine JC.seq ?_
  refine JC.seq ?_
  refine JC.region ?_
  refine JL.val (v := .int .i64 x5) (QV.move rfl) rfl rfl rfl ?_
  refine JL.val (v := .int .i64 x4) (QV.move rfl) rfl rfl rfl ?_
  refine JL.val (v := .int .i64 (IntKind.wrap .i64 (x5 - x4))) (QV.sub rfl rfl) rfl rfl rfl ?_
  refine JL.val (v := .bool (decide ((IntKind.wrap .i64 (x5 - x4)) = (1 : Int)))) (QV.eql rfl rfl) rfl rfl rfl ?_
  refine JL.nil ?_
  refine QJ.then_normal ?_
  refine JC.cutK (Y := Unit × Unit) (fun y => match y with | (_, _) => F80_1.j1 x2 x4 x5 x6 recM = some r) (fun y => match y with | (_, _) => [(0, s1.v), (1, .int .i64 x4), (2, .int .i64 x5), (3, .int .i64 x6), (4, .func (.func 48) #[] #[])]) (fun y => match y with | (_, _) => [Asr.onv 91 (NE.pair (NE.flat (Enc.int .u64)) (NE.sl (Enc.int .i64))) (s1.v) z3 x2]) ?_ ?_
  ·
    rintro ⟨⟨⟩, ⟨⟩⟩ hm
    unfold F80_1.j1 at hm
    show QJ _ _ [(0, s1.v), (1, .int .i64 x4), (2, .int .i64 x5), (3, .int .i64 x6), (4, .func (.func 48) #[] #[])] [Asr.onv 91 (NE.pair (NE.flat (Enc.int .u64)) (NE.sl (Enc.int .i64))) (s1.v) z3 x2] _ _
    refine QJ.then_normal ?_
    refine JC.seq ?_
    refine JC.seq ?_
    refine JC.region ?_
    refine JL.val (v := .int .i64 x6) (QV.move rfl) rfl rfl rfl ?_
    refine JL.val (v := .int .i64 x5) (QV.move rfl) rfl rfl rfl ?_
    refine JL.val (v := .int .i64 (IntKind.wrap .i64 (x6 - x5))) (QV.sub rfl rfl) rfl rfl rfl ?_
    refine JL.val (v := .bool (decide ((IntKind.wrap .i64 (x6 - x5)) = (1 : Int)))) (QV.eql rfl rfl) rfl rfl rfl ?_
    refine JL.nil ?_
    refine QJ.then_normal ?_
    refine JC.cutK (Y := Unit × Unit) (fun y => match y with | (_, _) => F80_1.j2 x2 x4 x5 x6 recM = some r) (fun y => match y with | (_, _) => [(0, s1.v), (1, .int .i64 x4), (2, .int .i64 x5), (3, .int .i64 x6), (4, .func (.func 48) #[] #[])]) (fun y => match y with | (_, _) => [Asr.onv 91 (NE.pair (NE.flat (Enc.int .u64)) (NE.sl (Enc.int .i64))) (s1.v) z3 x2]) ?_ ?_
    ·
      rintro ⟨⟨⟩, ⟨⟩⟩ hm
      unfold F80_1.j2 at hm
      show QJ _ _ [(0, s1.v), (1, .int .i64 x4), (2, .int .i64 x5), (3, .int .i64 x6), (4, .func (.func 48) #[] #[])] [Asr.onv 91 (NE.pair (NE.flat (Enc.int .u64)) (NE.sl (Enc.int .i64))) (s1.v) z3 x2] _ _
      refine QJ.then_normal ?_
      refine JC.seq ?_
      refine JC.region ?_
      refine JL.val (v := .int .i64 x4) (QV.move rfl) rfl rfl rfl ?_
      refine JL.val (v := .int .i64 x6) (QV.move rfl) rfl rfl rfl ?_
      refine JL.val (v := .int .i64 (IntKind.wrap .i64 (x4 + x6))) (QV.add rfl rfl) rfl rfl rfl ?_
      refine JL.val (v := .int .u64 (IntKind.wrap .u64 (IntKind.wrap .i64 (x4 + x6)))) (QV.conv rfl (by rw [Try.underlying3]; rfl) Try.underlying155) rfl rfl rfl ?_
      refine JL.val (v := .int .u64 (shrI .u64 (IntKind.wrap .u64 (IntKind.wrap .i64 (x4 + x6))) (1 : Int))) (QV.shr rfl rfl (by decide)) rfl rfl rfl ?_
      refine JL.val (v := .int .i64 (IntKind.wrap .i64 (shrI .u64 (IntKind.wrap .u64 (IntKind.wrap .i64 (x4 + x6))) (1 : Int)))) (QV.conv rfl (by rw [Try.underlying155]; rfl) Try.underlying3) rfl rfl rfl ?_
      refine JL.val (v := .int .i64 (IntKind.wrap .i64 (shrI .u64 (IntKind.wrap .u64 (IntKind.wrap .i64 (x4 + x6))) (1 : Int)))) (QV.assign rfl) rfl rfl rfl ?_
      refine JL.nil ?_
      refine QJ.then_normal ?_
      refine JC.seq ?_
      refine JC.region ?_
      refine JL.val (v := .int .i64 (IntKind.wrap .i64 (shrI .u64 (IntKind.wrap .u64 (IntKind.wrap .i64 (x4 + x6))) (1 : Int)))) (QV.move rfl) rfl rfl rfl ?_
      refine JL.val (v := .int .i64 x5) (QV.move rfl) rfl rfl rfl ?_
      refine JL.val (v := .int .i64 (IntKind.wrap .i64 ((IntKind.wrap .i64 (shrI .u64 (IntKind.wrap .u64 (IntKind.wrap .i64 (x4 + x6))) (1 : Int))) + x5))) (QV.add rfl rfl) rfl rfl rfl ?_
      refine JL.val (v := .int .i64 (IntKind.wrap .i64 ((IntKind.wrap .i64 (shrI .u64 (IntKind.wrap .u64 (IntKind.wrap .i64 (x4 + x6))) (1 : Int))) + x5))) (QV.assign rfl) rfl rfl rfl ?_
      refine JL.nil ?_
      refine QJ.then_normal ?_
      refine JC.seq ?_
      refine JC.region ?_
      refine JL.val (v := .int .i64 (0 : Int)) (QV.assign rfl) rfl rfl rfl ?_
      refine JL.val (v := .int .i64 (0 : Int)) (QV.assign rfl) rfl rfl rfl ?_
      refine JL.nil ?_
      refine QJ.then_normal ?_
      refine JC.seq ?_
      refine JC.seq ?_
      refine JC.region ?_
      refine JL.val (v := .int .i64 x5) (QV.move rfl) rfl rfl rfl ?_
      refine JL.val (v := .int .i64 (IntKind.wrap .i64 (shrI .u64 (IntKind.wrap .u64 (IntKind.wrap .i64 (x4 + x6))) (1 : Int)))) (QV.move rfl) rfl rfl rfl ?_
      refine JL.val (v := .bool (decide ((IntKind.wrap .i64 (shrI .u64 (IntKind.wrap .u64 (IntKind.wrap .i64 (x4 + x6))) (1 : Int))) < x5))) (QV.gtr rfl rfl) rfl rfl rfl ?_
      refine JL.nil ?_
      refine QJ.then_normal ?_
      refine JC.cutK (Y := (Int × Int) × Unit) (fun y => match y with | ((d11, d12), _) => F80_1.j3 x2 x4 x5 x6 recM (d11) (d12) = some r) (fun y => match y with | ((d11, d12), _) => [(0, s1.v), (1, .int .i64 x4), (2, .int .i64 x5), (3, .int .i64 x6), (4, .func (.func 48) #[] #[]), (18, .int .i64 (IntKind.wrap .i64 (shrI .u64 (IntKind.wrap .u64 (IntKind.wrap .i64 (x4 + x6))) (1 : Int)))), (19, .int .i64 (IntKind.wrap .i64 ((IntKind.wrap .i64 (shrI .u64 (IntKind.wrap .u64 (IntKind.wrap .i64 (x4 + x6))) (1 : Int))) + x5))), (20, .int .i64 d11), (21, .int .i64 d12)]) (fun y => match y with | ((d11, d12), _) => [Asr.onv 91 (NE.pair (NE.flat (Enc.int .u64)) (NE.sl (Enc.int .i64))) (s1.v) z3 x2]) ?_ ?_
      ·
        rintro ⟨⟨d11, d12⟩, ⟨⟩⟩ hm
        unfold F80_1.j3 at hm
        show QJ _ _ [(0, s1.v), (1, .int .i64 x4), (2, .int .i64 x5), (3, .int .i64 x6), (4, .func (.func 48) #[] #[]), (18, .int .i64 (IntKind.wrap .i64 (shrI .u64 (IntKind.wrap .u64 (IntKind.wrap .i64 (x4 + x6))) (1 : Int)))), (19, .int .i64 (IntKind.wrap .i64 ((IntKind.wrap .i64 (shrI .u64 (IntKind.wrap .u64 (IntKind.wrap .i64 (x4 + x6))) (1 : Int))) + x5))), (20, .int .i64 d11), (21, .int .i64 d12)] [Asr.onv 91 (NE.pair (NE.flat (Enc.int .u64)) (NE.sl (Enc.int .i64))) (s1.v) z3 x2] _ _
        refine QJ.then_normal ?_
        refine JC.seq ?_
        refine JC.region ?_
        refine JL.val (v := .int .i64 (IntKind.wrap .i64 ((IntKind.wrap .i64 (shrI .u64 (IntKind.wrap .u64 (IntKind.wrap .i64 (x4 + x6))) (1 : Int))) + x5))) (QV.move rfl) rfl rfl rfl ?_
        refine JL.val (v := .int .i64 (IntKind.wrap .i64 ((IntKind.wrap .i64 ((IntKind.wrap .i64 (shrI .u64 (IntKind.wrap .u64 (IntKind.wrap .i64 (x4 + x6))) (1 : Int))) + x5)) - (1 : Int)))) (QV.sub rfl rfl) rfl rfl rfl ?_
        refine JL.val (v := .int .i64 (IntKind.wrap .i64 ((IntKind.wrap .i64 ((IntKind.wrap .i64 (shrI .u64 (IntKind.wrap .u64 (IntKind.wrap .i64 (x4 + x6))) (1 : Int))) + x5)) - (1 : Int)))) (QV.assign rfl) rfl rfl rfl ?_
        refine JL.nil ?_
        refine QJ.then_normal ?_
        refine JC.seq ?_
        refine JC.cutK (Y := Int × Unit) (fun y => match y with | (d13, _) => F80_1.j4 x2 x4 x5 x6 recM (d13) = some r) (fun y => match y with | (d13, _) => [(0, s1.v), (1, .int .i64 x4), (2, .int .i64 x5), (3, .int .i64 x6), (4, .func (.func 48) #[] #[]), (18, .int .i64 (IntKind.wrap .i64 (shrI .u64 (IntKind.wrap .u64 (IntKind.wrap .i64 (x4 + x6))) (1 : Int)))), (19, .int .i64 (IntKind.wrap .i64 ((IntKind.wrap .i64 (shrI .u64 (IntKind.wrap .u64 (IntKind.wrap .i64 (x4 + x6))) (1 : Int))) + x5))), (20, .int .i64 d13)]) (fun y => match y with | (d13, _) => [Asr.onv 91 (NE.pair (NE.flat (Enc.int .u64)) (NE.sl (Enc.int .i64))) (s1.v) z3 x2]) ?_ ?_
        ·
          rintro ⟨d13, ⟨⟩⟩ hm
          unfold F80_1.j4 at hm
          show QJ _ _ [(0, s1.v), (1, .int .i64 x4), (2, .int .i64 x5), (3, .int .i64 x6), (4, .func (.func 48) #[] #[]), (18, .int .i64 (IntKind.wrap .i64 (shrI .u64 (IntKind.wrap .u64 (IntKind.wrap .i64 (x4 + x6))) (1 : Int)))), (19, .int .i64 (IntKind.wrap .i64 ((IntKind.wrap .i64 (shrI .u64 (IntKind.wrap .u64 (IntKind.wrap .i64 (x4 + x6))) (1 : Int))) + x5))), (20, .int .i64 d13)] [Asr.onv 91 (NE.pair (NE.flat (Enc.int .u64)) (NE.sl (Enc.int .i64))) (s1.v) z3 x2] _ _
          refine QJ.then_normal ?_
          refine JC.seq ?_
          refine JC.region ?_
          refine JL.val (v := .int .i64 (IntKind.wrap .i64 ((IntKind.wrap .i64 (shrI .u64 (IntKind.wrap .u64 (IntKind.wrap .i64 (x4 + x6))) (1 : Int))) + x5))) (QV.move rfl) rfl rfl rfl ?_
          refine JL.val (v := .int .i64 d13) (QV.move rfl) rfl rfl rfl ?_
          refine JL.val (v := .int .i64 (IntKind.wrap .i64 ((IntKind.wrap .i64 ((IntKind.wrap .i64 (shrI .u64 (IntKind.wrap .u64 (IntKind.wrap .i64 (x4 + x6))) (1 : Int))) + x5)) - d13))) (QV.sub rfl rfl) rfl rfl rfl ?_
          refine JL.val (v := .int .i64 (IntKind.wrap .i64 ((IntKind.wrap .i64 ((IntKind.wrap .i64 (shrI .u64 (IntKind.wrap .u64 (IntKind.wrap .i64 (x4 + x6))) (1 : Int))) + x5)) - d13))) (QV.assign rfl) rfl rfl rfl ?_
          refine JL.nil ?_
          refine QJ.then_normal ?_
          refine JC.seq ?_
          refine JC.seq ?_
          refine JC.region ?_
          refine JL.val (v := .int .i64 d13) (QV.move rfl) rfl rfl rfl ?_
          refine JL.val (v := .int .i64 x5) (QV.move rfl) rfl rfl rfl ?_
          refine JL.val (v := .bool (decide (d13 < x5))) (QV.lss rfl rfl) rfl rfl rfl ?_
          rcases ite_inv hm with ⟨h14, hm⟩ | ⟨h14, hm⟩
          ·
            refine JL.val (v := .bool true) (QV.eq (QV.move rfl) (congrArg Value.bool (decide_eq_true h14))) rfl rfl rfl ?_
            refine JL.val (v := .int .i64 x5) (QV.move rfl) rfl rfl rfl ?_
            refine JL.val (v := .int .i64 (IntKind.wrap .i64 ((IntKind.wrap .i64 ((IntKind.wrap .i64 (shrI .u64 (IntKind.wrap .u64 (IntKind.wrap .i64 (x4 + x6))) (1 : Int))) + x5)) - d13))) (QV.move rfl) rfl rfl rfl ?_
            refine JL.val (v := .bool (decide (x5 < (IntKind.wrap .i64 ((IntKind.wrap .i64 ((IntKind.wrap .i64 (shrI .u64 (IntKind.wrap .u64 (IntKind.wrap .i64 (x4 + x6))) (1 : Int))) + x5)) - d13))))) (QV.lss rfl rfl) rfl rfl rfl ?_
            refine JL.val (v := .bool (decide (x5 < (IntKind.wrap .i64 ((IntKind.wrap .i64 ((IntKind.wrap .i64 (shrI .u64 (IntKind.wrap .u64 (IntKind.wrap .i64 (x4 + x6))) (1 : Int))) + x5)) - d13))))) (QV.pickT rfl rfl) rfl rfl rfl ?_
            refine JL.nil ?_
            refine QJ.then_normal ?_
            refine JC.cutK (Y := (List (Int × (List Int))) × (List (Unit × SlV))) (fun y => match y with | (d15, _) => F80_1.j5 x4 x5 x6 recM d13 (d15) = some r) (fun y => match y with | (d15, z16) => [(0, s1.v), (1, .int .i64 x4), (3, .int .i64 x6), (4, .func (.func 48) #[] #[]), (18, .int .i64 (IntKind.wrap .i64 (shrI .u64 (IntKind.wrap .u64 (IntKind.wrap .i64 (x4 + x6))) (1 : Int)))), (20, .int .i64 d13), (24, .int .i64 (IntKind.wrap .i64 ((IntKind.wrap .i64 ((IntKind.wrap .i64 (shrI .u64 (IntKind.wrap .u64 (IntKind.wrap .i64 (x4 + x6))) (1 : Int))) + x5)) - d13)))]) (fun y => match y with | (d15, z16) => [Asr.onv 91 (NE.pair (NE.flat (Enc.int .u64)) (NE.sl (Enc.int .i64))) (s1.v) z16 d15]) ?_ ?_
            ·
              rintro ⟨d15, z16⟩ hm
              unfold F80_1.j5 at hm
              show QJ _ _ [(0, s1.v), (1, .int .i64 x4), (3, .int .i64 x6), (4, .func (.func 48) #[] #[]), (18, .int .i64 (IntKind.wrap .i64 (shrI .u64 (IntKind.wrap .u64 (IntKind.wrap .i64 (x4 + x6))) (1 : Int)))), (20, .int .i64 d13), (24, .int .i64 (IntKind.wrap .i64 ((IntKind.wrap .i64 ((IntKind.wrap .i64 (shrI .u64 (IntKind.wrap .u64 (IntKind.wrap .i64 (x4 + x6))) (1 : Int))) + x5)) - d13)))] [Asr.onv 91 (NE.pair (NE.flat (Enc.int .u64)) (NE.sl (Enc.int .i64))) (s1.v) z16 d15] _ _
              refine QJ.then_normal ?_
              refine JC.seq ?_
              refine JC.seq ?_
              refine JC.region ?_
              refine JL.val (v := .int .i64 x4) (QV.move rfl) rfl rfl rfl ?_
              refine JL.val (v := .int .i64 d13) (QV.move rfl) rfl rfl rfl ?_
              refine JL.val (v := .bool (decide (x4 < d13))) (QV.lss rfl rfl) rfl rfl rfl ?_
              rcases ite_inv hm with ⟨h17, hm⟩ | ⟨h17, hm⟩
              ·
                refine JL.val (v := .bool true) (QV.eq (QV.move rfl) (congrArg Value.bool (decide_eq_true h17))) rfl rfl rfl ?_
                refine JL.val (v := .int .i64 d13) (QV.move rfl) rfl rfl rfl ?_
                refine JL.val (v := .int .i64 (IntKind.wrap .i64 (shrI .u64 (IntKind.wrap .u64 (IntKind.wrap .i64 (x4 + x6))) (1 : Int)))) (QV.move rfl) rfl rfl rfl ?_
                refine JL.val (v := .bool (decide (d13 < (IntKind.wrap .i64 (shrI .u64 (IntKind.wrap .u64 (IntKind.wrap .i64 (x4 + x6))) (1 : Int)))))) (QV.lss rfl rfl) rfl rfl rfl ?_
                refine JL.val (v := .bool (decide (d13 < (IntKind.wrap .i64 (shrI .u64 (IntKind.wrap .u64 (IntKind.wrap .i64 (x4 + x6))) (1 : Int)))))) (QV.pickT rfl rfl) rfl rfl rfl ?_
                refine JL.nil ?_
                refine QJ.then_normal ?_
                refine JC.cutK (Y := (List (Int × (List Int))) × (List (Unit × SlV))) (fun y => match y with | (d18, _) => F80_1.j6 x4 x5 x6 recM d13 (d18) = some r) (fun y => match y with | (d18, z19) => [(0, s1.v), (3, .int .i64 x6), (4, .func (.func 48) #[] #[]), (18, .int .i64 (IntKind.wrap .i64 (shrI .u64 (IntKind.wrap .u64 (IntKind.wrap .i64 (x4 + x6))) (1 : Int)))), (24, .int .i64 (IntKind.wrap .i64 ((IntKind.wrap .i64 ((IntKind.wrap .i64 (shrI .u64 (IntKind.wrap .u64 (IntKind.wrap .i64 (x4 + x6))) (1 : Int))) + x5)) - d13)))]) (fun y => match y with | (d18, z19) => [Asr.onv 91 (NE.pair (NE.flat (Enc.int .u64)) (NE.sl (Enc.int .i64))) (s1.v) z19 d18]) ?_ ?_
                ·
                  rintro ⟨d18, z19⟩ hm
                  unfold F80_1.j6 at hm
                  show QJ _ _ [(0, s1.v), (3, .int .i64 x6), (4, .func (.func 48) #[] #[]), (18, .int .i64 (IntKind.wrap .i64 (shrI .u64 (IntKind.wrap .u64 (IntKind.wrap .i64 (x4 + x6))) (1 : Int)))), (24, .int .i64 (IntKind.wrap .i64 ((IntKind.wrap .i64 ((IntKind.wrap .i64 (shrI .u64 (IntKind.wrap .u64 (IntKind.wrap .i64 (x4 + x6))) (1 : Int))) + x5)) - d13)))] [Asr.onv 91 (NE.pair (NE.flat (Enc.int .u64)) (NE.sl (Enc.int .i64))) (s1.v) z19 d18] _ _
                  refine QJ.then_normal ?_
                  refine JC.seq ?_
                  refine JC.region ?_
                  refine JL.val (v := .int .i64 (IntKind.wrap .i64 (shrI .u64 (IntKind.wrap .u64 (IntKind.wrap .i64 (x4 + x6))) (1 : Int)))) (QV.move rfl) rfl rfl rfl ?_
                  refine JL.val (v := .int .i64 (IntKind.wrap .i64 ((IntKind.wrap .i64 ((IntKind.wrap .i64 (shrI .u64 (IntKind.wrap .u64 (IntKind.wrap .i64 (x4 + x6))) (1 : Int))) + x5)) - d13))) (QV.move rfl) rfl rfl rfl ?_
                  refine JL.val (v := .bool (decide ((IntKind.wrap .i64 (shrI .u64 (IntKind.wrap .u64 (IntKind.wrap .i64 (x4 + x6))) (1 : Int))) < (IntKind.wrap .i64 ((IntKind.wrap .i64 ((IntKind.wrap .i64 (shrI .u64 (IntKind.wrap .u64 (IntKind.wrap .i64 (x4 + x6))) (1 : Int))) + x5)) - d13))))) (QV.lss rfl rfl) rfl rfl rfl ?_
                  rcases ite_inv hm with ⟨h20, hm⟩ | ⟨h20, hm⟩
                  ·
                    refine JL.val (v := .bool true) (QV.eq (QV.move rfl) (congrArg Value.bool (decide_eq_true h20))) rfl rfl rfl ?_
                    refine JL.val (v := .int .i64 (IntKind.wrap .i64 ((IntKind.wrap .i64 ((IntKind.wrap .i64 (shrI .u64 (IntKind.wrap .u64 (IntKind.wrap .i64 (x4 + x6))) (1 : Int))) + x5)) - d13))) (QV.move rfl) rfl rfl rfl ?_
                    refine JL.val (v := .int .i64 x6) (QV.move rfl) rfl rfl rfl ?_
                    refine JL.val (v := .bool (decide ((IntKind.wrap .i64 ((IntKind.wrap .i64 ((IntKind.wrap .i64 (shrI .u64 (IntKind.wrap .u64 (IntKind.wrap .i64 (x4 + x6))) (1 : Int))) + x5)) - d13)) < x6))) (QV.lss rfl rfl) rfl rfl rfl ?_
                    refine JL.val (v := .bool (decide ((IntKind.wrap .i64 ((IntKind.wrap .i64 ((IntKind.wrap .i64 (shrI .u64 (IntKind.wrap .u64 (IntKind.wrap .i64 (x4 + x6))) (1 : Int))) + x5)) - d13)) < x6))) (QV.pickT rfl rfl) rfl rfl rfl ?_
                    refine JL.nil ?_
                    refine QJ.then_normal ?_
                    refine JC.cutK (Y := (List (Int × (List Int))) × (List (Unit × SlV))) (fun y => match y with | (d21, _) => F80_1.j7 (d21) = some r) (fun y => match y with | (d21, z22) => []) (fun y => match y with | (d21, z22) => [Asr.onv 91 (NE.pair (NE.flat (Enc.int .u64)) (NE.sl (Enc.int .i64))) (s1.v) z22 d21]) ?_ ?_
                    ·
                      rintro ⟨d21, z22⟩ hm
                      unfold F80_1.j7 at hm
                      show QJ _ _ [] [Asr.onv 91 (NE.pair (NE.flat (Enc.int .u64)) (NE.sl (Enc.int .i64))) (s1.v) z22 d21] _ _
                      obtain rfl := Option.some.inj hm
                      exact QJ.body (vs := []) (.inr rfl) rfl ResVs.nil [0] rfl rfl (.inl rfl) ⟨z22, rfl, rfl⟩
                    ·
                      rcases ite_inv hm with ⟨h23, hm⟩ | ⟨h23, hm⟩
                      ·
                        refine JC.condT' rfl (decide_eq_true h23) ?_
                        refine JC.region ?_
                        refine JL.val (v := s1.v) (QV.move rfl) rfl rfl rfl ?_
                        refine JL.val (v := .int .i64 (IntKind.wrap .i64 (shrI .u64 (IntKind.wrap .u64 (IntKind.wrap .i64 (x4 + x6))) (1 : Int)))) (QV.move rfl) rfl rfl rfl ?_
                        refine JL.val (v := .int .i64 (IntKind.wrap .i64 ((IntKind.wrap .i64 ((IntKind.wrap .i64 (shrI .u64 (IntKind.wrap .u64 (IntKind.wrap .i64 (x4 + x6))) (1 : Int))) + x5)) - d13))) (QV.move rfl) rfl rfl rfl ?_
                        refine JL.val (v := .int .i64 x6) (QV.move rfl) rfl rfl rfl ?_
                        refine JL.val (v := .func (.func 48) #[] #[]) (QV.move rfl) rfl rfl rfl ?_
                        obtain ⟨y24, hc25, hm⟩ := bind_inv hm
                        refine JL.mv (d := some 219) (MV.call (Lo := [Asr.onv 91 (NE.pair (NE.flat (Enc.int .u64)) (NE.sl (Enc.int .i64))) (s1.v) z19 d18]) (Lr := []) (ih (s1) (z19) (d18) ((IntKind.wrap .i64 (shrI .u64 (IntKind.wrap .u64 (IntKind.wrap .i64 (x4 + x6))) (1 : Int)))) ((IntKind.wrap .i64 ((IntKind.wrap .i64 ((IntKind.wrap .i64 (shrI .u64 (IntKind.wrap .u64 (IntKind.wrap .i64 (x4 + x6))) (1 : Int))) + x5)) - d13))) (x6) _ hc25) rfl Try.func80 rfl rfl rfl [0] [] rfl rfl rfl trivial) rfl rfl rfl ?_
                        rintro _ _ ⟨_, ⟨z26, rfl, rfl⟩, rfl⟩
                        refine JL.nil ?_
                        exact QJ.cut_normal (y24, z26) hm [0] trivial rfl rfl
                      ·
                        refine JC.condF' rfl (decide_eq_false h23) ?_
                        refine JC.skip ?_
                        exact QJ.cut_normal (d18, z19) hm [0] trivial rfl rfl
                  ·
                    refine JL.val (v := .bool false) (QV.eq (QV.move rfl) (congrArg Value.bool (decide_eq_false h20))) rfl rfl rfl ?_
                    refine JL.skip (d := some 210) rfl rfl rfl ?_
                    refine JL.skip (d := some 211) rfl rfl rfl ?_
                    refine JL.skip (d := some 212) rfl rfl rfl ?_
                    refine JL.val (v := .bool false) (QV.pickF rfl rfl) rfl rfl rfl ?_
                    refine JL.nil ?_
                    refine QJ.then_normal ?_
                    refine JC.condF rfl ?_
                    refine JC.skip ?_
                    obtain rfl := Option.some.inj hm
                    exact QJ.body (vs := []) (.inr rfl) rfl ResVs.nil [0] rfl rfl (.inl rfl) ⟨z19, rfl, rfl⟩
                ·
                  rcases ite_inv hm with ⟨h27, hm⟩ | ⟨h27, hm⟩
                  ·
                    refine JC.condT' rfl (decide_eq_true h27) ?_
                    refine JC.region ?_
                    refine JL.val (v := s1.v) (QV.move rfl) rfl rfl rfl ?_
                    refine JL.val (v := .int .i64 x4) (QV.move rfl) rfl rfl rfl ?_
                    refine JL.val (v := .int .i64 d13) (QV.move rfl) rfl rfl rfl ?_
                    refine JL.val (v := .int .i64 (IntKind.wrap .i64 (shrI .u64 (IntKind.wrap .u64 (IntKind.wrap .i64 (x4 + x6))) (1 : Int)))) (QV.move rfl) rfl rfl rfl ?_
                    refine JL.val (v := .func (.func 48) #[] #[]) (QV.move rfl) rfl rfl rfl ?_
                    obtain ⟨y28, hc29, hm⟩ := bind_inv hm
                    refine JL.mv (d := some 205) (MV.call (Lo := [Asr.onv 91 (NE.pair (NE.flat (Enc.int .u64)) (NE.sl (Enc.int .i64))) (s1.v) z16 d15]) (Lr := []) (ih (s1) (z16) (d15) (x4) (d13) ((IntKind.wrap .i64 (shrI .u64 (IntKind.wrap .u64 (IntKind.wrap .i64 (x4 + x6))) (1 : Int)))) _ hc29) rfl Try.func80 rfl rfl rfl [0] [] rfl rfl rfl trivial) rfl rfl rfl ?_
                    rintro _ _ ⟨_, ⟨z30, rfl, rfl⟩, rfl⟩
                    refine JL.nil ?_
                    exact QJ.cut_normal (y28, z30) hm [0] (by exact ⟨rfl, rfl, rfl, rfl, rfl, trivial⟩) rfl rfl
                  ·
                    refine JC.condF' rfl (decide_eq_false h27) ?_
                    refine JC.skip ?_
                    exact QJ.cut_normal (d15, z16) hm [0] (by exact ⟨rfl, rfl, rfl, rfl, rfl, trivial⟩) rfl rfl
              ·
                refine JL.val (v := .bool false) (QV.eq (QV.move rfl) (congrArg Value.bool (decide_eq_false h17))) rfl rfl rfl ?_
                refine JL.skip (d := some 196) rfl rfl rfl ?_
                refine JL.skip (d := some 197) rfl rfl rfl ?_
                refine JL.skip (d := some 198) rfl rfl rfl ?_
                refine JL.val (v := .bool false) (QV.pickF rfl rfl) rfl rfl rfl ?_
                refine JL.nil ?_
                refine QJ.then_normal ?_
                refine JC.condF rfl ?_
                refine JC.skip ?_
                refine QJ.then_normal ?_
                refine JC.seq ?_
                refine JC.region ?_
                refine JL.val (v := .int .i64 (IntKind.wrap .i64 (shrI .u64 (IntKind.wrap .u64 (IntKind.wrap .i64 (x4 + x6))) (1 : Int)))) (QV.move rfl) rfl rfl rfl ?_
                refine JL.val (v := .int .i64 (IntKind.wrap .i64 ((IntKind.wrap .i64 ((IntKind.wrap .i64 (shrI .u64 (IntKind.wrap .u64 (IntKind.wrap .i64 (x4 + x6))) (1 : Int))) + x5)) - d13))) (QV.move rfl) rfl rfl rfl ?_
                refine JL.val (v := .bool (decide ((IntKind.wrap .i64 (shrI .u64 (IntKind.wrap .u64 (IntKind.wrap .i64 (x4 + x6))) (1 : Int))) < (IntKind.wrap .i64 ((IntKind.wrap .i64 ((IntKind.wrap .i64 (shrI .u64 (IntKind.wrap .u64 (IntKind.wrap .i64 (x4 + x6))) (1 : Int))) + x5)) - d13))))) (QV.lss rfl rfl) rfl rfl rfl ?_
                rcases ite_inv hm with ⟨h31, hm⟩ | ⟨h31, hm⟩
                ·
                  refine JL.val (v := .bool true) (QV.eq (QV.move rfl) (congrArg Value.bool (decide_eq_true h31))) rfl rfl rfl ?_
                  refine JL.val (v := .int .i64 (IntKind.wrap .i64 ((IntKind.wrap .i64 ((IntKind.wrap .i64 (shrI .u64 (IntKind.wrap .u64 (IntKind.wrap .i64 (x4 + x6))) (1 : Int))) + x5)) - d13))) (QV.move rfl) rfl rfl rfl ?_
                  refine JL.val (v := .int .i64 x6) (QV.move rfl) rfl rfl rfl ?_
                  refine JL.val (v := .bool (decide ((IntKind.wrap .i64 ((IntKind.wrap .i64 ((IntKind.wrap .i64 (shrI .u64 (IntKind.wrap .u64 (IntKind.wrap .i64 (x4 + x6))) (1 : Int))) + x5)) - d13)) < x6))) (QV.lss rfl rfl) rfl rfl rfl ?_
                  refine JL.val (v := .bool (decide ((IntKind.wrap .i64 ((IntKind.wrap .i64 ((IntKind.wrap .i64 (shrI .u64 (IntKind.wrap .u64 (IntKind.wrap .i64 (x4 + x6))) (1 : Int))) + x5)) - d13)) < x6))) (QV.pickT rfl rfl) rfl rfl rfl ?_
                  refine JL.nil ?_
                  refine QJ.then_normal ?_
                  refine JC.cutK (Y := (List (Int × (List Int))) × (List (Unit × SlV))) (fun y => match y with | (d32, _) => F80_1.j8 (d32) = some r) (fun y => match y with | (d32, z33) => []) (fun y => match y with | (d32, z33) => [Asr.onv 91 (NE.pair (NE.flat (Enc.int .u64)) (NE.sl (Enc.int .i64))) (s1.v) z33 d32]) ?_ ?_
                  ·
                    rintro ⟨d32, z33⟩ hm
                    unfold F80_1.j8 at hm
                    show QJ _ _ [] [Asr.onv 91 (NE.pair (NE.flat (Enc.int .u64)) (NE.sl (Enc.int .i64))) (s1.v) z33 d32] _ _
                    obtain rfl := Option.some.inj hm
                    exact QJ.body (vs := []) (.inr rfl) rfl ResVs.nil [0] rfl rfl (.inl rfl) ⟨z33, rfl, rfl⟩
                  ·
                    rcases ite_inv hm with ⟨h34, hm⟩ | ⟨h34, hm⟩
                    ·
                      refine JC.condT' rfl (decide_eq_true h34) ?_
                      refine JC.region ?_
                      refine JL.val (v := s1.v) (QV.move rfl) rfl rfl rfl ?_
                      refine JL.val (v := .int .i64 (IntKind.wrap .i64 (shrI .u64 (IntKind.wrap .u64 (IntKind.wrap .i64 (x4 + x6))) (1 : Int)))) (QV.move rfl) rfl rfl rfl ?_
                      refine JL.val (v := .int .i64 (IntKind.wrap .i64 ((IntKind.wrap .i64 ((IntKind.wrap .i64 (shrI .u64 (IntKind.wrap .u64 (IntKind.wrap .i64 (x4 + x6))) (1 : Int))) + x5)) - d13))) (QV.move rfl) rfl rfl rfl ?_
                      refine JL.val (v := .int .i64 x6) (QV.move rfl) rfl rfl rfl ?_
                      refine JL.val (v := .func (.func 48) #[] #[]) (QV.move rfl) rfl rfl rfl ?_
                      obtain ⟨y35, hc36, hm⟩ := bind_inv hm
                      refine JL.mv (d := some 219) (MV.call (Lo := [Asr.onv 91 (NE.pair (NE.flat (Enc.int .u64)) (NE.sl (Enc.int .i64))) (s1.v) z16 d15]) (Lr := []) (ih (s1) (z16) (d15) ((IntKind.wrap .i64 (shrI .u64 (IntKind.wrap .u64 (IntKind.wrap .i64 (x4 + x6))) (1 : Int)))) ((IntKind.wrap .i64 ((IntKind.wrap .i64 ((IntKind.wrap .i64 (shrI .u64 (IntKind.wrap .u64 (IntKind.wrap .i64 (x4 + x6))) (1 : Int))) + x5)) - d13))) (x6) _ hc36) rfl Try.func80 rfl rfl rfl [0] [] rfl rfl rfl trivial) rfl rfl rfl ?_
                      rintro _ _ ⟨_, ⟨z37, rfl, rfl⟩, rfl⟩
                      refine JL.nil ?_
                      exact QJ.cut_normal (y35, z37) hm [0] trivial rfl rfl
                    ·
                      refine JC.condF' rfl (decide_eq_false h34) ?_
                      refine JC.skip ?_
                      exact QJ.cut_normal (d15, z16) hm [0] trivial rfl rfl
                ·
                  refine JL.val (v := .bool false) (QV.eq (QV.move rfl) (congrArg Value.bool (decide_eq_false h31))) rfl rfl rfl ?_
                  refine JL.skip (d := some 210) rfl rfl rfl ?_
                  refine JL.skip (d := some 211) rfl rfl rfl ?_
                  refine JL.skip (d := some 212) rfl rfl rfl ?_
                  refine JL.val (v := .bool false) (QV.pickF rfl rfl) rfl rfl rfl ?_
                  refine JL.nil ?_
                  refine QJ.then_normal ?_
                  refine JC.condF rfl ?_
                  refine JC.skip ?_
                  obtain rfl := Option.some.inj hm
                  exact QJ.body (vs := []) (.inr rfl) rfl ResVs.nil [0] rfl rfl (.inl rfl) ⟨z16, rfl, rfl⟩
            ·
              rcases ite_inv hm with ⟨h38, hm⟩ | ⟨h38, hm⟩
              ·
                refine JC.condT' rfl (decide_eq_true h38) ?_
                refine JC.region ?_
                refine JL.val (v := s1.v) (QV.move rfl) rfl rfl rfl ?_
                refine JL.val (v := .int .i64 d13) (QV.move rfl) rfl rfl rfl ?_
                refine JL.val (v := .int .i64 x5) (QV.move rfl) rfl rfl rfl ?_
                refine JL.val (v := .int .i64 (IntKind.wrap .i64 ((IntKind.wrap .i64 ((IntKind.wrap .i64 (shrI .u64 (IntKind.wrap .u64 (IntKind.wrap .i64 (x4 + x6))) (1 : Int))) + x5)) - d13))) (QV.move rfl) rfl rfl rfl ?_
                refine JL.val (v := .func (.func 48) #[] #[]) (QV.move rfl) rfl rfl rfl ?_
                obtain ⟨y39, hc40, hm⟩ := bind_inv hm
                refine JL.mv (d := some 191) (MV.call (Lo := [Asr.onv 91 (NE.pair (NE.flat (Enc.int .u64)) (NE.sl (Enc.int .i64))) (s1.v) z3 x2]) (Lr := []) (F93_1.spec (s1) (z3) (x2) (d13) (x5) ((IntKind.wrap .i64 ((IntKind.wrap .i64 ((IntKind.wrap .i64 (shrI .u64 (IntKind.wrap .u64 (IntKind.wrap .i64 (x4 + x6))) (1 : Int))) + x5)) - d13))) _ hc40) rfl Try.func93 rfl rfl rfl [0] [] rfl rfl rfl trivial) rfl rfl rfl ?_
                rintro _ _ ⟨_, ⟨z41, rfl, rfl⟩, rfl⟩
                refine JL.nil ?_
                exact QJ.cut_normal (y39, z41) hm [0] (by exact ⟨rfl, rfl, rfl, rfl, rfl, rfl, rfl, trivial⟩) rfl rfl
              ·
                refine JC.condF' rfl (decide_eq_false h38) ?_
                refine JC.skip ?_
                exact QJ.cut_normal (x2, z3) hm [0] (by exact ⟨rfl, rfl, rfl, rfl, rfl, rfl, rfl, trivial⟩) rfl rfl
          ·
            refine JL.val (v := .bool false) (QV.eq (QV.move rfl) (congrArg Value.bool (decide_eq_false h14))) rfl rfl rfl ?_
            refine JL.skip (d := some 182) rfl rfl rfl ?_
            refine JL.skip (d := some 183) rfl rfl rfl ?_
            refine JL.skip (d := some 184) rfl rfl rfl ?_
            refine JL.val (v := .bool false) (QV.pickF rfl rfl) rfl rfl rfl ?_
            refine JL.nil ?_
            refine QJ.then_normal ?_
            refine JC.condF rfl ?_
            refine JC.skip ?_
            refine QJ.then_normal ?_
            refine JC.seq ?_
            refine JC.seq ?_
            refine JC.region ?_
            refine JL.val (v := .int .i64 x4) (QV.move rfl) rfl rfl rfl ?_
            refine JL.val (v := .int .i64 d13) (QV.move rfl) rfl rfl rfl ?_
            refine JL.val (v := .bool (decide (x4 < d13))) (QV.lss rfl rfl) rfl rfl rfl ?_
            rcases ite_inv hm with ⟨h42, hm⟩ | ⟨h42, hm⟩
            ·
              refine JL.val (v := .bool true) (QV.eq (QV.move rfl) (congrArg Value.bool (decide_eq_true h42))) rfl rfl rfl ?_
              refine JL.val (v := .int .i64 d13) (QV.move rfl) rfl rfl rfl ?_
              refine JL.val (v := .int .i64 (IntKind.wrap .i64 (shrI .u64 (IntKind.wrap .u64 (IntKind.wrap .i64 (x4 + x6))) (1 : Int)))) (QV.move rfl) rfl rfl rfl ?_
              refine JL.val (v := .bool (decide (d13 < (IntKind.wrap .i64 (shrI .u64 (IntKind.wrap .u64 (IntKind.wrap .i64 (x4 + x6))) (1 : Int)))))) (QV.lss rfl rfl) rfl rfl rfl ?_
              refine JL.val (v := .bool (decide (d13 < (IntKind.wrap .i64 (shrI .u64 (IntKind.wrap .u64 (IntKind.wrap .i64 (x4 + x6))) (1 : Int)))))) (QV.pickT rfl rfl) rfl rfl rfl ?_
              refine JL.nil ?_
              refine QJ.then_normal ?_
              refine JC.cutK (Y := (List (Int × (List Int))) × (List (Unit × SlV))) (fun y => match y with | (d43, _) => F80_1.j9 x4 x5 x6 recM d13 (d43) = some r) (fun y => match y with | (d43, z44) => [(0, s1.v), (3, .int .i64 x6), (4, .func (.func 48) #[] #[]), (18, .int .i64 (IntKind.wrap .i64 (shrI .u64 (IntKind.wrap .u64 (IntKind.wrap .i64 (x4 + x6))) (1 : Int)))), (24, .int .i64 (IntKind.wrap .i64 ((IntKind.wrap .i64 ((IntKind.wrap .i64 (shrI .u64 (IntKind.wrap .u64 (IntKind.wrap .i64 (x4 + x6))) (1 : Int))) + x5)) - d13)))]) (fun y => match y with | (d43, z44) => [Asr.onv 91 (NE.pair (NE.flat (Enc.int .u64)) (NE.sl (Enc.int .i64))) (s1.v) z44 d43]) ?_ ?_
              ·
                rintro ⟨d43, z44⟩ hm
                unfold F80_1.j9 at hm
                show QJ _ _ [(0, s1.v), (3, .int .i64 x6), (4, .func (.func 48) #[] #[]), (18, .int .i64 (IntKind.wrap .i64 (shrI .u64 (IntKind.wrap .u64 (IntKind.wrap .i64 (x4 + x6))) (1 : Int)))), (24, .int .i64 (IntKind.wrap .i64 ((IntKind.wrap .i64 ((IntKind.wrap .i64 (shrI .u64 (IntKind.wrap .u64 (IntKind.wrap .i64 (x4 + x6))) (1 : Int))) + x5)) - d13)))] [Asr.onv 91 (NE.pair (NE.flat (Enc.int .u64)) (NE.sl (Enc.int .i64))) (s1.v) z44 d43] _ _
                refine QJ.then_normal ?_
                refine JC.seq ?_
                refine JC.region ?_
                refine JL.val (v := .int .i64 (IntKind.wrap .i64 (shrI .u64 (IntKind.wrap .u64 (IntKind.wrap .i64 (x4 + x6))) (1 : Int)))) (QV.move rfl) rfl rfl rfl ?_
                refine JL.val (v := .int .i64 (IntKind.wrap .i64 ((IntKind.wrap .i64 ((IntKind.wrap .i64 (shrI .u64 (IntKind.wrap .u64 (IntKind.wrap .i64 (x4 + x6))) (1 : Int))) + x5)) - d13))) (QV.move rfl) rfl rfl rfl ?_
                refine JL.val (v := .bool (decide ((IntKind.wrap .i64 (shrI .u64 (IntKind.wrap .u64 (IntKind.wrap .i64 (x4 + x6))) (1 : Int))) < (IntKind.wrap .i64 ((IntKind.wrap .i64 ((IntKind.wrap .i64 (shrI .u64 (IntKind.wrap .u64 (IntKind.wrap .i64 (x4 + x6))) (1 : Int))) + x5)) - d13))))) (QV.lss rfl rfl) rfl rfl rfl ?_
                rcases ite_inv hm with ⟨h45, hm⟩ | ⟨h45, hm⟩
                ·
                  refine JL.val (v := .bool true) (QV.eq (QV.move rfl) (congrArg Value.bool (decide_eq_true h45))) rfl rfl rfl ?_
                  refine JL.val (v := .int .i64 (IntKind.wrap .i64 ((IntKind.wrap .i64 ((IntKind.wrap .i64 (shrI .u64 (IntKind.wrap .u64 (IntKind.wrap .i64 (x4 + x6))) (1 : Int))) + x5)) - d13))) (QV.move rfl) rfl rfl rfl ?_
                  refine JL.val (v := .int .i64 x6) (QV.move rfl) rfl rfl rfl ?_
                  refine JL.val (v := .bool (decide ((IntKind.wrap .i64 ((IntKind.wrap .i64 ((IntKind.wrap .i64 (shrI .u64 (IntKind.wrap .u64 (IntKind.wrap .i64 (x4 + x6))) (1 : Int))) + x5)) - d13)) < x6))) (QV.lss rfl rfl) rfl rfl rfl ?_
                  refine JL.val (v := .bool (decide ((IntKind.wrap .i64 ((IntKind.wrap .i64 ((IntKind.wrap .i64 (shrI .u64 (IntKind.wrap .u64 (IntKind.wrap .i64 (x4 + x6))) (1 : Int))) + x5)) - d13)) < x6))) (QV.pickT rfl rfl) rfl rfl rfl ?_
                  refine JL.nil ?_
                  refine QJ.then_normal ?_
                  refine JC.cutK (Y := (List (Int × (List Int))) × (List (Unit × SlV))) (fun y => match y with | (d46, _) => F80_1.j10 (d46) = some r) (fun y => match y with | (d46, z47) => []) (fun y => match y with | (d46, z47) => [Asr.onv 91 (NE.pair (NE.flat (Enc.int .u64)) (NE.sl (Enc.int .i64))) (s1.v) z47 d46]) ?_ ?_
                  ·
                    rintro ⟨d46, z47⟩ hm
                    unfold F80_1.j10 at hm
                    show QJ _ _ [] [Asr.onv 91 (NE.pair (NE.flat (Enc.int .u64)) (NE.sl (Enc.int .i64))) (s1.v) z47 d46] _ _
                    obtain rfl := Option.some.inj hm
                    exact QJ.body (vs := []) (.inr rfl) rfl ResVs.nil [0] rfl rfl (.inl rfl) ⟨z47, rfl, rfl⟩
                  ·
                    rcases ite_inv hm with ⟨h48, hm⟩ | ⟨h48, hm⟩
                    ·
                      refine JC.condT' rfl (decide_eq_true h48) ?_
                      refine JC.region ?_
                      refine JL.val (v := s1.v) (QV.move rfl) rfl rfl rfl ?_
                      refine JL.val (v := .int .i64 (IntKind.wrap .i64 (shrI .u64 (IntKind.wrap .u64 (IntKind.wrap .i64 (x4 + x6))) (1 : Int)))) (QV.move rfl) rfl rfl rfl ?_
                      refine JL.val (v := .int .i64 (IntKind.wrap .i64 ((IntKind.wrap .i64 ((IntKind.wrap .i64 (shrI .u64 (IntKind.wrap .u64 (IntKind.wrap .i64 (x4 + x6))) (1 : Int))) + x5)) - d13))) (QV.move rfl) rfl rfl rfl ?_
                      refine JL.val (v := .int .i64 x6) (QV.move rfl) rfl rfl rfl ?_
                      refine JL.val (v := .func (.func 48) #[] #[]) (QV.move rfl) rfl rfl rfl ?_
                      obtain ⟨y49, hc50, hm⟩ := bind_inv hm
                      refine JL.mv (d := some 219) (MV.call (Lo := [Asr.onv 91 (NE.pair (NE.flat (Enc.int .u64)) (NE.sl (Enc.int .i64))) (s1.v) z44 d43]) (Lr := []) (ih (s1) (z44) (d43) ((IntKind.wrap .i64 (shrI .u64 (IntKind.wrap .u64 (IntKind.wrap .i64 (x4 + x6))) (1 : Int)))) ((IntKind.wrap .i64 ((IntKind.wrap .i64 ((IntKind.wrap .i64 (shrI .u64 (IntKind.wrap .u64 (IntKind.wrap .i64 (x4 + x6))) (1 : Int))) + x5)) - d13))) (x6) _ hc50) rfl Try.func80 rfl rfl rfl [0] [] rfl rfl rfl trivial) rfl rfl rfl ?_
                      rintro _ _ ⟨_, ⟨z51, rfl, rfl⟩, rfl⟩
                      refine JL.nil ?_
                      exact QJ.cut_normal (y49, z51) hm [0] trivial rfl rfl
                    ·
                      refine JC.condF' rfl (decide_eq_false h48) ?_
                      refine JC.skip ?_
                      exact QJ.cut_normal (d43, z44) hm [0] trivial rfl rfl
                ·
                  refine JL.val (v := .bool false) (QV.eq (QV.move rfl) (congrArg Value.bool (decide_eq_false h45))) rfl rfl rfl ?_
                  refine JL.skip (d := some 210) rfl rfl rfl ?_
                  refine JL.skip (d := some 211) rfl rfl rfl ?_
                  refine JL.skip (d := some 212) rfl rfl rfl ?_
                  refine JL.val (v := .bool false) (QV.pickF rfl rfl) rfl rfl rfl ?_
                  refine JL.nil ?_
                  refine QJ.then_normal ?_
                  refine JC.condF rfl ?_
                  refine JC.skip ?_
                  obtain rfl := Option.some.inj hm
                  exact QJ.body (vs := []) (.inr rfl) rfl ResVs.nil [0] rfl rfl (.inl rfl) ⟨z44, rfl, rfl⟩
              ·
                rcases ite_inv hm with ⟨h52, hm⟩ | ⟨h52, hm⟩
                ·
                  refine JC.condT' rfl (decide_eq_true h52) ?_
                  refine JC.region ?_
                  refine JL.val (v := s1.v) (QV.move rfl) rfl rfl rfl ?_
                  refine JL.val (v := .int .i64 x4) (QV.move rfl) rfl rfl rfl ?_
                  refine JL.val (v := .int .i64 d13) (QV.move rfl) rfl rfl rfl ?_
                  refine JL.val (v := .int .i64 (IntKind.wrap .i64 (shrI .u64 (IntKind.wrap .u64 (IntKind.wrap .i64 (x4 + x6))) (1 : Int)))) (QV.move rfl) rfl rfl rfl ?_
                  refine JL.val (v := .func (.func 48) #[] #[]) (QV.move rfl) rfl rfl rfl ?_
                  obtain ⟨y53, hc54, hm⟩ := bind_inv hm
                  refine JL.mv (d := some 205) (MV.call (Lo := [Asr.onv 91 (NE.pair (NE.flat (Enc.int .u64)) (NE.sl (Enc.int .i64))) (s1.v) z3 x2]) (Lr := []) (ih (s1) (z3) (x2) (x4) (d13) ((IntKind.wrap .i64 (shrI .u64 (IntKind.wrap .u64 (IntKind.wrap .i64 (x4 + x6))) (1 : Int)))) _ hc54) rfl Try.func80 rfl rfl rfl [0] [] rfl rfl rfl trivial) rfl rfl rfl ?_
                  rintro _ _ ⟨_, ⟨z55, rfl, rfl⟩, rfl⟩
                  refine JL.nil ?_
                  exact QJ.cut_normal (y53, z55) hm [0] (by exact ⟨rfl, rfl, rfl, rfl, rfl, trivial⟩) rfl rfl
                ·
                  refine JC.condF' rfl (decide_eq_false h52) ?_
                  refine JC.skip ?_
                  exact QJ.cut_normal (x2, z3) hm [0] (by exact ⟨rfl, rfl, rfl, rfl, rfl, trivial⟩) rfl rfl
            ·
              refine JL.val (v := .bool false) (QV.eq (QV.move rfl) (congrArg Value.bool (decide_eq_false h42))) rfl rfl rfl ?_
              refine JL.skip (d := some 196) rfl rfl rfl ?_
              refine JL.skip (d := some 197) rfl rfl rfl ?_
              refine JL.skip (d := some 198) rfl rfl rfl ?_
              refine JL.val (v := .bool false) (QV.pickF rfl rfl) rfl rfl rfl ?_
              refine JL.nil ?_
              refine QJ.then_normal ?_
              refine JC.condF rfl ?_
              refine JC.skip ?_
              refine QJ.then_normal ?_
              refine JC.seq ?_
              refine JC.region ?_
              refine JL.val (v := .int .i64 (IntKind.wrap .i64 (shrI .u64 (IntKind.wrap .u64 (IntKind.wrap .i64 (x4 + x6))) (1 : Int)))) (QV.move rfl) rfl rfl rfl ?_
              refine JL.val (v := .int .i64 (IntKind.wrap .i64 ((IntKind.wrap .i64 ((IntKind.wrap .i64 (shrI .u64 (IntKind.wrap .u64 (IntKind.wrap .i64 (x4 + x6))) (1 : Int))) + x5)) - d13))) (QV.move rfl) rfl rfl rfl ?_
              refine JL.val (v := .bool (decide ((IntKind.wrap .i64 (shrI .u64 (IntKind.wrap .u64 (IntKind.wrap .i64 (x4 + x6))) (1 : Int))) < (IntKind.wrap .i64 ((IntKind.wrap .i64 ((IntKind.wrap .i64 (shrI .u64 (IntKind.wrap .u64 (IntKind.wrap .i64 (x4 + x6))) (1 : Int))) + x5)) - d13))))) (QV.lss rfl rfl) rfl rfl rfl ?_
              rcases ite_inv hm with ⟨h56, hm⟩ | ⟨h56, hm⟩
              ·
                refine JL.val (v := .bool true) (QV.eq (QV.move rfl) (congrArg Value.bool (decide_eq_true h56))) rfl rfl rfl ?_
                refine JL.val (v := .int .i64 (IntKind.wrap .i64 ((IntKind.wrap .i64 ((IntKind.wrap .i64 (shrI .u64 (IntKind.wrap .u64 (IntKind.wrap .i64 (x4 + x6))) (1 : Int))) + x5)) - d13))) (QV.move rfl) rfl rfl rfl ?_
                refine JL.val (v := .int .i64 x6) (QV.move rfl) rfl rfl rfl ?_
                refine JL.val (v := .bool (decide ((IntKind.wrap .i64 ((IntKind.wrap .i64 ((IntKind.wrap .i64 (shrI .u64 (IntKind.wrap .u64 (IntKind.wrap .i64 (x4 + x6))) (1 : Int))) + x5)) - d13)) < x6))) (QV.lss rfl rfl) rfl rfl rfl ?_
                refine JL.val (v := .bool (decide ((IntKind.wrap .i64 ((IntKind.wrap .i64 ((IntKind.wrap .i64 (shrI .u64 (IntKind.wrap .u64 (IntKind.wrap .i64 (x4 + x6))) (1 : Int))) + x5)) - d13)) < x6))) (QV.pickT rfl rfl) rfl rfl rfl ?_
                refine JL.nil ?_
                refine QJ.then_normal ?_
                refine JC.cutK (Y := (List (Int × (List Int))) × (List (Unit × SlV))) (fun y => match y with | (d57, _) => F80_1.j11 (d57) = some r) (fun y => match y with | (d57, z58) => []) (fun y => match y with | (d57, z58) => [Asr.onv 91 (NE.pair (NE.flat (Enc.int .u64)) (NE.sl (Enc.int .i64))) (s1.v) z58 d57]) ?_ ?_
                ·
                  rintro ⟨d57, z58⟩ hm
                  unfold F80_1.j11 at hm
                  show QJ _ _ [] [Asr.onv 91 (NE.pair (NE.flat (Enc.int .u64)) (NE.sl (Enc.int .i64))) (s1.v) z58 d57] _ _
                  obtain rfl := Option.some.inj hm
                  exact QJ.body (vs := []) (.inr rfl) rfl ResVs.nil [0] rfl rfl (.inl rfl) ⟨z58, rfl, rfl⟩
                ·
                  rcases ite_inv hm with ⟨h59, hm⟩ | ⟨h59, hm⟩
                  ·
                    refine JC.condT' rfl (decide_eq_true h59) ?_
                    refine JC.region ?_
                    refine JL.val (v := s1.v) (QV.move rfl) rfl rfl rfl ?_
                    refine JL.val (v := .int .i64 (IntKind.wrap .i64 (shrI .u64 (IntKind.wrap .u64 (IntKind.wrap .i64 (x4 + x6))) (1 : Int)))) (QV.move rfl) rfl rfl rfl ?_
                    refine JL.val (v := .int .i64 (IntKind.wrap .i64 ((IntKind.wrap .i64 ((IntKind.wrap .i64 (shrI .u64 (IntKind.wrap .u64 (IntKind.wrap .i64 (x4 + x6))) (1 : Int))) + x5)) - d13))) (QV.move rfl) rfl rfl rfl ?_
                    refine JL.val (v := .int .i64 x6) (QV.move rfl) rfl rfl rfl ?_
                    refine JL.val (v := .func (.func 48) #[] #[]) (QV.move rfl) rfl rfl rfl ?_
                    obtain ⟨y60, hc61, hm⟩ := bind_inv hm
                    refine JL.mv (d := some 219) (MV.call (Lo := [Asr.onv 91 (NE.pair (NE.flat (Enc.int .u64)) (NE.sl (Enc.int .i64))) (s1.v) z3 x2]) (Lr := []) (ih (s1) (z3) (x2) ((IntKind.wrap .i64 (shrI .u64 (IntKind.wrap .u64 (IntKind.wrap .i64 (x4 + x6))) (1 : Int)))) ((IntKind.wrap .i64 ((IntKind.wrap .i64 ((IntKind.wrap .i64 (shrI .u64 (IntKind.wrap .u64 (IntKind.wrap .i64 (x4 + x6))) (1 : Int))) + x5)) - d13))) (x6) _ hc61) rfl Try.func80 rfl rfl rfl [0] [] rfl rfl rfl trivial) rfl rfl rfl ?_
                    rintro _ _ ⟨_, ⟨z62, rfl, rfl⟩, rfl⟩
                    refine JL.nil ?_
                    exact QJ.cut_normal (y60, z62) hm [0] trivial rfl rfl
                  ·
                    refine JC.condF' rfl (decide_eq_false h59) ?_
                    refine JC.skip ?_
                    exact QJ.cut_normal (x2, z3) hm [0] trivial rfl rfl
              ·
                refine JL.val (v := .bool false) (QV.eq (QV.move rfl) (congrArg Value.bool (decide_eq_false h56))) rfl rfl rfl ?_
                refine JL.skip (d := some 210) rfl rfl rfl ?_
                refine JL.skip (d := some 211) rfl rfl rfl ?_
                refine JL.skip (d := some 212) rfl rfl rfl ?_
                refine JL.val (v := .bool false) (QV.pickF rfl rfl) rfl rfl rfl ?_
                refine JL.nil ?_
                refine QJ.then_normal ?_
                refine JC.condF rfl ?_
                refine JC.skip ?_
                obtain rfl := Option.some.inj hm
                exact QJ.body (vs := []) (.inr rfl) rfl ResVs.nil [0] rfl rfl (.inl rfl) ⟨z3, rfl, rfl⟩
        ·
          refine JC.block ?_
          obtain ⟨y67, hl68, hmo69⟩ := bind_inv hm
          refine JC.loop (F80_1.b1 x2 x4 x5 x6) (fun x z => match x, z with | (d63, d64), _ => [(0, s1.v), (1, .int .i64 x4), (2, .int .i64 x5), (3, .int .i64 x6), (4, .func (.func 48) #[] #[]), (18, .int .i64 (IntKind.wrap .i64 (shrI .u64 (IntKind.wrap .u64 (IntKind.wrap .i64 (x4 + x6))) (1 : Int)))), (19, .int .i64 (IntKind.wrap .i64 ((IntKind.wrap .i64 (shrI .u64 (IntKind.wrap .u64 (IntKind.wrap .i64 (x4 + x6))) (1 : Int))) + x5))), (20, .int .i64 d63), (21, .int .i64 d64), (22, .int .i64 (IntKind.wrap .i64 ((IntKind.wrap .i64 ((IntKind.wrap .i64 (shrI .u64 (IntKind.wrap .u64 (IntKind.wrap .i64 (x4 + x6))) (1 : Int))) + x5)) - (1 : Int))))]) (fun x z => match x, z with | (d63, d64), _ => [Asr.onv 91 (NE.pair (NE.flat (Enc.int .u64)) (NE.sl (Enc.int .i64))) (s1.v) z3 x2]) (d11, d12) () y67 hl68 [0] (by exact ⟨rfl, rfl, rfl, rfl, rfl, rfl, rfl, rfl, rfl, rfl, trivial⟩) rfl rfl ?_
          rintro ⟨d63, d64⟩ ⟨⟩ s70 hm
          unfold F80_1.b1 at hm
          dsimp only at hm
          show JC _ _ _ [(0, s1.v), (1, .int .i64 x4), (2, .int .i64 x5), (3, .int .i64 x6), (4, .func (.func 48) #[] #[]), (18, .int .i64 (IntKind.wrap .i64 (shrI .u64 (IntKind.wrap .u64 (IntKind.wrap .i64 (x4 + x6))) (1 : Int)))), (19, .int .i64 (IntKind.wrap .i64 ((IntKind.wrap .i64 (shrI .u64 (IntKind.wrap .u64 (IntKind.wrap .i64 (x4 + x6))) (1 : Int))) + x5))), (20, .int .i64 d63), (21, .int .i64 d64), (22, .int .i64 (IntKind.wrap .i64 ((IntKind.wrap .i64 ((IntKind.wrap .i64 (shrI .u64 (IntKind.wrap .u64 (IntKind.wrap .i64 (x4 + x6))) (1 : Int))) + x5)) - (1 : Int))))] [Asr.onv 91 (NE.pair (NE.flat (Enc.int .u64)) (NE.sl (Enc.int .i64))) (s1.v) z3 x2] _ _
          refine JC.seq ?_
          refine JC.seq ?_
          refine JC.region ?_
          refine JL.val (v := .int .i64 d63) (QV.move rfl) rfl rfl rfl ?_
          refine JL.val (v := .int .i64 d64) (QV.move rfl) rfl rfl rfl ?_
          refine JL.val (v := .bool (decide (d63 < d64))) (QV.lss rfl rfl) rfl rfl rfl ?_
          refine JL.nil ?_
          refine QJ.then_normal ?_
          rcases ite_inv hm with ⟨h71, hm⟩ | ⟨h71, hm⟩
          ·
            refine JC.condT' rfl (decide_eq_true h71) ?_
            refine JC.skip ?_
            refine QJ.then_normal ?_
            refine JC.block ?_
            refine JC.seq ?_
            refine JC.region ?_
            refine JL.val (v := .int .i64 d63) (QV.move rfl) rfl rfl rfl ?_
            refine JL.val (v := .int .i64 d64) (QV.move rfl) rfl rfl rfl ?_
            refine JL.val (v := .int .i64 (IntKind.wrap .i64 (d63 + d64))) (QV.add rfl rfl) rfl rfl rfl ?_
            refine JL.val (v := .int .u64 (IntKind.wrap .u64 (IntKind.wrap .i64 (d63 + d64)))) (QV.conv rfl (by rw [Try.underlying3]; rfl) Try.underlying155) rfl rfl rfl ?_
            refine JL.val (v := .int .u64 (shrI .u64 (IntKind.wrap .u64 (IntKind.wrap .i64 (d63 + d64))) (1 : Int))) (QV.shr rfl rfl (by decide)) rfl rfl rfl ?_
            refine JL.val (v := .int .i64 (IntKind.wrap .i64 (shrI .u64 (IntKind.wrap .u64 (IntKind.wrap .i64 (d63 + d64))) (1 : Int)))) (QV.conv rfl (by rw [Try.underlying155]; rfl) Try.underlying3) rfl rfl rfl ?_
            refine JL.val (v := .int .i64 (IntKind.wrap .i64 (shrI .u64 (IntKind.wrap .u64 (IntKind.wrap .i64 (d63 + d64))) (1 : Int)))) (QV.assign rfl) rfl rfl rfl ?_
            refine JL.nil ?_
            refine QJ.then_normal ?_
            refine JC.seq ?_
            refine JC.regionT [Asr.onv 91 (NE.pair (NE.flat (Enc.int .u64)) (NE.sl (Enc.int .i64))) (s1.v) z3 x2] (fun t => false) [(0, true), (1, true), (2, true), (3, true), (4, true), (5, true), (6, true), (7, true), (8, false), (9, false), (10, false), (11, false), (12, false), (13, false)] (by kernel_rfl) (by kernel_rfl) (by kernel_rfl) rfl (fun hsel => ?_)
            refine JT.take (i := 0) (v := .func (.func 48) #[] #[]) hsel rfl (QV.move rfl) rfl rfl rfl rfl [0] rfl rfl ?_
            refine JT.take (i := 1) (v := s1.v) hsel rfl (QV.move rfl) rfl rfl rfl rfl [0] rfl rfl ?_
            refine JT.take (i := 2) (v := .int .i64 (IntKind.wrap .i64 ((IntKind.wrap .i64 ((IntKind.wrap .i64 (shrI .u64 (IntKind.wrap .u64 (IntKind.wrap .i64 (x4 + x6))) (1 : Int))) + x5)) - (1 : Int)))) hsel rfl (QV.move rfl) rfl rfl rfl rfl [0] rfl rfl ?_
            refine JT.take (i := 3) (v := .int .i64 (IntKind.wrap .i64 (shrI .u64 (IntKind.wrap .u64 (IntKind.wrap .i64 (d63 + d64))) (1 : Int)))) hsel rfl (QV.move rfl) rfl rfl rfl rfl [0] rfl rfl ?_
            refine JT.take (i := 4) (v := .int .i64 (IntKind.wrap .i64 ((IntKind.wrap .i64 ((IntKind.wrap .i64 ((IntKind.wrap .i64 (shrI .u64 (IntKind.wrap .u64 (IntKind.wrap .i64 (x4 + x6))) (1 : Int))) + x5)) - (1 : Int))) - (IntKind.wrap .i64 (shrI .u64 (IntKind.wrap .u64 (IntKind.wrap .i64 (d63 + d64))) (1 : Int)))))) hsel rfl (QV.sub rfl rfl) rfl rfl rfl rfl [0] rfl rfl ?_
            obtain ⟨h72, hm⟩ := guard_inv hm
            refine JT.take (i := 5) (v := .pointer (some (elA (s1.v) (Int.toNat (IntKind.wrap .i64 ((IntKind.wrap .i64 ((IntKind.wrap .i64 ((IntKind.wrap .i64 (shrI .u64 (IntKind.wrap .u64 (IntKind.wrap .i64 (x4 + x6))) (1 : Int))) + x5)) - (1 : Int))) - (IntKind.wrap .i64 (shrI .u64 (IntKind.wrap .u64 (IntKind.wrap .i64 (d63 + d64))) (1 : Int))))) * ((NE.pair (NE.flat (Enc.int .u64)) (NE.sl (Enc.int .i64))).E).sz)))) hsel rfl (QV.indexN (RdN.onv 0 rfl) Try.underlying89 tk_91 rfl rfl h72) rfl rfl rfl rfl [0] rfl rfl ?_
            refine JT.take (i := 6) (v := .agg #[.int .u64 (gd x2 (IntKind.wrap .i64 ((IntKind.wrap .i64 ((IntKind.wrap .i64 ((IntKind.wrap .i64 (shrI .u64 (IntKind.wrap .u64 (IntKind.wrap .i64 (x4 + x6))) (1 : Int))) + x5)) - (1 : Int))) - (IntKind.wrap .i64 (shrI .u64 (IntKind.wrap .u64 (IntKind.wrap .i64 (d63 + d64))) (1 : Int)))))).1, (gd z3 (IntKind.wrap .i64 ((IntKind.wrap .i64 ((IntKind.wrap .i64 ((IntKind.wrap .i64 (shrI .u64 (IntKind.wrap .u64 (IntKind.wrap .i64 (x4 + x6))) (1 : Int))) + x5)) - (1 : Int))) - (IntKind.wrap .i64 (shrI .u64 (IntKind.wrap .u64 (IntKind.wrap .i64 (d63 + d64))) (1 : Int)))))).2.v]) hsel rfl (QV.eq (QV.elNN (RdN.onv 0 rfl) tk_91 rfl h72) rfl) rfl rfl rfl rfl [0] rfl rfl ?_
            refine JT.take (i := 7) (v := s1.v) hsel rfl (QV.move rfl) rfl rfl rfl rfl [0] rfl rfl ?_
            refine JT.only (i := 8) (d := some 166) rfl (MV.ofQV (v := .int .i64 (IntKind.wrap .i64 (shrI .u64 (IntKind.wrap .u64 (IntKind.wrap .i64 (d63 + d64))) (1 : Int)))) (QV.move rfl)) rfl rfl rfl ?_
            rintro _ _ ⟨rfl, rfl⟩
            refine ⟨fun _ => ⟨[0], rfl, rfl⟩, ?_⟩
            obtain ⟨h73, hm⟩ := guard_inv hm
            refine JT.only (i := 9) (d := some 167) rfl (MV.ofQV (v := .pointer (some (elA (s1.v) (Int.toNat (IntKind.wrap .i64 (shrI .u64 (IntKind.wrap .u64 (IntKind.wrap .i64 (d63 + d64))) (1 : Int))) * ((NE.pair (NE.flat (Enc.int .u64)) (NE.sl (Enc.int .i64))).E).sz)))) (QV.indexN (RdN.onv 0 rfl) Try.underlying89 tk_91 rfl rfl h73)) rfl rfl rfl ?_
            rintro _ _ ⟨rfl, rfl⟩
            refine ⟨fun _ => ⟨[0], rfl, rfl⟩, ?_⟩
            refine JT.only (i := 10) (d := some 168) rfl (MV.ofQV (v := .agg #[.int .u64 (gd x2 (IntKind.wrap .i64 (shrI .u64 (IntKind.wrap .u64 (IntKind.wrap .i64 (d63 + d64))) (1 : Int)))).1, (gd z3 (IntKind.wrap .i64 (shrI .u64 (IntKind.wrap .u64 (IntKind.wrap .i64 (d63 + d64))) (1 : Int)))).2.v]) (QV.eq (QV.elNN (RdN.onv 0 rfl) tk_91 rfl h73) rfl)) rfl rfl rfl ?_
            rintro _ _ ⟨rfl, rfl⟩
            refine ⟨fun _ => ⟨[0], rfl, rfl⟩, ?_⟩
            obtain ⟨y74, hc75, hm⟩ := bind_inv hm
            refine JT.only (i := 11) (d := some 169) rfl (MV.callV (vals := [.agg #[.int .u64 (gd x2 (IntKind.wrap .i64 ((IntKind.wrap .i64 ((IntKind.wrap .i64 ((IntKind.wrap .i64 (shrI .u64 (IntKind.wrap .u64 (IntKind.wrap .i64 (x4 + x6))) (1 : Int))) + x5)) - (1 : Int))) - (IntKind.wrap .i64 (shrI .u64 (IntKind.wrap .u64 (IntKind.wrap .i64 (d63 + d64))) (1 : Int)))))).1, (gd z3 (IntKind.wrap .i64 ((IntKind.wrap .i64 ((IntKind.wrap .i64 ((IntKind.wrap .i64 (shrI .u64 (IntKind.wrap .u64 (IntKind.wrap .i64 (x4 + x6))) (1 : Int))) + x5)) - (1 : Int))) - (IntKind.wrap .i64 (shrI .u64 (IntKind.wrap .u64 (IntKind.wrap .i64 (d63 + d64))) (1 : Int)))))).2.v], .agg #[.int .u64 (gd x2 (IntKind.wrap .i64 (shrI .u64 (IntKind.wrap .u64 (IntKind.wrap .i64 (d63 + d64))) (1 : Int)))).1, (gd z3 (IntKind.wrap .i64 (shrI .u64 (IntKind.wrap .u64 (IntKind.wrap .i64 (d63 + d64))) (1 : Int)))).2.v]]) (cs := []) (Lo := []) (Lr := [Asr.onv 91 (NE.pair (NE.flat (Enc.int .u64)) (NE.sl (Enc.int .i64))) (s1.v) z3 x2]) (F48.spec ((gd z3 (IntKind.wrap .i64 ((IntKind.wrap .i64 ((IntKind.wrap .i64 ((IntKind.wrap .i64 (shrI .u64 (IntKind.wrap .u64 (IntKind.wrap .i64 (x4 + x6))) (1 : Int))) + x5)) - (1 : Int))) - (IntKind.wrap .i64 (shrI .u64 (IntKind.wrap .u64 (IntKind.wrap .i64 (d63 + d64))) (1 : Int)))))).2) ((gd z3 (IntKind.wrap .i64 (shrI .u64 (IntKind.wrap .u64 (IntKind.wrap .i64 (d63 + d64))) (1 : Int)))).2) ((gd x2 (IntKind.wrap .i64 ((IntKind.wrap .i64 ((IntKind.wrap .i64 ((IntKind.wrap .i64 (shrI .u64 (IntKind.wrap .u64 (IntKind.wrap .i64 (x4 + x6))) (1 : Int))) + x5)) - (1 : Int))) - (IntKind.wrap .i64 (shrI .u64 (IntKind.wrap .u64 (IntKind.wrap .i64 (d63 + d64))) (1 : Int)))))).1) ((gd x2 (IntKind.wrap .i64 ((IntKind.wrap .i64 ((IntKind.wrap .i64 ((IntKind.wrap .i64 (shrI .u64 (IntKind.wrap .u64 (IntKind.wrap .i64 (x4 + x6))) (1 : Int))) + x5)) - (1 : Int))) - (IntKind.wrap .i64 (shrI .u64 (IntKind.wrap .u64 (IntKind.wrap .i64 (d63 + d64))) (1 : Int)))))).2) ((gd x2 (IntKind.wrap .i64 (shrI .u64 (IntKind.wrap .u64 (IntKind.wrap .i64 (d63 + d64))) (1 : Int)))).1) ((gd x2 (IntKind.wrap .i64 (shrI .u64 (IntKind.wrap .u64 (IntKind.wrap .i64 (d63 + d64))) (1 : Int)))).2) _ hc75) rfl rfl rfl Try.func48 rfl rfl rfl [] [0] rfl rfl rfl ⟨(Drv.elV (K := (NE.pair (NE.flat (Enc.int .u64)) (NE.sl (Enc.int .i64)))) (A := Asr.vw (Enc.int .i64) ((gd z3 (IntKind.wrap .i64 ((IntKind.wrap .i64 ((IntKind.wrap .i64 ((IntKind.wrap .i64 (shrI .u64 (IntKind.wrap .u64 (IntKind.wrap .i64 (x4 + x6))) (1 : Int))) + x5)) - (1 : Int))) - (IntKind.wrap .i64 (shrI .u64 (IntKind.wrap .u64 (IntKind.wrap .i64 (d63 + d64))) (1 : Int)))))).2.v) (gd x2 (IntKind.wrap .i64 ((IntKind.wrap .i64 ((IntKind.wrap .i64 ((IntKind.wrap .i64 (shrI .u64 (IntKind.wrap .u64 (IntKind.wrap .i64 (x4 + x6))) (1 : Int))) + x5)) - (1 : Int))) - (IntKind.wrap .i64 (shrI .u64 (IntKind.wrap .u64 (IntKind.wrap .i64 (d63 + d64))) (1 : Int)))))).2) 0 rfl h72 (fun _ _ q => q.2)), ⟨(Drv.elV (K := (NE.pair (NE.flat (Enc.int .u64)) (NE.sl (Enc.int .i64)))) (A := Asr.vw (Enc.int .i64) ((gd z3 (IntKind.wrap .i64 (shrI .u64 (IntKind.wrap .u64 (IntKind.wrap .i64 (d63 + d64))) (1 : Int)))).2.v) (gd x2 (IntKind.wrap .i64 (shrI .u64 (IntKind.wrap .u64 (IntKind.wrap .i64 (d63 + d64))) (1 : Int)))).2) 0 rfl h73 (fun _ _ q => q.2)), trivial⟩⟩) rfl rfl rfl ?_
            rintro _ _ ⟨_, ⟨rfl, rfl⟩, rfl⟩
            refine ⟨fun _ => ⟨[0], rfl, rfl⟩, ?_⟩
            refine JT.only (i := 12) (d := some 170) rfl (MV.ofQV (v := .bool (decide (y74 < (0 : Int)))) (QV.lss rfl rfl)) rfl rfl rfl ?_
            rintro _ _ ⟨rfl, rfl⟩
            refine ⟨fun _ => ⟨[0], rfl, rfl⟩, ?_⟩
            refine JT.only (i := 13) (d := some 171) rfl (MV.ofQV (v := .bool (!(decide (y74 < (0 : Int))))) (QV.not rfl)) rfl rfl rfl ?_
            rintro _ _ ⟨rfl, rfl⟩
            refine ⟨fun _ => ⟨[0], rfl, rfl⟩, ?_⟩
            refine JT.nil ?_
            refine QJ.then_normal ?_
            refine JC.cutK (Y := (Int × Int) × Unit) (fun y => match y with | ((d76, d77), _) => F80_1.j12 (d76) (d77) = some s70) (fun y => match y with | ((d76, d77), _) => [(0, s1.v), (1, .int .i64 x4), (2, .int .i64 x5), (3, .int .i64 x6), (4, .func (.func 48) #[] #[]), (18, .int .i64 (IntKind.wrap .i64 (shrI .u64 (IntKind.wrap .u64 (IntKind.wrap .i64 (x4 + x6))) (1 : Int)))), (19, .int .i64 (IntKind.wrap .i64 ((IntKind.wrap .i64 (shrI .u64 (IntKind.wrap .u64 (IntKind.wrap .i64 (x4 + x6))) (1 : Int))) + x5))), (20, .int .i64 d76), (21, .int .i64 d77), (22, .int .i64 (IntKind.wrap .i64 ((IntKind.wrap .i64 ((IntKind.wrap .i64 (shrI .u64 (IntKind.wrap .u64 (IntKind.wrap .i64 (x4 + x6))) (1 : Int))) + x5)) - (1 : Int))))]) (fun y => match y with | ((d76, d77), _) => [Asr.onv 91 (NE.pair (NE.flat (Enc.int .u64)) (NE.sl (Enc.int .i64))) (s1.v) z3 x2]) ?_ ?_
            ·
              rintro ⟨⟨d76, d77⟩, ⟨⟩⟩ hm
              unfold F80_1.j12 at hm
              show QJ _ _ [(0, s1.v), (1, .int .i64 x4), (2, .int .i64 x5), (3, .int .i64 x6), (4, .func (.func 48) #[] #[]), (18, .int .i64 (IntKind.wrap .i64 (shrI .u64 (IntKind.wrap .u64 (IntKind.wrap .i64 (x4 + x6))) (1 : Int)))), (19, .int .i64 (IntKind.wrap .i64 ((IntKind.wrap .i64 (shrI .u64 (IntKind.wrap .u64 (IntKind.wrap .i64 (x4 + x6))) (1 : Int))) + x5))), (20, .int .i64 d76), (21, .int .i64 d77), (22, .int .i64 (IntKind.wrap .i64 ((IntKind.wrap .i64 ((IntKind.wrap .i64 (shrI .u64 (IntKind.wrap .u64 (IntKind.wrap .i64 (x4 + x6))) (1 : Int))) + x5)) - (1 : Int))))] [Asr.onv 91 (NE.pair (NE.flat (Enc.int .u64)) (NE.sl (Enc.int .i64))) (s1.v) z3 x2] _ _
              refine QJ.block_normal ?_
              obtain rfl := Option.some.inj hm
              exact QJ.round_on (d76, d77) () [0] (by exact ⟨rfl, rfl, rfl, rfl, rfl, rfl, rfl, rfl, rfl, rfl, trivial⟩) rfl rfl
            ·
              rcases ite_inv hm with ⟨h78, hm⟩ | ⟨h78, hm⟩
              ·
                refine JC.condF' rfl (congrArg Bool.not (decide_eq_true h78)) ?_
                refine JC.region ?_
                refine JL.val (v := .int .i64 (IntKind.wrap .i64 (shrI .u64 (IntKind.wrap .u64 (IntKind.wrap .i64 (d63 + d64))) (1 : Int)))) (QV.move rfl) rfl rfl rfl ?_
                refine JL.val (v := .int .i64 (IntKind.wrap .i64 (shrI .u64 (IntKind.wrap .u64 (IntKind.wrap .i64 (d63 + d64))) (1 : Int)))) (QV.assign rfl) rfl rfl rfl ?_
                refine JL.nil ?_
                exact QJ.cut_normal ((d63, (IntKind.wrap .i64 (shrI .u64 (IntKind.wrap .u64 (IntKind.wrap .i64 (d63 + d64))) (1 : Int)))), ()) hm [0] (by exact ⟨rfl, rfl, rfl, rfl, rfl, rfl, rfl, rfl, rfl, rfl, trivial⟩) rfl rfl
              ·
                refine JC.condT' rfl (congrArg Bool.not (decide_eq_false h78)) ?_
                refine JC.region ?_
                refine JL.val (v := .int .i64 (IntKind.wrap .i64 (shrI .u64 (IntKind.wrap .u64 (IntKind.wrap .i64 (d63 + d64))) (1 : Int)))) (QV.move rfl) rfl rfl rfl ?_
                refine JL.val (v := .int .i64 (IntKind.wrap .i64 ((IntKind.wrap .i64 (shrI .u64 (IntKind.wrap .u64 (IntKind.wrap .i64 (d63 + d64))) (1 : Int))) + (1 : Int)))) (QV.add rfl rfl) rfl rfl rfl ?_
                refine JL.val (v := .int .i64 (IntKind.wrap .i64 ((IntKind.wrap .i64 (shrI .u64 (IntKind.wrap .u64 (IntKind.wrap .i64 (d63 + d64))) (1 : Int))) + (1 : Int)))) (QV.assign rfl) rfl rfl rfl ?_
                refine JL.nil ?_
                exact QJ.cut_normal (((IntKind.wrap .i64 ((IntKind.wrap .i64 (shrI .u64 (IntKind.wrap .u64 (IntKind.wrap .i64 (d63 + d64))) (1 : Int))) + (1 : Int))), d64), ()) hm [0] (by exact ⟨rfl, rfl, rfl, rfl, rfl, rfl, rfl, rfl, rfl, rfl, trivial⟩) rfl rfl
          ·
            refine JC.condF' rfl (decide_eq_false h71) ?_
            refine JC.exit ?_
            refine QJ.then_exit ?_
            obtain rfl := Option.some.inj hm
            refine QJ.round_exit (fun hy => ?_)
            subst hy
            refine QJ.block_hit ?_
            exact QJ.cut_normal (d63, ()) hmo69 [0] (by exact ⟨rfl, rfl, rfl, rfl, rfl, rfl, rfl, rfl, trivial⟩) rfl rfl
      ·
        rcases ite_inv hm with ⟨h79, hm⟩ | ⟨h79, hm⟩
        ·
          refine JC.condT' rfl (decide_eq_true h79) ?_
          refine JC.seq ?_
          refine JC.region ?_
          refine JL.val (v := .int .i64 (IntKind.wrap .i64 ((IntKind.wrap .i64 (shrI .u64 (IntKind.wrap .u64 (IntKind.wrap .i64 (x4 + x6))) (1 : Int))) + x5))) (QV.move rfl) rfl rfl rfl ?_
          refine JL.val (v := .int .i64 x6) (QV.move rfl) rfl rfl rfl ?_
          refine JL.val (v := .int .i64 (IntKind.wrap .i64 ((IntKind.wrap .i64 ((IntKind.wrap .i64 (shrI .u64 (IntKind.wrap .u64 (IntKind.wrap .i64 (x4 + x6))) (1 : Int))) + x5)) - x6))) (QV.sub rfl rfl) rfl rfl rfl ?_
          refine JL.val (v := .int .i64 (IntKind.wrap .i64 ((IntKind.wrap .i64 ((IntKind.wrap .i64 (shrI .u64 (IntKind.wrap .u64 (IntKind.wrap .i64 (x4 + x6))) (1 : Int))) + x5)) - x6))) (QV.assign rfl) rfl rfl rfl ?_
          refine JL.nil ?_
          refine QJ.then_normal ?_
          refine JC.region ?_
          refine JL.val (v := .int .i64 (IntKind.wrap .i64 (shrI .u64 (IntKind.wrap .u64 (IntKind.wrap .i64 (x4 + x6))) (1 : Int)))) (QV.move rfl) rfl rfl rfl ?_
          refine JL.val (v := .int .i64 (IntKind.wrap .i64 (shrI .u64 (IntKind.wrap .u64 (IntKind.wrap .i64 (x4 + x6))) (1 : Int)))) (QV.assign rfl) rfl rfl rfl ?_
          refine JL.nil ?_
          exact QJ.cut_normal (((IntKind.wrap .i64 ((IntKind.wrap .i64 ((IntKind.wrap .i64 (shrI .u64 (IntKind.wrap .u64 (IntKind.wrap .i64 (x4 + x6))) (1 : Int))) + x5)) - x6)), (IntKind.wrap .i64 (shrI .u64 (IntKind.wrap .u64 (IntKind.wrap .i64 (x4 + x6))) (1 : Int)))), ()) hm [0] (by exact ⟨rfl, rfl, rfl, rfl, rfl, rfl, rfl, rfl, rfl, trivial⟩) rfl rfl
        ·
          refine JC.condF' rfl (decide_eq_false h79) ?_
          refine JC.seq ?_
          refine JC.region ?_
          refine JL.val (v := .int .i64 x4) (QV.move rfl) rfl rfl rfl ?_
          refine JL.val (v := .int .i64 x4) (QV.assign rfl) rfl rfl rfl ?_
          refine JL.nil ?_
          refine QJ.then_normal ?_
          refine JC.region ?_
          refine JL.val (v := .int .i64 x5) (QV.move rfl) rfl rfl rfl ?_
          refine JL.val (v := .int .i64 x5) (QV.assign rfl) rfl rfl rfl ?_
          refine JL.nil ?_
          exact QJ.cut_normal ((x4, x5), ()) hm [0] (by exact ⟨rfl, rfl, rfl, rfl, rfl, rfl, rfl, rfl, rfl, trivial⟩) rfl rfl
    ·
      rcases ite_inv hm with ⟨h80, hm⟩ | ⟨h80, hm⟩
      ·
        refine JC.condT' rfl (decide_eq_true h80) ?_
        refine JC.seq ?_
        refine JC.region ?_
        refine JL.val (v := .int .i64 x4) (QV.move rfl) rfl rfl rfl ?_
        refine JL.val (v := .int .i64 x4) (QV.assign rfl) rfl rfl rfl ?_
        refine JL.nil ?_
        refine QJ.then_normal ?_
        refine JC.seq ?_
        refine JC.region ?_
        refine JL.val (v := .int .i64 x5) (QV.move rfl) rfl rfl rfl ?_
        refine JL.val (v := .int .i64 x5) (QV.assign rfl) rfl rfl rfl ?_
        refine JL.nil ?_
        refine QJ.then_normal ?_
        refine JC.seq ?_
        refine JC.cutK (Y := Int × Unit) (fun y => match y with | (d81, _) => F80_1.j13 x2 x5 (d81) = some r) (fun y => match y with | (d81, _) => [(0, s1.v), (2, .int .i64 x5), (14, .int .i64 d81)]) (fun y => match y with | (d81, _) => [Asr.onv 91 (NE.pair (NE.flat (Enc.int .u64)) (NE.sl (Enc.int .i64))) (s1.v) z3 x2]) ?_ ?_
        ·
          rintro ⟨d81, ⟨⟩⟩ hm
          unfold F80_1.j13 at hm
          show QJ _ _ [(0, s1.v), (2, .int .i64 x5), (14, .int .i64 d81)] [Asr.onv 91 (NE.pair (NE.flat (Enc.int .u64)) (NE.sl (Enc.int .i64))) (s1.v) z3 x2] _ _
          refine QJ.then_normal ?_
          refine JC.seq ?_
          refine JC.seq ?_
          refine JC.region ?_
          refine JL.val (v := .int .i64 x5) (QV.move rfl) rfl rfl rfl ?_
          refine JL.val (v := .int .i64 x5) (QV.assign rfl) rfl rfl rfl ?_
          refine JL.nil ?_
          refine QJ.then_normal ?_
          refine JC.cutK (Y := (List (Int × (List Int))) × (List (Unit × SlV))) (fun y => match y with | (d82, _) => F80_1.j14 (d82) = some r) (fun y => match y with | (d82, z83) => []) (fun y => match y with | (d82, z83) => [Asr.onv 91 (NE.pair (NE.flat (Enc.int .u64)) (NE.sl (Enc.int .i64))) (s1.v) z83 d82]) ?_ ?_
          ·
            rintro ⟨d82, z83⟩ hm
            unfold F80_1.j14 at hm
            show QJ _ _ [] [Asr.onv 91 (NE.pair (NE.flat (Enc.int .u64)) (NE.sl (Enc.int .i64))) (s1.v) z83 d82] _ _
            refine QJ.then_normal ?_
            refine JC.ret ?_
            refine QJ.cut_ret ?_
            refine QJ.then_ret ?_
            obtain rfl := Option.some.inj hm
            exact QJ.body (vs := []) (.inl rfl) rfl ResVs.nil [0] rfl rfl (.inl rfl) ⟨z83, rfl, rfl⟩
          ·
            refine JC.block ?_
            obtain ⟨y90, hl91, hmo92⟩ := bind_inv hm
            refine JC.loop (F80_1.b2 d81) (fun x z => match x, z with | (d84, d86), z85 => [(0, s1.v), (14, .int .i64 d81), (17, .int .i64 d86)]) (fun x z => match x, z with | (d84, d86), z85 => [Asr.onv 91 (NE.pair (NE.flat (Enc.int .u64)) (NE.sl (Enc.int .i64))) (s1.v) z85 d84]) (x2, x5) z3 y90 hl91 [0] (by exact ⟨rfl, rfl, rfl, trivial⟩) rfl rfl ?_
            rintro ⟨d84, d86⟩ z85 s93 hm
            unfold F80_1.b2 at hm
            dsimp only at hm
            show JC _ _ _ [(0, s1.v), (14, .int .i64 d81), (17, .int .i64 d86)] [Asr.onv 91 (NE.pair (NE.flat (Enc.int .u64)) (NE.sl (Enc.int .i64))) (s1.v) z85 d84] _ _
            refine JC.seq ?_
            refine JC.seq ?_
            refine JC.region ?_
            refine JL.val (v := .int .i64 d86) (QV.move rfl) rfl rfl rfl ?_
            refine JL.val (v := .int .i64 d81) (QV.move rfl) rfl rfl rfl ?_
            refine JL.val (v := .bool (decide (d81 < d86))) (QV.gtr rfl rfl) rfl rfl rfl ?_
            refine JL.nil ?_
            refine QJ.then_normal ?_
            rcases ite_inv hm with ⟨h94, hm⟩ | ⟨h94, hm⟩
            ·
              refine JC.condT' rfl (decide_eq_true h94) ?_
              refine JC.skip ?_
              refine QJ.then_normal ?_
              refine JC.seq ?_
              refine JC.block ?_
              obtain ⟨h95, hm⟩ := guard_inv hm
              obtain ⟨h96, hm⟩ := guard_inv hm
              obtain ⟨h97, hm⟩ := guard_inv hm
              refine JC.cutK (Y := Unit × Unit) (fun y => match y with | (_, _) => F80_1.j15 d84 d86 = some s93) (fun y => match y with | (_, _) => [(0, s1.v), (14, .int .i64 d81), (17, .int .i64 d86)]) (fun y => match y with | (_, _) => [Asr.onv 91 (NE.pair (NE.flat (Enc.int .u64)) (NE.sl (Enc.int .i64))) (s1.v) (List.set (List.set z85 (Int.toNat d86) ((), (gd z85 (IntKind.wrap .i64 (d86 - (1 : Int)))).2)) (Int.toNat (IntKind.wrap .i64 (d86 - (1 : Int)))) ((), (gd z85 d86).2)) (List.set (List.set d84 (Int.toNat d86) ((gd d84 (IntKind.wrap .i64 (d86 - (1 : Int)))).1, (gd d84 (IntKind.wrap .i64 (d86 - (1 : Int)))).2)) (Int.toNat (IntKind.wrap .i64 (d86 - (1 : Int)))) ((gd d84 d86).1, (gd d84 d86).2))]) ?_ ?_
              ·
                rintro ⟨⟨⟩, ⟨⟩⟩ hm
                unfold F80_1.j15 at hm
                show QJ _ _ [(0, s1.v), (14, .int .i64 d81), (17, .int .i64 d86)] [Asr.onv 91 (NE.pair (NE.flat (Enc.int .u64)) (NE.sl (Enc.int .i64))) (s1.v) (List.set (List.set z85 (Int.toNat d86) ((), (gd z85 (IntKind.wrap .i64 (d86 - (1 : Int)))).2)) (Int.toNat (IntKind.wrap .i64 (d86 - (1 : Int)))) ((), (gd z85 d86).2)) (List.set (List.set d84 (Int.toNat d86) ((gd d84 (IntKind.wrap .i64 (d86 - (1 : Int)))).1, (gd d84 (IntKind.wrap .i64 (d86 - (1 : Int)))).2)) (Int.toNat (IntKind.wrap .i64 (d86 - (1 : Int)))) ((gd d84 d86).1, (gd d84 d86).2))] _ _
                refine QJ.block_normal ?_
                refine QJ.then_normal ?_
                refine JC.region ?_
                refine JL.val (v := .int .i64 d86) (QV.move rfl) rfl rfl rfl ?_
                refine JL.val (v := .int .i64 (IntKind.wrap .i64 (d86 - (1 : Int)))) (QV.sub rfl rfl) rfl rfl rfl ?_
                refine JL.val (v := .int .i64 (IntKind.wrap .i64 (d86 - (1 : Int)))) (QV.assign rfl) rfl rfl rfl ?_
                refine JL.nil ?_
                obtain rfl := Option.some.inj hm
                exact QJ.round_on ((List.set (List.set d84 (Int.toNat d86) ((gd d84 (IntKind.wrap .i64 (d86 - (1 : Int)))).1, (gd d84 (IntKind.wrap .i64 (d86 - (1 : Int)))).2)) (Int.toNat (IntKind.wrap .i64 (d86 - (1 : Int)))) ((gd d84 d86).1, (gd d84 d86).2)), (IntKind.wrap .i64 (d86 - (1 : Int)))) (List.set (List.set z85 (Int.toNat d86) ((), (gd z85 (IntKind.wrap .i64 (d86 - (1 : Int)))).2)) (Int.toNat (IntKind.wrap .i64 (d86 - (1 : Int)))) ((), (gd z85 d86).2)) [0] (by exact ⟨rfl, rfl, rfl, trivial⟩) rfl rfl
              ·
                refine JC.regionU [] (fun _ => false) 18 rfl (by kernel_rfl) (by kernel_rfl) (fun hsel => ?_)
                refine JU.take (i := 0) (v := s1.v) hsel rfl (by kernel_rfl) (QV.move rfl) rfl rfl rfl rfl [] rfl rfl ?_
                refine JU.take (i := 1) (v := .int .i64 d86) hsel rfl (by kernel_rfl) (QV.move rfl) rfl rfl rfl rfl [] rfl rfl ?_
                refine JU.take (i := 2) (v := s1.v) hsel rfl (by kernel_rfl) (QV.move rfl) rfl rfl rfl rfl [] rfl rfl ?_
                refine JU.take (i := 3) (v := .int .i64 d86) hsel rfl (by kernel_rfl) (QV.move rfl) rfl rfl rfl rfl [] rfl rfl ?_
                refine JU.take (i := 4) (v := .int .i64 (IntKind.wrap .i64 (d86 - (1 : Int)))) hsel rfl (by kernel_rfl) (QV.sub rfl rfl) rfl rfl rfl rfl [] rfl rfl ?_
                refine JU.take (i := 5) (v := s1.v) hsel rfl (by kernel_rfl) (QV.move rfl) rfl rfl rfl rfl [] rfl rfl ?_
                refine JU.take (i := 6) (v := .int .i64 d86) hsel rfl (by kernel_rfl) (QV.move rfl) rfl rfl rfl rfl [] rfl rfl ?_
                refine JU.take (i := 7) (v := .int .i64 (IntKind.wrap .i64 (d86 - (1 : Int)))) hsel rfl (by kernel_rfl) (QV.sub rfl rfl) rfl rfl rfl rfl [] rfl rfl ?_
                refine JU.take (i := 10) (v := s1.v) hsel rfl (by kernel_rfl) (QV.move rfl) rfl rfl rfl rfl [] rfl rfl ?_
                refine JU.take (i := 11) (v := .int .i64 d86) hsel rfl (by kernel_rfl) (QV.move rfl) rfl rfl rfl rfl [] rfl rfl ?_
                refine JU.any [8, 12] (by kernel_rfl) rfl ?_
                refine ⟨?_, ?_, trivial⟩
                ·
                  refine JUo.mv (d := some 121) rfl (MV.ofQV (v := .pointer (some (elA (s1.v) (Int.toNat (IntKind.wrap .i64 (d86 - (1 : Int))) * ((NE.pair (NE.flat (Enc.int .u64)) (NE.sl (Enc.int .i64))).E).sz)))) (QV.indexN (RdN.onv 0 rfl) Try.underlying89 tk_91 rfl rfl h95)) rfl rfl rfl ?_
                  rintro _ _ ⟨rfl, rfl⟩
                  refine ⟨fun _ => ⟨[], rfl, rfl⟩, ?_⟩
                  refine JU.any [9, 12] (by kernel_rfl) rfl ?_
                  refine ⟨?_, ?_, trivial⟩
                  ·
                    refine JUo.mv (d := some 122) rfl (MV.ofQV (v := .agg #[.int .u64 (gd d84 (IntKind.wrap .i64 (d86 - (1 : Int)))).1, (gd z85 (IntKind.wrap .i64 (d86 - (1 : Int)))).2.v]) (QV.eq (QV.elNN (RdN.onv 0 rfl) tk_91 rfl h95) rfl)) rfl rfl rfl ?_
                    rintro _ _ ⟨rfl, rfl⟩
                    refine ⟨fun _ => ⟨[], rfl, rfl⟩, ?_⟩
                    refine JU.any [12] (by kernel_rfl) rfl ?_
                    refine ⟨?_, trivial⟩
                    refine JUo.mv (d := some 125) rfl (MV.ofQV (v := .pointer (some (elA (s1.v) (Int.toNat d86 * ((NE.pair (NE.flat (Enc.int .u64)) (NE.sl (Enc.int .i64))).E).sz)))) (QV.indexN (RdN.onv 0 rfl) Try.underlying89 tk_91 rfl rfl h96)) rfl rfl rfl ?_
                    rintro _ _ ⟨rfl, rfl⟩
                    refine ⟨fun _ => ⟨[], rfl, rfl⟩, ?_⟩
                    refine JU.any [13] (by kernel_rfl) rfl ?_
                    refine ⟨?_, trivial⟩
                    refine JUo.mv (d := some 126) rfl (MV.ofQV (v := .agg #[.int .u64 (gd d84 d86).1, (gd z85 d86).2.v]) (QV.eq (QV.elNN (RdN.onv 0 rfl) tk_91 rfl h96) rfl)) rfl rfl rfl ?_
                    rintro _ _ ⟨rfl, rfl⟩
                    refine ⟨fun _ => ⟨[], rfl, rfl⟩, ?_⟩
                    refine JU.any [14] (by kernel_rfl) rfl ?_
                    refine ⟨?_, trivial⟩
                    refine JUo.mv (d := some 127) rfl (MV.ofQV (v := .pointer (some (elA (s1.v) (Int.toNat d86 * ((NE.pair (NE.flat (Enc.int .u64)) (NE.sl (Enc.int .i64))).E).sz)))) (QV.indexN (RdN.onv 0 rfl) Try.underlying89 tk_91 rfl rfl h96)) rfl rfl rfl ?_
                    rintro _ _ ⟨rfl, rfl⟩
                    refine ⟨fun _ => ⟨[], rfl, rfl⟩, ?_⟩
                    refine JU.any [15] (by kernel_rfl) rfl ?_
                    refine ⟨?_, trivial⟩
                    refine JUo.ent (fun _ hs => hs.derive (Drv.elV (K := (NE.pair (NE.flat (Enc.int .u64)) (NE.sl (Enc.int .i64)))) (A := Asr.vw (Enc.int .i64) ((gd z85 (IntKind.wrap .i64 (d86 - (1 : Int)))).2.v) (gd d84 (IntKind.wrap .i64 (d86 - (1 : Int)))).2) 0 rfl h95 (fun _ _ q => q.2))) ?_
                    refine JUo.ent (fun _ hs => hs.derive (Drv.elV (K := (NE.pair (NE.flat (Enc.int .u64)) (NE.sl (Enc.int .i64)))) (A := Asr.vw (Enc.int .i64) ((gd z85 d86).2.v) (gd d84 d86).2) 1 rfl h96 (fun _ _ q => q.2))) ?_
                    refine JUo.mv (d := none) rfl (MV.storeElV 2 ((), (gd z85 (IntKind.wrap .i64 (d86 - (1 : Int)))).2) ((gd d84 (IntKind.wrap .i64 (d86 - (1 : Int)))).1, (gd d84 (IntKind.wrap .i64 (d86 - (1 : Int)))).2) rfl tk_91 rfl rfl h96 rfl (fun w F G hst => ⟨trivial, (ok_vw (Drv.vw 1 rfl) w F G hst)⟩)) rfl rfl rfl ?_
                    rintro _ _ ⟨rfl, rfl⟩
                    refine ⟨fun _ => ⟨[], rfl, rfl⟩, ?_⟩
                    refine JU.any [16] (by kernel_rfl) rfl ?_
                    refine ⟨?_, trivial⟩
                    refine JUo.mv (d := some 128) rfl (MV.ofQV (v := .pointer (some (elA (s1.v) (Int.toNat (IntKind.wrap .i64 (d86 - (1 : Int))) * ((NE.pair (NE.flat (Enc.int .u64)) (NE.sl (Enc.int .i64))).E).sz)))) (QV.indexN (RdN.onv 2 rfl) Try.underlying89 tk_91 rfl rfl h97)) rfl rfl rfl ?_
                    rintro _ _ ⟨rfl, rfl⟩
                    refine ⟨fun _ => ⟨[], rfl, rfl⟩, ?_⟩
                    refine JU.any [17] (by kernel_rfl) rfl ?_
                    refine ⟨?_, trivial⟩
                    refine JUo.mv (d := none) rfl (MV.storeElV 2 ((), (gd z85 d86).2) ((gd d84 d86).1, (gd d84 d86).2) rfl tk_91 rfl rfl h97 rfl (fun w F G hst => ⟨trivial, (ok_vw (Drv.vw 0 rfl) w F G hst)⟩)) rfl rfl rfl ?_
                    rintro _ _ ⟨rfl, rfl⟩
                    refine ⟨fun _ => ⟨[], rfl, rfl⟩, ?_⟩
                    refine JU.nil (by kernel_rfl) ?_
                    exact QJ.cut_normal ((), ()) hm [2] (by exact ⟨rfl, rfl, rfl, trivial⟩) rfl rfl
                  ·
                    refine JUo.mv (d := some 125) rfl (MV.ofQV (v := .pointer (some (elA (s1.v) (Int.toNat d86 * ((NE.pair (NE.flat (Enc.int .u64)) (NE.sl (Enc.int .i64))).E).sz)))) (QV.indexN (RdN.onv 0 rfl) Try.underlying89 tk_91 rfl rfl h96)) rfl rfl rfl ?_
                    rintro _ _ ⟨rfl, rfl⟩
                    refine ⟨fun _ => ⟨[], rfl, rfl⟩, ?_⟩
                    refine JU.any [9, 13] (by kernel_rfl) rfl ?_
                    refine ⟨?_, ?_, trivial⟩
                    ·
                      refine JUo.mv (d := some 122) rfl (MV.ofQV (v := .agg #[.int .u64 (gd d84 (IntKind.wrap .i64 (d86 - (1 : Int)))).1, (gd z85 (IntKind.wrap .i64 (d86 - (1 : Int)))).2.v]) (QV.eq (QV.elNN (RdN.onv 0 rfl) tk_91 rfl h95) rfl)) rfl rfl rfl ?_
                      rintro _ _ ⟨rfl, rfl⟩
                      refine ⟨fun _ => ⟨[], rfl, rfl⟩, ?_⟩
                      refine JU.any [13] (by kernel_rfl) rfl ?_
                      refine ⟨?_, trivial⟩
                      refine JUo.mv (d := some 126) rfl (MV.ofQV (v := .agg #[.int .u64 (gd d84 d86).1, (gd z85 d86).2.v]) (QV.eq (QV.elNN (RdN.onv 0 rfl) tk_91 rfl h96) rfl)) rfl rfl rfl ?_
                      rintro _ _ ⟨rfl, rfl⟩
                      refine ⟨fun _ => ⟨[], rfl, rfl⟩, ?_⟩
                      refine JU.any [14] (by kernel_rfl) rfl ?_
                      refine ⟨?_, trivial⟩
                      refine JUo.mv (d := some 127) rfl (MV.ofQV (v := .pointer (some (elA (s1.v) (Int.toNat d86 * ((NE.pair (NE.flat (Enc.int .u64)) (NE.sl (Enc.int .i64))).E).sz)))) (QV.indexN (RdN.onv 0 rfl) Try.underlying89 tk_91 rfl rfl h96)) rfl rfl rfl ?_
                      rintro _ _ ⟨rfl, rfl⟩
                      refine ⟨fun _ => ⟨[], rfl, rfl⟩, ?_⟩
                      refine JU.any [15] (by kernel_rfl) rfl ?_
                      refine ⟨?_, trivial⟩
                      refine JUo.ent (fun _ hs => hs.derive (Drv.elV (K := (NE.pair (NE.flat (Enc.int .u64)) (NE.sl (Enc.int .i64)))) (A := Asr.vw (Enc.int .i64) ((gd z85 (IntKind.wrap .i64 (d86 - (1 : Int)))).2.v) (gd d84 (IntKind.wrap .i64 (d86 - (1 : Int)))).2) 0 rfl h95 (fun _ _ q => q.2))) ?_
                      refine JUo.ent (fun _ hs => hs.derive (Drv.elV (K := (NE.pair (NE.flat (Enc.int .u64)) (NE.sl (Enc.int .i64)))) (A := Asr.vw (Enc.int .i64) ((gd z85 d86).2.v) (gd d84 d86).2) 1 rfl h96 (fun _ _ q => q.2))) ?_
                      refine JUo.mv (d := none) rfl (MV.storeElV 2 ((), (gd z85 (IntKind.wrap .i64 (d86 - (1 : Int)))).2) ((gd d84 (IntKind.wrap .i64 (d86 - (1 : Int)))).1, (gd d84 (IntKind.wrap .i64 (d86 - (1 : Int)))).2) rfl tk_91 rfl rfl h96 rfl (fun w F G hst => ⟨trivial, (ok_vw (Drv.vw 1 rfl) w F G hst)⟩)) rfl rfl rfl ?_
                      rintro _ _ ⟨rfl, rfl⟩
                      refine ⟨fun _ => ⟨[], rfl, rfl⟩, ?_⟩
                      refine JU.any [16] (by kernel_rfl) rfl ?_
                      refine ⟨?_, trivial⟩
                      refine JUo.mv (d := some 128) rfl (MV.ofQV (v := .pointer (some (elA (s1.v) (Int.toNat (IntKind.wrap .i64 (d86 - (1 : Int))) * ((NE.pair (NE.flat (Enc.int .u64)) (NE.sl (Enc.int .i64))).E).sz)))) (QV.indexN (RdN.onv 2 rfl) Try.underlying89 tk_91 rfl rfl h97)) rfl rfl rfl ?_
                      rintro _ _ ⟨rfl, rfl⟩
                      refine ⟨fun _ => ⟨[], rfl, rfl⟩, ?_⟩
                      refine JU.any [17] (by kernel_rfl) rfl ?_
                      refine ⟨?_, trivial⟩
                      refine JUo.mv (d := none) rfl (MV.storeElV 2 ((), (gd z85 d86).2) ((gd d84 d86).1, (gd d84 d86).2) rfl tk_91 rfl rfl h97 rfl (fun w F G hst => ⟨trivial, (ok_vw (Drv.vw 0 rfl) w F G hst)⟩)) rfl rfl rfl ?_
                      rintro _ _ ⟨rfl, rfl⟩
                      refine ⟨fun _ => ⟨[], rfl, rfl⟩, ?_⟩
                      refine JU.nil (by kernel_rfl) ?_
                      exact QJ.cut_normal ((), ()) hm [2] (by exact ⟨rfl, rfl, rfl, trivial⟩) rfl rfl
                    ·
                      refine JUo.mv (d := some 126) rfl (MV.ofQV (v := .agg #[.int .u64 (gd d84 d86).1, (gd z85 d86).2.v]) (QV.eq (QV.elNN (RdN.onv 0 rfl) tk_91 rfl h96) rfl)) rfl rfl rfl ?_
                      rintro _ _ ⟨rfl, rfl⟩
                      refine ⟨fun _ => ⟨[], rfl, rfl⟩, ?_⟩
                      refine JU.any [9] (by kernel_rfl) rfl ?_
                      refine ⟨?_, trivial⟩
                      refine JUo.mv (d := some 122) rfl (MV.ofQV (v := .agg #[.int .u64 (gd d84 (IntKind.wrap .i64 (d86 - (1 : Int)))).1, (gd z85 (IntKind.wrap .i64 (d86 - (1 : Int)))).2.v]) (QV.eq (QV.elNN (RdN.onv 0 rfl) tk_91 rfl h95) rfl)) rfl rfl rfl ?_
                      rintro _ _ ⟨rfl, rfl⟩
                      refine ⟨fun _ => ⟨[], rfl, rfl⟩, ?_⟩
                      refine JU.any [14] (by kernel_rfl) rfl ?_
                      refine ⟨?_, trivial⟩
                      refine JUo.mv (d := some 127) rfl (MV.ofQV (v := .pointer (some (elA (s1.v) (Int.toNat d86 * ((NE.pair (NE.flat (Enc.int .u64)) (NE.sl (Enc.int .i64))).E).sz)))) (QV.indexN (RdN.onv 0 rfl) Try.underlying89 tk_91 rfl rfl h96)) rfl rfl rfl ?_
                      rintro _ _ ⟨rfl, rfl⟩
                      refine ⟨fun _ => ⟨[], rfl, rfl⟩, ?_⟩
                      refine JU.any [15] (by kernel_rfl) rfl ?_
                      refine ⟨?_, trivial⟩
                      refine JUo.ent (fun _ hs => hs.derive (Drv.elV (K := (NE.pair (NE.flat (Enc.int .u64)) (NE.sl (Enc.int .i64)))) (A := Asr.vw (Enc.int .i64) ((gd z85 d86).2.v) (gd d84 d86).2) 0 rfl h96 (fun _ _ q => q.2))) ?_
                      refine JUo.ent (fun _ hs => hs.derive (Drv.elV (K := (NE.pair (NE.flat (Enc.int .u64)) (NE.sl (Enc.int .i64)))) (A := Asr.vw (Enc.int .i64) ((gd z85 (IntKind.wrap .i64 (d86 - (1 : Int)))).2.v) (gd d84 (IntKind.wrap .i64 (d86 - (1 : Int)))).2) 1 rfl h95 (fun _ _ q => q.2))) ?_
                      refine JUo.mv (d := none) rfl (MV.storeElV 2 ((), (gd z85 (IntKind.wrap .i64 (d86 - (1 : Int)))).2) ((gd d84 (IntKind.wrap .i64 (d86 - (1 : Int)))).1, (gd d84 (IntKind.wrap .i64 (d86 - (1 : Int)))).2) rfl tk_91 rfl rfl h96 rfl (fun w F G hst => ⟨trivial, (ok_vw (Drv.vw 0 rfl) w F G hst)⟩)) rfl rfl rfl ?_
                      rintro _ _ ⟨rfl, rfl⟩
                      refine ⟨fun _ => ⟨[], rfl, rfl⟩, ?_⟩
                      refine JU.any [16] (by kernel_rfl) rfl ?_
                      refine ⟨?_, trivial⟩
                      refine JUo.mv (d := some 128) rfl (MV.ofQV (v := .pointer (some (elA (s1.v) (Int.toNat (IntKind.wrap .i64 (d86 - (1 : Int))) * ((NE.pair (NE.flat (Enc.int .u64)) (NE.sl (Enc.int .i64))).E).sz)))) (QV.indexN (RdN.onv 2 rfl) Try.underlying89 tk_91 rfl rfl h97)) rfl rfl rfl ?_
                      rintro _ _ ⟨rfl, rfl⟩
                      refine ⟨fun _ => ⟨[], rfl, rfl⟩, ?_⟩
                      refine JU.any [17] (by kernel_rfl) rfl ?_
                      refine ⟨?_, trivial⟩
                      refine JUo.mv (d := none) rfl (MV.storeElV 2 ((), (gd z85 d86).2) ((gd d84 d86).1, (gd d84 d86).2) rfl tk_91 rfl rfl h97 rfl (fun w F G hst => ⟨trivial, (ok_vw (Drv.vw 1 rfl) w F G hst)⟩)) rfl rfl rfl ?_
                      rintro _ _ ⟨rfl, rfl⟩
                      refine ⟨fun _ => ⟨[], rfl, rfl⟩, ?_⟩
                      refine JU.nil (by kernel_rfl) ?_
                      exact QJ.cut_normal ((), ()) hm [2] (by exact ⟨rfl, rfl, rfl, trivial⟩) rfl rfl
                ·
                  refine JUo.mv (d := some 125) rfl (MV.ofQV (v := .pointer (some (elA (s1.v) (Int.toNat d86 * ((NE.pair (NE.flat (Enc.int .u64)) (NE.sl (Enc.int .i64))).E).sz)))) (QV.indexN (RdN.onv 0 rfl) Try.underlying89 tk_91 rfl rfl h96)) rfl rfl rfl ?_
                  rintro _ _ ⟨rfl, rfl⟩
                  refine ⟨fun _ => ⟨[], rfl, rfl⟩, ?_⟩
                  refine JU.any [8, 13] (by kernel_rfl) rfl ?_
                  refine ⟨?_, ?_, trivial⟩
                  ·
                    refine JUo.mv (d := some 121) rfl (MV.ofQV (v := .pointer (some (elA (s1.v) (Int.toNat (IntKind.wrap .i64 (d86 - (1 : Int))) * ((NE.pair (NE.flat (Enc.int .u64)) (NE.sl (Enc.int .i64))).E).sz)))) (QV.indexN (RdN.onv 0 rfl) Try.underlying89 tk_91 rfl rfl h95)) rfl rfl rfl ?_
                    rintro _ _ ⟨rfl, rfl⟩
                    refine ⟨fun _ => ⟨[], rfl, rfl⟩, ?_⟩
                    refine JU.any [9, 13] (by kernel_rfl) rfl ?_
                    refine ⟨?_, ?_, trivial⟩
                    ·
                      refine JUo.mv (d := some 122) rfl (MV.ofQV (v := .agg #[.int .u64 (gd d84 (IntKind.wrap .i64 (d86 - (1 : Int)))).1, (gd z85 (IntKind.wrap .i64 (d86 - (1 : Int)))).2.v]) (QV.eq (QV.elNN (RdN.onv 0 rfl) tk_91 rfl h95) rfl)) rfl rfl rfl ?_
                      rintro _ _ ⟨rfl, rfl⟩
                      refine ⟨fun _ => ⟨[], rfl, rfl⟩, ?_⟩
                      refine JU.any [13] (by kernel_rfl) rfl ?_
                      refine ⟨?_, trivial⟩
                      refine JUo.mv (d := some 126) rfl (MV.ofQV (v := .agg #[.int .u64 (gd d84 d86).1, (gd z85 d86).2.v]) (QV.eq (QV.elNN (RdN.onv 0 rfl) tk_91 rfl h96) rfl)) rfl rfl rfl ?_
                      rintro _ _ ⟨rfl, rfl⟩
                      refine ⟨fun _ => ⟨[], rfl, rfl⟩, ?_⟩
                      refine JU.any [14] (by kernel_rfl) rfl ?_
                      refine ⟨?_, trivial⟩
                      refine JUo.mv (d := some 127) rfl (MV.ofQV (v := .pointer (some (elA (s1.v) (Int.toNat d86 * ((NE.pair (NE.flat (Enc.int .u64)) (NE.sl (Enc.int .i64))).E).sz)))) (QV.indexN (RdN.onv 0 rfl) Try.underlying89 tk_91 rfl rfl h96)) rfl rfl rfl ?_
                      rintro _ _ ⟨rfl, rfl⟩
                      refine ⟨fun _ => ⟨[], rfl, rfl⟩, ?_⟩
                      refine JU.any [15] (by kernel_rfl) rfl ?_
                      refine ⟨?_, trivial⟩
                      refine JUo.ent (fun _ hs => hs.derive (Drv.elV (K := (NE.pair (NE.flat (Enc.int .u64)) (NE.sl (Enc.int .i64)))) (A := Asr.vw (Enc.int .i64) ((gd z85 (IntKind.wrap .i64 (d86 - (1 : Int)))).2.v) (gd d84 (IntKind.wrap .i64 (d86 - (1 : Int)))).2) 0 rfl h95 (fun _ _ q => q.2))) ?_
                      refine JUo.ent (fun _ hs => hs.derive (Drv.elV (K := (NE.pair (NE.flat (Enc.int .u64)) (NE.sl (Enc.int .i64)))) (A := Asr.vw (Enc.int .i64) ((gd z85 d86).2.v) (gd d84 d86).2) 1 rfl h96 (fun _ _ q => q.2))) ?_
                      refine JUo.mv (d := none) rfl (MV.storeElV 2 ((), (gd z85 (IntKind.wrap .i64 (d86 - (1 : Int)))).2) ((gd d84 (IntKind.wrap .i64 (d86 - (1 : Int)))).1, (gd d84 (IntKind.wrap .i64 (d86 - (1 : Int)))).2) rfl tk_91 rfl rfl h96 rfl (fun w F G hst => ⟨trivial, (ok_vw (Drv.vw 1 rfl) w F G hst)⟩)) rfl rfl rfl ?_
                      rintro _ _ ⟨rfl, rfl⟩
                      refine ⟨fun _ => ⟨[], rfl, rfl⟩, ?_⟩
                      refine JU.any [16] (by kernel_rfl) rfl ?_
                      refine ⟨?_, trivial⟩
                      refine JUo.mv (d := some 128) rfl (MV.ofQV (v := .pointer (some (elA (s1.v) (Int.toNat (IntKind.wrap .i64 (d86 - (1 : Int))) * ((NE.pair (NE.flat (Enc.int .u64)) (NE.sl (Enc.int .i64))).E).sz)))) (QV.indexN (RdN.onv 2 rfl) Try.underlying89 tk_91 rfl rfl h97)) rfl rfl rfl ?_
                      rintro _ _ ⟨rfl, rfl⟩
                      refine ⟨fun _ => ⟨[], rfl, rfl⟩, ?_⟩
                      refine JU.any [17] (by kernel_rfl) rfl ?_
                      refine ⟨?_, trivial⟩
                      refine JUo.mv (d := none) rfl (MV.storeElV 2 ((), (gd z85 d86).2) ((gd d84 d86).1, (gd d84 d86).2) rfl tk_91 rfl rfl h97 rfl (fun w F G hst => ⟨trivial, (ok_vw (Drv.vw 0 rfl) w F G hst)⟩)) rfl rfl rfl ?_
                      rintro _ _ ⟨rfl, rfl⟩
                      refine ⟨fun _ => ⟨[], rfl, rfl⟩, ?_⟩
                      refine JU.nil (by kernel_rfl) ?_
                      exact QJ.cut_normal ((), ()) hm [2] (by exact ⟨rfl, rfl, rfl, trivial⟩) rfl rfl
                    ·
                      refine JUo.mv (d := some 126) rfl (MV.ofQV (v := .agg #[.int .u64 (gd d84 d86).1, (gd z85 d86).2.v]) (QV.eq (QV.elNN (RdN.onv 0 rfl) tk_91 rfl h96) rfl)) rfl rfl rfl ?_
                      rintro _ _ ⟨rfl, rfl⟩
                      refine ⟨fun _ => ⟨[], rfl, rfl⟩, ?_⟩
                      refine JU.any [9] (by kernel_rfl) rfl ?_
                      refine ⟨?_, trivial⟩
                      refine JUo.mv (d := some 122) rfl (MV.ofQV (v := .agg #[.int .u64 (gd d84 (IntKind.wrap .i64 (d86 - (1 : Int)))).1, (gd z85 (IntKind.wrap .i64 (d86 - (1 : Int)))).2.v]) (QV.eq (QV.elNN (RdN.onv 0 rfl) tk_91 rfl h95) rfl)) rfl rfl rfl ?_
                      rintro _ _ ⟨rfl, rfl⟩
                      refine ⟨fun _ => ⟨[], rfl, rfl⟩, ?_⟩
                      refine JU.any [14] (by kernel_rfl) rfl ?_
                      refine ⟨?_, trivial⟩
                      refine JUo.mv (d := some 127) rfl (MV.ofQV (v := .pointer (some (elA (s1.v) (Int.toNat d86 * ((NE.pair (NE.flat (Enc.int .u64)) (NE.sl (Enc.int .i64))).E).sz)))) (QV.indexN (RdN.onv 0 rfl) Try.underlying89 tk_91 rfl rfl h96)) rfl rfl rfl ?_
                      rintro _ _ ⟨rfl, rfl⟩
                      refine ⟨fun _ => ⟨[], rfl, rfl⟩, ?_⟩
                      refine JU.any [15] (by kernel_rfl) rfl ?_
                      refine ⟨?_, trivial⟩
                      refine JUo.ent (fun _ hs => hs.derive (Drv.elV (K := (NE.pair (NE.flat (Enc.int .u64)) (NE.sl (Enc.int .i64)))) (A := Asr.vw (Enc.int .i64) ((gd z85 d86).2.v) (gd d84 d86).2) 0 rfl h96 (fun _ _ q => q.2))) ?_
                      refine JUo.ent (fun _ hs => hs.derive (Drv.elV (K := (NE.pair (NE.flat (Enc.int .u64)) (NE.sl (Enc.int .i64)))) (A := Asr.vw (Enc.int .i64) ((gd z85 (IntKind.wrap .i64 (d86 - (1 : Int)))).2.v) (gd d84 (IntKind.wrap .i64 (d86 - (1 : Int)))).2) 1 rfl h95 (fun _ _ q => q.2))) ?_
                      refine JUo.mv (d := none) rfl (MV.storeElV 2 ((), (gd z85 (IntKind.wrap .i64 (d86 - (1 : Int)))).2) ((gd d84 (IntKind.wrap .i64 (d86 - (1 : Int)))).1, (gd d84 (IntKind.wrap .i64 (d86 - (1 : Int)))).2) rfl tk_91 rfl rfl h96 rfl (fun w F G hst => ⟨trivial, (ok_vw (Drv.vw 0 rfl) w F G hst)⟩)) rfl rfl rfl ?_
                      rintro _ _ ⟨rfl, rfl⟩
                      refine ⟨fun _ => ⟨[], rfl, rfl⟩, ?_⟩
                      refine JU.any [16] (by kernel_rfl) rfl ?_
                      refine ⟨?_, trivial⟩
                      refine JUo.mv (d := some 128) rfl (MV.ofQV (v := .pointer (some (elA (s1.v) (Int.toNat (IntKind.wrap .i64 (d86 - (1 : Int))) * ((NE.pair (NE.flat (Enc.int .u64)) (NE.sl (Enc.int .i64))).E).sz)))) (QV.indexN (RdN.onv 2 rfl) Try.underlying89 tk_91 rfl rfl h97)) rfl rfl rfl ?_
                      rintro _ _ ⟨rfl, rfl⟩
                      refine ⟨fun _ => ⟨[], rfl, rfl⟩, ?_⟩
                      refine JU.any [17] (by kernel_rfl) rfl ?_
                      refine ⟨?_, trivial⟩
                      refine JUo.mv (d := none) rfl (MV.storeElV 2 ((), (gd z85 d86).2) ((gd d84 d86).1, (gd d84 d86).2) rfl tk_91 rfl rfl h97 rfl (fun w F G hst => ⟨trivial, (ok_vw (Drv.vw 1 rfl) w F G hst)⟩)) rfl rfl rfl ?_
                      rintro _ _ ⟨rfl, rfl⟩
                      refine ⟨fun _ => ⟨[], rfl, rfl⟩, ?_⟩
                      refine JU.nil (by kernel_rfl) ?_
                      exact QJ.cut_normal ((), ()) hm [2] (by exact ⟨rfl, rfl, rfl, trivial⟩) rfl rfl
                  ·
                    refine JUo.mv (d := some 126) rfl (MV.ofQV (v := .agg #[.int .u64 (gd d84 d86).1, (gd z85 d86).2.v]) (QV.eq (QV.elNN (RdN.onv 0 rfl) tk_91 rfl h96) rfl)) rfl rfl rfl ?_
                    rintro _ _ ⟨rfl, rfl⟩
                    refine ⟨fun _ => ⟨[], rfl, rfl⟩, ?_⟩
                    refine JU.any [8] (by kernel_rfl) rfl ?_
                    refine ⟨?_, trivial⟩
                    refine JUo.mv (d := some 121) rfl (MV.ofQV (v := .pointer (some (elA (s1.v) (Int.toNat (IntKind.wrap .i64 (d86 - (1 : Int))) * ((NE.pair (NE.flat (Enc.int .u64)) (NE.sl (Enc.int .i64))).E).sz)))) (QV.indexN (RdN.onv 0 rfl) Try.underlying89 tk_91 rfl rfl h95)) rfl rfl rfl ?_
                    rintro _ _ ⟨rfl, rfl⟩
                    refine ⟨fun _ => ⟨[], rfl, rfl⟩, ?_⟩
                    refine JU.any [9] (by kernel_rfl) rfl ?_
                    refine ⟨?_, trivial⟩
                    refine JUo.mv (d := some 122) rfl (MV.ofQV (v := .agg #[.int .u64 (gd d84 (IntKind.wrap .i64 (d86 - (1 : Int)))).1, (gd z85 (IntKind.wrap .i64 (d86 - (1 : Int)))).2.v]) (QV.eq (QV.elNN (RdN.onv 0 rfl) tk_91 rfl h95) rfl)) rfl rfl rfl ?_
                    rintro _ _ ⟨rfl, rfl⟩
                    refine ⟨fun _ => ⟨[], rfl, rfl⟩, ?_⟩
                    refine JU.any [14] (by kernel_rfl) rfl ?_
                    refine ⟨?_, trivial⟩
                    refine JUo.mv (d := some 127) rfl (MV.ofQV (v := .pointer (some (elA (s1.v) (Int.toNat d86 * ((NE.pair (NE.flat (Enc.int .u64)) (NE.sl (Enc.int .i64))).E).sz)))) (QV.indexN (RdN.onv 0 rfl) Try.underlying89 tk_91 rfl rfl h96)) rfl rfl rfl ?_
                    rintro _ _ ⟨rfl, rfl⟩
                    refine ⟨fun _ => ⟨[], rfl, rfl⟩, ?_⟩
                    refine JU.any [15] (by kernel_rfl) rfl ?_
                    refine ⟨?_, trivial⟩
                    refine JUo.ent (fun _ hs => hs.derive (Drv.elV (K := (NE.pair (NE.flat (Enc.int .u64)) (NE.sl (Enc.int .i64)))) (A := Asr.vw (Enc.int .i64) ((gd z85 d86).2.v) (gd d84 d86).2) 0 rfl h96 (fun _ _ q => q.2))) ?_
                    refine JUo.ent (fun _ hs => hs.derive (Drv.elV (K := (NE.pair (NE.flat (Enc.int .u64)) (NE.sl (Enc.int .i64)))) (A := Asr.vw (Enc.int .i64) ((gd z85 (IntKind.wrap .i64 (d86 - (1 : Int)))).2.v) (gd d84 (IntKind.wrap .i64 (d86 - (1 : Int)))).2) 1 rfl h95 (fun _ _ q => q.2))) ?_
                    refine JUo.mv (d := none) rfl (MV.storeElV 2 ((), (gd z85 (IntKind.wrap .i64 (d86 - (1 : Int)))).2) ((gd d84 (IntKind.wrap .i64 (d86 - (1 : Int)))).1, (gd d84 (IntKind.wrap .i64 (d86 - (1 : Int)))).2) rfl tk_91 rfl rfl h96 rfl (fun w F G hst => ⟨trivial, (ok_vw (Drv.vw 0 rfl) w F G hst)⟩)) rfl rfl rfl ?_
                    rintro _ _ ⟨rfl, rfl⟩
                    refine ⟨fun _ => ⟨[], rfl, rfl⟩, ?_⟩
                    refine JU.any [16] (by kernel_rfl) rfl ?_
                    refine ⟨?_, trivial⟩
                    refine JUo.mv (d := some 128) rfl (MV.ofQV (v := .pointer (some (elA (s1.v) (Int.toNat (IntKind.wrap .i64 (d86 - (1 : Int))) * ((NE.pair (NE.flat (Enc.int .u64)) (NE.sl (Enc.int .i64))).E).sz)))) (QV.indexN (RdN.onv 2 rfl) Try.underlying89 tk_91 rfl rfl h97)) rfl rfl rfl ?_
                    rintro _ _ ⟨rfl, rfl⟩
                    refine ⟨fun _ => ⟨[], rfl, rfl⟩, ?_⟩
                    refine JU.any [17] (by kernel_rfl) rfl ?_
                    refine ⟨?_, trivial⟩
                    refine JUo.mv (d := none) rfl (MV.storeElV 2 ((), (gd z85 d86).2) ((gd d84 d86).1, (gd d84 d86).2) rfl tk_91 rfl rfl h97 rfl (fun w F G hst => ⟨trivial, (ok_vw (Drv.vw 1 rfl) w F G hst)⟩)) rfl rfl rfl ?_
                    rintro _ _ ⟨rfl, rfl⟩
                    refine ⟨fun _ => ⟨[], rfl, rfl⟩, ?_⟩
                    refine JU.nil (by kernel_rfl) ?_
                    exact QJ.cut_normal ((), ()) hm [2] (by exact ⟨rfl, rfl, rfl, trivial⟩) rfl rfl
            ·
              refine JC.condF' rfl (decide_eq_false h94) ?_
              refine JC.exit ?_
              refine QJ.then_exit ?_
              obtain rfl := Option.some.inj hm
              refine QJ.round_exit (fun hy => ?_)
              subst hy
              refine QJ.block_hit ?_
              exact QJ.cut_normal (d84, z85) hmo92 [0] trivial rfl rfl
        ·
          refine JC.block ?_
          obtain ⟨y102, hl103, hmo104⟩ := bind_inv hm
          refine JC.loop (F80_1.b3 x2 x5) (fun x z => match x, z with | (d98, d99), _ => [(0, s1.v), (2, .int .i64 x5), (4, .func (.func 48) #[] #[]), (14, .int .i64 d98), (15, .int .i64 d99)]) (fun x z => match x, z with | (d98, d99), _ => [Asr.onv 91 (NE.pair (NE.flat (Enc.int .u64)) (NE.sl (Enc.int .i64))) (s1.v) z3 x2]) (x4, x5) () y102 hl103 [0] (by exact ⟨rfl, rfl, rfl, rfl, rfl, trivial⟩) rfl rfl ?_
          rintro ⟨d98, d99⟩ ⟨⟩ s105 hm
          unfold F80_1.b3 at hm
          dsimp only at hm
          show JC _ _ _ [(0, s1.v), (2, .int .i64 x5), (4, .func (.func 48) #[] #[]), (14, .int .i64 d98), (15, .int .i64 d99)] [Asr.onv 91 (NE.pair (NE.flat (Enc.int .u64)) (NE.sl (Enc.int .i64))) (s1.v) z3 x2] _ _
          refine JC.seq ?_
          refine JC.seq ?_
          refine JC.region ?_
          refine JL.val (v := .int .i64 d98) (QV.move rfl) rfl rfl rfl ?_
          refine JL.val (v := .int .i64 d99) (QV.move rfl) rfl rfl rfl ?_
          refine JL.val (v := .bool (decide (d98 < d99))) (QV.lss rfl rfl) rfl rfl rfl ?_
          refine JL.nil ?_
          refine QJ.then_normal ?_
          rcases ite_inv hm with ⟨h106, hm⟩ | ⟨h106, hm⟩
          ·
            refine JC.condT' rfl (decide_eq_true h106) ?_
            refine JC.skip ?_
            refine QJ.then_normal ?_
            refine JC.block ?_
            refine JC.seq ?_
            refine JC.region ?_
            refine JL.val (v := .int .i64 d98) (QV.move rfl) rfl rfl rfl ?_
            refine JL.val (v := .int .i64 d99) (QV.move rfl) rfl rfl rfl ?_
            refine JL.val (v := .int .i64 (IntKind.wrap .i64 (d98 + d99))) (QV.add rfl rfl) rfl rfl rfl ?_
            refine JL.val (v := .int .u64 (IntKind.wrap .u64 (IntKind.wrap .i64 (d98 + d99)))) (QV.conv rfl (by rw [Try.underlying3]; rfl) Try.underlying155) rfl rfl rfl ?_
            refine JL.val (v := .int .u64 (shrI .u64 (IntKind.wrap .u64 (IntKind.wrap .i64 (d98 + d99))) (1 : Int))) (QV.shr rfl rfl (by decide)) rfl rfl rfl ?_
            refine JL.val (v := .int .i64 (IntKind.wrap .i64 (shrI .u64 (IntKind.wrap .u64 (IntKind.wrap .i64 (d98 + d99))) (1 : Int)))) (QV.conv rfl (by rw [Try.underlying155]; rfl) Try.underlying3) rfl rfl rfl ?_
            refine JL.val (v := .int .i64 (IntKind.wrap .i64 (shrI .u64 (IntKind.wrap .u64 (IntKind.wrap .i64 (d98 + d99))) (1 : Int)))) (QV.assign rfl) rfl rfl rfl ?_
            refine JL.nil ?_
            refine QJ.then_normal ?_
            refine JC.seq ?_
            refine JC.regionT [Asr.onv 91 (NE.pair (NE.flat (Enc.int .u64)) (NE.sl (Enc.int .i64))) (s1.v) z3 x2] (fun t => false) [(0, true), (1, true), (2, true), (3, true), (4, true), (5, true), (6, false), (7, false), (8, false), (9, false), (10, false), (11, false)] (by kernel_rfl) (by kernel_rfl) (by kernel_rfl) rfl (fun hsel => ?_)
            refine JT.take (i := 0) (v := .func (.func 48) #[] #[]) hsel rfl (QV.move rfl) rfl rfl rfl rfl [0] rfl rfl ?_
            refine JT.take (i := 1) (v := s1.v) hsel rfl (QV.move rfl) rfl rfl rfl rfl [0] rfl rfl ?_
            refine JT.take (i := 2) (v := .int .i64 x5) hsel rfl (QV.move rfl) rfl rfl rfl rfl [0] rfl rfl ?_
            obtain ⟨h107, hm⟩ := guard_inv hm
            refine JT.take (i := 3) (v := .pointer (some (elA (s1.v) (Int.toNat x5 * ((NE.pair (NE.flat (Enc.int .u64)) (NE.sl (Enc.int .i64))).E).sz)))) hsel rfl (QV.indexN (RdN.onv 0 rfl) Try.underlying89 tk_91 rfl rfl h107) rfl rfl rfl rfl [0] rfl rfl ?_
            refine JT.take (i := 4) (v := .agg #[.int .u64 (gd x2 x5).1, (gd z3 x5).2.v]) hsel rfl (QV.eq (QV.elNN (RdN.onv 0 rfl) tk_91 rfl h107) rfl) rfl rfl rfl rfl [0] rfl rfl ?_
            refine JT.take (i := 5) (v := s1.v) hsel rfl (QV.move rfl) rfl rfl rfl rfl [0] rfl rfl ?_
            refine JT.only (i := 6) (d := some 98) rfl (MV.ofQV (v := .int .i64 (IntKind.wrap .i64 (shrI .u64 (IntKind.wrap .u64 (IntKind.wrap .i64 (d98 + d99))) (1 : Int)))) (QV.move rfl)) rfl rfl rfl ?_
            rintro _ _ ⟨rfl, rfl⟩
            refine ⟨fun _ => ⟨[0], rfl, rfl⟩, ?_⟩
            obtain ⟨h108, hm⟩ := guard_inv hm
            refine JT.only (i := 7) (d := some 99) rfl (MV.ofQV (v := .pointer (some (elA (s1.v) (Int.toNat (IntKind.wrap .i64 (shrI .u64 (IntKind.wrap .u64 (IntKind.wrap .i64 (d98 + d99))) (1 : Int))) * ((NE.pair (NE.flat (Enc.int .u64)) (NE.sl (Enc.int .i64))).E).sz)))) (QV.indexN (RdN.onv 0 rfl) Try.underlying89 tk_91 rfl rfl h108)) rfl rfl rfl ?_
            rintro _ _ ⟨rfl, rfl⟩
            refine ⟨fun _ => ⟨[0], rfl, rfl⟩, ?_⟩
            refine JT.only (i := 8) (d := some 100) rfl (MV.ofQV (v := .agg #[.int .u64 (gd x2 (IntKind.wrap .i64 (shrI .u64 (IntKind.wrap .u64 (IntKind.wrap .i64 (d98 + d99))) (1 : Int)))).1, (gd z3 (IntKind.wrap .i64 (shrI .u64 (IntKind.wrap .u64 (IntKind.wrap .i64 (d98 + d99))) (1 : Int)))).2.v]) (QV.eq (QV.elNN (RdN.onv 0 rfl) tk_91 rfl h108) rfl)) rfl rfl rfl ?_
            rintro _ _ ⟨rfl, rfl⟩
            refine ⟨fun _ => ⟨[0], rfl, rfl⟩, ?_⟩
            obtain ⟨y109, hc110, hm⟩ := bind_inv hm
            refine JT.only (i := 9) (d := some 101) rfl (MV.callV (vals := [.agg #[.int .u64 (gd x2 x5).1, (gd z3 x5).2.v], .agg #[.int .u64 (gd x2 (IntKind.wrap .i64 (shrI .u64 (IntKind.wrap .u64 (IntKind.wrap .i64 (d98 + d99))) (1 : Int)))).1, (gd z3 (IntKind.wrap .i64 (shrI .u64 (IntKind.wrap .u64 (IntKind.wrap .i64 (d98 + d99))) (1 : Int)))).2.v]]) (cs := []) (Lo := []) (Lr := [Asr.onv 91 (NE.pair (NE.flat (Enc.int .u64)) (NE.sl (Enc.int .i64))) (s1.v) z3 x2]) (F48.spec ((gd z3 x5).2) ((gd z3 (IntKind.wrap .i64 (shrI .u64 (IntKind.wrap .u64 (IntKind.wrap .i64 (d98 + d99))) (1 : Int)))).2) ((gd x2 x5).1) ((gd x2 x5).2) ((gd x2 (IntKind.wrap .i64 (shrI .u64 (IntKind.wrap .u64 (IntKind.wrap .i64 (d98 + d99))) (1 : Int)))).1) ((gd x2 (IntKind.wrap .i64 (shrI .u64 (IntKind.wrap .u64 (IntKind.wrap .i64 (d98 + d99))) (1 : Int)))).2) _ hc110) rfl rfl rfl Try.func48 rfl rfl rfl [] [0] rfl rfl rfl ⟨(Drv.elV (K := (NE.pair (NE.flat (Enc.int .u64)) (NE.sl (Enc.int .i64)))) (A := Asr.vw (Enc.int .i64) ((gd z3 x5).2.v) (gd x2 x5).2) 0 rfl h107 (fun _ _ q => q.2)), ⟨(Drv.elV (K := (NE.pair (NE.flat (Enc.int .u64)) (NE.sl (Enc.int .i64)))) (A := Asr.vw (Enc.int .i64) ((gd z3 (IntKind.wrap .i64 (shrI .u64 (IntKind.wrap .u64 (IntKind.wrap .i64 (d98 + d99))) (1 : Int)))).2.v) (gd x2 (IntKind.wrap .i64 (shrI .u64 (IntKind.wrap .u64 (IntKind.wrap .i64 (d98 + d99))) (1 : Int)))).2) 0 rfl h108 (fun _ _ q => q.2)), trivial⟩⟩) rfl rfl rfl ?_
            rintro _ _ ⟨_, ⟨rfl, rfl⟩, rfl⟩
            refine ⟨fun _ => ⟨[0], rfl, rfl⟩, ?_⟩
            refine JT.only (i := 10) (d := some 102) rfl (MV.ofQV (v := .bool (decide (y109 < (0 : Int)))) (QV.lss rfl rfl)) rfl rfl rfl ?_
            rintro _ _ ⟨rfl, rfl⟩
            refine ⟨fun _ => ⟨[0], rfl, rfl⟩, ?_⟩
            refine JT.only (i := 11) (d := some 103) rfl (MV.ofQV (v := .bool (!(decide (y109 < (0 : Int))))) (QV.not rfl)) rfl rfl rfl ?_
            rintro _ _ ⟨rfl, rfl⟩
            refine ⟨fun _ => ⟨[0], rfl, rfl⟩, ?_⟩
            refine JT.nil ?_
            refine QJ.then_normal ?_
            refine JC.cutK (Y := (Int × Int) × Unit) (fun y => match y with | ((d111, d112), _) => F80_1.j16 (d111) (d112) = some s105) (fun y => match y with | ((d111, d112), _) => [(0, s1.v), (2, .int .i64 x5), (4, .func (.func 48) #[] #[]), (14, .int .i64 d111), (15, .int .i64 d112)]) (fun y => match y with | ((d111, d112), _) => [Asr.onv 91 (NE.pair (NE.flat (Enc.int .u64)) (NE.sl (Enc.int .i64))) (s1.v) z3 x2]) ?_ ?_
            ·
              rintro ⟨⟨d111, d112⟩, ⟨⟩⟩ hm
              unfold F80_1.j16 at hm
              show QJ _ _ [(0, s1.v), (2, .int .i64 x5), (4, .func (.func 48) #[] #[]), (14, .int .i64 d111), (15, .int .i64 d112)] [Asr.onv 91 (NE.pair (NE.flat (Enc.int .u64)) (NE.sl (Enc.int .i64))) (s1.v) z3 x2] _ _
              refine QJ.block_normal ?_
              obtain rfl := Option.some.inj hm
              exact QJ.round_on (d111, d112) () [0] (by exact ⟨rfl, rfl, rfl, rfl, rfl, trivial⟩) rfl rfl
            ·
              rcases ite_inv hm with ⟨h113, hm⟩ | ⟨h113, hm⟩
              ·
                refine JC.condF' rfl (congrArg Bool.not (decide_eq_true h113)) ?_
                refine JC.region ?_
                refine JL.val (v := .int .i64 (IntKind.wrap .i64 (shrI .u64 (IntKind.wrap .u64 (IntKind.wrap .i64 (d98 + d99))) (1 : Int)))) (QV.move rfl) rfl rfl rfl ?_
                refine JL.val (v := .int .i64 (IntKind.wrap .i64 (shrI .u64 (IntKind.wrap .u64 (IntKind.wrap .i64 (d98 + d99))) (1 : Int)))) (QV.assign rfl) rfl rfl rfl ?_
                refine JL.nil ?_
                exact QJ.cut_normal ((d98, (IntKind.wrap .i64 (shrI .u64 (IntKind.wrap .u64 (IntKind.wrap .i64 (d98 + d99))) (1 : Int)))), ()) hm [0] (by exact ⟨rfl, rfl, rfl, rfl, rfl, trivial⟩) rfl rfl
              ·
                refine JC.condT' rfl (congrArg Bool.not (decide_eq_false h113)) ?_
                refine JC.region ?_
                refine JL.val (v := .int .i64 (IntKind.wrap .i64 (shrI .u64 (IntKind.wrap .u64 (IntKind.wrap .i64 (d98 + d99))) (1 : Int)))) (QV.move rfl) rfl rfl rfl ?_
                refine JL.val (v := .int .i64 (IntKind.wrap .i64 ((IntKind.wrap .i64 (shrI .u64 (IntKind.wrap .u64 (IntKind.wrap .i64 (d98 + d99))) (1 : Int))) + (1 : Int)))) (QV.add rfl rfl) rfl rfl rfl ?_
                refine JL.val (v := .int .i64 (IntKind.wrap .i64 ((IntKind.wrap .i64 (shrI .u64 (IntKind.wrap .u64 (IntKind.wrap .i64 (d98 + d99))) (1 : Int))) + (1 : Int)))) (QV.assign rfl) rfl rfl rfl ?_
                refine JL.nil ?_
                exact QJ.cut_normal (((IntKind.wrap .i64 ((IntKind.wrap .i64 (shrI .u64 (IntKind.wrap .u64 (IntKind.wrap .i64 (d98 + d99))) (1 : Int))) + (1 : Int))), d99), ()) hm [0] (by exact ⟨rfl, rfl, rfl, rfl, rfl, trivial⟩) rfl rfl
          ·
            refine JC.condF' rfl (decide_eq_false h106) ?_
            refine JC.exit ?_
            refine QJ.then_exit ?_
            obtain rfl := Option.some.inj hm
            refine QJ.round_exit (fun hy => ?_)
            subst hy
            refine QJ.block_hit ?_
            exact QJ.cut_normal (d98, ()) hmo104 [0] (by exact ⟨rfl, rfl, rfl, trivial⟩) rfl rfl
      ·
        refine JC.condF' rfl (decide_eq_false h80) ?_
        refine JC.skip ?_
        exact QJ.cut_normal ((), ()) hm [0] (by exact ⟨rfl, rfl, rfl, rfl, rfl, trivial⟩) rfl rfl
  ·
    rcases ite_inv hm with ⟨h114, hm⟩ | ⟨h114, hm⟩
    ·
      refine JC.condT' rfl (decide_eq_true h114) ?_
      refine JC.seq ?_
      refine JC.region ?_
      refine JL.val (v := .int .i64 x5) (QV.move rfl) rfl rfl rfl ?_
      refine JL.val (v := .int .i64 x5) (QV.assign rfl) rfl rfl rfl ?_
      refine JL.nil ?_
      refine QJ.then_normal ?_
      refine JC.seq ?_
      refine JC.region ?_
      refine JL.val (v := .int .i64 x6) (QV.move rfl) rfl rfl rfl ?_
      refine JL.val (v := .int .i64 x6) (QV.assign rfl) rfl rfl rfl ?_
      refine JL.nil ?_
      refine QJ.then_normal ?_
      refine JC.seq ?_
      refine JC.cutK (Y := Int × Unit) (fun y => match y with | (d115, _) => F80_1.j17 x2 x4 (d115) = some r) (fun y => match y with | (d115, _) => [(0, s1.v), (1, .int .i64 x4), (10, .int .i64 d115)]) (fun y => match y with | (d115, _) => [Asr.onv 91 (NE.pair (NE.flat (Enc.int .u64)) (NE.sl (Enc.int .i64))) (s1.v) z3 x2]) ?_ ?_
      ·
        rintro ⟨d115, ⟨⟩⟩ hm
        unfold F80_1.j17 at hm
        show QJ _ _ [(0, s1.v), (1, .int .i64 x4), (10, .int .i64 d115)] [Asr.onv 91 (NE.pair (NE.flat (Enc.int .u64)) (NE.sl (Enc.int .i64))) (s1.v) z3 x2] _ _
        refine QJ.then_normal ?_
        refine JC.seq ?_
        refine JC.seq ?_
        refine JC.region ?_
        refine JL.val (v := .int .i64 x4) (QV.move rfl) rfl rfl rfl ?_
        refine JL.val (v := .int .i64 x4) (QV.assign rfl) rfl rfl rfl ?_
        refine JL.nil ?_
        refine QJ.then_normal ?_
        refine JC.cutK (Y := (List (Int × (List Int))) × (List (Unit × SlV))) (fun y => match y with | (d116, _) => F80_1.j18 (d116) = some r) (fun y => match y with | (d116, z117) => []) (fun y => match y with | (d116, z117) => [Asr.onv 91 (NE.pair (NE.flat (Enc.int .u64)) (NE.sl (Enc.int .i64))) (s1.v) z117 d116]) ?_ ?_
        ·
          rintro ⟨d116, z117⟩ hm
          unfold F80_1.j18 at hm
          show QJ _ _ [] [Asr.onv 91 (NE.pair (NE.flat (Enc.int .u64)) (NE.sl (Enc.int .i64))) (s1.v) z117 d116] _ _
          refine QJ.then_normal ?_
          refine JC.ret ?_
          refine QJ.cut_ret ?_
          refine QJ.then_ret ?_
          obtain rfl := Option.some.inj hm
          exact QJ.body (vs := []) (.inl rfl) rfl ResVs.nil [0] rfl rfl (.inl rfl) ⟨z117, rfl, rfl⟩
        ·
          refine JC.block ?_
          obtain ⟨y124, hl125, hmo126⟩ := bind_inv hm
          refine JC.loop (F80_1.b4 d115) (fun x z => match x, z with | (d118, d120), z119 => [(0, s1.v), (10, .int .i64 d115), (13, .int .i64 d120)]) (fun x z => match x, z with | (d118, d120), z119 => [Asr.onv 91 (NE.pair (NE.flat (Enc.int .u64)) (NE.sl (Enc.int .i64))) (s1.v) z119 d118]) (x2, x4) z3 y124 hl125 [0] (by exact ⟨rfl, rfl, rfl, trivial⟩) rfl rfl ?_
          rintro ⟨d118, d120⟩ z119 s127 hm
          unfold F80_1.b4 at hm
          dsimp only at hm
          show JC _ _ _ [(0, s1.v), (10, .int .i64 d115), (13, .int .i64 d120)] [Asr.onv 91 (NE.pair (NE.flat (Enc.int .u64)) (NE.sl (Enc.int .i64))) (s1.v) z119 d118] _ _
          refine JC.seq ?_
          refine JC.seq ?_
          refine JC.region ?_
          refine JL.val (v := .int .i64 d120) (QV.move rfl) rfl rfl rfl ?_
          refine JL.val (v := .int .i64 d115) (QV.move rfl) rfl rfl rfl ?_
          refine JL.val (v := .int .i64 (IntKind.wrap .i64 (d115 - (1 : Int)))) (QV.sub rfl rfl) rfl rfl rfl ?_
          refine JL.val (v := .bool (decide (d120 < (IntKind.wrap .i64 (d115 - (1 : Int)))))) (QV.lss rfl rfl) rfl rfl rfl ?_
          refine JL.nil ?_
          refine QJ.then_normal ?_
          rcases ite_inv hm with ⟨h128, hm⟩ | ⟨h128, hm⟩
          ·
            refine JC.condT' rfl (decide_eq_true h128) ?_
            refine JC.skip ?_
            refine QJ.then_normal ?_
            refine JC.seq ?_
            refine JC.block ?_
            obtain ⟨h129, hm⟩ := guard_inv hm
            obtain ⟨h130, hm⟩ := guard_inv hm
            obtain ⟨h131, hm⟩ := guard_inv hm
            refine JC.cutK (Y := Unit × Unit) (fun y => match y with | (_, _) => F80_1.j19 d118 d120 = some s127) (fun y => match y with | (_, _) => [(0, s1.v), (10, .int .i64 d115), (13, .int .i64 d120)]) (fun y => match y with | (_, _) => [Asr.onv 91 (NE.pair (NE.flat (Enc.int .u64)) (NE.sl (Enc.int .i64))) (s1.v) (List.set (List.set z119 (Int.toNat d120) ((), (gd z119 (IntKind.wrap .i64 (d120 + (1 : Int)))).2)) (Int.toNat (IntKind.wrap .i64 (d120 + (1 : Int)))) ((), (gd z119 d120).2)) (List.set (List.set d118 (Int.toNat d120) ((gd d118 (IntKind.wrap .i64 (d120 + (1 : Int)))).1, (gd d118 (IntKind.wrap .i64 (d120 + (1 : Int)))).2)) (Int.toNat (IntKind.wrap .i64 (d120 + (1 : Int)))) ((gd d118 d120).1, (gd d118 d120).2))]) ?_ ?_
            ·
              rintro ⟨⟨⟩, ⟨⟩⟩ hm
              unfold F80_1.j19 at hm
              show QJ _ _ [(0, s1.v), (10, .int .i64 d115), (13, .int .i64 d120)] [Asr.onv 91 (NE.pair (NE.flat (Enc.int .u64)) (NE.sl (Enc.int .i64))) (s1.v) (List.set (List.set z119 (Int.toNat d120) ((), (gd z119 (IntKind.wrap .i64 (d120 + (1 : Int)))).2)) (Int.toNat (IntKind.wrap .i64 (d120 + (1 : Int)))) ((), (gd z119 d120).2)) (List.set (List.set d118 (Int.toNat d120) ((gd d118 (IntKind.wrap .i64 (d120 + (1 : Int)))).1, (gd d118 (IntKind.wrap .i64 (d120 + (1 : Int)))).2)) (Int.toNat (IntKind.wrap .i64 (d120 + (1 : Int)))) ((gd d118 d120).1, (gd d118 d120).2))] _ _
              refine QJ.block_normal ?_
              refine QJ.then_normal ?_
              refine JC.region ?_
              refine JL.val (v := .int .i64 d120) (QV.move rfl) rfl rfl rfl ?_
              refine JL.val (v := .int .i64 (IntKind.wrap .i64 (d120 + (1 : Int)))) (QV.add rfl rfl) rfl rfl rfl ?_
              refine JL.val (v := .int .i64 (IntKind.wrap .i64 (d120 + (1 : Int)))) (QV.assign rfl) rfl rfl rfl ?_
              refine JL.nil ?_
              obtain rfl := Option.some.inj hm
              exact QJ.round_on ((List.set (List.set d118 (Int.toNat d120) ((gd d118 (IntKind.wrap .i64 (d120 + (1 : Int)))).1, (gd d118 (IntKind.wrap .i64 (d120 + (1 : Int)))).2)) (Int.toNat (IntKind.wrap .i64 (d120 + (1 : Int)))) ((gd d118 d120).1, (gd d118 d120).2)), (IntKind.wrap .i64 (d120 + (1 : Int)))) (List.set (List.set z119 (Int.toNat d120) ((), (gd z119 (IntKind.wrap .i64 (d120 + (1 : Int)))).2)) (Int.toNat (IntKind.wrap .i64 (d120 + (1 : Int)))) ((), (gd z119 d120).2)) [0] (by exact ⟨rfl, rfl, rfl, trivial⟩) rfl rfl
            ·
              refine JC.regionU [] (fun _ => false) 18 rfl (by kernel_rfl) (by kernel_rfl) (fun hsel => ?_)
              refine JU.take (i := 0) (v := s1.v) hsel rfl (by kernel_rfl) (QV.move rfl) rfl rfl rfl rfl [] rfl rfl ?_
              refine JU.take (i := 1) (v := .int .i64 d120) hsel rfl (by kernel_rfl) (QV.move rfl) rfl rfl rfl rfl [] rfl rfl ?_
              refine JU.take (i := 2) (v := s1.v) hsel rfl (by kernel_rfl) (QV.move rfl) rfl rfl rfl rfl [] rfl rfl ?_
              refine JU.take (i := 3) (v := .int .i64 d120) hsel rfl (by kernel_rfl) (QV.move rfl) rfl rfl rfl rfl [] rfl rfl ?_
              refine JU.take (i := 4) (v := .int .i64 (IntKind.wrap .i64 (d120 + (1 : Int)))) hsel rfl (by kernel_rfl) (QV.add rfl rfl) rfl rfl rfl rfl [] rfl rfl ?_
              refine JU.take (i := 5) (v := s1.v) hsel rfl (by kernel_rfl) (QV.move rfl) rfl rfl rfl rfl [] rfl rfl ?_
              refine JU.take (i := 6) (v := .int .i64 d120) hsel rfl (by kernel_rfl) (QV.move rfl) rfl rfl rfl rfl [] rfl rfl ?_
              refine JU.take (i := 7) (v := .int .i64 (IntKind.wrap .i64 (d120 + (1 : Int)))) hsel rfl (by kernel_rfl) (QV.add rfl rfl) rfl rfl rfl rfl [] rfl rfl ?_
              refine JU.take (i := 10) (v := s1.v) hsel rfl (by kernel_rfl) (QV.move rfl) rfl rfl rfl rfl [] rfl rfl ?_
              refine JU.take (i := 11) (v := .int .i64 d120) hsel rfl (by kernel_rfl) (QV.move rfl) rfl rfl rfl rfl [] rfl rfl ?_
              refine JU.any [8, 12] (by kernel_rfl) rfl ?_
              refine ⟨?_, ?_, trivial⟩
              ·
                refine JUo.mv (d := some 69) rfl (MV.ofQV (v := .pointer (some (elA (s1.v) (Int.toNat (IntKind.wrap .i64 (d120 + (1 : Int))) * ((NE.pair (NE.flat (Enc.int .u64)) (NE.sl (Enc.int .i64))).E).sz)))) (QV.indexN (RdN.onv 0 rfl) Try.underlying89 tk_91 rfl rfl h129)) rfl rfl rfl ?_
                rintro _ _ ⟨rfl, rfl⟩
                refine ⟨fun _ => ⟨[], rfl, rfl⟩, ?_⟩
                refine JU.any [9, 12] (by kernel_rfl) rfl ?_
                refine ⟨?_, ?_, trivial⟩
                ·
                  refine JUo.mv (d := some 70) rfl (MV.ofQV (v := .agg #[.int .u64 (gd d118 (IntKind.wrap .i64 (d120 + (1 : Int)))).1, (gd z119 (IntKind.wrap .i64 (d120 + (1 : Int)))).2.v]) (QV.eq (QV.elNN (RdN.onv 0 rfl) tk_91 rfl h129) rfl)) rfl rfl rfl ?_
                  rintro _ _ ⟨rfl, rfl⟩
                  refine ⟨fun _ => ⟨[], rfl, rfl⟩, ?_⟩
                  refine JU.any [12] (by kernel_rfl) rfl ?_
                  refine ⟨?_, trivial⟩
                  refine JUo.mv (d := some 73) rfl (MV.ofQV (v := .pointer (some (elA (s1.v) (Int.toNat d120 * ((NE.pair (NE.flat (Enc.int .u64)) (NE.sl (Enc.int .i64))).E).sz)))) (QV.indexN (RdN.onv 0 rfl) Try.underlying89 tk_91 rfl rfl h130)) rfl rfl rfl ?_
                  rintro _ _ ⟨rfl, rfl⟩
                  refine ⟨fun _ => ⟨[], rfl, rfl⟩, ?_⟩
                  refine JU.any [13] (by kernel_rfl) rfl ?_
                  refine ⟨?_, trivial⟩
                  refine JUo.mv (d := some 74) rfl (MV.ofQV (v := .agg #[.int .u64 (gd d118 d120).1, (gd z119 d120).2.v]) (QV.eq (QV.elNN (RdN.onv 0 rfl) tk_91 rfl h130) rfl)) rfl rfl rfl ?_
                  rintro _ _ ⟨rfl, rfl⟩
                  refine ⟨fun _ => ⟨[], rfl, rfl⟩, ?_⟩
                  refine JU.any [14] (by kernel_rfl) rfl ?_
                  refine ⟨?_, trivial⟩
                  refine JUo.mv (d := some 75) rfl (MV.ofQV (v := .pointer (some (elA (s1.v) (Int.toNat d120 * ((NE.pair (NE.flat (Enc.int .u64)) (NE.sl (Enc.int .i64))).E).sz)))) (QV.indexN (RdN.onv 0 rfl) Try.underlying89 tk_91 rfl rfl h130)) rfl rfl rfl ?_
                  rintro _ _ ⟨rfl, rfl⟩
                  refine ⟨fun _ => ⟨[], rfl, rfl⟩, ?_⟩
                  refine JU.any [15] (by kernel_rfl) rfl ?_
                  refine ⟨?_, trivial⟩
                  refine JUo.ent (fun _ hs => hs.derive (Drv.elV (K := (NE.pair (NE.flat (Enc.int .u64)) (NE.sl (Enc.int .i64)))) (A := Asr.vw (Enc.int .i64) ((gd z119 (IntKind.wrap .i64 (d120 + (1 : Int)))).2.v) (gd d118 (IntKind.wrap .i64 (d120 + (1 : Int)))).2) 0 rfl h129 (fun _ _ q => q.2))) ?_
                  refine JUo.ent (fun _ hs => hs.derive (Drv.elV (K := (NE.pair (NE.flat (Enc.int .u64)) (NE.sl (Enc.int .i64)))) (A := Asr.vw (Enc.int .i64) ((gd z119 d120).2.v) (gd d118 d120).2) 1 rfl h130 (fun _ _ q => q.2))) ?_
                  refine JUo.mv (d := none) rfl (MV.storeElV 2 ((), (gd z119 (IntKind.wrap .i64 (d120 + (1 : Int)))).2) ((gd d118 (IntKind.wrap .i64 (d120 + (1 : Int)))).1, (gd d118 (IntKind.wrap .i64 (d120 + (1 : Int)))).2) rfl tk_91 rfl rfl h130 rfl (fun w F G hst => ⟨trivial, (ok_vw (Drv.vw 1 rfl) w F G hst)⟩)) rfl rfl rfl ?_
                  rintro _ _ ⟨rfl, rfl⟩
                  refine ⟨fun _ => ⟨[], rfl, rfl⟩, ?_⟩
                  refine JU.any [16] (by kernel_rfl) rfl ?_
                  refine ⟨?_, trivial⟩
                  refine JUo.mv (d := some 76) rfl (MV.ofQV (v := .pointer (some (elA (s1.v) (Int.toNat (IntKind.wrap .i64 (d120 + (1 : Int))) * ((NE.pair (NE.flat (Enc.int .u64)) (NE.sl (Enc.int .i64))).E).sz)))) (QV.indexN (RdN.onv 2 rfl) Try.underlying89 tk_91 rfl rfl h131)) rfl rfl rfl ?_
                  rintro _ _ ⟨rfl, rfl⟩
                  refine ⟨fun _ => ⟨[], rfl, rfl⟩, ?_⟩
                  refine JU.any [17] (by kernel_rfl) rfl ?_
                  refine ⟨?_, trivial⟩
                  refine JUo.mv (d := none) rfl (MV.storeElV 2 ((), (gd z119 d120).2) ((gd d118 d120).1, (gd d118 d120).2) rfl tk_91 rfl rfl h131 rfl (fun w F G hst => ⟨trivial, (ok_vw (Drv.vw 0 rfl) w F G hst)⟩)) rfl rfl rfl ?_
                  rintro _ _ ⟨rfl, rfl⟩
                  refine ⟨fun _ => ⟨[], rfl, rfl⟩, ?_⟩
                  refine JU.nil (by kernel_rfl) ?_
                  exact QJ.cut_normal ((), ()) hm [2] (by exact ⟨rfl, rfl, rfl, trivial⟩) rfl rfl
                ·
                  refine JUo.mv (d := some 73) rfl (MV.ofQV (v := .pointer (some (elA (s1.v) (Int.toNat d120 * ((NE.pair (NE.flat (Enc.int .u64)) (NE.sl (Enc.int .i64))).E).sz)))) (QV.indexN (RdN.onv 0 rfl) Try.underlying89 tk_91 rfl rfl h130)) rfl rfl rfl ?_
                  rintro _ _ ⟨rfl, rfl⟩
                  refine ⟨fun _ => ⟨[], rfl, rfl⟩, ?_⟩
                  refine JU.any [9, 13] (by kernel_rfl) rfl ?_
                  refine ⟨?_, ?_, trivial⟩
                  ·
                    refine JUo.mv (d := some 70) rfl (MV.ofQV (v := .agg #[.int .u64 (gd d118 (IntKind.wrap .i64 (d120 + (1 : Int)))).1, (gd z119 (IntKind.wrap .i64 (d120 + (1 : Int)))).2.v]) (QV.eq (QV.elNN (RdN.onv 0 rfl) tk_91 rfl h129) rfl)) rfl rfl rfl ?_
                    rintro _ _ ⟨rfl, rfl⟩
                    refine ⟨fun _ => ⟨[], rfl, rfl⟩, ?_⟩
                    refine JU.any [13] (by kernel_rfl) rfl ?_
                    refine ⟨?_, trivial⟩
                    refine JUo.mv (d := some 74) rfl (MV.ofQV (v := .agg #[.int .u64 (gd d118 d120).1, (gd z119 d120).2.v]) (QV.eq (QV.elNN (RdN.onv 0 rfl) tk_91 rfl h130) rfl)) rfl rfl rfl ?_
                    rintro _ _ ⟨rfl, rfl⟩
                    refine ⟨fun _ => ⟨[], rfl, rfl⟩, ?_⟩
                    refine JU.any [14] (by kernel_rfl) rfl ?_
                    refine ⟨?_, trivial⟩
                    refine JUo.mv (d := some 75) rfl (MV.ofQV (v := .pointer (some (elA (s1.v) (Int.toNat d120 * ((NE.pair (NE.flat (Enc.int .u64)) (NE.sl (Enc.int .i64))).E).sz)))) (QV.indexN (RdN.onv 0 rfl) Try.underlying89 tk_91 rfl rfl h130)) rfl rfl rfl ?_
                    rintro _ _ ⟨rfl, rfl⟩
                    refine ⟨fun _ => ⟨[], rfl, rfl⟩, ?_⟩
                    refine JU.any [15] (by kernel_rfl) rfl ?_
                    refine ⟨?_, trivial⟩
                    refine JUo.ent (fun _ hs => hs.derive (Drv.elV (K := (NE.pair (NE.flat (Enc.int .u64)) (NE.sl (Enc.int .i64)))) (A := Asr.vw (Enc.int .i64) ((gd z119 (IntKind.wrap .i64 (d120 + (1 : Int)))).2.v) (gd d118 (IntKind.wrap .i64 (d120 + (1 : Int)))).2) 0 rfl h129 (fun _ _ q => q.2))) ?_
                    refine JUo.ent (fun _ hs => hs.derive (Drv.elV (K := (NE.pair (NE.flat (Enc.int .u64)) (NE.sl (Enc.int .i64)))) (A := Asr.vw (Enc.int .i64) ((gd z119 d120).2.v) (gd d118 d120).2) 1 rfl h130 (fun _ _ q => q.2))) ?_
                    refine JUo.mv (d := none) rfl (MV.storeElV 2 ((), (gd z119 (IntKind.wrap .i64 (d120 + (1 : Int)))).2) ((gd d118 (IntKind.wrap .i64 (d120 + (1 : Int)))).1, (gd d118 (IntKind.wrap .i64 (d120 + (1 : Int)))).2) rfl tk_91 rfl rfl h130 rfl (fun w F G hst => ⟨trivial, (ok_vw (Drv.vw 1 rfl) w F G hst)⟩)) rfl rfl rfl ?_
                    rintro _ _ ⟨rfl, rfl⟩
                    refine ⟨fun _ => ⟨[], rfl, rfl⟩, ?_⟩
                    refine JU.any [16] (by kernel_rfl) rfl ?_
                    refine ⟨?_, trivial⟩
                    refine JUo.mv (d := some 76) rfl (MV.ofQV (v := .pointer (some (elA (s1.v) (Int.toNat (IntKind.wrap .i64 (d120 + (1 : Int))) * ((NE.pair (NE.flat (Enc.int .u64)) (NE.sl (Enc.int .i64))).E).sz)))) (QV.indexN (RdN.onv 2 rfl) Try.underlying89 tk_91 rfl rfl h131)) rfl rfl rfl ?_
                    rintro _ _ ⟨rfl, rfl⟩
                    refine ⟨fun _ => ⟨[], rfl, rfl⟩, ?_⟩
                    refine JU.any [17] (by kernel_rfl) rfl ?_
                    refine ⟨?_, trivial⟩
                    refine JUo.mv (d := none) rfl (MV.storeElV 2 ((), (gd z119 d120).2) ((gd d118 d120).1, (gd d118 d120).2) rfl tk_91 rfl rfl h131 rfl (fun w F G hst => ⟨trivial, (ok_vw (Drv.vw 0 rfl) w F G hst)⟩)) rfl rfl rfl ?_
                    rintro _ _ ⟨rfl, rfl⟩
                    refine ⟨fun _ => ⟨[], rfl, rfl⟩, ?_⟩
                    refine JU.nil (by kernel_rfl) ?_
                    exact QJ.cut_normal ((), ()) hm [2] (by exact ⟨rfl, rfl, rfl, trivial⟩) rfl rfl
                  ·
                    refine JUo.mv (d := some 74) rfl (MV.ofQV (v := .agg #[.int .u64 (gd d118 d120).1, (gd z119 d120).2.v]) (QV.eq (QV.elNN (RdN.onv 0 rfl) tk_91 rfl h130) rfl)) rfl rfl rfl ?_
                    rintro _ _ ⟨rfl, rfl⟩
                    refine ⟨fun _ => ⟨[], rfl, rfl⟩, ?_⟩
                    refine JU.any [9] (by kernel_rfl) rfl ?_
                    refine ⟨?_, trivial⟩
                    refine JUo.mv (d := some 70) rfl (MV.ofQV (v := .agg #[.int .u64 (gd d118 (IntKind.wrap .i64 (d120 + (1 : Int)))).1, (gd z119 (IntKind.wrap .i64 (d120 + (1 : Int)))).2.v]) (QV.eq (QV.elNN (RdN.onv 0 rfl) tk_91 rfl h129) rfl)) rfl rfl rfl ?_
                    rintro _ _ ⟨rfl, rfl⟩
                    refine ⟨fun _ => ⟨[], rfl, rfl⟩, ?_⟩
                    refine JU.any [14] (by kernel_rfl) rfl ?_
                    refine ⟨?_, trivial⟩
                    refine JUo.mv (d := some 75) rfl (MV.ofQV (v := .pointer (some (elA (s1.v) (Int.toNat d120 * ((NE.pair (NE.flat (Enc.int .u64)) (NE.sl (Enc.int .i64))).E).sz)))) (QV.indexN (RdN.onv 0 rfl) Try.underlying89 tk_91 rfl rfl h130)) rfl rfl rfl ?_
                    rintro _ _ ⟨rfl, rfl⟩
                    refine ⟨fun _ => ⟨[], rfl, rfl⟩, ?_⟩
                    refine JU.any [15] (by kernel_rfl) rfl ?_
                    refine ⟨?_, trivial⟩
                    refine JUo.ent (fun _ hs => hs.derive (Drv.elV (K := (NE.pair (NE.flat (Enc.int .u64)) (NE.sl (Enc.int .i64)))) (A := Asr.vw (Enc.int .i64) ((gd z119 d120).2.v) (gd d118 d120).2) 0 rfl h130 (fun _ _ q => q.2))) ?_
                    refine JUo.ent (fun _ hs => hs.derive (Drv.elV (K := (NE.pair (NE.flat (Enc.int .u64)) (NE.sl (Enc.int .i64)))) (A := Asr.vw (Enc.int .i64) ((gd z119 (IntKind.wrap .i64 (d120 + (1 : Int)))).2.v) (gd d118 (IntKind.wrap .i64 (d120 + (1 : Int)))).2) 1 rfl h129 (fun _ _ q => q.2))) ?_
                    refine JUo.mv (d := none) rfl (MV.storeElV 2 ((), (gd z119 (IntKind.wrap .i64 (d120 + (1 : Int)))).2) ((gd d118 (IntKind.wrap .i64 (d120 + (1 : Int)))).1, (gd d118 (IntKind.wrap .i64 (d120 + (1 : Int)))).2) rfl tk_91 rfl rfl h130 rfl (fun w F G hst => ⟨trivial, (ok_vw (Drv.vw 0 rfl) w F G hst)⟩)) rfl rfl rfl ?_
                    rintro _ _ ⟨rfl, rfl⟩
                    refine ⟨fun _ => ⟨[], rfl, rfl⟩, ?_⟩
                    refine JU.any [16] (by kernel_rfl) rfl ?_
                    refine ⟨?_, trivial⟩
                    refine JUo.mv (d := some 76) rfl (MV.ofQV (v := .pointer (some (elA (s1.v) (Int.toNat (IntKind.wrap .i64 (d120 + (1 : Int))) * ((NE.pair (NE.flat (Enc.int .u64)) (NE.sl (Enc.int .i64))).E).sz)))) (QV.indexN (RdN.onv 2 rfl) Try.underlying89 tk_91 rfl rfl h131)) rfl rfl rfl ?_
                    rintro _ _ ⟨rfl, rfl⟩
                    refine ⟨fun _ => ⟨[], rfl, rfl⟩, ?_⟩
                    refine JU.any [17] (by kernel_rfl) rfl ?_
                    refine ⟨?_, trivial⟩
                    refine JUo.mv (d := none) rfl (MV.storeElV 2 ((), (gd z119 d120).2) ((gd d118 d120).1, (gd d118 d120).2) rfl tk_91 rfl rfl h131 rfl (fun w F G hst => ⟨trivial, (ok_vw (Drv.vw 1 rfl) w F G hst)⟩)) rfl rfl rfl ?_
                    rintro _ _ ⟨rfl, rfl⟩
                    refine ⟨fun _ => ⟨[], rfl, rfl⟩, ?_⟩
                    refine JU.nil (by kernel_rfl) ?_
                    exact QJ.cut_normal ((), ()) hm [2] (by exact ⟨rfl, rfl, rfl, trivial⟩) rfl rfl
              ·
                refine JUo.mv (d := some 73) rfl (MV.ofQV (v := .pointer (some (elA (s1.v) (Int.toNat d120 * ((NE.pair (NE.flat (Enc.int .u64)) (NE.sl (Enc.int .i64))).E).sz)))) (QV.indexN (RdN.onv 0 rfl) Try.underlying89 tk_91 rfl rfl h130)) rfl rfl rfl ?_
                rintro _ _ ⟨rfl, rfl⟩
                refine ⟨fun _ => ⟨[], rfl, rfl⟩, ?_⟩
                refine JU.any [8, 13] (by kernel_rfl) rfl ?_
                refine ⟨?_, ?_, trivial⟩
                ·
                  refine JUo.mv (d := some 69) rfl (MV.ofQV (v := .pointer (some (elA (s1.v) (Int.toNat (IntKind.wrap .i64 (d120 + (1 : Int))) * ((NE.pair (NE.flat (Enc.int .u64)) (NE.sl (Enc.int .i64))).E).sz)))) (QV.indexN (RdN.onv 0 rfl) Try.underlying89 tk_91 rfl rfl h129)) rfl rfl rfl ?_
                  rintro _ _ ⟨rfl, rfl⟩
                  refine ⟨fun _ => ⟨[], rfl, rfl⟩, ?_⟩
                  refine JU.any [9, 13] (by kernel_rfl) rfl ?_
                  refine ⟨?_, ?_, trivial⟩
                  ·
                    refine JUo.mv (d := some 70) rfl (MV.ofQV (v := .agg #[.int .u64 (gd d118 (IntKind.wrap .i64 (d120 + (1 : Int)))).1, (gd z119 (IntKind.wrap .i64 (d120 + (1 : Int)))).2.v]) (QV.eq (QV.elNN (RdN.onv 0 rfl) tk_91 rfl h129) rfl)) rfl rfl rfl ?_
                    rintro _ _ ⟨rfl, rfl⟩
                    refine ⟨fun _ => ⟨[], rfl, rfl⟩, ?_⟩
                    refine JU.any [13] (by kernel_rfl) rfl ?_
                    refine ⟨?_, trivial⟩
                    refine JUo.mv (d := some 74) rfl (MV.ofQV (v := .agg #[.int .u64 (gd d118 d120).1, (gd z119 d120).2.v]) (QV.eq (QV.elNN (RdN.onv 0 rfl) tk_91 rfl h130) rfl)) rfl rfl rfl ?_
                    rintro _ _ ⟨rfl, rfl⟩
                    refine ⟨fun _ => ⟨[], rfl, rfl⟩, ?_⟩
                    refine JU.any [14] (by kernel_rfl) rfl ?_
                    refine ⟨?_, trivial⟩
                    refine JUo.mv (d := some 75) rfl (MV.ofQV (v := .pointer (some (elA (s1.v) (Int.toNat d120 * ((NE.pair (NE.flat (Enc.int .u64)) (NE.sl (Enc.int .i64))).E).sz)))) (QV.indexN (RdN.onv 0 rfl) Try.underlying89 tk_91 rfl rfl h130)) rfl rfl rfl ?_
                    rintro _ _ ⟨rfl, rfl⟩
                    refine ⟨fun _ => ⟨[], rfl, rfl⟩, ?_⟩
                    refine JU.any [15] (by kernel_rfl) rfl ?_
                    refine ⟨?_, trivial⟩
                    refine JUo.ent (fun _ hs => hs.derive (Drv.elV (K := (NE.pair (NE.flat (Enc.int .u64)) (NE.sl (Enc.int .i64)))) (A := Asr.vw (Enc.int .i64) ((gd z119 (IntKind.wrap .i64 (d120 + (1 : Int)))).2.v) (gd d118 (IntKind.wrap .i64 (d120 + (1 : Int)))).2) 0 rfl h129 (fun _ _ q => q.2))) ?_
                    refine JUo.ent (fun _ hs => hs.derive (Drv.elV (K := (NE.pair (NE.flat (Enc.int .u64)) (NE.sl (Enc.int .i64)))) (A := Asr.vw (Enc.int .i64) ((gd z119 d120).2.v) (gd d118 d120).2) 1 rfl h130 (fun _ _ q => q.2))) ?_
                    refine JUo.mv (d := none) rfl (MV.storeElV 2 ((), (gd z119 (IntKind.wrap .i64 (d120 + (1 : Int)))).2) ((gd d118 (IntKind.wrap .i64 (d120 + (1 : Int)))).1, (gd d118 (IntKind.wrap .i64 (d120 + (1 : Int)))).2) rfl tk_91 rfl rfl h130 rfl (fun w F G hst => ⟨trivial, (ok_vw (Drv.vw 1 rfl) w F G hst)⟩)) rfl rfl rfl ?_
                    rintro _ _ ⟨rfl, rfl⟩
                    refine ⟨fun _ => ⟨[], rfl, rfl⟩, ?_⟩
                    refine JU.any [16] (by kernel_rfl) rfl ?_
                    refine ⟨?_, trivial⟩
                    refine JUo.mv (d := some 76) rfl (MV.ofQV (v := .pointer (some (elA (s1.v) (Int.toNat (IntKind.wrap .i64 (d120 + (1 : Int))) * ((NE.pair (NE.flat (Enc.int .u64)) (NE.sl (Enc.int .i64))).E).sz)))) (QV.indexN (RdN.onv 2 rfl) Try.underlying89 tk_91 rfl rfl h131)) rfl rfl rfl ?_
                    rintro _ _ ⟨rfl, rfl⟩
                    refine ⟨fun _ => ⟨[], rfl, rfl⟩, ?_⟩
                    refine JU.any [17] (by kernel_rfl) rfl ?_
                    refine ⟨?_, trivial⟩
                    refine JUo.mv (d := none) rfl (MV.storeElV 2 ((), (gd z119 d120).2) ((gd d118 d120).1, (gd d118 d120).2) rfl tk_91 rfl rfl h131 rfl (fun w F G hst => ⟨trivial, (ok_vw (Drv.vw 0 rfl) w F G hst)⟩)) rfl rfl rfl ?_
                    rintro _ _ ⟨rfl, rfl⟩
                    refine ⟨fun _ => ⟨[], rfl, rfl⟩, ?_⟩
                    refine JU.nil (by kernel_rfl) ?_
                    exact QJ.cut_normal ((), ()) hm [2] (by exact ⟨rfl, rfl, rfl, trivial⟩) rfl rfl
                  ·
                    refine JUo.mv (d := some 74) rfl (MV.ofQV (v := .agg #[.int .u64 (gd d118 d120).1, (gd z119 d120).2.v]) (QV.eq (QV.elNN (RdN.onv 0 rfl) tk_91 rfl h130) rfl)) rfl rfl rfl ?_
                    rintro _ _ ⟨rfl, rfl⟩
                    refine ⟨fun _ => ⟨[], rfl, rfl⟩, ?_⟩
                    refine JU.any [9] (by kernel_rfl) rfl ?_
                    refine ⟨?_, trivial⟩
                    refine JUo.mv (d := some 70) rfl (MV.ofQV (v := .agg #[.int .u64 (gd d118 (IntKind.wrap .i64 (d120 + (1 : Int)))).1, (gd z119 (IntKind.wrap .i64 (d120 + (1 : Int)))).2.v]) (QV.eq (QV.elNN (RdN.onv 0 rfl) tk_91 rfl h129) rfl)) rfl rfl rfl ?_
                    rintro _ _ ⟨rfl, rfl⟩
                    refine ⟨fun _ => ⟨[], rfl, rfl⟩, ?_⟩
                    refine JU.any [14] (by kernel_rfl) rfl ?_
                    refine ⟨?_, trivial⟩
                    refine JUo.mv (d := some 75) rfl (MV.ofQV (v := .pointer (some (elA (s1.v) (Int.toNat d120 * ((NE.pair (NE.flat (Enc.int .u64)) (NE.sl (Enc.int .i64))).E).sz)))) (QV.indexN (RdN.onv 0 rfl) Try.underlying89 tk_91 rfl rfl h130)) rfl rfl rfl ?_
                    rintro _ _ ⟨rfl, rfl⟩
                    refine ⟨fun _ => ⟨[], rfl, rfl⟩, ?_⟩
                    refine JU.any [15] (by kernel_rfl) rfl ?_
                    refine ⟨?_, trivial⟩
                    refine JUo.ent (fun _ hs => hs.derive (Drv.elV (K := (NE.pair (NE.flat (Enc.int .u64)) (NE.sl (Enc.int .i64)))) (A := Asr.vw (Enc.int .i64) ((gd z119 d120).2.v) (gd d118 d120).2) 0 rfl h130 (fun _ _ q => q.2))) ?_
                    refine JUo.ent (fun _ hs => hs.derive (Drv.elV (K := (NE.pair (NE.flat (Enc.int .u64)) (NE.sl (Enc.int .i64)))) (A := Asr.vw (Enc.int .i64) ((gd z119 (IntKind.wrap .i64 (d120 + (1 : Int)))).2.v) (gd d118 (IntKind.wrap .i64 (d120 + (1 : Int)))).2) 1 rfl h129 (fun _ _ q => q.2))) ?_
                    refine JUo.mv (d := none) rfl (MV.storeElV 2 ((), (gd z119 (IntKind.wrap .i64 (d120 + (1 : Int)))).2) ((gd d118 (IntKind.wrap .i64 (d120 + (1 : Int)))).1, (gd d118 (IntKind.wrap .i64 (d120 + (1 : Int)))).2) rfl tk_91 rfl rfl h130 rfl (fun w F G hst => ⟨trivial, (ok_vw (Drv.vw 0 rfl) w F G hst)⟩)) rfl rfl rfl ?_
                    rintro _ _ ⟨rfl, rfl⟩
                    refine ⟨fun _ => ⟨[], rfl, rfl⟩, ?_⟩
                    refine JU.any [16] (by kernel_rfl) rfl ?_
                    refine ⟨?_, trivial⟩
                    refine JUo.mv (d := some 76) rfl (MV.ofQV (v := .pointer (some (elA (s1.v) (Int.toNat (IntKind.wrap .i64 (d120 + (1 : Int))) * ((NE.pair (NE.flat (Enc.int .u64)) (NE.sl (Enc.int .i64))).E).sz)))) (QV.indexN (RdN.onv 2 rfl) Try.underlying89 tk_91 rfl rfl h131)) rfl rfl rfl ?_
                    rintro _ _ ⟨rfl, rfl⟩
                    refine ⟨fun _ => ⟨[], rfl, rfl⟩, ?_⟩
                    refine JU.any [17] (by kernel_rfl) rfl ?_
                    refine ⟨?_, trivial⟩
                    refine JUo.mv (d := none) rfl (MV.storeElV 2 ((), (gd z119 d120).2) ((gd d118 d120).1, (gd d118 d120).2) rfl tk_91 rfl rfl h131 rfl (fun w F G hst => ⟨trivial, (ok_vw (Drv.vw 1 rfl) w F G hst)⟩)) rfl rfl rfl ?_
                    rintro _ _ ⟨rfl, rfl⟩
                    refine ⟨fun _ => ⟨[], rfl, rfl⟩, ?_⟩
                    refine JU.nil (by kernel_rfl) ?_
                    exact QJ.cut_normal ((), ()) hm [2] (by exact ⟨rfl, rfl, rfl, trivial⟩) rfl rfl
                ·
                  refine JUo.mv (d := some 74) rfl (MV.ofQV (v := .agg #[.int .u64 (gd d118 d120).1, (gd z119 d120).2.v]) (QV.eq (QV.elNN (RdN.onv 0 rfl) tk_91 rfl h130) rfl)) rfl rfl rfl ?_
                  rintro _ _ ⟨rfl, rfl⟩
                  refine ⟨fun _ => ⟨[], rfl, rfl⟩, ?_⟩
                  refine JU.any [8] (by kernel_rfl) rfl ?_
                  refine ⟨?_, trivial⟩
                  refine JUo.mv (d := some 69) rfl (MV.ofQV (v := .pointer (some (elA (s1.v) (Int.toNat (IntKind.wrap .i64 (d120 + (1 : Int))) * ((NE.pair (NE.flat (Enc.int .u64)) (NE.sl (Enc.int .i64))).E).sz)))) (QV.indexN (RdN.onv 0 rfl) Try.underlying89 tk_91 rfl rfl h129)) rfl rfl rfl ?_
                  rintro _ _ ⟨rfl, rfl⟩
                  refine ⟨fun _ => ⟨[], rfl, rfl⟩, ?_⟩
                  refine JU.any [9] (by kernel_rfl) rfl ?_
                  refine ⟨?_, trivial⟩
                  refine JUo.mv (d := some 70) rfl (MV.ofQV (v := .agg #[.int .u64 (gd d118 (IntKind.wrap .i64 (d120 + (1 : Int)))).1, (gd z119 (IntKind.wrap .i64 (d120 + (1 : Int)))).2.v]) (QV.eq (QV.elNN (RdN.onv 0 rfl) tk_91 rfl h129) rfl)) rfl rfl rfl ?_
                  rintro _ _ ⟨rfl, rfl⟩
                  refine ⟨fun _ => ⟨[], rfl, rfl⟩, ?_⟩
                  refine JU.any [14] (by kernel_rfl) rfl ?_
                  refine ⟨?_, trivial⟩
                  refine JUo.mv (d := some 75) rfl (MV.ofQV (v := .pointer (some (elA (s1.v) (Int.toNat d120 * ((NE.pair (NE.flat (Enc.int .u64)) (NE.sl (Enc.int .i64))).E).sz)))) (QV.indexN (RdN.onv 0 rfl) Try.underlying89 tk_91 rfl rfl h130)) rfl rfl rfl ?_
                  rintro _ _ ⟨rfl, rfl⟩
                  refine ⟨fun _ => ⟨[], rfl, rfl⟩, ?_⟩
                  refine JU.any [15] (by kernel_rfl) rfl ?_
                  refine ⟨?_, trivial⟩
                  refine JUo.ent (fun _ hs => hs.derive (Drv.elV (K := (NE.pair (NE.flat (Enc.int .u64)) (NE.sl (Enc.int .i64)))) (A := Asr.vw (Enc.int .i64) ((gd z119 d120).2.v) (gd d118 d120).2) 0 rfl h130 (fun _ _ q => q.2))) ?_
                  refine JUo.ent (fun _ hs => hs.derive (Drv.elV (K := (NE.pair (NE.flat (Enc.int .u64)) (NE.sl (Enc.int .i64)))) (A := Asr.vw (Enc.int .i64) ((gd z119 (IntKind.wrap .i64 (d120 + (1 : Int)))).2.v) (gd d118 (IntKind.wrap .i64 (d120 + (1 : Int)))).2) 1 rfl h129 (fun _ _ q => q.2))) ?_
                  refine JUo.mv (d := none) rfl (MV.storeElV 2 ((), (gd z119 (IntKind.wrap .i64 (d120 + (1 : Int)))).2) ((gd d118 (IntKind.wrap .i64 (d120 + (1 : Int)))).1, (gd d118 (IntKind.wrap .i64 (d120 + (1 : Int)))).2) rfl tk_91 rfl rfl h130 rfl (fun w F G hst => ⟨trivial, (ok_vw (Drv.vw 0 rfl) w F G hst)⟩)) rfl rfl rfl ?_
                  rintro _ _ ⟨rfl, rfl⟩
                  refine ⟨fun _ => ⟨[], rfl, rfl⟩, ?_⟩
                  refine JU.any [16] (by kernel_rfl) rfl ?_
                  refine ⟨?_, trivial⟩
                  refine JUo.mv (d := some 76) rfl (MV.ofQV (v := .pointer (some (elA (s1.v) (Int.toNat (IntKind.wrap .i64 (d120 + (1 : Int))) * ((NE.pair (NE.flat (Enc.int .u64)) (NE.sl (Enc.int .i64))).E).sz)))) (QV.indexN (RdN.onv 2 rfl) Try.underlying89 tk_91 rfl rfl h131)) rfl rfl rfl ?_
                  rintro _ _ ⟨rfl, rfl⟩
                  refine ⟨fun _ => ⟨[], rfl, rfl⟩, ?_⟩
                  refine JU.any [17] (by kernel_rfl) rfl ?_
                  refine ⟨?_, trivial⟩
                  refine JUo.mv (d := none) rfl (MV.storeElV 2 ((), (gd z119 d120).2) ((gd d118 d120).1, (gd d118 d120).2) rfl tk_91 rfl rfl h131 rfl (fun w F G hst => ⟨trivial, (ok_vw (Drv.vw 1 rfl) w F G hst)⟩)) rfl rfl rfl ?_
                  rintro _ _ ⟨rfl, rfl⟩
                  refine ⟨fun _ => ⟨[], rfl, rfl⟩, ?_⟩
                  refine JU.nil (by kernel_rfl) ?_
                  exact QJ.cut_normal ((), ()) hm [2] (by exact ⟨rfl, rfl, rfl, trivial⟩) rfl rfl
          ·
            refine JC.condF' rfl (decide_eq_false h128) ?_
            refine JC.exit ?_
            refine QJ.then_exit ?_
            obtain rfl := Option.some.inj hm
            refine QJ.round_exit (fun hy => ?_)
            subst hy
            refine QJ.block_hit ?_
            exact QJ.cut_normal (d118, z119) hmo126 [0] trivial rfl rfl
      ·
        refine JC.block ?_
        obtain ⟨y136, hl137, hmo138⟩ := bind_inv hm
        refine JC.loop (F80_1.b5 x2 x4) (fun x z => match x, z with | (d132, d133), _ => [(0, s1.v), (1, .int .i64 x4), (4, .func (.func 48) #[] #[]), (10, .int .i64 d132), (11, .int .i64 d133)]) (fun x z => match x, z with | (d132, d133), _ => [Asr.onv 91 (NE.pair (NE.flat (Enc.int .u64)) (NE.sl (Enc.int .i64))) (s1.v) z3 x2]) (x5, x6) () y136 hl137 [0] (by exact ⟨rfl, rfl, rfl, rfl, rfl, trivial⟩) rfl rfl ?_
        rintro ⟨d132, d133⟩ ⟨⟩ s139 hm
        unfold F80_1.b5 at hm
        dsimp only at hm
        show JC _ _ _ [(0, s1.v), (1, .int .i64 x4), (4, .func (.func 48) #[] #[]), (10, .int .i64 d132), (11, .int .i64 d133)] [Asr.onv 91 (NE.pair (NE.flat (Enc.int .u64)) (NE.sl (Enc.int .i64))) (s1.v) z3 x2] _ _
        refine JC.seq ?_
        refine JC.seq ?_
        refine JC.region ?_
        refine JL.val (v := .int .i64 d132) (QV.move rfl) rfl rfl rfl ?_
        refine JL.val (v := .int .i64 d133) (QV.move rfl) rfl rfl rfl ?_
        refine JL.val (v := .bool (decide (d132 < d133))) (QV.lss rfl rfl) rfl rfl rfl ?_
        refine JL.nil ?_
        refine QJ.then_normal ?_
        rcases ite_inv hm with ⟨h140, hm⟩ | ⟨h140, hm⟩
        ·
          refine JC.condT' rfl (decide_eq_true h140) ?_
          refine JC.skip ?_
          refine QJ.then_normal ?_
          refine JC.block ?_
          refine JC.seq ?_
          refine JC.region ?_
          refine JL.val (v := .int .i64 d132) (QV.move rfl) rfl rfl rfl ?_
          refine JL.val (v := .int .i64 d133) (QV.move rfl) rfl rfl rfl ?_
          refine JL.val (v := .int .i64 (IntKind.wrap .i64 (d132 + d133))) (QV.add rfl rfl) rfl rfl rfl ?_
          refine JL.val (v := .int .u64 (IntKind.wrap .u64 (IntKind.wrap .i64 (d132 + d133)))) (QV.conv rfl (by rw [Try.underlying3]; rfl) Try.underlying155) rfl rfl rfl ?_
          refine JL.val (v := .int .u64 (shrI .u64 (IntKind.wrap .u64 (IntKind.wrap .i64 (d132 + d133))) (1 : Int))) (QV.shr rfl rfl (by decide)) rfl rfl rfl ?_
          refine JL.val (v := .int .i64 (IntKind.wrap .i64 (shrI .u64 (IntKind.wrap .u64 (IntKind.wrap .i64 (d132 + d133))) (1 : Int)))) (QV.conv rfl (by rw [Try.underlying155]; rfl) Try.underlying3) rfl rfl rfl ?_
          refine JL.val (v := .int .i64 (IntKind.wrap .i64 (shrI .u64 (IntKind.wrap .u64 (IntKind.wrap .i64 (d132 + d133))) (1 : Int)))) (QV.assign rfl) rfl rfl rfl ?_
          refine JL.nil ?_
          refine QJ.then_normal ?_
          refine JC.seq ?_
          refine JC.regionT [Asr.onv 91 (NE.pair (NE.flat (Enc.int .u64)) (NE.sl (Enc.int .i64))) (s1.v) z3 x2] (fun t => false) [(0, true), (1, true), (2, true), (3, true), (4, true), (5, true), (6, false), (7, false), (8, false), (9, false), (10, false)] (by kernel_rfl) (by kernel_rfl) (by kernel_rfl) rfl (fun hsel => ?_)
          refine JT.take (i := 0) (v := .func (.func 48) #[] #[]) hsel rfl (QV.move rfl) rfl rfl rfl rfl [0] rfl rfl ?_
          refine JT.take (i := 1) (v := s1.v) hsel rfl (QV.move rfl) rfl rfl rfl rfl [0] rfl rfl ?_
          refine JT.take (i := 2) (v := .int .i64 (IntKind.wrap .i64 (shrI .u64 (IntKind.wrap .u64 (IntKind.wrap .i64 (d132 + d133))) (1 : Int)))) hsel rfl (QV.move rfl) rfl rfl rfl rfl [0] rfl rfl ?_
          obtain ⟨h141, hm⟩ := guard_inv hm
          refine JT.take (i := 3) (v := .pointer (some (elA (s1.v) (Int.toNat (IntKind.wrap .i64 (shrI .u64 (IntKind.wrap .u64 (IntKind.wrap .i64 (d132 + d133))) (1 : Int))) * ((NE.pair (NE.flat (Enc.int .u64)) (NE.sl (Enc.int .i64))).E).sz)))) hsel rfl (QV.indexN (RdN.onv 0 rfl) Try.underlying89 tk_91 rfl rfl h141) rfl rfl rfl rfl [0] rfl rfl ?_
          refine JT.take (i := 4) (v := .agg #[.int .u64 (gd x2 (IntKind.wrap .i64 (shrI .u64 (IntKind.wrap .u64 (IntKind.wrap .i64 (d132 + d133))) (1 : Int)))).1, (gd z3 (IntKind.wrap .i64 (shrI .u64 (IntKind.wrap .u64 (IntKind.wrap .i64 (d132 + d133))) (1 : Int)))).2.v]) hsel rfl (QV.eq (QV.elNN (RdN.onv 0 rfl) tk_91 rfl h141) rfl) rfl rfl rfl rfl [0] rfl rfl ?_
          refine JT.take (i := 5) (v := s1.v) hsel rfl (QV.move rfl) rfl rfl rfl rfl [0] rfl rfl ?_
          refine JT.only (i := 6) (d := some 46) rfl (MV.ofQV (v := .int .i64 x4) (QV.move rfl)) rfl rfl rfl ?_
          rintro _ _ ⟨rfl, rfl⟩
          refine ⟨fun _ => ⟨[0], rfl, rfl⟩, ?_⟩
          obtain ⟨h142, hm⟩ := guard_inv hm
          refine JT.only (i := 7) (d := some 47) rfl (MV.ofQV (v := .pointer (some (elA (s1.v) (Int.toNat x4 * ((NE.pair (NE.flat (Enc.int .u64)) (NE.sl (Enc.int .i64))).E).sz)))) (QV.indexN (RdN.onv 0 rfl) Try.underlying89 tk_91 rfl rfl h142)) rfl rfl rfl ?_
          rintro _ _ ⟨rfl, rfl⟩
          refine ⟨fun _ => ⟨[0], rfl, rfl⟩, ?_⟩
          refine JT.only (i := 8) (d := some 48) rfl (MV.ofQV (v := .agg #[.int .u64 (gd x2 x4).1, (gd z3 x4).2.v]) (QV.eq (QV.elNN (RdN.onv 0 rfl) tk_91 rfl h142) rfl)) rfl rfl rfl ?_
          rintro _ _ ⟨rfl, rfl⟩
          refine ⟨fun _ => ⟨[0], rfl, rfl⟩, ?_⟩
          obtain ⟨y143, hc144, hm⟩ := bind_inv hm
          refine JT.only (i := 9) (d := some 49) rfl (MV.callV (vals := [.agg #[.int .u64 (gd x2 (IntKind.wrap .i64 (shrI .u64 (IntKind.wrap .u64 (IntKind.wrap .i64 (d132 + d133))) (1 : Int)))).1, (gd z3 (IntKind.wrap .i64 (shrI .u64 (IntKind.wrap .u64 (IntKind.wrap .i64 (d132 + d133))) (1 : Int)))).2.v], .agg #[.int .u64 (gd x2 x4).1, (gd z3 x4).2.v]]) (cs := []) (Lo := []) (Lr := [Asr.onv 91 (NE.pair (NE.flat (Enc.int .u64)) (NE.sl (Enc.int .i64))) (s1.v) z3 x2]) (F48.spec ((gd z3 (IntKind.wrap .i64 (shrI .u64 (IntKind.wrap .u64 (IntKind.wrap .i64 (d132 + d133))) (1 : Int)))).2) ((gd z3 x4).2) ((gd x2 (IntKind.wrap .i64 (shrI .u64 (IntKind.wrap .u64 (IntKind.wrap .i64 (d132 + d133))) (1 : Int)))).1) ((gd x2 (IntKind.wrap .i64 (shrI .u64 (IntKind.wrap .u64 (IntKind.wrap .i64 (d132 + d133))) (1 : Int)))).2) ((gd x2 x4).1) ((gd x2 x4).2) _ hc144) rfl rfl rfl Try.func48 rfl rfl rfl [] [0] rfl rfl rfl ⟨(Drv.elV (K := (NE.pair (NE.flat (Enc.int .u64)) (NE.sl (Enc.int .i64)))) (A := Asr.vw (Enc.int .i64) ((gd z3 (IntKind.wrap .i64 (shrI .u64 (IntKind.wrap .u64 (IntKind.wrap .i64 (d132 + d133))) (1 : Int)))).2.v) (gd x2 (IntKind.wrap .i64 (shrI .u64 (IntKind.wrap .u64 (IntKind.wrap .i64 (d132 + d133))) (1 : Int)))).2) 0 rfl h141 (fun _ _ q => q.2)), ⟨(Drv.elV (K := (NE.pair (NE.flat (Enc.int .u64)) (NE.sl (Enc.int .i64)))) (A := Asr.vw (Enc.int .i64) ((gd z3 x4).2.v) (gd x2 x4).2) 0 rfl h142 (fun _ _ q => q.2)), trivial⟩⟩) rfl rfl rfl ?_
          rintro _ _ ⟨_, ⟨rfl, rfl⟩, rfl⟩
          refine ⟨fun _ => ⟨[0], rfl, rfl⟩, ?_⟩
          refine JT.only (i := 10) (d := some 50) rfl (MV.ofQV (v := .bool (decide (y143 < (0 : Int)))) (QV.lss rfl rfl)) rfl rfl rfl ?_
          rintro _ _ ⟨rfl, rfl⟩
          refine ⟨fun _ => ⟨[0], rfl, rfl⟩, ?_⟩
          refine JT.nil ?_
          refine QJ.then_normal ?_
          refine JC.cutK (Y := (Int × Int) × Unit) (fun y => match y with | ((d145, d146), _) => F80_1.j20 (d145) (d146) = some s139) (fun y => match y with | ((d145, d146), _) => [(0, s1.v), (1, .int .i64 x4), (4, .func (.func 48) #[] #[]), (10, .int .i64 d145), (11, .int .i64 d146)]) (fun y => match y with | ((d145, d146), _) => [Asr.onv 91 (NE.pair (NE.flat (Enc.int .u64)) (NE.sl (Enc.int .i64))) (s1.v) z3 x2]) ?_ ?_
          ·
            rintro ⟨⟨d145, d146⟩, ⟨⟩⟩ hm
            unfold F80_1.j20 at hm
            show QJ _ _ [(0, s1.v), (1, .int .i64 x4), (4, .func (.func 48) #[] #[]), (10, .int .i64 d145), (11, .int .i64 d146)] [Asr.onv 91 (NE.pair (NE.flat (Enc.int .u64)) (NE.sl (Enc.int .i64))) (s1.v) z3 x2] _ _
            refine QJ.block_normal ?_
            obtain rfl := Option.some.inj hm
            exact QJ.round_on (d145, d146) () [0] (by exact ⟨rfl, rfl, rfl, rfl, rfl, trivial⟩) rfl rfl
          ·
            rcases ite_inv hm with ⟨h147, hm⟩ | ⟨h147, hm⟩
            ·
              refine JC.condT' rfl (decide_eq_true h147) ?_
              refine JC.region ?_
              refine JL.val (v := .int .i64 (IntKind.wrap .i64 (shrI .u64 (IntKind.wrap .u64 (IntKind.wrap .i64 (d132 + d133))) (1 : Int)))) (QV.move rfl) rfl rfl rfl ?_
              refine JL.val (v := .int .i64 (IntKind.wrap .i64 ((IntKind.wrap .i64 (shrI .u64 (IntKind.wrap .u64 (IntKind.wrap .i64 (d132 + d133))) (1 : Int))) + (1 : Int)))) (QV.add rfl rfl) rfl rfl rfl ?_
              refine JL.val (v := .int .i64 (IntKind.wrap .i64 ((IntKind.wrap .i64 (shrI .u64 (IntKind.wrap .u64 (IntKind.wrap .i64 (d132 + d133))) (1 : Int))) + (1 : Int)))) (QV.assign rfl) rfl rfl rfl ?_
              refine JL.nil ?_
              exact QJ.cut_normal (((IntKind.wrap .i64 ((IntKind.wrap .i64 (shrI .u64 (IntKind.wrap .u64 (IntKind.wrap .i64 (d132 + d133))) (1 : Int))) + (1 : Int))), d133), ()) hm [0] (by exact ⟨rfl, rfl, rfl, rfl, rfl, trivial⟩) rfl rfl
            ·
              refine JC.condF' rfl (decide_eq_false h147) ?_
              refine JC.region ?_
              refine JL.val (v := .int .i64 (IntKind.wrap .i64 (shrI .u64 (IntKind.wrap .u64 (IntKind.wrap .i64 (d132 + d133))) (1 : Int)))) (QV.move rfl) rfl rfl rfl ?_
              refine JL.val (v := .int .i64 (IntKind.wrap .i64 (shrI .u64 (IntKind.wrap .u64 (IntKind.wrap .i64 (d132 + d133))) (1 : Int)))) (QV.assign rfl) rfl rfl rfl ?_
              refine JL.nil ?_
              exact QJ.cut_normal ((d132, (IntKind.wrap .i64 (shrI .u64 (IntKind.wrap .u64 (IntKind.wrap .i64 (d132 + d133))) (1 : Int)))), ()) hm [0] (by exact ⟨rfl, rfl, rfl, rfl, rfl, trivial⟩) rfl rfl
        ·
          refine JC.condF' rfl (decide_eq_false h140) ?_
          refine JC.exit ?_
          refine QJ.then_exit ?_
          obtain rfl := Option.some.inj hm
          refine QJ.round_exit (fun hy => ?_)
          subst hy
          refine QJ.block_hit ?_
          exact QJ.cut_normal (d132, ()) hmo138 [0] (by exact ⟨rfl, rfl, rfl, trivial⟩) rfl rfl
    ·
      refine JC.condF' rfl (decide_eq_false h114) ?_
      refine JC.skip ?_
      exact QJ.cut_normal ((), ()) hm [0] (by exact ⟨rfl, rfl, rfl, rfl, rfl, trivial⟩) rfl rfl
theorem F80_1.specF : ∀ (n : Nat) (s1 : SlV) (z3 : List (Unit × SlV)) (x2 : List (Int × (List Int))) (x4 : Int) (x5 : Int) (x6 : Int) (r : (List (Int × (List Int)))) (_hm : F80_1.mF n x2 x4 x5 x6 = some r), Ctr Try.prog true 80 [s1.v, .int .i64 x4, .int .i64 x5, .int .i64 x6, .func (.func 48) #[] #[]] [Asr.onv 91 (NE.pair (NE.flat (Enc.int .u64)) (NE.sl (Enc.int .i64))) (s1.v) z3 x2] (fun v L' => ∃ (g10 : List (Unit × SlV)), v = .tuple #[] ∧ L' = [Asr.onv 91 (NE.pair (NE.flat (Enc.int .u64)) (NE.sl (Enc.int .i64))) (s1.v) g10 r])
  | 0, s1, z3, x2, x4, x5, x6, r, hm => by cases hm
  | n + 1, s1, z3, x2, x4, x5, x6, r, hm => F80_1.specG (F80_1.mF n) (F80_1.specF n) s1 z3 x2 x4 x5 x6 r hm
theorem F80_1.spec (s1 : SlV) (z3 : List (Unit × SlV)) (x2 : List (Int × (List Int))) (x4 : Int) (x5 : Int) (x6 : Int) (r : (List (Int × (List Int)))) (hm : F80_1.m x2 x4 x5 x6 = some r) :
    Ctr Try.prog true 80 [s1.v, .int .i64 x4, .int .i64 x5, .int .i64 x6, .func (.func 48) #[] #[]] [Asr.onv 91 (NE.pair (NE.flat (Enc.int .u64)) (NE.sl (Enc.int .i64))) (s1.v) z3 x2] (fun v L' => ∃ (g10 : List (Unit × SlV)), v = .tuple #[] ∧ L' = [Asr.onv 91 (NE.pair (NE.flat (Enc.int .u64)) (NE.sl (Enc.int .i64))) (s1.v) g10 r]) := by
  obtain ⟨n, hn⟩ := evt_some hm
  exact F80_1.specF n s1 z3 x2 x4 x5 x6 r hn

end Go.Proofs.Ytgganckggdjpaaa
