/-
  No cell of these rows narrows 'for every input' (looked for: loops, veiled, ifaces, maps, wideKeys, modest, calm, conditions, laid).
  DERIVED. THE GIVEN ROWS OF THIS SEAT. 8 by the template 'for every input the law returns true; each argument reads behind the call as it read before'; 0 by the template 'total and deterministic' (their statements: YtgganckggdjpaaaTotals.lean).
  GIVEN WITH THE SEED: the statements are not yours to turn. If you find one false, say at which input.
  Laid BY PROGRAM, IN A SANDBOX (cutbox-rows.mjs): the forced cells as the released guide's own fill.sh prints them over the translation 01132c6c51c7ce5a… (all of the seat's roots in one cut). By AI agents, Wed Nov 11 2026. No macro, syntax, notation, axiom, sorry.
-/
import Derived.Test.YtgganckggdjpaaaChecked
import GoSem.Claim
import GoSem.ClaimJoined
import GoSem.ClaimMapViews
import Derived.JoinedTies
import Derived.KernelRfl
namespace Go.Proofs.Ytgganckggdjpaaa
/- THE CELL 'sum', in the pinned program and in every row, IS THE sha256 OF THE DUMP (.gsa) THAT YtgganckggdjpaaaProg.lean LOADS. Nothing in Lean hashes anything: it is a label: what it is worth is what the hold of that sum in a sandbox is worth. -/
noncomputable def Try.pinned : Pinned := { name := "ytgganckggdjpaaa", sum := "01132c6c51c7ce5a707a6f990b15ae3eca9b005f6a69cd349832ffb986320424", checked := Try.checked }
namespace Rows
def none {H : Type} : Left H := { results := [], args := [] }

/-- 'drogherlaw19.OrderFree': WHATEVER THE INPUT: true; the input reads as it did. -/
def orderFreeSpec : ChangeSpec := { name := "orderFree", fn := fun _ => fun
  | [d] => { results := [.lit (.bool true)], args := [d] }
  | _ => none }
def orderFreeRow : OpenClaim := { program := "ytgganckggdjpaaa", sum := "01132c6c51c7ce5a707a6f990b15ae3eca9b005f6a69cd349832ffb986320424", func := "drogher/drogherlaw19.OrderFree", spec := "orderFree", unfollowed := true, recurses := true, apart := false }
def OrderFreeSaid : Prop := orderFreeRow.holds Try.pinned (OpenSpec.ofChange orderFreeSpec)

/-- ITS FALSE NEIGHBOUR: 'it returns false'. Refute it at one input. -/
def orderFreeWrong : ChangeSpec := { name := "orderFree", fn := fun _ => fun
  | [d] => { results := [.lit (.bool false)], args := [d] }
  | _ => none }
def OrderFreeWrongFalsely : Prop := orderFreeRow.holds Try.pinned (OpenSpec.ofChange orderFreeWrong)

/-- 'drogherlaw19.OrderOf': WHATEVER THE INPUT: true; the input reads as it did. -/
def orderOfSpec : ChangeSpec := { name := "orderOf", fn := fun _ => fun
  | [d] => { results := [.lit (.bool true)], args := [d] }
  | _ => none }
def orderOfRow : OpenClaim := { program := "ytgganckggdjpaaa", sum := "01132c6c51c7ce5a707a6f990b15ae3eca9b005f6a69cd349832ffb986320424", func := "drogher/drogherlaw19.OrderOf", spec := "orderOf", unfollowed := true, recurses := true, apart := false }
def OrderOfSaid : Prop := orderOfRow.holds Try.pinned (OpenSpec.ofChange orderOfSpec)

/-- ITS FALSE NEIGHBOUR: 'it returns false'. Refute it at one input. -/
def orderOfWrong : ChangeSpec := { name := "orderOf", fn := fun _ => fun
  | [d] => { results := [.lit (.bool false)], args := [d] }
  | _ => none }
def OrderOfWrongFalsely : Prop := orderOfRow.holds Try.pinned (OpenSpec.ofChange orderOfWrong)

/-- 'drogherlaw19.OrderRight': WHATEVER THE INPUT: true; the input reads as it did. -/
def orderRightSpec : ChangeSpec := { name := "orderRight", fn := fun _ => fun
  | [d1, d2, d3] => { results := [.lit (.bool true)], args := [d1, d2, d3] }
  | _ => none }
def orderRightRow : OpenClaim := { program := "ytgganckggdjpaaa", sum := "01132c6c51c7ce5a707a6f990b15ae3eca9b005f6a69cd349832ffb986320424", func := "drogher/drogherlaw19.OrderRight", spec := "orderRight", unfollowed := true, recurses := true, apart := false }
def OrderRightSaid : Prop := orderRightRow.holds Try.pinned (OpenSpec.ofChange orderRightSpec)

/-- ITS FALSE NEIGHBOUR: 'it returns false'. Refute it at one input. -/
def orderRightWrong : ChangeSpec := { name := "orderRight", fn := fun _ => fun
  | [d1, d2, d3] => { results := [.lit (.bool false)], args := [d1, d2, d3] }
  | _ => none }
def OrderRightWrongFalsely : Prop := orderRightRow.holds Try.pinned (OpenSpec.ofChange orderRightWrong)

/-- 'drogherlaw10.LimitRight': WHATEVER THE INPUT: true; the input reads as it did. -/
def limitRightSpec : ChangeSpec := { name := "limitRight", fn := fun _ => fun
  | [d1, d2] => { results := [.lit (.bool true)], args := [d1, d2] }
  | _ => none }
def limitRightRow : OpenClaim := { program := "ytgganckggdjpaaa", sum := "01132c6c51c7ce5a707a6f990b15ae3eca9b005f6a69cd349832ffb986320424", func := "drogher/drogherlaw10.LimitRight", spec := "limitRight", unfollowed := true, recurses := true, apart := false }
def LimitRightSaid : Prop := limitRightRow.holds Try.pinned (OpenSpec.ofChange limitRightSpec)

/-- ITS FALSE NEIGHBOUR: 'it returns false'. Refute it at one input. -/
def limitRightWrong : ChangeSpec := { name := "limitRight", fn := fun _ => fun
  | [d1, d2] => { results := [.lit (.bool false)], args := [d1, d2] }
  | _ => none }
def LimitRightWrongFalsely : Prop := limitRightRow.holds Try.pinned (OpenSpec.ofChange limitRightWrong)

/-- 'drogherlaw10.LimitLeast': WHATEVER THE INPUT: true; the input reads as it did. -/
def limitLeastSpec : ChangeSpec := { name := "limitLeast", fn := fun _ => fun
  | [d1, d2] => { results := [.lit (.bool true)], args := [d1, d2] }
  | _ => none }
def limitLeastRow : OpenClaim := { program := "ytgganckggdjpaaa", sum := "01132c6c51c7ce5a707a6f990b15ae3eca9b005f6a69cd349832ffb986320424", func := "drogher/drogherlaw10.LimitLeast", spec := "limitLeast", unfollowed := true, recurses := true, apart := false }
def LimitLeastSaid : Prop := limitLeastRow.holds Try.pinned (OpenSpec.ofChange limitLeastSpec)

/-- ITS FALSE NEIGHBOUR: 'it returns false'. Refute it at one input. -/
def limitLeastWrong : ChangeSpec := { name := "limitLeast", fn := fun _ => fun
  | [d1, d2] => { results := [.lit (.bool false)], args := [d1, d2] }
  | _ => none }
def LimitLeastWrongFalsely : Prop := limitLeastRow.holds Try.pinned (OpenSpec.ofChange limitLeastWrong)

/-- 'drogherlaw10.LimitOrder': WHATEVER THE INPUT: true; the input reads as it did. -/
def limitOrderSpec : ChangeSpec := { name := "limitOrder", fn := fun _ => fun
  | [d1, d2] => { results := [.lit (.bool true)], args := [d1, d2] }
  | _ => none }
def limitOrderRow : OpenClaim := { program := "ytgganckggdjpaaa", sum := "01132c6c51c7ce5a707a6f990b15ae3eca9b005f6a69cd349832ffb986320424", func := "drogher/drogherlaw10.LimitOrder", spec := "limitOrder", unfollowed := true, recurses := true, apart := false }
def LimitOrderSaid : Prop := limitOrderRow.holds Try.pinned (OpenSpec.ofChange limitOrderSpec)

/-- ITS FALSE NEIGHBOUR: 'it returns false'. Refute it at one input. -/
def limitOrderWrong : ChangeSpec := { name := "limitOrder", fn := fun _ => fun
  | [d1, d2] => { results := [.lit (.bool false)], args := [d1, d2] }
  | _ => none }
def LimitOrderWrongFalsely : Prop := limitOrderRow.holds Try.pinned (OpenSpec.ofChange limitOrderWrong)

/-- 'drogherlaw10.LimitCosts': WHATEVER THE INPUT: true; the input reads as it did. -/
def limitCostsSpec : ChangeSpec := { name := "limitCosts", fn := fun _ => fun
  | [d1, d2] => { results := [.lit (.bool true)], args := [d1, d2] }
  | _ => none }
def limitCostsRow : OpenClaim := { program := "ytgganckggdjpaaa", sum := "01132c6c51c7ce5a707a6f990b15ae3eca9b005f6a69cd349832ffb986320424", func := "drogher/drogherlaw10.LimitCosts", spec := "limitCosts", unfollowed := true, recurses := true, apart := false }
def LimitCostsSaid : Prop := limitCostsRow.holds Try.pinned (OpenSpec.ofChange limitCostsSpec)

/-- ITS FALSE NEIGHBOUR: 'it returns false'. Refute it at one input. -/
def limitCostsWrong : ChangeSpec := { name := "limitCosts", fn := fun _ => fun
  | [d1, d2] => { results := [.lit (.bool false)], args := [d1, d2] }
  | _ => none }
def LimitCostsWrongFalsely : Prop := limitCostsRow.holds Try.pinned (OpenSpec.ofChange limitCostsWrong)

/-- 'drogherlaw25.ImageWrong': WHATEVER THE INPUT: true; the input reads as it did. -/
def imageWrongSpec : ChangeSpec := { name := "imageWrong", fn := fun _ => fun
  | [d1, d2, d3, d4] => { results := [.lit (.bool true)], args := [d1, d2, d3, d4] }
  | _ => none }
def imageWrongRow : OpenClaim := { program := "ytgganckggdjpaaa", sum := "01132c6c51c7ce5a707a6f990b15ae3eca9b005f6a69cd349832ffb986320424", func := "drogher/drogherlaw25.ImageWrong", spec := "imageWrong", unfollowed := true, recurses := true, apart := false }
def ImageWrongSaid : Prop := imageWrongRow.holds Try.pinned (OpenSpec.ofChange imageWrongSpec)

/-- ITS FALSE NEIGHBOUR: 'it returns false'. Refute it at one input. -/
def imageWrongWrong : ChangeSpec := { name := "imageWrong", fn := fun _ => fun
  | [d1, d2, d3, d4] => { results := [.lit (.bool false)], args := [d1, d2, d3, d4] }
  | _ => none }
def ImageWrongWrongFalsely : Prop := imageWrongRow.holds Try.pinned (OpenSpec.ofChange imageWrongWrong)

/- THE SECOND FORM. 'bulk': how many values and letters a reading holds, each counted each time it is reached (what is shared counts as often as it is met; a slice's spare places count too). A statement '..UptoSaid' is the law's where the arguments, and the package variables that the reading takes, are together of bulk at most 1048576: NARROWER than '..Said'. Prove '..Said' where nothing that the law and all that it calls make is longer than what came in: it says more and counts as full. Else prove '..UptoSaid'. A law counts once. -/
mutual
def uptoBulk {H : Type} : DataW H → Nat
  | .lit (.string bytes) => bytes.length + 1
  | .lit _ => 1
  | .nil => 1
  | .ptr d => uptoBulk d + 1
  | .slice elems spare => uptoBulkAll elems + uptoBulkAll spare + 1
  | .agg parts => uptoBulkAll parts + 1
  | .iface _ d => uptoBulk d + 1
  | .map entries => uptoBulkEntries entries + 1
  | .held _ => 1
def uptoBulkAll {H : Type} : List (DataW H) → Nat
  | [] => 0
  | d :: r => uptoBulk d + uptoBulkAll r
def uptoBulkEntries {H : Type} : List (Lit × DataW H) → Nat
  | [] => 0
  | x :: r => uptoBulkEntry x + uptoBulkEntries r
def uptoBulkEntry {H : Type} : Lit × DataW H → Nat
  | (.string bytes, d) => bytes.length + uptoBulk d + 1
  | (_, d) => uptoBulk d + 1
 end
def uptoSmall : (H : Type) → List (DataW H) → Bool := fun _ ds => decide (uptoBulkAll ds ≤ 1048576)
def OpenSpec.upto (s : _root_.Go.ChangeSpec) : _root_.Go.OpenSpec := { _root_.Go.OpenSpec.ofChange s with cond := some uptoSmall }

/-- 'drogherlaw19.OrderFree', WHERE WHAT IT READS IS OF BULK AT MOST 1048576: true; the input reads as it did. -/
def orderFreeUptoRow : OpenClaim := { program := "ytgganckggdjpaaa", sum := "01132c6c51c7ce5a707a6f990b15ae3eca9b005f6a69cd349832ffb986320424", func := "drogher/drogherlaw19.OrderFree", spec := "orderFree", unfollowed := true, recurses := true, apart := false, narrowed := true }
def OrderFreeUptoSaid : Prop := orderFreeUptoRow.holds Try.pinned (OpenSpec.upto orderFreeSpec)

/-- 'drogherlaw19.OrderOf', WHERE WHAT IT READS IS OF BULK AT MOST 1048576: true; the input reads as it did. -/
def orderOfUptoRow : OpenClaim := { program := "ytgganckggdjpaaa", sum := "01132c6c51c7ce5a707a6f990b15ae3eca9b005f6a69cd349832ffb986320424", func := "drogher/drogherlaw19.OrderOf", spec := "orderOf", unfollowed := true, recurses := true, apart := false, narrowed := true }
def OrderOfUptoSaid : Prop := orderOfUptoRow.holds Try.pinned (OpenSpec.upto orderOfSpec)

/-- 'drogherlaw19.OrderRight', WHERE WHAT IT READS IS OF BULK AT MOST 1048576: true; the input reads as it did. -/
def orderRightUptoRow : OpenClaim := { program := "ytgganckggdjpaaa", sum := "01132c6c51c7ce5a707a6f990b15ae3eca9b005f6a69cd349832ffb986320424", func := "drogher/drogherlaw19.OrderRight", spec := "orderRight", unfollowed := true, recurses := true, apart := false, narrowed := true }
def OrderRightUptoSaid : Prop := orderRightUptoRow.holds Try.pinned (OpenSpec.upto orderRightSpec)

/-- 'drogherlaw10.LimitRight', WHERE WHAT IT READS IS OF BULK AT MOST 1048576: true; the input reads as it did. -/
def limitRightUptoRow : OpenClaim := { program := "ytgganckggdjpaaa", sum := "01132c6c51c7ce5a707a6f990b15ae3eca9b005f6a69cd349832ffb986320424", func := "drogher/drogherlaw10.LimitRight", spec := "limitRight", unfollowed := true, recurses := true, apart := false, narrowed := true }
def LimitRightUptoSaid : Prop := limitRightUptoRow.holds Try.pinned (OpenSpec.upto limitRightSpec)

/-- 'drogherlaw10.LimitLeast', WHERE WHAT IT READS IS OF BULK AT MOST 1048576: true; the input reads as it did. -/
def limitLeastUptoRow : OpenClaim := { program := "ytgganckggdjpaaa", sum := "01132c6c51c7ce5a707a6f990b15ae3eca9b005f6a69cd349832ffb986320424", func := "drogher/drogherlaw10.LimitLeast", spec := "limitLeast", unfollowed := true, recurses := true, apart := false, narrowed := true }
def LimitLeastUptoSaid : Prop := limitLeastUptoRow.holds Try.pinned (OpenSpec.upto limitLeastSpec)

/-- 'drogherlaw10.LimitOrder', WHERE WHAT IT READS IS OF BULK AT MOST 1048576: true; the input reads as it did. -/
def limitOrderUptoRow : OpenClaim := { program := "ytgganckggdjpaaa", sum := "01132c6c51c7ce5a707a6f990b15ae3eca9b005f6a69cd349832ffb986320424", func := "drogher/drogherlaw10.LimitOrder", spec := "limitOrder", unfollowed := true, recurses := true, apart := false, narrowed := true }
def LimitOrderUptoSaid : Prop := limitOrderUptoRow.holds Try.pinned (OpenSpec.upto limitOrderSpec)

/-- 'drogherlaw10.LimitCosts', WHERE WHAT IT READS IS OF BULK AT MOST 1048576: true; the input reads as it did. -/
def limitCostsUptoRow : OpenClaim := { program := "ytgganckggdjpaaa", sum := "01132c6c51c7ce5a707a6f990b15ae3eca9b005f6a69cd349832ffb986320424", func := "drogher/drogherlaw10.LimitCosts", spec := "limitCosts", unfollowed := true, recurses := true, apart := false, narrowed := true }
def LimitCostsUptoSaid : Prop := limitCostsUptoRow.holds Try.pinned (OpenSpec.upto limitCostsSpec)

/-- 'drogherlaw25.ImageWrong', WHERE WHAT IT READS IS OF BULK AT MOST 1048576: true; the input reads as it did. -/
def imageWrongUptoRow : OpenClaim := { program := "ytgganckggdjpaaa", sum := "01132c6c51c7ce5a707a6f990b15ae3eca9b005f6a69cd349832ffb986320424", func := "drogher/drogherlaw25.ImageWrong", spec := "imageWrong", unfollowed := true, recurses := true, apart := false, narrowed := true }
def ImageWrongUptoSaid : Prop := imageWrongUptoRow.holds Try.pinned (OpenSpec.upto imageWrongSpec)

end Rows
end Go.Proofs.Ytgganckggdjpaaa
