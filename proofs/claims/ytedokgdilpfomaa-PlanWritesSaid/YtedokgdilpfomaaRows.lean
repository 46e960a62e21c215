/-
  No cell of these rows narrows 'for every input' (looked for: loops, veiled, ifaces, maps, wideKeys, modest, calm, conditions, laid).
  DERIVED. THE GIVEN ROWS OF THIS SEAT. 11 by the template 'for every input the law returns true; each argument reads behind the call as it read before'; 0 by the template 'total and deterministic' (their statements: YtedokgdilpfomaaTotals.lean).
  GIVEN WITH THE SEED: the statements are not yours to turn. If you find one false, say at which input.
  Laid BY PROGRAM, IN A SANDBOX (cutbox-rows.mjs): the forced cells as the released guide's own fill.sh prints them over the translation 460acf2d9affe480… (all of the seat's roots in one cut). By AI agents, Wed Nov 11 2026. No macro, syntax, notation, axiom, sorry.
-/
import Derived.Test.YtedokgdilpfomaaChecked
import GoSem.Claim
import GoSem.ClaimJoined
import GoSem.ClaimMapViews
import Derived.JoinedTies
import Derived.KernelRfl
namespace Go.Proofs.Ytedokgdilpfomaa
/- THE CELL 'sum', in the pinned program and in every row, IS THE sha256 OF THE DUMP (.gsa) THAT YtedokgdilpfomaaProg.lean LOADS. Nothing in Lean hashes anything: it is a label: what it is worth is what the hold of that sum in a sandbox is worth. -/
noncomputable def Try.pinned : Pinned := { name := "ytedokgdilpfomaa", sum := "460acf2d9affe480294200fc1a5840a19cca50f8613875d18dc6745a1cb7a30c", checked := Try.checked }
namespace Rows
def none {H : Type} : Left H := { results := [], args := [] }

/-- 'drogherlaw16.PlanMakes': WHATEVER THE INPUT: true; the input reads as it did. -/
def planMakesSpec : ChangeSpec := { name := "planMakes", fn := fun _ => fun
  | [d1, d2, d3] => { results := [.lit (.bool true)], args := [d1, d2, d3] }
  | _ => none }
def planMakesRow : OpenClaim := { program := "ytedokgdilpfomaa", sum := "460acf2d9affe480294200fc1a5840a19cca50f8613875d18dc6745a1cb7a30c", func := "drogher/drogherlaw16.PlanMakes", spec := "planMakes", unfollowed := true, recurses := true, apart := false }
def PlanMakesSaid : Prop := planMakesRow.holds Try.pinned (OpenSpec.ofChange planMakesSpec)

/-- ITS FALSE NEIGHBOUR: 'it returns false'. Refute it at one input. -/
def planMakesWrong : ChangeSpec := { name := "planMakes", fn := fun _ => fun
  | [d1, d2, d3] => { results := [.lit (.bool false)], args := [d1, d2, d3] }
  | _ => none }
def PlanMakesWrongFalsely : Prop := planMakesRow.holds Try.pinned (OpenSpec.ofChange planMakesWrong)

/-- 'drogherlaw16.PlanSources': WHATEVER THE INPUT: true; the input reads as it did. -/
def planSourcesSpec : ChangeSpec := { name := "planSources", fn := fun _ => fun
  | [d1, d2, d3] => { results := [.lit (.bool true)], args := [d1, d2, d3] }
  | _ => none }
def planSourcesRow : OpenClaim := { program := "ytedokgdilpfomaa", sum := "460acf2d9affe480294200fc1a5840a19cca50f8613875d18dc6745a1cb7a30c", func := "drogher/drogherlaw16.PlanSources", spec := "planSources", unfollowed := true, recurses := true, apart := false }
def PlanSourcesSaid : Prop := planSourcesRow.holds Try.pinned (OpenSpec.ofChange planSourcesSpec)

/-- ITS FALSE NEIGHBOUR: 'it returns false'. Refute it at one input. -/
def planSourcesWrong : ChangeSpec := { name := "planSources", fn := fun _ => fun
  | [d1, d2, d3] => { results := [.lit (.bool false)], args := [d1, d2, d3] }
  | _ => none }
def PlanSourcesWrongFalsely : Prop := planSourcesRow.holds Try.pinned (OpenSpec.ofChange planSourcesWrong)

/-- 'drogherlaw16.PlanReads': WHATEVER THE INPUT: true; the input reads as it did. -/
def planReadsSpec : ChangeSpec := { name := "planReads", fn := fun _ => fun
  | [d1, d2] => { results := [.lit (.bool true)], args := [d1, d2] }
  | _ => none }
def planReadsRow : OpenClaim := { program := "ytedokgdilpfomaa", sum := "460acf2d9affe480294200fc1a5840a19cca50f8613875d18dc6745a1cb7a30c", func := "drogher/drogherlaw16.PlanReads", spec := "planReads", unfollowed := true, recurses := true, apart := false }
def PlanReadsSaid : Prop := planReadsRow.holds Try.pinned (OpenSpec.ofChange planReadsSpec)

/-- ITS FALSE NEIGHBOUR: 'it returns false'. Refute it at one input. -/
def planReadsWrong : ChangeSpec := { name := "planReads", fn := fun _ => fun
  | [d1, d2] => { results := [.lit (.bool false)], args := [d1, d2] }
  | _ => none }
def PlanReadsWrongFalsely : Prop := planReadsRow.holds Try.pinned (OpenSpec.ofChange planReadsWrong)

/-- 'drogherlaw16.PlanWrites': WHATEVER THE INPUT: true; the input reads as it did. -/
def planWritesSpec : ChangeSpec := { name := "planWrites", fn := fun _ => fun
  | [d] => { results := [.lit (.bool true)], args := [d] }
  | _ => none }
def planWritesRow : OpenClaim := { program := "ytedokgdilpfomaa", sum := "460acf2d9affe480294200fc1a5840a19cca50f8613875d18dc6745a1cb7a30c", func := "drogher/drogherlaw16.PlanWrites", spec := "planWrites", unfollowed := true, recurses := true, apart := false }
def PlanWritesSaid : Prop := planWritesRow.holds Try.pinned (OpenSpec.ofChange planWritesSpec)

/-- ITS FALSE NEIGHBOUR: 'it returns false'. Refute it at one input. -/
def planWritesWrong : ChangeSpec := { name := "planWrites", fn := fun _ => fun
  | [d] => { results := [.lit (.bool false)], args := [d] }
  | _ => none }
def PlanWritesWrongFalsely : Prop := planWritesRow.holds Try.pinned (OpenSpec.ofChange planWritesWrong)

/-- 'drogherlaw15.MatchFinds': WHATEVER THE INPUT: true; the input reads as it did. -/
def matchFindsSpec : ChangeSpec := { name := "matchFinds", fn := fun _ => fun
  | [d1, d2] => { results := [.lit (.bool true)], args := [d1, d2] }
  | _ => none }
def matchFindsRow : OpenClaim := { program := "ytedokgdilpfomaa", sum := "460acf2d9affe480294200fc1a5840a19cca50f8613875d18dc6745a1cb7a30c", func := "drogher/drogherlaw15.MatchFinds", spec := "matchFinds", inPlace := ["internal/bytealg.Compare"], unfollowed := true, recurses := true, apart := false }
def MatchFindsSaid : Prop := matchFindsRow.holds Try.pinned (OpenSpec.ofChange matchFindsSpec)

/-- ITS FALSE NEIGHBOUR: 'it returns false'. Refute it at one input. -/
def matchFindsWrong : ChangeSpec := { name := "matchFinds", fn := fun _ => fun
  | [d1, d2] => { results := [.lit (.bool false)], args := [d1, d2] }
  | _ => none }
def MatchFindsWrongFalsely : Prop := matchFindsRow.holds Try.pinned (OpenSpec.ofChange matchFindsWrong)

/-- 'drogherlaw15.MatchSame': WHATEVER THE INPUT: true; the input reads as it did. -/
def matchSameSpec : ChangeSpec := { name := "matchSame", fn := fun _ => fun
  | [d] => { results := [.lit (.bool true)], args := [d] }
  | _ => none }
def matchSameRow : OpenClaim := { program := "ytedokgdilpfomaa", sum := "460acf2d9affe480294200fc1a5840a19cca50f8613875d18dc6745a1cb7a30c", func := "drogher/drogherlaw15.MatchSame", spec := "matchSame", inPlace := ["internal/bytealg.Compare"], unfollowed := true, recurses := true, apart := false }
def MatchSameSaid : Prop := matchSameRow.holds Try.pinned (OpenSpec.ofChange matchSameSpec)

/-- ITS FALSE NEIGHBOUR: 'it returns false'. Refute it at one input. -/
def matchSameWrong : ChangeSpec := { name := "matchSame", fn := fun _ => fun
  | [d] => { results := [.lit (.bool false)], args := [d] }
  | _ => none }
def MatchSameWrongFalsely : Prop := matchSameRow.holds Try.pinned (OpenSpec.ofChange matchSameWrong)

/-- 'drogherlaw15.MatchRows': WHATEVER THE INPUT: true; the input reads as it did. -/
def matchRowsSpec : ChangeSpec := { name := "matchRows", fn := fun _ => fun
  | [d1, d2, d3] => { results := [.lit (.bool true)], args := [d1, d2, d3] }
  | _ => none }
def matchRowsRow : OpenClaim := { program := "ytedokgdilpfomaa", sum := "460acf2d9affe480294200fc1a5840a19cca50f8613875d18dc6745a1cb7a30c", func := "drogher/drogherlaw15.MatchRows", spec := "matchRows", inPlace := ["internal/bytealg.Compare"], unfollowed := true, recurses := true, apart := false }
def MatchRowsSaid : Prop := matchRowsRow.holds Try.pinned (OpenSpec.ofChange matchRowsSpec)

/-- ITS FALSE NEIGHBOUR: 'it returns false'. Refute it at one input. -/
def matchRowsWrong : ChangeSpec := { name := "matchRows", fn := fun _ => fun
  | [d1, d2, d3] => { results := [.lit (.bool false)], args := [d1, d2, d3] }
  | _ => none }
def MatchRowsWrongFalsely : Prop := matchRowsRow.holds Try.pinned (OpenSpec.ofChange matchRowsWrong)

/-- 'drogherlaw15.MatchMay': WHATEVER THE INPUT: true; the input reads as it did. -/
def matchMaySpec : ChangeSpec := { name := "matchMay", fn := fun _ => fun
  | [d1, d2, d3, d4] => { results := [.lit (.bool true)], args := [d1, d2, d3, d4] }
  | _ => none }
def matchMayRow : OpenClaim := { program := "ytedokgdilpfomaa", sum := "460acf2d9affe480294200fc1a5840a19cca50f8613875d18dc6745a1cb7a30c", func := "drogher/drogherlaw15.MatchMay", spec := "matchMay", inPlace := ["internal/bytealg.Compare"], unfollowed := true, recurses := true, apart := false }
def MatchMaySaid : Prop := matchMayRow.holds Try.pinned (OpenSpec.ofChange matchMaySpec)

/-- ITS FALSE NEIGHBOUR: 'it returns false'. Refute it at one input. -/
def matchMayWrong : ChangeSpec := { name := "matchMay", fn := fun _ => fun
  | [d1, d2, d3, d4] => { results := [.lit (.bool false)], args := [d1, d2, d3, d4] }
  | _ => none }
def MatchMayWrongFalsely : Prop := matchMayRow.holds Try.pinned (OpenSpec.ofChange matchMayWrong)

/-- 'drogherlaw17.DeltaMakes': WHATEVER THE INPUT: true; the input reads as it did. -/
def deltaMakesSpec : ChangeSpec := { name := "deltaMakes", fn := fun _ => fun
  | [d1, d2, d3] => { results := [.lit (.bool true)], args := [d1, d2, d3] }
  | _ => none }
def deltaMakesRow : OpenClaim := { program := "ytedokgdilpfomaa", sum := "460acf2d9affe480294200fc1a5840a19cca50f8613875d18dc6745a1cb7a30c", func := "drogher/drogherlaw17.DeltaMakes", spec := "deltaMakes", inPlace := ["internal/bytealg.Compare"], unfollowed := true, recurses := true, apart := false }
def DeltaMakesSaid : Prop := deltaMakesRow.holds Try.pinned (OpenSpec.ofChange deltaMakesSpec)

/-- ITS FALSE NEIGHBOUR: 'it returns false'. Refute it at one input. -/
def deltaMakesWrong : ChangeSpec := { name := "deltaMakes", fn := fun _ => fun
  | [d1, d2, d3] => { results := [.lit (.bool false)], args := [d1, d2, d3] }
  | _ => none }
def DeltaMakesWrongFalsely : Prop := deltaMakesRow.holds Try.pinned (OpenSpec.ofChange deltaMakesWrong)

/-- 'drogherlaw17.DeltaJoins': WHATEVER THE INPUT: true; the input reads as it did. -/
def deltaJoinsSpec : ChangeSpec := { name := "deltaJoins", fn := fun _ => fun
  | [d1, d2] => { results := [.lit (.bool true)], args := [d1, d2] }
  | _ => none }
def deltaJoinsRow : OpenClaim := { program := "ytedokgdilpfomaa", sum := "460acf2d9affe480294200fc1a5840a19cca50f8613875d18dc6745a1cb7a30c", func := "drogher/drogherlaw17.DeltaJoins", spec := "deltaJoins", inPlace := ["internal/bytealg.Compare"], unfollowed := true, recurses := true, apart := false }
def DeltaJoinsSaid : Prop := deltaJoinsRow.holds Try.pinned (OpenSpec.ofChange deltaJoinsSpec)

/-- ITS FALSE NEIGHBOUR: 'it returns false'. Refute it at one input. -/
def deltaJoinsWrong : ChangeSpec := { name := "deltaJoins", fn := fun _ => fun
  | [d1, d2] => { results := [.lit (.bool false)], args := [d1, d2] }
  | _ => none }
def DeltaJoinsWrongFalsely : Prop := deltaJoinsRow.holds Try.pinned (OpenSpec.ofChange deltaJoinsWrong)

/-- 'drogherlaw17.DeltaBlocks': WHATEVER THE INPUT: true; the input reads as it did. -/
def deltaBlocksSpec : ChangeSpec := { name := "deltaBlocks", fn := fun _ => fun
  | [d1, d2, d3, d4] => { results := [.lit (.bool true)], args := [d1, d2, d3, d4] }
  | _ => none }
def deltaBlocksRow : OpenClaim := { program := "ytedokgdilpfomaa", sum := "460acf2d9affe480294200fc1a5840a19cca50f8613875d18dc6745a1cb7a30c", func := "drogher/drogherlaw17.DeltaBlocks", spec := "deltaBlocks", inPlace := ["internal/bytealg.Compare"], unfollowed := true, recurses := true, apart := false }
def DeltaBlocksSaid : Prop := deltaBlocksRow.holds Try.pinned (OpenSpec.ofChange deltaBlocksSpec)

/-- ITS FALSE NEIGHBOUR: 'it returns false'. Refute it at one input. -/
def deltaBlocksWrong : ChangeSpec := { name := "deltaBlocks", fn := fun _ => fun
  | [d1, d2, d3, d4] => { results := [.lit (.bool false)], args := [d1, d2, d3, d4] }
  | _ => none }
def DeltaBlocksWrongFalsely : Prop := deltaBlocksRow.holds Try.pinned (OpenSpec.ofChange deltaBlocksWrong)

/- THE SECOND FORM. 'bulk': how many values and letters a reading holds, each counted each time it is reached (what is shared counts as often as it is met; a slice's spare places count too). A statement '..UptoSaid' is the law's where the arguments, and the package variables that the reading takes, are together of bulk at most 1048576: NARROWER than '..Said'. Prove '..Said' where nothing that the law and all that it calls make is longer than what came in: it says more and counts as full. Else prove '..UptoSaid'. A law counts once. -/
mutual
def uptoBulk {H : Type} : DataW H → Nat
  | .lit (.string bytes) => bytes.length + 1
  | .lit _ => 1
  | .nil => 1
  | .ptr d => uptoBulk d + 1
  | .slice elems spare => uptoBulkAll elems + uptoBulkAll spare + 1
  | .agg parts => uptoBulkAll parts + 1
  | .iface _ d => uptoBulk d + 1
  | .map entries => uptoBulkEntries entries + 1
  | .held _ => 1
def uptoBulkAll {H : Type} : List (DataW H) → Nat
  | [] => 0
  | d :: r => uptoBulk d + uptoBulkAll r
def uptoBulkEntries {H : Type} : List (Lit × DataW H) → Nat
  | [] => 0
  | x :: r => uptoBulkEntry x + uptoBulkEntries r
def uptoBulkEntry {H : Type} : Lit × DataW H → Nat
  | (.string bytes, d) => bytes.length + uptoBulk d + 1
  | (_, d) => uptoBulk d + 1
 end
def uptoSmall : (H : Type) → List (DataW H) → Bool := fun _ ds => decide (uptoBulkAll ds ≤ 1048576)
def OpenSpec.upto (s : _root_.Go.ChangeSpec) : _root_.Go.OpenSpec := { _root_.Go.OpenSpec.ofChange s with cond := some uptoSmall }

/-- 'drogherlaw16.PlanMakes', WHERE WHAT IT READS IS OF BULK AT MOST 1048576: true; the input reads as it did. -/
def planMakesUptoRow : OpenClaim := { program := "ytedokgdilpfomaa", sum := "460acf2d9affe480294200fc1a5840a19cca50f8613875d18dc6745a1cb7a30c", func := "drogher/drogherlaw16.PlanMakes", spec := "planMakes", unfollowed := true, recurses := true, apart := false, narrowed := true }
def PlanMakesUptoSaid : Prop := planMakesUptoRow.holds Try.pinned (OpenSpec.upto planMakesSpec)

/-- 'drogherlaw16.PlanSources', WHERE WHAT IT READS IS OF BULK AT MOST 1048576: true; the input reads as it did. -/
def planSourcesUptoRow : OpenClaim := { program := "ytedokgdilpfomaa", sum := "460acf2d9affe480294200fc1a5840a19cca50f8613875d18dc6745a1cb7a30c", func := "drogher/drogherlaw16.PlanSources", spec := "planSources", unfollowed := true, recurses := true, apart := false, narrowed := true }
def PlanSourcesUptoSaid : Prop := planSourcesUptoRow.holds Try.pinned (OpenSpec.upto planSourcesSpec)

/-- 'drogherlaw16.PlanReads', WHERE WHAT IT READS IS OF BULK AT MOST 1048576: true; the input reads as it did. -/
def planReadsUptoRow : OpenClaim := { program := "ytedokgdilpfomaa", sum := "460acf2d9affe480294200fc1a5840a19cca50f8613875d18dc6745a1cb7a30c", func := "drogher/drogherlaw16.PlanReads", spec := "planReads", unfollowed := true, recurses := true, apart := false, narrowed := true }
def PlanReadsUptoSaid : Prop := planReadsUptoRow.holds Try.pinned (OpenSpec.upto planReadsSpec)

/-- 'drogherlaw16.PlanWrites', WHERE WHAT IT READS IS OF BULK AT MOST 1048576: true; the input reads as it did. -/
def planWritesUptoRow : OpenClaim := { program := "ytedokgdilpfomaa", sum := "460acf2d9affe480294200fc1a5840a19cca50f8613875d18dc6745a1cb7a30c", func := "drogher/drogherlaw16.PlanWrites", spec := "planWrites", unfollowed := true, recurses := true, apart := false, narrowed := true }
def PlanWritesUptoSaid : Prop := planWritesUptoRow.holds Try.pinned (OpenSpec.upto planWritesSpec)

/-- 'drogherlaw15.MatchFinds', WHERE WHAT IT READS IS OF BULK AT MOST 1048576: true; the input reads as it did. -/
def matchFindsUptoRow : OpenClaim := { program := "ytedokgdilpfomaa", sum := "460acf2d9affe480294200fc1a5840a19cca50f8613875d18dc6745a1cb7a30c", func := "drogher/drogherlaw15.MatchFinds", spec := "matchFinds", inPlace := ["internal/bytealg.Compare"], unfollowed := true, recurses := true, apart := false, narrowed := true }
def MatchFindsUptoSaid : Prop := matchFindsUptoRow.holds Try.pinned (OpenSpec.upto matchFindsSpec)

/-- 'drogherlaw15.MatchSame', WHERE WHAT IT READS IS OF BULK AT MOST 1048576: true; the input reads as it did. -/
def matchSameUptoRow : OpenClaim := { program := "ytedokgdilpfomaa", sum := "460acf2d9affe480294200fc1a5840a19cca50f8613875d18dc6745a1cb7a30c", func := "drogher/drogherlaw15.MatchSame", spec := "matchSame", inPlace := ["internal/bytealg.Compare"], unfollowed := true, recurses := true, apart := false, narrowed := true }
def MatchSameUptoSaid : Prop := matchSameUptoRow.holds Try.pinned (OpenSpec.upto matchSameSpec)

/-- 'drogherlaw15.MatchRows', WHERE WHAT IT READS IS OF BULK AT MOST 1048576: true; the input reads as it did. -/
def matchRowsUptoRow : OpenClaim := { program := "ytedokgdilpfomaa", sum := "460acf2d9affe480294200fc1a5840a19cca50f8613875d18dc6745a1cb7a30c", func := "drogher/drogherlaw15.MatchRows", spec := "matchRows", inPlace := ["internal/bytealg.Compare"], unfollowed := true, recurses := true, apart := false, narrowed := true }
def MatchRowsUptoSaid : Prop := matchRowsUptoRow.holds Try.pinned (OpenSpec.upto matchRowsSpec)

/-- 'drogherlaw15.MatchMay', WHERE WHAT IT READS IS OF BULK AT MOST 1048576: true; the input reads as it did. -/
def matchMayUptoRow : OpenClaim := { program := "ytedokgdilpfomaa", sum := "460acf2d9affe480294200fc1a5840a19cca50f8613875d18dc6745a1cb7a30c", func := "drogher/drogherlaw15.MatchMay", spec := "matchMay", inPlace := ["internal/bytealg.Compare"], unfollowed := true, recurses := true, apart := false, narrowed := true }
def MatchMayUptoSaid : Prop := matchMayUptoRow.holds Try.pinned (OpenSpec.upto matchMaySpec)

/-- 'drogherlaw17.DeltaMakes', WHERE WHAT IT READS IS OF BULK AT MOST 1048576: true; the input reads as it did. -/
def deltaMakesUptoRow : OpenClaim := { program := "ytedokgdilpfomaa", sum := "460acf2d9affe480294200fc1a5840a19cca50f8613875d18dc6745a1cb7a30c", func := "drogher/drogherlaw17.DeltaMakes", spec := "deltaMakes", inPlace := ["internal/bytealg.Compare"], unfollowed := true, recurses := true, apart := false, narrowed := true }
def DeltaMakesUptoSaid : Prop := deltaMakesUptoRow.holds Try.pinned (OpenSpec.upto deltaMakesSpec)

/-- 'drogherlaw17.DeltaJoins', WHERE WHAT IT READS IS OF BULK AT MOST 1048576: true; the input reads as it did. -/
def deltaJoinsUptoRow : OpenClaim := { program := "ytedokgdilpfomaa", sum := "460acf2d9affe480294200fc1a5840a19cca50f8613875d18dc6745a1cb7a30c", func := "drogher/drogherlaw17.DeltaJoins", spec := "deltaJoins", inPlace := ["internal/bytealg.Compare"], unfollowed := true, recurses := true, apart := false, narrowed := true }
def DeltaJoinsUptoSaid : Prop := deltaJoinsUptoRow.holds Try.pinned (OpenSpec.upto deltaJoinsSpec)

/-- 'drogherlaw17.DeltaBlocks', WHERE WHAT IT READS IS OF BULK AT MOST 1048576: true; the input reads as it did. -/
def deltaBlocksUptoRow : OpenClaim := { program := "ytedokgdilpfomaa", sum := "460acf2d9affe480294200fc1a5840a19cca50f8613875d18dc6745a1cb7a30c", func := "drogher/drogherlaw17.DeltaBlocks", spec := "deltaBlocks", inPlace := ["internal/bytealg.Compare"], unfollowed := true, recurses := true, apart := false, narrowed := true }
def DeltaBlocksUptoSaid : Prop := deltaBlocksUptoRow.holds Try.pinned (OpenSpec.upto deltaBlocksSpec)

end Rows
end Go.Proofs.Ytedokgdilpfomaa
