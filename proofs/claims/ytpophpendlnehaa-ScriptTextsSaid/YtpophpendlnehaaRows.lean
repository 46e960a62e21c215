/-
  No cell of these rows narrows 'for every input' (looked for: loops, veiled, ifaces, maps, wideKeys, modest, calm, conditions, laid).
  DERIVED. THE GIVEN ROWS OF THIS SEAT. 12 by the template 'for every input the law returns true; each argument reads behind the call as it read before'; 0 by the template 'total and deterministic' (their statements: YtpophpendlnehaaTotals.lean).
  GIVEN WITH THE SEED: the statements are not yours to turn. If you find one false, say at which input.
  Laid BY PROGRAM, IN A SANDBOX (cutbox-rows.mjs): the forced cells as the released guide's own fill.sh prints them over the translation 652af52e335cc0a2… (all of the seat's roots in one cut). By AI agents, Wed Nov 11 2026. No macro, syntax, notation, axiom, sorry.
-/
import Derived.Test.YtpophpendlnehaaChecked
import GoSem.Claim
import GoSem.ClaimJoined
import GoSem.ClaimMapViews
import Derived.JoinedTies
import Derived.KernelRfl
namespace Go.Proofs.Ytpophpendlnehaa
/- THE CELL 'sum', in the pinned program and in every row, IS THE sha256 OF THE DUMP (.gsa) THAT YtpophpendlnehaaProg.lean LOADS. Nothing in Lean hashes anything: it is a label: what it is worth is what the hold of that sum in a sandbox is worth. -/
noncomputable def Try.pinned : Pinned := { name := "ytpophpendlnehaa", sum := "652af52e335cc0a28671052071a66b138160bdf828bc74db1406c9ce21c532b3", checked := Try.checked }
namespace Rows
def none {H : Type} : Left H := { results := [], args := [] }

/-- 'drogherlaw11.LzMay': WHATEVER THE INPUT: true; the input reads as it did. -/
def lzMaySpec : ChangeSpec := { name := "lzMay", fn := fun _ => fun
  | [d] => { results := [.lit (.bool true)], args := [d] }
  | _ => none }
def lzMayRow : OpenClaim := { program := "ytpophpendlnehaa", sum := "652af52e335cc0a28671052071a66b138160bdf828bc74db1406c9ce21c532b3", func := "drogher/drogherlaw11.LzMay", spec := "lzMay", apart := false }
def LzMaySaid : Prop := lzMayRow.holds Try.pinned (OpenSpec.ofChange lzMaySpec)

/-- ITS FALSE NEIGHBOUR: 'it returns false'. Refute it at one input. -/
def lzMayWrong : ChangeSpec := { name := "lzMay", fn := fun _ => fun
  | [d] => { results := [.lit (.bool false)], args := [d] }
  | _ => none }
def LzMayWrongFalsely : Prop := lzMayRow.holds Try.pinned (OpenSpec.ofChange lzMayWrong)

/-- 'drogherlaw11.LzFinds': WHATEVER THE INPUT: true; the input reads as it did. -/
def lzFindsSpec : ChangeSpec := { name := "lzFinds", fn := fun _ => fun
  | [d1, d2] => { results := [.lit (.bool true)], args := [d1, d2] }
  | _ => none }
def lzFindsRow : OpenClaim := { program := "ytpophpendlnehaa", sum := "652af52e335cc0a28671052071a66b138160bdf828bc74db1406c9ce21c532b3", func := "drogher/drogherlaw11.LzFinds", spec := "lzFinds", apart := false }
def LzFindsSaid : Prop := lzFindsRow.holds Try.pinned (OpenSpec.ofChange lzFindsSpec)

/-- ITS FALSE NEIGHBOUR: 'it returns false'. Refute it at one input. -/
def lzFindsWrong : ChangeSpec := { name := "lzFinds", fn := fun _ => fun
  | [d1, d2] => { results := [.lit (.bool false)], args := [d1, d2] }
  | _ => none }
def LzFindsWrongFalsely : Prop := lzFindsRow.holds Try.pinned (OpenSpec.ofChange lzFindsWrong)

/-- 'drogherlaw11.LzAgain': WHATEVER THE INPUT: true; the input reads as it did. -/
def lzAgainSpec : ChangeSpec := { name := "lzAgain", fn := fun _ => fun
  | [d1, d2, d3] => { results := [.lit (.bool true)], args := [d1, d2, d3] }
  | _ => none }
def lzAgainRow : OpenClaim := { program := "ytpophpendlnehaa", sum := "652af52e335cc0a28671052071a66b138160bdf828bc74db1406c9ce21c532b3", func := "drogher/drogherlaw11.LzAgain", spec := "lzAgain", apart := false }
def LzAgainSaid : Prop := lzAgainRow.holds Try.pinned (OpenSpec.ofChange lzAgainSpec)

/-- ITS FALSE NEIGHBOUR: 'it returns false'. Refute it at one input. -/
def lzAgainWrong : ChangeSpec := { name := "lzAgain", fn := fun _ => fun
  | [d1, d2, d3] => { results := [.lit (.bool false)], args := [d1, d2, d3] }
  | _ => none }
def LzAgainWrongFalsely : Prop := lzAgainRow.holds Try.pinned (OpenSpec.ofChange lzAgainWrong)

/-- 'drogherlaw30.ScriptTexts': WHATEVER THE INPUT: true; the input reads as it did. -/
def scriptTextsSpec : ChangeSpec := { name := "scriptTexts", fn := fun _ => fun
  | [d1, d2] => { results := [.lit (.bool true)], args := [d1, d2] }
  | _ => none }
def scriptTextsRow : OpenClaim := { program := "ytpophpendlnehaa", sum := "652af52e335cc0a28671052071a66b138160bdf828bc74db1406c9ce21c532b3", func := "drogher/drogherlaw30.ScriptTexts", spec := "scriptTexts", inPlace := ["internal/abi.NoEscape", "internal/bytealg.IndexByteString"], apart := false }
def ScriptTextsSaid : Prop := scriptTextsRow.holds Try.pinned (OpenSpec.ofChange scriptTextsSpec)

/-- ITS FALSE NEIGHBOUR: 'it returns false'. Refute it at one input. -/
def scriptTextsWrong : ChangeSpec := { name := "scriptTexts", fn := fun _ => fun
  | [d1, d2] => { results := [.lit (.bool false)], args := [d1, d2] }
  | _ => none }
def ScriptTextsWrongFalsely : Prop := scriptTextsRow.holds Try.pinned (OpenSpec.ofChange scriptTextsWrong)

/-- 'drogherlaw08.BitsWrites': WHATEVER THE INPUT: true; the input reads as it did. -/
def bitsWritesSpec : ChangeSpec := { name := "bitsWrites", fn := fun _ => fun
  | [d] => { results := [.lit (.bool true)], args := [d] }
  | _ => none }
def bitsWritesRow : OpenClaim := { program := "ytpophpendlnehaa", sum := "652af52e335cc0a28671052071a66b138160bdf828bc74db1406c9ce21c532b3", func := "drogher/drogherlaw08.BitsWrites", spec := "bitsWrites", apart := false }
def BitsWritesSaid : Prop := bitsWritesRow.holds Try.pinned (OpenSpec.ofChange bitsWritesSpec)

/-- ITS FALSE NEIGHBOUR: 'it returns false'. Refute it at one input. -/
def bitsWritesWrong : ChangeSpec := { name := "bitsWrites", fn := fun _ => fun
  | [d] => { results := [.lit (.bool false)], args := [d] }
  | _ => none }
def BitsWritesWrongFalsely : Prop := bitsWritesRow.holds Try.pinned (OpenSpec.ofChange bitsWritesWrong)

/-- 'drogherlaw08.BitsBack': WHATEVER THE INPUT: true; the input reads as it did. -/
def bitsBackSpec : ChangeSpec := { name := "bitsBack", fn := fun _ => fun
  | [d] => { results := [.lit (.bool true)], args := [d] }
  | _ => none }
def bitsBackRow : OpenClaim := { program := "ytpophpendlnehaa", sum := "652af52e335cc0a28671052071a66b138160bdf828bc74db1406c9ce21c532b3", func := "drogher/drogherlaw08.BitsBack", spec := "bitsBack", apart := false }
def BitsBackSaid : Prop := bitsBackRow.holds Try.pinned (OpenSpec.ofChange bitsBackSpec)

/-- ITS FALSE NEIGHBOUR: 'it returns false'. Refute it at one input. -/
def bitsBackWrong : ChangeSpec := { name := "bitsBack", fn := fun _ => fun
  | [d] => { results := [.lit (.bool false)], args := [d] }
  | _ => none }
def BitsBackWrongFalsely : Prop := bitsBackRow.holds Try.pinned (OpenSpec.ofChange bitsBackWrong)

/-- 'drogherlaw08.BitsReads': WHATEVER THE INPUT: true; the input reads as it did. -/
def bitsReadsSpec : ChangeSpec := { name := "bitsReads", fn := fun _ => fun
  | [d1, d2] => { results := [.lit (.bool true)], args := [d1, d2] }
  | _ => none }
def bitsReadsRow : OpenClaim := { program := "ytpophpendlnehaa", sum := "652af52e335cc0a28671052071a66b138160bdf828bc74db1406c9ce21c532b3", func := "drogher/drogherlaw08.BitsReads", spec := "bitsReads", apart := false }
def BitsReadsSaid : Prop := bitsReadsRow.holds Try.pinned (OpenSpec.ofChange bitsReadsSpec)

/-- ITS FALSE NEIGHBOUR: 'it returns false'. Refute it at one input. -/
def bitsReadsWrong : ChangeSpec := { name := "bitsReads", fn := fun _ => fun
  | [d1, d2] => { results := [.lit (.bool false)], args := [d1, d2] }
  | _ => none }
def BitsReadsWrongFalsely : Prop := bitsReadsRow.holds Try.pinned (OpenSpec.ofChange bitsReadsWrong)

/-- 'drogherlaw08.BitsNil': WHATEVER THE INPUT: true; the input reads as it did. -/
def bitsNilSpec : ChangeSpec := { name := "bitsNil", fn := fun _ => fun
  | [d] => { results := [.lit (.bool true)], args := [d] }
  | _ => none }
def bitsNilRow : OpenClaim := { program := "ytpophpendlnehaa", sum := "652af52e335cc0a28671052071a66b138160bdf828bc74db1406c9ce21c532b3", func := "drogher/drogherlaw08.BitsNil", spec := "bitsNil", apart := false }
def BitsNilSaid : Prop := bitsNilRow.holds Try.pinned (OpenSpec.ofChange bitsNilSpec)

/-- ITS FALSE NEIGHBOUR: 'it returns false'. Refute it at one input. -/
def bitsNilWrong : ChangeSpec := { name := "bitsNil", fn := fun _ => fun
  | [d] => { results := [.lit (.bool false)], args := [d] }
  | _ => none }
def BitsNilWrongFalsely : Prop := bitsNilRow.holds Try.pinned (OpenSpec.ofChange bitsNilWrong)

/-- 'drogherlaw09.HuffCodes': WHATEVER THE INPUT: true; the input reads as it did. -/
def huffCodesSpec : ChangeSpec := { name := "huffCodes", fn := fun _ => fun
  | [d] => { results := [.lit (.bool true)], args := [d] }
  | _ => none }
def huffCodesRow : OpenClaim := { program := "ytpophpendlnehaa", sum := "652af52e335cc0a28671052071a66b138160bdf828bc74db1406c9ce21c532b3", func := "drogher/drogherlaw09.HuffCodes", spec := "huffCodes", apart := false }
def HuffCodesSaid : Prop := huffCodesRow.holds Try.pinned (OpenSpec.ofChange huffCodesSpec)

/-- ITS FALSE NEIGHBOUR: 'it returns false'. Refute it at one input. -/
def huffCodesWrong : ChangeSpec := { name := "huffCodes", fn := fun _ => fun
  | [d] => { results := [.lit (.bool false)], args := [d] }
  | _ => none }
def HuffCodesWrongFalsely : Prop := huffCodesRow.holds Try.pinned (OpenSpec.ofChange huffCodesWrong)

/-- 'drogherlaw09.HuffReads': WHATEVER THE INPUT: true; the input reads as it did. -/
def huffReadsSpec : ChangeSpec := { name := "huffReads", fn := fun _ => fun
  | [d1, d2, d3] => { results := [.lit (.bool true)], args := [d1, d2, d3] }
  | _ => none }
def huffReadsRow : OpenClaim := { program := "ytpophpendlnehaa", sum := "652af52e335cc0a28671052071a66b138160bdf828bc74db1406c9ce21c532b3", func := "drogher/drogherlaw09.HuffReads", spec := "huffReads", apart := false }
def HuffReadsSaid : Prop := huffReadsRow.holds Try.pinned (OpenSpec.ofChange huffReadsSpec)

/-- ITS FALSE NEIGHBOUR: 'it returns false'. Refute it at one input. -/
def huffReadsWrong : ChangeSpec := { name := "huffReads", fn := fun _ => fun
  | [d1, d2, d3] => { results := [.lit (.bool false)], args := [d1, d2, d3] }
  | _ => none }
def HuffReadsWrongFalsely : Prop := huffReadsRow.holds Try.pinned (OpenSpec.ofChange huffReadsWrong)

/-- 'drogherlaw09.HuffNil': WHATEVER THE INPUT: true; the input reads as it did. -/
def huffNilSpec : ChangeSpec := { name := "huffNil", fn := fun _ => fun
  | [d] => { results := [.lit (.bool true)], args := [d] }
  | _ => none }
def huffNilRow : OpenClaim := { program := "ytpophpendlnehaa", sum := "652af52e335cc0a28671052071a66b138160bdf828bc74db1406c9ce21c532b3", func := "drogher/drogherlaw09.HuffNil", spec := "huffNil", apart := false }
def HuffNilSaid : Prop := huffNilRow.holds Try.pinned (OpenSpec.ofChange huffNilSpec)

/-- ITS FALSE NEIGHBOUR: 'it returns false'. Refute it at one input. -/
def huffNilWrong : ChangeSpec := { name := "huffNil", fn := fun _ => fun
  | [d] => { results := [.lit (.bool false)], args := [d] }
  | _ => none }
def HuffNilWrongFalsely : Prop := huffNilRow.holds Try.pinned (OpenSpec.ofChange huffNilWrong)

/-- 'drogherlaw09.HuffBack': WHATEVER THE INPUT: true; the input reads as it did. -/
def huffBackSpec : ChangeSpec := { name := "huffBack", fn := fun _ => fun
  | [d1, d2] => { results := [.lit (.bool true)], args := [d1, d2] }
  | _ => none }
def huffBackRow : OpenClaim := { program := "ytpophpendlnehaa", sum := "652af52e335cc0a28671052071a66b138160bdf828bc74db1406c9ce21c532b3", func := "drogher/drogherlaw09.HuffBack", spec := "huffBack", apart := false }
def HuffBackSaid : Prop := huffBackRow.holds Try.pinned (OpenSpec.ofChange huffBackSpec)

/-- ITS FALSE NEIGHBOUR: 'it returns false'. Refute it at one input. -/
def huffBackWrong : ChangeSpec := { name := "huffBack", fn := fun _ => fun
  | [d1, d2] => { results := [.lit (.bool false)], args := [d1, d2] }
  | _ => none }
def HuffBackWrongFalsely : Prop := huffBackRow.holds Try.pinned (OpenSpec.ofChange huffBackWrong)

/- THE SECOND FORM. 'bulk': how many values and letters a reading holds, each counted each time it is reached (what is shared counts as often as it is met; a slice's spare places count too). A statement '..UptoSaid' is the law's where the arguments, and the package variables that the reading takes, are together of bulk at most 1048576: NARROWER than '..Said'. Prove '..Said' where nothing that the law and all that it calls make is longer than what came in: it says more and counts as full. Else prove '..UptoSaid'. A law counts once. -/
mutual
def uptoBulk {H : Type} : DataW H → Nat
  | .lit (.string bytes) => bytes.length + 1
  | .lit _ => 1
  | .nil => 1
  | .ptr d => uptoBulk d + 1
  | .slice elems spare => uptoBulkAll elems + uptoBulkAll spare + 1
  | .agg parts => uptoBulkAll parts + 1
  | .iface _ d => uptoBulk d + 1
  | .map entries => uptoBulkEntries entries + 1
  | .held _ => 1
def uptoBulkAll {H : Type} : List (DataW H) → Nat
  | [] => 0
  | d :: r => uptoBulk d + uptoBulkAll r
def uptoBulkEntries {H : Type} : List (Lit × DataW H) → Nat
  | [] => 0
  | x :: r => uptoBulkEntry x + uptoBulkEntries r
def uptoBulkEntry {H : Type} : Lit × DataW H → Nat
  | (.string bytes, d) => bytes.length + uptoBulk d + 1
  | (_, d) => uptoBulk d + 1
 end
def uptoSmall : (H : Type) → List (DataW H) → Bool := fun _ ds => decide (uptoBulkAll ds ≤ 1048576)
def OpenSpec.upto (s : _root_.Go.ChangeSpec) : _root_.Go.OpenSpec := { _root_.Go.OpenSpec.ofChange s with cond := some uptoSmall }

/-- 'drogherlaw11.LzMay', WHERE WHAT IT READS IS OF BULK AT MOST 1048576: true; the input reads as it did. -/
def lzMayUptoRow : OpenClaim := { program := "ytpophpendlnehaa", sum := "652af52e335cc0a28671052071a66b138160bdf828bc74db1406c9ce21c532b3", func := "drogher/drogherlaw11.LzMay", spec := "lzMay", apart := false, narrowed := true }
def LzMayUptoSaid : Prop := lzMayUptoRow.holds Try.pinned (OpenSpec.upto lzMaySpec)

/-- 'drogherlaw11.LzFinds', WHERE WHAT IT READS IS OF BULK AT MOST 1048576: true; the input reads as it did. -/
def lzFindsUptoRow : OpenClaim := { program := "ytpophpendlnehaa", sum := "652af52e335cc0a28671052071a66b138160bdf828bc74db1406c9ce21c532b3", func := "drogher/drogherlaw11.LzFinds", spec := "lzFinds", apart := false, narrowed := true }
def LzFindsUptoSaid : Prop := lzFindsUptoRow.holds Try.pinned (OpenSpec.upto lzFindsSpec)

/-- 'drogherlaw11.LzAgain', WHERE WHAT IT READS IS OF BULK AT MOST 1048576: true; the input reads as it did. -/
def lzAgainUptoRow : OpenClaim := { program := "ytpophpendlnehaa", sum := "652af52e335cc0a28671052071a66b138160bdf828bc74db1406c9ce21c532b3", func := "drogher/drogherlaw11.LzAgain", spec := "lzAgain", apart := false, narrowed := true }
def LzAgainUptoSaid : Prop := lzAgainUptoRow.holds Try.pinned (OpenSpec.upto lzAgainSpec)

/-- 'drogherlaw30.ScriptTexts', WHERE WHAT IT READS IS OF BULK AT MOST 1048576: true; the input reads as it did. -/
def scriptTextsUptoRow : OpenClaim := { program := "ytpophpendlnehaa", sum := "652af52e335cc0a28671052071a66b138160bdf828bc74db1406c9ce21c532b3", func := "drogher/drogherlaw30.ScriptTexts", spec := "scriptTexts", inPlace := ["internal/abi.NoEscape", "internal/bytealg.IndexByteString"], apart := false, narrowed := true }
def ScriptTextsUptoSaid : Prop := scriptTextsUptoRow.holds Try.pinned (OpenSpec.upto scriptTextsSpec)

/-- 'drogherlaw08.BitsWrites', WHERE WHAT IT READS IS OF BULK AT MOST 1048576: true; the input reads as it did. -/
def bitsWritesUptoRow : OpenClaim := { program := "ytpophpendlnehaa", sum := "652af52e335cc0a28671052071a66b138160bdf828bc74db1406c9ce21c532b3", func := "drogher/drogherlaw08.BitsWrites", spec := "bitsWrites", apart := false, narrowed := true }
def BitsWritesUptoSaid : Prop := bitsWritesUptoRow.holds Try.pinned (OpenSpec.upto bitsWritesSpec)

/-- 'drogherlaw08.BitsBack', WHERE WHAT IT READS IS OF BULK AT MOST 1048576: true; the input reads as it did. -/
def bitsBackUptoRow : OpenClaim := { program := "ytpophpendlnehaa", sum := "652af52e335cc0a28671052071a66b138160bdf828bc74db1406c9ce21c532b3", func := "drogher/drogherlaw08.BitsBack", spec := "bitsBack", apart := false, narrowed := true }
def BitsBackUptoSaid : Prop := bitsBackUptoRow.holds Try.pinned (OpenSpec.upto bitsBackSpec)

/-- 'drogherlaw08.BitsReads', WHERE WHAT IT READS IS OF BULK AT MOST 1048576: true; the input reads as it did. -/
def bitsReadsUptoRow : OpenClaim := { program := "ytpophpendlnehaa", sum := "652af52e335cc0a28671052071a66b138160bdf828bc74db1406c9ce21c532b3", func := "drogher/drogherlaw08.BitsReads", spec := "bitsReads", apart := false, narrowed := true }
def BitsReadsUptoSaid : Prop := bitsReadsUptoRow.holds Try.pinned (OpenSpec.upto bitsReadsSpec)

/-- 'drogherlaw08.BitsNil', WHERE WHAT IT READS IS OF BULK AT MOST 1048576: true; the input reads as it did. -/
def bitsNilUptoRow : OpenClaim := { program := "ytpophpendlnehaa", sum := "652af52e335cc0a28671052071a66b138160bdf828bc74db1406c9ce21c532b3", func := "drogher/drogherlaw08.BitsNil", spec := "bitsNil", apart := false, narrowed := true }
def BitsNilUptoSaid : Prop := bitsNilUptoRow.holds Try.pinned (OpenSpec.upto bitsNilSpec)

/-- 'drogherlaw09.HuffCodes', WHERE WHAT IT READS IS OF BULK AT MOST 1048576: true; the input reads as it did. -/
def huffCodesUptoRow : OpenClaim := { program := "ytpophpendlnehaa", sum := "652af52e335cc0a28671052071a66b138160bdf828bc74db1406c9ce21c532b3", func := "drogher/drogherlaw09.HuffCodes", spec := "huffCodes", apart := false, narrowed := true }
def HuffCodesUptoSaid : Prop := huffCodesUptoRow.holds Try.pinned (OpenSpec.upto huffCodesSpec)

/-- 'drogherlaw09.HuffReads', WHERE WHAT IT READS IS OF BULK AT MOST 1048576: true; the input reads as it did. -/
def huffReadsUptoRow : OpenClaim := { program := "ytpophpendlnehaa", sum := "652af52e335cc0a28671052071a66b138160bdf828bc74db1406c9ce21c532b3", func := "drogher/drogherlaw09.HuffReads", spec := "huffReads", apart := false, narrowed := true }
def HuffReadsUptoSaid : Prop := huffReadsUptoRow.holds Try.pinned (OpenSpec.upto huffReadsSpec)

/-- 'drogherlaw09.HuffNil', WHERE WHAT IT READS IS OF BULK AT MOST 1048576: true; the input reads as it did. -/
def huffNilUptoRow : OpenClaim := { program := "ytpophpendlnehaa", sum := "652af52e335cc0a28671052071a66b138160bdf828bc74db1406c9ce21c532b3", func := "drogher/drogherlaw09.HuffNil", spec := "huffNil", apart := false, narrowed := true }
def HuffNilUptoSaid : Prop := huffNilUptoRow.holds Try.pinned (OpenSpec.upto huffNilSpec)

/-- 'drogherlaw09.HuffBack', WHERE WHAT IT READS IS OF BULK AT MOST 1048576: true; the input reads as it did. -/
def huffBackUptoRow : OpenClaim := { program := "ytpophpendlnehaa", sum := "652af52e335cc0a28671052071a66b138160bdf828bc74db1406c9ce21c532b3", func := "drogher/drogherlaw09.HuffBack", spec := "huffBack", apart := false, narrowed := true }
def HuffBackUptoSaid : Prop := huffBackUptoRow.holds Try.pinned (OpenSpec.upto huffBackSpec)

end Rows
end Go.Proofs.Ytpophpendlnehaa
