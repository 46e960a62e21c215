/-
  No cell of these rows narrows 'for every input' (looked for: loops, veiled, ifaces, maps, wideKeys, modest, calm, conditions, laid).
  DERIVED. THE GIVEN ROWS OF THIS SEAT. 18 by the template 'for every input the law returns true; each argument reads behind the call as it read before'; 0 by the template 'total and deterministic' (their statements: YtmedbpiapeiobaaTotals.lean).
  GIVEN WITH THE SEED: the statements are not yours to turn. If you find one false, say at which input.
  Laid BY PROGRAM, IN A SANDBOX (cutbox-rows.mjs): the forced cells as the released guide's own fill.sh prints them over the translation 09574db136d687b0… (all of the seat's roots in one cut). By AI agents, Wed Nov 11 2026. No macro, syntax, notation, axiom, sorry.
-/
import Derived.Test.YtmedbpiapeiobaaChecked
import GoSem.Claim
import GoSem.ClaimJoined
import GoSem.ClaimMapViews
import Derived.JoinedTies
import Derived.KernelRfl
namespace Go.Proofs.Ytmedbpiapeiobaa
/- THE CELL 'sum', in the pinned program and in every row, IS THE sha256 OF THE DUMP (.gsa) THAT YtmedbpiapeiobaaProg.lean LOADS. Nothing in Lean hashes anything: it is a label: what it is worth is what the hold of that sum in a sandbox is worth. -/
noncomputable def Try.pinned : Pinned := { name := "ytmedbpiapeiobaa", sum := "09574db136d687b059bfccd3fec3b63da6bd0816c9bffb9aaae012f0bde7422a", checked := Try.checked }
namespace Rows
def none {H : Type} : Left H := { results := [], args := [] }

/-- 'drogherlaw02.OctetDigits': WHATEVER THE INPUT: true; the input reads as it did. -/
def octetDigitsSpec : ChangeSpec := { name := "octetDigits", fn := fun _ => fun
  | [d1, d2, d3] => { results := [.lit (.bool true)], args := [d1, d2, d3] }
  | _ => none }
def octetDigitsRow : OpenClaim := { program := "ytmedbpiapeiobaa", sum := "09574db136d687b059bfccd3fec3b63da6bd0816c9bffb9aaae012f0bde7422a", func := "drogher/drogherlaw02.OctetDigits", spec := "octetDigits", apart := false }
def OctetDigitsSaid : Prop := octetDigitsRow.holds Try.pinned (OpenSpec.ofChange octetDigitsSpec)

/-- ITS FALSE NEIGHBOUR: 'it returns false'. Refute it at one input. -/
def octetDigitsWrong : ChangeSpec := { name := "octetDigits", fn := fun _ => fun
  | [d1, d2, d3] => { results := [.lit (.bool false)], args := [d1, d2, d3] }
  | _ => none }
def OctetDigitsWrongFalsely : Prop := octetDigitsRow.holds Try.pinned (OpenSpec.ofChange octetDigitsWrong)

/-- 'drogherlaw02.OctetNumbers': WHATEVER THE INPUT: true; the input reads as it did. -/
def octetNumbersSpec : ChangeSpec := { name := "octetNumbers", fn := fun _ => fun
  | [d1, d2, d3] => { results := [.lit (.bool true)], args := [d1, d2, d3] }
  | _ => none }
def octetNumbersRow : OpenClaim := { program := "ytmedbpiapeiobaa", sum := "09574db136d687b059bfccd3fec3b63da6bd0816c9bffb9aaae012f0bde7422a", func := "drogher/drogherlaw02.OctetNumbers", spec := "octetNumbers", apart := false }
def OctetNumbersSaid : Prop := octetNumbersRow.holds Try.pinned (OpenSpec.ofChange octetNumbersSpec)

/-- ITS FALSE NEIGHBOUR: 'it returns false'. Refute it at one input. -/
def octetNumbersWrong : ChangeSpec := { name := "octetNumbers", fn := fun _ => fun
  | [d1, d2, d3] => { results := [.lit (.bool false)], args := [d1, d2, d3] }
  | _ => none }
def OctetNumbersWrongFalsely : Prop := octetNumbersRow.holds Try.pinned (OpenSpec.ofChange octetNumbersWrong)

/-- 'drogherlaw02.OctetGets': WHATEVER THE INPUT: true; the input reads as it did. -/
def octetGetsSpec : ChangeSpec := { name := "octetGets", fn := fun _ => fun
  | [d1, d2, d3] => { results := [.lit (.bool true)], args := [d1, d2, d3] }
  | _ => none }
def octetGetsRow : OpenClaim := { program := "ytmedbpiapeiobaa", sum := "09574db136d687b059bfccd3fec3b63da6bd0816c9bffb9aaae012f0bde7422a", func := "drogher/drogherlaw02.OctetGets", spec := "octetGets", apart := false }
def OctetGetsSaid : Prop := octetGetsRow.holds Try.pinned (OpenSpec.ofChange octetGetsSpec)

/-- ITS FALSE NEIGHBOUR: 'it returns false'. Refute it at one input. -/
def octetGetsWrong : ChangeSpec := { name := "octetGets", fn := fun _ => fun
  | [d1, d2, d3] => { results := [.lit (.bool false)], args := [d1, d2, d3] }
  | _ => none }
def OctetGetsWrongFalsely : Prop := octetGetsRow.holds Try.pinned (OpenSpec.ofChange octetGetsWrong)

/-- 'drogherlaw02.OctetChecks': WHATEVER THE INPUT: true; the input reads as it did. -/
def octetChecksSpec : ChangeSpec := { name := "octetChecks", fn := fun _ => fun
  | [d1, d2] => { results := [.lit (.bool true)], args := [d1, d2] }
  | _ => none }
def octetChecksRow : OpenClaim := { program := "ytmedbpiapeiobaa", sum := "09574db136d687b059bfccd3fec3b63da6bd0816c9bffb9aaae012f0bde7422a", func := "drogher/drogherlaw02.OctetChecks", spec := "octetChecks", apart := false }
def OctetChecksSaid : Prop := octetChecksRow.holds Try.pinned (OpenSpec.ofChange octetChecksSpec)

/-- ITS FALSE NEIGHBOUR: 'it returns false'. Refute it at one input. -/
def octetChecksWrong : ChangeSpec := { name := "octetChecks", fn := fun _ => fun
  | [d1, d2] => { results := [.lit (.bool false)], args := [d1, d2] }
  | _ => none }
def OctetChecksWrongFalsely : Prop := octetChecksRow.holds Try.pinned (OpenSpec.ofChange octetChecksWrong)

/-- 'drogherlaw02.OctetLess': WHATEVER THE INPUT: true; the input reads as it did. -/
def octetLessSpec : ChangeSpec := { name := "octetLess", fn := fun _ => fun
  | [d1, d2, d3, d4] => { results := [.lit (.bool true)], args := [d1, d2, d3, d4] }
  | _ => none }
def octetLessRow : OpenClaim := { program := "ytmedbpiapeiobaa", sum := "09574db136d687b059bfccd3fec3b63da6bd0816c9bffb9aaae012f0bde7422a", func := "drogher/drogherlaw02.OctetLess", spec := "octetLess", apart := false }
def OctetLessSaid : Prop := octetLessRow.holds Try.pinned (OpenSpec.ofChange octetLessSpec)

/-- ITS FALSE NEIGHBOUR: 'it returns false'. Refute it at one input. -/
def octetLessWrong : ChangeSpec := { name := "octetLess", fn := fun _ => fun
  | [d1, d2, d3, d4] => { results := [.lit (.bool false)], args := [d1, d2, d3, d4] }
  | _ => none }
def OctetLessWrongFalsely : Prop := octetLessRow.holds Try.pinned (OpenSpec.ofChange octetLessWrong)

/-- 'drogherlaw01.ShaSums': WHATEVER THE INPUT: true; the input reads as it did. -/
def shaSumsSpec : ChangeSpec := { name := "shaSums", fn := fun _ => fun
  | [d] => { results := [.lit (.bool true)], args := [d] }
  | _ => none }
def shaSumsRow : OpenClaim := { program := "ytmedbpiapeiobaa", sum := "09574db136d687b059bfccd3fec3b63da6bd0816c9bffb9aaae012f0bde7422a", func := "drogher/drogherlaw01.ShaSums", spec := "shaSums", recurses := true, apart := false }
def ShaSumsSaid : Prop := shaSumsRow.holds Try.pinned (OpenSpec.ofChange shaSumsSpec)

/-- ITS FALSE NEIGHBOUR: 'it returns false'. Refute it at one input. -/
def shaSumsWrong : ChangeSpec := { name := "shaSums", fn := fun _ => fun
  | [d] => { results := [.lit (.bool false)], args := [d] }
  | _ => none }
def ShaSumsWrongFalsely : Prop := shaSumsRow.holds Try.pinned (OpenSpec.ofChange shaSumsWrong)

/-- 'drogherlaw01.ShaKeeps': WHATEVER THE INPUT: true; the input reads as it did. -/
def shaKeepsSpec : ChangeSpec := { name := "shaKeeps", fn := fun _ => fun
  | [d1, d2] => { results := [.lit (.bool true)], args := [d1, d2] }
  | _ => none }
def shaKeepsRow : OpenClaim := { program := "ytmedbpiapeiobaa", sum := "09574db136d687b059bfccd3fec3b63da6bd0816c9bffb9aaae012f0bde7422a", func := "drogher/drogherlaw01.ShaKeeps", spec := "shaKeeps", recurses := true, apart := false }
def ShaKeepsSaid : Prop := shaKeepsRow.holds Try.pinned (OpenSpec.ofChange shaKeepsSpec)

/-- ITS FALSE NEIGHBOUR: 'it returns false'. Refute it at one input. -/
def shaKeepsWrong : ChangeSpec := { name := "shaKeeps", fn := fun _ => fun
  | [d1, d2] => { results := [.lit (.bool false)], args := [d1, d2] }
  | _ => none }
def ShaKeepsWrongFalsely : Prop := shaKeepsRow.holds Try.pinned (OpenSpec.ofChange shaKeepsWrong)

/-- 'drogherlaw01.ShaRows': WHATEVER THE INPUT: true; the input reads as it did. -/
def shaRowsSpec : ChangeSpec := { name := "shaRows", fn := fun _ => fun
  | [d] => { results := [.lit (.bool true)], args := [d] }
  | _ => none }
def shaRowsRow : OpenClaim := { program := "ytmedbpiapeiobaa", sum := "09574db136d687b059bfccd3fec3b63da6bd0816c9bffb9aaae012f0bde7422a", func := "drogher/drogherlaw01.ShaRows", spec := "shaRows", recurses := true, apart := false }
def ShaRowsSaid : Prop := shaRowsRow.holds Try.pinned (OpenSpec.ofChange shaRowsSpec)

/-- ITS FALSE NEIGHBOUR: 'it returns false'. Refute it at one input. -/
def shaRowsWrong : ChangeSpec := { name := "shaRows", fn := fun _ => fun
  | [d] => { results := [.lit (.bool false)], args := [d] }
  | _ => none }
def ShaRowsWrongFalsely : Prop := shaRowsRow.holds Try.pinned (OpenSpec.ofChange shaRowsWrong)

/-- 'drogherlaw01.ShaCopies': WHATEVER THE INPUT: true; the input reads as it did. -/
def shaCopiesSpec : ChangeSpec := { name := "shaCopies", fn := fun _ => fun
  | [d1, d2, d3] => { results := [.lit (.bool true)], args := [d1, d2, d3] }
  | _ => none }
def shaCopiesRow : OpenClaim := { program := "ytmedbpiapeiobaa", sum := "09574db136d687b059bfccd3fec3b63da6bd0816c9bffb9aaae012f0bde7422a", func := "drogher/drogherlaw01.ShaCopies", spec := "shaCopies", recurses := true, apart := false }
def ShaCopiesSaid : Prop := shaCopiesRow.holds Try.pinned (OpenSpec.ofChange shaCopiesSpec)

/-- ITS FALSE NEIGHBOUR: 'it returns false'. Refute it at one input. -/
def shaCopiesWrong : ChangeSpec := { name := "shaCopies", fn := fun _ => fun
  | [d1, d2, d3] => { results := [.lit (.bool false)], args := [d1, d2, d3] }
  | _ => none }
def ShaCopiesWrongFalsely : Prop := shaCopiesRow.holds Try.pinned (OpenSpec.ofChange shaCopiesWrong)

/-- 'drogherlaw01.ShaNil': WHATEVER THE INPUT: true; the input reads as it did. -/
def shaNilSpec : ChangeSpec := { name := "shaNil", fn := fun _ => fun
  | [d] => { results := [.lit (.bool true)], args := [d] }
  | _ => none }
def shaNilRow : OpenClaim := { program := "ytmedbpiapeiobaa", sum := "09574db136d687b059bfccd3fec3b63da6bd0816c9bffb9aaae012f0bde7422a", func := "drogher/drogherlaw01.ShaNil", spec := "shaNil", recurses := true, apart := false }
def ShaNilSaid : Prop := shaNilRow.holds Try.pinned (OpenSpec.ofChange shaNilSpec)

/-- ITS FALSE NEIGHBOUR: 'it returns false'. Refute it at one input. -/
def shaNilWrong : ChangeSpec := { name := "shaNil", fn := fun _ => fun
  | [d] => { results := [.lit (.bool false)], args := [d] }
  | _ => none }
def ShaNilWrongFalsely : Prop := shaNilRow.holds Try.pinned (OpenSpec.ofChange shaNilWrong)

/-- 'drogherlaw21.MerkleRoots': WHATEVER THE INPUT: true; the input reads as it did. -/
def merkleRootsSpec : ChangeSpec := { name := "merkleRoots", fn := fun _ => fun
  | [d1, d2] => { results := [.lit (.bool true)], args := [d1, d2] }
  | _ => none }
def merkleRootsRow : OpenClaim := { program := "ytmedbpiapeiobaa", sum := "09574db136d687b059bfccd3fec3b63da6bd0816c9bffb9aaae012f0bde7422a", func := "drogher/drogherlaw21.MerkleRoots", spec := "merkleRoots", recurses := true, apart := false }
def MerkleRootsSaid : Prop := merkleRootsRow.holds Try.pinned (OpenSpec.ofChange merkleRootsSpec)

/-- ITS FALSE NEIGHBOUR: 'it returns false'. Refute it at one input. -/
def merkleRootsWrong : ChangeSpec := { name := "merkleRoots", fn := fun _ => fun
  | [d1, d2] => { results := [.lit (.bool false)], args := [d1, d2] }
  | _ => none }
def MerkleRootsWrongFalsely : Prop := merkleRootsRow.holds Try.pinned (OpenSpec.ofChange merkleRootsWrong)

/-- 'drogherlaw21.MerkleLeads': WHATEVER THE INPUT: true; the input reads as it did. -/
def merkleLeadsSpec : ChangeSpec := { name := "merkleLeads", fn := fun _ => fun
  | [d1, d2, d3, d4] => { results := [.lit (.bool true)], args := [d1, d2, d3, d4] }
  | _ => none }
def merkleLeadsRow : OpenClaim := { program := "ytmedbpiapeiobaa", sum := "09574db136d687b059bfccd3fec3b63da6bd0816c9bffb9aaae012f0bde7422a", func := "drogher/drogherlaw21.MerkleLeads", spec := "merkleLeads", recurses := true, apart := false }
def MerkleLeadsSaid : Prop := merkleLeadsRow.holds Try.pinned (OpenSpec.ofChange merkleLeadsSpec)

/-- ITS FALSE NEIGHBOUR: 'it returns false'. Refute it at one input. -/
def merkleLeadsWrong : ChangeSpec := { name := "merkleLeads", fn := fun _ => fun
  | [d1, d2, d3, d4] => { results := [.lit (.bool false)], args := [d1, d2, d3, d4] }
  | _ => none }
def MerkleLeadsWrongFalsely : Prop := merkleLeadsRow.holds Try.pinned (OpenSpec.ofChange merkleLeadsWrong)

/-- 'drogherlaw21.MerkleBinds': WHATEVER THE INPUT: true; the input reads as it did. -/
def merkleBindsSpec : ChangeSpec := { name := "merkleBinds", fn := fun _ => fun
  | [d1, d2, d3, d4] => { results := [.lit (.bool true)], args := [d1, d2, d3, d4] }
  | _ => none }
def merkleBindsRow : OpenClaim := { program := "ytmedbpiapeiobaa", sum := "09574db136d687b059bfccd3fec3b63da6bd0816c9bffb9aaae012f0bde7422a", func := "drogher/drogherlaw21.MerkleBinds", spec := "merkleBinds", recurses := true, apart := false }
def MerkleBindsSaid : Prop := merkleBindsRow.holds Try.pinned (OpenSpec.ofChange merkleBindsSpec)

/-- ITS FALSE NEIGHBOUR: 'it returns false'. Refute it at one input. -/
def merkleBindsWrong : ChangeSpec := { name := "merkleBinds", fn := fun _ => fun
  | [d1, d2, d3, d4] => { results := [.lit (.bool false)], args := [d1, d2, d3, d4] }
  | _ => none }
def MerkleBindsWrongFalsely : Prop := merkleBindsRow.holds Try.pinned (OpenSpec.ofChange merkleBindsWrong)

/-- 'drogherlaw21.MerkleWays': WHATEVER THE INPUT: true; the input reads as it did. -/
def merkleWaysSpec : ChangeSpec := { name := "merkleWays", fn := fun _ => fun
  | [d1, d2] => { results := [.lit (.bool true)], args := [d1, d2] }
  | _ => none }
def merkleWaysRow : OpenClaim := { program := "ytmedbpiapeiobaa", sum := "09574db136d687b059bfccd3fec3b63da6bd0816c9bffb9aaae012f0bde7422a", func := "drogher/drogherlaw21.MerkleWays", spec := "merkleWays", recurses := true, apart := false }
def MerkleWaysSaid : Prop := merkleWaysRow.holds Try.pinned (OpenSpec.ofChange merkleWaysSpec)

/-- ITS FALSE NEIGHBOUR: 'it returns false'. Refute it at one input. -/
def merkleWaysWrong : ChangeSpec := { name := "merkleWays", fn := fun _ => fun
  | [d1, d2] => { results := [.lit (.bool false)], args := [d1, d2] }
  | _ => none }
def MerkleWaysWrongFalsely : Prop := merkleWaysRow.holds Try.pinned (OpenSpec.ofChange merkleWaysWrong)

/-- 'drogherlaw03.OtsKeys': WHATEVER THE INPUT: true; the input reads as it did. -/
def otsKeysSpec : ChangeSpec := { name := "otsKeys", fn := fun _ => fun
  | [d1, d2, d3, d4] => { results := [.lit (.bool true)], args := [d1, d2, d3, d4] }
  | _ => none }
def otsKeysRow : OpenClaim := { program := "ytmedbpiapeiobaa", sum := "09574db136d687b059bfccd3fec3b63da6bd0816c9bffb9aaae012f0bde7422a", func := "drogher/drogherlaw03.OtsKeys", spec := "otsKeys", recurses := true, apart := false }
def OtsKeysSaid : Prop := otsKeysRow.holds Try.pinned (OpenSpec.ofChange otsKeysSpec)

/-- ITS FALSE NEIGHBOUR: 'it returns false'. Refute it at one input. -/
def otsKeysWrong : ChangeSpec := { name := "otsKeys", fn := fun _ => fun
  | [d1, d2, d3, d4] => { results := [.lit (.bool false)], args := [d1, d2, d3, d4] }
  | _ => none }
def OtsKeysWrongFalsely : Prop := otsKeysRow.holds Try.pinned (OpenSpec.ofChange otsKeysWrong)

/-- 'drogherlaw03.OtsSigns': WHATEVER THE INPUT: true; the input reads as it did. -/
def otsSignsSpec : ChangeSpec := { name := "otsSigns", fn := fun _ => fun
  | [d1, d2, d3, d4, d5] => { results := [.lit (.bool true)], args := [d1, d2, d3, d4, d5] }
  | _ => none }
def otsSignsRow : OpenClaim := { program := "ytmedbpiapeiobaa", sum := "09574db136d687b059bfccd3fec3b63da6bd0816c9bffb9aaae012f0bde7422a", func := "drogher/drogherlaw03.OtsSigns", spec := "otsSigns", recurses := true, apart := false }
def OtsSignsSaid : Prop := otsSignsRow.holds Try.pinned (OpenSpec.ofChange otsSignsSpec)

/-- ITS FALSE NEIGHBOUR: 'it returns false'. Refute it at one input. -/
def otsSignsWrong : ChangeSpec := { name := "otsSigns", fn := fun _ => fun
  | [d1, d2, d3, d4, d5] => { results := [.lit (.bool false)], args := [d1, d2, d3, d4, d5] }
  | _ => none }
def OtsSignsWrongFalsely : Prop := otsSignsRow.holds Try.pinned (OpenSpec.ofChange otsSignsWrong)

/-- 'drogherlaw03.OtsReads': WHATEVER THE INPUT: true; the input reads as it did. -/
def otsReadsSpec : ChangeSpec := { name := "otsReads", fn := fun _ => fun
  | [d1, d2, d3, d4, d5] => { results := [.lit (.bool true)], args := [d1, d2, d3, d4, d5] }
  | _ => none }
def otsReadsRow : OpenClaim := { program := "ytmedbpiapeiobaa", sum := "09574db136d687b059bfccd3fec3b63da6bd0816c9bffb9aaae012f0bde7422a", func := "drogher/drogherlaw03.OtsReads", spec := "otsReads", recurses := true, apart := false }
def OtsReadsSaid : Prop := otsReadsRow.holds Try.pinned (OpenSpec.ofChange otsReadsSpec)

/-- ITS FALSE NEIGHBOUR: 'it returns false'. Refute it at one input. -/
def otsReadsWrong : ChangeSpec := { name := "otsReads", fn := fun _ => fun
  | [d1, d2, d3, d4, d5] => { results := [.lit (.bool false)], args := [d1, d2, d3, d4, d5] }
  | _ => none }
def OtsReadsWrongFalsely : Prop := otsReadsRow.holds Try.pinned (OpenSpec.ofChange otsReadsWrong)

/-- 'drogherlaw03.OtsSpoilt': WHATEVER THE INPUT: true; the input reads as it did. -/
def otsSpoiltSpec : ChangeSpec := { name := "otsSpoilt", fn := fun _ => fun
  | [d1, d2, d3, d4, d5, d6, d7] => { results := [.lit (.bool true)], args := [d1, d2, d3, d4, d5, d6, d7] }
  | _ => none }
def otsSpoiltRow : OpenClaim := { program := "ytmedbpiapeiobaa", sum := "09574db136d687b059bfccd3fec3b63da6bd0816c9bffb9aaae012f0bde7422a", func := "drogher/drogherlaw03.OtsSpoilt", spec := "otsSpoilt", recurses := true, apart := false }
def OtsSpoiltSaid : Prop := otsSpoiltRow.holds Try.pinned (OpenSpec.ofChange otsSpoiltSpec)

/-- ITS FALSE NEIGHBOUR: 'it returns false'. Refute it at one input. -/
def otsSpoiltWrong : ChangeSpec := { name := "otsSpoilt", fn := fun _ => fun
  | [d1, d2, d3, d4, d5, d6, d7] => { results := [.lit (.bool false)], args := [d1, d2, d3, d4, d5, d6, d7] }
  | _ => none }
def OtsSpoiltWrongFalsely : Prop := otsSpoiltRow.holds Try.pinned (OpenSpec.ofChange otsSpoiltWrong)

/- THE SECOND FORM. 'bulk': how many values and letters a reading holds, each counted each time it is reached (what is shared counts as often as it is met; a slice's spare places count too). A statement '..UptoSaid' is the law's where the arguments, and the package variables that the reading takes, are together of bulk at most 1048576: NARROWER than '..Said'. Prove '..Said' where nothing that the law and all that it calls make is longer than what came in: it says more and counts as full. Else prove '..UptoSaid'. A law counts once. -/
mutual
def uptoBulk {H : Type} : DataW H → Nat
  | .lit (.string bytes) => bytes.length + 1
  | .lit _ => 1
  | .nil => 1
  | .ptr d => uptoBulk d + 1
  | .slice elems spare => uptoBulkAll elems + uptoBulkAll spare + 1
  | .agg parts => uptoBulkAll parts + 1
  | .iface _ d => uptoBulk d + 1
  | .map entries => uptoBulkEntries entries + 1
  | .held _ => 1
def uptoBulkAll {H : Type} : List (DataW H) → Nat
  | [] => 0
  | d :: r => uptoBulk d + uptoBulkAll r
def uptoBulkEntries {H : Type} : List (Lit × DataW H) → Nat
  | [] => 0
  | x :: r => uptoBulkEntry x + uptoBulkEntries r
def uptoBulkEntry {H : Type} : Lit × DataW H → Nat
  | (.string bytes, d) => bytes.length + uptoBulk d + 1
  | (_, d) => uptoBulk d + 1
 end
def uptoSmall : (H : Type) → List (DataW H) → Bool := fun _ ds => decide (uptoBulkAll ds ≤ 1048576)
def OpenSpec.upto (s : _root_.Go.ChangeSpec) : _root_.Go.OpenSpec := { _root_.Go.OpenSpec.ofChange s with cond := some uptoSmall }

/-- 'drogherlaw02.OctetDigits', WHERE WHAT IT READS IS OF BULK AT MOST 1048576: true; the input reads as it did. -/
def octetDigitsUptoRow : OpenClaim := { program := "ytmedbpiapeiobaa", sum := "09574db136d687b059bfccd3fec3b63da6bd0816c9bffb9aaae012f0bde7422a", func := "drogher/drogherlaw02.OctetDigits", spec := "octetDigits", apart := false, narrowed := true }
def OctetDigitsUptoSaid : Prop := octetDigitsUptoRow.holds Try.pinned (OpenSpec.upto octetDigitsSpec)

/-- 'drogherlaw02.OctetNumbers', WHERE WHAT IT READS IS OF BULK AT MOST 1048576: true; the input reads as it did. -/
def octetNumbersUptoRow : OpenClaim := { program := "ytmedbpiapeiobaa", sum := "09574db136d687b059bfccd3fec3b63da6bd0816c9bffb9aaae012f0bde7422a", func := "drogher/drogherlaw02.OctetNumbers", spec := "octetNumbers", apart := false, narrowed := true }
def OctetNumbersUptoSaid : Prop := octetNumbersUptoRow.holds Try.pinned (OpenSpec.upto octetNumbersSpec)

/-- 'drogherlaw02.OctetGets', WHERE WHAT IT READS IS OF BULK AT MOST 1048576: true; the input reads as it did. -/
def octetGetsUptoRow : OpenClaim := { program := "ytmedbpiapeiobaa", sum := "09574db136d687b059bfccd3fec3b63da6bd0816c9bffb9aaae012f0bde7422a", func := "drogher/drogherlaw02.OctetGets", spec := "octetGets", apart := false, narrowed := true }
def OctetGetsUptoSaid : Prop := octetGetsUptoRow.holds Try.pinned (OpenSpec.upto octetGetsSpec)

/-- 'drogherlaw02.OctetChecks', WHERE WHAT IT READS IS OF BULK AT MOST 1048576: true; the input reads as it did. -/
def octetChecksUptoRow : OpenClaim := { program := "ytmedbpiapeiobaa", sum := "09574db136d687b059bfccd3fec3b63da6bd0816c9bffb9aaae012f0bde7422a", func := "drogher/drogherlaw02.OctetChecks", spec := "octetChecks", apart := false, narrowed := true }
def OctetChecksUptoSaid : Prop := octetChecksUptoRow.holds Try.pinned (OpenSpec.upto octetChecksSpec)

/-- 'drogherlaw02.OctetLess', WHERE WHAT IT READS IS OF BULK AT MOST 1048576: true; the input reads as it did. -/
def octetLessUptoRow : OpenClaim := { program := "ytmedbpiapeiobaa", sum := "09574db136d687b059bfccd3fec3b63da6bd0816c9bffb9aaae012f0bde7422a", func := "drogher/drogherlaw02.OctetLess", spec := "octetLess", apart := false, narrowed := true }
def OctetLessUptoSaid : Prop := octetLessUptoRow.holds Try.pinned (OpenSpec.upto octetLessSpec)

/-- 'drogherlaw01.ShaSums', WHERE WHAT IT READS IS OF BULK AT MOST 1048576: true; the input reads as it did. -/
def shaSumsUptoRow : OpenClaim := { program := "ytmedbpiapeiobaa", sum := "09574db136d687b059bfccd3fec3b63da6bd0816c9bffb9aaae012f0bde7422a", func := "drogher/drogherlaw01.ShaSums", spec := "shaSums", recurses := true, apart := false, narrowed := true }
def ShaSumsUptoSaid : Prop := shaSumsUptoRow.holds Try.pinned (OpenSpec.upto shaSumsSpec)

/-- 'drogherlaw01.ShaKeeps', WHERE WHAT IT READS IS OF BULK AT MOST 1048576: true; the input reads as it did. -/
def shaKeepsUptoRow : OpenClaim := { program := "ytmedbpiapeiobaa", sum := "09574db136d687b059bfccd3fec3b63da6bd0816c9bffb9aaae012f0bde7422a", func := "drogher/drogherlaw01.ShaKeeps", spec := "shaKeeps", recurses := true, apart := false, narrowed := true }
def ShaKeepsUptoSaid : Prop := shaKeepsUptoRow.holds Try.pinned (OpenSpec.upto shaKeepsSpec)

/-- 'drogherlaw01.ShaRows', WHERE WHAT IT READS IS OF BULK AT MOST 1048576: true; the input reads as it did. -/
def shaRowsUptoRow : OpenClaim := { program := "ytmedbpiapeiobaa", sum := "09574db136d687b059bfccd3fec3b63da6bd0816c9bffb9aaae012f0bde7422a", func := "drogher/drogherlaw01.ShaRows", spec := "shaRows", recurses := true, apart := false, narrowed := true }
def ShaRowsUptoSaid : Prop := shaRowsUptoRow.holds Try.pinned (OpenSpec.upto shaRowsSpec)

/-- 'drogherlaw01.ShaCopies', WHERE WHAT IT READS IS OF BULK AT MOST 1048576: true; the input reads as it did. -/
def shaCopiesUptoRow : OpenClaim := { program := "ytmedbpiapeiobaa", sum := "09574db136d687b059bfccd3fec3b63da6bd0816c9bffb9aaae012f0bde7422a", func := "drogher/drogherlaw01.ShaCopies", spec := "shaCopies", recurses := true, apart := false, narrowed := true }
def ShaCopiesUptoSaid : Prop := shaCopiesUptoRow.holds Try.pinned (OpenSpec.upto shaCopiesSpec)

/-- 'drogherlaw01.ShaNil', WHERE WHAT IT READS IS OF BULK AT MOST 1048576: true; the input reads as it did. -/
def shaNilUptoRow : OpenClaim := { program := "ytmedbpiapeiobaa", sum := "09574db136d687b059bfccd3fec3b63da6bd0816c9bffb9aaae012f0bde7422a", func := "drogher/drogherlaw01.ShaNil", spec := "shaNil", recurses := true, apart := false, narrowed := true }
def ShaNilUptoSaid : Prop := shaNilUptoRow.holds Try.pinned (OpenSpec.upto shaNilSpec)

/-- 'drogherlaw21.MerkleRoots', WHERE WHAT IT READS IS OF BULK AT MOST 1048576: true; the input reads as it did. -/
def merkleRootsUptoRow : OpenClaim := { program := "ytmedbpiapeiobaa", sum := "09574db136d687b059bfccd3fec3b63da6bd0816c9bffb9aaae012f0bde7422a", func := "drogher/drogherlaw21.MerkleRoots", spec := "merkleRoots", recurses := true, apart := false, narrowed := true }
def MerkleRootsUptoSaid : Prop := merkleRootsUptoRow.holds Try.pinned (OpenSpec.upto merkleRootsSpec)

/-- 'drogherlaw21.MerkleLeads', WHERE WHAT IT READS IS OF BULK AT MOST 1048576: true; the input reads as it did. -/
def merkleLeadsUptoRow : OpenClaim := { program := "ytmedbpiapeiobaa", sum := "09574db136d687b059bfccd3fec3b63da6bd0816c9bffb9aaae012f0bde7422a", func := "drogher/drogherlaw21.MerkleLeads", spec := "merkleLeads", recurses := true, apart := false, narrowed := true }
def MerkleLeadsUptoSaid : Prop := merkleLeadsUptoRow.holds Try.pinned (OpenSpec.upto merkleLeadsSpec)

/-- 'drogherlaw21.MerkleBinds', WHERE WHAT IT READS IS OF BULK AT MOST 1048576: true; the input reads as it did. -/
def merkleBindsUptoRow : OpenClaim := { program := "ytmedbpiapeiobaa", sum := "09574db136d687b059bfccd3fec3b63da6bd0816c9bffb9aaae012f0bde7422a", func := "drogher/drogherlaw21.MerkleBinds", spec := "merkleBinds", recurses := true, apart := false, narrowed := true }
def MerkleBindsUptoSaid : Prop := merkleBindsUptoRow.holds Try.pinned (OpenSpec.upto merkleBindsSpec)

/-- 'drogherlaw21.MerkleWays', WHERE WHAT IT READS IS OF BULK AT MOST 1048576: true; the input reads as it did. -/
def merkleWaysUptoRow : OpenClaim := { program := "ytmedbpiapeiobaa", sum := "09574db136d687b059bfccd3fec3b63da6bd0816c9bffb9aaae012f0bde7422a", func := "drogher/drogherlaw21.MerkleWays", spec := "merkleWays", recurses := true, apart := false, narrowed := true }
def MerkleWaysUptoSaid : Prop := merkleWaysUptoRow.holds Try.pinned (OpenSpec.upto merkleWaysSpec)

/-- 'drogherlaw03.OtsKeys', WHERE WHAT IT READS IS OF BULK AT MOST 1048576: true; the input reads as it did. -/
def otsKeysUptoRow : OpenClaim := { program := "ytmedbpiapeiobaa", sum := "09574db136d687b059bfccd3fec3b63da6bd0816c9bffb9aaae012f0bde7422a", func := "drogher/drogherlaw03.OtsKeys", spec := "otsKeys", recurses := true, apart := false, narrowed := true }
def OtsKeysUptoSaid : Prop := otsKeysUptoRow.holds Try.pinned (OpenSpec.upto otsKeysSpec)

/-- 'drogherlaw03.OtsSigns', WHERE WHAT IT READS IS OF BULK AT MOST 1048576: true; the input reads as it did. -/
def otsSignsUptoRow : OpenClaim := { program := "ytmedbpiapeiobaa", sum := "09574db136d687b059bfccd3fec3b63da6bd0816c9bffb9aaae012f0bde7422a", func := "drogher/drogherlaw03.OtsSigns", spec := "otsSigns", recurses := true, apart := false, narrowed := true }
def OtsSignsUptoSaid : Prop := otsSignsUptoRow.holds Try.pinned (OpenSpec.upto otsSignsSpec)

/-- 'drogherlaw03.OtsReads', WHERE WHAT IT READS IS OF BULK AT MOST 1048576: true; the input reads as it did. -/
def otsReadsUptoRow : OpenClaim := { program := "ytmedbpiapeiobaa", sum := "09574db136d687b059bfccd3fec3b63da6bd0816c9bffb9aaae012f0bde7422a", func := "drogher/drogherlaw03.OtsReads", spec := "otsReads", recurses := true, apart := false, narrowed := true }
def OtsReadsUptoSaid : Prop := otsReadsUptoRow.holds Try.pinned (OpenSpec.upto otsReadsSpec)

/-- 'drogherlaw03.OtsSpoilt', WHERE WHAT IT READS IS OF BULK AT MOST 1048576: true; the input reads as it did. -/
def otsSpoiltUptoRow : OpenClaim := { program := "ytmedbpiapeiobaa", sum := "09574db136d687b059bfccd3fec3b63da6bd0816c9bffb9aaae012f0bde7422a", func := "drogher/drogherlaw03.OtsSpoilt", spec := "otsSpoilt", recurses := true, apart := false, narrowed := true }
def OtsSpoiltUptoSaid : Prop := otsSpoiltUptoRow.holds Try.pinned (OpenSpec.upto otsSpoiltSpec)

end Rows
end Go.Proofs.Ytmedbpiapeiobaa
