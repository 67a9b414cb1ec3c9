/-
  No cell of these rows narrows 'for every input' (looked for: loops, veiled, ifaces, maps, wideKeys, modest, calm, conditions, laid).
  DERIVED. THE GIVEN ROWS OF THIS SEAT. 12 by the template 'for every input the law returns true; each argument reads behind the call as it read before'; 0 by the template 'total and deterministic' (their statements: YtpfgjkgjeejghaaTotals.lean).
  GIVEN WITH THE SEED: the statements are not yours to turn. If you find one false, say at which input.
  Laid BY PROGRAM, IN A SANDBOX (cutbox-rows.mjs): the forced cells as the released guide's own fill.sh prints them over the translation 75a3893da3fd9cae… (all of the seat's roots in one cut). By AI agents, Wed Nov 11 2026. No macro, syntax, notation, axiom, sorry.
-/
import Derived.Test.YtpfgjkgjeejghaaChecked
import GoSem.Claim
import GoSem.ClaimJoined
import GoSem.ClaimMapViews
import Derived.JoinedTies
import Derived.KernelRfl
namespace Go.Proofs.Ytpfgjkgjeejghaa
/- THE CELL 'sum', in the pinned program and in every row, IS THE sha256 OF THE DUMP (.gsa) THAT YtpfgjkgjeejghaaProg.lean LOADS. Nothing in Lean hashes anything: it is a label: what it is worth is what the hold of that sum in a sandbox is worth. -/
noncomputable def Try.pinned : Pinned := { name := "ytpfgjkgjeejghaa", sum := "75a3893da3fd9caee12288fc95d6e47b876c10d19648463c2b20dfda4c470c83", checked := Try.checked }
namespace Rows
def none {H : Type} : Left H := { results := [], args := [] }

/-- 'laws.FnExactConstants': WHATEVER THE INPUT: true; the input reads as it did. -/
def fnExactConstantsSpec : ChangeSpec := { name := "fnExactConstants", fn := fun _ => fun
  | [] => { results := [.lit (.bool true)], args := [] }
  | _ => none }
def fnExactConstantsRow : OpenClaim := { program := "ytpfgjkgjeejghaa", sum := "75a3893da3fd9caee12288fc95d6e47b876c10d19648463c2b20dfda4c470c83", func := "loop.example/blockboxes/laws.FnExactConstants", spec := "fnExactConstants", apart := false }
def FnExactConstantsSaid : Prop := fnExactConstantsRow.holds Try.pinned (OpenSpec.ofChange fnExactConstantsSpec)

/-- ITS FALSE NEIGHBOUR: 'it returns false'. Refute it at one input. -/
def fnExactConstantsWrong : ChangeSpec := { name := "fnExactConstants", fn := fun _ => fun
  | [] => { results := [.lit (.bool false)], args := [] }
  | _ => none }
def FnExactConstantsWrongFalsely : Prop := fnExactConstantsRow.holds Try.pinned (OpenSpec.ofChange fnExactConstantsWrong)

/-- 'laws.FnExactPathValid': WHATEVER THE INPUT: true; the input reads as it did. -/
def fnExactPathValidSpec : ChangeSpec := { name := "fnExactPathValid", fn := fun _ => fun
  | [d1, d2] => { results := [.lit (.bool true)], args := [d1, d2] }
  | _ => none }
def fnExactPathValidRow : OpenClaim := { program := "ytpfgjkgjeejghaa", sum := "75a3893da3fd9caee12288fc95d6e47b876c10d19648463c2b20dfda4c470c83", func := "loop.example/blockboxes/laws.FnExactPathValid", spec := "fnExactPathValid", apart := false }
def FnExactPathValidSaid : Prop := fnExactPathValidRow.holds Try.pinned (OpenSpec.ofChange fnExactPathValidSpec)

/-- ITS FALSE NEIGHBOUR: 'it returns false'. Refute it at one input. -/
def fnExactPathValidWrong : ChangeSpec := { name := "fnExactPathValid", fn := fun _ => fun
  | [d1, d2] => { results := [.lit (.bool false)], args := [d1, d2] }
  | _ => none }
def FnExactPathValidWrongFalsely : Prop := fnExactPathValidRow.holds Try.pinned (OpenSpec.ofChange fnExactPathValidWrong)

/-- 'laws.FnExactPathStands': WHATEVER THE INPUT: true; the input reads as it did. -/
def fnExactPathStandsSpec : ChangeSpec := { name := "fnExactPathStands", fn := fun _ => fun
  | [d1, d2] => { results := [.lit (.bool true)], args := [d1, d2] }
  | _ => none }
def fnExactPathStandsRow : OpenClaim := { program := "ytpfgjkgjeejghaa", sum := "75a3893da3fd9caee12288fc95d6e47b876c10d19648463c2b20dfda4c470c83", func := "loop.example/blockboxes/laws.FnExactPathStands", spec := "fnExactPathStands", apart := false }
def FnExactPathStandsSaid : Prop := fnExactPathStandsRow.holds Try.pinned (OpenSpec.ofChange fnExactPathStandsSpec)

/-- ITS FALSE NEIGHBOUR: 'it returns false'. Refute it at one input. -/
def fnExactPathStandsWrong : ChangeSpec := { name := "fnExactPathStands", fn := fun _ => fun
  | [d1, d2] => { results := [.lit (.bool false)], args := [d1, d2] }
  | _ => none }
def FnExactPathStandsWrongFalsely : Prop := fnExactPathStandsRow.holds Try.pinned (OpenSpec.ofChange fnExactPathStandsWrong)

/-- 'laws.FnExactPathClash': WHATEVER THE INPUT: true; the input reads as it did. -/
def fnExactPathClashSpec : ChangeSpec := { name := "fnExactPathClash", fn := fun _ => fun
  | [d1, d2, d3] => { results := [.lit (.bool true)], args := [d1, d2, d3] }
  | _ => none }
def fnExactPathClashRow : OpenClaim := { program := "ytpfgjkgjeejghaa", sum := "75a3893da3fd9caee12288fc95d6e47b876c10d19648463c2b20dfda4c470c83", func := "loop.example/blockboxes/laws.FnExactPathClash", spec := "fnExactPathClash", apart := false }
def FnExactPathClashSaid : Prop := fnExactPathClashRow.holds Try.pinned (OpenSpec.ofChange fnExactPathClashSpec)

/-- ITS FALSE NEIGHBOUR: 'it returns false'. Refute it at one input. -/
def fnExactPathClashWrong : ChangeSpec := { name := "fnExactPathClash", fn := fun _ => fun
  | [d1, d2, d3] => { results := [.lit (.bool false)], args := [d1, d2, d3] }
  | _ => none }
def FnExactPathClashWrongFalsely : Prop := fnExactPathClashRow.holds Try.pinned (OpenSpec.ofChange fnExactPathClashWrong)

/-- 'laws.FnExactPathRun': WHATEVER THE INPUT: true; the input reads as it did. -/
def fnExactPathRunSpec : ChangeSpec := { name := "fnExactPathRun", fn := fun _ => fun
  | [d1, d2] => { results := [.lit (.bool true)], args := [d1, d2] }
  | _ => none }
def fnExactPathRunRow : OpenClaim := { program := "ytpfgjkgjeejghaa", sum := "75a3893da3fd9caee12288fc95d6e47b876c10d19648463c2b20dfda4c470c83", func := "loop.example/blockboxes/laws.FnExactPathRun", spec := "fnExactPathRun", apart := false }
def FnExactPathRunSaid : Prop := fnExactPathRunRow.holds Try.pinned (OpenSpec.ofChange fnExactPathRunSpec)

/-- ITS FALSE NEIGHBOUR: 'it returns false'. Refute it at one input. -/
def fnExactPathRunWrong : ChangeSpec := { name := "fnExactPathRun", fn := fun _ => fun
  | [d1, d2] => { results := [.lit (.bool false)], args := [d1, d2] }
  | _ => none }
def FnExactPathRunWrongFalsely : Prop := fnExactPathRunRow.holds Try.pinned (OpenSpec.ofChange fnExactPathRunWrong)

/-- 'laws.FnExactBookValid': WHATEVER THE INPUT: true; the input reads as it did. -/
def fnExactBookValidSpec : ChangeSpec := { name := "fnExactBookValid", fn := fun _ => fun
  | [d] => { results := [.lit (.bool true)], args := [d] }
  | _ => none }
def fnExactBookValidRow : OpenClaim := { program := "ytpfgjkgjeejghaa", sum := "75a3893da3fd9caee12288fc95d6e47b876c10d19648463c2b20dfda4c470c83", func := "loop.example/blockboxes/laws.FnExactBookValid", spec := "fnExactBookValid", apart := false }
def FnExactBookValidSaid : Prop := fnExactBookValidRow.holds Try.pinned (OpenSpec.ofChange fnExactBookValidSpec)

/-- ITS FALSE NEIGHBOUR: 'it returns false'. Refute it at one input. -/
def fnExactBookValidWrong : ChangeSpec := { name := "fnExactBookValid", fn := fun _ => fun
  | [d] => { results := [.lit (.bool false)], args := [d] }
  | _ => none }
def FnExactBookValidWrongFalsely : Prop := fnExactBookValidRow.holds Try.pinned (OpenSpec.ofChange fnExactBookValidWrong)

/-- 'laws.FnExactBookFind': WHATEVER THE INPUT: true; the input reads as it did. -/
def fnExactBookFindSpec : ChangeSpec := { name := "fnExactBookFind", fn := fun _ => fun
  | [d1, d2] => { results := [.lit (.bool true)], args := [d1, d2] }
  | _ => none }
def fnExactBookFindRow : OpenClaim := { program := "ytpfgjkgjeejghaa", sum := "75a3893da3fd9caee12288fc95d6e47b876c10d19648463c2b20dfda4c470c83", func := "loop.example/blockboxes/laws.FnExactBookFind", spec := "fnExactBookFind", apart := false }
def FnExactBookFindSaid : Prop := fnExactBookFindRow.holds Try.pinned (OpenSpec.ofChange fnExactBookFindSpec)

/-- ITS FALSE NEIGHBOUR: 'it returns false'. Refute it at one input. -/
def fnExactBookFindWrong : ChangeSpec := { name := "fnExactBookFind", fn := fun _ => fun
  | [d1, d2] => { results := [.lit (.bool false)], args := [d1, d2] }
  | _ => none }
def FnExactBookFindWrongFalsely : Prop := fnExactBookFindRow.holds Try.pinned (OpenSpec.ofChange fnExactBookFindWrong)

/-- 'laws.FnExactBookClear': WHATEVER THE INPUT: true; the input reads as it did. -/
def fnExactBookClearSpec : ChangeSpec := { name := "fnExactBookClear", fn := fun _ => fun
  | [d] => { results := [.lit (.bool true)], args := [d] }
  | _ => none }
def fnExactBookClearRow : OpenClaim := { program := "ytpfgjkgjeejghaa", sum := "75a3893da3fd9caee12288fc95d6e47b876c10d19648463c2b20dfda4c470c83", func := "loop.example/blockboxes/laws.FnExactBookClear", spec := "fnExactBookClear", apart := false }
def FnExactBookClearSaid : Prop := fnExactBookClearRow.holds Try.pinned (OpenSpec.ofChange fnExactBookClearSpec)

/-- ITS FALSE NEIGHBOUR: 'it returns false'. Refute it at one input. -/
def fnExactBookClearWrong : ChangeSpec := { name := "fnExactBookClear", fn := fun _ => fun
  | [d] => { results := [.lit (.bool false)], args := [d] }
  | _ => none }
def FnExactBookClearWrongFalsely : Prop := fnExactBookClearRow.holds Try.pinned (OpenSpec.ofChange fnExactBookClearWrong)

/-- 'laws.FnExactBookReadings': WHATEVER THE INPUT: true; the input reads as it did. -/
def fnExactBookReadingsSpec : ChangeSpec := { name := "fnExactBookReadings", fn := fun _ => fun
  | [d1, d2] => { results := [.lit (.bool true)], args := [d1, d2] }
  | _ => none }
def fnExactBookReadingsRow : OpenClaim := { program := "ytpfgjkgjeejghaa", sum := "75a3893da3fd9caee12288fc95d6e47b876c10d19648463c2b20dfda4c470c83", func := "loop.example/blockboxes/laws.FnExactBookReadings", spec := "fnExactBookReadings", recurses := true, apart := false }
def FnExactBookReadingsSaid : Prop := fnExactBookReadingsRow.holds Try.pinned (OpenSpec.ofChange fnExactBookReadingsSpec)

/-- ITS FALSE NEIGHBOUR: 'it returns false'. Refute it at one input. -/
def fnExactBookReadingsWrong : ChangeSpec := { name := "fnExactBookReadings", fn := fun _ => fun
  | [d1, d2] => { results := [.lit (.bool false)], args := [d1, d2] }
  | _ => none }
def FnExactBookReadingsWrongFalsely : Prop := fnExactBookReadingsRow.holds Try.pinned (OpenSpec.ofChange fnExactBookReadingsWrong)

/-- 'laws.FnExactBookRead': WHATEVER THE INPUT: true; the input reads as it did. -/
def fnExactBookReadSpec : ChangeSpec := { name := "fnExactBookRead", fn := fun _ => fun
  | [d1, d2] => { results := [.lit (.bool true)], args := [d1, d2] }
  | _ => none }
def fnExactBookReadRow : OpenClaim := { program := "ytpfgjkgjeejghaa", sum := "75a3893da3fd9caee12288fc95d6e47b876c10d19648463c2b20dfda4c470c83", func := "loop.example/blockboxes/laws.FnExactBookRead", spec := "fnExactBookRead", apart := false }
def FnExactBookReadSaid : Prop := fnExactBookReadRow.holds Try.pinned (OpenSpec.ofChange fnExactBookReadSpec)

/-- ITS FALSE NEIGHBOUR: 'it returns false'. Refute it at one input. -/
def fnExactBookReadWrong : ChangeSpec := { name := "fnExactBookRead", fn := fun _ => fun
  | [d1, d2] => { results := [.lit (.bool false)], args := [d1, d2] }
  | _ => none }
def FnExactBookReadWrongFalsely : Prop := fnExactBookReadRow.holds Try.pinned (OpenSpec.ofChange fnExactBookReadWrong)

/-- 'laws.FnBookFind': WHATEVER THE INPUT: true; the input reads as it did. -/
def fnBookFindSpec : ChangeSpec := { name := "fnBookFind", fn := fun _ => fun
  | [d] => { results := [.lit (.bool true)], args := [d] }
  | _ => none }
def fnBookFindRow : OpenClaim := { program := "ytpfgjkgjeejghaa", sum := "75a3893da3fd9caee12288fc95d6e47b876c10d19648463c2b20dfda4c470c83", func := "loop.example/blockboxes/laws.FnBookFind", spec := "fnBookFind", recurses := true, apart := false }
def FnBookFindSaid : Prop := fnBookFindRow.holds Try.pinned (OpenSpec.ofChange fnBookFindSpec)

/-- ITS FALSE NEIGHBOUR: 'it returns false'. Refute it at one input. -/
def fnBookFindWrong : ChangeSpec := { name := "fnBookFind", fn := fun _ => fun
  | [d] => { results := [.lit (.bool false)], args := [d] }
  | _ => none }
def FnBookFindWrongFalsely : Prop := fnBookFindRow.holds Try.pinned (OpenSpec.ofChange fnBookFindWrong)

/-- 'laws.FnBookReadings': WHATEVER THE INPUT: true; the input reads as it did. -/
def fnBookReadingsSpec : ChangeSpec := { name := "fnBookReadings", fn := fun _ => fun
  | [d] => { results := [.lit (.bool true)], args := [d] }
  | _ => none }
def fnBookReadingsRow : OpenClaim := { program := "ytpfgjkgjeejghaa", sum := "75a3893da3fd9caee12288fc95d6e47b876c10d19648463c2b20dfda4c470c83", func := "loop.example/blockboxes/laws.FnBookReadings", spec := "fnBookReadings", recurses := true, apart := false }
def FnBookReadingsSaid : Prop := fnBookReadingsRow.holds Try.pinned (OpenSpec.ofChange fnBookReadingsSpec)

/-- ITS FALSE NEIGHBOUR: 'it returns false'. Refute it at one input. -/
def fnBookReadingsWrong : ChangeSpec := { name := "fnBookReadings", fn := fun _ => fun
  | [d] => { results := [.lit (.bool false)], args := [d] }
  | _ => none }
def FnBookReadingsWrongFalsely : Prop := fnBookReadingsRow.holds Try.pinned (OpenSpec.ofChange fnBookReadingsWrong)

/- THE SECOND FORM. 'bulk': how many values and letters a reading holds, each counted each time it is reached (what is shared counts as often as it is met; a slice's spare places count too). A statement '..UptoSaid' is the law's where the arguments, and the package variables that the reading takes, are together of bulk at most 1048576: NARROWER than '..Said'. Prove '..Said' where nothing that the law and all that it calls make is longer than what came in: it says more and counts as full. Else prove '..UptoSaid'. A law counts once. -/
mutual
def uptoBulk {H : Type} : DataW H → Nat
  | .lit (.string bytes) => bytes.length + 1
  | .lit _ => 1
  | .nil => 1
  | .ptr d => uptoBulk d + 1
  | .slice elems spare => uptoBulkAll elems + uptoBulkAll spare + 1
  | .agg parts => uptoBulkAll parts + 1
  | .iface _ d => uptoBulk d + 1
  | .map entries => uptoBulkEntries entries + 1
  | .held _ => 1
def uptoBulkAll {H : Type} : List (DataW H) → Nat
  | [] => 0
  | d :: r => uptoBulk d + uptoBulkAll r
def uptoBulkEntries {H : Type} : List (Lit × DataW H) → Nat
  | [] => 0
  | x :: r => uptoBulkEntry x + uptoBulkEntries r
def uptoBulkEntry {H : Type} : Lit × DataW H → Nat
  | (.string bytes, d) => bytes.length + uptoBulk d + 1
  | (_, d) => uptoBulk d + 1
 end
def uptoSmall : (H : Type) → List (DataW H) → Bool := fun _ ds => decide (uptoBulkAll ds ≤ 1048576)
def OpenSpec.upto (s : _root_.Go.ChangeSpec) : _root_.Go.OpenSpec := { _root_.Go.OpenSpec.ofChange s with cond := some uptoSmall }

/-- 'laws.FnExactConstants', WHERE WHAT IT READS IS OF BULK AT MOST 1048576: true; the input reads as it did. -/
def fnExactConstantsUptoRow : OpenClaim := { program := "ytpfgjkgjeejghaa", sum := "75a3893da3fd9caee12288fc95d6e47b876c10d19648463c2b20dfda4c470c83", func := "loop.example/blockboxes/laws.FnExactConstants", spec := "fnExactConstants", apart := false, narrowed := true }
def FnExactConstantsUptoSaid : Prop := fnExactConstantsUptoRow.holds Try.pinned (OpenSpec.upto fnExactConstantsSpec)

/-- 'laws.FnExactPathValid', WHERE WHAT IT READS IS OF BULK AT MOST 1048576: true; the input reads as it did. -/
def fnExactPathValidUptoRow : OpenClaim := { program := "ytpfgjkgjeejghaa", sum := "75a3893da3fd9caee12288fc95d6e47b876c10d19648463c2b20dfda4c470c83", func := "loop.example/blockboxes/laws.FnExactPathValid", spec := "fnExactPathValid", apart := false, narrowed := true }
def FnExactPathValidUptoSaid : Prop := fnExactPathValidUptoRow.holds Try.pinned (OpenSpec.upto fnExactPathValidSpec)

/-- 'laws.FnExactPathStands', WHERE WHAT IT READS IS OF BULK AT MOST 1048576: true; the input reads as it did. -/
def fnExactPathStandsUptoRow : OpenClaim := { program := "ytpfgjkgjeejghaa", sum := "75a3893da3fd9caee12288fc95d6e47b876c10d19648463c2b20dfda4c470c83", func := "loop.example/blockboxes/laws.FnExactPathStands", spec := "fnExactPathStands", apart := false, narrowed := true }
def FnExactPathStandsUptoSaid : Prop := fnExactPathStandsUptoRow.holds Try.pinned (OpenSpec.upto fnExactPathStandsSpec)

/-- 'laws.FnExactPathClash', WHERE WHAT IT READS IS OF BULK AT MOST 1048576: true; the input reads as it did. -/
def fnExactPathClashUptoRow : OpenClaim := { program := "ytpfgjkgjeejghaa", sum := "75a3893da3fd9caee12288fc95d6e47b876c10d19648463c2b20dfda4c470c83", func := "loop.example/blockboxes/laws.FnExactPathClash", spec := "fnExactPathClash", apart := false, narrowed := true }
def FnExactPathClashUptoSaid : Prop := fnExactPathClashUptoRow.holds Try.pinned (OpenSpec.upto fnExactPathClashSpec)

/-- 'laws.FnExactPathRun', WHERE WHAT IT READS IS OF BULK AT MOST 1048576: true; the input reads as it did. -/
def fnExactPathRunUptoRow : OpenClaim := { program := "ytpfgjkgjeejghaa", sum := "75a3893da3fd9caee12288fc95d6e47b876c10d19648463c2b20dfda4c470c83", func := "loop.example/blockboxes/laws.FnExactPathRun", spec := "fnExactPathRun", apart := false, narrowed := true }
def FnExactPathRunUptoSaid : Prop := fnExactPathRunUptoRow.holds Try.pinned (OpenSpec.upto fnExactPathRunSpec)

/-- 'laws.FnExactBookValid', WHERE WHAT IT READS IS OF BULK AT MOST 1048576: true; the input reads as it did. -/
def fnExactBookValidUptoRow : OpenClaim := { program := "ytpfgjkgjeejghaa", sum := "75a3893da3fd9caee12288fc95d6e47b876c10d19648463c2b20dfda4c470c83", func := "loop.example/blockboxes/laws.FnExactBookValid", spec := "fnExactBookValid", apart := false, narrowed := true }
def FnExactBookValidUptoSaid : Prop := fnExactBookValidUptoRow.holds Try.pinned (OpenSpec.upto fnExactBookValidSpec)

/-- 'laws.FnExactBookFind', WHERE WHAT IT READS IS OF BULK AT MOST 1048576: true; the input reads as it did. -/
def fnExactBookFindUptoRow : OpenClaim := { program := "ytpfgjkgjeejghaa", sum := "75a3893da3fd9caee12288fc95d6e47b876c10d19648463c2b20dfda4c470c83", func := "loop.example/blockboxes/laws.FnExactBookFind", spec := "fnExactBookFind", apart := false, narrowed := true }
def FnExactBookFindUptoSaid : Prop := fnExactBookFindUptoRow.holds Try.pinned (OpenSpec.upto fnExactBookFindSpec)

/-- 'laws.FnExactBookClear', WHERE WHAT IT READS IS OF BULK AT MOST 1048576: true; the input reads as it did. -/
def fnExactBookClearUptoRow : OpenClaim := { program := "ytpfgjkgjeejghaa", sum := "75a3893da3fd9caee12288fc95d6e47b876c10d19648463c2b20dfda4c470c83", func := "loop.example/blockboxes/laws.FnExactBookClear", spec := "fnExactBookClear", apart := false, narrowed := true }
def FnExactBookClearUptoSaid : Prop := fnExactBookClearUptoRow.holds Try.pinned (OpenSpec.upto fnExactBookClearSpec)

/-- 'laws.FnExactBookReadings', WHERE WHAT IT READS IS OF BULK AT MOST 1048576: true; the input reads as it did. -/
def fnExactBookReadingsUptoRow : OpenClaim := { program := "ytpfgjkgjeejghaa", sum := "75a3893da3fd9caee12288fc95d6e47b876c10d19648463c2b20dfda4c470c83", func := "loop.example/blockboxes/laws.FnExactBookReadings", spec := "fnExactBookReadings", recurses := true, apart := false, narrowed := true }
def FnExactBookReadingsUptoSaid : Prop := fnExactBookReadingsUptoRow.holds Try.pinned (OpenSpec.upto fnExactBookReadingsSpec)

/-- 'laws.FnExactBookRead', WHERE WHAT IT READS IS OF BULK AT MOST 1048576: true; the input reads as it did. -/
def fnExactBookReadUptoRow : OpenClaim := { program := "ytpfgjkgjeejghaa", sum := "75a3893da3fd9caee12288fc95d6e47b876c10d19648463c2b20dfda4c470c83", func := "loop.example/blockboxes/laws.FnExactBookRead", spec := "fnExactBookRead", apart := false, narrowed := true }
def FnExactBookReadUptoSaid : Prop := fnExactBookReadUptoRow.holds Try.pinned (OpenSpec.upto fnExactBookReadSpec)

/-- 'laws.FnBookFind', WHERE WHAT IT READS IS OF BULK AT MOST 1048576: true; the input reads as it did. -/
def fnBookFindUptoRow : OpenClaim := { program := "ytpfgjkgjeejghaa", sum := "75a3893da3fd9caee12288fc95d6e47b876c10d19648463c2b20dfda4c470c83", func := "loop.example/blockboxes/laws.FnBookFind", spec := "fnBookFind", recurses := true, apart := false, narrowed := true }
def FnBookFindUptoSaid : Prop := fnBookFindUptoRow.holds Try.pinned (OpenSpec.upto fnBookFindSpec)

/-- 'laws.FnBookReadings', WHERE WHAT IT READS IS OF BULK AT MOST 1048576: true; the input reads as it did. -/
def fnBookReadingsUptoRow : OpenClaim := { program := "ytpfgjkgjeejghaa", sum := "75a3893da3fd9caee12288fc95d6e47b876c10d19648463c2b20dfda4c470c83", func := "loop.example/blockboxes/laws.FnBookReadings", spec := "fnBookReadings", recurses := true, apart := false, narrowed := true }
def FnBookReadingsUptoSaid : Prop := fnBookReadingsUptoRow.holds Try.pinned (OpenSpec.upto fnBookReadingsSpec)

end Rows
end Go.Proofs.Ytpfgjkgjeejghaa
