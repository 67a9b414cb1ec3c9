/-
  No cell of these rows narrows 'for every input' (looked for: loops, veiled, ifaces, maps, wideKeys, modest, calm, conditions, laid).
  DERIVED. THE GIVEN ROWS OF THIS SEAT. 12 by the template 'for every input the law returns true; each argument reads behind the call as it read before'; 0 by the template 'total and deterministic' (their statements: YtablnijmoohjhaaTotals.lean).
  GIVEN WITH THE SEED: the statements are not yours to turn. If you find one false, say at which input.
  Laid BY PROGRAM, IN A SANDBOX (cutbox-rows.mjs): the forced cells as the released guide's own fill.sh prints them over the translation 2edb812592df83fc… (all of the seat's roots in one cut). By AI agents, Wed Nov 11 2026. No macro, syntax, notation, axiom, sorry.
-/
import Derived.Test.YtablnijmoohjhaaChecked
import GoSem.Claim
import GoSem.ClaimJoined
import GoSem.ClaimMapViews
import Derived.JoinedTies
import Derived.KernelRfl
namespace Go.Proofs.Ytablnijmoohjhaa
/- THE CELL 'sum', in the pinned program and in every row, IS THE sha256 OF THE DUMP (.gsa) THAT YtablnijmoohjhaaProg.lean LOADS. Nothing in Lean hashes anything: it is a label: what it is worth is what the hold of that sum in a sandbox is worth. -/
noncomputable def Try.pinned : Pinned := { name := "ytablnijmoohjhaa", sum := "2edb812592df83fc8e7abe6fa9de248d57eb1d7997406fafad4500e09ddfafe3", checked := Try.checked }
namespace Rows
def none {H : Type} : Left H := { results := [], args := [] }

/-- 'laws.FnExactCodeMany': WHATEVER THE INPUT: true; the input reads as it did. -/
def fnExactCodeManySpec : ChangeSpec := { name := "fnExactCodeMany", fn := fun _ => fun
  | [d] => { results := [.lit (.bool true)], args := [d] }
  | _ => none }
def fnExactCodeManyRow : OpenClaim := { program := "ytablnijmoohjhaa", sum := "2edb812592df83fc8e7abe6fa9de248d57eb1d7997406fafad4500e09ddfafe3", func := "loop.example/blockboxes/laws.FnExactCodeMany", spec := "fnExactCodeMany", recurses := true, apart := false }
def FnExactCodeManySaid : Prop := fnExactCodeManyRow.holds Try.pinned (OpenSpec.ofChange fnExactCodeManySpec)

/-- ITS FALSE NEIGHBOUR: 'it returns false'. Refute it at one input. -/
def fnExactCodeManyWrong : ChangeSpec := { name := "fnExactCodeMany", fn := fun _ => fun
  | [d] => { results := [.lit (.bool false)], args := [d] }
  | _ => none }
def FnExactCodeManyWrongFalsely : Prop := fnExactCodeManyRow.holds Try.pinned (OpenSpec.ofChange fnExactCodeManyWrong)

/-- 'laws.FnExactCodeValid': WHATEVER THE INPUT: true; the input reads as it did. -/
def fnExactCodeValidSpec : ChangeSpec := { name := "fnExactCodeValid", fn := fun _ => fun
  | [d] => { results := [.lit (.bool true)], args := [d] }
  | _ => none }
def fnExactCodeValidRow : OpenClaim := { program := "ytablnijmoohjhaa", sum := "2edb812592df83fc8e7abe6fa9de248d57eb1d7997406fafad4500e09ddfafe3", func := "loop.example/blockboxes/laws.FnExactCodeValid", spec := "fnExactCodeValid", apart := false }
def FnExactCodeValidSaid : Prop := fnExactCodeValidRow.holds Try.pinned (OpenSpec.ofChange fnExactCodeValidSpec)

/-- ITS FALSE NEIGHBOUR: 'it returns false'. Refute it at one input. -/
def fnExactCodeValidWrong : ChangeSpec := { name := "fnExactCodeValid", fn := fun _ => fun
  | [d] => { results := [.lit (.bool false)], args := [d] }
  | _ => none }
def FnExactCodeValidWrongFalsely : Prop := fnExactCodeValidRow.holds Try.pinned (OpenSpec.ofChange fnExactCodeValidWrong)

/-- 'laws.FnExactCodeBeats': WHATEVER THE INPUT: true; the input reads as it did. -/
def fnExactCodeBeatsSpec : ChangeSpec := { name := "fnExactCodeBeats", fn := fun _ => fun
  | [d] => { results := [.lit (.bool true)], args := [d] }
  | _ => none }
def fnExactCodeBeatsRow : OpenClaim := { program := "ytablnijmoohjhaa", sum := "2edb812592df83fc8e7abe6fa9de248d57eb1d7997406fafad4500e09ddfafe3", func := "loop.example/blockboxes/laws.FnExactCodeBeats", spec := "fnExactCodeBeats", apart := false }
def FnExactCodeBeatsSaid : Prop := fnExactCodeBeatsRow.holds Try.pinned (OpenSpec.ofChange fnExactCodeBeatsSpec)

/-- ITS FALSE NEIGHBOUR: 'it returns false'. Refute it at one input. -/
def fnExactCodeBeatsWrong : ChangeSpec := { name := "fnExactCodeBeats", fn := fun _ => fun
  | [d] => { results := [.lit (.bool false)], args := [d] }
  | _ => none }
def FnExactCodeBeatsWrongFalsely : Prop := fnExactCodeBeatsRow.holds Try.pinned (OpenSpec.ofChange fnExactCodeBeatsWrong)

/-- 'laws.FnExactCodeBegins': WHATEVER THE INPUT: true; the input reads as it did. -/
def fnExactCodeBeginsSpec : ChangeSpec := { name := "fnExactCodeBegins", fn := fun _ => fun
  | [d1, d2] => { results := [.lit (.bool true)], args := [d1, d2] }
  | _ => none }
def fnExactCodeBeginsRow : OpenClaim := { program := "ytablnijmoohjhaa", sum := "2edb812592df83fc8e7abe6fa9de248d57eb1d7997406fafad4500e09ddfafe3", func := "loop.example/blockboxes/laws.FnExactCodeBegins", spec := "fnExactCodeBegins", apart := false }
def FnExactCodeBeginsSaid : Prop := fnExactCodeBeginsRow.holds Try.pinned (OpenSpec.ofChange fnExactCodeBeginsSpec)

/-- ITS FALSE NEIGHBOUR: 'it returns false'. Refute it at one input. -/
def fnExactCodeBeginsWrong : ChangeSpec := { name := "fnExactCodeBegins", fn := fun _ => fun
  | [d1, d2] => { results := [.lit (.bool false)], args := [d1, d2] }
  | _ => none }
def FnExactCodeBeginsWrongFalsely : Prop := fnExactCodeBeginsRow.holds Try.pinned (OpenSpec.ofChange fnExactCodeBeginsWrong)

/-- 'laws.FnExactCodeBack': WHATEVER THE INPUT: true; the input reads as it did. -/
def fnExactCodeBackSpec : ChangeSpec := { name := "fnExactCodeBack", fn := fun _ => fun
  | [d] => { results := [.lit (.bool true)], args := [d] }
  | _ => none }
def fnExactCodeBackRow : OpenClaim := { program := "ytablnijmoohjhaa", sum := "2edb812592df83fc8e7abe6fa9de248d57eb1d7997406fafad4500e09ddfafe3", func := "loop.example/blockboxes/laws.FnExactCodeBack", spec := "fnExactCodeBack", apart := false }
def FnExactCodeBackSaid : Prop := fnExactCodeBackRow.holds Try.pinned (OpenSpec.ofChange fnExactCodeBackSpec)

/-- ITS FALSE NEIGHBOUR: 'it returns false'. Refute it at one input. -/
def fnExactCodeBackWrong : ChangeSpec := { name := "fnExactCodeBack", fn := fun _ => fun
  | [d] => { results := [.lit (.bool false)], args := [d] }
  | _ => none }
def FnExactCodeBackWrongFalsely : Prop := fnExactCodeBackRow.holds Try.pinned (OpenSpec.ofChange fnExactCodeBackWrong)

/-- 'laws.FnExactCodeFrom': WHATEVER THE INPUT: true; the input reads as it did. -/
def fnExactCodeFromSpec : ChangeSpec := { name := "fnExactCodeFrom", fn := fun _ => fun
  | [d] => { results := [.lit (.bool true)], args := [d] }
  | _ => none }
def fnExactCodeFromRow : OpenClaim := { program := "ytablnijmoohjhaa", sum := "2edb812592df83fc8e7abe6fa9de248d57eb1d7997406fafad4500e09ddfafe3", func := "loop.example/blockboxes/laws.FnExactCodeFrom", spec := "fnExactCodeFrom", recurses := true, apart := false }
def FnExactCodeFromSaid : Prop := fnExactCodeFromRow.holds Try.pinned (OpenSpec.ofChange fnExactCodeFromSpec)

/-- ITS FALSE NEIGHBOUR: 'it returns false'. Refute it at one input. -/
def fnExactCodeFromWrong : ChangeSpec := { name := "fnExactCodeFrom", fn := fun _ => fun
  | [d] => { results := [.lit (.bool false)], args := [d] }
  | _ => none }
def FnExactCodeFromWrongFalsely : Prop := fnExactCodeFromRow.holds Try.pinned (OpenSpec.ofChange fnExactCodeFromWrong)

/-- 'laws.FnExactCodeNth': WHATEVER THE INPUT: true; the input reads as it did. -/
def fnExactCodeNthSpec : ChangeSpec := { name := "fnExactCodeNth", fn := fun _ => fun
  | [d1, d2] => { results := [.lit (.bool true)], args := [d1, d2] }
  | _ => none }
def fnExactCodeNthRow : OpenClaim := { program := "ytablnijmoohjhaa", sum := "2edb812592df83fc8e7abe6fa9de248d57eb1d7997406fafad4500e09ddfafe3", func := "loop.example/blockboxes/laws.FnExactCodeNth", spec := "fnExactCodeNth", recurses := true, apart := false }
def FnExactCodeNthSaid : Prop := fnExactCodeNthRow.holds Try.pinned (OpenSpec.ofChange fnExactCodeNthSpec)

/-- ITS FALSE NEIGHBOUR: 'it returns false'. Refute it at one input. -/
def fnExactCodeNthWrong : ChangeSpec := { name := "fnExactCodeNth", fn := fun _ => fun
  | [d1, d2] => { results := [.lit (.bool false)], args := [d1, d2] }
  | _ => none }
def FnExactCodeNthWrongFalsely : Prop := fnExactCodeNthRow.holds Try.pinned (OpenSpec.ofChange fnExactCodeNthWrong)

/-- 'laws.FnCodeBack': WHATEVER THE INPUT: true; the input reads as it did. -/
def fnCodeBackSpec : ChangeSpec := { name := "fnCodeBack", fn := fun _ => fun
  | [d] => { results := [.lit (.bool true)], args := [d] }
  | _ => none }
def fnCodeBackRow : OpenClaim := { program := "ytablnijmoohjhaa", sum := "2edb812592df83fc8e7abe6fa9de248d57eb1d7997406fafad4500e09ddfafe3", func := "loop.example/blockboxes/laws.FnCodeBack", spec := "fnCodeBack", apart := false }
def FnCodeBackSaid : Prop := fnCodeBackRow.holds Try.pinned (OpenSpec.ofChange fnCodeBackSpec)

/-- ITS FALSE NEIGHBOUR: 'it returns false'. Refute it at one input. -/
def fnCodeBackWrong : ChangeSpec := { name := "fnCodeBack", fn := fun _ => fun
  | [d] => { results := [.lit (.bool false)], args := [d] }
  | _ => none }
def FnCodeBackWrongFalsely : Prop := fnCodeBackRow.holds Try.pinned (OpenSpec.ofChange fnCodeBackWrong)

/-- 'laws.FnExactCodeRank': WHATEVER THE INPUT: true; the input reads as it did. -/
def fnExactCodeRankSpec : ChangeSpec := { name := "fnExactCodeRank", fn := fun _ => fun
  | [d] => { results := [.lit (.bool true)], args := [d] }
  | _ => none }
def fnExactCodeRankRow : OpenClaim := { program := "ytablnijmoohjhaa", sum := "2edb812592df83fc8e7abe6fa9de248d57eb1d7997406fafad4500e09ddfafe3", func := "loop.example/blockboxes/laws.FnExactCodeRank", spec := "fnExactCodeRank", recurses := true, apart := false }
def FnExactCodeRankSaid : Prop := fnExactCodeRankRow.holds Try.pinned (OpenSpec.ofChange fnExactCodeRankSpec)

/-- ITS FALSE NEIGHBOUR: 'it returns false'. Refute it at one input. -/
def fnExactCodeRankWrong : ChangeSpec := { name := "fnExactCodeRank", fn := fun _ => fun
  | [d] => { results := [.lit (.bool false)], args := [d] }
  | _ => none }
def FnExactCodeRankWrongFalsely : Prop := fnExactCodeRankRow.holds Try.pinned (OpenSpec.ofChange fnExactCodeRankWrong)

/-- 'laws.FnCodeMany': WHATEVER THE INPUT: true; the input reads as it did. -/
def fnCodeManySpec : ChangeSpec := { name := "fnCodeMany", fn := fun _ => fun
  | [d] => { results := [.lit (.bool true)], args := [d] }
  | _ => none }
def fnCodeManyRow : OpenClaim := { program := "ytablnijmoohjhaa", sum := "2edb812592df83fc8e7abe6fa9de248d57eb1d7997406fafad4500e09ddfafe3", func := "loop.example/blockboxes/laws.FnCodeMany", spec := "fnCodeMany", recurses := true, apart := false }
def FnCodeManySaid : Prop := fnCodeManyRow.holds Try.pinned (OpenSpec.ofChange fnCodeManySpec)

/-- ITS FALSE NEIGHBOUR: 'it returns false'. Refute it at one input. -/
def fnCodeManyWrong : ChangeSpec := { name := "fnCodeMany", fn := fun _ => fun
  | [d] => { results := [.lit (.bool false)], args := [d] }
  | _ => none }
def FnCodeManyWrongFalsely : Prop := fnCodeManyRow.holds Try.pinned (OpenSpec.ofChange fnCodeManyWrong)

/-- 'laws.FnCodeNth': WHATEVER THE INPUT: true; the input reads as it did. -/
def fnCodeNthSpec : ChangeSpec := { name := "fnCodeNth", fn := fun _ => fun
  | [d] => { results := [.lit (.bool true)], args := [d] }
  | _ => none }
def fnCodeNthRow : OpenClaim := { program := "ytablnijmoohjhaa", sum := "2edb812592df83fc8e7abe6fa9de248d57eb1d7997406fafad4500e09ddfafe3", func := "loop.example/blockboxes/laws.FnCodeNth", spec := "fnCodeNth", recurses := true, apart := false }
def FnCodeNthSaid : Prop := fnCodeNthRow.holds Try.pinned (OpenSpec.ofChange fnCodeNthSpec)

/-- ITS FALSE NEIGHBOUR: 'it returns false'. Refute it at one input. -/
def fnCodeNthWrong : ChangeSpec := { name := "fnCodeNth", fn := fun _ => fun
  | [d] => { results := [.lit (.bool false)], args := [d] }
  | _ => none }
def FnCodeNthWrongFalsely : Prop := fnCodeNthRow.holds Try.pinned (OpenSpec.ofChange fnCodeNthWrong)

/-- 'laws.FnCodeRank': WHATEVER THE INPUT: true; the input reads as it did. -/
def fnCodeRankSpec : ChangeSpec := { name := "fnCodeRank", fn := fun _ => fun
  | [d] => { results := [.lit (.bool true)], args := [d] }
  | _ => none }
def fnCodeRankRow : OpenClaim := { program := "ytablnijmoohjhaa", sum := "2edb812592df83fc8e7abe6fa9de248d57eb1d7997406fafad4500e09ddfafe3", func := "loop.example/blockboxes/laws.FnCodeRank", spec := "fnCodeRank", recurses := true, apart := false }
def FnCodeRankSaid : Prop := fnCodeRankRow.holds Try.pinned (OpenSpec.ofChange fnCodeRankSpec)

/-- ITS FALSE NEIGHBOUR: 'it returns false'. Refute it at one input. -/
def fnCodeRankWrong : ChangeSpec := { name := "fnCodeRank", fn := fun _ => fun
  | [d] => { results := [.lit (.bool false)], args := [d] }
  | _ => none }
def FnCodeRankWrongFalsely : Prop := fnCodeRankRow.holds Try.pinned (OpenSpec.ofChange fnCodeRankWrong)

/- THE SECOND FORM. 'bulk': how many values and letters a reading holds, each counted each time it is reached (what is shared counts as often as it is met; a slice's spare places count too). A statement '..UptoSaid' is the law's where the arguments, and the package variables that the reading takes, are together of bulk at most 1048576: NARROWER than '..Said'. Prove '..Said' where nothing that the law and all that it calls make is longer than what came in: it says more and counts as full. Else prove '..UptoSaid'. A law counts once. -/
mutual
def uptoBulk {H : Type} : DataW H → Nat
  | .lit (.string bytes) => bytes.length + 1
  | .lit _ => 1
  | .nil => 1
  | .ptr d => uptoBulk d + 1
  | .slice elems spare => uptoBulkAll elems + uptoBulkAll spare + 1
  | .agg parts => uptoBulkAll parts + 1
  | .iface _ d => uptoBulk d + 1
  | .map entries => uptoBulkEntries entries + 1
  | .held _ => 1
def uptoBulkAll {H : Type} : List (DataW H) → Nat
  | [] => 0
  | d :: r => uptoBulk d + uptoBulkAll r
def uptoBulkEntries {H : Type} : List (Lit × DataW H) → Nat
  | [] => 0
  | x :: r => uptoBulkEntry x + uptoBulkEntries r
def uptoBulkEntry {H : Type} : Lit × DataW H → Nat
  | (.string bytes, d) => bytes.length + uptoBulk d + 1
  | (_, d) => uptoBulk d + 1
 end
def uptoSmall : (H : Type) → List (DataW H) → Bool := fun _ ds => decide (uptoBulkAll ds ≤ 1048576)
def OpenSpec.upto (s : _root_.Go.ChangeSpec) : _root_.Go.OpenSpec := { _root_.Go.OpenSpec.ofChange s with cond := some uptoSmall }

/-- 'laws.FnExactCodeMany', WHERE WHAT IT READS IS OF BULK AT MOST 1048576: true; the input reads as it did. -/
def fnExactCodeManyUptoRow : OpenClaim := { program := "ytablnijmoohjhaa", sum := "2edb812592df83fc8e7abe6fa9de248d57eb1d7997406fafad4500e09ddfafe3", func := "loop.example/blockboxes/laws.FnExactCodeMany", spec := "fnExactCodeMany", recurses := true, apart := false, narrowed := true }
def FnExactCodeManyUptoSaid : Prop := fnExactCodeManyUptoRow.holds Try.pinned (OpenSpec.upto fnExactCodeManySpec)

/-- 'laws.FnExactCodeValid', WHERE WHAT IT READS IS OF BULK AT MOST 1048576: true; the input reads as it did. -/
def fnExactCodeValidUptoRow : OpenClaim := { program := "ytablnijmoohjhaa", sum := "2edb812592df83fc8e7abe6fa9de248d57eb1d7997406fafad4500e09ddfafe3", func := "loop.example/blockboxes/laws.FnExactCodeValid", spec := "fnExactCodeValid", apart := false, narrowed := true }
def FnExactCodeValidUptoSaid : Prop := fnExactCodeValidUptoRow.holds Try.pinned (OpenSpec.upto fnExactCodeValidSpec)

/-- 'laws.FnExactCodeBeats', WHERE WHAT IT READS IS OF BULK AT MOST 1048576: true; the input reads as it did. -/
def fnExactCodeBeatsUptoRow : OpenClaim := { program := "ytablnijmoohjhaa", sum := "2edb812592df83fc8e7abe6fa9de248d57eb1d7997406fafad4500e09ddfafe3", func := "loop.example/blockboxes/laws.FnExactCodeBeats", spec := "fnExactCodeBeats", apart := false, narrowed := true }
def FnExactCodeBeatsUptoSaid : Prop := fnExactCodeBeatsUptoRow.holds Try.pinned (OpenSpec.upto fnExactCodeBeatsSpec)

/-- 'laws.FnExactCodeBegins', WHERE WHAT IT READS IS OF BULK AT MOST 1048576: true; the input reads as it did. -/
def fnExactCodeBeginsUptoRow : OpenClaim := { program := "ytablnijmoohjhaa", sum := "2edb812592df83fc8e7abe6fa9de248d57eb1d7997406fafad4500e09ddfafe3", func := "loop.example/blockboxes/laws.FnExactCodeBegins", spec := "fnExactCodeBegins", apart := false, narrowed := true }
def FnExactCodeBeginsUptoSaid : Prop := fnExactCodeBeginsUptoRow.holds Try.pinned (OpenSpec.upto fnExactCodeBeginsSpec)

/-- 'laws.FnExactCodeBack', WHERE WHAT IT READS IS OF BULK AT MOST 1048576: true; the input reads as it did. -/
def fnExactCodeBackUptoRow : OpenClaim := { program := "ytablnijmoohjhaa", sum := "2edb812592df83fc8e7abe6fa9de248d57eb1d7997406fafad4500e09ddfafe3", func := "loop.example/blockboxes/laws.FnExactCodeBack", spec := "fnExactCodeBack", apart := false, narrowed := true }
def FnExactCodeBackUptoSaid : Prop := fnExactCodeBackUptoRow.holds Try.pinned (OpenSpec.upto fnExactCodeBackSpec)

/-- 'laws.FnExactCodeFrom', WHERE WHAT IT READS IS OF BULK AT MOST 1048576: true; the input reads as it did. -/
def fnExactCodeFromUptoRow : OpenClaim := { program := "ytablnijmoohjhaa", sum := "2edb812592df83fc8e7abe6fa9de248d57eb1d7997406fafad4500e09ddfafe3", func := "loop.example/blockboxes/laws.FnExactCodeFrom", spec := "fnExactCodeFrom", recurses := true, apart := false, narrowed := true }
def FnExactCodeFromUptoSaid : Prop := fnExactCodeFromUptoRow.holds Try.pinned (OpenSpec.upto fnExactCodeFromSpec)

/-- 'laws.FnExactCodeNth', WHERE WHAT IT READS IS OF BULK AT MOST 1048576: true; the input reads as it did. -/
def fnExactCodeNthUptoRow : OpenClaim := { program := "ytablnijmoohjhaa", sum := "2edb812592df83fc8e7abe6fa9de248d57eb1d7997406fafad4500e09ddfafe3", func := "loop.example/blockboxes/laws.FnExactCodeNth", spec := "fnExactCodeNth", recurses := true, apart := false, narrowed := true }
def FnExactCodeNthUptoSaid : Prop := fnExactCodeNthUptoRow.holds Try.pinned (OpenSpec.upto fnExactCodeNthSpec)

/-- 'laws.FnCodeBack', WHERE WHAT IT READS IS OF BULK AT MOST 1048576: true; the input reads as it did. -/
def fnCodeBackUptoRow : OpenClaim := { program := "ytablnijmoohjhaa", sum := "2edb812592df83fc8e7abe6fa9de248d57eb1d7997406fafad4500e09ddfafe3", func := "loop.example/blockboxes/laws.FnCodeBack", spec := "fnCodeBack", apart := false, narrowed := true }
def FnCodeBackUptoSaid : Prop := fnCodeBackUptoRow.holds Try.pinned (OpenSpec.upto fnCodeBackSpec)

/-- 'laws.FnExactCodeRank', WHERE WHAT IT READS IS OF BULK AT MOST 1048576: true; the input reads as it did. -/
def fnExactCodeRankUptoRow : OpenClaim := { program := "ytablnijmoohjhaa", sum := "2edb812592df83fc8e7abe6fa9de248d57eb1d7997406fafad4500e09ddfafe3", func := "loop.example/blockboxes/laws.FnExactCodeRank", spec := "fnExactCodeRank", recurses := true, apart := false, narrowed := true }
def FnExactCodeRankUptoSaid : Prop := fnExactCodeRankUptoRow.holds Try.pinned (OpenSpec.upto fnExactCodeRankSpec)

/-- 'laws.FnCodeMany', WHERE WHAT IT READS IS OF BULK AT MOST 1048576: true; the input reads as it did. -/
def fnCodeManyUptoRow : OpenClaim := { program := "ytablnijmoohjhaa", sum := "2edb812592df83fc8e7abe6fa9de248d57eb1d7997406fafad4500e09ddfafe3", func := "loop.example/blockboxes/laws.FnCodeMany", spec := "fnCodeMany", recurses := true, apart := false, narrowed := true }
def FnCodeManyUptoSaid : Prop := fnCodeManyUptoRow.holds Try.pinned (OpenSpec.upto fnCodeManySpec)

/-- 'laws.FnCodeNth', WHERE WHAT IT READS IS OF BULK AT MOST 1048576: true; the input reads as it did. -/
def fnCodeNthUptoRow : OpenClaim := { program := "ytablnijmoohjhaa", sum := "2edb812592df83fc8e7abe6fa9de248d57eb1d7997406fafad4500e09ddfafe3", func := "loop.example/blockboxes/laws.FnCodeNth", spec := "fnCodeNth", recurses := true, apart := false, narrowed := true }
def FnCodeNthUptoSaid : Prop := fnCodeNthUptoRow.holds Try.pinned (OpenSpec.upto fnCodeNthSpec)

/-- 'laws.FnCodeRank', WHERE WHAT IT READS IS OF BULK AT MOST 1048576: true; the input reads as it did. -/
def fnCodeRankUptoRow : OpenClaim := { program := "ytablnijmoohjhaa", sum := "2edb812592df83fc8e7abe6fa9de248d57eb1d7997406fafad4500e09ddfafe3", func := "loop.example/blockboxes/laws.FnCodeRank", spec := "fnCodeRank", recurses := true, apart := false, narrowed := true }
def FnCodeRankUptoSaid : Prop := fnCodeRankUptoRow.holds Try.pinned (OpenSpec.upto fnCodeRankSpec)

end Rows
end Go.Proofs.Ytablnijmoohjhaa
