/-
  No cell of these rows narrows 'for every input' (looked for: loops, veiled, ifaces, maps, wideKeys, modest, calm, conditions, laid).
  DERIVED. THE GIVEN ROWS OF THIS SEAT. 11 by the template 'for every input the law returns true; each argument reads behind the call as it read before'; 0 by the template 'total and deterministic' (their statements: YtlneedjhdnjnpaaTotals.lean).
  GIVEN WITH THE SEED: the statements are not yours to turn. If you find one false, say at which input.
  Laid BY PROGRAM, IN A SANDBOX (cutbox-rows.mjs): the forced cells as the released guide's own fill.sh prints them over the translation f35af63f57602682… (all of the seat's roots in one cut). By AI agents, Wed Nov 11 2026. No macro, syntax, notation, axiom, sorry.
-/
import Derived.Test.YtlneedjhdnjnpaaChecked
import GoSem.Claim
import GoSem.ClaimJoined
import GoSem.ClaimMapViews
import Derived.JoinedTies
import Derived.KernelRfl
namespace Go.Proofs.Ytlneedjhdnjnpaa
/- THE CELL 'sum', in the pinned program and in every row, IS THE sha256 OF THE DUMP (.gsa) THAT YtlneedjhdnjnpaaProg.lean LOADS. Nothing in Lean hashes anything: it is a label: what it is worth is what the hold of that sum in a sandbox is worth. -/
noncomputable def Try.pinned : Pinned := { name := "ytlneedjhdnjnpaa", sum := "f35af63f57602682c5c420c310782c9f1c9872c98fec2e593de5a2115783e42a", checked := Try.checked }
namespace Rows
def none {H : Type} : Left H := { results := [], args := [] }

/-- 'laws.FnBlockCycle': WHATEVER THE INPUT: true; the input reads as it did. -/
def fnBlockCycleSpec : ChangeSpec := { name := "fnBlockCycle", fn := fun _ => fun
  | [d] => { results := [.lit (.bool true)], args := [d] }
  | _ => none }
def fnBlockCycleRow : OpenClaim := { program := "ytlneedjhdnjnpaa", sum := "f35af63f57602682c5c420c310782c9f1c9872c98fec2e593de5a2115783e42a", func := "loop.example/blockboxes/laws.FnBlockCycle", spec := "fnBlockCycle", inPlace := ["internal/abi.NoEscape", "internal/bytealg.MakeNoZero", "internal/bytealg.CountString", "internal/bytealg.IndexByteString", "internal/bytealg.IndexString"], unfollowed := true, recurses := true, named := ["internal/bytealg.MaxLen"], plainKeys := false, apart := false }
def FnBlockCycleSaid : Prop := fnBlockCycleRow.holds Try.pinned (OpenSpec.ofChange fnBlockCycleSpec)

/-- ITS FALSE NEIGHBOUR: 'it returns false'. Refute it at one input. -/
def fnBlockCycleWrong : ChangeSpec := { name := "fnBlockCycle", fn := fun _ => fun
  | [d] => { results := [.lit (.bool false)], args := [d] }
  | _ => none }
def FnBlockCycleWrongFalsely : Prop := fnBlockCycleRow.holds Try.pinned (OpenSpec.ofChange fnBlockCycleWrong)

/-- 'laws.FnBlockTrains': WHATEVER THE INPUT: true; the input reads as it did. -/
def fnBlockTrainsSpec : ChangeSpec := { name := "fnBlockTrains", fn := fun _ => fun
  | [d] => { results := [.lit (.bool true)], args := [d] }
  | _ => none }
def fnBlockTrainsRow : OpenClaim := { program := "ytlneedjhdnjnpaa", sum := "f35af63f57602682c5c420c310782c9f1c9872c98fec2e593de5a2115783e42a", func := "loop.example/blockboxes/laws.FnBlockTrains", spec := "fnBlockTrains", inPlace := ["internal/bytealg.CountString", "internal/bytealg.IndexByteString", "internal/bytealg.IndexString", "internal/abi.NoEscape", "internal/bytealg.MakeNoZero"], unfollowed := true, recurses := true, named := ["internal/bytealg.MaxLen"], plainKeys := false, apart := false }
def FnBlockTrainsSaid : Prop := fnBlockTrainsRow.holds Try.pinned (OpenSpec.ofChange fnBlockTrainsSpec)

/-- ITS FALSE NEIGHBOUR: 'it returns false'. Refute it at one input. -/
def fnBlockTrainsWrong : ChangeSpec := { name := "fnBlockTrains", fn := fun _ => fun
  | [d] => { results := [.lit (.bool false)], args := [d] }
  | _ => none }
def FnBlockTrainsWrongFalsely : Prop := fnBlockTrainsRow.holds Try.pinned (OpenSpec.ofChange fnBlockTrainsWrong)

/-- 'laws.FnBlockSafe': WHATEVER THE INPUT: true; the input reads as it did. -/
def fnBlockSafeSpec : ChangeSpec := { name := "fnBlockSafe", fn := fun _ => fun
  | [d] => { results := [.lit (.bool true)], args := [d] }
  | _ => none }
def fnBlockSafeRow : OpenClaim := { program := "ytlneedjhdnjnpaa", sum := "f35af63f57602682c5c420c310782c9f1c9872c98fec2e593de5a2115783e42a", func := "loop.example/blockboxes/laws.FnBlockSafe", spec := "fnBlockSafe", unfollowed := true, recurses := true, plainKeys := false, apart := false }
def FnBlockSafeSaid : Prop := fnBlockSafeRow.holds Try.pinned (OpenSpec.ofChange fnBlockSafeSpec)

/-- ITS FALSE NEIGHBOUR: 'it returns false'. Refute it at one input. -/
def fnBlockSafeWrong : ChangeSpec := { name := "fnBlockSafe", fn := fun _ => fun
  | [d] => { results := [.lit (.bool false)], args := [d] }
  | _ => none }
def FnBlockSafeWrongFalsely : Prop := fnBlockSafeRow.holds Try.pinned (OpenSpec.ofChange fnBlockSafeWrong)

/-- 'laws.FnBlockNormal': WHATEVER THE INPUT: true; the input reads as it did. -/
def fnBlockNormalSpec : ChangeSpec := { name := "fnBlockNormal", fn := fun _ => fun
  | [d] => { results := [.lit (.bool true)], args := [d] }
  | _ => none }
def fnBlockNormalRow : OpenClaim := { program := "ytlneedjhdnjnpaa", sum := "f35af63f57602682c5c420c310782c9f1c9872c98fec2e593de5a2115783e42a", func := "loop.example/blockboxes/laws.FnBlockNormal", spec := "fnBlockNormal", unfollowed := true, recurses := true, plainKeys := false, apart := false }
def FnBlockNormalSaid : Prop := fnBlockNormalRow.holds Try.pinned (OpenSpec.ofChange fnBlockNormalSpec)

/-- ITS FALSE NEIGHBOUR: 'it returns false'. Refute it at one input. -/
def fnBlockNormalWrong : ChangeSpec := { name := "fnBlockNormal", fn := fun _ => fun
  | [d] => { results := [.lit (.bool false)], args := [d] }
  | _ => none }
def FnBlockNormalWrongFalsely : Prop := fnBlockNormalRow.holds Try.pinned (OpenSpec.ofChange fnBlockNormalWrong)

/-- 'laws.FnBlockNext': WHATEVER THE INPUT: true; the input reads as it did. -/
def fnBlockNextSpec : ChangeSpec := { name := "fnBlockNext", fn := fun _ => fun
  | [d] => { results := [.lit (.bool true)], args := [d] }
  | _ => none }
def fnBlockNextRow : OpenClaim := { program := "ytlneedjhdnjnpaa", sum := "f35af63f57602682c5c420c310782c9f1c9872c98fec2e593de5a2115783e42a", func := "loop.example/blockboxes/laws.FnBlockNext", spec := "fnBlockNext", inPlace := ["internal/abi.NoEscape"], unfollowed := true, recurses := true, plainKeys := false, apart := false }
def FnBlockNextSaid : Prop := fnBlockNextRow.holds Try.pinned (OpenSpec.ofChange fnBlockNextSpec)

/-- ITS FALSE NEIGHBOUR: 'it returns false'. Refute it at one input. -/
def fnBlockNextWrong : ChangeSpec := { name := "fnBlockNext", fn := fun _ => fun
  | [d] => { results := [.lit (.bool false)], args := [d] }
  | _ => none }
def FnBlockNextWrongFalsely : Prop := fnBlockNextRow.holds Try.pinned (OpenSpec.ofChange fnBlockNextWrong)

/-- 'laws.FnBlockStep': WHATEVER THE INPUT: true; the input reads as it did. -/
def fnBlockStepSpec : ChangeSpec := { name := "fnBlockStep", fn := fun _ => fun
  | [d] => { results := [.lit (.bool true)], args := [d] }
  | _ => none }
def fnBlockStepRow : OpenClaim := { program := "ytlneedjhdnjnpaa", sum := "f35af63f57602682c5c420c310782c9f1c9872c98fec2e593de5a2115783e42a", func := "loop.example/blockboxes/laws.FnBlockStep", spec := "fnBlockStep", inPlace := ["internal/abi.NoEscape"], unfollowed := true, recurses := true, plainKeys := false, apart := false }
def FnBlockStepSaid : Prop := fnBlockStepRow.holds Try.pinned (OpenSpec.ofChange fnBlockStepSpec)

/-- ITS FALSE NEIGHBOUR: 'it returns false'. Refute it at one input. -/
def fnBlockStepWrong : ChangeSpec := { name := "fnBlockStep", fn := fun _ => fun
  | [d] => { results := [.lit (.bool false)], args := [d] }
  | _ => none }
def FnBlockStepWrongFalsely : Prop := fnBlockStepRow.holds Try.pinned (OpenSpec.ofChange fnBlockStepWrong)

/-- 'laws.FnBlockMany': WHATEVER THE INPUT: true; the input reads as it did. -/
def fnBlockManySpec : ChangeSpec := { name := "fnBlockMany", fn := fun _ => fun
  | [d] => { results := [.lit (.bool true)], args := [d] }
  | _ => none }
def fnBlockManyRow : OpenClaim := { program := "ytlneedjhdnjnpaa", sum := "f35af63f57602682c5c420c310782c9f1c9872c98fec2e593de5a2115783e42a", func := "loop.example/blockboxes/laws.FnBlockMany", spec := "fnBlockMany", inPlace := ["internal/abi.NoEscape"], unfollowed := true, recurses := true, plainKeys := false, apart := false }
def FnBlockManySaid : Prop := fnBlockManyRow.holds Try.pinned (OpenSpec.ofChange fnBlockManySpec)

/-- ITS FALSE NEIGHBOUR: 'it returns false'. Refute it at one input. -/
def fnBlockManyWrong : ChangeSpec := { name := "fnBlockMany", fn := fun _ => fun
  | [d] => { results := [.lit (.bool false)], args := [d] }
  | _ => none }
def FnBlockManyWrongFalsely : Prop := fnBlockManyRow.holds Try.pinned (OpenSpec.ofChange fnBlockManyWrong)

/-- 'laws.FnBlockRepairDrop': WHATEVER THE INPUT: true; the input reads as it did. -/
def fnBlockRepairDropSpec : ChangeSpec := { name := "fnBlockRepairDrop", fn := fun _ => fun
  | [d1, d2] => { results := [.lit (.bool true)], args := [d1, d2] }
  | _ => none }
def fnBlockRepairDropRow : OpenClaim := { program := "ytlneedjhdnjnpaa", sum := "f35af63f57602682c5c420c310782c9f1c9872c98fec2e593de5a2115783e42a", func := "loop.example/blockboxes/laws.FnBlockRepairDrop", spec := "fnBlockRepairDrop", unfollowed := true, recurses := true, plainKeys := false, apart := false }
def FnBlockRepairDropSaid : Prop := fnBlockRepairDropRow.holds Try.pinned (OpenSpec.ofChange fnBlockRepairDropSpec)

/-- ITS FALSE NEIGHBOUR: 'it returns false'. Refute it at one input. -/
def fnBlockRepairDropWrong : ChangeSpec := { name := "fnBlockRepairDrop", fn := fun _ => fun
  | [d1, d2] => { results := [.lit (.bool false)], args := [d1, d2] }
  | _ => none }
def FnBlockRepairDropWrongFalsely : Prop := fnBlockRepairDropRow.holds Try.pinned (OpenSpec.ofChange fnBlockRepairDropWrong)

/-- 'laws.FnBlockRepair': WHATEVER THE INPUT: true; the input reads as it did. -/
def fnBlockRepairSpec : ChangeSpec := { name := "fnBlockRepair", fn := fun _ => fun
  | [d] => { results := [.lit (.bool true)], args := [d] }
  | _ => none }
def fnBlockRepairRow : OpenClaim := { program := "ytlneedjhdnjnpaa", sum := "f35af63f57602682c5c420c310782c9f1c9872c98fec2e593de5a2115783e42a", func := "loop.example/blockboxes/laws.FnBlockRepair", spec := "fnBlockRepair", unfollowed := true, recurses := true, plainKeys := false, apart := false }
def FnBlockRepairSaid : Prop := fnBlockRepairRow.holds Try.pinned (OpenSpec.ofChange fnBlockRepairSpec)

/-- ITS FALSE NEIGHBOUR: 'it returns false'. Refute it at one input. -/
def fnBlockRepairWrong : ChangeSpec := { name := "fnBlockRepair", fn := fun _ => fun
  | [d] => { results := [.lit (.bool false)], args := [d] }
  | _ => none }
def FnBlockRepairWrongFalsely : Prop := fnBlockRepairRow.holds Try.pinned (OpenSpec.ofChange fnBlockRepairWrong)

/-- 'laws.FnBlockWay': WHATEVER THE INPUT: true; the input reads as it did. -/
def fnBlockWaySpec : ChangeSpec := { name := "fnBlockWay", fn := fun _ => fun
  | [d] => { results := [.lit (.bool true)], args := [d] }
  | _ => none }
def fnBlockWayRow : OpenClaim := { program := "ytlneedjhdnjnpaa", sum := "f35af63f57602682c5c420c310782c9f1c9872c98fec2e593de5a2115783e42a", func := "loop.example/blockboxes/laws.FnBlockWay", spec := "fnBlockWay", inPlace := ["internal/abi.NoEscape"], unfollowed := true, recurses := true, plainKeys := false, apart := false }
def FnBlockWaySaid : Prop := fnBlockWayRow.holds Try.pinned (OpenSpec.ofChange fnBlockWaySpec)

/-- ITS FALSE NEIGHBOUR: 'it returns false'. Refute it at one input. -/
def fnBlockWayWrong : ChangeSpec := { name := "fnBlockWay", fn := fun _ => fun
  | [d] => { results := [.lit (.bool false)], args := [d] }
  | _ => none }
def FnBlockWayWrongFalsely : Prop := fnBlockWayRow.holds Try.pinned (OpenSpec.ofChange fnBlockWayWrong)

/-- 'laws.FnBlockRun': WHATEVER THE INPUT: true; the input reads as it did. -/
def fnBlockRunSpec : ChangeSpec := { name := "fnBlockRun", fn := fun _ => fun
  | [d1, d2] => { results := [.lit (.bool true)], args := [d1, d2] }
  | _ => none }
def fnBlockRunRow : OpenClaim := { program := "ytlneedjhdnjnpaa", sum := "f35af63f57602682c5c420c310782c9f1c9872c98fec2e593de5a2115783e42a", func := "loop.example/blockboxes/laws.FnBlockRun", spec := "fnBlockRun", inPlace := ["internal/abi.NoEscape"], unfollowed := true, recurses := true, plainKeys := false, apart := false }
def FnBlockRunSaid : Prop := fnBlockRunRow.holds Try.pinned (OpenSpec.ofChange fnBlockRunSpec)

/-- ITS FALSE NEIGHBOUR: 'it returns false'. Refute it at one input. -/
def fnBlockRunWrong : ChangeSpec := { name := "fnBlockRun", fn := fun _ => fun
  | [d1, d2] => { results := [.lit (.bool false)], args := [d1, d2] }
  | _ => none }
def FnBlockRunWrongFalsely : Prop := fnBlockRunRow.holds Try.pinned (OpenSpec.ofChange fnBlockRunWrong)

/- THE SECOND FORM. 'bulk': how many values and letters a reading holds, each counted each time it is reached (what is shared counts as often as it is met; a slice's spare places count too). A statement '..UptoSaid' is the law's where the arguments, and the package variables that the reading takes, are together of bulk at most 1048576: NARROWER than '..Said'. Prove '..Said' where nothing that the law and all that it calls make is longer than what came in: it says more and counts as full. Else prove '..UptoSaid'. A law counts once. -/
mutual
def uptoBulk {H : Type} : DataW H → Nat
  | .lit (.string bytes) => bytes.length + 1
  | .lit _ => 1
  | .nil => 1
  | .ptr d => uptoBulk d + 1
  | .slice elems spare => uptoBulkAll elems + uptoBulkAll spare + 1
  | .agg parts => uptoBulkAll parts + 1
  | .iface _ d => uptoBulk d + 1
  | .map entries => uptoBulkEntries entries + 1
  | .held _ => 1
def uptoBulkAll {H : Type} : List (DataW H) → Nat
  | [] => 0
  | d :: r => uptoBulk d + uptoBulkAll r
def uptoBulkEntries {H : Type} : List (Lit × DataW H) → Nat
  | [] => 0
  | x :: r => uptoBulkEntry x + uptoBulkEntries r
def uptoBulkEntry {H : Type} : Lit × DataW H → Nat
  | (.string bytes, d) => bytes.length + uptoBulk d + 1
  | (_, d) => uptoBulk d + 1
 end
def uptoSmall : (H : Type) → List (DataW H) → Bool := fun _ ds => decide (uptoBulkAll ds ≤ 1048576)
def OpenSpec.upto (s : _root_.Go.ChangeSpec) : _root_.Go.OpenSpec := { _root_.Go.OpenSpec.ofChange s with cond := some uptoSmall }

/-- 'laws.FnBlockCycle', WHERE WHAT IT READS IS OF BULK AT MOST 1048576: true; the input reads as it did. -/
def fnBlockCycleUptoRow : OpenClaim := { program := "ytlneedjhdnjnpaa", sum := "f35af63f57602682c5c420c310782c9f1c9872c98fec2e593de5a2115783e42a", func := "loop.example/blockboxes/laws.FnBlockCycle", spec := "fnBlockCycle", inPlace := ["internal/abi.NoEscape", "internal/bytealg.MakeNoZero", "internal/bytealg.CountString", "internal/bytealg.IndexByteString", "internal/bytealg.IndexString"], unfollowed := true, recurses := true, named := ["internal/bytealg.MaxLen"], plainKeys := false, apart := false, narrowed := true }
def FnBlockCycleUptoSaid : Prop := fnBlockCycleUptoRow.holds Try.pinned (OpenSpec.upto fnBlockCycleSpec)

/-- 'laws.FnBlockTrains', WHERE WHAT IT READS IS OF BULK AT MOST 1048576: true; the input reads as it did. -/
def fnBlockTrainsUptoRow : OpenClaim := { program := "ytlneedjhdnjnpaa", sum := "f35af63f57602682c5c420c310782c9f1c9872c98fec2e593de5a2115783e42a", func := "loop.example/blockboxes/laws.FnBlockTrains", spec := "fnBlockTrains", inPlace := ["internal/bytealg.CountString", "internal/bytealg.IndexByteString", "internal/bytealg.IndexString", "internal/abi.NoEscape", "internal/bytealg.MakeNoZero"], unfollowed := true, recurses := true, named := ["internal/bytealg.MaxLen"], plainKeys := false, apart := false, narrowed := true }
def FnBlockTrainsUptoSaid : Prop := fnBlockTrainsUptoRow.holds Try.pinned (OpenSpec.upto fnBlockTrainsSpec)

/-- 'laws.FnBlockSafe', WHERE WHAT IT READS IS OF BULK AT MOST 1048576: true; the input reads as it did. -/
def fnBlockSafeUptoRow : OpenClaim := { program := "ytlneedjhdnjnpaa", sum := "f35af63f57602682c5c420c310782c9f1c9872c98fec2e593de5a2115783e42a", func := "loop.example/blockboxes/laws.FnBlockSafe", spec := "fnBlockSafe", unfollowed := true, recurses := true, plainKeys := false, apart := false, narrowed := true }
def FnBlockSafeUptoSaid : Prop := fnBlockSafeUptoRow.holds Try.pinned (OpenSpec.upto fnBlockSafeSpec)

/-- 'laws.FnBlockNormal', WHERE WHAT IT READS IS OF BULK AT MOST 1048576: true; the input reads as it did. -/
def fnBlockNormalUptoRow : OpenClaim := { program := "ytlneedjhdnjnpaa", sum := "f35af63f57602682c5c420c310782c9f1c9872c98fec2e593de5a2115783e42a", func := "loop.example/blockboxes/laws.FnBlockNormal", spec := "fnBlockNormal", unfollowed := true, recurses := true, plainKeys := false, apart := false, narrowed := true }
def FnBlockNormalUptoSaid : Prop := fnBlockNormalUptoRow.holds Try.pinned (OpenSpec.upto fnBlockNormalSpec)

/-- 'laws.FnBlockNext', WHERE WHAT IT READS IS OF BULK AT MOST 1048576: true; the input reads as it did. -/
def fnBlockNextUptoRow : OpenClaim := { program := "ytlneedjhdnjnpaa", sum := "f35af63f57602682c5c420c310782c9f1c9872c98fec2e593de5a2115783e42a", func := "loop.example/blockboxes/laws.FnBlockNext", spec := "fnBlockNext", inPlace := ["internal/abi.NoEscape"], unfollowed := true, recurses := true, plainKeys := false, apart := false, narrowed := true }
def FnBlockNextUptoSaid : Prop := fnBlockNextUptoRow.holds Try.pinned (OpenSpec.upto fnBlockNextSpec)

/-- 'laws.FnBlockStep', WHERE WHAT IT READS IS OF BULK AT MOST 1048576: true; the input reads as it did. -/
def fnBlockStepUptoRow : OpenClaim := { program := "ytlneedjhdnjnpaa", sum := "f35af63f57602682c5c420c310782c9f1c9872c98fec2e593de5a2115783e42a", func := "loop.example/blockboxes/laws.FnBlockStep", spec := "fnBlockStep", inPlace := ["internal/abi.NoEscape"], unfollowed := true, recurses := true, plainKeys := false, apart := false, narrowed := true }
def FnBlockStepUptoSaid : Prop := fnBlockStepUptoRow.holds Try.pinned (OpenSpec.upto fnBlockStepSpec)

/-- 'laws.FnBlockMany', WHERE WHAT IT READS IS OF BULK AT MOST 1048576: true; the input reads as it did. -/
def fnBlockManyUptoRow : OpenClaim := { program := "ytlneedjhdnjnpaa", sum := "f35af63f57602682c5c420c310782c9f1c9872c98fec2e593de5a2115783e42a", func := "loop.example/blockboxes/laws.FnBlockMany", spec := "fnBlockMany", inPlace := ["internal/abi.NoEscape"], unfollowed := true, recurses := true, plainKeys := false, apart := false, narrowed := true }
def FnBlockManyUptoSaid : Prop := fnBlockManyUptoRow.holds Try.pinned (OpenSpec.upto fnBlockManySpec)

/-- 'laws.FnBlockRepairDrop', WHERE WHAT IT READS IS OF BULK AT MOST 1048576: true; the input reads as it did. -/
def fnBlockRepairDropUptoRow : OpenClaim := { program := "ytlneedjhdnjnpaa", sum := "f35af63f57602682c5c420c310782c9f1c9872c98fec2e593de5a2115783e42a", func := "loop.example/blockboxes/laws.FnBlockRepairDrop", spec := "fnBlockRepairDrop", unfollowed := true, recurses := true, plainKeys := false, apart := false, narrowed := true }
def FnBlockRepairDropUptoSaid : Prop := fnBlockRepairDropUptoRow.holds Try.pinned (OpenSpec.upto fnBlockRepairDropSpec)

/-- 'laws.FnBlockRepair', WHERE WHAT IT READS IS OF BULK AT MOST 1048576: true; the input reads as it did. -/
def fnBlockRepairUptoRow : OpenClaim := { program := "ytlneedjhdnjnpaa", sum := "f35af63f57602682c5c420c310782c9f1c9872c98fec2e593de5a2115783e42a", func := "loop.example/blockboxes/laws.FnBlockRepair", spec := "fnBlockRepair", unfollowed := true, recurses := true, plainKeys := false, apart := false, narrowed := true }
def FnBlockRepairUptoSaid : Prop := fnBlockRepairUptoRow.holds Try.pinned (OpenSpec.upto fnBlockRepairSpec)

/-- 'laws.FnBlockWay', WHERE WHAT IT READS IS OF BULK AT MOST 1048576: true; the input reads as it did. -/
def fnBlockWayUptoRow : OpenClaim := { program := "ytlneedjhdnjnpaa", sum := "f35af63f57602682c5c420c310782c9f1c9872c98fec2e593de5a2115783e42a", func := "loop.example/blockboxes/laws.FnBlockWay", spec := "fnBlockWay", inPlace := ["internal/abi.NoEscape"], unfollowed := true, recurses := true, plainKeys := false, apart := false, narrowed := true }
def FnBlockWayUptoSaid : Prop := fnBlockWayUptoRow.holds Try.pinned (OpenSpec.upto fnBlockWaySpec)

/-- 'laws.FnBlockRun', WHERE WHAT IT READS IS OF BULK AT MOST 1048576: true; the input reads as it did. -/
def fnBlockRunUptoRow : OpenClaim := { program := "ytlneedjhdnjnpaa", sum := "f35af63f57602682c5c420c310782c9f1c9872c98fec2e593de5a2115783e42a", func := "loop.example/blockboxes/laws.FnBlockRun", spec := "fnBlockRun", inPlace := ["internal/abi.NoEscape"], unfollowed := true, recurses := true, plainKeys := false, apart := false, narrowed := true }
def FnBlockRunUptoSaid : Prop := fnBlockRunUptoRow.holds Try.pinned (OpenSpec.upto fnBlockRunSpec)

end Rows
end Go.Proofs.Ytlneedjhdnjnpaa
