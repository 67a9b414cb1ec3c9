/-
  No cell of these rows narrows 'for every input' (looked for: loops, veiled, ifaces, maps, wideKeys, modest, calm, conditions, laid).
  DERIVED. THE GIVEN ROWS OF THIS SEAT. 12 by the template 'for every input the law returns true; each argument reads behind the call as it read before'; 0 by the template 'total and deterministic' (their statements: YtagboepkmedggaaTotals.lean).
  GIVEN WITH THE SEED: the statements are not yours to turn. If you find one false, say at which input.
  Laid BY PROGRAM, IN A SANDBOX (cutbox-rows.mjs): the forced cells as the released guide's own fill.sh prints them over the translation 054fb3f59794f734… (all of the seat's roots in one cut). By AI agents, Wed Nov 11 2026. No macro, syntax, notation, axiom, sorry.
-/
import Derived.Test.YtagboepkmedggaaChecked
import GoSem.Claim
import GoSem.ClaimJoined
import GoSem.ClaimMapViews
import Derived.JoinedTies
import Derived.KernelRfl
namespace Go.Proofs.Ytagboepkmedggaa
/- THE CELL 'sum', in the pinned program and in every row, IS THE sha256 OF THE DUMP (.gsa) THAT YtagboepkmedggaaProg.lean LOADS. Nothing in Lean hashes anything: it is a label: what it is worth is what the hold of that sum in a sandbox is worth. -/
noncomputable def Try.pinned : Pinned := { name := "ytagboepkmedggaa", sum := "054fb3f59794f7341368a76830a294ee41799a7320ab51bf5d45275362f74989", checked := Try.checked }
namespace Rows
def none {H : Type} : Left H := { results := [], args := [] }

/-- 'laws.FnExactBlockPossible': WHATEVER THE INPUT: true; the input reads as it did. -/
def fnExactBlockPossibleSpec : ChangeSpec := { name := "fnExactBlockPossible", fn := fun _ => fun
  | [d] => { results := [.lit (.bool true)], args := [d] }
  | _ => none }
def fnExactBlockPossibleRow : OpenClaim := { program := "ytagboepkmedggaa", sum := "054fb3f59794f7341368a76830a294ee41799a7320ab51bf5d45275362f74989", func := "loop.example/blockboxes/laws.FnExactBlockPossible", spec := "fnExactBlockPossible", unfollowed := true, recurses := true, plainKeys := false, apart := false }
def FnExactBlockPossibleSaid : Prop := fnExactBlockPossibleRow.holds Try.pinned (OpenSpec.ofChange fnExactBlockPossibleSpec)

/-- ITS FALSE NEIGHBOUR: 'it returns false'. Refute it at one input. -/
def fnExactBlockPossibleWrong : ChangeSpec := { name := "fnExactBlockPossible", fn := fun _ => fun
  | [d] => { results := [.lit (.bool false)], args := [d] }
  | _ => none }
def FnExactBlockPossibleWrongFalsely : Prop := fnExactBlockPossibleRow.holds Try.pinned (OpenSpec.ofChange fnExactBlockPossibleWrong)

/-- 'laws.FnExactBlockLegal': WHATEVER THE INPUT: true; the input reads as it did. -/
def fnExactBlockLegalSpec : ChangeSpec := { name := "fnExactBlockLegal", fn := fun _ => fun
  | [d] => { results := [.lit (.bool true)], args := [d] }
  | _ => none }
def fnExactBlockLegalRow : OpenClaim := { program := "ytagboepkmedggaa", sum := "054fb3f59794f7341368a76830a294ee41799a7320ab51bf5d45275362f74989", func := "loop.example/blockboxes/laws.FnExactBlockLegal", spec := "fnExactBlockLegal", unfollowed := true, recurses := true, plainKeys := false, apart := false }
def FnExactBlockLegalSaid : Prop := fnExactBlockLegalRow.holds Try.pinned (OpenSpec.ofChange fnExactBlockLegalSpec)

/-- ITS FALSE NEIGHBOUR: 'it returns false'. Refute it at one input. -/
def fnExactBlockLegalWrong : ChangeSpec := { name := "fnExactBlockLegal", fn := fun _ => fun
  | [d] => { results := [.lit (.bool false)], args := [d] }
  | _ => none }
def FnExactBlockLegalWrongFalsely : Prop := fnExactBlockLegalRow.holds Try.pinned (OpenSpec.ofChange fnExactBlockLegalWrong)

/-- 'laws.FnExactBlockStep': WHATEVER THE INPUT: true; the input reads as it did. -/
def fnExactBlockStepSpec : ChangeSpec := { name := "fnExactBlockStep", fn := fun _ => fun
  | [d1, d2] => { results := [.lit (.bool true)], args := [d1, d2] }
  | _ => none }
def fnExactBlockStepRow : OpenClaim := { program := "ytagboepkmedggaa", sum := "054fb3f59794f7341368a76830a294ee41799a7320ab51bf5d45275362f74989", func := "loop.example/blockboxes/laws.FnExactBlockStep", spec := "fnExactBlockStep", unfollowed := true, recurses := true, plainKeys := false, apart := false }
def FnExactBlockStepSaid : Prop := fnExactBlockStepRow.holds Try.pinned (OpenSpec.ofChange fnExactBlockStepSpec)

/-- ITS FALSE NEIGHBOUR: 'it returns false'. Refute it at one input. -/
def fnExactBlockStepWrong : ChangeSpec := { name := "fnExactBlockStep", fn := fun _ => fun
  | [d1, d2] => { results := [.lit (.bool false)], args := [d1, d2] }
  | _ => none }
def FnExactBlockStepWrongFalsely : Prop := fnExactBlockStepRow.holds Try.pinned (OpenSpec.ofChange fnExactBlockStepWrong)

/-- 'laws.FnExactBlockNormal': WHATEVER THE INPUT: true; the input reads as it did. -/
def fnExactBlockNormalSpec : ChangeSpec := { name := "fnExactBlockNormal", fn := fun _ => fun
  | [d] => { results := [.lit (.bool true)], args := [d] }
  | _ => none }
def fnExactBlockNormalRow : OpenClaim := { program := "ytagboepkmedggaa", sum := "054fb3f59794f7341368a76830a294ee41799a7320ab51bf5d45275362f74989", func := "loop.example/blockboxes/laws.FnExactBlockNormal", spec := "fnExactBlockNormal", unfollowed := true, recurses := true, plainKeys := false, apart := false }
def FnExactBlockNormalSaid : Prop := fnExactBlockNormalRow.holds Try.pinned (OpenSpec.ofChange fnExactBlockNormalSpec)

/-- ITS FALSE NEIGHBOUR: 'it returns false'. Refute it at one input. -/
def fnExactBlockNormalWrong : ChangeSpec := { name := "fnExactBlockNormal", fn := fun _ => fun
  | [d] => { results := [.lit (.bool false)], args := [d] }
  | _ => none }
def FnExactBlockNormalWrongFalsely : Prop := fnExactBlockNormalRow.holds Try.pinned (OpenSpec.ofChange fnExactBlockNormalWrong)

/-- 'laws.FnExactBlockRun': WHATEVER THE INPUT: true; the input reads as it did. -/
def fnExactBlockRunSpec : ChangeSpec := { name := "fnExactBlockRun", fn := fun _ => fun
  | [d1, d2] => { results := [.lit (.bool true)], args := [d1, d2] }
  | _ => none }
def fnExactBlockRunRow : OpenClaim := { program := "ytagboepkmedggaa", sum := "054fb3f59794f7341368a76830a294ee41799a7320ab51bf5d45275362f74989", func := "loop.example/blockboxes/laws.FnExactBlockRun", spec := "fnExactBlockRun", unfollowed := true, recurses := true, plainKeys := false, apart := false }
def FnExactBlockRunSaid : Prop := fnExactBlockRunRow.holds Try.pinned (OpenSpec.ofChange fnExactBlockRunSpec)

/-- ITS FALSE NEIGHBOUR: 'it returns false'. Refute it at one input. -/
def fnExactBlockRunWrong : ChangeSpec := { name := "fnExactBlockRun", fn := fun _ => fun
  | [d1, d2] => { results := [.lit (.bool false)], args := [d1, d2] }
  | _ => none }
def FnExactBlockRunWrongFalsely : Prop := fnExactBlockRunRow.holds Try.pinned (OpenSpec.ofChange fnExactBlockRunWrong)

/-- 'laws.FnExactBlockNext': WHATEVER THE INPUT: true; the input reads as it did. -/
def fnExactBlockNextSpec : ChangeSpec := { name := "fnExactBlockNext", fn := fun _ => fun
  | [d] => { results := [.lit (.bool true)], args := [d] }
  | _ => none }
def fnExactBlockNextRow : OpenClaim := { program := "ytagboepkmedggaa", sum := "054fb3f59794f7341368a76830a294ee41799a7320ab51bf5d45275362f74989", func := "loop.example/blockboxes/laws.FnExactBlockNext", spec := "fnExactBlockNext", inPlace := ["internal/abi.NoEscape"], unfollowed := true, recurses := true, plainKeys := false, apart := false }
def FnExactBlockNextSaid : Prop := fnExactBlockNextRow.holds Try.pinned (OpenSpec.ofChange fnExactBlockNextSpec)

/-- ITS FALSE NEIGHBOUR: 'it returns false'. Refute it at one input. -/
def fnExactBlockNextWrong : ChangeSpec := { name := "fnExactBlockNext", fn := fun _ => fun
  | [d] => { results := [.lit (.bool false)], args := [d] }
  | _ => none }
def FnExactBlockNextWrongFalsely : Prop := fnExactBlockNextRow.holds Try.pinned (OpenSpec.ofChange fnExactBlockNextWrong)

/-- 'laws.FnExactBlockDrop': WHATEVER THE INPUT: true; the input reads as it did. -/
def fnExactBlockDropSpec : ChangeSpec := { name := "fnExactBlockDrop", fn := fun _ => fun
  | [d] => { results := [.lit (.bool true)], args := [d] }
  | _ => none }
def fnExactBlockDropRow : OpenClaim := { program := "ytagboepkmedggaa", sum := "054fb3f59794f7341368a76830a294ee41799a7320ab51bf5d45275362f74989", func := "loop.example/blockboxes/laws.FnExactBlockDrop", spec := "fnExactBlockDrop", unfollowed := true, recurses := true, plainKeys := false, apart := false }
def FnExactBlockDropSaid : Prop := fnExactBlockDropRow.holds Try.pinned (OpenSpec.ofChange fnExactBlockDropSpec)

/-- ITS FALSE NEIGHBOUR: 'it returns false'. Refute it at one input. -/
def fnExactBlockDropWrong : ChangeSpec := { name := "fnExactBlockDrop", fn := fun _ => fun
  | [d] => { results := [.lit (.bool false)], args := [d] }
  | _ => none }
def FnExactBlockDropWrongFalsely : Prop := fnExactBlockDropRow.holds Try.pinned (OpenSpec.ofChange fnExactBlockDropWrong)

/-- 'laws.FnExactBlockCycle': WHATEVER THE INPUT: true; the input reads as it did. -/
def fnExactBlockCycleSpec : ChangeSpec := { name := "fnExactBlockCycle", fn := fun _ => fun
  | [d] => { results := [.lit (.bool true)], args := [d] }
  | _ => none }
def fnExactBlockCycleRow : OpenClaim := { program := "ytagboepkmedggaa", sum := "054fb3f59794f7341368a76830a294ee41799a7320ab51bf5d45275362f74989", func := "loop.example/blockboxes/laws.FnExactBlockCycle", spec := "fnExactBlockCycle", inPlace := ["internal/abi.NoEscape", "internal/bytealg.MakeNoZero"], plainKeys := false, apart := false }
def FnExactBlockCycleSaid : Prop := fnExactBlockCycleRow.holds Try.pinned (OpenSpec.ofChange fnExactBlockCycleSpec)

/-- ITS FALSE NEIGHBOUR: 'it returns false'. Refute it at one input. -/
def fnExactBlockCycleWrong : ChangeSpec := { name := "fnExactBlockCycle", fn := fun _ => fun
  | [d] => { results := [.lit (.bool false)], args := [d] }
  | _ => none }
def FnExactBlockCycleWrongFalsely : Prop := fnExactBlockCycleRow.holds Try.pinned (OpenSpec.ofChange fnExactBlockCycleWrong)

/-- 'laws.FnExactBlockMany': WHATEVER THE INPUT: true; the input reads as it did. -/
def fnExactBlockManySpec : ChangeSpec := { name := "fnExactBlockMany", fn := fun _ => fun
  | [d1, d2] => { results := [.lit (.bool true)], args := [d1, d2] }
  | _ => none }
def fnExactBlockManyRow : OpenClaim := { program := "ytagboepkmedggaa", sum := "054fb3f59794f7341368a76830a294ee41799a7320ab51bf5d45275362f74989", func := "loop.example/blockboxes/laws.FnExactBlockMany", spec := "fnExactBlockMany", unfollowed := true, recurses := true, plainKeys := false, apart := false }
def FnExactBlockManySaid : Prop := fnExactBlockManyRow.holds Try.pinned (OpenSpec.ofChange fnExactBlockManySpec)

/-- ITS FALSE NEIGHBOUR: 'it returns false'. Refute it at one input. -/
def fnExactBlockManyWrong : ChangeSpec := { name := "fnExactBlockMany", fn := fun _ => fun
  | [d1, d2] => { results := [.lit (.bool false)], args := [d1, d2] }
  | _ => none }
def FnExactBlockManyWrongFalsely : Prop := fnExactBlockManyRow.holds Try.pinned (OpenSpec.ofChange fnExactBlockManyWrong)

/-- 'laws.FnExactBlockRepair': WHATEVER THE INPUT: true; the input reads as it did. -/
def fnExactBlockRepairSpec : ChangeSpec := { name := "fnExactBlockRepair", fn := fun _ => fun
  | [d] => { results := [.lit (.bool true)], args := [d] }
  | _ => none }
def fnExactBlockRepairRow : OpenClaim := { program := "ytagboepkmedggaa", sum := "054fb3f59794f7341368a76830a294ee41799a7320ab51bf5d45275362f74989", func := "loop.example/blockboxes/laws.FnExactBlockRepair", spec := "fnExactBlockRepair", unfollowed := true, recurses := true, plainKeys := false, apart := false }
def FnExactBlockRepairSaid : Prop := fnExactBlockRepairRow.holds Try.pinned (OpenSpec.ofChange fnExactBlockRepairSpec)

/-- ITS FALSE NEIGHBOUR: 'it returns false'. Refute it at one input. -/
def fnExactBlockRepairWrong : ChangeSpec := { name := "fnExactBlockRepair", fn := fun _ => fun
  | [d] => { results := [.lit (.bool false)], args := [d] }
  | _ => none }
def FnExactBlockRepairWrongFalsely : Prop := fnExactBlockRepairRow.holds Try.pinned (OpenSpec.ofChange fnExactBlockRepairWrong)

/-- 'laws.FnExactBlockWay': WHATEVER THE INPUT: true; the input reads as it did. -/
def fnExactBlockWaySpec : ChangeSpec := { name := "fnExactBlockWay", fn := fun _ => fun
  | [d1, d2] => { results := [.lit (.bool true)], args := [d1, d2] }
  | _ => none }
def fnExactBlockWayRow : OpenClaim := { program := "ytagboepkmedggaa", sum := "054fb3f59794f7341368a76830a294ee41799a7320ab51bf5d45275362f74989", func := "loop.example/blockboxes/laws.FnExactBlockWay", spec := "fnExactBlockWay", inPlace := ["internal/abi.NoEscape"], unfollowed := true, recurses := true, plainKeys := false, apart := false }
def FnExactBlockWaySaid : Prop := fnExactBlockWayRow.holds Try.pinned (OpenSpec.ofChange fnExactBlockWaySpec)

/-- ITS FALSE NEIGHBOUR: 'it returns false'. Refute it at one input. -/
def fnExactBlockWayWrong : ChangeSpec := { name := "fnExactBlockWay", fn := fun _ => fun
  | [d1, d2] => { results := [.lit (.bool false)], args := [d1, d2] }
  | _ => none }
def FnExactBlockWayWrongFalsely : Prop := fnExactBlockWayRow.holds Try.pinned (OpenSpec.ofChange fnExactBlockWayWrong)

/-- 'laws.FnExactBlockTrains': WHATEVER THE INPUT: true; the input reads as it did. -/
def fnExactBlockTrainsSpec : ChangeSpec := { name := "fnExactBlockTrains", fn := fun _ => fun
  | [d] => { results := [.lit (.bool true)], args := [d] }
  | _ => none }
def fnExactBlockTrainsRow : OpenClaim := { program := "ytagboepkmedggaa", sum := "054fb3f59794f7341368a76830a294ee41799a7320ab51bf5d45275362f74989", func := "loop.example/blockboxes/laws.FnExactBlockTrains", spec := "fnExactBlockTrains", inPlace := ["internal/bytealg.CountString", "internal/bytealg.IndexByteString", "internal/bytealg.IndexString"], unfollowed := true, recurses := true, named := ["internal/bytealg.MaxLen"], plainKeys := false, apart := false }
def FnExactBlockTrainsSaid : Prop := fnExactBlockTrainsRow.holds Try.pinned (OpenSpec.ofChange fnExactBlockTrainsSpec)

/-- ITS FALSE NEIGHBOUR: 'it returns false'. Refute it at one input. -/
def fnExactBlockTrainsWrong : ChangeSpec := { name := "fnExactBlockTrains", fn := fun _ => fun
  | [d] => { results := [.lit (.bool false)], args := [d] }
  | _ => none }
def FnExactBlockTrainsWrongFalsely : Prop := fnExactBlockTrainsRow.holds Try.pinned (OpenSpec.ofChange fnExactBlockTrainsWrong)

/- THE SECOND FORM. 'bulk': how many values and letters a reading holds, each counted each time it is reached (what is shared counts as often as it is met; a slice's spare places count too). A statement '..UptoSaid' is the law's where the arguments, and the package variables that the reading takes, are together of bulk at most 1048576: NARROWER than '..Said'. Prove '..Said' where nothing that the law and all that it calls make is longer than what came in: it says more and counts as full. Else prove '..UptoSaid'. A law counts once. -/
mutual
def uptoBulk {H : Type} : DataW H → Nat
  | .lit (.string bytes) => bytes.length + 1
  | .lit _ => 1
  | .nil => 1
  | .ptr d => uptoBulk d + 1
  | .slice elems spare => uptoBulkAll elems + uptoBulkAll spare + 1
  | .agg parts => uptoBulkAll parts + 1
  | .iface _ d => uptoBulk d + 1
  | .map entries => uptoBulkEntries entries + 1
  | .held _ => 1
def uptoBulkAll {H : Type} : List (DataW H) → Nat
  | [] => 0
  | d :: r => uptoBulk d + uptoBulkAll r
def uptoBulkEntries {H : Type} : List (Lit × DataW H) → Nat
  | [] => 0
  | x :: r => uptoBulkEntry x + uptoBulkEntries r
def uptoBulkEntry {H : Type} : Lit × DataW H → Nat
  | (.string bytes, d) => bytes.length + uptoBulk d + 1
  | (_, d) => uptoBulk d + 1
 end
def uptoSmall : (H : Type) → List (DataW H) → Bool := fun _ ds => decide (uptoBulkAll ds ≤ 1048576)
def OpenSpec.upto (s : _root_.Go.ChangeSpec) : _root_.Go.OpenSpec := { _root_.Go.OpenSpec.ofChange s with cond := some uptoSmall }

/-- 'laws.FnExactBlockPossible', WHERE WHAT IT READS IS OF BULK AT MOST 1048576: true; the input reads as it did. -/
def fnExactBlockPossibleUptoRow : OpenClaim := { program := "ytagboepkmedggaa", sum := "054fb3f59794f7341368a76830a294ee41799a7320ab51bf5d45275362f74989", func := "loop.example/blockboxes/laws.FnExactBlockPossible", spec := "fnExactBlockPossible", unfollowed := true, recurses := true, plainKeys := false, apart := false, narrowed := true }
def FnExactBlockPossibleUptoSaid : Prop := fnExactBlockPossibleUptoRow.holds Try.pinned (OpenSpec.upto fnExactBlockPossibleSpec)

/-- 'laws.FnExactBlockLegal', WHERE WHAT IT READS IS OF BULK AT MOST 1048576: true; the input reads as it did. -/
def fnExactBlockLegalUptoRow : OpenClaim := { program := "ytagboepkmedggaa", sum := "054fb3f59794f7341368a76830a294ee41799a7320ab51bf5d45275362f74989", func := "loop.example/blockboxes/laws.FnExactBlockLegal", spec := "fnExactBlockLegal", unfollowed := true, recurses := true, plainKeys := false, apart := false, narrowed := true }
def FnExactBlockLegalUptoSaid : Prop := fnExactBlockLegalUptoRow.holds Try.pinned (OpenSpec.upto fnExactBlockLegalSpec)

/-- 'laws.FnExactBlockStep', WHERE WHAT IT READS IS OF BULK AT MOST 1048576: true; the input reads as it did. -/
def fnExactBlockStepUptoRow : OpenClaim := { program := "ytagboepkmedggaa", sum := "054fb3f59794f7341368a76830a294ee41799a7320ab51bf5d45275362f74989", func := "loop.example/blockboxes/laws.FnExactBlockStep", spec := "fnExactBlockStep", unfollowed := true, recurses := true, plainKeys := false, apart := false, narrowed := true }
def FnExactBlockStepUptoSaid : Prop := fnExactBlockStepUptoRow.holds Try.pinned (OpenSpec.upto fnExactBlockStepSpec)

/-- 'laws.FnExactBlockNormal', WHERE WHAT IT READS IS OF BULK AT MOST 1048576: true; the input reads as it did. -/
def fnExactBlockNormalUptoRow : OpenClaim := { program := "ytagboepkmedggaa", sum := "054fb3f59794f7341368a76830a294ee41799a7320ab51bf5d45275362f74989", func := "loop.example/blockboxes/laws.FnExactBlockNormal", spec := "fnExactBlockNormal", unfollowed := true, recurses := true, plainKeys := false, apart := false, narrowed := true }
def FnExactBlockNormalUptoSaid : Prop := fnExactBlockNormalUptoRow.holds Try.pinned (OpenSpec.upto fnExactBlockNormalSpec)

/-- 'laws.FnExactBlockRun', WHERE WHAT IT READS IS OF BULK AT MOST 1048576: true; the input reads as it did. -/
def fnExactBlockRunUptoRow : OpenClaim := { program := "ytagboepkmedggaa", sum := "054fb3f59794f7341368a76830a294ee41799a7320ab51bf5d45275362f74989", func := "loop.example/blockboxes/laws.FnExactBlockRun", spec := "fnExactBlockRun", unfollowed := true, recurses := true, plainKeys := false, apart := false, narrowed := true }
def FnExactBlockRunUptoSaid : Prop := fnExactBlockRunUptoRow.holds Try.pinned (OpenSpec.upto fnExactBlockRunSpec)

/-- 'laws.FnExactBlockNext', WHERE WHAT IT READS IS OF BULK AT MOST 1048576: true; the input reads as it did. -/
def fnExactBlockNextUptoRow : OpenClaim := { program := "ytagboepkmedggaa", sum := "054fb3f59794f7341368a76830a294ee41799a7320ab51bf5d45275362f74989", func := "loop.example/blockboxes/laws.FnExactBlockNext", spec := "fnExactBlockNext", inPlace := ["internal/abi.NoEscape"], unfollowed := true, recurses := true, plainKeys := false, apart := false, narrowed := true }
def FnExactBlockNextUptoSaid : Prop := fnExactBlockNextUptoRow.holds Try.pinned (OpenSpec.upto fnExactBlockNextSpec)

/-- 'laws.FnExactBlockDrop', WHERE WHAT IT READS IS OF BULK AT MOST 1048576: true; the input reads as it did. -/
def fnExactBlockDropUptoRow : OpenClaim := { program := "ytagboepkmedggaa", sum := "054fb3f59794f7341368a76830a294ee41799a7320ab51bf5d45275362f74989", func := "loop.example/blockboxes/laws.FnExactBlockDrop", spec := "fnExactBlockDrop", unfollowed := true, recurses := true, plainKeys := false, apart := false, narrowed := true }
def FnExactBlockDropUptoSaid : Prop := fnExactBlockDropUptoRow.holds Try.pinned (OpenSpec.upto fnExactBlockDropSpec)

/-- 'laws.FnExactBlockCycle', WHERE WHAT IT READS IS OF BULK AT MOST 1048576: true; the input reads as it did. -/
def fnExactBlockCycleUptoRow : OpenClaim := { program := "ytagboepkmedggaa", sum := "054fb3f59794f7341368a76830a294ee41799a7320ab51bf5d45275362f74989", func := "loop.example/blockboxes/laws.FnExactBlockCycle", spec := "fnExactBlockCycle", inPlace := ["internal/abi.NoEscape", "internal/bytealg.MakeNoZero"], plainKeys := false, apart := false, narrowed := true }
def FnExactBlockCycleUptoSaid : Prop := fnExactBlockCycleUptoRow.holds Try.pinned (OpenSpec.upto fnExactBlockCycleSpec)

/-- 'laws.FnExactBlockMany', WHERE WHAT IT READS IS OF BULK AT MOST 1048576: true; the input reads as it did. -/
def fnExactBlockManyUptoRow : OpenClaim := { program := "ytagboepkmedggaa", sum := "054fb3f59794f7341368a76830a294ee41799a7320ab51bf5d45275362f74989", func := "loop.example/blockboxes/laws.FnExactBlockMany", spec := "fnExactBlockMany", unfollowed := true, recurses := true, plainKeys := false, apart := false, narrowed := true }
def FnExactBlockManyUptoSaid : Prop := fnExactBlockManyUptoRow.holds Try.pinned (OpenSpec.upto fnExactBlockManySpec)

/-- 'laws.FnExactBlockRepair', WHERE WHAT IT READS IS OF BULK AT MOST 1048576: true; the input reads as it did. -/
def fnExactBlockRepairUptoRow : OpenClaim := { program := "ytagboepkmedggaa", sum := "054fb3f59794f7341368a76830a294ee41799a7320ab51bf5d45275362f74989", func := "loop.example/blockboxes/laws.FnExactBlockRepair", spec := "fnExactBlockRepair", unfollowed := true, recurses := true, plainKeys := false, apart := false, narrowed := true }
def FnExactBlockRepairUptoSaid : Prop := fnExactBlockRepairUptoRow.holds Try.pinned (OpenSpec.upto fnExactBlockRepairSpec)

/-- 'laws.FnExactBlockWay', WHERE WHAT IT READS IS OF BULK AT MOST 1048576: true; the input reads as it did. -/
def fnExactBlockWayUptoRow : OpenClaim := { program := "ytagboepkmedggaa", sum := "054fb3f59794f7341368a76830a294ee41799a7320ab51bf5d45275362f74989", func := "loop.example/blockboxes/laws.FnExactBlockWay", spec := "fnExactBlockWay", inPlace := ["internal/abi.NoEscape"], unfollowed := true, recurses := true, plainKeys := false, apart := false, narrowed := true }
def FnExactBlockWayUptoSaid : Prop := fnExactBlockWayUptoRow.holds Try.pinned (OpenSpec.upto fnExactBlockWaySpec)

/-- 'laws.FnExactBlockTrains', WHERE WHAT IT READS IS OF BULK AT MOST 1048576: true; the input reads as it did. -/
def fnExactBlockTrainsUptoRow : OpenClaim := { program := "ytagboepkmedggaa", sum := "054fb3f59794f7341368a76830a294ee41799a7320ab51bf5d45275362f74989", func := "loop.example/blockboxes/laws.FnExactBlockTrains", spec := "fnExactBlockTrains", inPlace := ["internal/bytealg.CountString", "internal/bytealg.IndexByteString", "internal/bytealg.IndexString"], unfollowed := true, recurses := true, named := ["internal/bytealg.MaxLen"], plainKeys := false, apart := false, narrowed := true }
def FnExactBlockTrainsUptoSaid : Prop := fnExactBlockTrainsUptoRow.holds Try.pinned (OpenSpec.upto fnExactBlockTrainsSpec)

end Rows
end Go.Proofs.Ytagboepkmedggaa
