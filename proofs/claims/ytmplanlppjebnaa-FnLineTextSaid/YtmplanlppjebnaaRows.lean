/-
  No cell of these rows narrows 'for every input' (looked for: loops, veiled, ifaces, maps, wideKeys, modest, calm, conditions, laid).
  DERIVED. THE GIVEN ROWS OF THIS SEAT. 5 by the template 'for every input the law returns true; each argument reads behind the call as it read before'; 0 by the template 'total and deterministic' (their statements: YtmplanlppjebnaaTotals.lean).
  GIVEN WITH THE SEED: the statements are not yours to turn. If you find one false, say at which input.
  Laid BY PROGRAM, IN A SANDBOX (cutbox-rows.mjs): the forced cells as the released guide's own fill.sh prints them over the translation ff674a320b890eb7… (all of the seat's roots in one cut). By AI agents, Wed Nov 11 2026. No macro, syntax, notation, axiom, sorry.
-/
import Derived.Test.YtmplanlppjebnaaChecked
import GoSem.Claim
import GoSem.ClaimJoined
import GoSem.ClaimMapViews
import Derived.JoinedTies
import Derived.KernelRfl
namespace Go.Proofs.Ytmplanlppjebnaa
/- THE CELL 'sum', in the pinned program and in every row, IS THE sha256 OF THE DUMP (.gsa) THAT YtmplanlppjebnaaProg.lean LOADS. Nothing in Lean hashes anything: it is a label: what it is worth is what the hold of that sum in a sandbox is worth. -/
noncomputable def Try.pinned : Pinned := { name := "ytmplanlppjebnaa", sum := "ff674a320b890eb7864a1b935ca8dd81f69bb89e5b91b0081f24ce38f9a4e835", checked := Try.checked }
namespace Rows
def none {H : Type} : Left H := { results := [], args := [] }

/-- 'laws.FnLineOrder': WHATEVER THE INPUT: true; the input reads as it did. -/
def fnLineOrderSpec : ChangeSpec := { name := "fnLineOrder", fn := fun _ => fun
  | [d] => { results := [.lit (.bool true)], args := [d] }
  | _ => none }
def fnLineOrderRow : OpenClaim := { program := "ytmplanlppjebnaa", sum := "ff674a320b890eb7864a1b935ca8dd81f69bb89e5b91b0081f24ce38f9a4e835", func := "loop.example/blockboxes/laws.FnLineOrder", spec := "fnLineOrder", inPlace := ["internal/abi.NoEscape"], unfollowed := true, recurses := true, apart := false }
def FnLineOrderSaid : Prop := fnLineOrderRow.holds Try.pinned (OpenSpec.ofChange fnLineOrderSpec)

/-- ITS FALSE NEIGHBOUR: 'it returns false'. Refute it at one input. -/
def fnLineOrderWrong : ChangeSpec := { name := "fnLineOrder", fn := fun _ => fun
  | [d] => { results := [.lit (.bool false)], args := [d] }
  | _ => none }
def FnLineOrderWrongFalsely : Prop := fnLineOrderRow.holds Try.pinned (OpenSpec.ofChange fnLineOrderWrong)

/-- 'laws.FnExactLineText': WHATEVER THE INPUT: true; the input reads as it did. -/
def fnExactLineTextSpec : ChangeSpec := { name := "fnExactLineText", fn := fun _ => fun
  | [d1, d2] => { results := [.lit (.bool true)], args := [d1, d2] }
  | _ => none }
def fnExactLineTextRow : OpenClaim := { program := "ytmplanlppjebnaa", sum := "ff674a320b890eb7864a1b935ca8dd81f69bb89e5b91b0081f24ce38f9a4e835", func := "loop.example/blockboxes/laws.FnExactLineText", spec := "fnExactLineText", inPlace := ["internal/abi.NoEscape"], apart := false }
def FnExactLineTextSaid : Prop := fnExactLineTextRow.holds Try.pinned (OpenSpec.ofChange fnExactLineTextSpec)

/-- ITS FALSE NEIGHBOUR: 'it returns false'. Refute it at one input. -/
def fnExactLineTextWrong : ChangeSpec := { name := "fnExactLineText", fn := fun _ => fun
  | [d1, d2] => { results := [.lit (.bool false)], args := [d1, d2] }
  | _ => none }
def FnExactLineTextWrongFalsely : Prop := fnExactLineTextRow.holds Try.pinned (OpenSpec.ofChange fnExactLineTextWrong)

/-- 'laws.FnExactLineNew': WHATEVER THE INPUT: true; the input reads as it did. -/
def fnExactLineNewSpec : ChangeSpec := { name := "fnExactLineNew", fn := fun _ => fun
  | [d1, d2] => { results := [.lit (.bool true)], args := [d1, d2] }
  | _ => none }
def fnExactLineNewRow : OpenClaim := { program := "ytmplanlppjebnaa", sum := "ff674a320b890eb7864a1b935ca8dd81f69bb89e5b91b0081f24ce38f9a4e835", func := "loop.example/blockboxes/laws.FnExactLineNew", spec := "fnExactLineNew", apart := false }
def FnExactLineNewSaid : Prop := fnExactLineNewRow.holds Try.pinned (OpenSpec.ofChange fnExactLineNewSpec)

/-- ITS FALSE NEIGHBOUR: 'it returns false'. Refute it at one input. -/
def fnExactLineNewWrong : ChangeSpec := { name := "fnExactLineNew", fn := fun _ => fun
  | [d1, d2] => { results := [.lit (.bool false)], args := [d1, d2] }
  | _ => none }
def FnExactLineNewWrongFalsely : Prop := fnExactLineNewRow.holds Try.pinned (OpenSpec.ofChange fnExactLineNewWrong)

/-- 'laws.FnExactLineOrder': WHATEVER THE INPUT: true; the input reads as it did. -/
def fnExactLineOrderSpec : ChangeSpec := { name := "fnExactLineOrder", fn := fun _ => fun
  | [d] => { results := [.lit (.bool true)], args := [d] }
  | _ => none }
def fnExactLineOrderRow : OpenClaim := { program := "ytmplanlppjebnaa", sum := "ff674a320b890eb7864a1b935ca8dd81f69bb89e5b91b0081f24ce38f9a4e835", func := "loop.example/blockboxes/laws.FnExactLineOrder", spec := "fnExactLineOrder", unfollowed := true, recurses := true, apart := false }
def FnExactLineOrderSaid : Prop := fnExactLineOrderRow.holds Try.pinned (OpenSpec.ofChange fnExactLineOrderSpec)

/-- ITS FALSE NEIGHBOUR: 'it returns false'. Refute it at one input. -/
def fnExactLineOrderWrong : ChangeSpec := { name := "fnExactLineOrder", fn := fun _ => fun
  | [d] => { results := [.lit (.bool false)], args := [d] }
  | _ => none }
def FnExactLineOrderWrongFalsely : Prop := fnExactLineOrderRow.holds Try.pinned (OpenSpec.ofChange fnExactLineOrderWrong)

/-- 'laws.FnLineText': WHATEVER THE INPUT: true; the input reads as it did. -/
def fnLineTextSpec : ChangeSpec := { name := "fnLineText", fn := fun _ => fun
  | [d] => { results := [.lit (.bool true)], args := [d] }
  | _ => none }
def fnLineTextRow : OpenClaim := { program := "ytmplanlppjebnaa", sum := "ff674a320b890eb7864a1b935ca8dd81f69bb89e5b91b0081f24ce38f9a4e835", func := "loop.example/blockboxes/laws.FnLineText", spec := "fnLineText", inPlace := ["internal/abi.NoEscape"], unfollowed := true, recurses := true, apart := false }
def FnLineTextSaid : Prop := fnLineTextRow.holds Try.pinned (OpenSpec.ofChange fnLineTextSpec)

/-- ITS FALSE NEIGHBOUR: 'it returns false'. Refute it at one input. -/
def fnLineTextWrong : ChangeSpec := { name := "fnLineText", fn := fun _ => fun
  | [d] => { results := [.lit (.bool false)], args := [d] }
  | _ => none }
def FnLineTextWrongFalsely : Prop := fnLineTextRow.holds Try.pinned (OpenSpec.ofChange fnLineTextWrong)

/- THE SECOND FORM. 'bulk': how many values and letters a reading holds, each counted each time it is reached (what is shared counts as often as it is met; a slice's spare places count too). A statement '..UptoSaid' is the law's where the arguments, and the package variables that the reading takes, are together of bulk at most 1048576: NARROWER than '..Said'. Prove '..Said' where nothing that the law and all that it calls make is longer than what came in: it says more and counts as full. Else prove '..UptoSaid'. A law counts once. -/
mutual
def uptoBulk {H : Type} : DataW H → Nat
  | .lit (.string bytes) => bytes.length + 1
  | .lit _ => 1
  | .nil => 1
  | .ptr d => uptoBulk d + 1
  | .slice elems spare => uptoBulkAll elems + uptoBulkAll spare + 1
  | .agg parts => uptoBulkAll parts + 1
  | .iface _ d => uptoBulk d + 1
  | .map entries => uptoBulkEntries entries + 1
  | .held _ => 1
def uptoBulkAll {H : Type} : List (DataW H) → Nat
  | [] => 0
  | d :: r => uptoBulk d + uptoBulkAll r
def uptoBulkEntries {H : Type} : List (Lit × DataW H) → Nat
  | [] => 0
  | x :: r => uptoBulkEntry x + uptoBulkEntries r
def uptoBulkEntry {H : Type} : Lit × DataW H → Nat
  | (.string bytes, d) => bytes.length + uptoBulk d + 1
  | (_, d) => uptoBulk d + 1
 end
def uptoSmall : (H : Type) → List (DataW H) → Bool := fun _ ds => decide (uptoBulkAll ds ≤ 1048576)
def OpenSpec.upto (s : _root_.Go.ChangeSpec) : _root_.Go.OpenSpec := { _root_.Go.OpenSpec.ofChange s with cond := some uptoSmall }

/-- 'laws.FnLineOrder', WHERE WHAT IT READS IS OF BULK AT MOST 1048576: true; the input reads as it did. -/
def fnLineOrderUptoRow : OpenClaim := { program := "ytmplanlppjebnaa", sum := "ff674a320b890eb7864a1b935ca8dd81f69bb89e5b91b0081f24ce38f9a4e835", func := "loop.example/blockboxes/laws.FnLineOrder", spec := "fnLineOrder", inPlace := ["internal/abi.NoEscape"], unfollowed := true, recurses := true, apart := false, narrowed := true }
def FnLineOrderUptoSaid : Prop := fnLineOrderUptoRow.holds Try.pinned (OpenSpec.upto fnLineOrderSpec)

/-- 'laws.FnExactLineText', WHERE WHAT IT READS IS OF BULK AT MOST 1048576: true; the input reads as it did. -/
def fnExactLineTextUptoRow : OpenClaim := { program := "ytmplanlppjebnaa", sum := "ff674a320b890eb7864a1b935ca8dd81f69bb89e5b91b0081f24ce38f9a4e835", func := "loop.example/blockboxes/laws.FnExactLineText", spec := "fnExactLineText", inPlace := ["internal/abi.NoEscape"], apart := false, narrowed := true }
def FnExactLineTextUptoSaid : Prop := fnExactLineTextUptoRow.holds Try.pinned (OpenSpec.upto fnExactLineTextSpec)

/-- 'laws.FnExactLineNew', WHERE WHAT IT READS IS OF BULK AT MOST 1048576: true; the input reads as it did. -/
def fnExactLineNewUptoRow : OpenClaim := { program := "ytmplanlppjebnaa", sum := "ff674a320b890eb7864a1b935ca8dd81f69bb89e5b91b0081f24ce38f9a4e835", func := "loop.example/blockboxes/laws.FnExactLineNew", spec := "fnExactLineNew", apart := false, narrowed := true }
def FnExactLineNewUptoSaid : Prop := fnExactLineNewUptoRow.holds Try.pinned (OpenSpec.upto fnExactLineNewSpec)

/-- 'laws.FnExactLineOrder', WHERE WHAT IT READS IS OF BULK AT MOST 1048576: true; the input reads as it did. -/
def fnExactLineOrderUptoRow : OpenClaim := { program := "ytmplanlppjebnaa", sum := "ff674a320b890eb7864a1b935ca8dd81f69bb89e5b91b0081f24ce38f9a4e835", func := "loop.example/blockboxes/laws.FnExactLineOrder", spec := "fnExactLineOrder", unfollowed := true, recurses := true, apart := false, narrowed := true }
def FnExactLineOrderUptoSaid : Prop := fnExactLineOrderUptoRow.holds Try.pinned (OpenSpec.upto fnExactLineOrderSpec)

/-- 'laws.FnLineText', WHERE WHAT IT READS IS OF BULK AT MOST 1048576: true; the input reads as it did. -/
def fnLineTextUptoRow : OpenClaim := { program := "ytmplanlppjebnaa", sum := "ff674a320b890eb7864a1b935ca8dd81f69bb89e5b91b0081f24ce38f9a4e835", func := "loop.example/blockboxes/laws.FnLineText", spec := "fnLineText", inPlace := ["internal/abi.NoEscape"], unfollowed := true, recurses := true, apart := false, narrowed := true }
def FnLineTextUptoSaid : Prop := fnLineTextUptoRow.holds Try.pinned (OpenSpec.upto fnLineTextSpec)

end Rows
end Go.Proofs.Ytmplanlppjebnaa
