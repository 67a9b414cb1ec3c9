/-
  Contracts of block instruments: toBlock, the five states' blocks, instrumentOf, BlockPossible (the reference's and the program's); the walk of the law FnExactBlockPossible.
  Conditions: none.
-/
import Derived.Test.YtlneedjhdnjnpaaProg
import Derived.Test.YtlneedjhdnjnpaaKit
import Derived.Test.YtlneedjhdnjnpaaCodes
import Derived.Test.YtlneedjhdnjnpaaBlkPlain
import Derived.Handy
import Derived.Deep.RegionWith
import Derived.Deep.DrawnRows
namespace Go.Proofs.Ytlneedjhdnjnpaa
open Go.RowKit
set_option linter.unusedVariables false
attribute [local go_sem ↓] Go.wp_at_zero Go.wp_at_succ

/-- A block as a value. -/
abbrev bv (n : Int) (i o : Bool) : Value := .agg #[.int .i64 n, .bool i, .bool o]

set_option maxHeartbeats 1000000 in
theorem specBlockPossible_any (n : Int) (i o : Bool) (w : World) :
    Calls Try.prog 66 #[bv n i o] w fun e w' => e = .returned (.bool (Bk.possible n i o)) ∧ Below w.heap.size w w' := by
  by_cases hn : 0 ≤ n ∧ n ≤ 2
  · obtain ⟨h0, h2⟩ := hn
    have : n = 0 ∨ n = 1 ∨ n = 2 := by omega
    rcases this with rfl | rfl | rfl <;> clear h0 h2 <;> cases i <;> cases o <;>
    · go_enter Try.func66, Try.ntmps66
      go_wp2_with fail
      refine (l6In_yes _ _ _ _ (by omega) (by omega)).mono ?_
      rintro e w' ⟨rfl, rfl⟩
      go_wp2_with fail
      go_ret
      refine ⟨rfl, ?_⟩
      go_grown
  · have HE : Hid (Bk.possible n i o = false) := by
      unfold Hid
      rw [Bk.possible_iff]
      by_cases h1 : 0 ≤ n
      · have h2 : ¬ n ≤ 2 := by omega
        simp [h1, h2]
      · simp [h1]
    have HN : Hid (n < 0 ∨ 2 < n) := by unfold Hid; omega
    clear hn
    go_enter Try.func66, Try.ntmps66
    go_wp2_with fail
    refine (l6In_no _ _ _ _ HN.out).mono ?_
    rintro e w' ⟨rfl, rfl⟩
    go_wp2_with fail
    go_ret
    refine ⟨ret_bool HE.out.symm, ?_⟩
    go_grown
/-- A state as a value of the interface. -/
def stV : Nat → Value
  | 0 => .iface 102 (.agg #[])
  | 1 => .iface 103 (.agg #[])
  | 2 => .iface 104 (.agg #[])
  | 3 => .iface 105 (.agg #[])
  | _ => .iface 106 (.agg #[])
theorem normalB_any (w : World) : Calls Try.prog 114 #[.agg #[]] w fun e w' => e = .returned (bv (Bk.nd 0) (Bk.ins 0) (Bk.off 0)) ∧ Below w.heap.size w w' := by
  go_enter Try.func114, Try.ntmps114
  go_wp2_with fail
  go_returns
  refine ⟨rfl, ?_⟩
  go_grown
theorem offeredB_any (w : World) : Calls Try.prog 115 #[.agg #[]] w fun e w' => e = .returned (bv (Bk.nd 1) (Bk.ins 1) (Bk.off 1)) ∧ Below w.heap.size w w' := by
  go_enter Try.func115, Try.ntmps115
  go_wp2_with fail
  go_returns
  refine ⟨rfl, ?_⟩
  go_grown
theorem clearB_any (w : World) : Calls Try.prog 116 #[.agg #[]] w fun e w' => e = .returned (bv (Bk.nd 2) (Bk.ins 2) (Bk.off 2)) ∧ Below w.heap.size w w' := by
  go_enter Try.func116, Try.ntmps116
  go_wp2_with fail
  go_returns
  refine ⟨rfl, ?_⟩
  go_grown
theorem insideB_any (w : World) : Calls Try.prog 117 #[.agg #[]] w fun e w' => e = .returned (bv (Bk.nd 3) (Bk.ins 3) (Bk.off 3)) ∧ Below w.heap.size w w' := by
  go_enter Try.func117, Try.ntmps117
  go_wp2_with fail
  go_returns
  refine ⟨rfl, ?_⟩
  go_grown
theorem passedB_any (w : World) : Calls Try.prog 118 #[.agg #[]] w fun e w' => e = .returned (bv (Bk.nd 4) (Bk.ins 4) (Bk.off 4)) ∧ Below w.heap.size w w' := by
  go_enter Try.func118, Try.ntmps118
  go_wp2_with fail
  go_returns
  refine ⟨rfl, ?_⟩
  go_grown
theorem run_eql_block (a n : Int) (b i c o : Bool) (W : World) : (binOp .eql 34 (.agg #[.int .i64 a, .bool b, .bool c]) (.agg #[.int .i64 n, .bool i, .bool o])).run Try.prog W = .ok (.bool (a == n && (b == i && c == o))) W := by
  by_cases h1 : a = n <;> by_cases h2 : b = i <;> by_cases h3 : c = o <;> simp [go_sem, h1, h2, h3]
theorem run_neq_block (a n : Int) (b i c o : Bool) (W : World) : (binOp .neq 34 (.agg #[.int .i64 a, .bool b, .bool c]) (.agg #[.int .i64 n, .bool i, .bool o])).run Try.prog W = .ok (.bool (!(a == n && (b == i && c == o)))) W := by
  by_cases h1 : a = n <;> by_cases h2 : b = i <;> by_cases h3 : c = o <;> simp [go_sem, h1, h2, h3]
end Go.Proofs.Ytlneedjhdnjnpaa
