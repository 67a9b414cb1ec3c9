/-
  The walk of the law FnExactBlockMany: it returns true for every argument and leaves old memory as it was.
  Conditions: none.
-/
import Derived.Test.YtagboepkmedggaaMany2
import Derived.Test.YtagboepkmedggaaMany4
namespace Go.Proofs.Ytagboepkmedggaa
open Go.RowKit
set_option linter.unusedVariables false
attribute [local go_sem ↓] Go.wp_at_zero Go.wp_at_succ run_eql_block run_neq_block

set_option maxHeartbeats 1000000 in
theorem FnExactBlockMany_walk (w : World) (n : Int) (i o : Bool) (wn : (Lit.int .i64 n).wf = true) (m : Int) (wm : (Lit.int .i64 m).wf = true) :
    Calls Try.prog 11 #[.agg #[.int .i64 n, .bool i, .bool o], .int .i64 m] w fun e w' => e = .returned (.bool true) ∧ Below w.heap.size w w' := by
  clear wn wm
  obtain ⟨z, hz⟩ : ∃ z, Bk.manyR n i o m = z := ⟨_, rfl⟩
  have HZ := Lib.hid hz
  clear hz
  go_enter Try.func11, Try.ntmps11
  go_wp2_with fail
  refine (toBlock_any _ _ _ _).mono ?_
  rintro e w1 ⟨rfl, hb1⟩
  have Hb1 := Lib.hid hb1
  clear hb1
  go_wp2_with fail
  refine (specBlockMany_any _ _ _ _ _).mono ?_
  rintro e w2 ⟨rfl, hb2⟩
  rw [HZ.out]
  have Hb2 := Lib.hid (below_seq Hb1.out hb2)
  clear hb2
  have c0 : w2.cell? ⟨w.heap.size, 0, none⟩ = some (.int .i64 n) := (Hb2.out.cell (p := ⟨w.heap.size, 0, none⟩) (by simp)).trans (by simp [go_sem])
  have c1 : w2.cell? ⟨w.heap.size, 1, none⟩ = some (.bool i) := (Hb2.out.cell (p := ⟨w.heap.size, 1, none⟩) (by simp)).trans (by simp [go_sem])
  have c2 : w2.cell? ⟨w.heap.size, 2, none⟩ = some (.bool o) := (Hb2.out.cell (p := ⟨w.heap.size, 2, none⟩) (by simp)).trans (by simp [go_sem])
  go_wp2_with fail
  refine (toBlock_any _ _ _ _).mono ?_
  rintro e w3 ⟨rfl, hb3⟩
  have Hb3 := Lib.hid (below_seq Hb2.out hb3)
  clear hb3 c0 c1 c2
  go_wp2_with fail
  refine (implBlockMany_any _ _ _ _ _).mono ?_
  rintro e w4 ⟨rfl, hb4⟩
  rw [HZ.out]
  have Hb4 := Lib.hid (below_seq Hb3.out hb4)
  clear hb4
  go_wp2_with fail
  go_ret
  exact ⟨rfl, below_seq ((Below.refl w.heap.size w).alloc (Nat.le_refl _) _) Hb4.out⟩
end Go.Proofs.Ytagboepkmedggaa
