/-
  Contracts: BlockPossible (the program's), eqBlock; the walk of the law FnExactBlockPossible.
  Conditions: none.
-/
import Derived.Test.YtagboepkmedggaaBlk3
namespace Go.Proofs.Ytagboepkmedggaa
open Go.RowKit
set_option linter.unusedVariables false
attribute [local go_sem ↓] Go.wp_at_zero Go.wp_at_succ run_eql_block run_neq_block

theorem below_box {w w2 : World} {o1 : Obj} (h : Below (w.heap.size + 1) (w.alloc o1) w2) : Below w.heap.size w w2 :=
  ((Below.refl w.heap.size w).alloc (Nat.le_refl _) o1).trans (h.mono (by omega))
theorem below_box2 {w w2 : World} {o1 o2 : Obj} (h : Below (w.heap.size + 1 + 1) ((w.alloc o1).alloc o2) w2) : Below w.heap.size w w2 :=
  (((Below.refl w.heap.size w).alloc (Nat.le_refl _) o1).alloc (by simp) o2).trans (h.mono (by omega))
set_option maxHeartbeats 1000000 in
theorem implBlockPossible_any (n : Int) (i o : Bool) (w : World) :
    Calls Try.prog 17 #[bv n i o] w fun e w' => e = .returned (.bool (Bk.possible n i o)) ∧ Below w.heap.size w w' := by
  cases hst : Bk.stOf n i o with
  | none =>
    have HE := Lib.hid (instV_none hst)
    have HP : Hid (Bk.possible n i o = false) := by unfold Hid Bk.possible; rw [hst]; rfl
    clear hst
    go_enter Try.func17, Try.ntmps17
    go_wp2_with fail
    refine (instrumentOf_any _ _ _ _).mono ?_
    rintro e w1 ⟨rfl, hb1⟩
    have Hb1 := Lib.hid hb1
    clear hb1
    rw [HE.out]
    go_wp2_with fail
    go_ret
    exact ⟨ret_bool HP.out.symm, below_seq ((Below.refl w.heap.size w).alloc (Nat.le_refl _) _) Hb1.out⟩
  | some s =>
    have HE := Lib.hid (instV_some hst)
    have HP : Hid (Bk.possible n i o = true) := by unfold Hid Bk.possible; rw [hst]; rfl
    clear hst
    go_enter Try.func17, Try.ntmps17
    go_wp2_with fail
    refine (instrumentOf_any _ _ _ _).mono ?_
    rintro e w1 ⟨rfl, hb1⟩
    have Hb1 := Lib.hid hb1
    clear hb1
    rw [HE.out]
    go_wp2_with fail
    go_ret
    exact ⟨ret_bool HP.out.symm, below_seq ((Below.refl w.heap.size w).alloc (Nat.le_refl _) _) Hb1.out⟩
set_option maxHeartbeats 1000000 in
theorem eqBlock_same (n : Int) (i o : Bool) (w : World) :
    Calls Try.prog 22 #[bv n i o, bv n i o] w fun e w' => e = .returned (.bool true) ∧ Below w.heap.size w w' := by
  go_enter Try.func22, Try.ntmps22
  go_wp2_with fail
  go_ret
  refine ⟨rfl, ?_⟩
  go_grown
set_option maxHeartbeats 1000000 in
theorem FnExactBlockPossible_walk (w : World) (n : Int) (i o : Bool) (wn : (Lit.int .i64 n).wf = true) :
    Calls Try.prog 3 #[.agg #[.int .i64 n, .bool i, .bool o]] w fun e w' => e = .returned (.bool true) ∧ Below w.heap.size w w' := by
  clear wn
  go_enter Try.func3, Try.ntmps3
  go_wp2_with fail
  refine (toBlock_any _ _ _ _).mono ?_
  rintro e w1 ⟨rfl, hb1⟩
  have Hb1 := Lib.hid hb1
  clear hb1
  go_wp2_with fail
  refine (specBlockPossible_any _ _ _ _).mono ?_
  rintro e w2 ⟨rfl, hb2⟩
  have Hb2 := Lib.hid (below_seq Hb1.out hb2)
  clear hb2
  have c0 : w2.cell? ⟨w.heap.size, 0, none⟩ = some (.int .i64 n) := (Hb2.out.cell (p := ⟨w.heap.size, 0, none⟩) (by simp)).trans (by simp [go_sem])
  have c1 : w2.cell? ⟨w.heap.size, 1, none⟩ = some (.bool i) := (Hb2.out.cell (p := ⟨w.heap.size, 1, none⟩) (by simp)).trans (by simp [go_sem])
  have c2 : w2.cell? ⟨w.heap.size, 2, none⟩ = some (.bool o) := (Hb2.out.cell (p := ⟨w.heap.size, 2, none⟩) (by simp)).trans (by simp [go_sem])
  go_wp2_with fail
  refine (toBlock_any _ _ _ _).mono ?_
  rintro e w3 ⟨rfl, hb3⟩
  have Hb3 := Lib.hid (below_seq Hb2.out hb3)
  clear hb3 c0 c1 c2
  go_wp2_with fail
  refine (implBlockPossible_any _ _ _ _).mono ?_
  rintro e w4 ⟨rfl, hb4⟩
  have Hb4 := Lib.hid (below_seq Hb3.out hb4)
  clear hb4
  go_wp2_with fail
  go_ret
  exact ⟨rfl, below_seq ((Below.refl w.heap.size w).alloc (Nat.le_refl _) _) Hb4.out⟩
end Go.Proofs.Ytagboepkmedggaa
