/-
  Contracts: BlockPossible (the program's), eqBlock; the walk of the law FnExactBlockPossible.
  Conditions: none.
-/
import Derived.Test.YtlneedjhdnjnpaaBlk3
namespace Go.Proofs.Ytlneedjhdnjnpaa
open Go.RowKit
set_option linter.unusedVariables false
attribute [local go_sem ↓] Go.wp_at_zero Go.wp_at_succ run_eql_block run_neq_block

theorem below_box {w w2 : World} {o1 : Obj} (h : Below (w.heap.size + 1) (w.alloc o1) w2) : Below w.heap.size w w2 :=
  ((Below.refl w.heap.size w).alloc (Nat.le_refl _) o1).trans (h.mono (by omega))
theorem below_box2 {w w2 : World} {o1 o2 : Obj} (h : Below (w.heap.size + 1 + 1) ((w.alloc o1).alloc o2) w2) : Below w.heap.size w w2 :=
  (((Below.refl w.heap.size w).alloc (Nat.le_refl _) o1).alloc (by simp) o2).trans (h.mono (by omega))
set_option maxHeartbeats 1000000 in
theorem implBlockPossible_any (n : Int) (i o : Bool) (w : World) :
    Calls Try.prog 36 #[bv n i o] w fun e w' => e = .returned (.bool (Bk.possible n i o)) ∧ Below w.heap.size w w' := by
  cases hst : Bk.stOf n i o with
  | none =>
    have HE := Lib.hid (instV_none hst)
    have HP : Hid (Bk.possible n i o = false) := by unfold Hid Bk.possible; rw [hst]; rfl
    clear hst
    go_enter Try.func36, Try.ntmps36
    go_wp2_with fail
    refine (instrumentOf_any _ _ _ _).mono ?_
    rintro e w1 ⟨rfl, hb1⟩
    have Hb1 := Lib.hid hb1
    clear hb1
    rw [HE.out]
    go_wp2_with fail
    go_ret
    exact ⟨ret_bool HP.out.symm, below_seq ((Below.refl w.heap.size w).alloc (Nat.le_refl _) _) Hb1.out⟩
  | some s =>
    have HE := Lib.hid (instV_some hst)
    have HP : Hid (Bk.possible n i o = true) := by unfold Hid Bk.possible; rw [hst]; rfl
    clear hst
    go_enter Try.func36, Try.ntmps36
    go_wp2_with fail
    refine (instrumentOf_any _ _ _ _).mono ?_
    rintro e w1 ⟨rfl, hb1⟩
    have Hb1 := Lib.hid hb1
    clear hb1
    rw [HE.out]
    go_wp2_with fail
    go_ret
    exact ⟨ret_bool HP.out.symm, below_seq ((Below.refl w.heap.size w).alloc (Nat.le_refl _) _) Hb1.out⟩
end Go.Proofs.Ytlneedjhdnjnpaa
