/-
  The walk of the law FnExactBlockRun: it returns true for every block and every text.
  Conditions: none.
-/
import Derived.Test.YtagboepkmedggaaBlk9
namespace Go.Proofs.Ytagboepkmedggaa
open Go.RowKit
set_option linter.unusedVariables false
attribute [local go_sem ↓] Go.wp_at_zero Go.wp_at_succ run_eql_block run_neq_block

set_option maxHeartbeats 1000000 in
theorem FnExactBlockRun_walk (w : World) (n : Int) (i o : Bool) (wn : (Lit.int .i64 n).wf = true) (s : ByteArray) (hsz : s.size ≤ maxLen) :
    Calls Try.prog 7 #[.agg #[.int .i64 n, .bool i, .bool o], .string s] w fun e w' => e = .returned (.bool true) ∧ Below w.heap.size w w' := by
  clear wn
  unfold maxLen at hsz
  by_cases hbig : (1048576 : Int) < s.size
  · go_enter Try.func7, Try.ntmps7
    go_wp2_with fail
    go_ret
    refine ⟨rfl, ?_⟩
    go_grown
  · have hs : (s.size : Int) ≤ 1048576 := by omega
    clear hbig
    obtain ⟨rn, ri, ro, rk, hres⟩ := resV_form (Bk.runR n i o s.toList)
    have HRes := Lib.hid hres
    clear hres
    go_enter Try.func7, Try.ntmps7
    go_wp2_with fail
    refine (toBlock_any _ _ _ _).mono ?_
    rintro e w1 ⟨rfl, hb1⟩
    obtain ⟨c0, c1, c2⟩ := three_later (B := w.heap.size) (v0 := .int .i64 n) (v1 := .bool i) (v2 := .bool o) hb1 (by simp [go_sem]) (by simp [go_sem]) (by simp [go_sem])
    have Hb1 := Lib.hid (below_seq ((Below.refl w.heap.size w).alloc (Nat.le_refl _) _) hb1)
    clear hb1
    go_wp2_with fail
    refine (specBlockRun_any _ _ _ _ _ (by unfold maxLen; omega)).mono ?_
    rintro e w2 ⟨rfl, hb2⟩
    rw [HRes.out]
    obtain ⟨d0, d1, d2⟩ := three_later hb2 c0 c1 c2
    have Hb2 := Lib.hid (below_seq Hb1.out hb2)
    have hlt : w.heap.size < w2.heap.size := block_lt_of_cell d0
    have hne : ¬ w.heap.size = w2.heap.size := by omega
    clear hb2 c0 c1 c2
    go_wp2_with fail
    refine (toBlock_any _ _ _ _).mono ?_
    rintro e w3 ⟨rfl, hb3⟩
    obtain ⟨x0, x1, x2⟩ := three_later (B := w2.heap.size) (v0 := .int .i64 rn) (v1 := .bool ri) (v2 := .bool ro) hb3 (by simp [go_sem]) (by simp [go_sem]) (by simp [go_sem])
    have Hb3 := Lib.hid (below_seq (Hb2.out.alloc (by omega) _) hb3)
    clear hb3 d0 d1 d2 hne hlt
    go_wp2_with fail
    refine (implBlockRun_any _ _ _ _ _ (by unfold maxLen; omega)).mono ?_
    rintro e w4 ⟨rfl, hb4⟩
    rw [HRes.out]
    obtain ⟨y0, y1, y2⟩ := three_later hb4 x0 x1 x2
    have Hb4 := Lib.hid (below_seq Hb3.out hb4)
    have hlt : w2.heap.size < w4.heap.size := block_lt_of_cell y0
    have hne : ¬ w2.heap.size = w4.heap.size := by omega
    have hsz4 := Lib.hid Hb4.out.size
    clear hb4 x0 x1 x2
    go_wp2_with fail
    refine (eqBlock_same _ _ _ _).mono ?_
    rintro e w5 ⟨rfl, hb5⟩
    have Hb5 := Lib.hid (below_seq (Hb4.out.alloc (hsz4.out) _) hb5)
    clear hb5
    go_wp2_with fail
    go_ret
    exact ⟨rfl, Hb5.out⟩
end Go.Proofs.Ytagboepkmedggaa
