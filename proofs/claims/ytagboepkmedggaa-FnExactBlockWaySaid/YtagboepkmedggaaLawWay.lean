/-
  The walk of the law FnExactBlockWay: it returns true for every two blocks and leaves old memory as it was.
-/
import Derived.Test.YtagboepkmedggaaWay4
import Derived.Deep.RegionHeld3
namespace Go.Proofs.Ytagboepkmedggaa
open Go.RowKit
set_option linter.unusedVariables false
attribute [local go_sem ↓] Go.wp_at_zero Go.wp_at_succ run_eql_block run_neq_block

theorem six_later {w1 w3 : World} {B C : Nat} {v0 v1 v2 u0 u1 u2 : Value} (hb3 : Below w1.heap.size w1 w3)
    (h : (w1.cell? ⟨B, 0, none⟩ = some v0 ∧ w1.cell? ⟨B, 1, none⟩ = some v1 ∧ w1.cell? ⟨B, 2, none⟩ = some v2) ∧ (w1.cell? ⟨C, 0, none⟩ = some u0 ∧ w1.cell? ⟨C, 1, none⟩ = some u1 ∧ w1.cell? ⟨C, 2, none⟩ = some u2)) :
    (w3.cell? ⟨B, 0, none⟩ = some v0 ∧ w3.cell? ⟨B, 1, none⟩ = some v1 ∧ w3.cell? ⟨B, 2, none⟩ = some v2) ∧ (w3.cell? ⟨C, 0, none⟩ = some u0 ∧ w3.cell? ⟨C, 1, none⟩ = some u1 ∧ w3.cell? ⟨C, 2, none⟩ = some u2) := by
  obtain ⟨⟨r0, r1, r2⟩, ⟨s0, s1, s2⟩⟩ := h
  exact ⟨⟨(hb3.cell (block_lt_of_cell r0)).trans r0, (hb3.cell (block_lt_of_cell r1)).trans r1, (hb3.cell (block_lt_of_cell r2)).trans r2⟩, ⟨(hb3.cell (block_lt_of_cell s0)).trans s0, (hb3.cell (block_lt_of_cell s1)).trans s1, (hb3.cell (block_lt_of_cell s2)).trans s2⟩⟩
set_option maxRecDepth 100000 in
set_option maxHeartbeats 4000000 in
theorem FnExactBlockWay_walk (w : World) (n : Int) (i o : Bool) (wn : (Lit.int .i64 n).wf = true) (m : Int) (j p : Bool) (wm : (Lit.int .i64 m).wf = true) :
    Calls Try.prog 13 #[.agg #[.int .i64 n, .bool i, .bool o], .agg #[.int .i64 m, .bool j, .bool p]] w fun e w' => e = .returned (.bool true) ∧ Below w.heap.size w w' := by
  clear wn wm
  obtain ⟨Z, hZ⟩ : ∃ Z, Z = mkS ((Bk.wayB n i o m j p).getD []) := ⟨_, rfl⟩
  obtain ⟨q, hq⟩ : ∃ q, q = (Bk.wayB n i o m j p).isSome := ⟨_, rfl⟩
  have HV : Hid (wayV (Bk.wayB n i o m j p) = .tuple #[.string Z, .bool q]) := by unfold Hid wayV; rw [hZ, hq]
  clear hZ hq
  have Hb0 : Hid (Below w.heap.size w ((w.alloc (.cells #[.int .i64 n, .bool i, .bool o] 23)).alloc (.cells #[.int .i64 m, .bool j, .bool p] 23)).drew) := (((Below.refl w.heap.size w).alloc (Nat.le_refl _) _).alloc (by simp) _).drew
  have H0 : Hid (((((w.alloc (.cells #[.int .i64 n, .bool i, .bool o] 23)).alloc (.cells #[.int .i64 m, .bool j, .bool p] 23)).drew.cell? ⟨w.heap.size, 0, none⟩ = some (.int .i64 n)) ∧ (((w.alloc (.cells #[.int .i64 n, .bool i, .bool o] 23)).alloc (.cells #[.int .i64 m, .bool j, .bool p] 23)).drew.cell? ⟨w.heap.size, 1, none⟩ = some (.bool i)) ∧ (((w.alloc (.cells #[.int .i64 n, .bool i, .bool o] 23)).alloc (.cells #[.int .i64 m, .bool j, .bool p] 23)).drew.cell? ⟨w.heap.size, 2, none⟩ = some (.bool o))) ∧ ((((w.alloc (.cells #[.int .i64 n, .bool i, .bool o] 23)).alloc (.cells #[.int .i64 m, .bool j, .bool p] 23)).drew.cell? ⟨w.heap.size + 1, 0, none⟩ = some (.int .i64 m)) ∧ (((w.alloc (.cells #[.int .i64 n, .bool i, .bool o] 23)).alloc (.cells #[.int .i64 m, .bool j, .bool p] 23)).drew.cell? ⟨w.heap.size + 1, 1, none⟩ = some (.bool j)) ∧ (((w.alloc (.cells #[.int .i64 n, .bool i, .bool o] 23)).alloc (.cells #[.int .i64 m, .bool j, .bool p] 23)).drew.cell? ⟨w.heap.size + 1, 2, none⟩ = some (.bool p)))) := by
    refine ⟨⟨?_, ?_, ?_⟩, ⟨?_, ?_, ?_⟩⟩ <;> simp [go_sem]
  go_enter Try.func13, Try.ntmps13
  go_wp2_with fail
  generalize (w.alloc (.cells #[.int .i64 n, .bool i, .bool o] 23)).alloc (.cells #[.int .i64 m, .bool j, .bool p] 23) = w1 at Hb0 H0 ⊢
  have N0 := H0.out
  go_region_held3 (fun W => (W.cell? ⟨w.heap.size, 0, none⟩ = some (.int .i64 n) ∧ W.cell? ⟨w.heap.size, 1, none⟩ = some (.bool i) ∧ W.cell? ⟨w.heap.size, 2, none⟩ = some (.bool o)) ∧ (W.cell? ⟨w.heap.size + 1, 0, none⟩ = some (.int .i64 m) ∧ W.cell? ⟨w.heap.size + 1, 1, none⟩ = some (.bool j) ∧ W.cell? ⟨w.heap.size + 1, 2, none⟩ = some (.bool p)))
    (first | exact NN | exact N0)
    (first
      | (go_at_call 16; refine (toBlock_any _ _ _ _).mono ?_; rintro e w2 ⟨rfl, hb2⟩; have MM := (by first | exact six_later hb2 NN | exact six_later hb2 N0); have HBB : Hid (Below w.heap.size w w2) := (by first | exact below_seq HB.out hb2 | exact below_seq Hb0.out hb2); have NN := MM; have HB := HBB; clear hb2 MM HBB)
      | (go_at_call 43; refine (specBlockWay_any _ _ _ _ _ _ _).mono ?_; rintro e w2 ⟨rfl, hb2⟩; rw [HV.out]; have MM := (by first | exact six_later hb2 NN | exact six_later hb2 N0); have HBB : Hid (Below w.heap.size w w2) := (by first | exact below_seq HB.out hb2 | exact below_seq Hb0.out hb2); have NN := MM; have HB := HBB; clear hb2 MM HBB))
  all_goals go_wp2_with fail
  have N1 := NN
  have Hb1 : Hid (Below w.heap.size w w2.drew) := HB.out.drew
  clear NN HB N0 Hb0 H0
  go_region_held3 (fun W => (W.cell? ⟨w.heap.size, 0, none⟩ = some (.int .i64 n) ∧ W.cell? ⟨w.heap.size, 1, none⟩ = some (.bool i) ∧ W.cell? ⟨w.heap.size, 2, none⟩ = some (.bool o)) ∧ (W.cell? ⟨w.heap.size + 1, 0, none⟩ = some (.int .i64 m) ∧ W.cell? ⟨w.heap.size + 1, 1, none⟩ = some (.bool j) ∧ W.cell? ⟨w.heap.size + 1, 2, none⟩ = some (.bool p)))
    (first | exact NN | exact N1)
    (first
      | (go_at_call 16; refine (toBlock_any _ _ _ _).mono ?_; rintro e w3 ⟨rfl, hb2⟩; have MM := (by first | exact six_later hb2 NN | exact six_later hb2 N1); have HBB : Hid (Below w.heap.size w w3) := (by first | exact below_seq HB.out hb2 | exact below_seq Hb1.out hb2); have NN := MM; have HB := HBB; clear hb2 MM HBB)
      | (go_at_call 44; refine (implBlockWay_any _ _ _ _ _ _ _).mono ?_; rintro e w3 ⟨rfl, hb2⟩; rw [HV.out]; have MM := (by first | exact six_later hb2 NN | exact six_later hb2 N1); have HBB : Hid (Below w.heap.size w w3) := (by first | exact below_seq HB.out hb2 | exact below_seq Hb1.out hb2); have NN := MM; have HB := HBB; clear hb2 MM HBB))
  all_goals go_wp2_with fail
  all_goals go_ret
  all_goals exact ⟨rfl, HB.out⟩
end Go.Proofs.Ytagboepkmedggaa
