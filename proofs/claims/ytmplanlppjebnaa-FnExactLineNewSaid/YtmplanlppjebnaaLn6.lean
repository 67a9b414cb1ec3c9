/-
  Contracts of the laws' helpers eqLine, markLine, heldLine on the zero line.
  Conditions: none.
-/
import Derived.Test.YtmplanlppjebnaaLn5
namespace Go.Proofs.Ytmplanlppjebnaa
open Go.RowKit
set_option linter.unusedVariables false
set_option linter.unusedSimpArgs false
attribute [local go_sem ↓] Go.wp_at_zero Go.wp_at_succ

abbrev lv0 : Value := .agg #[.slice none 0 0, .slice none 0 0]
set_option maxHeartbeats 1000000 in
theorem eqBlockS_nil (w : World) : Calls Try.prog 38 #[.slice none 0 0, .slice none 0 0] w fun e w' => e = .returned (.bool true) ∧ w = w' := by
  go_enter Try.func38, Try.ntmps38
  go_wp2_with fail
  go_loopw [5] (fun i wr => i = .int .i64 0 ∧ Hid (wr = w)) (fun _ _ => 0)
  case atStart => exact ⟨rfl, rfl⟩
  case round =>
    obtain ⟨rfl, Hw⟩ := hrel
    go_wp2_with fail
    go_ret
    exact ⟨rfl, Hw.out.symm⟩
set_option maxHeartbeats 1000000 in
theorem markBlockS_nil (w : World) : Calls Try.prog 40 #[.slice none 0 0, .int .i64 1] w fun e w' => e = .returned (.int .i64 1) ∧ w = w' := by
  go_enter Try.func40, Try.ntmps40
  go_wp2_with fail
  go_loopw [1, 5] (fun v i wr => v = .int .i64 1 ∧ i = .int .i64 0 ∧ Hid (wr = w)) (fun _ _ _ => 0)
  case atStart => exact ⟨rfl, rfl, rfl⟩
  case round =>
    obtain ⟨rfl, rfl, Hw⟩ := hrel
    go_wp2_with fail
    go_ret
    exact ⟨rfl, Hw.out.symm⟩
set_option maxHeartbeats 1000000 in
theorem heldBlockS_nil (w : World) : Calls Try.prog 42 #[.slice none 0 0, .int .i64 1] w fun e w' => e = .returned (.int .i64 1) ∧ w = w' := by
  go_enter Try.func42, Try.ntmps42
  go_wp2_with fail
  go_loopw [1, 5] (fun v i wr => v = .int .i64 1 ∧ i = .int .i64 0 ∧ Hid (wr = w)) (fun _ _ _ => 0)
  case atStart => exact ⟨rfl, rfl, rfl⟩
  case round =>
    obtain ⟨rfl, rfl, Hw⟩ := hrel
    go_wp2_with fail
    go_ret
    exact ⟨rfl, Hw.out.symm⟩
theorem own_nil (w : World) (base : Nat) : w.ownsRow base 3 1 (.slice none 0 0) 0 (([] : List Int).map (Value.int .i64)) := ⟨rfl, .inl ⟨rfl, rfl⟩⟩
set_option maxHeartbeats 1000000 in
theorem heldLine_nil (w : World) : Calls Try.prog 21 #[lv0, .int .i64 1] w fun e w' => e = .returned (.int .i64 1) ∧ Below w.heap.size w w' := by
  go_enter Try.func21, Try.ntmps21
  go_wp2_with fail
  refine (heldBlockS_nil _).mono ?_
  rintro e w1 ⟨rfl, rfl⟩
  go_wp2_with fail
  refine (heldIntS_any none 0 0 1 _ (Rd.none_ _ _) (by omega) (by omega) (by omega)).mono ?_
  rintro e w1 ⟨rfl, rfl⟩
  go_wp2_with fail
  go_ret
  exact ⟨rfl, (Below.refl _ _).alloc (Nat.le_refl _) _⟩
set_option maxHeartbeats 1000000 in
theorem eqLine_nil (w : World) : Calls Try.prog 19 #[lv0, lv0] w fun e w' => e = .returned (.bool true) ∧ Below w.heap.size w w' := by
  go_enter Try.func19, Try.ntmps19
  go_wp2_with fail
  refine (eqBlockS_nil _).mono ?_
  rintro e w1 ⟨rfl, rfl⟩
  go_wp2_with fail
  refine (eqIntS_any none none 0 0 0 0 [] [] _ (Rd.none_ _ _) (Rd.none_ _ _) (by omega)).mono ?_
  rintro e w2 ⟨rfl, k, rfl⟩
  rw [decide_eq_true (rfl : ([] : List Int) = [])]
  go_wp2_with fail
  go_ret
  exact ⟨rfl, below_drewN (((Below.refl _ _).alloc (Nat.le_refl _) _).alloc (by simp) _) _⟩
set_option maxHeartbeats 1000000 in
theorem markLine_nil (w : World) : Calls Try.prog 20 #[lv0, .int .i64 1] w fun e w' => e = .returned (.int .i64 1) ∧ Below w.heap.size w w' := by
  have HB0 : Hid (Below w.heap.size w (w.alloc (.cells #[.slice none 0 0, .slice none 0 0] 38))) := (Below.refl w.heap.size w).alloc (Nat.le_refl _) _
  go_enter Try.func20, Try.ntmps20
  go_wp2_with fail
  refine (markBlockS_nil _).mono ?_
  rintro e w1 ⟨rfl, rfl⟩
  go_wp2_with fail
  refine (markIntS_any none 0 0 [] 1 0 _ (own_nil _ _) (by omega) (by omega) (by omega)).mono ?_
  rintro e w1 ⟨rfl, _, hg⟩
  have HF : Hid (Below w.heap.size w w1) := HB0.out.grown hg (by simp) (fun r e => by cases e)
  clear hg HB0
  go_wp2_with fail
  go_ret
  exact ⟨rfl, HF.out⟩
end Go.Proofs.Ytmplanlppjebnaa
