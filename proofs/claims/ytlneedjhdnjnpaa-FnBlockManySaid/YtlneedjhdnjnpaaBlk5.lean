/-
  Contract of l3Step (the reference's): what an event does to a possible block.
  Conditions: none (a possible block, a byte).
-/
import Derived.Test.YtlneedjhdnjnpaaBlk1
namespace Go.Proofs.Ytlneedjhdnjnpaa
open Go.RowKit
set_option linter.unusedVariables false

/-- A block behind an event, and whether it could be done. -/
def resV (r : Option Nat) : Value := match r with | some t => .tuple #[bv (Bk.nd t) (Bk.ins t) (Bk.off t), .bool true] | none => .tuple #[bv 0 false false, .bool false]
namespace Bk
theorem step_other {s c : Nat} (h1 : c ≠ 111) (h2 : c ≠ 114) (h3 : c ≠ 97) (h4 : c ≠ 99) (h5 : c ≠ 101) (h6 : c ≠ 108) (h7 : c ≠ 102) : step s c = none := by
  unfold step
  split <;> simp [h1, h2, h3, h4, h5, h6, h7]
end Bk
set_option maxHeartbeats 4000000 in
theorem l3Step_0 (c : Nat) (w : World) (hc : c < 256) :
    Calls Try.prog 67 #[bv 0 false false, .int .u8 c] w fun e w' => e = .returned (resV (Bk.step 0 c)) ∧ Below w.heap.size w w' := by
  by_cases h111 : c = 111
  · subst h111
    show Calls Try.prog 67 #[bv 0 false false, .int .u8 111] w _
    go_enter Try.func67, Try.ntmps67
    go_wp2_with fail
    go_returns
    refine ⟨rfl, ?_⟩
    go_grown
  by_cases h114 : c = 114
  · subst h114
    show Calls Try.prog 67 #[bv 0 false false, .int .u8 114] w _
    go_enter Try.func67, Try.ntmps67
    go_wp2_with fail
    go_returns
    refine ⟨rfl, ?_⟩
    go_grown
  by_cases h97 : c = 97
  · subst h97
    show Calls Try.prog 67 #[bv 0 false false, .int .u8 97] w _
    go_enter Try.func67, Try.ntmps67
    go_wp2_with fail
    go_returns
    refine ⟨rfl, ?_⟩
    go_grown
  by_cases h99 : c = 99
  · subst h99
    show Calls Try.prog 67 #[bv 0 false false, .int .u8 99] w _
    go_enter Try.func67, Try.ntmps67
    go_wp2_with fail
    go_returns
    refine ⟨rfl, ?_⟩
    go_grown
  by_cases h101 : c = 101
  · subst h101
    show Calls Try.prog 67 #[bv 0 false false, .int .u8 101] w _
    go_enter Try.func67, Try.ntmps67
    go_wp2_with fail
    go_returns
    refine ⟨rfl, ?_⟩
    go_grown
  by_cases h108 : c = 108
  · subst h108
    show Calls Try.prog 67 #[bv 0 false false, .int .u8 108] w _
    go_enter Try.func67, Try.ntmps67
    go_wp2_with fail
    go_returns
    refine ⟨rfl, ?_⟩
    go_grown
  by_cases h102 : c = 102
  · subst h102
    show Calls Try.prog 67 #[bv 0 false false, .int .u8 102] w _
    go_enter Try.func67, Try.ntmps67
    go_wp2_with fail
    go_returns
    refine ⟨rfl, ?_⟩
    go_grown
  have HE : Hid (resV (Bk.step 0 c) = .tuple #[bv 0 false false, .bool false]) := by unfold Hid; rw [Bk.step_other h111 h114 h97 h99 h101 h108 h102]; rfl
  have b111 : ((c : Int) == 111) = false := by simp; omega
  have b114 : ((c : Int) == 114) = false := by simp; omega
  have b97 : ((c : Int) == 97) = false := by simp; omega
  have b99 : ((c : Int) == 99) = false := by simp; omega
  have b101 : ((c : Int) == 101) = false := by simp; omega
  have b108 : ((c : Int) == 108) = false := by simp; omega
  have b102 : ((c : Int) == 102) = false := by simp; omega
  clear h111 h114 h97 h99 h101 h108 h102
  go_enter Try.func67, Try.ntmps67
  go_wp2_with fail
  go_returns
  refine ⟨by rw [HE.out], ?_⟩
  go_grown
set_option maxHeartbeats 4000000 in
theorem l3Step_1 (c : Nat) (w : World) (hc : c < 256) :
    Calls Try.prog 67 #[bv 0 false true, .int .u8 c] w fun e w' => e = .returned (resV (Bk.step 1 c)) ∧ Below w.heap.size w w' := by
  by_cases h111 : c = 111
  · subst h111
    show Calls Try.prog 67 #[bv 0 false true, .int .u8 111] w _
    go_enter Try.func67, Try.ntmps67
    go_wp2_with fail
    go_returns
    refine ⟨rfl, ?_⟩
    go_grown
  by_cases h114 : c = 114
  · subst h114
    show Calls Try.prog 67 #[bv 0 false true, .int .u8 114] w _
    go_enter Try.func67, Try.ntmps67
    go_wp2_with fail
    go_returns
    refine ⟨rfl, ?_⟩
    go_grown
  by_cases h97 : c = 97
  · subst h97
    show Calls Try.prog 67 #[bv 0 false true, .int .u8 97] w _
    go_enter Try.func67, Try.ntmps67
    go_wp2_with fail
    go_returns
    refine ⟨rfl, ?_⟩
    go_grown
  by_cases h99 : c = 99
  · subst h99
    show Calls Try.prog 67 #[bv 0 false true, .int .u8 99] w _
    go_enter Try.func67, Try.ntmps67
    go_wp2_with fail
    go_returns
    refine ⟨rfl, ?_⟩
    go_grown
  by_cases h101 : c = 101
  · subst h101
    show Calls Try.prog 67 #[bv 0 false true, .int .u8 101] w _
    go_enter Try.func67, Try.ntmps67
    go_wp2_with fail
    go_returns
    refine ⟨rfl, ?_⟩
    go_grown
  by_cases h108 : c = 108
  · subst h108
    show Calls Try.prog 67 #[bv 0 false true, .int .u8 108] w _
    go_enter Try.func67, Try.ntmps67
    go_wp2_with fail
    go_returns
    refine ⟨rfl, ?_⟩
    go_grown
  by_cases h102 : c = 102
  · subst h102
    show Calls Try.prog 67 #[bv 0 false true, .int .u8 102] w _
    go_enter Try.func67, Try.ntmps67
    go_wp2_with fail
    go_returns
    refine ⟨rfl, ?_⟩
    go_grown
  have HE : Hid (resV (Bk.step 1 c) = .tuple #[bv 0 false false, .bool false]) := by unfold Hid; rw [Bk.step_other h111 h114 h97 h99 h101 h108 h102]; rfl
  have b111 : ((c : Int) == 111) = false := by simp; omega
  have b114 : ((c : Int) == 114) = false := by simp; omega
  have b97 : ((c : Int) == 97) = false := by simp; omega
  have b99 : ((c : Int) == 99) = false := by simp; omega
  have b101 : ((c : Int) == 101) = false := by simp; omega
  have b108 : ((c : Int) == 108) = false := by simp; omega
  have b102 : ((c : Int) == 102) = false := by simp; omega
  clear h111 h114 h97 h99 h101 h108 h102
  go_enter Try.func67, Try.ntmps67
  go_wp2_with fail
  go_returns
  refine ⟨by rw [HE.out], ?_⟩
  go_grown
set_option maxHeartbeats 4000000 in
theorem l3Step_2 (c : Nat) (w : World) (hc : c < 256) :
    Calls Try.prog 67 #[bv 1 false false, .int .u8 c] w fun e w' => e = .returned (resV (Bk.step 2 c)) ∧ Below w.heap.size w w' := by
  by_cases h111 : c = 111
  · subst h111
    show Calls Try.prog 67 #[bv 1 false false, .int .u8 111] w _
    go_enter Try.func67, Try.ntmps67
    go_wp2_with fail
    go_returns
    refine ⟨rfl, ?_⟩
    go_grown
  by_cases h114 : c = 114
  · subst h114
    show Calls Try.prog 67 #[bv 1 false false, .int .u8 114] w _
    go_enter Try.func67, Try.ntmps67
    go_wp2_with fail
    go_returns
    refine ⟨rfl, ?_⟩
    go_grown
  by_cases h97 : c = 97
  · subst h97
    show Calls Try.prog 67 #[bv 1 false false, .int .u8 97] w _
    go_enter Try.func67, Try.ntmps67
    go_wp2_with fail
    go_returns
    refine ⟨rfl, ?_⟩
    go_grown
  by_cases h99 : c = 99
  · subst h99
    show Calls Try.prog 67 #[bv 1 false false, .int .u8 99] w _
    go_enter Try.func67, Try.ntmps67
    go_wp2_with fail
    go_returns
    refine ⟨rfl, ?_⟩
    go_grown
  by_cases h101 : c = 101
  · subst h101
    show Calls Try.prog 67 #[bv 1 false false, .int .u8 101] w _
    go_enter Try.func67, Try.ntmps67
    go_wp2_with fail
    go_returns
    refine ⟨rfl, ?_⟩
    go_grown
  by_cases h108 : c = 108
  · subst h108
    show Calls Try.prog 67 #[bv 1 false false, .int .u8 108] w _
    go_enter Try.func67, Try.ntmps67
    go_wp2_with fail
    go_returns
    refine ⟨rfl, ?_⟩
    go_grown
  by_cases h102 : c = 102
  · subst h102
    show Calls Try.prog 67 #[bv 1 false false, .int .u8 102] w _
    go_enter Try.func67, Try.ntmps67
    go_wp2_with fail
    go_returns
    refine ⟨rfl, ?_⟩
    go_grown
  have HE : Hid (resV (Bk.step 2 c) = .tuple #[bv 0 false false, .bool false]) := by unfold Hid; rw [Bk.step_other h111 h114 h97 h99 h101 h108 h102]; rfl
  have b111 : ((c : Int) == 111) = false := by simp; omega
  have b114 : ((c : Int) == 114) = false := by simp; omega
  have b97 : ((c : Int) == 97) = false := by simp; omega
  have b99 : ((c : Int) == 99) = false := by simp; omega
  have b101 : ((c : Int) == 101) = false := by simp; omega
  have b108 : ((c : Int) == 108) = false := by simp; omega
  have b102 : ((c : Int) == 102) = false := by simp; omega
  clear h111 h114 h97 h99 h101 h108 h102
  go_enter Try.func67, Try.ntmps67
  go_wp2_with fail
  go_returns
  refine ⟨by rw [HE.out], ?_⟩
  go_grown
set_option maxHeartbeats 4000000 in
theorem l3Step_3 (c : Nat) (w : World) (hc : c < 256) :
    Calls Try.prog 67 #[bv 2 true false, .int .u8 c] w fun e w' => e = .returned (resV (Bk.step 3 c)) ∧ Below w.heap.size w w' := by
  by_cases h111 : c = 111
  · subst h111
    show Calls Try.prog 67 #[bv 2 true false, .int .u8 111] w _
    go_enter Try.func67, Try.ntmps67
    go_wp2_with fail
    go_returns
    refine ⟨rfl, ?_⟩
    go_grown
  by_cases h114 : c = 114
  · subst h114
    show Calls Try.prog 67 #[bv 2 true false, .int .u8 114] w _
    go_enter Try.func67, Try.ntmps67
    go_wp2_with fail
    go_returns
    refine ⟨rfl, ?_⟩
    go_grown
  by_cases h97 : c = 97
  · subst h97
    show Calls Try.prog 67 #[bv 2 true false, .int .u8 97] w _
    go_enter Try.func67, Try.ntmps67
    go_wp2_with fail
    go_returns
    refine ⟨rfl, ?_⟩
    go_grown
  by_cases h99 : c = 99
  · subst h99
    show Calls Try.prog 67 #[bv 2 true false, .int .u8 99] w _
    go_enter Try.func67, Try.ntmps67
    go_wp2_with fail
    go_returns
    refine ⟨rfl, ?_⟩
    go_grown
  by_cases h101 : c = 101
  · subst h101
    show Calls Try.prog 67 #[bv 2 true false, .int .u8 101] w _
    go_enter Try.func67, Try.ntmps67
    go_wp2_with fail
    go_returns
    refine ⟨rfl, ?_⟩
    go_grown
  by_cases h108 : c = 108
  · subst h108
    show Calls Try.prog 67 #[bv 2 true false, .int .u8 108] w _
    go_enter Try.func67, Try.ntmps67
    go_wp2_with fail
    go_returns
    refine ⟨rfl, ?_⟩
    go_grown
  by_cases h102 : c = 102
  · subst h102
    show Calls Try.prog 67 #[bv 2 true false, .int .u8 102] w _
    go_enter Try.func67, Try.ntmps67
    go_wp2_with fail
    go_returns
    refine ⟨rfl, ?_⟩
    go_grown
  have HE : Hid (resV (Bk.step 3 c) = .tuple #[bv 0 false false, .bool false]) := by unfold Hid; rw [Bk.step_other h111 h114 h97 h99 h101 h108 h102]; rfl
  have b111 : ((c : Int) == 111) = false := by simp; omega
  have b114 : ((c : Int) == 114) = false := by simp; omega
  have b97 : ((c : Int) == 97) = false := by simp; omega
  have b99 : ((c : Int) == 99) = false := by simp; omega
  have b101 : ((c : Int) == 101) = false := by simp; omega
  have b108 : ((c : Int) == 108) = false := by simp; omega
  have b102 : ((c : Int) == 102) = false := by simp; omega
  clear h111 h114 h97 h99 h101 h108 h102
  go_enter Try.func67, Try.ntmps67
  go_wp2_with fail
  go_returns
  refine ⟨by rw [HE.out], ?_⟩
  go_grown
set_option maxHeartbeats 4000000 in
theorem l3Step_4 (c : Nat) (w : World) (hc : c < 256) :
    Calls Try.prog 67 #[bv 2 false false, .int .u8 c] w fun e w' => e = .returned (resV (Bk.step 4 c)) ∧ Below w.heap.size w w' := by
  by_cases h111 : c = 111
  · subst h111
    show Calls Try.prog 67 #[bv 2 false false, .int .u8 111] w _
    go_enter Try.func67, Try.ntmps67
    go_wp2_with fail
    go_returns
    refine ⟨rfl, ?_⟩
    go_grown
  by_cases h114 : c = 114
  · subst h114
    show Calls Try.prog 67 #[bv 2 false false, .int .u8 114] w _
    go_enter Try.func67, Try.ntmps67
    go_wp2_with fail
    go_returns
    refine ⟨rfl, ?_⟩
    go_grown
  by_cases h97 : c = 97
  · subst h97
    show Calls Try.prog 67 #[bv 2 false false, .int .u8 97] w _
    go_enter Try.func67, Try.ntmps67
    go_wp2_with fail
    go_returns
    refine ⟨rfl, ?_⟩
    go_grown
  by_cases h99 : c = 99
  · subst h99
    show Calls Try.prog 67 #[bv 2 false false, .int .u8 99] w _
    go_enter Try.func67, Try.ntmps67
    go_wp2_with fail
    go_returns
    refine ⟨rfl, ?_⟩
    go_grown
  by_cases h101 : c = 101
  · subst h101
    show Calls Try.prog 67 #[bv 2 false false, .int .u8 101] w _
    go_enter Try.func67, Try.ntmps67
    go_wp2_with fail
    go_returns
    refine ⟨rfl, ?_⟩
    go_grown
  by_cases h108 : c = 108
  · subst h108
    show Calls Try.prog 67 #[bv 2 false false, .int .u8 108] w _
    go_enter Try.func67, Try.ntmps67
    go_wp2_with fail
    go_returns
    refine ⟨rfl, ?_⟩
    go_grown
  by_cases h102 : c = 102
  · subst h102
    show Calls Try.prog 67 #[bv 2 false false, .int .u8 102] w _
    go_enter Try.func67, Try.ntmps67
    go_wp2_with fail
    go_returns
    refine ⟨rfl, ?_⟩
    go_grown
  have HE : Hid (resV (Bk.step 4 c) = .tuple #[bv 0 false false, .bool false]) := by unfold Hid; rw [Bk.step_other h111 h114 h97 h99 h101 h108 h102]; rfl
  have b111 : ((c : Int) == 111) = false := by simp; omega
  have b114 : ((c : Int) == 114) = false := by simp; omega
  have b97 : ((c : Int) == 97) = false := by simp; omega
  have b99 : ((c : Int) == 99) = false := by simp; omega
  have b101 : ((c : Int) == 101) = false := by simp; omega
  have b108 : ((c : Int) == 108) = false := by simp; omega
  have b102 : ((c : Int) == 102) = false := by simp; omega
  clear h111 h114 h97 h99 h101 h108 h102
  go_enter Try.func67, Try.ntmps67
  go_wp2_with fail
  go_returns
  refine ⟨by rw [HE.out], ?_⟩
  go_grown
theorem l3Step_any (s c : Nat) (w : World) (hs : s < 5) (hc : c < 256) :
    Calls Try.prog 67 #[bv (Bk.nd s) (Bk.ins s) (Bk.off s), .int .u8 c] w fun e w' => e = .returned (resV (Bk.step s c)) ∧ Below w.heap.size w w' := by
  have : s = 0 ∨ s = 1 ∨ s = 2 ∨ s = 3 ∨ s = 4 := by omega
  rcases this with rfl | rfl | rfl | rfl | rfl
  · exact l3Step_0 c w hc
  · exact l3Step_1 c w hc
  · exact l3Step_2 c w hc
  · exact l3Step_3 c w hc
  · exact l3Step_4 c w hc
end Go.Proofs.Ytlneedjhdnjnpaa
