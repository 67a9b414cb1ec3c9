/-
  Contracts of the reference's block instruments: BlockPossible, l3Step, BlockStep.
  Conditions: none for BlockPossible and BlockStep; a possible block and a byte for l3Step.
-/
import Derived.Test.YtmplanlppjebnaaMv1
import Derived.Test.YtmplanlppjebnaaCodes
import Derived.Test.YtmplanlppjebnaaBlkPlain
namespace Go.Proofs.Ytmplanlppjebnaa
open Go.RowKit
set_option linter.unusedVariables false
attribute [local go_sem ↓] Go.wp_at_zero Go.wp_at_succ

/-- A block as a value. -/
abbrev bv (n : Int) (i o : Bool) : Value := .agg #[.int .i64 n, .bool i, .bool o]

set_option maxHeartbeats 1000000 in
theorem specBlockPossible_any (n : Int) (i o : Bool) (w : World) :
    Calls Try.prog 56 #[bv n i o] w fun e w' => e = .returned (.bool (Bk.possible n i o)) ∧ Below w.heap.size w w' := by
  by_cases hn : 0 ≤ n ∧ n ≤ 2
  · obtain ⟨h0, h2⟩ := hn
    have : n = 0 ∨ n = 1 ∨ n = 2 := by omega
    rcases this with rfl | rfl | rfl <;> clear h0 h2 <;> cases i <;> cases o <;>
    · go_enter Try.func56, Try.ntmps56
      go_wp2_with fail
      refine (l6In_yes _ _ _ _ (by omega) (by omega)).mono ?_
      rintro e w' ⟨rfl, rfl⟩
      go_wp2_with fail
      go_ret
      refine ⟨rfl, ?_⟩
      go_grown
  · have HE : Hid (Bk.possible n i o = false) := by
      unfold Hid
      rw [Bk.possible_iff]
      by_cases h1 : 0 ≤ n
      · have h2 : ¬ n ≤ 2 := by omega
        simp [h1, h2]
      · simp [h1]
    have HN : Hid (n < 0 ∨ 2 < n) := by unfold Hid; omega
    clear hn
    go_enter Try.func56, Try.ntmps56
    go_wp2_with fail
    refine (l6In_no _ _ _ _ HN.out).mono ?_
    rintro e w' ⟨rfl, rfl⟩
    go_wp2_with fail
    go_ret
    refine ⟨ret_bool HE.out.symm, ?_⟩
    go_grown
theorem below_box2 {w w2 : World} {o1 o2 : Obj} (h : Below (w.heap.size + 1 + 1) ((w.alloc o1).alloc o2) w2) : Below w.heap.size w w2 :=
  (((Below.refl w.heap.size w).alloc (Nat.le_refl _) o1).alloc (by simp) o2).trans (h.mono (by omega))
/-- A block behind an event, and whether it could be done. -/
def resV (r : Option Nat) : Value := match r with | some t => .tuple #[bv (Bk.nd t) (Bk.ins t) (Bk.off t), .bool true] | none => .tuple #[bv 0 false false, .bool false]
namespace Bk
theorem step_other {s c : Nat} (h1 : c ≠ 111) (h2 : c ≠ 114) (h3 : c ≠ 97) (h4 : c ≠ 99) (h5 : c ≠ 101) (h6 : c ≠ 108) (h7 : c ≠ 102) : step s c = none := by
  unfold step
  split <;> simp [h1, h2, h3, h4, h5, h6, h7]
end Bk
set_option maxHeartbeats 4000000 in
theorem l3Step_0 (c : Nat) (w : World) (hc : c < 256) :
    Calls Try.prog 60 #[bv 0 false false, .int .u8 c] w fun e w' => e = .returned (resV (Bk.step 0 c)) ∧ Below w.heap.size w w' := by
  by_cases h111 : c = 111
  · subst h111
    show Calls Try.prog 60 #[bv 0 false false, .int .u8 111] w _
    go_enter Try.func60, Try.ntmps60
    go_wp2_with fail
    go_returns
    refine ⟨rfl, ?_⟩
    go_grown
  by_cases h114 : c = 114
  · subst h114
    show Calls Try.prog 60 #[bv 0 false false, .int .u8 114] w _
    go_enter Try.func60, Try.ntmps60
    go_wp2_with fail
    go_returns
    refine ⟨rfl, ?_⟩
    go_grown
  by_cases h97 : c = 97
  · subst h97
    show Calls Try.prog 60 #[bv 0 false false, .int .u8 97] w _
    go_enter Try.func60, Try.ntmps60
    go_wp2_with fail
    go_returns
    refine ⟨rfl, ?_⟩
    go_grown
  by_cases h99 : c = 99
  · subst h99
    show Calls Try.prog 60 #[bv 0 false false, .int .u8 99] w _
    go_enter Try.func60, Try.ntmps60
    go_wp2_with fail
    go_returns
    refine ⟨rfl, ?_⟩
    go_grown
  by_cases h101 : c = 101
  · subst h101
    show Calls Try.prog 60 #[bv 0 false false, .int .u8 101] w _
    go_enter Try.func60, Try.ntmps60
    go_wp2_with fail
    go_returns
    refine ⟨rfl, ?_⟩
    go_grown
  by_cases h108 : c = 108
  · subst h108
    show Calls Try.prog 60 #[bv 0 false false, .int .u8 108] w _
    go_enter Try.func60, Try.ntmps60
    go_wp2_with fail
    go_returns
    refine ⟨rfl, ?_⟩
    go_grown
  by_cases h102 : c = 102
  · subst h102
    show Calls Try.prog 60 #[bv 0 false false, .int .u8 102] w _
    go_enter Try.func60, Try.ntmps60
    go_wp2_with fail
    go_returns
    refine ⟨rfl, ?_⟩
    go_grown
  have HE : Hid (resV (Bk.step 0 c) = .tuple #[bv 0 false false, .bool false]) := by unfold Hid; rw [Bk.step_other h111 h114 h97 h99 h101 h108 h102]; rfl
  have b111 : ((c : Int) == 111) = false := by simp; omega
  have b114 : ((c : Int) == 114) = false := by simp; omega
  have b97 : ((c : Int) == 97) = false := by simp; omega
  have b99 : ((c : Int) == 99) = false := by simp; omega
  have b101 : ((c : Int) == 101) = false := by simp; omega
  have b108 : ((c : Int) == 108) = false := by simp; omega
  have b102 : ((c : Int) == 102) = false := by simp; omega
  clear h111 h114 h97 h99 h101 h108 h102
  go_enter Try.func60, Try.ntmps60
  go_wp2_with fail
  go_returns
  refine ⟨by rw [HE.out], ?_⟩
  go_grown
set_option maxHeartbeats 4000000 in
theorem l3Step_1 (c : Nat) (w : World) (hc : c < 256) :
    Calls Try.prog 60 #[bv 0 false true, .int .u8 c] w fun e w' => e = .returned (resV (Bk.step 1 c)) ∧ Below w.heap.size w w' := by
  by_cases h111 : c = 111
  · subst h111
    show Calls Try.prog 60 #[bv 0 false true, .int .u8 111] w _
    go_enter Try.func60, Try.ntmps60
    go_wp2_with fail
    go_returns
    refine ⟨rfl, ?_⟩
    go_grown
  by_cases h114 : c = 114
  · subst h114
    show Calls Try.prog 60 #[bv 0 false true, .int .u8 114] w _
    go_enter Try.func60, Try.ntmps60
    go_wp2_with fail
    go_returns
    refine ⟨rfl, ?_⟩
    go_grown
  by_cases h97 : c = 97
  · subst h97
    show Calls Try.prog 60 #[bv 0 false true, .int .u8 97] w _
    go_enter Try.func60, Try.ntmps60
    go_wp2_with fail
    go_returns
    refine ⟨rfl, ?_⟩
    go_grown
  by_cases h99 : c = 99
  · subst h99
    show Calls Try.prog 60 #[bv 0 false true, .int .u8 99] w _
    go_enter Try.func60, Try.ntmps60
    go_wp2_with fail
    go_returns
    refine ⟨rfl, ?_⟩
    go_grown
  by_cases h101 : c = 101
  · subst h101
    show Calls Try.prog 60 #[bv 0 false true, .int .u8 101] w _
    go_enter Try.func60, Try.ntmps60
    go_wp2_with fail
    go_returns
    refine ⟨rfl, ?_⟩
    go_grown
  by_cases h108 : c = 108
  · subst h108
    show Calls Try.prog 60 #[bv 0 false true, .int .u8 108] w _
    go_enter Try.func60, Try.ntmps60
    go_wp2_with fail
    go_returns
    refine ⟨rfl, ?_⟩
    go_grown
  by_cases h102 : c = 102
  · subst h102
    show Calls Try.prog 60 #[bv 0 false true, .int .u8 102] w _
    go_enter Try.func60, Try.ntmps60
    go_wp2_with fail
    go_returns
    refine ⟨rfl, ?_⟩
    go_grown
  have HE : Hid (resV (Bk.step 1 c) = .tuple #[bv 0 false false, .bool false]) := by unfold Hid; rw [Bk.step_other h111 h114 h97 h99 h101 h108 h102]; rfl
  have b111 : ((c : Int) == 111) = false := by simp; omega
  have b114 : ((c : Int) == 114) = false := by simp; omega
  have b97 : ((c : Int) == 97) = false := by simp; omega
  have b99 : ((c : Int) == 99) = false := by simp; omega
  have b101 : ((c : Int) == 101) = false := by simp; omega
  have b108 : ((c : Int) == 108) = false := by simp; omega
  have b102 : ((c : Int) == 102) = false := by simp; omega
  clear h111 h114 h97 h99 h101 h108 h102
  go_enter Try.func60, Try.ntmps60
  go_wp2_with fail
  go_returns
  refine ⟨by rw [HE.out], ?_⟩
  go_grown
set_option maxHeartbeats 4000000 in
theorem l3Step_2 (c : Nat) (w : World) (hc : c < 256) :
    Calls Try.prog 60 #[bv 1 false false, .int .u8 c] w fun e w' => e = .returned (resV (Bk.step 2 c)) ∧ Below w.heap.size w w' := by
  by_cases h111 : c = 111
  · subst h111
    show Calls Try.prog 60 #[bv 1 false false, .int .u8 111] w _
    go_enter Try.func60, Try.ntmps60
    go_wp2_with fail
    go_returns
    refine ⟨rfl, ?_⟩
    go_grown
  by_cases h114 : c = 114
  · subst h114
    show Calls Try.prog 60 #[bv 1 false false, .int .u8 114] w _
    go_enter Try.func60, Try.ntmps60
    go_wp2_with fail
    go_returns
    refine ⟨rfl, ?_⟩
    go_grown
  by_cases h97 : c = 97
  · subst h97
    show Calls Try.prog 60 #[bv 1 false false, .int .u8 97] w _
    go_enter Try.func60, Try.ntmps60
    go_wp2_with fail
    go_returns
    refine ⟨rfl, ?_⟩
    go_grown
  by_cases h99 : c = 99
  · subst h99
    show Calls Try.prog 60 #[bv 1 false false, .int .u8 99] w _
    go_enter Try.func60, Try.ntmps60
    go_wp2_with fail
    go_returns
    refine ⟨rfl, ?_⟩
    go_grown
  by_cases h101 : c = 101
  · subst h101
    show Calls Try.prog 60 #[bv 1 false false, .int .u8 101] w _
    go_enter Try.func60, Try.ntmps60
    go_wp2_with fail
    go_returns
    refine ⟨rfl, ?_⟩
    go_grown
  by_cases h108 : c = 108
  · subst h108
    show Calls Try.prog 60 #[bv 1 false false, .int .u8 108] w _
    go_enter Try.func60, Try.ntmps60
    go_wp2_with fail
    go_returns
    refine ⟨rfl, ?_⟩
    go_grown
  by_cases h102 : c = 102
  · subst h102
    show Calls Try.prog 60 #[bv 1 false false, .int .u8 102] w _
    go_enter Try.func60, Try.ntmps60
    go_wp2_with fail
    go_returns
    refine ⟨rfl, ?_⟩
    go_grown
  have HE : Hid (resV (Bk.step 2 c) = .tuple #[bv 0 false false, .bool false]) := by unfold Hid; rw [Bk.step_other h111 h114 h97 h99 h101 h108 h102]; rfl
  have b111 : ((c : Int) == 111) = false := by simp; omega
  have b114 : ((c : Int) == 114) = false := by simp; omega
  have b97 : ((c : Int) == 97) = false := by simp; omega
  have b99 : ((c : Int) == 99) = false := by simp; omega
  have b101 : ((c : Int) == 101) = false := by simp; omega
  have b108 : ((c : Int) == 108) = false := by simp; omega
  have b102 : ((c : Int) == 102) = false := by simp; omega
  clear h111 h114 h97 h99 h101 h108 h102
  go_enter Try.func60, Try.ntmps60
  go_wp2_with fail
  go_returns
  refine ⟨by rw [HE.out], ?_⟩
  go_grown
set_option maxHeartbeats 4000000 in
theorem l3Step_3 (c : Nat) (w : World) (hc : c < 256) :
    Calls Try.prog 60 #[bv 2 true false, .int .u8 c] w fun e w' => e = .returned (resV (Bk.step 3 c)) ∧ Below w.heap.size w w' := by
  by_cases h111 : c = 111
  · subst h111
    show Calls Try.prog 60 #[bv 2 true false, .int .u8 111] w _
    go_enter Try.func60, Try.ntmps60
    go_wp2_with fail
    go_returns
    refine ⟨rfl, ?_⟩
    go_grown
  by_cases h114 : c = 114
  · subst h114
    show Calls Try.prog 60 #[bv 2 true false, .int .u8 114] w _
    go_enter Try.func60, Try.ntmps60
    go_wp2_with fail
    go_returns
    refine ⟨rfl, ?_⟩
    go_grown
  by_cases h97 : c = 97
  · subst h97
    show Calls Try.prog 60 #[bv 2 true false, .int .u8 97] w _
    go_enter Try.func60, Try.ntmps60
    go_wp2_with fail
    go_returns
    refine ⟨rfl, ?_⟩
    go_grown
  by_cases h99 : c = 99
  · subst h99
    show Calls Try.prog 60 #[bv 2 true false, .int .u8 99] w _
    go_enter Try.func60, Try.ntmps60
    go_wp2_with fail
    go_returns
    refine ⟨rfl, ?_⟩
    go_grown
  by_cases h101 : c = 101
  · subst h101
    show Calls Try.prog 60 #[bv 2 true false, .int .u8 101] w _
    go_enter Try.func60, Try.ntmps60
    go_wp2_with fail
    go_returns
    refine ⟨rfl, ?_⟩
    go_grown
  by_cases h108 : c = 108
  · subst h108
    show Calls Try.prog 60 #[bv 2 true false, .int .u8 108] w _
    go_enter Try.func60, Try.ntmps60
    go_wp2_with fail
    go_returns
    refine ⟨rfl, ?_⟩
    go_grown
  by_cases h102 : c = 102
  · subst h102
    show Calls Try.prog 60 #[bv 2 true false, .int .u8 102] w _
    go_enter Try.func60, Try.ntmps60
    go_wp2_with fail
    go_returns
    refine ⟨rfl, ?_⟩
    go_grown
  have HE : Hid (resV (Bk.step 3 c) = .tuple #[bv 0 false false, .bool false]) := by unfold Hid; rw [Bk.step_other h111 h114 h97 h99 h101 h108 h102]; rfl
  have b111 : ((c : Int) == 111) = false := by simp; omega
  have b114 : ((c : Int) == 114) = false := by simp; omega
  have b97 : ((c : Int) == 97) = false := by simp; omega
  have b99 : ((c : Int) == 99) = false := by simp; omega
  have b101 : ((c : Int) == 101) = false := by simp; omega
  have b108 : ((c : Int) == 108) = false := by simp; omega
  have b102 : ((c : Int) == 102) = false := by simp; omega
  clear h111 h114 h97 h99 h101 h108 h102
  go_enter Try.func60, Try.ntmps60
  go_wp2_with fail
  go_returns
  refine ⟨by rw [HE.out], ?_⟩
  go_grown
set_option maxHeartbeats 4000000 in
theorem l3Step_4 (c : Nat) (w : World) (hc : c < 256) :
    Calls Try.prog 60 #[bv 2 false false, .int .u8 c] w fun e w' => e = .returned (resV (Bk.step 4 c)) ∧ Below w.heap.size w w' := by
  by_cases h111 : c = 111
  · subst h111
    show Calls Try.prog 60 #[bv 2 false false, .int .u8 111] w _
    go_enter Try.func60, Try.ntmps60
    go_wp2_with fail
    go_returns
    refine ⟨rfl, ?_⟩
    go_grown
  by_cases h114 : c = 114
  · subst h114
    show Calls Try.prog 60 #[bv 2 false false, .int .u8 114] w _
    go_enter Try.func60, Try.ntmps60
    go_wp2_with fail
    go_returns
    refine ⟨rfl, ?_⟩
    go_grown
  by_cases h97 : c = 97
  · subst h97
    show Calls Try.prog 60 #[bv 2 false false, .int .u8 97] w _
    go_enter Try.func60, Try.ntmps60
    go_wp2_with fail
    go_returns
    refine ⟨rfl, ?_⟩
    go_grown
  by_cases h99 : c = 99
  · subst h99
    show Calls Try.prog 60 #[bv 2 false false, .int .u8 99] w _
    go_enter Try.func60, Try.ntmps60
    go_wp2_with fail
    go_returns
    refine ⟨rfl, ?_⟩
    go_grown
  by_cases h101 : c = 101
  · subst h101
    show Calls Try.prog 60 #[bv 2 false false, .int .u8 101] w _
    go_enter Try.func60, Try.ntmps60
    go_wp2_with fail
    go_returns
    refine ⟨rfl, ?_⟩
    go_grown
  by_cases h108 : c = 108
  · subst h108
    show Calls Try.prog 60 #[bv 2 false false, .int .u8 108] w _
    go_enter Try.func60, Try.ntmps60
    go_wp2_with fail
    go_returns
    refine ⟨rfl, ?_⟩
    go_grown
  by_cases h102 : c = 102
  · subst h102
    show Calls Try.prog 60 #[bv 2 false false, .int .u8 102] w _
    go_enter Try.func60, Try.ntmps60
    go_wp2_with fail
    go_returns
    refine ⟨rfl, ?_⟩
    go_grown
  have HE : Hid (resV (Bk.step 4 c) = .tuple #[bv 0 false false, .bool false]) := by unfold Hid; rw [Bk.step_other h111 h114 h97 h99 h101 h108 h102]; rfl
  have b111 : ((c : Int) == 111) = false := by simp; omega
  have b114 : ((c : Int) == 114) = false := by simp; omega
  have b97 : ((c : Int) == 97) = false := by simp; omega
  have b99 : ((c : Int) == 99) = false := by simp; omega
  have b101 : ((c : Int) == 101) = false := by simp; omega
  have b108 : ((c : Int) == 108) = false := by simp; omega
  have b102 : ((c : Int) == 102) = false := by simp; omega
  clear h111 h114 h97 h99 h101 h108 h102
  go_enter Try.func60, Try.ntmps60
  go_wp2_with fail
  go_returns
  refine ⟨by rw [HE.out], ?_⟩
  go_grown
theorem l3Step_any (s c : Nat) (w : World) (hs : s < 5) (hc : c < 256) :
    Calls Try.prog 60 #[bv (Bk.nd s) (Bk.ins s) (Bk.off s), .int .u8 c] w fun e w' => e = .returned (resV (Bk.step s c)) ∧ Below w.heap.size w w' := by
  have : s = 0 ∨ s = 1 ∨ s = 2 ∨ s = 3 ∨ s = 4 := by omega
  rcases this with rfl | rfl | rfl | rfl | rfl
  · exact l3Step_0 c w hc
  · exact l3Step_1 c w hc
  · exact l3Step_2 c w hc
  · exact l3Step_3 c w hc
  · exact l3Step_4 c w hc
theorem str_one (s : ByteArray) (h : s.size = 1) : s.toList = [s[0]] := by
  have h1 := str_len' s
  have h2 := str_at' s 0 (by omega)
  match hl : s.toList, h1 with
  | [c], _ => rw [hl] at h2; simp at h2; rw [h2]
  | [], h1 => simp at h1; omega
  | _ :: _ :: _, h1 => simp at h1; omega
/-- The box of a parameter and the room for a result, in a later world. -/
theorem room_facts {w w1 : World} {o1 : Obj} {t : TypeId} {v0 v1 v2 : Value} (hb : Below (w.heap.size + 1 + 1) ((w.alloc o1).alloc (.cells #[v0, v1, v2] t)) w1) :
    w1.cell? ⟨w.heap.size + 1, 0, none⟩ = some v0 ∧ w1.cell? ⟨w.heap.size + 1, 1, none⟩ = some v1 ∧ w1.cell? ⟨w.heap.size + 1, 2, none⟩ = some v2 ∧
    w1.frozen? ⟨w.heap.size + 1, 0, none⟩ = false ∧ w1.frozen? ⟨w.heap.size + 1, 1, none⟩ = false ∧ w1.frozen? ⟨w.heap.size + 1, 2, none⟩ = false := by
  refine ⟨?_, ?_, ?_, ?_, ?_, ?_⟩
  · exact (hb.cell (p := ⟨w.heap.size + 1, 0, none⟩) (show w.heap.size + 1 < _ by omega)).trans (by simp [go_sem])
  · exact (hb.cell (p := ⟨w.heap.size + 1, 1, none⟩) (show w.heap.size + 1 < _ by omega)).trans (by simp [go_sem])
  · exact (hb.cell (p := ⟨w.heap.size + 1, 2, none⟩) (show w.heap.size + 1 < _ by omega)).trans (by simp [go_sem])
  · exact (hb.frozen (p := ⟨w.heap.size + 1, 0, none⟩) (show w.heap.size + 1 < _ by omega)).trans (by simp [go_sem])
  · exact (hb.frozen (p := ⟨w.heap.size + 1, 1, none⟩) (show w.heap.size + 1 < _ by omega)).trans (by simp [go_sem])
  · exact (hb.frozen (p := ⟨w.heap.size + 1, 2, none⟩) (show w.heap.size + 1 < _ by omega)).trans (by simp [go_sem])

/-- The box of a parameter in a later world. -/
theorem box_facts {w w1 : World} {o2 : Obj} {t : TypeId} {v0 v1 v2 : Value} (hb : Below (w.heap.size + 1 + 1) ((w.alloc (.cells #[v0, v1, v2] t)).alloc o2) w1) :
    w1.cell? ⟨w.heap.size, 0, none⟩ = some v0 ∧ w1.cell? ⟨w.heap.size, 1, none⟩ = some v1 ∧ w1.cell? ⟨w.heap.size, 2, none⟩ = some v2 := by
  refine ⟨?_, ?_, ?_⟩
  · exact (hb.cell (p := ⟨w.heap.size, 0, none⟩) (show w.heap.size < _ by omega)).trans (by simp [go_sem])
  · exact (hb.cell (p := ⟨w.heap.size, 1, none⟩) (show w.heap.size < _ by omega)).trans (by simp [go_sem])
  · exact (hb.cell (p := ⟨w.heap.size, 2, none⟩) (show w.heap.size < _ by omega)).trans (by simp [go_sem])

/-- The room for a result behind a draw and a call. -/
theorem room_later {w1 w3 : World} {B : Nat} {v0 v1 v2 : Value}
    (h : w1.cell? ⟨B, 0, none⟩ = some v0 ∧ w1.cell? ⟨B, 1, none⟩ = some v1 ∧ w1.cell? ⟨B, 2, none⟩ = some v2 ∧ w1.frozen? ⟨B, 0, none⟩ = false ∧ w1.frozen? ⟨B, 1, none⟩ = false ∧ w1.frozen? ⟨B, 2, none⟩ = false)
    (hb3 : Below w1.heap.size w1 w3) :
    w3.cell? ⟨B, 0, none⟩ = some v0 ∧ w3.cell? ⟨B, 1, none⟩ = some v1 ∧ w3.cell? ⟨B, 2, none⟩ = some v2 ∧ w3.frozen? ⟨B, 0, none⟩ = false ∧ w3.frozen? ⟨B, 1, none⟩ = false ∧ w3.frozen? ⟨B, 2, none⟩ = false := by
  obtain ⟨r0, r1, r2, f0, f1, f2⟩ := h
  exact ⟨(hb3.cell (block_lt_of_cell r0)).trans r0, (hb3.cell (block_lt_of_cell r1)).trans r1, (hb3.cell (block_lt_of_cell r2)).trans r2, (hb3.frozen (block_lt_of_cell r0)).trans f0, (hb3.frozen (block_lt_of_cell r1)).trans f1, (hb3.frozen (block_lt_of_cell r2)).trans f2⟩
theorem resV_form (r : Option Nat) : ∃ rn ri ro rk, resV r = .tuple #[bv rn ri ro, .bool rk] := by
  cases r with
  | none => exact ⟨_, _, _, _, rfl⟩
  | some t => exact ⟨_, _, _, _, rfl⟩
set_option maxHeartbeats 4000000 in
theorem specBlockStep_any (n : Int) (i o : Bool) (s : ByteArray) (w : World) (hsz : s.size ≤ maxLen) :
    Calls Try.prog 57 #[bv n i o, .string s] w fun e w' => e = .returned (resV (Bk.stepR n i o s.toList)) ∧ Below w.heap.size w w' := by
  unfold maxLen at hsz
  cases hst : Bk.stOf n i o with
  | none =>
    have HP : Hid (Bk.possible n i o = false) := by unfold Hid Bk.possible; rw [hst]; rfl
    have HR : Hid (resV (Bk.stepR n i o s.toList) = .tuple #[bv 0 false false, .bool false]) := by unfold Hid; rw [Bk.stepR_none hst]; rfl
    clear hst
    go_enter Try.func57, Try.ntmps57
    go_wp2_with fail
    refine (specBlockPossible_any _ _ _ _).mono ?_
    rintro e w1 ⟨rfl, hb1⟩
    simp only [World.size_alloc] at hb1
    obtain ⟨r0, r1, r2, f0, f1, f2⟩ := room_facts hb1
    have Hbw := Lib.hid (below_box2 hb1)
    clear hb1
    rw [HP.out]
    go_wp2_with fail
    refine bodyPost_ret (v := .tuple #[bv 0 false false, .bool false]) (by simp [results, Try.results57, go_sem, r0, r1, r2]) rfl ?_
    refine ⟨by rw [HR.out], ?_⟩
    have hb4 := Hbw.out
    go_grown
  | some q =>
    have HP : Hid (Bk.possible n i o = true) := by unfold Hid Bk.possible; rw [hst]; rfl
    by_cases h1 : s.size = 1
    · have hone := str_one s h1
      have hs1 : 0 < s.size := by omega
      have HR : Hid (Bk.stepR n i o s.toList = Bk.step q (s[0]'hs1).toNat) := by unfold Hid; rw [hone, Bk.stepR_some hst]
      have hb1s : ((s.size : Int) != 1) = false := by simp; omega
      have hs2 : s.size ≤ 1 := by omega
      have hbt : (s[0]'hs1).toNat < 256 := (s[0]'hs1).toNat_lt
      have hq5 : q < 5 := (Bk.stOf_lt hst).1
      obtain ⟨en, ei, eo⟩ := (Bk.stOf_lt hst).2
      clear hone h1 hst
      subst en ei eo
      go_enter Try.func57, Try.ntmps57
      go_wp2_with fail
      refine (specBlockPossible_any _ _ _ _).mono ?_
      rintro e w1 ⟨rfl, hb1⟩
      simp only [World.size_alloc] at hb1
      obtain ⟨r0, r1, r2, f0, f1, f2⟩ := room_facts hb1
      obtain ⟨b0, b1, b2⟩ := box_facts hb1
      have Hbw := Lib.hid (below_box2 hb1)
      clear hb1
      rw [HP.out]
      obtain ⟨rn, ri, ro, rk, hres⟩ := resV_form (Bk.step q (s[0]'hs1).toNat)
      have HV : Hid (resV (Bk.stepR (Bk.nd q) (Bk.ins q) (Bk.off q) s.toList) = .tuple #[bv rn ri ro, .bool rk]) := by unfold Hid; rw [HR.out, hres]
      have HRes := Lib.hid hres
      clear hres
      go_wp2_with fail
      have HRm : Hid (w1.drew.cell? ⟨w.heap.size + 1, 0, none⟩ = some _ ∧ w1.drew.cell? ⟨w.heap.size + 1, 1, none⟩ = some _ ∧ w1.drew.cell? ⟨w.heap.size + 1, 2, none⟩ = some _ ∧ w1.drew.frozen? ⟨w.heap.size + 1, 0, none⟩ = false ∧ w1.drew.frozen? ⟨w.heap.size + 1, 1, none⟩ = false ∧ w1.drew.frozen? ⟨w.heap.size + 1, 2, none⟩ = false) := ⟨r0, r1, r2, f0, f1, f2⟩
      have Hbd : Hid (Below w.heap.size w w1.drew) := Hbw.out.drew
      clear r0 r1 r2 f0 f1 f2
      go_region_with (first | (go_at_call 60; refine (l3Step_any q _ _ (by omega) (by assumption)).mono ?_; rintro e w3 ⟨rfl, hb3⟩; rw [HRes.out]; obtain ⟨q0, q1, q2, g0, g1, g2⟩ := room_later HRm.out hb3; have Hb4 := Lib.hid (below_seq Hbd.out hb3); clear hb3 b0 b1 b2))
      all_goals go_wp2_with fail
      all_goals refine bodyPost_ret (v := .tuple #[bv rn ri ro, .bool rk]) (by simp [results, Try.results57, go_sem, q0, q1, q2]) rfl ?_
      all_goals refine ⟨by rw [HV.out], ?_⟩
      all_goals have hb4 := Hb4.out
      all_goals go_grown
    · have HR : Hid (resV (Bk.stepR n i o s.toList) = .tuple #[bv 0 false false, .bool false]) := by unfold Hid; rw [Bk.stepR_len (by rw [str_len']; exact h1)]; rfl
      have hb1s : ((s.size : Int) != 1) = true := by simp; omega
      clear h1 hst
      go_enter Try.func57, Try.ntmps57
      go_wp2_with fail
      refine (specBlockPossible_any _ _ _ _).mono ?_
      rintro e w1 ⟨rfl, hb1⟩
      simp only [World.size_alloc] at hb1
      obtain ⟨r0, r1, r2, f0, f1, f2⟩ := room_facts hb1
      have Hbw := Lib.hid (below_box2 hb1)
      clear hb1
      rw [HP.out]
      go_wp2_with fail
      refine bodyPost_ret (v := .tuple #[bv 0 false false, .bool false]) (by simp [results, Try.results57, go_sem, r0, r1, r2]) rfl ?_
      refine ⟨by rw [HR.out], ?_⟩
      have hb4 := Hbw.out
      go_grown
end Go.Proofs.Ytmplanlppjebnaa
