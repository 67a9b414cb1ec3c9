/-
  Contract of instrumentOf, BlockPossible (the program's); the walk of the law FnExactBlockPossible.
  Conditions: none.
-/
import Derived.Test.YtlneedjhdnjnpaaBlk1
namespace Go.Proofs.Ytlneedjhdnjnpaa
open Go.RowKit
set_option linter.unusedVariables false
attribute [local go_sem ↓] Go.wp_at_zero Go.wp_at_succ run_eql_block run_neq_block

/-- What instrumentOf returns. -/
def instV (n : Int) (i o : Bool) : Value := match Bk.stOf n i o with | some s => .tuple #[stV s, .bool true] | none => .tuple #[.nilIface, .bool false]
theorem instV_some {n : Int} {i o : Bool} {s : Nat} (h : Bk.stOf n i o = some s) : instV n i o = .tuple #[stV s, .bool true] := by unfold instV; rw [h]
theorem instV_none {n : Int} {i o : Bool} (h : Bk.stOf n i o = none) : instV n i o = .tuple #[.nilIface, .bool false] := by unfold instV; rw [h]
theorem instV_eq {n : Int} {i o : Bool} {s : Nat} (hs : s < 5) (h : Bk.nd s = n ∧ Bk.ins s = i ∧ Bk.off s = o) : instV n i o = .tuple #[stV s, .bool true] := by
  obtain ⟨rfl, rfl, rfl⟩ := h
  exact instV_some (Bk.stOf_st hs)
theorem inst_below {w w2 : World} {o1 o2 : Obj} (h : Below (w.heap.size + 2) ((w.alloc o1).alloc o2) w2) : Below w.heap.size w w2 :=
  (((Below.refl w.heap.size w).alloc (Nat.le_refl _) o1).alloc (by simp) o2).trans (h.mono (by omega))

set_option maxHeartbeats 4000000 in
theorem instrumentOf_any (n : Int) (i o : Bool) (w : World) :
    Calls Try.prog 59 #[bv n i o] w fun e w' => e = .returned (instV n i o) ∧ Below w.heap.size w w' := by
  go_enter Try.func59, Try.ntmps59
  go_wp2_with fail
  go_loopw [20] (fun i' wr => ∃ k : Nat, k ≤ 5 ∧ i' = .int .i64 k ∧ Hid (∀ s, s < k → ¬ (Bk.nd s = n ∧ Bk.ins s = i ∧ Bk.off s = o)) ∧
    Hid (Below (w.heap.size + 2) ((w.alloc (.cells #[.int .i64 n, .bool i, .bool o] 34)).alloc (.cells #[stV 0, stV 1, stV 2, stV 3, stV 4] 64)) wr)) (fun i' _ => 5 - (intOf i').toNat)
  case atStart => exact ⟨0, by omega, rfl, fun s hs => by omega, Below.refl _ _⟩
  case round =>
    obtain ⟨k, hk, rfl, Hk, Hb⟩ := hrel
    have hc0 : wr.cell? ⟨w.heap.size, 0, none⟩ = some (.int .i64 n) := (Hb.out.cell (p := ⟨w.heap.size, 0, none⟩) (show w.heap.size < w.heap.size + 2 by omega)).trans (by simp [go_sem])
    have hc1 : wr.cell? ⟨w.heap.size, 1, none⟩ = some (.bool i) := (Hb.out.cell (p := ⟨w.heap.size, 1, none⟩) (show w.heap.size < w.heap.size + 2 by omega)).trans (by simp [go_sem])
    have hc2 : wr.cell? ⟨w.heap.size, 2, none⟩ = some (.bool o) := (Hb.out.cell (p := ⟨w.heap.size, 2, none⟩) (show w.heap.size < w.heap.size + 2 by omega)).trans (by simp [go_sem])
    have : k = 0 ∨ k = 1 ∨ k = 2 ∨ k = 3 ∨ k = 4 ∨ k = 5 := by omega
    rcases this with h | h | h | h | h | h
    · obtain rfl : k = 0 := by omega
      have hs0 : wr.cell? ⟨w.heap.size + 1, 0, none⟩ = some (.iface 102 (.agg #[])) := (Hb.out.cell (p := ⟨w.heap.size + 1, 0, none⟩) (show w.heap.size + 1 < w.heap.size + 2 by omega)).trans (by simp [go_sem, stV])
      by_cases he : Bk.nd 0 = n ∧ Bk.ins 0 = i ∧ Bk.off 0 = o
      · have HE := Lib.hid he
        have hbe : (Bk.nd 0 == n && (Bk.ins 0 == i && Bk.off 0 == o)) = true := by obtain ⟨h1, h2, h3⟩ := he; simp [h1, h2, h3]
        clear he
        go_wp2_with fail
        go_region_with (first
          | (go_at_call 114; refine (normalB_any _).mono ?_; rintro e w2 ⟨rfl, hb2⟩; have hd0 := (hb2.cell (p := ⟨w.heap.size, 0, none⟩) (block_lt_of_cell hc0)).trans hc0; have hd1 := (hb2.cell (p := ⟨w.heap.size, 1, none⟩) (block_lt_of_cell hc1)).trans hc1; have hd2 := (hb2.cell (p := ⟨w.heap.size, 2, none⟩) (block_lt_of_cell hc2)).trans hc2; have Hb2 := Lib.hid (Hb.out.drew.trans (hb2.mono (show w.heap.size + 2 ≤ wr.drew.heap.size from Nat.le_trans (by simp) Hb.out.size))); clear hb2))
        all_goals go_wp2_with fail
        all_goals go_ret2
        all_goals refine ⟨by rw [instV_eq (s := 0) (by omega) HE.out]; rfl, inst_below Hb2.out⟩
      · have HN := Lib.hid he
        have hbe : (Bk.nd 0 == n && (Bk.ins 0 == i && Bk.off 0 == o)) = false := by
          rw [Bool.eq_false_iff]
          intro h
          simp only [Bool.and_eq_true, beq_iff_eq] at h
          exact he h
        clear he
        go_wp2_with fail
        go_region_with (first
          | (go_at_call 114; refine (normalB_any _).mono ?_; rintro e w2 ⟨rfl, hb2⟩; have hd0 := (hb2.cell (p := ⟨w.heap.size, 0, none⟩) (block_lt_of_cell hc0)).trans hc0; have hd1 := (hb2.cell (p := ⟨w.heap.size, 1, none⟩) (block_lt_of_cell hc1)).trans hc1; have hd2 := (hb2.cell (p := ⟨w.heap.size, 2, none⟩) (block_lt_of_cell hc2)).trans hc2; have Hb2 := Lib.hid (Hb.out.drew.trans (hb2.mono (show w.heap.size + 2 ≤ wr.drew.heap.size from Nat.le_trans (by simp) Hb.out.size))); clear hb2))
        all_goals go_wp2_with fail
        all_goals refine ⟨⟨0 + 1, by omega, rfl, fun s hs => ?_, Hb2.out⟩, by simp [intOf]⟩
        all_goals (by_cases e : s = 0)
        all_goals first | (subst e; exact HN.out) | exact Hk.out s (by omega)
    · obtain rfl : k = 1 := by omega
      have hs0 : wr.cell? ⟨w.heap.size + 1, 1, none⟩ = some (.iface 103 (.agg #[])) := (Hb.out.cell (p := ⟨w.heap.size + 1, 1, none⟩) (show w.heap.size + 1 < w.heap.size + 2 by omega)).trans (by simp [go_sem, stV])
      by_cases he : Bk.nd 1 = n ∧ Bk.ins 1 = i ∧ Bk.off 1 = o
      · have HE := Lib.hid he
        have hbe : (Bk.nd 1 == n && (Bk.ins 1 == i && Bk.off 1 == o)) = true := by obtain ⟨h1, h2, h3⟩ := he; simp [h1, h2, h3]
        clear he
        go_wp2_with fail
        go_region_with (first
          | (go_at_call 115; refine (offeredB_any _).mono ?_; rintro e w2 ⟨rfl, hb2⟩; have hd0 := (hb2.cell (p := ⟨w.heap.size, 0, none⟩) (block_lt_of_cell hc0)).trans hc0; have hd1 := (hb2.cell (p := ⟨w.heap.size, 1, none⟩) (block_lt_of_cell hc1)).trans hc1; have hd2 := (hb2.cell (p := ⟨w.heap.size, 2, none⟩) (block_lt_of_cell hc2)).trans hc2; have Hb2 := Lib.hid (Hb.out.drew.trans (hb2.mono (show w.heap.size + 2 ≤ wr.drew.heap.size from Nat.le_trans (by simp) Hb.out.size))); clear hb2))
        all_goals go_wp2_with fail
        all_goals go_ret2
        all_goals refine ⟨by rw [instV_eq (s := 1) (by omega) HE.out]; rfl, inst_below Hb2.out⟩
      · have HN := Lib.hid he
        have hbe : (Bk.nd 1 == n && (Bk.ins 1 == i && Bk.off 1 == o)) = false := by
          rw [Bool.eq_false_iff]
          intro h
          simp only [Bool.and_eq_true, beq_iff_eq] at h
          exact he h
        clear he
        go_wp2_with fail
        go_region_with (first
          | (go_at_call 115; refine (offeredB_any _).mono ?_; rintro e w2 ⟨rfl, hb2⟩; have hd0 := (hb2.cell (p := ⟨w.heap.size, 0, none⟩) (block_lt_of_cell hc0)).trans hc0; have hd1 := (hb2.cell (p := ⟨w.heap.size, 1, none⟩) (block_lt_of_cell hc1)).trans hc1; have hd2 := (hb2.cell (p := ⟨w.heap.size, 2, none⟩) (block_lt_of_cell hc2)).trans hc2; have Hb2 := Lib.hid (Hb.out.drew.trans (hb2.mono (show w.heap.size + 2 ≤ wr.drew.heap.size from Nat.le_trans (by simp) Hb.out.size))); clear hb2))
        all_goals go_wp2_with fail
        all_goals refine ⟨⟨1 + 1, by omega, rfl, fun s hs => ?_, Hb2.out⟩, by simp [intOf]⟩
        all_goals (by_cases e : s = 1)
        all_goals first | (subst e; exact HN.out) | exact Hk.out s (by omega)
    · obtain rfl : k = 2 := by omega
      have hs0 : wr.cell? ⟨w.heap.size + 1, 2, none⟩ = some (.iface 104 (.agg #[])) := (Hb.out.cell (p := ⟨w.heap.size + 1, 2, none⟩) (show w.heap.size + 1 < w.heap.size + 2 by omega)).trans (by simp [go_sem, stV])
      by_cases he : Bk.nd 2 = n ∧ Bk.ins 2 = i ∧ Bk.off 2 = o
      · have HE := Lib.hid he
        have hbe : (Bk.nd 2 == n && (Bk.ins 2 == i && Bk.off 2 == o)) = true := by obtain ⟨h1, h2, h3⟩ := he; simp [h1, h2, h3]
        clear he
        go_wp2_with fail
        go_region_with (first
          | (go_at_call 116; refine (clearB_any _).mono ?_; rintro e w2 ⟨rfl, hb2⟩; have hd0 := (hb2.cell (p := ⟨w.heap.size, 0, none⟩) (block_lt_of_cell hc0)).trans hc0; have hd1 := (hb2.cell (p := ⟨w.heap.size, 1, none⟩) (block_lt_of_cell hc1)).trans hc1; have hd2 := (hb2.cell (p := ⟨w.heap.size, 2, none⟩) (block_lt_of_cell hc2)).trans hc2; have Hb2 := Lib.hid (Hb.out.drew.trans (hb2.mono (show w.heap.size + 2 ≤ wr.drew.heap.size from Nat.le_trans (by simp) Hb.out.size))); clear hb2))
        all_goals go_wp2_with fail
        all_goals go_ret2
        all_goals refine ⟨by rw [instV_eq (s := 2) (by omega) HE.out]; rfl, inst_below Hb2.out⟩
      · have HN := Lib.hid he
        have hbe : (Bk.nd 2 == n && (Bk.ins 2 == i && Bk.off 2 == o)) = false := by
          rw [Bool.eq_false_iff]
          intro h
          simp only [Bool.and_eq_true, beq_iff_eq] at h
          exact he h
        clear he
        go_wp2_with fail
        go_region_with (first
          | (go_at_call 116; refine (clearB_any _).mono ?_; rintro e w2 ⟨rfl, hb2⟩; have hd0 := (hb2.cell (p := ⟨w.heap.size, 0, none⟩) (block_lt_of_cell hc0)).trans hc0; have hd1 := (hb2.cell (p := ⟨w.heap.size, 1, none⟩) (block_lt_of_cell hc1)).trans hc1; have hd2 := (hb2.cell (p := ⟨w.heap.size, 2, none⟩) (block_lt_of_cell hc2)).trans hc2; have Hb2 := Lib.hid (Hb.out.drew.trans (hb2.mono (show w.heap.size + 2 ≤ wr.drew.heap.size from Nat.le_trans (by simp) Hb.out.size))); clear hb2))
        all_goals go_wp2_with fail
        all_goals refine ⟨⟨2 + 1, by omega, rfl, fun s hs => ?_, Hb2.out⟩, by simp [intOf]⟩
        all_goals (by_cases e : s = 2)
        all_goals first | (subst e; exact HN.out) | exact Hk.out s (by omega)
    · obtain rfl : k = 3 := by omega
      have hs0 : wr.cell? ⟨w.heap.size + 1, 3, none⟩ = some (.iface 105 (.agg #[])) := (Hb.out.cell (p := ⟨w.heap.size + 1, 3, none⟩) (show w.heap.size + 1 < w.heap.size + 2 by omega)).trans (by simp [go_sem, stV])
      by_cases he : Bk.nd 3 = n ∧ Bk.ins 3 = i ∧ Bk.off 3 = o
      · have HE := Lib.hid he
        have hbe : (Bk.nd 3 == n && (Bk.ins 3 == i && Bk.off 3 == o)) = true := by obtain ⟨h1, h2, h3⟩ := he; simp [h1, h2, h3]
        clear he
        go_wp2_with fail
        go_region_with (first
          | (go_at_call 117; refine (insideB_any _).mono ?_; rintro e w2 ⟨rfl, hb2⟩; have hd0 := (hb2.cell (p := ⟨w.heap.size, 0, none⟩) (block_lt_of_cell hc0)).trans hc0; have hd1 := (hb2.cell (p := ⟨w.heap.size, 1, none⟩) (block_lt_of_cell hc1)).trans hc1; have hd2 := (hb2.cell (p := ⟨w.heap.size, 2, none⟩) (block_lt_of_cell hc2)).trans hc2; have Hb2 := Lib.hid (Hb.out.drew.trans (hb2.mono (show w.heap.size + 2 ≤ wr.drew.heap.size from Nat.le_trans (by simp) Hb.out.size))); clear hb2))
        all_goals go_wp2_with fail
        all_goals go_ret2
        all_goals refine ⟨by rw [instV_eq (s := 3) (by omega) HE.out]; rfl, inst_below Hb2.out⟩
      · have HN := Lib.hid he
        have hbe : (Bk.nd 3 == n && (Bk.ins 3 == i && Bk.off 3 == o)) = false := by
          rw [Bool.eq_false_iff]
          intro h
          simp only [Bool.and_eq_true, beq_iff_eq] at h
          exact he h
        clear he
        go_wp2_with fail
        go_region_with (first
          | (go_at_call 117; refine (insideB_any _).mono ?_; rintro e w2 ⟨rfl, hb2⟩; have hd0 := (hb2.cell (p := ⟨w.heap.size, 0, none⟩) (block_lt_of_cell hc0)).trans hc0; have hd1 := (hb2.cell (p := ⟨w.heap.size, 1, none⟩) (block_lt_of_cell hc1)).trans hc1; have hd2 := (hb2.cell (p := ⟨w.heap.size, 2, none⟩) (block_lt_of_cell hc2)).trans hc2; have Hb2 := Lib.hid (Hb.out.drew.trans (hb2.mono (show w.heap.size + 2 ≤ wr.drew.heap.size from Nat.le_trans (by simp) Hb.out.size))); clear hb2))
        all_goals go_wp2_with fail
        all_goals refine ⟨⟨3 + 1, by omega, rfl, fun s hs => ?_, Hb2.out⟩, by simp [intOf]⟩
        all_goals (by_cases e : s = 3)
        all_goals first | (subst e; exact HN.out) | exact Hk.out s (by omega)
    · obtain rfl : k = 4 := by omega
      have hs0 : wr.cell? ⟨w.heap.size + 1, 4, none⟩ = some (.iface 106 (.agg #[])) := (Hb.out.cell (p := ⟨w.heap.size + 1, 4, none⟩) (show w.heap.size + 1 < w.heap.size + 2 by omega)).trans (by simp [go_sem, stV])
      by_cases he : Bk.nd 4 = n ∧ Bk.ins 4 = i ∧ Bk.off 4 = o
      · have HE := Lib.hid he
        have hbe : (Bk.nd 4 == n && (Bk.ins 4 == i && Bk.off 4 == o)) = true := by obtain ⟨h1, h2, h3⟩ := he; simp [h1, h2, h3]
        clear he
        go_wp2_with fail
        go_region_with (first
          | (go_at_call 118; refine (passedB_any _).mono ?_; rintro e w2 ⟨rfl, hb2⟩; have hd0 := (hb2.cell (p := ⟨w.heap.size, 0, none⟩) (block_lt_of_cell hc0)).trans hc0; have hd1 := (hb2.cell (p := ⟨w.heap.size, 1, none⟩) (block_lt_of_cell hc1)).trans hc1; have hd2 := (hb2.cell (p := ⟨w.heap.size, 2, none⟩) (block_lt_of_cell hc2)).trans hc2; have Hb2 := Lib.hid (Hb.out.drew.trans (hb2.mono (show w.heap.size + 2 ≤ wr.drew.heap.size from Nat.le_trans (by simp) Hb.out.size))); clear hb2))
        all_goals go_wp2_with fail
        all_goals go_ret2
        all_goals refine ⟨by rw [instV_eq (s := 4) (by omega) HE.out]; rfl, inst_below Hb2.out⟩
      · have HN := Lib.hid he
        have hbe : (Bk.nd 4 == n && (Bk.ins 4 == i && Bk.off 4 == o)) = false := by
          rw [Bool.eq_false_iff]
          intro h
          simp only [Bool.and_eq_true, beq_iff_eq] at h
          exact he h
        clear he
        go_wp2_with fail
        go_region_with (first
          | (go_at_call 118; refine (passedB_any _).mono ?_; rintro e w2 ⟨rfl, hb2⟩; have hd0 := (hb2.cell (p := ⟨w.heap.size, 0, none⟩) (block_lt_of_cell hc0)).trans hc0; have hd1 := (hb2.cell (p := ⟨w.heap.size, 1, none⟩) (block_lt_of_cell hc1)).trans hc1; have hd2 := (hb2.cell (p := ⟨w.heap.size, 2, none⟩) (block_lt_of_cell hc2)).trans hc2; have Hb2 := Lib.hid (Hb.out.drew.trans (hb2.mono (show w.heap.size + 2 ≤ wr.drew.heap.size from Nat.le_trans (by simp) Hb.out.size))); clear hb2))
        all_goals go_wp2_with fail
        all_goals refine ⟨⟨4 + 1, by omega, rfl, fun s hs => ?_, Hb2.out⟩, by simp [intOf]⟩
        all_goals (by_cases e : s = 4)
        all_goals first | (subst e; exact HN.out) | exact Hk.out s (by omega)
    · obtain rfl : k = 5 := by omega
      have HNO : Hid (Bk.stOf n i o = none) := by
        unfold Hid
        cases e : Bk.stOf n i o with
        | none => rfl
        | some s => exact absurd (Bk.stOf_lt e).2 (Hk.out s (Bk.stOf_lt e).1)
      go_wp2_with fail
      go_ret2
      exact ⟨by rw [instV_none HNO.out]; rfl, inst_below Hb.out⟩
end Go.Proofs.Ytlneedjhdnjnpaa
