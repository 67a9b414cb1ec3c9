/-
  Contract: BlockStep of the reference; the walk of the law FnExactBlockStep.
  Conditions: none.
-/
import Derived.Test.YtlneedjhdnjnpaaBlk6
namespace Go.Proofs.Ytlneedjhdnjnpaa
open Go.RowKit
set_option linter.unusedVariables false
attribute [local go_sem ↓] Go.wp_at_zero Go.wp_at_succ run_eql_block run_neq_block

/-- The box of a parameter in a later world. -/
theorem box_facts {w w1 : World} {o2 : Obj} {t : TypeId} {v0 v1 v2 : Value} (hb : Below (w.heap.size + 1 + 1) ((w.alloc (.cells #[v0, v1, v2] t)).alloc o2) w1) :
    w1.cell? ⟨w.heap.size, 0, none⟩ = some v0 ∧ w1.cell? ⟨w.heap.size, 1, none⟩ = some v1 ∧ w1.cell? ⟨w.heap.size, 2, none⟩ = some v2 := by
  refine ⟨?_, ?_, ?_⟩
  · exact (hb.cell (p := ⟨w.heap.size, 0, none⟩) (show w.heap.size < _ by omega)).trans (by simp [go_sem])
  · exact (hb.cell (p := ⟨w.heap.size, 1, none⟩) (show w.heap.size < _ by omega)).trans (by simp [go_sem])
  · exact (hb.cell (p := ⟨w.heap.size, 2, none⟩) (show w.heap.size < _ by omega)).trans (by simp [go_sem])

/-- The room for a result behind a draw and a call. -/
theorem room_later {w1 w3 : World} {B : Nat} {v0 v1 v2 : Value}
    (h : w1.cell? ⟨B, 0, none⟩ = some v0 ∧ w1.cell? ⟨B, 1, none⟩ = some v1 ∧ w1.cell? ⟨B, 2, none⟩ = some v2 ∧ w1.frozen? ⟨B, 0, none⟩ = false ∧ w1.frozen? ⟨B, 1, none⟩ = false ∧ w1.frozen? ⟨B, 2, none⟩ = false)
    (hb3 : Below w1.heap.size w1 w3) :
    w3.cell? ⟨B, 0, none⟩ = some v0 ∧ w3.cell? ⟨B, 1, none⟩ = some v1 ∧ w3.cell? ⟨B, 2, none⟩ = some v2 ∧ w3.frozen? ⟨B, 0, none⟩ = false ∧ w3.frozen? ⟨B, 1, none⟩ = false ∧ w3.frozen? ⟨B, 2, none⟩ = false := by
  obtain ⟨r0, r1, r2, f0, f1, f2⟩ := h
  exact ⟨(hb3.cell (block_lt_of_cell r0)).trans r0, (hb3.cell (block_lt_of_cell r1)).trans r1, (hb3.cell (block_lt_of_cell r2)).trans r2, (hb3.frozen (block_lt_of_cell r0)).trans f0, (hb3.frozen (block_lt_of_cell r1)).trans f1, (hb3.frozen (block_lt_of_cell r2)).trans f2⟩
theorem resV_form (r : Option Nat) : ∃ rn ri ro rk, resV r = .tuple #[bv rn ri ro, .bool rk] := by
  cases r with
  | none => exact ⟨_, _, _, _, rfl⟩
  | some t => exact ⟨_, _, _, _, rfl⟩
set_option maxHeartbeats 4000000 in
theorem specBlockStep_any (n : Int) (i o : Bool) (s : ByteArray) (w : World) (hsz : s.size ≤ maxLen) :
    Calls Try.prog 35 #[bv n i o, .string s] w fun e w' => e = .returned (resV (Bk.stepR n i o s.toList)) ∧ Below w.heap.size w w' := by
  unfold maxLen at hsz
  cases hst : Bk.stOf n i o with
  | none =>
    have HP : Hid (Bk.possible n i o = false) := by unfold Hid Bk.possible; rw [hst]; rfl
    have HR : Hid (resV (Bk.stepR n i o s.toList) = .tuple #[bv 0 false false, .bool false]) := by unfold Hid; rw [Bk.stepR_none hst]; rfl
    clear hst
    go_enter Try.func35, Try.ntmps35
    go_wp2_with fail
    refine (specBlockPossible_any _ _ _ _).mono ?_
    rintro e w1 ⟨rfl, hb1⟩
    simp only [World.size_alloc] at hb1
    obtain ⟨r0, r1, r2, f0, f1, f2⟩ := room_facts hb1
    have Hbw := Lib.hid (below_box2 hb1)
    clear hb1
    rw [HP.out]
    go_wp2_with fail
    refine bodyPost_ret (v := .tuple #[bv 0 false false, .bool false]) (by simp [results, Try.results35, go_sem, r0, r1, r2]) rfl ?_
    refine ⟨by rw [HR.out], ?_⟩
    have hb4 := Hbw.out
    go_grown
  | some q =>
    have HP : Hid (Bk.possible n i o = true) := by unfold Hid Bk.possible; rw [hst]; rfl
    by_cases h1 : s.size = 1
    · have hone := str_one s h1
      have hs1 : 0 < s.size := by omega
      have HR : Hid (Bk.stepR n i o s.toList = Bk.step q (s[0]'hs1).toNat) := by unfold Hid; rw [hone, Bk.stepR_some hst]
      have hb1s : ((s.size : Int) != 1) = false := by simp; omega
      have hs2 : s.size ≤ 1 := by omega
      have hbt : (s[0]'hs1).toNat < 256 := (s[0]'hs1).toNat_lt
      have hq5 : q < 5 := (Bk.stOf_lt hst).1
      obtain ⟨en, ei, eo⟩ := (Bk.stOf_lt hst).2
      clear hone h1 hst
      subst en ei eo
      go_enter Try.func35, Try.ntmps35
      go_wp2_with fail
      refine (specBlockPossible_any _ _ _ _).mono ?_
      rintro e w1 ⟨rfl, hb1⟩
      simp only [World.size_alloc] at hb1
      obtain ⟨r0, r1, r2, f0, f1, f2⟩ := room_facts hb1
      obtain ⟨b0, b1, b2⟩ := box_facts hb1
      have Hbw := Lib.hid (below_box2 hb1)
      clear hb1
      rw [HP.out]
      obtain ⟨rn, ri, ro, rk, hres⟩ := resV_form (Bk.step q (s[0]'hs1).toNat)
      have HV : Hid (resV (Bk.stepR (Bk.nd q) (Bk.ins q) (Bk.off q) s.toList) = .tuple #[bv rn ri ro, .bool rk]) := by unfold Hid; rw [HR.out, hres]
      have HRes := Lib.hid hres
      clear hres
      go_wp2_with fail
      have HRm : Hid (w1.drew.cell? ⟨w.heap.size + 1, 0, none⟩ = some _ ∧ w1.drew.cell? ⟨w.heap.size + 1, 1, none⟩ = some _ ∧ w1.drew.cell? ⟨w.heap.size + 1, 2, none⟩ = some _ ∧ w1.drew.frozen? ⟨w.heap.size + 1, 0, none⟩ = false ∧ w1.drew.frozen? ⟨w.heap.size + 1, 1, none⟩ = false ∧ w1.drew.frozen? ⟨w.heap.size + 1, 2, none⟩ = false) := ⟨r0, r1, r2, f0, f1, f2⟩
      have Hbd : Hid (Below w.heap.size w w1.drew) := Hbw.out.drew
      clear r0 r1 r2 f0 f1 f2
      go_region_with (first | (go_at_call 67; refine (l3Step_any q _ _ (by omega) (by assumption)).mono ?_; rintro e w3 ⟨rfl, hb3⟩; rw [HRes.out]; obtain ⟨q0, q1, q2, g0, g1, g2⟩ := room_later HRm.out hb3; have Hb4 := Lib.hid (below_seq Hbd.out hb3); clear hb3 b0 b1 b2))
      all_goals go_wp2_with fail
      all_goals refine bodyPost_ret (v := .tuple #[bv rn ri ro, .bool rk]) (by simp [results, Try.results35, go_sem, q0, q1, q2]) rfl ?_
      all_goals refine ⟨by rw [HV.out], ?_⟩
      all_goals have hb4 := Hb4.out
      all_goals go_grown
    · have HR : Hid (resV (Bk.stepR n i o s.toList) = .tuple #[bv 0 false false, .bool false]) := by unfold Hid; rw [Bk.stepR_len (by rw [str_len']; exact h1)]; rfl
      have hb1s : ((s.size : Int) != 1) = true := by simp; omega
      clear h1 hst
      go_enter Try.func35, Try.ntmps35
      go_wp2_with fail
      refine (specBlockPossible_any _ _ _ _).mono ?_
      rintro e w1 ⟨rfl, hb1⟩
      simp only [World.size_alloc] at hb1
      obtain ⟨r0, r1, r2, f0, f1, f2⟩ := room_facts hb1
      have Hbw := Lib.hid (below_box2 hb1)
      clear hb1
      rw [HP.out]
      go_wp2_with fail
      refine bodyPost_ret (v := .tuple #[bv 0 false false, .bool false]) (by simp [results, Try.results35, go_sem, r0, r1, r2]) rfl ?_
      refine ⟨by rw [HR.out], ?_⟩
      have hb4 := Hbw.out
      go_grown
end Go.Proofs.Ytlneedjhdnjnpaa
