/-
  Contracts of the laws' helpers markMoveS and heldMoveS, from the number 1 on.
  Conditions: a row of the call's own, of at most 2^20 moves.
-/
import Derived.Test.YtmplanlppjebnaaMv1
namespace Go.Proofs.Ytmplanlppjebnaa
open Go.RowKit
set_option linter.unusedVariables false
attribute [local go_sem ↓] Go.wp_at_zero Go.wp_at_succ

/-- The marks of n moves, from the number 1 on. -/
def mks (n : Nat) : List Mv := (List.range n).map fun i => (((1 + 2 * i : Nat) : Int), mtxt (1 + 2 * i + 1))
theorem mks_len (n : Nat) : (mks n).length = n := by simp [mks]
theorem mks_at {n k : Nat} (h : k < n) : (mks n)[k]? = some (((1 + 2 * k : Nat) : Int), mtxt (1 + 2 * k + 1)) := by simp [mks, h]
theorem mks_set {n k : Nat} {xs : List Mv} (hx : xs.length = n) (hk : k < n) : (mks k ++ xs.drop k).set k (((1 + 2 * k : Nat) : Int), mtxt (1 + 2 * k + 1)) = mks (k + 1) ++ xs.drop (k + 1) := by
  rw [List.set_append_right _ _ (by rw [mks_len]; exact Nat.le_refl _), mks_len, Nat.sub_self]
  have e : xs.drop k = xs[k]'(by omega) :: xs.drop (k + 1) := List.drop_eq_getElem_cons (by omega)
  rw [e, List.set_cons_zero]
  unfold mks
  rw [List.range_succ, List.map_append]
  simp
set_option maxRecDepth 100000 in
set_option maxHeartbeats 4000000 in
theorem markMoveS_any (base g n c : Nat) (xs : List Mv) (w : World) (ho : w.ownsRow base 28 2 (.slice (some ⟨g, 0, none⟩) n c) n (flat xs)) (hn : n ≤ 1048576) :
    Calls Try.prog 22 #[.slice (some ⟨g, 0, none⟩) n c, .int .i64 1] w fun e w' => e = .returned (.int .i64 (1 + 2 * (n : Int))) ∧ w'.ownsRow base 28 2 (.slice (some ⟨g, 0, none⟩) n c) n (flat (mks n)) ∧ w.grownBy w' (some g) := by
  have hxl : xs.length = n := by have := ho.1; rw [flat_len] at this; omega
  have HXL := Lib.hid hxl
  have HO := Lib.hid ho
  clear ho hxl
  go_enter Try.func22, Try.ntmps22
  go_wp2_with fail
  go_loopw [1, 5] (fun v i wr => ∃ k K : Nat, k ≤ n ∧ i = .int .i64 k ∧ v = .int .i64 K ∧ Hid (K = 1 + 2 * k) ∧ Hid (wr.ownsRow base 28 2 (.slice (some ⟨g, 0, none⟩) n c) n (flat (mks k ++ xs.drop k))) ∧ Hid (w.grownBy wr (some g))) (fun _ i _ => n - (intOf i).toNat)
  case atStart => exact ⟨0, 1, Nat.zero_le _, rfl, by go_num, rfl, by simpa [Hid, mks] using HO.out, World.grownBy.refl _ _⟩
  case round =>
    clear HO
    obtain ⟨k, K, hk, rfl, rfl, HK, Ho, Hg⟩ := hrel
    by_cases hlt : k < n
    · have hlen : (mks k ++ xs.drop k).length = n := by rw [List.length_append, mks_len, List.length_drop, HXL.out]; omega
      obtain ⟨p, hp⟩ : ∃ p, (mks k ++ xs.drop k)[k]? = some p := ⟨_, List.getElem?_eq_getElem (by omega)⟩
      obtain ⟨c0, _, f0, _⟩ := own_at2 Ho.out hp
      have hK2 : K ≤ 2097153 := by have := HK.out; omega
      have hK0 : 0 < K := by have := HK.out; omega
      have w1 : IntKind.i64.wrap ((K : Int) + 1) = (K : Int) + 1 := IntWalk.i64_in _ (by omega)
      have w2 : IntKind.i64.wrap ((K : Int) + 1 + 1) = (K : Int) + 1 + 1 := IntWalk.i64_in _ (by omega)
      have HC : ∀ W : World, Calls Try.prog 44 #[.int .i64 ((K : Int) + 1)] W fun e w' => e = .returned (.string (mtxt (K + 1))) ∧ Below W.heap.size W w' := fun W => by
        have := markText_any (K + 1) W (by omega) (by omega)
        rwa [show (((K + 1 : Nat)) : Int) = (K : Int) + 1 by omega] at this
      have HCC := Lib.hid HC
      have HO1 : Hid ((wr.setCell ⟨g, k * 2, none⟩ (.int .i64 K)).ownsRow base 28 2 (.slice (some ⟨g, 0, none⟩) n c) n ((flat (mks k ++ xs.drop k)).set (k * 2) (.int .i64 K)) ∧ wr.grownBy (wr.setCell ⟨g, k * 2, none⟩ (.int .i64 K)) (some g)) := Ho.out.stored (k * 2) (.int .i64 K)
      clear HC hp hlen
      go_wp2_with fail
      refine (HCC.out _).mono ?_
      rintro e w3 ⟨rfl, hb3⟩
      have HO3 := Lib.hid (own_belowAll HO1.out.1 hb3)
      have HG3 : Hid (w.grownBy w3 (some g)) := by
        have a1 := Hg.out; have a2 := HO1.out.2
        exact ⟨hb3.os.trans (a2.os.trans a1.os), hb3.tape.trans (a2.tape.trans a1.tape), hb3.output.trans (a2.output.trans a1.output), Nat.le_trans a1.size (Nat.le_trans a2.size hb3.size), fun i hi hne => (hb3.block i (Nat.lt_of_lt_of_le hi (Nat.le_trans a1.size a2.size))).trans ((a2.block i (Nat.lt_of_lt_of_le hi a1.size) hne).trans (a1.block i hi hne))⟩
      have hst : ∃ u, w3.cell? ⟨g, k * 2 + 1, none⟩ = some u := by
        rw [HO3.out.cellAt (k * 2 + 1) (by omega)]
        exact ⟨_, List.getElem?_eq_getElem (by have := HO3.out.1; omega)⟩
      obtain ⟨u, hst⟩ := hst
      have hfz : w3.frozen? ⟨g, k * 2 + 1, none⟩ = false := HO3.out.frozenAt _
      clear hb3 HO1 c0 f0 HCC Ho Hg
      go_wp2_with fail
      go_roundw
      case rel =>
        refine ⟨k + 1, K + 1 + 1, by omega, by go_num, by go_num, by unfold Hid; rw [HK.out]; omega, ?_, ?_⟩
        · have h1 := (HO3.out.stored (k * 2 + 1) (.string (mtxt (K + 1)))).1
          have h2 := flat_set (xs := mks k ++ xs.drop k) (k := k) ((K : Int), mtxt (K + 1))
          rw [h2, HK.out, mks_set HXL.out hlt] at h1
          rw [HK.out]
          exact h1
        · have a1 := HG3.out; have a2 := (HO3.out.stored (k * 2 + 1) (.string (mtxt (K + 1)))).2
          exact ⟨a2.os.trans a1.os, a2.tape.trans a1.tape, a2.output.trans a1.output, Nat.le_trans a1.size a2.size, fun i hi hne => (a2.block i (Nat.lt_of_lt_of_le hi a1.size) hne).trans (a1.block i hi hne)⟩
      case measure => simp [intOf]; omega
    · obtain rfl : k = n := by omega
      have HF : Hid (wr.ownsRow base 28 2 (.slice (some ⟨g, 0, none⟩) k c) k (flat (mks k))) := by
        have h1 := Ho.out
        rw [List.drop_of_length_le (by rw [HXL.out]; exact Nat.le_refl _), List.append_nil] at h1
        exact h1
      go_wp2_with fail
      go_ret
      exact ⟨ret_int (by rw [HK.out]; omega), HF.out, Hg.out⟩
set_option maxRecDepth 100000 in
set_option maxHeartbeats 4000000 in
theorem heldMoveS_any (A : Option Addr) (n c : Nat) (w : World) (hx : RdV w A n (mks n)) (hn : n ≤ 1048576) :
    Calls Try.prog 23 #[.slice A n c, .int .i64 1] w fun e w' => e = .returned (.int .i64 (1 + 2 * (n : Int))) ∧ Below w.heap.size w w' := by
  have HX := Lib.hid hx
  clear hx
  go_enter Try.func23, Try.ntmps23
  go_wp2_with fail
  go_loopw [1, 5] (fun v i wr => ∃ k K : Nat, k ≤ n ∧ i = .int .i64 k ∧ v = .int .i64 K ∧ Hid (K = 1 + 2 * k) ∧ Hid (Below w.heap.size w wr)) (fun _ i _ => n - (intOf i).toNat)
  case atStart => exact ⟨0, 1, Nat.zero_le _, rfl, by go_num, rfl, Below.refl _ _⟩
  case round =>
    obtain ⟨k, K, hk, rfl, rfl, HK, Hb⟩ := hrel
    by_cases hlt : k < n
    · obtain ⟨b, off, p, rfl, hpk, hd0, hd1⟩ := HX.out.at_ hlt
      rw [mks_at hlt, ← HK.out] at hpk
      have hp := (Option.some.inj hpk).symm
      subst hp
      have c0 : wr.cell? ⟨b, off + k * 2, none⟩ = some (.int .i64 K) := (Hb.out.cell (block_lt_of_cell hd0)).trans hd0
      have c1 : wr.cell? ⟨b, off + k * 2 + 1, none⟩ = some (.string (mtxt (K + 1))) := (Hb.out.cell (block_lt_of_cell hd1)).trans hd1
      have HC1 := Lib.hid c1
      have hK2 : K ≤ 2097153 := by have := HK.out; omega
      have w1 : IntKind.i64.wrap ((K : Int) + 1) = (K : Int) + 1 := IntWalk.i64_in _ (by omega)
      have w2 : IntKind.i64.wrap ((K : Int) + 1 + 1) = (K : Int) + 1 + 1 := IntWalk.i64_in _ (by omega)
      have HC : ∀ W : World, Calls Try.prog 44 #[.int .i64 ((K : Int) + 1)] W fun e w' => e = .returned (.string (mtxt (K + 1))) ∧ Below W.heap.size W w' := fun W => by
        have := markText_any (K + 1) W (by omega) (by omega)
        rwa [show (((K + 1 : Nat)) : Int) = (K : Int) + 1 by omega] at this
      have HCC := Lib.hid HC
      have k0 : (0 : Int) ≤ k := by omega
      have k1 : (k : Int) < n := by omega
      obtain ⟨M, hM⟩ : ∃ M, M = mtxt (K + 1) := ⟨_, rfl⟩
      clear HC hd0 hd1 hpk
      go_wp2_with fail
      go_region_with (first | (go_at_call 44; refine (HCC.out _).mono ?_; rintro e w3 ⟨rfl, hb3⟩; have c3 := (hb3.cell (block_lt_of_cell HC1.out)).trans HC1.out; have Hb3 : Hid (Below w.heap.size w w3) := below_seq (w1 := wr.drew) Hb.out.drew hb3; clear hb3))
      all_goals go_wp2_with fail
      all_goals go_roundw
      all_goals first
        | (simp [intOf]; omega)
        | exact ⟨k + 1, K + 1 + 1, by omega, by go_num, by go_num, by unfold Hid; rw [HK.out]; omega, Hb3⟩
    · obtain rfl : k = n := by omega
      go_wp2_with fail
      go_ret
      exact ⟨ret_int (by rw [HK.out]; omega), Hb.out⟩
end Go.Proofs.Ytmplanlppjebnaa
