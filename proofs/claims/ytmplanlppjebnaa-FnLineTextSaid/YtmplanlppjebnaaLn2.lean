/-
  Contracts of the laws' helpers markBlockS and heldBlockS, from the number 1 on.
  Conditions: a row of the call's own, of at most 2^20 blocks.
-/
import Derived.Test.YtmplanlppjebnaaLn1
namespace Go.Proofs.Ytmplanlppjebnaa
open Go.RowKit
set_option linter.unusedVariables false
set_option linter.unusedSimpArgs false
attribute [local go_sem ↓] Go.wp_at_zero Go.wp_at_succ

/-- The marks of n blocks, from the number 1 on. -/
def mkb (n : Nat) : List B3 := (List.range n).map fun i => (((1 + 3 * i : Nat) : Int), false, true)
theorem mkb_len (n : Nat) : (mkb n).length = n := by simp [mkb]
theorem mkb_at {n k : Nat} (h : k < n) : (mkb n)[k]? = some (((1 + 3 * k : Nat) : Int), false, true) := by simp [mkb, h]
theorem mkb_set {n k : Nat} {xs : List B3} (hx : xs.length = n) (hk : k < n) : (mkb k ++ xs.drop k).set k (((1 + 3 * k : Nat) : Int), false, true) = mkb (k + 1) ++ xs.drop (k + 1) := by
  rw [List.set_append_right _ _ (by rw [mkb_len]; exact Nat.le_refl _), mkb_len, Nat.sub_self]
  have e : xs.drop k = xs[k]'(by omega) :: xs.drop (k + 1) := List.drop_eq_getElem_cons (by omega)
  rw [e, List.set_cons_zero]
  unfold mkb
  rw [List.range_succ, List.map_append]
  simp
theorem own_put3 {w : World} {base : Nat} {e : TypeId} {g n c k : Nat} {xs : List B3} (h : w.ownsRow base e 3 (.slice (some ⟨g, 0, none⟩) n c) n (flat3 xs)) (p : B3) :
    (((w.setCell ⟨g, k * 3, none⟩ (.int .i64 p.1)).setCell ⟨g, k * 3 + 1, none⟩ (.bool p.2.1)).setCell ⟨g, k * 3 + 2, none⟩ (.bool p.2.2)).ownsRow base e 3 (.slice (some ⟨g, 0, none⟩) n c) n (flat3 (xs.set k p)) := by
  have h1 := (((h.stored (k * 3) (.int .i64 p.1)).1.stored (k * 3 + 1) (.bool p.2.1)).1.stored (k * 3 + 2) (.bool p.2.2)).1
  rw [flat3_set] at h1
  exact h1
theorem gw3 (w : World) (g k : Nat) (u v t : Value) : w.grownBy (((w.setCell ⟨g, k * 3, none⟩ u).setCell ⟨g, k * 3 + 1, none⟩ v).setCell ⟨g, k * 3 + 2, none⟩ t) (some g) :=
  ⟨rfl, rfl, rfl, by simp, fun i _ hi => by
    have hne : i ≠ g := fun e => hi (by rw [e])
    exact (heap_setCell_other _ ⟨g, k * 3 + 2, none⟩ i _ hne).trans ((heap_setCell_other _ ⟨g, k * 3 + 1, none⟩ i _ hne).trans (heap_setCell_other _ ⟨g, k * 3, none⟩ i _ hne))⟩
set_option maxRecDepth 100000 in
set_option maxHeartbeats 4000000 in
theorem markBlockS_any (base g n c : Nat) (xs : List B3) (w : World) (ho : w.ownsRow base 82 3 (.slice (some ⟨g, 0, none⟩) n c) n (flat3 xs)) (hn : n ≤ 1048576) :
    Calls Try.prog 40 #[.slice (some ⟨g, 0, none⟩) n c, .int .i64 1] w fun e w' => e = .returned (.int .i64 (1 + 3 * (n : Int))) ∧ w'.ownsRow base 82 3 (.slice (some ⟨g, 0, none⟩) n c) n (flat3 (mkb n)) ∧ w.grownBy w' (some g) := by
  have hxl : xs.length = n := by have := ho.1; rw [flat3_len] at this; omega
  have HXL := Lib.hid hxl
  have HO := Lib.hid ho
  clear ho hxl
  go_enter Try.func40, Try.ntmps40
  go_wp2_with fail
  go_loopw [1, 5] (fun v i wr => ∃ k K : Nat, k ≤ n ∧ i = .int .i64 k ∧ v = .int .i64 K ∧ Hid (K = 1 + 3 * k) ∧ Hid (wr.ownsRow base 82 3 (.slice (some ⟨g, 0, none⟩) n c) n (flat3 (mkb k ++ xs.drop k))) ∧ Hid (w.grownBy wr (some g))) (fun _ i _ => n - (intOf i).toNat)
  case atStart => exact ⟨0, 1, Nat.zero_le _, rfl, by go_num, rfl, by simpa [Hid, mkb] using HO.out, World.grownBy.refl _ _⟩
  case round =>
    clear HO
    obtain ⟨k, K, hk, rfl, rfl, HK, Ho, Hg⟩ := hrel
    by_cases hlt : k < n
    · have hlen : (mkb k ++ xs.drop k).length = n := by rw [List.length_append, mkb_len, List.length_drop, HXL.out]; omega
      obtain ⟨p, hp⟩ : ∃ p, (mkb k ++ xs.drop k)[k]? = some p := ⟨_, List.getElem?_eq_getElem (by omega)⟩
      obtain ⟨c0, c1, c2, f0, f1, f2⟩ := own_at3 Ho.out hp
      have hK2 : K ≤ 3145729 := by have := HK.out; omega
      have r1 : (((K : Int) + 1) % 3 == 0) = false := by have := HK.out; simp; omega
      have r2 : (((K : Int) + 1 + 1) % 3 == 0) = true := by have := HK.out; simp; omega
      have r3 : (((K : Int) + 1).tmod 3 == 0) = false := by rw [Int.tmod_eq_emod_of_nonneg (by omega)]; exact r1
      have r4 : (((K : Int) + 1 + 1).tmod 3 == 0) = true := by rw [Int.tmod_eq_emod_of_nonneg (by omega)]; exact r2
      have w1 : IntKind.i64.wrap ((K : Int) + 1) = (K : Int) + 1 := IntWalk.i64_in _ (by omega)
      have w2 : IntKind.i64.wrap ((K : Int) + 1 + 1) = (K : Int) + 1 + 1 := IntWalk.i64_in _ (by omega)
      have w3 : IntKind.i64.wrap ((K : Int) + 1 + 1 + 1) = (K : Int) + 1 + 1 + 1 := IntWalk.i64_in _ (by omega)
      clear hp hlen
      go_wp2_with fail
      go_roundw
      case rel =>
        refine ⟨k + 1, K + 1 + 1 + 1, by omega, by go_num, by go_num, by unfold Hid; rw [HK.out]; omega, ?_, ?_⟩
        · have h1 := own_put3 (k := k) Ho.out ((K : Int), false, true)
          rw [HK.out, mkb_set HXL.out hlt] at h1
          rw [HK.out]
          exact h1
        · have a1 := Hg.out; have a2 := gw3 wr g k (.int .i64 K) (.bool false) (.bool true)
          exact ⟨a2.os.trans a1.os, a2.tape.trans a1.tape, a2.output.trans a1.output, Nat.le_trans a1.size a2.size, fun i hi hne => (a2.block i (Nat.lt_of_lt_of_le hi a1.size) hne).trans (a1.block i hi hne)⟩
      case measure => simp [intOf]; omega
    · obtain rfl : k = n := by omega
      have HF : Hid (wr.ownsRow base 82 3 (.slice (some ⟨g, 0, none⟩) k c) k (flat3 (mkb k))) := by
        have h1 := Ho.out
        rw [List.drop_of_length_le (by rw [HXL.out]; exact Nat.le_refl _), List.append_nil] at h1
        exact h1
      go_wp2_with fail
      go_ret
      exact ⟨ret_int (by rw [HK.out]; omega), HF.out, Hg.out⟩
set_option maxRecDepth 100000 in
set_option maxHeartbeats 4000000 in
theorem heldBlockS_any (base g n c : Nat) (w : World) (ho : w.ownsRow base 82 3 (.slice (some ⟨g, 0, none⟩) n c) n (flat3 (mkb n))) (hn : n ≤ 1048576) :
    Calls Try.prog 42 #[.slice (some ⟨g, 0, none⟩) n c, .int .i64 1] w fun e w' => e = .returned (.int .i64 (1 + 3 * (n : Int))) ∧ w = w' := by
  have HO := Lib.hid ho
  clear ho
  go_enter Try.func42, Try.ntmps42
  go_wp2_with fail
  go_loop [1, 5] (fun v i => ∃ k K : Nat, k ≤ n ∧ i = .int .i64 k ∧ v = .int .i64 K ∧ Hid (K = 1 + 3 * k)) (fun _ i => n - (intOf i).toNat)
  case atStart => exact ⟨0, 1, Nat.zero_le _, rfl, by go_num, rfl⟩
  case round =>
    obtain ⟨k, K, hk, rfl, rfl, HK⟩ := hrel
    by_cases hlt : k < n
    · have hp := mkb_at hlt
      rw [← HK.out] at hp
      obtain ⟨c0, c1, c2, _, _, _⟩ := own_at3 HO.out hp
      have hK2 : K ≤ 3145729 := by have := HK.out; omega
      have r1 : (((K : Int) + 1) % 3 == 0) = false := by have := HK.out; simp; omega
      have r2 : (((K : Int) + 1 + 1) % 3 == 0) = true := by have := HK.out; simp; omega
      have r3 : (((K : Int) + 1).tmod 3 == 0) = false := by rw [Int.tmod_eq_emod_of_nonneg (by omega)]; exact r1
      have r4 : (((K : Int) + 1 + 1).tmod 3 == 0) = true := by rw [Int.tmod_eq_emod_of_nonneg (by omega)]; exact r2
      have w1 : IntKind.i64.wrap ((K : Int) + 1) = (K : Int) + 1 := IntWalk.i64_in _ (by omega)
      have w2 : IntKind.i64.wrap ((K : Int) + 1 + 1) = (K : Int) + 1 + 1 := IntWalk.i64_in _ (by omega)
      have w3 : IntKind.i64.wrap ((K : Int) + 1 + 1 + 1) = (K : Int) + 1 + 1 + 1 := IntWalk.i64_in _ (by omega)
      clear hp
      go_wp2_with fail
      go_round
      case rel => exact ⟨k + 1, K + 1 + 1 + 1, by omega, by go_num, by go_num, by unfold Hid; rw [HK.out]; omega⟩
      case measure => simp [intOf]; omega
    · obtain rfl : k = n := by omega
      go_wp2_with fail
      go_ret
      exact ⟨ret_int (by rw [HK.out]; omega), rfl⟩
end Go.Proofs.Ytmplanlppjebnaa
