/-
  Contract: BlockNext of the reference.
  Conditions: none.
-/
import Derived.Test.YtlneedjhdnjnpaaBlkA
import Derived.IntWalk
namespace Go.Proofs.Ytlneedjhdnjnpaa
open Go.RowKit
set_option linter.unusedVariables false
attribute [local go_sem ↓] Go.wp_at_zero Go.wp_at_succ run_eql_block run_neq_block

namespace Bk
/-- The letters of all events. -/
def ev : List UInt8 := [97, 99, 101, 102, 108, 111, 114]
/-- Those of the first k letters that can be done. -/
def nx (n : Int) (i o : Bool) (k : Nat) : List UInt8 := (ev.take k).filter fun c => (stepR n i o [c]).isSome
/-- What BlockNext returns. -/
def next (n : Int) (i o : Bool) : List UInt8 := nx n i o 7
theorem ev_at {k : Nat} (h : k < 7) : ∃ c, ev[k]? = some c := ⟨ev[k]'h, List.getElem?_eq_getElem _⟩
theorem nx_zero (n : Int) (i o : Bool) : nx n i o 0 = [] := rfl
theorem nx_yes {n : Int} {i o : Bool} {k : Nat} {c : UInt8} (hc : ev[k]? = some c) (h : (stepR n i o [c]).isSome = true) : nx n i o (k + 1) = nx n i o k ++ [c] := by
  obtain ⟨hk, rfl⟩ := List.getElem?_eq_some_iff.1 hc
  unfold nx
  rw [List.take_succ_eq_append_getElem hk, List.filter_append]
  simp [h]
theorem nx_no {n : Int} {i o : Bool} {k : Nat} {c : UInt8} (hc : ev[k]? = some c) (h : (stepR n i o [c]).isSome = false) : nx n i o (k + 1) = nx n i o k := by
  obtain ⟨hk, rfl⟩ := List.getElem?_eq_some_iff.1 hc
  unfold nx
  rw [List.take_succ_eq_append_getElem hk, List.filter_append]
  simp [h]
theorem nx_len (n : Int) (i o : Bool) (k : Nat) : (nx n i o k).length ≤ 7 := by
  unfold nx
  have h1 := List.length_filter_le (fun c => (stepR n i o [c]).isSome) (ev.take k)
  have h2 : (ev.take k).length ≤ 7 := by rw [List.length_take]; exact Nat.min_le_right _ _
  omega
end Bk
/-- A list of bytes as a string. -/
def mkS (l : List UInt8) : ByteArray := ⟨l.toArray⟩
theorem mkS_toList (l : List UInt8) : (mkS l).toList = l := by rw [ByteArray.toList_eq]; simp [mkS]
theorem mkS_size (l : List UInt8) : (mkS l).size = l.length := by simp [mkS, ByteArray.size]
theorem mkS_eq {s : ByteArray} {l : List UInt8} (h : s.toList = l) : s = mkS l := by
  rw [ByteArray.toList_eq] at h
  unfold mkS
  rw [← h]
theorem extract_one (s : ByteArray) (k : Nat) (h : k < s.size) : (s.extract k (k + 1)).toList = [s[k]] := by
  rw [ByteArray.toList_eq]
  have : (s.extract k (k + 1)).data = #[s[k]] := by
    rw [ByteArray.data_extract]
    apply Array.ext
    · simp; have : k < s.data.size := h; omega
    · intro i h1 h2
      simp at h2
      subst h2
      simp
      rfl
  rw [this]
theorem append_toList (a b : ByteArray) : (a ++ b).toList = a.toList ++ b.toList := by
  rw [ByteArray.toList_eq, ByteArray.toList_eq, ByteArray.toList_eq, ByteArray.data_append, Array.toList_append]
/-- The letters of all events as the text has them. -/
abbrev evS : ByteArray := ⟨#[97, 99, 101, 102, 108, 111, 114]⟩
theorem evS_one {k : Nat} (h : k < 7) {c : UInt8} (hc : Bk.ev[k]? = some c) : (evS.extract k (k + 1)).toList = [c] := by
  rw [extract_one evS k (by exact h)]
  have : k = 0 ∨ k = 1 ∨ k = 2 ∨ k = 3 ∨ k = 4 ∨ k = 5 ∨ k = 6 := by omega
  rcases this with rfl | rfl | rfl | rfl | rfl | rfl | rfl <;> (injection hc with hc; subst hc; rfl)
set_option maxHeartbeats 4000000 in
theorem specBlockNext_any (n : Int) (i o : Bool) (w : World) :
    Calls Try.prog 31 #[bv n i o] w fun e w' => e = .returned (.string (mkS (Bk.next n i o))) ∧ Below w.heap.size w w' := by
  go_enter Try.func31, Try.ntmps31
  go_wp2_with fail
  go_loopw [4, 5] (fun v j wr => ∃ k : Nat, k ≤ 7 ∧ j = .int .i64 k ∧ v = .string (mkS (Bk.nx n i o k)) ∧ Hid (Room wr w.heap.size (.int .i64 n) (.bool i) (.bool o)) ∧ Hid (Below w.heap.size w wr)) (fun _ j _ => 7 - (intOf j).toNat)
  case atStart => exact ⟨0, by omega, rfl, rfl, ⟨by simp [go_sem], by simp [go_sem], by simp [go_sem], by simp [go_sem], by simp [go_sem], by simp [go_sem]⟩, by unfold Hid; go_grown⟩
  case round =>
    obtain ⟨k, hk, rfl, rfl, HBx, Hbw⟩ := hrel
    by_cases hlt : k < 7
    · obtain ⟨c, hc⟩ := Bk.ev_at hlt
      have HC := Lib.hid hc
      have HX := Lib.hid (evS_one hlt hc)
      clear hc
      obtain ⟨b0, b1, b2, _, _, _⟩ := HBx.out
      have hlt2 : w.heap.size < wr.heap.size := HBx.out.lt
      have hne2 : ¬ w.heap.size = wr.heap.size := by omega
      have e0 : ∀ o', (wr.drew.alloc o').cell? ⟨w.heap.size, 0, none⟩ = some (.int .i64 n) := fun o' => (HBx.out.drew.alloc o').1
      have e1 : ∀ o', (wr.drew.alloc o').cell? ⟨w.heap.size, 1, none⟩ = some (.bool i) := fun o' => (HBx.out.drew.alloc o').2.1
      have e2 : ∀ o', (wr.drew.alloc o').cell? ⟨w.heap.size, 2, none⟩ = some (.bool o) := fun o' => (HBx.out.drew.alloc o').2.2.1
      have HXL : Hid ((evS.extract k (k + 1)).size ≤ maxLen) := by unfold Hid; rw [← str_len', HX.out]; simp [maxLen]
      cases hst2 : Bk.stepR n i o [c] with
      | none =>
        have HRes : Hid (resV (Bk.stepR n i o (evS.extract k (k + 1)).toList) = .tuple #[bv 0 false false, .bool false]) := by unfold Hid; rw [HX.out, hst2]; rfl
        have HN2 : Hid (Bk.nx n i o (k + 1) = Bk.nx n i o k) := Bk.nx_no HC.out (by rw [hst2]; rfl)
        clear hst2
        have k0 : (0 : Int) ≤ (k : Int) + 1 := by omega
        have k1 : ((k : Int) + 1).toNat = k + 1 := by omega
        have k2 : (k : Int) + 1 ≤ 7 := by omega
        have w1 : IntKind.i64.wrap ((k : Int) + 1) = (k : Int) + 1 := IntWalk.i64_in _ (by omega)
        go_wp2_with fail
        go_region_with (first | (go_at_call 35; refine (specBlockStep_any n i o _ _ HXL.out).mono ?_; rintro e w3 ⟨rfl, hb3⟩; rw [HRes.out]; have HBx3 : Hid (Room w3 w.heap.size (.int .i64 n) (.bool i) (.bool o)) := (by first | exact HBx.out.drew.later hb3 | exact (HBx.out.drew.alloc _).later hb3); obtain ⟨x0, x1, x2, y0, y1, y2⟩ := HBx3.out; have hlt5 : w.heap.size < w3.heap.size := HBx3.out.lt; have hne4 : ¬ w.heap.size = w3.heap.size := (by omega); have Hb4 : Hid (Below w.heap.size w w3) := (by first | exact below_seq Hbw.out.drew hb3 | exact below_seq (Hbw.out.drew.alloc (by simp only [World.size_drew]; omega) _) hb3); (try (have HNx : Hid (Room w3 wr.heap.size (.int .i64 0) (.bool false) (.bool false)) := (by exact (room_new _ _ _ _ _).later hb3); obtain ⟨z0, z1, z2, v0, v1, v2⟩ := HNx.out)); clear hb3 b0 b1 b2 e0 e1 e2))
        all_goals clear w1 k1
        all_goals go_wp2_with fail
        all_goals go_round
        all_goals first
          | (simp [intOf]; omega)
          | (refine ⟨k + 1, by omega, by go_num, by rw [HN2.out], ?_, ?_⟩
             · show Room _ _ _ _ _
               first
               | (with_reducible refine Room.alloc ?_ _; with_reducible exact HBx3.out)
               | (with_reducible refine Room.far3 HBx3.out ?_ _ _ _; omega)
             · have hb4 := Hb4.out
               show Below _ _ _
               go_grown)
      | some t =>
        have HRes : Hid (resV (Bk.stepR n i o (evS.extract k (k + 1)).toList) = .tuple #[bv (Bk.nd t) (Bk.ins t) (Bk.off t), .bool true]) := by unfold Hid; rw [HX.out, hst2]; rfl
        have hadd : ∀ W : World, (Op.stringOp .add (mkS (Bk.nx n i o k)) (evS.extract k (k + 1))).run Try.prog W = .ok (.string (mkS (Bk.nx n i o (k + 1)))) W := by
          intro W
          rw [run_string_add_sum W _ _ (by rw [mkS_size, ← str_len', HX.out]; have := Bk.nx_len n i o k; simp; omega)]
          rw [mkS_eq (s := mkS (Bk.nx n i o k) ++ evS.extract k (k + 1)) (l := Bk.nx n i o (k + 1)) (by rw [append_toList, mkS_toList, HX.out, Bk.nx_yes HC.out (by rw [hst2]; rfl)])]
        clear hst2
        have k0 : (0 : Int) ≤ (k : Int) + 1 := by omega
        have k1 : ((k : Int) + 1).toNat = k + 1 := by omega
        have k2 : (k : Int) + 1 ≤ 7 := by omega
        have w1 : IntKind.i64.wrap ((k : Int) + 1) = (k : Int) + 1 := IntWalk.i64_in _ (by omega)
        go_wp2_with fail
        go_region_with (first | (go_at_call 35; refine (specBlockStep_any n i o _ _ HXL.out).mono ?_; rintro e w3 ⟨rfl, hb3⟩; rw [HRes.out]; have HBx3 : Hid (Room w3 w.heap.size (.int .i64 n) (.bool i) (.bool o)) := (by first | exact HBx.out.drew.later hb3 | exact (HBx.out.drew.alloc _).later hb3); obtain ⟨x0, x1, x2, y0, y1, y2⟩ := HBx3.out; have hlt5 : w.heap.size < w3.heap.size := HBx3.out.lt; have hne4 : ¬ w.heap.size = w3.heap.size := (by omega); have Hb4 : Hid (Below w.heap.size w w3) := (by first | exact below_seq Hbw.out.drew hb3 | exact below_seq (Hbw.out.drew.alloc (by simp only [World.size_drew]; omega) _) hb3); (try (have HNx : Hid (Room w3 wr.heap.size (.int .i64 0) (.bool false) (.bool false)) := (by exact (room_new _ _ _ _ _).later hb3); obtain ⟨z0, z1, z2, v0, v1, v2⟩ := HNx.out)); clear hb3 b0 b1 b2 e0 e1 e2))
        all_goals clear w1 k1
        all_goals go_wp2_with fail
        all_goals go_round
        all_goals first
          | (simp [intOf]; omega)
          | (refine ⟨k + 1, by omega, by go_num, rfl, ?_, ?_⟩
             · show Room _ _ _ _ _
               first
               | (with_reducible refine Room.alloc ?_ _; with_reducible exact HBx3.out)
               | (with_reducible refine Room.far3 HBx3.out ?_ _ _ _; omega)
             · have hb4 := Hb4.out
               show Below _ _ _
               go_grown)
    · have hkk : k = 7 := by omega
      subst hkk
      clear hlt
      go_wp2_with fail
      go_ret
      exact ⟨rfl, Hbw.out⟩
end Go.Proofs.Ytlneedjhdnjnpaa
