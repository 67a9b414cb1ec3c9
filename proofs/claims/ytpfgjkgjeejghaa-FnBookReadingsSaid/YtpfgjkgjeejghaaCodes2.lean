/-
  Contracts over lists of groups: l1Groups, CodeValid, l1Sum, CodeBeats, l1Same (the reference's), beatsOf, codeOf, total, CodeValid, CodeBeats (the program's).
  Conditions: the slices read as lists of integers, of at most 2^40 elements.
-/
import Derived.Test.YtpfgjkgjeejghaaCodes
import Derived.Test.YtpfgjkgjeejghaaFromPlain
import Derived.Test.YtpfgjkgjeejghaaInts
namespace Go.Proofs.Ytpfgjkgjeejghaa
open Go.RowKit
set_option linter.unusedVariables false

theorem Try.infoByte : (Try.prog.info? 5).map (fun i => (i.zero, i.size, i.bytes)) = some (some (.int .u8 0), 1, 1) := by kernel_rfl

namespace Cd
/-- What l1Groups returns. -/
def grpB (zs : List Int) (lo hi : Int) : Bool := zs.all inB && (decide (lo ≤ zs.length) && decide ((zs.length : Int) ≤ hi))
theorem inB_true {z : Int} (h1 : 1 ≤ z) (h2 : z ≤ 6) : inB z = true := (inB_iff z).2 ⟨h1, h2⟩
theorem inB_false {z : Int} (h : ¬ (1 ≤ z ∧ z ≤ 6)) : inB z = false := by
  cases e : inB z
  · rfl
  · exact absurd ((inB_iff z).1 e) h
end Cd

set_option maxHeartbeats 1000000 in
theorem l1Groups_any (A : Option Addr) (n c : Nat) (zs : List Int) (lo hi : Int) (w : World) (hx : RdI w A n zs) (hn : n ≤ 1099511627776) :
    Calls Try.prog 62 #[.slice A n c, .int .i64 lo, .int .i64 hi] w fun e w' => e = .returned (.bool (Cd.grpB zs lo hi)) ∧ w = w' := by
  have HX := Lib.hid hx
  have Hlx := Lib.hid hx.len
  clear hx
  go_enter Try.func62, Try.ntmps62
  go_wp2_with fail
  go_loop [7] (fun i => ∃ k : Nat, k ≤ n ∧ i = .int .i64 k ∧ Hid ((zs.take k).all Cd.inB = true)) (fun i => n - (intOf i).toNat)
  case atStart => exact ⟨0, Nat.zero_le _, rfl, by simp [Hid]⟩
  case round =>
    obtain ⟨k, hk, rfl, Hk⟩ := hrel
    by_cases hlt : k < n
    · obtain ⟨b, off, z, rfl, hzk, hcz⟩ := HX.out.at_ hlt
      have HZ := Lib.hid hzk
      clear hzk
      by_cases hz : 1 ≤ z ∧ z ≤ 6
      · obtain ⟨z1, z6⟩ := hz
        go_wp2_with fail
        refine (l6In_yes _ _ _ _ (by omega) (by omega)).mono ?_
        rintro e w' ⟨rfl, rfl⟩
        go_wp2_with fail
        go_round
        case rel => exact ⟨k + 1, by omega, by go_num, all_take HZ.out Hk.out (Cd.inB_true z1 z6)⟩
        case measure => simp [intOf]; omega
      · have HF := Lib.hid hz
        clear hz
        go_wp2_with fail
        refine (l6In_no _ _ _ _ (by have := HF.out; omega)).mono ?_
        rintro e w' ⟨rfl, rfl⟩
        go_wp2_with fail
        go_ret
        exact ⟨ret_bool (by unfold Cd.grpB; rw [all_false HZ.out (Cd.inB_false HF.out)]; rfl), rfl⟩
    · have hkn : k = n := by omega
      have HA : Hid (zs.all Cd.inB = true) := by
        have := Hk.out
        rw [List.take_of_length_le (by have := Hlx.out; omega)] at this
        exact this
      subst hkn
      clear hlt hk
      by_cases hin : lo ≤ (k : Int) ∧ (k : Int) ≤ hi
      · obtain ⟨i1, i2⟩ := hin
        go_wp2_with fail
        refine (l6In_yes _ _ _ _ (by omega) (by omega)).mono ?_
        rintro e w' ⟨rfl, rfl⟩
        go_wp2_with fail
        go_ret
        exact ⟨ret_bool (by unfold Cd.grpB; rw [HA.out, Hlx.out]; simp [i1, i2]), rfl⟩
      · have HN := Lib.hid hin
        clear hin
        go_wp2_with fail
        refine (l6In_no _ _ _ _ (by have := HN.out; omega)).mono ?_
        rintro e w' ⟨rfl, rfl⟩
        go_wp2_with fail
        go_ret
        refine ⟨ret_bool ?_, rfl⟩
        have := HN.out
        unfold Cd.grpB
        rw [HA.out, Hlx.out]
        symm
        simp
        omega
theorem specCodeValid_any (A : Option Addr) (n c : Nat) (zs : List Int) (w : World) (hx : RdI w A n zs) (hn : n ≤ 1099511627776) :
    Calls Try.prog 56 #[.slice A n c] w fun e w' => e = .returned (.bool (Cd.validB zs)) ∧ w = w' := by
  have HX := Lib.hid hx
  clear hx
  go_enter Try.func56, Try.ntmps56
  go_wp2_with fail
  refine (l1Groups_any _ _ _ zs _ _ _ HX.out hn).mono ?_
  rintro e w' ⟨rfl, rfl⟩
  go_wp2_with fail
  go_ret
  refine ⟨ret_bool ?_, rfl⟩
  unfold Cd.grpB Cd.validB
  congr 2
  · simp; omega
  · simp; omega
namespace Cd
theorem valid_grp {zs : List Int} (h : validB zs = true) : grp zs ∧ 1 ≤ zs.length ∧ zs.length ≤ 5 := by
  simp only [validB, Bool.and_eq_true, decide_eq_true_eq, List.all_eq_true] at h
  exact ⟨fun z hz => (inB_iff z).1 (h.1 z hz), h.2.1, h.2.2⟩
/-- What CodeBeats returns. -/
def beats (zs : List Int) : Int := if validB zs then sum zs else -1
end Cd

theorem beatsOf_long (A : Option Addr) (n c : Nat) (most : Int) (w : World) (hl : most < n) :
    Calls Try.prog 64 #[.slice A n c, .int .i64 most] w fun e w' => e = .returned (.tuple #[.string ⟨#[]⟩, .bool false]) ∧ w = w' := by
  go_enter Try.func64, Try.ntmps64
  go_wp2_with fail
  go_ret2
  exact ⟨rfl, rfl⟩
namespace Cd
/-- What beatsOf returns of a list that is not too long. -/
def groupsV (zs : List Int) : Value := if zs.all inB then .tuple #[.string (bstr zs), .bool true] else .tuple #[.string ⟨#[]⟩, .bool false]
theorem groupsV_yes {zs : List Int} (h : zs.all inB = true) : groupsV zs = .tuple #[.string (bstr zs), .bool true] := by unfold groupsV; rw [if_pos h]
theorem groupsV_no {zs : List Int} (h : zs.all inB = false) : groupsV zs = .tuple #[.string ⟨#[]⟩, .bool false] := by unfold groupsV; rw [if_neg (by simp [h])]
end Cd
set_option maxHeartbeats 1000000 in
theorem beatsOf_any (A : Option Addr) (n c : Nat) (zs : List Int) (most : Int) (w : World) (hx : RdI w A n zs) (hl : (n : Int) ≤ most) (hn : n ≤ 1099511627776) :
    Calls Try.prog 64 #[.slice A n c, .int .i64 most] w fun e w' => e = .returned (Cd.groupsV zs) ∧ Below w.heap.size w w' := by
  have HX := Lib.hid hx
  have Hlx := Lib.hid hx.len
  clear hx
  obtain ⟨i0, hi, hz0, hz1, hz2⟩ := info_parts Try.infoByte
  go_enter Try.func64, Try.ntmps64
  go_wp2_with (at_make; refine wpList_make_own _ rfl _ _ 51 rfl w.heap.size 5 i0 (.int .u8 0) 1 Try.underlying51 hi hz0 hz1 _ _ _ n rfl rfl rfl ?b2 ?b3 ?b4 ?_)
  case b2 => rw [hz2]; omega
  case b3 => unfold maxLen; omega
  case b4 => exact Nat.le_refl _
  intro w1 hown hgrow
  have HO := Lib.hid hown
  have HB := Lib.hid ((Below.refl w.heap.size w).grown hgrow (Nat.le_refl _) (fun k h => by cases h))
  clear hown hgrow
  go_wp2_with fail
  go_loopw [6, 18] (fun v i wr => ∃ k : Nat, k ≤ n ∧ i = .int .i64 k ∧ v = .slice (some ⟨w.heap.size, 0, none⟩) k n ∧ Hid ((zs.take k).all Cd.inB = true) ∧
      Hid (wr.ownsRow w.heap.size 5 1 (.slice (some ⟨w.heap.size, 0, none⟩) k n) k ((zs.take k).map (Value.int .u8))) ∧ Hid (Below w.heap.size w wr)) (fun _ i _ => n - (intOf i).toNat)
  case atStart => exact ⟨0, Nat.zero_le _, rfl, rfl, by simp [Hid], by simpa [Hid] using HO.out, HB.out⟩
  case round =>
    obtain ⟨k, hk, rfl, rfl, Hk, Ho, Hb⟩ := hrel
    by_cases hlt : k < n
    · obtain ⟨b, off, z, rfl, hzk, hcz0⟩ := HX.out.at_ hlt
      have hcz : wr.cell? ⟨b, off + k, none⟩ = some (.int .i64 z) := (Hb.out.cell (block_lt_of_cell hcz0)).trans hcz0
      have HZ := Lib.hid hzk
      clear hzk hcz0
      by_cases hz : 1 ≤ z ∧ z ≤ 6
      · obtain ⟨z1, z6⟩ := hz
        have hown := Ho.out
        go_wp2_with (at_builtin; refine wpList_append_fits _ rfl _ _ 51 rfl w.heap.size 5 i0 1 Try.underlying51 hi hz1 w.heap.size k n _ rfl (hown.alloc _) ⟨wr.heap.size, 0, none⟩ 1 1 [.int .u8 z] rfl rfl (cell_new _ _ _) (one_cell _ rfl) (by omega) ?_)
        intro w2 hown2 hgrow2
        have Ho2 := Lib.hid hown2
        have Hb2 := Lib.hid ((Hb.out.alloc Hb.out.size (.cells #[.int .u8 z] 5)).grown hgrow2 (by have := Hb.out.size; simp; omega) (fun j h => by cases h; exact Nat.le_refl _))
        clear hown hown2 hgrow2
        go_wp2_with fail
        go_roundw
        case rel => exact ⟨k + 1, by omega, by go_num, rfl, all_take HZ.out Hk.out (Cd.inB_true z1 z6), by unfold Hid; rw [take_snoc HZ.out, List.map_append, List.map_take]; exact Ho2.out, Hb2.out⟩
        case measure => simp [intOf]; omega
      · have HF := Lib.hid hz
        have hz' : z < 1 ∨ 6 < z := by omega
        clear hz
        rcases hz' with hz' | hz'
        · go_wp2_with fail
          go_ret2
          exact ⟨by rw [Cd.groupsV_no (all_false HZ.out (Cd.inB_false HF.out))]; rfl, Hb.out⟩
        · go_wp2_with fail
          go_ret2
          exact ⟨by rw [Cd.groupsV_no (all_false HZ.out (Cd.inB_false HF.out))]; rfl, Hb.out⟩
    · have hkn : k = n := by omega
      subst hkn
      have e : zs.take k = zs := List.take_of_length_le (by have := Hlx.out; omega)
      have HA : Hid (zs.all Cd.inB = true) := by have := Hk.out; rw [e] at this; exact this
      have hcv := run_bytes_string (P := Try.prog) wr 51 64 5 Try.underlying51 Try.underlying5 Try.underlying64 _ Ho.out
      rw [e] at hcv
      clear e
      go_wp2_with fail
      go_ret2
      exact ⟨by rw [Cd.groupsV_yes HA.out]; rfl, Hb.out⟩
end Go.Proofs.Ytpfgjkgjeejghaa
