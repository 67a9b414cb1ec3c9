/-
  The walk of the law FnBlockWay: it returns true for every list of bytes and leaves old memory as it was.
-/
import Derived.Test.YtlneedjhdnjnpaaDrawWR
import Derived.Test.YtlneedjhdnjnpaaWayLaws
import Derived.Test.YtlneedjhdnjnpaaWay4
namespace Go.Proofs.Ytlneedjhdnjnpaa
open Go.RowKit
set_option linter.unusedVariables false
attribute [local go_sem ↓] Go.wp_at_zero Go.wp_at_succ run_eql_block run_neq_block

theorem slice_one0 (W : World) (s : ByteArray) (h : 0 < s.size) : (Instr.slice 9 (.string s) none (some (.int .i64 1)) none).run Try.prog W = .ok (.string (s.extract 0 1)) W := by
  rw [run_slice_string_to_if W 9 s .i64 1 Try.underlying9, if_pos (by omega)]
  rfl
theorem slice_from1 (W : World) (s : ByteArray) (h : 0 < s.size) : (Instr.slice 9 (.string s) (some (.int .i64 1)) none none).run Try.prog W = .ok (.string (s.extract 1 s.size)) W := by
  rw [run_slice_string_from_if W 9 s .i64 1 Try.underlying9, if_pos (by omega)]
  rfl
set_option maxRecDepth 100000 in
set_option maxHeartbeats 16000000 in
theorem FnBlockWay_walk (w : World) (A : Option Addr) (n c : Nat) (bs : List UInt8) (hx : RdB w A n bs) (hl : n ≤ c) (hc : c ≤ maxLen) :
    Calls Try.prog 12 #[.slice A n c] w fun e w' => e = .returned (.bool true) ∧ Below w.heap.size w w' := by
  have HX := Lib.hid hx
  have hc' := Lib.hid hc
  clear hx
  unfold maxLen at hc
  by_cases hbig : (1048576 : Int) < n
  · go_enter Try.func12, Try.ntmps12
    go_wp2_with fail
    go_ret
    exact ⟨rfl, Below.refl _ _⟩
  · have hs : (n : Int) ≤ 1048576 := by omega
    clear hbig
    go_enter Try.func12, Try.ntmps12
    go_wp2_with fail
    refine (DrawBlockWay_any _ _ _ bs _ HX.out hl hc'.out).mono ?_
    rintro e w1 ⟨an, ai, ao, bn, bi, bo, rfl, hb1⟩
    have Hb1 := Lib.hid hb1
    clear hb1
    cases hw : Bk.wayB an ai ao bn bi bo with
    | none =>
      have HV : Hid (wayV (Bk.wayB an ai ao bn bi bo) = .tuple #[.string ⟨#[]⟩, .bool false]) := by unfold Hid; rw [hw]; rfl
      clear hw
      have HA1 := Lib.hid ((room_alloc w1 (.int .i64 an) (.bool ai) (.bool ao) 34).alloc (.cells #[.int .i64 bn, .bool bi, .bool bo] 34))
      have HB1 : Hid (Room ((w1.alloc (.cells #[.int .i64 an, .bool ai, .bool ao] 34)).alloc (.cells #[.int .i64 bn, .bool bi, .bool bo] 34)) (w1.heap.size + 1) (.int .i64 bn) (.bool bi) (.bool bo)) := by unfold Hid; have := room_alloc (w1.alloc (.cells #[.int .i64 an, .bool ai, .bool ao] 34)) (.int .i64 bn) (.bool bi) (.bool bo) 34; simpa using this
      go_wp2_with fail
      refine (implBlockWay_any _ _ _ _ _ _ _).mono ?_
      rintro e w2 ⟨rfl, hb2⟩
      rw [HV.out]
      obtain ⟨a0, a1, a2, _, _, _⟩ := HA1.out.later hb2
      obtain ⟨b0, b1, b2, _, _, _⟩ := HB1.out.later hb2
      have Hb2 := Lib.hid (below_seq ((Hb1.out.alloc Hb1.out.size _).alloc (by have := Hb1.out.size; simp; omega) _) hb2)
      clear hb2
      go_wp2_with fail
      refine (specBlockWay_any _ _ _ _ _ _ _).mono ?_
      rintro e w3 ⟨rfl, hb3⟩
      rw [HV.out]
      have Hb3 := Lib.hid (below_seq Hb2.out hb3)
      clear hb3
      go_wp2_with fail
      go_ret
      exact ⟨rfl, Hb3.out⟩
    | some r =>
      have HV : Hid (wayV (Bk.wayB an ai ao bn bi bo) = .tuple #[.string (mkS r), .bool true]) := by unfold Hid; rw [hw]; rfl
      obtain ⟨s, t, hs5, ht5, rfl, rfl, rfl, rfl, rfl, rfl, hwr⟩ := Bk.wayB_some hw
      obtain ⟨r2, e2, hr5, hrun, hemp, htail⟩ := Bk.way_law hs5 ht5
      obtain rfl : r2 = r := by rw [hwr] at e2; injection e2 with e2; exact e2.symm
      have HRun : Hid (resV (Bk.runR (Bk.nd s) (Bk.ins s) (Bk.off s) (mkS r2).toList) = .tuple #[bv (Bk.nd t) (Bk.ins t) (Bk.off t), .bool true]) := by
        unfold Hid
        rw [mkS_toList, Bk.runR_some (Bk.stOf_st hs5) (by omega), hrun]; rfl
      have HEQ := Lib.hid (Bk.st_eq hs5 ht5)
      have HTT := Lib.hid (Bk.st_eq ht5 ht5)
      obtain ⟨R, hR⟩ : ∃ R, R = mkS r2 := ⟨_, rfl⟩
      have HRL : Hid (R.toList = r2) := by unfold Hid; rw [hR, mkS_toList]
      have hRz : R.size ≤ 5 := by rw [hR, mkS_size]; exact hr5
      have HRZ : Hid (R.size ≤ maxLen) := by unfold Hid maxLen; omega
      rw [← hR] at HV HRun
      have HEMP := Lib.hid hemp
      have HTAIL := Lib.hid htail
      have htt : (Bk.nd t == Bk.nd t && (Bk.ins t == Bk.ins t && Bk.off t == Bk.off t)) = true := by rw [HTT.out]; simp
      clear hw hwr e2 hr5 hrun hemp htail hR
      have HA1 := Lib.hid ((room_alloc w1 (.int .i64 (Bk.nd s)) (.bool (Bk.ins s)) (.bool (Bk.off s)) 34).alloc (.cells #[.int .i64 (Bk.nd t), .bool (Bk.ins t), .bool (Bk.off t)] 34))
      have HB1 : Hid (Room ((w1.alloc (.cells #[.int .i64 (Bk.nd s), .bool (Bk.ins s), .bool (Bk.off s)] 34)).alloc (.cells #[.int .i64 (Bk.nd t), .bool (Bk.ins t), .bool (Bk.off t)] 34)) (w1.heap.size + 1) (.int .i64 (Bk.nd t)) (.bool (Bk.ins t)) (.bool (Bk.off t))) := by unfold Hid; have := room_alloc (w1.alloc (.cells #[.int .i64 (Bk.nd s), .bool (Bk.ins s), .bool (Bk.off s)] 34)) (.int .i64 (Bk.nd t)) (.bool (Bk.ins t)) (.bool (Bk.off t)) 34; simpa using this
      go_wp2_with fail
      refine (implBlockWay_any _ _ _ _ _ _ _).mono ?_
      rintro e w2 ⟨rfl, hb2⟩
      rw [HV.out]
      have HA2 := Lib.hid (HA1.out.later hb2)
      have HB2 := Lib.hid (HB1.out.later hb2)
      obtain ⟨a0, a1, a2, _, _, _⟩ := HA2.out
      obtain ⟨b0, b1, b2, _, _, _⟩ := HB2.out
      have Hb2 := Lib.hid (below_seq ((Hb1.out.alloc Hb1.out.size _).alloc (by have := Hb1.out.size; simp; omega) _) hb2)
      clear hb2 HA1 HB1
      go_wp2_with fail
      refine (specBlockWay_any _ _ _ _ _ _ _).mono ?_
      rintro e w3 ⟨rfl, hb3⟩
      rw [HV.out]
      have HA3 := Lib.hid (HA2.out.later hb3)
      have HB3 := Lib.hid (HB2.out.later hb3)
      have Hb3 := Lib.hid (below_seq Hb2.out hb3)
      clear hb3 a0 a1 a2 b0 b1 b2 HA2 HB2
      obtain ⟨a0, a1, a2, _, _, _⟩ := HA3.out
      go_wp2_with fail
      refine (implBlockRun_any _ _ _ R _ HRZ.out).mono ?_
      rintro e w4 ⟨rfl, hb4⟩
      rw [HRun.out]
      have HA4 := Lib.hid (HA3.out.later hb4)
      have HB4 := Lib.hid (HB3.out.later hb4)
      have Hb4 := Lib.hid (below_seq Hb3.out hb4)
      clear hb4 a0 a1 a2 HA3 HB3
      obtain ⟨a0, a1, a2, _, _, _⟩ := HA4.out
      obtain ⟨b0, b1, b2, _, _, _⟩ := HB4.out
      have hlt4 : w1.heap.size + 1 < w4.heap.size := HB4.out.lt
      have hlt4' : w1.heap.size < w4.heap.size := by omega
      cases hr : r2 with
      | nil =>
        have hst : (Bk.nd s == Bk.nd t && (Bk.ins s == Bk.ins t && Bk.off s == Bk.off t)) = true := by rw [HEQ.out, ← HEMP.out, hr]; rfl
        have hemp1 : R.toList.isEmpty = true := by rw [HRL.out, hr]; rfl
        have hemp2 : (R.toList == []) = true := by rw [HRL.out, hr]; rfl
        clear hr
        go_wp2_with fail
        go_ret
        exact ⟨rfl, Hb4.out.alloc Hb4.out.size _⟩
      | cons ch r' =>
        have hst : (Bk.nd s == Bk.nd t && (Bk.ins s == Bk.ins t && Bk.off s == Bk.off t)) = false := by rw [HEQ.out, ← HEMP.out, hr]; rfl
        have hemp1 : R.toList.isEmpty = false := by rw [HRL.out, hr]; rfl
        have hemp2 : (R.toList == []) = false := by rw [HRL.out, hr]; rfl
        have hR1 : 0 < R.size := by rw [← str_len', HRL.out, hr]; simp
        obtain ⟨hstep, hgo, hw2⟩ := Bk.wTail_cons (by have := HTAIL.out; rwa [hr] at this)
        obtain ⟨E, hsl, hE⟩ : ∃ E : ByteArray, (∀ W : World, (Instr.slice 9 (.string R) none (some (.int .i64 1)) none).run Try.prog W = .ok (.string E) W) ∧ E.toList = [ch] :=
          ⟨_, fun W => slice_one0 W R hR1, by rw [take_toList, HRL.out, hr]; rfl⟩
        obtain ⟨F, hsf, hF⟩ : ∃ F : ByteArray, (∀ W : World, (Instr.slice 9 (.string R) (some (.int .i64 1)) none none).run Try.prog W = .ok (.string F) W) ∧ F = mkS r' :=
          ⟨_, fun W => slice_from1 W R hR1, mkS_eq (by rw [drop_toList, HRL.out, hr]; rfl)⟩
        have HEz : Hid (E.size ≤ maxLen) := by unfold Hid; rw [← str_len', hE]; simp [maxLen]
        have HRes : Hid (resV (Bk.stepR (Bk.nd s) (Bk.ins s) (Bk.off s) E.toList) = .tuple #[bv (Bk.nd (Bk.go s ch)) (Bk.ins (Bk.go s ch)) (Bk.off (Bk.go s ch)), .bool true]) := by unfold Hid; rw [hE, Bk.stepR_some (Bk.stOf_st hs5), hstep]; rfl
        have HV2 : Hid (wayV (Bk.wayB (Bk.nd (Bk.go s ch)) (Bk.ins (Bk.go s ch)) (Bk.off (Bk.go s ch)) (Bk.nd t) (Bk.ins t) (Bk.off t)) = .tuple #[.string F, .bool true]) := by unfold Hid; rw [Bk.wayB_of hgo ht5, hw2, hF]; rfl
        have hR1i : (1 : Int) ≤ R.size := by omega
        clear hr hstep hw2 hE hF
        go_wp2_with fail
        have HA5 := Lib.hid (HA4.out.alloc (.cells #[.int .i64 (Bk.nd t), .bool (Bk.ins t), .bool (Bk.off t)] 34))
        have HB5 := Lib.hid (HB4.out.alloc (.cells #[.int .i64 (Bk.nd t), .bool (Bk.ins t), .bool (Bk.off t)] 34))
        have Hb5 := Lib.hid (Hb4.out.alloc Hb4.out.size (.cells #[.int .i64 (Bk.nd t), .bool (Bk.ins t), .bool (Bk.off t)] 34))
        generalize w4.alloc (.cells #[.int .i64 (Bk.nd t), .bool (Bk.ins t), .bool (Bk.off t)] 34) = w5 at HA5 HB5 Hb5 ⊢
        clear a0 a1 a2 b0 b1 b2 hlt4 hlt4' HA4 HB4
        obtain ⟨a0, a1, a2, _, _, _⟩ := HA5.out
        have hlt5 : w1.heap.size + 1 < w5.heap.size := HB5.out.lt
        have hlt5' : w1.heap.size < w5.heap.size := by omega
        have hne5 : ¬ w1.heap.size = w5.heap.size := by omega
        have hne6 : ¬ w1.heap.size + 1 = w5.heap.size := by omega
        have e0 : ∀ o', (w5.drew.alloc o').cell? ⟨w1.heap.size, 0, none⟩ = some (.int .i64 (Bk.nd s)) := fun o' => (HA5.out.drew.alloc o').1
        have e1 : ∀ o', (w5.drew.alloc o').cell? ⟨w1.heap.size, 1, none⟩ = some (.bool (Bk.ins s)) := fun o' => (HA5.out.drew.alloc o').2.1
        have e2 : ∀ o', (w5.drew.alloc o').cell? ⟨w1.heap.size, 2, none⟩ = some (.bool (Bk.off s)) := fun o' => (HA5.out.drew.alloc o').2.2.1
        go_region_with (first | (go_at_call 32; refine (implBlockStep_any _ _ _ E _ HEz.out).mono ?_; rintro e w6 ⟨rfl, hb6⟩; rw [HRes.out]; have HB6 : Hid (Room w6 (w1.heap.size + 1) (.int .i64 (Bk.nd t)) (.bool (Bk.ins t)) (.bool (Bk.off t))) := (by first | exact HB5.out.drew.later hb6 | exact (HB5.out.drew.alloc _).later hb6); obtain ⟨x0, x1, x2, y0, y1, y2⟩ := HB6.out; have hlt6 : w1.heap.size + 1 < w6.heap.size := HB6.out.lt; have hne7 : ¬ w1.heap.size + 1 = w6.heap.size := (by omega); have Hb6 : Hid (Below w.heap.size w w6) := (by first | exact below_seq Hb5.out.drew hb6 | exact below_seq (Hb5.out.drew.alloc Hb5.out.size _) hb6); (try (have HNx : Hid (Room w6 w5.heap.size (.int .i64 0) (.bool false) (.bool false)) := (by exact (room_new _ _ _ _ _).later hb6); obtain ⟨z0, z1, z2, v0, v1, v2⟩ := HNx.out)); clear hb6 a0 a1 a2 e0 e1 e2))
        all_goals go_wp2_with fail
        all_goals refine (implBlockWay_any _ _ _ _ _ _ _).mono ?_
        all_goals rintro e w7 ⟨rfl, hb7⟩
        all_goals rw [HV2.out]
        all_goals have Hb7 : Hid (Below w.heap.size w w7) := (by first | exact below_seq (Hb6.out.alloc Hb6.out.size _) hb7 | exact below_seq (Hb6.out.grown (gw_set3 _ _ _ _ _) Hb6.out.size (fun r h => by cases h; exact Hb5.out.size)) hb7)
        all_goals clear hb7
        all_goals go_wp2_with fail
        all_goals go_ret
        all_goals exact ⟨ret_bool (decide_eq_true (by omega)), Hb7.out⟩
end Go.Proofs.Ytlneedjhdnjnpaa
