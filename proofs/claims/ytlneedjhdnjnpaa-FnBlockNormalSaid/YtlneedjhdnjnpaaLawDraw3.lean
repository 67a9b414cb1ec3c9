/-
  The walks of the laws FnBlockNormal and FnBlockSafe: each returns true for every list of bytes and leaves old memory as it was.
-/
import Derived.Test.YtlneedjhdnjnpaaLawDraw2
namespace Go.Proofs.Ytlneedjhdnjnpaa
open Go.RowKit
set_option linter.unusedVariables false
attribute [local go_sem ↓] Go.wp_at_zero Go.wp_at_succ run_eql_block run_neq_block

set_option maxRecDepth 100000 in
set_option maxHeartbeats 8000000 in
theorem FnBlockNormal_walk (w : World) (A : Option Addr) (n c : Nat) (bs : List UInt8) (hx : RdB w A n bs) (hl : n ≤ c) (hc : c ≤ maxLen) :
    Calls Try.prog 6 #[.slice A n c] w fun e w' => e = .returned (.bool true) ∧ Below w.heap.size w w' := by
  have HX := Lib.hid hx
  have hc' := Lib.hid hc
  clear hx
  unfold maxLen at hc
  by_cases hbig : (1048576 : Int) < n
  · go_enter Try.func6, Try.ntmps6
    go_wp2_with fail
    go_ret
    exact ⟨rfl, Below.refl _ _⟩
  · have hs : (n : Int) ≤ 1048576 := by omega
    clear hbig
    go_enter Try.func6, Try.ntmps6
    go_wp2_with fail
    refine (DrawBlockNormal_any _ _ _ bs _ HX.out hl hc'.out).mono ?_
    rintro e w1 ⟨S, rfl, hS, hb1⟩
    have Hb1 := Lib.hid hb1
    have HSz : Hid (S.size ≤ maxLen) := by unfold Hid maxLen; omega
    clear hb1
    rcases resV_normal S.toList with ⟨rn, ri, ro, hres, hn, hlg⟩ | ⟨hres, hn, hlg⟩
    · have HRes := Lib.hid hres
      have HN := Lib.hid hn
      have HLg := Lib.hid hlg
      clear hres hn hlg
      obtain ⟨X, hadd, hX, hXz⟩ : ∃ X : ByteArray, (∀ W : World, (Op.stringOp .add S S).run Try.prog W = .ok (.string X) W) ∧ X.toList = S.toList ++ S.toList ∧ X.size ≤ maxLen :=
        ⟨_, fun W => run_string_add_sum W _ _ (by omega), by rw [append_toList], by rw [ByteArray.size_append]; unfold maxLen; omega⟩
      have HXX := Lib.hid hX
      have HXZ := Lib.hid hXz
      clear hX hXz
      cases hnb : Bk.normalB S.toList with
      | false =>
        have HNB := Lib.hid hnb
        have hq : (rn == 0 && (!ri && !ro)) = false := by rw [HN.out, hnb]
        clear hnb
        go_wp2_with fail
        refine (implBlockNormal_any S _ HSz.out).mono ?_
        rintro e w2 ⟨rfl, hb2⟩
        rw [HNB.out, HLg.out]
        have Hb2 := Lib.hid (below_seq Hb1.out hb2)
        clear hb2
        go_wp2_with fail
        refine (specBlockNormal_any S _ HSz.out).mono ?_
        rintro e w3 ⟨rfl, hb3⟩
        rw [HNB.out, HLg.out]
        have Hb3 := Lib.hid (below_seq Hb2.out hb3)
        clear hb3
        go_wp2_with fail
        refine (normal_any _).mono ?_
        rintro e w4 ⟨rfl, hb4⟩
        have Hb4 := Lib.hid (below_seq Hb3.out hb4)
        clear hb4
        go_wp2_with fail
        refine (implBlockRun_any 0 false false S _ HSz.out).mono ?_
        rintro e w5 ⟨rfl, hb5⟩
        rw [HRes.out]
        have Hb5 := Lib.hid (below_seq Hb4.out hb5)
        clear hb5
        go_wp2_with fail
        have HRm : Hid (Room (w5.alloc (.cells #[.int .i64 rn, .bool ri, .bool ro] 34)).drew w5.heap.size (.int .i64 rn) (.bool ri) (.bool ro)) := room_alloc _ _ _ _ _
        have Hb5d : Hid (Below w.heap.size w (w5.alloc (.cells #[.int .i64 rn, .bool ri, .bool ro] 34)).drew) := (Hb5.out.alloc Hb5.out.size _).drew
        go_region_with (first | (go_at_call 28; refine (normal_any _).mono ?_; rintro e w6 ⟨rfl, hb6⟩; obtain ⟨q0, q1, q2, _, _, _⟩ := HRm.out.later hb6; have Hb6 := Lib.hid (below_seq Hb5d.out hb6); clear hb6))
        all_goals go_wp2_with fail
        all_goals refine (implBlockNormal_any X _ HXZ.out).mono ?_
        all_goals rintro e w7 ⟨rfl, hb7⟩
        all_goals have Hb7 := Lib.hid (below_seq Hb6.out hb7)
        all_goals clear hb7
        all_goals go_wp2_with fail
        all_goals go_ret
        all_goals exact ⟨rfl, Hb7.out⟩
      | true =>
        have HNB := Lib.hid hnb
        have hq : (rn == 0 && (!ri && !ro)) = true := by rw [HN.out, hnb]
        have HLaw := Lib.hid (Bk.normal_law hnb)
        obtain ⟨t, ht⟩ : ∃ t, S.toList.count 101 = t := ⟨_, rfl⟩
        have HT1 := Lib.hid ht
        have HT2 : Hid (S.toList.count 102 = t) := by unfold Hid; rw [← HLaw.out.2.2]; exact ht
        obtain ⟨y, hy⟩ : ∃ y, Bk.normalB X.toList = y := ⟨_, rfl⟩
        obtain ⟨q, hqq⟩ : ∃ q, Bk.legal X.toList = q := ⟨_, rfl⟩
        have HY := Lib.hid hy
        have HQ := Lib.hid hqq
        have HYQ : Hid (2 * S.size ≤ 30 → q = true ∧ y = true) := by
          intro h
          have := HLaw.out.2.1 (by rw [str_len']; exact h)
          rw [← HXX.out, HQ.out, HY.out] at this
          exact this
        clear hnb ht hy hqq
        go_wp2_with fail
        refine (implBlockNormal_any S _ HSz.out).mono ?_
        rintro e w2 ⟨rfl, hb2⟩
        rw [HNB.out, HLg.out]
        have Hb2 := Lib.hid (below_seq Hb1.out hb2)
        clear hb2
        go_wp2_with fail
        refine (specBlockNormal_any S _ HSz.out).mono ?_
        rintro e w3 ⟨rfl, hb3⟩
        rw [HNB.out, HLg.out]
        have Hb3 := Lib.hid (below_seq Hb2.out hb3)
        clear hb3
        go_wp2_with fail
        refine (normal_any _).mono ?_
        rintro e w4 ⟨rfl, hb4⟩
        have Hb4 := Lib.hid (below_seq Hb3.out hb4)
        clear hb4
        go_wp2_with fail
        refine (implBlockRun_any 0 false false S _ HSz.out).mono ?_
        rintro e w5 ⟨rfl, hb5⟩
        rw [HRes.out]
        have Hb5 := Lib.hid (below_seq Hb4.out hb5)
        clear hb5
        go_wp2_with fail
        have HRm : Hid (Room (w5.alloc (.cells #[.int .i64 rn, .bool ri, .bool ro] 34)).drew w5.heap.size (.int .i64 rn) (.bool ri) (.bool ro)) := room_alloc _ _ _ _ _
        have Hb5d : Hid (Below w.heap.size w (w5.alloc (.cells #[.int .i64 rn, .bool ri, .bool ro] 34)).drew) := (Hb5.out.alloc Hb5.out.size _).drew
        go_region_with (first | (go_at_call 28; refine (normal_any _).mono ?_; rintro e w6 ⟨rfl, hb6⟩; obtain ⟨q0, q1, q2, _, _, _⟩ := HRm.out.later hb6; have Hb6 := Lib.hid (below_seq Hb5d.out hb6); clear hb6))
        all_goals go_wp2_with fail
        all_goals refine (implBlockNormal_any X _ HXZ.out).mono ?_
        all_goals rintro e w7 ⟨rfl, hb7⟩
        all_goals rw [HY.out, HQ.out]
        all_goals have Hb7 := Lib.hid (below_seq Hb6.out hb7)
        all_goals clear hb7
        all_goals (by_cases h30 : 30 < 2 * S.size)
        all_goals (try (have hyq := HYQ.out (by omega); obtain ⟨rfl, rfl⟩ := hyq))
        all_goals go_wp2_with fail
        all_goals refine (countOf_any S 101 _ (by omega)).mono ?_
        all_goals rintro e w8 ⟨rfl, rfl⟩
        all_goals rw [HT1.out]
        all_goals go_wp2_with fail
        all_goals refine (countOf_any S 102 _ (by omega)).mono ?_
        all_goals rintro e w9 ⟨rfl, rfl⟩
        all_goals rw [HT2.out]
        all_goals go_wp2_with fail
        all_goals go_ret
        all_goals exact ⟨rfl, Hb7.out⟩
    · have HN := Lib.hid hn
      have HLg := Lib.hid hlg
      clear hres hn hlg
      go_wp2_with fail
      refine (implBlockNormal_any S _ HSz.out).mono ?_
      rintro e w2 ⟨rfl, hb2⟩
      rw [HN.out, HLg.out]
      have Hb2 := Lib.hid (below_seq Hb1.out hb2)
      clear hb2
      go_wp2_with fail
      refine (specBlockNormal_any S _ HSz.out).mono ?_
      rintro e w3 ⟨rfl, hb3⟩
      rw [HN.out, HLg.out]
      have Hb3 := Lib.hid (below_seq Hb2.out hb3)
      clear hb3
      go_wp2_with fail
      go_ret
      exact ⟨rfl, Hb3.out⟩
end Go.Proofs.Ytlneedjhdnjnpaa
