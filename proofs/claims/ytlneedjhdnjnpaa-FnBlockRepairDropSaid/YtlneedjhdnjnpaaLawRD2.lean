/-
  The walk of the law FnBlockRepairDrop: it returns true for every two lists of bytes and leaves old memory as it was.
-/
import Derived.Test.YtlneedjhdnjnpaaLawRD
namespace Go.Proofs.Ytlneedjhdnjnpaa
open Go.RowKit
set_option linter.unusedVariables false

theorem Bk.dropL_len30 (l : List UInt8) : (Bk.dropL l).length ≤ 30 := by
  unfold Bk.dropL
  split
  · have := Bk.dr_len l l.length
    omega
  · simp
set_option maxRecDepth 100000 in
set_option maxHeartbeats 16000000 in
theorem FnBlockRepairDrop_walk (w : World) (A : Option Addr) (n c : Nat) (bs : List UInt8) (hx : RdB w A n bs) (hl : n ≤ c) (hc : c ≤ maxLen) (A' : Option Addr) (n' c' : Nat) (bs' : List UInt8) (hx' : RdB w A' n' bs') (hl' : n' ≤ c') (hc' : c' ≤ maxLen) :
    Calls Try.prog 10 #[.slice A n c, .slice A' n' c'] w fun e w' => e = .returned (.bool true) ∧ Below w.heap.size w w' := by
  have HX := Lib.hid hx
  have HC := Lib.hid hc
  clear hx hx'
  unfold maxLen at hc hc'
  by_cases hbig : (1048576 : Int) < n
  · go_enter Try.func10, Try.ntmps10
    go_wp2_with fail
    go_ret
    exact ⟨rfl, Below.refl _ _⟩
  · have hs : (n : Int) ≤ 1048576 := by omega
    clear hbig
    by_cases hbig : (1048576 : Int) < n'
    · go_enter Try.func10, Try.ntmps10
      go_wp2_with fail
      go_ret
      exact ⟨rfl, Below.refl _ _⟩
    · have hs' : (n' : Int) ≤ 1048576 := by omega
      clear hbig
      go_enter Try.func10, Try.ntmps10
      go_wp2_with fail
      refine (DrawBlockDrop_any _ _ _ bs _ HX.out hl HC.out).mono ?_
      rintro e w1 ⟨S, rfl, hS, hb1⟩
      have Hb1 := Lib.hid hb1
      have HSz : Hid (S.size ≤ maxLen) := by unfold Hid maxLen; omega
      clear hb1
      have HMem : Hid (∀ z ∈ Bk.dropL S.toList, ∃ k : Nat, z = k ∧ k < S.toList.length ∧ S.toList.length ≤ 30 ∧ Bk.legal (S.toList.take k ++ S.toList.drop (k + 1)) = true) := fun z hz => Bk.dropL_mem hz
      generalize hr : Bk.dropL S.toList = rs at HMem
      have HR := Lib.hid hr
      have HL : Hid (rs.length ≤ 30) := by unfold Hid; rw [← hr]; exact Bk.dropL_len30 _
      clear hr
      go_wp2_with fail
      refine (implBlockDrop_any S _ HSz.out).mono ?_
      rintro e w2 ⟨G, kg, cg, rfl, ho2, hb2⟩
      rw [HR.out] at ho2
      have hkg : kg ≤ 30 := by have h1 := ho2.1; simp at h1; have := HL.out; omega
      have HG := Lib.hid ho2
      have Hb2 := Lib.hid (below_seq Hb1.out hb2)
      clear ho2 hb2
      go_wp2_with fail
      refine (specBlockDrop_any S _ HSz.out).mono ?_
      rintro e w3 ⟨W, kw, cw, rfl, ho3, hb3⟩
      rw [HR.out] at ho3
      have HW := Lib.hid ho3
      have HG3 := Lib.hid (own_belowAll HG.out hb3)
      have Hb3 := Lib.hid (below_seq Hb2.out hb3)
      clear ho3 hb3 HG
      go_wp2_with fail
      refine (sameInts_any _ _ _ _ _ _ rs rs _ (RdI.of_own HG3.out) (RdI.of_own HW.out) (by omega)).mono ?_
      rintro e w4 ⟨rfl, m4, rfl⟩
      rw [decide_eq_true (rfl : rs = rs)]
      have Hb4 := Lib.hid (below_seqD Hb3.out m4)
      have HG4 : Hid (RdI (w3.drewN m4) G kg rs) := RdI.drewN (RdI.of_own HG3.out) m4
      have HW4 : Hid (RdI (w3.drewN m4) W kw rs) := RdI.drewN (RdI.of_own HW.out) m4
      clear HG3 HW
      by_cases h0 : kg = 0
      · subst h0
        go_wp2_with fail
        refine (sameInts_any _ _ _ _ _ _ rs rs _ HG4.out HW4.out (by omega)).mono ?_
        rintro e w5 ⟨rfl, m5, rfl⟩
        rw [decide_eq_true (rfl : rs = rs)]
        go_wp2_with fail
        go_ret
        exact ⟨rfl, by first | exact below_seqD Hb4.out m5 | exact below_seqD Hb3.out _⟩
      · have hk0 : ((kg : Int) == 0) = false := by simp; omega
        have hk1 : 1 ≤ kg := by omega
        clear h0
        generalize w3.drewN m4 = w4 at Hb4 HG4 HW4 ⊢
        clear HW4
        have hjl : n' % kg < kg := Nat.mod_lt _ hk1
        obtain ⟨b, off, z, rfl, hz, hcz⟩ := HG4.out.at_ hjl
        obtain ⟨k, rfl, hkl, h30, hleg⟩ := HMem.out z (List.mem_of_getElem? hz)
        rw [str_len'] at hkl h30
        obtain ⟨X, hadd, hX, hXz⟩ := cut_facts S k (by omega)
        have HXX := Lib.hid hX
        have HLeg : Hid (Bk.legal X.toList = true) := by unfold Hid; rw [hX]; exact hleg
        have HXZ : Hid (X.size ≤ maxLen) := by unfold Hid maxLen; omega
        have HBack : Hid (Bk.legal S.toList = true → S.toList ∈ Bk.repairL X.toList) := fun h => by rw [HXX.out]; exact Bk.repair_back (by rw [str_len']; exact hkl) h
        have k0 : (0 : Int) ≤ (k : Int) + 1 := by omega
        have k1 : ((k : Int) + 1).toNat = k + 1 := by omega
        have k2 : (k : Int) + 1 ≤ S.size := by omega
        have k3 : (k : Int) ≤ S.size := by omega
        have w1' : IntKind.i64.wrap ((k : Int) + 1) = (k : Int) + 1 := IntWalk.i64_in _ (by omega)
        clear hz hleg hX
        go_wp2_with fail
        go_still_tail 8, (by kernel_rfl)
        change wpList _ _ _ _ _ w4.drew
        clear w1' k1 hadd hcz
        go_wp2_with fail
        refine (implBlockRepair_any X _ HXZ.out).mono ?_
        rintro e w5 ⟨P, kp, cp, rfl, ho5, hb5⟩
        have hkp : kp ≤ 210 := by have h1 := ho5.1; simp [txs] at h1; have := Bk.repairL_len X.toList; omega
        have HP : Hid (RdS w5 P kp ((Bk.repairL X.toList).map mkS)) := RdS.of_own ho5
        have Hlp : Hid (((Bk.repairL X.toList).map mkS).length = kp) := HP.out.len
        have Hb5 := Lib.hid (below_seq (w1 := w4.drew) Hb4.out.drew hb5)
        clear ho5 hb5
        go_wp2_with fail
        go_loop [11, 12] (fun fv j => ∃ (i : Nat) (f : Bool), i ≤ kp ∧ j = .int .i64 i ∧ fv = .bool f ∧ Hid (S ∈ ((Bk.repairL X.toList).map mkS).take i → f = true)) (fun _ j => kp - (intOf j).toNat)
        case atStart => exact ⟨0, false, by omega, rfl, rfl, fun h => by simp at h⟩
        case round =>
          obtain ⟨i, f, hi, rfl, rfl, HF⟩ := hrel
          by_cases hlt : i < kp
          · obtain ⟨b2, off2, t, rfl, ht, hct⟩ := HP.out.at_ hlt
            have HT := Lib.hid ht
            clear ht
            cases f with
            | true =>
              go_wp2_with fail
              go_round
              case rel => exact ⟨i + 1, true, by omega, by go_num, rfl, fun _ => rfl⟩
              case measure => simp [intOf]; omega
            | false =>
              have HF2 : Hid (S ∈ ((Bk.repairL X.toList).map mkS).take (i + 1) → (t.toList == S.toList) = true) := by
                intro h
                rw [take_snoc HT.out, List.mem_append] at h
                rcases h with h | h
                · have := HF.out h; cases this
                · simp at h; rw [h]; simp
              go_wp2_with fail
              go_round
              case rel => exact ⟨i + 1, _, by omega, by go_num, rfl, HF2⟩
              case measure => simp [intOf]; omega
          · have HF2 : Hid (Bk.legal S.toList = true → f = true) := by
              intro h
              apply HF.out
              rw [List.take_of_length_le (by rw [Hlp.out]; omega), List.mem_map]
              exact ⟨S.toList, HBack.out h, (mkS_eq rfl).symm⟩
            have hlt' : ¬ (i : Int) < kp := by omega
            clear HF
            go_wp2_with fail
            refine (implBlockLegal_any X _ HXZ.out).mono ?_
            rintro e w6 ⟨rfl, hb6⟩
            rw [HLeg.out]
            have Hb6 := Lib.hid (below_seq Hb5.out hb6)
            clear hb6
            go_wp2_with fail
            refine (implBlockLegal_any S _ HSz.out).mono ?_
            rintro e w7 ⟨rfl, hb7⟩
            have Hb7 := Lib.hid (below_seq Hb6.out hb7)
            clear hb7
            cases hls : Bk.legal S.toList with
            | false =>
              clear hls
              go_wp2_with fail
              go_ret
              exact ⟨rfl, Hb7.out⟩
            | true =>
              have hf := HF2.out hls
              subst hf
              clear hls
              go_wp2_with fail
              go_ret
              exact ⟨rfl, Hb7.out⟩
end Go.Proofs.Ytlneedjhdnjnpaa
