/-
  The walk of the law FnBlockRepair: it returns true for every list of bytes and leaves old memory as it was.
-/
import Derived.Test.YtlneedjhdnjnpaaDrawBlk
import Derived.Test.YtlneedjhdnjnpaaRepLaws
namespace Go.Proofs.Ytlneedjhdnjnpaa
open Go.RowKit
set_option linter.unusedVariables false

theorem RdS.drewS {w : World} {A : Option Addr} {n : Nat} {ss : List ByteArray} (h : RdS w A n ss) : RdS w.drew A n ss := h
set_option maxRecDepth 100000 in
set_option maxHeartbeats 16000000 in
theorem FnBlockRepair_walk (w : World) (A : Option Addr) (n c : Nat) (bs : List UInt8) (hx : RdB w A n bs) (hl : n ≤ c) (hc : c ≤ maxLen) :
    Calls Try.prog 11 #[.slice A n c] w fun e w' => e = .returned (.bool true) ∧ Below w.heap.size w w' := by
  have HX := Lib.hid hx
  have hc' := Lib.hid hc
  clear hx
  unfold maxLen at hc
  by_cases hbig : (1048576 : Int) < n
  · go_enter Try.func11, Try.ntmps11
    go_wp2_with fail
    go_ret
    exact ⟨rfl, Below.refl _ _⟩
  · have hs : (n : Int) ≤ 1048576 := by omega
    clear hbig
    go_enter Try.func11, Try.ntmps11
    go_wp2_with fail
    refine (DrawBlockRepair_any _ _ _ bs _ HX.out hl hc'.out).mono ?_
    rintro e w1 ⟨S, rfl, hS, hb1⟩
    have Hb1 := Lib.hid hb1
    have HSz : Hid (S.size ≤ maxLen) := by unfold Hid maxLen; omega
    clear hb1
    have HL := Lib.hid (Bk.repairL_len S.toList)
    have HMem : Hid (∀ y ∈ Bk.repairL S.toList, Bk.legal y = true ∧ y.length ≤ 30 ∧ ∃ q, q < y.length ∧ y.take q ++ y.drop (q + 1) = S.toList) := fun y hy => Bk.repairL_mem hy
    have HNd := Lib.hid (Bk.repairL_nodup S.toList)
    generalize hr : Bk.repairL S.toList = rs at HL HMem HNd
    have HR := Lib.hid hr
    clear hr
    go_wp2_with fail
    refine (implBlockRepair_any S _ HSz.out).mono ?_
    rintro e w2 ⟨G, kg, cg, rfl, ho2, hb2⟩
    rw [HR.out] at ho2
    have hkg : kg ≤ 210 := by have h1 := ho2.1; simp [txs] at h1; have := HL.out; omega
    have HG := Lib.hid ho2
    have Hb2 := Lib.hid (below_seq Hb1.out hb2)
    clear ho2 hb2
    go_wp2_with fail
    refine (specBlockRepair_any S _ HSz.out).mono ?_
    rintro e w3 ⟨W, kw, cw, rfl, ho3, hb3⟩
    rw [HR.out] at ho3
    have HW := Lib.hid ho3
    have HG3 := Lib.hid (own_belowAll HG.out hb3)
    have Hb3 := Lib.hid (below_seq Hb2.out hb3)
    clear ho3 hb3 HG
    go_wp2_with fail
    refine (sameTexts_any _ _ _ _ _ _ (rs.map mkS) (rs.map mkS) _ (RdS.of_own HG3.out) (RdS.of_own HW.out) (by omega)).mono ?_
    rintro e w4 ⟨rfl, m4, rfl⟩
    rw [decide_eq_true (rfl : rs.map mkS = rs.map mkS)]
    have Hb4 := Lib.hid (below_seqD Hb3.out m4)
    have HG4 : Hid (RdS (w3.drewN m4) G kg (rs.map mkS)) := RdS.drewN (RdS.of_own HG3.out) m4
    have HW4 : Hid (RdS (w3.drewN m4) W kw (rs.map mkS)) := RdS.drewN (RdS.of_own HW.out) m4
    clear HG3 HW
    by_cases h0 : kg = 0
    · subst h0
      go_wp2_with fail
      refine (sameTexts_any _ _ _ _ _ _ (rs.map mkS) (rs.map mkS) _ HG4.out HW4.out (by omega)).mono ?_
      rintro e w5 ⟨rfl, m5, rfl⟩
      rw [decide_eq_true (rfl : rs.map mkS = rs.map mkS)]
      go_wp2_with fail
      go_ret
      exact ⟨rfl, by first | exact below_seqD Hb4.out m5 | exact below_seqD Hb3.out _⟩
    · have hk0 : ((kg : Int) == 0) = false := by simp; omega
      clear h0
      generalize w3.drewN m4 = w4 at Hb4 HG4 HW4 ⊢
      clear HW4
      have Hlg : Hid ((rs.map mkS).length = kg) := HG4.out.len
      go_wp2_with fail
      go_loopw [6] (fun j wr => ∃ i : Nat, i ≤ kg ∧ j = .int .i64 i ∧ Hid (RdS wr G kg (rs.map mkS)) ∧ Hid (Below w.heap.size w wr)) (fun j _ => kg - (intOf j).toNat)
      case atStart => exact ⟨0, by omega, rfl, HG4, Hb4⟩
      case round =>
        clear HG4 Hb4
        obtain ⟨i, hi, rfl, HG4, Hb4⟩ := hrel
        by_cases hlt : i < kg
        · obtain ⟨b, off, z, rfl, hz, hcz⟩ := HG4.out.at_ hlt
          have HZ0 := Lib.hid hz
          obtain ⟨y, hy, hyz⟩ : ∃ y, rs[i]? = some y ∧ mkS y = z := by
            rw [List.getElem?_map] at hz
            obtain ⟨y, h1, h2⟩ := Option.map_eq_some_iff.1 hz
            exact ⟨y, h1, h2⟩
          have hym : y ∈ rs := List.mem_of_getElem? hy
          obtain ⟨hleg, hlen, q, hq, hcut⟩ := HMem.out y hym
          have hzl : z.toList = y := by rw [← hyz, mkS_toList]
          have hzs : z.size = y.length := by rw [← hyz, mkS_size]
          have hz30 : z.size ≤ 30 := by omega
          have hqz : q < z.size := by omega
          have HLEG : Hid (Bk.legal z.toList = true) := by unfold Hid; rw [hzl]; exact hleg
          have HCUT : Hid (z.toList.take q ++ z.toList.drop (q + 1) = S.toList) := by unfold Hid; rw [hzl]; exact hcut
          have HZz : Hid (z.size ≤ maxLen) := by unfold Hid maxLen; omega
          have HY := Lib.hid hy
          have HYZ := Lib.hid hyz
          clear hz hy hyz hym hleg hlen hcut hzl hzs
          have hib : decide ((i : Int) < (kg : Int)) = true := decide_eq_true (by omega)
          have hib2 : decide (i < kg) = true := decide_eq_true (by omega)
          have i0 : (0 : Int) ≤ i := by omega
          have i1 : (i : Int) < kg := by omega
          obtain ⟨wo, rfl⟩ : ∃ wo : World, wo = wr := ⟨_, rfl⟩
          clear hcz
          go_wp2_with fail
          go_loopw [7, 8] (fun fv j wi => ∃ (k : Nat) (f : Bool), k ≤ z.size ∧ j = .int .i64 k ∧ fv = .bool f ∧ Hid (q < k → f = true) ∧ Hid (RdS wi (some ⟨b, off, none⟩) kg (rs.map mkS)) ∧ Hid (Below w.heap.size w wi)) (fun _ j _ => z.size - (intOf j).toNat)
          case atStart => exact ⟨0, false, by omega, rfl, rfl, fun h => by omega, HG4, Hb4⟩
          case round =>
            clear HG4 Hb4
            obtain ⟨k, f, hk, rfl, rfl, HF, HG4, Hb4⟩ := hrel
            have hcz : wr.cell? ⟨b, off + i, none⟩ = some (.string z) := by
              obtain ⟨b', off', z', e1, e2, e3⟩ := HG4.out.at_ hlt
              simp only [Option.some.injEq, Addr.mk.injEq, and_true] at e1
              obtain ⟨rfl, rfl⟩ := e1
              rw [HZ0.out] at e2
              injection e2 with e2
              subst e2
              exact e3
            by_cases hltk : k < z.size
            · cases f with
              | true =>
                go_wp2_with fail
                go_quiet (fail)
                go_wp2_with fail
                go_roundw
                case rel => first | exact ⟨k + 1, true, by omega, by go_num, rfl, fun _ => rfl, HG4.out.drewN _, below_drewN Hb4.out _⟩ | ((repeat apply Exists.intro); exact ⟨⟨k + 1, true, by omega, by go_num, rfl, fun _ => rfl, HG4.out.drewN _, below_drewN Hb4.out _⟩, rfl⟩)
                case measure => simp [intOf]; omega
              | false =>
                obtain ⟨X, hadd, hX, _⟩ := cut_facts z k (by omega)
                have HX2 := Lib.hid hX
                have HF2 : Hid (q < k + 1 → (X.toList == S.toList) = true) := by
                  intro h
                  by_cases e : q = k
                  · subst e
                    rw [HX2.out, HCUT.out]
                    simp
                  · have := HF.out (by omega)
                    cases this
                have k0 : (0 : Int) ≤ (k : Int) + 1 := by omega
                have k1 : ((k : Int) + 1).toNat = k + 1 := by omega
                have k2 : (k : Int) + 1 ≤ z.size := by omega
                have k3 : (k : Int) ≤ z.size := by omega
                have w1' : IntKind.i64.wrap ((k : Int) + 1) = (k : Int) + 1 := IntWalk.i64_in _ (by omega)
                clear hX
                go_wp2_with fail
                go_still_tail 19, (by kernel_rfl)
                change wpList _ _ _ _ _ wr.drew
                clear w1' k1 hadd
                go_wp2_with fail
                go_roundw
                case rel => first | exact ⟨k + 1, _, by omega, by go_num, rfl, HF2, HG4.out.drewS, Hb4.out.drew⟩ | ((repeat apply Exists.intro); exact ⟨⟨k + 1, _, by omega, by go_num, rfl, HF2, HG4.out.drewS, Hb4.out.drew⟩, rfl⟩)
                case measure => simp [intOf]; omega
            · have hf : f = true := HF.out (by omega)
              subst hf
              obtain ⟨wp, rfl⟩ : ∃ wp : World, wp = wr := ⟨_, rfl⟩
              clear HF
              go_wp2_with fail
              clear hcz
              go_loopw [7, 9] (fun fv j wi => ∃ (k' : Nat), k' ≤ i ∧ j = .int .i64 k' ∧ fv = .bool true ∧ Hid (RdS wi (some ⟨b, off, none⟩) kg (rs.map mkS)) ∧ Hid (Below w.heap.size w wi)) (fun _ j _ => i - (intOf j).toNat)
              case atStart => exact ⟨0, by omega, rfl, rfl, HG4, Hb4⟩
              case round =>
                clear HG4 Hb4
                obtain ⟨k', hk', rfl, rfl, HG4, Hb4⟩ := hrel
                have hcz : wr.cell? ⟨b, off + i, none⟩ = some (.string z) := by
                  obtain ⟨b', off', z', e1, e2, e3⟩ := HG4.out.at_ hlt
                  simp only [Option.some.injEq, Addr.mk.injEq, and_true] at e1
                  obtain ⟨rfl, rfl⟩ := e1
                  rw [HZ0.out] at e2
                  injection e2 with e2
                  subst e2
                  exact e3
                by_cases hltk' : k' < i
                · obtain ⟨b', off', v, e1, hv, hcv⟩ := HG4.out.at_ (show k' < kg by omega)
                  simp only [Option.some.injEq, Addr.mk.injEq, and_true] at e1
                  obtain ⟨rfl, rfl⟩ := e1
                  have hne : (v.toList == z.toList) = false := by
                    apply str_neb
                    intro e
                    subst e
                    rw [List.getElem?_map] at hv
                    obtain ⟨y2, h1, h2⟩ := Option.map_eq_some_iff.1 hv
                    have h3 : y2 = y := by
                      have h4 := congrArg ByteArray.toList (h2.trans HYZ.out.symm)
                      rwa [mkS_toList, mkS_toList] at h4
                    subst h3
                    obtain ⟨a1, a2⟩ := List.getElem?_eq_some_iff.1 h1
                    obtain ⟨b1, b2⟩ := List.getElem?_eq_some_iff.1 HY.out
                    exact (List.pairwise_iff_getElem.1 HNd.out) k' i a1 b1 hltk' (a2.trans b2.symm)
                  have j0 : (0 : Int) ≤ k' := by omega
                  have j1 : (k' : Int) < kg := by omega
                  clear hv
                  go_wp2_with fail
                  go_still_tail 12, (by kernel_rfl)
                  change wpList _ _ _ _ _ wr.drew
                  go_wp2_with fail
                  go_roundw
                  case rel => first | exact ⟨k' + 1, by omega, by go_num, rfl, HG4.out.drewS, Hb4.out.drew⟩ | ((repeat apply Exists.intro); exact ⟨⟨k' + 1, by omega, by go_num, rfl, HG4.out.drewS, Hb4.out.drew⟩, rfl⟩)
                  case measure => simp [intOf]; omega
                · go_wp2_with fail
                  refine (implBlockLegal_any z _ HZz.out).mono ?_
                  rintro e w6 ⟨rfl, hb6⟩
                  rw [HLEG.out]
                  have HG6 := Lib.hid (HG4.out.below hb6)
                  have Hb6 := Lib.hid (below_seq Hb4.out hb6)
                  clear hb6
                  go_wp2_with fail
                  go_roundw
                  case rel => first | exact ⟨i + 1, by omega, by go_num, HG6, Hb6⟩ | ((repeat apply Exists.intro); exact ⟨⟨i + 1, by omega, by go_num, HG6, Hb6⟩, rfl⟩)
                  case measure => simp [intOf]; omega
        · go_wp2_with fail
          go_ret
          exact ⟨rfl, Hb4.out⟩
end Go.Proofs.Ytlneedjhdnjnpaa
