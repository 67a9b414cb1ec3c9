/-
  The walk of the law FnBookReadings: it returns true for every list of bytes and leaves old memory as it was.
  Conditions: none.
-/
import Derived.Test.YtpfgjkgjeejghaaDrawBook4
import Derived.Test.YtpfgjkgjeejghaaBookLaws
import Derived.Test.YtpfgjkgjeejghaaRead3
namespace Go.Proofs.Ytpfgjkgjeejghaa
open Go.RowKit
set_option linter.unusedVariables false
attribute [local go_sem ↓] Go.wp_at_zero Go.wp_at_succ
theorem DrawBookReadings_any (A : Option Addr) (n c : Nat) (bs : List UInt8) (w : World) (hx : RdB w A n bs) (hl : n ≤ c) (hc : c ≤ maxLen) :
    Calls Try.prog 48 #[.slice A n c] w (DrewBL w) := by
  have HX := Lib.hid hx
  clear hx
  go_enter Try.func48, Try.ntmps48
  go_wp2_with fail
  refine (l6Open_any _ _ _ bs _ HX.out hl hc).mono ?_
  rintro e w1 ⟨rfl, hs1, hb1⟩
  have Hs1 := Lib.hid hs1
  have Hb1 := Lib.hid hb1
  clear hs1 hb1 hl hc
  go_wp2_with fail
  refine (l91Ring_any _ _ _ _ Hs1.out (by omega)).mono ?_
  rintro e w2 ⟨B, k, cb, zss, D, m, d, zs, rfl, hB, hk7, hr, hmd, hdm, hm, hg2⟩
  have HB := Lib.hid hB
  have HR := Lib.hid hr
  have Hb2 := Lib.hid (below_of_grown Hb1.out hg2 (Nat.le_refl _))
  clear hB hr hg2
  go_wp2_with fail
  go_ret2
  exact ⟨_, k, _, zss, _, m, _, zs, rfl, HB.out.base Hb1.out.size, hk7, HR.out, hmd, hdm, hm, Hb2.out⟩
set_option maxRecDepth 100000 in
set_option maxHeartbeats 8000000 in
theorem FnBookReadings_walk (w : World) (A : Option Addr) (n c : Nat) (bs : List UInt8) (hx : RdB w A n bs) (hl : n ≤ c) (hc : c ≤ maxLen) :
    Calls Try.prog 14 #[.slice A n c] w fun e w' => e = .returned (.bool true) ∧ Below w.heap.size w w' := by
  have HX := Lib.hid hx
  have HL := Lib.hid hl
  have HC := Lib.hid hc
  clear hx
  unfold maxLen at hc
  by_cases hbig : (1048576 : Int) < n
  · go_enter Try.func14, Try.ntmps14
    go_wp2_with fail
    go_ret
    exact ⟨rfl, Below.refl _ _⟩
  · have hs : (n : Int) ≤ 1048576 := by omega
    clear hbig
    go_enter Try.func14, Try.ntmps14
    go_wp2_with fail
    refine (DrawBookReadings_any _ _ _ bs _ HX.out HL.out HC.out).mono ?_
    rintro e w1 ⟨B, k, cb, zss, D, m, d, zs, rfl, hB, hk7, hr, hmd, hdm, hm, hb1⟩
    have HB1 := Lib.hid hB
    have HR1 := Lib.hid hr
    have Hb1 := Lib.hid hb1
    have HT : Hid (tot zss ≤ 1048576) := by
      have h1 := tot_six hB.tot
      have h2 := hB.len
      unfold Hid; omega
    have HK : Hid (k ≤ maxLen) := by unfold Hid maxLen; omega
    have HDM := Lib.hid hdm
    have Hlz : Hid (zs.length = m) := hr.len
    have hdm' : d ≤ 9223372036854775807 := by unfold maxLen at hdm; omega
    clear hB hr hb1 hl hc hs hdm
    go_wp2_with fail
    refine (implBookReadings_any _ _ _ zss _ _ _ zs _ HB1.out.rd HK.out HT.out HR1.out (by omega)).mono ?_
    rintro e w2 ⟨rfl, hb2⟩
    have HB2 := Lib.hid (HB1.out.below hb2)
    have HR2 := Lib.hid (RdI.below HR1.out hb2)
    have Hb2 := Lib.hid (below_seq Hb1.out hb2)
    clear hb2 HB1 HR1 Hb1
    go_wp2_with fail
    refine (specBookReadings_any _ _ _ zss _ _ _ zs _ HB2.out.rd (by omega) HT.out HR2.out (by omega) hmd HDM.out).mono ?_
    rintro e w3 ⟨rfl, hb3⟩
    have HB3 := Lib.hid (HB2.out.below hb3)
    have HR3 := Lib.hid (RdI.below HR2.out hb3)
    have Hb3 := Lib.hid (below_seq Hb2.out hb3)
    clear hb3 HB2 HR2 Hb2
    by_cases hneg : Bk.reads zss zs < 0
    · have hd : decide (Bk.reads zss zs < 0) = true := decide_eq_true hneg
      clear hneg
      go_wp2_with fail
      go_ret
      exact ⟨rfl, Hb3.out⟩
    · have hd : decide (Bk.reads zss zs < 0) = false := decide_eq_false hneg
      have hvr : Bk.valid zss = true ∧ Bk.ring zs = true := by
        by_cases h : Bk.valid zss = true ∧ Bk.ring zs = true
        · exact h
        · exact absurd (by rw [Bk.reads_no h]; decide) hneg
      obtain ⟨hv, hrg⟩ := hvr
      have HE := Lib.hid (Bk.reads_yes hv hrg)
      have HV := Lib.hid hv
      have HRG := Lib.hid hrg
      have hm20 : m ≤ 20 := by rw [← Hlz.out]; exact (Bk.ring_parts hrg).2
      clear hneg hv hrg
      by_cases h0 : m = 0
      · subst h0
        have hz : zs = [] := List.eq_nil_of_length_eq_zero Hlz.out
        have HR1 : Hid (Bk.reads zss zs = 1) := by unfold Hid; rw [HE.out, hz]; exact Bk.R_nil _
        clear hz
        go_wp2_with fail
        go_ret
        exact ⟨ret_bool (by rw [HR1.out]; rfl), Hb3.out⟩
      · have hm0 : ((m : Int) == 0) = false := by rw [beq_eq_false_iff_ne]; omega
        have HNE : Hid (zs ≠ []) := fun e => h0 (by rw [← Hlz.out, e]; rfl)
        obtain ⟨bD, oD, eD, hcD⟩ := HR3.out.2 (by omega)
        subst eD
        have HRS : Hid (Bk.reads zss zs = Bk.psum zss zs (Bk.R zss) k) := by unfold Hid; rw [HE.out, Bk.R_step (Bk.valid_full HV.out) HNE.out, HB3.out.len]
        obtain ⟨hr0, hr1⟩ := Bk.R_small HV.out (l := zs) (by rw [Hlz.out]; exact hm20)
        rw [← HE.out] at hr0 hr1
        have HCD := Lib.hid hcD
        clear h0 hcD
        go_wp2_with fail
        obtain ⟨wo, rfl⟩ : ∃ wo : World, wo = w3 := ⟨_, rfl⟩
        go_loopw [7, 8] (fun s i wr => ∃ (q : Nat) (t : Int), q ≤ k ∧ i = .int .i64 q ∧ s = .int .i64 t ∧ Hid (t = Bk.psum zss zs (Bk.R zss) q) ∧ Hid (Below wo.heap.size wo wr)) (fun _ i _ => k - (intOf i).toNat)
        case atStart => exact ⟨0, 0, Nat.zero_le _, rfl, rfl, rfl, Below.refl _ _⟩
        case round =>
          obtain ⟨q, t, hq, rfl, rfl, Ht, Hb⟩ := hrel
          have HBr := Lib.hid (HB3.out.below Hb.out)
          have HRr := Lib.hid (RdI.below HR3.out Hb.out)
          obtain ⟨ht0, ht1⟩ : 0 ≤ t ∧ t ≤ 500000000000000 := by rw [Ht.out]; exact Bk.psum_small HV.out (by rw [Hlz.out]; exact hm20) (by rw [HB3.out.len]; exact hq)
          by_cases hqk : q < k
          · obtain ⟨b0, rfl, hb0, _⟩ := HBr.out.form.2.2 (by omega)
            obtain ⟨A6, n6, c6, cs, hc6, hz6, hr6, h61, h62, h63⟩ := HBr.out.at_ hqk
            have HC := Lib.hid hz6
            have hcv := Cd.valid_grp (Bk.valid_at HV.out hz6).1
            have hl6 : cs.length = n6 := hr6.len
            have hn1 : 1 ≤ n6 := by omega
            have HL6 := Lib.hid hl6
            have HR6 := Lib.hid hr6
            clear hz6 hcv hl6 hr6 h61 h62
            by_cases hfit : n6 ≤ m
            · have hdf : decide ((n6 : Int) ≤ (m : Int)) = true := decide_eq_true (by omega)
              have hfd : (n6 : Int) ≤ (d : Int) := by omega
              have HPRE : Hid (Bk.pre cs zs = decide (zs.take n6 = cs)) := by
                unfold Hid Bk.pre
                rw [HL6.out, Hlz.out, decide_eq_true hfit, Bool.true_and]
                exact decide_eq_decide.2 ⟨fun h => h.symm, fun h => h.symm⟩
              have HCALL : Hid (∀ s, Calls Try.prog 47 #[.slice (some ⟨bD, oD, none⟩) n6 d, .slice A6 n6 c6] (wr.drewN s) fun e w' => e = .returned (.bool (Bk.pre cs zs)) ∧ ∃ m, w' = (wr.drewN s).drewN m) := fun s => by
                have := sameInts_any (some ⟨bD, oD, none⟩) A6 n6 n6 d c6 (zs.take n6) cs (wr.drewN s) (RdI.take (RdI.drewN HRr.out s) hfit) (RdI.drewN HR6.out s) (by omega)
                rw [← HPRE.out] at this
                exact this
              cases hp : Bk.pre cs zs with
              | false =>
                have HC1 : Hid (∀ s, Calls Try.prog 47 #[.slice (some ⟨bD, oD, none⟩) n6 d, .slice A6 n6 c6] (wr.drewN s) fun e w' => e = .returned (.bool false) ∧ ∃ m, w' = (wr.drewN s).drewN m) := by
                  have := HCALL.out; rw [hp] at this; exact this
                have HT2 : Hid (t = Bk.psum zss zs (Bk.R zss) (q + 1)) := by unfold Hid; rw [Bk.psum_no HC.out hp]; exact Ht.out
                clear hp HCALL
                go_wp2_with fail
                go_quiet ((go_at_call 47; exact Calls.quiet_of (HC1.out _)))
                go_wp2_with fail
                go_roundw
                case rel => exact ⟨q + 1, t, by omega, by go_num, rfl, HT2.out, by first | exact Hb.out | exact below_drewN Hb.out _⟩
                case measure => simp [intOf]; omega
              | true =>
                have HC1 : Hid (∀ s, Calls Try.prog 47 #[.slice (some ⟨bD, oD, none⟩) n6 d, .slice A6 n6 c6] (wr.drewN s) fun e w' => e = .returned (.bool true) ∧ ∃ m, w' = (wr.drewN s).drewN m) := by
                  have := HCALL.out; rw [hp] at this; exact this
                have HT2 : Hid (Bk.psum zss zs (Bk.R zss) (q + 1) = t + Bk.reads zss (zs.drop n6)) := by
                  unfold Hid; rw [Bk.psum_yes HC.out hp, ← Ht.out, HL6.out, Bk.reads_yes HV.out (Bk.ring_drop HRG.out n6)]
                obtain ⟨hq0, hq1⟩ : 0 ≤ Bk.reads zss (zs.drop n6) ∧ Bk.reads zss (zs.drop n6) ≤ 100000000000000 := by
                  rw [Bk.reads_yes HV.out (Bk.ring_drop HRG.out n6)]; exact Bk.R_small HV.out (by rw [List.length_drop, Hlz.out]; omega)
                obtain ⟨A5, hA5, hA5n⟩ : ∃ A5 : Addr, (if d = n6 then some (⟨bD, oD, none⟩ : Addr) else some ⟨bD, oD + n6, none⟩) = some A5 ∧ (n6 < m → A5 = ⟨bD, oD + n6, none⟩) := by
                  by_cases e : d = n6
                  · exact ⟨_, by rw [if_pos e], fun h => by omega⟩
                  · exact ⟨_, by rw [if_neg e], fun _ => rfl⟩
                have HRD : Hid (∀ W, Below wo.heap.size wo W → RdI W (some A5) (m - n6) (zs.drop n6)) := by
                  intro W hW
                  by_cases hlt : n6 < m
                  · rw [hA5n hlt]
                    exact RdI.drop_ (RdI.below HR3.out hW) n6
                  · have e1 : m - n6 = 0 := by omega
                    rw [e1, List.drop_of_length_le (by rw [Hlz.out]; omega)]
                    exact Rd.none_ _ _
                clear hp HCALL hA5n
                go_wp2_with fail
                go_quiet ((go_at_call 47; exact Calls.quiet_of (HC1.out _)))
                generalize hwz : wr.drewN _ = wz
                have HBz : Hid (Below wo.heap.size wo wz) := hwz ▸ below_drewN Hb.out _
                have HBK := Lib.hid (HB3.out.below HBz.out)
                have HRZ := Lib.hid (HRD.out _ HBz.out)
                clear hwz hc6
                go_wp2_with fail
                refine (implBookReadings_any _ _ _ zss _ _ _ (zs.drop n6) _ HBK.out.rd HK.out HT.out HRZ.out (by omega)).mono ?_
                rintro e w5 ⟨rfl, hb5⟩
                have Hb5 := Lib.hid (below_seq HBz.out hb5)
                clear hb5
                go_wp2_with fail
                go_roundw
                case rel => exact ⟨q + 1, _, by omega, by go_num, rfl, HT2.out.symm, Hb5.out⟩
                case measure => simp [intOf]; omega
            · have hdf : decide ((n6 : Int) ≤ (m : Int)) = false := decide_eq_false (by omega)
              have HP : Hid (Bk.pre cs zs = false) := by
                unfold Hid Bk.pre
                rw [HL6.out, Hlz.out, decide_eq_false hfit, Bool.false_and]
              have HT2 : Hid (t = Bk.psum zss zs (Bk.R zss) (q + 1)) := by unfold Hid; rw [Bk.psum_no HC.out HP.out]; exact Ht.out
              go_wp2_with fail
              go_quiet (fail)
              go_wp2_with fail
              go_roundw
              case rel => exact ⟨q + 1, t, by omega, by go_num, rfl, HT2.out, by first | exact Hb.out | exact below_drewN Hb.out _⟩
              case measure => simp [intOf]; omega
          · have hqn : q = k := by omega
            subst hqn
            have HTE : Hid (t = Bk.reads zss zs) := by unfold Hid; rw [HRS.out]; exact Ht.out
            have hte : (t == Bk.reads zss zs) = true := by rw [HTE.out]; exact beq_self_eq_true _
            go_wp2_with fail
            refine (implBookClear_any _ _ _ zss _ HBr.out.rd HK.out HT.out).mono ?_
            rintro e w5 ⟨rfl, hb5⟩
            have Hb5 := Lib.hid (below_seq (below_seq Hb3.out Hb.out) hb5)
            clear hb5
            cases hcl : Bk.clear zss with
            | false =>
              clear hcl
              go_wp2_with fail
              go_ret
              exact ⟨rfl, Hb5.out⟩
            | true =>
              have h1 : decide (Bk.reads zss zs ≤ 1) = true := decide_eq_true (by rw [HE.out]; exact Bk.R_clear hcl _ zs (Nat.le_refl _))
              clear hcl
              go_wp2_with fail
              go_ret
              exact ⟨rfl, Hb5.out⟩
end Go.Proofs.Ytpfgjkgjeejghaa
