/-
  The walk of the law FnExactBookRead: it returns true for every argument and leaves old memory as it was.
  Conditions: none.
-/
import Derived.Test.YtpfgjkgjeejghaaRead5
import Derived.Test.YtpfgjkgjeejghaaRead6
import Derived.Test.YtpfgjkgjeejghaaRead7
namespace Go.Proofs.Ytpfgjkgjeejghaa
open Go.RowKit
set_option linter.unusedVariables false
attribute [local go_sem ↓] Go.wp_at_zero Go.wp_at_succ

set_option maxRecDepth 100000 in
set_option maxHeartbeats 8000000 in
theorem FnExactBookRead_walk (w : World) (A : Option Addr) (n c : Nat) (zss : List (List Int)) (hx : RdM w A n zss) (hl : n ≤ c) (hc : c ≤ maxLen)
    (A' : Option Addr) (m d : Nat) (zs : List Int) (hy : RdI w A' m zs) (hm : m ≤ d) (hd : d ≤ maxLen) (hwz : ∀ z ∈ zs, (Lit.int .i64 z).wf = true) :
    Calls Try.prog 12 #[.slice A n c, .slice A' m d] w fun e w' => e = .returned (.bool true) ∧ Below w.heap.size w w' := by
  clear hwz
  have HX := Lib.hid hx
  have HY := Lib.hid hy
  have Hl := Lib.hid hx.len
  have HM : Hid (n ≤ maxLen) := Nat.le_trans hl hc
  have hmm : m ≤ 9223372036854775807 := by unfold maxLen at hd; omega
  clear hx hy hl hc hm hd
  by_cases hbigm : 1048576 < m
  · go_enter Try.func12, Try.ntmps12
    go_wp2_with fail
    go_ret
    exact ⟨rfl, Below.refl _ _⟩
  have hm : m ≤ 1048576 := by omega
  clear hbigm hmm
  by_cases hbig : (n : Int) + tot zss ≤ 1048576
  · have hn : n ≤ 1048576 := by omega
    have ht : tot zss ≤ 1048576 := by omega
    have HL := Lib.hid (Bk.readL_len zss zs)
    generalize hr : Bk.readL zss zs = rs at HL
    have HR := Lib.hid hr
    generalize hk : Bk.readOk zss zs = ok
    have HK := Lib.hid hk
    clear hr hk
    go_enter Try.func12, Try.ntmps12
    go_wp2_with fail
    refine (szIntSS_yes _ _ _ zss _ _ HX.out hbig (by omega)).mono ?_
    rintro e w0 ⟨rfl, rfl⟩
    go_wp2_with fail
    refine (toIntSS_any _ _ _ zss _ HX.out hn ht).mono ?_
    rintro e w1 ⟨rs1, rfl, ho1, hb1⟩
    have HO1 := Lib.hid (ho1.rd Hl.out)
    have Hb1 := Lib.hid hb1
    clear ho1 hb1
    go_wp2_with fail
    refine (toIntS_any _ _ _ zs _ (RdI.below HY.out Hb1.out) (by omega)).mono ?_
    rintro e w2 ⟨rfl, ho2, hb2⟩
    have HP2 := Lib.hid (RdM.below HO1.out hb2)
    have HO2 := Lib.hid (RdI.of_own ho2)
    have Hb2 := Lib.hid (below_seq Hb1.out hb2)
    clear ho2 hb2 HO1 Hb1
    go_wp2_with fail
    refine (specBookRead_any _ _ _ zss _ _ _ zs _ HP2.out hn ht HO2.out hm (Nat.le_refl _) (by unfold maxLen; omega)).mono ?_
    rintro e w3 ⟨B, kb, cb, rfl, ho3, hb3⟩
    rw [HR.out] at ho3
    rw [HK.out]
    have hkb : kb ≤ 20 := by have h1 := ho3.1; simp at h1; have := HL.out; omega
    have HW3 := Lib.hid ho3
    have HWlt : Hid (∀ g, (Value.slice B kb cb).ownBlock = some g → g < w3.heap.size) := fun g hg => (ho3.lt g hg).2
    have Hb3 := Lib.hid (below_seq Hb2.out hb3)
    clear HP2 HO2 Hb2 ho3 hb3
    go_wp2_with fail
    refine (toIntSS_any _ _ _ zss _ (RdM.below HX.out Hb3.out) hn ht).mono ?_
    rintro e w4 ⟨rs4, rfl, ho4, hb4⟩
    have HO4 := Lib.hid ho4
    have HW4 := Lib.hid (own_belowAll HW3.out hb4)
    have Hb4 := Lib.hid (below_seq Hb3.out hb4)
    have HZ34 : Hid (w3.heap.size ≤ w4.heap.size) := hb4.size
    have HROW : Hid (∀ g, RowsB rs4 n g → w3.heap.size ≤ g ∧ g < w4.heap.size) := by
      rintro g ⟨i, r, hi, hr, hg⟩
      obtain ⟨us, hu⟩ : ∃ us, zss[i]? = some us := ⟨_, List.getElem?_eq_getElem (by rw [Hl.out]; exact hi)⟩
      exact (ho4.inn i r us hr hu).lt g hg
    clear ho4 hb4 HW3
    go_wp2_with fail
    refine (toIntS_any _ _ _ zs _ (RdI.below HY.out Hb4.out) (by omega)).mono ?_
    rintro e w5 ⟨rfl, ho5, hb5⟩
    have HP5 := Lib.hid (HO4.out.below hb5)
    have HO5 := Lib.hid ho5
    have HW5 := Lib.hid (own_belowAll HW4.out hb5)
    have Hb5 := Lib.hid (below_seq Hb4.out hb5)
    have HZ45 : Hid (w4.heap.size < w5.heap.size) := (ho5.lt w4.heap.size rfl).2
    clear ho5 hb5 HO4 HW4
    go_wp2_with fail
    refine (implBookRead_any _ _ _ zss _ _ _ zs _ (HP5.out.rd Hl.out) HM.out ht (RdI.of_own HO5.out) hm).mono ?_
    rintro e w6 ⟨G, kg, cg, rfl, ho6, hb6⟩
    rw [HR.out] at ho6
    rw [HK.out]
    have hkg : kg ≤ 20 := by have h1 := ho6.1; simp at h1; have := HL.out; omega
    have HG6 := Lib.hid ho6
    have HGge : Hid (∀ g, (Value.slice G kg cg).ownBlock = some g → w5.heap.size ≤ g) := fun g hg => (ho6.lt g hg).1
    have HP6 := Lib.hid (HP5.out.below hb6)
    have HO6 := Lib.hid (own_belowAll HO5.out hb6)
    have HW6 := Lib.hid (own_belowAll HW5.out hb6)
    have Hb6 := Lib.hid (below_seq Hb5.out hb6)
    clear ho6 hb6 HP5 HO5 HW5
    go_wp2_with fail
    refine (eqIntS_any _ _ _ _ _ _ rs rs _ (RdI.of_own HG6.out) (RdI.of_own HW6.out) (by omega)).mono ?_
    rintro e w7 ⟨rfl, m7, rfl⟩
    rw [decide_eq_true (rfl : rs = rs)]
    have HG7 := Lib.hid (own_drewN HG6.out m7)
    have HW7 := Lib.hid (own_drewN HW6.out m7)
    have HO7 := Lib.hid (own_drewN HO6.out m7)
    have HP7 : Hid (OwnM (w6.drewN m7) _ _ _ _ rs4 zss) := HP6.out.below (below_of_drewN _ _ m7)
    have Hb7 := Lib.hid (below_seqD Hb6.out m7)
    generalize w6.drewN m7 = w7 at HG7 HW7 HO7 HP7 Hb7 ⊢
    clear HG6 HW6 HO6 HP6 Hb6
    go_wp2_with fail
    refine (toIntSS_any _ _ _ zss _ (RdM.below HX.out Hb7.out) hn ht).mono ?_
    rintro e w8 ⟨rs8, rfl, ho8, hb8⟩
    have HQ8 := Lib.hid (ho8.rd Hl.out)
    have HP8 := Lib.hid (HP7.out.below hb8)
    have HG8 := Lib.hid (own_belowAll HG7.out hb8)
    have HW8 := Lib.hid (own_belowAll HW7.out hb8)
    have HO8 := Lib.hid (own_belowAll HO7.out hb8)
    have Hb8 := Lib.hid (below_seq Hb7.out hb8)
    clear ho8 hb8 HG7 HW7 HO7 HP7 Hb7
    go_wp2_with fail
    refine (eqIntSS_same _ _ _ _ _ _ zss _ (HP8.out.rd Hl.out) HQ8.out (by omega) (by omega)).mono ?_
    rintro e w9 ⟨rfl, m9, rfl⟩
    have HG9 := Lib.hid (own_drewN HG8.out m9)
    have HW9 := Lib.hid (own_drewN HW8.out m9)
    have HO9 := Lib.hid (own_drewN HO8.out m9)
    have HP9 : Hid (OwnM (w8.drewN m9) _ _ _ _ rs4 zss) := HP8.out.below (below_of_drewN _ _ m9)
    have Hb9 := Lib.hid (below_seqD Hb8.out m9)
    generalize w8.drewN m9 = w9 at HG9 HW9 HO9 HP9 Hb9 ⊢
    clear HG8 HW8 HO8 HP8 Hb8 HQ8
    go_wp2_with fail
    refine (toIntS_any _ _ _ zs _ (RdI.below HY.out Hb9.out) (by omega)).mono ?_
    rintro e w10 ⟨rfl, ho10, hb10⟩
    have HQ10 := Lib.hid (RdI.of_own ho10)
    have HP10 := Lib.hid (HP9.out.below hb10)
    have HG10 := Lib.hid (own_belowAll HG9.out hb10)
    have HW10 := Lib.hid (own_belowAll HW9.out hb10)
    have HO10 := Lib.hid (own_belowAll HO9.out hb10)
    have Hb10 := Lib.hid (below_seq Hb9.out hb10)
    clear ho10 hb10 HG9 HW9 HO9 HP9 Hb9
    go_wp2_with fail
    refine (eqIntS_any _ _ _ _ _ _ zs zs _ (RdI.of_own HO10.out) HQ10.out (by omega)).mono ?_
    rintro e w11 ⟨rfl, m11, rfl⟩
    rw [decide_eq_true (rfl : zs = zs)]
    have HG11 := Lib.hid (own_drewN HG10.out m11)
    have HW11 := Lib.hid (own_drewN HW10.out m11)
    have HO11 := Lib.hid (own_drewN HO10.out m11)
    have HP11 : Hid (OwnM (w10.drewN m11) _ _ _ _ rs4 zss) := HP10.out.below (below_of_drewN _ _ m11)
    have Hb11 := Lib.hid (below_seqD Hb10.out m11)
    generalize w10.drewN m11 = w11 at HG11 HW11 HO11 HP11 Hb11 ⊢
    clear HG10 HW10 HO10 HP10 Hb10 HQ10
    go_wp2_with fail
    refine (markIntSS_any _ _ _ _ rs4 zss _ _ HP11.out Hl.out hn ht (by omega) (by omega)).mono ?_
    rintro e w12 ⟨rfl, hc12⟩
    have HG12 := Lib.hid (hc12.own HG11.out fun g hg h => by have := HGge.out g hg; have := HROW.out g h; have := HZ45.out; omega)
    have HW12 := Lib.hid (hc12.own HW11.out fun g hg h => by have := HWlt.out g hg; have := HROW.out g h; omega)
    have HO12 := Lib.hid (hc12.own HO11.out fun g hg h => by simp [Value.ownBlock] at hg; have := HROW.out g h; omega)
    have Hb12 : Hid (Below w.heap.size w w12) := hc12.on Hb11.out (fun i _ h => by have := (HROW.out i h).1; have := Hb3.out.size; omega) Hb11.out.size
    clear hc12 HG11 HW11 HO11 HP11 Hb11
    go_wp2_with fail
    refine (markIntS_any _ _ _ zs _ _ _ HO12.out (by omega) (by omega) (by omega)).mono ?_
    rintro e w13 ⟨rfl, _, hg13⟩
    have HG13 := Lib.hid (own_kept HG12.out hg13 (fun g r h1 h2 => by have := HGge.out g h1; have := HZ45.out; simp [Value.ownBlock] at h2; omega))
    have HW13 := Lib.hid (own_kept HW12.out hg13 (fun g r h1 h2 => by have := HWlt.out g h1; have := HZ34.out; simp [Value.ownBlock] at h2; omega))
    have Hb13 := Lib.hid (below_grown Hb12.out hg13 Hb12.out.size (fun r h => by simp [Value.ownBlock] at h; have := Hb4.out.size; omega))
    clear hg13 HG12 HW12 HO12 Hb12
    go_wp2_with fail
    refine (eqIntS_any _ _ _ _ _ _ rs rs _ (RdI.of_own HG13.out) (RdI.of_own HW13.out) (by omega)).mono ?_
    rintro e w14 ⟨rfl, m14, rfl⟩
    rw [decide_eq_true (rfl : rs = rs)]
    have HG14 := Lib.hid (own_drewN HG13.out m14)
    have HW14 := Lib.hid (own_drewN HW13.out m14)
    have Hb14 := Lib.hid (below_seqD Hb13.out m14)
    generalize w13.drewN m14 = w14 at HG14 HW14 Hb14 ⊢
    clear HG13 HW13 Hb13
    go_wp2_with fail
    refine (markIntS_any _ _ _ rs _ _ _ HG14.out (by omega) (by omega) (by omega)).mono ?_
    rintro e w15 ⟨rfl, ho15, hg15⟩
    have HG15 := Lib.hid ho15
    have HW15 := Lib.hid (own_kept HW14.out hg15 (fun g r h1 h2 => by have := HWlt.out g h1; have := HGge.out r h2; have := HZ34.out; have := HZ45.out; omega))
    have Hb15 := Lib.hid (below_grown Hb14.out hg15 Hb14.out.size (fun r h => by have := HGge.out r h; have := Hb5.out.size; omega))
    clear ho15 hg15 HG14 HW14 Hb14
    go_wp2_with fail
    refine (heldIntS_any _ _ _ _ _ (RdI.of_own HG15.out) (by omega) (by omega) (by omega)).mono ?_
    rintro e w16 ⟨rfl, rfl⟩
    go_wp2_with fail
    refine (toIntSS_any _ _ _ zss _ (RdM.below HX.out Hb15.out) hn ht).mono ?_
    rintro e w17 ⟨rs17, rfl, ho17, hb17⟩
    have HQ17 := Lib.hid (ho17.rd Hl.out)
    have HG17 := Lib.hid (own_belowAll HG15.out hb17)
    have HW17 := Lib.hid (own_belowAll HW15.out hb17)
    have Hb17 := Lib.hid (below_seq Hb15.out hb17)
    clear ho17 hb17 HG15 HW15 Hb15
    go_wp2_with fail
    refine (toIntS_any _ _ _ zs _ (RdI.below HY.out Hb17.out) (by omega)).mono ?_
    rintro e w18 ⟨rfl, ho18, hb18⟩
    have HR18 := Lib.hid (RdI.of_own ho18)
    have HQ18 := Lib.hid (RdM.below HQ17.out hb18)
    have HG18 := Lib.hid (own_belowAll HG17.out hb18)
    have HW18 := Lib.hid (own_belowAll HW17.out hb18)
    have Hb18 := Lib.hid (below_seq Hb17.out hb18)
    clear ho18 hb18 HG17 HW17 Hb17 HQ17
    go_wp2_with fail
    refine (implBookRead_any _ _ _ zss _ _ _ zs _ HQ18.out HM.out ht HR18.out hm).mono ?_
    rintro e w19 ⟨E, ke, ce, rfl, ho19, hb19⟩
    rw [HR.out] at ho19
    rw [HK.out]
    have hke : ke ≤ 20 := by have h1 := ho19.1; simp at h1; have := HL.out; omega
    have HE19 := Lib.hid ho19
    have HG19 := Lib.hid (own_belowAll HG18.out hb19)
    have HW19 := Lib.hid (own_belowAll HW18.out hb19)
    have Hb19 := Lib.hid (below_seq Hb18.out hb19)
    clear ho19 hb19 HG18 HW18 HQ18 HR18 Hb18
    go_wp2_with fail
    refine (eqIntS_any _ _ _ _ _ _ rs rs _ (RdI.of_own HE19.out) (RdI.of_own HW19.out) (by omega)).mono ?_
    rintro e w20 ⟨rfl, m20, rfl⟩
    rw [decide_eq_true (rfl : rs = rs)]
    have HG20 := Lib.hid (own_drewN HG19.out m20)
    have Hb20 := Lib.hid (below_seqD Hb19.out m20)
    generalize w19.drewN m20 = w20 at HG20 Hb20 ⊢
    clear HE19 HG19 HW19 Hb19
    go_wp2_with fail
    refine (heldIntS_any _ _ _ _ _ (RdI.of_own HG20.out) (by omega) (by omega) (by omega)).mono ?_
    rintro e w21 ⟨rfl, rfl⟩
    go_wp2_with fail
    go_ret
    exact ⟨rfl, Hb20.out⟩
  · go_enter Try.func12, Try.ntmps12
    go_wp2_with fail
    refine (szIntSS_no _ _ _ zss _ _ HX.out (by omega) (by omega) (by omega) HM.out).mono ?_
    rintro e w0 ⟨rfl, rfl⟩
    go_wp2_with fail
    go_ret
    exact ⟨rfl, Below.refl _ _⟩
end Go.Proofs.Ytpfgjkgjeejghaa
