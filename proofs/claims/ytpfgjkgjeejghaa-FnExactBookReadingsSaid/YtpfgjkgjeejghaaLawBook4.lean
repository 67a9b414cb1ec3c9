/-
  The walk of the law FnExactBookReadings: it returns true for every argument and leaves old memory as it was.
  Conditions: none.
-/
import Derived.Test.YtpfgjkgjeejghaaRead3
namespace Go.Proofs.Ytpfgjkgjeejghaa
open Go.RowKit
set_option linter.unusedVariables false
attribute [local go_sem ↓] Go.wp_at_zero Go.wp_at_succ

set_option maxRecDepth 100000 in
set_option maxHeartbeats 4000000 in
theorem FnExactBookReadings_walk (w : World) (A : Option Addr) (n c : Nat) (zss : List (List Int)) (hx : RdM w A n zss) (hl : n ≤ c) (hc : c ≤ maxLen)
    (A' : Option Addr) (m d : Nat) (zs : List Int) (hy : RdI w A' m zs) (hm : m ≤ d) (hd : d ≤ maxLen) (hwz : ∀ z ∈ zs, (Lit.int .i64 z).wf = true) :
    Calls Try.prog 11 #[.slice A n c, .slice A' m d] w fun e w' => e = .returned (.bool true) ∧ Below w.heap.size w w' := by
  clear hwz
  have HX := Lib.hid hx
  have HY := Lib.hid hy
  have Hl := Lib.hid hx.len
  have HM : Hid (n ≤ maxLen) := Nat.le_trans hl hc
  have hmm : m ≤ 9223372036854775807 := by unfold maxLen at hd; omega
  clear hx hy hl hc hm hd
  by_cases hbigm : 1048576 < m
  · go_enter Try.func11, Try.ntmps11
    go_wp2_with fail
    go_ret
    exact ⟨rfl, Below.refl _ _⟩
  have hm : m ≤ 1048576 := by omega
  clear hbigm hmm
  by_cases hbig : (n : Int) + tot zss ≤ 1048576
  · have hn : n ≤ 1048576 := by omega
    have ht : tot zss ≤ 1048576 := by omega
    go_enter Try.func11, Try.ntmps11
    go_wp2_with fail
    refine (szIntSS_yes _ _ _ zss _ _ HX.out hbig (by omega)).mono ?_
    rintro e w0 ⟨rfl, rfl⟩
    go_wp2_with fail
    refine (toIntSS_any _ _ _ zss _ HX.out hn ht).mono ?_
    rintro e w1 ⟨rs1, rfl, ho1, hb1⟩
    have HO1 := Lib.hid (ho1.rd Hl.out)
    have Hb1 := Lib.hid hb1
    clear ho1 hb1
    go_wp2_with fail
    refine (toIntS_any _ _ _ zs _ (RdI.below HY.out Hb1.out) (by omega)).mono ?_
    rintro e w2 ⟨rfl, ho2, hb2⟩
    have HP2 := Lib.hid (RdM.below HO1.out hb2)
    have HO2 := Lib.hid (RdI.of_own ho2)
    have Hb2 := Lib.hid (below_seq Hb1.out hb2)
    clear ho2 hb2 HO1 Hb1
    go_wp2_with fail
    refine (specBookReadings_any _ _ _ zss _ _ _ zs _ HP2.out hn ht HO2.out hm (Nat.le_refl _) (by unfold maxLen; omega)).mono ?_
    rintro e w3 ⟨rfl, hb3⟩
    have Hb3 := Lib.hid (below_seq Hb2.out hb3)
    clear HP2 HO2 Hb2 hb3
    go_wp2_with fail
    refine (toIntSS_any _ _ _ zss _ (RdM.below HX.out Hb3.out) hn ht).mono ?_
    rintro e w4 ⟨rs4, rfl, ho4, hb4⟩
    have HO4 := Lib.hid (ho4.rd Hl.out)
    have Hb4 := Lib.hid (below_seq Hb3.out hb4)
    clear ho4 hb4 Hb3
    go_wp2_with fail
    refine (toIntS_any _ _ _ zs _ (RdI.below HY.out Hb4.out) (by omega)).mono ?_
    rintro e w5 ⟨rfl, ho5, hb5⟩
    have HP5 := Lib.hid (RdM.below HO4.out hb5)
    have HO5 := Lib.hid (RdI.of_own ho5)
    have Hb5 := Lib.hid (below_seq Hb4.out hb5)
    clear ho5 hb5 HO4 Hb4
    go_wp2_with fail
    refine (implBookReadings_any _ _ _ zss _ _ _ zs _ HP5.out HM.out ht HO5.out hm).mono ?_
    rintro e w6 ⟨rfl, hb6⟩
    have HP6 := Lib.hid (RdM.below HP5.out hb6)
    have HO6 := Lib.hid (RdI.below HO5.out hb6)
    have Hb6 := Lib.hid (below_seq Hb5.out hb6)
    clear hb6 HP5 HO5 Hb5
    go_wp2_with fail
    refine (toIntSS_any _ _ _ zss _ (RdM.below HX.out Hb6.out) hn ht).mono ?_
    rintro e w7 ⟨rs7, rfl, ho7, hb7⟩
    have HQ7 := Lib.hid (ho7.rd Hl.out)
    have HP7 := Lib.hid (RdM.below HP6.out hb7)
    have HO7 := Lib.hid (RdI.below HO6.out hb7)
    have Hb7 := Lib.hid (below_seq Hb6.out hb7)
    clear ho7 hb7 HP6 HO6 Hb6
    go_wp2_with fail
    refine (eqIntSS_same _ _ _ _ _ _ zss _ HP7.out HQ7.out (by omega) (by omega)).mono ?_
    rintro e w8 ⟨rfl, m8, rfl⟩
    have HO8 := Lib.hid (RdI.drewN HO7.out m8)
    have Hb8 := Lib.hid (below_drewN Hb7.out m8)
    generalize w7.drewN m8 = w8 at HO8 Hb8 ⊢
    clear HP7 HQ7 HO7 Hb7
    go_wp2_with fail
    refine (toIntS_any _ _ _ zs _ (RdI.below HY.out Hb8.out) (by omega)).mono ?_
    rintro e w9 ⟨rfl, ho9, hb9⟩
    have HP9 := Lib.hid (RdI.below HO8.out hb9)
    have HO9 := Lib.hid (RdI.of_own ho9)
    have Hb9 := Lib.hid (below_seq Hb8.out hb9)
    clear ho9 hb9 HO8 Hb8
    go_wp2_with fail
    refine (eqIntS_any _ _ _ _ _ _ zs zs _ HP9.out HO9.out (by omega)).mono ?_
    rintro e w10 ⟨rfl, m10, rfl⟩
    rw [decide_eq_true (rfl : zs = zs)]
    go_wp2_with fail
    go_ret
    exact ⟨rfl, below_drewN Hb9.out _⟩
  · go_enter Try.func11, Try.ntmps11
    go_wp2_with fail
    refine (szIntSS_no _ _ _ zss _ _ HX.out (by omega) (by omega) (by omega) HM.out).mono ?_
    rintro e w0 ⟨rfl, rfl⟩
    go_wp2_with fail
    go_ret
    exact ⟨rfl, Below.refl _ _⟩
end Go.Proofs.Ytpfgjkgjeejghaa
