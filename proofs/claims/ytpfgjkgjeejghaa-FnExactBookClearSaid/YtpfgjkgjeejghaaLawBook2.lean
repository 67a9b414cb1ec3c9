/-
  The walk of the law FnExactBookClear: it returns true for every argument and leaves old memory as it was.
  Conditions: none.
-/
import Derived.Test.YtpfgjkgjeejghaaBooks3
namespace Go.Proofs.Ytpfgjkgjeejghaa
open Go.RowKit
set_option linter.unusedVariables false
attribute [local go_sem ↓] Go.wp_at_zero Go.wp_at_succ

set_option maxRecDepth 100000 in
set_option maxHeartbeats 4000000 in
theorem FnExactBookClear_walk (w : World) (A : Option Addr) (n c : Nat) (zss : List (List Int)) (hx : RdM w A n zss) (hl : n ≤ c) (hc : c ≤ maxLen) :
    Calls Try.prog 10 #[.slice A n c] w fun e w' => e = .returned (.bool true) ∧ Below w.heap.size w w' := by
  have HX := Lib.hid hx
  have Hl := Lib.hid hx.len
  have HM : Hid (n ≤ maxLen) := Nat.le_trans hl hc
  clear hx hl hc
  by_cases hbig : (n : Int) + tot zss ≤ 1048576
  · have hn : n ≤ 1048576 := by omega
    have ht : tot zss ≤ 1048576 := by omega
    go_enter Try.func10, Try.ntmps10
    go_wp2_with fail
    refine (szIntSS_yes _ _ _ zss _ _ HX.out hbig (by omega)).mono ?_
    rintro e w0 ⟨rfl, rfl⟩
    go_wp2_with fail
    refine (toIntSS_any _ _ _ zss _ HX.out hn ht).mono ?_
    rintro e w1 ⟨rs1, rfl, ho1, hb1⟩
    have HO1 := Lib.hid (ho1.rd Hl.out)
    have Hb1 := Lib.hid hb1
    clear ho1 hb1
    go_wp2_with fail
    refine (specBookClear_any _ _ _ zss _ HO1.out hn ht).mono ?_
    rintro e w2 ⟨rfl, m2, rfl⟩
    have Hb2 := Lib.hid (below_drewN Hb1.out m2)
    generalize w1.drewN m2 = w2 at Hb2 ⊢
    clear HO1 Hb1
    go_wp2_with fail
    refine (toIntSS_any _ _ _ zss _ (RdM.below HX.out Hb2.out) hn ht).mono ?_
    rintro e w3 ⟨rs3, rfl, ho3, hb3⟩
    have HO3 := Lib.hid (ho3.rd Hl.out)
    have Hb3 := Lib.hid (below_seq Hb2.out hb3)
    clear ho3 hb3
    go_wp2_with fail
    refine (implBookClear_any _ _ _ zss _ HO3.out HM.out ht).mono ?_
    rintro e w4 ⟨rfl, hb4⟩
    have HO4 := Lib.hid (RdM.below HO3.out hb4)
    have Hb4 := Lib.hid (below_seq Hb3.out hb4)
    clear hb4
    go_wp2_with fail
    refine (toIntSS_any _ _ _ zss _ (RdM.below HX.out Hb4.out) hn ht).mono ?_
    rintro e w5 ⟨rs5, rfl, ho5, hb5⟩
    have HO5 := Lib.hid (ho5.rd Hl.out)
    have HP5 := Lib.hid (RdM.below HO4.out hb5)
    have Hb5 := Lib.hid (below_seq Hb4.out hb5)
    clear ho5 hb5
    go_wp2_with fail
    refine (eqIntSS_same _ _ _ _ _ _ zss _ HP5.out HO5.out (by omega) (by omega)).mono ?_
    rintro e w6 ⟨rfl, m6, rfl⟩
    go_wp2_with fail
    go_ret
    exact ⟨rfl, below_drewN Hb5.out _⟩
  · go_enter Try.func10, Try.ntmps10
    go_wp2_with fail
    refine (szIntSS_no _ _ _ zss _ _ HX.out (by omega) (by omega) (by omega) HM.out).mono ?_
    rintro e w0 ⟨rfl, rfl⟩
    go_wp2_with fail
    go_ret
    exact ⟨rfl, Below.refl _ _⟩
end Go.Proofs.Ytpfgjkgjeejghaa
