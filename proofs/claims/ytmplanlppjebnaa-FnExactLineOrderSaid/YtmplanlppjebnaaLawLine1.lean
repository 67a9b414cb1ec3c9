/-
  The walk of the law FnExactLineOrder: it returns true for every list of moves and leaves old memory as it was.
  Conditions: none.
-/
import Derived.Test.YtmplanlppjebnaaSort8
import Derived.Test.YtmplanlppjebnaaMv3
namespace Go.Proofs.Ytmplanlppjebnaa
open Go.RowKit
set_option linter.unusedVariables false
attribute [local go_sem ↓] Go.wp_at_zero Go.wp_at_succ

theorem ord_eq {n : Nat} {xs ys zs : List Mv} (hn : xs.length = n) (h1 : So.Stab xs ys) (s1 : So.Seg ys 0 n) (h2 : So.Stab xs zs) (s2 : So.Seg zs 0 n) : zs = ys :=
  So.unique zs ys (So.seg_pairwise (by rw [h2.1, hn]; exact s2)) (So.seg_pairwise (by rw [h1.1, hn]; exact s1)) (fun k => (h2.2 k).trans (h1.2 k).symm)
set_option maxRecDepth 100000 in
set_option maxHeartbeats 8000000 in
theorem FnExactLineOrder_walk (w : World) (A : Option Addr) (n c : Nat) (xs : List Mv) (hx : RdV w A n xs) (hl : n ≤ c) (hc : c ≤ maxLen) (hsh : Short xs) :
    Calls Try.prog 6 #[.slice A n c] w fun e w' => e = .returned (.bool true) ∧ Below w.heap.size w w' := by
  have HX := Lib.hid hx
  have HSH := Lib.hid hsh
  have HXL := Lib.hid hx.len
  have HNM : Hid (n ≤ maxLen) := Nat.le_trans hl hc
  clear hx hsh hc hl
  go_enter Try.func6, Try.ntmps6
  go_wp2_with fail
  refine (szMoveS_any _ _ _ xs _ HX.out HNM.out HSH.out).mono ?_
  rintro e w1 ⟨r, rfl, hr, hr1, hb1⟩
  have Hb1 := Lib.hid hb1
  clear hb1
  by_cases h0 : r < 0
  · go_wp2_with fail
    go_ret
    exact ⟨rfl, Hb1.out⟩
  · have hn : n ≤ 1048576 := by have := hr (by omega); omega
    clear hr
    go_wp2_with fail
    refine (toMoveS_any _ _ _ xs _ (HX.out.below Hb1.out) hn).mono ?_
    rintro e w2 ⟨rfl, ho2, hb2⟩
    have HO2 := Lib.hid (RdV.of_own ho2)
    have Hb2 := Lib.hid (below_seq Hb1.out hb2)
    clear ho2 hb2
    go_wp2_with fail
    refine (specLineOrder_any _ 0 n n xs _ HO2.out hn).mono ?_
    rintro e w3 ⟨ga, ca, ys, rfl, hoa, hst, hsg, hb3⟩
    have HA3 := Lib.hid hoa
    have hga : ga < w3.heap.size := (hoa.lt ga rfl).2
    have HORD : Hid (∀ zs, So.Stab xs zs → So.Seg zs 0 n → zs = ys) := fun zs e1 e2 => ord_eq HXL.out hst hsg e1 e2
    have Hb3 := Lib.hid (below_seq Hb2.out hb3)
    clear hoa hst hsg hb3
    go_wp2_with fail
    refine (toMoveS_any _ _ _ xs _ (HX.out.below Hb3.out) hn).mono ?_
    rintro e w4 ⟨rfl, ho4, hb4⟩
    obtain ⟨gx, hgx⟩ : ∃ gx, gx = w3.heap.size := ⟨_, rfl⟩
    rw [← hgx] at ho4 ⊢
    have hgx4 : gx < w4.heap.size := (ho4.lt gx rfl).2
    have hgax : ga < gx := by omega
    have HX4 := Lib.hid ho4
    have HA4 := Lib.hid (own_belowAll HA3.out hb4)
    have Hb4 := Lib.hid (below_seq Hb3.out hb4)
    have hgw : w.heap.size ≤ gx := by have := Hb3.out.size; omega
    clear ho4 hb4 HA3 hga hgx
    go_wp2_with fail
    refine (implLineOrder_any _ 0 n n xs _ (RdV.of_own HX4.out) hn).mono ?_
    rintro e w5 ⟨gg, cg, zs, rfl, hog, hst, hsg, hb5⟩
    have hzs := HORD.out zs hst hsg
    subst hzs
    have hgg5 : w4.heap.size ≤ gg ∧ gg < w5.heap.size := hog.lt gg rfl
    have HG5 := Lib.hid hog
    have HX5 := Lib.hid (own_belowAll HX4.out hb5)
    have HA5 := Lib.hid (own_belowAll HA4.out hb5)
    have Hb5 := Lib.hid (below_seq Hb4.out hb5)
    clear hog hst hsg hb5 HX4 HA4
    go_wp2_with fail
    refine (eqMoveS_same _ _ _ _ _ zs _ (RdV.of_own HG5.out) (RdV.of_own HA5.out) hn).mono ?_
    rintro e w6 ⟨rfl, hb6⟩
    have HG6 := Lib.hid (own_belowAll HG5.out hb6)
    have HX6 := Lib.hid (own_belowAll HX5.out hb6)
    have HA6 := Lib.hid (own_belowAll HA5.out hb6)
    have Hb6 := Lib.hid (below_seq Hb5.out hb6)
    clear hb6 HG5 HX5 HA5
    go_wp2_with fail
    refine (toMoveS_any _ _ _ xs _ (HX.out.below Hb6.out) hn).mono ?_
    rintro e w7 ⟨rfl, ho7, hb7⟩
    have HO7 := Lib.hid (RdV.of_own ho7)
    have HG7 := Lib.hid (own_belowAll HG6.out hb7)
    have HX7 := Lib.hid (own_belowAll HX6.out hb7)
    have HA7 := Lib.hid (own_belowAll HA6.out hb7)
    have Hb7 := Lib.hid (below_seq Hb6.out hb7)
    clear ho7 hb7 HG6 HX6 HA6
    go_wp2_with fail
    refine (eqMoveS_same _ _ _ _ _ xs _ (RdV.of_own HX7.out) HO7.out hn).mono ?_
    rintro e w8 ⟨rfl, hb8⟩
    have HG8 := Lib.hid (own_belowAll HG7.out hb8)
    have HX8 := Lib.hid (own_belowAll HX7.out hb8)
    have HA8 := Lib.hid (own_belowAll HA7.out hb8)
    have Hb8 := Lib.hid (below_seq Hb7.out hb8)
    clear hb8 HG7 HX7 HA7 HO7
    go_wp2_with fail
    refine (markMoveS_any _ gx n n xs _ HX8.out hn).mono ?_
    rintro e w9 ⟨rfl, _, hg9⟩
    have HG9 := Lib.hid (own_kept HG8.out hg9 (fun a r e1 e2 => by have h1 : gg = a := Option.some.inj e1; have h2 : gx = r := Option.some.inj e2; omega))
    have HA9 := Lib.hid (own_kept HA8.out hg9 (fun a r e1 e2 => by have h1 : ga = a := Option.some.inj e1; have h2 : gx = r := Option.some.inj e2; omega))
    have Hb9 : Hid (Below w.heap.size w w9) := Hb8.out.grown hg9 Hb8.out.size (fun r e => by have h2 : gx = r := Option.some.inj e; omega)
    clear hg9 HG8 HX8 HA8
    have q1 : decide (1 + 2 * (n : Int) < 0) = false := decide_eq_false (by omega)
    have q2 : ¬ (1 + 2 * (n : Int) < 0) := by omega
    go_wp2_with fail
    refine (eqMoveS_same _ _ _ _ _ zs _ (RdV.of_own HG9.out) (RdV.of_own HA9.out) hn).mono ?_
    rintro e w10 ⟨rfl, hb10⟩
    have HG10 := Lib.hid (own_belowAll HG9.out hb10)
    have HA10 := Lib.hid (own_belowAll HA9.out hb10)
    have Hb10 := Lib.hid (below_seq Hb9.out hb10)
    clear hb10 HG9 HA9
    go_wp2_with fail
    refine (markMoveS_any _ gg n cg zs _ HG10.out hn).mono ?_
    rintro e w11 ⟨rfl, ho11, hg11⟩
    have HM11 := Lib.hid (RdV.of_own ho11)
    have HA11 := Lib.hid (own_kept HA10.out hg11 (fun a r e1 e2 => by have h1 : ga = a := Option.some.inj e1; have h2 : gg = r := Option.some.inj e2; omega))
    have Hb11 : Hid (Below w.heap.size w w11) := Hb10.out.grown hg11 Hb10.out.size (fun r e => by have h2 : gg = r := Option.some.inj e; omega)
    clear ho11 hg11 HG10 HA10
    go_wp2_with fail
    refine (heldMoveS_any _ n cg _ HM11.out hn).mono ?_
    rintro e w12 ⟨rfl, hb12⟩
    have HM12 := Lib.hid (HM11.out.below hb12)
    have HA12 := Lib.hid (own_belowAll HA11.out hb12)
    have Hb12 := Lib.hid (below_seq Hb11.out hb12)
    clear hb12 HM11 HA11
    go_wp2_with fail
    refine (toMoveS_any _ _ _ xs _ (HX.out.below Hb12.out) hn).mono ?_
    rintro e w13 ⟨rfl, ho13, hb13⟩
    have HO13 := Lib.hid (RdV.of_own ho13)
    have HM13 := Lib.hid (HM12.out.below hb13)
    have HA13 := Lib.hid (own_belowAll HA12.out hb13)
    have Hb13 := Lib.hid (below_seq Hb12.out hb13)
    clear ho13 hb13 HM12 HA12
    go_wp2_with fail
    refine (implLineOrder_any _ 0 n n xs _ HO13.out hn).mono ?_
    rintro e w14 ⟨gh, ch, us, rfl, hoh, hst, hsg, hb14⟩
    have hus := HORD.out us hst hsg
    rw [hus] at hoh
    have HH14 := Lib.hid (RdV.of_own hoh)
    have HM14 := Lib.hid (HM13.out.below hb14)
    have HA14 := Lib.hid (own_belowAll HA13.out hb14)
    have Hb14 := Lib.hid (below_seq Hb13.out hb14)
    clear hoh hst hsg hb14 HM13 HA13 HO13 hus
    go_wp2_with fail
    refine (eqMoveS_same _ _ _ _ _ zs _ HH14.out (RdV.of_own HA14.out) hn).mono ?_
    rintro e w15 ⟨rfl, hb15⟩
    have HM15 := Lib.hid (HM14.out.below hb15)
    have Hb15 := Lib.hid (below_seq Hb14.out hb15)
    clear hb15 HH14 HA14 HM14
    go_wp2_with fail
    refine (heldMoveS_any _ n cg _ HM15.out hn).mono ?_
    rintro e w16 ⟨rfl, hb16⟩
    have Hb16 := Lib.hid (below_seq Hb15.out hb16)
    clear hb16
    go_wp2_with fail
    go_ret
    exact ⟨rfl, Hb16.out⟩
end Go.Proofs.Ytmplanlppjebnaa
