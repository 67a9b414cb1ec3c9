/-
  The walk of the law FnCodeMany: it returns true for every list of bytes and leaves old memory as it was.
-/
import Derived.Test.YtablnijmoohjhaaDrawNth
import Derived.Test.YtablnijmoohjhaaCodesEnds
import Derived.Deep.RegionWith
import Derived.Deep.DrawnRows
import Derived.Deep.RegionHeld3
import Derived.IntWalk
namespace Go.Proofs.Ytablnijmoohjhaa
open Go.RowKit
set_option linter.unusedVariables false
attribute [local go_sem ↓] Go.wp_at_zero Go.wp_at_succ


set_option maxRecDepth 100000 in
set_option maxHeartbeats 8000000 in
theorem FnCodeMany_walk (w : World) (A : Option Addr) (n c : Nat) (bs : List UInt8) (hx : RdB w A n bs) (hl : n ≤ c) (hc : c ≤ maxLen) :
    Calls Try.prog 12 #[.slice A n c] w fun e w' => e = .returned (.bool true) ∧ Below w.heap.size w w' := by
  have HX := Lib.hid hx
  have hc' := hc
  clear hx
  unfold maxLen at hc
  by_cases hbig : (1048576 : Int) < n
  · go_enter Try.func12, Try.ntmps12
    go_wp2_with fail
    go_ret
    exact ⟨rfl, Below.refl _ _⟩
  · have hs : (n : Int) ≤ 1048576 := by omega
    clear hbig
    go_enter Try.func12, Try.ntmps12
    go_wp2_with fail
    refine (DrawCodeMany_any _ _ _ bs _ HX.out hl hc').mono ?_
    rintro e w1 ⟨N, rfl, hN0, hN1, hb1⟩
    have Hb1 := Lib.hid hb1
    clear hb1
    go_wp2_with fail
    refine (implCodeMany_any _ _).mono ?_
    rintro e w2 ⟨rfl, rfl⟩
    go_wp2_with fail
    refine (specCodeMany_any _ _).mono ?_
    rintro e w2 ⟨rfl, rfl⟩
    by_cases hout : N < 0 ∨ 30 < N
    · have HE : Hid (Cd.many N = -1) := by unfold Hid Cd.many; rw [if_pos hout]
      clear hout
      rw [HE.out]
      go_wp2_with fail
      go_ret
      exact ⟨rfl, Hb1.out⟩
    · by_cases h0 : N = 0
      · subst h0
        clear hout
        rw [show Cd.many 0 = 0 from rfl]
        go_wp2_with fail
        refine (implCodeNth_any _ _ _ (by omega) (by omega)).mono ?_
        rintro e w3 ⟨X, kx, cx, rfl, ho3, hb3⟩
        rw [show Cd.nthOk 0 0 = false from rfl]
        have Hb3 := Lib.hid (below_seq Hb1.out hb3)
        clear ho3 hb3
        go_wp2_with fail
        refine (implCodeNth_any _ _ _ (by omega) (by omega)).mono ?_
        rintro e w4 ⟨X, kx, cx, rfl, ho4, hb4⟩
        rw [show Cd.nthOk 0 (-1) = false from rfl]
        have Hb4 := Lib.hid (below_seq Hb3.out hb4)
        clear ho4 hb4
        go_wp2_with fail
        refine (implCodeNth_any _ _ _ (by omega) (by omega)).mono ?_
        rintro e w5 ⟨X, kx, cx, rfl, ho5, hb5⟩
        rw [show Cd.nthOk 0 0 = false from rfl]
        have Hb5 := Lib.hid (below_seq Hb4.out hb5)
        clear ho5 hb5
        go_wp2_with fail
        go_ret
        exact ⟨rfl, Hb5.out⟩
      · have hE := Cd.ends (n := N) (by omega) (by omega)
        obtain ⟨m1, m2, kno, kx1, ky1, x, y, xs, ys, hxs, hys, hxy, hxm, hlx, hly⟩ := hE
        have HRX := Lib.hid (Cd.nthL_good kx1)
        have HRY := Lib.hid (Cd.nthL_good ky1)
        have HNO := Lib.hid kno
        have HKX := Lib.hid kx1
        have HKY := Lib.hid ky1
        have HXS := Lib.hid hxs
        have HYS := Lib.hid hys
        have HXM := Lib.hid hxm
        have hN1' : 1 ≤ N := by omega
        have hN30 : N ≤ 30 := by omega
        have hm0 : (Cd.many N == 0) = false := by simp; omega
        clear hout h0 kno kx1 ky1 hxs hys hxm
        go_wp2_with fail
        refine (implCodeNth_any _ _ _ (by omega) (by omega)).mono ?_
        rintro e w3 ⟨Z, kz, cz, rfl, ho3, hb3⟩
        rw [HNO.out]
        have Hb3 := Lib.hid (below_seq Hb1.out hb3)
        clear ho3 hb3
        go_wp2_with fail
        refine (implCodeNth_any _ _ _ (by omega) (by omega)).mono ?_
        rintro e w4 ⟨X, kx, cx, rfl, ho4, hb4⟩
        rw [HKX.out]
        rw [HXS.out] at ho4
        have Hb4 := Lib.hid (below_seq Hb3.out hb4)
        have Ho4 := Lib.hid ho4
        clear ho4 hb4
        go_wp2_with fail
        refine (implCodeNth_any _ _ _ (by omega) (by omega)).mono ?_
        rintro e w5 ⟨Y, ky, cy, rfl, ho5, hb5⟩
        rw [HKY.out]
        rw [HYS.out] at ho5
        have Hb5 := Lib.hid (below_seq Hb4.out hb5)
        have Ho5 := Lib.hid ho5
        have HoX := Lib.hid (own_belowAll Ho4.out hb5)
        clear ho5 hb5 Ho4
        have hkx : kx = xs.length + 1 := by have := HoX.out.1; simpa using this.symm
        have hky : ky = ys.length + 1 := by have := Ho5.out.1; simpa using this.symm
        subst hkx hky
        obtain ⟨bx, ox, zx, rfl, hzx, hcx⟩ := (RdI.of_own HoX.out).at_ (k := 0) (by omega)
        obtain ⟨b2, o2, zy, rfl, hzy, hcy⟩ := (RdI.of_own Ho5.out).at_ (k := 0) (by omega)
        simp at hzx hzy
        subst hzx hzy
        rw [Nat.add_zero] at hcx hcy
        have hmin : (min N 6 == x) = true := by rw [HXM.out]; simp
        have hmin2 : (x == min N 6) = true := by rw [HXM.out]; simp
        have hxyb : decide (y ≤ x) = true := decide_eq_true hxy
        have hw1 : IntKind.i64.wrap (Cd.many N - 1) = Cd.many N - 1 := IntWalk.i64_in _ (by omega)
        have hx0 : (0 : Int) < (xs.length : Int) + 1 := by omega
        have hy0 : (0 : Int) < (ys.length : Int) + 1 := by omega
        go_wp2_with fail
        go_region_held3 (fun W => W.cell? ⟨bx, ox, none⟩ = some (.int .i64 x) ∧ W.cell? ⟨b2, o2, none⟩ = some (.int .i64 y))
          (first | exact ⟨hcx, hcy⟩ | exact ⟨hcx6, hcy6⟩ | exact ⟨hcx7, hcy7⟩)
          (first
            | (go_at_call 36; refine (implCodeRank_any _ _ _ (y :: ys) _ (by exact RdI.of_own HY6.out) (by omega)).mono ?_; rintro e w7 ⟨rfl, hb7⟩; rw [← HYS.out, HRY.out.2.1]; have Hb7 := Lib.hid (below_seq Hb6.out hb7); have hcx7 := (hb7.cell (p := ⟨bx, ox, none⟩) (block_lt_of_cell hcx6)).trans hcx6; have hcy7 := (hb7.cell (p := ⟨b2, o2, none⟩) (block_lt_of_cell hcy6)).trans hcy6; clear hb7)
            | (go_at_call 36; refine (implCodeRank_any _ _ _ (x :: xs) _ (by exact RdI.of_own HoX.out) (by omega)).mono ?_; rintro e w6 ⟨rfl, hb6⟩; rw [← HXS.out, HRX.out.2.1]; have Hb6 := Lib.hid (below_seq Hb5.out.drew hb6); have HY6 := Lib.hid (own_belowAll (w := w5.drew) Ho5.out hb6); have hcx6 := (hb6.cell (p := ⟨bx, ox, none⟩) (block_lt_of_cell hcx)).trans hcx; have hcy6 := (hb6.cell (p := ⟨b2, o2, none⟩) (block_lt_of_cell hcy)).trans hcy; clear hb6))
        all_goals go_wp2_with fail
        all_goals go_ret
        all_goals exact ⟨ret_bool (by have h := HXM.out; rw [beq_iff_eq]; omega), Hb7.out⟩
end Go.Proofs.Ytablnijmoohjhaa
