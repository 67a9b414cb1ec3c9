/-
  Contract of the reference's check of a path.
  Conditions: the fields read as lists of integers.
-/
import Derived.Test.YtpfgjkgjeejghaaPath2
namespace Go.Proofs.Ytpfgjkgjeejghaa
open Go.RowKit
set_option linter.unusedVariables false
attribute [local go_sem ↓] Go.wp_at_zero Go.wp_at_succ

theorem l6In_yesQ (n lo hi : Int) (w : World) (h1 : lo ≤ n) (h2 : n ≤ hi) :
    Calls Try.prog 50 #[.int .i64 n, .int .i64 lo, .int .i64 hi] w fun e w' => e = .returned (.bool true) ∧ w' = w := (l6In_yes n lo hi w h1 h2).mono fun _ _ ⟨h, k⟩ => ⟨h, k.symm⟩
theorem l6In_noQ (n lo hi : Int) (w : World) (h : n < lo ∨ hi < n) :
    Calls Try.prog 50 #[.int .i64 n, .int .i64 lo, .int .i64 hi] w fun e w' => e = .returned (.bool false) ∧ w' = w := (l6In_no n lo hi w h).mono fun _ _ ⟨h, k⟩ => ⟨h, k.symm⟩
set_option maxRecDepth 100000 in
set_option maxHeartbeats 4000000 in
theorem specPathValid_any (A : Option Addr) (n c : Nat) (B : Option Addr) (m d : Nat) (xs ys : List Int) (N : Int) (w : World) (hx : RdI w A n xs) (hy : RdI w B m ys) :
    Calls Try.prog 16 #[.int .i64 N, pv A n c B m d] w fun e w' => e = .returned (.bool (Pt.valid N xs ys)) ∧ Below w.heap.size w w' := by
  have HB0 : Hid (Below w.heap.size w (w.alloc (.cells #[.slice A n c, .slice B m d] 28))) := (Below.refl w.heap.size w).alloc (Nat.le_refl _) _
  have HX := Lib.hid (RdI.below hx HB0.out)
  have HY := Lib.hid (RdI.below hy HB0.out)
  have HR0 : Hid (Room2 (w.alloc (.cells #[.slice A n c, .slice B m d] 28)) w.heap.size (.slice A n c) (.slice B m d)) := room2_new _ _ _ _
  have Hlx := Lib.hid hx.len
  have Hly := Lib.hid hy.len
  clear hx hy
  by_cases hN : 1 ≤ N ∧ N ≤ 5
  · obtain ⟨q, rfl⟩ : ∃ q : Nat, N = q := ⟨N.toNat, by omega⟩
    by_cases hnq : n = q
    · subst hnq
      by_cases hmq : m = n
      · subst hmq
        have HV : Hid (Pt.valid (m : Int) xs ys = (Pt.vst xs ys m).isSome) := Pt.valid_at (by omega) Hlx.out Hly.out
        have HF : Hid (∀ k, k < m → Pt.vst xs ys (k + 1) = none → Pt.valid (m : Int) xs ys = false) := fun k hk hv => Pt.valid_fail (by omega) Hlx.out Hly.out hk hv
        go_enter Try.func16, Try.ntmps16
        go_wp2_with fail
        refine (l6In_yes _ _ _ _ (by omega) (by omega)).mono ?_
        rintro e w1 ⟨rfl, rfl⟩
        go_wp2_with fail
        generalize w.alloc (.cells #[.slice A m c, .slice B m d] 28) = W at HB0 HX HY HR0 ⊢
        go_loopw [5, 6] (fun e i wr => ∃ (k : Nat) (ev : Int), k ≤ m ∧ i = .int .i64 k ∧ e = .int .i64 ev ∧ Hid (Pt.vst xs ys k = some ev) ∧ Hid (∃ s, wr = W.drewN s)) (fun _ i _ => m - (intOf i).toNat)
        case atStart => exact ⟨0, 0, Nat.zero_le _, rfl, rfl, rfl, ⟨0, rfl⟩⟩
        case round =>
          obtain ⟨k, ev, hk, rfl, rfl, Hk, HS⟩ := hrel
          have r0 : wr.cell? ⟨w.heap.size, 0, none⟩ = some (.slice A m c) := by obtain ⟨s, rfl⟩ := HS.out; exact HR0.out.1
          have r1 : wr.cell? ⟨w.heap.size, 1, none⟩ = some (.slice B m d) := by obtain ⟨s, rfl⟩ := HS.out; exact HR0.out.2.1
          have HBr : Hid (Below w.heap.size w wr) := by obtain ⟨s, rfl⟩ := HS.out; exact below_drewN HB0.out _
          by_cases hlt : k < m
          · obtain ⟨b1, o1, x, rfl, hxk, hcx'⟩ := HX.out.at_ hlt
            obtain ⟨b2, o2, y, rfl, hyk, hcy'⟩ := HY.out.at_ hlt
            have hcx : wr.cell? ⟨b1, o1 + k, none⟩ = some (.int .i64 x) := by obtain ⟨s, rfl⟩ := HS.out; exact hcx'
            have hcy : wr.cell? ⟨b2, o2 + k, none⟩ = some (.int .i64 y) := by obtain ⟨s, rfl⟩ := HS.out; exact hcy'
            clear hcx' hcy'
            have ex : xs.getD k 0 = x := by rw [List.getD_eq_getElem?_getD, hxk]; rfl
            have ey : ys.getD k 0 = y := by rw [List.getD_eq_getElem?_getD, hyk]; rfl
            have HE := Lib.hid (And.intro ex ey)
            have hev := Pt.vst_nonneg Hk.out
            clear hxk hyk ex ey
            by_cases t1 : ev ≤ x ∧ x ≤ 2000
            · by_cases t2 : x + 1 ≤ y ∧ y ≤ 2000
              · have HB : Hid (Pt.vst xs ys (k + 1) = some y) := by have := Pt.vst_yes Hk.out (by rw [HE.out.1]; omega) (by rw [HE.out.1, HE.out.2]; omega) (by rw [HE.out.2]; omega); rw [HE.out.2] at this; exact this
                go_wp2_with fail
                go_quiet (first | (go_at_call_of 50 ev; refine Calls.quiet_of_same (l6In_yesQ x ev 2000 _ (by omega) (by omega))) | (go_at_call_of 50 y; refine Calls.quiet_of_same (l6In_yesQ y (x + 1) 2000 _ (by omega) (by omega))))
                go_wp2_with fail
                go_roundw
                case rel => exact ⟨k + 1, y, by omega, by go_num, rfl, HB.out, by obtain ⟨s, rfl⟩ := HS.out; first | exact ⟨_, rfl⟩ | exact ex_drew _ _ _⟩
                case measure => simp [intOf]; omega
              · have HB : Hid (Pt.valid (m : Int) xs ys = false) := HF.out k hlt (Pt.vst_no Hk.out (by rw [HE.out.1, HE.out.2]; omega))
                have t3 : y < x + 1 ∨ 2000 < y := by omega
                go_wp2_with fail
                go_quiet (first | (go_at_call_of 50 ev; refine Calls.quiet_of_same (l6In_yesQ x ev 2000 _ (by omega) (by omega))) | (go_at_call_of 50 y; refine Calls.quiet_of_same (l6In_noQ y (x + 1) 2000 _ t3)))
                go_wp2_with fail
                go_ret
                exact ⟨ret_bool HB.out.symm, by first | exact HBr.out | exact below_drewN HBr.out _⟩
            · have HB : Hid (Pt.valid (m : Int) xs ys = false) := HF.out k hlt (Pt.vst_no Hk.out (by rw [HE.out.1, HE.out.2]; omega))
              have t3 : x < ev ∨ 2000 < x := by omega
              go_wp2_with fail
              go_quiet (first | (go_at_call_of 50 ev; refine Calls.quiet_of_same (l6In_noQ x ev 2000 _ t3)))
              go_wp2_with fail
              go_ret
              exact ⟨ret_bool HB.out.symm, by first | exact HBr.out | exact below_drewN HBr.out _⟩
          · have hkn : k = m := by omega
            subst hkn
            go_wp2_with fail
            go_ret
            exact ⟨ret_bool (by rw [HV.out, Hk.out]; rfl), by first | exact HBr.out | exact below_drewN HBr.out _⟩
      · have HV : Hid (Pt.valid (n : Int) xs ys = false) := Pt.valid_no_y (by rw [Hly.out]; omega)
        have hne : ((m : Int) != (n : Int)) = true := by simp; omega
        go_enter Try.func16, Try.ntmps16
        go_wp2_with fail
        refine (l6In_yes _ _ _ _ (by omega) (by omega)).mono ?_
        rintro e w1 ⟨rfl, rfl⟩
        go_wp2_with fail
        go_ret
        exact ⟨ret_bool HV.out.symm, HB0.out⟩
    · have HV : Hid (Pt.valid (q : Int) xs ys = false) := Pt.valid_no_x (by rw [Hlx.out]; omega)
      have hne : ((n : Int) != (q : Int)) = true := by simp; omega
      go_enter Try.func16, Try.ntmps16
      go_wp2_with fail
      refine (l6In_yes _ _ _ _ (by omega) (by omega)).mono ?_
      rintro e w1 ⟨rfl, rfl⟩
      go_wp2_with fail
      go_ret
      exact ⟨ret_bool HV.out.symm, HB0.out⟩
  · have HV : Hid (Pt.valid N xs ys = false) := Pt.valid_no_n hN
    have hN' : N < 1 ∨ 5 < N := by omega
    go_enter Try.func16, Try.ntmps16
    go_wp2_with fail
    refine (l6In_no _ _ _ _ hN').mono ?_
    rintro e w1 ⟨rfl, rfl⟩
    go_wp2_with fail
    go_ret
    exact ⟨ret_bool HV.out.symm, HB0.out⟩
end Go.Proofs.Ytpfgjkgjeejghaa
