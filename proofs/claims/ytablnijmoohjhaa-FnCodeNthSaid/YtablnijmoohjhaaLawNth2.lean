/-
  The walk of the law FnCodeNth: it returns true for every list of bytes and leaves old memory as it was.
-/
import Derived.Test.YtablnijmoohjhaaDrawNth
import Derived.Test.YtablnijmoohjhaaCodesEnds
namespace Go.Proofs.Ytablnijmoohjhaa
open Go.RowKit
set_option linter.unusedVariables false

namespace Cd
theorem lex_nil (b : List Int) : ¬ lexLt [] b := by simp [lexLt]
theorem lex_drop {a b : List Int} (h : lexLt a b) : ∃ x y t u, a = x :: t ∧ b = y :: u ∧ (x < y ∨ (x = y ∧ lexLt t u)) := by
  cases a with
  | nil => simp [lexLt] at h
  | cons x t =>
    cases b with
    | nil => simp [lexLt] at h
    | cons y u => exact ⟨x, y, t, u, rfl, rfl, by simpa [lexLt] using h⟩
end Cd

set_option maxHeartbeats 4000000 in
theorem FnCodeNth_walk (w : World) (A : Option Addr) (n c : Nat) (bs : List UInt8) (hx : RdB w A n bs) (hl : n ≤ c) (hc : c ≤ maxLen) :
    Calls Try.prog 13 #[.slice A n c] w fun e w' => e = .returned (.bool true) ∧ Below w.heap.size w w' := by
  have HX := Lib.hid hx
  have hc' := hc
  clear hx
  unfold maxLen at hc
  by_cases hbig : (1048576 : Int) < n
  · go_enter Try.func13, Try.ntmps13
    go_wp2_with fail
    go_ret
    exact ⟨rfl, Below.refl _ _⟩
  · have hs : (n : Int) ≤ 1048576 := by omega
    clear hbig
    go_enter Try.func13, Try.ntmps13
    go_wp2_with fail
    refine (DrawCodeNth_any _ _ _ bs _ HX.out hl hc').mono ?_
    rintro e w1 ⟨N, R, rfl, hN0, hN1, hR0, hR1, hb1⟩
    have Hb1 := Lib.hid hb1
    clear hb1
    go_wp2_with fail
    refine (implCodeNth_any _ _ _ (by omega) (by omega)).mono ?_
    rintro e w2 ⟨X, kx, cx, rfl, ho2, hb2⟩
    have Ho2 := Lib.hid ho2
    have Hb2 := Lib.hid (below_seq Hb1.out hb2)
    have hkx : kx ≤ 5 := by have h1 := ho2.1; simp at h1; have := Cd.nthL_len' N R; omega
    clear ho2 hb2
    by_cases hok : Cd.nthOk N R = true
    · have HOK := Lib.hid hok
      have HGD := Lib.hid (Cd.nthL_good hok)
      clear hok
      rw [HOK.out]
      go_wp2_with fail
      refine (specCodeNth_any _ _ _ (by omega) (by omega)).mono ?_
      rintro e w3 ⟨Y, ky, cy, rfl, ho3, hb3⟩
      rw [HOK.out]
      have Ho3 := Lib.hid ho3
      have HoX := Lib.hid (own_belowAll Ho2.out hb3)
      have Hb3 := Lib.hid (below_seq Hb2.out hb3)
      clear ho3 hb3 Ho2
      go_wp2_with fail
      refine (sameInts_any _ _ _ _ _ _ (Cd.nthL N R) (Cd.nthL N R) _ (RdI.of_own HoX.out) (RdI.of_own Ho3.out) (by omega)).mono ?_
      rintro e w4 ⟨rfl, m4, rfl⟩
      rw [decide_eq_true (rfl : Cd.nthL N R = Cd.nthL N R)]
      have Hb4 := Lib.hid (below_seqD Hb3.out m4)
      go_wp2_with fail
      refine (implCodeNth_any _ _ _ (by omega) (by omega)).mono ?_
      rintro e w5 ⟨Z, kz, cz, rfl, ho5, hb5⟩
      have hkz : kz ≤ 5 := by have h1 := ho5.1; simp at h1; have := Cd.nthL_len' N (R + 1); omega
      have Ho5 := Lib.hid ho5
      have HoX5 := Lib.hid (own_belowAll (own_drewN HoX.out m4) hb5)
      have Hb5 := Lib.hid (below_seq Hb4.out hb5)
      clear ho5 hb5 HoX Ho3
      go_wp2_with fail
      refine (implCodeBeats_any _ _ _ (Cd.nthL N R) _ (RdI.of_own HoX5.out) (by omega)).mono ?_
      rintro e w6 ⟨rfl, hb6⟩
      rw [HGD.out.2.2.1]
      have HoZ6 := Lib.hid (own_belowAll Ho5.out hb6)
      have HoX6 := Lib.hid (own_belowAll HoX5.out hb6)
      have Hb6 := Lib.hid (below_seq Hb5.out hb6)
      clear hb6 HoX5 Ho5
      go_wp2_with fail
      refine (implCodeRank_any _ _ _ (Cd.nthL N R) _ (RdI.of_own HoX6.out) (by omega)).mono ?_
      rintro e w7 ⟨rfl, hb7⟩
      rw [HGD.out.2.1]
      have HoZ := Lib.hid (own_belowAll HoZ6.out hb7)
      have HoX := Lib.hid (own_belowAll HoX6.out hb7)
      have Hb7 := Lib.hid (below_seq Hb6.out hb7)
      clear hb7 HoX6 HoZ6
      have Hlx : Hid ((Cd.nthL N R).length = kx) := by unfold Hid; simpa using HoX.out.1
      have Hlz : Hid ((Cd.nthL N (R + 1)).length = kz) := by unfold Hid; simpa using HoZ.out.1
      by_cases hok2 : Cd.nthOk N (R + 1) = true
      · have HOK2 := Lib.hid hok2
        have HLT : Hid (Cd.lexLt (Cd.nthL N R) (Cd.nthL N (R + 1))) := by
          have g2 := Cd.nthL_good hok2
          have g1 := HGD.out
          unfold Hid
          rw [g1.2.2.2.1, g2.2.2.2.1]
          exact Cd.nth_lt 5 N R (R + 1) (by omega) g1.2.2.2.2.2.2.2.1 (by omega) g2.2.2.2.2.2.2.2.2
        clear hok2
        rw [HOK2.out]
        go_wp2_with fail
        go_loopw [11] (fun i wr => ∃ k : Nat, k ≤ 5 ∧ i = .int .i64 k ∧ Hid (Cd.lexLt ((Cd.nthL N R).drop k) ((Cd.nthL N (R + 1)).drop k)) ∧ ∃ m, wr = w7.drewN m) (fun i _ => 6 - (intOf i).toNat)
        case atStart => exact ⟨0, by omega, rfl, HLT.out, 0, rfl⟩
        case round =>
          obtain ⟨k, hk, rfl, Hk, m, rfl⟩ := hrel
          obtain ⟨x, z, xs', zs', ex, ez, hxz⟩ := Cd.lex_drop Hk.out
          have hkx' : k < kx := by
            have h1 := congrArg List.length ex
            simp at h1
            have := Hlx.out; omega
          have hkz' : k < kz := by
            have h1 := congrArg List.length ez
            simp at h1
            have := Hlz.out; omega
          obtain ⟨b, off, x', rfl, hx', hcx⟩ := (RdI.of_own HoX.out).at_ hkx'
          obtain ⟨b', off', z', rfl, hz', hcz⟩ := (RdI.of_own HoZ.out).at_ hkz'
          have e1 := Cd.drop_at hx'
          have e2 := Cd.drop_at hz'
          rw [ex] at e1
          rw [ez] at e2
          injection e1 with e1 e1'
          injection e2 with e2 e2'
          subst e1 e2
          have HT1 := Lib.hid e1'
          have HT2 := Lib.hid e2'
          clear ex ez hx' hz' e1' e2'
          by_cases hlt : x < z
          · have hne : (z != x) = true := by simp; omega
            clear hxz
            go_wp2_with fail
            go_quiet (fail)
            go_wp2_with fail
            go_quiet (fail)
            go_wp2_with fail
            go_ret
            refine ⟨?_, ?_⟩
            · rfl
            · repeat (first | exact Hb7.out | refine below_drewN ?_ _)
          · obtain ⟨rfl, hrest⟩ : x = z ∧ Cd.lexLt xs' zs' := by
              rcases hxz with h | h
              · exact absurd h hlt
              · exact h
            have HREST := Lib.hid hrest
            clear hxz hlt hrest
            go_wp2_with fail
            go_quiet (fail)
            go_wp2_with fail
            go_roundw
            case rel => exact ⟨k + 1, by omega, by go_num, by unfold Hid; rw [← HT1.out, ← HT2.out]; exact HREST.out, by first | exact ⟨_, rfl⟩ | exact ex_drew _ _ _⟩
            case measure => simp [intOf]; omega
      · have HOK2 : Hid (Cd.nthOk N (R + 1) = false) := by unfold Hid; simpa using hok2
        have HLAST : Hid (R = Cd.many N - 1) := by
          have g1 := HGD.out
          unfold Hid
          simp [Cd.nthOk] at hok2
          omega
        clear hok2
        rw [HOK2.out]
        go_wp2_with fail
        refine wp_loop_rounds 1 ?_
        rw [rounds_succ]
        have hkz0 : kz ≤ 0 := by
          have h1 := Hlz.out
          have h2 : Cd.nthL N (R + 1) = [] := by unfold Cd.nthL; rw [if_neg (by simp [HOK2.out])]
          rw [h2] at h1
          simp at h1
          omega
        have hkx0 : 1 ≤ kx := by have h1 := (Cd.valid_grp HGD.out.1).2.1; have := Hlx.out; omega
        go_wp2_with fail
        refine (implCodeMany_any _ _).mono ?_
        rintro e w8 ⟨rfl, rfl⟩
        have hmm := (Cd.many_bd N)
        obtain ⟨hm1, hm2⟩ := hmm
        have hfin : (R == Cd.many N - 1) = true := by have := HLAST.out; simp; omega
        go_wp2_with fail
        go_ret
        exact ⟨rfl, Hb7.out⟩
    · have HOK : Hid (Cd.nthOk N R = false) := by unfold Hid; simpa using hok
      clear hok
      rw [HOK.out]
      go_wp2_with fail
      refine (specCodeNth_any _ _ _ (by omega) (by omega)).mono ?_
      rintro e w3 ⟨Y, ky, cy, rfl, ho3, hb3⟩
      rw [HOK.out]
      have Ho3 := Lib.hid ho3
      have HoX := Lib.hid (own_belowAll Ho2.out hb3)
      have Hb3 := Lib.hid (below_seq Hb2.out hb3)
      clear ho3 hb3 Ho2
      go_wp2_with fail
      refine (sameInts_any _ _ _ _ _ _ (Cd.nthL N R) (Cd.nthL N R) _ (RdI.of_own HoX.out) (RdI.of_own Ho3.out) (by omega)).mono ?_
      rintro e w4 ⟨rfl, m4, rfl⟩
      rw [decide_eq_true (rfl : Cd.nthL N R = Cd.nthL N R)]
      have Hb4 := Lib.hid (below_seqD Hb3.out m4)
      go_wp2_with fail
      refine (sameInts_any _ _ _ _ _ _ (Cd.nthL N R) (Cd.nthL N R) _ (RdI.of_own (own_drewN HoX.out m4)) (RdI.of_own (own_drewN Ho3.out m4)) (by omega)).mono ?_
      rintro e w5 ⟨rfl, m5, rfl⟩
      rw [decide_eq_true (rfl : Cd.nthL N R = Cd.nthL N R)]
      have Hb5 := Lib.hid (below_seqD Hb4.out m5)
      go_wp2_with fail
      go_ret
      exact ⟨rfl, by rw [← World.drewN_drewN]; exact Hb5.out⟩
end Go.Proofs.Ytablnijmoohjhaa
