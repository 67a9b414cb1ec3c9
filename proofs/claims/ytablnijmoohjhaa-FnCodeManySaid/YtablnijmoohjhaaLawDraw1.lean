/-
  Contracts of the draws of codes (DrawCodeBack, DrawCodeRank), and the walks of the laws FnCodeBack and FnCodeRank: each returns true for every list of bytes and leaves old memory as it was.
-/
import Derived.Test.YtablnijmoohjhaaDrawCode
import Derived.Test.YtablnijmoohjhaaRank
import Derived.Test.YtablnijmoohjhaaNth
namespace Go.Proofs.Ytablnijmoohjhaa
open Go.RowKit
set_option linter.unusedVariables false

/-- A list that was drawn, in new memory; the source is forgotten. -/
def DrewCode (w : World) (e : Ending) (w' : World) : Prop :=
  ∃ A n c zs, e = .returned (.slice A n c) ∧ w'.ownsRow w.heap.size 3 1 (.slice A n c) n (zs.map (Value.int .i64)) ∧ CodeLike zs ∧ Below w.heap.size w w'
theorem below_of_grown {w w1 w2 : World} {g : Nat} (h : Below w.heap.size w w1) (hg : w1.grownBy w2 (some g)) (hge : w.heap.size ≤ g) : Below w.heap.size w w2 :=
  h.grown hg h.size (fun r e => by cases e; exact hge)
theorem DrawCodeBack_any (A : Option Addr) (n c : Nat) (bs : List UInt8) (w : World) (hx : RdB w A n bs) (hl : n ≤ c) (hc : c ≤ maxLen) :
    Calls Try.prog 33 #[.slice A n c] w (DrewCode w) := by
  have HX := Lib.hid hx
  clear hx
  go_enter Try.func33, Try.ntmps33
  go_wp2_with fail
  refine (l6Open_any _ _ _ bs _ HX.out hl hc).mono ?_
  rintro e w1 ⟨rfl, hs1, hb1⟩
  have Hs1 := Lib.hid hs1
  have Hb1 := Lib.hid hb1
  clear hs1 hb1
  go_wp2_with fail
  refine (l91Code_any _ _ _ _ Hs1.out (by omega)).mono ?_
  rintro e w2 ⟨B, k, cb, zs, p', rfl, ho2, hcl, _, _, hg2⟩
  have Ho2 := Lib.hid ho2
  have Hcl := Lib.hid hcl
  have Hg2 := Lib.hid hg2
  clear ho2 hcl hg2
  go_wp2_with fail
  go_ret
  exact ⟨_, _, _, zs, rfl, own_base Ho2.out Hb1.out.size, Hcl.out, below_of_grown Hb1.out Hg2.out (Nat.le_refl _)⟩
theorem DrawCodeRank_any (A : Option Addr) (n c : Nat) (bs : List UInt8) (w : World) (hx : RdB w A n bs) (hl : n ≤ c) (hc : c ≤ maxLen) :
    Calls Try.prog 39 #[.slice A n c] w (DrewCode w) := by
  have HX := Lib.hid hx
  clear hx
  go_enter Try.func39, Try.ntmps39
  go_wp2_with fail
  refine (l6Open_any _ _ _ bs _ HX.out hl hc).mono ?_
  rintro e w1 ⟨rfl, hs1, hb1⟩
  have Hs1 := Lib.hid hs1
  have Hb1 := Lib.hid hb1
  clear hs1 hb1
  go_wp2_with fail
  refine (l91Code_any _ _ _ _ Hs1.out (by omega)).mono ?_
  rintro e w2 ⟨B, k, cb, zs, p', rfl, ho2, hcl, _, _, hg2⟩
  have Ho2 := Lib.hid ho2
  have Hcl := Lib.hid hcl
  have Hg2 := Lib.hid hg2
  clear ho2 hcl hg2
  go_wp2_with fail
  go_ret
  exact ⟨_, _, _, zs, rfl, own_base Ho2.out Hb1.out.size, Hcl.out, below_of_grown Hb1.out Hg2.out (Nat.le_refl _)⟩
namespace Cd
theorem validB_reverse (zs : List Int) : validB zs.reverse = validB zs := by simp [validB]
theorem back_back {zs : List Int} (h : validB zs = true) : back (back zs) = zs := by
  have e : back zs = zs.reverse := by unfold back; rw [if_pos h]
  rw [e]
  unfold back
  rw [if_pos (by rw [validB_reverse]; exact h), List.reverse_reverse]
theorem beats_back {zs : List Int} (h : validB zs = true) : validB (back zs) = true ∧ beats (back zs) = beats zs ∧ (back zs).length = zs.length := by
  have e : back zs = zs.reverse := by unfold back; rw [if_pos h]
  rw [e]
  refine ⟨by rw [validB_reverse]; exact h, ?_, by simp⟩
  unfold beats
  rw [if_pos h, if_pos (by rw [validB_reverse]; exact h), sum_reverse]
theorem back_no {zs : List Int} (h : validB zs = false) : back zs = [] := by unfold back; rw [if_neg (by simp [h])]
theorem rank_yes {zs : List Int} (h : validB zs = true) : rank zs = rk 5 zs := by unfold rank; rw [if_pos h]
theorem rank_no {zs : List Int} (h : validB zs = false) : rank zs = -1 := by unfold rank; rw [if_neg (by simp [h])]
/-- A code's rank leads back to it. -/
theorem rank_nth {zs : List Int} (h : validB zs = true) : 0 ≤ rank zs ∧ beats zs = sum zs ∧ nthOk (sum zs) (rank zs) = true ∧ nthL (sum zs) (rank zs) = zs ∧ rank zs < many (sum zs) ∧ 1 ≤ sum zs ∧ sum zs ≤ 30 := by
  obtain ⟨hg, h1, h5⟩ := valid_grp h
  have hr := rk_lt zs 5 hg h5
  have hn := nth_rk zs 5 hg h5
  have s1 := sum_ge hg
  have s2 := sum_le hg
  have hm : many (sum zs) = M 5 (sum zs) := by
    unfold many
    rw [if_neg (by omega), if_neg (by omega)]
  rw [rank_yes h]
  have hok : nthOk (sum zs) (rk 5 zs) = true := by simp [nthOk, hm, hr]
  refine ⟨hr.1, by unfold beats; rw [if_pos h], hok, by unfold nthL; rw [if_pos hok, hn], by omega, by omega, by omega⟩
end Cd

set_option maxHeartbeats 4000000 in
theorem FnCodeBack_walk (w : World) (A : Option Addr) (n c : Nat) (bs : List UInt8) (hx : RdB w A n bs) (hl : n ≤ c) (hc : c ≤ maxLen) :
    Calls Try.prog 10 #[.slice A n c] w fun e w' => e = .returned (.bool true) ∧ Below w.heap.size w w' := by
  have HX := Lib.hid hx
  have hc' := hc
  clear hx
  unfold maxLen at hc
  by_cases hbig : (1048576 : Int) < n
  · go_enter Try.func10, Try.ntmps10
    go_wp2_with fail
    go_ret
    exact ⟨rfl, Below.refl _ _⟩
  · have hs : (n : Int) ≤ 1048576 := by omega
    clear hbig
    go_enter Try.func10, Try.ntmps10
    go_wp2_with fail
    refine (DrawCodeBack_any _ _ _ bs _ HX.out hl hc').mono ?_
    rintro e w1 ⟨B, k, cb, zs, rfl, ho1, hcl, hb1⟩
    have hk6 : k ≤ 6 := by have h1 := ho1.1; simp at h1; have := hcl.1; omega
    have Hkl : Hid (zs.length = k) := by unfold Hid; simpa using ho1.1
    have Ho1 := Lib.hid ho1
    have Hb1 := Lib.hid hb1
    clear ho1 hcl hb1
    go_wp2_with fail
    refine (implCodeBack_any _ _ _ zs _ (RdI.of_own Ho1.out) (by omega)).mono ?_
    rintro e w2 ⟨G, kg, cg, rfl, ho2, hb2⟩
    have hkg : kg ≤ 5 := by have h1 := ho2.1; simp at h1; have := Cd.back_len zs; omega
    have Hgl : Hid ((Cd.back zs).length = kg) := by unfold Hid; simpa using ho2.1
    have Ho2 := Lib.hid ho2
    have Ho1' := Lib.hid (own_belowAll Ho1.out hb2)
    have Hb2 := Lib.hid (below_seq Hb1.out hb2)
    clear ho2 hb2 Ho1
    by_cases hv : Cd.validB zs = true
    · have HV := Lib.hid hv
      clear hv
      rw [HV.out]
      go_wp2_with fail
      refine (specCodeBack_any _ _ _ zs _ (RdI.of_own Ho1'.out) (by omega)).mono ?_
      rintro e w3 ⟨W, kw, cw, rfl, ho3, hb3⟩
      have Ho3 := Lib.hid ho3
      have Ho2' := Lib.hid (own_belowAll Ho2.out hb3)
      have Ho1 := Lib.hid (own_belowAll Ho1'.out hb3)
      have Hb3 := Lib.hid (below_seq Hb2.out hb3)
      clear ho3 hb3 Ho2 Ho1'
      rw [HV.out]
      go_wp2_with fail
      refine (sameInts_any _ _ _ _ _ _ (Cd.back zs) (Cd.back zs) _ (RdI.of_own Ho2'.out) (RdI.of_own Ho3.out) (by omega)).mono ?_
      rintro e w4 ⟨rfl, m4, rfl⟩
      rw [decide_eq_true (rfl : Cd.back zs = Cd.back zs)]
      have Hb4 := Lib.hid (below_seqD Hb3.out m4)
      go_wp2_with fail
      refine (implCodeBack_any _ _ _ (Cd.back zs) _ (RdI.of_own (own_drewN Ho2'.out m4)) (by omega)).mono ?_
      rintro e w5 ⟨X, kx, cx, rfl, ho5, hb5⟩
      rw [Cd.back_back HV.out] at ho5
      rw [(Cd.beats_back HV.out).1]
      have hkx : kx ≤ 6 := by have h1 := ho5.1; simp at h1; have := Hkl.out; omega
      have Ho5 := Lib.hid ho5
      have HoO := Lib.hid (own_belowAll (own_drewN Ho2'.out m4) hb5)
      have HoL := Lib.hid (own_belowAll (own_drewN Ho1.out m4) hb5)
      have Hb5 := Lib.hid (below_seq Hb4.out hb5)
      clear ho5 hb5 Ho2' Ho1
      go_wp2_with fail
      refine (sameInts_any _ _ _ _ _ _ zs zs _ (RdI.of_own Ho5.out) (RdI.of_own HoL.out) (by omega)).mono ?_
      rintro e w6 ⟨rfl, m6, rfl⟩
      rw [decide_eq_true (rfl : zs = zs)]
      have Hb6 := Lib.hid (below_seqD Hb5.out m6)
      go_wp2_with fail
      refine (implCodeBeats_any _ _ _ (Cd.back zs) _ (RdI.of_own (own_drewN HoO.out m6)) (by omega)).mono ?_
      rintro e w7 ⟨rfl, hb7⟩
      rw [(Cd.beats_back HV.out).2.1]
      have HoL7 := Lib.hid (own_belowAll (own_drewN HoL.out m6) hb7)
      have Hb7 := Lib.hid (below_seq Hb6.out hb7)
      clear hb7 HoL HoO
      go_wp2_with fail
      refine (implCodeBeats_any _ _ _ zs _ (RdI.of_own HoL7.out) (by omega)).mono ?_
      rintro e w8 ⟨rfl, hb8⟩
      have Hb8 := Lib.hid (below_seq Hb7.out hb8)
      clear hb8
      obtain rfl : kg = k := by have h1 := (Cd.beats_back HV.out).2.2; have := Hkl.out; have := Hgl.out; omega
      go_wp2_with fail
      go_ret
      exact ⟨rfl, Hb8.out⟩
    · have HV : Hid (Cd.validB zs = false) := by unfold Hid; simpa using hv
      clear hv
      rw [HV.out]
      go_wp2_with fail
      refine (specCodeBack_any _ _ _ zs _ (RdI.of_own Ho1'.out) (by omega)).mono ?_
      rintro e w3 ⟨W, kw, cw, rfl, ho3, hb3⟩
      have Ho3 := Lib.hid ho3
      have Ho2' := Lib.hid (own_belowAll Ho2.out hb3)
      have Hb3 := Lib.hid (below_seq Hb2.out hb3)
      clear ho3 hb3 Ho2 Ho1'
      rw [HV.out]
      go_wp2_with fail
      refine (sameInts_any _ _ _ _ _ _ (Cd.back zs) (Cd.back zs) _ (RdI.of_own Ho2'.out) (RdI.of_own Ho3.out) (by omega)).mono ?_
      rintro e w4 ⟨rfl, m4, rfl⟩
      rw [decide_eq_true (rfl : Cd.back zs = Cd.back zs)]
      have Hb4 := Lib.hid (below_seqD Hb3.out m4)
      go_wp2_with fail
      refine (sameInts_any _ _ _ _ _ _ (Cd.back zs) (Cd.back zs) _ (RdI.of_own (own_drewN Ho2'.out m4)) (RdI.of_own (own_drewN Ho3.out m4)) (by omega)).mono ?_
      rintro e w5 ⟨rfl, m5, rfl⟩
      rw [decide_eq_true (rfl : Cd.back zs = Cd.back zs)]
      have Hb5 := Lib.hid (below_seqD Hb4.out m5)
      go_wp2_with fail
      go_ret
      exact ⟨rfl, by rw [← World.drewN_drewN]; exact Hb5.out⟩
set_option maxHeartbeats 4000000 in
theorem FnCodeRank_walk (w : World) (A : Option Addr) (n c : Nat) (bs : List UInt8) (hx : RdB w A n bs) (hl : n ≤ c) (hc : c ≤ maxLen) :
    Calls Try.prog 14 #[.slice A n c] w fun e w' => e = .returned (.bool true) ∧ Below w.heap.size w w' := by
  have HX := Lib.hid hx
  have hc' := hc
  clear hx
  unfold maxLen at hc
  by_cases hbig : (1048576 : Int) < n
  · go_enter Try.func14, Try.ntmps14
    go_wp2_with fail
    go_ret
    exact ⟨rfl, Below.refl _ _⟩
  · have hs : (n : Int) ≤ 1048576 := by omega
    clear hbig
    go_enter Try.func14, Try.ntmps14
    go_wp2_with fail
    refine (DrawCodeRank_any _ _ _ bs _ HX.out hl hc').mono ?_
    rintro e w1 ⟨B, k, cb, zs, rfl, ho1, hcl, hb1⟩
    have hk6 : k ≤ 6 := by have h1 := ho1.1; simp at h1; have := hcl.1; omega
    have Ho1 := Lib.hid ho1
    have Hb1 := Lib.hid hb1
    clear ho1 hcl hb1
    go_wp2_with fail
    refine (implCodeRank_any _ _ _ zs _ (RdI.of_own Ho1.out) (by omega)).mono ?_
    rintro e w2 ⟨rfl, hb2⟩
    have Ho2 := Lib.hid (own_belowAll Ho1.out hb2)
    have Hb2 := Lib.hid (below_seq Hb1.out hb2)
    clear hb2 Ho1
    go_wp2_with fail
    refine (specCodeRank_any _ _ _ zs _ (RdI.of_own Ho2.out) (by omega)).mono ?_
    rintro e w3 ⟨rfl, rfl⟩
    by_cases hv : Cd.validB zs = true
    · have HV := Lib.hid hv
      have HR := Lib.hid (Cd.rank_nth hv)
      clear hv
      have hr0 : 0 ≤ Cd.rank zs := HR.out.1
      have hr1 : Cd.rank zs < Cd.many (Cd.sum zs) := HR.out.2.2.2.2.1
      have hs1 : 1 ≤ Cd.sum zs := HR.out.2.2.2.2.2.1
      have hs2 : Cd.sum zs ≤ 30 := HR.out.2.2.2.2.2.2
      go_wp2_with fail
      refine (implCodeBeats_any _ _ _ zs _ (RdI.of_own Ho2.out) (by omega)).mono ?_
      rintro e w4 ⟨rfl, hb4⟩
      rw [HR.out.2.1]
      have Ho4 := Lib.hid (own_belowAll Ho2.out hb4)
      have Hb4 := Lib.hid (below_seq Hb2.out hb4)
      clear hb4 Ho2
      go_wp2_with fail
      refine (implCodeNth_any _ _ _ (by omega) (by omega)).mono ?_
      rintro e w5 ⟨X, kx, cx, rfl, ho5, hb5⟩
      rw [HR.out.2.2.2.1] at ho5
      rw [HR.out.2.2.1]
      have hkx : kx ≤ 6 := by have h1 := ho5.1; have h2 := Ho4.out.1; simp at h1 h2; omega
      have Ho5 := Lib.hid ho5
      have HoL := Lib.hid (own_belowAll Ho4.out hb5)
      have Hb5 := Lib.hid (below_seq Hb4.out hb5)
      clear ho5 hb5 Ho4
      go_wp2_with fail
      refine (sameInts_any _ _ _ _ _ _ zs zs _ (RdI.of_own Ho5.out) (RdI.of_own HoL.out) (by omega)).mono ?_
      rintro e w6 ⟨rfl, m6, rfl⟩
      rw [decide_eq_true (rfl : zs = zs)]
      have Hb6 := Lib.hid (below_seqD Hb5.out m6)
      go_wp2_with fail
      refine (implCodeMany_any _ _).mono ?_
      rintro e w7 ⟨rfl, rfl⟩
      have hd : decide (Cd.rank zs < Cd.many (Cd.sum zs)) = true := by simpa using hr1
      go_wp2_with fail
      go_ret
      exact ⟨rfl, Hb6.out⟩
    · have HE := Lib.hid (Cd.rank_no (zs := zs) (by simpa using hv))
      clear hv
      rw [HE.out]
      go_wp2_with fail
      go_ret
      exact ⟨rfl, Hb2.out⟩
end Go.Proofs.Ytablnijmoohjhaa
