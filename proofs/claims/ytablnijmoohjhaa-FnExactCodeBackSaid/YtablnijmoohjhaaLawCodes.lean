/-
  The walks of the laws FnExactCodeValid, FnExactCodeBeats, FnExactCodeBegins, FnExactCodeBack: each returns true for every input and leaves old memory as it was.
  Conditions: none (the inputs read as lists of integers).
-/
import Derived.Test.YtablnijmoohjhaaCodes5
namespace Go.Proofs.Ytablnijmoohjhaa
open Go.RowKit
set_option linter.unusedVariables false

set_option maxHeartbeats 1000000 in
theorem FnExactCodeValid_walk (w : World) (A : Option Addr) (n c : Nat) (zs : List Int) (hx : RdI w A n zs) (hl : n ≤ c) (hc : c ≤ maxLen) (hwf : ∀ z ∈ zs, (Lit.int .i64 z).wf = true) :
    Calls Try.prog 4 #[.slice A n c] w fun e w' => e = .returned (.bool true) ∧ Below w.heap.size w w' := by
  have HX := Lib.hid hx
  clear hx hwf
  unfold maxLen at hc
  by_cases hbig : (1048576 : Int) < n
  · go_enter Try.func4, Try.ntmps4
    go_wp2_with fail
    go_ret
    exact ⟨rfl, Below.refl _ _⟩
  · have hs : (n : Int) ≤ 1048576 := by omega
    clear hbig
    go_enter Try.func4, Try.ntmps4
    go_wp2_with fail
    refine (toIntS_any _ _ _ zs _ HX.out (by omega)).mono ?_
    rintro e w1 ⟨rfl, ho1, hb1⟩
    have Ho1 := Lib.hid ho1
    have Hb1 := Lib.hid hb1
    clear ho1 hb1
    go_wp2_with fail
    refine (specCodeValid_any _ _ _ zs _ (RdI.of_own Ho1.out) (by omega)).mono ?_
    rintro e w2 ⟨rfl, rfl⟩
    go_wp2_with fail
    refine (toIntS_any _ _ _ zs _ (HX.out.below Hb1.out) (by omega)).mono ?_
    rintro e w2 ⟨rfl, ho2, hb2⟩
    have Ho2 := Lib.hid ho2
    have Hb2 := Lib.hid (below_seq Hb1.out hb2)
    clear ho2 hb2
    go_wp2_with fail
    refine (implCodeValid_any _ _ _ zs _ (RdI.of_own Ho2.out) (by omega)).mono ?_
    rintro e w3 ⟨rfl, hb3⟩
    have Ho3 := Lib.hid (own_belowAll Ho2.out hb3)
    have Hb3 := Lib.hid (below_seq Hb2.out hb3)
    clear hb3 
    go_wp2_with fail
    refine (toIntS_any _ _ _ zs _ (HX.out.below Hb3.out) (by omega)).mono ?_
    rintro e w4 ⟨rfl, ho4, hb4⟩
    have Ho4 := Lib.hid (own_belowAll Ho3.out hb4)
    have Ho5 := Lib.hid ho4
    have Hb4 := Lib.hid (below_seq Hb3.out hb4)
    clear ho4 hb4
    go_wp2_with fail
    refine (eqIntS_any _ _ _ _ _ _ zs zs _ (RdI.of_own Ho4.out) (RdI.of_own Ho5.out) (by omega)).mono ?_
    rintro e w5 ⟨rfl, m, rfl⟩
    rw [decide_eq_true (rfl : zs = zs)]
    go_wp2_with fail
    go_ret
    exact ⟨rfl, below_seqD Hb4.out m⟩

set_option maxHeartbeats 1000000 in
theorem FnExactCodeBeats_walk (w : World) (A : Option Addr) (n c : Nat) (zs : List Int) (hx : RdI w A n zs) (hl : n ≤ c) (hc : c ≤ maxLen) (hwf : ∀ z ∈ zs, (Lit.int .i64 z).wf = true) :
    Calls Try.prog 5 #[.slice A n c] w fun e w' => e = .returned (.bool true) ∧ Below w.heap.size w w' := by
  have HX := Lib.hid hx
  clear hx hwf
  unfold maxLen at hc
  by_cases hbig : (1048576 : Int) < n
  · go_enter Try.func5, Try.ntmps5
    go_wp2_with fail
    go_ret
    exact ⟨rfl, Below.refl _ _⟩
  · have hs : (n : Int) ≤ 1048576 := by omega
    clear hbig
    go_enter Try.func5, Try.ntmps5
    go_wp2_with fail
    refine (toIntS_any _ _ _ zs _ HX.out (by omega)).mono ?_
    rintro e w1 ⟨rfl, ho1, hb1⟩
    have Ho1 := Lib.hid ho1
    have Hb1 := Lib.hid hb1
    clear ho1 hb1
    go_wp2_with fail
    refine (specCodeBeats_any _ _ _ zs _ (RdI.of_own Ho1.out) (by omega)).mono ?_
    rintro e w2 ⟨rfl, rfl⟩
    go_wp2_with fail
    refine (toIntS_any _ _ _ zs _ (HX.out.below Hb1.out) (by omega)).mono ?_
    rintro e w2 ⟨rfl, ho2, hb2⟩
    have Ho2 := Lib.hid ho2
    have Hb2 := Lib.hid (below_seq Hb1.out hb2)
    clear ho2 hb2
    go_wp2_with fail
    refine (implCodeBeats_any _ _ _ zs _ (RdI.of_own Ho2.out) (by omega)).mono ?_
    rintro e w3 ⟨rfl, hb3⟩
    have Ho3 := Lib.hid (own_belowAll Ho2.out hb3)
    have Hb3 := Lib.hid (below_seq Hb2.out hb3)
    clear hb3 
    go_wp2_with fail
    refine (toIntS_any _ _ _ zs _ (HX.out.below Hb3.out) (by omega)).mono ?_
    rintro e w4 ⟨rfl, ho4, hb4⟩
    have Ho4 := Lib.hid (own_belowAll Ho3.out hb4)
    have Ho5 := Lib.hid ho4
    have Hb4 := Lib.hid (below_seq Hb3.out hb4)
    clear ho4 hb4
    go_wp2_with fail
    refine (eqIntS_any _ _ _ _ _ _ zs zs _ (RdI.of_own Ho4.out) (RdI.of_own Ho5.out) (by omega)).mono ?_
    rintro e w5 ⟨rfl, m, rfl⟩
    rw [decide_eq_true (rfl : zs = zs)]
    go_wp2_with fail
    go_ret
    exact ⟨rfl, below_seqD Hb4.out m⟩

set_option maxHeartbeats 2000000 in
theorem FnExactCodeBegins_walk (w : World) (A : Option Addr) (n c : Nat) (zs : List Int) (hx : RdI w A n zs) (hl : n ≤ c) (hc : c ≤ maxLen) (hwf : ∀ z ∈ zs, (Lit.int .i64 z).wf = true)
    (A' : Option Addr) (n' c' : Nat) (ys : List Int) (hy : RdI w A' n' ys) (hl' : n' ≤ c') (hc' : c' ≤ maxLen) (hwf' : ∀ z ∈ ys, (Lit.int .i64 z).wf = true) :
    Calls Try.prog 6 #[.slice A n c, .slice A' n' c'] w fun e w' => e = .returned (.bool true) ∧ Below w.heap.size w w' := by
  have HX := Lib.hid hx
  have HY := Lib.hid hy
  clear hx hwf hy hwf'
  unfold maxLen at hc hc'
  by_cases hbig : (1048576 : Int) < n
  · go_enter Try.func6, Try.ntmps6
    go_wp2_with fail
    go_ret
    exact ⟨rfl, Below.refl _ _⟩
  · have hs : (n : Int) ≤ 1048576 := by omega
    clear hbig
    by_cases hbig' : (1048576 : Int) < n'
    · go_enter Try.func6, Try.ntmps6
      go_wp2_with fail
      go_ret
      exact ⟨rfl, Below.refl _ _⟩
    · have hs' : (n' : Int) ≤ 1048576 := by omega
      clear hbig'
      go_enter Try.func6, Try.ntmps6
      go_wp2_with fail
      refine (toIntS_any _ _ _ zs _ HX.out (by omega)).mono ?_
      rintro e w1 ⟨rfl, ho1, hb1⟩
      have Ho1 := Lib.hid ho1
      have Hb1 := Lib.hid hb1
      clear ho1 hb1
      go_wp2_with fail
      refine (toIntS_any _ _ _ ys _ (HY.out.below Hb1.out) (by omega)).mono ?_
      rintro e w2 ⟨rfl, ho2, hb2⟩
      have Ho2 := Lib.hid ho2
      have Ho1' := Lib.hid (own_belowAll Ho1.out hb2)
      have Hb2 := Lib.hid (below_seq Hb1.out hb2)
      clear ho2 hb2 Ho1
      go_wp2_with fail
      refine (specCodeBegins_any _ _ _ _ _ _ zs ys _ (RdI.of_own Ho1'.out) (RdI.of_own Ho2.out) (by omega) (by omega) (Nat.le_refl _) (by unfold maxLen; omega)).mono ?_
      rintro e w3 ⟨rfl, m, rfl⟩
      have Hb3 := Lib.hid (below_seqD Hb2.out m)
      go_wp2_with fail
      refine (toIntS_any _ _ _ zs _ (HX.out.below Hb3.out) (by omega)).mono ?_
      rintro e w4 ⟨rfl, ho4, hb4⟩
      have Ho4 := Lib.hid ho4
      have Hb4 := Lib.hid (below_seq Hb3.out hb4)
      clear ho4 hb4 Ho2 Ho1'
      go_wp2_with fail
      refine (toIntS_any _ _ _ ys _ (HY.out.below Hb4.out) (by omega)).mono ?_
      rintro e w5 ⟨rfl, ho5, hb5⟩
      have Ho5 := Lib.hid ho5
      have Ho4' := Lib.hid (own_belowAll Ho4.out hb5)
      have Hb5 := Lib.hid (below_seq Hb4.out hb5)
      clear ho5 hb5 Ho4
      go_wp2_with fail
      refine (implCodeBegins_any _ _ _ _ _ _ zs ys _ (RdI.of_own Ho4'.out) (RdI.of_own Ho5.out) (by omega) (by omega)).mono ?_
      rintro e w6 ⟨rfl, hb6⟩
      have Ho4 := Lib.hid (own_belowAll Ho4'.out hb6)
      have Ho5' := Lib.hid (own_belowAll Ho5.out hb6)
      have Hb6 := Lib.hid (below_seq Hb5.out hb6)
      clear hb6 Ho4' Ho5
      go_wp2_with fail
      refine (toIntS_any _ _ _ zs _ (HX.out.below Hb6.out) (by omega)).mono ?_
      rintro e w7 ⟨rfl, ho7, hb7⟩
      have Ho7 := Lib.hid ho7
      have Ho4' := Lib.hid (own_belowAll Ho4.out hb7)
      have Ho5 := Lib.hid (own_belowAll Ho5'.out hb7)
      have Hb7 := Lib.hid (below_seq Hb6.out hb7)
      clear ho7 hb7 Ho4 Ho5'
      go_wp2_with fail
      refine (eqIntS_any _ _ _ _ _ _ zs zs _ (RdI.of_own Ho4'.out) (RdI.of_own Ho7.out) (by omega)).mono ?_
      rintro e w8 ⟨rfl, m8, rfl⟩
      rw [decide_eq_true (rfl : zs = zs)]
      have Hb8 := Lib.hid (below_seqD Hb7.out m8)
      go_wp2_with fail
      refine (toIntS_any _ _ _ ys _ (HY.out.below Hb8.out) (by omega)).mono ?_
      rintro e w9 ⟨rfl, ho9, hb9⟩
      have Ho9 := Lib.hid ho9
      have Ho5' := Lib.hid (own_belowAll (own_drewN Ho5.out m8) hb9)
      have Hb9 := Lib.hid (below_seq Hb8.out hb9)
      clear ho9 hb9
      go_wp2_with fail
      refine (eqIntS_any _ _ _ _ _ _ ys ys _ (RdI.of_own Ho5'.out) (RdI.of_own Ho9.out) (by omega)).mono ?_
      rintro e w10 ⟨rfl, m10, rfl⟩
      rw [decide_eq_true (rfl : ys = ys)]
      go_wp2_with fail
      go_ret
      exact ⟨rfl, below_seqD Hb9.out m10⟩

set_option maxHeartbeats 4000000 in
theorem FnExactCodeBack_walk (w : World) (A : Option Addr) (n c : Nat) (zs : List Int) (hx : RdI w A n zs) (hl : n ≤ c) (hc : c ≤ maxLen) (hwf : ∀ z ∈ zs, (Lit.int .i64 z).wf = true) :
    Calls Try.prog 7 #[.slice A n c] w fun e w' => e = .returned (.bool true) ∧ Below w.heap.size w w' := by
  have HX := Lib.hid hx
  clear hx hwf
  unfold maxLen at hc
  by_cases hbig : (1048576 : Int) < n
  · go_enter Try.func7, Try.ntmps7
    go_wp2_with fail
    go_ret
    exact ⟨rfl, Below.refl _ _⟩
  · have hs : (n : Int) ≤ 1048576 := by omega
    clear hbig
    have HL := Lib.hid (Cd.back_len zs)
    generalize hr : Cd.back zs = rs at HL
    have HR := Lib.hid hr
    generalize hk : Cd.validB zs = ok
    have HK := Lib.hid hk
    clear hr hk
    go_enter Try.func7, Try.ntmps7
    go_wp2_with fail
    refine (toIntS_any _ _ _ zs _ HX.out (by omega)).mono ?_
    rintro e w1 ⟨rfl, ho1, hb1⟩
    have Ho1 := Lib.hid ho1
    have Hb1 := Lib.hid hb1
    clear ho1 hb1
    go_wp2_with fail
    refine (specCodeBack_any _ _ _ zs _ (RdI.of_own Ho1.out) (by omega)).mono ?_
    rintro e w2 ⟨B, k, cb, rfl, ho2, hb2⟩
    rw [HR.out] at ho2
    rw [HK.out]
    have hkb : k ≤ 5 := by have h1 := ho2.1; simp at h1; have := HL.out; omega
    have HW := Lib.hid ho2
    have HWlt : Hid (∀ g, (Value.slice B k cb).ownBlock = some g → g < w2.heap.size) := fun g hg => (ho2.lt g hg).2
    have Hb2 := Lib.hid (below_seq Hb1.out hb2)
    clear ho2 hb2 Ho1
    go_wp2_with fail
    refine (toIntS_any _ _ _ zs _ (HX.out.below Hb2.out) (by omega)).mono ?_
    rintro e w3 ⟨rfl, ho3, hb3⟩
    have HW3 := Lib.hid (own_belowAll HW.out hb3)
    have Ho3 := Lib.hid ho3
    have HX3 : Hid (w2.heap.size < w3.heap.size) := (ho3.lt w2.heap.size rfl).2
    have Hb3 := Lib.hid (below_seq Hb2.out hb3)
    clear ho3 hb3 HW
    go_wp2_with fail
    refine (implCodeBack_any _ _ _ zs _ (RdI.of_own Ho3.out) (by omega)).mono ?_
    rintro e w4 ⟨G, kg, cg, rfl, ho4, hb4⟩
    rw [HR.out] at ho4
    rw [HK.out]
    have hkg : kg ≤ 5 := by have h1 := ho4.1; simp at h1; have := HL.out; omega
    have HW4 := Lib.hid (own_belowAll HW3.out hb4)
    have Ho4 := Lib.hid (own_belowAll Ho3.out hb4)
    have HG := Lib.hid ho4
    have Hb4 := Lib.hid (below_seq Hb3.out hb4)
    have HGge : Hid (∀ g, (Value.slice G kg cg).ownBlock = some g → w3.heap.size ≤ g) := fun g hg => (HG.out.lt g hg).1
    have HWG : Hid (w.heap.size ≤ w3.heap.size) := Hb3.out.size
    clear ho4 hb4 HW3 Ho3
    go_wp2_with fail
    refine (eqIntS_any _ _ _ _ _ _ rs rs _ (RdI.of_own HG.out) (RdI.of_own HW4.out) (by omega)).mono ?_
    rintro e w5 ⟨rfl, m5, rfl⟩
    rw [decide_eq_true (rfl : rs = rs)]
    have Hb5 := Lib.hid (below_seqD Hb4.out m5)
    go_wp2_with fail
    refine (toIntS_any _ _ _ zs _ (HX.out.below Hb5.out) (by omega)).mono ?_
    rintro e w6 ⟨rfl, ho6, hb6⟩
    have Ho6 := Lib.hid ho6
    have Ho4' := Lib.hid (own_belowAll (own_drewN Ho4.out m5) hb6)
    have HG6 := Lib.hid (own_belowAll (own_drewN HG.out m5) hb6)
    have HW6 := Lib.hid (own_belowAll (own_drewN HW4.out m5) hb6)
    have Hb6 := Lib.hid (below_seq Hb5.out hb6)
    clear ho6 hb6 Ho4 HG HW4
    go_wp2_with fail
    refine (eqIntS_any _ _ _ _ _ _ zs zs _ (RdI.of_own Ho4'.out) (RdI.of_own Ho6.out) (by omega)).mono ?_
    rintro e w7 ⟨rfl, m7, rfl⟩
    rw [decide_eq_true (rfl : zs = zs)]
    have Hb7 := Lib.hid (below_seqD Hb6.out m7)
    go_wp2_with fail
    refine (markIntS_any _ _ _ zs _ _ _ (own_drewN Ho4'.out m7) (by omega) (by omega) (by omega)).mono ?_
    rintro e w8 ⟨rfl, _, hg8⟩
    have HG8 := Lib.hid (own_kept (own_drewN HG6.out m7) hg8 (fun g r h1 h2 => by have := HGge.out g h1; have := HX3.out; simp [Value.ownBlock] at h2; omega))
    have HW8 := Lib.hid (own_kept (own_drewN HW6.out m7) hg8 (fun g r h1 h2 => by have := HWlt.out g h1; simp [Value.ownBlock] at h2; omega))
    have Hb8 := Lib.hid (below_grown Hb7.out hg8 Hb7.out.size (fun r h => by simp [Value.ownBlock] at h; have := Hb2.out.size; omega))
    clear hg8 HG6 HW6 Ho4' Ho6
    go_wp2_with fail
    refine (eqIntS_any _ _ _ _ _ _ rs rs _ (RdI.of_own HG8.out) (RdI.of_own HW8.out) (by omega)).mono ?_
    rintro e w9 ⟨rfl, m9, rfl⟩
    rw [decide_eq_true (rfl : rs = rs)]
    have Hb9 := Lib.hid (below_seqD Hb8.out m9)
    go_wp2_with fail
    refine (markIntS_any _ _ _ rs _ _ _ (own_drewN HG8.out m9) (by omega) (by omega) (by omega)).mono ?_
    rintro e w10 ⟨rfl, ho10, hg10⟩
    have HG10 := Lib.hid ho10
    have HW10 := Lib.hid (own_kept (own_drewN HW8.out m9) hg10 (fun g r h1 h2 => by have := HWlt.out g h1; have := HGge.out r h2; have := HX3.out; omega))
    have Hb10 := Lib.hid (below_grown Hb9.out hg10 Hb9.out.size (fun r h => by have := HGge.out r h; have := HWG.out; omega))
    clear ho10 hg10 HG8 HW8
    go_wp2_with fail
    refine (heldIntS_any _ _ _ _ _ (RdI.of_own HG10.out) (by omega) (by omega) (by omega)).mono ?_
    rintro e w11 ⟨rfl, rfl⟩
    go_wp2_with fail
    refine (toIntS_any _ _ _ zs _ (HX.out.below Hb10.out) (by omega)).mono ?_
    rintro e w12 ⟨rfl, ho12, hb12⟩
    have Ho12 := Lib.hid ho12
    have HG12 := Lib.hid (own_belowAll HG10.out hb12)
    have HW12 := Lib.hid (own_belowAll HW10.out hb12)
    have Hb12 := Lib.hid (below_seq Hb10.out hb12)
    clear ho12 hb12 HG10 HW10
    go_wp2_with fail
    refine (implCodeBack_any _ _ _ zs _ (RdI.of_own Ho12.out) (by omega)).mono ?_
    rintro e w13 ⟨E, ke, ce, rfl, ho13, hb13⟩
    rw [HR.out] at ho13
    rw [HK.out]
    have hke : ke ≤ 5 := by have h1 := ho13.1; simp at h1; have := HL.out; omega
    have HE13 := Lib.hid ho13
    have HG13 := Lib.hid (own_belowAll HG12.out hb13)
    have HW13 := Lib.hid (own_belowAll HW12.out hb13)
    have Hb13 := Lib.hid (below_seq Hb12.out hb13)
    clear ho13 hb13 HG12 HW12 Ho12
    go_wp2_with fail
    refine (eqIntS_any _ _ _ _ _ _ rs rs _ (RdI.of_own HE13.out) (RdI.of_own HW13.out) (by omega)).mono ?_
    rintro e w14 ⟨rfl, m14, rfl⟩
    rw [decide_eq_true (rfl : rs = rs)]
    have Hb14 := Lib.hid (below_seqD Hb13.out m14)
    go_wp2_with fail
    refine (heldIntS_any _ _ _ _ _ (RdI.of_own (own_drewN HG13.out m14)) (by omega) (by omega) (by omega)).mono ?_
    rintro e w15 ⟨rfl, rfl⟩
    go_wp2_with fail
    go_ret
    exact ⟨rfl, Hb14.out⟩
end Go.Proofs.Ytablnijmoohjhaa
