/-
  The walk of the law FnExactCodeFrom: it returns true for every text and leaves old memory as it was.
-/
import Derived.Test.YtablnijmoohjhaaFrom
import Derived.OpenShut
namespace Go.Proofs.Ytablnijmoohjhaa
open Go.RowKit
set_option linter.unusedVariables false

theorem Cd.fromL_len (s : ByteArray) : (Cd.fromL s).length ≤ 5 := by
  unfold Cd.fromL
  split
  · rename_i h
    have h1 := Cd.ev_len s.toList
    simp only [Cd.okS, Bool.and_eq_true, decide_eq_true_eq] at h
    omega
  · simp

set_option maxHeartbeats 4000000 in
theorem FnExactCodeFrom_walk (w : World) (s : ByteArray) (hs : s.size ≤ maxLen) :
    Calls Try.prog 8 #[.string s] w fun e w' => e = .returned (.bool true) ∧ Below w.heap.size w w' := by
  unfold maxLen at hs
  by_cases hbig : (1048576 : Int) < s.size
  · go_enter Try.func8, Try.ntmps8
    go_wp2_with fail
    go_ret
    exact ⟨rfl, Below.refl _ _⟩
  have hss : s.size ≤ 1048576 := by omega
  clear hbig
  have HL := Lib.hid (Cd.fromL_len s)
  generalize hr : Cd.fromL s = rs at HL
  have HR := Lib.hid hr
  generalize hk : Cd.okS s.toList = ok
  have HK := Lib.hid hk
  clear hr hk
  go_enter Try.func8, Try.ntmps8
  go_wp2_with fail
  refine (specCodeFrom_any _ _ hss).mono ?_
  rintro e w2 ⟨B, k, cb, rfl, ho2, hb2⟩
  rw [HR.out] at ho2
  rw [HK.out]
  have hkb : k ≤ 5 := by have h1 := ho2.1; simp at h1; have := HL.out; omega
  have HW := Lib.hid ho2
  have HWlt : Hid (∀ g, (Value.slice B k cb).ownBlock = some g → g < w2.heap.size) := fun g hg => (ho2.lt g hg).2
  have Hb2 := Lib.hid hb2
  clear ho2 hb2
  go_wp2_with fail
  refine (implCodeFrom_any _ _ hss).mono ?_
  rintro e w4 ⟨G, kg, cg, rfl, ho4, hb4⟩
  rw [HR.out] at ho4
  rw [HK.out]
  have hkg : kg ≤ 5 := by have h1 := ho4.1; simp at h1; have := HL.out; omega
  have HW4 := Lib.hid (own_belowAll HW.out hb4)
  have HG := Lib.hid ho4
  have Hb4 := Lib.hid (below_seq Hb2.out hb4)
  have HGge : Hid (∀ g, (Value.slice G kg cg).ownBlock = some g → w2.heap.size ≤ g) := fun g hg => (HG.out.lt g hg).1
  have HWG : Hid (w.heap.size ≤ w2.heap.size) := Hb2.out.size
  clear ho4 hb4 HW
  go_wp2_with fail
  refine (eqIntS_any _ _ _ _ _ _ rs rs _ (RdI.of_own HG.out) (RdI.of_own HW4.out) (by omega)).mono ?_
  rintro e w9 ⟨rfl, m9, rfl⟩
  rw [decide_eq_true (rfl : rs = rs)]
  have Hb9 := Lib.hid (below_seqD Hb4.out m9)
  go_wp2_with fail
  refine (markIntS_any _ _ _ rs _ _ _ (own_drewN HG.out m9) (by omega) (by omega) (by omega)).mono ?_
  rintro e w10 ⟨rfl, ho10, hg10⟩
  have HG10 := Lib.hid ho10
  have HW10 := Lib.hid (own_kept (own_drewN HW4.out m9) hg10 (fun g r h1 h2 => by have := HWlt.out g h1; have := HGge.out r h2; omega))
  have Hb10 := Lib.hid (below_grown Hb9.out hg10 Hb9.out.size (fun r h => by have := HGge.out r h; have := HWG.out; omega))
  clear ho10 hg10 HG HW4
  go_wp2_with fail
  refine (heldIntS_any _ _ _ _ _ (RdI.of_own HG10.out) (by omega) (by omega) (by omega)).mono ?_
  rintro e w11 ⟨rfl, rfl⟩
  go_wp2_with fail
  refine (implCodeFrom_any _ _ hss).mono ?_
  rintro e w13 ⟨E, ke, ce, rfl, ho13, hb13⟩
  rw [HR.out] at ho13
  rw [HK.out]
  have hke : ke ≤ 5 := by have h1 := ho13.1; simp at h1; have := HL.out; omega
  have HE13 := Lib.hid ho13
  have HG13 := Lib.hid (own_belowAll HG10.out hb13)
  have HW13 := Lib.hid (own_belowAll HW10.out hb13)
  have Hb13 := Lib.hid (below_seq Hb10.out hb13)
  clear ho13 hb13 HG10 HW10
  go_wp2_with fail
  refine (eqIntS_any _ _ _ _ _ _ rs rs _ (RdI.of_own HE13.out) (RdI.of_own HW13.out) (by omega)).mono ?_
  rintro e w14 ⟨rfl, m14, rfl⟩
  rw [decide_eq_true (rfl : rs = rs)]
  have Hb14 := Lib.hid (below_seqD Hb13.out m14)
  go_wp2_with fail
  refine (heldIntS_any _ _ _ _ _ (RdI.of_own (own_drewN HG13.out m14)) (by omega) (by omega) (by omega)).mono ?_
  rintro e w15 ⟨rfl, rfl⟩
  go_wp2_with fail
  go_ret
  exact ⟨rfl, Hb14.out⟩
end Go.Proofs.Ytablnijmoohjhaa
