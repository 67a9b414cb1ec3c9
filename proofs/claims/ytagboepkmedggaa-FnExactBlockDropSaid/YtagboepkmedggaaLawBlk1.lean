/-
  The walks of the laws FnExactBlockNext and FnExactBlockDrop: each returns true for every argument and leaves old memory as it was.
  Conditions: none.
-/
import Derived.Test.YtagboepkmedggaaBlkC
import Derived.Test.YtagboepkmedggaaBlkE
namespace Go.Proofs.Ytagboepkmedggaa
open Go.RowKit
set_option linter.unusedVariables false
attribute [local go_sem ↓] Go.wp_at_zero Go.wp_at_succ run_eql_block run_neq_block

set_option maxHeartbeats 1000000 in
theorem FnExactBlockNext_walk (w : World) (n : Int) (i o : Bool) (wn : (Lit.int .i64 n).wf = true) :
    Calls Try.prog 8 #[.agg #[.int .i64 n, .bool i, .bool o]] w fun e w' => e = .returned (.bool true) ∧ Below w.heap.size w w' := by
  clear wn
  obtain ⟨z, hz⟩ : ∃ z, mkS (Bk.next n i o) = z := ⟨_, rfl⟩
  have HZ := Lib.hid hz
  clear hz
  go_enter Try.func8, Try.ntmps8
  go_wp2_with fail
  refine (toBlock_any _ _ _ _).mono ?_
  rintro e w1 ⟨rfl, hb1⟩
  have Hb1 := Lib.hid hb1
  clear hb1
  go_wp2_with fail
  refine (specBlockNext_any _ _ _ _).mono ?_
  rintro e w2 ⟨rfl, hb2⟩
  rw [HZ.out]
  have Hb2 := Lib.hid (below_seq Hb1.out hb2)
  clear hb2
  have c0 : w2.cell? ⟨w.heap.size, 0, none⟩ = some (.int .i64 n) := (Hb2.out.cell (p := ⟨w.heap.size, 0, none⟩) (by simp)).trans (by simp [go_sem])
  have c1 : w2.cell? ⟨w.heap.size, 1, none⟩ = some (.bool i) := (Hb2.out.cell (p := ⟨w.heap.size, 1, none⟩) (by simp)).trans (by simp [go_sem])
  have c2 : w2.cell? ⟨w.heap.size, 2, none⟩ = some (.bool o) := (Hb2.out.cell (p := ⟨w.heap.size, 2, none⟩) (by simp)).trans (by simp [go_sem])
  go_wp2_with fail
  refine (toBlock_any _ _ _ _).mono ?_
  rintro e w3 ⟨rfl, hb3⟩
  have Hb3 := Lib.hid (below_seq Hb2.out hb3)
  clear hb3 c0 c1 c2
  go_wp2_with fail
  refine (implBlockNext_any _ _ _ _).mono ?_
  rintro e w4 ⟨rfl, hb4⟩
  rw [HZ.out]
  have Hb4 := Lib.hid (below_seq Hb3.out hb4)
  clear hb4
  go_wp2_with fail
  go_ret
  exact ⟨rfl, below_seq ((Below.refl w.heap.size w).alloc (Nat.le_refl _) _) Hb4.out⟩
theorem Bk.dropL_len (l : List UInt8) : (Bk.dropL l).length ≤ 30 := by
  unfold Bk.dropL
  split
  · have := Bk.dr_len l l.length; omega
  · simp
set_option maxHeartbeats 2000000 in
theorem FnExactBlockDrop_walk (w : World) (s : ByteArray) (hsz : s.size ≤ maxLen) :
    Calls Try.prog 9 #[.string s] w fun e w' => e = .returned (.bool true) ∧ Below w.heap.size w w' := by
  have HSZ := Lib.hid hsz
  unfold maxLen at hsz
  by_cases hbig : (1048576 : Int) < s.size
  · go_enter Try.func9, Try.ntmps9
    go_wp2_with fail
    go_ret
    exact ⟨rfl, Below.refl _ _⟩
  · have hs : (s.size : Int) ≤ 1048576 := by omega
    clear hbig
    have HL := Lib.hid (Bk.dropL_len s.toList)
    generalize hr : Bk.dropL s.toList = rs at HL
    have HR := Lib.hid hr
    clear hr
    go_enter Try.func9, Try.ntmps9
    go_wp2_with fail
    refine (specBlockDrop_any s _ HSZ.out).mono ?_
    rintro e w2 ⟨B, k, cb, rfl, ho2, hb2⟩
    rw [HR.out] at ho2
    have hkb : k ≤ 30 := by have h1 := ho2.1; simp at h1; have := HL.out; omega
    have HW := Lib.hid ho2
    have HWlt : Hid (∀ g, (Value.slice B k cb).ownBlock = some g → g < w2.heap.size) := fun g hg => (ho2.lt g hg).2
    have Hb2 := Lib.hid hb2
    clear ho2 hb2
    go_wp2_with fail
    refine (implBlockDrop_any s _ HSZ.out).mono ?_
    rintro e w4 ⟨G, kg, cg, rfl, ho4, hb4⟩
    rw [HR.out] at ho4
    have hkg : kg ≤ 30 := by have h1 := ho4.1; simp at h1; have := HL.out; omega
    have HW4 := Lib.hid (own_belowAll HW.out hb4)
    have HG := Lib.hid ho4
    have Hb4 := Lib.hid (below_seq Hb2.out hb4)
    have HGge : Hid (∀ g, (Value.slice G kg cg).ownBlock = some g → w2.heap.size ≤ g) := fun g hg => (HG.out.lt g hg).1
    have HWG : Hid (w.heap.size ≤ w2.heap.size) := Hb2.out.size
    clear ho4 hb4 HW
    go_wp2_with fail
    refine (eqIntS_any _ _ _ _ _ _ rs rs _ (RdI.of_own HG.out) (RdI.of_own HW4.out) (by omega)).mono ?_
    rintro e w5 ⟨rfl, m5, rfl⟩
    rw [decide_eq_true (rfl : rs = rs)]
    have Hb5 := Lib.hid (below_seqD Hb4.out m5)
    go_wp2_with fail
    refine (markIntS_any _ _ _ rs _ _ _ (own_drewN HG.out m5) (by omega) (by omega) (by omega)).mono ?_
    rintro e w10 ⟨rfl, ho10, hg10⟩
    have HG10 := Lib.hid ho10
    have HW10 := Lib.hid (own_kept (own_drewN HW4.out m5) hg10 (fun g r h1 h2 => by have := HWlt.out g h1; have := HGge.out r h2; omega))
    have Hb10 := Lib.hid (below_grown Hb5.out hg10 Hb5.out.size (fun r h => by have := HGge.out r h; have := HWG.out; omega))
    clear ho10 hg10 HG HW4
    go_wp2_with fail
    refine (heldIntS_any _ _ _ _ _ (RdI.of_own HG10.out) (by omega) (by omega) (by omega)).mono ?_
    rintro e w11 ⟨rfl, rfl⟩
    go_wp2_with fail
    refine (implBlockDrop_any s _ HSZ.out).mono ?_
    rintro e w13 ⟨E, ke, ce, rfl, ho13, hb13⟩
    rw [HR.out] at ho13
    have hke : ke ≤ 30 := by have h1 := ho13.1; simp at h1; have := HL.out; omega
    have HG13 := Lib.hid (own_belowAll HG10.out hb13)
    have HW13 := Lib.hid (own_belowAll HW10.out hb13)
    have HE13 := Lib.hid ho13
    have Hb13 := Lib.hid (below_seq Hb10.out hb13)
    clear ho13 hb13 HG10 HW10
    go_wp2_with fail
    refine (eqIntS_any _ _ _ _ _ _ rs rs _ (RdI.of_own HE13.out) (RdI.of_own HW13.out) (by omega)).mono ?_
    rintro e w14 ⟨rfl, m14, rfl⟩
    rw [decide_eq_true (rfl : rs = rs)]
    have Hb14 := Lib.hid (below_seqD Hb13.out m14)
    go_wp2_with fail
    refine (heldIntS_any _ _ _ _ _ (RdI.drewN (RdI.of_own HG13.out) m14) (by omega) (by omega) (by omega)).mono ?_
    rintro e w15 ⟨rfl, rfl⟩
    go_wp2_with fail
    go_ret
    exact ⟨rfl, Hb14.out⟩
end Go.Proofs.Ytagboepkmedggaa
