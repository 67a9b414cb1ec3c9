/-
  The walk of the law FnExactBlockRepair: it returns true for every text and leaves old memory as it was.
  Conditions: none.
-/
import Derived.Test.YtagboepkmedggaaBlkF
namespace Go.Proofs.Ytagboepkmedggaa
open Go.RowKit
set_option linter.unusedVariables false

theorem mark1_any (A : Option Addr) (n c : Nat) (zs : List ByteArray) (base : Nat) (w : World) (hx : w.ownsRow base 9 1 (.slice A n c) n (zs.map Value.string)) (hn : n ≤ 1048576) :
    Calls Try.prog 41 #[.slice A n c, .int .i64 1] w fun e w' => e = .returned (.int .i64 (1 + n)) ∧
      w'.ownsRow base 9 1 (.slice A n c) n ((marks 1 n).map Value.string) ∧ w.grownBy w' (Value.slice A n c).ownBlock := markStringS_any A n c zs 1 base w hx hn (by omega) (by omega)
theorem held1_any (A : Option Addr) (n c : Nat) (w : World) (hx : RdS w A n (marks 1 n)) (hn : n ≤ 1048576) :
    Calls Try.prog 42 #[.slice A n c, .int .i64 1] w fun e w' => e = .returned (.int .i64 (1 + n)) ∧ Below w.heap.size w w' := heldStringS_any A n c 1 w hx hn (by omega) (by omega)
set_option maxHeartbeats 2000000 in
theorem FnExactBlockRepair_walk (w : World) (s : ByteArray) (hsz : s.size ≤ maxLen) :
    Calls Try.prog 12 #[.string s] w fun e w' => e = .returned (.bool true) ∧ Below w.heap.size w w' := by
  have HSZ := Lib.hid hsz
  unfold maxLen at hsz
  by_cases hbig : (1048576 : Int) < s.size
  · go_enter Try.func12, Try.ntmps12
    go_wp2_with fail
    go_ret
    exact ⟨rfl, Below.refl _ _⟩
  · have hs : (s.size : Int) ≤ 1048576 := by omega
    clear hbig
    have HL := Lib.hid (Bk.repairL_len s.toList)
    generalize hr : Bk.repairL s.toList = rs at HL
    have HR := Lib.hid hr
    clear hr
    go_enter Try.func12, Try.ntmps12
    go_wp2_with fail
    refine (specBlockRepair_any s _ HSZ.out).mono ?_
    rintro e w2 ⟨B, k, cb, rfl, ho2, hb2⟩
    rw [HR.out] at ho2
    have hkb : k ≤ 210 := by have h1 := ho2.1; simp [txs] at h1; have := HL.out; omega
    have HW := Lib.hid ho2
    have HWlt : Hid (∀ g, (Value.slice B k cb).ownBlock = some g → g < w2.heap.size) := fun g hg => (ho2.lt g hg).2
    have Hb2 := Lib.hid hb2
    clear ho2 hb2
    go_wp2_with fail
    refine (implBlockRepair_any s _ HSZ.out).mono ?_
    rintro e w4 ⟨G, kg, cg, rfl, ho4, hb4⟩
    rw [HR.out] at ho4
    have hkg : kg ≤ 210 := by have h1 := ho4.1; simp [txs] at h1; have := HL.out; omega
    have HW4 := Lib.hid (own_belowAll HW.out hb4)
    have HG := Lib.hid ho4
    have Hb4 := Lib.hid (below_seq Hb2.out hb4)
    have HGge : Hid (∀ g, (Value.slice G kg cg).ownBlock = some g → w2.heap.size ≤ g) := fun g hg => (HG.out.lt g hg).1
    have HWG : Hid (w.heap.size ≤ w2.heap.size) := Hb2.out.size
    clear ho4 hb4 HW
    go_wp2_with fail
    refine (eqStringS_any _ _ _ _ _ _ (rs.map mkS) (rs.map mkS) _ (RdS.of_own HG.out) (RdS.of_own HW4.out) (by omega)).mono ?_
    rintro e w5 ⟨rfl, m5, rfl⟩
    rw [decide_eq_true (rfl : rs.map mkS = rs.map mkS)]
    have Hb5 := Lib.hid (below_seqD Hb4.out m5)
    go_wp2_with fail
    refine (mark1_any _ _ _ (rs.map mkS) _ _ (own_drewN HG.out m5) (by omega)).mono ?_
    rintro e w10 ⟨rfl, ho10, hg10⟩
    have HG10 := Lib.hid ho10
    have HW10 := Lib.hid (own_kept (own_drewN HW4.out m5) hg10 (fun g r h1 h2 => by have := HWlt.out g h1; have := HGge.out r h2; omega))
    have Hb10 := Lib.hid (below_grown Hb5.out hg10 Hb5.out.size (fun r h => by have := HGge.out r h; have := HWG.out; omega))
    clear ho10 hg10 HG HW4
    go_wp2_with fail
    refine (held1_any _ _ _ _ (RdS.of_own HG10.out) (by omega)).mono ?_
    rintro e w11 ⟨rfl, hb11⟩
    have HG11 := Lib.hid (own_belowAll HG10.out hb11)
    have HW11 := Lib.hid (own_belowAll HW10.out hb11)
    have Hb11 := Lib.hid (below_seq Hb10.out hb11)
    clear hb11 HG10 HW10
    go_wp2_with fail
    refine (implBlockRepair_any s _ HSZ.out).mono ?_
    rintro e w13 ⟨E, ke, ce, rfl, ho13, hb13⟩
    rw [HR.out] at ho13
    have hke : ke ≤ 210 := by have h1 := ho13.1; simp [txs] at h1; have := HL.out; omega
    have HG13 := Lib.hid (own_belowAll HG11.out hb13)
    have HW13 := Lib.hid (own_belowAll HW11.out hb13)
    have HE13 := Lib.hid ho13
    have Hb13 := Lib.hid (below_seq Hb11.out hb13)
    clear ho13 hb13 HG11 HW11
    go_wp2_with fail
    refine (eqStringS_any _ _ _ _ _ _ (rs.map mkS) (rs.map mkS) _ (RdS.of_own HE13.out) (RdS.of_own HW13.out) (by omega)).mono ?_
    rintro e w14 ⟨rfl, m14, rfl⟩
    rw [decide_eq_true (rfl : rs.map mkS = rs.map mkS)]
    have Hb14 := Lib.hid (below_seqD Hb13.out m14)
    go_wp2_with fail
    refine (held1_any _ _ _ _ (RdS.drewN (RdS.of_own HG13.out) m14) (by omega)).mono ?_
    rintro e w15 ⟨rfl, hb15⟩
    have Hb15 := Lib.hid (below_seq Hb14.out hb15)
    clear hb15
    go_wp2_with fail
    go_ret
    exact ⟨rfl, Hb15.out⟩
end Go.Proofs.Ytagboepkmedggaa
