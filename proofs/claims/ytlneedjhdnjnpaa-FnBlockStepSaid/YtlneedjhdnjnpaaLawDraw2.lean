/-
  Contracts of countOf, normal, DrawBlockCycle; the walks of the laws FnBlockTrains, FnBlockCycle, FnBlockNormal, FnBlockSafe: each returns true for every list of bytes and leaves old memory as it was.
-/
import Derived.Test.YtlneedjhdnjnpaaDrawTxt
import Derived.Test.YtlneedjhdnjnpaaBlkLaws
namespace Go.Proofs.Ytlneedjhdnjnpaa
open Go.RowKit
set_option linter.unusedVariables false
attribute [local go_sem ↓] Go.wp_at_zero Go.wp_at_succ run_eql_block run_neq_block

set_option maxHeartbeats 1000000 in
theorem countOf_any (s : ByteArray) (d : UInt8) (w : World) (hsz : s.size ≤ 1000000) :
    Calls Try.prog 24 #[.string s, .int .u8 (d.toNat : Nat)] w fun e w' => e = .returned (.int .i64 (s.toList.count d : Nat)) ∧ w = w' := by
  go_enter Try.func24, Try.ntmps24
  go_wp2_with fail
  go_loop [5, 6] (fun v j => ∃ k c : Nat, k ≤ s.size ∧ c ≤ k ∧ j = .int .i64 k ∧ v = .int .i64 c ∧ Hid ((s.toList.take k).count d = c)) (fun _ j => s.size - (intOf j).toNat)
  case atStart => exact ⟨0, 0, by omega, by omega, rfl, rfl, by simp [Hid]⟩
  case round =>
    obtain ⟨k, c, hk, hck, rfl, rfl, HC⟩ := hrel
    by_cases hlt : k < s.size
    · have HA := Lib.hid (str_at' s k hlt)
      by_cases h8 : (s[k]'hlt) = d
      · have hb8 : (((s[k]'hlt).toNat : Int) == (d.toNat : Int)) = true := by rw [h8]; simp
        have HN : Hid ((s.toList.take (k + 1)).count d = c + 1) := by unfold Hid; rw [Bk.count_snoc HA.out, HC.out, if_pos h8]
        clear h8
        go_wp2_with fail
        go_round
        case rel => exact ⟨k + 1, c + 1, by omega, by omega, by go_num, by go_num, HN⟩
        case measure => simp [intOf]; omega
      · have hb8 : (((s[k]'hlt).toNat : Int) == (d.toNat : Int)) = false := by
          rw [beq_eq_false_iff_ne]
          intro e
          apply h8
          apply UInt8.toNat_inj.1
          omega
        have HN : Hid ((s.toList.take (k + 1)).count d = c) := by unfold Hid; rw [Bk.count_snoc HA.out, HC.out, if_neg h8]; rfl
        clear h8
        go_wp2_with fail
        go_round
        case rel => exact ⟨k + 1, c, by omega, by omega, by go_num, rfl, HN⟩
        case measure => simp [intOf]; omega
    · have HE : Hid (s.toList.count d = c) := by
        unfold Hid
        have h1 := HC.out
        rw [List.take_of_length_le (by rw [str_len']; omega)] at h1
        exact h1
      go_wp2_with fail
      go_ret
      exact ⟨ret_int (by rw [HE.out]), rfl⟩
theorem normal_any (w : World) : Calls Try.prog 28 #[] w fun e w' => e = .returned (bv 0 false false) ∧ Below w.heap.size w w' := by
  go_enter Try.func28, Try.ntmps28
  go_wp2_with fail
  go_returns
  refine ⟨rfl, ?_⟩
  go_grown
set_option maxRecDepth 100000 in
set_option maxHeartbeats 4000000 in
theorem FnBlockTrains_walk (w : World) (A : Option Addr) (n c : Nat) (bs : List UInt8) (hx : RdB w A n bs) (hl : n ≤ c) (hc : c ≤ maxLen) :
    Calls Try.prog 4 #[.slice A n c] w fun e w' => e = .returned (.bool true) ∧ Below w.heap.size w w' := by
  have HX := Lib.hid hx
  have hc' := Lib.hid hc
  clear hx
  unfold maxLen at hc
  by_cases hbig : (1048576 : Int) < n
  · go_enter Try.func4, Try.ntmps4
    go_wp2_with fail
    go_ret
    exact ⟨rfl, Below.refl _ _⟩
  · have hs : (n : Int) ≤ 1048576 := by omega
    clear hbig
    go_enter Try.func4, Try.ntmps4
    go_wp2_with fail
    refine (DrawBlockTrains_any _ _ _ bs _ HX.out hl hc'.out).mono ?_
    rintro e w1 ⟨S, rfl, hS, hb1⟩
    have Hb1 := Lib.hid hb1
    have HSz : Hid (S.size ≤ maxLen) := by unfold Hid maxLen; omega
    clear hb1
    by_cases hlg : Bk.legal S.toList = true
    · have HT := Lib.hid (Bk.trains_yes hlg)
      have HL := Lib.hid (Bk.trains_law hlg)
      obtain ⟨t, ht⟩ : ∃ t, S.toList.count 108 = t := ⟨_, rfl⟩
      have HTT := Lib.hid ht
      have h4 : 4 * t ≤ S.size := by have := (HL.out).1; rw [ht, str_len'] at this; exact this
      clear hlg ht
      go_wp2_with fail
      refine (implBlockTrains_any S _ HSz.out).mono ?_
      rintro e w2 ⟨rfl, hb2⟩
      have Hb2 := Lib.hid (below_seq Hb1.out hb2)
      clear hb2
      rw [HT.out, HTT.out]
      go_wp2_with fail
      refine (specBlockTrains_any S _ HSz.out).mono ?_
      rintro e w3 ⟨rfl, hb3⟩
      have Hb3 := Lib.hid (below_seq Hb2.out hb3)
      clear hb3
      rw [HT.out, HTT.out]
      go_wp2_with fail
      refine (implBlockCycle_any 1 _).mono ?_
      rintro e w4 ⟨rfl, hb4⟩
      have Hb4 := Lib.hid (below_seq Hb3.out hb4)
      clear hb4
      rw [show mkS (Bk.cycL 1) = mkS Bk.cyc from rfl, show Bk.cycOk 1 = true from rfl]
      obtain ⟨X, hadd, hX, hXz⟩ : ∃ X : ByteArray, (∀ W : World, (Op.stringOp .add (mkS Bk.cyc) S).run Try.prog W = .ok (.string X) W) ∧ X.toList = Bk.cyc ++ S.toList ∧ X.size = 5 + S.size :=
        ⟨_, fun W => run_string_add_sum W _ _ (by show 5 + S.size ≤ _; omega), by rw [append_toList, mkS_toList], by rw [ByteArray.size_append]; rfl⟩
      have HXX := Lib.hid hX
      have HXZ : Hid (X.size ≤ maxLen) := by unfold Hid maxLen; omega
      clear hX
      by_cases h30 : 30 < X.size
      · go_wp2_with fail
        refine (implBlockTrains_any X _ HXZ.out).mono ?_
        rintro e w5 ⟨rfl, hb5⟩
        have Hb5 := Lib.hid (below_seq Hb4.out hb5)
        clear hb5
        obtain ⟨y, hy⟩ : ∃ y, Bk.trains X.toList = y := ⟨_, rfl⟩
        rw [hy]
        clear hy
        go_wp2_with fail
        go_ret
        exact ⟨rfl, Hb5.out⟩
      · have HTX : Hid (Bk.trains X.toList = (t : Int) + 1) := by
          unfold Hid
          obtain ⟨h1, h2⟩ := HL.out.2 (by rw [str_len']; omega)
          rw [HXX.out, Bk.trains_yes h1, h2, HTT.out]
          rfl
        go_wp2_with fail
        refine (implBlockTrains_any X _ HXZ.out).mono ?_
        rintro e w5 ⟨rfl, hb5⟩
        have Hb5 := Lib.hid (below_seq Hb4.out hb5)
        clear hb5
        rw [HTX.out]
        go_wp2_with fail
        go_ret
        exact ⟨rfl, Hb5.out⟩
    · have HT := Lib.hid (Bk.trains_no (by simpa using hlg))
      clear hlg
      go_wp2_with fail
      refine (implBlockTrains_any S _ HSz.out).mono ?_
      rintro e w2 ⟨rfl, hb2⟩
      have Hb2 := Lib.hid (below_seq Hb1.out hb2)
      clear hb2
      rw [HT.out]
      go_wp2_with fail
      refine (specBlockTrains_any S _ HSz.out).mono ?_
      rintro e w3 ⟨rfl, hb3⟩
      have Hb3 := Lib.hid (below_seq Hb2.out hb3)
      clear hb3
      rw [HT.out]
      go_wp2_with fail
      go_ret
      exact ⟨rfl, Hb3.out⟩
theorem DrawBlockCycle_any (A : Option Addr) (n c : Nat) (bs : List UInt8) (w : World) (hx : RdB w A n bs) (hl : n ≤ c) (hc : c ≤ maxLen) :
    Calls Try.prog 14 #[.slice A n c] w fun e w' => ∃ x : Int, e = .returned (.int .i64 x) ∧ -1 ≤ x ∧ x ≤ 7 ∧ Below w.heap.size w w' := by
  have HX := Lib.hid hx
  clear hx
  go_enter Try.func14, Try.ntmps14
  go_wp2_with fail
  refine (l6Open_any _ _ _ bs _ HX.out hl hc).mono ?_
  rintro e w1 ⟨rfl, hs1, hb1⟩
  have Hs1 := Lib.hid hs1
  have Hb1 := Lib.hid hb1
  clear hs1 hb1
  go_wp2_with fail
  refine (pick_any _ _ _ _ _ Hs1.out (by omega) (by omega)).mono ?_
  rintro e w2 ⟨x, rfl, hx1, _, _, hg2⟩
  obtain ⟨hx0, hx9⟩ := hx1 (by omega)
  have Hg2 := Lib.hid hg2
  clear hg2 hx1
  go_wp2_with fail
  go_ret
  exact ⟨x - 1, rfl, by omega, by omega, below_src Hb1.out Hg2.out (Nat.le_refl _)⟩
set_option maxRecDepth 100000 in
set_option maxHeartbeats 4000000 in
theorem FnBlockCycle_walk (w : World) (A : Option Addr) (n c : Nat) (bs : List UInt8) (hx : RdB w A n bs) (hl : n ≤ c) (hc : c ≤ maxLen) :
    Calls Try.prog 3 #[.slice A n c] w fun e w' => e = .returned (.bool true) ∧ Below w.heap.size w w' := by
  have HX := Lib.hid hx
  have hc' := Lib.hid hc
  clear hx
  unfold maxLen at hc
  by_cases hbig : (1048576 : Int) < n
  · go_enter Try.func3, Try.ntmps3
    go_wp2_with fail
    go_ret
    exact ⟨rfl, Below.refl _ _⟩
  · have hs : (n : Int) ≤ 1048576 := by omega
    clear hbig
    go_enter Try.func3, Try.ntmps3
    go_wp2_with fail
    refine (DrawBlockCycle_any _ _ _ bs _ HX.out hl hc'.out).mono ?_
    rintro e w1 ⟨x, rfl, hx1, hx7, hb1⟩
    have Hb1 := Lib.hid hb1
    clear hb1
    by_cases hok : 0 ≤ x ∧ x ≤ 6
    · have HO : Hid (Bk.cycOk x = true) := decide_eq_true hok
      obtain ⟨h0, h6⟩ := hok
      obtain ⟨m, rfl⟩ := Int.eq_ofNat_of_zero_le h0
      have hm : m ≤ 6 := by omega
      obtain ⟨Z, hZ⟩ : ∃ Z, mkS (Lib.repeatL Bk.cyc m) = Z := ⟨_, rfl⟩
      have HL : Hid (mkS (Bk.cycL (m : Int)) = Z) := by unfold Hid Bk.cycL; rw [if_pos HO.out, ← hZ]; rfl
      have HZL : Hid (Z.toList = Lib.repeatL Bk.cyc m) := by unfold Hid; rw [← hZ, mkS_toList]
      have HC := Lib.hid (Bk.cyc_law m hm)
      have HZz : Hid (Z.size = 5 * m) := by unfold Hid; rw [← str_len', HZL.out]; exact HC.out.2.2.2
      have hz1 : Z.size ≤ 5 * m := by rw [HZz.out]; exact Nat.le_refl _
      have hz2 : 5 * m ≤ Z.size := by rw [HZz.out]; exact Nat.le_refl _
      have HSz : Hid (Z.size ≤ maxLen) := by unfold Hid maxLen; omega
      have HTr : Hid (Bk.trains Z.toList = (m : Int)) := by unfold Hid; rw [HZL.out, Bk.trains_yes HC.out.2.1, HC.out.2.2.1]
      have HLg : Hid (Bk.legal Z.toList = true) := by unfold Hid; rw [HZL.out]; exact HC.out.2.1
      have HNm : Hid (Bk.normalB Z.toList = true) := by unfold Hid; rw [HZL.out]; exact HC.out.1
      clear hZ
      go_wp2_with fail
      refine (implBlockCycle_any (m : Int) _).mono ?_
      rintro e w2 ⟨rfl, hb2⟩
      rw [HO.out, HL.out]
      have Hb2 := Lib.hid (below_seq Hb1.out hb2)
      clear hb2
      go_wp2_with fail
      refine (specBlockCycle_any (m : Int) _).mono ?_
      rintro e w3 ⟨rfl, rfl⟩
      rw [HO.out, HL.out]
      go_wp2_with fail
      refine (implBlockNormal_any Z _ HSz.out).mono ?_
      rintro e w4 ⟨rfl, hb4⟩
      rw [HNm.out, HLg.out]
      have Hb4 := Lib.hid (below_seq Hb2.out hb4)
      clear hb4
      go_wp2_with fail
      refine (implBlockTrains_any Z _ HSz.out).mono ?_
      rintro e w5 ⟨rfl, hb5⟩
      rw [HTr.out]
      have Hb5 := Lib.hid (below_seq Hb4.out hb5)
      clear hb5
      have heq : ((Z.size : Int) == 5 * (m : Int)) = true := by rw [HZz.out]; simp
      go_wp2_with fail
      refine (implBlockLegal_any Z _ HSz.out).mono ?_
      rintro e w6 ⟨rfl, hb6⟩
      rw [HLg.out]
      have Hb6 := Lib.hid (below_seq Hb5.out hb6)
      clear hb6
      go_wp2_with fail
      go_ret
      exact ⟨rfl, Hb6.out⟩
    · have HO : Hid (Bk.cycOk x = false) := decide_eq_false hok
      obtain ⟨Z, hZ⟩ : ∃ Z, mkS (Bk.cycL x) = Z := ⟨_, rfl⟩
      have HL := Lib.hid hZ
      clear hok hZ
      go_wp2_with fail
      refine (implBlockCycle_any x _).mono ?_
      rintro e w2 ⟨rfl, hb2⟩
      rw [HO.out, HL.out]
      have Hb2 := Lib.hid (below_seq Hb1.out hb2)
      clear hb2
      go_wp2_with fail
      refine (specBlockCycle_any x _).mono ?_
      rintro e w3 ⟨rfl, rfl⟩
      rw [HO.out, HL.out]
      go_wp2_with fail
      go_ret
      exact ⟨rfl, Hb2.out⟩
end Go.Proofs.Ytlneedjhdnjnpaa
