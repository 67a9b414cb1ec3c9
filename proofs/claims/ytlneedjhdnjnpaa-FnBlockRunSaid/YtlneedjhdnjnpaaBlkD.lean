/-
  Contracts: BlockTrains and BlockCycle of the program and of the reference; the walks of the laws FnExactBlockTrains and FnExactBlockCycle.
  Conditions: none.
-/
import Derived.Test.YtlneedjhdnjnpaaBlkB
import Derived.Test.YtlneedjhdnjnpaaShelf
namespace Go.Proofs.Ytlneedjhdnjnpaa
open Go.RowKit
set_option linter.unusedVariables false
attribute [local go_sem ↓] Go.wp_at_zero Go.wp_at_succ run_eql_block run_neq_block

namespace Bk
/-- What BlockTrains returns. -/
def trains (l : List UInt8) : Int := if legal l = true then (l.count 108 : Nat) else -1
theorem trains_yes {l : List UInt8} (h : legal l = true) : trains l = (l.count 108 : Nat) := by unfold trains; rw [if_pos h]
theorem trains_no {l : List UInt8} (h : legal l = false) : trains l = -1 := by unfold trains; rw [if_neg (by simp [h])]
theorem count_snoc {l : List UInt8} {k : Nat} {c d : UInt8} (h : l[k]? = some c) : (l.take (k + 1)).count d = (l.take k).count d + if c = d then 1 else 0 := by
  rw [take_snoc h, List.count_append]
  by_cases e : c = d <;> simp [e]
theorem count_le (l : List UInt8) (k : Nat) (d : UInt8) : (l.take k).count d ≤ k := by
  have h1 := List.count_le_length (a := d) (l := l.take k)
  rw [List.length_take] at h1
  omega
/-- The events of a cycle. -/
def cyc : List UInt8 := [111, 97, 101, 108, 102]
/-- What BlockCycle returns. -/
def cycOk (n : Int) : Bool := decide (0 ≤ n ∧ n ≤ 6)
def cycL (n : Int) : List UInt8 := if cycOk n = true then Lib.repeatL cyc n.toNat else []
theorem rep_len (k : Nat) : (Lib.repeatL cyc k).length = 5 * k := by rw [Lib.repeatL_length]; simp [cyc]; omega
end Bk
theorem ret_strb {a b : ByteArray} {c d : Bool} (h : a = b) (h2 : c = d) : Ending.returned (.tuple #[.string a, .bool c]) = .returned (.tuple #[.string b, .bool d]) := by rw [h, h2]
set_option maxHeartbeats 1000000 in
theorem implBlockTrains_any (s : ByteArray) (w : World) (hsz : s.size ≤ maxLen) :
    Calls Try.prog 18 #[.string s] w fun e w' => e = .returned (.int .i64 (Bk.trains s.toList)) ∧ Below w.heap.size w w' := by
  have HSZ := Lib.hid hsz
  clear hsz
  cases hl : Bk.legal s.toList with
  | false =>
    have HL := Lib.hid hl
    have HT := Lib.hid (Bk.trains_no hl)
    clear hl
    go_enter Try.func18, Try.ntmps18
    go_wp2_with fail
    refine (implBlockLegal_any s _ HSZ.out).mono ?_
    rintro e w1 ⟨rfl, hb1⟩
    have Hb1 := Lib.hid hb1
    clear hb1
    rw [HL.out]
    go_wp2_with fail
    go_ret
    exact ⟨ret_int HT.out.symm, Hb1.out⟩
  | true =>
    have HL := Lib.hid hl
    have HT := Lib.hid (Bk.trains_yes hl)
    clear hl
    go_enter Try.func18, Try.ntmps18
    go_wp2_with fail
    refine (implBlockLegal_any s _ HSZ.out).mono ?_
    rintro e w1 ⟨rfl, hb1⟩
    have Hb1 := Lib.hid hb1
    clear hb1
    rw [HL.out]
    go_wp2_with fail
    refine (Try.strings_Count_one s 108 _).mono ?_
    rintro e w2 ⟨rfl, hw⟩
    subst hw
    go_wp2_with fail
    go_ret
    exact ⟨ret_int (by rw [HT.out, ByteArray.toList_eq]; rfl), Hb1.out⟩
set_option maxHeartbeats 1000000 in
theorem specBlockTrains_any (s : ByteArray) (w : World) (hsz : s.size ≤ maxLen) :
    Calls Try.prog 21 #[.string s] w fun e w' => e = .returned (.int .i64 (Bk.trains s.toList)) ∧ Below w.heap.size w w' := by
  have HSZ := Lib.hid hsz
  unfold maxLen at hsz
  cases hl : Bk.legal s.toList with
  | false =>
    have HL := Lib.hid hl
    have HT := Lib.hid (Bk.trains_no hl)
    clear hl
    go_enter Try.func21, Try.ntmps21
    go_wp2_with fail
    refine (specBlockLegal_any s _ HSZ.out).mono ?_
    rintro e w1 ⟨rfl, hb1⟩
    have Hb1 := Lib.hid hb1
    clear hb1
    rw [HL.out]
    go_wp2_with fail
    go_ret
    exact ⟨ret_int HT.out.symm, Hb1.out⟩
  | true =>
    have HL := Lib.hid hl
    have HT := Lib.hid (Bk.trains_yes hl)
    clear hl
    go_enter Try.func21, Try.ntmps21
    go_wp2_with fail
    refine (specBlockLegal_any s _ HSZ.out).mono ?_
    rintro e w1 ⟨rfl, hb1⟩
    have Hb1 := Lib.hid hb1
    clear hb1
    rw [HL.out]
    go_wp2_with fail
    go_loop [3, 4] (fun v j => ∃ k c : Nat, k ≤ s.size ∧ c ≤ k ∧ j = .int .i64 k ∧ v = .int .i64 c ∧ Hid ((s.toList.take k).count 108 = c)) (fun _ j => s.size - (intOf j).toNat)
    case atStart => exact ⟨0, 0, by omega, by omega, rfl, rfl, by simp [Hid]⟩
    case round =>
      obtain ⟨k, c, hk, hck, rfl, rfl, HC⟩ := hrel
      by_cases hlt : k < s.size
      · have HA := Lib.hid (str_at' s k hlt)
        by_cases h8 : (s[k]'hlt) = 108
        · have hb8 : (((s[k]'hlt).toNat : Int) == 108) = true := by rw [h8]; rfl
          have HN : Hid ((s.toList.take (k + 1)).count 108 = c + 1) := by unfold Hid; rw [Bk.count_snoc HA.out, HC.out, if_pos h8]
          clear h8
          go_wp2_with fail
          go_round
          case rel => exact ⟨k + 1, c + 1, by omega, by omega, by go_num, by go_num, HN⟩
          case measure => simp [intOf]; omega
        · have hb8 : (((s[k]'hlt).toNat : Int) == 108) = false := by
            rw [beq_eq_false_iff_ne]
            intro e
            apply h8
            apply UInt8.toNat_inj.1
            show _ = 108
            omega
          have HN : Hid ((s.toList.take (k + 1)).count 108 = c) := by unfold Hid; rw [Bk.count_snoc HA.out, HC.out, if_neg h8]; rfl
          clear h8
          go_wp2_with fail
          go_round
          case rel => exact ⟨k + 1, c, by omega, by omega, by go_num, rfl, HN⟩
          case measure => simp [intOf]; omega
      · have HE : Hid (Bk.trains s.toList = (c : Int)) := by
          unfold Hid
          have h1 := HC.out
          rw [List.take_of_length_le (by rw [str_len']; omega)] at h1
          rw [HT.out, h1]
        go_wp2_with fail
        go_ret
        exact ⟨ret_int HE.out.symm, Hb1.out⟩
set_option maxHeartbeats 1000000 in
theorem implBlockCycle_any (n : Int) (w : World) :
    Calls Try.prog 15 #[.int .i64 n] w fun e w' => e = .returned (.tuple #[.string (mkS (Bk.cycL n)), .bool (Bk.cycOk n)]) ∧ Below w.heap.size w w' := by
  by_cases h : 0 ≤ n ∧ n ≤ 6
  · have HO : Hid (Bk.cycOk n = true) := decide_eq_true h
    obtain ⟨h0, h6⟩ := h
    obtain ⟨m, rfl⟩ := Int.eq_ofNat_of_zero_le h0
    have hm : m ≤ 6 := by omega
    have HL : Hid (mkS (Bk.cycL (m : Int)) = ⟨(Lib.repeatL Bk.cyc m).toArray⟩) := by unfold Hid Bk.cycL; rw [if_pos HO.out]; rfl
    go_enter Try.func15, Try.ntmps15
    go_wp2_with fail
    refine (Try.strings_Repeat _ m _ (by omega) (by show 5 * m ≤ _; omega)).mono ?_
    rintro e w1 ⟨rfl, hb1⟩
    have Hb1 := Lib.hid hb1
    clear hb1
    go_wp2_with fail
    go_ret2
    exact ⟨ret_strb HL.out.symm HO.out.symm, Hb1.out⟩
  · have HO : Hid (Bk.cycOk n = false) := decide_eq_false h
    have HL : Hid (mkS (Bk.cycL n) = ⟨#[]⟩) := by unfold Hid Bk.cycL; rw [if_neg (by rw [HO.out]; simp)]; rfl
    have hor : n < 0 ∨ 6 < n := by omega
    clear h
    rcases hor with h | h
    · go_enter Try.func15, Try.ntmps15
      go_wp2_with fail
      go_ret2
      exact ⟨ret_strb HL.out.symm HO.out.symm, Below.refl _ _⟩
    · have h' : ¬ n < 0 := by omega
      go_enter Try.func15, Try.ntmps15
      go_wp2_with fail
      go_ret2
      exact ⟨ret_strb HL.out.symm HO.out.symm, Below.refl _ _⟩
set_option maxHeartbeats 2000000 in
theorem l6Many_cyc (N : Nat) (w : World) (hN : N ≤ 6) :
    Calls Try.prog 56 #[.string (mkS Bk.cyc), .int .i64 N] w fun e w' => e = .returned (.string (mkS (Lib.repeatL Bk.cyc N))) ∧ w = w' := by
  obtain ⟨S0, hS0⟩ : ∃ S0, S0 = mkS Bk.cyc := ⟨_, rfl⟩
  rw [← hS0]
  have HS0 := Lib.hid hS0
  clear hS0
  go_enter Try.func56, Try.ntmps56
  go_wp2_with fail
  go_loop [0, 1, 5] (fun sv nv ov => ∃ (m i j : Nat) (S O : ByteArray), nv = .int .i64 m ∧ sv = .string S ∧ ov = .string O ∧ m ≤ 6 ∧ i ≤ 6 ∧ Hid (i + j * m = N) ∧ j ≤ 12 ∧ (0 < m → j * m ≤ 6) ∧ S.size = 5 * j ∧ O.size = 5 * i ∧ Hid (S = mkS (Lib.repeatL Bk.cyc j)) ∧ Hid (O = mkS (Lib.repeatL Bk.cyc i))) (fun _ nv _ => (intOf nv).toNat)
  case atStart => exact ⟨N, 0, 1, S0, ⟨#[]⟩, rfl, rfl, rfl, hN, by omega, by simp [Hid], by omega, fun _ => by omega, by rw [HS0.out]; rfl, rfl, by rw [HS0.out]; rfl, rfl⟩
  case round =>
    obtain ⟨m, i, j, S, O, rfl, rfl, rfl, hm, hi, HE, hj, hjm, hsS, hsO, HSj, HOi⟩ := hrel
    have HS1 := Lib.hid hsS
    have HO1 := Lib.hid hsO
    have hS2 : S.size ≤ 60 := by omega
    have hO2 : O.size ≤ 30 := by omega
    clear hsS hsO
    by_cases h0 : 0 < m
    · have hjm' := hjm h0
      clear hjm
      have HJM := Lib.hid hjm'
      clear hjm'
      obtain ⟨h, hh⟩ : ∃ h, h = m / 2 := ⟨_, rfl⟩
      have hj3 : j ≤ 6 := by
        have : j * 1 ≤ j * m := Nat.mul_le_mul_left _ h0
        have := HJM.out; omega
      have HD : Hid (S ++ S = mkS (Lib.repeatL Bk.cyc (j + j))) := by
        unfold Hid
        apply mkS_eq
        rw [append_toList, HSj.out, mkS_toList, Lib.repeatL_add]
      have HDz : Hid ((S ++ S).size = 5 * (j + j)) := by unfold Hid; rw [HD.out, mkS_size, Bk.rep_len]
      have HU : Hid (O ++ S = mkS (Lib.repeatL Bk.cyc (i + j))) := by
        unfold Hid
        apply mkS_eq
        rw [append_toList, HOi.out, HSj.out, mkS_toList, mkS_toList, Lib.repeatL_add]
      have HUz : Hid ((O ++ S).size = 5 * (i + j)) := by unfold Hid; rw [HU.out, mkS_size, Bk.rep_len]
      by_cases hodd : m % 2 = 1
      · have hm2 : m = 2 * h + 1 := by omega
        clear hh hodd
        subst hm2
        have HX : Hid (i + j + (j + j) * h = N ∧ i + j ≤ 6 ∧ (0 < h → (j + j) * h ≤ 6)) := by
          have e : j * (2 * h + 1) = (j + j) * h + j := by rw [Nat.mul_add, ← Nat.mul_assoc, Nat.mul_comm j 2, Nat.two_mul]; omega
          have h1 := HE.out
          have h2 := HJM.out
          rw [e] at h1 h2
          exact ⟨by omega, by omega, fun _ => by omega⟩
        go_wp2_with fail
        go_round
        case rel => exact ⟨h, i + j, j + j, S ++ S, O ++ S, by go_num, rfl, rfl, by omega, HX.out.2.1, HX.out.1, by omega, HX.out.2.2, HDz.out, HUz.out, HD, HU⟩
        case measure => simp [intOf]; omega
      · have hm2 : m = 2 * h := by omega
        clear hh hodd
        subst hm2
        have HX : Hid (i + (j + j) * h = N ∧ (j + j) * h ≤ 6 ∧ j + j ≤ 6) := by
          have e : j * (2 * h) = (j + j) * h := by rw [← Nat.mul_assoc, Nat.mul_comm j 2, Nat.two_mul]
          have h1 := HE.out
          have h2 := HJM.out
          rw [e] at h1 h2
          have h3 : (j + j) * 1 ≤ (j + j) * h := Nat.mul_le_mul_left _ (by omega)
          exact ⟨by omega, by omega, by omega⟩
        go_wp2_with fail
        go_round
        case rel => exact ⟨h, i, j + j, S ++ S, O, by go_num, rfl, rfl, by omega, hi, HX.out.1, by have := HX.out.2.2; omega, fun _ => HX.out.2.1, HDz.out, HO1.out, HD, HOi⟩
        case measure => simp [intOf]; omega
    · have hm0 : m ≤ 0 := by omega
      have HN : Hid (O = mkS (Lib.repeatL Bk.cyc N)) := by unfold Hid; rw [HOi.out]; have := HE.out; rw [show m = 0 by omega, Nat.mul_zero, Nat.add_zero] at this; rw [this]
      clear h0 hjm
      go_wp2_with fail
      go_ret
      exact ⟨by rw [HN.out]; rfl, rfl⟩
set_option maxHeartbeats 1000000 in
theorem specBlockCycle_any (n : Int) (w : World) :
    Calls Try.prog 16 #[.int .i64 n] w fun e w' => e = .returned (.tuple #[.string (mkS (Bk.cycL n)), .bool (Bk.cycOk n)]) ∧ w = w' := by
  by_cases h : 0 ≤ n ∧ n ≤ 6
  · have HO : Hid (Bk.cycOk n = true) := decide_eq_true h
    obtain ⟨h0, h6⟩ := h
    obtain ⟨m, rfl⟩ := Int.eq_ofNat_of_zero_le h0
    have hm : m ≤ 6 := by omega
    have HL : Hid (mkS (Bk.cycL (m : Int)) = mkS (Lib.repeatL Bk.cyc m)) := by unfold Hid Bk.cycL; rw [if_pos HO.out]; rfl
    go_enter Try.func16, Try.ntmps16
    go_wp2_with fail
    refine (l6In_yes _ _ _ _ (by omega) (by omega)).mono ?_
    rintro e w' ⟨rfl, rfl⟩
    go_wp2_with fail
    refine (l6Many_cyc m _ hm).mono ?_
    rintro e w1 ⟨rfl, rfl⟩
    go_wp2_with fail
    go_ret2
    exact ⟨ret_strb HL.out.symm HO.out.symm, rfl⟩
  · have HO : Hid (Bk.cycOk n = false) := decide_eq_false h
    have HL : Hid (mkS (Bk.cycL n) = ⟨#[]⟩) := by unfold Hid Bk.cycL; rw [if_neg (by rw [HO.out]; simp)]; rfl
    have hor : Hid (n < 0 ∨ 6 < n) := by unfold Hid; omega
    clear h
    go_enter Try.func16, Try.ntmps16
    go_wp2_with fail
    refine (l6In_no _ _ _ _ hor.out).mono ?_
    rintro e w' ⟨rfl, rfl⟩
    go_wp2_with fail
    go_ret2
    exact ⟨ret_strb HL.out.symm HO.out.symm, rfl⟩
end Go.Proofs.Ytlneedjhdnjnpaa
