/-
  The walk of the law FnLineText: it returns true for every list of bytes and leaves old memory as it was.
  Conditions: none.
-/
import Derived.Test.YtmplanlppjebnaaLawLine3
namespace Go.Proofs.Ytmplanlppjebnaa
open Go.RowKit
set_option linter.unusedVariables false
set_option linter.unusedSimpArgs false
attribute [local go_sem ↓] Go.wp_at_zero Go.wp_at_succ

/-- The lengths of the texts of the first t sections. -/
def allT (xs : List Mv) : Nat → Nat
  | 0 => 0
  | t + 1 => allT xs t + (ltx (t : Int) xs).length
theorem allT_le (xs : List Mv) : ∀ t : Nat, allT xs t ≤ lsum xs * t
  | 0 => by simp [allT]
  | t + 1 => by
    have ih := allT_le xs t
    have h := ltx_len (t : Int) xs
    rw [allT, Nat.mul_add, Nat.mul_one]
    omega
theorem allT_nil : ∀ t : Nat, allT [] t = 0
  | 0 => rfl
  | t + 1 => by rw [allT, allT_nil t]; rfl
theorem allT_cons (p : Mv) (xs : List Mv) : ∀ t : Nat, allT (p :: xs) t = allT xs t + (if 0 ≤ p.1 ∧ p.1 < (t : Int) then p.2.size else 0)
  | 0 => by
    have : ¬ (0 ≤ p.1 ∧ p.1 < ((0 : Nat) : Int)) := by omega
    rw [if_neg this]; rfl
  | t + 1 => by
    have ih := allT_cons p xs t
    have e1 : ltx (t : Int) (p :: xs) = (if p.1 = (t : Int) then p.2.toList else []) ++ ltx (t : Int) xs := by simp [ltx]
    rw [allT, allT, ih, e1, List.length_append]
    by_cases h : p.1 = (t : Int)
    · have h1 : ¬ (0 ≤ p.1 ∧ p.1 < (t : Int)) := by omega
      have h2 : 0 ≤ p.1 ∧ p.1 < ((t + 1 : Nat) : Int) := by omega
      rw [if_pos h, if_neg h1, if_pos h2, str_len']
      omega
    · rw [if_neg h]
      by_cases h1 : 0 ≤ p.1 ∧ p.1 < (t : Int)
      · have h2 : 0 ≤ p.1 ∧ p.1 < ((t + 1 : Nat) : Int) := by omega
        rw [if_pos h1, if_pos h2]
        simp
        omega
      · have h2 : ¬ (0 ≤ p.1 ∧ p.1 < ((t + 1 : Nat) : Int)) := by omega
        rw [if_neg h1, if_neg h2]
        simp
theorem allT_all {t : Nat} : ∀ {xs : List Mv}, One xs → (∀ p ∈ xs, 0 ≤ p.1 ∧ p.1 < (t : Int)) → allT xs t = xs.length
  | [], _, _ => allT_nil t
  | p :: xs, h1, h2 => by
    rw [allT_cons, allT_all (fun q hq => h1 q (List.mem_cons_of_mem _ hq)) (fun q hq => h2 q (List.mem_cons_of_mem _ hq)), if_pos (h2 p (List.mem_cons_self ..)), h1 p (List.mem_cons_self ..), List.length_cons]
set_option maxRecDepth 100000 in
set_option maxHeartbeats 8000000 in
theorem FnLineText_walk (w : World) (A : Option Addr) (n c : Nat) (bs : List UInt8) (hx : RdB w A n bs) (hl : n ≤ c) (hc : c ≤ maxLen) :
    Calls Try.prog 7 #[.slice A n c] w fun e w' => e = .returned (.bool true) ∧ Below w.heap.size w w' := by
  have HX := Lib.hid hx
  clear hx
  unfold maxLen at hc
  by_cases hbig : (1048576 : Int) < n
  · go_enter Try.func7, Try.ntmps7
    go_wp2_with fail
    go_ret
    exact ⟨rfl, Below.refl _ _⟩
  · have hsm : (n : Int) ≤ 1048576 := by omega
    clear hbig
    go_enter Try.func7, Try.ntmps7
    go_wp2_with fail
    refine (DrawLineText_any _ _ _ bs _ HX.out hl (by unfold maxLen; omega)).mono ?_
    rintro e w1 ⟨go, k, cap, K, rfl, hk, ⟨xs, hone, hown⟩, hb1⟩
    have HX1 := Lib.hid (RdV.of_own hown)
    have hxl := (RdV.of_own hown).len
    have HXL := Lib.hid hxl
    have HONE := Lib.hid hone
    have HLS : Hid (lsum xs ≤ 13) := by unfold Hid; rw [hone.lsum, hxl]; exact hk
    have HLX : Hid (lsum xs ≤ 1048576) := by have := HLS.out; unfold Hid; omega
    have HB1 := Lib.hid hb1
    clear hown hone hb1 hxl
    go_wp2_with fail
    refine (implLineText_any _ _ _ xs _ _ HX1.out (by omega) HLX.out).mono ?_
    rintro e w2 ⟨rfl, hb2⟩
    have HX2 := Lib.hid (HX1.out.below hb2)
    have HB2 := Lib.hid (below_seq HB1.out hb2)
    clear hb2 HX1 HB1
    generalize hT : mkS (ltx K xs) = T
    have HT := Lib.hid hT
    clear hT
    go_wp2_with fail
    refine (specLineText_any _ _ _ xs _ _ HX2.out (by omega) HLX.out).mono ?_
    rintro e w3 ⟨rfl, hb3⟩
    have HX3 := Lib.hid (HX2.out.below hb3)
    have HB3 := Lib.hid (below_seq HB2.out hb3)
    clear hb3 HX2 HB2
    rw [HT.out]
    by_cases hT0 : T = ⟨#[]⟩
    · subst hT0
      go_wp2_with fail
      go_ret
      exact ⟨rfl, HB3.out⟩
    · have hT1 := str_neb hT0
      rw [show (⟨#[]⟩ : ByteArray).toList = [] from by rw [ByteArray.toList_eq]] at hT1
      go_wp2_with fail
      refine (implLineOrder_any go 0 k cap xs _ HX3.out (by omega)).mono ?_
      rintro e w4 ⟨g4, c4, ys, rfl, ho4, hst, hsg, hb4⟩
      have HX4 := Lib.hid (HX3.out.below hb4)
      have HY4 := Lib.hid (RdV.of_own ho4)
      have HST := Lib.hid hst
      have HLY : Hid (lsum ys ≤ 1048576) := by
        unfold Hid
        rw [(HONE.out.stab hst).lsum, hst.1, HXL.out]
        omega
      have HB4 := Lib.hid (below_seq HB3.out hb4)
      clear ho4 hst hsg hb4 HX3 HB3
      go_wp2_with fail
      go_loopw [8, 9] (fun v i wr => ∃ t S : Nat, t ≤ 6 ∧ S ≤ 13 * t ∧ i = .int .i64 t ∧ v = .int .i64 S ∧ Hid (S = allT xs t) ∧ Hid (Below w4.heap.size w4 wr)) (fun _ i _ => 6 - (intOf i).toNat)
      case atStart => exact ⟨0, 0, Nat.zero_le _, Nat.zero_le _, rfl, rfl, rfl, Below.refl _ _⟩
      case round =>
        obtain ⟨t, S, ht6, hS, rfl, rfl, HS, HB5⟩ := hrel
        by_cases hlt6 : t < 6
        · go_wp2_with fail
          refine (implLineText_any _ _ _ xs _ _ (HX4.out.below HB5.out) (by omega) HLX.out).mono ?_
          rintro e w6 ⟨rfl, hb6⟩
          have HB6 := Lib.hid (below_seq HB5.out hb6)
          clear hb6 HB5
          have hlen : (mkS (ltx (t : Int) xs)).size ≤ 13 := by rw [mkS_size]; exact Nat.le_trans (ltx_len _ _) HLS.out
          have HE : Hid (S + (mkS (ltx (t : Int) xs)).size = allT xs (t + 1)) := by unfold Hid; rw [mkS_size, HS.out]; rfl
          generalize mkS (ltx (t : Int) xs) = Q at hlen HE ⊢
          go_wp2_with fail
          go_roundw
          case rel => exact ⟨t + 1, S + Q.size, by omega, by omega, by go_num, by go_num, HE.out, HB6.out⟩
          case measure => simp [intOf]; omega
        · obtain rfl : t = 6 := by omega
          clear hlt6 ht6
          go_wp2_with fail
          go_loopw [10] (fun i wq => ∃ j : Nat, j ≤ k ∧ i = .int .i64 j ∧ Hid (∀ p ∈ xs.take j, 0 ≤ p.1 ∧ p.1 < 6) ∧ Hid (Below w4.heap.size w4 wq)) (fun i _ => k - (intOf i).toNat)
          case atStart => exact ⟨0, Nat.zero_le _, rfl, fun p hp => by simp at hp, HB5.out⟩
          case round =>
            clear HB5
            obtain ⟨j, hjk, rfl, HP, HB5⟩ := hrel
            have HBW := Lib.hid (below_seq HB4.out HB5.out)
            by_cases hlt : j < k
            · obtain ⟨b, off, p, e0, hp, c0, c1⟩ := (HX4.out.below HB5.out).at_ hlt
              simp only [Option.some.injEq, Addr.mk.injEq, and_true] at e0
              obtain ⟨rfl, rfl⟩ := e0
              rw [Nat.zero_add] at c0 c1
              have hp1 : p.2.size = 1 := HONE.out p (List.mem_of_getElem? hp)
              have hp2 : (((p.2.size : Nat) : Int) != 1) = false := by rw [hp1]; rfl
              have HPJ := Lib.hid hp
              clear hp
              by_cases hneg : p.1 < 0
              · have d1 : decide (p.1 < 0) = true := decide_eq_true hneg
                go_wp2_with fail
                go_ret
                exact ⟨rfl, HBW.out⟩
              · have d1 : decide (p.1 < 0) = false := decide_eq_false hneg
                by_cases hge : 6 ≤ p.1
                · have d2 : decide (6 ≤ p.1) = true := decide_eq_true hge
                  go_wp2_with fail
                  go_ret
                  exact ⟨rfl, HBW.out⟩
                · have d2 : decide (6 ≤ p.1) = false := decide_eq_false hge
                  have HPN : Hid (∀ q ∈ xs.take (j + 1), 0 ≤ q.1 ∧ q.1 < 6) := by
                    intro q hq
                    rw [take_snoc HPJ.out] at hq
                    rcases List.mem_append.1 hq with h | h
                    · exact HP.out q h
                    · simp at h; subst h; omega
                  go_wp2_with fail
                  go_roundw
                  case rel => exact ⟨j + 1, by omega, by go_num, HPN.out, HB5.out⟩
                  case measure => simp [intOf]; omega
            · have hSk : S = k := by
                have h1 := HP.out
                rw [List.take_of_length_le (by have := HXL.out; omega)] at h1
                rw [HS.out, allT_all (t := 6) HONE.out h1, HXL.out]
              have hSe : ((S : Int) == (k : Int)) = true := by rw [hSk]; simp
              clear HP HBW
              go_wp2_with fail
              refine (implLineText_any _ _ _ ys _ _ (HY4.out.below HB5.out) (by omega) HLY.out).mono ?_
              rintro e w6 ⟨rfl, hb6⟩
              have HB6 := Lib.hid (below_seq HB4.out (below_seq HB5.out hb6))
              clear hb6 HB5
              rw [ltx_stab HST.out, HT.out]
              go_wp2_with fail
              go_ret
              exact ⟨rfl, HB6.out⟩
end Go.Proofs.Ytmplanlppjebnaa
