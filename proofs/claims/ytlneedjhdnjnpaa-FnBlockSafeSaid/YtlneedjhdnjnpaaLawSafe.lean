/-
  The walk of the law FnBlockSafe: it returns true for every list of bytes and leaves old memory as it was.
-/
import Derived.Test.YtlneedjhdnjnpaaLawDraw2
namespace Go.Proofs.Ytlneedjhdnjnpaa
open Go.RowKit
set_option linter.unusedVariables false

/-- What the law has seen last, by the state. -/
def waitV (s : Nat) (v : Value) : Prop :=
  match s with
  | 3 => v = .string ⟨#[101]⟩
  | 4 => v = .string ⟨#[108]⟩
  | 2 => v = .string ⟨#[]⟩ ∨ v = .string ⟨#[108, 102, 97]⟩
  | _ => v = .string ⟨#[]⟩ ∨ v = .string ⟨#[108, 102]⟩ ∨ v = .string ⟨#[108, 102, 97]⟩
theorem Bk.run_at {l : List UInt8} {T k t : Nat} {c : UInt8} (h : Bk.runS 0 l = some T) (hc : l[k]? = some c) (ht : Bk.runS 0 (l.take k) = some t) : ∃ u, Bk.step t c.toNat = some u ∧ Bk.runS 0 (l.take (k + 1)) = some u := by
  cases e : Bk.step t c.toNat with
  | none => rw [Bk.runS_stop hc ht e] at h; cases h
  | some u => exact ⟨u, rfl, Bk.runS_next hc ht e⟩
set_option maxRecDepth 100000 in
set_option maxHeartbeats 8000000 in
theorem FnBlockSafe_walk (w : World) (A : Option Addr) (n c : Nat) (bs : List UInt8) (hx : RdB w A n bs) (hl : n ≤ c) (hc : c ≤ maxLen) :
    Calls Try.prog 5 #[.slice A n c] w fun e w' => e = .returned (.bool true) ∧ Below w.heap.size w w' := by
  have HX := Lib.hid hx
  have hc' := Lib.hid hc
  clear hx
  unfold maxLen at hc
  by_cases hbig : (1048576 : Int) < n
  · go_enter Try.func5, Try.ntmps5
    go_wp2_with fail
    go_ret
    exact ⟨rfl, Below.refl _ _⟩
  · have hs : (n : Int) ≤ 1048576 := by omega
    clear hbig
    go_enter Try.func5, Try.ntmps5
    go_wp2_with fail
    refine (DrawBlockLegal_any _ _ _ bs _ HX.out hl hc'.out).mono ?_
    rintro e w1 ⟨S, rfl, hS, hb1⟩
    have Hb1 := Lib.hid hb1
    have HSz : Hid (S.size ≤ maxLen) := by unfold Hid maxLen; omega
    clear hb1
    cases hlg : Bk.legal S.toList with
    | false =>
      have HLg := Lib.hid hlg
      clear hlg
      go_wp2_with fail
      refine (implBlockLegal_any S _ HSz.out).mono ?_
      rintro e w2 ⟨rfl, hb2⟩
      rw [HLg.out]
      have Hb2 := Lib.hid (below_seq Hb1.out hb2)
      clear hb2
      go_wp2_with fail
      refine (specBlockLegal_any S _ HSz.out).mono ?_
      rintro e w3 ⟨rfl, hb3⟩
      rw [HLg.out]
      have Hb3 := Lib.hid (below_seq Hb2.out hb3)
      clear hb3
      go_wp2_with fail
      go_ret
      exact ⟨rfl, Hb3.out⟩
    | true =>
      have HLg := Lib.hid hlg
      obtain ⟨_, T, hT, hrun, _⟩ := Bk.legal_run hlg
      have HRun := Lib.hid hrun
      have HLaw := Lib.hid (Bk.safe_law hlg)
      clear hlg hrun hT
      go_wp2_with fail
      refine (implBlockLegal_any S _ HSz.out).mono ?_
      rintro e w2 ⟨rfl, hb2⟩
      rw [HLg.out]
      have Hb2 := Lib.hid (below_seq Hb1.out hb2)
      clear hb2
      go_wp2_with fail
      refine (specBlockLegal_any S _ HSz.out).mono ?_
      rintro e w3 ⟨rfl, hb3⟩
      rw [HLg.out]
      have Hb3 := Lib.hid (below_seq Hb2.out hb3)
      clear hb3
      go_wp2_with fail
      go_loop [6, 7] (fun v j => ∃ k t : Nat, k ≤ S.size ∧ j = .int .i64 k ∧ Hid (Bk.runS 0 (S.toList.take k) = some t) ∧ Hid (waitV t v)) (fun _ j => S.size - (intOf j).toNat)
      case atStart => exact ⟨0, 0, by omega, rfl, rfl, .inl rfl⟩
      case round =>
        obtain ⟨k, t, hk, rfl, HT, HW⟩ := hrel
        by_cases hlt : k < S.size
        · obtain ⟨u, hst, hT2⟩ := Bk.run_at HRun.out (str_at' S k hlt) HT.out
          have HT2 := Lib.hid hT2
          have hw := HW.out
          clear hT2 HT HW
          rcases Bk.step_bytes hst with ⟨rfl, hcc, rfl⟩ | ⟨rfl, hcc, rfl⟩ | ⟨rfl, hcc, rfl⟩ | ⟨rfl, hcc, rfl⟩ | ⟨rfl, hcc, rfl⟩ | ⟨rfl, hcc, rfl⟩ | ⟨rfl, hcc, rfl⟩
          · have hb : (((S[k]'hlt).toNat : Nat) : Int) = 111 := by rw [hcc]; rfl
            clear hcc hst
            rcases hw with rfl | rfl | rfl
            all_goals
              go_wp2_with fail
              go_round
              case rel => exact ⟨k + 1, 1, by omega, by go_num, HT2, by simp [Hid, waitV]⟩
              case measure => simp [intOf]; omega
          · have hb : (((S[k]'hlt).toNat : Nat) : Int) = 114 := by rw [hcc]; rfl
            clear hcc hst
            rcases hw with rfl | rfl | rfl
            all_goals
              go_wp2_with fail
              go_round
              case rel => exact ⟨k + 1, 0, by omega, by go_num, HT2, by simp [Hid, waitV]⟩
              case measure => simp [intOf]; omega
          · have hb : (((S[k]'hlt).toNat : Nat) : Int) = 97 := by rw [hcc]; rfl
            clear hcc hst
            rcases hw with rfl | rfl | rfl
            all_goals
              go_wp2_with fail
              go_round
              case rel => exact ⟨k + 1, 2, by omega, by go_num, HT2, by simp [Hid, waitV]⟩
              case measure => simp [intOf]; omega
          · have hb : (((S[k]'hlt).toNat : Nat) : Int) = 99 := by rw [hcc]; rfl
            clear hcc hst
            rcases hw with rfl | rfl
            all_goals
              go_wp2_with fail
              go_round
              case rel => exact ⟨k + 1, 0, by omega, by go_num, HT2, by simp [Hid, waitV]⟩
              case measure => simp [intOf]; omega
          · have hb : (((S[k]'hlt).toNat : Nat) : Int) = 101 := by rw [hcc]; rfl
            clear hcc hst
            rcases hw with rfl | rfl
            all_goals
              go_wp2_with fail
              go_round
              case rel => exact ⟨k + 1, 3, by omega, by go_num, HT2, by simp [Hid, waitV]⟩
              case measure => simp [intOf]; omega
          · have hb : (((S[k]'hlt).toNat : Nat) : Int) = 108 := by rw [hcc]; rfl
            clear hcc hst
            have hw' : _ = Value.string ⟨#[101]⟩ := hw
            subst hw'
            go_wp2_with fail
            go_round
            case rel => exact ⟨k + 1, 4, by omega, by go_num, HT2, by simp [Hid, waitV]⟩
            case measure => simp [intOf]; omega
          · have hb : (((S[k]'hlt).toNat : Nat) : Int) = 102 := by rw [hcc]; rfl
            clear hcc hst
            have hw' : _ = Value.string ⟨#[108]⟩ := hw
            subst hw'
            go_wp2_with fail
            go_round
            case rel => exact ⟨k + 1, 0, by omega, by go_num, HT2, by simp [Hid, waitV]⟩
            case measure => simp [intOf]; omega
        · obtain ⟨la, hla⟩ : ∃ x, S.toList.count 97 = x := ⟨_, rfl⟩
          obtain ⟨lo, hlo⟩ : ∃ x, S.toList.count 111 = x := ⟨_, rfl⟩
          obtain ⟨b, hb⟩ : ∃ x, S.toList.count 108 = x := ⟨_, rfl⟩
          have hao : la ≤ lo := by have := HLaw.out.2; rw [hla, hlo] at this; exact this
          have HLA := Lib.hid hla
          have HLO := Lib.hid hlo
          have HB := Lib.hid hb
          have HD : Hid (S.toList.count 101 = b ∨ S.toList.count 101 = b + 1) := by have := HLaw.out.1; rw [hb] at this; exact this
          have hbz : b ≤ S.size := by rw [← hb, ← str_len']; exact List.count_le_length
          have hbo : lo ≤ S.size := by rw [← hlo, ← str_len']; exact List.count_le_length
          clear hla hlo hb
          go_wp2_with fail
          refine (countOf_any S 101 _ (by omega)).mono ?_
          rintro e w8 ⟨rfl, rfl⟩
          rcases HD.out with hd | hd
          · rw [hd]
            have h0 : (b : Int) - b = 0 := by omega
            clear hd
            go_wp2_with fail
            refine (countOf_any S 108 _ (by omega)).mono ?_
            rintro e w9 ⟨rfl, rfl⟩
            rw [HB.out]
            go_wp2_with fail
            refine (countOf_any S 97 _ (by omega)).mono ?_
            rintro e w10 ⟨rfl, rfl⟩
            rw [HLA.out]
            go_wp2_with fail
            refine (countOf_any S 111 _ (by omega)).mono ?_
            rintro e w11 ⟨rfl, rfl⟩
            rw [HLO.out]
            go_wp2_with fail
            go_ret
            exact ⟨rfl, Hb3.out⟩
          · rw [hd]
            have h0 : (b : Int) + 1 - b = 1 := by omega
            clear hd
            go_wp2_with fail
            refine (countOf_any S 108 _ (by omega)).mono ?_
            rintro e w9 ⟨rfl, rfl⟩
            rw [HB.out]
            go_wp2_with fail
            refine (countOf_any S 97 _ (by omega)).mono ?_
            rintro e w10 ⟨rfl, rfl⟩
            rw [HLA.out]
            go_wp2_with fail
            refine (countOf_any S 111 _ (by omega)).mono ?_
            rintro e w11 ⟨rfl, rfl⟩
            rw [HLO.out]
            go_wp2_with fail
            go_ret
            exact ⟨rfl, Hb3.out⟩
end Go.Proofs.Ytlneedjhdnjnpaa
