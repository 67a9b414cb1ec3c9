/-
  Contracts of the functions of bell codes that only compute: l6In, l1Many, manyCodes, CodeMany (the reference's and the program's).
  Conditions: numbers of groups from 0 to 5, beats from -1000 to 1000 where a count is asked for; none for CodeMany.
-/
import Derived.Test.YtablnijmoohjhaaProg
import Derived.Test.YtablnijmoohjhaaKit
import Derived.Test.YtablnijmoohjhaaCodesPlain
namespace Go.Proofs.Ytablnijmoohjhaa
open Go.RowKit
set_option linter.unusedVariables false

theorem l6In_yes (n lo hi : Int) (w : World) (h1 : lo ≤ n) (h2 : n ≤ hi) :
    Calls Try.prog 40 #[.int .i64 n, .int .i64 lo, .int .i64 hi] w fun e w' => e = .returned (.bool true) ∧ w = w' := by
  go_enter Try.func40, Try.ntmps40
  go_wp2
  go_ret
  exact ⟨rfl, rfl⟩
theorem l6In_no (n lo hi : Int) (w : World) (h : n < lo ∨ hi < n) :
    Calls Try.prog 40 #[.int .i64 n, .int .i64 lo, .int .i64 hi] w fun e w' => e = .returned (.bool false) ∧ w = w' := by
  by_cases h1 : n < lo
  · clear h
    go_enter Try.func40, Try.ntmps40
    go_wp2
    go_ret
    exact ⟨rfl, rfl⟩
  · have h2 : hi < n := by omega
    have h3 : lo ≤ n := by omega
    have h4 : decide (n ≤ hi) = false := by simp; omega
    clear h h1
    go_enter Try.func40, Try.ntmps40
    go_wp2
    go_ret
    exact ⟨rfl, rfl⟩

set_option maxHeartbeats 1000000 in
theorem l1Many_any (g : Nat) : ∀ (b G : Int) (w : World), G = g → g ≤ 5 → -1000 ≤ b → b ≤ 1000 →
    Calls Try.prog 41 #[.int .i64 b, .int .i64 G] w fun e w' => e = .returned (.int .i64 (Cd.M g b)) ∧ w = w' := by
  induction g with
  | zero =>
    intro b G w hG _ h1 h2
    obtain rfl : G = 0 := by omega
    clear hG
    by_cases hb : b = 0
    · subst hb
      go_enter Try.func41, Try.ntmps41
      go_wp2_with fail
      go_ret
      exact ⟨rfl, rfl⟩
    · have hb0 : (b == 0) = false := by simpa using hb
      have HM := Lib.hid (Cd.M_none b hb)
      clear hb
      by_cases hp : 1 ≤ b
      · go_enter Try.func41, Try.ntmps41
        go_wp2_with fail
        refine wp_loop_rounds 1 ?_
        rw [rounds_succ]
        go_wp2_with fail
        go_ret
        exact ⟨ret_int HM.out.symm, rfl⟩
      · have hp' : b < 1 := by omega
        clear hp
        go_enter Try.func41, Try.ntmps41
        go_wp2_with fail
        refine wp_loop_rounds 1 ?_
        rw [rounds_succ]
        go_wp2_with fail
        go_ret
        exact ⟨ret_int HM.out.symm, rfl⟩
  | succ g ih =>
    intro b G w hG hg h1 h2
    obtain rfl : G = (g : Int) + 1 := by omega
    clear hG
    have IH := Lib.hid ih
    clear ih
    by_cases hb : b = 0
    · subst hb
      go_enter Try.func41, Try.ntmps41
      go_wp2_with fail
      go_ret
      exact ⟨ret_int (Cd.M_zero _).symm, rfl⟩
    · have hb0 : (b == 0) = false := by simpa using hb
      by_cases hp : 1 ≤ b
      · have HM := Lib.hid (Cd.M_step g b (by omega))
        clear hb
        go_enter Try.func41, Try.ntmps41
        go_wp2_with fail
        go_loop [5, 6] (fun n k => ∃ j : Nat, 1 ≤ j ∧ j ≤ 7 ∧ k = .int .i64 j ∧ n = .int .i64 (Cd.S g b (j - 1)) ∧ (j : Int) ≤ b + 1) (fun _ k => 8 - (intOf k).toNat)
        case atStart => exact ⟨1, by omega, by omega, rfl, rfl, by omega⟩
        case round =>
          obtain ⟨j, hj1, hj7, rfl, rfl, hjb⟩ := hrel
          have hs1 := Cd.S_nonneg g b (j - 1)
          have hs2 := Cd.S_le g b (j - 1) (by omega)
          have hm1 := Cd.M_nonneg g (b - j)
          have hm2 := Cd.M_le g (b - j) (by omega)
          by_cases hlt : j ≤ 6 ∧ (j : Int) ≤ b
          · obtain ⟨hl1, hl2⟩ := hlt
            go_wp2_with fail
            refine (IH.out _ _ _ (by omega) (by omega) (by omega) (by omega)).mono ?_
            rintro e w' ⟨rfl, rfl⟩
            go_wp2_with fail
            go_round
            case rel => exact ⟨j + 1, by omega, by omega, by go_num, by rw [Nat.add_sub_cancel, Cd.S_step g b j (by omega)], by omega⟩
            case measure => simp [intOf]; omega
          · have HE : Hid (Cd.S g b (j - 1) = Cd.S g b 6) := by
              unfold Hid
              by_cases e : j = 7
              · subst e; rfl
              · have e1 : j - 1 = b.toNat := by omega
                rw [e1]
                exact (Cd.S_past g b (by omega) 6 (by omega)).symm
            by_cases e : j = 7
            · subst e
              clear hlt HE
              go_wp2_with fail
              go_ret
              exact ⟨ret_int HM.out.symm, rfl⟩
            · have e1 : j ≤ 6 := by omega
              have e2 : b < (j : Int) := by omega
              clear hlt
              go_wp2_with fail
              go_ret
              exact ⟨ret_int (by rw [HM.out, ← HE.out]), rfl⟩
      · have hp' : b < 1 := by omega
        have HM := Lib.hid (Cd.M_neg (g + 1) b (by omega))
        clear hp hb
        go_enter Try.func41, Try.ntmps41
        go_wp2_with fail
        refine wp_loop_rounds 1 ?_
        rw [rounds_succ]
        go_wp2_with fail
        go_ret
        exact ⟨ret_int HM.out.symm, rfl⟩

set_option maxHeartbeats 1000000 in
theorem manyCodes_any (g : Nat) : ∀ (b G : Int) (w : World), G = g → g ≤ 5 → -1000 ≤ b → b ≤ 1000 →
    Calls Try.prog 42 #[.int .i64 b, .int .i64 G] w fun e w' => e = .returned (.int .i64 (Cd.M g b)) ∧ w = w' := by
  induction g with
  | zero =>
    intro b G w hG _ h1 h2
    obtain rfl : G = 0 := by omega
    clear hG
    by_cases hb : b = 0
    · subst hb
      go_enter Try.func42, Try.ntmps42
      go_wp2_with fail
      go_ret
      exact ⟨rfl, rfl⟩
    · have hb0 : (b == 0) = false := by simpa using hb
      have HM := Lib.hid (Cd.M_none b hb)
      clear hb
      by_cases hp : b < 0
      · go_enter Try.func42, Try.ntmps42
        go_wp2_with fail
        go_ret
        exact ⟨ret_int HM.out.symm, rfl⟩
      · have hp' : 0 ≤ b := by omega
        clear hp
        go_enter Try.func42, Try.ntmps42
        go_wp2_with fail
        go_ret
        exact ⟨ret_int HM.out.symm, rfl⟩
  | succ g ih =>
    intro b G w hG hg h1 h2
    obtain rfl : G = (g : Int) + 1 := by omega
    clear hG
    have IH := Lib.hid ih
    clear ih
    by_cases hb : b = 0
    · subst hb
      go_enter Try.func42, Try.ntmps42
      go_wp2_with fail
      go_ret
      exact ⟨ret_int (Cd.M_zero _).symm, rfl⟩
    · have hb0 : (b == 0) = false := by simpa using hb
      by_cases hp : b < 0
      · have HM := Lib.hid (Cd.M_neg (g + 1) b hp)
        clear hb
        go_enter Try.func42, Try.ntmps42
        go_wp2_with fail
        go_ret
        exact ⟨ret_int HM.out.symm, rfl⟩
      · have hp' : 1 ≤ b := by omega
        have HM := Lib.hid (Cd.M_step g b (by omega))
        have hg0 : (((g : Int) + 1) == 0) = false := by simp; omega
        clear hb hp
        go_enter Try.func42, Try.ntmps42
        go_wp2_with fail
        go_loop [5, 6] (fun n k => ∃ j : Nat, 1 ≤ j ∧ j ≤ 7 ∧ k = .int .i64 j ∧ n = .int .i64 (Cd.S g b (j - 1))) (fun _ k => 8 - (intOf k).toNat)
        case atStart => exact ⟨1, by omega, by omega, rfl, rfl⟩
        case round =>
          obtain ⟨j, hj1, hj7, rfl, rfl⟩ := hrel
          have hs1 := Cd.S_nonneg g b (j - 1)
          have hs2 := Cd.S_le g b (j - 1) (by omega)
          have hm1 := Cd.M_nonneg g (b - j)
          have hm2 := Cd.M_le g (b - j) (by omega)
          by_cases hlt : j ≤ 6
          · go_wp2_with fail
            refine (IH.out _ _ _ (by omega) (by omega) (by omega) (by omega)).mono ?_
            rintro e w' ⟨rfl, rfl⟩
            go_wp2_with fail
            go_round
            case rel => exact ⟨j + 1, by omega, by omega, by go_num, by rw [Nat.add_sub_cancel, Cd.S_step g b j (by omega)]⟩
            case measure => simp [intOf]; omega
          · obtain rfl : j = 7 := by omega
            clear hlt
            go_wp2_with fail
            go_ret
            exact ⟨ret_int (by rw [HM.out]), rfl⟩

namespace Cd
/-- What CodeMany returns. -/
def many (n : Int) : Int := if n < 0 ∨ 30 < n then -1 else if n = 0 then 0 else M 5 n
end Cd

set_option maxHeartbeats 1000000 in
theorem specCodeMany_any (n : Int) (w : World) :
    Calls Try.prog 15 #[.int .i64 n] w fun e w' => e = .returned (.int .i64 (Cd.many n)) ∧ w = w' := by
  by_cases h : n < 0 ∨ 30 < n
  · have HE : Hid (Cd.many n = -1) := by unfold Hid Cd.many; rw [if_pos h]
    have H := Lib.hid h
    clear h
    go_enter Try.func15, Try.ntmps15
    go_wp2_with fail
    refine (l6In_no _ _ _ _ H.out).mono ?_
    rintro e w' ⟨rfl, rfl⟩
    go_wp2_with fail
    go_ret
    exact ⟨ret_int HE.out.symm, rfl⟩
  · have h1 : 0 ≤ n := by omega
    have h2 : n ≤ 30 := by omega
    by_cases h0 : n = 0
    · subst h0
      clear h
      go_enter Try.func15, Try.ntmps15
      go_wp2_with fail
      refine (l6In_yes _ _ _ _ (by omega) (by omega)).mono ?_
      rintro e w' ⟨rfl, rfl⟩
      go_wp2_with fail
      go_ret
      exact ⟨rfl, rfl⟩
    · have HE : Hid (Cd.many n = Cd.M 5 n) := by unfold Hid Cd.many; rw [if_neg h, if_neg h0]
      have hb : (n == 0) = false := by simpa using h0
      clear h h0
      go_enter Try.func15, Try.ntmps15
      go_wp2_with fail
      refine (l6In_yes _ _ _ _ (by omega) (by omega)).mono ?_
      rintro e w' ⟨rfl, rfl⟩
      go_wp2_with fail
      refine (l1Many_any 5 _ _ _ rfl (by omega) (by omega) (by omega)).mono ?_
      rintro e w' ⟨rfl, rfl⟩
      go_wp2_with fail
      go_ret
      exact ⟨ret_int HE.out.symm, rfl⟩
set_option maxHeartbeats 1000000 in
theorem implCodeMany_any (n : Int) (w : World) :
    Calls Try.prog 16 #[.int .i64 n] w fun e w' => e = .returned (.int .i64 (Cd.many n)) ∧ w = w' := by
  by_cases h : n < 0 ∨ 30 < n
  · have HE : Hid (Cd.many n = -1) := by unfold Hid Cd.many; rw [if_pos h]
    by_cases hn : n < 0
    · clear h
      go_enter Try.func16, Try.ntmps16
      go_wp2_with fail
      go_ret
      exact ⟨ret_int HE.out.symm, rfl⟩
    · have h1 : 0 ≤ n := by omega
      have h2 : 30 < n := by omega
      clear h hn
      go_enter Try.func16, Try.ntmps16
      go_wp2_with fail
      go_ret
      exact ⟨ret_int HE.out.symm, rfl⟩
  · have h1 : 0 ≤ n := by omega
    have h2 : n ≤ 30 := by omega
    by_cases h0 : n = 0
    · subst h0
      clear h
      go_enter Try.func16, Try.ntmps16
      go_wp2_with fail
      go_ret
      exact ⟨rfl, rfl⟩
    · have HE : Hid (Cd.many n = Cd.M 5 n) := by unfold Hid Cd.many; rw [if_neg h, if_neg h0]
      have hb : (n == 0) = false := by simpa using h0
      clear h h0
      go_enter Try.func16, Try.ntmps16
      go_wp2_with fail
      refine (manyCodes_any 5 _ _ _ rfl (by omega) (by omega) (by omega)).mono ?_
      rintro e w' ⟨rfl, rfl⟩
      go_wp2_with fail
      go_ret
      exact ⟨ret_int HE.out.symm, rfl⟩
end Go.Proofs.Ytablnijmoohjhaa
