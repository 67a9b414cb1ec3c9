/-
  Contracts of the program's LineNew and of the laws' helpers eqLine, markLine, heldLine.
  Conditions: none.
-/
import Derived.Test.YtmplanlppjebnaaLn3
namespace Go.Proofs.Ytmplanlppjebnaa
open Go.RowKit
set_option linter.unusedVariables false
set_option linter.unusedSimpArgs false
attribute [local go_sem ↓] Go.wp_at_zero Go.wp_at_succ

theorem sectionsValid_any (N : Int) (w : World) :
    Calls Try.prog 37 #[.int .i64 N] w fun e w' => e = .returned (.bool (decide (1 ≤ N ∧ N ≤ 5))) ∧ w = w' := by
  by_cases h1 : 1 ≤ N
  · by_cases h2 : N ≤ 5
    · have H : Hid (decide (1 ≤ N ∧ N ≤ 5) = true) := decide_eq_true ⟨h1, h2⟩
      go_enter Try.func37, Try.ntmps37
      go_wp2_with fail
      go_ret
      exact ⟨ret_bool H.out.symm, rfl⟩
    · have H : Hid (decide (1 ≤ N ∧ N ≤ 5) = false) := decide_eq_false (by omega)
      have h3 : decide (N ≤ 5) = false := decide_eq_false h2
      clear h2
      go_enter Try.func37, Try.ntmps37
      go_wp2_with fail
      go_ret
      exact ⟨ret_bool H.out.symm, rfl⟩
  · have H : Hid (decide (1 ≤ N ∧ N ≤ 5) = false) := decide_eq_false (by omega)
    have h3 : decide (1 ≤ N) = false := decide_eq_false h1
    have h4 : N < 1 := by omega
    clear h1
    go_enter Try.func37, Try.ntmps37
    go_wp2_with fail
    go_ret
    exact ⟨ret_bool H.out.symm, rfl⟩
set_option maxHeartbeats 4000000 in
theorem implLineNew_yes (n m : Nat) (w : World) (h1 : 1 ≤ n) (h5 : n ≤ 5) (hm : m ≤ 5) :
    Calls Try.prog 18 #[.int .i64 n, .int .i64 m] w (LinP n m w) := by
  obtain ⟨Z, hZ, hmk⟩ := make_blocks h5
  obtain ⟨Y, hY, hmk2⟩ := make_ints hm
  have HZ := Lib.hid hZ
  have HY := Lib.hid hY
  have HV : Hid (decide (1 ≤ (n : Int) ∧ (n : Int) ≤ 5) = true) := decide_eq_true ⟨by omega, by omega⟩
  have d1 : decide ((m : Int) < 0) = false := decide_eq_false (by omega)
  have d2 : decide ((5 : Int) < m) = false := decide_eq_false (by omega)
  clear hZ hY
  go_enter Try.func18, Try.ntmps18
  go_wp2_with fail
  refine (sectionsValid_any _ _).mono ?_
  rintro e w1 ⟨rfl, rfl⟩
  rw [HV.out]
  go_wp2_with fail
  go_region
  all_goals go_wp2_with fail
  all_goals first
    | (refine bodyPost_ret (v := .tuple #[.agg #[.slice (some ⟨w.heap.size + 1, 0, none⟩) n n, .slice (some ⟨w.heap.size + 1 + 1, 0, none⟩) m m], .bool true]) (by simp [results, Try.results18, go_sem]) rfl ?_
       exact lin_one h5 hm HZ.out HY.out)
    | (refine bodyPost_ret (v := .tuple #[.agg #[.slice (some ⟨w.heap.size + 1 + 1, 0, none⟩) n n, .slice (some ⟨w.heap.size + 1, 0, none⟩) m m], .bool true]) (by simp [results, Try.results18, go_sem]) rfl ?_
       exact lin_two h5 hm HZ.out HY.out)
theorem implLineNew_no (n m : Int) (w : World) (h : ¬ (1 ≤ n ∧ n ≤ 5 ∧ 0 ≤ m ∧ m ≤ 5)) :
    Calls Try.prog 18 #[.int .i64 n, .int .i64 m] w fun e w' => e = .returned (.tuple #[.agg #[.slice none 0 0, .slice none 0 0], .bool false]) ∧ Below w.heap.size w w' := by
  by_cases hn : 1 ≤ n ∧ n ≤ 5
  · have HV : Hid (decide (1 ≤ n ∧ n ≤ 5) = true) := decide_eq_true hn
    by_cases h0 : m < 0
    · have d1 : decide (m < 0) = true := decide_eq_true h0
      clear h hn
      go_enter Try.func18, Try.ntmps18
      go_wp2_with fail
      refine (sectionsValid_any _ _).mono ?_
      rintro e w1 ⟨rfl, rfl⟩
      rw [HV.out]
      go_wp2_with fail
      refine bodyPost_ret (v := .tuple #[.agg #[.slice none 0 0, .slice none 0 0], .bool false]) (by simp [results, Try.results18, go_sem]) rfl ?_
      refine ⟨rfl, ?_⟩
      go_grown
    · have d1 : decide (m < 0) = false := decide_eq_false h0
      have d2 : decide (5 < m) = true := decide_eq_true (by omega)
      have d3 : 5 < m := by omega
      clear h hn
      go_enter Try.func18, Try.ntmps18
      go_wp2_with fail
      refine (sectionsValid_any _ _).mono ?_
      rintro e w1 ⟨rfl, rfl⟩
      rw [HV.out]
      go_wp2_with fail
      refine bodyPost_ret (v := .tuple #[.agg #[.slice none 0 0, .slice none 0 0], .bool false]) (by simp [results, Try.results18, go_sem]) rfl ?_
      refine ⟨rfl, ?_⟩
      go_grown
  · have HV : Hid (decide (1 ≤ n ∧ n ≤ 5) = false) := decide_eq_false hn
    clear h hn
    go_enter Try.func18, Try.ntmps18
    go_wp2_with fail
    refine (sectionsValid_any _ _).mono ?_
    rintro e w1 ⟨rfl, rfl⟩
    rw [HV.out]
    go_wp2_with fail
    refine bodyPost_ret (v := .tuple #[.agg #[.slice none 0 0, .slice none 0 0], .bool false]) (by simp [results, Try.results18, go_sem]) rfl ?_
    refine ⟨rfl, ?_⟩
    go_grown
end Go.Proofs.Ytmplanlppjebnaa
