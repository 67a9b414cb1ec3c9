/-
  Plain laws of the path of runs; contracts of the checks of runs (the program's and the reference's).
  Conditions: the list reads as a list of integers.
-/
import Derived.Test.YtpfgjkgjeejghaaPath3
namespace Go.Proofs.Ytpfgjkgjeejghaa.Pt
/-- Whether a list are runs. -/
def runs1 (rs : List Int) : Bool := rs.all fun r => decide (1 ≤ r ∧ r ≤ 100)
def runsOk (rs : List Int) : Bool := decide (1 ≤ rs.length ∧ rs.length ≤ 5) && runs1 rs
/-- The time behind the first k runs. -/
def tm (s : Int) (rs : List Int) : Nat → Int
  | 0 => s
  | k + 1 => tm s rs k + rs.getD k 0
def ins (s : Int) (rs : List Int) (k : Nat) : List Int := (List.range k).map fun i => tm s rs i
def outs (s : Int) (rs : List Int) (k : Nat) : List Int := (List.range k).map fun i => tm s rs (i + 1)
theorem ins_len (s : Int) (rs : List Int) (k : Nat) : (ins s rs k).length = k := by simp [ins]
theorem outs_len (s : Int) (rs : List Int) (k : Nat) : (outs s rs k).length = k := by simp [outs]
theorem ins_succ (s : Int) (rs : List Int) (k : Nat) : ins s rs (k + 1) = ins s rs k ++ [tm s rs k] := by simp [ins, List.range_succ]
theorem outs_succ (s : Int) (rs : List Int) (k : Nat) : outs s rs (k + 1) = outs s rs k ++ [tm s rs (k + 1)] := by simp [outs, List.range_succ]
/-- Whether a path of runs is given. -/
def runOk (s : Int) (rs : List Int) : Bool := runsOk rs && (decide (0 ≤ s ∧ s ≤ 2000) && valid (rs.length : Int) (ins s rs rs.length) (outs s rs rs.length))
def runI (s : Int) (rs : List Int) : List Int := if runOk s rs = true then ins s rs rs.length else []
def runO (s : Int) (rs : List Int) : List Int := if runOk s rs = true then outs s rs rs.length else []
theorem runs1_at {rs : List Int} (h : runs1 rs = true) {k : Nat} {r : Int} (hk : rs[k]? = some r) : 1 ≤ r ∧ r ≤ 100 := by
  unfold runs1 at h
  rw [List.all_eq_true] at h
  exact of_decide_eq_true (h r (List.mem_of_getElem? hk))
theorem tm_bound {s : Int} {rs : List Int} (h : runs1 rs = true) (h0 : 0 ≤ s) (h1 : s ≤ 2000) : ∀ k, k ≤ rs.length → 0 ≤ tm s rs k ∧ tm s rs k ≤ 2000 + 100 * (k : Int)
  | 0, _ => by simp [tm]; omega
  | k + 1, hk => by
    have ih := tm_bound h h0 h1 k (by omega)
    have := runs1_at h (List.getElem?_eq_getElem (show k < rs.length by omega))
    have e : rs.getD k 0 = rs[k]'(by omega) := by rw [List.getD_eq_getElem?_getD, List.getElem?_eq_getElem (show k < rs.length by omega)]; rfl
    simp only [tm]
    rw [e]
    omega
end Go.Proofs.Ytpfgjkgjeejghaa.Pt
namespace Go.Proofs.Ytpfgjkgjeejghaa
open Go.RowKit
set_option linter.unusedVariables false
attribute [local go_sem ↓] Go.wp_at_zero Go.wp_at_succ

set_option maxHeartbeats 2000000 in
theorem runsValid_any (A : Option Addr) (n c : Nat) (rs : List Int) (w : World) (hx : RdI w A n rs) :
    Calls Try.prog 55 #[.int .i64 n, .slice A n c] w fun e w' => e = .returned (.bool (Pt.runsOk rs)) ∧ w = w' := by
  have HX := Lib.hid hx
  have Hl := Lib.hid hx.len
  clear hx
  by_cases hN : 1 ≤ (n : Int) ∧ (n : Int) ≤ 5
  · have HN : Hid (decide (1 ≤ (n : Int) ∧ (n : Int) ≤ 5) = true) := decide_eq_true hN
    have HV : Hid (Pt.runsOk rs = Pt.runs1 rs) := by
      unfold Hid Pt.runsOk; rw [decide_eq_true (by rw [Hl.out]; omega : 1 ≤ rs.length ∧ rs.length ≤ 5)]; rfl
    go_enter Try.func55, Try.ntmps55
    go_wp2_with fail
    refine (sectionsValid_any _ _).mono ?_
    rintro e w1 ⟨rfl, rfl⟩
    rw [HN.out]
    go_wp2_with fail
    go_loop [18] (fun i => ∃ k : Nat, k ≤ n ∧ i = .int .i64 k ∧ Hid ((rs.take k).all (fun r => decide (1 ≤ r ∧ r ≤ 100)) = true)) (fun i => n - (intOf i).toNat)
    case atStart => exact ⟨0, Nat.zero_le _, rfl, by simp [Hid]⟩
    case round =>
      obtain ⟨k, hk, rfl, Hk⟩ := hrel
      by_cases hlt : k < n
      · obtain ⟨b1, o1, x, rfl, hxk, hcx⟩ := HX.out.at_ hlt
        have HXK := Lib.hid hxk
        clear hxk
        by_cases t1 : x < 1
        · have HB : Hid (Pt.runs1 rs = false) := by unfold Hid; exact all_false HXK.out (decide_eq_false (by omega))
          go_wp2_with fail
          go_ret
          exact ⟨ret_bool (by rw [HV.out, HB.out]), rfl⟩
        · by_cases t2 : 100 < x
          · have HB : Hid (Pt.runs1 rs = false) := by unfold Hid; exact all_false HXK.out (decide_eq_false (by omega))
            go_wp2_with fail
            go_ret
            exact ⟨ret_bool (by rw [HV.out, HB.out]), rfl⟩
          · have HB : Hid ((rs.take (k + 1)).all (fun r => decide (1 ≤ r ∧ r ≤ 100)) = true) := all_take HXK.out Hk.out (decide_eq_true (by omega))
            go_wp2_with fail
            go_round
            case rel => exact ⟨k + 1, by omega, by go_num, HB.out⟩
            case measure => simp [intOf]; omega
      · have hkn : k = n := by omega
        go_wp2_with fail
        go_ret
        refine ⟨ret_bool ?_, rfl⟩
        have := Hk.out
        rw [hkn, List.take_of_length_le (by rw [Hl.out]; exact Nat.le_refl _)] at this
        rw [HV.out]
        exact this.symm
  · have HN : Hid (decide (1 ≤ (n : Int) ∧ (n : Int) ≤ 5) = false) := decide_eq_false hN
    have HV : Hid (Pt.runsOk rs = false) := by
      unfold Hid Pt.runsOk; rw [decide_eq_false (by rw [Hl.out]; omega : ¬ (1 ≤ rs.length ∧ rs.length ≤ 5))]; rfl
    go_enter Try.func55, Try.ntmps55
    go_wp2_with fail
    refine (sectionsValid_any _ _).mono ?_
    rintro e w1 ⟨rfl, rfl⟩
    rw [HN.out]
    go_wp2_with fail
    go_ret
    exact ⟨ret_bool HV.out.symm, rfl⟩
set_option maxHeartbeats 2000000 in
theorem l2Runs_any (A : Option Addr) (n c : Nat) (rs : List Int) (w : World) (hx : RdI w A n rs) (hn : n ≤ 1099511627776) :
    Calls Try.prog 54 #[.int .i64 n, .slice A n c] w fun e w' => e = .returned (.bool (Pt.runsOk rs)) ∧ w = w' := by
  have HX := Lib.hid hx
  have Hl := Lib.hid hx.len
  clear hx
  go_enter Try.func54, Try.ntmps54
  go_wp2_with fail
  go_loop [5] (fun i => ∃ k : Nat, k ≤ n ∧ i = .int .i64 k ∧ Hid ((rs.take k).all (fun r => decide (1 ≤ r ∧ r ≤ 100)) = true)) (fun i => n - (intOf i).toNat)
  case atStart => exact ⟨0, Nat.zero_le _, rfl, by simp [Hid]⟩
  case round =>
    obtain ⟨k, hk, rfl, Hk⟩ := hrel
    by_cases hlt : k < n
    · obtain ⟨b1, o1, x, rfl, hxk, hcx⟩ := HX.out.at_ hlt
      have HXK := Lib.hid hxk
      clear hxk
      by_cases t1 : 1 ≤ x ∧ x ≤ 100
      · have HB : Hid ((rs.take (k + 1)).all (fun r => decide (1 ≤ r ∧ r ≤ 100)) = true) := all_take HXK.out Hk.out (decide_eq_true t1)
        go_wp2_with fail
        refine (l6In_yes _ _ _ _ (by omega) (by omega)).mono ?_
        rintro e w1 ⟨rfl, rfl⟩
        go_wp2_with fail
        go_round
        case rel => exact ⟨k + 1, by omega, by go_num, HB.out⟩
        case measure => simp [intOf]; omega
      · have HB : Hid (Pt.runsOk rs = false) := by unfold Hid Pt.runsOk Pt.runs1; rw [all_false HXK.out (decide_eq_false t1), Bool.and_false]
        have t3 : x < 1 ∨ 100 < x := by omega
        go_wp2_with fail
        refine (l6In_no _ _ _ _ t3).mono ?_
        rintro e w1 ⟨rfl, rfl⟩
        go_wp2_with fail
        go_ret
        exact ⟨ret_bool HB.out.symm, rfl⟩
    · have hkn : k = n := by omega
      have HV : Hid (Pt.runs1 rs = true) := by
        have := Hk.out
        rw [hkn, List.take_of_length_le (by rw [Hl.out]; exact Nat.le_refl _)] at this
        exact this
      by_cases hN : 1 ≤ (n : Int) ∧ (n : Int) ≤ 5
      · have HB : Hid (Pt.runsOk rs = true) := by unfold Hid Pt.runsOk; rw [HV.out, decide_eq_true (by rw [Hl.out]; omega : 1 ≤ rs.length ∧ rs.length ≤ 5)]; rfl
        go_wp2_with fail
        refine (l6In_yes _ _ _ _ (by omega) (by omega)).mono ?_
        rintro e w1 ⟨rfl, rfl⟩
        go_wp2_with fail
        go_ret
        exact ⟨ret_bool HB.out.symm, rfl⟩
      · have HB : Hid (Pt.runsOk rs = false) := by unfold Hid Pt.runsOk; rw [decide_eq_false (by rw [Hl.out]; omega : ¬ (1 ≤ rs.length ∧ rs.length ≤ 5))]; rfl
        have t3 : (n : Int) < 1 ∨ 5 < (n : Int) := by omega
        go_wp2_with fail
        refine (l6In_no _ _ _ _ t3).mono ?_
        rintro e w1 ⟨rfl, rfl⟩
        go_wp2_with fail
        go_ret
        exact ⟨ret_bool HB.out.symm, rfl⟩
end Go.Proofs.Ytpfgjkgjeejghaa
