/-
  Plain laws of codes and ranks: what is found for a rank is a code with that rank; the first and the last code.
-/
import Derived.Test.YtablnijmoohjhaaLawDraw1
namespace Go.Proofs.Ytablnijmoohjhaa
namespace Cd
theorem grp_all {zs : List Int} (h : grp zs) : zs.all inB = true := by
  rw [List.all_eq_true]
  intro z hz
  exact (inB_iff z).2 (h z hz)
/-- What is found for a rank is a code with that rank. -/
theorem nthL_good {n r : Int} (h : nthOk n r = true) : validB (nthL n r) = true ∧ rank (nthL n r) = r ∧ beats (nthL n r) = n ∧ nthL n r = nth 5 n r ∧ 1 ≤ n ∧ n ≤ 30 ∧ many n = M 5 n ∧ 0 ≤ r ∧ r < M 5 n := by
  have hr : 0 ≤ r ∧ r < many n := by simpa [nthOk] using h
  obtain ⟨h1, h2, h3⟩ := many_pos hr.1 hr.2
  have e : nthL n r = nth 5 n r := by unfold nthL; rw [if_pos h]
  obtain ⟨g1, g2, g3, g4⟩ := rk_nth 5 n r (by omega) hr.1 (by omega)
  have hlen : 1 ≤ (nth 5 n r).length := by
    rcases hc : nth 5 n r with _ | ⟨c, cs⟩
    · rw [hc] at g3; simp [sum] at g3; omega
    · simp
  have hv : validB (nthL n r) = true := by rw [e]; exact validB_of (grp_all g1) hlen g2
  refine ⟨hv, ?_, ?_, e, h1, h2, h3, hr.1, by omega⟩
  · rw [rank_yes hv, e, g4]
  · unfold beats; rw [if_pos hv, e, g3]
theorem nth_head {n r : Int} (h : 1 ≤ n) : ∃ t, nth 5 n r = (cnt 4 n r : Int) :: t := ⟨_, nth_succ 4 n r (by omega)⟩
/-- Of n beats there are codes exactly for n from 1 to 30; the last and the first one. -/
theorem ends {n : Int} (h1 : 1 ≤ n) (h30 : n ≤ 30) : 1 ≤ many n ∧ many n ≤ 7776 ∧ nthOk n (many n) = false ∧ nthOk n (many n - 1) = true ∧ nthOk n 0 = true ∧
    ∃ (x y : Int) (xs ys : List Int), nthL n (many n - 1) = x :: xs ∧ nthL n 0 = y :: ys ∧ y ≤ x ∧ x = min n 6 ∧ xs.length ≤ 4 ∧ ys.length ≤ 4 := by
  have hm : many n = M 5 n := by unfold many; rw [if_neg (by omega), if_neg (by omega)]
  have hp := M_pos 5 n (by omega) (by omega)
  have hle := M_le 5 n (by omega)
  have k1 : nthOk n (many n - 1) = true := by simp [nthOk]; omega
  have k0 : nthOk n 0 = true := by simp [nthOk]; omega
  refine ⟨by omega, by omega, by simp [nthOk], k1, k0, ?_⟩
  obtain ⟨xs, hx⟩ := nth_head (n := n) (r := many n - 1) h1
  obtain ⟨ys, hy⟩ := nth_head (n := n) (r := 0) h1
  have ex := (nthL_good k1).2.2.2.1
  have ey := (nthL_good k0).2.2.2.1
  have lx := (valid_grp (nthL_good k1).1).2.2
  have ly := (valid_grp (nthL_good k0).1).2.2
  rw [ex, hx] at lx
  rw [ey, hy] at ly
  simp at lx ly
  have hh := last_head 4 n h1 (by omega)
  have hs : M 5 n = S 4 n 6 := M_step 4 n (by omega)
  have hmono := cnt_mono 4 n 0 (many n - 1) (by omega) (by omega) (by omega)
  refine ⟨_, _, xs, ys, ex.trans hx, ey.trans hy, by omega, ?_, by omega, by omega⟩
  rw [hm, hh]
  omega
theorem nthL_len' (n r : Int) : (nthL n r).length ≤ 5 := by
  by_cases h : nthOk n r = true
  · exact (valid_grp (nthL_good h).1).2.2
  · unfold nthL; rw [if_neg h]; simp
end Cd
end Go.Proofs.Ytablnijmoohjhaa
