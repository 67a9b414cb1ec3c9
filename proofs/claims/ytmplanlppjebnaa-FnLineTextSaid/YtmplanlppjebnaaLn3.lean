/-
  Contracts of LineNew: the reference's, the program's.
  Conditions: none.
-/
import Derived.Test.YtmplanlppjebnaaLn2
import Derived.Test.YtmplanlppjebnaaCodes
namespace Go.Proofs.Ytmplanlppjebnaa
open Go.RowKit
set_option linter.unusedVariables false
set_option linter.unusedSimpArgs false
attribute [local go_sem ↓] Go.wp_at_zero Go.wp_at_succ

/-- A new row of blocks as it is made. -/
theorem made_blocks (n : Nat) : (madeCells #[.int .i64 0, .bool false, .bool false] (n * 3)).toList = flat3 (List.replicate n (0, false, false)) := by
  apply List.ext_getElem?
  intro j
  have hsz : (madeCells #[Value.int .i64 0, Value.bool false, Value.bool false] (n * 3)).size = n * 3 := size_madeCells _ _
  by_cases hj : j < n * 3
  · have hr : (List.replicate n ((0, false, false) : B3))[j / 3]? = some (0, false, false) := by rw [List.getElem?_replicate, if_pos (by omega)]
    obtain ⟨h0, h1, h2⟩ := flat3_at hr
    rw [Array.getElem?_toList, Array.getElem?_eq_getElem (by rw [hsz]; exact hj)]
    rcases (show j % 3 = 0 ∨ j % 3 = 1 ∨ j % 3 = 2 by omega) with e | e | e
    · rw [show j / 3 * 3 = j by omega] at h0
      rw [h0]
      simp [madeCells, e]
    · rw [show j / 3 * 3 + 1 = j by omega] at h1
      rw [h1]
      simp [madeCells, e]
    · rw [show j / 3 * 3 + 2 = j by omega] at h2
      rw [h2]
      simp [madeCells, e]
  · rw [List.getElem?_eq_none (by rw [Array.length_toList, hsz]; omega), List.getElem?_eq_none (by rw [flat3_len, List.length_replicate]; omega)]
/-- What LineNew returns. -/
def LinP (n m : Nat) (w : World) (e : Ending) (w' : World) : Prop :=
  ∃ g h, e = .returned (.tuple #[.agg #[.slice (some ⟨g, 0, none⟩) n n, .slice (some ⟨h, 0, none⟩) m m], .bool true]) ∧ w'.ownsRow w.heap.size 82 3 (.slice (some ⟨g, 0, none⟩) n n) n (flat3 (List.replicate n (0, false, false))) ∧
    w'.ownsRow w.heap.size 3 1 (.slice (some ⟨h, 0, none⟩) m m) m ((List.replicate m 0).map (Value.int .i64)) ∧ g ≠ h ∧ Below w.heap.size w w'
theorem make_blocks {n : Nat} (hn : n ≤ 5) : ∃ Z : Array Value, Z.toList = flat3 (List.replicate n (0, false, false)) ∧ ∀ W : World, (Instr.makeSlice 35 (.int .i64 (n : Int)) (.int .i64 (n : Int))).run Try.prog W = .ok (.slice (some ⟨W.heap.size, 0, none⟩) n n) (W.alloc (.cells Z 82)) := by
  obtain ⟨i0, hi, hz0, hz1, hz2⟩ := info_parts Try.infoBlock
  refine ⟨madeCells #[.int .i64 0, .bool false, .bool false] (n * 3), made_blocks n, fun W => ?_⟩
  have := run_makeSlice (P := Try.prog) W 35 82 i0 (.agg #[.int .i64 0, .bool false, .bool false]) Try.underlying35 hi hz0 .i64 .i64 (n : Int) (n : Int) (by omega) (by omega) (by rw [hz1]; simp; omega) (by rw [hz2]; omega) (by omega)
  rw [hz1] at this
  simpa [Value.cells] using this
theorem make_ints {n : Nat} (hn : n ≤ 5) : ∃ Z : Array Value, Z.toList = (List.replicate n (0 : Int)).map (Value.int .i64) ∧ ∀ W : World, (Instr.makeSlice 36 (.int .i64 (n : Int)) (.int .i64 (n : Int))).run Try.prog W = .ok (.slice (some ⟨W.heap.size, 0, none⟩) n n) (W.alloc (.cells Z 3)) := by
  obtain ⟨i0, hi, hz0, hz1, hz2⟩ := info_parts Try.infoInt
  refine ⟨madeCells #[.int .i64 0] n, by rw [toList_madeCells_one]; simp, fun W => ?_⟩
  have := run_makeSlice (P := Try.prog) W 36 3 i0 (.int .i64 0) Try.underlying36 hi hz0 .i64 .i64 (n : Int) (n : Int) (by omega) (by omega) (by rw [hz1]; simp; omega) (by rw [hz2]; omega) (by omega)
  rw [hz1] at this
  simpa [Value.cells] using this
theorem lin_rows {w : World} {R : Obj} {Z Y : Array Value} {n m : Nat} (hn : n ≤ 5) (hm : m ≤ 5) (hZ : Z.toList = flat3 (List.replicate n (0, false, false))) (hY : Y.toList = (List.replicate m (0 : Int)).map (Value.int .i64)) :
    (∀ W : World, w.heap.size ≤ W.heap.size → (W.alloc (.cells Z 82)).ownsRow w.heap.size 82 3 (.slice (some ⟨W.heap.size, 0, none⟩) n n) n (flat3 (List.replicate n (0, false, false)))) ∧
    (∀ W : World, w.heap.size ≤ W.heap.size → (W.alloc (.cells Y 3)).ownsRow w.heap.size 3 1 (.slice (some ⟨W.heap.size, 0, none⟩) m m) m ((List.replicate m 0).map (Value.int .i64))) := by
  have z1 : Z.size = n * 3 := by rw [← Array.length_toList, hZ, flat3_len, List.length_replicate]
  have y1 : Y.size = m * 1 := by rw [← Array.length_toList, hY]; simp
  refine ⟨fun W hW => ?_, fun W hW => ?_⟩
  · have := World.ownsRow_lit (e := 82) (size := 3) (base := w.heap.size) W Z n hW (by unfold maxLen; omega) z1
    rwa [hZ] at this
  · have := World.ownsRow_lit (e := 3) (size := 1) (base := w.heap.size) W Y m hW (by unfold maxLen; omega) y1
    rwa [hY] at this
theorem lin_one {w : World} {R : Obj} {Z Y : Array Value} {n m : Nat} (hn : n ≤ 5) (hm : m ≤ 5) (hZ : Z.toList = flat3 (List.replicate n (0, false, false))) (hY : Y.toList = (List.replicate m (0 : Int)).map (Value.int .i64)) :
    LinP n m w (.returned (.tuple #[.agg #[.slice (some ⟨w.heap.size + 1, 0, none⟩) n n, .slice (some ⟨w.heap.size + 1 + 1, 0, none⟩) m m], .bool true])) (((w.alloc R).alloc (.cells Z 82)).alloc (.cells Y 3)).drew := by
  obtain ⟨k1, k2⟩ := lin_rows (R := R) (w := w) hn hm hZ hY
  have a1 := k1 (w.alloc R) (by simp)
  have a2 := k2 ((w.alloc R).alloc (.cells Z 82)) (by simp; omega)
  simp only [World.size_alloc] at a1 a2
  exact ⟨_, _, rfl, a1.alloc _, a2, by omega, ((((Below.refl _ _).alloc (Nat.le_refl _) _).alloc (by simp) _).alloc (by simp; omega) _).drew⟩
theorem lin_two {w : World} {R : Obj} {Z Y : Array Value} {n m : Nat} (hn : n ≤ 5) (hm : m ≤ 5) (hZ : Z.toList = flat3 (List.replicate n (0, false, false))) (hY : Y.toList = (List.replicate m (0 : Int)).map (Value.int .i64)) :
    LinP n m w (.returned (.tuple #[.agg #[.slice (some ⟨w.heap.size + 1 + 1, 0, none⟩) n n, .slice (some ⟨w.heap.size + 1, 0, none⟩) m m], .bool true])) (((w.alloc R).alloc (.cells Y 3)).alloc (.cells Z 82)).drew := by
  obtain ⟨k1, k2⟩ := lin_rows (R := R) (w := w) hn hm hZ hY
  have a2 := k2 (w.alloc R) (by simp)
  have a1 := k1 ((w.alloc R).alloc (.cells Y 3)) (by simp; omega)
  simp only [World.size_alloc] at a1 a2
  exact ⟨_, _, rfl, a1, a2.alloc _, by omega, ((((Below.refl _ _).alloc (Nat.le_refl _) _).alloc (by simp) _).alloc (by simp; omega) _).drew⟩
set_option maxHeartbeats 4000000 in
theorem specLineNew_yes (n m : Nat) (w : World) (h1 : 1 ≤ n) (h5 : n ≤ 5) (hm : m ≤ 5) :
    Calls Try.prog 17 #[.int .i64 n, .int .i64 m] w (LinP n m w) := by
  obtain ⟨Z, hZ, hmk⟩ := make_blocks h5
  obtain ⟨Y, hY, hmk2⟩ := make_ints hm
  have HZ := Lib.hid hZ
  have HY := Lib.hid hY
  clear hZ hY
  go_enter Try.func17, Try.ntmps17
  go_wp2_with fail
  refine (l6In_yes _ _ _ _ (by omega) (by omega)).mono ?_
  rintro e w1 ⟨rfl, rfl⟩
  go_wp2_with fail
  refine (l6In_yes _ _ _ _ (by omega) (by omega)).mono ?_
  rintro e w1 ⟨rfl, rfl⟩
  go_wp2_with fail
  go_region
  all_goals go_wp2_with fail
  all_goals first
    | (refine bodyPost_ret (v := .tuple #[.agg #[.slice (some ⟨w.heap.size + 1, 0, none⟩) n n, .slice (some ⟨w.heap.size + 1 + 1, 0, none⟩) m m], .bool true]) (by simp [results, Try.results17, go_sem]) rfl ?_
       exact lin_one h5 hm HZ.out HY.out)
    | (refine bodyPost_ret (v := .tuple #[.agg #[.slice (some ⟨w.heap.size + 1 + 1, 0, none⟩) n n, .slice (some ⟨w.heap.size + 1, 0, none⟩) m m], .bool true]) (by simp [results, Try.results17, go_sem]) rfl ?_
       exact lin_two h5 hm HZ.out HY.out)
theorem specLineNew_no (n m : Int) (w : World) (h : ¬ (1 ≤ n ∧ n ≤ 5 ∧ 0 ≤ m ∧ m ≤ 5)) :
    Calls Try.prog 17 #[.int .i64 n, .int .i64 m] w fun e w' => e = .returned (.tuple #[.agg #[.slice none 0 0, .slice none 0 0], .bool false]) ∧ Below w.heap.size w w' := by
  by_cases hn : 1 ≤ n ∧ n ≤ 5
  · have HM : Hid (m < 0 ∨ 5 < m) := by unfold Hid; omega
    obtain ⟨h1, h2⟩ := hn
    clear h
    go_enter Try.func17, Try.ntmps17
    go_wp2_with fail
    refine (l6In_yes _ _ _ _ (by omega) (by omega)).mono ?_
    rintro e w1 ⟨rfl, rfl⟩
    go_wp2_with fail
    refine (l6In_no _ _ _ _ HM.out).mono ?_
    rintro e w1 ⟨rfl, rfl⟩
    go_wp2_with fail
    refine bodyPost_ret (v := .tuple #[.agg #[.slice none 0 0, .slice none 0 0], .bool false]) (by simp [results, Try.results17, go_sem]) rfl ?_
    refine ⟨rfl, ?_⟩
    go_grown
  · have HN : Hid (n < 1 ∨ 5 < n) := by unfold Hid; omega
    clear h hn
    go_enter Try.func17, Try.ntmps17
    go_wp2_with fail
    refine (l6In_no _ _ _ _ HN.out).mono ?_
    rintro e w1 ⟨rfl, rfl⟩
    go_wp2_with fail
    refine bodyPost_ret (v := .tuple #[.agg #[.slice none 0 0, .slice none 0 0], .bool false]) (by simp [results, Try.results17, go_sem]) rfl ?_
    refine ⟨rfl, ?_⟩
    go_grown
end Go.Proofs.Ytmplanlppjebnaa
