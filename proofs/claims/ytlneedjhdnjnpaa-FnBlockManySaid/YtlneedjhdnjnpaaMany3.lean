/-
  Contracts: l3All, l3Index, BlockMany of the reference.
  Conditions: none.
-/
import Derived.Test.YtlneedjhdnjnpaaMany2
import Derived.Test.YtlneedjhdnjnpaaWayPlain
namespace Go.Proofs.Ytlneedjhdnjnpaa
open Go.RowKit
set_option linter.unusedVariables false
attribute [local go_sem ↓] Go.wp_at_zero Go.wp_at_succ run_eql_block run_neq_block

namespace Bk
/-- Five numbers. -/
def vec (f : Nat → Int) : List Int := [f 0, f 1, f 2, f 3, f 4]
theorem vec_ext {f g : Nat → Int} (h : ∀ j, j < 5 → f j = g j) : vec f = vec g := by
  unfold vec
  rw [h 0 (by omega), h 1 (by omega), h 2 (by omega), h 3 (by omega), h 4 (by omega)]
theorem vec_at (f : Nat → Int) {j : Nat} (h : j < 5) : (vec f)[j]? = some (f j) := by
  rcases lt5 h with rfl | rfl | rfl | rfl | rfl <;> rfl
theorem vec_set (f : Nat → Int) {j : Nat} (h : j < 5) (v : Int) : (vec f).set j v = vec (fun x => if x = j then v else f x) := by
  rcases lt5 h with rfl | rfl | rfl | rfl | rfl <;> rfl
/-- The sum over the first j letters that can be done. -/
def ns (g : Nat → Int) (s : Nat) : Nat → Int
  | 0 => 0
  | j + 1 => ns g s j + g (go s ((nl s).getD j 0))
theorem ns_full (g : Nat → Int) {s : Nat} (h : s < 5) : ns g s (nl s).length = cs g s 7 := by
  rcases lt5 h with rfl | rfl | rfl | rfl | rfl <;> simp [ns, nl, go, step, cs, ev]
theorem ns_bd {g : Nat → Int} (hg : ∀ t, 0 ≤ g t ∧ g t ≤ 1073741824) (s : Nat) : ∀ j, j ≤ 2 → 0 ≤ ns g s j ∧ ns g s j ≤ 1073741824 * j
  | 0, _ => by simp [ns]
  | j + 1, h => by
    have := ns_bd hg s j (by omega)
    have := hg (go s ((nl s).getD j 0))
    simp only [ns]
    omega
theorem ns_next (g : Nat → Int) {s j : Nat} {c : UInt8} (h : (nl s)[j]? = some c) : ns g s (j + 1) = ns g s j + g (go s c) := by
  simp only [ns]; rw [List.getD_eq_getElem?_getD, h]; rfl
/-- The state at a place of the list of all blocks. -/
def pl (s : Nat) : Nat := if s = 3 then 4 else if s = 4 then 3 else s
theorem pl_lt {s : Nat} (h : s < 5) : pl s < 5 := by unfold pl; split <;> (try split) <;> omega
theorem pl_pl {s : Nat} (h : s < 5) : pl (pl s) = s := by rcases Bk.lt5 h with rfl | rfl | rfl | rfl | rfl <;> rfl
/-- The row being filled: i places are done, the next one for j letters. -/
def row (k i j : Nat) : Nat → Int := fun x => if x < i then many (k + 1) (pl x) else if x = i then ns (many k) (pl i) j else 0
theorem row_done {k i : Nat} (h : i < 5) : vec (row k i (nl (pl i)).length) = vec (row k (i + 1) 0) := by
  apply vec_ext
  intro x hx
  unfold row
  by_cases h1 : x < i
  · rw [if_pos h1, if_pos (by omega)]
  · rw [if_neg h1]
    by_cases h2 : x = i
    · subst h2
      rw [if_pos rfl, if_pos (by omega), ns_full _ (pl_lt h)]
      rfl
    · rw [if_neg h2, if_neg (by omega)]
      split <;> rfl
theorem row_set {k i j : Nat} (h : i < 5) : (vec (row k i j)).set i (ns (many k) (pl i) (j + 1)) = vec (row k i (j + 1)) := by
  rw [vec_set _ h]
  apply vec_ext
  intro x hx
  unfold row
  by_cases h1 : x = i
  · subst h1
    rw [if_pos rfl, if_neg (by omega), if_pos rfl]
  · simp only [if_neg h1]
theorem row_zero (k : Nat) : vec (row k 0 0) = [0, 0, 0, 0, 0] := by
  show vec (row k 0 0) = vec (fun _ => 0)
  apply vec_ext
  intro x hx
  unfold row
  rw [if_neg (by omega)]
  split <;> rfl
theorem row_full (k : Nat) : vec (row k 5 0) = vec (fun x => many (k + 1) (pl x)) := by
  apply vec_ext
  intro x hx
  unfold row
  rw [if_pos hx]
theorem row_at {k i j : Nat} (h : i < 5) : (vec (row k i j))[i]? = some (ns (many k) (pl i) j) := by
  rw [vec_at _ h]
  unfold row
  rw [if_neg (by omega), if_pos rfl]
end Bk
/-- The five possible blocks, cell by cell. -/
abbrev allD : Array Value := #[.int .i64 0, .bool false, .bool false, .int .i64 0, .bool false, .bool true, .int .i64 1, .bool false, .bool false, .int .i64 2, .bool false, .bool false, .int .i64 2, .bool true, .bool false]
theorem l3All_eq (w : World) : Calls Try.prog 68 #[] w fun e w' => e = .returned (.slice (some ⟨w.heap.size, 0, none⟩) 5 5) ∧ w.alloc (.cells allD 34) = w' := by
  go_enter Try.func68, Try.ntmps68
  go_wp2_with fail
  go_ret
  exact ⟨rfl, rfl⟩
/-- The list of all blocks lies there. -/
def AllB (w : World) (g : Nat) : Prop := ∀ k u, allD.toList[k]? = some u → w.cell? ⟨g, k, none⟩ = some u
theorem AllB.made (w : World) (t : TypeId) : AllB (w.alloc (.cells allD t)) w.heap.size := by
  intro k u h
  unfold World.cell?
  rw [heap_alloc_new]
  simpa using h
theorem AllB.lt {w : World} {g : Nat} (h : AllB w g) : g < w.heap.size := block_lt_of_cell (h 0 _ rfl)
theorem AllB.same {w w' : World} {g : Nat} (h : AllB w g) (hb : w'.heap[g]? = w.heap[g]?) : AllB w' g := fun k u hu => (World.cell?_of_block (a := ⟨g, k, none⟩) hb).trans (h k u hu)
theorem AllB.at_ {w : World} {g s : Nat} (h : AllB w g) (hs : s < 5) : w.cell? ⟨g, s * 3, none⟩ = some (.int .i64 (Bk.nd (Bk.pl s))) ∧ w.cell? ⟨g, s * 3 + 1, none⟩ = some (.bool (Bk.ins (Bk.pl s))) ∧ w.cell? ⟨g, s * 3 + 2, none⟩ = some (.bool (Bk.off (Bk.pl s))) := by
  rcases Bk.lt5 hs with rfl | rfl | rfl | rfl | rfl <;> exact ⟨h _ _ rfl, h _ _ rfl, h _ _ rfl⟩
set_option maxRecDepth 100000 in
set_option maxHeartbeats 2000000 in
theorem l3Index_any (s : Nat) (w : World) (hs : s < 5) :
    Calls Try.prog 69 #[bv (Bk.nd s) (Bk.ins s) (Bk.off s)] w fun e w' => e = .returned (.int .i64 (Bk.pl s : Nat)) ∧ Below w.heap.size w w' := by
  have hp5 := Bk.pl_lt hs
  go_enter Try.func69, Try.ntmps69
  go_wp2_with fail
  refine (l3All_eq _).mono ?_
  rintro e w1 ⟨rfl, rfl⟩
  simp only [World.size_alloc]
  have HR0 : Hid (Room ((w.alloc (.cells #[.int .i64 (Bk.nd s), .bool (Bk.ins s), .bool (Bk.off s)] 34)).alloc (.cells allD 34)) w.heap.size (.int .i64 (Bk.nd s)) (.bool (Bk.ins s)) (.bool (Bk.off s))) := Room.alloc (by refine ⟨?_, ?_, ?_, ?_, ?_, ?_⟩ <;> simp [go_sem]) _
  have HA0 : Hid (AllB ((w.alloc (.cells #[.int .i64 (Bk.nd s), .bool (Bk.ins s), .bool (Bk.off s)] 34)).alloc (.cells allD 34)) (w.heap.size + 1)) := by
    have := AllB.made (w.alloc (.cells #[.int .i64 (Bk.nd s), .bool (Bk.ins s), .bool (Bk.off s)] 34)) 34
    unfold Hid
    simpa only [World.size_alloc] using this
  have Hb0 : Hid (Below w.heap.size w ((w.alloc (.cells #[.int .i64 (Bk.nd s), .bool (Bk.ins s), .bool (Bk.off s)] 34)).alloc (.cells allD 34))) := ((Below.refl _ _).alloc (Nat.le_refl _) _).alloc (by simp) _
  generalize (w.alloc (.cells #[.int .i64 (Bk.nd s), .bool (Bk.ins s), .bool (Bk.off s)] 34)).alloc (.cells allD 34) = w1 at HR0 HA0 Hb0 ⊢
  go_wp2_with fail
  go_loopw [4] (fun j wr => ∃ k : Nat, k ≤ Bk.pl s ∧ j = .int .i64 k ∧ Hid (∃ m, wr = w1.drewN m)) (fun j _ => 5 - (intOf j).toNat)
  case atStart => exact ⟨0, by omega, rfl, 0, rfl⟩
  case round =>
    obtain ⟨k, hk, rfl, Hw⟩ := hrel
    obtain ⟨m, rfl⟩ := Hw.out
    obtain ⟨c0, c1, c2⟩ := HA0.out.at_ (s := k) (by omega)
    replace c0 : (w1.drewN m).cell? ⟨w.heap.size + 1, k * 3, none⟩ = some (.int .i64 (Bk.nd (Bk.pl k))) := c0
    replace c1 : (w1.drewN m).cell? ⟨w.heap.size + 1, k * 3 + 1, none⟩ = some (.bool (Bk.ins (Bk.pl k))) := c1
    replace c2 : (w1.drewN m).cell? ⟨w.heap.size + 1, k * 3 + 2, none⟩ = some (.bool (Bk.off (Bk.pl k))) := c2
    obtain ⟨b0, b1, b2, _, _, _⟩ := HR0.out
    replace b0 : (w1.drewN m).cell? ⟨w.heap.size, 0, none⟩ = some (.int .i64 (Bk.nd s)) := b0
    replace b1 : (w1.drewN m).cell? ⟨w.heap.size, 1, none⟩ = some (.bool (Bk.ins s)) := b1
    replace b2 : (w1.drewN m).cell? ⟨w.heap.size, 2, none⟩ = some (.bool (Bk.off s)) := b2
    have hk5 : k < 5 := by omega
    have HEQ := Lib.hid (Bk.st_eq (Bk.pl_lt hk5) hs)
    have j0 : (0 : Int) ≤ k := by omega
    have j1 : (k : Int) < 5 := by omega
    by_cases he : k = Bk.pl s
    · have hq : (Bk.nd (Bk.pl k) == Bk.nd s && (Bk.ins (Bk.pl k) == Bk.ins s && Bk.off (Bk.pl k) == Bk.off s)) = true := by rw [HEQ.out, he, Bk.pl_pl hs]; simp
      have HE := Lib.hid he
      clear he
      generalize HW : w1.drewN m = w2 at c0 c1 c2 b0 b1 b2 ⊢
      have HWW := Lib.hid HW
      clear HW
      go_wp2_with fail
      go_quiet (fail)
      go_wp2_with fail
      go_ret
      exact ⟨ret_int (by rw [HE.out]), by rw [← HWW.out]; exact below_drewN (below_drewN Hb0.out m) _⟩
    · have hq : (Bk.nd (Bk.pl k) == Bk.nd s && (Bk.ins (Bk.pl k) == Bk.ins s && Bk.off (Bk.pl k) == Bk.off s)) = false := by
        rw [HEQ.out]
        simp only [beq_eq_false_iff_ne, ne_eq]
        intro e
        exact he (by rw [← e, Bk.pl_pl hk5])
      have hlt : k < Bk.pl s := by omega
      clear he
      generalize HW : w1.drewN m = w2 at c0 c1 c2 b0 b1 b2 ⊢
      have HWW := Lib.hid HW
      clear HW
      go_wp2_with fail
      go_quiet (fail)
      go_wp2_with fail
      go_roundw
      case rel => exact ⟨k + 1, by omega, by go_num, by rw [← HWW.out]; exact ex_drew w1 m _⟩
      case measure => simp [intOf]; omega
end Go.Proofs.Ytlneedjhdnjnpaa
