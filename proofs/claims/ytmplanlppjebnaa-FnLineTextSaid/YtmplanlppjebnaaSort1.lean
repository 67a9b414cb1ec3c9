/-
  Contracts of the library's rotateCmpFunc and swapRangeCmpFunc on a row of moves, of cmp.Compare at integers and of the program's comparison of two moves.
  Conditions: a row of the call's own, of at most 2^20 moves.
-/
import Derived.Test.YtmplanlppjebnaaMv1
import Derived.Test.YtmplanlppjebnaaSortPlain
import Derived.BigRegion
namespace Go.Proofs.Ytmplanlppjebnaa
open Go.RowKit
set_option linter.unusedVariables false
attribute [local go_sem ↓] Go.wp_at_zero Go.wp_at_succ

/-- What cmp.Compare returns. -/
def cmpv (a b : Int) : Int := if a < b then -1 else if b < a then 1 else 0
theorem cmpv_neg (a b : Int) : cmpv a b < 0 ↔ a < b := by unfold cmpv; split <;> (try split) <;> omega
theorem isNaN_any (a : Int) (w : World) : Calls Try.prog 48 #[.int .i64 a] w fun e w' => e = .returned (.bool false) ∧ w = w' := by
  go_enter Try.func48, Try.ntmps48
  go_wp2_with fail
  go_ret
  exact ⟨rfl, rfl⟩
theorem compare_any (a b : Int) (w : World) : Calls Try.prog 30 #[.int .i64 a, .int .i64 b] w fun e w' => e = .returned (.int .i64 (cmpv a b)) ∧ w = w' := by
  by_cases h1 : a < b
  · have HV : Hid (cmpv a b = -1) := by unfold Hid cmpv; rw [if_pos h1]
    go_enter Try.func30, Try.ntmps30
    go_wp2_with fail
    refine (isNaN_any _ _).mono ?_
    rintro e w1 ⟨rfl, rfl⟩
    go_wp2_with fail
    refine (isNaN_any _ _).mono ?_
    rintro e w1 ⟨rfl, rfl⟩
    go_wp2_with fail
    go_ret
    exact ⟨ret_int HV.out.symm, rfl⟩
  · by_cases h2 : b < a
    · have HV : Hid (cmpv a b = 1) := by unfold Hid cmpv; rw [if_neg h1, if_pos h2]
      go_enter Try.func30, Try.ntmps30
      go_wp2_with fail
      refine (isNaN_any _ _).mono ?_
      rintro e w1 ⟨rfl, rfl⟩
      go_wp2_with fail
      refine (isNaN_any _ _).mono ?_
      rintro e w1 ⟨rfl, rfl⟩
      go_wp2_with fail
      go_ret
      exact ⟨ret_int HV.out.symm, rfl⟩
    · have HV : Hid (cmpv a b = 0) := by unfold Hid cmpv; rw [if_neg h1, if_neg h2]
      go_enter Try.func30, Try.ntmps30
      go_wp2_with fail
      refine (isNaN_any _ _).mono ?_
      rintro e w1 ⟨rfl, rfl⟩
      go_wp2_with fail
      refine (isNaN_any _ _).mono ?_
      rintro e w1 ⟨rfl, rfl⟩
      go_wp2_with fail
      go_ret
      exact ⟨ret_int HV.out.symm, rfl⟩
theorem cmpMove_any (a b : Int) (s t : ByteArray) (w : World) : Calls Try.prog 29 #[mvv a s, mvv b t] w fun e w' => e = .returned (.int .i64 (cmpv a b)) ∧ Below w.heap.size w w' := by
  go_enter Try.func29, Try.ntmps29
  go_wp2_with fail
  refine (compare_any _ _ _).mono ?_
  rintro e w1 ⟨rfl, rfl⟩
  go_wp2_with fail
  go_ret
  refine ⟨rfl, ?_⟩
  go_grown
/-- The comparison as a function value. -/
abbrev cmpF : Value := .func (.func 29) #[] #[]
/-- A row of moves of the call's own, behind changes of this row and new memory alone. -/
structure SW (w W : World) (base g n c : Nat) (xs : List Mv) : Prop where
  own : W.ownsRow base 28 2 (.slice (some ⟨g, 0, none⟩) n c) n (flat xs)
  gr : w.grownBy W (some g)
section
variable {w W W' : World} {base g n c : Nat} {xs : List Mv}
theorem SW.len (h : SW w W base g n c xs) : xs.length = n := by have := h.own.1; rw [flat_len] at this; omega
theorem SW.refl (h : w.ownsRow base 28 2 (.slice (some ⟨g, 0, none⟩) n c) n (flat xs)) : SW w w base g n c xs := ⟨h, World.grownBy.refl _ _⟩
theorem SW.drewN (h : SW w W base g n c xs) (k : Nat) : SW w (W.drewN k) base g n c xs := ⟨h.own, ⟨h.gr.os, h.gr.tape, h.gr.output, h.gr.size, h.gr.block⟩⟩
theorem SW.drew (h : SW w W base g n c xs) : SW w W.drew base g n c xs := ⟨h.own, ⟨h.gr.os, h.gr.tape, h.gr.output, h.gr.size, h.gr.block⟩⟩
theorem SW.below (h : SW w W base g n c xs) (hb : Below W.heap.size W W') : SW w W' base g n c xs :=
  ⟨own_belowAll h.own hb, hb.os.trans h.gr.os, hb.tape.trans h.gr.tape, hb.output.trans h.gr.output, Nat.le_trans h.gr.size hb.size, fun i hi hne => (hb.block i (Nat.lt_of_lt_of_le hi h.gr.size)).trans (h.gr.block i hi hne)⟩
theorem SW.put (h : SW w W base g n c xs) (k : Nat) (p : Mv) : SW w ((W.setCell ⟨g, k * 2, none⟩ (.int .i64 p.1)).setCell ⟨g, k * 2 + 1, none⟩ (.string p.2)) base g n c (xs.set k p) := by
  refine ⟨own_put2 h.own p, ?_⟩
  have k2 := gw2 W g k (.int .i64 p.1) (.string p.2)
  exact ⟨k2.os.trans h.gr.os, k2.tape.trans h.gr.tape, k2.output.trans h.gr.output, Nat.le_trans h.gr.size k2.size, fun i hi hne => (k2.block i (Nat.lt_of_lt_of_le hi h.gr.size) hne).trans (h.gr.block i hi hne)⟩
theorem SW.seq (h : SW w W base g n c xs) {ys : List Mv} (k : SW W W' base g n c ys) : SW w W' base g n c ys :=
  ⟨k.own, k.gr.os.trans h.gr.os, k.gr.tape.trans h.gr.tape, k.gr.output.trans h.gr.output, Nat.le_trans h.gr.size k.gr.size, fun i hi hne => (k.gr.block i (Nat.lt_of_lt_of_le hi h.gr.size) hne).trans (h.gr.block i hi hne)⟩
end
set_option maxRecDepth 100000 in
set_option maxHeartbeats 8000000 in
theorem swapRange_any (base g n c a b k : Nat) (xs : List Mv) (F : Value) (w : World) (ho : w.ownsRow base 28 2 (.slice (some ⟨g, 0, none⟩) n c) n (flat xs)) (hab : a + k ≤ b) (hb : b + k ≤ n) (hn : n ≤ 1048576) :
    Calls Try.prog 61 #[.slice (some ⟨g, 0, none⟩) n c, .int .i64 a, .int .i64 b, .int .i64 k, F] w fun e w' => e = .returned (.tuple #[]) ∧ ∃ ys, So.Swp a b k xs ys ∧ SW w w' base g n c ys := by
  have HO := Lib.hid ho
  clear ho
  go_enter Try.func61, Try.ntmps61
  go_wp2_with fail
  go_loopw [10] (fun v wr => ∃ i : Nat, i ≤ k ∧ v = .int .i64 i ∧ Hid (∃ ys, So.Swp a b i xs ys ∧ SW w wr base g n c ys)) (fun v _ => k - (intOf v).toNat)
  case atStart => exact ⟨0, Nat.zero_le _, rfl, xs, So.swp_zero _ _ _, SW.refl HO.out⟩
  case round =>
    obtain ⟨i, hi, rfl, Hs⟩ := hrel
    obtain ⟨ys, hsw, hS⟩ := Hs.out
    clear Hs
    by_cases hlt : i < k
    · have hxl : xs.length = n := by rw [← hsw.1]; exact hS.len
      obtain ⟨x, hx⟩ : ∃ x, xs[a + i]? = some x := ⟨_, List.getElem?_eq_getElem (by omega)⟩
      obtain ⟨y, hy⟩ : ∃ y, xs[b + i]? = some y := ⟨_, List.getElem?_eq_getElem (by omega)⟩
      obtain ⟨hx', hy', hstep⟩ := So.swp_step (by omega) hsw hx hy
      obtain ⟨c0, c1, f0, f1⟩ := own_at2 hS.own hx'
      obtain ⟨d0, d1, g0, g1⟩ := own_at2 hS.own hy'
      have HST := Lib.hid hstep
      have HS := Lib.hid hS
      clear hx hy hx' hy' hstep hS hsw hxl
      have w1 : IntKind.i64.wrap ((a : Int) + i) = (a : Int) + i := IntWalk.i64_in _ (by omega)
      have w2 : IntKind.i64.wrap ((b : Int) + i) = (b : Int) + i := IntWalk.i64_in _ (by omega)
      have p0 : (0 : Int) ≤ (a : Int) + i := by omega
      have p1 : (a : Int) + i < n := by omega
      have p2 : (0 : Int) ≤ (b : Int) + i := by omega
      have p3 : (b : Int) + i < n := by omega
      have t1 : ((a : Int) + i).toNat = a + i := by omega
      have t2 : ((b : Int) + i).toNat = b + i := by omega
      have n1 : ¬ (a + i) * 2 = (b + i) * 2 := by omega
      have n2 : ¬ (b + i) * 2 = (a + i) * 2 := by omega
      have n3 : ¬ (a + i) * 2 + 1 = (b + i) * 2 := by omega
      have n4 : ¬ (b + i) * 2 = (a + i) * 2 + 1 := by omega
      have n5 : ¬ (a + i) * 2 = (b + i) * 2 + 1 := by omega
      have n6 : ¬ (b + i) * 2 + 1 = (a + i) * 2 := by omega
      have n7 : ¬ a + i = b + i := by omega
      have n8 : ¬ b + i = a + i := by omega
      go_wp2_with fail
      go_region
      all_goals go_wp2_with fail
      all_goals go_roundw
      all_goals first
        | (simp [intOf]; omega)
        | exact ⟨i + 1, by omega, by go_num, _, HST.out, (HS.out.drew.put (a + i) y).put (b + i) x⟩
    · obtain rfl : i = k := by omega
      have HS := Lib.hid (And.intro hsw hS)
      clear hsw hS
      go_wp2_with fail
      go_end0
      exact ⟨rfl, ys, HS.out.1, HS.out.2⟩
end Go.Proofs.Ytmplanlppjebnaa
