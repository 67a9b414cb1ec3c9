/-
  Contracts of where two paths clash: in one section, and in all (the program's and the reference's).
  Conditions: the fields read as lists of integers.
-/
import Derived.Test.YtpfgjkgjeejghaaPath4
namespace Go.Proofs.Ytpfgjkgjeejghaa
open Go.RowKit
set_option linter.unusedVariables false
attribute [local go_sem ↓] Go.wp_at_zero Go.wp_at_succ

theorem getD_of {l : List Int} {k : Nat} {x : Int} (h : l[k]? = some x) : l.getD k 0 = x := by rw [List.getD_eq_getElem?_getD, h]; rfl
/-- Whether two paths clash in section k. -/
abbrev cl (xs ys xs' ys' : List Int) (k : Nat) : Bool := decide (xs.getD k 0 < ys'.getD k 0 ∧ xs'.getD k 0 < ys.getD k 0)

set_option maxHeartbeats 4000000 in
theorem implClashes_any (b : Nat) (A : Option Addr) (c : Nat) (B : Option Addr) (d : Nat) (xs ys : List Int) (b' : Nat) (A' : Option Addr) (c' : Nat) (B' : Option Addr) (d' : Nat) (xs' ys' : List Int) (n k : Nat) (w : World)
    (c0 : w.cell? ⟨b, 0, none⟩ = some (.slice A n c)) (c1 : w.cell? ⟨b, 1, none⟩ = some (.slice B n d)) (d0 : w.cell? ⟨b', 0, none⟩ = some (.slice A' n c')) (d1 : w.cell? ⟨b', 1, none⟩ = some (.slice B' n d'))
    (hx : RdI w A n xs) (hy : RdI w B n ys) (hx' : RdI w A' n xs') (hy' : RdI w B' n ys') (hk : k < n) :
    Calls Try.prog 53 #[.pointer (some ⟨b, 0, none⟩), .pointer (some ⟨b', 0, none⟩), .int .i64 k] w fun e w' => e = .returned (.bool (cl xs ys xs' ys' k)) ∧ Below w.heap.size w w' := by
  obtain ⟨b1, o1, x, rfl, e1, h1⟩ := hx.at_ hk
  obtain ⟨b2, o2, y, rfl, e2, h2⟩ := hy.at_ hk
  obtain ⟨b3, o3, x', rfl, e3, h3⟩ := hx'.at_ hk
  obtain ⟨b4, o4, y', rfl, e4, h4⟩ := hy'.at_ hk
  have HC : Hid (cl xs ys xs' ys' k = decide (x < y' ∧ x' < y)) := by unfold Hid cl; rw [getD_of e1, getD_of e2, getD_of e3, getD_of e4]
  clear hx hy hx' hy' e1 e2 e3 e4
  by_cases t1 : x < y'
  · by_cases t2 : x' < y
    · have HD : Hid (decide (x < y' ∧ x' < y) = true) := decide_eq_true ⟨t1, t2⟩
      have u1 : decide (x < y') = true := decide_eq_true t1
      have u2 : decide (x' < y) = true := decide_eq_true t2
      clear t1 t2
      go_enter Try.func53, Try.ntmps53
      go_wp2_with fail
      go_quiet (fail)
      go_wp2_with fail
      go_ret
      exact ⟨ret_bool (by rw [HC.out, HD.out]), below_of_drewN _ _ _⟩
    · have HD : Hid (decide (x < y' ∧ x' < y) = false) := decide_eq_false (by omega)
      have u1 : decide (x < y') = true := decide_eq_true t1
      have u2 : decide (x' < y) = false := decide_eq_false t2
      clear t1 t2
      go_enter Try.func53, Try.ntmps53
      go_wp2_with fail
      go_quiet (fail)
      go_wp2_with fail
      go_ret
      exact ⟨ret_bool (by rw [HC.out, HD.out]), below_of_drewN _ _ _⟩
  · have HD : Hid (decide (x < y' ∧ x' < y) = false) := decide_eq_false (by omega)
    have u1 : decide (x < y') = false := decide_eq_false t1
    clear t1
    go_enter Try.func53, Try.ntmps53
    go_wp2_with fail
    go_quiet (fail)
    go_wp2_with fail
    go_ret
    exact ⟨ret_bool (by rw [HC.out, HD.out]), below_of_drewN _ _ _⟩
set_option maxHeartbeats 4000000 in
theorem l2Clash_any (A : Option Addr) (c : Nat) (B : Option Addr) (d : Nat) (xs ys : List Int) (A' : Option Addr) (c' : Nat) (B' : Option Addr) (d' : Nat) (xs' ys' : List Int) (n k : Nat) (w : World)
    (hx : RdI w A n xs) (hy : RdI w B n ys) (hx' : RdI w A' n xs') (hy' : RdI w B' n ys') (hk : k < n) :
    Calls Try.prog 52 #[pv A n c B n d, pv A' n c' B' n d', .int .i64 k] w fun e w' => e = .returned (.bool (cl xs ys xs' ys' k)) ∧ Below w.heap.size w w' := by
  have HB0 : Hid (Below w.heap.size w ((w.alloc (.cells #[.slice A n c, .slice B n d] 28)).alloc (.cells #[.slice A' n c', .slice B' n d'] 28))) :=
    ((Below.refl w.heap.size w).alloc (Nat.le_refl _) _).alloc (by simp) _
  have HR0 : Hid (Room2 ((w.alloc (.cells #[.slice A n c, .slice B n d] 28)).alloc (.cells #[.slice A' n c', .slice B' n d'] 28)) w.heap.size (.slice A n c) (.slice B n d)) := (room2_new _ _ _ _).alloc _
  have HR1 : Hid (Room2 ((w.alloc (.cells #[.slice A n c, .slice B n d] 28)).alloc (.cells #[.slice A' n c', .slice B' n d'] 28)) (w.heap.size + 1) (.slice A' n c') (.slice B' n d')) := by
    have := room2_new (w.alloc (.cells #[.slice A n c, .slice B n d] 28)) (.slice A' n c') (.slice B' n d') 28; unfold Hid; simpa using this
  obtain ⟨b1, o1, x, rfl, e1, h1⟩ := (RdI.below hx HB0.out).at_ hk
  obtain ⟨b2, o2, y, rfl, e2, h2⟩ := (RdI.below hy HB0.out).at_ hk
  obtain ⟨b3, o3, x', rfl, e3, h3⟩ := (RdI.below hx' HB0.out).at_ hk
  obtain ⟨b4, o4, y', rfl, e4, h4⟩ := (RdI.below hy' HB0.out).at_ hk
  have HC : Hid (cl xs ys xs' ys' k = decide (x < y' ∧ x' < y)) := by unfold Hid cl; rw [getD_of e1, getD_of e2, getD_of e3, getD_of e4]
  have H1 := Lib.hid h1
  have H2 := Lib.hid h2
  have H3 := Lib.hid h3
  have H4 := Lib.hid h4
  clear hx hy hx' hy' e1 e2 e3 e4 h1 h2 h3 h4
  by_cases t1 : x < y'
  · by_cases t2 : x' < y
    · have HD : Hid (decide (x < y' ∧ x' < y) = true) := decide_eq_true ⟨t1, t2⟩
      have u1 : decide (x < y') = true := decide_eq_true t1
      have u2 : decide (x' < y) = true := decide_eq_true t2
      clear t1 t2
      go_enter Try.func52, Try.ntmps52
      go_wp2_with fail
      generalize (w.alloc (.cells #[.slice (some ⟨b1, o1, none⟩) n c, .slice (some ⟨b2, o2, none⟩) n d] 28)).alloc (.cells #[.slice (some ⟨b3, o3, none⟩) n c', .slice (some ⟨b4, o4, none⟩) n d'] 28) = W at HB0 HR0 HR1 H1 H2 H3 H4 ⊢
      obtain ⟨r0, r1, _, _⟩ := HR0.out
      obtain ⟨q0, q1, _, _⟩ := HR1.out
      have h1 := H1.out
      have h2 := H2.out
      have h3 := H3.out
      have h4 := H4.out
      go_quiet (fail)
      go_wp2_with fail
      go_ret
      exact ⟨ret_bool (by rw [HC.out, HD.out]), below_drewN HB0.out _⟩
    · have HD : Hid (decide (x < y' ∧ x' < y) = false) := decide_eq_false (by omega)
      have u1 : decide (x < y') = true := decide_eq_true t1
      have u2 : decide (x' < y) = false := decide_eq_false t2
      clear t1 t2
      go_enter Try.func52, Try.ntmps52
      go_wp2_with fail
      generalize (w.alloc (.cells #[.slice (some ⟨b1, o1, none⟩) n c, .slice (some ⟨b2, o2, none⟩) n d] 28)).alloc (.cells #[.slice (some ⟨b3, o3, none⟩) n c', .slice (some ⟨b4, o4, none⟩) n d'] 28) = W at HB0 HR0 HR1 H1 H2 H3 H4 ⊢
      obtain ⟨r0, r1, _, _⟩ := HR0.out
      obtain ⟨q0, q1, _, _⟩ := HR1.out
      have h1 := H1.out
      have h2 := H2.out
      have h3 := H3.out
      have h4 := H4.out
      go_quiet (fail)
      go_wp2_with fail
      go_ret
      exact ⟨ret_bool (by rw [HC.out, HD.out]), below_drewN HB0.out _⟩
  · have HD : Hid (decide (x < y' ∧ x' < y) = false) := decide_eq_false (by omega)
    have u1 : decide (x < y') = false := decide_eq_false t1
    clear t1
    go_enter Try.func52, Try.ntmps52
    go_wp2_with fail
    generalize (w.alloc (.cells #[.slice (some ⟨b1, o1, none⟩) n c, .slice (some ⟨b2, o2, none⟩) n d] 28)).alloc (.cells #[.slice (some ⟨b3, o3, none⟩) n c', .slice (some ⟨b4, o4, none⟩) n d'] 28) = W at HB0 HR0 HR1 H1 H2 H3 H4 ⊢
    obtain ⟨r0, r1, _, _⟩ := HR0.out
    obtain ⟨q0, q1, _, _⟩ := HR1.out
    have h1 := H1.out
    have h2 := H2.out
    have h3 := H3.out
    have h4 := H4.out
    go_quiet (fail)
    go_wp2_with fail
    go_ret
    exact ⟨ret_bool (by rw [HC.out, HD.out]), below_drewN HB0.out _⟩
end Go.Proofs.Ytpfgjkgjeejghaa
