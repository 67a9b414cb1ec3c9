/-
  Contracts: BookReadings (the program's), l1At, BookReadings (the reference's).
  Conditions: the book reads as a list of lists, with at most 2^20 numbers.
-/
import Derived.Test.YtpfgjkgjeejghaaRead1
namespace Go.Proofs.Ytpfgjkgjeejghaa
open Go.RowKit
open Go.Maps (Keyed int_keyed keyOf_int_mk)
set_option linter.unusedVariables false
attribute [local go_sem ↓] Go.wp_at_zero Go.wp_at_succ

theorem Rd.drop_ {w : World} {n : Nat} {b off : Nat} {xs : List Value} (h : Rd w (some ⟨b, off, none⟩) n xs) (p : Nat) : Rd w (some ⟨b, off + p, none⟩) (n - p) (xs.drop p) := by
  refine ⟨by rw [List.length_drop, h.1], fun h0 => ?_⟩
  obtain ⟨b', off', e, hc⟩ := h.2 (by omega)
  simp only [Option.some.injEq, Addr.mk.injEq, and_true] at e
  obtain ⟨rfl, rfl⟩ := e
  refine ⟨b, off + p, rfl, fun j u hj => ?_⟩
  rw [List.getElem?_drop] at hj
  have := hc (p + j) u hj
  rw [← Nat.add_assoc] at this
  exact this
theorem RdI.drop_ {w : World} {n : Nat} {b off : Nat} {xs : List Int} (h : RdI w (some ⟨b, off, none⟩) n xs) (p : Nat) : RdI w (some ⟨b, off + p, none⟩) (n - p) (xs.drop p) := by
  have := Rd.drop_ h p
  rw [← List.map_drop] at this
  exact this

set_option maxHeartbeats 8000000 in
theorem implBookReadings_any (A : Option Addr) (n c : Nat) (zss : List (List Int)) (A' : Option Addr) (m d : Nat) (zs : List Int) (w : World) (hx : RdM w A n zss) (hn : n ≤ maxLen) (ht : tot zss ≤ 1048576) (hy : RdI w A' m zs) (hm : m ≤ 1048576) :
    Calls Try.prog 42 #[.slice A n c, .slice A' m d] w fun e w' => e = .returned (.int .i64 (Bk.reads zss zs)) ∧ Below w.heap.size w w' := by
  have HX := Lib.hid hx
  have HY := Lib.hid hy
  have Hly := Lib.hid hy.len
  clear hx hy
  have hmm := @run_makeMap Try.prog
  go_enter Try.func42, Try.ntmps42
  go_wp2_with fail
  refine (bookOf_any _ _ _ zss _ HX.out hn ht).mono ?_
  rintro e w1 ⟨G, k, g, rfl, ho1, hb1⟩
  have HO1 := Lib.hid ho1
  have Hb1 := Lib.hid hb1
  clear ho1 hb1 hn
  by_cases h20 : m ≤ 20
  · go_wp2_with fail
    refine (beatsOf_any _ _ _ zs _ _ (RdI.below HY.out Hb1.out) (by omega) (by omega)).mono ?_
    rintro e w2 ⟨rfl, hb2⟩
    have HO2 := Lib.hid (own_belowAll HO1.out hb2)
    have Hb2 := Lib.hid (below_seq Hb1.out hb2)
    have HZ2 : Hid (w1.heap.size ≤ w2.heap.size) := hb2.size
    clear hb2
    cases hz : zs.all Cd.inB with
    | false =>
      have HE : Hid (Bk.reads zss zs = -1) := Bk.reads_no (by rintro ⟨_, h⟩; unfold Bk.ring at h; rw [hz] at h; cases h)
      rw [Cd.groupsV_no hz]
      clear hz
      cases hv : Bk.valid zss with
      | false =>
        clear hv
        go_wp2_with fail
        go_ret
        exact ⟨ret_int HE.out.symm, Hb2.out⟩
      | true =>
        clear hv
        go_wp2_with fail
        go_ret
        exact ⟨ret_int HE.out.symm, Hb2.out⟩
    | true =>
      have HRG : Hid (Bk.ring zs = true) := by unfold Hid Bk.ring; rw [hz, decide_eq_true (by rw [Hly.out]; exact h20)]; rfl
      rw [Cd.groupsV_yes hz]
      clear hz
      cases hv : Bk.valid zss with
      | false =>
        have HE : Hid (Bk.reads zss zs = -1) := Bk.reads_no (by rintro ⟨h, _⟩; rw [hv] at h; cases h)
        clear hv
        go_wp2_with fail
        go_ret
        exact ⟨ret_int HE.out.symm, Hb2.out⟩
      | true =>
        have HE : Hid (Bk.reads zss zs = Bk.R zss zs) := Bk.reads_yes hv HRG.out
        have HV := Lib.hid hv
        clear hv
        go_wp2_with fail
        refine (countReadings_any zss zs HV.out HRG.out _ _ _ _ zs.length 0 _ _ _ (Nat.zero_le _) (by omega) (by rfl) (HO2.out.alloc _) (fun a e => by have := (HO2.out.lt a e).2; omega) (Memo.made _ _ _ _)).mono ?_
        rintro e w3 ⟨rfl, _, hg3⟩
        have Hb3 : Hid (Below w.heap.size w w3) := below_grown (Hb2.out.alloc Hb2.out.size _) hg3 (by have := Hb2.out.size; simp; omega) (fun r e => by cases e; exact Hb2.out.size)
        clear hg3
        go_wp2_with fail
        go_ret
        exact ⟨ret_int (by rw [HE.out]), Hb3.out⟩
  · have HE : Hid (Bk.reads zss zs = -1) := Bk.reads_no (by rintro ⟨_, h⟩; have := (Bk.ring_parts h).2; rw [Hly.out] at this; omega)
    go_wp2_with fail
    refine (beatsOf_long _ _ _ _ _ (by omega)).mono ?_
    rintro e w2 ⟨rfl, rfl⟩
    cases hv : Bk.valid zss with
    | false =>
      clear hv
      go_wp2_with fail
      go_ret
      exact ⟨ret_int HE.out.symm, Hb1.out⟩
    | true =>
      clear hv
      go_wp2_with fail
      go_ret
      exact ⟨ret_int HE.out.symm, Hb1.out⟩
set_option maxHeartbeats 4000000 in
theorem l1At_any (A : Option Addr) (n c : Nat) (zs : List Int) (p : Nat) (A' : Option Addr) (m d : Nat) (cs : List Int) (w : World) (hx : RdI w A n zs) (hnc : n ≤ c) (hc : c ≤ maxLen) (hy : RdI w A' m cs) (hp : p < n) (hn : n ≤ 1048576) (hm : m ≤ 1048576) :
    Calls Try.prog 63 #[.slice A n c, .int .i64 p, .slice A' m d] w fun e w' => e = .returned (.bool (Bk.pre cs (zs.drop p))) ∧ ∃ s, w' = w.drewN s := by
  have HX := Lib.hid hx
  have HY := Lib.hid hy
  have Hlx := Lib.hid hx.len
  have Hly := Lib.hid hy.len
  obtain ⟨b, off, x0, rfl, _, _⟩ := hx.at_ hp
  clear hx hy
  unfold maxLen at hc
  by_cases hfit : p + m ≤ n
  · have HE : Hid (Bk.pre cs (zs.drop p) = decide ((zs.drop p).take m = cs)) := by
      unfold Hid Bk.pre
      rw [List.length_drop, Hlx.out, Hly.out, decide_eq_true (by omega : m ≤ n - p), Bool.true_and]
      exact decide_eq_decide.2 ⟨fun h => h.symm, fun h => h.symm⟩
    have HS : Hid (RdI w (some ⟨b, off + p, none⟩) m ((zs.drop p).take m)) := RdI.take (RdI.drop_ HX.out p) (by omega)
    have hd : decide ((p : Int) + m ≤ n) = true := decide_eq_true (by omega)
    have hc2 : (p : Int) + m ≤ c := by omega
    have hc3 : (p : Int) ≤ p + m := by omega
    go_enter Try.func63, Try.ntmps63
    go_wp2_with fail
    refine (l1Same_any _ _ _ _ _ _ ((zs.drop p).take m) cs _ HS.out HY.out (by omega)).mono ?_
    rintro e w1 ⟨rfl, s, rfl⟩
    rw [← HE.out]
    go_wp2_with fail
    go_ret
    exact ⟨rfl, s, rfl⟩
  · have HE : Hid (Bk.pre cs (zs.drop p) = false) := by
      unfold Hid Bk.pre
      rw [List.length_drop, Hlx.out, Hly.out, decide_eq_false (by omega : ¬ m ≤ n - p), Bool.false_and]
    have hd : decide ((p : Int) + m ≤ n) = false := decide_eq_false (by omega)
    have hd2 : decide (p + m ≤ n) = false := decide_eq_false hfit
    go_enter Try.func63, Try.ntmps63
    go_wp2_with fail
    go_ret
    exact ⟨ret_bool HE.out.symm, 0, rfl⟩
end Go.Proofs.Ytpfgjkgjeejghaa
