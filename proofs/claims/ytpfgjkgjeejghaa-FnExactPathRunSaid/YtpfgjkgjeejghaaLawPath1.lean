/-
  The walk of the law FnExactPathValid: it returns true for every argument and leaves old memory as it was.
  Conditions: none.
-/
import Derived.Test.YtpfgjkgjeejghaaPath3
import Derived.Deep.RegionHeld3
namespace Go.Proofs.Ytpfgjkgjeejghaa
open Go.RowKit
set_option linter.unusedVariables false
attribute [local go_sem ↓] Go.wp_at_zero Go.wp_at_succ

theorem Room2.cells {w : World} {b : Nat} {v0 v1 : Value} (h : Room2 w b v0 v1) : w.cell? ⟨b, 0, none⟩ = some v0 ∧ w.cell? ⟨b, 1, none⟩ = some v1 := ⟨h.1, h.2.1⟩
theorem Room2.two {w : World} {a b : Nat} {v0 v1 u0 u1 : Value} (h : Room2 w a v0 v1) (k : Room2 w b u0 u1) : w.cell? ⟨a, 0, none⟩ = some v0 ∧ w.cell? ⟨a, 1, none⟩ = some v1 ∧ w.cell? ⟨b, 0, none⟩ = some u0 ∧ w.cell? ⟨b, 1, none⟩ = some u1 := ⟨h.1, h.2.1, k.1, k.2.1⟩
theorem Room2.drew {w : World} {b : Nat} {v0 v1 : Value} (h : Room2 w b v0 v1) : Room2 w.drew b v0 v1 := h
theorem OwnP.rd0 {w : World} {B : Nat} {G : Option Addr} {n c : Nat} {xs : List Int} {H : Option Addr} {m d : Nat} {ys : List Int} (h : OwnP w B G n c xs H m d ys) : RdI w G n xs := RdI.of_own h.1
theorem OwnP.rd1 {w : World} {B : Nat} {G : Option Addr} {n c : Nat} {xs : List Int} {H : Option Addr} {m d : Nat} {ys : List Int} (h : OwnP w B G n c xs H m d ys) : RdI w H m ys := RdI.of_own h.2.1
theorem OwnP.drew {w : World} {B : Nat} {G : Option Addr} {n c : Nat} {xs : List Int} {H : Option Addr} {m d : Nat} {ys : List Int} (h : OwnP w B G n c xs H m d ys) : OwnP w.drew B G n c xs H m d ys := h
theorem OwnP.alloc {w : World} {B : Nat} {G : Option Addr} {n c : Nat} {xs : List Int} {H : Option Addr} {m d : Nat} {ys : List Int} (h : OwnP w B G n c xs H m d ys) (o : Obj) : OwnP (w.alloc o) B G n c xs H m d ys := h.below ((Below.refl _ _).alloc (Nat.le_refl _) o)

set_option maxRecDepth 100000 in
set_option maxHeartbeats 4000000 in
theorem FnExactPathValid_walk (w : World) (N : Int) (wN : (Lit.int .i64 N).wf = true) (A : Option Addr) (n c : Nat) (xs : List Int) (hx : RdI w A n xs) (hl : n ≤ c) (hc : c ≤ maxLen) (hwx : ∀ z ∈ xs, (Lit.int .i64 z).wf = true)
    (B : Option Addr) (m d : Nat) (ys : List Int) (hy : RdI w B m ys) (hm : m ≤ d) (hd : d ≤ maxLen) (hwy : ∀ z ∈ ys, (Lit.int .i64 z).wf = true) :
    Calls Try.prog 4 #[.int .i64 N, .agg #[.slice A n c, .slice B m d]] w fun e w' => e = .returned (.bool true) ∧ Below w.heap.size w w' := by
  clear wN hwx hwy
  have HX := Lib.hid hx
  have HY := Lib.hid hy
  have HNM : Hid (n ≤ maxLen ∧ m ≤ maxLen) := ⟨by omega, by omega⟩
  have Hb0 : Hid (Below w.heap.size w (w.alloc (.cells #[.slice A n c, .slice B m d] 25))) := (Below.refl w.heap.size w).alloc (Nat.le_refl _) _
  have HR0 : Hid (Room2 (w.alloc (.cells #[.slice A n c, .slice B m d] 25)) w.heap.size (.slice A n c) (.slice B m d)) := room2_new _ _ _ _
  clear hx hy hl hc hm hd
  by_cases hbig : (n : Int) + m ≤ 1048576
  · have hn : n ≤ 1048576 := by omega
    have hm : m ≤ 1048576 := by omega
    go_enter Try.func4, Try.ntmps4
    go_wp2_with fail
    refine (szPath_yes _ _ _ _ _ _ _ _ hbig (by omega)).mono ?_
    rintro e w1 ⟨rfl, hb1⟩
    have HR1 := Lib.hid (HR0.out.later hb1)
    have Hb1 := Lib.hid (below_seq Hb0.out hb1)
    clear hb1
    obtain ⟨r0, r1, _, _⟩ := HR1.out
    go_wp2_with fail
    refine (toPath_any _ _ _ _ _ _ xs ys _ (RdI.below HX.out Hb1.out) (RdI.below HY.out Hb1.out) (by omega) (by omega)).mono ?_
    rintro e w2 ⟨G, H, rfl, ho2, hb2⟩
    have HR2 := Lib.hid (HR1.out.later hb2)
    have Hb2 := Lib.hid (below_seq Hb1.out hb2)
    have HO2 := Lib.hid ho2
    clear ho2 hb2 r0 r1
    go_wp2_with fail
    refine (specPathValid_any _ _ _ _ _ _ xs ys _ _ HO2.out.rd0 HO2.out.rd1).mono ?_
    rintro e w3 ⟨rfl, hb3⟩
    have HR3 := Lib.hid (HR2.out.later hb3)
    have Hb3 := Lib.hid (below_seq Hb2.out hb3)
    clear hb3
    obtain ⟨r0, r1, _, _⟩ := HR3.out
    go_wp2_with fail
    refine (toPath_any _ _ _ _ _ _ xs ys _ (RdI.below HX.out Hb3.out) (RdI.below HY.out Hb3.out) (by omega) (by omega)).mono ?_
    rintro e w4 ⟨G', H', rfl, ho4, hb4⟩
    have HR4 := Lib.hid (HR3.out.later hb4)
    have Hb4 := Lib.hid (below_seq Hb3.out hb4)
    have HO4 := Lib.hid ho4
    clear ho4 hb4 r0 r1
    have HR5 := Lib.hid (HR4.out.alloc (.cells #[.slice G' n n, .slice H' m m] 28))
    have HB5 : Hid (Below w.heap.size w (w4.alloc (.cells #[.slice G' n n, .slice H' m m] 28))) := Hb4.out.alloc Hb4.out.size _
    have HP5 : Hid (Room2 (w4.alloc (.cells #[.slice G' n n, .slice H' m m] 28)) w4.heap.size (.slice G' n n) (.slice H' m m)) := room2_new _ _ _ _
    have HO5 := Lib.hid (HO4.out.alloc (.cells #[.slice G' n n, .slice H' m m] 28))
    go_wp2_with fail
    generalize w4.alloc (.cells #[.slice G' n n, .slice H' m m] 28) = w5 at HR5 HB5 HP5 HO5 ⊢
    refine (implPathValid_any _ _ _ _ _ _ xs ys _ _ HO5.out.rd0 HO5.out.rd1).mono ?_
    rintro e w6 ⟨rfl, hb6⟩
    have HR6 := Lib.hid (HR5.out.later hb6)
    have HP6 := Lib.hid (HP5.out.later hb6)
    have HO6 := Lib.hid (HO5.out.below hb6)
    have Hb6 := Lib.hid (below_seq HB5.out hb6)
    clear hb6
    obtain ⟨s0, s1, s2, s3⟩ := Room2.two HR6.out HP6.out
    go_wp2_with fail
    go_region_held3 (fun W => W.cell? ⟨w.heap.size, 0, none⟩ = some (.slice A n c) ∧ W.cell? ⟨w.heap.size, 1, none⟩ = some (.slice B m d) ∧ W.cell? ⟨w4.heap.size, 0, none⟩ = some (.slice G' n n) ∧ W.cell? ⟨w4.heap.size, 1, none⟩ = some (.slice H' m m))
      (first | exact ⟨s0, s1, s2, s3⟩ | exact ⟨u0, u1, u2, u3⟩ | exact Room2.two HR8.out HP8.out | go_keep)
      (first
        | (go_at_call 17; refine (toPath_any _ _ _ _ _ _ xs ys _ (RdI.below HX.out Hb6.out.drew) (RdI.below HY.out Hb6.out.drew) (by omega) (by omega)).mono ?_; rintro e w7 ⟨G7, H7, rfl, ho7, hb7⟩; have HR7 : Hid (Room2 w7 _ _ _) := HR6.out.drew.later hb7; have HP7 : Hid (Room2 w7 _ _ _) := HP6.out.drew.later hb7; have HQ7 : Hid (OwnP w7 _ _ _ _ xs _ _ _ ys) := HO6.out.drew.below hb7; have HO7 := Lib.hid ho7; have Hb7 : Hid (Below w.heap.size w w7) := below_seq Hb6.out.drew hb7; obtain ⟨u0, u1, u2, u3⟩ := Room2.two HR7.out HP7.out; clear ho7 hb7)
        | (go_at_call 19; refine (eqPath_same _ _ _ _ _ _ _ _ _ _ _ _ xs ys _ HQ7.out.rd0 HQ7.out.rd1 HO7.out.rd0 HO7.out.rd1 (by omega) (by omega)).mono ?_; rintro e w8 ⟨rfl, hb8⟩; have HR8 : Hid (Room2 w8 _ _ _) := HR7.out.later hb8; have HP8 : Hid (Room2 w8 _ _ _) := HP7.out.later hb8; have Hb8 : Hid (Below w.heap.size w w8) := below_seq Hb7.out hb8; clear hb8))
    all_goals go_wp2_with fail
    all_goals go_ret
    all_goals exact ⟨rfl, Hb8.out⟩
  · go_enter Try.func4, Try.ntmps4
    go_wp2_with fail
    refine (szPath_no _ _ _ _ _ _ _ _ (by omega) (by omega) (by omega) HNM.out.1 HNM.out.2).mono ?_
    rintro e w1 ⟨rfl, hb1⟩
    have Hb1 := Lib.hid (below_seq Hb0.out hb1)
    clear hb1
    go_wp2_with fail
    go_ret
    exact ⟨rfl, Hb1.out⟩
end Go.Proofs.Ytpfgjkgjeejghaa
