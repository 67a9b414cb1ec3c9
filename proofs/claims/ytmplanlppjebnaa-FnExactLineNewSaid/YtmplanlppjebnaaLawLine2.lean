/-
  The walk of the law FnExactLineNew: it returns true for all numbers and leaves old memory as it was.
  Conditions: none.
-/
import Derived.Test.YtmplanlppjebnaaLn6
namespace Go.Proofs.Ytmplanlppjebnaa
open Go.RowKit
set_option linter.unusedVariables false
set_option linter.unusedSimpArgs false
attribute [local go_sem ↓] Go.wp_at_zero Go.wp_at_succ

/-- A room of two cells. -/
structure Room2 (W : World) (b : Nat) (u v : Value) : Prop where
  c0 : W.cell? ⟨b, 0, none⟩ = some u
  c1 : W.cell? ⟨b, 1, none⟩ = some v
theorem Room2.below {W W' : World} {b : Nat} {u v : Value} (r : Room2 W b u v) (hb : Below W.heap.size W W') : Room2 W' b u v := ⟨(hb.cell (block_lt_of_cell r.c0)).trans r.c0, (hb.cell (block_lt_of_cell r.c1)).trans r.c1⟩
theorem Room2.alloc {W : World} {b : Nat} {u v : Value} (r : Room2 W b u v) (o : Obj) : Room2 (W.alloc o) b u v := r.below ((Below.refl _ _).alloc (Nat.le_refl _) _)
theorem Room2.mk_ (W : World) (u v : Value) (t : TypeId) : Room2 (W.alloc (.cells #[u, v] t)) W.heap.size u v := by constructor <;> simp [go_sem]
theorem Room2.kept {W W' : World} {B b : Nat} {u v : Value} (r : Room2 W b u v) (hB : b < B) (hb : Below B W W') : Room2 W' b u v := ⟨(hb.cell (p := ⟨b, 0, none⟩) hB).trans r.c0, (hb.cell (p := ⟨b, 1, none⟩) hB).trans r.c1⟩
theorem Room2.lt {W : World} {b : Nat} {u v : Value} (r : Room2 W b u v) : b < W.heap.size := block_lt_of_cell r.c0
theorem below_alloc {w w1 : World} (h : Below w.heap.size w w1) (o : Obj) : Below w.heap.size w (w1.alloc o) := h.alloc h.size o
set_option maxHeartbeats 8000000 in
theorem FnExactLineNew_no (w : World) (n m : Int) (h : ¬ (1 ≤ n ∧ n ≤ 5 ∧ 0 ≤ m ∧ m ≤ 5)) :
    Calls Try.prog 5 #[.int .i64 n, .int .i64 m] w fun e w' => e = .returned (.bool true) ∧ Below w.heap.size w w' := by
  have H := Lib.hid h
  clear h
  go_enter Try.func5, Try.ntmps5
  go_wp2_with fail
  refine (specLineNew_no n m _ H.out).mono ?_
  rintro e w1 ⟨rfl, hb1⟩
  have Hb1 := Lib.hid (below_alloc hb1 (.cells #[.slice none 0 0, .slice none 0 0] 38))
  clear hb1
  go_wp2_with fail
  refine (implLineNew_no n m _ H.out).mono ?_
  rintro e w2 ⟨rfl, hb2⟩
  have R2 := ((Room2.mk_ w1 _ _ _).below hb2).alloc (.cells #[.slice none 0 0, .slice none 0 0] 38)
  have hlt2 : w1.heap.size < w2.heap.size := ((Room2.mk_ w1 _ _ _).below hb2).lt
  have Hb2 := Lib.hid (below_alloc (below_seq Hb1.out hb2) (.cells #[.slice none 0 0, .slice none 0 0] 38))
  obtain ⟨b1, hb1⟩ : ∃ b1, b1 = w1.heap.size := ⟨_, rfl⟩
  rw [← hb1] at R2 hlt2 ⊢
  clear hb1 hb2 Hb1
  obtain ⟨c10, c11⟩ := R2
  go_wp2_with fail
  refine (eqLine_nil _).mono ?_
  rintro e w3 ⟨rfl, hb3⟩
  have R3 := (Room2.mk c10 c11).below hb3
  have S3 := (Room2.mk_ w2 _ _ _).below hb3
  have Hb3 := Lib.hid (below_seq Hb2.out hb3)
  obtain ⟨b2, hb2⟩ : ∃ b2, b2 = w2.heap.size := ⟨_, rfl⟩
  rw [← hb2] at S3 hlt2 ⊢
  clear hb2 hb3 Hb2 c10 c11
  obtain ⟨c20, c21⟩ := S3
  go_wp2_with fail
  refine (markLine_nil _).mono ?_
  rintro e w4 ⟨rfl, hb4⟩
  have R4 := R3.below hb4
  have S4 := (Room2.mk c20 c21).below hb4
  have Hb4 := Lib.hid (below_seq Hb3.out hb4)
  clear hb4 Hb3 R3 c20 c21
  obtain ⟨c20, c21⟩ := S4
  go_wp2_with fail
  refine (heldLine_nil _).mono ?_
  rintro e w5 ⟨rfl, hb5⟩
  have R5 := R4.below hb5
  have S5 := (Room2.mk c20 c21).below hb5
  have Hb5 := Lib.hid (below_seq Hb4.out hb5)
  clear hb5 Hb4 R4 c20 c21
  go_wp2_with fail
  refine (implLineNew_no n m _ H.out).mono ?_
  rintro e w6 ⟨rfl, hb6⟩
  have R6 := (R5.below hb6).alloc (.cells #[.slice none 0 0, .slice none 0 0] 38)
  have S6 := (S5.below hb6).alloc (.cells #[.slice none 0 0, .slice none 0 0] 38)
  have hlt6 : b1 < w6.heap.size := (R5.below hb6).lt
  have Hb6 := Lib.hid (below_alloc (below_seq Hb5.out hb6) (.cells #[.slice none 0 0, .slice none 0 0] 38))
  clear hb6 Hb5 R5 S5
  obtain ⟨c10, c11⟩ := R6
  go_wp2_with fail
  refine (eqLine_nil _).mono ?_
  rintro e w7 ⟨rfl, hb7⟩
  have S7 := S6.below hb7
  have Hb7 := Lib.hid (below_seq Hb6.out hb7)
  clear hb7 Hb6 c10 c11 S6
  obtain ⟨c20, c21⟩ := S7
  go_wp2_with fail
  refine (heldLine_nil _).mono ?_
  rintro e w8 ⟨rfl, hb8⟩
  have Hb8 := Lib.hid (below_seq Hb7.out hb8)
  clear hb8 Hb7 c20 c21
  go_wp2_with fail
  go_ret
  exact ⟨rfl, Hb8.out⟩
set_option maxHeartbeats 8000000 in
theorem FnExactLineNew_yes (w : World) (n m : Nat) (h1 : 1 ≤ n) (h5 : n ≤ 5) (hm : m ≤ 5) :
    Calls Try.prog 5 #[.int .i64 n, .int .i64 m] w fun e w' => e = .returned (.bool true) ∧ Below w.heap.size w w' := by
  go_enter Try.func5, Try.ntmps5
  go_wp2_with fail
  refine (specLineNew_yes n m _ h1 h5 hm).mono ?_
  rintro e w1 ⟨g, k, rfl, ho1, ht1, hne1, hb1⟩
  have HL1 : Hid (OwnL (w1.alloc (.cells #[.slice (some ⟨g, 0, none⟩) n n, .slice (some ⟨k, 0, none⟩) m m] 38)) w.heap.size g n k m (List.replicate n (0, false, false)) (List.replicate m 0)) := OwnL.below ⟨ho1, ht1, hne1⟩ ((Below.refl _ _).alloc (Nat.le_refl _) _)
  have Hb1 := Lib.hid (below_alloc hb1 (.cells #[.slice (some ⟨g, 0, none⟩) n n, .slice (some ⟨k, 0, none⟩) m m] 38))
  clear hb1 ho1 ht1 hne1
  go_wp2_with fail
  refine (implLineNew_yes n m _ h1 h5 hm).mono ?_
  rintro e w2 ⟨g', k', rfl, ho2, ht2, hne2, hb2⟩
  have hg1 := HL1.out.bl.lt g rfl
  have hk1 := HL1.out.tr.lt k rfl
  have HL2 : Hid (OwnL (w2.alloc (.cells #[.slice (some ⟨g', 0, none⟩) n n, .slice (some ⟨k', 0, none⟩) m m] 38)) (w1.heap.size + 1) g' n k' m (List.replicate n (0, false, false)) (List.replicate m 0)) := OwnL.below ⟨by simpa using ho2, by simpa using ht2, hne2⟩ ((Below.refl _ _).alloc (Nat.le_refl _) _)
  have HK2 : Hid (OwnL (w2.alloc (.cells #[.slice (some ⟨g', 0, none⟩) n n, .slice (some ⟨k', 0, none⟩) m m] 38)) w.heap.size g n k m (List.replicate n (0, false, false)) (List.replicate m 0)) := (HL1.out.below hb2).below ((Below.refl _ _).alloc (Nat.le_refl _) _)
  have R2 := ((Room2.mk_ w1 (.slice (some ⟨g, 0, none⟩) n n) (.slice (some ⟨k, 0, none⟩) m m) 38).below hb2).alloc (.cells #[.slice (some ⟨g', 0, none⟩) n n, .slice (some ⟨k', 0, none⟩) m m] 38)
  have hlt2 : w1.heap.size < w2.heap.size := ((Room2.mk_ w1 (.slice (some ⟨g, 0, none⟩) n n) (.slice (some ⟨k, 0, none⟩) m m) 38).below hb2).lt
  have Hb2 := Lib.hid (below_alloc (below_seq Hb1.out hb2) (.cells #[.slice (some ⟨g', 0, none⟩) n n, .slice (some ⟨k', 0, none⟩) m m] 38))
  have hg2 : g' < w2.heap.size := (ho2.lt g' rfl).2
  have hk2 : k' < w2.heap.size := (ht2.lt k' rfl).2
  have hw1 : w.heap.size ≤ w1.heap.size := by have := Hb1.out.size; simp at this; have := hg1.1; have := hg1.2; simp at this; omega
  obtain ⟨b1, hb1⟩ : ∃ b1, b1 = w1.heap.size := ⟨_, rfl⟩
  rw [← hb1] at R2 hlt2 hw1 HL2 ⊢
  simp only [World.size_alloc] at hg1 hk1
  rw [← hb1] at hg1 hk1
  clear hb1 hb2 Hb1 HL1 ho2 ht2 hne2
  obtain ⟨c10, c11⟩ := R2
  go_wp2_with fail
  refine (eqLine_same _ _ _ _ _ _ _ _ _ _ _ HL2.out HK2.out h5 hm).mono ?_
  rintro e w3 ⟨rfl, hb3⟩
  have R3 := (Room2.mk c10 c11).below hb3
  have S3 := (Room2.mk_ w2 _ _ _).below hb3
  have HL3 := Lib.hid (HL2.out.below hb3)
  have HK3 := Lib.hid (HK2.out.below hb3)
  have Hb3 := Lib.hid (below_seq Hb2.out hb3)
  have hwb : w2.heap.size < w3.heap.size := S3.lt
  obtain ⟨b2, hb2⟩ : ∃ b2, b2 = w2.heap.size := ⟨_, rfl⟩
  rw [← hb2] at S3 hlt2 hwb hg2 hk2 ⊢
  clear hb2 hb3 Hb2 c10 c11 HL2 HK2
  obtain ⟨c20, c21⟩ := S3
  go_wp2_with fail
  refine (markLine_any _ _ _ _ _ _ _ _ HL3.out h5 hm (by omega)).mono ?_
  rintro e w4 ⟨rfl, ho4, hbb4, hfar4⟩
  have R4 := R3.kept (by omega) (hbb4 (b1 + 1) (Nat.le_refl _))
  have S4 : Room2 w4 b2 _ _ := ⟨hfar4 _ _ c20 (by simp; omega) (by simp; omega), hfar4 _ _ c21 (by simp; omega) (by simp; omega)⟩
  have HK4 : Hid (OwnL w4 w.heap.size g n k m (List.replicate n (0, false, false)) (List.replicate m 0)) := ⟨own_below HK3.out.bl (hbb4 (b1 + 1) (Nat.le_refl _)) (fun r e => by have h2 : g = r := Option.some.inj e; omega), own_below HK3.out.tr (hbb4 (b1 + 1) (Nat.le_refl _)) (fun r e => by have h2 : k = r := Option.some.inj e; omega), HK3.out.ne⟩
  have Hb4 : Hid (Below w.heap.size w w4) := Hb3.out.trans (hbb4 _ (by omega))
  have HL4 := Lib.hid ho4
  clear ho4 hbb4 hfar4 c20 c21 R3 HL3 HK3 Hb3
  obtain ⟨c20, c21⟩ := S4
  go_wp2_with fail
  refine (heldLine_any _ _ _ _ _ _ HL4.out h5 hm).mono ?_
  rintro e w5 ⟨rfl, hb5⟩
  have R5 := R4.below hb5
  have S5 := (Room2.mk c20 c21).below hb5
  have HK5 := Lib.hid (HK4.out.below hb5)
  have HL5 := Lib.hid (HL4.out.below hb5)
  have Hb5 := Lib.hid (below_seq Hb4.out hb5)
  have q1 : decide (1 + 3 * (n : Int) + m < 0) = false := decide_eq_false (by omega)
  have q2 : ¬ (1 + 3 * (n : Int) + m < 0) := by omega
  clear hb5 Hb4 R4 c20 c21 HL4 HK4
  go_wp2_with fail
  refine (implLineNew_yes n m _ h1 h5 hm).mono ?_
  rintro e w6 ⟨g6, k6, rfl, ho6, ht6, hne6, hb6⟩
  have HM6 : Hid (OwnL (w6.alloc (.cells #[.slice (some ⟨g6, 0, none⟩) n n, .slice (some ⟨k6, 0, none⟩) m m] 38)) w5.heap.size g6 n k6 m (List.replicate n (0, false, false)) (List.replicate m 0)) := OwnL.below ⟨ho6, ht6, hne6⟩ ((Below.refl _ _).alloc (Nat.le_refl _) _)
  have HL6 := Lib.hid ((HL5.out.below hb6).below ((Below.refl _ _).alloc (Nat.le_refl _) (.cells #[.slice (some ⟨g6, 0, none⟩) n n, .slice (some ⟨k6, 0, none⟩) m m] 38)))
  have HK6 := Lib.hid ((HK5.out.below hb6).below ((Below.refl _ _).alloc (Nat.le_refl _) (.cells #[.slice (some ⟨g6, 0, none⟩) n n, .slice (some ⟨k6, 0, none⟩) m m] 38)))
  have R6 := (R5.below hb6).alloc (.cells #[.slice (some ⟨g6, 0, none⟩) n n, .slice (some ⟨k6, 0, none⟩) m m] 38)
  have S6 := (S5.below hb6).alloc (.cells #[.slice (some ⟨g6, 0, none⟩) n n, .slice (some ⟨k6, 0, none⟩) m m] 38)
  have hlt6 : b1 < w6.heap.size := (R5.below hb6).lt
  have Hb6 := Lib.hid (below_alloc (below_seq Hb5.out hb6) (.cells #[.slice (some ⟨g6, 0, none⟩) n n, .slice (some ⟨k6, 0, none⟩) m m] 38))
  clear hb6 Hb5 R5 S5 HL5 HK5 ho6 ht6 hne6
  obtain ⟨c10, c11⟩ := R6
  go_wp2_with fail
  refine (eqLine_same _ _ _ _ _ _ _ _ _ _ _ HM6.out HK6.out h5 hm).mono ?_
  rintro e w7 ⟨rfl, hb7⟩
  have S7 := S6.below hb7
  have HL7 := Lib.hid (HL6.out.below hb7)
  have Hb7 := Lib.hid (below_seq Hb6.out hb7)
  clear hb7 Hb6 c10 c11 S6 HL6 HK6 HM6
  obtain ⟨c20, c21⟩ := S7
  go_wp2_with fail
  refine (heldLine_any _ _ _ _ _ _ HL7.out h5 hm).mono ?_
  rintro e w8 ⟨rfl, hb8⟩
  have Hb8 := Lib.hid (below_seq Hb7.out hb8)
  clear hb8 Hb7 c20 c21
  go_wp2_with fail
  go_ret
  exact ⟨rfl, Hb8.out⟩
theorem FnExactLineNew_walk (w : World) (n : Int) (wn : (Lit.int .i64 n).wf = true) (m : Int) (wm : (Lit.int .i64 m).wf = true) :
    Calls Try.prog 5 #[.int .i64 n, .int .i64 m] w fun e w' => e = .returned (.bool true) ∧ Below w.heap.size w w' := by
  by_cases h : 1 ≤ n ∧ n ≤ 5 ∧ 0 ≤ m ∧ m ≤ 5
  · obtain ⟨h1, h5, h0, hm⟩ := h
    obtain ⟨a, rfl⟩ := Int.eq_ofNat_of_zero_le (a := n) (by omega)
    obtain ⟨b, rfl⟩ := Int.eq_ofNat_of_zero_le h0
    exact FnExactLineNew_yes w a b (by omega) (by omega) (by omega)
  · exact FnExactLineNew_no w n m h
end Go.Proofs.Ytmplanlppjebnaa
