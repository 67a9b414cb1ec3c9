/-
  The walk of the law FnExactPathRun: it returns true for every argument and leaves old memory as it was.
  Conditions: none.
-/
import Derived.Test.YtpfgjkgjeejghaaPathA
namespace Go.Proofs.Ytpfgjkgjeejghaa
open Go.RowKit
set_option linter.unusedVariables false
attribute [local go_sem ↓] Go.wp_at_zero Go.wp_at_succ

/-- What the law of runs holds on to: the reference's path, the copy handed to the program, the program's path. -/
structure Rb (w : World) (b5 b8 B7 B8 : Nat) (G1 : Option Addr) (k1 c1 : Nat) (H1 : Option Addr) (l1 d1 : Nat) (X : Option Addr) (n : Nat) (G2 : Option Addr) (k2 c2 : Nat) (H2 : Option Addr) (l2 d2 : Nat) (is os xs gs hs : List Int) (V : World) : Prop where
  bel : Below w.heap.size w V
  r5 : Room2 V b5 (.slice G1 k1 c1) (.slice H1 l1 d1)
  r8 : Room2 V b8 (.slice G2 k2 c2) (.slice H2 l2 d2)
  o5 : OwnP V w.heap.size G1 k1 c1 is H1 l1 d1 os
  o7 : V.ownsRow B7 3 1 (.slice X n n) n (xs.map (Value.int .i64))
  o8 : OwnP V B8 G2 k2 c2 gs H2 l2 d2 hs
  n5 : ∀ g, (Value.slice G1 k1 c1).ownBlock = some g → g < b5
  m5 : ∀ g, (Value.slice H1 l1 d1).ownBlock = some g → g < b5
  n7 : ∀ g, (Value.slice X n n).ownBlock = some g → g < B8
  n8 : ∀ g, (Value.slice G2 k2 c2).ownBlock = some g → g < b8
  m8 : ∀ g, (Value.slice H2 l2 d2).ownBlock = some g → g < b8
  p0 : w.heap.size ≤ b5
  p1 : b5 < B7
  p2 : B7 ≤ B8
  p3 : B8 ≤ b8
section
variable {w : World} {b5 b8 B7 B8 : Nat} {G1 : Option Addr} {k1 c1 : Nat} {H1 : Option Addr} {l1 d1 : Nat} {X : Option Addr} {n : Nat} {G2 : Option Addr} {k2 c2 : Nat} {H2 : Option Addr} {l2 d2 : Nat} {is os xs gs hs : List Int} {V V' : World}
theorem Rb.below (h : Rb w b5 b8 B7 B8 G1 k1 c1 H1 l1 d1 X n G2 k2 c2 H2 l2 d2 is os xs gs hs V) (hb : Below V.heap.size V V') : Rb w b5 b8 B7 B8 G1 k1 c1 H1 l1 d1 X n G2 k2 c2 H2 l2 d2 is os xs gs hs V' :=
  ⟨below_seq h.bel hb, h.r5.later hb, h.r8.later hb, h.o5.below hb, own_belowAll h.o7 hb, h.o8.below hb, h.n5, h.m5, h.n7, h.n8, h.m8, h.p0, h.p1, h.p2, h.p3⟩
theorem Rb.mark7 {ys : List Int} (h : Rb w b5 b8 B7 B8 G1 k1 c1 H1 l1 d1 X n G2 k2 c2 H2 l2 d2 is os xs gs hs V) (hg : V.grownBy V' (Value.slice X n n).ownBlock) (ho : V'.ownsRow B7 3 1 (.slice X n n) n (ys.map (Value.int .i64))) : Rb w b5 b8 B7 B8 G1 k1 c1 H1 l1 d1 X n G2 k2 c2 H2 l2 d2 is os ys gs hs V' := by
  have hc := Chg.of_grown hg
  have p0 := h.p0
  have p1 := h.p1
  have p2 := h.p2
  have p3 := h.p3
  have lo : ∀ i, some i = (Value.slice X n n).ownBlock → B7 ≤ i ∧ i < B8 := fun i e => ⟨(h.o7.lt i e.symm).1, h.n7 i e.symm⟩
  exact ⟨Chg.on h.bel hc (fun i _ e => by have := lo i e; omega) h.bel.size, h.r5.chg hc (fun e => by have := lo _ e; omega), h.r8.chg hc (fun e => by have := lo _ e; omega),
    h.o5.chg hc (fun g e e' => by have := lo _ e'; have := h.n5 g e; omega) (fun g e e' => by have := lo _ e'; have := h.m5 g e; omega), ho,
    h.o8.chg hc (fun g e e' => by have := lo _ e'; have := (h.o8.1.lt g e).1; omega) (fun g e e' => by have := lo _ e'; have := (h.o8.2.1.lt g e).1; omega), h.n5, h.m5, h.n7, h.n8, h.m8, h.p0, h.p1, h.p2, h.p3⟩
theorem Rb.mark8 {gs2 hs2 : List Int} (h : Rb w b5 b8 B7 B8 G1 k1 c1 H1 l1 d1 X n G2 k2 c2 H2 l2 d2 is os xs gs hs V) (hc : Chg (fun k => some k = (Value.slice G2 k2 c2).ownBlock ∨ some k = (Value.slice H2 l2 d2).ownBlock) V V') (ho : OwnP V' B8 G2 k2 c2 gs2 H2 l2 d2 hs2) : Rb w b5 b8 B7 B8 G1 k1 c1 H1 l1 d1 X n G2 k2 c2 H2 l2 d2 is os xs gs2 hs2 V' := by
  have p0 := h.p0
  have p1 := h.p1
  have p2 := h.p2
  have p3 := h.p3
  have lo : ∀ i, (some i = (Value.slice G2 k2 c2).ownBlock ∨ some i = (Value.slice H2 l2 d2).ownBlock) → B8 ≤ i ∧ i < b8 := by
    rintro i (e | e)
    · exact ⟨(h.o8.1.lt i e.symm).1, h.n8 i e.symm⟩
    · exact ⟨(h.o8.2.1.lt i e.symm).1, h.m8 i e.symm⟩
  exact ⟨Chg.on h.bel hc (fun i _ e => by have := lo i e; omega) h.bel.size, h.r5.chg hc (fun e => by have := lo _ e; omega), h.r8.chg hc (fun e => by have := lo _ e; omega),
    h.o5.chg hc (fun g e e' => by have := lo _ e'; have := h.n5 g e; omega) (fun g e e' => by have := lo _ e'; have := h.m5 g e; omega),
    hc.own h.o7 (fun g e e' => by have := lo _ e'; have := h.n7 g e; omega), ho, h.n5, h.m5, h.n7, h.n8, h.m8, h.p0, h.p1, h.p2, h.p3⟩
end
theorem Pt.run_len (s : Int) (rs : List Int) : (Pt.runI s rs).length ≤ 5 ∧ (Pt.runO s rs).length ≤ 5 := by
  unfold Pt.runI Pt.runO
  by_cases h : Pt.runOk s rs = true
  · rw [if_pos h, if_pos h, Pt.ins_len, Pt.outs_len]
    unfold Pt.runOk Pt.runsOk at h
    simp only [Bool.and_eq_true, decide_eq_true_eq] at h
    omega
  · rw [if_neg h, if_neg h]; simp

set_option maxRecDepth 100000 in
set_option maxHeartbeats 16000000 in
theorem FnExactPathRun_walk (w : World) (s : Int) (ws : (Lit.int .i64 s).wf = true) (A : Option Addr) (n c : Nat) (rs : List Int) (hx : RdI w A n rs) (hl : n ≤ c) (hc : c ≤ maxLen) (hwx : ∀ z ∈ rs, (Lit.int .i64 z).wf = true) :
    Calls Try.prog 7 #[.int .i64 s, .slice A n c] w fun e w' => e = .returned (.bool true) ∧ Below w.heap.size w w' := by
  clear ws hwx
  have HX := Lib.hid hx
  have Hl := Lib.hid hx.len
  have hnm : n ≤ 9223372036854775807 := by unfold maxLen at hc; omega
  clear hx hl hc
  by_cases hbig : 1048576 < n
  · go_enter Try.func7, Try.ntmps7
    go_wp2_with fail
    go_ret
    exact ⟨rfl, Below.refl _ _⟩
  · have hn : n ≤ 1048576 := by omega
    clear hbig hnm
    have HLEN := Lib.hid (Pt.run_len s rs)
    obtain ⟨is, his⟩ : ∃ is, Pt.runI s rs = is := ⟨_, rfl⟩
    obtain ⟨os, hos⟩ : ∃ os, Pt.runO s rs = os := ⟨_, rfl⟩
    have HI := Lib.hid (And.intro his hos)
    have HL : Hid (is.length ≤ 5 ∧ os.length ≤ 5) := by rw [← his, ← hos]; exact HLEN.out
    clear his hos HLEN
    go_enter Try.func7, Try.ntmps7
    go_wp2_with fail
    refine (toIntS_any _ _ _ rs _ HX.out (by omega)).mono ?_
    rintro e w1 ⟨rfl, ho1, hb1⟩
    have HX1 := Lib.hid (RdI.of_own ho1)
    have Hb1 := Lib.hid hb1
    clear ho1 hb1
    go_wp2_with fail
    refine (specPathRun_any _ _ _ rs s _ HX1.out (by omega)).mono ?_
    rintro e w2 ⟨G1, k1, c1, H1, l1, d1, rfl, ho2, hb2⟩
    rw [HI.out.1, HI.out.2] at ho2
    have HO2 := Lib.hid (ho2.base Hb1.out.size)
    have Hb2 := Lib.hid (below_seq Hb1.out hb2)
    have hk1 : k1 ≤ 5 := by have h1 := ho2.1.1; simp at h1; have := HL.out; omega
    have hl1 : l1 ≤ 5 := by have h1 := ho2.2.1.1; simp at h1; have := HL.out; omega
    clear ho2 hb2 HX1 Hb1
    have HR3 : Hid (Room2 (w2.alloc (.cells #[.slice G1 k1 c1, .slice H1 l1 d1] 28)) w2.heap.size (.slice G1 k1 c1) (.slice H1 l1 d1)) := room2_new _ _ _ _
    have HO3 := Lib.hid (HO2.out.alloc (.cells #[.slice G1 k1 c1, .slice H1 l1 d1] 28))
    have Hb3 := Lib.hid (Hb2.out.alloc Hb2.out.size (.cells #[.slice G1 k1 c1, .slice H1 l1 d1] 28))
    have Hz3 : Hid ((w2.alloc (.cells #[.slice G1 k1 c1, .slice H1 l1 d1] 28)).heap.size = w2.heap.size + 1) := by unfold Hid; simp
    go_wp2_with fail
    generalize w2.alloc (.cells #[.slice G1 k1 c1, .slice H1 l1 d1] 28) = w3 at HR3 HO3 Hb3 Hz3 ⊢
    refine (toIntS_any _ _ _ rs _ (RdI.below HX.out Hb3.out) (by omega)).mono ?_
    rintro e w4 ⟨rfl, ho4, hb4⟩
    have HR4 := Lib.hid (HR3.out.later hb4)
    have HP4 := Lib.hid (HO3.out.below hb4)
    have Hb4 := Lib.hid (below_seq Hb3.out hb4)
    have HO4 := Lib.hid ho4
    have Hz4 : Hid (w3.heap.size ≤ w4.heap.size) := hb4.size
    clear ho4 hb4
    go_wp2_with fail
    refine (implPathRun_any _ _ _ rs s _ (RdI.of_own HO4.out) (by omega)).mono ?_
    rintro e w5 ⟨G2, k2, c2, H2, l2, d2, rfl, ho5, hb5⟩
    rw [HI.out.1, HI.out.2] at ho5
    have hk2 : k2 ≤ 5 := by have h1 := ho5.1.1; simp at h1; have := HL.out; omega
    have hl2 : l2 ≤ 5 := by have h1 := ho5.2.1.1; simp at h1; have := HL.out; omega
    have HC : Hid (Rb w w2.heap.size w5.heap.size w3.heap.size w4.heap.size G1 k1 c1 H1 l1 d1 (some ⟨w3.heap.size, 0, none⟩) n G2 k2 c2 H2 l2 d2 is os rs is os (w5.alloc (.cells #[.slice G2 k2 c2, .slice H2 l2 d2] 28))) := by
      have bb : Below w5.heap.size w5 (w5.alloc (.cells #[.slice G2 k2 c2, .slice H2 l2 d2] 28)) := (Below.refl _ _).alloc (Nat.le_refl _) _
      exact ⟨below_seq (below_seq Hb4.out hb5) bb, (HR4.out.later hb5).later bb, room2_new _ _ _ _, (HP4.out.below hb5).below bb, own_belowAll (own_belowAll HO4.out hb5) bb, ho5.below bb,
        fun g e => (HO2.out.1.lt g e).2, fun g e => (HO2.out.2.1.lt g e).2, fun g e => (HO4.out.lt g e).2, fun g e => (ho5.1.lt g e).2, fun g e => (ho5.2.1.lt g e).2, Hb2.out.size, by have := Hz3.out; omega, Hz4.out, hb5.size⟩
    clear ho5 hb5 HR3 HO3 Hb3 HR4 HP4 Hb4 HO4 Hz4 HO2 Hb2 Hz3
    obtain ⟨q0, q1, _, _⟩ := HC.out.r5
    have hlt : w2.heap.size < w5.heap.size := by have h1 := HC.out.p1; have h2 := HC.out.p2; have h3 := HC.out.p3; omega
    have q0' : w5.cell? ⟨w2.heap.size, 0, none⟩ = some (.slice G1 k1 c1) := by rw [World.cell?_alloc_lt _ _ _ hlt] at q0; exact q0
    have q1' : w5.cell? ⟨w2.heap.size, 1, none⟩ = some (.slice H1 l1 d1) := by rw [World.cell?_alloc_lt _ _ _ hlt] at q1; exact q1
    clear q0 q1
    go_wp2_with fail
    generalize w5.alloc (.cells #[.slice G2 k2 c2, .slice H2 l2 d2] 28) = w6 at HC ⊢
    clear q0' q1'
    refine (eqPath_same _ _ _ _ _ _ _ _ _ _ _ _ is os _ HC.out.o8.rd0 HC.out.o8.rd1 HC.out.o5.rd0 HC.out.o5.rd1 (by omega) (by omega)).mono ?_
    rintro e w7 ⟨rfl, hb7⟩
    have HC7 := Lib.hid (HC.out.below hb7)
    clear hb7 HC
    go_wp2_with fail
    refine (toIntS_any _ _ _ rs _ (RdI.below HX.out HC7.out.bel) (by omega)).mono ?_
    rintro e w8 ⟨rfl, ho8, hb8⟩
    have HC8 := Lib.hid (HC7.out.below hb8)
    have HX8 := Lib.hid (RdI.of_own ho8)
    clear ho8 hb8 HC7
    go_wp2_with fail
    refine (eqIntS_any _ _ _ _ _ _ rs rs _ (RdI.of_own HC8.out.o7) HX8.out (by omega)).mono ?_
    rintro e w9 ⟨rfl, m9, rfl⟩
    rw [decide_eq_true (rfl : rs = rs)]
    have HC9 := Lib.hid (HC8.out.below (below_of_drewN _ _ m9))
    generalize w8.drewN m9 = w9 at HC9 ⊢
    clear HC8 HX8
    go_wp2_with fail
    refine (markIntS_any _ _ _ rs _ _ _ HC9.out.o7 (by omega) (by omega) (by omega)).mono ?_
    rintro e w10 ⟨rfl, ho10, hg10⟩
    have HC10 := Lib.hid (HC9.out.mark7 hg10 ho10)
    clear ho10 hg10 HC9
    obtain ⟨q0, q1, _, _⟩ := HC10.out.r5
    obtain ⟨t0, t1, _, _⟩ := HC10.out.r8
    go_wp2_with fail
    refine (eqPath_same _ _ _ _ _ _ _ _ _ _ _ _ is os _ HC10.out.o8.rd0 HC10.out.o8.rd1 HC10.out.o5.rd0 HC10.out.o5.rd1 (by omega) (by omega)).mono ?_
    rintro e w11 ⟨rfl, hb11⟩
    have HC11 := Lib.hid (HC10.out.below hb11)
    clear hb11 HC10 q0 q1 t0 t1
    obtain ⟨t0, t1, _, _⟩ := HC11.out.r8
    go_wp2_with fail
    refine (markPath_any _ _ _ _ _ _ is os _ _ _ HC11.out.o8 (by omega) (by omega) (by omega) (by omega)).mono ?_
    rintro e w12 ⟨rfl, ho12, hc12⟩
    have HC12 := Lib.hid (HC11.out.mark8 hc12 ho12)
    clear ho12 hc12 HC11 t0 t1
    obtain ⟨t0, t1, _, _⟩ := HC12.out.r8
    go_wp2_with fail
    refine (heldPath_any _ _ _ _ _ _ _ _ HC12.out.o8.rd0 HC12.out.o8.rd1 (by omega) (by omega) (by omega) (by omega)).mono ?_
    rintro e w13 ⟨rfl, hb13⟩
    have HC13 := Lib.hid (HC12.out.below hb13)
    clear hb13 HC12 t0 t1
    go_wp2_with fail
    refine (toIntS_any _ _ _ rs _ (RdI.below HX.out HC13.out.bel) (by omega)).mono ?_
    rintro e w14 ⟨rfl, ho14, hb14⟩
    have HC14 := Lib.hid (HC13.out.below hb14)
    have HX14 := Lib.hid (RdI.of_own ho14)
    clear ho14 hb14 HC13
    go_wp2_with fail
    refine (implPathRun_any _ _ _ rs s _ HX14.out (by omega)).mono ?_
    rintro e w15 ⟨G3, k3, c3, H3, l3, d3, rfl, ho15, hb15⟩
    rw [HI.out.1, HI.out.2] at ho15
    have hk3 : k3 ≤ 5 := by have h1 := ho15.1.1; simp at h1; have := HL.out; omega
    have hl3 : l3 ≤ 5 := by have h1 := ho15.2.1.1; simp at h1; have := HL.out; omega
    have HC15 := Lib.hid (HC14.out.below hb15)
    have HC16 := Lib.hid (HC15.out.below ((Below.refl _ _).alloc (Nat.le_refl _) (.cells #[.slice G3 k3 c3, .slice H3 l3 d3] 28)))
    have HO16 := Lib.hid (ho15.alloc (.cells #[.slice G3 k3 c3, .slice H3 l3 d3] 28))
    clear ho15 hb15 HC14 HX14
    obtain ⟨q0, q1, _, _⟩ := HC15.out.r5
    have hlt2 : w2.heap.size < w15.heap.size := HC15.out.r5.lt
    go_wp2_with fail
    generalize w15.alloc (.cells #[.slice G3 k3 c3, .slice H3 l3 d3] 28) = w16 at HC16 HO16 ⊢
    clear q0 q1 HC15
    refine (eqPath_same _ _ _ _ _ _ _ _ _ _ _ _ is os _ HO16.out.rd0 HO16.out.rd1 HC16.out.o5.rd0 HC16.out.o5.rd1 (by omega) (by omega)).mono ?_
    rintro e w17 ⟨rfl, hb17⟩
    have HC17 := Lib.hid (HC16.out.below hb17)
    clear hb17 HC16
    obtain ⟨t0, t1, _, _⟩ := HC17.out.r8
    go_wp2_with fail
    refine (heldPath_any _ _ _ _ _ _ _ _ HC17.out.o8.rd0 HC17.out.o8.rd1 (by omega) (by omega) (by omega) (by omega)).mono ?_
    rintro e w18 ⟨rfl, hb18⟩
    have Hb18 := Lib.hid (below_seq HC17.out.bel hb18)
    clear hb18 HC17 t0 t1
    go_wp2_with fail
    go_ret
    exact ⟨rfl, Hb18.out⟩
end Go.Proofs.Ytpfgjkgjeejghaa
