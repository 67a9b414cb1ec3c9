/-
  Contract of the reference's l92Moves: what is drawn is some list of at most twelve moves with letters of one byte.
  Conditions: fewer than 900000 numbers have been drawn; the line's rows are younger than the source.
-/
import Derived.Test.YtmplanlppjebnaaDl6
import Derived.Test.YtmplanlppjebnaaDraw
import Derived.Maps.AppendAt
namespace Go.Proofs.Ytmplanlppjebnaa
open Go.RowKit
set_option linter.unusedVariables false
set_option linter.unusedSimpArgs false
attribute [local go_sem ↓] Go.wp_at_zero Go.wp_at_succ

theorem gr_trans {a b c : World} {row : Option Nat} (h : a.grownBy b row) (k : b.grownBy c row) : a.grownBy c row :=
  ⟨k.os.trans h.os, k.tape.trans h.tape, k.output.trans h.output, Nat.le_trans h.size k.size, fun i hi hne => (k.block i (Nat.lt_of_lt_of_le hi h.size) hne).trans (h.block i hi hne)⟩
theorem gr_new {a b c : World} {row row' : Option Nat} (h : a.grownBy b row) (k : b.grownBy c row') (hr : ∀ r, row' = some r → a.heap.size ≤ r) : a.grownBy c row :=
  ⟨k.os.trans h.os, k.tape.trans h.tape, k.output.trans h.output, Nat.le_trans h.size k.size, fun i hi hne => (k.block i (Nat.lt_of_lt_of_le hi h.size) (fun e => by have := hr i e.symm; omega)).trans (h.block i hi hne)⟩
theorem gr_below {a b c : World} {row : Option Nat} {B : Nat} (h : a.grownBy b row) (k : Below B b c) (hB : a.heap.size ≤ B) : a.grownBy c row :=
  ⟨k.os.trans h.os, k.tape.trans h.tape, k.output.trans h.output, Nat.le_trans h.size k.size, fun i hi hne => (k.block i (by omega)).trans (h.block i hi hne)⟩
theorem gr_belowAll {a b c : World} {row : Option Nat} (h : a.grownBy b row) (k : Below b.heap.size b c) : a.grownBy c row := gr_below h k h.size
theorem cell_same' {w w' : World} {B j : Nat} (h : w'.heap[B]? = w.heap[B]?) : w'.cell? ⟨B, j, none⟩ = w.cell? ⟨B, j, none⟩ := by simp [World.cell?, h]
theorem frozen_same' {w w' : World} {B j : Nat} (h : w'.heap[B]? = w.heap[B]?) : w'.frozen? ⟨B, j, none⟩ = w.frozen? ⟨B, j, none⟩ := by simp [World.frozen?, h]
theorem RmF.grown {w w' : World} {b : Nat} {u v : Value} {row : Option Nat} (r : RmF w b u v) (hg : w.grownBy w' row) (hr : row ≠ some b) : RmF w' b u v := by
  have h := hg.block b r.lt (Ne.symm hr)
  exact ⟨(cell_same' h).trans r.c0, (cell_same' h).trans r.c1, (frozen_same' h).trans r.f0, (frozen_same' h).trans r.f1⟩
theorem RdW.grown {w w' : World} {A : Option Addr} {n : Nat} {xs : List B3} {row : Option Nat} (h : RdW w A n xs) (hg : w.grownBy w' row) (hr : ∀ a, 0 < n → A = some a → some a.block ≠ row) : RdW w' A n xs :=
  h.keep fun b off j _ h0 e hq => hg.cell (a := ⟨b, j, none⟩) hq (show some b ≠ row from hr _ h0 e)
theorem LnA.grown {w w' : World} {A : Option Addr} {n : Nat} {B : Option Addr} {m : Nat} {xs : List B3} {zs : List Int} {row : Option Nat} (h : LnA w A n B m xs zs) (hg : w.grownBy w' row) (h1 : ∀ a, 0 < n → A = some a → some a.block ≠ row) (h2 : ∀ a, 0 < m → B = some a → some a.block ≠ row) : LnA w' A n B m xs zs :=
  ⟨h.bl.grown hg h1, Rd.grown h.tr hg (fun h0 a e => h2 a h0 e), h.hn, h.hm, h.hb⟩
theorem LnA.old {w : World} {A : Option Addr} {n : Nat} {B : Option Addr} {m : Nat} {xs : List B3} {zs : List Int} (h : LnA w A n B m xs zs) : (∀ a, 0 < n → A = some a → a.block < w.heap.size) ∧ (∀ a, 0 < m → B = some a → a.block < w.heap.size) := by
  refine ⟨fun a h0 e => ?_, fun a h0 e => ?_⟩
  · obtain ⟨b, off, p, e', _, hc, _⟩ := h.bl.at_ h0
    rw [e] at e'; cases e'
    exact block_lt_of_cell hc
  · obtain ⟨b, off, p, e', _, hc⟩ := RdI.at_ h.tr h0
    rw [e] at e'; cases e'
    exact block_lt_of_cell hc
theorem one_cells (w : World) (v0 v1 : Value) (t : TypeId) : ∀ (j : Nat) (u : Value), [v0, v1][j]? = some u → (w.alloc (.cells #[v0, v1] t)).cell? ((⟨w.heap.size, 0, none⟩ : Addr).add j) = some u := by
  intro j u hj
  match j, hj with
  | 0, hj => simp at hj; subst hj; simp [Addr.add, go_sem]
  | 1, hj => simp at hj; subst hj; simp [Addr.add, go_sem]
theorem gwb (w : World) (b : Nat) (u v : Value) : w.grownBy ((w.setCell ⟨b, 0, none⟩ u).setCell ⟨b, 1, none⟩ v) (some b) :=
  ⟨rfl, rfl, rfl, by simp, fun i _ hi => (heap_setCell_other _ ⟨b, 1, none⟩ i _ (fun e => hi (by rw [e]))).trans (heap_setCell_other _ ⟨b, 0, none⟩ i _ (fun e => hi (by rw [e])))⟩
/-- A line that lies in the box b, its rows younger than L, in other blocks than b and go. -/
def LBox (w : World) (L b go : Nat) : Prop := ∃ A n c B m d xs zs, RmF w b (.slice A n c) (.slice B m d) ∧ LnA w A n B m xs zs ∧ (∀ a, 0 < n → A = some a → L ≤ a.block ∧ a.block ≠ b ∧ a.block ≠ go) ∧ (∀ a, 0 < m → B = some a → L ≤ a.block ∧ a.block ≠ b ∧ a.block ≠ go)
theorem LBox.lt {w : World} {L b go : Nat} (h : LBox w L b go) : b < w.heap.size := let ⟨_, _, _, _, _, _, _, _, r, _⟩ := h; r.lt
theorem LBox.below {w w' : World} {L b go : Nat} (h : LBox w L b go) (hb : Below w.heap.size w w') : LBox w' L b go :=
  let ⟨A, n, c, B, m, d, xs, zs, r, l, q⟩ := h
  ⟨A, n, c, B, m, d, xs, zs, r.below hb, l.below hb, q⟩
theorem LBox.grown {w w' : World} {L b go g : Nat} (h : LBox w L b go) (hg : w.grownBy w' (some g)) (hgL : g < L) (hbL : L ≤ b) : LBox w' L b go :=
  let ⟨A, n, c, B, m, d, xs, zs, r, l, q1, q2⟩ := h
  ⟨A, n, c, B, m, d, xs, zs, r.grown hg (fun e => by have := Option.some.inj e; omega), l.grown hg (fun a h0 e k => by have := (q1 a h0 e).1; have := Option.some.inj k; omega) (fun a h0 e k => by have := (q2 a h0 e).1; have := Option.some.inj k; omega), q1, q2⟩
theorem LBox.app {w w' : World} {L b go go' : Nat} (h : LBox w L b go) (hg : w.grownBy w' (some go)) (hb : b ≠ go) (hgo : go' = go ∨ go' = w.heap.size) : LBox w' L b go' := by
  obtain ⟨A, n, c, B, m, d, xs, zs, r, l, q1, q2⟩ := h
  obtain ⟨o1, o2⟩ := l.old
  refine ⟨A, n, c, B, m, d, xs, zs, r.grown hg (fun e => hb (Option.some.inj e).symm), l.grown hg (fun a h0 e k => (q1 a h0 e).2.2 (Option.some.inj k)) (fun a h0 e k => (q2 a h0 e).2.2 (Option.some.inj k)), fun a h0 e => ?_, fun a h0 e => ?_⟩
  · obtain ⟨k1, k2, k3⟩ := q1 a h0 e
    have := o1 a h0 e
    exact ⟨k1, k2, by rcases hgo with h | h <;> omega⟩
  · obtain ⟨k1, k2, k3⟩ := q2 a h0 e
    have := o2 a h0 e
    exact ⟨k1, k2, by rcases hgo with h | h <;> omega⟩
theorem LBox.put {w : World} {L b go S n c m d : Nat} {A B : Option Addr} {u v : Value} (r : RmF w b u v) (h : LinR S w (liv A n c B m d)) (hb : b < S) (hgo : go < S) (hL : L ≤ S) :
    LBox ((w.setCell ⟨b, 0, none⟩ (.slice A n c)).setCell ⟨b, 1, none⟩ (.slice B m d)) L b go := by
  obtain ⟨A', n', c', B', m', d', xs, zs, e, l, q1, q2⟩ := (h.far (y := b) (o := 0) hb (.slice A n c)).far (y := b) (o := 1) hb (.slice B m d)
  simp only [liv, Value.agg.injEq, Array.mk.injEq, List.cons.injEq, Value.slice.injEq, and_true] at e
  obtain ⟨⟨rfl, rfl, rfl⟩, rfl, rfl, rfl⟩ := e
  exact ⟨_, _, _, _, _, _, xs, zs, r.put _ _, l, fun a h0 e => by have := q1 a h0 e; exact ⟨by omega, by omega, by omega⟩, fun a h0 e => by have := q2 a h0 e; exact ⟨by omega, by omega, by omega⟩⟩
/-- The moves that are drawn so far. -/
def OutM (w : World) (B go j cap : Nat) : Prop := ∃ ms, One ms ∧ w.ownsRow B 28 2 (.slice (some ⟨go, 0, none⟩) j cap) j (flat ms)
theorem OutM.below {w w' : World} {B go j cap : Nat} (h : OutM w B go j cap) (hb : Below w.heap.size w w') : OutM w' B go j cap := let ⟨ms, h1, h2⟩ := h; ⟨ms, h1, own_belowAll h2 hb⟩
theorem OutM.lt {w : World} {B go j cap : Nat} (h : OutM w B go j cap) : B ≤ go ∧ go < w.heap.size := let ⟨ms, h1, h2⟩ := h; h2.lt go rfl
theorem OutM.grown {w w' : World} {B go j cap r : Nat} (h : OutM w B go j cap) (hg : w.grownBy w' (some r)) (hr : r < B) : OutM w' B go j cap := let ⟨ms, h1, h2⟩ := h; ⟨ms, h1, own_kept h2 hg (fun a b e1 e2 => by
  have h3 := (h2.lt go rfl).1
  have e3 : go = a := Option.some.inj e1
  have e4 : r = b := Option.some.inj e2
  omega)⟩
set_option maxRecDepth 100000 in
set_option maxHeartbeats 4000000 in
theorem l92Moves_any (L g p : Nat) (A : Option Addr) (n c : Nat) (B : Option Addr) (m d : Nat) (w : World) (hs : Src w L g p) (hp : p ≤ 900000) (h : LinR L w (liv A n c B m d)) :
    Calls Try.prog 27 #[.pointer (some ⟨g, 0, none⟩), liv A n c B m d] w fun e w' => ∃ go k cap p', e = .returned (.slice (some ⟨go, 0, none⟩) k cap) ∧ k ≤ 13 ∧ OutM w' w.heap.size go k cap ∧ p' ≤ p + 20 ∧ Src w' L g p' ∧ w.grownBy w' (some g) := by
  have hgL := hs.1
  have hLw := hs.2.1
  have HX0 : Hid (LBox ((w.alloc (.cells #[.slice A n c, .slice B m d] 38)).alloc (.cells #[] 28)) L w.heap.size (w.heap.size + 1)) := by
    obtain ⟨A', n', c', B', m', d', xs, zs, e, l, q1, q2⟩ := h
    simp only [liv, Value.agg.injEq, Array.mk.injEq, List.cons.injEq, Value.slice.injEq, and_true] at e
    obtain ⟨⟨rfl, rfl, rfl⟩, rfl, rfl, rfl⟩ := e
    obtain ⟨o1, o2⟩ := l.old
    exact ⟨_, _, _, _, _, _, xs, zs, (RmF.new w _ _ _).alloc _, (l.below (bl1 w _)).below (bl1 _ _), fun a h0 e => by have := q1 a h0 e; have := o1 a h0 e; exact ⟨by omega, by omega, by omega⟩, fun a h0 e => by have := q2 a h0 e; have := o2 a h0 e; exact ⟨by omega, by omega, by omega⟩⟩
  have HO0 : Hid (OutM ((w.alloc (.cells #[.slice A n c, .slice B m d] 38)).alloc (.cells #[] 28)) (w.heap.size + 1) (w.heap.size + 1) 0 0) := by
    have h1 := World.ownsRow_lit (e := 28) (size := 2) (base := w.heap.size + 1) (w.alloc (.cells #[.slice A n c, .slice B m d] 38)) #[] 0 (by simp) (by unfold maxLen; omega) rfl
    simp only [World.size_alloc] at h1
    exact ⟨[], fun p hp => by simp at hp, h1⟩
  have HS0 : Hid (Src ((w.alloc (.cells #[.slice A n c, .slice B m d] 38)).alloc (.cells #[] 28)) L g p) := (hs.alloc _).alloc _
  have HG0 : Hid (w.grownBy ((w.alloc (.cells #[.slice A n c, .slice B m d] 38)).alloc (.cells #[] 28)) (some g)) := gr_belowAll (gr_belowAll (World.grownBy.refl w _) (bl1 _ _)) (bl1 _ _)
  obtain ⟨i0, hi, hz0, hz1, hz2⟩ := info_parts Try.infoMove
  have HI := Lib.hid (And.intro hi (And.intro hz0 (And.intro hz1 hz2)))
  clear hs h hi hz0 hz1 hz2
  go_enter Try.func27, Try.ntmps27
  go_wp2_with fail
  generalize (w.alloc (.cells #[.slice A n c, .slice B m d] 38)).alloc (.cells #[] 28) = W at HX0 HO0 HS0 HG0 ⊢
  refine (pick_any L g p _ _ HS0.out (by omega) (by omega)).mono ?_
  rintro e w1 ⟨X, rfl, hX, _, hs1, hg1⟩
  obtain ⟨hX0, hX12⟩ := hX (by omega)
  have HX1 := Lib.hid (HX0.out.grown hg1 hgL hLw)
  have HO1 := Lib.hid (HO0.out.grown hg1 (by omega))
  have HS1 := Lib.hid hs1
  have HG1 := Lib.hid (gr_trans HG0.out hg1)
  clear hs1 hg1 hX HX0 HO0 HS0 HG0
  go_wp2_with fail
  go_loopw [5, 7] (fun o iv wr => ∃ j go cap : Nat, (j : Int) ≤ X ∧ iv = .int .i64 j ∧ o = .slice (some ⟨go, 0, none⟩) j cap ∧ Hid (OutM wr (w.heap.size + 1) go j cap) ∧ Hid (LBox wr L w.heap.size go) ∧ Hid (Src wr L g (p + 1 + j)) ∧ Hid (w.grownBy wr (some g))) (fun _ iv _ => X.toNat - (intOf iv).toNat)
  case atStart => exact ⟨0, w.heap.size + 1, 0, by omega, rfl, rfl, HO1.out, HX1.out, HS1.out, HG1.out⟩
  case round =>
    clear HO1 HX1 HS1 HG1
    obtain ⟨j, go, cap, hjX, rfl, rfl, HO, HX, HS, HG⟩ := hrel
    by_cases hlt : (j : Int) < X
    · obtain ⟨A1, n1, c1, B1, m1, d1, xs, zs, r, l, q⟩ := HX.out
      have HR := Lib.hid r
      have HL := Lib.hid l
      obtain ⟨r0, r1, f0, f1⟩ := r
      clear l q
      go_wp2_with fail
      refine (specLineMoves_any _ _ _ _ _ _ xs zs _ HL.out).mono ?_
      rintro e w2 ⟨gm, k, capm, ms, rfl, hk35, hom, hone, hb2⟩
      have HO2 := Lib.hid (HO.out.below hb2)
      have HX2 := Lib.hid (HX.out.below hb2)
      have HS2 := Lib.hid (HS.out.below hb2 HS.out.2.1)
      have HG2 := Lib.hid (gr_belowAll HG.out hb2)
      have HOM := Lib.hid hom
      have HONE := Lib.hid hone
      have HSR : Hid (L ≤ wr.heap.size) := HS.out.2.1
      clear hom hone HR HL r0 r1 f0 f1 HO HX HS HG
      by_cases hk0 : k = 0
      · subst hk0
        go_wp2_with fail
        go_ret
        obtain ⟨mo, ho1, ho2⟩ := HO2.out
        exact ⟨go, j, cap, p + 1 + j, rfl, by omega, ⟨mo, ho1, own_base ho2 (by omega)⟩, by omega, HS2.out, HG2.out⟩
      · have hk1 : ((k : Int) == 0) = false := by simp; omega
        go_wp2_with fail
        refine (pick_any L g (p + 1 + j) _ _ HS2.out (by omega) (by omega)).mono ?_
        rintro e w3 ⟨Y, rfl, hY, _, hs3, hg3⟩
        obtain ⟨hY0, hYk⟩ := hY (by omega)
        obtain ⟨y, rfl⟩ : ∃ y : Nat, Y = y := ⟨Y.toNat, by omega⟩
        have hyk : y < k := by omega
        have hwr : g < wr.heap.size := by have := HSR.out; omega
        have HO3 := Lib.hid (HO2.out.grown hg3 (by omega))
        have HX3 := Lib.hid (HX2.out.grown hg3 hgL hLw)
        have HG3 := Lib.hid (gr_trans HG2.out hg3)
        have HS3 := Lib.hid hs3
        have hom3 := own_kept HOM.out hg3 (fun a b e1 e2 => by
          have h3 := (HOM.out.lt gm rfl).1
          have e3 : gm = a := Option.some.inj e1
          have e4 : g = b := Option.some.inj e2
          omega)
        obtain ⟨mv, hmv⟩ : ∃ mv, ms[y]? = some mv := ⟨_, List.getElem?_eq_getElem (by have := HOM.out.1; rw [flat_len] at this; omega)⟩
        obtain ⟨c0, c1, _, _⟩ := own_at2 hom3 hmv
        have HT1 : Hid (mv.2.size = 1) := HONE.out mv (List.mem_of_getElem? hmv)
        obtain ⟨sc, lt⟩ := mv
        simp only at c0 c1 HT1
        have hk0' : (0 : Int) ≤ (y : Int) := by omega
        clear hmv hom3 hs3 hg3 hY hb2 HOM HONE HO2 HX2 HS2 HG2
        obtain ⟨mo, ho1, ho2⟩ := HO3.out
        have HMO := Lib.hid ho1
        have hgo3 := HO3.out.lt
        obtain ⟨hi, hz0, hz1, hz2⟩ := HI.out
        go_wp2_with (at_builtin; refine wpList_append_own_at _ rfl _ _ 23 rfl (w.heap.size + 1) 28 i0 (.agg #[.int .i64 0, .string ⟨#[]⟩]) 2 24 Try.underlying23 hi hz0 hz1 hz2 rfl (by decide) _ _ _ rfl ((ho2.alloc _).alloc _) ⟨w3.heap.size + 1, 0, none⟩ 1 1 [.int .i64 sc, .string lt] rfl rfl (two_cells w3 _ _ _ _) (two_one _ _) ?c3 ?c4 ?c5 ?_)
        case c3 => unfold maxLen; omega
        case c4 => omega
        case c5 => simp only [World.size_alloc]; omega
        intro v4 w4 hown4 hgrow4 hnz4 hat4
        obtain ⟨go', cap', rfl, _, hgo4⟩ := hown4.form (by omega)
        have hgo' : go' = go ∨ go' = w3.heap.size + 1 + 1 := by
          rcases hat4 with h | h
          · exact .inl (Option.some.inj h)
          · exact .inr (by have := Option.some.inj h; simpa only [World.size_alloc] using this)
        have HX4 := Lib.hid (((HX3.out.below (bl1 w3 (.cells #[.int .i64 sc, .string lt] 28))).below (bl1 _ (.cells #[.int .i64 sc, .string lt] 28))).app (go' := go') hgrow4 (by omega) (by simpa only [World.size_alloc] using hgo'))
        have HS4 := Lib.hid (((HS3.out.alloc (.cells #[.int .i64 sc, .string lt] 28)).alloc (.cells #[.int .i64 sc, .string lt] 28)).grown hgrow4 (fun r e => by have e1 : go = r := Option.some.inj e; omega))
        have HG4 := Lib.hid (gr_new (gr_belowAll (gr_belowAll HG3.out (bl1 w3 (.cells #[.int .i64 sc, .string lt] 28))) (bl1 _ (.cells #[.int .i64 sc, .string lt] 28))) hgrow4 (fun r e => by have e1 : go = r := Option.some.inj e; omega))
        have HM4 := Lib.hid (((RmF.new w3 (.int .i64 sc) (.string lt) 28).alloc (.cells #[.int .i64 sc, .string lt] 28)).grown hgrow4 (fun e => by have e1 : go = w3.heap.size := Option.some.inj e; omega))
        have HO4 : Hid (OutM w4 (w.heap.size + 1) go' (j + 1) cap') := by
          refine ⟨mo ++ [(sc, lt)], fun q hq => ?_, by rw [flat_append]; exact hown4⟩
          rcases List.mem_append.1 hq with h | h
          · exact HMO.out q h
          · simp at h; subst h; exact HT1.out
        clear ho1 ho2 hown4 hgrow4 hnz4 hat4 hgo' c0 c1 HO3 HX3 HG3 HS3 hi hz0 hz1 hz2
        obtain ⟨A4, n4, c4, B4, m4, d4, xs4, zs4, r, l, q⟩ := HX4.out
        have HL4 := Lib.hid l
        obtain ⟨r0, r1, f0, f1⟩ := r
        obtain ⟨m0, m1, _, _⟩ := HM4.out
        clear l q
        go_wp2_with fail
        refine (specLineStep_any _ _ _ _ _ _ xs4 zs4 _ _ _ HL4.out (by have := HT1.out; unfold maxLen; omega)).mono ?_
        rintro e w5 ⟨v, ok, rfl, hv, hb5⟩
        obtain ⟨A5, n5, c5, B5, m5, d5, xs5, zs5, hv1, hv2⟩ := hv
        have HV5 : Hid (LinR w4.heap.size w5 (liv A5 n5 c5 B5 m5 d5)) := ⟨A5, n5, c5, B5, m5, d5, xs5, zs5, rfl, hv2⟩
        subst hv1
        have HR5 : Hid (RmF w5 w.heap.size _ _) := RmF.below ⟨r0, r1, f0, f1⟩ hb5
        have HO5 := Lib.hid (HO4.out.below hb5)
        have HS5 := Lib.hid (HS4.out.below hb5 HS4.out.2.1)
        have HG5 := Lib.hid (gr_belowAll HG4.out hb5)
        have hb4 : w.heap.size < w4.heap.size := HX4.out.lt
        clear hv2 hb5 r0 r1 f0 f1 m0 m1 HM4 HX4 HO4 HS4 HG4 HL4
        obtain ⟨r0, r1, f0, f1⟩ := HR5.out
        go_wp2_with fail
        go_roundw
        case rel =>
          refine ⟨j + 1, go', cap', by omega, by go_num, by go_num, HO5.out.grown (gwb _ _ _ _) (by omega), LBox.put HR5.out HV5.out hb4 hgo4 (by omega), ?_, gr_new HG5.out (gwb _ _ _ _) (fun r e => by have e1 := Option.some.inj e; omega)⟩
          have h1 := HS5.out.grown (gwb w5 w.heap.size (.slice A5 n5 c5) (.slice B5 m5 d5)) (fun r e => by have e1 := Option.some.inj e; omega)
          exact h1
        case measure => simp [intOf]; omega
    · have hLwr : L ≤ wr.heap.size := HS.out.2.1
      go_wp2_with fail
      refine (pick_any L g (p + 1 + j) _ _ HS.out (by omega) (by omega)).mono ?_
      rintro e w2 ⟨Y, rfl, hY, _, hs2, hg2⟩
      have HO2 := Lib.hid (HO.out.grown hg2 (by omega))
      have HS2 := Lib.hid hs2
      have HG2 := Lib.hid (gr_trans HG.out hg2)
      clear hY hs2 hg2 HO HX HS HG
      by_cases hY0 : Y = 0
      · subst hY0
        go_wp2_with fail
        refine (pick_any L g (p + 1 + j + 1) _ _ HS2.out (by omega) (by omega)).mono ?_
        rintro e w3 ⟨Z, rfl, hZ, _, hs3, hg3⟩
        have HO3 := Lib.hid (HO2.out.grown hg3 (by omega))
        have HS3 := Lib.hid hs3
        have HG3 := Lib.hid (gr_trans HG2.out hg3)
        clear hZ hs3 hg3 HO2 HS2 HG2
        obtain ⟨mo, ho1, ho2⟩ := HO3.out
        have HMO := Lib.hid ho1
        have hgo3 := HO3.out.lt
        have hL3 := HS3.out.2.1
        obtain ⟨hi, hz0, hz1, hz2⟩ := HI.out
        go_wp2_with (at_builtin; refine wpList_append_own_at _ rfl _ _ 23 rfl (w.heap.size + 1) 28 i0 (.agg #[.int .i64 0, .string ⟨#[]⟩]) 2 24 Try.underlying23 hi hz0 hz1 hz2 rfl (by decide) _ _ _ rfl (ho2.alloc _) ⟨w3.heap.size, 0, none⟩ 1 1 [.int .i64 Z, .string ⟨#[101]⟩] rfl rfl (one_cells w3 _ _ _) (two_one _ _) ?c3 ?c4 ?c5 ?_)
        case c3 => unfold maxLen; omega
        case c4 => omega
        case c5 => simp only [World.size_alloc]; omega
        intro v4 w4 hown4 hgrow4 hnz4 hat4
        obtain ⟨go', cap', rfl, _, hgo4⟩ := hown4.form (by omega)
        have HS4 := Lib.hid ((HS3.out.alloc (.cells #[.int .i64 Z, .string ⟨#[101]⟩] 28)).grown hgrow4 (fun r e => by have e1 : go = r := Option.some.inj e; omega))
        have HG4 := Lib.hid (gr_new (gr_belowAll HG3.out (bl1 w3 (.cells #[.int .i64 Z, .string ⟨#[101]⟩] 28))) hgrow4 (fun r e => by have e1 : go = r := Option.some.inj e; omega))
        have HO4 : Hid (OutM w4 w.heap.size go' (j + 1) cap') := by
          refine ⟨mo ++ [(Z, ⟨#[101]⟩)], fun q hq => ?_, by rw [flat_append]; exact own_base hown4 (by omega)⟩
          rcases List.mem_append.1 hq with h | h
          · exact HMO.out q h
          · simp at h; subst h; rfl
        clear ho1 ho2 hown4 hgrow4 hnz4 hat4 HO3 HG3 HS3 hi hz0 hz1 hz2
        go_wp2_with fail
        go_ret
        exact ⟨go', j + 1, cap', p + 1 + j + 1 + 1, rfl, by omega, HO4.out, by omega, HS4.out, HG4.out⟩
      · have hY1 : (Y == 0) = false := by simpa using hY0
        go_wp2_with fail
        go_ret
        obtain ⟨mo, ho1, ho2⟩ := HO2.out
        exact ⟨go, j, cap, p + 1 + j + 1, rfl, by omega, ⟨mo, ho1, own_base ho2 (by omega)⟩, by omega, HS2.out, HG2.out⟩
end Go.Proofs.Ytmplanlppjebnaa
