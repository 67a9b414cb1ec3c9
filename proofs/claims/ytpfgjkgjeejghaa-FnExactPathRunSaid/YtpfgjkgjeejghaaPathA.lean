/-
  Contract of the reference's PathRun.
  Conditions: the runs read as a list of integers.
-/
import Derived.Test.YtpfgjkgjeejghaaPath9
import Derived.Maps.AppendAt
namespace Go.Proofs.Ytpfgjkgjeejghaa
open Go.RowKit
set_option linter.unusedVariables false
attribute [local go_sem ↓] Go.wp_at_zero Go.wp_at_succ

/-- What spec.PathRun holds on to: the result's block, the path's box, the path's two lists. -/
structure SpB (w : World) (p : Nat) (vx vy : Value) (xs ys : List Int) (V : World) : Prop where
  bel : Below w.heap.size w V
  res : Room2 V w.heap.size (.slice none 0 0) (.slice none 0 0)
  box : Room2 V p vx vy
  ox : V.ownsRow (w.heap.size + 1) 3 1 vx xs.length (xs.map (Value.int .i64))
  oy : V.ownsRow (w.heap.size + 1) 3 1 vy ys.length (ys.map (Value.int .i64))
  hp : w.heap.size < p
  px : ∀ g, vx.ownBlock = some g → g ≠ p
  py : ∀ g, vy.ownBlock = some g → g ≠ p
  xy : ∀ g r, vx.ownBlock = some g → vy.ownBlock = some r → g ≠ r
section
variable {w V V' : World} {p : Nat} {vx vy v2 : Value} {xs ys zs : List Int}
theorem SpB.below (H : SpB w p vx vy xs ys V) (hb : Below V.heap.size V V') : SpB w p vx vy xs ys V' :=
  ⟨below_seq H.bel hb, H.res.later hb, H.box.later hb, own_belowAll H.ox hb, own_belowAll H.oy hb, H.hp, H.px, H.py, H.xy⟩
theorem SpB.app0 (H : SpB w p vx vy xs ys V) (hg : V.grownBy V' vx.ownBlock) (ho : V'.ownsRow (w.heap.size + 1) 3 1 v2 zs.length (zs.map (Value.int .i64))) (hat : v2.ownBlock = vx.ownBlock ∨ v2.ownBlock = some V.heap.size) :
    SpB w p v2 vy zs ys (V'.setCell ⟨p, 0, none⟩ v2) := by
  have hp := H.hp
  have hpl : p < V.heap.size := H.box.lt
  have hlo : ∀ g, vx.ownBlock = some g → w.heap.size + 1 ≤ g := fun g e => (H.ox.lt g e).1
  have hly : ∀ g, vy.ownBlock = some g → w.heap.size + 1 ≤ g ∧ g < V.heap.size := fun g e => H.oy.lt g e
  have h2 : ∀ g, v2.ownBlock = some g → g ≠ p := by
    intro g e
    rcases hat with h | h
    · exact H.px g (h ▸ e)
    · rw [h] at e; cases e; omega
  refine ⟨?_, ?_, ?_, ?_, ?_, hp, h2, H.py, ?_⟩
  · exact (below_grown H.bel hg H.bel.size (fun r e => by have := hlo r e; omega)).setCell (p := ⟨p, 0, none⟩) (by simp; omega) _
  · exact (H.res.grown hg (fun r e => by have := hlo r e; omega)).far (by omega) _
  · exact (H.box.grown hg (fun r e => fun e' => H.px r e e'.symm)).set0 _
  · exact own_setFar ho h2 _
  · exact own_setFar (own_kept H.oy hg (fun g r e1 e2 => fun e => H.xy r g e2 e1 e.symm)) H.py _
  · intro g r e1 e2
    rcases hat with h | h
    · exact H.xy g r (h ▸ e1) e2
    · rw [h] at e1; cases e1; have := hly r e2; omega
theorem SpB.app1 (H : SpB w p vx vy xs ys V) (hg : V.grownBy V' vy.ownBlock) (ho : V'.ownsRow (w.heap.size + 1) 3 1 v2 zs.length (zs.map (Value.int .i64))) (hat : v2.ownBlock = vy.ownBlock ∨ v2.ownBlock = some V.heap.size) :
    SpB w p vx v2 xs zs (V'.setCell ⟨p, 1, none⟩ v2) := by
  have hp := H.hp
  have hpl : p < V.heap.size := H.box.lt
  have hlo : ∀ g, vy.ownBlock = some g → w.heap.size + 1 ≤ g := fun g e => (H.oy.lt g e).1
  have hlx : ∀ g, vx.ownBlock = some g → w.heap.size + 1 ≤ g ∧ g < V.heap.size := fun g e => H.ox.lt g e
  have h2 : ∀ g, v2.ownBlock = some g → g ≠ p := by
    intro g e
    rcases hat with h | h
    · exact H.py g (h ▸ e)
    · rw [h] at e; cases e; omega
  refine ⟨?_, ?_, ?_, ?_, ?_, hp, H.px, h2, ?_⟩
  · exact (below_grown H.bel hg H.bel.size (fun r e => by have := hlo r e; omega)).setCell (p := ⟨p, 1, none⟩) (by simp; omega) _
  · exact (H.res.grown hg (fun r e => by have := hlo r e; omega)).far (by omega) _
  · exact (H.box.grown hg (fun r e => fun e' => H.py r e e'.symm)).set1 _
  · exact own_setFar (own_kept H.ox hg (fun g r e1 e2 => fun e => H.xy g r e1 e2 e)) H.px _
  · exact own_setFar ho h2 _
  · intro g r e1 e2
    rcases hat with h | h
    · exact H.xy g r e1 (h ▸ e2)
    · rw [h] at e2; cases e2; have := hlx g e1; omega
end
theorem spB_start (w : World) : SpB w (w.heap.size + 1 + 1 + 1) (.slice (some ⟨w.heap.size + 1, 0, none⟩) 0 0) (.slice (some ⟨w.heap.size + 1 + 1, 0, none⟩) 0 0) [] []
    ((((w.alloc (.cells #[.slice none 0 0, .slice none 0 0] 28)).alloc (.cells #[] 3)).alloc (.cells #[] 3)).alloc (.cells #[.slice (some ⟨w.heap.size + 1, 0, none⟩) 0 0, .slice (some ⟨w.heap.size + 1 + 1, 0, none⟩) 0 0] 28)) := by
  obtain ⟨b, k0, k1, k2, k3⟩ := four_blocks w (.cells #[.slice none 0 0, .slice none 0 0] 28) (.cells #[] 3) (.cells #[] 3) (.cells #[.slice (some ⟨w.heap.size + 1, 0, none⟩) 0 0, .slice (some ⟨w.heap.size + 1 + 1, 0, none⟩) 0 0] 28)
  have hb : Below w.heap.size w ((((w.alloc (.cells #[.slice none 0 0, .slice none 0 0] 28)).alloc (.cells #[] 3)).alloc (.cells #[] 3)).alloc (.cells #[.slice (some ⟨w.heap.size + 1, 0, none⟩) 0 0, .slice (some ⟨w.heap.size + 1 + 1, 0, none⟩) 0 0] 28)) := ⟨b.os, b.tape, b.output, b.size, b.block⟩
  refine ⟨hb, room2_of k0, room2_of k3, ?_, ?_, by omega, ?_, ?_, ?_⟩
  · exact ⟨by simp, .inr ⟨w.heap.size + 1, 0, #[], rfl, by omega, k1, Nat.le_refl _, Nat.zero_le _, by simp, by simp⟩⟩
  · exact ⟨by simp, .inr ⟨w.heap.size + 1 + 1, 0, #[], rfl, by omega, k2, Nat.le_refl _, Nat.zero_le _, by simp, by simp⟩⟩
  · intro g e; simp [Value.ownBlock] at e; omega
  · intro g e; simp [Value.ownBlock] at e; omega
  · intro g r e1 e2; simp [Value.ownBlock] at e1 e2; omega

set_option maxRecDepth 100000 in
set_option maxHeartbeats 8000000 in
theorem specPathRun_any (A : Option Addr) (n c : Nat) (rs : List Int) (s : Int) (w : World) (hx : RdI w A n rs) (hn : n ≤ 1099511627776) :
    Calls Try.prog 28 #[.int .i64 s, .slice A n c] w fun e w' => ∃ G k g H l h, e = .returned (.tuple #[pv G k g H l h, .bool (Pt.runOk s rs)]) ∧ OwnP w' w.heap.size G k g (Pt.runI s rs) H l h (Pt.runO s rs) ∧ Below w.heap.size w w' := by
  have HB0 : Hid (Below w.heap.size w (w.alloc (.cells #[.slice none 0 0, .slice none 0 0] 28))) := (Below.refl w.heap.size w).alloc (Nat.le_refl _) _
  have HX := Lib.hid hx
  have Hl := Lib.hid hx.len
  clear hx
  by_cases hok : Pt.runsOk rs = true ∧ 0 ≤ s ∧ s ≤ 2000
  · obtain ⟨hro, hs0, hs1⟩ := hok
    have hN : 1 ≤ n ∧ n ≤ 5 := by
      have := hro
      unfold Pt.runsOk at this
      simp only [Bool.and_eq_true, decide_eq_true_eq] at this
      rw [Hl.out] at this
      exact this.1
    obtain ⟨hn1, hn5⟩ := hN
    have HRO := Lib.hid hro
    have HR1 : Hid (Pt.runs1 rs = true) := by
      have := hro
      unfold Pt.runsOk at this
      simp only [Bool.and_eq_true] at this
      exact this.2
    have HOK := Lib.hid (Pt.runOk_at hro hs0 hs1)
    clear hro
    have HC := Lib.hid (spB_start w)
    obtain ⟨i0, hi, hz0, hz1, hz2⟩ := info_parts Try.infoInt
    go_enter Try.func28, Try.ntmps28
    go_wp2_with fail
    refine (l2Runs_any _ _ _ rs _ (RdI.below HX.out HB0.out) hn).mono ?_
    rintro e w1 ⟨rfl, rfl⟩
    rw [HRO.out]
    go_wp2_with fail
    refine (l6In_yes _ _ _ _ (by omega) (by omega)).mono ?_
    rintro e w1 ⟨rfl, rfl⟩
    go_wp2_with fail
    generalize (((w.alloc (.cells #[.slice none 0 0, .slice none 0 0] 28)).alloc (.cells #[] 3)).alloc (.cells #[] 3)).alloc (.cells #[.slice (some ⟨w.heap.size + 1, 0, none⟩) 0 0, .slice (some ⟨w.heap.size + 1 + 1, 0, none⟩) 0 0] 28) = W at HC ⊢
    go_loopw [0, 7] (fun t i wr => ∃ k : Nat, k ≤ n ∧ i = .int .i64 k ∧ t = .int .i64 (Pt.tm s rs k) ∧ Hid (∃ vx vy, SpB w (w.heap.size + 1 + 1 + 1) vx vy (Pt.ins s rs k) (Pt.outs s rs k) wr)) (fun _ i _ => n - (intOf i).toNat)
    case atStart => exact ⟨0, Nat.zero_le _, rfl, rfl, ⟨_, _, HC.out⟩⟩
    case round =>
      obtain ⟨k, hk, rfl, rfl, Hr0⟩ := hrel
      obtain ⟨vx, vy, hr⟩ := Hr0.out
      obtain ⟨A2, c2, hvx, q1⟩ := own_form hr.ox
      obtain ⟨A3, c3, hvy, q2⟩ := own_form hr.oy
      clear q1 q2
      rw [Pt.ins_len] at hvx
      rw [Pt.outs_len] at hvy
      subst hvx
      subst hvy
      have Hr := Lib.hid hr
      clear hr Hr0
      by_cases hlt : k < n
      · obtain ⟨b1, o1, x, rfl, hxk, hcx0⟩ := HX.out.at_ hlt
        have hlb : b1 < w.heap.size := block_lt_of_cell hcx0
        obtain ⟨hx1, hx2⟩ := Pt.runs1_at HR1.out hxk
        obtain ⟨ht1, ht2⟩ := Pt.tm_bound HR1.out hs0 hs1 k (by rw [Hl.out]; omega)
        have HT : Hid (Pt.tm s rs (k + 1) = Pt.tm s rs k + x) := by
          unfold Hid; simp only [Pt.tm]; rw [List.getD_eq_getElem?_getD, hxk]; rfl
        have HX0 := Lib.hid hcx0
        clear hcx0 hxk
        obtain ⟨c0, c1, f0, f1⟩ := Hr.out.box
        have hlp : w.heap.size + 1 + 1 + 1 < wr.heap.size := Hr.out.box.lt
        have hown : wr.ownsRow (w.heap.size + 1) 3 1 (.slice A2 k c2) k ((Pt.ins s rs k).map (Value.int .i64)) := by have := Hr.out.ox; rw [Pt.ins_len] at this; exact this
        go_wp2_with (at_builtin; refine wpList_append_own_at _ rfl _ _ 23 rfl (w.heap.size + 1) 3 i0 (.int .i64 0) 1 8 Try.underlying23 hi hz0 hz1 hz2 rfl (by decide) _ _ _ rfl (hown.alloc _) ⟨wr.heap.size, 0, none⟩ 1 1 [.int .i64 (Pt.tm s rs k)] rfl rfl (cell_new _ _ _) (one_cell _ rfl) ?c3 ?c4 ?c5 ?_)
        case c3 => unfold maxLen; omega
        case c4 => omega
        case c5 => simp; omega
        intro v2 w2 hown2 hgrow2 _ hat2
        have H1 : SpB w (w.heap.size + 1 + 1 + 1) (.slice A2 k c2) (.slice A3 k c3) (Pt.ins s rs k) (Pt.outs s rs k) (wr.alloc (.cells #[.int .i64 (Pt.tm s rs k)] 3)) := Hr.out.below ((Below.refl _ _).alloc (Nat.le_refl _) _)
        have ho2 : w2.ownsRow (w.heap.size + 1) 3 1 v2 (Pt.ins s rs (k + 1)).length ((Pt.ins s rs (k + 1)).map (Value.int .i64)) := by
          rw [Pt.ins_succ, List.map_append, List.length_append, Pt.ins_len]; exact hown2
        have H2 := Lib.hid (H1.app0 hgrow2 ho2 (by simpa using hat2))
        have HP : Hid (Room2 w2 (w.heap.size + 1 + 1 + 1) (.slice A2 k c2) (.slice A3 k c3)) := H1.box.grown hgrow2 (fun r e => fun e' => H1.px r e e'.symm)
        have hb2 : Below w.heap.size w w2 := below_grown H1.bel hgrow2 H1.bel.size (fun r e => by have := (H1.ox.lt r e).1; omega)
        have hcx : w2.cell? ⟨b1, o1 + k, none⟩ = some (.int .i64 x) := (hb2.cell (block_lt_of_cell HX0.out)).trans HX0.out
        obtain ⟨A4, c4, hv2, _⟩ := own_form hown2
        subst hv2
        clear hown hown2 ho2 hgrow2 hat2 H1 hb2 c0 c1 f0 f1 Hr
        obtain ⟨c0, c1, f0, f1⟩ := HP.out
        have hlp2 : w.heap.size + 1 + 1 + 1 < w2.heap.size := HP.out.lt
        have e1 : ¬ b1 = w.heap.size + 1 + 1 + 1 := by omega
        have e2 : ¬ w.heap.size + 1 + 1 + 1 = b1 := by omega
        have hown : (w2.setCell ⟨w.heap.size + 1 + 1 + 1, 0, none⟩ (.slice A4 (k + 1) c4)).ownsRow (w.heap.size + 1) 3 1 (.slice A3 k c3) k ((Pt.outs s rs k).map (Value.int .i64)) := by have := H2.out.oy; rw [Pt.outs_len] at this; exact this
        go_wp2_with (at_builtin; refine wpList_append_own_at _ rfl _ _ 23 rfl (w.heap.size + 1) 3 i0 (.int .i64 0) 1 8 Try.underlying23 hi hz0 hz1 hz2 rfl (by decide) _ _ _ rfl (hown.alloc _) ⟨w2.heap.size, 0, none⟩ 1 1 [.int .i64 (Pt.tm s rs k + x)] rfl rfl (by have := cell_new (w2.setCell ⟨w.heap.size + 1 + 1 + 1, 0, none⟩ (.slice A4 (k + 1) c4)) (.int .i64 (Pt.tm s rs k + x)) 3; simpa using this) (one_cell _ rfl) ?d3 ?d4 ?d5 ?_)
        case d3 => unfold maxLen; omega
        case d4 => omega
        case d5 => simp; omega
        intro v3 w3 hown3 hgrow3 _ hat3
        have H3 : SpB w (w.heap.size + 1 + 1 + 1) (.slice A4 (k + 1) c4) (.slice A3 k c3) (Pt.ins s rs (k + 1)) (Pt.outs s rs k) ((w2.setCell ⟨w.heap.size + 1 + 1 + 1, 0, none⟩ (.slice A4 (k + 1) c4)).alloc (.cells #[.int .i64 (Pt.tm s rs k + x)] 3)) := H2.out.below ((Below.refl _ _).alloc (Nat.le_refl _) _)
        have ho3 : w3.ownsRow (w.heap.size + 1) 3 1 v3 (Pt.outs s rs (k + 1)).length ((Pt.outs s rs (k + 1)).map (Value.int .i64)) := by
          rw [Pt.outs_succ, List.map_append, List.length_append, Pt.outs_len, HT.out]; exact hown3
        have H4 := Lib.hid (H3.app1 hgrow3 ho3 (by simpa using hat3))
        have HP3 : Hid (Room2 w3 (w.heap.size + 1 + 1 + 1) (.slice A4 (k + 1) c4) (.slice A3 k c3)) := H3.box.grown hgrow3 (fun r e => fun e' => H3.py r e e'.symm)
        obtain ⟨A5, c5, hv3, _⟩ := own_form hown3
        subst hv3
        clear hown hown3 ho3 hgrow3 hat3 H3 H2 HP c0 c1 f0 f1
        obtain ⟨c0, c1, f0, f1⟩ := HP3.out
        go_wp2_with fail
        go_roundw
        case rel => exact ⟨k + 1, by omega, by go_num, by rw [HT.out], ⟨_, _, H4.out⟩⟩
        case measure => simp [intOf]; omega
      · have hkn : k = n := by omega
        subst hkn
        have HVL : Hid (Pt.runOk s rs = Pt.valid (k : Int) (Pt.ins s rs k) (Pt.outs s rs k)) := by have := HOK.out; rw [Hl.out] at this; exact this
        have hlp : w.heap.size + 1 + 1 + 1 < wr.heap.size := Hr.out.box.lt
        obtain ⟨c0, c1, f0, f1⟩ := Hr.out.box
        have Hxr : Hid (RdI wr A2 k (Pt.ins s rs k)) := by have := Hr.out.ox; rw [Pt.ins_len] at this; exact RdI.of_own this
        have Hyr : Hid (RdI wr A3 k (Pt.outs s rs k)) := by have := Hr.out.oy; rw [Pt.outs_len] at this; exact RdI.of_own this
        cases hvl : Pt.runOk s rs with
        | true =>
          have HI : Hid (Pt.runI s rs = Pt.ins s rs k ∧ Pt.runO s rs = Pt.outs s rs k) := by unfold Hid Pt.runI Pt.runO; rw [hvl, Hl.out]; exact ⟨rfl, rfl⟩
          have HVT : Hid (Pt.valid (k : Int) (Pt.ins s rs k) (Pt.outs s rs k) = true) := by rw [← HVL.out]; exact hvl
          have HVR := Lib.hid hvl
          clear hvl
          go_wp2_with fail
          refine (specPathValid_any _ _ _ _ _ _ (Pt.ins s rs k) (Pt.outs s rs k) _ _ Hxr.out Hyr.out).mono ?_
          rintro e w2 ⟨rfl, hb2⟩
          rw [HVT.out]
          have HG := Lib.hid (Hr.out.below hb2)
          clear hb2 c0 c1 f0 f1 Hr
          obtain ⟨c0, c1, _, _⟩ := HG.out.box
          obtain ⟨r0, r1, fr0, fr1⟩ := HG.out.res
          go_wp2_with fail
          refine bodyPost_ret (v := .tuple #[pv A2 k c2 A3 k c3, .bool true]) (by simp [results, Try.results28, go_sem, r0, r1]) rfl ?_
          refine ⟨_, _, _, _, _, _, by rw [HVR.out], ?_, ?_⟩
          · rw [HI.out.1, HI.out.2]
            have hx1 : ∀ g, (Value.slice A2 k c2).ownBlock = some g → g ≠ w.heap.size := fun g e => by have := (HG.out.ox.lt g e).1; omega
            have hy1 : ∀ g, (Value.slice A3 k c3).ownBlock = some g → g ≠ w.heap.size := fun g e => by have := (HG.out.oy.lt g e).1; omega
            have o1 := HG.out.ox
            have o2 := HG.out.oy
            rw [Pt.ins_len] at o1
            rw [Pt.outs_len] at o2
            exact ⟨own_setFar (own_setFar (own_base o1 (by omega)) hx1 _) hx1 _, own_setFar (own_setFar (own_base o2 (by omega)) hy1 _) hy1 _, HG.out.xy⟩
          · exact below_set (below_set HG.out.bel (Nat.le_refl _) _) (Nat.le_refl _) _
        | false =>
          have HI : Hid (Pt.runI s rs = [] ∧ Pt.runO s rs = []) := by unfold Hid Pt.runI Pt.runO; rw [hvl]; exact ⟨rfl, rfl⟩
          have HVT : Hid (Pt.valid (k : Int) (Pt.ins s rs k) (Pt.outs s rs k) = false) := by rw [← HVL.out]; exact hvl
          have HVR := Lib.hid hvl
          clear hvl
          go_wp2_with fail
          refine (specPathValid_any _ _ _ _ _ _ (Pt.ins s rs k) (Pt.outs s rs k) _ _ Hxr.out Hyr.out).mono ?_
          rintro e w2 ⟨rfl, hb2⟩
          rw [HVT.out]
          have HG := Lib.hid (Hr.out.below hb2)
          clear hb2 c0 c1 f0 f1 Hr
          obtain ⟨r0, r1, fr0, fr1⟩ := HG.out.res
          go_wp2_with fail
          refine bodyPost_ret (v := .tuple #[pv none 0 0 none 0 0, .bool false]) (by simp [results, Try.results28, go_sem, r0, r1]) rfl ?_
          exact ⟨_, _, _, _, _, _, by rw [HVR.out], by rw [HI.out.1, HI.out.2]; exact ownP_nil _ _, below_set (below_set HG.out.bel (Nat.le_refl _) _) (Nat.le_refl _) _⟩
  · have HV := Lib.hid (Pt.runOk_no hok)
    have HI : Hid (Pt.runI s rs = [] ∧ Pt.runO s rs = []) := by unfold Hid Pt.runI Pt.runO; rw [HV.out]; exact ⟨rfl, rfl⟩
    cases hro : Pt.runsOk rs with
    | false =>
      have HRO := Lib.hid hro
      clear hro hok
      go_enter Try.func28, Try.ntmps28
      go_wp2_with fail
      refine (l2Runs_any _ _ _ rs _ (RdI.below HX.out HB0.out) hn).mono ?_
      rintro e w1 ⟨rfl, rfl⟩
      rw [HRO.out]
      go_wp2_with fail
      refine bodyPost_ret (v := .tuple #[pv none 0 0 none 0 0, .bool false]) (by simp [results, Try.results28, go_sem]) rfl ?_
      exact ⟨_, _, _, _, _, _, by rw [HV.out], by rw [HI.out.1, HI.out.2]; exact ownP_nil _ _, HB0.out⟩
    | true =>
      have HRO := Lib.hid hro
      have hs : s < 0 ∨ 2000 < s := by
        apply Classical.byContradiction
        intro h
        exact hok ⟨hro, by omega, by omega⟩
      clear hro hok
      have HS := Lib.hid hs
      clear hs
      go_enter Try.func28, Try.ntmps28
      go_wp2_with fail
      refine (l2Runs_any _ _ _ rs _ (RdI.below HX.out HB0.out) hn).mono ?_
      rintro e w1 ⟨rfl, rfl⟩
      rw [HRO.out]
      go_wp2_with fail
      refine (l6In_no _ _ _ _ HS.out).mono ?_
      rintro e w1 ⟨rfl, rfl⟩
      go_wp2_with fail
      refine bodyPost_ret (v := .tuple #[pv none 0 0 none 0 0, .bool false]) (by simp [results, Try.results28, go_sem]) rfl ?_
      exact ⟨_, _, _, _, _, _, by rw [HV.out], by rw [HI.out.1, HI.out.2]; exact ownP_nil _ _, HB0.out⟩
end Go.Proofs.Ytpfgjkgjeejghaa
