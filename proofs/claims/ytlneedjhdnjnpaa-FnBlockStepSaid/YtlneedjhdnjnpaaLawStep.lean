/-
  The walk of the law FnBlockStep: it returns true for every list of bytes and leaves old memory as it was.
-/
import Derived.Test.YtlneedjhdnjnpaaDrawStep
import Derived.Test.YtlneedjhdnjnpaaLawDraw2
import Derived.Test.YtlneedjhdnjnpaaBlkC
import Derived.Deep.RegionHeld3
namespace Go.Proofs.Ytlneedjhdnjnpaa
open Go.RowKit
set_option linter.unusedVariables false
attribute [local go_sem ↓] Go.wp_at_zero Go.wp_at_succ run_eql_block run_neq_block

namespace Bk
theorem next_count {q c t : Nat} (hq : q < 5) (hc : c < 256) (h : step q c = some t) : (next (nd q) (ins q) (off q)).count (UInt8.ofNat c) = 1 ∧ ((nd t == nd q && (ins t == ins q && off t == off q)) = false) ∧ t < 5 := by
  rcases step_cases h with ⟨rfl, rfl, rfl⟩ | ⟨rfl, rfl, rfl⟩ | ⟨rfl, rfl, rfl⟩ | ⟨rfl, rfl, rfl⟩ | ⟨rfl, rfl, rfl⟩ | ⟨rfl, rfl, rfl⟩ | ⟨rfl, rfl, rfl⟩ <;> exact ⟨by decide, by decide, by decide⟩
/-- What a step that can be done is good for. -/
theorem step_law {n : Int} {i o : Bool} {l : List UInt8} {t : Nat} (h : stepR n i o l = some t) : ∃ c : UInt8, l = [c] ∧ runR n i o l = some t ∧ possible (nd t) (ins t) (off t) = true ∧ (nd t == n && (ins t == i && off t == o)) = false ∧ (next n i o).count c = 1 ∧ t < 5 := by
  unfold stepR at h
  cases e : stOf n i o with
  | none => rw [e] at h; cases h
  | some q =>
    rw [e] at h
    obtain ⟨hq, rfl, rfl, rfl⟩ := stOf_lt e
    match l, h with
    | [c], h =>
      have h' : step q c.toNat = some t := h
      obtain ⟨h1, h2, h3⟩ := next_count hq (c.toNat_lt) h'
      refine ⟨c, rfl, ?_, ?_, h2, ?_, h3⟩
      · rw [runR_some e (by simp)]
        simp [runS, h']
      · unfold possible; rw [stOf_st h3]; rfl
      · have e2 : UInt8.ofNat c.toNat = c := by simp
        rwa [e2] at h1
end Bk
set_option maxRecDepth 100000 in
set_option maxHeartbeats 16000000 in
theorem FnBlockStep_walk (w : World) (A : Option Addr) (n c : Nat) (bs : List UInt8) (hx : RdB w A n bs) (hl : n ≤ c) (hc : c ≤ maxLen) :
    Calls Try.prog 8 #[.slice A n c] w fun e w' => e = .returned (.bool true) ∧ Below w.heap.size w w' := by
  have HX := Lib.hid hx
  have hc' := Lib.hid hc
  clear hx
  unfold maxLen at hc
  by_cases hbig : (1048576 : Int) < n
  · go_enter Try.func8, Try.ntmps8
    go_wp2_with fail
    go_ret
    exact ⟨rfl, Below.refl _ _⟩
  · have hs : (n : Int) ≤ 1048576 := by omega
    clear hbig
    go_enter Try.func8, Try.ntmps8
    go_wp2_with fail
    refine (DrawBlockStep_any _ _ _ bs _ HX.out hl hc'.out).mono ?_
    rintro e w1 ⟨bn, bi, bo, T, rfl, _, _, hT, hb1⟩
    have Hb1 := Lib.hid hb1
    have HTz : Hid (T.size ≤ maxLen) := by unfold Hid maxLen; omega
    clear hb1
    have HR1 := Lib.hid (room_alloc w1 (.int .i64 bn) (.bool bi) (.bool bo) 34)
    cases hst : Bk.stepR bn bi bo T.toList with
    | none =>
      have HRes : Hid (resV (Bk.stepR bn bi bo T.toList) = .tuple #[bv 0 false false, .bool false]) := by unfold Hid; rw [hst]; rfl
      clear hst
      go_wp2_with fail
      refine (implBlockStep_any _ _ _ _ _ HTz.out).mono ?_
      rintro e w2 ⟨rfl, hb2⟩
      rw [HRes.out]
      obtain ⟨b0, b1, b2, _, _, _⟩ := HR1.out.later hb2
      have hlt2 : w1.heap.size < w2.heap.size := (HR1.out.later hb2).lt
      have Hb2 := Lib.hid (below_seq (Hb1.out.alloc Hb1.out.size _) hb2)
      clear hb2
      go_wp2_with fail
      refine (specBlockStep_any _ _ _ _ _ HTz.out).mono ?_
      rintro e w3 ⟨rfl, hb3⟩
      rw [HRes.out]
      obtain ⟨q0, q1, q2, _, _, _⟩ := (room_alloc w2 (.int .i64 0) (.bool false) (.bool false) 34).later hb3
      have hlt3 : w2.heap.size < w3.heap.size := ((room_alloc w2 (.int .i64 0) (.bool false) (.bool false) 34).later hb3).lt
      have Hb3 := Lib.hid (below_seq (Hb2.out.alloc Hb2.out.size _) hb3)
      clear hb3 b0 b1 b2
      go_wp2_with fail
      go_ret
      exact ⟨rfl, Hb3.out.alloc Hb3.out.size _⟩
    | some t =>
      have HRes : Hid (resV (Bk.stepR bn bi bo T.toList) = .tuple #[bv (Bk.nd t) (Bk.ins t) (Bk.off t), .bool true]) := by unfold Hid; rw [hst]; rfl
      obtain ⟨ch, hTl, hrun, hposs, hdiff, hcount, ht5⟩ := Bk.step_law hst
      have HRun : Hid (resV (Bk.runR bn bi bo T.toList) = .tuple #[bv (Bk.nd t) (Bk.ins t) (Bk.off t), .bool true]) := by unfold Hid; rw [hrun]; rfl
      have HPoss := Lib.hid hposs
      have HTl := Lib.hid hTl
      have hT1 : T.size = 1 := by rw [← str_len', hTl]; rfl
      have hT0 : 0 < T.size := by omega
      have hch : (T[0]'hT0) = ch := by
        have h1 := str_at' T 0 hT0
        rw [hTl] at h1
        simp at h1
        exact h1.symm
      have HCount : Hid ((mkS (Bk.next bn bi bo)).toList.count (T[0]'hT0) = 1) := by unfold Hid; rw [hch, mkS_toList]; exact hcount
      obtain ⟨NS, hNS⟩ : ∃ NS, NS = mkS (Bk.next bn bi bo) := ⟨_, rfl⟩
      have HNS := Lib.hid hNS
      have HNz : Hid (NS.size ≤ 1000000) := by unfold Hid; rw [hNS]; have := next_size bn bi bo; omega
      have hT1' : 1 ≤ T.size := by omega
      have hT2' : T.size ≤ 1 := by omega
      clear hst hrun hposs hTl hT1 hch hcount hNS
      go_wp2_with fail
      refine (implBlockStep_any _ _ _ _ _ HTz.out).mono ?_
      rintro e w2 ⟨rfl, hb2⟩
      rw [HRes.out]
      have HR2 := Lib.hid (HR1.out.later hb2)
      obtain ⟨b0, b1, b2, _, _, _⟩ := HR2.out
      have hlt2 : w1.heap.size < w2.heap.size := HR2.out.lt
      have Hb2 := Lib.hid (below_seq (Hb1.out.alloc Hb1.out.size _) hb2)
      clear hb2
      have HO2 := Lib.hid (room_alloc w2 (.int .i64 (Bk.nd t)) (.bool (Bk.ins t)) (.bool (Bk.off t)) 34)
      go_wp2_with fail
      refine (specBlockStep_any _ _ _ _ _ HTz.out).mono ?_
      rintro e w3 ⟨rfl, hb3⟩
      rw [HRes.out]
      have HR3 := Lib.hid ((HR2.out.alloc _).later hb3)
      have HO3 := Lib.hid (HO2.out.later hb3)
      have Hb3 := Lib.hid (below_seq (Hb2.out.alloc Hb2.out.size _) hb3)
      have hlt3 : w2.heap.size < w3.heap.size := HO3.out.lt
      clear hb3 b0 b1 b2
      obtain ⟨b0, b1, b2, _, _, _⟩ := HR3.out
      obtain ⟨q0, q1, q2, _, _, _⟩ := HO3.out
      have hlt3' : w1.heap.size < w3.heap.size := by omega
      go_wp2_with fail
      refine (implBlockRun_any _ _ _ _ _ HTz.out).mono ?_
      rintro e w4 ⟨rfl, hb4⟩
      rw [HRun.out]
      have HR4 := Lib.hid ((HR3.out.alloc _).later hb4)
      have HO4 := Lib.hid ((HO3.out.alloc _).later hb4)
      have Hb4 := Lib.hid (below_seq (Hb3.out.alloc Hb3.out.size _) hb4)
      clear hb4 b0 b1 b2 q0 q1 q2
      have hlt4 : w2.heap.size < w4.heap.size := HO4.out.lt
      have hlt4' : w1.heap.size < w4.heap.size := HR4.out.lt
      have hX : Hid (Room (w4.alloc (.cells #[.int .i64 (Bk.nd t), .bool (Bk.ins t), .bool (Bk.off t)] 34)).drew w4.heap.size (.int .i64 (Bk.nd t)) (.bool (Bk.ins t)) (.bool (Bk.off t))) := room_alloc _ _ _ _ _
      have HRd : Hid (Room (w4.alloc (.cells #[.int .i64 (Bk.nd t), .bool (Bk.ins t), .bool (Bk.off t)] 34)).drew w1.heap.size (.int .i64 bn) (.bool bi) (.bool bo)) := HR4.out.alloc _
      have HOd : Hid (Room (w4.alloc (.cells #[.int .i64 (Bk.nd t), .bool (Bk.ins t), .bool (Bk.off t)] 34)).drew w2.heap.size (.int .i64 (Bk.nd t)) (.bool (Bk.ins t)) (.bool (Bk.off t))) := HO4.out.alloc _
      have Hbd : Hid (Below w.heap.size w (w4.alloc (.cells #[.int .i64 (Bk.nd t), .bool (Bk.ins t), .bool (Bk.off t)] 34)).drew) := (Hb4.out.alloc Hb4.out.size _).drew
      go_wp2_with fail
      generalize w4.alloc (.cells #[.int .i64 (Bk.nd t), .bool (Bk.ins t), .bool (Bk.off t)] 34) = w5 at hX HRd HOd Hbd ⊢
      obtain ⟨x0, x1, x2, _, _, _⟩ := hX.out
      obtain ⟨b0, b1, b2, _, _, _⟩ := HRd.out
      obtain ⟨q0, q1, q2, _, _, _⟩ := HOd.out
      go_region_held3 (fun W => (W.cell? ⟨w4.heap.size, 0, none⟩ = some (.int .i64 (Bk.nd t)) ∧ W.cell? ⟨w4.heap.size, 1, none⟩ = some (.bool (Bk.ins t)) ∧ W.cell? ⟨w4.heap.size, 2, none⟩ = some (.bool (Bk.off t))) ∧ (W.cell? ⟨w2.heap.size, 0, none⟩ = some (.int .i64 (Bk.nd t)) ∧ W.cell? ⟨w2.heap.size, 1, none⟩ = some (.bool (Bk.ins t)) ∧ W.cell? ⟨w2.heap.size, 2, none⟩ = some (.bool (Bk.off t))) ∧ (W.cell? ⟨w1.heap.size, 0, none⟩ = some (.int .i64 bn) ∧ W.cell? ⟨w1.heap.size, 1, none⟩ = some (.bool bi) ∧ W.cell? ⟨w1.heap.size, 2, none⟩ = some (.bool bo)))
        (first | exact ⟨⟨x0, x1, x2⟩, ⟨q0, q1, q2⟩, ⟨b0, b1, b2⟩⟩ | exact ⟨⟨y0, y1, y2⟩, ⟨r0, r1, r2⟩, ⟨c0, c1, c2⟩⟩ | exact ⟨⟨z0, z1, z2⟩, ⟨s0, s1, s2⟩, ⟨d0, d1, d2⟩⟩)
        (first
          | (go_at_call 36; refine (implBlockPossible_any _ _ _ _).mono ?_; rintro e w6 ⟨rfl, hb6⟩; rw [HPoss.out]; have HX6 := Lib.hid (hX.out.later hb6); have HR6 := Lib.hid (HRd.out.later hb6); have HO6 := Lib.hid (HOd.out.later hb6); have Hb6 := Lib.hid (below_seq Hbd.out hb6); obtain ⟨y0, y1, y2, _, _, _⟩ := HX6.out; obtain ⟨c0, c1, c2, _, _, _⟩ := HR6.out; obtain ⟨r0, r1, r2, _, _, _⟩ := HO6.out; clear hb6)
          | (go_at_call 30; refine (implBlockNext_any _ _ _ _).mono ?_; rintro e w7 ⟨rfl, hb7⟩; rw [← HNS.out]; have HX7 := Lib.hid (HX6.out.later hb7); have HR7 := Lib.hid (HR6.out.later hb7); have HO7 := Lib.hid (HO6.out.later hb7); have Hb7 := Lib.hid (below_seq Hb6.out hb7); obtain ⟨z0, z1, z2, _, _, _⟩ := HX7.out; obtain ⟨d0, d1, d2, _, _, _⟩ := HR7.out; obtain ⟨s0, s1, s2, _, _, _⟩ := HO7.out; clear hb7)
          | (go_at_call 24; refine (countOf_any NS (T[0]'hT0) _ HNz.out).mono ?_; rintro e w8 ⟨rfl, rfl⟩; rw [HNS.out, HCount.out]))
      all_goals go_wp2_with fail
      all_goals go_ret
      all_goals exact ⟨rfl, Hb7.out⟩
end Go.Proofs.Ytlneedjhdnjnpaa
