/-
  The walk of the law FnBlockRun: it returns true for every two lists of bytes and leaves old memory as it was.
-/
import Derived.Test.YtlneedjhdnjnpaaDrawWR
import Derived.Test.YtlneedjhdnjnpaaWayLaws
import Derived.Test.YtlneedjhdnjnpaaWay4
import Derived.Deep.RegionHeld3
namespace Go.Proofs.Ytlneedjhdnjnpaa
open Go.RowKit
set_option linter.unusedVariables false
attribute [local go_sem ↓] Go.wp_at_zero Go.wp_at_succ run_eql_block run_neq_block

namespace Bk
/-- Events in parts. -/
theorem run_parts {n : Int} {i o : Bool} {l : List UInt8} {v : Nat} (h : runR n i o l = some v) (k : Nat) : ∃ s u r, s < 5 ∧ nd s = n ∧ ins s = i ∧ off s = o ∧ u < 5 ∧ v < 5 ∧ runR n i o (l.take k) = some u ∧ runR (nd u) (ins u) (off u) (l.drop k) = some v ∧ wayR s v = some r ∧ r.length ≤ l.length := by
  have hv := runR_lt h
  have hl : l.length ≤ 30 := by
    by_cases hl : l.length ≤ 30
    · exact hl
    · rw [runR_long (by omega)] at h; cases h
  cases e : stOf n i o with
  | none => rw [runR_none e] at h; cases h
  | some s =>
    obtain ⟨hs, h1, h2, h3⟩ := stOf_lt e
    rw [runR_some e hl] at h
    have h' := h
    rw [← List.take_append_drop k l, runS_append] at h
    cases e2 : runS s (l.take k) with
    | none => rw [e2] at h; cases h
    | some u =>
      rw [e2] at h
      have hu := runS_lt _ hs e2
      obtain ⟨r, hr, _⟩ := way_law hs hv
      have hd := way_short l hv h'
      unfold dist at hd
      rw [hr] at hd
      refine ⟨s, u, r, hs, h1, h2, h3, hu, hv, ?_, ?_, hr, hd⟩
      · rw [runR_some e (by rw [List.length_take]; omega)]; exact e2
      · rw [runR_some (stOf_st hu) (by rw [List.length_drop]; omega)]; exact h
end Bk
theorem room3 {w : World} {B : Nat} {v0 v1 v2 : Value} (h : Room w B v0 v1 v2) : w.cell? ⟨B, 0, none⟩ = some v0 ∧ w.cell? ⟨B, 1, none⟩ = some v1 ∧ w.cell? ⟨B, 2, none⟩ = some v2 := ⟨h.1, h.2.1, h.2.2.1⟩
set_option maxRecDepth 100000 in
set_option maxHeartbeats 16000000 in
theorem FnBlockRun_walk (w : World) (A : Option Addr) (n c : Nat) (bs : List UInt8) (hx : RdB w A n bs) (hl : n ≤ c) (hc : c ≤ maxLen) (A' : Option Addr) (n' c' : Nat) (bs' : List UInt8) (hx' : RdB w A' n' bs') (hl' : n' ≤ c') (hc' : c' ≤ maxLen) :
    Calls Try.prog 13 #[.slice A n c, .slice A' n' c'] w fun e w' => e = .returned (.bool true) ∧ Below w.heap.size w w' := by
  have HX := Lib.hid hx
  have HC := Lib.hid hc
  clear hx hx'
  unfold maxLen at hc hc'
  by_cases hbig : (1048576 : Int) < n
  · go_enter Try.func13, Try.ntmps13
    go_wp2_with fail
    go_ret
    exact ⟨rfl, Below.refl _ _⟩
  · have hs : (n : Int) ≤ 1048576 := by omega
    clear hbig
    by_cases hbig : (1048576 : Int) < n'
    · go_enter Try.func13, Try.ntmps13
      go_wp2_with fail
      go_ret
      exact ⟨rfl, Below.refl _ _⟩
    · have hs' : (n' : Int) ≤ 1048576 := by omega
      clear hbig
      go_enter Try.func13, Try.ntmps13
      go_wp2_with fail
      refine (DrawBlockRun_any _ _ _ bs _ HX.out hl HC.out).mono ?_
      rintro e w1 ⟨bn, bi, bo, T, rfl, _, _, hT, hb1⟩
      have Hb1 := Lib.hid hb1
      have HTz : Hid (T.size ≤ maxLen) := by unfold Hid maxLen; omega
      clear hb1
      have HR1 := Lib.hid (room_alloc w1 (.int .i64 bn) (.bool bi) (.bool bo) 34)
      cases hst : Bk.runR bn bi bo T.toList with
      | none =>
        have HRes : Hid (resV (Bk.runR bn bi bo T.toList) = .tuple #[bv 0 false false, .bool false]) := by unfold Hid; rw [hst]; rfl
        clear hst
        go_wp2_with fail
        refine (implBlockRun_any _ _ _ _ _ HTz.out).mono ?_
        rintro e w2 ⟨rfl, hb2⟩
        rw [HRes.out]
        obtain ⟨b0, b1, b2, _, _, _⟩ := HR1.out.later hb2
        have hlt2 : w1.heap.size < w2.heap.size := (HR1.out.later hb2).lt
        have Hb2 := Lib.hid (below_seq (Hb1.out.alloc Hb1.out.size _) hb2)
        clear hb2
        go_wp2_with fail
        refine (specBlockRun_any _ _ _ _ _ HTz.out).mono ?_
        rintro e w3 ⟨rfl, hb3⟩
        rw [HRes.out]
        obtain ⟨q0, q1, q2, _, _, _⟩ := (room_alloc w2 (.int .i64 0) (.bool false) (.bool false) 34).later hb3
        have hlt3 : w2.heap.size < w3.heap.size := ((room_alloc w2 (.int .i64 0) (.bool false) (.bool false) 34).later hb3).lt
        have Hb3 := Lib.hid (below_seq (Hb2.out.alloc Hb2.out.size _) hb3)
        clear hb3 b0 b1 b2
        go_wp2_with fail
        go_ret
        exact ⟨rfl, Hb3.out.alloc Hb3.out.size _⟩
      | some v =>
        have HRes : Hid (resV (Bk.runR bn bi bo T.toList) = .tuple #[bv (Bk.nd v) (Bk.ins v) (Bk.off v), .bool true]) := by unfold Hid; rw [hst]; rfl
        obtain ⟨k, hk⟩ : ∃ k, k = n' % (T.size + 1) := ⟨_, rfl⟩
        have hkT : k ≤ T.size := by have := Nat.mod_lt n' (show 0 < T.size + 1 by omega); omega
        obtain ⟨s, u, r, hs5, rfl, rfl, rfl, hu5, hv5, hx1, hx2, hwr, hrl⟩ := Bk.run_parts hst k
        rw [str_len'] at hrl
        obtain ⟨E, hsl, hE, hEz⟩ : ∃ E : ByteArray, (∀ W : World, (Instr.slice 9 (.string T) none (some (.int .i64 (k : Int))) none).run Try.prog W = .ok (.string E) W) ∧ E.toList = T.toList.take k ∧ E.size ≤ maxLen := by
          refine ⟨T.extract 0 k, fun W => ?_, take_toList T k, by rw [← str_len', take_toList, List.length_take, str_len']; unfold maxLen; omega⟩
          rw [run_slice_string_to_if W 9 T .i64 (k : Int) Try.underlying9, if_pos (by omega)]
          rfl
        obtain ⟨F, hsf, hF, hFz⟩ : ∃ F : ByteArray, (∀ W : World, (Instr.slice 9 (.string T) (some (.int .i64 (k : Int))) none none).run Try.prog W = .ok (.string F) W) ∧ F.toList = T.toList.drop k ∧ F.size ≤ maxLen := by
          refine ⟨T.extract k T.size, fun W => ?_, drop_toList T k, by rw [← str_len', drop_toList, List.length_drop, str_len']; unfold maxLen; omega⟩
          rw [run_slice_string_from_if W 9 T .i64 (k : Int) Try.underlying9, if_pos (by omega)]
          rfl
        have HE1 : Hid (resV (Bk.runR (Bk.nd s) (Bk.ins s) (Bk.off s) E.toList) = .tuple #[bv (Bk.nd u) (Bk.ins u) (Bk.off u), .bool true]) := by unfold Hid; rw [hE, hx1]; rfl
        have HF1 : Hid (resV (Bk.runR (Bk.nd u) (Bk.ins u) (Bk.off u) F.toList) = .tuple #[bv (Bk.nd v) (Bk.ins v) (Bk.off v), .bool true]) := by unfold Hid; rw [hF, hx2]; rfl
        have HV : Hid (wayV (Bk.wayB (Bk.nd s) (Bk.ins s) (Bk.off s) (Bk.nd v) (Bk.ins v) (Bk.off v)) = .tuple #[.string (mkS r), .bool true]) := by unfold Hid; rw [Bk.wayB_of hs5 hv5, hwr]; rfl
        obtain ⟨R, hR⟩ : ∃ R, R = mkS r := ⟨_, rfl⟩
        rw [← hR] at HV
        have hRz : R.size ≤ T.size := by rw [hR, mkS_size]; exact hrl
        have HEz := Lib.hid hEz
        have HFz := Lib.hid hFz
        have hvv : (Bk.nd v == Bk.nd v && (Bk.ins v == Bk.ins v && Bk.off v == Bk.off v)) = true := by rw [Bk.st_eq hv5 hv5]; simp
        have hrem : (n' : Int) % ((T.size : Int) + 1) = (k : Int) := by rw [hk]; rfl
        have HK := Lib.hid hk
        clear hst hx1 hx2 hwr hrl hE hEz hF hFz hR hk
        have hk0 : (0 : Int) ≤ k := by omega
        have hk1 : (k : Int) ≤ T.size := by omega
        go_wp2_with fail
        refine (implBlockRun_any _ _ _ _ _ HTz.out).mono ?_
        rintro e w2 ⟨rfl, hb2⟩
        rw [HRes.out]
        have HR2 := Lib.hid (HR1.out.later hb2)
        obtain ⟨b0, b1, b2, _, _, _⟩ := HR2.out
        have hlt2 : w1.heap.size < w2.heap.size := HR2.out.lt
        have Hb2 := Lib.hid (below_seq (Hb1.out.alloc Hb1.out.size _) hb2)
        clear hb2
        have HO2 := Lib.hid (room_alloc w2 (.int .i64 (Bk.nd v)) (.bool (Bk.ins v)) (.bool (Bk.off v)) 34)
        go_wp2_with fail
        refine (specBlockRun_any _ _ _ _ _ HTz.out).mono ?_
        rintro e w3 ⟨rfl, hb3⟩
        rw [HRes.out]
        have HR3 := Lib.hid ((HR2.out.alloc _).later hb3)
        have HO3 := Lib.hid (HO2.out.later hb3)
        have Hb3 := Lib.hid (below_seq (Hb2.out.alloc Hb2.out.size _) hb3)
        have hlt3 : w2.heap.size < w3.heap.size := HO3.out.lt
        clear hb3 b0 b1 b2
        obtain ⟨b0, b1, b2, _, _, _⟩ := HR3.out
        obtain ⟨q0, q1, q2, _, _, _⟩ := HO3.out
        have hlt3' : w1.heap.size < w3.heap.size := by omega
        go_wp2_with fail
        have HR4 := Lib.hid (HR3.out.alloc (.cells #[.int .i64 (Bk.nd v), .bool (Bk.ins v), .bool (Bk.off v)] 34))
        have HO4 := Lib.hid (HO3.out.alloc (.cells #[.int .i64 (Bk.nd v), .bool (Bk.ins v), .bool (Bk.off v)] 34))
        have Hb4 := Lib.hid (Hb3.out.alloc Hb3.out.size (.cells #[.int .i64 (Bk.nd v), .bool (Bk.ins v), .bool (Bk.off v)] 34))
        generalize w3.alloc (.cells #[.int .i64 (Bk.nd v), .bool (Bk.ins v), .bool (Bk.off v)] 34) = w4 at HR4 HO4 Hb4 ⊢
        clear b0 b1 b2 q0 q1 q2 hlt2 hlt3 hlt3' HR2 HR3 HO2 HO3
        obtain ⟨b0, b1, b2, _, _, _⟩ := HR4.out
        have e0 : ∀ o', (w4.drew.alloc o').cell? ⟨w1.heap.size, 0, none⟩ = some (.int .i64 (Bk.nd s)) := fun o' => (HR4.out.drew.alloc o').1
        have e1 : ∀ o', (w4.drew.alloc o').cell? ⟨w1.heap.size, 1, none⟩ = some (.bool (Bk.ins s)) := fun o' => (HR4.out.drew.alloc o').2.1
        have e2 : ∀ o', (w4.drew.alloc o').cell? ⟨w1.heap.size, 2, none⟩ = some (.bool (Bk.off s)) := fun o' => (HR4.out.drew.alloc o').2.2.1
        have hlt4 : w1.heap.size < w4.heap.size := HR4.out.lt
        have hlt4o : w2.heap.size < w4.heap.size := HO4.out.lt
        have hne4 : ¬ w1.heap.size = w4.heap.size := by omega
        have hne4o : ¬ w2.heap.size = w4.heap.size := by omega
        go_region_held3 (fun W => (W.cell? ⟨w1.heap.size, 0, none⟩ = some (.int .i64 (Bk.nd s)) ∧ W.cell? ⟨w1.heap.size, 1, none⟩ = some (.bool (Bk.ins s)) ∧ W.cell? ⟨w1.heap.size, 2, none⟩ = some (.bool (Bk.off s))))
          (first | exact ⟨b0, b1, b2⟩ | exact ⟨c0, c1, c2⟩ | exact ⟨e0 _, e1 _, e2 _⟩ | exact room3 (Room.far3 HR6.out hne4 (.int .i64 (Bk.nd u)) (.bool (Bk.ins u)) (.bool (Bk.off u))) | exact room3 (HR6.out.alloc _) | go_keep)
          (first | (go_at_call 27; refine (implBlockRun_any _ _ _ E _ HEz.out).mono ?_; rintro e w6 ⟨rfl, hb6⟩; rw [HE1.out]; have HR6 : Hid (Room w6 w1.heap.size (.int .i64 (Bk.nd s)) (.bool (Bk.ins s)) (.bool (Bk.off s))) := (by first | exact HR4.out.drew.later hb6 | exact (HR4.out.drew.alloc _).later hb6); have HO6 : Hid (Room w6 w2.heap.size (.int .i64 (Bk.nd v)) (.bool (Bk.ins v)) (.bool (Bk.off v))) := (by first | exact HO4.out.drew.later hb6 | exact (HO4.out.drew.alloc _).later hb6); obtain ⟨c0, c1, c2, _, _, _⟩ := HR6.out; have hlt6 : w1.heap.size < w6.heap.size := HR6.out.lt; have Hb6 : Hid (Below w.heap.size w w6) := (by first | exact below_seq Hb4.out.drew hb6 | exact below_seq (Hb4.out.drew.alloc Hb4.out.size _) hb6); (try (have HNx : Hid (Room w6 w4.heap.size (.int .i64 0) (.bool false) (.bool false)) := (by exact (room_new _ _ _ _ _).later hb6); obtain ⟨z0, z1, z2, v0, v1, v2⟩ := HNx.out)); clear hb6))
        all_goals go_wp2_with fail
        all_goals clear b0 b1 b2 c0 c1 c2 e0 e1 e2
        all_goals first
          | (have HX7 : Hid (Room (((w6.setCell ⟨w4.heap.size, 0, none⟩ (.int .i64 (Bk.nd u))).setCell ⟨w4.heap.size, 1, none⟩ (.bool (Bk.ins u))).setCell ⟨w4.heap.size, 2, none⟩ (.bool (Bk.off u))) w4.heap.size (.int .i64 (Bk.nd u)) (.bool (Bk.ins u)) (.bool (Bk.off u))) := HNx.out.set3 (.int .i64 (Bk.nd u)) (.bool (Bk.ins u)) (.bool (Bk.off u))
             have HR7 : Hid (Room (((w6.setCell ⟨w4.heap.size, 0, none⟩ (.int .i64 (Bk.nd u))).setCell ⟨w4.heap.size, 1, none⟩ (.bool (Bk.ins u))).setCell ⟨w4.heap.size, 2, none⟩ (.bool (Bk.off u))) w1.heap.size (.int .i64 (Bk.nd s)) (.bool (Bk.ins s)) (.bool (Bk.off s))) := Room.far3 HR6.out hne4 (.int .i64 (Bk.nd u)) (.bool (Bk.ins u)) (.bool (Bk.off u))
             have HO7 : Hid (Room (((w6.setCell ⟨w4.heap.size, 0, none⟩ (.int .i64 (Bk.nd u))).setCell ⟨w4.heap.size, 1, none⟩ (.bool (Bk.ins u))).setCell ⟨w4.heap.size, 2, none⟩ (.bool (Bk.off u))) w2.heap.size (.int .i64 (Bk.nd v)) (.bool (Bk.ins v)) (.bool (Bk.off v))) := Room.far3 HO6.out hne4o (.int .i64 (Bk.nd u)) (.bool (Bk.ins u)) (.bool (Bk.off u))
             have Hb7 : Hid (Below w.heap.size w (((w6.setCell ⟨w4.heap.size, 0, none⟩ (.int .i64 (Bk.nd u))).setCell ⟨w4.heap.size, 1, none⟩ (.bool (Bk.ins u))).setCell ⟨w4.heap.size, 2, none⟩ (.bool (Bk.off u)))) := Hb6.out.grown (gw_set3 w6 w4.heap.size (.int .i64 (Bk.nd u)) (.bool (Bk.ins u)) (.bool (Bk.off u))) Hb6.out.size (fun r h => by cases h; exact Hb4.out.size)
             generalize (((w6.setCell ⟨w4.heap.size, 0, none⟩ (.int .i64 (Bk.nd u))).setCell ⟨w4.heap.size, 1, none⟩ (.bool (Bk.ins u))).setCell ⟨w4.heap.size, 2, none⟩ (.bool (Bk.off u))) = W7 at HX7 HR7 HO7 Hb7 ⊢
             generalize w4.heap.size = X7 at HX7 ⊢)
          | (have HX7 := Lib.hid (room_alloc w6 (.int .i64 (Bk.nd u)) (.bool (Bk.ins u)) (.bool (Bk.off u)) 34)
             have HR7 := Lib.hid (HR6.out.alloc (.cells #[.int .i64 (Bk.nd u), .bool (Bk.ins u), .bool (Bk.off u)] 34))
             have HO7 := Lib.hid (HO6.out.alloc (.cells #[.int .i64 (Bk.nd u), .bool (Bk.ins u), .bool (Bk.off u)] 34))
             have Hb7 := Lib.hid (Hb6.out.alloc Hb6.out.size (.cells #[.int .i64 (Bk.nd u), .bool (Bk.ins u), .bool (Bk.off u)] 34))
             generalize w6.alloc (.cells #[.int .i64 (Bk.nd u), .bool (Bk.ins u), .bool (Bk.off u)] 34) = W7 at HX7 HR7 HO7 Hb7 ⊢
             generalize w6.heap.size = X7 at HX7 ⊢)
        all_goals obtain ⟨b0, b1, b2, _, _, _⟩ := HX7.out
        all_goals have e0 : ∀ o', (W7.drew.alloc o').cell? ⟨X7, 0, none⟩ = some (.int .i64 (Bk.nd u)) := fun o' => (HX7.out.drew.alloc o').1
        all_goals have e1 : ∀ o', (W7.drew.alloc o').cell? ⟨X7, 1, none⟩ = some (.bool (Bk.ins u)) := fun o' => (HX7.out.drew.alloc o').2.1
        all_goals have e2 : ∀ o', (W7.drew.alloc o').cell? ⟨X7, 2, none⟩ = some (.bool (Bk.off u)) := fun o' => (HX7.out.drew.alloc o').2.2.1
        all_goals have hltX : X7 < W7.heap.size := HX7.out.lt
        all_goals have hltR : w1.heap.size < W7.heap.size := HR7.out.lt
        all_goals have hltO : w2.heap.size < W7.heap.size := HO7.out.lt
        all_goals have hneX : ¬ X7 = W7.heap.size := by omega
        all_goals have hneR : ¬ w1.heap.size = W7.heap.size := by omega
        all_goals have hneO : ¬ w2.heap.size = W7.heap.size := by omega
        all_goals go_region_held3 (fun W => (W.cell? ⟨X7, 0, none⟩ = some (.int .i64 (Bk.nd u)) ∧ W.cell? ⟨X7, 1, none⟩ = some (.bool (Bk.ins u)) ∧ W.cell? ⟨X7, 2, none⟩ = some (.bool (Bk.off u)))) (first | exact ⟨b0, b1, b2⟩ | exact ⟨c0, c1, c2⟩ | exact ⟨e0 _, e1 _, e2 _⟩ | exact room3 (Room.far3 HX8.out hneX (.int .i64 (Bk.nd v)) (.bool (Bk.ins v)) (.bool (Bk.off v))) | exact room3 (HX8.out.alloc _) | go_keep) (first | (go_at_call 27; refine (implBlockRun_any _ _ _ F _ HFz.out).mono ?_; rintro e w8 ⟨rfl, hb8⟩; rw [HF1.out]; have HX8 : Hid (Room w8 X7 (.int .i64 (Bk.nd u)) (.bool (Bk.ins u)) (.bool (Bk.off u))) := (by first | exact HX7.out.drew.later hb8 | exact (HX7.out.drew.alloc _).later hb8); have HR8 : Hid (Room w8 w1.heap.size (.int .i64 (Bk.nd s)) (.bool (Bk.ins s)) (.bool (Bk.off s))) := (by first | exact HR7.out.drew.later hb8 | exact (HR7.out.drew.alloc _).later hb8); have HO8 : Hid (Room w8 w2.heap.size (.int .i64 (Bk.nd v)) (.bool (Bk.ins v)) (.bool (Bk.off v))) := (by first | exact HO7.out.drew.later hb8 | exact (HO7.out.drew.alloc _).later hb8); obtain ⟨c0, c1, c2, _, _, _⟩ := HX8.out; have hlt8 : X7 < w8.heap.size := HX8.out.lt; have Hb8 : Hid (Below w.heap.size w w8) := (by first | exact below_seq Hb7.out.drew hb8 | exact below_seq (Hb7.out.drew.alloc Hb7.out.size _) hb8); (try (have HNy : Hid (Room w8 W7.heap.size (.int .i64 0) (.bool false) (.bool false)) := (by exact (room_new _ _ _ _ _).later hb8); obtain ⟨z0, z1, z2, v0, v1, v2⟩ := HNy.out)); clear hb8))
        all_goals (try clear b0 b1 b2 c0 c1 c2 e0 e1 e2)
        all_goals first
          | (have HY9 : Hid (Room (((w8.setCell ⟨W7.heap.size, 0, none⟩ (.int .i64 (Bk.nd v))).setCell ⟨W7.heap.size, 1, none⟩ (.bool (Bk.ins v))).setCell ⟨W7.heap.size, 2, none⟩ (.bool (Bk.off v))) W7.heap.size (.int .i64 (Bk.nd v)) (.bool (Bk.ins v)) (.bool (Bk.off v))) := HNy.out.set3 (.int .i64 (Bk.nd v)) (.bool (Bk.ins v)) (.bool (Bk.off v))
             have HR9 : Hid (Room (((w8.setCell ⟨W7.heap.size, 0, none⟩ (.int .i64 (Bk.nd v))).setCell ⟨W7.heap.size, 1, none⟩ (.bool (Bk.ins v))).setCell ⟨W7.heap.size, 2, none⟩ (.bool (Bk.off v))) w1.heap.size (.int .i64 (Bk.nd s)) (.bool (Bk.ins s)) (.bool (Bk.off s))) := Room.far3 HR8.out hneR (.int .i64 (Bk.nd v)) (.bool (Bk.ins v)) (.bool (Bk.off v))
             have HO9 : Hid (Room (((w8.setCell ⟨W7.heap.size, 0, none⟩ (.int .i64 (Bk.nd v))).setCell ⟨W7.heap.size, 1, none⟩ (.bool (Bk.ins v))).setCell ⟨W7.heap.size, 2, none⟩ (.bool (Bk.off v))) w2.heap.size (.int .i64 (Bk.nd v)) (.bool (Bk.ins v)) (.bool (Bk.off v))) := Room.far3 HO8.out hneO (.int .i64 (Bk.nd v)) (.bool (Bk.ins v)) (.bool (Bk.off v))
             have Hb9 : Hid (Below w.heap.size w (((w8.setCell ⟨W7.heap.size, 0, none⟩ (.int .i64 (Bk.nd v))).setCell ⟨W7.heap.size, 1, none⟩ (.bool (Bk.ins v))).setCell ⟨W7.heap.size, 2, none⟩ (.bool (Bk.off v)))) := Hb8.out.grown (gw_set3 w8 W7.heap.size (.int .i64 (Bk.nd v)) (.bool (Bk.ins v)) (.bool (Bk.off v))) Hb8.out.size (fun r h => by cases h; exact Hb7.out.size)
             generalize (((w8.setCell ⟨W7.heap.size, 0, none⟩ (.int .i64 (Bk.nd v))).setCell ⟨W7.heap.size, 1, none⟩ (.bool (Bk.ins v))).setCell ⟨W7.heap.size, 2, none⟩ (.bool (Bk.off v))) = W9 at HY9 HR9 HO9 Hb9 ⊢
             generalize W7.heap.size = Y9 at HY9 ⊢)
          | (have HY9 := Lib.hid (room_alloc w8 (.int .i64 (Bk.nd v)) (.bool (Bk.ins v)) (.bool (Bk.off v)) 34)
             have HR9 := Lib.hid (HR8.out.alloc (.cells #[.int .i64 (Bk.nd v), .bool (Bk.ins v), .bool (Bk.off v)] 34))
             have HO9 := Lib.hid (HO8.out.alloc (.cells #[.int .i64 (Bk.nd v), .bool (Bk.ins v), .bool (Bk.off v)] 34))
             have Hb9 := Lib.hid (Hb8.out.alloc Hb8.out.size (.cells #[.int .i64 (Bk.nd v), .bool (Bk.ins v), .bool (Bk.off v)] 34))
             generalize w8.alloc (.cells #[.int .i64 (Bk.nd v), .bool (Bk.ins v), .bool (Bk.off v)] 34) = W9 at HY9 HR9 HO9 Hb9 ⊢
             generalize w8.heap.size = Y9 at HY9 ⊢)
        all_goals obtain ⟨b0, b1, b2, _, _, _⟩ := HR9.out
        all_goals obtain ⟨q0, q1, q2, _, _, _⟩ := HO9.out
        all_goals go_wp2_with fail
        all_goals refine (implBlockWay_any _ _ _ _ _ _ _).mono ?_
        all_goals rintro e w10 ⟨rfl, hb10⟩
        all_goals rw [HV.out]
        all_goals obtain ⟨x0, x1, x2, _, _, _⟩ := HY9.out.later hb10
        all_goals obtain ⟨y0, y1, y2, _, _, _⟩ := HO9.out.later hb10
        all_goals have Hb10 := Lib.hid (below_seq Hb9.out hb10)
        all_goals clear hb10 b0 b1 b2 q0 q1 q2
        all_goals go_wp2_with fail
        all_goals go_ret
        all_goals exact ⟨by first | rfl | exact ret_bool (decide_eq_true (by omega)), Hb10.out⟩
end Go.Proofs.Ytlneedjhdnjnpaa
