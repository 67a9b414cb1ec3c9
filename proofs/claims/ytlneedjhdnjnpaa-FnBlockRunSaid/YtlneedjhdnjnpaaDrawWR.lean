/-
  Contracts of DrawBlockWay and DrawBlockRun: some blocks, some text, in a world where old memory is as it was.
-/
import Derived.Test.YtlneedjhdnjnpaaDrawStep
namespace Go.Proofs.Ytlneedjhdnjnpaa
open Go.RowKit
set_option linter.unusedVariables false
attribute [local go_sem ↓] Go.wp_at_zero Go.wp_at_succ run_eql_block run_neq_block

set_option maxRecDepth 100000 in
set_option maxHeartbeats 8000000 in
theorem DrawBlockRun_any (A : Option Addr) (n c : Nat) (bs : List UInt8) (w : World) (hx : RdB w A n bs) (hl : n ≤ c) (hc : c ≤ maxLen) :
    Calls Try.prog 50 #[.slice A n c] w (DrewBT 42 w) := by
  have HX := Lib.hid hx
  clear hx
  go_enter Try.func50, Try.ntmps50
  go_wp2_with fail
  refine (l6Open_any _ _ _ bs _ (Rd.alloc HX.out _) hl hc).mono ?_
  rintro e w1 ⟨rfl, hs1, hb1⟩
  simp only [World.size_alloc] at hs1 ⊢
  have HS1 := Lib.hid hs1
  have HR1 := Lib.hid ((room_alloc w (.int .i64 0) (.bool false) (.bool false) 34).later hb1)
  have Hb1 := Lib.hid (below_seq ((Below.refl w.heap.size w).alloc (Nat.le_refl _) _) hb1)
  clear hs1 hb1
  go_wp2_with fail
  refine (l91Block_any _ _ _ _ HS1.out (by omega)).mono ?_
  rintro e w2 ⟨bn, bi, bo, p2, rfl, hbn1, hbn3, hp2, hs2, hg2⟩
  have HS2 := Lib.hid hs2
  have HR2 := Lib.hid (HR1.out.grown hg2 (fun r h => by cases h; omega))
  have Hb2 := Lib.hid (below_src Hb1.out hg2 (by omega))
  have hlt2 : w.heap.size < w2.heap.size := HR2.out.lt
  have hL2 : w.heap.size + 1 + 1 ≤ w2.heap.size := hs2.lts.2
  clear hs2 hg2
  have HB2 := Lib.hid (room_alloc w2 (.int .i64 bn) (.bool bi) (.bool bo) 34)
  have HRa := Lib.hid (HR2.out.alloc (.cells #[.int .i64 bn, .bool bi, .bool bo] 34))
  have HSa := Lib.hid (HS2.out.alloc (.cells #[.int .i64 bn, .bool bi, .bool bo] 34))
  have Hba := Lib.hid (Hb2.out.alloc (by omega) (.cells #[.int .i64 bn, .bool bi, .bool bo] 34))
  go_wp2_with fail
  generalize w2.alloc (.cells #[.int .i64 bn, .bool bi, .bool bo] 34) = w3 at HB2 HRa HSa Hba ⊢
  obtain ⟨b0, b1, b2, _, _, _⟩ := HB2.out
  obtain ⟨d0, d1, d2, f0, f1, f2⟩ := HRa.out
  have HSd : Hid (Src w3.drew (w.heap.size + 1 + 1) (w.heap.size + 1) p2) := HSa.out
  have HRd : Hid (Room w3.drew w.heap.size (.int .i64 0) (.bool false) (.bool false)) := HRa.out
  have HBd : Hid (Room w3.drew w2.heap.size (.int .i64 bn) (.bool bi) (.bool bo)) := HB2.out
  have Hbd : Hid (Below w.heap.size w w3.drew) := Hba.out.drew
  have hne : ¬ w.heap.size = w2.heap.size := by omega
  have hne' : ¬ w2.heap.size = w.heap.size := by omega
  go_region_with (first
    | (go_at_call 53; refine (pick_any _ _ _ _ _ HSd.out (by omega) (by omega)).mono ?_; rintro e w4 ⟨x, rfl, hx1, _, hs4, hg4⟩; obtain ⟨hx0, hx14⟩ := hx1 (by omega); have HS4 := Lib.hid hs4; have HR4 := Lib.hid (HRd.out.grown hg4 (fun r h => by cases h; omega)); have HB4 := Lib.hid (HBd.out.grown hg4 (fun r h => by cases h; omega)); have Hb4 := Lib.hid (below_src Hbd.out hg4 (by omega)); obtain ⟨y0, y1, y2, _, _, _⟩ := HB4.out; clear hs4 hg4 hx1)
    | (go_at_call 75; refine (l91Events_any _ _ _ bn bi bo x _ HS4.out (by omega) (by omega)).mono ?_; rintro e w5 ⟨T, p5, rfl, hT, hp5, hs5, hg5⟩; have HR5 := Lib.hid (HR4.out.grown hg5 (fun r h => by cases h; omega)); have HB5 := Lib.hid (HB4.out.grown hg5 (fun r h => by cases h; omega)); have Hb5 := Lib.hid (below_src Hb4.out hg5 (by omega)); clear hs5 hg5; obtain ⟨q0, q1, q2, g0, g1, g2⟩ := HR5.out; obtain ⟨z0, z1, z2, _, _, _⟩ := HB5.out))
  all_goals go_wp2_with fail
  all_goals refine bodyPost_ret (v := .tuple #[bv bn bi bo, .string T]) (by simp [results, Try.results50, go_sem, q0, q1, q2]) rfl ?_
  all_goals exact ⟨bn, bi, bo, T, rfl, hbn1, hbn3, by omega, Hb5.out.grown (gw_set3 _ _ _ _ _) Hb5.out.size (fun r h => by cases h; exact Nat.le_refl _)⟩
set_option maxRecDepth 100000 in
set_option maxHeartbeats 8000000 in
theorem DrawBlockWay_any (A : Option Addr) (n c : Nat) (bs : List UInt8) (w : World) (hx : RdB w A n bs) (hl : n ≤ c) (hc : c ≤ maxLen) :
    Calls Try.prog 47 #[.slice A n c] w fun e w' => ∃ bn bi bo dn di dd, e = .returned (.tuple #[bv bn bi bo, bv dn di dd]) ∧ Below w.heap.size w w' := by
  have HX := Lib.hid hx
  clear hx
  go_enter Try.func47, Try.ntmps47
  go_wp2_with fail
  refine (l6Open_any _ _ _ bs _ (Rd.alloc (Rd.alloc HX.out _) _) hl hc).mono ?_
  rintro e w1 ⟨rfl, hs1, hb1⟩
  simp only [World.size_alloc] at hs1 ⊢
  have HS1 := Lib.hid hs1
  have HR1 := Lib.hid (((room_alloc w (.int .i64 0) (.bool false) (.bool false) 34).alloc (.cells #[.int .i64 0, .bool false, .bool false] 34)).later hb1)
  have HQ1 : Hid (Room w1 (w.heap.size + 1) (.int .i64 0) (.bool false) (.bool false)) := Room.later (by have := room_alloc (w.alloc (.cells #[.int .i64 0, .bool false, .bool false] 34)) (.int .i64 0) (.bool false) (.bool false) 34; simpa using this) hb1
  have Hb1 := Lib.hid (below_seq (((Below.refl w.heap.size w).alloc (Nat.le_refl _) (.cells #[.int .i64 0, .bool false, .bool false] 34)).alloc (by simp) (.cells #[.int .i64 0, .bool false, .bool false] 34)) hb1)
  clear hs1 hb1
  go_wp2_with fail
  refine (l91Block_any _ _ _ _ HS1.out (by omega)).mono ?_
  rintro e w2 ⟨bn, bi, bo, p2, rfl, hbn1, hbn3, hp2, hs2, hg2⟩
  have HS2 := Lib.hid hs2
  have HR2 := Lib.hid (HR1.out.grown hg2 (fun r h => by cases h; omega))
  have HQ2 := Lib.hid (HQ1.out.grown hg2 (fun r h => by cases h; omega))
  have Hb2 := Lib.hid (below_src Hb1.out hg2 (by omega))
  have hL2 : w.heap.size + 1 + 1 + 1 ≤ w2.heap.size := hs2.lts.2
  clear hs2 hg2
  have HB2 := Lib.hid (room_alloc w2 (.int .i64 bn) (.bool bi) (.bool bo) 34)
  have HRa := Lib.hid (HR2.out.alloc (.cells #[.int .i64 bn, .bool bi, .bool bo] 34))
  have HQa := Lib.hid (HQ2.out.alloc (.cells #[.int .i64 bn, .bool bi, .bool bo] 34))
  have HSa := Lib.hid (HS2.out.alloc (.cells #[.int .i64 bn, .bool bi, .bool bo] 34))
  have Hba := Lib.hid (Hb2.out.alloc (by omega) (.cells #[.int .i64 bn, .bool bi, .bool bo] 34))
  go_wp2_with fail
  generalize w2.alloc (.cells #[.int .i64 bn, .bool bi, .bool bo] 34) = w3 at HB2 HRa HQa HSa Hba ⊢
  obtain ⟨b0, b1, b2, _, _, _⟩ := HB2.out
  have HSd : Hid (Src w3.drew (w.heap.size + 1 + 1 + 1) (w.heap.size + 1 + 1) p2) := HSa.out
  have HRd : Hid (Room w3.drew w.heap.size (.int .i64 0) (.bool false) (.bool false)) := HRa.out
  have HQd : Hid (Room w3.drew (w.heap.size + 1) (.int .i64 0) (.bool false) (.bool false)) := HQa.out
  have HBd : Hid (Room w3.drew w2.heap.size (.int .i64 bn) (.bool bi) (.bool bo)) := HB2.out
  have Hbd : Hid (Below w.heap.size w w3.drew) := Hba.out.drew
  have hne : ¬ w.heap.size = w2.heap.size := by omega
  have hne' : ¬ w2.heap.size = w.heap.size := by omega
  have hne2 : ¬ w.heap.size + 1 = w2.heap.size := by omega
  have hne2' : ¬ w2.heap.size = w.heap.size + 1 := by omega
  go_region_with (first
    | (go_at_call 61; refine (l91Block_any _ _ _ _ HSd.out (by omega)).mono ?_; rintro e w5 ⟨dn, di, dd, p5, rfl, hdn1, hdn3, hp5, hs5, hg5⟩; have HR5 := Lib.hid (HRd.out.grown hg5 (fun r h => by cases h; omega)); have HQ5 := Lib.hid (HQd.out.grown hg5 (fun r h => by cases h; omega)); have HB5 := Lib.hid (HBd.out.grown hg5 (fun r h => by cases h; omega)); have Hb5 := Lib.hid (below_src Hbd.out hg5 (by omega)); clear hs5 hg5; obtain ⟨q0, q1, q2, g0, g1, g2⟩ := HR5.out; obtain ⟨s0, s1, s2, t0, t1, t2⟩ := HQ5.out; obtain ⟨z0, z1, z2, _, _, _⟩ := HB5.out))
  all_goals go_wp2_with fail
  all_goals refine bodyPost_ret (v := .tuple #[bv bn bi bo, bv dn di dd]) (by simp [results, Try.results47, go_sem, q0, q1, q2, s0, s1, s2]) rfl ?_
  all_goals refine ⟨bn, bi, bo, dn, di, dd, rfl, ?_⟩
  all_goals first
    | exact (Hb5.out.grown (gw_set3 _ _ _ _ _) Hb5.out.size (fun r h => by cases h; exact Nat.le_refl _)).grown (gw_set3 _ _ _ _ _) (by simpa using Hb5.out.size) (fun r h => by cases h; exact Nat.le_succ _)
    | (have hb4 := Hb5.out; go_grown)
end Go.Proofs.Ytlneedjhdnjnpaa
