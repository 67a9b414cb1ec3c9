/-
  Contracts of DrawBlockNext, DrawBlockMany: some block (and some number), in a world where old memory is as it was.
-/
import Derived.Test.YtlneedjhdnjnpaaDrawBlk
import Derived.Deep.RegionHeld3
namespace Go.Proofs.Ytlneedjhdnjnpaa
open Go.RowKit
set_option linter.unusedVariables false
attribute [local go_sem ↓] Go.wp_at_zero Go.wp_at_succ run_eql_block run_neq_block

theorem lit_many {un : Nat} (h : un < 3) : ∃ v : Int, (∀ (W : World) (t : TypeId), (W.alloc (.cells #[.int .i64 (-1), .int .i64 30, .int .i64 31] t)).cell? ⟨W.heap.size, un, none⟩ = some (.int .i64 v)) ∧ ∀ h' : un < ([Value.int .i64 (-1), .int .i64 30, .int .i64 31] : List Value).length, ([Value.int .i64 (-1), .int .i64 30, .int .i64 31] : List Value)[un]'h' = .int .i64 v := by
  have : un = 0 ∨ un = 1 ∨ un = 2 := by omega
  rcases this with rfl | rfl | rfl
  · exact ⟨-1, fun W t => by simp [go_sem], fun _ => rfl⟩
  · exact ⟨30, fun W t => by simp [go_sem], fun _ => rfl⟩
  · exact ⟨31, fun W t => by simp [go_sem], fun _ => rfl⟩
set_option maxRecDepth 100000 in
set_option maxHeartbeats 8000000 in
theorem DrawBlockMany_any (A : Option Addr) (n c : Nat) (bs : List UInt8) (w : World) (hx : RdB w A n bs) (hl : n ≤ c) (hc : c ≤ maxLen) :
    Calls Try.prog 37 #[.slice A n c] w fun e w' => ∃ (bn : Int) (bi bo : Bool) (m : Int), e = .returned (.tuple #[bv bn bi bo, .int .i64 m]) ∧ Below w.heap.size w w' := by
  have HX := Lib.hid hx
  clear hx
  go_enter Try.func37, Try.ntmps37
  go_wp2_with fail
  refine (l6Open_any _ _ _ bs _ (Rd.alloc HX.out _) hl hc).mono ?_
  rintro e w1 ⟨rfl, hs1, hb1⟩
  simp only [World.size_alloc] at hs1 ⊢
  have HS1 := Lib.hid hs1
  have HR1 := Lib.hid ((room_alloc w (.int .i64 0) (.bool false) (.bool false) 34).later hb1)
  have Hb1 := Lib.hid (below_seq ((Below.refl w.heap.size w).alloc (Nat.le_refl _) _) hb1)
  clear hs1 hb1
  go_wp2_with fail
  refine (l91Block_any _ _ _ _ HS1.out (by omega)).mono ?_
  rintro e w2 ⟨bn, bi, bo, p2, rfl, hbn1, hbn3, hp2, hs2, hg2⟩
  have HS2 := Lib.hid hs2
  have HR2 := Lib.hid (HR1.out.grown hg2 (fun r h => by cases h; omega))
  have Hb2 := Lib.hid (below_src Hb1.out hg2 (by omega))
  have hlt2 : w.heap.size < w2.heap.size := HR2.out.lt
  have hL2 : w.heap.size + 1 + 1 ≤ w2.heap.size := hs2.lts.2
  clear hs2 hg2
  go_wp2_with fail
  refine (pick_any _ _ _ _ _ (HS2.out.alloc _) (by omega) (by omega)).mono ?_
  rintro e w3 ⟨x, rfl, _, _, hs3, hg3⟩
  have HS3 := Lib.hid hs3
  have HR3 := Lib.hid ((HR2.out.alloc _).grown hg3 (fun r h => by cases h; omega))
  have HB3 := Lib.hid ((room_alloc w2 (.int .i64 bn) (.bool bi) (.bool bo) 34).grown hg3 (fun r h => by cases h; omega))
  have Hb3 := Lib.hid (below_src (Hb2.out.alloc (by omega) _) hg3 (by omega))
  have hlt3 : w2.heap.size < w3.heap.size := HB3.out.lt
  clear hs3 hg3
  have hne : ¬ w.heap.size = w2.heap.size := by omega
  have hne' : ¬ w2.heap.size = w.heap.size := by omega
  obtain ⟨b0, b1, b2, _, _, _⟩ := HB3.out
  obtain ⟨d0, d1, d2, f0, f1, f2⟩ := HR3.out
  have HSd : Hid (Src w3.drew (w.heap.size + 1 + 1) (w.heap.size + 1) (p2 + 1)) := HS3.out
  have HRd : Hid (Room w3.drew w.heap.size (.int .i64 0) (.bool false) (.bool false)) := HR3.out
  have HBd : Hid (Room w3.drew w2.heap.size (.int .i64 bn) (.bool bi) (.bool bo)) := HB3.out
  have Hbd : Hid (Below w.heap.size w w3.drew) := Hb3.out.drew
  by_cases hx0 : x = 0
  · subst hx0
    have hltW : w2.heap.size < w3.heap.size := HB3.out.lt
    have hltW' : w.heap.size < w3.heap.size := HR3.out.lt
    have hne3 : ¬ w2.heap.size = w3.heap.size := by omega
    have hne4 : ¬ w.heap.size = w3.heap.size := by omega
    have e0 : ∀ o', (w3.alloc o').cell? ⟨w2.heap.size, 0, none⟩ = some (.int .i64 bn) := fun o' => (HB3.out.alloc o').1
    have e1 : ∀ o', (w3.alloc o').cell? ⟨w2.heap.size, 1, none⟩ = some (.bool bi) := fun o' => (HB3.out.alloc o').2.1
    have e2 : ∀ o', (w3.alloc o').cell? ⟨w2.heap.size, 2, none⟩ = some (.bool bo) := fun o' => (HB3.out.alloc o').2.2.1
    go_wp2_with fail
    go_region_with (first
      | (go_at_call 53; refine (pick_any (w.heap.size + 1 + 1) (w.heap.size + 1) (p2 + 1) 3 _ (Src.drewS (HS3.out.alloc _)) (by omega) (by omega)).mono ?_; rintro e w5 ⟨m, rfl, hm1, _, hs5, hg5⟩; obtain ⟨hm0, hm3⟩ := hm1 (by omega); obtain ⟨un, rfl⟩ := Int.eq_ofNat_of_zero_le hm0; have hun : un < 3 := (by omega); obtain ⟨v, hv, hve⟩ := lit_many hun; have hv5 := hv w5 3; have hv3 : w5.cell? ⟨w3.heap.size, un, none⟩ = some (.int .i64 v) := (hg5.cell (a := ⟨w3.heap.size, un, none⟩) (by simpa using hv w3 3) (fun e => by injection e with e; have e' : w3.heap.size = w.heap.size + 1 := e; omega)); have HR5 := Lib.hid ((HR3.out.alloc _).drew.grown hg5 (fun r h => by cases h; omega)); have HB5 := Lib.hid ((HB3.out.alloc _).drew.grown hg5 (fun r h => by cases h; omega)); have Hb5 : Hid (Below w.heap.size w w5) := (below_src (Hb3.out.alloc (by omega) _).drew hg5 (by omega)); obtain ⟨q0, q1, q2, g0, g1, g2⟩ := HR5.out; obtain ⟨x0, x1, x2, _, _, _⟩ := HB5.out; have hlt5 : w2.heap.size < w5.heap.size := HB5.out.lt; have hlt6 : w.heap.size < w5.heap.size := HR5.out.lt; have hne5 : ¬ w2.heap.size = w5.heap.size := (by omega); have hne6 : ¬ w.heap.size = w5.heap.size := (by omega); have ex0 : ∀ o', (w5.alloc o').cell? ⟨w2.heap.size, 0, none⟩ = some (.int .i64 bn) := (fun o' => (HB5.out.alloc o').1); have ex1 : ∀ o', (w5.alloc o').cell? ⟨w2.heap.size, 1, none⟩ = some (.bool bi) := (fun o' => (HB5.out.alloc o').2.1); have ex2 : ∀ o', (w5.alloc o').cell? ⟨w2.heap.size, 2, none⟩ = some (.bool bo) := (fun o' => (HB5.out.alloc o').2.2.1); clear hs5 hg5 hm1 hm0 hm3 b0 b1 b2 d0 d1 d2 f0 f1 f2 e0 e1 e2)
      | (go_at_call 53; refine (pick_any (w.heap.size + 1 + 1) (w.heap.size + 1) (p2 + 1) 3 _ HSd.out (by omega) (by omega)).mono ?_; rintro e w5 ⟨m, rfl, hm1, _, hs5, hg5⟩; obtain ⟨hm0, hm3⟩ := hm1 (by omega); obtain ⟨un, rfl⟩ := Int.eq_ofNat_of_zero_le hm0; have hun : un < 3 := (by omega); obtain ⟨v, hv, hve⟩ := lit_many hun; have hv5 := hv w5 3; have HR5 := Lib.hid (HRd.out.grown hg5 (fun r h => by cases h; omega)); have HB5 := Lib.hid (HBd.out.grown hg5 (fun r h => by cases h; omega)); have Hb5 : Hid (Below w.heap.size w w5) := (below_src Hbd.out hg5 (by omega)); obtain ⟨q0, q1, q2, g0, g1, g2⟩ := HR5.out; obtain ⟨x0, x1, x2, _, _, _⟩ := HB5.out; have hlt5 : w2.heap.size < w5.heap.size := HB5.out.lt; have hlt6 : w.heap.size < w5.heap.size := HR5.out.lt; have hne5 : ¬ w2.heap.size = w5.heap.size := (by omega); have hne6 : ¬ w.heap.size = w5.heap.size := (by omega); have ex0 : ∀ o', (w5.alloc o').cell? ⟨w2.heap.size, 0, none⟩ = some (.int .i64 bn) := (fun o' => (HB5.out.alloc o').1); have ex1 : ∀ o', (w5.alloc o').cell? ⟨w2.heap.size, 1, none⟩ = some (.bool bi) := (fun o' => (HB5.out.alloc o').2.1); have ex2 : ∀ o', (w5.alloc o').cell? ⟨w2.heap.size, 2, none⟩ = some (.bool bo) := (fun o' => (HB5.out.alloc o').2.2.1); clear hs5 hg5 hm1 hm0 hm3 b0 b1 b2 d0 d1 d2 f0 f1 f2 e0 e1 e2))
    all_goals go_wp2_with fail
    all_goals refine bodyPost_ret (v := .tuple #[bv bn bi bo, .int .i64 v]) (by first | (simp [results, Try.results37, go_sem, q0, q1, q2, hlt6]; done) | (simp [results, Try.results37, go_sem, q0, q1, q2, hlt6]; exact hve _)) rfl ?_
    all_goals first
      | exact ⟨bn, bi, bo, v, rfl, Hb5.out.grown (gw_set3 _ _ _ _ _) Hb5.out.size (fun r h => by cases h; exact Nat.le_refl _)⟩
      | exact ⟨bn, bi, bo, v, rfl, (Hb5.out.alloc Hb5.out.size _).grown (gw_set3 _ _ _ _ _) (by simp; omega) (fun r h => by cases h; exact Nat.le_refl _)⟩
      | exact ⟨bn, bi, bo, v, rfl, (Hb5.out.grown (gw_set3 _ _ _ _ _) Hb5.out.size (fun r h => by cases h; exact Nat.le_refl _)).alloc (by simp; omega) _⟩
  · have hx1 : (x == 0) = false := by simpa using hx0
    clear hx0
    go_wp2_with fail
    go_region_held3 (fun W => W.cell? ⟨w2.heap.size, 0, none⟩ = some (.int .i64 bn) ∧ W.cell? ⟨w2.heap.size, 1, none⟩ = some (.bool bi) ∧ W.cell? ⟨w2.heap.size, 2, none⟩ = some (.bool bo))
      (first | exact ⟨b0, b1, b2⟩ | exact ⟨x0, x1, x2⟩ | go_keep)
      (first | (go_at_call 53; refine (pick_any (w.heap.size + 1 + 1) (w.heap.size + 1) (p2 + 1) 9 _ HSd.out (by omega) (by omega)).mono ?_; rintro e w5 ⟨m, rfl, _, _, hs5, hg5⟩; have HR5 := Lib.hid (HRd.out.grown hg5 (fun r h => by cases h; omega)); have HB5 := Lib.hid (HBd.out.grown hg5 (fun r h => by cases h; omega)); have Hb5 : Hid (Below w.heap.size w w5) := (below_src Hbd.out hg5 (by omega)); clear hs5 hg5; obtain ⟨q0, q1, q2, g0, g1, g2⟩ := HR5.out; obtain ⟨x0, x1, x2, _, _, _⟩ := HB5.out))
    all_goals (try clear b0 b1 b2 d0 d1 d2 f0 f1 f2)
    all_goals go_wp2_with fail
    all_goals refine bodyPost_ret (v := .tuple #[bv bn bi bo, .int .i64 m]) (by simp [results, Try.results37, go_sem, q0, q1, q2]) rfl ?_
    all_goals exact ⟨bn, bi, bo, m, rfl, Hb5.out.grown (gw_set3 _ _ _ _ _) Hb5.out.size (fun r h => by cases h; exact Nat.le_refl _)⟩
end Go.Proofs.Ytlneedjhdnjnpaa
