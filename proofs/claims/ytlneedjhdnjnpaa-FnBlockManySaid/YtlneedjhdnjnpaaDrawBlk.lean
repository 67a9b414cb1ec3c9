/-
  Contracts of drawn blocks: l3All, l91Block, and the draws of blocks and texts that lean on them.
  Conditions: fewer than 800000 numbers have been drawn.
-/
import Derived.Test.YtlneedjhdnjnpaaDrawTxt
namespace Go.Proofs.Ytlneedjhdnjnpaa
open Go.RowKit
set_option linter.unusedVariables false
attribute [local go_sem ↓] Go.wp_at_zero Go.wp_at_succ run_eql_block run_neq_block

/-- The five possible blocks, cell by cell. -/
abbrev allCells : Array Value := #[.int .i64 0, .bool false, .bool false, .int .i64 0, .bool false, .bool true, .int .i64 1, .bool false, .bool false, .int .i64 2, .bool false, .bool false, .int .i64 2, .bool true, .bool false]
set_option maxHeartbeats 1000000 in
theorem l3All_any (w : World) : Calls Try.prog 68 #[] w fun e w' => e = .returned (.slice (some ⟨w.heap.size, 0, none⟩) 5 5) ∧ w.alloc (.cells allCells 34) = w' := by
  go_enter Try.func68, Try.ntmps68
  go_wp2_with fail
  go_ret
  exact ⟨rfl, rfl⟩
/-- A block that was drawn. -/
def DrewB (L g p K : Nat) (w : World) (e : Ending) (w' : World) : Prop :=
  ∃ (bn : Int) (bi bo : Bool) (p' : Nat), e = .returned (bv bn bi bo) ∧ -1 ≤ bn ∧ bn ≤ 3 ∧ p' ≤ p + K ∧ Src w' L g p' ∧ w.grownBy w' (some g)
set_option maxRecDepth 100000 in
set_option maxHeartbeats 4000000 in
theorem l91Block_any (L g p : Nat) (w : World) (hs : Src w L g p) (hp : p ≤ 900000) :
    Calls Try.prog 61 #[.pointer (some ⟨g, 0, none⟩)] w (DrewB L g p 4 w) := by
  have HS := Lib.hid hs
  have hgL : g < L := hs.lts.1
  have hL : L ≤ w.heap.size := hs.lts.2
  clear hs
  go_enter Try.func61, Try.ntmps61
  go_wp2_with fail
  refine (pick_any L g p _ _ (HS.out.alloc _) (by omega) (by omega)).mono ?_
  rintro e w1 ⟨x, rfl, hx1, _, hs1, hg1⟩
  have HS1 := Lib.hid hs1
  have HR1 := Lib.hid ((room_alloc w (.int .i64 0) (.bool false) (.bool false) 34).grown hg1 (fun r h => by cases h; omega))
  have HG1 := Lib.hid (gw_trans (gw_alloc (gw_refl w (some g)) _) hg1)
  clear hs1 hg1 hx1
  by_cases hx : x = 0
  · subst hx
    go_wp2_with fail
    refine (pick_any L g (p + 1) _ _ HS1.out (by omega) (by omega)).mono ?_
    rintro e w2 ⟨x2, rfl, hx2, _, hs2, hg2⟩
    obtain ⟨h20, h25⟩ := hx2 (by omega)
    have HS2 := Lib.hid hs2
    have HR2 := Lib.hid (HR1.out.grown hg2 (fun r h => by cases h; omega))
    have HG2 := Lib.hid (gw_trans HG1.out hg2)
    clear hs2 hg2 hx2
    go_wp2_with fail
    refine (pick_any L g (p + 1 + 1) _ _ HS2.out (by omega) (by omega)).mono ?_
    rintro e w3 ⟨x3, rfl, _, _, hs3, hg3⟩
    have HS3 := Lib.hid hs3
    have HR3 := Lib.hid (HR2.out.grown hg3 (fun r h => by cases h; omega))
    have HG3 := Lib.hid (gw_trans HG2.out hg3)
    clear hs3 hg3
    obtain ⟨b3, hb3⟩ : ∃ b, (x3 == 0) = b := ⟨_, rfl⟩
    go_wp2_with fail
    refine (pick_any L g (p + 1 + 1 + 1) _ _ HS3.out (by omega) (by omega)).mono ?_
    rintro e w4 ⟨x4, rfl, _, _, hs4, hg4⟩
    have HS4 := Lib.hid hs4
    have HR4 := Lib.hid (HR3.out.grown hg4 (fun r h => by cases h; omega))
    have HG4 := Lib.hid (gw_trans HG3.out hg4)
    clear hs4 hg4
    obtain ⟨b4, hb4⟩ : ∃ b, (x4 == 0) = b := ⟨_, rfl⟩
    obtain ⟨d0, d1, d2, f0, f1, f2⟩ := HR4.out
    go_wp2_with fail
    refine bodyPost_ret (v := bv (x2 - 1) b3 b4) (by simp [results, Try.results61, go_sem, d0, d1, d2]) rfl ?_
    exact ⟨x2 - 1, b3, b4, p + 1 + 1 + 1 + 1, rfl, by omega, by omega, by omega, HS4.out.grown (gw_set3 _ _ _ _ _) (fun r h => by cases h; omega), gw_new HG4.out (gw_set3 _ _ _ _ _) (fun r h => by cases h; omega)⟩
  · have hxb : (x == 0) = false := by simpa using hx
    clear hx
    go_wp2_with fail
    refine (l3All_any _).mono ?_
    rintro e w3 ⟨rfl, rfl⟩
    obtain ⟨w2, rfl⟩ : ∃ w2, w2 = w1 := ⟨_, rfl⟩
    go_wp2_with fail
    refine (pick_any L g (p + 1) _ _ (HS1.out.alloc _) (by omega) (by omega)).mono ?_
    rintro e w4 ⟨x4, rfl, hx4, _, hs4, hg4⟩
    obtain ⟨hu0, hu5⟩ := hx4 (by omega)
    obtain ⟨un, rfl⟩ := Int.eq_ofNat_of_zero_le hu0
    have hL1 : L ≤ w2.heap.size := HS1.out.lts.2
    have HC : Hid (∀ j u, allCells[j]? = some u → w4.cell? ⟨w2.heap.size, j, none⟩ = some u) := by
      intro j u hu
      have h1 := hg4.block w2.heap.size (by simp) (fun e => by injection e with e; omega)
      rw [cell_of_row w4 w2.heap.size j _ _ _ (h1.trans (heap_alloc_new w2 _))]
      exact hu
    have HS4 := Lib.hid hs4
    have HR4 := Lib.hid ((HR1.out.alloc _).grown hg4 (fun r h => by cases h; omega))
    have HG4 := Lib.hid (gw_trans (gw_alloc HG1.out _) hg4)
    obtain ⟨d0, d1, d2, f0, f1, f2⟩ := HR4.out
    have hlt2 : w.heap.size < w2.heap.size := HR1.out.lt
    clear hs4 hg4 hx4
    have hun : un = 0 ∨ un = 1 ∨ un = 2 ∨ un = 3 ∨ un = 4 := by omega
    rcases hun with hun | hun | hun | hun | hun
    · obtain rfl : un = 0 := by omega
      have q0 : w4.cell? ⟨w2.heap.size, 0, none⟩ = some (.int .i64 0) := HC.out 0 _ rfl
      have q1 : w4.cell? ⟨w2.heap.size, 1, none⟩ = some (.bool false) := HC.out 1 _ rfl
      have q2 : w4.cell? ⟨w2.heap.size, 2, none⟩ = some (.bool false) := HC.out 2 _ rfl
      clear hun
      go_wp2_with fail
      refine bodyPost_ret (v := bv 0 false false) (by simp [results, Try.results61, go_sem, d0, d1, d2]) rfl ?_
      exact ⟨0, false, false, p + 1 + 1, rfl, by omega, by omega, by omega, HS4.out.grown (gw_set3 _ _ _ _ _) (fun r h => by cases h; omega), gw_new HG4.out (gw_set3 _ _ _ _ _) (fun r h => by cases h; omega)⟩
    · obtain rfl : un = 1 := by omega
      have q0 : w4.cell? ⟨w2.heap.size, 3, none⟩ = some (.int .i64 0) := HC.out 3 _ rfl
      have q1 : w4.cell? ⟨w2.heap.size, 4, none⟩ = some (.bool false) := HC.out 4 _ rfl
      have q2 : w4.cell? ⟨w2.heap.size, 5, none⟩ = some (.bool true) := HC.out 5 _ rfl
      clear hun
      go_wp2_with fail
      refine bodyPost_ret (v := bv 0 false true) (by simp [results, Try.results61, go_sem, d0, d1, d2]) rfl ?_
      exact ⟨0, false, true, p + 1 + 1, rfl, by omega, by omega, by omega, HS4.out.grown (gw_set3 _ _ _ _ _) (fun r h => by cases h; omega), gw_new HG4.out (gw_set3 _ _ _ _ _) (fun r h => by cases h; omega)⟩
    · obtain rfl : un = 2 := by omega
      have q0 : w4.cell? ⟨w2.heap.size, 6, none⟩ = some (.int .i64 1) := HC.out 6 _ rfl
      have q1 : w4.cell? ⟨w2.heap.size, 7, none⟩ = some (.bool false) := HC.out 7 _ rfl
      have q2 : w4.cell? ⟨w2.heap.size, 8, none⟩ = some (.bool false) := HC.out 8 _ rfl
      clear hun
      go_wp2_with fail
      refine bodyPost_ret (v := bv 1 false false) (by simp [results, Try.results61, go_sem, d0, d1, d2]) rfl ?_
      exact ⟨1, false, false, p + 1 + 1, rfl, by omega, by omega, by omega, HS4.out.grown (gw_set3 _ _ _ _ _) (fun r h => by cases h; omega), gw_new HG4.out (gw_set3 _ _ _ _ _) (fun r h => by cases h; omega)⟩
    · obtain rfl : un = 3 := by omega
      have q0 : w4.cell? ⟨w2.heap.size, 9, none⟩ = some (.int .i64 2) := HC.out 9 _ rfl
      have q1 : w4.cell? ⟨w2.heap.size, 10, none⟩ = some (.bool false) := HC.out 10 _ rfl
      have q2 : w4.cell? ⟨w2.heap.size, 11, none⟩ = some (.bool false) := HC.out 11 _ rfl
      clear hun
      go_wp2_with fail
      refine bodyPost_ret (v := bv 2 false false) (by simp [results, Try.results61, go_sem, d0, d1, d2]) rfl ?_
      exact ⟨2, false, false, p + 1 + 1, rfl, by omega, by omega, by omega, HS4.out.grown (gw_set3 _ _ _ _ _) (fun r h => by cases h; omega), gw_new HG4.out (gw_set3 _ _ _ _ _) (fun r h => by cases h; omega)⟩
    · obtain rfl : un = 4 := by omega
      have q0 : w4.cell? ⟨w2.heap.size, 12, none⟩ = some (.int .i64 2) := HC.out 12 _ rfl
      have q1 : w4.cell? ⟨w2.heap.size, 13, none⟩ = some (.bool true) := HC.out 13 _ rfl
      have q2 : w4.cell? ⟨w2.heap.size, 14, none⟩ = some (.bool false) := HC.out 14 _ rfl
      clear hun
      go_wp2_with fail
      refine bodyPost_ret (v := bv 2 true false) (by simp [results, Try.results61, go_sem, d0, d1, d2]) rfl ?_
      exact ⟨2, true, false, p + 1 + 1, rfl, by omega, by omega, by omega, HS4.out.grown (gw_set3 _ _ _ _ _) (fun r h => by cases h; omega), gw_new HG4.out (gw_set3 _ _ _ _ _) (fun r h => by cases h; omega)⟩
theorem cut_facts (s : ByteArray) (k : Nat) (h : s.size ≤ 100) : ∃ X : ByteArray, (∀ W : World, (Op.stringOp .add (s.extract 0 k) (s.extract (k + 1) s.size)).run Try.prog W = .ok (.string X) W) ∧ X.toList = s.toList.take k ++ s.toList.drop (k + 1) ∧ X.size ≤ s.size :=
  ⟨_, fun W => run_string_add_sum W _ _ (by rw [← ByteArray.size_append]; have := cut_size s k; omega), cut_toList s k, cut_size s k⟩
set_option maxRecDepth 100000 in
set_option maxHeartbeats 2000000 in
theorem l91Broken_any (L g p : Nat) (w : World) (hs : Src w L g p) (hp : p ≤ 700000) :
    Calls Try.prog 71 #[.pointer (some ⟨g, 0, none⟩)] w (DrewS L g p 46 42 w) := by
  have HS := Lib.hid hs
  clear hs
  go_enter Try.func71, Try.ntmps71
  go_wp2_with fail
  refine (l91Legal_any L g p _ HS.out (by omega)).mono ?_
  rintro e w1 ⟨S, p1, rfl, hS, hp1, hs1, hg1⟩
  have HS1 := Lib.hid hs1
  have HG1 := Lib.hid hg1
  clear hs1 hg1
  by_cases h0 : 0 < S.size
  · go_wp2_with fail
    refine (pick_any L g p1 _ _ HS1.out (by omega) (by omega)).mono ?_
    rintro e w2 ⟨x, rfl, _, _, hs2, hg2⟩
    have HS2 := Lib.hid hs2
    have HG2 := Lib.hid (gw_trans HG1.out hg2)
    clear hs2 hg2
    by_cases hx : 0 < x
    · go_wp2_with fail
      refine (pick_any L g (p1 + 1) _ _ HS2.out (by omega) (by omega)).mono ?_
      rintro e w3 ⟨y, rfl, hy, _, hs3, hg3⟩
      obtain ⟨hy0, hyn⟩ := hy (by omega)
      obtain ⟨k, rfl⟩ := Int.eq_ofNat_of_zero_le hy0
      have HS3 := Lib.hid hs3
      have HG3 := Lib.hid (gw_trans HG2.out hg3)
      clear hs3 hg3 hy
      obtain ⟨X, hadd, _, hXz⟩ := cut_facts S k (by omega)
      have k0 : (0 : Int) ≤ (k : Int) + 1 := by omega
      have k1 : ((k : Int) + 1).toNat = k + 1 := by omega
      have k2 : (k : Int) + 1 ≤ S.size := by omega
      have k3 : (k : Int) ≤ S.size := by omega
      have w1' : IntKind.i64.wrap ((k : Int) + 1) = (k : Int) + 1 := IntWalk.i64_in _ (by omega)
      go_wp2_with fail
      go_still_tail 8, (by kernel_rfl)
      change wpList _ _ _ _ _ w3.drew
      clear w1' k1 hadd
      go_wp2_with fail
      go_ret
      exact ⟨X, p1 + 1 + 1, rfl, by omega, by omega, HS3.out.drewS, gw_drew HG3.out⟩
    · go_wp2_with fail
      go_ret
      exact ⟨S, p1 + 1, rfl, by omega, by omega, HS2.out, HG2.out⟩
  · go_wp2_with fail
    go_ret
    exact ⟨S, p1, rfl, by omega, by omega, HS1.out, HG1.out⟩
theorem DrawBlockRepair_any (A : Option Addr) (n c : Nat) (bs : List UInt8) (w : World) (hx : RdB w A n bs) (hl : n ≤ c) (hc : c ≤ maxLen) :
    Calls Try.prog 44 #[.slice A n c] w (DrewT 42 w) := by
  have HX := Lib.hid hx
  clear hx
  go_enter Try.func44, Try.ntmps44
  go_wp2_with fail
  refine (l6Open_any _ _ _ bs _ HX.out hl hc).mono ?_
  rintro e w1 ⟨rfl, hs1, hb1⟩
  have Hs1 := Lib.hid hs1
  have Hb1 := Lib.hid hb1
  clear hs1 hb1
  go_wp2_with fail
  refine (l91Broken_any _ _ _ _ Hs1.out (by omega)).mono ?_
  rintro e w2 ⟨S, p', rfl, hS, _, _, hg2⟩
  have Hg2 := Lib.hid hg2
  clear hg2
  go_wp2_with fail
  go_ret
  exact ⟨S, rfl, hS, below_src Hb1.out Hg2.out (Nat.le_refl _)⟩
theorem DrawBlockNext_any (A : Option Addr) (n c : Nat) (bs : List UInt8) (w : World) (hx : RdB w A n bs) (hl : n ≤ c) (hc : c ≤ maxLen) :
    Calls Try.prog 29 #[.slice A n c] w fun e w' => ∃ bn bi bo, e = .returned (bv bn bi bo) ∧ -1 ≤ bn ∧ bn ≤ 3 ∧ Below w.heap.size w w' := by
  have HX := Lib.hid hx
  clear hx
  go_enter Try.func29, Try.ntmps29
  go_wp2_with fail
  refine (l6Open_any _ _ _ bs _ (Rd.alloc HX.out _) hl hc).mono ?_
  rintro e w1 ⟨rfl, hs1, hb1⟩
  simp only [World.size_alloc] at hs1
  have Hs1 := Lib.hid hs1
  have HR1 := Lib.hid ((room_alloc w (.int .i64 0) (.bool false) (.bool false) 34).later hb1)
  have Hb1 := Lib.hid (below_seq ((Below.refl w.heap.size w).alloc (Nat.le_refl _) _) hb1)
  clear hs1 hb1
  go_wp2_with fail
  refine (l91Block_any _ _ _ _ Hs1.out (by omega)).mono ?_
  rintro e w2 ⟨bn, bi, bo, p', rfl, h1, h2, _, _, hg2⟩
  have HR2 := Lib.hid (HR1.out.grown hg2 (fun r h => by cases h; omega))
  have Hb2 := Lib.hid (below_src Hb1.out hg2 (by omega))
  clear hg2
  obtain ⟨d0, d1, d2, f0, f1, f2⟩ := HR2.out
  go_wp2_with fail
  refine bodyPost_ret (v := bv bn bi bo) (by simp [results, Try.results29, go_sem, d0, d1, d2]) rfl ?_
  refine ⟨bn, bi, bo, rfl, h1, h2, ?_⟩
  exact Hb2.out.grown (gw_set3 _ _ _ _ _) Hb2.out.size (fun r h => by cases h; exact Nat.le_refl _)
end Go.Proofs.Ytlneedjhdnjnpaa
