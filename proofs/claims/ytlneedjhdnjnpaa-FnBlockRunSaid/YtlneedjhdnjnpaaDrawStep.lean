/-
  Contract of DrawBlockStep: some block and some text of at most two bytes, in a world where old memory is as it was.
-/
import Derived.Test.YtlneedjhdnjnpaaDrawBlk
namespace Go.Proofs.Ytlneedjhdnjnpaa
open Go.RowKit
set_option linter.unusedVariables false
attribute [local go_sem ↓] Go.wp_at_zero Go.wp_at_succ run_eql_block run_neq_block

/-- A block and a text that were drawn. -/
def DrewBT (M : Nat) (w : World) (e : Ending) (w' : World) : Prop := ∃ (bn : Int) (bi bo : Bool) (T : ByteArray), e = .returned (.tuple #[bv bn bi bo, .string T]) ∧ -1 ≤ bn ∧ bn ≤ 3 ∧ T.size ≤ M ∧ Below w.heap.size w w'
set_option maxRecDepth 100000 in
set_option maxHeartbeats 8000000 in
theorem DrawBlockStep_any (A : Option Addr) (n c : Nat) (bs : List UInt8) (w : World) (hx : RdB w A n bs) (hl : n ≤ c) (hc : c ≤ maxLen) :
    Calls Try.prog 34 #[.slice A n c] w (DrewBT 7 w) := by
  have HX := Lib.hid hx
  clear hx
  go_enter Try.func34, Try.ntmps34
  go_wp2_with fail
  refine (l6Open_any _ _ _ bs _ (Rd.alloc HX.out _) hl hc).mono ?_
  rintro e w1 ⟨rfl, hs1, hb1⟩
  simp only [World.size_alloc] at hs1 ⊢
  have HS1 := Lib.hid hs1
  have HR1 := Lib.hid ((room_alloc w (.int .i64 0) (.bool false) (.bool false) 34).later hb1)
  have Hb1 := Lib.hid (below_seq ((Below.refl w.heap.size w).alloc (Nat.le_refl _) _) hb1)
  clear hs1 hb1
  go_wp2_with fail
  refine (l91Block_any _ _ _ _ HS1.out (by omega)).mono ?_
  rintro e w2 ⟨bn, bi, bo, p2, rfl, hbn1, hbn3, hp2, hs2, hg2⟩
  have HS2 := Lib.hid hs2
  have HR2 := Lib.hid (HR1.out.grown hg2 (fun r h => by cases h; omega))
  have Hb2 := Lib.hid (below_src Hb1.out hg2 (by omega))
  have hlt2 : w.heap.size < w2.heap.size := HR2.out.lt
  have hL2 : w.heap.size + 1 + 1 ≤ w2.heap.size := hs2.lts.2
  clear hs2 hg2
  go_wp2_with fail
  refine (specBlockNext_any _ _ _ _).mono ?_
  rintro e w3 ⟨rfl, hb3⟩
  have HS3 := Lib.hid ((HS2.out.alloc _).belowAll hb3)
  have HR3 := Lib.hid ((HR2.out.alloc _).later hb3)
  have HB3 := Lib.hid ((room_alloc w2 (.int .i64 bn) (.bool bi) (.bool bo) 34).later hb3)
  have Hb3 := Lib.hid (below_seq (Hb2.out.alloc (by omega) _) hb3)
  have hlt3 : w2.heap.size < w3.heap.size := HB3.out.lt
  clear hb3
  have hne : ¬ w.heap.size = w2.heap.size := by omega
  have hne' : ¬ w2.heap.size = w.heap.size := by omega
  have fin : ∀ w4 : World, Room w4 w.heap.size (.int .i64 0) (.bool false) (.bool false) → Room w4 w2.heap.size (.int .i64 bn) (.bool bi) (.bool bo) → Src w4 (w.heap.size + 1 + 1) (w.heap.size + 1) 7 → Below w.heap.size w w4 → True := fun _ _ _ _ _ => trivial
  clear fin
  have hsz7 := next_size bn bi bo
  obtain ⟨NS, hNS⟩ : ∃ NS, NS = mkS (Bk.next bn bi bo) := ⟨_, rfl⟩
  rw [← hNS] at hsz7 ⊢
  clear hNS
  by_cases h0 : NS.size = 0
  · have hnil : NS.toList = [] := List.eq_nil_of_length_eq_zero (by rw [str_len']; exact h0)
    have hne1 : NS.toList.isEmpty = true := by rw [hnil]; rfl
    have hne2 : (NS.toList == []) = true := by rw [hnil]; rfl
    clear hnil h0 hsz7
    obtain ⟨b0, b1, b2, _, _, _⟩ := HB3.out
    obtain ⟨d0, d1, d2, f0, f1, f2⟩ := HR3.out
    have HSd : Hid (Src w3.drew (w.heap.size + 1 + 1) (w.heap.size + 1) (p2)) := HS3.out
    have HRd : Hid (Room w3.drew w.heap.size (.int .i64 0) (.bool false) (.bool false)) := HR3.out
    have HBd : Hid (Room w3.drew w2.heap.size (.int .i64 bn) (.bool bi) (.bool bo)) := HB3.out
    have Hbd : Hid (Below w.heap.size w w3.drew) := Hb3.out.drew
    have hLW : w.heap.size + 1 + 1 ≤ w3.heap.size := HS3.out.lts.2
    have e0 : ∀ o', (w3.drew.alloc o').cell? ⟨w2.heap.size, 0, none⟩ = some (.int .i64 bn) := fun o' => (HBd.out.alloc o').1
    have e1 : ∀ o', (w3.drew.alloc o').cell? ⟨w2.heap.size, 1, none⟩ = some (.bool bi) := fun o' => (HBd.out.alloc o').2.1
    have e2 : ∀ o', (w3.drew.alloc o').cell? ⟨w2.heap.size, 2, none⟩ = some (.bool bo) := fun o' => (HBd.out.alloc o').2.2.1
    go_wp2_with fail
    go_region_with (first | (go_at_call 65; refine (of_any (w.heap.size + 1 + 1) (w.heap.size + 1) (p2) w3.heap.size 10 10 [⟨#[111]⟩, ⟨#[114]⟩, ⟨#[97]⟩, ⟨#[99]⟩, ⟨#[101]⟩, ⟨#[108]⟩, ⟨#[102]⟩, ⟨#[120]⟩, ⟨#[]⟩, ⟨#[111, 97]⟩] 2 _ (Src.alloc HSd.out _) (by omega) (lits_rd (w := w3.drew) _ (heap_alloc_new w3.drew _)) (by omega) (by omega) (by omega) (by decide)).mono ?_; rintro e w5 ⟨T, p5, rfl, hT, hp5, hs5, hg5⟩; have HR5 := Lib.hid ((HRd.out.alloc _).grown hg5 (fun r h => by cases h; omega)); have HB5 := Lib.hid ((HBd.out.alloc _).grown hg5 (fun r h => by cases h; omega)); have Hb5 : Hid (Below w.heap.size w w5) := (below_src (Hbd.out.alloc (by simp only [World.size_drew]; omega) _) hg5 (by omega)); clear hs5 hg5 b0 b1 b2 d0 d1 d2 f0 f1 f2 e0 e1 e2; obtain ⟨q0, q1, q2, g0, g1, g2⟩ := HR5.out; obtain ⟨x0, x1, x2, _, _, _⟩ := HB5.out))
    all_goals go_wp2_with fail
    all_goals refine bodyPost_ret (v := .tuple #[bv bn bi bo, .string T]) (by simp [results, Try.results34, go_sem, q0, q1, q2]) rfl ?_
    all_goals exact ⟨bn, bi, bo, T, rfl, hbn1, hbn3, by omega, Hb5.out.grown (gw_set3 _ _ _ _ _) Hb5.out.size (fun r h => by cases h; exact Nat.le_refl _)⟩
  · have hl1 : NS.toList ≠ [] := fun e => h0 (by rw [← str_len', e]; rfl)
    have hne1 : NS.toList.isEmpty = false := by cases h : NS.toList with | nil => exact absurd h hl1 | cons a b => rfl
    have hne2 : (NS.toList == []) = false := by rw [beq_eq_false_iff_ne]; exact hl1
    have hpos : 1 ≤ NS.size := by omega
    clear hl1 h0
    go_wp2_with fail
    refine (pick_any _ _ _ _ _ HS3.out (by omega) (by omega)).mono ?_
    rintro e w4 ⟨x, rfl, hx1, _, hs4, hg4⟩
    have HS4 := Lib.hid hs4
    have HR4 := Lib.hid (HR3.out.grown hg4 (fun r h => by cases h; omega))
    have HB4 := Lib.hid (HB3.out.grown hg4 (fun r h => by cases h; omega))
    have Hb4 := Lib.hid (below_src Hb3.out hg4 (by omega))
    clear hs4 hg4 hx1 HR3 HB3
    by_cases hx : 0 < x
    · go_wp2_with fail
      refine (pick_any _ _ _ _ _ HS4.out (by omega) (by omega)).mono ?_
      rintro e w5 ⟨y, rfl, hy, _, hs5, hg5⟩
      obtain ⟨hy0, hyn⟩ := hy (by omega)
      obtain ⟨k, rfl⟩ := Int.eq_ofNat_of_zero_le hy0
      have HR5 := Lib.hid (HR4.out.grown hg5 (fun r h => by cases h; omega))
      have HB5 := Lib.hid (HB4.out.grown hg5 (fun r h => by cases h; omega))
      have Hb5 := Lib.hid (below_src Hb4.out hg5 (by omega))
      have hkl : k < NS.size := by omega
      clear hs5 hg5 hy HR4 HB4
      obtain ⟨E, hsl, hE⟩ : ∃ E : ByteArray, (∀ W : World, (Instr.slice 9 (.string NS) (some (.int .i64 (k : Int))) (some (.int .i64 ((k : Int) + 1))) none).run Try.prog W = .ok (.string E) W) ∧ E.size ≤ 7 :=
        ⟨_, fun W => slice_one W NS k hkl, by rw [← str_len', extract_one NS k hkl]; simp⟩
      obtain ⟨b0, b1, b2, _, _, _⟩ := HB5.out
      obtain ⟨d0, d1, d2, f0, f1, f2⟩ := HR5.out
      have k0 : (0 : Int) ≤ (k : Int) + 1 := by omega
      have k2 : (k : Int) + 1 ≤ NS.size := by omega
      have w1' : IntKind.i64.wrap ((k : Int) + 1) = (k : Int) + 1 := IntWalk.i64_in _ (by omega)
      go_wp2_with fail
      go_region_with (fail)
      all_goals clear w1' hsl
      all_goals go_wp2_with fail
      all_goals refine bodyPost_ret (v := .tuple #[bv bn bi bo, .string E]) (by simp [results, Try.results34, go_sem, d0, d1, d2]) rfl ?_
      all_goals exact ⟨bn, bi, bo, E, rfl, hbn1, hbn3, hE, Hb5.out.drew.grown (gw_set3 _ _ _ _ _) Hb5.out.size (fun r h => by cases h; exact Nat.le_refl _)⟩
    · have hx' : x ≤ 0 := by omega
      obtain ⟨b0, b1, b2, _, _, _⟩ := HB4.out
      obtain ⟨d0, d1, d2, f0, f1, f2⟩ := HR4.out
      have HSd : Hid (Src w4.drew (w.heap.size + 1 + 1) (w.heap.size + 1) (p2 + 1)) := HS4.out
      have HRd : Hid (Room w4.drew w.heap.size (.int .i64 0) (.bool false) (.bool false)) := HR4.out
      have HBd : Hid (Room w4.drew w2.heap.size (.int .i64 bn) (.bool bi) (.bool bo)) := HB4.out
      have Hbd : Hid (Below w.heap.size w w4.drew) := Hb4.out.drew
      have hLW : w.heap.size + 1 + 1 ≤ w4.heap.size := HS4.out.lts.2
      have hltW : w2.heap.size < w4.heap.size := HB4.out.lt
      have hltW' : w.heap.size < w4.heap.size := HR4.out.lt
      have e0 : ∀ o', (w4.drew.alloc o').cell? ⟨w2.heap.size, 0, none⟩ = some (.int .i64 bn) := fun o' => (HBd.out.alloc o').1
      have e1 : ∀ o', (w4.drew.alloc o').cell? ⟨w2.heap.size, 1, none⟩ = some (.bool bi) := fun o' => (HBd.out.alloc o').2.1
      have e2 : ∀ o', (w4.drew.alloc o').cell? ⟨w2.heap.size, 2, none⟩ = some (.bool bo) := fun o' => (HBd.out.alloc o').2.2.1
      go_wp2_with fail
      go_region_with (first | (go_at_call 65; refine (of_any (w.heap.size + 1 + 1) (w.heap.size + 1) (p2 + 1) w4.heap.size 10 10 [⟨#[111]⟩, ⟨#[114]⟩, ⟨#[97]⟩, ⟨#[99]⟩, ⟨#[101]⟩, ⟨#[108]⟩, ⟨#[102]⟩, ⟨#[120]⟩, ⟨#[]⟩, ⟨#[111, 97]⟩] 2 _ (Src.alloc HSd.out _) (by omega) (lits_rd (w := w4.drew) _ (heap_alloc_new w4.drew _)) (by omega) (by omega) (by omega) (by decide)).mono ?_; rintro e w5 ⟨T, p5, rfl, hT, hp5, hs5, hg5⟩; have HR5 := Lib.hid ((HRd.out.alloc _).grown hg5 (fun r h => by cases h; omega)); have HB5 := Lib.hid ((HBd.out.alloc _).grown hg5 (fun r h => by cases h; omega)); have Hb5 : Hid (Below w.heap.size w w5) := (below_src (Hbd.out.alloc (by simp only [World.size_drew]; omega) _) hg5 (by omega)); clear hs5 hg5 b0 b1 b2 d0 d1 d2 f0 f1 f2 e0 e1 e2; obtain ⟨q0, q1, q2, g0, g1, g2⟩ := HR5.out; obtain ⟨x0, x1, x2, _, _, _⟩ := HB5.out))
      all_goals go_wp2_with fail
      all_goals refine bodyPost_ret (v := .tuple #[bv bn bi bo, .string T]) (by simp [results, Try.results34, go_sem, q0, q1, q2]) rfl ?_
      all_goals exact ⟨bn, bi, bo, T, rfl, hbn1, hbn3, by omega, Hb5.out.grown (gw_set3 _ _ _ _ _) Hb5.out.size (fun r h => by cases h; exact Nat.le_refl _)⟩
end Go.Proofs.Ytlneedjhdnjnpaa
