/-
  Contract of the library's insertionSortCmpFunc on a row of moves with the program's comparison.
  Conditions: a row of the call's own, of at most 2^20 moves.
-/
import Derived.Test.YtmplanlppjebnaaSort2
import Derived.Deep.RegionHeld3
import Derived.BigQuiet
namespace Go.Proofs.Ytmplanlppjebnaa
open Go.RowKit
set_option linter.unusedVariables false
set_option linter.unusedSimpArgs false
attribute [local go_sem ↓] Go.wp_at_zero Go.wp_at_succ

/-- The four cells of two moves of a row. -/
theorem four_later {w w' : World} {g i j : Nat} {x y : Mv} (hb : Below w.heap.size w w') (h : (w.cell? ⟨g, i * 2, none⟩ = some (.int .i64 x.1) ∧ w.cell? ⟨g, i * 2 + 1, none⟩ = some (.string x.2)) ∧ w.cell? ⟨g, j * 2, none⟩ = some (.int .i64 y.1) ∧ w.cell? ⟨g, j * 2 + 1, none⟩ = some (.string y.2)) :
    (w'.cell? ⟨g, i * 2, none⟩ = some (.int .i64 x.1) ∧ w'.cell? ⟨g, i * 2 + 1, none⟩ = some (.string x.2)) ∧ w'.cell? ⟨g, j * 2, none⟩ = some (.int .i64 y.1) ∧ w'.cell? ⟨g, j * 2 + 1, none⟩ = some (.string y.2) :=
  ⟨⟨(hb.cell (block_lt_of_cell h.1.1)).trans h.1.1, (hb.cell (block_lt_of_cell h.1.2)).trans h.1.2⟩, (hb.cell (block_lt_of_cell h.2.1)).trans h.2.1, (hb.cell (block_lt_of_cell h.2.2)).trans h.2.2⟩
/-- What is known of the row in the inner loop. -/
def InsS (w W : World) (base g n c a b j i : Nat) (xs : List Mv) : Prop := ∃ zs, So.Stab xs zs ∧ So.Out a b xs zs ∧ So.Ins a j i zs ∧ SW w W base g n c zs
/-- What is known of the row when a piece is sorted. -/
def SrtS (w W : World) (base g n c a b i : Nat) (xs : List Mv) : Prop := ∃ ys, So.Stab xs ys ∧ So.Out a b xs ys ∧ So.Seg ys a i ∧ SW w W base g n c ys
set_option maxRecDepth 100000 in
set_option maxHeartbeats 8000000 in
theorem insertion_any (base g n c a b : Nat) (xs : List Mv) (w : World) (ho : w.ownsRow base 28 2 (.slice (some ⟨g, 0, none⟩) n c) n (flat xs)) (hab : a ≤ b) (hb : b ≤ n) (hn : n ≤ 1048576) :
    Calls Try.prog 53 #[.slice (some ⟨g, 0, none⟩) n c, .int .i64 a, .int .i64 b, cmpF] w fun e w' => e = .returned (.tuple #[]) ∧ SrtS w w' base g n c a b b xs := by
  have HO := Lib.hid ho
  clear ho
  have w0 : IntKind.i64.wrap ((a : Int) + 1) = (a : Int) + 1 := IntWalk.i64_in _ (by omega)
  go_enter Try.func53, Try.ntmps53
  go_wp2_with fail
  clear w0
  go_loopw [8] (fun v wr => ∃ i : Nat, a < i ∧ i ≤ b + 1 ∧ v = .int .i64 i ∧ Hid (i ≤ b ∨ i = a + 1) ∧ Hid (SrtS w wr base g n c a b i xs)) (fun v _ => b + 1 - (intOf v).toNat)
  case atStart => exact ⟨a + 1, by omega, by omega, by go_num, .inr rfl, xs, So.Stab.refl _, So.Out.refl _ _ _, So.Seg.empty _ (by omega), SW.refl HO.out⟩
  case round =>
    obtain ⟨i, hai, hib, rfl, Hib, Hs⟩ := hrel
    by_cases hlt : i < b
    · go_wp2_with fail
      obtain ⟨wo, rfl⟩ : ∃ wo : World, wo = wr := ⟨_, rfl⟩
      go_loopw [9] (fun v wq => ∃ j : Nat, a ≤ j ∧ j ≤ i ∧ v = .int .i64 j ∧ Hid (InsS w wq base g n c a b j i xs)) (fun v _ => (intOf v).toNat)
      case atStart =>
        obtain ⟨ys, h1, h2, h3, h4⟩ := Hs.out
        exact ⟨i, by omega, Nat.le_refl _, rfl, ys, h1, h2, So.ins_start h3, h4⟩
      case round =>
        clear Hs
        obtain ⟨j, haj, hji, rfl, Hi⟩ := hrel
        obtain ⟨zs, h1, h2, h3, h4⟩ := Hi.out
        clear Hi
        have hzl := h4.len
        by_cases hja : a < j
        · obtain ⟨jp, rfl⟩ : ∃ jp, j = jp + 1 := ⟨j - 1, by omega⟩
          obtain ⟨x, hx⟩ : ∃ x, zs[jp + 1]? = some x := ⟨_, List.getElem?_eq_getElem (by omega)⟩
          obtain ⟨y, hy⟩ : ∃ y, zs[jp]? = some y := ⟨_, List.getElem?_eq_getElem (by omega)⟩
          obtain ⟨c0, c1, f0, f1⟩ := own_at2 h4.own hx
          obtain ⟨d0, d1, g0, g1⟩ := own_at2 h4.own hy
          have hjaz : (a : Int) < (jp : Int) + 1 := by omega
          have p0 : (0 : Int) ≤ (jp : Int) + 1 := by omega
          have p1 : (jp : Int) + 1 < n := by omega
          have p2 : (0 : Int) ≤ (jp : Int) := by omega
          have p3 : (jp : Int) < n := by omega
          have hwp : IntKind.i64.wrap (jp : Int) = (jp : Int) := IntWalk.i64_in _ (by omega)
          by_cases hxy : x.1 < y.1
          · have hcv : decide (cmpv x.1 y.1 < 0) = true := decide_eq_true ((cmpv_neg _ _).2 hxy)
            have hcv2 : cmpv x.1 y.1 < 0 := (cmpv_neg _ _).2 hxy
            have hst := So.stab_swap hy hx (by omega)
            have hou := So.set2_out (x := x) (y := y) (xs := zs) (lo := a) (hi := b) (j := jp) (by omega) (by omega) (by omega)
            have hin := So.ins_step (by omega) hji hy hx hxy h3
            have HN : Hid (So.Stab xs ((zs.set jp x).set (jp + 1) y) ∧ So.Out a b xs ((zs.set jp x).set (jp + 1) y) ∧ So.Ins a jp i ((zs.set jp x).set (jp + 1) y)) := ⟨h1.trans hst, h2.trans hou, hin⟩
            have HS := Lib.hid h4
            have hcm : (zs.set (jp + 1) y).set jp x = (zs.set jp x).set (jp + 1) y := List.set_comm _ _ (by omega)
            have HCM := Lib.hid hcm
            have HX := Lib.hid (And.intro hx hy)
            clear hst hou hin h1 h2 h3 h4 hx hy hxy hcm hzl
            go_wp2_with fail
            go_region_held3 (fun W => (W.cell? ⟨g, (jp + 1) * 2, none⟩ = some (.int .i64 x.1) ∧ W.cell? ⟨g, (jp + 1) * 2 + 1, none⟩ = some (.string x.2)) ∧ W.cell? ⟨g, jp * 2, none⟩ = some (.int .i64 y.1) ∧ W.cell? ⟨g, jp * 2 + 1, none⟩ = some (.string y.2))
              (first | exact ⟨⟨c0, c1⟩, d0, d1⟩ | exact HC2)
              (first | (go_at_call 29; refine (cmpMove_any _ _ _ _ _).mono ?_; rintro e w2 ⟨rfl, hb2⟩; have HC2 := four_later (w := wr.drew) hb2 ⟨⟨c0, c1⟩, d0, d1⟩; have HS2 := Lib.hid (HS.out.drew.below hb2); clear hb2))
            all_goals clear c0 c1 f0 f1 d0 d1 g0 g1 HC2
            all_goals obtain ⟨c0, c1, f0, f1⟩ := own_at2 HS2.out.own HX.out.1
            all_goals obtain ⟨d0, d1, g0, g1⟩ := own_at2 HS2.out.own HX.out.2
            all_goals go_wp2_with fail
            all_goals go_region
            all_goals go_wp2_with fail
            all_goals go_roundw
            all_goals first
              | (simp [intOf]; done)
              | (simp [intOf]; omega)
              | exact ⟨jp, by omega, by omega, by go_num, _, HN.out.1, HN.out.2.1, HN.out.2.2, by have h5 := (HS2.out.drew.put (jp + 1) y).put jp x; rw [HCM.out] at h5; exact h5⟩
          · have hcv : decide (cmpv x.1 y.1 < 0) = false := decide_eq_false (fun h => hxy ((cmpv_neg _ _).1 h))
            have hcv2 : ¬ cmpv x.1 y.1 < 0 := fun h => hxy ((cmpv_neg _ _).1 h)
            have hseg : So.Seg zs a (i + 1) := So.ins_stop h3 (.inr (fun x' y' e1 e2 => by rw [Nat.add_sub_cancel, hy] at e1; rw [hx] at e2; cases e1; cases e2; omega)) (by omega)
            have HN : Hid (So.Stab xs zs ∧ So.Out a b xs zs ∧ So.Seg zs a (i + 1)) := ⟨h1, h2, hseg⟩
            have HS := Lib.hid h4
            clear hseg h1 h2 h3 h4 hx hy hxy hzl f0 f1 g0 g1
            go_wp2_with fail
            go_region_held3 (fun W => (W.cell? ⟨g, (jp + 1) * 2, none⟩ = some (.int .i64 x.1) ∧ W.cell? ⟨g, (jp + 1) * 2 + 1, none⟩ = some (.string x.2)) ∧ W.cell? ⟨g, jp * 2, none⟩ = some (.int .i64 y.1) ∧ W.cell? ⟨g, jp * 2 + 1, none⟩ = some (.string y.2))
              (first | exact ⟨⟨c0, c1⟩, d0, d1⟩ | exact HC2)
              (first | (go_at_call 29; refine (cmpMove_any _ _ _ _ _).mono ?_; rintro e w2 ⟨rfl, hb2⟩; have HC2 := four_later (w := wr.drew) hb2 ⟨⟨c0, c1⟩, d0, d1⟩; have HS2 := Lib.hid (HS.out.drew.below hb2); clear hb2))
            all_goals clear c0 c1 d0 d1 HC2
            all_goals go_wp2_with fail
            all_goals go_roundw
            all_goals first
              | (simp [intOf]; done)
              | (simp [intOf]; omega)
              | exact ⟨i + 1, by omega, by omega, by go_num, .inl (by omega), zs, HN.out.1, HN.out.2.1, HN.out.2.2, HS2.out⟩
        · have hd : decide ((a : Int) < (j : Int)) = false := decide_eq_false (by omega)
          have hseg : So.Seg zs a (i + 1) := So.ins_stop h3 (.inl (by omega)) (by omega)
          have HN : Hid (So.Stab xs zs ∧ So.Out a b xs zs ∧ So.Seg zs a (i + 1)) := ⟨h1, h2, hseg⟩
          have HS := Lib.hid h4
          clear hseg h1 h2 h3 h4 hzl
          go_wp2_with fail
          go_quiet (fail)
          go_wp2_with fail
          go_roundw
          case rel => exact ⟨i + 1, by omega, by omega, by go_num, .inl (by omega), zs, HN.out.1, HN.out.2.1, HN.out.2.2, HS.out.drewN _⟩
          case measure => simp [intOf]; omega
    · go_wp2_with fail
      go_end0
      obtain ⟨ys, h1, h2, h3, h4⟩ := Hs.out
      have := Hib.out
      exact ⟨rfl, ys, h1, h2, h3.mono (Nat.le_refl _) (by omega), h4⟩
end Go.Proofs.Ytmplanlppjebnaa
