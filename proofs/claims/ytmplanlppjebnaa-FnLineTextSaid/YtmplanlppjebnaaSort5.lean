/-
  Contract of the library's symMergeCmpFunc on a row of moves with the program's comparison.
  Conditions: a row of the call's own, of at most 2^20 moves; both pieces are sorted, none is empty.
-/
import Derived.Test.YtmplanlppjebnaaSort4
namespace Go.Proofs.Ytmplanlppjebnaa
open Go.RowKit
set_option linter.unusedVariables false
set_option linter.unusedSimpArgs false
attribute [local go_sem ↓] Go.wp_at_zero Go.wp_at_succ

/-- What is known of merges of at most D moves. -/
def SymH (base g n c D : Nat) : Prop := ∀ (a m b : Nat) (xs : List Mv) (w : World), b - a ≤ D → a < m → m < b → b ≤ n → w.ownsRow base 28 2 (.slice (some ⟨g, 0, none⟩) n c) n (flat xs) → So.Seg xs a m → So.Seg xs m b →
    Calls Try.prog 54 #[.slice (some ⟨g, 0, none⟩) n c, .int .i64 a, .int .i64 m, .int .i64 b, cmpF] w fun e w' => e = .returned (.tuple #[]) ∧ SrtS w w' base g n c a b b xs
set_option maxRecDepth 100000 in
set_option maxHeartbeats 32000000 in
theorem symMerge_hi (base g n c D a m b mid P : Nat) (xs : List Mv) (w : World) (hn : n ≤ 1048576) (ih : SymH base g n c D) (hD : b - a ≤ D + 1) (ham : a + 2 ≤ m) (hmb : m + 2 ≤ b) (hb : b ≤ n) (hm1 : 2 * mid ≤ a + b) (hm2 : a + b ≤ 2 * mid + 1) (hP : P + 1 = mid + m) (hc : mid < m)
    (ho : w.ownsRow base 28 2 (.slice (some ⟨g, 0, none⟩) n c) n (flat xs)) (hA : So.Seg xs a m) (hB : So.Seg xs m b) :
    Calls Try.prog 54 #[.slice (some ⟨g, 0, none⟩) n c, .int .i64 a, .int .i64 m, .int .i64 b, cmpF] w fun e w' => e = .returned (.tuple #[]) ∧ SrtS w w' base g n c a b b xs := by
  have HO := Lib.hid ho
  have HA := Lib.hid hA
  have HB := Lib.hid hB
  have IH := Lib.hid ih
  have hxl : xs.length = n := by have := ho.1; rw [flat_len] at this; omega
  have hbl : b ≤ xs.length := by omega
  clear ho hA hB ih
  have w0 : IntKind.i64.wrap ((m : Int) - a) = (m : Int) - a := IntWalk.i64_in _ (by omega)
  have w00 : ((m : Int) - a == 1) = false := by simp; omega
  have w1 : IntKind.i64.wrap ((b : Int) - m) = (b : Int) - m := IntWalk.i64_in _ (by omega)
  have w11 : ((b : Int) - m == 1) = false := by simp; omega
  have hmid : ((a : Int) + b) / 2 = (mid : Int) := by omega
  have wn : IntKind.i64.wrap ((mid : Int) + m) = (mid : Int) + m := IntWalk.i64_in _ (by omega)
  have wP : IntKind.i64.wrap ((mid : Int) + m - 1) = (P : Int) := by rw [IntWalk.i64_in _ (by omega)]; omega
  have wc : (mid : Int) < m := by omega
  have ws0 : IntKind.i64.wrap ((mid : Int) + m - b) = ((mid + m - b : Nat) : Int) := by rw [IntWalk.i64_in _ (by omega)]; omega
  go_enter Try.func54, Try.ntmps54
  go_wp2_with fail
  clear w0 w00 w1 w11
  go_loopw [20, 21] (fun u v wr => ∃ s r : Nat, (mid + m - b) ≤ s ∧ s ≤ r ∧ r ≤ mid ∧ u = .int .i64 s ∧ v = .int .i64 r ∧ Hid (∀ c (p q : Mv), c < s → a ≤ c → mid + m - 1 - c < b → xs[c]? = some p → xs[mid + m - 1 - c]? = some q → p.1 ≤ q.1) ∧ Hid (∀ c (p q : Mv), r ≤ c → c < m → m ≤ mid + m - 1 - c → c < mid + m → xs[c]? = some p → xs[mid + m - 1 - c]? = some q → q.1 < p.1) ∧ Hid (SW w wr base g n c xs)) (fun u v _ => (intOf v).toNat - (intOf u).toNat)
  case atStart => exact ⟨(mid + m - b), mid, Nat.le_refl _, by omega, Nat.le_refl _, by first | rfl | go_num, rfl, fun c p q h1 h2 h3 => by omega, fun c p q h1 h2 h3 => by omega, SW.refl HO.out⟩
  case round =>
    obtain ⟨s, r, hs0, hsr, hr0, rfl, rfl, HL, HH, HS⟩ := hrel
    by_cases hlt : s < r
    · obtain ⟨h, hh, hh1, hh2⟩ : ∃ h : Nat, ((s : Int) + r) / 2 = (h : Int) ∧ s ≤ h ∧ h < r := ⟨(s + r) / 2, by omega, by omega, by omega⟩
      obtain ⟨Q, hQ, hQ2⟩ : ∃ Q : Nat, IntKind.i64.wrap ((P : Int) - h) = (Q : Int) ∧ Q = mid + m - 1 - h := ⟨mid + m - 1 - h, by rw [IntWalk.i64_in _ (by omega)]; omega, rfl⟩
      obtain ⟨x, hx⟩ : ∃ x, xs[h]? = some x := ⟨_, List.getElem?_eq_getElem (by omega)⟩
      obtain ⟨y, hy⟩ : ∃ y, xs[Q]? = some y := ⟨_, List.getElem?_eq_getElem (by omega)⟩
      obtain ⟨c0, c1, _, _⟩ := own_at2 HS.out.own hy
      obtain ⟨d0, d1, _, _⟩ := own_at2 HS.out.own hx
      have hy2 : xs[mid + m - 1 - h]? = some y := by rw [← hQ2]; exact hy
      have HXY := Lib.hid (And.intro hx hy2)
      have k0 : (0 : Int) ≤ (h : Int) := by omega
      have k1 : (h : Int) < n := by omega
      have k2 : (0 : Int) ≤ (Q : Int) := by omega
      have k3 : (Q : Int) < n := by omega
      have hQ3 : Q + h + 1 = mid + m := by omega
      clear hx hy hy2 hQ2
      by_cases hxy : y.1 < x.1
      · have hcv : decide (cmpv y.1 x.1 < 0) = true := decide_eq_true ((cmpv_neg _ _).2 hxy)
        have hcv2 : cmpv y.1 x.1 < 0 := (cmpv_neg _ _).2 hxy
        have HH2 : Hid (∀ c (p q : Mv), h ≤ c → c < m → m ≤ mid + m - 1 - c → c < mid + m → xs[c]? = some p → xs[mid + m - 1 - c]? = some q → q.1 < p.1) := fun c' p q e1 e2 e3 _ e4 e5 =>
          So.bs_hi hbl HA.out HB.out (by omega) (by omega) HXY.out.1 HXY.out.2 hxy c' p q e1 e2 e3 e4 e5
        clear hxy
        go_wp2_with fail
        go_region_held3 (fun W => (W.cell? ⟨g, Q * 2, none⟩ = some (.int .i64 y.1) ∧ W.cell? ⟨g, Q * 2 + 1, none⟩ = some (.string y.2)) ∧ W.cell? ⟨g, h * 2, none⟩ = some (.int .i64 x.1) ∧ W.cell? ⟨g, h * 2 + 1, none⟩ = some (.string x.2))
          (first | exact ⟨⟨c0, c1⟩, d0, d1⟩ | exact HC2)
          (first | (go_at_call 29; refine (cmpMove_any _ _ _ _ _).mono ?_; rintro e w2 ⟨rfl, hb2⟩; have HC2 := four_later (w := wr.drew) hb2 ⟨⟨c0, c1⟩, d0, d1⟩; have HS2 := Lib.hid (HS.out.drew.below hb2); clear hb2))
        all_goals clear c0 c1 d0 d1 HC2
        all_goals go_wp2_with fail
        all_goals go_roundw
        all_goals first
          | (simp [intOf]; done)
          | (simp [intOf]; omega)
          | exact ⟨s, h, hs0, hh1, by omega, rfl, rfl, HL, HH2, HS2⟩
      · have hcv : decide (cmpv y.1 x.1 < 0) = false := decide_eq_false (fun e => hxy ((cmpv_neg _ _).1 e))
        have hcv2 : ¬ cmpv y.1 x.1 < 0 := fun e => hxy ((cmpv_neg _ _).1 e)
        have HL2 : Hid (∀ c (p q : Mv), c < h + 1 → a ≤ c → mid + m - 1 - c < b → xs[c]? = some p → xs[mid + m - 1 - c]? = some q → p.1 ≤ q.1) := fun c' p q e1 e2 e3 e4 e5 =>
          So.bs_lo hbl HA.out HB.out (by omega) (by omega) HXY.out.1 HXY.out.2 (by omega) c' p q (by omega) e2 e3 e4 e5
        have w9 : IntKind.i64.wrap ((h : Int) + 1) = (h : Int) + 1 := IntWalk.i64_in _ (by omega)
        clear hxy
        go_wp2_with fail
        go_region_held3 (fun W => (W.cell? ⟨g, Q * 2, none⟩ = some (.int .i64 y.1) ∧ W.cell? ⟨g, Q * 2 + 1, none⟩ = some (.string y.2)) ∧ W.cell? ⟨g, h * 2, none⟩ = some (.int .i64 x.1) ∧ W.cell? ⟨g, h * 2 + 1, none⟩ = some (.string x.2))
          (first | exact ⟨⟨c0, c1⟩, d0, d1⟩ | exact HC2)
          (first | (go_at_call 29; refine (cmpMove_any _ _ _ _ _).mono ?_; rintro e w2 ⟨rfl, hb2⟩; have HC2 := four_later (w := wr.drew) hb2 ⟨⟨c0, c1⟩, d0, d1⟩; have HS2 := Lib.hid (HS.out.drew.below hb2); clear hb2))
        all_goals clear c0 c1 d0 d1 HC2
        all_goals go_wp2_with fail
        all_goals go_roundw
        all_goals first
          | (simp [intOf]; done)
          | (simp [intOf]; omega)
          | exact ⟨h + 1, r, by omega, by omega, hr0, by go_num, rfl, HL2, HH, HS2⟩
    · obtain rfl : s = r := by omega
      obtain ⟨E, hE, hE2⟩ : ∃ E : Nat, IntKind.i64.wrap ((mid : Int) + m - s) = (E : Int) ∧ E = mid + m - s := ⟨mid + m - s, by rw [IntWalk.i64_in _ (by omega)]; omega, rfl⟩
      have HCUT : Hid (So.Cut a m b mid s xs) := ⟨by omega, HL.out, HH.out⟩
      have hE3 : E + s = mid + m := by omega
      have HE2 := Lib.hid hE2
      clear HL HH hE2
      by_cases q1 : s < m ∧ m < E
      · have u1 : (s : Int) < m := by omega
        have u2 : (m : Int) < E := by omega
        go_wp2_with fail
        refine (rotate_any base g n c s m E xs _ _ HS.out.own q1.1 q1.2 (by omega) hn).mono ?_
        rintro e w2 ⟨rfl, hr2⟩
        have HR : Hid (∃ ys, So.Rot s m E xs ys ∧ SW w w2 base g n c ys) := by obtain ⟨ys, r1, r2⟩ := hr2; exact ⟨ys, r1, HS.out.seq r2⟩
        clear hr2 u1 u2 HS
        obtain ⟨ys, hrot, hsw⟩ := HR.out
        have hE2 := HE2.out
        have hcp := So.cut_parts hbl HCUT.out HA.out HB.out (by rw [← hE2]; exact hrot)
        rw [← hE2] at hcp
        have HY : Hid (So.Stab xs ys ∧ So.Out a b xs ys ∧ SW w _ base g n c ys ∧ True ∧ ∀ i j (p q : Mv), a ≤ i → i < mid → mid ≤ j → j < b → ys[i]? = some p → ys[j]? = some q → p.1 ≤ q.1) :=
          ⟨So.stab_rot (by omega) (by omega) (by omega) hrot (by have h9 := So.cut_lt hbl HCUT.out HA.out HB.out; rw [← hE2] at h9; exact h9), (So.rot_out (by omega) (by omega) hrot).mono (by omega) (by omega), hsw, trivial, hcp.2.2.2.2⟩
        have HYS : Hid (So.Seg ys a s ∧ So.Seg ys s mid ∧ So.Seg ys mid E ∧ So.Seg ys E b) := ⟨hcp.1, hcp.2.1, hcp.2.2.1, hcp.2.2.2.1⟩
        clear hrot hsw hcp HR hE2
        by_cases q2 : a < s ∧ s < mid
        · have i1 : (a : Int) < s := by omega
          have i2 : (s : Int) < mid := by omega
          go_wp2_with fail
          refine (IH.out a s mid ys _ (by omega) q2.1 q2.2 (by omega) HY.out.2.2.1.own HYS.out.1 HYS.out.2.1).mono ?_
          rintro e w3 ⟨rfl, zs, l1, l2, l3, l4⟩
          have HZ : Hid (So.Stab ys zs ∧ So.Out a mid ys zs ∧ So.Seg zs a mid ∧ SW w w3 base g n c zs) := ⟨l1, l2, l3, HY.out.2.2.1.seq l4⟩
          clear l1 l2 l3 l4 i1 i2
          have HZS : Hid (So.Seg zs mid E ∧ So.Seg zs E b) := ⟨HYS.out.2.2.1.out HZ.out.2.1 (.inr (Nat.le_refl _)), HYS.out.2.2.2.out HZ.out.2.1 (.inr (by omega))⟩
          by_cases q3 : mid < E ∧ E < b
          · have j1 : (mid : Int) < E := by omega
            have j2 : (E : Int) < b := by omega
            go_wp2_with fail
            refine (IH.out mid E b zs _ (by omega) q3.1 q3.2 hb HZ.out.2.2.2.own HZS.out.1 HZS.out.2).mono ?_
            rintro e w4 ⟨rfl, ws, m1, m2, m3, m4⟩
            have HW : Hid (So.Stab zs ws ∧ So.Out mid b zs ws ∧ So.Seg ws mid b ∧ SW w w4 base g n c ws) := ⟨m1, m2, m3, HZ.out.2.2.2.seq m4⟩
            clear m1 m2 m3 m4
            go_wp2_with fail
            (try simp only [Exit.inBlock, Exit.then])
            go_end0
            obtain ⟨k1, k2, k3, k4, k5⟩ := HY.out
            obtain ⟨l1, l2, l3, l4⟩ := HZ.out
            obtain ⟨m1, m2, m3, m4⟩ := HW.out
            exact ⟨rfl, ws, (k1.trans l1).trans m1, (k2.trans (l2.mono (Nat.le_refl _) (by omega))).trans (m2.mono (by omega) (Nat.le_refl _)), So.halves (by omega) (by omega) (by have := k3.len; omega) l1 l2 l3 m1 m2 m3 k5, m4⟩
          · have HW : Hid (∃ ws, So.Stab zs ws ∧ So.Out mid b zs ws ∧ So.Seg ws mid b ∧ SW w _ base g n c ws) := ⟨zs, So.Stab.refl _, So.Out.refl _ _ _, by
              by_cases e1 : E = mid
              · rw [← e1]; exact HZS.out.2
              · have e2 : E = b := by omega
                rw [← e2]; exact HZS.out.1, HZ.out.2.2.2⟩
            by_cases q4 : mid < E
            · have j1 : (mid : Int) < E := by omega
              have j2 : ¬ (E : Int) < b := by omega
              go_wp2_with fail
              obtain ⟨ws, HW⟩ := HW.out
              replace HW := Lib.hid HW
              (try simp only [Exit.inBlock, Exit.then])
              go_end0
              obtain ⟨k1, k2, k3, k4, k5⟩ := HY.out
              obtain ⟨l1, l2, l3, l4⟩ := HZ.out
              obtain ⟨m1, m2, m3, m4⟩ := HW.out
              exact ⟨rfl, ws, (k1.trans l1).trans m1, (k2.trans (l2.mono (Nat.le_refl _) (by omega))).trans (m2.mono (by omega) (Nat.le_refl _)), So.halves (by omega) (by omega) (by have := k3.len; omega) l1 l2 l3 m1 m2 m3 k5, m4⟩
            · exfalso; omega
        · have HZ : Hid (∃ zs, So.Stab ys zs ∧ So.Out a mid ys zs ∧ So.Seg zs a mid ∧ SW w _ base g n c zs) := ⟨ys, So.Stab.refl _, So.Out.refl _ _ _, by
            by_cases e1 : s = a
            · rw [← e1]; exact HYS.out.2.1
            · have e2 : s = mid := by omega
              rw [← e2]; exact HYS.out.1, HY.out.2.2.1⟩
          obtain ⟨zs, HZ⟩ := HZ.out
          replace HZ := Lib.hid HZ
          have HZS : Hid (So.Seg zs mid E ∧ So.Seg zs E b) := ⟨HYS.out.2.2.1.out HZ.out.2.1 (.inr (Nat.le_refl _)), HYS.out.2.2.2.out HZ.out.2.1 (.inr (by omega))⟩
          by_cases q5 : a < s
          · exfalso; omega
          · have i1 : ¬ (a : Int) < s := by omega
            by_cases q3 : mid < E ∧ E < b
            · have j1 : (mid : Int) < E := by omega
              have j2 : (E : Int) < b := by omega
              go_wp2_with fail
              refine (IH.out mid E b zs _ (by omega) q3.1 q3.2 hb HZ.out.2.2.2.own HZS.out.1 HZS.out.2).mono ?_
              rintro e w4 ⟨rfl, ws, m1, m2, m3, m4⟩
              have HW : Hid (So.Stab zs ws ∧ So.Out mid b zs ws ∧ So.Seg ws mid b ∧ SW w w4 base g n c ws) := ⟨m1, m2, m3, HZ.out.2.2.2.seq m4⟩
              clear m1 m2 m3 m4
              go_wp2_with fail
              (try simp only [Exit.inBlock, Exit.then])
              go_end0
              obtain ⟨k1, k2, k3, k4, k5⟩ := HY.out
              obtain ⟨l1, l2, l3, l4⟩ := HZ.out
              obtain ⟨m1, m2, m3, m4⟩ := HW.out
              exact ⟨rfl, ws, (k1.trans l1).trans m1, (k2.trans (l2.mono (Nat.le_refl _) (by omega))).trans (m2.mono (by omega) (Nat.le_refl _)), So.halves (by omega) (by omega) (by have := k3.len; omega) l1 l2 l3 m1 m2 m3 k5, m4⟩
            · have HW : Hid (∃ ws, So.Stab zs ws ∧ So.Out mid b zs ws ∧ So.Seg ws mid b ∧ SW w _ base g n c ws) := ⟨zs, So.Stab.refl _, So.Out.refl _ _ _, by
                by_cases e1 : E = mid
                · rw [← e1]; exact HZS.out.2
                · have e2 : E = b := by omega
                  rw [← e2]; exact HZS.out.1, HZ.out.2.2.2⟩
              by_cases q4 : mid < E
              · have j1 : (mid : Int) < E := by omega
                have j2 : ¬ (E : Int) < b := by omega
                go_wp2_with fail
                obtain ⟨ws, HW⟩ := HW.out
                replace HW := Lib.hid HW
                (try simp only [Exit.inBlock, Exit.then])
                go_end0
                obtain ⟨k1, k2, k3, k4, k5⟩ := HY.out
                obtain ⟨l1, l2, l3, l4⟩ := HZ.out
                obtain ⟨m1, m2, m3, m4⟩ := HW.out
                exact ⟨rfl, ws, (k1.trans l1).trans m1, (k2.trans (l2.mono (Nat.le_refl _) (by omega))).trans (m2.mono (by omega) (Nat.le_refl _)), So.halves (by omega) (by omega) (by have := k3.len; omega) l1 l2 l3 m1 m2 m3 k5, m4⟩
              · exfalso; omega
      · have HR : Hid (∃ ys, So.Rot s m E xs ys ∧ SW w _ base g n c ys) := ⟨xs, ⟨rfl, fun t => by
          by_cases e1 : s = m
          · by_cases e2 : s ≤ t ∧ t < s + (E - m)
            · rw [if_pos e2]; congr 1; omega
            · rw [if_neg e2]
              by_cases e3 : s + (E - m) ≤ t ∧ t < E
              · omega
              · rw [if_neg e3]
          · have e2 : E = m := by omega
            rw [if_neg (by omega)]
            by_cases e3 : s + (E - m) ≤ t ∧ t < E
            · rw [if_pos e3]; congr 1; omega
            · rw [if_neg e3]⟩, HS.out⟩
        obtain ⟨ys, hrot, hsw⟩ := HR.out
        have hE2 := HE2.out
        have hcp := So.cut_parts hbl HCUT.out HA.out HB.out (by rw [← hE2]; exact hrot)
        rw [← hE2] at hcp
        have HY : Hid (So.Stab xs ys ∧ So.Out a b xs ys ∧ SW w _ base g n c ys ∧ True ∧ ∀ i j (p q : Mv), a ≤ i → i < mid → mid ≤ j → j < b → ys[i]? = some p → ys[j]? = some q → p.1 ≤ q.1) :=
          ⟨So.stab_rot (by omega) (by omega) (by omega) hrot (by have h9 := So.cut_lt hbl HCUT.out HA.out HB.out; rw [← hE2] at h9; exact h9), (So.rot_out (by omega) (by omega) hrot).mono (by omega) (by omega), hsw, trivial, hcp.2.2.2.2⟩
        have HYS : Hid (So.Seg ys a s ∧ So.Seg ys s mid ∧ So.Seg ys mid E ∧ So.Seg ys E b) := ⟨hcp.1, hcp.2.1, hcp.2.2.1, hcp.2.2.2.1⟩
        clear hrot hsw hcp HR hE2
        by_cases q6 : s < m
        · have u1 : (s : Int) < m := by omega
          have u2 : ¬ (m : Int) < E := by omega
          by_cases q2 : a < s ∧ s < mid
          · exfalso; omega
          · have HZ : Hid (∃ zs, So.Stab ys zs ∧ So.Out a mid ys zs ∧ So.Seg zs a mid ∧ SW w _ base g n c zs) := ⟨ys, So.Stab.refl _, So.Out.refl _ _ _, by
              by_cases e1 : s = a
              · rw [← e1]; exact HYS.out.2.1
              · have e2 : s = mid := by omega
                rw [← e2]; exact HYS.out.1, HY.out.2.2.1⟩
            obtain ⟨zs, HZ⟩ := HZ.out
            replace HZ := Lib.hid HZ
            have HZS : Hid (So.Seg zs mid E ∧ So.Seg zs E b) := ⟨HYS.out.2.2.1.out HZ.out.2.1 (.inr (Nat.le_refl _)), HYS.out.2.2.2.out HZ.out.2.1 (.inr (by omega))⟩
            by_cases q5 : a < s
            · have i1 : (a : Int) < s := by omega
              have i2 : ¬ (s : Int) < mid := by omega
              by_cases q3 : mid < E ∧ E < b
              · have j1 : (mid : Int) < E := by omega
                have j2 : (E : Int) < b := by omega
                go_wp2_with fail
                refine (IH.out mid E b zs _ (by omega) q3.1 q3.2 hb HZ.out.2.2.2.own HZS.out.1 HZS.out.2).mono ?_
                rintro e w4 ⟨rfl, ws, m1, m2, m3, m4⟩
                have HW : Hid (So.Stab zs ws ∧ So.Out mid b zs ws ∧ So.Seg ws mid b ∧ SW w w4 base g n c ws) := ⟨m1, m2, m3, HZ.out.2.2.2.seq m4⟩
                clear m1 m2 m3 m4
                go_wp2_with fail
                (try simp only [Exit.inBlock, Exit.then])
                go_end0
                obtain ⟨k1, k2, k3, k4, k5⟩ := HY.out
                obtain ⟨l1, l2, l3, l4⟩ := HZ.out
                obtain ⟨m1, m2, m3, m4⟩ := HW.out
                exact ⟨rfl, ws, (k1.trans l1).trans m1, (k2.trans (l2.mono (Nat.le_refl _) (by omega))).trans (m2.mono (by omega) (Nat.le_refl _)), So.halves (by omega) (by omega) (by have := k3.len; omega) l1 l2 l3 m1 m2 m3 k5, m4⟩
              · have HW : Hid (∃ ws, So.Stab zs ws ∧ So.Out mid b zs ws ∧ So.Seg ws mid b ∧ SW w _ base g n c ws) := ⟨zs, So.Stab.refl _, So.Out.refl _ _ _, by
                  by_cases e1 : E = mid
                  · rw [← e1]; exact HZS.out.2
                  · have e2 : E = b := by omega
                    rw [← e2]; exact HZS.out.1, HZ.out.2.2.2⟩
                by_cases q4 : mid < E
                · have j1 : (mid : Int) < E := by omega
                  have j2 : ¬ (E : Int) < b := by omega
                  go_wp2_with fail
                  obtain ⟨ws, HW⟩ := HW.out
                  replace HW := Lib.hid HW
                  (try simp only [Exit.inBlock, Exit.then])
                  go_end0
                  obtain ⟨k1, k2, k3, k4, k5⟩ := HY.out
                  obtain ⟨l1, l2, l3, l4⟩ := HZ.out
                  obtain ⟨m1, m2, m3, m4⟩ := HW.out
                  exact ⟨rfl, ws, (k1.trans l1).trans m1, (k2.trans (l2.mono (Nat.le_refl _) (by omega))).trans (m2.mono (by omega) (Nat.le_refl _)), So.halves (by omega) (by omega) (by have := k3.len; omega) l1 l2 l3 m1 m2 m3 k5, m4⟩
                · exfalso; omega
            · exfalso; omega
        · have u1 : ¬ (s : Int) < m := by omega
          by_cases q2 : a < s ∧ s < mid
          · have i1 : (a : Int) < s := by omega
            have i2 : (s : Int) < mid := by omega
            go_wp2_with fail
            refine (IH.out a s mid ys _ (by omega) q2.1 q2.2 (by omega) HY.out.2.2.1.own HYS.out.1 HYS.out.2.1).mono ?_
            rintro e w3 ⟨rfl, zs, l1, l2, l3, l4⟩
            have HZ : Hid (So.Stab ys zs ∧ So.Out a mid ys zs ∧ So.Seg zs a mid ∧ SW w w3 base g n c zs) := ⟨l1, l2, l3, HY.out.2.2.1.seq l4⟩
            clear l1 l2 l3 l4 i1 i2
            have HZS : Hid (So.Seg zs mid E ∧ So.Seg zs E b) := ⟨HYS.out.2.2.1.out HZ.out.2.1 (.inr (Nat.le_refl _)), HYS.out.2.2.2.out HZ.out.2.1 (.inr (by omega))⟩
            by_cases q3 : mid < E ∧ E < b
            · exfalso; omega
            · have HW : Hid (∃ ws, So.Stab zs ws ∧ So.Out mid b zs ws ∧ So.Seg ws mid b ∧ SW w _ base g n c ws) := ⟨zs, So.Stab.refl _, So.Out.refl _ _ _, by
                by_cases e1 : E = mid
                · rw [← e1]; exact HZS.out.2
                · have e2 : E = b := by omega
                  rw [← e2]; exact HZS.out.1, HZ.out.2.2.2⟩
              by_cases q4 : mid < E
              · exfalso; omega
              · have j1 : ¬ (mid : Int) < E := by omega
                go_wp2_with fail
                obtain ⟨ws, HW⟩ := HW.out
                replace HW := Lib.hid HW
                (try simp only [Exit.inBlock, Exit.then])
                go_end0
                obtain ⟨k1, k2, k3, k4, k5⟩ := HY.out
                obtain ⟨l1, l2, l3, l4⟩ := HZ.out
                obtain ⟨m1, m2, m3, m4⟩ := HW.out
                exact ⟨rfl, ws, (k1.trans l1).trans m1, (k2.trans (l2.mono (Nat.le_refl _) (by omega))).trans (m2.mono (by omega) (Nat.le_refl _)), So.halves (by omega) (by omega) (by have := k3.len; omega) l1 l2 l3 m1 m2 m3 k5, m4⟩
          · have HZ : Hid (∃ zs, So.Stab ys zs ∧ So.Out a mid ys zs ∧ So.Seg zs a mid ∧ SW w _ base g n c zs) := ⟨ys, So.Stab.refl _, So.Out.refl _ _ _, by
              by_cases e1 : s = a
              · rw [← e1]; exact HYS.out.2.1
              · have e2 : s = mid := by omega
                rw [← e2]; exact HYS.out.1, HY.out.2.2.1⟩
            obtain ⟨zs, HZ⟩ := HZ.out
            replace HZ := Lib.hid HZ
            have HZS : Hid (So.Seg zs mid E ∧ So.Seg zs E b) := ⟨HYS.out.2.2.1.out HZ.out.2.1 (.inr (Nat.le_refl _)), HYS.out.2.2.2.out HZ.out.2.1 (.inr (by omega))⟩
            by_cases q5 : a < s
            · have i1 : (a : Int) < s := by omega
              have i2 : ¬ (s : Int) < mid := by omega
              by_cases q3 : mid < E ∧ E < b
              · exfalso; omega
              · have HW : Hid (∃ ws, So.Stab zs ws ∧ So.Out mid b zs ws ∧ So.Seg ws mid b ∧ SW w _ base g n c ws) := ⟨zs, So.Stab.refl _, So.Out.refl _ _ _, by
                  by_cases e1 : E = mid
                  · rw [← e1]; exact HZS.out.2
                  · have e2 : E = b := by omega
                    rw [← e2]; exact HZS.out.1, HZ.out.2.2.2⟩
                by_cases q4 : mid < E
                · exfalso; omega
                · have j1 : ¬ (mid : Int) < E := by omega
                  go_wp2_with fail
                  obtain ⟨ws, HW⟩ := HW.out
                  replace HW := Lib.hid HW
                  (try simp only [Exit.inBlock, Exit.then])
                  go_end0
                  obtain ⟨k1, k2, k3, k4, k5⟩ := HY.out
                  obtain ⟨l1, l2, l3, l4⟩ := HZ.out
                  obtain ⟨m1, m2, m3, m4⟩ := HW.out
                  exact ⟨rfl, ws, (k1.trans l1).trans m1, (k2.trans (l2.mono (Nat.le_refl _) (by omega))).trans (m2.mono (by omega) (Nat.le_refl _)), So.halves (by omega) (by omega) (by have := k3.len; omega) l1 l2 l3 m1 m2 m3 k5, m4⟩
            · exfalso; omega
set_option maxRecDepth 100000 in
set_option maxHeartbeats 32000000 in
theorem symMerge_lo (base g n c D a m b mid P : Nat) (xs : List Mv) (w : World) (hn : n ≤ 1048576) (ih : SymH base g n c D) (hD : b - a ≤ D + 1) (ham : a + 2 ≤ m) (hmb : m + 2 ≤ b) (hb : b ≤ n) (hm1 : 2 * mid ≤ a + b) (hm2 : a + b ≤ 2 * mid + 1) (hP : P + 1 = mid + m) (hc : m ≤ mid)
    (ho : w.ownsRow base 28 2 (.slice (some ⟨g, 0, none⟩) n c) n (flat xs)) (hA : So.Seg xs a m) (hB : So.Seg xs m b) :
    Calls Try.prog 54 #[.slice (some ⟨g, 0, none⟩) n c, .int .i64 a, .int .i64 m, .int .i64 b, cmpF] w fun e w' => e = .returned (.tuple #[]) ∧ SrtS w w' base g n c a b b xs := by
  have HO := Lib.hid ho
  have HA := Lib.hid hA
  have HB := Lib.hid hB
  have IH := Lib.hid ih
  have hxl : xs.length = n := by have := ho.1; rw [flat_len] at this; omega
  have hbl : b ≤ xs.length := by omega
  clear ho hA hB ih
  have w0 : IntKind.i64.wrap ((m : Int) - a) = (m : Int) - a := IntWalk.i64_in _ (by omega)
  have w00 : ((m : Int) - a == 1) = false := by simp; omega
  have w1 : IntKind.i64.wrap ((b : Int) - m) = (b : Int) - m := IntWalk.i64_in _ (by omega)
  have w11 : ((b : Int) - m == 1) = false := by simp; omega
  have hmid : ((a : Int) + b) / 2 = (mid : Int) := by omega
  have wn : IntKind.i64.wrap ((mid : Int) + m) = (mid : Int) + m := IntWalk.i64_in _ (by omega)
  have wP : IntKind.i64.wrap ((mid : Int) + m - 1) = (P : Int) := by rw [IntWalk.i64_in _ (by omega)]; omega
  have wc : ¬ (mid : Int) < m := by omega
  go_enter Try.func54, Try.ntmps54
  go_wp2_with fail
  clear w0 w00 w1 w11
  go_loopw [20, 21] (fun u v wr => ∃ s r : Nat, a ≤ s ∧ s ≤ r ∧ r ≤ m ∧ u = .int .i64 s ∧ v = .int .i64 r ∧ Hid (∀ c (p q : Mv), c < s → a ≤ c → mid + m - 1 - c < b → xs[c]? = some p → xs[mid + m - 1 - c]? = some q → p.1 ≤ q.1) ∧ Hid (∀ c (p q : Mv), r ≤ c → c < m → m ≤ mid + m - 1 - c → c < mid + m → xs[c]? = some p → xs[mid + m - 1 - c]? = some q → q.1 < p.1) ∧ Hid (SW w wr base g n c xs)) (fun u v _ => (intOf v).toNat - (intOf u).toNat)
  case atStart => exact ⟨a, m, Nat.le_refl _, by omega, Nat.le_refl _, by first | rfl | go_num, rfl, fun c p q h1 h2 h3 => by omega, fun c p q h1 h2 h3 => by omega, SW.refl HO.out⟩
  case round =>
    obtain ⟨s, r, hs0, hsr, hr0, rfl, rfl, HL, HH, HS⟩ := hrel
    by_cases hlt : s < r
    · obtain ⟨h, hh, hh1, hh2⟩ : ∃ h : Nat, ((s : Int) + r) / 2 = (h : Int) ∧ s ≤ h ∧ h < r := ⟨(s + r) / 2, by omega, by omega, by omega⟩
      obtain ⟨Q, hQ, hQ2⟩ : ∃ Q : Nat, IntKind.i64.wrap ((P : Int) - h) = (Q : Int) ∧ Q = mid + m - 1 - h := ⟨mid + m - 1 - h, by rw [IntWalk.i64_in _ (by omega)]; omega, rfl⟩
      obtain ⟨x, hx⟩ : ∃ x, xs[h]? = some x := ⟨_, List.getElem?_eq_getElem (by omega)⟩
      obtain ⟨y, hy⟩ : ∃ y, xs[Q]? = some y := ⟨_, List.getElem?_eq_getElem (by omega)⟩
      obtain ⟨c0, c1, _, _⟩ := own_at2 HS.out.own hy
      obtain ⟨d0, d1, _, _⟩ := own_at2 HS.out.own hx
      have hy2 : xs[mid + m - 1 - h]? = some y := by rw [← hQ2]; exact hy
      have HXY := Lib.hid (And.intro hx hy2)
      have k0 : (0 : Int) ≤ (h : Int) := by omega
      have k1 : (h : Int) < n := by omega
      have k2 : (0 : Int) ≤ (Q : Int) := by omega
      have k3 : (Q : Int) < n := by omega
      have hQ3 : Q + h + 1 = mid + m := by omega
      clear hx hy hy2 hQ2
      by_cases hxy : y.1 < x.1
      · have hcv : decide (cmpv y.1 x.1 < 0) = true := decide_eq_true ((cmpv_neg _ _).2 hxy)
        have hcv2 : cmpv y.1 x.1 < 0 := (cmpv_neg _ _).2 hxy
        have HH2 : Hid (∀ c (p q : Mv), h ≤ c → c < m → m ≤ mid + m - 1 - c → c < mid + m → xs[c]? = some p → xs[mid + m - 1 - c]? = some q → q.1 < p.1) := fun c' p q e1 e2 e3 _ e4 e5 =>
          So.bs_hi hbl HA.out HB.out (by omega) (by omega) HXY.out.1 HXY.out.2 hxy c' p q e1 e2 e3 e4 e5
        clear hxy
        go_wp2_with fail
        go_region_held3 (fun W => (W.cell? ⟨g, Q * 2, none⟩ = some (.int .i64 y.1) ∧ W.cell? ⟨g, Q * 2 + 1, none⟩ = some (.string y.2)) ∧ W.cell? ⟨g, h * 2, none⟩ = some (.int .i64 x.1) ∧ W.cell? ⟨g, h * 2 + 1, none⟩ = some (.string x.2))
          (first | exact ⟨⟨c0, c1⟩, d0, d1⟩ | exact HC2)
          (first | (go_at_call 29; refine (cmpMove_any _ _ _ _ _).mono ?_; rintro e w2 ⟨rfl, hb2⟩; have HC2 := four_later (w := wr.drew) hb2 ⟨⟨c0, c1⟩, d0, d1⟩; have HS2 := Lib.hid (HS.out.drew.below hb2); clear hb2))
        all_goals clear c0 c1 d0 d1 HC2
        all_goals go_wp2_with fail
        all_goals go_roundw
        all_goals first
          | (simp [intOf]; done)
          | (simp [intOf]; omega)
          | exact ⟨s, h, hs0, hh1, by omega, rfl, rfl, HL, HH2, HS2⟩
      · have hcv : decide (cmpv y.1 x.1 < 0) = false := decide_eq_false (fun e => hxy ((cmpv_neg _ _).1 e))
        have hcv2 : ¬ cmpv y.1 x.1 < 0 := fun e => hxy ((cmpv_neg _ _).1 e)
        have HL2 : Hid (∀ c (p q : Mv), c < h + 1 → a ≤ c → mid + m - 1 - c < b → xs[c]? = some p → xs[mid + m - 1 - c]? = some q → p.1 ≤ q.1) := fun c' p q e1 e2 e3 e4 e5 =>
          So.bs_lo hbl HA.out HB.out (by omega) (by omega) HXY.out.1 HXY.out.2 (by omega) c' p q (by omega) e2 e3 e4 e5
        have w9 : IntKind.i64.wrap ((h : Int) + 1) = (h : Int) + 1 := IntWalk.i64_in _ (by omega)
        clear hxy
        go_wp2_with fail
        go_region_held3 (fun W => (W.cell? ⟨g, Q * 2, none⟩ = some (.int .i64 y.1) ∧ W.cell? ⟨g, Q * 2 + 1, none⟩ = some (.string y.2)) ∧ W.cell? ⟨g, h * 2, none⟩ = some (.int .i64 x.1) ∧ W.cell? ⟨g, h * 2 + 1, none⟩ = some (.string x.2))
          (first | exact ⟨⟨c0, c1⟩, d0, d1⟩ | exact HC2)
          (first | (go_at_call 29; refine (cmpMove_any _ _ _ _ _).mono ?_; rintro e w2 ⟨rfl, hb2⟩; have HC2 := four_later (w := wr.drew) hb2 ⟨⟨c0, c1⟩, d0, d1⟩; have HS2 := Lib.hid (HS.out.drew.below hb2); clear hb2))
        all_goals clear c0 c1 d0 d1 HC2
        all_goals go_wp2_with fail
        all_goals go_roundw
        all_goals first
          | (simp [intOf]; done)
          | (simp [intOf]; omega)
          | exact ⟨h + 1, r, by omega, by omega, hr0, by go_num, rfl, HL2, HH, HS2⟩
    · obtain rfl : s = r := by omega
      obtain ⟨E, hE, hE2⟩ : ∃ E : Nat, IntKind.i64.wrap ((mid : Int) + m - s) = (E : Int) ∧ E = mid + m - s := ⟨mid + m - s, by rw [IntWalk.i64_in _ (by omega)]; omega, rfl⟩
      have HCUT : Hid (So.Cut a m b mid s xs) := ⟨by omega, HL.out, HH.out⟩
      have hE3 : E + s = mid + m := by omega
      have HE2 := Lib.hid hE2
      clear HL HH hE2
      by_cases q1 : s < m ∧ m < E
      · have u1 : (s : Int) < m := by omega
        have u2 : (m : Int) < E := by omega
        go_wp2_with fail
        refine (rotate_any base g n c s m E xs _ _ HS.out.own q1.1 q1.2 (by omega) hn).mono ?_
        rintro e w2 ⟨rfl, hr2⟩
        have HR : Hid (∃ ys, So.Rot s m E xs ys ∧ SW w w2 base g n c ys) := by obtain ⟨ys, r1, r2⟩ := hr2; exact ⟨ys, r1, HS.out.seq r2⟩
        clear hr2 u1 u2 HS
        obtain ⟨ys, hrot, hsw⟩ := HR.out
        have hE2 := HE2.out
        have hcp := So.cut_parts hbl HCUT.out HA.out HB.out (by rw [← hE2]; exact hrot)
        rw [← hE2] at hcp
        have HY : Hid (So.Stab xs ys ∧ So.Out a b xs ys ∧ SW w _ base g n c ys ∧ True ∧ ∀ i j (p q : Mv), a ≤ i → i < mid → mid ≤ j → j < b → ys[i]? = some p → ys[j]? = some q → p.1 ≤ q.1) :=
          ⟨So.stab_rot (by omega) (by omega) (by omega) hrot (by have h9 := So.cut_lt hbl HCUT.out HA.out HB.out; rw [← hE2] at h9; exact h9), (So.rot_out (by omega) (by omega) hrot).mono (by omega) (by omega), hsw, trivial, hcp.2.2.2.2⟩
        have HYS : Hid (So.Seg ys a s ∧ So.Seg ys s mid ∧ So.Seg ys mid E ∧ So.Seg ys E b) := ⟨hcp.1, hcp.2.1, hcp.2.2.1, hcp.2.2.2.1⟩
        clear hrot hsw hcp HR hE2
        by_cases q2 : a < s ∧ s < mid
        · have i1 : (a : Int) < s := by omega
          have i2 : (s : Int) < mid := by omega
          go_wp2_with fail
          refine (IH.out a s mid ys _ (by omega) q2.1 q2.2 (by omega) HY.out.2.2.1.own HYS.out.1 HYS.out.2.1).mono ?_
          rintro e w3 ⟨rfl, zs, l1, l2, l3, l4⟩
          have HZ : Hid (So.Stab ys zs ∧ So.Out a mid ys zs ∧ So.Seg zs a mid ∧ SW w w3 base g n c zs) := ⟨l1, l2, l3, HY.out.2.2.1.seq l4⟩
          clear l1 l2 l3 l4 i1 i2
          have HZS : Hid (So.Seg zs mid E ∧ So.Seg zs E b) := ⟨HYS.out.2.2.1.out HZ.out.2.1 (.inr (Nat.le_refl _)), HYS.out.2.2.2.out HZ.out.2.1 (.inr (by omega))⟩
          by_cases q3 : mid < E ∧ E < b
          · have j1 : (mid : Int) < E := by omega
            have j2 : (E : Int) < b := by omega
            go_wp2_with fail
            refine (IH.out mid E b zs _ (by omega) q3.1 q3.2 hb HZ.out.2.2.2.own HZS.out.1 HZS.out.2).mono ?_
            rintro e w4 ⟨rfl, ws, m1, m2, m3, m4⟩
            have HW : Hid (So.Stab zs ws ∧ So.Out mid b zs ws ∧ So.Seg ws mid b ∧ SW w w4 base g n c ws) := ⟨m1, m2, m3, HZ.out.2.2.2.seq m4⟩
            clear m1 m2 m3 m4
            go_wp2_with fail
            (try simp only [Exit.inBlock, Exit.then])
            go_end0
            obtain ⟨k1, k2, k3, k4, k5⟩ := HY.out
            obtain ⟨l1, l2, l3, l4⟩ := HZ.out
            obtain ⟨m1, m2, m3, m4⟩ := HW.out
            exact ⟨rfl, ws, (k1.trans l1).trans m1, (k2.trans (l2.mono (Nat.le_refl _) (by omega))).trans (m2.mono (by omega) (Nat.le_refl _)), So.halves (by omega) (by omega) (by have := k3.len; omega) l1 l2 l3 m1 m2 m3 k5, m4⟩
          · have HW : Hid (∃ ws, So.Stab zs ws ∧ So.Out mid b zs ws ∧ So.Seg ws mid b ∧ SW w _ base g n c ws) := ⟨zs, So.Stab.refl _, So.Out.refl _ _ _, by
              by_cases e1 : E = mid
              · rw [← e1]; exact HZS.out.2
              · have e2 : E = b := by omega
                rw [← e2]; exact HZS.out.1, HZ.out.2.2.2⟩
            by_cases q4 : mid < E
            · exfalso; omega
            · exfalso; omega
        · have HZ : Hid (∃ zs, So.Stab ys zs ∧ So.Out a mid ys zs ∧ So.Seg zs a mid ∧ SW w _ base g n c zs) := ⟨ys, So.Stab.refl _, So.Out.refl _ _ _, by
            by_cases e1 : s = a
            · rw [← e1]; exact HYS.out.2.1
            · have e2 : s = mid := by omega
              rw [← e2]; exact HYS.out.1, HY.out.2.2.1⟩
          obtain ⟨zs, HZ⟩ := HZ.out
          replace HZ := Lib.hid HZ
          have HZS : Hid (So.Seg zs mid E ∧ So.Seg zs E b) := ⟨HYS.out.2.2.1.out HZ.out.2.1 (.inr (Nat.le_refl _)), HYS.out.2.2.2.out HZ.out.2.1 (.inr (by omega))⟩
          by_cases q5 : a < s
          · exfalso; omega
          · have i1 : ¬ (a : Int) < s := by omega
            by_cases q3 : mid < E ∧ E < b
            · have j1 : (mid : Int) < E := by omega
              have j2 : (E : Int) < b := by omega
              go_wp2_with fail
              refine (IH.out mid E b zs _ (by omega) q3.1 q3.2 hb HZ.out.2.2.2.own HZS.out.1 HZS.out.2).mono ?_
              rintro e w4 ⟨rfl, ws, m1, m2, m3, m4⟩
              have HW : Hid (So.Stab zs ws ∧ So.Out mid b zs ws ∧ So.Seg ws mid b ∧ SW w w4 base g n c ws) := ⟨m1, m2, m3, HZ.out.2.2.2.seq m4⟩
              clear m1 m2 m3 m4
              go_wp2_with fail
              (try simp only [Exit.inBlock, Exit.then])
              go_end0
              obtain ⟨k1, k2, k3, k4, k5⟩ := HY.out
              obtain ⟨l1, l2, l3, l4⟩ := HZ.out
              obtain ⟨m1, m2, m3, m4⟩ := HW.out
              exact ⟨rfl, ws, (k1.trans l1).trans m1, (k2.trans (l2.mono (Nat.le_refl _) (by omega))).trans (m2.mono (by omega) (Nat.le_refl _)), So.halves (by omega) (by omega) (by have := k3.len; omega) l1 l2 l3 m1 m2 m3 k5, m4⟩
            · have HW : Hid (∃ ws, So.Stab zs ws ∧ So.Out mid b zs ws ∧ So.Seg ws mid b ∧ SW w _ base g n c ws) := ⟨zs, So.Stab.refl _, So.Out.refl _ _ _, by
                by_cases e1 : E = mid
                · rw [← e1]; exact HZS.out.2
                · have e2 : E = b := by omega
                  rw [← e2]; exact HZS.out.1, HZ.out.2.2.2⟩
              by_cases q4 : mid < E
              · have j1 : (mid : Int) < E := by omega
                have j2 : ¬ (E : Int) < b := by omega
                go_wp2_with fail
                obtain ⟨ws, HW⟩ := HW.out
                replace HW := Lib.hid HW
                (try simp only [Exit.inBlock, Exit.then])
                go_end0
                obtain ⟨k1, k2, k3, k4, k5⟩ := HY.out
                obtain ⟨l1, l2, l3, l4⟩ := HZ.out
                obtain ⟨m1, m2, m3, m4⟩ := HW.out
                exact ⟨rfl, ws, (k1.trans l1).trans m1, (k2.trans (l2.mono (Nat.le_refl _) (by omega))).trans (m2.mono (by omega) (Nat.le_refl _)), So.halves (by omega) (by omega) (by have := k3.len; omega) l1 l2 l3 m1 m2 m3 k5, m4⟩
              · exfalso; omega
      · have HR : Hid (∃ ys, So.Rot s m E xs ys ∧ SW w _ base g n c ys) := ⟨xs, ⟨rfl, fun t => by
          by_cases e1 : s = m
          · by_cases e2 : s ≤ t ∧ t < s + (E - m)
            · rw [if_pos e2]; congr 1; omega
            · rw [if_neg e2]
              by_cases e3 : s + (E - m) ≤ t ∧ t < E
              · omega
              · rw [if_neg e3]
          · have e2 : E = m := by omega
            rw [if_neg (by omega)]
            by_cases e3 : s + (E - m) ≤ t ∧ t < E
            · rw [if_pos e3]; congr 1; omega
            · rw [if_neg e3]⟩, HS.out⟩
        obtain ⟨ys, hrot, hsw⟩ := HR.out
        have hE2 := HE2.out
        have hcp := So.cut_parts hbl HCUT.out HA.out HB.out (by rw [← hE2]; exact hrot)
        rw [← hE2] at hcp
        have HY : Hid (So.Stab xs ys ∧ So.Out a b xs ys ∧ SW w _ base g n c ys ∧ True ∧ ∀ i j (p q : Mv), a ≤ i → i < mid → mid ≤ j → j < b → ys[i]? = some p → ys[j]? = some q → p.1 ≤ q.1) :=
          ⟨So.stab_rot (by omega) (by omega) (by omega) hrot (by have h9 := So.cut_lt hbl HCUT.out HA.out HB.out; rw [← hE2] at h9; exact h9), (So.rot_out (by omega) (by omega) hrot).mono (by omega) (by omega), hsw, trivial, hcp.2.2.2.2⟩
        have HYS : Hid (So.Seg ys a s ∧ So.Seg ys s mid ∧ So.Seg ys mid E ∧ So.Seg ys E b) := ⟨hcp.1, hcp.2.1, hcp.2.2.1, hcp.2.2.2.1⟩
        clear hrot hsw hcp HR hE2
        by_cases q6 : s < m
        · have u1 : (s : Int) < m := by omega
          have u2 : ¬ (m : Int) < E := by omega
          by_cases q2 : a < s ∧ s < mid
          · exfalso; omega
          · have HZ : Hid (∃ zs, So.Stab ys zs ∧ So.Out a mid ys zs ∧ So.Seg zs a mid ∧ SW w _ base g n c zs) := ⟨ys, So.Stab.refl _, So.Out.refl _ _ _, by
              by_cases e1 : s = a
              · rw [← e1]; exact HYS.out.2.1
              · have e2 : s = mid := by omega
                rw [← e2]; exact HYS.out.1, HY.out.2.2.1⟩
            obtain ⟨zs, HZ⟩ := HZ.out
            replace HZ := Lib.hid HZ
            have HZS : Hid (So.Seg zs mid E ∧ So.Seg zs E b) := ⟨HYS.out.2.2.1.out HZ.out.2.1 (.inr (Nat.le_refl _)), HYS.out.2.2.2.out HZ.out.2.1 (.inr (by omega))⟩
            by_cases q5 : a < s
            · have i1 : (a : Int) < s := by omega
              have i2 : ¬ (s : Int) < mid := by omega
              by_cases q3 : mid < E ∧ E < b
              · have j1 : (mid : Int) < E := by omega
                have j2 : (E : Int) < b := by omega
                go_wp2_with fail
                refine (IH.out mid E b zs _ (by omega) q3.1 q3.2 hb HZ.out.2.2.2.own HZS.out.1 HZS.out.2).mono ?_
                rintro e w4 ⟨rfl, ws, m1, m2, m3, m4⟩
                have HW : Hid (So.Stab zs ws ∧ So.Out mid b zs ws ∧ So.Seg ws mid b ∧ SW w w4 base g n c ws) := ⟨m1, m2, m3, HZ.out.2.2.2.seq m4⟩
                clear m1 m2 m3 m4
                go_wp2_with fail
                (try simp only [Exit.inBlock, Exit.then])
                go_end0
                obtain ⟨k1, k2, k3, k4, k5⟩ := HY.out
                obtain ⟨l1, l2, l3, l4⟩ := HZ.out
                obtain ⟨m1, m2, m3, m4⟩ := HW.out
                exact ⟨rfl, ws, (k1.trans l1).trans m1, (k2.trans (l2.mono (Nat.le_refl _) (by omega))).trans (m2.mono (by omega) (Nat.le_refl _)), So.halves (by omega) (by omega) (by have := k3.len; omega) l1 l2 l3 m1 m2 m3 k5, m4⟩
              · have HW : Hid (∃ ws, So.Stab zs ws ∧ So.Out mid b zs ws ∧ So.Seg ws mid b ∧ SW w _ base g n c ws) := ⟨zs, So.Stab.refl _, So.Out.refl _ _ _, by
                  by_cases e1 : E = mid
                  · rw [← e1]; exact HZS.out.2
                  · have e2 : E = b := by omega
                    rw [← e2]; exact HZS.out.1, HZ.out.2.2.2⟩
                by_cases q4 : mid < E
                · have j1 : (mid : Int) < E := by omega
                  have j2 : ¬ (E : Int) < b := by omega
                  go_wp2_with fail
                  obtain ⟨ws, HW⟩ := HW.out
                  replace HW := Lib.hid HW
                  (try simp only [Exit.inBlock, Exit.then])
                  go_end0
                  obtain ⟨k1, k2, k3, k4, k5⟩ := HY.out
                  obtain ⟨l1, l2, l3, l4⟩ := HZ.out
                  obtain ⟨m1, m2, m3, m4⟩ := HW.out
                  exact ⟨rfl, ws, (k1.trans l1).trans m1, (k2.trans (l2.mono (Nat.le_refl _) (by omega))).trans (m2.mono (by omega) (Nat.le_refl _)), So.halves (by omega) (by omega) (by have := k3.len; omega) l1 l2 l3 m1 m2 m3 k5, m4⟩
                · exfalso; omega
            · exfalso; omega
        · have u1 : ¬ (s : Int) < m := by omega
          by_cases q2 : a < s ∧ s < mid
          · have i1 : (a : Int) < s := by omega
            have i2 : (s : Int) < mid := by omega
            go_wp2_with fail
            refine (IH.out a s mid ys _ (by omega) q2.1 q2.2 (by omega) HY.out.2.2.1.own HYS.out.1 HYS.out.2.1).mono ?_
            rintro e w3 ⟨rfl, zs, l1, l2, l3, l4⟩
            have HZ : Hid (So.Stab ys zs ∧ So.Out a mid ys zs ∧ So.Seg zs a mid ∧ SW w w3 base g n c zs) := ⟨l1, l2, l3, HY.out.2.2.1.seq l4⟩
            clear l1 l2 l3 l4 i1 i2
            have HZS : Hid (So.Seg zs mid E ∧ So.Seg zs E b) := ⟨HYS.out.2.2.1.out HZ.out.2.1 (.inr (Nat.le_refl _)), HYS.out.2.2.2.out HZ.out.2.1 (.inr (by omega))⟩
            by_cases q3 : mid < E ∧ E < b
            · exfalso; omega
            · have HW : Hid (∃ ws, So.Stab zs ws ∧ So.Out mid b zs ws ∧ So.Seg ws mid b ∧ SW w _ base g n c ws) := ⟨zs, So.Stab.refl _, So.Out.refl _ _ _, by
                by_cases e1 : E = mid
                · rw [← e1]; exact HZS.out.2
                · have e2 : E = b := by omega
                  rw [← e2]; exact HZS.out.1, HZ.out.2.2.2⟩
              by_cases q4 : mid < E
              · exfalso; omega
              · have j1 : ¬ (mid : Int) < E := by omega
                go_wp2_with fail
                obtain ⟨ws, HW⟩ := HW.out
                replace HW := Lib.hid HW
                (try simp only [Exit.inBlock, Exit.then])
                go_end0
                obtain ⟨k1, k2, k3, k4, k5⟩ := HY.out
                obtain ⟨l1, l2, l3, l4⟩ := HZ.out
                obtain ⟨m1, m2, m3, m4⟩ := HW.out
                exact ⟨rfl, ws, (k1.trans l1).trans m1, (k2.trans (l2.mono (Nat.le_refl _) (by omega))).trans (m2.mono (by omega) (Nat.le_refl _)), So.halves (by omega) (by omega) (by have := k3.len; omega) l1 l2 l3 m1 m2 m3 k5, m4⟩
          · have HZ : Hid (∃ zs, So.Stab ys zs ∧ So.Out a mid ys zs ∧ So.Seg zs a mid ∧ SW w _ base g n c zs) := ⟨ys, So.Stab.refl _, So.Out.refl _ _ _, by
              by_cases e1 : s = a
              · rw [← e1]; exact HYS.out.2.1
              · have e2 : s = mid := by omega
                rw [← e2]; exact HYS.out.1, HY.out.2.2.1⟩
            obtain ⟨zs, HZ⟩ := HZ.out
            replace HZ := Lib.hid HZ
            have HZS : Hid (So.Seg zs mid E ∧ So.Seg zs E b) := ⟨HYS.out.2.2.1.out HZ.out.2.1 (.inr (Nat.le_refl _)), HYS.out.2.2.2.out HZ.out.2.1 (.inr (by omega))⟩
            by_cases q5 : a < s
            · have i1 : (a : Int) < s := by omega
              have i2 : ¬ (s : Int) < mid := by omega
              by_cases q3 : mid < E ∧ E < b
              · exfalso; omega
              · have HW : Hid (∃ ws, So.Stab zs ws ∧ So.Out mid b zs ws ∧ So.Seg ws mid b ∧ SW w _ base g n c ws) := ⟨zs, So.Stab.refl _, So.Out.refl _ _ _, by
                  by_cases e1 : E = mid
                  · rw [← e1]; exact HZS.out.2
                  · have e2 : E = b := by omega
                    rw [← e2]; exact HZS.out.1, HZ.out.2.2.2⟩
                by_cases q4 : mid < E
                · exfalso; omega
                · have j1 : ¬ (mid : Int) < E := by omega
                  go_wp2_with fail
                  obtain ⟨ws, HW⟩ := HW.out
                  replace HW := Lib.hid HW
                  (try simp only [Exit.inBlock, Exit.then])
                  go_end0
                  obtain ⟨k1, k2, k3, k4, k5⟩ := HY.out
                  obtain ⟨l1, l2, l3, l4⟩ := HZ.out
                  obtain ⟨m1, m2, m3, m4⟩ := HW.out
                  exact ⟨rfl, ws, (k1.trans l1).trans m1, (k2.trans (l2.mono (Nat.le_refl _) (by omega))).trans (m2.mono (by omega) (Nat.le_refl _)), So.halves (by omega) (by omega) (by have := k3.len; omega) l1 l2 l3 m1 m2 m3 k5, m4⟩
            · exfalso; omega
theorem symMerge_any (base g n c : Nat) (hn : n ≤ 1048576) : ∀ D, SymH base g n c D
  | 0 => fun a m b xs w hD h1 h2 => by omega
  | D + 1 => fun a m b xs w hD h1 h2 hb ho hA hB => by
    by_cases c1 : m = a + 1
    · subst c1
      rw [show (((a + 1 : Nat)) : Int) = (a : Int) + 1 by omega]
      exact symMerge_front base g n c a b xs w ho h2 hb hn hB
    · by_cases c2 : b = m + 1
      · subst c2
        rw [show (((m + 1 : Nat)) : Int) = (m : Int) + 1 by omega]
        exact symMerge_back base g n c a m xs w ho (by omega) hb hn hA
      · have ih := symMerge_any base g n c hn D
        by_cases c3 : (a + b) / 2 < m
        · exact symMerge_hi base g n c D a m b ((a + b) / 2) ((a + b) / 2 + m - 1) xs w hn ih hD (by omega) (by omega) hb (by omega) (by omega) (by omega) c3 ho hA hB
        · exact symMerge_lo base g n c D a m b ((a + b) / 2) ((a + b) / 2 + m - 1) xs w hn ih hD (by omega) (by omega) hb (by omega) (by omega) (by omega) (by omega) ho hA hB
end Go.Proofs.Ytmplanlppjebnaa
