/-
  Contract of the library's symMergeCmpFunc where one of the two pieces is of one move alone.
  Conditions: a row of the call's own, of at most 2^20 moves; both pieces are sorted.
-/
import Derived.Test.YtmplanlppjebnaaSort3
namespace Go.Proofs.Ytmplanlppjebnaa
open Go.RowKit
set_option linter.unusedVariables false
set_option linter.unusedSimpArgs false
attribute [local go_sem ↓] Go.wp_at_zero Go.wp_at_succ

set_option maxRecDepth 100000 in
set_option maxHeartbeats 8000000 in
theorem symMerge_front (base g n c a b : Nat) (xs : List Mv) (w : World) (ho : w.ownsRow base 28 2 (.slice (some ⟨g, 0, none⟩) n c) n (flat xs)) (hab : a + 1 < b) (hb : b ≤ n) (hn : n ≤ 1048576) (hseg : So.Seg xs (a + 1) b) :
    Calls Try.prog 54 #[.slice (some ⟨g, 0, none⟩) n c, .int .i64 a, .int .i64 ((a : Int) + 1), .int .i64 b, cmpF] w fun e w' => e = .returned (.tuple #[]) ∧ SrtS w w' base g n c a b b xs := by
  have HO := Lib.hid ho
  have HSEG := Lib.hid hseg
  have hxl : xs.length = n := by have := ho.1; rw [flat_len] at this; omega
  obtain ⟨x, hx⟩ : ∃ x, xs[a]? = some x := ⟨_, List.getElem?_eq_getElem (by omega)⟩
  have HX := Lib.hid hx
  clear ho hseg hx
  have w0 : IntKind.i64.wrap ((a : Int) + 1 - a) = 1 := by rw [show (a : Int) + 1 - a = 1 by omega]; exact IntWalk.i64_in _ (by omega)
  have w1 : (a : Int) + 1 - a = 1 := by omega
  go_enter Try.func54, Try.ntmps54
  go_wp2_with fail
  clear w0 w1
  go_loopw [10, 11] (fun u v wr => ∃ i j : Nat, a + 1 ≤ i ∧ i ≤ j ∧ j ≤ b ∧ u = .int .i64 i ∧ v = .int .i64 j ∧ Hid (∀ h (q : Mv), a + 1 ≤ h → h < i → xs[h]? = some q → q.1 < x.1) ∧ Hid (∀ h (q : Mv), j ≤ h → h < b → xs[h]? = some q → x.1 ≤ q.1) ∧ Hid (SW w wr base g n c xs)) (fun u v _ => (intOf v).toNat - (intOf u).toNat)
  case atStart => exact ⟨a + 1, b, Nat.le_refl _, by omega, Nat.le_refl _, by go_num, rfl, fun h q h1 h2 => by omega, fun h q h1 h2 => by omega, SW.refl HO.out⟩
  case round =>
    obtain ⟨i, j, hai, hij, hjb, rfl, rfl, HL, HH, HS⟩ := hrel
    by_cases hlt : i < j
    · obtain ⟨h, hh, hh1, hh2⟩ : ∃ h : Nat, ((i : Int) + j) / 2 = (h : Int) ∧ i ≤ h ∧ h < j := ⟨(i + j) / 2, by omega, by omega, by omega⟩
      obtain ⟨q, hq⟩ : ∃ q, xs[h]? = some q := ⟨_, List.getElem?_eq_getElem (by omega)⟩
      obtain ⟨c0, c1, _, _⟩ := own_at2 HS.out.own hq
      obtain ⟨d0, d1, _, _⟩ := own_at2 HS.out.own HX.out
      have HQ := Lib.hid hq
      have k0 : (0 : Int) ≤ (h : Int) := by omega
      have k1 : (h : Int) < n := by omega
      have k2 : (0 : Int) ≤ (a : Int) := by omega
      have k3 : (a : Int) < n := by omega
      clear hq
      by_cases hxy : q.1 < x.1
      · have hcv : decide (cmpv q.1 x.1 < 0) = true := decide_eq_true ((cmpv_neg _ _).2 hxy)
        have hcv2 : cmpv q.1 x.1 < 0 := (cmpv_neg _ _).2 hxy
        have HL2 : Hid (∀ h' (q : Mv), a + 1 ≤ h' → h' < h + 1 → xs[h']? = some q → q.1 < x.1) := fun h' q' e1 e2 e3 => by
          have := HSEG.out h' h q' q e1 (by omega) (by omega) e3 HQ.out
          omega
        have w9 : IntKind.i64.wrap ((h : Int) + 1) = (h : Int) + 1 := IntWalk.i64_in _ (by omega)
        clear hxy
        go_wp2_with fail
        go_region_held3 (fun W => (W.cell? ⟨g, h * 2, none⟩ = some (.int .i64 q.1) ∧ W.cell? ⟨g, h * 2 + 1, none⟩ = some (.string q.2)) ∧ W.cell? ⟨g, a * 2, none⟩ = some (.int .i64 x.1) ∧ W.cell? ⟨g, a * 2 + 1, none⟩ = some (.string x.2))
          (first | exact ⟨⟨c0, c1⟩, d0, d1⟩ | exact HC2)
          (first | (go_at_call 29; refine (cmpMove_any _ _ _ _ _).mono ?_; rintro e w2 ⟨rfl, hb2⟩; have HC2 := four_later (w := wr.drew) hb2 ⟨⟨c0, c1⟩, d0, d1⟩; have HS2 := Lib.hid (HS.out.drew.below hb2); clear hb2))
        all_goals clear c0 c1 d0 d1 HC2
        all_goals go_wp2_with fail
        all_goals go_roundw
        all_goals first
          | (simp [intOf]; done)
          | (simp [intOf]; omega)
          | exact ⟨h + 1, j, by omega, by omega, hjb, by go_num, rfl, HL2, HH, HS2⟩
      · have hcv : decide (cmpv q.1 x.1 < 0) = false := decide_eq_false (fun e => hxy ((cmpv_neg _ _).1 e))
        have hcv2 : ¬ cmpv q.1 x.1 < 0 := fun e => hxy ((cmpv_neg _ _).1 e)
        have HH2 : Hid (∀ h' (q : Mv), h ≤ h' → h' < b → xs[h']? = some q → x.1 ≤ q.1) := fun h' q' e1 e2 e3 => by
          have := HSEG.out h h' q q' (by omega) e1 e2 HQ.out e3
          omega
        clear hxy
        go_wp2_with fail
        go_region_held3 (fun W => (W.cell? ⟨g, h * 2, none⟩ = some (.int .i64 q.1) ∧ W.cell? ⟨g, h * 2 + 1, none⟩ = some (.string q.2)) ∧ W.cell? ⟨g, a * 2, none⟩ = some (.int .i64 x.1) ∧ W.cell? ⟨g, a * 2 + 1, none⟩ = some (.string x.2))
          (first | exact ⟨⟨c0, c1⟩, d0, d1⟩ | exact HC2)
          (first | (go_at_call 29; refine (cmpMove_any _ _ _ _ _).mono ?_; rintro e w2 ⟨rfl, hb2⟩; have HC2 := four_later (w := wr.drew) hb2 ⟨⟨c0, c1⟩, d0, d1⟩; have HS2 := Lib.hid (HS.out.drew.below hb2); clear hb2))
        all_goals clear c0 c1 d0 d1 HC2
        all_goals go_wp2_with fail
        all_goals go_roundw
        all_goals first
          | (simp [intOf]; done)
          | (simp [intOf]; omega)
          | exact ⟨i, h, hai, hh1, by omega, rfl, rfl, HL, HH2, HS2⟩
    · obtain rfl : i = j := by omega
      go_wp2_with fail
      obtain ⟨wo, rfl⟩ : ∃ wo : World, wo = wr := ⟨_, rfl⟩
      go_loopw [13] (fun v wr => ∃ k : Nat, a ≤ k ∧ k + 1 ≤ i ∧ v = .int .i64 k ∧ Hid (∃ ys, So.Stab xs ys ∧ So.Fwd a k xs ys ∧ SW w wr base g n c ys)) (fun v _ => i - (intOf v).toNat)
      case atStart => exact ⟨a, Nat.le_refl _, hai, rfl, xs, So.Stab.refl _, So.fwd_start _ _, HS.out⟩
      case round =>
        clear HS
        obtain ⟨k, hak, hki, rfl, Hk⟩ := hrel
        obtain ⟨ys, h1, h2, h3⟩ := Hk.out
        clear Hk
        have w5 : IntKind.i64.wrap ((i : Int) - 1) = (i : Int) - 1 := IntWalk.i64_in _ (by omega)
        by_cases hlt2 : k + 1 < i
        · obtain ⟨y, hy⟩ : ∃ y, xs[k + 1]? = some y := ⟨_, List.getElem?_eq_getElem (by omega)⟩
          obtain ⟨e1, e2, e3⟩ := So.fwd_step hak h2 HX.out hy
          have hyx := HL.out (k + 1) y (by omega) hlt2 hy
          obtain ⟨c0, c1, f0, f1⟩ := own_at2 h3.own e1
          obtain ⟨d0, d1, g0, g1⟩ := own_at2 h3.own e2
          have HN : Hid (So.Stab xs ((ys.set k y).set (k + 1) x) ∧ So.Fwd a (k + 1) xs ((ys.set k y).set (k + 1) x)) := ⟨h1.trans (So.stab_swap e1 e2 (by omega)), e3⟩
          have HS := Lib.hid h3
          have p0 : (0 : Int) ≤ (k : Int) + 1 := by omega
          have p1 : (k : Int) + 1 < n := by omega
          have p2 : (0 : Int) ≤ (k : Int) := by omega
          have p3 : (k : Int) < n := by omega
          have hd : (k : Int) < (i : Int) - 1 := by omega
          have w6 : IntKind.i64.wrap ((k : Int) + 1) = (k : Int) + 1 := IntWalk.i64_in _ (by omega)
          clear h1 h2 h3 e1 e2 e3 hy hyx
          go_wp2_with fail
          go_region
          all_goals go_wp2_with fail
          all_goals go_roundw
          all_goals first
            | (simp [intOf]; done)
            | (simp [intOf]; omega)
            | exact ⟨k + 1, by omega, by omega, by go_num, _, HN.out.1, HN.out.2, (HS.out.drew.put k y).put (k + 1) x⟩
        · have hd : ¬ (k : Int) < (i : Int) - 1 := by omega
          have HF : Hid (SrtS w wr base g n c a b b xs) := ⟨ys, h1, So.fwd_out hak (by omega) h2, So.fwd_seg hai hjb HX.out HSEG.out (by rw [show i - 1 = k by omega]; exact h2) HL.out HH.out, h3⟩
          clear h1 h2 h3
          go_wp2_with fail
          (try simp only [Exit.inBlock, Exit.then])
          refine bodyPost_ret (results_none rfl _ _ _) rfl ?_
          exact ⟨rfl, HF.out⟩
set_option maxRecDepth 100000 in
set_option maxHeartbeats 8000000 in
theorem symMerge_back (base g n c a m : Nat) (xs : List Mv) (w : World) (ho : w.ownsRow base 28 2 (.slice (some ⟨g, 0, none⟩) n c) n (flat xs)) (ham : a + 1 < m) (hb : m + 1 ≤ n) (hn : n ≤ 1048576) (hseg : So.Seg xs a m) :
    Calls Try.prog 54 #[.slice (some ⟨g, 0, none⟩) n c, .int .i64 a, .int .i64 m, .int .i64 ((m : Int) + 1), cmpF] w fun e w' => e = .returned (.tuple #[]) ∧ SrtS w w' base g n c a (m + 1) (m + 1) xs := by
  have HO := Lib.hid ho
  have HSEG := Lib.hid hseg
  have hxl : xs.length = n := by have := ho.1; rw [flat_len] at this; omega
  obtain ⟨x, hx⟩ : ∃ x, xs[m]? = some x := ⟨_, List.getElem?_eq_getElem (by omega)⟩
  have HX := Lib.hid hx
  clear ho hseg hx
  have w0 : IntKind.i64.wrap ((m : Int) - a) = (m : Int) - a := IntWalk.i64_in _ (by omega)
  have w00 : ((m : Int) - a == 1) = false := by simp; omega
  have w1 : IntKind.i64.wrap ((m : Int) + 1 - m) = 1 := by rw [show (m : Int) + 1 - m = 1 by omega]; exact IntWalk.i64_in _ (by omega)
  have w2 : (m : Int) + 1 - m = 1 := by omega
  go_enter Try.func54, Try.ntmps54
  go_wp2_with fail
  clear w0 w00 w1 w2
  go_loopw [14, 15] (fun u v wr => ∃ i j : Nat, a ≤ i ∧ i ≤ j ∧ j ≤ m ∧ u = .int .i64 i ∧ v = .int .i64 j ∧ Hid (∀ h (q : Mv), a ≤ h → h < i → xs[h]? = some q → q.1 ≤ x.1) ∧ Hid (∀ h (q : Mv), j ≤ h → h < m → xs[h]? = some q → x.1 < q.1) ∧ Hid (SW w wr base g n c xs)) (fun u v _ => (intOf v).toNat - (intOf u).toNat)
  case atStart => exact ⟨a, m, Nat.le_refl _, by omega, Nat.le_refl _, rfl, rfl, fun h q h1 h2 => by omega, fun h q h1 h2 => by omega, SW.refl HO.out⟩
  case round =>
    obtain ⟨i, j, hai, hij, hjm, rfl, rfl, HL, HH, HS⟩ := hrel
    by_cases hlt : i < j
    · obtain ⟨h, hh, hh1, hh2⟩ : ∃ h : Nat, ((i : Int) + j) / 2 = (h : Int) ∧ i ≤ h ∧ h < j := ⟨(i + j) / 2, by omega, by omega, by omega⟩
      obtain ⟨q, hq⟩ : ∃ q, xs[h]? = some q := ⟨_, List.getElem?_eq_getElem (by omega)⟩
      obtain ⟨c0, c1, _, _⟩ := own_at2 HS.out.own HX.out
      obtain ⟨d0, d1, _, _⟩ := own_at2 HS.out.own hq
      have HQ := Lib.hid hq
      have k0 : (0 : Int) ≤ (h : Int) := by omega
      have k1 : (h : Int) < n := by omega
      have k2 : (0 : Int) ≤ (m : Int) := by omega
      have k3 : (m : Int) < n := by omega
      clear hq
      by_cases hxy : x.1 < q.1
      · have hcv : decide (cmpv x.1 q.1 < 0) = true := decide_eq_true ((cmpv_neg _ _).2 hxy)
        have hcv2 : cmpv x.1 q.1 < 0 := (cmpv_neg _ _).2 hxy
        have HH2 : Hid (∀ h' (q : Mv), h ≤ h' → h' < m → xs[h']? = some q → x.1 < q.1) := fun h' q' e1 e2 e3 => by
          have := HSEG.out h h' q q' (by omega) e1 e2 HQ.out e3
          omega
        clear hxy
        go_wp2_with fail
        go_region_held3 (fun W => (W.cell? ⟨g, m * 2, none⟩ = some (.int .i64 x.1) ∧ W.cell? ⟨g, m * 2 + 1, none⟩ = some (.string x.2)) ∧ W.cell? ⟨g, h * 2, none⟩ = some (.int .i64 q.1) ∧ W.cell? ⟨g, h * 2 + 1, none⟩ = some (.string q.2))
          (first | exact ⟨⟨c0, c1⟩, d0, d1⟩ | exact HC2)
          (first | (go_at_call 29; refine (cmpMove_any _ _ _ _ _).mono ?_; rintro e w2 ⟨rfl, hb2⟩; have HC2 := four_later (w := wr.drew) hb2 ⟨⟨c0, c1⟩, d0, d1⟩; have HS2 := Lib.hid (HS.out.drew.below hb2); clear hb2))
        all_goals clear c0 c1 d0 d1 HC2
        all_goals go_wp2_with fail
        all_goals go_roundw
        all_goals first
          | (simp [intOf]; done)
          | (simp [intOf]; omega)
          | exact ⟨i, h, hai, hh1, by omega, rfl, rfl, HL, HH2, HS2⟩
      · have hcv : decide (cmpv x.1 q.1 < 0) = false := decide_eq_false (fun e => hxy ((cmpv_neg _ _).1 e))
        have hcv2 : ¬ cmpv x.1 q.1 < 0 := fun e => hxy ((cmpv_neg _ _).1 e)
        have HL2 : Hid (∀ h' (q : Mv), a ≤ h' → h' < h + 1 → xs[h']? = some q → q.1 ≤ x.1) := fun h' q' e1 e2 e3 => by
          have := HSEG.out h' h q' q e1 (by omega) (by omega) e3 HQ.out
          omega
        have w9 : IntKind.i64.wrap ((h : Int) + 1) = (h : Int) + 1 := IntWalk.i64_in _ (by omega)
        clear hxy
        go_wp2_with fail
        go_region_held3 (fun W => (W.cell? ⟨g, m * 2, none⟩ = some (.int .i64 x.1) ∧ W.cell? ⟨g, m * 2 + 1, none⟩ = some (.string x.2)) ∧ W.cell? ⟨g, h * 2, none⟩ = some (.int .i64 q.1) ∧ W.cell? ⟨g, h * 2 + 1, none⟩ = some (.string q.2))
          (first | exact ⟨⟨c0, c1⟩, d0, d1⟩ | exact HC2)
          (first | (go_at_call 29; refine (cmpMove_any _ _ _ _ _).mono ?_; rintro e w2 ⟨rfl, hb2⟩; have HC2 := four_later (w := wr.drew) hb2 ⟨⟨c0, c1⟩, d0, d1⟩; have HS2 := Lib.hid (HS.out.drew.below hb2); clear hb2))
        all_goals clear c0 c1 d0 d1 HC2
        all_goals go_wp2_with fail
        all_goals go_roundw
        all_goals first
          | (simp [intOf]; done)
          | (simp [intOf]; omega)
          | exact ⟨h + 1, j, by omega, by omega, hjm, by go_num, rfl, HL2, HH, HS2⟩
    · obtain rfl : i = j := by omega
      go_wp2_with fail
      obtain ⟨wo, rfl⟩ : ∃ wo : World, wo = wr := ⟨_, rfl⟩
      go_loopw [17] (fun v wr => ∃ k : Nat, i ≤ k ∧ k ≤ m ∧ v = .int .i64 k ∧ Hid (∃ ys, So.Stab xs ys ∧ So.Bwd m k xs ys ∧ SW w wr base g n c ys)) (fun v _ => (intOf v).toNat)
      case atStart => exact ⟨m, by omega, Nat.le_refl _, rfl, xs, So.Stab.refl _, So.bwd_start _ _, HS.out⟩
      case round =>
        clear HS
        obtain ⟨k, hik, hkm, rfl, Hk⟩ := hrel
        obtain ⟨ys, h1, h2, h3⟩ := Hk.out
        clear Hk
        by_cases hlt2 : i < k
        · obtain ⟨kp, rfl⟩ : ∃ kp, k = kp + 1 := ⟨k - 1, by omega⟩
          obtain ⟨y, hy⟩ : ∃ y, xs[kp]? = some y := ⟨_, List.getElem?_eq_getElem (by omega)⟩
          obtain ⟨e1, e2, e3⟩ := So.bwd_step hkm h2 HX.out hy
          have hyx := HH.out kp y (by omega) (by omega) hy
          obtain ⟨c0, c1, f0, f1⟩ := own_at2 h3.own e2
          obtain ⟨d0, d1, g0, g1⟩ := own_at2 h3.own e1
          have HN : Hid (So.Stab xs ((ys.set kp x).set (kp + 1) y) ∧ So.Bwd m kp xs ((ys.set kp x).set (kp + 1) y)) := ⟨h1.trans (So.stab_swap e1 e2 (by omega)), e3⟩
          have hcm : (ys.set (kp + 1) y).set kp x = (ys.set kp x).set (kp + 1) y := List.set_comm _ _ (by omega)
          have HCM := Lib.hid hcm
          have HS := Lib.hid h3
          have p0 : (0 : Int) ≤ (kp : Int) + 1 := by omega
          have p1 : (kp : Int) + 1 < n := by omega
          have p2 : (0 : Int) ≤ (kp : Int) := by omega
          have p3 : (kp : Int) < n := by omega
          have hd : (i : Int) < (kp : Int) + 1 := by omega
          have hwp : IntKind.i64.wrap (kp : Int) = (kp : Int) := IntWalk.i64_in _ (by omega)
          clear h1 h2 h3 e1 e2 e3 hy hyx hcm
          go_wp2_with fail
          go_region
          all_goals go_wp2_with fail
          all_goals go_roundw
          all_goals first
            | (simp [intOf]; done)
            | (simp [intOf]; omega)
            | exact ⟨kp, by omega, by omega, by go_num, _, HN.out.1, HN.out.2, by have h5 := (HS.out.drew.put (kp + 1) y).put kp x; rw [HCM.out] at h5; exact h5⟩
        · have hd : ¬ (i : Int) < (k : Int) := by omega
          have hki : k = i := by omega
          have HF : Hid (SrtS w wr base g n c a (m + 1) (m + 1) xs) := ⟨ys, h1, So.bwd_out (by omega) hkm h2, So.bwd_seg hai (by omega) HX.out HSEG.out (by rw [← hki]; exact h2) HL.out HH.out, h3⟩
          clear h1 h2 h3 hki
          go_wp2_with fail
          (try simp only [Exit.inBlock, Exit.then])
          refine bodyPost_ret (results_none rfl _ _ _) rfl ?_
          exact ⟨rfl, HF.out⟩
end Go.Proofs.Ytmplanlppjebnaa
