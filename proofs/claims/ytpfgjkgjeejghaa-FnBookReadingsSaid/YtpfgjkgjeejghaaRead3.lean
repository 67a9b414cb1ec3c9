/-
  Contract: BookReadings (the reference's).
  Conditions: the book reads as a list of lists, with at most 2^20 numbers.
-/
import Derived.Test.YtpfgjkgjeejghaaRead2
namespace Go.Proofs.Ytpfgjkgjeejghaa.Bk
open Go.Proofs.Ytpfgjkgjeejghaa
/-- The numbers of readings of all rests from place q on. -/
def ww (zss : List (List Int)) (zs : List Int) (q : Nat) : List Int := (List.range (zs.length + 1)).map fun p => if q ≤ p then R zss (zs.drop p) else 0
theorem ww_len (zss : List (List Int)) (zs : List Int) (q : Nat) : (ww zss zs q).length = zs.length + 1 := by simp [ww]
theorem ww_at {zss : List (List Int)} {zs : List Int} {q p : Nat} (h : p ≤ zs.length) : (ww zss zs q)[p]? = some (if q ≤ p then R zss (zs.drop p) else 0) := by
  unfold ww
  rw [List.getElem?_map, List.getElem?_range (by omega)]
  rfl
theorem ww_start (zss : List (List Int)) (zs : List Int) : (List.replicate (zs.length + 1) 0).set zs.length 1 = ww zss zs zs.length := by
  refine List.ext_getElem? fun p => ?_
  by_cases hp : p ≤ zs.length
  · rw [ww_at hp]
    by_cases e : p = zs.length
    · subst e
      rw [List.getElem?_set_self (by simp), if_pos (Nat.le_refl _), List.drop_of_length_le (Nat.le_refl _), R_nil]
    · rw [List.getElem?_set_ne (fun e' => e e'.symm), if_neg (by omega), List.getElem?_replicate, if_pos (by omega)]
  · rw [List.getElem?_eq_none (by simp; omega), List.getElem?_eq_none (by rw [ww_len]; omega)]
theorem ww_step {zss : List (List Int)} {zs : List Int} {p : Nat} (h : p ≤ zs.length) : (ww zss zs (p + 1)).set p (R zss (zs.drop p)) = ww zss zs p := by
  refine List.ext_getElem? fun j => ?_
  by_cases hj : j ≤ zs.length
  · rw [ww_at hj]
    by_cases e : j = p
    · subst e
      rw [List.getElem?_set_self (by rw [ww_len]; omega), if_pos (Nat.le_refl _)]
    · rw [List.getElem?_set_ne (fun e' => e e'.symm), ww_at hj]
      by_cases h2 : p ≤ j
      · rw [if_pos (by omega), if_pos h2]
      · rw [if_neg (by omega), if_neg h2]
  · rw [List.getElem?_eq_none (by rw [List.length_set, ww_len]; omega), List.getElem?_eq_none (by rw [ww_len]; omega)]
theorem ww_zero {zss : List (List Int)} {zs : List Int} {p : Nat} (h : p ≤ zs.length) : (ww zss zs (p + 1)).set p 0 = ww zss zs (p + 1) := by
  refine List.ext_getElem? fun j => ?_
  by_cases e : j = p
  · subst e
    rw [List.getElem?_set_self (by rw [ww_len]; omega), ww_at h, if_neg (by omega)]
  · rw [List.getElem?_set_ne (fun e' => e e'.symm)]
end Go.Proofs.Ytpfgjkgjeejghaa.Bk
namespace Go.Proofs.Ytpfgjkgjeejghaa
open Go.RowKit
set_option linter.unusedVariables false
attribute [local go_sem ↓] Go.wp_at_zero Go.wp_at_succ
theorem grpB_ring (zs : List Int) : Cd.grpB zs 0 20 = Bk.ring zs := by
  unfold Cd.grpB Bk.ring
  congr 1
  simp
  omega
set_option maxHeartbeats 8000000 in
theorem specBookReadings_any (A : Option Addr) (n c : Nat) (zss : List (List Int)) (A' : Option Addr) (m d : Nat) (zs : List Int) (w : World) (hx : RdM w A n zss) (hn : n ≤ 1048576) (ht : tot zss ≤ 1048576) (hy : RdI w A' m zs) (hm : m ≤ 1048576) (hmd : m ≤ d) (hdm : d ≤ maxLen) :
    Calls Try.prog 41 #[.slice A n c, .slice A' m d] w fun e w' => e = .returned (.int .i64 (Bk.reads zss zs)) ∧ Below w.heap.size w w' := by
  have HX := Lib.hid hx
  have HY := Lib.hid hy
  have Hl := Lib.hid hx.len
  have Hly := Lib.hid hy.len
  have HD := Lib.hid hdm
  clear hx hy hdm
  cases hv : Bk.valid zss with
  | false =>
    have HE : Hid (Bk.reads zss zs = -1) := Bk.reads_no (by rintro ⟨h, _⟩; rw [hv] at h; cases h)
    have HV := Lib.hid hv
    clear hv
    go_enter Try.func41, Try.ntmps41
    go_wp2_with fail
    refine (specBookValid_any _ _ _ zss _ HX.out hn ht).mono ?_
    rintro e w1 ⟨rfl, m1, rfl⟩
    rw [HV.out]
    go_wp2_with fail
    go_ret
    exact ⟨ret_int HE.out.symm, below_of_drewN _ _ _⟩
  | true =>
    have HV := Lib.hid hv
    cases hr : Bk.ring zs with
    | false =>
      have HE : Hid (Bk.reads zss zs = -1) := Bk.reads_no (by rintro ⟨_, h⟩; rw [hr] at h; cases h)
      have HR := Lib.hid hr
      clear hv hr
      go_enter Try.func41, Try.ntmps41
      go_wp2_with fail
      refine (specBookValid_any _ _ _ zss _ HX.out hn ht).mono ?_
      rintro e w1 ⟨rfl, m1, rfl⟩
      rw [HV.out]
      go_wp2_with fail
      refine (l1Groups_any _ _ _ zs _ _ _ (RdI.drewN HY.out _) (by omega)).mono ?_
      rintro e w2 ⟨rfl, rfl⟩
      rw [grpB_ring, HR.out]
      go_wp2_with fail
      go_ret
      exact ⟨ret_int HE.out.symm, below_of_drewN _ _ _⟩
    | true =>
      have HE : Hid (Bk.reads zss zs = Bk.R zss zs) := Bk.reads_yes hv hr
      have HR := Lib.hid hr
      have hm20 : m ≤ 20 := by have := (Bk.ring_parts hr).2; have := Hly.out; omega
      have hn10 : n ≤ 10 := by have := (Bk.valid_parts hv).2; have := Hl.out; omega
      clear hv hr
      obtain ⟨i0, hi, hz0, hz1, hz2⟩ := info_parts Try.infoInt
      go_enter Try.func41, Try.ntmps41
      go_wp2_with fail
      refine (specBookValid_any _ _ _ zss _ HX.out hn ht).mono ?_
      rintro e w1 ⟨rfl, m1, rfl⟩
      rw [HV.out]
      go_wp2_with fail
      refine (l1Groups_any _ _ _ zs _ _ _ (RdI.drewN HY.out _) (by omega)).mono ?_
      rintro e w2 ⟨rfl, rfl⟩
      rw [grpB_ring, HR.out]
      have HX1 := Lib.hid (RdM.drewN HX.out m1)
      have HY1 := Lib.hid (RdI.drewN HY.out m1)
      have HB1 := Lib.hid (below_of_drewN w.heap.size w m1)
      have hsz1 : (w.drewN m1).heap.size = w.heap.size := rfl
      generalize w.drewN m1 = w1 at HX1 HY1 HB1 hsz1 ⊢
      have HZ1 := Lib.hid hsz1
      clear hsz1
      go_wp2_with (at_make; refine wpList_make_full _ rfl _ _ 23 rfl w1.heap.size 3 i0 (.int .i64 0) 1 Try.underlying23 hi hz0 hz1 _ _ _ _ (m + 1) rfl rfl rfl rfl ?b2 ?b3 ?b4 ?_)
      case b2 => rw [hz2]; omega
      case b3 => unfold maxLen; omega
      case b4 => exact Nat.le_refl _
      clear hi hz0 hz1 hz2
      intro w2 hown hgrow
      rw [toList_madeCells_one] at hown
      have HB2 := Lib.hid (below_grown HB1.out hgrow (by rw [HZ1.out]; exact Nat.le_refl _) (fun k h => by cases h))
      have hg1 : Below w1.heap.size w1 w2 := (Below.refl _ _).grown hgrow (Nat.le_refl _) (fun k h => by cases h)
      have HX2 := Lib.hid (RdM.below HX1.out hg1)
      have HY2 := Lib.hid (RdI.below HY1.out hg1)
      have hst : w2.cell? ⟨w1.heap.size, m, none⟩ = some (.int .i64 0) := by
        rw [hown.cellAt m (by omega), List.getElem?_replicate, if_pos (by omega)]
      have hfz : w2.frozen? ⟨w1.heap.size, m, none⟩ = false := hown.frozenAt m
      have HO := Lib.hid hown
      have HG2 := Lib.hid hg1
      clear hown hgrow hg1
      go_wp2_with fail
      have HO3 : Hid ((w2.setCell ⟨w1.heap.size, m, none⟩ (.int .i64 1)).ownsRow w1.heap.size 3 1 (.slice (some ⟨w1.heap.size, 0, none⟩) (m + 1) (m + 1)) (m + 1) ((Bk.ww zss zs m).map (Value.int .i64))) := by
        have h1 := (HO.out.stored m (.int .i64 1)).1
        have h2 := Bk.ww_start zss zs
        rw [Hly.out] at h2
        rw [← h2, List.map_set, List.map_replicate]
        exact h1
      have HB3 : Hid (Below w1.heap.size w1 (w2.setCell ⟨w1.heap.size, m, none⟩ (.int .i64 1))) := HG2.out.setCell (Nat.le_refl _) _
      generalize w2.setCell ⟨w1.heap.size, m, none⟩ (.int .i64 1) = w3 at HO3 HB3 ⊢
      clear hst hfz HO HB2 HX2 HY2 HG2
      go_loopw [6] (fun i wr => ∃ a : Int, -1 ≤ a ∧ a < m ∧ i = .int .i64 a ∧ Hid (wr.ownsRow w1.heap.size 3 1 (.slice (some ⟨w1.heap.size, 0, none⟩) (m + 1) (m + 1)) (m + 1) ((Bk.ww zss zs (a + 1).toNat).map (Value.int .i64))) ∧ Hid (Below w1.heap.size w1 wr)) (fun i _ => (intOf i + 1).toNat)
      case atStart => exact ⟨(m : Int) - 1, by omega, by omega, rfl, by rw [show ((m : Int) - 1 + 1).toNat = m by omega]; exact HO3.out, HB3.out⟩
      case round =>
        obtain ⟨a, ha0, ham, rfl, Ho, Hb⟩ := hrel
        by_cases hneg : a < 0
        · obtain rfl : a = -1 := by omega
          have hcell : wr.cell? ⟨w1.heap.size, 0, none⟩ = some (.int .i64 (Bk.R zss zs)) := by
            rw [Ho.out.cellAt 0 (by omega), List.getElem?_map, Bk.ww_at (Nat.zero_le _)]
            rfl
          go_wp2_with fail
          go_ret
          exact ⟨ret_int HE.out.symm, HB1.out.trans (Hb.out.mono (by rw [HZ1.out]; exact Nat.le_refl _))⟩
        · obtain ⟨p, rfl⟩ : ∃ p : Nat, a = p := ⟨a.toNat, by omega⟩
          have hpm : p < m := by omega
          have HO1 : Hid (wr.ownsRow w1.heap.size 3 1 (.slice (some ⟨w1.heap.size, 0, none⟩) (m + 1) (m + 1)) (m + 1) ((Bk.ww zss zs (p + 1)).map (Value.int .i64))) := by
            have := Ho.out; rw [show ((p : Int) + 1).toNat = p + 1 by omega] at this; exact this
          clear Ho hneg ha0 ham
          go_wp2_with fail
          obtain ⟨wo, rfl⟩ : ∃ wo : World, wo = wr := ⟨_, rfl⟩
          go_loopw [7] (fun i wq => ∃ k : Nat, k ≤ n ∧ i = .int .i64 k ∧ Hid (wq.ownsRow w1.heap.size 3 1 (.slice (some ⟨w1.heap.size, 0, none⟩) (m + 1) (m + 1)) (m + 1) (((Bk.ww zss zs (p + 1)).set p (Bk.psum zss (zs.drop p) (Bk.R zss) k)).map (Value.int .i64))) ∧ Hid (Below w1.heap.size w1 wq)) (fun i _ => n - (intOf i).toNat)
          case atStart => exact ⟨0, Nat.zero_le _, rfl, by have := HO1.out; rw [← Bk.ww_zero (p := p) (by rw [Hly.out]; omega)] at this; exact this, Hb.out⟩
          case round =>
            obtain ⟨k, hk, rfl, Hok, Hbk⟩ := hrel
            clear HO1 Hb
            have hld : (zs.drop p).length ≤ 20 := by rw [List.length_drop, Hly.out]; omega
            by_cases hkn : k < n
            · obtain ⟨b, off, A1, n1, c1, cs, rfl, hck, hcz0, hrd0, _, _⟩ := (RdM.below HX1.out Hbk.out).at_ hkn
              have HCK := Lib.hid hck
              have hcv := Cd.valid_grp (Bk.valid_at HV.out hck).1
              have hl1 : n1 = cs.length := hrd0.len.symm
              have hn15 : 1 ≤ n1 ∧ n1 ≤ 5 := by omega
              obtain ⟨hn11, hn15⟩ := hn15
              have HL1 := Lib.hid hl1
              have HRD := Lib.hid hrd0
              clear hck hcv hl1 hrd0
              go_wp2_with fail
              refine (l1At_any _ _ _ zs p _ _ _ cs _ (RdI.below HY1.out Hbk.out) hmd HD.out HRD.out hpm hm (by omega)).mono ?_
              rintro e w4 ⟨rfl, s4, rfl⟩
              have Hok4 := Lib.hid (own_drewN Hok.out s4)
              have Hbk4 := Lib.hid (below_drewN Hbk.out s4)
              have hcz : (wr.drewN s4).cell? ⟨b, off + k, none⟩ = some (.slice A1 n1 c1) := hcz0
              generalize wr.drewN s4 = w4 at Hok4 Hbk4 hcz ⊢
              clear hcz0 HRD
              cases hp : Bk.pre cs (zs.drop p) with
              | false =>
                have HT := Lib.hid (Bk.psum_no (g := Bk.R zss) HCK.out hp)
                clear hp
                go_wp2_with fail
                go_roundw
                case rel => exact ⟨k + 1, by omega, by go_num, by rw [HT.out]; exact Hok4.out, Hbk4.out⟩
                case measure => simp [intOf]; omega
              | true =>
                have hle := Bk.pre_len hp
                rw [List.length_drop, Hly.out, ← HL1.out] at hle
                have HT := Lib.hid (Bk.psum_yes (g := Bk.R zss) HCK.out hp)
                clear hp
                obtain ⟨hs0, hs1⟩ := Bk.psum_small HV.out hld (k := k) (by rw [Hl.out]; omega)
                obtain ⟨hr0, hr1⟩ := Bk.R_small HV.out (l := zs.drop (p + n1)) (by rw [List.length_drop, Hly.out]; omega)
                have hc1 : w4.cell? ⟨w1.heap.size, p, none⟩ = some (.int .i64 (Bk.psum zss (zs.drop p) (Bk.R zss) k)) := by
                  rw [Hok4.out.cellAt p (by omega), List.getElem?_map, List.getElem?_set_self (by rw [Bk.ww_len, Hly.out]; omega)]; rfl
                have hc2 : w4.cell? ⟨w1.heap.size, p + n1, none⟩ = some (.int .i64 (Bk.R zss (zs.drop (p + n1)))) := by
                  rw [Hok4.out.cellAt (p + n1) (by omega), List.getElem?_map, List.getElem?_set_ne (by omega), Bk.ww_at (by rw [Hly.out]; omega), if_pos (by omega)]; rfl
                have hfz : w4.frozen? ⟨w1.heap.size, p, none⟩ = false := Hok4.out.frozenAt p
                have HS : Hid (Bk.psum zss (zs.drop p) (Bk.R zss) (k + 1) = Bk.psum zss (zs.drop p) (Bk.R zss) k + Bk.R zss (zs.drop (p + n1))) := by
                  unfold Hid; rw [HT.out, List.drop_drop, ← HL1.out]
                have j0 : (0 : Int) ≤ (p : Int) := by omega
                have j1 : (p : Int) < (m : Int) + 1 := by omega
                have j2 : (0 : Int) ≤ (k : Int) := by omega
                have j3 : (k : Int) < n := by omega
                have j4 : (p : Int) + n1 < (m : Int) + 1 := by omega
                have j5 : (0 : Int) ≤ (p : Int) + n1 := by omega
                generalize Bk.psum zss (zs.drop p) (Bk.R zss) k = x at *
                generalize Bk.R zss (zs.drop (p + n1)) = y at *
                have v1 : IntKind.i64.wrap ((p : Int) + n1) = (p : Int) + n1 := IntWalk.i64_in _ (by omega)
                have v2 : IntKind.i64.wrap (x + y) = x + y := IntWalk.i64_in _ (by omega)
                have v3 : ((p : Int) + n1).toNat = p + n1 := by omega
                go_wp2_with fail
                go_still_tail 18, (by kernel_rfl)
                change wpList _ _ _ _ _ w4.drew
                clear v1 v2 v3
                go_wp2_with fail
                go_roundw
                case rel =>
                  refine ⟨k + 1, by omega, by go_num, ?_, ?_⟩
                  · have h1 := ((own_drewN Hok4.out 1).stored p (.int .i64 (x + y))).1
                    rw [← List.map_set, List.set_set] at h1
                    rw [HS.out]
                    exact h1
                  · exact (below_drewN Hbk4.out 1).setCell (Nat.le_refl _) _
                case measure => simp [intOf]; omega
            · have hkk : k = n := by omega
              subst hkk
              have HN : Hid (wr.ownsRow w1.heap.size 3 1 (.slice (some ⟨w1.heap.size, 0, none⟩) (m + 1) (m + 1)) (m + 1) ((Bk.ww zss zs p).map (Value.int .i64))) := by
                have h1 := Hok.out
                have h2 := Bk.R_step (Bk.valid_full HV.out) (l := zs.drop p) (by intro e; have h3 : (zs.drop p).length = 0 := by rw [e]; rfl
                                                                                 rw [List.length_drop, Hly.out] at h3; omega)
                rw [Hl.out] at h2
                rw [← h2, Bk.ww_step (by rw [Hly.out]; omega)] at h1
                exact h1
              go_wp2_with fail
              go_roundw
              case rel => exact ⟨(p : Int) - 1, by omega, by omega, by go_num, by rw [show ((p : Int) - 1 + 1).toNat = p by omega]; exact HN.out, Hbk.out⟩
              case measure => simp [intOf]
end Go.Proofs.Ytpfgjkgjeejghaa
