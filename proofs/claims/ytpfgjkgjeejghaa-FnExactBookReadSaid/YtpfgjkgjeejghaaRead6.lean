/-
  Contract: BookRead (the reference's).
  Conditions: the book reads as a list of lists, with at most 2^20 numbers.
-/
import Derived.Test.YtpfgjkgjeejghaaRead4
import Derived.Test.YtpfgjkgjeejghaaRead3
import Derived.Test.YtpfgjkgjeejghaaCodes5
namespace Go.Proofs.Ytpfgjkgjeejghaa.Bk
open Go.Proofs.Ytpfgjkgjeejghaa
/-- The fewest codes of all rests from place q on. -/
def fw (zss : List (List Int)) (zs : List Int) (q : Nat) : List Int := (List.range (zs.length + 1)).map fun p => if q ≤ p then (fv (few1 zss (zs.drop p)) : Int) else 0
theorem fw_len (zss : List (List Int)) (zs : List Int) (q : Nat) : (fw zss zs q).length = zs.length + 1 := by simp [fw]
theorem fw_at {zss : List (List Int)} {zs : List Int} {q p : Nat} (h : p ≤ zs.length) : (fw zss zs q)[p]? = some (if q ≤ p then (fv (few1 zss (zs.drop p)) : Int) else 0) := by
  unfold fw
  rw [List.getElem?_map, List.getElem?_range (by omega)]
  rfl
theorem fw_start (zss : List (List Int)) (zs : List Int) : List.replicate (zs.length + 1) 0 = fw zss zs zs.length := by
  refine List.ext_getElem? fun p => ?_
  by_cases hp : p ≤ zs.length
  · rw [fw_at hp, List.getElem?_replicate, if_pos (by omega)]
    by_cases e : p = zs.length
    · subst e
      rw [if_pos (Nat.le_refl _), List.drop_of_length_le (Nat.le_refl _), few1_nil]; rfl
    · rw [if_neg (by omega)]
  · rw [List.getElem?_eq_none (by simp; omega), List.getElem?_eq_none (by rw [fw_len]; omega)]
theorem fw_step {zss : List (List Int)} {zs : List Int} {p : Nat} (h : p ≤ zs.length) : (fw zss zs (p + 1)).set p (fv (few1 zss (zs.drop p)) : Int) = fw zss zs p := by
  refine List.ext_getElem? fun j => ?_
  by_cases hj : j ≤ zs.length
  · rw [fw_at hj]
    by_cases e : j = p
    · subst e
      rw [List.getElem?_set_self (by rw [fw_len]; omega), if_pos (Nat.le_refl _)]
    · rw [List.getElem?_set_ne (fun e' => e e'.symm), fw_at hj]
      by_cases h2 : p ≤ j
      · rw [if_pos (by omega), if_pos h2]
      · rw [if_neg (by omega), if_neg h2]
  · rw [List.getElem?_eq_none (by rw [List.length_set, fw_len]; omega), List.getElem?_eq_none (by rw [fw_len]; omega)]
end Go.Proofs.Ytpfgjkgjeejghaa.Bk
namespace Go.Proofs.Ytpfgjkgjeejghaa
open Go.RowKit
set_option linter.unusedVariables false
attribute [local go_sem ↓] Go.wp_at_zero Go.wp_at_succ
set_option maxRecDepth 100000 in
set_option maxHeartbeats 16000000 in
theorem specBookRead_any (A : Option Addr) (n c : Nat) (zss : List (List Int)) (A' : Option Addr) (m d : Nat) (zs : List Int) (w : World) (hx : RdM w A n zss) (hn : n ≤ 1048576) (ht : tot zss ≤ 1048576) (hy : RdI w A' m zs) (hm : m ≤ 1048576) (hmd : m ≤ d) (hdm : d ≤ maxLen) :
    Calls Try.prog 43 #[.slice A n c, .slice A' m d] w (RetL 3 w.heap.size (Bk.readL zss zs) (Bk.readOk zss zs) w) := by
  have HX := Lib.hid hx
  have HY := Lib.hid hy
  have Hl := Lib.hid hx.len
  have Hly := Lib.hid hy.len
  have HD := Lib.hid hdm
  clear hx hy hdm
  obtain ⟨i0, hi, hz0, hz1, hz2⟩ := info_parts Try.infoInt
  cases hok : Bk.readOk zss zs with
  | false =>
    have HE : Hid (Bk.readL zss zs = []) := Bk.readL_bad hok
    have hlt : decide (Bk.reads zss zs < 1) = true := by
      unfold Bk.readOk at hok
      have := of_decide_eq_false hok
      exact decide_eq_true (by omega)
    clear hok
    go_enter Try.func43, Try.ntmps43
    go_wp2_with fail
    refine (specBookReadings_any _ _ _ zss _ _ _ zs _ (RdM.below HX.out ((Below.refl _ _).alloc (Nat.le_refl _) _)) hn ht (RdI.below HY.out ((Below.refl _ _).alloc (Nat.le_refl _) _)) hm hmd HD.out).mono ?_
    rintro e w1 ⟨rfl, hb1⟩
    have Hb1 := Lib.hid (below_seq ((Below.refl w.heap.size w).alloc (Nat.le_refl _) _) hb1)
    have HO1 := Lib.hid (own_belowAll (own_lit0 w 3) hb1)
    clear hb1
    go_wp2_with fail
    go_ret2
    exact ⟨_, _, _, rfl, by rw [HE.out]; exact HO1.out, Hb1.out⟩
  | true =>
    have hvr : Bk.valid zss = true ∧ Bk.ring zs = true := by
      by_cases h : Bk.valid zss = true ∧ Bk.ring zs = true
      · exact h
      · rw [Bk.readOk_bad h] at hok; cases hok
    obtain ⟨hv, hr⟩ := hvr
    have HE : Hid (Bk.readL zss zs = Bk.rd1 zss zs) := Bk.readL_yes hok
    have HF := Lib.hid (Bk.valid_full hv)
    have HS : Hid (Bk.few1 zss zs ≠ none) := (Bk.readOk_iff hv hr).1 hok
    have HV := Lib.hid hv
    have hm20 : m ≤ 20 := by have := (Bk.ring_parts hr).2; have := Hly.out; omega
    have hn10 : n ≤ 10 := by have := (Bk.valid_parts hv).2; have := Hl.out; omega
    have hlt : decide (Bk.reads zss zs < 1) = false := by
      unfold Bk.readOk at hok
      have := of_decide_eq_true hok
      exact decide_eq_false (by omega)
    clear hok hv hr
    go_enter Try.func43, Try.ntmps43
    go_wp2_with fail
    refine (specBookReadings_any _ _ _ zss _ _ _ zs _ (RdM.below HX.out ((Below.refl _ _).alloc (Nat.le_refl _) _)) hn ht (RdI.below HY.out ((Below.refl _ _).alloc (Nat.le_refl _) _)) hm hmd HD.out).mono ?_
    rintro e w1 ⟨rfl, hb1⟩
    have Hb1 := Lib.hid (below_seq ((Below.refl w.heap.size w).alloc (Nat.le_refl _) _) hb1)
    have HO1 := Lib.hid (own_belowAll (own_lit0 w 3) hb1)
    have HX1 := Lib.hid (RdM.below HX.out Hb1.out)
    have HY1 := Lib.hid (RdI.below HY.out Hb1.out)
    have hsz1 : w.heap.size < w1.heap.size := by have := hb1.size; simp at this; omega
    clear hb1
    go_wp2_with (at_make; refine wpList_make_full _ rfl _ _ 23 rfl w1.heap.size 3 i0 (.int .i64 0) 1 Try.underlying23 hi hz0 hz1 _ _ _ _ (m + 1) rfl rfl rfl rfl ?b2 ?b3 ?b4 ?_)
    case b2 => rw [hz2]; omega
    case b3 => unfold maxLen; omega
    case b4 => exact Nat.le_refl _
    intro w2 hown hgrow
    rw [toList_madeCells_one] at hown
    have HO3 : Hid (w2.ownsRow w1.heap.size 3 1 (.slice (some ⟨w1.heap.size, 0, none⟩) (m + 1) (m + 1)) (m + 1) ((Bk.fw zss zs m).map (Value.int .i64))) := by
      have h2 := Bk.fw_start zss zs
      rw [Hly.out] at h2
      rw [← h2, List.map_replicate]
      exact hown
    have HB3 : Hid (Below w1.heap.size w1 w2) := (Below.refl _ _).grown hgrow (Nat.le_refl _) (fun k h => by cases h)
    clear hown hgrow
    go_wp2_with fail
    go_loopw [8] (fun i wr => ∃ a : Int, -1 ≤ a ∧ a < m ∧ i = .int .i64 a ∧ Hid (wr.ownsRow w1.heap.size 3 1 (.slice (some ⟨w1.heap.size, 0, none⟩) (m + 1) (m + 1)) (m + 1) ((Bk.fw zss zs (a + 1).toNat).map (Value.int .i64))) ∧ Hid (Below w1.heap.size w1 wr)) (fun i _ => (intOf i + 1).toNat)
    case atStart => exact ⟨(m : Int) - 1, by omega, by omega, rfl, by rw [show ((m : Int) - 1 + 1).toNat = m by omega]; exact HO3.out, HB3.out⟩
    case round =>
      obtain ⟨a, ha0, ham, rfl, Ho, Hb⟩ := hrel
      by_cases hneg : a < 0
      · obtain rfl : a = -1 := by omega
        clear HO3 HB3
        have HFC : Hid (∀ j, j ≤ m → wr.cell? ⟨w1.heap.size, j, none⟩ = some (.int .i64 (Bk.fv (Bk.few1 zss (zs.drop j))))) := by
          intro j hj
          rw [Ho.out.cellAt j (by omega), List.getElem?_map, Bk.fw_at (by rw [Hly.out]; omega), if_pos (by omega)]; rfl
        have HBW : Hid (Below w.heap.size w wr) := below_seq Hb1.out Hb.out
        have HOR : Hid (wr.ownsRow w.heap.size 3 1 (.slice (some ⟨w.heap.size, 0, none⟩) 0 0) 0 ([].map (Value.int .i64))) := own_below HO1.out Hb.out (fun g hg => by cases hg; exact hsz1)
        have HZR : Hid (w1.heap.size < wr.heap.size) := block_lt_of_cell (HFC.out 0 (Nat.zero_le _))
        clear Ho Hb ha0 ham hneg
        go_wp2_with fail
        obtain ⟨wo, rfl⟩ : ∃ wo : World, wo = wr := ⟨_, rfl⟩
        go_loopw [6, 10] (fun v i wq => ∃ (p t : Nat) (acc : List Int), p ≤ m ∧ t ≤ p ∧ i = .int .i64 p ∧ Hid (wq.ownsRow w.heap.size 3 1 v t (acc.map (Value.int .i64))) ∧ Hid (∀ g, v.ownBlock = some g → g ≠ w1.heap.size) ∧ Hid (∀ j, j ≤ m → wq.cell? ⟨w1.heap.size, j, none⟩ = some (.int .i64 (Bk.fv (Bk.few1 zss (zs.drop j))))) ∧ Hid (Below w.heap.size w wq) ∧ Hid (Bk.few1 zss (zs.drop p) ≠ none) ∧ Hid (Bk.rd1 zss zs = acc ++ Bk.rd1 zss (zs.drop p))) (fun _ i _ => m - (intOf i).toNat)
        case atStart => exact ⟨0, 0, [], Nat.zero_le _, Nat.le_refl _, rfl, HOR.out, fun g hg => by simp [Value.ownBlock] at hg; omega, HFC.out, HBW.out, HS.out, rfl⟩
        case round =>
          obtain ⟨p, t, acc, hp, htp, rfl, Ho, Hne, HC, Hb, HN, HR⟩ := hrel
          clear HFC HBW HOR HZR
          by_cases hpm : p < m
          · have hld : (zs.drop p).length ≤ 20 := by rw [List.length_drop, Hly.out]; omega
            have hdn : zs.drop p ≠ [] := Bk.drop_ne (by rw [Hly.out]; omega)
            obtain ⟨ib, q, hb⟩ := Bk.best_some HF.out hdn HN.out
            obtain ⟨s1, s2, s3, s4, s5⟩ := Bk.best_seek HF.out hld hdn hb
            have HST := Lib.hid (Bk.rd1_step HF.out hdn hb)
            have HNX := Lib.hid (Bk.best_next hb)
            have hq := Bk.fv_le HF.out hld
            rw [s1] at hq
            have S1 := Lib.hid s1
            have S3 := Lib.hid s3
            have S4 := Lib.hid s4
            have S5 := Lib.hid s5
            have hin : ib < n := by rw [← Hl.out]; exact s2
            have HXR := Lib.hid (RdM.below HX.out Hb.out)
            have HYR := Lib.hid (RdI.below HY.out Hb.out)
            clear s1 s2 s3 s4 s5 hb hdn hld
            obtain ⟨A2, c2, rfl, hfc⟩ := own_form Ho.out
            clear hfc
            go_wp2_with fail
            obtain ⟨wo, rfl⟩ : ∃ wo : World, wo = wr := ⟨_, rfl⟩
            go_loopw [11] (fun j wq => ∃ k : Nat, k ≤ ib ∧ j = .int .i64 k ∧ Hid (∃ s, wq = wo.drewN s)) (fun j _ => ib - (intOf j).toNat)
            case atStart => exact ⟨0, Nat.zero_le _, rfl, 0, rfl⟩
            case round =>
              obtain ⟨k, hk, rfl, HDR⟩ := hrel
              have hyr : RdI wr A' m zs := by obtain ⟨s, rfl⟩ := HDR.out; exact HYR.out
              obtain ⟨b, off, A1, n1, c1, cs, rfl, hck, hcz0, hrd0, _, _⟩ := HX.out.at_ (show k < n by omega)
              have hcz : wr.cell? ⟨b, off + k, none⟩ = some (.slice A1 n1 c1) := by obtain ⟨s, rfl⟩ := HDR.out; exact (Hb.out.cell (block_lt_of_cell hcz0)).trans hcz0
              have hrd : RdI wr A1 n1 cs := by obtain ⟨s, rfl⟩ := HDR.out; exact RdI.drewN (RdI.below hrd0 Hb.out) s
              have HCZ0 := Lib.hid hcz0
              have hcv := Cd.valid_grp (Bk.valid_at HV.out hck).1
              have hl1 : n1 = cs.length := hrd.len.symm
              have hn15 : 1 ≤ n1 ∧ n1 ≤ 5 := by omega
              obtain ⟨hn11, hn15⟩ := hn15
              have HGD : Hid (zss.getD k [] = cs) := Bk.getD_at hck
              have HL1 := Lib.hid hl1
              have hcp : wr.cell? ⟨w1.heap.size, p, none⟩ = some (.int .i64 q) := by obtain ⟨s, rfl⟩ := HDR.out; rw [← S1.out]; exact HC.out p (by omega)
              have HCALL : Hid (∀ s, Calls Try.prog 63 #[.slice A' m d, .int .i64 p, .slice A1 n1 c1] (wr.drewN s) fun e w' => e = .returned (.bool (Bk.pre cs (zs.drop p))) ∧ ∃ m, w' = (wr.drewN s).drewN m) := fun s =>
                l1At_any A' m d zs p A1 n1 c1 cs _ (RdI.drewN hyr s) hmd HD.out (RdI.drewN hrd s) hpm hm (by omega)
              clear hyr hck hrd hcv hl1 hcz0 hrd0
              have j0 : (0 : Int) ≤ (p : Int) := by omega
              have j1 : (p : Int) < (m : Int) + 1 := by omega
              cases hpre : Bk.pre cs (zs.drop p) with
              | false =>
                have hki : k < ib := by
                  rcases Nat.lt_or_ge k ib with h | h
                  · exact h
                  · exfalso
                    obtain rfl : k = ib := by omega
                    have := S3.out
                    rw [HGD.out, hpre] at this
                    cases this
                have HC1 : Hid (∀ s, Calls Try.prog 63 #[.slice A' m d, .int .i64 p, .slice A1 n1 c1] (wr.drewN s) fun e w' => e = .returned (.bool false) ∧ ∃ m, w' = (wr.drewN s).drewN m) := by
                  have := HCALL.out; rw [hpre] at this; exact this
                clear HCALL hpre
                go_wp2_with fail
                go_quiet ((go_at_call 63; exact Calls.quiet_of (HC1.out _)))
                go_wp2_with fail
                go_roundw
                case rel => exact ⟨k + 1, by omega, by go_num, by obtain ⟨s, rfl⟩ := HDR.out; first | exact ⟨_, rfl⟩ | exact ex_drew _ _ _⟩
                case measure => simp [intOf]; omega
              | true =>
                have hle := Bk.pre_len hpre
                rw [List.length_drop, Hly.out, ← HL1.out] at hle
                have HC1 : Hid (∀ s, Calls Try.prog 63 #[.slice A' m d, .int .i64 p, .slice A1 n1 c1] (wr.drewN s) fun e w' => e = .returned (.bool true) ∧ ∃ m, w' = (wr.drewN s).drewN m) := by
                  have := HCALL.out; rw [hpre] at this; exact this
                have hcq : wr.cell? ⟨w1.heap.size, p + n1, none⟩ = some (.int .i64 (Bk.fv (Bk.few1 zss (zs.drop (p + n1))))) := by obtain ⟨s, rfl⟩ := HDR.out; exact HC.out (p + n1) (by omega)
                have hy1 := Bk.fv_le HF.out (l := zs.drop (p + n1)) (by rw [List.length_drop, Hly.out]; omega)
                obtain ⟨y, hy⟩ : ∃ y : Int, y = (Bk.fv (Bk.few1 zss (zs.drop (p + n1))) : Int) := ⟨_, rfl⟩
                rw [← hy] at hcq
                have hy0 : 0 ≤ y ∧ y ≤ 1000 := by omega
                obtain ⟨hy0, hy2⟩ := hy0
                have HYY := Lib.hid hy
                clear hy hy1 HCALL
                have j4 : (p : Int) + n1 < (m : Int) + 1 := by omega
                have j5 : (0 : Int) ≤ (p : Int) + n1 := by omega
                have v1 : IntKind.i64.wrap ((p : Int) + n1) = (p : Int) + n1 := IntWalk.i64_in _ (by omega)
                have v2 : IntKind.i64.wrap (y + 1) = y + 1 := IntWalk.i64_in _ (by omega)
                have v3 : ((p : Int) + n1).toNat = p + n1 := by omega
                by_cases hki : k < ib
                · have hne : (y + 1 != (q : Int)) = true := by
                    have := S5.out k hki (by rw [HGD.out]; exact hpre)
                    rw [HGD.out, List.drop_drop, ← HL1.out] at this
                    have e := HYY.out
                    rw [bne_iff_ne]
                    omega
                  clear hpre
                  go_wp2_with fail
                  go_quiet ((go_at_call 63; exact Calls.quiet_of (HC1.out _)))
                  go_wp2_with fail
                  go_roundw
                  case rel => exact ⟨k + 1, by omega, by go_num, by obtain ⟨s, rfl⟩ := HDR.out; first | exact ⟨_, rfl⟩ | exact ex_drew _ _ _⟩
                  case measure => simp [intOf]; omega
                · obtain rfl : k = ib := by omega
                  have hne : (y + 1 != (q : Int)) = false := by
                    have := S4.out
                    rw [HGD.out, List.drop_drop, ← HL1.out] at this
                    have e := HYY.out
                    rw [bne_eq_false_iff_eq]
                    omega
                  clear hpre
                  have HOq : Hid (∀ s, (wr.drewN s).ownsRow w.heap.size 3 1 (.slice A2 t c2) t (acc.map (Value.int .i64))) := by obtain ⟨s, rfl⟩ := HDR.out; exact fun _ => Ho.out
                  have HCq : Hid (∀ s j, j ≤ m → (wr.drewN s).cell? ⟨w1.heap.size, j, none⟩ = some (.int .i64 (Bk.fv (Bk.few1 zss (zs.drop j))))) := by obtain ⟨s, rfl⟩ := HDR.out; exact fun _ => HC.out
                  have HBq : Hid (∀ s, Below w.heap.size w (wr.drewN s)) := by obtain ⟨s, rfl⟩ := HDR.out; exact fun s' => below_drewN (below_drewN Hb.out s) s'
                  go_wp2_with fail
                  go_quiet ((go_at_call 63; exact Calls.quiet_of (HC1.out _)))
                  generalize hwz : wr.drewN _ = wz
                  have HOz : Hid (wz.ownsRow w.heap.size 3 1 (.slice A2 t c2) t (acc.map (Value.int .i64))) := hwz ▸ HOq.out _
                  have HCz : Hid (∀ j, j ≤ m → wz.cell? ⟨w1.heap.size, j, none⟩ = some (.int .i64 (Bk.fv (Bk.few1 zss (zs.drop j))))) := hwz ▸ HCq.out _
                  have HBz : Hid (Below w.heap.size w wz) := hwz ▸ HBq.out _
                  clear hwz HOq HCq HBq hcz hcp hcq
                  have hown := HOz.out
                  go_wp2_with (at_builtin; refine wpList_append_own_at _ rfl _ _ 23 rfl w.heap.size 3 i0 (.int .i64 0) 1 8 Try.underlying23 hi hz0 hz1 hz2 rfl (by decide) _ _ _ rfl (hown.alloc _) ⟨wz.heap.size, 0, none⟩ 1 1 [.int .i64 k] rfl rfl (cell_new _ _ _) (one_cell _ rfl) ?c3 ?c4 ?c5 ?_)
                  case c3 => unfold maxLen; omega
                  case c4 => omega
                  case c5 => have := HBz.out.size; simp; omega
                  intro v2 w2 hown2 hgrow2 _ hblk
                  have Ho2 := Lib.hid hown2
                  have Hb2 := Lib.hid ((HBz.out.alloc HBz.out.size (.cells #[.int .i64 k] 3)).grown hgrow2 (by have := HBz.out.size; simp; omega) (fun g h => ((HOz.out).lt g h).1))
                  have hltz : w1.heap.size < wz.heap.size := block_lt_of_cell (HCz.out 0 (Nat.zero_le _))
                  have Hne2 : Hid (∀ g, v2.ownBlock = some g → g ≠ w1.heap.size) := by
                    intro g hg
                    rcases hblk with h | h
                    · exact Hne.out g (by rw [← h]; exact hg)
                    · rw [h] at hg; cases hg; simp; omega
                  have HC2 : Hid (∀ j, j ≤ m → w2.cell? ⟨w1.heap.size, j, none⟩ = some (.int .i64 (Bk.fv (Bk.few1 zss (zs.drop j))))) := fun j hj =>
                    hgrow2.cell (a := ⟨w1.heap.size, j, none⟩) ((World.cell?_alloc_lt _ _ _ hltz).trans (HCz.out j hj)) (fun e => Hne.out _ e.symm rfl)
                  have hcz : w2.cell? ⟨b, off + k, none⟩ = some (.slice A1 n1 c1) := (Hb2.out.cell (block_lt_of_cell HCZ0.out)).trans HCZ0.out
                  clear hown hown2 hgrow2 hblk
                  go_wp2_with fail
                  go_roundw
                  case rel =>
                    refine ⟨p + n1, t + 1, acc ++ [(k : Int)], by omega, by omega, by go_num, ?_, Hne2.out, HC2.out, Hb2.out, ?_, ?_⟩
                    · unfold Hid; rw [List.map_append]; exact Ho2.out
                    · have := HNX.out
                      rw [HGD.out, List.drop_drop, ← HL1.out] at this
                      exact this
                    · have h1 := HR.out
                      rw [HST.out, HGD.out, List.drop_drop, ← HL1.out] at h1
                      unfold Hid
                      rw [h1]; simp
                  case measure => simp [intOf]; omega
          · obtain rfl : p = m := by omega
            have hrz : Bk.rd1 zss (zs.drop p) = [] := by rw [List.drop_of_length_le (by rw [Hly.out]; exact Nat.le_refl _)]; rfl
            obtain ⟨A2, c2, rfl, hfc⟩ := own_form Ho.out
            clear hfc
            go_wp2_with fail
            go_ret2
            exact ⟨_, _, _, rfl, by rw [HE.out, HR.out, hrz, List.append_nil]; exact Ho.out, Hb.out⟩
      · obtain ⟨p, rfl⟩ : ∃ p : Nat, a = p := ⟨a.toNat, by omega⟩
        have hpm : p < m := by omega
        have HO4 : Hid (wr.ownsRow w1.heap.size 3 1 (.slice (some ⟨w1.heap.size, 0, none⟩) (m + 1) (m + 1)) (m + 1) ((Bk.fw zss zs (p + 1)).map (Value.int .i64))) := by
          have := Ho.out; rw [show ((p : Int) + 1).toNat = p + 1 by omega] at this; exact this
        have hst : wr.cell? ⟨w1.heap.size, p, none⟩ = some (.int .i64 0) := by
          rw [HO4.out.cellAt p (by omega), List.getElem?_map, Bk.fw_at (by rw [Hly.out]; omega), if_neg (by omega)]; rfl
        have hfz : wr.frozen? ⟨w1.heap.size, p, none⟩ = false := HO4.out.frozenAt p
        clear Ho hneg ha0 ham HO3 HB3
        go_wp2_with fail
        have HO5 : Hid ((wr.setCell ⟨w1.heap.size, p, none⟩ (.int .i64 1000)).ownsRow w1.heap.size 3 1 (.slice (some ⟨w1.heap.size, 0, none⟩) (m + 1) (m + 1)) (m + 1) (((Bk.fw zss zs (p + 1)).set p (Bk.fb (Bk.bst zss (zs.drop p) (Bk.few1 zss) 0))).map (Value.int .i64))) := by
          rw [List.map_set]
          exact (HO4.out.stored p (.int .i64 1000)).1
        have HB5 : Hid (Below w1.heap.size w1 (wr.setCell ⟨w1.heap.size, p, none⟩ (.int .i64 1000))) := Hb.out.setCell (Nat.le_refl _) _
        generalize wr.setCell ⟨w1.heap.size, p, none⟩ (.int .i64 1000) = w5 at HO5 HB5 ⊢
        clear hst hfz HO4 Hb
        obtain ⟨wo, rfl⟩ : ∃ wo : World, wo = wr := ⟨_, rfl⟩
        go_loopw [9] (fun i wq => ∃ k : Nat, k ≤ n ∧ i = .int .i64 k ∧ Hid (wq.ownsRow w1.heap.size 3 1 (.slice (some ⟨w1.heap.size, 0, none⟩) (m + 1) (m + 1)) (m + 1) (((Bk.fw zss zs (p + 1)).set p (Bk.fb (Bk.bst zss (zs.drop p) (Bk.few1 zss) k))).map (Value.int .i64))) ∧ Hid (Below w1.heap.size w1 wq)) (fun i _ => n - (intOf i).toNat)
        case atStart => exact ⟨0, Nat.zero_le _, rfl, HO5.out, HB5.out⟩
        case round =>
          obtain ⟨k, hk, rfl, Hok, Hbk⟩ := hrel
          clear HO5 HB5
          have hld : (zs.drop p).length ≤ 20 := by rw [List.length_drop, Hly.out]; omega
          by_cases hkn : k < n
          · obtain ⟨b, off, A1, n1, c1, cs, rfl, hck, hcz0, hrd0, _, _⟩ := (RdM.below HX1.out Hbk.out).at_ hkn
            have HCK := Lib.hid hck
            have hcv := Cd.valid_grp (Bk.valid_at HV.out hck).1
            have hl1 : n1 = cs.length := hrd0.len.symm
            have hn15 : 1 ≤ n1 ∧ n1 ≤ 5 := by omega
            obtain ⟨hn11, hn15⟩ := hn15
            have HL1 := Lib.hid hl1
            have HRD := Lib.hid hrd0
            clear hck hcv hl1 hrd0
            go_wp2_with fail
            refine (l1At_any _ _ _ zs p _ _ _ cs _ (RdI.below HY1.out Hbk.out) hmd HD.out HRD.out hpm hm (by omega)).mono ?_
            rintro e w4 ⟨rfl, s4, rfl⟩
            have Hok4 := Lib.hid (own_drewN Hok.out s4)
            have Hbk4 := Lib.hid (below_drewN Hbk.out s4)
            have hcz : (wr.drewN s4).cell? ⟨b, off + k, none⟩ = some (.slice A1 n1 c1) := hcz0
            generalize wr.drewN s4 = w4 at Hok4 Hbk4 hcz ⊢
            clear hcz0 HRD
            cases hp : Bk.pre cs (zs.drop p) with
            | false =>
              have HT := Lib.hid (Bk.bst_off (g := Bk.few1 zss) HCK.out hp)
              clear hp
              go_wp2_with fail
              go_roundw
              case rel => exact ⟨k + 1, by omega, by go_num, by rw [HT.out]; exact Hok4.out, Hbk4.out⟩
              case measure => simp [intOf]; omega
            | true =>
              have hle := Bk.pre_len hp
              rw [List.length_drop, Hly.out, ← HL1.out] at hle
              have HT := Lib.hid (Bk.fb_step HF.out hld HCK.out hp)
              clear hp
              have hx1 := Bk.fb_le HF.out hld k
              have hy1 := Bk.fv_le HF.out (l := zs.drop (p + n1)) (by rw [List.length_drop, Hly.out]; omega)
              have hc1 : w4.cell? ⟨w1.heap.size, p, none⟩ = some (.int .i64 (Bk.fb (Bk.bst zss (zs.drop p) (Bk.few1 zss) k))) := by
                rw [Hok4.out.cellAt p (by omega), List.getElem?_map, List.getElem?_set_self (by rw [Bk.fw_len, Hly.out]; omega)]; rfl
              have hc2 : w4.cell? ⟨w1.heap.size, p + n1, none⟩ = some (.int .i64 (Bk.fv (Bk.few1 zss (zs.drop (p + n1))))) := by
                rw [Hok4.out.cellAt (p + n1) (by omega), List.getElem?_map, List.getElem?_set_ne (by omega), Bk.fw_at (by rw [Hly.out]; omega), if_pos (by omega)]; rfl
              have hfz : w4.frozen? ⟨w1.heap.size, p, none⟩ = false := Hok4.out.frozenAt p
              have HS2 : Hid ((Bk.fb (Bk.bst zss (zs.drop p) (Bk.few1 zss) (k + 1)) : Int) = min (Bk.fb (Bk.bst zss (zs.drop p) (Bk.few1 zss) k) : Int) ((Bk.fv (Bk.few1 zss (zs.drop (p + n1))) : Int) + 1)) := by
                unfold Hid; rw [HT.out, List.drop_drop, ← HL1.out]; omega
              have j0 : (0 : Int) ≤ (p : Int) := by omega
              have j1 : (p : Int) < (m : Int) + 1 := by omega
              have j2 : (0 : Int) ≤ (k : Int) := by omega
              have j3 : (k : Int) < n := by omega
              have j4 : (p : Int) + n1 < (m : Int) + 1 := by omega
              have j5 : (0 : Int) ≤ (p : Int) + n1 := by omega
              obtain ⟨x, hx⟩ : ∃ x : Int, x = (Bk.fb (Bk.bst zss (zs.drop p) (Bk.few1 zss) k) : Int) := ⟨_, rfl⟩
              obtain ⟨y, hy⟩ : ∃ y : Int, y = (Bk.fv (Bk.few1 zss (zs.drop (p + n1))) : Int) := ⟨_, rfl⟩
              have hx0 : 0 ≤ x ∧ x ≤ 1000 := by omega
              have hy0 : 0 ≤ y ∧ y ≤ 1000 := by omega
              obtain ⟨hx0, hx2⟩ := hx0
              obtain ⟨hy0, hy2⟩ := hy0
              rw [← hx] at hc1 HS2
              rw [← hy] at hc2 HS2
              have HXX := Lib.hid hx
              clear hx hy hx1 hy1
              have v1 : IntKind.i64.wrap ((p : Int) + n1) = (p : Int) + n1 := IntWalk.i64_in _ (by omega)
              have v2 : IntKind.i64.wrap (y + 1) = y + 1 := IntWalk.i64_in _ (by omega)
              have v3 : ((p : Int) + n1).toNat = p + n1 := by omega
              go_wp2_with fail
              go_still_tail 19, (by kernel_rfl)
              change wpList _ _ _ _ _ w4.drew
              clear v1 v2 v3
              go_wp2_with fail
              go_roundw
              case rel =>
                refine ⟨k + 1, by omega, by go_num, ?_, ?_⟩
                · have h1 := ((own_drewN Hok4.out 1).stored p (.int .i64 (if y + 1 < x then y + 1 else x))).1
                  rw [← HXX.out, ← List.map_set, List.set_set] at h1
                  have e : (Bk.fb (Bk.bst zss (zs.drop p) (Bk.few1 zss) (k + 1)) : Int) = if y + 1 < x then y + 1 else x := by
                    rw [HS2.out]; split <;> omega
                  unfold Hid
                  rw [e]
                  exact h1
                · exact (below_drewN Hbk4.out 1).setCell (Nat.le_refl _) _
              case measure => simp [intOf]; omega
          · have hkk : k = n := by omega
            subst hkk
            have HN : Hid (wr.ownsRow w1.heap.size 3 1 (.slice (some ⟨w1.heap.size, 0, none⟩) (m + 1) (m + 1)) (m + 1) ((Bk.fw zss zs p).map (Value.int .i64))) := by
              have h1 := Hok.out
              have h2 := Bk.few1_step HF.out (l := zs.drop p) (Bk.drop_ne (by rw [Hly.out]; omega))
              have h4 : (Bk.fb (Bk.bst zss (zs.drop p) (Bk.few1 zss) k)) = Bk.fv (Bk.few1 zss (zs.drop p)) := by
                rw [h2, Bk.fb_map]; unfold Bk.best1; rw [Hl.out]
              rw [h4, Bk.fw_step (by rw [Hly.out]; omega)] at h1
              exact h1
            go_wp2_with fail
            go_roundw
            case rel => exact ⟨(p : Int) - 1, by omega, by omega, by go_num, by rw [show ((p : Int) - 1 + 1).toNat = p by omega]; exact HN.out, Hbk.out⟩
            case measure => simp [intOf]
end Go.Proofs.Ytpfgjkgjeejghaa
