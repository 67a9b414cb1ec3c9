/-
  What a valid book is; contracts: BookValid (the reference's and the program's), bookOf.
  Conditions: the book reads as a list of lists, with at most 2^20 numbers.
-/
import Derived.Test.YtpfgjkgjeejghaaBooks1
import Derived.Test.YtpfgjkgjeejghaaCodes4
namespace Go.Proofs.Ytpfgjkgjeejghaa.Bk
open Go.Proofs.Ytpfgjkgjeejghaa
/-- Whether code k of a book is valid and new. -/
def ok1 (zss : List (List Int)) (k : Nat) : Bool := Cd.validB (zss.getD k []) && !decide (zss.getD k [] ∈ zss.take k)
def okN (zss : List (List Int)) : Nat → Bool
  | 0 => true
  | k + 1 => okN zss k && ok1 zss k
/-- Whether a list of lists is a book. -/
def valid (zss : List (List Int)) : Bool := okN zss zss.length && decide (zss.length ≤ 10)
theorem okN_false {zss : List (List Int)} {k m : Nat} (h : okN zss k = false) (hm : k ≤ m) : okN zss m = false := by
  induction m with
  | zero => obtain rfl : k = 0 := by omega
            exact h
  | succ m ih =>
    by_cases e : k = m + 1
    · subst e; exact h
    · simp only [okN]; rw [ih (by omega)]; rfl
theorem valid_false {zss : List (List Int)} {k : Nat} (h : okN zss k = false) (hm : k ≤ zss.length) : valid zss = false := by
  unfold valid; rw [okN_false h hm]; rfl
theorem valid_long {zss : List (List Int)} (h : 10 < zss.length) : valid zss = false := by
  unfold valid; rw [decide_eq_false (by omega : ¬ zss.length ≤ 10), Bool.and_false]
theorem valid_true {zss : List (List Int)} (h : okN zss zss.length = true) (h2 : zss.length ≤ 10) : valid zss = true := by
  unfold valid; rw [h, decide_eq_true h2]; rfl
theorem getD_at {zss : List (List Int)} {k : Nat} {zs : List Int} (h : zss[k]? = some zs) : zss.getD k [] = zs := by rw [List.getD_eq_getElem?_getD, h]; rfl
theorem okN_bad {zss : List (List Int)} {k : Nat} {zs : List Int} (h : zss[k]? = some zs) (hv : Cd.validB zs = false) : okN zss (k + 1) = false := by
  simp only [okN, ok1]; rw [getD_at h, hv]; simp
theorem okN_twice {zss : List (List Int)} {k : Nat} {zs : List Int} (h : zss[k]? = some zs) (hv : zs ∈ zss.take k) : okN zss (k + 1) = false := by
  simp only [okN, ok1]; rw [getD_at h, decide_eq_true hv]; simp
theorem okN_step {zss : List (List Int)} {k : Nat} {zs : List Int} (hk : okN zss k = true) (h : zss[k]? = some zs) (hv : Cd.validB zs = true) (hn : ¬ zs ∈ zss.take k) : okN zss (k + 1) = true := by
  simp only [okN, ok1]; rw [getD_at h, hk, hv, decide_eq_false hn]; rfl
theorem okN_at {zss : List (List Int)} : ∀ {k j : Nat} {zs : List Int}, okN zss k = true → j < k → zss[j]? = some zs → Cd.validB zs = true ∧ ¬ zs ∈ zss.take j
  | k + 1, j, zs, h, hj, hz => by
    simp only [okN, Bool.and_eq_true] at h
    by_cases e : j = k
    · subst e
      have := h.2
      simp only [ok1, Bool.and_eq_true, Bool.not_eq_true', decide_eq_false_iff_not] at this
      rw [getD_at hz] at this
      exact this
    · exact okN_at h.1 (by omega) hz
theorem mem_take_snoc {zss : List (List Int)} {j : Nat} {us zs : List Int} (h : zss[j]? = some us) (hn : ¬ zs ∈ zss.take j) (hne : ¬ us = zs) : ¬ zs ∈ zss.take (j + 1) := by
  rw [take_snoc h]
  simp
  exact ⟨hn, fun e => hne e.symm⟩
theorem mem_take_at {zss : List (List Int)} {j k : Nat} {us : List Int} (h : zss[j]? = some us) (hj : j < k) : us ∈ zss.take k := by
  refine List.mem_of_getElem? (i := j) ?_
  rw [List.getElem?_take, if_pos hj]; exact h
theorem valid_parts {zss : List (List Int)} (h : valid zss = true) : okN zss zss.length = true ∧ zss.length ≤ 10 := by
  unfold valid at h
  simp only [Bool.and_eq_true, decide_eq_true_eq] at h
  exact h
theorem valid_at {zss : List (List Int)} (h : valid zss = true) {j : Nat} {zs : List Int} (hz : zss[j]? = some zs) : Cd.validB zs = true ∧ ¬ zs ∈ zss.take j :=
  okN_at (valid_parts h).1 (List.getElem?_eq_some_iff.1 hz).1 hz
/-- A code as a value. -/
def sv (zs : List Int) : Value := .string (bstr zs)
/-- The codes of a book as values. -/
def codes (zss : List (List Int)) : List Value := if valid zss = true then zss.map sv else []
theorem bstr_ne {a b : List Int} (ha : Cd.validB a = true) (hb : Cd.validB b = true) (h : ¬ a = b) : ((bstr a).toList == (bstr b).toList) = false := by
  rw [beq_eq_false_iff_ne]
  intro e
  rw [Cd.bstr_list, Cd.bstr_list] at e
  exact h (Cd.map_inj (Cd.valid_grp ha).1 (Cd.valid_grp hb).1 e)
theorem bstr_same (a : List Int) : ((bstr a).toList == (bstr a).toList) = true := by simp
end Go.Proofs.Ytpfgjkgjeejghaa.Bk
namespace Go.Proofs.Ytpfgjkgjeejghaa
open Go.RowKit
set_option linter.unusedVariables false
attribute [local go_sem ↓] Go.wp_at_zero Go.wp_at_succ

theorem Try.infoBeats : (Try.prog.info? 64).map (fun i => (i.zero, i.size, i.bytes)) = some (some (.string ⟨#[]⟩), 1, 16) := by kernel_rfl
set_option maxHeartbeats 4000000 in
theorem bookOf_any (A : Option Addr) (n c : Nat) (zss : List (List Int)) (w : World) (hx : RdM w A n zss) (hn : n ≤ maxLen) (ht : tot zss ≤ 1048576) :
    Calls Try.prog 58 #[.slice A n c] w fun e w' => ∃ G k g, e = .returned (.tuple #[.slice G k g, .bool (Bk.valid zss)]) ∧ w'.ownsRow w.heap.size 64 1 (.slice G k g) k (Bk.codes zss) ∧ Below w.heap.size w w' := by
  have HX := Lib.hid hx
  have Hl := Lib.hid hx.len
  clear hx
  unfold maxLen at hn
  by_cases hbig : 10 < n
  · have HV : Hid (Bk.valid zss = false) := Bk.valid_long (by rw [Hl.out]; exact hbig)
    go_enter Try.func58, Try.ntmps58
    go_wp2_with fail
    go_ret2
    exact ⟨_, _, _, by rw [HV.out]; rfl, by unfold Bk.codes; rw [HV.out]; exact World.ownsRow_nil _ _ _ _, Below.refl _ _⟩
  · have hn10 : n ≤ 10 := by omega
    clear hbig hn
    obtain ⟨i0, hi, hz0, hz1, hz2⟩ := info_parts Try.infoBeats
    go_enter Try.func58, Try.ntmps58
    go_wp2_with (at_make; refine wpList_make_own _ rfl _ _ 61 rfl w.heap.size 64 i0 (.string ⟨#[]⟩) 1 Try.underlying61 hi hz0 hz1 _ _ _ n rfl rfl rfl ?b2 ?b3 ?b4 ?_)
    case b2 => rw [hz2]; omega
    case b3 => unfold maxLen; omega
    case b4 => exact Nat.le_refl _
    intro w1 hown hgrow
    have HO := Lib.hid hown
    have HB := Lib.hid ((Below.refl w.heap.size w).grown hgrow (Nat.le_refl _) (fun k h => by cases h))
    clear hown hgrow
    go_wp2_with fail
    go_loopw [4, 19] (fun v i wr => ∃ k : Nat, k ≤ n ∧ i = .int .i64 k ∧ v = .slice (some ⟨w.heap.size, 0, none⟩) k n ∧ Hid (Bk.okN zss k = true) ∧
        Hid (wr.ownsRow w.heap.size 64 1 (.slice (some ⟨w.heap.size, 0, none⟩) k n) k ((zss.take k).map Bk.sv)) ∧ Hid (Below w.heap.size w wr)) (fun _ i _ => n - (intOf i).toNat)
    case atStart => exact ⟨0, Nat.zero_le _, rfl, rfl, rfl, by simpa [Hid] using HO.out, HB.out⟩
    case round =>
      obtain ⟨k, hk, rfl, rfl, Hk, Ho, Hb⟩ := hrel
      by_cases hlt : k < n
      · obtain ⟨b, off, A', n', c', zs, rfl, hzk, hcz0, hrd, _, _⟩ := HX.out.at_ hlt
        have hcz : wr.cell? ⟨b, off + k, none⟩ = some (.slice A' n' c') := (Hb.out.cell (block_lt_of_cell hcz0)).trans hcz0
        have hn' : n' ≤ 1048576 := by have := len_le_tot hzk; have := hrd.len; omega
        have HRD := Lib.hid hrd
        have HZ := Lib.hid hzk
        clear hrd hzk hcz0
        go_wp2_with fail
        refine (codeOf_any _ _ _ zs _ (RdI.below HRD.out Hb.out) (by omega)).mono ?_
        rintro e w2 ⟨rfl, hb2⟩
        have Hb2 := Lib.hid (below_seq Hb.out hb2)
        have Ho2 := Lib.hid (own_belowAll Ho.out hb2)
        clear hb2 hcz
        cases hv : Cd.validB zs with
        | false =>
          have HV : Hid (Bk.valid zss = false) := Bk.valid_false (Bk.okN_bad HZ.out hv) (by rw [Hl.out]; omega)
          rw [Cd.codeV_no hv]
          clear hv
          go_wp2_with fail
          go_ret2
          exact ⟨_, _, _, by rw [HV.out]; rfl, by unfold Bk.codes; rw [HV.out]; exact World.ownsRow_nil _ _ _ _, Hb2.out⟩
        | true =>
          rw [Cd.codeV_yes hv]
          have HVZ := Lib.hid hv
          clear hv
          go_wp2_with fail
          go_loop [32] (fun i => ∃ j : Nat, j ≤ k ∧ i = .int .i64 j ∧ Hid (¬ zs ∈ zss.take j)) (fun i => k - (intOf i).toNat)
          case atStart => exact ⟨0, Nat.zero_le _, rfl, by simp [Hid]⟩
          case round =>
            obtain ⟨j, hj, rfl, Hj⟩ := hrel
            by_cases hjk : j < k
            · obtain ⟨us, hus⟩ : ∃ us, zss[j]? = some us := ⟨_, List.getElem?_eq_getElem (by rw [Hl.out]; omega)⟩
              have hcu : w2.cell? ⟨w.heap.size, j, none⟩ = some (.string (bstr us)) := by
                rw [Ho2.out.cellAt j (by omega), List.getElem?_map, List.getElem?_take, if_pos hjk, hus]; rfl
              have HUV := Lib.hid (Bk.okN_at Hk.out hjk hus).1
              have HU := Lib.hid hus
              clear hus
              by_cases hsame : us = zs
              · subst hsame
                have HV : Hid (Bk.valid zss = false) := Bk.valid_false (Bk.okN_twice HZ.out (Bk.mem_take_at HU.out hjk)) (by rw [Hl.out]; omega)
                have hq := Bk.bstr_same us
                go_wp2_with fail
                go_ret2
                exact ⟨_, _, _, by rw [HV.out]; rfl, by unfold Bk.codes; rw [HV.out]; exact World.ownsRow_nil _ _ _ _, Hb2.out⟩
              · have HJ := Lib.hid (Bk.mem_take_snoc HU.out Hj.out hsame)
                have hq := Bk.bstr_ne HUV.out HVZ.out hsame
                clear hsame
                go_wp2_with fail
                go_round
                case rel => exact ⟨j + 1, by omega, by go_num, HJ.out⟩
                case measure => simp [intOf]; omega
            · have hjn : j = k := by omega
              subst hjn
              have HK := Lib.hid (Bk.okN_step Hk.out HZ.out HVZ.out Hj.out)
              have hown := Ho2.out
              go_wp2_with (at_builtin; refine wpList_append_fits _ rfl _ _ 61 rfl w.heap.size 64 i0 1 Try.underlying61 hi hz1 w.heap.size j n _ rfl (hown.alloc _) ⟨w2.heap.size, 0, none⟩ 1 1 [.string (bstr zs)] rfl rfl (cell_new _ _ _) (one_cell _ rfl) (by omega) ?_)
              intro w3 hown3 hgrow3
              have Ho3 := Lib.hid hown3
              have Hb3 := Lib.hid ((Hb2.out.alloc Hb2.out.size (.cells #[.string (bstr zs)] 64)).grown hgrow3 (by have := Hb2.out.size; simp; omega) (fun j h => by cases h; exact Nat.le_refl _))
              clear hown hown3 hgrow3
              go_wp2_with fail
              go_roundw
              case rel => exact ⟨j + 1, by omega, by go_num, rfl, HK.out, by unfold Hid; rw [take_snoc HZ.out, List.map_append, List.map_take]; exact Ho3.out, Hb3.out⟩
              case measure => simp [intOf]; omega
      · have hkn : k = n := by omega
        subst hkn
        have HV : Hid (Bk.valid zss = true) := Bk.valid_true (by rw [Hl.out]; exact Hk.out) (by rw [Hl.out]; exact hn10)
        go_wp2_with fail
        go_ret2
        refine ⟨_, _, _, by rw [HV.out]; rfl, ?_, Hb.out⟩
        have := Ho.out
        rw [List.take_of_length_le (by rw [Hl.out]; exact Nat.le_refl _)] at this
        unfold Bk.codes
        rw [if_pos HV.out]
        exact this
theorem implBookValid_any (A : Option Addr) (n c : Nat) (zss : List (List Int)) (w : World) (hx : RdM w A n zss) (hn : n ≤ maxLen) (ht : tot zss ≤ 1048576) :
    Calls Try.prog 35 #[.slice A n c] w fun e w' => e = .returned (.bool (Bk.valid zss)) ∧ Below w.heap.size w w' := by
  have HX := Lib.hid hx
  clear hx
  go_enter Try.func35, Try.ntmps35
  go_wp2_with fail
  refine (bookOf_any _ _ _ zss _ HX.out hn ht).mono ?_
  rintro e w1 ⟨G, k, g, rfl, _, hb1⟩
  have Hb1 := Lib.hid hb1
  clear hb1
  go_wp2_with fail
  go_ret
  exact ⟨rfl, Hb1.out⟩
set_option maxHeartbeats 4000000 in
theorem specBookValid_any (A : Option Addr) (n c : Nat) (zss : List (List Int)) (w : World) (hx : RdM w A n zss) (hn : n ≤ 1048576) (ht : tot zss ≤ 1048576) :
    Calls Try.prog 33 #[.slice A n c] w fun e w' => e = .returned (.bool (Bk.valid zss)) ∧ ∃ m, w' = w.drewN m := by
  have HX := Lib.hid hx
  have Hl := Lib.hid hx.len
  clear hx
  go_enter Try.func33, Try.ntmps33
  go_wp2_with fail
  go_loopw [3] (fun i wr => ∃ k : Nat, k ≤ n ∧ i = .int .i64 k ∧ Hid (Bk.okN zss k = true) ∧ Hid (∃ s, wr = w.drewN s)) (fun i _ => n - (intOf i).toNat)
  case atStart => exact ⟨0, Nat.zero_le _, rfl, rfl, ⟨0, rfl⟩⟩
  case round =>
    obtain ⟨k, hk, rfl, Hk, HS⟩ := hrel
    by_cases hlt : k < n
    · obtain ⟨b, off, A', n', c', zs, rfl, hzk, hcz0, hrd0, _, _⟩ := HX.out.at_ hlt
      have hcz : wr.cell? ⟨b, off + k, none⟩ = some (.slice A' n' c') := by obtain ⟨s, rfl⟩ := HS.out; exact hcz0
      have HRD : Hid (RdI wr A' n' zs) := by obtain ⟨s, rfl⟩ := HS.out; exact hrd0
      have hn' : n' ≤ 1048576 := by have := len_le_tot hzk; have := hrd0.len; omega
      have HZ := Lib.hid hzk
      have HR0 := Lib.hid hrd0
      have HC0 := Lib.hid hcz0
      clear hrd0 hzk hcz0
      go_wp2_with fail
      refine (specCodeValid_any _ _ _ zs _ HRD.out (by omega)).mono ?_
      rintro e w1 ⟨rfl, rfl⟩
      cases hv : Cd.validB zs with
      | false =>
        have HV : Hid (Bk.valid zss = false) := Bk.valid_false (Bk.okN_bad HZ.out hv) (by rw [Hl.out]; omega)
        clear hv
        go_wp2_with fail
        go_ret
        exact ⟨ret_bool HV.out.symm, HS.out⟩
      | true =>
        have HVZ := Lib.hid hv
        clear hv hcz HRD
        go_wp2_with fail
        obtain ⟨wo, rfl⟩ : ∃ wo : World, wo = wr := ⟨_, rfl⟩
        go_loopw [4] (fun i wq => ∃ j : Nat, j ≤ k ∧ i = .int .i64 j ∧ Hid (¬ zs ∈ zss.take j) ∧ Hid (∃ s, wq = w.drewN s)) (fun i _ => k - (intOf i).toNat)
        case atStart => exact ⟨0, Nat.zero_le _, rfl, by simp [Hid], HS.out⟩
        case round =>
          obtain ⟨j, hj, rfl, Hj, HSj⟩ := hrel
          clear HS
          by_cases hjk : j < k
          · obtain ⟨b1, off1, A1, n1, c1, us, hb1, huj, hcu0, hru0, _, _⟩ := HX.out.at_ (show j < n by omega)
            simp only [Option.some.injEq, Addr.mk.injEq, and_true] at hb1
            obtain ⟨rfl, rfl⟩ := hb1
            have hcz : wr.cell? ⟨b, off + k, none⟩ = some (.slice A' n' c') := by obtain ⟨s, rfl⟩ := HSj.out; exact HC0.out
            have hcu : wr.cell? ⟨b, off + j, none⟩ = some (.slice A1 n1 c1) := by obtain ⟨s, rfl⟩ := HSj.out; exact hcu0
            have HU := Lib.hid huj
            have hcall : ∀ s, Calls Try.prog 57 #[.slice A' n' c', .slice A1 n1 c1] (wr.drewN s) fun e w' => e = .returned (.bool (decide (zs = us))) ∧ ∃ m, w' = (wr.drewN s).drewN m := fun s => by
              obtain ⟨t, rfl⟩ := HSj.out
              exact l1Same_any A' A1 n' n1 c' c1 zs us _ HR0.out hru0 (by omega)
            have HCALL := Lib.hid hcall
            clear hcall huj hcu0 hru0
            by_cases hsame : zs = us
            · subst hsame
              have HV : Hid (Bk.valid zss = false) := Bk.valid_false (Bk.okN_twice HZ.out (Bk.mem_take_at HU.out hjk)) (by rw [Hl.out]; omega)
              have HC1 : Hid (∀ s, Calls Try.prog 57 #[.slice A' n' c', .slice A1 n1 c1] (wr.drewN s) fun e w' => e = .returned (.bool true) ∧ ∃ m, w' = (wr.drewN s).drewN m) := by
                have := HCALL.out; rw [decide_eq_true (rfl : zs = zs)] at this; exact this
              clear HCALL
              go_wp2_with fail
              go_quiet ((go_at_call 57; exact Calls.quiet_of (HC1.out _)))
              go_wp2_with fail
              go_ret
              exact ⟨ret_bool HV.out.symm, by obtain ⟨s, rfl⟩ := HSj.out; first | exact ⟨_, rfl⟩ | exact ex_drew _ _ _⟩
            · have HC1 : Hid (∀ s, Calls Try.prog 57 #[.slice A' n' c', .slice A1 n1 c1] (wr.drewN s) fun e w' => e = .returned (.bool false) ∧ ∃ m, w' = (wr.drewN s).drewN m) := by
                have := HCALL.out; rw [decide_eq_false hsame] at this; exact this
              have HJ := Lib.hid (Bk.mem_take_snoc HU.out Hj.out (fun e => hsame e.symm))
              clear HCALL hsame
              go_wp2_with fail
              go_quiet ((go_at_call 57; exact Calls.quiet_of (HC1.out _)))
              go_wp2_with fail
              go_roundw
              case rel => exact ⟨j + 1, by omega, by go_num, HJ.out, by obtain ⟨s, rfl⟩ := HSj.out; first | exact ⟨_, rfl⟩ | exact ex_drew _ _ _⟩
              case measure => simp [intOf]; omega
          · have hjn : j = k := by omega
            subst hjn
            have HK := Lib.hid (Bk.okN_step Hk.out HZ.out HVZ.out Hj.out)
            go_wp2_with fail
            go_roundw
            case rel => exact ⟨j + 1, by omega, by go_num, HK.out, HSj.out⟩
            case measure => simp [intOf]; omega
    · have hkn : k = n := by omega
      subst hkn
      by_cases h10 : (k : Int) ≤ 10
      · have HV : Hid (Bk.valid zss = true) := Bk.valid_true (by rw [Hl.out]; exact Hk.out) (by rw [Hl.out]; omega)
        go_wp2_with fail
        go_ret
        exact ⟨ret_bool (by rw [HV.out]), HS.out⟩
      · have HV : Hid (Bk.valid zss = false) := Bk.valid_long (by rw [Hl.out]; omega)
        have hd : decide ((k : Int) ≤ 10) = false := decide_eq_false h10
        go_wp2_with fail
        go_ret
        exact ⟨ret_bool (by rw [HV.out]), HS.out⟩
end Go.Proofs.Ytpfgjkgjeejghaa
