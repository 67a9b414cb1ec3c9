/-
  Contracts: BookFind, BookClear (the reference's and the program's).
  Conditions: the book reads as a list of lists, with at most 2^20 numbers.
-/
import Derived.Test.YtpfgjkgjeejghaaBooks2
namespace Go.Proofs.Ytpfgjkgjeejghaa.Bk
open Go.Proofs.Ytpfgjkgjeejghaa
/-- Where a list of lists has a list first. -/
def idx : List (List Int) → List Int → Nat → Option Nat
  | [], _, _ => none
  | a :: l, zs, o => if a = zs then some o else idx l zs (o + 1)
theorem idx_at : ∀ {zss : List (List Int)} {zs : List Int} {k : Nat} (o : Nat), zss[k]? = some zs → ¬ zs ∈ zss.take k → idx zss zs o = some (o + k)
  | [], zs, k, o, h, _ => by simp at h
  | a :: l, zs, 0, o, h, _ => by simp at h; subst h; simp [idx]
  | a :: l, zs, k + 1, o, h, hn => by
    simp at h hn
    simp only [idx]
    rw [if_neg (fun e => hn.1 e.symm), idx_at (o + 1) h hn.2]
    congr 1
    omega
theorem idx_no : ∀ {zss : List (List Int)} {zs : List Int} (o : Nat), ¬ zs ∈ zss → idx zss zs o = none
  | [], zs, o, _ => rfl
  | a :: l, zs, o, h => by
    simp at h
    simp only [idx]
    rw [if_neg (fun e => h.1 e.symm), idx_no (o + 1) h.2]
/-- What BookFind returns. -/
def find (zss : List (List Int)) (zs : List Int) : Int := if valid zss = true then (match idx zss zs 0 with | some k => (k : Int) | none => -1) else -1
theorem find_bad {zss : List (List Int)} {zs : List Int} (h : valid zss = false) : find zss zs = -1 := by unfold find; rw [if_neg (by simp [h])]
theorem find_at {zss : List (List Int)} {zs : List Int} {k : Nat} (h : valid zss = true) (hk : zss[k]? = some zs) (hn : ¬ zs ∈ zss.take k) : find zss zs = k := by
  unfold find; rw [if_pos h, idx_at 0 hk hn]; simp
theorem find_no {zss : List (List Int)} {zs : List Int} (hn : ¬ zs ∈ zss) : find zss zs = -1 := by
  unfold find; split
  · rw [idx_no 0 hn]
  · rfl
theorem find_inv {zss : List (List Int)} {zs : List Int} (h : valid zss = true) (hv : Cd.validB zs = false) : find zss zs = -1 := by
  refine find_no fun hm => ?_
  obtain ⟨k, hk⟩ := List.mem_iff_getElem?.1 hm
  have := (valid_at h hk).1
  rw [hv] at this
  cases this
/-- Whether no code begins another one. -/
def free (zss : List (List Int)) : Bool := zss.all fun a => zss.all fun b => !Cd.begins a b
/-- What BookClear returns. -/
def clear (zss : List (List Int)) : Bool := free zss && valid zss
theorem free_no {zss : List (List Int)} {i j : Nat} {a b : List Int} (hi : zss[i]? = some a) (hj : zss[j]? = some b) (h : Cd.begins a b = true) : free zss = false := by
  unfold free
  refine all_false hi ?_
  exact all_false hj (by rw [h]; rfl)
theorem clear_no {zss : List (List Int)} {i j : Nat} {a b : List Int} (hi : zss[i]? = some a) (hj : zss[j]? = some b) (h : Cd.begins a b = true) : clear zss = false := by
  unfold clear; rw [free_no hi hj h]; rfl
theorem clear_bad {zss : List (List Int)} (h : valid zss = false) : clear zss = false := by unfold clear; rw [h, Bool.and_false]
theorem begins_bstr {a b : List Int} (ha : Cd.validB a = true) (hb : Cd.validB b = true) : (decide ((bstr a).size < (bstr b).size) && Cd.pre (bstr a) (bstr b)) = Cd.begins a b := by
  unfold Cd.begins
  rw [ha, hb, Cd.pre_bstr (Cd.valid_grp ha).1 (Cd.valid_grp hb).1, bstr_size, bstr_size]
  by_cases h : a.length < b.length
  · simp [h, Nat.le_of_lt h]
  · simp [h]
end Go.Proofs.Ytpfgjkgjeejghaa.Bk
namespace Go.Proofs.Ytpfgjkgjeejghaa
open Go.RowKit
set_option linter.unusedVariables false
attribute [local go_sem ↓] Go.wp_at_zero Go.wp_at_succ

theorem codes_at {w : World} {B : Nat} {G : Option Addr} {k g : Nat} {zss : List (List Int)} (h : w.ownsRow B 64 1 (.slice G k g) k (Bk.codes zss)) (hv : Bk.valid zss = true) : k = zss.length ∧
    ∀ (j : Nat) zs, zss[j]? = some zs → ∃ b, G = some ⟨b, 0, none⟩ ∧ w.cell? ⟨b, j, none⟩ = some (.string (bstr zs)) := by
  have hro := Rd.of_own h
  unfold Bk.codes at hro
  rw [if_pos hv] at hro
  have hl := hro.1
  simp at hl
  refine ⟨hl.symm, fun j zs hj => ?_⟩
  have hj2 := (List.getElem?_eq_some_iff.1 hj).1
  rcases h.2 with ⟨e, e2⟩ | ⟨b, cap, cur, e, _⟩
  · simp at e; omega
  · simp only [Value.slice.injEq] at e
    refine ⟨b, e.1, ?_⟩
    obtain ⟨b', off, e1, hc⟩ := hro.2 (by omega)
    rw [e.1] at e1
    simp only [Option.some.injEq, Addr.mk.injEq, and_true] at e1
    obtain ⟨rfl, rfl⟩ := e1
    have := hc j (Bk.sv zs) (by rw [List.getElem?_map, hj]; rfl)
    rw [Nat.zero_add] at this
    exact this

set_option maxHeartbeats 4000000 in
theorem implBookFind_any (A : Option Addr) (n c : Nat) (zss : List (List Int)) (A' : Option Addr) (m d : Nat) (zs : List Int) (w : World) (hx : RdM w A n zss) (hn : n ≤ maxLen) (ht : tot zss ≤ 1048576) (hy : RdI w A' m zs) (hm : m ≤ 1048576) :
    Calls Try.prog 38 #[.slice A n c, .slice A' m d] w fun e w' => e = .returned (.int .i64 (Bk.find zss zs)) ∧ Below w.heap.size w w' := by
  have HX := Lib.hid hx
  have HY := Lib.hid hy
  clear hx hy
  go_enter Try.func38, Try.ntmps38
  go_wp2_with fail
  refine (bookOf_any _ _ _ zss _ HX.out hn ht).mono ?_
  rintro e w1 ⟨G, k, g, rfl, ho1, hb1⟩
  have HO1 := Lib.hid ho1
  have Hb1 := Lib.hid hb1
  clear ho1 hb1 hn
  go_wp2_with fail
  refine (codeOf_any _ _ _ zs _ (RdI.below HY.out Hb1.out) (by omega)).mono ?_
  rintro e w2 ⟨rfl, hb2⟩
  have HO2 := Lib.hid (own_belowAll HO1.out hb2)
  have Hb2 := Lib.hid (below_seq Hb1.out hb2)
  clear hb2 HO1 Hb1
  cases hv : Bk.valid zss with
  | false =>
    have HE : Hid (Bk.find zss zs = -1) := Bk.find_bad hv
    clear hv
    cases hz : Cd.validB zs with
    | false =>
      rw [Cd.codeV_no hz]
      clear hz
      go_wp2_with fail
      go_ret
      exact ⟨ret_int HE.out.symm, Hb2.out⟩
    | true =>
      rw [Cd.codeV_yes hz]
      clear hz
      go_wp2_with fail
      go_ret
      exact ⟨ret_int HE.out.symm, Hb2.out⟩
  | true =>
    cases hz : Cd.validB zs with
    | false =>
      have HE : Hid (Bk.find zss zs = -1) := Bk.find_inv hv hz
      rw [Cd.codeV_no hz]
      clear hv hz
      go_wp2_with fail
      go_ret
      exact ⟨ret_int HE.out.symm, Hb2.out⟩
    | true =>
      rw [Cd.codeV_yes hz]
      have HV := Lib.hid hv
      have HZ := Lib.hid hz
      obtain ⟨hk, hat⟩ := codes_at HO2.out hv
      have HK := Lib.hid hk
      have HAT := Lib.hid hat
      have hk10 : k ≤ 10 := by have := (Bk.valid_parts hv).2; omega
      clear hv hz hk hat
      go_wp2_with fail
      go_loop [29] (fun i => ∃ j : Nat, j ≤ k ∧ i = .int .i64 j ∧ Hid (¬ zs ∈ zss.take j)) (fun i => k - (intOf i).toNat)
      case atStart => exact ⟨0, Nat.zero_le _, rfl, by simp [Hid]⟩
      case round =>
        obtain ⟨j, hj, rfl, Hj⟩ := hrel
        by_cases hjk : j < k
        · obtain ⟨us, hus⟩ : ∃ us, zss[j]? = some us := ⟨_, List.getElem?_eq_getElem (by rw [← HK.out]; omega)⟩
          obtain ⟨b, rfl, hcu⟩ := HAT.out j us hus
          have HUV := Lib.hid (Bk.valid_at HV.out hus).1
          have HU := Lib.hid hus
          clear hus
          by_cases hsame : us = zs
          · subst hsame
            have HE : Hid (Bk.find zss us = j) := Bk.find_at HV.out HU.out Hj.out
            have hq := Bk.bstr_same us
            go_wp2_with fail
            go_ret
            exact ⟨ret_int HE.out.symm, Hb2.out⟩
          · have HJ := Lib.hid (Bk.mem_take_snoc HU.out Hj.out hsame)
            have hq := Bk.bstr_ne HUV.out HZ.out hsame
            clear hsame
            go_wp2_with fail
            go_round
            case rel => exact ⟨j + 1, by omega, by go_num, HJ.out⟩
            case measure => simp [intOf]; omega
        · have hjn : j = k := by omega
          subst hjn
          have HE : Hid (Bk.find zss zs = -1) := by
            have := Hj.out
            rw [List.take_of_length_le (by rw [← HK.out]; exact Nat.le_refl _)] at this
            exact Bk.find_no this
          go_wp2_with fail
          go_ret
          exact ⟨ret_int HE.out.symm, Hb2.out⟩
set_option maxHeartbeats 4000000 in
theorem specBookFind_any (A : Option Addr) (n c : Nat) (zss : List (List Int)) (A' : Option Addr) (m d : Nat) (zs : List Int) (w : World) (hx : RdM w A n zss) (hn : n ≤ 1048576) (ht : tot zss ≤ 1048576) (hy : RdI w A' m zs) (hm : m ≤ 1048576) :
    Calls Try.prog 37 #[.slice A n c, .slice A' m d] w fun e w' => e = .returned (.int .i64 (Bk.find zss zs)) ∧ ∃ m, w' = w.drewN m := by
  have HX := Lib.hid hx
  have HY := Lib.hid hy
  have Hl := Lib.hid hx.len
  clear hx hy
  go_enter Try.func37, Try.ntmps37
  go_wp2_with fail
  go_loopw [5] (fun i wr => ∃ j : Nat, j ≤ n ∧ i = .int .i64 j ∧ Hid (¬ zs ∈ zss.take j) ∧ Hid (∃ s, wr = w.drewN s)) (fun i _ => n - (intOf i).toNat)
  case atStart => exact ⟨0, Nat.zero_le _, rfl, by simp [Hid], ⟨0, rfl⟩⟩
  case round =>
    obtain ⟨j, hj, rfl, Hj, HS⟩ := hrel
    by_cases hjk : j < n
    · obtain ⟨b, off, A1, n1, c1, us, rfl, hus, hcu0, hru0, _, _⟩ := HX.out.at_ hjk
      have HXr : Hid (RdM wr (some ⟨b, off, none⟩) n zss) := by obtain ⟨s, rfl⟩ := HS.out; exact HX.out
      have HU := Lib.hid hus
      have HC0 := Lib.hid hcu0
      have HR0 := Lib.hid hru0
      have hn1 : n1 ≤ 1048576 := by have := len_le_tot hus; have := hru0.len; omega
      clear hus hcu0 hru0
      cases hv : Bk.valid zss with
      | false =>
        have HE : Hid (Bk.find zss zs = -1) := Bk.find_bad hv
        go_wp2_with fail
        refine (specBookValid_any _ _ _ zss _ HXr.out hn ht).mono ?_
        rintro e w1 ⟨rfl, m1, rfl⟩
        rw [hv]
        clear hv
        go_wp2_with fail
        go_ret
        exact ⟨ret_int HE.out.symm, by obtain ⟨s, rfl⟩ := HS.out; exact ex_drew _ _ _⟩
      | true =>
        have HV := Lib.hid hv
        go_wp2_with fail
        refine (specBookValid_any _ _ _ zss _ HXr.out hn ht).mono ?_
        rintro e w1 ⟨rfl, m1, rfl⟩
        rw [hv]
        clear hv
        have HS1 : Hid (∃ s, wr.drewN m1 = w.drewN s) := by obtain ⟨s, rfl⟩ := HS.out; exact ex_drew _ _ _
        generalize wr.drewN m1 = w1 at HS1 ⊢
        have hcu : w1.cell? ⟨b, off + j, none⟩ = some (.slice A1 n1 c1) := by obtain ⟨s, rfl⟩ := HS1.out; exact HC0.out
        have HRu : Hid (RdI w1 A1 n1 us) := by obtain ⟨s, rfl⟩ := HS1.out; exact HR0.out
        have HRz : Hid (RdI w1 A' m zs) := by obtain ⟨s, rfl⟩ := HS1.out; exact HY.out
        go_wp2_with fail
        refine (l1Same_any _ _ _ _ _ _ us zs _ HRu.out HRz.out (by omega)).mono ?_
        rintro e w2 ⟨rfl, m2, rfl⟩
        have HS2 : Hid (∃ s, w1.drewN m2 = w.drewN s) := by obtain ⟨s, rfl⟩ := HS1.out; exact ex_drew _ _ _
        generalize w1.drewN m2 = w2 at HS2 ⊢
        by_cases hsame : us = zs
        · subst hsame
          have HE : Hid (Bk.find zss us = j) := Bk.find_at HV.out HU.out Hj.out
          rw [decide_eq_true (rfl : us = us)]
          go_wp2_with fail
          go_ret
          exact ⟨ret_int HE.out.symm, HS2.out⟩
        · have HJ := Lib.hid (Bk.mem_take_snoc HU.out Hj.out hsame)
          rw [decide_eq_false hsame]
          clear hsame
          go_wp2_with fail
          go_roundw
          case rel => exact ⟨j + 1, by omega, by go_num, HJ.out, HS2.out⟩
          case measure => simp [intOf]; omega
    · have hjn : j = n := by omega
      subst hjn
      have HE : Hid (Bk.find zss zs = -1) := by
        have := Hj.out
        rw [List.take_of_length_le (by rw [Hl.out]; exact Nat.le_refl _)] at this
        exact Bk.find_no this
      go_wp2_with fail
      go_ret
      exact ⟨ret_int HE.out.symm, HS.out⟩
set_option maxHeartbeats 4000000 in
theorem implBookClear_any (A : Option Addr) (n c : Nat) (zss : List (List Int)) (w : World) (hx : RdM w A n zss) (hn : n ≤ maxLen) (ht : tot zss ≤ 1048576) :
    Calls Try.prog 40 #[.slice A n c] w fun e w' => e = .returned (.bool (Bk.clear zss)) ∧ Below w.heap.size w w' := by
  have HX := Lib.hid hx
  clear hx
  go_enter Try.func40, Try.ntmps40
  go_wp2_with fail
  refine (bookOf_any _ _ _ zss _ HX.out hn ht).mono ?_
  rintro e w1 ⟨G, k, g, rfl, ho1, hb1⟩
  have HO1 := Lib.hid ho1
  have Hb1 := Lib.hid hb1
  clear ho1 hb1 hn
  cases hv : Bk.valid zss with
  | false =>
    have HE := Lib.hid (Bk.clear_bad hv)
    clear hv
    go_wp2_with fail
    go_ret
    exact ⟨ret_bool HE.out.symm, Hb1.out⟩
  | true =>
    have HV := Lib.hid hv
    obtain ⟨hk, hat⟩ := codes_at HO1.out hv
    have HK := Lib.hid hk
    have HAT := Lib.hid hat
    have hk10 : k ≤ 10 := by have := (Bk.valid_parts hv).2; omega
    clear hv hk hat
    go_wp2_with fail
    go_loop [18] (fun i => ∃ j : Nat, j ≤ k ∧ i = .int .i64 j ∧ Hid ((zss.take j).all (fun a => zss.all fun b => !Cd.begins a b) = true)) (fun i => k - (intOf i).toNat)
    case atStart => exact ⟨0, Nat.zero_le _, rfl, by simp [Hid]⟩
    case round =>
      obtain ⟨i, hi, rfl, Hi⟩ := hrel
      by_cases hik : i < k
      · obtain ⟨us, hus⟩ : ∃ us, zss[i]? = some us := ⟨_, List.getElem?_eq_getElem (by rw [← HK.out]; omega)⟩
        obtain ⟨b, rfl, hcu⟩ := HAT.out i us hus
        have HUV := Lib.hid (Bk.valid_at HV.out hus).1
        have HU := Lib.hid hus
        clear hus
        go_wp2_with fail
        go_loop [24] (fun i => ∃ j : Nat, j ≤ k ∧ i = .int .i64 j ∧ Hid ((zss.take j).all (fun b => !Cd.begins us b) = true)) (fun i => k - (intOf i).toNat)
        case atStart => exact ⟨0, Nat.zero_le _, rfl, by simp [Hid]⟩
        case round =>
          obtain ⟨j, hj, rfl, Hj⟩ := hrel
          by_cases hjk : j < k
          · obtain ⟨vs, hvs⟩ : ∃ vs, zss[j]? = some vs := ⟨_, List.getElem?_eq_getElem (by rw [← HK.out]; omega)⟩
            obtain ⟨b', hbb, hcv⟩ := HAT.out j vs hvs
            simp only [Option.some.injEq, Addr.mk.injEq, and_true] at hbb
            subst hbb
            have HVV := Lib.hid (Bk.valid_at HV.out hvs).1
            have HVS := Lib.hid hvs
            have HBE := Lib.hid (Bk.begins_bstr HUV.out HVV.out)
            clear hvs
            go_wp2_with fail
            refine (begins_any _ _ _ (by rw [bstr_size]; have := (Cd.valid_grp HVV.out).2; omega)).mono ?_
            rintro e w2 ⟨rfl, rfl⟩
            rw [HBE.out]
            cases hbe : Cd.begins us vs with
            | true =>
              have HE := Lib.hid (Bk.clear_no HU.out HVS.out hbe)
              clear hbe
              go_wp2_with fail
              go_ret
              exact ⟨ret_bool HE.out.symm, Hb1.out⟩
            | false =>
              have HJ : Hid ((zss.take (j + 1)).all (fun b => !Cd.begins us b) = true) := all_take HVS.out Hj.out (by rw [hbe]; rfl)
              clear hbe
              go_wp2_with fail
              go_round
              case rel => exact ⟨j + 1, by omega, by go_num, HJ.out⟩
              case measure => simp [intOf]; omega
          · have hjn : j = k := by omega
            subst hjn
            have HI : Hid ((zss.take (i + 1)).all (fun a => zss.all fun b => !Cd.begins a b) = true) := by
              refine all_take HU.out Hi.out ?_
              have := Hj.out
              rw [List.take_of_length_le (by rw [← HK.out]; exact Nat.le_refl _)] at this
              exact this
            go_wp2_with fail
            go_round
            case rel => exact ⟨i + 1, by omega, by go_num, HI.out⟩
            case measure => simp [intOf]; omega
      · have hin : i = k := by omega
        subst hin
        have HE : Hid (Bk.clear zss = true) := by
          have := Hi.out
          rw [List.take_of_length_le (by rw [← HK.out]; exact Nat.le_refl _)] at this
          unfold Hid Bk.clear Bk.free
          rw [this, HV.out]; rfl
        go_wp2_with fail
        go_ret
        exact ⟨ret_bool HE.out.symm, Hb1.out⟩
set_option maxHeartbeats 4000000 in
theorem specBookClear_any (A : Option Addr) (n c : Nat) (zss : List (List Int)) (w : World) (hx : RdM w A n zss) (hn : n ≤ 1048576) (ht : tot zss ≤ 1048576) :
    Calls Try.prog 39 #[.slice A n c] w fun e w' => e = .returned (.bool (Bk.clear zss)) ∧ ∃ m, w' = w.drewN m := by
  have HX := Lib.hid hx
  have Hl := Lib.hid hx.len
  clear hx
  go_enter Try.func39, Try.ntmps39
  go_wp2_with fail
  go_loopw [3] (fun i wr => ∃ k : Nat, k ≤ n ∧ i = .int .i64 k ∧ Hid ((zss.take k).all (fun a => zss.all fun b => !Cd.begins a b) = true) ∧ Hid (∃ s, wr = w.drewN s)) (fun i _ => n - (intOf i).toNat)
  case atStart => exact ⟨0, Nat.zero_le _, rfl, by simp [Hid], ⟨0, rfl⟩⟩
  case round =>
    obtain ⟨k, hk, rfl, Hk, HS⟩ := hrel
    by_cases hlt : k < n
    · obtain ⟨b, off, A', n', c', zs, rfl, hzk, hcz0, hrd0, hc1, hc2⟩ := HX.out.at_ hlt
      have hn' : n' ≤ 1048576 := by have := len_le_tot hzk; have := hrd0.len; omega
      have HZ := Lib.hid hzk
      have HR0 := Lib.hid hrd0
      have HC0 := Lib.hid hcz0
      clear hrd0 hzk hcz0 hc1 hc2
      go_wp2_with fail
      obtain ⟨wo, rfl⟩ : ∃ wo : World, wo = wr := ⟨_, rfl⟩
      go_loopw [4] (fun i wq => ∃ j : Nat, j ≤ n ∧ i = .int .i64 j ∧ Hid ((zss.take j).all (fun b => !Cd.begins zs b) = true) ∧ Hid (∃ s, wq = w.drewN s)) (fun i _ => n - (intOf i).toNat)
      case atStart => exact ⟨0, Nat.zero_le _, rfl, by simp [Hid], HS.out⟩
      case round =>
        obtain ⟨j, hj, rfl, Hj, HSj⟩ := hrel
        clear HS
        by_cases hjk : j < n
        · obtain ⟨b1, off1, A1, n1, c1, us, hb1, huj, hcu0, hru0, hcc1, hcc2⟩ := HX.out.at_ hjk
          simp only [Option.some.injEq, Addr.mk.injEq, and_true] at hb1
          obtain ⟨rfl, rfl⟩ := hb1
          have hcz : wr.cell? ⟨b, off + k, none⟩ = some (.slice A' n' c') := by obtain ⟨s, rfl⟩ := HSj.out; exact HC0.out
          have hcu : wr.cell? ⟨b, off + j, none⟩ = some (.slice A1 n1 c1) := by obtain ⟨s, rfl⟩ := HSj.out; exact hcu0
          have HU := Lib.hid huj
          have hcall : ∀ s, Calls Try.prog 60 #[.slice A' n' c', .slice A1 n1 c1] (wr.drewN s) fun e w' => e = .returned (.bool (Cd.begins zs us)) ∧ ∃ m, w' = (wr.drewN s).drewN m := fun s => by
            obtain ⟨t, rfl⟩ := HSj.out
            exact specCodeBegins_any A' A1 n' c' n1 c1 zs us _ HR0.out hru0 (by omega) (by have := len_le_tot huj; have := hru0.len; omega) hcc1 hcc2
          have HCALL := Lib.hid hcall
          clear hcall huj hcu0 hru0 hcc1 hcc2
          cases hbe : Cd.begins zs us with
          | true =>
            have HE := Lib.hid (Bk.clear_no HZ.out HU.out hbe)
            have HC1 : Hid (∀ s, Calls Try.prog 60 #[.slice A' n' c', .slice A1 n1 c1] (wr.drewN s) fun e w' => e = .returned (.bool true) ∧ ∃ m, w' = (wr.drewN s).drewN m) := by
              have := HCALL.out; rw [hbe] at this; exact this
            clear HCALL hbe
            go_wp2_with fail
            go_quiet ((go_at_call 60; exact Calls.quiet_of (HC1.out _)))
            go_wp2_with fail
            go_ret
            exact ⟨ret_bool HE.out.symm, by obtain ⟨s, rfl⟩ := HSj.out; first | exact ⟨_, rfl⟩ | exact ex_drew _ _ _⟩
          | false =>
            have HC1 : Hid (∀ s, Calls Try.prog 60 #[.slice A' n' c', .slice A1 n1 c1] (wr.drewN s) fun e w' => e = .returned (.bool false) ∧ ∃ m, w' = (wr.drewN s).drewN m) := by
              have := HCALL.out; rw [hbe] at this; exact this
            have HJ : Hid ((zss.take (j + 1)).all (fun b => !Cd.begins zs b) = true) := all_take HU.out Hj.out (by rw [hbe]; rfl)
            clear HCALL hbe
            go_wp2_with fail
            go_quiet ((go_at_call 60; exact Calls.quiet_of (HC1.out _)))
            go_wp2_with fail
            go_roundw
            case rel => exact ⟨j + 1, by omega, by go_num, HJ.out, by obtain ⟨s, rfl⟩ := HSj.out; first | exact ⟨_, rfl⟩ | exact ex_drew _ _ _⟩
            case measure => simp [intOf]; omega
        · have hjn : j = n := by omega
          subst hjn
          have HI : Hid ((zss.take (k + 1)).all (fun a => zss.all fun b => !Cd.begins a b) = true) := by
            refine all_take HZ.out Hk.out ?_
            have := Hj.out
            rw [List.take_of_length_le (by rw [Hl.out]; exact Nat.le_refl _)] at this
            exact this
          go_wp2_with fail
          go_roundw
          case rel => exact ⟨k + 1, by omega, by go_num, HI.out, HSj.out⟩
          case measure => simp [intOf]; omega
    · have hkn : k = n := by omega
      subst hkn
      have HE : Hid (Bk.clear zss = Bk.valid zss) := by
        have := Hk.out
        rw [List.take_of_length_le (by rw [Hl.out]; exact Nat.le_refl _)] at this
        unfold Hid Bk.clear Bk.free
        rw [this]; rfl
      have HXr : Hid (RdM wr A k zss) := by obtain ⟨s, rfl⟩ := HS.out; exact HX.out
      go_wp2_with fail
      refine (specBookValid_any _ _ _ zss _ HXr.out hn ht).mono ?_
      rintro e w1 ⟨rfl, m1, rfl⟩
      go_wp2_with fail
      go_ret
      exact ⟨ret_bool HE.out.symm, by obtain ⟨s, rfl⟩ := HS.out; exact ex_drew _ _ _⟩
end Go.Proofs.Ytpfgjkgjeejghaa
