/-
  Contracts: CodeRank of the reference and of the program; the walk of the law FnExactCodeRank.
  Conditions: of the contracts: the slice reads as a list of integers, of at most 2^40 elements; of the law: none.
-/
import Derived.Test.YtablnijmoohjhaaCodes5
namespace Go.Proofs.Ytablnijmoohjhaa
open Go.RowKit
set_option linter.unusedVariables false

namespace Cd
/-- What CodeRank returns. -/
def rank (zs : List Int) : Int := if validB zs then rk 5 zs else -1
theorem drop_at {zs : List Int} {i : Nat} {z : Int} (h : zs[i]? = some z) : zs.drop i = z :: zs.drop (i + 1) := by
  obtain ⟨hk, rfl⟩ := List.getElem?_eq_some_iff.1 h
  exact List.drop_eq_getElem_cons hk
theorem rk_drop {zs : List Int} {i : Nat} {z : Int} (h : zs[i]? = some z) : rk (5 - i) (zs.drop i) = S (4 - i) (sum (zs.drop i)) (z - 1).toNat + rk (5 - (i + 1)) (zs.drop (i + 1)) := by
  rw [drop_at h]
  simp only [rk]
  rw [show 5 - i - 1 = 4 - i from by omega, show 5 - (i + 1) = 4 - i from by omega]
theorem sum_drop {zs : List Int} {i : Nat} {z : Int} (h : zs[i]? = some z) : sum (zs.drop i) = z + sum (zs.drop (i + 1)) := by
  rw [drop_at h]; rfl
theorem grp_drop {zs : List Int} (h : grp zs) (i : Nat) : grp (zs.drop i) := fun z hz => h z (List.mem_of_mem_drop hz)
end Cd

set_option maxHeartbeats 2000000 in
theorem specCodeRank_any (A : Option Addr) (n c : Nat) (zs : List Int) (w : World) (hx : RdI w A n zs) (hn : n ≤ 1099511627776) :
    Calls Try.prog 35 #[.slice A n c] w fun e w' => e = .returned (.int .i64 (Cd.rank zs)) ∧ w = w' := by
  have HX := Lib.hid hx
  have Hlx := Lib.hid hx.len
  clear hx
  by_cases hv : Cd.validB zs = true
  · have HV := Lib.hid hv
    have HG := Lib.hid (Cd.valid_grp hv)
    have HE : Hid (Cd.rank zs = Cd.rk 5 zs) := by unfold Hid Cd.rank; rw [if_pos hv]
    clear hv
    have hn1 : 1 ≤ n := by have := HG.out; have := Hlx.out; omega
    have hn5 : n ≤ 5 := by have := HG.out; have := Hlx.out; omega
    go_enter Try.func35, Try.ntmps35
    go_wp2_with fail
    refine (specCodeValid_any _ _ _ zs _ HX.out hn).mono ?_
    rintro e w1 ⟨rfl, rfl⟩
    rw [HV.out]
    go_wp2_with fail
    refine (l1Sum_any _ _ _ zs _ HX.out HG.out.1 (by omega)).mono ?_
    rintro e w1 ⟨rfl, rfl⟩
    go_wp2_with fail
    go_loop [3, 4, 5] (fun r l i => ∃ (k : Nat) (R L : Int), k ≤ n ∧ i = .int .i64 k ∧ r = .int .i64 R ∧ l = .int .i64 L ∧ Hid (R + Cd.rk (5 - k) (zs.drop k) = Cd.rk 5 zs) ∧ Hid (L = Cd.sum (zs.drop k)) ∧ 0 ≤ R ∧ R ≤ 100000 * k ∧ 0 ≤ L ∧ L ≤ 30) (fun _ _ i => n - (intOf i).toNat)
    case atStart =>
      have h1 := Cd.sum_ge HG.out.1
      have h2 := Cd.sum_le HG.out.1
      have h3 := Hlx.out
      exact ⟨0, 0, Cd.sum zs, Nat.zero_le _, rfl, rfl, rfl, by simp [Hid], by simp [Hid], by omega, by omega, by omega, by omega⟩
    case round =>
      obtain ⟨k, R, L, hk, rfl, rfl, rfl, HR, HL, hR0, hR1, hL0, hL1⟩ := hrel
      by_cases hlt : k < n
      · obtain ⟨b, off, z, rfl, hzk, hcz⟩ := HX.out.at_ hlt
        have hz := HG.out.1 z (List.mem_of_getElem? hzk)
        obtain ⟨z1, z6⟩ := hz
        have HS1 := Lib.hid (Cd.rk_drop hzk)
        have HS2 := Lib.hid (Cd.sum_drop hzk)
        have hs3 := Cd.sum_ge (Cd.grp_drop HG.out.1 (k + 1))
        have hs4 : z ≤ L := by have h5 := HL.out; have h6 := HS2.out; omega
        have HZ := Lib.hid hzk
        clear hzk hs3
        go_wp2_with fail
        go_loop [3, 6] (fun r j => ∃ (q : Nat) (R' : Int), 1 ≤ q ∧ (q : Int) ≤ z ∧ j = .int .i64 q ∧ r = .int .i64 R' ∧ Hid (R' = R + Cd.S (4 - k) L (q - 1)) ∧ 0 ≤ R' ∧ R' ≤ R + 7776 * q) (fun _ j => 7 - (intOf j).toNat)
        case atStart => exact ⟨1, R, by omega, by omega, rfl, rfl, by unfold Hid; show R = R + 0; omega, by omega, by omega⟩
        case round =>
          obtain ⟨q, R', hq1, hqz, rfl, rfl, HR', hR'0, hR'1⟩ := hrel
          by_cases hq : (q : Int) < z
          · have hm1 := Cd.M_nonneg (4 - k) (L - q)
            have hm2 := Cd.M_le (4 - k) (L - q) (by omega)
            go_wp2_with fail
            refine (l1Many_any (4 - k) _ _ _ (by omega) (by omega) (by omega) (by omega)).mono ?_
            rintro e w1 ⟨rfl, rfl⟩
            go_wp2_with fail
            go_round
            case rel => exact ⟨q + 1, _, by omega, by omega, by go_num, rfl, by unfold Hid; rw [HR'.out, Nat.add_sub_cancel, Cd.S_step _ L q hq1]; omega, by omega, by omega⟩
            case measure => simp [intOf]; omega
          · have hqz' : (q : Int) = z := by omega
            have HQ := Lib.hid hqz'
            have hq' : z ≤ (q : Int) := by omega
            clear hqz' hq
            go_wp2_with fail
            go_round
            case rel =>
              have e1 : (z - 1).toNat = q - 1 := by have := HQ.out; omega
              have h1 := HS1.out
              rw [e1, ← HL.out] at h1
              have h2 := HR.out
              have h3 := HR'.out
              have h4 := HL.out
              have h5 := HS2.out
              exact ⟨k + 1, R', L - z, by omega, by go_num, rfl, rfl, by unfold Hid; omega, by unfold Hid; omega, by omega, by omega, by omega, by omega⟩
            case measure => simp [intOf]; omega
      · have hkn : k = n := by omega
        subst hkn
        go_wp2_with fail
        go_ret
        refine ⟨ret_int ?_, rfl⟩
        rw [HE.out, ← HR.out, List.drop_of_length_le (by have := Hlx.out; omega)]
        simp [Cd.rk]
  · have HV : Hid (Cd.validB zs = false) := by unfold Hid; simpa using hv
    have HE : Hid (Cd.rank zs = -1) := by unfold Hid Cd.rank; rw [if_neg hv]
    clear hv
    go_enter Try.func35, Try.ntmps35
    go_wp2_with fail
    refine (specCodeValid_any _ _ _ zs _ HX.out hn).mono ?_
    rintro e w1 ⟨rfl, rfl⟩
    rw [HV.out]
    go_wp2_with fail
    go_ret
    exact ⟨ret_int HE.out.symm, rfl⟩
set_option maxHeartbeats 2000000 in
theorem implCodeRank_any (A : Option Addr) (n c : Nat) (zs : List Int) (w : World) (hx : RdI w A n zs) (hn : n ≤ 1099511627776) :
    Calls Try.prog 36 #[.slice A n c] w fun e w' => e = .returned (.int .i64 (Cd.rank zs)) ∧ Below w.heap.size w w' := by
  have HX := Lib.hid hx
  have Hlx := Lib.hid hx.len
  clear hx
  by_cases hv : Cd.validB zs = true
  · have HV := Lib.hid hv
    have HG := Lib.hid (Cd.valid_grp hv)
    have HE : Hid (Cd.rank zs = Cd.rk 5 zs) := by unfold Hid Cd.rank; rw [if_pos hv]
    clear hv
    obtain ⟨s, hs⟩ : ∃ s, s = bstr zs := ⟨_, rfl⟩
    have HS := Lib.hid hs
    have hss : s.size = zs.length := by rw [hs, bstr_size]
    have HSS := Lib.hid hss
    have hs1 : 1 ≤ s.size := by have := HG.out; omega
    have hs5 : s.size ≤ 5 := by have := HG.out; omega
    clear hs hss
    go_enter Try.func36, Try.ntmps36
    go_wp2_with fail
    refine (codeOf_any _ _ _ zs _ HX.out hn).mono ?_
    rintro e w1 ⟨rfl, hb1⟩
    have Hb1 := Lib.hid hb1
    clear hb1
    rw [Cd.codeV_yes HV.out, ← HS.out]
    go_wp2_with fail
    refine (total_any _ _ (by omega)).mono ?_
    rintro e w2 ⟨rfl, rfl⟩
    rw [HS.out, Cd.sumB_bstr HG.out.1, ← HS.out]
    go_wp2_with fail
    go_loop [5, 6, 21] (fun r l i => ∃ (k : Nat) (R L : Int), k ≤ s.size ∧ i = .int .i64 k ∧ r = .int .i64 R ∧ l = .int .i64 L ∧ Hid (R + Cd.rk (5 - k) (zs.drop k) = Cd.rk 5 zs) ∧ Hid (L = Cd.sum (zs.drop k)) ∧ 0 ≤ R ∧ R ≤ 100000 * k ∧ 0 ≤ L ∧ L ≤ 30) (fun _ _ i => s.size - (intOf i).toNat)
    case atStart =>
      have h1 := Cd.sum_ge HG.out.1
      have h2 := Cd.sum_le HG.out.1
      have h3 := HSS.out
      exact ⟨0, 0, Cd.sum zs, Nat.zero_le _, rfl, rfl, rfl, by simp [Hid], by simp [Hid], by omega, by omega, by omega, by omega⟩
    case round =>
      obtain ⟨k, R, L, hk, rfl, rfl, rfl, HR, HL, hR0, hR1, hL0, hL1⟩ := hrel
      by_cases hlt : k < s.size
      · have hzk := bstr_at HG.out.1 HS.out k hlt
        obtain ⟨z, hzz⟩ : ∃ z : Int, z = (s[k].toNat : Int) := ⟨_, rfl⟩
        rw [← hzz] at hzk
        have HZZ := Lib.hid hzz
        have hz := HG.out.1 z (List.mem_of_getElem? hzk)
        obtain ⟨z1, z6⟩ := hz
        have z1' : 1 ≤ s[k].toNat := by omega
        have z6' : s[k].toNat ≤ 6 := by omega
        have HS1 := Lib.hid (Cd.rk_drop hzk)
        have HS2 := Lib.hid (Cd.sum_drop hzk)
        have hs3 := Cd.sum_ge (Cd.grp_drop HG.out.1 (k + 1))
        have hs4 : (s[k].toNat : Int) ≤ L := by have h5 := HL.out; have h6 := HS2.out; omega
        clear hzk hs3 hzz
        go_wp2_with fail
        go_loop [5, 9] (fun r j => ∃ (q : Nat) (R' : Int), 1 ≤ q ∧ q ≤ s[k].toNat ∧ j = .int .i64 q ∧ r = .int .i64 R' ∧ Hid (R' = R + Cd.S (4 - k) L (q - 1)) ∧ 0 ≤ R' ∧ R' ≤ R + 7776 * q) (fun _ j => 7 - (intOf j).toNat)
        case atStart => exact ⟨1, R, by omega, by omega, rfl, rfl, by unfold Hid; show R = R + 0; omega, by omega, by omega⟩
        case round =>
          obtain ⟨q, R', hq1, hqz, rfl, rfl, HR', hR'0, hR'1⟩ := hrel
          by_cases hq : q < s[k].toNat
          · have hm1 := Cd.M_nonneg (4 - k) (L - q)
            have hm2 := Cd.M_le (4 - k) (L - q) (by omega)
            go_wp2_with fail
            refine (manyCodes_any (4 - k) _ _ _ (by omega) (by omega) (by omega) (by omega)).mono ?_
            rintro e w1 ⟨rfl, rfl⟩
            go_wp2_with fail
            go_round
            case rel => exact ⟨q + 1, _, by omega, by omega, by go_num, rfl, by unfold Hid; rw [HR'.out, Nat.add_sub_cancel, Cd.S_step _ L q hq1]; omega, by omega, by omega⟩
            case measure => simp [intOf]; omega
          · have hqz' : q = s[k].toNat := by omega
            have HQ := Lib.hid hqz'
            have hd : decide (q < s[k].toNat) = false := by simpa using hq
            clear hqz'
            go_wp2_with fail
            go_round
            case rel =>
              have e1 : (z - 1).toNat = q - 1 := by have := HQ.out; have := HZZ.out; omega
              have h1 := HS1.out
              rw [e1, ← HL.out] at h1
              have h2 := HR.out
              have h3 := HR'.out
              have h4 := HL.out
              have h5 := HS2.out
              have h6 := HZZ.out
              exact ⟨k + 1, R', L - s[k].toNat, by omega, by go_num, rfl, rfl, by unfold Hid; omega, by unfold Hid; omega, by omega, by omega, by omega, by omega⟩
            case measure => simp [intOf]; omega
      · go_wp2_with fail
        go_ret
        refine ⟨ret_int ?_, Hb1.out⟩
        rw [HE.out, ← HR.out, List.drop_of_length_le (by have := HSS.out; omega)]
        simp [Cd.rk]
  · have HV : Hid (Cd.validB zs = false) := by unfold Hid; simpa using hv
    have HE : Hid (Cd.rank zs = -1) := by unfold Hid Cd.rank; rw [if_neg hv]
    clear hv
    go_enter Try.func36, Try.ntmps36
    go_wp2_with fail
    refine (codeOf_any _ _ _ zs _ HX.out hn).mono ?_
    rintro e w1 ⟨rfl, hb1⟩
    have Hb1 := Lib.hid hb1
    clear hb1
    rw [Cd.codeV_no HV.out]
    go_wp2_with fail
    go_ret
    exact ⟨ret_int HE.out.symm, Hb1.out⟩
end Go.Proofs.Ytablnijmoohjhaa
