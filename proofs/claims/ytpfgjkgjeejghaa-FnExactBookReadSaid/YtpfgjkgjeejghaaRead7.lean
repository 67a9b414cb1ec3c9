/-
  Contract of the laws' helper markIntSS: it writes only into the rows.
  Conditions: the rows are the call's own and read as lists of integers.
-/
import Derived.Test.YtpfgjkgjeejghaaRead4
import Derived.Test.YtpfgjkgjeejghaaBooks1
namespace Go.Proofs.Ytpfgjkgjeejghaa
open Go.RowKit
set_option linter.unusedVariables false
attribute [local go_sem ↓] Go.wp_at_zero Go.wp_at_succ
theorem Bk.readL_len (zss : List (List Int)) (zs : List Int) : (Bk.readL zss zs).length ≤ 20 := by
  by_cases h : Bk.valid zss = true ∧ Bk.ring zs = true
  · cases hr : Bk.readOk zss zs with
    | false => rw [Bk.readL_bad hr]; simp
    | true =>
      rw [Bk.readL_yes hr]
      have h1 := Bk.rd1_len (Bk.valid_full h.1) _ zs (Nat.le_refl _)
      have h2 := (Bk.ring_parts h.2).2
      omega
  · rw [Bk.readL_bad (Bk.readOk_bad h)]; simp
/-- The blocks of the first k rows. -/
def RowsB (rs : List Value) (k g : Nat) : Prop := ∃ i r, i < k ∧ rs[i]? = some r ∧ r.ownBlock = some g
set_option maxHeartbeats 2000000 in
theorem markIntSS_any (B : Nat) (A : Option Addr) (n c : Nat) (rs : List Value) (zss : List (List Int)) (q : Int) (w : World) (h : OwnM w B A n c rs zss) (hl : zss.length = n) (hn : n ≤ 1048576) (ht : tot zss ≤ 1048576) (hq : 0 ≤ q) (hq2 : q ≤ 1048576) :
    Calls Try.prog 45 #[.slice A n c, .int .i64 q] w fun e w' => e = .returned (.int .i64 (q + tot zss)) ∧ Chg (RowsB rs n) w w' := by
  have HO := Lib.hid h
  have Hl := Lib.hid hl
  have HRL : Hid (rs.length = n) := by unfold Hid; have := h.out.1; omega
  clear h hl
  go_enter Try.func45, Try.ntmps45
  go_wp2_with fail
  go_loopw [1, 5] (fun v i wr => ∃ k t : Nat, k ≤ n ∧ i = .int .i64 k ∧ v = .int .i64 (q + t) ∧ t ≤ tot zss ∧ Hid (t = tot (zss.take k)) ∧ Hid (Chg (RowsB rs k) w wr)) (fun _ i _ => n - (intOf i).toNat)
  case atStart => exact ⟨0, 0, Nat.zero_le _, rfl, by simp, Nat.zero_le _, by simp [Hid, tot], Chg.refl _ _⟩
  case round =>
    obtain ⟨k, t, hk, rfl, rfl, ht', Ht, Hc⟩ := hrel
    by_cases hlt : k < n
    · obtain ⟨r, hr⟩ : ∃ r, rs[k]? = some r := ⟨_, List.getElem?_eq_getElem (by rw [HRL.out]; exact hlt)⟩
      obtain ⟨zs, hz⟩ : ∃ zs, zss[k]? = some zs := ⟨_, List.getElem?_eq_getElem (by rw [Hl.out]; exact hlt)⟩
      have ho := HO.out.inn k r zs hr hz
      obtain ⟨A', c', rfl, _, _, _⟩ := own_form ho
      have ho' : Hid (wr.ownsRow B 3 1 (.slice A' zs.length c') zs.length (zs.map (Value.int .i64))) := Hc.out.own ho fun g hg => by
        rintro ⟨i, s, hi, hs, hsg⟩
        exact HO.out.ap2 i k s _ g hi hs hr hsg hg
      have hout : wr.ownsRow B 23 1 (.slice A n c) n rs := Hc.out.own HO.out.out fun g hg => by
        rintro ⟨i, s, hi, hs, hsg⟩
        exact HO.out.ap i s g hs hsg hg
      have hform : ∃ g, A = some ⟨g, 0, none⟩ := by
        rcases hout.2 with ⟨h', h0⟩ | ⟨g, cap, cur, h', _⟩
        · omega
        · simp only [Value.slice.injEq] at h'
          exact ⟨g, h'.1⟩
      obtain ⟨g, rfl⟩ := hform
      have hst : wr.cell? ⟨g, k, none⟩ = some (.slice A' zs.length c') := by rw [hout.cellAt k (by omega)]; exact hr
      have hlen := len_le_tot hz
      have hT := tot_take hz
      have hT2 := tot_take_le zss (k + 1)
      have Ht2 : Hid (t + zs.length = tot (zss.take (k + 1))) := by unfold Hid; rw [hT, Ht.out]
      have ht3 : t + zs.length ≤ tot zss := by have := Ht2.out; omega
      have HRK := Lib.hid hr
      clear ho hout hr hz hT hT2
      go_wp2_with fail
      refine (markIntS_any _ _ _ zs _ _ _ ho'.out (by omega) (by omega) (by omega)).mono ?_
      rintro e w2 ⟨rfl, _, hg⟩
      have Hc2 : Hid (Chg (RowsB rs (k + 1)) w w2) := by
        refine Chg.trans (S := RowsB rs (k + 1)) (Hc.out.mono fun i _ h => ?_) (Chg.of_grown hg) fun i _ h => ?_
        · obtain ⟨j, s, h1, h2, h3⟩ := h
          exact ⟨j, s, by omega, h2, h3⟩
        · exact ⟨k, _, by omega, HRK.out, h.symm⟩
      clear hg hst
      go_wp2_with fail
      go_roundw
      case rel => exact ⟨k + 1, t + zs.length, by omega, by go_num, by go_num, ht3, Ht2.out, Hc2.out⟩
      case measure => simp [intOf]; omega
    · have hkn : k = n := by omega
      subst hkn
      have HT : Hid (t = tot zss) := by
        have := Ht.out
        rw [List.take_of_length_le (by rw [Hl.out]; exact Nat.le_refl _)] at this
        exact this
      go_wp2_with fail
      go_ret
      exact ⟨ret_int (by rw [HT.out]), Hc.out⟩
end Go.Proofs.Ytpfgjkgjeejghaa
