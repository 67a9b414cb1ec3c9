/-
  Contracts: countReadings, BookReadings (the program's).
  Conditions: the book reads as a list of lists, with at most 2^20 numbers.
-/
import Derived.Test.YtpfgjkgjeejghaaReadPlain
import Derived.Test.YtpfgjkgjeejghaaMemo
namespace Go.Proofs.Ytpfgjkgjeejghaa
open Go.RowKit
open Go.Maps (Keyed int_keyed keyOf_int_mk)
set_option linter.unusedVariables false
attribute [local go_sem ↓] Go.wp_at_zero Go.wp_at_succ

theorem Try.zeroInt (w : World) : (zeroValue 3).run Try.prog w = .ok (.int .i64 0) w := by kernel_rfl
/-- A good answer: at a length, how many readings the rest of that length has. -/
def GoodR (zss : List (List Int)) (l : List Int) (key val : Value) : Prop := ∃ i : Nat, i ≤ l.length ∧ key = .int .i64 i ∧ val = .int .i64 (Bk.R zss (l.drop (l.length - i)))

set_option maxHeartbeats 8000000 in
theorem countReadings_any (zss : List (List Int)) (l : List Int) (hv : Bk.valid zss = true) (hr : Bk.ring l = true) (G : Option Addr) (k g B : Nat) (m : Nat) : ∀ (d : Nat) (s : ByteArray) (b : Nat) (w : World), d ≤ l.length → l.length - d ≤ m → s = bstr (l.drop d) →
    w.ownsRow B 64 1 (.slice G k g) k (Bk.codes zss) → (∀ a, (Value.slice G k g).ownBlock = some a → a ≠ b) → Memo w Try.prog 3 b (GoodR zss l) →
    Calls Try.prog 65 #[.slice G k g, .string s, .map (some b)] w fun e w' => e = .returned (.int .i64 (Bk.R zss (l.drop d))) ∧ Memo w' Try.prog 3 b (GoodR zss l) ∧ w.grownBy w' (some b) := by
  have HV := Lib.hid hv
  have HR := Lib.hid (Bk.ring_parts hr)
  clear hv hr
  induction m with
  | zero =>
    intro d s b w hd hm hs hown hne hmem
    have hs0 : s = ⟨#[]⟩ := by rw [hs, List.drop_of_length_le (by omega)]; rfl
    have HE : Hid (Bk.R zss (l.drop d) = 1) := by unfold Hid; rw [List.drop_of_length_le (by omega)]; exact Bk.R_nil _
    have HM := Lib.hid hmem
    subst hs0
    clear hs hown hne hmem hm
    go_enter Try.func65, Try.ntmps65
    go_wp2_with fail
    go_ret
    exact ⟨ret_int HE.out.symm, HM.out, World.grownBy.refl _ _⟩
  | succ m ih =>
    intro d s b w hd hm hs hown hne hmem
    have IH := Lib.hid ih
    have HM := Lib.hid hmem
    have HO := Lib.hid hown
    have HN := Lib.hid hne
    have hsz : s.size = l.length - d := by rw [hs, bstr_size, List.length_drop]
    have hl20 := HR.out.2
    clear ih hown hne hmem
    by_cases hz : l.length - d = 0
    · have hs0 : s = ⟨#[]⟩ := by rw [hs, List.drop_of_length_le (by omega)]; rfl
      have HE : Hid (Bk.R zss (l.drop d) = 1) := by unfold Hid; rw [List.drop_of_length_le (by omega)]; exact Bk.R_nil _
      subst hs0
      clear hs hm hz hsz
      go_enter Try.func65, Try.ntmps65
      go_wp2_with fail
      go_ret
      exact ⟨ret_int HE.out.symm, HM.out, World.grownBy.refl _ _⟩
    · have HS := Lib.hid hs
      have HSZ := Lib.hid hsz
      have hb0 : ((s.size : Int) == 0) = false := by rw [beq_eq_false_iff_ne]; omega
      have hs20 : s.size ≤ 20 := by omega
      have hkey : keyOf Try.prog 3 (.int .i64 (s.size : Int)) = some (.int .i64 (s.size : Int)) := keyOf_int_mk Try.underlying3 (WalkArith.wf_i64 (by omega))
      have HKEY := Lib.hid hkey
      have HP : Hid (0 < l.length - d) := by unfold Hid; omega
      clear hs hsz hz hkey
      rcases HM.out.look (int_keyed Try.underlying3) Try.underlying72 (Try.zeroInt w) HKEY.out with hrun | ⟨v, hrun, hgood⟩
      · obtain ⟨hk, _⟩ := codes_at HO.out HV.out
        have HK := Lib.hid hk
        have hk10 : k ≤ 10 := by have := (Bk.valid_parts HV.out).2; omega
        clear hk
        have HRS : Hid (Bk.R zss (l.drop d) = Bk.psum zss (l.drop d) (Bk.R zss) k) := by
          unfold Hid
          rw [Bk.R_step (Bk.valid_full HV.out) (by intro e; have h1 : (l.drop d).length = 0 := by rw [e]; rfl
                                                   rw [List.length_drop] at h1; have := HP.out; omega), HK.out]
        go_enter Try.func65, Try.ntmps65
        go_wp2_with fail
        clear hrun
        go_loopw [9, 26] (fun v i wr => ∃ (q : Nat) (t : Int), q ≤ k ∧ i = .int .i64 q ∧ v = .int .i64 t ∧ Hid (t = Bk.psum zss (l.drop d) (Bk.R zss) q) ∧ Hid (Memo wr Try.prog 3 b (GoodR zss l)) ∧ Hid (w.grownBy wr (some b))) (fun _ i _ => k - (intOf i).toNat)
        case atStart => exact ⟨0, 0, Nat.zero_le _, rfl, rfl, rfl, HM.out, World.grownBy.refl _ _⟩
        case round =>
          obtain ⟨q, t, hq, rfl, rfl, Ht, Hm, Hg⟩ := hrel
          have hld : (l.drop d).length ≤ 20 := by rw [List.length_drop]; omega
          obtain ⟨ht0, ht1⟩ : 0 ≤ t ∧ t ≤ 500000000000000 := by rw [Ht.out]; exact Bk.psum_small HV.out hld (by rw [← HK.out]; exact hq)
          have HO2 : Hid (wr.ownsRow B 64 1 (.slice G k g) k (Bk.codes zss)) := own_kept HO.out Hg.out (fun a r e1 e2 => by cases e2; exact HN.out a e1)
          by_cases hlt : q < k
          · obtain ⟨c, hc⟩ : ∃ c, zss[q]? = some c := ⟨_, List.getElem?_eq_getElem (by rw [← HK.out]; omega)⟩
            obtain ⟨a0, rfl, hcell0⟩ := (codes_at HO2.out HV.out).2 q c hc
            have HC := Lib.hid hc
            have hcv := Cd.valid_grp (Bk.valid_at HV.out hc).1
            obtain ⟨cS, hcS⟩ : ∃ cS, cS = bstr c := ⟨_, rfl⟩
            have hcell : wr.cell? ⟨a0, q, none⟩ = some (.string cS) := by rw [hcS]; exact hcell0
            have hcz : cS.size = c.length := by rw [hcS, bstr_size]
            have HPRE : Hid (Cd.pre cS s = Bk.pre c (l.drop d)) := by unfold Hid; rw [hcS, HS.out]; exact Bk.pre_bstr hcv.1 (Bk.grp_drop HR.out.1 d)
            have HCZ := Lib.hid hcz
            have HCV := Lib.hid hcv
            clear hc hcv hcell0 hcS hcz
            go_wp2_with fail
            refine (stands_any _ _ _ (by omega)).mono ?_
            rintro e w1 ⟨rfl, rfl⟩
            rw [HPRE.out]
            cases hp : Bk.pre c (l.drop d) with
            | false =>
              have HT : Hid (t = Bk.psum zss (l.drop d) (Bk.R zss) (q + 1)) := by unfold Hid; rw [Bk.psum_no HC.out hp]; exact Ht.out
              clear hp
              go_wp2_with fail
              go_roundw
              case rel => exact ⟨q + 1, t, by omega, by go_num, rfl, HT.out, Hm.out, Hg.out⟩
              case measure => simp [intOf]; omega
            | true =>
              have hle := Bk.pre_len hp
              rw [List.length_drop] at hle
              have hle2 : cS.size ≤ s.size := by have := HCZ.out; have := HSZ.out; omega
              have HT : Hid (Bk.psum zss (l.drop d) (Bk.R zss) (q + 1) = t + Bk.R zss (l.drop (d + c.length))) := by
                unfold Hid; rw [Bk.psum_yes HC.out hp, ← Ht.out, List.drop_drop]
              obtain ⟨hr0, hr1⟩ := Bk.R_small HV.out (l := l.drop (d + c.length)) (by rw [List.length_drop]; omega)
              have HLE := Lib.hid hle
              have HDR : Hid (s.extract cS.size s.size = bstr (l.drop (d + c.length))) := by
                unfold Hid; rw [HS.out, Bk.bstr_drop, HCZ.out, List.drop_drop]
              clear hp hle
              go_wp2_with fail
              refine (IH.out (d + c.length) _ b _ (by have := HLE.out; have := HP.out; omega) (by have := HLE.out; have := HCV.out.2.1; have := HP.out; omega) HDR.out HO2.out HN.out Hm.out).mono ?_
              rintro e w2 ⟨rfl, hm2, hg2⟩
              have Hm2 := Lib.hid hm2
              have Hg2 := Lib.hid (grown_seq Hg.out hg2)
              clear hm2 hg2
              go_wp2_with fail
              go_roundw
              case rel => exact ⟨q + 1, _, by omega, by go_num, rfl, HT.out.symm, Hm2.out, Hg2.out⟩
              case measure => simp [intOf]; omega
          · have hqn : q = k := by omega
            subst hqn
            have HE : Hid (Bk.R zss (l.drop d) = t) := by unfold Hid; rw [HRS.out, Ht.out]
            have hgood : GoodR zss l (.int .i64 (s.size : Int)) (.int .i64 t) := ⟨s.size, by have := HSZ.out; omega, rfl, by rw [HSZ.out, show l.length - (l.length - d) = d by omega, HE.out]⟩
            have HGD := Lib.hid hgood
            clear hgood
            have hmem := Hm.out
            go_wp2_with (at_mapUpdate; refine wpList_update_memo _ rfl _ _ _ 72 rfl 3 3 (int_keyed Try.underlying3) Try.underlying72 b _ rfl hmem _ _ _ rfl rfl HKEY.out HGD.out ?_; intro w3 hm3 hg3)
            have Hm3 := Lib.hid hm3
            have Hg3 := Lib.hid (grown_seq Hg.out hg3)
            clear hm3 hg3 hmem
            go_wp2_with fail
            go_ret
            exact ⟨ret_int HE.out.symm, Hm3.out, Hg3.out⟩
      · obtain ⟨i, hi, hki, rfl⟩ := hgood
        have hii : i = s.size := by simp at hki; omega
        have HE : Hid (l.drop (l.length - i) = l.drop d) := by unfold Hid; rw [hii, HSZ.out, show l.length - (l.length - d) = d by omega]
        clear hki hii
        rw [HE.out] at hrun
        go_enter Try.func65, Try.ntmps65
        go_wp2_with fail
        go_ret
        exact ⟨rfl, HM.out, World.grownBy.refl _ _⟩
end Go.Proofs.Ytpfgjkgjeejghaa
