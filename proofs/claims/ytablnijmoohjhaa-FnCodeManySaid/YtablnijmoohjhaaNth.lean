/-
  Contracts: CodeNth of the reference and of the program.
  Conditions: none (every number, every rank).
-/
import Derived.Test.YtablnijmoohjhaaCodes5
namespace Go.Proofs.Ytablnijmoohjhaa
open Go.RowKit
set_option linter.unusedVariables false

namespace Cd
/-- Whether there is a code of n beats with rank r. -/
def nthOk (n r : Int) : Bool := decide (0 ≤ r) && decide (r < many n)
/-- What CodeNth returns. -/
def nthL (n r : Int) : List Int := if nthOk n r then nth 5 n r else []
theorem many_bd (n : Int) : -1 ≤ many n ∧ many n ≤ 7776 := by
  unfold many
  split
  · omega
  · split
    · omega
    · have := M_nonneg 5 n; have := M_le 5 n (by omega); omega
theorem many_pos {n r : Int} (h0 : 0 ≤ r) (h : r < many n) : 1 ≤ n ∧ n ≤ 30 ∧ many n = M 5 n := by
  unfold many at h ⊢
  by_cases h1 : n < 0 ∨ 30 < n
  · rw [if_pos h1] at h; omega
  · rw [if_neg h1] at h ⊢
    by_cases h2 : n = 0
    · rw [if_pos h2] at h; omega
    · rw [if_neg h2]; exact ⟨by omega, by omega, rfl⟩
/-- One step of the search for the code of a rank. -/
theorem nth_step {g : Nat} {N R : Int} {q : Nat} (hN : 0 < N) (h0 : 0 ≤ R) (h1 : 1 ≤ q) (h6 : q ≤ 6) (ha : S g N (q - 1) ≤ R) (hb : R - S g N (q - 1) < M g (N - q)) :
    nth (g + 1) N R = (q : Int) :: nth g (N - q) (R - S g N (q - 1)) := by
  have e := S_step g N q h1
  have hc := cnt_unique g N R q h0 h1 h6 ha (by omega)
  rw [nth_succ g N R hN, hc]
theorem search_on {g : Nat} {N R : Int} {q : Nat} (h1 : 1 ≤ q) (h6 : q ≤ 6) (hlt : R < S g N 6) (hge : M g (N - q) ≤ R - S g N (q - 1)) : q + 1 ≤ 6 ∧ S g N q ≤ R := by
  have e := S_step g N q h1
  have hs : S g N q ≤ R := by omega
  refine ⟨?_, hs⟩
  rcases Nat.lt_or_ge q 6 with h | h
  · omega
  · have : q = 6 := by omega
    subst this; omega
theorem M_lt_pos {k : Nat} {N R : Int} (hN : 0 < N) (h0 : 0 ≤ R) (h : R < M (5 - k) N) : k ≤ 4 ∧ R < S (4 - k) N 6 := by
  have hk : k ≤ 4 := by
    rcases Nat.lt_or_ge k 5 with h5 | h5
    · omega
    · rw [show 5 - k = 0 from by omega, M_none N (by omega)] at h; omega
  refine ⟨hk, ?_⟩
  rw [show 5 - k = (4 - k) + 1 from by omega, M_step _ N hN] at h
  exact h
end Cd

set_option maxHeartbeats 4000000 in
theorem specCodeNth_any (n r : Int) (w : World) (hn1 : -9223372036854775808 ≤ n) (hn2 : n ≤ 9223372036854775807) :
    Calls Try.prog 31 #[.int .i64 n, .int .i64 r] w (RetL 3 w.heap.size (Cd.nthL n r) (Cd.nthOk n r) w) := by
  have hm := Cd.many_bd n
  obtain ⟨hm1, hm2⟩ := hm
  by_cases hok : Cd.nthOk n r = true
  · have HOK := Lib.hid hok
    have HE : Hid (Cd.nthL n r = Cd.nth 5 n r) := by unfold Hid Cd.nthL; rw [if_pos hok]
    have hr : 0 ≤ r ∧ r < Cd.many n := by simpa [Cd.nthOk] using hok
    obtain ⟨hr0, hr1⟩ := hr
    have hp := Cd.many_pos hr0 hr1
    obtain ⟨hp1, hp2, hp3⟩ := hp
    have hr2 : r < Cd.M 5 n := by omega
    have HP := Lib.hid hp3
    clear hok hp3
    obtain ⟨i0, hi, hz0, hz1, hz2⟩ := info_parts Try.infoInt
    go_enter Try.func31, Try.ntmps31
    go_wp2_with fail
    refine (specCodeMany_any _ _).mono ?_
    rintro e w1 ⟨rfl, rfl⟩
    go_wp2_with fail
    refine (l6In_yes _ _ _ _ (by omega) (by omega)).mono ?_
    rintro e w1 ⟨rfl, rfl⟩
    go_wp2_with fail
    go_loopw [0, 1, 6] (fun nn rr v wr => ∃ (k : Nat) (N R : Int) (pre : List Int), k ≤ 5 ∧ nn = .int .i64 N ∧ rr = .int .i64 R ∧ 0 ≤ N ∧ N ≤ 30 ∧ 0 ≤ R ∧ R ≤ 7776 ∧ Hid (R < Cd.M (5 - k) N) ∧ Hid (Cd.nth 5 n r = pre ++ Cd.nth (5 - k) N R) ∧
        Hid (wr.ownsRow w.heap.size 3 1 v k (pre.map (Value.int .i64))) ∧ Hid (Below w.heap.size w wr)) (fun nn _ _ _ => (intOf nn).toNat)
    case atStart => exact ⟨0, n, r, [], by omega, rfl, rfl, by omega, by omega, by omega, by omega, hr2, by simp [Hid], own_lit0 w _, (Below.refl _ _).alloc (Nat.le_refl _) _⟩
    case round =>
      obtain ⟨k, N, R, pre, hk, rfl, rfl, hN0, hN1, hR0, hR1, HM, HN, Ho, Hb⟩ := hrel
      by_cases hpos : 0 < N
      · have hk4 := (Cd.M_lt_pos hpos hR0 HM.out).1
        have HS := Lib.hid (Cd.M_lt_pos hpos hR0 HM.out).2
        obtain ⟨A2, c2, rfl, hfc⟩ := own_form Ho.out
        clear hfc
        go_wp2_with fail
        go_loop [1, 7] (fun rr j => ∃ (q : Nat) (R' : Int), 1 ≤ q ∧ q ≤ 6 ∧ j = .int .i64 q ∧ rr = .int .i64 R' ∧ Hid (R' = R - Cd.S (4 - k) N (q - 1)) ∧ 0 ≤ R' ∧ R' ≤ 7776) (fun _ j => 7 - (intOf j).toNat)
        case atStart => exact ⟨1, R, by omega, by omega, rfl, rfl, by unfold Hid; show R = R - 0; omega, by omega, by omega⟩
        case round =>
          obtain ⟨q, R', hq1, hq6, rfl, rfl, HR', hR'0, hR'1⟩ := hrel
          have hm1 := Cd.M_nonneg (4 - k) (N - q)
          have hm2 := Cd.M_le (4 - k) (N - q) (by omega)
          by_cases hge : Cd.M (4 - k) (N - q) ≤ R'
          · have hon := Cd.search_on hq1 hq6 HS.out (by rw [← HR'.out]; exact hge)
            obtain ⟨hon1, hon2⟩ := hon
            go_wp2_with fail
            refine (l1Many_any (4 - k) _ _ _ (by omega) (by omega) (by omega) (by omega)).mono ?_
            rintro e w1 ⟨rfl, rfl⟩
            go_wp2_with fail
            refine (l1Many_any (4 - k) _ _ _ (by omega) (by omega) (by omega) (by omega)).mono ?_
            rintro e w1 ⟨rfl, rfl⟩
            go_wp2_with fail
            go_round
            case rel => exact ⟨q + 1, _, by omega, by omega, by go_num, rfl, by unfold Hid; rw [HR'.out, Nat.add_sub_cancel, Cd.S_step _ N q hq1]; omega, by omega, by omega⟩
            case measure => simp [intOf]; omega
          · have hlt : R' < Cd.M (4 - k) (N - q) := by omega
            clear hge
            have HST := Lib.hid (Cd.nth_step (g := 4 - k) hpos hR0 hq1 hq6 (by have := HR'.out; omega) (by rw [← HR'.out]; exact hlt))
            have hNq : 0 ≤ N - q := Cd.M_le0 (by omega : 0 < Cd.M (4 - k) (N - q))
            have HLT := Lib.hid hlt
            have hown := Ho.out
            go_wp2_with fail
            refine (l1Many_any (4 - k) _ _ _ (by omega) (by omega) (by omega) (by omega)).mono ?_
            rintro e w1 ⟨rfl, rfl⟩
            go_wp2_with (at_builtin; refine wpList_append_own _ rfl _ _ 24 rfl w.heap.size 3 i0 (.int .i64 0) 1 8 Try.underlying24 hi hz0 hz1 hz2 rfl (by decide) _ _ _ rfl (hown.alloc _) ⟨wr.heap.size, 0, none⟩ 1 1 [.int .i64 q] rfl rfl (cell_new _ _ _) (one_cell _ rfl) ?c3 ?c4 ?c5 ?_)
            case c3 => unfold maxLen; omega
            case c4 => omega
            case c5 => have := Hb.out.size; simp; omega
            intro v2 w2 hown2 hgrow2 _
            have Ho2 := Lib.hid hown2
            have Hb2 := Lib.hid ((Hb.out.alloc Hb.out.size (.cells #[.int .i64 q] 3)).grown hgrow2 (by have := Hb.out.size; simp; omega) (fun g h => ((Ho.out).lt g h).1))
            clear hown hown2 hgrow2 hlt
            go_wp2_with fail
            go_roundw
            case rel =>
              refine ⟨k + 1, N - q, R', pre ++ [(q : Int)], by omega, rfl, rfl, by omega, by omega, by omega, by omega, ?_, ?_, ?_, Hb2.out⟩
              · unfold Hid; rw [show 5 - (k + 1) = 4 - k from by omega]; exact HLT.out
              · unfold Hid
                have h1 := HN.out
                rw [show 5 - k = (4 - k) + 1 from by omega, HST.out, ← HR'.out] at h1
                rw [h1, show 5 - (k + 1) = 4 - k from by omega]
                simp
              · unfold Hid; rw [List.map_append]; exact Ho2.out
            case measure => simp [intOf]; omega
      · have hN : N = 0 := by omega
        subst hN
        clear hpos
        obtain ⟨A2, c2, rfl, hfc⟩ := own_form Ho.out
        clear hfc
        go_wp2_with fail
        go_ret2
        refine ⟨_, k, _, by rw [HOK.out]; rfl, ?_, Hb.out⟩
        rw [HE.out, HN.out, Cd.nth_zero _ _ _ (Int.le_refl 0), List.append_nil]
        exact Ho.out
  · have HOK : Hid (Cd.nthOk n r = false) := by unfold Hid; simpa using hok
    have HE : Hid (Cd.nthL n r = []) := by unfold Hid Cd.nthL; rw [if_neg hok]
    have HR : Hid (r < 0 ∨ Cd.many n - 1 < r) := by unfold Hid; simp [Cd.nthOk] at hok; omega
    clear hok
    go_enter Try.func31, Try.ntmps31
    go_wp2_with fail
    refine (specCodeMany_any _ _).mono ?_
    rintro e w1 ⟨rfl, rfl⟩
    go_wp2_with fail
    refine (l6In_no _ _ _ _ HR.out).mono ?_
    rintro e w1 ⟨rfl, rfl⟩
    go_wp2_with fail
    go_ret2
    exact ⟨_, _, _, by rw [HOK.out]; rfl, by rw [HE.out]; exact own_lit0 w _, (Below.refl _ _).alloc (Nat.le_refl _) _⟩
set_option maxHeartbeats 4000000 in
theorem implCodeNth_any (n r : Int) (w : World) (hn1 : -9223372036854775808 ≤ n) (hn2 : n ≤ 9223372036854775807) :
    Calls Try.prog 32 #[.int .i64 n, .int .i64 r] w (RetL 3 w.heap.size (Cd.nthL n r) (Cd.nthOk n r) w) := by
  have hm := Cd.many_bd n
  obtain ⟨hm1, hm2⟩ := hm
  by_cases hok : Cd.nthOk n r = true
  · have HOK := Lib.hid hok
    have HE : Hid (Cd.nthL n r = Cd.nth 5 n r) := by unfold Hid Cd.nthL; rw [if_pos hok]
    have hr : 0 ≤ r ∧ r < Cd.many n := by simpa [Cd.nthOk] using hok
    obtain ⟨hr0, hr1⟩ := hr
    have hp := Cd.many_pos hr0 hr1
    obtain ⟨hp1, hp2, hp3⟩ := hp
    have hr2 : r < Cd.M 5 n := by omega
    have HP := Lib.hid hp3
    clear hok hp3
    obtain ⟨i0, hi, hz0, hz1, hz2⟩ := info_parts Try.infoInt
    go_enter Try.func32, Try.ntmps32
    go_wp2_with fail
    refine (implCodeMany_any _ _).mono ?_
    rintro e w1 ⟨rfl, rfl⟩
    go_wp2_with (at_make; refine wpList_make_own _ rfl _ _ 24 rfl w.heap.size 3 i0 (.int .i64 0) 1 Try.underlying24 hi hz0 hz1 _ _ _ 5 rfl rfl rfl ?b2 ?b3 ?b4 ?_)
    case b2 => rw [hz2]; omega
    case b3 => unfold maxLen; omega
    case b4 => exact Nat.le_refl _
    intro w2 hown hgrow
    have HO := Lib.hid hown
    have HB := Lib.hid ((Below.refl w.heap.size w).grown hgrow (Nat.le_refl _) (fun k h => by cases h))
    clear hown hgrow
    go_wp2_with fail
    go_loopw [1, 6, 7] (fun rr v nn wr => ∃ (k : Nat) (N R : Int) (pre : List Int), k ≤ 5 ∧ nn = .int .i64 N ∧ rr = .int .i64 R ∧ 0 ≤ N ∧ N ≤ 30 ∧ 0 ≤ R ∧ R ≤ 7776 ∧ Hid (R < Cd.M (5 - k) N) ∧ Hid (Cd.nth 5 n r = pre ++ Cd.nth (5 - k) N R) ∧
        Hid (wr.ownsRow w.heap.size 3 1 v k (pre.map (Value.int .i64))) ∧ Hid (Below w.heap.size w wr)) (fun _ _ nn _ => (intOf nn).toNat)
    case atStart => exact ⟨0, n, r, [], by omega, rfl, rfl, by omega, by omega, by omega, by omega, hr2, by simp [Hid], HO.out, HB.out⟩
    case round =>
      obtain ⟨k, N, R, pre, hk, rfl, rfl, hN0, hN1, hR0, hR1, HM, HN, Ho, Hb⟩ := hrel
      by_cases hpos : 0 < N
      · have hk4 := (Cd.M_lt_pos hpos hR0 HM.out).1
        have HS := Lib.hid (Cd.M_lt_pos hpos hR0 HM.out).2
        obtain ⟨A2, c2, rfl, hfc⟩ := own_form Ho.out
        clear hfc
        go_wp2_with fail
        go_loop [1, 8] (fun rr j => ∃ (q : Nat) (R' : Int), 1 ≤ q ∧ q ≤ 6 ∧ j = .int .i64 q ∧ rr = .int .i64 R' ∧ Hid (R' = R - Cd.S (4 - k) N (q - 1)) ∧ 0 ≤ R' ∧ R' ≤ 7776) (fun _ j => 7 - (intOf j).toNat)
        case atStart => exact ⟨1, R, by omega, by omega, rfl, rfl, by unfold Hid; show R = R - 0; omega, by omega, by omega⟩
        case round =>
          obtain ⟨q, R', hq1, hq6, rfl, rfl, HR', hR'0, hR'1⟩ := hrel
          have hm1 := Cd.M_nonneg (4 - k) (N - q)
          have hm2 := Cd.M_le (4 - k) (N - q) (by omega)
          by_cases hge : Cd.M (4 - k) (N - q) ≤ R'
          · have hon := Cd.search_on hq1 hq6 HS.out (by rw [← HR'.out]; exact hge)
            obtain ⟨hon1, hon2⟩ := hon
            go_wp2_with fail
            refine (manyCodes_any (4 - k) _ _ _ (by omega) (by omega) (by omega) (by omega)).mono ?_
            rintro e w1 ⟨rfl, rfl⟩
            go_wp2_with fail
            go_round
            case rel => exact ⟨q + 1, _, by omega, by omega, by go_num, rfl, by unfold Hid; rw [HR'.out, Nat.add_sub_cancel, Cd.S_step _ N q hq1]; omega, by omega, by omega⟩
            case measure => simp [intOf]; omega
          · have hlt : R' < Cd.M (4 - k) (N - q) := by omega
            clear hge
            have HST := Lib.hid (Cd.nth_step (g := 4 - k) hpos hR0 hq1 hq6 (by have := HR'.out; omega) (by rw [← HR'.out]; exact hlt))
            have hNq : 0 ≤ N - q := Cd.M_le0 (by omega : 0 < Cd.M (4 - k) (N - q))
            have HLT := Lib.hid hlt
            have hown := Ho.out
            go_wp2_with fail
            refine (manyCodes_any (4 - k) _ _ _ (by omega) (by omega) (by omega) (by omega)).mono ?_
            rintro e w1 ⟨rfl, rfl⟩
            go_wp2_with (at_builtin; refine wpList_append_own _ rfl _ _ 24 rfl w.heap.size 3 i0 (.int .i64 0) 1 8 Try.underlying24 hi hz0 hz1 hz2 rfl (by decide) _ _ _ rfl (hown.alloc _) ⟨wr.heap.size, 0, none⟩ 1 1 [.int .i64 q] rfl rfl (cell_new _ _ _) (one_cell _ rfl) ?c3 ?c4 ?c5 ?_)
            case c3 => unfold maxLen; omega
            case c4 => omega
            case c5 => have := Hb.out.size; simp; omega
            intro v2 w2 hown2 hgrow2 _
            have Ho2 := Lib.hid hown2
            have Hb2 := Lib.hid ((Hb.out.alloc Hb.out.size (.cells #[.int .i64 q] 3)).grown hgrow2 (by have := Hb.out.size; simp; omega) (fun g h => ((Ho.out).lt g h).1))
            clear hown hown2 hgrow2 hlt
            go_wp2_with fail
            go_roundw
            case rel =>
              refine ⟨k + 1, N - q, R', pre ++ [(q : Int)], by omega, rfl, rfl, by omega, by omega, by omega, by omega, ?_, ?_, ?_, Hb2.out⟩
              · unfold Hid; rw [show 5 - (k + 1) = 4 - k from by omega]; exact HLT.out
              · unfold Hid
                have h1 := HN.out
                rw [show 5 - k = (4 - k) + 1 from by omega, HST.out, ← HR'.out] at h1
                rw [h1, show 5 - (k + 1) = 4 - k from by omega]
                simp
              · unfold Hid; rw [List.map_append]; exact Ho2.out
            case measure => simp [intOf]; omega
      · have hN : N = 0 := by omega
        subst hN
        clear hpos
        obtain ⟨A2, c2, rfl, hfc⟩ := own_form Ho.out
        clear hfc
        go_wp2_with fail
        go_ret2
        refine ⟨_, k, _, by rw [HOK.out]; rfl, ?_, Hb.out⟩
        rw [HE.out, HN.out, Cd.nth_zero _ _ _ (Int.le_refl 0), List.append_nil]
        exact Ho.out
  · have HOK : Hid (Cd.nthOk n r = false) := by unfold Hid; simpa using hok
    have HE : Hid (Cd.nthL n r = []) := by unfold Hid Cd.nthL; rw [if_neg hok]
    have hr : r < 0 ∨ Cd.many n ≤ r := by simp [Cd.nthOk] at hok; omega
    clear hok
    by_cases h0 : r < 0
    · clear hr
      go_enter Try.func32, Try.ntmps32
      go_wp2_with fail
      go_ret2
      exact ⟨_, _, _, by rw [HOK.out]; rfl, by rw [HE.out]; exact own_lit0 w _, (Below.refl _ _).alloc (Nat.le_refl _) _⟩
    · have h1 : 0 ≤ r := by omega
      have h2 : Cd.many n ≤ r := by omega
      clear hr h0
      go_enter Try.func32, Try.ntmps32
      go_wp2_with fail
      refine (implCodeMany_any _ _).mono ?_
      rintro e w1 ⟨rfl, rfl⟩
      go_wp2_with fail
      go_ret2
      exact ⟨_, _, _, by rw [HOK.out]; rfl, by rw [HE.out]; exact own_lit0 w _, (Below.refl _ _).alloc (Nat.le_refl _) _⟩
end Go.Proofs.Ytablnijmoohjhaa
