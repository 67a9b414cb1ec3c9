/-
  Contract of the reference's LineValid: it answers at every line that reads as blocks and trains.
  Conditions: at most five blocks and five trains.
-/
import Derived.Test.YtmplanlppjebnaaDl2
namespace Go.Proofs.Ytmplanlppjebnaa
open Go.RowKit
set_option linter.unusedVariables false
set_option linter.unusedSimpArgs false
attribute [local go_sem ↓] Go.wp_at_zero Go.wp_at_succ

theorem below_trans0 {w W w' : World} (h : Below w.heap.size w W) (k : Below W.heap.size W w') : Below w.heap.size w w' := below_seq h k
set_option maxRecDepth 100000 in
set_option maxHeartbeats 4000000 in
theorem specLineValid_any (A : Option Addr) (n c : Nat) (B : Option Addr) (m d : Nat) (xs : List B3) (zs : List Int) (w : World) (hx : RdW w A n xs) (hz : RdI w B m zs) (hn : n ≤ 5) (hm : m ≤ 5) :
    Calls Try.prog 51 #[liv A n c B m d] w fun e w' => ∃ b : Bool, e = .returned (.bool b) ∧ (b = true → 1 ≤ n) ∧ Below w.heap.size w w' := by
  have HB0 : Hid (Below w.heap.size w (w.alloc (.cells #[.slice A n c, .slice B m d] 38))) := (Below.refl w.heap.size w).alloc (Nat.le_refl _) _
  have HX := Lib.hid (RdW.below hx HB0.out)
  have HZ := Lib.hid (RdI.below hz HB0.out)
  have HR0 := Lib.hid (RmL.new w (.slice A n c) (.slice B m d) 38)
  clear hx hz
  by_cases h1 : 1 ≤ n
  · go_enter Try.func51, Try.ntmps51
    go_wp2_with fail
    refine (l6In_yes _ _ _ _ (by omega) (by omega)).mono ?_
    rintro e w1 ⟨rfl, rfl⟩
    go_wp2_with fail
    generalize w.alloc (.cells #[.slice A n c, .slice B m d] 38) = W at HB0 HX HZ HR0 ⊢
    go_loopw [4] (fun i wr => ∃ k : Nat, k ≤ m ∧ i = .int .i64 k ∧ Hid (∃ s, wr = W.drewN s)) (fun i _ => m - (intOf i).toNat)
    case atStart => exact ⟨0, Nat.zero_le _, rfl, ⟨0, rfl⟩⟩
    case round =>
      obtain ⟨k, hk, rfl, HS⟩ := hrel
      have r0 : wr.cell? ⟨w.heap.size, 0, none⟩ = some (.slice A n c) := by obtain ⟨s, rfl⟩ := HS.out; exact HR0.out.1
      have r1 : wr.cell? ⟨w.heap.size, 1, none⟩ = some (.slice B m d) := by obtain ⟨s, rfl⟩ := HS.out; exact HR0.out.2
      have HBr : Hid (Below w.heap.size w wr) := by obtain ⟨s, rfl⟩ := HS.out; exact below_drewN HB0.out _
      by_cases hlt : k < m
      · obtain ⟨b, off, z, rfl, hzk, hcz'⟩ := HZ.out.at_ hlt
        have hcz : wr.cell? ⟨b, off + k, none⟩ = some (.int .i64 z) := by obtain ⟨s, rfl⟩ := HS.out; exact hcz'
        clear hcz' hzk
        by_cases t1 : 0 ≤ z ∧ z ≤ 2 * (n : Int)
        · obtain ⟨t2, t3⟩ := t1
          by_cases hk0 : 0 < k
          · obtain ⟨b', off', y, hbo, hyk, hcy'⟩ := HZ.out.at_ (show k - 1 < m by omega)
            simp only [Option.some.injEq, Addr.mk.injEq, and_true] at hbo
            obtain ⟨rfl, rfl⟩ := hbo
            have hcy : wr.cell? ⟨b, off + (k - 1), none⟩ = some (.int .i64 y) := by obtain ⟨s, rfl⟩ := HS.out; exact hcy'
            clear hcy' hyk
            have d1 : decide ((0 : Int) < (k : Int)) = true := decide_eq_true (by omega)
            by_cases hzy : y < z
            · have d2 : decide (y < z) = true := decide_eq_true hzy
              go_wp2_with fail
              go_quiet (first | (go_at_call_of 36 z; refine Calls.quiet_of_same (l6In_yesQ z 0 (2 * (n : Int)) _ t2 t3)))
              go_wp2_with fail
              go_ret
              exact ⟨false, rfl, by simp, by first | exact HBr.out | exact below_drewN HBr.out _⟩
            · have d2 : decide (y < z) = false := decide_eq_false hzy
              go_wp2_with fail
              go_quiet (first | (go_at_call_of 36 z; refine Calls.quiet_of_same (l6In_yesQ z 0 (2 * (n : Int)) _ t2 t3)))
              go_wp2_with fail
              go_roundw
              case rel => exact ⟨k + 1, by omega, by go_num, by obtain ⟨s, rfl⟩ := HS.out; first | exact ⟨_, rfl⟩ | exact ex_drew _ _ _⟩
              case measure => simp [intOf]; omega
          · have d1 : decide ((0 : Int) < (k : Int)) = false := decide_eq_false (by omega)
            go_wp2_with fail
            go_quiet (first | (go_at_call_of 36 z; refine Calls.quiet_of_same (l6In_yesQ z 0 (2 * (n : Int)) _ t2 t3)))
            go_wp2_with fail
            go_roundw
            case rel => exact ⟨k + 1, by omega, by go_num, by obtain ⟨s, rfl⟩ := HS.out; first | exact ⟨_, rfl⟩ | exact ex_drew _ _ _⟩
            case measure => simp [intOf]; omega
        · have t2 : z < 0 ∨ 2 * (n : Int) < z := by omega
          go_wp2_with fail
          go_quiet (first | (go_at_call_of 36 z; refine Calls.quiet_of_same (l6In_noQ z 0 (2 * (n : Int)) _ t2)))
          go_wp2_with fail
          go_ret
          exact ⟨false, rfl, by simp, by first | exact HBr.out | exact below_drewN HBr.out _⟩
      · have HBW : Hid (Below W.heap.size W wr) := by obtain ⟨s, rfl⟩ := HS.out; exact below_of_drewN _ _ _
        go_wp2_with fail
        clear r0 r1 HBr HS hlt hk
        go_loopw [5] (fun i w2 => ∃ q : Nat, q ≤ n ∧ i = .int .i64 q ∧ Hid (Below W.heap.size W w2)) (fun i _ => n - (intOf i).toNat)
        case atStart => exact ⟨0, Nat.zero_le _, rfl, HBW.out⟩
        case round =>
          clear HBW
          obtain ⟨q, hq, rfl, HB2⟩ := hrel
          by_cases hlt : q < n
          · go_wp2_with fail
            go_loopw [6, 7] (fun cv i w3 => ∃ j t : Nat, j ≤ m ∧ t ≤ j ∧ i = .int .i64 j ∧ cv = .int .i64 t ∧ Hid (Below W.heap.size W w3)) (fun _ i _ => m - (intOf i).toNat)
            case atStart => exact ⟨0, 0, Nat.zero_le _, Nat.zero_le _, rfl, rfl, HB2.out⟩
            case round =>
              clear HB2
              obtain ⟨j, t, hj, htj, rfl, rfl, HB3⟩ := hrel
              have R3 := HR0.out.below HB3.out
              obtain ⟨r0, r1⟩ := R3
              by_cases hlj : j < m
              · obtain ⟨b, off, z, rfl, hzk, hcz'⟩ := (HZ.out.below HB3.out).at_ hlj
                by_cases he : z = 2 * (q : Int) + 1
                · have hb : (z == 2 * (q : Int) + 1) = true := by simpa using he
                  clear he hzk
                  go_wp2_with fail
                  go_roundw
                  case rel => exact ⟨j + 1, t + 1, by omega, by omega, by go_num, by go_num, HB3.out⟩
                  case measure => simp [intOf]; omega
                · have hb : (z == 2 * (q : Int) + 1) = false := by simpa using he
                  clear he hzk
                  go_wp2_with fail
                  go_roundw
                  case rel => exact ⟨j + 1, t, by omega, by omega, by go_num, rfl, HB3.out⟩
                  case measure => simp [intOf]; omega
              · obtain ⟨b, off, p, rfl, hp, c0, c1, c2⟩ := (HX.out.below HB3.out).at_ hlt
                obtain ⟨pn, pi, po⟩ := p
                simp only at c0 c1 c2
                have htm : t ≤ 5 := by omega
                clear hp
                go_wp2_with fail
                refine (specBlockPossible_any _ _ _ _).mono ?_
                rintro e w4 ⟨rfl, hb4⟩
                have HB4 := Lib.hid (below_seq HB3.out hb4)
                have R4 := HR0.out.below HB4.out
                have x1 := (hb4.cell (block_lt_of_cell c1)).trans c1
                clear hb4 HB3 r0 r1 c0 c1 c2
                obtain ⟨r0, r1⟩ := R4
                cases Bk.possible pn pi po
                · go_wp2_with fail
                  go_ret
                  exact ⟨false, rfl, by simp, below_trans0 HB0.out HB4.out⟩
                · by_cases ht1 : 1 < t
                  · have d1 : decide ((1 : Int) < (t : Int)) = true := decide_eq_true (by omega)
                    go_wp2_with fail
                    go_ret
                    exact ⟨false, rfl, by simp, below_trans0 HB0.out HB4.out⟩
                  · have d1 : decide ((1 : Int) < (t : Int)) = false := decide_eq_false (by omega)
                    have hd2 : ∃ e : Bool, ((t : Int) == 1) = e := ⟨_, rfl⟩
                    obtain ⟨e, he⟩ := hd2
                    cases e <;> cases pi
                    all_goals go_wp2_with fail
                    all_goals first
                      | (go_ret; exact ⟨false, rfl, by simp, below_trans0 HB0.out HB4.out⟩)
                      | (go_roundw
                         case rel => exact ⟨q + 1, by omega, by go_num, HB4.out⟩
                         case measure => simp [intOf]; omega)
          · go_wp2_with fail
            go_ret
            exact ⟨true, rfl, fun _ => h1, below_trans0 HB0.out HB2.out⟩
  · obtain rfl : n = 0 := by omega
    clear h1 hn
    go_enter Try.func51, Try.ntmps51
    go_wp2_with fail
    refine (l6In_no _ _ _ _ (.inl (by omega))).mono ?_
    rintro e w1 ⟨rfl, rfl⟩
    go_wp2_with fail
    go_ret
    exact ⟨false, rfl, by simp, HB0.out⟩
end Go.Proofs.Ytmplanlppjebnaa
