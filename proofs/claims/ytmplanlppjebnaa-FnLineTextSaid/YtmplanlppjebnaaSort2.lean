/-
  Contract of the library's rotateCmpFunc on a row of moves.
  Conditions: a row of the call's own, of at most 2^20 moves.
-/
import Derived.Test.YtmplanlppjebnaaSort1
namespace Go.Proofs.Ytmplanlppjebnaa
open Go.RowKit
set_option linter.unusedVariables false
attribute [local go_sem ↓] Go.wp_at_zero Go.wp_at_succ

set_option maxRecDepth 100000 in
set_option maxHeartbeats 8000000 in
theorem rotate_any (base g n c a m b : Nat) (xs : List Mv) (F : Value) (w : World) (ho : w.ownsRow base 28 2 (.slice (some ⟨g, 0, none⟩) n c) n (flat xs)) (ham : a < m) (hmb : m < b) (hb : b ≤ n) (hn : n ≤ 1048576) :
    Calls Try.prog 59 #[.slice (some ⟨g, 0, none⟩) n c, .int .i64 a, .int .i64 m, .int .i64 b, F] w fun e w' => e = .returned (.tuple #[]) ∧ ∃ ys, So.Rot a m b xs ys ∧ SW w w' base g n c ys := by
  have HO := Lib.hid ho
  clear ho
  have w0 : IntKind.i64.wrap ((m : Int) - a) = ((m - a : Nat) : Int) := by rw [show (m : Int) - a = ((m - a : Nat) : Int) by omega]; exact IntWalk.i64_in _ (by omega)
  have w00 : IntKind.i64.wrap ((b : Int) - m) = ((b - m : Nat) : Int) := by rw [show (b : Int) - m = ((b - m : Nat) : Int) by omega]; exact IntWalk.i64_in _ (by omega)
  go_enter Try.func59, Try.ntmps59
  go_wp2_with fail
  clear w0 w00
  go_loopw [10, 11] (fun u v wr => ∃ i j : Nat, 0 < i ∧ 0 < j ∧ i ≤ m ∧ m + j ≤ n ∧ u = .int .i64 i ∧ v = .int .i64 j ∧ Hid (∃ zs, (∀ ys, So.Rot (m - i) m (m + j) zs ys → So.Rot a m b xs ys) ∧ SW w wr base g n c zs)) (fun u v _ => (intOf u).toNat + (intOf v).toNat)
  case atStart => exact ⟨m - a, b - m, by omega, by omega, by omega, by omega, rfl, rfl, xs, fun ys h => by rw [show m - (m - a) = a by omega, show m + (b - m) = b by omega] at h; exact h, SW.refl HO.out⟩
  case round =>
    obtain ⟨i, j, hi0, hj0, him, hjn, rfl, rfl, Hs⟩ := hrel
    obtain ⟨zs, hR, hS⟩ := Hs.out
    clear Hs
    have HR := Lib.hid hR
    have HS := Lib.hid hS
    clear hR hS
    have w1 : IntKind.i64.wrap ((m : Int) - i) = ((m - i : Nat) : Int) := by rw [show (m : Int) - i = ((m - i : Nat) : Int) by omega]; exact IntWalk.i64_in _ (by omega)
    by_cases hij : i = j
    · subst hij
      have hb1 : ((i : Int) != (i : Int)) = false := by simp
      go_wp2_with fail
      refine (swapRange_any base g n c (m - i) m i zs _ _ HS.out.own (by omega) (by omega) hn).mono ?_
      rintro e w2 ⟨rfl, ys, hsw, hS2⟩
      have HF := Lib.hid (And.intro (HR.out ys (So.rot_end him hsw)) (HS.out.seq hS2))
      clear hsw hS2
      go_wp2_with fail
      go_end0
      exact ⟨rfl, ys, HF.out.1, HF.out.2⟩
    · have hb1 : ((i : Int) != (j : Int)) = true := by simp; omega
      by_cases hlt : j < i
      · have w2 : IntKind.i64.wrap ((i : Int) - j) = ((i - j : Nat) : Int) := by rw [show (i : Int) - j = ((i - j : Nat) : Int) by omega]; exact IntWalk.i64_in _ (by omega)
        have hd : (j : Int) < i := by omega
        clear hij
        go_wp2_with fail
        refine (swapRange_any base g n c (m - i) m j zs _ _ HS.out.own (by omega) (by omega) hn).mono ?_
        rintro e w3 ⟨rfl, ys, hsw, hS2⟩
        have HF : Hid ((∀ us, So.Rot (m - (i - j)) m (m + j) ys us → So.Rot a m b xs us) ∧ SW w w3 base g n c ys) := ⟨fun us hu => HR.out us (So.rot_left him hlt hsw hu), HS.out.seq hS2⟩
        clear hsw hS2
        go_wp2_with fail
        go_roundw
        case rel => exact ⟨i - j, j, by omega, hj0, by omega, hjn, rfl, rfl, ys, HF.out.1, HF.out.2⟩
        case measure => simp [intOf]; omega
      · have w2 : IntKind.i64.wrap ((j : Int) - i) = ((j - i : Nat) : Int) := by rw [show (j : Int) - i = ((j - i : Nat) : Int) by omega]; exact IntWalk.i64_in _ (by omega)
        have w3 : IntKind.i64.wrap ((m : Int) + j) = (m : Int) + j := IntWalk.i64_in _ (by omega)
        have w4 : IntKind.i64.wrap ((m : Int) + j - i) = ((m + j - i : Nat) : Int) := by rw [show (m : Int) + j - i = ((m + j - i : Nat) : Int) by omega]; exact IntWalk.i64_in _ (by omega)
        have hd : ¬ (j : Int) < i := by omega
        have hji : i < j := by omega
        clear hij hlt
        go_wp2_with fail
        refine (swapRange_any base g n c (m - i) (m + j - i) i zs _ _ HS.out.own (by omega) (by omega) hn).mono ?_
        rintro e w5 ⟨rfl, ys, hsw, hS2⟩
        have HF : Hid ((∀ us, So.Rot (m - i) m (m + (j - i)) ys us → So.Rot a m b xs us) ∧ SW w w5 base g n c ys) := ⟨fun us hu => HR.out us (So.rot_right him hji hsw hu), HS.out.seq hS2⟩
        clear hsw hS2
        go_wp2_with fail
        go_roundw
        case rel => exact ⟨i, j - i, hi0, by omega, him, by omega, rfl, rfl, ys, HF.out.1, HF.out.2⟩
        case measure => simp [intOf]; omega
end Go.Proofs.Ytmplanlppjebnaa
