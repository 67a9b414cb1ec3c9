/-
  Contracts of the library's stableCmpFunc and SortStableFunc on a row of moves with the program's comparison; of the program's LineOrder.
  Conditions: at most 2^20 moves.
-/
import Derived.Test.YtmplanlppjebnaaSort5
namespace Go.Proofs.Ytmplanlppjebnaa
open Go.RowKit
set_option linter.unusedVariables false
set_option linter.unusedSimpArgs false
attribute [local go_sem ↓] Go.wp_at_zero Go.wp_at_succ

namespace So
theorem Seg.cap {xs : List Mv} {lo n hi : Nat} (h : Seg xs lo n) (hn : xs.length ≤ n) : Seg xs lo hi := by
  intro i j p q h1 h2 h3 hp hq
  have : j < xs.length := (List.getElem?_eq_some_iff.1 hq).1
  exact h i j p q h1 h2 (by omega) hp hq
theorem Seg.none_ {xs : List Mv} {lo hi : Nat} (h : xs.length ≤ lo) : Seg xs lo hi := by
  intro i j p q h1 h2 h3 hp hq
  have : i < xs.length := (List.getElem?_eq_some_iff.1 hp).1
  omega
theorem out_all {xs ys : List Mv} {n : Nat} (h : Stab xs ys) (hn : xs.length ≤ n) : Out 0 n xs ys := by
  intro j hj
  rw [List.getElem?_eq_none (l := ys) (by rw [h.1]; omega), List.getElem?_eq_none (l := xs) (by omega)]
/-- All blocks of b moves are sorted. -/
def Blocks (b : Nat) (xs : List Mv) : Prop := ∀ p, Seg xs (p * b) (p * b + b)
end So
/-- The blocks up to the q-th are sorted. -/
def BlkS (w W : World) (base g n c b q : Nat) (xs : List Mv) : Prop := ∃ ys, So.Stab xs ys ∧ (∀ p, p < q → So.Seg ys (p * b) (p * b + b)) ∧ SW w W base g n c ys
/-- The pairs of blocks up to the q-th are sorted, the blocks behind them each. -/
def PairS (w W : World) (base g n c b q : Nat) (xs : List Mv) : Prop := ∃ ys, So.Stab xs ys ∧ (∀ p, p < q → So.Seg ys (p * (2 * b)) (p * (2 * b) + 2 * b)) ∧ (∀ p, 2 * q ≤ p → So.Seg ys (p * b) (p * b + b)) ∧ SW w W base g n c ys
theorem mul_two (q b : Nat) : 2 * q * b = q * (2 * b) := by rw [Nat.mul_comm 2 q, Nat.mul_assoc]
theorem mul_step {p q b : Nat} (h : p < q) : p * b + b ≤ q * b := by
  have := Nat.mul_le_mul_right b (show p + 1 ≤ q from h)
  rwa [Nat.add_mul, Nat.one_mul] at this
set_option maxRecDepth 100000 in
set_option maxHeartbeats 16000000 in
theorem stable_any (base g n c : Nat) (xs : List Mv) (w : World) (ho : w.ownsRow base 28 2 (.slice (some ⟨g, 0, none⟩) n c) n (flat xs)) (hn : n ≤ 1048576) :
    Calls Try.prog 47 #[.slice (some ⟨g, 0, none⟩) n c, .int .i64 n, cmpF] w fun e w' => e = .returned (.tuple #[]) ∧ SrtS w w' base g n c 0 n n xs := by
  have HO := Lib.hid ho
  have hxl : xs.length = n := by have := ho.1; rw [flat_len] at this; omega
  have HXL := Lib.hid hxl
  clear ho hxl
  go_enter Try.func47, Try.ntmps47
  go_wp2_with fail
  go_loopw [7, 8] (fun u v wr => ∃ A q : Nat, u = .int .i64 A ∧ v = .int .i64 ((A : Int) + 20) ∧ A ≤ n ∧ Hid (A = q * 20) ∧ Hid (BlkS w wr base g n c 20 q xs)) (fun u _ _ => n + 1 - (intOf u).toNat)
  case atStart => exact ⟨0, 0, rfl, by go_num, Nat.zero_le _, rfl, xs, So.Stab.refl _, fun p h => by omega, SW.refl HO.out⟩
  case round =>
    obtain ⟨A, q, rfl, rfl, hAn, HA, Hs⟩ := hrel
    obtain ⟨ys, h1, h2, h3⟩ := Hs.out
    have HS := Lib.hid h3
    have HY := Lib.hid (And.intro h1 h2)
    clear h1 h2 h3 Hs
    by_cases hlt : (A : Int) + 20 ≤ n
    · have w1 : IntKind.i64.wrap ((A : Int) + 20 + 20) = (A : Int) + 20 + 20 := IntWalk.i64_in _ (by omega)
      have HI := Lib.hid (insertion_any base g n c A (A + 20) ys wr HS.out.own (by omega) (by omega) hn)
      have e1 : (((A + 20 : Nat)) : Int) = (A : Int) + 20 := by omega
      rw [e1] at HI
      clear e1
      go_wp2_with fail
      refine HI.out.mono ?_
      rintro e w2 ⟨rfl, zs, k1, k2, k3, k4⟩
      have HN : Hid (BlkS w w2 base g n c 20 (q + 1) xs) := ⟨zs, HY.out.1.trans k1, fun p hp => by
        by_cases hpq : p = q
        · subst hpq; rw [← HA.out]; exact k3
        · have h5 := mul_step (b := 20) (show p < q by omega)
          exact (HY.out.2 p (by omega)).out k2 (.inl (by rw [HA.out]; exact h5)), HS.out.seq k4⟩
      clear k1 k2 k3 k4 HI
      go_wp2_with fail
      go_roundw
      case rel => exact ⟨A + 20, q + 1, by go_num, by go_num, by omega, by unfold Hid; rw [HA.out]; omega, HN⟩
      case measure => simp [intOf]; omega
    · have HI := Lib.hid (insertion_any base g n c A n ys wr HS.out.own hAn (Nat.le_refl _) hn)
      go_wp2_with fail
      refine HI.out.mono ?_
      rintro e w2 ⟨rfl, zs, k1, k2, k3, k4⟩
      have HN : Hid (∃ ys, So.Stab xs ys ∧ So.Blocks 20 ys ∧ SW w w2 base g n c ys) := ⟨zs, HY.out.1.trans k1, fun p => by
        have hzl : zs.length = n := k4.len
        rcases Nat.lt_trichotomy p q with hp | hp | hp
        · have h5 := mul_step (b := 20) hp
          exact (HY.out.2 p hp).out k2 (.inl (by rw [HA.out]; exact h5))
        · subst hp; rw [← HA.out]; exact k3.cap (by omega)
        · have h5 := mul_step (b := 20) hp
          exact So.Seg.none_ (by have := HA.out; omega), HS.out.seq k4⟩
      clear k1 k2 k3 k4 HI HS HY HA hlt hAn
      go_wp2_with fail
      obtain ⟨wo, rfl⟩ : ∃ wo : World, wo = w2 := ⟨_, rfl⟩
      go_loopw [6] (fun u wr => ∃ b : Nat, u = .int .i64 b ∧ 20 ≤ b ∧ b ≤ 2 * n + 20 ∧ Hid (∃ ys, So.Stab xs ys ∧ So.Blocks b ys ∧ SW w wr base g n c ys)) (fun u _ => 2 * n + 21 - (intOf u).toNat)
      case atStart => exact ⟨20, by go_num, Nat.le_refl _, by omega, HN⟩
      case round =>
        clear HN
        obtain ⟨b, rfl, hb0, hb1, Hb⟩ := hrel
        obtain ⟨ys, h1, h2, h3⟩ := Hb.out
        by_cases hlb : b < n
        · have HP : Hid (PairS w wr base g n c b 0 xs) := ⟨ys, h1, fun p hp => by omega, fun p _ => h2 p, h3⟩
          have w1 : IntKind.i64.wrap (2 * (b : Int)) = 2 * (b : Int) := IntWalk.i64_in _ (by omega)
          clear h1 h2 h3 Hb
          go_wp2_with fail
          obtain ⟨wo2, rfl⟩ : ∃ wo2 : World, wo2 = wr := ⟨_, rfl⟩
          go_loopw [7, 8] (fun u v wr => ∃ A q : Nat, u = .int .i64 A ∧ v = .int .i64 ((A : Int) + 2 * b) ∧ A ≤ n ∧ Hid (A = q * (2 * b)) ∧ Hid (PairS w wr base g n c b q xs)) (fun u _ _ => n + 1 - (intOf u).toNat)
          case atStart => exact ⟨0, 0, rfl, by go_num, Nat.zero_le _, by simp [Hid], HP⟩
          case round =>
            clear HP
            obtain ⟨A, q, rfl, rfl, hAn, HA, Hs⟩ := hrel
            obtain ⟨ys, h1, h2, h3, h4⟩ := Hs.out
            have HS := Lib.hid h4
            have HY := Lib.hid (And.intro h1 (And.intro h2 h3))
            have hA1 : So.Seg ys A (A + b) := by have := h3 (2 * q) (Nat.le_refl _); rw [mul_two, ← HA.out] at this; exact this
            have hA2 : So.Seg ys (A + b) (A + 2 * b) := by
              have := h3 (2 * q + 1) (by omega)
              rw [Nat.add_mul, Nat.one_mul, mul_two, ← HA.out] at this
              exact this.mono (Nat.le_refl _) (by omega)
            have HA1 := Lib.hid hA1
            have HA2 := Lib.hid hA2
            clear h1 h2 h3 h4 Hs hA1 hA2
            by_cases hlt : (A : Int) + 2 * b ≤ n
            · have w3 : IntKind.i64.wrap ((A : Int) + b) = (A : Int) + b := IntWalk.i64_in _ (by omega)
              have w4 : IntKind.i64.wrap ((A : Int) + 2 * b + 2 * b) = (A : Int) + 2 * b + 2 * b := IntWalk.i64_in _ (by omega)
              have HI := Lib.hid (symMerge_any base g n c hn n A (A + b) (A + 2 * b) ys wr (by omega) (by omega) (by omega) (by omega) HS.out.own HA1.out HA2.out)
              have e1 : (((A + b : Nat)) : Int) = (A : Int) + b := by omega
              have e2 : (((A + 2 * b : Nat)) : Int) = (A : Int) + 2 * b := by omega
              rw [e1, e2] at HI
              clear e1 e2
              go_wp2_with fail
              refine HI.out.mono ?_
              rintro e w3' ⟨rfl, zs, k1, k2, k3, k4⟩
              have HN : Hid (PairS w w3' base g n c b (q + 1) xs) := ⟨zs, HY.out.1.trans k1, fun p hp => by
                by_cases hpq : p = q
                · subst hpq; rw [← HA.out]; exact k3
                · have h5 := mul_step (b := 2 * b) (show p < q by omega)
                  exact (HY.out.2.1 p (by omega)).out k2 (.inl (by rw [HA.out]; exact h5)), fun p hp => by
                have h5 := Nat.mul_le_mul_right b hp
                rw [mul_two, Nat.add_mul, Nat.one_mul, ← HA.out] at h5
                exact (HY.out.2.2 p (by omega)).out k2 (.inr h5), HS.out.seq k4⟩
              clear k1 k2 k3 k4 HI HA1 HA2
              go_wp2_with fail
              go_roundw
              case rel => exact ⟨A + 2 * b, q + 1, by go_num, by go_num, by omega, by unfold Hid; rw [HA.out, Nat.add_mul, Nat.one_mul], HN⟩
              case measure => simp [intOf]; omega
            · have w3 : IntKind.i64.wrap ((A : Int) + b) = (A : Int) + b := IntWalk.i64_in _ (by omega)
              have w5 : IntKind.i64.wrap ((b : Int) * 2) = (b : Int) * 2 := IntWalk.i64_in _ (by omega)
              have fin : ∀ (W : World) (zs : List Mv), So.Stab ys zs → So.Out A n ys zs → So.Seg zs A n → SW w W base g n c zs → ∃ us, So.Stab xs us ∧ So.Blocks (b * 2) us ∧ SW w W base g n c us := fun W zs k1 k2 k3 k4 => ⟨zs, HY.out.1.trans k1, fun p => by
                have hzl : zs.length = n := k4.len
                rw [Nat.mul_comm b 2]
                rcases Nat.lt_trichotomy p q with hp | hp | hp
                · have h5 := mul_step (b := 2 * b) hp
                  exact (HY.out.2.1 p hp).out k2 (.inl (by rw [HA.out]; exact h5))
                · subst hp; rw [← HA.out]; exact k3.cap (by omega)
                · have h5 := mul_step (b := 2 * b) hp
                  exact So.Seg.none_ (by have := HA.out; omega), k4⟩
              have FIN := Lib.hid fin
              clear fin
              by_cases hm : A + b < n
              · have hmz : (A : Int) + b < n := by omega
                have HI := Lib.hid (symMerge_any base g n c hn n A (A + b) n ys wr (by omega) (by omega) hm (Nat.le_refl _) HS.out.own HA1.out (HA2.out.mono (Nat.le_refl _) (by omega)))
                have e1 : (((A + b : Nat)) : Int) = (A : Int) + b := by omega
                rw [e1] at HI
                clear e1
                go_wp2_with fail
                refine HI.out.mono ?_
                rintro e w3' ⟨rfl, zs, k1, k2, k3, k4⟩
                have HN := Lib.hid (FIN.out w3' zs k1 k2 k3 (HS.out.seq k4))
                clear k1 k2 k3 k4 HI FIN
                go_wp2_with fail
                go_roundw
                case rel => exact ⟨b * 2, by go_num, by omega, by omega, HN⟩
                case measure => simp [intOf]; omega
              · have hmz : ¬ (A : Int) + b < n := by omega
                have HN := Lib.hid (FIN.out wr ys (So.Stab.refl _) (So.Out.refl _ _ _) (HA1.out.cap (by have := HS.out.len; omega)) HS.out)
                clear FIN
                go_wp2_with fail
                go_roundw
                case rel => exact ⟨b * 2, by go_num, by omega, by omega, HN⟩
                case measure => simp [intOf]; omega
        · have HF : Hid (SrtS w wr base g n c 0 n n xs) := ⟨ys, h1, So.out_all h1 (by rw [HXL.out]; exact Nat.le_refl _), by have := h2 0; rw [Nat.zero_mul, Nat.zero_add] at this; exact this.mono (Nat.le_refl _) (by omega), h3⟩
          clear h1 h2 h3 Hb
          go_wp2_with fail
          go_end0
          exact ⟨rfl, HF.out⟩
set_option maxHeartbeats 1000000 in
theorem sortStable_any (base g n c : Nat) (xs : List Mv) (w : World) (ho : w.ownsRow base 28 2 (.slice (some ⟨g, 0, none⟩) n c) n (flat xs)) (hn : n ≤ 1048576) :
    Calls Try.prog 28 #[.slice (some ⟨g, 0, none⟩) n c, cmpF] w fun e w' => e = .returned (.tuple #[]) ∧ SrtS w w' base g n c 0 n n xs := by
  have HO := Lib.hid ho
  clear ho
  go_enter Try.func28, Try.ntmps28
  go_wp2_with fail
  refine (stable_any base g n c xs _ HO.out hn).mono ?_
  rintro e w2 ⟨rfl, hs⟩
  have HS := Lib.hid hs
  clear hs
  go_wp2_with fail
  go_end0
  exact ⟨rfl, HS.out⟩
end Go.Proofs.Ytmplanlppjebnaa
