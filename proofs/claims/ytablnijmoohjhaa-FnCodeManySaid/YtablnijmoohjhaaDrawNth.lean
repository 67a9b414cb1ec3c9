/-
  Contracts: DrawCodeMany, DrawCodeNth: what is drawn are some numbers in a small range.
  Conditions: none.
-/
import Derived.Test.YtablnijmoohjhaaLawDraw1
import Derived.Deep.RegionWith
import Derived.Deep.DrawnRows
namespace Go.Proofs.Ytablnijmoohjhaa
open Go.RowKit
set_option linter.unusedVariables false
set_option linter.unusedSimpArgs false
attribute [local go_sem ↓] Go.wp_at_zero Go.wp_at_succ

theorem emod_le_self (z m : Int) (hz : 0 ≤ z) (hm : 0 < m) : z % m ≤ z := by
  have h1 := Int.mul_ediv_add_emod z m
  have h2 := Int.mul_nonneg (show (0 : Int) ≤ m by omega) (Int.ediv_nonneg hz (show (0 : Int) ≤ m by omega))
  omega
/-- A number that was drawn; the source is forgotten. -/
def DrewInt (lo hi : Int) (w : World) (e : Ending) (w' : World) : Prop := ∃ x : Int, e = .returned (.int .i64 x) ∧ lo ≤ x ∧ x ≤ hi ∧ Below w.heap.size w w'
theorem DrawCodeMany_any (A : Option Addr) (n c : Nat) (bs : List UInt8) (w : World) (hx : RdB w A n bs) (hl : n ≤ c) (hc : c ≤ maxLen) :
    Calls Try.prog 37 #[.slice A n c] w (DrewInt (-1) 31 w) := by
  have HX := Lib.hid hx
  clear hx
  go_enter Try.func37, Try.ntmps37
  go_wp2_with fail
  refine (l6Open_any _ _ _ bs _ HX.out hl hc).mono ?_
  rintro e w1 ⟨rfl, hs1, hb1⟩
  have Hs1 := Lib.hid hs1
  have Hb1 := Lib.hid hb1
  clear hs1 hb1
  go_wp2_with fail
  refine (pick_any _ _ _ _ _ Hs1.out (by omega) (by omega)).mono ?_
  rintro e w2 ⟨x, rfl, hx, _, _, hg2⟩
  obtain ⟨hx0, hx1⟩ := hx (by omega)
  have Hg2 := Lib.hid hg2
  clear hg2 hx
  go_wp2_with fail
  go_ret
  exact ⟨_, rfl, by omega, by omega, below_of_grown Hb1.out Hg2.out (Nat.le_refl _)⟩
/-- Two numbers that were drawn. -/
def DrewInt2 (lo hi lo' hi' : Int) (w : World) (e : Ending) (w' : World) : Prop := ∃ x y : Int, e = .returned (.tuple #[.int .i64 x, .int .i64 y]) ∧ lo ≤ x ∧ x ≤ hi ∧ lo' ≤ y ∧ y ≤ hi' ∧ Below w.heap.size w w'
set_option maxHeartbeats 4000000 in
theorem DrawCodeNth_any (A : Option Addr) (n c : Nat) (bs : List UInt8) (w : World) (hx : RdB w A n bs) (hl : n ≤ c) (hc : c ≤ maxLen) :
    Calls Try.prog 38 #[.slice A n c] w (DrewInt2 0 31 (-1) 1000 w) := by
  have HX := Lib.hid hx
  clear hx
  go_enter Try.func38, Try.ntmps38
  go_wp2_with fail
  refine (l6Open_any _ _ _ bs _ HX.out hl hc).mono ?_
  rintro e w1 ⟨rfl, hs1, hb1⟩
  have Hs1 := Lib.hid hs1
  have Hb1 := Lib.hid hb1
  clear hs1 hb1
  go_wp2_with fail
  refine (pick_any _ _ _ _ _ Hs1.out (by omega) (by omega)).mono ?_
  rintro e w2 ⟨x, rfl, hx, _, hs2, hg2⟩
  obtain ⟨hx0, hx1⟩ := hx (by omega)
  have Hs2 := Lib.hid hs2
  have Hb2 := Lib.hid (below_of_grown Hb1.out hg2 (Nat.le_refl _))
  clear hs2 hg2 hx Hs1
  go_wp2_with fail
  refine (pick_any _ _ _ _ _ Hs2.out (by omega) (by omega)).mono ?_
  rintro e w3 ⟨y, rfl, hy, _, hs3, hg3⟩
  obtain ⟨hy0, hy1⟩ := hy (by omega)
  have Hs3 := Lib.hid hs3
  have Hb3 := Lib.hid (below_of_grown Hb2.out hg3 (Nat.le_refl _))
  clear hs3 hg3 hy Hs2
  have hm1 : 1 ≤ Cd.many (1 + x) := by
    unfold Cd.many
    rw [if_neg (by omega), if_neg (by omega)]
    exact Cd.M_pos 5 _ (by omega) (by omega)
  have hm2 := (Cd.many_bd (1 + x)).2
  by_cases h0 : y = 0
  · subst h0
    obtain ⟨fA, hfA, hfAb⟩ : ∃ f : Nat → Int, (∀ j (hj : j < [Value.int .i64 0, .int .i64 31, .int .i64 (1 + x)].length), [Value.int .i64 0, .int .i64 31, .int .i64 (1 + x)][j] = .int .i64 (f j)) ∧ ∀ j, 0 ≤ f j ∧ f j ≤ 31 := by
      refine ⟨fun j => if j = 0 then 0 else if j = 1 then 31 else 1 + x, fun j hj => ?_, fun j => ?_⟩
      · have : j = 0 ∨ j = 1 ∨ j = 2 := by simp at hj; omega
        rcases this with rfl | rfl | rfl <;> rfl
      · dsimp only; split
        · omega
        · split <;> omega
    obtain ⟨fB, hfB, hfBb⟩ : ∃ f : Nat → Int, (∀ j (hj : j < [Value.int .i64 (-1), .int .i64 0, .int .i64 1000].length), [Value.int .i64 (-1), .int .i64 0, .int .i64 1000][j] = .int .i64 (f j)) ∧ ∀ j, -1 ≤ f j ∧ f j ≤ 1000 := by
      refine ⟨fun j => if j = 0 then -1 else if j = 1 then 0 else 1000, fun j hj => ?_, fun j => ?_⟩
      · have : j = 0 ∨ j = 1 ∨ j = 2 := by simp at hj; omega
        rcases this with rfl | rfl | rfl <;> rfl
      · dsimp only; split
        · omega
        · split <;> omega
    have HfA := Lib.hid hfAb
    have HfB := Lib.hid hfBb
    clear hfAb hfBb
    have hgt : w.heap.size < w3.heap.size := by have h1 := Hs3.out.lt; omega
    have hn3 : ¬ w3.heap.size = w.heap.size := by omega
    have hn3' : ¬ w3.heap.size + 1 = w.heap.size := by omega
    go_wp2_with fail
    go_region_with (first
      | (go_at_call 52; refine (pick_any (w.heap.size + 1) w.heap.size _ _ _ (by first | exact Hs3.out | exact Hs3.out.alloc _ | exact (Hs3.out.alloc _).alloc _ | exact HsA.out | exact HsA.out.alloc _ | exact (HsA.out.alloc _).alloc _) (by omega) (by omega)).mono ?_; rintro e wA ⟨zi, rfl, hz, _, hsA, hgA⟩; obtain ⟨hz0, hz1⟩ := hz (by omega); obtain ⟨zA, rfl⟩ := Int.eq_ofNat_of_zero_le hz0; have hzn : zA < 3 := (by omega); have HsA := Lib.hid hsA; have hcA := fun (b j : Nat) (h1 : ¬ b = w.heap.size) h2 => World.cell?_of_block (a := ⟨b, j, none⟩) (hgA.block b h2 (by simpa using h1)); have hszA := hgA.size; (try simp only [World.size_alloc, World.size_drew] at hszA); have hnA : ¬ wA.heap.size = w.heap.size := (by omega); have hnA' : ¬ wA.heap.size + 1 = w.heap.size := (by omega); have hltA : w3.heap.size < wA.heap.size + 1 := (by omega); (try have hltA' : w3.heap.size < wA.heap.size := (by omega)); (try have hltA'' : w3.heap.size + 1 < wA.heap.size := (by omega)); (try have hltA3 : w3.heap.size + 1 < wA.heap.size + 1 := (by omega)); (try have hp1 := Nat.lt_of_succ_le hszA); (try have hp2 := Nat.lt_of_succ_le (Nat.le_of_succ_le hszA)); have HgA := Lib.hid hgA; clear hz hsA hgA)
      | fail)
    all_goals go_wp2_with fail
    all_goals go_ret2
    all_goals refine ⟨_, _, rfl, (HfA.out _).1, (HfA.out _).2, (HfB.out _).1, (HfB.out _).2, ?_⟩
    all_goals (repeat' (first | exact Hb3.out | (refine Below.drew ?_) | (refine Below.alloc ?_ (by (try simp only [World.size_alloc, World.size_drew]); omega) _) | (refine below_of_grown ?_ (Hid.out (by assumption)) (Nat.le_refl _))))
  · have hb0 : (y == 0) = false := by simpa using h0
    clear h0
    go_wp2_with fail
    go_region_with (first
      | (go_at_call 52; refine (pick_any _ _ _ _ _ (by exact Hs3.out) (by omega) (by omega)).mono ?_; rintro e w4 ⟨z, rfl, hz, _, hs4, hg4⟩; obtain ⟨hz0, hz1⟩ := hz (by omega); have Hb4 := Lib.hid (below_of_grown Hb3.out.drew hg4 (Nat.le_refl _)); clear hz hs4 hg4)
      | (go_at_call 15; refine (specCodeMany_any _ _).mono ?_; rintro e w5 ⟨rfl, rfl⟩))
    go_wp2_with fail
    go_ret2
    refine ⟨1 + x, z % Cd.many (1 + x), rfl, by omega, by omega, ?_, ?_, Hb4.out⟩
    · have := Int.emod_nonneg z (show Cd.many (1 + x) ≠ 0 by omega); omega
    · have h1 := Int.emod_nonneg z (show Cd.many (1 + x) ≠ 0 by omega)
      have h2 := Int.emod_lt_of_pos z (show 0 < Cd.many (1 + x) by omega)
      have h3 : z % Cd.many (1 + x) ≤ z := emod_le_self z _ (by omega) (by omega)
      omega
end Go.Proofs.Ytablnijmoohjhaa
