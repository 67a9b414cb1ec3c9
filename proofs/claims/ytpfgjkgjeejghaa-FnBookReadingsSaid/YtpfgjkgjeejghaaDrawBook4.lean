/-
  Contracts: l91Ring, DrawBookReadings: some book of at most seven lists of at most six numbers, and some list of at most 40 numbers.
  Conditions: where said.
-/
import Derived.Test.YtpfgjkgjeejghaaDrawBook3
namespace Go.Proofs.Ytpfgjkgjeejghaa
open Go.RowKit
set_option linter.unusedVariables false
attribute [local go_sem ↓] Go.wp_at_zero Go.wp_at_succ
theorem lit170 (W : World) : (W.alloc (.cells #[.int .i64 1, .int .i64 7, .int .i64 0] 3)).ownsRow W.heap.size 3 1 (.slice (some ⟨W.heap.size, 0, none⟩) 3 3) 3 (([1, 7, 0] : List Int).map (Value.int .i64)) :=
  World.ownsRow_lit W #[.int .i64 1, .int .i64 7, .int .i64 0] 3 (Nat.le_refl _) (by unfold maxLen; omega) rfl
theorem lit170_now (W : World) {un : Nat} (hun : un < 3) : RdI (W.alloc (.cells #[.int .i64 1, .int .i64 7, .int .i64 0] 3)) (some ⟨W.heap.size, 0, none⟩) (1 + un) (([1, 7, 0] : List Int).take (1 + un)) := by
  have h2 := own_take (lit170 W) (k := 1 + un) (by omega)
  rw [← List.map_take] at h2
  exact RdI.of_own h2
theorem lit170_after {w5 w6 : World} {g un : Nat} (hg : (w5.alloc (.cells #[.int .i64 1, .int .i64 7, .int .i64 0] 3)).drew.grownBy w6 (some g)) (hne : g < w5.heap.size) (hun : un < 3) : RdI w6 (some ⟨w5.heap.size, 0, none⟩) (1 + un) (([1, 7, 0] : List Int).take (1 + un)) := by
  have h1 := own_kept (own_drewN (lit170 w5) 1) hg (fun a r h1 h2 => by have e1 : w5.heap.size = a := Option.some.inj h1; have e2 : g = r := Option.some.inj h2; omega)
  have h2 := own_take h1 (k := 1 + un) (by omega)
  rw [← List.map_take] at h2
  exact RdI.of_own h2
/-- A book and a ring that were drawn. -/
def DrewRing (g : Nat) (w : World) (e : Ending) (w' : World) : Prop :=
  ∃ (A : Option Addr) (n c : Nat) (zss : List (List Int)) (B : Option Addr) (m d : Nat) (zs : List Int), e = .returned (.tuple #[.slice A n c, .slice B m d]) ∧ BookR w' w.heap.size (.slice A n c) n zss ∧ n ≤ 7 ∧ RdI w' B m zs ∧ m ≤ d ∧ d ≤ maxLen ∧ m ≤ 40 ∧ w.grownBy w' (some g)
set_option maxHeartbeats 8000000 in
theorem l91Ring_any (L g p : Nat) (w : World) (hs : Src w L g p) (hp : p ≤ 700000) :
    Calls Try.prog 71 #[.pointer (some ⟨g, 0, none⟩)] w (DrewRing g w) := by
  have HS := Lib.hid hs
  have hgL : g < w.heap.size := by have := hs.lt; omega
  have hL : L ≤ w.heap.size := hs.lt.2
  have HGR : Hid (∀ g', some g = some g' → g' < w.heap.size) := fun g' e => by have := Option.some.inj e; omega
  clear hs
  obtain ⟨i0, hi, hz0, hz1, hz2⟩ := info_parts Try.infoInt
  go_enter Try.func71, Try.ntmps71
  go_wp2_with fail
  refine (l91Book_any _ _ _ _ HS.out (by omega)).mono ?_
  rintro e w1 ⟨B, k, cb, zss, p1, rfl, hk1, hk7, hp1, hs1, hg1⟩
  have HB1 := Lib.hid hk1
  have Hs1 := Lib.hid hs1
  have HG1 := Lib.hid hg1
  have HT : Hid (tot zss ≤ 1048576) := by
    have h1 := tot_six hk1.tot
    have h2 := hk1.len
    unfold Hid; omega
  clear hk1 hs1 hg1
  go_wp2_with fail
  refine (l91List_any _ _ p1 k _ Hs1.out (by omega) (by omega)).mono ?_
  rintro e w2 ⟨D, m, d, ls, p2, rfl, ho2, hm6, hp2, hs2, hg2⟩
  have HB2 := Lib.hid (HB1.out.grown hg2 HGR.out)
  have HR2 := Lib.hid (RdI.of_own ho2)
  have Hs2 := Lib.hid hs2
  have HG2 := Lib.hid (grown_trans HG1.out hg2)
  clear ho2 hs2 hg2 HB1 Hs1 HG1
  go_wp2_with fail
  refine (specBookRing_any _ _ _ zss _ _ _ ls _ HB2.out.rd (by omega) HT.out HR2.out (by omega)).mono ?_
  rintro e w3 ⟨G, q, gq, us, ok, rfl, ho3, hq20, hb3⟩
  have HB3 := Lib.hid (HB2.out.below hb3)
  have HO3 := Lib.hid (own_base ho3 HG2.out.size)
  have Hs3 := Lib.hid (Hs2.out.below hb3 Hs2.out.lt.2)
  have HG3 := Lib.hid (grown_below HG2.out hb3 HG2.out.size)
  obtain ⟨_, _, e3, f1, f2, _⟩ := own_form ho3
  simp only [Value.slice.injEq] at e3
  obtain ⟨rfl, _, rfl⟩ := e3
  clear ho3 hb3 HB2 HR2 Hs2 HG2
  -- what follows where the ring that was made is not taken
  have rest : True := trivial
  cases ok with
  | true =>
    go_wp2_with fail
    refine (pick_any _ _ p2 _ _ Hs3.out (by omega) (by omega)).mono ?_
    rintro e w4 ⟨y, rfl, hy, _, hs4, hg4⟩
    obtain ⟨hy0, hy4⟩ := hy (by omega)
    have HB4 := Lib.hid (HB3.out.grown hg4 HGR.out)
    have HO4 := Lib.hid (own_kept HO3.out hg4 (fun a r h1 h2 => by have := (HO3.out.lt a h1).1; have := HGR.out r h2; omega))
    have Hs4 := Lib.hid hs4
    have HG4 := Lib.hid (grown_trans HG3.out hg4)
    clear hs4 hg4 hy HB3 HO3 Hs3 HG3
    by_cases hy1 : 0 < y
    · go_wp2_with fail
      go_ret2
      exact ⟨_, k, _, zss, _, q, _, us, rfl, HB4.out, hk7, RdI.of_own HO4.out, f1, f2, by omega, HG4.out⟩
    · have hd : decide ((0 : Int) < y) = false := decide_eq_false hy1
      clear hy1
      go_wp2_with fail
      refine (pick_any _ _ (p2 + 1) _ _ Hs4.out (by omega) (by omega)).mono ?_
      rintro e w5 ⟨z, rfl, hz, _, hs5, hg5⟩
      have HB5 := Lib.hid (HB4.out.grown hg5 HGR.out)
      have Hs5 := Lib.hid hs5
      have HG5 := Lib.hid (grown_trans HG4.out hg5)
      clear hs5 hg5 hz HB4 HO4 Hs4 HG4
      by_cases hz0' : z = 0
      · subst hz0'
        have HN : Hid (g < w5.heap.size) := by have := HG5.out.size; unfold Hid; omega
        go_wp2_with fail
        go_region_with (go_at_call 69; refine (pick_any L g (p2 + 1 + 1) _ _ ?_ (by omega) (by omega)).mono ?_; (first | exact Src.drewN Hs5.out 1 | exact Src.drewN (Hs5.out.alloc _) 1); rintro e w6 ⟨x, rfl, hx, _, _, hg6⟩; obtain ⟨un, hun, rfl⟩ : ∃ un : Nat, un < 3 ∧ x = (un : Int) := ⟨x.toNat, by have := hx (by omega); omega, by have := hx (by omega); omega⟩; have HG6 := Lib.hid hg6; have j0 : (0 : Int) ≤ 1 + (un : Int) := (by omega); have j1 : 1 + (un : Int) ≤ 3 := (by omega); have v1 : IntKind.i64.wrap (1 + (un : Int)) = 1 + (un : Int) := IntWalk.i64_in _ (by omega); have v2 : (1 + (un : Int)).toNat = 1 + un := (by omega); clear hg6 hx)
        all_goals go_wp2_with fail
        all_goals go_ret2
        all_goals first
          | exact ⟨_, k, _, zss, _, 1 + un, 3, ([1, 7, 0] : List Int).take (1 + un), rfl, ((HB5.out.below ((Below.refl _ _).alloc (Nat.le_refl _) _)).below (below_of_drewN _ _ 1)).grown HG6.out HGR.out, hk7, lit170_after HG6.out HN.out hun, by omega, by unfold maxLen; omega, by omega, grown_trans (grown_drewN (grown_alloc HG5.out _) 1) HG6.out⟩
          | exact ⟨_, k, _, zss, _, 1 + un, 3, ([1, 7, 0] : List Int).take (1 + un), rfl, ((HB5.out.below (below_of_drewN _ _ 1)).grown HG6.out HGR.out).below ((Below.refl _ _).alloc (Nat.le_refl _) _), hk7, lit170_now w6 hun, by omega, by unfold maxLen; omega, by omega, grown_alloc (grown_trans (grown_drewN HG5.out 1) HG6.out) _⟩
      · have hb0 : (z == 0) = false := by simpa using hz0'
        clear hz0'
        go_wp2_with fail
        refine (l91Code_any _ _ (p2 + 1 + 1) _ Hs5.out (by omega)).mono ?_
        rintro e w6 ⟨C, m6, d6, zs, p6, rfl, ho6, hcl, hp6, hs6, hg6⟩
        have hm66 : m6 ≤ 6 := by have h1 := ho6.1; simp at h1; have := hcl.1; omega
        have Hg6 := Lib.hid hg6
        have HG6 := Lib.hid (grown_trans HG5.out hg6)
        have hsz6 : w.heap.size ≤ w6.heap.size := HG6.out.size
        have hown := own_base ho6 HG5.out.size
        have HO6 := Lib.hid hown
        have HN6 : Hid (∀ a, (Value.slice C m6 d6).ownBlock = some a → w5.heap.size ≤ a) := fun a h => (ho6.lt a h).1
        clear hs6 hg6 ho6 hcl
        go_wp2_with (at_builtin; refine wpList_append_own _ rfl _ _ 23 rfl w.heap.size 3 i0 (.int .i64 0) 1 8 Try.underlying23 hi hz0 hz1 hz2 rfl (by decide) _ _ _ rfl (hown.alloc _) ⟨w6.heap.size, 0, none⟩ 2 2 [.int .i64 1, .int .i64 2] rfl rfl ?c0 ?c1 ?c3 ?c4 ?c5 ?_)
        case c0 =>
          intro j u hj
          rw [Addr.add_lit, Nat.zero_add]
          match j, hj with
          | 0, hj => simp at hj; subst hj; simp
          | 1, hj => simp at hj; subst hj; simp
        case c1 => intro u hu; simp at hu; rcases hu with rfl | rfl <;> rfl
        case c3 => unfold maxLen; omega
        case c4 => omega
        case c5 => simp; omega
        intro v7 w7 hown7 hgrow7 _
        obtain ⟨A7, c7, rfl, f3, f4, _⟩ := own_form hown7
        have hr7 : RdI w7 A7 (m6 + 2) (zs ++ [1, 2]) := by
          have h1 := hown7
          rw [show [Value.int .i64 1, .int .i64 2] = ([1, 2] : List Int).map (Value.int .i64) from rfl, ← List.map_append] at h1
          exact RdI.of_own h1
        have HR7 := Lib.hid hr7
        have HBK : Hid (BookR w7 w.heap.size (.slice B k cb) k zss) := HB5.out.grown (grown_new (grown_alloc Hg6.out _) hgrow7 (fun r h => HN6.out r h)) HGR.out
        clear hown hown7 hr7
        go_wp2_with fail
        go_ret2
        exact ⟨_, k, _, zss, _, m6 + 2, _, zs ++ [1, 2], rfl, HBK.out, hk7, HR7.out, f3, f4, by omega, grown_new (grown_alloc HG6.out _) hgrow7 (fun r h => by have := HO6.out.lt r h; omega)⟩
  | false =>
    go_wp2_with fail
    refine (pick_any _ _ p2 _ _ Hs3.out (by omega) (by omega)).mono ?_
    rintro e w5 ⟨z, rfl, hz, _, hs5, hg5⟩
    have HB5 := Lib.hid (HB3.out.grown hg5 HGR.out)
    have Hs5 := Lib.hid hs5
    have HG5 := Lib.hid (grown_trans HG3.out hg5)
    clear hs5 hg5 hz HB3 HO3 Hs3 HG3
    by_cases hz0' : z = 0
    · subst hz0'
      have HN : Hid (g < w5.heap.size) := by have := HG5.out.size; unfold Hid; omega
      go_wp2_with fail
      go_region_with (go_at_call 69; refine (pick_any L g (p2 + 1) _ _ ?_ (by omega) (by omega)).mono ?_; (first | exact Src.drewN Hs5.out 1 | exact Src.drewN (Hs5.out.alloc _) 1); rintro e w6 ⟨x, rfl, hx, _, _, hg6⟩; obtain ⟨un, hun, rfl⟩ : ∃ un : Nat, un < 3 ∧ x = (un : Int) := ⟨x.toNat, by have := hx (by omega); omega, by have := hx (by omega); omega⟩; have HG6 := Lib.hid hg6; have j0 : (0 : Int) ≤ 1 + (un : Int) := (by omega); have j1 : 1 + (un : Int) ≤ 3 := (by omega); have v1 : IntKind.i64.wrap (1 + (un : Int)) = 1 + (un : Int) := IntWalk.i64_in _ (by omega); have v2 : (1 + (un : Int)).toNat = 1 + un := (by omega); clear hg6 hx)
      all_goals go_wp2_with fail
      all_goals go_ret2
      all_goals first
        | exact ⟨_, k, _, zss, _, 1 + un, 3, ([1, 7, 0] : List Int).take (1 + un), rfl, ((HB5.out.below ((Below.refl _ _).alloc (Nat.le_refl _) _)).below (below_of_drewN _ _ 1)).grown HG6.out HGR.out, hk7, lit170_after HG6.out HN.out hun, by omega, by unfold maxLen; omega, by omega, grown_trans (grown_drewN (grown_alloc HG5.out _) 1) HG6.out⟩
        | exact ⟨_, k, _, zss, _, 1 + un, 3, ([1, 7, 0] : List Int).take (1 + un), rfl, ((HB5.out.below (below_of_drewN _ _ 1)).grown HG6.out HGR.out).below ((Below.refl _ _).alloc (Nat.le_refl _) _), hk7, lit170_now w6 hun, by omega, by unfold maxLen; omega, by omega, grown_alloc (grown_trans (grown_drewN HG5.out 1) HG6.out) _⟩
    · have hb0 : (z == 0) = false := by simpa using hz0'
      clear hz0'
      go_wp2_with fail
      refine (l91Code_any _ _ (p2 + 1) _ Hs5.out (by omega)).mono ?_
      rintro e w6 ⟨C, m6, d6, zs, p6, rfl, ho6, hcl, hp6, hs6, hg6⟩
      have hm66 : m6 ≤ 6 := by have h1 := ho6.1; simp at h1; have := hcl.1; omega
      have Hg6 := Lib.hid hg6
      have HG6 := Lib.hid (grown_trans HG5.out hg6)
      have hsz6 : w.heap.size ≤ w6.heap.size := HG6.out.size
      have hown := own_base ho6 HG5.out.size
      have HO6 := Lib.hid hown
      have HN6 : Hid (∀ a, (Value.slice C m6 d6).ownBlock = some a → w5.heap.size ≤ a) := fun a h => (ho6.lt a h).1
      clear hs6 hg6 ho6 hcl
      go_wp2_with (at_builtin; refine wpList_append_own _ rfl _ _ 23 rfl w.heap.size 3 i0 (.int .i64 0) 1 8 Try.underlying23 hi hz0 hz1 hz2 rfl (by decide) _ _ _ rfl (hown.alloc _) ⟨w6.heap.size, 0, none⟩ 2 2 [.int .i64 1, .int .i64 2] rfl rfl ?c0 ?c1 ?c3 ?c4 ?c5 ?_)
      case c0 =>
        intro j u hj
        rw [Addr.add_lit, Nat.zero_add]
        match j, hj with
        | 0, hj => simp at hj; subst hj; simp
        | 1, hj => simp at hj; subst hj; simp
      case c1 => intro u hu; simp at hu; rcases hu with rfl | rfl <;> rfl
      case c3 => unfold maxLen; omega
      case c4 => omega
      case c5 => simp; omega
      intro v7 w7 hown7 hgrow7 _
      obtain ⟨A7, c7, rfl, f3, f4, _⟩ := own_form hown7
      have hr7 : RdI w7 A7 (m6 + 2) (zs ++ [1, 2]) := by
        have h1 := hown7
        rw [show [Value.int .i64 1, .int .i64 2] = ([1, 2] : List Int).map (Value.int .i64) from rfl, ← List.map_append] at h1
        exact RdI.of_own h1
      have HR7 := Lib.hid hr7
      have HBK : Hid (BookR w7 w.heap.size (.slice B k cb) k zss) := HB5.out.grown (grown_new (grown_alloc Hg6.out _) hgrow7 (fun r h => HN6.out r h)) HGR.out
      clear hown hown7 hr7
      go_wp2_with fail
      go_ret2
      exact ⟨_, k, _, zss, _, m6 + 2, _, zs ++ [1, 2], rfl, HBK.out, hk7, HR7.out, f3, f4, by omega, grown_new (grown_alloc HG6.out _) hgrow7 (fun r h => by have := HO6.out.lt r h; omega)⟩
end Go.Proofs.Ytpfgjkgjeejghaa
