/-
  Contract of DrawBookFind: some book of at most seven lists of at most six numbers, and some list of at most six numbers.
  Conditions: none.
-/
import Derived.Test.YtpfgjkgjeejghaaDrawBook1
namespace Go.Proofs.Ytpfgjkgjeejghaa
open Go.RowKit
set_option linter.unusedVariables false
attribute [local go_sem ↓] Go.wp_at_zero Go.wp_at_succ
theorem below_of_grown {w w1 w2 : World} {g : Nat} (h : Below w.heap.size w w1) (hg : w1.grownBy w2 (some g)) (hge : w.heap.size ≤ g) : Below w.heap.size w w2 :=
  h.grown hg h.size (fun r e => by cases e; exact hge)
/-- A book and a list that were drawn. -/
def DrewBL (w : World) (e : Ending) (w' : World) : Prop :=
  ∃ A n c zss B m d zs, e = .returned (.tuple #[.slice A n c, .slice B m d]) ∧ BookR w' w.heap.size (.slice A n c) n zss ∧ n ≤ 7 ∧ RdI w' B m zs ∧ m ≤ d ∧ d ≤ maxLen ∧ m ≤ 40 ∧ Below w.heap.size w w'
theorem BookR.form {w : World} {B n c : Nat} {A : Option Addr} {zss : List (List Int)} (h : BookR w B (.slice A n c) n zss) : n ≤ c ∧ c ≤ maxLen ∧ (0 < n → ∃ b0, A = some ⟨b0, 0, none⟩ ∧ b0 < w.heap.size ∧ B ≤ b0) := by
  obtain ⟨⟨rs, ho, hi⟩, hl⟩ := h
  obtain ⟨A2, c2, e, h1, h2, h3⟩ := own_form ho
  simp only [Value.slice.injEq] at e
  obtain ⟨rfl, _, rfl⟩ := e
  refine ⟨h1, h2, fun h0 => ?_⟩
  rcases ho.2 with ⟨e, e0⟩ | ⟨g, cap, cur, e, hb, _⟩
  · omega
  · simp only [Value.slice.injEq] at e
    obtain ⟨rfl, _, _⟩ := e
    exact ⟨g, rfl, (h3 g rfl).2, (h3 g rfl).1⟩
theorem BookR.at_ {w : World} {B n c b0 k : Nat} {zss : List (List Int)} (h : BookR w B (.slice (some ⟨b0, 0, none⟩) n c) n zss) (hk : k < n) : ∃ A' n' c' zs, w.cell? ⟨b0, k, none⟩ = some (.slice A' n' c') ∧ zss[k]? = some zs ∧ RdI w A' n' zs ∧ n' ≤ c' ∧ c' ≤ maxLen ∧ n' ≤ 6 := by
  obtain ⟨⟨rs, ho, hi⟩, hl⟩ := h
  have hrl : rs.length = n := by have := ho.1; omega
  have hr := List.getElem?_eq_getElem (show k < rs.length by omega)
  obtain ⟨A', n', c', zs, e, hz, h1, h2, h3, h6, _⟩ := hi k _ hr
  exact ⟨A', n', c', zs, by rw [ho.cellAt k (by omega), hr, e], hz, h1, h2, h3, h6⟩
set_option maxHeartbeats 4000000 in
theorem DrawBookFind_any (A : Option Addr) (n c : Nat) (bs : List UInt8) (w : World) (hx : RdB w A n bs) (hl : n ≤ c) (hc : c ≤ maxLen) :
    Calls Try.prog 46 #[.slice A n c] w (DrewBL w) := by
  have HX := Lib.hid hx
  clear hx
  go_enter Try.func46, Try.ntmps46
  go_wp2_with fail
  refine (l6Open_any _ _ _ bs _ HX.out hl hc).mono ?_
  rintro e w1 ⟨rfl, hs1, hb1⟩
  have Hs1 := Lib.hid hs1
  have Hb1 := Lib.hid hb1
  have hlt1 : w.heap.size < w1.heap.size := by have := hs1.lt; omega
  clear hs1 hb1 hl hc
  go_wp2_with fail
  refine (l91Book_any _ _ _ _ Hs1.out (by omega)).mono ?_
  rintro e w2 ⟨B, k, cb, zss, p2, rfl, hk2, hk7, hp2, hs2, hg2⟩
  have HB2 := Lib.hid hk2
  have Hs2 := Lib.hid hs2
  have Hb2 := Lib.hid (below_of_grown Hb1.out hg2 (Nat.le_refl _))
  clear hk2 hs2 hg2
  by_cases h0 : k = 0
  · subst h0
    go_wp2_with fail
    refine (l91Code_any _ _ p2 _ Hs2.out (by omega)).mono ?_
    rintro e w3 ⟨C, m, d, zs, p3, rfl, ho3, hcl, _, _, hg3⟩
    have hm6 : m ≤ 6 := by have h1 := ho3.1; simp at h1; have := hcl.1; omega
    have HO3 := Lib.hid ho3
    have HB3 : Hid (BookR w3 w.heap.size (.slice B 0 cb) 0 zss) := (HB2.out.grown hg3 (fun g e => by cases e; exact hlt1)).base (by omega)
    have Hb3 := Lib.hid (below_of_grown Hb2.out hg3 (Nat.le_refl _))
    obtain ⟨_, _, e3, f1, f2, _⟩ := own_form ho3
    simp only [Value.slice.injEq] at e3
    obtain ⟨rfl, _, rfl⟩ := e3
    clear ho3 hcl hg3
    go_wp2_with fail
    go_ret2
    exact ⟨_, 0, _, zss, _, m, _, zs, rfl, HB3.out, by omega, RdI.of_own HO3.out, f1, f2, by omega, Hb3.out⟩
  · have hk0 : decide ((0 : Int) < (k : Int)) = true := decide_eq_true (by omega)
    go_wp2_with fail
    refine (pick_any _ _ p2 _ _ Hs2.out (by omega) (by omega)).mono ?_
    rintro e w3 ⟨y, rfl, hy, _, hs3, hg3⟩
    obtain ⟨hy0, hy3⟩ := hy (by omega)
    have HB3 : Hid (BookR w3 w1.heap.size (.slice B k cb) k zss) := HB2.out.grown hg3 (fun g e => by cases e; exact hlt1)
    have Hs3 := Lib.hid hs3
    have Hb3 := Lib.hid (below_of_grown Hb2.out hg3 (Nat.le_refl _))
    clear hs3 hg3 hy HB2 Hs2 Hb2
    by_cases hy1 : 0 < y
    · obtain ⟨b0, rfl, hb0, _⟩ := HB3.out.form.2.2 (by omega)
      have hk1 : (1 : Int) ≤ (k : Int) := by omega
      have HL1 : Hid (∀ g, some w.heap.size = some g → g < w1.heap.size) := fun g e => by cases e; exact hlt1
      go_wp2_with fail
      go_region_with (go_at_call 69; refine (pick_any _ _ (p2 + 1) _ _ (Src.drewN Hs3.out 1) (by omega) (by omega)).mono ?_; rintro e w4 ⟨x, rfl, hx, _, _, hg4⟩; obtain ⟨xn, hxn, rfl⟩ : ∃ xn : Nat, xn < k ∧ x = (xn : Int) := ⟨x.toNat, by have := hx hk1; omega, by have := hx hk1; omega⟩; have HB4 : Hid (BookR w4 w1.heap.size (.slice (some ⟨b0, 0, none⟩) k cb) k zss) := (HB3.out.below (below_of_drewN _ _ 1)).grown hg4 HL1.out; have Hb4 : Hid (Below w.heap.size w w4) := below_of_grown (below_drewN Hb3.out 1) hg4 (Nat.le_refl _); obtain ⟨A6, n6, c6, z6, hc6, hz6, hr6, h61, h62, h63⟩ := HB4.out.at_ hxn; have HR6 := Lib.hid hr6; clear hr6 hg4 hx)
      all_goals go_wp2_with fail
      all_goals go_ret2
      all_goals exact ⟨_, k, _, zss, _, n6, _, z6, rfl, HB4.out.base (by omega), hk7, HR6.out, h61, h62, by omega, Hb4.out⟩
    · have hd : decide ((0 : Int) < y) = false := decide_eq_false hy1
      go_wp2_with fail
      refine (l91Code_any _ _ (p2 + 1) _ Hs3.out (by omega)).mono ?_
      rintro e w4 ⟨C, m, d, zs, p3, rfl, ho3, hcl, _, _, hg4⟩
      have hm6 : m ≤ 6 := by have h1 := ho3.1; simp at h1; have := hcl.1; omega
      have HO3 := Lib.hid ho3
      have HB4 : Hid (BookR w4 w.heap.size (.slice B k cb) k zss) := (HB3.out.grown hg4 (fun g e => by cases e; exact hlt1)).base (by omega)
      have Hb4 := Lib.hid (below_of_grown Hb3.out hg4 (Nat.le_refl _))
      obtain ⟨_, _, e3, f1, f2, _⟩ := own_form ho3
      simp only [Value.slice.injEq] at e3
      obtain ⟨rfl, _, rfl⟩ := e3
      clear ho3 hcl hg4
      go_wp2_with fail
      go_ret2
      exact ⟨_, k, _, zss, _, m, _, zs, rfl, HB4.out, hk7, RdI.of_own HO3.out, f1, f2, by omega, Hb4.out⟩
end Go.Proofs.Ytpfgjkgjeejghaa
