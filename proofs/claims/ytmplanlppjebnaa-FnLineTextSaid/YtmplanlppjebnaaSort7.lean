/-
  Contracts of LineOrder: the program's (by the library's stable sort), the reference's (by insertion).
  Conditions: a slice that is not nil, of at most 2^20 moves.
-/
import Derived.Test.YtmplanlppjebnaaSort6
import Derived.Laws.AppendOwn
namespace Go.Proofs.Ytmplanlppjebnaa
open Go.RowKit
set_option linter.unusedVariables false
set_option linter.unusedSimpArgs false
attribute [local go_sem ↓] Go.wp_at_zero Go.wp_at_succ

theorem rdV_cells {w : World} {b off n : Nat} {xs : List Mv} (h : RdV w (some ⟨b, off, none⟩) n xs) : ∀ j u, (flat xs)[j]? = some u → w.cell? ((⟨b, off, none⟩ : Addr).add j) = some u := by
  intro j u hu
  have hj : j < xs.length * 2 := by rw [← flat_len]; exact (List.getElem?_eq_some_iff.1 hu).1
  obtain ⟨p, hp⟩ : ∃ p, xs[j / 2]? = some p := ⟨_, List.getElem?_eq_getElem (by omega)⟩
  obtain ⟨b', off', e, hc⟩ := h.2 (by have := h.1; omega)
  simp only [Option.some.injEq, Addr.mk.injEq, and_true] at e
  obtain ⟨rfl, rfl⟩ := e
  obtain ⟨c0, c1⟩ := hc _ p hp
  obtain ⟨f0, f1⟩ := flat_at hp
  rw [Addr.add_lit]
  rcases (show j % 2 = 0 ∨ j % 2 = 1 by omega) with e | e
  · rw [show j / 2 * 2 = j by omega] at f0 c0
    rw [f0] at hu
    cases hu
    exact c0
  · rw [show j / 2 * 2 + 1 = j by omega] at f1
    rw [Nat.add_assoc, show j / 2 * 2 + 1 = j by omega] at c1
    rw [f1] at hu
    cases hu
    exact c1
theorem flat_cell1 (xs : List Mv) : ∀ u ∈ flat xs, u.oneCell' = true := by
  intro u hu
  unfold flat at hu
  obtain ⟨p, _, hp⟩ := List.mem_flatMap.1 hu
  simp [enc2] at hp
  rcases hp with rfl | rfl <;> rfl
/-- What LineOrder makes: a new row of the same moves in the order of their sections. -/
def OrdP (n : Nat) (xs : List Mv) (w : World) (e : Ending) (w' : World) : Prop :=
  ∃ g c ys, e = .returned (.slice (some ⟨g, 0, none⟩) n c) ∧ w'.ownsRow w.heap.size 28 2 (.slice (some ⟨g, 0, none⟩) n c) n (flat ys) ∧ So.Stab xs ys ∧ So.Seg ys 0 n ∧ Below w.heap.size w w'
theorem own_some {w : World} {base n : Nat} {e : TypeId} {v : Value} {xs : List Value} (h : w.ownsRow base e 2 v n xs) (hv : v ≠ .slice none 0 0) : ∃ g c, v = .slice (some ⟨g, 0, none⟩) n c ∧ base ≤ g := by
  rcases h.2 with ⟨rfl, _⟩ | ⟨g, cap, cur, rfl, hb, _⟩
  · exact absurd rfl hv
  · exact ⟨g, cap, rfl, hb⟩
set_option maxHeartbeats 4000000 in
theorem implLineOrder_any (b off n c : Nat) (xs : List Mv) (w : World) (hx : RdV w (some ⟨b, off, none⟩) n xs) (hn : n ≤ 1048576) :
    Calls Try.prog 9 #[.slice (some ⟨b, off, none⟩) n c] w (OrdP n xs w) := by
  have HX := Lib.hid hx
  have hxl := hx.len
  have HXL := Lib.hid hxl
  obtain ⟨i0, hi, hz0, hz1, hz2⟩ := info_parts Try.infoMove
  have hcs : ∀ j u, (flat xs)[j]? = some u → (w.alloc (.cells #[] 28)).cell? ((⟨b, off, none⟩ : Addr).add j) = some u := rdV_cells (hx.below ((Below.refl _ _).alloc (Nat.le_refl _) _))
  have HCS := Lib.hid hcs
  have hown : (w.alloc (.cells #[] 28)).ownsRow w.heap.size 28 2 (.slice (some ⟨w.heap.size, 0, none⟩) 0 0) 0 [] := World.ownsRow_lit w #[] 0 (Nat.le_refl _) (by unfold maxLen; omega) rfl
  clear hx hxl hcs
  go_enter Try.func9, Try.ntmps9
  go_wp2_with (at_builtin; refine wpList_append_own _ rfl _ _ 23 rfl w.heap.size 28 i0 (.agg #[.int .i64 0, .string ⟨#[]⟩]) 2 24 Try.underlying23 hi hz0 hz1 hz2 rfl (by decide) _ _ _ rfl hown ⟨b, off, none⟩ n c (flat xs) rfl ?c2 HCS.out (flat_cell1 xs) ?c3 ?c4 ?c5 ?_)
  case c2 => rw [flat_len, HXL.out]
  case c3 => unfold maxLen; omega
  case c4 => omega
  case c5 => simp
  intro v w1 hown1 hgrow1 hv
  have hv1 : v ≠ .slice none 0 0 := by simpa using hv
  try rw [List.nil_append] at hown1
  obtain ⟨g, c1, rfl, hg⟩ := own_some hown1 hv1
  try rw [Nat.zero_add] at hown1
  try rw [Nat.zero_add]
  have HO1 := Lib.hid hown1
  have Hb1 : Hid (Below w.heap.size w w1) := ((Below.refl w.heap.size w).alloc (Nat.le_refl _) _).grown hgrow1 (by simp) (fun k h => by cases h; exact Nat.le_refl _)
  clear hown hown1 hgrow1 hv hv1 hi hz0 hz1 hz2
  go_wp2_with fail
  refine (sortStable_any w.heap.size g n c1 xs _ HO1.out hn).mono ?_
  rintro e w2 ⟨rfl, ys, h1, h2, h3, h4⟩
  have HF : Hid (w2.ownsRow w.heap.size 28 2 (.slice (some ⟨g, 0, none⟩) n c1) n (flat ys) ∧ So.Stab xs ys ∧ So.Seg ys 0 n ∧ Below w.heap.size w w2) := ⟨h4.own, h1, h3, Hb1.out.grown h4.gr Hb1.out.size (fun r e => by cases e; exact hg)⟩
  clear h1 h2 h3 h4
  go_wp2_with fail
  go_ret
  exact ⟨g, c1, ys, rfl, HF.out.1, HF.out.2.1, HF.out.2.2.1, HF.out.2.2.2⟩
end Go.Proofs.Ytmplanlppjebnaa
