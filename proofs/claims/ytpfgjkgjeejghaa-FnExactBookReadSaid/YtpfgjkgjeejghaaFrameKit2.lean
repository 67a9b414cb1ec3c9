/-
  Words for the frames of the laws over books: what rows of rows that came in read as (RdM).
-/
import Derived.Test.YtpfgjkgjeejghaaFrameKit
import Derived.Test.YtpfgjkgjeejghaaBooks1
import Derived.Deep.Matrix
namespace Go.Proofs.Ytpfgjkgjeejghaa
open Go.RowKit
set_option linter.unusedVariables false

theorem rdM_nil (w : World) : RdM w none 0 [] := ⟨rfl, fun h => absurd h (by omega)⟩
theorem rdM_of_rows {w : World} {base : Nat} {a : Addr} {len cap : Nat} {A : Nat → Option Addr} {L C : Nat → Nat} {Z : Nat → List Int} (hl : len ≤ cap)
    (hr : ∀ r, r < cap → w.cell? (a.add r) = some (.slice (A r) (L r) (C r)) ∧ L r ≤ C r ∧ C r ≤ maxLen ∧ (Z r).length = C r ∧ (∀ n ∈ Z r, (Lit.int .i64 n).wf = true) ∧ (A r = none → C r = 0) ∧
        ∀ a', A r = some a' → base ≤ a'.block ∧ ∀ c, c < C r → w.cell? (a'.add c) = some (.int .i64 ((Z r).getD c 0))) : RdM w (some a) len ((List.range len).map fun r => (Z r).take (L r)) := by
  refine ⟨by simp, fun h0 => ?_⟩
  obtain ⟨b, off, spot⟩ := a
  have h1 := (hr 0 (by omega)).1
  have hspot : spot = none := by simpa [Addr.add] using World.cell?_spot h1
  subst hspot
  refine ⟨b, off, rfl, fun k zs hk => ?_⟩
  rw [List.getElem?_map] at hk
  obtain ⟨r, hr', rfl⟩ := Option.map_eq_some_iff.1 hk
  have hkl : k < len := by
    have := (List.getElem?_eq_some_iff.1 hr').1
    simpa using this
  have hrk : r = k := by
    rw [List.getElem?_range hkl] at hr'
    exact (Option.some.inj hr').symm
  subst hrk
  obtain ⟨c1, c2, c3, c4, c5, c6, c7⟩ := hr r (by omega)
  refine ⟨A r, L r, C r, by rw [Addr.add_lit] at c1; exact c1, ?_, c2, c3⟩
  cases hA : A r with
  | none =>
    have hC := c6 hA
    have hL : L r = 0 := by omega
    rw [hL, List.take_zero]
    exact Rd.none_ _ _
  | some a' => exact rdI_of_cells c2 c4 (fun i hi => (c7 a' hA).2 i (by omega))
end Go.Proofs.Ytpfgjkgjeejghaa
