/-
  Words for the frames of the laws over lists of moves: what a slice of structs (a number, a text) that came in reads as (RdV).
-/
import Derived.Test.YtmplanlppjebnaaFrameKit
import Derived.Test.YtmplanlppjebnaaMv1
import Derived.Deep.SlicePairs
namespace Go.Proofs.Ytmplanlppjebnaa
open Go.RowKit
set_option linter.unusedVariables false

theorem rdV_of_pairs {H : Type} {enc : TypeId × Value → H} {P : Program} {w : World} {base : Nat} {sp : Nat → Bool} {held : Bool} {n : Nat} {t0 t1 : TypeId} (h0 : P.underlying t0 = some (.int .i64)) (h1 : P.underlying t1 = some .string)
    {a : Addr} {len m : Nat} {V0 V1 : Nat → Value} {D0 D1 : Nat → DataW H} {P0 P1 : Nat → List MemPlace} (hlm : len ≤ m)
    (hx : ∀ i, i < m → w.cell? (a.add (i * 2)) = some (V0 i) ∧ w.cell? (a.add (i * 2 + 1)) = some (V1 i) ∧ DataW.trod enc P w base sp held n t0 [V0 i] = some (D0 i, P0 i) ∧ DataW.trod enc P w base sp held n t1 [V1 i] = some (D1 i, P1 i)) :
    ∃ xs : List Mv, RdV w (some a) len xs ∧ Short xs := by
  have each : ∀ i, i < len → ∃ p : Mv, w.cell? (a.add (i * 2)) = some (.int .i64 p.1) ∧ w.cell? (a.add (i * 2 + 1)) = some (.string p.2) ∧ p.2.size ≤ maxLen := fun i hi => by
    obtain ⟨c0, c1, g0, g1⟩ := hx i (by omega)
    obtain ⟨z, e0, _⟩ := DataW.trod_int h0 g0
    obtain ⟨s, e1, _, hs⟩ := DataW.trod_string h1 g1
    simp at e0 e1
    exact ⟨(z, s), by rw [c0, e0], by rw [c1, e1], hs⟩
  haveI : Inhabited Mv := ⟨(0, ⟨#[]⟩)⟩
  obtain ⟨F, hF⟩ := Go.Deep.choose_lt each
  refine ⟨(List.range len).map F, ⟨by simp, fun hl => ?_⟩, fun p hp => ?_⟩
  · obtain ⟨b, off, spot⟩ := a
    have hspot : spot = none := by simpa [Addr.add] using World.cell?_spot (hF 0 hl).1
    subst hspot
    refine ⟨b, off, rfl, fun k p hp => ?_⟩
    rw [List.getElem?_map] at hp
    obtain ⟨r, hr, rfl⟩ := Option.map_eq_some_iff.1 hp
    have hkl : k < len := by
      have := (List.getElem?_eq_some_iff.1 hr).1
      simpa using this
    have hrk : r = k := by
      rw [List.getElem?_range hkl] at hr
      exact (Option.some.inj hr).symm
    subst hrk
    have h2 := hF r hkl
    rw [Addr.add_lit, Addr.add_lit] at h2
    exact ⟨h2.1, by rw [Nat.add_assoc]; exact h2.2.1⟩
  · obtain ⟨i, hi, rfl⟩ := List.mem_map.1 hp
    exact (hF i (List.mem_range.1 hi)).2.2
end Go.Proofs.Ytmplanlppjebnaa
