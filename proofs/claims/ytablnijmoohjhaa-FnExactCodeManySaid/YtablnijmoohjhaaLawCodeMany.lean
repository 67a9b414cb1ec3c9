/-
  The law FnExactCodeMany returns true for every number, and leaves memory as it was.
-/
import Derived.Test.YtablnijmoohjhaaCodes
namespace Go.Proofs.Ytablnijmoohjhaa
open Go.RowKit
theorem FnExactCodeMany_walk (w : World) (a : Int) (_wa : (Lit.int .i64 a).wf = true) :
    Calls Try.prog 3 #[.int .i64 a] w fun e w' => e = .returned (.bool true) ∧ Below w.heap.size w w' := by
  go_enter Try.func3, Try.ntmps3
  go_wp2_with fail
  refine (specCodeMany_any _ _).mono ?_
  rintro e w' ⟨rfl, rfl⟩
  go_wp2_with fail
  refine (implCodeMany_any _ _).mono ?_
  rintro e w' ⟨rfl, rfl⟩
  go_wp2_with fail
  go_ret
  exact ⟨rfl, Below.refl _ _⟩
end Go.Proofs.Ytablnijmoohjhaa
