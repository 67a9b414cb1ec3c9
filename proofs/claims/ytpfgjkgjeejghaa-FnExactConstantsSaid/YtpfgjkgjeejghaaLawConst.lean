/-
  The walk of the law FnExactConstants: it returns true and leaves all memory as it was.
  Conditions: none.
-/
import Derived.Test.YtpfgjkgjeejghaaProg
import Derived.Test.YtpfgjkgjeejghaaKit
namespace Go.Proofs.Ytpfgjkgjeejghaa
open Go.RowKit
set_option linter.unusedVariables false
set_option maxHeartbeats 1000000 in
theorem FnExactConstants_walk (w : World) :
    Calls Try.prog 3 #[] w fun e w' => e = .returned (.bool true) ∧ Below w.heap.size w w' := by
  go_enter Try.func3, Try.ntmps3
  go_wp2_with fail
  go_ret
  exact ⟨rfl, Below.refl _ _⟩
end Go.Proofs.Ytpfgjkgjeejghaa
