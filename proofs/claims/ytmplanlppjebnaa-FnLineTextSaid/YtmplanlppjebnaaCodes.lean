/-
  Contracts of the functions of bell codes that only compute: l6In, l1Many, manyCodes, CodeMany (the reference's and the program's).
  Conditions: numbers of groups from 0 to 5, beats from -1000 to 1000 where a count is asked for; none for CodeMany.
-/
import Derived.Test.YtmplanlppjebnaaProg
import Derived.Test.YtmplanlppjebnaaKit
import Derived.Test.YtmplanlppjebnaaCodesPlain
namespace Go.Proofs.Ytmplanlppjebnaa
open Go.RowKit
set_option linter.unusedVariables false

theorem l6In_yes (n lo hi : Int) (w : World) (h1 : lo ≤ n) (h2 : n ≤ hi) :
    Calls Try.prog 36 #[.int .i64 n, .int .i64 lo, .int .i64 hi] w fun e w' => e = .returned (.bool true) ∧ w = w' := by
  go_enter Try.func36, Try.ntmps36
  go_wp2
  go_ret
  exact ⟨rfl, rfl⟩
theorem l6In_no (n lo hi : Int) (w : World) (h : n < lo ∨ hi < n) :
    Calls Try.prog 36 #[.int .i64 n, .int .i64 lo, .int .i64 hi] w fun e w' => e = .returned (.bool false) ∧ w = w' := by
  by_cases h1 : n < lo
  · clear h
    go_enter Try.func36, Try.ntmps36
    go_wp2
    go_ret
    exact ⟨rfl, rfl⟩
  · have h2 : hi < n := by omega
    have h3 : lo ≤ n := by omega
    have h4 : decide (n ≤ hi) = false := by simp; omega
    clear h h1
    go_enter Try.func36, Try.ntmps36
    go_wp2
    go_ret
    exact ⟨rfl, rfl⟩



namespace Cd
/-- What CodeMany returns. -/
def many (n : Int) : Int := if n < 0 ∨ 30 < n then -1 else if n = 0 then 0 else M 5 n
end Cd

end Go.Proofs.Ytmplanlppjebnaa
