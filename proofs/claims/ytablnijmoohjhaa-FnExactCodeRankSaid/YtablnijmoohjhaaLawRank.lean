/-
  The walk of the law FnExactCodeRank: it returns true for every input and leaves old memory as it was.
-/
import Derived.Test.YtablnijmoohjhaaRank
namespace Go.Proofs.Ytablnijmoohjhaa
open Go.RowKit
set_option linter.unusedVariables false
set_option maxHeartbeats 1000000 in
theorem FnExactCodeRank_walk (w : World) (A : Option Addr) (n c : Nat) (zs : List Int) (hx : RdI w A n zs) (hl : n ≤ c) (hc : c ≤ maxLen) (hwf : ∀ z ∈ zs, (Lit.int .i64 z).wf = true) :
    Calls Try.prog 11 #[.slice A n c] w fun e w' => e = .returned (.bool true) ∧ Below w.heap.size w w' := by
  have HX := Lib.hid hx
  clear hx hwf
  unfold maxLen at hc
  by_cases hbig : (1048576 : Int) < n
  · go_enter Try.func11, Try.ntmps11
    go_wp2_with fail
    go_ret
    exact ⟨rfl, Below.refl _ _⟩
  · have hs : (n : Int) ≤ 1048576 := by omega
    clear hbig
    go_enter Try.func11, Try.ntmps11
    go_wp2_with fail
    refine (toIntS_any _ _ _ zs _ HX.out (by omega)).mono ?_
    rintro e w1 ⟨rfl, ho1, hb1⟩
    have Ho1 := Lib.hid ho1
    have Hb1 := Lib.hid hb1
    clear ho1 hb1
    go_wp2_with fail
    refine (specCodeRank_any _ _ _ zs _ (RdI.of_own Ho1.out) (by omega)).mono ?_
    rintro e w2 ⟨rfl, rfl⟩
    go_wp2_with fail
    refine (toIntS_any _ _ _ zs _ (HX.out.below Hb1.out) (by omega)).mono ?_
    rintro e w2 ⟨rfl, ho2, hb2⟩
    have Ho2 := Lib.hid ho2
    have Hb2 := Lib.hid (below_seq Hb1.out hb2)
    clear ho2 hb2
    go_wp2_with fail
    refine (implCodeRank_any _ _ _ zs _ (RdI.of_own Ho2.out) (by omega)).mono ?_
    rintro e w3 ⟨rfl, hb3⟩
    have Ho3 := Lib.hid (own_belowAll Ho2.out hb3)
    have Hb3 := Lib.hid (below_seq Hb2.out hb3)
    clear hb3 
    go_wp2_with fail
    refine (toIntS_any _ _ _ zs _ (HX.out.below Hb3.out) (by omega)).mono ?_
    rintro e w4 ⟨rfl, ho4, hb4⟩
    have Ho4 := Lib.hid (own_belowAll Ho3.out hb4)
    have Ho5 := Lib.hid ho4
    have Hb4 := Lib.hid (below_seq Hb3.out hb4)
    clear ho4 hb4
    go_wp2_with fail
    refine (eqIntS_any _ _ _ _ _ _ zs zs _ (RdI.of_own Ho4.out) (RdI.of_own Ho5.out) (by omega)).mono ?_
    rintro e w5 ⟨rfl, m, rfl⟩
    rw [decide_eq_true (rfl : zs = zs)]
    go_wp2_with fail
    go_ret
    exact ⟨rfl, below_seqD Hb4.out m⟩

end Go.Proofs.Ytablnijmoohjhaa
