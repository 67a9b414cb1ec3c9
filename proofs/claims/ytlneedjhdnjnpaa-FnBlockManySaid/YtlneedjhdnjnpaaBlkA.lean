/-
  Contracts: BlockLegal and BlockNormal of the program and of the reference; the walks of the laws FnExactBlockLegal and FnExactBlockNormal.
  Conditions: none.
-/
import Derived.Test.YtlneedjhdnjnpaaBlk9
namespace Go.Proofs.Ytlneedjhdnjnpaa
open Go.RowKit
set_option linter.unusedVariables false
attribute [local go_sem ↓] Go.wp_at_zero Go.wp_at_succ run_eql_block run_neq_block

namespace Bk
/-- What BlockLegal returns. -/
def legal (l : List UInt8) : Bool := (runR 0 false false l).isSome
/-- What BlockNormal returns first. -/
def normalB (l : List UInt8) : Bool := runR 0 false false l == some 0
theorem runR_lt {n : Int} {i o : Bool} {l : List UInt8} {t : Nat} (h : runR n i o l = some t) : t < 5 := by
  unfold runR at h
  split at h
  · cases e : stOf n i o with
    | none => rw [e] at h; cases h
    | some s => rw [e] at h; exact runS_lt l (stOf_lt e).1 h
  · cases h
theorem zero_iff {t : Nat} (h : t < 5) : (nd t == 0 && (!ins t && !off t)) = (t == 0) := by
  have : t = 0 ∨ t = 1 ∨ t = 2 ∨ t = 3 ∨ t = 4 := by omega
  rcases this with rfl | rfl | rfl | rfl | rfl <;> rfl
end Bk
theorem resV_legal (l : List UInt8) : ∃ rn ri ro, resV (Bk.runR 0 false false l) = .tuple #[bv rn ri ro, .bool (Bk.legal l)] := by
  unfold Bk.legal
  cases Bk.runR 0 false false l with
  | none => exact ⟨_, _, _, rfl⟩
  | some t => exact ⟨_, _, _, rfl⟩
theorem resV_normal (l : List UInt8) : (∃ rn ri ro, resV (Bk.runR 0 false false l) = .tuple #[bv rn ri ro, .bool true] ∧ (rn == 0 && (!ri && !ro)) = Bk.normalB l ∧ Bk.legal l = true) ∨ (resV (Bk.runR 0 false false l) = .tuple #[bv 0 false false, .bool false] ∧ Bk.normalB l = false ∧ Bk.legal l = false) := by
  unfold Bk.legal Bk.normalB
  cases h : Bk.runR 0 false false l with
  | none => exact .inr ⟨rfl, rfl, rfl⟩
  | some t => exact .inl ⟨_, _, _, rfl, by rw [Bk.zero_iff (Bk.runR_lt h)]; rfl, rfl⟩
theorem ret_bools {a b c d : Bool} (h : a = b) (h2 : c = d) : Ending.returned (.tuple #[.bool a, .bool c]) = .returned (.tuple #[.bool b, .bool d]) := by rw [h, h2]

set_option maxHeartbeats 1000000 in
theorem implBlockLegal_any (s : ByteArray) (w : World) (hsz : s.size ≤ maxLen) :
    Calls Try.prog 19 #[.string s] w fun e w' => e = .returned (.bool (Bk.legal s.toList)) ∧ Below w.heap.size w w' := by
  obtain ⟨rn, ri, ro, hres⟩ := resV_legal s.toList
  have HRes := Lib.hid hres
  have HSZ := Lib.hid hsz
  clear hres hsz
  go_enter Try.func19, Try.ntmps19
  go_wp2_with fail
  refine (implBlockRun_any 0 false false s _ HSZ.out).mono ?_
  rintro e w1 ⟨rfl, hb1⟩
  rw [HRes.out]
  have Hb1 := Lib.hid hb1
  clear hb1
  go_wp2_with fail
  go_ret
  refine ⟨rfl, ?_⟩
  exact Hb1.out.alloc Hb1.out.size _
set_option maxHeartbeats 1000000 in
theorem specBlockLegal_any (s : ByteArray) (w : World) (hsz : s.size ≤ maxLen) :
    Calls Try.prog 23 #[.string s] w fun e w' => e = .returned (.bool (Bk.legal s.toList)) ∧ Below w.heap.size w w' := by
  obtain ⟨rn, ri, ro, hres⟩ := resV_legal s.toList
  have HRes := Lib.hid hres
  have HSZ := Lib.hid hsz
  clear hres hsz
  go_enter Try.func23, Try.ntmps23
  go_wp2_with fail
  refine (specBlockRun_any 0 false false s _ HSZ.out).mono ?_
  rintro e w1 ⟨rfl, hb1⟩
  rw [HRes.out]
  have Hb1 := Lib.hid hb1
  clear hb1
  go_wp2_with fail
  go_ret
  refine ⟨rfl, ?_⟩
  exact Hb1.out.alloc Hb1.out.size _
set_option maxHeartbeats 1000000 in
theorem implBlockNormal_any (s : ByteArray) (w : World) (hsz : s.size ≤ maxLen) :
    Calls Try.prog 17 #[.string s] w fun e w' => e = .returned (.tuple #[.bool (Bk.normalB s.toList), .bool (Bk.legal s.toList)]) ∧ Below w.heap.size w w' := by
  have HSZ := Lib.hid hsz
  clear hsz
  rcases resV_normal s.toList with ⟨rn, ri, ro, hres, hn, hl⟩ | ⟨hres, hn, hl⟩
  all_goals
    have HRes := Lib.hid hres
    have HN := Lib.hid hn
    have HL := Lib.hid hl
    clear hres hn hl
    go_enter Try.func17, Try.ntmps17
    go_wp2_with fail
    refine (implBlockRun_any 0 false false s _ HSZ.out).mono ?_
    rintro e w1 ⟨rfl, hb1⟩
    rw [HRes.out]
    have Hb1 := Lib.hid hb1
    clear hb1
    go_wp2_with fail
    go_ret2
    refine ⟨ret_bools (by first | exact HN.out.symm | exact HN.out) HL.out.symm, ?_⟩
    exact Hb1.out.alloc Hb1.out.size _
set_option maxHeartbeats 1000000 in
theorem specBlockNormal_any (s : ByteArray) (w : World) (hsz : s.size ≤ maxLen) :
    Calls Try.prog 26 #[.string s] w fun e w' => e = .returned (.tuple #[.bool (Bk.normalB s.toList), .bool (Bk.legal s.toList)]) ∧ Below w.heap.size w w' := by
  have HSZ := Lib.hid hsz
  clear hsz
  rcases resV_normal s.toList with ⟨rn, ri, ro, hres, hn, hl⟩ | ⟨hres, hn, hl⟩
  all_goals
    have HRes := Lib.hid hres
    have HN := Lib.hid hn
    have HL := Lib.hid hl
    clear hres hn hl
    go_enter Try.func26, Try.ntmps26
    go_wp2_with fail
    refine (specBlockRun_any 0 false false s _ HSZ.out).mono ?_
    rintro e w1 ⟨rfl, hb1⟩
    rw [HRes.out]
    have Hb1 := Lib.hid hb1
    clear hb1
    go_wp2_with fail
    go_ret2
    refine ⟨ret_bools (by first | exact HN.out.symm | exact HN.out) HL.out.symm, ?_⟩
    exact Hb1.out.alloc Hb1.out.size _
end Go.Proofs.Ytlneedjhdnjnpaa
