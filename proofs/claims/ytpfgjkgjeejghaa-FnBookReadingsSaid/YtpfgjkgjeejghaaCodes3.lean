/-
  Contracts: codeOf, CodeValid, total, CodeBeats, HasPrefix, stands, begins, CodeBegins, CodeBack (the program's); CodeBegins, CodeBack (the reference's).
  Conditions: the slices read as lists of integers, of at most 2^40 elements.
-/
import Derived.Test.YtpfgjkgjeejghaaCodes2
namespace Go.Proofs.Ytpfgjkgjeejghaa
open Go.RowKit
set_option linter.unusedVariables false

namespace Cd
theorem validB_of {zs : List Int} (h1 : zs.all inB = true) (h2 : 1 ≤ zs.length) (h3 : zs.length ≤ 5) : validB zs = true := by simp [validB, h1, h2, h3]
theorem validB_long {zs : List Int} (h : 5 < zs.length) : validB zs = false := by simp [validB]; omega
theorem validB_nil : validB [] = false := by simp [validB]
theorem validB_eq {zs : List Int} (h1 : 1 ≤ zs.length) (h2 : zs.length ≤ 5) : validB zs = zs.all inB := by simp [validB, h1, h2]
/-- What codeOf returns. -/
def codeV (zs : List Int) : Value := if validB zs then .tuple #[.string (bstr zs), .bool true] else .tuple #[.string ⟨#[]⟩, .bool false]
theorem codeV_yes {zs : List Int} (h : validB zs = true) : codeV zs = .tuple #[.string (bstr zs), .bool true] := by unfold codeV; rw [if_pos h]
theorem codeV_no {zs : List Int} (h : validB zs = false) : codeV zs = .tuple #[.string ⟨#[]⟩, .bool false] := by unfold codeV; rw [if_neg (by simp [h])]
theorem codeV_groups {zs : List Int} (h1 : 1 ≤ zs.length) (h2 : zs.length ≤ 5) : codeV zs = groupsV zs := by unfold codeV groupsV; rw [validB_eq h1 h2]
end Cd

set_option maxHeartbeats 1000000 in
theorem codeOf_any (A : Option Addr) (n c : Nat) (zs : List Int) (w : World) (hx : RdI w A n zs) (hn : n ≤ 1099511627776) :
    Calls Try.prog 59 #[.slice A n c] w fun e w' => e = .returned (Cd.codeV zs) ∧ Below w.heap.size w w' := by
  have HX := Lib.hid hx
  have Hlx := Lib.hid hx.len
  clear hx
  by_cases h0 : n = 0
  · subst h0
    go_enter Try.func59, Try.ntmps59
    go_wp2_with fail
    go_ret2
    refine ⟨?_, Below.refl _ _⟩
    rw [List.eq_nil_of_length_eq_zero Hlx.out, Cd.codeV_no Cd.validB_nil]
    rfl
  · have hb : ((n : Int) == 0) = false := by simp; omega
    by_cases h5 : n ≤ 5
    · have hp : 1 ≤ n := by omega
      clear h0
      go_enter Try.func59, Try.ntmps59
      go_wp2_with fail
      refine (beatsOf_any _ _ _ zs _ _ HX.out (by omega) hn).mono ?_
      rintro e w1 ⟨rfl, hb1⟩
      have Hb1 := Lib.hid hb1
      clear hb1
      have HE := Lib.hid (Cd.codeV_groups (zs := zs) (by rw [Hlx.out]; omega) (by rw [Hlx.out]; omega))
      by_cases hv : zs.all Cd.inB = true
      · have HG := Lib.hid (Cd.groupsV_yes hv)
        clear hv
        rw [HG.out]
        go_wp2_with fail
        go_ret2
        exact ⟨by rw [HE.out, HG.out]; rfl, Hb1.out⟩
      · have HG := Lib.hid (Cd.groupsV_no (zs := zs) (by simpa using hv))
        clear hv
        rw [HG.out]
        go_wp2_with fail
        go_ret2
        exact ⟨by rw [HE.out, HG.out]; rfl, Hb1.out⟩
    · have h6 : (5 : Int) < n := by omega
      clear h0 h5
      go_enter Try.func59, Try.ntmps59
      go_wp2_with fail
      refine (beatsOf_long _ _ _ _ _ (by omega)).mono ?_
      rintro e w1 ⟨rfl, rfl⟩
      go_wp2_with fail
      go_ret2
      exact ⟨by rw [Cd.codeV_no (Cd.validB_long (by rw [Hlx.out]; omega))]; rfl, Below.refl _ _⟩
namespace Cd
/-- The sum of bytes. -/
def sumB (l : List UInt8) : Int := sum (l.map fun b => (b.toNat : Int))
theorem sumB_snoc (l : List UInt8) (b : UInt8) : sumB (l ++ [b]) = sumB l + b.toNat := by simp [sumB, sum_append, sum]
theorem bytes_back {zs : List Int} (h : grp zs) : ((zs.map fun n => UInt8.ofNat n.toNat).map fun b => (b.toNat : Int)) = zs := by
  rw [List.map_map]
  conv => rhs; rw [← List.map_id zs]
  refine List.map_congr_left fun z hz => ?_
  have := h z hz
  simp only [Function.comp, UInt8.toNat_ofNat', id]
  omega
theorem sumB_bstr {zs : List Int} (h : grp zs) : sumB (bstr zs).data.toList = sum zs := by
  unfold sumB bstr
  simp only []
  rw [bytes_back h]
end Cd
end Go.Proofs.Ytpfgjkgjeejghaa
