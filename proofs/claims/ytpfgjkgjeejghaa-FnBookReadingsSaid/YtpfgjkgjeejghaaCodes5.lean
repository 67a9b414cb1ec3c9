/-
  Contracts: CodeBack of the reference and of the program; and the walks of the laws FnExactCodeValid, FnExactCodeBeats, FnExactCodeBegins, FnExactCodeBack.
  Conditions: of the contracts: the slices read as lists of integers, of at most 2^40 elements; of the laws: none.
-/
import Derived.Test.YtpfgjkgjeejghaaCodes4
namespace Go.Proofs.Ytpfgjkgjeejghaa
open Go.RowKit
set_option linter.unusedVariables false

namespace Cd
/-- What CodeBack returns. -/
def back (zs : List Int) : List Int := if validB zs then zs.reverse else []
theorem back_len (zs : List Int) : (back zs).length ≤ 5 := by
  unfold back
  split
  · have := valid_grp ‹_›; simp; omega
  · simp
theorem rev_snoc (zs : List Int) (k : Nat) (z : Int) (h : zs[k]? = some z) : (zs.drop k).reverse = (zs.drop (k + 1)).reverse ++ [z] := by
  obtain ⟨hk, rfl⟩ := List.getElem?_eq_some_iff.1 h
  rw [List.drop_eq_getElem_cons hk, List.reverse_cons]
end Cd

theorem bstr_at {zs : List Int} (h : Cd.grp zs) {s : ByteArray} (hs : s = bstr zs) (k : Nat) (hk : k < s.size) : zs[k]? = some (s[k].toNat : Int) := by
  subst hs
  have hkz : k < zs.length := by rw [bstr_size] at hk; exact hk
  rw [List.getElem?_eq_getElem hkz]
  congr 1
  have h1 : (bstr zs)[k] = UInt8.ofNat (zs[k]).toNat := by simp [bstr, ByteArray.getElem_eq_getElem_data]
  have := h zs[k] (List.getElem_mem hkz)
  rw [h1, UInt8.toNat_ofNat']
  omega
theorem own_lit0 (w : World) (e : TypeId) : (w.alloc (.cells #[] e)).ownsRow w.heap.size e 1 (.slice (some ⟨w.heap.size, 0, none⟩) 0 0) 0 [] :=
  World.ownsRow_lit w #[] 0 (Nat.le_refl _) (Nat.zero_le _) rfl

end Go.Proofs.Ytpfgjkgjeejghaa
