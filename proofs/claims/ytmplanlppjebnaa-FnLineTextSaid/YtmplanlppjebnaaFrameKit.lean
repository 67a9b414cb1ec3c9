/-
  Words for the frames of the laws: what an argument that came in reads as, in the words of the walks (RdI, RdB).
-/
import Derived.Test.YtmplanlppjebnaaKit
import Derived.OpenShut
import Derived.ShutString
import Derived.ChangeOld
namespace Go.Proofs.Ytmplanlppjebnaa
open Go.RowKit
set_option linter.unusedVariables false

/-- The slice value '.slice A n c' holds the bytes bs. -/
def RdB (w : World) (A : Option Addr) (n : Nat) (bs : List UInt8) : Prop := Rd w A n (bs.map fun b => Value.int .u8 b.toNat)

theorem rdI_of_cells {w : World} {a : Addr} {len cap : Nat} {zs : List Int} (hl : len ≤ cap) (hz : zs.length = cap) (hc : ∀ i, i < zs.length → w.cell? (a.add i) = some (.int .i64 (zs.getD i 0))) : RdI w (some a) len (zs.take len) := by
  refine ⟨by simp; omega, fun h0 => ?_⟩
  obtain ⟨b, off, spot⟩ := a
  have h1 := hc 0 (by omega)
  have hspot : spot = none := by simpa [Addr.add] using World.cell?_spot h1
  subst hspot
  refine ⟨b, off, rfl, fun j u hu => ?_⟩
  rw [List.getElem?_map] at hu
  obtain ⟨z, hz', rfl⟩ := Option.map_eq_some_iff.1 hu
  rw [List.getElem?_take] at hz'
  split at hz'
  · obtain ⟨hj, rfl⟩ := List.getElem?_eq_some_iff.1 hz'
    have h2 := hc j hj
    rw [Addr.add_lit] at h2
    rw [h2]
    simp [hj]
  · cases hz'
theorem rdB_of_cells {w : World} {a : Addr} {len cap : Nat} {zs : List Int} (hl : len ≤ cap) (hz : zs.length = cap) (hc : ∀ i, i < zs.length → w.cell? (a.add i) = some (.int .u8 (zs.getD i 0))) (hw : ∀ n ∈ zs, (Lit.int .u8 n).wf = true) :
    RdB w (some a) len ((zs.take len).map fun z => UInt8.ofNat z.toNat) := by
  refine ⟨by simp; omega, fun h0 => ?_⟩
  obtain ⟨b, off, spot⟩ := a
  have h1 := hc 0 (by omega)
  have hspot : spot = none := by simpa [Addr.add] using World.cell?_spot h1
  subst hspot
  refine ⟨b, off, rfl, fun j u hu => ?_⟩
  rw [List.getElem?_map, List.getElem?_map] at hu
  obtain ⟨z', hz', rfl⟩ := Option.map_eq_some_iff.1 hu
  obtain ⟨z, hz'', rfl⟩ := Option.map_eq_some_iff.1 hz'
  rw [List.getElem?_take] at hz''
  split at hz''
  · obtain ⟨hj, rfl⟩ := List.getElem?_eq_some_iff.1 hz''
    have h2 := hc j hj
    rw [Addr.add_lit] at h2
    rw [h2]
    have hb := bounds_u8 (hw _ (List.getElem_mem hj))
    have e : zs.getD j 0 = zs[j] := by simp [hj]
    rw [e]
    have : ((UInt8.ofNat (zs[j]).toNat).toNat : Int) = zs[j] := by
      rw [UInt8.toNat_ofNat']
      omega
    rw [this]
  · cases hz''
end Go.Proofs.Ytmplanlppjebnaa
