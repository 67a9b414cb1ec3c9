/-
  Small laws on worlds that have grown: what a source of drawn numbers and a block of three cells keep.
  Conditions: none.
-/
import Derived.Test.YtlneedjhdnjnpaaDraw
import Derived.Test.YtlneedjhdnjnpaaBlk9
namespace Go.Proofs.Ytlneedjhdnjnpaa
open Go.RowKit
set_option linter.unusedVariables false

theorem gw_refl (w : World) (row : Option Nat) : w.grownBy w row := World.grownBy.refl w row
theorem gw_trans {a b c : World} {row : Option Nat} (h : a.grownBy b row) (k : b.grownBy c row) : a.grownBy c row :=
  ⟨k.os.trans h.os, k.tape.trans h.tape, k.output.trans h.output, Nat.le_trans h.size k.size, fun i hi hne => (k.block i (Nat.lt_of_lt_of_le hi h.size) hne).trans (h.block i hi hne)⟩
/-- Writes to a row that is new change nothing that was there. -/
theorem gw_new {a b c : World} {row row' : Option Nat} (h : a.grownBy b row) (k : b.grownBy c row') (hr : ∀ r, row' = some r → a.heap.size ≤ r) : a.grownBy c row :=
  ⟨k.os.trans h.os, k.tape.trans h.tape, k.output.trans h.output, Nat.le_trans h.size k.size, fun i hi hne => (k.block i (Nat.lt_of_lt_of_le hi h.size) (fun e => by have := hr i e.symm; omega)).trans (h.block i hi hne)⟩
theorem gw_alloc {a b : World} {row : Option Nat} (h : a.grownBy b row) (o : Obj) : a.grownBy (b.alloc o) row := gw_new h (World.grownBy_alloc b o none) (fun r e => by cases e)
theorem gw_below {a b c : World} {row : Option Nat} {B : Nat} (h : a.grownBy b row) (k : Below B b c) (hB : a.heap.size ≤ B) : a.grownBy c row :=
  ⟨k.os.trans h.os, k.tape.trans h.tape, k.output.trans h.output, Nat.le_trans h.size k.size, fun i hi hne => (k.block i (by omega)).trans (h.block i hi hne)⟩
theorem gw_belowAll {a b c : World} {row : Option Nat} (h : a.grownBy b row) (k : Below b.heap.size b c) : a.grownBy c row := gw_below h k h.size
theorem gw_drew {a b : World} {row : Option Nat} (h : a.grownBy b row) : a.grownBy b.drew row := ⟨h.os, h.tape, h.output, h.size, h.block⟩
theorem gw_drewN {a b : World} {row : Option Nat} (h : a.grownBy b row) (n : Nat) : a.grownBy (b.drewN n) row := ⟨h.os, h.tape, h.output, h.size, h.block⟩
theorem Src.lts {w : World} {L g p : Nat} (h : Src w L g p) : g < L ∧ L ≤ w.heap.size := ⟨h.1, h.2.1⟩
theorem Src.belowAll {w w' : World} {L g p : Nat} (h : Src w L g p) (hb : Below w.heap.size w w') : Src w' L g p := h.below hb h.lts.2
theorem Src.drewS {w : World} {L g p : Nat} (h : Src w L g p) : Src w.drew L g p := h
theorem gw_set (w : World) (B j : Nat) (v : Value) : w.grownBy (w.setCell ⟨B, j, none⟩ v) (some B) :=
  ⟨rfl, rfl, rfl, by simp, fun k _ hk => heap_setCell_other w ⟨B, j, none⟩ k _ (fun e => hk (by simp [e]))⟩
theorem gw_set3 (w : World) (B : Nat) (v0 v1 v2 : Value) : w.grownBy (set3 w B v0 v1 v2) (some B) :=
  gw_trans (gw_trans (gw_set w B 0 v0) (gw_set _ B 1 v1)) (gw_set _ B 2 v2)
theorem cell_same {w w' : World} {B j : Nat} (h : w'.heap[B]? = w.heap[B]?) : w'.cell? ⟨B, j, none⟩ = w.cell? ⟨B, j, none⟩ := by simp [World.cell?, h]
theorem frozen_same {w w' : World} {B j : Nat} (h : w'.heap[B]? = w.heap[B]?) : w'.frozen? ⟨B, j, none⟩ = w.frozen? ⟨B, j, none⟩ := by simp [World.frozen?, h]
theorem Room.same {w w' : World} {B : Nat} {v0 v1 v2 : Value} (h : Room w B v0 v1 v2) (hb : w'.heap[B]? = w.heap[B]?) : Room w' B v0 v1 v2 := by
  obtain ⟨h0, h1, h2, f0, f1, f2⟩ := h
  exact ⟨(cell_same hb).trans h0, (cell_same hb).trans h1, (cell_same hb).trans h2, (frozen_same hb).trans f0, (frozen_same hb).trans f1, (frozen_same hb).trans f2⟩
theorem Room.grown {w w' : World} {B : Nat} {v0 v1 v2 : Value} {row : Option Nat} (h : Room w B v0 v1 v2) (hg : w.grownBy w' row) (hr : ∀ r, row = some r → B ≠ r) : Room w' B v0 v1 v2 :=
  h.same (hg.block B h.lt (fun e => hr B e.symm rfl))
theorem room_alloc (w : World) (v0 v1 v2 : Value) (t : TypeId) : Room (w.alloc (.cells #[v0, v1, v2] t)) w.heap.size v0 v1 v2 := by
  refine ⟨?_, ?_, ?_, ?_, ?_, ?_⟩ <;> simp [go_sem]
end Go.Proofs.Ytlneedjhdnjnpaa
