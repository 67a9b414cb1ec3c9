/-
  A map of the call's own that keeps answers: every entry is good (Memo); looking up and storing.
  Conditions: the key's type has its law (Keyed).
-/
import Derived.Test.YtlneedjhdnjnpaaKit
import Derived.Maps.Own
import Derived.Maps.OwnOps
namespace Go.Proofs.Ytlneedjhdnjnpaa
open Go.RowKit
open Go.Maps (Keyed)
open Go.ChangeMaps (setBlock modify_eq_set heap_setBlock_same heap_setBlock_other)
set_option linter.unusedVariables false

/-- Block b is a map all of whose entries are good. -/
def Memo (w : World) (P : Program) (k : TypeId) (b : Nat) (Good : Value → Value → Prop) : Prop :=
  ∃ es clock, w.heap[b]? = some (.map es clock) ∧ ∀ x ∈ es.toList, (∃ l, keyOf P k x.key = some l) ∧ Good x.key x.val
section
variable {w w' : World} {P : Program} {k t e : TypeId} {b : Nat} {Good : Value → Value → Prop}
theorem Memo.made (w : World) (P : Program) (k : TypeId) (Good : Value → Value → Prop) : Memo (w.alloc (.map #[] 0)) P k w.heap.size Good :=
  ⟨#[], 0, heap_alloc_new w _, fun x hx => by simp at hx⟩
theorem Memo.lt (h : Memo w P k b Good) : b < w.heap.size := by
  obtain ⟨es, clock, hb, _⟩ := h
  exact (Array.getElem?_eq_some_iff.1 hb).1
theorem Memo.kept {row : Option Nat} (h : Memo w P k b Good) (hg : w.grownBy w' row) (hne : some b ≠ row) : Memo w' P k b Good := by
  have hlt := h.lt
  obtain ⟨es, clock, hb, H⟩ := h
  exact ⟨es, clock, (hg.block b hlt hne).trans hb, H⟩
theorem Memo.below (h : Memo w P k b Good) (hb : Below w.heap.size w w') : Memo w' P k b Good := by
  have hlt := h.lt
  obtain ⟨es, clock, hb', H⟩ := h
  exact ⟨es, clock, (hb.block b hlt).trans hb', H⟩
theorem Memo.look (h : Memo w P k b Good) (K : Keyed P k) (ht : P.underlying t = some (.map k e)) {z : Value} (hz : (zeroValue e).run P w = .ok z w) {key : Value} {kl : Lit} (hkey : keyOf P k key = some kl) :
    (Instr.lookup t (.map (some b)) key true).run P w = .ok (.tuple #[z, .bool false]) w ∨ ∃ v, (Instr.lookup t (.map (some b)) key true).run P w = .ok (.tuple #[v, .bool true]) w ∧ Good key v := by
  obtain ⟨es, clock, hb, H⟩ := h
  rcases K.find w hkey es.toList (fun x hx => (H x hx).1) with ⟨h1, h2⟩ | ⟨j, e0, h1, h2, h3⟩
  · exact Or.inl (by simp [Instr.lookup, run_underlying ht, MapKept.run_getObj_map hb, K.check w _ hkey, h1, hz, Result.andThen])
  · refine Or.inr ⟨e0.val, by simp [Instr.lookup, run_underlying ht, MapKept.run_getObj_map hb, K.check w _ hkey, h1, Result.andThen], ?_⟩
    have := (H e0 (List.mem_of_getElem? h2)).2
    rw [h3] at this
    exact this
theorem Memo.store (h : Memo w P k b Good) (K : Keyed P k) (ht : P.underlying t = some (.map k e)) {key val : Value} {kl : Lit} (hkey : keyOf P k key = some kl) (hg : Good key val) :
    ∃ w', (Instr.mapUpdate t (.map (some b)) key val).run P w = .ok () w' ∧ Memo w' P k b Good ∧ w.grownBy w' (some b) := by
  obtain ⟨es, clock, hb, H⟩ := h
  rcases K.find w hkey es.toList (fun x hx => (H x hx).1) with ⟨h1, h2⟩ | ⟨j, e0, h1, h2, h3⟩
  · refine ⟨setBlock w b (.map (es.push ⟨key, val, clock⟩) (clock + 1)), ?_, ⟨_, _, heap_setBlock_same hb _, ?_⟩, ⟨rfl, rfl, rfl, by simp [setBlock], fun i _ hi => heap_setBlock_other hb _ (fun e => hi (by rw [e]))⟩⟩
    · simp [Instr.mapUpdate, run_underlying ht, MapKept.run_getObj_map hb, K.check w false hkey, h1, MapKept.run_setObj_map _ hb, Result.andThen, setBlock]
    · intro x hx
      simp only [Array.toList_push, List.mem_append, List.mem_singleton] at hx
      rcases hx with hx | rfl
      · exact H x hx
      · exact ⟨⟨_, hkey⟩, hg⟩
  · have hj : es[j]? = some e0 := by simpa using h2
    refine ⟨setBlock w b (.map (es.modify j (fun e' => { e' with key := key, val := val })) clock), ?_, ⟨_, _, heap_setBlock_same hb _, ?_⟩, ⟨rfl, rfl, rfl, by simp [setBlock], fun i _ hi => heap_setBlock_other hb _ (fun e => hi (by rw [e]))⟩⟩
    · simp [Instr.mapUpdate, run_underlying ht, MapKept.run_getObj_map hb, K.check w false hkey, h1, hj, h3, K.stays w hkey, MapKept.run_setObj_map _ hb, Result.andThen, setBlock]
    · intro x hx
      rw [Array.toList_modify, modify_eq_set _ _ _ _ h2] at hx
      rcases List.mem_or_eq_of_mem_set hx with hx | rfl
      · exact H x hx
      · exact ⟨⟨_, hkey⟩, hg⟩
theorem wpList_update_memo (w : World) {ops : Array Oper} {rest : List Oper} {o : Oper} {a : Act} {Q : Exit → Act → World → Prop}
    (hgd : o.guard = none) (m x v : Operand) (t : TypeId) (hop : o.op = Op.mapUpdate t m x v) (k e : TypeId) (K : Keyed P k) (ht : P.underlying t = some (.map k e)) (b : Nat) (Good : Value → Value → Prop)
    (hm : a.eval m = .map (some b)) (h : Memo w P k b Good) (key val : Value) (kl : Lit) (hx : a.eval x = key) (hv : a.eval v = val) (hkey : keyOf P k key = some kl) (hg : Good key val)
    (hK : ∀ w', Memo w' P k b Good → w.grownBy w' (some b) → wpList P ops Q rest (a.put o.dst undef) w') :
    wpList P ops Q (o :: rest) a w := by
  refine wpList_plain hgd fun K' hK' => ?_
  obtain ⟨w', hrun, r1, r2⟩ := h.store K ht hkey hg
  unfold Oper.wp
  simp [execOp, hop, hm, hx, hv, hrun, Result.andThen]
  exact hK' _ _ (hK w' r1 r2)
end
theorem grown_seq {w w1 w2 : World} {row : Option Nat} (h : w.grownBy w1 row) (k : w1.grownBy w2 row) : w.grownBy w2 row :=
  ⟨k.os.trans h.os, k.tape.trans h.tape, k.output.trans h.output, Nat.le_trans h.size k.size, fun i hi hne => (k.block i (Nat.lt_of_lt_of_le hi h.size) hne).trans (h.block i hi hne)⟩
theorem grown_ofB {w w1 : World} {row : Option Nat} (h : Below w.heap.size w w1) : w.grownBy w1 row :=
  ⟨h.os, h.tape, h.output, h.size, fun i hi _ => h.block i hi⟩
end Go.Proofs.Ytlneedjhdnjnpaa
