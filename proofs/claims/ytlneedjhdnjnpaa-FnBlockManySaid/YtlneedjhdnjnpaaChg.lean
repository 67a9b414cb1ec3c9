/-
  Worlds that differ from an earlier one at most in some old blocks and in new ones.
  Conditions: none.
-/
import Derived.Test.YtlneedjhdnjnpaaKit
namespace Go.Proofs.Ytlneedjhdnjnpaa
open Go.RowKit
set_option linter.unusedVariables false

/-- Of the blocks of w only those in S may differ in w'. -/
structure Chg (S : Nat → Prop) (w w' : World) : Prop where
  os : w'.os = w.os
  tape : w'.tape = w.tape
  output : w'.output = w.output
  size : w.heap.size ≤ w'.heap.size
  block : ∀ k, k < w.heap.size → ¬ S k → w'.heap[k]? = w.heap[k]?
section
variable {S T : Nat → Prop} {w w1 w2 w' : World}
theorem Chg.refl (S : Nat → Prop) (w : World) : Chg S w w := ⟨rfl, rfl, rfl, Nat.le_refl _, fun _ _ _ => rfl⟩
theorem Chg.of_grown {row : Option Nat} (h : w.grownBy w' row) : Chg (fun k => some k = row) w w' := ⟨h.os, h.tape, h.output, h.size, fun k hk hn => h.block k hk hn⟩
theorem Chg.of_below (h : Below w.heap.size w w') : Chg S w w' := ⟨h.os, h.tape, h.output, h.size, fun k hk _ => h.block k hk⟩
theorem Chg.mono (h : Chg S w w') (hs : ∀ k, k < w.heap.size → S k → T k) : Chg T w w' := ⟨h.os, h.tape, h.output, h.size, fun k hk hn => h.block k hk (fun e => hn (hs k hk e))⟩
theorem Chg.trans (h : Chg S w w1) (k : Chg T w1 w2) (hs : ∀ i, i < w.heap.size → T i → S i) : Chg S w w2 :=
  ⟨k.os.trans h.os, k.tape.trans h.tape, k.output.trans h.output, Nat.le_trans h.size k.size, fun i hi hne => (k.block i (Nat.lt_of_lt_of_le hi h.size) (fun e => hne (hs i hi e))).trans (h.block i hi hne)⟩
theorem Chg.seq (h : Chg S w w1) (k : Below w1.heap.size w1 w2) : Chg S w w2 := h.trans (Chg.of_below (S := S) k) (fun _ _ h => h)
theorem Chg.drewN (h : Chg S w w') (n : Nat) : Chg S w (w'.drewN n) := ⟨h.os, h.tape, h.output, h.size, h.block⟩
theorem Chg.drew (h : Chg S w w') : Chg S w w'.drew := ⟨h.os, h.tape, h.output, h.size, h.block⟩
theorem Chg.alloc (h : Chg S w w') (o : Obj) : Chg S w (w'.alloc o) := h.seq ((Below.refl _ _).alloc (Nat.le_refl _) _)
theorem Chg.set (h : Chg S w w') {p : Addr} (hp : p.block < w.heap.size → S p.block) (u : Value) : Chg S w (w'.setCell p u) :=
  ⟨h.os, h.tape, h.output, by simpa using h.size, fun k hk hn => (heap_setCell_other w' p k u (fun e => hn (by subst e; exact hp hk))).trans (h.block k hk hn)⟩
theorem Chg.below {B : Nat} (h : Chg S w w') (hs : ∀ k, k < w.heap.size → S k → B ≤ k) (hB : B ≤ w.heap.size) : Below B w w' :=
  ⟨h.os, h.tape, h.output, h.size, fun k hk => h.block k (by omega) (fun e => by have := hs k (by omega) e; omega)⟩
theorem Chg.to_below (h : Chg S w w') (hs : ∀ k, k < w.heap.size → ¬ S k) : Below w.heap.size w w' :=
  ⟨h.os, h.tape, h.output, h.size, fun k hk => h.block k hk (hs k hk)⟩
/-- Changes of what is new against an earlier world change nothing there. -/
theorem Chg.on {w0 : World} {B : Nat} (h : Below B w0 w) (k : Chg S w w') (hs : ∀ i, i < w.heap.size → S i → B ≤ i) (hB : B ≤ w.heap.size) : Below B w0 w' :=
  h.trans (k.below hs hB)
theorem Chg.cell (h : Chg S w w') {b j : Nat} {v : Value} (hc : w.cell? ⟨b, j, none⟩ = some v) (hn : ¬ S b) : w'.cell? ⟨b, j, none⟩ = some v :=
  (World.cell?_of_block (a := ⟨b, j, none⟩) (h.block b (block_lt_of_cell hc) hn)).trans hc
theorem Chg.frozen (h : Chg S w w') {b j : Nat} (hb : b < w.heap.size) (hn : ¬ S b) : w'.frozen? ⟨b, j, none⟩ = w.frozen? ⟨b, j, none⟩ :=
  World.frozen?_of_block (a := ⟨b, j, none⟩) (h.block b hb hn)
theorem Chg.rd {A : Option Addr} {n : Nat} {xs : List Value} (h : Chg S w w') (hx : Rd w A n xs) (hn : ∀ a, 0 < n → A = some a → ¬ S a.block) : Rd w' A n xs :=
  hx.keep fun b off j u h0 e hc => h.cell hc (hn _ h0 e)
theorem Chg.own {base : Nat} {e : TypeId} {size : Nat} {v : Value} {n : Nat} {xs : List Value} (h : Chg S w w') (hx : w.ownsRow base e size v n xs) (hn : ∀ g, v.ownBlock = some g → ¬ S g) : w'.ownsRow base e size v n xs := by
  have hlt := hx.lt
  refine ⟨hx.1, ?_⟩
  rcases hx.2 with hn' | ⟨g, cap, cur, rfl, hbg, hgg, rest⟩
  · exact .inl hn'
  · exact .inr ⟨g, cap, cur, rfl, hbg, (h.block g (hlt g rfl).2 (hn g rfl)).trans hgg, rest⟩
end
end Go.Proofs.Ytlneedjhdnjnpaa
