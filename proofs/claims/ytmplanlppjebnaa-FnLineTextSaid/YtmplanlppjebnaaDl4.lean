/-
  Append onto an empty row, as a step of a region that draws its order; rooms of two cells; lines as values.
  Conditions: none.
-/
import Derived.Test.YtmplanlppjebnaaDl3
import Derived.Test.YtmplanlppjebnaaSteps
import Derived.ArgAppend
import Derived.Deep.RegionHeld3
import Derived.Deep.RegionHeldLaw
import Derived.Deep.CutRange
namespace Go.Proofs.Ytmplanlppjebnaa
open Go.RowKit
set_option linter.unusedVariables false

theorem run_append_empty {P : Program} (w : World) (t ty e : TypeId) (i : TypeInfo) (z : Value) (size bytes : Nat) (ht : P.underlying t = some (.slice e)) (hi : P.info? e = some i) (hz : i.zero = some z)
    (hsize : i.size = size) (hby : i.bytes = bytes) (hzs : z.cells.size = size) (hsz : 0 < size) (g : Nat)
    (ad : Addr) (m c : Nat) (news : List Value) (hl : news.length = m * size) (hnews : ∀ j u, news[j]? = some u → w.cell? (ad.add j) = some u)
    (h63 : m ≤ maxLen) (hbytes : m * bytes ≤ 140737488355328) :
    ∃ g' cap' w', (Builtin.append_ #[t, t] ty #[.slice (some ⟨g, 0, none⟩) 0 0, .slice (some ad) m c]).run P w = .ok (.slice (some ⟨g', 0, none⟩) m cap') w' ∧
      (0 < m → w'.ownsRow w.heap.size e size (.slice (some ⟨g', 0, none⟩) m cap') m news ∧ w.heap.size ≤ g' ∧ g' < w'.heap.size) ∧ Below w.heap.size w w' := by
  by_cases hm : 0 < m
  · obtain ⟨v1, w1, hr1, k2, k3⟩ := run_append_arg_grows (P := P) w t ty e i z size bytes ht hi hz hsize hby hzs hsz ⟨g, 0, none⟩ 0 0 [] (by simp) (fun j u h => by simp at h) ad m c news hl hnews (by omega) (by omega) (by simpa using hbytes)
    simp only [Nat.zero_add, List.nil_append] at k2
    obtain ⟨g1, cap1, rfl, hb1, hlt1⟩ := k2.form hm
    exact ⟨g1, cap1, w1, hr1, fun _ => ⟨k2, hb1, hlt1⟩, (Below.refl w.heap.size w).grown k3 (Nat.le_refl _) (fun k h => by cases h)⟩
  · obtain rfl : m = 0 := by omega
    have hn : news = [] := List.eq_nil_of_length_eq_zero (by omega)
    subst hn
    refine ⟨g, 0, w, ?_, fun h => absurd h hm, Below.refl _ _⟩
    have hf := run_firstCells_some (P := P) w i.size 0 ad 0 c [] (by simp) (fun j u h => by simp at h)
    simp [Builtin.append_, run_underlying ht, sizeOf, typeInfo, hi, Builtin.lenOf, hf, storeCells]
/-- At the operation. -/
theorem step_append_empty {P : Program} (w : World) {ops : Array Oper} {o : Oper} {a : Act} {K : Act → World → Prop} {Q : Exit → Act → World → Prop} {E : Prop} (hgd : o.guard = none) (s x : Operand) (t : TypeId)
    (ho : o.op = .call { callee := .builtin .append, args := #[s, x], argTypes := #[t, t] })
    (e : TypeId) (i : TypeInfo) (z : Value) (size bytes : Nat) (ht : P.underlying t = some (.slice e)) (hi : P.info? e = some i) (hz : i.zero = some z)
    (hsize : i.size = size) (hby : i.bytes = bytes) (hzs : z.cells.size = size) (hsz : 0 < size)
    (g : Nat) (hs : a.eval s = .slice (some ⟨g, 0, none⟩) 0 0)
    (ad : Addr) (m c : Nat) (news : List Value) (hx : a.eval x = .slice (some ad) m c) (hl : news.length = m * size) (hnews : ∀ j u, news[j]? = some u → w.cell? (ad.add j) = some u)
    (h63 : m ≤ maxLen) (hbytes : m * bytes ≤ 140737488355328)
    (h : ∀ g' cap' w', (0 < m → w'.ownsRow w.heap.size e size (.slice (some ⟨g', 0, none⟩) m cap') m news ∧ w.heap.size ≤ g' ∧ g' < w'.heap.size) → Below w.heap.size w w' → K (a.put o.dst (.slice (some ⟨g', 0, none⟩) m cap')) w') :
    if Region.wanted o (yielded ops a.tmps) = true then Oper.wp P o a w K Q else E := by
  have hw : Region.wanted o (yielded ops a.tmps) = true := by simp [Region.wanted, hgd]
  rw [if_pos hw]
  obtain ⟨g', cap', w', hr, h2, h3⟩ := run_append_empty (P := P) w t o.type e i z size bytes ht hi hz hsize hby hzs hsz g ad m c news hl hnews h63 hbytes
  unfold Oper.wp execOp
  simp only [ho, resolve, invoke, builtin, Sem.run_bind, Sem.run_pure, Result.andThen_ok, List.map_toArray, List.map_cons, List.map_nil, hs, hx, hr]
  exact h g' cap' w' h2 h3
/-- Two cells of a block that may be written. -/
structure RmF (W : World) (b : Nat) (u v : Value) : Prop where
  c0 : W.cell? ⟨b, 0, none⟩ = some u
  c1 : W.cell? ⟨b, 1, none⟩ = some v
  f0 : W.frozen? ⟨b, 0, none⟩ = false
  f1 : W.frozen? ⟨b, 1, none⟩ = false
theorem RmF.below {W W' : World} {b : Nat} {u v : Value} (r : RmF W b u v) (hb : Below W.heap.size W W') : RmF W' b u v := ⟨(hb.cell (block_lt_of_cell r.c0)).trans r.c0, (hb.cell (block_lt_of_cell r.c1)).trans r.c1, (hb.frozen (block_lt_of_cell r.c0)).trans r.f0, (hb.frozen (block_lt_of_cell r.c1)).trans r.f1⟩
theorem RmF.new (W : World) (u v : Value) (t : TypeId) : RmF (W.alloc (.cells #[u, v] t)) W.heap.size u v := by constructor <;> simp [go_sem]
theorem RmF.alloc {W : World} {b : Nat} {u v : Value} (r : RmF W b u v) (o : Obj) : RmF (W.alloc o) b u v := r.below ((Below.refl _ _).alloc (Nat.le_refl _) _)
theorem RmF.lt {W : World} {b : Nat} {u v : Value} (r : RmF W b u v) : b < W.heap.size := block_lt_of_cell r.c0
theorem RmF.far {W : World} {b : Nat} {u v : Value} (r : RmF W b u v) {p : Addr} (h : b ≠ p.block) (x : Value) : RmF (W.setCell p x) b u v :=
  ⟨(World.cell?_setCell_other W p ⟨b, 0, none⟩ x (fun e => h (by rw [e]))).trans r.c0, (World.cell?_setCell_other W p ⟨b, 1, none⟩ x (fun e => h (by rw [e]))).trans r.c1, by simpa [go_sem] using r.f0, by simpa [go_sem] using r.f1⟩
/-- What is asked of a line. -/
structure LnA (W : World) (A : Option Addr) (n : Nat) (B : Option Addr) (m : Nat) (xs : List B3) (zs : List Int) : Prop where
  bl : RdW W A n xs
  tr : RdI W B m zs
  hn : n ≤ 5
  hm : m ≤ 5
  hb : 1 ≤ n → ∃ bb bo, B = some ⟨bb, bo, none⟩
theorem RdW.far {w : World} {A : Option Addr} {n : Nat} {xs : List B3} (h : RdW w A n xs) {p : Addr} (hp : ∀ a, 0 < n → A = some a → a.block ≠ p.block) (u : Value) : RdW (w.setCell p u) A n xs :=
  h.keep fun b off j _ h0 e hq => (World.cell?_setCell_other w p ⟨b, j, none⟩ u (fun e' => hp _ h0 e (by rw [e']))).trans hq
section
variable {W W' : World} {A : Option Addr} {n : Nat} {B : Option Addr} {m : Nat} {xs : List B3} {zs : List Int}
theorem LnA.below (h : LnA W A n B m xs zs) (hb : Below W.heap.size W W') : LnA W' A n B m xs zs := ⟨h.bl.below hb, RdI.below h.tr hb, h.hn, h.hm, h.hb⟩
theorem LnA.far (h : LnA W A n B m xs zs) {p : Addr} (h1 : ∀ a, 0 < n → A = some a → a.block ≠ p.block) (h2 : ∀ a, 0 < m → B = some a → a.block ≠ p.block) (u : Value) : LnA (W.setCell p u) A n B m xs zs :=
  ⟨h.bl.far h1 u, Rd.far h.tr (fun h0 a e => h2 a h0 e) u, h.hn, h.hm, h.hb⟩
end
/-- A line as a value, in memory that reads, its rows no older than block b. -/
def LinR (b : Nat) (w : World) (v : Value) : Prop := ∃ A n c B m d xs zs, v = liv A n c B m d ∧ LnA w A n B m xs zs ∧ (∀ a, 0 < n → A = some a → b ≤ a.block) ∧ (∀ a, 0 < m → B = some a → b ≤ a.block)
theorem LinR.below {b : Nat} {w w' : World} {v : Value} (h : LinR b w v) (hb : Below w.heap.size w w') : LinR b w' v :=
  let ⟨A, n, c, B, m, d, xs, zs, e, hx, r⟩ := h
  ⟨A, n, c, B, m, d, xs, zs, e, hx.below hb, r⟩
theorem LinR.base {b b' : Nat} {w : World} {v : Value} (h : LinR b w v) (hb : b' ≤ b) : LinR b' w v :=
  let ⟨A, n, c, B, m, d, xs, zs, e, hx, r1, r2⟩ := h
  ⟨A, n, c, B, m, d, xs, zs, e, hx, fun a h0 e => Nat.le_trans hb (r1 a h0 e), fun a h0 e => Nat.le_trans hb (r2 a h0 e)⟩
theorem LinR.far {b y o : Nat} {w : World} {v : Value} (h : LinR b w v) (hy : y < b) (u : Value) : LinR b (w.setCell ⟨y, o, none⟩ u) v :=
  let ⟨A, n, c, B, m, d, xs, zs, e, hx, r1, r2⟩ := h
  ⟨A, n, c, B, m, d, xs, zs, e, hx.far (fun a h0 e => by have := r1 a h0 e; show a.block ≠ y; omega) (fun a h0 e => by have := r2 a h0 e; show a.block ≠ y; omega) u, r1, r2⟩
theorem LinR.zero (b : Nat) (w : World) : LinR b w (liv none 0 0 none 0 0) := ⟨none, 0, 0, none, 0, 0, [], [], rfl, ⟨RdW.none_ w none, Rd.none_ w none, by omega, by omega, fun h => by omega⟩, fun a h => by omega, fun a h => by omega⟩
end Go.Proofs.Ytmplanlppjebnaa
