/-
  Contract of the reference's l4Step: it answers at every line that reads as blocks and trains and at every move, with a line that reads again.
  Conditions: one to five blocks, at most five trains.
-/
import Derived.Test.YtmplanlppjebnaaDl4
import Derived.Test.YtmplanlppjebnaaLn2
namespace Go.Proofs.Ytmplanlppjebnaa
open Go.RowKit
set_option linter.unusedVariables false
set_option linter.unusedSimpArgs false
attribute [local go_sem ↓] Go.wp_at_zero Go.wp_at_succ

theorem rdW_cells {w : World} {b off n : Nat} {xs : List B3} (h : RdW w (some ⟨b, off, none⟩) n xs) : ∀ j u, (flat3 xs)[j]? = some u → w.cell? ((⟨b, off, none⟩ : Addr).add j) = some u := by
  intro j u hu
  have hj : j < xs.length * 3 := by rw [← flat3_len]; exact (List.getElem?_eq_some_iff.1 hu).1
  obtain ⟨p, hp⟩ : ∃ p, xs[j / 3]? = some p := ⟨_, List.getElem?_eq_getElem (by omega)⟩
  obtain ⟨b', off', e, hc⟩ := h.2 (by have := h.1; omega)
  simp only [Option.some.injEq, Addr.mk.injEq, and_true] at e
  obtain ⟨rfl, rfl⟩ := e
  obtain ⟨c0, c1, c2⟩ := hc _ p hp
  obtain ⟨f0, f1, f2⟩ := flat3_at hp
  rw [Addr.add_lit]
  rcases (show j % 3 = 0 ∨ j % 3 = 1 ∨ j % 3 = 2 by omega) with e | e | e
  · rw [show j / 3 * 3 = j by omega] at f0 c0
    rw [f0] at hu
    cases hu
    exact c0
  · rw [show j / 3 * 3 + 1 = j by omega] at f1
    rw [Nat.add_assoc, show j / 3 * 3 + 1 = j by omega] at c1
    rw [f1] at hu
    cases hu
    exact c1
  · rw [show j / 3 * 3 + 2 = j by omega] at f2
    rw [Nat.add_assoc, show j / 3 * 3 + 2 = j by omega] at c2
    rw [f2] at hu
    cases hu
    exact c2
theorem rdI_cells {w : World} {b off n : Nat} {zs : List Int} (h : RdI w (some ⟨b, off, none⟩) n zs) : ∀ j u, (zs.map (Value.int .i64))[j]? = some u → w.cell? ((⟨b, off, none⟩ : Addr).add j) = some u := by
  intro j u hu
  have hj : j < (zs.map (Value.int .i64)).length := (List.getElem?_eq_some_iff.1 hu).1
  obtain ⟨b', off', e, hc⟩ := h.2 (by have := h.1; omega)
  simp only [Option.some.injEq, Addr.mk.injEq, and_true] at e
  obtain ⟨rfl, rfl⟩ := e
  rw [Addr.add_lit]
  exact hc j u hu

theorem boxes3 (w : World) (u0 u1 v0 v1 z0 z1 : Value) (t1 t2 t3 : TypeId) :
    RmF (((w.alloc (.cells #[u0, u1] t1)).alloc (.cells #[v0, v1] t2)).alloc (.cells #[z0, z1] t3)) w.heap.size u0 u1 ∧
    RmF (((w.alloc (.cells #[u0, u1] t1)).alloc (.cells #[v0, v1] t2)).alloc (.cells #[z0, z1] t3)) (w.heap.size + 1) v0 v1 ∧
    RmF (((w.alloc (.cells #[u0, u1] t1)).alloc (.cells #[v0, v1] t2)).alloc (.cells #[z0, z1] t3)) (w.heap.size + 1 + 1) z0 z1 ∧
    Below w.heap.size w (((w.alloc (.cells #[u0, u1] t1)).alloc (.cells #[v0, v1] t2)).alloc (.cells #[z0, z1] t3)) := by
  refine ⟨((RmF.new w u0 u1 t1).alloc _).alloc _, ?_, ?_, (((Below.refl w.heap.size w).alloc (Nat.le_refl _) _).alloc (by simp) _).alloc (by simp; omega) _⟩
  · have h := (RmF.new (w.alloc (.cells #[u0, u1] t1)) v0 v1 t2).alloc (.cells #[z0, z1] t3)
    simp only [World.size_alloc] at h
    exact h
  · have h := RmF.new ((w.alloc (.cells #[u0, u1] t1)).alloc (.cells #[v0, v1] t2)) z0 z1 t3
    simp only [World.size_alloc] at h
    exact h
/-- What region 3 reads. -/
theorem s3_below {W w2 : World} {L ab ao q : Nat} {u0 v0 v1 c0 c1 c2 : Value} (hb : Below W.heap.size W w2)
    (h : (W.cell? ⟨L, 0, none⟩ = some u0 ∧ W.cell? ⟨L + 1, 0, none⟩ = some v0 ∧ W.cell? ⟨L + 1, 1, none⟩ = some v1) ∧ (W.cell? ⟨ab, ao + q * 3, none⟩ = some c0 ∧ W.cell? ⟨ab, ao + q * 3 + 1, none⟩ = some c1 ∧ W.cell? ⟨ab, ao + q * 3 + 2, none⟩ = some c2)) :
    (w2.cell? ⟨L, 0, none⟩ = some u0 ∧ w2.cell? ⟨L + 1, 0, none⟩ = some v0 ∧ w2.cell? ⟨L + 1, 1, none⟩ = some v1) ∧ (w2.cell? ⟨ab, ao + q * 3, none⟩ = some c0 ∧ w2.cell? ⟨ab, ao + q * 3 + 1, none⟩ = some c1 ∧ w2.cell? ⟨ab, ao + q * 3 + 2, none⟩ = some c2) := by
  obtain ⟨⟨h1, h2, h3⟩, h4, h5, h6⟩ := h
  have k : ∀ {p : Addr} {u : Value}, W.cell? p = some u → w2.cell? p = some u := fun hp => (hb.cell (block_lt_of_cell hp)).trans hp
  exact ⟨⟨k h1, k h2, k h3⟩, k h4, k h5, k h6⟩
theorem s3_set {W w2 : World} {L ab ao q : Nat} {u0 v0 v1 c0 c1 c2 u v t : Value}
    (h : (W.cell? ⟨L, 0, none⟩ = some u0 ∧ W.cell? ⟨L + 1, 0, none⟩ = some v0 ∧ W.cell? ⟨L + 1, 1, none⟩ = some v1) ∧ (W.cell? ⟨ab, ao + q * 3, none⟩ = some c0 ∧ W.cell? ⟨ab, ao + q * 3 + 1, none⟩ = some c1 ∧ W.cell? ⟨ab, ao + q * 3 + 2, none⟩ = some c2))
    (h2 : (w2.cell? ⟨L, 0, none⟩ = some u0 ∧ w2.cell? ⟨L + 1, 0, none⟩ = some v0 ∧ w2.cell? ⟨L + 1, 1, none⟩ = some v1) ∧ (w2.cell? ⟨ab, ao + q * 3, none⟩ = some c0 ∧ w2.cell? ⟨ab, ao + q * 3 + 1, none⟩ = some c1 ∧ w2.cell? ⟨ab, ao + q * 3 + 2, none⟩ = some c2)) :
    ((((w2.setCell ⟨W.heap.size, 0, none⟩ u).setCell ⟨W.heap.size, 1, none⟩ v).setCell ⟨W.heap.size, 2, none⟩ t).cell? ⟨L, 0, none⟩ = some u0 ∧ (((w2.setCell ⟨W.heap.size, 0, none⟩ u).setCell ⟨W.heap.size, 1, none⟩ v).setCell ⟨W.heap.size, 2, none⟩ t).cell? ⟨L + 1, 0, none⟩ = some v0 ∧ (((w2.setCell ⟨W.heap.size, 0, none⟩ u).setCell ⟨W.heap.size, 1, none⟩ v).setCell ⟨W.heap.size, 2, none⟩ t).cell? ⟨L + 1, 1, none⟩ = some v1) ∧
    ((((w2.setCell ⟨W.heap.size, 0, none⟩ u).setCell ⟨W.heap.size, 1, none⟩ v).setCell ⟨W.heap.size, 2, none⟩ t).cell? ⟨ab, ao + q * 3, none⟩ = some c0 ∧ (((w2.setCell ⟨W.heap.size, 0, none⟩ u).setCell ⟨W.heap.size, 1, none⟩ v).setCell ⟨W.heap.size, 2, none⟩ t).cell? ⟨ab, ao + q * 3 + 1, none⟩ = some c1 ∧ (((w2.setCell ⟨W.heap.size, 0, none⟩ u).setCell ⟨W.heap.size, 1, none⟩ v).setCell ⟨W.heap.size, 2, none⟩ t).cell? ⟨ab, ao + q * 3 + 2, none⟩ = some c2) := by
  obtain ⟨⟨h1, h3, h4⟩, h5, h6, h7⟩ := h
  obtain ⟨⟨k1, k3, k4⟩, k5, k6, k7⟩ := h2
  have k : ∀ {p : Addr} {x y : Value}, W.cell? p = some y → w2.cell? p = some x → (((w2.setCell ⟨W.heap.size, 0, none⟩ u).setCell ⟨W.heap.size, 1, none⟩ v).setCell ⟨W.heap.size, 2, none⟩ t).cell? p = some x := fun {p x y} hp hq => by
    have hl := block_lt_of_cell hp
    rw [World.cell?_setCell_other _ _ _ _ (fun e => by rw [← e] at hl; exact Nat.lt_irrefl _ hl), World.cell?_setCell_other _ _ _ _ (fun e => by rw [← e] at hl; exact Nat.lt_irrefl _ hl), World.cell?_setCell_other _ _ _ _ (fun e => by rw [← e] at hl; exact Nat.lt_irrefl _ hl)]
    exact hq
  exact ⟨⟨k h1 k1, k h3 k3, k h4 k4⟩, k h5 k5, k h6 k6, k h7 k7⟩
theorem set3_cells {w2 : World} {X : Nat} {a0 a1 a2 : Value} (u v t : Value) (h0 : w2.cell? ⟨X, 0, none⟩ = some a0) (h1 : w2.cell? ⟨X, 1, none⟩ = some a1) (h2 : w2.cell? ⟨X, 2, none⟩ = some a2) :
    (((w2.setCell ⟨X, 0, none⟩ u).setCell ⟨X, 1, none⟩ v).setCell ⟨X, 2, none⟩ t).cell? ⟨X, 0, none⟩ = some u ∧ (((w2.setCell ⟨X, 0, none⟩ u).setCell ⟨X, 1, none⟩ v).setCell ⟨X, 2, none⟩ t).cell? ⟨X, 1, none⟩ = some v ∧ (((w2.setCell ⟨X, 0, none⟩ u).setCell ⟨X, 1, none⟩ v).setCell ⟨X, 2, none⟩ t).cell? ⟨X, 2, none⟩ = some t := by
  refine ⟨?_, ?_, ?_⟩ <;> simp [go_sem, h0, h1, h2]
/-- What region 6 reads. -/
theorem s6_below {V X w2 : World} {L : Nat} {u v : Value} (hb : Below X.heap.size X w2) (h : Below V.heap.size V X ∧ X.cell? ⟨L, 0, none⟩ = some u ∧ X.cell? ⟨L, 1, none⟩ = some v) :
    Below V.heap.size V w2 ∧ w2.cell? ⟨L, 0, none⟩ = some u ∧ w2.cell? ⟨L, 1, none⟩ = some v :=
  ⟨below_seq h.1 hb, (hb.cell (block_lt_of_cell h.2.1)).trans h.2.1, (hb.cell (block_lt_of_cell h.2.2)).trans h.2.2⟩
theorem s6_alloc {V X : World} {L : Nat} {u v : Value} (o : Obj) (h : Below V.heap.size V X ∧ X.cell? ⟨L, 0, none⟩ = some u ∧ X.cell? ⟨L, 1, none⟩ = some v) :
    Below V.heap.size V (X.alloc o) ∧ (X.alloc o).cell? ⟨L, 0, none⟩ = some u ∧ (X.alloc o).cell? ⟨L, 1, none⟩ = some v := s6_below ((Below.refl _ _).alloc (Nat.le_refl _) o) h
theorem s6_set {V X : World} {L y : Nat} {u v a b : Value} (hy : V.heap.size ≤ y) (hL : L < V.heap.size) (h : Below V.heap.size V X ∧ X.cell? ⟨L, 0, none⟩ = some u ∧ X.cell? ⟨L, 1, none⟩ = some v) :
    Below V.heap.size V ((X.setCell ⟨y, 0, none⟩ a).setCell ⟨y, 1, none⟩ b) ∧ ((X.setCell ⟨y, 0, none⟩ a).setCell ⟨y, 1, none⟩ b).cell? ⟨L, 0, none⟩ = some u ∧ ((X.setCell ⟨y, 0, none⟩ a).setCell ⟨y, 1, none⟩ b).cell? ⟨L, 1, none⟩ = some v := by
  refine ⟨(h.1.setCell hy _).setCell hy _, ?_, ?_⟩
  · rw [World.cell?_setCell_other _ _ _ _ (fun e => by have := congrArg Addr.block e; simp at this; omega), World.cell?_setCell_other _ _ _ _ (fun e => by have := congrArg Addr.block e; simp at this; omega)]
    exact h.2.1
  · rw [World.cell?_setCell_other _ _ _ _ (fun e => by have := congrArg Addr.block e; simp at this; omega), World.cell?_setCell_other _ _ _ _ (fun e => by have := congrArg Addr.block e; simp at this; omega)]
    exact h.2.2
theorem wc_drew (w : World) : w.drew.heap.size = w.heap.size := rfl
theorem bl0 (w : World) : Below w.heap.size w w := Below.refl _ _
theorem bl1 (w : World) (o : Obj) : Below w.heap.size w (w.alloc o) := (Below.refl _ _).alloc (Nat.le_refl _) o
theorem bl2 (w : World) (o o' : Obj) : Below w.heap.size w ((w.alloc o).alloc o') := (bl1 w o).alloc (by simp) o'
/-- Behind region 6: two rows of the call's own and a line that holds them. -/
def Six (V w : World) (y n m : Nat) (ys zz : List Value) : Prop := ∃ g1 c1 T c2, RmF w y (.slice (some ⟨g1, 0, none⟩) n c1) (.slice (some ⟨T, 0, none⟩) m c2) ∧ y ≠ g1 ∧ V.heap.size ≤ y ∧ w.ownsRow V.heap.size 82 3 (.slice (some ⟨g1, 0, none⟩) n c1) n ys ∧
  (0 < m → w.ownsRow V.heap.size 3 1 (.slice (some ⟨T, 0, none⟩) m c2) m zz ∧ T ≠ g1 ∧ T ≠ y) ∧ Below V.heap.size V w
theorem fin6a {V w1 w2 : World} {b1 b2 g1 c1 g2 c2 n m : Nat} {ys zz : List Value} (hB : Below V.heap.size V w2) (h1 : w1.ownsRow b1 82 3 (.slice (some ⟨g1, 0, none⟩) n c1) n ys) (hv : V.heap.size ≤ b1) (hg : g1 < w1.heap.size) (h12 : Below w1.heap.size w1 w2)
    (h2 : 0 < m → w2.ownsRow b2 3 1 (.slice (some ⟨g2, 0, none⟩) m c2) m zz ∧ b2 ≤ g2 ∧ g2 < w2.heap.size) (hb2 : w1.heap.size ≤ b2) (hv1 : V.heap.size ≤ w1.heap.size) :
    Six V (w2.alloc (.cells #[.slice (some ⟨g1, 0, none⟩) n c1, .slice (some ⟨g2, 0, none⟩) m c2] 38)) w2.heap.size n m ys zz := by
  have hs := h12.size
  refine ⟨g1, c1, g2, c2, RmF.new _ _ _ _, by omega, hB.size, (own_base (own_belowAll h1 h12) hv).alloc _, fun hm => ?_, hB.alloc hB.size _⟩
  obtain ⟨k1, k2, k3⟩ := h2 hm
  exact ⟨(own_base k1 (by omega)).alloc _, by omega, by omega⟩
theorem own_far2 {w : World} {base : Nat} {e : TypeId} {size n g c y : Nat} {xs : List Value} (h : w.ownsRow base e size (.slice (some ⟨g, 0, none⟩) n c) n xs) (hy : y ≠ g) (u v : Value) : ((w.setCell ⟨y, 0, none⟩ u).setCell ⟨y, 1, none⟩ v).ownsRow base e size (.slice (some ⟨g, 0, none⟩) n c) n xs := by
  refine own_kept h (row := some y) ⟨rfl, rfl, rfl, by simp, fun i _ hi => (heap_setCell_other _ ⟨y, 1, none⟩ i _ (fun e => hi (by rw [e]))).trans (heap_setCell_other _ ⟨y, 0, none⟩ i _ (fun e => hi (by rw [e])))⟩ ?_
  intro g' r h1 h2
  have e1 : g = g' := Option.some.inj h1
  have e2 : y = r := Option.some.inj h2
  omega
theorem RmF.put {W : World} {b : Nat} {u v : Value} (r : RmF W b u v) (x y : Value) : RmF ((W.setCell ⟨b, 0, none⟩ x).setCell ⟨b, 1, none⟩ y) b x y := by
  obtain ⟨c0, c1, f0, f1⟩ := r
  constructor <;> simp [go_sem, c0, c1, f0, f1]
theorem fin6b {V w1 w2 : World} {y b1 b2 g1 c1 g2 c2 n m : Nat} {ys zz : List Value} {u v : Value} (hy : RmF w2 y u v) (hyg : y ≠ g1) (hyV : V.heap.size ≤ y) (hyT : y < b2) (hB : Below V.heap.size V w2) (h1 : w1.ownsRow b1 82 3 (.slice (some ⟨g1, 0, none⟩) n c1) n ys) (hv : V.heap.size ≤ b1) (hg : g1 < w1.heap.size) (h12 : Below w1.heap.size w1 w2)
    (h2 : 0 < m → w2.ownsRow b2 3 1 (.slice (some ⟨g2, 0, none⟩) m c2) m zz ∧ b2 ≤ g2 ∧ g2 < w2.heap.size) (hb2 : w1.heap.size ≤ b2) (hv1 : V.heap.size ≤ w1.heap.size) :
    Six V ((w2.setCell ⟨y, 0, none⟩ (.slice (some ⟨g1, 0, none⟩) n c1)).setCell ⟨y, 1, none⟩ (.slice (some ⟨g2, 0, none⟩) m c2)) y n m ys zz := by
  refine ⟨g1, c1, g2, c2, hy.put _ _, hyg, hyV, own_far2 (own_base (own_belowAll h1 h12) hv) hyg _ _, fun hm => ?_, (hB.setCell hyV _).setCell hyV _⟩
  obtain ⟨k1, k2, k3⟩ := h2 hm
  exact ⟨own_far2 (own_base k1 (by omega)) (by omega) _ _, by omega, by omega⟩
/-- The state of the step once the block is written: the move's box, the result's room, the line's box, the new line's room, the old trains, the new rows. -/
structure Sev (w V : World) (L y g1 c1 T c2 n m : Nat) (ys : List B3) (zs : List Int) (A B : Addr) (cA cB : Nat) (S : Int) (t : ByteArray) : Prop where
  mv : RmF V (L + 1) (.int .i64 S) (.string t)
  rs : RmF V (L + 1 + 1) (.slice none 0 0) (.slice none 0 0)
  ln : RmF V L (.slice (some A) n cA) (.slice (some B) m cB)
  nw : RmF V y (.slice (some ⟨g1, 0, none⟩) n c1) (.slice (some ⟨T, 0, none⟩) m c2)
  tr : RdI V (some B) m zs
  bw : Below w.heap.size w V
  og : L + 1 + 1 < g1
  ob : ∃ base, V.ownsRow base 82 3 (.slice (some ⟨g1, 0, none⟩) n c1) n (flat3 ys)
  ot : 0 < m → ∃ base, V.ownsRow base 3 1 (.slice (some ⟨T, 0, none⟩) m c2) m (zs.map (Value.int .i64)) ∧ T ≠ L + 1 + 1 ∧ L ≤ T ∧ T ≠ y ∧ T ≠ g1
theorem own_far1 {w : World} {base : Nat} {e : TypeId} {size n g c y o : Nat} {xs : List Value} (h : w.ownsRow base e size (.slice (some ⟨g, 0, none⟩) n c) n xs) (hy : y ≠ g) (u : Value) : (w.setCell ⟨y, o, none⟩ u).ownsRow base e size (.slice (some ⟨g, 0, none⟩) n c) n xs := by
  refine own_kept h (row := some y) ⟨rfl, rfl, rfl, by simp, fun i _ hi => heap_setCell_other _ ⟨y, o, none⟩ i _ (fun e => hi (by rw [e]))⟩ ?_
  intro g' r h1 h2
  have e1 : g = g' := Option.some.inj h1
  have e2 : y = r := Option.some.inj h2
  omega
theorem seven_kept {w wc : World} {y g1 c1 T c2 n m q base : Nat} {xs : List B3} {zs : List Int} {A B : Addr} {cA cB : Nat} {S rn : Int} {ri ro : Bool} {t : ByteArray}
    (mv : RmF wc (w.heap.size + 1) (.int .i64 S) (.string t)) (rs : RmF wc (w.heap.size + 1 + 1) (.slice none 0 0) (.slice none 0 0)) (ln : RmF wc w.heap.size (.slice (some A) n cA) (.slice (some B) m cB))
    (nw : RmF wc y (.slice (some ⟨g1, 0, none⟩) n c1) (.slice (some ⟨T, 0, none⟩) m c2)) (tr : RdI wc (some B) m zs) (bw : Below w.heap.size w wc) (ob : wc.ownsRow base 82 3 (.slice (some ⟨g1, 0, none⟩) n c1) n (flat3 xs))
    (ot : 0 < m → wc.ownsRow base 3 1 (.slice (some ⟨T, 0, none⟩) m c2) m (zs.map (Value.int .i64)) ∧ T ≠ g1 ∧ T ≠ y) (hyz : w.heap.size + 1 + 1 < y) (hgz : w.heap.size + 1 + 1 < g1) (hyg : y ≠ g1) (hB : 0 < m → B.block ≠ g1) (hTz : w.heap.size + 1 + 1 < base) :
    Sev w (((wc.setCell ⟨g1, q * 3, none⟩ (.int .i64 rn)).setCell ⟨g1, q * 3 + 1, none⟩ (.bool ri)).setCell ⟨g1, q * 3 + 2, none⟩ (.bool ro)) w.heap.size y g1 c1 T c2 n m (xs.set q (rn, ri, ro)) zs A B cA cB S t := by
  have n1 : w.heap.size + 1 ≠ g1 := by omega
  have n2 : w.heap.size + 1 + 1 ≠ g1 := by omega
  have n3 : w.heap.size ≠ g1 := by omega
  have hle : w.heap.size ≤ g1 := by omega
  refine ⟨((mv.far n1 _).far n1 _).far n1 _, ((rs.far n2 _).far n2 _).far n2 _, ((ln.far n3 _).far n3 _).far n3 _, ((nw.far hyg _).far hyg _).far hyg _, ?_, ((bw.setCell hle _).setCell hle _).setCell hle _, hgz, ⟨base, own_put3 (k := q) ob (rn, ri, ro)⟩, fun hm => ?_⟩
  · refine Rd.far (Rd.far (Rd.far tr ?_ _) ?_ _) ?_ _ <;> (intro h0 a e; cases e; exact hB h0)
  · obtain ⟨k1, k2, k3⟩ := ot hm
    have hT := (k1.lt T rfl).1
    exact ⟨base, own_far1 (own_far1 (own_far1 k1 (Ne.symm k2) _) (Ne.symm k2) _) (Ne.symm k2) _, by omega, by omega, k3, k2⟩
theorem RmF.far1 {W : World} {b : Nat} {u v : Value} (r : RmF W b u v) {y o : Nat} (h : b ≠ y) (x : Value) : RmF (W.setCell ⟨y, o, none⟩ x) b u v := r.far (p := ⟨y, o, none⟩) h x
section
variable {w V : World} {L y g1 c1 T c2 n m : Nat} {ys : List B3} {zs : List Int} {A B : Addr} {cA cB : Nat} {S : Int} {t : ByteArray}
theorem Sev.below {V' : World} (h : Sev w V L y g1 c1 T c2 n m ys zs A B cA cB S t) (hb : Below V.heap.size V V') : Sev w V' L y g1 c1 T c2 n m ys zs A B cA cB S t := by
  obtain ⟨base, ho⟩ := h.ob
  exact ⟨h.mv.below hb, h.rs.below hb, h.ln.below hb, h.nw.below hb, RdI.below h.tr hb, below_seq h.bw hb, h.og, ⟨base, own_belowAll ho hb⟩, fun hm => by
    obtain ⟨b2, k1, k2⟩ := h.ot hm
    exact ⟨b2, own_belowAll k1 hb, k2⟩⟩
/-- The line behind the step, in the result's room. -/
theorem Sev.line (h : Sev w V w.heap.size y g1 c1 T c2 n m ys zs A B cA cB S t) (hn : n ≤ 5) (hm : m ≤ 5) : LinR w.heap.size ((V.setCell ⟨w.heap.size + 1 + 1, 0, none⟩ (.slice (some ⟨g1, 0, none⟩) n c1)).setCell ⟨w.heap.size + 1 + 1, 1, none⟩ (.slice (some ⟨T, 0, none⟩) m c2)) (liv (some ⟨g1, 0, none⟩) n c1 (some ⟨T, 0, none⟩) m c2) := by
  obtain ⟨base, ho⟩ := h.ob
  have hg1 := h.og
  have hg : w.heap.size + 1 + 1 ≠ g1 := by omega
  by_cases h0 : 0 < m
  · obtain ⟨b2, k1, k2, k3, _⟩ := h.ot h0
    exact ⟨_, _, _, _, _, _, ys, zs, rfl, ⟨RdW.of_own (own_far2 ho hg _ _), RdI.of_own (own_far2 k1 (Ne.symm k2) _ _), hn, hm, fun _ => ⟨_, _, rfl⟩⟩, fun a _ e => by cases e; show w.heap.size ≤ g1; omega, fun a _ e => by cases e; exact k3⟩
  · obtain rfl : m = 0 := by omega
    exact ⟨_, _, _, _, _, _, ys, [], rfl, ⟨RdW.of_own (own_far2 ho hg _ _), Rd.none_ _ _, hn, hm, fun _ => ⟨_, _, rfl⟩⟩, fun a _ e => by cases e; show w.heap.size ≤ g1; omega, fun a h => by omega⟩
theorem Sev.bwR (h : Sev w V w.heap.size y g1 c1 T c2 n m ys zs A B cA cB S t) {u v : Value} : Below w.heap.size w ((V.setCell ⟨w.heap.size + 1 + 1, 0, none⟩ u).setCell ⟨w.heap.size + 1 + 1, 1, none⟩ v) := by
  have hle : w.heap.size ≤ w.heap.size + 1 + 1 := by omega
  exact (h.bw.setCell hle _).setCell hle _
/-- A train goes on. -/
theorem Sev.train (h : Sev w V w.heap.size y g1 c1 T c2 n m ys zs A B cA cB S t) (hn : n ≤ 5) (hm : m ≤ 5) {k : Nat} (hk : k < m) : ∃ z : Int, V.cell? ⟨T, k, none⟩ = some (.int .i64 z) ∧ V.frozen? ⟨T, k, none⟩ = false ∧ T ≠ y ∧ T ≠ w.heap.size + 1 + 1 ∧
    Hid (∀ z' : Int, LinR w.heap.size (((V.setCell ⟨T, k, none⟩ (.int .i64 z')).setCell ⟨w.heap.size + 1 + 1, 0, none⟩ (.slice (some ⟨g1, 0, none⟩) n c1)).setCell ⟨w.heap.size + 1 + 1, 1, none⟩ (.slice (some ⟨T, 0, none⟩) m c2)) (liv (some ⟨g1, 0, none⟩) n c1 (some ⟨T, 0, none⟩) m c2) ∧
      Below w.heap.size w (((V.setCell ⟨T, k, none⟩ (.int .i64 z')).setCell ⟨w.heap.size + 1 + 1, 0, none⟩ (.slice (some ⟨g1, 0, none⟩) n c1)).setCell ⟨w.heap.size + 1 + 1, 1, none⟩ (.slice (some ⟨T, 0, none⟩) m c2))) := by
  obtain ⟨base, ho⟩ := h.ob
  obtain ⟨b2, k1, k2, k3, k4, k5⟩ := h.ot (by omega)
  have hg1 := h.og
  have hg : w.heap.size + 1 + 1 ≠ g1 := by omega
  have hl : zs.length = m := RdI.len h.tr
  have hle : w.heap.size ≤ w.heap.size + 1 + 1 := by omega
  refine ⟨zs[k]'(by omega), ?_, k1.frozenAt k, k4, k2, fun z' => ⟨?_, ((h.bw.setCell k3 _).setCell hle _).setCell hle _⟩⟩
  · rw [k1.cellAt k (by omega), List.getElem?_map, List.getElem?_eq_getElem (by omega)]
    rfl
  · have e1 := (k1.stored k (.int .i64 z')).1
    rw [← List.map_set] at e1
    exact ⟨_, _, _, _, _, _, ys, zs.set k z', rfl, ⟨RdW.of_own (own_far2 (own_far1 ho k5 _) hg _ _), RdI.of_own (own_far2 e1 (Ne.symm k2) _ _), hn, hm, fun _ => ⟨_, _, rfl⟩⟩, fun a _ e => by cases e; show w.heap.size ≤ g1; omega, fun a _ e => by cases e; exact k3⟩
end
theorem room_new3 {W w2 : World} {v0 v1 v2 : Value} {t : TypeId} (hb : Below (W.heap.size + 1) (W.alloc (.cells #[v0, v1, v2] t)) w2) :
    w2.cell? ⟨W.heap.size, 0, none⟩ = some v0 ∧ w2.cell? ⟨W.heap.size, 1, none⟩ = some v1 ∧ w2.cell? ⟨W.heap.size, 2, none⟩ = some v2 ∧ w2.frozen? ⟨W.heap.size, 0, none⟩ = false ∧ w2.frozen? ⟨W.heap.size, 1, none⟩ = false ∧ w2.frozen? ⟨W.heap.size, 2, none⟩ = false := by
  refine ⟨?_, ?_, ?_, ?_, ?_, ?_⟩
  · exact (hb.cell (p := ⟨W.heap.size, 0, none⟩) (show W.heap.size < _ by omega)).trans (by simp [go_sem])
  · exact (hb.cell (p := ⟨W.heap.size, 1, none⟩) (show W.heap.size < _ by omega)).trans (by simp [go_sem])
  · exact (hb.cell (p := ⟨W.heap.size, 2, none⟩) (show W.heap.size < _ by omega)).trans (by simp [go_sem])
  · exact (hb.frozen (p := ⟨W.heap.size, 0, none⟩) (show W.heap.size < _ by omega)).trans (by simp [go_sem])
  · exact (hb.frozen (p := ⟨W.heap.size, 1, none⟩) (show W.heap.size < _ by omega)).trans (by simp [go_sem])
  · exact (hb.frozen (p := ⟨W.heap.size, 2, none⟩) (show W.heap.size < _ by omega)).trans (by simp [go_sem])
set_option maxRecDepth 100000 in
set_option maxHeartbeats 8000000 in
theorem specL4Step_any (ab ao n c bb bo m d : Nat) (xs : List B3) (zs : List Int) (S : Int) (t : ByteArray) (w : World) (hx : RdW w (some ⟨ab, ao, none⟩) n xs) (hz : RdI w (some ⟨bb, bo, none⟩) m zs) (hn1 : 1 ≤ n) (hn : n ≤ 5) (hm : m ≤ 5) (ht : t.size ≤ maxLen) :
    Calls Try.prog 52 #[liv (some ⟨ab, ao, none⟩) n c (some ⟨bb, bo, none⟩) m d, mvv S t] w fun e w' => ∃ v ok, e = .returned (.tuple #[v, .bool ok]) ∧ LinR w.heap.size w' v ∧ Below w.heap.size w w' := by
  obtain ⟨hl0, hm0, hr0, hb0⟩ := boxes3 w (.slice (some ⟨ab, ao, none⟩) n c) (.slice (some ⟨bb, bo, none⟩) m d) (.int .i64 S) (.string t) (.slice none 0 0) (.slice none 0 0) 38 28 38
  have HX := Lib.hid (RdW.below hx hb0)
  have HZ := Lib.hid (RdI.below hz hb0)
  have HL0 := Lib.hid hl0
  have HM0 := Lib.hid hm0
  have HR0 := Lib.hid hr0
  have HB0 := Lib.hid hb0
  clear hl0 hm0 hr0 hb0
  clear hx hz
  by_cases hS : 0 ≤ S ∧ S ≤ (n : Int) - 1
  · obtain ⟨q, rfl⟩ : ∃ q : Nat, S = q := ⟨S.toNat, by omega⟩
    have hq : q < n := by omega
    clear hS
    go_enter Try.func52, Try.ntmps52
    go_upto_region 3 with (go_at_call 36; refine (l6In_yes _ _ _ _ (by omega) (by omega)).mono ?_; rintro e w1 ⟨rfl, rfl⟩)
    generalize hW : ((w.alloc (.cells #[.slice (some ⟨ab, ao, none⟩) n c, .slice (some ⟨bb, bo, none⟩) m d] 38)).alloc (.cells #[.int .i64 q, .string t] 28)).alloc (.cells #[.slice none 0 0, .slice none 0 0] 38) = W at HB0 HX HZ HL0 HM0 HR0 ⊢
    clear hW
    go_cut [6, 7] from 20 to 31 (fun p ok wx => ∃ (x : Nat) (rn : Int) (ri ro rk : Bool), p = .pointer (some ⟨x, 0, none⟩) ∧ ok = .bool rk ∧ wx.cell? ⟨x, 0, none⟩ = some (.int .i64 rn) ∧ wx.cell? ⟨x, 1, none⟩ = some (.bool ri) ∧ wx.cell? ⟨x, 2, none⟩ = some (.bool ro) ∧ Below W.heap.size W wx)
    case first =>
      obtain ⟨b0, o0, p, hb, hp, c0, c1, c2⟩ := HX.out.at_ hq
      simp only [Option.some.injEq, Addr.mk.injEq, and_true] at hb
      obtain ⟨rfl, rfl⟩ := hb
      obtain ⟨pn, pi, po⟩ := p
      simp only at c0 c1 c2
      clear hp
      obtain ⟨rn, ri, ro, rk, hres⟩ := resV_form (Bk.stepR pn pi po t.toList)
      have HRES := Lib.hid hres
      clear hres
      have HS0 : (W.drew.cell? ⟨w.heap.size, 0, none⟩ = some (.slice (some ⟨ab, ao, none⟩) n c) ∧ W.drew.cell? ⟨w.heap.size + 1, 0, none⟩ = some (.int .i64 q) ∧ W.drew.cell? ⟨w.heap.size + 1, 1, none⟩ = some (.string t)) ∧ (W.drew.cell? ⟨ab, ao + q * 3, none⟩ = some (.int .i64 pn) ∧ W.drew.cell? ⟨ab, ao + q * 3 + 1, none⟩ = some (.bool pi) ∧ W.drew.cell? ⟨ab, ao + q * 3 + 2, none⟩ = some (.bool po)) := ⟨⟨HL0.out.c0, HM0.out.c0, HM0.out.c1⟩, c0, c1, c2⟩
      have HSA := Lib.hid (s3_below ((Below.refl W.drew.heap.size W.drew).alloc (Nat.le_refl _) (.cells #[.int .i64 0, .bool false, .bool false] 82)) HS0)
      obtain ⟨⟨l0, m0, m1⟩, e0, e1, e2⟩ := HS0
      clear c0 c1 c2
      go_region_held3 (fun W => (W.cell? ⟨w.heap.size, 0, none⟩ = some (.slice (some ⟨ab, ao, none⟩) n c) ∧ W.cell? ⟨w.heap.size + 1, 0, none⟩ = some (.int .i64 q) ∧ W.cell? ⟨w.heap.size + 1, 1, none⟩ = some (.string t)) ∧ (W.cell? ⟨ab, ao + q * 3, none⟩ = some (.int .i64 pn) ∧ W.cell? ⟨ab, ao + q * 3 + 1, none⟩ = some (.bool pi) ∧ W.cell? ⟨ab, ao + q * 3 + 2, none⟩ = some (.bool po)))
        (first | exact ⟨⟨l0, m0, m1⟩, e0, e1, e2⟩ | exact HSA.out | exact HS2.out | exact HS3.out _ | exact HS4.out _ _ _)
        (first
          | (go_at_call 57; refine (specBlockStep_any _ _ _ _ W.drew ht).mono ?_; rintro e w2 ⟨rfl, hb2⟩; rw [HRES.out]; have HS2 := Lib.hid (s3_below hb2 ⟨⟨l0, m0, m1⟩, e0, e1, e2⟩); have HS3 := Lib.hid (fun (o : Obj) => s3_below ((Below.refl w2.heap.size w2).alloc (Nat.le_refl _) o) HS2.out); have Hb2 : Hid (Below W.heap.size W w2) := below_seq (w1 := W.drew) (below_of_drewN _ _ 1) hb2; clear hb2)
          | (go_at_call 57; refine (specBlockStep_any _ _ _ _ (W.drew.alloc (.cells #[.int .i64 0, .bool false, .bool false] 82)) ht).mono ?_; rintro e w2 ⟨rfl, hb2⟩; rw [HRES.out]; have HS2 := Lib.hid (s3_below hb2 HSA.out); have HS4 := Lib.hid (fun (u v t : Value) => s3_set (u := u) (v := v) (t := t) ⟨⟨l0, m0, m1⟩, e0, e1, e2⟩ HS2.out); have Hb2 : Hid (Below W.heap.size W w2) := below_seq (w1 := W.drew.alloc (.cells #[.int .i64 0, .bool false, .bool false] 82)) ((below_of_drewN _ _ 1).alloc (Nat.le_refl _) _) hb2; simp only [World.size_alloc] at hb2; obtain ⟨x0, x1, x2, f0, f1, f2⟩ : w2.cell? ⟨W.heap.size, 0, none⟩ = some (.int .i64 0) ∧ w2.cell? ⟨W.heap.size, 1, none⟩ = some (.bool false) ∧ w2.cell? ⟨W.heap.size, 2, none⟩ = some (.bool false) ∧ w2.frozen? ⟨W.heap.size, 0, none⟩ = false ∧ w2.frozen? ⟨W.heap.size, 1, none⟩ = false ∧ w2.frozen? ⟨W.heap.size, 2, none⟩ = false := room_new3 (W := W.drew) hb2; clear hb2))
      all_goals go_wp2_with fail
      all_goals go_meet
      · exact ⟨_, rn, ri, ro, rk, rfl, rfl, by simp [go_sem], by simp [go_sem], by simp [go_sem], Hb2.out.alloc Hb2.out.size _⟩
      · obtain ⟨k0, k1, k2⟩ := set3_cells (.int .i64 rn) (.bool ri) (.bool ro) x0 x1 x2
        exact ⟨_, rn, ri, ro, rk, rfl, rfl, k0, k1, k2, ((Hb2.out.setCell (Nat.le_refl _) _).setCell (Nat.le_refl _) _).setCell (Nat.le_refl _) _⟩
    case rest =>
      obtain ⟨x, rn, ri, ro, rk, rfl, rfl, x0, x1, x2, hbc⟩ := hcut
      have HXc := Lib.hid (HX.out.below hbc)
      have HZc := Lib.hid (RdI.below HZ.out hbc)
      have HLc := Lib.hid (HL0.out.below hbc)
      have HMc := Lib.hid (HM0.out.below hbc)
      have HRc := Lib.hid (HR0.out.below hbc)
      have HBc := Lib.hid (below_seq HB0.out hbc)
      clear HX HZ HL0 HM0 HR0 HB0 hbc
      cases rk
      · obtain ⟨r0, r1, f0, f1⟩ := HRc.out
        have hw2 : w.heap.size ≤ w.heap.size + 1 + 1 := by omega
        go_wp2_with fail
        refine bodyPost_ret (v := .tuple #[liv none 0 0 none 0 0, .bool false]) (by simp [results, Try.results52, go_sem, r0, r1]) rfl ?_
        exact ⟨_, _, rfl, LinR.zero _ _, (HBc.out.setCell hw2 _).setCell hw2 _⟩
      · have HX0 := Lib.hid (And.intro x0 (And.intro x1 x2))
        clear x0 x1 x2
        go_upto_region 6 with fail
        go_cut [8] from 35 to 43 (fun p wx => ∃ y : Nat, p = .pointer (some ⟨y, 0, none⟩) ∧ Six wc wx y n m (flat3 xs) (zs.map (Value.int .i64)))
        case first =>
          obtain ⟨iB, hiB, hB0, hB1, hB2⟩ := info_parts Try.infoBlock
          obtain ⟨iI, hiI, hI0, hI1, hI2⟩ := info_parts Try.infoInt
          have HLX : Hid ((flat3 xs).length = n * 3) := by unfold Hid; rw [flat3_len, HXc.out.len]
          have HLZ : Hid ((zs.map (Value.int .i64)).length = m * 1) := by unfold Hid; rw [List.length_map, RdI.len HZc.out, Nat.mul_one]
          -- region 6, printed by mkdl5.py
          refine wp_region_held_drew (S := fun W => Below wc.heap.size wc W ∧ W.cell? ⟨w.heap.size, 0, none⟩ = some (.slice (some ⟨ab, ao, none⟩) n c) ∧ W.cell? ⟨w.heap.size, 1, none⟩ = some (.slice (some ⟨bb, bo, none⟩) m d)) (by kernel_rfl) ⟨below_of_drewN _ _ 1, HLc.out.c0, HLc.out.c1⟩ (fun hH0 => ?_)
          refine wpAnyH_take (i := 1) (oi := _) (v := ?v1q1) rfl (by kernel_rfl) (by kernel_rfl) (by kernel_rfl) (fun _ _ _ h => h) (Or.inl ⟨by rfl, ?h1q1⟩) (by assumption) ?_
          case h1q1 =>
            intro w hSw
            try dsimp only at hSw
            obtain ⟨_, hS1, hS2⟩ := hSw
            go_simp
            try with_reducible rfl
          try simp only [Act.put, List.setIfInBounds_toArray, List.set_cons_zero, List.set_cons_succ]
          refine wpAnyH_take (i := 2) (oi := _) (v := ?v2q2) rfl (by kernel_rfl) (by kernel_rfl) (by kernel_rfl) (fun _ _ _ h => h) (Or.inl ⟨by rfl, ?h2q2⟩) (by assumption) ?_
          case h2q2 =>
            intro w hSw
            try dsimp only at hSw
            obtain ⟨_, hS1, hS2⟩ := hSw
            go_simp
            try with_reducible rfl
          try simp only [Act.put, List.setIfInBounds_toArray, List.set_cons_zero, List.set_cons_succ]
          refine wpAnyH_take (i := 5) (oi := _) (v := ?v5q3) rfl (by kernel_rfl) (by kernel_rfl) (by kernel_rfl) (fun _ _ _ h => h) (Or.inl ⟨by rfl, ?h5q3⟩) (by assumption) ?_
          case h5q3 =>
            intro w hSw
            try dsimp only at hSw
            obtain ⟨_, hS1, hS2⟩ := hSw
            go_simp
            try with_reducible rfl
          try simp only [Act.put, List.setIfInBounds_toArray, List.set_cons_zero, List.set_cons_succ]
          refine wpAnyH_take (i := 6) (oi := _) (v := ?v6q4) rfl (by kernel_rfl) (by kernel_rfl) (by kernel_rfl) (fun _ _ _ h => h) (Or.inl ⟨by rfl, ?h6q4⟩) (by assumption) ?_
          case h6q4 =>
            intro w hSw
            try dsimp only at hSw
            obtain ⟨_, hS1, hS2⟩ := hSw
            go_simp
            try with_reducible rfl
          try simp only [Act.put, List.setIfInBounds_toArray, List.set_cons_zero, List.set_cons_succ]
          refine wpAnyH_ready (rs := [0, 4, 9]) (by kernel_rfl) (by simp) ?_
          refine AllReadyH.cons (o := _) rfl (fun K hK => ?_) ?_
          · go_simp
            refine hK.out _ _ ?_ (fun hH1 => ?_)
            · exact s6_alloc _ hH0
            clear hK K
            try simp only [Act.put, List.setIfInBounds_toArray, List.set_cons_zero, List.set_cons_succ]
            refine wpAnyH_ready (rs := [3, 4, 9]) (by kernel_rfl) (by simp) ?_
            refine AllReadyH.cons (o := _) rfl (fun K hK => ?_) ?_
            · refine step_append_empty _ rfl _ _ _ rfl 82 iB (.agg #[.int .i64 0, .bool false, .bool false]) 3 16 Try.underlying35 hiB hB0 hB1 hB2 rfl (by omega) _ rfl ⟨ab, ao, none⟩ n c (flat3 xs) rfl HLX.out (rdW_cells (HXc.out.below hH1.1)) (by unfold maxLen; omega) (by omega) ?_
              intro g1 c1 w1 h1 hb1
              obtain ⟨h1, hg1, hg1'⟩ := h1 (by omega)
              refine hK.out _ _ ?_ (fun hH2 => ?_)
              · exact s6_below hb1 hH1
              clear hK K
              try simp only [Act.put, List.setIfInBounds_toArray, List.set_cons_zero, List.set_cons_succ]
              refine wpAnyH_ready (rs := [4, 9]) (by kernel_rfl) (by simp) ?_
              refine AllReadyH.cons (o := _) rfl (fun K hK => ?_) ?_
              · go_simp
                refine hK.out _ _ ?_ (fun hH3 => ?_)
                · exact s6_alloc _ hH2
                clear hK K
                try simp only [Act.put, List.setIfInBounds_toArray, List.set_cons_zero, List.set_cons_succ]
                refine wpAnyH_ready (rs := [7, 9]) (by kernel_rfl) (by simp) ?_
                refine AllReadyH.cons (o := _) rfl (fun K hK => ?_) ?_
                · refine step_append_empty _ rfl _ _ _ rfl 3 iI (.int .i64 0) 1 8 Try.underlying36 hiI hI0 hI1 hI2 rfl (by omega) _ rfl ⟨bb, bo, none⟩ m d (zs.map (Value.int .i64)) rfl HLZ.out (rdI_cells (RdI.below HZc.out hH3.1)) (by unfold maxLen; omega) (by omega) ?_
                  intro g2 c2 w2 h2 hb2
                  refine hK.out _ _ ?_ (fun hH4 => ?_)
                  · exact s6_below hb2 hH3
                  clear hK K
                  try simp only [Act.put, List.setIfInBounds_toArray, List.set_cons_zero, List.set_cons_succ]
                  refine wpAnyH_take (i := 8) (oi := _) (v := ?v8q5) rfl (by kernel_rfl) (by kernel_rfl) (by kernel_rfl) (fun _ _ _ h => h) (Or.inl ⟨by rfl, ?h8q5⟩) (by assumption) ?_
                  case h8q5 =>
                    intro w hSw
                    try dsimp only at hSw
                    obtain ⟨_, hS1, hS2⟩ := hSw
                    go_simp
                    try with_reducible rfl
                  try simp only [Act.put, List.setIfInBounds_toArray, List.set_cons_zero, List.set_cons_succ]
                  refine wpAnyH_ready (rs := [9]) (by kernel_rfl) (by simp) ?_
                  refine AllReadyH.cons (o := _) rfl (fun K hK => ?_) ?_
                  · go_simp
                    refine hK.out _ _ ?_ (fun hH5 => ?_)
                    · exact s6_alloc _ hH4
                    clear hK K
                    try simp only [Act.put, List.setIfInBounds_toArray, List.set_cons_zero, List.set_cons_succ]
                    refine wpAnyH_ready (rs := [10]) (by kernel_rfl) (by simp) ?_
                    refine AllReadyH.cons (o := _) rfl (fun K hK => ?_) ?_
                    · go_simp
                      refine hK.out _ _ ?_ (fun hH6 => ?_)
                      · exact s6_alloc _ hH4
                      clear hK K
                      try simp only [Act.put, List.setIfInBounds_toArray, List.set_cons_zero, List.set_cons_succ]
                      refine wpAnyH_done (by kernel_rfl) ?_ _
                      go_wp2_with fail
                      go_meet
                      exact ⟨_, rfl, fin6a hH4.1 h1 hH1.1.size hg1' (below_seq (bl1 w1 (.cells #[] 3)) hb2) h2 (bl1 w1 (.cells #[] 3)).size hH2.1.size⟩
                    exact AllReadyH.nil
                  exact AllReadyH.nil
                refine AllReadyH.cons (o := _) rfl (fun K hK => ?_) ?_
                · go_simp
                  refine hK.out _ _ ?_ (fun hH4 => ?_)
                  · exact s6_alloc _ hH3
                  clear hK K
                  try simp only [Act.put, List.setIfInBounds_toArray, List.set_cons_zero, List.set_cons_succ]
                  refine wpAnyH_ready (rs := [7]) (by kernel_rfl) (by simp) ?_
                  refine AllReadyH.cons (o := _) rfl (fun K hK => ?_) ?_
                  · refine step_append_empty _ rfl _ _ _ rfl 3 iI (.int .i64 0) 1 8 Try.underlying36 hiI hI0 hI1 hI2 rfl (by omega) _ rfl ⟨bb, bo, none⟩ m d (zs.map (Value.int .i64)) rfl HLZ.out (rdI_cells (RdI.below HZc.out hH4.1)) (by unfold maxLen; omega) (by omega) ?_
                    intro g2 c2 w2 h2 hb2
                    refine hK.out _ _ ?_ (fun hH5 => ?_)
                    · exact s6_below hb2 hH4
                    clear hK K
                    try simp only [Act.put, List.setIfInBounds_toArray, List.set_cons_zero, List.set_cons_succ]
                    refine wpAnyH_take (i := 8) (oi := _) (v := ?v8q6) rfl (by kernel_rfl) (by kernel_rfl) (by kernel_rfl) (fun _ _ _ h => h) (Or.inl ⟨by rfl, ?h8q6⟩) (by assumption) ?_
                    case h8q6 =>
                      intro w hSw
                      try dsimp only at hSw
                      obtain ⟨_, hS1, hS2⟩ := hSw
                      go_simp
                      try with_reducible rfl
                    try simp only [Act.put, List.setIfInBounds_toArray, List.set_cons_zero, List.set_cons_succ]
                    refine wpAnyH_ready (rs := [10]) (by kernel_rfl) (by simp) ?_
                    refine AllReadyH.cons (o := _) rfl (fun K hK => ?_) ?_
                    · have hy : RmF w2 (w1.heap.size + 1) (.slice none 0 0) (.slice none 0 0) := by
                        have h := ((RmF.new (w1.alloc (.cells #[] 3)) _ _ _)).below hb2
                        try simp only [World.size_alloc] at h
                        exact h
                      have hyk := Lib.hid hy
                      obtain ⟨y0, y1, fy0, fy1⟩ := hy
                      have hv0 := hH2.1.size
                      go_simp
                      refine hK.out _ _ ?_ (fun hH6 => ?_)
                      · exact s6_set (by omega) HLc.out.lt hH5
                      clear hK K
                      try simp only [Act.put, List.setIfInBounds_toArray, List.set_cons_zero, List.set_cons_succ]
                      refine wpAnyH_done (by kernel_rfl) ?_ _
                      go_wp2_with fail
                      go_meet
                      have hv1 : wc.heap.size ≤ w1.heap.size := hH2.1.size
                      exact ⟨_, rfl, fin6b hyk.out (by omega) (by omega) (by first | omega | (simp only [World.size_alloc]; omega)) hH5.1 h1 hH1.1.size hg1' (below_seq (bl2 w1 (.cells #[] 3) (.cells #[.slice none 0 0, .slice none 0 0] 38)) hb2) h2 (by first | omega | (simp only [World.size_alloc]; omega)) hv1⟩
                    exact AllReadyH.nil
                  exact AllReadyH.nil
                exact AllReadyH.nil
              refine AllReadyH.cons (o := _) rfl (fun K hK => ?_) ?_
              · go_simp
                refine hK.out _ _ ?_ (fun hH3 => ?_)
                · exact s6_alloc _ hH2
                clear hK K
                try simp only [Act.put, List.setIfInBounds_toArray, List.set_cons_zero, List.set_cons_succ]
                refine wpAnyH_ready (rs := [4]) (by kernel_rfl) (by simp) ?_
                refine AllReadyH.cons (o := _) rfl (fun K hK => ?_) ?_
                · go_simp
                  refine hK.out _ _ ?_ (fun hH4 => ?_)
                  · exact s6_alloc _ hH3
                  clear hK K
                  try simp only [Act.put, List.setIfInBounds_toArray, List.set_cons_zero, List.set_cons_succ]
                  refine wpAnyH_ready (rs := [7]) (by kernel_rfl) (by simp) ?_
                  refine AllReadyH.cons (o := _) rfl (fun K hK => ?_) ?_
                  · refine step_append_empty _ rfl _ _ _ rfl 3 iI (.int .i64 0) 1 8 Try.underlying36 hiI hI0 hI1 hI2 rfl (by omega) _ rfl ⟨bb, bo, none⟩ m d (zs.map (Value.int .i64)) rfl HLZ.out (rdI_cells (RdI.below HZc.out hH4.1)) (by unfold maxLen; omega) (by omega) ?_
                    intro g2 c2 w2 h2 hb2
                    refine hK.out _ _ ?_ (fun hH5 => ?_)
                    · exact s6_below hb2 hH4
                    clear hK K
                    try simp only [Act.put, List.setIfInBounds_toArray, List.set_cons_zero, List.set_cons_succ]
                    refine wpAnyH_take (i := 8) (oi := _) (v := ?v8q7) rfl (by kernel_rfl) (by kernel_rfl) (by kernel_rfl) (fun _ _ _ h => h) (Or.inl ⟨by rfl, ?h8q7⟩) (by assumption) ?_
                    case h8q7 =>
                      intro w hSw
                      try dsimp only at hSw
                      obtain ⟨_, hS1, hS2⟩ := hSw
                      go_simp
                      try with_reducible rfl
                    try simp only [Act.put, List.setIfInBounds_toArray, List.set_cons_zero, List.set_cons_succ]
                    refine wpAnyH_ready (rs := [10]) (by kernel_rfl) (by simp) ?_
                    refine AllReadyH.cons (o := _) rfl (fun K hK => ?_) ?_
                    · have hy : RmF w2 (w1.heap.size) (.slice none 0 0) (.slice none 0 0) := by
                        have h := ((RmF.new w1 _ _ _).alloc (.cells #[] 3)).below hb2
                        try simp only [World.size_alloc] at h
                        exact h
                      have hyk := Lib.hid hy
                      obtain ⟨y0, y1, fy0, fy1⟩ := hy
                      have hv0 := hH2.1.size
                      go_simp
                      refine hK.out _ _ ?_ (fun hH6 => ?_)
                      · exact s6_set (by omega) HLc.out.lt hH5
                      clear hK K
                      try simp only [Act.put, List.setIfInBounds_toArray, List.set_cons_zero, List.set_cons_succ]
                      refine wpAnyH_done (by kernel_rfl) ?_ _
                      go_wp2_with fail
                      go_meet
                      have hv1 : wc.heap.size ≤ w1.heap.size := hH2.1.size
                      exact ⟨_, rfl, fin6b hyk.out (by omega) (by omega) (by first | omega | (simp only [World.size_alloc]; omega)) hH5.1 h1 hH1.1.size hg1' (below_seq (bl2 w1 (.cells #[.slice none 0 0, .slice none 0 0] 38) (.cells #[] 3)) hb2) h2 (by first | omega | (simp only [World.size_alloc]; omega)) hv1⟩
                    exact AllReadyH.nil
                  exact AllReadyH.nil
                exact AllReadyH.nil
              exact AllReadyH.nil
            refine AllReadyH.cons (o := _) rfl (fun K hK => ?_) ?_
            · go_simp
              refine hK.out _ _ ?_ (fun hH2 => ?_)
              · exact s6_alloc _ hH1
              clear hK K
              try simp only [Act.put, List.setIfInBounds_toArray, List.set_cons_zero, List.set_cons_succ]
              refine wpAnyH_ready (rs := [3, 9]) (by kernel_rfl) (by simp) ?_
              refine AllReadyH.cons (o := _) rfl (fun K hK => ?_) ?_
              · refine step_append_empty _ rfl _ _ _ rfl 82 iB (.agg #[.int .i64 0, .bool false, .bool false]) 3 16 Try.underlying35 hiB hB0 hB1 hB2 rfl (by omega) _ rfl ⟨ab, ao, none⟩ n c (flat3 xs) rfl HLX.out (rdW_cells (HXc.out.below hH2.1)) (by unfold maxLen; omega) (by omega) ?_
                intro g1 c1 w1 h1 hb1
                obtain ⟨h1, hg1, hg1'⟩ := h1 (by omega)
                refine hK.out _ _ ?_ (fun hH3 => ?_)
                · exact s6_below hb1 hH2
                clear hK K
                try simp only [Act.put, List.setIfInBounds_toArray, List.set_cons_zero, List.set_cons_succ]
                refine wpAnyH_ready (rs := [7, 9]) (by kernel_rfl) (by simp) ?_
                refine AllReadyH.cons (o := _) rfl (fun K hK => ?_) ?_
                · refine step_append_empty _ rfl _ _ _ rfl 3 iI (.int .i64 0) 1 8 Try.underlying36 hiI hI0 hI1 hI2 rfl (by omega) _ rfl ⟨bb, bo, none⟩ m d (zs.map (Value.int .i64)) rfl HLZ.out (rdI_cells (RdI.below HZc.out hH3.1)) (by unfold maxLen; omega) (by omega) ?_
                  intro g2 c2 w2 h2 hb2
                  refine hK.out _ _ ?_ (fun hH4 => ?_)
                  · exact s6_below hb2 hH3
                  clear hK K
                  try simp only [Act.put, List.setIfInBounds_toArray, List.set_cons_zero, List.set_cons_succ]
                  refine wpAnyH_take (i := 8) (oi := _) (v := ?v8q8) rfl (by kernel_rfl) (by kernel_rfl) (by kernel_rfl) (fun _ _ _ h => h) (Or.inl ⟨by rfl, ?h8q8⟩) (by assumption) ?_
                  case h8q8 =>
                    intro w hSw
                    try dsimp only at hSw
                    obtain ⟨_, hS1, hS2⟩ := hSw
                    go_simp
                    try with_reducible rfl
                  try simp only [Act.put, List.setIfInBounds_toArray, List.set_cons_zero, List.set_cons_succ]
                  refine wpAnyH_ready (rs := [9]) (by kernel_rfl) (by simp) ?_
                  refine AllReadyH.cons (o := _) rfl (fun K hK => ?_) ?_
                  · go_simp
                    refine hK.out _ _ ?_ (fun hH5 => ?_)
                    · exact s6_alloc _ hH4
                    clear hK K
                    try simp only [Act.put, List.setIfInBounds_toArray, List.set_cons_zero, List.set_cons_succ]
                    refine wpAnyH_ready (rs := [10]) (by kernel_rfl) (by simp) ?_
                    refine AllReadyH.cons (o := _) rfl (fun K hK => ?_) ?_
                    · go_simp
                      refine hK.out _ _ ?_ (fun hH6 => ?_)
                      · exact s6_alloc _ hH4
                      clear hK K
                      try simp only [Act.put, List.setIfInBounds_toArray, List.set_cons_zero, List.set_cons_succ]
                      refine wpAnyH_done (by kernel_rfl) ?_ _
                      go_wp2_with fail
                      go_meet
                      exact ⟨_, rfl, fin6a hH4.1 h1 hH2.1.size hg1' (below_seq (bl0 w1) hb2) h2 (bl0 w1).size hH3.1.size⟩
                    exact AllReadyH.nil
                  exact AllReadyH.nil
                refine AllReadyH.cons (o := _) rfl (fun K hK => ?_) ?_
                · go_simp
                  refine hK.out _ _ ?_ (fun hH4 => ?_)
                  · exact s6_alloc _ hH3
                  clear hK K
                  try simp only [Act.put, List.setIfInBounds_toArray, List.set_cons_zero, List.set_cons_succ]
                  refine wpAnyH_ready (rs := [7]) (by kernel_rfl) (by simp) ?_
                  refine AllReadyH.cons (o := _) rfl (fun K hK => ?_) ?_
                  · refine step_append_empty _ rfl _ _ _ rfl 3 iI (.int .i64 0) 1 8 Try.underlying36 hiI hI0 hI1 hI2 rfl (by omega) _ rfl ⟨bb, bo, none⟩ m d (zs.map (Value.int .i64)) rfl HLZ.out (rdI_cells (RdI.below HZc.out hH4.1)) (by unfold maxLen; omega) (by omega) ?_
                    intro g2 c2 w2 h2 hb2
                    refine hK.out _ _ ?_ (fun hH5 => ?_)
                    · exact s6_below hb2 hH4
                    clear hK K
                    try simp only [Act.put, List.setIfInBounds_toArray, List.set_cons_zero, List.set_cons_succ]
                    refine wpAnyH_take (i := 8) (oi := _) (v := ?v8q9) rfl (by kernel_rfl) (by kernel_rfl) (by kernel_rfl) (fun _ _ _ h => h) (Or.inl ⟨by rfl, ?h8q9⟩) (by assumption) ?_
                    case h8q9 =>
                      intro w hSw
                      try dsimp only at hSw
                      obtain ⟨_, hS1, hS2⟩ := hSw
                      go_simp
                      try with_reducible rfl
                    try simp only [Act.put, List.setIfInBounds_toArray, List.set_cons_zero, List.set_cons_succ]
                    refine wpAnyH_ready (rs := [10]) (by kernel_rfl) (by simp) ?_
                    refine AllReadyH.cons (o := _) rfl (fun K hK => ?_) ?_
                    · have hy : RmF w2 (w1.heap.size) (.slice none 0 0) (.slice none 0 0) := by
                        have h := ((RmF.new w1 _ _ _)).below hb2
                        try simp only [World.size_alloc] at h
                        exact h
                      have hyk := Lib.hid hy
                      obtain ⟨y0, y1, fy0, fy1⟩ := hy
                      have hv0 := hH3.1.size
                      go_simp
                      refine hK.out _ _ ?_ (fun hH6 => ?_)
                      · exact s6_set (by omega) HLc.out.lt hH5
                      clear hK K
                      try simp only [Act.put, List.setIfInBounds_toArray, List.set_cons_zero, List.set_cons_succ]
                      refine wpAnyH_done (by kernel_rfl) ?_ _
                      go_wp2_with fail
                      go_meet
                      have hv1 : wc.heap.size ≤ w1.heap.size := hH3.1.size
                      exact ⟨_, rfl, fin6b hyk.out (by omega) (by omega) (by first | omega | (simp only [World.size_alloc]; omega)) hH5.1 h1 hH2.1.size hg1' (below_seq (bl1 w1 (.cells #[.slice none 0 0, .slice none 0 0] 38)) hb2) h2 (by first | omega | (simp only [World.size_alloc]; omega)) hv1⟩
                    exact AllReadyH.nil
                  exact AllReadyH.nil
                exact AllReadyH.nil
              refine AllReadyH.cons (o := _) rfl (fun K hK => ?_) ?_
              · go_simp
                refine hK.out _ _ ?_ (fun hH3 => ?_)
                · exact s6_alloc _ hH2
                clear hK K
                try simp only [Act.put, List.setIfInBounds_toArray, List.set_cons_zero, List.set_cons_succ]
                refine wpAnyH_ready (rs := [3]) (by kernel_rfl) (by simp) ?_
                refine AllReadyH.cons (o := _) rfl (fun K hK => ?_) ?_
                · refine step_append_empty _ rfl _ _ _ rfl 82 iB (.agg #[.int .i64 0, .bool false, .bool false]) 3 16 Try.underlying35 hiB hB0 hB1 hB2 rfl (by omega) _ rfl ⟨ab, ao, none⟩ n c (flat3 xs) rfl HLX.out (rdW_cells (HXc.out.below hH3.1)) (by unfold maxLen; omega) (by omega) ?_
                  intro g1 c1 w1 h1 hb1
                  obtain ⟨h1, hg1, hg1'⟩ := h1 (by omega)
                  refine hK.out _ _ ?_ (fun hH4 => ?_)
                  · exact s6_below hb1 hH3
                  clear hK K
                  try simp only [Act.put, List.setIfInBounds_toArray, List.set_cons_zero, List.set_cons_succ]
                  refine wpAnyH_ready (rs := [7]) (by kernel_rfl) (by simp) ?_
                  refine AllReadyH.cons (o := _) rfl (fun K hK => ?_) ?_
                  · refine step_append_empty _ rfl _ _ _ rfl 3 iI (.int .i64 0) 1 8 Try.underlying36 hiI hI0 hI1 hI2 rfl (by omega) _ rfl ⟨bb, bo, none⟩ m d (zs.map (Value.int .i64)) rfl HLZ.out (rdI_cells (RdI.below HZc.out hH4.1)) (by unfold maxLen; omega) (by omega) ?_
                    intro g2 c2 w2 h2 hb2
                    refine hK.out _ _ ?_ (fun hH5 => ?_)
                    · exact s6_below hb2 hH4
                    clear hK K
                    try simp only [Act.put, List.setIfInBounds_toArray, List.set_cons_zero, List.set_cons_succ]
                    refine wpAnyH_take (i := 8) (oi := _) (v := ?v8q10) rfl (by kernel_rfl) (by kernel_rfl) (by kernel_rfl) (fun _ _ _ h => h) (Or.inl ⟨by rfl, ?h8q10⟩) (by assumption) ?_
                    case h8q10 =>
                      intro w hSw
                      try dsimp only at hSw
                      obtain ⟨_, hS1, hS2⟩ := hSw
                      go_simp
                      try with_reducible rfl
                    try simp only [Act.put, List.setIfInBounds_toArray, List.set_cons_zero, List.set_cons_succ]
                    refine wpAnyH_ready (rs := [10]) (by kernel_rfl) (by simp) ?_
                    refine AllReadyH.cons (o := _) rfl (fun K hK => ?_) ?_
                    · have hy1 : RmF (((wc.alloc (.cells #[] 82)).alloc (.cells #[] 3)).alloc (.cells #[.slice none 0 0, .slice none 0 0] 38)).drew (wc.heap.size + 1 + 1) (.slice none 0 0) (.slice none 0 0) := by constructor <;> simp [go_sem]
                      have hy : RmF w2 (wc.heap.size + 1 + 1) (.slice none 0 0) (.slice none 0 0) := by
                        have h := ((RmF.below hy1 hb1)).below hb2
                        try simp only [World.size_alloc] at h
                        exact h
                      have hyk := Lib.hid hy
                      obtain ⟨y0, y1, fy0, fy1⟩ := hy
                      have hv0 := hH4.1.size
                      go_simp
                      refine hK.out _ _ ?_ (fun hH6 => ?_)
                      · exact s6_set (by omega) HLc.out.lt hH5
                      clear hK K
                      try simp only [Act.put, List.setIfInBounds_toArray, List.set_cons_zero, List.set_cons_succ]
                      refine wpAnyH_done (by kernel_rfl) ?_ _
                      go_wp2_with fail
                      go_meet
                      have hv1 : wc.heap.size ≤ w1.heap.size := hH4.1.size
                      have hx1 : w1.heap.size ≤ _ := (bl0 w1).size
                      try simp only [wc_drew, World.size_alloc] at hx1 hg1 h2
                      exact ⟨_, rfl, fin6b hyk.out (by omega) (by omega) (by first | omega | (simp only [World.size_alloc]; omega)) hH5.1 h1 hH3.1.size hg1' (below_seq (bl0 w1) hb2) h2 (by first | omega | (simp only [World.size_alloc]; omega)) hv1⟩
                    exact AllReadyH.nil
                  exact AllReadyH.nil
                exact AllReadyH.nil
              exact AllReadyH.nil
            refine AllReadyH.cons (o := _) rfl (fun K hK => ?_) ?_
            · go_simp
              refine hK.out _ _ ?_ (fun hH2 => ?_)
              · exact s6_alloc _ hH1
              clear hK K
              try simp only [Act.put, List.setIfInBounds_toArray, List.set_cons_zero, List.set_cons_succ]
              refine wpAnyH_ready (rs := [3, 4]) (by kernel_rfl) (by simp) ?_
              refine AllReadyH.cons (o := _) rfl (fun K hK => ?_) ?_
              · refine step_append_empty _ rfl _ _ _ rfl 82 iB (.agg #[.int .i64 0, .bool false, .bool false]) 3 16 Try.underlying35 hiB hB0 hB1 hB2 rfl (by omega) _ rfl ⟨ab, ao, none⟩ n c (flat3 xs) rfl HLX.out (rdW_cells (HXc.out.below hH2.1)) (by unfold maxLen; omega) (by omega) ?_
                intro g1 c1 w1 h1 hb1
                obtain ⟨h1, hg1, hg1'⟩ := h1 (by omega)
                refine hK.out _ _ ?_ (fun hH3 => ?_)
                · exact s6_below hb1 hH2
                clear hK K
                try simp only [Act.put, List.setIfInBounds_toArray, List.set_cons_zero, List.set_cons_succ]
                refine wpAnyH_ready (rs := [4]) (by kernel_rfl) (by simp) ?_
                refine AllReadyH.cons (o := _) rfl (fun K hK => ?_) ?_
                · go_simp
                  refine hK.out _ _ ?_ (fun hH4 => ?_)
                  · exact s6_alloc _ hH3
                  clear hK K
                  try simp only [Act.put, List.setIfInBounds_toArray, List.set_cons_zero, List.set_cons_succ]
                  refine wpAnyH_ready (rs := [7]) (by kernel_rfl) (by simp) ?_
                  refine AllReadyH.cons (o := _) rfl (fun K hK => ?_) ?_
                  · refine step_append_empty _ rfl _ _ _ rfl 3 iI (.int .i64 0) 1 8 Try.underlying36 hiI hI0 hI1 hI2 rfl (by omega) _ rfl ⟨bb, bo, none⟩ m d (zs.map (Value.int .i64)) rfl HLZ.out (rdI_cells (RdI.below HZc.out hH4.1)) (by unfold maxLen; omega) (by omega) ?_
                    intro g2 c2 w2 h2 hb2
                    refine hK.out _ _ ?_ (fun hH5 => ?_)
                    · exact s6_below hb2 hH4
                    clear hK K
                    try simp only [Act.put, List.setIfInBounds_toArray, List.set_cons_zero, List.set_cons_succ]
                    refine wpAnyH_take (i := 8) (oi := _) (v := ?v8q11) rfl (by kernel_rfl) (by kernel_rfl) (by kernel_rfl) (fun _ _ _ h => h) (Or.inl ⟨by rfl, ?h8q11⟩) (by assumption) ?_
                    case h8q11 =>
                      intro w hSw
                      try dsimp only at hSw
                      obtain ⟨_, hS1, hS2⟩ := hSw
                      go_simp
                      try with_reducible rfl
                    try simp only [Act.put, List.setIfInBounds_toArray, List.set_cons_zero, List.set_cons_succ]
                    refine wpAnyH_ready (rs := [10]) (by kernel_rfl) (by simp) ?_
                    refine AllReadyH.cons (o := _) rfl (fun K hK => ?_) ?_
                    · have hy1 : RmF ((wc.alloc (.cells #[] 82)).alloc (.cells #[.slice none 0 0, .slice none 0 0] 38)).drew (wc.heap.size + 1) (.slice none 0 0) (.slice none 0 0) := by constructor <;> simp [go_sem]
                      have hy : RmF w2 (wc.heap.size + 1) (.slice none 0 0) (.slice none 0 0) := by
                        have h := ((RmF.below hy1 hb1).alloc (.cells #[] 3)).below hb2
                        try simp only [World.size_alloc] at h
                        exact h
                      have hyk := Lib.hid hy
                      obtain ⟨y0, y1, fy0, fy1⟩ := hy
                      have hv0 := hH3.1.size
                      go_simp
                      refine hK.out _ _ ?_ (fun hH6 => ?_)
                      · exact s6_set (by omega) HLc.out.lt hH5
                      clear hK K
                      try simp only [Act.put, List.setIfInBounds_toArray, List.set_cons_zero, List.set_cons_succ]
                      refine wpAnyH_done (by kernel_rfl) ?_ _
                      go_wp2_with fail
                      go_meet
                      have hv1 : wc.heap.size ≤ w1.heap.size := hH3.1.size
                      have hx1 : w1.heap.size ≤ _ := (bl1 w1 (.cells #[] 3)).size
                      try simp only [wc_drew, World.size_alloc] at hx1 hg1 h2
                      exact ⟨_, rfl, fin6b hyk.out (by omega) (by omega) (by first | omega | (simp only [World.size_alloc]; omega)) hH5.1 h1 hH2.1.size hg1' (below_seq (bl1 w1 (.cells #[] 3)) hb2) h2 (by first | omega | (simp only [World.size_alloc]; omega)) hv1⟩
                    exact AllReadyH.nil
                  exact AllReadyH.nil
                exact AllReadyH.nil
              refine AllReadyH.cons (o := _) rfl (fun K hK => ?_) ?_
              · go_simp
                refine hK.out _ _ ?_ (fun hH3 => ?_)
                · exact s6_alloc _ hH2
                clear hK K
                try simp only [Act.put, List.setIfInBounds_toArray, List.set_cons_zero, List.set_cons_succ]
                refine wpAnyH_ready (rs := [3]) (by kernel_rfl) (by simp) ?_
                refine AllReadyH.cons (o := _) rfl (fun K hK => ?_) ?_
                · refine step_append_empty _ rfl _ _ _ rfl 82 iB (.agg #[.int .i64 0, .bool false, .bool false]) 3 16 Try.underlying35 hiB hB0 hB1 hB2 rfl (by omega) _ rfl ⟨ab, ao, none⟩ n c (flat3 xs) rfl HLX.out (rdW_cells (HXc.out.below hH3.1)) (by unfold maxLen; omega) (by omega) ?_
                  intro g1 c1 w1 h1 hb1
                  obtain ⟨h1, hg1, hg1'⟩ := h1 (by omega)
                  refine hK.out _ _ ?_ (fun hH4 => ?_)
                  · exact s6_below hb1 hH3
                  clear hK K
                  try simp only [Act.put, List.setIfInBounds_toArray, List.set_cons_zero, List.set_cons_succ]
                  refine wpAnyH_ready (rs := [7]) (by kernel_rfl) (by simp) ?_
                  refine AllReadyH.cons (o := _) rfl (fun K hK => ?_) ?_
                  · refine step_append_empty _ rfl _ _ _ rfl 3 iI (.int .i64 0) 1 8 Try.underlying36 hiI hI0 hI1 hI2 rfl (by omega) _ rfl ⟨bb, bo, none⟩ m d (zs.map (Value.int .i64)) rfl HLZ.out (rdI_cells (RdI.below HZc.out hH4.1)) (by unfold maxLen; omega) (by omega) ?_
                    intro g2 c2 w2 h2 hb2
                    refine hK.out _ _ ?_ (fun hH5 => ?_)
                    · exact s6_below hb2 hH4
                    clear hK K
                    try simp only [Act.put, List.setIfInBounds_toArray, List.set_cons_zero, List.set_cons_succ]
                    refine wpAnyH_take (i := 8) (oi := _) (v := ?v8q12) rfl (by kernel_rfl) (by kernel_rfl) (by kernel_rfl) (fun _ _ _ h => h) (Or.inl ⟨by rfl, ?h8q12⟩) (by assumption) ?_
                    case h8q12 =>
                      intro w hSw
                      try dsimp only at hSw
                      obtain ⟨_, hS1, hS2⟩ := hSw
                      go_simp
                      try with_reducible rfl
                    try simp only [Act.put, List.setIfInBounds_toArray, List.set_cons_zero, List.set_cons_succ]
                    refine wpAnyH_ready (rs := [10]) (by kernel_rfl) (by simp) ?_
                    refine AllReadyH.cons (o := _) rfl (fun K hK => ?_) ?_
                    · have hy1 : RmF (((wc.alloc (.cells #[] 82)).alloc (.cells #[.slice none 0 0, .slice none 0 0] 38)).alloc (.cells #[] 3)).drew (wc.heap.size + 1) (.slice none 0 0) (.slice none 0 0) := by constructor <;> simp [go_sem]
                      have hy : RmF w2 (wc.heap.size + 1) (.slice none 0 0) (.slice none 0 0) := by
                        have h := ((RmF.below hy1 hb1)).below hb2
                        try simp only [World.size_alloc] at h
                        exact h
                      have hyk := Lib.hid hy
                      obtain ⟨y0, y1, fy0, fy1⟩ := hy
                      have hv0 := hH4.1.size
                      go_simp
                      refine hK.out _ _ ?_ (fun hH6 => ?_)
                      · exact s6_set (by omega) HLc.out.lt hH5
                      clear hK K
                      try simp only [Act.put, List.setIfInBounds_toArray, List.set_cons_zero, List.set_cons_succ]
                      refine wpAnyH_done (by kernel_rfl) ?_ _
                      go_wp2_with fail
                      go_meet
                      have hv1 : wc.heap.size ≤ w1.heap.size := hH4.1.size
                      have hx1 : w1.heap.size ≤ _ := (bl0 w1).size
                      try simp only [wc_drew, World.size_alloc] at hx1 hg1 h2
                      exact ⟨_, rfl, fin6b hyk.out (by omega) (by omega) (by first | omega | (simp only [World.size_alloc]; omega)) hH5.1 h1 hH3.1.size hg1' (below_seq (bl0 w1) hb2) h2 (by first | omega | (simp only [World.size_alloc]; omega)) hv1⟩
                    exact AllReadyH.nil
                  exact AllReadyH.nil
                exact AllReadyH.nil
              exact AllReadyH.nil
            exact AllReadyH.nil
          refine AllReadyH.cons (o := _) rfl (fun K hK => ?_) ?_
          · go_simp
            refine hK.out _ _ ?_ (fun hH1 => ?_)
            · exact s6_alloc _ hH0
            clear hK K
            try simp only [Act.put, List.setIfInBounds_toArray, List.set_cons_zero, List.set_cons_succ]
            refine wpAnyH_ready (rs := [0, 9]) (by kernel_rfl) (by simp) ?_
            refine AllReadyH.cons (o := _) rfl (fun K hK => ?_) ?_
            · go_simp
              refine hK.out _ _ ?_ (fun hH2 => ?_)
              · exact s6_alloc _ hH1
              clear hK K
              try simp only [Act.put, List.setIfInBounds_toArray, List.set_cons_zero, List.set_cons_succ]
              refine wpAnyH_ready (rs := [3, 9]) (by kernel_rfl) (by simp) ?_
              refine AllReadyH.cons (o := _) rfl (fun K hK => ?_) ?_
              · refine step_append_empty _ rfl _ _ _ rfl 82 iB (.agg #[.int .i64 0, .bool false, .bool false]) 3 16 Try.underlying35 hiB hB0 hB1 hB2 rfl (by omega) _ rfl ⟨ab, ao, none⟩ n c (flat3 xs) rfl HLX.out (rdW_cells (HXc.out.below hH2.1)) (by unfold maxLen; omega) (by omega) ?_
                intro g1 c1 w1 h1 hb1
                obtain ⟨h1, hg1, hg1'⟩ := h1 (by omega)
                refine hK.out _ _ ?_ (fun hH3 => ?_)
                · exact s6_below hb1 hH2
                clear hK K
                try simp only [Act.put, List.setIfInBounds_toArray, List.set_cons_zero, List.set_cons_succ]
                refine wpAnyH_ready (rs := [7, 9]) (by kernel_rfl) (by simp) ?_
                refine AllReadyH.cons (o := _) rfl (fun K hK => ?_) ?_
                · refine step_append_empty _ rfl _ _ _ rfl 3 iI (.int .i64 0) 1 8 Try.underlying36 hiI hI0 hI1 hI2 rfl (by omega) _ rfl ⟨bb, bo, none⟩ m d (zs.map (Value.int .i64)) rfl HLZ.out (rdI_cells (RdI.below HZc.out hH3.1)) (by unfold maxLen; omega) (by omega) ?_
                  intro g2 c2 w2 h2 hb2
                  refine hK.out _ _ ?_ (fun hH4 => ?_)
                  · exact s6_below hb2 hH3
                  clear hK K
                  try simp only [Act.put, List.setIfInBounds_toArray, List.set_cons_zero, List.set_cons_succ]
                  refine wpAnyH_take (i := 8) (oi := _) (v := ?v8q13) rfl (by kernel_rfl) (by kernel_rfl) (by kernel_rfl) (fun _ _ _ h => h) (Or.inl ⟨by rfl, ?h8q13⟩) (by assumption) ?_
                  case h8q13 =>
                    intro w hSw
                    try dsimp only at hSw
                    obtain ⟨_, hS1, hS2⟩ := hSw
                    go_simp
                    try with_reducible rfl
                  try simp only [Act.put, List.setIfInBounds_toArray, List.set_cons_zero, List.set_cons_succ]
                  refine wpAnyH_ready (rs := [9]) (by kernel_rfl) (by simp) ?_
                  refine AllReadyH.cons (o := _) rfl (fun K hK => ?_) ?_
                  · go_simp
                    refine hK.out _ _ ?_ (fun hH5 => ?_)
                    · exact s6_alloc _ hH4
                    clear hK K
                    try simp only [Act.put, List.setIfInBounds_toArray, List.set_cons_zero, List.set_cons_succ]
                    refine wpAnyH_ready (rs := [10]) (by kernel_rfl) (by simp) ?_
                    refine AllReadyH.cons (o := _) rfl (fun K hK => ?_) ?_
                    · go_simp
                      refine hK.out _ _ ?_ (fun hH6 => ?_)
                      · exact s6_alloc _ hH4
                      clear hK K
                      try simp only [Act.put, List.setIfInBounds_toArray, List.set_cons_zero, List.set_cons_succ]
                      refine wpAnyH_done (by kernel_rfl) ?_ _
                      go_wp2_with fail
                      go_meet
                      exact ⟨_, rfl, fin6a hH4.1 h1 hH2.1.size hg1' (below_seq (bl0 w1) hb2) h2 (bl0 w1).size hH3.1.size⟩
                    exact AllReadyH.nil
                  exact AllReadyH.nil
                refine AllReadyH.cons (o := _) rfl (fun K hK => ?_) ?_
                · go_simp
                  refine hK.out _ _ ?_ (fun hH4 => ?_)
                  · exact s6_alloc _ hH3
                  clear hK K
                  try simp only [Act.put, List.setIfInBounds_toArray, List.set_cons_zero, List.set_cons_succ]
                  refine wpAnyH_ready (rs := [7]) (by kernel_rfl) (by simp) ?_
                  refine AllReadyH.cons (o := _) rfl (fun K hK => ?_) ?_
                  · refine step_append_empty _ rfl _ _ _ rfl 3 iI (.int .i64 0) 1 8 Try.underlying36 hiI hI0 hI1 hI2 rfl (by omega) _ rfl ⟨bb, bo, none⟩ m d (zs.map (Value.int .i64)) rfl HLZ.out (rdI_cells (RdI.below HZc.out hH4.1)) (by unfold maxLen; omega) (by omega) ?_
                    intro g2 c2 w2 h2 hb2
                    refine hK.out _ _ ?_ (fun hH5 => ?_)
                    · exact s6_below hb2 hH4
                    clear hK K
                    try simp only [Act.put, List.setIfInBounds_toArray, List.set_cons_zero, List.set_cons_succ]
                    refine wpAnyH_take (i := 8) (oi := _) (v := ?v8q14) rfl (by kernel_rfl) (by kernel_rfl) (by kernel_rfl) (fun _ _ _ h => h) (Or.inl ⟨by rfl, ?h8q14⟩) (by assumption) ?_
                    case h8q14 =>
                      intro w hSw
                      try dsimp only at hSw
                      obtain ⟨_, hS1, hS2⟩ := hSw
                      go_simp
                      try with_reducible rfl
                    try simp only [Act.put, List.setIfInBounds_toArray, List.set_cons_zero, List.set_cons_succ]
                    refine wpAnyH_ready (rs := [10]) (by kernel_rfl) (by simp) ?_
                    refine AllReadyH.cons (o := _) rfl (fun K hK => ?_) ?_
                    · have hy : RmF w2 (w1.heap.size) (.slice none 0 0) (.slice none 0 0) := by
                        have h := ((RmF.new w1 _ _ _)).below hb2
                        try simp only [World.size_alloc] at h
                        exact h
                      have hyk := Lib.hid hy
                      obtain ⟨y0, y1, fy0, fy1⟩ := hy
                      have hv0 := hH3.1.size
                      go_simp
                      refine hK.out _ _ ?_ (fun hH6 => ?_)
                      · exact s6_set (by omega) HLc.out.lt hH5
                      clear hK K
                      try simp only [Act.put, List.setIfInBounds_toArray, List.set_cons_zero, List.set_cons_succ]
                      refine wpAnyH_done (by kernel_rfl) ?_ _
                      go_wp2_with fail
                      go_meet
                      have hv1 : wc.heap.size ≤ w1.heap.size := hH3.1.size
                      exact ⟨_, rfl, fin6b hyk.out (by omega) (by omega) (by first | omega | (simp only [World.size_alloc]; omega)) hH5.1 h1 hH2.1.size hg1' (below_seq (bl1 w1 (.cells #[.slice none 0 0, .slice none 0 0] 38)) hb2) h2 (by first | omega | (simp only [World.size_alloc]; omega)) hv1⟩
                    exact AllReadyH.nil
                  exact AllReadyH.nil
                exact AllReadyH.nil
              refine AllReadyH.cons (o := _) rfl (fun K hK => ?_) ?_
              · go_simp
                refine hK.out _ _ ?_ (fun hH3 => ?_)
                · exact s6_alloc _ hH2
                clear hK K
                try simp only [Act.put, List.setIfInBounds_toArray, List.set_cons_zero, List.set_cons_succ]
                refine wpAnyH_ready (rs := [3]) (by kernel_rfl) (by simp) ?_
                refine AllReadyH.cons (o := _) rfl (fun K hK => ?_) ?_
                · refine step_append_empty _ rfl _ _ _ rfl 82 iB (.agg #[.int .i64 0, .bool false, .bool false]) 3 16 Try.underlying35 hiB hB0 hB1 hB2 rfl (by omega) _ rfl ⟨ab, ao, none⟩ n c (flat3 xs) rfl HLX.out (rdW_cells (HXc.out.below hH3.1)) (by unfold maxLen; omega) (by omega) ?_
                  intro g1 c1 w1 h1 hb1
                  obtain ⟨h1, hg1, hg1'⟩ := h1 (by omega)
                  refine hK.out _ _ ?_ (fun hH4 => ?_)
                  · exact s6_below hb1 hH3
                  clear hK K
                  try simp only [Act.put, List.setIfInBounds_toArray, List.set_cons_zero, List.set_cons_succ]
                  refine wpAnyH_ready (rs := [7]) (by kernel_rfl) (by simp) ?_
                  refine AllReadyH.cons (o := _) rfl (fun K hK => ?_) ?_
                  · refine step_append_empty _ rfl _ _ _ rfl 3 iI (.int .i64 0) 1 8 Try.underlying36 hiI hI0 hI1 hI2 rfl (by omega) _ rfl ⟨bb, bo, none⟩ m d (zs.map (Value.int .i64)) rfl HLZ.out (rdI_cells (RdI.below HZc.out hH4.1)) (by unfold maxLen; omega) (by omega) ?_
                    intro g2 c2 w2 h2 hb2
                    refine hK.out _ _ ?_ (fun hH5 => ?_)
                    · exact s6_below hb2 hH4
                    clear hK K
                    try simp only [Act.put, List.setIfInBounds_toArray, List.set_cons_zero, List.set_cons_succ]
                    refine wpAnyH_take (i := 8) (oi := _) (v := ?v8q15) rfl (by kernel_rfl) (by kernel_rfl) (by kernel_rfl) (fun _ _ _ h => h) (Or.inl ⟨by rfl, ?h8q15⟩) (by assumption) ?_
                    case h8q15 =>
                      intro w hSw
                      try dsimp only at hSw
                      obtain ⟨_, hS1, hS2⟩ := hSw
                      go_simp
                      try with_reducible rfl
                    try simp only [Act.put, List.setIfInBounds_toArray, List.set_cons_zero, List.set_cons_succ]
                    refine wpAnyH_ready (rs := [10]) (by kernel_rfl) (by simp) ?_
                    refine AllReadyH.cons (o := _) rfl (fun K hK => ?_) ?_
                    · have hy1 : RmF (((wc.alloc (.cells #[] 3)).alloc (.cells #[] 82)).alloc (.cells #[.slice none 0 0, .slice none 0 0] 38)).drew (wc.heap.size + 1 + 1) (.slice none 0 0) (.slice none 0 0) := by constructor <;> simp [go_sem]
                      have hy : RmF w2 (wc.heap.size + 1 + 1) (.slice none 0 0) (.slice none 0 0) := by
                        have h := ((RmF.below hy1 hb1)).below hb2
                        try simp only [World.size_alloc] at h
                        exact h
                      have hyk := Lib.hid hy
                      obtain ⟨y0, y1, fy0, fy1⟩ := hy
                      have hv0 := hH4.1.size
                      go_simp
                      refine hK.out _ _ ?_ (fun hH6 => ?_)
                      · exact s6_set (by omega) HLc.out.lt hH5
                      clear hK K
                      try simp only [Act.put, List.setIfInBounds_toArray, List.set_cons_zero, List.set_cons_succ]
                      refine wpAnyH_done (by kernel_rfl) ?_ _
                      go_wp2_with fail
                      go_meet
                      have hv1 : wc.heap.size ≤ w1.heap.size := hH4.1.size
                      have hx1 : w1.heap.size ≤ _ := (bl0 w1).size
                      try simp only [wc_drew, World.size_alloc] at hx1 hg1 h2
                      exact ⟨_, rfl, fin6b hyk.out (by omega) (by omega) (by first | omega | (simp only [World.size_alloc]; omega)) hH5.1 h1 hH3.1.size hg1' (below_seq (bl0 w1) hb2) h2 (by first | omega | (simp only [World.size_alloc]; omega)) hv1⟩
                    exact AllReadyH.nil
                  exact AllReadyH.nil
                exact AllReadyH.nil
              exact AllReadyH.nil
            refine AllReadyH.cons (o := _) rfl (fun K hK => ?_) ?_
            · go_simp
              refine hK.out _ _ ?_ (fun hH2 => ?_)
              · exact s6_alloc _ hH1
              clear hK K
              try simp only [Act.put, List.setIfInBounds_toArray, List.set_cons_zero, List.set_cons_succ]
              refine wpAnyH_ready (rs := [0]) (by kernel_rfl) (by simp) ?_
              refine AllReadyH.cons (o := _) rfl (fun K hK => ?_) ?_
              · go_simp
                refine hK.out _ _ ?_ (fun hH3 => ?_)
                · exact s6_alloc _ hH2
                clear hK K
                try simp only [Act.put, List.setIfInBounds_toArray, List.set_cons_zero, List.set_cons_succ]
                refine wpAnyH_ready (rs := [3]) (by kernel_rfl) (by simp) ?_
                refine AllReadyH.cons (o := _) rfl (fun K hK => ?_) ?_
                · refine step_append_empty _ rfl _ _ _ rfl 82 iB (.agg #[.int .i64 0, .bool false, .bool false]) 3 16 Try.underlying35 hiB hB0 hB1 hB2 rfl (by omega) _ rfl ⟨ab, ao, none⟩ n c (flat3 xs) rfl HLX.out (rdW_cells (HXc.out.below hH3.1)) (by unfold maxLen; omega) (by omega) ?_
                  intro g1 c1 w1 h1 hb1
                  obtain ⟨h1, hg1, hg1'⟩ := h1 (by omega)
                  refine hK.out _ _ ?_ (fun hH4 => ?_)
                  · exact s6_below hb1 hH3
                  clear hK K
                  try simp only [Act.put, List.setIfInBounds_toArray, List.set_cons_zero, List.set_cons_succ]
                  refine wpAnyH_ready (rs := [7]) (by kernel_rfl) (by simp) ?_
                  refine AllReadyH.cons (o := _) rfl (fun K hK => ?_) ?_
                  · refine step_append_empty _ rfl _ _ _ rfl 3 iI (.int .i64 0) 1 8 Try.underlying36 hiI hI0 hI1 hI2 rfl (by omega) _ rfl ⟨bb, bo, none⟩ m d (zs.map (Value.int .i64)) rfl HLZ.out (rdI_cells (RdI.below HZc.out hH4.1)) (by unfold maxLen; omega) (by omega) ?_
                    intro g2 c2 w2 h2 hb2
                    refine hK.out _ _ ?_ (fun hH5 => ?_)
                    · exact s6_below hb2 hH4
                    clear hK K
                    try simp only [Act.put, List.setIfInBounds_toArray, List.set_cons_zero, List.set_cons_succ]
                    refine wpAnyH_take (i := 8) (oi := _) (v := ?v8q16) rfl (by kernel_rfl) (by kernel_rfl) (by kernel_rfl) (fun _ _ _ h => h) (Or.inl ⟨by rfl, ?h8q16⟩) (by assumption) ?_
                    case h8q16 =>
                      intro w hSw
                      try dsimp only at hSw
                      obtain ⟨_, hS1, hS2⟩ := hSw
                      go_simp
                      try with_reducible rfl
                    try simp only [Act.put, List.setIfInBounds_toArray, List.set_cons_zero, List.set_cons_succ]
                    refine wpAnyH_ready (rs := [10]) (by kernel_rfl) (by simp) ?_
                    refine AllReadyH.cons (o := _) rfl (fun K hK => ?_) ?_
                    · have hy1 : RmF (((wc.alloc (.cells #[] 3)).alloc (.cells #[.slice none 0 0, .slice none 0 0] 38)).alloc (.cells #[] 82)).drew (wc.heap.size + 1) (.slice none 0 0) (.slice none 0 0) := by constructor <;> simp [go_sem]
                      have hy : RmF w2 (wc.heap.size + 1) (.slice none 0 0) (.slice none 0 0) := by
                        have h := ((RmF.below hy1 hb1)).below hb2
                        try simp only [World.size_alloc] at h
                        exact h
                      have hyk := Lib.hid hy
                      obtain ⟨y0, y1, fy0, fy1⟩ := hy
                      have hv0 := hH4.1.size
                      go_simp
                      refine hK.out _ _ ?_ (fun hH6 => ?_)
                      · exact s6_set (by omega) HLc.out.lt hH5
                      clear hK K
                      try simp only [Act.put, List.setIfInBounds_toArray, List.set_cons_zero, List.set_cons_succ]
                      refine wpAnyH_done (by kernel_rfl) ?_ _
                      go_wp2_with fail
                      go_meet
                      have hv1 : wc.heap.size ≤ w1.heap.size := hH4.1.size
                      have hx1 : w1.heap.size ≤ _ := (bl0 w1).size
                      try simp only [wc_drew, World.size_alloc] at hx1 hg1 h2
                      exact ⟨_, rfl, fin6b hyk.out (by omega) (by omega) (by first | omega | (simp only [World.size_alloc]; omega)) hH5.1 h1 hH3.1.size hg1' (below_seq (bl0 w1) hb2) h2 (by first | omega | (simp only [World.size_alloc]; omega)) hv1⟩
                    exact AllReadyH.nil
                  exact AllReadyH.nil
                exact AllReadyH.nil
              exact AllReadyH.nil
            exact AllReadyH.nil
          refine AllReadyH.cons (o := _) rfl (fun K hK => ?_) ?_
          · go_simp
            refine hK.out _ _ ?_ (fun hH1 => ?_)
            · exact s6_alloc _ hH0
            clear hK K
            try simp only [Act.put, List.setIfInBounds_toArray, List.set_cons_zero, List.set_cons_succ]
            refine wpAnyH_ready (rs := [0, 4]) (by kernel_rfl) (by simp) ?_
            refine AllReadyH.cons (o := _) rfl (fun K hK => ?_) ?_
            · go_simp
              refine hK.out _ _ ?_ (fun hH2 => ?_)
              · exact s6_alloc _ hH1
              clear hK K
              try simp only [Act.put, List.setIfInBounds_toArray, List.set_cons_zero, List.set_cons_succ]
              refine wpAnyH_ready (rs := [3, 4]) (by kernel_rfl) (by simp) ?_
              refine AllReadyH.cons (o := _) rfl (fun K hK => ?_) ?_
              · refine step_append_empty _ rfl _ _ _ rfl 82 iB (.agg #[.int .i64 0, .bool false, .bool false]) 3 16 Try.underlying35 hiB hB0 hB1 hB2 rfl (by omega) _ rfl ⟨ab, ao, none⟩ n c (flat3 xs) rfl HLX.out (rdW_cells (HXc.out.below hH2.1)) (by unfold maxLen; omega) (by omega) ?_
                intro g1 c1 w1 h1 hb1
                obtain ⟨h1, hg1, hg1'⟩ := h1 (by omega)
                refine hK.out _ _ ?_ (fun hH3 => ?_)
                · exact s6_below hb1 hH2
                clear hK K
                try simp only [Act.put, List.setIfInBounds_toArray, List.set_cons_zero, List.set_cons_succ]
                refine wpAnyH_ready (rs := [4]) (by kernel_rfl) (by simp) ?_
                refine AllReadyH.cons (o := _) rfl (fun K hK => ?_) ?_
                · go_simp
                  refine hK.out _ _ ?_ (fun hH4 => ?_)
                  · exact s6_alloc _ hH3
                  clear hK K
                  try simp only [Act.put, List.setIfInBounds_toArray, List.set_cons_zero, List.set_cons_succ]
                  refine wpAnyH_ready (rs := [7]) (by kernel_rfl) (by simp) ?_
                  refine AllReadyH.cons (o := _) rfl (fun K hK => ?_) ?_
                  · refine step_append_empty _ rfl _ _ _ rfl 3 iI (.int .i64 0) 1 8 Try.underlying36 hiI hI0 hI1 hI2 rfl (by omega) _ rfl ⟨bb, bo, none⟩ m d (zs.map (Value.int .i64)) rfl HLZ.out (rdI_cells (RdI.below HZc.out hH4.1)) (by unfold maxLen; omega) (by omega) ?_
                    intro g2 c2 w2 h2 hb2
                    refine hK.out _ _ ?_ (fun hH5 => ?_)
                    · exact s6_below hb2 hH4
                    clear hK K
                    try simp only [Act.put, List.setIfInBounds_toArray, List.set_cons_zero, List.set_cons_succ]
                    refine wpAnyH_take (i := 8) (oi := _) (v := ?v8q17) rfl (by kernel_rfl) (by kernel_rfl) (by kernel_rfl) (fun _ _ _ h => h) (Or.inl ⟨by rfl, ?h8q17⟩) (by assumption) ?_
                    case h8q17 =>
                      intro w hSw
                      try dsimp only at hSw
                      obtain ⟨_, hS1, hS2⟩ := hSw
                      go_simp
                      try with_reducible rfl
                    try simp only [Act.put, List.setIfInBounds_toArray, List.set_cons_zero, List.set_cons_succ]
                    refine wpAnyH_ready (rs := [10]) (by kernel_rfl) (by simp) ?_
                    refine AllReadyH.cons (o := _) rfl (fun K hK => ?_) ?_
                    · have hy1 : RmF ((wc.alloc (.cells #[.slice none 0 0, .slice none 0 0] 38)).alloc (.cells #[] 82)).drew (wc.heap.size) (.slice none 0 0) (.slice none 0 0) := by constructor <;> simp [go_sem]
                      have hy : RmF w2 (wc.heap.size) (.slice none 0 0) (.slice none 0 0) := by
                        have h := ((RmF.below hy1 hb1).alloc (.cells #[] 3)).below hb2
                        try simp only [World.size_alloc] at h
                        exact h
                      have hyk := Lib.hid hy
                      obtain ⟨y0, y1, fy0, fy1⟩ := hy
                      have hv0 := hH3.1.size
                      go_simp
                      refine hK.out _ _ ?_ (fun hH6 => ?_)
                      · exact s6_set (by omega) HLc.out.lt hH5
                      clear hK K
                      try simp only [Act.put, List.setIfInBounds_toArray, List.set_cons_zero, List.set_cons_succ]
                      refine wpAnyH_done (by kernel_rfl) ?_ _
                      go_wp2_with fail
                      go_meet
                      have hv1 : wc.heap.size ≤ w1.heap.size := hH3.1.size
                      have hx1 : w1.heap.size ≤ _ := (bl1 w1 (.cells #[] 3)).size
                      try simp only [wc_drew, World.size_alloc] at hx1 hg1 h2
                      exact ⟨_, rfl, fin6b hyk.out (by omega) (by omega) (by first | omega | (simp only [World.size_alloc]; omega)) hH5.1 h1 hH2.1.size hg1' (below_seq (bl1 w1 (.cells #[] 3)) hb2) h2 (by first | omega | (simp only [World.size_alloc]; omega)) hv1⟩
                    exact AllReadyH.nil
                  exact AllReadyH.nil
                exact AllReadyH.nil
              refine AllReadyH.cons (o := _) rfl (fun K hK => ?_) ?_
              · go_simp
                refine hK.out _ _ ?_ (fun hH3 => ?_)
                · exact s6_alloc _ hH2
                clear hK K
                try simp only [Act.put, List.setIfInBounds_toArray, List.set_cons_zero, List.set_cons_succ]
                refine wpAnyH_ready (rs := [3]) (by kernel_rfl) (by simp) ?_
                refine AllReadyH.cons (o := _) rfl (fun K hK => ?_) ?_
                · refine step_append_empty _ rfl _ _ _ rfl 82 iB (.agg #[.int .i64 0, .bool false, .bool false]) 3 16 Try.underlying35 hiB hB0 hB1 hB2 rfl (by omega) _ rfl ⟨ab, ao, none⟩ n c (flat3 xs) rfl HLX.out (rdW_cells (HXc.out.below hH3.1)) (by unfold maxLen; omega) (by omega) ?_
                  intro g1 c1 w1 h1 hb1
                  obtain ⟨h1, hg1, hg1'⟩ := h1 (by omega)
                  refine hK.out _ _ ?_ (fun hH4 => ?_)
                  · exact s6_below hb1 hH3
                  clear hK K
                  try simp only [Act.put, List.setIfInBounds_toArray, List.set_cons_zero, List.set_cons_succ]
                  refine wpAnyH_ready (rs := [7]) (by kernel_rfl) (by simp) ?_
                  refine AllReadyH.cons (o := _) rfl (fun K hK => ?_) ?_
                  · refine step_append_empty _ rfl _ _ _ rfl 3 iI (.int .i64 0) 1 8 Try.underlying36 hiI hI0 hI1 hI2 rfl (by omega) _ rfl ⟨bb, bo, none⟩ m d (zs.map (Value.int .i64)) rfl HLZ.out (rdI_cells (RdI.below HZc.out hH4.1)) (by unfold maxLen; omega) (by omega) ?_
                    intro g2 c2 w2 h2 hb2
                    refine hK.out _ _ ?_ (fun hH5 => ?_)
                    · exact s6_below hb2 hH4
                    clear hK K
                    try simp only [Act.put, List.setIfInBounds_toArray, List.set_cons_zero, List.set_cons_succ]
                    refine wpAnyH_take (i := 8) (oi := _) (v := ?v8q18) rfl (by kernel_rfl) (by kernel_rfl) (by kernel_rfl) (fun _ _ _ h => h) (Or.inl ⟨by rfl, ?h8q18⟩) (by assumption) ?_
                    case h8q18 =>
                      intro w hSw
                      try dsimp only at hSw
                      obtain ⟨_, hS1, hS2⟩ := hSw
                      go_simp
                      try with_reducible rfl
                    try simp only [Act.put, List.setIfInBounds_toArray, List.set_cons_zero, List.set_cons_succ]
                    refine wpAnyH_ready (rs := [10]) (by kernel_rfl) (by simp) ?_
                    refine AllReadyH.cons (o := _) rfl (fun K hK => ?_) ?_
                    · have hy1 : RmF (((wc.alloc (.cells #[.slice none 0 0, .slice none 0 0] 38)).alloc (.cells #[] 82)).alloc (.cells #[] 3)).drew (wc.heap.size) (.slice none 0 0) (.slice none 0 0) := by constructor <;> simp [go_sem]
                      have hy : RmF w2 (wc.heap.size) (.slice none 0 0) (.slice none 0 0) := by
                        have h := ((RmF.below hy1 hb1)).below hb2
                        try simp only [World.size_alloc] at h
                        exact h
                      have hyk := Lib.hid hy
                      obtain ⟨y0, y1, fy0, fy1⟩ := hy
                      have hv0 := hH4.1.size
                      go_simp
                      refine hK.out _ _ ?_ (fun hH6 => ?_)
                      · exact s6_set (by omega) HLc.out.lt hH5
                      clear hK K
                      try simp only [Act.put, List.setIfInBounds_toArray, List.set_cons_zero, List.set_cons_succ]
                      refine wpAnyH_done (by kernel_rfl) ?_ _
                      go_wp2_with fail
                      go_meet
                      have hv1 : wc.heap.size ≤ w1.heap.size := hH4.1.size
                      have hx1 : w1.heap.size ≤ _ := (bl0 w1).size
                      try simp only [wc_drew, World.size_alloc] at hx1 hg1 h2
                      exact ⟨_, rfl, fin6b hyk.out (by omega) (by omega) (by first | omega | (simp only [World.size_alloc]; omega)) hH5.1 h1 hH3.1.size hg1' (below_seq (bl0 w1) hb2) h2 (by first | omega | (simp only [World.size_alloc]; omega)) hv1⟩
                    exact AllReadyH.nil
                  exact AllReadyH.nil
                exact AllReadyH.nil
              exact AllReadyH.nil
            refine AllReadyH.cons (o := _) rfl (fun K hK => ?_) ?_
            · go_simp
              refine hK.out _ _ ?_ (fun hH2 => ?_)
              · exact s6_alloc _ hH1
              clear hK K
              try simp only [Act.put, List.setIfInBounds_toArray, List.set_cons_zero, List.set_cons_succ]
              refine wpAnyH_ready (rs := [0]) (by kernel_rfl) (by simp) ?_
              refine AllReadyH.cons (o := _) rfl (fun K hK => ?_) ?_
              · go_simp
                refine hK.out _ _ ?_ (fun hH3 => ?_)
                · exact s6_alloc _ hH2
                clear hK K
                try simp only [Act.put, List.setIfInBounds_toArray, List.set_cons_zero, List.set_cons_succ]
                refine wpAnyH_ready (rs := [3]) (by kernel_rfl) (by simp) ?_
                refine AllReadyH.cons (o := _) rfl (fun K hK => ?_) ?_
                · refine step_append_empty _ rfl _ _ _ rfl 82 iB (.agg #[.int .i64 0, .bool false, .bool false]) 3 16 Try.underlying35 hiB hB0 hB1 hB2 rfl (by omega) _ rfl ⟨ab, ao, none⟩ n c (flat3 xs) rfl HLX.out (rdW_cells (HXc.out.below hH3.1)) (by unfold maxLen; omega) (by omega) ?_
                  intro g1 c1 w1 h1 hb1
                  obtain ⟨h1, hg1, hg1'⟩ := h1 (by omega)
                  refine hK.out _ _ ?_ (fun hH4 => ?_)
                  · exact s6_below hb1 hH3
                  clear hK K
                  try simp only [Act.put, List.setIfInBounds_toArray, List.set_cons_zero, List.set_cons_succ]
                  refine wpAnyH_ready (rs := [7]) (by kernel_rfl) (by simp) ?_
                  refine AllReadyH.cons (o := _) rfl (fun K hK => ?_) ?_
                  · refine step_append_empty _ rfl _ _ _ rfl 3 iI (.int .i64 0) 1 8 Try.underlying36 hiI hI0 hI1 hI2 rfl (by omega) _ rfl ⟨bb, bo, none⟩ m d (zs.map (Value.int .i64)) rfl HLZ.out (rdI_cells (RdI.below HZc.out hH4.1)) (by unfold maxLen; omega) (by omega) ?_
                    intro g2 c2 w2 h2 hb2
                    refine hK.out _ _ ?_ (fun hH5 => ?_)
                    · exact s6_below hb2 hH4
                    clear hK K
                    try simp only [Act.put, List.setIfInBounds_toArray, List.set_cons_zero, List.set_cons_succ]
                    refine wpAnyH_take (i := 8) (oi := _) (v := ?v8q19) rfl (by kernel_rfl) (by kernel_rfl) (by kernel_rfl) (fun _ _ _ h => h) (Or.inl ⟨by rfl, ?h8q19⟩) (by assumption) ?_
                    case h8q19 =>
                      intro w hSw
                      try dsimp only at hSw
                      obtain ⟨_, hS1, hS2⟩ := hSw
                      go_simp
                      try with_reducible rfl
                    try simp only [Act.put, List.setIfInBounds_toArray, List.set_cons_zero, List.set_cons_succ]
                    refine wpAnyH_ready (rs := [10]) (by kernel_rfl) (by simp) ?_
                    refine AllReadyH.cons (o := _) rfl (fun K hK => ?_) ?_
                    · have hy1 : RmF (((wc.alloc (.cells #[.slice none 0 0, .slice none 0 0] 38)).alloc (.cells #[] 3)).alloc (.cells #[] 82)).drew (wc.heap.size) (.slice none 0 0) (.slice none 0 0) := by constructor <;> simp [go_sem]
                      have hy : RmF w2 (wc.heap.size) (.slice none 0 0) (.slice none 0 0) := by
                        have h := ((RmF.below hy1 hb1)).below hb2
                        try simp only [World.size_alloc] at h
                        exact h
                      have hyk := Lib.hid hy
                      obtain ⟨y0, y1, fy0, fy1⟩ := hy
                      have hv0 := hH4.1.size
                      go_simp
                      refine hK.out _ _ ?_ (fun hH6 => ?_)
                      · exact s6_set (by omega) HLc.out.lt hH5
                      clear hK K
                      try simp only [Act.put, List.setIfInBounds_toArray, List.set_cons_zero, List.set_cons_succ]
                      refine wpAnyH_done (by kernel_rfl) ?_ _
                      go_wp2_with fail
                      go_meet
                      have hv1 : wc.heap.size ≤ w1.heap.size := hH4.1.size
                      have hx1 : w1.heap.size ≤ _ := (bl0 w1).size
                      try simp only [wc_drew, World.size_alloc] at hx1 hg1 h2
                      exact ⟨_, rfl, fin6b hyk.out (by omega) (by omega) (by first | omega | (simp only [World.size_alloc]; omega)) hH5.1 h1 hH3.1.size hg1' (below_seq (bl0 w1) hb2) h2 (by first | omega | (simp only [World.size_alloc]; omega)) hv1⟩
                    exact AllReadyH.nil
                  exact AllReadyH.nil
                exact AllReadyH.nil
              exact AllReadyH.nil
            exact AllReadyH.nil
          exact AllReadyH.nil
          -- region 6 ends
        case rest =>
          obtain ⟨y, rfl, g1, c1, T, c2, hy, hyg, hyb, ho1, ho2, hbx⟩ := hcut
          have hRlt := HRc.out.lt
          have hgb := (ho1.lt g1 rfl).1
          have HM := Lib.hid (HMc.out.below hbx)
          have HR := Lib.hid (HRc.out.below hbx)
          have HL := Lib.hid (HLc.out.below hbx)
          have HZ := Lib.hid (RdI.below HZc.out hbx)
          have HB := Lib.hid (below_seq HBc.out hbx)
          obtain ⟨x0, x1, x2⟩ : wc.cell? ⟨x, 0, none⟩ = some (.int .i64 rn) ∧ wc.cell? ⟨x, 1, none⟩ = some (.bool ri) ∧ wc.cell? ⟨x, 2, none⟩ = some (.bool ro) := by
            obtain ⟨k0, k1, k2⟩ := HX0.out
            exact ⟨(hbx.cell (block_lt_of_cell k0)).trans k0, (hbx.cell (block_lt_of_cell k1)).trans k1, (hbx.cell (block_lt_of_cell k2)).trans k2⟩
          obtain ⟨p, hp⟩ : ∃ p, xs[q]? = some p := ⟨_, List.getElem?_eq_getElem (by rw [HXc.out.len]; exact hq)⟩
          obtain ⟨s0, s1, s2, f0, f1, f2⟩ := own_at3 ho1 hp
          obtain ⟨p0, p1, p2⟩ := p
          simp only at s0 s1 s2
          have HO1 := Lib.hid ho1
          have HO2 := Lib.hid ho2
          have HY := Lib.hid hy
          have hyz : w.heap.size + 1 + 1 < y := by omega
          have hgz : w.heap.size + 1 + 1 < g1 := by omega
          have hVz := hRlt
          have HNB : 0 < m → bb ≠ g1 := fun h0 => by
            obtain ⟨b, off, z, e, _, hc⟩ := RdI.at_ HZc.out h0
            have hlt := block_lt_of_cell hc
            simp only [Option.some.injEq, Addr.mk.injEq, and_true] at e
            obtain ⟨rfl, rfl⟩ := e
            have hlt2 : bb < _ := hlt
            omega
          clear hp ho1 ho2 hbx HMc HRc HLc HZc HBc HXc HX0 hyb hgb hRlt
          have m0 := HM.out.c0
          have y0 := hy.c0
          clear hy
          go_upto_region 8 with fail
          have HW := Lib.hid (seven_kept (q := q) (rn := rn) (ri := ri) (ro := ro) HM.out HR.out HL.out HY.out HZ.out HB.out HO1.out HO2.out hyz hgz hyg HNB hVz)
          clear HM HR HL HY HZ HB HO1 HO2 HNB x0 x1 x2 s0 s1 s2 f0 f1 f2 m0 y0
          generalize ((wc.setCell ⟨g1, q * 3, none⟩ (.int .i64 rn)).setCell ⟨g1, q * 3 + 1, none⟩ (.bool ri)).setCell ⟨g1, q * 3 + 2, none⟩ (.bool ro) = V at HW ⊢
          obtain ⟨m0, m1⟩ := And.intro HW.out.mv.c0 HW.out.mv.c1
          obtain ⟨r0, r1, e0, e1⟩ := HW.out.rs
          obtain ⟨l0, l1⟩ := And.intro HW.out.ln.c0 HW.out.ln.c1
          have y0 := HW.out.nw.c0
          have y1 := HW.out.nw.c1
          have hw2 : w.heap.size ≤ w.heap.size + 1 + 1 := by omega
          by_cases ht1 : t = ⟨#[101]⟩
          · subst ht1
            go_wp2_with fail
            refine (l4At_any _ _ _ _ _ _ zs _ _ HW.out.tr hm).mono ?_
            rintro e w3 ⟨r, rfl, hr, hb3⟩
            have HW3 := Lib.hid (HW.out.below hb3)
            clear hb3 HW m0 m1 r0 r1 e0 e1 l0 l1 y0 y1
            obtain ⟨m0, m1⟩ := And.intro HW3.out.mv.c0 HW3.out.mv.c1
            obtain ⟨r0, r1, e0, e1⟩ := HW3.out.rs
            have y0 := HW3.out.nw.c0
            have y1 := HW3.out.nw.c1
            by_cases hr0 : r < 0
            · clear hr
              go_wp2_with fail
              refine bodyPost_ret (v := .tuple #[liv none 0 0 none 0 0, .bool false]) (by simp [results, Try.results52, go_sem, r0, r1]) rfl ?_
              exact ⟨_, _, rfl, LinR.zero _ _, (HW3.out.bw.setCell hw2 _).setCell hw2 _⟩
            · obtain ⟨k, rfl, hkm⟩ : ∃ k : Nat, r = k ∧ k < m := by
                rcases hr with h | h
                · omega
                · exact h
              clear hr hr0
              obtain ⟨z, z0, f2, hTy, hTR, HE⟩ := HW3.out.train hn hm hkm
              go_wp2_with fail
              refine bodyPost_ret (v := .tuple #[liv (some ⟨g1, 0, none⟩) n c1 (some ⟨T, 0, none⟩) m c2, .bool true]) (by simp [results, Try.results52, go_sem, r0, r1]) rfl ?_
              exact ⟨_, _, rfl, HE.out _⟩
          · by_cases ht2 : t = ⟨#[108]⟩
            · subst ht2
              go_wp2_with fail
              refine (l4At_any _ _ _ _ _ _ zs _ _ HW.out.tr hm).mono ?_
              rintro e w3 ⟨r, rfl, hr, hb3⟩
              have HW3 := Lib.hid (HW.out.below hb3)
              clear hb3 HW m0 m1 r0 r1 e0 e1 l0 l1 y0 y1
              obtain ⟨m0, m1⟩ := And.intro HW3.out.mv.c0 HW3.out.mv.c1
              obtain ⟨r0, r1, e0, e1⟩ := HW3.out.rs
              have y0 := HW3.out.nw.c0
              have y1 := HW3.out.nw.c1
              by_cases hr0 : r < 0
              · clear hr
                go_wp2_with fail
                refine bodyPost_ret (v := .tuple #[liv none 0 0 none 0 0, .bool false]) (by simp [results, Try.results52, go_sem, r0, r1]) rfl ?_
                exact ⟨_, _, rfl, LinR.zero _ _, (HW3.out.bw.setCell hw2 _).setCell hw2 _⟩
              · obtain ⟨k, rfl, hkm⟩ : ∃ k : Nat, r = k ∧ k < m := by
                  rcases hr with h | h
                  · omega
                  · exact h
                clear hr hr0
                obtain ⟨z, z0, f2, hTy, hTR, HE⟩ := HW3.out.train hn hm hkm
                go_wp2_with fail
                refine bodyPost_ret (v := .tuple #[liv (some ⟨g1, 0, none⟩) n c1 (some ⟨T, 0, none⟩) m c2, .bool true]) (by simp [results, Try.results52, go_sem, r0, r1]) rfl ?_
                exact ⟨_, _, rfl, HE.out _⟩
            · have d1 := str_neb ht1
              have d2 := str_neb ht2
              rw [show (⟨#[101]⟩ : ByteArray).toList = [101] from by rw [ByteArray.toList_eq]] at d1
              rw [show (⟨#[108]⟩ : ByteArray).toList = [108] from by rw [ByteArray.toList_eq]] at d2
              go_wp2_with fail
              refine bodyPost_ret (v := .tuple #[liv (some ⟨g1, 0, none⟩) n c1 (some ⟨T, 0, none⟩) m c2, .bool true]) (by simp [results, Try.results52, go_sem, r0, r1]) rfl ?_
              exact ⟨_, _, rfl, HW.out.line hn hm, HW.out.bwR⟩
  · have hS' : S < 0 ∨ (n : Int) - 1 < S := by omega
    clear hS
    go_enter Try.func52, Try.ntmps52
    go_wp2_with fail
    refine (l6In_no _ _ _ _ hS').mono ?_
    rintro e w1 ⟨rfl, rfl⟩
    go_wp2_with fail
    refine bodyPost_ret (v := .tuple #[liv none 0 0 none 0 0, .bool false]) (by simp [results, Try.results52, go_sem]) rfl ?_
    refine ⟨_, _, rfl, LinR.zero _ _, ?_⟩
    go_grown
end Go.Proofs.Ytmplanlppjebnaa
