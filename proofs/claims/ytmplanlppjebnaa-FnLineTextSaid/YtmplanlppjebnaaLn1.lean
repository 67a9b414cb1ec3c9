/-
  Words on slices of blocks (RdW, flat3); contracts of the laws' helpers eqBlock, eqBlockS.
  Conditions: the slices read as lists of blocks, of at most 2^20 elements.
-/
import Derived.Test.YtmplanlppjebnaaMv1
namespace Go.Proofs.Ytmplanlppjebnaa
open Go.RowKit
set_option linter.unusedVariables false
attribute [local go_sem ↓] Go.wp_at_zero Go.wp_at_succ

/-- A block. -/
abbrev B3 := Int × Bool × Bool
def enc3 (p : B3) : List Value := [.int .i64 p.1, .bool p.2.1, .bool p.2.2]
def flat3 (xs : List B3) : List Value := xs.flatMap enc3
abbrev bvv (n : Int) (i o : Bool) : Value := .agg #[.int .i64 n, .bool i, .bool o]
theorem flat3_cons (p : B3) (xs : List B3) : flat3 (p :: xs) = .int .i64 p.1 :: .bool p.2.1 :: .bool p.2.2 :: flat3 xs := rfl
theorem flat3_len : ∀ xs : List B3, (flat3 xs).length = xs.length * 3
  | [] => rfl
  | p :: xs => by rw [flat3_cons]; simp only [List.length_cons]; rw [flat3_len xs]; omega
theorem flat3_at : ∀ {xs : List B3} {k : Nat} {p : B3}, xs[k]? = some p → (flat3 xs)[k * 3]? = some (.int .i64 p.1) ∧ (flat3 xs)[k * 3 + 1]? = some (.bool p.2.1) ∧ (flat3 xs)[k * 3 + 2]? = some (.bool p.2.2)
  | [], k, p, h => by simp at h
  | q :: qs, 0, p, h => by simp at h; subst h; exact ⟨rfl, rfl, rfl⟩
  | q :: qs, k + 1, p, h => by
    simp at h
    have := flat3_at h
    rw [flat3_cons, show (k + 1) * 3 = k * 3 + 1 + 1 + 1 by omega]
    simpa using this
theorem flat3_set : ∀ {xs : List B3} {k : Nat} (p : B3), (((flat3 xs).set (k * 3) (.int .i64 p.1)).set (k * 3 + 1) (.bool p.2.1)).set (k * 3 + 2) (.bool p.2.2) = flat3 (xs.set k p)
  | [], k, p => by simp [flat3]
  | q :: qs, 0, p => rfl
  | q :: qs, k + 1, p => by
    have := flat3_set (xs := qs) (k := k) p
    rw [flat3_cons, List.set_cons_succ, flat3_cons, show (k + 1) * 3 = k * 3 + 1 + 1 + 1 by omega]
    simp only [List.set_cons_succ]
    rw [this]
theorem own_at3 {w : World} {base : Nat} {e : TypeId} {g n c k : Nat} {xs : List B3} (h : w.ownsRow base e 3 (.slice (some ⟨g, 0, none⟩) n c) n (flat3 xs)) {p : B3} (hp : xs[k]? = some p) :
    w.cell? ⟨g, k * 3, none⟩ = some (.int .i64 p.1) ∧ w.cell? ⟨g, k * 3 + 1, none⟩ = some (.bool p.2.1) ∧ w.cell? ⟨g, k * 3 + 2, none⟩ = some (.bool p.2.2) ∧ w.frozen? ⟨g, k * 3, none⟩ = false ∧ w.frozen? ⟨g, k * 3 + 1, none⟩ = false ∧ w.frozen? ⟨g, k * 3 + 2, none⟩ = false := by
  have hl : xs.length = n := by have := h.1; rw [flat3_len] at this; omega
  have hk : k < xs.length := (List.getElem?_eq_some_iff.1 hp).1
  obtain ⟨h0, h1, h2⟩ := flat3_at hp
  exact ⟨by rw [h.cellAt (k * 3) (by omega)]; exact h0, by rw [h.cellAt (k * 3 + 1) (by omega)]; exact h1, by rw [h.cellAt (k * 3 + 2) (by omega)]; exact h2, h.frozenAt _, h.frozenAt _, h.frozenAt _⟩
theorem Try.infoBlock : (Try.prog.info? 82).map (fun i => (i.zero, i.size, i.bytes)) = some (some (.agg #[.int .i64 0, .bool false, .bool false]), 3, 16) := by kernel_rfl
set_option maxHeartbeats 1000000 in
theorem eqBlock_same (n : Int) (i o : Bool) (w : World) :
    Calls Try.prog 50 #[bvv n i o, bvv n i o] w fun e w' => e = .returned (.bool true) ∧ Below w.heap.size w w' := by
  go_enter Try.func50, Try.ntmps50
  go_wp2_with fail
  go_ret
  refine ⟨rfl, ?_⟩
  go_grown
set_option maxHeartbeats 4000000 in
theorem eqBlockS_same (base base' g g' n c c' : Nat) (xs : List B3) (w : World) (hx : w.ownsRow base 82 3 (.slice (some ⟨g, 0, none⟩) n c) n (flat3 xs)) (hy : w.ownsRow base' 82 3 (.slice (some ⟨g', 0, none⟩) n c') n (flat3 xs)) (hn : n ≤ 1048576) :
    Calls Try.prog 38 #[.slice (some ⟨g, 0, none⟩) n c, .slice (some ⟨g', 0, none⟩) n c'] w fun e w' => e = .returned (.bool true) ∧ Below w.heap.size w w' := by
  have hxl : xs.length = n := by have := hx.1; rw [flat3_len] at this; omega
  have HXL := Lib.hid hxl
  have HX := Lib.hid hx
  have HY := Lib.hid hy
  clear hx hy hxl
  go_enter Try.func38, Try.ntmps38
  go_wp2_with fail
  go_loopw [5] (fun i wr => ∃ k : Nat, k ≤ n ∧ i = .int .i64 k ∧ Hid (Below w.heap.size w wr)) (fun i _ => n - (intOf i).toNat)
  case atStart => exact ⟨0, Nat.zero_le _, rfl, Below.refl _ _⟩
  case round =>
    obtain ⟨k, hk, rfl, Hb⟩ := hrel
    by_cases hlt : k < n
    · obtain ⟨p, hp⟩ : ∃ p, xs[k]? = some p := ⟨_, List.getElem?_eq_getElem (by have := HXL.out; omega)⟩
      obtain ⟨c0, c1, c2, _⟩ := own_at3 (own_belowAll HX.out Hb.out) hp
      obtain ⟨e0, e1, e2, _⟩ := own_at3 (own_belowAll HY.out Hb.out) hp
      have k0 : (0 : Int) ≤ k := by omega
      have k1 : (k : Int) < n := by omega
      clear hp
      go_wp2_with fail
      go_region_held3 (fun W => (W.cell? ⟨g, k * 3, none⟩ = some (.int .i64 p.1) ∧ W.cell? ⟨g, k * 3 + 1, none⟩ = some (.bool p.2.1) ∧ W.cell? ⟨g, k * 3 + 2, none⟩ = some (.bool p.2.2)) ∧ (W.cell? ⟨g', k * 3, none⟩ = some (.int .i64 p.1) ∧ W.cell? ⟨g', k * 3 + 1, none⟩ = some (.bool p.2.1) ∧ W.cell? ⟨g', k * 3 + 2, none⟩ = some (.bool p.2.2)))
        (first | exact ⟨⟨c0, c1, c2⟩, ⟨e0, e1, e2⟩⟩ | exact HS2)
        (first | (go_at_call 50; refine (eqBlock_same _ _ _ _).mono ?_; rintro e w2 ⟨rfl, hb2⟩; have HS2 : (w2.cell? ⟨g, k * 3, none⟩ = some (.int .i64 p.1) ∧ w2.cell? ⟨g, k * 3 + 1, none⟩ = some (.bool p.2.1) ∧ w2.cell? ⟨g, k * 3 + 2, none⟩ = some (.bool p.2.2)) ∧ (w2.cell? ⟨g', k * 3, none⟩ = some (.int .i64 p.1) ∧ w2.cell? ⟨g', k * 3 + 1, none⟩ = some (.bool p.2.1) ∧ w2.cell? ⟨g', k * 3 + 2, none⟩ = some (.bool p.2.2)) := ⟨⟨(hb2.cell (block_lt_of_cell c0)).trans c0, (hb2.cell (block_lt_of_cell c1)).trans c1, (hb2.cell (block_lt_of_cell c2)).trans c2⟩, ⟨(hb2.cell (block_lt_of_cell e0)).trans e0, (hb2.cell (block_lt_of_cell e1)).trans e1, (hb2.cell (block_lt_of_cell e2)).trans e2⟩⟩; have Hb2 : Hid (Below w.heap.size w w2) := below_seq (w1 := wr.drew) Hb.out.drew hb2; clear hb2))
      all_goals (try clear HS2 c0 c1 c2 e0 e1 e2)
      all_goals go_wp2_with fail
      all_goals go_roundw
      all_goals first
        | (simp [intOf]; omega)
        | exact ⟨k + 1, by omega, by go_num, Hb2⟩
    · go_wp2_with fail
      go_ret
      exact ⟨rfl, Hb.out⟩
end Go.Proofs.Ytmplanlppjebnaa
